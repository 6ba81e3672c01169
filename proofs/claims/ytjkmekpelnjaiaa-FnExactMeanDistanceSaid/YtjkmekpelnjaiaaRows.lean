/-
  No cell of these rows narrows 'for every input' (looked for: loops, veiled, ifaces, maps, wideKeys, modest, calm, conditions, laid).
  DERIVED. THE GIVEN ROWS OF THIS SEAT. 6 by the template 'for every input the law returns true; each argument reads behind the call as it read before'; 0 by the template 'total and deterministic' (their statements: YtjkmekpelnjaiaaTotals.lean).
  GIVEN WITH THE SEED: the statements are not yours to turn. If you find one false, say at which input.
  Laid BY PROGRAM, IN A SANDBOX (cutbox-rows.mjs): the forced cells as the released guide's own fill.sh prints them over the translation 5c36cecb8836ed4a… (all of the seat's roots in one cut). By AI agents, Wed Nov 11 2026. No macro, syntax, notation, axiom, sorry.
-/
import Derived.Test.YtjkmekpelnjaiaaChecked
import GoSem.Claim
import GoSem.ClaimJoined
import GoSem.ClaimMapViews
import Derived.JoinedTies
import Derived.KernelRfl
namespace Go.Proofs.Ytjkmekpelnjaiaa
/- THE CELL 'sum', in the pinned program and in every row, IS THE sha256 OF THE DUMP (.gsa) THAT YtjkmekpelnjaiaaProg.lean LOADS. Nothing in Lean hashes anything: it is a label: what it is worth is what the hold of that sum in a sandbox is worth. -/
noncomputable def Try.pinned : Pinned := { name := "ytjkmekpelnjaiaa", sum := "5c36cecb8836ed4a27e020f10e74434a18219e059d0c92fc5a35e5830f57a09d", checked := Try.checked }
namespace Rows
def none {H : Type} : Left H := { results := [], args := [] }

/-- 'laws.FnExactMeanDistance': WHATEVER THE INPUT: true; the input reads as it did. -/
def fnExactMeanDistanceSpec : ChangeSpec := { name := "fnExactMeanDistance", fn := fun _ => fun
  | [d1, d2] => { results := [.lit (.bool true)], args := [d1, d2] }
  | _ => none }
def fnExactMeanDistanceRow : OpenClaim := { program := "ytjkmekpelnjaiaa", sum := "5c36cecb8836ed4a27e020f10e74434a18219e059d0c92fc5a35e5830f57a09d", func := "loop.example/g01210/laws.FnExactMeanDistance", spec := "fnExactMeanDistance", unfollowed := true, recurses := true, apart := false }
def FnExactMeanDistanceSaid : Prop := fnExactMeanDistanceRow.holds Try.pinned (OpenSpec.ofChange fnExactMeanDistanceSpec)

/-- ITS FALSE NEIGHBOUR: 'it returns false'. Refute it at one input. -/
def fnExactMeanDistanceWrong : ChangeSpec := { name := "fnExactMeanDistance", fn := fun _ => fun
  | [d1, d2] => { results := [.lit (.bool false)], args := [d1, d2] }
  | _ => none }
def FnExactMeanDistanceWrongFalsely : Prop := fnExactMeanDistanceRow.holds Try.pinned (OpenSpec.ofChange fnExactMeanDistanceWrong)

/-- 'laws.FnExactMoreLikely': WHATEVER THE INPUT: true; the input reads as it did. -/
def fnExactMoreLikelySpec : ChangeSpec := { name := "fnExactMoreLikely", fn := fun _ => fun
  | [d1, d2, d3] => { results := [.lit (.bool true)], args := [d1, d2, d3] }
  | _ => none }
def fnExactMoreLikelyRow : OpenClaim := { program := "ytjkmekpelnjaiaa", sum := "5c36cecb8836ed4a27e020f10e74434a18219e059d0c92fc5a35e5830f57a09d", func := "loop.example/g01210/laws.FnExactMoreLikely", spec := "fnExactMoreLikely", unfollowed := true, recurses := true, apart := false }
def FnExactMoreLikelySaid : Prop := fnExactMoreLikelyRow.holds Try.pinned (OpenSpec.ofChange fnExactMoreLikelySpec)

/-- ITS FALSE NEIGHBOUR: 'it returns false'. Refute it at one input. -/
def fnExactMoreLikelyWrong : ChangeSpec := { name := "fnExactMoreLikely", fn := fun _ => fun
  | [d1, d2, d3] => { results := [.lit (.bool false)], args := [d1, d2, d3] }
  | _ => none }
def FnExactMoreLikelyWrongFalsely : Prop := fnExactMoreLikelyRow.holds Try.pinned (OpenSpec.ofChange fnExactMoreLikelyWrong)

/-- 'laws.FnExactIsValidRecord': WHATEVER THE INPUT: true; the input reads as it did. -/
def fnExactIsValidRecordSpec : ChangeSpec := { name := "fnExactIsValidRecord", fn := fun _ => fun
  | [d] => { results := [.lit (.bool true)], args := [d] }
  | _ => none }
def fnExactIsValidRecordRow : OpenClaim := { program := "ytjkmekpelnjaiaa", sum := "5c36cecb8836ed4a27e020f10e74434a18219e059d0c92fc5a35e5830f57a09d", func := "loop.example/g01210/laws.FnExactIsValidRecord", spec := "fnExactIsValidRecord", inPlace := ["internal/bytealg.IndexByteString", "internal/bytealg.IndexString"], unfollowed := true, recurses := true, named := ["internal/bytealg.MaxLen"], apart := false }
def FnExactIsValidRecordSaid : Prop := fnExactIsValidRecordRow.holds Try.pinned (OpenSpec.ofChange fnExactIsValidRecordSpec)

/-- ITS FALSE NEIGHBOUR: 'it returns false'. Refute it at one input. -/
def fnExactIsValidRecordWrong : ChangeSpec := { name := "fnExactIsValidRecord", fn := fun _ => fun
  | [d] => { results := [.lit (.bool false)], args := [d] }
  | _ => none }
def FnExactIsValidRecordWrongFalsely : Prop := fnExactIsValidRecordRow.holds Try.pinned (OpenSpec.ofChange fnExactIsValidRecordWrong)

/-- 'laws.FnExactCountRolls': WHATEVER THE INPUT: true; the input reads as it did. -/
def fnExactCountRollsSpec : ChangeSpec := { name := "fnExactCountRolls", fn := fun _ => fun
  | [d1, d2] => { results := [.lit (.bool true)], args := [d1, d2] }
  | _ => none }
def fnExactCountRollsRow : OpenClaim := { program := "ytjkmekpelnjaiaa", sum := "5c36cecb8836ed4a27e020f10e74434a18219e059d0c92fc5a35e5830f57a09d", func := "loop.example/g01210/laws.FnExactCountRolls", spec := "fnExactCountRolls", unfollowed := true, recurses := true, apart := false }
def FnExactCountRollsSaid : Prop := fnExactCountRollsRow.holds Try.pinned (OpenSpec.ofChange fnExactCountRollsSpec)

/-- ITS FALSE NEIGHBOUR: 'it returns false'. Refute it at one input. -/
def fnExactCountRollsWrong : ChangeSpec := { name := "fnExactCountRolls", fn := fun _ => fun
  | [d1, d2] => { results := [.lit (.bool false)], args := [d1, d2] }
  | _ => none }
def FnExactCountRollsWrongFalsely : Prop := fnExactCountRollsRow.holds Try.pinned (OpenSpec.ofChange fnExactCountRollsWrong)

/-- 'laws.FnExactCountVectors': WHATEVER THE INPUT: true; the input reads as it did. -/
def fnExactCountVectorsSpec : ChangeSpec := { name := "fnExactCountVectors", fn := fun _ => fun
  | [d1, d2] => { results := [.lit (.bool true)], args := [d1, d2] }
  | _ => none }
def fnExactCountVectorsRow : OpenClaim := { program := "ytjkmekpelnjaiaa", sum := "5c36cecb8836ed4a27e020f10e74434a18219e059d0c92fc5a35e5830f57a09d", func := "loop.example/g01210/laws.FnExactCountVectors", spec := "fnExactCountVectors", unfollowed := true, recurses := true, apart := false }
def FnExactCountVectorsSaid : Prop := fnExactCountVectorsRow.holds Try.pinned (OpenSpec.ofChange fnExactCountVectorsSpec)

/-- ITS FALSE NEIGHBOUR: 'it returns false'. Refute it at one input. -/
def fnExactCountVectorsWrong : ChangeSpec := { name := "fnExactCountVectors", fn := fun _ => fun
  | [d1, d2] => { results := [.lit (.bool false)], args := [d1, d2] }
  | _ => none }
def FnExactCountVectorsWrongFalsely : Prop := fnExactCountVectorsRow.holds Try.pinned (OpenSpec.ofChange fnExactCountVectorsWrong)

/-- 'laws.FnExactIsTavern': WHATEVER THE INPUT: true; the input reads as it did. -/
def fnExactIsTavernSpec : ChangeSpec := { name := "fnExactIsTavern", fn := fun _ => fun
  | [d] => { results := [.lit (.bool true)], args := [d] }
  | _ => none }
def fnExactIsTavernRow : OpenClaim := { program := "ytjkmekpelnjaiaa", sum := "5c36cecb8836ed4a27e020f10e74434a18219e059d0c92fc5a35e5830f57a09d", func := "loop.example/g01210/laws.FnExactIsTavern", spec := "fnExactIsTavern", unfollowed := true, recurses := true, apart := false }
def FnExactIsTavernSaid : Prop := fnExactIsTavernRow.holds Try.pinned (OpenSpec.ofChange fnExactIsTavernSpec)

/-- ITS FALSE NEIGHBOUR: 'it returns false'. Refute it at one input. -/
def fnExactIsTavernWrong : ChangeSpec := { name := "fnExactIsTavern", fn := fun _ => fun
  | [d] => { results := [.lit (.bool false)], args := [d] }
  | _ => none }
def FnExactIsTavernWrongFalsely : Prop := fnExactIsTavernRow.holds Try.pinned (OpenSpec.ofChange fnExactIsTavernWrong)

/- THE SECOND FORM. 'bulk': how many values and letters a reading holds, each counted each time it is reached (what is shared counts as often as it is met; a slice's spare places count too). A statement '..UptoSaid' is the law's where the arguments, and the package variables that the reading takes, are together of bulk at most 1048576: NARROWER than '..Said'. Prove '..Said' where nothing that the law and all that it calls make is longer than what came in: it says more and counts as full. Else prove '..UptoSaid'. A law counts once. -/
mutual
def uptoBulk {H : Type} : DataW H → Nat
  | .lit (.string bytes) => bytes.length + 1
  | .lit _ => 1
  | .nil => 1
  | .ptr d => uptoBulk d + 1
  | .slice elems spare => uptoBulkAll elems + uptoBulkAll spare + 1
  | .agg parts => uptoBulkAll parts + 1
  | .iface _ d => uptoBulk d + 1
  | .map entries => uptoBulkEntries entries + 1
  | .held _ => 1
def uptoBulkAll {H : Type} : List (DataW H) → Nat
  | [] => 0
  | d :: r => uptoBulk d + uptoBulkAll r
def uptoBulkEntries {H : Type} : List (Lit × DataW H) → Nat
  | [] => 0
  | x :: r => uptoBulkEntry x + uptoBulkEntries r
def uptoBulkEntry {H : Type} : Lit × DataW H → Nat
  | (.string bytes, d) => bytes.length + uptoBulk d + 1
  | (_, d) => uptoBulk d + 1
 end
def uptoSmall : (H : Type) → List (DataW H) → Bool := fun _ ds => decide (uptoBulkAll ds ≤ 1048576)
def OpenSpec.upto (s : _root_.Go.ChangeSpec) : _root_.Go.OpenSpec := { _root_.Go.OpenSpec.ofChange s with cond := some uptoSmall }

/-- 'laws.FnExactMeanDistance', WHERE WHAT IT READS IS OF BULK AT MOST 1048576: true; the input reads as it did. -/
def fnExactMeanDistanceUptoRow : OpenClaim := { program := "ytjkmekpelnjaiaa", sum := "5c36cecb8836ed4a27e020f10e74434a18219e059d0c92fc5a35e5830f57a09d", func := "loop.example/g01210/laws.FnExactMeanDistance", spec := "fnExactMeanDistance", unfollowed := true, recurses := true, apart := false, narrowed := true }
def FnExactMeanDistanceUptoSaid : Prop := fnExactMeanDistanceUptoRow.holds Try.pinned (OpenSpec.upto fnExactMeanDistanceSpec)

/-- 'laws.FnExactMoreLikely', WHERE WHAT IT READS IS OF BULK AT MOST 1048576: true; the input reads as it did. -/
def fnExactMoreLikelyUptoRow : OpenClaim := { program := "ytjkmekpelnjaiaa", sum := "5c36cecb8836ed4a27e020f10e74434a18219e059d0c92fc5a35e5830f57a09d", func := "loop.example/g01210/laws.FnExactMoreLikely", spec := "fnExactMoreLikely", unfollowed := true, recurses := true, apart := false, narrowed := true }
def FnExactMoreLikelyUptoSaid : Prop := fnExactMoreLikelyUptoRow.holds Try.pinned (OpenSpec.upto fnExactMoreLikelySpec)

/-- 'laws.FnExactIsValidRecord', WHERE WHAT IT READS IS OF BULK AT MOST 1048576: true; the input reads as it did. -/
def fnExactIsValidRecordUptoRow : OpenClaim := { program := "ytjkmekpelnjaiaa", sum := "5c36cecb8836ed4a27e020f10e74434a18219e059d0c92fc5a35e5830f57a09d", func := "loop.example/g01210/laws.FnExactIsValidRecord", spec := "fnExactIsValidRecord", inPlace := ["internal/bytealg.IndexByteString", "internal/bytealg.IndexString"], unfollowed := true, recurses := true, named := ["internal/bytealg.MaxLen"], apart := false, narrowed := true }
def FnExactIsValidRecordUptoSaid : Prop := fnExactIsValidRecordUptoRow.holds Try.pinned (OpenSpec.upto fnExactIsValidRecordSpec)

/-- 'laws.FnExactCountRolls', WHERE WHAT IT READS IS OF BULK AT MOST 1048576: true; the input reads as it did. -/
def fnExactCountRollsUptoRow : OpenClaim := { program := "ytjkmekpelnjaiaa", sum := "5c36cecb8836ed4a27e020f10e74434a18219e059d0c92fc5a35e5830f57a09d", func := "loop.example/g01210/laws.FnExactCountRolls", spec := "fnExactCountRolls", unfollowed := true, recurses := true, apart := false, narrowed := true }
def FnExactCountRollsUptoSaid : Prop := fnExactCountRollsUptoRow.holds Try.pinned (OpenSpec.upto fnExactCountRollsSpec)

/-- 'laws.FnExactCountVectors', WHERE WHAT IT READS IS OF BULK AT MOST 1048576: true; the input reads as it did. -/
def fnExactCountVectorsUptoRow : OpenClaim := { program := "ytjkmekpelnjaiaa", sum := "5c36cecb8836ed4a27e020f10e74434a18219e059d0c92fc5a35e5830f57a09d", func := "loop.example/g01210/laws.FnExactCountVectors", spec := "fnExactCountVectors", unfollowed := true, recurses := true, apart := false, narrowed := true }
def FnExactCountVectorsUptoSaid : Prop := fnExactCountVectorsUptoRow.holds Try.pinned (OpenSpec.upto fnExactCountVectorsSpec)

/-- 'laws.FnExactIsTavern', WHERE WHAT IT READS IS OF BULK AT MOST 1048576: true; the input reads as it did. -/
def fnExactIsTavernUptoRow : OpenClaim := { program := "ytjkmekpelnjaiaa", sum := "5c36cecb8836ed4a27e020f10e74434a18219e059d0c92fc5a35e5830f57a09d", func := "loop.example/g01210/laws.FnExactIsTavern", spec := "fnExactIsTavern", unfollowed := true, recurses := true, apart := false, narrowed := true }
def FnExactIsTavernUptoSaid : Prop := fnExactIsTavernUptoRow.holds Try.pinned (OpenSpec.upto fnExactIsTavernSpec)

end Rows
end Go.Proofs.Ytjkmekpelnjaiaa
