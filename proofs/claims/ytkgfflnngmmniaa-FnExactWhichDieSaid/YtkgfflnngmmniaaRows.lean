/-
  No cell of these rows narrows 'for every input' (looked for: loops, veiled, ifaces, maps, wideKeys, modest, calm, conditions, laid).
  DERIVED. THE GIVEN ROWS OF THIS SEAT. 10 by the template 'for every input the law returns true; each argument reads behind the call as it read before'; 0 by the template 'total and deterministic' (their statements: YtkgfflnngmmniaaTotals.lean).
  GIVEN WITH THE SEED: the statements are not yours to turn. If you find one false, say at which input.
  Laid BY PROGRAM, IN A SANDBOX (cutbox-rows.mjs): the forced cells as the released guide's own fill.sh prints them over the translation 60c3b112b03644e2… (all of the seat's roots in one cut). By AI agents, Wed Nov 11 2026. No macro, syntax, notation, axiom, sorry.
-/
import Derived.Test.YtkgfflnngmmniaaChecked
import GoSem.Claim
import GoSem.ClaimJoined
import GoSem.ClaimMapViews
import Derived.JoinedTies
import Derived.KernelRfl
namespace Go.Proofs.Ytkgfflnngmmniaa
/- THE CELL 'sum', in the pinned program and in every row, IS THE sha256 OF THE DUMP (.gsa) THAT YtkgfflnngmmniaaProg.lean LOADS. Nothing in Lean hashes anything: it is a label: what it is worth is what the hold of that sum in a sandbox is worth. -/
noncomputable def Try.pinned : Pinned := { name := "ytkgfflnngmmniaa", sum := "60c3b112b03644e254c14aada495dd11f5eb6e3f88eef71cd0d607d013f08d38", checked := Try.checked }
namespace Rows
def none {H : Type} : Left H := { results := [], args := [] }

/-- 'laws.FnExactCountRolls': WHATEVER THE INPUT: true; the input reads as it did. -/
def fnExactCountRollsSpec : ChangeSpec := { name := "fnExactCountRolls", fn := fun _ => fun
  | [d1, d2] => { results := [.lit (.bool true)], args := [d1, d2] }
  | _ => none }
def fnExactCountRollsRow : OpenClaim := { program := "ytkgfflnngmmniaa", sum := "60c3b112b03644e254c14aada495dd11f5eb6e3f88eef71cd0d607d013f08d38", func := "loop.example/g01210/laws.FnExactCountRolls", spec := "fnExactCountRolls", unfollowed := true, recurses := true, apart := false }
def FnExactCountRollsSaid : Prop := fnExactCountRollsRow.holds Try.pinned (OpenSpec.ofChange fnExactCountRollsSpec)

/-- ITS FALSE NEIGHBOUR: 'it returns false'. Refute it at one input. -/
def fnExactCountRollsWrong : ChangeSpec := { name := "fnExactCountRolls", fn := fun _ => fun
  | [d1, d2] => { results := [.lit (.bool false)], args := [d1, d2] }
  | _ => none }
def FnExactCountRollsWrongFalsely : Prop := fnExactCountRollsRow.holds Try.pinned (OpenSpec.ofChange fnExactCountRollsWrong)

/-- 'laws.FnExactCountVectors': WHATEVER THE INPUT: true; the input reads as it did. -/
def fnExactCountVectorsSpec : ChangeSpec := { name := "fnExactCountVectors", fn := fun _ => fun
  | [d1, d2] => { results := [.lit (.bool true)], args := [d1, d2] }
  | _ => none }
def fnExactCountVectorsRow : OpenClaim := { program := "ytkgfflnngmmniaa", sum := "60c3b112b03644e254c14aada495dd11f5eb6e3f88eef71cd0d607d013f08d38", func := "loop.example/g01210/laws.FnExactCountVectors", spec := "fnExactCountVectors", unfollowed := true, recurses := true, apart := false }
def FnExactCountVectorsSaid : Prop := fnExactCountVectorsRow.holds Try.pinned (OpenSpec.ofChange fnExactCountVectorsSpec)

/-- ITS FALSE NEIGHBOUR: 'it returns false'. Refute it at one input. -/
def fnExactCountVectorsWrong : ChangeSpec := { name := "fnExactCountVectors", fn := fun _ => fun
  | [d1, d2] => { results := [.lit (.bool false)], args := [d1, d2] }
  | _ => none }
def FnExactCountVectorsWrongFalsely : Prop := fnExactCountVectorsRow.holds Try.pinned (OpenSpec.ofChange fnExactCountVectorsWrong)

/-- 'laws.FnExactDistanceOf': WHATEVER THE INPUT: true; the input reads as it did. -/
def fnExactDistanceOfSpec : ChangeSpec := { name := "fnExactDistanceOf", fn := fun _ => fun
  | [d1, d2] => { results := [.lit (.bool true)], args := [d1, d2] }
  | _ => none }
def fnExactDistanceOfRow : OpenClaim := { program := "ytkgfflnngmmniaa", sum := "60c3b112b03644e254c14aada495dd11f5eb6e3f88eef71cd0d607d013f08d38", func := "loop.example/g01210/laws.FnExactDistanceOf", spec := "fnExactDistanceOf", unfollowed := true, recurses := true, apart := false }
def FnExactDistanceOfSaid : Prop := fnExactDistanceOfRow.holds Try.pinned (OpenSpec.ofChange fnExactDistanceOfSpec)

/-- ITS FALSE NEIGHBOUR: 'it returns false'. Refute it at one input. -/
def fnExactDistanceOfWrong : ChangeSpec := { name := "fnExactDistanceOf", fn := fun _ => fun
  | [d1, d2] => { results := [.lit (.bool false)], args := [d1, d2] }
  | _ => none }
def FnExactDistanceOfWrongFalsely : Prop := fnExactDistanceOfRow.holds Try.pinned (OpenSpec.ofChange fnExactDistanceOfWrong)

/-- 'laws.FnExactFirstMode': WHATEVER THE INPUT: true; the input reads as it did. -/
def fnExactFirstModeSpec : ChangeSpec := { name := "fnExactFirstMode", fn := fun _ => fun
  | [d1, d2] => { results := [.lit (.bool true)], args := [d1, d2] }
  | _ => none }
def fnExactFirstModeRow : OpenClaim := { program := "ytkgfflnngmmniaa", sum := "60c3b112b03644e254c14aada495dd11f5eb6e3f88eef71cd0d607d013f08d38", func := "loop.example/g01210/laws.FnExactFirstMode", spec := "fnExactFirstMode", unfollowed := true, recurses := true, apart := false }
def FnExactFirstModeSaid : Prop := fnExactFirstModeRow.holds Try.pinned (OpenSpec.ofChange fnExactFirstModeSpec)

/-- ITS FALSE NEIGHBOUR: 'it returns false'. Refute it at one input. -/
def fnExactFirstModeWrong : ChangeSpec := { name := "fnExactFirstMode", fn := fun _ => fun
  | [d1, d2] => { results := [.lit (.bool false)], args := [d1, d2] }
  | _ => none }
def FnExactFirstModeWrongFalsely : Prop := fnExactFirstModeRow.holds Try.pinned (OpenSpec.ofChange fnExactFirstModeWrong)

/-- 'laws.FnExactLikelihoodOf': WHATEVER THE INPUT: true; the input reads as it did. -/
def fnExactLikelihoodOfSpec : ChangeSpec := { name := "fnExactLikelihoodOf", fn := fun _ => fun
  | [d1, d2] => { results := [.lit (.bool true)], args := [d1, d2] }
  | _ => none }
def fnExactLikelihoodOfRow : OpenClaim := { program := "ytkgfflnngmmniaa", sum := "60c3b112b03644e254c14aada495dd11f5eb6e3f88eef71cd0d607d013f08d38", func := "loop.example/g01210/laws.FnExactLikelihoodOf", spec := "fnExactLikelihoodOf", unfollowed := true, recurses := true, apart := false }
def FnExactLikelihoodOfSaid : Prop := fnExactLikelihoodOfRow.holds Try.pinned (OpenSpec.ofChange fnExactLikelihoodOfSpec)

/-- ITS FALSE NEIGHBOUR: 'it returns false'. Refute it at one input. -/
def fnExactLikelihoodOfWrong : ChangeSpec := { name := "fnExactLikelihoodOf", fn := fun _ => fun
  | [d1, d2] => { results := [.lit (.bool false)], args := [d1, d2] }
  | _ => none }
def FnExactLikelihoodOfWrongFalsely : Prop := fnExactLikelihoodOfRow.holds Try.pinned (OpenSpec.ofChange fnExactLikelihoodOfWrong)

/-- 'laws.FnExactWhichDie': WHATEVER THE INPUT: true; the input reads as it did. -/
def fnExactWhichDieSpec : ChangeSpec := { name := "fnExactWhichDie", fn := fun _ => fun
  | [d1, d2, d3] => { results := [.lit (.bool true)], args := [d1, d2, d3] }
  | _ => none }
def fnExactWhichDieRow : OpenClaim := { program := "ytkgfflnngmmniaa", sum := "60c3b112b03644e254c14aada495dd11f5eb6e3f88eef71cd0d607d013f08d38", func := "loop.example/g01210/laws.FnExactWhichDie", spec := "fnExactWhichDie", unfollowed := true, recurses := true, apart := false }
def FnExactWhichDieSaid : Prop := fnExactWhichDieRow.holds Try.pinned (OpenSpec.ofChange fnExactWhichDieSpec)

/-- ITS FALSE NEIGHBOUR: 'it returns false'. Refute it at one input. -/
def fnExactWhichDieWrong : ChangeSpec := { name := "fnExactWhichDie", fn := fun _ => fun
  | [d1, d2, d3] => { results := [.lit (.bool false)], args := [d1, d2, d3] }
  | _ => none }
def FnExactWhichDieWrongFalsely : Prop := fnExactWhichDieRow.holds Try.pinned (OpenSpec.ofChange fnExactWhichDieWrong)

/-- 'laws.FnExactChanceOfCounts': WHATEVER THE INPUT: true; the input reads as it did. -/
def fnExactChanceOfCountsSpec : ChangeSpec := { name := "fnExactChanceOfCounts", fn := fun _ => fun
  | [d1, d2] => { results := [.lit (.bool true)], args := [d1, d2] }
  | _ => none }
def fnExactChanceOfCountsRow : OpenClaim := { program := "ytkgfflnngmmniaa", sum := "60c3b112b03644e254c14aada495dd11f5eb6e3f88eef71cd0d607d013f08d38", func := "loop.example/g01210/laws.FnExactChanceOfCounts", spec := "fnExactChanceOfCounts", unfollowed := true, recurses := true, apart := false }
def FnExactChanceOfCountsSaid : Prop := fnExactChanceOfCountsRow.holds Try.pinned (OpenSpec.ofChange fnExactChanceOfCountsSpec)

/-- ITS FALSE NEIGHBOUR: 'it returns false'. Refute it at one input. -/
def fnExactChanceOfCountsWrong : ChangeSpec := { name := "fnExactChanceOfCounts", fn := fun _ => fun
  | [d1, d2] => { results := [.lit (.bool false)], args := [d1, d2] }
  | _ => none }
def FnExactChanceOfCountsWrongFalsely : Prop := fnExactChanceOfCountsRow.holds Try.pinned (OpenSpec.ofChange fnExactChanceOfCountsWrong)

/-- 'laws.FnExactChanceMissing': WHATEVER THE INPUT: true; the input reads as it did. -/
def fnExactChanceMissingSpec : ChangeSpec := { name := "fnExactChanceMissing", fn := fun _ => fun
  | [d1, d2, d3] => { results := [.lit (.bool true)], args := [d1, d2, d3] }
  | _ => none }
def fnExactChanceMissingRow : OpenClaim := { program := "ytkgfflnngmmniaa", sum := "60c3b112b03644e254c14aada495dd11f5eb6e3f88eef71cd0d607d013f08d38", func := "loop.example/g01210/laws.FnExactChanceMissing", spec := "fnExactChanceMissing", unfollowed := true, recurses := true, apart := false }
def FnExactChanceMissingSaid : Prop := fnExactChanceMissingRow.holds Try.pinned (OpenSpec.ofChange fnExactChanceMissingSpec)

/-- ITS FALSE NEIGHBOUR: 'it returns false'. Refute it at one input. -/
def fnExactChanceMissingWrong : ChangeSpec := { name := "fnExactChanceMissing", fn := fun _ => fun
  | [d1, d2, d3] => { results := [.lit (.bool false)], args := [d1, d2, d3] }
  | _ => none }
def FnExactChanceMissingWrongFalsely : Prop := fnExactChanceMissingRow.holds Try.pinned (OpenSpec.ofChange fnExactChanceMissingWrong)

/-- 'laws.FnExactChanceAsRare': WHATEVER THE INPUT: true; the input reads as it did. -/
def fnExactChanceAsRareSpec : ChangeSpec := { name := "fnExactChanceAsRare", fn := fun _ => fun
  | [d1, d2] => { results := [.lit (.bool true)], args := [d1, d2] }
  | _ => none }
def fnExactChanceAsRareRow : OpenClaim := { program := "ytkgfflnngmmniaa", sum := "60c3b112b03644e254c14aada495dd11f5eb6e3f88eef71cd0d607d013f08d38", func := "loop.example/g01210/laws.FnExactChanceAsRare", spec := "fnExactChanceAsRare", unfollowed := true, recurses := true, apart := false }
def FnExactChanceAsRareSaid : Prop := fnExactChanceAsRareRow.holds Try.pinned (OpenSpec.ofChange fnExactChanceAsRareSpec)

/-- ITS FALSE NEIGHBOUR: 'it returns false'. Refute it at one input. -/
def fnExactChanceAsRareWrong : ChangeSpec := { name := "fnExactChanceAsRare", fn := fun _ => fun
  | [d1, d2] => { results := [.lit (.bool false)], args := [d1, d2] }
  | _ => none }
def FnExactChanceAsRareWrongFalsely : Prop := fnExactChanceAsRareRow.holds Try.pinned (OpenSpec.ofChange fnExactChanceAsRareWrong)

/-- 'laws.FnExactChanceAsFar': WHATEVER THE INPUT: true; the input reads as it did. -/
def fnExactChanceAsFarSpec : ChangeSpec := { name := "fnExactChanceAsFar", fn := fun _ => fun
  | [d1, d2] => { results := [.lit (.bool true)], args := [d1, d2] }
  | _ => none }
def fnExactChanceAsFarRow : OpenClaim := { program := "ytkgfflnngmmniaa", sum := "60c3b112b03644e254c14aada495dd11f5eb6e3f88eef71cd0d607d013f08d38", func := "loop.example/g01210/laws.FnExactChanceAsFar", spec := "fnExactChanceAsFar", unfollowed := true, recurses := true, apart := false }
def FnExactChanceAsFarSaid : Prop := fnExactChanceAsFarRow.holds Try.pinned (OpenSpec.ofChange fnExactChanceAsFarSpec)

/-- ITS FALSE NEIGHBOUR: 'it returns false'. Refute it at one input. -/
def fnExactChanceAsFarWrong : ChangeSpec := { name := "fnExactChanceAsFar", fn := fun _ => fun
  | [d1, d2] => { results := [.lit (.bool false)], args := [d1, d2] }
  | _ => none }
def FnExactChanceAsFarWrongFalsely : Prop := fnExactChanceAsFarRow.holds Try.pinned (OpenSpec.ofChange fnExactChanceAsFarWrong)

/- THE SECOND FORM. 'bulk': how many values and letters a reading holds, each counted each time it is reached (what is shared counts as often as it is met; a slice's spare places count too). A statement '..UptoSaid' is the law's where the arguments, and the package variables that the reading takes, are together of bulk at most 1048576: NARROWER than '..Said'. Prove '..Said' where nothing that the law and all that it calls make is longer than what came in: it says more and counts as full. Else prove '..UptoSaid'. A law counts once. -/
mutual
def uptoBulk {H : Type} : DataW H → Nat
  | .lit (.string bytes) => bytes.length + 1
  | .lit _ => 1
  | .nil => 1
  | .ptr d => uptoBulk d + 1
  | .slice elems spare => uptoBulkAll elems + uptoBulkAll spare + 1
  | .agg parts => uptoBulkAll parts + 1
  | .iface _ d => uptoBulk d + 1
  | .map entries => uptoBulkEntries entries + 1
  | .held _ => 1
def uptoBulkAll {H : Type} : List (DataW H) → Nat
  | [] => 0
  | d :: r => uptoBulk d + uptoBulkAll r
def uptoBulkEntries {H : Type} : List (Lit × DataW H) → Nat
  | [] => 0
  | x :: r => uptoBulkEntry x + uptoBulkEntries r
def uptoBulkEntry {H : Type} : Lit × DataW H → Nat
  | (.string bytes, d) => bytes.length + uptoBulk d + 1
  | (_, d) => uptoBulk d + 1
 end
def uptoSmall : (H : Type) → List (DataW H) → Bool := fun _ ds => decide (uptoBulkAll ds ≤ 1048576)
def OpenSpec.upto (s : _root_.Go.ChangeSpec) : _root_.Go.OpenSpec := { _root_.Go.OpenSpec.ofChange s with cond := some uptoSmall }

/-- 'laws.FnExactCountRolls', WHERE WHAT IT READS IS OF BULK AT MOST 1048576: true; the input reads as it did. -/
def fnExactCountRollsUptoRow : OpenClaim := { program := "ytkgfflnngmmniaa", sum := "60c3b112b03644e254c14aada495dd11f5eb6e3f88eef71cd0d607d013f08d38", func := "loop.example/g01210/laws.FnExactCountRolls", spec := "fnExactCountRolls", unfollowed := true, recurses := true, apart := false, narrowed := true }
def FnExactCountRollsUptoSaid : Prop := fnExactCountRollsUptoRow.holds Try.pinned (OpenSpec.upto fnExactCountRollsSpec)

/-- 'laws.FnExactCountVectors', WHERE WHAT IT READS IS OF BULK AT MOST 1048576: true; the input reads as it did. -/
def fnExactCountVectorsUptoRow : OpenClaim := { program := "ytkgfflnngmmniaa", sum := "60c3b112b03644e254c14aada495dd11f5eb6e3f88eef71cd0d607d013f08d38", func := "loop.example/g01210/laws.FnExactCountVectors", spec := "fnExactCountVectors", unfollowed := true, recurses := true, apart := false, narrowed := true }
def FnExactCountVectorsUptoSaid : Prop := fnExactCountVectorsUptoRow.holds Try.pinned (OpenSpec.upto fnExactCountVectorsSpec)

/-- 'laws.FnExactDistanceOf', WHERE WHAT IT READS IS OF BULK AT MOST 1048576: true; the input reads as it did. -/
def fnExactDistanceOfUptoRow : OpenClaim := { program := "ytkgfflnngmmniaa", sum := "60c3b112b03644e254c14aada495dd11f5eb6e3f88eef71cd0d607d013f08d38", func := "loop.example/g01210/laws.FnExactDistanceOf", spec := "fnExactDistanceOf", unfollowed := true, recurses := true, apart := false, narrowed := true }
def FnExactDistanceOfUptoSaid : Prop := fnExactDistanceOfUptoRow.holds Try.pinned (OpenSpec.upto fnExactDistanceOfSpec)

/-- 'laws.FnExactFirstMode', WHERE WHAT IT READS IS OF BULK AT MOST 1048576: true; the input reads as it did. -/
def fnExactFirstModeUptoRow : OpenClaim := { program := "ytkgfflnngmmniaa", sum := "60c3b112b03644e254c14aada495dd11f5eb6e3f88eef71cd0d607d013f08d38", func := "loop.example/g01210/laws.FnExactFirstMode", spec := "fnExactFirstMode", unfollowed := true, recurses := true, apart := false, narrowed := true }
def FnExactFirstModeUptoSaid : Prop := fnExactFirstModeUptoRow.holds Try.pinned (OpenSpec.upto fnExactFirstModeSpec)

/-- 'laws.FnExactLikelihoodOf', WHERE WHAT IT READS IS OF BULK AT MOST 1048576: true; the input reads as it did. -/
def fnExactLikelihoodOfUptoRow : OpenClaim := { program := "ytkgfflnngmmniaa", sum := "60c3b112b03644e254c14aada495dd11f5eb6e3f88eef71cd0d607d013f08d38", func := "loop.example/g01210/laws.FnExactLikelihoodOf", spec := "fnExactLikelihoodOf", unfollowed := true, recurses := true, apart := false, narrowed := true }
def FnExactLikelihoodOfUptoSaid : Prop := fnExactLikelihoodOfUptoRow.holds Try.pinned (OpenSpec.upto fnExactLikelihoodOfSpec)

/-- 'laws.FnExactWhichDie', WHERE WHAT IT READS IS OF BULK AT MOST 1048576: true; the input reads as it did. -/
def fnExactWhichDieUptoRow : OpenClaim := { program := "ytkgfflnngmmniaa", sum := "60c3b112b03644e254c14aada495dd11f5eb6e3f88eef71cd0d607d013f08d38", func := "loop.example/g01210/laws.FnExactWhichDie", spec := "fnExactWhichDie", unfollowed := true, recurses := true, apart := false, narrowed := true }
def FnExactWhichDieUptoSaid : Prop := fnExactWhichDieUptoRow.holds Try.pinned (OpenSpec.upto fnExactWhichDieSpec)

/-- 'laws.FnExactChanceOfCounts', WHERE WHAT IT READS IS OF BULK AT MOST 1048576: true; the input reads as it did. -/
def fnExactChanceOfCountsUptoRow : OpenClaim := { program := "ytkgfflnngmmniaa", sum := "60c3b112b03644e254c14aada495dd11f5eb6e3f88eef71cd0d607d013f08d38", func := "loop.example/g01210/laws.FnExactChanceOfCounts", spec := "fnExactChanceOfCounts", unfollowed := true, recurses := true, apart := false, narrowed := true }
def FnExactChanceOfCountsUptoSaid : Prop := fnExactChanceOfCountsUptoRow.holds Try.pinned (OpenSpec.upto fnExactChanceOfCountsSpec)

/-- 'laws.FnExactChanceMissing', WHERE WHAT IT READS IS OF BULK AT MOST 1048576: true; the input reads as it did. -/
def fnExactChanceMissingUptoRow : OpenClaim := { program := "ytkgfflnngmmniaa", sum := "60c3b112b03644e254c14aada495dd11f5eb6e3f88eef71cd0d607d013f08d38", func := "loop.example/g01210/laws.FnExactChanceMissing", spec := "fnExactChanceMissing", unfollowed := true, recurses := true, apart := false, narrowed := true }
def FnExactChanceMissingUptoSaid : Prop := fnExactChanceMissingUptoRow.holds Try.pinned (OpenSpec.upto fnExactChanceMissingSpec)

/-- 'laws.FnExactChanceAsRare', WHERE WHAT IT READS IS OF BULK AT MOST 1048576: true; the input reads as it did. -/
def fnExactChanceAsRareUptoRow : OpenClaim := { program := "ytkgfflnngmmniaa", sum := "60c3b112b03644e254c14aada495dd11f5eb6e3f88eef71cd0d607d013f08d38", func := "loop.example/g01210/laws.FnExactChanceAsRare", spec := "fnExactChanceAsRare", unfollowed := true, recurses := true, apart := false, narrowed := true }
def FnExactChanceAsRareUptoSaid : Prop := fnExactChanceAsRareUptoRow.holds Try.pinned (OpenSpec.upto fnExactChanceAsRareSpec)

/-- 'laws.FnExactChanceAsFar', WHERE WHAT IT READS IS OF BULK AT MOST 1048576: true; the input reads as it did. -/
def fnExactChanceAsFarUptoRow : OpenClaim := { program := "ytkgfflnngmmniaa", sum := "60c3b112b03644e254c14aada495dd11f5eb6e3f88eef71cd0d607d013f08d38", func := "loop.example/g01210/laws.FnExactChanceAsFar", spec := "fnExactChanceAsFar", unfollowed := true, recurses := true, apart := false, narrowed := true }
def FnExactChanceAsFarUptoSaid : Prop := fnExactChanceAsFarUptoRow.holds Try.pinned (OpenSpec.upto fnExactChanceAsFarSpec)

end Rows
end Go.Proofs.Ytkgfflnngmmniaa
