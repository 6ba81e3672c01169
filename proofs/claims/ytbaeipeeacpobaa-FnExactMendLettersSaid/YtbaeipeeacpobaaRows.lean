/-
  No cell of these rows narrows 'for every input' (looked for: loops, veiled, ifaces, maps, wideKeys, modest, calm, conditions, laid).
  DERIVED. THE GIVEN ROWS OF THIS SEAT. 6 by the template 'for every input the law returns true; each argument reads behind the call as it read before'; 0 by the template 'total and deterministic' (their statements: YtbaeipeeacpobaaTotals.lean).
  GIVEN WITH THE SEED: the statements are not yours to turn. If you find one false, say at which input.
  Laid BY PROGRAM, IN A SANDBOX (cutbox-rows.mjs): the forced cells as the released guide's own fill.sh prints them over the translation 77421a28eb4e1cfe… (all of the seat's roots in one cut). By AI agents, Wed Nov 11 2026. No macro, syntax, notation, axiom, sorry.
-/
import Derived.Test.YtbaeipeeacpobaaChecked
import GoSem.Claim
import GoSem.ClaimJoined
import GoSem.ClaimMapViews
import Derived.JoinedTies
import Derived.KernelRfl
namespace Go.Proofs.Ytbaeipeeacpobaa
/- THE CELL 'sum', in the pinned program and in every row, IS THE sha256 OF THE DUMP (.gsa) THAT YtbaeipeeacpobaaProg.lean LOADS. Nothing in Lean hashes anything: it is a label: what it is worth is what the hold of that sum in a sandbox is worth. -/
noncomputable def Try.pinned : Pinned := { name := "ytbaeipeeacpobaa", sum := "77421a28eb4e1cfe75ba781332340cbc2ecc7ab351b2f17cdebde7d1af72df0c", checked := Try.checked }
namespace Rows
def none {H : Type} : Left H := { results := [], args := [] }

/-- 'laws.FnExactWaysAt': WHATEVER THE INPUT: true; the input reads as it did. -/
def fnExactWaysAtSpec : ChangeSpec := { name := "fnExactWaysAt", fn := fun _ => fun
  | [d1, d2, d3] => { results := [.lit (.bool true)], args := [d1, d2, d3] }
  | _ => none }
def fnExactWaysAtRow : OpenClaim := { program := "ytbaeipeeacpobaa", sum := "77421a28eb4e1cfe75ba781332340cbc2ecc7ab351b2f17cdebde7d1af72df0c", func := "loop.example/g01210/laws.FnExactWaysAt", spec := "fnExactWaysAt", unfollowed := true, recurses := true, apart := false }
def FnExactWaysAtSaid : Prop := fnExactWaysAtRow.holds Try.pinned (OpenSpec.ofChange fnExactWaysAtSpec)

/-- ITS FALSE NEIGHBOUR: 'it returns false'. Refute it at one input. -/
def fnExactWaysAtWrong : ChangeSpec := { name := "fnExactWaysAt", fn := fun _ => fun
  | [d1, d2, d3] => { results := [.lit (.bool false)], args := [d1, d2, d3] }
  | _ => none }
def FnExactWaysAtWrongFalsely : Prop := fnExactWaysAtRow.holds Try.pinned (OpenSpec.ofChange fnExactWaysAtWrong)

/-- 'laws.FnExactOrderWays': WHATEVER THE INPUT: true; the input reads as it did. -/
def fnExactOrderWaysSpec : ChangeSpec := { name := "fnExactOrderWays", fn := fun _ => fun
  | [d] => { results := [.lit (.bool true)], args := [d] }
  | _ => none }
def fnExactOrderWaysRow : OpenClaim := { program := "ytbaeipeeacpobaa", sum := "77421a28eb4e1cfe75ba781332340cbc2ecc7ab351b2f17cdebde7d1af72df0c", func := "loop.example/g01210/laws.FnExactOrderWays", spec := "fnExactOrderWays", unfollowed := true, recurses := true, apart := false }
def FnExactOrderWaysSaid : Prop := fnExactOrderWaysRow.holds Try.pinned (OpenSpec.ofChange fnExactOrderWaysSpec)

/-- ITS FALSE NEIGHBOUR: 'it returns false'. Refute it at one input. -/
def fnExactOrderWaysWrong : ChangeSpec := { name := "fnExactOrderWays", fn := fun _ => fun
  | [d] => { results := [.lit (.bool false)], args := [d] }
  | _ => none }
def FnExactOrderWaysWrongFalsely : Prop := fnExactOrderWaysRow.holds Try.pinned (OpenSpec.ofChange fnExactOrderWaysWrong)

/-- 'laws.FnExactIsOrderFair': WHATEVER THE INPUT: true; the input reads as it did. -/
def fnExactIsOrderFairSpec : ChangeSpec := { name := "fnExactIsOrderFair", fn := fun _ => fun
  | [d] => { results := [.lit (.bool true)], args := [d] }
  | _ => none }
def fnExactIsOrderFairRow : OpenClaim := { program := "ytbaeipeeacpobaa", sum := "77421a28eb4e1cfe75ba781332340cbc2ecc7ab351b2f17cdebde7d1af72df0c", func := "loop.example/g01210/laws.FnExactIsOrderFair", spec := "fnExactIsOrderFair", unfollowed := true, recurses := true, apart := false }
def FnExactIsOrderFairSaid : Prop := fnExactIsOrderFairRow.holds Try.pinned (OpenSpec.ofChange fnExactIsOrderFairSpec)

/-- ITS FALSE NEIGHBOUR: 'it returns false'. Refute it at one input. -/
def fnExactIsOrderFairWrong : ChangeSpec := { name := "fnExactIsOrderFair", fn := fun _ => fun
  | [d] => { results := [.lit (.bool false)], args := [d] }
  | _ => none }
def FnExactIsOrderFairWrongFalsely : Prop := fnExactIsOrderFairRow.holds Try.pinned (OpenSpec.ofChange fnExactIsOrderFairWrong)

/-- 'laws.FnExactIsFirstFair': WHATEVER THE INPUT: true; the input reads as it did. -/
def fnExactIsFirstFairSpec : ChangeSpec := { name := "fnExactIsFirstFair", fn := fun _ => fun
  | [d] => { results := [.lit (.bool true)], args := [d] }
  | _ => none }
def fnExactIsFirstFairRow : OpenClaim := { program := "ytbaeipeeacpobaa", sum := "77421a28eb4e1cfe75ba781332340cbc2ecc7ab351b2f17cdebde7d1af72df0c", func := "loop.example/g01210/laws.FnExactIsFirstFair", spec := "fnExactIsFirstFair", unfollowed := true, recurses := true, apart := false }
def FnExactIsFirstFairSaid : Prop := fnExactIsFirstFairRow.holds Try.pinned (OpenSpec.ofChange fnExactIsFirstFairSpec)

/-- ITS FALSE NEIGHBOUR: 'it returns false'. Refute it at one input. -/
def fnExactIsFirstFairWrong : ChangeSpec := { name := "fnExactIsFirstFair", fn := fun _ => fun
  | [d] => { results := [.lit (.bool false)], args := [d] }
  | _ => none }
def FnExactIsFirstFairWrongFalsely : Prop := fnExactIsFirstFairRow.holds Try.pinned (OpenSpec.ofChange fnExactIsFirstFairWrong)

/-- 'laws.FnExactMendLetters': WHATEVER THE INPUT: true; the input reads as it did. -/
def fnExactMendLettersSpec : ChangeSpec := { name := "fnExactMendLetters", fn := fun _ => fun
  | [d] => { results := [.lit (.bool true)], args := [d] }
  | _ => none }
def fnExactMendLettersRow : OpenClaim := { program := "ytbaeipeeacpobaa", sum := "77421a28eb4e1cfe75ba781332340cbc2ecc7ab351b2f17cdebde7d1af72df0c", func := "loop.example/g01210/laws.FnExactMendLetters", spec := "fnExactMendLetters", unfollowed := true, recurses := true, apart := false }
def FnExactMendLettersSaid : Prop := fnExactMendLettersRow.holds Try.pinned (OpenSpec.ofChange fnExactMendLettersSpec)

/-- ITS FALSE NEIGHBOUR: 'it returns false'. Refute it at one input. -/
def fnExactMendLettersWrong : ChangeSpec := { name := "fnExactMendLetters", fn := fun _ => fun
  | [d] => { results := [.lit (.bool false)], args := [d] }
  | _ => none }
def FnExactMendLettersWrongFalsely : Prop := fnExactMendLettersRow.holds Try.pinned (OpenSpec.ofChange fnExactMendLettersWrong)

/-- 'laws.FnExactIsPlaceFair': WHATEVER THE INPUT: true; the input reads as it did. -/
def fnExactIsPlaceFairSpec : ChangeSpec := { name := "fnExactIsPlaceFair", fn := fun _ => fun
  | [d] => { results := [.lit (.bool true)], args := [d] }
  | _ => none }
def fnExactIsPlaceFairRow : OpenClaim := { program := "ytbaeipeeacpobaa", sum := "77421a28eb4e1cfe75ba781332340cbc2ecc7ab351b2f17cdebde7d1af72df0c", func := "loop.example/g01210/laws.FnExactIsPlaceFair", spec := "fnExactIsPlaceFair", unfollowed := true, recurses := true, apart := false }
def FnExactIsPlaceFairSaid : Prop := fnExactIsPlaceFairRow.holds Try.pinned (OpenSpec.ofChange fnExactIsPlaceFairSpec)

/-- ITS FALSE NEIGHBOUR: 'it returns false'. Refute it at one input. -/
def fnExactIsPlaceFairWrong : ChangeSpec := { name := "fnExactIsPlaceFair", fn := fun _ => fun
  | [d] => { results := [.lit (.bool false)], args := [d] }
  | _ => none }
def FnExactIsPlaceFairWrongFalsely : Prop := fnExactIsPlaceFairRow.holds Try.pinned (OpenSpec.ofChange fnExactIsPlaceFairWrong)

/- THE SECOND FORM. 'bulk': how many values and letters a reading holds, each counted each time it is reached (what is shared counts as often as it is met; a slice's spare places count too). A statement '..UptoSaid' is the law's where the arguments, and the package variables that the reading takes, are together of bulk at most 1048576: NARROWER than '..Said'. Prove '..Said' where nothing that the law and all that it calls make is longer than what came in: it says more and counts as full. Else prove '..UptoSaid'. A law counts once. -/
mutual
def uptoBulk {H : Type} : DataW H → Nat
  | .lit (.string bytes) => bytes.length + 1
  | .lit _ => 1
  | .nil => 1
  | .ptr d => uptoBulk d + 1
  | .slice elems spare => uptoBulkAll elems + uptoBulkAll spare + 1
  | .agg parts => uptoBulkAll parts + 1
  | .iface _ d => uptoBulk d + 1
  | .map entries => uptoBulkEntries entries + 1
  | .held _ => 1
def uptoBulkAll {H : Type} : List (DataW H) → Nat
  | [] => 0
  | d :: r => uptoBulk d + uptoBulkAll r
def uptoBulkEntries {H : Type} : List (Lit × DataW H) → Nat
  | [] => 0
  | x :: r => uptoBulkEntry x + uptoBulkEntries r
def uptoBulkEntry {H : Type} : Lit × DataW H → Nat
  | (.string bytes, d) => bytes.length + uptoBulk d + 1
  | (_, d) => uptoBulk d + 1
 end
def uptoSmall : (H : Type) → List (DataW H) → Bool := fun _ ds => decide (uptoBulkAll ds ≤ 1048576)
def OpenSpec.upto (s : _root_.Go.ChangeSpec) : _root_.Go.OpenSpec := { _root_.Go.OpenSpec.ofChange s with cond := some uptoSmall }

/-- 'laws.FnExactWaysAt', WHERE WHAT IT READS IS OF BULK AT MOST 1048576: true; the input reads as it did. -/
def fnExactWaysAtUptoRow : OpenClaim := { program := "ytbaeipeeacpobaa", sum := "77421a28eb4e1cfe75ba781332340cbc2ecc7ab351b2f17cdebde7d1af72df0c", func := "loop.example/g01210/laws.FnExactWaysAt", spec := "fnExactWaysAt", unfollowed := true, recurses := true, apart := false, narrowed := true }
def FnExactWaysAtUptoSaid : Prop := fnExactWaysAtUptoRow.holds Try.pinned (OpenSpec.upto fnExactWaysAtSpec)

/-- 'laws.FnExactOrderWays', WHERE WHAT IT READS IS OF BULK AT MOST 1048576: true; the input reads as it did. -/
def fnExactOrderWaysUptoRow : OpenClaim := { program := "ytbaeipeeacpobaa", sum := "77421a28eb4e1cfe75ba781332340cbc2ecc7ab351b2f17cdebde7d1af72df0c", func := "loop.example/g01210/laws.FnExactOrderWays", spec := "fnExactOrderWays", unfollowed := true, recurses := true, apart := false, narrowed := true }
def FnExactOrderWaysUptoSaid : Prop := fnExactOrderWaysUptoRow.holds Try.pinned (OpenSpec.upto fnExactOrderWaysSpec)

/-- 'laws.FnExactIsOrderFair', WHERE WHAT IT READS IS OF BULK AT MOST 1048576: true; the input reads as it did. -/
def fnExactIsOrderFairUptoRow : OpenClaim := { program := "ytbaeipeeacpobaa", sum := "77421a28eb4e1cfe75ba781332340cbc2ecc7ab351b2f17cdebde7d1af72df0c", func := "loop.example/g01210/laws.FnExactIsOrderFair", spec := "fnExactIsOrderFair", unfollowed := true, recurses := true, apart := false, narrowed := true }
def FnExactIsOrderFairUptoSaid : Prop := fnExactIsOrderFairUptoRow.holds Try.pinned (OpenSpec.upto fnExactIsOrderFairSpec)

/-- 'laws.FnExactIsFirstFair', WHERE WHAT IT READS IS OF BULK AT MOST 1048576: true; the input reads as it did. -/
def fnExactIsFirstFairUptoRow : OpenClaim := { program := "ytbaeipeeacpobaa", sum := "77421a28eb4e1cfe75ba781332340cbc2ecc7ab351b2f17cdebde7d1af72df0c", func := "loop.example/g01210/laws.FnExactIsFirstFair", spec := "fnExactIsFirstFair", unfollowed := true, recurses := true, apart := false, narrowed := true }
def FnExactIsFirstFairUptoSaid : Prop := fnExactIsFirstFairUptoRow.holds Try.pinned (OpenSpec.upto fnExactIsFirstFairSpec)

/-- 'laws.FnExactMendLetters', WHERE WHAT IT READS IS OF BULK AT MOST 1048576: true; the input reads as it did. -/
def fnExactMendLettersUptoRow : OpenClaim := { program := "ytbaeipeeacpobaa", sum := "77421a28eb4e1cfe75ba781332340cbc2ecc7ab351b2f17cdebde7d1af72df0c", func := "loop.example/g01210/laws.FnExactMendLetters", spec := "fnExactMendLetters", unfollowed := true, recurses := true, apart := false, narrowed := true }
def FnExactMendLettersUptoSaid : Prop := fnExactMendLettersUptoRow.holds Try.pinned (OpenSpec.upto fnExactMendLettersSpec)

/-- 'laws.FnExactIsPlaceFair', WHERE WHAT IT READS IS OF BULK AT MOST 1048576: true; the input reads as it did. -/
def fnExactIsPlaceFairUptoRow : OpenClaim := { program := "ytbaeipeeacpobaa", sum := "77421a28eb4e1cfe75ba781332340cbc2ecc7ab351b2f17cdebde7d1af72df0c", func := "loop.example/g01210/laws.FnExactIsPlaceFair", spec := "fnExactIsPlaceFair", unfollowed := true, recurses := true, apart := false, narrowed := true }
def FnExactIsPlaceFairUptoSaid : Prop := fnExactIsPlaceFairUptoRow.holds Try.pinned (OpenSpec.upto fnExactIsPlaceFairSpec)

end Rows
end Go.Proofs.Ytbaeipeeacpobaa
