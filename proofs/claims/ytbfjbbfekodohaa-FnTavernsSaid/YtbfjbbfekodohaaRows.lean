/-
  No cell of these rows narrows 'for every input' (looked for: loops, veiled, ifaces, maps, wideKeys, modest, calm, conditions, laid).
  DERIVED. THE GIVEN ROWS OF THIS SEAT. 3 by the template 'for every input the law returns true; each argument reads behind the call as it read before'; 0 by the template 'total and deterministic' (their statements: YtbfjbbfekodohaaTotals.lean).
  GIVEN WITH THE SEED: the statements are not yours to turn. If you find one false, say at which input.
  Laid BY PROGRAM, IN A SANDBOX (cutbox-rows.mjs): the forced cells as the released guide's own fill.sh prints them over the translation 9458a5e723628135… (all of the seat's roots in one cut). By AI agents, Wed Nov 11 2026. No macro, syntax, notation, axiom, sorry.
-/
import Derived.Test.YtbfjbbfekodohaaChecked
import GoSem.Claim
import GoSem.ClaimJoined
import GoSem.ClaimMapViews
import Derived.JoinedTies
import Derived.KernelRfl
namespace Go.Proofs.Ytbfjbbfekodohaa
/- THE CELL 'sum', in the pinned program and in every row, IS THE sha256 OF THE DUMP (.gsa) THAT YtbfjbbfekodohaaProg.lean LOADS. Nothing in Lean hashes anything: it is a label: what it is worth is what the hold of that sum in a sandbox is worth. -/
noncomputable def Try.pinned : Pinned := { name := "ytbfjbbfekodohaa", sum := "9458a5e723628135f647694d54b6c7d72ccf0754fc90673320846dc93c3acddd", checked := Try.checked }
namespace Rows
def none {H : Type} : Left H := { results := [], args := [] }

/-- 'laws.FnExactDoTask': WHATEVER THE INPUT: true; the input reads as it did. -/
def fnExactDoTaskSpec : ChangeSpec := { name := "fnExactDoTask", fn := fun _ => fun
  | [d1, d2] => { results := [.lit (.bool true)], args := [d1, d2] }
  | _ => none }
def fnExactDoTaskRow : OpenClaim := { program := "ytbfjbbfekodohaa", sum := "9458a5e723628135f647694d54b6c7d72ccf0754fc90673320846dc93c3acddd", func := "loop.example/g01210/laws.FnExactDoTask", spec := "fnExactDoTask", unfollowed := true, recurses := true, apart := false }
def FnExactDoTaskSaid : Prop := fnExactDoTaskRow.holds Try.pinned (OpenSpec.ofChange fnExactDoTaskSpec)

/-- ITS FALSE NEIGHBOUR: 'it returns false'. Refute it at one input. -/
def fnExactDoTaskWrong : ChangeSpec := { name := "fnExactDoTask", fn := fun _ => fun
  | [d1, d2] => { results := [.lit (.bool false)], args := [d1, d2] }
  | _ => none }
def FnExactDoTaskWrongFalsely : Prop := fnExactDoTaskRow.holds Try.pinned (OpenSpec.ofChange fnExactDoTaskWrong)

/-- 'laws.FnExactDoTasks': WHATEVER THE INPUT: true; the input reads as it did. -/
def fnExactDoTasksSpec : ChangeSpec := { name := "fnExactDoTasks", fn := fun _ => fun
  | [d1, d2] => { results := [.lit (.bool true)], args := [d1, d2] }
  | _ => none }
def fnExactDoTasksRow : OpenClaim := { program := "ytbfjbbfekodohaa", sum := "9458a5e723628135f647694d54b6c7d72ccf0754fc90673320846dc93c3acddd", func := "loop.example/g01210/laws.FnExactDoTasks", spec := "fnExactDoTasks", unfollowed := true, recurses := true, apart := false }
def FnExactDoTasksSaid : Prop := fnExactDoTasksRow.holds Try.pinned (OpenSpec.ofChange fnExactDoTasksSpec)

/-- ITS FALSE NEIGHBOUR: 'it returns false'. Refute it at one input. -/
def fnExactDoTasksWrong : ChangeSpec := { name := "fnExactDoTasks", fn := fun _ => fun
  | [d1, d2] => { results := [.lit (.bool false)], args := [d1, d2] }
  | _ => none }
def FnExactDoTasksWrongFalsely : Prop := fnExactDoTasksRow.holds Try.pinned (OpenSpec.ofChange fnExactDoTasksWrong)

/-- 'laws.FnTaverns': WHATEVER THE INPUT: true; the input reads as it did. -/
def fnTavernsSpec : ChangeSpec := { name := "fnTaverns", fn := fun _ => fun
  | [d] => { results := [.lit (.bool true)], args := [d] }
  | _ => none }
def fnTavernsRow : OpenClaim := { program := "ytbfjbbfekodohaa", sum := "9458a5e723628135f647694d54b6c7d72ccf0754fc90673320846dc93c3acddd", func := "loop.example/g01210/laws.FnTaverns", spec := "fnTaverns", unfollowed := true, recurses := true, apart := false }
def FnTavernsSaid : Prop := fnTavernsRow.holds Try.pinned (OpenSpec.ofChange fnTavernsSpec)

/-- ITS FALSE NEIGHBOUR: 'it returns false'. Refute it at one input. -/
def fnTavernsWrong : ChangeSpec := { name := "fnTaverns", fn := fun _ => fun
  | [d] => { results := [.lit (.bool false)], args := [d] }
  | _ => none }
def FnTavernsWrongFalsely : Prop := fnTavernsRow.holds Try.pinned (OpenSpec.ofChange fnTavernsWrong)

/- THE SECOND FORM. 'bulk': how many values and letters a reading holds, each counted each time it is reached (what is shared counts as often as it is met; a slice's spare places count too). A statement '..UptoSaid' is the law's where the arguments, and the package variables that the reading takes, are together of bulk at most 1048576: NARROWER than '..Said'. Prove '..Said' where nothing that the law and all that it calls make is longer than what came in: it says more and counts as full. Else prove '..UptoSaid'. A law counts once. -/
mutual
def uptoBulk {H : Type} : DataW H → Nat
  | .lit (.string bytes) => bytes.length + 1
  | .lit _ => 1
  | .nil => 1
  | .ptr d => uptoBulk d + 1
  | .slice elems spare => uptoBulkAll elems + uptoBulkAll spare + 1
  | .agg parts => uptoBulkAll parts + 1
  | .iface _ d => uptoBulk d + 1
  | .map entries => uptoBulkEntries entries + 1
  | .held _ => 1
def uptoBulkAll {H : Type} : List (DataW H) → Nat
  | [] => 0
  | d :: r => uptoBulk d + uptoBulkAll r
def uptoBulkEntries {H : Type} : List (Lit × DataW H) → Nat
  | [] => 0
  | x :: r => uptoBulkEntry x + uptoBulkEntries r
def uptoBulkEntry {H : Type} : Lit × DataW H → Nat
  | (.string bytes, d) => bytes.length + uptoBulk d + 1
  | (_, d) => uptoBulk d + 1
 end
def uptoSmall : (H : Type) → List (DataW H) → Bool := fun _ ds => decide (uptoBulkAll ds ≤ 1048576)
def OpenSpec.upto (s : _root_.Go.ChangeSpec) : _root_.Go.OpenSpec := { _root_.Go.OpenSpec.ofChange s with cond := some uptoSmall }

/-- 'laws.FnExactDoTask', WHERE WHAT IT READS IS OF BULK AT MOST 1048576: true; the input reads as it did. -/
def fnExactDoTaskUptoRow : OpenClaim := { program := "ytbfjbbfekodohaa", sum := "9458a5e723628135f647694d54b6c7d72ccf0754fc90673320846dc93c3acddd", func := "loop.example/g01210/laws.FnExactDoTask", spec := "fnExactDoTask", unfollowed := true, recurses := true, apart := false, narrowed := true }
def FnExactDoTaskUptoSaid : Prop := fnExactDoTaskUptoRow.holds Try.pinned (OpenSpec.upto fnExactDoTaskSpec)

/-- 'laws.FnExactDoTasks', WHERE WHAT IT READS IS OF BULK AT MOST 1048576: true; the input reads as it did. -/
def fnExactDoTasksUptoRow : OpenClaim := { program := "ytbfjbbfekodohaa", sum := "9458a5e723628135f647694d54b6c7d72ccf0754fc90673320846dc93c3acddd", func := "loop.example/g01210/laws.FnExactDoTasks", spec := "fnExactDoTasks", unfollowed := true, recurses := true, apart := false, narrowed := true }
def FnExactDoTasksUptoSaid : Prop := fnExactDoTasksUptoRow.holds Try.pinned (OpenSpec.upto fnExactDoTasksSpec)

/-- 'laws.FnTaverns', WHERE WHAT IT READS IS OF BULK AT MOST 1048576: true; the input reads as it did. -/
def fnTavernsUptoRow : OpenClaim := { program := "ytbfjbbfekodohaa", sum := "9458a5e723628135f647694d54b6c7d72ccf0754fc90673320846dc93c3acddd", func := "loop.example/g01210/laws.FnTaverns", spec := "fnTaverns", unfollowed := true, recurses := true, apart := false, narrowed := true }
def FnTavernsUptoSaid : Prop := fnTavernsUptoRow.holds Try.pinned (OpenSpec.upto fnTavernsSpec)

end Rows
end Go.Proofs.Ytbfjbbfekodohaa
