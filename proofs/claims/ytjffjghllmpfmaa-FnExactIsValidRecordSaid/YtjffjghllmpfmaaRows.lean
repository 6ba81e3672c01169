/-
  No cell of these rows narrows 'for every input' (looked for: loops, veiled, ifaces, maps, wideKeys, modest, calm, conditions, laid).
  DERIVED. THE GIVEN ROWS OF THIS SEAT. 7 by the template 'for every input the law returns true; each argument reads behind the call as it read before'; 0 by the template 'total and deterministic' (their statements: YtjffjghllmpfmaaTotals.lean).
  GIVEN WITH THE SEED: the statements are not yours to turn. If you find one false, say at which input.
  Laid BY PROGRAM, IN A SANDBOX (cutbox-rows.mjs): the forced cells as the released guide's own fill.sh prints them over the translation a8144b11de56f7e4… (all of the seat's roots in one cut). By AI agents, Wed Nov 11 2026. No macro, syntax, notation, axiom, sorry.
-/
import Derived.Test.YtjffjghllmpfmaaChecked
import GoSem.Claim
import GoSem.ClaimJoined
import GoSem.ClaimMapViews
import Derived.JoinedTies
import Derived.KernelRfl
namespace Go.Proofs.Ytjffjghllmpfmaa
/- THE CELL 'sum', in the pinned program and in every row, IS THE sha256 OF THE DUMP (.gsa) THAT YtjffjghllmpfmaaProg.lean LOADS. Nothing in Lean hashes anything: it is a label: what it is worth is what the hold of that sum in a sandbox is worth. -/
noncomputable def Try.pinned : Pinned := { name := "ytjffjghllmpfmaa", sum := "a8144b11de56f7e47e0e1abbd56bc4be749da4c9a4e9f8df3888afbed22cb9c2", checked := Try.checked }
namespace Rows
def none {H : Type} : Left H := { results := [], args := [] }

/-- 'laws.FnExactIsValidRecord': WHATEVER THE INPUT: true; the input reads as it did. -/
def fnExactIsValidRecordSpec : ChangeSpec := { name := "fnExactIsValidRecord", fn := fun _ => fun
  | [d] => { results := [.lit (.bool true)], args := [d] }
  | _ => none }
def fnExactIsValidRecordRow : OpenClaim := { program := "ytjffjghllmpfmaa", sum := "a8144b11de56f7e47e0e1abbd56bc4be749da4c9a4e9f8df3888afbed22cb9c2", func := "loop.example/g01210/laws.FnExactIsValidRecord", spec := "fnExactIsValidRecord", inPlace := ["internal/bytealg.IndexByteString", "internal/bytealg.IndexString"], unfollowed := true, recurses := true, named := ["internal/bytealg.MaxLen"], apart := false }
def FnExactIsValidRecordSaid : Prop := fnExactIsValidRecordRow.holds Try.pinned (OpenSpec.ofChange fnExactIsValidRecordSpec)

/-- ITS FALSE NEIGHBOUR: 'it returns false'. Refute it at one input. -/
def fnExactIsValidRecordWrong : ChangeSpec := { name := "fnExactIsValidRecord", fn := fun _ => fun
  | [d] => { results := [.lit (.bool false)], args := [d] }
  | _ => none }
def FnExactIsValidRecordWrongFalsely : Prop := fnExactIsValidRecordRow.holds Try.pinned (OpenSpec.ofChange fnExactIsValidRecordWrong)

/-- 'laws.FnExactIsTavern': WHATEVER THE INPUT: true; the input reads as it did. -/
def fnExactIsTavernSpec : ChangeSpec := { name := "fnExactIsTavern", fn := fun _ => fun
  | [d] => { results := [.lit (.bool true)], args := [d] }
  | _ => none }
def fnExactIsTavernRow : OpenClaim := { program := "ytjffjghllmpfmaa", sum := "a8144b11de56f7e47e0e1abbd56bc4be749da4c9a4e9f8df3888afbed22cb9c2", func := "loop.example/g01210/laws.FnExactIsTavern", spec := "fnExactIsTavern", unfollowed := true, recurses := true, apart := false }
def FnExactIsTavernSaid : Prop := fnExactIsTavernRow.holds Try.pinned (OpenSpec.ofChange fnExactIsTavernSpec)

/-- ITS FALSE NEIGHBOUR: 'it returns false'. Refute it at one input. -/
def fnExactIsTavernWrong : ChangeSpec := { name := "fnExactIsTavern", fn := fun _ => fun
  | [d] => { results := [.lit (.bool false)], args := [d] }
  | _ => none }
def FnExactIsTavernWrongFalsely : Prop := fnExactIsTavernRow.holds Try.pinned (OpenSpec.ofChange fnExactIsTavernWrong)

/-- 'laws.FnExactLastSum': WHATEVER THE INPUT: true; the input reads as it did. -/
def fnExactLastSumSpec : ChangeSpec := { name := "fnExactLastSum", fn := fun _ => fun
  | [d] => { results := [.lit (.bool true)], args := [d] }
  | _ => none }
def fnExactLastSumRow : OpenClaim := { program := "ytjffjghllmpfmaa", sum := "a8144b11de56f7e47e0e1abbd56bc4be749da4c9a4e9f8df3888afbed22cb9c2", func := "loop.example/g01210/laws.FnExactLastSum", spec := "fnExactLastSum", unfollowed := true, recurses := true, apart := false }
def FnExactLastSumSaid : Prop := fnExactLastSumRow.holds Try.pinned (OpenSpec.ofChange fnExactLastSumSpec)

/-- ITS FALSE NEIGHBOUR: 'it returns false'. Refute it at one input. -/
def fnExactLastSumWrong : ChangeSpec := { name := "fnExactLastSum", fn := fun _ => fun
  | [d] => { results := [.lit (.bool false)], args := [d] }
  | _ => none }
def FnExactLastSumWrongFalsely : Prop := fnExactLastSumRow.holds Try.pinned (OpenSpec.ofChange fnExactLastSumWrong)

/-- 'laws.FnExactNewTavern': WHATEVER THE INPUT: true; the input reads as it did. -/
def fnExactNewTavernSpec : ChangeSpec := { name := "fnExactNewTavern", fn := fun _ => fun
  | [d1, d2] => { results := [.lit (.bool true)], args := [d1, d2] }
  | _ => none }
def fnExactNewTavernRow : OpenClaim := { program := "ytjffjghllmpfmaa", sum := "a8144b11de56f7e47e0e1abbd56bc4be749da4c9a4e9f8df3888afbed22cb9c2", func := "loop.example/g01210/laws.FnExactNewTavern", spec := "fnExactNewTavern", unfollowed := true, recurses := true, apart := false }
def FnExactNewTavernSaid : Prop := fnExactNewTavernRow.holds Try.pinned (OpenSpec.ofChange fnExactNewTavernSpec)

/-- ITS FALSE NEIGHBOUR: 'it returns false'. Refute it at one input. -/
def fnExactNewTavernWrong : ChangeSpec := { name := "fnExactNewTavern", fn := fun _ => fun
  | [d1, d2] => { results := [.lit (.bool false)], args := [d1, d2] }
  | _ => none }
def FnExactNewTavernWrongFalsely : Prop := fnExactNewTavernRow.holds Try.pinned (OpenSpec.ofChange fnExactNewTavernWrong)

/-- 'laws.FnExactNewConsole': WHATEVER THE INPUT: true; the input reads as it did. -/
def fnExactNewConsoleSpec : ChangeSpec := { name := "fnExactNewConsole", fn := fun _ => fun
  | [d] => { results := [.lit (.bool true)], args := [d] }
  | _ => none }
def fnExactNewConsoleRow : OpenClaim := { program := "ytjffjghllmpfmaa", sum := "a8144b11de56f7e47e0e1abbd56bc4be749da4c9a4e9f8df3888afbed22cb9c2", func := "loop.example/g01210/laws.FnExactNewConsole", spec := "fnExactNewConsole", unfollowed := true, recurses := true, apart := false }
def FnExactNewConsoleSaid : Prop := fnExactNewConsoleRow.holds Try.pinned (OpenSpec.ofChange fnExactNewConsoleSpec)

/-- ITS FALSE NEIGHBOUR: 'it returns false'. Refute it at one input. -/
def fnExactNewConsoleWrong : ChangeSpec := { name := "fnExactNewConsole", fn := fun _ => fun
  | [d] => { results := [.lit (.bool false)], args := [d] }
  | _ => none }
def FnExactNewConsoleWrongFalsely : Prop := fnExactNewConsoleRow.holds Try.pinned (OpenSpec.ofChange fnExactNewConsoleWrong)

/-- 'laws.FnExactDoTask': WHATEVER THE INPUT: true; the input reads as it did. -/
def fnExactDoTaskSpec : ChangeSpec := { name := "fnExactDoTask", fn := fun _ => fun
  | [d1, d2] => { results := [.lit (.bool true)], args := [d1, d2] }
  | _ => none }
def fnExactDoTaskRow : OpenClaim := { program := "ytjffjghllmpfmaa", sum := "a8144b11de56f7e47e0e1abbd56bc4be749da4c9a4e9f8df3888afbed22cb9c2", func := "loop.example/g01210/laws.FnExactDoTask", spec := "fnExactDoTask", unfollowed := true, recurses := true, apart := false }
def FnExactDoTaskSaid : Prop := fnExactDoTaskRow.holds Try.pinned (OpenSpec.ofChange fnExactDoTaskSpec)

/-- ITS FALSE NEIGHBOUR: 'it returns false'. Refute it at one input. -/
def fnExactDoTaskWrong : ChangeSpec := { name := "fnExactDoTask", fn := fun _ => fun
  | [d1, d2] => { results := [.lit (.bool false)], args := [d1, d2] }
  | _ => none }
def FnExactDoTaskWrongFalsely : Prop := fnExactDoTaskRow.holds Try.pinned (OpenSpec.ofChange fnExactDoTaskWrong)

/-- 'laws.FnExactDoTasks': WHATEVER THE INPUT: true; the input reads as it did. -/
def fnExactDoTasksSpec : ChangeSpec := { name := "fnExactDoTasks", fn := fun _ => fun
  | [d1, d2] => { results := [.lit (.bool true)], args := [d1, d2] }
  | _ => none }
def fnExactDoTasksRow : OpenClaim := { program := "ytjffjghllmpfmaa", sum := "a8144b11de56f7e47e0e1abbd56bc4be749da4c9a4e9f8df3888afbed22cb9c2", func := "loop.example/g01210/laws.FnExactDoTasks", spec := "fnExactDoTasks", unfollowed := true, recurses := true, apart := false }
def FnExactDoTasksSaid : Prop := fnExactDoTasksRow.holds Try.pinned (OpenSpec.ofChange fnExactDoTasksSpec)

/-- ITS FALSE NEIGHBOUR: 'it returns false'. Refute it at one input. -/
def fnExactDoTasksWrong : ChangeSpec := { name := "fnExactDoTasks", fn := fun _ => fun
  | [d1, d2] => { results := [.lit (.bool false)], args := [d1, d2] }
  | _ => none }
def FnExactDoTasksWrongFalsely : Prop := fnExactDoTasksRow.holds Try.pinned (OpenSpec.ofChange fnExactDoTasksWrong)

/- THE SECOND FORM. 'bulk': how many values and letters a reading holds, each counted each time it is reached (what is shared counts as often as it is met; a slice's spare places count too). A statement '..UptoSaid' is the law's where the arguments, and the package variables that the reading takes, are together of bulk at most 1048576: NARROWER than '..Said'. Prove '..Said' where nothing that the law and all that it calls make is longer than what came in: it says more and counts as full. Else prove '..UptoSaid'. A law counts once. -/
mutual
def uptoBulk {H : Type} : DataW H → Nat
  | .lit (.string bytes) => bytes.length + 1
  | .lit _ => 1
  | .nil => 1
  | .ptr d => uptoBulk d + 1
  | .slice elems spare => uptoBulkAll elems + uptoBulkAll spare + 1
  | .agg parts => uptoBulkAll parts + 1
  | .iface _ d => uptoBulk d + 1
  | .map entries => uptoBulkEntries entries + 1
  | .held _ => 1
def uptoBulkAll {H : Type} : List (DataW H) → Nat
  | [] => 0
  | d :: r => uptoBulk d + uptoBulkAll r
def uptoBulkEntries {H : Type} : List (Lit × DataW H) → Nat
  | [] => 0
  | x :: r => uptoBulkEntry x + uptoBulkEntries r
def uptoBulkEntry {H : Type} : Lit × DataW H → Nat
  | (.string bytes, d) => bytes.length + uptoBulk d + 1
  | (_, d) => uptoBulk d + 1
 end
def uptoSmall : (H : Type) → List (DataW H) → Bool := fun _ ds => decide (uptoBulkAll ds ≤ 1048576)
def OpenSpec.upto (s : _root_.Go.ChangeSpec) : _root_.Go.OpenSpec := { _root_.Go.OpenSpec.ofChange s with cond := some uptoSmall }

/-- 'laws.FnExactIsValidRecord', WHERE WHAT IT READS IS OF BULK AT MOST 1048576: true; the input reads as it did. -/
def fnExactIsValidRecordUptoRow : OpenClaim := { program := "ytjffjghllmpfmaa", sum := "a8144b11de56f7e47e0e1abbd56bc4be749da4c9a4e9f8df3888afbed22cb9c2", func := "loop.example/g01210/laws.FnExactIsValidRecord", spec := "fnExactIsValidRecord", inPlace := ["internal/bytealg.IndexByteString", "internal/bytealg.IndexString"], unfollowed := true, recurses := true, named := ["internal/bytealg.MaxLen"], apart := false, narrowed := true }
def FnExactIsValidRecordUptoSaid : Prop := fnExactIsValidRecordUptoRow.holds Try.pinned (OpenSpec.upto fnExactIsValidRecordSpec)

/-- 'laws.FnExactIsTavern', WHERE WHAT IT READS IS OF BULK AT MOST 1048576: true; the input reads as it did. -/
def fnExactIsTavernUptoRow : OpenClaim := { program := "ytjffjghllmpfmaa", sum := "a8144b11de56f7e47e0e1abbd56bc4be749da4c9a4e9f8df3888afbed22cb9c2", func := "loop.example/g01210/laws.FnExactIsTavern", spec := "fnExactIsTavern", unfollowed := true, recurses := true, apart := false, narrowed := true }
def FnExactIsTavernUptoSaid : Prop := fnExactIsTavernUptoRow.holds Try.pinned (OpenSpec.upto fnExactIsTavernSpec)

/-- 'laws.FnExactLastSum', WHERE WHAT IT READS IS OF BULK AT MOST 1048576: true; the input reads as it did. -/
def fnExactLastSumUptoRow : OpenClaim := { program := "ytjffjghllmpfmaa", sum := "a8144b11de56f7e47e0e1abbd56bc4be749da4c9a4e9f8df3888afbed22cb9c2", func := "loop.example/g01210/laws.FnExactLastSum", spec := "fnExactLastSum", unfollowed := true, recurses := true, apart := false, narrowed := true }
def FnExactLastSumUptoSaid : Prop := fnExactLastSumUptoRow.holds Try.pinned (OpenSpec.upto fnExactLastSumSpec)

/-- 'laws.FnExactNewTavern', WHERE WHAT IT READS IS OF BULK AT MOST 1048576: true; the input reads as it did. -/
def fnExactNewTavernUptoRow : OpenClaim := { program := "ytjffjghllmpfmaa", sum := "a8144b11de56f7e47e0e1abbd56bc4be749da4c9a4e9f8df3888afbed22cb9c2", func := "loop.example/g01210/laws.FnExactNewTavern", spec := "fnExactNewTavern", unfollowed := true, recurses := true, apart := false, narrowed := true }
def FnExactNewTavernUptoSaid : Prop := fnExactNewTavernUptoRow.holds Try.pinned (OpenSpec.upto fnExactNewTavernSpec)

/-- 'laws.FnExactNewConsole', WHERE WHAT IT READS IS OF BULK AT MOST 1048576: true; the input reads as it did. -/
def fnExactNewConsoleUptoRow : OpenClaim := { program := "ytjffjghllmpfmaa", sum := "a8144b11de56f7e47e0e1abbd56bc4be749da4c9a4e9f8df3888afbed22cb9c2", func := "loop.example/g01210/laws.FnExactNewConsole", spec := "fnExactNewConsole", unfollowed := true, recurses := true, apart := false, narrowed := true }
def FnExactNewConsoleUptoSaid : Prop := fnExactNewConsoleUptoRow.holds Try.pinned (OpenSpec.upto fnExactNewConsoleSpec)

/-- 'laws.FnExactDoTask', WHERE WHAT IT READS IS OF BULK AT MOST 1048576: true; the input reads as it did. -/
def fnExactDoTaskUptoRow : OpenClaim := { program := "ytjffjghllmpfmaa", sum := "a8144b11de56f7e47e0e1abbd56bc4be749da4c9a4e9f8df3888afbed22cb9c2", func := "loop.example/g01210/laws.FnExactDoTask", spec := "fnExactDoTask", unfollowed := true, recurses := true, apart := false, narrowed := true }
def FnExactDoTaskUptoSaid : Prop := fnExactDoTaskUptoRow.holds Try.pinned (OpenSpec.upto fnExactDoTaskSpec)

/-- 'laws.FnExactDoTasks', WHERE WHAT IT READS IS OF BULK AT MOST 1048576: true; the input reads as it did. -/
def fnExactDoTasksUptoRow : OpenClaim := { program := "ytjffjghllmpfmaa", sum := "a8144b11de56f7e47e0e1abbd56bc4be749da4c9a4e9f8df3888afbed22cb9c2", func := "loop.example/g01210/laws.FnExactDoTasks", spec := "fnExactDoTasks", unfollowed := true, recurses := true, apart := false, narrowed := true }
def FnExactDoTasksUptoSaid : Prop := fnExactDoTasksUptoRow.holds Try.pinned (OpenSpec.upto fnExactDoTasksSpec)

end Rows
end Go.Proofs.Ytjffjghllmpfmaa
