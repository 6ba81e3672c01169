/- The law FnExactMendLetters returns true for every input, and nothing that was there is written: no further conditions. -/
import Derived.Test.YtbaeipeeacpobaaC10d
import Derived.Test.YtbaeipeeacpobaaC10w
import Derived.Test.YtbaeipeeacpobaaC10wb
import Derived.Test.YtbaeipeeacpobaaC10w5
import Derived.Test.YtbaeipeeacpobaaP10a
import Derived.Test.YtbaeipeeacpobaaP10b
import Derived.Test.YtbaeipeeacpobaaP10c
import Derived.Test.YtbaeipeeacpobaaP10d
import Derived.Test.YtbaeipeeacpobaaP10e
import Derived.Test.YtbaeipeeacpobaaP10f
import Derived.Test.YtbaeipeeacpobaaP10g
import Derived.Test.YtbaeipeeacpobaaRows
namespace Go.Proofs.Ytbaeipeeacpobaa.fnExactMendLettersDone
open Go Go.GA Go.ChangeShapes Go.WideShapes Go.ChangeAt Go.RowKit
set_option linter.unusedVariables false
set_option linter.unusedSimpArgs false
theorem own : ownKnob Try.prog.godebug = none := by kernel_rfl
theorem laidOut : laidOutB Try.prog = true := by kernel_rfl
theorem ty3 : TyP Try.prog 3 (.int .i64) := .int Try.underlying3 (by kernel_rfl)
theorem ty29 : TyP Try.prog 29 (.slice (.int .i64)) := .slice Try.underlying29 (by kernel_rfl) rfl ty3
set_option maxRecDepth 100000 in
theorem lifted (os : Os) (started : os.Started) (H : Type) (enc : TypeId × Value → H) :
    ReturnsInHanded {} Try.checked os 7 .any (Rows.fnExactMendLettersSpec.pre6 enc Try.prog Try.f7 Rows.fnExactMendLettersRow.domain false) (Rows.fnExactMendLettersSpec.post enc Try.prog Try.f7 false true false false) := by
  refine returnsInHanded_of_change (C := Try.checked) own started (by kernel_rfl) Try.func7
    (ChangeSpec.witness6 (enc := enc) (C := Try.checked) false ⟨#[], #[.slice none 0 0], []⟩ 8 (by kernel_rfl) (by kernel_rfl) (by kernel_rfl) (by kernel_rfl)) ?_
  intro W base args ds gs before hval0 hW hcnd _
  have hval : ∀ (j : Nat) t v, Try.f7.params[j]? = some t → args[j]? = some v → Value.okWide Try.prog W .any base t v := hval0
  have hW' := hW
  obtain ⟨p, q, hA0, hV, rfl, hfz, hnd⟩ := hW
  have hA : DataW.TrodAll enc Try.prog W 0 (fun _ => true) true Try.f7.params.toList args.toList ds p := hA0
  rw [Try.params7] at hA hval
  obtain ⟨v0, vs0, d0, ds0, p0, q0, hargs, rfl, rfl, h0, r0⟩ := trodAll_cons hA
  obtain ⟨rfl, rfl, rfl⟩ := trodAll_nil r0
  obtain rfl : args = #[v0] := by cases args; simp_all
  obtain ⟨rfl, rfl⟩ := trodVars_none hV
  have k0 := h0
  have lt0 : ∀ x ∈ p0, x.block < W.heap.size := by obtain ⟨m, hm⟩ := k0; exact DataW.trod_lt m _ _ _ hm
  obtain ⟨x0, o0, a0⟩ := arg_in ty29 (hval 0 29 v0 rfl rfl) h0
  clear hA0 hval0
  refine (law_call (vs := [v0]) (c_laws_FnExactMendLetters (is_mk (pure_FnExactMendLetters.choose_spec))) ⟨_, _, rfl, a0, rfl⟩).mono fun e W' ⟨he, bel⟩ => ?_
  subst he
  exact ⟨_, rfl, _, _, _, [], _, [], hW', trodAll_mk1 (shut_bool Try.underlying4 _), (trodAll_cons_mk (Below.trod laidOut (by kernel_rfl) (of_decide_eq_true (by kernel_rfl)) k0 bel lt0) trodAll_mk0), rfl, bel.frame _, fun h => by cases h⟩
theorem over : Rows.fnExactMendLettersRow.holds Try.pinned (OpenSpec.ofChange Rows.fnExactMendLettersSpec) :=
  OpenClaim.holds_of_wide 7 Try.f7 rfl rfl rfl rfl rfl rfl rfl ⟨rfl, rfl, rfl, rfl, rfl⟩ rfl rfl rfl rfl rfl (by kernel_rfl) Try.func7 (by kernel_rfl)
    (of_decide_eq_true (by kernel_rfl)) (by unfold Func.isWrapper; first | (rw [if_pos (by decide +kernel)]; kernel_rfl) | (rw [if_neg (by decide +kernel)]; exact ⟨rfl, rfl⟩))
    (fun os started H enc _ => lifted os started H enc)
theorem proved : Rows.FnExactMendLettersSaid := over
#print axioms proved
end Go.Proofs.Ytbaeipeeacpobaa.fnExactMendLettersDone
