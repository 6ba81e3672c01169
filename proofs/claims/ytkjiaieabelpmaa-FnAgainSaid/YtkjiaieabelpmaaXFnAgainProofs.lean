/- The law FnAgain returns true for every input, and nothing that was there is written: no further conditions. -/
import Derived.Test.YtkjiaieabelpmaaAG9
import Derived.Test.YtkjiaieabelpmaaC6awc
import Derived.Test.YtkjiaieabelpmaaRows
namespace Go.Proofs.Ytkjiaieabelpmaa.fnAgainDone
open Go Go.GA Go.ChangeShapes Go.WideShapes Go.ChangeAt Go.RowKit
set_option linter.unusedVariables false
set_option linter.unusedSimpArgs false
theorem own : ownKnob Try.prog.godebug = none := by kernel_rfl
theorem laidOut : laidOutB Try.prog = true := by kernel_rfl
theorem noTab : Try.prog.globalNamed "internal/strconv.uint64pow10" = none := by kernel_rfl
theorem noErr1 : Try.prog.globalNamed "strconv.ErrSyntax" = none := by kernel_rfl
theorem noErr2 : Try.prog.globalNamed "strconv.ErrRange" = none := by kernel_rfl
theorem ty5 : TyP Try.prog 5 (.int .u8) := .int Try.underlying5 (by kernel_rfl)
theorem ty22 : TyP Try.prog 22 (.slice (.int .u8)) := .slice Try.underlying22 (by kernel_rfl) rfl ty5
set_option maxRecDepth 100000 in
theorem lifted (os : Os) (started : os.Started) (H : Type) (enc : TypeId × Value → H) :
    ReturnsInHanded {} Try.checked os 3 .any (Rows.fnAgainSpec.pre6 enc Try.prog Try.f3 Rows.fnAgainRow.domain false) (Rows.fnAgainSpec.post enc Try.prog Try.f3 false true false false) := by
  refine returnsInHanded_of_change (C := Try.checked) own started (by kernel_rfl) Try.func3
    (ChangeSpec.witness6 (enc := enc) (C := Try.checked) false ⟨#[], #[.slice none 0 0], []⟩ 8 (by kernel_rfl) (by kernel_rfl) (by kernel_rfl) (by kernel_rfl)) ?_
  intro W base args ds gs before hval0 hW hcnd _
  have hval : ∀ (j : Nat) t v, Try.f3.params[j]? = some t → args[j]? = some v → Value.okWide Try.prog W .any base t v := hval0
  have hW' := hW
  obtain ⟨p, q, hA0, hV, rfl, hfz, hnd⟩ := hW
  have hA : DataW.TrodAll enc Try.prog W 0 (fun _ => true) true Try.f3.params.toList args.toList ds p := hA0
  rw [Try.params3] at hA hval
  obtain ⟨v0, vs0, d0, ds0, p0, q0, hargs, rfl, rfl, h0, r0⟩ := trodAll_cons hA
  obtain ⟨rfl, rfl, rfl⟩ := trodAll_nil r0
  obtain rfl : args = #[v0] := by cases args; simp_all
  obtain ⟨rfl, rfl⟩ := trodVars_none hV
  have k0 := h0
  have lt0 : ∀ x ∈ p0, x.block < W.heap.size := by obtain ⟨m, hm⟩ := k0; exact DataW.trod_lt m _ _ _ hm
  obtain ⟨x0, o0, a0⟩ := arg_in ty22 (hval 0 22 v0 rfl rfl) h0 (fun b off hm => hfz b off (by simp [hm]))
  clear hA0 hval0
  refine (law_call (vs := [v0]) (fun g hg => by rw [noTab] at hg; cases hg) (noErr noErr1 noErr2) (c_laws_FnAgain (is_mk ((pure_FnAgain o0).choose_spec))) ⟨_, _, rfl, a0, rfl⟩).mono fun e W' ⟨he, bel⟩ => ?_
  subst he
  exact ⟨_, rfl, _, _, _, [], _, [], hW', trodAll_mk1 (shut_bool Try.underlying4 _), (trodAll_cons_mk (Below.trod laidOut (by kernel_rfl) (of_decide_eq_true (by kernel_rfl)) k0 bel lt0) trodAll_mk0), rfl, bel.frame _, fun h => by cases h⟩
theorem over : Rows.fnAgainRow.holds Try.pinned (OpenSpec.ofChange Rows.fnAgainSpec) :=
  OpenClaim.holds_of_wide 3 Try.f3 rfl rfl rfl rfl rfl rfl rfl ⟨rfl, rfl, rfl, rfl, rfl⟩ rfl rfl rfl rfl rfl (by kernel_rfl) Try.func3 (by kernel_rfl)
    (of_decide_eq_true (by kernel_rfl)) (by unfold Func.isWrapper; first | (rw [if_pos (by decide +kernel)]; kernel_rfl) | (rw [if_neg (by decide +kernel)]; exact ⟨rfl, rfl⟩))
    (fun os started H enc _ => lifted os started H enc)
theorem proved : Rows.FnAgainSaid := over
#print axioms proved
end Go.Proofs.Ytkjiaieabelpmaa.fnAgainDone
