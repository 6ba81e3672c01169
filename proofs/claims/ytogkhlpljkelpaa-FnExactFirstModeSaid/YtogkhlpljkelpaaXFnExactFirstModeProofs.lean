/- The law FnExactFirstMode returns true for every input, and nothing that was there is written: no further conditions. -/
import Derived.Test.YtogkhlpljkelpaaRRz
import Derived.Test.YtogkhlpljkelpaaRows
namespace Go.Proofs.Ytogkhlpljkelpaa.fnExactFirstModeDone
open Go Go.GA Go.ChangeShapes Go.WideShapes Go.ChangeAt Go.RowKit
set_option linter.unusedVariables false
set_option linter.unusedSimpArgs false
theorem own : ownKnob Try.prog.godebug = none := by kernel_rfl
theorem laidOut : laidOutB Try.prog = true := by kernel_rfl
theorem noTab : Try.prog.globalNamed "internal/strconv.uint64pow10" = none := by kernel_rfl
theorem noErr1 : Try.prog.globalNamed "strconv.ErrSyntax" = none := by kernel_rfl
theorem noErr2 : Try.prog.globalNamed "strconv.ErrRange" = none := by kernel_rfl
theorem ty3 : TyP Try.prog 3 (.int .i64) := .int Try.underlying3 (by kernel_rfl)
theorem ty22 : TyP Try.prog 22 (.arr 6 (.int .i64)) := .arr Try.underlying22 (by kernel_rfl) ty3
set_option maxRecDepth 100000 in
theorem lifted (os : Os) (started : os.Started) (H : Type) (enc : TypeId × Value → H) :
    ReturnsInHanded {} Try.checked os 4 .any (Rows.fnExactFirstModeSpec.pre6 enc Try.prog Try.f4 Rows.fnExactFirstModeRow.domain false) (Rows.fnExactFirstModeSpec.post enc Try.prog Try.f4 false true false false) := by
  refine returnsInHanded_of_change (C := Try.checked) own started (by kernel_rfl) Try.func4
    (ChangeSpec.witness6 (enc := enc) (C := Try.checked) false ⟨#[], #[.agg #[.int .i64 0, .int .i64 0, .int .i64 0, .int .i64 0, .int .i64 0, .int .i64 0], .int .i64 0], []⟩ 8 (by kernel_rfl) (by kernel_rfl) (by kernel_rfl) (by kernel_rfl)) ?_
  intro W base args ds gs before hval0 hW hcnd _
  have hval : ∀ (j : Nat) t v, Try.f4.params[j]? = some t → args[j]? = some v → Value.okWide Try.prog W .any base t v := hval0
  have hW' := hW
  obtain ⟨p, q, hA0, hV, rfl, hfz, hnd⟩ := hW
  have hA : DataW.TrodAll enc Try.prog W 0 (fun _ => true) true Try.f4.params.toList args.toList ds p := hA0
  rw [Try.params4] at hA hval
  obtain ⟨v0, vs0, d0, ds0, p0, q0, hargs, rfl, rfl, h0, r0⟩ := trodAll_cons hA
  obtain ⟨v1, vs1, d1, ds1, p1, q1, rfl, rfl, rfl, h1, r1⟩ := trodAll_cons r0
  obtain ⟨rfl, rfl, rfl⟩ := trodAll_nil r1
  obtain rfl : args = #[v0, v1] := by cases args; simp_all
  obtain ⟨rfl, rfl⟩ := trodVars_none hV
  have k0 := h0
  have lt0 : ∀ x ∈ p0, x.block < W.heap.size := by obtain ⟨m, hm⟩ := k0; exact DataW.trod_lt m _ _ _ hm
  have k1 := h1
  have lt1 : ∀ x ∈ p1, x.block < W.heap.size := by obtain ⟨m, hm⟩ := k1; exact DataW.trod_lt m _ _ _ hm
  obtain ⟨x0, o0, a0⟩ := arg_in ty22 (hval 0 22 v0 rfl rfl) h0 (fun b off hm => hfz b off (by simp [hm]))
  obtain ⟨x1, o1, a1⟩ := arg_in ty3 (hval 1 3 v1 rfl rfl) h1 (fun b off hm => hfz b off (by simp [hm]))
  clear hA0 hval0
  have e0 : v0 = aggOf x0 := arr_val _ _ _ _ a0
  have e1 : v1 = .int .i64 x1 := a1
  subst e0 e1
  refine (law_ok o0.1 W).mono fun e W' ⟨he, bel⟩ => ?_
  subst he
  exact ⟨_, rfl, _, _, _, [], _, [], hW', trodAll_mk1 (shut_bool Try.underlying4 _), (trodAll_cons_mk (Below.trod laidOut (by kernel_rfl) (of_decide_eq_true (by kernel_rfl)) k0 bel lt0) (trodAll_cons_mk (Below.trod laidOut (by kernel_rfl) (of_decide_eq_true (by kernel_rfl)) k1 bel lt1) trodAll_mk0)), rfl, bel.frame _, fun h => by cases h⟩
theorem over : Rows.fnExactFirstModeRow.holds Try.pinned (OpenSpec.ofChange Rows.fnExactFirstModeSpec) :=
  OpenClaim.holds_of_wide 4 Try.f4 rfl rfl rfl rfl rfl rfl rfl ⟨rfl, rfl, rfl, rfl, rfl⟩ rfl rfl rfl rfl rfl (by kernel_rfl) Try.func4 (by kernel_rfl)
    (of_decide_eq_true (by kernel_rfl)) (by unfold Func.isWrapper; first | (rw [if_pos (by decide +kernel)]; kernel_rfl) | (rw [if_neg (by decide +kernel)]; exact ⟨rfl, rfl⟩))
    (fun os started H enc _ => lifted os started H enc)
theorem proved : Rows.FnExactFirstModeSaid := over
#print axioms proved
end Go.Proofs.Ytogkhlpljkelpaa.fnExactFirstModeDone
