/- Plain law of NewConsole. -/
import Derived.Test.YtjffjghllmpfmaaP12c
namespace Go.GA
open Go
set_option maxRecDepth 100000
theorem eqS_self (a : ByteArray) : eqS a a = true := by unfold eqS; exact beq_self_eq_true _
abbrev Lg : Type := ByteArray × (ByteArray × (Int × Unit))
theorem eqLog_self (l : Lg) : p_laws_eqLog l l = true := by
  unfold p_laws_eqLog
  simp [eqS_self]
theorem eqConsole_self (c : Tav × (Lg × Unit)) : p_laws_eqConsole c c = true := by
  unfold p_laws_eqConsole
  have e1 : p_laws_eqTavern (c.1.1, (c.1.2.1, (c.1.2.2.1, (c.1.2.2.2.1, (c.1.2.2.2.2.1, (c.1.2.2.2.2.2.1, ())))))) (c.1.1, (c.1.2.1, (c.1.2.2.1, (c.1.2.2.2.1, (c.1.2.2.2.2.1, (c.1.2.2.2.2.2.1, ())))))) = true := eqTavern_self c.1
  have e2 : p_laws_eqLog (c.2.1.1, (c.2.1.2.1, (c.2.1.2.2.1, ()))) (c.2.1.1, (c.2.1.2.1, (c.2.1.2.2.1, ()))) = true := eqLog_self c.2.1
  rw [e1, e2]
  simp
def noLog : Lg × Unit := ((ByteArray.empty, (ByteArray.empty, (0, ()))), ())
theorem console_eq {x : Tav} {fu : Nat} (hx : Six x.1) (h1 : x.1.length ≤ 1048576) (h2 : x.2.2.1.length ≤ 1048576) (hf : 10000000 ≤ fu) : ∃ (t : Tav) (ok : Bool), Six t.1 ∧ t.1.length ≤ 1048576 ∧ t.2.2.1.length ≤ 1048576 ∧ p_spec_NewConsole x = some ((t, noLog), ok) ∧ p_impl_NewConsole fu x = some ((t, noLog), ok) := by
  unfold p_spec_NewConsole p_impl_NewConsole
  have e1 : p_spec_l12Good (x.1, (x.2.1, (x.2.2.1, (x.2.2.2.1, (x.2.2.2.2.1, (x.2.2.2.2.2.1, ())))))) = some (tavOK x) := good_eq hx
  have e2 : p_impl_IsTavern fu (x.1, (x.2.1, (x.2.2.1, (x.2.2.2.1, (x.2.2.2.2.1, (x.2.2.2.2.2.1, ())))))) = some (tavOK x) := isTavern_eq h2 hf
  rw [e1, e2]
  simp only [Option.bind_some]
  cases tavOK x with
  | false => exact ⟨([], (0, ([], (0, (0, (0, ())))))), false, fun d hd => by simp at hd, by simp, by simp, rfl, rfl⟩
  | true =>
    simp only [if_true]
    have e3 : p_spec_l12Own (x.1, (x.2.1, (x.2.2.1, (x.2.2.2.1, (x.2.2.2.2.1, (x.2.2.2.2.2.1, ())))))) = some x := by
      unfold p_spec_l12Own p_spec_l2Own p_spec_l1Own
      rw [if_pos (show 0 + (x.1.length : Int) ≤ 1000000000 by omega)]
      simp only [Option.bind_some]
      rw [if_pos (show 0 + (x.2.2.1.length : Int) ≤ 1000000000 by omega)]
      rfl
    have e4 : p_impl_Tavern_own (x.1, (x.2.1, (x.2.2.1, (x.2.2.2.1, (x.2.2.2.2.1, (x.2.2.2.2.2.1, ())))))) = some x := by
      unfold p_impl_Tavern_own p_slices_Clone_6_int_6_int p_slices_Clone_int_int
      rw [if_pos (show 0 + (x.1.length : Int) ≤ 1000000000 by omega)]
      simp only [Option.bind_some]
      rw [if_pos (show 0 + (x.2.2.1.length : Int) ≤ 1000000000 by omega)]
      rfl
    rw [e3, e4]
    exact ⟨x, true, hx, h1, h2, rfl, rfl⟩
theorem pure_FnExactNewConsole {x : Tav} (hx : TavIn x) : ∃ fu, p_laws_FnExactNewConsole fu x = some true := by
  refine ⟨10000000000, ?_⟩
  generalize hf : 10000000000 = fu
  unfold p_laws_FnExactNewConsole
  show (if p_laws_szTavern x 1048576 < 0 then some true else (p_laws_toTavern x).bind _) = some true
  rcases szTavern_cases x hx.l1 hx.l2 with h | ⟨h1, h2, h3⟩
  · rw [if_pos h]
  · rw [if_neg h3]
    rw [toTavern_eq hx.six (by omega) (by omega)]
    simp only [Option.bind_some]
    obtain ⟨t, ok, t6, tl, tl2, e1, e2⟩ := console_eq (x := x) (fu := fu) hx.six h1 h2 (by omega)
    have e1' : p_spec_NewConsole (x.1, (x.2.1, (x.2.2.1, (x.2.2.2.1, (x.2.2.2.2.1, (x.2.2.2.2.2.1, ())))))) = some ((t, noLog), ok) := e1
    have e2' : p_impl_NewConsole fu (x.1, (x.2.1, (x.2.2.1, (x.2.2.2.1, (x.2.2.2.2.1, (x.2.2.2.2.2.1, ())))))) = some ((t, noLog), ok) := e2
    rw [e1', e2']
    simp only [Option.bind_some]
    have ec : p_laws_eqConsole ((t.1, (t.2.1, (t.2.2.1, (t.2.2.2.1, (t.2.2.2.2.1, (t.2.2.2.2.2.1, ())))))), ((noLog.1.1, (noLog.1.2.1, (noLog.1.2.2.1, ()))), ())) ((t.1, (t.2.1, (t.2.2.1, (t.2.2.2.1, (t.2.2.2.2.1, (t.2.2.2.2.2.1, ())))))), ((noLog.1.1, (noLog.1.2.1, (noLog.1.2.2.1, ()))), ())) = true := eqConsole_self (t, noLog)
    have ev : p_laws_eqTavern (x.1, (x.2.1, (x.2.2.1, (x.2.2.2.1, (x.2.2.2.2.1, (x.2.2.2.2.2.1, ())))))) (x.1, (x.2.1, (x.2.2.1, (x.2.2.2.1, (x.2.2.2.2.1, (x.2.2.2.2.2.1, ())))))) = true := eqTavern_self x
    obtain ⟨m1, m2⟩ := heldTav t.1 t.2.2.1 t.2.1 t.2.2.2.1 t.2.2.2.2.1 t.2.2.2.2.2.1 t6 (by omega) (by omega)
    obtain ⟨_, m3⟩ := heldTav x.1 x.2.2.1 x.2.1 x.2.2.2.1 x.2.2.2.2.1 x.2.2.2.2.2.1 hx.six (by omega) (by omega)
    have hx0 : ¬ (1 + 6 * (x.1.length : Int) + (x.2.2.1.length : Int) < 0) := by omega
    have ht0 : ¬ (1 + 6 * (t.1.length : Int) + (t.2.2.1.length : Int) < 0) := by omega
    have hh : p_laws_heldConsole (((p_laws_markConsole t.1 t.2.1 t.2.2.1 t.2.2.2.1 t.2.2.2.2.1 t.2.2.2.2.2.1 noLog.1.1 noLog.1.2.1 noLog.1.2.2.1 1).2.1, (t.2.1, ((p_laws_markConsole t.1 t.2.1 t.2.2.1 t.2.2.2.1 t.2.2.2.2.1 t.2.2.2.2.2.1 noLog.1.1 noLog.1.2.1 noLog.1.2.2.1 1).2.2, (t.2.2.2.1, (t.2.2.2.2.1, (t.2.2.2.2.2.1, ())))))), ((noLog.1.1, (noLog.1.2.1, (noLog.1.2.2.1, ()))), ())) 1 = 1 + 6 * (t.1.length : Int) + (t.2.2.1.length : Int) := by
      unfold p_laws_heldConsole p_laws_markConsole
      simp only
      rw [m1, if_neg ht0]
    have hm : (p_laws_markConsole t.1 t.2.1 t.2.2.1 t.2.2.2.1 t.2.2.2.2.1 t.2.2.2.2.2.1 noLog.1.1 noLog.1.2.1 noLog.1.2.2.1 1).1 = 1 + 6 * (t.1.length : Int) + (t.2.2.1.length : Int) := m2
    rw [ec, ev, m3, hh, hm, decide_eq_false hx0]
    simp only [Bool.not_true, bne_self_eq_false, Bool.or_false, Bool.false_eq_true, if_false, if_true]
    rw [if_neg ht0, if_neg ht0]
end Go.GA
