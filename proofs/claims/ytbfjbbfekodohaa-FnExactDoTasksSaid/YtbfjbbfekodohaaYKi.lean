/- Plain law of DoTasks, the whole. -/
import Derived.Test.YtbfjbbfekodohaaYKh
namespace Go.GA
open Go
set_option maxRecDepth 100000
theorem pure_FnExactDoTasks {x : Tav} {xs : List Tsk} (hx : TavIn x) (hxs : xs.length ≤ lim) : ∃ fu, p_laws_FnExactDoTasks fu x xs = some true := by
  refine ⟨10000000000, ?_⟩
  generalize hf : 10000000000 = fu
  unfold p_laws_FnExactDoTasks
  show (if p_laws_szTavern x 1048576 < 0 then some true else (if p_laws_szTaskS xs (p_laws_szTavern x 1048576) < 0 then some true else (p_laws_toTavern x).bind _)) = some true
  rcases szTavern_cases x hx.l1 hx.l2 with h | ⟨h1, h2, h3⟩
  · rw [if_pos h]
  · rw [if_neg h3]
    rcases szTaskS_cases xs _ hxs (by omega) (szTavern_le x hx.l1 hx.l2) with h | ⟨h4, h5⟩
    · rw [if_pos h]
    · rw [if_neg h5, toTavern_eq hx.six (by omega) (by omega), toTaskS_eq (by omega), Option.bind_some, Option.bind_some]
      obtain ⟨t, n, b, e1, e2, t6, tl, tl2⟩ := tasks_eq (x := x) (xs := xs) hx.six h1 h2 (show 10000000 ≤ fu by omega)
      have e1' : p_spec_DoTasks fu (x.1, (x.2.1, (x.2.2.1, (x.2.2.2.1, (x.2.2.2.2.1, (x.2.2.2.2.2.1, ())))))) xs = some (t, n, b) := e1
      have e2' : p_impl_DoTasks fu (x.1, (x.2.1, (x.2.2.1, (x.2.2.2.1, (x.2.2.2.2.1, (x.2.2.2.2.2.1, ())))))) xs = some (t, n, b) := e2
      rw [e1']
      simp only [Option.bind_some]
      rw [e2']
      simp only [Option.bind_some]
      have ec : p_laws_eqTavern (t.1, (t.2.1, (t.2.2.1, (t.2.2.2.1, (t.2.2.2.2.1, (t.2.2.2.2.2.1, ())))))) (t.1, (t.2.1, (t.2.2.1, (t.2.2.2.1, (t.2.2.2.2.1, (t.2.2.2.2.2.1, ())))))) = true := eqTavern_self t
      have ev : p_laws_eqTavern (x.1, (x.2.1, (x.2.2.1, (x.2.2.2.1, (x.2.2.2.2.1, (x.2.2.2.2.2.1, ())))))) (x.1, (x.2.1, (x.2.2.1, (x.2.2.2.1, (x.2.2.2.2.1, (x.2.2.2.2.2.1, ())))))) = true := eqTavern_self x
      obtain ⟨m1, m2⟩ := heldTav t.1 t.2.2.1 t.2.1 t.2.2.2.1 t.2.2.2.2.1 t.2.2.2.2.2.1 t6 (by omega) (by omega)
      obtain ⟨_, m3⟩ := heldTav x.1 x.2.2.1 x.2.1 x.2.2.2.1 x.2.2.2.2.1 x.2.2.2.2.2.1 hx.six (by omega) (by omega)
      have ht0 : ¬ (1 + 6 * (t.1.length : Int) + (t.2.2.1.length : Int) < 0) := by omega
      have hm0 := markTaskS_pos (x := xs) (k := 1 + 6 * (x.1.length : Int) + (x.2.2.1.length : Int)) h4 (by omega) (by omega)
      rw [ec, ev, eqTaskS_self, m3, m1, m2, decide_eq_false hm0]
      simp only [Bool.not_true, bne_self_eq_false, Bool.or_false, Bool.false_eq_true, if_false, if_true, decide_true]
      rw [if_neg ht0, if_neg ht0]
end Go.GA
