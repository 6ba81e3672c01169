/- Plain law: a task turns a tavern alike. -/
import Derived.Test.YtbfjbbfekodohaaAKd
namespace Go.GA
open Go
set_option maxRecDepth 100000
theorem rolled_eq {fu : Nat} {p : List (List Int)} {sd : Int} {l : List Int} {tot best c : Int} (set before : Int) (hp : p.length ≤ 1000) (hl : l.length ≤ 1000) (h1 : 0 ≤ sd) (h2 : sd ≤ 65535) (hf : 10000000 ≤ fu) :
    p_spec_l12Rolled fu (p, (sd, (l, (tot, (best, (c, ())))))) set before = some (p, ((runR p set p.length 0 sd l).1, ((runR p set p.length 0 sd l).2, ((IntKind.wrap .i64 ((IntKind.wrap .i64 (tot + (p_impl_total (runR p set p.length 0 sd l).2))) - before)), ((p_spec_l1Most best (p_impl_total (runR p set p.length 0 sd l).2)), (c, ())))))) := by
  unfold p_spec_l12Rolled p_spec_l1Own
  rw [if_pos (show 0 + (l.length : Int) ≤ 1000000000 by omega), Option.bind_some, List.nil_append]
  exact spec_run p set hp (fun s3 => some (p, (s3.2.1, (s3.2.2, ((IntKind.wrap .i64 ((IntKind.wrap .i64 (tot + (p_spec_l12Add s3.2.2))) - before)), ((p_spec_l1Most best (p_spec_l12Add s3.2.2)), (c, ()))))))) (fun _ _ => rfl) p.length 0 fu sd l rfl (by omega) h1 h2 hl (by omega)
theorem roll_eq {p : List (List Int)} {sd : Int} {l : List Int} {tot best c : Int} (set : Int) (hp : p.length ≤ 1000) (ha : ∀ i, i < p.length → bitS set (i : Nat) = true) (h1 : 0 ≤ sd) (h2 : sd ≤ 65535) :
    p_impl_Tavern_roll sd tot best c p l = some (true, (runR p set p.length 0 sd []).1, (IntKind.wrap .i64 (tot + (p_impl_total (runR p set p.length 0 sd []).2))), (if (p_impl_total (runR p set p.length 0 sd []).2) > best then (p_impl_total (runR p set p.length 0 sd []).2) else best), (runR p set p.length 0 sd []).2) := by
  unfold p_impl_Tavern_roll
  rw [show Int.toNat ((p.length : Int) - 0) = p.length by omega]
  exact roll_run p set hp ha tot best c (fun s1 => some (true, s1.1, (IntKind.wrap .i64 (tot + (p_impl_total s1.2))), (if (p_impl_total s1.2) > best then (p_impl_total s1.2) else best), s1.2)) (fun _ _ _ _ => rfl) p.length 0 sd [] rfl h1 h2 rfl
theorem again_eq {p : List (List Int)} {sd : Int} {l : List Int} {tot best c : Int} (set : Int) (hc : ¬ ((decide ((l.length : Int) = 0)) || (!(p_impl_within set 1 (IntKind.wrap .i64 ((shlI .i64 1 (p.length : Int)) - 1))))) = true) (hl : l.length = p.length) (h1 : 0 ≤ sd) (h2 : sd ≤ 65535) :
    p_impl_Tavern_again set sd tot best c p l = some (true, (runR p set p.length 0 sd l).1, (IntKind.wrap .i64 (tot + (IntKind.wrap .i64 ((p_impl_total (runR p set p.length 0 sd l).2) - (p_impl_total l))))), (if (p_impl_total (runR p set p.length 0 sd l).2) > best then (p_impl_total (runR p set p.length 0 sd l).2) else best), (runR p set p.length 0 sd l).2) := by
  unfold p_impl_Tavern_again
  rw [if_neg hc, show Int.toNat ((p.length : Int) - 0) = p.length by omega]
  exact again_run p set tot best c l.length hl (fun s25 => some (true, s25.1, (IntKind.wrap .i64 (tot + (IntKind.wrap .i64 ((p_impl_total s25.2) - (p_impl_total l))))), (if (p_impl_total s25.2) > best then (p_impl_total s25.2) else best), s25.2)) (fun _ _ _ _ => rfl) p.length 0 sd l rfl h1 h2 hl
theorem ww0 (a : Int) : IntKind.wrap .i64 (IntKind.wrap .i64 a - 0) = IntKind.wrap .i64 a := by
  simp only [IntKind.wrap_i64]; omega
theorem ww1 (t a b : Int) : IntKind.wrap .i64 (IntKind.wrap .i64 (t + a) - b) = IntKind.wrap .i64 (t + IntKind.wrap .i64 (a - b)) := by
  simp only [IntKind.wrap_i64]; omega
theorem iter_len {α : Type} (g : Int → List α → List α) (hg : ∀ i s, (g i s).length = s.length) : ∀ (d : Nat) (i : Int) (s : List α), (iter g d i s).length = s.length
  | 0, _, _ => rfl
  | d + 1, i, s => by simp only [iter]; rw [iter_len g hg d (i + 1), hg]
theorem shifted_len {d : List Int} (by' : Int) (h : d.length = 6) : (p_impl_shifted d by').length = 6 := by
  unfold p_impl_shifted
  rw [cnt_iter, iter_len _ (fun i s => by simp) _ _ _, h]
theorem shift_eq {d : List Int} (by' : Int) (h : d.length = 6) : p_spec_ShiftDie d by' = some (p_impl_ShiftDie d by') ∧ (p_impl_ShiftDie d by').1.length = 6 := by
  have hl := shifted_len by' h
  have e1 : p_spec_ShiftDie d by' = (if ((!(p_impl_IsDie d)) || (!(p_impl_within by' (-30) 30))) = true then some ((List.replicate 6 0), false) else (if p_impl_IsDie (p_impl_shifted d by') = true then some (p_impl_shifted d by', true) else some ((List.replicate 6 0), false))) := by
    unfold p_spec_ShiftDie
    rw [l2Die_eq h, Option.bind_some, cnt_iter]
    have e2 : p_impl_shifted d by' = iter (fun i9 (s8 : List Int) => s8.set i9.toNat (IntKind.wrap .i64 ((s8.getD i9.toNat 0) + by'))) (Int.toNat (6 - 0)) 0 d := by
      unfold p_impl_shifted
      rw [cnt_iter]
    rw [← e2, l2Die_eq hl, Option.bind_some]
    rfl
  rw [e1]
  unfold p_impl_ShiftDie
  cases p_impl_IsDie d <;> cases p_impl_within by' (-30) 30 <;> cases p_impl_IsDie (p_impl_shifted d by') <;> simp [hl]
end Go.GA
