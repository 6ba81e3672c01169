/- Plain law of FnLetters: pools of letters, mended letters. -/
import Derived.Test.YtnomfaepgmbogaaMKg
import Derived.Test.YtnomfaepgmbogaaMKf
namespace Go.GA.E
open Go
set_option maxRecDepth 100000
theorem from_letters {x : List Int} {m : Nat} (hx : x.length = 6 * m) (h1 : 1 ≤ m) (h4 : m ≤ 4) : (Good m x → p_impl_fromLetters x = some (poolAt m x x.length, true)) ∧ (¬ Good m x → p_impl_fromLetters x = some ([], false)) := by
  unfold p_impl_fromLetters
  rw [div6 hx (by omega), mod6 hx, within_eq, decide_eq_true (by omega : (1 : Int) ≤ (m : Int) ∧ (m : Int) ≤ 4)]
  simp only [decide_true, Bool.not_true, Bool.or_false, Bool.false_eq_true, if_false]
  rw [if_pos (by omega), if_pos (by omega), Int.toNat_natCast]
  refine cnt_ind0 x.length (fun i s => s.1 = poolAt m x i ∧ CN m x i s.2 ∧ (∀ k, k < i → 0 ≤ x.getD k 0 ∧ x.getD k 0 < (m : Int)) ∧ ∀ j, j < m → (x.take i).count (j : Int) ≤ 6) (fun r => (Good m x → r = some (poolAt m x x.length, true)) ∧ (¬ Good m x → r = some ([], false))) (by omega)
    ⟨rfl, CN.zero m x, fun k hk => by omega, fun j hj => by simp⟩ (fun s ⟨hs, _, hr, hcn⟩ => ?_) (fun i s c hi ⟨hs, hcm, hr, hcn⟩ hc => ?_)
  · refine ⟨fun _ => by rw [hs], fun hn => (hn ⟨hr, fun j hj => ?_⟩).elim⟩
    rw [List.take_of_length_le (Nat.le_refl _)] at hcn
    have hsum := sum_count m x (fun v hv => by
      obtain ⟨k, hk, e⟩ := List.getElem_of_mem hv
      have := hr k hk
      rw [getD_lt hk, e] at this; exact this)
    rcases Nat.lt_or_ge (x.count (j : Int)) 6 with hlt | hge
    · exfalso
      have hle : ∀ k : Nat, k ≤ m → sumTo (fun j => x.count (j : Int)) k + (if j < k then 1 else 0) ≤ 6 * k := by
        intro k
        induction k with
        | zero => intro _; simp [sumTo]
        | succ k ik =>
          intro hk
          have := hcn k (by omega)
          simp only [sumTo]
          have i1 := ik (by omega)
          have c1 : j = k → x.count (k : Int) < 6 := fun e => by rw [← e]; exact hlt
          clear ik
          by_cases e : j < k
          · rw [if_pos e] at i1; rw [if_pos (by omega)]; omega
          · rw [if_neg e] at i1
            by_cases e2 : j = k
            · have := c1 e2; rw [if_pos (by omega)]; omega
            · rw [if_neg (by omega)]; omega
      have := hle m (Nat.le_refl _)
      rw [if_pos hj, hsum] at this; omega
    · have := hcn j hj; omega
  · rw [Int.toNat_natCast, within_eq]
    by_cases e : 0 ≤ x.getD i 0 ∧ x.getD i 0 ≤ (m : Int) - 1
    · have e2 : ((x.getD i 0).toNat : Int) = x.getD i 0 := by omega
      have hat := hcm.at_ (x.getD i 0).toNat (by omega)
      rw [e2] at hat
      rw [decide_eq_true e, if_pos (fun _ => e.1), if_pos (fun _ => by omega), hat]
      have a1 := count_get x hi (x.getD i 0)
      rw [if_pos rfl] at a1
      have hle := hcn (x.getD i 0).toNat (by omega)
      rw [e2] at hle
      by_cases h6 : (x.take i).count (x.getD i 0) = 6
      · rw [if_pos (by rw [h6]; simp)]
        refine ⟨fun hg => ?_, fun _ => rfl⟩
        exfalso
        have a2 := count_le x (i + 1) (x.getD i 0)
        have a3 := hg.2 (x.getD i 0).toNat (by omega)
        rw [e2] at a3
        omega
      · rw [if_neg (by rw [decide_eq_false (show ¬ (((x.take i).count (x.getD i 0) : Nat) : Int) = 6 by omega)]; simp), if_pos e.1, if_pos (by omega), if_pos (by omega), if_pos (by omega), Int.toNat_natCast]
        refine hc _ ⟨?_, hcm.step hi e.1 (by omega) (by rw [hat]), fun k hk => ?_, fun j hj => ?_⟩
        · rw [hs]; rfl
        · by_cases e3 : k = i
          · rw [e3]; omega
          · exact hr k (by omega)
        · rw [count_get x hi]
          by_cases e4 : x.getD i 0 = (j : Int)
          · rw [if_pos e4]; rw [e4] at h6 hle; omega
          · rw [if_neg e4]; exact hcn j hj
    · rw [decide_eq_false e, if_pos (by intro hh; simp at hh), if_pos (by intro hh; simp at hh), if_pos (by simp)]
      exact ⟨fun hg => by have := hg.1 i hi; omega, fun _ => rfl⟩
theorem spread_ok {x : List Int} {m fu : Nat} (hF : Fuel fu) (hx : x.length = 6 * m) (h1 : 1 ≤ m) (h4 : m ≤ 4) (hg : Good m x) : ∃ (out : List Int) (M L : Int), p_impl_LettersWays fu x = some (out, true) ∧ p_slices_Max_int_int out = some M ∧ p_slices_Min_int_int out = some L ∧ p_spec_l10Spread fu x = some (IntKind.wrap .i64 (M - L)) := by
  have hl := poolAt_len m x x.length
  obtain ⟨out, hw, e1, e2⟩ := ways_both (p := poolAt m x x.length) hF (by omega) (by omega)
  obtain ⟨_, _, hn1⟩ := ord_nodup (poolAt m x x.length).length (by omega) (by omega)
  have ho := hw.len
  obtain ⟨M, m1, m2, jM, m3, m4⟩ := max_ok out (by omega)
  obtain ⟨L, l1, l2, jL, l3, l4⟩ := min_ok out (by omega)
  refine ⟨out, M, L, ?_, m1, l1, ?_⟩
  · unfold p_impl_LettersWays
    rw [(from_letters hx h1 h4).1 hg, Option.bind_some, if_pos rfl, e1]; rfl
  · unfold p_spec_l10Spread
    rw [pool_letters hx h1 h4 hg, Option.bind_some, e2, Option.bind_some, if_pos (by omega)]
    refine cnt_ind0 out.length (fun i s => (∃ j, j < out.length ∧ out.getD j 0 = s.1) ∧ (∀ j, j < i → s.1 ≤ out.getD j 0) ∧ (∃ j, j < out.length ∧ out.getD j 0 = s.2) ∧ ∀ j, j < i → out.getD j 0 ≤ s.2) (fun r => r = some (IntKind.wrap .i64 (M - L))) (by omega)
      ⟨⟨0, by omega, rfl⟩, fun j hj => by omega, ⟨0, by omega, rfl⟩, fun j hj => by omega⟩ (fun s ⟨⟨a, a1, a2⟩, b, ⟨c, c1, c2⟩, d⟩ => ?_) (fun i s c hi ⟨⟨a, a1, a2⟩, b, ⟨q, c1, c2⟩, d⟩ hc => ?_)
    · have e1 : s.1 = L := by have := l2 a a1; have := b jL l3; omega
      have e2 : s.2 = M := by have := m2 c c1; have := d jM m3; omega
      rw [e1, e2]
    · rw [Int.toNat_natCast]
      refine hc _ ⟨?_, fun j hj => ?_, ?_, fun j hj => ?_⟩
      · simp only [p_spec_l1Least]
        split
        · exact ⟨a, a1, a2⟩
        · exact ⟨i, hi, rfl⟩
      · simp only [p_spec_l1Least]
        by_cases e : j = i
        · subst e; split <;> omega
        · have := b j (by omega); split <;> omega
      · simp only [p_spec_l1Most]
        split
        · exact ⟨q, c1, c2⟩
        · exact ⟨i, hi, rfl⟩
      · simp only [p_spec_l1Most]
        by_cases e : j = i
        · subst e; split <;> omega
        · have := d j (by omega); split <;> omega
def swapAt (x : List Int) (k : Nat) : List Int := (x.set k (x.getD (k + 1) 0)).set (k + 1) (x.getD k 0)
theorem swap_perm {x : List Int} {k : Nat} (h : k + 1 < x.length) : (swapAt x k).Perm x := by
  unfold swapAt
  rw [getD_lt h, getD_lt (by omega : k < x.length)]
  exact List.set_set_perm (by omega) h
theorem swap_len (x : List Int) (k : Nat) : (swapAt x k).length = x.length := by simp [swapAt]
theorem swap_good {x : List Int} {m k : Nat} (hg : Good m x) (h : k + 1 < x.length) : Good m (swapAt x k) := by
  have hp := swap_perm h
  refine ⟨fun i hi => ?_, fun j hj => by rw [hp.count_eq]; exact hg.2 j hj⟩
  have hm : (swapAt x k).getD i 0 ∈ x := by
    refine hp.mem_iff.1 ?_
    rw [getD_lt hi]; exact List.getElem_mem _
  obtain ⟨q, hq, e⟩ := List.getElem_of_mem hm
  have := hg.1 q hq
  rw [getD_lt hq, e] at this; exact this
end Go.GA.E
