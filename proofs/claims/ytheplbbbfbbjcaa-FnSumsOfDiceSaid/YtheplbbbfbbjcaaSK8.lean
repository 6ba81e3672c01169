/- Plain law of FnSumsOfDice: spread, bounds, tops. -/
import Derived.Test.YtheplbbbfbbjcaaSK7
namespace Go.GA
open Go
set_option maxRecDepth 100000
theorem pr_lrun {R : Type} (k : Int × Int → R) : ∀ (l : List Int) (s : Int × Int), (∀ a ∈ l, 0 ≤ a ∧ a ≤ 30) → 0 ≤ s.1 → 0 ≤ s.2 → s.1 + 30 * l.length ≤ 1000000000 → s.2 + 900 * l.length ≤ 1000000000 → lrun (fun a (s : Int × Int) c => c ((IntKind.wrap .i64 (s.1 + a)), (IntKind.wrap .i64 (s.2 + IntKind.wrap .i64 (a * a))))) k l s = k (s.1 + l.sum, s.2 + sq l)
  | [], s, _, _, _, _, _ => by simp [lrun, sq]
  | a :: l, s, h, h0, h1, hb, hb2 => by
    have ha := h a (by simp)
    have e : sq (a :: l) = a * a + sq l := by simp [sq]
    have g1 : 0 ≤ a * a := Int.mul_nonneg ha.1 ha.1
    have g2 : a * a ≤ 30 * 30 := Int.mul_le_mul ha.2 ha.2 ha.1 (by omega)
    rw [List.length_cons] at hb hb2
    show lrun _ k l (IntKind.wrap .i64 (s.1 + a), IntKind.wrap .i64 (s.2 + IntKind.wrap .i64 (a * a))) = _
    rw [wr (n := a * a) (by omega) (by omega), wr (n := s.1 + a) (by omega) (by omega), wr (by omega) (by omega), pr_lrun k l (s.1 + a, s.2 + a * a) (fun b hb => h b (by simp [hb])) (by simp; omega) (by simp; omega) (by simp; omega) (by simp; omega), e, List.sum_cons]
    congr 1
    simp only [Prod.mk.injEq]
    omega
theorem fV_le (s : Int) {d : List Int} (h : Die6 d) : s ≤ fV s d ∧ fV s d ≤ s + 32400 := by
  have h1 := h.sum
  have h2 := spread_nn h
  have h3 : 0 ≤ d.sum * d.sum := Int.mul_nonneg h1.1 h1.1
  unfold fV
  omega
section
variable {x : List (List Int)} (h6 : Six x) (hp : p_impl_IsPool x = true)
include h6 hp
theorem spread_eq {fu : Nat} (hf : 2000 < fu) : p_impl_SpreadOf fu x = some (cutF (x.foldl fV 0).toNat 36, true) ∧ p_spec_SpreadOf fu x = some (cutF (x.foldl fV 0).toNat 36, true) := by
  obtain ⟨_, hm, hd⟩ := pool_six h6 hp
  have hb := fold_le h6 hp (G := fV) (B := 32400) (fun s d h => fV_le s h) (by omega)
  have en : ((x.foldl fV 0).toNat : Int) = x.foldl fV 0 := by omega
  constructor
  · unfold p_impl_SpreadOf
    rw [if_pos hp]
    rw [cnt_list (fun (d : List Int) (s : Int) (c : Int → Option (List Int × Bool)) => cnt (fun i10 (s9 : Int) c11 _ => c11 (IntKind.wrap .i64 (s9 + (IntKind.wrap .i64 ((d.getD i10.toNat 0) * (d.getD i10.toNat 0)))))) (fun i10 (s9 : Int) => c (IntKind.wrap .i64 (s + (IntKind.wrap .i64 ((IntKind.wrap .i64 (6 * s9)) - (IntKind.wrap .i64 ((p_impl_total d) * (p_impl_total d)))))))) (Int.toNat (6 - 0)) 0 0) x (List.replicate 6 0) (by omega) (fun _ _ _ _ _ => rfl)]
    rw [(dice_lrun (G := fV) (fun s n => 0 ≤ s ∧ s ≤ 32400 * n) (fun s => (p_impl_fraction fu s 36).bind (fun r9 => some (r9, true))) (fun d s c n h hn hi => by
      have h1 := h.sum
      have h2 := spread_nn h
      have h3 := fV_le s h
      have h4 : 0 ≤ d.sum * d.sum := Int.mul_nonneg h1.1 h1.1
      rw [cnt_list (fun (a : Int) (s : Int) (c : Int → Option (List Int × Bool)) => c (IntKind.wrap .i64 (s + IntKind.wrap .i64 (a * a)))) d 0 (by rw [h.len]; rfl) (fun _ _ _ _ _ => rfl)]
      rw [sq_lrun _ d 0 (fun a ha => ⟨(h.face a ha).1, (h.face a ha).2.1⟩) (by omega) (by rw [h.len]; omega)]
      rw [total_eq (fun a ha => (h.face a ha).1) (by omega), Int.zero_add]
      rw [wr (n := 6 * sq d) (by omega) (by omega), wr (n := d.sum * d.sum) (by omega) (by omega), wr (n := 6 * sq d - d.sum * d.sum) (by omega) (by omega), wr (by omega) (by omega)]
      exact ⟨rfl, by omega, by omega⟩) x 0 0 hd (by omega) ⟨by omega, by omega⟩).1]
    have := fraction_eq (fu := fu) (x.foldl fV 0).toNat 36 (by omega) (by omega) (by omega) (by omega)
    rw [en] at this
    have this' : p_impl_fraction fu (x.foldl fV 0) 36 = some (cutF (x.foldl fV 0).toNat 36) := this
    rw [this', Option.bind_some]
  · unfold p_spec_SpreadOf
    rw [pool_eq h6, Option.bind_some, if_pos hp]
    rw [cnt_list (fun (d : List Int) (s : Int) (c : Int → Option (List Int × Bool)) => cnt (fun i11 (s10 : Int × Int) c12 _ => c12 ((IntKind.wrap .i64 (s10.1 + (d.getD i11.toNat 0))), (IntKind.wrap .i64 (s10.2 + (IntKind.wrap .i64 ((d.getD i11.toNat 0) * (d.getD i11.toNat 0))))))) (fun i11 (s10 : Int × Int) => c (IntKind.wrap .i64 ((IntKind.wrap .i64 (s + (IntKind.wrap .i64 (6 * s10.2)))) - (IntKind.wrap .i64 (s10.1 * s10.1))))) (Int.toNat (6 - 0)) 0 (0, 0)) x (List.replicate 6 0) (by omega) (fun _ _ _ _ _ => rfl)]
    rw [(dice_lrun (G := fV) (fun s n => 0 ≤ s ∧ s ≤ 32400 * n) (fun s => (p_spec_l2Cut fu s 36).bind (fun r17 => some (r17, true))) (fun d s c n h hn hi => by
      have h1 := h.sum
      have h2 := spread_nn h
      have h3 := fV_le s h
      have h4 : 0 ≤ d.sum * d.sum := Int.mul_nonneg h1.1 h1.1
      rw [cnt_list (fun (a : Int) (s : Int × Int) (c : Int × Int → Option (List Int × Bool)) => c ((IntKind.wrap .i64 (s.1 + a)), (IntKind.wrap .i64 (s.2 + IntKind.wrap .i64 (a * a))))) d 0 (by rw [h.len]; rfl) (fun _ _ _ _ _ => rfl)]
      rw [pr_lrun _ d (0, 0) (fun a ha => ⟨(h.face a ha).1, (h.face a ha).2.1⟩) (by simp) (by simp) (by rw [h.len]; simp) (by rw [h.len]; simp)]
      simp only [Int.zero_add]
      have e : s + 6 * sq d - d.sum * d.sum = fV s d := by unfold fV; omega
      rw [wr (n := 6 * sq d) (by omega) (by omega), wr (n := d.sum * d.sum) (by omega) (by omega), wr (n := s + 6 * sq d) (by omega) (by omega), e, wr (by omega) (by omega)]
      exact ⟨rfl, by omega, by omega⟩) x 0 0 hd (by omega) ⟨by omega, by omega⟩).1]
    have := cut_eq (fu := fu) (x.foldl fV 0).toNat 36 (by omega) (by omega) (by omega) (by omega)
    rw [en] at this
    have this' : p_spec_l2Cut fu (x.foldl fV 0) 36 = some (cutF (x.foldl fV 0).toNat 36) := this
    rw [this', Option.bind_some]
omit h6 hp in
theorem fold_pair : ∀ (x : List (List Int)) (a b : Int), x.foldl (fun (s : Int × Int) d => (fLo s.1 d, fHi s.2 d)) (a, b) = (x.foldl fLo a, x.foldl fHi b)
  | [], _, _ => rfl
  | d :: x, a, b => by simp only [List.foldl_cons]; exact fold_pair x _ _
theorem bounds_run {R : Type} (k : Int × Int → R) : lrun (fun (d : List Int) (s : Int × Int) c => c ((IntKind.wrap .i64 (s.1 + (d.getD 0 0))), (IntKind.wrap .i64 (s.2 + (d.getD 5 0))))) k x (0, 0) = k (x.foldl fLo 0, x.foldl fHi 0) := by
  obtain ⟨_, hm, hd⟩ := pool_six h6 hp
  rw [(dice_lrun (G := fun (s : Int × Int) d => (fLo s.1 d, fHi s.2 d)) (fun s n => (0 ≤ s.1 ∧ s.1 ≤ 30 * n) ∧ (0 ≤ s.2 ∧ s.2 ≤ 30 * n)) k (fun d s c n h hn hi => by
      have h1 := h.face _ h.ends.1
      have h2 := h.face _ h.ends.2
      rw [wr (n := s.1 + d.getD 0 0) (by omega) (by omega), wr (by omega) (by omega)]
      refine ⟨rfl, ⟨?_, ?_⟩, ⟨?_, ?_⟩⟩ <;> simp only [fLo, fHi] <;> omega) x (0, 0) 0 hd (by omega) ⟨⟨by simp, by simp⟩, ⟨by simp, by simp⟩⟩).1]
  rw [fold_pair]
theorem bounds_eq : p_impl_BoundsOf x = (x.foldl fLo 0, x.foldl fHi 0, true) ∧ p_spec_BoundsOf x = some (x.foldl fLo 0, x.foldl fHi 0, true) := by
  constructor
  · have e : p_impl_bounds x = (x.foldl fLo 0, x.foldl fHi 0) := by
      unfold p_impl_bounds
      rw [cnt_list (fun (d : List Int) (s : Int × Int) (c : Int × Int → Int × Int) => c ((IntKind.wrap .i64 (s.1 + (d.getD 0 0))), (IntKind.wrap .i64 (s.2 + (d.getD 5 0))))) x (List.replicate 6 0) (by omega) (fun _ _ _ _ _ => rfl)]
      exact bounds_run h6 hp (fun s => (s.1, s.2))
    unfold p_impl_BoundsOf
    rw [if_pos hp, e]
  · unfold p_spec_BoundsOf
    rw [pool_eq h6, Option.bind_some, if_pos hp]
    rw [cnt_list (fun (d : List Int) (s : Int × Int) (c : Int × Int → Option (Int × Int × Bool)) => c ((IntKind.wrap .i64 (s.1 + (d.getD 0 0))), (IntKind.wrap .i64 (s.2 + (d.getD 5 0))))) x (List.replicate 6 0) (by omega) (fun _ _ _ _ _ => rfl)]
    exact bounds_run h6 hp (fun s => some (s.1, s.2, true))
end
/-! ### the sums with the most ways -/
def tops (T : List Int) (M : Int) : Nat → List Int
  | 0 => []
  | n + 1 => if T.getD n 0 = M then tops T M n ++ [(n : Int)] else tops T M n
theorem tops_len (T : List Int) (M : Int) : ∀ n, (tops T M n).length ≤ n
  | 0 => by simp [tops]
  | n + 1 => by
    have := tops_len T M n
    simp only [tops]
    split
    · simp; omega
    · omega
theorem tops_none {T : List Int} {M : Int} : ∀ n, (∀ j, j < n → T.getD j 0 ≠ M) → tops T M n = []
  | 0, _ => rfl
  | n + 1, h => by
    simp only [tops]
    rw [if_neg (h n (by omega)), tops_none n (fun j hj => h j (by omega))]
theorem mem_tops {T : List Int} {M : Int} (v : Nat) : ∀ n, ((v : Int) ∈ tops T M n ↔ v < n ∧ T.getD v 0 = M)
  | 0 => by simp [tops]
  | n + 1 => by
    have ih := mem_tops (T := T) (M := M) v n
    simp only [tops]
    by_cases h : T.getD n 0 = M
    · rw [if_pos h, List.mem_append, ih]
      simp only [List.mem_cons, List.not_mem_nil, or_false]
      constructor
      · rintro (⟨a, b⟩ | e)
        · exact ⟨by omega, b⟩
        · have : v = n := by omega
          subst this; exact ⟨by omega, h⟩
      · rintro ⟨a, b⟩
        by_cases e : v = n
        · right; omega
        · left; exact ⟨by omega, b⟩
    · rw [if_neg h, ih]
      constructor
      · rintro ⟨a, b⟩; exact ⟨by omega, b⟩
      · rintro ⟨a, b⟩
        have : v ≠ n := fun e => h (by rw [← e]; exact b)
        exact ⟨by omega, b⟩
def MaxOf (T : List Int) (M : Int) (n : Nat) : Prop := (∀ j, j < n → T.getD j 0 ≤ M) ∧ ∃ j, j < n ∧ T.getD j 0 = M
theorem max_eq {T : List Int} (hl : T.length = 121) : ∃ M, p_slices_Max_int_int T = some M ∧ MaxOf T M 121 := by
  unfold p_slices_Max_int_int
  rw [if_neg (by omega)]
  have h0 : MaxOf T (T.getD 0 0) 1 := by
    refine ⟨fun j hj => ?_, 0, by omega, rfl⟩
    have : j = 0 := by omega
    subst this
    exact Int.le_refl _
  refine cnt_ind (S := Int) (f := fun i5 (s4 : Int) (c6 : Int → Option Int) _ => c6 (if (T.getD i5.toNat 0) > s4 then (T.getD i5.toNat 0) else s4)) (k := fun i5 (s4 : Int) => some s4) 121 (fun i s => MaxOf T s i) (fun r => ∃ M, r = some M ∧ MaxOf T M 121) (fun s hs => ⟨s, rfl, hs⟩) (fun i s c hi hs hc => hc _ ?_) (Int.toNat ((T.length : Int) - 1)) 1 (T.getD 0 0) (by omega) h0
  rw [Int.toNat_natCast]
  obtain ⟨h1, j, hj, h2⟩ := hs
  by_cases hg : T.getD i 0 > s
  · rw [if_pos hg]
    refine ⟨fun q hq => ?_, i, by omega, rfl⟩
    by_cases e : q = i
    · subst e; exact Int.le_refl _
    · have := h1 q (by omega); omega
  · rw [if_neg hg]
    refine ⟨fun q hq => ?_, j, by omega, h2⟩
    by_cases e : q = i
    · subst e; omega
    · exact h1 q (by omega)
section
variable {x : List (List Int)} (h6 : Six x) (hp : p_impl_IsPool x = true)
include h6 hp
theorem tops_eq : ∃ M, MaxOf (tabOf x) M 121 ∧ 1 ≤ M ∧ p_impl_TopSums x = some (tops (tabOf x) M 121, M, true) ∧ p_spec_TopSums x = some (tops (tabOf x) M 121, M, true) := by
  obtain ⟨a, b, c, t⟩ := tab_facts h6 hp
  obtain ⟨M, e1, hM⟩ := max_eq c.len
  have hM1 : 1 ≤ M := by
    have hlo : (x.foldl fLo 0).toNat < 121 := by
      by_cases hc : (x.foldl fLo 0).toNat < (tabOf x).length
      · rw [← c.len]; exact hc
      · have := t.lo1
        rw [List.getD_eq_getElem?_getD, List.getElem?_eq_none (by omega)] at this
        simp at this
    have := hM.1 _ hlo
    have := t.lo1
    omega
  refine ⟨M, hM, hM1, ?_, ?_⟩
  · unfold p_impl_TopSums
    rw [if_pos hp, a, Option.bind_some, e1, Option.bind_some]
    refine cnt_ind0 (S := List Int) 121 (fun i s => s = tops (tabOf x) M i) (fun r => r = some (tops (tabOf x) M 121, M, true)) rfl rfl (fun s hs => by rw [hs]) (fun i s c' hi hs hc => ?_)
    rw [Int.toNat_natCast]
    have hl := tops_len (tabOf x) M i
    by_cases h : (tabOf x).getD i 0 = M
    · rw [if_pos h, hs, if_pos (by omega)]
      exact hc _ (by simp only [tops]; rw [if_pos h])
    · rw [if_neg h]
      exact hc _ (by simp only [tops]; rw [if_neg h]; exact hs)
  · unfold p_spec_TopSums
    rw [pool_eq h6, Option.bind_some, if_pos hp, b, Option.bind_some]
    refine cnt_ind0 (S := Int × List Int) 121 (fun i s => 0 ≤ s.1 ∧ (∀ j, j < i → (tabOf x).getD j 0 ≤ s.1) ∧ (s.1 = 0 ∨ ∃ j, j < i ∧ (tabOf x).getD j 0 = s.1) ∧ s.2 = if 0 < s.1 then tops (tabOf x) s.1 i else []) (fun r => r = some (tops (tabOf x) M 121, M, true)) rfl ⟨by simp, fun j hj => by omega, .inl rfl, by simp⟩ (fun s hs => ?_) (fun i s c' hi hs hc => ?_)
    · obtain ⟨s0, s1, s2, s3⟩ := hs
      obtain ⟨m1, j, hj, m2⟩ := hM
      have g1 := s1 j hj
      have e : s.1 = M := by
        rcases s2 with h | ⟨q, hq, h⟩
        · omega
        · have := m1 q hq; omega
      rw [s3, e, if_pos (by omega)]
    · obtain ⟨s0, s1, s2, s3⟩ := hs
      unfold jn
      simp only [Int.toNat_natCast]
      by_cases h : s.1 < (tabOf x).getD i 0
      · rw [if_pos h, if_pos (by simp only [decide_true, Bool.true_and, decide_eq_true_eq]; omega), if_pos (by simp)]
        refine hc _ ⟨by show 0 ≤ (tabOf x).getD i 0; omega, fun j hj => ?_, .inr ⟨i, by omega, rfl⟩, ?_⟩
        · by_cases e : j = i
          · subst e; exact Int.le_refl _
          · have := s1 j (by omega); simp only; omega
        · simp only
          rw [if_pos (by omega)]
          simp only [tops, if_true]
          rw [tops_none i (fun j hj => by have := s1 j hj; omega)]
      · rw [if_neg h]
        by_cases h2 : (tabOf x).getD i 0 = s.1 ∧ 0 < s.1
        · have hl := tops_len (tabOf x) s.1 i
          rw [if_pos (by simpa using h2), if_pos (by rw [s3, if_pos h2.2]; omega)]
          refine hc _ ⟨s0, fun j hj => ?_, .inr ⟨i, by omega, h2.1⟩, ?_⟩
          · by_cases e : j = i
            · subst e; simp only; omega
            · exact s1 j (by omega)
          · simp only
            rw [s3, if_pos h2.2, if_pos h2.2]
            simp only [tops]
            rw [if_pos h2.1]
        · rw [if_neg (by simpa using h2)]
          refine hc _ ⟨s0, fun j hj => ?_, ?_, ?_⟩
          · by_cases e : j = i
            · subst e; simp only; omega
            · exact s1 j (by omega)
          · rcases s2 with q | ⟨q, hq, hh⟩
            · exact .inl q
            · exact .inr ⟨q, by omega, hh⟩
          · simp only
            rw [s3]
            by_cases h3 : 0 < s.1
            · rw [if_pos h3, if_pos h3]
              simp only [tops]
              rw [if_neg (fun e => h2 ⟨e, h3⟩)]
            · rw [if_neg h3, if_neg h3]
end
end Go.GA
