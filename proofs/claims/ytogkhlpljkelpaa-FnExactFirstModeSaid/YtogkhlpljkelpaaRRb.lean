/- Plain laws of the numbers of a die. -/
import Derived.Test.YtogkhlpljkelpaaRRa
namespace Go.GA
open Go
theorem compact_eq (x : List Int) : p_slices_Compact_int_int x = some (dd x) := by
  unfold p_slices_Compact_int_int
  by_cases h2 : (x.length : Int) < 2
  · rw [if_pos h2]
    match x, h2 with
    | [], _ => rfl
    | [a], _ => rfl
    | a :: b :: l, h => simp at h; omega
  · rw [if_neg h2]
    have outer : ∀ (d i : Nat), 1 ≤ i → d + i = x.length → (∀ j, 0 < j → j < i → x.getD j 0 ≠ x.getD (j - 1) 0) →
        cnt (fun i5 (s4 : Unit) c6 _ => (if (x.getD i5.toNat 0) = (x.getD (i5 - 1).toNat 0) then cnt (fun i15 (s14 : Int × (List Int)) c16 _ => (if (s14.2.getD (i5.toNat + i15.toNat) 0) = (s14.2.getD (i5.toNat + (i15 - 1).toNat) 0) then c16 (s14.1, s14.2) else if s14.1 < (x.length : Int) then c16 ((s14.1 + 1), (s14.2.set s14.1.toNat (s14.2.getD (i5.toNat + i15.toNat) 0))) else none)) (fun i15 (s14 : Int × (List Int)) => if s14.1 ≤ (x.length : Int) then some ((s14.2.take s14.1.toNat ++ (List.replicate ((s14.2.length : Int) - s14.1).toNat 0 ++ s14.2.drop (s14.1.toNat + ((s14.2.length : Int) - s14.1).toNat))).take s14.1.toNat) else none) (Int.toNat (((((x.length : Int) - i5).toNat : Nat) : Int) - 1)) 1 (i5, x) else c6 ())) (fun i5 (s4 : Unit) => some x) d (i : Int) () = some (dd x) := by
      intro d
      induction d with
      | zero =>
        intro i hi h hne
        have := dd_same x i (by omega) hne
        rw [List.take_of_length_le (by omega)] at this
        simp [cnt, this]
      | succ d ih =>
        intro i hi h hne
        have hlt : i < x.length := by omega
        simp only [cnt]
        have e1 : (((i : Int) - 1).toNat) = i - 1 := by omega
        rw [show (i : Int) + 1 = ((i + 1 : Nat) : Int) from rfl, Int.toNat_natCast, e1]
        by_cases he : x.getD i 0 = x.getD (i - 1) 0
        · rw [if_pos he]
          have inner : ∀ (m k w : Nat) (arr : List Int), 1 ≤ k → m + (i + k) = x.length → arr.length = x.length → w + 1 ≤ i + k → arr.take w = dd (x.take (i + k)) → (∀ j, i + k ≤ j + 1 → arr.getD j 0 = x.getD j 0) →
              cnt (fun i15 (s14 : Int × (List Int)) c16 _ => (if (s14.2.getD (i + i15.toNat) 0) = (s14.2.getD (i + (i15 - 1).toNat) 0) then c16 (s14.1, s14.2) else if s14.1 < (x.length : Int) then c16 ((s14.1 + 1), (s14.2.set s14.1.toNat (s14.2.getD (i + i15.toNat) 0))) else none)) (fun i15 (s14 : Int × (List Int)) => if s14.1 ≤ (x.length : Int) then some ((s14.2.take s14.1.toNat ++ (List.replicate ((s14.2.length : Int) - s14.1).toNat 0 ++ s14.2.drop (s14.1.toNat + ((s14.2.length : Int) - s14.1).toNat))).take s14.1.toNat) else none) m (k : Int) ((w : Int), arr) = some (dd x) := by
            intro m
            induction m with
            | zero =>
              intro k w arr hk hm hl hw ht hj
              simp only [cnt]
              rw [if_pos (by omega), Int.toNat_natCast, List.take_append_of_le_length (by rw [List.length_take]; omega), List.take_take, Nat.min_self, ht, List.take_of_length_le (by omega)]
            | succ m ihm =>
              intro k w arr hk hm hl hw ht hj
              simp only [cnt]
              have e2 : (((k : Int) - 1).toNat) = k - 1 := by omega
              rw [show (k : Int) + 1 = ((k + 1 : Nat) : Int) from rfl, Int.toNat_natCast, e2, hj (i + k) (by omega), hj (i + (k - 1)) (by omega)]
              have hdd := dd_take x (i + k - 1) (by omega)
              rw [show i + k - 1 + 2 = i + (k + 1) by omega, show i + k - 1 + 1 = i + k by omega] at hdd
              rw [show i + (k - 1) = i + k - 1 by omega]
              by_cases hh : x.getD (i + k) 0 = x.getD (i + k - 1) 0
              · rw [if_pos hh]
                rw [if_pos hh.symm] at hdd
                exact ihm (k + 1) w arr (by omega) (by omega) hl (by omega) (by rw [hdd]; exact ht) (fun j h' => hj j (by omega))
              · rw [if_neg hh, if_pos (by omega), Int.toNat_natCast, show (w : Int) + 1 = ((w + 1 : Nat) : Int) from rfl]
                rw [if_neg (fun e => hh e.symm)] at hdd
                refine ihm (k + 1) (w + 1) _ (by omega) (by omega) (by rw [List.length_set]; exact hl) (by omega) ?_ (fun j h' => ?_)
                · rw [hdd, ← ht]
                  have hwl : w < arr.length := by omega
                  have h1 : (arr.set w (x.getD (i + k) 0)).take (w + 1) = (arr.set w (x.getD (i + k) 0)).take w ++ [(arr.set w (x.getD (i + k) 0))[w]'(by rw [List.length_set]; exact hwl)] := List.take_succ_eq_append_getElem (by rw [List.length_set]; exact hwl)
                  rw [h1, List.getElem_set_self, List.take_set_of_le (Nat.le_refl w)]
                · have hne' : w ≠ j := by omega
                  rw [List.getD_eq_getElem?_getD, List.getElem?_set_ne hne', ← List.getD_eq_getElem?_getD]
                  exact hj j (by omega)
          have e3 : Int.toNat (((((x.length : Int) - (i : Int)).toNat : Nat) : Int) - 1) = d := by omega
          rw [e3]
          have hdd := dd_take x (i - 1) (by omega)
          rw [show i - 1 + 2 = i + 1 by omega, show i - 1 + 1 = i by omega, if_pos he.symm, dd_same x i (by omega) hne] at hdd
          exact inner d 1 i x (Nat.le_refl 1) (by omega) rfl (by omega) hdd.symm (fun j _ => rfl)
        · rw [if_neg he]
          exact ih (i + 1) (by omega) (by omega) (fun j h0 h1 => by
            by_cases hj : j = i
            · subst hj; exact he
            · exact hne j h0 (by omega))
    have := outer (x.length - 1) 1 (Nat.le_refl 1) (by omega) (fun j h0 h1 => by omega)
    have e : Int.toNat ((x.length : Int) - 1) = x.length - 1 := by omega
    rw [e]
    exact this
end Go.GA
namespace Go.GA
open Go
theorem put_run (s : List Int) (v : Int) (hl : s.length ≤ 100) (m : Nat) (hm : m ≤ s.length) (hlt : ∀ j, j < m → s.getD j 0 < v) (hend : m = s.length ∨ ¬ s.getD m 0 < v) :
    p_spec_l1Put s v = some (if m < s.length ∧ s.getD m 0 = v then s else s.take m ++ [v] ++ s.drop m) := by
  unfold p_spec_l1Put
  have key : ∀ (d i : Nat) (k : Int → Unit → Option (List Int)), d + i = s.length → i ≤ m → cnt (fun i2 (s1 : Unit) c3 k42 => (if ((decide (i2 < (s.length : Int))) && (decide ((s.getD i2.toNat 0) < v))) = true then c3 () else k42 i2 s1)) k d (i : Int) () = k (m : Int) () := by
    intro d
    induction d with
    | zero =>
      intro i k h hi
      simp only [cnt]
      rw [show i = m by omega]
    | succ d ih =>
      intro i k h hi
      simp only [cnt]
      rw [Int.toNat_natCast]
      by_cases him : i = m
      · subst him
        have : ¬ s.getD i 0 < v := by rcases hend with h1 | h1 <;> first | omega | exact h1
        rw [if_neg (by simp; intro _; simpa using this)]
      · have h1 := hlt i (by omega)
        rw [if_pos (by simp; exact ⟨by omega, by simpa using h1⟩), show (i : Int) + 1 = ((i + 1 : Nat) : Int) from rfl]
        exact ih (i + 1) k (by omega) (by omega)
  have e : Int.toNat ((s.length : Int) - 0) = s.length := by omega
  rw [e]
  have := key s.length 0
  simp only [Int.natCast_zero] at this
  rw [this _ (by omega) (by omega)]
  simp only [Int.toNat_natCast]
  by_cases h1 : m < s.length ∧ s.getD m 0 = v
  · rw [if_pos (by simp; exact ⟨by omega, by simpa using h1.2⟩), if_pos h1]
  · rw [if_neg (by
      simp
      intro h2
      have h3 : ¬ s.getD m 0 = v := fun h3 => h1 ⟨by omega, h3⟩
      simpa using h3), if_neg h1]
    rw [if_pos (by omega), if_pos (by omega), if_pos (by omega)]
    have e1 : ((m : Int) - 0).toNat = m := by omega
    have e2 : ((s.length : Int) - (m : Int)).toNat = (s.drop m).length := by rw [List.length_drop]; omega
    rw [e1, e2, List.take_length]
    simp
theorem put_new {s : List Int} {v : Int} (hl : s.length ≤ 100) (h : ∀ j, j < s.length → s.getD j 0 < v) : p_spec_l1Put s v = some (s ++ [v]) := by
  rw [put_run s v hl s.length (Nat.le_refl _) h (.inl rfl), if_neg (by omega)]; simp
theorem put_old {s : List Int} {v : Int} (hl : s.length + 1 ≤ 100) (h : ∀ j, j < s.length → s.getD j 0 < v) : p_spec_l1Put (s ++ [v]) v = some (s ++ [v]) := by
  rw [put_run (s ++ [v]) v (by simpa using hl) s.length (by simp) (fun j hj => by
    have := h j hj
    rw [List.getD_eq_getElem?_getD, List.getElem?_append_left hj, ← List.getD_eq_getElem?_getD]; exact this) (.inr (by simp)), if_pos (by simp)]
theorem dd_last (x : List Int) (hs : ∀ i, i + 1 < x.length → x.getD i 0 ≤ x.getD (i + 1) 0) : ∀ (i : Nat), i < x.length → ∃ t, dd (x.take (i + 1)) = t ++ [x.getD i 0] ∧ ∀ j, j < t.length → t.getD j 0 < x.getD i 0
  | 0, h => by
    cases x with
    | nil => simp at h
    | cons a l => exact ⟨[], by simp [dd], fun j hj => by simp at hj⟩
  | i + 1, h => by
    obtain ⟨t, h1, h2⟩ := dd_last x hs i (by omega)
    have hd := dd_take x i h
    have hle := hs i h
    by_cases he : x.getD i 0 = x.getD (i + 1) 0
    · rw [if_pos he, h1] at hd
      exact ⟨t, by rw [show i + 1 + 1 = i + 2 from rfl, hd, he], fun j hj => by rw [← he]; exact h2 j hj⟩
    · rw [if_neg he, h1] at hd
      refine ⟨t ++ [x.getD i 0], hd, fun j hj => ?_⟩
      rw [List.length_append, List.length_singleton] at hj
      by_cases hjt : j < t.length
      · have := h2 j hjt
        rw [List.getD_eq_getElem?_getD, List.getElem?_append_left hjt, ← List.getD_eq_getElem?_getD]; omega
      · obtain rfl : j = t.length := by omega
        rw [List.getD_eq_getElem?_getD, List.getElem?_append_right (Nat.le_refl _)]
        simp only [Nat.sub_self, List.getElem?_cons_zero, Option.getD_some]
        omega
theorem put_dd (x : List Int) (hl : x.length ≤ 99) (hs : ∀ i, i + 1 < x.length → x.getD i 0 ≤ x.getD (i + 1) 0) (i : Nat) (h : i < x.length) : p_spec_l1Put (dd (x.take i)) (x.getD i 0) = some (dd (x.take (i + 1))) := by
  cases i with
  | zero =>
    cases x with
    | nil => simp at h
    | cons a l =>
      have : dd ((a :: l).take 0) = [] := rfl
      rw [this, put_new (by simp) (fun j hj => by simp at hj)]
      simp [dd]
  | succ i =>
    obtain ⟨t, h1, h2⟩ := dd_last x hs i (by omega)
    have hd := dd_take x i h
    have hle := hs i h
    have htl : t.length + 1 ≤ 99 := by
      have e := congrArg List.length h1
      have := dd_len (x.take (i + 1))
      rw [e, List.length_append, List.length_singleton, List.length_take] at this
      omega
    rw [h1, show i + 1 + 1 = i + 2 from rfl, hd]
    by_cases he : x.getD i 0 = x.getD (i + 1) 0
    · rw [if_pos he, h1, ← he]
      exact put_old (by omega) h2
    · rw [if_neg he, h1]
      refine put_new (by rw [List.length_append, List.length_singleton]; omega) (fun j hj => ?_)
      rw [List.length_append, List.length_singleton] at hj
      by_cases hjt : j < t.length
      · have := h2 j hjt
        rw [List.getD_eq_getElem?_getD, List.getElem?_append_left hjt, ← List.getD_eq_getElem?_getD]; omega
      · obtain rfl : j = t.length := by omega
        rw [List.getD_eq_getElem?_getD, List.getElem?_append_right (Nat.le_refl _)]
        simp only [Nat.sub_self, List.getElem?_cons_zero, Option.getD_some]
        omega
/-- the numbers of a die, from the least on -/
theorem numbers_eq {x : List Int} (h6 : x.length = 6) (hs : ∀ i, i + 1 < x.length → x.getD i 0 ≤ x.getD (i + 1) 0) : p_spec_l8Numbers x = some (dd x) := by
  unfold p_spec_l8Numbers
  have key : ∀ (d i : Nat), d + i = x.length → cnt (fun i2 (s1 : (List Int)) c3 _ => (p_spec_l1Put s1 (x.getD i2.toNat 0)).bind (fun r8 => c3 r8)) (fun i2 (s1 : (List Int)) => some s1) d (i : Int) (dd (x.take i)) = some (dd x) := by
    intro d
    induction d with
    | zero => intro i h; simp only [cnt]; rw [List.take_of_length_le (by omega)]
    | succ d ih =>
      intro i h
      simp only [cnt]
      rw [Int.toNat_natCast, put_dd x (by omega) hs i (by omega)]
      exact ih (i + 1) (by omega)
  have := key 6 0 (by omega)
  simpa [dd] using this
theorem sorted_of_IsDie {x : List Int} (h6 : x.length = 6) (h : p_impl_IsDie x = true) : ∀ i, i + 1 < x.length → x.getD i 0 ≤ x.getD (i + 1) 0 := by
  obtain ⟨a, b, c, d, e, f, rfl⟩ := len6 h6
  simp [p_impl_IsDie, p_slices_IsSorted_int_int, cntd, p_cmp_Less_int, p_cmp_isNaN_int] at h
  intro i hi
  have : i = 0 ∨ i = 1 ∨ i = 2 ∨ i = 3 ∨ i = 4 := by simp at hi; omega
  rcases this with rfl | rfl | rfl | rfl | rfl <;> simp <;> omega
theorem numbers_impl {x : List Int} (h6 : x.length = 6) : p_impl_numbers x = some (dd x) := by
  unfold p_impl_numbers
  simp [p_slices_Clone_int_int, h6, compact_eq]
end Go.GA
