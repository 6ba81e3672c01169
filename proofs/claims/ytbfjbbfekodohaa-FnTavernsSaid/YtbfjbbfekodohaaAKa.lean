/- Plain laws of what many laws use: copies, comparisons, marks, dice, numbers of a die. -/
import Derived.Test.YtbfjbbfekodohaaAK3
namespace Go.GA
open Go
theorem wrap_i64 {n : Int} (h1 : -9223372036854775808 ≤ n) (h2 : n ≤ 9223372036854775807) : IntKind.wrap .i64 n = n := wrap_id h1 h2
theorem l2Die_eq {x : List Int} (h : x.length = 6) : p_spec_l2Die x = some (p_impl_IsDie x) := by
  obtain ⟨a, b, c, d, e, f, rfl⟩ := len6 h
  simp [p_spec_l2Die, p_impl_IsDie, p_impl_areAll_int, p_slices_ContainsFunc_int_int, p_slices_IndexFunc_int_int, p_slices_IsSorted_int_int, cnt, cntd, p_spec_l1In, p_impl_areAll_int_1, p_impl_isFace, p_impl_within, p_cmp_Less_int, p_cmp_isNaN_int]
  repeat' split
  all_goals first | omega | (simp; done) | (simp; omega)
theorem l1In_eq (x a b : Int) : p_spec_l1In x a b = decide (a ≤ x ∧ x ≤ b) := by simp [p_spec_l1In]
theorem within_eq (x a b : Int) : p_impl_within x a b = decide (a ≤ x ∧ x ≤ b) := by simp [p_impl_within]
theorem within_In (x a b : Int) : p_impl_within x a b = p_spec_l1In x a b := rfl
theorem idxOf_first {v : Int} : ∀ (l : List Int) (i : Nat), i < l.length → l.getD i 0 = v → (∀ j, j < i → l.getD j 0 ≠ v) → l.idxOf v = i
  | [], i, h, _, _ => by simp at h
  | x :: l, 0, _, h, _ => by
    have : x = v := by simpa using h
    simp [List.idxOf_cons, this]
  | x :: l, i + 1, hi, h, hn => by
    have h0 : x ≠ v := by simpa using hn 0 (by omega)
    have := idxOf_first l i (by simpa using hi) (by simpa using h) (fun j hj => by simpa using hn (j + 1) (by omega))
    rw [List.idxOf_cons, this, beq_eq_false_iff_ne.2 h0]; rfl
theorem Index_eq (l : List Int) (v : Int) : p_slices_Index_int_int l v = if v ∈ l then (l.idxOf v : Int) else -1 := by
  unfold p_slices_Index_int_int
  have key : ∀ (d i : Nat), d + i = l.length → (∀ j, j < i → l.getD j 0 ≠ v) → 
      cnt (fun i2 (s1 : Unit) c3 _ => (if v = (l.getD i2.toNat 0) then i2 else c3 ())) (fun i2 (s1 : Unit) => (-1)) d (i : Int) () = if v ∈ l then (l.idxOf v : Int) else -1 := by
    intro d
    induction d with
    | zero =>
      intro i h hn
      simp only [cnt]
      have : v ∉ l := fun hm => by
        obtain ⟨j, hj, e⟩ := List.getElem_of_mem hm
        exact hn j (by omega) (by simp [List.getD_eq_getElem?_getD, List.getElem?_eq_getElem hj, e])
      rw [if_neg this]
    | succ d ih =>
      intro i h hn
      have hi : i < l.length := by omega
      simp only [cnt, Int.toNat_natCast]
      by_cases he : v = l.getD i 0
      · rw [if_pos he]
        have hm : v ∈ l := by rw [he]; simp [List.getD_eq_getElem?_getD, List.getElem?_eq_getElem hi]
        have : l.idxOf v = i := idxOf_first l i hi he.symm hn
        rw [if_pos hm, this]
      · rw [if_neg he, show (i : Int) + 1 = ((i + 1 : Nat) : Int) from rfl]
        exact ih (i + 1) (by omega) (fun j hj => by
          by_cases hji : j = i
          · subst hji; exact fun h => he h.symm
          · exact hn j (by omega))
  have := key l.length 0 (by omega) (fun j hj => by omega)
  simpa using this
theorem has_eq (l : List Int) (v : Int) : p_impl_has l v = decide (v ∈ l) := by
  unfold p_impl_has p_slices_Contains_int_int
  rw [Index_eq]
  by_cases h : v ∈ l
  · simp [h]
  · simp [h]
end Go.GA
