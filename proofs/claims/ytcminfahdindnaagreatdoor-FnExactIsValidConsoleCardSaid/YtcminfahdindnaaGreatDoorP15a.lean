/- Plain laws of what many laws use: copies, comparisons, marks, dice, numbers of a die. -/
import Derived.Test.YtcminfahdindnaaGreatDoorGpA
import Derived.Test.YtcminfahdindnaaGreatDoorC15d
namespace Go.GA
open Go
theorem toIntA6_eq {x : List Int} (h : x.length = 6) : p_laws_toIntA6 x = x := by
  unfold p_laws_toIntA6
  exact cnt_copy x 0 (k := fun _ s => s) (by simp [h]) (by simp [h])
theorem toIntS_eq {x : List Int} (h : x.length ≤ 1000000000) : p_laws_toIntS x = some x := by
  unfold p_laws_toIntS
  rw [if_pos (by omega)]
  exact cnt_copy x 0 (k := fun _ s => some s) (by simp) (by simp)
theorem eqIntS_eq (x y : List Int) : p_laws_eqIntS x y = decide (x = y) := by
  unfold p_laws_eqIntS
  by_cases hl : x.length = y.length
  · rw [if_pos (by omega)]
    have := cnt_eq (0 : Int) true false x.length 0 x y hl (by omega)
    simp only [Int.sub_zero, Int.toNat_natCast]
    simp only [Int.natCast_zero] at this
    rw [this]
    simp
  · rw [if_neg (by omega)]
    have : x ≠ y := fun h => hl (by rw [h])
    simp [this]
theorem wrap_i64 {n : Int} (h1 : -9223372036854775808 ≤ n) (h2 : n ≤ 9223372036854775807) : IntKind.wrap .i64 n = n := wrap_id h1 h2
theorem l2Die_eq {x : List Int} (h : x.length = 6) : p_spec_l2Die x = some (p_impl_IsDie x) := by
  obtain ⟨a, b, c, d, e, f, rfl⟩ := len6 h
  simp [p_spec_l2Die, p_impl_IsDie, p_impl_areAll_int, p_slices_ContainsFunc_int_int, p_slices_IndexFunc_int_int, p_slices_IsSorted_int_int, cnt, cntd, p_spec_l1In, p_impl_areAll_int_1, p_impl_isFace, p_impl_within, p_cmp_Less_int, p_cmp_isNaN_int]
  repeat' split
  all_goals first | omega | (simp; done) | (simp; omega)
theorem l1In_eq (x a b : Int) : p_spec_l1In x a b = decide (a ≤ x ∧ x ≤ b) := by simp [p_spec_l1In]
theorem within_eq (x a b : Int) : p_impl_within x a b = decide (a ≤ x ∧ x ≤ b) := by simp [p_impl_within]
theorem within_In (x a b : Int) : p_impl_within x a b = p_spec_l1In x a b := rfl
/-- all elements are as told -/
theorem noneFunc {α : Type} (b : α → Bool) (dflt : α) (x : List α) : (!decide (0 ≤ cnt (fun i (s : Unit) c _ => if b (x.getD i.toNat dflt) = true then i else c ()) (fun _ _ => (-1 : Int)) (Int.toNat ((x.length : Int) - 0)) 0 ())) = x.all (fun a => !b a) := by
  have := cnt_find b dflt x x.length 0 (by omega)
  simp only [Int.sub_zero, Int.toNat_natCast]
  simp only [Int.natCast_zero] at this
  rw [this, List.drop_zero, List.not_any_eq_all_not]
theorem areAll_eq (x : List Int) : p_impl_areAll_int x = x.all (fun a => p_impl_within a 0 30) := by
  unfold p_impl_areAll_int p_slices_ContainsFunc_int_int p_slices_IndexFunc_int_int
  rw [noneFunc]
  congr 1
  funext a
  simp [p_impl_areAll_int_1, p_impl_isFace]
theorem idxOf_first {v : Int} : ∀ (l : List Int) (i : Nat), i < l.length → l.getD i 0 = v → (∀ j, j < i → l.getD j 0 ≠ v) → l.idxOf v = i
  | [], i, h, _, _ => by simp at h
  | x :: l, 0, _, h, _ => by
    have : x = v := by simpa using h
    simp [List.idxOf_cons, this]
  | x :: l, i + 1, hi, h, hn => by
    have h0 : x ≠ v := by simpa using hn 0 (by omega)
    have := idxOf_first l i (by simpa using hi) (by simpa using h) (fun j hj => by simpa using hn (j + 1) (by omega))
    rw [List.idxOf_cons, this, beq_eq_false_iff_ne.2 h0]; rfl
/-- the place of a number -/
theorem search_eq {R : Type} (l : List Int) (v : Int) (K : Int → Unit → R) :
    cnt (fun i (s : Unit) c k => (if ((decide (i < (l.length : Int))) && (!(decide ((l.getD i.toNat 0) = v)))) = true then c () else k i s)) K (Int.toNat ((l.length : Int) - 0)) 0 () = K (l.idxOf v : Int) () := by
  have key : ∀ (d i : Nat), d + i = l.length → (∀ j, j < i → l.getD j 0 ≠ v) → 
      cnt (fun i (s : Unit) c k => (if ((decide (i < (l.length : Int))) && (!(decide ((l.getD i.toNat 0) = v)))) = true then c () else k i s)) K d (i : Int) () = K (l.idxOf v : Int) () := by
    intro d
    induction d with
    | zero =>
      intro i h hn
      simp only [cnt]
      have : v ∉ l := fun hm => by
        obtain ⟨j, hj, e⟩ := List.getElem_of_mem hm
        exact hn j (by omega) (by simp [List.getD_eq_getElem?_getD, List.getElem?_eq_getElem hj, e])
      rw [List.idxOf_eq_length this, show i = l.length by omega]
    | succ d ih =>
      intro i h hn
      have hi : i < l.length := by omega
      simp only [cnt, Int.toNat_natCast]
      by_cases he : l.getD i 0 = v
      · rw [if_neg (by rw [decide_eq_true he]; simp)]
        have : l.idxOf v = i := idxOf_first l i hi he hn
        rw [this]
      · rw [if_pos (by rw [decide_eq_true (by omega : (i : Int) < (l.length : Int)), decide_eq_false he]; rfl), show (i : Int) + 1 = ((i + 1 : Nat) : Int) from rfl]
        exact ih (i + 1) (by omega) (fun j hj => by
          by_cases hji : j = i
          · subst hji; exact he
          · exact hn j (by omega))
  have := key l.length 0 (by omega) (fun j hj => by omega)
  simpa using this
theorem Index_eq (l : List Int) (v : Int) : p_slices_Index_int_int l v = if v ∈ l then (l.idxOf v : Int) else -1 := by
  unfold p_slices_Index_int_int
  have key : ∀ (d i : Nat), d + i = l.length → (∀ j, j < i → l.getD j 0 ≠ v) → 
      cnt (fun i2 (s1 : Unit) c3 _ => (if v = (l.getD i2.toNat 0) then i2 else c3 ())) (fun i2 (s1 : Unit) => (-1)) d (i : Int) () = if v ∈ l then (l.idxOf v : Int) else -1 := by
    intro d
    induction d with
    | zero =>
      intro i h hn
      simp only [cnt]
      have : v ∉ l := fun hm => by
        obtain ⟨j, hj, e⟩ := List.getElem_of_mem hm
        exact hn j (by omega) (by simp [List.getD_eq_getElem?_getD, List.getElem?_eq_getElem hj, e])
      rw [if_neg this]
    | succ d ih =>
      intro i h hn
      have hi : i < l.length := by omega
      simp only [cnt, Int.toNat_natCast]
      by_cases he : v = l.getD i 0
      · rw [if_pos he]
        have hm : v ∈ l := by rw [he]; simp [List.getD_eq_getElem?_getD, List.getElem?_eq_getElem hi]
        have : l.idxOf v = i := idxOf_first l i hi he.symm hn
        rw [if_pos hm, this]
      · rw [if_neg he, show (i : Int) + 1 = ((i + 1 : Nat) : Int) from rfl]
        exact ih (i + 1) (by omega) (fun j hj => by
          by_cases hji : j = i
          · subst hji; exact fun h => he h.symm
          · exact hn j (by omega))
  have := key l.length 0 (by omega) (fun j hj => by omega)
  simpa using this
theorem has_eq (l : List Int) (v : Int) : p_impl_has l v = decide (v ∈ l) := by
  unfold p_impl_has p_slices_Contains_int_int
  rw [Index_eq]
  by_cases h : v ∈ l
  · simp [h]
  · simp [h]
theorem dd_mem (l : List Int) (v : Int) : v ∈ dd l ↔ v ∈ l := by
  induction l with
  | nil => simp [dd]
  | cons x l ih =>
    cases l with
    | nil => simp [dd]
    | cons y l =>
      rw [dd_cons2]
      split
      · rename_i h; subst h; rw [ih]; simp
      · rw [List.mem_cons, ih]; simp
end Go.GA
