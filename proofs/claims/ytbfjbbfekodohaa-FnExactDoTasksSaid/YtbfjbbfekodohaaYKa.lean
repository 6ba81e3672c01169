/- Plain laws of what many laws use: copies, comparisons, marks, dice, numbers of a die. -/
import Derived.Test.YtbfjbbfekodohaaGpA
import Derived.Test.YtbfjbbfekodohaaC12xd
namespace Go.GA
open Go
theorem toIntA6_eq {x : List Int} (h : x.length = 6) : p_laws_toIntA6 x = x := by
  unfold p_laws_toIntA6
  exact cnt_copy x 0 (k := fun _ s => s) (by simp [h]) (by simp [h])
theorem toIntS_eq {x : List Int} (h : x.length ≤ 1000000000) : p_laws_toIntS x = some x := by
  unfold p_laws_toIntS
  rw [if_pos (by omega)]
  exact cnt_copy x 0 (k := fun _ s => some s) (by simp) (by simp)
theorem eqIntS_eq (x y : List Int) : p_laws_eqIntS x y = decide (x = y) := by
  unfold p_laws_eqIntS
  by_cases hl : x.length = y.length
  · rw [if_pos (by omega)]
    have := cnt_eq (0 : Int) true false x.length 0 x y hl (by omega)
    simp only [Int.sub_zero, Int.toNat_natCast]
    simp only [Int.natCast_zero] at this
    rw [this]
    simp
  · rw [if_neg (by omega)]
    have : x ≠ y := fun h => hl (by rw [h])
    simp [this]
/-- numbers from k on -/
def upL : Nat → Int → List Int
  | 0, _ => []
  | n + 1, k => k :: upL n (k + 1)
theorem upL_len : ∀ (n : Nat) (k : Int), (upL n k).length = n
  | 0, _ => rfl
  | n + 1, k => by simp [upL, upL_len n (k + 1)]
theorem wrap_i64 {n : Int} (h1 : -9223372036854775808 ≤ n) (h2 : n ≤ 9223372036854775807) : IntKind.wrap .i64 n = n := wrap_id h1 h2
theorem mark_eq (x : List Int) (k : Int) (hk : 0 ≤ k) (hl : k + (x.length : Int) ≤ 9223372036854775807) : p_laws_markIntS x k = (k + x.length, upL x.length k) := by
  unfold p_laws_markIntS
  have key : ∀ (d : Nat) (pre post : List Int) (k : Int), post.length = d → 0 ≤ k → k + d ≤ 9223372036854775807 →
      cnt (fun i2 (s1 : Int × (List Int)) c3 _ => c3 ((IntKind.wrap .i64 (s1.1 + 1)), (s1.2.set i2.toNat s1.1))) (fun i2 (s1 : Int × (List Int)) => (s1.1, s1.2)) d (pre.length : Int) (k, pre ++ post) = (k + d, pre ++ upL d k) := by
    intro d
    induction d with
    | zero => intro pre post k hd h0 h1; obtain rfl := List.eq_nil_of_length_eq_zero hd; simp [cnt, upL]
    | succ d ih =>
      intro pre post k hd h0 h1
      match post, hd with
      | p :: post, hd =>
        simp only [cnt]
        rw [Int.toNat_natCast, List.set_append_right _ _ (Nat.le_refl _)]
        simp only [Nat.sub_self, List.set_cons_zero]
        rw [wrap_i64 (by omega) (by omega)]
        have := ih (pre ++ [k]) post (k + 1) (by simpa using hd) (by omega) (by omega)
        simp only [List.length_append, List.length_cons, List.length_nil, List.append_assoc, List.cons_append, List.nil_append] at this
        rw [show (pre.length : Int) + 1 = ((pre.length + (0 + 1) : Nat) : Int) by omega, this]
        simp only [upL, Prod.mk.injEq, and_true]; omega
  have := key x.length [] x k rfl hk hl
  simpa using this
theorem held_eq (n : Nat) (k : Int) (hk : 0 ≤ k) (hl : k + (n : Int) ≤ 9223372036854775807) : p_laws_heldIntS (upL n k) k = k + n := by
  unfold p_laws_heldIntS
  have key : ∀ (d : Nat) (pre : List Int) (k : Int), 0 ≤ k → k + d ≤ 9223372036854775807 →
      cnt (fun i2 (s1 : Int) c3 _ => (if ((pre ++ upL d k).getD i2.toNat 0) = s1 then c3 (IntKind.wrap .i64 (s1 + 1)) else (-1))) (fun i2 (s1 : Int) => s1) d (pre.length : Int) k = k + d := by
    intro d
    induction d with
    | zero => intro pre k h0 h1; simp [cnt]
    | succ d ih =>
      intro pre k h0 h1
      simp only [cnt, Int.toNat_natCast]
      have e : (pre ++ upL (d + 1) k).getD pre.length 0 = k := by simp [upL, List.getD_eq_getElem?_getD]
      rw [if_pos e, wrap_i64 (by omega) (by omega)]
      have := ih (pre ++ [k]) (k + 1) (by omega) (by omega)
      simp only [List.length_append, List.length_cons, List.length_nil, List.append_assoc, List.cons_append, List.nil_append] at this
      rw [show (pre.length : Int) + 1 = ((pre.length + (0 + 1) : Nat) : Int) by omega]
      refine Eq.trans this ?_
      omega
  have := key n [] k hk hl
  simp only [upL_len, Int.sub_zero, Int.toNat_natCast]
  simpa using this
theorem l2Die_eq {x : List Int} (h : x.length = 6) : p_spec_l2Die x = some (p_impl_IsDie x) := by
  obtain ⟨a, b, c, d, e, f, rfl⟩ := len6 h
  simp [p_spec_l2Die, p_impl_IsDie, p_impl_areAll_int, p_slices_ContainsFunc_int_int, p_slices_IndexFunc_int_int, p_slices_IsSorted_int_int, cnt, cntd, p_spec_l1In, p_impl_areAll_int_1, p_impl_isFace, p_impl_within, p_cmp_Less_int, p_cmp_isNaN_int]
  repeat' split
  all_goals first | omega | (simp; done) | (simp; omega)
theorem l1In_eq (x a b : Int) : p_spec_l1In x a b = decide (a ≤ x ∧ x ≤ b) := by simp [p_spec_l1In]
theorem within_eq (x a b : Int) : p_impl_within x a b = decide (a ≤ x ∧ x ≤ b) := by simp [p_impl_within]
theorem within_In (x a b : Int) : p_impl_within x a b = p_spec_l1In x a b := rfl
/-- all elements are as told -/
theorem noneFunc {α : Type} (b : α → Bool) (dflt : α) (x : List α) : (!decide (0 ≤ cnt (fun i (s : Unit) c _ => if b (x.getD i.toNat dflt) = true then i else c ()) (fun _ _ => (-1 : Int)) (Int.toNat ((x.length : Int) - 0)) 0 ())) = x.all (fun a => !b a) := by
  have := cnt_find b dflt x x.length 0 (by omega)
  simp only [Int.sub_zero, Int.toNat_natCast]
  simp only [Int.natCast_zero] at this
  rw [this, List.drop_zero, List.not_any_eq_all_not]
theorem idxOf_first {v : Int} : ∀ (l : List Int) (i : Nat), i < l.length → l.getD i 0 = v → (∀ j, j < i → l.getD j 0 ≠ v) → l.idxOf v = i
  | [], i, h, _, _ => by simp at h
  | x :: l, 0, _, h, _ => by
    have : x = v := by simpa using h
    simp [List.idxOf_cons, this]
  | x :: l, i + 1, hi, h, hn => by
    have h0 : x ≠ v := by simpa using hn 0 (by omega)
    have := idxOf_first l i (by simpa using hi) (by simpa using h) (fun j hj => by simpa using hn (j + 1) (by omega))
    rw [List.idxOf_cons, this, beq_eq_false_iff_ne.2 h0]; rfl
theorem Index_eq (l : List Int) (v : Int) : p_slices_Index_int_int l v = if v ∈ l then (l.idxOf v : Int) else -1 := by
  unfold p_slices_Index_int_int
  have key : ∀ (d i : Nat), d + i = l.length → (∀ j, j < i → l.getD j 0 ≠ v) → 
      cnt (fun i2 (s1 : Unit) c3 _ => (if v = (l.getD i2.toNat 0) then i2 else c3 ())) (fun i2 (s1 : Unit) => (-1)) d (i : Int) () = if v ∈ l then (l.idxOf v : Int) else -1 := by
    intro d
    induction d with
    | zero =>
      intro i h hn
      simp only [cnt]
      have : v ∉ l := fun hm => by
        obtain ⟨j, hj, e⟩ := List.getElem_of_mem hm
        exact hn j (by omega) (by simp [List.getD_eq_getElem?_getD, List.getElem?_eq_getElem hj, e])
      rw [if_neg this]
    | succ d ih =>
      intro i h hn
      have hi : i < l.length := by omega
      simp only [cnt, Int.toNat_natCast]
      by_cases he : v = l.getD i 0
      · rw [if_pos he]
        have hm : v ∈ l := by rw [he]; simp [List.getD_eq_getElem?_getD, List.getElem?_eq_getElem hi]
        have : l.idxOf v = i := idxOf_first l i hi he.symm hn
        rw [if_pos hm, this]
      · rw [if_neg he, show (i : Int) + 1 = ((i + 1 : Nat) : Int) from rfl]
        exact ih (i + 1) (by omega) (fun j hj => by
          by_cases hji : j = i
          · subst hji; exact fun h => he h.symm
          · exact hn j (by omega))
  have := key l.length 0 (by omega) (fun j hj => by omega)
  simpa using this
theorem has_eq (l : List Int) (v : Int) : p_impl_has l v = decide (v ∈ l) := by
  unfold p_impl_has p_slices_Contains_int_int
  rw [Index_eq]
  by_cases h : v ∈ l
  · simp [h]
  · simp [h]
end Go.GA
