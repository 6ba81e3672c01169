/- Plain laws of what many laws use: copies, comparisons, marks, dice, numbers of a die. -/
import Derived.Test.YtogkhlpljkelpaaGpA
import Derived.Test.YtogkhlpljkelpaaC11md
namespace Go.GA
open Go
theorem toIntA6_eq {x : List Int} (h : x.length = 6) : p_laws_toIntA6 x = x := by
  unfold p_laws_toIntA6
  exact cnt_copy x 0 (k := fun _ s => s) (by simp [h]) (by simp [h])
theorem eqIntS_eq (x y : List Int) : p_laws_eqIntS x y = decide (x = y) := by
  unfold p_laws_eqIntS
  by_cases hl : x.length = y.length
  · rw [if_pos (by omega)]
    have := cnt_eq (0 : Int) true false x.length 0 x y hl (by omega)
    simp only [Int.sub_zero, Int.toNat_natCast]
    simp only [Int.natCast_zero] at this
    rw [this]
    simp
  · rw [if_neg (by omega)]
    have : x ≠ y := fun h => hl (by rw [h])
    simp [this]
/-- numbers from k on -/
def upL : Nat → Int → List Int
  | 0, _ => []
  | n + 1, k => k :: upL n (k + 1)
theorem upL_len : ∀ (n : Nat) (k : Int), (upL n k).length = n
  | 0, _ => rfl
  | n + 1, k => by simp [upL, upL_len n (k + 1)]
theorem wrap_i64 {n : Int} (h1 : -9223372036854775808 ≤ n) (h2 : n ≤ 9223372036854775807) : IntKind.wrap .i64 n = n := wrap_id h1 h2
theorem held_eq (n : Nat) (k : Int) (hk : 0 ≤ k) (hl : k + (n : Int) ≤ 9223372036854775807) : p_laws_heldIntS (upL n k) k = k + n := by
  unfold p_laws_heldIntS
  have key : ∀ (d : Nat) (pre : List Int) (k : Int), 0 ≤ k → k + d ≤ 9223372036854775807 →
      cnt (fun i2 (s1 : Int) c3 _ => (if ((pre ++ upL d k).getD i2.toNat 0) = s1 then c3 (IntKind.wrap .i64 (s1 + 1)) else (-1))) (fun i2 (s1 : Int) => s1) d (pre.length : Int) k = k + d := by
    intro d
    induction d with
    | zero => intro pre k h0 h1; simp [cnt]
    | succ d ih =>
      intro pre k h0 h1
      simp only [cnt, Int.toNat_natCast]
      have e : (pre ++ upL (d + 1) k).getD pre.length 0 = k := by simp [upL, List.getD_eq_getElem?_getD]
      rw [if_pos e, wrap_i64 (by omega) (by omega)]
      have := ih (pre ++ [k]) (k + 1) (by omega) (by omega)
      simp only [List.length_append, List.length_cons, List.length_nil, List.append_assoc, List.cons_append, List.nil_append] at this
      rw [show (pre.length : Int) + 1 = ((pre.length + (0 + 1) : Nat) : Int) by omega]
      refine Eq.trans this ?_
      omega
  have := key n [] k hk hl
  simp only [upL_len, Int.sub_zero, Int.toNat_natCast]
  simpa using this
theorem l2Die_eq {x : List Int} (h : x.length = 6) : p_spec_l2Die x = some (p_impl_IsDie x) := by
  obtain ⟨a, b, c, d, e, f, rfl⟩ := len6 h
  simp [p_spec_l2Die, p_impl_IsDie, p_impl_areAll_int, p_slices_ContainsFunc_int_int, p_slices_IndexFunc_int_int, p_slices_IsSorted_int_int, cnt, cntd, p_spec_l1In, p_impl_areAll_int_1, p_impl_isFace, p_impl_within, p_cmp_Less_int, p_cmp_isNaN_int]
  repeat' split
  all_goals first | omega | (simp; done) | (simp; omega)
theorem within_eq (x a b : Int) : p_impl_within x a b = decide (a ≤ x ∧ x ≤ b) := by simp [p_impl_within]
theorem within_In (x a b : Int) : p_impl_within x a b = p_spec_l1In x a b := rfl
theorem dd_mem (l : List Int) (v : Int) : v ∈ dd l ↔ v ∈ l := by
  induction l with
  | nil => simp [dd]
  | cons x l ih =>
    cases l with
    | nil => simp [dd]
    | cons y l =>
      rw [dd_cons2]
      split
      · rename_i h; subst h; rw [ih]; simp
      · rw [List.mem_cons, ih]; simp
end Go.GA
