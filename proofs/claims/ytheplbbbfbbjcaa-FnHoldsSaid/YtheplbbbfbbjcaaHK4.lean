/- Plain law of FnHolds: pools, both ways. -/
import Derived.Test.YtheplbbbfbbjcaaHK3
namespace Go.GA
open Go
set_option maxRecDepth 100000
theorem l2Die_eq {x : List Int} (h : x.length = 6) : p_spec_l2Die x = some (p_impl_IsDie x) := by
  obtain ⟨a, b, c, d, e, f, rfl⟩ := len6 h
  simp [p_spec_l2Die, p_impl_IsDie, p_impl_areAll_int, p_slices_ContainsFunc_int_int, p_slices_IndexFunc_int_int, p_slices_IsSorted_int_int, cnt, cntd, p_spec_l1In, p_impl_areAll_int_1, p_impl_isFace, p_impl_within, p_cmp_Less_int, p_cmp_isNaN_int]
  repeat' split
  all_goals first | omega | (simp; done) | (simp; omega)
theorem pl1In_eq (x a b : Int) : p_spec_l1In x a b = decide (a ≤ x ∧ x ≤ b) := by simp [p_spec_l1In]
theorem pwithin_eq (x a b : Int) : p_impl_within x a b = decide (a ≤ x ∧ x ≤ b) := by simp [p_impl_within]
theorem pwithin_In (x a b : Int) : p_impl_within x a b = p_spec_l1In x a b := rfl
def Six (p : List (List Int)) : Prop := ∀ d ∈ p, d.length = 6
theorem getD_six {p : List (List Int)} (h : Six p) {i : Nat} (hi : i < p.length) : (p.getD i (List.replicate 6 0)).length = 6 := by
  rw [List.getD_eq_getElem?_getD, List.getElem?_eq_getElem hi]
  exact h _ (List.getElem_mem _)
theorem faces_all (x : List Int) : p_impl_areAll_int x = x.all (fun a => p_impl_within a 0 30) := by
  unfold p_impl_areAll_int p_slices_ContainsFunc_int_int p_slices_IndexFunc_int_int
  rw [noneFunc]
  congr 1
  funext a
  simp [p_impl_areAll_int_1, p_impl_isFace]
theorem isDie6 (a b c d e f : Int) : p_impl_IsDie [a, b, c, d, e, f] = true ↔ (0 ≤ a ∧ a ≤ b ∧ b ≤ c ∧ c ≤ d ∧ d ≤ e ∧ e ≤ f ∧ f ≤ 30) := by
  unfold p_impl_IsDie
  rw [faces_all]
  simp [p_slices_IsSorted_int_int, cntd, pwithin_eq, p_cmp_Less_int, p_cmp_isNaN_int]
  omega
theorem die6_of {x : List Int} (h : x.length = 6) (hd : p_impl_IsDie x = true) : Die6 x := by
  obtain ⟨a, b, c, d, e, f, rfl⟩ := len6 h
  exact ⟨a, b, c, d, e, f, rfl, (isDie6 a b c d e f).1 hd⟩
end Go.GA
