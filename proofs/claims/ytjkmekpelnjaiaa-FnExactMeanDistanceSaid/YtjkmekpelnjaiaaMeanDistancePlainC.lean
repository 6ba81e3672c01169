/- Walks: what the Go functions compute, by the printed lines below. -/
import Derived.Test.YtjkmekpelnjaiaaMeanDistancePlainB
namespace Go.GA
open Go Go.Proofs
theorem toIntA6_eq {x : List Int} (h : x.length = 6) : p_laws_toIntA6 x = x := by
  unfold p_laws_toIntA6
  exact cnt_copy x 0 (k := fun _ s => s) (by simp [h]) (by simp [h])
theorem l2Die_eq {x : List Int} (h : x.length = 6) : p_spec_l2Die x = some (p_impl_IsDie x) := by
  obtain ⟨a, b, c, d, e, f, rfl⟩ := len6 h
  simp [p_spec_l2Die, p_impl_IsDie, p_impl_areAll_int, p_slices_ContainsFunc_int_int, p_slices_IndexFunc_int_int, p_slices_IsSorted_int_int, cnt, cntd, p_spec_l1In, p_impl_areAll_int_1, p_impl_isFace, p_impl_within, p_cmp_Less_int, p_cmp_isNaN_int]
  repeat' split
  all_goals first | omega | (simp; done) | (simp; omega)
theorem eqIntA2_self (a b : Int) : p_laws_eqIntA2 [a, b] [a, b] = true := by
  simp [p_laws_eqIntA2, cnt]
theorem mean_eq {x : List Int} (h : x.length = 6) (n : Int) : ∃ a b q, p_spec_MeanDistance x n = some ([a, b], q) ∧ p_impl_MeanDistance x n = some ([a, b], q) := by
  unfold p_spec_MeanDistance p_impl_MeanDistance p_spec_l11Tested
  rw [l2Die_eq h]
  cases hd : p_impl_IsDie x with
  | false => exact ⟨0, 0, false, by simp [List.replicate], by simp [List.replicate]⟩
  | true =>
    rw [numbers_eq h (sorted_of_IsDie h hd), numbers_impl h]
    by_cases hn : 1 ≤ n ∧ n ≤ 8
    · have e1 : p_spec_l1In n 0 8 = true := by simp [p_spec_l1In]; omega
      have e2 : p_impl_within n 1 8 = true := by simp [p_impl_within]; omega
      have e3 : ¬ n = 0 := by omega
      exact ⟨((dd x).length : Int) - 1, 1, true, by simp [e1, e3], by simp [e2]⟩
    · have e2 : p_impl_within n 1 8 = false := by simp [p_impl_within]; omega
      refine ⟨0, 0, false, ?_, by simp [e2, List.replicate]⟩
      by_cases hn0 : n = 0
      · simp [hn0, List.replicate]
      · have e1 : p_spec_l1In n 0 8 = false := by simp [p_spec_l1In]; omega
        simp [e1, List.replicate]
theorem pure_FnExactMeanDistance {a : List Int} {n : Int} (ha : a.length = 6) : p_laws_FnExactMeanDistance a n = some true := by
  unfold p_laws_FnExactMeanDistance
  rw [toIntA6_eq ha]
  obtain ⟨u, v, q, h1, h2⟩ := mean_eq ha n
  rw [h1, h2]
  simp [eqIntA2_self]
end Go.GA
