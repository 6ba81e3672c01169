/- Plain laws of OrderWays, WaysAt, IsOrderFair and IsFirstFair. -/
import Derived.Test.YtkjiaieabelpmaaAGd
namespace Go.GA.E
open Go
set_option maxRecDepth 100000
set_option linter.unusedVariables false
set_option linter.unusedSimpArgs false
/-! ### Ways at a place -/
/-! ### All the same -/
theorem max_ok (l : List Int) (h : 1 ≤ l.length) : ∃ M, p_slices_Max_int_int l = some M ∧ (∀ i, i < l.length → l.getD i 0 ≤ M) ∧ ∃ i, i < l.length ∧ l.getD i 0 = M := by
  unfold p_slices_Max_int_int
  rw [if_neg (by omega)]
  have := cnt_ind l.length (fun i (s : Int) => (∀ j, j < i → l.getD j 0 ≤ s) ∧ ∃ j, j < i ∧ l.getD j 0 = s) (fun r : Option Int => ∃ M, r = some M ∧ (∀ i, i < l.length → l.getD i 0 ≤ M) ∧ ∃ i, i < l.length ∧ l.getD i 0 = M) (f := fun i5 (s4 : Int) c6 _ => c6 (if (l.getD i5.toNat 0) > s4 then (l.getD i5.toNat 0) else s4)) (k := fun i5 (s4 : Int) => some s4)
    (fun s ⟨h1, h2⟩ => ⟨s, rfl, h1, h2⟩) (fun i s c hi ⟨h1, j, hj, e⟩ hc => by
      refine hc _ ?_
      rw [Int.toNat_natCast]
      by_cases hg : l.getD i 0 > s
      · rw [if_pos hg]
        refine ⟨fun k hk => ?_, i, by omega, rfl⟩
        by_cases hki : k = i
        · rw [hki]; exact Int.le_refl _
        · have := h1 k (by omega); omega
      · rw [if_neg hg]
        refine ⟨fun k hk => ?_, j, by omega, e⟩
        by_cases hki : k = i
        · rw [hki]; omega
        · exact h1 k (by omega)) (l.length - 1) 1 (l.getD 0 0) (by omega) ⟨fun k hk => (show k = 0 by omega) ▸ Int.le_refl _, 0, by omega, rfl⟩
  have e : Int.toNat ((l.length : Int) - 1) = l.length - 1 := by omega
  rw [e]
  exact this
theorem min_ok (l : List Int) (h : 1 ≤ l.length) : ∃ M, p_slices_Min_int_int l = some M ∧ (∀ i, i < l.length → M ≤ l.getD i 0) ∧ ∃ i, i < l.length ∧ l.getD i 0 = M := by
  unfold p_slices_Min_int_int
  rw [if_neg (by omega)]
  have := cnt_ind l.length (fun i (s : Int) => (∀ j, j < i → s ≤ l.getD j 0) ∧ ∃ j, j < i ∧ l.getD j 0 = s) (fun r : Option Int => ∃ M, r = some M ∧ (∀ i, i < l.length → M ≤ l.getD i 0) ∧ ∃ i, i < l.length ∧ l.getD i 0 = M) (f := fun i5 (s4 : Int) c6 _ => c6 (if (l.getD i5.toNat 0) < s4 then (l.getD i5.toNat 0) else s4)) (k := fun i5 (s4 : Int) => some s4)
    (fun s ⟨h1, h2⟩ => ⟨s, rfl, h1, h2⟩) (fun i s c hi ⟨h1, j, hj, e⟩ hc => by
      refine hc _ ?_
      rw [Int.toNat_natCast]
      by_cases hg : l.getD i 0 < s
      · rw [if_pos hg]
        refine ⟨fun k hk => ?_, i, by omega, rfl⟩
        by_cases hki : k = i
        · rw [hki]; exact Int.le_refl _
        · have := h1 k (by omega); omega
      · rw [if_neg hg]
        refine ⟨fun k hk => ?_, j, by omega, e⟩
        by_cases hki : k = i
        · rw [hki]; omega
        · exact h1 k (by omega)) (l.length - 1) 1 (l.getD 0 0) (by omega) ⟨fun k hk => (show k = 0 by omega) ▸ Int.le_refl _, 0, by omega, rfl⟩
  have e : Int.toNat ((l.length : Int) - 1) = l.length - 1 := by omega
  rw [e]
  exact this
/-! ### One place -/
end Go.GA.E
