/- Orders, evaluated. -/
import Derived.Test.YtbaeipeeacpobaaP10a
namespace Go.GA
open Go
set_option maxRecDepth 100000
set_option linter.unusedVariables false
set_option linter.unusedSimpArgs false
abbrev Ord : Type := (List Int) × Unit
def ordL (n : Nat) : List Ord := (p_impl_orders 2000 (n : Int)).getD []
theorem ord_impl1 : p_impl_orders 2000 1 = some (ordL 1) := by decide +kernel
theorem ord_impl2 : p_impl_orders 2000 2 = some (ordL 2) := by decide +kernel
theorem ord_impl3 : p_impl_orders 2000 3 = some (ordL 3) := by decide +kernel
theorem ord_impl4 : p_impl_orders 2000 4 = some (ordL 4) := by decide +kernel
theorem ord_spec1 : p_spec_l10Orders 2000 1 = some (ordL 1) := by decide +kernel
theorem ord_spec2 : p_spec_l10Orders 2000 2 = some (ordL 2) := by decide +kernel
theorem ord_spec3 : p_spec_l10Orders 2000 3 = some (ordL 3) := by decide +kernel
theorem ord_spec4 : p_spec_l10Orders 2000 4 = some (ordL 4) := by decide +kernel
theorem ord_all (n : Nat) (h1 : 1 ≤ n) (h4 : n ≤ 4) : p_impl_orders 2000 (n : Int) = some (ordL n) ∧ p_spec_l10Orders 2000 (n : Int) = some (ordL n) := by
  have : n = 1 ∨ n = 2 ∨ n = 3 ∨ n = 4 := by omega
  rcases this with rfl | rfl | rfl | rfl
  · exact ⟨ord_impl1, ord_spec1⟩
  · exact ⟨ord_impl2, ord_spec2⟩
  · exact ⟨ord_impl3, ord_spec3⟩
  · exact ⟨ord_impl4, ord_spec4⟩
theorem ord_nodup (n : Nat) (h1 : 1 ≤ n) (h4 : n ≤ 4) : ((ordL n).map (·.1)).Nodup ∧ (ordL n).length ≤ 24 ∧ 1 ≤ (ordL n).length := by
  have : n = 1 ∨ n = 2 ∨ n = 3 ∨ n = 4 := by omega
  rcases this with rfl | rfl | rfl | rfl <;> decide +kernel
end Go.GA
