/- Orders, evaluated. -/
import Derived.Test.YtnomfaepgmbogaaMKa
namespace Go.GA.E
open Go
set_option maxRecDepth 100000
set_option linter.unusedVariables false
set_option linter.unusedSimpArgs false
abbrev Ord : Type := (List Int) × Unit
def ordL (n : Nat) : List Ord := (p_impl_orders 2000 (n : Int)).getD []
theorem ord_nodup (n : Nat) (h1 : 1 ≤ n) (h4 : n ≤ 4) : ((ordL n).map (·.1)).Nodup ∧ (ordL n).length ≤ 24 ∧ 1 ≤ (ordL n).length := by
  have : n = 1 ∨ n = 2 ∨ n = 3 ∨ n = 4 := by omega
  rcases this with rfl | rfl | rfl | rfl <;> decide +kernel
end Go.GA.E
