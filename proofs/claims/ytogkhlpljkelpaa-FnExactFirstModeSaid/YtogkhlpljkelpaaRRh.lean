/- Plain laws of ChanceAsRare, ChanceAsFar and ChanceMissing. -/
import Derived.Test.YtogkhlpljkelpaaRRg
namespace Go.GA
open Go
set_option maxRecDepth 100000
section
variable {x y : List Int} {fu : Nat}
theorem tested_eq (n : Nat) : p_impl_isTested (n : Int) = decide (n ≤ 8) := by
  unfold p_impl_isTested
  rw [within_eq]
  by_cases h : n ≤ 8
  · rw [decide_eq_true h, decide_eq_true (by omega)]
  · rw [decide_eq_false h, decide_eq_false (by omega)]
end
end Go.GA
