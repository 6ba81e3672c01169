/- Plain law of IsPlaceFair. -/
import Derived.Test.YtnomfaepgmbogaaMKe
namespace Go.GA.E
open Go
set_option maxRecDepth 100000
set_option linter.unusedVariables false
set_option linter.unusedSimpArgs false
def sumTo (f : Nat → Nat) : Nat → Nat
  | 0 => 0
  | i + 1 => sumTo f i + f i
theorem sumTo_le {f g : Nat → Nat} : ∀ (i : Nat), (∀ j, j < i → f j ≤ g j) → sumTo f i ≤ sumTo g i
  | 0, _ => Nat.le_refl _
  | i + 1, h => Nat.add_le_add (sumTo_le i (fun j hj => h j (by omega))) (h i (by omega))
theorem sumTo_add {f g h : Nat → Nat} : ∀ (i : Nat), (∀ j, j < i → f j + g j = h j) → sumTo f i + sumTo g i = sumTo h i
  | 0, _ => rfl
  | i + 1, hh => by
    have h1 := sumTo_add i (fun j hj => hh j (by omega))
    have h2 := hh i (by omega)
    simp only [sumTo]; omega
theorem sumTo_const (a : Nat) : ∀ (n : Nat), sumTo (fun _ => a) n = n * a
  | 0 => by simp [sumTo]
  | n + 1 => by simp only [sumTo, sumTo_const a n, Nat.succ_mul]
theorem sumTo_congr {f g : Nat → Nat} (i : Nat) (h : ∀ j, j < i → f j = g j) : sumTo f i = sumTo g i :=
  Nat.le_antisymm (sumTo_le i (fun j hj => Nat.le_of_eq (h j hj))) (sumTo_le i (fun j hj => Nat.le_of_eq (h j hj).symm))
end Go.GA.E
