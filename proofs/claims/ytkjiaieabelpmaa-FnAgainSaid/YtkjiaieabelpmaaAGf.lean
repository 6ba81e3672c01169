/- Plain law of FnAgain: waits, phrases of one letter, faces counted. -/
import Derived.Test.YtkjiaieabelpmaaAGb
namespace Go.GA.E
open Go
set_option maxRecDepth 100000
/-- two fractions compared crosswise -/
theorem less_any (a b N M : Nat) (hN : 0 < N) (hM : 0 < M) (ha : a ≤ 2176782336) (hb : b ≤ 2176782336) (hN2 : N ≤ 2176782336) (hM2 : M ≤ 2176782336) : p_laws_vLess (cutF a N) (cutF b M) = decide (a * M < b * N) := by
  unfold p_laws_vLess
  have hg : 0 < Nat.gcd a N := Nat.gcd_pos_of_pos_right _ hN
  have hh : 0 < Nat.gcd b M := Nat.gcd_pos_of_pos_right _ hM
  have e0 : (cutF a N).getD 0 0 = ((a / Nat.gcd a N : Nat) : Int) := rfl
  have e1 : (cutF a N).getD 1 0 = ((N / Nat.gcd a N : Nat) : Int) := rfl
  have e2 : (cutF b M).getD 0 0 = ((b / Nat.gcd b M : Nat) : Int) := rfl
  have e3 : (cutF b M).getD 1 0 = ((M / Nat.gcd b M : Nat) : Int) := rfl
  rw [e0, e1, e2, e3]
  have ea : a / Nat.gcd a N * Nat.gcd a N = a := Nat.div_mul_cancel (Nat.gcd_dvd_left _ _)
  have eN : N / Nat.gcd a N * Nat.gcd a N = N := Nat.div_mul_cancel (Nat.gcd_dvd_right _ _)
  have eb : b / Nat.gcd b M * Nat.gcd b M = b := Nat.div_mul_cancel (Nat.gcd_dvd_left _ _)
  have eM : M / Nat.gcd b M * Nat.gcd b M = M := Nat.div_mul_cancel (Nat.gcd_dvd_right _ _)
  have la := Nat.div_le_self a (Nat.gcd a N)
  have lb := Nat.div_le_self b (Nat.gcd b M)
  have lc := Nat.div_le_self N (Nat.gcd a N)
  have ld := Nat.div_le_self M (Nat.gcd b M)
  generalize a / Nat.gcd a N = A at *
  generalize b / Nat.gcd b M = B at *
  generalize N / Nat.gcd a N = C at *
  generalize M / Nat.gcd b M = D at *
  have m1 : A * D ≤ 2176782336 * 2176782336 := Nat.mul_le_mul (by omega) (by omega)
  have m2 : B * C ≤ 2176782336 * 2176782336 := Nat.mul_le_mul (by omega) (by omega)
  rw [← Int.natCast_mul, ← Int.natCast_mul, wrap_nat (n := A * D) (by omega), wrap_nat (n := B * C) (by omega)]
  have t1 : A * D * (Nat.gcd a N * Nat.gcd b M) = a * M := by rw [Nat.mul_mul_mul_comm, ea, eM]
  have t2 : B * C * (Nat.gcd a N * Nat.gcd b M) = b * N := by rw [Nat.mul_comm (Nat.gcd a N), Nat.mul_mul_mul_comm, eb, eN]
  have key : A * D < B * C ↔ a * M < b * N := by
    rw [← Nat.mul_lt_mul_right (Nat.mul_pos hg hh), t1, t2]
  by_cases hab : a * M < b * N
  · rw [decide_eq_true hab, decide_eq_true (by have := key.2 hab; omega)]
  · rw [decide_eq_false hab, decide_eq_false (by have : ¬ A * D < B * C := fun h => hab (key.1 h); omega)]
section
variable {x : List Int} {fu : Nat}
/-! ### phrases of one letter -/
end
end Go.GA.E
