/- Plain law of FnStrings: decimals read, number by number. -/
import Derived.Test.YtigjhapmgaejnaaDoorNKb
namespace Go.GA
open Go
set_option maxRecDepth 100000
def numOk (n : Int) : Bool := p_spec_l1Read 10 (numC n) == some (pk (numC n))
theorem nums_0 : (List.range 500).all (fun k => numOk ((k : Int) + (-1000))) = true := by decide +kernel
theorem nums_1 : (List.range 500).all (fun k => numOk ((k : Int) + (-500))) = true := by decide +kernel
theorem nums_2 : (List.range 500).all (fun k => numOk ((k : Int) + (0))) = true := by decide +kernel
theorem nums_3 : (List.range 500).all (fun k => numOk ((k : Int) + (500))) = true := by decide +kernel
theorem nums_fin {n : Int} (h0 : -1000 ≤ n) (h1 : n < 1000) : p_spec_l1Read 10 (numC n) = some (pk (numC n)) := by
  have key : ∀ (b : Int), (List.range 500).all (fun k => numOk ((k : Int) + b)) = true → b ≤ n → n < b + 500 → numOk n = true := by
    intro b h h2 h3
    have := List.all_eq_true.1 h (n - b).toNat (List.mem_range.2 (by omega))
    rwa [show (((n - b).toNat : Nat) : Int) + b = n by omega] at this
  have hh : numOk n = true := by
    by_cases c1 : n < -500
    · exact key _ nums_0 h0 (by omega)
    · by_cases c2 : n < 0
      · exact key _ nums_1 (by omega) (by omega)
      · by_cases c3 : n < 500
        · exact key _ nums_2 (by omega) (by omega)
        · exact key _ nums_3 (by omega) (by omega)
  exact eq_of_beq hh
theorem back_fin0 : (List.range 1000).all (fun k => pk (numC ((k : Int) - 500)) == ((k : Int) - 500, true)) = true := by decide +kernel
theorem back_fin {n : Int} (h0 : -500 ≤ n) (h1 : n < 500) : pk (numC n) = (n, true) := by
  have := List.all_eq_true.1 back_fin0 (n + 500).toNat (List.mem_range.2 (by omega))
  rw [show (((n + 500).toNat : Nat) : Int) - 500 = n by omega] at this
  exact eq_of_beq this
theorem back_more : ∀ k : Int, k ∈ [0, 1, (-1), 10, 999999, (-999999)] → pk (numC k) = (k, true) := by decide +kernel
end Go.GA
