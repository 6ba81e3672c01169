/- Plain law of ChanceOfCounts. -/
import Derived.Test.YtogkhlpljkelpaaRRd
namespace Go.GA
open Go
theorem orders_eq (fu : Nat) (x : List Int) : p_spec_l11Orders fu x = p_impl_arrangements fu x := rfl
def fact : Nat → Nat
  | 0 => 1
  | n + 1 => (n + 1) * fact n
theorem fact_mono {a b : Nat} (h : a ≤ b) : fact a ≤ fact b := by
  induction b with
  | zero => obtain rfl : a = 0 := by omega
            exact Nat.le_refl _
  | succ b ih =>
    by_cases e : a = b + 1
    · subst e; exact Nat.le_refl _
    · exact Nat.le_trans (ih (by omega)) (Nat.le_mul_of_pos_left _ (by omega))
/-- the inner loop: 'many' more rolls -/
theorem arr_run {R : Type} (many : Nat) (C : Int × Int → Option R) (hm : many ≤ 12) : ∀ (j k fu : Nat) (o n : Nat), k + j = many → j < fu → n + j ≤ 12 → o ≤ fact n →
    ∃ o' : Nat, o' ≤ fact (n + j) ∧ whl (fun (s8 : Int × Int × Int) c10 => (if s8.2.2 ≤ (many : Int) then if s8.2.2 ≠ 0 then c10 ((IntKind.wrap .i64 ((IntKind.wrap .i64 (s8.1 * (IntKind.wrap .i64 (s8.2.1 + 1)))).tdiv s8.2.2)), (IntKind.wrap .i64 (s8.2.1 + 1)), (IntKind.wrap .i64 (s8.2.2 + 1))) else none else C (s8.1, s8.2.1))) fu ((o : Int), (n : Int), ((k + 1 : Nat) : Int)) = C ((o' : Int), ((n + j : Nat) : Int))
  | 0, k, fu, o, n, h, hf, hn, ho => by
    obtain ⟨f, rfl⟩ : ∃ f, fu = f + 1 := ⟨fu - 1, by omega⟩
    refine ⟨o, ho, ?_⟩
    simp only [whl]
    rw [if_neg (by omega)]
    rfl
  | j + 1, k, fu, o, n, h, hf, hn, ho => by
    obtain ⟨f, rfl⟩ : ∃ f, fu = f + 1 := ⟨fu - 1, by omega⟩
    have f12 : fact 12 = 479001600 := by decide
    have h1 : o * (n + 1) ≤ fact (n + 1) := by
      rw [Nat.mul_comm]; exact Nat.mul_le_mul_left _ ho
    have h2 : fact (n + 1) ≤ fact 12 := fact_mono (by omega)
    have h3 : o * (n + 1) / (k + 1) ≤ fact (n + 1) := Nat.le_trans (Nat.div_le_self _ _) h1
    obtain ⟨o', ho', e⟩ := arr_run many C hm j (k + 1) f (o * (n + 1) / (k + 1)) (n + 1) (by omega) (by omega) (by omega) h3
    refine ⟨o', by rw [show n + (j + 1) = n + 1 + j by omega]; exact ho', ?_⟩
    simp only [whl]
    rw [if_pos (by omega), if_pos (by omega), wrap_i64 (n := (n : Int) + 1) (by omega) (by omega), show (n : Int) + 1 = ((n + 1 : Nat) : Int) from rfl, ← Int.natCast_mul, wrap_nat (n := o * (n + 1)) (by omega), tdiv_nat, wrap_nat (n := o * (n + 1) / (k + 1)) (by omega), wrap_i64 (by omega) (by omega)]
    rw [show n + (j + 1) = n + 1 + j by omega]
    exact e
end Go.GA
