/- The ways of all orders: both texts alike. -/
import Derived.Test.YtkjiaieabelpmaaAGa
namespace Go.GA.E
open Go
set_option maxRecDepth 100000
set_option linter.unusedVariables false
set_option linter.unusedSimpArgs false
theorem pow_run (m n : Nat) (hm : m ≤ 6) (hn : n ≤ 1000) : ∀ (k i c fu : Nat), i + k = n → k < fu → c * 6 ^ k ≤ 6 ^ 24 →
    whl (fun (s1 : Int × Int) c3 => (if s1.2 < (n : Int) then c3 ((IntKind.wrap .i64 (s1.1 * (m : Int))), (IntKind.wrap .i64 (s1.2 + 1))) else some s1.1)) fu ((c : Int), (i : Int)) = some ((c * m ^ k : Nat) : Int)
  | 0, i, c, fu, h, hf, _ => by
    obtain ⟨f, rfl⟩ : ∃ f, fu = f + 1 := ⟨fu - 1, by omega⟩
    simp only [whl]
    rw [if_neg (by omega)]
    simp
  | k + 1, i, c, fu, h, hf, hb => by
    obtain ⟨f, rfl⟩ : ∃ f, fu = f + 1 := ⟨fu - 1, by omega⟩
    have e1 : c * 6 * 6 ^ k ≤ 6 ^ 24 := by rw [Nat.mul_assoc, ← Nat.pow_succ']; exact hb
    have e2 : c * m * 6 ^ k ≤ 6 ^ 24 := Nat.le_trans (Nat.mul_le_mul_right _ (Nat.mul_le_mul_left _ hm)) e1
    have e3 : c * m ≤ 6 ^ 24 := Nat.le_trans (Nat.le_mul_of_pos_right _ (Nat.pow_pos (by omega))) e2
    have e4 : (6 : Nat) ^ 24 = 4738381338321616896 := by decide
    simp only [whl]
    rw [if_pos (by omega), ← Int.natCast_mul, wrap_i64 (n := ((c * m : Nat) : Int)) (by omega) (by omega), wrap_i64 (by omega) (by omega)]
    have := pow_run m n hm hn k (i + 1) (c * m) f (by omega) (by omega) e2
    rw [show (i : Int) + 1 = ((i + 1 : Nat) : Int) from rfl, this, Nat.pow_succ', Nat.mul_assoc]
theorem power_eq {fu : Nat} (n : Nat) (hn : n ≤ 24) (hf : n < fu) : p_impl_power fu (n : Int) = some ((6 ^ n : Nat) : Int) := by
  unfold p_impl_power
  have := pow_run 6 n (Nat.le_refl _) (by omega) n 0 1 fu (by omega) hf (by rw [Nat.one_mul]; exact Nat.pow_le_pow_right (by omega) hn)
  simpa using this
theorem all_power (fu : Nat) (n : Int) : p_spec_l2All fu n = p_impl_power fu n := rfl
/-! ### Where an order stands -/
/-- counts: numbers that add up -/
structure Ways (L N : Nat) (out : List Int) : Prop where
  len : out.length = L
  nat : ∃ l : List Nat, out = l.map (fun n => ((n : Nat) : Int)) ∧ l.sum ≤ N
theorem Ways.mono {L N M : Nat} {out : List Int} (h : Ways L N out) (hM : N ≤ M) : Ways L M out := ⟨h.len, let ⟨l, e, hs⟩ := h.nat; ⟨l, e, Nat.le_trans hs hM⟩⟩
end Go.GA.E
