/- Plain law of FnLetters: letters are drawn to their end. -/
import Derived.Test.YtnomfaepgmbogaaMK3
namespace Go.GA
open Go
set_option maxRecDepth 100000
/-! ### seeds -/
theorem wu (n : Nat) : IntKind.wrap .u64 (n : Int) = ((n % 18446744073709551616 : Nat) : Int) := by
  unfold IntKind.wrap
  simp only [IntKind.bits, IntKind.signed]
  simp
theorem seedW (S b : Nat) : (IntKind.wrap .u64 ((IntKind.wrap .u64 ((IntKind.wrap .u64 ((S : Int) * 6364136223846793005)) + (IntKind.wrap .u64 (b : Int)))) + 462197)) = (((S * 6364136223846793005 + b + 462197) % 18446744073709551616 : Nat) : Int) := by
  have e1 : (S : Int) * 6364136223846793005 = ((S * 6364136223846793005 : Nat) : Int) := by rw [Int.natCast_mul]; rfl
  rw [e1, wu, wu, ← Int.natCast_add, wu]
  have e2 : ∀ a : Nat, (a : Int) + 462197 = ((a + 462197 : Nat) : Int) := fun a => by rw [Int.natCast_add]; rfl
  rw [e2, wu]
  have h : ∀ a : Nat, ((a % 18446744073709551616 + b % 18446744073709551616) % 18446744073709551616 + 462197) % 18446744073709551616 = (a + b + 462197) % 18446744073709551616 := by intro a; omega
  rw [h]
theorem byteV (y : Nat) (hy : y < 18446744073709551616) : andI .u64 (shrI .u64 (y : Int) 40) 255 = ((seedV y : Nat) : Int) := by
  have e1 : shrI .u64 (y : Int) 40 = ((y / 1099511627776 : Nat) : Int) := by
    unfold shrI
    have : (min (40 : Int).toNat IntKind.u64.bits) = 40 := rfl
    rw [this]
    rw [Int.fdiv_eq_ediv_of_nonneg _ (by decide)]
    rw [show (2 : Int) ^ 40 = ((1099511627776 : Nat) : Int) by decide, ← Int.natCast_ediv]
  rw [e1]
  unfold andI seedV
  generalize hz : y / 1099511627776 = z
  have hz2 : z < 16777216 := by omega
  have b1 : (BitVec.ofInt IntKind.u64.bits (z : Int)).toNat = z := by
    simp only [IntKind.bits, BitVec.toNat_ofInt]
    omega
  have b2 : (BitVec.ofInt IntKind.u64.bits (255 : Int)).toNat = 2 ^ 8 - 1 := rfl
  rw [BitVec.toNat_and, b1, b2, Nat.and_two_pow_sub_one_eq_mod, wu]
  congr 1
  omega
/-- one more number, while there are bytes or not -/
theorem next_nat {x : List Int} (hx : Bytes x) {at_ : Int} {S : Nat} (h0 : 0 ≤ at_) (h1 : at_ ≤ 4611686018427387904) : ∃ v S' : Nat, p_spec_l1Cur_next x at_ (S : Int) = some ((v : Int), at_ + 1, (S' : Int)) ∧ (x.length ≤ at_ → S' = seedM S ∧ v = seedV (seedM S)) := by
  have ew := wr (n := at_ + 1) (by omega) (by omega)
  have hg := getD_bytes hx at_.toNat
  unfold p_spec_l1Cur_next jn
  simp only
  rw [ew]
  by_cases hlt : at_ < (x.length : Int)
  · rw [if_pos hlt, if_pos h0, wr (n := x.getD at_.toNat 0) (by omega) (by omega), if_pos (by omega)]
    obtain ⟨b, hb⟩ : ∃ b : Nat, x.getD at_.toNat 0 = (b : Int) := ⟨(x.getD at_.toNat 0).toNat, by omega⟩
    rw [hb, seedW]
    exact ⟨b, _, rfl, fun h => by omega⟩
  · rw [if_neg hlt, if_neg (by omega)]
    have e0 : (0 : Int) = ((0 : Nat) : Int) := rfl
    rw [e0, seedW S 0]
    have hm : (S * 6364136223846793005 + 0 + 462197) % 18446744073709551616 = seedM S := by
      unfold seedM seedF
      rw [Nat.add_zero]
    rw [hm]
    have hlt2 : seedM S < 18446744073709551616 := by unfold seedM; exact Nat.mod_lt _ (by omega)
    rw [byteV _ hlt2]
    have hv : seedV (seedM S) < 256 := by unfold seedV; exact Nat.mod_lt _ (by omega)
    rw [wr (by omega) (by omega)]
    exact ⟨_, _, rfl, fun _ => ⟨rfl, rfl⟩⟩
theorem pick_nat {x : List Int} (hx : Bytes x) {N : Nat} (hN : 2 ≤ N) (hN2 : N ≤ 200) {at_ : Int} {S : Nat} (h0 : 0 ≤ at_) (h1 : at_ ≤ 4611686018427387904) : ∃ v S' : Nat, p_spec_l1Cur_pick (N : Int) x at_ (S : Int) = some (((v % N : Nat) : Int), at_ + 1, (S' : Int)) ∧ (x.length ≤ at_ → S' = seedM S ∧ v = seedV (seedM S)) := by
  obtain ⟨v, S', e, h⟩ := next_nat hx (S := S) h0 h1
  unfold p_spec_l1Cur_pick
  rw [if_neg (by omega), e, Option.bind_some, if_neg (by omega)]
  exact ⟨v, S', rfl, h⟩
end Go.GA
