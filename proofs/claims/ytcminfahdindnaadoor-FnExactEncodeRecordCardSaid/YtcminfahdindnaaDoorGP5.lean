/- Plain laws: decimal numerals and byte strings. -/
import Derived.Test.YtcminfahdindnaaDoorGP4
import Derived.Test.YtcminfahdindnaaDoorGA33
import Derived.Lib.ItoaLen
import Derived.Lib.ItoaMem
namespace Go.GA
open Go
theorem nDigits_lt {u k : Nat} : 1 ≤ k → u < 10 ^ k → Lib.nDigits u ≤ k := by
  induction k generalizing u with
  | zero => omega
  | succ k ih =>
    intro _ h
    by_cases hs : u < 10
    · rw [Lib.nDigits_small hs]; omega
    · rw [Lib.nDigits_big hs]
      have : 1 ≤ k := by
        rcases Nat.eq_zero_or_pos k with rfl | h0
        · simp at h; omega
        · exact h0
      have := ih (u := u / 10) this (by rw [Nat.pow_succ] at h; omega)
      omega
/-- the digits of a number -/
def numB (n : Nat) : ByteArray := ⟨(Lib.decDigits n).toArray⟩
theorem numB_list (n : Nat) : (numB n).data.toList = Lib.decDigits n := by simp [numB]
theorem numB_size (n : Nat) : (numB n).size = Lib.nDigits n := by rw [← size_toList, numB_list, Lib.decDigits_length]
theorem itoa_num (n : Nat) (h : n ≤ 9223372036854775807) : p_strconv_Itoa (n : Int) = some (numB n) := by
  unfold p_strconv_Itoa
  rw [if_pos ⟨by omega, by omega⟩, Lib.itoa_nonneg]
  rfl
theorem dec_digit {b : UInt8} : ∀ {n : Nat}, b ∈ Lib.decDigits n → 48 ≤ b.toNat ∧ b.toNat ≤ 57 := by
  intro n
  induction n using Nat.strongRecOn with
  | _ n ih =>
    intro h
    rw [Lib.decDigits] at h
    have key : ∀ d : Nat, d < 10 → (UInt8.ofNat (48 + d)).toNat = 48 + d := by
      intro d hd
      rw [UInt8.toNat_ofNat']
      omega
    split at h
    · rename_i hs
      simp only [List.mem_singleton] at h
      subst h
      rw [key _ hs]; omega
    · rcases List.mem_append.1 h with h | h
      · exact ih _ (by omega) h
      · simp only [List.mem_singleton] at h
        subst h
        rw [key _ (by omega)]; omega
theorem ba_append_list (a b : ByteArray) : (a ++ b).data.toList = a.data.toList ++ b.data.toList := by simp
theorem ba_append_size (a b : ByteArray) : (a ++ b).size = a.size + b.size := by rw [← size_toList, ba_append_list, List.length_append, size_toList, size_toList]
theorem ba_ext {a b : ByteArray} (h : a.data.toList = b.data.toList) : a = b := by
  cases a; cases b; simp only [ByteArray.mk.injEq]; exact Array.toList_inj.1 h
theorem one_digit : ∀ i : _root_.Fin 10, (ByteArray.mk #[48, 49, 50, 51, 52, 53, 54, 55, 56, 57]).extract i.val (i.val + 1) = ⟨#[UInt8.ofNat (48 + i.val)]⟩ := by decide +kernel
theorem one_digit' (d : Nat) (h : d < 10) : (ByteArray.mk #[48, 49, 50, 51, 52, 53, 54, 55, 56, 57]).extract d (d + 1) = numB d := by
  rw [show (ByteArray.mk #[48, 49, 50, 51, 52, 53, 54, 55, 56, 57]).extract d (d + 1) = ⟨#[UInt8.ofNat (48 + d)]⟩ from one_digit ⟨d, h⟩]
  unfold numB
  rw [Lib.decDigits, dif_pos h]
theorem numB_step {n : Nat} (h : ¬ n < 10) : numB (n / 10) ++ numB (n % 10) = numB n := by
  apply ba_ext
  rw [ba_append_list, numB_list, numB_list, numB_list, Lib.decDigits.eq_def n, dif_neg h, Lib.decDigits.eq_def (n % 10), dif_pos (by omega)]
theorem tdiv10 (n : Nat) : (n : Int).tdiv 10 = ((n / 10 : Nat) : Int) := by rw [Int.tdiv_eq_ediv_of_nonneg (by omega)]; omega
theorem tmod10 (n : Nat) : (n : Int).tmod 10 = ((n % 10 : Nat) : Int) := by rw [Int.tmod_eq_emod_of_nonneg (by omega)]; omega
end Go.GA
