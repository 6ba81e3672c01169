/- Plain law of FnStrings: numerals, sums, cuts. -/
import Derived.Test.YtigjhapmgaejnaaDoorGpA
import Derived.Test.YtigjhapmgaejnaaDoorC1fd
namespace Go.GA
open Go
set_option maxRecDepth 100000
theorem num_spec : ∀ (fu n : Nat), 1 ≤ fu → n < 10 ^ fu → n ≤ 9223372036854775807 → p_spec_l1Num fu (n : Int) = some (numB n)
  | 0, _, h, _, _ => by omega
  | fu + 1, n, _, h, hm => by
    unfold p_spec_l1Num
    rw [if_neg (by omega)]
    have hsz : ((ByteArray.mk #[48, 49, 50, 51, 52, 53, 54, 55, 56, 57]).size : Int) = 10 := rfl
    by_cases hs : n < 10
    · rw [if_pos (by omega), hsz, if_pos (by omega)]
      have e1 : ((n : Int).toNat) = n := by omega
      have e2 : ((n : Int) + 1).toNat = n + 1 := by omega
      rw [e1, e2, one_digit' n hs]
    · rw [if_neg (by omega)]
      have hf : 1 ≤ fu := by
        rcases Nat.eq_zero_or_pos fu with rfl | h0
        · simp at h; omega
        · exact h0
      have ih := num_spec fu (n / 10) hf (by rw [Nat.pow_succ] at h; omega) (by omega)
      rw [tdiv10, tmod10]
      have ew : IntKind.wrap .i64 ((n / 10 : Nat) : Int) = ((n / 10 : Nat) : Int) := wrap_id (by omega) (by omega)
      have ew2 : IntKind.wrap .i64 (((n % 10 : Nat) : Int) + 1) = ((n % 10 : Nat) : Int) + 1 := wrap_id (by omega) (by omega)
      have hl : (numB (n / 10)).size ≤ 20 := by rw [numB_size]; exact Lib.nDigits_le20 _ (by omega)
      simp only [ew, ew2, ih, Option.bind_some, hsz]
      rw [if_pos (by omega), if_pos (by omega), if_pos (by omega)]
      have e1 : ((n % 10 : Nat) : Int).toNat = n % 10 := by omega
      have e2 : (((n % 10 : Nat) : Int) + 1).toNat = n % 10 + 1 := by omega
      have hl2 : (numB (n % 10)).size ≤ 20 := by rw [numB_size]; exact Lib.nDigits_le20 _ (by omega)
      rw [e1, e2, one_digit' _ (by omega), if_pos (by omega), numB_step hs]
theorem contains_hash (s : ByteArray) : p_strings_ContainsB s = s.data.toList.any (· == 35) := by
  unfold p_strings_ContainsB p_strings_Index p_internal_stringslite_Index p_internal_stringslite_IndexByte
  have e : (((ByteArray.mk #[35]).data.toList.getD 0 0).toNat : Int).toNat.toUInt8 = 35 := rfl
  rw [e]
  have e0 : ((decide (((ByteArray.mk #[35]).size : Int) = 0)) || (eqS (ByteArray.mk #[35]) s)) = eqS (ByteArray.mk #[35]) s := by
    rw [show decide (((ByteArray.mk #[35]).size : Int) = 0) = false from rfl, Bool.false_or]
  rw [e0]
  by_cases h : eqS (ByteArray.mk #[35]) s = true
  · rw [if_pos h]
    have := eqS_iff.1 h
    rw [← this]; rfl
  · rw [if_neg h, index_mem]
theorem cut_eq (x : ByteArray) (h : x.size ≤ 2097152) : p_strings_Cut x = some (if fi 35 x < x.size then (x.extract 0 (fi 35 x), x.extract (fi 35 x + 1) x.size, true) else (x, ByteArray.mk #[], false)) := by
  have e : p_internal_stringslite_Index x = idxG 35 x := rfl
  have e1 : ((ByteArray.mk #[35]).size : Int) = 1 := rfl
  unfold p_strings_Cut p_internal_stringslite_Cut
  rw [if_pos (by omega), e, idxG_eq, e1]
  by_cases hh : fi 35 x < x.size
  · have ew : IntKind.wrap .i64 (((fi 35 x : Nat) : Int) + 1) = ((fi 35 x : Nat) : Int) + 1 := wrap_id (by omega) (by omega)
    simp only [if_pos hh, ew]
    rw [if_pos (by omega), if_pos (by omega), if_pos (by omega), if_pos (by omega), if_pos (by omega)]
    have t1 : ((fi 35 x : Nat) : Int).toNat = fi 35 x := by omega
    have t2 : (((fi 35 x : Nat) : Int) + 1).toNat = fi 35 x + 1 := by omega
    have t3 : ((x.size : Nat) : Int).toNat = x.size := by omega
    rw [t1, t2, t3]
    rfl
  · simp only [if_neg hh]
    rw [if_pos (by omega), if_neg (by omega)]
    rfl
end Go.GA
