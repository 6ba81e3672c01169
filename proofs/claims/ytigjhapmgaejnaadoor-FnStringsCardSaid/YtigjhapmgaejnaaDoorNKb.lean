/- Plain law of FnStrings: decimals written and read. -/
import Derived.Test.YtigjhapmgaejnaaDoorNKa
import Derived.Test.YtigjhapmgaejnaaDoorNK2
namespace Go.GA
open Go
set_option maxRecDepth 100000
def itoaB (n : Int) : ByteArray := ⟨(Lib.itoa n).toArray⟩
theorem itoaB_pos (n : Nat) : itoaB (n : Int) = numB n := by unfold itoaB numB; rw [Lib.itoa_nonneg]
theorem itoaB_neg {n : Nat} (h : 1 ≤ n) : itoaB (-(n : Int)) = ByteArray.mk #[45] ++ numB n := by
  apply ba_ext
  rw [ba_append_list, numB_list]
  unfold itoaB Lib.itoa
  rw [if_pos (by omega), show (-(n : Int)).natAbs = n by omega]
  simp
theorem neg_spec : ∀ (fu n : Nat), 1 ≤ fu → 1 ≤ n → n < 10 ^ fu → n ≤ 9223372036854775807 → p_spec_l1Num (fu + 1) (-(n : Int)) = some (ByteArray.mk #[45] ++ numB n)
  | 0, _, h, _, _, _ => by omega
  | fu + 1, n, _, h1, h, hm => by
    unfold p_spec_l1Num
    rw [if_pos (by omega)]
    have e45 : ((ByteArray.mk #[45]).size : Int) = 1 := rfl
    by_cases hs : n < 10
    · rw [if_pos (by omega)]
      have ew : IntKind.wrap .i64 (0 - (-(n : Int))) = (n : Int) := by rw [show 0 - (-(n : Int)) = (n : Int) by omega]; exact wrap_id (by omega) (by omega)
      rw [ew, num_spec (fu + 1) n (by omega) h hm, Option.bind_some, e45]
      have hl : (numB n).size ≤ 20 := by rw [numB_size]; exact Lib.nDigits_le20 _ (by omega)
      rw [if_pos (by omega)]
    · rw [if_neg (by omega)]
      have hf : 1 ≤ fu := by
        rcases Nat.eq_zero_or_pos fu with rfl | h0
        · simp at h; omega
        · exact h0
      have ih := neg_spec fu (n / 10) hf (by omega) (by rw [Nat.pow_succ] at h; omega) (by omega)
      have t1 : (-(n : Int)).tdiv 10 = -((n / 10 : Nat) : Int) := by rw [Int.neg_tdiv, tdiv10]
      have t2 : (-(n : Int)).tmod 10 = -((n % 10 : Nat) : Int) := by rw [Int.neg_tmod, tmod10]
      have ew : IntKind.wrap .i64 (-((n / 10 : Nat) : Int)) = -((n / 10 : Nat) : Int) := wrap_id (by omega) (by omega)
      have ew2 : IntKind.wrap .i64 (0 - (-((n % 10 : Nat) : Int))) = ((n % 10 : Nat) : Int) := by rw [show 0 - (-((n % 10 : Nat) : Int)) = ((n % 10 : Nat) : Int) by omega]; exact wrap_id (by omega) (by omega)
      have hp : 10 ≤ 10 ^ (fu + 1) := by rw [Nat.pow_succ]; have := Nat.one_le_pow fu 10 (by decide); omega
      rw [t1, t2, ew, ew2, ih, num_spec (fu + 1) (n % 10) (by omega) (by omega) (by omega), Option.bind_some, Option.bind_some]
      have hl : (numB (n / 10)).size ≤ 20 := by rw [numB_size]; exact Lib.nDigits_le20 _ (by omega)
      have hl2 : (numB (n % 10)).size ≤ 20 := by rw [numB_size]; exact Lib.nDigits_le20 _ (by omega)
      rw [if_pos (by rw [ba_append_size]; have : (ByteArray.mk #[45]).size = 1 := rfl; omega)]
      rw [← numB_step hs]
      rw [ba_assoc]
theorem num_all {fu : Nat} (hf : 10 ≤ fu) {n : Int} (h0 : -10000000 ≤ n) (h1 : n ≤ 10000000) : p_spec_l1Num fu n = some (itoaB n) := by
  have hp : 10 ^ 9 ≤ 10 ^ (fu - 1) := Nat.pow_le_pow_right (by omega) (by omega)
  have hp2 : 10 ^ (fu - 1) ≤ 10 ^ fu := Nat.pow_le_pow_right (by omega) (by omega)
  have e9 : (10 : Nat) ^ 9 = 1000000000 := by decide
  by_cases hn : n < 0
  · obtain ⟨k, hk⟩ : ∃ k : Nat, n = -(k : Int) := ⟨n.natAbs, by omega⟩
    subst hk
    rw [itoaB_neg (by omega)]
    have := neg_spec (fu - 1) k (by omega) (by omega) (by omega) (by omega)
    rw [show fu - 1 + 1 = fu by omega] at this
    exact this
  · obtain ⟨k, hk⟩ : ∃ k : Nat, n = (k : Int) := ⟨n.natAbs, by omega⟩
    subst hk
    rw [itoaB_pos]
    exact num_spec fu k (by omega) (by omega) (by omega)
/-- as ParseInt reads, in words that compute -/
def pk (s : ByteArray) : Int × Bool := match Lib.atoiAll s.data.toList with
  | .ok v => bif decide (-999999 ≤ v) && (decide (v ≤ 999999) && ((p_spec_l1Num 10 v).map (fun b => b.data.toList) == some s.data.toList)) then (v, true) else (0, false)
  | _ => (0, false)
theorem parse_pk (s : ByteArray) : parseB s = pk s := by
  unfold parseB pk
  rcases Lib.atoiAll s.data.toList with v | _ | _
  · dsimp only
    by_cases hd : -999999 ≤ v ∧ v ≤ 999999
    · rw [num_all (Nat.le_refl 10) (by omega) (by omega), decide_eq_true hd.1, decide_eq_true hd.2, Bool.true_and, Bool.true_and]
      by_cases he : (⟨(Lib.itoa v).toArray⟩ : ByteArray) = s
      · rw [if_pos ⟨hd, he⟩]
        have : itoaB v = s := he
        rw [this]; simp
      · rw [if_neg (fun h => he h.2)]
        have : ((some (itoaB v)).map (fun b => b.data.toList) == some s.data.toList) = false := by
          rw [beq_eq_false_iff_ne]
          intro h
          exact he (ba_ext (Option.some.inj h))
        rw [this]; rfl
    · rw [if_neg (fun h => hd h.1)]
      have : (decide (-999999 ≤ v) && decide (v ≤ 999999)) = false := by
        rw [Bool.and_eq_false_iff]
        rcases Int.lt_or_le v (-999999) with h | h
        · exact .inl (decide_eq_false (by omega))
        · exact .inr (decide_eq_false (by omega))
      rw [← Bool.and_assoc, this]; rfl
  · rfl
  · rfl
def numC (n : Int) : ByteArray := (p_spec_l1Num 10 n).getD ByteArray.empty
theorem numC_eq {n : Int} (h0 : -10000000 ≤ n) (h1 : n ≤ 10000000) : numC n = itoaB n := by
  unfold numC; rw [num_all (Nat.le_refl 10) h0 h1]; rfl
def decs : List ByteArray := [(ByteArray.mk #[]), (ByteArray.mk #[45]), (ByteArray.mk #[45, 48]), (ByteArray.mk #[48, 48]), (ByteArray.mk #[48, 49]), (ByteArray.mk #[45, 45, 49]), (ByteArray.mk #[49, 120]), (ByteArray.mk #[57, 57, 57, 57, 57, 57]), (ByteArray.mk #[49, 48, 48, 48, 48, 48, 48]), (ByteArray.mk #[45, 57, 57, 57, 57, 57, 57]), (ByteArray.mk #[49, 56, 52, 52, 54, 55, 52, 52, 48, 55, 51, 55, 48, 57, 53, 53, 49, 54, 49, 55])]
theorem decs_fin : decs.all (fun s => p_spec_l1Read 10 s == some (pk s)) = true := by decide +kernel
end Go.GA
