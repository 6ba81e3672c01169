/- Plain laws of powers, fractions, counts of a die. -/
import Derived.Test.YtogkhlpljkelpaaGpA
import Derived.Test.YtogkhlpljkelpaaRRc
namespace Go.GA
open Go
theorem pow_run (m n : Nat) (hm : m ≤ 6) (hn : n ≤ 1000) : ∀ (k i c fu : Nat), i + k = n → k < fu → c * 6 ^ k ≤ 6 ^ 24 →
    whl (fun (s1 : Int × Int) c3 => (if s1.2 < (n : Int) then c3 ((IntKind.wrap .i64 (s1.1 * (m : Int))), (IntKind.wrap .i64 (s1.2 + 1))) else some s1.1)) fu ((c : Int), (i : Int)) = some ((c * m ^ k : Nat) : Int)
  | 0, i, c, fu, h, hf, _ => by
    obtain ⟨f, rfl⟩ : ∃ f, fu = f + 1 := ⟨fu - 1, by omega⟩
    simp only [whl]
    rw [if_neg (by omega)]
    simp
  | k + 1, i, c, fu, h, hf, hb => by
    obtain ⟨f, rfl⟩ : ∃ f, fu = f + 1 := ⟨fu - 1, by omega⟩
    have e1 : c * 6 * 6 ^ k ≤ 6 ^ 24 := by rw [Nat.mul_assoc, ← Nat.pow_succ']; exact hb
    have e2 : c * m * 6 ^ k ≤ 6 ^ 24 := Nat.le_trans (Nat.mul_le_mul_right _ (Nat.mul_le_mul_left _ hm)) e1
    have e3 : c * m ≤ 6 ^ 24 := Nat.le_trans (Nat.le_mul_of_pos_right _ (Nat.pow_pos (by omega))) e2
    have e4 : (6 : Nat) ^ 24 = 4738381338321616896 := by decide
    simp only [whl]
    rw [if_pos (by omega), ← Int.natCast_mul, wrap_i64 (n := ((c * m : Nat) : Int)) (by omega) (by omega), wrap_i64 (by omega) (by omega)]
    have := pow_run m n hm hn k (i + 1) (c * m) f (by omega) (by omega) e2
    rw [show (i : Int) + 1 = ((i + 1 : Nat) : Int) from rfl, this, Nat.pow_succ', Nat.mul_assoc]
theorem raised_eq {fu : Nat} (m n : Nat) (hm : m ≤ 6) (hn : n ≤ 24) (hf : n < fu) : p_impl_raised fu (m : Int) (n : Int) = some ((m ^ n : Nat) : Int) := by
  unfold p_impl_raised
  have := pow_run m n hm (by omega) n 0 1 fu (by omega) hf (by rw [Nat.one_mul]; exact Nat.pow_le_pow_right (by omega) hn)
  simpa using this
theorem wrap_nat {n : Nat} (h : n ≤ 9223372036854775807) : IntKind.wrap .i64 (n : Int) = (n : Int) := wrap_i64 (by omega) (by omega)
theorem tdiv_nat (a b : Nat) : Int.tdiv (a : Int) (b : Int) = ((a / b : Nat) : Int) := rfl
/-! ### Counts -/
theorem weight_b {x : List Int} (y : Int) : ∃ m : Nat, p_impl_weight x y = (m : Int) ∧ m ≤ 6 := by
  unfold p_impl_weight
  refine cnt_ind0 6 (fun i s => ∃ m : Nat, s = (m : Int) ∧ m ≤ i) (fun r => ∃ m : Nat, r = (m : Int) ∧ m ≤ 6) rfl ⟨0, rfl, Nat.le_refl _⟩ (fun s h => h) (fun i s c hi ⟨m, e, hm⟩ hc => ?_)
  subst e
  refine hc _ ?_
  simp only [p_impl_truth]
  split
  · exact ⟨m + 1, wrap_i64 (by omega) (by omega), by omega⟩
  · exact ⟨m, by rw [Int.add_zero]; exact wrap_nat (by omega), by omega⟩
theorem weight_eq {x : List Int} (y : Int) : p_spec_l8Weight x y = p_impl_weight x y := by
  unfold p_spec_l8Weight p_impl_weight
  have key : ∀ (d : Nat) (i : Nat) (m : Nat), m + d ≤ 1000 → cnt (fun i2 (s1 : Int) c3 _ => (if (x.getD i2.toNat 0) = y then c3 (IntKind.wrap .i64 (s1 + 1)) else c3 s1)) (fun i2 (s1 : Int) => s1) d (i : Int) (m : Int) = cnt (fun i2 (s1 : Int) c3 _ => c3 (IntKind.wrap .i64 (s1 + (p_impl_truth (decide ((x.getD i2.toNat 0) = y)))))) (fun i2 (s1 : Int) => s1) d (i : Int) (m : Int) := by
    intro d
    induction d with
    | zero => intro i m _; rfl
    | succ d ih =>
      intro i m h
      simp only [cnt]
      by_cases e : x.getD (i : Int).toNat 0 = y
      · rw [if_pos e, decide_eq_true e]
        simp only [p_impl_truth, if_true]
        rw [wrap_i64 (n := (m : Int) + 1) (by omega) (by omega)]
        exact ih (i + 1) (m + 1) (by omega)
      · rw [if_neg e, decide_eq_false e]
        simp only [p_impl_truth, Bool.false_eq_true, if_false, Int.add_zero]
        rw [wrap_nat (by omega)]
        exact ih (i + 1) m (by omega)
  exact key 6 0 0 (by omega)
/-- what counts are -/
structure Counts (x y : List Int) : Prop where
  die : p_impl_IsDie x = true
  len : y.length = (dd x).length
  inn : ∀ v ∈ y, ∃ n : Nat, v = (n : Int) ∧ n ≤ 12
  sum : (y.map Int.toNat).sum ≤ 12
theorem sum_take (l : List Int) (i : Nat) (h : i < l.length) : ((l.take (i + 1)).map Int.toNat).sum = ((l.take i).map Int.toNat).sum + (l.getD i 0).toNat := by
  rw [List.take_succ_eq_append_getElem h, List.map_append, List.sum_append]
  simp [List.getD_eq_getElem?_getD, List.getElem?_eq_getElem h]
theorem sum_take_le (l : List Int) (i : Nat) : ((l.take i).map Int.toNat).sum ≤ (l.map Int.toNat).sum := by
  have : (l.map Int.toNat).sum = ((l.take i).map Int.toNat).sum + ((l.drop i).map Int.toNat).sum := by
    rw [← List.sum_append, ← List.map_append, List.take_append_drop]
  omega
theorem ways_eq {x y : List Int} (fu : Nat) (h : x.length = 6) (hd : p_impl_IsDie x = true) (hl : y.length = (dd x).length) : p_spec_l11Ways fu x y = p_impl_likelihood fu x y := by
  unfold p_spec_l11Ways p_impl_likelihood
  rw [numbers_impl h, numbers_eq h (sorted_of_IsDie h hd)]
  simp only [Option.bind_some]
  rw [show Int.toNat ((y.length : Int) - 0) = Int.toNat (((dd x).length : Int) - 0) by rw [hl]]
  refine cnt_congr_n (dd x).length (by omega) (fun i s c hi => ?_)
  rw [if_pos (by omega), if_pos (by omega), weight_eq]
  rfl
end Go.GA
