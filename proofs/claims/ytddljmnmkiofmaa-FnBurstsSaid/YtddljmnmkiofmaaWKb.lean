/- Plain law of FnBursts: what other laws use too. -/
import Derived.Test.YtddljmnmkiofmaaWKa
namespace Go.GA.E
open Go
set_option maxRecDepth 100000
theorem pow_run (m n : Nat) (hm : m ≤ 6) (hn : n ≤ 1000) : ∀ (k i c fu : Nat), i + k = n → k < fu → c * 6 ^ k ≤ 6 ^ 24 →
    whl (fun (s1 : Int × Int) c3 => (if s1.2 < (n : Int) then c3 ((IntKind.wrap .i64 (s1.1 * (m : Int))), (IntKind.wrap .i64 (s1.2 + 1))) else some s1.1)) fu ((c : Int), (i : Int)) = some ((c * m ^ k : Nat) : Int)
  | 0, i, c, fu, h, hf, _ => by
    obtain ⟨f, rfl⟩ : ∃ f, fu = f + 1 := ⟨fu - 1, by omega⟩
    simp only [whl]
    rw [if_neg (by omega)]
    simp
  | k + 1, i, c, fu, h, hf, hb => by
    obtain ⟨f, rfl⟩ : ∃ f, fu = f + 1 := ⟨fu - 1, by omega⟩
    have e1 : c * 6 * 6 ^ k ≤ 6 ^ 24 := by rw [Nat.mul_assoc, ← Nat.pow_succ']; exact hb
    have e2 : c * m * 6 ^ k ≤ 6 ^ 24 := Nat.le_trans (Nat.mul_le_mul_right _ (Nat.mul_le_mul_left _ hm)) e1
    have e3 : c * m ≤ 6 ^ 24 := Nat.le_trans (Nat.le_mul_of_pos_right _ (Nat.pow_pos (by omega))) e2
    have e4 : (6 : Nat) ^ 24 = 4738381338321616896 := by decide
    simp only [whl]
    rw [if_pos (by omega), ← Int.natCast_mul, wrap_i64 (n := ((c * m : Nat) : Int)) (by omega) (by omega), wrap_i64 (by omega) (by omega)]
    have := pow_run m n hm hn k (i + 1) (c * m) f (by omega) (by omega) e2
    rw [show (i : Int) + 1 = ((i + 1 : Nat) : Int) from rfl, this, Nat.pow_succ', Nat.mul_assoc]
theorem raised_eq {fu : Nat} (m n : Nat) (hm : m ≤ 6) (hn : n ≤ 24) (hf : n < fu) : p_impl_raised fu (m : Int) (n : Int) = some ((m ^ n : Nat) : Int) := by
  unfold p_impl_raised
  have := pow_run m n hm (by omega) n 0 1 fu (by omega) hf (by rw [Nat.one_mul]; exact Nat.pow_le_pow_right (by omega) hn)
  simpa using this
theorem power_eq {fu : Nat} (n : Nat) (hn : n ≤ 24) (hf : n < fu) : p_impl_power fu (n : Int) = some ((6 ^ n : Nat) : Int) := by
  unfold p_impl_power
  have := pow_run 6 n (Nat.le_refl _) (by omega) n 0 1 fu (by omega) hf (by rw [Nat.one_mul]; exact Nat.pow_le_pow_right (by omega) hn)
  simpa using this
theorem all_power (fu : Nat) (n : Int) : p_spec_l2All fu n = p_impl_power fu n := rfl
theorem pow_raised (fu : Nat) (a n : Int) : p_spec_l8Power fu a n = p_impl_raised fu a n := rfl
/-- a fraction cut down -/
def cutF (a b : Nat) : List Int := [((a / Nat.gcd a b : Nat) : Int), ((b / Nat.gcd a b : Nat) : Int)]
theorem wrap_nat {n : Nat} (h : n ≤ 9223372036854775807) : IntKind.wrap .i64 (n : Int) = (n : Int) := wrap_i64 (by omega) (by omega)
theorem tdiv_nat (a b : Nat) : Int.tdiv (a : Int) (b : Int) = ((a / b : Nat) : Int) := rfl
theorem frac_run (x y : Nat) (hx : x ≤ 9223372036854775807) (hy : y ≤ 9223372036854775807) : ∀ (b a fu : Nat), b < fu → 0 < a + b →
    whl (fun (s1 : Int × Int) c3 => (if s1.2 = 0 then if s1.1 ≠ 0 then if s1.1 ≠ 0 then some [(IntKind.wrap .i64 ((x : Int).tdiv s1.1)), (IntKind.wrap .i64 ((y : Int).tdiv s1.1))] else none else none else if s1.2 ≠ 0 then c3 (s1.2, (s1.1.tmod s1.2)) else none)) fu ((a : Int), (b : Int)) = some [((x / Nat.gcd a b : Nat) : Int), ((y / Nat.gcd a b : Nat) : Int)] := by
  intro b
  induction b using Nat.strongRecOn with
  | _ b ih =>
    intro a fu hf h0
    obtain ⟨f, rfl⟩ : ∃ f, fu = f + 1 := ⟨fu - 1, by omega⟩
    simp only [whl]
    by_cases hb : b = 0
    · subst hb
      have ha : (a : Int) ≠ 0 := by omega
      rw [if_pos (by rfl), if_pos ha, if_pos ha, tdiv_nat, tdiv_nat, wrap_nat (Nat.le_trans (Nat.div_le_self _ _) hx), wrap_nat (Nat.le_trans (Nat.div_le_self _ _) hy)]
      simp
    · have hb' : ¬ (b : Int) = 0 := by omega
      rw [if_neg hb', if_pos hb', ← Int.ofNat_tmod]
      have hm : a % b < b := Nat.mod_lt _ (by omega)
      rw [ih (a % b) hm b f (by omega) (by omega)]
      rw [show Nat.gcd b (a % b) = Nat.gcd a b from by rw [Nat.gcd_comm b, ← Nat.gcd_rec, Nat.gcd_comm]]
theorem cut_run (x y : Nat) (hx : x ≤ 9223372036854775807) (hy : y ≤ 9223372036854775807) : ∀ (b a fu : Nat), b < fu → 0 < a + b →
    whl (fun (s1 : Int × Int) c3 => (if 0 < s1.2 then c3 (s1.2, (s1.1.tmod s1.2)) else if (p_spec_l1Most s1.1 1) ≠ 0 then if (p_spec_l1Most s1.1 1) ≠ 0 then some [(IntKind.wrap .i64 ((x : Int).tdiv (p_spec_l1Most s1.1 1))), (IntKind.wrap .i64 ((y : Int).tdiv (p_spec_l1Most s1.1 1)))] else none else none)) fu ((a : Int), (b : Int)) = some [((x / Nat.gcd a b : Nat) : Int), ((y / Nat.gcd a b : Nat) : Int)] := by
  intro b
  induction b using Nat.strongRecOn with
  | _ b ih =>
    intro a fu hf h0
    obtain ⟨f, rfl⟩ : ∃ f, fu = f + 1 := ⟨fu - 1, by omega⟩
    simp only [whl]
    by_cases hb : b = 0
    · subst hb
      have hm : p_spec_l1Most (a : Int) 1 = (a : Int) := by
        unfold p_spec_l1Most
        split
        · rfl
        · omega
      have ha : (a : Int) ≠ 0 := by omega
      rw [if_neg (by omega), hm, if_pos ha, if_pos ha, tdiv_nat, tdiv_nat, wrap_nat (Nat.le_trans (Nat.div_le_self _ _) hx), wrap_nat (Nat.le_trans (Nat.div_le_self _ _) hy)]
      simp
    · rw [if_pos (by omega), ← Int.ofNat_tmod]
      have hm : a % b < b := Nat.mod_lt _ (by omega)
      rw [ih (a % b) hm b f (by omega) (by omega)]
      rw [show Nat.gcd b (a % b) = Nat.gcd a b from by rw [Nat.gcd_comm b, ← Nat.gcd_rec, Nat.gcd_comm]]
theorem fraction_eq {fu : Nat} (x y : Nat) (hx : x ≤ 9223372036854775807) (hy : y ≤ 9223372036854775807) (h0 : 0 < x + y) (hf : y < fu) : p_impl_fraction fu (x : Int) (y : Int) = some (cutF x y) :=
  frac_run x y hx hy y x fu hf h0
theorem cut_eq {fu : Nat} (x y : Nat) (hx : x ≤ 9223372036854775807) (hy : y ≤ 9223372036854775807) (h0 : 0 < x + y) (hf : y < fu) : p_spec_l2Cut fu (x : Int) (y : Int) = some (cutF x y) :=
  cut_run x y hx hy y x fu hf h0
theorem weight_b {x : List Int} (y : Int) : ∃ m : Nat, p_impl_weight x y = (m : Int) ∧ m ≤ 6 := by
  unfold p_impl_weight
  refine cnt_ind0 6 (fun i s => ∃ m : Nat, s = (m : Int) ∧ m ≤ i) (fun r => ∃ m : Nat, r = (m : Int) ∧ m ≤ 6) rfl ⟨0, rfl, Nat.le_refl _⟩ (fun s h => h) (fun i s c hi ⟨m, e, hm⟩ hc => ?_)
  subst e
  refine hc _ ?_
  simp only [p_impl_truth]
  split
  · exact ⟨m + 1, wrap_i64 (by omega) (by omega), by omega⟩
  · exact ⟨m, by rw [Int.add_zero]; exact wrap_nat (by omega), by omega⟩
theorem weight_eq {x : List Int} (y : Int) : p_spec_l8Weight x y = p_impl_weight x y := by
  unfold p_spec_l8Weight p_impl_weight
  have key : ∀ (d : Nat) (i : Nat) (m : Nat), m + d ≤ 1000 → cnt (fun i2 (s1 : Int) c3 _ => (if (x.getD i2.toNat 0) = y then c3 (IntKind.wrap .i64 (s1 + 1)) else c3 s1)) (fun i2 (s1 : Int) => s1) d (i : Int) (m : Int) = cnt (fun i2 (s1 : Int) c3 _ => c3 (IntKind.wrap .i64 (s1 + (p_impl_truth (decide ((x.getD i2.toNat 0) = y)))))) (fun i2 (s1 : Int) => s1) d (i : Int) (m : Int) := by
    intro d
    induction d with
    | zero => intro i m _; rfl
    | succ d ih =>
      intro i m h
      simp only [cnt]
      by_cases e : x.getD (i : Int).toNat 0 = y
      · rw [if_pos e, decide_eq_true e]
        simp only [p_impl_truth, if_true]
        rw [wrap_i64 (n := (m : Int) + 1) (by omega) (by omega)]
        exact ih (i + 1) (m + 1) (by omega)
      · rw [if_neg e, decide_eq_false e]
        simp only [p_impl_truth, Bool.false_eq_true, if_false, Int.add_zero]
        rw [wrap_nat (by omega)]
        exact ih (i + 1) m (by omega)
  exact key 6 0 0 (by omega)
end Go.GA.E
