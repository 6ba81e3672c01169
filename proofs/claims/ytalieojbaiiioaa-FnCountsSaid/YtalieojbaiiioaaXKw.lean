/- Plain law of FnCounts: likelihoods, chances and distances as fractions. -/
import Derived.Test.YtalieojbaiiioaaXKv
namespace Go.GA.E
open Go
set_option maxRecDepth 100000
theorem less_cut3 (a b N : Nat) (hN : 0 < N) (ha : a ≤ 2176782336) (hb : b ≤ 2176782336) (hNb : N ≤ 2176782336) : p_laws_vLess (cutF a N) (cutF b N) = decide (a < b) := by
  unfold p_laws_vLess
  have hg : 0 < Nat.gcd a N := Nat.gcd_pos_of_pos_right _ hN
  have hh : 0 < Nat.gcd b N := Nat.gcd_pos_of_pos_right _ hN
  have e0 : (cutF a N).getD 0 0 = ((a / Nat.gcd a N : Nat) : Int) := rfl
  have e1 : (cutF a N).getD 1 0 = ((N / Nat.gcd a N : Nat) : Int) := rfl
  have e2 : (cutF b N).getD 0 0 = ((b / Nat.gcd b N : Nat) : Int) := rfl
  have e3 : (cutF b N).getD 1 0 = ((N / Nat.gcd b N : Nat) : Int) := rfl
  rw [e0, e1, e2, e3]
  have ea : a / Nat.gcd a N * Nat.gcd a N = a := Nat.div_mul_cancel (Nat.gcd_dvd_left _ _)
  have eN : N / Nat.gcd a N * Nat.gcd a N = N := Nat.div_mul_cancel (Nat.gcd_dvd_right _ _)
  have eb : b / Nat.gcd b N * Nat.gcd b N = b := Nat.div_mul_cancel (Nat.gcd_dvd_left _ _)
  have eM : N / Nat.gcd b N * Nat.gcd b N = N := Nat.div_mul_cancel (Nat.gcd_dvd_right _ _)
  have la := Nat.div_le_self a (Nat.gcd a N)
  have lb := Nat.div_le_self b (Nat.gcd b N)
  have lc := Nat.div_le_self N (Nat.gcd a N)
  have ld := Nat.div_le_self N (Nat.gcd b N)
  generalize a / Nat.gcd a N = A at *
  generalize b / Nat.gcd b N = B at *
  generalize N / Nat.gcd a N = C at *
  generalize N / Nat.gcd b N = D at *
  have m1 : A * D ≤ 2176782336 * 2176782336 := Nat.mul_le_mul (by omega) (by omega)
  have m2 : B * C ≤ 2176782336 * 2176782336 := Nat.mul_le_mul (by omega) (by omega)
  rw [← Int.natCast_mul, ← Int.natCast_mul, wrap_nat (n := A * D) (by omega), wrap_nat (n := B * C) (by omega)]
  have t1 : A * D * (Nat.gcd a N * Nat.gcd b N) = a * N := by rw [Nat.mul_mul_mul_comm, ea, eM]
  have t2 : B * C * (Nat.gcd a N * Nat.gcd b N) = b * N := by rw [Nat.mul_comm (Nat.gcd a N), Nat.mul_mul_mul_comm, eb, eN]
  have key : A * D < B * C ↔ a < b := by
    rw [← Nat.mul_lt_mul_right (Nat.mul_pos hg hh), t1, t2, Nat.mul_lt_mul_right hN]
  by_cases hab : a < b
  · rw [decide_eq_true hab, decide_eq_true (by have := key.2 hab; omega)]
  · rw [decide_eq_false hab, decide_eq_false (by have : ¬ A * D < B * C := fun h => hab (key.1 h); omega)]
section
variable {x y : List Int} {fu : Nat}
abbrev sm (y : List Int) : Nat := (y.map Int.toNat).sum
theorem six12 {n : Nat} (h : n ≤ 12) : 6 ^ n ≤ 2176782336 := Nat.pow_le_pow_right (n := 6) (by omega) h
theorem six0 (n : Nat) : 0 < 6 ^ n := Nat.pow_pos (by omega)
theorem likely_val (h : x.length = 6) (e : p_impl_areCounts x y = some true) (hc : Counts x y) (hf : 10000000000 ≤ fu) : p_impl_LikelihoodOf fu x y = some (cutF (lik (wsF x) (y.map Int.toNat)) (6 ^ sm y), true) ∧ p_spec_LikelihoodOf fu x y = some (cutF (lik (wsF x) (y.map Int.toNat)) (6 ^ sm y), true) ∧ lik (wsF x) (y.map Int.toNat) ≤ 2176782336 := by
  unfold p_spec_LikelihoodOf p_impl_LikelihoodOf
  rw [counts_eq h, e]
  have hv := likelihood_eq h hc (fu := fu) (by omega)
  have hb : lik (wsF x) (y.map Int.toNat) ≤ 2176782336 := by
    obtain ⟨u, hu, hub⟩ := likelihood_b h hc (fu := fu) (by omega)
    rw [hv] at hu
    have := Option.some.inj hu
    have e4 : (6 : Nat) ^ 12 = 2176782336 := by decide
    omega
  have hp : 6 ^ (y.map Int.toNat).sum ≤ 2176782336 := six12 hc.sum
  have h0 : 0 < 6 ^ (y.map Int.toNat).sum := six0 _
  have hsum := hc.sum
  refine ⟨?_, ?_, hb⟩
  · simp only [Option.bind_some, if_true]
    rw [hv]
    simp only [Option.bind_some]
    rw [total_of h hc, power_eq _ (by omega) (by omega)]
    simp only [Option.bind_some]
    rw [fraction_eq _ _ (by omega) (by omega) (by omega) (by omega)]; rfl
  · simp only [Option.bind_some, if_true]
    rw [ways_eq fu h hc.die hc.len, hv]
    simp only [Option.bind_some]
    rw [show p_spec_l11Sum y = p_impl_total y from rfl, total_of h hc, all_power, power_eq _ (by omega) (by omega)]
    simp only [Option.bind_some]
    rw [cut_eq _ _ (by omega) (by omega) (by omega) (by omega)]; rfl
theorem chance12 (h : x.length = 6) (hc : Counts x y) (hf : 100 < fu) : p_impl_chance fu x y = some ((chN (wsF x) y : Nat) : Int) ∧ p_spec_l11Chance fu x y = some ((chN (wsF x) y : Nat) : Int) ∧ chN (wsF x) y ≤ 479001600 * 6 ^ 12 := by
  obtain ⟨v, hv, hv2, hb⟩ := chance_b h hc hf
  have e4 : (6 : Nat) ^ 12 = 2176782336 := by decide
  have hL : lik (wsF x) (y.map Int.toNat) ≤ 6 ^ 12 := by
    obtain ⟨u, hu, hub⟩ := likelihood_b h hc hf
    rw [likelihood_eq h hc hf] at hu
    have := Option.some.inj hu
    omega
  have hA : arrP 0 (y.map Int.toNat) ≤ 479001600 := by
    obtain ⟨u, hu, hub⟩ := arrangements_b h hc hf
    rw [arrangements_eq hc hf] at hu
    have := Option.some.inj hu
    omega
  have hb2 : arrP 0 (y.map Int.toNat) * lik (wsF x) (y.map Int.toNat) ≤ 479001600 * 6 ^ 12 := Nat.mul_le_mul hA hL
  have e := hv
  unfold p_impl_chance at e
  rw [likelihood_eq h hc hf, arrangements_eq hc hf] at e
  simp only [Option.bind_some] at e
  rw [← Int.natCast_mul, wrap_nat (by omega)] at e
  have ev : v = chN (wsF x) y := by
    have := Option.some.inj e
    unfold chN
    omega
  subst ev
  exact ⟨hv, hv2, hb⟩
theorem chance_one (h : x.length = 6) (hc : Counts x y) : chN (wsF x) y ≤ 6 ^ sm y := by
  obtain ⟨m, hm, hm5⟩ := dd_pos h
  rw [← all_sum h hc.die hm hc.sum]
  exact sum_ge_of (chN (wsF x)) _ (vec_has m _ y (by rw [hc.len, hm]) hc.inn rfl)
theorem chance_val (h : x.length = 6) (e : p_impl_areCounts x y = some true) (hc : Counts x y) (hf : 10000000000 ≤ fu) : p_impl_ChanceOfCounts fu x y = some (cutF (chN (wsF x) y) (6 ^ sm y), true) ∧ p_spec_ChanceOfCounts fu x y = some (cutF (chN (wsF x) y) (6 ^ sm y), true) := by
  unfold p_spec_ChanceOfCounts p_impl_ChanceOfCounts
  rw [counts_eq h, e]
  obtain ⟨hv, hv2, _⟩ := chance12 h hc (fu := fu) (by omega)
  have hb : chN (wsF x) y ≤ 6 ^ (y.map Int.toNat).sum := chance_one h hc
  have hp : 6 ^ (y.map Int.toNat).sum ≤ 2176782336 := six12 hc.sum
  have h0 : 0 < 6 ^ (y.map Int.toNat).sum := six0 _
  have hsum := hc.sum
  refine ⟨?_, ?_⟩
  · simp only [Option.bind_some, if_true]
    rw [hv]
    simp only [Option.bind_some]
    rw [total_of h hc, power_eq _ (by omega) (by omega)]
    simp only [Option.bind_some]
    rw [fraction_eq _ _ (by omega) (by omega) (by omega) (by omega)]; rfl
  · simp only [Option.bind_some, if_true]
    rw [hv2]
    simp only [Option.bind_some]
    rw [show p_spec_l11Sum y = p_impl_total y from rfl, total_of h hc, all_power, power_eq _ (by omega) (by omega)]
    simp only [Option.bind_some]
    rw [cut_eq _ _ (by omega) (by omega) (by omega) (by omega)]; rfl
theorem dist_val (h : x.length = 6) (e : p_impl_areCounts x y = some true) (hc : Counts x y) (hf : 10000000000 ≤ fu) : p_impl_DistanceOf fu x y = some (cutF (distN x y) (360 * max (sm y) 1), true) ∧ p_spec_DistanceOf fu x y = some (cutF (distN x y) (360 * max (sm y) 1), true) := by
  unfold p_spec_DistanceOf p_impl_DistanceOf
  rw [counts_eq h, e]
  have hs := hc.sum
  have hb := distN_b h hc
  refine ⟨?_, ?_⟩
  · simp only [Option.bind_some, if_true]
    rw [dist_impl h hc, total_of h hc]
    simp only [Option.bind_some]
    have e1 : (if (1 : Int) > (((y.map Int.toNat).sum : Nat) : Int) then 1 else (((y.map Int.toNat).sum : Nat) : Int)) = ((max (y.map Int.toNat).sum 1 : Nat) : Int) := by
      split <;> omega
    have e2 : IntKind.wrap .i64 (360 * ((max (y.map Int.toNat).sum 1 : Nat) : Int)) = ((360 * max (y.map Int.toNat).sum 1 : Nat) : Int) := by
      rw [wrap_i64 (by omega) (by omega)]; omega
    rw [e1, e2, fraction_eq _ _ (by omega) (by omega) (by omega) (by omega)]; rfl
  · simp only [Option.bind_some, if_true]
    rw [dist_spec h hc hf]; rfl
theorem bin_pos : ∀ a b : Nat, 0 < bin (b + a) a := fun a b => by
  have := bin_fact a b
  have h := fact_pos (b + a)
  cases hz : bin (b + a) a with
  | zero => rw [hz] at this; omega
  | succ k => omega
theorem arrP_pos : ∀ (l : List Nat) (N : Nat), 0 < arrP N l
  | [], _ => by simp [arrP]
  | v :: l, N => by
    unfold arrP
    exact Nat.mul_pos (bin_pos v N) (arrP_pos l (N + v))
theorem lik_le (ws : List Nat) (r : List Int) : lik ws (r.map Int.toNat) ≤ chN ws r := by
  unfold chN
  exact Nat.le_mul_of_pos_left _ (arrP_pos _ 0)
theorem first_ok (h : x.length = 6) (hf : 10000000000 ≤ fu) : ∃ a b c ok, p_impl_LikelihoodOf fu x y = some (a, ok) ∧ p_spec_LikelihoodOf fu x y = some (a, ok) ∧ p_impl_ChanceOfCounts fu x y = some (b, ok) ∧ p_spec_ChanceOfCounts fu x y = some (b, ok) ∧ p_impl_DistanceOf fu x y = some (c, ok) ∧ p_spec_DistanceOf fu x y = some (c, ok) ∧
    (ok && (((p_laws_vLess b a) || (p_laws_vLess [1, 1] b)) || (decide ((c.getD 0 0) < 0)))) = false := by
  rcases counts_of (y := y) h with e | ⟨e, hc⟩
  · refine ⟨List.replicate 2 0, List.replicate 2 0, List.replicate 2 0, false, ?_, ?_, ?_, ?_, ?_, ?_, rfl⟩
    · unfold p_impl_LikelihoodOf; rw [e]; rfl
    · unfold p_spec_LikelihoodOf; rw [counts_eq h, e]; rfl
    · unfold p_impl_ChanceOfCounts; rw [e]; rfl
    · unfold p_spec_ChanceOfCounts; rw [counts_eq h, e]; rfl
    · unfold p_impl_DistanceOf; rw [e]; rfl
    · unfold p_spec_DistanceOf; rw [counts_eq h, e]; rfl
  · obtain ⟨l1, l2, lb⟩ := likely_val h e hc hf
    obtain ⟨c1, c2⟩ := chance_val h e hc hf
    obtain ⟨d1, d2⟩ := dist_val h e hc hf
    refine ⟨_, _, _, _, l1, l2, c1, c2, d1, d2, ?_⟩
    have hp : 6 ^ sm y ≤ 2176782336 := six12 hc.sum
    have h0 := six0 (sm y)
    have hb := chance_one h hc
    have q1 := less_cut3 (chN (wsF x) y) (lik (wsF x) (y.map Int.toNat)) (6 ^ sm y) h0 (by omega) lb hp
    have q2 := less_cut3 (6 ^ sm y) (chN (wsF x) y) (6 ^ sm y) h0 hp (by omega) hp
    rw [cut_one h0] at q2
    have hl := lik_le (wsF x) y
    rw [q1, q2, decide_eq_false (by omega), decide_eq_false (by omega)]
    have : ¬ (cutF (distN x y) (360 * max (sm y) 1)).getD 0 0 < 0 := by
      exact Int.not_lt.2 (Int.natCast_nonneg (distN x y / Nat.gcd (distN x y) (360 * max (sm y) 1)))
    rw [decide_eq_false this]; rfl
end
end Go.GA.E
