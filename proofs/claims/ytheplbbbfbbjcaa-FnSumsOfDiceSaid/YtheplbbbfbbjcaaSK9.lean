/- Plain law of FnSumsOfDice. -/
import Derived.Test.YtheplbbbfbbjcaaSK8
namespace Go.GA
open Go
set_option maxRecDepth 100000
theorem ints_self (l : List Int) : p_laws_vInts l l = true := by
  unfold p_laws_vInts
  rw [if_pos rfl]
  refine cnt_ind0 (S := Unit) l.length (fun _ _ => True) (fun r => r = true) (by omega) trivial (fun _ _ => rfl) (fun i s c hi _ hc => ?_)
  rw [if_pos rfl]
  exact hc _ trivial
theorem has_eq (l : List Int) (v : Int) : p_laws_vHas l v = decide (v ∈ l) := by
  unfold p_laws_vHas
  rw [cnt_list (fun (a : Int) (s : Unit) (c : Unit → Bool) => if a = v then true else c ()) l 0 (by omega) (fun _ _ _ _ _ => rfl)]
  induction l with
  | nil => rfl
  | cons a l ih =>
    show (if a = v then true else lrun _ _ l ()) = _
    rw [ih]
    by_cases h : a = v
    · rw [if_pos h]; simp [h]
    · rw [if_neg h]; simp [List.mem_cons, Ne.symm h]
theorem six_eq {fu n : Nat} (hn : n ≤ 8) (hf : 8 < fu) : p_laws_vSix fu (n : Int) = some ((6 ^ n : Nat) : Int) := power_run fu 0 n (by omega) hn (by omega)
def pm (g : Int → Int) (T : List Int) : Nat → Int
  | 0 => 0
  | n + 1 => pm g T n + g n * T.getD n 0
theorem pm_sum (g : Int → Int) (T : List Int) : ∀ n, ((List.range n).map (fun (i : Nat) => g i * T.getD i 0)).sum = pm g T n
  | 0 => rfl
  | n + 1 => by
    rw [List.range_succ, List.map_append, List.sum_append, pm_sum g T n]
    simp [pm]
theorem pm_all (g : Int → Int) {T : List Int} (h : T.length = 121) : pm g T 121 = mom g T := by rw [← pm_sum, mom_range g h]
theorem pm_le {g : Int → Int} {B : Int} {T : List Int} (hT : NN T) (hg : ∀ i : Nat, i < 121 → 0 ≤ g i ∧ g i ≤ B) : ∀ n, n ≤ 121 → 0 ≤ pm g T n ∧ pm g T n ≤ B * (pm (fun _ => 1) T n)
  | 0, _ => by simp [pm]
  | n + 1, h => by
    have ih := pm_le hT hg n (by omega)
    have h1 := hg n (by omega)
    have h2 := hT n
    have h3 := Int.mul_nonneg h1.1 h2
    have h4 := Int.mul_le_mul_of_nonneg_right h1.2 h2
    simp only [pm, Int.one_mul, Int.mul_add]
    omega
theorem pm_mono {T : List Int} (hT : NN T) (n : Nat) : ∀ d, pm (fun _ => 1) T n ≤ pm (fun _ => 1) T (n + d)
  | 0 => Int.le_refl _
  | d + 1 => by
    have := pm_mono hT n d
    have := hT (n + d)
    rw [show n + (d + 1) = (n + d) + 1 from rfl]
    simp only [pm]; omega
/-! ### fractions without common divisors -/
theorem cut_parts (p q : Nat) (hq : 0 < q) : ∃ a b g : Nat, cutF p q = [(a : Int), (b : Int)] ∧ 0 < g ∧ p = g * a ∧ q = g * b ∧ 0 < b ∧ a ≤ p ∧ b ≤ q := by
  have hg : 0 < Nat.gcd p q := Nat.gcd_pos_of_pos_right _ hq
  refine ⟨p / Nat.gcd p q, q / Nat.gcd p q, Nat.gcd p q, rfl, hg, ?_, ?_, ?_, Nat.div_le_self _ _, Nat.div_le_self _ _⟩
  · rw [Nat.mul_comm]; exact (Nat.div_mul_cancel (Nat.gcd_dvd_left p q)).symm
  · rw [Nat.mul_comm]; exact (Nat.div_mul_cancel (Nat.gcd_dvd_right p q)).symm
  · exact Nat.div_pos (Nat.le_of_dvd hq (Nat.gcd_dvd_right _ _)) hg
/-- a fraction of a whole: x / N = a / b -/
theorem cut_of {x : Int} {N : Nat} (hx : 0 ≤ x) (hN : 0 < N) : ∃ a b : Int, cutF x.toNat N = [a, b] ∧ a * N = x * b ∧ 0 ≤ a ∧ a ≤ x ∧ 1 ≤ b ∧ b ≤ N := by
  obtain ⟨a, b, g, e, hg, h1, h2, h3, h4, h5⟩ := cut_parts x.toNat N hN
  refine ⟨a, b, e, ?_, by omega, by omega, by omega, by omega⟩
  have ex : x = (g : Int) * a := by rw [← Int.natCast_mul, ← h1]; omega
  rw [ex, h2, Int.natCast_mul]
  grind
theorem chance_any {x : List (List Int)} (h6 : Six x) {fu : Nat} (hf : 2000 < fu) (n : Int) : ∃ c ok, p_impl_ChanceOfSum fu x n = some (c, ok) ∧ p_spec_ChanceOfSum fu x n = some (c, ok) ∧ ok = (p_impl_IsPool x && decide (0 ≤ n ∧ n ≤ 120)) ∧ (ok = true → c = cutF ((tabOf x).getD n.toNat 0).toNat (6 ^ x.length)) := by
  by_cases h : p_impl_IsPool x = true ∧ 0 ≤ n ∧ n ≤ 120
  · obtain ⟨a, b⟩ := chance_eq h6 h.1 hf h.2.1 h.2.2
    exact ⟨_, _, a, b, by simp [h.1, h.2.1, h.2.2], fun _ => rfl⟩
  · refine ⟨List.replicate 2 0, false, ?_, ?_, ?_, fun h => by cases h⟩
    · unfold p_impl_ChanceOfSum
      rw [if_pos (by rw [pwithin_eq]; cases hp : p_impl_IsPool x <;> simp [hp] at h ⊢; omega)]
    · unfold p_spec_ChanceOfSum p_spec_l2Sum
      rw [pool_eq h6, Option.bind_some, Option.bind_some, if_neg (by rw [pl1In_eq]; cases hp : p_impl_IsPool x <;> simp [hp] at h ⊢; omega)]
    · cases hp : p_impl_IsPool x <;> simp [hp] at h ⊢; omega
theorem least_any {x : List (List Int)} (h6 : Six x) {fu : Nat} (hf : 2000 < fu) (n : Int) : ∃ c ok, p_impl_ChanceAtLeast fu x n = some (c, ok) ∧ p_spec_ChanceAtLeast fu x n = some (c, ok) ∧ ok = (p_impl_IsPool x && decide (0 ≤ n ∧ n ≤ 120)) ∧ (ok = true → c = cutF (tailS (tabOf x) n.toNat).toNat (6 ^ x.length)) := by
  by_cases h : p_impl_IsPool x = true ∧ 0 ≤ n ∧ n ≤ 120
  · obtain ⟨a, b⟩ := least_eq h6 h.1 hf h.2.1 h.2.2
    exact ⟨_, _, a, b, by simp [h.1, h.2.1, h.2.2], fun _ => rfl⟩
  · refine ⟨List.replicate 2 0, false, ?_, ?_, ?_, fun h => by cases h⟩
    · unfold p_impl_ChanceAtLeast
      rw [if_pos (by rw [pwithin_eq]; cases hp : p_impl_IsPool x <;> simp [hp] at h ⊢; omega)]
    · unfold p_spec_ChanceAtLeast p_spec_l2Sum
      rw [pool_eq h6, Option.bind_some, Option.bind_some, if_neg (by rw [pl1In_eq]; cases hp : p_impl_IsPool x <;> simp [hp] at h ⊢; omega)]
    · cases hp : p_impl_IsPool x <;> simp [hp] at h ⊢; omega
theorem isPool_spec {x : List (List Int)} (h6 : Six x) : p_spec_IsPool x = some (p_impl_IsPool x) := by
  unfold p_spec_IsPool
  rw [pool_eq h6, Option.bind_some]
/-- nothing is told of what is no pool -/
theorem none_all {x : List (List Int)} (h6 : Six x) (hp : p_impl_IsPool x = false) (fu : Nat) : p_impl_SumTable x = some (List.replicate 121 0, false) ∧ p_spec_SumTable x = some (List.replicate 121 0, false) ∧ p_impl_MeanOf fu x = some (List.replicate 2 0, false) ∧ p_spec_MeanOf fu x = some (List.replicate 2 0, false) ∧ p_impl_SpreadOf fu x = some (List.replicate 2 0, false) ∧ p_spec_SpreadOf fu x = some (List.replicate 2 0, false) ∧ p_impl_BoundsOf x = (0, 0, false) ∧ p_spec_BoundsOf x = some (0, 0, false) ∧ p_impl_TopSums x = some ([], 0, false) ∧ p_spec_TopSums x = some ([], 0, false) := by
  have hn : ¬ p_impl_IsPool x = true := by rw [hp]; simp
  refine ⟨?_, ?_, ?_, ?_, ?_, ?_, ?_, ?_, ?_, ?_⟩
  · unfold p_impl_SumTable; rw [if_neg hn]
  · unfold p_spec_SumTable; rw [pool_eq h6, Option.bind_some, if_neg hn]
  · unfold p_impl_MeanOf; rw [if_neg hn]
  · unfold p_spec_MeanOf; rw [pool_eq h6, Option.bind_some, if_neg hn]
  · unfold p_impl_SpreadOf; rw [if_neg hn]
  · unfold p_spec_SpreadOf; rw [pool_eq h6, Option.bind_some, if_neg hn]
  · unfold p_impl_BoundsOf; rw [if_neg hn]
  · unfold p_spec_BoundsOf; rw [pool_eq h6, Option.bind_some, if_neg hn]
  · unfold p_impl_TopSums; rw [if_neg hn]
  · unfold p_spec_TopSums; rw [pool_eq h6, Option.bind_some, if_neg hn]
end Go.GA
