/- Plain law of FnRuns: chances of races. -/
import Derived.Test.YtheplbbbfbbjcaaRK10
namespace Go.GA
open Go
set_option maxRecDepth 100000
set_option linter.unusedSectionVars false
section
variable {a b : List Int} (ha6 : a.length = 6) (hb6 : b.length = 6) (ha : p_impl_isRunner a = true) (hb : p_impl_isRunner b = true) {G : Nat} (h1 : 1 ≤ G) (hG : G ≤ 8) {fu : Nat} (hf : 2821109907456 < fu)
include ha6 hb6 ha hb h1 hG hf
theorem rlA : RL (outI a G G) (outS a G G) G := rl_of (runner_six ha6 ha) h1 hG
theorem rlB : RL (outI b G G) (outS b G G) G := rl_of (runner_six hb6 hb) h1 hG
theorem race_eq : ∃ b', p_spec_l7Race fu a b (G : Int) = some (b', sr (outI a G G) (outI b G G) G) ∧ b' + sr (outI a G G) (outI b G G) G = fw (outI a G G) (outI b G G) G := by
  have hA := rlA ha6 hb6 ha hb h1 hG hf
  have hB := rlB ha6 hb6 ha hb h1 hG hf
  obtain ⟨b', e1, e2, _⟩ := race_run h1 hG hA hB (fu := fu) (by omega) fu 0 0 (by omega) (by omega) (Int.le_refl _) rfl
  refine ⟨b', ?_, e2⟩
  unfold p_spec_l7Race
  rw [runS_eq (runner_six ha6 ha) h1 hG (by omega), Option.bind_some, runS_eq (runner_six hb6 hb) h1 hG (by omega), Option.bind_some]
  exact e1
theorem firstWins_eq : p_impl_FirstWins fu a b (G : Int) = some (cutF (fw (outI a G G) (outI b G G) G).toNat (6 ^ (2 * G)), true) ∧ p_spec_FirstWins fu a b (G : Int) = some (cutF (fw (outI a G G) (outI b G G) G).toNat (6 ^ (2 * G)), true) := by
  have hA := rlA ha6 hb6 ha hb h1 hG hf
  have hB := rlB ha6 hb6 ha hb h1 hG hf
  have hp := p16 (k := 2 * G) (by omega)
  have hw := fw_bound h1 hG hA hB (i := G) (Nat.le_refl _)
  have e2 : IntKind.wrap .i64 (2 * (G : Int)) = ((2 * G : Nat) : Int) := by rw [wr (by omega) (by omega)]; omega
  have eT : (((fw (outI a G G) (outI b G G) G).toNat : Nat) : Int) = fw (outI a G G) (outI b G G) G := by omega
  constructor
  · unfold p_impl_FirstWins
    rw [ha, hb, goal_eq, if_neg (by simp; omega), runs_eq (runner_six ha6 ha) h1 hG (by omega), Option.bind_some, runs_eq (runner_six hb6 hb) h1 hG (by omega), Option.bind_some]
    refine cnt_ind0 (S := Int) G (fun i s => s = fw (outI a G G) (outI b G G) i) (fun r => r = some (cutF (fw (outI a G G) (outI b G G) G).toNat (6 ^ (2 * G)), true)) (by rw [hA.lenX]; omega) rfl (fun s hs => ?_) (fun i s c hi hs hc => ?_)
    · rw [hs, e2, power_eq (by omega) (by omega), Option.bind_some]
      have := fraction_eq (fu := fu) (fw (outI a G G) (outI b G G) G).toNat (6 ^ (2 * G)) (by omega) (by omega) (by omega) (by omega)
      rw [eT] at this
      rw [this, Option.bind_some]
    · have g := getD_nn hA.nn i
      have w1 := fw_bound h1 hG hA hB (i := i) (by omega)
      have w2 := fw_bound h1 hG hA hB (i := i + 1) (by omega)
      have ht := tailS_nn (nn_of hB.nn) i
      have q := Int.mul_nonneg g.1 ht
      have hsum := hB.sum
      have hle := tailS_le (nn_of hB.nn) i
      have p8' := p8 hG
      simp only [fw] at w2
      rw [Int.toNat_natCast, if_pos (by rw [hB.lenX]; omega)]
      have hd : ((outI b G G).drop i).take (((outI b G G).length : Int) - (i : Int)).toNat = (outI b G G).drop i := List.take_of_length_le (by rw [List.length_drop]; omega)
      rw [hd, total_eq (fun z hz => (hB.nn z (List.mem_of_mem_drop hz)).1) (by unfold tailS at hle; omega)]
      have et : ((outI b G G).drop i).sum = tailS (outI b G G) i := rfl
      rw [et, hs, wr (n := (outI a G G).getD i 0 * tailS (outI b G G) i) (by omega) (by omega), wr (by omega) (by omega)]
      exact hc _ rfl
  · obtain ⟨b', r1, r2⟩ := race_eq ha6 hb6 ha hb h1 hG hf
    unfold p_spec_FirstWins
    rw [l7Die_eq ha6, l7Die_eq hb6, ha, hb, goalS_eq, Option.bind_some, if_pos (by simp), if_neg (by simp; omega), r1, Option.bind_some, e2, all_eq (by omega) (by omega), Option.bind_some]
    simp only
    rw [r2, wr (by omega) (by omega)]
    have := cut_eq (fu := fu) (fw (outI a G G) (outI b G G) G).toNat (6 ^ (2 * G)) (by omega) (by omega) (by omega) (by omega)
    rw [eT] at this
    rw [this, Option.bind_some]
theorem sr_bound {i : Nat} (hi : i ≤ G) : 0 ≤ sr (outI a G G) (outI b G G) i ∧ sr (outI a G G) (outI b G G) i ≤ 2821109907456 := by
  have hA := rlA ha6 hb6 ha hb h1 hG hf
  have hB := rlB ha6 hb6 ha hb h1 hG hf
  have w1 := fw_bound h1 hG hA hB (i := i) hi
  have w2 := sr_le (nn_of hA.nn) (nn_of hB.nn) (by rw [hA.lenX, hB.lenX]) i (by rw [hA.lenX]; omega)
  omega
theorem sameRound_eq : p_impl_SameRound fu a b (G : Int) = some (cutF (sr (outI a G G) (outI b G G) G).toNat (6 ^ (2 * G)), true) ∧ p_spec_SameRound fu a b (G : Int) = some (cutF (sr (outI a G G) (outI b G G) G).toNat (6 ^ (2 * G)), true) := by
  have hA := rlA ha6 hb6 ha hb h1 hG hf
  have hB := rlB ha6 hb6 ha hb h1 hG hf
  have hp := p16 (k := 2 * G) (by omega)
  have hw := sr_bound ha6 hb6 ha hb h1 hG hf (i := G) (Nat.le_refl _)
  have e2 : IntKind.wrap .i64 (2 * (G : Int)) = ((2 * G : Nat) : Int) := by rw [wr (by omega) (by omega)]; omega
  have eT : (((sr (outI a G G) (outI b G G) G).toNat : Nat) : Int) = sr (outI a G G) (outI b G G) G := by omega
  constructor
  · unfold p_impl_SameRound
    rw [ha, hb, goal_eq, if_neg (by simp; omega), runs_eq (runner_six ha6 ha) h1 hG (by omega), Option.bind_some, runs_eq (runner_six hb6 hb) h1 hG (by omega), Option.bind_some]
    refine cnt_ind0 (S := Int) G (fun i s => s = sr (outI a G G) (outI b G G) i) (fun r => r = some (cutF (sr (outI a G G) (outI b G G) G).toNat (6 ^ (2 * G)), true)) (by rw [hA.lenX]; omega) rfl (fun s hs => ?_) (fun i s c hi hs hc => ?_)
    · rw [hs, e2, power_eq (by omega) (by omega), Option.bind_some]
      have := fraction_eq (fu := fu) (sr (outI a G G) (outI b G G) G).toNat (6 ^ (2 * G)) (by omega) (by omega) (by omega) (by omega)
      rw [eT] at this
      rw [this, Option.bind_some]
    · have g := getD_nn hA.nn i
      have g2 := getD_nn hB.nn i
      have w1 := sr_bound ha6 hb6 ha hb h1 hG hf (i := i) (by omega)
      have w2 := sr_bound ha6 hb6 ha hb h1 hG hf (i := i + 1) (by omega)
      have q := Int.mul_nonneg g.1 g2.1
      simp only [sr] at w2
      rw [Int.toNat_natCast, if_pos (by rw [hB.lenX]; omega), hs, wr (n := (outI a G G).getD i 0 * (outI b G G).getD i 0) (by omega) (by omega), wr (by omega) (by omega)]
      exact hc _ rfl
  · obtain ⟨b', r1, r2⟩ := race_eq ha6 hb6 ha hb h1 hG hf
    unfold p_spec_SameRound
    rw [l7Die_eq ha6, l7Die_eq hb6, ha, hb, goalS_eq, Option.bind_some, if_pos (by simp), if_neg (by simp; omega), r1, Option.bind_some, e2, all_eq (by omega) (by omega), Option.bind_some]
    simp only
    have := cut_eq (fu := fu) (sr (outI a G G) (outI b G G) G).toNat (6 ^ (2 * G)) (by omega) (by omega) (by omega) (by omega)
    rw [eT] at this
    rw [this, Option.bind_some]
end
/-- parts of a whole -/
theorem parts_eq {x M : Nat} (hM : 0 < M) (hx : x ≤ M) (hM2 : M ≤ 2821109907456) : p_laws_rParts (cutF x M) (M : Int) = (x : Int) := by
  obtain ⟨a, b, g, e, hg, q1, q2, q3, q4, q5⟩ := cut_parts x M hM
  unfold p_laws_rParts
  rw [e]
  show (if (b : Int) < 1 then (-1) else (IntKind.wrap .i64 ((a : Int) * (IntKind.wrap .i64 ((M : Int).tdiv (b : Int)))))) = _
  have ed : M / b = g := by rw [q2]; exact Nat.mul_div_cancel g q3
  have hgM : g ≤ M := by rw [q2]; exact Nat.le_mul_of_pos_right g q3
  rw [if_neg (by omega), tdiv_nat, ed, wrap_nat (by omega), ← Int.natCast_mul, Nat.mul_comm a g, ← q1, wrap_nat (by omega)]
theorem pow_loop {R : Type} {G : Nat} (hG : G ≤ 8) (K : Int → Option R) : ∀ (n m : Nat), m ≤ 2 * G → 2 * G - m < n → whl (fun (s185 : Int × Int) c187 => (if s185.2 < (IntKind.wrap .i64 (2 * (G : Int))) then c187 ((IntKind.wrap .i64 (6 * s185.1)), (IntKind.wrap .i64 (s185.2 + 1))) else K s185.1)) n (((6 ^ m : Nat) : Int), (m : Int)) = K ((6 ^ (2 * G) : Nat) : Int)
  | 0, m, _, h => by omega
  | n + 1, m, h1, h2 => by
    have e2 : IntKind.wrap .i64 (2 * (G : Int)) = ((2 * G : Nat) : Int) := by rw [wr (by omega) (by omega)]; omega
    have ih := pow_loop hG K n (m + 1)
    rw [show ∀ (f : (Int × Int) → ((Int × Int) → Option R) → Option R) (z : Int × Int), whl f (n + 1) z = f z (whl f n) from fun _ _ => rfl]
    generalize whl (fun (s185 : Int × Int) c187 => (if s185.2 < (IntKind.wrap .i64 (2 * (G : Int))) then c187 ((IntKind.wrap .i64 (6 * s185.1)), (IntKind.wrap .i64 (s185.2 + 1))) else K s185.1)) n = W at ih
    simp only
    rw [e2]
    by_cases hc : m < 2 * G
    · rw [if_pos (by omega)]
      have hp := p16 (k := m + 1) (by omega)
      have e6 : 6 * ((6 ^ m : Nat) : Int) = ((6 ^ (m + 1) : Nat) : Int) := by rw [Nat.pow_succ]; omega
      rw [e6, wrap_nat (by omega), show (m : Int) + 1 = ((m + 1 : Nat) : Int) by omega, wrap_nat (by omega)]
      exact ih (by omega) (by omega)
    · rw [if_neg (by omega), show m = 2 * G by omega]
end Go.GA
