/- Plain law of FnRuns: tables and means. -/
import Derived.Test.YtheplbbbfbbjcaaRK8
namespace Go.GA
open Go
set_option maxRecDepth 100000
set_option linter.unusedSectionVars false
theorem runner_six {d : List Int} (h : d.length = 6) (hr : p_impl_isRunner d = true) : Run6 d := by
  unfold p_impl_isRunner at hr
  simp only [Bool.and_eq_true, decide_eq_true_eq] at hr
  have h6 := die6_of h hr.1
  refine ⟨h, fun f hf => ?_⟩
  have := h6.face f hf
  omega
theorem l7Die_eq {d : List Int} (h : d.length = 6) : p_spec_l7Die d = some (p_impl_isRunner d) := by
  unfold p_spec_l7Die p_impl_isRunner
  rw [l2Die_eq h, Option.bind_some]
theorem goal_eq (g : Int) : p_impl_isGoal g = decide (1 ≤ g ∧ g ≤ 8) := by
  unfold p_impl_isGoal; exact pwithin_eq _ _ _
theorem goalS_eq (g : Int) : p_spec_l7Goal g = decide (1 ≤ g ∧ g ≤ 8) := by
  unfold p_spec_l7Goal; exact pl1In_eq _ _ _
structure RL (X Y : List Int) (G : Nat) : Prop where
  lenX : X.length = G
  lenY : Y.length = G + 1
  nn : ∀ a ∈ X, 0 ≤ a ∧ a ≤ 1679616
  sum : X.sum = ((6 ^ G : Nat) : Int)
  rel : ∀ j, j < G → X.getD j 0 = Y.getD (j + 1) 0 * ((6 ^ (G - 1 - j) : Nat) : Int)
  yle : ∀ j, j < G → 0 ≤ Y.getD (j + 1) 0 ∧ Y.getD (j + 1) 0 ≤ ((6 ^ (j + 1) : Nat) : Int)
theorem rl_of {d : List Int} (hd : Run6 d) {G : Nat} (h1 : 1 ≤ G) (hG : G ≤ 8) : RL (outI d G G) (outS d G G) G := by
  obtain ⟨a1, a2, a3, a4⟩ := outI_ok hd h1 hG G (Nat.le_refl _)
  obtain ⟨b1, b2⟩ := outS_ok hd h1 hG G (Nat.le_refl _)
  refine ⟨a1, b1, a2, outI_sum hd h1 hG, fun j hj => ?_, fun j hj => ?_⟩
  · rw [a4 j hj, b2 j hj]
  · rw [b2 j hj]; exact wy_le hd h1 hG j
theorem p8 {k : Nat} (hk : k ≤ 8) : 6 ^ k ≤ 1679616 ∧ 0 < 6 ^ k := by
  have h2 : 6 ^ k ≤ 6 ^ 8 := Nat.pow_le_pow_right (by omega) (by omega)
  have h3 : (6 : Nat) ^ 8 = 1679616 := rfl
  exact ⟨by omega, Nat.pow_pos (by omega)⟩
theorem getD_nn {X : List Int} (h : ∀ a ∈ X, 0 ≤ a ∧ a ≤ 1679616) (j : Nat) : 0 ≤ X.getD j 0 ∧ X.getD j 0 ≤ 1679616 := by
  rw [List.getD_eq_getElem?_getD]
  cases hj : X[j]? with
  | none => simp
  | some b => exact h b (List.mem_of_getElem? hj)
theorem nn_of {X : List Int} (h : ∀ a ∈ X, 0 ≤ a ∧ a ≤ 1679616) : NN X := fun j => (getD_nn h j).1
/-! ### tables -/
def tabF (X : List Int) (N : Nat) : List (List Int) := X.map (fun a => cutF a.toNat N)
def tabS (fu G : Nat) {R : Type} : Int → List (List Int) → (List (List Int) → Option R) → Option R := fun a s9 c11 => (p_impl_power fu (G : Int)).bind (fun r16 => (p_impl_fraction fu a r16).bind (fun r17 => if (s9.length : Int) + 1 ≤ 1000000000 then c11 (s9 ++ [r17]) else none))
theorem tabS_eq {fu G : Nat} (hG : G ≤ 8) (hf : 2000000 < fu) {R : Type} {a : Int} (ha : 0 ≤ a ∧ a ≤ 1679616) {s : List (List Int)} (hl : s.length ≤ 1000) (c : List (List Int) → Option R) : tabS fu G a s c = c (s ++ [cutF a.toNat (6 ^ G)]) := by
  have hp := p8 hG
  unfold tabS
  rw [power_eq (by omega) (by omega), Option.bind_some]
  have := fraction_eq (fu := fu) a.toNat (6 ^ G) (by omega) (by omega) (by omega) (by omega)
  rw [show ((a.toNat : Nat) : Int) = a by omega] at this
  rw [this, Option.bind_some, if_pos (by omega)]
theorem tab_lrun {fu G : Nat} (hG : G ≤ 8) (hf : 2000000 < fu) {R : Type} (K : List (List Int) → Option R) : ∀ (l : List Int) (s : List (List Int)), (∀ a ∈ l, 0 ≤ a ∧ a ≤ 1679616) → s.length + l.length ≤ 1000 → lrun (tabS fu G) K l s = K (s ++ tabF l (6 ^ G))
  | [], s, _, _ => by simp [lrun, tabF]
  | a :: l, s, h, hl => by
    simp only [List.length_cons] at hl
    show tabS fu G a s (fun s' => lrun (tabS fu G) K l s') = _
    rw [tabS_eq hG hf (h a (by simp)) (by omega), tab_lrun hG hf K l _ (fun b hb => h b (by simp [hb])) (by simp; omega)]
    simp [tabF]
section
variable {d : List Int} (h6 : d.length = 6) (hr : p_impl_isRunner d = true) {G : Nat} (h1 : 1 ≤ G) (hG : G ≤ 8) {fu : Nat} (hf : 2000000 < fu)
include h6 hr h1 hG hf
theorem rl_get : RL (outI d G G) (outS d G G) G := rl_of (runner_six h6 hr) h1 hG
theorem cut_rel {j : Nat} (hj : j < G) : cutF ((outS d G G).getD (j + 1) 0).toNat (6 ^ (j + 1)) = cutF ((outI d G G).getD j 0).toNat (6 ^ G) := by
  have h := rl_get h6 hr h1 hG hf
  have e := h.rel j hj
  have y := h.yle j hj
  have eX : ((outI d G G).getD j 0).toNat = ((outS d G G).getD (j + 1) 0).toNat * 6 ^ (G - 1 - j) := by
    rw [e]
    apply Int.ofNat.inj
    show (((outS d G G).getD (j + 1) 0 * ((6 ^ (G - 1 - j) : Nat) : Int)).toNat : Int) = ((((outS d G G).getD (j + 1) 0).toNat * 6 ^ (G - 1 - j) : Nat) : Int)
    rw [Int.natCast_mul, Int.toNat_of_nonneg y.1, Int.toNat_of_nonneg (Int.mul_nonneg y.1 (Int.natCast_nonneg _))]
  refine cut_same (Nat.pow_pos (by omega)) (Nat.pow_pos (by omega)) ?_
  rw [eX, Nat.mul_assoc, ← Nat.pow_add]
  congr 2
  omega
theorem runTable_eq : p_impl_RunTable fu d (G : Int) = some (tabF (outI d G G) (6 ^ G), true) ∧ p_spec_RunTable fu d (G : Int) = some (tabF (outI d G G) (6 ^ G), true) := by
  have h := rl_get h6 hr h1 hG hf
  have hd := runner_six h6 hr
  constructor
  · unfold p_impl_RunTable
    rw [hr, goal_eq, if_neg (by simp; omega), runs_eq hd h1 hG (by omega), Option.bind_some]
    rw [cnt_list (tabS fu G) (outI d G G) 0 (by omega) (fun _ _ _ _ _ => rfl)]
    rw [tab_lrun hG hf _ (outI d G G) [] h.nn (by rw [h.lenX]; simp; omega), List.nil_append]
  · unfold p_spec_RunTable
    rw [l7Die_eq h6, hr, goalS_eq, Option.bind_some, if_neg (by simp; omega), runS_eq hd h1 hG (by omega), Option.bind_some]
    suffices hh : ∀ (n k : Nat), k ≤ G → G - k < n → whl (fun (s10 : Int × (List (List Int))) c12 => (if s10.1 ≤ (G : Int) then if s10.1 < ((outS d G G).length : Int) then (p_spec_l2All fu s10.1).bind (fun r18 => (p_spec_l2Cut fu ((outS d G G).getD s10.1.toNat 0) r18).bind (fun r19 => if (s10.2.length : Int) + 1 ≤ 1000000000 then c12 ((s10.1 + 1), (s10.2 ++ [r19])) else none)) else none else some (s10.2, true))) n (((k : Nat) : Int) + 1, tabF ((outI d G G).take k) (6 ^ G)) = some (tabF (outI d G G) (6 ^ G), true) by
      exact hh fu 0 (by omega) (by omega)
    intro n
    induction n with
    | zero => intro k _ h; omega
    | succ n ih =>
      intro k hk hn
      simp only [whl]
      by_cases hc : k < G
      · have hp := p8 (k := k + 1) (by omega)
        have y := h.yle k hc
        rw [if_pos (by omega), if_pos (by rw [h.lenY]; omega), show ((k : Nat) : Int) + 1 = ((k + 1 : Nat) : Int) by omega, all_eq (by omega) (by omega), Option.bind_some, Int.toNat_natCast]
        have hc1 := cut_eq (fu := fu) ((outS d G G).getD (k + 1) 0).toNat (6 ^ (k + 1)) (by omega) (by omega) (by omega) (by omega)
        rw [show ((((outS d G G).getD (k + 1) 0).toNat : Nat) : Int) = (outS d G G).getD (k + 1) 0 by omega] at hc1
        rw [hc1, Option.bind_some, if_pos (by unfold tabF; rw [List.length_map, List.length_take]; omega), cut_rel h6 hr h1 hG hf hc]
        have et : tabF ((outI d G G).take k) (6 ^ G) ++ [cutF ((outI d G G).getD k 0).toNat (6 ^ G)] = tabF ((outI d G G).take (k + 1)) (6 ^ G) := by
          have hlt : k < (outI d G G).length := by rw [h.lenX]; exact hc
          unfold tabF
          rw [List.take_succ_eq_append_getElem hlt, List.map_append, List.getD_eq_getElem?_getD, List.getElem?_eq_getElem hlt]
          rfl
        rw [et]
        exact ih (k + 1) (by omega) (by omega)
      · have hkG : k = G := by omega
        rw [if_neg (by omega), hkG, List.take_of_length_le (by rw [h.lenX]; exact Nat.le_refl _)]
omit h6 hr h1 hG hf in
/-- sums of rolls, each as often as it is long -/
def mu (X : List Int) : Nat → Int
  | 0 => 0
  | i + 1 => mu X i + ((i : Int) + 1) * X.getD i 0
omit h6 hr h1 hG hf in
theorem mu_le {X : List Int} (hn : NN X) : ∀ i, i ≤ 8 → 0 ≤ mu X i ∧ mu X i ≤ 8 * tk X i
  | 0, _ => by simp [mu, tk]
  | i + 1, h => by
    have ih := mu_le hn i (by omega)
    have h0 := hn i
    have h2 : 0 ≤ ((i : Int) + 1) * X.getD i 0 := Int.mul_nonneg (by omega) h0
    have h3 : ((i : Int) + 1) * X.getD i 0 ≤ 8 * X.getD i 0 := Int.mul_le_mul_of_nonneg_right (by omega) h0
    simp only [mu, tk]
    omega
theorem mu_all : 0 ≤ mu (outI d G G) G ∧ mu (outI d G G) G ≤ 8 * ((6 ^ G : Nat) : Int) := by
  have h := rl_get h6 hr h1 hG hf
  have := mu_le (nn_of h.nn) G hG
  rw [tk_all h.lenX, h.sum] at this
  exact this
theorem mu_part {i : Nat} (hi : i ≤ G) : 0 ≤ mu (outI d G G) i ∧ mu (outI d G G) i ≤ 20000000 := by
  have h := rl_get h6 hr h1 hG hf
  have h2 := mu_le (nn_of h.nn) i (by omega)
  have h3 := tk_mono (nn_of h.nn) (i := i) (G - i)
  rw [show i + (G - i) = G by omega, tk_all h.lenX, h.sum] at h3
  have hp := (p8 hG).1
  omega
theorem meanI_eq : p_impl_meanRun fu d (G : Int) = some (mu (outI d G G) G) := by
  have h := rl_get h6 hr h1 hG hf
  have hd := runner_six h6 hr
  unfold p_impl_meanRun
  rw [runs_eq hd h1 hG (by omega), Option.bind_some]
  refine cnt_ind0 (S := Int) G (fun i s => s = mu (outI d G G) i) (fun r => r = some (mu (outI d G G) G)) (by rw [h.lenX]; omega) rfl (fun s hs => by rw [hs]) (fun i s c hi hs hc => ?_)
  rw [Int.toNat_natCast, hs]
  have g := getD_nn h.nn i
  have m1 := mu_part h6 hr h1 hG hf (i := i) (by omega)
  have m2 := mu_part h6 hr h1 hG hf (i := i + 1) (by omega)
  have h2 : 0 ≤ ((i : Int) + 1) * (outI d G G).getD i 0 := Int.mul_nonneg (by omega) g.1
  simp only [mu] at m2
  rw [wr (n := ((i : Int) + 1) * (outI d G G).getD i 0) (by omega) (by omega), wr (by omega) (by omega)]
  exact hc _ rfl
theorem meanS_eq : p_spec_l7Mean fu d (G : Int) = some (cutF (mu (outI d G G) G).toNat (6 ^ G)) := by
  have h := rl_get h6 hr h1 hG hf
  have hd := runner_six h6 hr
  have hp := p8 hG
  have hm := mu_all h6 hr h1 hG hf
  unfold p_spec_l7Mean
  rw [runS_eq hd h1 hG (by omega), Option.bind_some]
  suffices hh : ∀ (n k : Nat), k ≤ G → G - k < n → whl (fun (s3 : Int × Int) c5 => (if s3.2 ≤ (G : Int) then if s3.2 < ((outS d G G).length : Int) then (p_spec_l2All fu (IntKind.wrap .i64 ((G : Int) - s3.2))).bind (fun r11 => c5 ((IntKind.wrap .i64 (s3.1 + (IntKind.wrap .i64 ((IntKind.wrap .i64 (s3.2 * ((outS d G G).getD s3.2.toNat 0))) * r11)))), (s3.2 + 1))) else none else (p_spec_l2All fu (G : Int)).bind (fun r12 => (p_spec_l2Cut fu s3.1 r12).bind (fun r13 => some r13)))) n (mu (outI d G G) k, ((k : Nat) : Int) + 1) = some (cutF (mu (outI d G G) G).toNat (6 ^ G)) by
    exact hh fu 0 (by omega) (by omega)
  intro n
  induction n with
  | zero => intro k _ h; omega
  | succ n ih =>
    intro k hk hn
    simp only [whl]
    by_cases hc : k < G
    · have y := h.yle k hc
      have py := p8 (k := k + 1) (by omega)
      have e := h.rel k hc
      have g := getD_nn h.nn k
      have m1 := mu_part h6 hr h1 hG hf (i := k) (by omega)
      have m2 := mu_part h6 hr h1 hG hf (i := k + 1) (by omega)
      have h2 : 0 ≤ ((k : Int) + 1) * (outI d G G).getD k 0 := Int.mul_nonneg (by omega) g.1
      have h3 : 0 ≤ ((k : Int) + 1) * (outS d G G).getD (k + 1) 0 := Int.mul_nonneg (by omega) y.1
      have h4 : ((k : Int) + 1) * (outS d G G).getD (k + 1) 0 ≤ 8 * (outS d G G).getD (k + 1) 0 := Int.mul_le_mul_of_nonneg_right (by omega) y.1
      simp only [mu] at m2
      rw [if_pos (by omega), if_pos (by rw [h.lenY]; omega), show ((k : Nat) : Int) + 1 = ((k + 1 : Nat) : Int) by omega, Int.toNat_natCast]
      rw [wr (n := (G : Int) - ((k + 1 : Nat) : Int)) (by omega) (by omega), show (G : Int) - ((k + 1 : Nat) : Int) = ((G - 1 - k : Nat) : Int) by omega, all_eq (by omega) (by omega), Option.bind_some]
      have e2 : ((k + 1 : Nat) : Int) * (outS d G G).getD (k + 1) 0 * ((6 ^ (G - 1 - k) : Nat) : Int) = ((k : Int) + 1) * (outI d G G).getD k 0 := by
        rw [e, Int.mul_assoc]; rfl
      have e3 : ((k + 1 : Nat) : Int) = (k : Int) + 1 := by omega
      rw [wr (n := ((k + 1 : Nat) : Int) * (outS d G G).getD (k + 1) 0) (by rw [e3]; omega) (by rw [e3]; omega), e2, wr (n := ((k : Int) + 1) * (outI d G G).getD k 0) (by omega) (by omega), wr (by omega) (by omega)]
      exact ih (k + 1) (by omega) (by omega)
    · have hkG : k = G := by omega
      rw [if_neg (by omega), hkG, all_eq (by omega) (by omega), Option.bind_some]
      have := cut_eq (fu := fu) (mu (outI d G G) G).toNat (6 ^ G) (by omega) (by omega) (by omega) (by omega)
      rw [show (((mu (outI d G G) G).toNat : Nat) : Int) = mu (outI d G G) G by omega] at this
      rw [this, Option.bind_some]
theorem meanRun_eq : p_impl_MeanRun fu d (G : Int) = some (cutF (mu (outI d G G) G).toNat (6 ^ G), true) ∧ p_spec_MeanRun fu d (G : Int) = some (cutF (mu (outI d G G) G).toNat (6 ^ G), true) := by
  have hp := p8 hG
  have hm := mu_all h6 hr h1 hG hf
  constructor
  · unfold p_impl_MeanRun
    rw [hr, goal_eq, if_neg (by simp; omega), meanI_eq h6 hr h1 hG hf, Option.bind_some, power_eq (by omega) (by omega), Option.bind_some]
    have := fraction_eq (fu := fu) (mu (outI d G G) G).toNat (6 ^ G) (by omega) (by omega) (by omega) (by omega)
    rw [show (((mu (outI d G G) G).toNat : Nat) : Int) = mu (outI d G G) G by omega] at this
    rw [this, Option.bind_some]
  · unfold p_spec_MeanRun
    rw [l7Die_eq h6, hr, goalS_eq, Option.bind_some, if_neg (by simp; omega), meanS_eq h6 hr h1 hG hf, Option.bind_some]
end
end Go.GA
