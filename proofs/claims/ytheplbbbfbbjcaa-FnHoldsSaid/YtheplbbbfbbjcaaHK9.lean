/- Plain law of FnHolds: endings, means, bust. -/
import Derived.Test.YtheplbbbfbbjcaaHK8
namespace Go.GA
open Go
set_option maxRecDepth 100000
set_option linter.unusedSectionVars false
theorem runner_six {d : List Int} (h : d.length = 6) (hr : p_impl_isRunner d = true) : Run6 d := by
  unfold p_impl_isRunner at hr
  simp only [Bool.and_eq_true, decide_eq_true_eq] at hr
  have h6 := die6_of h hr.1
  refine ⟨h, fun f hf => ?_⟩
  have := h6.face f hf
  omega
theorem l7Die_eq {d : List Int} (h : d.length = 6) : p_spec_l7Die d = some (p_impl_isRunner d) := by
  unfold p_spec_l7Die p_impl_isRunner
  rw [l2Die_eq h, Option.bind_some]
theorem l7Turn_eq {d : List Int} (h : d.length = 6) (b g : Int) : p_spec_l7Turn d b g = some (p_impl_isTurn d b g) := by
  unfold p_spec_l7Turn p_impl_isTurn
  rw [l7Die_eq h, Option.bind_some]
  rfl
theorem turn_iff (d : List Int) (b g : Int) : p_impl_isTurn d b g = true ↔ (p_impl_isRunner d = true ∧ (1 ≤ b ∧ b ≤ 30)) ∧ 1 ≤ g ∧ g ≤ 10 := by
  unfold p_impl_isTurn
  rw [pwithin_eq, pwithin_eq, Bool.and_eq_true, Bool.and_eq_true, decide_eq_true_eq, decide_eq_true_eq]
def pm (g : Int → Int) (T : List Int) : Nat → Int
  | 0 => 0
  | n + 1 => pm g T n + g n * T.getD n 0
theorem pm_le {g : Int → Int} {B : Int} {T : List Int} (hT : NN T) (hg : ∀ i : Nat, i < 41 → 0 ≤ g i ∧ g i ≤ B) : ∀ n, n ≤ 41 → 0 ≤ pm g T n ∧ pm g T n ≤ B * tk T n
  | 0, _ => by simp [pm, tk]
  | n + 1, h => by
    have ih := pm_le hT hg n (by omega)
    have h1 := hg n (by omega)
    have h2 := hT n
    have h3 := Int.mul_nonneg h1.1 h2
    have h4 := Int.mul_le_mul_of_nonneg_right h1.2 h2
    simp only [pm, tk, Int.mul_add]
    omega
/-- the endings that there are -/
def eL (o : List Int) (N : Nat) : Nat → List (Int × (List Int × Unit))
  | 0 => []
  | j + 1 => if 0 < o.getD j 0 then eL o N j ++ [((j : Int), (cutF (o.getD j 0).toNat N, ()))] else eL o N j
theorem eL_len (o : List Int) (N : Nat) : ∀ j, (eL o N j).length ≤ j
  | 0 => Nat.le_refl _
  | j + 1 => by
    have := eL_len o N j
    simp only [eL]
    split
    · simp; omega
    · omega
theorem eL_more {o : List Int} {N n : Nat} (h : o.length ≤ n) : ∀ m, eL o N (n + m) = eL o N n
  | 0 => rfl
  | m + 1 => by
    rw [show n + (m + 1) = (n + m) + 1 from rfl]
    simp only [eL]
    rw [if_neg, eL_more h m]
    rw [List.getD_eq_getElem?_getD, List.getElem?_eq_none (by omega)]
    simp
/-- the mean of what a turn ends with, in parts -/
def muH (b : Int) (d : List Int) (G : Nat) : Int := pm (fun i => i) (en b d G) 41
theorem pm_more (g : Int → Int) {o : List Int} {n : Nat} (h : o.length ≤ n) : ∀ m, pm g o (n + m) = pm g o n
  | 0 => rfl
  | m + 1 => by
    rw [show n + (m + 1) = (n + m) + 1 from rfl]
    simp only [pm]
    rw [pm_more g h m, List.getD_eq_getElem?_getD, List.getElem?_eq_none (by omega)]
    simp
theorem tk_more {o : List Int} {n : Nat} (h : o.length ≤ n) : ∀ m, tk o (n + m) = tk o n
  | 0 => rfl
  | m + 1 => by
    rw [show n + (m + 1) = (n + m) + 1 from rfl]
    simp only [tk]
    rw [tk_more h m, List.getD_eq_getElem?_getD, List.getElem?_eq_none (by omega)]
    simp
section
variable {b : Int} {d : List Int} (h6 : d.length = 6) (hr : p_impl_isRunner d = true) {G : Nat} (h1 : 1 ≤ G) (hG : G ≤ 10) {fu : Nat} (hf : 100000000 < fu)
include h6 hr h1 hG hf
theorem en_get : (en b d G).length = G + 30 ∧ NN (en b d G) ∧ (en b d G).sum = ((6 ^ G : Nat) : Int) ∧ Oz G (en b d G) := en_ok (runner_six h6 hr) h1 hG
theorem en_tk : tk (en b d G) 41 = ((6 ^ G : Nat) : Int) := by
  obtain ⟨e1, e2, e3, e4⟩ := en_get (b := b) h6 hr h1 hG hf
  have := tk_more (o := en b d G) (n := G + 30) (by omega) (11 - G)
  rw [show G + 30 + (11 - G) = 41 by omega, tk_all e1, e3] at this
  exact this
theorem en_le (j : Nat) : 0 ≤ (en b d G).getD j 0 ∧ (en b d G).getD j 0 ≤ ((6 ^ G : Nat) : Int) := by
  obtain ⟨e1, e2, e3, e4⟩ := en_get (b := b) h6 hr h1 hG hf
  have := getD_le_sum e2 j
  exact ⟨e2 j, by omega⟩
theorem mu_part {i : Nat} (hi : i ≤ 41) : 0 ≤ pm (fun i => i) (en b d G) i ∧ pm (fun i => i) (en b d G) i ≤ 40 * ((6 ^ G : Nat) : Int) := by
  obtain ⟨e1, e2, e3, e4⟩ := en_get (b := b) h6 hr h1 hG hf
  have h := pm_le (g := fun i => i) (B := 40) e2 (fun i hi => ⟨by show (0 : Int) ≤ (i : Int); omega, by show (i : Int) ≤ 40; omega⟩) i hi
  have h2 := tk_mono e2 (i := i) (41 - i)
  rw [show i + (41 - i) = 41 by omega, en_tk (b := b) h6 hr h1 hG hf] at h2
  omega
theorem ends_list {R : Type} (pw : Option Int) (hpw : pw = some ((6 ^ G : Nat) : Int)) (fr : Int → Int → Option (List Int)) (hfr : ∀ x : Nat, (x : Int) ≤ ((6 ^ G : Nat) : Int) → fr (x : Int) ((6 ^ G : Nat) : Int) = some (cutF x (6 ^ G))) (o : List Int) (ho : ∀ j, o.getD j 0 = (en b d G).getD j 0) (n : Nat) (hn : n ≤ 41) (K : List (Int × (List Int × Unit)) → Option R) : cnt (fun i5 (s4 : (List (Int × ((List Int) × Unit)))) c6 _ => (if 0 < (o.getD i5.toNat 0) then pw.bind (fun r14 => (fr (o.getD i5.toNat 0) r14).bind (fun r15 => if (s4.length : Int) + 1 ≤ 1000000000 then c6 (s4 ++ [(i5, (r15, ()))]) else none)) else c6 s4)) (fun i5 (s4 : (List (Int × ((List Int) × Unit)))) => K s4) n 0 [] = K (eL (en b d G) (6 ^ G) n) := by
  refine cnt_ind0 (S := List (Int × (List Int × Unit))) n (fun i s => s = eL (en b d G) (6 ^ G) i) (fun r => r = K (eL (en b d G) (6 ^ G) n)) rfl rfl (fun s hs => by rw [hs]) (fun i s c hi hs hc => ?_)
  have he := en_le (b := b) h6 hr h1 hG hf i
  have hl := eL_len (en b d G) (6 ^ G) i
  rw [Int.toNat_natCast, ho]
  by_cases h : 0 < (en b d G).getD i 0
  · rw [if_pos h, hpw, Option.bind_some]
    have := hfr ((en b d G).getD i 0).toNat (by omega)
    rw [show ((((en b d G).getD i 0).toNat : Nat) : Int) = (en b d G).getD i 0 by omega] at this
    rw [this, Option.bind_some, hs, if_pos (by omega)]
    exact hc _ (by simp only [eL]; rw [if_pos h])
  · rw [if_neg h]
    exact hc _ (by simp only [eL]; rw [if_neg h]; exact hs)
theorem mean_list {R : Type} (o : List Int) (ho : ∀ j, o.getD j 0 = (en b d G).getD j 0) (n : Nat) (hn : n ≤ 41) (K : Int → Option R) : cnt (fun i4 (s3 : Int) c5 _ => c5 (IntKind.wrap .i64 (s3 + (IntKind.wrap .i64 (i4 * (o.getD i4.toNat 0)))))) (fun i4 (s3 : Int) => K s3) n 0 0 = K (pm (fun i => i) (en b d G) n) := by
  refine cnt_ind0 (S := Int) n (fun i s => s = pm (fun i => i) (en b d G) i) (fun r => r = K (pm (fun i => i) (en b d G) n)) rfl rfl (fun s hs => by rw [hs]) (fun i s c hi hs hc => ?_)
  have he := en_le (b := b) h6 hr h1 hG hf i
  have hp := p10 hG
  have m1 := mu_part (b := b) h6 hr h1 hG hf (i := i) (by omega)
  have m2 := mu_part (b := b) h6 hr h1 hG hf (i := i + 1) (by omega)
  have h2 : 0 ≤ (i : Int) * (en b d G).getD i 0 := Int.mul_nonneg (by omega) he.1
  simp only [pm] at m2
  rw [Int.toNat_natCast, ho, hs, wr (n := (i : Int) * (en b d G).getD i 0) (by omega) (by omega), wr (by omega) (by omega)]
  exact hc _ rfl
theorem holdEnds_eq (hb : 1 ≤ b ∧ b ≤ 30) : p_impl_HoldEnds fu d b (G : Int) = some (eL (en b d G) (6 ^ G) 41, true) ∧ p_spec_HoldEnds fu d b (G : Int) = some (eL (en b d G) (6 ^ G) 41, true) := by
  have hd := runner_six h6 hr
  have hp := p10 hG
  have ht : p_impl_isTurn d b (G : Int) = true := (turn_iff _ _ _).2 ⟨⟨hr, hb⟩, by omega, by omega⟩
  obtain ⟨e1, e2, e3, e4⟩ := en_get (b := b) h6 hr h1 hG hf
  constructor
  · unfold p_impl_HoldEnds
    rw [if_pos ht, ends_I (b := b) hd h1 hG (by omega), Option.bind_some]
    have hl : Int.toNat (((nwo b d G (G + 30) G).1.length : Int) - 0) = G + 30 := by
      have : (nwo b d G (G + 30) G).1.length = G + 30 := nwo_len G
      omega
    rw [hl]
    refine Eq.trans (ends_list (b := b) h6 hr h1 hG hf (p_impl_power fu (G : Int)) (power_eq (by omega) (by omega)) (p_impl_fraction fu) (fun x hx => fraction_eq x (6 ^ G) (by omega) (by omega) (by omega) (by omega)) (nwo b d G (G + 30) G).1 (fun j => rfl) (G + 30) (by omega) (fun s4 => some (s4, true))) ?_
    have := eL_more (o := en b d G) (N := 6 ^ G) (n := G + 30) (by omega) (11 - G)
    rw [show G + 30 + (11 - G) = 41 by omega] at this
    rw [this]
  · unfold p_spec_HoldEnds
    rw [l7Turn_eq h6, Option.bind_some, if_pos ht, ends_S (b := b) hd h1 hG (by omega), Option.bind_some]
    exact ends_list (b := b) h6 hr h1 hG hf (p_spec_l2All fu (G : Int)) (all_eq (by omega) (by omega)) (p_spec_l2Cut fu) (fun x hx => cut_eq x (6 ^ G) (by omega) (by omega) (by omega) (by omega)) (nwo b d G 41 G).1 (fun j => enS_getD hd hG j) 41 (Nat.le_refl _) (fun s4 => some (s4, true))
theorem meanI_eq : p_impl_holdMean fu d b (G : Int) = some (muH b d G) := by
  have hd := runner_six h6 hr
  obtain ⟨e1, e2, e3, e4⟩ := en_get (b := b) h6 hr h1 hG hf
  unfold p_impl_holdMean
  rw [ends_I (b := b) hd h1 hG (by omega), Option.bind_some]
  have hl : Int.toNat (((nwo b d G (G + 30) G).1.length : Int) - 0) = G + 30 := by
    have : (nwo b d G (G + 30) G).1.length = G + 30 := nwo_len G
    omega
  rw [hl]
  refine Eq.trans (mean_list (b := b) h6 hr h1 hG hf (nwo b d G (G + 30) G).1 (fun j => rfl) (G + 30) (by omega) (fun s => some s)) ?_
  have := pm_more (fun i => i) (o := en b d G) (n := G + 30) (by omega) (11 - G)
  rw [show G + 30 + (11 - G) = 41 by omega] at this
  unfold muH
  rw [this]
theorem muH_le : 0 ≤ muH b d G ∧ muH b d G ≤ 40 * ((6 ^ G : Nat) : Int) := mu_part (b := b) h6 hr h1 hG hf (Nat.le_refl _)
theorem meanS_eq : p_spec_l7HoldMean fu d b (G : Int) = some (cutF (muH b d G).toNat (6 ^ G)) := by
  have hd := runner_six h6 hr
  have hp := p10 hG
  have hm := muH_le (b := b) h6 hr h1 hG hf
  unfold p_spec_l7HoldMean
  rw [ends_S (b := b) hd h1 hG (by omega), Option.bind_some]
  refine Eq.trans (mean_list (b := b) h6 hr h1 hG hf (nwo b d G 41 G).1 (fun j => enS_getD hd hG j) 41 (Nat.le_refl _) (fun s2 => (p_spec_l2All fu (G : Int)).bind (fun r9 => (p_spec_l2Cut fu s2 r9).bind (fun r10 => some r10)))) ?_
  rw [all_eq (by omega) (by omega), Option.bind_some]
  have := cut_eq (fu := fu) (muH b d G).toNat (6 ^ G) (by omega) (by omega) (by omega) (by omega)
  rw [show (((muH b d G).toNat : Nat) : Int) = muH b d G by omega] at this
  unfold muH at this ⊢
  rw [this, Option.bind_some]
theorem holdMean_eq (hb : 1 ≤ b ∧ b ≤ 30) : p_impl_HoldMean fu d b (G : Int) = some (cutF (muH b d G).toNat (6 ^ G), true) ∧ p_spec_HoldMean fu d b (G : Int) = some (cutF (muH b d G).toNat (6 ^ G), true) := by
  have hp := p10 hG
  have hm := muH_le (b := b) h6 hr h1 hG hf
  have ht : p_impl_isTurn d b (G : Int) = true := (turn_iff _ _ _).2 ⟨⟨hr, hb⟩, by omega, by omega⟩
  constructor
  · unfold p_impl_HoldMean
    rw [if_pos ht, meanI_eq (b := b) h6 hr h1 hG hf, Option.bind_some, power_eq (by omega) (by omega), Option.bind_some]
    have := fraction_eq (fu := fu) (muH b d G).toNat (6 ^ G) (by omega) (by omega) (by omega) (by omega)
    rw [show (((muH b d G).toNat : Nat) : Int) = muH b d G by omega] at this
    rw [this, Option.bind_some]
  · unfold p_spec_HoldMean
    rw [l7Turn_eq h6, Option.bind_some, if_pos ht, meanS_eq (b := b) h6 hr h1 hG hf, Option.bind_some]
theorem bust_eq (hb : 1 ≤ b ∧ b ≤ 30) : p_impl_BustChance fu d b (G : Int) = some (cutF ((en b d G).getD 0 0).toNat (6 ^ G), true) ∧ p_spec_BustChance fu d b (G : Int) = some (cutF ((en b d G).getD 0 0).toNat (6 ^ G), true) := by
  have hd := runner_six h6 hr
  have hp := p10 hG
  have he := en_le (b := b) h6 hr h1 hG hf 0
  have ht : p_impl_isTurn d b (G : Int) = true := (turn_iff _ _ _).2 ⟨⟨hr, hb⟩, by omega, by omega⟩
  have hl : (nwo b d G (G + 30) G).1.length = G + 30 := nwo_len G
  constructor
  · unfold p_impl_BustChance
    rw [if_pos ht, ends_I (b := b) hd h1 hG (by omega), Option.bind_some, if_pos (by omega), power_eq (by omega) (by omega), Option.bind_some]
    have := fraction_eq (fu := fu) ((en b d G).getD 0 0).toNat (6 ^ G) (by omega) (by omega) (by omega) (by omega)
    rw [show ((((en b d G).getD 0 0).toNat : Nat) : Int) = (en b d G).getD 0 0 by omega] at this
    unfold en at this ⊢
    rw [this, Option.bind_some]
  · unfold p_spec_BustChance
    rw [l7Turn_eq h6, Option.bind_some, if_pos ht, ends_S (b := b) hd h1 hG (by omega), Option.bind_some, all_eq (by omega) (by omega), Option.bind_some, enS_getD hd hG]
    have := cut_eq (fu := fu) ((en b d G).getD 0 0).toNat (6 ^ G) (by omega) (by omega) (by omega) (by omega)
    rw [show ((((en b d G).getD 0 0).toNat : Nat) : Int) = (en b d G).getD 0 0 by omega] at this
    rw [this, Option.bind_some]
end
/-- nothing is told of other turns -/
theorem none_turn {d : List Int} (h6 : d.length = 6) {b g : Int} (ht : ¬ p_impl_isTurn d b g = true) (fu : Nat) : p_impl_HoldEnds fu d b g = some ([], false) ∧ p_spec_HoldEnds fu d b g = some ([], false) ∧ p_impl_HoldMean fu d b g = some (List.replicate 2 0, false) ∧ p_spec_HoldMean fu d b g = some (List.replicate 2 0, false) ∧ p_impl_BustChance fu d b g = some (List.replicate 2 0, false) ∧ p_spec_BustChance fu d b g = some (List.replicate 2 0, false) := by
  refine ⟨?_, ?_, ?_, ?_, ?_, ?_⟩
  · unfold p_impl_HoldEnds; rw [if_neg ht]
  · unfold p_spec_HoldEnds; rw [l7Turn_eq h6, Option.bind_some, if_neg ht]
  · unfold p_impl_HoldMean; rw [if_neg ht]
  · unfold p_spec_HoldMean; rw [l7Turn_eq h6, Option.bind_some, if_neg ht]
  · unfold p_impl_BustChance; rw [if_neg ht]
  · unfold p_spec_BustChance; rw [l7Turn_eq h6, Option.bind_some, if_neg ht]
end Go.GA
