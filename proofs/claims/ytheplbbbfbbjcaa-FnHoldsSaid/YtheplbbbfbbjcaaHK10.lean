/- Plain law of FnHolds: the best hold. -/
import Derived.Test.YtheplbbbfbbjcaaHK9
namespace Go.GA
open Go
set_option maxRecDepth 100000
set_option linter.unusedSectionVars false
theorem less_cut {x y : Int} {N : Nat} (hx : 0 ≤ x) (hy : 0 ≤ y) (hN : 0 < N) (hN2 : N ≤ 60466176) (hx2 : x ≤ 2418647040) (hy2 : y ≤ 2418647040) : (IntKind.wrap .i64 ((cutF x.toNat N).getD 0 0 * (cutF y.toNat N).getD 1 0) < IntKind.wrap .i64 ((cutF y.toNat N).getD 0 0 * (cutF x.toNat N).getD 1 0)) ↔ x < y := by
  obtain ⟨a, b, e1, e2, e3, e4, e5, e6⟩ := cut_of hx hN
  obtain ⟨a', b', e1', e2', e3', e4', e5', e6'⟩ := cut_of hy hN
  rw [e1, e1']
  show (IntKind.wrap .i64 (a * b') < IntKind.wrap .i64 (a' * b)) ↔ x < y
  have m1 : 0 ≤ a * b' := Int.mul_nonneg e3 (by omega)
  have m2 : 0 ≤ a' * b := Int.mul_nonneg e3' (by omega)
  have m3 : a * b' ≤ 2418647040 * 60466176 := Int.mul_le_mul (by omega) (by omega) (by omega) (by omega)
  have m4 : a' * b ≤ 2418647040 * 60466176 := Int.mul_le_mul (by omega) (by omega) (by omega) (by omega)
  rw [wr (by omega) (by omega), wr (by omega) (by omega)]
  have hNp : (0 : Int) < N := by omega
  have hbb : 0 < b * b' := Int.mul_pos (by omega) (by omega)
  have k1 : (a * b') * N = x * (b * b') := by grind
  have k2 : (a' * b) * N = y * (b * b') := by grind
  constructor
  · intro h
    have h2 := Int.mul_lt_mul_of_pos_right h hNp
    rw [k1, k2] at h2
    exact Int.lt_of_mul_lt_mul_right h2 (by omega)
  · intro h
    have h2 := Int.mul_lt_mul_of_pos_right h hbb
    rw [← k1, ← k2] at h2
    exact Int.lt_of_mul_lt_mul_right h2 (by omega)

/-- the mean of a hold, in parts of 6 to the power of 10 -/
def mH (b : Int) (d : List Int) (h : Nat) : Int := muH b d h * ((6 ^ (10 - h) : Nat) : Int)
def bm (m : Nat → Int) : Nat → Nat
  | 0 => 1
  | k + 1 => if m (bm m k) < m (k + 2) then k + 2 else bm m k
theorem bm_le (m : Nat → Int) : ∀ k, 1 ≤ bm m k ∧ bm m k ≤ k + 1
  | 0 => by simp [bm]
  | k + 1 => by
    have := bm_le m k
    simp only [bm]
    split <;> omega
theorem bm_max (m : Nat → Int) : ∀ k h, 1 ≤ h → h ≤ k + 1 → m h ≤ m (bm m k)
  | 0, h, h1, h2 => by
    have : h = 1 := by omega
    subst this; exact Int.le_refl _
  | k + 1, h, h1, h2 => by
    simp only [bm]
    by_cases e : h = k + 2
    · subst e
      split
      · exact Int.le_refl _
      · omega
    · have := bm_max m k h h1 (by omega)
      split
      · omega
      · exact this
section
variable {b : Int} {d : List Int} (h6 : d.length = 6) (hr : p_impl_isRunner d = true) {fu : Nat} (hf : 100000000 < fu)
include h6 hr hf
theorem mH_le {h : Nat} (h1 : 1 ≤ h) (h2 : h ≤ 10) : 0 ≤ mH b d h ∧ mH b d h ≤ 2418647040 := by
  have hm := muH_le (b := b) h6 hr h1 h2 hf
  have hp := p10 (k := 10) (Nat.le_refl _)
  refine ⟨Int.mul_nonneg hm.1 (Int.natCast_nonneg _), ?_⟩
  have := Int.mul_le_mul_of_nonneg_right hm.2 (Int.natCast_nonneg (6 ^ (10 - h)))
  rw [Int.mul_assoc, ← Int.natCast_mul, ← Nat.pow_add, show h + (10 - h) = 10 by omega] at this
  have e : (6 : Nat) ^ 10 = 60466176 := rfl
  rw [e] at this
  unfold mH
  omega
theorem cut_ten {h : Nat} (h1 : 1 ≤ h) (h2 : h ≤ 10) : cutF (muH b d h).toNat (6 ^ h) = cutF (mH b d h).toNat (6 ^ 10) := by
  have hm := muH_le (b := b) h6 hr h1 h2 hf
  have eX : (mH b d h).toNat = (muH b d h).toNat * 6 ^ (10 - h) := by
    apply Int.ofNat.inj
    show ((mH b d h).toNat : Int) = (((muH b d h).toNat * 6 ^ (10 - h) : Nat) : Int)
    rw [Int.natCast_mul, Int.toNat_of_nonneg hm.1, Int.toNat_of_nonneg (mH_le h6 hr hf h1 h2).1]
    rfl
  refine cut_same (Nat.pow_pos (by omega)) (Nat.pow_pos (by omega)) ?_
  rw [eX, Nat.mul_assoc, ← Nat.pow_add]
  congr 2
  omega
def hI (fu : Nat) (d : List Int) (b : Int) : Int × Int × Int → (Int × Int × Int → Option (Int × List Int × Bool)) → Option (Int × List Int × Bool) := fun (s2 : Int × Int × Int) c4 => (if s2.2.2 ≤ 10 then (p_impl_holdMean fu d b s2.2.2).bind (fun r9 => (p_impl_power fu (10 - s2.2.2)).bind (fun r10 => (if s2.2.1 < (IntKind.wrap .i64 (r9 * r10)) then c4 (s2.2.2, (IntKind.wrap .i64 (r9 * r10)), (s2.2.2 + 1)) else c4 (s2.1, s2.2.1, (s2.2.2 + 1))))) else (p_impl_power fu 10).bind (fun r14 => (p_impl_fraction fu s2.2.1 r14).bind (fun r15 => some (s2.1, r15, true))))
def hS (fu : Nat) (d : List Int) (b : Int) : Int × Int × List Int → (Int × Int × List Int → Option (Int × List Int × Bool)) → Option (Int × List Int × Bool) := fun (s4 : Int × Int × (List Int)) c6 => (if s4.2.1 ≤ 10 then (p_spec_l7HoldMean fu d b s4.2.1).bind (fun r11 => (if (p_spec_l2Less s4.2.2 r11) = true then c6 (s4.2.1, (s4.2.1 + 1), r11) else c6 (s4.1, (s4.2.1 + 1), s4.2.2))) else some (s4.1, s4.2.2, true))
theorem hI_step {h : Nat} (h1 : 1 ≤ h) (h2 : h ≤ 10) (x y : Int) (c : Int × Int × Int → Option (Int × List Int × Bool)) : hI fu d b (x, y, (h : Int)) c = if y < mH b d h then c ((h : Int), mH b d h, ((h + 1 : Nat) : Int)) else c (x, y, ((h + 1 : Nat) : Int)) := by
  have hm := mH_le (b := b) h6 hr hf h1 h2
  unfold hI
  simp only
  rw [if_pos (by omega), meanI_eq (b := b) h6 hr h1 h2 hf, Option.bind_some, show (10 : Int) - (h : Int) = ((10 - h : Nat) : Int) by omega, power_eq (by omega) (by omega), Option.bind_some]
  have e : muH b d h * ((6 ^ (10 - h) : Nat) : Int) = mH b d h := rfl
  rw [e, wr (by omega) (by omega)]
  rfl
theorem run_I : ∀ (n k : Nat), k ≤ 9 → 9 - k < n → whl (hI fu d b) n (((bm (mH b d) k : Nat) : Int), mH b d (bm (mH b d) k), ((k + 2 : Nat) : Int)) = some (((bm (mH b d) 9 : Nat) : Int), cutF (mH b d (bm (mH b d) 9)).toNat (6 ^ 10), true)
  | 0, k, _, h => by omega
  | n + 1, k, hk, hn => by
    have ih := run_I n (k + 1)
    rw [show ∀ z, whl (hI fu d b) (n + 1) z = hI fu d b z (whl (hI fu d b) n) from fun _ => rfl]
    generalize whl (hI fu d b) n = W at ih
    by_cases hc : k < 9
    · rw [hI_step h6 hr hf (by omega) (by omega)]
      have e := ih (by omega) (by omega)
      by_cases hl : mH b d (bm (mH b d) k) < mH b d (k + 2)
      · rw [if_pos hl]
        simp only [bm] at e
        rw [if_pos hl] at e
        exact e
      · rw [if_neg hl]
        simp only [bm] at e
        rw [if_neg hl] at e
        exact e
    · have : k = 9 := by omega
      subst this
      have hb := bm_le (mH b d) 9
      have hm := mH_le (b := b) h6 hr hf hb.1 (by omega)
      have hp := p10 (k := 10) (Nat.le_refl _)
      unfold hI
      simp only
      rw [if_neg (by omega), show (10 : Int) = ((10 : Nat) : Int) from rfl, power_eq (by omega) (by omega), Option.bind_some]
      have := fraction_eq (fu := fu) (mH b d (bm (mH b d) 9)).toNat (6 ^ 10) (by omega) (by omega) (by omega) (by omega)
      rw [show (((mH b d (bm (mH b d) 9)).toNat : Nat) : Int) = mH b d (bm (mH b d) 9) by omega] at this
      rw [this, Option.bind_some]
theorem run_S : ∀ (n k : Nat), k ≤ 9 → 9 - k < n → whl (hS fu d b) n (((bm (mH b d) k : Nat) : Int), ((k + 2 : Nat) : Int), cutF (mH b d (bm (mH b d) k)).toNat (6 ^ 10)) = some (((bm (mH b d) 9 : Nat) : Int), cutF (mH b d (bm (mH b d) 9)).toNat (6 ^ 10), true)
  | 0, k, _, h => by omega
  | n + 1, k, hk, hn => by
    have ih := run_S n (k + 1)
    rw [show ∀ z, whl (hS fu d b) (n + 1) z = hS fu d b z (whl (hS fu d b) n) from fun _ => rfl]
    generalize whl (hS fu d b) n = W at ih
    unfold hS
    simp only
    by_cases hc : k < 9
    · have hb := bm_le (mH b d) k
      have q1 := mH_le (b := b) h6 hr hf hb.1 (by omega)
      have q2 := mH_le (b := b) h6 hr hf (h := k + 2) (by omega) (by omega)
      have hp := p10 (k := 10) (Nat.le_refl _)
      rw [if_pos (by omega), meanS_eq (b := b) h6 hr (G := k + 2) (by omega) (by omega) hf, Option.bind_some, cut_ten h6 hr hf (by omega) (by omega)]
      have hless : p_spec_l2Less (cutF (mH b d (bm (mH b d) k)).toNat (6 ^ 10)) (cutF (mH b d (k + 2)).toNat (6 ^ 10)) = decide (mH b d (bm (mH b d) k) < mH b d (k + 2)) := by
        unfold p_spec_l2Less
        exact decide_eq_decide.2 (less_cut q1.1 q2.1 hp.2 hp.1 q1.2 q2.2)
      rw [hless]
      have e := ih (by omega) (by omega)
      rw [show ((k + 2 : Nat) : Int) + 1 = ((k + 1 + 2 : Nat) : Int) by omega]
      by_cases hl : mH b d (bm (mH b d) k) < mH b d (k + 2)
      · rw [if_pos (by simpa using hl)]
        simp only [bm] at e
        rw [if_pos hl] at e
        exact e
      · rw [if_neg (by simpa using hl)]
        simp only [bm] at e
        rw [if_neg hl] at e
        exact e
    · have : k = 9 := by omega
      subst this
      rw [if_neg (by omega)]
theorem best_eq (hb : 1 ≤ b ∧ b ≤ 30) : p_impl_BestHold fu d b = some (((bm (mH b d) 9 : Nat) : Int), cutF (mH b d (bm (mH b d) 9)).toNat (6 ^ 10), true) ∧ p_spec_BestHold fu d b = some (((bm (mH b d) 9 : Nat) : Int), cutF (mH b d (bm (mH b d) 9)).toNat (6 ^ 10), true) := by
  have ht : p_impl_isTurn d b 1 = true := (turn_iff _ _ _).2 ⟨⟨hr, hb⟩, by omega, by omega⟩
  constructor
  · unfold p_impl_BestHold
    rw [if_pos ht]
    obtain ⟨f, rfl⟩ : ∃ f, fu = f + 1 := ⟨fu - 1, by omega⟩
    have h1 := hI_step (b := b) h6 hr hf (h := 1) (Nat.le_refl _) (by omega) 1 (-1) (whl (hI (f + 1) d b) f)
    have hm := mH_le (b := b) h6 hr hf (h := 1) (Nat.le_refl _) (by omega)
    rw [if_pos (by omega)] at h1
    refine Eq.trans (b := hI (f + 1) d b (1, -1, ((1 : Nat) : Int)) (whl (hI (f + 1) d b) f)) rfl ?_
    rw [h1]
    exact run_I (b := b) h6 hr hf f 0 (by omega) (by omega)
  · unfold p_spec_BestHold
    rw [l7Turn_eq h6, Option.bind_some, if_pos ht]
    have hS1 := meanS_eq (b := b) h6 hr (G := 1) (Nat.le_refl _) (by omega) hf
    rw [show (1 : Int) = ((1 : Nat) : Int) from rfl, hS1, Option.bind_some, cut_ten h6 hr hf (Nat.le_refl _) (by omega)]
    exact run_S (b := b) h6 hr hf fu 0 (by omega) (by omega)
end
theorem best_none {d : List Int} (h6 : d.length = 6) {b : Int} (ht : ¬ p_impl_isTurn d b 1 = true) (fu : Nat) : p_impl_BestHold fu d b = some (0, List.replicate 2 0, false) ∧ p_spec_BestHold fu d b = some (0, List.replicate 2 0, false) := by
  constructor
  · unfold p_impl_BestHold; rw [if_neg ht]
  · unfold p_spec_BestHold; rw [l7Turn_eq h6, Option.bind_some, if_neg ht]
end Go.GA
