/- Plain law of FnRuns: the best runner. -/
import Derived.Test.YtheplbbbfbbjcaaRK12
namespace Go.GA
open Go
set_option maxRecDepth 100000
set_option linter.unusedSectionVars false
theorem row_eq {x : List (List Int)} (h : Six x) : p_spec_l3Row x = some (p_impl_isRow x) := by
  have hall := @dies_all x
  unfold p_impl_isRow
  rw [hall, pwithin_In]
  unfold p_spec_l3Row
  have key : ∀ (d i : Nat), d + i = x.length → cnt (fun i2 (s1 : Unit) c3 k16 => (if ((decide (i2 < (x.length : Int))) && (decide (i2 ≤ 6))) = true then (p_spec_l2Die (x.getD i2.toNat (List.replicate 6 0))).bind (fun r14 => (if r14 = true then c3 () else some false)) else k16 i2 s1)) (fun i2 (s1 : Unit) => some (p_spec_l1In (x.length : Int) 1 6)) d (i : Int) () = some (p_spec_l1In (x.length : Int) 1 6 && (x.drop i).all p_impl_IsDie) := by
    intro d
    induction d with
    | zero => intro i hh; rw [List.drop_eq_nil_of_le (by omega)]; simp [cnt]
    | succ d ih =>
      intro i hh
      have h1 : i < x.length := by omega
      simp only [cnt]
      rw [show (i : Int) + 1 = ((i + 1 : Nat) : Int) from rfl, ih (i + 1) (by omega), List.drop_eq_getElem_cons h1, List.all_cons]
      by_cases h12 : (i : Int) ≤ 6
      · have hc : (decide ((i : Int) < (x.length : Int)) && decide ((i : Int) ≤ 6)) = true := by simp; omega
        rw [if_pos hc, Int.toNat_natCast, l2Die_eq (getD_six h h1)]
        simp only [Option.bind_some, List.getD_eq_getElem?_getD, List.getElem?_eq_getElem h1, Option.getD_some]
        cases p_impl_IsDie x[i] <;> simp
      · have hc : ¬ (decide ((i : Int) < (x.length : Int)) && decide ((i : Int) ≤ 6)) = true := by simp; omega
        rw [if_neg hc]
        have : p_spec_l1In (x.length : Int) 1 6 = false := by rw [pl1In_eq]; simp; omega
        simp [this]
  have := key x.length 0 (by omega)
  simp only [Int.sub_zero, Int.toNat_natCast]
  simpa using this
theorem runners_all {x : List (List Int)} : p_impl_areAll_6_intv1 x = x.all p_impl_isRunner := by
  unfold p_impl_areAll_6_intv1 p_slices_ContainsFunc_6_int_6_intv1 p_slices_IndexFunc_6_int_6_intv1
  rw [noneFunc p_impl_areAll_6_int_1v1]
  congr 1
  funext a
  simp [p_impl_areAll_6_int_1v1]
theorem isRow_len {x : List (List Int)} (h : p_impl_isRow x = true) : 1 ≤ x.length ∧ x.length ≤ 6 := by
  unfold p_impl_isRow at h
  simp only [Bool.and_eq_true, pwithin_eq, decide_eq_true_eq] at h
  omega
/-- the first with the least -/
def am (m : Nat → Int) : Nat → Nat
  | 0 => 0
  | i + 1 => if m i < m (am m i) then i else am m i
theorem am_lt (m : Nat → Int) : ∀ i, am m (i + 1) ≤ i
  | 0 => by simp [am]
  | i + 1 => by
    have := am_lt m i
    rw [show am m (i + 1 + 1) = if m (i + 1) < m (am m (i + 1)) then i + 1 else am m (i + 1) from rfl]
    split <;> omega
theorem am_min (m : Nat → Int) : ∀ i j, j < i → m (am m i) ≤ m j
  | 0, j, h => by omega
  | i + 1, j, h => by
    simp only [am]
    by_cases hj : j = i
    · subst hj
      split
      · exact Int.le_refl _
      · omega
    · have := am_min m i j (by omega)
      split
      · omega
      · exact this
theorem less_cut {x y : Int} {N : Nat} (hx : 0 ≤ x) (hy : 0 ≤ y) (hN : 0 < N) (hN2 : N ≤ 1679616) (hx2 : x ≤ 20000000) (hy2 : y ≤ 20000000) : (IntKind.wrap .i64 ((cutF x.toNat N).getD 0 0 * (cutF y.toNat N).getD 1 0) < IntKind.wrap .i64 ((cutF y.toNat N).getD 0 0 * (cutF x.toNat N).getD 1 0)) ↔ x < y := by
  obtain ⟨a, b, e1, e2, e3, e4, e5, e6⟩ := cut_of hx hN
  obtain ⟨a', b', e1', e2', e3', e4', e5', e6'⟩ := cut_of hy hN
  rw [e1, e1']
  show (IntKind.wrap .i64 (a * b') < IntKind.wrap .i64 (a' * b)) ↔ x < y
  have m1 : 0 ≤ a * b' := Int.mul_nonneg e3 (by omega)
  have m2 : 0 ≤ a' * b := Int.mul_nonneg e3' (by omega)
  have m3 : a * b' ≤ 20000000 * 1679616 := Int.mul_le_mul (by omega) (by omega) (by omega) (by omega)
  have m4 : a' * b ≤ 20000000 * 1679616 := Int.mul_le_mul (by omega) (by omega) (by omega) (by omega)
  rw [wr (by omega) (by omega), wr (by omega) (by omega)]
  have hNp : (0 : Int) < N := by omega
  have hbb : 0 < b * b' := Int.mul_pos (by omega) (by omega)
  have k1 : (a * b') * N = x * (b * b') := by grind
  have k2 : (a' * b) * N = y * (b * b') := by grind
  constructor
  · intro h
    have h2 := Int.mul_lt_mul_of_pos_right h hNp
    rw [k1, k2] at h2
    exact Int.lt_of_mul_lt_mul_right h2 (by omega)
  · intro h
    have h2 := Int.mul_lt_mul_of_pos_right h hbb
    rw [← k1, ← k2] at h2
    exact Int.lt_of_mul_lt_mul_right h2 (by omega)
section
variable {row : List (List Int)} (h6 : Six row) {G : Nat} (h1 : 1 ≤ G) (hG : G ≤ 8) {fu : Nat} (hf : 2000000 < fu)
include h6 h1 hG hf
def muR (row : List (List Int)) (G i : Nat) : Int := mu (outI (row.getD i (List.replicate 6 0)) G G) G
theorem muR_le (hr : row.all p_impl_isRunner = true) {i : Nat} (hi : i < row.length) : 0 ≤ muR row G i ∧ muR row G i ≤ 20000000 := by
  have hri : p_impl_isRunner (row.getD i (List.replicate 6 0)) = true := by
    rw [List.getD_eq_getElem?_getD, List.getElem?_eq_getElem hi]
    exact List.all_eq_true.1 hr _ (List.getElem_mem hi)
  exact mu_part (getD_six h6 hi) hri h1 hG hf (Nat.le_refl _)
theorem run_at (hr : row.all p_impl_isRunner = true) {i : Nat} (hi : i < row.length) : p_impl_isRunner (row.getD i (List.replicate 6 0)) = true := by
  rw [List.getD_eq_getElem?_getD, List.getElem?_eq_getElem hi]
  exact List.all_eq_true.1 hr _ (List.getElem_mem hi)
theorem best_eq (hw : p_impl_isRow row = true) (hr : row.all p_impl_isRunner = true) : p_impl_BestRunner fu row (G : Int) = some (((am (muR row G) row.length : Nat) : Int), cutF (muR row G (am (muR row G) row.length)).toNat (6 ^ G), true) ∧ p_spec_BestRunner fu row (G : Int) = some (((am (muR row G) row.length : Nat) : Int), cutF (muR row G (am (muR row G) row.length)).toNat (6 ^ G), true) := by
  have hl := isRow_len hw
  have hp := p8 hG
  have hlast : am (muR row G) row.length < row.length := by
    have := am_lt (muR row G) (row.length - 1)
    rw [show row.length - 1 + 1 = row.length by omega] at this
    omega
  have ham : ∀ i, i < row.length → am (muR row G) i < row.length := by
    intro i hi
    cases i with
    | zero => simp [am]; omega
    | succ i => have := am_lt (muR row G) i; omega
  have mI : ∀ i, i < row.length → p_impl_meanRun fu (row.getD i (List.replicate 6 0)) (G : Int) = some (muR row G i) := fun i hi => meanI_eq (getD_six h6 hi) (run_at h6 h1 hG hf hr hi) h1 hG hf
  have mS : ∀ i, i < row.length → p_spec_l7Mean fu (row.getD i (List.replicate 6 0)) (G : Int) = some (cutF (muR row G i).toNat (6 ^ G)) := fun i hi => meanS_eq (getD_six h6 hi) (run_at h6 h1 hG hf hr hi) h1 hG hf
  constructor
  · unfold p_impl_BestRunner
    rw [runners_all, hw, hr, goal_eq, if_neg (by simp; omega)]
    refine cnt_ind0 (S := Int) row.length (fun i s => s = ((am (muR row G) i : Nat) : Int)) (fun r => r = some (((am (muR row G) row.length : Nat) : Int), cutF (muR row G (am (muR row G) row.length)).toNat (6 ^ G), true)) (by omega) rfl (fun s hs => ?_) (fun i s c hi hs hc => ?_)
    · have hm := muR_le h6 h1 hG hf hr hlast
      rw [hs, if_pos (by omega), Int.toNat_natCast, mI _ hlast, Option.bind_some, power_eq (by omega) (by omega), Option.bind_some]
      have := fraction_eq (fu := fu) (muR row G (am (muR row G) row.length)).toNat (6 ^ G) (by omega) (by omega) (by omega) (by omega)
      rw [show (((muR row G (am (muR row G) row.length)).toNat : Nat) : Int) = muR row G (am (muR row G) row.length) by omega] at this
      rw [this, Option.bind_some]
    · have hb := ham i hi
      rw [Int.toNat_natCast, mI i hi, Option.bind_some, hs, if_pos (by omega), Int.toNat_natCast, mI _ hb, Option.bind_some]
      by_cases hc2 : muR row G i < muR row G (am (muR row G) i)
      · rw [if_pos hc2]
        exact hc _ (by simp only [am]; rw [if_pos hc2])
      · rw [if_neg hc2]
        exact hc _ (by simp only [am]; rw [if_neg hc2])
  · unfold p_spec_BestRunner
    rw [row_eq h6, hw, goalS_eq, Option.bind_some, if_neg (by simp; omega)]
    refine cnt_ind0 (S := Int × List Int) row.length (fun i s => s.1 = ((am (muR row G) i : Nat) : Int) ∧ (i = 0 ∨ s.2 = cutF (muR row G (am (muR row G) i)).toNat (6 ^ G))) (fun r => r = some (((am (muR row G) row.length : Nat) : Int), cutF (muR row G (am (muR row G) row.length)).toNat (6 ^ G), true)) (by omega) ⟨rfl, .inl rfl⟩ (fun s hs => ?_) (fun i s c hi hs hc => ?_)
    · rcases hs.2 with h | h
      · omega
      · rw [hs.1, h]
    · have hb := ham i hi
      have q1 := muR_le h6 h1 hG hf hr hi
      have q2 := muR_le h6 h1 hG hf hr hb
      rw [Int.toNat_natCast, l7Die_eq (getD_six h6 hi), run_at h6 h1 hG hf hr hi, Option.bind_some, if_pos rfl, mS i hi, Option.bind_some]
      by_cases h0 : i = 0
      · subst h0
        rw [if_pos (by simp)]
        refine hc _ ⟨?_, .inr ?_⟩
        · simp [am]
        · simp [am]
      · have hs2 : s.2 = cutF (muR row G (am (muR row G) i)).toNat (6 ^ G) := by
          rcases hs.2 with h | h
          · exact absurd h h0
          · exact h
        have hless : p_spec_l2Less (cutF (muR row G i).toNat (6 ^ G)) s.2 = decide (muR row G i < muR row G (am (muR row G) i)) := by
          unfold p_spec_l2Less
          rw [hs2]
          exact decide_eq_decide.2 (less_cut q1.1 q2.1 hp.2 hp.1 q1.2 q2.2)
        have hi0 : decide ((i : Int) = 0) = false := by rw [decide_eq_false_iff_not]; omega
        rw [hless, hi0, Bool.false_or]
        by_cases hc2 : muR row G i < muR row G (am (muR row G) i)
        · rw [if_pos (by simpa using hc2)]
          refine hc _ ⟨?_, .inr ?_⟩
          · simp only [am]; rw [if_pos hc2]
          · simp only [am]; rw [if_pos hc2]
        · rw [if_neg (by simpa using hc2)]
          refine hc _ ⟨?_, .inr ?_⟩
          · simp only [am]; rw [if_neg hc2]; exact hs.1
          · simp only [am]; rw [if_neg hc2]; exact hs2
end
/-- nothing is told of other rows -/
theorem best_none {row : List (List Int)} (h6 : Six row) {g : Int} {fu : Nat} (hf : 2000000 < fu) (h : ¬ (p_impl_isRow row = true ∧ row.all p_impl_isRunner = true ∧ 1 ≤ g ∧ g ≤ 8)) : p_impl_BestRunner fu row g = some (0, List.replicate 2 0, false) ∧ p_spec_BestRunner fu row g = some (0, List.replicate 2 0, false) := by
  constructor
  · unfold p_impl_BestRunner
    rw [runners_all, goal_eq, if_pos]
    cases h1 : p_impl_isRow row <;> cases h2 : row.all p_impl_isRunner <;> simp [h1, h2] at h ⊢
    omega
  · unfold p_spec_BestRunner
    rw [row_eq h6, goalS_eq, Option.bind_some]
    by_cases hc : p_impl_isRow row = true ∧ 1 ≤ g ∧ g ≤ 8
    · obtain ⟨hw, g1, g2⟩ := hc
      have hr : row.all p_impl_isRunner = false := by
        cases h2 : row.all p_impl_isRunner
        · rfl
        · exact absurd ⟨hw, h2, g1, g2⟩ h
      obtain ⟨G, rfl⟩ : ∃ G : Nat, g = (G : Int) := ⟨g.toNat, by omega⟩
      rw [hw, if_neg (by simp; omega)]
      refine cnt_ind0 (S := Int × List Int) row.length (fun i s => (row.drop i).all p_impl_isRunner = false) (fun r => r = some (0, List.replicate 2 0, false)) (by omega) (by simpa using hr) (fun s hs => ?_) (fun i s c hi hs hc => ?_)
      · rw [List.drop_eq_nil_of_le (Nat.le_refl _)] at hs
        simp at hs
      · rw [Int.toNat_natCast, l7Die_eq (getD_six h6 hi), Option.bind_some]
        rw [List.drop_eq_getElem_cons hi, List.all_cons] at hs
        have eg : row.getD i (List.replicate 6 0) = row[i] := by rw [List.getD_eq_getElem?_getD, List.getElem?_eq_getElem hi]; rfl
        by_cases hri : p_impl_isRunner (row.getD i (List.replicate 6 0)) = true
        · rw [if_pos hri, meanS_eq (getD_six h6 hi) hri (by omega) (by omega) hf, Option.bind_some]
          have hn : (row.drop (i + 1)).all p_impl_isRunner = false := by
            rw [eg] at hri
            rw [hri] at hs
            simpa using hs
          split
          · exact hc _ hn
          · exact hc _ hn
        · rw [if_neg hri]
    · rw [if_pos]
      cases h1 : p_impl_isRow row <;> simp [h1] at hc ⊢
      omega
end Go.GA
