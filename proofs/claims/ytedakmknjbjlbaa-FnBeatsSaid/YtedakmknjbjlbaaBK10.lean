/- Plain law of FnBeats: chances of two pools. -/
import Derived.Test.YtedakmknjbjlbaaBK9
namespace Go.GA
open Go
set_option maxRecDepth 100000
def tk (T : List Int) : Nat → Int
  | 0 => 0
  | i + 1 => tk T i + T.getD i 0
/-- ways to be greater -/
def wb (T U : List Int) : Nat → Int
  | 0 => 0
  | i + 1 => wb T U i + T.getD i 0 * tk U i
/-- ways to be the same -/
def lv (T U : List Int) : Nat → Int
  | 0 => 0
  | i + 1 => lv T U i + T.getD i 0 * U.getD i 0
theorem tk_nn {T : List Int} (h : NN T) : ∀ i, 0 ≤ tk T i
  | 0 => by simp [tk]
  | i + 1 => by have := tk_nn h i; have := h i; simp only [tk]; omega
theorem tk_mono {T : List Int} (h : NN T) {i : Nat} : ∀ d, tk T i ≤ tk T (i + d)
  | 0 => by simp
  | d + 1 => by
    have := tk_mono h (i := i) d
    have h1 := h (i + d)
    rw [show i + (d + 1) = (i + d) + 1 from rfl]
    simp only [tk]; omega
theorem tk_sum (T : List Int) : ∀ i, i ≤ T.length → tk T i + (T.drop i).sum = T.sum
  | 0, _ => by simp [tk]
  | i + 1, h => by
    have := tk_sum T i (by omega)
    rw [List.drop_eq_getElem_cons (by omega), List.sum_cons] at this
    simp only [tk]
    rw [List.getD_eq_getElem?_getD, List.getElem?_eq_getElem (show i < T.length by omega)]
    simp only [Option.getD_some]
    omega
theorem tk_all {m : Nat} {T : List Int} (h : Tab m T) : tk T 121 = ((6 ^ m : Nat) : Int) := by
  have := tk_sum T 121 (by rw [h.len]; exact Nat.le_refl _)
  rw [List.drop_eq_nil_of_le (by rw [h.len]; exact Nat.le_refl _), h.sum] at this
  simpa using this
theorem wb_nn {T U : List Int} (hT : NN T) (hU : NN U) : ∀ i, 0 ≤ wb T U i
  | 0 => by simp [wb]
  | i + 1 => by
    have := wb_nn hT hU i
    have := Int.mul_nonneg (hT i) (tk_nn hU i)
    simp only [wb]; omega
theorem lv_nn {T U : List Int} (hT : NN T) (hU : NN U) : ∀ i, 0 ≤ lv T U i
  | 0 => by simp [lv]
  | i + 1 => by
    have := lv_nn hT hU i
    have := Int.mul_nonneg (hT i) (hU i)
    simp only [lv]; omega
theorem three_all (T U : List Int) : ∀ i, wb T U i + wb U T i + lv T U i = tk T i * tk U i
  | 0 => by simp [wb, lv, tk]
  | i + 1 => by
    have := three_all T U i
    simp only [wb, lv, tk]
    have e : (tk T i + T.getD i 0) * (tk U i + U.getD i 0) = tk T i * tk U i + (T.getD i 0 * tk U i) + (U.getD i 0 * tk T i) + T.getD i 0 * U.getD i 0 := by
      rw [Int.add_mul, Int.mul_add, Int.mul_add, Int.mul_comm (tk T i) (U.getD i 0)]
      omega
    rw [e, ← this]
    omega
/-- all of them are few -/
theorem few {m n : Nat} {T U : List Int} (hT : Tab m T) (hU : Tab n U) (hm : m ≤ 4) (hn : n ≤ 4) {i : Nat} (hi : i ≤ 121) : tk T i ≤ 1296 ∧ tk U i ≤ 1296 ∧ tk T i * tk U i ≤ 1679616 := by
  have p : ∀ {k : Nat} {V : List Int}, Tab k V → k ≤ 4 → tk V i ≤ 1296 := fun {k V} hV hk => by
    have h1 := tk_mono hV.nn (i := i) (121 - i)
    rw [show i + (121 - i) = 121 by omega, tk_all hV] at h1
    have h2 : 6 ^ k ≤ 6 ^ 4 := Nat.pow_le_pow_right (by omega) hk
    have h3 : (6 : Nat) ^ 4 = 1296 := rfl
    omega
  have a := p hT hm
  have b := p hU hn
  refine ⟨a, b, ?_⟩
  have := Int.mul_le_mul a b (tk_nn hU.nn i) (by omega)
  omega
section
variable {m n : Nat} {T U : List Int} (hT : Tab m T) (hU : Tab n U) (hm : m ≤ 4) (hn : n ≤ 4)
include hT hU hm hn
theorem wb_le {i : Nat} (hi : i ≤ 121) : 0 ≤ wb T U i ∧ wb T U i ≤ 1679616 := by
  have h1 := three_all T U i
  have h2 := wb_nn hT.nn hU.nn i
  have h3 := wb_nn hU.nn hT.nn i
  have h4 := lv_nn hT.nn hU.nn i
  have h5 := (few hT hU hm hn hi).2.2
  omega
theorem lv_le {i : Nat} (hi : i ≤ 121) : 0 ≤ lv T U i ∧ lv T U i ≤ 1679616 := by
  have h1 := three_all T U i
  have h2 := wb_nn hT.nn hU.nn i
  have h3 := wb_nn hU.nn hT.nn i
  have h4 := lv_nn hT.nn hU.nn i
  have h5 := (few hT hU hm hn hi).2.2
  omega
theorem beat_I {R : Type} (K : Int → Option R) : cnt (fun i10 (s9 : Int × Int) c11 _ => c11 ((IntKind.wrap .i64 (s9.1 + (IntKind.wrap .i64 ((T.getD i10.toNat 0) * s9.2)))), (IntKind.wrap .i64 (s9.2 + (U.getD i10.toNat 0))))) (fun i10 (s9 : Int × Int) => K s9.1) (Int.toNat (121 - 0)) 0 (0, 0) = K (wb T U 121) := by
  refine cnt_ind0 (S := Int × Int) 121 (fun i s => s.1 = wb T U i ∧ s.2 = tk U i) (fun r => r = K (wb T U 121)) rfl ⟨rfl, rfl⟩ (fun s hs => by rw [hs.1]) (fun i s c hi hs hc => ?_)
  rw [Int.toNat_natCast]
  have h1 := wb_le hT hU hm hn (i := i) (by omega)
  have h2 := wb_le hT hU hm hn (i := i + 1) (by omega)
  have h3 := (few hT hU hm hn (i := i + 1) (by omega)).2.1
  have h4 := Int.mul_nonneg (hT.nn i) (tk_nn hU.nn i)
  have h5 := tk_nn hU.nn (i + 1)
  simp only [wb] at h2
  simp only [tk] at h3 h5
  refine hc _ ⟨?_, ?_⟩
  · simp only [hs.1, hs.2]
    rw [wr (n := T.getD i 0 * tk U i) (by omega) (by omega), wr (by omega) (by omega)]
    rfl
  · simp only [hs.2]
    rw [wr (by omega) (by omega)]
    rfl
theorem level_I {R : Type} (K : Int → Option R) : cnt (fun i10 (s9 : Int) c11 _ => c11 (IntKind.wrap .i64 (s9 + (IntKind.wrap .i64 ((T.getD i10.toNat 0) * (U.getD i10.toNat 0)))))) (fun i10 (s9 : Int) => K s9) (Int.toNat (121 - 0)) 0 0 = K (lv T U 121) := by
  refine cnt_ind0 (S := Int) 121 (fun i s => s = lv T U i) (fun r => r = K (lv T U 121)) rfl rfl (fun s hs => by rw [hs]) (fun i s c hi hs hc => ?_)
  rw [Int.toNat_natCast]
  have h1 := lv_le hT hU hm hn (i := i) (by omega)
  have h2 := lv_le hT hU hm hn (i := i + 1) (by omega)
  have h4 := Int.mul_nonneg (hT.nn i) (hU.nn i)
  simp only [lv] at h2
  refine hc _ ?_
  rw [hs, wr (n := T.getD i 0 * U.getD i 0) (by omega) (by omega), wr (by omega) (by omega)]
  rfl
theorem beat_S {R : Type} (K : Int → Option R) : cnt (fun i4 (s3 : Int) c5 _ => cnt (fun i11 (s10 : Int) c12 _ => (if (((!false) && (decide (i11 < i4))) || (false && (decide (i4 = i11)))) = true then c12 (IntKind.wrap .i64 (s10 + (IntKind.wrap .i64 ((T.getD i4.toNat 0) * (U.getD i11.toNat 0))))) else c12 s10)) (fun i11 (s10 : Int) => c5 s10) (Int.toNat (121 - 0)) 0 s3) (fun i4 (s3 : Int) => K s3) (Int.toNat (121 - 0)) 0 0 = K (wb T U 121) := by
  refine cnt_ind0 (S := Int) 121 (fun i s => s = wb T U i) (fun r => r = K (wb T U 121)) rfl rfl (fun s hs => by rw [hs]) (fun i s c hi hs hc => ?_)
  have h1 := wb_le hT hU hm hn (i := i) (by omega)
  have h2 := wb_le hT hU hm hn (i := i + 1) (by omega)
  simp only [wb] at h2
  refine cnt_ind0 (S := Int) 121 (fun j s => s = wb T U i + T.getD i 0 * tk U (min i j)) (fun r => r = K (wb T U 121)) rfl (by simp [tk, hs]) (fun s' hs' => hc _ (by rw [hs', Nat.min_eq_left (by omega)]; rfl)) (fun j s' c' hj hs' hc' => ?_)
  by_cases hji : j < i
  · rw [if_pos (by simp; omega)]
    refine hc' _ ?_
    rw [Int.toNat_natCast, Int.toNat_natCast, hs', Nat.min_eq_right (by omega), Nat.min_eq_right (by omega)]
    have h3 : T.getD i 0 * tk U (j + 1) ≤ T.getD i 0 * tk U i := by
      have := tk_mono hU.nn (i := j + 1) (i - (j + 1))
      rw [show j + 1 + (i - (j + 1)) = i by omega] at this
      exact Int.mul_le_mul_of_nonneg_left this (hT.nn i)
    have h4 := Int.mul_nonneg (hT.nn i) (tk_nn hU.nn j)
    have h5 := Int.mul_nonneg (hT.nn i) (hU.nn j)
    simp only [tk] at h3 ⊢
    rw [Int.mul_add] at h3 ⊢
    rw [wr (n := T.getD i 0 * U.getD j 0) (by omega) (by omega), wr (by omega) (by omega)]
    omega
  · rw [if_neg (by simp; omega)]
    refine hc' _ ?_
    rw [hs', Nat.min_eq_left (by omega), Nat.min_eq_left (by omega)]
theorem level_S {R : Type} (K : Int → Option R) : cnt (fun i4 (s3 : Int) c5 _ => cnt (fun i11 (s10 : Int) c12 _ => (if (((!true) && (decide (i11 < i4))) || (true && (decide (i4 = i11)))) = true then c12 (IntKind.wrap .i64 (s10 + (IntKind.wrap .i64 ((T.getD i4.toNat 0) * (U.getD i11.toNat 0))))) else c12 s10)) (fun i11 (s10 : Int) => c5 s10) (Int.toNat (121 - 0)) 0 s3) (fun i4 (s3 : Int) => K s3) (Int.toNat (121 - 0)) 0 0 = K (lv T U 121) := by
  refine cnt_ind0 (S := Int) 121 (fun i s => s = lv T U i) (fun r => r = K (lv T U 121)) rfl rfl (fun s hs => by rw [hs]) (fun i s c hi hs hc => ?_)
  have h1 := lv_le hT hU hm hn (i := i) (by omega)
  have h2 := lv_le hT hU hm hn (i := i + 1) (by omega)
  simp only [lv] at h2
  refine cnt_ind0 (S := Int) 121 (fun j s => s = lv T U i + if i < j then T.getD i 0 * U.getD i 0 else 0) (fun r => r = K (lv T U 121)) rfl (by simp [hs]) (fun s' hs' => hc _ (by rw [hs', if_pos hi]; rfl)) (fun j s' c' hj hs' hc' => ?_)
  by_cases hji : i = j
  · subst hji
    rw [if_pos (by simp)]
    refine hc' _ ?_
    have h5 := Int.mul_nonneg (hT.nn i) (hU.nn i)
    rw [Int.toNat_natCast, hs', if_neg (by omega), if_pos (by omega), Int.add_zero]
    rw [wr (n := T.getD i 0 * U.getD i 0) (by omega) (by omega), wr (by omega) (by omega)]
  · rw [if_neg (by simp; omega)]
    refine hc' _ ?_
    rw [hs']
    by_cases h : i < j
    · rw [if_pos h, if_pos (by omega)]
    · rw [if_neg h, if_neg (by omega)]
end
end Go.GA
