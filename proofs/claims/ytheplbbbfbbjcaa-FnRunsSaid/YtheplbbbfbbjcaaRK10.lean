/- Plain law of FnRuns: races. -/
import Derived.Test.YtheplbbbfbbjcaaRK9
namespace Go.GA
open Go
set_option maxRecDepth 100000
set_option linter.unusedSectionVars false
theorem sum_lrun {R : Type} (k : Int → R) : ∀ (l : List Int) (s : Int), (∀ a ∈ l, 0 ≤ a) → 0 ≤ s → s + l.sum ≤ 1000000000 → lrun (fun a s c => c (IntKind.wrap .i64 (s + a))) k l s = k (s + l.sum)
  | [], s, _, _, _ => by simp [lrun]
  | a :: l, s, h, h0, hb => by
    have ha := h a (by simp)
    rw [List.sum_cons] at hb ⊢
    have hl : 0 ≤ l.sum := by
      refine sum_nn (fun j => ?_)
      rw [List.getD_eq_getElem?_getD]
      cases hj : l[j]? with
      | none => simp
      | some b => exact h b (by simp [List.mem_of_getElem? hj])
    show lrun _ k l (IntKind.wrap .i64 (s + a)) = _
    rw [wr (by omega) (by omega), sum_lrun k l (s + a) (fun b hb => h b (by simp [hb])) (by omega) (by omega)]
    congr 1; omega
theorem nn_mem {T : List Int} (h : NN T) : ∀ a ∈ T, 0 ≤ a := fun a ha => by
  obtain ⟨i, hi, rfl⟩ := List.mem_iff_getElem.1 ha
  have := h i
  rw [List.getD_eq_getElem?_getD, List.getElem?_eq_getElem hi] at this
  exact this
theorem total_eq {l : List Int} (h : ∀ a ∈ l, 0 ≤ a) (hb : l.sum ≤ 1000000000) : p_impl_total l = l.sum := by
  unfold p_impl_total
  rw [cnt_list (fun (a : Int) (s : Int) (c : Int → Int) => c (IntKind.wrap .i64 (s + a))) l 0 (by omega) (fun _ _ _ _ _ => rfl)]
  have := sum_lrun (R := Int) (fun s => s) l 0 h (by omega) (by omega)
  rw [Int.zero_add] at this
  exact this

def fw (X Y : List Int) : Nat → Int
  | 0 => 0
  | i + 1 => fw X Y i + X.getD i 0 * tailS Y i
def sr (X Y : List Int) : Nat → Int
  | 0 => 0
  | i + 1 => sr X Y i + X.getD i 0 * Y.getD i 0
theorem sr_comm (X Y : List Int) : ∀ i, sr X Y i = sr Y X i
  | 0 => rfl
  | i + 1 => by simp only [sr]; rw [sr_comm X Y i, Int.mul_comm]
theorem tail_tk {Y : List Int} {i : Nat} (h : i ≤ Y.length) : tailS Y i = Y.sum - tk Y i := by
  have := tk_sum Y i h
  unfold tailS; omega
theorem fw_part {X Y : List Int} {G : Nat} (hX : X.length = G) (hY : Y.length = G) : ∀ i, i ≤ G → fw X Y i + fw Y X i = tk X i * Y.sum + tk Y i * X.sum - tk X i * tk Y i + sr X Y i
  | 0, _ => by simp [fw, tk, sr]
  | i + 1, h => by
    have ih := fw_part hX hY i (by omega)
    have t1 := tail_tk (Y := Y) (i := i) (by omega)
    have t2 := tail_tk (Y := X) (i := i) (by omega)
    simp only [fw, tk, sr]
    rw [t1, t2]
    grind
theorem fw_all {X Y : List Int} {G : Nat} (hX : X.length = G) (hY : Y.length = G) : fw X Y G + fw Y X G = X.sum * Y.sum + sr X Y G := by
  rw [fw_part hX hY G (Nat.le_refl _), tk_all hX, tk_all hY]
  grind
theorem fw_le {X Y : List Int} (hX : NN X) (hY : NN Y) : ∀ i, 0 ≤ fw X Y i ∧ fw X Y i ≤ tk X i * Y.sum
  | 0 => by simp [fw, tk]
  | i + 1 => by
    have ih := fw_le hX hY i
    have h0 := hX i
    have h1 := Int.mul_nonneg h0 (tailS_nn hY i)
    have h2 := Int.mul_le_mul_of_nonneg_left (tailS_le hY i) h0
    simp only [fw, tk]
    rw [Int.add_mul]
    omega
theorem sr_le {X Y : List Int} (hX : NN X) (hY : NN Y) (hl : X.length = Y.length) : ∀ i, i ≤ X.length → 0 ≤ sr X Y i ∧ sr X Y i ≤ fw X Y i
  | 0, _ => by simp [sr, fw]
  | i + 1, h => by
    have ih := sr_le hX hY hl i (by omega)
    have h0 := hX i
    have h1 := Int.mul_nonneg h0 (hY i)
    have h2 := Int.mul_nonneg h0 (tailS_nn hY (i + 1))
    have e := tailS_step (T := Y) (n := i) (by omega)
    simp only [sr, fw]
    rw [e, Int.mul_add]
    omega
theorem p16 {k : Nat} (hk : k ≤ 16) : 6 ^ k ≤ 2821109907456 ∧ 0 < 6 ^ k := by
  have h2 : 6 ^ k ≤ 6 ^ 16 := Nat.pow_le_pow_right (by omega) (by omega)
  have h3 : (6 : Nat) ^ 16 = 2821109907456 := rfl
  exact ⟨by omega, Nat.pow_pos (by omega)⟩
def inB (Y Y' : List Int) (fu G : Nat) (x : Int) {R : Type} (K : Int × Int × Int → Option R) : Int × Int × Int → (Int × Int × Int → Option R) → Option R := fun (s12 : Int × Int × Int) c14 => (if s12.2.2 ≤ (G : Int) then if 0 ≤ x then if x < (Y.length : Int) then (p_spec_l2All fu (IntKind.wrap .i64 ((G : Int) - x))).bind (fun r21 => if s12.2.2 < (Y'.length : Int) then (p_spec_l2All fu (IntKind.wrap .i64 ((G : Int) - s12.2.2))).bind (fun r23 => (if x = s12.2.2 then c14 (s12.1, (IntKind.wrap .i64 (s12.2.1 + (IntKind.wrap .i64 ((IntKind.wrap .i64 ((IntKind.wrap .i64 ((Y.getD x.toNat 0) * r21)) * (Y'.getD s12.2.2.toNat 0))) * r23)))), (s12.2.2 + 1)) else c14 ((IntKind.wrap .i64 (s12.1 + (IntKind.wrap .i64 ((IntKind.wrap .i64 ((IntKind.wrap .i64 ((Y.getD x.toNat 0) * r21)) * (Y'.getD s12.2.2.toNat 0))) * r23)))), s12.2.1, (s12.2.2 + 1)))) else none) else none else none else K s12)
def outB (Y Y' : List Int) (fu G : Nat) : Int × Int × Int → (Int × Int × Int → Option (Int × Int)) → Option (Int × Int) := fun (s5 : Int × Int × Int) (c7 : Int × Int × Int → Option (Int × Int)) => (if s5.2.2 ≤ (G : Int) then whl (inB Y Y' fu G s5.2.2 (fun s12 => c7 (s12.1, s12.2.1, (IntKind.wrap .i64 (s5.2.2 + 1))))) fu (s5.1, s5.2.1, s5.2.2) else some (s5.1, s5.2.1))
section
variable {X Y X' Y' : List Int} {G : Nat} (h1 : 1 ≤ G) (hG : G ≤ 8) (ha : RL X Y G) (hb : RL X' Y' G)
include h1 hG ha hb
theorem whole : X.sum * X'.sum = ((6 ^ (2 * G) : Nat) : Int) := by
  rw [ha.sum, hb.sum, ← Int.natCast_mul, ← Nat.pow_add]
  congr 2
  omega
theorem fw_bound {i : Nat} (hi : i ≤ G) : 0 ≤ fw X X' i ∧ fw X X' i ≤ 2821109907456 := by
  have h := fw_le (nn_of ha.nn) (nn_of hb.nn) i
  have h2 := tk_mono (nn_of ha.nn) (i := i) (G - i)
  rw [show i + (G - i) = G by omega, tk_all ha.lenX] at h2
  have hs : 0 ≤ X'.sum := sum_nn (nn_of hb.nn)
  have h3 := Int.mul_le_mul_of_nonneg_right h2 hs
  rw [whole h1 hG ha hb] at h3
  have := p16 (k := 2 * G) (by omega)
  omega
theorem fw_top : fw X X' G ≤ ((6 ^ (2 * G) : Nat) : Int) := by
  have h := fw_le (nn_of ha.nn) (nn_of hb.nn) G
  rw [tk_all ha.lenX, whole h1 hG ha hb] at h
  exact h.2
/-- the second of two loops -/
theorem inner_race {fu : Nat} (hf : 64 ≤ fu) {i : Nat} (hi : i < G) {R : Type} (K : Int × Int × Int → Option R) : ∀ (n j : Nat) (b s : Int), i ≤ j → j ≤ G → G - j < n → 0 ≤ b → 0 ≤ s → b + s + X.getD i 0 * tailS X' j = fw X X' (i + 1) → s = sr X X' i + (if i < j then X.getD i 0 * X'.getD i 0 else 0) →
    ∃ b' k', whl (inB Y Y' fu G ((i + 1 : Nat) : Int) K) n (b, s, ((j : Nat) : Int) + 1) = K (b', sr X X' (i + 1), k') ∧ 0 ≤ b' ∧ b' + sr X X' (i + 1) = fw X X' (i + 1)
  | 0, j, b, s, _, _, h, _, _, _, _ => by omega
  | n + 1, j, b, s, hij, hjG, hn, hb0, hs0, he, hs => by
    have hfb := fw_bound h1 hG ha hb (i := i + 1) (by omega)
    have gX := getD_nn ha.nn i
    have hT := tailS_nn (nn_of hb.nn)
    have ih := inner_race hf hi K n (j + 1)
    rw [show ∀ z, whl (inB Y Y' fu G ((i + 1 : Nat) : Int) K) (n + 1) z = inB Y Y' fu G ((i + 1 : Nat) : Int) K z (whl (inB Y Y' fu G ((i + 1 : Nat) : Int) K) n) from fun _ => rfl]
    generalize whl (inB Y Y' fu G ((i + 1 : Nat) : Int) K) n = W at ih
    unfold inB
    simp only
    by_cases hc : j < G
    · have yb := hb.yle j hc
      have pb := p8 (k := j + 1) (by omega)
      have r1 := ha.rel i hi
      have r2 := hb.rel j hc
      have gX' := getD_nn hb.nn j
      have est := tailS_step (T := X') (n := j) (by rw [hb.lenX]; exact hc)
      have q1 : 0 ≤ X.getD i 0 * X'.getD j 0 := Int.mul_nonneg gX.1 gX'.1
      have q2 : 0 ≤ X.getD i 0 * tailS X' (j + 1) := Int.mul_nonneg gX.1 (hT (j + 1))
      have q3 : 0 ≤ X.getD i 0 * Y'.getD (j + 1) 0 := Int.mul_nonneg gX.1 yb.1
      have q4 : X.getD i 0 * Y'.getD (j + 1) 0 ≤ 1679616 * 1679616 := Int.mul_le_mul gX.2 (by omega) yb.1 (by omega)
      rw [est, Int.mul_add] at he
      rw [if_pos (by omega), if_pos (by omega), if_pos (by rw [ha.lenY]; omega)]
      rw [wr (n := (G : Int) - ((i + 1 : Nat) : Int)) (by omega) (by omega), show (G : Int) - ((i + 1 : Nat) : Int) = ((G - 1 - i : Nat) : Int) by omega, all_eq (by omega) (by omega), Option.bind_some]
      rw [if_pos (by rw [hb.lenY]; omega), show ((j : Nat) : Int) + 1 = ((j + 1 : Nat) : Int) by omega]
      rw [wr (n := (G : Int) - ((j + 1 : Nat) : Int)) (by omega) (by omega), show (G : Int) - ((j + 1 : Nat) : Int) = ((G - 1 - j : Nat) : Int) by omega, all_eq (by omega) (by omega), Option.bind_some]
      simp only [Int.toNat_natCast]
      rw [← r1, wr (n := X.getD i 0) (by omega) (by omega), wr (n := X.getD i 0 * Y'.getD (j + 1) 0) (by omega) (by omega), Int.mul_assoc, ← r2, wr (n := X.getD i 0 * X'.getD j 0) (by omega) (by omega)]
      by_cases hij' : i = j
      · subst hij'
        rw [if_pos rfl, wr (by omega) (by omega)]
        refine ih _ _ (by omega) (by omega) (by omega) hb0 (by omega) (by omega) ?_
        rw [hs, if_neg (by omega), if_pos (by omega)]; omega
      · rw [if_neg (by omega), wr (by omega) (by omega)]
        refine ih _ _ (by omega) (by omega) (by omega) (by omega) hs0 (by omega) ?_
        rw [hs, if_pos (by omega), if_pos (by omega)]
    · have hjG' : j = G := by omega
      rw [if_neg (by omega)]
      rw [hjG', tailS_end (by rw [hb.lenX]; exact Nat.le_refl _)] at he
      rw [hjG', if_pos hi] at hs
      have es : s = sr X X' (i + 1) := by rw [hs]; rfl
      refine ⟨b, _, by rw [← es], hb0, ?_⟩
      rw [← es]
      simpa using he
theorem race_run {fu : Nat} (hf : 64 ≤ fu) : ∀ (n i : Nat) (b : Int), i ≤ G → G - i < n → 0 ≤ b → b + sr X X' i = fw X X' i →
    ∃ b', whl (outB Y Y' fu G) n (b, sr X X' i, ((i : Nat) : Int) + 1) = some (b', sr X X' G) ∧ b' + sr X X' G = fw X X' G ∧ 0 ≤ b'
  | 0, i, b, _, h, _, _ => by omega
  | n + 1, i, b, hi, hn, hb0, he => by
    have ih := race_run hf n (i + 1)
    rw [show ∀ z, whl (outB Y Y' fu G) (n + 1) z = outB Y Y' fu G z (whl (outB Y Y' fu G) n) from fun _ => rfl]
    generalize whl (outB Y Y' fu G) n = W at ih
    unfold outB
    simp only
    by_cases hc : i < G
    · rw [if_pos (by omega), show ((i : Nat) : Int) + 1 = ((i + 1 : Nat) : Int) by omega]
      have hsl := sr_le (nn_of ha.nn) (nn_of hb.nn) (by rw [ha.lenX, hb.lenX]) i (by rw [ha.lenX]; omega)
      obtain ⟨b', k', e1, e2, e3⟩ := inner_race h1 hG ha hb hf hc (fun s12 => W (s12.1, s12.2.1, (IntKind.wrap .i64 (((i + 1 : Nat) : Int) + 1)))) fu i b (sr X X' i) (Nat.le_refl _) (by omega) (by omega) hb0 hsl.1 (by simp only [fw]; omega) (by rw [if_neg (by omega)]; omega)
      obtain ⟨z, q1, q2, q3⟩ := ih b' (by omega) (by omega) e2 e3
      refine ⟨z, Eq.trans e1 ?_, q2, q3⟩
      simp only
      rw [wr (by omega) (by omega)]
      exact q1
    · have hiG : i = G := by omega
      rw [if_neg (by omega), hiG]
      rw [hiG] at he
      exact ⟨b, rfl, he, hb0⟩
end
end Go.GA
