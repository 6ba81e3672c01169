/- Plain laws of ChanceAsRare, ChanceAsFar and ChanceMissing. -/
import Derived.Test.YtedakmknjbjlbaaUKg
namespace Go.GA.E
open Go
set_option maxRecDepth 100000
section
variable {x y : List Int} {fu : Nat}
theorem tested_eq (n : Nat) : p_impl_isTested (n : Int) = decide (n ≤ 8) := by
  unfold p_impl_isTested
  rw [within_eq]
  by_cases h : n ≤ 8
  · rw [decide_eq_true h, decide_eq_true (by omega)]
  · rw [decide_eq_false h, decide_eq_false (by omega)]
theorem sum8 {m n : Nat} (hn : n ≤ 8) {r : List Int} (hr : r ∈ vec (m + 1) n) : (r.map Int.toNat).sum ≤ 8 := by
  rw [(vec_mem m n r hr).2.2]; exact hn
theorem chv_nat (h : x.length = 6) (hc : Counts x y) (hf : 100 < fu) (h8 : (y.map Int.toNat).sum ≤ 8) : p_impl_chance fu x y = some (chv fu x y) ∧ p_spec_l11Chance fu x y = some (chv fu x y) := by
  obtain ⟨v, h1, h2, _⟩ := chance_b2 h hc hf h8
  unfold chv
  rw [h1]; exact ⟨rfl, h2⟩
/-- a list of all counts is gone over -/
theorem go_over {R : Type} {f : Int → Int → (Int → Option R) → (Int → Int → Option R) → Option R} {k : Int → Int → Option R} {l : List (List Int)} {d : Nat} (b : List Int → Bool) (hd : d = l.length) (hf : ∀ r ∈ l, ∀ i s c, l.getD i.toNat [] = r → f i s c k = c (cstep fu x b r s)) : cnt f k d 0 0 = k l.length (csum fu x b l) := by
  have e : cnt f k d 0 0 = lrun (fun r s c => c (cstep fu x b r s)) (k l.length) l 0 := by
    refine cnt_list _ l [] hd (fun i s c h0 h1 => hf _ ?_ i s c rfl)
    rw [List.getD_eq_getElem?_getD, List.getElem?_eq_getElem (by omega : i.toNat < l.length)]; exact List.getElem_mem _
  rw [e, lrun_fold]; rfl
/-- fractions of one denominator -/
theorem less_cut (a b N : Nat) (hN : 0 < N) (ha : a ≤ 10000000) (hb : b ≤ 10000000) (hNb : N ≤ 100000) : p_spec_l2Less (cutF a N) (cutF b N) = decide (a < b) := by
  unfold p_spec_l2Less
  have hg : 0 < Nat.gcd a N := Nat.gcd_pos_of_pos_right _ hN
  have hh : 0 < Nat.gcd b N := Nat.gcd_pos_of_pos_right _ hN
  have e0 : (cutF a N).getD 0 0 = ((a / Nat.gcd a N : Nat) : Int) := rfl
  have e1 : (cutF a N).getD 1 0 = ((N / Nat.gcd a N : Nat) : Int) := rfl
  have e2 : (cutF b N).getD 0 0 = ((b / Nat.gcd b N : Nat) : Int) := rfl
  have e3 : (cutF b N).getD 1 0 = ((N / Nat.gcd b N : Nat) : Int) := rfl
  rw [e0, e1, e2, e3]
  have ea : a / Nat.gcd a N * Nat.gcd a N = a := Nat.div_mul_cancel (Nat.gcd_dvd_left _ _)
  have eN : N / Nat.gcd a N * Nat.gcd a N = N := Nat.div_mul_cancel (Nat.gcd_dvd_right _ _)
  have eb : b / Nat.gcd b N * Nat.gcd b N = b := Nat.div_mul_cancel (Nat.gcd_dvd_left _ _)
  have eM : N / Nat.gcd b N * Nat.gcd b N = N := Nat.div_mul_cancel (Nat.gcd_dvd_right _ _)
  have la := Nat.div_le_self a (Nat.gcd a N)
  have lb := Nat.div_le_self b (Nat.gcd b N)
  have lc := Nat.div_le_self N (Nat.gcd a N)
  have ld := Nat.div_le_self N (Nat.gcd b N)
  generalize a / Nat.gcd a N = A at *
  generalize b / Nat.gcd b N = B at *
  generalize N / Nat.gcd a N = C at *
  generalize N / Nat.gcd b N = D at *
  have m1 : A * D ≤ 10000000 * 100000 := Nat.mul_le_mul (by omega) (by omega)
  have m2 : B * C ≤ 10000000 * 100000 := Nat.mul_le_mul (by omega) (by omega)
  rw [← Int.natCast_mul, ← Int.natCast_mul, wrap_nat (n := A * D) (by omega), wrap_nat (n := B * C) (by omega)]
  have t1 : A * D * (Nat.gcd a N * Nat.gcd b N) = a * N := by rw [Nat.mul_mul_mul_comm, ea, eM]
  have t2 : B * C * (Nat.gcd a N * Nat.gcd b N) = b * N := by rw [Nat.mul_comm (Nat.gcd a N), Nat.mul_mul_mul_comm, eb, eN]
  have key : A * D < B * C ↔ a < b := by
    rw [← Nat.mul_lt_mul_right (Nat.mul_pos hg hh), t1, t2, Nat.mul_lt_mul_right hN]
  by_cases hab : a < b
  · rw [decide_eq_true hab, decide_eq_true (by have := key.2 hab; omega)]
  · rw [decide_eq_false hab, decide_eq_false (by have : ¬ A * D < B * C := fun h => hab (key.1 h); omega)]
/-- how many numbers have not come -/
def zeros (r : List Int) : Nat := r.count 0
theorem zeros_impl (r : List Int) (k : Int) (hl : r.length ≤ 100) : p_impl_ChanceMissing_1 r k = decide (((zeros r : Nat) : Int) = k) := by
  unfold p_impl_ChanceMissing_1
  rw [cnt_list (fun a s c => c (IntKind.wrap .i64 (s + p_impl_truth (decide (a = 0))))) r 0 (by omega) (fun i s c h0 h1 => rfl), lrun_fold (fun a s => IntKind.wrap .i64 (s + p_impl_truth (decide (a = 0))))]
  have key : ∀ (l : List Int) (m : Nat), m + l.length ≤ 1000 → l.foldl (fun s a => IntKind.wrap .i64 (s + p_impl_truth (decide (a = 0)))) (m : Int) = ((m + l.count 0 : Nat) : Int) := by
    intro l
    induction l with
    | nil => intro m _; simp
    | cons a l ih =>
      intro m hm
      simp only [List.length_cons] at hm
      rw [List.foldl_cons]
      by_cases e : a = 0
      · have : IntKind.wrap .i64 ((m : Int) + p_impl_truth (decide (a = 0))) = ((m + 1 : Nat) : Int) := by
          rw [decide_eq_true e]; simp only [p_impl_truth, if_true]; exact wrap_i64 (by omega) (by omega)
        rw [this, ih (m + 1) (by omega), e, List.count_cons_self]; congr 1; omega
      · have : IntKind.wrap .i64 ((m : Int) + p_impl_truth (decide (a = 0))) = ((m : Nat) : Int) := by
          rw [decide_eq_false e]; simp only [p_impl_truth, Bool.false_eq_true, if_false, Int.add_zero]; exact wrap_nat (by omega)
        rw [this, ih m (by omega), List.count_cons_of_ne e]
  have := key r 0 (by omega)
  simp only [Int.natCast_zero, Nat.zero_add] at this
  rw [this]; rfl
theorem zeros_spec {R : Type} (r : List Int) (hl : r.length ≤ 100) (K : Int → Option R) : ∀ (d j m fu : Nat), d + j = r.length → d < fu → m = (r.take j).count 0 →
    whl (fun (s19 : Int × Int) c21 => (if s19.2 < (r.length : Int) then if 0 ≤ s19.2 then (if (r.getD s19.2.toNat 0) = 0 then c21 ((IntKind.wrap .i64 (s19.1 + 1)), (IntKind.wrap .i64 (s19.2 + 1))) else c21 (s19.1, (IntKind.wrap .i64 (s19.2 + 1)))) else none else K s19.1)) fu ((m : Int), (j : Int)) = K ((zeros r : Nat) : Int)
  | 0, j, m, fu, h, hf, hm => by
    obtain ⟨f, rfl⟩ : ∃ f, fu = f + 1 := ⟨fu - 1, by omega⟩
    simp only [whl]
    rw [if_neg (by omega), hm, List.take_of_length_le (by omega)]; rfl
  | d + 1, j, m, fu, h, hf, hm => by
    obtain ⟨f, rfl⟩ : ∃ f, fu = f + 1 := ⟨fu - 1, by omega⟩
    have hj : j < r.length := by omega
    have ht : r.take (j + 1) = r.take j ++ [r[j]] := List.take_succ_eq_append_getElem hj
    have hle : (r.take j).count 0 ≤ (r.take j).length := List.count_le_length
    rw [List.length_take] at hle
    simp only [whl]
    rw [if_pos (by omega), if_pos (by omega), Int.toNat_natCast, wrap_i64 (n := (j : Int) + 1) (by omega) (by omega)]
    have e : r.getD j 0 = r[j] := by simp [List.getD_eq_getElem?_getD, List.getElem?_eq_getElem hj]
    rw [e]
    by_cases h0 : r[j] = 0
    · rw [if_pos h0, wrap_i64 (n := (m : Int) + 1) (by omega) (by omega)]
      exact zeros_spec r hl K d (j + 1) (m + 1) f (by omega) (by omega) (by rw [ht, List.count_append, hm, h0]; simp)
    · rw [if_neg h0]
      exact zeros_spec r hl K d (j + 1) m f (by omega) (by omega) (by rw [ht, List.count_append, hm, List.count_cons_of_ne h0]; simp)
end
end Go.GA.E
