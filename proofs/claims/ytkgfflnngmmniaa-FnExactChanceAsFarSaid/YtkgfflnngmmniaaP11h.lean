/- Plain laws of ChanceAsRare, ChanceAsFar and ChanceMissing. -/
import Derived.Test.YtkgfflnngmmniaaP11g
namespace Go.GA
open Go
set_option maxRecDepth 100000
section
variable {x y : List Int} {fu : Nat}
theorem tested_eq (n : Nat) : p_impl_isTested (n : Int) = decide (n ≤ 8) := by
  unfold p_impl_isTested
  rw [within_eq]
  by_cases h : n ≤ 8
  · rw [decide_eq_true h, decide_eq_true (by omega)]
  · rw [decide_eq_false h, decide_eq_false (by omega)]
theorem sum8 {m n : Nat} (hn : n ≤ 8) {r : List Int} (hr : r ∈ vec (m + 1) n) : (r.map Int.toNat).sum ≤ 8 := by
  rw [(vec_mem m n r hr).2.2]; exact hn
theorem chv_nat (h : x.length = 6) (hc : Counts x y) (hf : 100 < fu) (h8 : (y.map Int.toNat).sum ≤ 8) : p_impl_chance fu x y = some (chv fu x y) ∧ p_spec_l11Chance fu x y = some (chv fu x y) := by
  obtain ⟨v, h1, h2, _⟩ := chance_b2 h hc hf h8
  unfold chv
  rw [h1]; exact ⟨rfl, h2⟩
theorem csum_vec {m n : Nat} (h : x.length = 6) (hd : p_impl_IsDie x = true) (hm : (dd x).length = m + 1) (hn : n ≤ 8) (hm5 : m ≤ 5) (hf : 100 < fu) (b : List Int → Bool) : ∃ v : Nat, csum fu x b (vec (m + 1) n) = (v : Int) ∧ v ≤ 59049 * 67722117120 :=
  csum_nat (vec_small hm5 hn) (fun r hr => by
    obtain ⟨v, h1, _, h3⟩ := chance_b2 h (vec_counts hd hm hn hr) hf (sum8 hn hr)
    exact ⟨v, h1, h3⟩)
/-- a list of all counts is gone over -/
theorem go_over {R : Type} {f : Int → Int → (Int → Option R) → (Int → Int → Option R) → Option R} {k : Int → Int → Option R} {l : List (List Int)} {d : Nat} (b : List Int → Bool) (hd : d = l.length) (hf : ∀ r ∈ l, ∀ i s c, l.getD i.toNat [] = r → f i s c k = c (cstep fu x b r s)) : cnt f k d 0 0 = k l.length (csum fu x b l) := by
  have e : cnt f k d 0 0 = lrun (fun r s c => c (cstep fu x b r s)) (k l.length) l 0 := by
    refine cnt_list _ l [] hd (fun i s c h0 h1 => hf _ ?_ i s c rfl)
    rw [List.getD_eq_getElem?_getD, List.getElem?_eq_getElem (by omega : i.toNat < l.length)]; exact List.getElem_mem _
  rw [e, lrun_fold]; rfl
theorem rare_cut (h : x.length = 6) (hf : 10000000000 ≤ fu) : ∃ a q, p_spec_ChanceAsRare fu x y = some (a, q) ∧ p_impl_ChanceAsRare fu x y = some (a, q) := by
  unfold p_spec_ChanceAsRare p_impl_ChanceAsRare
  rw [counts_eq h]
  rcases counts_of (y := y) h with e | ⟨e, hc⟩
  · rw [e]; exact ⟨_, _, rfl, rfl⟩
  · rw [e]
    simp only [Option.bind_some]
    have hsum : p_spec_l11Sum y = p_impl_total y := rfl
    rw [hsum, total_of h hc, tested_eq]
    by_cases h8 : (y.map Int.toNat).sum ≤ 8
    · have h8' : ¬ 8 < (((y.map Int.toNat).sum : Nat) : Int) := by omega
      rw [decide_eq_true h8, decide_eq_false h8']
      simp only [Bool.not_true, Bool.or_false, Bool.false_eq_true, if_false]
      obtain ⟨m, hm, hm5⟩ := dd_pos h
      have hl := hc.len
      obtain ⟨g1, g2⟩ := chv_nat h hc (fu := fu) (by omega) h8
      have hfu : 100 < fu := by omega
      obtain ⟨v, hv, hvb⟩ := csum_vec (n := (y.map Int.toNat).sum) h hc.die hm h8 hm5 hfu (fun r => decide (chv fu x r ≤ chv fu x y))
      refine ⟨cutF v (6 ^ (y.map Int.toNat).sum), true, ?_, ?_⟩
      · rw [g2]
        simp only [Option.bind_some]
        rw [hl, hm, vec_spec m _ fu hm5 h8 (by omega)]
        simp only [Option.bind_some]
        rw [go_over (l := vec (m + 1) (y.map Int.toNat).sum) (fun r => decide (chv fu x r ≤ chv fu x y)) (by omega) (fun r hr i s c hi => ?_), hv, end_spec hf h8 hvb]
        rw [hi, (chv_nat h (vec_counts hc.die hm h8 hr) hfu (sum8 h8 hr)).2]
        simp only [Option.bind_some, cstep, decide_eq_true_eq]
        split <;> rfl
      · rw [g1]
        simp only [Option.bind_some]
        unfold p_impl_chanceOfv1
        rw [numbers_impl h]
        simp only [Option.bind_some]
        rw [hm, vec_impl m _ fu hm5 h8 (by omega)]
        simp only [Option.bind_some]
        rw [go_over (l := vec (m + 1) (y.map Int.toNat).sum) (fun r => decide (chv fu x r ≤ chv fu x y)) (by omega) (fun r hr i s c hi => ?_), hv, end_impl hf h8 hvb]
        · rfl
        · unfold p_impl_ChanceAsRare_1
          rw [hi, (chv_nat h (vec_counts hc.die hm h8 hr) hfu (sum8 h8 hr)).1]
          simp only [Option.bind_some, cstep, decide_eq_true_eq]
          split <;> rfl
    · have h8' : 8 < (((y.map Int.toNat).sum : Nat) : Int) := by omega
      rw [decide_eq_false h8, decide_eq_true h8']
      exact ⟨_, _, rfl, rfl⟩
/-- fractions of one denominator -/
theorem less_cut (a b N : Nat) (hN : 0 < N) (ha : a ≤ 10000000) (hb : b ≤ 10000000) (hNb : N ≤ 100000) : p_spec_l2Less (cutF a N) (cutF b N) = decide (a < b) := by
  unfold p_spec_l2Less
  have hg : 0 < Nat.gcd a N := Nat.gcd_pos_of_pos_right _ hN
  have hh : 0 < Nat.gcd b N := Nat.gcd_pos_of_pos_right _ hN
  have e0 : (cutF a N).getD 0 0 = ((a / Nat.gcd a N : Nat) : Int) := rfl
  have e1 : (cutF a N).getD 1 0 = ((N / Nat.gcd a N : Nat) : Int) := rfl
  have e2 : (cutF b N).getD 0 0 = ((b / Nat.gcd b N : Nat) : Int) := rfl
  have e3 : (cutF b N).getD 1 0 = ((N / Nat.gcd b N : Nat) : Int) := rfl
  rw [e0, e1, e2, e3]
  have ea : a / Nat.gcd a N * Nat.gcd a N = a := Nat.div_mul_cancel (Nat.gcd_dvd_left _ _)
  have eN : N / Nat.gcd a N * Nat.gcd a N = N := Nat.div_mul_cancel (Nat.gcd_dvd_right _ _)
  have eb : b / Nat.gcd b N * Nat.gcd b N = b := Nat.div_mul_cancel (Nat.gcd_dvd_left _ _)
  have eM : N / Nat.gcd b N * Nat.gcd b N = N := Nat.div_mul_cancel (Nat.gcd_dvd_right _ _)
  have la := Nat.div_le_self a (Nat.gcd a N)
  have lb := Nat.div_le_self b (Nat.gcd b N)
  have lc := Nat.div_le_self N (Nat.gcd a N)
  have ld := Nat.div_le_self N (Nat.gcd b N)
  generalize a / Nat.gcd a N = A at *
  generalize b / Nat.gcd b N = B at *
  generalize N / Nat.gcd a N = C at *
  generalize N / Nat.gcd b N = D at *
  have m1 : A * D ≤ 10000000 * 100000 := Nat.mul_le_mul (by omega) (by omega)
  have m2 : B * C ≤ 10000000 * 100000 := Nat.mul_le_mul (by omega) (by omega)
  rw [← Int.natCast_mul, ← Int.natCast_mul, wrap_nat (n := A * D) (by omega), wrap_nat (n := B * C) (by omega)]
  have t1 : A * D * (Nat.gcd a N * Nat.gcd b N) = a * N := by rw [Nat.mul_mul_mul_comm, ea, eM]
  have t2 : B * C * (Nat.gcd a N * Nat.gcd b N) = b * N := by rw [Nat.mul_comm (Nat.gcd a N), Nat.mul_mul_mul_comm, eb, eN]
  have key : A * D < B * C ↔ a < b := by
    rw [← Nat.mul_lt_mul_right (Nat.mul_pos hg hh), t1, t2, Nat.mul_lt_mul_right hN]
  by_cases hab : a < b
  · rw [decide_eq_true hab, decide_eq_true (by have := key.2 hab; omega)]
  · rw [decide_eq_false hab, decide_eq_false (by have : ¬ A * D < B * C := fun h => hab (key.1 h); omega)]
theorem far_cut (h : x.length = 6) (hf : 10000000000 ≤ fu) : ∃ a q, p_spec_ChanceAsFar fu x y = some (a, q) ∧ p_impl_ChanceAsFar fu x y = some (a, q) := by
  unfold p_spec_ChanceAsFar p_impl_ChanceAsFar
  rw [counts_eq h]
  rcases counts_of (y := y) h with e | ⟨e, hc⟩
  · rw [e]; exact ⟨_, _, rfl, rfl⟩
  · rw [e]
    simp only [Option.bind_some]
    have hsum : p_spec_l11Sum y = p_impl_total y := rfl
    rw [hsum, total_of h hc, tested_eq]
    by_cases h8 : (y.map Int.toNat).sum ≤ 8
    · have h8' : ¬ 8 < (((y.map Int.toNat).sum : Nat) : Int) := by omega
      rw [decide_eq_true h8, decide_eq_false h8']
      simp only [Bool.not_true, Bool.or_false, Bool.false_eq_true, if_false]
      obtain ⟨m, hm, hm5⟩ := dd_pos h
      have hl := hc.len
      have hfu : 100 < fu := by omega
      obtain ⟨v, hv, hvb⟩ := csum_vec (n := (y.map Int.toNat).sum) h hc.die hm h8 hm5 hfu (fun r => decide (distN x y ≤ distN x r))
      have hyb := distN_b h hc
      refine ⟨cutF v (6 ^ (y.map Int.toNat).sum), true, ?_, ?_⟩
      · rw [dist_spec h hc hf]
        simp only [Option.bind_some]
        rw [hl, hm, vec_spec m _ fu hm5 h8 (by omega)]
        simp only [Option.bind_some]
        rw [go_over (l := vec (m + 1) (y.map Int.toNat).sum) (fun r => decide (distN x y ≤ distN x r)) (by omega) (fun r hr i s c hi => ?_), hv, end_spec hf h8 hvb]
        have hcr := vec_counts hc.die hm h8 hr
        have hrb := distN_b h hcr
        rw [hi, dist_spec h hcr hf, (vec_mem m _ r hr).2.2]
        simp only [Option.bind_some]
        rw [less_cut _ _ _ (by omega) (by omega) (by omega) (by omega), (chv_nat h hcr hfu (sum8 h8 hr)).2]
        simp only [Option.bind_some, cstep, decide_eq_true_eq]
        by_cases hlt : distN x r < distN x y
        · rw [if_pos hlt, if_neg (by omega)]
        · rw [if_neg hlt, if_pos (by omega)]
      · rw [dist_impl h hc]
        simp only [Option.bind_some]
        unfold p_impl_chanceOfv2
        rw [numbers_impl h]
        simp only [Option.bind_some]
        rw [hm, vec_impl m _ fu hm5 h8 (by omega)]
        simp only [Option.bind_some]
        rw [go_over (l := vec (m + 1) (y.map Int.toNat).sum) (fun r => decide (distN x y ≤ distN x r)) (by omega) (fun r hr i s c hi => ?_), hv, end_impl hf h8 hvb]
        · rfl
        · have hcr := vec_counts hc.die hm h8 hr
          unfold p_impl_ChanceAsFar_1
          rw [hi, dist_impl h hcr]
          simp only [Option.bind_some, decide_eq_true_eq]
          rw [(chv_nat h hcr hfu (sum8 h8 hr)).1]
          simp only [Option.bind_some, cstep, decide_eq_true_eq]
          by_cases hle : distN x y ≤ distN x r
          · rw [if_pos (by omega), if_pos hle]
          · rw [if_neg (by omega), if_neg hle]
    · have h8' : 8 < (((y.map Int.toNat).sum : Nat) : Int) := by omega
      rw [decide_eq_false h8, decide_eq_true h8']
      exact ⟨_, _, rfl, rfl⟩
/-- how many numbers have not come -/
def zeros (r : List Int) : Nat := r.count 0
theorem zeros_impl (r : List Int) (k : Int) (hl : r.length ≤ 100) : p_impl_ChanceMissing_1 r k = decide (((zeros r : Nat) : Int) = k) := by
  unfold p_impl_ChanceMissing_1
  rw [cnt_list (fun a s c => c (IntKind.wrap .i64 (s + p_impl_truth (decide (a = 0))))) r 0 (by omega) (fun i s c h0 h1 => rfl), lrun_fold (fun a s => IntKind.wrap .i64 (s + p_impl_truth (decide (a = 0))))]
  have key : ∀ (l : List Int) (m : Nat), m + l.length ≤ 1000 → l.foldl (fun s a => IntKind.wrap .i64 (s + p_impl_truth (decide (a = 0)))) (m : Int) = ((m + l.count 0 : Nat) : Int) := by
    intro l
    induction l with
    | nil => intro m _; simp
    | cons a l ih =>
      intro m hm
      simp only [List.length_cons] at hm
      rw [List.foldl_cons]
      by_cases e : a = 0
      · have : IntKind.wrap .i64 ((m : Int) + p_impl_truth (decide (a = 0))) = ((m + 1 : Nat) : Int) := by
          rw [decide_eq_true e]; simp only [p_impl_truth, if_true]; exact wrap_i64 (by omega) (by omega)
        rw [this, ih (m + 1) (by omega), e, List.count_cons_self]; congr 1; omega
      · have : IntKind.wrap .i64 ((m : Int) + p_impl_truth (decide (a = 0))) = ((m : Nat) : Int) := by
          rw [decide_eq_false e]; simp only [p_impl_truth, Bool.false_eq_true, if_false, Int.add_zero]; exact wrap_nat (by omega)
        rw [this, ih m (by omega), List.count_cons_of_ne e]
  have := key r 0 (by omega)
  simp only [Int.natCast_zero, Nat.zero_add] at this
  rw [this]; rfl
theorem zeros_spec {R : Type} (r : List Int) (hl : r.length ≤ 100) (K : Int → Option R) : ∀ (d j m fu : Nat), d + j = r.length → d < fu → m = (r.take j).count 0 →
    whl (fun (s19 : Int × Int) c21 => (if s19.2 < (r.length : Int) then if 0 ≤ s19.2 then (if (r.getD s19.2.toNat 0) = 0 then c21 ((IntKind.wrap .i64 (s19.1 + 1)), (IntKind.wrap .i64 (s19.2 + 1))) else c21 (s19.1, (IntKind.wrap .i64 (s19.2 + 1)))) else none else K s19.1)) fu ((m : Int), (j : Int)) = K ((zeros r : Nat) : Int)
  | 0, j, m, fu, h, hf, hm => by
    obtain ⟨f, rfl⟩ : ∃ f, fu = f + 1 := ⟨fu - 1, by omega⟩
    simp only [whl]
    rw [if_neg (by omega), hm, List.take_of_length_le (by omega)]; rfl
  | d + 1, j, m, fu, h, hf, hm => by
    obtain ⟨f, rfl⟩ : ∃ f, fu = f + 1 := ⟨fu - 1, by omega⟩
    have hj : j < r.length := by omega
    have ht : r.take (j + 1) = r.take j ++ [r[j]] := List.take_succ_eq_append_getElem hj
    have hle : (r.take j).count 0 ≤ (r.take j).length := List.count_le_length
    rw [List.length_take] at hle
    simp only [whl]
    rw [if_pos (by omega), if_pos (by omega), Int.toNat_natCast, wrap_i64 (n := (j : Int) + 1) (by omega) (by omega)]
    have e : r.getD j 0 = r[j] := by simp [List.getD_eq_getElem?_getD, List.getElem?_eq_getElem hj]
    rw [e]
    by_cases h0 : r[j] = 0
    · rw [if_pos h0, wrap_i64 (n := (m : Int) + 1) (by omega) (by omega)]
      exact zeros_spec r hl K d (j + 1) (m + 1) f (by omega) (by omega) (by rw [ht, List.count_append, hm, h0]; simp)
    · rw [if_neg h0]
      exact zeros_spec r hl K d (j + 1) m f (by omega) (by omega) (by rw [ht, List.count_append, hm, List.count_cons_of_ne h0]; simp)
theorem missing_cut (h : x.length = 6) (n k : Int) (hf : 10000000000 ≤ fu) : ∃ a q, p_spec_ChanceMissing fu x n k = some (a, q) ∧ p_impl_ChanceMissing fu x n k = some (a, q) := by
  unfold p_spec_ChanceMissing p_impl_ChanceMissing p_spec_l11Tested
  rw [l2Die_eq h]
  simp only [Option.bind_some]
  cases hd : p_impl_IsDie x with
  | false => exact ⟨_, _, rfl, rfl⟩
  | true =>
    have et : p_impl_isTested n = p_spec_l1In n 0 8 := rfl
    have ek : p_impl_within k 0 6 = p_spec_l1In k 0 6 := rfl
    rw [et, ek]
    cases hn : p_spec_l1In n 0 8 with
    | false => exact ⟨_, _, rfl, rfl⟩
    | true =>
      cases hk : p_spec_l1In k 0 6 with
      | false => exact ⟨_, _, rfl, rfl⟩
      | true =>
        simp only [l1In_eq, decide_eq_true_eq] at hn
        obtain ⟨N, rfl⟩ : ∃ N : Nat, n = (N : Int) := ⟨n.toNat, by omega⟩
        have h8 : N ≤ 8 := by omega
        have hfu : 100 < fu := by omega
        obtain ⟨m, hm, hm5⟩ := dd_pos h
        obtain ⟨v, hv, hvb⟩ := csum_vec (n := N) h hd hm h8 hm5 hfu (fun r => decide (((zeros r : Nat) : Int) = k))
        simp only [Bool.not_true, Bool.or_false, Bool.true_and, Bool.false_eq_true, if_false]
        refine ⟨cutF v (6 ^ N), true, ?_, ?_⟩
        · rw [numbers_eq h (sorted_of_IsDie h hd)]
          simp only [Option.bind_some]
          rw [hm, vec_spec m _ fu hm5 h8 (by omega)]
          simp only [Option.bind_some]
          rw [go_over (l := vec (m + 1) N) (fun r => decide (((zeros r : Nat) : Int) = k)) (by omega) (fun r hr i s c hi => ?_), hv, end_spec hf h8 hvb]
          have hcr := vec_counts hd hm h8 hr
          have hrl := (vec_mem m _ r hr).1
          rw [hi]
          refine (zeros_spec r (by omega) (fun z => if z = k then (p_spec_l11Chance fu x r).bind (fun r33 => c (IntKind.wrap .i64 (s + r33))) else c s) r.length 0 0 fu (by omega) (by omega) (by simp)).trans ?_
          rw [(chv_nat h hcr hfu (sum8 h8 hr)).2]
          simp only [Option.bind_some, cstep, decide_eq_true_eq]
          split <;> rfl
        · unfold p_impl_chanceOf
          rw [numbers_impl h]
          simp only [Option.bind_some]
          rw [hm, vec_impl m _ fu hm5 h8 (by omega)]
          simp only [Option.bind_some]
          rw [go_over (l := vec (m + 1) N) (fun r => decide (((zeros r : Nat) : Int) = k)) (by omega) (fun r hr i s c hi => ?_), hv, end_impl hf h8 hvb]
          · rfl
          · have hcr := vec_counts hd hm h8 hr
            have hrl := (vec_mem m _ r hr).1
            rw [hi, zeros_impl r k (by omega), (chv_nat h hcr hfu (sum8 h8 hr)).1]
            simp only [Option.bind_some, cstep]
            split <;> rfl
end
theorem pure_FnExactChanceAsRare {a b : List Int} (ha : a.length = 6) : ∃ fu, p_laws_FnExactChanceAsRare fu a b = some true := by
  refine ⟨10000000000, ?_⟩
  generalize hf : 10000000000 = fu
  unfold p_laws_FnExactChanceAsRare
  by_cases hb : 1048576 < (b.length : Int)
  · rw [if_pos hb]
  · rw [if_neg hb, toIntS_eq (by omega), toIntA6_eq ha]
    obtain ⟨w, q, e1, e2⟩ := rare_cut (x := a) (y := b) ha (fu := fu) (by omega)
    simp [e1, e2, eqIntS_eq, eqIntA2_self]
theorem pure_FnExactChanceAsFar {a b : List Int} (ha : a.length = 6) : ∃ fu, p_laws_FnExactChanceAsFar fu a b = some true := by
  refine ⟨10000000000, ?_⟩
  generalize hf : 10000000000 = fu
  unfold p_laws_FnExactChanceAsFar
  by_cases hb : 1048576 < (b.length : Int)
  · rw [if_pos hb]
  · rw [if_neg hb, toIntS_eq (by omega), toIntA6_eq ha]
    obtain ⟨w, q, e1, e2⟩ := far_cut (x := a) (y := b) ha (fu := fu) (by omega)
    simp [e1, e2, eqIntS_eq, eqIntA2_self]
theorem pure_FnExactChanceMissing {a : List Int} {n k : Int} (ha : a.length = 6) : ∃ fu, p_laws_FnExactChanceMissing fu a n k = some true := by
  refine ⟨10000000000, ?_⟩
  generalize hf : 10000000000 = fu
  unfold p_laws_FnExactChanceMissing
  rw [toIntA6_eq ha]
  obtain ⟨w, q, e1, e2⟩ := missing_cut (x := a) ha n k (fu := fu) (by omega)
  simp [e1, e2, eqIntA2_self]
end Go.GA
