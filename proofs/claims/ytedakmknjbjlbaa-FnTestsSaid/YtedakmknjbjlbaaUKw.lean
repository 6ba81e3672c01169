/- Plain law of FnTests: chances as far, as rare, with none missing. -/
import Derived.Test.YtedakmknjbjlbaaUKv
namespace Go.GA.E
open Go
set_option maxRecDepth 100000
theorem vec_has : ∀ (m n : Nat) (r : List Int), r.length = m + 1 → (∀ v ∈ r, ∃ k : Nat, v = (k : Int) ∧ k ≤ 12) → (r.map Int.toNat).sum = n → r ∈ vec (m + 1) n
  | 0, n, r, hl, hv, hs => by
    obtain ⟨a, rfl⟩ : ∃ a, r = [a] := List.length_eq_one_iff.1 hl
    obtain ⟨k, rfl, _⟩ := hv a (by simp)
    simp at hs
    subst hs
    simp [vec]
  | m + 1, n, r, hl, hv, hs => by
    cases r with
    | nil => simp at hl
    | cons a r =>
      obtain ⟨k, rfl, _⟩ := hv a (by simp)
      rw [List.map_cons, List.sum_cons, Int.toNat_natCast] at hs
      simp only [vec, List.mem_flatMap, List.mem_range, List.mem_map]
      exact ⟨k, by omega, r, vec_has m (n - k) r (by simpa using hl) (fun v h => hv v (by simp [h])) (by omega), rfl⟩
theorem less_cut2 (a b N : Nat) (hN : 0 < N) (ha : a ≤ 1679616) (hb : b ≤ 1679616) (hNb : N ≤ 1679616) : p_laws_vLess (cutF a N) (cutF b N) = decide (a < b) := by
  unfold p_laws_vLess
  have hg : 0 < Nat.gcd a N := Nat.gcd_pos_of_pos_right _ hN
  have hh : 0 < Nat.gcd b N := Nat.gcd_pos_of_pos_right _ hN
  have e0 : (cutF a N).getD 0 0 = ((a / Nat.gcd a N : Nat) : Int) := rfl
  have e1 : (cutF a N).getD 1 0 = ((N / Nat.gcd a N : Nat) : Int) := rfl
  have e2 : (cutF b N).getD 0 0 = ((b / Nat.gcd b N : Nat) : Int) := rfl
  have e3 : (cutF b N).getD 1 0 = ((N / Nat.gcd b N : Nat) : Int) := rfl
  rw [e0, e1, e2, e3]
  have ea : a / Nat.gcd a N * Nat.gcd a N = a := Nat.div_mul_cancel (Nat.gcd_dvd_left _ _)
  have eN : N / Nat.gcd a N * Nat.gcd a N = N := Nat.div_mul_cancel (Nat.gcd_dvd_right _ _)
  have eb : b / Nat.gcd b N * Nat.gcd b N = b := Nat.div_mul_cancel (Nat.gcd_dvd_left _ _)
  have eM : N / Nat.gcd b N * Nat.gcd b N = N := Nat.div_mul_cancel (Nat.gcd_dvd_right _ _)
  have la := Nat.div_le_self a (Nat.gcd a N)
  have lb := Nat.div_le_self b (Nat.gcd b N)
  have lc := Nat.div_le_self N (Nat.gcd a N)
  have ld := Nat.div_le_self N (Nat.gcd b N)
  generalize a / Nat.gcd a N = A at *
  generalize b / Nat.gcd b N = B at *
  generalize N / Nat.gcd a N = C at *
  generalize N / Nat.gcd b N = D at *
  have m1 : A * D ≤ 1679616 * 1679616 := Nat.mul_le_mul (by omega) (by omega)
  have m2 : B * C ≤ 1679616 * 1679616 := Nat.mul_le_mul (by omega) (by omega)
  rw [← Int.natCast_mul, ← Int.natCast_mul, wrap_nat (n := A * D) (by omega), wrap_nat (n := B * C) (by omega)]
  have t1 : A * D * (Nat.gcd a N * Nat.gcd b N) = a * N := by rw [Nat.mul_mul_mul_comm, ea, eM]
  have t2 : B * C * (Nat.gcd a N * Nat.gcd b N) = b * N := by rw [Nat.mul_comm (Nat.gcd a N), Nat.mul_mul_mul_comm, eb, eN]
  have key : A * D < B * C ↔ a < b := by
    rw [← Nat.mul_lt_mul_right (Nat.mul_pos hg hh), t1, t2, Nat.mul_lt_mul_right hN]
  by_cases hab : a < b
  · rw [decide_eq_true hab, decide_eq_true (by have := key.2 hab; omega)]
  · rw [decide_eq_false hab, decide_eq_false (by have : ¬ A * D < B * C := fun h => hab (key.1 h); omega)]
theorem cut_one {N : Nat} (h : 0 < N) : cutF N N = [1, 1] := by
  unfold cutF
  rw [Nat.gcd_self, Nat.div_self h]; rfl
section
variable {x y : List Int} {fu : Nat}
theorem sumB_le (ws : List Nat) (b : List Int → Bool) (l : List (List Int)) : sumB ws b l ≤ (l.map (chN ws)).sum := sum_le_of _ _ l (fun r _ => by split <;> omega)
theorem sumB_own (ws : List Nat) (b : List Int → Bool) {l : List (List Int)} {y : List Int} (hy : y ∈ l) (hb : b y = true) : chN ws y ≤ sumB ws b l := by
  have := sum_ge_of (fun r => if b r = true then chN ws r else 0) l hy
  rw [if_pos hb] at this
  exact this
theorem ws_split (h : x.length = 6) (hd : p_impl_IsDie x = true) {m : Nat} (hm : (dd x).length = m + 1) : ∃ w ws, wsF x = w :: ws ∧ ws.length = m ∧ w + ws.sum = 6 := by
  have hl := wsF_len x
  have hs := wsF_sum h hd
  cases hw : wsF x with
  | nil => rw [hw] at hl; simp at hl; omega
  | cons w ws =>
    rw [hw] at hl hs
    exact ⟨w, ws, rfl, by simp at hl; omega, by simpa using hs⟩
theorem all_sum (h : x.length = 6) (hd : p_impl_IsDie x = true) {m n : Nat} (hm : (dd x).length = m + 1) (hn : n ≤ 8) : ((vec (m + 1) n).map (chN (wsF x))).sum = 6 ^ n := by
  obtain ⟨w, ws, e1, e2, e3⟩ := ws_split h hd hm
  have := sum_all ws w n hn (by omega)
  rw [e1, ← e2, this, e3]
theorem pow8 {n : Nat} (hn : n ≤ 8) : 6 ^ n ≤ 1679616 := Nat.pow_le_pow_right (n := 6) (by omega) hn
theorem csum_vec2 {m n : Nat} (h : x.length = 6) (hd : p_impl_IsDie x = true) (hm : (dd x).length = m + 1) (hn : n ≤ 8) (hm5 : m ≤ 5) (hf : 100 < fu) (b : List Int → Bool) : csum fu x b (vec (m + 1) n) = ((sumB (wsF x) b (vec (m + 1) n) : Nat) : Int) ∧ sumB (wsF x) b (vec (m + 1) n) ≤ 6 ^ n := by
  refine ⟨csum_eq h hf b (vec_small hm5 hn) (fun r hr => ⟨vec_counts hd hm hn hr, sum8 hn hr⟩), ?_⟩
  rw [← all_sum h hd hm hn]
  exact sumB_le _ _ _
/-- what is tested -/
structure TC (x y : List Int) (m : Nat) : Prop where
  h : x.length = 6
  e : p_impl_areCounts x y = some true
  hc : Counts x y
  h8 : (y.map Int.toNat).sum ≤ 8
  hm : (dd x).length = m + 1
  hm5 : m ≤ 5
abbrev sm (y : List Int) : Nat := (y.map Int.toNat).sum
theorem tc_or (h : x.length = 6) : (∃ m, TC x y m) ∨ p_impl_areCounts x y = some false ∨ (p_impl_areCounts x y = some true ∧ Counts x y ∧ ¬ sm y ≤ 8) := by
  rcases counts_of (y := y) h with e | ⟨e, hc⟩
  · exact .inr (.inl e)
  · by_cases h8 : sm y ≤ 8
    · obtain ⟨m, hm, hm5⟩ := dd_pos h
      exact .inl ⟨m, h, e, hc, h8, hm, hm5⟩
    · exact .inr (.inr ⟨e, hc, h8⟩)
theorem rare_good {m : Nat} (t : TC x y m) (hf : 10000000000 ≤ fu) : p_spec_ChanceAsRare fu x y = some (cutF (sumB (wsF x) (fun r => decide (chv fu x r ≤ chv fu x y)) (vec (m + 1) (sm y))) (6 ^ sm y), true) ∧ p_impl_ChanceAsRare fu x y = some (cutF (sumB (wsF x) (fun r => decide (chv fu x r ≤ chv fu x y)) (vec (m + 1) (sm y))) (6 ^ sm y), true) := by
  obtain ⟨h, e, hc, h8, hm, hm5⟩ := t
  unfold p_spec_ChanceAsRare p_impl_ChanceAsRare
  rw [counts_eq h, e]
  simp only [Option.bind_some]
  have hsum : p_spec_l11Sum y = p_impl_total y := rfl
  rw [hsum, total_of h hc, tested_eq]
  have h8' : ¬ 8 < (((y.map Int.toNat).sum : Nat) : Int) := by omega
  rw [decide_eq_true h8, decide_eq_false h8']
  simp only [Bool.not_true, Bool.or_false, Bool.false_eq_true, if_false]
  have hl := hc.len
  obtain ⟨g1, g2⟩ := chv_nat h hc (fu := fu) (by omega) h8
  have hfu : 100 < fu := by omega
  obtain ⟨hv, hvb⟩ := csum_vec2 (n := (y.map Int.toNat).sum) h hc.die hm h8 hm5 hfu (fun r => decide (chv fu x r ≤ chv fu x y))
  have hp := pow8 h8
  constructor
  · rw [g2]
    simp only [Option.bind_some]
    rw [hl, hm, vec_spec m _ fu hm5 h8 (by omega)]
    simp only [Option.bind_some]
    rw [go_over (l := vec (m + 1) (y.map Int.toNat).sum) (fun r => decide (chv fu x r ≤ chv fu x y)) (by omega) (fun r hr i s c hi => ?_), hv, end_spec hf h8 (by omega)]
    rw [hi, (chv_nat h (vec_counts hc.die hm h8 hr) hfu (sum8 h8 hr)).2]
    simp only [Option.bind_some, cstep, decide_eq_true_eq]
    split <;> rfl
  · rw [g1]
    simp only [Option.bind_some]
    unfold p_impl_chanceOfv1
    rw [numbers_impl h]
    simp only [Option.bind_some]
    rw [hm, vec_impl m _ fu hm5 h8 (by omega)]
    simp only [Option.bind_some]
    rw [go_over (l := vec (m + 1) (y.map Int.toNat).sum) (fun r => decide (chv fu x r ≤ chv fu x y)) (by omega) (fun r hr i s c hi => ?_), hv, end_impl hf h8 (by omega)]
    · rfl
    · unfold p_impl_ChanceAsRare_1
      rw [hi, (chv_nat h (vec_counts hc.die hm h8 hr) hfu (sum8 h8 hr)).1]
      simp only [Option.bind_some, cstep, decide_eq_true_eq]
      split <;> rfl
theorem rare_bad (h : x.length = 6) (hb : p_impl_areCounts x y = some false ∨ (p_impl_areCounts x y = some true ∧ Counts x y ∧ ¬ sm y ≤ 8)) : p_spec_ChanceAsRare fu x y = some (List.replicate 2 0, false) ∧ p_impl_ChanceAsRare fu x y = some (List.replicate 2 0, false) := by
  unfold p_spec_ChanceAsRare p_impl_ChanceAsRare
  rw [counts_eq h]
  rcases hb with e | ⟨e, hc, h8⟩
  · rw [e]; exact ⟨rfl, rfl⟩
  · rw [e]
    simp only [Option.bind_some]
    have hsum : p_spec_l11Sum y = p_impl_total y := rfl
    have h8' : 8 < (((y.map Int.toNat).sum : Nat) : Int) := by unfold sm at h8; omega
    rw [hsum, total_of h hc, tested_eq, decide_eq_false h8, decide_eq_true h8']
    exact ⟨rfl, rfl⟩
theorem far_good {m : Nat} (t : TC x y m) (hf : 10000000000 ≤ fu) : p_spec_ChanceAsFar fu x y = some (cutF (sumB (wsF x) (fun r => decide (distN x y ≤ distN x r)) (vec (m + 1) (sm y))) (6 ^ sm y), true) ∧ p_impl_ChanceAsFar fu x y = some (cutF (sumB (wsF x) (fun r => decide (distN x y ≤ distN x r)) (vec (m + 1) (sm y))) (6 ^ sm y), true) := by
  obtain ⟨h, e, hc, h8, hm, hm5⟩ := t
  unfold p_spec_ChanceAsFar p_impl_ChanceAsFar
  rw [counts_eq h, e]
  simp only [Option.bind_some]
  have hsum : p_spec_l11Sum y = p_impl_total y := rfl
  rw [hsum, total_of h hc, tested_eq]
  have h8' : ¬ 8 < (((y.map Int.toNat).sum : Nat) : Int) := by omega
  rw [decide_eq_true h8, decide_eq_false h8']
  simp only [Bool.not_true, Bool.or_false, Bool.false_eq_true, if_false]
  have hl := hc.len
  have hfu : 100 < fu := by omega
  obtain ⟨hv, hvb⟩ := csum_vec2 (n := (y.map Int.toNat).sum) h hc.die hm h8 hm5 hfu (fun r => decide (distN x y ≤ distN x r))
  have hp := pow8 h8
  have hyb := distN_b h hc
  constructor
  · rw [dist_spec h hc hf]
    simp only [Option.bind_some]
    rw [hl, hm, vec_spec m _ fu hm5 h8 (by omega)]
    simp only [Option.bind_some]
    rw [go_over (l := vec (m + 1) (y.map Int.toNat).sum) (fun r => decide (distN x y ≤ distN x r)) (by omega) (fun r hr i s c hi => ?_), hv, end_spec hf h8 (by omega)]
    have hcr := vec_counts hc.die hm h8 hr
    have hrb := distN_b h hcr
    rw [hi, dist_spec h hcr hf, (vec_mem m _ r hr).2.2]
    simp only [Option.bind_some]
    rw [less_cut _ _ _ (by omega) (by omega) (by omega) (by omega), (chv_nat h hcr hfu (sum8 h8 hr)).2]
    simp only [Option.bind_some, cstep, decide_eq_true_eq]
    by_cases hlt : distN x r < distN x y
    · rw [if_pos hlt, if_neg (by omega)]
    · rw [if_neg hlt, if_pos (by omega)]
  · rw [dist_impl h hc]
    simp only [Option.bind_some]
    unfold p_impl_chanceOf
    rw [numbers_impl h]
    simp only [Option.bind_some]
    rw [hm, vec_impl m _ fu hm5 h8 (by omega)]
    simp only [Option.bind_some]
    rw [go_over (l := vec (m + 1) (y.map Int.toNat).sum) (fun r => decide (distN x y ≤ distN x r)) (by omega) (fun r hr i s c hi => ?_), hv, end_impl hf h8 (by omega)]
    · rfl
    · have hcr := vec_counts hc.die hm h8 hr
      unfold p_impl_ChanceAsFar_1
      rw [hi, dist_impl h hcr]
      simp only [Option.bind_some, decide_eq_true_eq]
      rw [(chv_nat h hcr hfu (sum8 h8 hr)).1]
      simp only [Option.bind_some, cstep, decide_eq_true_eq]
      by_cases hle : distN x y ≤ distN x r
      · rw [if_pos (by omega), if_pos hle]
      · rw [if_neg (by omega), if_neg hle]
theorem far_bad (h : x.length = 6) (hb : p_impl_areCounts x y = some false ∨ (p_impl_areCounts x y = some true ∧ Counts x y ∧ ¬ sm y ≤ 8)) : p_spec_ChanceAsFar fu x y = some (List.replicate 2 0, false) ∧ p_impl_ChanceAsFar fu x y = some (List.replicate 2 0, false) := by
  unfold p_spec_ChanceAsFar p_impl_ChanceAsFar
  rw [counts_eq h]
  rcases hb with e | ⟨e, hc, h8⟩
  · rw [e]; exact ⟨rfl, rfl⟩
  · rw [e]
    simp only [Option.bind_some]
    have hsum : p_spec_l11Sum y = p_impl_total y := rfl
    have h8' : 8 < (((y.map Int.toNat).sum : Nat) : Int) := by unfold sm at h8; omega
    rw [hsum, total_of h hc, tested_eq, decide_eq_false h8, decide_eq_true h8']
    exact ⟨rfl, rfl⟩
theorem own_good {m : Nat} (t : TC x y m) (hf : 10000000000 ≤ fu) : p_impl_ChanceOfCounts fu x y = some (cutF (chN (wsF x) y) (6 ^ sm y), true) := by
  obtain ⟨h, e, hc, h8, hm, hm5⟩ := t
  obtain ⟨e1, e2⟩ := chance_eq h hc (fu := fu) (by omega) h8
  unfold p_impl_ChanceOfCounts
  have hp := pow8 h8
  have hp0 : 0 < 6 ^ (y.map Int.toNat).sum := Nat.pow_pos (by omega)
  rw [e, Option.bind_some, if_pos rfl, e1, Option.bind_some, total_of h hc, power_eq _ (by omega) (by omega), Option.bind_some, fraction_eq _ _ (by omega) (by omega) (by omega) (by omega)]
  rfl
/-- the tests of one die -/
theorem tests_ok (h : x.length = 6) (hf : 10000000000 ≤ fu) : ∃ a b ok, p_impl_ChanceAsFar fu x y = some (a, ok) ∧ p_spec_ChanceAsFar fu x y = some (a, ok) ∧ p_impl_ChanceAsRare fu x y = some (b, ok) ∧ p_spec_ChanceAsRare fu x y = some (b, ok) ∧
    (if ok = true then (p_impl_ChanceOfCounts fu x y).bind (fun r379 => some ((((r379.2 && (!(p_laws_vLess a r379.1))) && (!(p_laws_vLess b r379.1))) && (!(p_laws_vLess [1, 1] a))) && (!(p_laws_vLess [1, 1] b)))) else some true) = some true := by
  rcases tc_or (y := y) h with ⟨m, t⟩ | hb
  · obtain ⟨f1, f2⟩ := far_good t hf
    obtain ⟨r1, r2⟩ := rare_good t hf
    refine ⟨_, _, true, f2, f1, r2, r1, ?_⟩
    rw [if_pos rfl, own_good t hf, Option.bind_some]
    obtain ⟨h, e, hc, h8, hm, hm5⟩ := t
    have hp : 6 ^ sm y ≤ 1679616 := pow8 h8
    have hp0 : 0 < 6 ^ sm y := Nat.pow_pos (by omega)
    have hy : y ∈ vec (m + 1) (sm y) := vec_has m _ y (by rw [hc.len, hm]) hc.inn rfl
    have o1 := sumB_own (wsF x) (fun r => decide (distN x y ≤ distN x r)) hy (by simp)
    have o2 := sumB_own (wsF x) (fun r => decide (chv fu x r ≤ chv fu x y)) hy (by simp)
    have l1 := (csum_vec2 (fu := fu) (n := sm y) h hc.die hm h8 hm5 (by omega) (fun r => decide (distN x y ≤ distN x r))).2
    have l2 := (csum_vec2 (fu := fu) (n := sm y) h hc.die hm h8 hm5 (by omega) (fun r => decide (chv fu x r ≤ chv fu x y))).2
    have q1 := less_cut2 (N := 6 ^ sm y) (hN := hp0) (a := sumB (wsF x) (fun r => decide (distN x y ≤ distN x r)) (vec (m + 1) (sm y))) (b := chN (wsF x) y) (by omega) (by omega) hp
    have q2 := less_cut2 (N := 6 ^ sm y) (hN := hp0) (a := sumB (wsF x) (fun r => decide (chv fu x r ≤ chv fu x y)) (vec (m + 1) (sm y))) (b := chN (wsF x) y) (by omega) (by omega) hp
    have q3 := less_cut2 (N := 6 ^ sm y) (hN := hp0) (a := 6 ^ sm y) (b := sumB (wsF x) (fun r => decide (distN x y ≤ distN x r)) (vec (m + 1) (sm y))) (by omega) (by omega) hp
    have q4 := less_cut2 (N := 6 ^ sm y) (hN := hp0) (a := 6 ^ sm y) (b := sumB (wsF x) (fun r => decide (chv fu x r ≤ chv fu x y)) (vec (m + 1) (sm y))) (by omega) (by omega) hp
    rw [cut_one hp0] at q3 q4
    simp only
    rw [q1, q2, q3, q4, decide_eq_false (by omega), decide_eq_false (by omega), decide_eq_false (by omega), decide_eq_false (by omega)]
    rfl
  · obtain ⟨f1, f2⟩ := far_bad (fu := fu) h hb
    obtain ⟨r1, r2⟩ := rare_bad (fu := fu) h hb
    exact ⟨_, _, false, f2, f1, r2, r1, rfl⟩
end
end Go.GA.E
