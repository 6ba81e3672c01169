/- Plain law of FnAgain: scores; all values, both ways. -/
import Derived.Test.YtkjiaieabelpmaaAGp
namespace Go.GA.E
open Go
set_option maxRecDepth 100000
set_option linter.unusedVariables false
abbrev Gl : Type := Int × (Int × Unit)
theorem geta (g : Gl) : (g.1, (g.2.1, ())) = g := rfl
/-- faces -/
def Fc (x : List Int) : Prop := ∀ i, i < x.length → 0 ≤ x.getD i 0 ∧ x.getD i 0 ≤ 30
theorem take_add (x : List Int) {i : Nat} (hi : i < x.length) : (x.take (i + 1)).sum = (x.take i).sum + x.getD i 0 := by
  rw [List.take_succ_eq_append_getElem hi, List.sum_append, List.getD_eq_getElem?_getD, List.getElem?_eq_getElem hi]; simp
theorem take_b {x : List Int} (hx : Fc x) : ∀ i, i ≤ x.length → 0 ≤ (x.take i).sum ∧ (x.take i).sum ≤ 30 * (i : Int)
  | 0, _ => by simp
  | i + 1, h => by
    obtain ⟨h1, h2⟩ := take_b hx i (by omega)
    obtain ⟨h3, h4⟩ := hx i (by omega)
    rw [take_add x (by omega)]
    omega
theorem total_sum {x : List Int} (hx : Fc x) (hl : x.length ≤ 3) : p_impl_total x = x.sum := by
  unfold p_impl_total
  refine cnt_ind0 x.length (fun i s => s = (x.take i).sum) (fun r => r = x.sum) (by omega) rfl (fun s h => by rw [h, List.take_length]) (fun i s c hi h hc => hc _ ?_)
  obtain ⟨h1, h2⟩ := take_b hx (i + 1) (by omega)
  rw [take_add x hi] at h1 h2 ⊢
  rw [h, Int.toNat_natCast, wrap_i64 (by omega) (by omega)]
theorem goal_kind {g : Gl} (h : p_impl_IsGoal g = true) : g.1 = 1 ∨ g.1 = 2 ∨ g.1 = 3 ∨ g.1 = 4 ∨ g.1 = 5 := by
  unfold p_impl_IsGoal at h
  by_cases h2 : g.1 = 2
  · omega
  · by_cases h3 : g.1 = 3
    · omega
    · rw [decide_eq_false h2, decide_eq_false h3] at h
      simp only [Bool.or_self, Bool.false_eq_true, if_false, Bool.and_eq_true, within_eq, decide_eq_true_eq] at h
      omega
theorem truth_b (b : Bool) : 0 ≤ p_impl_truth b ∧ p_impl_truth b ≤ 1 := by cases b <;> decide
theorem score_ok {g : Gl} {x : List Int} (hg : p_impl_IsGoal g = true) (h1 : 1 ≤ x.length) (h3 : x.length ≤ 3) (hx : Fc x) : ∃ s : Nat, s ≤ 120 ∧ p_impl_Goal_score g x = some (s : Int) ∧ p_spec_l6Score g x = (s : Int) := by
  obtain ⟨M, m1, m2, jM, m3, m4⟩ := max_ok x h1
  obtain ⟨L, l1, l2, jL, l3, l4⟩ := min_ok x h1
  obtain ⟨b1, b2⟩ := take_b hx x.length (Nat.le_refl _)
  rw [List.take_length] at b1 b2
  have hM := hx jM m3
  have hspec : p_spec_l6Score g x = if g.1 = 1 then x.sum else if g.1 = 2 then p_spec_l6One (decide (g.2.1 ≤ x.sum)) else if g.1 = 3 then p_spec_l6One (decide (x.sum = g.2.1)) else if g.1 = 4 then M else p_spec_l6One (decide (M = L)) := by
    unfold p_spec_l6Score
    refine cnt_ind0 x.length (fun i s => s.1 = (x.take i).sum ∧ (0 ≤ s.2.1 ∧ (∀ j, j < i → x.getD j 0 ≤ s.2.1) ∧ (s.2.1 = 0 ∨ ∃ j, j < i ∧ x.getD j 0 = s.2.1)) ∧ (s.2.2 = true ↔ ∀ j, j < i → x.getD j 0 = x.getD 0 0)) (fun r => r = _) (by omega)
      ⟨rfl, ⟨Int.le_refl _, fun j hj => by omega, .inl rfl⟩, ⟨fun _ j hj => by omega, fun _ => rfl⟩⟩ (fun s ⟨e1, ⟨e2, e3, e4⟩, e5⟩ => ?_) (fun i s c hi ⟨e1, ⟨e2, e3, e4⟩, e5⟩ hc => hc _ ⟨?_, ⟨?_, fun j hj => ?_, ?_⟩, ?_⟩)
    · rw [List.take_length] at e1
      have eM : s.2.1 = M := by
        have q1 := e3 jM m3
        rcases e4 with h | ⟨j, hj, h⟩
        · omega
        · have := m2 j hj; omega
      have eA : s.2.2 = decide (M = L) := by
        rw [Bool.eq_iff_iff, e5, decide_eq_true_eq]
        constructor
        · intro h
          rw [← m4, ← l4, h jM m3, h jL l3]
        · intro h j hj
          have a1 := m2 j hj
          have a2 := l2 j hj
          have a3 := m2 0 (by omega)
          have a4 := l2 0 (by omega)
          omega
      rw [e1, eM, eA]
    · obtain ⟨q1, q2⟩ := take_b hx (i + 1) (by omega)
      rw [take_add x hi] at q1 q2 ⊢
      rw [e1, Int.toNat_natCast, wrap_i64 (by omega) (by omega)]
    · simp only [p_spec_l1Most]; have := hx i hi; rw [Int.toNat_natCast]; split <;> omega
    · simp only [p_spec_l1Most]
      rw [Int.toNat_natCast]
      by_cases e : j = i
      · subst e; split <;> omega
      · have := e3 j (by omega); split <;> omega
    · simp only [p_spec_l1Most]
      rw [Int.toNat_natCast]
      split
      · rcases e4 with h | ⟨j, hj, h⟩
        · exact .inl h
        · exact .inr ⟨j, by omega, h⟩
      · exact .inr ⟨i, by omega, rfl⟩
    · rw [Bool.and_eq_true, e5, decide_eq_true_eq, Int.toNat_natCast]
      constructor
      · rintro ⟨h, h'⟩ j hj
        by_cases e : j = i
        · subst e; exact h'
        · exact h j (by omega)
      · intro h
        exact ⟨fun j hj => h j (by omega), h i (by omega)⟩
  have himp : p_impl_Goal_score g x = some (if g.1 = 2 then p_impl_truth (decide (g.2.1 ≤ x.sum)) else if g.1 = 3 then p_impl_truth (decide (x.sum = g.2.1)) else if g.1 = 4 then M else if g.1 = 5 then p_impl_truth (decide (M = L)) else x.sum) := by
    unfold p_impl_Goal_score
    rw [total_sum hx h3, m1, l1]
    simp only [Option.bind_some]
    repeat' split
    all_goals rfl
  have hT : ∀ b : Bool, p_spec_l6One b = p_impl_truth b := fun _ => rfl
  rw [himp, hspec]
  simp only [hT]
  rcases goal_kind hg with k | k | k | k | k
  · exact ⟨x.sum.toNat, by omega, by rw [k]; simp; omega, by rw [k]; simp; omega⟩
  · have := truth_b (decide (g.2.1 ≤ x.sum))
    exact ⟨(p_impl_truth (decide (g.2.1 ≤ x.sum))).toNat, by omega, by rw [k, if_pos rfl]; congr 1; omega, by rw [k, if_neg (by omega), if_pos rfl]; omega⟩
  · have := truth_b (decide (x.sum = g.2.1))
    exact ⟨(p_impl_truth (decide (x.sum = g.2.1))).toNat, by omega, by rw [k, if_neg (by omega), if_pos rfl]; congr 1; omega, by rw [k, if_neg (by omega), if_neg (by omega), if_pos rfl]; omega⟩
  · exact ⟨M.toNat, by omega, by rw [k, if_neg (by omega), if_neg (by omega), if_pos rfl]; congr 1; omega, by rw [k, if_neg (by omega), if_neg (by omega), if_neg (by omega), if_pos rfl]; omega⟩
  · have := truth_b (decide (M = L))
    exact ⟨(p_impl_truth (decide (M = L))).toNat, by omega, by rw [k, if_neg (by omega), if_neg (by omega), if_neg (by omega), if_pos rfl]; congr 1; omega, by rw [k, if_neg (by omega), if_neg (by omega), if_neg (by omega), if_neg (by omega)]; omega⟩
/-! ### Pools that are valid -/
def FP (p : List (List Int)) : Prop := ∀ i, i < p.length → ∀ j, 0 ≤ (p.getD i (List.replicate 6 0)).getD j 0 ∧ (p.getD i (List.replicate 6 0)).getD j 0 ≤ 30
theorem pool_faces {p : List (List Int)} (hv : p_impl_IsPool p = true) : FP p := by
  have hall : p_impl_areAll_6_int p = p.all p_impl_IsDie := by
    unfold p_impl_areAll_6_int p_slices_ContainsFunc_6_int_6_int p_slices_IndexFunc_6_int_6_int
    rw [noneFunc p_impl_areAll_6_int_1]
    congr 1
    funext a
    simp [p_impl_areAll_6_int_1]
  unfold p_impl_IsPool at hv
  rw [hall, Bool.and_eq_true, List.all_eq_true] at hv
  intro i hi j
  have hd := hv.2 p[i] (List.getElem_mem hi)
  unfold p_impl_IsDie at hd
  rw [Bool.and_eq_true, areAll_eq, List.all_eq_true] at hd
  have e : p.getD i (List.replicate 6 0) = p[i] := by rw [List.getD_eq_getElem?_getD, List.getElem?_eq_getElem hi]; rfl
  rw [e]
  by_cases hj : j < p[i].length
  · have := hd.1 p[i][j] (List.getElem_mem hj)
    rw [within_eq, decide_eq_true_eq] at this
    rw [List.getD_eq_getElem?_getD, List.getElem?_eq_getElem hj]
    exact this
  · rw [List.getD_eq_getElem?_getD, List.getElem?_eq_none (by omega)]
    simp
theorem rl_faces {p : List (List Int)} (hp : FP p) (t : Nat) : Fc (rl p t) := fun i hi => by
  rw [rl_len] at hi
  rw [rl_get hi]
  exact hp i hi _
def sc (p : List (List Int)) (g : Gl) (t : Nat) : Nat := ((p_impl_Goal_score g (rl p t)).getD 0).toNat
theorem sc_ok {p : List (List Int)} {g : Gl} (hg : p_impl_IsGoal g = true) (h1 : 1 ≤ p.length) (h3 : p.length ≤ 3) (hp : FP p) (t : Nat) : sc p g t ≤ 120 ∧ p_impl_Goal_score g (rl p t) = some ((sc p g t : Nat) : Int) ∧ p_spec_l6Score g (rl p t) = ((sc p g t : Nat) : Int) := by
  obtain ⟨s, e1, e2, e3⟩ := score_ok (g := g) (x := rl p t) hg (by rw [rl_len]; exact h1) (by rw [rl_len]; exact h3) (rl_faces hp t)
  have e : sc p g t = s := by unfold sc; rw [e2]; simp
  rw [e]
  exact ⟨e1, e2, e3⟩
theorem rollS_eq {p : List (List Int)} {t fu : Nat} (h4 : p.length ≤ 4) (ht : t < 6 ^ p.length) (hf : 1999 < fu) : p_spec_l2Roll fu p (t : Int) = some (rl p t) := rollAt_eq h4 ht hf
/-! ### againOf -/
section
variable {p : List (List Int)} {g : Gl} {fu : Nat}
theorem vls_b (hg : p_impl_IsGoal g = true) (h1 : 1 ≤ p.length) (h3 : p.length ≤ 3) (hp : FP p) {k : Nat} (hk : k ≤ 2) : ∀ t, t < 6 ^ p.length → vls p.length (sc p g) k t ≤ 10000000 := by
  intro t ht
  have h := vls_le (n := p.length) (sc := sc p g) (B := 120) (fun t _ => (sc_ok hg h1 h3 hp t).1) k t ht
  obtain ⟨h216, _⟩ := pow3 h3
  have : (6 ^ p.length) ^ k ≤ 216 ^ 2 := Nat.le_trans (Nat.pow_le_pow_left h216 k) (Nat.pow_le_pow_right (by omega) hk)
  have : (6 ^ p.length) ^ k * 120 ≤ 216 ^ 2 * 120 := Nat.mul_le_mul_right _ this
  omega
theorem sets_eq (h3 : p.length ≤ 3) (x : List (List Int)) : p_impl_again_sets p x = ((2 ^ p.length : Nat) : Int) := shl_fin p.length (by omega)
theorem set_loop (h3 : p.length ≤ 3) {x4 : List (List Int)} {t k : Nat} {v : Nat → Nat} (ht : t < 6 ^ p.length) (hf : 1999 < fu) (hk1 : 1 ≤ k) (hk : k ≤ x4.length) (hk2 : k ≤ 100) (hx : x4.getD (k - 1) [] = tb (6 ^ p.length) v) (hv : ∀ t, t < 6 ^ p.length → v t ≤ 1000000000) {R : Type} (K : Int → Option R) :
    ∀ (d m fu' : Nat), d + m = 2 ^ p.length → d < fu' → whl (fun (s28 : Int × Int) c30 => (if s28.2 < (p_impl_again_sets p x4) then (p_impl_again_setValue fu (t : Int) s28.2 (k : Int) p x4).bind (fun r35 => c30 ((if r35 > s28.1 then r35 else s28.1), (IntKind.wrap .i64 (s28.2 + 1)))) else K s28.1)) fu' (((mxs (sv p.length v t) m : Nat) : Int), (m : Int)) = K ((mxs (sv p.length v t) (2 ^ p.length) : Nat) : Int)
  | 0, m, fu', h, hf' => by
    obtain ⟨f, rfl⟩ : ∃ f, fu' = f + 1 := ⟨fu' - 1, by omega⟩
    simp only [whl]
    rw [sets_eq h3, if_neg (by omega), show m = 2 ^ p.length by omega]
  | d + 1, m, fu', h, hf' => by
    obtain ⟨f, rfl⟩ : ∃ f, fu' = f + 1 := ⟨fu' - 1, by omega⟩
    obtain ⟨_, _, h8, _⟩ := pow3 h3
    have ih := set_loop h3 ht hf hk1 hk hk2 hx hv K d (m + 1) f (by omega) (by omega)
    simp only [whl]
    rw [sets_eq h3] at ih ⊢
    rw [if_pos (by omega), setV_eq h3 (by omega) ht hf hk1 hk hk2 hx hv, Option.bind_some, show (m : Int) + 1 = ((m + 1 : Nat) : Int) from rfl, wrap_nat (by omega)]
    have e : (if ((sv p.length v t m : Nat) : Int) > ((mxs (sv p.length v t) m : Nat) : Int) then ((sv p.length v t m : Nat) : Int) else ((mxs (sv p.length v t) m : Nat) : Int)) = ((mxs (sv p.length v t) (m + 1) : Nat) : Int) := by
      simp only [mxs]
      split <;> omega
    rw [e]
    exact ih
/-- one more row of values -/
theorem row_loop (h3 : p.length ≤ 3) {k : Nat} {vs : Nat → Nat → Nat} (hf : 1999 < fu) (hk1 : 1 ≤ k) (hk2 : k ≤ 100) (hvs : ∀ t, vs k t = mxs (sv p.length (vs (k - 1)) t) (2 ^ p.length)) (hv : ∀ t, t < 6 ^ p.length → vs (k - 1) t ≤ 1000000000) {R : Type} (K : List Int → Option R) :
    ∀ (d m fu' : Nat), d + m = 6 ^ p.length → d < fu' → whl (fun (s21 : Int × List Int) c23 => (if s21.1 < ((6 ^ p.length : Nat) : Int) then whl (fun (s28 : Int × Int) c30 => (if s28.2 < (p_impl_again_sets p (vt (6 ^ p.length) vs k)) then (p_impl_again_setValue fu s21.1 s28.2 (k : Int) p (vt (6 ^ p.length) vs k)).bind (fun r35 => c30 ((if r35 > s28.1 then r35 else s28.1), (IntKind.wrap .i64 (s28.2 + 1)))) else if (s21.2.length : Int) + 1 ≤ 1000000000 then c23 ((IntKind.wrap .i64 (s21.1 + 1)), (s21.2 ++ [s28.1])) else none)) fu (0, 0) else K s21.2)) fu' ((m : Int), tb m (vs k)) = K (tb (6 ^ p.length) (vs k))
  | 0, m, fu', h, hf' => by
    obtain ⟨f, rfl⟩ : ∃ f, fu' = f + 1 := ⟨fu' - 1, by omega⟩
    simp only [whl]
    rw [if_neg (by omega), show m = 6 ^ p.length by omega]
  | d + 1, m, fu', h, hf' => by
    obtain ⟨f, rfl⟩ : ∃ f, fu' = f + 1 := ⟨fu' - 1, by omega⟩
    obtain ⟨h216, _, h8, _⟩ := pow3 h3
    have ih := row_loop h3 hf hk1 hk2 hvs hv K d (m + 1) f (by omega) (by omega)
    have hl := set_loop (R := R) (fu := fu) h3 (x4 := vt (6 ^ p.length) vs k) (t := m) (k := k) (v := vs (k - 1)) (by omega) hf hk1 (by rw [vt_len]; omega) hk2 (vt_get vs (by omega)) hv
    simp only [whl]
    rw [if_pos (by omega)]
    refine (hl (fun most => if ((tb m (vs k)).length : Int) + 1 ≤ 1000000000 then whl _ f ((IntKind.wrap .i64 ((m : Int) + 1)), (tb m (vs k) ++ [most])) else none) (2 ^ p.length) 0 fu (by omega) (by omega)).trans ?_
    rw [tb_len, if_pos (by omega), show (m : Int) + 1 = ((m + 1 : Nat) : Int) from rfl, wrap_nat (by omega), ← hvs m, ← tb_succ]
    exact ih
theorem rows_loop (h3 : p.length ≤ 3) {r : Nat} (hr : r ≤ 2) {vs : Nat → Nat → Nat} (hf : 1999 < fu) (hvs : ∀ k t, vs (k + 1) t = mxs (sv p.length (vs k) t) (2 ^ p.length)) (hv : ∀ k, k ≤ 2 → ∀ t, t < 6 ^ p.length → vs k t ≤ 1000000000) :
    ∀ (d k fu' : Nat), d + k = r + 1 → 1 ≤ k → d < fu' → whl (fun (s13 : Int × List (List Int)) c15 => (if s13.1 ≤ (r : Int) then (p_impl_again_outcomes fu p s13.2).bind (fun r20 => whl (fun (s21 : Int × List Int) c23 => (if s21.1 < r20 then whl (fun (s28 : Int × Int) c30 => (if s28.2 < (p_impl_again_sets p s13.2) then (p_impl_again_setValue fu s21.1 s28.2 s13.1 p s13.2).bind (fun r35 => c30 ((if r35 > s28.1 then r35 else s28.1), (IntKind.wrap .i64 (s28.2 + 1)))) else if (s21.2.length : Int) + 1 ≤ 1000000000 then c23 ((IntKind.wrap .i64 (s21.1 + 1)), (s21.2 ++ [s28.1])) else none)) fu (0, 0) else if (s13.2.length : Int) + 1 ≤ 1000000000 then c15 ((IntKind.wrap .i64 (s13.1 + 1)), (s13.2 ++ [s21.2])) else none)) fu (0, [])) else some (p, s13.2))) fu' ((k : Int), vt (6 ^ p.length) vs k) = some (p, vt (6 ^ p.length) vs (r + 1))
  | 0, k, fu', h, hk, hf' => by
    obtain ⟨f, rfl⟩ : ∃ f, fu' = f + 1 := ⟨fu' - 1, by omega⟩
    simp only [whl]
    rw [if_neg (by omega), show k = r + 1 by omega]
  | d + 1, k, fu', h, hk, hf' => by
    obtain ⟨f, rfl⟩ : ∃ f, fu' = f + 1 := ⟨fu' - 1, by omega⟩
    obtain ⟨h216, _, h8, _⟩ := pow3 h3
    have ih := rows_loop h3 hr hf hvs hv d (k + 1) f (by omega) (by omega) (by omega)
    simp only [whl]
    rw [if_pos (by omega), outcomes_eq h3 hf, Option.bind_some]
    have hl := row_loop (R := List (List Int) × List (List Int)) (fu := fu) h3 (k := k) (vs := vs) hf hk (by omega) (fun t => by have := hvs (k - 1) t; rwa [show k - 1 + 1 = k by omega] at this) (hv (k - 1) (by omega))
    have e0 : tb 0 (vs k) = [] := rfl
    have hl2 := hl (fun row => if ((vt (6 ^ p.length) vs k).length : Int) + 1 ≤ 1000000000 then whl (fun (s13 : Int × List (List Int)) c15 => (if s13.1 ≤ (r : Int) then (p_impl_again_outcomes fu p s13.2).bind (fun r20 => whl (fun (s21 : Int × List Int) c23 => (if s21.1 < r20 then whl (fun (s28 : Int × Int) c30 => (if s28.2 < (p_impl_again_sets p s13.2) then (p_impl_again_setValue fu s21.1 s28.2 s13.1 p s13.2).bind (fun r35 => c30 ((if r35 > s28.1 then r35 else s28.1), (IntKind.wrap .i64 (s28.2 + 1)))) else if (s21.2.length : Int) + 1 ≤ 1000000000 then c23 ((IntKind.wrap .i64 (s21.1 + 1)), (s21.2 ++ [s28.1])) else none)) fu (0, 0) else if (s13.2.length : Int) + 1 ≤ 1000000000 then c15 ((IntKind.wrap .i64 (s13.1 + 1)), (s13.2 ++ [s21.2])) else none)) fu (0, [])) else some (p, s13.2))) f ((IntKind.wrap .i64 ((k : Int) + 1)), (vt (6 ^ p.length) vs k ++ [row])) else none) (6 ^ p.length) 0 fu (by omega) (by omega)
    refine hl2.trans ?_
    rw [vt_len, if_pos (by omega), show (k : Int) + 1 = ((k + 1 : Nat) : Int) from rfl, wrap_nat (by omega), ← vt_succ]
    exact ih
theorem scores_loop (hg : p_impl_IsGoal g = true) (h1 : 1 ≤ p.length) (h3 : p.length ≤ 3) (hp : FP p) (hf : 1999 < fu) {R : Type} (K : List Int → Option R) :
    ∀ (d m fu' : Nat), d + m = 6 ^ p.length → d < fu' → whl (fun (s2 : Int × List Int) c4 => (if s2.1 < ((6 ^ p.length : Nat) : Int) then (p_impl_rollAt fu p s2.1).bind (fun r9 => (p_impl_Goal_score (g.1, (g.2.1, ())) r9).bind (fun r11 => if (s2.2.length : Int) + 1 ≤ 1000000000 then c4 ((IntKind.wrap .i64 (s2.1 + 1)), (s2.2 ++ [r11])) else none)) else K s2.2)) fu' ((m : Int), tb m (sc p g)) = K (tb (6 ^ p.length) (sc p g))
  | 0, m, fu', h, hf' => by
    obtain ⟨f, rfl⟩ : ∃ f, fu' = f + 1 := ⟨fu' - 1, by omega⟩
    simp only [whl]
    rw [if_neg (by omega), show m = 6 ^ p.length by omega]
  | d + 1, m, fu', h, hf' => by
    obtain ⟨f, rfl⟩ : ∃ f, fu' = f + 1 := ⟨fu' - 1, by omega⟩
    obtain ⟨h216, _, h8, _⟩ := pow3 h3
    have ih := scores_loop hg h1 h3 hp hf K d (m + 1) f (by omega) (by omega)
    obtain ⟨_, s2, _⟩ := sc_ok hg h1 h3 hp m
    simp only [whl]
    rw [if_pos (by omega), rollAt_eq (by omega) (by omega) hf, Option.bind_some, geta, s2, Option.bind_some, tb_len, if_pos (by omega), show (m : Int) + 1 = ((m + 1 : Nat) : Int) from rfl, wrap_nat (by omega), ← tb_succ]
    rw [geta] at ih
    exact ih
theorem againOf_eq (hg : p_impl_IsGoal g = true) (h1 : 1 ≤ p.length) (h3 : p.length ≤ 3) (hp : FP p) {r : Nat} (hr : r ≤ 2) (hf : 1999 < fu) : p_impl_againOf fu p g (r : Int) = some (p, vt (6 ^ p.length) (vls p.length (sc p g)) (r + 1)) := by
  obtain ⟨h216, _, h8, _⟩ := pow3 h3
  unfold p_impl_againOf
  rw [outcomes_eq h3 hf, Option.bind_some]
  refine (scores_loop (R := List (List Int) × List (List Int)) hg h1 h3 hp hf (fun l => whl (fun (s13 : Int × List (List Int)) c15 => (if s13.1 ≤ (r : Int) then (p_impl_again_outcomes fu p s13.2).bind (fun r20 => whl (fun (s21 : Int × List Int) c23 => (if s21.1 < r20 then whl (fun (s28 : Int × Int) c30 => (if s28.2 < (p_impl_again_sets p s13.2) then (p_impl_again_setValue fu s21.1 s28.2 s13.1 p s13.2).bind (fun r35 => c30 ((if r35 > s28.1 then r35 else s28.1), (IntKind.wrap .i64 (s28.2 + 1)))) else if (s21.2.length : Int) + 1 ≤ 1000000000 then c23 ((IntKind.wrap .i64 (s21.1 + 1)), (s21.2 ++ [s28.1])) else none)) fu (0, 0) else if (s13.2.length : Int) + 1 ≤ 1000000000 then c15 ((IntKind.wrap .i64 (s13.1 + 1)), (s13.2 ++ [s21.2])) else none)) fu (0, [])) else some (p, s13.2))) fu (1, ([] ++ [l]))) (6 ^ p.length) 0 fu (by omega) (by omega)).trans ?_
  exact rows_loop (fu := fu) h3 hr (vs := vls p.length (sc p g)) hf (fun k t => rfl) (fun k hk t ht => by have := vls_b hg h1 h3 hp hk t ht; omega) r 1 fu (by omega) (by omega) (by omega)
end
end Go.GA.E
