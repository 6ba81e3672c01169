/- Plain law of FnHits: chances. -/
import Derived.Test.YtheplbbbfbbjcaaQK9
namespace Go.GA
open Go
set_option maxRecDepth 100000
def tailN (b : Int) (p : List (List Int)) (k : Nat) : Nat := (csF b p).countP (fun c => decide (k ≤ c))
theorem tail_sum {k : Nat} (hk : k ≤ 4) : ∀ cs : List Nat, (∀ c ∈ cs, c < 5) → ((tab cs).drop k).sum = ((cs.countP (fun c => decide (k ≤ c)) : Nat) : Int)
  | [], _ => by rcases (by omega : k = 0 ∨ k = 1 ∨ k = 2 ∨ k = 3 ∨ k = 4) with r | r | r | r | r <;> subst r <;> rfl
  | x :: cs, h => by
    have ih := tail_sum hk cs (fun c hc => h c (by simp [hc]))
    have hx := h x (by simp)
    rw [List.countP_cons]
    unfold tab at ih ⊢
    simp only [List.count_cons]
    rcases (by omega : k = 0 ∨ k = 1 ∨ k = 2 ∨ k = 3 ∨ k = 4) with r | r | r | r | r <;> subst r <;>
    rcases (by omega : x = 0 ∨ x = 1 ∨ x = 2 ∨ x = 3 ∨ x = 4) with r | r | r | r | r <;> subst r <;> simp at ih ⊢ <;> omega
theorem csF_lt {b : Int} {p : List (List Int)} (hl : p.length ≤ 4) : ∀ c ∈ csF b p, c < 5 := fun c hc => by
  obtain ⟨N, _, e⟩ := List.mem_map.1 hc
  have := hits_le b (rollF p N)
  rw [rollF_len] at this
  omega
theorem pow_le {m : Nat} (h : m ≤ 4) : 6 ^ m ≤ 1296 := Nat.pow_le_pow_right (n := 6) (by omega) h
theorem tailN_le {b : Int} {p : List (List Int)} (k : Nat) : tailN b p k ≤ 6 ^ p.length := by
  refine Nat.le_trans List.countP_le_length ?_
  unfold csF
  rw [csN_len]
  omega
theorem tailN_all {b : Int} {p : List (List Int)} : tailN b p 0 = 6 ^ p.length := by
  unfold tailN
  rw [List.countP_eq_length.2 (fun c _ => by simp)]
  unfold csF
  rw [csN_len]
theorem hits_anti {b b' : Int} (h : b ≤ b') : ∀ l : List Int, hitsOf b' l ≤ hitsOf b l := fun l => by
  unfold hitsOf
  exact List.countP_mono_left (fun f _ hf => by simp at hf ⊢; omega)
theorem tailN_anti {b b' : Int} (h : b ≤ b') (p : List (List Int)) (k : Nat) : tailN b' p k ≤ tailN b p k := by
  unfold tailN csF csN
  rw [List.countP_map, List.countP_map]
  refine List.countP_mono_left (fun N _ hf => ?_)
  have := hits_anti h (rollF p N)
  simp at hf ⊢
  omega
theorem tab_nn (cs : List Nat) : ∀ a ∈ tab cs, 0 ≤ a := fun a ha => by
  simp [tab] at ha
  omega
theorem drop_nn {T : List Int} (h : ∀ a ∈ T, 0 ≤ a) (k : Nat) : ∀ a ∈ T.drop k, 0 ≤ a := fun a ha => h a (List.mem_of_mem_drop ha)
theorem atLeast_eq {fu : Nat} (hf : 10000 ≤ fu) {p : List (List Int)} (hl : p.length ≤ 4) (hd : ∀ d ∈ p, Die6 d) (b : Int) {k : Nat} (hk : k ≤ 4) : p_impl_atLeast fu p b (k : Int) = some ((tailN b p k : Nat) : Int) := by
  unfold p_impl_atLeast
  rw [hits_eq hf hl hd b, Option.bind_some, if_pos (by omega), if_pos (by omega), Int.toNat_natCast]
  have e : ((tab (csF b p)).drop k).take (5 - (k : Int)).toNat = (tab (csF b p)).drop k := by
    apply List.take_of_length_le
    rw [List.length_drop]
    have : (tab (csF b p)).length = 5 := rfl
    omega
  have hs := tail_sum hk (csF b p) (csF_lt hl)
  have ht := tailN_le (b := b) (p := p) k
  have h6 := pow_le hl
  rw [e, total_eq (drop_nn (tab_nn _) k) (by rw [hs]; unfold tailN at ht; omega), hs]
  rfl
theorem tails_run {R : Type} (K : Int → Int → Option R) {T : List Int} (hT : ∀ a ∈ T, 0 ≤ a) : ∀ (d i : Nat) (s : Int), i + d = T.length → 0 ≤ s → s + (T.drop i).sum ≤ 1000000000 → cnt (fun i3 (s2 : Int) c4 _ => if 0 ≤ i3 then c4 (IntKind.wrap .i64 (s2 + (T.getD i3.toNat 0))) else none) K d (i : Int) s = K ((i + d : Nat) : Int) (s + (T.drop i).sum)
  | 0, i, s, h, _, _ => by
    rw [List.drop_eq_nil_of_le (by omega)]
    simp [cnt]
  | d + 1, i, s, h, h0, hb => by
    have hi : i < T.length := by omega
    have e := List.drop_eq_getElem_cons hi
    rw [e, List.sum_cons] at hb ⊢
    have ha := hT _ (List.getElem_mem hi)
    have hn : 0 ≤ (T.drop (i + 1)).sum := by
      refine sum_nn (fun j => ?_)
      rw [List.getD_eq_getElem?_getD]
      cases hj : (T.drop (i + 1))[j]? with
      | none => simp
      | some b => exact drop_nn hT _ b (List.mem_of_getElem? hj)
    simp only [cnt]
    rw [if_pos (by omega), Int.toNat_natCast]
    have eg : T.getD i 0 = T[i] := by rw [List.getD_eq_getElem?_getD, List.getElem?_eq_getElem hi]; rfl
    rw [eg, wr (by omega) (by omega), show (i : Int) + 1 = ((i + 1 : Nat) : Int) from rfl, tails_run K hT d (i + 1) (s + T[i]) (by omega) (by omega) (by omega)]
    congr 1
    · congr 1; omega
    · omega
theorem l4Chance_eq {fu : Nat} (hf : 10000 ≤ fu) {p : List (List Int)} (hl : p.length ≤ 4) (hd : ∀ d ∈ p, Die6 d) (b : Int) {k : Nat} (hk : k ≤ 4) : p_spec_l4Chance fu p b (k : Int) = some (cutF (tailN b p k) (6 ^ p.length)) := by
  unfold p_spec_l4Chance
  rw [l4Hits_eq (by omega) hl hd b, Option.bind_some]
  have hs := tail_sum hk (csF b p) (csF_lt hl)
  have ht := tailN_le (b := b) (p := p) k
  have h6 := pow_le hl
  have h60 : 0 < 6 ^ p.length := Nat.pow_pos (by omega)
  rw [show (5 - (k : Int)).toNat = 5 - k by omega]
  rw [tails_run _ (tab_nn _) (5 - k) k 0 (by show _ = 5; omega) (by omega) (by rw [hs]; unfold tailN at ht; omega), hs]
  rw [all_eq (by omega) (by omega), Option.bind_some, Int.zero_add]
  have := cut_eq (fu := fu) (tailN b p k) (6 ^ p.length) (by omega) (by omega) (by omega) (by omega)
  unfold tailN at this
  rw [this]
  rfl
theorem frac_eq {fu : Nat} (hf : 10000 ≤ fu) {p : List (List Int)} (hl : p.length ≤ 4) (b : Int) (k : Nat) : p_impl_fraction fu ((tailN b p k : Nat) : Int) ((6 ^ p.length : Nat) : Int) = some (cutF (tailN b p k) (6 ^ p.length)) := by
  have ht := tailN_le (b := b) (p := p) k
  have h6 := pow_le hl
  have h60 : 0 < 6 ^ p.length := Nat.pow_pos (by omega)
  exact fraction_eq _ _ (by omega) (by omega) (by omega) (by omega)
/-! ### the functions -/
theorem bound_of {b : Int} : p_impl_isBound b = p_spec_l4Bound b := rfl
def okC (p : List (List Int)) (b k : Int) : Bool := p_impl_IsPool p && p_impl_within b 0 31 && p_impl_within k 0 4
theorem chI {fu : Nat} (hf : 10000 ≤ fu) {p : List (List Int)} (h6 : Six p) (b k : Int) : p_impl_ChanceHits fu p b k = some (if okC p b k = true then (cutF (tailN b p k.toNat) (6 ^ p.length), true) else (List.replicate 2 0, false)) := by
  unfold p_impl_ChanceHits p_impl_isBound
  by_cases hc : okC p b k = true
  · rw [if_pos hc]
    unfold okC at hc
    simp only [Bool.and_eq_true] at hc
    obtain ⟨⟨c1, c2⟩, c3⟩ := hc
    rw [c1, c2, c3, if_neg (by decide)]
    simp only [pwithin_eq, decide_eq_true_eq] at c3
    obtain ⟨_, hl, hd⟩ := pool_six h6 c1
    obtain ⟨k', rfl⟩ : ∃ k' : Nat, k = (k' : Int) := ⟨k.toNat, by omega⟩
    rw [atLeast_eq hf hl hd b (by omega), Option.bind_some, power_eq (by omega) (by omega), Option.bind_some, frac_eq hf hl, Int.toNat_natCast]
    rfl
  · rw [if_neg hc, if_pos]
    unfold okC at hc
    revert hc
    cases p_impl_IsPool p <;> cases p_impl_within b 0 31 <;> cases p_impl_within k 0 4 <;> simp
theorem chS {fu : Nat} (hf : 10000 ≤ fu) {p : List (List Int)} (h6 : Six p) (b k : Int) : p_spec_ChanceHits fu p b k = some (if okC p b k = true then (cutF (tailN b p k.toNat) (6 ^ p.length), true) else (List.replicate 2 0, false)) := by
  unfold p_spec_ChanceHits p_spec_l4Bound
  rw [pool_eq h6, Option.bind_some, ← pwithin_In, ← pwithin_In]
  by_cases hc : okC p b k = true
  · rw [if_pos hc]
    unfold okC at hc
    simp only [Bool.and_eq_true] at hc
    obtain ⟨⟨c1, c2⟩, c3⟩ := hc
    rw [c1, c2, c3, if_neg (by decide)]
    simp only [pwithin_eq, decide_eq_true_eq] at c3
    obtain ⟨_, hl, hd⟩ := pool_six h6 c1
    obtain ⟨k', rfl⟩ : ∃ k' : Nat, k = (k' : Int) := ⟨k.toNat, by omega⟩
    rw [l4Chance_eq hf hl hd b (by omega), Option.bind_some, Int.toNat_natCast]
  · rw [if_neg hc, if_pos]
    unfold okC at hc
    revert hc
    cases p_impl_IsPool p <;> cases p_impl_within b 0 31 <;> cases p_impl_within k 0 4 <;> simp
def okT (p : List (List Int)) (b : Int) : Bool := p_impl_IsPool p && p_impl_within b 0 31
theorem htI {fu : Nat} (hf : 10000 ≤ fu) {p : List (List Int)} (h6 : Six p) (b : Int) : p_impl_HitTable fu p b = some (if okT p b = true then (tab (csF b p), true) else (List.replicate 5 0, false)) := by
  unfold p_impl_HitTable p_impl_isBound
  by_cases hc : okT p b = true
  · rw [if_pos hc]
    unfold okT at hc
    simp only [Bool.and_eq_true] at hc
    obtain ⟨c1, c2⟩ := hc
    rw [c1, c2, if_neg (by decide)]
    obtain ⟨_, hl, hd⟩ := pool_six h6 c1
    rw [hits_eq hf hl hd b, Option.bind_some]
  · rw [if_neg hc, if_pos]
    unfold okT at hc
    revert hc
    cases p_impl_IsPool p <;> cases p_impl_within b 0 31 <;> simp
theorem htS {fu : Nat} (hf : 10000 ≤ fu) {p : List (List Int)} (h6 : Six p) (b : Int) : p_spec_HitTable fu p b = some (if okT p b = true then (tab (csF b p), true) else (List.replicate 5 0, false)) := by
  unfold p_spec_HitTable p_spec_l4Bound
  rw [pool_eq h6, Option.bind_some, ← pwithin_In]
  by_cases hc : okT p b = true
  · rw [if_pos hc]
    unfold okT at hc
    simp only [Bool.and_eq_true] at hc
    obtain ⟨c1, c2⟩ := hc
    rw [c1, c2, if_neg (by decide)]
    obtain ⟨_, hl, hd⟩ := pool_six h6 c1
    rw [l4Hits_eq (by omega) hl hd b, Option.bind_some]
  · rw [if_neg hc, if_pos]
    unfold okT at hc
    revert hc
    cases p_impl_IsPool p <;> cases p_impl_within b 0 31 <;> simp
/-! ### the greatest bound -/
def okB (p : List (List Int)) (k t bt : Int) : Bool := p_impl_IsPool p && p_impl_within k 1 4 && p_impl_within bt 1 1000 && p_impl_within t 0 bt
/-- enough at this bound -/
def enough (p : List (List Int)) (k : Nat) (t bt b : Int) : Bool := decide (t * ((6 ^ p.length : Nat) : Int) ≤ (tailN b p k : Int) * bt)
def findB (p : List (List Int)) (k : Nat) (t bt : Int) : Nat → Int × Bool
  | 0 => (0, false)
  | n + 1 => if enough p k t bt (n : Int) = true then ((n : Int), true) else findB p k t bt n
theorem findB_ok {p : List (List Int)} {k : Nat} {t bt : Int} : ∀ n, (findB p k t bt n).2 = true → (∀ b : Int, (n : Int) ≤ b → b ≤ 31 → enough p k t bt b = false) → 0 ≤ (findB p k t bt n).1 ∧ (findB p k t bt n).1 < n ∧ enough p k t bt (findB p k t bt n).1 = true ∧ ∀ b : Int, (findB p k t bt n).1 < b → b ≤ 31 → enough p k t bt b = false
  | 0, h, _ => by cases h
  | n + 1, h, hb => by
    unfold findB at h ⊢
    by_cases hc : enough p k t bt (n : Int) = true
    · rw [if_pos hc]
      exact ⟨by simp, by simp; omega, hc, fun b h1 h2 => hb b (by simp at h1; omega) h2⟩
    · rw [if_neg hc] at h ⊢
      obtain ⟨a1, a2, a3, a4⟩ := findB_ok n h (fun b h1 h2 => by
        by_cases e : b = (n : Int)
        · rw [e]; simpa using hc
        · exact hb b (by omega) h2)
      exact ⟨a1, by omega, a3, a4⟩
theorem bfI {fu : Nat} (hf : 10000 ≤ fu) {p : List (List Int)} (h6 : Six p) (k t bt : Int) : p_impl_BoundFor fu p k t bt = some (if okB p k t bt = true then findB p k.toNat t bt 32 else (0, false)) := by
  unfold p_impl_BoundFor
  by_cases hc : okB p k t bt = true
  · rw [if_pos hc]
    unfold okB at hc
    simp only [Bool.and_eq_true] at hc
    obtain ⟨⟨⟨c1, c2⟩, c3⟩, c4⟩ := hc
    rw [c1, c2, c3, c4, if_neg (by decide)]
    simp only [pwithin_eq, decide_eq_true_eq] at c2 c3 c4
    obtain ⟨_, hl, hd⟩ := pool_six h6 c1
    obtain ⟨k', rfl⟩ : ∃ k' : Nat, k = (k' : Int) := ⟨k.toNat, by omega⟩
    rw [Int.toNat_natCast]
    have hp6 := pow_le hl
    have key : ∀ (n d : Nat), n < d → whl (fun (s40 : Int) (c42 : Int → Option (Int × Bool)) => (if 0 ≤ s40 then (p_impl_atLeast fu p s40 (k' : Int)).bind (fun r47 => (p_impl_power fu (p.length : Int)).bind (fun r48 => (if (IntKind.wrap .i64 (t * r48)) ≤ (IntKind.wrap .i64 (r47 * bt)) then some (s40, true) else c42 (s40 - 1)))) else some (0, false))) d ((n : Int) - 1) = some (findB p k' t bt n) := by
      intro n
      induction n with
      | zero =>
        intro d hd'
        obtain ⟨f, rfl⟩ : ∃ f, d = f + 1 := ⟨d - 1, by omega⟩
        simp only [whl]
        rw [if_neg (by omega)]
        rfl
      | succ n ih =>
        intro d hd'
        obtain ⟨f, rfl⟩ : ∃ f, d = f + 1 := ⟨d - 1, by omega⟩
        have ih := ih f (by omega)
        simp only [whl]
        rw [show ((n + 1 : Nat) : Int) - 1 = (n : Int) by omega, ih]
        rw [if_pos (by omega), atLeast_eq hf hl hd _ (by omega), Option.bind_some, power_eq (by omega) (by omega), Option.bind_some]
        have ht := tailN_le (b := (n : Int)) (p := p) k'
        have b1 : t * ((6 ^ p.length : Nat) : Int) ≤ 1000 * 1296 := Int.mul_le_mul (by omega) (by omega) (by omega) (by omega)
        have b2 : 0 ≤ t * ((6 ^ p.length : Nat) : Int) := Int.mul_nonneg (by omega) (by omega)
        have b3 : (tailN (n : Int) p k' : Int) * bt ≤ 1296 * 1000 := Int.mul_le_mul (by omega) (by omega) (by omega) (by omega)
        have b4 : 0 ≤ (tailN (n : Int) p k' : Int) * bt := Int.mul_nonneg (by omega) (by omega)
        rw [wr (by omega) (by omega), wr (by omega) (by omega)]
        show _ = some (if enough p k' t bt (n : Int) = true then ((n : Int), true) else findB p k' t bt n)
        unfold enough
        by_cases hq : t * ((6 ^ p.length : Nat) : Int) ≤ (tailN (n : Int) p k' : Int) * bt
        · rw [if_pos hq, if_pos (by simpa using hq)]
        · rw [if_neg hq, if_neg (by simpa using hq)]
    exact key 32 fu (by omega)
  · rw [if_neg hc, if_pos]
    unfold okB at hc
    revert hc
    cases p_impl_IsPool p <;> cases p_impl_within k 1 4 <;> cases p_impl_within bt 1 1000 <;> cases p_impl_within t 0 bt <;> simp
/-- a fraction in lowest terms against another -/
theorem cut_vs {x : Nat} {N : Nat} (hN : 0 < N) (hN2 : N ≤ 1296) (hx2 : x ≤ 1296) {t bt : Int} (ht : 0 ≤ t ∧ t ≤ 1000) (hb : 1 ≤ bt ∧ bt ≤ 1000) : ∃ u v : Int, cutF x N = [u, v] ∧ 0 ≤ u ∧ u ≤ 1296 ∧ 1 ≤ v ∧ v ≤ 1296 ∧ (u * bt < t * v ↔ (x : Int) * bt < t * (N : Int)) := by
  obtain ⟨a, b, e, h1, h2, h3, h4, h5⟩ := cut_of (x := (x : Int)) (N := N) (by omega) hN
  rw [Int.toNat_natCast] at e
  refine ⟨a, b, e, h2, by omega, h4, by omega, ?_⟩
  have hNp : (0 : Int) < N := by omega
  have hbp : (0 : Int) < b := by omega
  have k1 : (a * bt) * N = (x * bt) * b := by grind
  have k2 : (t * b) * N = (t * N) * b := by grind
  constructor
  · intro h
    have h2 := Int.mul_lt_mul_of_pos_right h hNp
    rw [k1, k2] at h2
    exact Int.lt_of_mul_lt_mul_right h2 (by omega)
  · intro h
    have h2 := Int.mul_lt_mul_of_pos_right h hbp
    rw [← k1, ← k2] at h2
    exact Int.lt_of_mul_lt_mul_right h2 (by omega)
theorem bfS {fu : Nat} (hf : 10000 ≤ fu) {p : List (List Int)} (h6 : Six p) (k t bt : Int) : p_spec_BoundFor fu p k t bt = some (if okB p k t bt = true then findB p k.toNat t bt 32 else (0, false)) := by
  unfold p_spec_BoundFor
  rw [pool_eq h6, Option.bind_some, ← pwithin_In, ← pwithin_In, ← pwithin_In]
  by_cases hc : okB p k t bt = true
  · rw [if_pos hc]
    unfold okB at hc
    simp only [Bool.and_eq_true] at hc
    obtain ⟨⟨⟨c1, c2⟩, c3⟩, c4⟩ := hc
    rw [c1, c2, c3, c4, if_neg (by decide)]
    simp only [pwithin_eq, decide_eq_true_eq] at c2 c3 c4
    obtain ⟨_, hl, hd⟩ := pool_six h6 c1
    obtain ⟨k', rfl⟩ : ∃ k' : Nat, k = (k' : Int) := ⟨k.toNat, by omega⟩
    rw [Int.toNat_natCast]
    have hp6 := pow_le hl
    have hp60 : 0 < 6 ^ p.length := Nat.pow_pos (by omega)
    have key : ∀ (n d : Nat), n < d → whl (fun (s41 : Int) (c43 : Int → Option (Int × Bool)) => (if 0 ≤ s41 then (p_spec_l4Chance fu p s41 (k' : Int)).bind (fun r48 => (if (p_spec_l2Less r48 [t, bt]) = true then c43 (s41 - 1) else some (s41, true))) else some (0, false))) d ((n : Int) - 1) = some (findB p k' t bt n) := by
      intro n
      induction n with
      | zero =>
        intro d hd'
        obtain ⟨f, rfl⟩ : ∃ f, d = f + 1 := ⟨d - 1, by omega⟩
        simp only [whl]
        rw [if_neg (by omega)]
        rfl
      | succ n ih =>
        intro d hd'
        obtain ⟨f, rfl⟩ : ∃ f, d = f + 1 := ⟨d - 1, by omega⟩
        have ih := ih f (by omega)
        simp only [whl]
        rw [show ((n + 1 : Nat) : Int) - 1 = (n : Int) by omega, ih]
        rw [if_pos (by omega), l4Chance_eq hf hl hd _ (by omega), Option.bind_some]
        have ht := tailN_le (b := (n : Int)) (p := p) k'
        obtain ⟨u, v, e, u0, u1, v0, v1, hiff⟩ := cut_vs (x := tailN (n : Int) p k') hp60 hp6 (by omega) (t := t) (bt := bt) (by omega) (by omega)
        rw [e]
        have b1 : u * bt ≤ 1296 * 1000 := Int.mul_le_mul (by omega) (by omega) (by omega) (by omega)
        have b2 : 0 ≤ u * bt := Int.mul_nonneg (by omega) (by omega)
        have b3 : t * v ≤ 1000 * 1296 := Int.mul_le_mul (by omega) (by omega) (by omega) (by omega)
        have b4 : 0 ≤ t * v := Int.mul_nonneg (by omega) (by omega)
        have el : p_spec_l2Less [u, v] [t, bt] = decide (u * bt < t * v) := by
          unfold p_spec_l2Less
          show decide (IntKind.wrap .i64 (u * bt) < IntKind.wrap .i64 (t * v)) = _
          rw [wr (by omega) (by omega), wr (by omega) (by omega)]
        rw [el]
        show _ = some (if enough p k' t bt (n : Int) = true then ((n : Int), true) else findB p k' t bt n)
        unfold enough
        by_cases hq : t * ((6 ^ p.length : Nat) : Int) ≤ (tailN (n : Int) p k' : Int) * bt
        · have hz : ¬ u * bt < t * v := fun h => by have := hiff.1 h; omega
          rw [if_neg (by simpa using hz), if_pos (by simpa using hq)]
        · have hz : u * bt < t * v := hiff.2 (by omega)
          rw [if_pos (by simpa using hz), if_neg (by simpa using hq)]
    exact key 32 fu (by omega)
  · rw [if_neg hc, if_pos]
    unfold okB at hc
    revert hc
    cases p_impl_IsPool p <;> cases p_impl_within k 1 4 <;> cases p_impl_within bt 1 1000 <;> cases p_impl_within t 0 bt <;> simp
end Go.GA
