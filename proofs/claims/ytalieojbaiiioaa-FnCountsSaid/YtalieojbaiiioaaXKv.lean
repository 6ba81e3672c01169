/- Plain law of FnCounts: the chances of all counts together. -/
import Derived.Test.YtalieojbaiiioaaXKu
namespace Go.GA.E
open Go
set_option maxRecDepth 100000
theorem sum_flat {α β : Type} (g : α → List β) (f : β → Nat) : ∀ l : List α, ((l.flatMap g).map f).sum = (l.map (fun a => ((g a).map f).sum)).sum
  | [] => rfl
  | a :: l => by rw [List.flatMap_cons, List.map_append, List.sum_append, sum_flat g f l, List.map_cons, List.sum_cons]
theorem sum_mulL {α : Type} (c : Nat) (f : α → Nat) : ∀ l : List α, (l.map (fun a => c * f a)).sum = c * (l.map f).sum
  | [] => by simp
  | a :: l => by simp only [List.map_cons, List.sum_cons, sum_mulL c f l, Nat.mul_add]
theorem sum_ge_of {α : Type} (f : α → Nat) {a : α} : ∀ l : List α, a ∈ l → f a ≤ (l.map f).sum
  | [], h => by cases h
  | b :: l, h => by
    simp only [List.map_cons, List.sum_cons]
    rcases List.mem_cons.1 h with rfl | h
    · omega
    · have := sum_ge_of f l h; omega
theorem map_congr_mem {α β : Type} (f g : α → β) (l : List α) (h : ∀ a ∈ l, f a = g a) : l.map f = l.map g := List.map_congr_left h
theorem binom_fin : ∀ w < 7, ∀ W < 7, ∀ n < 13, ((List.range (n + 1)).map (fun f => bin n f * w ^ f * W ^ (n - f))).sum = (w + W) ^ n := by decide +kernel
theorem chN_cons (w : Nat) (ws : List Nat) (f : Nat) (r : List Int) : chN (w :: ws) ((f : Int) :: r) = bin (f + (r.map Int.toNat).sum) f * w ^ f * chN ws r := by
  unfold chN
  rw [List.map_cons, Int.toNat_natCast, arrP_cons]
  simp only [lik]
  grind
theorem chN_one (w n : Nat) : chN [w] [(n : Int)] = w ^ n := by
  have h := bin_fact n 0
  have hp := fact_pos n
  have e : bin (0 + n) n = 1 := by
    rw [Nat.zero_add] at h ⊢
    have e0 : fact 0 = 1 := rfl
    rw [e0, Nat.mul_one] at h
    exact Nat.eq_of_mul_eq_mul_right hp (by omega)
  unfold chN
  simp [arrP, lik, e]
  rw [Nat.zero_add] at e
  rw [e, Nat.one_mul]
/-- all of them -/
theorem sum_all : ∀ (ws : List Nat) (w n : Nat), n ≤ 12 → w + ws.sum ≤ 6 → ((vec (ws.length + 1) n).map (chN (w :: ws))).sum = (w + ws.sum) ^ n
  | [], w, n, hn, hs => by
    show ([[(n : Int)]].map (chN [w])).sum = _
    simp [chN_one]
  | v :: ws, w, n, hn, hs => by
    rw [List.sum_cons] at hs ⊢
    show (((List.range (n + 1)).flatMap fun f => (vec (ws.length + 1) (n - f)).map fun r => (f : Int) :: r).map (chN (w :: v :: ws))).sum = _
    rw [sum_flat]
    have e : (List.range (n + 1)).map (fun a => ((((vec (ws.length + 1) (n - a)).map fun r => (a : Int) :: r)).map (chN (w :: v :: ws))).sum) = (List.range (n + 1)).map (fun f => bin n f * w ^ f * (v + ws.sum) ^ (n - f)) := by
      refine map_congr_mem _ _ _ (fun f hf => ?_)
      have hf' : f ≤ n := by have := List.mem_range.1 hf; omega
      rw [← sum_all ws v (n - f) (by omega) (by omega), ← sum_mulL, List.map_map]
      congr 1
      refine map_congr_mem _ _ _ (fun r hr => ?_)
      show chN (w :: v :: ws) ((f : Int) :: r) = _
      rw [chN_cons, (vec_mem _ _ r hr).2.2, show f + (n - f) = n by omega]
    rw [e]
    exact binom_fin w (by omega) (v + ws.sum) (by omega) n (by omega)
theorem sum_ones (l : List Int) (a : Int) : (l.map (fun v => if a == v then 1 else 0)).sum = l.count a := by
  induction l with
  | nil => rfl
  | cons b l ih =>
    rw [List.map_cons, List.sum_cons, ih, List.count_cons]
    have : (a == b) = (b == a) := by rw [Bool.eq_iff_iff, beq_iff_eq, beq_iff_eq]; exact ⟨Eq.symm, Eq.symm⟩
    rw [this, Nat.add_comm]
theorem sum_counts (l : List Int) : ∀ x : List Int, (∀ a ∈ x, l.count a = 1) → (l.map (fun v => x.count v)).sum = x.length
  | [], _ => by
    have : l.map (fun v => ([] : List Int).count v) = l.map (fun v => 0 * v.toNat) := by
      refine map_congr_mem _ _ _ (fun v _ => ?_); simp
    rw [this, sum_mulL, Nat.zero_mul]; rfl
  | a :: x, h => by
    have ih := sum_counts l x (fun b hb => h b (by simp [hb]))
    have h1 := h a (by simp)
    have key : ∀ l : List Int, (l.map (fun v => (a :: x).count v)).sum = (l.map (fun v => x.count v)).sum + (l.map (fun v => if a == v then 1 else 0)).sum := by
      intro l
      induction l with
      | nil => rfl
      | cons b l ih2 =>
        simp only [List.map_cons, List.sum_cons, ih2]
        rw [List.count_cons]; omega
    rw [key, ih, sum_ones, h1]; rfl
theorem dd_one : ∀ (x : Int) (l : List Int), (x :: l).Pairwise (· ≤ ·) → ∀ a ∈ x :: l, (dd (x :: l)).count a = 1
  | x, [], _, a, ha => by
    have : a = x := by simpa using ha
    subst this
    simp [dd]
  | x, y :: l, h, a, ha => by
    obtain ⟨h1, h2⟩ := List.pairwise_cons.1 h
    have ih := dd_one y l h2
    rw [dd_cons2]
    by_cases e : x = y
    · rw [if_pos e]
      refine ih a ?_
      rcases List.mem_cons.1 ha with rfl | ha
      · simp [e]
      · exact ha
    · rw [if_neg e, List.count_cons]
      have hxy : x < y := by have := h1 y (by simp); omega
      have hall : ∀ b ∈ y :: l, x < b := fun b hb => by
        rcases List.mem_cons.1 hb with rfl | hb
        · exact hxy
        · have := (List.pairwise_cons.1 h2).1 b hb; omega
      rcases List.mem_cons.1 ha with rfl | ha
      · have : (dd (y :: l)).count a = 0 := List.count_eq_zero.2 (fun hm => by
          have := hall a ((dd_mem _ _).1 hm); omega)
        rw [this]; simp
      · rw [ih a ha]
        have := hall a ha
        have : (x == a) = false := by simp; omega
        rw [this]; simp
theorem wsF_sum {x : List Int} (h : x.length = 6) (hd : p_impl_IsDie x = true) : (wsF x).sum = 6 := by
  have hs := sorted_of_IsDie h hd
  obtain ⟨a, b, c, d, e, f, rfl⟩ := len6 h
  have h0 := hs 0 (by simp)
  have h1 := hs 1 (by simp)
  have h2 := hs 2 (by simp)
  have h3 := hs 3 (by simp)
  have h4 := hs 4 (by simp)
  simp at h0 h1 h2 h3 h4
  refine sum_counts _ _ (dd_one _ _ ?_)
  simp
  omega
theorem vec_has : ∀ (m n : Nat) (r : List Int), r.length = m + 1 → (∀ v ∈ r, ∃ k : Nat, v = (k : Int) ∧ k ≤ 12) → (r.map Int.toNat).sum = n → r ∈ vec (m + 1) n
  | 0, n, r, hl, hv, hs => by
    obtain ⟨a, rfl⟩ : ∃ a, r = [a] := List.length_eq_one_iff.1 hl
    obtain ⟨k, rfl, _⟩ := hv a (by simp)
    simp at hs
    subst hs
    simp [vec]
  | m + 1, n, r, hl, hv, hs => by
    cases r with
    | nil => simp at hl
    | cons a r =>
      obtain ⟨k, rfl, _⟩ := hv a (by simp)
      rw [List.map_cons, List.sum_cons, Int.toNat_natCast] at hs
      simp only [vec, List.mem_flatMap, List.mem_range, List.mem_map]
      exact ⟨k, by omega, r, vec_has m (n - k) r (by simpa using hl) (fun v h => hv v (by simp [h])) (by omega), rfl⟩
section
variable {x y : List Int} {fu : Nat}
theorem cut_one {N : Nat} (h : 0 < N) : cutF N N = [1, 1] := by
  unfold cutF
  rw [Nat.gcd_self, Nat.div_self h]; rfl
theorem ws_split (h : x.length = 6) (hd : p_impl_IsDie x = true) {m : Nat} (hm : (dd x).length = m + 1) : ∃ w ws, wsF x = w :: ws ∧ ws.length = m ∧ w + ws.sum = 6 := by
  have hl := wsF_len x
  have hs := wsF_sum h hd
  cases hw : wsF x with
  | nil => rw [hw] at hl; simp at hl; omega
  | cons w ws =>
    rw [hw] at hl hs
    exact ⟨w, ws, rfl, by simp at hl; omega, by simpa using hs⟩
theorem all_sum (h : x.length = 6) (hd : p_impl_IsDie x = true) {m n : Nat} (hm : (dd x).length = m + 1) (hn : n ≤ 12) : ((vec (m + 1) n).map (chN (wsF x))).sum = 6 ^ n := by
  obtain ⟨w, ws, e1, e2, e3⟩ := ws_split h hd hm
  have := sum_all ws w n hn (by omega)
  rw [e1, ← e2, this, e3]
end
end Go.GA.E
