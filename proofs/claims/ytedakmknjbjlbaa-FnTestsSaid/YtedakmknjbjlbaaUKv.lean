/- Plain law of FnTests: the chances of all counts together. -/
import Derived.Test.YtedakmknjbjlbaaUKu
namespace Go.GA.E
open Go
set_option maxRecDepth 100000
section
variable {x y : List Int} {fu : Nat}
def sumB (ws : List Nat) (b : List Int → Bool) (l : List (List Int)) : Nat := (l.map (fun r => if b r = true then chN ws r else 0)).sum
theorem csum_eq (h : x.length = 6) (hf : 100 < fu) (b : List Int → Bool) {l : List (List Int)} (hl : l.length ≤ 59049) (hc : ∀ r ∈ l, Counts x r ∧ (r.map Int.toNat).sum ≤ 8) : csum fu x b l = ((sumB (wsF x) b l : Nat) : Int) := by
  have key : ∀ (l : List (List Int)) (m k : Nat), (∀ r ∈ l, Counts x r ∧ (r.map Int.toNat).sum ≤ 8) → k + l.length ≤ 59049 → m ≤ k * 67722117120 → l.foldl (fun s r => cstep fu x b r s) (m : Int) = ((m + sumB (wsF x) b l : Nat) : Int) := by
    intro l
    induction l with
    | nil => intro m k _ hk hm; rfl
    | cons r l ih =>
      intro m k hr hk hm
      simp only [List.length_cons] at hk
      obtain ⟨hcr, h8⟩ := hr r (by simp)
      obtain ⟨e1, e2⟩ := chance_eq h hcr hf h8
      rw [List.foldl_cons]
      have hst : cstep fu x b r (m : Int) = ((m + (if b r = true then chN (wsF x) r else 0) : Nat) : Int) := by
        unfold cstep chv
        rw [e1]
        split
        · simp only [Option.getD_some]; rw [← Int.natCast_add, wrap_nat (by omega)]
        · rfl
      have hle : (if b r = true then chN (wsF x) r else 0) ≤ 67722117120 := by split <;> omega
      rw [hst, ih _ (k + 1) (fun q hq => hr q (by simp [hq])) (by omega) (by omega)]
      unfold sumB
      rw [List.map_cons, List.sum_cons, Nat.add_assoc]
  have := key l 0 0 hc (by omega) (by omega)
  rw [Nat.zero_add] at this
  exact this
end
/-! ### sums -/
theorem sum_flat {α β : Type} (g : α → List β) (f : β → Nat) : ∀ l : List α, ((l.flatMap g).map f).sum = (l.map (fun a => ((g a).map f).sum)).sum
  | [] => rfl
  | a :: l => by rw [List.flatMap_cons, List.map_append, List.sum_append, sum_flat g f l, List.map_cons, List.sum_cons]
theorem sum_mulL {α : Type} (c : Nat) (f : α → Nat) : ∀ l : List α, (l.map (fun a => c * f a)).sum = c * (l.map f).sum
  | [] => by simp
  | a :: l => by simp only [List.map_cons, List.sum_cons, sum_mulL c f l, Nat.mul_add]
theorem sum_le_of {α : Type} (f g : α → Nat) : ∀ l : List α, (∀ a ∈ l, f a ≤ g a) → (l.map f).sum ≤ (l.map g).sum
  | [], _ => Nat.le_refl _
  | a :: l, h => by
    have := sum_le_of f g l (fun b hb => h b (by simp [hb]))
    have := h a (by simp)
    simp only [List.map_cons, List.sum_cons]; omega
theorem sum_ge_of {α : Type} (f : α → Nat) {a : α} : ∀ l : List α, a ∈ l → f a ≤ (l.map f).sum
  | [], h => by cases h
  | b :: l, h => by
    simp only [List.map_cons, List.sum_cons]
    rcases List.mem_cons.1 h with rfl | h
    · omega
    · have := sum_ge_of f l h; omega
theorem map_congr_mem {α β : Type} (f g : α → β) (l : List α) (h : ∀ a ∈ l, f a = g a) : l.map f = l.map g := List.map_congr_left h
theorem binom_fin : ∀ w < 7, ∀ W < 7, ∀ n < 9, ((List.range (n + 1)).map (fun f => bin n f * w ^ f * W ^ (n - f))).sum = (w + W) ^ n := by decide +kernel
theorem chN_cons (w : Nat) (ws : List Nat) (f : Nat) (r : List Int) : chN (w :: ws) ((f : Int) :: r) = bin (f + (r.map Int.toNat).sum) f * w ^ f * chN ws r := by
  unfold chN
  rw [List.map_cons, Int.toNat_natCast, arrP_cons]
  simp only [lik]
  grind
theorem chN_one (w n : Nat) : chN [w] [(n : Int)] = w ^ n := by
  have h := bin_fact n 0
  have hp := fact_pos n
  have e : bin (0 + n) n = 1 := by
    rw [Nat.zero_add] at h ⊢
    have e0 : fact 0 = 1 := rfl
    rw [e0, Nat.mul_one] at h
    exact Nat.eq_of_mul_eq_mul_right hp (by omega)
  unfold chN
  simp [arrP, lik, e]
  rw [Nat.zero_add] at e
  rw [e, Nat.one_mul]
/-- all of them -/
theorem sum_all : ∀ (ws : List Nat) (w n : Nat), n ≤ 8 → w + ws.sum ≤ 6 → ((vec (ws.length + 1) n).map (chN (w :: ws))).sum = (w + ws.sum) ^ n
  | [], w, n, hn, hs => by
    show ([[(n : Int)]].map (chN [w])).sum = _
    simp [chN_one]
  | v :: ws, w, n, hn, hs => by
    rw [List.sum_cons] at hs ⊢
    show (((List.range (n + 1)).flatMap fun f => (vec (ws.length + 1) (n - f)).map fun r => (f : Int) :: r).map (chN (w :: v :: ws))).sum = _
    rw [sum_flat]
    have e : (List.range (n + 1)).map (fun a => ((((vec (ws.length + 1) (n - a)).map fun r => (a : Int) :: r)).map (chN (w :: v :: ws))).sum) = (List.range (n + 1)).map (fun f => bin n f * w ^ f * (v + ws.sum) ^ (n - f)) := by
      refine map_congr_mem _ _ _ (fun f hf => ?_)
      have hf' : f ≤ n := by have := List.mem_range.1 hf; omega
      rw [← sum_all ws v (n - f) (by omega) (by omega), ← sum_mulL, List.map_map]
      congr 1
      refine map_congr_mem _ _ _ (fun r hr => ?_)
      show chN (w :: v :: ws) ((f : Int) :: r) = _
      rw [chN_cons, (vec_mem _ _ r hr).2.2, show f + (n - f) = n by omega]
    rw [e]
    exact binom_fin w (by omega) (v + ws.sum) (by omega) n (by omega)
/-! ### none missing -/
def gI : List Nat → Nat → Nat → Int
  | [], t, n => ((t ^ n : Nat) : Int)
  | w :: ws, t, n => gI ws t n - gI ws (t - w) n
theorem sum_diff {α : Type} (c p q : α → Int) : ∀ l : List α, (l.map (fun a => c a * (p a - q a))).sum = (l.map (fun a => c a * p a)).sum - (l.map (fun a => c a * q a)).sum
  | [] => by simp
  | a :: l => by
    simp only [List.map_cons, List.sum_cons]
    rw [sum_diff c p q l, Int.mul_sub]
    omega
theorem sum_cast {α : Type} (f : α → Nat) : ∀ l : List α, (((l.map f).sum : Nat) : Int) = (l.map (fun a => (f a : Int))).sum
  | [] => rfl
  | a :: l => by simp only [List.map_cons, List.sum_cons, Int.natCast_add, sum_cast f l]
theorem gI_bin : ∀ (ws : List Nat) (a w n : Nat), n ≤ 8 → a ≤ 6 → w ≤ 6 → ws.sum ≤ a → gI ws (a + w) n = ((List.range (n + 1)).map (fun f => ((bin n f * w ^ f : Nat) : Int) * gI ws a (n - f))).sum
  | [], a, w, n, hn, ha, hw, _ => by
    show (((a + w) ^ n : Nat) : Int) = _
    rw [Nat.add_comm, ← binom_fin w (by omega) a (by omega) n (by omega), sum_cast]
    rfl
  | v :: ws, a, w, n, hn, ha, hw, hs => by
    rw [List.sum_cons] at hs
    show gI ws (a + w) n - gI ws (a + w - v) n = _
    rw [show a + w - v = (a - v) + w by omega, gI_bin ws a w n hn ha hw (by omega), gI_bin ws (a - v) w n hn (by omega) hw (by omega), ← sum_diff]
    rfl
def nz (r : List Int) : Bool := decide (((zeros r : Nat) : Int) = 0)
theorem nz_cons (f : Nat) (r : List Int) : nz ((f : Int) :: r) = (decide (f ≠ 0) && nz r) := by
  unfold nz zeros
  rw [List.count_cons]
  by_cases hf : f = 0
  · subst hf; simp; omega
  · have : ((f : Int) == 0) = false := by simp; omega
    simp [this, hf]
theorem sum_nz : ∀ (ws : List Nat) (w n : Nat), n ≤ 8 → w + ws.sum ≤ 6 → ((sumB (w :: ws) nz (vec (ws.length + 1) n) : Nat) : Int) = gI (w :: ws) (w + ws.sum) n
  | [], w, n, hn, hs => by
    have e : sumB [w] nz (vec 1 n) = if n = 0 then 0 else w ^ n := by
      show ([[(n : Int)]].map (fun r => if nz r = true then chN [w] r else 0)).sum = _
      rw [List.map_singleton, List.sum_singleton, nz_cons, chN_one]
      by_cases h : n = 0 <;> simp [h, nz, zeros]
    show ((sumB [w] nz (vec 1 n) : Nat) : Int) = (((w + 0) ^ n : Nat) : Int) - (((w + 0 - w) ^ n : Nat) : Int)
    rw [e, Nat.add_zero, Nat.sub_self]
    by_cases h : n = 0
    · subst h; simp
    · rw [if_neg h, Nat.zero_pow (by omega)]; simp
  | v :: ws, w, n, hn, hs => by
    rw [List.sum_cons] at hs ⊢
    have e1 : sumB (w :: v :: ws) nz (vec (ws.length + 2) n) = ((List.range (n + 1)).map (fun f => bin n f * w ^ f * (if f = 0 then 0 else sumB (v :: ws) nz (vec (ws.length + 1) (n - f))))).sum := by
      show (((List.range (n + 1)).flatMap fun f => (vec (ws.length + 1) (n - f)).map fun r => (f : Int) :: r).map (fun r => if nz r = true then chN (w :: v :: ws) r else 0)).sum = _
      rw [sum_flat]
      congr 1
      refine map_congr_mem _ _ _ (fun f hf => ?_)
      have hf' : f ≤ n := by have := List.mem_range.1 hf; omega
      rw [List.map_map]
      by_cases h0 : f = 0
      · rw [if_pos h0, Nat.mul_zero]
        have : (vec (ws.length + 1) (n - f)).map ((fun r => if nz r = true then chN (w :: v :: ws) r else 0) ∘ fun r => (f : Int) :: r) = (vec (ws.length + 1) (n - f)).map (fun r => 0 * chN ws r) := by
          refine map_congr_mem _ _ _ (fun r hr => ?_)
          show (if nz ((f : Int) :: r) = true then _ else 0) = _
          rw [nz_cons, h0, if_neg (by simp), Nat.zero_mul]
        rw [this, sum_mulL, Nat.zero_mul]
      · rw [if_neg h0]
        unfold sumB
        rw [← sum_mulL]
        congr 1
        refine map_congr_mem _ _ _ (fun r hr => ?_)
        show (if nz ((f : Int) :: r) = true then chN (w :: v :: ws) ((f : Int) :: r) else 0) = _
        rw [nz_cons, chN_cons, (vec_mem _ _ r hr).2.2, show f + (n - f) = n by omega]
        simp only [h0, decide_true, Bool.true_and, ne_eq, not_false_eq_true]
        split
        · rfl
        · rw [Nat.mul_zero]
    have hb := gI_bin (v :: ws) (v + ws.sum) w n hn (by omega) (by omega) (by rw [List.sum_cons]; omega)
    show ((sumB (w :: v :: ws) nz (vec (ws.length + 2) n) : Nat) : Int) = gI (v :: ws) (w + (v + ws.sum)) n - gI (v :: ws) (w + (v + ws.sum) - w) n
    rw [show w + (v + ws.sum) - w = v + ws.sum by omega, Nat.add_comm w, hb, e1, sum_cast]
    have e2 : (List.range (n + 1)).map (fun f => ((bin n f * w ^ f * (if f = 0 then 0 else sumB (v :: ws) nz (vec (ws.length + 1) (n - f))) : Nat) : Int)) = (List.range (n + 1)).map (fun f => ((bin n f * w ^ f : Nat) : Int) * (if f = 0 then 0 else gI (v :: ws) (v + ws.sum) (n - f))) := by
      refine map_congr_mem _ _ _ (fun f hf => ?_)
      by_cases h0 : f = 0
      · rw [if_pos h0, if_pos h0, Nat.mul_zero, Int.mul_zero]; rfl
      · rw [if_neg h0, if_neg h0, Int.natCast_mul, sum_nz ws v (n - f) (by omega) (by omega)]
    rw [e2, List.range_succ_eq_map, List.map_cons, List.map_cons, List.sum_cons, List.sum_cons, List.map_map, List.map_map]
    have e3 : (List.range n).map ((fun f => ((bin n f * w ^ f : Nat) : Int) * (if f = 0 then 0 else gI (v :: ws) (v + ws.sum) (n - f))) ∘ Nat.succ) = (List.range n).map ((fun f => ((bin n f * w ^ f : Nat) : Int) * gI (v :: ws) (v + ws.sum) (n - f)) ∘ Nat.succ) := by
      refine map_congr_mem _ _ _ (fun f hf => ?_)
      simp
    rw [e3, if_pos rfl, bin_zero, Nat.pow_zero, Nat.sub_zero]
    simp
    omega
/-! ### weights -/
theorem sum_ones (l : List Int) (a : Int) : (l.map (fun v => if a == v then 1 else 0)).sum = l.count a := by
  induction l with
  | nil => rfl
  | cons b l ih =>
    rw [List.map_cons, List.sum_cons, ih, List.count_cons]
    have : (a == b) = (b == a) := by rw [Bool.eq_iff_iff, beq_iff_eq, beq_iff_eq]; exact ⟨Eq.symm, Eq.symm⟩
    rw [this, Nat.add_comm]
theorem sum_counts (l : List Int) : ∀ x : List Int, (∀ a ∈ x, l.count a = 1) → (l.map (fun v => x.count v)).sum = x.length
  | [], _ => by
    have : l.map (fun v => ([] : List Int).count v) = l.map (fun v => 0 * v.toNat) := by
      refine map_congr_mem _ _ _ (fun v _ => ?_); simp
    rw [this, sum_mulL, Nat.zero_mul]; rfl
  | a :: x, h => by
    have ih := sum_counts l x (fun b hb => h b (by simp [hb]))
    have h1 := h a (by simp)
    have key : ∀ l : List Int, (l.map (fun v => (a :: x).count v)).sum = (l.map (fun v => x.count v)).sum + (l.map (fun v => if a == v then 1 else 0)).sum := by
      intro l
      induction l with
      | nil => rfl
      | cons b l ih2 =>
        simp only [List.map_cons, List.sum_cons, ih2]
        rw [List.count_cons]; omega
    rw [key, ih, sum_ones, h1]; rfl
theorem dd_one : ∀ (x : Int) (l : List Int), (x :: l).Pairwise (· ≤ ·) → ∀ a ∈ x :: l, (dd (x :: l)).count a = 1
  | x, [], _, a, ha => by
    have : a = x := by simpa using ha
    subst this
    simp [dd]
  | x, y :: l, h, a, ha => by
    obtain ⟨h1, h2⟩ := List.pairwise_cons.1 h
    have ih := dd_one y l h2
    rw [dd_cons2]
    by_cases e : x = y
    · rw [if_pos e]
      refine ih a ?_
      rcases List.mem_cons.1 ha with rfl | ha
      · simp [e]
      · exact ha
    · rw [if_neg e, List.count_cons]
      have hxy : x < y := by have := h1 y (by simp); omega
      have hall : ∀ b ∈ y :: l, x < b := fun b hb => by
        rcases List.mem_cons.1 hb with rfl | hb
        · exact hxy
        · have := (List.pairwise_cons.1 h2).1 b hb; omega
      rcases List.mem_cons.1 ha with rfl | ha
      · have : (dd (y :: l)).count a = 0 := List.count_eq_zero.2 (fun hm => by
          have := hall a ((dd_mem _ _).1 hm); omega)
        rw [this]; simp
      · rw [ih a ha]
        have := hall a ha
        have : (x == a) = false := by simp; omega
        rw [this]; simp
theorem wsF_sum {x : List Int} (h : x.length = 6) (hd : p_impl_IsDie x = true) : (wsF x).sum = 6 := by
  have hs := sorted_of_IsDie h hd
  obtain ⟨a, b, c, d, e, f, rfl⟩ := len6 h
  have h0 := hs 0 (by simp)
  have h1 := hs 1 (by simp)
  have h2 := hs 2 (by simp)
  have h3 := hs 3 (by simp)
  have h4 := hs 4 (by simp)
  simp at h0 h1 h2 h3 h4
  refine sum_counts _ _ (dd_one _ _ ?_)
  simp
  omega
end Go.GA.E
