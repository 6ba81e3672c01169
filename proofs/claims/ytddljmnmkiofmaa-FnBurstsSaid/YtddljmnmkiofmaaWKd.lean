/- Plain law of FnBursts: all numbers, both ways. -/
import Derived.Test.YtddljmnmkiofmaaWKc
namespace Go.GA.E
open Go
set_option maxRecDepth 100000
/-! ### weights of a die -/
def wsF (x : List Int) : List Nat := (dd x).map (fun v => x.count v)
theorem wsF_len (x : List Int) : (wsF x).length = (dd x).length := by simp [wsF]
theorem sum_ones (l : List Int) (a : Int) : (l.map (fun v => if a == v then 1 else 0)).sum = l.count a := by
  induction l with
  | nil => rfl
  | cons b l ih =>
    rw [List.map_cons, List.sum_cons, ih, List.count_cons]
    have : (a == b) = (b == a) := by rw [Bool.eq_iff_iff, beq_iff_eq, beq_iff_eq]; exact ⟨Eq.symm, Eq.symm⟩
    rw [this, Nat.add_comm]
theorem sum_zeros {α : Type} : ∀ l : List α, (l.map (fun _ => 0)).sum = 0
  | [] => rfl
  | a :: l => by simp only [List.map_cons, List.sum_cons, sum_zeros l]
theorem sum_counts (l : List Int) : ∀ x : List Int, (∀ a ∈ x, l.count a = 1) → (l.map (fun v => x.count v)).sum = x.length
  | [], _ => by
    have : l.map (fun v => ([] : List Int).count v) = l.map (fun _ => 0) := List.map_congr_left (fun v _ => by simp)
    rw [this, sum_zeros]; rfl
  | a :: x, h => by
    have ih := sum_counts l x (fun b hb => h b (by simp [hb]))
    have h1 := h a (by simp)
    have key : ∀ l : List Int, (l.map (fun v => (a :: x).count v)).sum = (l.map (fun v => x.count v)).sum + (l.map (fun v => if a == v then 1 else 0)).sum := by
      intro l
      induction l with
      | nil => rfl
      | cons b l ih2 =>
        simp only [List.map_cons, List.sum_cons, ih2]
        rw [List.count_cons]; omega
    rw [key, ih, sum_ones, h1]; rfl
theorem dd_one : ∀ (x : Int) (l : List Int), (x :: l).Pairwise (· ≤ ·) → ∀ a ∈ x :: l, (dd (x :: l)).count a = 1
  | x, [], _, a, ha => by
    have : a = x := by simpa using ha
    subst this
    simp [dd]
  | x, y :: l, h, a, ha => by
    obtain ⟨h1, h2⟩ := List.pairwise_cons.1 h
    have ih := dd_one y l h2
    rw [dd_cons2]
    by_cases e : x = y
    · rw [if_pos e]
      refine ih a ?_
      rcases List.mem_cons.1 ha with rfl | ha
      · simp [e]
      · exact ha
    · rw [if_neg e, List.count_cons]
      have hxy : x < y := by have := h1 y (by simp); omega
      have hall : ∀ b ∈ y :: l, x < b := fun b hb => by
        rcases List.mem_cons.1 hb with rfl | hb
        · exact hxy
        · have := (List.pairwise_cons.1 h2).1 b hb; omega
      rcases List.mem_cons.1 ha with rfl | ha
      · have : (dd (y :: l)).count a = 0 := List.count_eq_zero.2 (fun hm => by
          have := hall a ((dd_mem _ _).1 hm); omega)
        rw [this]; simp
      · rw [ih a ha]
        have := hall a ha
        have : (x == a) = false := by simp; omega
        rw [this]; simp
section
variable {x : List Int}
theorem die_pw (h : x.length = 6) (hd : p_impl_IsDie x = true) : x.Pairwise (· ≤ ·) := by
  have hs := sorted_of_IsDie h hd
  obtain ⟨a, b, c, d, e, f, rfl⟩ := len6 h
  have h0 := hs 0 (by simp)
  have h1 := hs 1 (by simp)
  have h2 := hs 2 (by simp)
  have h3 := hs 3 (by simp)
  have h4 := hs 4 (by simp)
  simp at h0 h1 h2 h3 h4
  simp
  omega
theorem one_each (h : x.length = 6) (hd : p_impl_IsDie x = true) : ∀ a ∈ x, (dd x).count a = 1 := by
  have hp := die_pw h hd
  cases x with
  | nil => simp at h
  | cons a l => exact dd_one a l hp
theorem wsF_sum (h : x.length = 6) (hd : p_impl_IsDie x = true) : (wsF x).sum = 6 := by
  rw [← h]
  exact sum_counts _ _ (one_each h hd)
theorem wsF_pos : ∀ w ∈ wsF x, 1 ≤ w := fun w hw => by
  obtain ⟨v, hv, rfl⟩ := List.mem_map.1 hw
  exact List.count_pos_iff.2 ((dd_mem x v).1 hv)
end
/-! ### all ways to part 6 -/
def comps : Nat → Nat → List (List Nat)
  | _, 0 => [[]]
  | 0, _ + 1 => []
  | f + 1, n + 1 => (List.range (n + 1)).flatMap (fun k => (comps f (n - k)).map (fun r => (k + 1) :: r))
theorem comps_mem : ∀ (ws : List Nat) (f : Nat), (∀ w ∈ ws, 1 ≤ w) → ws.length ≤ f → ws ∈ comps f ws.sum
  | [], f, _, _ => by cases f <;> simp [comps]
  | w :: ws, f, h, hl => by
    have hw := h w (by simp)
    simp only [List.length_cons] at hl
    obtain ⟨g, rfl⟩ : ∃ g, f = g + 1 := ⟨f - 1, by omega⟩
    obtain ⟨k, rfl⟩ : ∃ k, w = k + 1 := ⟨w - 1, by omega⟩
    have ih := comps_mem ws g (fun v hv => h v (by simp [hv])) (by omega)
    rw [List.sum_cons, show k + 1 + ws.sum = (k + ws.sum) + 1 by omega]
    show _ ∈ (List.range (k + ws.sum + 1)).flatMap (fun j => (comps g (k + ws.sum - j)).map (fun r => (j + 1) :: r))
    rw [List.mem_flatMap]
    refine ⟨k, List.mem_range.2 (by omega), List.mem_map.2 ⟨ws, ?_, rfl⟩⟩
    rw [show k + ws.sum - k = ws.sum by omega]
    exact ih
/-! ### sets of numbers -/
def FB : List Nat → Nat → Nat × Int → Nat × Int
  | [], _, s => s
  | w :: ws, S, s => FB ws (S / 2) (if S % 2 = 1 then (s.1 + w, -s.2) else s)
theorem FB_snoc (w : Nat) : ∀ (l : List Nat) (S : Nat) (s : Nat × Int), FB (l ++ [w]) S s = if (S / 2 ^ l.length) % 2 = 1 then ((FB l S s).1 + w, -(FB l S s).2) else FB l S s
  | [], S, s => by
    show FB [] (S / 2) (if S % 2 = 1 then (s.1 + w, -s.2) else s) = _
    simp only [FB, List.length_nil, Nat.pow_zero, Nat.div_one]
  | v :: l, S, s => by
    show FB (l ++ [w]) (S / 2) _ = _
    rw [FB_snoc w l, Nat.div_div_eq_div_mul, List.length_cons, Nat.pow_succ, Nat.mul_comm 2]
    rfl
theorem FB_b : ∀ (l : List Nat) (S : Nat) (s : Nat × Int), (FB l S s).1 ≤ s.1 + l.sum ∧ s.1 ≤ (FB l S s).1 ∧ ((FB l S s).2 = s.2 ∨ (FB l S s).2 = -s.2)
  | [], S, s => ⟨Nat.le_refl _, Nat.le_refl _, .inl rfl⟩
  | w :: l, S, s => by
    rw [List.sum_cons]
    have e0 : FB (w :: l) S s = FB l (S / 2) (if S % 2 = 1 then (s.1 + w, -s.2) else s) := rfl
    rw [e0]
    by_cases h : S % 2 = 1
    · rw [if_pos h]
      obtain ⟨h1, h3, h2⟩ := FB_b l (S / 2) (s.1 + w, -s.2)
      simp only at h1 h2 h3
      refine ⟨by omega, by omega, ?_⟩
      rcases h2 with e | e
      · exact .inr e
      · exact .inl (by rw [e, Int.neg_neg])
    · rw [if_neg h]
      obtain ⟨h1, h3, h2⟩ := FB_b l (S / 2) s
      exact ⟨by omega, h3, h2⟩
theorem FB_pos : ∀ (l : List Nat) (S : Nat) (s : Nat × Int), (∀ w ∈ l, 1 ≤ w) → 0 < S → S < 2 ^ l.length → s.1 < (FB l S s).1
  | [], S, s, _, h0, h1 => by simp at h1; omega
  | w :: l, S, s, hw, h0, h1 => by
    have e0 : FB (w :: l) S s = FB l (S / 2) (if S % 2 = 1 then (s.1 + w, -s.2) else s) := rfl
    rw [e0]
    have h := hw w (by simp)
    rw [List.length_cons, Nat.pow_succ] at h1
    by_cases hb : S % 2 = 1
    · rw [if_pos hb]
      have := (FB_b l (S / 2) (s.1 + w, -s.2)).2.1
      simp only at this
      omega
    · rw [if_neg hb]
      exact FB_pos l (S / 2) s (fun v hv => hw v (by simp [hv])) (by omega) (by omega)
theorem FB_zero : ∀ (l : List Nat) (s : Nat × Int), FB l 0 s = s
  | [], s => rfl
  | w :: l, s => by
    have e0 : FB (w :: l) 0 s = FB l (0 / 2) (if 0 % 2 = 1 then (s.1 + w, -s.2) else s) := rfl
    rw [e0, if_neg (by omega), Nat.zero_div, FB_zero l]
def sumI (h : Nat → Int) : Nat → Int
  | 0 => 0
  | k + 1 => sumI h k + h k
def G (n : Nat) (s : Nat × Int) : Int := s.2 * (((6 - s.1) ^ n : Nat) : Int)
/-- throws that bring all numbers -/
def allW (ws : List Nat) (n : Nat) : Int := sumI (fun S => G n (FB ws S (0, 1))) (2 ^ ws.length)
/-- the mean wait for all, in parts of 60 -/
def M1 (s : Nat × Int) : Int := if 0 < s.1 then -(s.2 * 6 * ((60 / s.1 : Nat) : Int)) else 0
def meanW (ws : List Nat) : Int := sumI (fun S => M1 (FB ws S (0, 1))) (2 ^ ws.length)
theorem fin_all : ∀ ws ∈ comps 6 6, ∀ n < 13, 0 ≤ allW ws n ∧ allW ws n ≤ ((6 ^ n : Nat) : Int) ∧ 6 * allW ws n ≤ allW ws (n + 1) := by decide +kernel
theorem fin_mean : ∀ ws ∈ comps 6 6, 60 * (ws.length : Int) ≤ meanW ws ∧ meanW ws ≤ 6000 := by decide +kernel
theorem bit_fin : ∀ S < 64, ∀ i < 6, (andI .i64 (shrI .i64 ((S : Nat) : Int) ((i : Nat) : Int)) 1 = 1) = ((S / 2 ^ i) % 2 = 1) := by decide +kernel
theorem shl_fin : ∀ m < 7, shlI .i64 1 ((m : Nat) : Int) = ((2 ^ m : Nat) : Int) := by decide +kernel
theorem div_fin : ∀ w < 7, 0 < w → (IntKind.wrap .i64 ((360 : Int))).tdiv ((w : Nat) : Int) = 6 * ((60 / w : Nat) : Int) ∧ (IntKind.wrap .i64 ((-360 : Int))).tdiv ((w : Nat) : Int) = -(6 * ((60 / w : Nat) : Int)) ∧ (60 : Int).tdiv ((w : Nat) : Int) = ((60 / w : Nat) : Int) := by decide +kernel
end Go.GA.E
