/- Plain law of FnBeats: pairs of faces counted. -/
import Derived.Test.YtedakmknjbjlbaaBK7
namespace Go.GA
open Go
set_option maxRecDepth 100000
/-- pairs of the kind k -/
def nK (k : Nat) (x y : List Int) : Nat := (x.map (fun a => y.countP (fun b => kOf a b == k))).sum
theorem gC_len (a b : Int) (s : List Int) : (gC a b s).length = s.length := by simp [gC]
theorem gC_getD {a b : Int} {s : List Int} (hl : s.length = 3) {k : Nat} (hb : 0 ≤ s.getD (kOf a b) 0) (hb2 : s.getD (kOf a b) 0 ≤ 1000000) : (gC a b s).getD k 0 = s.getD k 0 + if kOf a b = k then 1 else 0 := by
  unfold gC
  have h3 := kOf_lt a b
  rw [wr (by omega) (by omega)]
  by_cases h : kOf a b = k
  · subst h
    rw [if_pos rfl, List.getD_eq_getElem?_getD, List.getElem?_set_self (by omega)]
    rfl
  · rw [if_neg h, List.getD_eq_getElem?_getD, List.getElem?_set_ne h, ← List.getD_eq_getElem?_getD]; omega
theorem row_run (a : Int) (y : List Int) : ∀ (d i : Nat) (s : List Int), d + i = y.length → s.length = 3 → (∀ k, 0 ≤ s.getD k 0 ∧ s.getD k 0 + d ≤ 1000) →
    (iter (fun j s => gC a (y.getD j.toNat 0) s) d (i : Int) s).length = 3 ∧ ∀ k, (iter (fun j s => gC a (y.getD j.toNat 0) s) d (i : Int) s).getD k 0 = s.getD k 0 + (((y.drop i).countP (fun b => kOf a b == k) : Nat) : Int)
  | 0, i, s, h, hl, hb => by
    rw [List.drop_eq_nil_of_le (by omega)]
    exact ⟨hl, fun k => by simp [iter]⟩
  | d + 1, i, s, h, hl, hb => by
    have h1 : i < y.length := by omega
    have hg : ∀ k, (gC a (y.getD i 0) s).getD k 0 = s.getD k 0 + if kOf a (y.getD i 0) = k then 1 else 0 := fun k => gC_getD hl (hb _).1 (by have := (hb (kOf a (y.getD i 0))).2; omega)
    obtain ⟨r1, r2⟩ := row_run a y d (i + 1) (gC a (y.getD i 0) s) (by omega) (by rw [gC_len]; exact hl) (fun k => by
      rw [hg k]
      have := hb k
      split <;> omega)
    have e : iter (fun j s => gC a (y.getD j.toNat 0) s) (d + 1) (i : Int) s = iter (fun j s => gC a (y.getD j.toNat 0) s) d ((i + 1 : Nat) : Int) (gC a (y.getD i 0) s) := rfl
    rw [e]
    refine ⟨r1, fun k => ?_⟩
    rw [r2 k, hg k, List.drop_eq_getElem_cons h1, List.countP_cons]
    have eg : y.getD i 0 = y[i] := by rw [List.getD_eq_getElem?_getD, List.getElem?_eq_getElem h1]; rfl
    rw [eg]
    by_cases hk : kOf a y[i] = k
    · rw [if_pos hk, if_pos (by simpa using hk)]; omega
    · rw [if_neg hk, if_neg (by simpa using hk)]; omega
theorem outer_cmp (x : List Int) {y : List Int} (hy : y.length = 6) : ∀ (d i : Nat) (s : List Int), d + i = x.length → s.length = 3 → (∀ k, 0 ≤ s.getD k 0 ∧ s.getD k 0 + 6 * d ≤ 900) →
    (iter (fun i s => rowC x y i s) d (i : Int) s).length = 3 ∧ ∀ k, (iter (fun i s => rowC x y i s) d (i : Int) s).getD k 0 = s.getD k 0 + ((nK k (x.drop i) y : Nat) : Int)
  | 0, i, s, h, hl, hb => by
    rw [List.drop_eq_nil_of_le (by omega)]
    exact ⟨hl, fun k => by simp [iter, nK]⟩
  | d + 1, i, s, h, hl, hb => by
    have h1 : i < x.length := by omega
    obtain ⟨q1, q2⟩ := row_run (x.getD i 0) y 6 0 s (by omega) hl (fun k => by have := hb k; omega)
    have er : iter (fun j s => gC (x.getD i 0) (y.getD j.toNat 0) s) 6 ((0 : Nat) : Int) s = rowC x y (i : Int) s := rfl
    rw [er] at q1 q2
    obtain ⟨r1, r2⟩ := outer_cmp x hy d (i + 1) (rowC x y (i : Int) s) (by omega) q1 (fun k => by
      rw [q2 k]
      have := hb k
      have hc : List.countP (fun b => kOf (x.getD i 0) b == k) (List.drop 0 y) ≤ 6 := by
        rw [List.drop_zero, ← hy]; exact List.countP_le_length
      omega)
    have e : iter (fun i s => rowC x y i s) (d + 1) (i : Int) s = iter (fun i s => rowC x y i s) d ((i + 1 : Nat) : Int) (rowC x y (i : Int) s) := rfl
    rw [e]
    refine ⟨r1, fun k => ?_⟩
    rw [r2 k, q2 k, List.drop_eq_getElem_cons h1, List.drop_zero]
    have eg : x.getD i 0 = x[i] := by rw [List.getD_eq_getElem?_getD, List.getElem?_eq_getElem h1]; rfl
    rw [eg]
    simp only [nK, List.map_cons, List.sum_cons]
    omega
theorem rep3 (k : Nat) : (List.replicate 3 (0 : Int)).getD k 0 = 0 := by
  rw [List.getD_eq_getElem?_getD]
  by_cases h : k < 3
  · rw [List.getElem?_replicate_of_lt h]; rfl
  · rw [List.getElem?_eq_none (by simp; omega)]; rfl
theorem cmpL_get {x y : List Int} (hx : x.length = 6) (hy : y.length = 6) (k : Nat) : (cmpL x y).getD k 0 = ((nK k x y : Nat) : Int) := by
  have := (outer_cmp x hy 6 0 (List.replicate 3 0) (by omega) rfl (fun k => by rw [rep3]; omega)).2 k
  rw [rep3, List.drop_zero, Int.zero_add] at this
  exact this
theorem cp3 (a : Int) : ∀ (y : List Int), y.countP (fun b => kOf a b == 0) + y.countP (fun b => kOf a b == 1) + y.countP (fun b => kOf a b == 2) = y.length
  | [] => rfl
  | b :: y => by
    have := cp3 a y
    have h3 := kOf_lt a b
    simp only [List.countP_cons, List.length_cons]
    rcases (by omega : kOf a b = 0 ∨ kOf a b = 1 ∨ kOf a b = 2) with h | h | h <;> rw [h] <;> simp <;> omega
theorem nK_all (y : List Int) : ∀ (x : List Int), nK 0 x y + nK 1 x y + nK 2 x y = x.length * y.length
  | [] => by simp [nK]
  | a :: x => by
    have := nK_all y x
    have h := cp3 a y
    simp only [nK, List.map_cons, List.sum_cons, List.length_cons, Nat.add_mul] at this ⊢
    omega
/-- the kinds turned -/
theorem kOf_swap (a b : Int) : (kOf a b == 0) = (kOf b a == 2) := by
  unfold kOf
  by_cases h1 : b < a
  · rw [if_pos h1, if_neg (by omega), if_neg (by omega)]; rfl
  · rw [if_neg h1]
    by_cases h2 : a = b
    · subst h2; simp
    · rw [if_neg h2, if_pos (by omega)]; rfl
theorem nK_nil (k : Nat) : ∀ (x : List Int), nK k x [] = 0
  | [] => rfl
  | a :: x => by
    have := nK_nil k x
    simp only [nK, List.map_cons, List.sum_cons, List.countP_nil] at this ⊢
    omega
theorem nK_consR (k : Nat) (b : Int) (y : List Int) : ∀ (x : List Int), nK k x (b :: y) = x.countP (fun a => kOf a b == k) + nK k x y
  | [] => rfl
  | a :: x => by
    have := nK_consR k b y x
    simp only [nK, List.map_cons, List.sum_cons, List.countP_cons] at this ⊢
    omega
theorem nK_swap (x : List Int) : ∀ (y : List Int), nK 0 x y = nK 2 y x
  | [] => by rw [nK_nil]; rfl
  | b :: y => by
    have := nK_swap x y
    rw [nK_consR, this]
    have e : x.countP (fun a => kOf a b == 0) = x.countP (fun a => kOf b a == 2) := by
      congr 1; funext a; exact kOf_swap a b
    rw [e]
    simp only [nK, List.map_cons, List.sum_cons]
/-- x covers y -/
inductive Cov : List Int → List Int → Prop
  | nil : Cov [] []
  | cons {a b : Int} {x y : List Int} : b ≤ a → Cov x y → Cov (a :: x) (b :: y)
theorem kOf_zero (a b : Int) : (kOf a b == 0) = decide (b < a) := by
  unfold kOf
  by_cases h1 : b < a
  · rw [if_pos h1]; simp [h1]
  · rw [if_neg h1]
    by_cases h2 : a = b
    · rw [if_pos h2]; simp [h2]
    · rw [if_neg h2]; simp [h1]
theorem cov_row {a b : Int} (hab : b ≤ a) : ∀ {x y : List Int}, Cov x y → x.countP (fun c => kOf b c == 0) ≤ y.countP (fun c => kOf a c == 0)
  | _, _, .nil => Nat.le_refl _
  | _, _, .cons (a := c) (b := d) h r => by
    have := cov_row hab r
    simp only [List.countP_cons]
    by_cases h1 : (kOf b c == 0) = true
    · have h2 : (kOf a d == 0) = true := by
        rw [kOf_zero] at h1 ⊢
        simp only [decide_eq_true_eq] at h1 ⊢
        omega
      rw [if_pos h1, if_pos h2]; omega
    · rw [if_neg h1]; omega
theorem cov_nK {X Y : List Int} (hc : Cov X Y) : ∀ {x y : List Int}, Cov x y → nK 0 y X ≤ nK 0 x Y
  | _, _, .nil => Nat.le_refl _
  | _, _, .cons h r => by
    have := cov_nK hc r
    have h2 := cov_row h hc
    simp only [nK, List.map_cons, List.sum_cons] at this ⊢
    omega
theorem cover_of {x y : List Int} (hx : x.length = 6) (hy : y.length = 6) (h : (p_impl_DoesCover x y).1 = true) : Cov x y := by
  obtain ⟨a, b, c, d, e, f, rfl⟩ := len6 hx
  obtain ⟨a', b', c', d', e', f', rfl⟩ := len6 hy
  unfold p_impl_DoesCover at h
  split at h
  · cases h
  · have hf : ∀ {p : Prop} [Decidable p] {t : Bool × Bool}, (if p then (false, true) else t).1 = true → ¬ p ∧ t.1 = true := by
      intro p _ t ht
      by_cases hp : p
      · rw [if_pos hp] at ht; cases ht
      · rw [if_neg hp] at ht; exact ⟨hp, ht⟩
    simp only [show Int.toNat (6 - 0) = 6 from rfl, cnt] at h
    obtain ⟨h1, h⟩ := hf h
    obtain ⟨h2, h⟩ := hf h
    obtain ⟨h3, h⟩ := hf h
    obtain ⟨h4, h⟩ := hf h
    obtain ⟨h5, h⟩ := hf h
    obtain ⟨h6, h⟩ := hf h
    have g1 : ¬ a < a' := h1
    have g2 : ¬ b < b' := h2
    have g3 : ¬ c < c' := h3
    have g4 : ¬ d < d' := h4
    have g5 : ¬ e < e' := h5
    have g6 : ¬ f < f' := h6
    exact .cons (by omega) (.cons (by omega) (.cons (by omega) (.cons (by omega) (.cons (by omega) (.cons (by omega) .nil)))))
/-- what two dice of six faces answer to each other -/
theorem cmp_facts {x y : List Int} (hx : x.length = 6) (hy : y.length = 6) : (cmpL x y).getD 0 0 + (cmpL x y).getD 1 0 + (cmpL x y).getD 2 0 = 36 ∧ 0 ≤ (cmpL x y).getD 0 0 ∧ 0 ≤ (cmpL x y).getD 1 0 ∧ 0 ≤ (cmpL x y).getD 2 0 ∧ (cmpL y x).getD 0 0 = (cmpL x y).getD 2 0 ∧ (cmpL y x).getD 2 0 = (cmpL x y).getD 0 0 := by
  have h := nK_all y x
  have h1 := nK_swap x y
  have h2 := nK_swap y x
  rw [hx, hy] at h
  simp only [cmpL_get hx hy, cmpL_get hy hx]
  omega
theorem cover_beat {x y : List Int} (hx : x.length = 6) (hy : y.length = 6) (h : (p_impl_DoesCover x y).1 = true) : btB y x = false := by
  have hc := cover_of hx hy h
  have h1 := cov_nK hc hc
  have h2 := nK_swap x y
  unfold btB
  rw [cmpL_get hy hx, cmpL_get hy hx]
  simp
  omega
end Go.GA
