/- Plain law of WhichDie. -/
import Derived.Test.YtedakmknjbjlbaaUKs
namespace Go.GA.F
open Go
set_option maxRecDepth 100000
theorem lrun_congr_mem {α S R : Type} {F G : α → S → (S → R) → R} (k : S → R) : ∀ (xs : List α) (s : S), (∀ x ∈ xs, ∀ s c, F x s c = G x s c) → lrun F k xs s = lrun G k xs s
  | [], s, _ => rfl
  | x :: xs, s, h => by
    show F x s _ = G x s _
    rw [h x (by simp)]
    congr 1
    funext s'
    exact lrun_congr_mem k xs s' (fun y hy => h y (by simp [hy]))
theorem lrun_bad {α S R : Type} {F : α → S → (S → R) → R} {b : α → Bool} {G : α → S → S} {r : R} (k : S → R) (hb : ∀ x s c, b x = true → F x s c = r) (hg : ∀ x s c, b x = false → F x s c = c (G x s)) : ∀ (xs : List α) (s : S), xs.any b = true → lrun F k xs s = r
  | [], s, h => by simp at h
  | x :: xs, s, h => by
    show F x s _ = r
    cases hx : b x with
    | true => exact hb x s _ hx
    | false =>
      rw [hg x s _ hx]
      exact lrun_bad k hb hg xs _ (by simpa [hx] using h)
theorem getD_range {n i : Nat} (h : i < n) : (List.range n).getD i 0 = i := by
  rw [List.getD_eq_getElem?_getD, List.getElem?_eq_getElem (by simpa using h)]; simp
theorem likely_eq (x y : List Int) : p_spec_l11Likely x y = p_impl_faces x y := by
  unfold p_spec_l11Likely p_impl_faces
  refine cnt_congr (fun i s c => ?_) _ _ _
  rw [weight_eq]
theorem seen_eq (x : List Int) : p_spec_l11Rolls x = p_impl_areSeen x := by
  unfold p_impl_areSeen
  rw [areAll_eq, rolls_loop]; rfl
theorem areW_eq (x : List Int) : p_impl_areAll_intv2 x = x.all (fun a => p_spec_l1In a 0 99) := by
  unfold p_impl_areAll_intv2 p_slices_ContainsFunc_int_intv2 p_slices_IndexFunc_int_intv2
  rw [noneFunc p_impl_areAll_int_1v2]
  congr 1
  funext a
  simp [p_impl_areAll_int_1v2, p_impl_WhichDie_1, within_In]
theorem faces_b {x y : List Int} (h : y.length ≤ 12) : ∃ v : Nat, p_impl_faces x y = (v : Int) ∧ v ≤ 6 ^ 12 := by
  unfold p_impl_faces
  refine cnt_ind0 y.length (fun i s => ∃ v : Nat, s = (v : Int) ∧ v ≤ 6 ^ i) (fun r => ∃ v : Nat, r = (v : Int) ∧ v ≤ 6 ^ 12) (by omega) ⟨1, rfl, by simp⟩ (fun s ⟨v, e, hb⟩ => ⟨v, e, Nat.le_trans hb (Nat.pow_le_pow_right (by omega) h)⟩) (fun i s c hi ⟨v, e, hb⟩ hk => ?_)
  subst e
  obtain ⟨m, hm, hm6⟩ := weight_b (x := x) (y.getD (i : Int).toNat 0)
  rw [hm]
  have e1 : v * m ≤ 6 ^ (i + 1) := by rw [Nat.pow_succ]; exact Nat.mul_le_mul hb hm6
  have e2 : (6 : Nat) ^ (i + 1) ≤ 6 ^ 12 := Nat.pow_le_pow_right (by omega) (by omega)
  have e4 : (6 : Nat) ^ 12 = 2176782336 := by decide
  refine hk _ ⟨v * m, ?_, e1⟩
  rw [← Int.natCast_mul]
  exact wrap_nat (by omega)
theorem wsum_natM (M : Nat) : ∀ (l : List Int) (n : Nat), (∀ v ∈ l, ∃ n : Nat, v = (n : Int) ∧ n ≤ M) → n + M * l.length ≤ 4611686018427387904 → wsum (n : Int) l = ((n + (l.map Int.toNat).sum : Nat) : Int) ∧ (l.map Int.toNat).sum ≤ M * l.length
  | [], n, _, _ => by simp [wsum]
  | v :: l, n, h, hb => by
    obtain ⟨m, rfl, hm⟩ := h v (by simp)
    simp only [List.length_cons, Nat.mul_succ] at hb ⊢
    obtain ⟨h1, h2⟩ := wsum_natM M l (n + m) (fun v hv => h v (by simp [hv])) (by omega)
    refine ⟨?_, by simp only [List.map_cons, List.sum_cons, Int.toNat_natCast]; omega⟩
    simp only [wsum, List.foldl_cons] at h1 ⊢
    rw [wrap_i64 (by omega) (by omega)]
    rw [show (n : Int) + (m : Int) = ((n + m : Nat) : Int) from rfl, h1]
    simp; omega
/-- the ways of the i-th die -/
def wayT (p : List (List Int)) (w r : List Int) (i : Nat) : Int := IntKind.wrap .i64 (w.getD i 0 * p_impl_faces (p.getD i (List.replicate 6 0)) r)
theorem wayT_b {p : List (List Int)} {w r : List Int} {i : Nat} (hi : i < w.length) (hw : w.all (fun a => p_spec_l1In a 0 99) = true) (hr : r.length ≤ 12) : ∃ n : Nat, wayT p w r i = (n : Int) ∧ n ≤ 215501451264 := by
  obtain ⟨v, hv, hb⟩ := faces_b (x := p.getD i (List.replicate 6 0)) hr
  have hm : w.getD i 0 ∈ w := by rw [List.getD_eq_getElem?_getD, List.getElem?_eq_getElem hi]; exact List.getElem_mem _
  have := List.all_eq_true.1 hw _ hm
  simp only [l1In_eq, decide_eq_true_eq] at this
  obtain ⟨n, hn⟩ : ∃ n : Nat, w.getD i 0 = (n : Int) := ⟨(w.getD i 0).toNat, by omega⟩
  have hn99 : n ≤ 99 := by omega
  have e4 : (6 : Nat) ^ 12 = 2176782336 := by decide
  have hb2 : n * v ≤ 99 * 2176782336 := Nat.mul_le_mul hn99 (by omega)
  have hb3 : n * v ≤ 215501451264 := Nat.le_trans hb2 (by decide)
  refine ⟨n * v, ?_, hb3⟩
  unfold wayT
  rw [hn, hv, ← Int.natCast_mul]
  exact wrap_nat (Nat.le_trans hb3 (by decide))
/-- the list of the chances -/
def chL (p : List (List Int)) (w r : List Int) (S : Nat) (n : Nat) : List (List Int) := (List.range n).map fun j => cutF (wayT p w r j).toNat S
theorem chL_succ (p : List (List Int)) (w r : List Int) (S n : Nat) : chL p w r S (n + 1) = chL p w r S n ++ [cutF (wayT p w r n).toNat S] := by
  simp [chL, List.range_succ]
theorem chL_len (p : List (List Int)) (w r : List Int) (S n : Nat) : (chL p w r S n).length = n := by simp [chL]
def waysL (p : List (List Int)) (w r : List Int) (n : Nat) : List Int := (List.range n).map (wayT p w r)
theorem waysL_succ (p : List (List Int)) (w r : List Int) (n : Nat) : waysL p w r (n + 1) = waysL p w r n ++ [wayT p w r n] := by
  simp [waysL, List.range_succ]
theorem waysL_len (p : List (List Int)) (w r : List Int) (n : Nat) : (waysL p w r n).length = n := by simp [waysL]
theorem waysL_get (p : List (List Int)) (w r : List Int) {n i : Nat} (h : i < n) : (waysL p w r n).getD i 0 = wayT p w r i := by
  rw [List.getD_eq_getElem?_getD, List.getElem?_eq_getElem (by rw [waysL_len]; exact h)]
  simp [waysL]
theorem ch_run {p : List (List Int)} {w r : List Int} {n S : Nat} {fu : Nat} (hn : n ≤ 4) (hS : 0 < S) (hS2 : S ≤ 9223372036854775807) (hb : ∀ i, i < n → ∃ m : Nat, wayT p w r i = (m : Int) ∧ m ≤ 9223372036854775807) (hf : S < fu) : ∀ (d i fu' : Nat), d + i = n → d < fu' →
    whl (fun (s55 : Int × (List (List Int))) c57 => (if s55.1 < ((waysL p w r n).length : Int) then if 0 ≤ s55.1 then (p_impl_fraction fu ((waysL p w r n).getD s55.1.toNat 0) (S : Int)).bind (fun r63 => if (s55.2.length : Int) + 1 ≤ 1000000000 then c57 ((IntKind.wrap .i64 (s55.1 + 1)), (s55.2 ++ [r63])) else none) else none else some (s55.2, true))) fu' ((i : Int), chL p w r S i) = some (chL p w r S n, true) := by
  intro d
  induction d with
  | zero =>
    intro i fu' h hfu
    obtain ⟨f, rfl⟩ : ∃ f, fu' = f + 1 := ⟨fu' - 1, by omega⟩
    simp only [whl]
    rw [if_neg (by rw [waysL_len]; omega), show i = n by omega]
  | succ d ih =>
    intro i fu' h hfu
    obtain ⟨f, rfl⟩ : ∃ f, fu' = f + 1 := ⟨fu' - 1, by omega⟩
    obtain ⟨m, hm, hmb⟩ := hb i (by omega)
    simp only [whl]
    rw [if_pos (by rw [waysL_len]; omega), if_pos (by omega), Int.toNat_natCast, waysL_get p w r (by omega), hm, fraction_eq m S hmb hS2 (by omega) hf]
    rw [Option.bind_some]
    rw [if_pos (by rw [chL_len]; omega), wrap_i64 (by omega) (by omega)]
    have e : chL p w r S i ++ [cutF m S] = chL p w r S (i + 1) := by rw [chL_succ, hm]; rfl
    rw [e]
    exact ih (i + 1) f (by omega) (by omega)
end Go.GA.F
