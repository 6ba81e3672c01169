/- Plain law of FnRuns: all rolls. -/
import Derived.Test.YtheplbbbfbbjcaaRK7
namespace Go.GA
open Go
set_option maxRecDepth 100000
set_option linter.unusedSectionVars false
def nw (d : List Int) (G : Nat) : Nat → List Int
  | 0 => (List.replicate G 0).set 0 1
  | k + 1 => (stL d G (nw d G k) G).2
def wy (d : List Int) (G k : Nat) : Int := (stL d G (nw d G k) G).1
/-- of 6 to the power of k, those that are there -/
def ms (d : List Int) (G : Nat) : Nat → Int
  | 0 => 0
  | k + 1 => 6 * ms d G k + wy d G k
def outI (d : List Int) (G : Nat) : Nat → List Int
  | 0 => []
  | k + 1 => outI d G k ++ [wy d G k * ((6 ^ (G - 1 - k) : Nat) : Int)]
def outS (d : List Int) (G : Nat) : Nat → List Int
  | 0 => [0]
  | k + 1 => outS d G k ++ [wy d G k]
section
variable {d : List Int} (hd : Run6 d) {G : Nat} (h1 : 1 ≤ G) (hG : G ≤ 8)
include hd h1 hG
theorem nw_ok : ∀ k, NN (nw d G k) ∧ (nw d G k).length = G ∧ (nw d G k).sum + ms d G k = ((6 ^ k : Nat) : Int) ∧ 0 ≤ ms d G k ∧ ∀ j, j < k → (nw d G k).getD j 0 = 0
  | 0 => by
    have hs : ((List.replicate G (0 : Int)).set 0 1).sum = 1 := by
      rw [sum_set _ 0 1 (by simp; omega), repSum, repN]; rfl
    refine ⟨fun j => ?_, by simp [nw], by simp only [nw, ms, hs]; rfl, by simp [ms], fun j hj => by omega⟩
    simp only [nw]
    by_cases h : j = 0
    · subst h; rw [List.getD_eq_getElem?_getD, List.getElem?_set_self (by simp; omega)]; decide
    · rw [List.getD_eq_getElem?_getD, List.getElem?_set_ne (Ne.symm h), ← List.getD_eq_getElem?_getD, repN]; exact Int.le_refl _
  | k + 1 => by
    obtain ⟨a1, a2, a3, a4, a5⟩ := nw_ok k
    obtain ⟨b1, b2⟩ := stL_ok hd (G := G) a1 G
    rw [tk_all a2] at b2
    refine ⟨b1.nn, b1.len, ?_, ?_, fun j hj => stL_zero hd a1 a5 G j (by omega)⟩
    · simp only [nw, ms, wy]
      rw [Nat.pow_succ]
      omega
    · have := b1.ge
      simp only [ms, wy]; omega
theorem nw_sum_le (k : Nat) : (nw d G k).sum ≤ ((6 ^ k : Nat) : Int) := by
  obtain ⟨_, _, a3, a4, _⟩ := nw_ok hd h1 hG k
  omega
theorem wy_le (k : Nat) : 0 ≤ wy d G k ∧ wy d G k ≤ ((6 ^ (k + 1) : Nat) : Int) := by
  obtain ⟨a1, a2, a3, a4, _⟩ := nw_ok hd h1 hG k
  obtain ⟨b1, b2⟩ := stL_ok hd (G := G) a1 G
  rw [tk_all a2] at b2
  have := sum_nn b1.nn
  have := b1.ge
  rw [Nat.pow_succ]
  unfold wy
  omega
theorem pow_le8 {k : Nat} (hk : k ≤ 8) : 6 ^ k ≤ 1679616 ∧ 0 < 6 ^ k := by
  have h2 : 6 ^ k ≤ 6 ^ 8 := Nat.pow_le_pow_right (by omega) (by omega)
  have h3 : (6 : Nat) ^ 8 = 1679616 := rfl
  exact ⟨by omega, Nat.pow_pos (by omega)⟩
theorem way_le {k : Nat} (hk : k < G) : 0 ≤ wy d G k * ((6 ^ (G - 1 - k) : Nat) : Int) ∧ wy d G k * ((6 ^ (G - 1 - k) : Nat) : Int) ≤ 1679616 := by
  have h := wy_le hd h1 hG k
  refine ⟨Int.mul_nonneg h.1 (Int.natCast_nonneg _), ?_⟩
  have h2 : wy d G k * ((6 ^ (G - 1 - k) : Nat) : Int) ≤ ((6 ^ (k + 1) : Nat) : Int) * ((6 ^ (G - 1 - k) : Nat) : Int) := Int.mul_le_mul_of_nonneg_right h.2 (Int.natCast_nonneg _)
  rw [← Int.natCast_mul, ← Nat.pow_add, show k + 1 + (G - 1 - k) = G by omega] at h2
  have := (pow_le8 hd h1 hG (k := G) (by omega)).1
  omega
theorem outI_ok : ∀ k, k ≤ G → (outI d G k).length = k ∧ (∀ a ∈ outI d G k, 0 ≤ a ∧ a ≤ 1679616) ∧ (outI d G k).sum = ms d G k * ((6 ^ (G - k) : Nat) : Int) ∧ ∀ j, j < k → (outI d G k).getD j 0 = wy d G j * ((6 ^ (G - 1 - j) : Nat) : Int)
  | 0, _ => ⟨rfl, (fun a ha => by cases ha), by simp [outI, ms], fun j hj => by omega⟩
  | k + 1, hk => by
    obtain ⟨a1, a2, a3, a4⟩ := outI_ok k (by omega)
    have hw := way_le hd h1 hG (k := k) (by omega)
    refine ⟨by simp [outI, a1], fun a ha => ?_, ?_, fun j hj => ?_⟩
    · simp only [outI] at ha
      rcases List.mem_append.1 ha with h | h
      · exact a2 a h
      · have e : a = wy d G k * ((6 ^ (G - 1 - k) : Nat) : Int) := by simpa using h
        rw [e]; exact hw
    · simp only [outI, ms]
      rw [List.sum_append, a3]
      have e : G - k = (G - (k + 1)) + 1 := by omega
      have e2 : G - 1 - k = G - (k + 1) := by omega
      rw [e, e2, Nat.pow_succ, Int.natCast_mul]
      simp only [List.sum_cons, List.sum_nil]
      grind
    · simp only [outI]
      by_cases h : j = k
      · subst h
        rw [List.getD_eq_getElem?_getD, List.getElem?_append_right (by omega), a1, Nat.sub_self]
        rfl
      · rw [List.getD_eq_getElem?_getD, List.getElem?_append_left (by omega), ← List.getD_eq_getElem?_getD]
        exact a4 j (by omega)
theorem outS_ok : ∀ k, k ≤ G → (outS d G k).length = k + 1 ∧ ∀ j, j < k → (outS d G k).getD (j + 1) 0 = wy d G j
  | 0, _ => ⟨rfl, fun j hj => by omega⟩
  | k + 1, hk => by
    obtain ⟨a1, a2⟩ := outS_ok k (by omega)
    refine ⟨by simp [outS, a1], fun j hj => ?_⟩
    simp only [outS]
    by_cases h : j = k
    · subst h
      rw [List.getD_eq_getElem?_getD, List.getElem?_append_right (by omega), a1, Nat.sub_self]
      rfl
    · rw [List.getD_eq_getElem?_getD, List.getElem?_append_left (by omega), ← List.getD_eq_getElem?_getD]
      exact a2 j (by omega)
theorem sum_zero : ∀ (l : List Int), (∀ j, j < l.length → l.getD j 0 = 0) → l.sum = 0
  | [], _ => rfl
  | a :: l, h => by
    have h0 := h 0 (by simp)
    have := sum_zero l (fun j hj => h (j + 1) (by simp; omega))
    simp only [List.getD_cons_zero] at h0
    rw [List.sum_cons, h0, this]; rfl
/-- all of them are there at the end -/
theorem outI_sum : (outI d G G).sum = ((6 ^ G : Nat) : Int) := by
  obtain ⟨a1, a2, a3, a4, a5⟩ := nw_ok hd h1 hG G
  have hz : (nw d G G).sum = 0 := sum_zero hd h1 hG _ (fun j hj => a5 j (by omega))
  have e := (outI_ok hd h1 hG G (Nat.le_refl _)).2.2.1
  have e1 : ((6 ^ 0 : Nat) : Int) = 1 := rfl
  rw [Nat.sub_self, e1] at e
  rw [e, ← a3, hz]
  omega
theorem runs_eq {fu : Nat} (hf : 64 ≤ fu) : p_impl_runs fu d (G : Int) = some (outI d G G) := by
  unfold p_impl_runs
  rw [if_pos (by omega), if_pos (by omega), if_pos (by omega), Int.toNat_natCast]
  suffices hh : ∀ (n k : Nat), k ≤ G → G - k < n → whl (fun (s4 : Int × (List Int) × (List Int)) c6 => (if s4.1 ≤ (G : Int) then cnt (fun i12 (s11 : Int × (List Int)) c13 _ => cnt (fun i19 (s18 : Int × (List Int)) c20 _ => (if (G : Int) ≤ (IntKind.wrap .i64 (i12 + (d.getD i19.toNat 0))) then c20 ((IntKind.wrap .i64 (s18.1 + (s4.2.1.getD i12.toNat 0))), s18.2) else if 0 ≤ (IntKind.wrap .i64 (i12 + (d.getD i19.toNat 0))) then c20 (s18.1, (s18.2.set (IntKind.wrap .i64 (i12 + (d.getD i19.toNat 0))).toNat (IntKind.wrap .i64 ((s18.2.getD (IntKind.wrap .i64 (i12 + (d.getD i19.toNat 0))).toNat 0) + (s4.2.1.getD i12.toNat 0))))) else none)) (fun i19 (s18 : Int × (List Int)) => c13 (s18.1, s18.2)) (Int.toNat (6 - 0)) 0 (s11.1, s11.2)) (fun i12 (s11 : Int × (List Int)) => (p_impl_power fu ((G : Int) - s4.1)).bind (fun r29 => if (s4.2.2.length : Int) + 1 ≤ 1000000000 then c6 ((s4.1 + 1), s11.2, (s4.2.2 ++ [(IntKind.wrap .i64 (s11.1 * r29))])) else none)) (Int.toNat ((G : Int) - 0)) 0 (0, (List.replicate G 0)) else some s4.2.2)) n (((k : Nat) : Int) + 1, nw d G k, outI d G k) = some (outI d G G) by
    exact hh fu 0 (by omega) (by omega)
  intro n
  induction n with
  | zero => intro k _ h; omega
  | succ n ih =>
    intro k hk hn
    simp only [whl]
    by_cases hc : k < G
    · rw [if_pos (by omega)]
      obtain ⟨a1, a2, _⟩ := nw_ok hd h1 hG k
      have hs := nw_sum_le hd h1 hG k
      have hp := pow_le8 hd h1 hG (k := k) (by omega)
      have hw := way_le hd h1 hG (k := k) hc
      have hl := (outI_ok hd h1 hG k hk).1
      refine Eq.trans (roll_run hd hG a1 a2 (by omega) (fun s11 => (p_impl_power fu ((G : Int) - (((k : Nat) : Int) + 1))).bind (fun r29 => if ((outI d G k).length : Int) + 1 ≤ 1000000000 then whl _ n (((k : Int) + 1 + 1), s11.2, (outI d G k ++ [(IntKind.wrap .i64 (s11.1 * r29))])) else none))) ?_
      rw [show (G : Int) - (((k : Nat) : Int) + 1) = ((G - 1 - k : Nat) : Int) by omega, power_eq (by omega) (by omega), Option.bind_some, if_pos (by omega)]
      have e : (stL d G (nw d G k) G).1 * ((6 ^ (G - 1 - k) : Nat) : Int) = wy d G k * ((6 ^ (G - 1 - k) : Nat) : Int) := rfl
      rw [e, wr (by omega) (by omega)]
      exact ih (k + 1) (by omega) (by omega)
    · have hkG : k = G := by omega
      rw [if_neg (by omega), hkG]
theorem runS_eq {fu : Nat} (hf : 64 ≤ fu) : p_spec_l7Run fu d (G : Int) = some (outS d G G) := by
  unfold p_spec_l7Run
  rw [if_pos (by omega), if_pos (by omega), if_pos (by omega), Int.toNat_natCast]
  suffices hh : ∀ (n k : Nat), k ≤ G → G - k < n → whl (fun (s4 : Int × (List Int) × (List Int)) c6 => (if s4.1 ≤ (G : Int) then cnt (fun i12 (s11 : Int × (List Int)) c13 _ => cnt (fun i19 (s18 : Int × (List Int)) c20 _ => (if (IntKind.wrap .i64 (i12 + (d.getD i19.toNat 0))) < (G : Int) then if 0 ≤ (IntKind.wrap .i64 (i12 + (d.getD i19.toNat 0))) then c20 (s18.1, (s18.2.set (IntKind.wrap .i64 (i12 + (d.getD i19.toNat 0))).toNat (IntKind.wrap .i64 ((s18.2.getD (IntKind.wrap .i64 (i12 + (d.getD i19.toNat 0))).toNat 0) + (s4.2.1.getD i12.toNat 0))))) else none else c20 ((IntKind.wrap .i64 (s18.1 + (s4.2.1.getD i12.toNat 0))), s18.2))) (fun i19 (s18 : Int × (List Int)) => c13 (s18.1, s18.2)) (Int.toNat (6 - 0)) 0 (s11.1, s11.2)) (fun i12 (s11 : Int × (List Int)) => if (s4.2.2.length : Int) + 1 ≤ 1000000000 then c6 ((s4.1 + 1), s11.2, (s4.2.2 ++ [s11.1])) else none) (Int.toNat ((G : Int) - 0)) 0 (0, (List.replicate G 0)) else some s4.2.2)) n (((k : Nat) : Int) + 1, nw d G k, outS d G k) = some (outS d G G) by
    exact hh fu 0 (by omega) (by omega)
  intro n
  induction n with
  | zero => intro k _ h; omega
  | succ n ih =>
    intro k hk hn
    simp only [whl]
    by_cases hc : k < G
    · rw [if_pos (by omega)]
      obtain ⟨a1, a2, _⟩ := nw_ok hd h1 hG k
      have hs := nw_sum_le hd h1 hG k
      have hp := pow_le8 hd h1 hG (k := k) (by omega)
      have hl := (outS_ok hd h1 hG k hk).1
      refine Eq.trans (roll_runS hd hG a1 a2 (by omega) (fun s11 => if ((outS d G k).length : Int) + 1 ≤ 1000000000 then whl _ n (((k : Int) + 1 + 1), s11.2, (outS d G k ++ [s11.1])) else none)) ?_
      rw [if_pos (by omega)]
      exact ih (k + 1) (by omega) (by omega)
    · have hkG : k = G := by omega
      rw [if_neg (by omega), hkG]
end
end Go.GA
