/- Plain law of FnHolds: all rolls. -/
import Derived.Test.YtheplbbbfbbjcaaHK7
namespace Go.GA
open Go
set_option maxRecDepth 100000
set_option linter.unusedSectionVars false
def nwo (b : Int) (d : List Int) (G L : Nat) : Nat → List Int × List Int
  | 0 => (List.replicate L 0, (List.replicate G 0).set 0 1)
  | k + 1 => stL b d G ((6 ^ (G - (k + 1)) : Nat) : Int) (nwo b d G L k) G
theorem p10 {k : Nat} (hk : k ≤ 10) : 6 ^ k ≤ 60466176 ∧ 0 < 6 ^ k := by
  have h2 : 6 ^ k ≤ 6 ^ 10 := Nat.pow_le_pow_right (by omega) (by omega)
  have h3 : (6 : Nat) ^ 10 = 60466176 := rfl
  exact ⟨by omega, Nat.pow_pos (by omega)⟩
theorem zero_sum : ∀ (l : List Int), (∀ j, j < l.length → l.getD j 0 = 0) → l.sum = 0
  | [], _ => rfl
  | a :: l, h => by
    have h0 := h 0 (by simp)
    have := zero_sum l (fun j hj => h (j + 1) (by simp; omega))
    simp only [List.getD_cons_zero] at h0
    rw [List.sum_cons, h0, this]; rfl
section
variable {b : Int} {d : List Int} (hd : Run6 d) {L G : Nat} (h1 : 1 ≤ G) (hG : G ≤ 10) (hL : G + 30 ≤ L) (hL2 : L ≤ 1000)
include hd h1 hG hL hL2
theorem nwo_ok : ∀ k, k ≤ G → Okk L G (nwo b d G L k) ∧ (nwo b d G L k).1.sum + (nwo b d G L k).2.sum * ((6 ^ (G - k) : Nat) : Int) = ((6 ^ G : Nat) : Int) ∧ (∀ j, j < k → (nwo b d G L k).2.getD j 0 = 0) ∧ Oz G (nwo b d G L k).1
  | 0, _ => by
    have hs : ((List.replicate G (0 : Int)).set 0 1).sum = 1 := by
      rw [sum_set _ 0 1 (by simp; omega), repSum, repN]; rfl
    refine ⟨⟨by simp [nwo], by simp [nwo], fun j => by simp only [nwo]; rw [repN]; exact Int.le_refl _, fun j => ?_⟩, ?_, fun j hj => by omega, fun j _ _ => by simp only [nwo]; exact repN _ _⟩
    · simp only [nwo]
      by_cases h : j = 0
      · subst h; rw [List.getD_eq_getElem?_getD, List.getElem?_set_self (by simp; omega)]; decide
      · rw [List.getD_eq_getElem?_getD, List.getElem?_set_ne (Ne.symm h), ← List.getD_eq_getElem?_getD, repN]; exact Int.le_refl _
    · simp only [nwo]
      rw [hs, repSum, Nat.sub_zero]; omega
  | k + 1, hk => by
    obtain ⟨a1, a2, a3, a4⟩ := nwo_ok k (by omega)
    have hP : (1 : Int) ≤ ((6 ^ (G - (k + 1)) : Nat) : Int) := by have := (p10 (k := G - (k + 1)) (by omega)).2; omega
    obtain ⟨b1, b2⟩ := stL_ok (b := b) hd hL hP a1 G (Nat.le_refl _)
    obtain ⟨c1, c2⟩ := stL_zero (b := b) hd hL hP a1 a3 a4 G (Nat.le_refl _)
    refine ⟨b1, ?_, fun j hj => c1 j (by omega), c2⟩
    simp only [nwo]
    rw [b2, tk_all a1.ln]
    have e : G - k = (G - (k + 1)) + 1 := by omega
    rw [e, Nat.pow_succ, Int.natCast_mul] at a2
    grind
/-- what can be there is little -/
theorem nwo_le (k : Nat) (hk : k ≤ G) : 0 ≤ (nwo b d G L k).1.sum ∧ 0 ≤ (nwo b d G L k).2.sum * ((6 ^ (G - k) : Nat) : Int) ∧ (nwo b d G L k).1.sum + (nwo b d G L k).2.sum * ((6 ^ (G - k) : Nat) : Int) = ((6 ^ G : Nat) : Int) := by
  obtain ⟨a1, a2, _⟩ := nwo_ok (b := b) hd h1 hG hL hL2 k hk
  exact ⟨sum_nn a1.no, Int.mul_nonneg (sum_nn a1.nn) (Int.natCast_nonneg _), a2⟩
theorem turn_run {k : Nat} (hk : k < G) {R : Type} (K : (List Int × List Int) → Option R) : cnt (fun i14 (s13 : (List Int) × (List Int)) c15 _ => cnt (fun i21 (s20 : (List Int) × (List Int)) c22 _ => (if (d.getD i21.toNat 0) = b then if 0 < (L : Int) then (some ((6 ^ (G - (k + 1)) : Nat) : Int)).bind (fun r31 => c22 ((s20.1.set 0 (IntKind.wrap .i64 ((s20.1.getD 0 0) + (IntKind.wrap .i64 (((nwo b d G L k).2.getD i14.toNat 0) * r31))))), s20.2)) else none else (if (G : Int) ≤ (IntKind.wrap .i64 (i14 + (d.getD i21.toNat 0))) then if (IntKind.wrap .i64 (i14 + (d.getD i21.toNat 0))) < (L : Int) then (some ((6 ^ (G - (k + 1)) : Nat) : Int)).bind (fun r36 => c22 ((s20.1.set (IntKind.wrap .i64 (i14 + (d.getD i21.toNat 0))).toNat (IntKind.wrap .i64 ((s20.1.getD (IntKind.wrap .i64 (i14 + (d.getD i21.toNat 0))).toNat 0) + (IntKind.wrap .i64 (((nwo b d G L k).2.getD i14.toNat 0) * r36))))), s20.2)) else none else if 0 ≤ (IntKind.wrap .i64 (i14 + (d.getD i21.toNat 0))) then c22 (s20.1, (s20.2.set (IntKind.wrap .i64 (i14 + (d.getD i21.toNat 0))).toNat (IntKind.wrap .i64 ((s20.2.getD (IntKind.wrap .i64 (i14 + (d.getD i21.toNat 0))).toNat 0) + ((nwo b d G L k).2.getD i14.toNat 0))))) else none))) (fun i21 (s20 : (List Int) × (List Int)) => c15 (s20.1, s20.2)) (Int.toNat (6 - 0)) 0 (s13.1, s13.2)) (fun i14 (s13 : (List Int) × (List Int)) => K (s13.1, s13.2)) (Int.toNat ((G : Int) - 0)) 0 ((nwo b d G L k).1, (List.replicate G 0)) = K (nwo b d G L (k + 1)) := by
  obtain ⟨a1, a2, a3, a4⟩ := nwo_ok (b := b) hd h1 hG hL hL2 k (by omega)
  obtain ⟨g1, g2, g3⟩ := nwo_le (b := b) hd h1 hG hL hL2 k (by omega)
  have hPp := p10 (k := G - (k + 1)) (by omega)
  have hGp := p10 (k := G) (by omega)
  have hP : (1 : Int) ≤ ((6 ^ (G - (k + 1)) : Nat) : Int) := by omega
  have eP : ((6 ^ (G - k) : Nat) : Int) = 6 * ((6 ^ (G - (k + 1)) : Nat) : Int) := by
    rw [show G - k = (G - (k + 1)) + 1 by omega, Nat.pow_succ]; omega
  refine cnt_ind0 (S := List Int × List Int) G (fun i s => s = stL b d G ((6 ^ (G - (k + 1)) : Nat) : Int) (nwo b d G L k) i) (fun r => r = K (nwo b d G L (k + 1))) (by omega) rfl (fun s hs => by rw [hs]; rfl) (fun i s c hi hs hc => ?_)
  subst hs
  rw [Int.toNat_natCast]
  obtain ⟨q1, q2⟩ := stL_ok (b := b) hd hL hP a1 i (by omega)
  have t1 := tk_mono a1.nn (i := i + 1) (G - (i + 1))
  rw [show i + 1 + (G - (i + 1)) = G by omega, tk_all a1.ln] at t1
  have t2 := Int.mul_le_mul_of_nonneg_right t1 (show 0 ≤ ((6 ^ (G - (k + 1)) : Nat) : Int) by omega)
  simp only [tk] at t2
  rw [Int.add_mul] at t2
  have e6 : (nwo b d G L k).2.sum * ((6 ^ (G - k) : Nat) : Int) = 6 * ((nwo b d G L k).2.sum * ((6 ^ (G - (k + 1)) : Nat) : Int)) := by rw [eP]; grind
  rw [cnt_list (rI (some ((6 ^ (G - (k + 1)) : Nat) : Int)) (G : Int) (L : Int) b i ((nwo b d G L k).2.getD i 0)) d 0 (by rw [hd.1]; rfl) (fun _ _ _ _ _ => rfl)]
  rw [rI_run hL hL2 hi (a1.nn i) hP _ d _ hd.2 q1 (by
    rw [hd.1]
    show (stL b d G ((6 ^ (G - (k + 1)) : Nat) : Int) (nwo b d G L k) i).1.sum + (stL b d G ((6 ^ (G - (k + 1)) : Nat) : Int) (nwo b d G L k) i).2.sum * ((6 ^ (G - (k + 1)) : Nat) : Int) + ((6 : Nat) : Int) * _ ≤ _
    omega)]
  exact hc _ rfl
end
def bI (fu : Nat) (d : List Int) (b x2 : Int) : Int × List Int × List Int → (Int × List Int × List Int → Option (List Int)) → Option (List Int) := fun (s6 : Int × (List Int) × (List Int)) c8 => (if s6.1 ≤ x2 then cnt (fun i14 (s13 : (List Int) × (List Int)) c15 _ => cnt (fun i21 (s20 : (List Int) × (List Int)) c22 _ => (if (d.getD i21.toNat 0) = b then if 0 < (IntKind.wrap .i64 (x2 + 30)) then (p_impl_power fu (x2 - s6.1)).bind (fun r31 => c22 ((s20.1.set 0 (IntKind.wrap .i64 ((s20.1.getD 0 0) + (IntKind.wrap .i64 ((s6.2.2.getD i14.toNat 0) * r31))))), s20.2)) else none else (if x2 ≤ (IntKind.wrap .i64 (i14 + (d.getD i21.toNat 0))) then if (IntKind.wrap .i64 (i14 + (d.getD i21.toNat 0))) < (IntKind.wrap .i64 (x2 + 30)) then (p_impl_power fu (x2 - s6.1)).bind (fun r36 => c22 ((s20.1.set (IntKind.wrap .i64 (i14 + (d.getD i21.toNat 0))).toNat (IntKind.wrap .i64 ((s20.1.getD (IntKind.wrap .i64 (i14 + (d.getD i21.toNat 0))).toNat 0) + (IntKind.wrap .i64 ((s6.2.2.getD i14.toNat 0) * r36))))), s20.2)) else none else if 0 ≤ (IntKind.wrap .i64 (i14 + (d.getD i21.toNat 0))) then c22 (s20.1, (s20.2.set (IntKind.wrap .i64 (i14 + (d.getD i21.toNat 0))).toNat (IntKind.wrap .i64 ((s20.2.getD (IntKind.wrap .i64 (i14 + (d.getD i21.toNat 0))).toNat 0) + (s6.2.2.getD i14.toNat 0))))) else none))) (fun i21 (s20 : (List Int) × (List Int)) => c15 (s20.1, s20.2)) (Int.toNat (6 - 0)) 0 (s13.1, s13.2)) (fun i14 (s13 : (List Int) × (List Int)) => c8 ((s6.1 + 1), s13.1, s13.2)) (Int.toNat (x2 - 0)) 0 (s6.2.1, (List.replicate x2.toNat 0)) else some s6.2.1)
def bS (fu : Nat) (d : List Int) (b x2 : Int) : Int × List Int × List Int → (Int × List Int × List Int → Option (List Int)) → Option (List Int) := fun (s13 : Int × (List Int) × (List Int)) c15 => (if s13.1 ≤ x2 then cnt (fun i21 (s20 : (List Int) × (List Int)) c22 _ => cnt (fun i28 (s27 : (List Int) × (List Int)) c29 _ => (if (d.getD i28.toNat 0) = b then (p_spec_l2All fu (x2 - s13.1)).bind (fun r37 => c29 ((s27.1.set 0 (IntKind.wrap .i64 ((s27.1.getD 0 0) + (IntKind.wrap .i64 ((s13.2.2.getD i21.toNat 0) * r37))))), s27.2)) else (if x2 ≤ (IntKind.wrap .i64 (i21 + (d.getD i28.toNat 0))) then if (IntKind.wrap .i64 (i21 + (d.getD i28.toNat 0))) < 41 then (p_spec_l2All fu (x2 - s13.1)).bind (fun r42 => c29 ((s27.1.set (IntKind.wrap .i64 (i21 + (d.getD i28.toNat 0))).toNat (IntKind.wrap .i64 ((s27.1.getD (IntKind.wrap .i64 (i21 + (d.getD i28.toNat 0))).toNat 0) + (IntKind.wrap .i64 ((s13.2.2.getD i21.toNat 0) * r42))))), s27.2)) else none else if 0 ≤ (IntKind.wrap .i64 (i21 + (d.getD i28.toNat 0))) then c29 (s27.1, (s27.2.set (IntKind.wrap .i64 (i21 + (d.getD i28.toNat 0))).toNat (IntKind.wrap .i64 ((s27.2.getD (IntKind.wrap .i64 (i21 + (d.getD i28.toNat 0))).toNat 0) + (s13.2.2.getD i21.toNat 0))))) else none))) (fun i28 (s27 : (List Int) × (List Int)) => c22 (s27.1, s27.2)) (Int.toNat (6 - 0)) 0 (s20.1, s20.2)) (fun i21 (s20 : (List Int) × (List Int)) => c15 ((s13.1 + 1), s20.1, s20.2)) (Int.toNat (x2 - 0)) 0 (s13.2.1, (List.replicate x2.toNat 0)) else some s13.2.1)
section
variable {b : Int} {d : List Int} (hd : Run6 d) {G : Nat} (h1 : 1 ≤ G) (hG : G ≤ 10) {fu : Nat} (hf : 64 ≤ fu)
include hd h1 hG hf
theorem ends_I : p_impl_ends fu d b (G : Int) = some (nwo b d G (G + 30) G).1 := by
  have hw : IntKind.wrap .i64 ((G : Int) + 30) = ((G + 30 : Nat) : Int) := by rw [wr (by omega) (by omega)]; omega
  have key : ∀ (n k : Nat), k ≤ G → G - k < n → whl (bI fu d b (G : Int)) n (((k : Nat) : Int) + 1, (nwo b d G (G + 30) k).1, (nwo b d G (G + 30) k).2) = some (nwo b d G (G + 30) G).1 := by
    intro n
    induction n with
    | zero => intro k _ h; omega
    | succ n ih =>
      intro k hk hn
      have ih' := ih (k + 1)
      rw [show ∀ z, whl (bI fu d b (G : Int)) (n + 1) z = bI fu d b (G : Int) z (whl (bI fu d b (G : Int)) n) from fun _ => rfl]
      generalize whl (bI fu d b (G : Int)) n = W at ih'
      unfold bI
      simp only
      by_cases hc : k < G
      · rw [if_pos (by omega), hw, show (G : Int) - (((k : Nat) : Int) + 1) = ((G - (k + 1) : Nat) : Int) by omega, power_eq (by omega) (by omega), Int.toNat_natCast]
        refine Eq.trans (turn_run (b := b) hd h1 hG (Nat.le_refl _) (by omega) hc (fun s13 => W (((k : Nat) : Int) + 1 + 1, s13.1, s13.2))) ?_
        exact ih' (by omega) (by omega)
      · have : k = G := by omega
        rw [if_neg (by omega), this]
  unfold p_impl_ends
  rw [hw, if_pos (by omega), if_pos (by omega), if_pos (by omega), if_pos (by omega), if_pos (by omega), Int.toNat_natCast, Int.toNat_natCast]
  have := key fu 0 (by omega) (by omega)
  unfold bI at this
  rw [hw, Int.toNat_natCast] at this
  exact this
theorem ends_S : p_spec_l7Ends fu d b (G : Int) = some (nwo b d G 41 G).1 := by
  have key : ∀ (n k : Nat), k ≤ G → G - k < n → whl (bS fu d b (G : Int)) n (((k : Nat) : Int) + 1, (nwo b d G 41 k).1, (nwo b d G 41 k).2) = some (nwo b d G 41 G).1 := by
    intro n
    induction n with
    | zero => intro k _ h; omega
    | succ n ih =>
      intro k hk hn
      have ih' := ih (k + 1)
      rw [show ∀ z, whl (bS fu d b (G : Int)) (n + 1) z = bS fu d b (G : Int) z (whl (bS fu d b (G : Int)) n) from fun _ => rfl]
      generalize whl (bS fu d b (G : Int)) n = W at ih'
      unfold bS
      simp only
      by_cases hc : k < G
      · rw [if_pos (by omega), show (G : Int) - (((k : Nat) : Int) + 1) = ((G - (k + 1) : Nat) : Int) by omega, all_eq (by omega) (by omega), Int.toNat_natCast]
        have hT := turn_run (b := b) hd h1 hG (L := 41) (by omega) (by omega) hc (fun s13 => W (((k : Nat) : Int) + 1 + 1, s13.1, s13.2))
        have e0 : ∀ {R : Type} (x y : Option R), (if 0 < ((41 : Nat) : Int) then x else y) = x := fun x y => if_pos (by omega)
        simp only [e0] at hT
        refine Eq.trans hT ?_
        exact ih' (by omega) (by omega)
      · have : k = G := by omega
        rw [if_neg (by omega), this]
  unfold p_spec_l7Ends
  rw [if_pos (by omega), if_pos (by omega), if_pos (by omega), Int.toNat_natCast]
  have := key fu 0 (by omega) (by omega)
  unfold bS at this
  rw [Int.toNat_natCast] at this
  exact this
end
/-! ### a longer table holds the same -/
theorem addAt_app {l z : List Int} {j : Nat} {v : Int} (hj : j < l.length) : addAt (l ++ z) j v = addAt l j v ++ z := by
  unfold addAt
  rw [List.getD_eq_getElem?_getD, List.getElem?_append_left hj, ← List.getD_eq_getElem?_getD, List.set_append_left _ _ hj]
theorem stp_app {b : Int} {L G i : Nat} (hL : G + 30 ≤ L) (hi : i < G) {v P : Int} {s : List Int × List Int} (hlo : s.1.length = L) (z : List Int) {f : Int} (hf : 1 ≤ f ∧ f ≤ 30) : stp b G i v P (s.1 ++ z, s.2) f = ((stp b G i v P s f).1 ++ z, (stp b G i v P s f).2) := by
  unfold stp
  split
  · simp only; rw [addAt_app (by omega)]
  · split
    · simp only; rw [addAt_app (by omega)]
    · rfl
theorem row_app {b : Int} {L G i : Nat} (hL : G + 30 ≤ L) (hi : i < G) {v P : Int} (z : List Int) : ∀ (d : List Int) (s : List Int × List Int), (∀ f ∈ d, 1 ≤ f ∧ f ≤ 30) → s.1.length = L → rowR b d G i v P (s.1 ++ z, s.2) = ((rowR b d G i v P s).1 ++ z, (rowR b d G i v P s).2)
  | [], s, _, _ => rfl
  | f :: d, s, hd, hl => by
    obtain ⟨l1, l2⟩ := stp_len b G i v P s f
    show rowR b d G i v P (stp b G i v P (s.1 ++ z, s.2) f) = _
    rw [stp_app hL hi hl z (hd f (by simp))]
    exact row_app hL hi z d (stp b G i v P s f) (fun q hq => hd q (by simp [hq])) (by rw [l1]; exact hl)
theorem row_len {b : Int} {G i : Nat} {v P : Int} : ∀ (d : List Int) (s : List Int × List Int), (rowR b d G i v P s).1.length = s.1.length
  | [], s => rfl
  | f :: d, s => by
    show (rowR b d G i v P (stp b G i v P s f)).1.length = _
    rw [row_len d, (stp_len b G i v P s f).1]
theorem stL_len {b : Int} {d : List Int} {G : Nat} {P : Int} {s : List Int × List Int} : ∀ i, (stL b d G P s i).1.length = s.1.length
  | 0 => rfl
  | i + 1 => by simp only [stL]; rw [row_len, stL_len i]
theorem stL_app {b : Int} {d : List Int} (hd : Run6 d) {L G : Nat} (hL : G + 30 ≤ L) {P : Int} {s : List Int × List Int} (hl : s.1.length = L) (z : List Int) : ∀ i, i ≤ G → stL b d G P (s.1 ++ z, s.2) i = ((stL b d G P s i).1 ++ z, (stL b d G P s i).2)
  | 0, _ => rfl
  | i + 1, hi => by
    simp only [stL]
    rw [stL_app hd hL hl z i (by omega)]
    exact row_app hL (by omega) z d _ hd.2 (by rw [stL_len]; exact hl)
theorem nwo_len {b : Int} {d : List Int} {G L : Nat} : ∀ k, (nwo b d G L k).1.length = L
  | 0 => by simp [nwo]
  | k + 1 => by simp only [nwo]; rw [stL_len, nwo_len k]
theorem nwo_app {b : Int} {d : List Int} (hd : Run6 d) {L G : Nat} (hL : G + 30 ≤ L) (m : Nat) : ∀ k, nwo b d G (L + m) k = ((nwo b d G L k).1 ++ List.replicate m 0, (nwo b d G L k).2)
  | 0 => by simp only [nwo]; rw [List.replicate_append_replicate]
  | k + 1 => by
    simp only [nwo]
    rw [nwo_app hd hL m k]
    exact stL_app hd hL (nwo_len k) _ G (Nat.le_refl _)
/-- what a turn ends with -/
def en (b : Int) (d : List Int) (G : Nat) : List Int := (nwo b d G (G + 30) G).1
theorem enS_getD {b : Int} {d : List Int} (hd : Run6 d) {G : Nat} (hG : G ≤ 10) (j : Nat) : (nwo b d G 41 G).1.getD j 0 = (en b d G).getD j 0 := by
  have e : nwo b d G 41 G = nwo b d G ((G + 30) + (11 - G)) G := by congr 1; omega
  rw [e, nwo_app hd (Nat.le_refl _)]
  unfold en
  have hl : (nwo b d G (G + 30) G).1.length = G + 30 := nwo_len G
  simp only
  by_cases h : j < (nwo b d G (G + 30) G).1.length
  · rw [List.getD_eq_getElem?_getD, List.getElem?_append_left h, ← List.getD_eq_getElem?_getD]
  · rw [List.getD_eq_getElem?_getD, List.getElem?_append_right (by omega), ← List.getD_eq_getElem?_getD, repN, List.getD_eq_getElem?_getD, List.getElem?_eq_none (by omega)]
    rfl
section
variable {b : Int} {d : List Int} (hd : Run6 d) {G : Nat} (h1 : 1 ≤ G) (hG : G ≤ 10)
include hd h1 hG
theorem en_ok : (en b d G).length = G + 30 ∧ NN (en b d G) ∧ (en b d G).sum = ((6 ^ G : Nat) : Int) ∧ Oz G (en b d G) := by
  obtain ⟨a1, a2, a3, a4⟩ := nwo_ok (b := b) hd h1 hG (Nat.le_refl _) (by omega) G (Nat.le_refl _)
  have hz : (nwo b d G (G + 30) G).2.sum = 0 := zero_sum _ (fun j hj => a3 j (by rw [a1.ln] at hj; exact hj))
  refine ⟨a1.lo, a1.no, ?_, a4⟩
  rw [hz] at a2
  unfold en
  rw [← a2]; simp
end
end Go.GA
