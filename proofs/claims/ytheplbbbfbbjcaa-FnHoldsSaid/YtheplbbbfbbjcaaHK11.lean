/- Plain law of FnHolds: turns and races that are played. -/
import Derived.Test.YtheplbbbfbbjcaaHK10
namespace Go.GA
open Go
set_option maxRecDepth 100000
set_option linter.unusedSectionVars false
section
variable {b : Int} {d : List Int} (hd : Run6 d) {L G : Nat} (h1 : 1 ≤ G) (hG : G ≤ 10) (hL : G + 30 ≤ L) (hL2 : L ≤ 1000)
include hd h1 hG hL hL2
theorem nwo_up {k : Nat} (hk : k < G) : (∀ j, (nwo b d G L k).1.getD j 0 ≤ (nwo b d G L (k + 1)).1.getD j 0) ∧ ∀ q, q < G → ∀ f ∈ d, lead b G q ((nwo b d G L k).2.getD q 0) ((6 ^ (G - (k + 1)) : Nat) : Int) ((nwo b d G L k).1, List.replicate G 0) (nwo b d G L (k + 1)) f := by
  obtain ⟨a1, _⟩ := nwo_ok (b := b) hd h1 hG hL hL2 k (by omega)
  have hP : (1 : Int) ≤ ((6 ^ (G - (k + 1)) : Nat) : Int) := by have := (p10 (k := G - (k + 1)) (by omega)).2; omega
  exact stL_ge (b := b) hd hL hP a1 G (Nat.le_refl _)
theorem nwo_mono {k : Nat} : ∀ m, k + m ≤ G → ∀ j, (nwo b d G L k).1.getD j 0 ≤ (nwo b d G L (k + m)).1.getD j 0
  | 0, _, j => Int.le_refl _
  | m + 1, h, j => Int.le_trans (nwo_mono m (by omega) j) ((nwo_up (b := b) hd h1 hG hL hL2 (k := k + m) (by omega)).1 j)
/-- where a face leads, is something -/
theorem step_there {k : Nat} (hk : k < G) {s : Nat} (hs : s < G) (hv : 0 < (nwo b d G L k).2.getD s 0) {f : Int} (hf : f ∈ d) : (f = b → 0 < (nwo b d G L G).1.getD 0 0) ∧ (f ≠ b → (G : Int) ≤ (s : Int) + f → 0 < (nwo b d G L G).1.getD (s + f.toNat) 0) ∧ (f ≠ b → ¬ (G : Int) ≤ (s : Int) + f → 0 < (nwo b d G L (k + 1)).2.getD (s + f.toNat) 0) := by
  obtain ⟨a1, _⟩ := nwo_ok (b := b) hd h1 hG hL hL2 k (by omega)
  have hP : (1 : Int) ≤ ((6 ^ (G - (k + 1)) : Nat) : Int) := by have := (p10 (k := G - (k + 1)) (by omega)).2; omega
  have hvP : 0 < (nwo b d G L k).2.getD s 0 * ((6 ^ (G - (k + 1)) : Nat) : Int) := Int.mul_pos hv (by omega)
  have hl := (nwo_up (b := b) hd h1 hG hL hL2 hk).2 s hs f hf
  have hm := nwo_mono (b := b) hd h1 hG hL hL2 (k := k + 1) (G - (k + 1)) (by omega)
  rw [show k + 1 + (G - (k + 1)) = G by omega] at hm
  unfold lead at hl
  refine ⟨fun e => ?_, fun e h2 => ?_, fun e h2 => ?_⟩
  · rw [if_pos e] at hl
    have := hm 0
    have := a1.no 0
    simp only at hl
    omega
  · rw [if_neg e, if_pos h2] at hl
    have := hm (s + f.toNat)
    have := a1.no (s + f.toNat)
    simp only at hl
    omega
  · rw [if_neg e, if_neg h2] at hl
    simp only at hl
    rw [repN] at hl
    omega
end
theorem turnS_eq {d : List Int} (h6 : d.length = 6) (b g : Int) (l : List Int) : p_spec_PlayTurn d b g l = p_impl_PlayTurn d b g l := by
  unfold p_spec_PlayTurn p_impl_PlayTurn
  rw [l7Turn_eq h6, Option.bind_some]
  rfl
theorem side_iff (p : Int) : p_impl_isSide p = true ↔ 0 ≤ p ∧ p ≤ 5 := by
  unfold p_impl_isSide
  rw [pwithin_eq, decide_eq_true_eq]
theorem mem_getD {d : List Int} (h6 : d.length = 6) {p : Int} (h : 0 ≤ p ∧ p ≤ 5) : d.getD p.toNat 0 ∈ d := by
  have hlt : p.toNat < d.length := by omega
  rw [List.getD_eq_getElem?_getD, List.getElem?_eq_getElem hlt]
  exact List.getElem_mem hlt
/-- what a turn that is played ends with is one of the endings -/
theorem playTurn_any {d : List Int} (h6 : d.length = 6) (b g : Int) (l : List Int) : ∃ t u e ok, p_impl_PlayTurn d b g l = some (t, u, e, ok) ∧ (ok = true → p_impl_isTurn d b g = true) ∧ (ok = true → e = true → 0 ≤ t ∧ 0 < (en b d g.toNat).getD t.toNat 0) := by
  by_cases ht : p_impl_isTurn d b g = true
  · obtain ⟨⟨hr, hb⟩, g1, g2⟩ := (turn_iff _ _ _).1 ht
    obtain ⟨G, rfl⟩ : ∃ G : Nat, g = (G : Int) := ⟨g.toNat, by omega⟩
    have hd := runner_six h6 hr
    have h1 : 1 ≤ G := by omega
    have hG : G ≤ 10 := by omega
    have key : (fun (r : Option (Int × Int × Bool × Bool)) => ∃ t u e ok, r = some (t, u, e, ok) ∧ (ok = true → e = true → 0 ≤ t ∧ 0 < (en b d G).getD t.toNat 0)) (p_impl_PlayTurn d b (G : Int) l) := by
      unfold p_impl_PlayTurn
      rw [if_pos ht]
      refine cnt_ind0 (S := Int) l.length (fun i s => 0 ≤ s ∧ s < G ∧ (i : Int) ≤ s ∧ 0 < (nwo b d G (G + 30) i).2.getD s.toNat 0) (fun (r : Option (Int × Int × Bool × Bool)) => ∃ t u e ok, r = some (t, u, e, ok) ∧ (ok = true → e = true → 0 ≤ t ∧ 0 < (en b d G).getD t.toNat 0)) (by omega) ⟨Int.le_refl _, by omega, Int.le_refl _, ?_⟩ (fun s hs => ⟨_, _, _, _, rfl, fun _ h => by cases h⟩) (fun i s c hi hs hc => ?_)
      · simp only [nwo]
        rw [List.getD_eq_getElem?_getD]
        show 0 < (((List.replicate G (0 : Int)).set 0 1)[0]?).getD 0
        rw [List.getElem?_set_self (by simp; omega)]
        decide
      · obtain ⟨s0, s1, s2, s3⟩ := hs
        rw [Int.toNat_natCast]
        by_cases hp : p_impl_isSide (l.getD i 0) = true
        · have hp' := (side_iff _).1 hp
          have hm := mem_getD h6 hp'
          have hfr := hd.2 _ hm
          obtain ⟨c1, c2, c3⟩ := step_there (b := b) hd h1 hG (L := G + 30) (Nat.le_refl _) (by omega) (k := i) (by omega) (s := s.toNat) (by omega) s3 hm
          rw [if_pos hp, if_pos hp'.1, if_pos (by omega)]
          generalize d.getD (l.getD i 0).toNat 0 = f at *
          by_cases hfb : f = b
          · rw [if_pos hfb]
            exact ⟨_, _, _, _, rfl, fun _ _ => ⟨Int.le_refl _, c1 hfb⟩⟩
          · rw [if_neg hfb, wr (n := s + f) (by omega) (by omega)]
            by_cases hge : (G : Int) ≤ s + f
            · rw [if_pos hge]
              refine ⟨_, _, _, _, rfl, fun _ _ => ⟨by omega, ?_⟩⟩
              have := c2 hfb (by omega)
              rw [show (s + f).toNat = s.toNat + f.toNat by omega]
              exact this
            · rw [if_neg hge]
              refine hc _ ⟨by omega, by omega, by omega, ?_⟩
              rw [show (s + f).toNat = s.toNat + f.toNat by omega]
              exact c3 hfb (by omega)
        · rw [if_neg hp]
          exact ⟨_, _, _, _, rfl, fun h => by cases h⟩
    obtain ⟨t, u, e, ok, k1, k2⟩ := key
    exact ⟨t, u, e, ok, k1, fun _ => ht, by rw [Int.toNat_natCast]; exact k2⟩
  · refine ⟨0, 0, false, false, ?_, fun h => (by cases h), fun h => (by cases h)⟩
    unfold p_impl_PlayTurn
    rw [if_neg ht]
theorem two_mod {i : Nat} : ((i : Int).tmod 2 = 0 ∨ (i : Int).tmod 2 = 1) ∧ (i : Int).tmod 2 = ((i % 2 : Nat) : Int) := by
  have e : (i : Int).tmod 2 = ((i % 2 : Nat) : Int) := by
    rw [Int.tmod_eq_emod_of_nonneg (by omega)]; omega
  rw [e]
  omega
/-- races that are played -/
theorem playRace_any {a b : List Int} (a6 : a.length = 6) (b6 : b.length = 6) (g : Int) (l : List Int) : ∃ w u ok, p_impl_PlayRace a b g l = some (w, u, ok) ∧ p_spec_PlayRace a b g l = some (w, u, ok) ∧ (ok = true → 0 < w → u.tmod 2 = w.tmod 2) := by
  have hcond : (((!(p_impl_isRunner a)) || (!(p_impl_isRunner b))) || (!(p_impl_isGoal g))) = (((!(p_impl_isRunner a)) || (!(p_impl_isRunner b))) || (!(p_spec_l7Goal g))) := rfl
  have hS : p_spec_PlayRace a b g l = p_impl_PlayRace a b g l := by
    unfold p_spec_PlayRace p_impl_PlayRace
    rw [l7Die_eq a6, l7Die_eq b6, Option.bind_some, if_pos (by simp), Option.getD_some, ← hcond]
    by_cases hc : (((!(p_impl_isRunner a)) || (!(p_impl_isRunner b))) || (!(p_impl_isGoal g))) = true
    · rw [if_pos hc, if_pos hc]
    · rw [if_neg hc, if_neg hc]
      refine cnt_congr_n l.length (by omega) (fun i s c hi => ?_)
      have e1 : p_spec_l1In (l.getD ((i : Nat) : Int).toNat 0) 0 5 = p_impl_isSide (l.getD ((i : Nat) : Int).toNat 0) := rfl
      rw [e1]
      by_cases hp : p_impl_isSide (l.getD ((i : Nat) : Int).toNat 0) = true
      · have hp' := (side_iff _).1 hp
        rw [if_pos hp, if_pos hp, if_pos hp'.1, if_pos (by omega)]
        unfold jn
        simp only
        rcases (two_mod (i := i)).1 with h | h
        · rw [h]
          simp only [if_neg (show ¬ (0 : Int) = 1 by omega), if_pos (show (0 : Int) ≤ 0 by omega), if_pos (show (0 : Int) < 2 by omega), if_pos hp'.1, if_pos (show l.getD ((i : Nat) : Int).toNat 0 < 6 by omega)]
        · rw [h]
          simp only [if_true, if_pos (show (0 : Int) ≤ 1 by omega), if_pos (show (1 : Int) < 2 by omega), if_pos hp'.1, if_pos (show l.getD ((i : Nat) : Int).toNat 0 < 6 by omega)]
      · rw [if_neg hp, if_neg hp]
  rw [hS]
  have key : (fun (r : Option (Int × Int × Bool)) => ∃ w u ok, r = some (w, u, ok) ∧ (ok = true → 0 < w → u.tmod 2 = w.tmod 2)) (p_impl_PlayRace a b g l) := by
    unfold p_impl_PlayRace
    by_cases hc : (((!(p_impl_isRunner a)) || (!(p_impl_isRunner b))) || (!(p_impl_isGoal g))) = true
    · rw [if_pos hc]
      exact ⟨_, _, _, rfl, fun h => by cases h⟩
    · rw [if_neg hc]
      refine cnt_ind0 (S := List Int) l.length (fun _ _ => True) (fun (r : Option (Int × Int × Bool)) => ∃ w u ok, r = some (w, u, ok) ∧ (ok = true → 0 < w → u.tmod 2 = w.tmod 2)) (by omega) trivial (fun s hs => ⟨_, _, _, rfl, fun _ h => absurd h (by omega)⟩) (fun i s c hi hs hc => ?_)
      by_cases hp : p_impl_isSide (l.getD ((i : Nat) : Int).toNat 0) = true
      · have hp' := (side_iff _).1 hp
        rw [if_pos hp]
        unfold jn
        simp only
        have fin : ((i : Int) + 1).tmod 2 = ((i : Int).tmod 2 + 1).tmod 2 := by
          have h1 := (two_mod (i := i)).2
          have h2 := (two_mod (i := i + 1)).2
          have h3 := (two_mod (i := i % 2 + 1)).2
          rw [h1, show (i : Int) + 1 = ((i + 1 : Nat) : Int) by omega, h2, show ((i % 2 : Nat) : Int) + 1 = ((i % 2 + 1 : Nat) : Int) by omega, h3]
          omega
        have hj : ∀ q : List Int, ∃ w u ok, (if 0 ≤ ((i : Int).tmod 2) then if ((i : Int).tmod 2) < 2 then if 0 ≤ (l.getD ((i : Nat) : Int).toNat 0) then if (l.getD ((i : Nat) : Int).toNat 0) < 6 then (if g ≤ ((s.set ((i : Int).tmod 2).toNat (IntKind.wrap .i64 ((s.getD ((i : Int).tmod 2).toNat 0) + (q.getD (l.getD ((i : Nat) : Int).toNat 0).toNat 0)))).getD ((i : Int).tmod 2).toNat 0) then some ((((i : Int).tmod 2) + 1), ((i : Int) + 1), true) else c (s.set ((i : Int).tmod 2).toNat (IntKind.wrap .i64 ((s.getD ((i : Int).tmod 2).toNat 0) + (q.getD (l.getD ((i : Nat) : Int).toNat 0).toNat 0))))) else none else none else none else none) = some (w, u, ok) ∧ (ok = true → 0 < w → u.tmod 2 = w.tmod 2) := by
          intro q
          have h2 := (two_mod (i := i)).1
          rw [if_pos (by omega), if_pos (by omega), if_pos hp'.1, if_pos (by omega)]
          split
          · exact ⟨_, _, _, rfl, fun _ _ => fin⟩
          · exact hc _ trivial
        by_cases h : (i : Int).tmod 2 = 1
        · rw [if_pos h]; exact hj b
        · rw [if_neg h]; exact hj a
      · rw [if_neg hp]
        exact ⟨_, _, _, rfl, fun h => by cases h⟩
  obtain ⟨w, u, ok, k1, k2⟩ := key
  exact ⟨w, u, ok, k1, k1, k2⟩
end Go.GA
