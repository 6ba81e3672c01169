/- Plain law of FnPairForms: symmetric pools, even sums. -/
import Derived.Test.YtebdkchfblddeaaPK10
namespace Go.GA
open Go
set_option maxRecDepth 100000
set_option linter.unusedSectionVars false
def symB (T : List Int) (lo hi : Int) : Int → (Int → Option (Bool × Bool)) → Option (Bool × Bool) := fun (s3 : Int) c5 => (if s3 ≤ hi then if 0 ≤ s3 then if s3 < 121 then if 0 ≤ (IntKind.wrap .i64 ((IntKind.wrap .i64 (lo + hi)) - s3)) then if (IntKind.wrap .i64 ((IntKind.wrap .i64 (lo + hi)) - s3)) < 121 then (if (T.getD s3.toNat 0) = (T.getD (IntKind.wrap .i64 ((IntKind.wrap .i64 (lo + hi)) - s3)).toNat 0) then c5 (s3 + 1) else some (false, true)) else none else none else none else none else some (true, true))
theorem sym_run (T : List Int) {lo hi : Int} (h0 : 0 ≤ lo) (h1 : lo ≤ hi) (h2 : hi ≤ 120) : ∀ (n : Nat) (s : Int), lo ≤ s → s ≤ hi + 1 → hi + 1 - s < n → ∃ b, whl (symB T lo hi) n s = some (b, true)
  | 0, s, _, _, h => by omega
  | n + 1, s, g0, g1, g2 => by
    have ih := sym_run T h0 h1 h2 n (s + 1)
    rw [show ∀ z, whl (symB T lo hi) (n + 1) z = symB T lo hi z (whl (symB T lo hi) n) from fun _ => rfl]
    generalize whl (symB T lo hi) n = W at ih
    unfold symB
    by_cases hc : s ≤ hi
    · rw [if_pos hc, if_pos (by omega), if_pos (by omega), wr (n := lo + hi) (by omega) (by omega), wr (by omega) (by omega), if_pos (by omega), if_pos (by omega)]
      split
      · exact ih (by omega) (by omega) (by omega)
      · exact ⟨_, rfl⟩
    · rw [if_neg hc]; exact ⟨_, rfl⟩
theorem sym_any {x : List (List Int)} (h6 : Six x) {fu : Nat} (hf : 2000 < fu) : ∃ b, p_impl_IsSymmetric fu x = some (b, p_impl_IsPool x) ∧ p_spec_IsSymmetric fu x = some (b, p_impl_IsPool x) := by
  by_cases hp : p_impl_IsPool x = true
  · obtain ⟨a, b, c, t⟩ := tab_facts h6 hp
    obtain ⟨b1, b2⟩ := bounds_eq h6 hp
    have l0 := t.l0
    have lh := t.lh
    have hhi : x.foldl fHi 0 ≤ 120 := by
      by_cases hc : (x.foldl fHi 0).toNat < (tabOf x).length
      · rw [c.len] at hc; omega
      · have := t.hi1
        rw [List.getD_eq_getElem?_getD, List.getElem?_eq_none (by omega)] at this
        simp at this
    obtain ⟨r, hr⟩ := sym_run (tabOf x) l0 lh hhi fu (x.foldl fLo 0) (Int.le_refl _) (by omega) (by omega)
    refine ⟨r, ?_, ?_⟩
    · unfold p_impl_IsSymmetric
      rw [if_pos hp, a, Option.bind_some, b1, hp]
      exact hr
    · unfold p_spec_IsSymmetric
      rw [b2, Option.bind_some, if_pos rfl, b, Option.bind_some, hp]
      exact hr
  · have hp' : p_impl_IsPool x = false := by simpa using hp
    refine ⟨false, ?_, ?_⟩
    · unfold p_impl_IsSymmetric; rw [if_neg hp, hp']
    · unfold p_spec_IsSymmetric p_spec_BoundsOf
      rw [pool_eq h6, Option.bind_some, if_neg hp, Option.bind_some, if_neg (by simp), hp']
/-- the ways of even sums -/
def ev (T : List Int) : Nat → Int
  | 0 => 0
  | k + 1 => ev T k + T.getD (2 * k) 0
section
variable {x : List (List Int)} (h6 : Six x) (hp : p_impl_IsPool x = true)
include h6 hp
theorem ev_le {k : Nat} (hk : k ≤ 61) : 0 ≤ ev (tabOf x) k ∧ ev (tabOf x) k ≤ ((6 ^ x.length : Nat) : Int) := by
  obtain ⟨t1, t2, t3⟩ := tab_six h6 hp
  obtain ⟨_, _, c, _⟩ := tab_facts h6 hp
  have key : ∀ k, 2 * k ≤ 122 → 0 ≤ ev (tabOf x) k ∧ ev (tabOf x) k ≤ tk (tabOf x) (2 * k) := by
    intro k
    induction k with
    | zero => intro _; simp [ev, tk]
    | succ k ih =>
      intro h
      have := ih (by omega)
      have e0 := t2 (2 * k)
      have e1 := t2 (2 * k + 1)
      rw [show 2 * (k + 1) = 2 * k + 1 + 1 by omega]
      simp only [ev, tk]
      omega
  have hk2 := key k (by omega)
  have hup : ∀ i, i ≤ 122 → tk (tabOf x) i ≤ (tabOf x).sum := by
    intro i hi
    by_cases h : i ≤ 121
    · have h9 := tk_sum (tabOf x) i (by omega)
      have h10 : 0 ≤ ((tabOf x).drop i).sum := by
        refine sum_nn (fun j => ?_)
        have := t2 (i + j)
        rw [List.getD_eq_getElem?_getD, List.getElem?_drop, ← List.getD_eq_getElem?_getD]
        exact this
      omega
    · have : i = 121 + 1 := by omega
      have e : tk (tabOf x) (121 + 1) = tk (tabOf x) 121 + (tabOf x).getD 121 0 := rfl
      rw [this, e, tk_all t1, List.getD_eq_getElem?_getD, List.getElem?_eq_none (by omega)]
      simp
  have := hup (2 * k) (by omega)
  rw [c.sum] at this
  omega
theorem even_eq {fu : Nat} (hf : 2000 < fu) : p_impl_EvenChance fu x = some (cutF (ev (tabOf x) 61).toNat (6 ^ x.length), true) ∧ p_spec_EvenChance fu x = some (cutF (ev (tabOf x) 61).toNat (6 ^ x.length), true) := by
  obtain ⟨a, b, c, _⟩ := tab_facts h6 hp
  obtain ⟨h1, h2, _⟩ := pool_good h6 hp
  have hn := n_le h6 hp
  have he61 := ev_le h6 hp (k := 61) (Nat.le_refl _)
  have eT : (((ev (tabOf x) 61).toNat : Nat) : Int) = ev (tabOf x) 61 := by omega
  constructor
  · unfold p_impl_EvenChance
    rw [if_pos hp, a, Option.bind_some]
    refine cnt_ind0 (S := Int) 121 (fun i s => s = ev (tabOf x) ((i + 1) / 2)) (fun r => r = some (cutF (ev (tabOf x) 61).toNat (6 ^ x.length), true)) rfl rfl (fun s hs => ?_) (fun i s cc hi hs hcc => ?_)
    · rw [hs, power_eq (by omega) (by omega), Option.bind_some]
      have := fraction_eq (fu := fu) (ev (tabOf x) 61).toNat (6 ^ x.length) (by omega) (by omega) (by omega) (by omega)
      rw [eT] at this
      show (p_impl_fraction fu (ev (tabOf x) 61) ((6 ^ x.length : Nat) : Int)).bind _ = _
      rw [this, Option.bind_some]
    · have e := ent_le h6 hp i
      have h3 := ev_le h6 hp (k := (i + 1) / 2) (by omega)
      have hm : (i : Int).tmod 2 = ((i % 2 : Nat) : Int) := by rw [Int.tmod_eq_emod_of_nonneg (by omega)]; omega
      rw [Int.toNat_natCast, hm, hs]
      by_cases h : i % 2 = 0
      · rw [if_pos (by omega), wr (by omega) (by omega)]
        refine hcc _ ?_
        have e2 : (i + 1 + 1) / 2 = (i + 1) / 2 + 1 := by omega
        have e3 : 2 * ((i + 1) / 2) = i := by omega
        rw [e2]
        simp only [ev]
        rw [e3]
      · rw [if_neg (by omega)]
        refine hcc _ ?_
        have e2 : (i + 1 + 1) / 2 = (i + 1) / 2 := by omega
        rw [e2]
  · unfold p_spec_EvenChance
    rw [pool_eq h6, Option.bind_some, if_pos hp, b, Option.bind_some]
    suffices hh : ∀ (n k : Nat), k ≤ 61 → 61 - k < n → whl (fun (s4 : Int × Int) c6 => (if s4.2 < 121 then c6 ((IntKind.wrap .i64 (s4.1 + ((tabOf x).getD s4.2.toNat 0))), (s4.2 + 2)) else (p_spec_l2All fu (x.length : Int)).bind (fun r11 => (p_spec_l2Cut fu s4.1 r11).bind (fun r12 => some (r12, true))))) n (ev (tabOf x) k, ((2 * k : Nat) : Int)) = some (cutF (ev (tabOf x) 61).toNat (6 ^ x.length), true) by
      exact hh fu 0 (by omega) (by omega)
    intro n
    induction n with
    | zero => intro k _ h; omega
    | succ n ih =>
      intro k hk hn'
      have ih' := ih (k + 1)
      rw [show ∀ (f : Int × Int → (Int × Int → Option (List Int × Bool)) → Option (List Int × Bool)) (z : Int × Int), whl f (n + 1) z = f z (whl f n) from fun _ _ => rfl]
      generalize whl (fun (s4 : Int × Int) c6 => (if s4.2 < 121 then c6 ((IntKind.wrap .i64 (s4.1 + ((tabOf x).getD s4.2.toNat 0))), (s4.2 + 2)) else (p_spec_l2All fu (x.length : Int)).bind (fun r11 => (p_spec_l2Cut fu s4.1 r11).bind (fun r12 => some (r12, true))))) n = W at ih'
      simp only
      by_cases hc : k < 61
      · have e := ent_le h6 hp (2 * k)
        have h3 := ev_le h6 hp (k := k) (by omega)
        rw [if_pos (by omega), Int.toNat_natCast, wr (by omega) (by omega), show ((2 * k : Nat) : Int) + 2 = ((2 * (k + 1) : Nat) : Int) by omega]
        exact ih' (by omega) (by omega)
      · have : k = 61 := by omega
        subst this
        rw [if_neg (by omega), all_eq (by omega) (by omega), Option.bind_some]
        have := cut_eq (fu := fu) (ev (tabOf x) 61).toNat (6 ^ x.length) (by omega) (by omega) (by omega) (by omega)
        rw [eT] at this
        rw [this, Option.bind_some]
end
def EEven (fu : Nat) (p : List (List Int)) (r : List Int) (ok : Bool) (k153 : Unit → Option Bool) : Option Bool := (if ok = true then whl (fun (s302 : Int × (List Int)) c304 => (if s302.1 ≤ 120 then (p_impl_ChanceOfSum fu p s302.1).bind (fun r309 => (if r309.2 = true then (p_laws_rPlus fu s302.2 r309.1).bind (fun r311 => c304 ((s302.1 + 2), r311)) else some false)) else (if s302.2 = r then k153 () else some false))) fu (0, [0, 1]) else k153 ())
theorem even_any {x : List (List Int)} (h6 : Six x) {fu : Nat} (hf : 2821109907456 < fu) : ∃ r ok, p_impl_EvenChance fu x = some (r, ok) ∧ p_spec_EvenChance fu x = some (r, ok) ∧ ∀ K, EEven fu x r ok K = K () := by
  by_cases hp : p_impl_IsPool x = true
  · obtain ⟨e1, e2⟩ := even_eq h6 hp (fu := fu) (by omega)
    refine ⟨_, _, e1, e2, fun K => ?_⟩
    have hn := n_le h6 hp
    unfold EEven
    rw [if_pos rfl]
    suffices hh : ∀ (n k : Nat), k ≤ 61 → 61 - k < n → whl (fun (s302 : Int × (List Int)) c304 => (if s302.1 ≤ 120 then (p_impl_ChanceOfSum fu x s302.1).bind (fun r309 => (if r309.2 = true then (p_laws_rPlus fu s302.2 r309.1).bind (fun r311 => c304 ((s302.1 + 2), r311)) else some false)) else (if s302.2 = (cutF (ev (tabOf x) 61).toNat (6 ^ x.length)) then K () else some false))) n (((2 * k : Nat) : Int), cutF (ev (tabOf x) k).toNat (6 ^ x.length)) = K () by
      have := hh fu 0 (by omega) (by omega)
      rw [← cut_zero hn.2]
      exact this
    intro n
    induction n with
    | zero => intro k _ h; omega
    | succ n ih =>
      intro k hk hn'
      have ih' := ih (k + 1)
      rw [show ∀ (f : Int × List Int → (Int × List Int → Option Bool) → Option Bool) (z : Int × List Int), whl f (n + 1) z = f z (whl f n) from fun _ _ => rfl]
      generalize whl (fun (s302 : Int × (List Int)) c304 => (if s302.1 ≤ 120 then (p_impl_ChanceOfSum fu x s302.1).bind (fun r309 => (if r309.2 = true then (p_laws_rPlus fu s302.2 r309.1).bind (fun r311 => c304 ((s302.1 + 2), r311)) else some false)) else (if s302.2 = (cutF (ev (tabOf x) 61).toNat (6 ^ x.length)) then K () else some false))) n = W at ih'
      simp only
      by_cases hc : k < 61
      · have e := ent_le h6 hp (2 * k)
        have h3 := ev_le h6 hp (k := k) (by omega)
        rw [if_pos (by omega), chance_eq h6 hp (by omega) (by omega) (by omega), Option.bind_some, if_pos rfl, Int.toNat_natCast]
        obtain ⟨p, q, z, ez, hz, q1, q2, q3, q4, q5⟩ := cut_parts ((tabOf x).getD (2 * k) 0).toNat (6 ^ x.length) hn.2
        have hpq : p * 6 ^ x.length = ((tabOf x).getD (2 * k) 0).toNat * q := by
          have h3 : p * 6 ^ x.length = p * (z * q) := by rw [← q2]
          rw [h3, q1]; simp only [Nat.mul_assoc, Nat.mul_comm, Nat.mul_left_comm]
        have a1 := plus_cut (fu := fu) (x := (ev (tabOf x) k).toNat) (y := ((tabOf x).getD (2 * k) 0).toNat) (N := 6 ^ x.length) (p := p) (q := q) (by omega) (by omega) q5 q3 hn.2 (by omega) hpq hf
        simp only
        rw [ez, a1, Option.bind_some, show ((2 * k : Nat) : Int) + 2 = ((2 * (k + 1) : Nat) : Int) by omega]
        have e5 : (ev (tabOf x) k).toNat + ((tabOf x).getD (2 * k) 0).toNat = (ev (tabOf x) (k + 1)).toNat := by
          simp only [ev]
          omega
        rw [e5]
        exact ih' (by omega) (by omega)
      · have : k = 61 := by omega
        subst this
        rw [if_neg (by omega), if_pos rfl]
  · refine ⟨List.replicate 2 0, false, ?_, ?_, fun K => rfl⟩
    · unfold p_impl_EvenChance; rw [if_neg hp]
    · unfold p_spec_EvenChance; rw [pool_eq h6, Option.bind_some, if_neg hp]
end Go.GA
