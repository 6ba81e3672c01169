/- Plain law of FnRuns: landing. -/
import Derived.Test.YtheplbbbfbbjcaaRK11
namespace Go.GA
open Go
set_option maxRecDepth 100000
set_option linter.unusedSectionVars false
/-- one face more -/
def tmL (L : List Int) (s : Nat) (acc f : Int) : Int := if f ≤ s then acc + L.getD ((s : Int) - f).toNat 0 * ((6 ^ (f - 1).toNat : Nat) : Int) else acc
def lsum (d L : List Int) (s : Nat) : Int := d.foldl (tmL L s) 0
def lpL (d : List Int) : Nat → List Int
  | 0 => [1]
  | s + 1 => lpL d s ++ [lsum d (lpL d s) (s + 1)]
def LB (L : List Int) (s : Nat) : Prop := L.length = s ∧ ∀ j, j < s → 0 ≤ L.getD j 0 ∧ L.getD j 0 ≤ ((6 ^ j : Nat) : Int)
theorem tm_le {L : List Int} {s : Nat} (h : LB L s) (h1 : 1 ≤ s) {f : Int} (hf : 1 ≤ f) (acc : Int) : acc ≤ tmL L s acc f ∧ tmL L s acc f ≤ acc + ((6 ^ (s - 1) : Nat) : Int) ∧ (f ≤ s → 0 ≤ L.getD ((s : Int) - f).toNat 0 * ((6 ^ (f - 1).toNat : Nat) : Int) ∧ L.getD ((s : Int) - f).toNat 0 * ((6 ^ (f - 1).toNat : Nat) : Int) ≤ ((6 ^ (s - 1) : Nat) : Int)) := by
  have hn : (0 : Int) ≤ ((6 ^ (s - 1) : Nat) : Int) := Int.natCast_nonneg _
  have key : f ≤ s → 0 ≤ L.getD ((s : Int) - f).toNat 0 * ((6 ^ (f - 1).toNat : Nat) : Int) ∧ L.getD ((s : Int) - f).toNat 0 * ((6 ^ (f - 1).toNat : Nat) : Int) ≤ ((6 ^ (s - 1) : Nat) : Int) := by
    intro hc
    have hj := h.2 ((s : Int) - f).toNat (by omega)
    refine ⟨Int.mul_nonneg hj.1 (Int.natCast_nonneg _), ?_⟩
    have h2 := Int.mul_le_mul_of_nonneg_right hj.2 (Int.natCast_nonneg (6 ^ (f - 1).toNat))
    rw [← Int.natCast_mul, ← Nat.pow_add, show ((s : Int) - f).toNat + (f - 1).toNat = s - 1 by omega] at h2
    exact h2
  unfold tmL
  split
  · rename_i hc
    have := key hc
    exact ⟨by omega, by omega, key⟩
  · exact ⟨by omega, by omega, key⟩
theorem fold_le {L : List Int} {s : Nat} (h : LB L s) (h1 : 1 ≤ s) : ∀ (d : List Int) (acc : Int), (∀ f ∈ d, 1 ≤ f ∧ f ≤ 30) → acc ≤ d.foldl (tmL L s) acc ∧ d.foldl (tmL L s) acc ≤ acc + d.length * ((6 ^ (s - 1) : Nat) : Int)
  | [], acc, _ => by simp
  | f :: d, acc, hd => by
    have h2 := tm_le h h1 (hd f (by simp)).1 acc
    have h3 := fold_le h h1 d (tmL L s acc f) (fun q hq => hd q (by simp [hq]))
    rw [List.foldl_cons, List.length_cons]
    have e : ((d.length + 1 : Nat) : Int) * ((6 ^ (s - 1) : Nat) : Int) = d.length * ((6 ^ (s - 1) : Nat) : Int) + ((6 ^ (s - 1) : Nat) : Int) := by
      rw [Int.natCast_add, Int.add_mul]; simp
    rw [e]
    omega
theorem lpL_ok {d : List Int} (hd : Run6 d) : ∀ s, LB (lpL d s) (s + 1)
  | 0 => ⟨rfl, fun j hj => by
      have : j = 0 := by omega
      subst this
      exact ⟨(by decide : (0 : Int) ≤ 1), (by decide : (1 : Int) ≤ ((6 ^ 0 : Nat) : Int))⟩⟩
  | s + 1 => by
    have ih := lpL_ok hd s
    have h2 := fold_le ih (by omega) d 0 hd.2
    rw [hd.1] at h2
    have e6 : ((6 ^ (s + 1) : Nat) : Int) = 6 * ((6 ^ s : Nat) : Int) := by rw [Nat.pow_succ]; omega
    rw [show s + 1 - 1 = s by omega] at h2
    refine ⟨by simp [lpL, ih.1], fun j hj => ?_⟩
    simp only [lpL]
    by_cases h : j = s + 1
    · subst h
      rw [List.getD_eq_getElem?_getD, List.getElem?_append_right (by rw [ih.1]; exact Nat.le_refl _), ih.1, Nat.sub_self]
      show 0 ≤ lsum d (lpL d s) (s + 1) ∧ lsum d (lpL d s) (s + 1) ≤ _
      unfold lsum
      rw [e6]
      omega
    · rw [List.getD_eq_getElem?_getD, List.getElem?_append_left (by rw [ih.1]; omega), ← List.getD_eq_getElem?_getD]
      exact ih.2 j (by omega)
/-- the loop over the faces: the reference's -/
def lanS (fu : Nat) (L : List Int) (s : Int) {R : Type} : Int → Int → (Int → Option R) → Option R := fun f s15 c17 => (if f ≤ s then if 0 ≤ (IntKind.wrap .i64 (s - f)) then if (IntKind.wrap .i64 (s - f)) < (L.length : Int) then (p_spec_l2All fu (IntKind.wrap .i64 (f - 1))).bind (fun r27 => c17 (IntKind.wrap .i64 (s15 + (IntKind.wrap .i64 ((L.getD (IntKind.wrap .i64 (s - f)).toNat 0) * r27))))) else none else none else c17 s15)
theorem lanS_one {fu : Nat} (hf : 64 ≤ fu) {L : List Int} {s : Nat} (h : LB L s) (h1 : 1 ≤ s) (h8 : s ≤ 8) {R : Type} {f acc : Int} (hg : 1 ≤ f ∧ f ≤ 30) (h0 : 0 ≤ acc) (hb : acc ≤ 1000000000) (c : Int → Option R) : lanS fu L (s : Int) f acc c = c (tmL L s acc f) := by
  have ht := tm_le h h1 hg.1 acc
  have hp := (p8 (k := s - 1) (by omega)).1
  unfold lanS tmL
  by_cases hc : f ≤ (s : Int)
  · have := ht.2.2 hc
    rw [if_pos hc, if_pos hc, wr (n := (s : Int) - f) (by omega) (by omega), if_pos (by omega), if_pos (by rw [h.1]; omega)]
    rw [wr (n := f - 1) (by omega) (by omega), show f - 1 = (((f - 1).toNat : Nat) : Int) by omega, all_eq (by omega) (by omega), Option.bind_some, Int.toNat_natCast]
    rw [wr (n := L.getD ((s : Int) - f).toNat 0 * ((6 ^ (f - 1).toNat : Nat) : Int)) (by omega) (by omega), wr (by omega) (by omega)]
  · rw [if_neg hc, if_neg hc]
theorem lanS_run {fu : Nat} (hf : 64 ≤ fu) {L : List Int} {s : Nat} (h : LB L s) (h1 : 1 ≤ s) (h8 : s ≤ 8) {R : Type} (K : Int → Option R) : ∀ (d : List Int) (acc : Int), (∀ f ∈ d, 1 ≤ f ∧ f ≤ 30) → 0 ≤ acc → acc + d.length * 1679616 ≤ 1000000000 → lrun (lanS fu L (s : Int)) K d acc = K (d.foldl (tmL L s) acc)
  | [], acc, _, _, _ => rfl
  | f :: d, acc, hd, h0, hb => by
    have ht := tm_le h h1 (hd f (by simp)).1 acc
    have hp := (p8 (k := s - 1) (by omega)).1
    simp only [List.length_cons] at hb
    show lanS fu L (s : Int) f acc (fun s' => lrun (lanS fu L (s : Int)) K d s') = _
    rw [lanS_one hf h h1 h8 (hd f (by simp)) h0 (by omega)]
    exact lanS_run hf h h1 h8 K d _ (fun q hq => hd q (by simp [hq])) (by omega) (by omega)
/-- .. and the program's -/
def lanI (fu : Nat) (n s : Int) {R : Type} : Int → List Int → (List Int → Option R) → Option R := fun f s17 c19 => (if f ≤ s then if 0 ≤ s then if s < (IntKind.wrap .i64 (n + 1)) then if 0 ≤ (IntKind.wrap .i64 (s - f)) then if (IntKind.wrap .i64 (s - f)) < (IntKind.wrap .i64 (n + 1)) then (p_impl_power fu (IntKind.wrap .i64 (f - 1))).bind (fun r31 => c19 (s17.set s.toNat (IntKind.wrap .i64 ((s17.getD s.toNat 0) + (IntKind.wrap .i64 ((s17.getD (IntKind.wrap .i64 (s - f)).toNat 0) * r31)))))) else none else none else none else none else c19 s17)
def arr (L : List Int) (acc : Int) (m : Nat) : List Int := L ++ acc :: List.replicate m 0
theorem arr_lt {L : List Int} {acc : Int} {m j : Nat} (h : j < L.length) : (arr L acc m).getD j 0 = L.getD j 0 := by
  unfold arr
  rw [List.getD_eq_getElem?_getD, List.getElem?_append_left h, ← List.getD_eq_getElem?_getD]
theorem arr_at {L : List Int} {acc : Int} {m : Nat} : (arr L acc m).getD L.length 0 = acc := by
  unfold arr
  rw [List.getD_eq_getElem?_getD, List.getElem?_append_right (Nat.le_refl _), Nat.sub_self]
  rfl
theorem arr_set {L : List Int} {acc v : Int} {m : Nat} : (arr L acc m).set L.length v = arr L v m := by
  unfold arr
  rw [List.set_append_right _ _ (Nat.le_refl _), Nat.sub_self]
  rfl
theorem lanI_one {fu : Nat} (hf : 64 ≤ fu) {L : List Int} {s n m : Nat} (h : LB L s) (h1 : 1 ≤ s) (h8 : s ≤ n) (hn : n ≤ 8) {R : Type} {f acc : Int} (hg : 1 ≤ f ∧ f ≤ 30) (h0 : 0 ≤ acc) (hb : acc ≤ 1000000000) (c : List Int → Option R) : lanI fu (n : Int) (s : Int) f (arr L acc m) c = c (arr L (tmL L s acc f) m) := by
  have ht := tm_le h h1 hg.1 acc
  have hp := (p8 (k := s - 1) (by omega)).1
  unfold lanI tmL
  by_cases hc : f ≤ (s : Int)
  · have := ht.2.2 hc
    rw [if_pos hc, if_pos hc, wr (n := (s : Int) - f) (by omega) (by omega), wr (n := (n : Int) + 1) (by omega) (by omega), if_pos (by omega), if_pos (by omega), if_pos (by omega), if_pos (by omega)]
    rw [wr (n := f - 1) (by omega) (by omega), show f - 1 = (((f - 1).toNat : Nat) : Int) by omega, power_eq (by omega) (by omega), Option.bind_some, Int.toNat_natCast, Int.toNat_natCast]
    rw [arr_lt (L := L) (acc := acc) (m := m) (j := ((s : Int) - f).toNat) (by rw [h.1]; omega)]
    have ea : (arr L acc m).getD s 0 = acc := by rw [← h.1]; exact arr_at
    have es : ∀ v, (arr L acc m).set s v = arr L v m := fun v => by rw [← h.1]; exact arr_set
    rw [ea, es, wr (n := L.getD ((s : Int) - f).toNat 0 * ((6 ^ (f - 1).toNat : Nat) : Int)) (by omega) (by omega), wr (by omega) (by omega)]
  · rw [if_neg hc, if_neg hc]
theorem lanI_run {fu : Nat} (hf : 64 ≤ fu) {L : List Int} {s n m : Nat} (h : LB L s) (h1 : 1 ≤ s) (h8 : s ≤ n) (hn : n ≤ 8) {R : Type} (K : List Int → Option R) : ∀ (d : List Int) (acc : Int), (∀ f ∈ d, 1 ≤ f ∧ f ≤ 30) → 0 ≤ acc → acc + d.length * 1679616 ≤ 1000000000 → lrun (lanI fu (n : Int) (s : Int)) K d (arr L acc m) = K (arr L (d.foldl (tmL L s) acc) m)
  | [], acc, _, _, _ => rfl
  | f :: d, acc, hd, h0, hb => by
    have ht := tm_le h h1 (hd f (by simp)).1 acc
    have hp := (p8 (k := s - 1) (by omega)).1
    simp only [List.length_cons] at hb
    show lanI fu (n : Int) (s : Int) f (arr L acc m) (fun s' => lrun (lanI fu (n : Int) (s : Int)) K d s') = _
    rw [lanI_one hf h h1 h8 hn (hd f (by simp)) h0 (by omega)]
    exact lanI_run hf h h1 h8 hn K d _ (fun q hq => hd q (by simp [hq])) (by omega) (by omega)
theorem arr_next {L : List Int} {v : Int} {m : Nat} : arr L v (m + 1) = arr (L ++ [v]) 0 m := by
  unfold arr
  rw [List.append_assoc, List.replicate_succ]
  rfl
def lopI (fu : Nat) (d : List Int) (x1 : Int) : Int × List Int → (Int × List Int → Option (List Int × Bool)) → Option (List Int × Bool) := fun (s10 : Int × (List Int)) c12 => (if s10.1 ≤ x1 then cnt (fun i18 (s17 : (List Int)) c19 _ => (if (d.getD i18.toNat 0) ≤ s10.1 then if 0 ≤ s10.1 then if s10.1 < (IntKind.wrap .i64 (x1 + 1)) then if 0 ≤ (IntKind.wrap .i64 (s10.1 - (d.getD i18.toNat 0))) then if (IntKind.wrap .i64 (s10.1 - (d.getD i18.toNat 0))) < (IntKind.wrap .i64 (x1 + 1)) then (p_impl_power fu (IntKind.wrap .i64 ((d.getD i18.toNat 0) - 1))).bind (fun r31 => c19 (s17.set s10.1.toNat (IntKind.wrap .i64 ((s17.getD s10.1.toNat 0) + (IntKind.wrap .i64 ((s17.getD (IntKind.wrap .i64 (s10.1 - (d.getD i18.toNat 0))).toNat 0) * r31)))))) else none else none else none else none else c19 s17)) (fun i18 (s17 : (List Int)) => c12 ((IntKind.wrap .i64 (s10.1 + 1)), s17)) (Int.toNat (6 - 0)) 0 s10.2 else if 0 ≤ x1 then if x1 < (IntKind.wrap .i64 (x1 + 1)) then (p_impl_power fu x1).bind (fun r34 => (p_impl_fraction fu (s10.2.getD x1.toNat 0) r34).bind (fun r35 => some (r35, true))) else none else none)
def lopS (fu : Nat) (d : List Int) (x1 : Int) : Int × List Int → (Int × List Int → Option (List Int × Bool)) → Option (List Int × Bool) := fun (s8 : Int × (List Int)) c10 => (if s8.1 ≤ x1 then cnt (fun i16 (s15 : Int) c17 _ => (if (d.getD i16.toNat 0) ≤ s8.1 then if 0 ≤ (IntKind.wrap .i64 (s8.1 - (d.getD i16.toNat 0))) then if (IntKind.wrap .i64 (s8.1 - (d.getD i16.toNat 0))) < (s8.2.length : Int) then (p_spec_l2All fu (IntKind.wrap .i64 ((d.getD i16.toNat 0) - 1))).bind (fun r27 => c17 (IntKind.wrap .i64 (s15 + (IntKind.wrap .i64 ((s8.2.getD (IntKind.wrap .i64 (s8.1 - (d.getD i16.toNat 0))).toNat 0) * r27))))) else none else none else c17 s15)) (fun i16 (s15 : Int) => if (s8.2.length : Int) + 1 ≤ 1000000000 then c10 ((IntKind.wrap .i64 (s8.1 + 1)), (s8.2 ++ [s15])) else none) (Int.toNat (6 - 0)) 0 0 else if 0 ≤ x1 then if x1 < (s8.2.length : Int) then (p_spec_l2All fu x1).bind (fun r31 => (p_spec_l2Cut fu (s8.2.getD x1.toNat 0) r31).bind (fun r32 => some (r32, true))) else none else none)
section
variable {d : List Int} (h6 : d.length = 6) (hr : p_impl_isRunner d = true) {n : Nat} (hn : n ≤ 8) {fu : Nat} (hf : 2000000 < fu)
include h6 hr hn hf
theorem land_I : ∀ (k s : Nat), 1 ≤ s → s ≤ n + 1 → n + 1 - s < k → whl (lopI fu d (n : Int)) k ((s : Int), if s ≤ n then arr (lpL d (s - 1)) 0 (n - s) else lpL d n) = some (cutF ((lpL d n).getD n 0).toNat (6 ^ n), true)
  | 0, s, _, _, h => by omega
  | k + 1, s, h1, hs, hk => by
    have hd := runner_six h6 hr
    have ih := land_I k (s + 1)
    rw [show ∀ z, whl (lopI fu d (n : Int)) (k + 1) z = lopI fu d (n : Int) z (whl (lopI fu d (n : Int)) k) from fun _ => rfl]
    generalize whl (lopI fu d (n : Int)) k = W at ih
    unfold lopI
    simp only
    by_cases hc : s ≤ n
    · rw [if_pos hc, if_pos (by omega)]
      have hL := lpL_ok hd (s - 1)
      rw [show s - 1 + 1 = s by omega] at hL
      rw [cnt_list (lanI fu (n : Int) (s : Int)) d 0 (by rw [hd.1]; rfl) (fun _ _ _ _ _ => rfl)]
      rw [lanI_run (by omega) hL h1 hc hn _ d 0 hd.2 (Int.le_refl _) (by rw [hd.1]; omega)]
      rw [wr (by omega) (by omega), show (s : Int) + 1 = ((s + 1 : Nat) : Int) by omega]
      have e : arr (lpL d (s - 1)) (d.foldl (tmL (lpL d (s - 1)) s) 0) (n - s) = (if s + 1 ≤ n then arr (lpL d (s + 1 - 1)) 0 (n - (s + 1)) else lpL d n) := by
        have e1 : lpL d (s - 1) ++ [d.foldl (tmL (lpL d (s - 1)) s) 0] = lpL d s := by
          obtain ⟨q, rfl⟩ : ∃ q, s = q + 1 := ⟨s - 1, by omega⟩
          rfl
        by_cases hc2 : s + 1 ≤ n
        · rw [if_pos hc2, show n - s = (n - (s + 1)) + 1 by omega, arr_next, e1, show s + 1 - 1 = s by omega]
        · rw [if_neg hc2, show n - s = 0 by omega]
          have : s = n := by omega
          rw [← this, ← e1]; rfl
      rw [e]
      exact ih (by omega) (by omega) (by omega)
    · have hL := lpL_ok hd n
      have hv := hL.2 n (by omega)
      have hp := p8 hn
      rw [if_neg hc, if_neg (by omega), if_pos (by omega), wr (by omega) (by omega), if_pos (by omega), power_eq (by omega) (by omega), Option.bind_some, Int.toNat_natCast]
      have := fraction_eq (fu := fu) ((lpL d n).getD n 0).toNat (6 ^ n) (by omega) (by omega) (by omega) (by omega)
      rw [show ((((lpL d n).getD n 0).toNat : Nat) : Int) = (lpL d n).getD n 0 by omega] at this
      rw [this, Option.bind_some]
theorem land_S : ∀ (k s : Nat), 1 ≤ s → s ≤ n + 1 → n + 1 - s < k → whl (lopS fu d (n : Int)) k ((s : Int), lpL d (s - 1)) = some (cutF ((lpL d n).getD n 0).toNat (6 ^ n), true)
  | 0, s, _, _, h => by omega
  | k + 1, s, h1, hs, hk => by
    have hd := runner_six h6 hr
    have ih := land_S k (s + 1)
    rw [show ∀ z, whl (lopS fu d (n : Int)) (k + 1) z = lopS fu d (n : Int) z (whl (lopS fu d (n : Int)) k) from fun _ => rfl]
    generalize whl (lopS fu d (n : Int)) k = W at ih
    unfold lopS
    simp only
    by_cases hc : s ≤ n
    · rw [if_pos (by omega)]
      have hL := lpL_ok hd (s - 1)
      rw [show s - 1 + 1 = s by omega] at hL
      rw [cnt_list (lanS fu (lpL d (s - 1)) (s : Int)) d 0 (by rw [hd.1]; rfl) (fun _ _ _ _ _ => rfl)]
      rw [lanS_run (by omega) hL h1 (by omega) _ d 0 hd.2 (Int.le_refl _) (by rw [hd.1]; omega)]
      rw [if_pos (by rw [hL.1]; omega), wr (by omega) (by omega), show (s : Int) + 1 = ((s + 1 : Nat) : Int) by omega]
      have e1 : lpL d (s - 1) ++ [d.foldl (tmL (lpL d (s - 1)) s) 0] = lpL d (s + 1 - 1) := by
        obtain ⟨q, rfl⟩ : ∃ q, s = q + 1 := ⟨s - 1, by omega⟩
        rfl
      rw [e1]
      exact ih (by omega) (by omega) (by omega)
    · have hL := lpL_ok hd n
      have hv := hL.2 n (by omega)
      have hp := p8 hn
      have es : s - 1 = n := by omega
      rw [es, if_neg (by omega), if_pos (by omega), if_pos (by rw [hL.1]; omega), all_eq (by omega) (by omega), Option.bind_some, Int.toNat_natCast]
      have := cut_eq (fu := fu) ((lpL d n).getD n 0).toNat (6 ^ n) (by omega) (by omega) (by omega) (by omega)
      rw [show ((((lpL d n).getD n 0).toNat : Nat) : Int) = (lpL d n).getD n 0 by omega] at this
      rw [this, Option.bind_some]
theorem land_eq : p_impl_LandChance fu d (n : Int) = some (cutF ((lpL d n).getD n 0).toNat (6 ^ n), true) ∧ p_spec_LandChance fu d (n : Int) = some (cutF ((lpL d n).getD n 0).toNat (6 ^ n), true) := by
  constructor
  · unfold p_impl_LandChance
    rw [hr, pwithin_eq, if_neg (by simp; omega), wr (n := (n : Int) + 1) (by omega) (by omega), if_pos (by omega), if_pos (by omega), if_pos (by omega)]
    have e0 : ((List.replicate ((n : Int) + 1).toNat (0 : Int)).set 0 1) = if 1 ≤ n then arr (lpL d (1 - 1)) 0 (n - 1) else lpL d n := by
      rw [show ((n : Int) + 1).toNat = n + 1 by omega, List.replicate_succ]
      by_cases h : 1 ≤ n
      · rw [if_pos h]
        obtain ⟨m, rfl⟩ : ∃ m, n = m + 1 := ⟨n - 1, by omega⟩
        rfl
      · rw [if_neg h]
        have : n = 0 := by omega
        subst this; rfl
    rw [e0]
    have := land_I h6 hr hn hf fu 1 (Nat.le_refl _) (by omega) (by omega)
    unfold lopI at this
    rw [wr (n := (n : Int) + 1) (by omega) (by omega)] at this
    exact this
  · unfold p_spec_LandChance
    rw [l7Die_eq h6, hr, Option.bind_some, pl1In_eq, if_neg (by simp; omega)]
    exact land_S h6 hr hn hf fu 1 (Nat.le_refl _) (by omega) (by omega)
theorem land_le : 0 ≤ (lpL d n).getD n 0 ∧ (lpL d n).getD n 0 ≤ ((6 ^ n : Nat) : Int) := (lpL_ok (runner_six h6 hr) n).2 n (by omega)
end
end Go.GA
