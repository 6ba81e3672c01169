/- Plain law of FnBeats: the least shift. -/
import Derived.Test.YtedakmknjbjlbaaBK8
namespace Go.GA
open Go
set_option maxRecDepth 100000
theorem isDie6 (a b c d e f : Int) : p_impl_IsDie [a, b, c, d, e, f] = true ↔ (0 ≤ a ∧ a ≤ b ∧ b ≤ c ∧ c ≤ d ∧ d ≤ e ∧ e ≤ f ∧ f ≤ 30) := by
  unfold p_impl_IsDie
  rw [faces_all]
  simp [p_slices_IsSorted_int_int, cntd, pwithin_eq, p_cmp_Less_int, p_cmp_isNaN_int]
  omega
/-- faces of a die -/
theorem die_faces {x : List Int} (h : x.length = 6) (hd : p_impl_IsDie x = true) : ∃ a b c d e f, x = [a, b, c, d, e, f] ∧ (0 ≤ a ∧ a ≤ b ∧ b ≤ c ∧ c ≤ d ∧ d ≤ e ∧ e ≤ f ∧ f ≤ 30) := by
  obtain ⟨a, b, c, d, e, f, rfl⟩ := len6 h
  exact ⟨a, b, c, d, e, f, rfl, (isDie6 a b c d e f).1 hd⟩
theorem shifted_six {a b c d e f s : Int} (h : 0 ≤ a ∧ a ≤ b ∧ b ≤ c ∧ c ≤ d ∧ d ≤ e ∧ e ≤ f ∧ f ≤ 30) (h0 : 0 ≤ s) (h1 : s ≤ 31) : p_impl_shifted [a, b, c, d, e, f] s = [a + s, b + s, c + s, d + s, e + s, f + s] := by
  have e0 : p_impl_shifted [a, b, c, d, e, f] s = [IntKind.wrap .i64 (a + s), IntKind.wrap .i64 (b + s), IntKind.wrap .i64 (c + s), IntKind.wrap .i64 (d + s), IntKind.wrap .i64 (e + s), IntKind.wrap .i64 (f + s)] := rfl
  rw [e0, wr (by omega) (by omega), wr (by omega) (by omega), wr (by omega) (by omega), wr (by omega) (by omega), wr (by omega) (by omega), wr (by omega) (by omega)]
theorem shifted_len {x : List Int} (h : x.length = 6) (s : Int) : (p_impl_shifted x s).length = 6 := by
  obtain ⟨a, b, c, d, e, f, rfl⟩ := len6 h
  rfl
theorem shifted_die {x : List Int} (h : x.length = 6) (hd : p_impl_IsDie x = true) {s : Int} (h0 : 0 ≤ s) (h1 : s ≤ 31) : p_impl_IsDie (p_impl_shifted x s) = decide (x.getD 5 0 + s ≤ 30) := by
  obtain ⟨a, b, c, d, e, f, rfl, hf⟩ := die_faces h hd
  rw [shifted_six hf h0 h1, Bool.eq_iff_iff, isDie6]
  have e5 : ([a, b, c, d, e, f] : List Int).getD 5 0 = f := rfl
  rw [e5, decide_eq_true_eq]
  omega
def shI (x y : List Int) : Int → (Int → Option (Int × Bool)) → Option (Int × Bool) := fun (s7 : Int) c9 => (if (p_impl_IsDie (p_impl_shifted x s7)) = true then (p_impl_beats (p_impl_shifted x s7) y).bind (fun r12 => (if 0 < r12 then some (s7, true) else c9 (IntKind.wrap .i64 (s7 + 1)))) else some (0, false))
def shS (x y : List Int) : Int → (Int → Option (Int × Bool)) → Option (Int × Bool) := fun (s9 : Int) c11 => (if (IntKind.wrap .i64 ((x.getD 5 0) + s9)) ≤ 30 then cnt (fun i17 (s16 : (List Int)) c18 _ => c18 (s16.set i17.toNat (IntKind.wrap .i64 ((x.getD i17.toNat 0) + s9)))) (fun i17 (s16 : (List Int)) => (if (p_spec_l3Beats s16 y) = true then some (s9, true) else c11 (IntKind.wrap .i64 (s9 + 1)))) (Int.toNat (6 - 0)) 0 x else some (0, false))
theorem last_face {x : List Int} (h : x.length = 6) (hd : p_impl_IsDie x = true) : 0 ≤ x.getD 5 0 ∧ x.getD 5 0 ≤ 30 := by
  obtain ⟨a, b, c, d, e, f, rfl, hf⟩ := die_faces h hd
  show 0 ≤ f ∧ f ≤ 30
  omega
theorem shI_step {x y : List Int} (h : x.length = 6) (hd : p_impl_IsDie x = true) {s : Int} (h0 : 0 ≤ s) (h1 : s ≤ 31) (c : Int → Option (Int × Bool)) : shI x y s c = if x.getD 5 0 + s ≤ 30 then (if btB (p_impl_shifted x s) y = true then some (s, true) else c (s + 1)) else some (0, false) := by
  unfold shI
  rw [shifted_die h hd h0 h1, beats_eq, Option.bind_some, wr (by omega) (by omega)]
  simp only [decide_eq_true_eq, cmp_pos]
  unfold btB
  simp only [decide_eq_true_eq]
theorem shS_step {x y : List Int} (h : x.length = 6) (hd : p_impl_IsDie x = true) {s : Int} (h0 : 0 ≤ s) (h1 : s ≤ 31) (c : Int → Option (Int × Bool)) : shS x y s c = if x.getD 5 0 + s ≤ 30 then (if btB (p_impl_shifted x s) y = true then some (s, true) else c (s + 1)) else some (0, false) := by
  have hl := last_face h hd
  have e1 : cnt (fun i17 (s16 : (List Int)) c18 _ => c18 (s16.set i17.toNat (IntKind.wrap .i64 ((x.getD i17.toNat 0) + s)))) (fun i17 (s16 : (List Int)) => (if (p_spec_l3Beats s16 y) = true then some (s, true) else c (s + 1))) (Int.toNat (6 - 0)) 0 x = if (p_spec_l3Beats (p_impl_shifted x s) y) = true then some (s, true) else c (s + 1) := by
    obtain ⟨a, b, c, d, e, f, rfl⟩ := len6 h
    rfl
  unfold shS
  rw [wr (n := s + 1) (by omega) (by omega), wr (by omega) (by omega), e1, l3Beats_eq]
/-- what the least shift is -/
def LeastQ (x y : List Int) (q : Int) (ok : Bool) : Prop := ok = true → 0 ≤ q ∧ x.getD 5 0 + q ≤ 30 ∧ btB (p_impl_shifted x q) y = true ∧ (0 < q → btB (p_impl_shifted x (q - 1)) y = false)
theorem shift_run {x y : List Int} (h : x.length = 6) (hd : p_impl_IsDie x = true) : ∀ (n : Nat) (s : Int), 0 ≤ s → x.getD 5 0 + s ≤ 31 → 31 - s < n → (0 < s → btB (p_impl_shifted x (s - 1)) y = false) → ∃ q ok, whl (shI x y) n s = some (q, ok) ∧ whl (shS x y) n s = some (q, ok) ∧ LeastQ x y q ok
  | 0, s, h0, h1, h2, h3 => by have := last_face h hd; omega
  | n + 1, s, h0, h1, h2, h3 => by
    have hl := last_face h hd
    have s1 : whl (shI x y) (n + 1) s = shI x y s (whl (shI x y) n) := rfl
    have s2 : whl (shS x y) (n + 1) s = shS x y s (whl (shS x y) n) := rfl
    have ih := shift_run (y := y) h hd n (s + 1)
    rw [s1, s2, shI_step h hd h0 (by omega), shS_step h hd h0 (by omega)]
    by_cases hc : x.getD 5 0 + s ≤ 30
    · rw [if_pos hc, if_pos hc]
      by_cases hb : btB (p_impl_shifted x s) y = true
      · rw [if_pos hb, if_pos hb]
        exact ⟨s, true, rfl, rfl, fun _ => ⟨h0, hc, hb, h3⟩⟩
      · rw [if_neg hb, if_neg hb]
        refine ih (by omega) (by omega) (by omega) (fun _ => ?_)
        rw [show s + 1 - 1 = s by omega]
        simpa using hb
    · rw [if_neg hc, if_neg hc]
      exact ⟨0, false, rfl, rfl, fun h => by cases h⟩
theorem least_eq {x y : List Int} (hx : x.length = 6) (hy : y.length = 6) {fu : Nat} (hf : 64 ≤ fu) : ∃ q ok, p_impl_LeastShift fu x y = some (q, ok) ∧ p_spec_LeastShift fu x y = some (q, ok) ∧ (ok = true → p_impl_IsDie x = true ∧ p_impl_IsDie y = true) ∧ LeastQ x y q ok := by
  have e1 : p_impl_LeastShift fu x y = if ((!(p_impl_IsDie x)) || (!(p_impl_IsDie y))) = true then some (0, false) else whl (shI x y) fu 0 := rfl
  have e2 : p_spec_LeastShift fu x y = if ((!(p_impl_IsDie x)) || (!(p_impl_IsDie y))) = true then some (0, false) else whl (shS x y) fu 0 := by
    unfold p_spec_LeastShift
    rw [l2Die_eq hx, l2Die_eq hy, Option.bind_some]
    simp only [Option.isSome_some, Option.getD_some, implies_true, if_true]
    rfl
  rw [e1, e2]
  by_cases hc : ((!(p_impl_IsDie x)) || (!(p_impl_IsDie y))) = true
  · rw [if_pos hc, if_pos hc]
    exact ⟨0, false, rfl, rfl, (fun h => by cases h), (fun h => by cases h)⟩
  · rw [if_neg hc, if_neg hc]
    simp only [Bool.or_eq_true, Bool.not_eq_true', not_or, Bool.not_eq_false] at hc
    have hl := last_face hx hc.1
    obtain ⟨q, ok, r1, r2, r3⟩ := shift_run (y := y) hx hc.1 fu 0 (by omega) (by omega) (by omega) (fun h => by omega)
    exact ⟨q, ok, r1, r2, fun _ => hc, r3⟩
theorem shiftDie_ok {x : List Int} (hx : x.length = 6) (hd : p_impl_IsDie x = true) {q : Int} (h0 : 0 ≤ q) (h1 : x.getD 5 0 + q ≤ 30) : p_impl_ShiftDie x q = (p_impl_shifted x q, true) ∧ p_impl_IsDie (p_impl_shifted x q) = true := by
  have hl := last_face hx hd
  have e := shifted_die hx hd h0 (by omega)
  rw [decide_eq_true (by omega)] at e
  refine ⟨?_, e⟩
  unfold p_impl_ShiftDie
  rw [hd, e, pwithin_eq, decide_eq_true (by omega)]
  rfl
end Go.GA
