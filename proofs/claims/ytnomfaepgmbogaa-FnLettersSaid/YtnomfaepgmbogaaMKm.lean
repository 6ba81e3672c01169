/- Plain law of FnLetters: the letters that are drawn. -/
import Derived.Test.YtnomfaepgmbogaaMKl
namespace Go.GA
open Go
set_option maxRecDepth 100000
abbrev LS : Type := Int × Int × List Int × List Int
def lF {R : Type} (x : List Int) (n : Int) (E : LS → Option R) : LS → (LS → Option R) → Option R := fun s5 c7 => (if (s5.2.2.1.length : Int) < (IntKind.wrap .i64 (6 * n)) then (p_spec_l1Cur_pick n x s5.1 s5.2.1).bind (fun r12 => if 0 ≤ r12.1 then if r12.1 < 4 then (if (s5.2.2.2.getD r12.1.toNat 0) < 6 then if (s5.2.2.1.length : Int) + 1 ≤ 1000000000 then c7 (r12.2.1, r12.2.2, (s5.2.2.1 ++ [r12.1]), (s5.2.2.2.set r12.1.toNat (IntKind.wrap .i64 ((s5.2.2.2.getD r12.1.toNat 0) + 1)))) else none else c7 (r12.2.1, r12.2.2, s5.2.2.1, s5.2.2.2)) else none else none) else E s5)
def cs (l : List Nat) : List Int := l.map (fun n => ((n : Nat) : Int))
theorem cs_get (l : List Nat) (i : Nat) : (cs l).getD i 0 = ((l.getD i 0 : Nat) : Int) := by
  unfold cs
  rw [List.getD_eq_getElem?_getD, List.getD_eq_getElem?_getD, List.getElem?_map]
  cases l[i]? <;> rfl
theorem cs_set (l : List Nat) (i v : Nat) : (cs l).set i (v : Int) = cs (l.set i v) := by
  unfold cs
  rw [List.map_set]
structure Lt (N : Nat) (out : List Int) (l : List Nat) : Prop where
  len : l.length = 4
  sum : (l.take N).sum = out.length
theorem Lt.ex {N : Nat} {out : List Int} {l : List Nat} (h : Lt N out l) (h4 : N ≤ 4) (hlt : out.length < 6 * N) : ∃ i, i < N ∧ l.getD i 0 < 6 := by
  obtain ⟨hl, hs⟩ := h
  obtain ⟨a, b, c, d, rfl⟩ : ∃ a b c d, l = [a, b, c, d] := by
    match l, hl with
    | [a, b, c, d], _ => exact ⟨a, b, c, d, rfl⟩
  have : N = 0 ∨ N = 1 ∨ N = 2 ∨ N = 3 ∨ N = 4 := by omega
  rcases this with rfl | rfl | rfl | rfl | rfl
  · omega
  · simp at hs; exact ⟨0, by omega, by simp; omega⟩
  · simp at hs
    by_cases ha : a < 6
    · exact ⟨0, by omega, by simpa using ha⟩
    · exact ⟨1, by omega, by simp; omega⟩
  · simp at hs
    by_cases ha : a < 6
    · exact ⟨0, by omega, by simpa using ha⟩
    · by_cases hb : b < 6
      · exact ⟨1, by omega, by simpa using hb⟩
      · exact ⟨2, by omega, by simp; omega⟩
  · simp at hs
    by_cases ha : a < 6
    · exact ⟨0, by omega, by simpa using ha⟩
    · by_cases hb : b < 6
      · exact ⟨1, by omega, by simpa using hb⟩
      · by_cases hc : c < 6
        · exact ⟨2, by omega, by simpa using hc⟩
        · exact ⟨3, by omega, by simp; omega⟩
theorem sum_setN : ∀ (l : List Nat) (i v : Nat), i < l.length → (l.set i v).sum + l.getD i 0 = l.sum + v
  | [], i, v, h => by simp at h
  | a :: l, 0, v, h => by simp; omega
  | a :: l, i + 1, v, h => by
    have := sum_setN l i v (by simpa using h)
    simp only [List.set_cons_succ, List.sum_cons, List.getD_cons_succ]
    omega
theorem Lt.add {N i : Nat} {out : List Int} {l : List Nat} (h : Lt N out l) (h4 : N ≤ 4) (hi : i < N) : Lt N (out ++ [(i : Int)]) (l.set i (l.getD i 0 + 1)) := by
  obtain ⟨hl, hs⟩ := h
  refine ⟨by simpa using hl, ?_⟩
  have e : (l.set i (l.getD i 0 + 1)).take N = (l.take N).set i (l.getD i 0 + 1) := List.take_set
  have g : (l.take N).getD i 0 = l.getD i 0 := by
    rw [List.getD_eq_getElem?_getD, List.getD_eq_getElem?_getD, List.getElem?_take, if_pos hi]
  have := sum_setN (l.take N) i (l.getD i 0 + 1) (by rw [List.length_take]; omega)
  rw [e, List.length_append]
  rw [g] at this
  simp only [List.length_cons, List.length_nil]
  omega
section
variable {x : List Int} {N : Nat} {R : Type} {E : LS → Option R}
theorem lF_step (h4 : N ≤ 4) {a S : Int} {a' S' : Int} {i : Nat} {out : List Int} {l : List Nat} (hlt : out.length < 6 * N) (hi : i < N) (hp : p_spec_l1Cur_pick (N : Int) x a S = some ((i : Int), a', S')) (c : LS → Option R) :
    lF x (N : Int) E (a, S, out, cs l) c = if l.getD i 0 < 6 then c (a', S', out ++ [(i : Int)], cs (l.set i (l.getD i 0 + 1))) else c (a', S', out, cs l) := by
  unfold lF
  simp only
  rw [wr (n := 6 * (N : Int)) (by omega) (by omega), if_pos (by omega), hp, Option.bind_some]
  simp only
  rw [if_pos (by omega), if_pos (by omega), Int.toNat_natCast, cs_get]
  by_cases h6 : l.getD i 0 < 6
  · rw [if_pos (by omega), if_pos (by omega), if_pos h6, wr (by omega) (by omega), show ((l.getD i 0 : Nat) : Int) + 1 = ((l.getD i 0 + 1 : Nat) : Int) from rfl, cs_set]
  · rw [if_neg (by omega), if_neg h6]
/-- what one more letter is -/
def More (x : List Int) (N : Nat) (E : LS → Option R) (B : Nat) (a : Int) (S : Nat) (out : List Int) (l : List Nat) : Prop :=
  ∃ (k : Nat) (a' : Int) (S' i : Nat), k ≤ B ∧ a ≤ a' ∧ a' ≤ a + (B : Int) ∧ i < N ∧ l.getD i 0 < 6 ∧ ∀ fu, whl (lF x (N : Int) E) (fu + k) (a, (S : Int), out, cs l) = whl (lF x (N : Int) E) fu (a', (S' : Int), out ++ [(i : Int)], cs (l.set i (l.getD i 0 + 1)))
theorem whl_one {S' R' : Type} (f : S' → (S' → Option R') → Option R') (fu : Nat) (s : S') : whl f (fu + 1) s = f s (whl f fu) := rfl
theorem hitA (hx : Bytes x) (h2 : 2 ≤ N) (h4 : N ≤ 4) {out : List Int} {l : List Nat} (hlt : out.length < 6 * N) : ∀ (j : Nat) (a : Int) (S : Nat), (x.length : Int) ≤ a → a + (j : Int) ≤ 4611686018427387904 → (∃ i, i < N ∧ l.getD i 0 < 6 ∧ seedV (seedJ (j + 1) S) = i) → More x N E (j + 1) a S out l
  | j, a, S, ha, hb, hh => by
    obtain ⟨v, S', e, hv⟩ := pick_nat hx h2 (by omega) (S := S) (at_ := a) (by omega) (by omega)
    obtain ⟨e1, e2⟩ := hv ha
    have hi : v % N < N := Nat.mod_lt _ (by omega)
    have hs := fun c => lF_step (E := E) h4 hlt hi e (l := l) c
    by_cases h6 : l.getD (v % N) 0 < 6
    · refine ⟨1, a + 1, S', v % N, by omega, by omega, by omega, hi, h6, fun fu => ?_⟩
      rw [whl_one, hs, if_pos h6]
    · obtain ⟨i, hi2, hi6, hvi⟩ := hh
      cases j with
      | zero =>
        exfalso
        rw [seedJ, itN_succ, itN_zero] at hvi
        rw [e2, hvi, Nat.mod_eq_of_lt hi2] at h6
        exact h6 hi6
      | succ j =>
        rw [seedJ, itN_succ] at hvi
        obtain ⟨k, a', S2, i2, g1, g2, g3, g4, g5, g6⟩ := hitA hx h2 h4 hlt j (a + 1) S' (by omega) (by omega) ⟨i, hi2, hi6, by rw [e1]; exact hvi⟩
        refine ⟨k + 1, a', S2, i2, by omega, by omega, by omega, g4, g5, fun fu => ?_⟩
        rw [show fu + (k + 1) = (fu + k) + 1 by omega, whl_one, hs, if_neg h6]
        exact g6 fu
theorem hitB (hx : Bytes x) (h2 : 2 ≤ N) (h4 : N ≤ 4) {out : List Int} {l : List Nat} (hL : Lt N out l) (hlt : out.length < 6 * N) : ∀ (d : Nat) (a : Int) (S : Nat), 0 ≤ a → (x.length : Int) - a ≤ (d : Int) → a + (d : Int) + 281474976710656 ≤ 4611686018427387904 → More x N E (d + 281474976710656) a S out l
  | d, a, S, h0, hd, hb => by
    by_cases ha : (x.length : Int) ≤ a
    · obtain ⟨i, hi, h6⟩ := hL.ex h4 hlt
      obtain ⟨j, hj, hv⟩ := seed_hit S i (by omega)
      have hj' : j < 281474976710656 := by rw [show (281474976710656 : Nat) = 2 ^ 48 by decide]; exact hj
      obtain ⟨k, a', S2, i2, g1, g2, g3, g4, g5, g6⟩ := hitA (E := E) hx h2 h4 hlt j a S ha (by omega) ⟨i, hi, h6, hv⟩
      exact ⟨k, a', S2, i2, by omega, g2, by omega, g4, g5, g6⟩
    · cases d with
      | zero => omega
      | succ d =>
        obtain ⟨v, S', e, _⟩ := pick_nat hx h2 (by omega) (S := S) (at_ := a) (by omega) (by omega)
        have hi : v % N < N := Nat.mod_lt _ (by omega)
        have hs := fun c => lF_step (E := E) h4 hlt hi e (l := l) c
        by_cases h6 : l.getD (v % N) 0 < 6
        · refine ⟨1, a + 1, S', v % N, by omega, by omega, by omega, hi, h6, fun fu => ?_⟩
          rw [whl_one, hs, if_pos h6]
        · obtain ⟨k, a', S2, i2, g1, g2, g3, g4, g5, g6⟩ := hitB hx h2 h4 hL hlt d (a + 1) S' (by omega) (by omega) (by omega)
          refine ⟨k + 1, a', S2, i2, by omega, by omega, by omega, g4, g5, fun fu => ?_⟩
          rw [show fu + (k + 1) = (fu + k) + 1 by omega, whl_one, hs, if_neg h6]
          exact g6 fu
/-- one more letter comes -/
theorem more_ok (hx : Bytes x) (hl : x.length ≤ 70000) (h1 : 1 ≤ N) (h4 : N ≤ 4) {out : List Int} {l : List Nat} (hL : Lt N out l) (hlt : out.length < 6 * N) {a : Int} (S : Nat) (h0 : 0 ≤ a) (hb : a ≤ 4611404000000000000) : More x N E 281474976790656 a S out l := by
  by_cases h2 : 2 ≤ N
  · obtain ⟨k, a', S2, i2, g1, g2, g3, g4, g5, g6⟩ := hitB (E := E) hx h2 h4 hL hlt 70000 a S h0 (by omega) (by omega)
    exact ⟨k, a', S2, i2, by omega, g2, by omega, g4, g5, g6⟩
  · obtain rfl : N = 1 := by omega
    have hp : p_spec_l1Cur_pick ((1 : Nat) : Int) x a (S : Int) = some (((0 : Nat) : Int), a, (S : Int)) := by
      unfold p_spec_l1Cur_pick
      rw [if_pos (by omega)]; rfl
    obtain ⟨i, hi, h6⟩ := hL.ex h4 hlt
    obtain rfl : i = 0 := by omega
    refine ⟨1, a, S, 0, by omega, by omega, by omega, by omega, h6, fun fu => ?_⟩
    rw [whl_one, lF_step (E := E) h4 hlt hi hp, if_pos h6]
/-- all of them -/
theorem all_letters (hx : Bytes x) (hl : x.length ≤ 70000) (h1 : 1 ≤ N) (h4 : N ≤ 4) : ∀ (r : Nat) (out : List Int) (l : List Nat) (a : Int) (S : Nat), Lt N out l → out.length + r = 6 * N → 0 ≤ a → a + (r : Int) * 281474976790656 ≤ 4611404000000000000 →
    ∃ (k : Nat) (a' : Int) (S' : Nat) (out' : List Int) (l' : List Nat), k ≤ r * 281474976790656 ∧ a ≤ a' ∧ a' ≤ a + (r : Int) * 281474976790656 ∧ out'.length = 6 * N ∧ ∀ fu, whl (lF x (N : Int) E) (fu + k) (a, (S : Int), out, cs l) = whl (lF x (N : Int) E) fu (a', (S' : Int), out', cs l')
  | 0, out, l, a, S, hL, hr, h0, hb => ⟨0, a, S, out, l, by omega, by omega, by omega, by omega, fun fu => rfl⟩
  | r + 1, out, l, a, S, hL, hr, h0, hb => by
    obtain ⟨k, a', S', i, g1, g2, g3, g4, g5, g6⟩ := more_ok (E := E) hx hl h1 h4 hL (by omega) S h0 (by omega)
    obtain ⟨k2, a2, S2, out2, l2, f1, f2, f3, f4, f5⟩ := all_letters hx hl h1 h4 r (out ++ [(i : Int)]) (l.set i (l.getD i 0 + 1)) a' S' (hL.add h4 g4) (by simp; omega) (by omega) (by omega)
    refine ⟨k2 + k, a2, S2, out2, l2, by omega, by omega, by omega, f4, fun fu => ?_⟩
    rw [show fu + (k2 + k) = (fu + k2) + k by omega, g6, f5]
end
end Go.GA
