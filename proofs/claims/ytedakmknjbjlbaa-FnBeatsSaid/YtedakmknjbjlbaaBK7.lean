/- Plain law of FnBeats: the draws. -/
import Derived.Test.YtedakmknjbjlbaaBK6
namespace Go.GA
open Go
set_option maxRecDepth 100000
theorem beside_ok {x : List Int} (hx : Bytes x) {d : List Int} (hd : d.length = 6) {a s : Int} (h0 : 0 ≤ a) (h1 : a ≤ 800000) : ∃ d' a' s', p_spec_l1Cur_beside d x a s = some (d', a', s') ∧ d'.length = 6 := by
  unfold p_spec_l1Cur_beside
  obtain ⟨b, a1, s1, e1, b1, b2⟩ := oneD_ok hx (n := 2) (at_ := a) (s := s) h0 (by omega) (by omega)
  rw [e1, Option.bind_some]
  simp only
  split
  · obtain ⟨d2, a2, s2, e2, q1, q2, q3⟩ := die_ok hx (x1 := a1) (x2 := s1) (by omega) (by omega)
    rw [e2, Option.bind_some]
    exact ⟨_, _, _, rfl, q1⟩
  · obtain ⟨u, a2, s2, e2, u0, u1, b3, b4⟩ := pick_ok hx (n := 6) (at_ := a1) (s := s1) (by omega) (by omega) (by omega)
    rw [e2, Option.bind_some]
    simp only
    rw [if_pos u0, if_pos (by omega)]
    obtain ⟨w, a3, s3, e3, _, _, b5, b6⟩ := pick_ok hx (n := 3) (at_ := a2) (s := s2) (by omega) (by omega) (by omega)
    rw [e3, Option.bind_some]
    exact ⟨_, _, _, rfl, by rw [sorted_len]; simp [hd]⟩
theorem draw1 {x : List Int} (hx : Bytes x) : ∃ d e, p_spec_DrawCompareDice x = some (d, e) ∧ d.length = 6 ∧ e.length = 6 := by
  unfold p_spec_DrawCompareDice
  obtain ⟨d, a, s, e, q1, q2, q3⟩ := die_ok hx (x1 := 0) (x2 := 0) (by omega) (by omega)
  rw [e, Option.bind_some]
  simp only
  obtain ⟨d', a', s', e', q4⟩ := beside_ok hx q1 (a := a) (s := s) (by omega) (by omega)
  rw [e', Option.bind_some]
  exact ⟨_, _, rfl, q1, q4⟩
theorem own_eq {p : List (List Int)} (h : p.length ≤ 5) : p_spec_l2Own p = some p := by
  unfold p_spec_l2Own
  rw [if_pos (by omega)]
  rfl
theorem draw2 {x : List Int} (hx : Bytes x) {fu : Nat} (hf : 64 ≤ fu) : ∃ p q, p_spec_DrawChanceToBeat fu x = some (p, q) ∧ Six p ∧ Six q := by
  unfold p_spec_DrawChanceToBeat
  obtain ⟨p, a, s, e, c1, c2, c3, c4⟩ := pool_ok hx hf (x1 := 0) (x2 := 0) (by omega) (by omega)
  rw [e, Option.bind_some]
  simp only
  obtain ⟨b, a1, s1, e1, b1, b2⟩ := oneD_ok hx (n := 4) (at_ := a) (s := s) (by omega) (by omega) (by omega)
  rw [e1, Option.bind_some]
  simp only
  split
  · rw [own_eq c1, Option.bind_some]
    exact ⟨_, _, rfl, c2, c2⟩
  · obtain ⟨q, a2, s2, e2, d1, d2, d3, d4⟩ := pool_ok hx hf (x1 := a1) (x2 := s1) (by omega) (by omega)
    rw [e2, Option.bind_some]
    exact ⟨_, _, rfl, c2, d2⟩
end Go.GA
