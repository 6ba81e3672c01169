/- Plain law of FnCounts: what the law draws. -/
import Derived.Test.YtalieojbaiiioaaXKz
namespace Go.GA
open Go
set_option maxRecDepth 100000
theorem drawLike {x : List Int} (hx : Bytes x) {fu : Nat} (hf : 64 ≤ fu) : ∃ d y, p_spec_DrawChanceOfCounts fu x = some (d, y) ∧ d.length = 6 := by
  unfold p_spec_DrawChanceOfCounts p_spec_DrawLikelihoodOf
  obtain ⟨d, a, s, e, h6, b1, b2⟩ := die_ok hx (x1 := 0) (x2 := 0) (by omega) (by omega)
  rw [e, Option.bind_some]
  obtain ⟨r, a2, s2, e2⟩ := counts11_ok hx hf (d := d) (x1 := a) (x2 := s) (by omega) (by omega)
  simp only
  rw [e2, Option.bind_some, Option.bind_some]
  exact ⟨_, _, rfl, h6⟩
theorem drawRolls {x : List Int} (hx : Bytes x) {fu : Nat} (hf : 64 ≤ fu) : ∃ d y, p_spec_DrawCountRolls fu x = some (d, y) ∧ d.length = 6 := by
  unfold p_spec_DrawCountRolls
  obtain ⟨d, a, s, e, h6, b1, b2⟩ := die_ok hx (x1 := 0) (x2 := 0) (by omega) (by omega)
  rw [e, Option.bind_some]
  simp only
  obtain ⟨r, a3, s3, e3⟩ := rolls11_ok hx hf (d := d) (x1 := a) (x2 := s) (by omega) (by omega)
  rw [e3, Option.bind_some]
  exact ⟨_, _, rfl, h6⟩
theorem drawMode {x : List Int} (hx : Bytes x) : ∃ d n, p_spec_DrawFirstMode x = some (d, n) ∧ d.length = 6 := by
  unfold p_spec_DrawFirstMode p_spec_DrawCountVectors
  obtain ⟨d, a, s, e, h6, b1, b2⟩ := die_ok hx (x1 := 0) (x2 := 0) (by omega) (by omega)
  rw [e, Option.bind_some]
  simp only
  obtain ⟨v, a1, s1, e1, v0, v1, b3, b4⟩ := pick_ok hx (n := 24) (at_ := a) (s := s) (by omega) (by omega) (by omega)
  rw [e1, Option.bind_some]
  simp only
  obtain ⟨d1, d2, d3⟩ := div8 v0 (by omega) 5 ⟨by omega, by omega⟩
  rw [d1, if_pos (by omega), if_pos (by omega)]
  obtain ⟨w, a2, s2, e2, _, _⟩ := amongT_ok hx (l := [2, 3, 1, 4, 0, 8, 9, (-1)]) (n := 5 + v / 8) (by omega) (by simp) (by simp) (at_ := a1) (s := s1) (by omega) (by omega)
  rw [e2, Option.bind_some, Option.bind_some]
  exact ⟨_, _, rfl, h6⟩
end Go.GA
