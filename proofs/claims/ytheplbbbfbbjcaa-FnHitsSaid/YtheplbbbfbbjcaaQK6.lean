/- Plain law of FnHits: draws. -/
import Derived.Test.YtheplbbbfbbjcaaQK5
namespace Go.GA
open Go
set_option maxRecDepth 100000
theorem amongT_ok {x : List Int} (hx : Bytes x) {l : List Int} {n : Int} (h0' : 1 ≤ n) (hl : 0 < l.length) (hl2 : l.length ≤ 1000) {at_ s : Int} (h0 : 0 ≤ at_) (h1 : at_ ≤ 999000) : ∃ v at' s', p_spec_l1Cur_among (l.take n.toNat) x at_ s = some (v, at', s') ∧ v ∈ l ∧ at_ ≤ at' ∧ at' ≤ at_ + 2 := by
  obtain ⟨v, a, s', e, hv, b1, b2⟩ := among_ok hx (l := l.take n.toNat) (by rw [List.length_take]; omega) (by rw [List.length_take]; omega) (at_ := at_) (s := s) h0 h1
  exact ⟨v, a, s', e, List.mem_of_mem_take hv, b1, b2⟩
theorem div11 {v : Int} (h0 : 0 ≤ v) (h1 : v < 24) (k : Int) (hk : 0 ≤ k ∧ k ≤ 100) : IntKind.wrap .i64 (k + IntKind.wrap .i64 (v.tdiv 11)) = k + v / 11 ∧ 0 ≤ v / 11 ∧ v / 11 ≤ 2 := by
  rw [Int.tdiv_eq_ediv_of_nonneg h0, wr (n := v / 11) (by omega) (by omega), wr (by omega) (by omega)]
  omega
theorem draw0 {x : List Int} (hx : Bytes x) {fu : Nat} (hf : 64 ≤ fu) : ∃ p b, p_spec_DrawHitTable fu x = some (p, b) ∧ Six p := by
  unfold p_spec_DrawHitTable
  obtain ⟨p, a, s, e, c1, c2, c3, c4⟩ := pool_ok hx hf (x1 := 0) (x2 := 0) (by omega) (by omega)
  rw [e, Option.bind_some]
  simp only
  obtain ⟨v, a1, s1, e1, v0, v1, b1, b2⟩ := pick_ok hx (n := 24) (at_ := a) (s := s) (by omega) (by omega) (by omega)
  rw [e1, Option.bind_some]
  simp only
  obtain ⟨d1, d2, d3⟩ := div11 v0 (by omega) 8 ⟨by omega, by omega⟩
  rw [d1, if_pos (by omega), if_pos (by omega)]
  obtain ⟨w, a2, s2, e2, _, _⟩ := amongT_ok hx (l := [4, 5, 3, 6, 2, 0, 9, 31, 32, (-1)]) (n := 8 + v / 11) (by omega) (by simp) (by simp) (at_ := a1) (s := s1) (by omega) (by omega)
  rw [e2, Option.bind_some]
  exact ⟨_, _, rfl, c2⟩
theorem draw1 {x : List Int} (hx : Bytes x) {fu : Nat} (hf : 64 ≤ fu) : ∃ p b k, p_spec_DrawChanceHits fu x = some (p, b, k) ∧ Six p := by
  unfold p_spec_DrawChanceHits
  obtain ⟨p, b, e, h6⟩ := draw0 hx hf
  rw [e, Option.bind_some]
  obtain ⟨v, a1, s1, e1, v0, v1, b1, b2⟩ := pick_ok hx (n := 24) (at_ := 0) (s := 0) (by omega) (by omega) (by omega)
  rw [e1, Option.bind_some]
  simp only
  obtain ⟨d1, d2, d3⟩ := div11 v0 (by omega) 5 ⟨by omega, by omega⟩
  rw [d1, if_pos (by omega), if_pos (by omega)]
  obtain ⟨w, a2, s2, e2, _, _⟩ := amongT_ok hx (l := [1, 2, 0, 3, 4, 5, (-1)]) (n := 5 + v / 11) (by omega) (by simp) (by simp) (at_ := a1) (s := s1) (by omega) (by omega)
  rw [e2, Option.bind_some]
  exact ⟨_, _, _, rfl, h6⟩
theorem cut_bytes {x : List Int} (hx : Bytes x) (hl : x.length ≤ 65536) : ∃ y, p_laws_vCut x 1 = some y ∧ Bytes y := by
  have key : ∀ s1 : Int, 0 ≤ s1 → s1 ≤ x.length → s1 ≤ 1 → ∃ y, (if 0 ≤ s1 then if s1 ≤ (x.length : Int) then if 0 + ((x.length : Int) - s1) ≤ 1000000000 then if (0 + ((x.length : Int) - s1)) + 1 ≤ 1000000000 then some (([] ++ (x.drop s1.toNat)) ++ [(IntKind.wrap .u8 s1)]) else none else none else none else none) = some y ∧ Bytes y := by
    intro s1 h0 h1 h2
    rw [if_pos h0, if_pos h1, if_pos (by omega), if_pos (by omega)]
    refine ⟨_, rfl, fun b hb => ?_⟩
    rcases List.mem_append.1 hb with h | h
    · rw [List.nil_append] at h
      exact hx b (List.mem_of_mem_drop h)
    · have e : b = IntKind.wrap .u8 s1 := by simpa using h
      rcases (by omega : s1 = 0 ∨ s1 = 1) with h | h
      · rw [e, h]; decide
      · rw [e, h]; decide
  unfold p_laws_vCut jn
  simp only
  split
  · exact key _ (by omega) (by omega) (by omega)
  · exact key 1 (by omega) (by omega) (by omega)
theorem draw2 {x : List Int} (hx : Bytes x) {fu : Nat} (hf : 64 ≤ fu) : ∃ p k t b, p_spec_DrawBoundFor fu x = some (p, k, t, b) ∧ Six p := by
  unfold p_spec_DrawBoundFor
  obtain ⟨v, a1, s1, e1, v0, v1, b1, b2⟩ := pick_ok hx (n := 24) (at_ := 0) (s := 0) (by omega) (by omega) (by omega)
  rw [e1, Option.bind_some]
  simp only
  obtain ⟨d1, d2, d3⟩ := div11 v0 (by omega) 6 ⟨by omega, by omega⟩
  rw [d1, if_pos (by omega), if_pos (by omega)]
  obtain ⟨w, a2, s2, e2, hw, b3, b4⟩ := amongT_ok hx (l := [2, 3, 6, 100, 1, 1000, 0, 1001]) (n := 6 + v / 11) (by omega) (by simp) (by simp) (at_ := a1) (s := s1) (by omega) (by omega)
  rw [e2, Option.bind_some]
  simp only
  have hw' : w ≤ 1001 := by simp only [List.mem_cons, List.not_mem_nil, or_false] at hw; omega
  obtain ⟨p, a3, s3, e3, c1, c2, c3, c4⟩ := pool_ok hx hf (x1 := a2) (x2 := s2) (by omega) (by omega)
  rw [e3, Option.bind_some]
  simp only
  obtain ⟨u, a4, s4, e4, u0, u1, b5, b6⟩ := pick_ok hx (n := 24) (at_ := a3) (s := s3) (by omega) (by omega) (by omega)
  rw [e4, Option.bind_some]
  simp only
  obtain ⟨d1', d2', d3'⟩ := div11 u0 (by omega) 5 ⟨by omega, by omega⟩
  rw [d1', if_pos (by omega), if_pos (by omega)]
  obtain ⟨z, a5, s5, e5, _, b7, b8⟩ := amongT_ok hx (l := [1, 2, 1, 3, 4, 0, 5]) (n := 5 + u / 11) (by omega) (by simp) (by simp) (at_ := a4) (s := s4) (by omega) (by omega)
  rw [e5, Option.bind_some]
  simp only
  have hm : p_spec_l1Most w 1 ≤ 1001 := by unfold p_spec_l1Most; split <;> omega
  obtain ⟨y, a6, s6, e6, _, _, b9, b10⟩ := pick_ok hx (n := p_spec_l1Most w 1) (at_ := a5) (s := s5) (by omega) (by omega) (by omega)
  rw [e6, Option.bind_some]
  simp only
  obtain ⟨q, a7, s7, e7, _, _, _⟩ := pick_ok hx (n := 24) (at_ := a6) (s := s6) (by omega) (by omega) (by omega)
  rw [e7, Option.bind_some]
  exact ⟨_, _, _, _, rfl, c2⟩
end Go.GA
