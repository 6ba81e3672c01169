/- Plain law of FnRuns: draws. -/
import Derived.Test.YtheplbbbfbbjcaaRK5
namespace Go.GA
open Go
set_option maxRecDepth 100000
def LitR (x1 : Int) (r : Option (List Int × Int × Int)) : Prop := ∃ d a s, r = some (d, a, s) ∧ d.length = 6 ∧ x1 ≤ a ∧ a ≤ x1 + 100
theorem little_ok {x : List Int} (hx : Bytes x) {x1 x2 : Int} (h0 : 0 ≤ x1) (h1 : x1 ≤ 800000) : LitR x1 (p_spec_l1Cur_little x x1 x2) := by
  unfold p_spec_l1Cur_little jn
  have hk : ∀ (st : Int × Int × List Int), st.2.2.length = 6 → x1 ≤ st.1 → st.1 ≤ x1 + 90 → LitR x1 (if (st.2.2.getD 0 0) = 0 then (p_spec_l1Cur_one 6 x st.1 st.2.1).bind (fun r7 => (if r7.1 = true then some ((p_spec_l2Sorted st.2.2), r7.2.1, r7.2.2) else some ((p_spec_l2Sorted (st.2.2.set 0 1)), r7.2.1, r7.2.2))) else some ((p_spec_l2Sorted st.2.2), st.1, st.2.1)) := by
    intro st hl ha hb
    split
    · obtain ⟨b, a1, s1, e1, b1, b2⟩ := oneD_ok hx (n := 6) (at_ := st.1) (s := st.2.1) (by omega) (by omega) (by omega)
      rw [e1, Option.bind_some]
      simp only
      split
      · exact ⟨_, _, _, rfl, by rw [sorted_len]; exact hl, by omega, by omega⟩
      · exact ⟨_, _, _, rfl, by rw [sorted_len]; simp [hl], by omega, by omega⟩
    · exact ⟨_, _, _, rfl, by rw [sorted_len]; exact hl, by omega, by omega⟩
  generalize hK : (fun (s1 : Int × Int × (List Int)) => (if (s1.2.2.getD 0 0) = 0 then (p_spec_l1Cur_one 6 x s1.1 s1.2.1).bind (fun r7 => (if r7.1 = true then some ((p_spec_l2Sorted s1.2.2), r7.2.1, r7.2.2) else some ((p_spec_l2Sorted (s1.2.2.set 0 1)), r7.2.1, r7.2.2))) else some ((p_spec_l2Sorted s1.2.2), s1.1, s1.2.1))) = K
  have hk' : ∀ (st : Int × Int × List Int), st.2.2.length = 6 → x1 ≤ st.1 → st.1 ≤ x1 + 90 → LitR x1 (K st) := fun st => by rw [← hK]; exact hk st
  obtain ⟨b, a1, s1, e1, b1, b2⟩ := oneD_ok hx (n := 5) (at_ := x1) (s := x2) (by omega) (by omega) (by omega)
  simp only
  rw [e1, Option.bind_some]
  simp only
  split
  · obtain ⟨d, a2, s2, e2, q1, q2, q3⟩ := die_ok hx (x1 := a1) (x2 := s1) (by omega) (by omega)
    rw [e2, Option.bind_some]
    exact hk' _ q1 (by simp; omega) (by simp; omega)
  · refine cnt_ind0 (S := Int × Int × List Int) 6 (fun i st => st.2.2.length = 6 ∧ x1 ≤ st.1 ∧ st.1 ≤ x1 + 10 + 4 * (i : Int)) (LitR x1) rfl ⟨rfl, by simp; omega, by simp; omega⟩ (fun st hs => hk' _ hs.1 hs.2.1 (by have := hs.2.2; simp at this ⊢; omega)) (fun i st c hi hs hc => ?_)
    obtain ⟨g1, g2, g3⟩ := hs
    obtain ⟨n, a2, s2, e2, hn, b3, b4⟩ := among_ok hx (l := [3, 6, 2, 4]) (by simp) (by simp) (at_ := st.1) (s := st.2.1) (by omega) (by omega)
    rw [e2, Option.bind_some]
    simp only
    have hn' : n ≤ 6 := by simp only [List.mem_cons, List.not_mem_nil, or_false] at hn; omega
    obtain ⟨v, a3, s3, e3, _, _, b5, b6⟩ := pick_ok hx (n := n) (at_ := a2) (s := s2) (by omega) (by omega) (by omega)
    rw [e3, Option.bind_some]
    exact hc _ ⟨by simp [g1], by simp; omega, by simp; omega⟩
theorem goal_ok {x : List Int} (hx : Bytes x) {a s : Int} (h0 : 0 ≤ a) (h1 : a ≤ 800000) : ∃ v a' s', p_spec_l1Cur_goal x a s = some (v, a', s') ∧ a ≤ a' ∧ a' ≤ a + 2 := by
  unfold p_spec_l1Cur_goal
  obtain ⟨v, a', s', e, _, h2, h3⟩ := among_ok hx (l := [3, 5, 8, 1, 6, 2, 4, 7, 0, 9]) (by simp) (by simp) (s := s) h0 (by omega)
  rw [e, Option.bind_some]
  exact ⟨v, a', s', rfl, h2, h3⟩
theorem draw1 {x : List Int} (hx : Bytes x) : ∃ d g, p_spec_DrawRunTable x = some (d, g) ∧ d.length = 6 := by
  unfold p_spec_DrawRunTable
  obtain ⟨g, a, s, e, b1, b2⟩ := goal_ok hx (a := 0) (s := 0) (by omega) (by omega)
  rw [e, Option.bind_some]
  simp only
  obtain ⟨d, a1, s1, e1, q, _⟩ := little_ok hx (x1 := a) (x2 := s) (by omega) (by omega)
  rw [e1, Option.bind_some]
  exact ⟨_, _, rfl, q⟩
theorem draw2 {x : List Int} (hx : Bytes x) : ∃ d n, p_spec_DrawLandChance x = some (d, n) ∧ d.length = 6 := by
  unfold p_spec_DrawLandChance
  obtain ⟨g, a, s, e, _, b1, b2⟩ := among_ok hx (l := [3, 5, 8, 0, 1, 6, 9, (-1)]) (by simp) (by simp) (at_ := 0) (s := 0) (by omega) (by omega)
  rw [e, Option.bind_some]
  simp only
  obtain ⟨d, a1, s1, e1, q, _⟩ := little_ok hx (x1 := a) (x2 := s) (by omega) (by omega)
  rw [e1, Option.bind_some]
  exact ⟨_, _, rfl, q⟩
theorem draw3 {x : List Int} (hx : Bytes x) : ∃ a b g, p_spec_DrawFirstWins x = some (a, b, g) ∧ a.length = 6 ∧ b.length = 6 := by
  unfold p_spec_DrawFirstWins
  obtain ⟨g, a, s, e, b1, b2⟩ := goal_ok hx (a := 0) (s := 0) (by omega) (by omega)
  rw [e, Option.bind_some]
  simp only
  obtain ⟨d, a1, s1, e1, q, q1, q2⟩ := little_ok hx (x1 := a) (x2 := s) (by omega) (by omega)
  rw [e1, Option.bind_some]
  simp only
  obtain ⟨b, a2, s2, e2, b3, b4⟩ := oneD_ok hx (n := 4) (at_ := a1) (s := s1) (by omega) (by omega) (by omega)
  rw [e2, Option.bind_some]
  simp only
  split
  · exact ⟨_, _, _, rfl, q, q⟩
  · obtain ⟨d', a3, s3, e3, q', _⟩ := little_ok hx (x1 := a2) (x2 := s2) (by omega) (by omega)
    rw [e3, Option.bind_some]
    exact ⟨_, _, _, rfl, q, q'⟩
theorem draw4 {x : List Int} (hx : Bytes x) {fu : Nat} (hf : 64 ≤ fu) : ∃ row g, p_spec_DrawBestRunner fu x = some (row, g) ∧ Six row ∧ row.length ≤ 7 := by
  unfold p_spec_DrawBestRunner
  obtain ⟨g, a, s, e, b1, b2⟩ := goal_ok hx (a := 0) (s := 0) (by omega) (by omega)
  rw [e, Option.bind_some]
  simp only
  obtain ⟨m, a0, s0, e0, hm, c1, c2⟩ := among_ok hx (l := [2, 3, 1, 4, 0, 7]) (by simp) (by simp) (at_ := a) (s := s) (by omega) (by omega)
  rw [e0, Option.bind_some]
  simp only
  have hm' : 0 ≤ m ∧ m ≤ 7 := by simp only [List.mem_cons, List.not_mem_nil, or_false] at hm; omega
  suffices hh : ∀ (d : Nat) (m a s : Int) (acc : List (List Int)), m < d → 0 ≤ m → 0 ≤ a → a + 100 * m ≤ 2000 → m + (acc.length : Int) ≤ 7 → Six acc → ∃ row g', whl (fun (s3 : Int × Int × Int × (List (List Int))) c5 => (if 0 < s3.1 then (p_spec_l1Cur_little x s3.2.1 s3.2.2.1).bind (fun r10 => if (s3.2.2.2.length : Int) + 1 ≤ 1000000000 then c5 ((IntKind.wrap .i64 (s3.1 - 1)), r10.2.1, r10.2.2, (s3.2.2.2 ++ [r10.1])) else none) else some (s3.2.2.2, g))) d (m, a, s, acc) = some (row, g') ∧ Six row ∧ row.length ≤ 7 by
    exact hh fu m a0 s0 [] (by omega) (by omega) (by omega) (by omega) (by simp; omega) (fun q hq => by cases hq)
  intro d
  induction d with
  | zero => intro m a s acc g0 g1; omega
  | succ d ih =>
    intro m a s acc g0 g1 g2 g3 g4 g5
    simp only [whl]
    by_cases hc : 0 < m
    · rw [if_pos hc]
      obtain ⟨q, a1, s1, e1, q1, q2, q3⟩ := little_ok hx (x1 := a) (x2 := s) (by omega) (by omega)
      rw [e1, Option.bind_some]
      simp only
      rw [if_pos (by omega), wr (by omega) (by omega)]
      refine ih _ _ _ _ (by omega) (by omega) (by omega) (by omega) (by simp; omega) (fun z hz => ?_)
      rcases List.mem_append.1 hz with h | h
      · exact g5 z h
      · have : z = q := by simpa using h
        rw [this]; exact q1
    · rw [if_neg hc]
      exact ⟨_, _, rfl, g5, by omega⟩
end Go.GA
