/- Plain law of FnHolds: draws. -/
import Derived.Test.YtheplbbbfbbjcaaHK5
namespace Go.GA
open Go
set_option maxRecDepth 100000
def LitR (x1 : Int) (r : Option (List Int × Int × Int)) : Prop := ∃ d a s, r = some (d, a, s) ∧ d.length = 6 ∧ x1 ≤ a ∧ a ≤ x1 + 100
theorem little_ok {x : List Int} (hx : Bytes x) {x1 x2 : Int} (h0 : 0 ≤ x1) (h1 : x1 ≤ 800000) : LitR x1 (p_spec_l1Cur_little x x1 x2) := by
  unfold p_spec_l1Cur_little jn
  have hk : ∀ (st : Int × Int × List Int), st.2.2.length = 6 → x1 ≤ st.1 → st.1 ≤ x1 + 90 → LitR x1 (if (st.2.2.getD 0 0) = 0 then (p_spec_l1Cur_one 6 x st.1 st.2.1).bind (fun r7 => (if r7.1 = true then some ((p_spec_l2Sorted st.2.2), r7.2.1, r7.2.2) else some ((p_spec_l2Sorted (st.2.2.set 0 1)), r7.2.1, r7.2.2))) else some ((p_spec_l2Sorted st.2.2), st.1, st.2.1)) := by
    intro st hl ha hb
    split
    · obtain ⟨b, a1, s1, e1, b1, b2⟩ := oneD_ok hx (n := 6) (at_ := st.1) (s := st.2.1) (by omega) (by omega) (by omega)
      rw [e1, Option.bind_some]
      simp only
      split
      · exact ⟨_, _, _, rfl, by rw [sorted_len]; exact hl, by omega, by omega⟩
      · exact ⟨_, _, _, rfl, by rw [sorted_len]; simp [hl], by omega, by omega⟩
    · exact ⟨_, _, _, rfl, by rw [sorted_len]; exact hl, by omega, by omega⟩
  generalize hK : (fun (s1 : Int × Int × (List Int)) => (if (s1.2.2.getD 0 0) = 0 then (p_spec_l1Cur_one 6 x s1.1 s1.2.1).bind (fun r7 => (if r7.1 = true then some ((p_spec_l2Sorted s1.2.2), r7.2.1, r7.2.2) else some ((p_spec_l2Sorted (s1.2.2.set 0 1)), r7.2.1, r7.2.2))) else some ((p_spec_l2Sorted s1.2.2), s1.1, s1.2.1))) = K
  have hk' : ∀ (st : Int × Int × List Int), st.2.2.length = 6 → x1 ≤ st.1 → st.1 ≤ x1 + 90 → LitR x1 (K st) := fun st => by rw [← hK]; exact hk st
  obtain ⟨b, a1, s1, e1, b1, b2⟩ := oneD_ok hx (n := 5) (at_ := x1) (s := x2) (by omega) (by omega) (by omega)
  simp only
  rw [e1, Option.bind_some]
  simp only
  split
  · obtain ⟨d, a2, s2, e2, q1, q2, q3⟩ := die_ok hx (x1 := a1) (x2 := s1) (by omega) (by omega)
    rw [e2, Option.bind_some]
    exact hk' _ q1 (by simp; omega) (by simp; omega)
  · refine cnt_ind0 (S := Int × Int × List Int) 6 (fun i st => st.2.2.length = 6 ∧ x1 ≤ st.1 ∧ st.1 ≤ x1 + 10 + 4 * (i : Int)) (LitR x1) rfl ⟨rfl, by simp; omega, by simp; omega⟩ (fun st hs => hk' _ hs.1 hs.2.1 (by have := hs.2.2; simp at this ⊢; omega)) (fun i st c hi hs hc => ?_)
    obtain ⟨g1, g2, g3⟩ := hs
    obtain ⟨n, a2, s2, e2, hn, b3, b4⟩ := among_ok hx (l := [3, 6, 2, 4]) (by simp) (by simp) (at_ := st.1) (s := st.2.1) (by omega) (by omega)
    rw [e2, Option.bind_some]
    simp only
    have hn' : n ≤ 6 := by simp only [List.mem_cons, List.not_mem_nil, or_false] at hn; omega
    obtain ⟨v, a3, s3, e3, _, _, b5, b6⟩ := pick_ok hx (n := n) (at_ := a2) (s := s2) (by omega) (by omega) (by omega)
    rw [e3, Option.bind_some]
    exact hc _ ⟨by simp [g1], by simp; omega, by simp; omega⟩
theorem goal_ok {x : List Int} (hx : Bytes x) {a s : Int} (h0 : 0 ≤ a) (h1 : a ≤ 800000) : ∃ v a' s', p_spec_l1Cur_goal x a s = some (v, a', s') ∧ a ≤ a' ∧ a' ≤ a + 2 := by
  unfold p_spec_l1Cur_goal
  obtain ⟨v, a', s', e, _, h2, h3⟩ := among_ok hx (l := [3, 5, 8, 1, 6, 2, 4, 7, 0, 9]) (by simp) (by simp) (s := s) h0 (by omega)
  rw [e, Option.bind_some]
  exact ⟨v, a', s', rfl, h2, h3⟩
theorem draw1 {x : List Int} (hx : Bytes x) : ∃ d b h, p_spec_DrawHoldEnds x = some (d, b, h) ∧ d.length = 6 := by
  unfold p_spec_DrawHoldEnds
  obtain ⟨g, a, s, e, _, b1, b2⟩ := among_ok hx (l := [4, 6, 10, 1, 3, 8, 0, 11]) (by simp) (by simp) (at_ := 0) (s := 0) (by omega) (by omega)
  rw [e, Option.bind_some]
  simp only
  obtain ⟨g2, a2, s2, e2, _, b3, b4⟩ := among_ok hx (l := [1, 1, 2, 3, 6, 30, 0, 31]) (by simp) (by simp) (at_ := a) (s := s) (by omega) (by omega)
  rw [e2, Option.bind_some]
  simp only
  obtain ⟨d, a1, s1, e1, q, _⟩ := little_ok hx (x1 := a2) (x2 := s2) (by omega) (by omega)
  rw [e1, Option.bind_some]
  exact ⟨_, _, _, rfl, q⟩
theorem draw2 {x : List Int} (hx : Bytes x) : ∃ d b, p_spec_DrawBestHold x = some (d, b) ∧ d.length = 6 := by
  unfold p_spec_DrawBestHold
  obtain ⟨d, b, h, e, q⟩ := draw1 hx
  rw [e, Option.bind_some]
  exact ⟨_, _, rfl, q⟩
theorem places_ok {x : List Int} (hx : Bytes x) {fu : Nat} (hf : 64 ≤ fu) : ∃ l a s, p_spec_l1Cur_places fu x 0 0 = some (l, a, s) ∧ l.length ≤ 12 := by
  unfold p_spec_l1Cur_places
  obtain ⟨m, a0, s0, e0, hm, c1, c2⟩ := among_ok hx (l := [4, 8, 2, 1, 0, 12]) (by simp) (by simp) (at_ := 0) (s := 0) (by omega) (by omega)
  rw [e0, Option.bind_some]
  simp only
  have hm' : 0 ≤ m ∧ m ≤ 12 := by simp only [List.mem_cons, List.not_mem_nil, or_false] at hm; omega
  suffices hh : ∀ (d : Nat) (m a s : Int) (acc : List Int), m < d → 0 ≤ m → 0 ≤ a → a + 100 * m ≤ 2000 → m + (acc.length : Int) ≤ 12 → ∃ l a' s', whl (fun (s2 : Int × Int × Int × (List Int)) c4 => (if 0 < s2.1 then (p_spec_l1Cur_pick 6 x s2.2.1 s2.2.2.1).bind (fun r9 => if (s2.2.2.2.length : Int) + 1 ≤ 1000000000 then c4 ((IntKind.wrap .i64 (s2.1 - 1)), r9.2.1, r9.2.2, (s2.2.2.2 ++ [r9.1])) else none) else (if 0 < (s2.2.2.2.length : Int) then (p_spec_l1Cur_one 16 x s2.2.1 s2.2.2.1).bind (fun r14 => (if r14.1 = true then (p_spec_l1Cur_pick (s2.2.2.2.length : Int) x r14.2.1 r14.2.2).bind (fun r16 => (p_spec_l1Cur_among [(-1), 6, 4611686018427387904] x r16.2.1 r16.2.2).bind (fun r17 => if 0 ≤ r16.1 then if r16.1 < (s2.2.2.2.length : Int) then some ((s2.2.2.2.set r16.1.toNat r17.1), r17.2.1, r17.2.2) else none else none)) else some (s2.2.2.2, r14.2.1, r14.2.2))) else some (s2.2.2.2, s2.2.1, s2.2.2.1)))) d (m, a, s, acc) = some (l, a', s') ∧ l.length ≤ 12 by
    exact hh fu m a0 s0 [] (by omega) (by omega) (by omega) (by omega) (by simp; omega)
  intro d
  induction d with
  | zero => intro m a s acc g0 g1; omega
  | succ d ih =>
    intro m a s acc g0 g1 g2 g3 g4
    simp only [whl]
    by_cases hc : 0 < m
    · rw [if_pos hc]
      obtain ⟨v, a1, s1, e1, _, _, q2, q3⟩ := pick_ok hx (n := 6) (at_ := a) (s := s) (by omega) (by omega) (by omega)
      rw [e1, Option.bind_some]
      simp only
      rw [if_pos (by omega), wr (by omega) (by omega)]
      exact ih _ _ _ _ (by omega) (by omega) (by omega) (by omega) (by simp; omega)
    · rw [if_neg hc]
      by_cases hl : 0 < (acc.length : Int)
      · rw [if_pos hl]
        obtain ⟨b, a1, s1, e1, b1, b2⟩ := oneD_ok hx (n := 16) (at_ := a) (s := s) (by omega) (by omega) (by omega)
        rw [e1, Option.bind_some]
        simp only
        split
        · obtain ⟨u, a2, s2, e2, u0, u1, b3, b4⟩ := pick_ok hx (n := (acc.length : Int)) (at_ := a1) (s := s1) (by omega) (by omega) (by omega)
          rw [e2, Option.bind_some]
          simp only
          obtain ⟨w, a3, s3, e3, _, b5, b6⟩ := among_ok hx (l := [(-1), 6, 4611686018427387904]) (by simp) (by simp) (at_ := a2) (s := s2) (by omega) (by omega)
          rw [e3, Option.bind_some]
          simp only
          rw [if_pos u0, if_pos (by omega)]
          exact ⟨_, _, _, rfl, by rw [List.length_set]; omega⟩
        · exact ⟨_, _, _, rfl, by omega⟩
      · rw [if_neg hl]
        exact ⟨_, _, _, rfl, by omega⟩
theorem draw3 {x : List Int} (hx : Bytes x) : ∃ a b g, p_spec_DrawFirstWins x = some (a, b, g) ∧ a.length = 6 ∧ b.length = 6 := by
  unfold p_spec_DrawFirstWins
  obtain ⟨g, a, s, e, b1, b2⟩ := goal_ok hx (a := 0) (s := 0) (by omega) (by omega)
  rw [e, Option.bind_some]
  simp only
  obtain ⟨d, a1, s1, e1, q, q1, q2⟩ := little_ok hx (x1 := a) (x2 := s) (by omega) (by omega)
  rw [e1, Option.bind_some]
  simp only
  obtain ⟨b, a2, s2, e2, b3, b4⟩ := oneD_ok hx (n := 4) (at_ := a1) (s := s1) (by omega) (by omega) (by omega)
  rw [e2, Option.bind_some]
  simp only
  split
  · exact ⟨_, _, _, rfl, q, q⟩
  · obtain ⟨d', a3, s3, e3, q', _⟩ := little_ok hx (x1 := a2) (x2 := s2) (by omega) (by omega)
    rw [e3, Option.bind_some]
    exact ⟨_, _, _, rfl, q, q'⟩
theorem draw4 {x : List Int} (hx : Bytes x) {fu : Nat} (hf : 64 ≤ fu) : ∃ d b h l, p_spec_DrawPlayTurn fu x = some (d, b, h, l) ∧ d.length = 6 ∧ l.length ≤ 12 := by
  unfold p_spec_DrawPlayTurn
  obtain ⟨l, a, s, e, q⟩ := places_ok hx hf
  obtain ⟨d, b, h, e2, q2⟩ := draw1 hx
  rw [e, Option.bind_some, e2, Option.bind_some]
  exact ⟨_, _, _, _, rfl, q2, q⟩
theorem draw5 {x : List Int} (hx : Bytes x) {fu : Nat} (hf : 64 ≤ fu) : ∃ a b g l, p_spec_DrawPlayRace fu x = some (a, b, g, l) ∧ a.length = 6 ∧ b.length = 6 ∧ l.length ≤ 12 := by
  unfold p_spec_DrawPlayRace
  obtain ⟨l, a, s, e, q⟩ := places_ok hx hf
  obtain ⟨d, b, h, e2, q2, q3⟩ := draw3 hx
  rw [e, Option.bind_some, e2, Option.bind_some]
  exact ⟨_, _, _, _, rfl, q2, q3, q⟩
end Go.GA
