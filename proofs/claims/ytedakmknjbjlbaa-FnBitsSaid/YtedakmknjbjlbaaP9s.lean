/- Plain law of FnBits: draws. -/
import Derived.Test.YtedakmknjbjlbaaP9r
namespace Go.GA
open Go
set_option maxRecDepth 100000
theorem dr1 {x : List Int} (hx : Bytes x) : ∃ l, p_spec_DrawBitsOf 64 x = some l ∧ l.length ≤ 41 := by
  unfold p_spec_DrawBitsOf
  obtain ⟨r, a2, s2, e2, _, h5⟩ := throws_ok hx (l := [6, 12, 3, 0, 40, 41]) (by simp) (by simp) (by decide) (at_ := 0) (s := 0) (by omega) (by omega)
  rw [e2, Option.bind_some]
  exact ⟨r, rfl, h5⟩
theorem dr2 {x : List Int} (hx : Bytes x) : ∃ l, p_spec_DrawThrowsOf 64 x = some l ∧ l.length ≤ 41 := by
  unfold p_spec_DrawThrowsOf
  obtain ⟨n, a1, s1, e1, hn, c1, c2⟩ := among_ok hx (l := [9, 12, 4, 2, 0, 40, 41]) (by simp) (by simp) (at_ := 0) (s := 0) (by omega) (by omega)
  rw [e1, Option.bind_some]
  have hn41 : 0 ≤ n ∧ n ≤ 41 := by
    simp only [List.mem_cons, List.not_mem_nil, or_false] at hn; omega
  suffices hh : ∀ (d : Nat) (m a s : Int) (acc : List Int), 0 < d → m < d → 0 ≤ a → a + 2 * m ≤ 950000 → a ≤ 950000 → (0 ≤ m → m + (acc.length : Int) = n) → (m < 0 → acc.length = 0) → acc.length ≤ 41 → ∃ r, whl (fun (s2 : Int × Int × Int × (List Int)) c4 => (if 0 < s2.1 then (p_spec_l1Cur_among [0, 1, 1] x s2.2.1 s2.2.2.1).bind (fun r9 => if (s2.2.2.2.length : Int) + 1 ≤ 1000000000 then c4 ((IntKind.wrap .i64 (s2.1 - 1)), r9.2.1, r9.2.2, (s2.2.2.2 ++ [r9.1])) else none) else (if 0 < (s2.2.2.2.length : Int) then (p_spec_l1Cur_one 24 x s2.2.1 s2.2.2.1).bind (fun r14 => (if r14.1 = true then (p_spec_l1Cur_pick (s2.2.2.2.length : Int) x r14.2.1 r14.2.2).bind (fun r16 => (p_spec_l1Cur_among [(-1), 2] x r16.2.1 r16.2.2).bind (fun r17 => if 0 ≤ r16.1 then if r16.1 < (s2.2.2.2.length : Int) then some (s2.2.2.2.set r16.1.toNat r17.1) else none else none)) else some s2.2.2.2)) else some s2.2.2.2))) d (m, a, s, acc) = some r ∧ r.length ≤ 41 by
    exact hh 64 n a1 s1 [] (by omega) (by omega) (by omega) (by omega) (by omega) (fun h => by simp) (fun _ => rfl) (by simp)
  intro d
  induction d with
  | zero => 
    intro m a s acc h0 h1 h2 h3 h4 h5 h6 h7
    omega
  | succ d ih =>
    intro m a s acc h0 h1 h2 h3 h4 h5 h6 h7
    rw [show ∀ (f : (Int × Int × Int × (List Int)) → ((Int × Int × Int × (List Int)) → Option (List Int)) → Option (List Int)), whl f (d + 1) (m, a, s, acc) = f (m, a, s, acc) (whl f d) from fun _ => rfl]
    simp only
    by_cases hm : 0 < m
    · rw [if_pos hm]
      obtain ⟨v, a', s', e, _, b3, b4⟩ := among_ok hx (l := [0, 1, 1]) (by simp) (by simp) (s := s) h2 (by omega)
      rw [e, Option.bind_some, if_pos (by omega), wr (n := m - 1) (by omega) (by omega)]
      have := h5 (by omega)
      exact ih (m - 1) a' s' (acc ++ [v]) (by omega) (by omega) (by omega) (by omega) (by omega) (fun _ => by simp; omega) (fun h => by omega) (by simp; omega)
    · rw [if_neg hm]
      by_cases hz : 0 < (acc.length : Int)
      · rw [if_pos hz]
        have hm0 : m = 0 := by
          by_cases h : m < 0
          · have := h6 h; omega
          · omega
        have hacc := h5 (by omega)
        obtain ⟨b, a', s', e, b3, b4⟩ := oneD_ok hx (n := 24) (s := s) h2 (by omega) (by omega)
        rw [e, Option.bind_some]
        cases b with
        | false => exact ⟨_, rfl, h7⟩
        | true =>
          simp only [if_true]
          obtain ⟨v, a2, s2, e2, v0, v1, b5, b6⟩ := pick_ok hx (n := (acc.length : Int)) (at_ := a') (s := s') (by omega) (by omega) (by omega)
          rw [e2, Option.bind_some]
          simp only
          obtain ⟨u, a3, s3, e3, _, b7, b8⟩ := among_ok hx (l := [(-1), 2]) (by simp) (by simp) (at_ := a2) (s := s2) (by omega) (by omega)
          rw [e3, Option.bind_some, if_pos v0, if_pos (by omega)]
          exact ⟨_, rfl, by simp; omega⟩
      · rw [if_neg hz]
        exact ⟨_, rfl, h7⟩
theorem dr3 {x : List Int} (hx : Bytes x) : ∃ l k, p_spec_DrawEvenCoin 64 x = some (l, k) ∧ l.length ≤ 41 := by
  unfold p_spec_DrawEvenCoin
  obtain ⟨k, a, s, e, _, h2, h3⟩ := among_ok hx (l := [1, 2, 3, 4, 5, 0, 6, 7, (-1)]) (by simp) (by simp) (at_ := 0) (s := 0) (by omega) (by omega)
  rw [e, Option.bind_some]
  simp only
  obtain ⟨r, a2, s2, e2, _, h5⟩ := throws_ok hx (l := [8, 12, 3, 0, 40, 41]) (by simp) (by simp) (by decide) (at_ := a) (s := s) (by omega) (by omega)
  rw [e2, Option.bind_some]
  exact ⟨r, k, rfl, h5⟩
theorem dr4 {x : List Int} (hx : Bytes x) : ∃ m, p_spec_DrawPairsForCoin x = some m ∧ 0 ≤ m ∧ m ≤ 6 := by
  unfold p_spec_DrawPairsForCoin
  obtain ⟨v, a2, s2, e2, v0, v1, _, _⟩ := pick_ok hx (n := 7) (at_ := 0) (s := 0) (by omega) (by omega) (by omega)
  rw [e2, Option.bind_some]
  exact ⟨v, rfl, v0, by omega⟩
theorem dr5 {x : List Int} (hx : Bytes x) : ∃ p n, p_spec_DrawModTable 64 x = some (p, n) ∧ p.length ≤ 5 ∧ Six p := by
  unfold p_spec_DrawModTable
  obtain ⟨k, a, s, e, _, h2, h3⟩ := among_ok hx (l := [2, 3, 6, 4, 12, 40, 1, 0, 41]) (by simp) (by simp) (at_ := 0) (s := 0) (by omega) (by omega)
  rw [e, Option.bind_some]
  simp only
  obtain ⟨p, a2, s2, e2, h4, h5, _⟩ := pool_ok hx (x1 := a) (x2 := s) (by omega) (by omega)
  rw [e2, Option.bind_some]
  exact ⟨p, k, rfl, h4, h5⟩
def TwoR (r : Option (List (List Int) × Int × Int)) : Prop := ∃ p a s, r = some (p, a, s) ∧ p.length ≤ 5 ∧ Six p
theorem two_ok {x : List Int} (hx : Bytes x) {x1 x2 : Int} (h0 : 0 ≤ x1) (h1 : x1 ≤ 700000) : TwoR (p_spec_l1Cur_two 64 x x1 x2) := by
  unfold p_spec_l1Cur_two
  obtain ⟨v, a1, s1, e1, v0, v1, b1, b2⟩ := pick_ok hx (n := 6) (at_ := x1) (s := x2) (by omega) (by omega) (by omega)
  rw [e1, Option.bind_some]
  simp only
  by_cases c0 : v = 0
  · rw [if_pos c0]; exact ⟨_, _, _, rfl, by simp, by intro d hd; simp only [List.mem_cons, List.not_mem_nil, or_false] at hd; rcases hd with h | h <;> rw [h] <;> rfl⟩
  · rw [if_neg c0]
    by_cases c1 : v = 1
    · rw [if_pos c1]; exact ⟨_, _, _, rfl, by simp, by intro d hd; simp only [List.mem_cons, List.not_mem_nil, or_false] at hd; rcases hd with h | h <;> rw [h] <;> rfl⟩
    · rw [if_neg c1]
      by_cases c2 : v = 2
      · rw [if_pos c2]
        obtain ⟨u, a2, s2, e2, _, _, b3, b4⟩ := pick_ok hx (n := 3) (at_ := a1) (s := s1) (by omega) (by omega) (by omega)
        rw [e2, Option.bind_some]
        simp only
        obtain ⟨w, a3, s3, e3, _, _, b5, b6⟩ := pick_ok hx (n := 4) (at_ := a2) (s := s2) (by omega) (by omega) (by omega)
        rw [e3, Option.bind_some]
        refine cnt_ind0 (S := List Int × List Int) 6 (fun _ st => st.1.length = 6 ∧ st.2.length = 6) TwoR rfl ⟨rfl, rfl⟩ (fun st hs => ?_) (fun i st c hi hs hc => ?_)
        · refine ⟨_, _, _, rfl, by simp, ?_⟩
          intro d hd
          simp only [List.mem_cons, List.not_mem_nil, or_false] at hd
          rcases hd with h | h
          · rw [h, sorted_len]; exact hs.1
          · rw [h, sorted_len]; exact hs.2
        · exact hc _ ⟨by simp [hs.1], by simp [hs.2]⟩
      · rw [if_neg c2]
        by_cases c3 : v = 3
        · rw [if_pos c3]
          obtain ⟨p, a2, s2, e2, h4, h5, _⟩ := pool_ok hx (x1 := a1) (x2 := s1) (by omega) (by omega)
          rw [e2, Option.bind_some]
          exact ⟨p, a2, s2, rfl, h4, h5⟩
        · rw [if_neg c3]
          obtain ⟨d1, a2, s2, e2, h4, h5, h6⟩ := die_ok hx (x1 := a1) (x2 := s1) (by omega) (by omega)
          rw [e2, Option.bind_some]
          simp only
          obtain ⟨d2, a3, s3, e3, h7, h8, h9⟩ := die_ok hx (x1 := a2) (x2 := s2) (by omega) (by omega)
          rw [e3, Option.bind_some]
          refine ⟨_, _, _, rfl, by simp, ?_⟩
          intro d hd
          simp only [List.mem_cons, List.not_mem_nil, or_false] at hd
          rcases hd with h | h
          · rw [h]; exact h4
          · rw [h]; exact h7
theorem dr6 {x : List Int} (hx : Bytes x) : ∃ p, p_spec_DrawFairSizes 64 x = some p ∧ p.length ≤ 5 ∧ Six p := by
  unfold p_spec_DrawFairSizes
  obtain ⟨b, a, s, e, h1, h2⟩ := oneD_ok hx (n := 2) (at_ := 0) (s := 0) (by omega) (by omega) (by omega)
  rw [e, Option.bind_some]
  cases b with
  | true =>
    simp only [if_true]
    obtain ⟨p, a2, s2, e2, h4, h5⟩ := two_ok hx (x1 := a) (x2 := s) (by omega) (by omega)
    rw [e2, Option.bind_some]
    exact ⟨p, rfl, h4, h5⟩
  | false =>
    simp only [Bool.false_eq_true, if_false]
    obtain ⟨p, a2, s2, e2, h4, h5, _⟩ := pool_ok hx (x1 := a) (x2 := s) (by omega) (by omega)
    rw [e2, Option.bind_some]
    exact ⟨p, rfl, h4, h5⟩
end Go.GA
