/- Plain law of FnMade: throws, numbers of throws, lists of numbers. -/
import Derived.Test.YtedakmknjbjlbaaP9b
namespace Go.GA
open Go
set_option maxRecDepth 100000
theorem throws_ok {x : List Int} (hx : Bytes x) {l : List Int} (hl : 0 < l.length) (hl2 : l.length ≤ 1000) (hb : ∀ v ∈ l, v ≤ 41) {at_ s : Int} (h0 : 0 ≤ at_) (h1 : at_ ≤ 900000) :
    ∃ r at' s', p_spec_l1Cur_throws 64 l x at_ s = some (r, at', s') ∧ ((r.length : Int) ∈ l ∨ r.length = 0) ∧ r.length ≤ 41 := by
  unfold p_spec_l1Cur_throws
  obtain ⟨n, a1, s1, e1, hn, c1, c2⟩ := among_ok hx hl hl2 (s := s) h0 (by omega)
  rw [e1, Option.bind_some]
  have hn41 := hb n hn
  suffices hh : ∀ (d : Nat) (m a s : Int) (acc : List Int), 0 < d → m < d → 0 ≤ a → a + 2 * m ≤ 950000 → a ≤ 950000 → (0 ≤ m → m + (acc.length : Int) = n) → (m < 0 → acc.length = 0) → acc.length ≤ 41 → ∃ r at' s', whl (fun (s2 : Int × Int × Int × (List Int)) c4 => (if 0 < s2.1 then (p_spec_l1Cur_pick 6 x s2.2.1 s2.2.2.1).bind (fun r9 => if (s2.2.2.2.length : Int) + 1 ≤ 1000000000 then c4 ((IntKind.wrap .i64 (s2.1 - 1)), r9.2.1, r9.2.2, (s2.2.2.2 ++ [r9.1])) else none) else (if 0 < (s2.2.2.2.length : Int) then (p_spec_l1Cur_one 30 x s2.2.1 s2.2.2.1).bind (fun r14 => (if r14.1 = true then (p_spec_l1Cur_pick (s2.2.2.2.length : Int) x r14.2.1 r14.2.2).bind (fun r16 => (p_spec_l1Cur_among [(-1), 6, 4611686018427387904] x r16.2.1 r16.2.2).bind (fun r17 => if 0 ≤ r16.1 then if r16.1 < (s2.2.2.2.length : Int) then some ((s2.2.2.2.set r16.1.toNat r17.1), r17.2.1, r17.2.2) else none else none)) else some (s2.2.2.2, r14.2.1, r14.2.2))) else some (s2.2.2.2, s2.2.1, s2.2.2.1)))) d (m, a, s, acc) = some (r, at', s') ∧ ((r.length : Int) = n ∨ r.length = 0) ∧ r.length ≤ 41 by
    by_cases hneg : n < 0
    · obtain ⟨r, a', s', e, h2, h3⟩ := hh 64 n a1 s1 [] (by omega) (by omega) (by omega) (by omega) (by omega) (fun h => by omega) (fun _ => rfl) (by simp)
      refine ⟨r, a', s', e, ?_, h3⟩
      rcases h2 with h2 | h2
      · exact .inl (h2 ▸ hn)
      · exact .inr h2
    · obtain ⟨r, a', s', e, h2, h3⟩ := hh 64 n a1 s1 [] (by omega) (by omega) (by omega) (by omega) (by omega) (fun h => by simp) (fun _ => rfl) (by simp)
      refine ⟨r, a', s', e, ?_, h3⟩
      rcases h2 with h2 | h2
      · exact .inl (h2 ▸ hn)
      · exact .inr h2
  intro d
  induction d with
  | zero => 
    intro m a s acc h0 h1 h2 h3 h4 h5 h6 h7
    omega
  | succ d ih =>
    intro m a s acc h0 h1 h2 h3 h4 h5 h6 h7
    rw [show ∀ (f : (Int × Int × Int × (List Int)) → ((Int × Int × Int × (List Int)) → Option (List Int × Int × Int)) → Option (List Int × Int × Int)), whl f (d + 1) (m, a, s, acc) = f (m, a, s, acc) (whl f d) from fun _ => rfl]
    simp only
    by_cases hm : 0 < m
    · rw [if_pos hm]
      obtain ⟨v, a', s', e, _, _, b3, b4⟩ := pick_ok hx (n := 6) (s := s) h2 (by omega) (by omega)
      rw [e, Option.bind_some, if_pos (by omega), wr (n := m - 1) (by omega) (by omega)]
      have := h5 (by omega)
      exact ih (m - 1) a' s' (acc ++ [v]) (by omega) (by omega) (by omega) (by omega) (by omega) (fun _ => by simp; omega) (fun h => by omega) (by simp; omega)
    · rw [if_neg hm]
      by_cases hz : 0 < (acc.length : Int)
      · rw [if_pos hz]
        have hm0 : m = 0 := by
          by_cases h : m < 0
          · have := h6 h; omega
          · omega
        have hacc := h5 (by omega)
        obtain ⟨b, a', s', e, b3, b4⟩ := oneD_ok hx (n := 30) (s := s) h2 (by omega) (by omega)
        rw [e, Option.bind_some]
        cases b with
        | false => exact ⟨_, _, _, rfl, .inl (by omega), h7⟩
        | true =>
          simp only [if_true]
          obtain ⟨v, a2, s2, e2, v0, v1, b5, b6⟩ := pick_ok hx (n := (acc.length : Int)) (at_ := a') (s := s') (by omega) (by omega) (by omega)
          rw [e2, Option.bind_some]
          simp only
          obtain ⟨u, a3, s3, e3, _, b7, b8⟩ := among_ok hx (l := [(-1), 6, 4611686018427387904]) (by simp) (by simp) (at_ := a2) (s := s2) (by omega) (by omega)
          rw [e3, Option.bind_some, if_pos v0, if_pos (by omega)]
          exact ⟨_, _, _, rfl, .inl (by simp; omega), by simp; omega⟩
      · rw [if_neg hz]
        exact ⟨_, _, _, rfl, .inr (by omega), h7⟩
end Go.GA
