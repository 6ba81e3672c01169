/- Plain law of FnBursts. -/
import Derived.Test.YtddljmnmkiofmaaWKj
namespace Go.GA
open Go
set_option maxRecDepth 100000
theorem amongT_ok {x : List Int} (hx : Bytes x) {l : List Int} {n : Int} (h0' : 1 ≤ n) (hl : 0 < l.length) (hl2 : l.length ≤ 1000) {at_ s : Int} (h0 : 0 ≤ at_) (h1 : at_ ≤ 999000) : ∃ v at' s', p_spec_l1Cur_among (l.take n.toNat) x at_ s = some (v, at', s') ∧ v ∈ l ∧ at_ ≤ at' ∧ at' ≤ at_ + 2 := by
  obtain ⟨v, a, s', e, hv, b1, b2⟩ := among_ok hx (l := l.take n.toNat) (by rw [List.length_take]; omega) (by rw [List.length_take]; omega) (at_ := at_) (s := s) h0 h1
  exact ⟨v, a, s', e, List.mem_of_mem_take hv, b1, b2⟩
theorem div6 {v : Int} (h0 : 0 ≤ v) (h1 : v < 24) (k : Int) (hk : 0 ≤ k ∧ k ≤ 100) : IntKind.wrap .i64 (k + IntKind.wrap .i64 (v.tdiv 6)) = k + v / 6 ∧ 0 ≤ v / 6 ∧ v / 6 ≤ 3 := by
  rw [Int.tdiv_eq_ediv_of_nonneg h0, wr (n := v / 6) (by omega) (by omega), wr (by omega) (by omega)]
  omega
theorem div11 {v : Int} (h0 : 0 ≤ v) (h1 : v < 24) (k : Int) (hk : 0 ≤ k ∧ k ≤ 100) : IntKind.wrap .i64 (k + IntKind.wrap .i64 (v.tdiv 11)) = k + v / 11 ∧ 0 ≤ v / 11 ∧ v / 11 ≤ 2 := by
  rw [Int.tdiv_eq_ediv_of_nonneg h0, wr (n := v / 11) (by omega) (by omega), wr (by omega) (by omega)]
  omega
theorem drawBurst {x : List Int} (hx : Bytes x) : ∃ d k, p_spec_DrawBurstTable x = some (d, k) ∧ d.length = 6 := by
  unfold p_spec_DrawBurstTable
  obtain ⟨d, a, s, e, h6, b1, b2⟩ := die_ok hx (x1 := 0) (x2 := 0) (by omega) (by omega)
  rw [e, Option.bind_some]
  simp only
  obtain ⟨v, a1, s1, e1, v0, v1, b3, b4⟩ := pick_ok hx (n := 24) (at_ := a) (s := s) (by omega) (by omega) (by omega)
  rw [e1, Option.bind_some]
  simp only
  obtain ⟨d1, d2, d3⟩ := div11 v0 (by omega) 4 ⟨by omega, by omega⟩
  rw [d1, if_pos (by omega), if_pos (by omega)]
  obtain ⟨w, a2, s2, e2, _, _⟩ := amongT_ok hx (l := [1, 2, 3, 0, 4, (-1)]) (n := 4 + v / 11) (by omega) (by simp) (by simp) (at_ := a1) (s := s1) (by omega) (by omega)
  rw [e2, Option.bind_some]
  exact ⟨_, _, rfl, h6⟩
theorem rolls8_ok {x : List Int} (hx : Bytes x) {a s : Int} (h0 : 0 ≤ a) (h1 : a ≤ 900000) : ∃ v a' s', p_spec_l1Cur_rolls8 x a s = some (v, a', s') := by
  unfold p_spec_l1Cur_rolls8
  obtain ⟨v, a1, s1, e1, v0, v1, b3, b4⟩ := pick_ok hx (n := 24) (at_ := a) (s := s) (by omega) (by omega) (by omega)
  rw [e1, Option.bind_some]
  simp only
  obtain ⟨d1, d2, d3⟩ := div11 v0 (by omega) 7 ⟨by omega, by omega⟩
  rw [d1, if_pos (by omega), if_pos (by omega)]
  obtain ⟨w, a2, s2, e2, _, _⟩ := amongT_ok hx (l := [3, 2, 5, 1, 8, 12, 0, 13, (-1)]) (n := 7 + v / 11) (by omega) (by simp) (by simp) (at_ := a1) (s := s1) (by omega) (by omega)
  rw [e2, Option.bind_some]
  exact ⟨_, _, _, rfl⟩
theorem drawWithin {x : List Int} (hx : Bytes x) : ∃ d v n, p_spec_DrawChanceWithin x = some (d, v, n) ∧ d.length = 6 := by
  unfold p_spec_DrawChanceWithin p_spec_DrawMeanWait
  obtain ⟨d, a, s, e, h6, b1, b2⟩ := die_ok hx (x1 := 0) (x2 := 0) (by omega) (by omega)
  rw [e, Option.bind_some]
  simp only
  obtain ⟨v, a1, s1, e1, v0, v1, b3, b4⟩ := pick_ok hx (n := 24) (at_ := a) (s := s) (by omega) (by omega) (by omega)
  rw [e1, Option.bind_some]
  simp only
  obtain ⟨d1, d2, d3⟩ := div6 v0 (by omega) 3 ⟨by omega, by omega⟩
  rw [d1, if_pos (by omega), if_pos (by omega)]
  obtain ⟨w, a2, s2, e2, _, _⟩ := amongT_ok hx (l := [(d.getD 0 0), (d.getD 5 0), (d.getD 2 0), 7, (-1), 4611686018427387904]) (n := 3 + v / 6) (by omega) (by simp) (by simp) (at_ := a1) (s := s1) (by omega) (by omega)
  rw [e2, Option.bind_some, Option.bind_some]
  obtain ⟨u, a3, s3, e3⟩ := rolls8_ok hx (a := 0) (s := 0) (by omega) (by omega)
  rw [e3, Option.bind_some]
  exact ⟨_, _, _, rfl, h6⟩
theorem drawAll {x : List Int} (hx : Bytes x) : ∃ d n, p_spec_DrawChanceAll x = some (d, n) ∧ d.length = 6 := by
  unfold p_spec_DrawChanceAll
  obtain ⟨d, a, s, e, h6, b1, b2⟩ := die_ok hx (x1 := 0) (x2 := 0) (by omega) (by omega)
  rw [e, Option.bind_some]
  obtain ⟨u, a3, s3, e3⟩ := rolls8_ok hx (a := a) (s := s) (by omega) (by omega)
  simp only
  rw [e3, Option.bind_some]
  exact ⟨_, _, rfl, h6⟩
theorem cut_bytes {x : List Int} (hx : Bytes x) (hl : x.length ≤ 65536) {n : Int} (hn : 0 ≤ n ∧ n ≤ 2) : ∃ y, p_laws_vCut x n = some y ∧ Bytes y := by
  have key : ∀ s1 : Int, 0 ≤ s1 → s1 ≤ x.length → s1 ≤ 2 → ∃ y, (if 0 ≤ s1 then if s1 ≤ (x.length : Int) then if 0 + ((x.length : Int) - s1) ≤ 1000000000 then if (0 + ((x.length : Int) - s1)) + 1 ≤ 1000000000 then some (([] ++ (x.drop s1.toNat)) ++ [(IntKind.wrap .u8 s1)]) else none else none else none else none) = some y ∧ Bytes y := by
    intro s1 h0 h1 h2
    rw [if_pos h0, if_pos h1, if_pos (by omega), if_pos (by omega)]
    refine ⟨_, rfl, fun b hb => ?_⟩
    rcases List.mem_append.1 hb with h | h
    · rw [List.nil_append] at h
      exact hx b (List.mem_of_mem_drop h)
    · have e : b = IntKind.wrap .u8 s1 := by simpa using h
      rcases (by omega : s1 = 0 ∨ s1 = 1 ∨ s1 = 2) with h | h | h
      · rw [e, h]; decide
      · rw [e, h]; decide
      · rw [e, h]; decide
  unfold p_laws_vCut jn
  simp only
  split
  · exact key _ (by omega) (by omega) (by omega)
  · exact key n (by omega) (by omega) (by omega)
theorem law_FnBursts {x : List Int} (hx : Bytes x) {fu : Nat} (hf : 100000000000 ≤ fu) : p_laws_FnBursts fu x = some true := by
  unfold p_laws_FnBursts
  by_cases hb : p_laws_vBig x = true
  · rw [if_pos hb]
  · rw [if_neg hb]
    have hlen : x.length ≤ 65536 := by
      unfold p_laws_vBig at hb
      simp at hb
      omega
    obtain ⟨d, k, d1, h6⟩ := drawBurst hx
    obtain ⟨x1, q1, hx1⟩ := cut_bytes hx hlen (n := 1) (by omega)
    obtain ⟨x2, q2, hx2⟩ := cut_bytes hx hlen (n := 2) (by omega)
    obtain ⟨e, v, n, d2, he⟩ := drawWithin hx1
    obtain ⟨g, m, d3, hg⟩ := drawAll hx2
    obtain ⟨a1, a2⟩ := E.burst_both h6 k (fu := fu) (by omega)
    obtain ⟨b1, b2⟩ := E.bmean_both h6 (fu := fu) (by omega)
    obtain ⟨c1, c2⟩ := E.within_both he v n hf
    obtain ⟨w1, w2⟩ := E.wait_both he v (fu := fu) (by omega)
    obtain ⟨l1, l2⟩ := E.all_both hg m hf
    obtain ⟨m1, m2⟩ := E.mean_both hg (fu := fu) (by omega)
    rw [d1, Option.bind_some]
    simp only
    rw [a1, Option.bind_some, a2, Option.bind_some, b1, Option.bind_some, b2, Option.bind_some, q1, Option.bind_some, d2, Option.bind_some]
    simp only
    rw [c1, Option.bind_some, c2, Option.bind_some, w1, Option.bind_some, w2, Option.bind_some, q2, Option.bind_some, d3, Option.bind_some]
    simp only
    rw [l1, Option.bind_some, l2, Option.bind_some, m1, Option.bind_some, m2, Option.bind_some]
    have hlast : ((if (p_impl_IsDie g && p_impl_isRolls m) = true then (E.cutF (E.allW (E.wsF g) m.toNat).toNat (6 ^ m.toNat), true) else (List.replicate 2 0, false)).2 && (!(if p_impl_IsDie g = true then (E.cutF (E.meanW (E.wsF g)).toNat 60, true) else (List.replicate 2 0, false)).2)) = false := by
      cases p_impl_IsDie g <;> cases p_impl_isRolls m <;> rfl
    rw [if_neg (by rw [hlast]; simp)]
    refine (E.part4 h6 k (fu := fu) (by omega) (fun _ => _)).trans ?_
    refine (E.part3 he v n hf (fun _ => _)).trans ?_
    refine (E.part2 hg m hf (fun _ => _)).trans ?_
    exact E.part1 hg
theorem pure_FnBursts {x : List Int} (o : OkT (.slice (.int .u8)) x) : ∃ fu, p_laws_FnBursts fu x = some true := by
  have hx : Bytes x := fun b hb => by
    have h : (Lit.int .u8 b).wf = true := o.2 b hb
    simp only [Lit.wf, Bool.and_eq_true, decide_eq_true_eq] at h
    have e1 : IntKind.u8.min = 0 := by decide
    have e2 : IntKind.u8.max = 255 := by decide
    rw [e1, e2] at h
    exact h
  exact ⟨100000000000, law_FnBursts hx (by omega)⟩
end Go.GA
