/- Plain law of FnOrders: draws. -/
import Derived.Test.YtnomkjapifeedaaZKn
namespace Go.GA
open Go
set_option maxRecDepth 100000
theorem letters_any (r : List Int) : ∃ b, p_spec_l10Letters r = some b ∧ (b = true → ∃ m, r.length = 6 * m ∧ 1 ≤ m ∧ m ≤ 4 ∧ E.Good m r) := by
  by_cases hm : ∃ m, r.length = 6 * m ∧ 1 ≤ m ∧ m ≤ 4
  · obtain ⟨m, e, h1, h4⟩ := hm
    obtain ⟨l1, l2⟩ := E.letters_eq e h1 h4
    by_cases hg : E.Good m r
    · exact ⟨true, l1 hg, fun _ => ⟨m, e, h1, h4, hg⟩⟩
    · exact ⟨false, l2 hg, fun h => by cases h⟩
  · refine ⟨false, ?_, fun h => by cases h⟩
    unfold p_spec_l10Letters
    rw [if_pos]
    rw [E.l1In_eq]
    by_cases h6 : r.length % 6 = 0
    · have : ¬ (6 ≤ (r.length : Int) ∧ (r.length : Int) ≤ 24) := fun h => hm ⟨r.length / 6, by omega, by omega, by omega⟩
      rw [decide_eq_false this]; simp
    · have : ¬ (r.length : Int).tmod 6 = 0 := by
        rw [show (r.length : Int).tmod 6 = ((r.length % 6 : Nat) : Int) from rfl]; omega
      rw [decide_eq_false this]; rfl
theorem poolAt_six (m : Nat) (x : List Int) : ∀ i, E.Six (E.poolAt m x i)
  | 0 => fun d hd => by
    have : d = List.replicate 6 0 := (List.mem_replicate.1 hd).2
    rw [this]; rfl
  | i + 1 => fun d hd => by
    have ih := poolAt_six m x i
    rcases List.mem_or_eq_of_mem_set hd with h | rfl
    · exact ih d h
    · rw [List.length_set]
      by_cases hi : (x.getD i 0).toNat < (E.poolAt m x i).length
      · exact E.getD_six ih hi
      · rw [List.getD_eq_getElem?_getD, List.getElem?_eq_none (by omega)]; rfl
theorem few_ok {x : List Int} (hx : Bytes x) {fu : Nat} (hf : 64 ≤ fu) {x1 x2 : Int} (h0 : 0 ≤ x1) (h1 : x1 ≤ 4611686018427200000) : ∃ p a s, p_spec_l1Cur_few fu x x1 x2 = some (p, a, s) ∧ E.Six p ∧ 0 ≤ a ∧ a ≤ x1 + 600 := by
  unfold p_spec_l1Cur_few
  obtain ⟨p, a, s, e, hl, h6, b1, b2⟩ := pool_ok hx hf (x1 := x1) (x2 := x2) h0 h1
  rw [e, Option.bind_some]
  simp only
  split
  · obtain ⟨b, a2, s2, e2, b3, b4⟩ := oneD_ok hx (n := 8) (at_ := a) (s := s) (by omega) (by omega) (by omega)
    rw [e2, Option.bind_some]
    simp only
    split
    · exact ⟨_, _, _, rfl, h6, by omega, by omega⟩
    · exact ⟨_, _, _, rfl, fun d hd => h6 d (List.mem_of_mem_take hd), by omega, by omega⟩
  · exact ⟨_, _, _, rfl, h6, by omega, by omega⟩
theorem tieless_ok {x : List Int} (hx : Bytes x) (hl : x.length ≤ 70000) {fu : Nat} (hf : 10000000000000000 ≤ fu) {x1 : Int} (S : Nat) (h0 : 0 ≤ x1) (h1 : x1 ≤ 1000000) : ∃ p a s, p_spec_l1Cur_tieless10 fu x x1 (S : Int) = some (p, a, s) ∧ E.Six p ∧ 0 ≤ a ∧ a ≤ 4611100000000000000 := by
  unfold p_spec_l1Cur_tieless10
  obtain ⟨r, a, s, e, hr, b1, b2⟩ := letters10_ok hx hl hf S h0 h1
  rw [e, Option.bind_some]
  simp only
  obtain ⟨b, eb, hb⟩ := letters_any r
  rw [eb, Option.bind_some]
  cases b with
  | true =>
    rw [if_pos rfl]
    obtain ⟨c, a2, s2, e2, b3, b4⟩ := oneD_ok hx (n := 4) (at_ := a) (s := s) (by omega) (by omega) (by omega)
    rw [e2, Option.bind_some]
    simp only
    cases c with
    | true =>
      rw [if_pos rfl]
      obtain ⟨p, a3, s3, e3, h6, b5, b6⟩ := few_ok hx (fu := fu) (by omega) (x1 := a2) (x2 := s2) (by omega) (by omega)
      rw [e3, Option.bind_some]
      exact ⟨_, _, _, rfl, h6, b5, by simp only; omega⟩
    | false =>
      rw [if_neg (by simp)]
      obtain ⟨m, em, m1, m4, hg⟩ := hb rfl
      rw [E.pool_letters em m1 m4 hg, Option.bind_some]
      exact ⟨_, _, _, rfl, poolAt_six m r _, by omega, by omega⟩
  | false =>
    rw [if_neg (by simp)]
    obtain ⟨p, a3, s3, e3, h6, b5, b6⟩ := few_ok hx (fu := fu) (by omega) (x1 := a) (x2 := s) (by omega) (by omega)
    rw [e3, Option.bind_some]
    exact ⟨_, _, _, rfl, h6, b5, by simp only; omega⟩
theorem drawFair {x : List Int} (hx : Bytes x) (hl : x.length ≤ 70000) {fu : Nat} (hf : 10000000000000000 ≤ fu) : ∃ p, p_spec_DrawIsOrderFair fu x = some p ∧ E.Six p := by
  unfold p_spec_DrawIsOrderFair p_spec_l1Cur_one
  obtain ⟨v, S', e, _⟩ := pick_nat hx (N := 4) (by omega) (by omega) (S := 0) (at_ := 0) (by omega) (by omega)
  have e' : p_spec_l1Cur_pick 4 x 0 0 = some (((v % 4 : Nat) : Int), 0 + 1, (S' : Int)) := e
  rw [e', Option.bind_some, Option.bind_some]
  simp only
  split
  · exact ⟨_, rfl, fun d hd => by
      rcases List.mem_cons.1 hd with rfl | hd
      · rfl
      · rcases List.mem_cons.1 hd with rfl | hd
        · rfl
        · cases hd⟩
  · obtain ⟨p, a, s, e2, h6, _⟩ := tieless_ok hx hl hf (x1 := 0 + 1) S' (by omega) (by omega)
    rw [e2, Option.bind_some]
    exact ⟨_, rfl, h6⟩
theorem drawOrder {x : List Int} (hx : Bytes x) (hl : x.length ≤ 70000) {fu : Nat} (hf : 10000000000000000 ≤ fu) : ∃ p n, p_spec_DrawOrderOf fu x = some (p, n) ∧ E.Six p := by
  unfold p_spec_DrawOrderOf
  obtain ⟨p, a, s, e, h6, b1, b2⟩ := tieless_ok hx hl hf (x1 := 0) 0 (by omega) (by omega)
  have e' : p_spec_l1Cur_tieless10 fu x 0 0 = some (p, a, s) := e
  rw [e', Option.bind_some]
  simp only
  rw [E.pool_eq h6, Option.bind_some]
  cases hd : p_impl_IsPool p with
  | true =>
    rw [if_pos rfl]
    obtain ⟨g1, g4⟩ := E.pool_len hd
    obtain ⟨b, a2, s2, e2, b3, b4⟩ := oneD_ok hx (n := 16) (at_ := a) (s := s) (by omega) (by omega) (by omega)
    rw [e2, Option.bind_some]
    simp only
    cases b with
    | true =>
      rw [if_pos rfl]
      obtain ⟨w, a5, s5, e5, _, c5, c6⟩ := among_ok hx (l := [(-1), 216, 1296, 4611686018427387904]) (by simp) (by simp) (at_ := a2) (s := s2) (by omega) (by omega)
      rw [e5, Option.bind_some]
      exact ⟨_, _, rfl, h6⟩
    | false =>
      rw [if_neg (by simp), E.all_power, E.power_eq p.length (by omega) (by omega), Option.bind_some]
      have h64 : 6 ^ p.length ≤ 6 ^ 4 := Nat.pow_le_pow_right (by omega) g4
      have e64 : (6 : Nat) ^ 4 = 1296 := by decide
      obtain ⟨w, a5, s5, e5, _, _, c5, c6⟩ := pick_ok hx (n := ((6 ^ p.length : Nat) : Int)) (at_ := a2) (s := s2) (by omega) (by omega) (by omega)
      rw [e5, Option.bind_some]
      exact ⟨_, _, rfl, h6⟩
  | false =>
    rw [if_neg (by simp)]
    obtain ⟨w, a5, s5, e5, _, c5, c6⟩ := among_ok hx (l := [(-1), 216, 1296, 4611686018427387904]) (by simp) (by simp) (at_ := a) (s := s) (by omega) (by omega)
    rw [e5, Option.bind_some]
    exact ⟨_, _, rfl, h6⟩
theorem most_least (n : Nat) : 1 ≤ p_spec_l1Most 1 (p_spec_l1Least (n : Int) 4) ∧ p_spec_l1Most 1 (p_spec_l1Least (n : Int) 4) ≤ 4 := by
  unfold p_spec_l1Most p_spec_l1Least
  split <;> split <;> omega
theorem drawAt {x : List Int} (hx : Bytes x) (hl : x.length ≤ 70000) {fu : Nat} (hf : 10000000000000000 ≤ fu) : ∃ p u v, p_spec_DrawWaysAt fu x = some (p, u, v) ∧ E.Six p := by
  unfold p_spec_DrawWaysAt
  obtain ⟨p, a, s, e, h6, b1, b2⟩ := tieless_ok hx hl hf (x1 := 0) 0 (by omega) (by omega)
  have e' : p_spec_l1Cur_tieless10 fu x 0 0 = some (p, a, s) := e
  rw [e', Option.bind_some]
  simp only
  obtain ⟨m1, m4⟩ := most_least p.length
  generalize p_spec_l1Most 1 (p_spec_l1Least (p.length : Int) 4) = n at m1 m4
  obtain ⟨w, a5, s5, e5, _, _, c5, c6⟩ := pick_ok hx (n := n) (at_ := a) (s := s) (by omega) (by omega) (by omega)
  rw [e5, Option.bind_some]
  simp only
  obtain ⟨w2, a6, s6, e6, _, _, d5, d6⟩ := pick_ok hx (n := 24) (at_ := a5) (s := s5) (by omega) (by omega) (by omega)
  rw [e6, Option.bind_some]
  simp only
  obtain ⟨w3, a7, s7, e7, _, _, f5, f6⟩ := pick_ok hx (n := n) (at_ := a6) (s := s6) (by omega) (by omega) (by omega)
  rw [e7, Option.bind_some]
  simp only
  obtain ⟨w4, a8, s8, e8, _, _, g5, g6⟩ := pick_ok hx (n := 24) (at_ := a7) (s := s7) (by omega) (by omega) (by omega)
  rw [e8, Option.bind_some]
  exact ⟨_, _, _, rfl, h6⟩
end Go.GA
