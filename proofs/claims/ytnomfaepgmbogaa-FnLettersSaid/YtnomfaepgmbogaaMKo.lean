/- Plain law of FnLetters: draws. -/
import Derived.Test.YtnomfaepgmbogaaMKn
namespace Go.GA
open Go
set_option maxRecDepth 100000
theorem letters_any (r : List Int) : ∃ b, p_spec_l10Letters r = some b ∧ (b = true → ∃ m, r.length = 6 * m ∧ 1 ≤ m ∧ m ≤ 4 ∧ E.Good m r) := by
  by_cases hm : ∃ m, r.length = 6 * m ∧ 1 ≤ m ∧ m ≤ 4
  · obtain ⟨m, e, h1, h4⟩ := hm
    obtain ⟨l1, l2⟩ := E.letters_eq e h1 h4
    by_cases hg : E.Good m r
    · exact ⟨true, l1 hg, fun _ => ⟨m, e, h1, h4, hg⟩⟩
    · exact ⟨false, l2 hg, fun h => by cases h⟩
  · refine ⟨false, ?_, fun h => by cases h⟩
    unfold p_spec_l10Letters
    rw [if_pos]
    rw [E.l1In_eq]
    by_cases h6 : r.length % 6 = 0
    · have : ¬ (6 ≤ (r.length : Int) ∧ (r.length : Int) ≤ 24) := fun h => hm ⟨r.length / 6, by omega, by omega, by omega⟩
      rw [decide_eq_false this]; simp
    · have : ¬ (r.length : Int).tmod 6 = 0 := by
        rw [show (r.length : Int).tmod 6 = ((r.length % 6 : Nat) : Int) from rfl]; omega
      rw [decide_eq_false this]; rfl
theorem poolAt_six (m : Nat) (x : List Int) : ∀ i, E.Six (E.poolAt m x i)
  | 0 => fun d hd => by
    have : d = List.replicate 6 0 := (List.mem_replicate.1 hd).2
    rw [this]; rfl
  | i + 1 => fun d hd => by
    have ih := poolAt_six m x i
    rcases List.mem_or_eq_of_mem_set hd with h | rfl
    · exact ih d h
    · rw [List.length_set]
      by_cases hi : (x.getD i 0).toNat < (E.poolAt m x i).length
      · exact E.getD_six ih hi
      · rw [List.getD_eq_getElem?_getD, List.getElem?_eq_none (by omega)]; rfl
theorem few_ok {x : List Int} (hx : Bytes x) {fu : Nat} (hf : 64 ≤ fu) {x1 x2 : Int} (h0 : 0 ≤ x1) (h1 : x1 ≤ 4611686018427200000) : ∃ p a s, p_spec_l1Cur_few fu x x1 x2 = some (p, a, s) ∧ E.Six p ∧ 0 ≤ a ∧ a ≤ x1 + 600 := by
  unfold p_spec_l1Cur_few
  obtain ⟨p, a, s, e, hl, h6, b1, b2⟩ := pool_ok hx hf (x1 := x1) (x2 := x2) h0 h1
  rw [e, Option.bind_some]
  simp only
  split
  · obtain ⟨b, a2, s2, e2, b3, b4⟩ := oneD_ok hx (n := 8) (at_ := a) (s := s) (by omega) (by omega) (by omega)
    rw [e2, Option.bind_some]
    simp only
    split
    · exact ⟨_, _, _, rfl, h6, by omega, by omega⟩
    · exact ⟨_, _, _, rfl, fun d hd => h6 d (List.mem_of_mem_take hd), by omega, by omega⟩
  · exact ⟨_, _, _, rfl, h6, by omega, by omega⟩
theorem tieless_ok {x : List Int} (hx : Bytes x) (hl : x.length ≤ 70000) {fu : Nat} (hf : 10000000000000000 ≤ fu) {x1 : Int} (S : Nat) (h0 : 0 ≤ x1) (h1 : x1 ≤ 1000000) : ∃ p a s, p_spec_l1Cur_tieless10 fu x x1 (S : Int) = some (p, a, s) ∧ E.Six p ∧ 0 ≤ a ∧ a ≤ 4611100000000000000 := by
  unfold p_spec_l1Cur_tieless10
  obtain ⟨r, a, s, e, hr, b1, b2⟩ := letters10_ok hx hl hf S h0 h1
  rw [e, Option.bind_some]
  simp only
  obtain ⟨b, eb, hb⟩ := letters_any r
  rw [eb, Option.bind_some]
  cases b with
  | true =>
    rw [if_pos rfl]
    obtain ⟨c, a2, s2, e2, b3, b4⟩ := oneD_ok hx (n := 4) (at_ := a) (s := s) (by omega) (by omega) (by omega)
    rw [e2, Option.bind_some]
    simp only
    cases c with
    | true =>
      rw [if_pos rfl]
      obtain ⟨p, a3, s3, e3, h6, b5, b6⟩ := few_ok hx (fu := fu) (by omega) (x1 := a2) (x2 := s2) (by omega) (by omega)
      rw [e3, Option.bind_some]
      exact ⟨_, _, _, rfl, h6, b5, by simp only; omega⟩
    | false =>
      rw [if_neg (by simp)]
      obtain ⟨m, em, m1, m4, hg⟩ := hb rfl
      rw [E.pool_letters em m1 m4 hg, Option.bind_some]
      exact ⟨_, _, _, rfl, poolAt_six m r _, by omega, by omega⟩
  | false =>
    rw [if_neg (by simp)]
    obtain ⟨p, a3, s3, e3, h6, b5, b6⟩ := few_ok hx (fu := fu) (by omega) (x1 := a) (x2 := s) (by omega) (by omega)
    rw [e3, Option.bind_some]
    exact ⟨_, _, _, rfl, h6, b5, by simp only; omega⟩
end Go.GA
