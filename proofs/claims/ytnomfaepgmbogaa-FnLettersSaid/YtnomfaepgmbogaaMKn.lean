/- Plain law of FnLetters: pools that are drawn. -/
import Derived.Test.YtnomfaepgmbogaaMKm
import Derived.Test.YtnomfaepgmbogaaMKg
namespace Go.GA
open Go
set_option maxRecDepth 100000
theorem letters10_ok {x : List Int} (hx : Bytes x) (hl : x.length ≤ 70000) {fu : Nat} (hf : 10000000000000000 ≤ fu) {x1 : Int} (S : Nat) (h0 : 0 ≤ x1) (h1 : x1 ≤ 1000000) : ∃ r a s, p_spec_l1Cur_letters10 fu x x1 (S : Int) = some (r, a, s) ∧ r.length ≤ 24 ∧ 0 ≤ a ∧ a ≤ 4611000000000000000 := by
  unfold p_spec_l1Cur_letters10
  have two : ∃ (n : Nat) (a' : Int) (S' : Nat), p_spec_l1Cur_among [2, 3, 2, 1] x x1 (S : Int) = some ((n : Int), a', (S' : Int)) ∧ 1 ≤ n ∧ n ≤ 4 ∧ x1 ≤ a' ∧ a' ≤ x1 + 2 := by
    unfold p_spec_l1Cur_among
    obtain ⟨v, S', e, _⟩ := pick_nat hx (N := 4) (by omega) (by omega) (S := S) (at_ := x1) (by omega) (by omega)
    have hv : v % 4 < 4 := Nat.mod_lt _ (by omega)
    have e' : p_spec_l1Cur_pick (([2, 3, 2, 1] : List Int).length : Int) x x1 (S : Int) = some (((v % 4 : Nat) : Int), x1 + 1, (S' : Int)) := e
    rw [e', Option.bind_some]
    generalize v % 4 = w at hv
    simp only
    rw [if_pos (by omega), if_pos (by simp; omega), Int.toNat_natCast]
    have : w = 0 ∨ w = 1 ∨ w = 2 ∨ w = 3 := by omega
    rcases this with rfl | rfl | rfl | rfl
    · exact ⟨2, _, S', rfl, by omega, by omega, by omega, by omega⟩
    · exact ⟨3, _, S', rfl, by omega, by omega, by omega, by omega⟩
    · exact ⟨2, _, S', rfl, by omega, by omega, by omega, by omega⟩
    · exact ⟨1, _, S', rfl, by omega, by omega, by omega, by omega⟩
  obtain ⟨n, a, S1, e1, n1, n4, b1, b2⟩ := two
  rw [e1, Option.bind_some]
  unfold jn
  simp only
  have one : ∃ (b : Bool) (S' : Nat), p_spec_l1Cur_one 12 x a (S1 : Int) = some (b, a + 1, (S' : Int)) := by
    unfold p_spec_l1Cur_one
    obtain ⟨v, S', e, _⟩ := pick_nat hx (N := 12) (by omega) (by omega) (S := S1) (at_ := a) (by omega) (by omega)
    have e' : p_spec_l1Cur_pick 12 x a (S1 : Int) = some (((v % 12 : Nat) : Int), a + 1, (S' : Int)) := e
    rw [e', Option.bind_some]
    exact ⟨_, S', rfl⟩
  obtain ⟨b, S2, e2⟩ := one
  rw [e2, Option.bind_some]
  have key : ∀ N : Nat, 1 ≤ N → N ≤ 4 → ∃ r a' s, whl (lF x (N : Int) (fun s5 => (p_spec_l1Cur_pick 40 x s5.1 s5.2.1).bind (fun r19 => (if r19.1 = 0 then (p_spec_l1Cur_pick (s5.2.2.1.length : Int) x r19.2.1 r19.2.2).bind (fun r23 => (p_spec_l1Cur_among [(-1), 0, (N : Int), 4, 4611686018427387904] x r23.2.1 r23.2.2).bind (fun r24 => if 0 ≤ r23.1 then if r23.1 < (s5.2.2.1.length : Int) then some ((s5.2.2.1.set r23.1.toNat r24.1), r24.2.1, r24.2.2) else none else none)) else (if r19.1 = 1 then if 0 ≤ (IntKind.wrap .i64 ((s5.2.2.1.length : Int) - 1)) then if (IntKind.wrap .i64 ((s5.2.2.1.length : Int) - 1)) ≤ (s5.2.2.1.length : Int) then some ((s5.2.2.1.take (IntKind.wrap .i64 ((s5.2.2.1.length : Int) - 1)).toNat), r19.2.1, r19.2.2) else none else none else (if r19.1 = 2 then some ([], r19.2.1, r19.2.2) else some (s5.2.2.1, r19.2.1, r19.2.2))))))) fu (a + 1, (S2 : Int), [], List.replicate 4 0) = some (r, a', s) ∧ r.length ≤ 24 ∧ 0 ≤ a' ∧ a' ≤ 4611000000000000000 := by
    intro N hN1 hN4
    obtain ⟨k, a', S', out, l, g1, g2, g3, g4, g5⟩ := all_letters (R := List Int × Int × Int) (E := fun s5 => (p_spec_l1Cur_pick 40 x s5.1 s5.2.1).bind (fun r19 => (if r19.1 = 0 then (p_spec_l1Cur_pick (s5.2.2.1.length : Int) x r19.2.1 r19.2.2).bind (fun r23 => (p_spec_l1Cur_among [(-1), 0, (N : Int), 4, 4611686018427387904] x r23.2.1 r23.2.2).bind (fun r24 => if 0 ≤ r23.1 then if r23.1 < (s5.2.2.1.length : Int) then some ((s5.2.2.1.set r23.1.toNat r24.1), r24.2.1, r24.2.2) else none else none)) else (if r19.1 = 1 then if 0 ≤ (IntKind.wrap .i64 ((s5.2.2.1.length : Int) - 1)) then if (IntKind.wrap .i64 ((s5.2.2.1.length : Int) - 1)) ≤ (s5.2.2.1.length : Int) then some ((s5.2.2.1.take (IntKind.wrap .i64 ((s5.2.2.1.length : Int) - 1)).toNat), r19.2.1, r19.2.2) else none else none else (if r19.1 = 2 then some ([], r19.2.1, r19.2.2) else some (s5.2.2.1, r19.2.1, r19.2.2)))))) hx hl hN1 hN4 (6 * N) [] [0, 0, 0, 0] (a + 1) S2 ⟨rfl, by
      have : N = 1 ∨ N = 2 ∨ N = 3 ∨ N = 4 := by omega
      rcases this with rfl | rfl | rfl | rfl <;> rfl⟩ (by simp) (by omega) (by omega)
    obtain ⟨f, rfl⟩ : ∃ f, fu = (f + 1) + k := ⟨fu - k - 1, by omega⟩
    have e0 : (List.replicate 4 0 : List Int) = cs [0, 0, 0, 0] := rfl
    rw [e0, g5, whl_one]
    unfold lF
    simp only
    rw [wr (n := 6 * (N : Int)) (by omega) (by omega), if_neg (by omega)]
    obtain ⟨v, a3, s3, e3, v0, v1, c1, c2⟩ := pick_ok hx (n := 40) (at_ := a') (s := (S' : Int)) (by omega) (by omega) (by omega)
    rw [e3, Option.bind_some]
    simp only
    by_cases hv0 : v = 0
    · rw [if_pos hv0]
      obtain ⟨u, a4, s4, e4, u0, u1, c3, c4⟩ := pick_ok hx (n := (out.length : Int)) (at_ := a3) (s := s3) (by omega) (by omega) (by omega)
      rw [e4, Option.bind_some]
      simp only
      obtain ⟨w, a5, s5, e5, _, c5, c6⟩ := among_ok hx (l := [(-1), 0, (N : Int), 4, 4611686018427387904]) (by simp) (by simp) (at_ := a4) (s := s4) (by omega) (by omega)
      rw [e5, Option.bind_some, if_pos u0, if_pos (by omega)]
      exact ⟨_, _, _, rfl, by simp; omega, by simp only; omega, by simp only; omega⟩
    · rw [if_neg hv0]
      by_cases hv1 : v = 1
      · rw [if_pos hv1, wr (by omega) (by omega), if_pos (by omega), if_pos (by omega)]
        exact ⟨_, _, _, rfl, by rw [List.length_take]; omega, by omega, by omega⟩
      · rw [if_neg hv1]
        by_cases hv2 : v = 2
        · rw [if_pos hv2]; exact ⟨_, _, _, rfl, by simp, by omega, by omega⟩
        · rw [if_neg hv2]; exact ⟨_, _, _, rfl, by omega, by omega, by omega⟩
  cases b with
  | true =>
    rw [if_pos rfl]
    exact key 4 (by omega) (by omega)
  | false =>
    rw [if_neg (by simp)]
    exact key n n1 n4
end Go.GA
