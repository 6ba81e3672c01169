/- Plain law of FnPairForms: draws. -/
import Derived.Test.YtebdkchfblddeaaPK5
namespace Go.GA
open Go
set_option maxRecDepth 100000
theorem isDie6 (a b c d e f : Int) : p_impl_IsDie [a, b, c, d, e, f] = true ↔ (0 ≤ a ∧ a ≤ b ∧ b ≤ c ∧ c ≤ d ∧ d ≤ e ∧ e ≤ f ∧ f ≤ 30) := by
  unfold p_impl_IsDie
  rw [faces_all]
  simp [p_slices_IsSorted_int_int, cntd, pwithin_eq, p_cmp_Less_int, p_cmp_isNaN_int]
  omega
theorem die6_of {x : List Int} (h : x.length = 6) (hd : p_impl_IsDie x = true) : Die6 x := by
  obtain ⟨a, b, c, d, e, f, rfl⟩ := len6 h
  exact ⟨a, b, c, d, e, f, rfl, (isDie6 a b c d e f).1 hd⟩
theorem pool_six {x : List (List Int)} (h : Six x) (hp : p_impl_IsPool x = true) : 1 ≤ x.length ∧ x.length ≤ 4 ∧ ∀ d ∈ x, Die6 d := by
  obtain ⟨h1, h2, _⟩ := pool_good h hp
  refine ⟨h1, h2, fun d hd => die6_of (h d hd) ?_⟩
  unfold p_impl_IsPool at hp
  simp only [Bool.and_eq_true, dies_all] at hp
  exact List.all_eq_true.1 hp.2 d hd
theorem beside_ok {x : List Int} (hx : Bytes x) {d : List Int} (hd : d.length = 6) {a s : Int} (h0 : 0 ≤ a) (h1 : a ≤ 800000) : ∃ d' a' s', p_spec_l1Cur_beside d x a s = some (d', a', s') ∧ d'.length = 6 := by
  unfold p_spec_l1Cur_beside
  obtain ⟨b, a1, s1, e1, b1, b2⟩ := oneD_ok hx (n := 2) (at_ := a) (s := s) h0 (by omega) (by omega)
  rw [e1, Option.bind_some]
  simp only
  split
  · obtain ⟨d2, a2, s2, e2, q1, q2, q3⟩ := die_ok hx (x1 := a1) (x2 := s1) (by omega) (by omega)
    rw [e2, Option.bind_some]
    exact ⟨_, _, _, rfl, q1⟩
  · obtain ⟨u, a2, s2, e2, u0, u1, b3, b4⟩ := pick_ok hx (n := 6) (at_ := a1) (s := s1) (by omega) (by omega) (by omega)
    rw [e2, Option.bind_some]
    simp only
    rw [if_pos u0, if_pos (by omega)]
    obtain ⟨w, a3, s3, e3, _, _, b5, b6⟩ := pick_ok hx (n := 3) (at_ := a2) (s := s2) (by omega) (by omega) (by omega)
    rw [e3, Option.bind_some]
    exact ⟨_, _, _, rfl, by rw [sorted_len]; simp [hd]⟩
theorem six_two {a b : List Int} (ha : a.length = 6) (hb : b.length = 6) : Six [a, b] := fun q hq => by
  simp only [List.mem_cons, List.not_mem_nil, or_false] at hq
  rcases hq with rfl | rfl
  · exact ha
  · exact hb
theorem two_ok {x : List Int} (hx : Bytes x) {fu : Nat} (hf : 64 ≤ fu) {a s : Int} (h0 : 0 ≤ a) (h1 : a ≤ 700000) : ∃ p a' s', p_spec_l1Cur_two fu x a s = some (p, a', s') ∧ Six p ∧ a ≤ a' ∧ a' ≤ a + 600 := by
  unfold p_spec_l1Cur_two
  obtain ⟨v, a1, s1, e1, _, _, b1, b2⟩ := pick_ok hx (n := 6) (at_ := a) (s := s) h0 (by omega) (by omega)
  rw [e1, Option.bind_some]
  simp only
  by_cases v0 : v = 0
  · rw [if_pos v0]; exact ⟨_, _, _, rfl, six_two rfl rfl, by omega, by omega⟩
  rw [if_neg v0]
  by_cases v1 : v = 1
  · rw [if_pos v1]; exact ⟨_, _, _, rfl, six_two rfl rfl, by omega, by omega⟩
  rw [if_neg v1]
  by_cases v2 : v = 2
  · rw [if_pos v2]
    obtain ⟨w, a2, s2, e2, _, _, b3, b4⟩ := pick_ok hx (n := 3) (at_ := a1) (s := s1) (by omega) (by omega) (by omega)
    rw [e2, Option.bind_some]
    simp only
    obtain ⟨z, a3, s3, e3, _, _, b5, b6⟩ := pick_ok hx (n := 4) (at_ := a2) (s := s2) (by omega) (by omega) (by omega)
    rw [e3, Option.bind_some]
    simp only
    refine cnt_ind0 (S := List Int × List Int) 6 (fun _ st => st.1.length = 6 ∧ st.2.length = 6) (fun r => ∃ p a' s', r = some (p, a', s') ∧ Six p ∧ a ≤ a' ∧ a' ≤ a + 600) rfl ⟨rfl, rfl⟩ (fun st hs => ⟨_, _, _, rfl, six_two (by rw [sorted_len]; exact hs.1) (by rw [sorted_len]; exact hs.2), by omega, by omega⟩) (fun i st c hi hs hc => hc _ ⟨by simp [hs.1], by simp [hs.2]⟩)
  rw [if_neg v2]
  by_cases v3 : v = 3
  · rw [if_pos v3]
    obtain ⟨p, a2, s2, e2, q1, q2, q3, q4⟩ := pool_ok hx hf (x1 := a1) (x2 := s1) (by omega) (by omega)
    rw [e2, Option.bind_some]
    exact ⟨p, a2, s2, rfl, q2, by omega, by omega⟩
  · rw [if_neg v3]
    obtain ⟨d, a2, s2, e2, q1, q2, q3⟩ := die_ok hx (x1 := a1) (x2 := s1) (by omega) (by omega)
    rw [e2, Option.bind_some]
    simp only
    obtain ⟨d', a3, s3, e3, r1, r2, r3⟩ := die_ok hx (x1 := a2) (x2 := s2) (by omega) (by omega)
    rw [e3, Option.bind_some]
    exact ⟨_, a3, s3, rfl, six_two q1 r1, by omega, by omega⟩
theorem l5Pair_len {a b : List Int} (ha : a.length = 6) (hb : b.length = 6) : (p_spec_l5Pair a b).1.length = 6 ∧ (p_spec_l5Pair a b).2.1.length = 6 := by
  unfold p_spec_l5Pair
  split
  · exact ⟨hb, ha⟩
  · exact ⟨ha, hb⟩
theorem two_dice {x : List Int} (hx : Bytes x) {a s : Int} (h0 : 0 ≤ a) (h1 : a ≤ 800000) : ∃ (d e : List Int) (a' s' : Int), (p_spec_l1Cur_die x a s).bind (fun r6 => (p_spec_l1Cur_die x r6.2.1 r6.2.2).bind (fun r7 => some ((r6.1, (r7.1, ())), r7.2.1, r7.2.2))) = some ((d, (e, ())), a', s') ∧ d.length = 6 ∧ e.length = 6 := by
  obtain ⟨d, a2, s2, e2, q1, q2, q3⟩ := die_ok hx (x1 := a) (x2 := s) h0 (by omega)
  rw [e2, Option.bind_some]
  simp only
  obtain ⟨d', a3, s3, e3, r1, r2, r3⟩ := die_ok hx (x1 := a2) (x2 := s2) (by omega) (by omega)
  rw [e3, Option.bind_some]
  exact ⟨_, _, _, _, rfl, q1, r1⟩
theorem draw1 {x : List Int} (hx : Bytes x) {fu : Nat} (hf : 64 ≤ fu) : ∃ d e, p_spec_DrawShapeOf fu x = some (d, (e, ())) ∧ d.length = 6 ∧ e.length = 6 := by
  have key : ∃ (d e : List Int) (a' s' : Int), p_spec_l1Cur_pair fu x 0 0 = some ((d, (e, ())), a', s') ∧ d.length = 6 ∧ e.length = 6 := by
    unfold p_spec_l1Cur_pair
    obtain ⟨p, a, s, e, h6, b1, b2⟩ := two_ok hx hf (a := 0) (s := 0) (by omega) (by omega)
    rw [e, Option.bind_some]
    simp only
    by_cases hl : (p.length : Int) < 2
    · rw [if_pos hl]; exact two_dice hx (by omega) (by omega)
    · rw [if_neg hl]
      obtain ⟨b, a1, s1, e1, b3, b4⟩ := oneD_ok hx (n := 30) (at_ := a) (s := s) (by omega) (by omega) (by omega)
      rw [e1, Option.bind_some]
      simp only
      split
      · exact two_dice hx (by omega) (by omega)
      · obtain ⟨q1, q2⟩ := l5Pair_len (getD_six h6 (i := 0) (by omega)) (getD_six h6 (i := 1) (by omega))
        exact ⟨_, _, _, _, rfl, q1, q2⟩
  obtain ⟨d, e, a', s', k1, k2, k3⟩ := key
  refine ⟨d, e, ?_, k2, k3⟩
  unfold p_spec_DrawShapeOf p_spec_DrawIsPair
  rw [k1, Option.bind_some, Option.bind_some]
theorem draw2 {x : List Int} (hx : Bytes x) : ∃ d, p_spec_DrawBaseOf x = some d ∧ d.length = 6 := by
  unfold p_spec_DrawBaseOf p_spec_DrawIsDie
  obtain ⟨d, a2, s2, e2, q1, q2, q3⟩ := die_ok hx (x1 := 0) (x2 := 0) (by omega) (by omega)
  rw [e2, Option.bind_some, Option.bind_some]
  exact ⟨_, rfl, q1⟩
theorem draw3 {x : List Int} (hx : Bytes x) : ∃ d e, p_spec_DrawPairOf x = some (d, e) ∧ d.length = 6 ∧ e.length = 6 := by
  unfold p_spec_DrawPairOf p_spec_DrawCompareDice
  obtain ⟨d, a, s, e, q1, q2, q3⟩ := die_ok hx (x1 := 0) (x2 := 0) (by omega) (by omega)
  rw [e, Option.bind_some]
  simp only
  obtain ⟨d', a', s', e', q4⟩ := beside_ok hx q1 (a := a) (s := s) (by omega) (by omega)
  rw [e', Option.bind_some, Option.bind_some]
  exact ⟨_, _, rfl, q1, q4⟩
theorem draw4 {x : List Int} (hx : Bytes x) {fu : Nat} (hf : 64 ≤ fu) : ∃ p, p_spec_DrawOneLike fu x = some p ∧ Six p := by
  unfold p_spec_DrawOneLike
  obtain ⟨p, a, s, e, c1, c2, c3, c4⟩ := pool_ok hx hf (x1 := 0) (x2 := 0) (by omega) (by omega)
  rw [e, Option.bind_some]
  simp only
  rw [pool_eq c2, Option.bind_some]
  split
  · obtain ⟨b, a1, s1, e1, b3, b4⟩ := oneD_ok hx (n := 2) (at_ := a) (s := s) (by omega) (by omega) (by omega)
    rw [e1, Option.bind_some]
    simp only
    split
    · refine cnt_ind (S := Int × Int × List (List Int)) (f := fun i8 (s7 : Int × Int × (List (List Int))) c9 _ => (p_spec_l1Cur_pick 9 x s7.1 s7.2.1).bind (fun r14 => c9 (r14.2.1, r14.2.2, (s7.2.2.set i8.toNat [r14.1, r14.1, r14.1, r14.1, r14.1, r14.1])))) (k := fun i8 (s7 : Int × Int × (List (List Int))) => some s7.2.2) (max 1 p.length) (fun i st => Six st.2.2 ∧ 0 ≤ st.1 ∧ st.1 ≤ 1000 + 2 * (i : Int)) (fun r => ∃ p, r = some p ∧ Six p) (fun st hs => ⟨_, rfl, hs.1⟩) (fun i st c hi hs hc => ?_) (Int.toNat ((p.length : Int) - 1)) 1 (a1, s1, p) (by omega) ⟨c2, by simp; omega, by simp; omega⟩
      obtain ⟨g1, g2, g3⟩ := hs
      obtain ⟨v, a2, s2, e2, _, _, b5, b6⟩ := pick_ok hx (n := 9) (at_ := st.1) (s := st.2.1) (by omega) (by omega) (by omega)
      rw [e2, Option.bind_some]
      refine hc _ ⟨fun q hq => ?_, by simp; omega, by simp; omega⟩
      rcases List.mem_or_eq_of_mem_set hq with h | h
      · exact g1 q h
      · rw [h]; rfl
    · exact ⟨_, rfl, c2⟩
  · exact ⟨_, rfl, c2⟩
theorem draw5 {x : List Int} (hx : Bytes x) {fu : Nat} (hf : 64 ≤ fu) : ∃ p, p_spec_DrawIsSymmetric fu x = some p ∧ Six p := by
  unfold p_spec_DrawIsSymmetric p_spec_DrawPairsLike
  obtain ⟨p, a, s, e, h6, b1, b2⟩ := two_ok hx hf (a := 0) (s := 0) (by omega) (by omega)
  rw [e, Option.bind_some, Option.bind_some]
  exact ⟨_, rfl, h6⟩
theorem draw6 {x : List Int} (hx : Bytes x) {fu : Nat} (hf : 64 ≤ fu) : ∃ p, p_spec_DrawEvenChance fu x = some p ∧ Six p := by
  unfold p_spec_DrawEvenChance
  obtain ⟨p, a, s, e, c1, c2, c3, c4⟩ := pool_ok hx hf (x1 := 0) (x2 := 0) (by omega) (by omega)
  rw [e, Option.bind_some]
  exact ⟨_, rfl, c2⟩
end Go.GA
