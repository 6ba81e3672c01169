/- Plain law of FnSumsOfDice: the draw. -/
import Derived.Test.YtheplbbbfbbjcaaSK5
namespace Go.GA
open Go
set_option maxRecDepth 100000
theorem roll_ok {x : List (List Int)} {fu : Nat} (hf : 64 ≤ fu) (hl : x.length ≤ 5) {v : Int} (h0 : 0 ≤ v) (h1 : v ≤ 1000000) : ∃ r, p_spec_l2Roll fu x v = some r := by
  unfold p_spec_l2Roll
  rw [if_pos (by omega)]
  suffices hh : ∀ (d : Nat) (v i : Int) (acc : List Int), 0 ≤ v → v ≤ 1000000 → -1 ≤ i → i + 1 < d → ∃ r, whl (fun (s2 : Int × Int × (List Int)) c4 => (if 0 ≤ s2.2.1 then if 0 ≤ (s2.1.tmod 6) then if (s2.1.tmod 6) < 6 then c4 ((IntKind.wrap .i64 (s2.1.tdiv 6)), (s2.2.1 - 1), (s2.2.2.set s2.2.1.toNat ((x.getD s2.2.1.toNat (List.replicate 6 0)).getD (s2.1.tmod 6).toNat 0))) else none else none else some s2.2.2)) d (v, i, acc) = some r by
    exact hh fu v _ _ h0 h1 (by omega) (by omega)
  intro d
  induction d with
  | zero => intro v i acc _ _ _ h; omega
  | succ d ih =>
    intro v i acc g0 g1 g2 g3
    simp only [whl]
    by_cases hi : 0 ≤ i
    · have t1 : 0 ≤ v.tmod 6 := Int.tmod_nonneg _ g0
      have t2 : v.tmod 6 < 6 := by rw [Int.tmod_eq_emod_of_nonneg g0]; omega
      have t3 : 0 ≤ v.tdiv 6 ∧ v.tdiv 6 ≤ v := by rw [Int.tdiv_eq_ediv_of_nonneg g0]; omega
      rw [if_pos hi, if_pos t1, if_pos t2, wr (by omega) (by omega)]
      exact ih _ _ _ t3.1 (by omega) (by omega) (by omega)
    · rw [if_neg hi]; exact ⟨_, rfl⟩
theorem isDie6 (a b c d e f : Int) : p_impl_IsDie [a, b, c, d, e, f] = true ↔ (0 ≤ a ∧ a ≤ b ∧ b ≤ c ∧ c ≤ d ∧ d ≤ e ∧ e ≤ f ∧ f ≤ 30) := by
  unfold p_impl_IsDie
  rw [faces_all]
  simp [p_slices_IsSorted_int_int, cntd, pwithin_eq, p_cmp_Less_int, p_cmp_isNaN_int]
  omega
theorem die6_of {x : List Int} (h : x.length = 6) (hd : p_impl_IsDie x = true) : Die6 x := by
  obtain ⟨a, b, c, d, e, f, rfl⟩ := len6 h
  exact ⟨a, b, c, d, e, f, rfl, (isDie6 a b c d e f).1 hd⟩
theorem pool_six {x : List (List Int)} (h : Six x) (hp : p_impl_IsPool x = true) : 1 ≤ x.length ∧ x.length ≤ 4 ∧ ∀ d ∈ x, Die6 d := by
  obtain ⟨h1, h2, _⟩ := pool_good h hp
  refine ⟨h1, h2, fun d hd => die6_of (h d hd) ?_⟩
  unfold p_impl_IsPool at hp
  simp only [Bool.and_eq_true, dies_all] at hp
  exact List.all_eq_true.1 hp.2 d hd
theorem sum_ok {x : List Int} (hx : Bytes x) {fu : Nat} (hf : 64 ≤ fu) {p : List (List Int)} (hl : p.length ≤ 5) (h6 : Six p) {a s : Int} (h0 : 0 ≤ a) (h1 : a ≤ 900000) : ∃ n a' s', p_spec_l1Cur_sum fu p x a s = some (n, a', s') := by
  unfold p_spec_l1Cur_sum
  rw [pool_eq h6, Option.bind_some]
  by_cases hp : p_impl_IsPool p = true
  · rw [if_pos hp]
    obtain ⟨_, hm, _⟩ := pool_good h6 hp
    obtain ⟨b, a1, s1, e1, b1, b2⟩ := oneD_ok hx (n := 6) (at_ := a) (s := s) h0 (by omega) (by omega)
    rw [e1, Option.bind_some]
    simp only
    split
    · obtain ⟨v, a2, s2, e2, _, _, _⟩ := among_ok hx (l := [7, 10, 0, 120, 121, (-1), 4611686018427387904]) (by simp) (by simp) (at_ := a1) (s := s1) (by omega) (by omega)
      rw [e2, Option.bind_some]
      exact ⟨_, _, _, rfl⟩
    · have hp6 : 6 ^ p.length ≤ 6 ^ 4 := Nat.pow_le_pow_right (by omega) hm
      have e6 : (6 : Nat) ^ 4 = 1296 := rfl
      rw [all_eq (by omega) (by omega), Option.bind_some]
      obtain ⟨v, a2, s2, e2, v0, v1, _, _⟩ := pick_ok hx (n := ((6 ^ p.length : Nat) : Int)) (at_ := a1) (s := s1) (by omega) (by omega) (by omega)
      rw [e2, Option.bind_some]
      simp only
      obtain ⟨r, e3⟩ := roll_ok hf hl (v := v) v0 (by omega)
      rw [e3, Option.bind_some]
      refine cnt_ind0 (S := Int) r.length (fun _ _ => True) (fun q => ∃ n a' s', q = some (n, a', s')) (by omega) trivial (fun s _ => ⟨_, _, _, rfl⟩) (fun i s c hi _ hc => hc _ trivial)
  · rw [if_neg hp]
    obtain ⟨v, a2, s2, e2, _, _, _⟩ := among_ok hx (l := [7, 10, 0, 120, 121, (-1), 4611686018427387904]) (by simp) (by simp) (at_ := a) (s := s) (by omega) (by omega)
    rw [e2, Option.bind_some]
    exact ⟨_, _, _, rfl⟩
theorem draw_ok {x : List Int} (hx : Bytes x) {fu : Nat} (hf : 64 ≤ fu) : ∃ p n, p_spec_DrawChanceOfSum fu x = some (p, n) ∧ Six p := by
  unfold p_spec_DrawChanceOfSum
  obtain ⟨p, a, s, e, c1, c2, c3, c4⟩ := pool_ok hx hf (x1 := 0) (x2 := 0) (by omega) (by omega)
  rw [e, Option.bind_some]
  simp only
  obtain ⟨n, a', s', e'⟩ := sum_ok hx hf c1 c2 (a := a) (s := s) (by omega) (by omega)
  rw [e', Option.bind_some]
  exact ⟨_, _, rfl, c2⟩
end Go.GA
