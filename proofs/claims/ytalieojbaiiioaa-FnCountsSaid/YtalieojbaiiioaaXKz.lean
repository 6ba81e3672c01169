/- Plain law of FnCounts: draws. -/
import Derived.Test.YtalieojbaiiioaaXK3
namespace Go.GA
open Go
set_option maxRecDepth 100000
theorem put_ok {s : List Int} {v : Int} (hl : s.length ≤ 1000) : ∃ r, p_spec_l1Put s v = some r ∧ 1 ≤ r.length ∧ r.length ≤ s.length + 1 := by
  unfold p_spec_l1Put
  have hE : ∀ i : Nat, i ≤ s.length → ∃ r, (if ((decide ((i : Int) < (s.length : Int))) && (decide ((s.getD (i : Int).toNat 0) = v))) = true then some s else if 0 + ((i : Int) - 0) ≤ 1000000000 then if (0 + ((i : Int) - 0)) + 1 ≤ 1000000000 then if ((0 + ((i : Int) - 0)) + 1) + ((s.length : Int) - i) ≤ 1000000000 then some ((([] ++ ((s.drop 0).take ((i : Int) - 0).toNat)) ++ [v]) ++ ((s.drop (i : Int).toNat).take ((s.length : Int) - i).toNat)) else none else none else none) = some r ∧ 1 ≤ r.length ∧ r.length ≤ s.length + 1 := by
    intro i hi
    split
    · rename_i h
      simp only [Bool.and_eq_true, decide_eq_true_eq] at h
      exact ⟨s, rfl, by omega, by omega⟩
    · rw [if_pos (by omega), if_pos (by omega), if_pos (by omega)]
      refine ⟨_, rfl, ?_, ?_⟩
      · simp; omega
      · simp only [List.length_append, List.length_take, List.length_drop, List.length_nil, List.length_singleton]
        omega
  have key : ∀ (d i : Nat), i + d = s.length → ∃ r, cnt (fun i2 (s1 : Unit) c3 k42 => (if ((decide (i2 < (s.length : Int))) && (decide ((s.getD i2.toNat 0) < v))) = true then c3 () else k42 i2 s1)) (fun i2 (s1 : Unit) => (if ((decide (i2 < (s.length : Int))) && (decide ((s.getD i2.toNat 0) = v))) = true then some s else if 0 + (i2 - 0) ≤ 1000000000 then if (0 + (i2 - 0)) + 1 ≤ 1000000000 then if ((0 + (i2 - 0)) + 1) + ((s.length : Int) - i2) ≤ 1000000000 then some ((([] ++ ((s.drop 0).take (i2 - 0).toNat)) ++ [v]) ++ ((s.drop i2.toNat).take ((s.length : Int) - i2).toNat)) else none else none else none)) d (i : Int) () = some r ∧ 1 ≤ r.length ∧ r.length ≤ s.length + 1 := by
    intro d
    induction d with
    | zero => intro i hi; exact hE i (by omega)
    | succ d ih =>
      intro i hi
      simp only [cnt]
      split
      · exact ih (i + 1) (by omega)
      · exact hE i (by omega)
  have := key s.length 0 (by omega)
  rw [Int.sub_zero, Int.toNat_natCast]
  exact this
theorem numb_ok {x : List Int} : ∃ r, p_spec_l8Numbers x = some r ∧ 1 ≤ r.length ∧ r.length ≤ 6 := by
  unfold p_spec_l8Numbers
  refine cnt_ind0 6 (fun i (s : List Int) => s.length ≤ i ∧ (0 < i → 1 ≤ s.length)) (fun (r : Option (List Int)) => ∃ l, r = some l ∧ 1 ≤ l.length ∧ l.length ≤ 6) rfl ⟨Nat.le_refl _, fun h => by omega⟩ ?_ (fun i s c hi hs hc => ?_)
  · exact fun s hs => ⟨s, rfl, hs.2 (by omega), hs.1⟩
  obtain ⟨r, e, r1, r2⟩ := put_ok (s := s) (v := x.getD (i : Int).toNat 0) (by omega)
  rw [e, Option.bind_some]
  exact hc r ⟨by omega, fun _ => r1⟩
theorem counts11_ok {x : List Int} (hx : Bytes x) {fu : Nat} (hf : 64 ≤ fu) {d : List Int} {x1 x2 : Int} (h0 : 0 ≤ x1) (h1 : x1 ≤ 800000) : ∃ r a s, p_spec_l1Cur_counts11 fu d 12 x x1 x2 = some (r, a, s) := by
  unfold p_spec_l1Cur_counts11
  obtain ⟨r, e, r1, r2⟩ := numb_ok (x := d)
  rw [e, Option.bind_some, if_pos (by omega)]
  obtain ⟨n, a0, s0, e0, hn, c1, c2⟩ := among_ok hx (l := [3, 5, 2, 6, 1, 0, 12]) (by simp) (by simp) (at_ := x1) (s := x2) h0 (by omega)
  rw [e0, Option.bind_some]
  have hn8 : 0 ≤ n ∧ n ≤ 12 := by
    simp only [List.mem_cons, List.not_mem_nil, or_false] at hn
    omega
  suffices hh : ∀ (k : Nat) (m a s : Int) (acc : List Int), m < k → 0 ≤ m → x1 ≤ a → a + 2 * m ≤ x1 + 40 → ∃ p a' s', whl (fun (s5 : Int × Int × Int × (List Int)) c7 => (if 0 < s5.1 then (p_spec_l1Cur_pick (r.length : Int) x s5.2.1 s5.2.2.1).bind (fun r12 => if 0 ≤ r12.1 then if r12.1 < (r.length : Int) then c7 ((IntKind.wrap .i64 (s5.1 - 1)), r12.2.1, r12.2.2, (s5.2.2.2.set r12.1.toNat (IntKind.wrap .i64 ((s5.2.2.2.getD r12.1.toNat 0) + 1)))) else none else none) else (p_spec_l1Cur_pick 40 x s5.2.1 s5.2.2.1).bind (fun r15 => (if r15.1 = 0 then (p_spec_l1Cur_among [(-1), 13, 4611686018427387904] x r15.2.1 r15.2.2).bind (fun r19 => if 0 < (r.length : Int) then some ((s5.2.2.2.set 0 r19.1), r19.2.1, r19.2.2) else none) else (if r15.1 = 1 then if (r.length : Int) + 1 ≤ 1000000000 then some ((s5.2.2.2 ++ [0]), r15.2.1, r15.2.2) else none else (if r15.1 = 2 then if 0 < (r.length : Int) then some ((s5.2.2.2.set 0 (IntKind.wrap .i64 ((s5.2.2.2.getD 0 0) + 12))), r15.2.1, r15.2.2) else none else some (s5.2.2.2, r15.2.1, r15.2.2))))))) k (m, a, s, acc) = some (p, a', s') by
    exact hh fu n a0 s0 _ (by omega) (by omega) c1 (by omega)
  intro k
  induction k with
  | zero => intro m a s acc g0; omega
  | succ k ih =>
    intro m a s acc g0 g1 g2 g3
    rw [show ∀ (f : (Int × Int × Int × List Int) → ((Int × Int × Int × List Int) → Option (List Int × Int × Int)) → Option (List Int × Int × Int)), whl f (k + 1) (m, a, s, acc) = f (m, a, s, acc) (whl f k) from fun _ => rfl]
    simp only
    by_cases hm : 0 < m
    · rw [if_pos hm]
      obtain ⟨v, a1, s1, e1, v0, v1, b1, b2⟩ := pick_ok hx (n := (r.length : Int)) (at_ := a) (s := s) (by omega) (by omega) (by omega)
      rw [e1, Option.bind_some]
      simp only
      rw [if_pos v0, if_pos (by omega), wr (n := m - 1) (by omega) (by omega)]
      exact ih (m - 1) a1 s1 _ (by omega) (by omega) (by omega) (by omega)
    · rw [if_neg hm]
      obtain ⟨v, a1, s1, e1, v0, v1, b1, b2⟩ := pick_ok hx (n := 40) (at_ := a) (s := s) (by omega) (by omega) (by omega)
      rw [e1, Option.bind_some]
      simp only
      split
      · obtain ⟨w, a2, s2, e2, _, _⟩ := among_ok hx (l := [(-1), 13, 4611686018427387904]) (by simp) (by simp) (at_ := a1) (s := s1) (by omega) (by omega)
        rw [e2, Option.bind_some, if_pos (by omega)]
        exact ⟨_, _, _, rfl⟩
      · split
        · rw [if_pos (by omega)]; exact ⟨_, _, _, rfl⟩
        · split
          · rw [if_pos (by omega)]; exact ⟨_, _, _, rfl⟩
          · exact ⟨_, _, _, rfl⟩
theorem fill_run (d : List Int) (a s : Int) : ∀ (k : Nat) (p : List Int), 0 < k → 13 < k + p.length → ∃ r a' s', whl (fun (s22 : (List Int)) (c24 : List Int → Option (List Int × Int × Int)) => (if (s22.length : Int) < 13 then c24 (s22 ++ [(d.getD 0 0)]) else some (s22, a, s))) k p = some (r, a', s')
  | 0, p, h, _ => by omega
  | k + 1, p, h, h2 => by
    rw [show ∀ (f : List Int → (List Int → Option (List Int × Int × Int)) → Option (List Int × Int × Int)), whl f (k + 1) p = f p (whl f k) from fun _ => rfl]
    by_cases hc : (p.length : Int) < 13
    · rw [if_pos hc]
      exact fill_run d a s k _ (by omega) (by simp; omega)
    · rw [if_neg hc]
      exact ⟨_, _, _, rfl⟩
theorem rolls11_ok {x : List Int} (hx : Bytes x) {fu : Nat} (hf : 64 ≤ fu) {d : List Int} {x1 x2 : Int} (h0 : 0 ≤ x1) (h1 : x1 ≤ 800000) : ∃ r a s, p_spec_l1Cur_rolls11 fu d x x1 x2 = some (r, a, s) := by
  unfold p_spec_l1Cur_rolls11
  obtain ⟨n, a0, s0, e0, hn, c1, c2⟩ := among_ok hx (l := [3, 4, 2, 1, 0, 6, 12]) (by simp) (by simp) (at_ := x1) (s := x2) h0 (by omega)
  rw [e0, Option.bind_some]
  have hn8 : 0 ≤ n ∧ n ≤ 12 := by
    simp only [List.mem_cons, List.not_mem_nil, or_false] at hn
    omega
  suffices hh : ∀ (k : Nat) (m a s : Int) (acc : List Int), m < k → 0 ≤ m → x1 ≤ a → a + 2 * m ≤ x1 + 30 → m + (acc.length : Int) ≤ 12 → ∃ p a' s', whl (fun (s2 : Int × Int × Int × (List Int)) c4 => (if 0 < s2.1 then (p_spec_l1Cur_pick 6 x s2.2.1 s2.2.2.1).bind (fun r9 => if 0 ≤ r9.1 then if r9.1 < 6 then if (s2.2.2.2.length : Int) + 1 ≤ 1000000000 then c4 ((IntKind.wrap .i64 (s2.1 - 1)), r9.2.1, r9.2.2, (s2.2.2.2 ++ [(d.getD r9.1.toNat 0)])) else none else none else none) else (p_spec_l1Cur_pick 30 x s2.2.1 s2.2.2.1).bind (fun r13 => (if r13.1 = 0 then (p_spec_l1Cur_among [(-1), 31, 7, 4611686018427387904] x r13.2.1 r13.2.2).bind (fun r17 => if (s2.2.2.2.length : Int) + 1 ≤ 1000000000 then some ((s2.2.2.2 ++ [r17.1]), r17.2.1, r17.2.2) else none) else (if r13.1 = 1 then whl (fun (s22 : (List Int)) c24 => (if (s22.length : Int) < 13 then c24 (s22 ++ [(d.getD 0 0)]) else some (s22, r13.2.1, r13.2.2))) fu s2.2.2.2 else some (s2.2.2.2, r13.2.1, r13.2.2)))))) k (m, a, s, acc) = some (p, a', s') by
    exact hh fu n a0 s0 _ (by omega) (by omega) c1 (by omega) (by simp; omega)
  intro k
  induction k with
  | zero => intro m a s acc g0; omega
  | succ k ih =>
    intro m a s acc g0 g1 g2 g3 g4
    rw [show ∀ (f : (Int × Int × Int × List Int) → ((Int × Int × Int × List Int) → Option (List Int × Int × Int)) → Option (List Int × Int × Int)), whl f (k + 1) (m, a, s, acc) = f (m, a, s, acc) (whl f k) from fun _ => rfl]
    simp only
    by_cases hm : 0 < m
    · rw [if_pos hm]
      obtain ⟨v, a1, s1, e1, v0, v1, b1, b2⟩ := pick_ok hx (n := 6) (at_ := a) (s := s) (by omega) (by omega) (by omega)
      rw [e1, Option.bind_some]
      simp only
      rw [if_pos v0, if_pos (by omega), if_pos (by omega), wr (n := m - 1) (by omega) (by omega)]
      exact ih (m - 1) a1 s1 _ (by omega) (by omega) (by omega) (by omega) (by simp; omega)
    · rw [if_neg hm]
      obtain ⟨v, a1, s1, e1, v0, v1, b1, b2⟩ := pick_ok hx (n := 30) (at_ := a) (s := s) (by omega) (by omega) (by omega)
      rw [e1, Option.bind_some]
      simp only
      split
      · obtain ⟨w, a2, s2, e2, _, _⟩ := among_ok hx (l := [(-1), 31, 7, 4611686018427387904]) (by simp) (by simp) (at_ := a1) (s := s1) (by omega) (by omega)
        rw [e2, Option.bind_some, if_pos (by omega)]
        exact ⟨_, _, _, rfl⟩
      · split
        · exact fill_run d a1 s1 fu acc (by omega) (by omega)
        · exact ⟨_, _, _, rfl⟩
theorem amongT_ok {x : List Int} (hx : Bytes x) {l : List Int} {n : Int} (h0' : 1 ≤ n) (hl : 0 < l.length) (hl2 : l.length ≤ 1000) {at_ s : Int} (h0 : 0 ≤ at_) (h1 : at_ ≤ 999000) : ∃ v at' s', p_spec_l1Cur_among (l.take n.toNat) x at_ s = some (v, at', s') ∧ v ∈ l ∧ at_ ≤ at' ∧ at' ≤ at_ + 2 := by
  obtain ⟨v, a, s', e, hv, b1, b2⟩ := among_ok hx (l := l.take n.toNat) (by rw [List.length_take]; omega) (by rw [List.length_take]; omega) (at_ := at_) (s := s) h0 h1
  exact ⟨v, a, s', e, List.mem_of_mem_take hv, b1, b2⟩
theorem div8 {v : Int} (h0 : 0 ≤ v) (h1 : v < 24) (k : Int) (hk : 0 ≤ k ∧ k ≤ 100) : IntKind.wrap .i64 (k + IntKind.wrap .i64 (v.tdiv 8)) = k + v / 8 ∧ 0 ≤ v / 8 ∧ v / 8 ≤ 2 := by
  rw [Int.tdiv_eq_ediv_of_nonneg h0, wr (n := v / 8) (by omega) (by omega), wr (by omega) (by omega)]
  omega
theorem cut_bytes {x : List Int} (hx : Bytes x) (hl : x.length ≤ 65536) {n : Int} (hn : 0 ≤ n ∧ n ≤ 2) : ∃ y, p_laws_vCut x n = some y ∧ Bytes y := by
  have key : ∀ s1 : Int, 0 ≤ s1 → s1 ≤ x.length → s1 ≤ 2 → ∃ y, (if 0 ≤ s1 then if s1 ≤ (x.length : Int) then if 0 + ((x.length : Int) - s1) ≤ 1000000000 then if (0 + ((x.length : Int) - s1)) + 1 ≤ 1000000000 then some (([] ++ (x.drop s1.toNat)) ++ [(IntKind.wrap .u8 s1)]) else none else none else none else none) = some y ∧ Bytes y := by
    intro s1 h0 h1 h2
    rw [if_pos h0, if_pos h1, if_pos (by omega), if_pos (by omega)]
    refine ⟨_, rfl, fun b hb => ?_⟩
    rcases List.mem_append.1 hb with h | h
    · rw [List.nil_append] at h
      exact hx b (List.mem_of_mem_drop h)
    · have e : b = IntKind.wrap .u8 s1 := by simpa using h
      rcases (by omega : s1 = 0 ∨ s1 = 1 ∨ s1 = 2) with h | h | h
      · rw [e, h]; decide
      · rw [e, h]; decide
      · rw [e, h]; decide
  unfold p_laws_vCut jn
  simp only
  split
  · exact key _ (by omega) (by omega) (by omega)
  · exact key n (by omega) (by omega) (by omega)
end Go.GA
