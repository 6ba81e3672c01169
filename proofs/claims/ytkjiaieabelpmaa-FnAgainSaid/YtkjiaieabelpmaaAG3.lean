/- Plain law of FnAgain: dice and pools that are drawn. -/
import Derived.Test.YtkjiaieabelpmaaAG2
namespace Go.GA
open Go
set_option maxRecDepth 100000
theorem sorted_len (x : List Int) : (p_spec_l2Sorted x).length = x.length := by
  unfold p_spec_l2Sorted
  refine cnt_ind0 (S := List Int) 6 (fun _ s => s.length = x.length) (fun (r : List Int) => r.length = x.length) rfl rfl (fun s hs => hs) (fun i s c _ hs hc => ?_)
  refine cnt_ind0 (S := List Int) 5 (fun _ s => s.length = x.length) (fun (r : List Int) => r.length = x.length) rfl hs (fun s hs => hc s hs) (fun j s c' _ hs hc' => ?_)
  split
  · exact hc' _ (by simp [hs])
  · exact hc' _ hs
theorem face_ok {x : List Int} (hx : Bytes x) {a s : Int} (h0 : 0 ≤ a) (h1 : a ≤ 4611686018427380000) : ∃ v a' s', p_spec_l1Cur_face x a s = some (v, a', s') ∧ a ≤ a' ∧ a' ≤ a + 2 := by
  unfold p_spec_l1Cur_face
  obtain ⟨v, a', s', e, _, h2, h3⟩ := among_ok hx (l := [1, 2, 3, 4, 5, 6, 6, 0, 8, 9, 4, 3, 30, 12]) (by simp) (by simp) (s := s) h0 h1
  rw [e, Option.bind_some]
  exact ⟨v, a', s', rfl, h2, h3⟩
def DieR (x1 : Int) (r : Option (List Int × Int × Int)) : Prop := ∃ d a s, r = some (d, a, s) ∧ d.length = 6 ∧ x1 ≤ a ∧ a ≤ x1 + 60
theorem die_ok {x : List Int} (hx : Bytes x) {x1 x2 : Int} (h0 : 0 ≤ x1) (h1 : x1 ≤ 4611686018427300000) : DieR x1 (p_spec_l1Cur_die x x1 x2) := by
  unfold p_spec_l1Cur_die jn
  have hk : ∀ (st : Int × Int × List Int), st.2.2.length = 6 → x1 ≤ st.1 → st.1 ≤ x1 + 50 → DieR x1 ((p_spec_l1Cur_pick 50 x st.1 st.2.1).bind (fun r4 => (if r4.1 = 0 then (p_spec_l1Cur_pick 6 x r4.2.1 r4.2.2).bind (fun r8 => (p_spec_l1Cur_among [(-1), 31, 0, 4611686018427387904] x r8.2.1 r8.2.2).bind (fun r9 => if 0 ≤ r8.1 then if r8.1 < 6 then some (((p_spec_l2Sorted st.2.2).set r8.1.toNat r9.1), r9.2.1, r9.2.2) else none else none)) else (if r4.1 = 1 then some (((p_spec_l2Sorted st.2.2).set 0 30), r4.2.1, r4.2.2) else some ((p_spec_l2Sorted st.2.2), r4.2.1, r4.2.2))))) := by
    intro st hl ha hb
    have hsl := sorted_len st.2.2
    obtain ⟨v, a1, s1, e1, _, _, b1, b2⟩ := pick_ok hx (n := 50) (at_ := st.1) (s := st.2.1) (by omega) (by omega) (by omega)
    rw [e1, Option.bind_some]
    simp only
    by_cases hv : v = 0
    · rw [if_pos hv]
      obtain ⟨u, a2, s2, e2, u0, u1, b3, b4⟩ := pick_ok hx (n := 6) (at_ := a1) (s := s1) (by omega) (by omega) (by omega)
      rw [e2, Option.bind_some]
      simp only
      obtain ⟨w, a3, s3, e3, _, b5, b6⟩ := among_ok hx (l := [(-1), 31, 0, 4611686018427387904]) (by simp) (by simp) (at_ := a2) (s := s2) (by omega) (by omega)
      rw [e3, Option.bind_some, if_pos u0, if_pos (by omega)]
      exact ⟨_, a3, s3, rfl, by simp [hsl, hl], by omega, by omega⟩
    · rw [if_neg hv]
      split
      · exact ⟨_, a1, s1, rfl, by simp [hsl, hl], by omega, by omega⟩
      · exact ⟨_, a1, s1, rfl, by simp [hsl, hl], by omega, by omega⟩
  generalize hK : (fun (s1 : Int × Int × (List Int)) => (p_spec_l1Cur_pick 50 x s1.1 s1.2.1).bind (fun r4 => (if r4.1 = 0 then (p_spec_l1Cur_pick 6 x r4.2.1 r4.2.2).bind (fun r8 => (p_spec_l1Cur_among [(-1), 31, 0, 4611686018427387904] x r8.2.1 r8.2.2).bind (fun r9 => if 0 ≤ r8.1 then if r8.1 < 6 then some (((p_spec_l2Sorted s1.2.2).set r8.1.toNat r9.1), r9.2.1, r9.2.2) else none else none)) else (if r4.1 = 1 then some (((p_spec_l2Sorted s1.2.2).set 0 30), r4.2.1, r4.2.2) else some ((p_spec_l2Sorted s1.2.2), r4.2.1, r4.2.2))))) = K
  have hk' : ∀ (st : Int × Int × List Int), st.2.2.length = 6 → x1 ≤ st.1 → st.1 ≤ x1 + 50 → DieR x1 (K st) := fun st => by rw [← hK]; exact hk st
  obtain ⟨v, a1, s1, e1, _, _, b1, b2⟩ := pick_ok hx (n := 6) (at_ := x1) (s := x2) (by omega) (by omega) (by omega)
  simp only
  rw [e1, Option.bind_some]
  simp only
  by_cases hv0 : v = 0
  · rw [if_pos hv0]; exact ⟨_, a1, s1, rfl, rfl, by omega, by omega⟩
  · rw [if_neg hv0]
    by_cases hv1 : v = 1
    · rw [if_pos hv1]; exact hk' _ rfl (by simp; omega) (by simp; omega)
    · rw [if_neg hv1]
      by_cases hv2 : v = 2
      · rw [if_pos hv2]
        obtain ⟨f1, a2, s2, e2, b3, b4⟩ := face_ok hx (a := a1) (s := s1) (by omega) (by omega)
        rw [e2, Option.bind_some]
        simp only
        obtain ⟨f2, a3, s3, e3, b5, b6⟩ := face_ok hx (a := a2) (s := s2) (by omega) (by omega)
        rw [e3, Option.bind_some]
        refine cnt_ind0 (S := Int × Int × List Int) 6 (fun i st => st.2.2.length = 6 ∧ x1 ≤ st.1 ∧ st.1 ≤ x1 + 6 + 2 * (i : Int)) (DieR x1) rfl ⟨rfl, by simp; omega, by simp; omega⟩ (fun st hs => hk' _ hs.1 hs.2.1 (by have := hs.2.2; simp at this ⊢; omega)) (fun i st c hi hs hc => ?_)
        obtain ⟨g1, g2, g3⟩ := hs
        obtain ⟨b, a4, s4, e4, b7, b8⟩ := oneD_ok hx (n := 3) (at_ := st.1) (s := st.2.1) (by omega) (by omega) (by omega)
        rw [e4, Option.bind_some]
        simp only
        split
        · exact hc _ ⟨by simp [g1], by simp; omega, by simp; omega⟩
        · exact hc _ ⟨by simp [g1], by simp; omega, by simp; omega⟩
      · rw [if_neg hv2]
        refine cnt_ind0 (S := Int × Int × List Int) 6 (fun i st => st.2.2.length = 6 ∧ x1 ≤ st.1 ∧ st.1 ≤ x1 + 6 + 2 * (i : Int)) (DieR x1) rfl ⟨rfl, by simp; omega, by simp; omega⟩ (fun st hs => hk' _ hs.1 hs.2.1 (by have := hs.2.2; simp at this ⊢; omega)) (fun i st c hi hs hc => ?_)
        obtain ⟨g1, g2, g3⟩ := hs
        obtain ⟨f, a4, s4, e4, b7, b8⟩ := face_ok hx (a := st.1) (s := st.2.1) (by omega) (by omega)
        rw [e4, Option.bind_some]
        exact hc _ ⟨by simp [g1], by simp; omega, by simp; omega⟩
theorem more_run (a s : Int) : ∀ (d : Nat) (p : List (List Int)), 0 < p.length → p.length ≤ 5 → 5 < d + p.length → (∀ q ∈ p, q.length = 6) → ∃ r, whl (fun (s24 : (List (List Int))) (c26 : List (List Int) → Option (List (List Int) × Int × Int)) => (if (s24.length : Int) < 5 then if 0 < (s24.length : Int) then c26 (s24 ++ [(s24.getD 0 (List.replicate 6 0))]) else none else some (s24, a, s))) d p = some (r, a, s) ∧ r.length ≤ 5 ∧ ∀ q ∈ r, q.length = 6
  | 0, p, _, h2, h3, _ => by omega
  | d + 1, p, h1, h2, h3, h4 => by
    have ih := more_run a s d
    rw [show ∀ (f : List (List Int) → (List (List Int) → Option (List (List Int) × Int × Int)) → Option (List (List Int) × Int × Int)), whl f (d + 1) p = f p (whl f d) from fun _ => rfl]
    by_cases hc : (p.length : Int) < 5
    · rw [if_pos hc, if_pos (by omega)]
      refine ih (p ++ [p.getD 0 (List.replicate 6 0)]) (by simp) (by simp; omega) (by simp; omega) (fun q hq => ?_)
      rcases List.mem_append.1 hq with h | h
      · exact h4 q h
      · have : q = p.getD 0 (List.replicate 6 0) := by simpa using h
        rw [this, List.getD_eq_getElem?_getD, List.getElem?_eq_getElem h1]
        exact h4 _ (List.getElem_mem h1)
    · rw [if_neg hc]
      exact ⟨p, rfl, h2, h4⟩
theorem pool_ok {x : List Int} (hx : Bytes x) {fu : Nat} (hf : 64 ≤ fu) {x1 x2 : Int} (h0 : 0 ≤ x1) (h1 : x1 ≤ 4611686018427200000) : ∃ p a s, p_spec_l1Cur_pool fu x x1 x2 = some (p, a, s) ∧ p.length ≤ 5 ∧ (∀ q ∈ p, q.length = 6) ∧ x1 ≤ a ∧ a ≤ x1 + 500 := by
  unfold p_spec_l1Cur_pool
  obtain ⟨n, a0, s0, e0, hn, c1, c2⟩ := among_ok hx (l := [2, 3, 1, 2, 4]) (by simp) (by simp) (at_ := x1) (s := x2) h0 (by omega)
  rw [e0, Option.bind_some]
  have hn4 : 1 ≤ n ∧ n ≤ 4 := by
    simp only [List.mem_cons, List.not_mem_nil, or_false] at hn
    omega
  suffices hh : ∀ (d : Nat) (m a s : Int) (acc : List (List Int)), 0 < d → m < d → 0 ≤ m → x1 ≤ a → a + 70 * m ≤ x1 + 300 → 1 ≤ m + (acc.length : Int) → m + (acc.length : Int) ≤ 4 → (∀ q ∈ acc, q.length = 6) → ∃ p a' s', whl (fun (s2 : Int × Int × Int × (List (List Int))) c4 => (if 0 < s2.1 then (p_spec_l1Cur_die x s2.2.1 s2.2.2.1).bind (fun r9 => (if 0 < (s2.2.2.2.length : Int) then (p_spec_l1Cur_one 3 x r9.2.1 r9.2.2).bind (fun r13 => (if r13.1 = true then if (s2.2.2.2.length : Int) + 1 ≤ 1000000000 then c4 ((IntKind.wrap .i64 (s2.1 - 1)), r13.2.1, r13.2.2, (s2.2.2.2 ++ [(s2.2.2.2.getD 0 (List.replicate 6 0))])) else none else if (s2.2.2.2.length : Int) + 1 ≤ 1000000000 then c4 ((IntKind.wrap .i64 (s2.1 - 1)), r13.2.1, r13.2.2, (s2.2.2.2 ++ [r9.1])) else none)) else c4 ((IntKind.wrap .i64 (s2.1 - 1)), r9.2.1, r9.2.2, (s2.2.2.2 ++ [r9.1])))) else (p_spec_l1Cur_pick 50 x s2.2.1 s2.2.2.1).bind (fun r17 => (if r17.1 = 0 then some ([], r17.2.1, r17.2.2) else (if r17.1 = 1 then whl (fun (s24 : (List (List Int))) c26 => (if (s24.length : Int) < 5 then if 0 < (s24.length : Int) then c26 (s24 ++ [(s24.getD 0 (List.replicate 6 0))]) else none else some (s24, r17.2.1, r17.2.2))) fu s2.2.2.2 else some (s2.2.2.2, r17.2.1, r17.2.2)))))) d (m, a, s, acc) = some (p, a', s') ∧ p.length ≤ 5 ∧ (∀ q ∈ p, q.length = 6) ∧ x1 ≤ a' ∧ a' ≤ x1 + 500 by
    exact hh fu n a0 s0 [] (by omega) (by omega) (by omega) c1 (by omega) (by simp; omega) (by simp; omega) (fun q hq => by cases hq)
  intro d
  induction d with
  | zero => intro m a s acc g0; omega
  | succ d ih =>
    intro m a s acc g0 g1 g2 g3 g4 g5 g6 g7
    rw [show ∀ (f : (Int × Int × Int × List (List Int)) → ((Int × Int × Int × List (List Int)) → Option (List (List Int) × Int × Int)) → Option (List (List Int) × Int × Int)), whl f (d + 1) (m, a, s, acc) = f (m, a, s, acc) (whl f d) from fun _ => rfl]
    simp only
    by_cases hm : 0 < m
    · rw [if_pos hm]
      obtain ⟨dd, a1, s1, e1, hd6, b1, b2⟩ := die_ok hx (x1 := a) (x2 := s) (by omega) (by omega)
      rw [e1, Option.bind_some]
      simp only
      have ew : IntKind.wrap .i64 (m - 1) = m - 1 := wr (by omega) (by omega)
      have hap : ∀ y : List Int, y.length = 6 → ∀ q ∈ acc ++ [y], q.length = 6 := fun y hy q hq => by
        rcases List.mem_append.1 hq with h | h
        · exact g7 q h
        · have : q = y := by simpa using h
          rw [this]; exact hy
      by_cases hl : 0 < (acc.length : Int)
      · rw [if_pos hl]
        obtain ⟨b, a2, s2, e2, b3, b4⟩ := oneD_ok hx (n := 3) (at_ := a1) (s := s1) (by omega) (by omega) (by omega)
        rw [e2, Option.bind_some]
        simp only
        rw [ew]
        split
        · rw [if_pos (by omega)]
          refine ih (m - 1) a2 s2 _ (by omega) (by omega) (by omega) (by omega) (by omega) (by simp; omega) (by simp; omega) (hap _ ?_)
          have hlt : 0 < acc.length := by omega
          rw [List.getD_eq_getElem?_getD, List.getElem?_eq_getElem hlt]
          exact g7 _ (List.getElem_mem hlt)
        · rw [if_pos (by omega)]
          exact ih (m - 1) a2 s2 _ (by omega) (by omega) (by omega) (by omega) (by omega) (by simp; omega) (by simp; omega) (hap _ hd6)
      · rw [if_neg hl, ew]
        exact ih (m - 1) a1 s1 _ (by omega) (by omega) (by omega) (by omega) (by omega) (by simp; omega) (by simp; omega) (hap _ hd6)
    · rw [if_neg hm]
      obtain ⟨v, a1, s1, e1, _, _, b1, b2⟩ := pick_ok hx (n := 50) (at_ := a) (s := s) (by omega) (by omega) (by omega)
      rw [e1, Option.bind_some]
      simp only
      split
      · exact ⟨[], a1, s1, rfl, by simp, (fun q hq => by cases hq), by omega, by omega⟩
      · split
        · obtain ⟨r, e2, r1, r2⟩ := more_run a1 s1 fu acc (by omega) (by omega) (by omega) g7
          exact ⟨r, a1, s1, e2, r1, r2, by omega, by omega⟩
        · exact ⟨acc, a1, s1, rfl, by omega, g7, by omega, by omega⟩
end Go.GA
