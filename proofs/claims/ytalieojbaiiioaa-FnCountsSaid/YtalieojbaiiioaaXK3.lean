/- Plain law of FnCounts: dice and pools that are drawn. -/
import Derived.Test.YtalieojbaiiioaaXK2
namespace Go.GA
open Go
set_option maxRecDepth 100000
theorem sorted_len (x : List Int) : (p_spec_l2Sorted x).length = x.length := by
  unfold p_spec_l2Sorted
  refine cnt_ind0 (S := List Int) 6 (fun _ s => s.length = x.length) (fun (r : List Int) => r.length = x.length) rfl rfl (fun s hs => hs) (fun i s c _ hs hc => ?_)
  refine cnt_ind0 (S := List Int) 5 (fun _ s => s.length = x.length) (fun (r : List Int) => r.length = x.length) rfl hs (fun s hs => hc s hs) (fun j s c' _ hs hc' => ?_)
  split
  · exact hc' _ (by simp [hs])
  · exact hc' _ hs
theorem face_ok {x : List Int} (hx : Bytes x) {a s : Int} (h0 : 0 ≤ a) (h1 : a ≤ 999000) : ∃ v a' s', p_spec_l1Cur_face x a s = some (v, a', s') ∧ a ≤ a' ∧ a' ≤ a + 2 := by
  unfold p_spec_l1Cur_face
  obtain ⟨v, a', s', e, _, h2, h3⟩ := among_ok hx (l := [1, 2, 3, 4, 5, 6, 6, 0, 8, 9, 4, 3, 30, 12]) (by simp) (by simp) (s := s) h0 h1
  rw [e, Option.bind_some]
  exact ⟨v, a', s', rfl, h2, h3⟩
def DieR (x1 : Int) (r : Option (List Int × Int × Int)) : Prop := ∃ d a s, r = some (d, a, s) ∧ d.length = 6 ∧ x1 ≤ a ∧ a ≤ x1 + 60
theorem die_ok {x : List Int} (hx : Bytes x) {x1 x2 : Int} (h0 : 0 ≤ x1) (h1 : x1 ≤ 900000) : DieR x1 (p_spec_l1Cur_die x x1 x2) := by
  unfold p_spec_l1Cur_die jn
  have hk : ∀ (st : Int × Int × List Int), st.2.2.length = 6 → x1 ≤ st.1 → st.1 ≤ x1 + 50 → DieR x1 ((p_spec_l1Cur_pick 50 x st.1 st.2.1).bind (fun r4 => (if r4.1 = 0 then (p_spec_l1Cur_pick 6 x r4.2.1 r4.2.2).bind (fun r8 => (p_spec_l1Cur_among [(-1), 31, 0, 4611686018427387904] x r8.2.1 r8.2.2).bind (fun r9 => if 0 ≤ r8.1 then if r8.1 < 6 then some (((p_spec_l2Sorted st.2.2).set r8.1.toNat r9.1), r9.2.1, r9.2.2) else none else none)) else (if r4.1 = 1 then some (((p_spec_l2Sorted st.2.2).set 0 30), r4.2.1, r4.2.2) else some ((p_spec_l2Sorted st.2.2), r4.2.1, r4.2.2))))) := by
    intro st hl ha hb
    have hsl := sorted_len st.2.2
    obtain ⟨v, a1, s1, e1, _, _, b1, b2⟩ := pick_ok hx (n := 50) (at_ := st.1) (s := st.2.1) (by omega) (by omega) (by omega)
    rw [e1, Option.bind_some]
    simp only
    by_cases hv : v = 0
    · rw [if_pos hv]
      obtain ⟨u, a2, s2, e2, u0, u1, b3, b4⟩ := pick_ok hx (n := 6) (at_ := a1) (s := s1) (by omega) (by omega) (by omega)
      rw [e2, Option.bind_some]
      simp only
      obtain ⟨w, a3, s3, e3, _, b5, b6⟩ := among_ok hx (l := [(-1), 31, 0, 4611686018427387904]) (by simp) (by simp) (at_ := a2) (s := s2) (by omega) (by omega)
      rw [e3, Option.bind_some, if_pos u0, if_pos (by omega)]
      exact ⟨_, a3, s3, rfl, by simp [hsl, hl], by omega, by omega⟩
    · rw [if_neg hv]
      split
      · exact ⟨_, a1, s1, rfl, by simp [hsl, hl], by omega, by omega⟩
      · exact ⟨_, a1, s1, rfl, by simp [hsl, hl], by omega, by omega⟩
  generalize hK : (fun (s1 : Int × Int × (List Int)) => (p_spec_l1Cur_pick 50 x s1.1 s1.2.1).bind (fun r4 => (if r4.1 = 0 then (p_spec_l1Cur_pick 6 x r4.2.1 r4.2.2).bind (fun r8 => (p_spec_l1Cur_among [(-1), 31, 0, 4611686018427387904] x r8.2.1 r8.2.2).bind (fun r9 => if 0 ≤ r8.1 then if r8.1 < 6 then some (((p_spec_l2Sorted s1.2.2).set r8.1.toNat r9.1), r9.2.1, r9.2.2) else none else none)) else (if r4.1 = 1 then some (((p_spec_l2Sorted s1.2.2).set 0 30), r4.2.1, r4.2.2) else some ((p_spec_l2Sorted s1.2.2), r4.2.1, r4.2.2))))) = K
  have hk' : ∀ (st : Int × Int × List Int), st.2.2.length = 6 → x1 ≤ st.1 → st.1 ≤ x1 + 50 → DieR x1 (K st) := fun st => by rw [← hK]; exact hk st
  obtain ⟨v, a1, s1, e1, _, _, b1, b2⟩ := pick_ok hx (n := 6) (at_ := x1) (s := x2) (by omega) (by omega) (by omega)
  simp only
  rw [e1, Option.bind_some]
  simp only
  by_cases hv0 : v = 0
  · rw [if_pos hv0]; exact ⟨_, a1, s1, rfl, rfl, by omega, by omega⟩
  · rw [if_neg hv0]
    by_cases hv1 : v = 1
    · rw [if_pos hv1]; exact hk' _ rfl (by simp; omega) (by simp; omega)
    · rw [if_neg hv1]
      by_cases hv2 : v = 2
      · rw [if_pos hv2]
        obtain ⟨f1, a2, s2, e2, b3, b4⟩ := face_ok hx (a := a1) (s := s1) (by omega) (by omega)
        rw [e2, Option.bind_some]
        simp only
        obtain ⟨f2, a3, s3, e3, b5, b6⟩ := face_ok hx (a := a2) (s := s2) (by omega) (by omega)
        rw [e3, Option.bind_some]
        refine cnt_ind0 (S := Int × Int × List Int) 6 (fun i st => st.2.2.length = 6 ∧ x1 ≤ st.1 ∧ st.1 ≤ x1 + 6 + 2 * (i : Int)) (DieR x1) rfl ⟨rfl, by simp; omega, by simp; omega⟩ (fun st hs => hk' _ hs.1 hs.2.1 (by have := hs.2.2; simp at this ⊢; omega)) (fun i st c hi hs hc => ?_)
        obtain ⟨g1, g2, g3⟩ := hs
        obtain ⟨b, a4, s4, e4, b7, b8⟩ := oneD_ok hx (n := 3) (at_ := st.1) (s := st.2.1) (by omega) (by omega) (by omega)
        rw [e4, Option.bind_some]
        simp only
        split
        · exact hc _ ⟨by simp [g1], by simp; omega, by simp; omega⟩
        · exact hc _ ⟨by simp [g1], by simp; omega, by simp; omega⟩
      · rw [if_neg hv2]
        refine cnt_ind0 (S := Int × Int × List Int) 6 (fun i st => st.2.2.length = 6 ∧ x1 ≤ st.1 ∧ st.1 ≤ x1 + 6 + 2 * (i : Int)) (DieR x1) rfl ⟨rfl, by simp; omega, by simp; omega⟩ (fun st hs => hk' _ hs.1 hs.2.1 (by have := hs.2.2; simp at this ⊢; omega)) (fun i st c hi hs hc => ?_)
        obtain ⟨g1, g2, g3⟩ := hs
        obtain ⟨f, a4, s4, e4, b7, b8⟩ := face_ok hx (a := st.1) (s := st.2.1) (by omega) (by omega)
        rw [e4, Option.bind_some]
        exact hc _ ⟨by simp [g1], by simp; omega, by simp; omega⟩
end Go.GA
