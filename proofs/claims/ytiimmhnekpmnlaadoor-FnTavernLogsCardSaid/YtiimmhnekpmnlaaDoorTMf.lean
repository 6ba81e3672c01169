/- Plain law of FnTavernLogs: records and logs that are drawn. -/
import Derived.Test.YtiimmhnekpmnlaaDoorTMe
namespace Go.GA
open Go
set_option maxRecDepth 100000
section
variable {x : List Int}
theorem of_ok (hx : Bytes x) {l : List ByteArray} (hl : 0 < l.length) (hl2 : l.length ≤ 1000) {a s : Int} (h0 : 0 ≤ a) (h1 : a ≤ 990000) : ∃ v a' s', p_spec_l1Cur_of l x a s = some (v, a', s') ∧ v ∈ l ∧ a ≤ a' ∧ a' ≤ a + 2 := by
  unfold p_spec_l1Cur_of
  obtain ⟨v, a', s', e, b1, b2, b3, b4⟩ := pick_ok hx (n := (l.length : Int)) (s := s) h0 (by omega) (by omega)
  rw [e, Option.bind_some]
  simp only
  rw [if_pos b1, if_pos (by omega)]
  refine ⟨_, _, _, rfl, ?_, b3, b4⟩
  have hv : v.toNat < l.length := by omega
  rw [List.getD_eq_getElem?_getD, List.getElem?_eq_getElem hv]
  exact List.getElem_mem hv
def RS (y : Rec) : Prop := y.1.size ≤ 100 ∧ y.2.1.size ≤ 100
theorem list1 : ∀ s ∈ [(ByteArray.mk #[114, 111, 108, 108]), (ByteArray.mk #[99, 104, 97, 110, 99, 101, 32, 55]), (ByteArray.mk #[120]), (ByteArray.mk #[97, 103, 97, 105, 110, 32, 49]), (ByteArray.mk #[48, 32, 49])], s.size ≤ 100 := by decide +kernel
theorem list2 : ∀ s ∈ [(ByteArray.mk #[]), (ByteArray.mk #[51]), (ByteArray.mk #[63]), (ByteArray.mk #[97, 64, 98]), (ByteArray.mk #[51, 32, 49, 32, 50])], s.size ≤ 100 := by decide +kernel
theorem list3 : ∀ s ∈ [(ByteArray.mk #[]), (ByteArray.mk #[97, 64, 98]), (ByteArray.mk #[97, 35]), (ByteArray.mk #[10]), (bytesB (List.replicate 3 0))], s.size ≤ 100 := by decide +kernel
theorem list4 : ∀ s ∈ [(ByteArray.mk #[35]), (ByteArray.mk #[10]), (ByteArray.mk #[127])], s.size ≤ 100 := by decide +kernel
theorem logRec_ok (hx : Bytes x) {a s : Int} (h0 : 0 ≤ a) (h1 : a ≤ 900000) : ∃ y a' s', p_spec_l1Cur_logRecord x a s = some (y, a', s') ∧ RS y ∧ a ≤ a' ∧ a' ≤ a + 10 := by
  unfold p_spec_l1Cur_logRecord
  obtain ⟨v1, a1, s1, e1, m1, b1, c1⟩ := of_ok hx (l := [(ByteArray.mk #[114, 111, 108, 108]), (ByteArray.mk #[99, 104, 97, 110, 99, 101, 32, 55]), (ByteArray.mk #[120]), (ByteArray.mk #[97, 103, 97, 105, 110, 32, 49]), (ByteArray.mk #[48, 32, 49])]) (by simp) (by simp) (s := s) h0 (by omega)
  rw [e1, Option.bind_some]
  simp only
  obtain ⟨v2, a2, s2, e2, m2, b2, c2⟩ := of_ok hx (l := [(ByteArray.mk #[]), (ByteArray.mk #[51]), (ByteArray.mk #[63]), (ByteArray.mk #[97, 64, 98]), (ByteArray.mk #[51, 32, 49, 32, 50])]) (by simp) (by simp) (a := a1) (s := s1) (by omega) (by omega)
  rw [e2, Option.bind_some]
  simp only
  have z1 := list1 v1 m1
  have z2 := list2 v2 m2
  obtain ⟨v3, a3, s3, e3, _, _, b3, c3⟩ := pick_ok hx (n := 24) (at_ := a2) (s := s2) (by omega) (by omega) (by omega)
  rw [e3, Option.bind_some]
  simp only
  by_cases h3 : v3 = 0
  · rw [if_pos h3]
    obtain ⟨v4, a4, s4, e4, m4, b4, c4⟩ := of_ok hx (l := [(ByteArray.mk #[]), (ByteArray.mk #[97, 64, 98]), (ByteArray.mk #[97, 35]), (ByteArray.mk #[10]), (bytesB (List.replicate 3 0))]) (by simp) (by simp) (a := a3) (s := s3) (by omega) (by omega)
    have z4 := list3 v4 m4
    rw [e4, Option.bind_some]
    exact ⟨_, _, _, rfl, ⟨z4, z2⟩, by simp only; omega, by simp only; omega⟩
  · rw [if_neg h3]
    by_cases h4 : v3 = 1
    · rw [if_pos h4]
      obtain ⟨v4, a4, s4, e4, m4, b4, c4⟩ := of_ok hx (l := [(ByteArray.mk #[35]), (ByteArray.mk #[10]), (ByteArray.mk #[127])]) (by simp) (by simp) (a := a3) (s := s3) (by omega) (by omega)
      have z4 := list4 v4 m4
      rw [e4, Option.bind_some]
      exact ⟨_, _, _, rfl, ⟨z1, z4⟩, by simp only; omega, by simp only; omega⟩
    · rw [if_neg h4]
      exact ⟨_, _, _, rfl, ⟨z1, z2⟩, by omega, by omega⟩
/-! ### logs -/
abbrev Log := ByteArray × (ByteArray × (Int × Unit))
def lsz (m : Log) : Nat := m.1.size + m.2.1.size
theorem app_grow {m : Log} {y : Rec} (hm : lsz m ≤ 1000000) (hy : RS y) : ∃ m' st, p_spec_AppendRecord FU (m.1, (m.2.1, (m.2.2.1, ()))) y = some (m', st) ∧ lsz m' ≤ lsz m + 422 := by
  unfold lsz at hm
  obtain ⟨v, r1, _, _, e⟩ := app_val (f := m.1) (p := m.2.1) (c := m.2.2.1) (y := y) (by omega) (by omega) (by have := hy.1; omega) (by have := hy.2; omega)
  rw [e]
  unfold appR
  by_cases h : VL m.1 m.2.1 m.2.2.1 ∧ v = true
  · rw [if_pos h]
    by_cases h60 : m.2.2.1 = 60
    · rw [if_pos h60]; exact ⟨_, _, rfl, by unfold lsz; simp only; omega⟩
    · rw [if_neg h60]
      have hc := h.1.c60
      have hv : Vr y := ⟨by rw [r1, h.2], by have := hy.1; omega, by have := hy.2; omega⟩
      have hl := (Ln_size (i := m.2.2.1.toNat) (by omega) hv).1
      exact ⟨_, _, rfl, by unfold lsz; simp only; rw [ba_append_size]; omega⟩
  · rw [if_neg h]; exact ⟨_, _, rfl, by unfold lsz; simp only; omega⟩
theorem sync_grow {m : Log} (hm : lsz m ≤ 1000000) : ∃ m' st, p_spec_SyncLog FU (m.1, (m.2.1, (m.2.2.1, ()))) = some (m', st) ∧ lsz m' ≤ lsz m := by
  unfold lsz at hm
  obtain ⟨_, e⟩ := sync_val (f := m.1) (p := m.2.1) (c := m.2.2.1) (by omega) (by omega)
  have e0 : ByteArray.empty.size = 0 := rfl
  rw [e]
  split
  · exact ⟨_, _, rfl, by unfold lsz; simp only; rw [ba_append_size, e0]; omega⟩
  · exact ⟨_, _, rfl, by unfold lsz; simp only [e0]; omega⟩
theorem log12_run (hx : Bytes x) : ∀ (d : Nat) (m a s : Int) (F P : ByteArray) (C : Int), m < d → 0 ≤ m → 0 ≤ a → a + 20 * m ≤ 800000 → (lsz (F, (P, (C, ()))) : Int) + 422 * m ≤ 900000 →
    ∃ r a' s', whl (fun (s2 : Int × Int × Int × ByteArray × ByteArray × Int) c4 => (if 0 < s2.1 then (p_spec_l1Cur_logRecord x s2.2.1 s2.2.2.1).bind (fun r9 => (p_spec_AppendRecord FU (s2.2.2.2.1, (s2.2.2.2.2.1, (s2.2.2.2.2.2, ()))) r9.1).bind (fun r10 => (p_spec_l1Cur_one 4 x r9.2.1 r9.2.2).bind (fun r16 => (if r16.1 = true then (p_spec_SyncLog FU (r10.1.1, (r10.1.2.1, (r10.1.2.2.1, ())))).bind (fun r18 => c4 ((IntKind.wrap .i64 (s2.1 - 1)), r16.2.1, r16.2.2, r18.1.1, r18.1.2.1, r18.1.2.2.1)) else c4 ((IntKind.wrap .i64 (s2.1 - 1)), r16.2.1, r16.2.2, r10.1.1, r10.1.2.1, r10.1.2.2.1))))) else some (((s2.2.2.2.1, (s2.2.2.2.2.1, (s2.2.2.2.2.2, ()))) : Log), s2.2.1, s2.2.2.1))) d (m, a, s, F, P, C) = some (r, a', s') ∧ (lsz r : Int) ≤ lsz (F, (P, (C, ()))) + 422 * m ∧ a ≤ a' ∧ a' ≤ a + 20 * m
  | 0, m, a, s, F, P, C, h, h0, _, _, _ => by omega
  | d + 1, m, a, s, F, P, C, h, h0, ha, hb, hz => by
    rw [show ∀ (f : (Int × Int × Int × ByteArray × ByteArray × Int) → ((Int × Int × Int × ByteArray × ByteArray × Int) → Option (Log × Int × Int)) → Option (Log × Int × Int)) z, whl f (d + 1) z = f z (whl f d) from fun _ _ => rfl]
    simp only
    by_cases hm : 0 < m
    · rw [if_pos hm]
      obtain ⟨y, a1, s1, e1, hy, b1, c1⟩ := logRec_ok hx (a := a) (s := s) ha (by omega)
      rw [e1, Option.bind_some]
      simp only
      obtain ⟨m', st, e2, hg⟩ := app_grow (m := (F, (P, (C, ())))) (y := y) (by omega) hy
      have e2' : p_spec_AppendRecord FU (F, (P, (C, ()))) y = some (m', st) := e2
      rw [e2', Option.bind_some]
      simp only
      obtain ⟨b, a2, s2, e3, b2, c2⟩ := oneD_ok hx (n := 4) (at_ := a1) (s := s1) (by omega) (by omega) (by omega)
      rw [e3, Option.bind_some]
      simp only
      have ew : IntKind.wrap .i64 (m - 1) = m - 1 := wrap_id (by omega) (by omega)
      cases b with
      | true =>
        rw [if_pos rfl]
        obtain ⟨m2, st2, e4, hg2⟩ := sync_grow (m := m') (by omega)
        rw [e4, Option.bind_some, ew]
        have hgt : lsz (m2.1, (m2.2.1, (m2.2.2.1, ()))) = lsz m2 := rfl
        obtain ⟨r, a', s', er, g1, g2, g3⟩ := log12_run hx d (m - 1) a2 s2 m2.1 m2.2.1 m2.2.2.1 (by omega) (by omega) (by omega) (by omega) (by omega)
        exact ⟨r, a', s', er, by omega, by omega, by omega⟩
      | false =>
        rw [if_neg (by simp), ew]
        have hgt : lsz (m'.1, (m'.2.1, (m'.2.2.1, ()))) = lsz m' := rfl
        obtain ⟨r, a', s', er, g1, g2, g3⟩ := log12_run hx d (m - 1) a2 s2 m'.1 m'.2.1 m'.2.2.1 (by omega) (by omega) (by omega) (by omega) (by omega)
        exact ⟨r, a', s', er, by omega, by omega, by omega⟩
    · rw [if_neg hm]
      exact ⟨_, _, _, rfl, by omega, by omega, by omega⟩
theorem log12_ok (hx : Bytes x) {a s : Int} (h0 : 0 ≤ a) (h1 : a ≤ 100000) : ∃ r a' s', p_spec_l1Cur_log12 FU x a s = some (r, a', s') ∧ lsz r ≤ 3000 ∧ a ≤ a' ∧ a' ≤ a + 200 := by
  unfold p_spec_l1Cur_log12
  obtain ⟨v, a1, s1, e1, v0, v1, b1, c1⟩ := pick_ok hx (n := 7) (at_ := a) (s := s) h0 (by omega) (by omega)
  rw [e1, Option.bind_some]
  simp only
  have e0 : lsz (ByteArray.empty, (ByteArray.empty, ((0 : Int), ()))) = 0 := rfl
  obtain ⟨r, a', s', er, g1, g2, g3⟩ := log12_run hx FU v a1 s1 ByteArray.empty ByteArray.empty 0 (by unfold FU; omega) v0 (by omega) (by omega) (by rw [e0]; omega)
  rw [e0] at g1
  exact ⟨r, a', s', er, by omega, by omega, by omega⟩
end
end Go.GA
