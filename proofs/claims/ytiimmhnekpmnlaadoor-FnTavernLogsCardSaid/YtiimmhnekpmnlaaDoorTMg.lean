/- Plain law of FnTavernLogs: logs that are spoilt, what the law draws. -/
import Derived.Test.YtiimmhnekpmnlaaDoorTMf
namespace Go.GA
open Go
set_option maxRecDepth 100000
section
variable {x : List Int}
theorem spoilt_ok (hx : Bytes x) {t : ByteArray} (ht : t.size ≤ 100000) {a s : Int} (h0 : 0 ≤ a) (h1 : a ≤ 200000) : ∃ r a' s', p_spec_l1Cur_spoilt t (ByteArray.mk #[35, 64, 10, 48, 49]) x a s = some (r, a', s') ∧ r.size ≤ t.size + 1 ∧ a ≤ a' ∧ a' ≤ a + 10 := by
  unfold p_spec_l1Cur_spoilt
  have e5 : (ByteArray.mk #[35, 64, 10, 48, 49]).size = 5 := rfl
  by_cases hz : eqS t (ByteArray.mk #[]) = true
  · rw [if_pos hz, if_pos (by rw [e5]; omega)]
    exact ⟨_, _, _, rfl, by rw [ext_size _ _ _ (by omega) (by rw [e5]; omega)]; omega, by omega, by omega⟩
  · rw [if_neg hz]
    have htp : 0 < t.size := by
      by_cases h : 0 < t.size
      · exact h
      · exfalso; apply hz
        have : t = ByteArray.mk #[] := by
          apply ba_ext
          have : t.data.toList = [] := List.eq_nil_of_length_eq_zero (by rw [size_toList]; omega)
          rw [this]
        exact eqS_iff.2 this
    obtain ⟨v, a1, s1, e1, v0, v1, b1, c1⟩ := pick_ok hx (n := (t.size : Int)) (at_ := a) (s := s) h0 (by omega) (by omega)
    rw [e1, Option.bind_some]
    simp only
    obtain ⟨w, a2, s2, e2, w0, w1, b2, c2⟩ := pick_ok hx (n := ((ByteArray.mk #[35, 64, 10, 48, 49]).size : Int)) (at_ := a1) (s := s1) (by omega) (by omega) (by rw [e5]; omega)
    rw [e2, Option.bind_some]
    simp only
    rw [e5] at w1 ⊢
    have hv : v < (t.size : Int) := by omega
    have hw : w < 5 := by omega
    obtain ⟨V, rfl⟩ : ∃ V : Nat, v = (V : Int) := ⟨v.toNat, by omega⟩
    obtain ⟨W, rfl⟩ : ∃ W : Nat, w = (W : Int) := ⟨w.toNat, by omega⟩
    simp only [Int.toNat_natCast]
    have q1 : ((ByteArray.mk #[35, 64, 10, 48, 49]).extract W 5).size = 5 - W := ext_size _ _ _ (by omega) (by rw [e5]; omega)
    have q2 : (((ByteArray.mk #[35, 64, 10, 48, 49]).extract W 5).extract 0 1).size = 1 := by rw [ext_size _ _ _ (by omega) (by omega)]
    have q3 : (t.extract 0 V).size = V := by rw [ext_size _ _ _ (by omega) (by omega)]; omega
    have q4 : (t.extract V t.size).size = t.size - V := ext_size _ _ _ (by omega) (Nat.le_refl _)
    have q5 : (t.extract (V + 1) t.size).size = t.size - (V + 1) := ext_size _ _ _ (by omega) (Nat.le_refl _)
    have ew : IntKind.wrap .i64 ((V : Int) + 1) = ((V + 1 : Nat) : Int) := wrap_id (by omega) (by omega)
    rw [if_pos w0, if_pos (by omega), if_pos (by rw [q1]; omega)]
    obtain ⟨u, a3, s3, e3, _, _, b3, c3⟩ := pick_ok hx (n := 3) (at_ := a2) (s := s2) (by omega) (by omega) (by omega)
    rw [e3, Option.bind_some]
    simp only
    by_cases hu : u = 0
    · rw [if_pos hu, if_pos v0, if_pos (by omega), if_pos (by omega), if_pos (by rw [ba_append_size]; omega)]
      exact ⟨_, _, _, rfl, by rw [ba_append_size, ba_append_size]; omega, by omega, by omega⟩
    · rw [if_neg hu]
      by_cases hu1 : u = 1
      · rw [if_pos hu1, if_pos v0, if_pos (by omega), if_pos (by omega), ew]
        simp only [Int.toNat_natCast]
        rw [if_pos (by omega), if_pos (by omega), if_pos (by rw [ba_append_size]; omega)]
        exact ⟨_, _, _, rfl, by rw [ba_append_size, ba_append_size]; omega, by omega, by omega⟩
      · rw [if_neg hu1, if_pos v0, if_pos (by omega), ew]
        simp only [Int.toNat_natCast]
        rw [if_pos (by omega), if_pos (by omega), if_pos (by omega)]
        exact ⟨_, _, _, rfl, by rw [ba_append_size]; omega, by omega, by omega⟩
theorem anyLog_ok (hx : Bytes x) {a s : Int} (h0 : 0 ≤ a) (h1 : a ≤ 100000) : ∃ r a' s', p_spec_l1Cur_anyLog FU x a s = some (r, a', s') ∧ lsz r ≤ 10000 ∧ a ≤ a' ∧ a' ≤ a + 300 := by
  unfold p_spec_l1Cur_anyLog
  obtain ⟨m, a1, s1, e1, hm, b1, c1⟩ := log12_ok hx (a := a) (s := s) h0 h1
  rw [e1, Option.bind_some]
  simp only
  obtain ⟨v, a2, s2, e2, _, _, b2, c2⟩ := pick_ok hx (n := 24) (at_ := a1) (s := s1) (by omega) (by omega) (by omega)
  rw [e2, Option.bind_some]
  simp only
  unfold lsz at hm
  by_cases hv : v = 0
  · rw [if_pos hv]; exact ⟨_, _, _, rfl, by unfold lsz; simp only; omega, by omega, by omega⟩
  · rw [if_neg hv]
    by_cases hv1 : v = 1
    · rw [if_pos hv1]
      obtain ⟨r, a3, s3, e3, hr, b3, c3⟩ := spoilt_ok hx (t := m.2.1) (by omega) (a := a2) (s := s2) (by omega) (by omega)
      rw [e3, Option.bind_some]
      exact ⟨_, _, _, rfl, by unfold lsz; simp only; omega, by simp only; omega, by simp only; omega⟩
    · rw [if_neg hv1]
      by_cases hv2 : v = 2
      · rw [if_pos hv2, if_pos (by omega)]
        exact ⟨_, _, _, rfl, by unfold lsz; simp only; rw [ba_append_size]; omega, by omega, by omega⟩
      · rw [if_neg hv2]; exact ⟨_, _, _, rfl, by unfold lsz; simp only; omega, by omega, by omega⟩
theorem fill_run (hx : Bytes x) {a s : Int} (ha : 0 ≤ a) (hb : a ≤ 800000) : ∀ (d : Nat) (m : Int) (F P : ByteArray) (C : Int), m < d → 0 ≤ m → (lsz (F, (P, (C, ()))) : Int) + 422 * m ≤ 900000 →
    ∃ r y, whl (fun (s5 : Int × ByteArray × ByteArray × Int) c7 => (if 0 < s5.1 then (p_spec_AppendRecord FU (s5.2.1, (s5.2.2.1, (s5.2.2.2, ()))) ((ByteArray.mk #[120]), (ByteArray.empty, ()))).bind (fun r12 => c7 ((IntKind.wrap .i64 (s5.1 - 1)), r12.1.1, r12.1.2.1, r12.1.2.2.1)) else (p_spec_l1Cur_logRecord x a s).bind (fun r13 => some (((s5.2.1, (s5.2.2.1, (s5.2.2.2, ()))) : Log), ((r13.1.1, (r13.1.2.1, ())) : Rec))))) d (m, F, P, C) = some (r, y) ∧ (lsz r : Int) ≤ lsz (F, (P, (C, ()))) + 422 * m ∧ RS y
  | 0, m, F, P, C, h, h0, _ => by omega
  | d + 1, m, F, P, C, h, h0, hz => by
    rw [show ∀ (f : (Int × ByteArray × ByteArray × Int) → ((Int × ByteArray × ByteArray × Int) → Option (Log × Rec)) → Option (Log × Rec)) z, whl f (d + 1) z = f z (whl f d) from fun _ _ => rfl]
    simp only
    by_cases hm : 0 < m
    · rw [if_pos hm]
      have hy : RS ((ByteArray.mk #[120]), (ByteArray.empty, ())) := by
        have e1 : (ByteArray.mk #[120]).size = 1 := rfl
        have e2 : ByteArray.empty.size = 0 := rfl
        exact ⟨by show (ByteArray.mk #[120]).size ≤ 100; omega, by show ByteArray.empty.size ≤ 100; omega⟩
      obtain ⟨m', st, e2, hg⟩ := app_grow (m := (F, (P, (C, ())))) (y := ((ByteArray.mk #[120]), (ByteArray.empty, ()))) (by omega) hy
      have e2' : p_spec_AppendRecord FU (F, (P, (C, ()))) ((ByteArray.mk #[120]), (ByteArray.empty, ())) = some (m', st) := e2
      rw [e2', Option.bind_some]
      simp only
      have ew : IntKind.wrap .i64 (m - 1) = m - 1 := wrap_id (by omega) (by omega)
      have hgt : lsz (m'.1, (m'.2.1, (m'.2.2.1, ()))) = lsz m' := rfl
      rw [ew]
      obtain ⟨r, y, er, g1, g2⟩ := fill_run hx ha hb d (m - 1) m'.1 m'.2.1 m'.2.2.1 (by omega) (by omega) (by omega)
      exact ⟨r, y, er, by omega, g2⟩
    · rw [if_neg hm]
      obtain ⟨y, a1, s1, e1, hy, b1, c1⟩ := logRec_ok hx (a := a) (s := s) ha (by omega)
      rw [e1, Option.bind_some]
      exact ⟨_, _, rfl, by omega, hy⟩
theorem drawApp (hx : Bytes x) : ∃ m y, p_spec_DrawAppendRecord FU x = some (m, y) ∧ lsz m ≤ 100000 ∧ RS y := by
  unfold p_spec_DrawAppendRecord
  obtain ⟨m, a1, s1, e1, hm, b1, c1⟩ := anyLog_ok hx (a := 0) (s := 0) (by omega) (by omega)
  rw [e1, Option.bind_some]
  simp only
  obtain ⟨b, a2, s2, e2, b2, c2⟩ := oneD_ok hx (n := 40) (at_ := a1) (s := s1) (by omega) (by omega) (by omega)
  rw [e2, Option.bind_some]
  simp only
  cases b with
  | true =>
    rw [if_pos rfl]
    obtain ⟨v, a3, s3, e3, v0, v1, b3, c3⟩ := pick_ok hx (n := 2) (at_ := a2) (s := s2) (by omega) (by omega) (by omega)
    rw [e3, Option.bind_some]
    simp only
    have e0 : lsz (ByteArray.empty, (ByteArray.empty, ((0 : Int), ()))) = 0 := rfl
    have ew : IntKind.wrap .i64 (59 + v) = 59 + v := wrap_id (by omega) (by omega)
    rw [ew]
    obtain ⟨r, y, er, g1, g2⟩ := fill_run hx (a := a3) (s := s3) (by omega) (by omega) FU (59 + v) ByteArray.empty ByteArray.empty 0 (by unfold FU; omega) (by omega) (by rw [e0]; omega)
    rw [e0] at g1
    exact ⟨r, y, er, by omega, g2⟩
  | false =>
    rw [if_neg (by simp)]
    obtain ⟨y, a3, s3, e3, hy, b3, c3⟩ := logRec_ok hx (a := a2) (s := s2) (by omega) (by omega)
    rw [e3, Option.bind_some]
    exact ⟨_, _, rfl, by unfold lsz at hm ⊢; simp only; omega, hy⟩
theorem drawCrash (hx : Bytes x) : ∃ m k t, p_spec_DrawCrashLog FU x = some (m, k, t) ∧ lsz m ≤ 100000 := by
  unfold p_spec_DrawCrashLog
  obtain ⟨m, a1, s1, e1, hm, b1, c1⟩ := anyLog_ok hx (a := 0) (s := 0) (by omega) (by omega)
  rw [e1, Option.bind_some]
  simp only
  unfold lsz at hm
  have ew : IntKind.wrap .i64 ((m.2.1.size : Int) + 3) = (m.2.1.size : Int) + 3 := wrap_id (by omega) (by omega)
  rw [ew]
  obtain ⟨v, a2, s2, e2, v0, v1, b2, c2⟩ := pick_ok hx (n := (m.2.1.size : Int) + 3) (at_ := a1) (s := s1) (by omega) (by omega) (by omega)
  rw [e2, Option.bind_some]
  simp only
  obtain ⟨b, a3, s3, e3, b3, c3⟩ := oneD_ok hx (n := 2) (at_ := a2) (s := s2) (by omega) (by omega) (by omega)
  rw [e3, Option.bind_some]
  exact ⟨_, _, _, rfl, by unfold lsz; simp only; omega⟩
theorem drawValid (hx : Bytes x) : ∃ y, p_spec_DrawIsValidRecord x = some y ∧ RS y := by
  unfold p_spec_DrawIsValidRecord
  obtain ⟨y, a1, s1, e1, hy, _, _⟩ := logRec_ok hx (a := 0) (s := 0) (by omega) (by omega)
  rw [e1, Option.bind_some]
  exact ⟨_, rfl, hy⟩
theorem drawEnc (hx : Bytes x) : ∃ k y, p_spec_DrawEncodeRecord x = some (k, y) ∧ RS y := by
  unfold p_spec_DrawEncodeRecord
  obtain ⟨v, a1, s1, e1, _, b1, c1⟩ := among_ok hx (l := [0, 1, 12, 59, 60, (-1)]) (by simp) (by simp) (at_ := 0) (s := 0) (by omega) (by omega)
  rw [e1, Option.bind_some]
  simp only
  obtain ⟨y, a2, s2, e2, hy, _, _⟩ := logRec_ok hx (a := a1) (s := s1) (by omega) (by omega)
  rw [e2, Option.bind_some]
  exact ⟨_, _, rfl, hy⟩
theorem cut_bytes (hx : Bytes x) (hl : x.length ≤ 65536) {n : Int} (hn : 0 ≤ n) : ∃ y, p_laws_rCut x n = some y ∧ Bytes y := by
  unfold p_laws_rCut
  split
  · exact ⟨_, rfl, fun b hb => hx b (List.mem_of_mem_drop hb)⟩
  · exact ⟨_, rfl, fun b hb => hx b (List.mem_of_mem_drop hb)⟩
/-- the line of any record that is not too long -/
theorem line_any {i : Nat} (hi : i ≤ 59) {y : Rec} (hy : RS y) : ∃ L, p_spec_l12Line FU (i : Int) y = some L ∧ L.size ≤ 501 := by
  obtain ⟨h1, h2⟩ := hy
  obtain ⟨hl, hn⟩ := lineB_size hi y
  obtain ⟨r, hr0, hr, s1, s2⟩ := seal_spec (fu := FU) (by unfold FU; omega) (s := lineB i y) (by omega)
  have hnr : (numB r).size ≤ 6 := by rw [numB_size]; exact nDigits_lt (by omega) (by omega)
  have f3 : (ByteArray.mk #[35]).size = 1 := rfl
  have f4 : (ByteArray.mk #[10]).size = 1 := rfl
  have g4 : (sealedB (lineB i y) r).size ≤ 500 := by unfold sealedB; rw [ba_append_size, ba_append_size, f3]; omega
  exact ⟨_, line_spec (by unfold FU; omega) hi (by omega) (by omega) g4 s1, by rw [ba_append_size, f4]; omega⟩
theorem drawRecover (hx : Bytes x) : ∃ t, p_spec_DrawRecoverLog FU x = some t ∧ t.size ≤ 100000 := by
  unfold p_spec_DrawRecoverLog
  obtain ⟨m, a1, s1, e1, hm, b1, c1⟩ := log12_ok hx (a := 0) (s := 0) (by omega) (by omega)
  rw [e1, Option.bind_some]
  simp only
  unfold lsz at hm
  have hs : (m.1 ++ m.2.1).size = m.1.size + m.2.1.size := ba_append_size _ _
  rw [if_pos (by omega)]
  unfold jn
  have fin : ∀ (t : ByteArray) (a s : Int), t.size ≤ 100000 → 0 ≤ a → a ≤ 500000 → ∃ r, (p_spec_l1Cur_one 40 x a s).bind (fun r6 => (if r6.1 = true then (p_spec_l1Cur_pick 2 x r6.2.1 r6.2.2).bind (fun r8 => if 0 ≤ (IntKind.wrap .i64 (30000 + r8.1)) then if (IntKind.wrap .i64 (30000 + r8.1)) ≤ 1000000000 then some (bytesB (List.replicate (IntKind.wrap .i64 (30000 + r8.1)).toNat 0)) else none else none) else some t)) = some r ∧ r.size ≤ 100000 := by
    intro t a s ht ha hb
    obtain ⟨b, a2, s2, e2, b2, c2⟩ := oneD_ok hx (n := 40) (at_ := a) (s := s) ha (by omega) (by omega)
    rw [e2, Option.bind_some]
    simp only
    cases b with
    | true =>
      rw [if_pos rfl]
      obtain ⟨v, a3, s3, e3, v0, v1, b3, c3⟩ := pick_ok hx (n := 2) (at_ := a2) (s := s2) (by omega) (by omega) (by omega)
      rw [e3, Option.bind_some]
      simp only
      have ew : IntKind.wrap .i64 (30000 + v) = 30000 + v := wrap_id (by omega) (by omega)
      rw [ew, if_pos (by omega), if_pos (by omega)]
      refine ⟨_, rfl, ?_⟩
      rw [← size_toList, bytesB_list, List.length_map, List.length_replicate]
      omega
    | false => rw [if_neg (by simp)]; exact ⟨_, rfl, ht⟩
  dsimp only
  obtain ⟨v, a2, s2, e2, v0, v1, b2, c2⟩ := pick_ok hx (n := 4) (at_ := a1) (s := s1) (by omega) (by omega) (by omega)
  rw [e2, Option.bind_some]
  dsimp only
  by_cases hv : v = 0
  · rw [if_pos hv]
    obtain ⟨r, a3, s3, e3, hr, b3, c3⟩ := spoilt_ok hx (t := m.1 ++ m.2.1) (by omega) (a := a2) (s := s2) (by omega) (by omega)
    rw [e3, Option.bind_some]
    exact fin _ _ _ (by show r.size ≤ 100000; omega) (by show 0 ≤ a3; omega) (by show a3 ≤ 500000; omega)
  · rw [if_neg hv]
    by_cases hv1 : v = 1
    · rw [if_pos hv1]
      have ew : IntKind.wrap .i64 (((m.1 ++ m.2.1).size : Int) + 1) = ((m.1 ++ m.2.1).size : Int) + 1 := wrap_id (by omega) (by omega)
      rw [ew]
      obtain ⟨u, a3, s3, e3, u0, u1, b3, c3⟩ := pick_ok hx (n := ((m.1 ++ m.2.1).size : Int) + 1) (at_ := a2) (s := s2) (by omega) (by omega) (by omega)
      rw [e3, Option.bind_some]
      dsimp only
      rw [if_pos u0, if_pos (by omega)]
      exact fin _ _ _ (by have := ext_le (m.1 ++ m.2.1) 0 u.toNat; show ((m.1 ++ m.2.1).extract 0 u.toNat).size ≤ 100000; omega) (by show 0 ≤ a3; omega) (by show a3 ≤ 500000; omega)
    · rw [if_neg hv1]
      by_cases hv2 : v = 2
      · rw [if_pos hv2]
        obtain ⟨u, a3, s3, e3, u0, u1, b3, c3⟩ := pick_ok hx (n := 4) (at_ := a2) (s := s2) (by omega) (by omega) (by omega)
        rw [e3, Option.bind_some]
        dsimp only
        obtain ⟨y, a4, s4, e4, hy, b4, c4⟩ := logRec_ok hx (a := a3) (s := s3) (by omega) (by omega)
        rw [e4, Option.bind_some]
        dsimp only
        obtain ⟨i, rfl⟩ : ∃ i : Nat, u = (i : Int) := ⟨u.toNat, by omega⟩
        obtain ⟨L, eL, hL⟩ := line_any (i := i) (by omega) hy
        rw [eL, Option.bind_some, if_pos (by omega)]
        exact fin _ _ _ (by show (m.1 ++ m.2.1 ++ L).size ≤ 100000; rw [ba_append_size]; omega) (by show 0 ≤ a4; omega) (by show a4 ≤ 500000; omega)
      · rw [if_neg hv2]
        exact fin _ _ _ (by show (m.1 ++ m.2.1).size ≤ 100000; omega) (by show 0 ≤ a2; omega) (by show a2 ≤ 500000; omega)
end
end Go.GA
