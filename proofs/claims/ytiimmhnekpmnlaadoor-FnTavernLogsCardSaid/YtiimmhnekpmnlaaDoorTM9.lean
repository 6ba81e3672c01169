/- Plain law of FnTavernLogs. -/
import Derived.Test.YtiimmhnekpmnlaaDoorTMh
namespace Go.GA
open Go
set_option maxRecDepth 100000
theorem recov_log {t : ByteArray} (ht : t.size ≤ 100000) : ∃ (B : Log) (at_ : Int) (q : Bool), p_impl_RecoverLog FU t = some (B, at_, q) ∧ p_spec_RecoverLog FU t = some (B, at_, q) ∧ ∀ Z : Option Bool, Z = some true → (if (q = true → (p_impl_IsValidLog FU (B.1, (B.2.1, (B.2.2.1, ())))).isSome = true) then if ((q && (!(!((p_impl_IsValidLog FU (B.1, (B.2.1, (B.2.2.1, ())))).getD false)))) = true → 0 ≤ at_) then if ((q && (!(!((p_impl_IsValidLog FU (B.1, (B.2.1, (B.2.2.1, ())))).getD false)))) = true → at_ ≤ (t.size : Int)) then (if (q && (((!((p_impl_IsValidLog FU (B.1, (B.2.1, (B.2.2.1, ())))).getD false)) || (!(eqS (t.extract 0 at_.toNat) B.1))) || (!(eqS B.2.1 (ByteArray.mk #[]))))) = true then some false else Z) else none else none else none) = some true := by
  obtain ⟨u1, u2⟩ := recov_val (x := t) (by omega)
  by_cases h : 30000 < t.size
  · rw [if_pos h] at u1 u2
    refine ⟨_, _, _, u1, u2, fun Z hZ => ?_⟩
    refine (if_pos (by intro h; cases h)).trans ((if_pos (by intro h; cases h)).trans ((if_pos (by intro h; cases h)).trans ((if_neg (by simp)).trans hZ)))
  · rw [if_neg h] at u1 u2
    obtain ⟨g1, g2, g3⟩ := VL.recover (x := t) (by omega)
    have htl := tot_le FU 0 t
    obtain ⟨_, v2⟩ := valid_val (f := t.extract 0 (tot (opn FU 0 t))) (p := ByteArray.empty) (c := ((opn FU 0 t).length : Int)) (by omega) (by show 0 ≤ _; omega)
    rw [decide_eq_true g1] at v2
    refine ⟨_, _, _, u1, u2, fun Z hZ => ?_⟩
    rw [v2]
    have e1 : eqS (t.extract 0 ((tot (opn FU 0 t) : Nat) : Int).toNat) (t.extract 0 (tot (opn FU 0 t))) = true := by rw [Int.toNat_natCast]; exact eqS_self _
    have e2 : eqS ByteArray.empty (ByteArray.mk #[]) = true := eqS_self _
    refine (if_pos (by intro _; rfl)).trans ((if_pos (by intro _; omega)).trans ((if_pos (by intro _; omega)).trans ((if_neg ?_).trans hZ)))
    rw [e1, e2]
    simp
theorem enc_eq {k : Int} {y : Rec} (hy : RS y) : ∃ s q, p_impl_EncodeRecord k y = some (s, q) ∧ p_spec_EncodeRecord FU k y = some (s, q) := by
  obtain ⟨h1, h2⟩ := hy
  obtain ⟨v, r1, r2, _⟩ := record_eq (x := y) (by omega) (by omega)
  have ex : (y.1, (y.2.1, ())) = y := rfl
  by_cases hc : (0 ≤ k ∧ k ≤ 59) ∧ v = true
  · obtain ⟨⟨k0, k1⟩, rfl⟩ := hc
    obtain ⟨i, rfl⟩ : ∃ i : Nat, k = (i : Int) := ⟨k.toNat, by omega⟩
    have hv : Vr y := ⟨r1, by omega, by omega⟩
    obtain ⟨e1, e2, _⟩ := enc_ok (fu := FU) (i := i) (by unfold FU; omega) (by omega) hv
    refine ⟨_, _, e1, ?_⟩
    unfold p_spec_EncodeRecord
    have ew : p_spec_l1In (i : Int) 0 59 = true := by unfold p_spec_l1In; simp; omega
    rw [ew, ex, r1, e2]
    rfl
  · have hb : ((!p_spec_l1In k 0 59) || !v) = true := by
      cases v with
      | false => simp
      | true =>
        have : p_spec_l1In k 0 59 = false := by
          have hi : p_spec_l1In k 0 59 = decide (0 ≤ k ∧ k ≤ 59) := by simp [p_spec_l1In]
          rw [hi, decide_eq_false (fun h => hc ⟨h, rfl⟩)]
        rw [this]; rfl
    refine ⟨ByteArray.mk #[], false, ?_, ?_⟩
    · unfold p_impl_EncodeRecord
      have hw : p_impl_within k 0 59 = p_spec_l1In k 0 59 := rfl
      rw [ex, r2, hw]
      simp only [Option.isSome_some, implies_true, if_true, Option.getD_some]
      rw [if_pos hb]
    · unfold p_spec_EncodeRecord
      rw [ex, r1]
      simp only [Option.isSome_some, implies_true, if_true, Option.getD_some]
      rw [if_pos hb]
theorem law_FnTavernLogs {x : List Int} (hx : Bytes x) : p_laws_FnTavernLogs FU x = some true := by
  unfold p_laws_FnTavernLogs
  by_cases hb : p_laws_rBig x = true
  · rw [if_pos hb]
  · rw [if_neg hb]
    have hlen : x.length ≤ 65536 := by
      unfold p_laws_rBig at hb
      simp at hb
      omega
    obtain ⟨y0, d0, hy0⟩ := drawValid hx
    obtain ⟨x1, q1, hx1⟩ := cut_bytes hx hlen (n := 1) (by omega)
    obtain ⟨x2, q2, hx2⟩ := cut_bytes hx hlen (n := 2) (by omega)
    obtain ⟨x3, q3, hx3⟩ := cut_bytes hx hlen (n := 3) (by omega)
    obtain ⟨x4, q4, hx4⟩ := cut_bytes hx hlen (n := 4) (by omega)
    obtain ⟨k1, z, d1, hz⟩ := drawEnc hx1
    obtain ⟨m, y, d2, hm, hy⟩ := drawApp hx2
    obtain ⟨m', k', t, d3, hm'⟩ := drawCrash hx3
    obtain ⟨text, d4, ht⟩ := drawRecover hx4
    obtain ⟨s, q, n1, n2⟩ := enc_eq (k := k1) (y := (z.1, (z.2.1, ()))) hz
    obtain ⟨v0, o1, o2, _⟩ := record_eq (x := (y0.1, (y0.2.1, ()))) (Nat.le_trans hy0.1 (by omega)) (Nat.le_trans hy0.2 (by omega))
    have o3 : p_spec_IsValidRecord (y0.1, (y0.2.1, ())) = some v0 := by
      unfold p_spec_IsValidRecord
      have : p_spec_l12Record (((y0.1, (y0.2.1, ())) : Rec).1, (((y0.1, (y0.2.1, ())) : Rec).2.1, ())) = some v0 := o1
      rw [this]; rfl
    obtain ⟨S, A, one, rl, st, w3, w4, y1, y2, v2, r1, r2, hsync, hfin⟩ := one_log hm hy
    obtain ⟨cs, cq, z2, z1, hcr⟩ := crash_log (k := k') (t := t) hm'
    obtain ⟨B, at_, rq, u1, u2, hrec⟩ := recov_log (t := text) ht
    have eS := eqT_log S
    have eA := eqT_log A
    have eB := eqT_log B
    rw [d0, Option.bind_some, q1, Option.bind_some, d1, Option.bind_some, n1, Option.bind_some, n2, Option.bind_some, o2, o3]
    refine (if_pos (by intro _; rfl)).trans ((if_pos (by intro _; rfl)).trans ?_)
    refine (if_neg (by simp [eqS_self])).trans ?_
    rw [q2, Option.bind_some, d2, Option.bind_some, w3, Option.bind_some, w4, Option.bind_some]
    refine (if_neg ?_).trans ?_
    · intro h
      have h' : ((!(eqT (.pair .str (.pair .str (.pair (.int .i64) .unit))) A A)) || (!(decide (st = st)))) = true := h
      rw [eA] at h'; simp at h'
    rw [y1, Option.bind_some, y2, Option.bind_some, v2]
    refine (if_pos (by intro _; rfl)).trans ?_
    refine (if_neg ?_).trans ?_
    · intro h
      have h' : (((!(eqT (.pair .str (.pair .str (.pair (.int .i64) .unit))) S S)) || (one != one)) || (one != one)) = true := h
      rw [eS] at h'; simp at h'
    rw [r1, Option.bind_some, r2, Option.bind_some]
    refine (if_neg ?_).trans ?_
    · simp [rRecords_self]
    rw [q3, Option.bind_some, d3, Option.bind_some, z2, Option.bind_some, z1, Option.bind_some]
    refine (if_neg ?_).trans ?_
    · simp [eqS_self]
    rw [q4, Option.bind_some, d4, Option.bind_some, u1, Option.bind_some, u2, Option.bind_some]
    refine (if_neg ?_).trans ?_
    · intro h
      have h' : (((!(eqT (.pair .str (.pair .str (.pair (.int .i64) .unit))) B B)) || (!(decide (at_ = at_)))) || (rq != rq)) = true := h
      rw [eB] at h'; simp at h'
    refine hrec _ ?_
    refine hcr _ ?_
    refine hsync _ ?_
    exact hfin
theorem pure_FnTavernLogs {x : List Int} (o : OkT (.slice (.int .u8)) x) : p_laws_FnTavernLogs FU x = some true := by
  have hx : Bytes x := fun b hb => by
    have h : (Lit.int .u8 b).wf = true := o.2 b hb
    simp only [Lit.wf, Bool.and_eq_true, decide_eq_true_eq] at h
    have e1 : IntKind.u8.min = 0 := by decide
    have e2 : IntKind.u8.max = 255 := by decide
    rw [e1, e2] at h
    exact h
  exact law_FnTavernLogs hx
end Go.GA
