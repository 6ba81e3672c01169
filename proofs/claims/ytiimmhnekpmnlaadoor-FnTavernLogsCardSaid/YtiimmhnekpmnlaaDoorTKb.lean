/- Plain laws of logs: a line is decoded. -/
import Derived.Test.YtiimmhnekpmnlaaDoorTKa
namespace Go.GA
open Go
set_option maxRecDepth 100000
def headB (i : Nat) : ByteArray := numB i ++ ByteArray.mk #[32]
def tailB (x : Rec) : ByteArray := x.1 ++ ByteArray.mk #[64] ++ x.2.1
theorem lineB_ht (i : Nat) (x : Rec) : lineB i x = headB i ++ tailB x := by unfold lineB headB tailB; simp only [ba_assoc]
theorem lineB_sp (i : Nat) (x : Rec) : lineB i x = numB i ++ ByteArray.mk #[32] ++ tailB x := by rw [lineB_ht]; rfl
theorem dec_ne {n : Nat} {b : UInt8} (hb : b.toNat < 48 ∨ 57 < b.toNat) : ∀ y ∈ (numB n).data.toList, y ≠ b := fun y hy e => by
  rw [numB_list] at hy
  have := dec_digit hy
  subst e
  omega
theorem any_ne {l : List UInt8} {b : UInt8} (h : l.any (· == b) = false) : ∀ y ∈ l, y ≠ b := fun y hy e => by
  subst e
  have : l.any (· == y) = true := List.any_eq_true.2 ⟨y, hy, by simp⟩
  rw [h] at this; cases this
theorem line_no35 {i : Nat} {x : Rec} (h : Vr x) : ∀ y ∈ (lineB i x).data.toList, y ≠ 35 := by
  obtain ⟨_, _, o1, o2, _⟩ := h.facts
  exact any_ne (lineB_hash o1 o2)
/-- the impl's way: three cuts -/
theorem decode_Ln {i : Nat} (hi : i ≤ 59) {x : Rec} (h : Vr x) : p_impl_decode (i : Int) (Ln i x) = some (x, true) := by
  obtain ⟨e1, _, e3⟩ := enc_ok (fu := 6) (by omega) hi h
  obtain ⟨b1, b2, o1, o2, o3⟩ := h.facts
  have c1 := cut_app (b := 35) (s := Ln i x) (A := lineB i x) (C := numB (sumN (lineB i x)) ++ ByteArray.mk #[10]) (by unfold Ln sealedB; simp only [ba_assoc]) (line_no35 h)
  have c2 := cut_app (b := 32) (lineB_sp i x) (dec_ne (by decide))
  have c3 := cut_app (b := 64) (s := tailB x) (A := x.1) (C := x.2.1) rfl (any_ne o3)
  obtain ⟨hl, hn⟩ := lineB_size hi x
  have ht : (tailB x).size ≤ 412 := by
    have : (ByteArray.mk #[64]).size = 1 := rfl
    unfold tailB; rw [ba_append_size, ba_append_size]; omega
  unfold p_impl_decode
  rw [if_pos (by omega), cut_eq _ (by omega), c1.1, if_pos c1.2.1, c1.2.2.1, Option.bind_some]
  simp only
  rw [cutv1_eq _ (by omega), c2.1, if_pos c2.2.1, c2.2.2.2, Option.bind_some]
  simp only
  rw [cutv2_eq _ (by omega), c3.1, if_pos c3.2.1, c3.2.2.1, c3.2.2.2, Option.bind_some]
  simp only
  have ex : (x.1, (x.2.1, ())) = x := rfl
  rw [ex, e1, Option.bind_some]
  have h0 : eqS (Ln i x) (Ln i x) = true := eqS_iff.2 rfl
  simp [h0]
theorem ext_le (s : ByteArray) (a b : Nat) : (s.extract a b).size ≤ s.size := by
  rw [← size_toList, ext_list, List.length_take, List.length_drop, size_toList]; omega
theorem decode_some {i : Nat} {L : ByteArray} (hL : L.size ≤ 2097152) : ∃ r ok, p_impl_decode (i : Int) L = some (r, ok) ∧ (ok = true → i ≤ 59 ∧ Vr r ∧ L = Ln i r) := by
  unfold p_impl_decode
  rw [if_pos (by omega), cut_eq _ hL, Option.bind_some]
  have hc : ∃ a b o, (if fi 35 L < L.size then (L.extract 0 (fi 35 L), L.extract (fi 35 L + 1) L.size, true) else (L, ByteArray.mk #[], false)) = ((a, b, o) : ByteArray × ByteArray × Bool) ∧ a.size ≤ 2097152 := by
    by_cases hh : fi 35 L < L.size
    · exact ⟨_, _, _, by rw [if_pos hh], by have := ext_le L 0 (fi 35 L); omega⟩
    · exact ⟨_, _, _, by rw [if_neg hh], hL⟩
  obtain ⟨a, b, o, e, ha⟩ := hc
  rw [e]
  simp only
  rw [cutv1_eq _ ha, Option.bind_some]
  have hc2 : ∃ a' b' o', (if fi 32 a < a.size then (a.extract 0 (fi 32 a), a.extract (fi 32 a + 1) a.size, true) else (a, ByteArray.mk #[], false)) = ((a', b', o') : ByteArray × ByteArray × Bool) ∧ b'.size ≤ 2097152 := by
    by_cases hh : fi 32 a < a.size
    · exact ⟨_, _, _, by rw [if_pos hh], by have := ext_le a (fi 32 a + 1) a.size; omega⟩
    · exact ⟨_, _, _, by rw [if_neg hh], by decide⟩
  obtain ⟨a', b', o', e', hb'⟩ := hc2
  rw [e']
  simp only
  rw [cutv2_eq _ hb', Option.bind_some]
  have hc3 : ∃ c d o2, (if fi 64 b' < b'.size then (b'.extract 0 (fi 64 b'), b'.extract (fi 64 b' + 1) b'.size, true) else (b', ByteArray.mk #[], false)) = ((c, d, o2) : ByteArray × ByteArray × Bool) ∧ c.size ≤ 2097152 ∧ d.size ≤ 2097152 := by
    by_cases hh : fi 64 b' < b'.size
    · exact ⟨_, _, _, by rw [if_pos hh], by have := ext_le b' 0 (fi 64 b'); omega, by have := ext_le b' (fi 64 b' + 1) b'.size; omega⟩
    · exact ⟨_, _, _, by rw [if_neg hh], hb', by decide⟩
  obtain ⟨c, d, o2, e2, hc', hd'⟩ := hc3
  rw [e2]
  simp only
  by_cases hv : i ≤ 59 ∧ Vr (c, (d, ()))
  · obtain ⟨g1, _, _⟩ := enc_ok (fu := 6) (by omega) hv.1 hv.2
    rw [g1]
    refine ⟨_, _, rfl, fun hk => ⟨hv.1, hv.2, ?_⟩⟩
    simp only [Bool.true_and] at hk
    exact (eqS_iff.1 hk).symm
  · rw [enc_bad (x := (c, (d, ()))) hc' hd' hv]
    refine ⟨_, _, rfl, fun hk => ?_⟩
    simp at hk
/-- the reference's way: parts -/
theorem spec_decode_some {fu i : Nat} (hf : 6 ≤ fu) (hi : i ≤ 59) {x : ByteArray} (hx : x.size ≤ 2097152) : ∃ r ok, p_spec_l12Decode fu x (i : Int) = some (r, ok) ∧ (ok = true → Vr r ∧ Ln i r = x ++ ByteArray.mk #[10]) := by
  have hp : i < 10 ^ fu := Nat.lt_of_lt_of_le (show i < 10 ^ 6 by omega) (Nat.pow_le_pow_right (by omega) hf)
  have hn : (numB i).size ≤ 2 := by rw [numB_size]; exact nDigits_lt (by omega) (by omega)
  have f1 : (ByteArray.mk #[32]).size = 1 := rfl
  have f4 : (ByteArray.mk #[10]).size = 1 := rfl
  have hh : (numB i ++ ByteArray.mk #[32]).size = (numB i).size + 1 := by rw [ba_append_size, f1]
  obtain ⟨ps, e1, l1, _, g1, _⟩ := split_spec 35 x hx 35 rfl
  have hp0 : (x.extract 0 (fi 35 x)).size ≤ 2097152 := by have := ext_le x 0 (fi 35 x); omega
  unfold p_spec_l12Decode
  rw [if_pos (by omega), num_spec fu i (by omega) hp (by omega), Option.bind_some, f1, if_pos (by omega), e1, Option.bind_some, if_pos (by omega), g1]
  generalize x.extract 0 (fi 35 x) = p0 at hp0 ⊢
  by_cases hc : (decide ((p0.size : Int) < ((numB i ++ ByteArray.mk #[32]).size : Int)) || !(eqS (p0.extract 0 (((numB i ++ ByteArray.mk #[32]).size : Nat) : Int).toNat) (numB i ++ ByteArray.mk #[32]))) = true
  · rw [if_pos hc]
    exact ⟨_, _, rfl, fun h => by cases h⟩
  · rw [if_neg hc]
    have hrest : (p0.extract (((numB i ++ ByteArray.mk #[32]).size : Nat) : Int).toNat ((p0.size : Nat) : Int).toNat).size ≤ 2097152 := by have := ext_le p0 (((numB i ++ ByteArray.mk #[32]).size : Nat) : Int).toNat ((p0.size : Nat) : Int).toNat; omega
    generalize p0.extract (((numB i ++ ByteArray.mk #[32]).size : Nat) : Int).toNat ((p0.size : Nat) : Int).toNat = rest at hrest ⊢
    obtain ⟨qs, e2, l2, _, g2, _⟩ := split_spec 64 rest hrest 64 rfl
    rw [e2, Option.bind_some, if_pos (by omega), g2]
    have hfl := fi_le 64 rest
    have hs2 : (rest.extract 0 (fi 64 rest)).size = fi 64 rest := by rw [ext_size _ _ _ (by omega) hfl]; omega
    rw [hs2]
    by_cases hc2 : ((fi 64 rest : Nat) : Int) = ((rest.size : Nat) : Int)
    · rw [if_pos hc2]
      exact ⟨_, _, rfl, fun h => by cases h⟩
    · rw [if_neg hc2]
      have ew : IntKind.wrap .i64 (((fi 64 rest : Nat) : Int) + 1) = ((fi 64 rest : Nat) : Int) + 1 := wrap_id (by omega) (by omega)
      rw [ew, if_pos (by omega), if_pos (by omega)]
      have t1 : (((fi 64 rest : Nat) : Int) + 1).toNat = fi 64 rest + 1 := by omega
      have t2 : ((rest.size : Nat) : Int).toNat = rest.size := by omega
      rw [t1, t2]
      have z1 : (rest.extract 0 (fi 64 rest)).size ≤ 2097152 := by omega
      have z2 : (rest.extract (fi 64 rest + 1) rest.size).size ≤ 2097152 := by have := ext_le rest (fi 64 rest + 1) rest.size; omega
      obtain ⟨q, r1, _, _⟩ := record_eq (x := (rest.extract 0 (fi 64 rest), (rest.extract (fi 64 rest + 1) rest.size, ()))) z1 z2
      rw [r1, Option.bind_some]
      cases q with
      | false =>
        simp only [Bool.false_eq_true, false_implies, if_true]
        exact ⟨_, _, rfl, fun h => by simp at h⟩
      | true =>
        have hv : Vr (rest.extract 0 (fi 64 rest), (rest.extract (fi 64 rest + 1) rest.size, ())) := ⟨r1, z1, z2⟩
        obtain ⟨_, k2, _⟩ := enc_ok hf hi hv
        rw [k2, f4]
        simp only [Option.isSome_some, implies_true, if_true, Option.getD_some, Bool.true_and]
        rw [if_pos (by intro _; omega)]
        exact ⟨_, _, rfl, fun h => ⟨hv, eqS_iff.1 h⟩⟩
theorem spec_decode_Ln {fu i : Nat} (hf : 6 ≤ fu) (hi : i ≤ 59) {x : ByteArray} {r : Rec} (h : Vr r) (e : Ln i r = x ++ ByteArray.mk #[10]) : p_spec_l12Decode fu x (i : Int) = some (r, true) := by
  have hp : i < 10 ^ fu := Nat.lt_of_lt_of_le (show i < 10 ^ 6 by omega) (Nat.pow_le_pow_right (by omega) hf)
  obtain ⟨_, k2, k3⟩ := enc_ok hf hi h
  obtain ⟨b1, b2, o1, o2, o3⟩ := h.facts
  obtain ⟨hl, hn⟩ := lineB_size hi r
  have f1 : (ByteArray.mk #[32]).size = 1 := rfl
  have f4 : (ByteArray.mk #[10]).size = 1 := rfl
  have f64 : (ByteArray.mk #[64]).size = 1 := rfl
  have hh : (numB i ++ ByteArray.mk #[32]).size = (numB i).size + 1 := by rw [ba_append_size, f1]
  have ex : x = sealedB (lineB i r) (sumN (lineB i r)) := by
    apply ba_ext
    have := congrArg (fun s : ByteArray => s.data.toList) e
    simp only [Ln, ba_append_list] at this
    exact (List.append_cancel_right this).symm
  have hxs : x.size + 1 = (Ln i r).size := by rw [e, ba_append_size, f4]
  have c1 := cut_app (b := 35) (s := x) (A := lineB i r) (C := numB (sumN (lineB i r))) (by rw [ex]; rfl) (line_no35 h)
  have c3 := cut_app (b := 64) (s := tailB r) (A := r.1) (C := r.2.1) rfl (any_ne o3)
  have hts : (tailB r).size = r.1.size + 1 + r.2.1.size := by unfold tailB; rw [ba_append_size, ba_append_size, f64]
  have hls : (lineB i r).size = (headB i).size + (tailB r).size := by rw [lineB_ht, ba_append_size]
  obtain ⟨ps, e1, l1, _, g1, _⟩ := split_spec 35 x (by omega) 35 rfl
  obtain ⟨qs, e2, l2, _, g2, _⟩ := split_spec 64 (tailB r) (by omega) 64 rfl
  unfold p_spec_l12Decode
  rw [if_pos (by omega), num_spec fu i (by omega) hp (by omega), Option.bind_some, f1, if_pos (by omega), e1, Option.bind_some, if_pos (by omega), g1, c1.1, c1.2.2.1]
  have hhd : numB i ++ ByteArray.mk #[32] = headB i := rfl
  rw [hhd]
  have t0 : (((headB i).size : Nat) : Int).toNat = (headB i).size := by omega
  have t00 : (((lineB i r).size : Nat) : Int).toNat = (lineB i r).size := by omega
  rw [t0, t00]
  have x1 : (lineB i r).extract 0 (headB i).size = headB i := by rw [lineB_ht]; exact app_left _ _
  have x2 : (lineB i r).extract (headB i).size (lineB i r).size = tailB r := by rw [lineB_ht]; exact app_right _ _
  rw [x1, x2, if_neg (by rw [eqS_iff.2 rfl]; simp; omega), e2, Option.bind_some, if_pos (by omega), g2, c3.1, c3.2.2.1, if_neg (by omega)]
  have ew : IntKind.wrap .i64 ((r.1.size : Int) + 1) = (r.1.size : Int) + 1 := wrap_id (by omega) (by omega)
  have t1 : ((r.1.size : Int) + 1).toNat = r.1.size + 1 := by omega
  have t2 : (((tailB r).size : Nat) : Int).toNat = (tailB r).size := by omega
  rw [ew, if_pos (by omega), if_pos (by omega), t1, t2, c3.2.2.2]
  have er : (r.1, (r.2.1, ())) = r := rfl
  rw [er, h.ok, Option.bind_some, k2, f4]
  simp only [Option.isSome_some, implies_true, if_true, Option.getD_some, Bool.true_and]
  rw [if_pos (by intro _; omega), eqS_iff.2 e]
/-- both decode alike -/
theorem decode_eq {fu i : Nat} (hf : 6 ≤ fu) (hi : i ≤ 59) {x : ByteArray} (hx : x.size ≤ 2097151) : ∃ r1 r2 ok, p_impl_decode (i : Int) (x ++ ByteArray.mk #[10]) = some (r1, ok) ∧ p_spec_l12Decode fu x (i : Int) = some (r2, ok) ∧ (ok = true → r1 = r2) := by
  have f4 : (ByteArray.mk #[10]).size = 1 := rfl
  obtain ⟨r1, o1, e1, h1⟩ := decode_some (i := i) (L := x ++ ByteArray.mk #[10]) (by rw [ba_append_size, f4]; omega)
  obtain ⟨r2, o2, e2, h2⟩ := spec_decode_some hf hi (x := x) (by omega)
  cases o1 with
  | true =>
    obtain ⟨_, hv, hL⟩ := h1 rfl
    have := spec_decode_Ln hf hi hv hL.symm
    exact ⟨r1, r1, true, e1, this, fun _ => rfl⟩
  | false =>
    cases o2 with
    | false => exact ⟨r1, r2, false, e1, e2, fun h => by cases h⟩
    | true =>
      obtain ⟨hv, hL⟩ := h2 rfl
      have := decode_Ln hi hv
      rw [hL, e1] at this
      simp at this
end Go.GA
