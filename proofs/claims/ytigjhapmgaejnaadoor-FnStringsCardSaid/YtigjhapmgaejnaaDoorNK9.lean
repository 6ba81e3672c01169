/- Plain law of FnStrings. -/
import Derived.Test.YtigjhapmgaejnaaDoorNKe
import Derived.Test.YtigjhapmgaejnaaDoorNKf
namespace Go.GA
open Go
set_option maxRecDepth 100000
theorem bytesB_list (l : List Int) : (bytesB l).data.toList = l.map (fun n => UInt8.ofNat n.toNat) := by
  have key : ∀ (l : List Int) (r : ByteArray), (l.foldl (fun r n => r.push (UInt8.ofNat n.toNat)) r).data.toList = r.data.toList ++ l.map (fun n => UInt8.ofNat n.toNat) := by
    intro l
    induction l with
    | nil => intro r; simp
    | cons x l ih =>
      intro r
      rw [List.foldl_cons, ih, List.map_cons]
      simp
  have h := key l ByteArray.empty
  rw [show ByteArray.empty.data.toList = [] from rfl, List.nil_append] at h
  exact h
theorem bytes_set (y : ByteArray) (k : Nat) (v : Int) : (bytesB ((bytesI y).set k v)).data.toList = y.data.toList.set k (UInt8.ofNat v.toNat) := by
  rw [bytesB_list]
  unfold bytesI
  rw [List.map_set, List.map_map]
  congr 1
  rw [show ((fun n : Int => UInt8.ofNat n.toNat) ∘ fun b : UInt8 => ((b.toNat : Nat) : Int)) = id from by
    funext b
    simp]
  simp
theorem xor_ne {b : UInt8} {d : Int} (h1 : 1 ≤ d) (h2 : d ≤ 255) : UInt8.ofNat (xorI .u8 (b.toNat : Int) d).toNat ≠ b := by
  intro h
  have hx : xorI .u8 (b.toNat : Int) d = ((BitVec.ofInt 8 (b.toNat : Int) ^^^ BitVec.ofInt 8 d).toNat : Int) := by
    unfold xorI
    show IntKind.wrap .u8 ((BitVec.ofInt 8 (b.toNat : Int) ^^^ BitVec.ofInt 8 d).toNat : Int) = _
    have := (BitVec.ofInt 8 (b.toNat : Int) ^^^ BitVec.ofInt 8 d).isLt
    generalize (BitVec.ofInt 8 (b.toNat : Int) ^^^ BitVec.ofInt 8 d).toNat = z at this
    unfold IntKind.wrap
    simp only [IntKind.bits, IntKind.signed]
    simp
    omega
  rw [hx, Int.toNat_natCast] at h
  have hlt := (BitVec.ofInt 8 (b.toNat : Int) ^^^ BitVec.ofInt 8 d).isLt
  have h3 := congrArg UInt8.toNat h
  rw [UInt8.toNat_ofNat', Nat.mod_eq_of_lt (by simpa using hlt)] at h3
  have e1 : BitVec.ofInt 8 (b.toNat : Int) = b.toBitVec := by
    apply BitVec.eq_of_toNat_eq
    have := UInt8.toNat_lt b
    rw [BitVec.toNat_ofInt]
    show _ = b.toNat
    omega
  rw [e1] at h3
  have h4 : b.toBitVec ^^^ BitVec.ofInt 8 d = b.toBitVec := BitVec.eq_of_toNat_eq h3
  have h5 : BitVec.ofInt 8 d = 0#8 := by
    have := congrArg (fun z => b.toBitVec ^^^ z) h4
    simpa [← BitVec.xor_assoc] using this
  have h6 := congrArg BitVec.toNat h5
  rw [BitVec.toNat_ofInt] at h6
  simp at h6
  omega
theorem parse_impl (s : ByteArray) (h : s.size ≤ 1000000) : p_impl_ParseInt s = some (pk s) := by
  unfold p_impl_ParseInt
  rw [if_pos h, parse_pk]
theorem parse_spec {s : ByteArray} (h : s.size ≤ 1000000) (hr : p_spec_l1Read 10 s = some (pk s)) : p_spec_ParseInt 10 s = some (pk s) := by
  unfold p_spec_ParseInt
  rw [if_pos (by omega), hr]
  rfl
theorem itoaB_size {n : Int} (h0 : -10000000 ≤ n) (h1 : n ≤ 10000000) : (itoaB n).size ≤ 100 := by
  by_cases hn : n < 0
  · obtain ⟨k, hk⟩ : ∃ k : Nat, n = -(k : Int) := ⟨n.natAbs, by omega⟩
    subst hk
    rw [itoaB_neg (by omega), ba_append_size, numB_size]
    have := Lib.nDigits_le20 k (by omega)
    have : (ByteArray.mk #[45]).size = 1 := rfl
    omega
  · obtain ⟨k, hk⟩ : ∃ k : Nat, n = (k : Int) := ⟨n.natAbs, by omega⟩
    subst hk
    rw [itoaB_pos, numB_size]
    have := Lib.nDigits_le20 k (by omega)
    omega
theorem decs_size : ∀ s ∈ decs, s.size ≤ 100 := by decide
/-- FormatInt -/
def fmB (n : Int) : ByteArray × Bool := if -999999 ≤ n ∧ n ≤ 999999 then (itoaB n, true) else (ByteArray.mk #[], false)
theorem fm_impl {n : Int} (h0 : -10000000 ≤ n) (h1 : n ≤ 10000000) : p_impl_FormatInt n = some (fmB n) := by
  unfold p_impl_FormatInt p_impl_isDecimal p_impl_within fmB
  by_cases hc : -999999 ≤ n ∧ n ≤ 999999
  · rw [if_pos (by rw [decide_eq_true hc.1, decide_eq_true hc.2]; rfl), if_pos hc]
    unfold p_strconv_Itoa
    rw [if_pos ⟨by omega, by omega⟩]
    rfl
  · rw [if_neg (by simpa using hc), if_neg hc]
theorem fm_spec {n : Int} (h0 : -10000000 ≤ n) (h1 : n ≤ 10000000) : p_spec_FormatInt 10 n = some (fmB n) := by
  unfold p_spec_FormatInt p_spec_l1In fmB
  by_cases hc : -999999 ≤ n ∧ n ≤ 999999
  · rw [if_pos (by rw [decide_eq_true hc.1, decide_eq_true hc.2]; rfl), if_pos hc, num_all (Nat.le_refl 10) h0 h1]
    rfl
  · rw [if_neg (by simpa using hc), if_neg hc]
theorem pure_FnStrings {x : List Int} (o : OkT (.slice (.int .u8)) x) : ∃ fu, p_laws_FnStrings fu x = some true := by
  refine ⟨10, ?_⟩
  have hx : Bytes x := fun b hb => by
    have h : (Lit.int .u8 b).wf = true := o.2 b hb
    simp only [Lit.wf, Bool.and_eq_true, decide_eq_true_eq] at h
    have e1 : IntKind.u8.min = 0 := by decide
    have e2 : IntKind.u8.max = 255 := by decide
    rw [e1, e2] at h
    exact h
  unfold p_laws_FnStrings
  by_cases hb : p_laws_vBig x = true
  · rw [if_pos hb]
  rw [if_neg hb]
  have hl : x.length ≤ 65536 := by
    unfold p_laws_vBig at hb
    simp at hb
    omega
  obtain ⟨n, e1, hn⟩ := drawFormat_ok hx
  obtain ⟨t, e2, ht⟩ := drawParse_ok hx
  obtain ⟨s, e3, hs⟩ := drawAppend_ok hx
  have n0 : -10000000 ≤ n ∧ n ≤ 10000000 := by
    simp only [List.mem_cons, List.not_mem_nil, or_false] at hn
    omega
  have t0 : t.size ≤ 1000000 ∧ p_spec_l1Read 10 t = some (pk t) := by
    rcases ht with h | ⟨k, h1, h2, rfl⟩
    · have := decs_size t h
      exact ⟨by omega, eq_of_beq (List.all_eq_true.1 decs_fin t h)⟩
    · refine ⟨?_, nums_fin h1 h2⟩
      rw [numC_eq (by omega) (by omega)]
      have := itoaB_size (n := k) (by omega) (by omega)
      omega
  have f0 : (fmB n).1.size ≤ 1000000 := by
    unfold fmB
    split
    · have := itoaB_size n0.1 n0.2
      show (itoaB n).size ≤ _
      omega
    · show 0 ≤ _
      omega
  have hback : (fmB n).2 = true → pk (fmB n).1 = (n, true) := by
    intro h
    unfold fmB at h ⊢
    by_cases hc : -999999 ≤ n ∧ n ≤ 999999
    · rw [if_pos hc]
      show pk (itoaB n) = _
      rw [← numC_eq n0.1 n0.2]
      rcases hn with h | h | ⟨h1, h2⟩
      · exact back_more n h
      · simp only [List.mem_cons, List.not_mem_nil, or_false] at h
        omega
      · exact back_fin h1 h2
    · rw [if_neg hc] at h; cases h
  rw [e1, Option.bind_some, fm_impl n0.1 n0.2, Option.bind_some, fm_spec n0.1 n0.2, Option.bind_some, e2, Option.bind_some, parse_impl t t0.1, Option.bind_some, parse_spec t0.1 t0.2, Option.bind_some, e3, Option.bind_some, ac_impl s (by omega), Option.bind_some, ac_spec (Nat.le_refl 10) s (by omega), Option.bind_some]
  have q1 : eqS (fmB n).1 (fmB n).1 = true := eqS_iff.2 rfl
  have q2 : eqS (acB s).1 (acB s).1 = true := eqS_iff.2 rfl
  rw [q1, q2, if_neg (by simp), parse_impl _ f0, Option.bind_some]
  have q3 : ((fmB n).2 && ((!(pk (fmB n).1).2) || (!(decide ((pk (fmB n).1).1 = n))))) = false := by
    cases hq : (fmB n).2 with
    | false => rfl
    | true => rw [hback hq]; simp
  rw [q3, if_neg Bool.false_ne_true]
  cases hq : acB s with
  | mk y ok =>
    dsimp only
    by_cases hk : ok = true
    · rw [if_pos hk]
      subst hk
      obtain ⟨a1, a2, a3, a4⟩ := ac_true hq
      have a5 := (sealB_size s).2
      rw [← a3] at a5
      rw [vc_impl y (by omega), Option.bind_some, vc_seal hq, if_pos (by omega)]
      obtain ⟨v, ev, v0, v1⟩ := vAt_ok hx hl (i := 9) (by omega) (by omega)
      obtain ⟨u, eu, u0, u1⟩ := vAt_ok hx hl (i := 10) (by omega) (by omega)
      rw [ev, Option.bind_some, bytesI_len]
      have m0 : 0 ≤ v.tmod (y.size : Int) := Int.tmod_nonneg _ v0
      have m1 : v.tmod (y.size : Int) < (y.size : Int) := by
        rw [Int.tmod_eq_emod_of_nonneg v0]; exact Int.emod_lt_of_pos _ (by omega)
      rw [if_pos (show (y.size : Int) ≠ 0 by omega), if_pos m0, if_pos m1, eu, Option.bind_some]
      generalize hkk : (v.tmod (y.size : Int)).toNat = k
      have hk2 : k < y.size := by omega
      have w1 : IntKind.wrap .i64 (1 + u.tmod 255) = 1 + u.tmod 255 ∧ 0 ≤ u.tmod 255 ∧ u.tmod 255 ≤ 254 := by
        rw [Int.tmod_eq_emod_of_nonneg u0]
        exact ⟨wr (by omega) (by omega), by omega, by omega⟩
      have w2 : IntKind.wrap .u8 (1 + u.tmod 255) = 1 + u.tmod 255 := by
        unfold IntKind.wrap
        simp only [IntKind.bits, IntKind.signed]
        simp
        omega
      rw [w1.1, w2]
      generalize hd : 1 + u.tmod 255 = d
      have hlen : k < y.data.toList.length := by rw [size_toList]; exact hk2
      have hg : (bytesI y).getD k 0 = ((y.data.toList[k].toNat : Nat) : Int) := by
        unfold bytesI
        rw [List.getD_eq_getElem?_getD, List.getElem?_map, List.getElem?_eq_getElem hlen]
        rfl
      rw [hg]
      have hz := bytes_set y k (xorI .u8 ((y.data.toList[k].toNat : Nat) : Int) d)
      have hne := xor_ne (b := y.data.toList[k]) (d := d) (by omega) (by omega)
      generalize hzz : bytesB ((bytesI y).set k (xorI .u8 ((y.data.toList[k].toNat : Nat) : Int) d)) = z at hz
      have hzs : z.size ≤ 1000000 := by
        rw [← hzz, bytesB_size, List.length_set, bytesI_len]; omega
      rw [vc_impl z hzs, Option.bind_some, vc_bad hq hk2 hz (fun _ => hne)]
      show some ((true && eqS s s) && !false) = some true
      rw [eqS_iff.2 rfl]
      rfl
    · rw [if_neg hk]
      have := ac_false hq hk
      rw [this, eqS_iff.2 rfl]
end Go.GA
