/- Plain laws of logs: records that are appended, synced, recovered; what survives a crash. -/
import Derived.Test.YtiimmhnekpmnlaaDoorTMc
namespace Go.GA
open Go
set_option maxRecDepth 100000
theorem app_empty (s : ByteArray) : s ++ ByteArray.empty = s := by apply ba_ext; rw [ba_append_list]; simp
theorem VL.append {f p : ByteArray} {c : Int} {y : Rec} (h : VL f p c) (hy : Vr y) (h60 : c ≠ 60) : VL f (p ++ Ln c.toNat y) (c + 1) ∧ recs f (p ++ Ln c.toNat y) = recs f p ++ [y] := by
  have hc := h.c60
  obtain ⟨h1, h2, h3, h4⟩ := h
  obtain ⟨i, rfl⟩ : ∃ i : Nat, c = (i : Int) := ⟨c.toNat, by omega⟩
  rw [Int.toNat_natCast]
  have hi : i ≤ 59 := by omega
  have hs : (f ++ p).size = f.size + p.size := ba_append_size f p
  obtain ⟨l1, l2⟩ := Ln_size hi hy
  have hlen : (opn FU 0 (f ++ p)).length = i := by omega
  have ha : opn FU 0 (f ++ (p ++ Ln i y)) = opn FU 0 (f ++ p) ++ [(y, (Ln i y).size)] := by
    rw [← ba_assoc, opn_app FU 0 (f ++ p) (Ln i y) (by unfold FU; omega) (by omega), hlen, Nat.zero_add, opn_one hi hy (by unfold FU; omega)]
  have hsm := opn_small FU 0 (f ++ p) (by omega)
  have hps : (p ++ Ln i y).size = p.size + (Ln i y).size := ba_append_size _ _
  refine ⟨⟨?_, ?_, h3, ?_⟩, ?_⟩
  · rw [hps]; rw [hlen] at hsm; omega
  · rw [ha, tot_app, hps, h2]; simp only [tot]; omega
  · rw [ha, List.length_append, hlen]; simp
  · unfold recs
    rw [ha, List.map_append]; rfl
theorem VL.sync {f p : ByteArray} {c : Int} (h : VL f p c) : VL (f ++ p) ByteArray.empty c ∧ recs (f ++ p) ByteArray.empty = recs f p := by
  obtain ⟨h1, h2, h3, h4⟩ := h
  have hs : (f ++ p).size = f.size + p.size := ba_append_size f p
  have e0 : ByteArray.empty.size = 0 := rfl
  unfold VL recs
  rw [app_empty]
  exact ⟨⟨by omega, by omega, by omega, h4⟩, rfl⟩
theorem VL.recover {x : ByteArray} (hx : x.size ≤ 30000) : VL (x.extract 0 (tot (opn FU 0 x))) ByteArray.empty ((opn FU 0 x).length : Int) ∧ recs (x.extract 0 (tot (opn FU 0 x))) ByteArray.empty = (opn FU 0 x).map (·.1) ∧ (x.extract 0 (tot (opn FU 0 x))).size = tot (opn FU 0 x) := by
  have htl := tot_le FU 0 x
  have hcut := opn_cut FU 0 x (by unfold FU; omega)
  have hsz : (x.extract 0 (tot (opn FU 0 x))).size = tot (opn FU 0 x) := by rw [ext_size _ _ _ (by omega) htl]; omega
  have e0 : ByteArray.empty.size = 0 := rfl
  unfold VL recs
  rw [app_empty, hcut, hsz]
  exact ⟨⟨by omega, by omega, by omega, rfl⟩, rfl, rfl⟩
/-- what survives: it begins alike, and no line ends behind -/
structure Left (f p s : ByteArray) : Prop where
  brk : ∃ u v w : ByteArray, p = u ++ v ∧ s = f ++ (u ++ w) ∧ ∀ y ∈ w.data.toList, y ≠ 10
  small : s.size ≤ f.size + p.size
theorem VL.crash {f p s : ByteArray} {c : Int} (h : VL f p c) (hl : Left f p s) : s.size ≤ 30000 ∧ f.size ≤ tot (opn FU 0 s) ∧ ∃ l, opn FU 0 (f ++ p) = opn FU 0 s ++ l := by
  obtain ⟨h1, h2, h3, h4⟩ := h
  obtain ⟨⟨u, v, w, e1, e2, hw⟩, hsm⟩ := hl
  have hps : p.size = u.size + v.size := by rw [e1, ba_append_size]
  have hss : s.size = f.size + (u.size + w.size) := by rw [e2, ba_append_size, ba_append_size]
  refine ⟨by omega, ?_, ?_⟩
  · rw [e2, opn_app FU 0 f (u ++ w) (by rw [ba_append_size]; unfold FU; omega) h3, tot_app]
    omega
  · obtain ⟨l, hl⟩ := opn_brk FU 0 (f ++ u) v w hw (by rw [ba_append_size]; unfold FU; omega)
    refine ⟨l, ?_⟩
    rw [e1, e2, ← ba_assoc, ← ba_assoc]
    exact hl
theorem crash_val {f p : ByteArray} {c k : Int} {t : Bool} (hf : f.size ≤ 1048576) (hp : p.size ≤ 1048576) : ∃ s q, p_spec_CrashLog FU (f, (p, (c, ()))) k t = some (s, q) ∧ p_impl_CrashLog FU (f, (p, (c, ()))) k t = some (s, q) ∧ (q = true → VL f p c ∧ Left f p s) := by
  obtain ⟨v1, v2⟩ := valid_val (c := c) hf hp
  unfold p_spec_CrashLog p_impl_CrashLog
  simp only
  rw [v1, v2, Option.bind_some, Option.bind_some]
  have hw : p_impl_within k 0 (p.size : Int) = p_spec_l1In k 0 (p.size : Int) := rfl
  have hi : p_spec_l1In k 0 (p.size : Int) = decide (0 ≤ k ∧ k ≤ (p.size : Int)) := by simp [p_spec_l1In]
  rw [hw, hi]
  by_cases hc : ((!decide (VL f p c)) || (!decide (0 ≤ k ∧ k ≤ (p.size : Int)))) = true
  · rw [if_pos hc, if_pos hc]
    exact ⟨_, _, rfl, rfl, fun h => by cases h⟩
  · rw [if_neg hc, if_neg hc]
    have hv : VL f p c := by
      by_cases h : VL f p c
      · exact h
      · exfalso; apply hc; rw [decide_eq_false h]; rfl
    have hk : 0 ≤ k ∧ k ≤ (p.size : Int) := by
      by_cases h : 0 ≤ k ∧ k ≤ (p.size : Int)
      · exact h
      · exfalso; apply hc; rw [decide_eq_false h]; simp
    obtain ⟨n, rfl⟩ : ∃ n : Nat, k = (n : Int) := ⟨k.toNat, by omega⟩
    simp only [Int.toNat_natCast]
    have hs : (p.extract 0 n).size = n := by rw [ext_size _ _ _ (by omega) (by omega)]; omega
    have hsa : (f ++ p.extract 0 n).size = f.size + n := by rw [ba_append_size, hs]
    rw [if_pos hk.1, if_pos hk.2, if_pos (by omega), if_pos hk.1, if_pos hk.2, if_pos (by omega), if_pos (by omega)]
    have hl : (bytesI (p.extract 0 n)).length = n := by rw [bytesI_len, hs]
    have hla : (bytesI f).length = f.size := bytesI_len _
    unfold jn
    dsimp only
    rw [bytesI_app]
    by_cases ht : (t && decide (0 < (n : Int))) = true
    · have hn : 0 < n := by
        simp only [Bool.and_eq_true, decide_eq_true_eq] at ht; omega
      have e3 : IntKind.wrap .i64 ((n : Int) - 1) = ((n - 1 : Nat) : Int) := by rw [wrap_id (by omega) (by omega)]; omega
      have e4 : IntKind.wrap .i64 (((bytesI f ++ bytesI (p.extract 0 n)).length : Int) - 1) = ((f.size + (n - 1) : Nat) : Int) := by
        rw [List.length_append, hl, hla, wrap_id (by omega) (by omega)]; omega
      rw [if_pos ht, if_pos ht, e3, e4, hl]
      simp only [Int.toNat_natCast]
      have g1 : (bytesI f ++ bytesI (p.extract 0 n)).getD (f.size + (n - 1)) 0 = (bytesI (p.extract 0 n)).getD (n - 1) 0 := by
        rw [List.getD_eq_getElem?_getD, List.getD_eq_getElem?_getD, List.getElem?_append_right (by omega), hla, show f.size + (n - 1) - f.size = n - 1 by omega]
      have g2 : ∀ v, (bytesI f ++ bytesI (p.extract 0 n)).set (f.size + (n - 1)) v = bytesI f ++ (bytesI (p.extract 0 n)).set (n - 1) v := fun v => by
        rw [List.set_append_right _ _ (by omega), hla, show f.size + (n - 1) - f.size = n - 1 by omega]
      rw [g1, g2, bytesB_app, bytesB_bytesI]
      have hnp : n - 1 < p.data.toList.length := by rw [size_toList]; omega
      have hgd : (bytesI (p.extract 0 n)).getD (n - 1) 0 = ((p.data.toList[n - 1]).toNat : Int) := by
        unfold bytesI
        rw [ext_list, List.drop_zero, Nat.sub_zero, List.getD_eq_getElem?_getD, List.getElem?_map, List.getElem?_take, if_pos (by omega), List.getElem?_eq_getElem hnp]; rfl
      have hb245 : p.data.toList[n - 1] ≠ 245 := by
        have h30 := hv.1
        have hsz : (f ++ p).size = f.size + p.size := ba_append_size f p
        refine opn_245 FU 0 (f ++ p) (by omega) (by unfold FU; omega) (by rw [hv.2.1]; omega) _ ?_
        rw [ba_append_list, List.mem_append]
        exact .inr (List.getElem_mem _)
      have hW : bytesB ((bytesI (p.extract 0 n)).set (n - 1) (IntKind.wrap .u8 (255 - (bytesI (p.extract 0 n)).getD (n - 1) 0))) = p.extract 0 (n - 1) ++ ByteArray.mk #[UInt8.ofNat (IntKind.wrap .u8 (255 - ((p.data.toList[n - 1]).toNat : Int))).toNat] := by
        apply ba_ext
        rw [bytesB_list, hgd, ba_append_list]
        have e5 : bytesI (p.extract 0 n) = bytesI (p.extract 0 (n - 1)) ++ [((p.data.toList[n - 1]).toNat : Int)] := by
          unfold bytesI
          rw [ext_list, ext_list, List.drop_zero, Nat.sub_zero, Nat.sub_zero]
          have : p.data.toList.take n = p.data.toList.take (n - 1) ++ [p.data.toList[n - 1]] := by
            have := List.take_append_getElem (l := p.data.toList) (i := n - 1) hnp
            rw [this, show n - 1 + 1 = n by omega]
          rw [this, List.map_append]; rfl
        have hl1 : (bytesI (p.extract 0 (n - 1))).length = n - 1 := by rw [bytesI_len, ext_size _ _ _ (by omega) (by omega)]; omega
        rw [e5, List.set_append_right _ _ (by omega), hl1, Nat.sub_self, List.map_append]
        have := bytesB_list (bytesI (p.extract 0 (n - 1)))
        rw [bytesB_bytesI] at this
        rw [← this]; rfl
      rw [hW]
      generalize hB : p.data.toList[n - 1] = B at hb245
      have hs1 : (p.extract 0 (n - 1)).size = n - 1 := by rw [ext_size _ _ _ (by omega) (by omega)]; omega
      have hWl : (p.extract 0 (n - 1) ++ ByteArray.mk #[UInt8.ofNat (IntKind.wrap .u8 (255 - (B.toNat : Int))).toNat]).size = n := by
        have : (ByteArray.mk #[UInt8.ofNat (IntKind.wrap .u8 (255 - (B.toNat : Int))).toNat]).size = 1 := rfl
        rw [ba_append_size, hs1, this]; omega
      rw [if_pos (by omega), if_pos (by omega), if_pos (by omega), if_pos (by omega), if_pos (by rw [List.length_append, hl, hla]; omega)]
      refine ⟨_, _, rfl, rfl, fun _ => ⟨hv, ⟨⟨p.extract 0 (n - 1), p.extract (n - 1) p.size, _, ?_, rfl, ?_⟩, ?_⟩⟩⟩
      · apply ba_ext
        rw [ba_append_list, ext_list, ext_list, List.drop_zero, Nat.sub_zero, List.take_of_length_le (l := p.data.toList.drop (n - 1)) (by rw [List.length_drop, size_toList]; omega), List.take_append_drop]
      · intro y hy
        have hy' : y = UInt8.ofNat (IntKind.wrap .u8 (255 - (B.toNat : Int))).toNat := by simpa using hy
        have hBlt := B.toNat_lt
        have ewr : IntKind.wrap .u8 (255 - (B.toNat : Int)) = 255 - (B.toNat : Int) := by
          have e1 : IntKind.u8.min = 0 := by decide
          have e2 : IntKind.u8.max = 255 := by decide
          unfold IntKind.wrap
          simp only [IntKind.bits, IntKind.signed]
          simp
          omega
        rw [hy', ewr]
        intro h10
        apply hb245
        have h11 := congrArg UInt8.toNat h10
        have h12 : (UInt8.ofNat (255 - (B.toNat : Int)).toNat).toNat = (255 - (B.toNat : Int)).toNat % 256 := by simp
        have h13 : (10 : UInt8).toNat = 10 := rfl
        rw [h12, h13] at h11
        apply UInt8.toNat_inj.1
        have h14 : (245 : UInt8).toNat = 245 := rfl
        rw [h14]; omega
      · rw [ba_append_size, hWl]; omega
    · rw [if_neg ht, if_neg ht]
      rw [bytesB_app, bytesB_bytesI, bytesB_bytesI, if_pos (by omega)]
      refine ⟨_, _, rfl, rfl, fun _ => ⟨hv, ⟨⟨p.extract 0 n, p.extract n p.size, ByteArray.empty, ?_, by rw [app_empty], by simp⟩, by omega⟩⟩⟩
      apply ba_ext
      rw [ba_append_list, ext_list, ext_list, List.drop_zero, Nat.sub_zero, List.take_of_length_le (l := p.data.toList.drop n) (by rw [List.length_drop, size_toList]; omega), List.take_append_drop]
end Go.GA
