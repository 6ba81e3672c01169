/- Plain law of CrashLog. -/
import Derived.Test.YtiimmhnekpmnlaaDoorLKf
namespace Go.GA
open Go
set_option maxRecDepth 100000
theorem ba_ext2 {a b : ByteArray} (h : a.data.toList = b.data.toList) : a = b := by
  cases a; cases b
  simp only at h
  congr 1
  exact Array.toList_inj.1 h
theorem bytesB_list (xs : List Int) : (bytesB xs).data.toList = xs.map (fun n => UInt8.ofNat n.toNat) := by
  have key : ∀ (xs : List Int) (r : ByteArray), (xs.foldl (fun r n => r.push (UInt8.ofNat n.toNat)) r).data.toList = r.data.toList ++ xs.map (fun n => UInt8.ofNat n.toNat) := by
    intro xs
    induction xs with
    | nil => intro r; simp
    | cons a xs ih =>
      intro r
      rw [List.foldl_cons, ih]
      simp [ByteArray.push]
  have := key xs ByteArray.empty
  unfold bytesB
  rw [this]; rfl
theorem bytesB_app (xs ys : List Int) : bytesB (xs ++ ys) = bytesB xs ++ bytesB ys := by
  apply ba_ext2
  rw [ByteArray.data_append, Array.toList_append, bytesB_list, bytesB_list, bytesB_list, List.map_append]
theorem bytesB_bytesI (s : ByteArray) : bytesB (bytesI s) = s := by
  apply ba_ext2
  rw [bytesB_list, bytesI, List.map_map]
  conv => rhs; rw [← List.map_id s.data.toList]
  refine List.map_congr_left (fun b _ => ?_)
  simp
theorem bytesI_app (a b : ByteArray) : bytesI (a ++ b) = bytesI a ++ bytesI b := by
  unfold bytesI
  rw [ByteArray.data_append, Array.toList_append, List.map_append]
theorem crash_eq {x : ByteArray × (ByteArray × (Int × Unit))} {k : Int} {t : Bool} (b1 : x.1.size ≤ 1048576) (b2 : x.2.1.size ≤ 1048576) : ∃ s q, p_spec_CrashLog FU x k t = some (s, q) ∧ p_impl_CrashLog FU x k t = some (s, q) := by
  obtain ⟨q, e1, e2, _⟩ := valid_eq (f := x.1) (p := x.2.1) (c := x.2.2.1) b1 b2
  unfold p_spec_CrashLog p_impl_CrashLog
  rw [e1, e2, Option.bind_some, Option.bind_some]
  have hw : p_impl_within k 0 (x.2.1.size : Int) = p_spec_l1In k 0 (x.2.1.size : Int) := rfl
  rw [hw]
  have hi : p_spec_l1In k 0 (x.2.1.size : Int) = decide (0 ≤ k ∧ k ≤ (x.2.1.size : Int)) := by simp [p_spec_l1In]
  rw [hi]
  by_cases hc : ((!q) || (!decide (0 ≤ k ∧ k ≤ (x.2.1.size : Int)))) = true
  · rw [if_pos hc, if_pos hc]
    exact ⟨_, _, rfl, rfl⟩
  · rw [if_neg hc, if_neg hc]
    have hk : 0 ≤ k ∧ k ≤ (x.2.1.size : Int) := by
      by_cases h : 0 ≤ k ∧ k ≤ (x.2.1.size : Int)
      · exact h
      · exfalso; apply hc; rw [decide_eq_false h]; simp
    obtain ⟨n, rfl⟩ : ∃ n : Nat, k = (n : Int) := ⟨k.toNat, by omega⟩
    simp only [Int.toNat_natCast]
    have hs : (x.2.1.extract 0 n).size = n := by rw [ByteArray.size_extract]; omega
    have hsa : (x.1 ++ x.2.1.extract 0 n).size = x.1.size + n := by rw [ByteArray.size_append, hs]
    rw [if_pos hk.1, if_pos hk.2, if_pos (by omega), if_pos hk.1, if_pos hk.2, if_pos (by omega), if_pos (by omega)]
    have hl : (bytesI (x.2.1.extract 0 n)).length = n := by rw [bytesI_len, hs]
    have hla : (bytesI x.1).length = x.1.size := bytesI_len _
    unfold jn
    dsimp only
    rw [bytesI_app]
    by_cases ht : (t && decide (0 < (n : Int))) = true
    · have hn : 0 < n := by
        simp only [Bool.and_eq_true, decide_eq_true_eq] at ht; omega
      have e3 : IntKind.wrap .i64 ((n : Int) - 1) = ((n - 1 : Nat) : Int) := by rw [wrap_id (by omega) (by omega)]; omega
      have e4 : IntKind.wrap .i64 (((bytesI x.1 ++ bytesI (x.2.1.extract 0 n)).length : Int) - 1) = ((x.1.size + (n - 1) : Nat) : Int) := by
        rw [List.length_append, hl, hla, wrap_id (by omega) (by omega)]; omega
      rw [if_pos ht, if_pos ht, e3, e4, hl]
      simp only [Int.toNat_natCast]
      have g1 : (bytesI x.1 ++ bytesI (x.2.1.extract 0 n)).getD (x.1.size + (n - 1)) 0 = (bytesI (x.2.1.extract 0 n)).getD (n - 1) 0 := by
        rw [List.getD_eq_getElem?_getD, List.getD_eq_getElem?_getD, List.getElem?_append_right (by omega), hla, show x.1.size + (n - 1) - x.1.size = n - 1 by omega]
      have g2 : ∀ v, (bytesI x.1 ++ bytesI (x.2.1.extract 0 n)).set (x.1.size + (n - 1)) v = bytesI x.1 ++ (bytesI (x.2.1.extract 0 n)).set (n - 1) v := fun v => by
        rw [List.set_append_right _ _ (by omega), hla, show x.1.size + (n - 1) - x.1.size = n - 1 by omega]
      rw [g1, g2, bytesB_app, bytesB_bytesI]
      generalize hW : (bytesI (x.2.1.extract 0 n)).set (n - 1) (IntKind.wrap .u8 (255 - (bytesI (x.2.1.extract 0 n)).getD (n - 1) 0)) = W
      have hWl : (bytesB W).size = n := by
        have h1 : (bytesB W).size = (bytesB W).data.toList.length := by rw [Array.length_toList]; rfl
        rw [h1, bytesB_list, List.length_map, ← hW, List.length_set, hl]
      rw [if_pos (by omega), if_pos (by omega), if_pos (by omega), if_pos (by omega), if_pos (by rw [List.length_append, hl, hla]; omega)]
      exact ⟨_, _, rfl, rfl⟩
    · rw [if_neg ht, if_neg ht]
      rw [bytesB_app, bytesB_bytesI, bytesB_bytesI, if_pos (by omega)]
      exact ⟨_, _, rfl, rfl⟩
theorem eqS_self (s : ByteArray) : eqS s s = true := eqS_iff.2 rfl
theorem pure_CrashLog {x : ByteArray × (ByteArray × (Int × Unit))} (k : Int) (t : Bool) (o : OkT LogT x) : p_laws_FnExactCrashLog FU x k t = some true := by
  have o1 : x.1.size ≤ 9223372036854775807 := o.1
  have o2 : x.2.1.size ≤ 9223372036854775807 := o.2.1
  unfold p_laws_FnExactCrashLog
  show (if p_laws_szLog x 1048576 < 0 then some true else (p_spec_CrashLog FU x k t).bind (fun r4 => (p_impl_CrashLog FU x k t).bind _)) = some true
  by_cases hs : p_laws_szLog x 1048576 < 0
  · rw [if_pos hs]
  · rw [if_neg hs]
    obtain ⟨b1, b2, _⟩ := szLog_ok o1 o2 hs
    obtain ⟨s, q, e1, e2⟩ := crash_eq (k := k) (t := t) b1 b2
    rw [e1, e2]
    simp [eqS_self]
end Go.GA
