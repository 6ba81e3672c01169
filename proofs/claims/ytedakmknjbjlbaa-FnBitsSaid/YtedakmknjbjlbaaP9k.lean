/- Plain law of FnBits: throws of bits, even coins. -/
import Derived.Test.YtedakmknjbjlbaaP9j
namespace Go.GA
open Go
set_option maxRecDepth 100000
def okB2 (l : List Int) : Bool := l.all p_impl_ThrowsOf_1
theorem areBits_eq (l : List Int) : p_impl_areAll_intv1 l = okB2 l := by
  unfold p_impl_areAll_intv1 p_slices_ContainsFunc_int_intv1 p_slices_IndexFunc_int_intv1
  rw [noneFunc p_impl_areAll_int_1v1]
  unfold okB2
  congr 1
  funext a
  simp [p_impl_areAll_int_1v1]
theorem l9B (l : List Int) : p_spec_l9Bits l = (okB2 l && decide ((l.length : Int) ≤ 40)) := by
  unfold p_spec_l9Bits
  by_cases h : (l.length : Int) ≤ 40
  · rw [decide_eq_true h, Bool.and_true]
    rw [cnt_congr_n (g := fun i2 (s1 : Unit) c3 _ => if (!p_impl_ThrowsOf_1 (l.getD i2.toNat 0)) = true then false else c3 ()) l.length (by omega) (fun i s c hi => by
      have hc : (decide ((i : Int) < (l.length : Int)) && decide ((i : Int) ≤ 40)) = true := by simp; omega
      show (if (decide ((i : Int) < (l.length : Int)) && decide ((i : Int) ≤ 40)) = true then _ else _) = _
      rw [if_pos hc]
      have e : p_spec_l1In (l.getD (i : Int).toNat 0) 0 1 = p_impl_ThrowsOf_1 (l.getD (i : Int).toNat 0) := rfl
      rw [e]
      cases p_impl_ThrowsOf_1 (l.getD (i : Int).toNat 0) <;> rfl)]
    rw [cnt_list (fun b s' c => if (!p_impl_ThrowsOf_1 b) = true then false else c s') l 0 (by omega) (fun i s' c h0 h1 => by cases s'; rfl)]
    rw [lrun_any (fun b => !p_impl_ThrowsOf_1 b)]
    unfold okB2
    rw [← List.not_all_eq_any_not]
    cases l.all p_impl_ThrowsOf_1 <;> simp [h]
  · rw [decide_eq_false h, Bool.and_false]
    refine cnt_ind0 (S := Unit) l.length (fun _ _ => True) (fun r => r = false) (by omega) trivial (fun _ _ => rfl) (fun i s c hi _ hc => ?_)
    split
    · split
      · exact hc _ trivial
      · rfl
    · rfl
theorem chunk_get (l : List Int) (i j : Nat) (hj : j < 3) : ((l.take (i + 3)).drop i).getD j 0 = l.getD (i + j) 0 := by
  rw [List.getD_eq_getElem?_getD, List.getElem?_drop, List.getElem?_take, if_pos (by omega), ← List.getD_eq_getElem?_getD]
theorem bit_at {l : List Int} (h : okB2 l = true) (j : Nat) : 0 ≤ l.getD j 0 ∧ l.getD j 0 ≤ 1 := by
  rw [List.getD_eq_getElem?_getD]
  cases hj : l[j]? with
  | none => simp
  | some v =>
    have := List.all_eq_true.1 h v (List.mem_of_getElem? hj)
    simpa [p_impl_ThrowsOf_1, p_impl_within] using this
def bodyTI (l : List Int) (kk : Int) : (Int × List Int) → ((Int × List Int) → Option (List Int × Int × Bool)) → Option (List Int × Int × Bool) := (fun (s8 : Int × (List Int)) c10 => (if s8.1 < (l.length : Int) then if 0 ≤ s8.1 then if s8.1 ≤ (IntKind.wrap .i64 (s8.1 + (if ((l.length : Int) - s8.1) < kk then ((l.length : Int) - s8.1) else kk))) then if (IntKind.wrap .i64 (s8.1 + (if ((l.length : Int) - s8.1) < kk then ((l.length : Int) - s8.1) else kk))) ≤ (l.length : Int) then (if ((IntKind.wrap .i64 (s8.1 + (if ((l.length : Int) - s8.1) < kk then ((l.length : Int) - s8.1) else kk))) - s8.1) < 3 then some (s8.2, ((IntKind.wrap .i64 (s8.1 + (if ((l.length : Int) - s8.1) < kk then ((l.length : Int) - s8.1) else kk))) - s8.1), true) else (if (p_impl_isSide (IntKind.wrap .i64 ((IntKind.wrap .i64 ((IntKind.wrap .i64 ((((l.take (IntKind.wrap .i64 (s8.1 + (if ((l.length : Int) - s8.1) < kk then ((l.length : Int) - s8.1) else kk))).toNat).drop s8.1.toNat).getD 0 0) * 4)) + (IntKind.wrap .i64 ((((l.take (IntKind.wrap .i64 (s8.1 + (if ((l.length : Int) - s8.1) < kk then ((l.length : Int) - s8.1) else kk))).toNat).drop s8.1.toNat).getD 1 0) * 2)))) + (((l.take (IntKind.wrap .i64 (s8.1 + (if ((l.length : Int) - s8.1) < kk then ((l.length : Int) - s8.1) else kk))).toNat).drop s8.1.toNat).getD 2 0)))) = true then if (s8.2.length : Int) + 1 ≤ 1000000000 then c10 ((IntKind.wrap .i64 (s8.1 + kk)), (s8.2 ++ [(IntKind.wrap .i64 ((IntKind.wrap .i64 ((IntKind.wrap .i64 ((((l.take (IntKind.wrap .i64 (s8.1 + (if ((l.length : Int) - s8.1) < kk then ((l.length : Int) - s8.1) else kk))).toNat).drop s8.1.toNat).getD 0 0) * 4)) + (IntKind.wrap .i64 ((((l.take (IntKind.wrap .i64 (s8.1 + (if ((l.length : Int) - s8.1) < kk then ((l.length : Int) - s8.1) else kk))).toNat).drop s8.1.toNat).getD 1 0) * 2)))) + (((l.take (IntKind.wrap .i64 (s8.1 + (if ((l.length : Int) - s8.1) < kk then ((l.length : Int) - s8.1) else kk))).toNat).drop s8.1.toNat).getD 2 0)))])) else none else c10 ((IntKind.wrap .i64 (s8.1 + kk)), s8.2))) else none else none else none else some (s8.2, 0, true)))
def bodyTS (l : List Int) : (Int × List Int) → ((Int × List Int) → Option (List Int × Int × Bool)) → Option (List Int × Int × Bool) := (fun (s2 : Int × (List Int)) c4 => (if (IntKind.wrap .i64 (s2.1 + 3)) ≤ (l.length : Int) then if s2.1 < (l.length : Int) then if (s2.1 + 1) < (l.length : Int) then if (s2.1 + 2) < (l.length : Int) then (if (IntKind.wrap .i64 ((IntKind.wrap .i64 ((IntKind.wrap .i64 (4 * (l.getD s2.1.toNat 0))) + (IntKind.wrap .i64 (2 * (l.getD (s2.1 + 1).toNat 0))))) + (l.getD (s2.1 + 2).toNat 0))) < 6 then if (s2.2.length : Int) + 1 ≤ 1000000000 then c4 ((s2.1 + 3), (s2.2 ++ [(IntKind.wrap .i64 ((IntKind.wrap .i64 ((IntKind.wrap .i64 (4 * (l.getD s2.1.toNat 0))) + (IntKind.wrap .i64 (2 * (l.getD (s2.1 + 1).toNat 0))))) + (l.getD (s2.1 + 2).toNat 0)))])) else none else c4 ((s2.1 + 3), s2.2)) else none else none else none else some (s2.2, (IntKind.wrap .i64 ((l.length : Int) - s2.1)), true)))
theorem throws_run {l : List Int} (hb : okB2 l = true) (hl : l.length ≤ 41) : ∀ (d i : Nat) (acc : List Int), i ≤ l.length → l.length - i < d → 3 * acc.length ≤ i →
    ∃ (r : List Int) (q : Int), whl (bodyTI l 3) d ((i : Int), acc) = some (r, q, true) ∧ whl (bodyTS l) d ((i : Int), acc) = some (r, q, true) ∧ 0 ≤ q ∧ q ≤ 2 ∧ 3 * r.length ≤ l.length
  | 0, i, _, _, h, _ => by omega
  | d + 1, i, acc, h1, h2, h3 => by
    have s1 : whl (bodyTI l 3) (d + 1) ((i : Int), acc) = bodyTI l 3 ((i : Int), acc) (whl (bodyTI l 3) d) := rfl
    have s2 : whl (bodyTS l) (d + 1) ((i : Int), acc) = bodyTS l ((i : Int), acc) (whl (bodyTS l) d) := rfl
    have ih := throws_run hb hl d
    rw [s1, s2]
    generalize whl (bodyTI l 3) d = W1 at ih
    generalize whl (bodyTS l) d = W2 at ih
    unfold bodyTI bodyTS
    simp only
    have e3 : IntKind.wrap .i64 ((i : Int) + 3) = (i : Int) + 3 := wr (by omega) (by omega)
    rw [e3]
    by_cases hf : i + 3 ≤ l.length
    · have hmin : (if ((l.length : Int) - (i : Int)) < 3 then ((l.length : Int) - (i : Int)) else 3) = 3 := if_neg (by omega)
      have t0 : ((i : Int)).toNat = i := by omega
      have t1 : ((i : Int) + 1).toNat = i + 1 := by omega
      have t2 : ((i : Int) + 2).toNat = i + 2 := by omega
      have t3 : ((i : Int) + 3).toNat = i + 3 := by omega
      rw [if_pos (show (i : Int) < (l.length : Int) by omega), if_pos (show (0 : Int) ≤ (i : Int) by omega), hmin, e3, t0, t1, t2, t3, if_pos (show (i : Int) ≤ (i : Int) + 3 by omega)]
      have hle : (i : Int) + 3 ≤ (l.length : Int) := by omega
      rw [if_pos hle, if_neg (show ¬ ((i : Int) + 3 - (i : Int)) < 3 by omega), chunk_get l i 0 (by omega), chunk_get l i 1 (by omega), chunk_get l i 2 (by omega), if_pos hle]
      rw [if_pos (show (i : Int) < (l.length : Int) by omega), if_pos (show (i : Int) + 1 < (l.length : Int) by omega), if_pos (show (i : Int) + 2 < (l.length : Int) by omega), Nat.add_zero]
      have b0 := bit_at hb i
      have b1 := bit_at hb (i + 1)
      have b2 := bit_at hb (i + 2)
      generalize l.getD i 0 = x at b0 ⊢
      generalize l.getD (i + 1) 0 = y at b1 ⊢
      generalize l.getD (i + 2) 0 = z at b2 ⊢
      rw [Int.mul_comm x 4, Int.mul_comm y 2]
      have w1 : IntKind.wrap .i64 (4 * x) = 4 * x := wr (by omega) (by omega)
      have w2 : IntKind.wrap .i64 (2 * y) = 2 * y := wr (by omega) (by omega)
      have w3 : IntKind.wrap .i64 (4 * x + 2 * y) = 4 * x + 2 * y := wr (by omega) (by omega)
      have w4 : IntKind.wrap .i64 (4 * x + 2 * y + z) = 4 * x + 2 * y + z := wr (by omega) (by omega)
      rw [w1, w2, w3, w4]
      have ec : ((i : Int) + 3) = ((i + 3 : Nat) : Int) := by omega
      have hs : p_impl_isSide (4 * x + 2 * y + z) = decide (4 * x + 2 * y + z < 6) := by
        unfold p_impl_isSide p_impl_within
        apply Bool.eq_iff_iff.2
        simp only [Bool.and_eq_true, decide_eq_true_eq]
        omega
      rw [hs]
      have hac : (acc.length : Int) + 1 ≤ 1000000000 := by omega
      by_cases hv : 4 * x + 2 * y + z < 6
      · rw [if_pos (decide_eq_true hv), if_pos hv, if_pos hac, if_pos hac, ec]
        exact ih (i + 3) (acc ++ [4 * x + 2 * y + z]) hf (by omega) (by simp; omega)
      · rw [if_neg (by simpa using hv), if_neg hv, ec]
        exact ih (i + 3) acc hf (by omega) (by omega)
    · have e4 : IntKind.wrap .i64 ((l.length : Int) - (i : Int)) = (l.length : Int) - (i : Int) := wr (by omega) (by omega)
      rw [if_neg (show ¬ (i : Int) + 3 ≤ (l.length : Int) by omega), e4]
      refine ⟨acc, (l.length : Int) - (i : Int), ?_, rfl, by omega, by omega, by omega⟩
      by_cases hi : (i : Int) < (l.length : Int)
      · have hmin : (if ((l.length : Int) - (i : Int)) < 3 then ((l.length : Int) - (i : Int)) else 3) = (l.length : Int) - (i : Int) := if_pos (by omega)
        have e2 : IntKind.wrap .i64 ((i : Int) + ((l.length : Int) - (i : Int))) = (l.length : Int) := by rw [wr (by omega) (by omega)]; omega
        rw [if_pos hi, if_pos (show (0 : Int) ≤ (i : Int) by omega), hmin, e2, if_pos (show (i : Int) ≤ (l.length : Int) by omega), if_pos (Int.le_refl _), if_pos (show (l.length : Int) - (i : Int) < 3 by omega)]
      · have : (l.length : Int) - (i : Int) = 0 := by omega
        rw [if_neg hi, this]
theorem throwsOf_eq {l : List Int} (hl : l.length ≤ 41) : ∃ (r : List Int) (q : Int) (ok : Bool), p_impl_ThrowsOf 64 l = some (r, q, ok) ∧ p_spec_ThrowsOf 64 l = some (r, q, ok) ∧ (ok = true → 0 ≤ q ∧ q ≤ 2 ∧ 3 * r.length ≤ l.length) := by
  have ei : p_impl_ThrowsOf 64 l = (if ((!(decide ((l.length : Int) ≤ 40))) || (!(okB2 l))) = true then some ([], 0, false) else (p_slices_Chunk_int_int l 3).bind (fun r7 => whl (bodyTI r7.1 r7.2) 64 (0, []))) := by
    unfold p_impl_ThrowsOf
    rw [areBits_eq]
    rfl
  have es : p_spec_ThrowsOf 64 l = (if (okB2 l && decide ((l.length : Int) ≤ 40)) = true then whl (bodyTS l) 64 (0, []) else some ([], 0, false)) := by
    unfold p_spec_ThrowsOf
    rw [l9B]
    rfl
  rw [ei, es]
  by_cases hc : (okB2 l && decide ((l.length : Int) ≤ 40)) = true
  · have ho : okB2 l = true := by simp only [Bool.and_eq_true] at hc; exact hc.1
    have hc2 : ¬ ((!decide ((l.length : Int) ≤ 40)) || !okB2 l) = true := by
      simp only [Bool.and_eq_true] at hc
      rw [hc.1, hc.2]; simp
    rw [if_neg hc2, if_pos hc]
    have hch : p_slices_Chunk_int_int l 3 = some (l, 3) := rfl
    rw [hch, Option.bind_some]
    obtain ⟨r, q, r1, r2, r3, r4, r5⟩ := throws_run ho hl 64 0 [] (by omega) (by omega) (by simp)
    exact ⟨r, q, true, r1, r2, fun _ => ⟨r3, r4, r5⟩⟩
  · have hc2 : ((!decide ((l.length : Int) ≤ 40)) || !okB2 l) = true := by
      revert hc
      cases okB2 l <;> cases decide ((l.length : Int) ≤ 40) <;> simp
    rw [if_pos hc2, if_neg hc]
    exact ⟨[], 0, false, rfl, rfl, fun h => by cases h⟩
end Go.GA
