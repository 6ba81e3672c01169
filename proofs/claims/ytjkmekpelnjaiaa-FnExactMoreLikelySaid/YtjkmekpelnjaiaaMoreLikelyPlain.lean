/- Walks: what the Go functions compute, by the printed lines below. -/
import Derived.Test.YtjkmekpelnjaiaaGp1
import Derived.Test.YtjkmekpelnjaiaaMoreLikelyWalks
namespace Go.GA
open Go Go.Proofs
theorem toIntA6_eq {x : List Int} (h : x.length = 6) : p_laws_toIntA6 x = x := by
  unfold p_laws_toIntA6
  exact cnt_copy x 0 (k := fun _ s => s) (by simp [h]) (by simp [h])
theorem toIntS_eq {x : List Int} (h : x.length ≤ 1000000000) : p_laws_toIntS x = some x := by
  unfold p_laws_toIntS
  rw [if_pos (by omega)]
  exact cnt_copy x 0 (k := fun _ s => some s) (by simp) (by simp)
theorem eqIntS_eq (x y : List Int) : p_laws_eqIntS x y = decide (x = y) := by
  unfold p_laws_eqIntS
  by_cases hl : x.length = y.length
  · rw [if_pos (by omega)]
    have := cnt_eq (0 : Int) true false x.length 0 x y hl (by omega)
    simp only [Int.sub_zero, Int.toNat_natCast]
    simp only [Int.natCast_zero] at this
    rw [this]
    simp
  · rw [if_neg (by omega)]
    have : x ≠ y := fun h => hl (by rw [h])
    simp [this]
theorem l1In_eq (x a b : Int) : p_spec_l1In x a b = decide (a ≤ x ∧ x ≤ b) := by simp [p_spec_l1In]
theorem within_eq (x a b : Int) : p_impl_within x a b = decide (a ≤ x ∧ x ≤ b) := by simp [p_impl_within]
theorem areAll_eq (x : List Int) : p_impl_areAll_int x = x.all (fun a => p_impl_within a 0 30) := by
  unfold p_impl_areAll_int p_slices_ContainsFunc_int_int p_slices_IndexFunc_int_int
  have := cnt_find p_impl_areAll_int_1 0 x x.length 0 (by omega)
  simp only [Int.sub_zero, Int.toNat_natCast]
  simp only [Int.natCast_zero] at this
  rw [this, List.drop_zero]
  rw [List.not_any_eq_all_not]
  congr 1
  funext a
  simp [p_impl_areAll_int_1, p_impl_isFace]
theorem l2Die_eq {x : List Int} (h : x.length = 6) : p_spec_l2Die x = some (p_impl_IsDie x) := by
  obtain ⟨a, b, c, d, e, f, rfl⟩ := len6 h
  simp [p_spec_l2Die, p_impl_IsDie, p_impl_areAll_int, p_slices_ContainsFunc_int_int, p_slices_IndexFunc_int_int, p_slices_IsSorted_int_int, cnt, cntd, p_spec_l1In, p_impl_areAll_int_1, p_impl_isFace, p_impl_within, p_cmp_Less_int, p_cmp_isNaN_int]
  repeat' split
  all_goals first | omega | (simp; done) | (simp; omega)
theorem l11Rolls_eq (x : List Int) : p_spec_l11Rolls x = p_impl_areSeen x := by
  unfold p_impl_areSeen
  rw [areAll_eq]
  unfold p_spec_l11Rolls
  have key : ∀ (d i : Nat), d + i = x.length → cnt (fun i2 (s1 : Unit) c3 k15 => (if ((decide (i2 < (x.length : Int))) && (decide (i2 ≤ 12))) = true then (if (p_spec_l1In (x.getD i2.toNat 0) 0 30) = true then c3 () else false) else k15 i2 s1)) (fun i2 (s1 : Unit) => (decide ((x.length : Int) ≤ 12))) d (i : Int) () = (decide ((x.length : Int) ≤ 12) && (x.drop i).all (fun a => p_impl_within a 0 30)) := by
    intro d
    induction d with
    | zero => intro i h; rw [List.drop_eq_nil_of_le (by omega)]; simp [cnt]
    | succ d ih =>
      intro i h
      have h1 : i < x.length := by omega
      simp only [cnt]
      rw [show (i : Int) + 1 = ((i + 1 : Nat) : Int) from rfl, ih (i + 1) (by omega), List.drop_eq_getElem_cons h1, List.all_cons]
      simp only [Int.toNat_natCast, List.getD_eq_getElem?_getD, List.getElem?_eq_getElem h1, Option.getD_some]
      have e : p_spec_l1In x[i] 0 30 = p_impl_within x[i] 0 30 := rfl
      rw [e]
      by_cases h12 : (i : Int) ≤ 12
      · have hc : (decide ((i : Int) < (x.length : Int)) && decide ((i : Int) ≤ 12)) = true := by simp; omega
        rw [if_pos hc]
        cases p_impl_within x[i] 0 30 <;> simp
      · have hc : ¬ (decide ((i : Int) < (x.length : Int)) && decide ((i : Int) ≤ 12)) = true := by simp; omega
        rw [if_neg hc]
        have : ¬ (x.length : Int) ≤ 12 := by omega
        simp [this]
  have := key x.length 0 (by omega)
  simp only [Int.sub_zero, Int.toNat_natCast]
  simpa using this
theorem weight_eq {x : List Int} (h : x.length = 6) (y : Int) : p_spec_l8Weight x y = p_impl_weight x y := by
  obtain ⟨a, b, c, d, e, f, rfl⟩ := len6 h
  simp only [p_spec_l8Weight, p_impl_weight, p_impl_truth]
  have h6 : Int.toNat (6 - 0) = 6 := rfl
  rw [h6]
  simp only [cnt]
  have e0 : ([a, b, c, d, e, f].getD (Int.toNat 0) 0) = a := rfl
  have e1 : ([a, b, c, d, e, f].getD (Int.toNat (0 + 1)) 0) = b := rfl
  have e2 : ([a, b, c, d, e, f].getD (Int.toNat (0 + 1 + 1)) 0) = c := rfl
  have e3 : ([a, b, c, d, e, f].getD (Int.toNat (0 + 1 + 1 + 1)) 0) = d := rfl
  have e4 : ([a, b, c, d, e, f].getD (Int.toNat (0 + 1 + 1 + 1 + 1)) 0) = e := rfl
  have e5 : ([a, b, c, d, e, f].getD (Int.toNat (0 + 1 + 1 + 1 + 1 + 1)) 0) = f := rfl
  simp only [e0, e1, e2, e3, e4, e5]
  by_cases h0 : a = y <;> by_cases h1 : b = y <;> by_cases h2 : c = y <;> by_cases h3 : d = y <;> by_cases h4 : e = y <;> by_cases h5 : f = y <;> simp only [h0, h1, h2, h3, h4, h5, if_true, if_false, decide_true, decide_false] <;> rfl
theorem likely_eq {x : List Int} (h : x.length = 6) (y : List Int) : p_spec_l11Likely x y = p_impl_faces x y := by
  unfold p_spec_l11Likely p_impl_faces
  refine cnt_congr (fun i s c => ?_) _ _ _
  rw [weight_eq h]
theorem pure_FnExactMoreLikely {a b c : List Int} (ha : a.length = 6) (hb : b.length = 6) : p_laws_FnExactMoreLikely a b c = some true := by
  unfold p_laws_FnExactMoreLikely
  by_cases hc : 1048576 < (c.length : Int)
  · rw [if_pos hc]
  · rw [if_neg hc, toIntS_eq (by omega), toIntA6_eq ha, toIntA6_eq hb]
    have key : p_spec_MoreLikely a b c = some (p_impl_MoreLikely a b c) := by
      unfold p_spec_MoreLikely p_impl_MoreLikely
      rw [l2Die_eq ha, l2Die_eq hb, l11Rolls_eq, likely_eq ha, likely_eq hb]
      generalize p_impl_faces a c = u
      generalize p_impl_faces b c = v
      simp only [p_cmp_Compare_int, p_cmp_isNaN_int]
      cases p_impl_IsDie a <;> cases p_impl_IsDie b <;> cases p_impl_areSeen c <;> simp
      repeat' split
      all_goals first | rfl | omega
    simp [key, eqIntS_eq]
end Go.GA
