/- Plain laws for chapter 10: copies, marks, pools. -/
import Derived.Test.YtkjiaieabelpmaaAG3
namespace Go.GA.E
open Go
set_option maxRecDepth 100000
set_option linter.unusedVariables false
set_option linter.unusedSimpArgs false
theorem wrap_i64 {n : Int} (h1 : -9223372036854775808 ≤ n) (h2 : n ≤ 9223372036854775807) : IntKind.wrap .i64 n = n := wrap_id h1 h2
theorem l2Die_eq {x : List Int} (h : x.length = 6) : p_spec_l2Die x = some (p_impl_IsDie x) := by
  obtain ⟨a, b, c, d, e, f, rfl⟩ := len6 h
  simp [p_spec_l2Die, p_impl_IsDie, p_impl_areAll_int, p_slices_ContainsFunc_int_int, p_slices_IndexFunc_int_int, p_slices_IsSorted_int_int, cnt, cntd, p_spec_l1In, p_impl_areAll_int_1, p_impl_isFace, p_impl_within, p_cmp_Less_int, p_cmp_isNaN_int]
  repeat' split
  all_goals first | omega | (simp; done) | (simp; omega)
theorem l1In_eq (x a b : Int) : p_spec_l1In x a b = decide (a ≤ x ∧ x ≤ b) := by simp [p_spec_l1In]
theorem within_eq (x a b : Int) : p_impl_within x a b = decide (a ≤ x ∧ x ≤ b) := by simp [p_impl_within]
theorem within_In (x a b : Int) : p_impl_within x a b = p_spec_l1In x a b := rfl
theorem noneFunc {α : Type} (b : α → Bool) (dflt : α) (x : List α) : (!decide (0 ≤ cnt (fun i (s : Unit) c _ => if b (x.getD i.toNat dflt) = true then i else c ()) (fun _ _ => (-1 : Int)) (Int.toNat ((x.length : Int) - 0)) 0 ())) = x.all (fun a => !b a) := by
  have := cnt_find b dflt x x.length 0 (by omega)
  simp only [Int.sub_zero, Int.toNat_natCast]
  simp only [Int.natCast_zero] at this
  rw [this, List.drop_zero, List.not_any_eq_all_not]
theorem areAll_eq (x : List Int) : p_impl_areAll_int x = x.all (fun a => p_impl_within a 0 30) := by
  unfold p_impl_areAll_int p_slices_ContainsFunc_int_int p_slices_IndexFunc_int_int
  rw [noneFunc]
  congr 1
  funext a
  simp [p_impl_areAll_int_1, p_impl_isFace]
theorem wrap_nat {n : Nat} (h : n ≤ 9223372036854775807) : IntKind.wrap .i64 (n : Int) = (n : Int) := wrap_i64 (by omega) (by omega)
theorem tdiv_nat (a b : Nat) : Int.tdiv (a : Int) (b : Int) = ((a / b : Nat) : Int) := rfl
def Six (p : List (List Int)) : Prop := ∀ d ∈ p, d.length = 6
theorem getD_six {p : List (List Int)} (h : Six p) {i : Nat} (hi : i < p.length) : (p.getD i (List.replicate 6 0)).length = 6 := by
  rw [List.getD_eq_getElem?_getD, List.getElem?_eq_getElem hi]
  exact h _ (List.getElem_mem _)
theorem pool_eq {x : List (List Int)} (h : Six x) : p_spec_l2Pool x = some (p_impl_IsPool x) := by
  have hall : p_impl_areAll_6_int x = x.all p_impl_IsDie := by
    unfold p_impl_areAll_6_int p_slices_ContainsFunc_6_int_6_int p_slices_IndexFunc_6_int_6_int
    rw [noneFunc p_impl_areAll_6_int_1]
    congr 1
    funext a
    simp [p_impl_areAll_6_int_1]
  unfold p_impl_IsPool
  rw [hall, within_In]
  unfold p_spec_l2Pool
  have key : ∀ (d i : Nat), d + i = x.length → cnt (fun i2 (s1 : Unit) c3 k16 => (if ((decide (i2 < (x.length : Int))) && (decide (i2 ≤ 4))) = true then (p_spec_l2Die (x.getD i2.toNat (List.replicate 6 0))).bind (fun r14 => (if r14 = true then c3 () else some false)) else k16 i2 s1)) (fun i2 (s1 : Unit) => some (p_spec_l1In (x.length : Int) 1 4)) d (i : Int) () = some (p_spec_l1In (x.length : Int) 1 4 && (x.drop i).all p_impl_IsDie) := by
    intro d
    induction d with
    | zero => intro i hh; rw [List.drop_eq_nil_of_le (by omega)]; simp [cnt]
    | succ d ih =>
      intro i hh
      have h1 : i < x.length := by omega
      simp only [cnt]
      rw [show (i : Int) + 1 = ((i + 1 : Nat) : Int) from rfl, ih (i + 1) (by omega), List.drop_eq_getElem_cons h1, List.all_cons]
      by_cases h12 : (i : Int) ≤ 4
      · have hc : (decide ((i : Int) < (x.length : Int)) && decide ((i : Int) ≤ 4)) = true := by simp; omega
        rw [if_pos hc, Int.toNat_natCast, l2Die_eq (getD_six h h1)]
        simp only [Option.bind_some, List.getD_eq_getElem?_getD, List.getElem?_eq_getElem h1, Option.getD_some]
        cases p_impl_IsDie x[i] <;> simp
      · have hc : ¬ (decide ((i : Int) < (x.length : Int)) && decide ((i : Int) ≤ 4)) = true := by simp; omega
        rw [if_neg hc]
        have : p_spec_l1In (x.length : Int) 1 4 = false := by rw [l1In_eq]; simp; omega
        simp [this]
  have := key x.length 0 (by omega)
  simp only [Int.sub_zero, Int.toNat_natCast]
  simpa using this
theorem pool_len {x : List (List Int)} (h : p_impl_IsPool x = true) : 1 ≤ x.length ∧ x.length ≤ 4 := by
  unfold p_impl_IsPool at h
  simp only [Bool.and_eq_true, within_eq, decide_eq_true_eq] at h
  omega
end Go.GA.E
