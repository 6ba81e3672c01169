/- Plain law of FnKept: pools, both ways. -/
import Derived.Test.YtddljmnmkiofmaaVK3
namespace Go.GA
open Go
set_option maxRecDepth 100000
theorem l2Die_eq {x : List Int} (h : x.length = 6) : p_spec_l2Die x = some (p_impl_IsDie x) := by
  obtain ⟨a, b, c, d, e, f, rfl⟩ := len6 h
  simp [p_spec_l2Die, p_impl_IsDie, p_impl_areAll_int, p_slices_ContainsFunc_int_int, p_slices_IndexFunc_int_int, p_slices_IsSorted_int_int, cnt, cntd, p_spec_l1In, p_impl_areAll_int_1, p_impl_isFace, p_impl_within, p_cmp_Less_int, p_cmp_isNaN_int]
  repeat' split
  all_goals first | omega | (simp; done) | (simp; omega)
theorem pl1In_eq (x a b : Int) : p_spec_l1In x a b = decide (a ≤ x ∧ x ≤ b) := by simp [p_spec_l1In]
theorem pwithin_eq (x a b : Int) : p_impl_within x a b = decide (a ≤ x ∧ x ≤ b) := by simp [p_impl_within]
theorem pwithin_In (x a b : Int) : p_impl_within x a b = p_spec_l1In x a b := rfl
def Six (p : List (List Int)) : Prop := ∀ d ∈ p, d.length = 6
theorem getD_six {p : List (List Int)} (h : Six p) {i : Nat} (hi : i < p.length) : (p.getD i (List.replicate 6 0)).length = 6 := by
  rw [List.getD_eq_getElem?_getD, List.getElem?_eq_getElem hi]
  exact h _ (List.getElem_mem _)
theorem dies_all {x : List (List Int)} : p_impl_areAll_6_int x = x.all p_impl_IsDie := by
  unfold p_impl_areAll_6_int p_slices_ContainsFunc_6_int_6_int p_slices_IndexFunc_6_int_6_int
  rw [noneFunc p_impl_areAll_6_int_1]
  congr 1
  funext a
  simp [p_impl_areAll_6_int_1]
theorem faces_all (x : List Int) : p_impl_areAll_int x = x.all (fun a => p_impl_within a 0 30) := by
  unfold p_impl_areAll_int p_slices_ContainsFunc_int_int p_slices_IndexFunc_int_int
  rw [noneFunc]
  congr 1
  funext a
  simp [p_impl_areAll_int_1, p_impl_isFace]
theorem pool_eq {x : List (List Int)} (h : Six x) : p_spec_l2Pool x = some (p_impl_IsPool x) := by
  have hall := @dies_all x
  unfold p_impl_IsPool
  rw [hall, pwithin_In]
  unfold p_spec_l2Pool
  have key : ∀ (d i : Nat), d + i = x.length → cnt (fun i2 (s1 : Unit) c3 k16 => (if ((decide (i2 < (x.length : Int))) && (decide (i2 ≤ 4))) = true then (p_spec_l2Die (x.getD i2.toNat (List.replicate 6 0))).bind (fun r14 => (if r14 = true then c3 () else some false)) else k16 i2 s1)) (fun i2 (s1 : Unit) => some (p_spec_l1In (x.length : Int) 1 4)) d (i : Int) () = some (p_spec_l1In (x.length : Int) 1 4 && (x.drop i).all p_impl_IsDie) := by
    intro d
    induction d with
    | zero => intro i hh; rw [List.drop_eq_nil_of_le (by omega)]; simp [cnt]
    | succ d ih =>
      intro i hh
      have h1 : i < x.length := by omega
      simp only [cnt]
      rw [show (i : Int) + 1 = ((i + 1 : Nat) : Int) from rfl, ih (i + 1) (by omega), List.drop_eq_getElem_cons h1, List.all_cons]
      by_cases h12 : (i : Int) ≤ 4
      · have hc : (decide ((i : Int) < (x.length : Int)) && decide ((i : Int) ≤ 4)) = true := by simp; omega
        rw [if_pos hc, Int.toNat_natCast, l2Die_eq (getD_six h h1)]
        simp only [Option.bind_some, List.getD_eq_getElem?_getD, List.getElem?_eq_getElem h1, Option.getD_some]
        cases p_impl_IsDie x[i] <;> simp
      · have hc : ¬ (decide ((i : Int) < (x.length : Int)) && decide ((i : Int) ≤ 4)) = true := by simp; omega
        rw [if_neg hc]
        have : p_spec_l1In (x.length : Int) 1 4 = false := by rw [pl1In_eq]; simp; omega
        simp [this]
  have := key x.length 0 (by omega)
  simp only [Int.sub_zero, Int.toNat_natCast]
  simpa using this
theorem pool_good {x : List (List Int)} (h : Six x) (hp : p_impl_IsPool x = true) : 1 ≤ x.length ∧ x.length ≤ 4 ∧ ∀ d ∈ x, Die d := by
  unfold p_impl_IsPool at hp
  simp only [Bool.and_eq_true, pwithin_eq, decide_eq_true_eq, dies_all] at hp
  obtain ⟨h1, h2⟩ := hp
  refine ⟨by omega, by omega, fun d hd => ⟨h d hd, fun f hf => ?_⟩⟩
  have hi := List.all_eq_true.1 h2 d hd
  unfold p_impl_IsDie at hi
  simp only [Bool.and_eq_true, faces_all, List.all_eq_true, pwithin_eq, decide_eq_true_eq] at hi
  exact hi.1 f hf
end Go.GA
