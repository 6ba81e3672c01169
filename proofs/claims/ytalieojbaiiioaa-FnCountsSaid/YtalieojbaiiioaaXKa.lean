/- Plain laws of what many laws use: copies, comparisons, marks, dice, numbers of a die. -/
import Derived.Test.YtalieojbaiiioaaXK3
namespace Go.GA.E
theorem wrap_i64 {n : Int} (h1 : -9223372036854775808 ≤ n) (h2 : n ≤ 9223372036854775807) : IntKind.wrap .i64 n = n := wrap_id h1 h2
theorem l2Die_eq {x : List Int} (h : x.length = 6) : p_spec_l2Die x = some (p_impl_IsDie x) := by
  obtain ⟨a, b, c, d, e, f, rfl⟩ := len6 h
  simp [p_spec_l2Die, p_impl_IsDie, p_impl_areAll_int, p_slices_ContainsFunc_int_int, p_slices_IndexFunc_int_int, p_slices_IsSorted_int_int, cnt, cntd, p_spec_l1In, p_impl_areAll_int_1, p_impl_isFace, p_impl_within, p_cmp_Less_int, p_cmp_isNaN_int]
  repeat' split
  all_goals first | omega | (simp; done) | (simp; omega)
theorem l1In_eq (x a b : Int) : p_spec_l1In x a b = decide (a ≤ x ∧ x ≤ b) := by simp [p_spec_l1In]
theorem within_eq (x a b : Int) : p_impl_within x a b = decide (a ≤ x ∧ x ≤ b) := by simp [p_impl_within]
theorem within_In (x a b : Int) : p_impl_within x a b = p_spec_l1In x a b := rfl
/-- all elements are as told -/
theorem noneFunc {α : Type} (b : α → Bool) (dflt : α) (x : List α) : (!decide (0 ≤ cnt (fun i (s : Unit) c _ => if b (x.getD i.toNat dflt) = true then i else c ()) (fun _ _ => (-1 : Int)) (Int.toNat ((x.length : Int) - 0)) 0 ())) = x.all (fun a => !b a) := by
  have := cnt_find b dflt x x.length 0 (by omega)
  simp only [Int.sub_zero, Int.toNat_natCast]
  simp only [Int.natCast_zero] at this
  rw [this, List.drop_zero, List.not_any_eq_all_not]
theorem areAll_eq (x : List Int) : p_impl_areAll_int x = x.all (fun a => p_impl_within a 0 30) := by
  unfold p_impl_areAll_int p_slices_ContainsFunc_int_int p_slices_IndexFunc_int_int
  rw [noneFunc]
  congr 1
  funext a
  simp [p_impl_areAll_int_1, p_impl_isFace]
theorem dd_mem (l : List Int) (v : Int) : v ∈ dd l ↔ v ∈ l := by
  induction l with
  | nil => simp [dd]
  | cons x l ih =>
    cases l with
    | nil => simp [dd]
    | cons y l =>
      rw [dd_cons2]
      split
      · rename_i h; subst h; rw [ih]; simp
      · rw [List.mem_cons, ih]; simp
end Go.GA.E
