/- Plain law of FnBursts: what other laws use too. -/
import Derived.Test.YtddljmnmkiofmaaWKb
namespace Go.GA.E
open Go
set_option maxRecDepth 100000
theorem weight_count {x : List Int} (h : x.length = 6) (v : Int) : p_impl_weight x v = ((x.count v : Nat) : Int) := by
  unfold p_impl_weight
  rw [cnt_list (fun a s c => c (IntKind.wrap .i64 (s + p_impl_truth (decide (a = v))))) x 0 (by omega) (fun i s c h0 h1 => rfl), lrun_fold (fun a s => IntKind.wrap .i64 (s + p_impl_truth (decide (a = v))))]
  have key : ∀ (l : List Int) (m : Nat), m + l.length ≤ 1000 → l.foldl (fun s a => IntKind.wrap .i64 (s + p_impl_truth (decide (a = v)))) (m : Int) = ((m + l.count v : Nat) : Int) := by
    intro l
    induction l with
    | nil => intro m _; simp
    | cons a l ih =>
      intro m hm
      simp only [List.length_cons] at hm
      rw [List.foldl_cons]
      by_cases e : a = v
      · have : IntKind.wrap .i64 ((m : Int) + p_impl_truth (decide (a = v))) = ((m + 1 : Nat) : Int) := by
          rw [decide_eq_true e]; simp only [p_impl_truth, if_true]; exact wrap_i64 (by omega) (by omega)
        rw [this, ih (m + 1) (by omega), e, List.count_cons_self]; congr 1; omega
      · have : IntKind.wrap .i64 ((m : Int) + p_impl_truth (decide (a = v))) = ((m : Nat) : Int) := by
          rw [decide_eq_false e]; simp only [p_impl_truth, Bool.false_eq_true, if_false, Int.add_zero]; exact wrap_nat (by omega)
        rw [this, ih m (by omega), List.count_cons_of_ne e]
  have := key x 0 (by omega)
  simpa using this
section
variable {x y : List Int}
end
end Go.GA.E
