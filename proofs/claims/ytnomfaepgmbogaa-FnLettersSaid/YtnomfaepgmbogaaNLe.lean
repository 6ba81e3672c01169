/- Plain law of FnLetters: how many lists are even. -/
import Derived.Test.YtnomfaepgmbogaaNLc
namespace Go.GA.E
open Go
set_option maxRecDepth 100000
theorem ei1 : p_impl_CountEven 10000000000000000 1 = some (0, true) := by decide +kernel
theorem ei2 : p_impl_CountEven 10000000000000000 2 = some (2, true) := by decide +kernel
theorem ei3 : p_impl_CountEven 10000000000000000 3 = some (0, true) := by decide +kernel
theorem ei4 : p_impl_CountEven 10000000000000000 4 = some (8, true) := by decide +kernel
theorem ei5 : p_impl_CountEven 10000000000000000 5 = some (0, true) := by decide +kernel
theorem ei6 : p_impl_CountEven 10000000000000000 6 = some (58, true) := by decide +kernel
theorem es1 : p_spec_CountEven 10000000000000000 1 = some (0, true) := by decide +kernel
theorem es2 : p_spec_CountEven 10000000000000000 2 = some (2, true) := by decide +kernel
theorem es3 : p_spec_CountEven 10000000000000000 3 = some (0, true) := by decide +kernel
theorem es4 : p_spec_CountEven 10000000000000000 4 = some (8, true) := by decide +kernel
theorem es5 : p_spec_CountEven 10000000000000000 5 = some (0, true) := by decide +kernel
theorem es6 : p_spec_CountEven 10000000000000000 6 = some (58, true) := by decide +kernel
theorem en0 : p_impl_CountEven 10000000000000000 0 = some (0, false) ∧ p_spec_CountEven 10000000000000000 0 = some (0, false) := by decide +kernel
theorem en7 : p_impl_CountEven 10000000000000000 7 = some (0, false) ∧ p_spec_CountEven 10000000000000000 7 = some (0, false) := by decide +kernel
theorem enm : p_impl_CountEven 10000000000000000 (-1) = some (0, false) ∧ p_spec_CountEven 10000000000000000 (-1) = some (0, false) := by decide +kernel
theorem even_ok {k : Int} (h : k ∈ [6, 2, 4, 1, 3, 5, 0, 7, (-1 : Int)]) : ∃ (v : Int) (b : Bool), p_impl_CountEven 10000000000000000 k = some (v, b) ∧ p_spec_CountEven 10000000000000000 k = some (v, b) ∧ (b && ((decide (((IntKind.wrap .i64 (k * k)).tmod 2) = 1)) != (decide (v = 0)))) = false := by
  simp only [List.mem_cons, List.not_mem_nil, or_false] at h
  rcases h with rfl | rfl | rfl | rfl | rfl | rfl | rfl | rfl | rfl
  · exact ⟨58, true, ei6, es6, by decide +kernel⟩
  · exact ⟨2, true, ei2, es2, by decide +kernel⟩
  · exact ⟨8, true, ei4, es4, by decide +kernel⟩
  · exact ⟨0, true, ei1, es1, by decide +kernel⟩
  · exact ⟨0, true, ei3, es3, by decide +kernel⟩
  · exact ⟨0, true, ei5, es5, by decide +kernel⟩
  · exact ⟨0, false, en0.1, en0.2, by decide +kernel⟩
  · exact ⟨0, false, en7.1, en7.2, by decide +kernel⟩
  · exact ⟨0, false, enm.1, enm.2, by decide +kernel⟩
end Go.GA.E
