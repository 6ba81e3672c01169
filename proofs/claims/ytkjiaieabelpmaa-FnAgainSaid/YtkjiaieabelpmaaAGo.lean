/- Plain law of FnAgain: draws. -/
import Derived.Test.YtkjiaieabelpmaaAGh
namespace Go.GA
open Go
set_option maxRecDepth 100000
theorem few_ok {x : List Int} (hx : Bytes x) {fu : Nat} (hf : 64 ≤ fu) {x1 x2 : Int} (h0 : 0 ≤ x1) (h1 : x1 ≤ 4611686018427200000) : ∃ p a s, p_spec_l1Cur_few fu x x1 x2 = some (p, a, s) ∧ E.Six p ∧ 0 ≤ a ∧ a ≤ x1 + 600 := by
  unfold p_spec_l1Cur_few
  obtain ⟨p, a, s, e, hl, h6, b1, b2⟩ := pool_ok hx hf (x1 := x1) (x2 := x2) h0 h1
  rw [e, Option.bind_some]
  simp only
  split
  · obtain ⟨b, a2, s2, e2, b3, b4⟩ := oneD_ok hx (n := 8) (at_ := a) (s := s) (by omega) (by omega) (by omega)
    rw [e2, Option.bind_some]
    simp only
    split
    · exact ⟨_, _, _, rfl, h6, by omega, by omega⟩
    · exact ⟨_, _, _, rfl, fun d hd => h6 d (List.mem_of_mem_take hd), by omega, by omega⟩
  · exact ⟨_, _, _, rfl, h6, by omega, by omega⟩
end Go.GA
