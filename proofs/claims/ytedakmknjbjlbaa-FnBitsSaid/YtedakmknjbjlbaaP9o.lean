/- Plain law of FnBits: remainders of sums, both ways. -/
import Derived.Test.YtedakmknjbjlbaaP9m
namespace Go.GA
open Go
set_option maxRecDepth 100000
def ModR (T : List Int) (n : Int) (r : Option (List Int)) : Prop := ∃ s, r = some s ∧ s.length = n.toNat ∧ s.sum = T.sum ∧ NN s
theorem nn_drop {T : List Int} (h : NN T) (i : Nat) : NN (T.drop i) := fun j => by
  have := h (i + j)
  simpa [List.getD_eq_getElem?_getD] using this
theorem nn_zero (n : Nat) : NN (List.replicate n 0) := fun j => by
  simp [List.getD_eq_getElem?_getD, List.getElem?_replicate]
  split <;> simp
theorem mod_run {T : List Int} {n : Int} (hT : NN T) (hl : T.length = 121) (hs : T.sum ≤ 1000000) (h1 : 1 ≤ n) : ModR T n (cnt (fun i5 (s4 : (List Int)) c6 _ => if n ≠ 0 then if 0 ≤ (i5.tmod n) then if (i5.tmod n) < n then c6 (s4.set (i5.tmod n).toNat (IntKind.wrap .i64 ((s4.getD (i5.tmod n).toNat 0) + (T.getD i5.toNat 0)))) else none else none else none) (fun i5 (s4 : (List Int)) => some s4) (Int.toNat (121 - 0)) 0 (List.replicate n.toNat 0)) := by
  refine cnt_ind0 (S := List Int) 121 (fun i s => s.length = n.toNat ∧ NN s ∧ s.sum + (T.drop i).sum = T.sum) (ModR T n) rfl ⟨by simp, nn_zero _, by simp⟩ (fun s hs => ⟨s, rfl, hs.1, ?_, hs.2.1⟩) (fun i s c hi hs2 hc => ?_)
  · have := hs.2.2
    rw [List.drop_eq_nil_of_le (by omega)] at this
    simpa using this
  · obtain ⟨a1, a2, a3⟩ := hs2
    have e : (i : Int).tmod n = (i : Int) % n := Int.tmod_eq_emod_of_nonneg (by omega)
    have e0 := Int.emod_nonneg (i : Int) (by omega : n ≠ 0)
    have e1 := Int.emod_lt_of_pos (i : Int) (by omega : 0 < n)
    rw [e, if_pos (by omega : n ≠ 0), if_pos e0, if_pos e1]
    generalize hj : ((i : Int) % n).toNat = j
    have hjl : j < s.length := by omega
    rw [Int.toNat_natCast]
    have g1 : 0 ≤ s.getD j 0 := a2 j
    have g2 : s.getD j 0 ≤ s.sum := getD_le_sum a2 j
    have g3 : 0 ≤ T.getD i 0 := hT i
    have g4 : T.getD i 0 ≤ T.sum := getD_le_sum hT i
    have g5 : 0 ≤ (T.drop i).sum := sum_nn (nn_drop hT i)
    have hd : (T.drop i).sum = T.getD i 0 + (T.drop (i + 1)).sum := by
      have hi' : i < T.length := by omega
      rw [List.drop_eq_getElem_cons hi', List.sum_cons, List.getD_eq_getElem?_getD, List.getElem?_eq_getElem hi']
      rfl
    rw [wr (by omega) (by omega)]
    refine hc _ ⟨?_, ?_, ?_⟩
    · simp [a1]
    · exact addAt_nn a2 g3 hjl
    · have := addAt_sum (v := T.getD i 0) hjl
      unfold addAt at this
      omega
theorem mod_eq {x : List (List Int)} {n : Int} (hl : x.length ≤ 4) (hx : ∀ d ∈ x, Die d) (h1 : 1 ≤ n) (h2 : n ≤ 40) : ∃ s, p_impl_remainders x n = some s ∧ p_spec_l9Mod x n = some s ∧ s.length = n.toNat ∧ s.sum = ((6 ^ x.length : Nat) : Int) ∧ NN s := by
  obtain ⟨T, t1, t2, t3⟩ := table_eq hl hx
  obtain ⟨u1, u2, u3, u4⟩ := t3
  have hp : 6 ^ x.length ≤ 1000000 := by
    rcases (by omega : x.length = 0 ∨ x.length = 1 ∨ x.length = 2 ∨ x.length = 3 ∨ x.length = 4) with h | h | h | h | h <;> rw [h] <;> decide
  obtain ⟨s, m1, m2, m3, m4⟩ := mod_run (T := T) (n := n) u2 u1 (by rw [u3]; exact Int.ofNat_le.2 hp) h1
  refine ⟨s, ?_, ?_, m2, m3.trans u3, m4⟩
  · unfold p_impl_remainders
    rw [if_pos (by omega), if_pos (by omega), t1, Option.bind_some]
    exact m1
  · unfold p_spec_l9Mod
    rw [if_pos (by omega), if_pos (by omega), t2, Option.bind_some]
    rw [← m1]
    refine cnt_congr_n 121 rfl (fun i s c _ => ?_)
    rw [if_pos (by omega : n ≠ 0)]
end Go.GA
