/- Plain law of FnAgain: draws, throws, bits. -/
import Derived.Test.YtkjiaieabelpmaaGpA
import Derived.Test.YtkjiaieabelpmaaC6ad
namespace Go.GA
open Go
set_option maxRecDepth 100000
/-! ### Draws -/
theorem and255 (a : Int) : 0 ≤ andI .u64 a 255 ∧ andI .u64 a 255 ≤ 255 := by
  unfold andI
  have h : (BitVec.ofInt IntKind.u64.bits a &&& BitVec.ofInt IntKind.u64.bits 255).toNat ≤ 255 := by
    rw [BitVec.toNat_and]
    exact Nat.and_le_right
  generalize (BitVec.ofInt IntKind.u64.bits a &&& BitVec.ofInt IntKind.u64.bits 255).toNat = x at h
  have e : IntKind.wrap .u64 (x : Int) = (x : Int) := by
    unfold IntKind.wrap
    simp only [IntKind.bits, IntKind.signed]
    simp
    omega
  rw [e]
  omega
def Bytes (x : List Int) : Prop := ∀ b ∈ x, 0 ≤ b ∧ b ≤ 255
theorem getD_bytes {x : List Int} (h : Bytes x) (i : Nat) : 0 ≤ x.getD i 0 ∧ x.getD i 0 ≤ 255 := by
  rw [List.getD_eq_getElem?_getD]
  cases hi : x[i]? with
  | none => simp
  | some b => exact h b (List.mem_of_getElem? hi)
theorem wr {n : Int} (h1 : -9223372036854775808 ≤ n) (h2 : n ≤ 9223372036854775807) : IntKind.wrap .i64 n = n := wrap_id h1 h2
theorem next_ok {x : List Int} (hx : Bytes x) {at_ s : Int} (h0 : 0 ≤ at_) (h1 : at_ ≤ 4611686018427387904) : ∃ v s', p_spec_l1Cur_next x at_ s = some (v, at_ + 1, s') ∧ 0 ≤ v ∧ v ≤ 255 := by
  unfold p_spec_l1Cur_next jn
  simp only
  have ew := wr (n := at_ + 1) (by omega) (by omega)
  have hg := getD_bytes hx at_.toNat
  rw [ew]
  have key : ∀ b : Int, 0 ≤ b → b ≤ 255 → ∃ v s', (if at_ + 1 ≤ (x.length : Int) then some (b, at_ + 1, (IntKind.wrap .u64 ((IntKind.wrap .u64 ((IntKind.wrap .u64 (s * 6364136223846793005)) + (IntKind.wrap .u64 b))) + 462197))) else some ((IntKind.wrap .i64 (andI .u64 (shrI .u64 (IntKind.wrap .u64 ((IntKind.wrap .u64 ((IntKind.wrap .u64 (s * 6364136223846793005)) + (IntKind.wrap .u64 b))) + 462197)) 40) 255)), at_ + 1, (IntKind.wrap .u64 ((IntKind.wrap .u64 ((IntKind.wrap .u64 (s * 6364136223846793005)) + (IntKind.wrap .u64 b))) + 462197)))) = some (v, at_ + 1, s') ∧ 0 ≤ v ∧ v ≤ 255 := by
    intro b hb0 hb1
    by_cases hc : at_ + 1 ≤ (x.length : Int)
    · rw [if_pos hc]; exact ⟨_, _, rfl, hb0, hb1⟩
    · rw [if_neg hc]
      have ha := and255 (shrI .u64 (IntKind.wrap .u64 ((IntKind.wrap .u64 ((IntKind.wrap .u64 (s * 6364136223846793005)) + (IntKind.wrap .u64 b))) + 462197)) 40)
      rw [wr (by omega) (by omega)]
      exact ⟨_, _, rfl, ha.1, ha.2⟩
  by_cases hlt : at_ < (x.length : Int)
  · rw [if_pos hlt, if_pos h0, wr (n := x.getD at_.toNat 0) (by omega) (by omega)]
    exact key _ hg.1 hg.2
  · rw [if_neg hlt]
    exact key 0 (by omega) (by omega)
theorem pick_ok {x : List Int} (hx : Bytes x) {n at_ s : Int} (h0 : 0 ≤ at_) (h1 : at_ ≤ 4611686018427380000) (hn : n ≤ 1000000) : ∃ v at' s', p_spec_l1Cur_pick n x at_ s = some (v, at', s') ∧ 0 ≤ v ∧ (v < n ∨ (n ≤ 1 ∧ v = 0)) ∧ at_ ≤ at' ∧ at' ≤ at_ + 2 := by
  unfold p_spec_l1Cur_pick
  by_cases hc : n ≤ 1
  · rw [if_pos hc]; exact ⟨0, at_, s, rfl, by omega, .inr ⟨hc, rfl⟩, by omega, by omega⟩
  · rw [if_neg hc]
    obtain ⟨v, s1, e1, a1, a2⟩ := next_ok hx (s := s) h0 (by omega)
    rw [e1, Option.bind_some]
    by_cases hc2 : 200 < n
    · rw [if_pos hc2]
      obtain ⟨u, s2, e2, b1, b2⟩ := next_ok hx (at_ := at_ + 1) (s := s1) (by omega) (by omega)
      simp only
      rw [e2, Option.bind_some]
      simp only
      have ew1 := wr (n := v * 256) (by omega) (by omega)
      have ew2 := wr (n := v * 256 + u) (by omega) (by omega)
      rw [ew1, ew2]
      refine ⟨_, _, _, rfl, ?_, .inl ?_, by omega, by omega⟩
      · exact Int.tmod_nonneg _ (by omega)
      · rw [Int.tmod_eq_emod_of_nonneg (by omega)]; exact Int.emod_lt_of_pos _ (by omega)
    · rw [if_neg hc2]
      simp only
      refine ⟨_, _, _, rfl, ?_, .inl ?_, by omega, by omega⟩
      · exact Int.tmod_nonneg _ (by omega)
      · rw [Int.tmod_eq_emod_of_nonneg (by omega)]; exact Int.emod_lt_of_pos _ (by omega)
theorem among_ok {x : List Int} (hx : Bytes x) {l : List Int} (hl : 0 < l.length) (hl2 : l.length ≤ 1000) {at_ s : Int} (h0 : 0 ≤ at_) (h1 : at_ ≤ 4611686018427380000) : ∃ v at' s', p_spec_l1Cur_among l x at_ s = some (v, at', s') ∧ v ∈ l ∧ at_ ≤ at' ∧ at' ≤ at_ + 2 := by
  unfold p_spec_l1Cur_among
  obtain ⟨v, a', s', e, b1, b2, b3, b4⟩ := pick_ok hx (n := (l.length : Int)) (s := s) h0 h1 (by omega)
  rw [e, Option.bind_some]
  simp only
  rw [if_pos b1, if_pos (by omega)]
  refine ⟨_, _, _, rfl, ?_, b3, b4⟩
  have hv : v.toNat < l.length := by omega
  rw [List.getD_eq_getElem?_getD, List.getElem?_eq_getElem hv]
  exact List.getElem_mem hv
theorem oneD_ok {x : List Int} (hx : Bytes x) {n at_ s : Int} (h0 : 0 ≤ at_) (h1 : at_ ≤ 4611686018427380000) (hn : n ≤ 1000000) : ∃ b at' s', p_spec_l1Cur_one n x at_ s = some (b, at', s') ∧ at_ ≤ at' ∧ at' ≤ at_ + 2 := by
  unfold p_spec_l1Cur_one
  obtain ⟨v, a', s', e, _, _, b3, b4⟩ := pick_ok hx (n := n) (s := s) h0 h1 hn
  rw [e, Option.bind_some]
  exact ⟨_, _, _, rfl, b3, b4⟩
theorem noneFunc {α : Type} (b : α → Bool) (dflt : α) (x : List α) : (!decide (0 ≤ cnt (fun i (s : Unit) c _ => if b (x.getD i.toNat dflt) = true then i else c ()) (fun _ _ => (-1 : Int)) (Int.toNat ((x.length : Int) - 0)) 0 ())) = x.all (fun a => !b a) := by
  have := cnt_find b dflt x x.length 0 (by omega)
  simp only [Int.sub_zero, Int.toNat_natCast]
  simp only [Int.natCast_zero] at this
  rw [this, List.drop_zero, List.not_any_eq_all_not]

end Go.GA
