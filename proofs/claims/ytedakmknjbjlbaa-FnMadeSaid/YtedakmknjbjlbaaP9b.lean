/- Plain law of FnMade: its parts that are finite, and draws. -/
import Derived.Test.YtedakmknjbjlbaaP9a
namespace Go.GA
open Go
set_option maxRecDepth 100000
/-- a loop that ends in what stands behind it, or is false -/
theorem body2_on {n k : Int} {a : Int × Bool} {c : List Int × Bool} (K : Unit → Option Bool) : ∀ (d : Nat) (s : Int × Int), whl (body2 n k a c (fun _ => some true)) d s = some true → whl (body2 n k a c K) d s = K ()
  | 0, s, h => by cases h
  | d + 1, s, h => by
    have h2 : body2 n k a c (fun _ => some true) s (whl (body2 n k a c (fun _ => some true)) d) = some true := h
    show body2 n k a c K s (whl (body2 n k a c K) d) = K ()
    have ih := fun s => body2_on (n := n) (k := k) (a := a) (c := c) K d s
    generalize whl (body2 n k a c (fun _ => some true)) d = W at h2 ih
    generalize whl (body2 n k a c K) d = W' at ih
    unfold body2 at h2 ⊢
    split at h2
    · rename_i hc; rw [if_pos hc]; exact ih _ h2
    · rename_i hc
      rw [if_neg hc]
      split at h2
      · rename_i hn
        rw [if_pos hn]
        split at h2
        · cases h2
        · rename_i hb; rw [if_neg hb]
      · cases h2
theorem body4_on {m : Int} {a : Int × List Int × Bool} (K : Unit → Option Bool) : ∀ (d : Nat) (s : Int), whl (body4 m a (fun _ => some true)) d s = some true → whl (body4 m a K) d s = K ()
  | 0, s, h => by cases h
  | d + 1, s, h => by
    have h2 : body4 m a (fun _ => some true) s (whl (body4 m a (fun _ => some true)) d) = some true := h
    show body4 m a K s (whl (body4 m a K) d) = K ()
    have ih := fun s => body4_on (m := m) (a := a) K d s
    generalize whl (body4 m a (fun _ => some true)) d = W at h2 ih
    generalize whl (body4 m a K) d = W' at ih
    unfold body4 at h2 ⊢
    split at h2
    · rename_i hc
      rw [if_pos hc]
      cases hm : p_impl_MeanThrows 64 m s with
      | none => rw [hm] at h2; cases h2
      | some q =>
        rw [hm, Option.bind_some] at h2
        rw [Option.bind_some]
        split at h2
        · cases h2
        · rename_i hb; rw [if_neg hb]; exact ih _ h2
    · rename_i hc; rw [if_neg hc]
theorem part3 {n k : Int} (hn : n ∈ SZ) (hk : k ∈ ([0, 1, 2, 3, 4, 5, 6, 7] : List Int)) : ∃ a c, p_impl_TakenOf 64 n k = some a ∧ p_spec_TakenOf 64 n k = some a ∧ p_impl_MeanThrows 64 n k = some c ∧ p_spec_MeanThrows 64 n k = some c ∧ c.2 = a.2 ∧ (a.2 = true → ∀ K, whl (body2 n k a c K) 64 (1, 0) = K ()) := by
  have h := chk3_all n hn k hk
  unfold chk3 at h
  split at h
  · rename_i a b c d e1 e2 e3 e4
    simp only [Bool.and_eq_true, beq_iff_eq, Bool.or_eq_true, Bool.not_eq_true'] at h
    obtain ⟨⟨⟨h1, h2⟩, h3⟩, h4⟩ := h
    subst h1 h2
    refine ⟨a, c, e1, e2, e3, e4, h3, fun ha K => body2_on K _ _ ?_⟩
    rcases h4 with h4 | h4
    · rw [ha] at h4; cases h4
    · exact h4
  · cases h
theorem part4 {m : Int} (h0 : 0 ≤ m) (h1 : m ≤ 1001) : ∃ a, p_impl_BestThrows 64 m = some a ∧ p_spec_BestThrows 64 m = some a ∧ (a.2.2 = true → ∀ K, whl (body4 m a K) 64 1 = K ()) := by
  have h := chk4_all h0 h1
  unfold chk4 at h
  split at h
  · rename_i a b e1 e2
    simp only [Bool.and_eq_true, beq_iff_eq, Bool.or_eq_true, Bool.not_eq_true'] at h
    obtain ⟨h2, h4⟩ := h
    subst h2
    refine ⟨a, e1, e2, fun ha K => body4_on K _ _ ?_⟩
    rcases h4 with h4 | h4
    · rw [ha] at h4; cases h4
    · exact h4
  · cases h
theorem part6 {m : Int} (h0 : -1 ≤ m) (h1 : m ≤ 21) : ∃ a, p_impl_RoomForBits 64 m = some a ∧ p_spec_RoomForBits 64 m = some a := by
  have h := chk6_all h0 h1
  unfold chk6 at h
  split at h
  · rename_i a b e1 e2
    have : a = b := by simpa using h
    subst this
    exact ⟨a, e1, e2⟩
  · cases h
theorem part1 {n k : Int} (hn : n ∈ SZ) (hk : k ∈ ([0, 1, 2, 3, 4, 5, 6, 7] : List Int)) : ∃ b, p_impl_isMade 64 n k = some b ∧ p_spec_l9Good 64 n k = some b ∧ (b = true → 1 ≤ k ∧ k ≤ 6 ∧ 1 ≤ n ∧ ∃ t, p_impl_taken 64 n k = some t ∧ p_spec_l9Taken 64 n k = some t) := by
  have h := chk1_all n hn k hk
  unfold chk1 at h
  split at h
  · rename_i a b e1 e2
    simp only [Bool.and_eq_true, beq_iff_eq, Bool.or_eq_true, Bool.not_eq_true', decide_eq_true_eq] at h
    obtain ⟨h1, h2⟩ := h
    subst h1
    refine ⟨a, e1, e2, fun ha => ?_⟩
    rcases h2 with h2 | ⟨h2, h3⟩
    · rw [ha] at h2; cases h2
    · split at h3
      · rename_i s t e3 e4
        have : s = t := by simpa using h3
        subst this
        exact ⟨h2.1, h2.2.1, h2.2.2, s, e3, e4⟩
      · cases h3
  · cases h
/-! ### Draws -/
theorem and255 (a : Int) : 0 ≤ andI .u64 a 255 ∧ andI .u64 a 255 ≤ 255 := by
  unfold andI
  have h : (BitVec.ofInt IntKind.u64.bits a &&& BitVec.ofInt IntKind.u64.bits 255).toNat ≤ 255 := by
    rw [BitVec.toNat_and]
    exact Nat.and_le_right
  generalize (BitVec.ofInt IntKind.u64.bits a &&& BitVec.ofInt IntKind.u64.bits 255).toNat = x at h
  have e : IntKind.wrap .u64 (x : Int) = (x : Int) := by
    unfold IntKind.wrap
    simp only [IntKind.bits, IntKind.signed]
    simp
    omega
  rw [e]
  omega
def Bytes (x : List Int) : Prop := ∀ b ∈ x, 0 ≤ b ∧ b ≤ 255
theorem getD_bytes {x : List Int} (h : Bytes x) (i : Nat) : 0 ≤ x.getD i 0 ∧ x.getD i 0 ≤ 255 := by
  rw [List.getD_eq_getElem?_getD]
  cases hi : x[i]? with
  | none => simp
  | some b => exact h b (List.mem_of_getElem? hi)
theorem wr {n : Int} (h1 : -9223372036854775808 ≤ n) (h2 : n ≤ 9223372036854775807) : IntKind.wrap .i64 n = n := wrap_id h1 h2
theorem next_ok {x : List Int} (hx : Bytes x) {at_ s : Int} (h0 : 0 ≤ at_) (h1 : at_ ≤ 1000000) : ∃ v s', p_spec_l1Cur_next x at_ s = some (v, at_ + 1, s') ∧ 0 ≤ v ∧ v ≤ 255 := by
  unfold p_spec_l1Cur_next jn
  simp only
  have ew := wr (n := at_ + 1) (by omega) (by omega)
  have hg := getD_bytes hx at_.toNat
  rw [ew]
  have key : ∀ b : Int, 0 ≤ b → b ≤ 255 → ∃ v s', (if at_ + 1 ≤ (x.length : Int) then some (b, at_ + 1, (IntKind.wrap .u64 ((IntKind.wrap .u64 ((IntKind.wrap .u64 (s * 6364136223846793005)) + (IntKind.wrap .u64 b))) + 462197))) else some ((IntKind.wrap .i64 (andI .u64 (shrI .u64 (IntKind.wrap .u64 ((IntKind.wrap .u64 ((IntKind.wrap .u64 (s * 6364136223846793005)) + (IntKind.wrap .u64 b))) + 462197)) 40) 255)), at_ + 1, (IntKind.wrap .u64 ((IntKind.wrap .u64 ((IntKind.wrap .u64 (s * 6364136223846793005)) + (IntKind.wrap .u64 b))) + 462197)))) = some (v, at_ + 1, s') ∧ 0 ≤ v ∧ v ≤ 255 := by
    intro b hb0 hb1
    by_cases hc : at_ + 1 ≤ (x.length : Int)
    · rw [if_pos hc]; exact ⟨_, _, rfl, hb0, hb1⟩
    · rw [if_neg hc]
      have ha := and255 (shrI .u64 (IntKind.wrap .u64 ((IntKind.wrap .u64 ((IntKind.wrap .u64 (s * 6364136223846793005)) + (IntKind.wrap .u64 b))) + 462197)) 40)
      rw [wr (by omega) (by omega)]
      exact ⟨_, _, rfl, ha.1, ha.2⟩
  by_cases hlt : at_ < (x.length : Int)
  · rw [if_pos hlt, if_pos h0, wr (n := x.getD at_.toNat 0) (by omega) (by omega)]
    exact key _ hg.1 hg.2
  · rw [if_neg hlt]
    exact key 0 (by omega) (by omega)
theorem pick_ok {x : List Int} (hx : Bytes x) {n at_ s : Int} (h0 : 0 ≤ at_) (h1 : at_ ≤ 999000) (hn : n ≤ 1000000) : ∃ v at' s', p_spec_l1Cur_pick n x at_ s = some (v, at', s') ∧ 0 ≤ v ∧ (v < n ∨ (n ≤ 1 ∧ v = 0)) ∧ at_ ≤ at' ∧ at' ≤ at_ + 2 := by
  unfold p_spec_l1Cur_pick
  by_cases hc : n ≤ 1
  · rw [if_pos hc]; exact ⟨0, at_, s, rfl, by omega, .inr ⟨hc, rfl⟩, by omega, by omega⟩
  · rw [if_neg hc]
    obtain ⟨v, s1, e1, a1, a2⟩ := next_ok hx (s := s) h0 (by omega)
    rw [e1, Option.bind_some]
    by_cases hc2 : 200 < n
    · rw [if_pos hc2]
      obtain ⟨u, s2, e2, b1, b2⟩ := next_ok hx (at_ := at_ + 1) (s := s1) (by omega) (by omega)
      simp only
      rw [e2, Option.bind_some]
      simp only
      have ew1 := wr (n := v * 256) (by omega) (by omega)
      have ew2 := wr (n := v * 256 + u) (by omega) (by omega)
      rw [ew1, ew2]
      refine ⟨_, _, _, rfl, ?_, .inl ?_, by omega, by omega⟩
      · exact Int.tmod_nonneg _ (by omega)
      · rw [Int.tmod_eq_emod_of_nonneg (by omega)]; exact Int.emod_lt_of_pos _ (by omega)
    · rw [if_neg hc2]
      simp only
      refine ⟨_, _, _, rfl, ?_, .inl ?_, by omega, by omega⟩
      · exact Int.tmod_nonneg _ (by omega)
      · rw [Int.tmod_eq_emod_of_nonneg (by omega)]; exact Int.emod_lt_of_pos _ (by omega)
theorem among_ok {x : List Int} (hx : Bytes x) {l : List Int} (hl : 0 < l.length) (hl2 : l.length ≤ 1000) {at_ s : Int} (h0 : 0 ≤ at_) (h1 : at_ ≤ 999000) : ∃ v at' s', p_spec_l1Cur_among l x at_ s = some (v, at', s') ∧ v ∈ l ∧ at_ ≤ at' ∧ at' ≤ at_ + 2 := by
  unfold p_spec_l1Cur_among
  obtain ⟨v, a', s', e, b1, b2, b3, b4⟩ := pick_ok hx (n := (l.length : Int)) (s := s) h0 h1 (by omega)
  rw [e, Option.bind_some]
  simp only
  rw [if_pos b1, if_pos (by omega)]
  refine ⟨_, _, _, rfl, ?_, b3, b4⟩
  have hv : v.toNat < l.length := by omega
  rw [List.getD_eq_getElem?_getD, List.getElem?_eq_getElem hv]
  exact List.getElem_mem hv
theorem oneD_ok {x : List Int} (hx : Bytes x) {n at_ s : Int} (h0 : 0 ≤ at_) (h1 : at_ ≤ 999000) (hn : n ≤ 1000000) : ∃ b at' s', p_spec_l1Cur_one n x at_ s = some (b, at', s') ∧ at_ ≤ at' ∧ at' ≤ at_ + 2 := by
  unfold p_spec_l1Cur_one
  obtain ⟨v, a', s', e, _, _, b3, b4⟩ := pick_ok hx (n := n) (s := s) h0 h1 hn
  rw [e, Option.bind_some]
  exact ⟨_, _, _, rfl, b3, b4⟩
end Go.GA
