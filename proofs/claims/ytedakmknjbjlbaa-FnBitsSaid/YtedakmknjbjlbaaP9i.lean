/- Plain law of FnBits: draws, throws, bits. -/
import Derived.Test.YtedakmknjbjlbaaP9h
import Derived.Test.YtedakmknjbjlbaaGpA
namespace Go.GA
open Go
set_option maxRecDepth 100000
/-! ### Draws -/
theorem and255 (a : Int) : 0 ≤ andI .u64 a 255 ∧ andI .u64 a 255 ≤ 255 := by
  unfold andI
  have h : (BitVec.ofInt IntKind.u64.bits a &&& BitVec.ofInt IntKind.u64.bits 255).toNat ≤ 255 := by
    rw [BitVec.toNat_and]
    exact Nat.and_le_right
  generalize (BitVec.ofInt IntKind.u64.bits a &&& BitVec.ofInt IntKind.u64.bits 255).toNat = x at h
  have e : IntKind.wrap .u64 (x : Int) = (x : Int) := by
    unfold IntKind.wrap
    simp only [IntKind.bits, IntKind.signed]
    simp
    omega
  rw [e]
  omega
def Bytes (x : List Int) : Prop := ∀ b ∈ x, 0 ≤ b ∧ b ≤ 255
theorem getD_bytes {x : List Int} (h : Bytes x) (i : Nat) : 0 ≤ x.getD i 0 ∧ x.getD i 0 ≤ 255 := by
  rw [List.getD_eq_getElem?_getD]
  cases hi : x[i]? with
  | none => simp
  | some b => exact h b (List.mem_of_getElem? hi)
theorem wr {n : Int} (h1 : -9223372036854775808 ≤ n) (h2 : n ≤ 9223372036854775807) : IntKind.wrap .i64 n = n := wrap_id h1 h2
theorem next_ok {x : List Int} (hx : Bytes x) {at_ s : Int} (h0 : 0 ≤ at_) (h1 : at_ ≤ 1000000) : ∃ v s', p_spec_l1Cur_next x at_ s = some (v, at_ + 1, s') ∧ 0 ≤ v ∧ v ≤ 255 := by
  unfold p_spec_l1Cur_next jn
  simp only
  have ew := wr (n := at_ + 1) (by omega) (by omega)
  have hg := getD_bytes hx at_.toNat
  rw [ew]
  have key : ∀ b : Int, 0 ≤ b → b ≤ 255 → ∃ v s', (if at_ + 1 ≤ (x.length : Int) then some (b, at_ + 1, (IntKind.wrap .u64 ((IntKind.wrap .u64 ((IntKind.wrap .u64 (s * 6364136223846793005)) + (IntKind.wrap .u64 b))) + 462197))) else some ((IntKind.wrap .i64 (andI .u64 (shrI .u64 (IntKind.wrap .u64 ((IntKind.wrap .u64 ((IntKind.wrap .u64 (s * 6364136223846793005)) + (IntKind.wrap .u64 b))) + 462197)) 40) 255)), at_ + 1, (IntKind.wrap .u64 ((IntKind.wrap .u64 ((IntKind.wrap .u64 (s * 6364136223846793005)) + (IntKind.wrap .u64 b))) + 462197)))) = some (v, at_ + 1, s') ∧ 0 ≤ v ∧ v ≤ 255 := by
    intro b hb0 hb1
    by_cases hc : at_ + 1 ≤ (x.length : Int)
    · rw [if_pos hc]; exact ⟨_, _, rfl, hb0, hb1⟩
    · rw [if_neg hc]
      have ha := and255 (shrI .u64 (IntKind.wrap .u64 ((IntKind.wrap .u64 ((IntKind.wrap .u64 (s * 6364136223846793005)) + (IntKind.wrap .u64 b))) + 462197)) 40)
      rw [wr (by omega) (by omega)]
      exact ⟨_, _, rfl, ha.1, ha.2⟩
  by_cases hlt : at_ < (x.length : Int)
  · rw [if_pos hlt, if_pos h0, wr (n := x.getD at_.toNat 0) (by omega) (by omega)]
    exact key _ hg.1 hg.2
  · rw [if_neg hlt]
    exact key 0 (by omega) (by omega)
theorem pick_ok {x : List Int} (hx : Bytes x) {n at_ s : Int} (h0 : 0 ≤ at_) (h1 : at_ ≤ 999000) (hn : n ≤ 1000000) : ∃ v at' s', p_spec_l1Cur_pick n x at_ s = some (v, at', s') ∧ 0 ≤ v ∧ (v < n ∨ (n ≤ 1 ∧ v = 0)) ∧ at_ ≤ at' ∧ at' ≤ at_ + 2 := by
  unfold p_spec_l1Cur_pick
  by_cases hc : n ≤ 1
  · rw [if_pos hc]; exact ⟨0, at_, s, rfl, by omega, .inr ⟨hc, rfl⟩, by omega, by omega⟩
  · rw [if_neg hc]
    obtain ⟨v, s1, e1, a1, a2⟩ := next_ok hx (s := s) h0 (by omega)
    rw [e1, Option.bind_some]
    by_cases hc2 : 200 < n
    · rw [if_pos hc2]
      obtain ⟨u, s2, e2, b1, b2⟩ := next_ok hx (at_ := at_ + 1) (s := s1) (by omega) (by omega)
      simp only
      rw [e2, Option.bind_some]
      simp only
      have ew1 := wr (n := v * 256) (by omega) (by omega)
      have ew2 := wr (n := v * 256 + u) (by omega) (by omega)
      rw [ew1, ew2]
      refine ⟨_, _, _, rfl, ?_, .inl ?_, by omega, by omega⟩
      · exact Int.tmod_nonneg _ (by omega)
      · rw [Int.tmod_eq_emod_of_nonneg (by omega)]; exact Int.emod_lt_of_pos _ (by omega)
    · rw [if_neg hc2]
      simp only
      refine ⟨_, _, _, rfl, ?_, .inl ?_, by omega, by omega⟩
      · exact Int.tmod_nonneg _ (by omega)
      · rw [Int.tmod_eq_emod_of_nonneg (by omega)]; exact Int.emod_lt_of_pos _ (by omega)
theorem among_ok {x : List Int} (hx : Bytes x) {l : List Int} (hl : 0 < l.length) (hl2 : l.length ≤ 1000) {at_ s : Int} (h0 : 0 ≤ at_) (h1 : at_ ≤ 999000) : ∃ v at' s', p_spec_l1Cur_among l x at_ s = some (v, at', s') ∧ v ∈ l ∧ at_ ≤ at' ∧ at' ≤ at_ + 2 := by
  unfold p_spec_l1Cur_among
  obtain ⟨v, a', s', e, b1, b2, b3, b4⟩ := pick_ok hx (n := (l.length : Int)) (s := s) h0 h1 (by omega)
  rw [e, Option.bind_some]
  simp only
  rw [if_pos b1, if_pos (by omega)]
  refine ⟨_, _, _, rfl, ?_, b3, b4⟩
  have hv : v.toNat < l.length := by omega
  rw [List.getD_eq_getElem?_getD, List.getElem?_eq_getElem hv]
  exact List.getElem_mem hv
theorem oneD_ok {x : List Int} (hx : Bytes x) {n at_ s : Int} (h0 : 0 ≤ at_) (h1 : at_ ≤ 999000) (hn : n ≤ 1000000) : ∃ b at' s', p_spec_l1Cur_one n x at_ s = some (b, at', s') ∧ at_ ≤ at' ∧ at' ≤ at_ + 2 := by
  unfold p_spec_l1Cur_one
  obtain ⟨v, a', s', e, _, _, b3, b4⟩ := pick_ok hx (n := n) (s := s) h0 h1 hn
  rw [e, Option.bind_some]
  exact ⟨_, _, _, rfl, b3, b4⟩
theorem throws_ok {x : List Int} (hx : Bytes x) {l : List Int} (hl : 0 < l.length) (hl2 : l.length ≤ 1000) (hb : ∀ v ∈ l, v ≤ 41) {at_ s : Int} (h0 : 0 ≤ at_) (h1 : at_ ≤ 900000) :
    ∃ r at' s', p_spec_l1Cur_throws 64 l x at_ s = some (r, at', s') ∧ ((r.length : Int) ∈ l ∨ r.length = 0) ∧ r.length ≤ 41 := by
  unfold p_spec_l1Cur_throws
  obtain ⟨n, a1, s1, e1, hn, c1, c2⟩ := among_ok hx hl hl2 (s := s) h0 (by omega)
  rw [e1, Option.bind_some]
  have hn41 := hb n hn
  suffices hh : ∀ (d : Nat) (m a s : Int) (acc : List Int), 0 < d → m < d → 0 ≤ a → a + 2 * m ≤ 950000 → a ≤ 950000 → (0 ≤ m → m + (acc.length : Int) = n) → (m < 0 → acc.length = 0) → acc.length ≤ 41 → ∃ r at' s', whl (fun (s2 : Int × Int × Int × (List Int)) c4 => (if 0 < s2.1 then (p_spec_l1Cur_pick 6 x s2.2.1 s2.2.2.1).bind (fun r9 => if (s2.2.2.2.length : Int) + 1 ≤ 1000000000 then c4 ((IntKind.wrap .i64 (s2.1 - 1)), r9.2.1, r9.2.2, (s2.2.2.2 ++ [r9.1])) else none) else (if 0 < (s2.2.2.2.length : Int) then (p_spec_l1Cur_one 30 x s2.2.1 s2.2.2.1).bind (fun r14 => (if r14.1 = true then (p_spec_l1Cur_pick (s2.2.2.2.length : Int) x r14.2.1 r14.2.2).bind (fun r16 => (p_spec_l1Cur_among [(-1), 6, 4611686018427387904] x r16.2.1 r16.2.2).bind (fun r17 => if 0 ≤ r16.1 then if r16.1 < (s2.2.2.2.length : Int) then some ((s2.2.2.2.set r16.1.toNat r17.1), r17.2.1, r17.2.2) else none else none)) else some (s2.2.2.2, r14.2.1, r14.2.2))) else some (s2.2.2.2, s2.2.1, s2.2.2.1)))) d (m, a, s, acc) = some (r, at', s') ∧ ((r.length : Int) = n ∨ r.length = 0) ∧ r.length ≤ 41 by
    by_cases hneg : n < 0
    · obtain ⟨r, a', s', e, h2, h3⟩ := hh 64 n a1 s1 [] (by omega) (by omega) (by omega) (by omega) (by omega) (fun h => by omega) (fun _ => rfl) (by simp)
      refine ⟨r, a', s', e, ?_, h3⟩
      rcases h2 with h2 | h2
      · exact .inl (h2 ▸ hn)
      · exact .inr h2
    · obtain ⟨r, a', s', e, h2, h3⟩ := hh 64 n a1 s1 [] (by omega) (by omega) (by omega) (by omega) (by omega) (fun h => by simp) (fun _ => rfl) (by simp)
      refine ⟨r, a', s', e, ?_, h3⟩
      rcases h2 with h2 | h2
      · exact .inl (h2 ▸ hn)
      · exact .inr h2
  intro d
  induction d with
  | zero => 
    intro m a s acc h0 h1 h2 h3 h4 h5 h6 h7
    omega
  | succ d ih =>
    intro m a s acc h0 h1 h2 h3 h4 h5 h6 h7
    rw [show ∀ (f : (Int × Int × Int × (List Int)) → ((Int × Int × Int × (List Int)) → Option (List Int × Int × Int)) → Option (List Int × Int × Int)), whl f (d + 1) (m, a, s, acc) = f (m, a, s, acc) (whl f d) from fun _ => rfl]
    simp only
    by_cases hm : 0 < m
    · rw [if_pos hm]
      obtain ⟨v, a', s', e, _, _, b3, b4⟩ := pick_ok hx (n := 6) (s := s) h2 (by omega) (by omega)
      rw [e, Option.bind_some, if_pos (by omega), wr (n := m - 1) (by omega) (by omega)]
      have := h5 (by omega)
      exact ih (m - 1) a' s' (acc ++ [v]) (by omega) (by omega) (by omega) (by omega) (by omega) (fun _ => by simp; omega) (fun h => by omega) (by simp; omega)
    · rw [if_neg hm]
      by_cases hz : 0 < (acc.length : Int)
      · rw [if_pos hz]
        have hm0 : m = 0 := by
          by_cases h : m < 0
          · have := h6 h; omega
          · omega
        have hacc := h5 (by omega)
        obtain ⟨b, a', s', e, b3, b4⟩ := oneD_ok hx (n := 30) (s := s) h2 (by omega) (by omega)
        rw [e, Option.bind_some]
        cases b with
        | false => exact ⟨_, _, _, rfl, .inl (by omega), h7⟩
        | true =>
          simp only [if_true]
          obtain ⟨v, a2, s2, e2, v0, v1, b5, b6⟩ := pick_ok hx (n := (acc.length : Int)) (at_ := a') (s := s') (by omega) (by omega) (by omega)
          rw [e2, Option.bind_some]
          simp only
          obtain ⟨u, a3, s3, e3, _, b7, b8⟩ := among_ok hx (l := [(-1), 6, 4611686018427387904]) (by simp) (by simp) (at_ := a2) (s := s2) (by omega) (by omega)
          rw [e3, Option.bind_some, if_pos v0, if_pos (by omega)]
          exact ⟨_, _, _, rfl, .inl (by simp; omega), by simp; omega⟩
      · rw [if_neg hz]
        exact ⟨_, _, _, rfl, .inr (by omega), h7⟩
theorem noneFunc {α : Type} (b : α → Bool) (dflt : α) (x : List α) : (!decide (0 ≤ cnt (fun i (s : Unit) c _ => if b (x.getD i.toNat dflt) = true then i else c ()) (fun _ _ => (-1 : Int)) (Int.toNat ((x.length : Int) - 0)) 0 ())) = x.all (fun a => !b a) := by
  have := cnt_find b dflt x x.length 0 (by omega)
  simp only [Int.sub_zero, Int.toNat_natCast]
  simp only [Int.natCast_zero] at this
  rw [this, List.drop_zero, List.not_any_eq_all_not]
def okT (l : List Int) : Bool := l.all p_impl_isSide
theorem areThrows_eq (l : List Int) : p_impl_areThrows l = okT l := by
  unfold p_impl_areThrows p_impl_areAll_int p_slices_ContainsFunc_int_int p_slices_IndexFunc_int_int
  rw [noneFunc p_impl_areAll_int_1]
  unfold okT
  congr 1
  funext a
  simp [p_impl_areAll_int_1]
theorem l9T (l : List Int) (m : Int) : p_spec_l9Throws l m = (okT l && decide ((l.length : Int) ≤ m)) := by
  unfold p_spec_l9Throws
  by_cases h : (l.length : Int) ≤ m
  · rw [decide_eq_true h, Bool.and_true]
    rw [cnt_congr_n (g := fun i2 (s1 : Unit) c3 _ => if (!p_impl_isSide (l.getD i2.toNat 0)) = true then false else c3 ()) l.length (by omega) (fun i s c hi => by
      have hc : (decide ((i : Int) < (l.length : Int)) && decide ((i : Int) ≤ m)) = true := by simp; omega
      show (if (decide ((i : Int) < (l.length : Int)) && decide ((i : Int) ≤ m)) = true then _ else _) = _
      rw [if_pos hc]
      have e : p_spec_l1In (l.getD (i : Int).toNat 0) 0 5 = p_impl_isSide (l.getD (i : Int).toNat 0) := rfl
      rw [e]
      cases p_impl_isSide (l.getD (i : Int).toNat 0) <;> rfl)]
    rw [cnt_list (fun b s' c => if (!p_impl_isSide b) = true then false else c s') l 0 (by omega) (fun i s' c h0 h1 => by cases s'; rfl)]
    rw [lrun_any (fun b => !p_impl_isSide b)]
    unfold okT
    rw [← List.not_all_eq_any_not]
    cases l.all p_impl_isSide <;> simp [h]
  · rw [decide_eq_false h, Bool.and_false]
    refine cnt_ind0 (S := Unit) l.length (fun _ _ => True) (fun r => r = false) (by omega) trivial (fun _ _ => rfl) (fun i s c hi _ hc => ?_)
    split
    · split
      · exact hc _ trivial
      · rfl
    · rfl
/-! ### Bits -/
def bitG (b : Int) (s : List Int) : List Int := if b < 4 then (s ++ [IntKind.wrap .i64 (b.tdiv 2)]) ++ [b.tmod 2] else s ++ [b.tmod 2]
theorem bit_fold : ∀ (l s : List Int), s.length + l.length ≤ (l.foldl (fun s b => bitG b s) s).length ∧ (l.foldl (fun s b => bitG b s) s).length ≤ s.length + 2 * l.length
  | [], s => by simp
  | b :: l, s => by
    obtain ⟨h1, h2⟩ := bit_fold l (bitG b s)
    have e : s.length + 1 ≤ (bitG b s).length ∧ (bitG b s).length ≤ s.length + 2 := by
      unfold bitG
      split <;> simp
    simp only [List.foldl_cons, List.length_cons]
    omega
theorem bit_run {F : Int → List Int → (List Int → Option (List Int × Bool)) → Option (List Int × Bool)} (hF : ∀ b s c, s.length ≤ 1000 → F b s c = c (bitG b s)) (k : List Int → Option (List Int × Bool)) : ∀ (l s : List Int), s.length + 2 * l.length ≤ 1000 → lrun F k l s = k (l.foldl (fun s b => bitG b s) s)
  | [], s, _ => rfl
  | b :: l, s, h => by
    simp only [List.length_cons] at h
    have e : (bitG b s).length ≤ s.length + 2 := by
      unfold bitG
      split <;> simp
    show F b s (fun s => lrun F k l s) = _
    rw [hF b s _ (by omega), bit_run hF k l (bitG b s) (by omega)]
    rfl
theorem bits_eq {l : List Int} (hl : l.length ≤ 41) : ∃ (r : List Int) (ok : Bool), p_impl_BitsOf l = some (r, ok) ∧ p_spec_BitsOf l = some (r, ok) ∧ (ok = true → l.length ≤ r.length ∧ r.length ≤ 2 * l.length) := by
  unfold p_impl_BitsOf p_spec_BitsOf
  rw [areThrows_eq, l9T]
  have ei : p_impl_isList l = decide ((l.length : Int) ≤ 40) := rfl
  rw [ei]
  by_cases hc : (okT l && decide ((l.length : Int) ≤ 40)) = true
  · have hc2 : ¬ ((!decide ((l.length : Int) ≤ 40)) || !okT l) = true := by
      simp only [Bool.and_eq_true] at hc
      rw [hc.1, hc.2]; simp
    rw [if_neg hc2, if_pos hc]
    have hb := bit_fold l []
    refine ⟨l.foldl (fun s b => bitG b s) [], true, ?_, ?_, fun _ => by simpa using hb⟩
    · refine Eq.trans (cnt_list (fun (b : Int) (s7 : List Int) (c9 : List Int → Option (List Int × Bool)) => (if b < 4 then if (s7.length : Int) + 1 ≤ 1000000000 then if ((s7.length : Int) + 1) + 1 ≤ 1000000000 then c9 ((s7 ++ [(IntKind.wrap .i64 (b.tdiv 2))]) ++ [(b.tmod 2)]) else none else none else if (s7.length : Int) + 1 ≤ 1000000000 then c9 (s7 ++ [(b.tmod 2)]) else none)) l 0 (by omega) (fun _ _ _ _ _ => rfl)) ?_
      refine bit_run (fun b s c hs => ?_) _ l [] (by simp; omega)
      unfold bitG
      by_cases hb4 : b < 4
      · rw [if_pos hb4, if_pos hb4, if_pos (by omega), if_pos (by omega)]
      · rw [if_neg hb4, if_neg hb4, if_pos (by omega)]
    · refine Eq.trans (cnt_list (fun (b : Int) (s2 : List Int) (c4 : List Int → Option (List Int × Bool)) => jn (fun (s9 : (List Int)) => if (s9.length : Int) + 1 ≤ 1000000000 then c4 (s9 ++ [(b.tmod 2)]) else none) (fun k10 => (if b < 4 then if (s2.length : Int) + 1 ≤ 1000000000 then k10 (s2 ++ [(IntKind.wrap .i64 (b.tdiv 2))]) else none else k10 s2))) l 0 (by omega) (fun _ _ _ _ _ => rfl)) ?_
      refine bit_run (fun b s c hs => ?_) _ l [] (by simp; omega)
      unfold bitG jn
      simp only
      by_cases hb4 : b < 4
      · rw [if_pos hb4, if_pos hb4, if_pos (by omega), if_pos (by simp; omega)]
      · rw [if_neg hb4, if_neg hb4, if_pos (by omega)]
  · have hc2 : ((!decide ((l.length : Int) ≤ 40)) || !okT l) = true := by
      revert hc
      cases okT l <;> cases decide ((l.length : Int) ≤ 40) <;> simp
    rw [if_pos hc2, if_neg hc]
    exact ⟨[], false, rfl, rfl, fun h => by cases h⟩
end Go.GA
