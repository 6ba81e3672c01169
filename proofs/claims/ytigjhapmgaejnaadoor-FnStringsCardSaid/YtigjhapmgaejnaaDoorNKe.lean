/- Plain law of FnStrings: what is drawn. -/
import Derived.Test.YtigjhapmgaejnaaDoorNKd
namespace Go.GA
open Go
set_option maxRecDepth 100000
def texts : List ByteArray := [(ByteArray.mk #[]), (ByteArray.mk #[97]), (ByteArray.mk #[97, 44, 98]), (ByteArray.mk #[115, 111, 109, 101, 32, 119, 111, 114, 100, 115]), (ByteArray.mk #[120, 35, 121]), (ByteArray.mk #[45, 49, 50]), (ByteArray.mk #[0, 255]), (ByteArray.mk #[44, 44]), (ByteArray.mk #[48])]
theorem texts_size : ∀ s ∈ texts, s.size ≤ 3999 := by decide
theorem of_ok {x : List Int} (hx : Bytes x) {l : List ByteArray} (hl : 0 < l.length) (hl2 : l.length ≤ 1000) {a s : Int} (h0 : 0 ≤ a) (h1 : a ≤ 4611686018427380000) : ∃ v a' s', p_spec_l1Cur_of l x a s = some (v, a', s') ∧ v ∈ l ∧ a ≤ a' ∧ a' ≤ a + 2 := by
  unfold p_spec_l1Cur_of
  obtain ⟨v, a', s', e, h2, h3, h4, h5⟩ := pick_ok hx (n := (l.length : Int)) (at_ := a) (s := s) h0 h1 (by omega)
  rw [e, Option.bind_some]
  dsimp only
  have hv : v < (l.length : Int) := by omega
  rw [if_pos h2, if_pos hv]
  refine ⟨_, a', s', rfl, ?_, h4, h5⟩
  rw [List.getD_eq_getElem?_getD, List.getElem?_eq_getElem (by omega)]
  exact List.getElem_mem _
theorem any1_ok {x : List Int} (hx : Bytes x) {a s : Int} (h0 : 0 ≤ a) (h1 : a ≤ 4611686018427380000) : ∃ v a' s', p_spec_l1Cur_any1 x a s = some (v, a', s') ∧ v ∈ texts ∧ a ≤ a' ∧ a' ≤ a + 2 := by
  unfold p_spec_l1Cur_any1
  obtain ⟨v, a', s', e, h2, h3, h4⟩ := of_ok (l := texts) hx (by decide) (by decide) (s := s) h0 h1
  have e' : p_spec_l1Cur_of [(ByteArray.mk #[]), (ByteArray.mk #[97]), (ByteArray.mk #[97, 44, 98]), (ByteArray.mk #[115, 111, 109, 101, 32, 119, 111, 114, 100, 115]), (ByteArray.mk #[120, 35, 121]), (ByteArray.mk #[45, 49, 50]), (ByteArray.mk #[0, 255]), (ByteArray.mk #[44, 44]), (ByteArray.mk #[48])] x a s = some (v, a', s') := e
  rw [e', Option.bind_some]
  exact ⟨v, a', s', rfl, h2, h3, h4⟩
theorem bytesB_size (l : List Int) : (bytesB l).size = l.length := by
  have key : ∀ (l : List Int) (r : ByteArray), (l.foldl (fun r n => r.push (UInt8.ofNat n.toNat)) r).size = r.size + l.length := by
    intro l
    induction l with
    | nil => intro r; rfl
    | cons x l ih =>
      intro r
      rw [List.foldl_cons, ih, ByteArray.size_push, List.length_cons]
      omega
  have h := key l ByteArray.empty
  rw [show ByteArray.empty.size = 0 from rfl, Nat.zero_add] at h
  exact h

theorem drawFormat_ok {x : List Int} (hx : Bytes x) : ∃ n, p_spec_DrawFormatInt x = some n ∧ (n ∈ [0, 1, (-1), 10, 999999, (-999999)] ∨ n ∈ [1000000, (-1000000)] ∨ (-500 ≤ n ∧ n < 500)) := by
  unfold p_spec_DrawFormatInt
  obtain ⟨v, a', s', e, b1, b2, b3, b4⟩ := pick_ok hx (n := 1000) (at_ := 0) (s := 0) (by omega) (by omega) (by omega)
  have ew : IntKind.wrap .i64 (v - 500) = v - 500 := wr (by omega) (by omega)
  rw [e, Option.bind_some]
  dsimp only
  rw [ew]
  obtain ⟨n, a2, s2, e2, hn, _, _⟩ := among_ok hx (l := [0, 1, (-1), 10, 999999, (-999999), 1000000, (-1000000), v - 500]) (by simp) (by simp) (at_ := a') (s := s') (by omega) (by omega)
  rw [e2, Option.bind_some]
  refine ⟨n, rfl, ?_⟩
  simp only [List.mem_cons, List.not_mem_nil, or_false] at hn ⊢
  rcases hn with h | h | h | h | h | h | h | h | h
  · exact .inl (.inl h)
  · exact .inl (.inr (.inl h))
  · exact .inl (.inr (.inr (.inl h)))
  · exact .inl (.inr (.inr (.inr (.inl h))))
  · exact .inl (.inr (.inr (.inr (.inr (.inl h)))))
  · exact .inl (.inr (.inr (.inr (.inr (.inr h)))))
  · exact .inr (.inl (.inl h))
  · exact .inr (.inl (.inr h))
  · exact .inr (.inr (by omega))
theorem drawParse_ok {x : List Int} (hx : Bytes x) : ∃ t, p_spec_DrawParseInt 10 x = some t ∧ (t ∈ decs ∨ ∃ n : Int, -1000 ≤ n ∧ n < 1000 ∧ t = numC n) := by
  unfold p_spec_DrawParseInt
  obtain ⟨b, a', s', e, b3, b4⟩ := oneD_ok hx (n := 2) (at_ := 0) (s := 0) (by omega) (by omega) (by omega)
  rw [e, Option.bind_some]
  dsimp only
  by_cases hb : b = true
  · rw [if_pos hb]
    obtain ⟨t, a2, s2, e2, ht, _, _⟩ := of_ok hx (l := decs) (by decide) (by decide) (a := a') (s := s') (by omega) (by omega)
    have e2' : p_spec_l1Cur_of [(ByteArray.mk #[]), (ByteArray.mk #[45]), (ByteArray.mk #[45, 48]), (ByteArray.mk #[48, 48]), (ByteArray.mk #[48, 49]), (ByteArray.mk #[45, 45, 49]), (ByteArray.mk #[49, 120]), (ByteArray.mk #[57, 57, 57, 57, 57, 57]), (ByteArray.mk #[49, 48, 48, 48, 48, 48, 48]), (ByteArray.mk #[45, 57, 57, 57, 57, 57, 57]), (ByteArray.mk #[49, 56, 52, 52, 54, 55, 52, 52, 48, 55, 51, 55, 48, 57, 53, 53, 49, 54, 49, 55])] x a' s' = some (t, a2, s2) := e2
    rw [e2', Option.bind_some]
    exact ⟨t, rfl, .inl ht⟩
  · rw [if_neg hb]
    obtain ⟨v, a2, s2, e2, b1, b2, _, _⟩ := pick_ok hx (n := 2000) (at_ := a') (s := s') (by omega) (by omega) (by omega)
    have ew : IntKind.wrap .i64 (v - 1000) = v - 1000 := wr (by omega) (by omega)
    rw [e2, Option.bind_some]
    dsimp only
    rw [ew, num_all (Nat.le_refl 10) (by omega) (by omega), Option.bind_some]
    exact ⟨_, rfl, .inr ⟨v - 1000, by omega, by omega, (numC_eq (by omega) (by omega)).symm⟩⟩
theorem drawAppend_ok {x : List Int} (hx : Bytes x) : ∃ s, p_spec_DrawAppendChecksum x = some s ∧ s.size ≤ 3999 := by
  unfold p_spec_DrawAppendChecksum
  obtain ⟨b, a', s', e, b3, b4⟩ := oneD_ok hx (n := 20) (at_ := 0) (s := 0) (by omega) (by omega) (by omega)
  rw [e, Option.bind_some]
  dsimp only
  by_cases hb : b = true
  · rw [if_pos hb]
    obtain ⟨v, a2, s2, e2, b1, b2, _, _⟩ := pick_ok hx (n := 10) (at_ := a') (s := s') (by omega) (by omega) (by omega)
    have ew : IntKind.wrap .i64 (3990 + v) = 3990 + v := wr (by omega) (by omega)
    rw [e2, Option.bind_some]
    dsimp only
    rw [ew, if_pos (by omega), if_pos (by omega)]
    exact ⟨_, rfl, by rw [bytesB_size, List.length_replicate]; omega⟩
  · rw [if_neg hb]
    obtain ⟨t, a2, s2, e2, ht, _, _⟩ := any1_ok hx (a := a') (s := s') (by omega) (by omega)
    rw [e2, Option.bind_some]
    exact ⟨t, rfl, texts_size t ht⟩
theorem vAt_ok {x : List Int} (hx : Bytes x) (hl : x.length ≤ 65536) {i : Int} (h0 : 0 ≤ i) (h1 : i ≤ 100) : ∃ v, p_laws_vAt x i = some v ∧ 0 ≤ v ∧ v ≤ 255 := by
  unfold p_laws_vAt
  by_cases hc : i < (x.length : Int)
  · rw [if_pos hc, if_pos h0]
    have hg := getD_bytes hx i.toNat
    rw [wr (by omega) (by omega)]
    exact ⟨_, rfl, hg.1, hg.2⟩
  · rw [if_neg hc]
    have e1 : IntKind.wrap .i64 (i * 7) = i * 7 := wr (by omega) (by omega)
    have e2 : IntKind.wrap .i64 (i * 7 + (x.length : Int)) = i * 7 + (x.length : Int) := wr (by omega) (by omega)
    rw [e1, e2, Int.tmod_eq_emod_of_nonneg (by omega)]
    exact ⟨_, rfl, by omega, by omega⟩
end Go.GA
