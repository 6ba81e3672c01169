/- Plain law of FnSplitJoin: texts that are drawn, and those that are split. -/
import Derived.Test.YtlpkejcnabminaaDoorJKa
namespace Go.GA
open Go
set_option maxRecDepth 100000
def texts : List ByteArray := [(ByteArray.mk #[]), (ByteArray.mk #[97]), (ByteArray.mk #[97, 44, 98]), (ByteArray.mk #[115, 111, 109, 101, 32, 119, 111, 114, 100, 115]), (ByteArray.mk #[120, 35, 121]), (ByteArray.mk #[45, 49, 50]), (ByteArray.mk #[0, 255]), (ByteArray.mk #[44, 44]), (ByteArray.mk #[48])]
def seps : List ByteArray := [(ByteArray.mk #[44]), (ByteArray.mk #[44]), (ByteArray.mk #[32]), (ByteArray.mk #[]), (ByteArray.mk #[44, 44])]
def marks : List ByteArray := [(ByteArray.mk #[44]), (ByteArray.mk #[59]), (ByteArray.mk #[59]), (ByteArray.mk #[]), (ByteArray.mk #[97, 98])]
theorem of_ok {x : List Int} (hx : Bytes x) {l : List ByteArray} (hl : 0 < l.length) (hl2 : l.length ≤ 1000) {a s : Int} (h0 : 0 ≤ a) (h1 : a ≤ 4611686018427380000) : ∃ v a' s', p_spec_l1Cur_of l x a s = some (v, a', s') ∧ v ∈ l ∧ a ≤ a' ∧ a' ≤ a + 2 := by
  unfold p_spec_l1Cur_of
  obtain ⟨v, a', s', e, h2, h3, h4, h5⟩ := pick_ok hx (n := (l.length : Int)) (at_ := a) (s := s) h0 h1 (by omega)
  rw [e, Option.bind_some]
  dsimp only
  have hv : v < (l.length : Int) := by omega
  rw [if_pos h2, if_pos hv]
  refine ⟨_, a', s', rfl, ?_, h4, h5⟩
  rw [List.getD_eq_getElem?_getD, List.getElem?_eq_getElem (by omega)]
  exact List.getElem_mem _
theorem any1_ok {x : List Int} (hx : Bytes x) {a s : Int} (h0 : 0 ≤ a) (h1 : a ≤ 4611686018427380000) : ∃ v a' s', p_spec_l1Cur_any1 x a s = some (v, a', s') ∧ v ∈ texts ∧ a ≤ a' ∧ a' ≤ a + 2 := by
  unfold p_spec_l1Cur_any1
  obtain ⟨v, a', s', e, h2, h3, h4⟩ := of_ok (l := texts) hx (by decide) (by decide) (s := s) h0 h1
  have e' : p_spec_l1Cur_of [(ByteArray.mk #[]), (ByteArray.mk #[97]), (ByteArray.mk #[97, 44, 98]), (ByteArray.mk #[115, 111, 109, 101, 32, 119, 111, 114, 100, 115]), (ByteArray.mk #[120, 35, 121]), (ByteArray.mk #[45, 49, 50]), (ByteArray.mk #[0, 255]), (ByteArray.mk #[44, 44]), (ByteArray.mk #[48])] x a s = some (v, a', s') := e
  rw [e', Option.bind_some]
  exact ⟨v, a', s', rfl, h2, h3, h4⟩
theorem drawSplit_ok {x : List Int} (hx : Bytes x) : ∃ s sep, p_spec_DrawSplitString x = some (s, sep) ∧ s ∈ texts ∧ sep ∈ seps := by
  unfold p_spec_DrawSplitString
  obtain ⟨v, a, s, e, h2, h3, h4⟩ := any1_ok hx (a := 0) (s := 0) (by omega) (by omega)
  rw [e, Option.bind_some]
  obtain ⟨m, a', s', e2, h5, _, _⟩ := of_ok (l := seps) hx (by decide) (by decide) (a := a) (s := s) (by omega) (by omega)
  have e2' : p_spec_l1Cur_of [(ByteArray.mk #[44]), (ByteArray.mk #[44]), (ByteArray.mk #[32]), (ByteArray.mk #[]), (ByteArray.mk #[44, 44])] x a s = some (m, a', s') := e2
  dsimp only
  rw [e2', Option.bind_some]
  exact ⟨v, m, rfl, h2, h5⟩
theorem drawLess_ok {x : List Int} (hx : Bytes x) : ∃ s t, p_spec_DrawLessString x = some (s, t) ∧ s ∈ texts ∧ t ∈ texts := by
  unfold p_spec_DrawLessString
  obtain ⟨v, a, s, e, h2, h3, h4⟩ := any1_ok hx (a := 0) (s := 0) (by omega) (by omega)
  rw [e, Option.bind_some]
  obtain ⟨m, a', s', e2, h5, _, _⟩ := any1_ok hx (a := a) (s := s) (by omega) (by omega)
  dsimp only
  rw [e2, Option.bind_some]
  exact ⟨v, m, rfl, h2, h5⟩
theorem texts_size : ∀ s ∈ texts, s.size ≤ 5000 := by decide
theorem marks_size : ∀ s ∈ marks, s.size ≤ 1000 := by decide
theorem bytesB_size (l : List Int) : (bytesB l).size = l.length := by
  have key : ∀ (l : List Int) (r : ByteArray), (l.foldl (fun r n => r.push (UInt8.ofNat n.toNat)) r).size = r.size + l.length := by
    intro l
    induction l with
    | nil => intro r; rfl
    | cons x l ih =>
      intro r
      rw [List.foldl_cons, ih, ByteArray.size_push, List.length_cons]
      omega
  have h := key l ByteArray.empty
  rw [show ByteArray.empty.size = 0 from rfl, Nat.zero_add] at h
  exact h
def JoinR (r : Option (List ByteArray × ByteArray)) : Prop := ∃ l m, r = some (l, m) ∧ (∀ s ∈ l, s.size ≤ 5000) ∧ l.length ≤ 1000 ∧ m.size ≤ 1000
theorem join_run {x : List Int} (hx : Bytes x) (n : Int) (hn : n ≤ 4) {K : (Int × Int × Int × List ByteArray) → Option (List ByteArray × ByteArray)} {F : (Int × Int × Int × List ByteArray) → ((Int × Int × Int × List ByteArray) → Option (List ByteArray × ByteArray)) → Option (List ByteArray × ByteArray)}
    (hK : ∀ s2 : Int × Int × Int × List ByteArray, 0 ≤ s2.2.1 → s2.2.1 ≤ 1000 → (∀ s ∈ s2.2.2.2, s.size ≤ 5000) → s2.2.2.2.length ≤ 900 → JoinR (K s2))
    (hF : ∀ s2 c4, F s2 c4 = (if s2.1 < n then (p_spec_l1Cur_any1 x s2.2.1 s2.2.2.1).bind (fun r9 => if (s2.2.2.2.length : Int) + 1 ≤ 1000000000 then c4 ((IntKind.wrap .i64 (s2.1 + 1)), r9.2.1, r9.2.2, (s2.2.2.2 ++ [r9.1])) else none) else K s2)) :
    ∀ (d f : Nat) (s2 : Int × Int × Int × List ByteArray), n - s2.1 ≤ d → d < f → 0 ≤ s2.1 → 0 ≤ s2.2.1 → s2.2.1 + 2 * d ≤ 1000 → (∀ s ∈ s2.2.2.2, s.size ≤ 5000) → s2.2.2.2.length + d ≤ 900 → JoinR (whl F f s2)
  | 0, f, s2, h, hf, h0, h1, h2, h3, h4 => by
    obtain ⟨f, rfl⟩ : ∃ g, f = g + 1 := ⟨f - 1, by omega⟩
    show JoinR (F s2 (fun s' => whl F f s'))
    have h' : n - s2.1 ≤ 0 := h
    rw [hF, if_neg (by omega)]
    exact hK s2 h1 (by omega) h3 (by omega)
  | d + 1, f, s2, h, hf, h0, h1, h2, h3, h4 => by
    obtain ⟨f, rfl⟩ : ∃ g, f = g + 1 := ⟨f - 1, by omega⟩
    have ih := fun s2 => join_run hx n hn hK hF d f s2
    show JoinR (F s2 (fun s' => whl F f s'))
    rw [hF]
    by_cases hc : s2.1 < n
    · obtain ⟨v, a', s', e, q1, q2, q3⟩ := any1_ok hx (a := s2.2.1) (s := s2.2.2.1) h1 (by omega)
      have hh : n - s2.1 ≤ (d : Int) + 1 := by have := h; omega
      rw [if_pos hc, e, Option.bind_some, if_pos (by omega), wr (by omega) (by omega)]
      refine ih (s2.1 + 1, a', s', s2.2.2.2 ++ [v]) (by show n - (s2.1 + 1) ≤ _; omega) (by omega) (by show 0 ≤ s2.1 + 1; omega) (by show 0 ≤ a'; omega) (by show a' + 2 * (d : Int) ≤ 1000; omega) (fun s hs => ?_) (by show (s2.2.2.2 ++ [v]).length + d ≤ 900; rw [List.length_append]; simp only [List.length_cons, List.length_nil]; omega)
      rcases List.mem_append.1 hs with hs | hs
      · exact h3 s hs
      · rw [List.mem_singleton.1 hs]; exact texts_size v q1
    · rw [if_neg hc]
      exact hK s2 h1 (by omega) h3 (by omega)
theorem drawJoin_ok {x : List Int} (hx : Bytes x) {fu : Nat} (hf : 1000 ≤ fu) : JoinR (p_spec_DrawJoinStrings fu x) := by
  unfold p_spec_DrawJoinStrings
  obtain ⟨n, a0, s0, e0, h0, h1, h2, h3⟩ := pick_ok hx (n := 4) (at_ := 0) (s := 0) (by omega) (by omega) (by omega)
  rw [e0, Option.bind_some]
  refine join_run hx n (by omega) (fun s2 q1 q2 q3 q4 => ?_) (fun _ _ => rfl) 4 fu (0, a0, s0, []) (by show n - 0 ≤ 4; omega) (by omega) (by show (0 : Int) ≤ 0; omega) (by show 0 ≤ a0; omega) (by show a0 + 2 * 4 ≤ 1000; omega) (fun s hs => nomatch hs) (by show 0 + 4 ≤ 900; omega)
  unfold jn
  dsimp only
  have key : ∀ (a s : Int) (l : List ByteArray), 0 ≤ a → a ≤ 2000 → (∀ s ∈ l, s.size ≤ 5000) → l.length ≤ 1000 → JoinR ((p_spec_l1Cur_of [(ByteArray.mk #[44]), (ByteArray.mk #[59]), (ByteArray.mk #[59]), (ByteArray.mk #[]), (ByteArray.mk #[97, 98])] x a s).bind (fun r14 => some (l, r14.1))) := by
    intro a s l k1 k2 k3 k4
    obtain ⟨m, a', s', e, w, _, _⟩ := of_ok (l := marks) hx (by decide) (by decide) (a := a) (s := s) k1 (by omega)
    have e' : p_spec_l1Cur_of [(ByteArray.mk #[44]), (ByteArray.mk #[59]), (ByteArray.mk #[59]), (ByteArray.mk #[]), (ByteArray.mk #[97, 98])] x a s = some (m, a', s') := e
    rw [e', Option.bind_some]
    exact ⟨l, m, rfl, k3, k4, marks_size m w⟩
  obtain ⟨b, a1, s1, e1, w1, w2⟩ := oneD_ok hx (n := 20) (at_ := s2.2.1) (s := s2.2.2.1) q1 (by omega) (by omega)
  rw [e1, Option.bind_some]
  dsimp only
  cases b with
  | false =>
    rw [if_neg (by simp)]
    exact key _ _ _ (by omega) (by omega) q3 (by omega)
  | true =>
    rw [if_pos rfl]
    obtain ⟨v, a2, s2', e2, w3, w4, w5, w6⟩ := pick_ok hx (n := 20) (at_ := a1) (s := s1) (by omega) (by omega) (by omega)
    rw [e2, Option.bind_some]
    dsimp only
    rw [wr (by omega) (by omega), if_pos (by omega), if_pos (by omega), if_pos (by omega)]
    refine key _ _ _ (by omega) (by omega) (fun s hs => ?_) (by rw [List.length_append]; simp only [List.length_cons, List.length_nil]; omega)
    rcases List.mem_append.1 hs with hs | hs
    · exact q3 s hs
    · rw [List.mem_singleton.1 hs, bytesB_size, List.length_replicate]; omega
end Go.GA
