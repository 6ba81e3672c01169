/- Plain law of CountRolls. -/
import Derived.Test.YtkgfflnngmmniaaP11b
namespace Go.GA
open Go
theorem sorted_In {x : List Int} (h6 : x.length = 6) (h : p_impl_IsDie x = true) : ∀ v ∈ x, p_spec_l1In v 0 30 = true := by
  unfold p_impl_IsDie at h
  rw [areAll_eq] at h
  simp only [Bool.and_eq_true, List.all_eq_true] at h
  exact fun v hv => h.1 v hv
theorem lrun_congr_mem {α S R : Type} {F G : α → S → (S → R) → R} (k : S → R) : ∀ (xs : List α) (s : S), (∀ x ∈ xs, ∀ s c, F x s c = G x s c) → lrun F k xs s = lrun G k xs s
  | [], s, _ => rfl
  | x :: xs, s, h => by
    show F x s _ = G x s _
    rw [h x (by simp)]
    congr 1
    funext s'
    exact lrun_congr_mem k xs s' (fun y hy => h y (by simp [hy]))
theorem lrun_bad {α S R : Type} {F : α → S → (S → R) → R} {b : α → Bool} {G : α → S → S} {r : R} (k : S → R) (hb : ∀ x s c, b x = true → F x s c = r) (hg : ∀ x s c, b x = false → F x s c = c (G x s)) : ∀ (xs : List α) (s : S), xs.any b = true → lrun F k xs s = r
  | [], s, h => by simp at h
  | x :: xs, s, h => by
    show F x s _ = r
    cases hx : b x with
    | true => exact hb x s _ hx
    | false =>
      rw [hg x s _ hx]
      exact lrun_bad k hb hg xs _ (by simpa [hx] using h)
/-- the rolls are as told, up to the limit -/
theorem rolls_loop (x : List Int) : p_spec_l11Rolls x = (decide ((x.length : Int) ≤ 12) && x.all (fun a => p_spec_l1In a 0 30)) := by
  unfold p_spec_l11Rolls
  have key : ∀ (d i : Nat), d + i = x.length → cnt (fun i2 (s1 : Unit) c3 k15 => (if ((decide (i2 < (x.length : Int))) && (decide (i2 ≤ 12))) = true then (if (p_spec_l1In (x.getD i2.toNat 0) 0 30) = true then c3 () else false) else k15 i2 s1)) (fun i2 (s1 : Unit) => (decide ((x.length : Int) ≤ 12))) d (i : Int) () = (decide ((x.length : Int) ≤ 12) && (x.drop i).all (fun a => p_spec_l1In a 0 30)) := by
    intro d
    induction d with
    | zero => intro i h; rw [List.drop_eq_nil_of_le (by omega)]; simp [cnt]
    | succ d ih =>
      intro i h
      have h1 : i < x.length := by omega
      simp only [cnt]
      rw [show (i : Int) + 1 = ((i + 1 : Nat) : Int) from rfl, ih (i + 1) (by omega), List.drop_eq_getElem_cons h1, List.all_cons]
      simp only [Int.toNat_natCast, List.getD_eq_getElem?_getD, List.getElem?_eq_getElem h1, Option.getD_some]
      by_cases h12 : (i : Int) ≤ 12
      · have hc : (decide ((i : Int) < (x.length : Int)) && decide ((i : Int) ≤ 12)) = true := by simp; omega
        rw [if_pos hc]
        cases p_spec_l1In x[i] 0 30 <;> simp
      · have hc : ¬ (decide ((i : Int) < (x.length : Int)) && decide ((i : Int) ≤ 12)) = true := by simp; omega
        rw [if_neg hc]
        have : ¬ (x.length : Int) ≤ 12 := by omega
        simp [this]
  have := key x.length 0 (by omega)
  simp only [Int.sub_zero, Int.toNat_natCast]
  simpa using this
theorem areHas_eq (x y : List Int) : p_impl_areAll_intv1 x y = x.all (fun a => decide (a ∈ y)) := by
  unfold p_impl_areAll_intv1 p_slices_ContainsFunc_int_intv1 p_slices_IndexFunc_int_intv1
  rw [noneFunc (fun a => p_impl_areAll_int_1v1 a y)]
  congr 1
  funext a
  simp [p_impl_areAll_int_1v1, p_impl_CountRolls_1, has_eq]
/-- one more of a number -/
def bump (l : List Int) (v : Int) (s : List Int) : List Int := s.set (l.idxOf v) (IntKind.wrap .i64 (s.getD (l.idxOf v) 0 + 1))
theorem foldl_len {l : List Int} : ∀ (rolls s : List Int), (rolls.foldl (fun s v => bump l v s) s).length = s.length
  | [], s => rfl
  | v :: r, s => by rw [List.foldl_cons, foldl_len r]; simp [bump]
theorem rolls_eq {x y : List Int} (h : x.length = 6) : ∃ a q, a.length ≤ 6 ∧ p_spec_CountRolls x y = some (a, q) ∧ p_impl_CountRolls x y = some (a, q) := by
  unfold p_spec_CountRolls p_impl_CountRolls
  rw [l2Die_eq h, rolls_loop, areHas_eq]
  cases hd : p_impl_IsDie x with
  | false => exact ⟨[], false, by simp, by simp, by simp⟩
  | true =>
    rw [numbers_eq h (sorted_of_IsDie h hd), numbers_impl h]
    have hdl : (dd x).length ≤ 6 := h ▸ dd_len x
    by_cases hl : (y.length : Int) ≤ 12
    · cases ha : y.all (fun a => decide (a ∈ x)) with
      | true =>
        have hin : y.all (fun a => p_spec_l1In a 0 30) = true := by
          simp only [List.all_eq_true, decide_eq_true_eq] at ha ⊢
          exact fun a hy => sorted_In h hd a (ha a hy)
        refine ⟨y.foldl (fun s v => bump (dd x) v s) (List.replicate (dd x).length 0), true, ?_, ?_, ?_⟩
        · rw [foldl_len]; simpa using hdl
        · simp only [hin, decide_eq_true hl, Option.bind_some, Bool.not_true, Bool.false_or, Bool.and_true, Bool.false_eq_true, if_false]
          rw [if_pos (by omega), cnt_list (fun v s c => c (bump (dd x) v s)) y 0 (by omega) (fun i s c h0 h1 => ?_)]
          · rw [lrun_fold]; simp
          · rw [search_eq]
            have hm : y.getD i.toNat 0 ∈ dd x := by
              rw [dd_mem]
              simp only [List.all_eq_true, decide_eq_true_eq] at ha
              exact ha _ (by rw [List.getD_eq_getElem?_getD, List.getElem?_eq_getElem (by omega : i.toNat < y.length)]; exact List.getElem_mem _)
            have := List.idxOf_lt_length_iff.2 hm
            rw [if_neg (by omega), if_pos (by omega), Int.toNat_natCast]; rfl
        · simp only [Option.bind_some, Bool.not_true, Bool.false_or, Bool.false_eq_true, if_false, Bool.or_false]
          have : ¬ 12 < (y.length : Int) := by omega
          rw [decide_eq_false this]
          simp only [Bool.false_eq_true, if_false]
          rw [if_pos (by omega), cnt_list (fun v s c => c (bump (dd x) v s)) y 0 (by omega) (fun i s c h0 h1 => ?_)]
          · rw [lrun_fold]; simp
          · have hm : y.getD i.toNat 0 ∈ dd x := by
              rw [dd_mem]
              simp only [List.all_eq_true, decide_eq_true_eq] at ha
              exact ha _ (by rw [List.getD_eq_getElem?_getD, List.getElem?_eq_getElem (by omega : i.toNat < y.length)]; exact List.getElem_mem _)
            have := List.idxOf_lt_length_iff.2 hm
            rw [Index_eq, if_pos hm, if_pos (by omega), if_pos (by omega), Int.toNat_natCast]; rfl
      | false =>
        refine ⟨[], false, by simp, ?_, by simp⟩
        simp only [Option.bind_some, Bool.not_true, Bool.false_or]
        split
        · rfl
        · rw [if_pos (by omega), cnt_list (fun v s c => if v ∈ dd x then c (bump (dd x) v s) else some ([], false)) y 0 (by omega) (fun i s c h0 h1 => ?_)]
          · refine lrun_bad (b := fun v => decide (v ∉ dd x)) (G := fun v s => bump (dd x) v s) _ (fun v s c hb => by rw [if_neg (by simpa using hb)]) (fun v s c hb => by rw [if_pos (by simpa using hb)]) y _ ?_
            rw [List.all_eq_false] at ha
            obtain ⟨v, hv, hn⟩ := ha
            exact List.any_eq_true.2 ⟨v, hv, by simpa [dd_mem] using hn⟩
          · rw [search_eq]
            by_cases hm : y.getD i.toNat 0 ∈ dd x
            · have := List.idxOf_lt_length_iff.2 hm
              rw [if_neg (by omega), if_pos (by omega), Int.toNat_natCast, if_pos hm]; rfl
            · rw [List.idxOf_eq_length hm, if_pos rfl, if_neg hm]
    · refine ⟨[], false, by simp, ?_, ?_⟩
      · simp [decide_eq_false hl]
      · have : 12 < (y.length : Int) := by omega
        simp [this]
theorem pure_FnExactCountRolls {a b : List Int} (ha : a.length = 6) : p_laws_FnExactCountRolls a b = some true := by
  unfold p_laws_FnExactCountRolls
  by_cases hb : 1048576 < (b.length : Int)
  · rw [if_pos hb]
  · rw [if_neg hb, toIntS_eq (by omega), toIntA6_eq ha]
    obtain ⟨w, q, hw, e1, e2⟩ := rolls_eq (x := a) (y := b) ha
    obtain ⟨m1, m2⟩ := held_mark w (by omega)
    obtain ⟨n1, n2⟩ := held_mark b (by omega)
    simp only [e1, e2, eqIntS_eq, m1, m2, n1, n2, Option.bind_some]
    have h0 : ¬ (1 + (w.length : Int) < 0) := by omega
    have h1 : ¬ (1 + (b.length : Int) < 0) := by omega
    simp [h0, h1]
end Go.GA
