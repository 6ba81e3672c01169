/- Plain law of FnCounts: counts of rolls. -/
import Derived.Test.YtalieojbaiiioaaXKg
namespace Go.GA.E
open Go
set_option maxRecDepth 100000
theorem idxOf_first {v : Int} : ∀ (l : List Int) (i : Nat), i < l.length → l.getD i 0 = v → (∀ j, j < i → l.getD j 0 ≠ v) → l.idxOf v = i
  | [], i, h, _, _ => by simp at h
  | x :: l, 0, _, h, _ => by
    have : x = v := by simpa using h
    simp [List.idxOf_cons, this]
  | x :: l, i + 1, hi, h, hn => by
    have h0 : x ≠ v := by simpa using hn 0 (by omega)
    have := idxOf_first l i (by simpa using hi) (by simpa using h) (fun j hj => by simpa using hn (j + 1) (by omega))
    rw [List.idxOf_cons, this, beq_eq_false_iff_ne.2 h0]; rfl
/-- the place of a number -/
theorem search_eq {R : Type} (l : List Int) (v : Int) (K : Int → Unit → R) :
    cnt (fun i (s : Unit) c k => (if ((decide (i < (l.length : Int))) && (!(decide ((l.getD i.toNat 0) = v)))) = true then c () else k i s)) K (Int.toNat ((l.length : Int) - 0)) 0 () = K (l.idxOf v : Int) () := by
  have key : ∀ (d i : Nat), d + i = l.length → (∀ j, j < i → l.getD j 0 ≠ v) → 
      cnt (fun i (s : Unit) c k => (if ((decide (i < (l.length : Int))) && (!(decide ((l.getD i.toNat 0) = v)))) = true then c () else k i s)) K d (i : Int) () = K (l.idxOf v : Int) () := by
    intro d
    induction d with
    | zero =>
      intro i h hn
      simp only [cnt]
      have : v ∉ l := fun hm => by
        obtain ⟨j, hj, e⟩ := List.getElem_of_mem hm
        exact hn j (by omega) (by simp [List.getD_eq_getElem?_getD, List.getElem?_eq_getElem hj, e])
      rw [List.idxOf_eq_length this, show i = l.length by omega]
    | succ d ih =>
      intro i h hn
      have hi : i < l.length := by omega
      simp only [cnt, Int.toNat_natCast]
      by_cases he : l.getD i 0 = v
      · rw [if_neg (by rw [decide_eq_true he]; simp)]
        have : l.idxOf v = i := idxOf_first l i hi he hn
        rw [this]
      · rw [if_pos (by rw [decide_eq_true (by omega : (i : Int) < (l.length : Int)), decide_eq_false he]; rfl), show (i : Int) + 1 = ((i + 1 : Nat) : Int) from rfl]
        exact ih (i + 1) (by omega) (fun j hj => by
          by_cases hji : j = i
          · subst hji; exact he
          · exact hn j (by omega))
  have := key l.length 0 (by omega) (fun j hj => by omega)
  simpa using this
theorem Index_eq (l : List Int) (v : Int) : p_slices_Index_int_int l v = if v ∈ l then (l.idxOf v : Int) else -1 := by
  unfold p_slices_Index_int_int
  have key : ∀ (d i : Nat), d + i = l.length → (∀ j, j < i → l.getD j 0 ≠ v) → 
      cnt (fun i2 (s1 : Unit) c3 _ => (if v = (l.getD i2.toNat 0) then i2 else c3 ())) (fun i2 (s1 : Unit) => (-1)) d (i : Int) () = if v ∈ l then (l.idxOf v : Int) else -1 := by
    intro d
    induction d with
    | zero =>
      intro i h hn
      simp only [cnt]
      have : v ∉ l := fun hm => by
        obtain ⟨j, hj, e⟩ := List.getElem_of_mem hm
        exact hn j (by omega) (by simp [List.getD_eq_getElem?_getD, List.getElem?_eq_getElem hj, e])
      rw [if_neg this]
    | succ d ih =>
      intro i h hn
      have hi : i < l.length := by omega
      simp only [cnt, Int.toNat_natCast]
      by_cases he : v = l.getD i 0
      · rw [if_pos he]
        have hm : v ∈ l := by rw [he]; simp [List.getD_eq_getElem?_getD, List.getElem?_eq_getElem hi]
        have : l.idxOf v = i := idxOf_first l i hi he.symm hn
        rw [if_pos hm, this]
      · rw [if_neg he, show (i : Int) + 1 = ((i + 1 : Nat) : Int) from rfl]
        exact ih (i + 1) (by omega) (fun j hj => by
          by_cases hji : j = i
          · subst hji; exact fun h => he h.symm
          · exact hn j (by omega))
  have := key l.length 0 (by omega) (fun j hj => by omega)
  simpa using this
theorem has_eq (l : List Int) (v : Int) : p_impl_has l v = decide (v ∈ l) := by
  unfold p_impl_has p_slices_Contains_int_int
  rw [Index_eq]
  by_cases h : v ∈ l
  · simp [h]
  · simp [h]
theorem areHas_eq (x y : List Int) : p_impl_areAll_intv2 x y = x.all (fun a => decide (a ∈ y)) := by
  unfold p_impl_areAll_intv2 p_slices_ContainsFunc_int_intv2 p_slices_IndexFunc_int_intv2
  rw [noneFunc (fun a => p_impl_areAll_int_1v2 a y)]
  congr 1
  funext a
  simp [p_impl_areAll_int_1v2, p_impl_CountRolls_1, has_eq]
/-- one more of a number -/
def bump (l : List Int) (v : Int) (s : List Int) : List Int := s.set (l.idxOf v) (IntKind.wrap .i64 (s.getD (l.idxOf v) 0 + 1))
theorem foldl_len {l : List Int} : ∀ (rolls s : List Int), (rolls.foldl (fun s v => bump l v s) s).length = s.length
  | [], s => rfl
  | v :: r, s => by rw [List.foldl_cons, foldl_len r]; simp [bump]
theorem rolls_eq {x y : List Int} (h : x.length = 6) : ∃ a q, a.length ≤ 6 ∧ p_spec_CountRolls x y = some (a, q) ∧ p_impl_CountRolls x y = some (a, q) ∧ (q = true → a = y.foldl (fun s v => bump (dd x) v s) (List.replicate (dd x).length 0) ∧ y.length ≤ 12 ∧ ∀ v ∈ y, v ∈ dd x) := by
  unfold p_spec_CountRolls p_impl_CountRolls
  rw [l2Die_eq h, rolls_loop, areHas_eq]
  cases hd : p_impl_IsDie x with
  | false => exact ⟨[], false, by simp, by simp, by simp, by simp⟩
  | true =>
    rw [numbers_eq h (sorted_of_IsDie h hd), numbers_impl h]
    have hdl : (dd x).length ≤ 6 := h ▸ dd_len x
    by_cases hl : (y.length : Int) ≤ 12
    · cases ha : y.all (fun a => decide (a ∈ x)) with
      | true =>
        have hin : y.all (fun a => p_spec_l1In a 0 30) = true := by
          simp only [List.all_eq_true, decide_eq_true_eq] at ha ⊢
          exact fun a hy => sorted_In h hd a (ha a hy)
        refine ⟨y.foldl (fun s v => bump (dd x) v s) (List.replicate (dd x).length 0), true, ?_, ?_, ?_, fun _ => ⟨rfl, by omega, fun v hv => (dd_mem _ _).2 (by simp only [List.all_eq_true, decide_eq_true_eq] at ha; exact ha v hv)⟩⟩
        · rw [foldl_len]; simpa using hdl
        · simp only [hin, decide_eq_true hl, Option.bind_some, Bool.not_true, Bool.false_or, Bool.and_true, Bool.false_eq_true, if_false]
          rw [if_pos (by omega), cnt_list (fun v s c => c (bump (dd x) v s)) y 0 (by omega) (fun i s c h0 h1 => ?_)]
          · rw [lrun_fold]; simp
          · rw [search_eq]
            have hm : y.getD i.toNat 0 ∈ dd x := by
              rw [dd_mem]
              simp only [List.all_eq_true, decide_eq_true_eq] at ha
              exact ha _ (by rw [List.getD_eq_getElem?_getD, List.getElem?_eq_getElem (by omega : i.toNat < y.length)]; exact List.getElem_mem _)
            have := List.idxOf_lt_length_iff.2 hm
            rw [if_neg (by omega), if_pos (by omega), Int.toNat_natCast]; rfl
        · simp only [Option.bind_some, Bool.not_true, Bool.false_or, Bool.false_eq_true, if_false, Bool.or_false]
          have : ¬ 12 < (y.length : Int) := by omega
          rw [decide_eq_false this]
          simp only [Bool.false_eq_true, if_false]
          rw [if_pos (by omega), cnt_list (fun v s c => c (bump (dd x) v s)) y 0 (by omega) (fun i s c h0 h1 => ?_)]
          · rw [lrun_fold]; simp
          · have hm : y.getD i.toNat 0 ∈ dd x := by
              rw [dd_mem]
              simp only [List.all_eq_true, decide_eq_true_eq] at ha
              exact ha _ (by rw [List.getD_eq_getElem?_getD, List.getElem?_eq_getElem (by omega : i.toNat < y.length)]; exact List.getElem_mem _)
            have := List.idxOf_lt_length_iff.2 hm
            rw [Index_eq, if_pos hm, if_pos (by omega), if_pos (by omega), Int.toNat_natCast]; rfl
      | false =>
        refine ⟨[], false, by simp, ?_, by simp, by simp⟩
        simp only [Option.bind_some, Bool.not_true, Bool.false_or]
        split
        · rfl
        · rw [if_pos (by omega), cnt_list (fun v s c => if v ∈ dd x then c (bump (dd x) v s) else some ([], false)) y 0 (by omega) (fun i s c h0 h1 => ?_)]
          · refine lrun_bad (b := fun v => decide (v ∉ dd x)) (G := fun v s => bump (dd x) v s) _ (fun v s c hb => by rw [if_neg (by simpa using hb)]) (fun v s c hb => by rw [if_pos (by simpa using hb)]) y _ ?_
            rw [List.all_eq_false] at ha
            obtain ⟨v, hv, hn⟩ := ha
            exact List.any_eq_true.2 ⟨v, hv, by simpa [dd_mem] using hn⟩
          · rw [search_eq]
            by_cases hm : y.getD i.toNat 0 ∈ dd x
            · have := List.idxOf_lt_length_iff.2 hm
              rw [if_neg (by omega), if_pos (by omega), Int.toNat_natCast, if_pos hm]; rfl
            · rw [List.idxOf_eq_length hm, if_pos rfl, if_neg hm]
    · refine ⟨[], false, by simp, ?_, ?_, by simp⟩
      · simp [decide_eq_false hl]
      · have : 12 < (y.length : Int) := by omega
        simp [this]
section
variable {x y : List Int} {fu : Nat}
theorem tested_eq (n : Nat) : p_impl_isTested (n : Int) = decide (n ≤ 8) := by
  unfold p_impl_isTested
  rw [within_eq]
  by_cases h : n ≤ 8
  · rw [decide_eq_true h, decide_eq_true (by omega)]
  · rw [decide_eq_false h, decide_eq_false (by omega)]
end
end Go.GA.E
