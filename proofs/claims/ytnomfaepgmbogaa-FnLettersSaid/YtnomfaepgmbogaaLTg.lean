/- Lists of letters: where the j-th letter c stands; letters of rows of faces. -/
import Derived.Test.YtnomfaepgmbogaaGpA
namespace Go.GA
open Go
/-- at idx stands the letter c for the j-th time -/
def OC (x : List Int) (c : Int) (j idx : Nat) : Prop := idx < x.length ∧ x.getD idx 0 = c ∧ (x.take idx).count c = j
theorem cnt_take_mono (x : List Int) (c : Int) {a b : Nat} (h : a ≤ b) : (x.take a).count c ≤ (x.take b).count c := by
  have : x.take a = (x.take b).take a := by rw [List.take_take, Nat.min_eq_left h]
  rw [this]
  exact (List.take_sublist a (x.take b)).count_le c
theorem cnt_take_succ (x : List Int) {a : Nat} (h : a < x.length) (c : Int) : (x.take (a + 1)).count c = (x.take a).count c + (if x.getD a 0 = c then 1 else 0) := by
  have e : x.getD a 0 = x[a] := by rw [List.getD_eq_getElem?_getD, List.getElem?_eq_getElem h]; rfl
  rw [List.take_succ_eq_append_getElem h, List.count_append, e]
  by_cases hc : x[a] = c
  · simp [hc]
  · simp [hc]
theorem OC.lt {x : List Int} {c : Int} {j j' a b : Nat} (h : OC x c j a) (h' : OC x c j' b) : a < b ↔ j < j' := by
  obtain ⟨h1, h2, h3⟩ := h
  obtain ⟨h4, h5, h6⟩ := h'
  constructor
  · intro hab
    have := cnt_take_mono x c (show a + 1 ≤ b from hab)
    rw [cnt_take_succ x h1, if_pos h2] at this
    omega
  · intro hj
    refine Nat.lt_of_not_le fun hba => ?_
    have := cnt_take_mono x c hba
    omega
theorem OC.uniq {x : List Int} {c : Int} {j a b : Nat} (h : OC x c j a) (h' : OC x c j b) : a = b := by
  have h1 := h.lt h'
  have h2 := h'.lt h
  omega
theorem OC.lt_count {x : List Int} {c : Int} {j a : Nat} (h : OC x c j a) : j < x.count c := by
  obtain ⟨h1, h2, h3⟩ := h
  have := cnt_take_mono x c (show a + 1 ≤ x.length from h1)
  rw [cnt_take_succ x h1, if_pos h2, List.take_length] at this
  omega
theorem OC.ex (c : Int) : ∀ (x : List Int) (j : Nat), j < x.count c → ∃ idx, OC x c j idx
  | [], j, h => by simp at h
  | y :: x, j, h => by
    by_cases hy : y = c
    · cases j with
      | zero => exact ⟨0, by simp, by simpa using hy, by simp⟩
      | succ j =>
        obtain ⟨i, h1, h2, h3⟩ := OC.ex c x j (by simp [hy] at h; exact h)
        exact ⟨i + 1, by simpa using h1, by simpa using h2, by simp [hy, h3]⟩
    · obtain ⟨i, h1, h2, h3⟩ := OC.ex c x j (by simp [hy] at h; exact h)
      exact ⟨i + 1, by simpa using h1, by simpa using h2, by simp [hy, h3]⟩
theorem OC.rev {x : List Int} {c : Int} {j a : Nat} (h : OC x c j a) : OC x.reverse c (x.count c - 1 - j) (x.length - 1 - a) := by
  have hj := h.lt_count
  obtain ⟨h1, h2, h3⟩ := h
  refine ⟨by rw [List.length_reverse]; omega, ?_, ?_⟩
  · rw [List.getD_eq_getElem?_getD, List.getElem?_reverse (by omega), show x.length - 1 - (x.length - 1 - a) = a by omega, ← List.getD_eq_getElem?_getD]
    exact h2
  · have e : x.reverse.take (x.length - 1 - a) = (x.drop (a + 1)).reverse := by
      rw [List.reverse_drop, show x.length - (a + 1) = x.length - 1 - a by omega]
    rw [e, List.count_reverse]
    have : x.count c = (x.take (a + 1)).count c + (x.drop (a + 1)).count c := by rw [← List.count_append, List.take_append_drop]
    rw [cnt_take_succ x h1, if_pos h2] at this
    omega
/-! ### Letters of rows of faces -/
def rowAt (p : List (List Int)) (c : Nat) : List Int := p.getD c []
def Lf (p : List (List Int)) (f : Nat) : List Int := (List.range p.length).flatMap fun c => List.replicate ((rowAt p c).count (f : Int)) (c : Int)
def LL (p : List (List Int)) (F : Nat) : List Int := (List.range F).flatMap (Lf p)
theorem LL_succ (p : List (List Int)) (F : Nat) : LL p (F + 1) = LL p F ++ Lf p F := by
  unfold LL; rw [List.range_succ, List.flatMap_append]; simp
theorem count_blocks (g : Nat → Nat) (c : Nat) : ∀ (m : Nat), ((List.range m).flatMap fun k => List.replicate (g k) (k : Int)).count (c : Int) = if c < m then g c else 0
  | 0 => by simp
  | m + 1 => by
    rw [List.range_succ, List.flatMap_append, List.count_append, count_blocks g c m]
    simp only [List.flatMap_cons, List.flatMap_nil, List.append_nil]
    rw [List.count_replicate]
    by_cases h1 : c < m
    · have hb : ((m : Int) == (c : Int)) = false := by rw [beq_eq_false_iff_ne]; omega
      rw [hb]
      simp [h1, show c < m + 1 by omega]
    · by_cases h2 : c = m
      · subst h2; simp
      · have hb : ((m : Int) == (c : Int)) = false := by rw [beq_eq_false_iff_ne]; omega
        rw [hb]
        simp [h1, show ¬ c < m + 1 by omega]
theorem count_Lf (p : List (List Int)) (f c : Nat) : (Lf p f).count (c : Int) = if c < p.length then (rowAt p c).count (f : Int) else 0 := count_blocks _ c p.length
theorem countP_step (l : List Int) (h : ∀ v ∈ l, 0 ≤ v) (F : Nat) : l.countP (fun v => decide (v < ((F + 1 : Nat) : Int))) = l.countP (fun v => decide (v < (F : Int))) + l.count (F : Int) := by
  induction l with
  | nil => rfl
  | cons a l ih =>
    have ih' := ih (fun v hv => h v (List.mem_cons_of_mem _ hv))
    have ha := h a (by simp)
    rw [List.countP_cons, List.countP_cons, List.count_cons, ih']
    rcases Int.lt_trichotomy a (F : Int) with h1 | h1 | h1
    · rw [if_pos (by simp; omega), if_pos (by simp; omega), if_neg (by simp; omega)]
      omega
    · rw [if_pos (by simp; omega), if_neg (by simp; omega), if_pos (by simp; omega)]
      omega
    · rw [if_neg (by simp; omega), if_neg (by simp; omega), if_neg (by simp; omega)]
      omega
theorem count_LL (p : List (List Int)) {c : Nat} (hc : c < p.length) (h : ∀ v ∈ rowAt p c, 0 ≤ v) : ∀ F, (LL p F).count (c : Int) = (rowAt p c).countP (fun v => decide (v < (F : Int)))
  | 0 => by
    rw [List.countP_eq_zero.2 (fun v hv => by have := h v hv; simp; omega)]
    simp [LL]
  | F + 1 => by rw [LL_succ, List.count_append, count_LL p hc h F, count_Lf, if_pos hc, countP_step _ h]
theorem LL_take (p : List (List Int)) {F G : Nat} (h : F ≤ G) : (LL p G).take (LL p F).length = LL p F := by
  induction G with
  | zero => rw [show F = 0 by omega]; simp
  | succ G ih =>
    by_cases h2 : F = G + 1
    · subst h2; rw [List.take_length]
    · have h3 := ih (by omega)
      have hl : (LL p F).length ≤ (LL p G).length := by
        have := congrArg List.length h3
        rw [List.length_take] at this
        omega
      rw [LL_succ, List.take_append_of_le_length hl, h3]
theorem LL_len_mono (p : List (List Int)) {F G : Nat} (h : F ≤ G) : (LL p F).length ≤ (LL p G).length := by
  have := congrArg List.length (LL_take p h)
  rw [List.length_take] at this
  omega
/-- a row that is sorted -/
def Srt (l : List Int) : Prop := ∀ i j, i ≤ j → j < l.length → l.getD i 0 ≤ l.getD j 0
theorem srt_lt {l : List Int} (h : Srt l) {j : Nat} (hj : j < l.length) : l.countP (fun v => decide (v < l.getD j 0)) ≤ j ∧ j + 1 ≤ l.countP (fun v => decide (v < l.getD j 0 + 1)) := by
  constructor
  · have e : l = l.take j ++ l.drop j := (List.take_append_drop j l).symm
    have h0 : (l.drop j).countP (fun v => decide (v < l.getD j 0)) = 0 := by
      refine List.countP_eq_zero.2 fun v hv => ?_
      obtain ⟨i, hi, rfl⟩ := List.getElem_of_mem hv
      rw [List.length_drop] at hi
      have := h j (j + i) (by omega) (by omega)
      rw [List.getElem_drop]
      have e2 : l.getD (j + i) 0 = l[j + i] := by rw [List.getD_eq_getElem?_getD, List.getElem?_eq_getElem (by omega)]; rfl
      rw [e2] at this
      simp only [decide_eq_true_eq, Int.not_lt]
      exact this
    calc l.countP (fun v => decide (v < l.getD j 0)) = (l.take j).countP (fun v => decide (v < l.getD j 0)) + (l.drop j).countP (fun v => decide (v < l.getD j 0)) := by rw [← List.countP_append, List.take_append_drop]
      _ ≤ j := by
        rw [h0]
        have := List.countP_le_length (p := fun v => decide (v < l.getD j 0)) (l := l.take j)
        rw [List.length_take] at this
        omega
  · have h0 : (l.take (j + 1)).countP (fun v => decide (v < l.getD j 0 + 1)) = (l.take (j + 1)).length := by
      refine List.countP_eq_length.2 fun v hv => ?_
      obtain ⟨i, hi, rfl⟩ := List.getElem_of_mem hv
      rw [List.length_take] at hi
      have := h i j (by omega) hj
      rw [List.getElem_take]
      have e2 : l.getD i 0 = l[i] := by rw [List.getD_eq_getElem?_getD, List.getElem?_eq_getElem (by omega)]; rfl
      rw [e2] at this
      simp only [decide_eq_true_eq]
      omega
    calc j + 1 = (l.take (j + 1)).length := by rw [List.length_take]; omega
      _ = (l.take (j + 1)).countP (fun v => decide (v < l.getD j 0 + 1)) := h0.symm
      _ ≤ l.countP (fun v => decide (v < l.getD j 0 + 1)) := (List.take_sublist _ _).countP_le
/-- where the j-th letter c stands: among those of its face -/
theorem OC_face {p : List (List Int)} {c j idx F : Nat} (hc : c < p.length) (h0 : ∀ v ∈ rowAt p c, 0 ≤ v ∧ v < (F : Int)) (hs : Srt (rowAt p c)) (hj : j < (rowAt p c).length) (h : OC (LL p F) (c : Int) j idx) :
    (LL p ((rowAt p c).getD j 0).toNat).length ≤ idx ∧ idx < (LL p (((rowAt p c).getD j 0).toNat + 1)).length := by
  obtain ⟨h1, h2, h3⟩ := h
  have hm : (rowAt p c).getD j 0 ∈ rowAt p c := by
    rw [List.getD_eq_getElem?_getD, List.getElem?_eq_getElem hj]; exact List.getElem_mem hj
  obtain ⟨q1, q2⟩ := h0 _ hm
  obtain ⟨s1, s2⟩ := srt_lt hs hj
  generalize hf : ((rowAt p c).getD j 0).toNat = f
  have ef : (rowAt p c).getD j 0 = (f : Int) := by omega
  rw [ef] at s1 s2
  have c1 := count_LL p hc (fun v hv => (h0 v hv).1) f
  have c2 := count_LL p hc (fun v hv => (h0 v hv).1) (f + 1)
  have e1 : ((f + 1 : Nat) : Int) = (f : Int) + 1 := by omega
  rw [e1] at c2
  constructor
  · refine Nat.le_of_not_lt fun hlt => ?_
    have h4 := cnt_take_mono (LL p F) (c : Int) (show idx + 1 ≤ (LL p f).length from hlt)
    rw [cnt_take_succ _ h1, if_pos h2, LL_take p (show f ≤ F by omega), c1] at h4
    omega
  · refine Nat.lt_of_not_le fun hle => ?_
    have h4 := cnt_take_mono (LL p F) (c : Int) hle
    rw [LL_take p (show f + 1 ≤ F by omega), c2] at h4
    omega
theorem OC_cmp {p : List (List Int)} {c j a k l b F : Nat} (hc : c < p.length) (hk : k < p.length) (h0 : ∀ c, c < p.length → ∀ v ∈ rowAt p c, 0 ≤ v ∧ v < (F : Int)) (hs : ∀ c, c < p.length → Srt (rowAt p c)) (hj : j < (rowAt p c).length) (hl : l < (rowAt p k).length)
    (h : OC (LL p F) (c : Int) j a) (h' : OC (LL p F) (k : Int) l b) (hne : (rowAt p c).getD j 0 ≠ (rowAt p k).getD l 0) : a < b ↔ (rowAt p c).getD j 0 < (rowAt p k).getD l 0 := by
  obtain ⟨p1, p2⟩ := OC_face hc (h0 c hc) (hs c hc) hj h
  obtain ⟨q1, q2⟩ := OC_face hk (h0 k hk) (hs k hk) hl h'
  have m1 : (rowAt p c).getD j 0 ∈ rowAt p c := by
    rw [List.getD_eq_getElem?_getD, List.getElem?_eq_getElem hj]; exact List.getElem_mem hj
  have m2 : (rowAt p k).getD l 0 ∈ rowAt p k := by
    rw [List.getD_eq_getElem?_getD, List.getElem?_eq_getElem hl]; exact List.getElem_mem hl
  have n1 := (h0 c hc _ m1).1
  have n2 := (h0 k hk _ m2).1
  generalize (rowAt p c).getD j 0 = u at *
  generalize (rowAt p k).getD l 0 = v at *
  constructor
  · intro hab
    refine Int.lt_of_not_ge fun hge => ?_
    have := LL_len_mono p (show v.toNat + 1 ≤ u.toNat by omega)
    omega
  · intro huv
    have := LL_len_mono p (show u.toNat + 1 ≤ v.toNat by omega)
    omega
end Go.GA
