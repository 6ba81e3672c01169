/- Plain law of FnBits: fair sizes, both ways. -/
import Derived.Test.YtedakmknjbjlbaaP9o
namespace Go.GA
open Go
set_option maxRecDepth 100000
def allEq (r : List Int) : Bool := r.all (fun v => decide (v = r.getD 0 0))
theorem getD_mem' {r : List Int} {i : Nat} (h : i < r.length) : r.getD i 0 ∈ r := by
  rw [List.getD_eq_getElem?_getD, List.getElem?_eq_getElem h]
  exact List.getElem_mem _
theorem mem_getD {r : List Int} {v : Int} (h : v ∈ r) : ∃ i, i < r.length ∧ r.getD i 0 = v := by
  obtain ⟨j, hj, e⟩ := List.getElem_of_mem h
  exact ⟨j, hj, by simp [List.getD_eq_getElem?_getD, List.getElem?_eq_getElem hj, e]⟩
theorem max_run {r : List Int} (h : 1 ≤ r.length) : ∃ M, p_slices_Max_int_int r = some M ∧ M ∈ r ∧ ∀ v ∈ r, v ≤ M := by
  unfold p_slices_Max_int_int
  rw [if_neg (by omega)]
  have key := cnt_ind (S := Int) (f := fun i5 s4 c6 _ => c6 (if (r.getD i5.toNat 0) > s4 then (r.getD i5.toNat 0) else s4)) (k := fun i5 s4 => some s4) r.length (fun i s => s ∈ r ∧ ∀ j, j < i → r.getD j 0 ≤ s) (fun q => ∃ M, q = some M ∧ M ∈ r ∧ ∀ v ∈ r, v ≤ M) (fun s hs => ⟨s, rfl, hs.1, fun v hv => by obtain ⟨i, hi, e⟩ := mem_getD hv; rw [← e]; exact hs.2 i hi⟩) (fun i s c hi hs hc => by
    rw [Int.toNat_natCast]
    refine hc _ ?_
    by_cases hg : r.getD i 0 > s
    · rw [if_pos hg]
      refine ⟨getD_mem' hi, fun j hj => ?_⟩
      by_cases e : j = i
      · rw [e]; exact Int.le_refl _
      · have := hs.2 j (by omega); omega
    · rw [if_neg hg]
      refine ⟨hs.1, fun j hj => ?_⟩
      by_cases e : j = i
      · rw [e]; omega
      · exact hs.2 j (by omega)) (Int.toNat ((r.length : Int) - 1)) 1 (r.getD 0 0) (by omega) ⟨getD_mem' (by omega), fun j hj => by rw [show j = 0 by omega]; exact Int.le_refl _⟩
  exact key
theorem min_run {r : List Int} (h : 1 ≤ r.length) : ∃ M, p_slices_Min_int_int r = some M ∧ M ∈ r ∧ ∀ v ∈ r, M ≤ v := by
  unfold p_slices_Min_int_int
  rw [if_neg (by omega)]
  have key := cnt_ind (S := Int) (f := fun i5 s4 c6 _ => c6 (if (r.getD i5.toNat 0) < s4 then (r.getD i5.toNat 0) else s4)) (k := fun i5 s4 => some s4) r.length (fun i s => s ∈ r ∧ ∀ j, j < i → s ≤ r.getD j 0) (fun q => ∃ M, q = some M ∧ M ∈ r ∧ ∀ v ∈ r, M ≤ v) (fun s hs => ⟨s, rfl, hs.1, fun v hv => by obtain ⟨i, hi, e⟩ := mem_getD hv; rw [← e]; exact hs.2 i hi⟩) (fun i s c hi hs hc => by
    rw [Int.toNat_natCast]
    refine hc _ ?_
    by_cases hg : r.getD i 0 < s
    · rw [if_pos hg]
      refine ⟨getD_mem' hi, fun j hj => ?_⟩
      by_cases e : j = i
      · rw [e]; exact Int.le_refl _
      · have := hs.2 j (by omega); omega
    · rw [if_neg hg]
      refine ⟨hs.1, fun j hj => ?_⟩
      by_cases e : j = i
      · rw [e]; omega
      · exact hs.2 j (by omega)) (Int.toNat ((r.length : Int) - 1)) 1 (r.getD 0 0) (by omega) ⟨getD_mem' (by omega), fun j hj => by rw [show j = 0 by omega]; exact Int.le_refl _⟩
  exact key
theorem maxmin {r : List Int} {M m : Int} (h1 : M ∈ r) (h2 : ∀ v ∈ r, v ≤ M) (h3 : m ∈ r) (h4 : ∀ v ∈ r, m ≤ v) (h : 1 ≤ r.length) : M = m ↔ allEq r = true := by
  unfold allEq
  simp only [List.all_eq_true, decide_eq_true_eq]
  have h0 := getD_mem' (r := r) (i := 0) (by omega)
  constructor
  · intro e v hv
    have a := h2 v hv
    have b := h4 v hv
    have a' := h2 _ h0
    have b' := h4 _ h0
    omega
  · intro e
    rw [e M h1, e m h3]
theorem eq_run {R : Type} {r : List Int} (K : Bool → Option R) (h : 1 ≤ r.length) : cnt (fun i13 (s12 : Bool) c14 _ => if (s12 = true → i13 < (r.length : Int)) then c14 (s12 && (decide ((r.getD i13.toNat 0) = (r.getD 0 0)))) else none) (fun i13 (s12 : Bool) => K s12) (Int.toNat ((r.length : Int) - 1)) 1 true = K (allEq r) := by
  refine cnt_ind (S := Bool) (f := fun i13 (s12 : Bool) c14 _ => if (s12 = true → i13 < (r.length : Int)) then c14 (s12 && (decide ((r.getD i13.toNat 0) = (r.getD 0 0)))) else none) (k := fun i13 (s12 : Bool) => K s12) r.length (fun i s => (s = true ↔ ∀ j, j < i → r.getD j 0 = r.getD 0 0)) (fun q => q = K (allEq r)) (fun s hs => ?_) (fun i s c hi hs hc => ?_) (Int.toNat ((r.length : Int) - 1)) 1 true (by omega) ⟨fun _ j hj => by rw [show j = 0 by omega], fun _ => rfl⟩
  · congr 1
    rw [Bool.eq_iff_iff, hs]
    unfold allEq
    simp only [List.all_eq_true, decide_eq_true_eq]
    exact ⟨fun a v hv => by obtain ⟨j, hj, e⟩ := mem_getD hv; rw [← e]; exact a j hj, fun a j hj => a _ (getD_mem' hj)⟩
  · rw [if_pos (fun _ => by omega), Int.toNat_natCast]
    refine hc _ ?_
    rw [Bool.and_eq_true, hs, decide_eq_true_eq]
    refine ⟨fun a j hj => ?_, fun a => ⟨fun j hj => a j (by omega), a i (by omega)⟩⟩
    by_cases e : j = i
    · rw [e]; exact a.2
    · exact a.1 j (by omega)
end Go.GA
