/- Plain law of FnKept: numbers in order, tables of values. -/
import Derived.Test.YtddljmnmkiofmaaVK9
namespace Go.GA
open Go
set_option maxRecDepth 100000
/-! ### in order, the greatest first -/
def srt (l : List Int) : List Int := l.mergeSort (fun a b => decide (b ≤ a))
theorem srt_pw (l : List Int) : (srt l).Pairwise (· ≥ ·) := by
  have := List.pairwise_mergeSort (le := fun a b : Int => decide (b ≤ a)) (by intro a b c; simp; omega) (by intro a b; simp; omega) l
  exact this.imp (fun h => by simpa using h)
theorem srt_perm (l : List Int) : (srt l).Perm l := List.mergeSort_perm l _
theorem srt_uniq {r l : List Int} (h1 : r.Pairwise (· ≥ ·)) (h2 : r.Perm l) : r = srt l :=
  List.Perm.eq_of_pairwise (le := fun a b : Int => a ≥ b) (fun a b _ _ h h' => by omega) h1 (srt_pw l) (h2.trans (srt_perm l).symm)
theorem srt_len (l : List Int) : (srt l).length = l.length := (srt_perm l).length_eq
theorem srt_fc {l : List Int} (h : Fc l) : Fc (srt l) := fun a ha => h a ((srt_perm l).mem_iff.1 ha)
theorem sort_eq {fu : Nat} (hf : 64 ≤ fu) {l : List Int} (hl : l.length ≤ 12) (h : Fc l) : p_slices_SortFunc_int_int fu l = some (srt l) := by
  obtain ⟨r, e, r1, r2⟩ := sort_ok hf hl h
  rw [e, srt_uniq r1 r2]
theorem perm_sum {l₁ l₂ : List Int} (h : l₁.Perm l₂) : l₁.sum = l₂.sum := by
  induction h with
  | nil => rfl
  | cons x _ ih => simp [ih]
  | swap x y l => simp; omega
  | trans _ _ i1 i2 => rw [i1, i2]
/-! ### the reference's order -/
theorem own_eq {l : List Int} (h : l.length ≤ 1000) : p_spec_l1Own l = some l := by
  unfold p_spec_l1Own
  rw [if_pos (by omega)]
  simp
def plB {R : Type} (s1 : List Int) (v : Int) (K : List Int → Option R) : Int → (Int → Option R) → Option R := fun (s8 : Int) c10 => if ((decide (0 < s8)) = true → 0 ≤ (IntKind.wrap .i64 (s8 - 1))) then if ((decide (0 < s8)) = true → (IntKind.wrap .i64 (s8 - 1)) < (s1.length : Int)) then (if ((decide (0 < s8)) && (decide ((s1.getD (IntKind.wrap .i64 (s8 - 1)).toNat 0) < v))) = true then c10 (IntKind.wrap .i64 (s8 - 1)) else if 0 ≤ s8 then if s8 ≤ (s1.length : Int) then (p_spec_l1Own ((s1.drop 0).take (s8 - 0).toNat)).bind (fun r53 => if (r53.length : Int) + 1 ≤ 1000000000 then if ((r53.length : Int) + 1) + ((s1.length : Int) - s8) ≤ 1000000000 then K ((r53 ++ [v]) ++ ((s1.drop s8.toNat).take ((s1.length : Int) - s8).toNat)) else none else none) else none else none) else none else none
theorem pl_run {R : Type} {acc : List Int} {v : Int} (K : List Int → Option R) (hl : acc.length ≤ 100) (hs : acc.Pairwise (· ≥ ·)) : ∀ (d j : Nat), j < d → j ≤ acc.length → (∀ a ∈ acc.drop j, a < v) → ∃ r, whl (plB acc v K) d (j : Int) = K r ∧ r.Pairwise (· ≥ ·) ∧ r.Perm (v :: acc)
  | 0, j, h, _, _ => by omega
  | d + 1, j, h, hj, hd => by
    have ih := pl_run (v := v) K hl hs d
    rw [show ∀ z, whl (plB acc v K) (d + 1) z = plB acc v K z (whl (plB acc v K) d) from fun _ => rfl]
    generalize whl (plB acc v K) d = W at ih
    unfold plB
    by_cases h0 : 0 < j
    · have ew : IntKind.wrap .i64 ((j : Int) - 1) = ((j - 1 : Nat) : Int) := by rw [wr (by omega) (by omega)]; omega
      rw [ew, if_pos (fun _ => by omega), if_pos (fun _ => by omega), Int.toNat_natCast]
      by_cases hlt : acc.getD (j - 1) 0 < v
      · rw [if_pos (by simp only [Bool.and_eq_true, decide_eq_true_eq]; exact ⟨by omega, hlt⟩)]
        refine ih (j - 1) (by omega) (by omega) (fun a ha => ?_)
        have hj1 : j - 1 < acc.length := by omega
        rw [List.drop_eq_getElem_cons hj1, show j - 1 + 1 = j by omega] at ha
        rcases List.mem_cons.1 ha with rfl | ha
        · rw [List.getD_eq_getElem?_getD, List.getElem?_eq_getElem hj1] at hlt
          exact hlt
        · exact hd a ha
      · rw [if_neg (by simp only [Bool.and_eq_true, decide_eq_true_eq]; exact fun h => hlt h.2), if_pos (by omega), if_pos (by omega), Int.sub_zero, Int.toNat_natCast, List.drop_zero, own_eq (by rw [List.length_take]; omega), Option.bind_some]
        rw [if_pos (by rw [List.length_take]; omega), if_pos (by rw [List.length_take]; omega), List.take_of_length_le (l := acc.drop j) (by rw [List.length_drop]; omega)]
        refine ⟨_, rfl, ?_, ?_⟩
        · have e := List.take_append_drop j acc
          rw [← e, List.pairwise_append] at hs
          obtain ⟨p1, p2, p3⟩ := hs
          rw [List.append_assoc, List.pairwise_append]
          refine ⟨p1, List.pairwise_cons.2 ⟨fun a ha => by have := hd a ha; show v ≥ a; omega, p2⟩, fun a ha b hb => ?_⟩
          rcases List.mem_cons.1 hb with rfl | hb
          · -- what stands before is no less than the last of it
            have hj1 : j - 1 < acc.length := by omega
            have et : acc.take j = acc.take (j - 1) ++ [acc[j - 1]] := by
              have := List.take_succ_eq_append_getElem hj1
              rw [show j - 1 + 1 = j by omega] at this
              exact this
            rw [et] at ha p1
            rw [List.getD_eq_getElem?_getD, List.getElem?_eq_getElem hj1] at hlt
            have hlt : ¬ acc[j - 1] < b := hlt
            rw [List.pairwise_append] at p1
            rcases List.mem_append.1 ha with ha | ha
            · have := p1.2.2 a ha _ (List.mem_singleton_self _)
              show a ≥ b
              have h2 : a ≥ acc[j - 1] := this
              omega
            · have : a = acc[j - 1] := by simpa using ha
              show a ≥ b
              omega
          · exact p3 a ha b hb
        · rw [List.append_assoc]
          have : (acc.take j ++ ([v] ++ acc.drop j)).Perm (v :: (acc.take j ++ acc.drop j)) := List.perm_middle
          rw [List.take_append_drop] at this
          exact this
    · have hj0 : j = 0 := by omega
      subst hj0
      rw [if_pos (by simp), if_pos (by simp), if_neg (by simp), if_pos (by omega), if_pos (by omega)]
      rw [List.drop_zero, show ((0 : Nat) : Int) - 0 = 0 from rfl, Int.toNat_zero, List.take_zero, own_eq (by simp), Option.bind_some, if_pos (by simp), if_pos (by simp; omega)]
      have et : ((acc.length : Int) - ((0 : Nat) : Int)).toNat = acc.length := by omega
      have e0 : ([] : List Int) ++ [v] ++ List.take ((acc.length : Int) - ((0 : Nat) : Int)).toNat (List.drop (((0 : Nat) : Int)).toNat acc) = v :: acc := by
        rw [et, Int.toNat_natCast, List.drop_zero, List.take_length]; rfl
      rw [e0]
      refine ⟨_, rfl, ?_, List.Perm.refl _⟩
      rw [List.drop_zero] at hd
      exact List.pairwise_cons.2 ⟨fun a ha => by have := hd a ha; show v ≥ a; omega, hs⟩
theorem pl_all {fu : Nat} (hf : 200 ≤ fu) : ∀ (l acc : List Int), acc.length + l.length ≤ 100 → acc.Pairwise (· ≥ ·) → ∃ r, lrun (fun (v : Int) (s1 : List Int) (c3 : List Int → Option (List Int)) => whl (plB s1 v c3) fu (s1.length : Int)) (fun s => some s) l acc = some r ∧ r.Pairwise (· ≥ ·) ∧ r.Perm (l ++ acc)
  | [], acc, _, hs => ⟨acc, rfl, hs, List.Perm.refl _⟩
  | v :: l, acc, h, hs => by
    simp only [List.length_cons] at h
    simp only [lrun]
    obtain ⟨r, e, r1, r2⟩ := pl_run (v := v) (fun s => lrun (fun (v : Int) (s1 : List Int) (c3 : List Int → Option (List Int)) => whl (plB s1 v c3) fu (s1.length : Int)) (fun s => some s) l s) (acc := acc) (by omega) hs fu acc.length (by omega) (Nat.le_refl _) (fun a ha => by rw [List.drop_length] at ha; cases ha)
    have hl := r2.length_eq
    simp only [List.length_cons] at hl
    obtain ⟨q, e2, q1, q2⟩ := pl_all hf l r (by omega) r1
    refine ⟨q, e.trans e2, q1, q2.trans ?_⟩
    exact (r2.append_left l).trans List.perm_middle
theorem places_eq {fu : Nat} (hf : 200 ≤ fu) {l : List Int} (hl : l.length ≤ 50) : p_spec_l4Places fu l = some (srt l) := by
  unfold p_spec_l4Places
  rw [cnt_list (fun (v : Int) (s1 : List Int) (c3 : List Int → Option (List Int)) => whl (plB s1 v c3) fu (s1.length : Int)) l 0 (by omega) (fun _ _ _ _ _ => rfl)]
  obtain ⟨r, e, r1, r2⟩ := pl_all hf l [] (by simp; omega) List.Pairwise.nil
  rw [List.append_nil] at r2
  rw [e]
  exact congrArg some (srt_uniq r1 r2)
/-! ### tables of values -/
def tabV (L : Nat) (vs : List Nat) : List Int := (List.range L).map (fun j => ((vs.count j : Nat) : Int))
theorem tabV_len (L : Nat) (vs : List Nat) : (tabV L vs).length = L := by simp [tabV]
theorem tabV_get (L : Nat) (vs : List Nat) {j : Nat} (h : j < L) : (tabV L vs).getD j 0 = (vs.count j : Int) := by
  rw [List.getD_eq_getElem?_getD, List.getElem?_eq_getElem (by rw [tabV_len]; exact h)]
  simp [tabV]
theorem tabV_inc {L : Nat} {vs : List Nat} {c : Nat} (hc : c < L) (hl : vs.length ≤ 100000) : (tabV L vs).set c (IntKind.wrap .i64 ((tabV L vs).getD c 0 + 1)) = tabV L (vs ++ [c]) := by
  have hb : vs.count c ≤ 100000 := Nat.le_trans List.count_le_length hl
  rw [tabV_get L vs hc, wr (by omega) (by omega)]
  refine List.ext_getElem (by simp [tabV]) (fun j h1 h2 => ?_)
  rw [List.getElem_set]
  have hj : j < L := by simpa [tabV] using h2
  by_cases e : c = j
  · subst e
    rw [if_pos rfl]
    simp [tabV, List.count_append]
  · rw [if_neg e]
    simp [tabV, List.count_append, List.count_singleton, e]
theorem tabV_nil (L : Nat) : tabV L [] = List.replicate L 0 := by
  refine List.ext_getElem (by simp [tabV]) (fun j h1 h2 => ?_)
  simp [tabV]
theorem tabV_nn (L : Nat) (vs : List Nat) : ∀ a ∈ tabV L vs, 0 ≤ a := fun a ha => by
  obtain ⟨j, _, rfl⟩ := List.mem_map.1 ha
  omega
/-- all outcomes, one after the other -/
theorem out_run {L M : Nat} {body : Int × List Int → (Int × List Int → Option (List Int)) → Option (List Int)} (v : Nat → Nat)
    (hs : ∀ n W, n < M → body ((n : Int), tabV L ((List.range n).map v)) W = W (((n + 1 : Nat) : Int), tabV L ((List.range (n + 1)).map v)))
    (he : ∀ T W, body ((M : Int), T) W = some T) : ∀ (d n : Nat), M - n < d → n ≤ M → whl body d ((n : Int), tabV L ((List.range n).map v)) = some (tabV L ((List.range M).map v))
  | 0, _, h, _ => by omega
  | d + 1, n, h, hn => by
    show body _ (whl body d) = _
    by_cases hc : n < M
    · rw [hs n _ hc]
      exact out_run v hs he d (n + 1) (by omega) (by omega)
    · obtain rfl : n = M := by omega
      exact he _ _
end Go.GA
