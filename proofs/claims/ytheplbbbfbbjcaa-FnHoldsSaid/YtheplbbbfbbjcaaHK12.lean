/- Plain law of FnHolds: the endings add up. -/
import Derived.Test.YtheplbbbfbbjcaaHK11
namespace Go.GA
open Go
set_option maxRecDepth 100000
set_option linter.unusedSectionVars false
def eJ (o : List Int) : Nat → List Nat
  | 0 => []
  | j + 1 => if 0 < o.getD j 0 then eJ o j ++ [j] else eJ o j
def eF (o : List Int) (N : Nat) (j : Nat) : Int × (List Int × Unit) := ((j : Int), (cutF (o.getD j 0).toNat N, ()))
theorem eL_map (o : List Int) (N : Nat) : ∀ n, eL o N n = (eJ o n).map (eF o N)
  | 0 => rfl
  | n + 1 => by
    simp only [eL, eJ]
    rw [eL_map o N n]
    split
    · rw [List.map_append]; rfl
    · rfl
theorem mem_eJ {o : List Int} (j : Nat) : ∀ n, (j ∈ eJ o n ↔ j < n ∧ 0 < o.getD j 0)
  | 0 => by simp [eJ]
  | n + 1 => by
    have ih := mem_eJ (o := o) j n
    simp only [eJ]
    by_cases h : 0 < o.getD n 0
    · rw [if_pos h, List.mem_append, ih]
      simp only [List.mem_cons, List.not_mem_nil, or_false]
      constructor
      · rintro (⟨a, b⟩ | e)
        · exact ⟨by omega, b⟩
        · subst e; exact ⟨by omega, h⟩
      · rintro ⟨a, b⟩
        by_cases e : j = n
        · exact .inr e
        · exact .inl ⟨by omega, b⟩
    · rw [if_neg h, ih]
      constructor
      · rintro ⟨a, b⟩; exact ⟨by omega, b⟩
      · rintro ⟨a, b⟩
        have : j ≠ n := fun e => h (by rw [← e]; exact b)
        exact ⟨by omega, b⟩
theorem eJ_sorted (o : List Int) : ∀ n, (eJ o n).Pairwise (· < ·)
  | 0 => List.Pairwise.nil
  | n + 1 => by
    have ih := eJ_sorted o n
    simp only [eJ]
    split
    · rw [List.pairwise_append]
      refine ⟨ih, List.pairwise_singleton _ _, fun a ha b hb => ?_⟩
      have h1 := (mem_eJ (o := o) a n).1 ha
      have h2 : b = n := by simpa using hb
      omega
    · exact ih
theorem sum_snoc (l : List Int) (a : Int) : (l ++ [a]).sum = l.sum + a := by rw [List.sum_append]; simp
theorem eJ_sum {o : List Int} (hn : NN o) : ∀ n, ((eJ o n).map (fun j => o.getD j 0)).sum = tk o n
  | 0 => rfl
  | n + 1 => by
    have ih := eJ_sum hn n
    have h0 := hn n
    simp only [eJ, tk]
    split
    · rw [List.map_append, List.map_singleton, sum_snoc, ih]
    · rw [ih]; omega
theorem eJ_mom {o : List Int} (hn : NN o) : ∀ n, ((eJ o n).map (fun (j : Nat) => (j : Int) * o.getD j 0)).sum = pm (fun i => i) o n
  | 0 => rfl
  | n + 1 => by
    have ih := eJ_mom hn n
    have h0 := hn n
    simp only [eJ, pm]
    split
    · rw [List.map_append, List.map_singleton, sum_snoc, ih]
    · rename_i h
      have : o.getD n 0 = 0 := by omega
      rw [ih, this]; simp
theorem take_sum_le : ∀ (l : List Int) (i : Nat), (∀ a ∈ l, 0 ≤ a) → 0 ≤ (l.take i).sum ∧ (l.take i).sum ≤ l.sum
  | [], i, _ => by simp
  | a :: l, 0, h => by
    have h1 := take_sum_le l 0 (fun b hb => h b (by simp [hb]))
    have := h a (by simp)
    simp only [List.take_zero, List.sum_nil, List.sum_cons] at h1 ⊢
    omega
  | a :: l, i + 1, h => by
    have h1 := take_sum_le l i (fun b hb => h b (by simp [hb]))
    have := h a (by simp)
    simp only [List.take_succ_cons, List.sum_cons]
    omega
def EEnd (fu : Nat) (E W : List (Int × (List Int × Unit))) (ok : Bool) (hold : Int) (mean bust : List Int) : Option Bool := (if ok = true then cnt (fun i291 (s290 : (List Int) × (List Int) × (List Int)) c292 _ => (if (((!(eqT (.pair (.int .i64) (.pair (.arr 2 (.int .i64)) .unit)) ((E.getD i291.toNat (0, ((List.replicate 2 0), ()))) : (Int × ((List Int) × Unit))) ((W.getD i291.toNat (0, ((List.replicate 2 0), ()))) : (Int × ((List Int) × Unit))))) || ((decide (0 < i291)) && (decide ((E.getD i291.toNat (0, ((List.replicate 2 0), ()))).1 ≤ (E.getD (i291 - 1).toNat (0, ((List.replicate 2 0), ()))).1)))) || ((decide (0 < (E.getD i291.toNat (0, ((List.replicate 2 0), ()))).1)) && (decide ((E.getD i291.toNat (0, ((List.replicate 2 0), ()))).1 < hold)))) = true then some false else (p_laws_rPlus fu s290.1 ((E.getD i291.toNat (0, ((List.replicate 2 0), ()))).2.1)).bind (fun r420 => (p_laws_rPlus fu s290.2.1 [(IntKind.wrap .i64 (((E.getD i291.toNat (0, ((List.replicate 2 0), ()))).1) * ((E.getD i291.toNat (0, ((List.replicate 2 0), ()))).2.1.getD 0 0))), ((E.getD i291.toNat (0, ((List.replicate 2 0), ()))).2.1.getD 1 0)]).bind (fun r421 => (if (E.getD i291.toNat (0, ((List.replicate 2 0), ()))).1 = 0 then c292 (r420, r421, (E.getD i291.toNat (0, ((List.replicate 2 0), ()))).2.1) else c292 (r420, r421, s290.2.2)))))) (fun i291 (s290 : (List Int) × (List Int) × (List Int)) => some (((decide (s290.1 = [1, 1])) && (decide (s290.2.1 = mean))) && (decide (s290.2.2 = bust)))) (Int.toNat ((E.length : Int) - 0)) 0 ([0, 1], [0, 1], [0, 1]) else some true)
theorem eqT_self (x : Int × (List Int × Unit)) : eqT (.pair (.int .i64) (.pair (.arr 2 (.int .i64)) .unit)) x x = true := by
  show (eqI x.1 x.1 && (eqIs x.2.1 x.2.1 && true)) = true
  simp [eqI, eqIs]
theorem end_ok {b : Int} {d : List Int} (h6 : d.length = 6) (hr : p_impl_isRunner d = true) {G : Nat} (h1 : 1 ≤ G) (hG : G ≤ 10) {fu : Nat} (hf : 3656158440062976 < fu) : EEnd fu (eL (en b d G) (6 ^ G) 41) (eL (en b d G) (6 ^ G) 41) true (G : Int) (cutF (muH b d G).toNat (6 ^ G)) (cutF ((en b d G).getD 0 0).toNat (6 ^ G)) = some true := by
  obtain ⟨e1, e2, e3, e4⟩ := en_get (b := b) h6 hr h1 hG (fu := fu) (by omega)
  have hN := p10 hG
  have htk := en_tk (b := b) h6 hr h1 hG (fu := fu) (by omega)
  have hmu := mu_part (b := b) h6 hr h1 hG (fu := fu) (by omega) (i := 41) (Nat.le_refl _)
  have hS := eJ_sum e2 41
  have hM := eJ_mom e2 41
  rw [htk] at hS
  have hsort := eJ_sorted (en b d G) 41
  unfold EEnd
  rw [if_pos rfl, eL_map]
  generalize ho : en b d G = o at *
  have hmem : ∀ j ∈ eJ o 41, j < 41 ∧ 0 < o.getD j 0 := fun j hj => (mem_eJ j 41).1 hj
  have h0mem : 0 ∈ eJ o 41 ↔ 0 < o.getD 0 0 := by rw [mem_eJ]; omega
  generalize hE : eJ o 41 = E at *
  have hpS : ∀ i, 0 ≤ ((E.take i).map (fun j => o.getD j 0)).sum ∧ ((E.take i).map (fun j => o.getD j 0)).sum ≤ ((6 ^ G : Nat) : Int) := fun i => by
    have := take_sum_le (E.map (fun j => o.getD j 0)) i (fun a ha => by
      obtain ⟨j, _, rfl⟩ := List.mem_map.1 ha
      exact e2 j)
    rw [← List.map_take, hS] at this
    exact this
  have hpM : ∀ i, 0 ≤ ((E.take i).map (fun (j : Nat) => (j : Int) * o.getD j 0)).sum ∧ ((E.take i).map (fun (j : Nat) => (j : Int) * o.getD j 0)).sum ≤ 40 * ((6 ^ G : Nat) : Int) := fun i => by
    have := take_sum_le (E.map (fun (j : Nat) => (j : Int) * o.getD j 0)) i (fun a ha => by
      obtain ⟨j, _, rfl⟩ := List.mem_map.1 ha
      exact Int.mul_nonneg (by omega) (e2 j))
    rw [← List.map_take, hM] at this
    omega
  have hget : ∀ i (hi : i < E.length) (D : Int × (List Int × Unit)), (E.map (eF o (6 ^ G))).getD i D = eF o (6 ^ G) E[i] := fun i hi D => by
    rw [List.getD_eq_getElem?_getD, List.getElem?_map, List.getElem?_eq_getElem hi]; rfl
  have hlen : (E.map (eF o (6 ^ G))).length = E.length := List.length_map _
  rw [hlen]
  refine cnt_ind0 (S := List Int × List Int × List Int) E.length (fun i s => s.1 = cutF ((E.take i).map (fun j => o.getD j 0)).sum.toNat (6 ^ G) ∧ s.2.1 = cutF ((E.take i).map (fun (j : Nat) => (j : Int) * o.getD j 0)).sum.toNat (6 ^ G) ∧ s.2.2 = if 0 ∈ E.take i then cutF (o.getD 0 0).toNat (6 ^ G) else [0, 1]) (fun r => r = some true) (by omega) ⟨by simp [cut_zero hN.2], by simp [cut_zero hN.2], by simp⟩ (fun s hs => ?_) (fun i s c hi hs hc => ?_)
  · obtain ⟨q1, q2, q3⟩ := hs
    rw [List.take_length] at q1 q2 q3
    have z1 : s.1 = [1, 1] := by rw [q1, hS, Int.toNat_natCast, cut_one hN.2]
    have z2 : s.2.1 = cutF (muH b d G).toNat (6 ^ G) := by rw [q2, hM]; unfold muH; rw [ho]
    have z3 : s.2.2 = cutF (o.getD 0 0).toNat (6 ^ G) := by
      rw [q3]
      by_cases h : 0 ∈ E
      · rw [if_pos h]
      · rw [if_neg h]
        have h2 : ¬ 0 < o.getD 0 0 := fun h3 => h (h0mem.2 h3)
        have h3 := e2 0
        rw [show o.getD 0 0 = 0 by omega]
        exact (cut_zero hN.2).symm
    rw [z1, z2, z3]
    simp
  · obtain ⟨q1, q2, q3⟩ := hs
    have hj := hmem E[i] (List.getElem_mem hi)
    have hz : E[i] = 0 ∨ G ≤ E[i] := by
      by_cases h0 : E[i] = 0
      · exact .inl h0
      · by_cases hlt : E[i] < G
        · have := e4 E[i] (by omega) hlt
          omega
        · exact .inr (by omega)
    rw [Int.toNat_natCast, hget i hi, eqT_self]
    have hprev : ((decide (0 < (i : Int))) && (decide ((eF o (6 ^ G) E[i]).1 ≤ ((E.map (eF o (6 ^ G))).getD ((i : Int) - 1).toNat (0, ((List.replicate 2 0), ()))).1))) = false := by
      by_cases hi0 : i = 0
      · subst hi0; simp
      · have hlt : i - 1 < E.length := by omega
        have hs2 := List.pairwise_iff_getElem.1 hsort (i - 1) i hlt hi (by omega)
        rw [show ((i : Int) - 1).toNat = i - 1 by omega, hget (i - 1) hlt]
        have : ¬ ((E[i] : Nat) : Int) ≤ ((E[i - 1] : Nat) : Int) := by omega
        show (decide (0 < (i : Int)) && decide (((E[i] : Nat) : Int) ≤ ((E[i - 1] : Nat) : Int))) = false
        rw [decide_eq_false this, Bool.and_false]
    have hhold : ((decide (0 < (eF o (6 ^ G) E[i]).1)) && (decide ((eF o (6 ^ G) E[i]).1 < (G : Int)))) = false := by
      show (decide (0 < ((E[i] : Nat) : Int)) && decide (((E[i] : Nat) : Int) < (G : Int))) = false
      rcases hz with h | h
      · rw [h]; simp
      · rw [decide_eq_false (show ¬ ((E[i] : Nat) : Int) < (G : Int) by omega), Bool.and_false]
    rw [hprev, hhold, if_neg (by simp)]
    generalize hjj : E[i] = j at *
    obtain ⟨p, q, z, e, hzz, r1, r2, r3, r4, r5⟩ := cut_parts (o.getD j 0).toNat (6 ^ G) hN.2
    have hle : o.getD j 0 ≤ ((6 ^ G : Nat) : Int) := by
      have := getD_le_sum e2 j
      omega
    have hpq : p * 6 ^ G = (o.getD j 0).toNat * q := by
      have h3 : p * 6 ^ G = p * (z * q) := by rw [← r2]
      rw [h3, r1]; simp only [Nat.mul_assoc, Nat.mul_comm, Nat.mul_left_comm]
    have hp8 : p * j ≤ 60466176 * 40 := Nat.mul_le_mul (by omega) (by omega)
    have s1 := hpS i
    have s2 := hpM i
    have eFe : eF o (6 ^ G) j = ((j : Int), ([(p : Int), (q : Int)], ())) := by unfold eF; rw [e]
    rw [eFe, q1, q2]
    have a1 := plus_cut (fu := fu) (x := ((E.take i).map (fun j => o.getD j 0)).sum.toNat) (y := (o.getD j 0).toNat) (N := 6 ^ G) (p := p) (q := q) (by omega) (by omega) r5 r3 hN.2 hN.1 hpq hf
    have a2 := plus_cut (fu := fu) (x := ((E.take i).map (fun (j : Nat) => (j : Int) * o.getD j 0)).sum.toNat) (y := (o.getD j 0).toNat * j) (N := 6 ^ G) (p := p * j) (q := q) (by omega) (by omega) r5 r3 hN.2 hN.1 (by rw [Nat.mul_right_comm, hpq]; simp only [Nat.mul_assoc, Nat.mul_comm, Nat.mul_left_comm]) hf
    have ew : IntKind.wrap .i64 ((j : Int) * ([(p : Int), (q : Int)] : List Int).getD 0 0) = ((p * j : Nat) : Int) := by
      show IntKind.wrap .i64 ((j : Int) * (p : Int)) = _
      rw [← Int.natCast_mul, Nat.mul_comm j p, wrap_nat (by omega)]
    refine Eq.trans (b := (p_laws_rPlus fu (cutF ((E.take i).map (fun j => o.getD j 0)).sum.toNat (6 ^ G)) [(p : Int), (q : Int)]).bind (fun r420 => (p_laws_rPlus fu (cutF ((E.take i).map (fun (j : Nat) => (j : Int) * o.getD j 0)).sum.toNat (6 ^ G)) [IntKind.wrap .i64 ((j : Int) * ([(p : Int), (q : Int)] : List Int).getD 0 0), (q : Int)]).bind (fun r421 => (if (j : Int) = 0 then c (r420, r421, [(p : Int), (q : Int)]) else c (r420, r421, s.2.2))))) rfl ?_
    rw [a1, Option.bind_some, ew, a2, Option.bind_some]
    have et : E.take (i + 1) = E.take i ++ [j] := by rw [List.take_succ_eq_append_getElem hi, hjj]
    have n1 : cutF (((E.take i).map (fun j => o.getD j 0)).sum.toNat + (o.getD j 0).toNat) (6 ^ G) = cutF ((E.take (i + 1)).map (fun j => o.getD j 0)).sum.toNat (6 ^ G) := by
      rw [et, List.map_append, List.map_singleton, sum_snoc]
      congr 1
      have := e2 j
      omega
    have n2 : cutF (((E.take i).map (fun (j : Nat) => (j : Int) * o.getD j 0)).sum.toNat + (o.getD j 0).toNat * j) (6 ^ G) = cutF ((E.take (i + 1)).map (fun (j : Nat) => (j : Int) * o.getD j 0)).sum.toNat (6 ^ G) := by
      rw [et, List.map_append, List.map_singleton, sum_snoc]
      congr 1
      have e5 : ((o.getD j 0).toNat * j : Nat) = ((j : Int) * o.getD j 0).toNat := by
        apply Int.ofNat.inj
        show (((o.getD j 0).toNat * j : Nat) : Int) = ((((j : Int) * o.getD j 0).toNat : Nat) : Int)
        rw [Int.natCast_mul, Int.toNat_of_nonneg (e2 j), Int.toNat_of_nonneg (Int.mul_nonneg (by omega) (e2 j)), Int.mul_comm]
      have e6 : 0 ≤ (j : Int) * o.getD j 0 := Int.mul_nonneg (by omega) (e2 j)
      rw [e5]
      omega
    by_cases hj0 : j = 0
    · subst hj0
      rw [if_pos (by rfl)]
      refine hc _ ⟨n1, n2, ?_⟩
      rw [if_pos (by rw [et]; simp)]
      exact e.symm
    · rw [if_neg (by omega)]
      refine hc _ ⟨n1, n2, ?_⟩
      have : (0 ∈ E.take (i + 1)) ↔ (0 ∈ E.take i) := by
        rw [et, List.mem_append]
        constructor
        · rintro (h | h)
          · exact h
          · exact absurd (by simpa using h : 0 = j) (fun h => hj0 h.symm)
        · exact fun h => .inl h
      simp only [this]
      exact q3
end Go.GA
