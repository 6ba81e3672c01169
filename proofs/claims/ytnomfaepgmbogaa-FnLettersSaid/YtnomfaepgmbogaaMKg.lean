/- Plain law of MendLetters. -/
import Derived.Test.YtnomfaepgmbogaaMKf
namespace Go.GA.E
open Go
set_option maxRecDepth 100000
set_option linter.unusedVariables false
set_option linter.unusedSimpArgs false
theorem getD_lt {x : List Int} {i : Nat} (h : i < x.length) : x.getD i 0 = x[i] := by
  rw [List.getD_eq_getElem?_getD, List.getElem?_eq_getElem h]; rfl
theorem take_get (x : List Int) {i : Nat} (h : i < x.length) : x.take (i + 1) = x.take i ++ [x.getD i 0] := by
  rw [getD_lt h, List.take_succ_eq_append_getElem h]
theorem count_get (x : List Int) {i : Nat} (h : i < x.length) (a : Int) : (x.take (i + 1)).count a = (x.take i).count a + (if x.getD i 0 = a then 1 else 0) := by
  rw [take_get x h, List.count_append, List.count_singleton]
  simp only [beq_iff_eq]
theorem count_le (x : List Int) (i : Nat) (a : Int) : (x.take i).count a ≤ x.count a := (List.take_sublist i x).count_le a
/-- counts of the first i letters -/
structure CN (N : Nat) (x : List Int) (i : Nat) (s : List Int) : Prop where
  len : s.length = N
  at_ : ∀ j, j < N → s.getD j 0 = (((x.take i).count (j : Int) : Nat) : Int)
theorem CN.step {N : Nat} {x : List Int} {i : Nat} {s : List Int} (h : CN N x i s) (hi : i < x.length) (h0 : 0 ≤ x.getD i 0) (hN : x.getD i 0 < (N : Int)) {c : Int} (hc : c = s.getD (x.getD i 0).toNat 0 + 1) : CN N x (i + 1) (s.set (x.getD i 0).toNat c) := by
  refine ⟨by rw [List.length_set]; exact h.len, fun j hj => ?_⟩
  rw [count_get x hi]
  have hl := h.len
  by_cases e : (x.getD i 0).toNat = j
  · subst e
    have e2 : ((x.getD i 0).toNat : Int) = x.getD i 0 := by omega
    rw [hc, List.getD_eq_getElem?_getD, List.getElem?_set_self (by omega), Option.getD_some, h.at_ _ hj, e2, if_pos rfl]; rfl
  · rw [List.getD_eq_getElem?_getD, List.getElem?_set_ne e, ← List.getD_eq_getElem?_getD, h.at_ j hj, if_neg (by omega)]; rfl
theorem CN.zero (N : Nat) (x : List Int) : CN N x 0 (List.replicate N 0) := ⟨by simp, fun j hj => by
  rw [List.getD_eq_getElem?_getD, List.getElem?_replicate, if_pos hj]; simp⟩
/-- letters of m players -/
def Good (m : Nat) (x : List Int) : Prop := (∀ i, i < x.length → 0 ≤ x.getD i 0 ∧ x.getD i 0 < (m : Int)) ∧ ∀ j, j < m → x.count (j : Int) = 6
theorem div6 {x : List Int} {m : Nat} (hx : x.length = 6 * m) (hm : m ≤ 1000) : IntKind.wrap .i64 ((x.length : Int).tdiv 6) = (m : Int) := by
  have : ((x.length : Int).tdiv 6) = ((x.length / 6 : Nat) : Int) := rfl
  rw [this, wrap_nat (by omega)]; omega
theorem mod6 {x : List Int} {m : Nat} (hx : x.length = 6 * m) : (x.length : Int).tmod 6 = 0 := by
  have : ((x.length : Int).tmod 6) = ((x.length % 6 : Nat) : Int) := rfl
  rw [this]; omega
theorem letters_eq {x : List Int} {m : Nat} (hx : x.length = 6 * m) (h1 : 1 ≤ m) (h4 : m ≤ 4) : (Good m x → p_spec_l10Letters x = some true) ∧ (¬ Good m x → p_spec_l10Letters x = some false) := by
  unfold p_spec_l10Letters
  rw [div6 hx (by omega), mod6 hx, l1In_eq, decide_eq_true (by omega : (6 : Int) ≤ (x.length : Int) ∧ (x.length : Int) ≤ 24)]
  simp only [decide_true, Bool.not_true, Bool.or_false, Bool.false_eq_true, if_false]
  have hw : IntKind.wrap .i64 ((m : Int) - 1) = (m : Int) - 1 := wrap_i64 (by omega) (by omega)
  rw [hw]
  refine cnt_ind0 x.length (fun i s => CN 4 x i s ∧ ∀ k, k < i → 0 ≤ x.getD k 0 ∧ x.getD k 0 < (m : Int)) (fun r => (Good m x → r = some true) ∧ (¬ Good m x → r = some false)) (by omega) ⟨CN.zero 4 x, fun k hk => by omega⟩ (fun s ⟨hs, hr⟩ => ?_) (fun i s c hi ⟨hs, hr⟩ hc => ?_)
  · have hall := cnt_ind0 (f := fun i24 (s23 : Unit) c25 _ => if i24 < 4 then (if (s.getD i24.toNat 0) = 6 then c25 () else some false) else none) (k := fun i24 (s23 : Unit) => some true) (d := Int.toNat ((m : Int) - 0)) (s := ()) m (fun i _ => ∀ j, j < i → x.count (j : Int) = 6) (fun r => (Good m x → r = some true) ∧ (¬ Good m x → r = some false)) (by omega) (fun j hj => by omega)
      (fun _ h => ⟨fun _ => rfl, fun hn => (hn ⟨hr, h⟩).elim⟩) (fun i u c hi h hc => by
        have hat := hs.at_ i (by omega)
        rw [List.take_of_length_le (Nat.le_refl _)] at hat
        rw [if_pos (by omega), Int.toNat_natCast, hat]
        by_cases e : x.count (i : Int) = 6
        · rw [if_pos (by omega)]
          refine hc () (fun j hj => ?_)
          by_cases e2 : j = i
          · rw [e2]; exact e
          · exact h j (by omega)
        · rw [if_neg (by omega)]
          exact ⟨fun hg => (e (hg.2 i hi)).elim, fun _ => rfl⟩)
    exact hall
  · rw [Int.toNat_natCast, l1In_eq]
    by_cases e : 0 ≤ x.getD i 0 ∧ x.getD i 0 ≤ (m : Int) - 1
    · rw [decide_eq_true e, if_pos rfl, if_pos e.1, if_pos (by omega)]
      have hb : s.getD (x.getD i 0).toNat 0 ≤ 24 := by
        rw [hs.at_ _ (by omega)]
        have := count_le x i ((x.getD i 0).toNat : Int)
        have := List.count_le_length (a := ((x.getD i 0).toNat : Int)) (l := x)
        omega
      have hb0 : 0 ≤ s.getD (x.getD i 0).toNat 0 := by rw [hs.at_ _ (by omega)]; omega
      refine hc _ ⟨hs.step hi e.1 (by omega) (wrap_i64 (by omega) (by omega)), fun k hk => ?_⟩
      by_cases e2 : k = i
      · rw [e2]; omega
      · exact hr k (by omega)
    · rw [decide_eq_false e, if_neg (by simp)]
      exact ⟨fun hg => by have := hg.1 i hi; omega, fun _ => rfl⟩
/-- the pool of the first i letters -/
def poolAt (m : Nat) (x : List Int) : Nat → List (List Int)
  | 0 => List.replicate m (List.replicate 6 0)
  | i + 1 => (poolAt m x i).set (x.getD i 0).toNat (((poolAt m x i).getD (x.getD i 0).toNat (List.replicate 6 0)).set ((x.take i).count (x.getD i 0)) ((i : Int) + 1))
theorem pool_letters {x : List Int} {m : Nat} (hx : x.length = 6 * m) (h1 : 1 ≤ m) (h4 : m ≤ 4) (hg : Good m x) : p_spec_l10Pool x = some (poolAt m x x.length) := by
  unfold p_spec_l10Pool
  rw [div6 hx (by omega), if_pos (by omega), if_pos (by omega), Int.toNat_natCast]
  refine cnt_ind0 x.length (fun i s => s.1 = poolAt m x i ∧ CN 4 x i s.2) (fun r => r = some (poolAt m x x.length)) (by omega) ⟨rfl, CN.zero 4 x⟩ (fun s hs => by rw [hs.1]) (fun i s c hi ⟨hs, hc4⟩ hc => ?_)
  obtain ⟨g0, g1⟩ := hg.1 i hi
  have e2 : ((x.getD i 0).toNat : Int) = x.getD i 0 := by omega
  have hat := hc4.at_ (x.getD i 0).toNat (by omega)
  rw [e2] at hat
  have hlt : (x.take i).count (x.getD i 0) < 6 := by
    have a1 := count_get x hi (x.getD i 0)
    rw [if_pos rfl] at a1
    have a2 := count_le x (i + 1) (x.getD i 0)
    have a3 := hg.2 (x.getD i 0).toNat (by omega)
    rw [e2] at a3
    omega
  rw [Int.toNat_natCast, if_pos g0, if_pos (by omega), if_pos g1, hat, if_pos (by omega), if_pos (by omega), Int.toNat_natCast]
  refine hc _ ⟨?_, hc4.step hi g0 (by omega) (by rw [hat])⟩
  rw [hs]; rfl
theorem sum_count (m : Nat) : ∀ (x : List Int), (∀ v ∈ x, 0 ≤ v ∧ v < (m : Int)) → sumTo (fun j => x.count (j : Int)) m = x.length
  | [], _ => by simp [sumTo_const]
  | v :: x, h => by
    have ih := sum_count m x (fun u hu => h u (List.mem_cons_of_mem _ hu))
    have hv := h v (by simp)
    have one : ∀ k : Nat, sumTo (fun j => if v = (j : Int) then 1 else 0) k = if v < (k : Int) then 1 else 0 := by
      intro k
      induction k with
      | zero => rw [if_neg (by omega)]; rfl
      | succ k ik =>
        simp only [sumTo]; rw [ik]
        by_cases e1 : v < (k : Int)
        · rw [if_pos e1, if_neg (by omega), if_pos (by omega)]
        · rw [if_neg e1]
          by_cases e2 : v = (k : Int)
          · rw [if_pos e2, if_pos (by omega)]
          · rw [if_neg e2, if_neg (by omega)]
    have := sumTo_add (f := fun j => x.count (j : Int)) (g := fun j => if v = (j : Int) then 1 else 0) (h := fun j => (v :: x).count (j : Int)) m (fun j hj => by
      simp only [List.count_cons, beq_iff_eq])
    rw [← this, ih, one m, if_pos hv.2, List.length_cons]
theorem poolAt_len (m : Nat) (x : List Int) : ∀ i, (poolAt m x i).length = m
  | 0 => by simp [poolAt]
  | i + 1 => by simp only [poolAt, List.length_set, poolAt_len m x i]
end Go.GA.E
