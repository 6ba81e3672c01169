/- Plain law of MendLetters. -/
import Derived.Test.YtbaeipeeacpobaaP10f
namespace Go.GA
open Go
set_option maxRecDepth 100000
set_option linter.unusedVariables false
set_option linter.unusedSimpArgs false
theorem getD_lt {x : List Int} {i : Nat} (h : i < x.length) : x.getD i 0 = x[i] := by
  rw [List.getD_eq_getElem?_getD, List.getElem?_eq_getElem h]; rfl
theorem take_get (x : List Int) {i : Nat} (h : i < x.length) : x.take (i + 1) = x.take i ++ [x.getD i 0] := by
  rw [getD_lt h, List.take_succ_eq_append_getElem h]
theorem count_get (x : List Int) {i : Nat} (h : i < x.length) (a : Int) : (x.take (i + 1)).count a = (x.take i).count a + (if x.getD i 0 = a then 1 else 0) := by
  rw [take_get x h, List.count_append, List.count_singleton]
  simp only [beq_iff_eq]
theorem count_le (x : List Int) (i : Nat) (a : Int) : (x.take i).count a ≤ x.count a := (List.take_sublist i x).count_le a
/-- counts of the first i letters -/
structure CN (N : Nat) (x : List Int) (i : Nat) (s : List Int) : Prop where
  len : s.length = N
  at_ : ∀ j, j < N → s.getD j 0 = (((x.take i).count (j : Int) : Nat) : Int)
theorem CN.step {N : Nat} {x : List Int} {i : Nat} {s : List Int} (h : CN N x i s) (hi : i < x.length) (h0 : 0 ≤ x.getD i 0) (hN : x.getD i 0 < (N : Int)) {c : Int} (hc : c = s.getD (x.getD i 0).toNat 0 + 1) : CN N x (i + 1) (s.set (x.getD i 0).toNat c) := by
  refine ⟨by rw [List.length_set]; exact h.len, fun j hj => ?_⟩
  rw [count_get x hi]
  have hl := h.len
  by_cases e : (x.getD i 0).toNat = j
  · subst e
    have e2 : ((x.getD i 0).toNat : Int) = x.getD i 0 := by omega
    rw [hc, List.getD_eq_getElem?_getD, List.getElem?_set_self (by omega), Option.getD_some, h.at_ _ hj, e2, if_pos rfl]; rfl
  · rw [List.getD_eq_getElem?_getD, List.getElem?_set_ne e, ← List.getD_eq_getElem?_getD, h.at_ j hj, if_neg (by omega)]; rfl
theorem CN.zero (N : Nat) (x : List Int) : CN N x 0 (List.replicate N 0) := ⟨by simp, fun j hj => by
  rw [List.getD_eq_getElem?_getD, List.getElem?_replicate, if_pos hj]; simp⟩
/-- letters of m players -/
def Good (m : Nat) (x : List Int) : Prop := (∀ i, i < x.length → 0 ≤ x.getD i 0 ∧ x.getD i 0 < (m : Int)) ∧ ∀ j, j < m → x.count (j : Int) = 6
theorem div6 {x : List Int} {m : Nat} (hx : x.length = 6 * m) (hm : m ≤ 1000) : IntKind.wrap .i64 ((x.length : Int).tdiv 6) = (m : Int) := by
  have : ((x.length : Int).tdiv 6) = ((x.length / 6 : Nat) : Int) := rfl
  rw [this, wrap_nat (by omega)]; omega
theorem mod6 {x : List Int} {m : Nat} (hx : x.length = 6 * m) : (x.length : Int).tmod 6 = 0 := by
  have : ((x.length : Int).tmod 6) = ((x.length % 6 : Nat) : Int) := rfl
  rw [this]; omega
theorem letters_eq {x : List Int} {m : Nat} (hx : x.length = 6 * m) (h1 : 1 ≤ m) (h4 : m ≤ 4) : (Good m x → p_spec_l10Letters x = some true) ∧ (¬ Good m x → p_spec_l10Letters x = some false) := by
  unfold p_spec_l10Letters
  rw [div6 hx (by omega), mod6 hx, l1In_eq, decide_eq_true (by omega : (6 : Int) ≤ (x.length : Int) ∧ (x.length : Int) ≤ 24)]
  simp only [decide_true, Bool.not_true, Bool.or_false, Bool.false_eq_true, if_false]
  have hw : IntKind.wrap .i64 ((m : Int) - 1) = (m : Int) - 1 := wrap_i64 (by omega) (by omega)
  rw [hw]
  refine cnt_ind0 x.length (fun i s => CN 4 x i s ∧ ∀ k, k < i → 0 ≤ x.getD k 0 ∧ x.getD k 0 < (m : Int)) (fun r => (Good m x → r = some true) ∧ (¬ Good m x → r = some false)) (by omega) ⟨CN.zero 4 x, fun k hk => by omega⟩ (fun s ⟨hs, hr⟩ => ?_) (fun i s c hi ⟨hs, hr⟩ hc => ?_)
  · have hall := cnt_ind0 (f := fun i24 (s23 : Unit) c25 _ => if i24 < 4 then (if (s.getD i24.toNat 0) = 6 then c25 () else some false) else none) (k := fun i24 (s23 : Unit) => some true) (d := Int.toNat ((m : Int) - 0)) (s := ()) m (fun i _ => ∀ j, j < i → x.count (j : Int) = 6) (fun r => (Good m x → r = some true) ∧ (¬ Good m x → r = some false)) (by omega) (fun j hj => by omega)
      (fun _ h => ⟨fun _ => rfl, fun hn => (hn ⟨hr, h⟩).elim⟩) (fun i u c hi h hc => by
        have hat := hs.at_ i (by omega)
        rw [List.take_of_length_le (Nat.le_refl _)] at hat
        rw [if_pos (by omega), Int.toNat_natCast, hat]
        by_cases e : x.count (i : Int) = 6
        · rw [if_pos (by omega)]
          refine hc () (fun j hj => ?_)
          by_cases e2 : j = i
          · rw [e2]; exact e
          · exact h j (by omega)
        · rw [if_neg (by omega)]
          exact ⟨fun hg => (e (hg.2 i hi)).elim, fun _ => rfl⟩)
    exact hall
  · rw [Int.toNat_natCast, l1In_eq]
    by_cases e : 0 ≤ x.getD i 0 ∧ x.getD i 0 ≤ (m : Int) - 1
    · rw [decide_eq_true e, if_pos rfl, if_pos e.1, if_pos (by omega)]
      have hb : s.getD (x.getD i 0).toNat 0 ≤ 24 := by
        rw [hs.at_ _ (by omega)]
        have := count_le x i ((x.getD i 0).toNat : Int)
        have := List.count_le_length (a := ((x.getD i 0).toNat : Int)) (l := x)
        omega
      have hb0 : 0 ≤ s.getD (x.getD i 0).toNat 0 := by rw [hs.at_ _ (by omega)]; omega
      refine hc _ ⟨hs.step hi e.1 (by omega) (wrap_i64 (by omega) (by omega)), fun k hk => ?_⟩
      by_cases e2 : k = i
      · rw [e2]; omega
      · exact hr k (by omega)
    · rw [decide_eq_false e, if_neg (by simp)]
      exact ⟨fun hg => by have := hg.1 i hi; omega, fun _ => rfl⟩
/-- the pool of the first i letters -/
def poolAt (m : Nat) (x : List Int) : Nat → List (List Int)
  | 0 => List.replicate m (List.replicate 6 0)
  | i + 1 => (poolAt m x i).set (x.getD i 0).toNat (((poolAt m x i).getD (x.getD i 0).toNat (List.replicate 6 0)).set ((x.take i).count (x.getD i 0)) ((i : Int) + 1))
theorem pool_letters {x : List Int} {m : Nat} (hx : x.length = 6 * m) (h1 : 1 ≤ m) (h4 : m ≤ 4) (hg : Good m x) : p_spec_l10Pool x = some (poolAt m x x.length) := by
  unfold p_spec_l10Pool
  rw [div6 hx (by omega), if_pos (by omega), if_pos (by omega), Int.toNat_natCast]
  refine cnt_ind0 x.length (fun i s => s.1 = poolAt m x i ∧ CN 4 x i s.2) (fun r => r = some (poolAt m x x.length)) (by omega) ⟨rfl, CN.zero 4 x⟩ (fun s hs => by rw [hs.1]) (fun i s c hi ⟨hs, hc4⟩ hc => ?_)
  obtain ⟨g0, g1⟩ := hg.1 i hi
  have e2 : ((x.getD i 0).toNat : Int) = x.getD i 0 := by omega
  have hat := hc4.at_ (x.getD i 0).toNat (by omega)
  rw [e2] at hat
  have hlt : (x.take i).count (x.getD i 0) < 6 := by
    have a1 := count_get x hi (x.getD i 0)
    rw [if_pos rfl] at a1
    have a2 := count_le x (i + 1) (x.getD i 0)
    have a3 := hg.2 (x.getD i 0).toNat (by omega)
    rw [e2] at a3
    omega
  rw [Int.toNat_natCast, if_pos g0, if_pos (by omega), if_pos g1, hat, if_pos (by omega), if_pos (by omega), Int.toNat_natCast]
  refine hc _ ⟨?_, hc4.step hi g0 (by omega) (by rw [hat])⟩
  rw [hs]; rfl
theorem sum_count (m : Nat) : ∀ (x : List Int), (∀ v ∈ x, 0 ≤ v ∧ v < (m : Int)) → sumTo (fun j => x.count (j : Int)) m = x.length
  | [], _ => by simp [sumTo_const]
  | v :: x, h => by
    have ih := sum_count m x (fun u hu => h u (List.mem_cons_of_mem _ hu))
    have hv := h v (by simp)
    have one : ∀ k : Nat, sumTo (fun j => if v = (j : Int) then 1 else 0) k = if v < (k : Int) then 1 else 0 := by
      intro k
      induction k with
      | zero => rw [if_neg (by omega)]; rfl
      | succ k ik =>
        simp only [sumTo]; rw [ik]
        by_cases e1 : v < (k : Int)
        · rw [if_pos e1, if_neg (by omega), if_pos (by omega)]
        · rw [if_neg e1]
          by_cases e2 : v = (k : Int)
          · rw [if_pos e2, if_pos (by omega)]
          · rw [if_neg e2, if_neg (by omega)]
    have := sumTo_add (f := fun j => x.count (j : Int)) (g := fun j => if v = (j : Int) then 1 else 0) (h := fun j => (v :: x).count (j : Int)) m (fun j hj => by
      simp only [List.count_cons, beq_iff_eq])
    rw [← this, ih, one m, if_pos hv.2, List.length_cons]
theorem from_letters {x : List Int} {m : Nat} (hx : x.length = 6 * m) (h1 : 1 ≤ m) (h4 : m ≤ 4) : (Good m x → p_impl_fromLetters x = some (poolAt m x x.length, true)) ∧ (¬ Good m x → p_impl_fromLetters x = some ([], false)) := by
  unfold p_impl_fromLetters
  rw [div6 hx (by omega), mod6 hx, within_eq, decide_eq_true (by omega : (1 : Int) ≤ (m : Int) ∧ (m : Int) ≤ 4)]
  simp only [decide_true, Bool.not_true, Bool.or_false, Bool.false_eq_true, if_false]
  rw [if_pos (by omega), if_pos (by omega), Int.toNat_natCast]
  refine cnt_ind0 x.length (fun i s => s.1 = poolAt m x i ∧ CN m x i s.2 ∧ (∀ k, k < i → 0 ≤ x.getD k 0 ∧ x.getD k 0 < (m : Int)) ∧ ∀ j, j < m → (x.take i).count (j : Int) ≤ 6) (fun r => (Good m x → r = some (poolAt m x x.length, true)) ∧ (¬ Good m x → r = some ([], false))) (by omega)
    ⟨rfl, CN.zero m x, fun k hk => by omega, fun j hj => by simp⟩ (fun s ⟨hs, _, hr, hcn⟩ => ?_) (fun i s c hi ⟨hs, hcm, hr, hcn⟩ hc => ?_)
  · refine ⟨fun _ => by rw [hs], fun hn => (hn ⟨hr, fun j hj => ?_⟩).elim⟩
    rw [List.take_of_length_le (Nat.le_refl _)] at hcn
    have hsum := sum_count m x (fun v hv => by
      obtain ⟨k, hk, e⟩ := List.getElem_of_mem hv
      have := hr k hk
      rw [getD_lt hk, e] at this; exact this)
    rcases Nat.lt_or_ge (x.count (j : Int)) 6 with hlt | hge
    · exfalso
      have hle : ∀ k : Nat, k ≤ m → sumTo (fun j => x.count (j : Int)) k + (if j < k then 1 else 0) ≤ 6 * k := by
        intro k
        induction k with
        | zero => intro _; simp [sumTo]
        | succ k ik =>
          intro hk
          have := hcn k (by omega)
          simp only [sumTo]
          have i1 := ik (by omega)
          have c1 : j = k → x.count (k : Int) < 6 := fun e => by rw [← e]; exact hlt
          clear ik
          by_cases e : j < k
          · rw [if_pos e] at i1; rw [if_pos (by omega)]; omega
          · rw [if_neg e] at i1
            by_cases e2 : j = k
            · have := c1 e2; rw [if_pos (by omega)]; omega
            · rw [if_neg (by omega)]; omega
      have := hle m (Nat.le_refl _)
      rw [if_pos hj, hsum] at this; omega
    · have := hcn j hj; omega
  · rw [Int.toNat_natCast, within_eq]
    by_cases e : 0 ≤ x.getD i 0 ∧ x.getD i 0 ≤ (m : Int) - 1
    · have e2 : ((x.getD i 0).toNat : Int) = x.getD i 0 := by omega
      have hat := hcm.at_ (x.getD i 0).toNat (by omega)
      rw [e2] at hat
      rw [decide_eq_true e, if_pos (fun _ => e.1), if_pos (fun _ => by omega), hat]
      have a1 := count_get x hi (x.getD i 0)
      rw [if_pos rfl] at a1
      have hle := hcn (x.getD i 0).toNat (by omega)
      rw [e2] at hle
      by_cases h6 : (x.take i).count (x.getD i 0) = 6
      · rw [if_pos (by rw [h6]; simp)]
        refine ⟨fun hg => ?_, fun _ => rfl⟩
        exfalso
        have a2 := count_le x (i + 1) (x.getD i 0)
        have a3 := hg.2 (x.getD i 0).toNat (by omega)
        rw [e2] at a3
        omega
      · rw [if_neg (by rw [decide_eq_false (show ¬ (((x.take i).count (x.getD i 0) : Nat) : Int) = 6 by omega)]; simp), if_pos e.1, if_pos (by omega), if_pos (by omega), if_pos (by omega), Int.toNat_natCast]
        refine hc _ ⟨?_, hcm.step hi e.1 (by omega) (by rw [hat]), fun k hk => ?_, fun j hj => ?_⟩
        · rw [hs]; rfl
        · by_cases e3 : k = i
          · rw [e3]; omega
          · exact hr k (by omega)
        · rw [count_get x hi]
          by_cases e4 : x.getD i 0 = (j : Int)
          · rw [if_pos e4]; rw [e4] at h6 hle; omega
          · rw [if_neg e4]; exact hcn j hj
    · rw [decide_eq_false e, if_pos (by intro hh; simp at hh), if_pos (by intro hh; simp at hh), if_pos (by simp)]
      exact ⟨fun hg => by have := hg.1 i hi; omega, fun _ => rfl⟩
theorem poolAt_len (m : Nat) (x : List Int) : ∀ i, (poolAt m x i).length = m
  | 0 => by simp [poolAt]
  | i + 1 => by simp only [poolAt, List.length_set, poolAt_len m x i]
theorem spread_ok {x : List Int} {m fu : Nat} (hF : Fuel fu) (hx : x.length = 6 * m) (h1 : 1 ≤ m) (h4 : m ≤ 4) (hg : Good m x) : ∃ (out : List Int) (M L : Int), p_impl_LettersWays fu x = some (out, true) ∧ p_slices_Max_int_int out = some M ∧ p_slices_Min_int_int out = some L ∧ p_spec_l10Spread fu x = some (IntKind.wrap .i64 (M - L)) := by
  have hl := poolAt_len m x x.length
  obtain ⟨out, hw, e1, e2⟩ := ways_both (p := poolAt m x x.length) hF (by omega) (by omega)
  obtain ⟨_, _, hn1⟩ := ord_nodup (poolAt m x x.length).length (by omega) (by omega)
  have ho := hw.len
  obtain ⟨M, m1, m2, jM, m3, m4⟩ := max_ok out (by omega)
  obtain ⟨L, l1, l2, jL, l3, l4⟩ := min_ok out (by omega)
  refine ⟨out, M, L, ?_, m1, l1, ?_⟩
  · unfold p_impl_LettersWays
    rw [(from_letters hx h1 h4).1 hg, Option.bind_some, if_pos rfl, e1]; rfl
  · unfold p_spec_l10Spread
    rw [pool_letters hx h1 h4 hg, Option.bind_some, e2, Option.bind_some, if_pos (by omega)]
    refine cnt_ind0 out.length (fun i s => (∃ j, j < out.length ∧ out.getD j 0 = s.1) ∧ (∀ j, j < i → s.1 ≤ out.getD j 0) ∧ (∃ j, j < out.length ∧ out.getD j 0 = s.2) ∧ ∀ j, j < i → out.getD j 0 ≤ s.2) (fun r => r = some (IntKind.wrap .i64 (M - L))) (by omega)
      ⟨⟨0, by omega, rfl⟩, fun j hj => by omega, ⟨0, by omega, rfl⟩, fun j hj => by omega⟩ (fun s ⟨⟨a, a1, a2⟩, b, ⟨c, c1, c2⟩, d⟩ => ?_) (fun i s c hi ⟨⟨a, a1, a2⟩, b, ⟨q, c1, c2⟩, d⟩ hc => ?_)
    · have e1 : s.1 = L := by have := l2 a a1; have := b jL l3; omega
      have e2 : s.2 = M := by have := m2 c c1; have := d jM m3; omega
      rw [e1, e2]
    · rw [Int.toNat_natCast]
      refine hc _ ⟨?_, fun j hj => ?_, ?_, fun j hj => ?_⟩
      · simp only [p_spec_l1Least]
        split
        · exact ⟨a, a1, a2⟩
        · exact ⟨i, hi, rfl⟩
      · simp only [p_spec_l1Least]
        by_cases e : j = i
        · subst e; split <;> omega
        · have := b j (by omega); split <;> omega
      · simp only [p_spec_l1Most]
        split
        · exact ⟨q, c1, c2⟩
        · exact ⟨i, hi, rfl⟩
      · simp only [p_spec_l1Most]
        by_cases e : j = i
        · subst e; split <;> omega
        · have := d j (by omega); split <;> omega
/-- two neighbours exchanged -/
def swapAt (x : List Int) (k : Nat) : List Int := (x.set k (x.getD (k + 1) 0)).set (k + 1) (x.getD k 0)
theorem swap_perm {x : List Int} {k : Nat} (h : k + 1 < x.length) : (swapAt x k).Perm x := by
  unfold swapAt
  rw [getD_lt h, getD_lt (by omega : k < x.length)]
  exact List.set_set_perm (by omega) h
theorem swap_len (x : List Int) (k : Nat) : (swapAt x k).length = x.length := by simp [swapAt]
theorem swap_good {x : List Int} {m k : Nat} (hg : Good m x) (h : k + 1 < x.length) : Good m (swapAt x k) := by
  have hp := swap_perm h
  refine ⟨fun i hi => ?_, fun j hj => by rw [hp.count_eq]; exact hg.2 j hj⟩
  have hm : (swapAt x k).getD i 0 ∈ x := by
    refine hp.mem_iff.1 ?_
    rw [getD_lt hi]; exact List.getElem_mem _
  obtain ⟨q, hq, e⟩ := List.getElem_of_mem hm
  have := hg.1 q hq
  rw [getD_lt hq, e] at this; exact this
theorem mend_run {x : List Int} {m fu : Nat} (hF : Fuel fu) (hx : x.length = 6 * m) (h1 : 1 ≤ m) (h4 : m ≤ 4) (hg : Good m x) : ∀ (d k fu' : Nat) (sp : Int) (b : List Int), d + k + 1 = x.length → d < fu' → b.length = x.length → ∃ (sp' : Int) (b' : List Int), b'.length = x.length ∧
    whl (fun (s6 : Int × Int × (List Int)) c8 => (if (IntKind.wrap .i64 (s6.2.1 + 1)) < (x.length : Int) then (some x).bind (fun r13 => if 0 ≤ (IntKind.wrap .i64 (s6.2.1 + 1)) then if s6.2.1 < (r13.length : Int) then if s6.2.1 < (x.length : Int) then if (s6.2.1 + 1) < (r13.length : Int) then (p_spec_l10Spread fu ((r13.set s6.2.1.toNat (x.getD (IntKind.wrap .i64 (s6.2.1 + 1)).toNat 0)).set (s6.2.1 + 1).toNat (x.getD s6.2.1.toNat 0))).bind (fun r19 => (if r19 < s6.1 then c8 (r19, (s6.2.1 + 1), ((r13.set s6.2.1.toNat (x.getD (IntKind.wrap .i64 (s6.2.1 + 1)).toNat 0)).set (s6.2.1 + 1).toNat (x.getD s6.2.1.toNat 0))) else c8 (s6.1, (s6.2.1 + 1), s6.2.2))) else none else none else none else none) else some (s6.2.2, s6.1, true))) fu' (sp, (k : Int), b) = some (b', sp', true) ∧
    cnt (fun i9 (s8 : Int × (List Int)) c10 _ => (some x).bind (fun r15 => if i9 < (r15.length : Int) then (p_impl_LettersWays fu ((r15.set (i9 - 1).toNat (r15.getD i9.toNat 0)).set i9.toNat (r15.getD (i9 - 1).toNat 0))).bind (fun r18 => (p_slices_Max_int_int r18.1).bind (fun r20 => (p_slices_Min_int_int r18.1).bind (fun r21 => (if (IntKind.wrap .i64 (r20 - r21)) < s8.1 then c10 ((IntKind.wrap .i64 (r20 - r21)), ((r15.set (i9 - 1).toNat (r15.getD i9.toNat 0)).set i9.toNat (r15.getD (i9 - 1).toNat 0))) else c10 (s8.1, s8.2))))) else none)) (fun i9 (s8 : Int × (List Int)) => some (s8.2, s8.1, true)) d ((k + 1 : Nat) : Int) (sp, b) = some (b', sp', true)
  | 0, k, fu', sp, b, h, hf, hb => by
    obtain ⟨fu'', rfl⟩ : ∃ e, fu' = e + 1 := ⟨fu' - 1, by omega⟩
    refine ⟨sp, b, hb, ?_, rfl⟩
    have hw : IntKind.wrap .i64 ((k : Int) + 1) = (k : Int) + 1 := wrap_i64 (by omega) (by omega)
    simp only [whl]
    rw [hw, if_neg (by omega)]
  | d + 1, k, fu', sp, b, h, hf, hb => by
    obtain ⟨fu'', rfl⟩ : ∃ e, fu' = e + 1 := ⟨fu' - 1, by omega⟩
    have hw : IntKind.wrap .i64 ((k : Int) + 1) = ((k + 1 : Nat) : Int) := wrap_i64 (by omega) (by omega)
    have ho : p_spec_l1Own x = some x := by unfold p_spec_l1Own; rw [if_pos (by omega)]; rfl
    have hc : p_slices_Clone_int_int x = some x := ho
    have e1 : ((k : Int) + 1).toNat = k + 1 := by omega
    have e2 : (((k + 1 : Nat) : Int) - 1).toNat = k := by omega
    obtain ⟨out, M, L, s1, s2, s3, s4⟩ := spread_ok hF (by rw [swap_len]; exact hx) h1 h4 (swap_good hg (by omega : k + 1 < x.length))
    have hsw : (x.set k (x.getD (k + 1) 0)).set (k + 1) (x.getD k 0) = swapAt x k := rfl
    simp only [whl, cnt]
    rw [hw, if_pos (by omega), Option.bind_some, Option.bind_some, if_pos (by omega), if_pos (by omega), if_pos (by omega), if_pos (by omega), if_pos (by omega), e1, e2, Int.toNat_natCast, Int.toNat_natCast, hsw, s1, s4, Option.bind_some, Option.bind_some, s2, Option.bind_some, s3, Option.bind_some]
    have e3 : ((k : Int) + 1) = ((k + 1 : Nat) : Int) := rfl
    have e4 : (((k + 1 : Nat) : Int) + 1) = ((k + 1 + 1 : Nat) : Int) := rfl
    rw [e3, e4]
    by_cases hlt : IntKind.wrap .i64 (M - L) < sp
    · rw [if_pos hlt, if_pos hlt]
      exact mend_run hF hx h1 h4 hg d (k + 1) fu'' _ _ (by omega) (by omega) (by rw [swap_len])
    · rw [if_neg hlt, if_neg hlt]
      exact mend_run hF hx h1 h4 hg d (k + 1) fu'' _ _ (by omega) (by omega) hb
theorem mend_eq {x : List Int} {fu : Nat} (hF : Fuel fu) (hf : 1000 < fu) (hl : x.length ≤ 1048576) : ∃ (b : List Int) (sp : Int) (q : Bool), b.length ≤ 24 ∧ p_spec_MendLetters fu x = some (b, sp, q) ∧ p_impl_MendLetters fu x = some (b, sp, q) := by
  by_cases hm : ∃ m, x.length = 6 * m ∧ 1 ≤ m ∧ m ≤ 4
  · obtain ⟨m, hx, h1, h4⟩ := hm
    by_cases hg : Good m x
    · obtain ⟨out, M, L, s1, s2, s3, s4⟩ := spread_ok hF hx h1 h4 hg
      obtain ⟨sp, b, hb, r1, r2⟩ := mend_run hF hx h1 h4 hg (x.length - 1) 0 fu (IntKind.wrap .i64 (M - L)) x (by omega) (by omega) rfl
      have ho : p_spec_l1Own x = some x := by unfold p_spec_l1Own; rw [if_pos (by omega)]; rfl
      have hc : p_slices_Clone_int_int x = some x := ho
      refine ⟨b, sp, true, by omega, ?_, ?_⟩
      · unfold p_spec_MendLetters
        rw [(letters_eq hx h1 h4).1 hg, Option.bind_some, if_pos rfl, ho, Option.bind_some, s4, Option.bind_some]
        exact r1
      · unfold p_impl_MendLetters
        have e : Int.toNat ((x.length : Int) - 1) = x.length - 1 := by omega
        rw [s1, Option.bind_some, if_pos rfl, hc, Option.bind_some, s2, Option.bind_some, s3, Option.bind_some, e]
        exact r2
    · refine ⟨[], 0, false, by simp, ?_, ?_⟩
      · unfold p_spec_MendLetters
        rw [(letters_eq hx h1 h4).2 hg, Option.bind_some, if_neg (by simp)]
      · unfold p_impl_MendLetters p_impl_LettersWays
        rw [(from_letters hx h1 h4).2 hg, Option.bind_some, if_neg (by simp), Option.bind_some, if_neg (by simp)]
  · have hmod : ((x.length : Int).tmod 6) = ((x.length % 6 : Nat) : Int) := rfl
    have hdiv : IntKind.wrap .i64 ((x.length : Int).tdiv 6) = ((x.length / 6 : Nat) : Int) := by
      have : ((x.length : Int).tdiv 6) = ((x.length / 6 : Nat) : Int) := rfl
      rw [this, wrap_nat (by omega)]
    refine ⟨[], 0, false, by simp, ?_, ?_⟩
    · unfold p_spec_MendLetters p_spec_l10Letters
      rw [hmod, l1In_eq, if_pos, Option.bind_some, if_neg (by simp)]
      rw [Bool.or_eq_true, Bool.not_eq_true', Bool.not_eq_true', decide_eq_false_iff_not, decide_eq_false_iff_not]
      by_cases e : x.length % 6 = 0
      · exact .inr (fun hh => hm ⟨x.length / 6, by omega, by omega, by omega⟩)
      · exact .inl (by omega)
    · unfold p_impl_MendLetters p_impl_LettersWays p_impl_fromLetters
      rw [hmod, hdiv, within_eq, if_pos, Option.bind_some, if_neg (by simp), Option.bind_some, if_neg (by simp)]
      rw [Bool.or_eq_true, Bool.not_eq_true', Bool.not_eq_true', decide_eq_false_iff_not, decide_eq_false_iff_not]
      by_cases e : x.length % 6 = 0
      · exact .inr (fun hh => hm ⟨x.length / 6, by omega, by omega, by omega⟩)
      · exact .inl (by omega)
theorem pure_FnExactMendLetters {x : List Int} : ∃ fu, p_laws_FnExactMendLetters fu x = some true := by
  refine ⟨2000, ?_⟩
  have hF : Fuel 2000 := fuel2000
  generalize hfu : 2000 = fu at hF ⊢
  unfold p_laws_FnExactMendLetters
  by_cases hl : 1048576 < (x.length : Int)
  · rw [if_pos hl]
  · rw [if_neg hl, toIntS_eq (by omega)]
    obtain ⟨b, sp, q, hb, e1, e2⟩ := mend_eq (x := x) hF (by omega) (by omega)
    rw [Option.bind_some, e1, Option.bind_some, Option.bind_some, e2, Option.bind_some]
    obtain ⟨m1, m2⟩ := held_mark b (by omega)
    have hmx := mark_eq x 1 (by omega) (by omega)
    have hn : ¬ (1 + (b.length : Int) < 0) := by omega
    have hn2 : ¬ (1 + (x.length : Int) < 0) := by omega
    simp only [Option.bind_some, e2, eqIntS_eq, hmx, m1, m2, decide_eq_false hn2, decide_true, Bool.not_true, bne_self_eq_false, Bool.or_false, Bool.false_eq_true, if_false, if_true, if_neg hn]
end Go.GA
