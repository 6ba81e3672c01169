/- Plain law of FnBursts: faces counted, the parts of the law. -/
import Derived.Test.YtddljmnmkiofmaaWKm
import Derived.Test.YtddljmnmkiofmaaWKt
namespace Go.GA.E
open Go
set_option maxRecDepth 100000
section
variable {x : List Int} {fu : Nat}
theorem cf_run : ∀ (y : List Int) (vs : List Nat), (∀ f ∈ y, 0 ≤ f ∧ f ≤ 30) → vs.length + y.length ≤ 1000 → lrun (fun (f : Int) (s2 : List Int) (c4 : List Int → Option (List Int × Bool)) => if 0 ≤ f then if f < 31 then c4 (s2.set f.toNat (IntKind.wrap .i64 ((s2.getD f.toNat 0) + 1))) else none else none) (fun s2 => some (s2, true)) y (tabV 31 vs) = some (tabV 31 (vs ++ y.map Int.toNat), true)
  | [], vs, _, _ => by simp [lrun]
  | f :: y, vs, h, hl => by
    have hf := h f (by simp)
    simp only [List.length_cons] at hl
    have ih := cf_run y (vs ++ [f.toNat]) (fun g hg => h g (by simp [hg])) (by simp; omega)
    rw [lrun.eq_2, if_pos hf.1, if_pos (by omega), tabV_inc (by omega) (by omega)]
    refine ih.trans ?_
    rw [List.append_assoc]; rfl
theorem faces_eq (h : x.length = 6) (hd : p_impl_IsDie x = true) : p_impl_CountFaces x = some (tabV 31 (x.map Int.toNat), true) := by
  unfold p_impl_CountFaces
  rw [if_pos hd, cnt_list (fun (f : Int) (s2 : List Int) (c4 : List Int → Option (List Int × Bool)) => if 0 ≤ f then if f < 31 then c4 (s2.set f.toNat (IntKind.wrap .i64 ((s2.getD f.toNat 0) + 1))) else none else none) x 0 (by rw [h]; rfl) (fun _ _ _ _ _ => rfl)]
  have := cf_run x [] (die_fa hd) (by simp; omega)
  rw [tabV_nil, List.nil_append] at this
  exact this
theorem pos_run {Q : Type} (K : Int → Q) : ∀ (T : List Int) (s : Nat), s + T.length ≤ 1000 → lrun (fun (a : Int) (s : Int) (c : Int → Q) => if 0 < a then c (IntKind.wrap .i64 (s + 1)) else c s) K T (s : Int) = K ((s + T.countP (fun a => decide (0 < a)) : Nat) : Int)
  | [], s, _ => rfl
  | a :: T, s, h => by
    simp only [List.length_cons] at h
    rw [lrun.eq_2, List.countP_cons]
    by_cases ha : 0 < a
    · rw [if_pos ha, wrap_i64 (by omega) (by omega), show (s : Int) + 1 = ((s + 1 : Nat) : Int) from rfl]
      refine (pos_run K T (s + 1) (by omega)).trans ?_
      rw [if_pos (by simpa using ha)]
      congr 2; omega
    · rw [if_neg ha]
      refine (pos_run K T s (by omega)).trans ?_
      rw [if_neg (by simpa using ha)]
      rfl
theorem count_nat : ∀ (l : List Int) (j : Nat), (∀ a ∈ l, 0 ≤ a) → (l.map Int.toNat).count j = l.count (j : Int)
  | [], j, _ => rfl
  | a :: l, j, h => by
    have ha := h a (by simp)
    rw [List.map_cons, List.count_cons, List.count_cons, count_nat l j (fun b hb => h b (by simp [hb]))]
    by_cases e : a = (j : Int)
    · subst e; simp
    · have e1 : (a == (j : Int)) = false := by simpa using e
      have e2 : (a.toNat == j) = false := by simp; omega
      rw [e1, e2]
theorem countP_sum (p : Nat → Bool) : ∀ l : List Nat, ((l.countP p : Nat) : Int) = (l.map (fun j => if p j = true then (1 : Int) else 0)).sum
  | [] => rfl
  | a :: l => by
    rw [List.countP_cons, List.map_cons, List.sum_cons, Int.natCast_add, countP_sum p l]
    split <;> simp <;> omega
/-- as many faces as numbers -/
theorem pos_count (h : x.length = 6) (hd : p_impl_IsDie x = true) : (tabV 31 (x.map Int.toNat)).countP (fun a => decide (0 < a)) = (dd x).length := by
  have hx := die_fa hd
  have hddx : ∀ a ∈ dd x, 0 ≤ a ∧ a ≤ 30 := fun a ha => hx a ((dd_mem x a).1 ha)
  have hw := weigh (fun _ => 1) 31 ((dd x).map Int.toNat) (fun v hv => by
    obtain ⟨a, ha, rfl⟩ := List.mem_map.1 hv
    have := hddx a ha
    omega)
  have e : (tabV 31 (x.map Int.toNat)).countP (fun a => decide (0 < a)) = (List.range 31).countP (fun j => decide (0 < (x.map Int.toNat).count j)) := by
    unfold tabV
    rw [List.countP_map]
    congr 1
    funext j
    show decide (0 < (((x.map Int.toNat).count j : Nat) : Int)) = _
    by_cases h0 : 0 < (x.map Int.toNat).count j
    · rw [decide_eq_true h0, decide_eq_true (by omega)]
    · rw [decide_eq_false h0, decide_eq_false (by omega)]
  have e2 : (((List.range 31).countP (fun j => decide (0 < (x.map Int.toNat).count j)) : Nat) : Int) = ((dd x).length : Int) := by
    rw [countP_sum]
    have e3 : (List.range 31).map (fun j => if (decide (0 < (x.map Int.toNat).count j)) = true then (1 : Int) else 0) = (List.range 31).map (fun j => (1 : Int) * ((((dd x).map Int.toNat).count j : Nat) : Int)) := List.map_congr_left (fun j _ => by
      rw [count_nat x j (fun a ha => (hx a ha).1), count_nat (dd x) j (fun a ha => (hddx a ha).1)]
      by_cases hm : (j : Int) ∈ x
      · rw [one_each h hd _ hm, if_pos (by simpa using List.count_pos_iff.2 hm)]; rfl
      · have h0 : (dd x).count (j : Int) = 0 := List.count_eq_zero.2 (fun hh => hm ((dd_mem x _).1 hh))
        rw [h0, if_neg (by simp; exact hm)]; rfl)
    rw [e3, hw]
    have : ∀ l : List Nat, (l.map (fun _ => (1 : Int))).sum = (l.length : Int) := fun l => by
      induction l with
      | nil => rfl
      | cons a l ih => simp only [List.map_cons, List.sum_cons, ih, List.length_cons]; omega
    rw [this, List.length_map]
  rw [e]
  omega
/-! ### all numbers -/
theorem all_both (h : x.length = 6) (n : Int) (hf : 100000000000 ≤ fu) : p_impl_ChanceAll fu x n = some (if (p_impl_IsDie x && p_impl_isRolls n) = true then (cutF (allW (wsF x) n.toNat).toNat (6 ^ n.toNat), true) else (List.replicate 2 0, false)) ∧ p_spec_ChanceAll fu x n = some (if (p_impl_IsDie x && p_impl_isRolls n) = true then (cutF (allW (wsF x) n.toNat).toNat (6 ^ n.toNat), true) else (List.replicate 2 0, false)) := by
  by_cases hg : (p_impl_IsDie x && p_impl_isRolls n) = true
  · have hg' := hg
    simp only [Bool.and_eq_true] at hg'
    obtain ⟨hd, hr⟩ := hg'
    unfold p_impl_isRolls at hr
    rw [within_eq, decide_eq_true_eq] at hr
    obtain ⟨N, rfl⟩ : ∃ N : Nat, n = (N : Int) := ⟨n.toNat, by omega⟩
    rw [if_pos hg, allI_good h hd (by omega) hf, allS_good h hd (by omega) hf, Int.toNat_natCast]
    exact ⟨rfl, rfl⟩
  · unfold p_impl_ChanceAll p_spec_ChanceAll
    rw [rolls_ok h, Option.bind_some, if_neg hg, if_neg hg, if_pos (by revert hg; cases p_impl_IsDie x <;> cases p_impl_isRolls n <;> simp)]
    exact ⟨rfl, rfl⟩
theorem mean_both (h : x.length = 6) (hf : 100000 ≤ fu) : p_impl_MeanAll fu x = some (if p_impl_IsDie x = true then (cutF (meanW (wsF x)).toNat 60, true) else (List.replicate 2 0, false)) ∧ p_spec_MeanAll fu x = some (if p_impl_IsDie x = true then (cutF (meanW (wsF x)).toNat 60, true) else (List.replicate 2 0, false)) := by
  by_cases hd : p_impl_IsDie x = true
  · rw [if_pos hd, meanI_good h hd hf, meanS_good h hd hf]
    exact ⟨rfl, rfl⟩
  · unfold p_impl_MeanAll p_spec_MeanAll
    rw [l2Die_eq h, Option.bind_some, if_neg hd, if_neg hd, if_neg hd]
    exact ⟨rfl, rfl⟩
/-- the mean wait is no less than the number of numbers -/
theorem part1 (h : x.length = 6) : (if (if p_impl_IsDie x = true then (cutF (meanW (wsF x)).toNat 60, true) else (List.replicate 2 0, false)).2 = true then (p_impl_CountFaces x).bind (fun r538 => cnt (fun i540 (s539 : Int) c541 _ => (if 0 < (r538.1.getD i540.toNat 0) then c541 (IntKind.wrap .i64 (s539 + 1)) else c541 s539)) (fun i540 (s539 : Int) => some (r538.2 && (!(p_laws_vLess (if p_impl_IsDie x = true then (cutF (meanW (wsF x)).toNat 60, true) else (List.replicate 2 0, false)).1 [s539, 1])))) (Int.toNat (31 - 0)) 0 0) else some true) = some true := by
  by_cases hd : p_impl_IsDie x = true
  · simp only [if_pos hd, ↓reduceIte]
    rw [faces_eq h hd, Option.bind_some]
    have hl : (tabV 31 (x.map Int.toNat)).length = 31 := tabV_len _ _
    rw [cnt_list (fun (a : Int) (s : Int) (c : Int → Option Bool) => if 0 < a then c (IntKind.wrap .i64 (s + 1)) else c s) (tabV 31 (x.map Int.toNat)) 0 (by rw [hl]; rfl) (fun _ _ _ _ _ => rfl)]
    have := pos_run (fun (s539 : Int) => some (true && (!(p_laws_vLess (cutF (meanW (wsF x)).toNat 60) [s539, 1])))) (tabV 31 (x.map Int.toNat)) 0 (by rw [hl]; omega)
    refine this.trans ?_
    rw [pos_count h hd, Nat.zero_add]
    have hfin := fin_mean _ (in_comps h hd)
    rw [wsF_len] at hfin
    have hdl : (dd x).length ≤ 6 := h ▸ dd_len x
    have e1 : [((dd x).length : Int), 1] = cutF (dd x).length 1 := by
      unfold cutF
      rw [Nat.gcd_one_right, Nat.div_one]; rfl
    rw [e1, less_any _ _ _ _ (by omega) (by omega) (by omega) (by omega) (by omega) (by omega), decide_eq_false (by omega)]
    rfl
  · simp only [if_neg hd]
    rfl
/-- all numbers come no less with more rolls -/
theorem part2 (h : x.length = 6) (n : Int) (hf : 100000000000 ≤ fu) (K : Unit → Option Bool) : (if ((if (p_impl_IsDie x && p_impl_isRolls n) = true then (cutF (allW (wsF x) n.toNat).toNat (6 ^ n.toNat), true) else (List.replicate 2 0, false)).2 && (decide (n < 12))) = true then (p_impl_ChanceAll fu x (IntKind.wrap .i64 (n + 1))).bind (fun r560 => (if ((!r560.2) || (p_laws_vLess r560.1 (if (p_impl_IsDie x && p_impl_isRolls n) = true then (cutF (allW (wsF x) n.toNat).toNat (6 ^ n.toNat), true) else (List.replicate 2 0, false)).1)) = true then some false else K ())) else K ()) = K () := by
  by_cases hg : (p_impl_IsDie x && p_impl_isRolls n) = true
  · simp only [if_pos hg, Bool.true_and]
    by_cases h12 : n < 12
    · rw [if_pos (by simpa using h12)]
      have hg' := hg
      simp only [Bool.and_eq_true] at hg'
      obtain ⟨hd, hr⟩ := hg'
      unfold p_impl_isRolls at hr
      rw [within_eq, decide_eq_true_eq] at hr
      obtain ⟨N, rfl⟩ : ∃ N : Nat, n = (N : Int) := ⟨n.toNat, by omega⟩
      have hN : N ≤ 11 := by omega
      rw [wrap_i64 (by omega) (by omega), show (N : Int) + 1 = ((N + 1 : Nat) : Int) from rfl, allI_good h hd (by omega) hf, Option.bind_some, Int.toNat_natCast]
      have f1 := fin_all _ (in_comps h hd) N (by omega)
      have f2 := fin_all _ (in_comps h hd) (N + 1) (by omega)
      have p1 := pow12 (n := N) (by omega)
      have p2 := pow12 (n := N + 1) (by omega)
      have q1 : 0 < 6 ^ N := Nat.pow_pos (by omega)
      have q2 : 0 < 6 ^ (N + 1) := Nat.pow_pos (by omega)
      rw [less_any _ _ _ _ q2 q1 (by omega) (by omega) p2 p1, decide_eq_false]
      · rfl
      · have hle : (allW (wsF x) N).toNat * 6 ≤ (allW (wsF x) (N + 1)).toNat := by omega
        have := Nat.mul_le_mul_right (6 ^ N) hle
        rw [Nat.pow_succ]
        have e : (allW (wsF x) N).toNat * (6 ^ N * 6) = (allW (wsF x) N).toNat * 6 * 6 ^ N := by rw [Nat.mul_comm (6 ^ N), Nat.mul_assoc]
        omega
    · rw [if_neg (by simpa using h12)]
  · simp only [if_neg hg]
    rfl
/-- within so many rolls -/
theorem part3 (h : x.length = 6) (v n : Int) (hf : 100000000000 ≤ fu) (K : Unit → Option Bool) : (if (if (p_impl_IsDie x && p_impl_isRolls n) = true then (cutF (wn x v n.toNat) (6 ^ n.toNat), true) else (List.replicate 2 0, false)).2 = true then (if (((p_laws_vLess [1, 1] (if (p_impl_IsDie x && p_impl_isRolls n) = true then (cutF (wn x v n.toNat) (6 ^ n.toNat), true) else (List.replicate 2 0, false)).1) || (((if (p_impl_IsDie x && p_impl_has x v) = true then (cutF 6 (x.count v), true) else (List.replicate 2 0, false)).2 && (decide (0 < n))) && (decide (((if (p_impl_IsDie x && p_impl_isRolls n) = true then (cutF (wn x v n.toNat) (6 ^ n.toNat), true) else (List.replicate 2 0, false)).1.getD 0 0) = 0)))) || ((!(if (p_impl_IsDie x && p_impl_has x v) = true then (cutF 6 (x.count v), true) else (List.replicate 2 0, false)).2) && (decide (0 < ((if (p_impl_IsDie x && p_impl_isRolls n) = true then (cutF (wn x v n.toNat) (6 ^ n.toNat), true) else (List.replicate 2 0, false)).1.getD 0 0))))) = true then some false else (if (if (p_impl_IsDie x && p_impl_has x v) = true then (cutF 6 (x.count v), true) else (List.replicate 2 0, false)).2 = true then (p_impl_PhraseWithin fu x [v] n).bind (fun r630 => (p_impl_PhraseWait fu x [v]).bind (fun r631 => (if ((((!r630.2) || (!r631.2)) || (!(decide (r630.1 = (if (p_impl_IsDie x && p_impl_isRolls n) = true then (cutF (wn x v n.toNat) (6 ^ n.toNat), true) else (List.replicate 2 0, false)).1)))) || (!(decide (r631.1 = (if (p_impl_IsDie x && p_impl_has x v) = true then (cutF 6 (x.count v), true) else (List.replicate 2 0, false)).1)))) = true then some false else K ()))) else K ())) else K ()) = K () := by
  by_cases hg : (p_impl_IsDie x && p_impl_isRolls n) = true
  · simp only [if_pos hg, ↓reduceIte]
    have hg' := hg
    simp only [Bool.and_eq_true] at hg'
    obtain ⟨hd, hr⟩ := hg'
    unfold p_impl_isRolls at hr
    rw [within_eq, decide_eq_true_eq] at hr
    obtain ⟨N, rfl⟩ : ∃ N : Nat, n = (N : Int) := ⟨n.toNat, by omega⟩
    have hN : N ≤ 12 := by omega
    have p1 := pow12 hN
    have q1 : 0 < 6 ^ N := Nat.pow_pos (by omega)
    have hs := sub_pow x v N
    have hwn : wn x v N ≤ 6 ^ N := by unfold wn; omega
    have hc := cnt6 h v
    rw [Int.toNat_natCast]
    have hless : p_laws_vLess [1, 1] (cutF (wn x v N) (6 ^ N)) = false := by
      rw [← cut_one q1, less_any _ _ _ _ q1 q1 (by omega) (by omega) p1 p1, decide_eq_false]
      have := Nat.mul_le_mul_right (6 ^ N) hwn
      omega
    have e0 : (cutF (wn x v N) (6 ^ N)).getD 0 0 = ((wn x v N / Nat.gcd (wn x v N) (6 ^ N) : Nat) : Int) := rfl
    rw [hless, e0]
    by_cases hv : p_impl_has x v = true
    · have hw : (p_impl_IsDie x && p_impl_has x v) = true := by rw [hd, hv]; rfl
      simp only [if_pos hw, Bool.true_and, Bool.false_or, Bool.not_true, Bool.false_and, Bool.or_false, ↓reduceIte]
      have hcp : 0 < x.count v := by rw [has_count] at hv; simpa using hv
      rw [if_neg]
      · rw [phrase_within h hd hv hN hf, Option.bind_some, phrase_wait h hd hv (by omega), Option.bind_some, if_neg (by simp)]
      · simp only [Bool.and_eq_true, decide_eq_true_eq]
        intro hh
        have hN0 : 0 < N := by omega
        have hlt : (6 - x.count v) ^ N < 6 ^ N := Nat.pow_lt_pow_left (by omega) (by omega)
        have hpos : 0 < wn x v N := by unfold wn; omega
        have hgp : 0 < Nat.gcd (wn x v N) (6 ^ N) := Nat.gcd_pos_of_pos_left _ hpos
        have := Nat.div_pos (Nat.le_of_dvd hpos (Nat.gcd_dvd_left (wn x v N) (6 ^ N))) hgp
        omega
    · have hw : ¬ (p_impl_IsDie x && p_impl_has x v) = true := by rw [hd, Bool.true_and]; exact hv
      have hc0 : x.count v = 0 := by
        rw [has_count] at hv
        simp at hv
        exact List.count_eq_zero.2 hv
      have hz : wn x v N = 0 := by unfold wn; rw [hc0]; simp
      simp only [if_neg hw]
      rw [hz, Nat.zero_div]
      simp
  · simp only [if_neg hg]
    rfl
/-- explosions -/
theorem part4 (h : x.length = 6) (k : Int) (hf : 1000 ≤ fu) (K : Unit → Option Bool) : (if (if (p_impl_IsDie x && p_impl_within k 0 3) = true then (bT x k.toNat, true) else (List.replicate 121 0, false)).2 = true then cnt (fun i667 (s666 : Int × Int) c668 _ => c668 ((IntKind.wrap .i64 (s666.1 + ((if (p_impl_IsDie x && p_impl_within k 0 3) = true then (bT x k.toNat, true) else (List.replicate 121 0, false)).1.getD i667.toNat 0))), (IntKind.wrap .i64 (s666.2 + (IntKind.wrap .i64 (i667 * ((if (p_impl_IsDie x && p_impl_within k 0 3) = true then (bT x k.toNat, true) else (List.replicate 121 0, false)).1.getD i667.toNat 0))))))) (fun i667 (s666 : Int × Int) => (p_laws_vSix fu (IntKind.wrap .i64 (k + 1))).bind (fun r673 => (if ((!(decide (s666.1 = r673))) || ((if okM x = true then (cutF x.sum.toNat (6 - x.count (x.getD 5 0)), true) else (List.replicate 2 0, false)).2 && (decide ((IntKind.wrap .i64 (((if okM x = true then (cutF x.sum.toNat (6 - x.count (x.getD 5 0)), true) else (List.replicate 2 0, false)).1.getD 0 0) * s666.1)) < (IntKind.wrap .i64 (s666.2 * ((if okM x = true then (cutF x.sum.toNat (6 - x.count (x.getD 5 0)), true) else (List.replicate 2 0, false)).1.getD 1 0))))))) = true then some false else (if k = 0 then (p_impl_SumTable [x]).bind (fun r723 => (if ((!r723.2) || (!(decide (r723.1 = (if (p_impl_IsDie x && p_impl_within k 0 3) = true then (bT x k.toNat, true) else (List.replicate 121 0, false)).1)))) = true then some false else K ())) else K ())))) (Int.toNat (121 - 0)) 0 (0, 0) else K ()) = K () := by
  by_cases hg : (p_impl_IsDie x && p_impl_within k 0 3) = true
  · simp only [if_pos hg, ↓reduceIte]
    have hg' := hg
    simp only [Bool.and_eq_true] at hg'
    obtain ⟨hd, hk⟩ := hg'
    rw [within_eq, decide_eq_true_eq] at hk
    obtain ⟨N, rfl⟩ : ∃ N : Nat, k = (N : Int) := ⟨k.toNat, by omega⟩
    have hN : N ≤ 3 := by omega
    have hx := die_fa hd
    have hA := fa_sum hx
    rw [h] at hA
    rw [Int.toNat_natCast]
    obtain ⟨t1, t2, t3, t4⟩ := bT_facts h hx hN
    have hp := pow4 (l := N + 1) (by omega)
    have hp0 : 0 < 6 ^ (N + 1) := Nat.pow_pos (by omega)
    have htop := (hx _ (get5 h).1).1
    have hml := mean_le h hx htop N 0
    have hw6 : x.count (x.getD 5 0) ≤ 6 := cnt6 h _
    -- the moment is small
    have hmem : ∀ a ∈ bT x N, 0 ≤ a := fun a ha => by
      obtain ⟨i, hi, rfl⟩ := List.mem_iff_getElem.1 ha
      have := t2 i
      rw [List.getD_eq_getElem?_getD, List.getElem?_eq_getElem hi] at this
      exact this
    have hmom0 := momF_nn 0 (bT x N) hmem
    have hmomle : momF 0 (bT x N) ≤ 121 * (bT x N).sum := by
      have : ∀ (T : List Int) (b : Nat), (∀ a ∈ T, 0 ≤ a) → b + T.length ≤ 121 → momF b T ≤ 121 * T.sum := by
        intro T
        induction T with
        | nil => intro b _ _; simp [momF]
        | cons a T ih =>
          intro b hT hb
          simp only [List.length_cons] at hb
          have i1 := ih (b + 1) (fun c hc => hT c (by simp [hc])) (by omega)
          have ha := hT a (by simp)
          have : (b : Int) * a ≤ 121 * a := Int.mul_le_mul_of_nonneg_right (by omega) ha
          simp only [momF, List.sum_cons]
          omega
      exact this _ 0 hmem (by omega)
    have hrun := momG (T := bT x N) hmem (fun a b => (a, b)) (fun i667 (s666 : Int × Int) => ((IntKind.wrap .i64 (s666.1 + ((bT x N).getD i667.toNat 0))), (IntKind.wrap .i64 (s666.2 + (IntKind.wrap .i64 (i667 * ((bT x N).getD i667.toNat 0))))))) (fun i667 (s666 : Int × Int) => (p_laws_vSix fu (IntKind.wrap .i64 ((N : Int) + 1))).bind (fun r673 => (if ((!(decide (s666.1 = r673))) || ((if okM x = true then (cutF x.sum.toNat (6 - x.count (x.getD 5 0)), true) else (List.replicate 2 0, false)).2 && (decide ((IntKind.wrap .i64 (((if okM x = true then (cutF x.sum.toNat (6 - x.count (x.getD 5 0)), true) else (List.replicate 2 0, false)).1.getD 0 0) * s666.1)) < (IntKind.wrap .i64 (s666.2 * ((if okM x = true then (cutF x.sum.toNat (6 - x.count (x.getD 5 0)), true) else (List.replicate 2 0, false)).1.getD 1 0))))))) = true then some false else (if (N : Int) = 0 then (p_impl_SumTable [x]).bind (fun r723 => (if ((!r723.2) || (!(decide (r723.1 = bT x N)))) = true then some false else K ())) else K ())))) (fun i a b hi hgg a0 a1 b0 p0 b1 => by
        simp only
        rw [Int.toNat_natCast, wrap_i64 (n := (i : Int) * (bT x N).getD i 0) (by omega) (by omega), wrap_i64 (by omega) (by omega), wrap_i64 (by omega) (by omega)]) 121 0 0 0 (by rw [t1]) (by omega) (by rw [List.drop_zero, t3]; omega) (by omega) (by rw [List.drop_zero]; omega)
    refine hrun.trans ?_
    rw [List.drop_zero, t3, Int.zero_add, Int.zero_add]
    have hsix : p_laws_vSix fu (IntKind.wrap .i64 ((N : Int) + 1)) = some ((6 ^ (N + 1) : Nat) : Int) := by
      rw [wrap_i64 (by omega) (by omega), show (N : Int) + 1 = ((N + 1 : Nat) : Int) from rfl]
      exact power_eq (N + 1) (by omega) (by omega)
    simp only
    rw [hsix, Option.bind_some]
    have hmean : ((if okM x = true then (cutF x.sum.toNat (6 - x.count (x.getD 5 0)), true) else (List.replicate 2 0, false)).2 && (decide ((IntKind.wrap .i64 (((if okM x = true then (cutF x.sum.toNat (6 - x.count (x.getD 5 0)), true) else (List.replicate 2 0, false)).1.getD 0 0) * ((6 ^ (N + 1) : Nat) : Int))) < (IntKind.wrap .i64 (momF 0 (bT x N) * ((if okM x = true then (cutF x.sum.toNat (6 - x.count (x.getD 5 0)), true) else (List.replicate 2 0, false)).1.getD 1 0)))))) = false := by
      by_cases hM : okM x = true
      · simp only [if_pos hM, Bool.true_and]
        unfold okM at hM
        simp only [Bool.and_eq_true, Bool.not_eq_true', decide_eq_false_iff_not] at hM
        have h5 := top_less h hM.2
        have hu : 0 < 6 - x.count (x.getD 5 0) := by omega
        rw [decide_eq_false_iff_not]
        have e0 : (cutF x.sum.toNat (6 - x.count (x.getD 5 0))).getD 0 0 = ((x.sum.toNat / Nat.gcd x.sum.toNat (6 - x.count (x.getD 5 0)) : Nat) : Int) := rfl
        have e1 : (cutF x.sum.toNat (6 - x.count (x.getD 5 0))).getD 1 0 = (((6 - x.count (x.getD 5 0)) / Nat.gcd x.sum.toNat (6 - x.count (x.getD 5 0)) : Nat) : Int) := rfl
        have ea : x.sum.toNat / Nat.gcd x.sum.toNat (6 - x.count (x.getD 5 0)) * Nat.gcd x.sum.toNat (6 - x.count (x.getD 5 0)) = x.sum.toNat := Nat.div_mul_cancel (Nat.gcd_dvd_left _ _)
        have eb : (6 - x.count (x.getD 5 0)) / Nat.gcd x.sum.toNat (6 - x.count (x.getD 5 0)) * Nat.gcd x.sum.toNat (6 - x.count (x.getD 5 0)) = 6 - x.count (x.getD 5 0) := Nat.div_mul_cancel (Nat.gcd_dvd_right _ _)
        have hgp : 0 < Nat.gcd x.sum.toNat (6 - x.count (x.getD 5 0)) := Nat.gcd_pos_of_pos_right _ hu
        have la := Nat.div_le_self x.sum.toNat (Nat.gcd x.sum.toNat (6 - x.count (x.getD 5 0)))
        have lb := Nat.div_le_self (6 - x.count (x.getD 5 0)) (Nat.gcd x.sum.toNat (6 - x.count (x.getD 5 0)))
        rw [e0, e1]
        generalize x.sum.toNat / Nat.gcd x.sum.toNat (6 - x.count (x.getD 5 0)) = a at *
        generalize (6 - x.count (x.getD 5 0)) / Nat.gcd x.sum.toNat (6 - x.count (x.getD 5 0)) = b at *
        generalize Nat.gcd x.sum.toNat (6 - x.count (x.getD 5 0)) = g at *
        rw [← t4] at hml
        generalize momF 0 (bT x N) = m at *
        have hxs : x.sum = ((a * g : Nat) : Int) := by omega
        have hub : (6 : Int) - (x.count (x.getD 5 0) : Int) = ((b * g : Nat) : Int) := by omega
        rw [hub, hxs] at hml
        simp only [Int.natCast_zero, Int.mul_zero, Int.zero_add] at hml
        have hgi : (0 : Int) < (g : Int) := by omega
        have hml2 : m * (b : Int) ≤ (a : Int) * ((6 ^ (N + 1) : Nat) : Int) := by
          refine Int.le_of_mul_le_mul_right ?_ hgi
          rw [Int.natCast_mul, Int.natCast_mul] at hml
          have r1 : m * (b : Int) * (g : Int) = (b : Int) * (g : Int) * m := by grind
          have r2 : (a : Int) * ((6 ^ (N + 1) : Nat) : Int) * (g : Int) = ((6 ^ (N + 1) : Nat) : Int) * ((a : Int) * (g : Int)) := by grind
          rw [r1, r2]
          exact hml
        have m1 : 0 ≤ m * (b : Int) := Int.mul_nonneg (by omega) (by omega)
        have m2 : (a : Int) * ((6 ^ (N + 1) : Nat) : Int) ≤ 180 * 1296 := Int.mul_le_mul (by omega) (by omega) (by omega) (by omega)
        rw [wrap_i64 (by omega) (by omega), wrap_i64 (by omega) (by omega)]
        omega
      · simp only [if_neg hM, Bool.false_and]
    rw [hmean, if_neg (by simp)]
    by_cases h0 : (N : Int) = 0
    · have : N = 0 := by omega
      subst this
      rw [if_pos h0, one_table h hd, Option.bind_some, if_neg (by simp)]
    · rw [if_neg h0]
  · simp only [if_neg hg]
    rfl
end
end Go.GA.E
