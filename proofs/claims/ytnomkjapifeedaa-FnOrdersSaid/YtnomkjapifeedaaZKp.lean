/- Plain law of FnOrders: ways, ties and fairness of one pool. -/
import Derived.Test.YtnomkjapifeedaaZKg
namespace Go.GA.E
open Go
set_option maxRecDepth 100000
def cs (l : List Nat) : List Int := l.map (fun n => ((n : Nat) : Int))
theorem wsum_nats : ∀ (l : List Nat) (m : Nat), m + l.sum ≤ 1000000 → wsum (m : Int) (cs l) = ((m + l.sum : Nat) : Int)
  | [], m, _ => by simp [wsum, cs]
  | a :: l, m, hm => by
    simp only [List.sum_cons] at hm
    have := wsum_nats l (m + a) (by omega)
    simp only [wsum, cs, List.map_cons, List.foldl_cons] at this ⊢
    rw [wrap_i64 (by omega) (by omega), show (m : Int) + (a : Int) = ((m + a : Nat) : Int) from rfl, this]
    simp; omega
theorem sum_loop {R : Type} (l : List Int) (s0 : Int) (K : Int → Int → R) : cnt (fun i (s : Int) c _ => c (IntKind.wrap .i64 (s + (l.getD i.toNat 0)))) K (Int.toNat ((l.length : Int) - 0)) 0 s0 = K l.length (wsum s0 l) := by
  rw [cnt_list (fun v s c => c (IntKind.wrap .i64 (s + v))) l 0 (by omega) (fun i s c _ _ => rfl), lrun_fold]
  rfl
theorem vInts_self (l : List Int) : p_laws_vInts l l = true := by
  unfold p_laws_vInts
  rw [if_pos rfl]
  refine cnt_ind0 l.length (fun _ _ => True) (fun r => r = true) (by omega) trivial (fun s _ => rfl) (fun i s c _ _ hc => ?_)
  rw [if_pos rfl]
  exact hc () trivial
theorem vOrders_self (l : List Ord) : p_laws_vOrders l l = true := by
  unfold p_laws_vOrders
  rw [if_pos rfl]
  refine cnt_ind0 l.length (fun _ _ => True) (fun r => r = true) (by omega) trivial (fun s _ => rfl) (fun i s c _ _ hc => ?_)
  rw [if_pos rfl]
  exact hc () trivial
theorem six_run (n : Nat) (hn : n ≤ 8) : ∀ (k i fu : Nat), i + k = n → k < fu → whl (fun (s1 : Int × Int) (c3 : Int × Int → Option Int) => (if s1.2 < (n : Int) then c3 ((IntKind.wrap .i64 (s1.1 * 6)), (IntKind.wrap .i64 (s1.2 + 1))) else some s1.1)) fu (((6 ^ i : Nat) : Int), (i : Int)) = some ((6 ^ n : Nat) : Int)
  | k, i, 0, _, h => by omega
  | 0, i, fu + 1, h, _ => by
    rw [show ∀ (f : (Int × Int) → ((Int × Int) → Option Int) → Option Int) z, whl f (fu + 1) z = f z (whl f fu) from fun _ _ => rfl]
    simp only
    rw [if_neg (by omega), show i = n by omega]
  | k + 1, i, fu + 1, h, hf => by
    rw [show ∀ (f : (Int × Int) → ((Int × Int) → Option Int) → Option Int) z, whl f (fu + 1) z = f z (whl f fu) from fun _ _ => rfl]
    simp only
    rw [if_pos (by omega)]
    have hp : 6 ^ (i + 1) ≤ 6 ^ 12 := Nat.pow_le_pow_right (n := 6) (by omega) (by omega)
    have e12 : (6 : Nat) ^ 12 = 2176782336 := by decide
    have e1 : ((6 ^ i : Nat) : Int) * 6 = ((6 ^ (i + 1) : Nat) : Int) := by rw [Nat.pow_succ, Int.natCast_mul]; rfl
    rw [e1, wrap_nat (by omega), show (i : Int) + 1 = ((i + 1 : Nat) : Int) from rfl, wrap_nat (by omega)]
    exact six_run n hn k (i + 1) fu (by omega) (by omega)
theorem six_eq {n fu : Nat} (hn : n ≤ 8) (hf : 100 < fu) : p_laws_vSix fu (n : Int) = some ((6 ^ n : Nat) : Int) :=
  six_run n hn n 0 fu (by omega) (by omega)
/-! ### how often a player is at a place -/
def cntAt (n pl q : Nat) : Nat := (oM n).countP (fun o => decide (o.getD q 0 = (pl : Int)))
theorem cnt_fin1 : ∀ q < 1, ∀ pl < 1, cntAt 1 pl q = cntAt 1 0 q := by decide +kernel
theorem cnt_fin2 : ∀ q < 2, ∀ pl < 2, cntAt 2 pl q = cntAt 2 0 q := by decide +kernel
theorem cnt_fin3 : ∀ q < 3, ∀ pl < 3, cntAt 3 pl q = cntAt 3 0 q := by decide +kernel
theorem cnt_fin4 : ∀ q < 4, ∀ pl < 4, cntAt 4 pl q = cntAt 4 0 q := by decide +kernel
theorem cnt_fin {n : Nat} (h1 : 1 ≤ n) (h4 : n ≤ 4) : ∀ q < n, ∀ pl < n, cntAt n pl q = cntAt n 0 q := by
  have : n = 1 ∨ n = 2 ∨ n = 3 ∨ n = 4 := by omega
  rcases this with rfl | rfl | rfl | rfl
  · exact cnt_fin1
  · exact cnt_fin2
  · exact cnt_fin3
  · exact cnt_fin4
theorem sumTo_count (L : List (List Int)) (q : Nat) (pl : Int) (c : Nat) : sumTo (fun i => if (L.getD i []).getD q 0 = pl then c else 0) L.length = c * L.countP (fun o => decide (o.getD q 0 = pl)) := by
  have e : sumTo (fun i => if (L.getD i []).getD q 0 = pl then c else 0) L.length = sumTo (fun i => (L.map (fun o => if o.getD q 0 = pl then c else 0)).getD i 0) L.length :=
    sumTo_congr _ (fun j hj => by
      have h1 : L.getD j [] = L[j] := by rw [List.getD_eq_getElem?_getD, List.getElem?_eq_getElem hj]; rfl
      have h2 : (L.map (fun o => if o.getD q 0 = pl then c else 0)).getD j 0 = if L[j].getD q 0 = pl then c else 0 := by rw [List.getD_eq_getElem?_getD, List.getElem?_map, List.getElem?_eq_getElem hj]; rfl
      rw [h1, h2])
  have e2 := sumTo_list (L.map (fun o => if o.getD q 0 = pl then c else 0))
  rw [List.length_map] at e2
  rw [e, e2]
  induction L with
  | nil => simp
  | cons o L ih =>
    rw [List.map_cons, List.sum_cons, List.countP_cons]
    have ih' : (L.map (fun o => if o.getD q 0 = pl then c else 0)).sum = c * L.countP (fun o => decide (o.getD q 0 = pl)) := by
      clear e e2 ih
      induction L with
      | nil => simp
      | cons o L ih =>
        rw [List.map_cons, List.sum_cons, List.countP_cons, ih]
        by_cases h : o.getD q 0 = pl
        · rw [if_pos h, if_pos (decide_eq_true h), Nat.mul_add]; omega
        · rw [if_neg h, if_neg (by simpa using h), Nat.mul_add]; omega
    rw [ih']
    by_cases h : o.getD q 0 = pl
    · rw [if_pos h, if_pos (decide_eq_true h), Nat.mul_add]; omega
    · rw [if_neg h, if_neg (by simpa using h), Nat.mul_add]; omega
theorem at_same_all {n : Nat} (h1 : 1 ≤ n) (h4 : n ≤ 4) {l : List Nat} (hl : l.length = (ordL n).length) (hs : ∀ i, i < l.length → l.getD i 0 = l.getD 0 0) {pl q : Nat} (hq : q < n) (hp : pl < n) : atN n l pl q = atN n l 0 q := by
  have key : ∀ pl : Nat, atN n l pl q = l.getD 0 0 * cntAt n pl q := fun pl => by
    unfold atN cntAt
    rw [← sumTo_count, oM_len]
    refine sumTo_congr _ (fun j hj => ?_)
    unfold plAt
    rw [hs j (by omega)]
  rw [key, key, cnt_fin h1 h4 q hq pl hp]
/-! ### one pool -/
theorem pool_all {p : List (List Int)} {fu : Nat} (hF : Fuel fu) (hp : Six p) : ∃ (w : List Int) (t : Int) (fair places first q : Bool),
    p_impl_OrderWays fu p = some (w, q) ∧ p_spec_OrderWays fu p = some (w, q) ∧ p_impl_TieWays fu p = some (t, q) ∧ p_spec_TieWays fu p = some (t, q) ∧
    p_impl_IsOrderFair fu p = some (fair, q) ∧ p_spec_IsOrderFair fu p = some (fair, q) ∧ p_impl_IsPlaceFair fu p = some (places, q) ∧ p_spec_IsPlaceFair fu p = some (places, q) ∧ p_impl_IsFirstFair fu p = some (first, q) ∧ p_spec_IsFirstFair fu p = some (first, q) ∧
    (q = true → 1 ≤ p.length ∧ p.length ≤ 4 ∧ w.length = (ordL p.length).length ∧ wsum t w = ((6 ^ p.length : Nat) : Int) ∧ (fair = true → places = true) ∧ (places = true → first = true ∧ t = 0)) := by
  cases hd : p_impl_IsPool p with
  | false =>
    refine ⟨[], 0, false, false, false, false, ?_, ?_, ?_, ?_, ?_, ?_, ?_, ?_, ?_, ?_, by simp⟩
    · unfold p_impl_OrderWays; rw [hd]; rfl
    · unfold p_spec_OrderWays; rw [pool_eq hp, hd]; rfl
    · unfold p_impl_TieWays; rw [hd]; rfl
    · unfold p_spec_TieWays; rw [pool_eq hp, hd]; rfl
    · unfold p_impl_IsOrderFair; rw [hd]; rfl
    · unfold p_spec_IsOrderFair; rw [pool_eq hp, hd]; rfl
    · unfold p_impl_IsPlaceFair; rw [hd]; rfl
    · unfold p_spec_IsPlaceFair; rw [pool_eq hp, hd]; rfl
    · unfold p_impl_IsFirstFair; rw [hd]; rfl
    · unfold p_spec_IsFirstFair; rw [pool_eq hp, hd]; rfl
  | true =>
    obtain ⟨g1, g4⟩ := pool_len hd
    obtain ⟨out, hw, e1, e2⟩ := ways_both hF g1 g4
    obtain ⟨t0, t1, t2⟩ := ties_eq hF g1 g4 hw e1
    obtain ⟨_, _, hl1⟩ := ord_nodup p.length g1 g4
    obtain ⟨o1, o2⟩ := hF.ord p.length g1 g4
    have hbig := hF.big
    have h64 : 6 ^ p.length ≤ 6 ^ 4 := Nat.pow_le_pow_right (by omega) g4
    have e64 : (6 : Nat) ^ 4 = 1296 := by decide
    have hfair := fun (q : Nat) (hq : q < p.length) => fairAt_eq hF g1 g4 hw e1 (place := (q : Int)) (by omega) (by omega)
    obtain ⟨hlen, l, rfl, hs⟩ := hw
    have hll : l.length = (ordL p.length).length := by simpa using hlen
    have hatV : ∀ pl q : Nat, q < p.length → atV fu p.length (l.map (fun n => ((n : Nat) : Int))) (q : Int) pl = ((atN p.length l pl q : Nat) : Int) := fun pl q hq => by
      unfold atV; rw [at_eq o2 hll (by omega) (by omega)]; rfl
    have ht : t0 = ((6 ^ p.length - l.sum : Nat) : Int) := by
      have hh := t2
      unfold p_impl_ties at hh
      have hw0 := wsum_nats l 0 (by omega)
      rw [power_eq p.length (by omega) (by omega), Option.bind_some, e1, Option.bind_some, total_eq] at hh
      have hw1 : wsum 0 (l.map (fun n => ((n : Nat) : Int))) = ((l.sum : Nat) : Int) := by
        have : wsum ((0 : Nat) : Int) (cs l) = ((0 + l.sum : Nat) : Int) := hw0
        rw [Nat.zero_add] at this
        exact this
      rw [hw1, wrap_i64 (by omega) (by omega)] at hh
      have := Option.some.inj hh
      omega
    -- the program's words
    have hPl : p_impl_IsPlaceFair fu p = if ∀ q, q < p.length → 0 ≤ q → decide (∀ j, j < p.length → atN p.length l j q = atN p.length l 0 q) = true then some (decide (t0 = 0), true) else some (false, true) := by
      unfold p_impl_IsPlaceFair
      rw [hd, if_pos rfl]
      have := all_loop (fun q => decide (∀ j, j < p.length → atN p.length l j q = atN p.length l 0 q)) (some (false, true)) (some (decide (t0 = 0), true)) p.length p.length 0 (by omega)
      rw [← this, t2, Option.bind_some]
      have el : Int.toNat ((p.length : Int) - 0) = p.length := by omega
      rw [el]
      refine cnt_cong20 p.length (fun _ _ => True) rfl trivial (fun _ _ => rfl) (fun q s c c' hq _ hc => ?_)
      rw [hfair q hq, Option.bind_some, Int.toNat_natCast]
      by_cases e : ∀ j, j < p.length → atN p.length l j q = atN p.length l 0 q
      · rw [if_pos (decide_eq_true (fun j hj => by rw [hatV j q hq, hatV 0 q hq, e j hj])), if_pos (decide_eq_true e)]; exact hc _ trivial
      · rw [if_neg (by
          rw [decide_eq_false (fun hh => e (fun j hj => by
            have := hh j hj
            rw [hatV j q hq, hatV 0 q hq] at this; omega))]
          simp), if_neg (by rw [decide_eq_false e]; simp)]
    have hFi : p_impl_IsFirstFair fu p = some (decide (∀ j, j < p.length → atN p.length l j 0 = atN p.length l 0 0), true) := by
      unfold p_impl_IsFirstFair
      have h0 := hfair 0 (by omega)
      have h0' : p_impl_isFairAt fu p 0 = some (decide (∀ j, j < p.length → atN p.length l j 0 = atN p.length l 0 0)) := by
        refine h0.trans (congrArg some ?_)
        by_cases e : ∀ j, j < p.length → atN p.length l j 0 = atN p.length l 0 0
        · rw [decide_eq_true e, decide_eq_true (fun j hj => by rw [hatV j 0 (by omega), hatV 0 0 (by omega), e j hj])]
        · rw [decide_eq_false e, decide_eq_false (fun hh => e (fun j hj => by
            have := hh j hj
            rw [hatV j 0 (by omega), hatV 0 0 (by omega)] at this; omega))]
      rw [hd, if_pos rfl, h0', Option.bind_some]
    have hOr : p_impl_IsOrderFair fu p = some (decide (t0 = 0) && decide (∀ i, i < (l.map (fun n => ((n : Nat) : Int))).length → (l.map (fun n => ((n : Nat) : Int))).getD i 0 = (l.map (fun n => ((n : Nat) : Int))).getD 0 0), true) := by
      unfold p_impl_IsOrderFair
      rw [hd, if_pos rfl, t2, Option.bind_some, e1, Option.bind_some, same_ok _ (by rw [hlen]; exact hl1), Option.bind_some]
      by_cases h0 : t0 = 0
      · rw [if_pos h0, decide_eq_true h0, Bool.true_and]
      · rw [if_neg h0, decide_eq_false h0]; rfl
    obtain ⟨v1, q1, a1, a2⟩ := key_IsOrderFair hF hp
    obtain ⟨v2, q2, b1, b2⟩ := key_IsPlaceFair hF hp
    obtain ⟨v3, q3, c1, c2⟩ := key_IsFirstFair hF hp
    rw [hOr] at a2
    rw [hPl] at b2
    rw [hFi] at c2
    have a3 := Option.some.inj a2
    have c3 := Option.some.inj c2
    have hq1 : q1 = true := (congrArg Prod.snd a3).symm
    have hq3 : q3 = true := (congrArg Prod.snd c3).symm
    have hv1 := congrArg Prod.fst a3
    have hv3 := congrArg Prod.fst c3
    simp only at hv1 hv3
    have hb : q2 = true ∧ v2 = (decide (∀ q, q < p.length → 0 ≤ q → decide (∀ j, j < p.length → atN p.length l j q = atN p.length l 0 q) = true) && decide (t0 = 0)) := by
      by_cases hc : ∀ q, q < p.length → 0 ≤ q → decide (∀ j, j < p.length → atN p.length l j q = atN p.length l 0 q) = true
      · rw [if_pos hc] at b2
        have := Option.some.inj b2
        rw [decide_eq_true hc, Bool.true_and]
        exact ⟨(congrArg Prod.snd this).symm, (congrArg Prod.fst this).symm⟩
      · rw [if_neg hc] at b2
        have := Option.some.inj b2
        rw [decide_eq_false hc, Bool.false_and]
        exact ⟨(congrArg Prod.snd this).symm, (congrArg Prod.fst this).symm⟩
    obtain ⟨hq2, hv2⟩ := hb
    subst hq1 hq2 hq3
    rw [← hOr] at a2
    rw [← hPl] at b2
    rw [← hFi] at c2
    refine ⟨l.map (fun n => ((n : Nat) : Int)), t0, v1, v2, v3, true, ?_, ?_, ?_, ?_, a2, a1, b2, b1, c2, c1, fun _ => ⟨g1, g4, hlen, ?_, ?_, ?_⟩⟩
    · unfold p_impl_OrderWays; rw [hd, if_pos rfl, e1]; rfl
    · unfold p_spec_OrderWays; rw [pool_eq hp, hd, Option.bind_some, if_pos rfl, e2]; rfl
    · unfold p_impl_TieWays; rw [hd, if_pos rfl, t2]; rfl
    · unfold p_spec_TieWays; rw [pool_eq hp, hd, Option.bind_some, if_pos rfl, e2, Option.bind_some, t1]; rfl
    · have := wsum_nats l (6 ^ p.length - l.sum) (by omega)
      rw [ht, show 6 ^ p.length = 6 ^ p.length - l.sum + l.sum by omega]
      refine Eq.trans ?_ this
      rw [show 6 ^ p.length - l.sum + l.sum - l.sum = 6 ^ p.length - l.sum by omega]; rfl
    · intro hf
      rw [hf] at hv1
      simp only [Bool.and_eq_true, decide_eq_true_eq] at hv1
      obtain ⟨hz, hall⟩ := hv1
      rw [hv2, decide_eq_true hz, Bool.and_true, decide_eq_true]
      intro q hq _
      rw [decide_eq_true]
      intro j hj
      refine at_same_all g1 g4 hll (fun i hi => ?_) hq hj
      have hh := hall i (by simpa using hi)
      have hg : ∀ i, (l.map (fun n => ((n : Nat) : Int))).getD i 0 = ((l.getD i 0 : Nat) : Int) := fun i => by
        rw [List.getD_eq_getElem?_getD, List.getD_eq_getElem?_getD, List.getElem?_map]
        cases l[i]? <;> rfl
      rw [hg, hg] at hh
      omega
    · intro hpl
      rw [hpl] at hv2
      have hv2' := hv2.symm
      rw [Bool.and_eq_true] at hv2'
      obtain ⟨h1, h2⟩ := hv2'
      have h1' := of_decide_eq_true h1
      refine ⟨?_, of_decide_eq_true h2⟩
      rw [← hv3]
      exact h1' 0 (by omega) (Nat.le_refl _)
end Go.GA.E
