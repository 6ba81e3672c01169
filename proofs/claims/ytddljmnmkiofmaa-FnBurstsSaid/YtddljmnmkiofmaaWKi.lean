/- Plain law of FnBursts: tables of explosions and their means. -/
import Derived.Test.YtddljmnmkiofmaaWKh
import Derived.Test.YtddljmnmkiofmaaWK9
namespace Go.GA.E
open Go
set_option maxRecDepth 100000
theorem get5 {x : List Int} (h : x.length = 6) : x.getD 5 0 ∈ x ∧ x.getD 0 0 ∈ x := by
  obtain ⟨a, b, c, d, e, f, rfl⟩ := len6 h
  simp
theorem fa_sum : ∀ {x : List Int}, Fa x → 0 ≤ x.sum ∧ x.sum ≤ 30 * x.length
  | [], _ => by simp
  | a :: l, h => by
    have h0 := h a (by simp)
    have := fa_sum (x := l) (fun b hb => h b (by simp [hb]))
    simp only [List.sum_cons, List.length_cons]; omega
section
variable {x : List Int} {fu : Nat}
/-- the table of explosions -/
def bT (x : List Int) (k : Nat) : List Int := Bt x (x.getD 5 0) k 0 (List.replicate 121 0)
theorem rep_nn : NN (List.replicate 121 (0 : Int)) := fun i => by rw [rep_get]; omega
theorem rep_sum : (List.replicate 121 (0 : Int)).sum = 0 := by decide
theorem burstI (h : x.length = 6) (hx : Fa x) {k : Nat} (hk : k ≤ 3) (hf : 1000 ≤ fu) : p_impl_BurstTable_1 fu 0 (k : Int) x (List.replicate 121 0) = some (bT x k) := by
  have h6 := pow4 (l := k + 1) (by omega)
  exact rec_run h hx k 0 fu (List.replicate 121 0) hk (by omega) (by simp) rep_nn (by omega) (by rw [rep_sum]; omega)
theorem burstS (h : x.length = 6) (hx : Fa x) {k : Nat} (hk : k ≤ 3) (hf : 1000 ≤ fu) : whl (spB fu x (k : Int)) fu (0, (List.replicate 121 0).set 0 1, List.replicate 121 0) = some (bT x k, true) := by
  have h6 := pow4 (l := k + 1) (by omega)
  obtain ⟨U, u1, u2, u3⟩ := sp_run h hx (get5 h).1 (k := k) (fu := fu) hk (by omega) k 0 0 1 (List.replicate 121 0) fu (by omega) (by omega) (by omega) (by omega) (by rw [rep_sum]; simp; omega) (by simp) rep_nn
  have e : U = bT x k := by
    have hb := fun q => bt_lin hx (x.getD 5 0) (lin_get q) k 0 (List.replicate 121 0) (by simp) (by omega)
    refine List.ext_getElem (by rw [u2]; exact (hb 0).1.symm) (fun q h1 h2 => ?_)
    have g1 : U[q] = U.getD q 0 := by rw [List.getD_eq_getElem?_getD, List.getElem?_eq_getElem h1]; rfl
    have g2 : (bT x k)[q] = (bT x k).getD q 0 := by rw [List.getD_eq_getElem?_getD, List.getElem?_eq_getElem h2]; rfl
    refine g1.trans (Eq.trans ?_ g2.symm)
    have := (hb q).2
    rw [u3 q]
    show _ = (Bt x (x.getD 5 0) k 0 (List.replicate 121 0)).getD q 0
    rw [this]
    omega
  rw [← e]
  exact u1
theorem within03 (k : Int) : p_impl_within k 0 3 = p_spec_l1In k 0 3 := rfl
theorem burst_both (h : x.length = 6) (k : Int) (hf : 1000 ≤ fu) : p_impl_BurstTable fu x k = some (if (p_impl_IsDie x && p_impl_within k 0 3) = true then (bT x k.toNat, true) else (List.replicate 121 0, false)) ∧ p_spec_BurstTable fu x k = some (if (p_impl_IsDie x && p_impl_within k 0 3) = true then (bT x k.toNat, true) else (List.replicate 121 0, false)) := by
  unfold p_impl_BurstTable p_spec_BurstTable
  rw [l2Die_eq h, Option.bind_some, ← within03]
  by_cases hg : (p_impl_IsDie x && p_impl_within k 0 3) = true
  · have hn : ¬ ((!p_impl_IsDie x) || (!p_impl_within k 0 3)) = true := by revert hg; cases p_impl_IsDie x <;> cases p_impl_within k 0 3 <;> simp
    rw [if_pos hg, if_neg hn, if_neg hn]
    simp only [Bool.and_eq_true] at hg
    obtain ⟨hd, hk⟩ := hg
    rw [within_eq, decide_eq_true_eq] at hk
    obtain ⟨K, rfl⟩ : ∃ K : Nat, k = (K : Int) := ⟨k.toNat, by omega⟩
    have e1 := burstI h (die_fa hd) (k := K) (by omega) hf
    have e2 := burstS h (die_fa hd) (k := K) (by omega) hf
    rw [e1, Int.toNat_natCast]
    exact ⟨rfl, e2⟩
  · have hn : ((!p_impl_IsDie x) || (!p_impl_within k 0 3)) = true := by revert hg; cases p_impl_IsDie x <;> cases p_impl_within k 0 3 <;> simp
    rw [if_neg hg, if_pos hn, if_pos hn]
    exact ⟨rfl, rfl⟩
theorem bT_facts (h : x.length = 6) (hx : Fa x) {k : Nat} (hk : k ≤ 3) : (bT x k).length = 121 ∧ NN (bT x k) ∧ (bT x k).sum = ((6 ^ (k + 1) : Nat) : Int) ∧ momF 0 (bT x k) = cF x (x.getD 5 0) (fun j => (j : Int)) k 0 := by
  obtain ⟨h1, h2⟩ := bt_sum h hx (x.getD 5 0) (l := k) (s := 0) (T := List.replicate 121 0) (by simp) (by omega)
  obtain ⟨_, h3⟩ := bt_lin hx (x.getD 5 0) lin_mom k 0 (List.replicate 121 0) (by simp) (by omega)
  refine ⟨h1, bt_nn hx _ k 0 _ (by simp) (by omega) rep_nn, by rw [rep_sum, Int.zero_add] at h2; exact h2, ?_⟩
  have e0 : momF 0 (List.replicate 121 (0 : Int)) = 0 := by decide
  rw [e0, Int.zero_add] at h3
  exact h3
/-! ### the mean of a table -/
theorem map_two (top C P : Int) (s : Nat) (ht : 0 ≤ top) : ∀ y : List Int, (∀ f ∈ y, 0 ≤ f) → (y.map (fun f => if f = top then C else P * ((s + f.toNat : Nat) : Int))).sum = (y.count top : Int) * C + P * (((y.length : Int) - (y.count top : Int)) * (s : Int) + (y.sum - (y.count top : Int) * top))
  | [], _ => by simp
  | f :: y, h => by
    have ih := map_two top C P s ht y (fun g hg => h g (by simp [hg]))
    have hf := h f (by simp)
    rw [List.map_cons, List.sum_cons, ih, List.count_cons, List.length_cons, List.sum_cons]
    by_cases e : f = top
    · subst e
      rw [if_pos rfl]
      simp only [beq_self_eq_true, if_true, Int.natCast_add, Int.natCast_one]
      grind
    · have hb : (f == top) = false := by simpa using e
      rw [if_neg e, hb]
      have ef : ((s + f.toNat : Nat) : Int) = (s : Int) + f := by omega
      rw [ef]
      simp only [Bool.false_eq_true, if_false, Nat.add_zero, Int.natCast_add, Int.natCast_one]
      grind
theorem cF_top {x : List Int} (top : Int) (g : Nat → Int) (l s : Nat) : (x.map (fun f => if f = top then cF x top g l (s + f.toNat) else ((6 ^ (l + 1) : Nat) : Int) * g (s + f.toNat))) = (x.map (fun f => if f = top then cF x top g l (s + top.toNat) else ((6 ^ (l + 1) : Nat) : Int) * g (s + f.toNat))) := by
  refine List.map_congr_left (fun f _ => ?_)
  by_cases e : f = top
  · rw [if_pos e, if_pos e, e]
  · rw [if_neg e, if_neg e]
theorem mean_le (h : x.length = 6) (hx : Fa x) {top : Int} (ht : 0 ≤ top) : ∀ (l s : Nat), ((6 : Int) - (x.count top : Int)) * cF x top (fun j => (j : Int)) l s ≤ ((6 ^ (l + 1) : Nat) : Int) * (((6 : Int) - (x.count top : Int)) * (s : Int) + x.sum)
  | 0, s => by
    have hw : x.count top ≤ 6 := h ▸ List.count_le_length
    have hA := (fa_sum hx).1
    have e : cF x top (fun j => (j : Int)) 0 s = 6 * (s : Int) + x.sum := by
      show (x.map (fun f => ((s + f.toNat : Nat) : Int))).sum = _
      have : ∀ y : List Int, (∀ f ∈ y, 0 ≤ f) → (y.map (fun f => ((s + f.toNat : Nat) : Int))).sum = (y.length : Int) * s + y.sum := fun y hy => by
        induction y with
        | nil => simp
        | cons f y ih =>
          have := hy f (by simp)
          rw [List.map_cons, List.sum_cons, ih (fun g hg => hy g (by simp [hg])), List.sum_cons, List.length_cons, show ((y.length + 1 : Nat) : Int) = (y.length : Int) + 1 from rfl, Int.add_mul (y.length : Int) 1 (s : Int)]
          omega
      rw [this x (fun f hf => (hx f hf).1), h]; rfl
    rw [e]
    have h6 : ((6 ^ (0 + 1) : Nat) : Int) = 6 := rfl
    rw [h6]
    have hu : 0 ≤ (x.count top : Int) := by omega
    have key : 6 * (((6 : Int) - (x.count top : Int)) * (s : Int) + x.sum) - ((6 : Int) - (x.count top : Int)) * (6 * (s : Int) + x.sum) = (x.count top : Int) * x.sum := by grind
    have := Int.mul_nonneg hu hA
    omega
  | l + 1, s => by
    have ih := mean_le h hx ht l (s + top.toNat)
    have hw : x.count top ≤ 6 := h ▸ List.count_le_length
    have e : cF x top (fun j => (j : Int)) (l + 1) s = (x.count top : Int) * cF x top (fun j => (j : Int)) l (s + top.toNat) + ((6 ^ (l + 1) : Nat) : Int) * (((6 : Int) - (x.count top : Int)) * (s : Int) + (x.sum - (x.count top : Int) * top)) := by
      show (x.map (fun f => if f = top then cF x top (fun j => (j : Int)) l (s + f.toNat) else ((6 ^ (l + 1) : Nat) : Int) * ((s + f.toNat : Nat) : Int))).sum = _
      rw [cF_top top (fun j => (j : Int)) l s, map_two top _ _ s ht x (fun f hf => (hx f hf).1), h]; rfl
    rw [e]
    have es : ((s + top.toNat : Nat) : Int) = (s : Int) + top := by omega
    rw [es] at ih
    have hP : ((6 ^ (l + 1 + 1) : Nat) : Int) = ((6 ^ (l + 1) : Nat) : Int) * 6 := by rw [Nat.pow_succ 6 (l + 1), Int.natCast_mul]; rfl
    rw [hP]
    generalize cF x top (fun j => (j : Int)) l (s + top.toNat) = c1 at ih
    generalize ((6 ^ (l + 1) : Nat) : Int) = B at ih
    generalize hww : (x.count top : Int) = w at ih
    have hw0 : 0 ≤ w := by omega
    have h2 := Int.mul_le_mul_of_nonneg_left ih hw0
    have key : B * 6 * ((6 - w) * (s : Int) + x.sum) - (6 - w) * (w * c1 + B * ((6 - w) * (s : Int) + (x.sum - w * top))) = w * (B * ((6 - w) * ((s : Int) + top) + x.sum)) - w * ((6 - w) * c1) := by grind
    omega
/-! ### the mean told -/
theorem total_sum (h : x.length = 6) (hx : Fa x) : p_impl_total x = x.sum := by
  obtain ⟨a, b, c, d, e, f, rfl⟩ := len6 h
  have ha := hx a (by simp)
  have hb := hx b (by simp)
  have hc := hx c (by simp)
  have hd := hx d (by simp)
  have he := hx e (by simp)
  have hf := hx f (by simp)
  unfold p_impl_total
  show cnt _ _ 6 0 0 = _
  simp [cnt]
  simp (disch := omega) only [wrap_i64]
  omega
def okM (x : List Int) : Bool := p_impl_IsDie x && !(decide (x.getD 0 0 = x.getD 5 0))
theorem top_less (h : x.length = 6) (hne : x.getD 0 0 ≠ x.getD 5 0) : x.count (x.getD 5 0) ≤ 5 := by
  obtain ⟨a, b, c, d, e, f, rfl⟩ := len6 h
  simp at hne
  have hb : (a == f) = false := by simpa using hne
  show (a :: [b, c, d, e, f]).count f ≤ 5
  rw [List.count_cons, hb]
  have := List.count_le_length (a := f) (l := [b, c, d, e, f])
  simp at this ⊢
  exact this
theorem bmean_both (h : x.length = 6) (hf : 1000 ≤ fu) : p_impl_BurstMean fu x = some (if okM x = true then (cutF x.sum.toNat (6 - x.count (x.getD 5 0)), true) else (List.replicate 2 0, false)) ∧ p_spec_BurstMean fu x = some (if okM x = true then (cutF x.sum.toNat (6 - x.count (x.getD 5 0)), true) else (List.replicate 2 0, false)) := by
  unfold p_impl_BurstMean p_spec_BurstMean
  rw [l2Die_eq h, Option.bind_some]
  by_cases hg : okM x = true
  · have hn : ¬ ((!p_impl_IsDie x) || (decide (x.getD 0 0 = x.getD 5 0))) = true := by unfold okM at hg; revert hg; cases p_impl_IsDie x <;> cases decide (x.getD 0 0 = x.getD 5 0) <;> simp
    rw [if_pos hg, if_neg hn, if_neg hn]
    unfold okM at hg
    simp only [Bool.and_eq_true, Bool.not_eq_true', decide_eq_false_iff_not] at hg
    have hx := die_fa hg.1
    have hs := fa_sum hx
    rw [h] at hs
    have h5 := top_less h hg.2
    have ew : IntKind.wrap .i64 (6 - ((x.count (x.getD 5 0) : Nat) : Int)) = ((6 - x.count (x.getD 5 0) : Nat) : Int) := by rw [wrap_i64 (by omega) (by omega)]; omega
    have e1 := fraction_eq (fu := fu) x.sum.toNat (6 - x.count (x.getD 5 0)) (by omega) (by omega) (by omega) (by omega)
    have e2 := cut_eq (fu := fu) x.sum.toNat (6 - x.count (x.getD 5 0)) (by omega) (by omega) (by omega) (by omega)
    have es : ((x.sum.toNat : Nat) : Int) = x.sum := by omega
    rw [es] at e1 e2
    have hT := total_sum h hx
    rw [weight_count h, ew, hT, e1]
    refine ⟨rfl, ?_⟩
    have hS : cnt (fun i12 (s11 : Int) c13 _ => c13 (IntKind.wrap .i64 (s11 + (x.getD i12.toNat 0)))) (fun i12 (s11 : Int) => (p_spec_l2Cut fu s11 (IntKind.wrap .i64 (6 - (p_spec_l8Weight x (x.getD 5 0))))).bind (fun r18 => some (r18, true))) (Int.toNat (6 - 0)) 0 0 = (p_spec_l2Cut fu (p_impl_total x) (IntKind.wrap .i64 (6 - (p_spec_l8Weight x (x.getD 5 0))))).bind (fun r18 => some (r18, true)) := by
      unfold p_impl_total
      rw [h]
      rfl
    rw [hS, hT, weight_eq, weight_count h, ew, e2]
    rfl
  · have hn : ((!p_impl_IsDie x) || (decide (x.getD 0 0 = x.getD 5 0))) = true := by unfold okM at hg; revert hg; cases p_impl_IsDie x <;> cases decide (x.getD 0 0 = x.getD 5 0) <;> simp
    rw [if_neg hg, if_pos hn, if_pos hn]
    exact ⟨rfl, rfl⟩
/-! ### the sums of one die -/
theorem convL_zero {T d : List Int} : ∀ (l : List Nat) (s : List Int), (∀ i ∈ l, T.getD i 0 = 0) → convL T d l s = s
  | [], s, _ => rfl
  | i :: l, s, h => by
    have e : convL T d (i :: l) s = convL T d l (inner i (T.getD i 0) d s) := rfl
    rw [e, h i (by simp), inner_zero, convL_zero l s (fun j hj => h j (by simp [hj]))]
theorem one_table (h : x.length = 6) (hd : p_impl_IsDie x = true) : p_impl_SumTable [x] = some (bT x 0, true) := by
  have hx := die_fa hd
  have hpool : p_impl_IsPool [x] = true := by
    unfold p_impl_IsPool p_impl_areAll_6_int p_slices_ContainsFunc_6_int_6_int p_slices_IndexFunc_6_int_6_int p_impl_areAll_6_int_1
    have e1 : p_impl_within (([x] : List (List Int)).length : Int) 1 4 = true := by rw [within_eq]; rfl
    rw [e1, Bool.true_and]
    show (!(decide (0 ≤ (if (!p_impl_IsDie x) = true then (0 : Int) else -1)))) = true
    rw [hd]; rfl
  obtain ⟨a1, a2⟩ := lrun_conv (F := stepI) (fun m T d c h hm hd => stepI_eq h hm hd c) [x] 0 _ tab_one (by simp) (fun d hd' => by
    have : d = x := by simpa using hd'
    subst this
    exact ⟨h, hx⟩)
  have e1 : p_impl_sums [x] = some (conv ((List.replicate 121 (0 : Int)).set 0 1) x) := by
    unfold p_impl_sums
    rw [cnt_list stepI [x] (List.replicate 6 0) (by simp) (fun _ _ _ _ _ => rfl)]
    exact a1
  have e2 : conv ((List.replicate 121 (0 : Int)).set 0 1) x = bT x 0 := by
    unfold conv
    have er : List.range 121 = 0 :: List.range' 1 120 := by rw [List.range_eq_range', List.range'_succ]
    have hg : ∀ i, ((List.replicate 121 (0 : Int)).set 0 1).getD i 0 = if i = 0 then 1 else 0 := fun i => oneAt_get (p := 0) (c := 1) (by omega) i
    have e : convL ((List.replicate 121 (0 : Int)).set 0 1) x (0 :: List.range' 1 120) (List.replicate 121 0) = convL ((List.replicate 121 (0 : Int)).set 0 1) x (List.range' 1 120) (inner 0 (((List.replicate 121 (0 : Int)).set 0 1).getD 0 0) x (List.replicate 121 0)) := rfl
    rw [er, e, hg 0, if_pos rfl, convL_zero _ _ (fun i hi => by
      have := List.mem_range'_1.1 hi
      rw [hg, if_neg (by omega)])]
    rfl
  unfold p_impl_SumTable
  rw [if_pos hpool, e1, Option.bind_some, e2]
end
end Go.GA.E
