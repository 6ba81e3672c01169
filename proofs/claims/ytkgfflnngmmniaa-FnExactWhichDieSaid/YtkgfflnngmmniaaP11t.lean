/- Plain law of WhichDie. -/
import Derived.Test.YtkgfflnngmmniaaP11s
namespace Go.GA
open Go
set_option maxRecDepth 100000
theorem lrun_congr_mem {α S R : Type} {F G : α → S → (S → R) → R} (k : S → R) : ∀ (xs : List α) (s : S), (∀ x ∈ xs, ∀ s c, F x s c = G x s c) → lrun F k xs s = lrun G k xs s
  | [], s, _ => rfl
  | x :: xs, s, h => by
    show F x s _ = G x s _
    rw [h x (by simp)]
    congr 1
    funext s'
    exact lrun_congr_mem k xs s' (fun y hy => h y (by simp [hy]))
theorem lrun_bad {α S R : Type} {F : α → S → (S → R) → R} {b : α → Bool} {G : α → S → S} {r : R} (k : S → R) (hb : ∀ x s c, b x = true → F x s c = r) (hg : ∀ x s c, b x = false → F x s c = c (G x s)) : ∀ (xs : List α) (s : S), xs.any b = true → lrun F k xs s = r
  | [], s, h => by simp at h
  | x :: xs, s, h => by
    show F x s _ = r
    cases hx : b x with
    | true => exact hb x s _ hx
    | false =>
      rw [hg x s _ hx]
      exact lrun_bad k hb hg xs _ (by simpa [hx] using h)
theorem getD_range {n i : Nat} (h : i < n) : (List.range n).getD i 0 = i := by
  rw [List.getD_eq_getElem?_getD, List.getElem?_eq_getElem (by simpa using h)]; simp
theorem likely_eq (x y : List Int) : p_spec_l11Likely x y = p_impl_faces x y := by
  unfold p_spec_l11Likely p_impl_faces
  refine cnt_congr (fun i s c => ?_) _ _ _
  rw [weight_eq]
theorem seen_eq (x : List Int) : p_spec_l11Rolls x = p_impl_areSeen x := by
  unfold p_impl_areSeen
  rw [areAll_eq, rolls_loop]; rfl
theorem areW_eq (x : List Int) : p_impl_areAll_intv1 x = x.all (fun a => p_spec_l1In a 0 99) := by
  unfold p_impl_areAll_intv1 p_slices_ContainsFunc_int_intv1 p_slices_IndexFunc_int_intv1
  rw [noneFunc p_impl_areAll_int_1v1]
  congr 1
  funext a
  simp [p_impl_areAll_int_1v1, p_impl_WhichDie_1, within_In]
theorem faces_b {x y : List Int} (h : y.length ≤ 12) : ∃ v : Nat, p_impl_faces x y = (v : Int) ∧ v ≤ 6 ^ 12 := by
  unfold p_impl_faces
  refine cnt_ind0 y.length (fun i s => ∃ v : Nat, s = (v : Int) ∧ v ≤ 6 ^ i) (fun r => ∃ v : Nat, r = (v : Int) ∧ v ≤ 6 ^ 12) (by omega) ⟨1, rfl, by simp⟩ (fun s ⟨v, e, hb⟩ => ⟨v, e, Nat.le_trans hb (Nat.pow_le_pow_right (by omega) h)⟩) (fun i s c hi ⟨v, e, hb⟩ hk => ?_)
  subst e
  obtain ⟨m, hm, hm6⟩ := weight_b (x := x) (y.getD (i : Int).toNat 0)
  rw [hm]
  have e1 : v * m ≤ 6 ^ (i + 1) := by rw [Nat.pow_succ]; exact Nat.mul_le_mul hb hm6
  have e2 : (6 : Nat) ^ (i + 1) ≤ 6 ^ 12 := Nat.pow_le_pow_right (by omega) (by omega)
  have e4 : (6 : Nat) ^ 12 = 2176782336 := by decide
  refine hk _ ⟨v * m, ?_, e1⟩
  rw [← Int.natCast_mul]
  exact wrap_nat (by omega)
theorem wsum_natM (M : Nat) : ∀ (l : List Int) (n : Nat), (∀ v ∈ l, ∃ n : Nat, v = (n : Int) ∧ n ≤ M) → n + M * l.length ≤ 4611686018427387904 → wsum (n : Int) l = ((n + (l.map Int.toNat).sum : Nat) : Int) ∧ (l.map Int.toNat).sum ≤ M * l.length
  | [], n, _, _ => by simp [wsum]
  | v :: l, n, h, hb => by
    obtain ⟨m, rfl, hm⟩ := h v (by simp)
    simp only [List.length_cons, Nat.mul_succ] at hb ⊢
    obtain ⟨h1, h2⟩ := wsum_natM M l (n + m) (fun v hv => h v (by simp [hv])) (by omega)
    refine ⟨?_, by simp only [List.map_cons, List.sum_cons, Int.toNat_natCast]; omega⟩
    simp only [wsum, List.foldl_cons] at h1 ⊢
    rw [wrap_i64 (by omega) (by omega)]
    rw [show (n : Int) + (m : Int) = ((n + m : Nat) : Int) from rfl, h1]
    simp; omega
/-- the ways of the i-th die -/
def wayT (p : List (List Int)) (w r : List Int) (i : Nat) : Int := IntKind.wrap .i64 (w.getD i 0 * p_impl_faces (p.getD i (List.replicate 6 0)) r)
theorem wayT_b {p : List (List Int)} {w r : List Int} {i : Nat} (hi : i < w.length) (hw : w.all (fun a => p_spec_l1In a 0 99) = true) (hr : r.length ≤ 12) : ∃ n : Nat, wayT p w r i = (n : Int) ∧ n ≤ 215501451264 := by
  obtain ⟨v, hv, hb⟩ := faces_b (x := p.getD i (List.replicate 6 0)) hr
  have hm : w.getD i 0 ∈ w := by rw [List.getD_eq_getElem?_getD, List.getElem?_eq_getElem hi]; exact List.getElem_mem _
  have := List.all_eq_true.1 hw _ hm
  simp only [l1In_eq, decide_eq_true_eq] at this
  obtain ⟨n, hn⟩ : ∃ n : Nat, w.getD i 0 = (n : Int) := ⟨(w.getD i 0).toNat, by omega⟩
  have hn99 : n ≤ 99 := by omega
  have e4 : (6 : Nat) ^ 12 = 2176782336 := by decide
  have hb2 : n * v ≤ 99 * 2176782336 := Nat.mul_le_mul hn99 (by omega)
  have hb3 : n * v ≤ 215501451264 := Nat.le_trans hb2 (by decide)
  refine ⟨n * v, ?_, hb3⟩
  unfold wayT
  rw [hn, hv, ← Int.natCast_mul]
  exact wrap_nat (Nat.le_trans hb3 (by decide))
/-- the list of the chances -/
def chL (p : List (List Int)) (w r : List Int) (S : Nat) (n : Nat) : List (List Int) := (List.range n).map fun j => cutF (wayT p w r j).toNat S
theorem chL_succ (p : List (List Int)) (w r : List Int) (S n : Nat) : chL p w r S (n + 1) = chL p w r S n ++ [cutF (wayT p w r n).toNat S] := by
  simp [chL, List.range_succ]
theorem chL_len (p : List (List Int)) (w r : List Int) (S n : Nat) : (chL p w r S n).length = n := by simp [chL]
def waysL (p : List (List Int)) (w r : List Int) (n : Nat) : List Int := (List.range n).map (wayT p w r)
theorem waysL_succ (p : List (List Int)) (w r : List Int) (n : Nat) : waysL p w r (n + 1) = waysL p w r n ++ [wayT p w r n] := by
  simp [waysL, List.range_succ]
theorem waysL_len (p : List (List Int)) (w r : List Int) (n : Nat) : (waysL p w r n).length = n := by simp [waysL]
theorem waysL_get (p : List (List Int)) (w r : List Int) {n i : Nat} (h : i < n) : (waysL p w r n).getD i 0 = wayT p w r i := by
  rw [List.getD_eq_getElem?_getD, List.getElem?_eq_getElem (by rw [waysL_len]; exact h)]
  simp [waysL]
theorem ch_run {p : List (List Int)} {w r : List Int} {n S : Nat} {fu : Nat} (hn : n ≤ 4) (hS : 0 < S) (hS2 : S ≤ 9223372036854775807) (hb : ∀ i, i < n → ∃ m : Nat, wayT p w r i = (m : Int) ∧ m ≤ 9223372036854775807) (hf : S < fu) : ∀ (d i fu' : Nat), d + i = n → d < fu' →
    whl (fun (s55 : Int × (List (List Int))) c57 => (if s55.1 < ((waysL p w r n).length : Int) then if 0 ≤ s55.1 then (p_impl_fraction fu ((waysL p w r n).getD s55.1.toNat 0) (S : Int)).bind (fun r63 => if (s55.2.length : Int) + 1 ≤ 1000000000 then c57 ((IntKind.wrap .i64 (s55.1 + 1)), (s55.2 ++ [r63])) else none) else none else some (s55.2, true))) fu' ((i : Int), chL p w r S i) = some (chL p w r S n, true) := by
  intro d
  induction d with
  | zero =>
    intro i fu' h hfu
    obtain ⟨f, rfl⟩ : ∃ f, fu' = f + 1 := ⟨fu' - 1, by omega⟩
    simp only [whl]
    rw [if_neg (by rw [waysL_len]; omega), show i = n by omega]
  | succ d ih =>
    intro i fu' h hfu
    obtain ⟨f, rfl⟩ : ∃ f, fu' = f + 1 := ⟨fu' - 1, by omega⟩
    obtain ⟨m, hm, hmb⟩ := hb i (by omega)
    simp only [whl]
    rw [if_pos (by rw [waysL_len]; omega), if_pos (by omega), Int.toNat_natCast, waysL_get p w r (by omega), hm, fraction_eq m S hmb hS2 (by omega) hf]
    rw [Option.bind_some]
    rw [if_pos (by rw [chL_len]; omega), wrap_i64 (by omega) (by omega)]
    have e : chL p w r S i ++ [cutF m S] = chL p w r S (i + 1) := by rw [chL_succ, hm]; rfl
    rw [e]
    exact ih (i + 1) f (by omega) (by omega)
theorem which_eq {p : List (List Int)} {w r : List Int} {fu : Nat} (hp : Six p) (hf : 10000000000000 ≤ fu) (hf2 : 100 < fu) : ∃ (a : List (List Int)) (q : Bool), Two a ∧ a.length ≤ 4 ∧ p_spec_WhichDie fu p w r = some (a, q) ∧ p_impl_WhichDie fu p w r = some (a, q) := by
  unfold p_spec_WhichDie p_impl_WhichDie
  rw [pool_eq hp, seen_eq, areW_eq]
  rw [Option.bind_some]
  have hnil : Two [] := fun d hd => by simp at hd
  cases hpool : p_impl_IsPool p with
  | false => exact ⟨[], false, hnil, by simp, rfl, rfl⟩
  | true =>
    by_cases hl : (w.length : Int) = (p.length : Int)
    · rw [decide_eq_true hl]
      cases hs : p_impl_areSeen r with
      | false => exact ⟨[], false, hnil, by simp, rfl, by cases (w.all fun a => p_spec_l1In a 0 99) <;> rfl⟩
      | true =>
        have hr12 : r.length ≤ 12 := by
          unfold p_impl_areSeen at hs
          simp only [Bool.and_eq_true, decide_eq_true_eq] at hs
          omega
        obtain ⟨hp1, hp4⟩ := pool_len hpool
        simp only [Bool.not_true, Bool.or_false, Bool.false_eq_true, if_false, Bool.false_or]
        -- the first loop of the reference
        have first : ∀ (K : Int → Int → Option (List (List Int) × Bool)), cnt (fun i26 (s25 : Int) c27 _ => (if (p_spec_l1In (w.getD i26.toNat 0) 0 99) = true then c27 (IntKind.wrap .i64 (s25 + (IntKind.wrap .i64 ((w.getD i26.toNat 0) * (p_spec_l11Likely (p.getD i26.toNat (List.replicate 6 0)) r))))) else some ([], false))) K (Int.toNat ((p.length : Int) - 0)) 0 0 = lrun (fun (j : Nat) (s : Int) c => if (p_spec_l1In (w.getD j 0) 0 99) = true then c (IntKind.wrap .i64 (s + wayT p w r j)) else some ([], false)) (K (p.length : Int)) (List.range p.length) 0 := by
          intro K
          have := cnt_list (f := fun i26 (s25 : Int) c27 (_ : Int → Int → Option (List (List Int) × Bool)) => (if (p_spec_l1In (w.getD i26.toNat 0) 0 99) = true then c27 (IntKind.wrap .i64 (s25 + (IntKind.wrap .i64 ((w.getD i26.toNat 0) * (p_spec_l11Likely (p.getD i26.toNat (List.replicate 6 0)) r))))) else some ([], false))) (k := K) (fun (j : Nat) (s : Int) c => if (p_spec_l1In (w.getD j 0) 0 99) = true then c (IntKind.wrap .i64 (s + wayT p w r j)) else some ([], false)) (List.range p.length) 0 (d := Int.toNat ((p.length : Int) - 0)) (s := 0) (by simp) (fun i s c h0 h1 => by
            have hi : i.toNat < p.length := by simp at h1; omega
            rw [getD_range hi, likely_eq]; rfl)
          simpa using this
        rw [first]
        cases hw : w.all (fun a => p_spec_l1In a 0 99) with
        | false =>
          refine ⟨[], false, hnil, by simp, ?_, rfl⟩
          refine lrun_bad (b := fun j => !p_spec_l1In (w.getD j 0) 0 99) (G := fun j s => IntKind.wrap .i64 (s + wayT p w r j)) _ (fun j s c hb => by rw [if_neg (by simpa using hb)]) (fun j s c hb => by rw [if_pos (by simpa using hb)]) _ _ ?_
          rw [List.all_eq_false] at hw
          obtain ⟨v, hv, hn⟩ := hw
          obtain ⟨j, hj, e⟩ := List.getElem_of_mem hv
          refine List.any_eq_true.2 ⟨j, by simp; omega, ?_⟩
          have e2 : w.getD j 0 = v := by rw [List.getD_eq_getElem?_getD, List.getElem?_eq_getElem hj]; simpa using e
          rw [e2]; simpa using hn
        | true =>
          have hb0 : ∀ i, i < p.length → ∃ m : Nat, wayT p w r i = (m : Int) ∧ m ≤ 215501451264 := fun i hi => wayT_b (by omega) hw hr12
          have hb : ∀ i, i < p.length → ∃ m : Nat, wayT p w r i = (m : Int) ∧ m ≤ 9223372036854775807 := fun i hi => by
            obtain ⟨m, h1, h2⟩ := hb0 i hi
            exact ⟨m, h1, Nat.le_trans h2 (by decide)⟩
          rw [lrun_congr_mem (G := fun (j : Nat) (s : Int) c => c ((fun j s => IntKind.wrap .i64 (s + wayT p w r j)) j s)) _ _ _ (fun j hj s c => by
            have hj' : j < w.length := by simp at hj; omega
            have := List.all_eq_true.1 hw (w.getD j 0) (by rw [List.getD_eq_getElem?_getD, List.getElem?_eq_getElem hj']; exact List.getElem_mem _)
            rw [if_pos this]), lrun_fold (fun j s => IntKind.wrap .i64 (s + wayT p w r j))]
          have hsum : (List.range p.length).foldl (fun s j => IntKind.wrap .i64 (s + wayT p w r j)) 0 = wsum 0 (waysL p w r p.length) := by
            unfold wsum waysL
            rw [List.foldl_map]
          rw [hsum]
          obtain ⟨hs1, hs2⟩ := wsum_natM 215501451264 (waysL p w r p.length) 0 (fun v hv => by
            unfold waysL at hv
            obtain ⟨j, hj, rfl⟩ := List.mem_map.1 hv
            exact hb0 j (by simpa using hj)) (by rw [waysL_len, Nat.zero_add]; exact Nat.le_trans (Nat.mul_le_mul_left _ hp4) (by decide))
          rw [waysL_len] at hs2
          simp only [Int.natCast_zero, Nat.zero_add] at hs1
          rw [hs1]
          generalize hS : ((waysL p w r p.length).map Int.toNat).sum = S at *
          have hS1 : S ≤ 215501451264 * 4 := Nat.le_trans hs2 (Nat.mul_le_mul_left _ hp4)
          have hS63 : S ≤ 9223372036854775807 := Nat.le_trans hS1 (by decide)
          have hSf : S < fu := Nat.lt_of_lt_of_le (Nat.lt_of_le_of_lt hS1 (by decide : 215501451264 * 4 < 10000000000000)) hf
          clear hS1 hs2 hf
          -- the ways of the program
          have ways : ∀ (K : List Int → Option (List (List Int) × Bool)), cnt (fun i45 (s44 : (List Int)) c46 _ => if (s44.length : Int) + 1 ≤ 1000000000 then c46 (s44 ++ [(IntKind.wrap .i64 ((w.getD i45.toNat 0) * (p_impl_faces (p.getD i45.toNat (List.replicate 6 0)) r)))]) else none) (fun _ s => K s) (Int.toNat ((p.length : Int) - 0)) 0 [] = K (waysL p w r p.length) := fun K =>
            cnt_ind0 p.length (fun i s => s = waysL p w r i) (fun z => z = K (waysL p w r p.length)) (by omega) rfl (fun s e => by rw [e]) (fun i s c hi e hk => by
              subst e
              rw [if_pos (by rw [waysL_len]; omega)]
              refine hk _ ?_
              rw [waysL_succ, Int.toNat_natCast]; rfl)
          refine ⟨chL p w r S (if 0 < S then p.length else 0), decide (0 < S), fun d hd => ?_, ?_, ?_, ?_⟩
          · unfold chL at hd
            obtain ⟨j, _, rfl⟩ := List.mem_map.1 hd
            rfl
          · rw [chL_len]; split <;> omega
          · by_cases h0 : 0 < S
            · rw [if_pos h0]
              refine cnt_ind0 p.length (fun i s => s = chL p w r S i) (fun z => z = some (chL p w r S p.length, decide (0 < S))) (by omega) rfl (fun s e => by rw [e, decide_eq_true h0, decide_eq_true (by omega)]) (fun i s c hi e hk => ?_)
              subst e
              obtain ⟨m, hm, hmb⟩ := hb i hi
              have hm' : IntKind.wrap .i64 ((w.getD i 0) * (p_spec_l11Likely (p.getD i (List.replicate 6 0)) r)) = (m : Int) := by rw [likely_eq]; exact hm
              rw [if_pos (by simp; omega), Int.toNat_natCast, hm', cut_eq m S hmb hS63 (by omega) hSf]
              rw [Option.bind_some]
              rw [if_pos (by rw [chL_len]; omega)]
              refine hk _ ?_
              rw [chL_succ, hm]; rfl
            · rw [if_neg h0]
              have hz : S = 0 := by omega
              subst hz
              cases hd : Int.toNat ((p.length : Int) - 0) with
              | zero => rfl
              | succ d =>
                simp only [cnt]
                rw [if_neg (by simp)]; rfl
          · refine (ways (fun s44 => (if (p_impl_total s44) = 0 then some ([], false) else whl (fun (s55 : Int × (List (List Int))) c57 => (if s55.1 < (s44.length : Int) then if 0 ≤ s55.1 then (p_impl_fraction fu (s44.getD s55.1.toNat 0) (p_impl_total s44)).bind (fun r63 => if (s55.2.length : Int) + 1 ≤ 1000000000 then c57 ((IntKind.wrap .i64 (s55.1 + 1)), (s55.2 ++ [r63])) else none) else none else some (s55.2, true))) fu (0, [])))).trans ?_
            rw [total_eq, hs1]
            by_cases h0 : 0 < S
            · rw [if_neg (by omega), if_pos h0, decide_eq_true h0]
              exact ch_run (n := p.length) (by omega) h0 hS63 hb hSf p.length 0 fu (by omega) (by omega)
            · rw [if_pos (by omega), if_neg h0, decide_eq_false h0]; rfl
    · rw [decide_eq_false hl]
      exact ⟨[], false, hnil, by simp, rfl, rfl⟩
theorem eqIntA2_self {l : List Int} : p_laws_eqIntA2 l l = true := by
  simp [p_laws_eqIntA2, cnt]
theorem eqIntA2S_self (x : List (List Int)) : p_laws_eqIntA2S x x = true := by
  unfold p_laws_eqIntA2S
  rw [if_pos rfl]
  refine cnt_ind0 x.length (fun _ _ => True) (fun r => r = true) (by omega) trivial (fun _ _ => rfl) (fun i s c _ _ hc => ?_)
  rw [if_pos eqIntA2_self]; exact hc _ trivial
theorem pure_FnExactWhichDie {p : List (List Int)} {w r : List Int} (hp : Six p ∧ p.length ≤ lim) : ∃ fu, p_laws_FnExactWhichDie fu p w r = some true := by
  refine ⟨10000000000000, ?_⟩
  generalize hf : 10000000000000 = fu
  unfold p_laws_FnExactWhichDie
  by_cases h1 : 1048576 < (w.length : Int)
  · rw [if_pos h1]
  · rw [if_neg h1]
    by_cases h2 : 1048576 < (r.length : Int)
    · rw [if_pos h2]
    · rw [if_neg h2]
      rcases szA6S_cases p 1048576 hp.2 (by omega) (by omega) with h | ⟨h3, h4⟩
      · rw [if_pos h]
      · rw [if_neg (by omega), toIntA6S_eq hp.1 (by omega), toIntS_eq (by omega), toIntS_eq (by omega)]
        simp only [Option.bind_some]
        obtain ⟨a, q, ha, hal, e1, e2⟩ := which_eq (p := p) (w := w) (r := r) (fu := fu) hp.1 (by omega) (by omega)
        rw [e1, e2]
        simp only [Option.bind_some]
        have hm1 : ¬ (p_laws_markIntS r ((p_laws_markIntS w ((p_laws_markIntA6S p 1).1)).1)).1 < 0 := by
          rw [mark6_eq p hp.1 1 (by omega) (by omega)]
          simp only
          rw [mark_eq w (1 + 6 * (p.length : Int)) (by omega) (by omega)]
          simp only
          rw [mark_eq r (1 + 6 * (p.length : Int) + (w.length : Int)) (by omega) (by omega)]
          simp only
          omega
        have hm2 : (p_laws_markIntA2S a 1).1 = 1 + 2 * (a.length : Int) ∧ p_laws_heldIntA2S (p_laws_markIntA2S a 1).2 1 = 1 + 2 * (a.length : Int) := by
          rw [mark2_eq a ha 1 (by omega) (by omega)]
          exact ⟨rfl, held2_eq a.length 1 (by omega) (by omega)⟩
        have hn : ¬ (1 + 2 * (a.length : Int) < 0) := by omega
        simp only [eqIntA2S_self, eqIntA6S_self, eqIntS_eq, decide_eq_false hm1, hm2.1, hm2.2, Bool.not_true, bne_self_eq_false, Bool.or_false, Bool.false_eq_true, if_false, if_true, decide_true, if_neg hn]
end Go.GA
