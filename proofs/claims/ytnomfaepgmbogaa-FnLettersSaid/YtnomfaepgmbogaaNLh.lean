/- Plain law of FnLetters: turned letters have turned orders; the spread of mended ones. -/
import Derived.Test.YtnomfaepgmbogaaNLg
namespace Go.GA.E
open Go
set_option maxRecDepth 100000
theorem good_rev {m : Nat} {x : List Int} (hg : Good m x) : Good m x.reverse := by
  refine ⟨fun i hi => ?_, fun j hj => by rw [List.count_reverse]; exact hg.2 j hj⟩
  have hm : x.reverse.getD i 0 ∈ x := List.mem_reverse.1 (getD_mem hi)
  obtain ⟨q, hq, e⟩ := List.getElem_of_mem hm
  have := hg.1 q hq
  rw [getD_lt hq, e] at this; exact this
theorem dg_turn {m t i : Nat} (h1 : 1 ≤ m) (h4 : m ≤ 4) (ht : t < 6 ^ m) (hi : i < m) : dg m (6 ^ m - 1 - t) i = 5 - dg m t i := by
  unfold dg
  have hm : m = 1 ∨ m = 2 ∨ m = 3 ∨ m = 4 := by omega
  have hi' : i = 0 ∨ i = 1 ∨ i = 2 ∨ i = 3 := by omega
  rcases hm with rfl | rfl | rfl | rfl <;> rcases hi' with rfl | rfl | rfl | rfl <;> first | omega | (simp at ht ⊢; omega)
theorem turned_entry {m t i : Nat} {x : List Int} (hx : x.length = 6 * m) (h1 : 1 ≤ m) (h4 : m ≤ 4) (hg : Good m x) (ht : t < 6 ^ m) (hi : i < m) : (rl (PL m x.reverse) t).getD i 0 = ((x.length : Int) + 1) - (rl (PL m x) (6 ^ m - 1 - t)).getD i 0 := by
  rw [rl_get' (by rw [PL_len]; exact hi), rl_get' (by rw [PL_len]; exact hi), PL_len, PL_len, dg_turn h1 h4 ht hi]
  have hd := dg_lt m t i
  obtain ⟨a, a1, a2⟩ := PL_ex hx hg hi (show 5 - dg m t i < 6 by omega)
  have hr := a1.rev
  rw [hg.2 i hi, show 6 - 1 - (5 - dg m t i) = dg m t i by omega] at hr
  have hb := PL_eq (x := x.reverse) (by rw [List.length_reverse]; exact hx) (good_rev hg) hi hr
  rw [hb, a2]
  have := a1.1
  omega
theorem isO_turn {m t : Nat} {x : List Int} {o : List Int} (hx : x.length = 6 * m) (h1 : 1 ≤ m) (h4 : m ≤ 4) (hg : Good m x) (ht : t < 6 ^ m) (ho : turnO m (turnO m o) = o) : isO (PL m x.reverse) (turnO m o) t = isO (PL m x) o (6 ^ m - 1 - t) := by
  obtain ⟨q, e1, _, e3, e4⟩ := order_nd (x := rl (PL m x) (6 ^ m - 1 - t)) (by rw [rl_len, PL_len]; exact h1) (by rw [rl_len, PL_len]; exact h4) (rl_nodup (PL_six m x) (PL_untied hx hg) _)
  rw [rl_len, PL_len] at e3 e4
  have he := e4 (rl (PL m x.reverse) t) (by rw [rl_len, PL_len]) (fun i j hi hj => by
    rw [turned_entry hx h1 h4 hg ht hi, turned_entry hx h1 h4 hg ht hj]; omega) (fun i j hi hj => by
    rw [turned_entry hx h1 h4 hg ht hi, turned_entry hx h1 h4 hg ht hj]; omega)
  unfold isO
  rw [he, e1]
  by_cases e : q = o
  · subst e; simp
  · rw [decide_eq_false, decide_eq_false]
    · intro h
      exact e (congrArg (fun z => z.1.1) (Option.some.inj h))
    · intro h
      have h2 : turnO m q = turnO m o := congrArg (fun z => z.1.1) (Option.some.inj h)
      exact e (by rw [← e3, h2, ho])
theorem countP_refl (N : Nat) (f : Nat → Bool) : (List.range N).countP (fun t => f (N - 1 - t)) = (List.range N).countP f := by
  have h : (List.range N).reverse = (List.range N).map fun t => N - 1 - t := by
    apply List.ext_getElem
    · simp
    · intro i h1 h2
      simp
  rw [← List.countP_reverse (l := List.range N) (p := f), h, List.countP_map]
  rfl
theorem wc_turn {m : Nat} {x : List Int} {o : List Int} (hx : x.length = 6 * m) (h1 : 1 ≤ m) (h4 : m ≤ 4) (hg : Good m x) (ho : turnO m (turnO m o) = o) : wc (PL m x.reverse) (turnO m o) (6 ^ m) = wc (PL m x) o (6 ^ m) := by
  unfold wc
  rw [← countP_refl (6 ^ m) (isO (PL m x) o)]
  exact countP_congr' fun t ht => isO_turn hx h1 h4 hg ht ho
theorem turn_chk : (([1, 2, 3, 4] : List Nat).all fun m => (oM m).all fun o => decide (turnO m (turnO m o) = o)) = true := by decide +kernel
theorem turn_turn {m : Nat} {o : List Int} (h1 : 1 ≤ m) (h4 : m ≤ 4) (ho : o ∈ oM m) : turnO m (turnO m o) = o := by
  have hm : m ∈ ([1, 2, 3, 4] : List Nat) := by
    have : m = 1 ∨ m = 2 ∨ m = 3 ∨ m = 4 := by omega
    rcases this with rfl | rfl | rfl | rfl <;> simp
  exact of_decide_eq_true (List.all_eq_true.1 (List.all_eq_true.1 turn_chk m hm) o ho)
/-- where an order turned stands, the letters turned have the same ways -/
theorem wv_turn {m i k : Nat} {x : List Int} (hx : x.length = 6 * m) (h1 : 1 ≤ m) (h4 : m ≤ 4) (hg : Good m x) (hi : i < (oM m).length) (hk : k < (oM m).length) (he : (oM m).getD k [] = turnO m ((oM m).getD i [])) : (wv (PL m x.reverse)).getD k 0 = (wv (PL m x)).getD i 0 := by
  have l1 : (oM (PL m x.reverse).length) = oM m := by rw [PL_len]
  have l2 : (oM (PL m x).length) = oM m := by rw [PL_len]
  have hm : (oM m).getD i [] ∈ oM m := by
    rw [List.getD_eq_getElem?_getD, List.getElem?_eq_getElem hi]; exact List.getElem_mem _
  unfold wv
  rw [wk_get (by rw [l1]; exact hk), wk_get (by rw [l2]; exact hi), l1, l2, he, PL_len, PL_len, wc_turn hx h1 h4 hg (turn_turn h1 h4 hm)]
/-! ### Spreads -/
theorem wv_len (p : List (List Int)) : (wv p).length = (ordL p.length).length := wk_len p _
theorem wv_range {p : List (List Int)} (h4 : p.length ≤ 4) (i : Nat) : 0 ≤ (wv p).getD i 0 ∧ (wv p).getD i 0 ≤ 1296 := by
  have h64 : 6 ^ p.length ≤ 6 ^ 4 := Nat.pow_le_pow_right (by omega) h4
  have e64 : (6 : Nat) ^ 4 = 1296 := by decide
  by_cases hi : i < (oM p.length).length
  · unfold wv
    rw [wk_get hi]
    have := wc_le p ((oM p.length).getD i []) (6 ^ p.length)
    omega
  · rw [List.getD_eq_getElem?_getD, List.getElem?_eq_none (by rw [wv_len, ← oM_len]; omega)]
    simp
theorem lways_yes {x : List Int} {m fu : Nat} (hF : Fuel fu) (hx : x.length = 6 * m) (h1 : 1 ≤ m) (h4 : m ≤ 4) (hg : Good m x) : p_impl_LettersWays fu x = some (wv (PL m x), true) ∧ p_spec_LettersWays fu x = some (wv (PL m x), true) := by
  obtain ⟨w1, w2⟩ := ways_eq (p := PL m x) hF (by rw [PL_len]; exact h1) (by rw [PL_len]; exact h4)
  unfold p_impl_LettersWays p_spec_LettersWays
  rw [(from_letters hx h1 h4).1 hg, (letters_eq hx h1 h4).1 hg, Option.bind_some, Option.bind_some, if_pos rfl, if_pos rfl, pool_letters hx h1 h4 hg, Option.bind_some, w1, w2]
  exact ⟨rfl, rfl⟩
theorem spread2 {x : List Int} {m fu : Nat} (hF : Fuel fu) (hx : x.length = 6 * m) (h1 : 1 ≤ m) (h4 : m ≤ 4) (hg : Good m x) : ∃ (M L : Int), p_impl_LettersWays fu x = some (wv (PL m x), true) ∧ p_slices_Max_int_int (wv (PL m x)) = some M ∧ p_slices_Min_int_int (wv (PL m x)) = some L ∧ p_spec_l10Spread fu x = some (M - L) ∧ IntKind.wrap .i64 (M - L) = M - L ∧ 0 ≤ M - L ∧ ∃ a b, a < (wv (PL m x)).length ∧ b < (wv (PL m x)).length ∧ (wv (PL m x)).getD a 0 = M ∧ (wv (PL m x)).getD b 0 = L := by
  obtain ⟨out, M, L, s1, s2, s3, s4⟩ := spread_ok hF hx h1 h4 hg
  have e := (lways_yes hF hx h1 h4 hg).1
  rw [s1] at e
  have eo : out = wv (PL m x) := congrArg Prod.fst (Option.some.inj e)
  subst eo
  have hl : 1 ≤ (wv (PL m x)).length := by
    rw [wv_len, PL_len]
    exact (ord_nodup m h1 h4).2.2
  have h4' : (PL m x).length ≤ 4 := by rw [PL_len]; exact h4
  obtain ⟨M', m1, m2, jM, m3, m4⟩ := max_ok _ hl
  obtain ⟨L', l1, l2, jL, l3, l4⟩ := min_ok _ hl
  rw [s2] at m1
  rw [s3] at l1
  obtain rfl := Option.some.inj m1
  obtain rfl := Option.some.inj l1
  have r1 := wv_range h4' jM
  have r2 := wv_range h4' jL
  have r3 := m2 jL l3
  have ew : IntKind.wrap .i64 (M - L) = M - L := wrap_i64 (by omega) (by omega)
  rw [ew] at s4
  exact ⟨M, L, s1, s2, s3, s4, ew, by omega, jM, jL, m3, l3, m4, l4⟩
theorem mend_run2 {x : List Int} {m fu : Nat} (hF : Fuel fu) (hx : x.length = 6 * m) (h1 : 1 ≤ m) (h4 : m ≤ 4) (hg : Good m x) : ∀ (d k fu' : Nat) (sp : Int) (b : List Int), d + k + 1 = x.length → d < fu' → b.length = x.length → 0 ≤ sp → ∃ (sp' : Int) (b' : List Int), b'.length = x.length ∧ 0 ≤ sp' ∧ sp' ≤ sp ∧
    whl (fun (s6 : Int × Int × (List Int)) c8 => (if (IntKind.wrap .i64 (s6.2.1 + 1)) < (x.length : Int) then (some x).bind (fun r13 => if 0 ≤ (IntKind.wrap .i64 (s6.2.1 + 1)) then if s6.2.1 < (r13.length : Int) then if s6.2.1 < (x.length : Int) then if (s6.2.1 + 1) < (r13.length : Int) then (p_spec_l10Spread fu ((r13.set s6.2.1.toNat (x.getD (IntKind.wrap .i64 (s6.2.1 + 1)).toNat 0)).set (s6.2.1 + 1).toNat (x.getD s6.2.1.toNat 0))).bind (fun r19 => (if r19 < s6.1 then c8 (r19, (s6.2.1 + 1), ((r13.set s6.2.1.toNat (x.getD (IntKind.wrap .i64 (s6.2.1 + 1)).toNat 0)).set (s6.2.1 + 1).toNat (x.getD s6.2.1.toNat 0))) else c8 (s6.1, (s6.2.1 + 1), s6.2.2))) else none else none else none else none) else some (s6.2.2, s6.1, true))) fu' (sp, (k : Int), b) = some (b', sp', true) ∧
    cnt (fun i9 (s8 : Int × (List Int)) c10 _ => (some x).bind (fun r15 => if i9 < (r15.length : Int) then (p_impl_LettersWays fu ((r15.set (i9 - 1).toNat (r15.getD i9.toNat 0)).set i9.toNat (r15.getD (i9 - 1).toNat 0))).bind (fun r18 => (p_slices_Max_int_int r18.1).bind (fun r20 => (p_slices_Min_int_int r18.1).bind (fun r21 => (if (IntKind.wrap .i64 (r20 - r21)) < s8.1 then c10 ((IntKind.wrap .i64 (r20 - r21)), ((r15.set (i9 - 1).toNat (r15.getD i9.toNat 0)).set i9.toNat (r15.getD (i9 - 1).toNat 0))) else c10 (s8.1, s8.2))))) else none)) (fun i9 (s8 : Int × (List Int)) => some (s8.2, s8.1, true)) d ((k + 1 : Nat) : Int) (sp, b) = some (b', sp', true)
  | 0, k, fu', sp, b, h, hf, hb, h0 => by
    obtain ⟨fu'', rfl⟩ : ∃ e, fu' = e + 1 := ⟨fu' - 1, by omega⟩
    refine ⟨sp, b, hb, h0, Int.le_refl _, ?_, rfl⟩
    have hw : IntKind.wrap .i64 ((k : Int) + 1) = (k : Int) + 1 := wrap_i64 (by omega) (by omega)
    simp only [whl]
    rw [hw, if_neg (by omega)]
  | d + 1, k, fu', sp, b, h, hf, hb, h0 => by
    obtain ⟨fu'', rfl⟩ : ∃ e, fu' = e + 1 := ⟨fu' - 1, by omega⟩
    have hw : IntKind.wrap .i64 ((k : Int) + 1) = ((k + 1 : Nat) : Int) := wrap_i64 (by omega) (by omega)
    have e1 : ((k : Int) + 1).toNat = k + 1 := by omega
    have e2 : (((k + 1 : Nat) : Int) - 1).toNat = k := by omega
    obtain ⟨M, L, s1, s2, s3, s4, s5, s6, _⟩ := spread2 hF (by rw [swap_len]; exact hx) h1 h4 (swap_good hg (by omega : k + 1 < x.length))
    have hsw : (x.set k (x.getD (k + 1) 0)).set (k + 1) (x.getD k 0) = swapAt x k := rfl
    simp only [whl, cnt]
    rw [hw, if_pos (by omega), Option.bind_some, Option.bind_some, if_pos (by omega), if_pos (by omega), if_pos (by omega), if_pos (by omega), if_pos (by omega), e1, e2, Int.toNat_natCast, Int.toNat_natCast, hsw, s1, s4, Option.bind_some, Option.bind_some, s2, Option.bind_some, s3, Option.bind_some, s5]
    have e3 : ((k : Int) + 1) = ((k + 1 : Nat) : Int) := rfl
    have e4 : (((k + 1 : Nat) : Int) + 1) = ((k + 1 + 1 : Nat) : Int) := rfl
    rw [e3, e4]
    by_cases hlt : M - L < sp
    · rw [if_pos hlt, if_pos hlt]
      obtain ⟨sp', b', g1, g2, g3, g4, g5⟩ := mend_run2 hF hx h1 h4 hg d (k + 1) fu'' (M - L) (swapAt x k) (by omega) (by omega) (by rw [swap_len]) s6
      exact ⟨sp', b', g1, g2, by omega, g4, g5⟩
    · rw [if_neg hlt, if_neg hlt]
      exact mend_run2 hF hx h1 h4 hg d (k + 1) fu'' _ _ (by omega) (by omega) hb h0
theorem mend_yes {x : List Int} {m fu : Nat} (hF : Fuel fu) (hx : x.length = 6 * m) (h1 : 1 ≤ m) (h4 : m ≤ 4) (hg : Good m x) : ∃ (b : List Int) (sp : Int), b.length = x.length ∧ p_spec_MendLetters fu x = some (b, sp, true) ∧ p_impl_MendLetters fu x = some (b, sp, true) ∧ 0 ≤ sp ∧
    ∃ i j, i < (wv (PL m x)).length ∧ j < (wv (PL m x)).length ∧ sp ≤ (wv (PL m x)).getD i 0 - (wv (PL m x)).getD j 0 := by
  have hf := hF.big
  obtain ⟨M, L, s1, s2, s3, s4, s5, s6, i, j, a1, a2, a3, a4⟩ := spread2 hF hx h1 h4 hg
  obtain ⟨sp, b, hb, g1, g2, r1, r2⟩ := mend_run2 hF hx h1 h4 hg (x.length - 1) 0 fu (M - L) x (by omega) (by omega) rfl s6
  have ho : p_spec_l1Own x = some x := by unfold p_spec_l1Own; rw [if_pos (by omega)]; rfl
  have hc : p_slices_Clone_int_int x = some x := ho
  refine ⟨b, sp, hb, ?_, ?_, g1, i, j, a1, a2, by omega⟩
  · unfold p_spec_MendLetters
    rw [(letters_eq hx h1 h4).1 hg, Option.bind_some, if_pos rfl, ho, Option.bind_some, s4, Option.bind_some]
    exact r1
  · unfold p_impl_MendLetters
    have e : Int.toNat ((x.length : Int) - 1) = x.length - 1 := by omega
    rw [s1, Option.bind_some, if_pos rfl, hc, Option.bind_some, s2, Option.bind_some, s3, Option.bind_some, e, s5]
    exact r2
theorem mend_no {x : List Int} {fu : Nat} (h : ¬ IsL x) (hl : x.length ≤ 1048576) : p_spec_MendLetters fu x = some ([], 0, false) ∧ p_impl_MendLetters fu x = some ([], 0, false) := by
  obtain ⟨e1, e2⟩ := letters_not h hl
  unfold p_impl_MendLetters p_spec_MendLetters
  rw [(lways_no h hl).1, e1]
  exact ⟨rfl, rfl⟩
end Go.GA.E
