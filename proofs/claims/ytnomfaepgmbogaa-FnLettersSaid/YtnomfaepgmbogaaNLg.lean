/- Plain law of FnLetters: pools with the same orders; no ties. -/
import Derived.Test.YtnomfaepgmbogaaNLf
namespace Go.GA.E
open Go
set_option maxRecDepth 100000
theorem countP_congr' {N : Nat} {f g : Nat → Bool} (h : ∀ t, t < N → f t = g t) : (List.range N).countP f = (List.range N).countP g := by
  refine List.countP_congr fun t ht => ?_
  rw [h t (List.mem_range.1 ht)]
theorem wv_congr {p q : List (List Int)} (hl : p.length = q.length) (h : ∀ t, t < 6 ^ p.length → p_impl_orderOf (rl p t) = p_impl_orderOf (rl q t)) : wv p = wv q := by
  unfold wv wk wc
  rw [← hl]
  refine List.map_congr_left fun o _ => ?_
  congr 1
  refine countP_congr' fun t ht => ?_
  unfold isO
  rw [h t ht]
theorem dg_lt (m t i : Nat) : dg m t i < 6 := Nat.mod_lt _ (by omega)
theorem rl_get' {p : List (List Int)} {t i : Nat} (hi : i < p.length) : (rl p t).getD i 0 = (rw6 p i).getD (dg p.length t i) 0 := rl_get hi
theorem rw6_get_mem {p : List (List Int)} (hp : Six p) {c j : Nat} (hc : c < p.length) (hj : j < 6) : (rw6 p c).getD j 0 ∈ rw6 p c := by
  have h6 : (rw6 p c).length = 6 := getD_six hp hc
  exact getD_mem (by omega)
/-! ### Letters of a pool -/
theorem pool_rows {p : List (List Int)} (hp : Six p) (hv : p_impl_IsPool p = true) {c : Nat} (hc : c < p.length) : (∀ v ∈ rowAt p c, 0 ≤ v ∧ v ≤ 30) ∧ Srt (rowAt p c) := by
  have h := ((isPool_iff p).1 hv).2 (rowAt p c) (by
    unfold rowAt
    rw [List.getD_eq_getElem?_getD, List.getElem?_eq_getElem hc]; exact List.getElem_mem _)
  exact (die_iff (row_len hp hc)).1 h
theorem LL_mem (p : List (List Int)) (F : Nat) {v : Int} (h : v ∈ LL p F) : ∃ c, c < p.length ∧ v = (c : Int) := by
  unfold LL at h
  obtain ⟨f, _, h2⟩ := List.mem_flatMap.1 h
  unfold Lf at h2
  obtain ⟨c, hc, h3⟩ := List.mem_flatMap.1 h2
  exact ⟨c, List.mem_range.1 hc, List.eq_of_mem_replicate h3⟩
theorem LL_count6 {p : List (List Int)} (hp : Six p) (hv : p_impl_IsPool p = true) {c : Nat} (hc : c < p.length) : (LL p 31).count (c : Int) = 6 := by
  obtain ⟨h1, h2⟩ := pool_rows hp hv hc
  rw [count_LL p hc (fun v hv => (h1 v hv).1) 31]
  have : (rowAt p c).countP (fun v => decide (v < ((31 : Nat) : Int))) = (rowAt p c).length := by
    refine List.countP_eq_length.2 fun v hv => ?_
    have := h1 v hv
    exact decide_eq_true (by omega)
  rw [this, row_len hp hc]
theorem LL_good {p : List (List Int)} (hp : Six p) (hv : p_impl_IsPool p = true) : (LL p 31).length = 6 * p.length ∧ Good p.length (LL p 31) := by
  constructor
  · have h := sum_count p.length (LL p 31) (fun v hv => by
      obtain ⟨c, hc, rfl⟩ := LL_mem p 31 hv
      omega)
    rw [sumTo_congr (g := fun _ => 6) p.length (fun j hj => LL_count6 hp hv hj), sumTo_const] at h
    omega
  · refine ⟨fun i hi => ?_, fun j hj => LL_count6 hp hv hj⟩
    obtain ⟨c, hc, e⟩ := LL_mem p 31 (getD_mem hi)
    rw [e]; omega
theorem own_order {p : List (List Int)} (hp : Six p) (hv : p_impl_IsPool p = true) (hu : tied p = false) (t : Nat) : p_impl_orderOf (rl (PL p.length (LL p 31)) t) = p_impl_orderOf (rl p t) := by
  obtain ⟨hx, hg⟩ := LL_good hp hv
  have hl : (PL p.length (LL p 31)).length = p.length := PL_len _ _
  have key : ∀ i j, i < p.length → j < p.length → i ≠ j → ∃ a b : Nat, (rl (PL p.length (LL p 31)) t).getD i 0 = (a : Int) + 1 ∧ (rl (PL p.length (LL p 31)) t).getD j 0 = (b : Int) + 1 ∧ a ≠ b ∧ (rl p t).getD i 0 ≠ (rl p t).getD j 0 ∧ (a < b ↔ (rl p t).getD i 0 < (rl p t).getD j 0) := by
    intro i j hi hj hne
    obtain ⟨a, a1, a2⟩ := PL_ex hx hg hi (dg_lt p.length t i)
    obtain ⟨b, b1, b2⟩ := PL_ex hx hg hj (dg_lt p.length t j)
    rw [rl_get' (by omega), rl_get' (by omega), rl_get' hi, rl_get' hj, hl]
    have hf : (rw6 p i).getD (dg p.length t i) 0 ≠ (rw6 p j).getD (dg p.length t j) 0 := by
      intro e
      have m1 := rw6_get_mem hp hi (dg_lt p.length t i)
      have m2 := rw6_get_mem hp hj (dg_lt p.length t j)
      rw [← e] at m2
      exact untied_ne hu hi hj hne m1 m2
    refine ⟨a, b, a2, b2, fun e => ?_, hf, ?_⟩
    · subst e
      have h1 := a1.2.1
      have h2 := b1.2.1
      omega
    · have h := OC_cmp (F := 31) hi hj (fun c hc v hv2 => by have := (pool_rows hp hv hc).1 v hv2; omega) (fun c hc => (pool_rows hp hv hc).2) (by rw [row_len hp hi]; exact dg_lt _ _ _) (by rw [row_len hp hj]; exact dg_lt _ _ _) a1 b1 (by rw [← six_row hp hi, ← six_row hp hj]; exact hf)
      rw [six_row hp hi, six_row hp hj]
      exact h
  have el : (rl (PL p.length (LL p 31)) t).length = p.length := by rw [rl_len, hl]
  refine order_cong _ _ (by rw [el, rl_len]) (fun i j hi hj => ?_) (fun i j hi hj => ?_)
  · rw [el] at hi hj
    by_cases e : i = j
    · subst e; exact ⟨fun _ => rfl, fun _ => rfl⟩
    · obtain ⟨a, b, h1, h2, h3, h4, h5⟩ := key i j hi hj e
      rw [h1, h2]
      exact ⟨fun h => absurd (by omega : a = b) h3, fun h => absurd h h4⟩
  · rw [el] at hi hj
    by_cases e : i = j
    · subst e; constructor <;> intro h <;> exact absurd h (Int.lt_irrefl _)
    · obtain ⟨a, b, h1, h2, h3, h4, h5⟩ := key i j hi hj e
      rw [h1, h2, ← h5]
      omega
theorem own_ways {p : List (List Int)} (hp : Six p) (hv : p_impl_IsPool p = true) (hu : tied p = false) : wv (PL p.length (LL p 31)) = wv p :=
  wv_congr (PL_len _ _) (fun t _ => own_order hp hv hu t)
/-! ### No ties -/
def turnO (n : Nat) (o : List Int) : List Int := (List.range n).foldl (fun s i => s.set i (o.getD (n - 1 - i) 0)) o
def okN (n : Nat) (y : List Int) : Bool := (!decide y.Nodup) || match p_impl_orderOf y with
  | some (o, true) => decide (o.1 ∈ oM n) && decide (p_impl_orderOf (y.map fun v => (n : Int) - 1 - v) = some ((turnO n o.1, ()), true)) && decide (turnO n (turnO n o.1) = o.1)
  | _ => false
theorem okn1 : (allL 1 1).all (okN 1) = true := by decide +kernel
theorem okn2 : (allL 2 2).all (okN 2) = true := by decide +kernel
theorem okn3 : (allL 3 3).all (okN 3) = true := by decide +kernel
theorem okn4 : (allL 4 4).all (okN 4) = true := by decide +kernel
theorem ranks_nodup {x : List Int} (h : x.Nodup) : (ranks x).Nodup := by
  unfold ranks List.Nodup
  rw [List.pairwise_map]
  refine List.Pairwise.imp_of_mem (fun {a b} ha hb hne => ?_) h
  intro e
  rcases Int.lt_trichotomy a b with h1 | h1 | h1
  · have := rk_lt _ _ h1 x ha; omega
  · exact hne h1
  · have := rk_lt _ _ h1 x hb; omega
theorem ranks_all (x : List Int) : ranks x ∈ allL x.length x.length := by
  have := allL_mem x.length (ranks x) (fun v hv => by
    unfold ranks at hv
    obtain ⟨u, hu, rfl⟩ := List.mem_map.1 hv
    exact ⟨rk x u, rfl, rk_len x u hu⟩)
  have e : (ranks x).length = x.length := by simp [ranks]
  rwa [e] at this
/-- a roll with no equal faces has an order, and the roll turned has the order turned -/
theorem order_nd {x : List Int} (h1 : 1 ≤ x.length) (h4 : x.length ≤ 4) (hn : x.Nodup) : ∃ o, p_impl_orderOf x = some ((o, ()), true) ∧ o ∈ oM x.length ∧ turnO x.length (turnO x.length o) = o ∧
    ∀ y : List Int, y.length = x.length → (∀ i j, i < x.length → j < x.length → (y.getD i 0 = y.getD j 0 ↔ x.getD i 0 = x.getD j 0)) → (∀ i j, i < x.length → j < x.length → (y.getD i 0 < y.getD j 0 ↔ x.getD j 0 < x.getD i 0)) → p_impl_orderOf y = some ((turnO x.length o, ()), true) := by
  have hall : (allL x.length x.length).all (okN x.length) = true := by
    have : x.length = 1 ∨ x.length = 2 ∨ x.length = 3 ∨ x.length = 4 := by omega
    rcases this with h | h | h | h <;> rw [h]
    · exact okn1
    · exact okn2
    · exact okn3
    · exact okn4
  have hk := List.all_eq_true.1 hall _ (ranks_all x)
  unfold okN at hk
  rw [decide_eq_true (ranks_nodup hn)] at hk
  simp only [Bool.not_true, Bool.false_or] at hk
  split at hk
  · rename_i o he
    simp only [Bool.and_eq_true, decide_eq_true_eq] at hk
    obtain ⟨⟨k1, k2⟩, k3⟩ := hk
    refine ⟨o.1, ?_, k1, k3, fun y hy heq hlt => ?_⟩
    · rw [order_ranks x, he]
    · rw [← k2]
      have hrl : (ranks x).length = x.length := by simp [ranks]
      have hgz : ∀ i, i < x.length → ((ranks x).map fun v => (x.length : Int) - 1 - v).getD i 0 = (x.length : Int) - 1 - ((rk x (x.getD i 0) : Nat) : Int) := fun i hi => by
        rw [List.getD_eq_getElem?_getD, List.getElem?_map, List.getElem?_eq_getElem (by omega)]
        have := ranks_get x hi
        rw [List.getD_eq_getElem?_getD, List.getElem?_eq_getElem (by omega), Option.getD_some] at this
        rw [← this]; rfl
      refine order_cong y _ (by simp [ranks, hy]) (fun i j hi hj => ?_) (fun i j hi hj => ?_)
      · rw [hgz i (by omega), hgz j (by omega), heq i j (by omega) (by omega)]
        constructor
        · intro h; rw [h]
        · intro h
          rcases Int.lt_trichotomy (x.getD i 0) (x.getD j 0) with h1 | h1 | h1
          · have := rk_lt _ _ h1 x (getD_mem (by omega)); omega
          · exact h1
          · have := rk_lt _ _ h1 x (getD_mem (by omega)); omega
      · rw [hgz i (by omega), hgz j (by omega), hlt i j (by omega) (by omega)]
        constructor
        · intro h; have := rk_lt _ _ h x (getD_mem (by omega)); omega
        · intro h
          rcases Int.lt_trichotomy (x.getD i 0) (x.getD j 0) with h1 | h1 | h1
          · have := rk_lt _ _ h1 x (getD_mem (by omega)); omega
          · rw [h1] at h; omega
          · exact h1
  · cases hk
theorem rl_nodup {p : List (List Int)} (hp : Six p) (hu : tied p = false) (t : Nat) : (rl p t).Nodup := by
  unfold List.Nodup
  rw [List.pairwise_iff_getElem]
  intro i j hi hj hij e
  have hi' := hi
  have hj' := hj
  rw [rl_len] at hi' hj'
  have g1 : (rl p t).getD i 0 = (rl p t)[i] := getD_lt hi
  have g2 : (rl p t).getD j 0 = (rl p t)[j] := getD_lt hj
  rw [← g1, ← g2, rl_get' hi', rl_get' hj'] at e
  have m1 := rw6_get_mem hp hi' (dg_lt p.length t i)
  have m2 := rw6_get_mem hp hj' (dg_lt p.length t j)
  rw [← e] at m2
  exact untied_ne hu hi' hj' (by omega) m1 m2
theorem sum_add' {f g : List Int → Nat} : ∀ l : List (List Int), (l.map fun o => f o + g o).sum = (l.map f).sum + (l.map g).sum
  | [] => rfl
  | a :: l => by simp only [List.map_cons, List.sum_cons]; rw [sum_add' l]; omega
theorem sum_none {g : List Int → Nat} : ∀ l : List (List Int), (∀ o ∈ l, g o = 0) → (l.map g).sum = 0
  | [], _ => rfl
  | a :: l, h => by
    simp only [List.map_cons, List.sum_cons]
    rw [sum_none l (fun o ho => h o (List.mem_cons_of_mem _ ho)), h a (by simp)]
theorem sum_one {g : List Int → Nat} {o : List Int} (h1 : g o = 1) (h0 : ∀ o', o' ≠ o → g o' = 0) : ∀ l : List (List Int), l.Nodup → o ∈ l → (l.map g).sum = 1
  | [], _, h => by simp at h
  | a :: l, hn, h => by
    simp only [List.map_cons, List.sum_cons]
    have hn' := List.nodup_cons.1 hn
    by_cases e : a = o
    · subst e
      rw [h1, sum_none l (fun o' ho' => h0 o' (fun e => by subst e; exact hn'.1 ho'))]
    · rw [h0 a e, sum_one h1 h0 l hn'.2 (by rcases List.mem_cons.1 h with h | h; exact absurd h.symm e; exact h)]
theorem wc_sum {p : List (List Int)} (hp : Six p) (hu : tied p = false) (h1 : 1 ≤ p.length) (h4 : p.length ≤ 4) : ∀ k, ((oM p.length).map fun o => wc p o k).sum = k
  | 0 => sum_none _ (fun o _ => rfl)
  | k + 1 => by
    obtain ⟨hnd, _, _⟩ := ord_nodup p.length h1 h4
    simp only [wc_succ]
    rw [sum_add', wc_sum hp hu h1 h4 k]
    congr 1
    obtain ⟨o, e1, e2, _⟩ := order_nd (x := rl p k) (by rw [rl_len]; exact h1) (by rw [rl_len]; exact h4) (rl_nodup hp hu k)
    rw [rl_len] at e2
    refine sum_one (o := o) ?_ (fun o' hne => ?_) _ hnd e2
    · unfold isO; rw [e1, if_pos (by simp)]
    · unfold isO
      rw [e1, if_neg]
      simp only [decide_eq_true_eq]
      intro h
      exact hne (congrArg (fun z => z.1.1) (Option.some.inj h)).symm
theorem wsum_nat : ∀ (l : List Nat) (s : Nat), s + l.sum ≤ 1000000 → wsum (s : Int) (l.map fun n => ((n : Nat) : Int)) = ((s + l.sum : Nat) : Int)
  | [], s, _ => rfl
  | a :: l, s, h => by
    simp only [List.sum_cons] at h
    have := wsum_nat l (s + a) (by omega)
    unfold wsum at this ⊢
    simp only [List.map_cons, List.foldl_cons, List.sum_cons]
    rw [← Int.natCast_add, wrap_nat (by omega), this, Nat.add_assoc]
theorem ties_zero {p : List (List Int)} {fu : Nat} (hF : Fuel fu) (hp : Six p) (hv : p_impl_IsPool p = true) (hu : tied p = false) : p_impl_TieWays fu p = some (0, true) := by
  obtain ⟨h1, h4⟩ := pool_len hv
  have hb := hF.big
  have h64 : 6 ^ p.length ≤ 6 ^ 4 := Nat.pow_le_pow_right (by omega) h4
  have e64 : (6 : Nat) ^ 4 = 1296 := by decide
  unfold p_impl_TieWays p_impl_ties
  rw [if_pos hv, power_eq p.length (by omega) (by omega), Option.bind_some, (ways_eq hF h1 h4).1, Option.bind_some, total_eq]
  have e : wv p = ((oM p.length).map fun o => wc p o (6 ^ p.length)).map (fun n => ((n : Nat) : Int)) := by
    unfold wv wk; rw [List.map_map]; rfl
  have hs := wc_sum hp hu h1 h4 (6 ^ p.length)
  have hw := wsum_nat ((oM p.length).map fun o => wc p o (6 ^ p.length)) 0 (by omega)
  rw [Int.natCast_zero] at hw
  rw [e, hw, hs, Nat.zero_add, Int.sub_self]
  rfl
end Go.GA.E
