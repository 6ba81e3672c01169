/- Plain laws of OrderWays, WaysAt, IsOrderFair and IsFirstFair. -/
import Derived.Test.YtnomkjapifeedaaZKd
namespace Go.GA.E
open Go
set_option maxRecDepth 100000
set_option linter.unusedVariables false
set_option linter.unusedSimpArgs false
/-! ### Ways at a place -/
theorem at_same (fu : Nat) {n : Nat} {out : List Int} {player place : Int} (o1 : p_impl_orders fu (n : Int) = some (ordL n)) (o2 : p_spec_l10Orders fu (n : Int) = some (ordL n)) (hl : out.length = (ordL n).length) (h0 : 0 ≤ place) (h4 : place < 4) :
    ∃ v : Int, p_spec_l10At fu (n : Int) out player place = some v ∧ (p_impl_orders fu (n : Int)).bind (fun r3 => cnt (fun i6 (s5 : Int) c7 _ => if 0 ≤ place then if place < 4 then (if (((r3.getD i6.toNat ((List.replicate 4 0), ())).1).getD place.toNat 0) = player then if i6 < (out.length : Int) then c7 (IntKind.wrap .i64 (s5 + (out.getD i6.toNat 0))) else none else c7 s5) else none else none) (fun i6 (s5 : Int) => some s5) (Int.toNat ((r3.length : Int) - 0)) 0 0) = some v := by
  have ex : ∃ v : Int, p_spec_l10At fu (n : Int) out player place = some v := by
    unfold p_spec_l10At
    rw [o2, Option.bind_some]
    refine cnt_ind0 (ordL n).length (fun _ _ => True) (fun r => ∃ v : Int, r = some v) (by omega) trivial (fun s _ => ⟨s, rfl⟩) (fun i s c hi _ hc => ?_)
    rw [if_pos h0, if_pos h4]
    split
    · rw [if_pos (by omega)]; exact hc _ trivial
    · exact hc _ trivial
  obtain ⟨v, hv⟩ := ex
  refine ⟨v, hv, ?_⟩
  rw [← hv, o1]
  unfold p_spec_l10At
  rw [o2]
theorem waysAt_eq {p : List (List Int)} {fu : Nat} (hF : Fuel fu) (h1 : 1 ≤ p.length) (h4 : p.length ≤ 4) {out : List Int} (hw : Ways (ordL p.length).length (6 ^ p.length) out) (e1 : p_impl_orderWays fu p = some out) {player place : Int} (h0 : 0 ≤ place) (hp4 : place < 4) :
    ∃ v : Int, p_spec_l10At fu (p.length : Int) out player place = some v ∧ p_impl_waysAt fu p player place = some v := by
  obtain ⟨o1, o2⟩ := hF.ord p.length h1 h4
  obtain ⟨v, g1, g2⟩ := at_same fu (player := player) o1 o2 hw.len h0 hp4
  refine ⟨v, g1, ?_⟩
  unfold p_impl_waysAt
  rw [e1, Option.bind_some]
  exact g2
theorem key_WaysAt {p : List (List Int)} {player place : Int} {fu : Nat} (hF : Fuel fu) (hp : Six p) : ∃ (v : Int) (q : Bool), p_spec_WaysAt fu p player place = some (v, q) ∧ p_impl_WaysAt fu p player place = some (v, q) := by
  unfold p_spec_WaysAt p_impl_WaysAt p_impl_isPlayer
  rw [pool_eq hp, Option.bind_some, within_In, within_In]
  cases hd : p_impl_IsPool p with
  | false => exact ⟨0, false, rfl, rfl⟩
  | true =>
    obtain ⟨g1, g4⟩ := pool_len hd
    cases hi : p_spec_l1In player 0 ((p.length : Int) - 1) with
    | false => exact ⟨0, false, rfl, rfl⟩
    | true =>
      cases hj : p_spec_l1In place 0 ((p.length : Int) - 1) with
      | false => exact ⟨0, false, rfl, rfl⟩
      | true =>
        simp only [l1In_eq, decide_eq_true_eq] at hj
        obtain ⟨out, hw, e1, e2⟩ := ways_both hF g1 g4
        obtain ⟨v, v1, v2⟩ := waysAt_eq hF g1 g4 hw e1 (player := player) (place := place) (by omega) (by omega)
        refine ⟨v, true, ?_, ?_⟩
        · rw [if_neg (by simp), e2, Option.bind_some, v1]; rfl
        · rw [if_neg (by simp), v2]; rfl

/-! ### All the same -/
theorem max_ok (l : List Int) (h : 1 ≤ l.length) : ∃ M, p_slices_Max_int_int l = some M ∧ (∀ i, i < l.length → l.getD i 0 ≤ M) ∧ ∃ i, i < l.length ∧ l.getD i 0 = M := by
  unfold p_slices_Max_int_int
  rw [if_neg (by omega)]
  have := cnt_ind l.length (fun i (s : Int) => (∀ j, j < i → l.getD j 0 ≤ s) ∧ ∃ j, j < i ∧ l.getD j 0 = s) (fun r : Option Int => ∃ M, r = some M ∧ (∀ i, i < l.length → l.getD i 0 ≤ M) ∧ ∃ i, i < l.length ∧ l.getD i 0 = M) (f := fun i5 (s4 : Int) c6 _ => c6 (if (l.getD i5.toNat 0) > s4 then (l.getD i5.toNat 0) else s4)) (k := fun i5 (s4 : Int) => some s4)
    (fun s ⟨h1, h2⟩ => ⟨s, rfl, h1, h2⟩) (fun i s c hi ⟨h1, j, hj, e⟩ hc => by
      refine hc _ ?_
      rw [Int.toNat_natCast]
      by_cases hg : l.getD i 0 > s
      · rw [if_pos hg]
        refine ⟨fun k hk => ?_, i, by omega, rfl⟩
        by_cases hki : k = i
        · rw [hki]; exact Int.le_refl _
        · have := h1 k (by omega); omega
      · rw [if_neg hg]
        refine ⟨fun k hk => ?_, j, by omega, e⟩
        by_cases hki : k = i
        · rw [hki]; omega
        · exact h1 k (by omega)) (l.length - 1) 1 (l.getD 0 0) (by omega) ⟨fun k hk => (show k = 0 by omega) ▸ Int.le_refl _, 0, by omega, rfl⟩
  have e : Int.toNat ((l.length : Int) - 1) = l.length - 1 := by omega
  rw [e]
  exact this
theorem min_ok (l : List Int) (h : 1 ≤ l.length) : ∃ M, p_slices_Min_int_int l = some M ∧ (∀ i, i < l.length → M ≤ l.getD i 0) ∧ ∃ i, i < l.length ∧ l.getD i 0 = M := by
  unfold p_slices_Min_int_int
  rw [if_neg (by omega)]
  have := cnt_ind l.length (fun i (s : Int) => (∀ j, j < i → s ≤ l.getD j 0) ∧ ∃ j, j < i ∧ l.getD j 0 = s) (fun r : Option Int => ∃ M, r = some M ∧ (∀ i, i < l.length → M ≤ l.getD i 0) ∧ ∃ i, i < l.length ∧ l.getD i 0 = M) (f := fun i5 (s4 : Int) c6 _ => c6 (if (l.getD i5.toNat 0) < s4 then (l.getD i5.toNat 0) else s4)) (k := fun i5 (s4 : Int) => some s4)
    (fun s ⟨h1, h2⟩ => ⟨s, rfl, h1, h2⟩) (fun i s c hi ⟨h1, j, hj, e⟩ hc => by
      refine hc _ ?_
      rw [Int.toNat_natCast]
      by_cases hg : l.getD i 0 < s
      · rw [if_pos hg]
        refine ⟨fun k hk => ?_, i, by omega, rfl⟩
        by_cases hki : k = i
        · rw [hki]; exact Int.le_refl _
        · have := h1 k (by omega); omega
      · rw [if_neg hg]
        refine ⟨fun k hk => ?_, j, by omega, e⟩
        by_cases hki : k = i
        · rw [hki]; omega
        · exact h1 k (by omega)) (l.length - 1) 1 (l.getD 0 0) (by omega) ⟨fun k hk => (show k = 0 by omega) ▸ Int.le_refl _, 0, by omega, rfl⟩
  have e : Int.toNat ((l.length : Int) - 1) = l.length - 1 := by omega
  rw [e]
  exact this
theorem same_ok (l : List Int) (h : 1 ≤ l.length) : p_impl_areSame l = some (decide (∀ i, i < l.length → l.getD i 0 = l.getD 0 0)) := by
  unfold p_impl_areSame
  obtain ⟨M, e1, h1, i, hi, ei⟩ := max_ok l h
  obtain ⟨m, e2, h2, j, hj, ej⟩ := min_ok l h
  rw [e1, Option.bind_some, e2, Option.bind_some]
  congr 1
  by_cases hall : ∀ i, i < l.length → l.getD i 0 = l.getD 0 0
  · have e3 := hall i hi
    have e4 := hall j hj
    rw [decide_eq_true hall, decide_eq_true (by omega)]
  · rw [decide_eq_false hall, decide_eq_false]
    intro e
    refine hall (fun k hk => ?_)
    have a1 := h1 k hk
    have a2 := h2 k hk
    have a3 := h1 0 (by omega)
    have a4 := h2 0 (by omega)
    omega
/-- a loop that is left at the first element that is another one -/
theorem all_loop {R : Type} (b : Nat → Bool) (r t : R) (n : Nat) : ∀ (d i : Nat), d + i = n → cnt (fun i6 (s5 : Unit) c7 _ => if b i6.toNat = true then c7 () else r) (fun _ _ => t) d (i : Int) () = if ∀ j, j < n → i ≤ j → b j = true then t else r
  | 0, i, h => by
    simp only [cnt]
    rw [if_pos (fun j h1 h2 => by omega)]
  | d + 1, i, h => by
    simp only [cnt, Int.toNat_natCast]
    rw [show (i : Int) + 1 = ((i + 1 : Nat) : Int) from rfl, all_loop b r t n d (i + 1) (by omega)]
    by_cases hb : b i = true
    · rw [if_pos hb]
      by_cases hall : ∀ j, j < n → i + 1 ≤ j → b j = true
      · rw [if_pos hall, if_pos (fun j h1 h2 => by
          by_cases e : j = i
          · rw [e]; exact hb
          · exact hall j h1 (by omega))]
      · rw [if_neg hall, if_neg (fun hh => hall (fun j h1 h2 => hh j h1 (by omega)))]
    · rw [if_neg hb, if_neg (fun hh => hb (hh i (by omega) (Nat.le_refl _)))]
theorem wsum_ways {L N : Nat} {out : List Int} (h : Ways L N out) (hN : N ≤ 100000) : ∃ S : Nat, wsum 0 out = (S : Int) ∧ S ≤ N ∧ ∀ (P : Nat), P ≤ 100000 → out.foldl (fun s v => IntKind.wrap .i64 (s - v)) (P : Int) = (P : Int) - (S : Int) := by
  obtain ⟨_, l, rfl, hs⟩ := h
  refine ⟨l.sum, ?_, hs, ?_⟩
  · have key : ∀ (l : List Nat) (m : Nat), m + l.sum ≤ 1000000 → wsum (m : Int) (l.map (fun n => ((n : Nat) : Int))) = ((m + l.sum : Nat) : Int) := by
      intro l
      induction l with
      | nil => intro m _; simp [wsum]
      | cons a l ih =>
        intro m hm
        simp only [List.sum_cons] at hm
        have := ih (m + a) (by omega)
        simp only [wsum, List.map_cons, List.foldl_cons] at this ⊢
        rw [wrap_i64 (by omega) (by omega), show (m : Int) + (a : Int) = ((m + a : Nat) : Int) from rfl, this]
        simp; omega
    have := key l 0 (by omega)
    simpa using this
  · intro P hP
    have key : ∀ (l : List Nat) (x : Int), -1000000 ≤ x - (l.sum : Int) → x ≤ 1000000 → (l.map (fun n => ((n : Nat) : Int))).foldl (fun s v => IntKind.wrap .i64 (s - v)) x = x - ((l.sum : Nat) : Int) := by
      intro l
      induction l with
      | nil => intro x _ _; simp
      | cons a l ih =>
        intro x h1 h2
        simp only [List.sum_cons] at h1
        simp only [List.map_cons, List.foldl_cons, List.sum_cons]
        rw [wrap_i64 (by omega) (by omega), ih (x - (a : Int)) (by omega) (by omega)]
        omega
    exact key l P (by omega) (by omega)
theorem ties_eq {p : List (List Int)} {fu : Nat} (hF : Fuel fu) (h1 : 1 ≤ p.length) (h4 : p.length ≤ 4) {out : List Int} (hw : Ways (ordL p.length).length (6 ^ p.length) out) (e1 : p_impl_orderWays fu p = some out) : ∃ t : Int, p_spec_l10Ties fu p out = some t ∧ p_impl_ties fu p = some t := by
  have hb := hF.big
  have h64 : 6 ^ p.length ≤ 6 ^ 4 := Nat.pow_le_pow_right (by omega) h4
  have e64 : (6 : Nat) ^ 4 = 1296 := by decide
  obtain ⟨S, s1, s2, s3⟩ := wsum_ways hw (by omega)
  refine ⟨((6 ^ p.length : Nat) : Int) - (S : Int), ?_, ?_⟩
  · unfold p_spec_l10Ties
    rw [all_power, power_eq p.length (by omega) (by omega), Option.bind_some, cnt_list (fun v s c => c (IntKind.wrap .i64 (s - v))) out 0 (by omega) (fun i s c h0 h1 => rfl), lrun_fold (fun v s => IntKind.wrap .i64 (s - v)), s3 _ (by omega)]
  · unfold p_impl_ties
    rw [power_eq p.length (by omega) (by omega), Option.bind_some, e1, Option.bind_some, total_eq, s1, wrap_i64 (by omega) (by omega)]
theorem key_IsOrderFair {p : List (List Int)} {fu : Nat} (hF : Fuel fu) (hp : Six p) : ∃ (v q : Bool), p_spec_IsOrderFair fu p = some (v, q) ∧ p_impl_IsOrderFair fu p = some (v, q) := by
  unfold p_spec_IsOrderFair p_impl_IsOrderFair
  rw [pool_eq hp, Option.bind_some]
  cases hd : p_impl_IsPool p with
  | false => exact ⟨false, false, rfl, rfl⟩
  | true =>
    obtain ⟨g1, g4⟩ := pool_len hd
    obtain ⟨out, hw, e1, e2⟩ := ways_both hF g1 g4
    obtain ⟨t, t1, t2⟩ := ties_eq hF g1 g4 hw e1
    obtain ⟨_, _, hl1⟩ := ord_nodup p.length g1 g4
    have hol := hw.len
    rw [if_pos rfl, if_pos rfl, e2, Option.bind_some, t2, Option.bind_some, e1]
    have hs := same_ok out (by omega)
    have hloop : cnt (fun i6 (s5 : Unit) c7 _ => (if (out.getD i6.toNat 0) = (out.getD 0 0) then c7 () else some (false, true))) (fun i6 (s5 : Unit) => (p_spec_l10Ties fu p out).bind (fun r15 => some ((decide (r15 = 0)), true))) (Int.toNat ((out.length : Int) - 0)) 0 () = if ∀ j, j < out.length → 0 ≤ j → decide (out.getD j 0 = out.getD 0 0) = true then some (decide (t = 0), true) else some (false, true) := by
      have := all_loop (fun j => decide (out.getD j 0 = out.getD 0 0)) (some (false, true)) (some (decide (t = 0), true)) out.length out.length 0 (by omega)
      rw [← this, t1, Option.bind_some]
      have el : Int.toNat ((out.length : Int) - 0) = out.length := by omega
      rw [el]
      refine cnt_cong20 out.length (fun _ _ => True) rfl trivial (fun _ _ => rfl) (fun i s c c' hi _ hc => ?_)
      by_cases e : (out.getD (i : Int).toNat 0) = (out.getD 0 0)
      · rw [if_pos e, if_pos (decide_eq_true e)]; exact hc _ trivial
      · rw [if_neg e, if_neg (by simpa using e)]
    rw [hloop, Option.bind_some, hs, Option.bind_some]
    by_cases hall : ∀ i, i < out.length → out.getD i 0 = out.getD 0 0
    · refine ⟨decide (t = 0), true, ?_, ?_⟩
      · rw [if_pos (fun j hj _ => decide_eq_true (hall j hj))]
      · by_cases ht : t = 0
        · rw [if_pos ht, decide_eq_true hall, decide_eq_true ht]
        · rw [if_neg ht, decide_eq_false ht]
    · refine ⟨false, true, ?_, ?_⟩
      · rw [if_neg (fun hh => hall (fun i hi => of_decide_eq_true (hh i hi (Nat.zero_le _))))]
      · rw [decide_eq_false hall]; split <;> rfl

/-! ### One place -/
/-- the ways of a player at a place -/
def atV (fu n : Nat) (out : List Int) (place : Int) (j : Nat) : Int := (p_spec_l10At fu (n : Int) out (j : Int) place).getD 0
theorem fairAt_eq {p : List (List Int)} {fu : Nat} (hF : Fuel fu) (h1 : 1 ≤ p.length) (h4 : p.length ≤ 4) {out : List Int} (hw : Ways (ordL p.length).length (6 ^ p.length) out) (e1 : p_impl_orderWays fu p = some out) {place : Int} (h0 : 0 ≤ place) (hp4 : place < 4) :
    p_impl_isFairAt fu p place = some (decide (∀ j, j < p.length → atV fu p.length out place j = atV fu p.length out place 0)) := by
  have hat : ∀ j : Nat, p_spec_l10At fu (p.length : Int) out (j : Int) place = some (atV fu p.length out place j) ∧ p_impl_waysAt fu p (j : Int) place = some (atV fu p.length out place j) := fun j => by
    obtain ⟨v, v1, v2⟩ := waysAt_eq hF h1 h4 hw e1 (player := (j : Int)) h0 hp4
    have : atV fu p.length out place j = v := by unfold atV; rw [v1]; rfl
    rw [this]; exact ⟨v1, v2⟩
  have hlist : ∀ n, ((List.range n).map (atV fu p.length out place)).length = n := fun n => by simp
  unfold p_impl_isFairAt
  refine cnt_ind0 p.length (fun i s => s = (List.range i).map (atV fu p.length out place)) (fun z => z = some (decide (∀ j, j < p.length → atV fu p.length out place j = atV fu p.length out place 0))) (by omega) rfl (fun s e => ?_) (fun i s c hi e hk => ?_)
  · subst e
    rw [same_ok _ (by rw [hlist]; omega), Option.bind_some, hlist]
    have hg : ∀ j, j < p.length → ((List.range p.length).map (atV fu p.length out place)).getD j 0 = atV fu p.length out place j := fun j hj => by
      rw [List.getD_eq_getElem?_getD, List.getElem?_eq_getElem (by rw [hlist]; exact hj)]; simp
    congr 1
    have hiff : (∀ i, i < p.length → ((List.range p.length).map (atV fu p.length out place)).getD i 0 = ((List.range p.length).map (atV fu p.length out place)).getD 0 0) ↔ (∀ j, j < p.length → atV fu p.length out place j = atV fu p.length out place 0) := by
      constructor
      · intro h j hj; have := h j hj; rwa [hg j hj, hg 0 (by omega)] at this
      · intro h j hj; rw [hg j hj, hg 0 (by omega)]; exact h j hj
    by_cases hh : ∀ j, j < p.length → atV fu p.length out place j = atV fu p.length out place 0
    · rw [decide_eq_true hh, decide_eq_true (hiff.2 hh)]
    · rw [decide_eq_false hh, decide_eq_false (fun h => hh (hiff.1 h))]
  · subst e
    rw [(hat i).2, Option.bind_some, if_pos (by rw [hlist]; omega)]
    refine hk _ ?_
    rw [List.range_succ, List.map_append]; rfl
theorem key_IsFirstFair {p : List (List Int)} {fu : Nat} (hF : Fuel fu) (hp : Six p) : ∃ (v q : Bool), p_spec_IsFirstFair fu p = some (v, q) ∧ p_impl_IsFirstFair fu p = some (v, q) := by
  unfold p_spec_IsFirstFair p_impl_IsFirstFair
  rw [pool_eq hp, Option.bind_some]
  cases hd : p_impl_IsPool p with
  | false => exact ⟨false, false, rfl, rfl⟩
  | true =>
    obtain ⟨g1, g4⟩ := pool_len hd
    obtain ⟨out, hw, e1, e2⟩ := ways_both hF g1 g4
    rw [if_pos rfl, if_pos rfl, e2, Option.bind_some, fairAt_eq hF g1 g4 hw e1 (place := 0) (by omega) (by omega), Option.bind_some]
    have hat : ∀ j : Nat, p_spec_l10At fu (p.length : Int) out (j : Int) 0 = some (atV fu p.length out 0 j) := fun j => by
      obtain ⟨v, v1, v2⟩ := waysAt_eq hF g1 g4 hw e1 (player := (j : Int)) (place := 0) (by omega) (by omega)
      have : atV fu p.length out 0 j = v := by unfold atV; rw [v1]; rfl
      rw [this]; exact v1
    have hloop : cnt (fun i6 (s5 : Unit) c7 _ => (p_spec_l10At fu (p.length : Int) out i6 0).bind (fun r12 => (p_spec_l10At fu (p.length : Int) out 0 0).bind (fun r13 => (if r12 = r13 then c7 () else some (false, true))))) (fun i6 (s5 : Unit) => some (true, true)) (Int.toNat ((p.length : Int) - 1)) 1 () = if ∀ j, j < p.length → 1 ≤ j → decide (atV fu p.length out 0 j = atV fu p.length out 0 0) = true then some (true, true) else some (false, true) := by
      have := all_loop (fun j => decide (atV fu p.length out 0 j = atV fu p.length out 0 0)) (some (false, true)) (some (true, true)) p.length (p.length - 1) 1 (by omega)
      rw [← this]
      have el : Int.toNat ((p.length : Int) - 1) = p.length - 1 := by omega
      rw [el]
      refine cnt_cong2 p.length (fun _ _ => True) (fun _ _ => rfl) (fun i s c c' hi _ hc => ?_) (p.length - 1) 1 () (by omega) trivial
      have h00 := hat 0
      rw [hat i, Option.bind_some]
      have h00' : p_spec_l10At fu (p.length : Int) out 0 0 = some (atV fu p.length out 0 0) := h00
      rw [h00', Option.bind_some, Int.toNat_natCast]
      by_cases e : atV fu p.length out 0 i = atV fu p.length out 0 0
      · rw [if_pos e, if_pos (decide_eq_true e)]; exact hc _ trivial
      · rw [if_neg e, if_neg (by simpa using e)]
    rw [hloop]
    by_cases hall : ∀ j, j < p.length → atV fu p.length out 0 j = atV fu p.length out 0 0
    · refine ⟨true, true, ?_, ?_⟩
      · rw [if_pos (fun j hj _ => decide_eq_true (hall j hj))]
      · rw [decide_eq_true hall]
    · refine ⟨false, true, ?_, ?_⟩
      · rw [if_neg (fun hh => hall (fun j hj => by
          by_cases e : j = 0
          · rw [e]
          · exact of_decide_eq_true (hh j hj (by omega))))]
      · rw [decide_eq_false hall]

end Go.GA.E
