/- The ways of all orders: both texts alike. -/
import Derived.Test.YtnomfaepgmbogaaMKc
namespace Go.GA.E
open Go
set_option maxRecDepth 100000
set_option linter.unusedVariables false
set_option linter.unusedSimpArgs false
theorem pow_run (m n : Nat) (hm : m ≤ 6) (hn : n ≤ 1000) : ∀ (k i c fu : Nat), i + k = n → k < fu → c * 6 ^ k ≤ 6 ^ 24 →
    whl (fun (s1 : Int × Int) c3 => (if s1.2 < (n : Int) then c3 ((IntKind.wrap .i64 (s1.1 * (m : Int))), (IntKind.wrap .i64 (s1.2 + 1))) else some s1.1)) fu ((c : Int), (i : Int)) = some ((c * m ^ k : Nat) : Int)
  | 0, i, c, fu, h, hf, _ => by
    obtain ⟨f, rfl⟩ : ∃ f, fu = f + 1 := ⟨fu - 1, by omega⟩
    simp only [whl]
    rw [if_neg (by omega)]
    simp
  | k + 1, i, c, fu, h, hf, hb => by
    obtain ⟨f, rfl⟩ : ∃ f, fu = f + 1 := ⟨fu - 1, by omega⟩
    have e1 : c * 6 * 6 ^ k ≤ 6 ^ 24 := by rw [Nat.mul_assoc, ← Nat.pow_succ']; exact hb
    have e2 : c * m * 6 ^ k ≤ 6 ^ 24 := Nat.le_trans (Nat.mul_le_mul_right _ (Nat.mul_le_mul_left _ hm)) e1
    have e3 : c * m ≤ 6 ^ 24 := Nat.le_trans (Nat.le_mul_of_pos_right _ (Nat.pow_pos (by omega))) e2
    have e4 : (6 : Nat) ^ 24 = 4738381338321616896 := by decide
    simp only [whl]
    rw [if_pos (by omega), ← Int.natCast_mul, wrap_i64 (n := ((c * m : Nat) : Int)) (by omega) (by omega), wrap_i64 (by omega) (by omega)]
    have := pow_run m n hm hn k (i + 1) (c * m) f (by omega) (by omega) e2
    rw [show (i : Int) + 1 = ((i + 1 : Nat) : Int) from rfl, this, Nat.pow_succ', Nat.mul_assoc]
theorem power_eq {fu : Nat} (n : Nat) (hn : n ≤ 24) (hf : n < fu) : p_impl_power fu (n : Int) = some ((6 ^ n : Nat) : Int) := by
  unfold p_impl_power
  have := pow_run 6 n (Nat.le_refl _) (by omega) n 0 1 fu (by omega) hf (by rw [Nat.one_mul]; exact Nat.pow_le_pow_right (by omega) hn)
  simpa using this
theorem all_power (fu : Nat) (n : Int) : p_spec_l2All fu n = p_impl_power fu n := rfl
structure Fuel (fu : Nat) : Prop where
  big : 1999 < fu
  ord : ∀ n : Nat, 1 ≤ n → n ≤ 4 → p_impl_orders fu (n : Int) = some (ordL n) ∧ p_spec_l10Orders fu (n : Int) = some (ordL n)
theorem roll_run (p : List (List Int)) : ∀ (j rest fu' : Nat) (l : List Int), j < fu' → rest ≤ 1000000 → l.length = p.length → ∃ r, whl (fun (s2 : Int × Int × (List Int)) c4 => (if 0 ≤ s2.2.1 then if 0 ≤ (s2.1.tmod 6) then if (s2.1.tmod 6) < 6 then c4 ((IntKind.wrap .i64 (s2.1.tdiv 6)), (s2.2.1 - 1), (s2.2.2.set s2.2.1.toNat ((p.getD s2.2.1.toNat (List.replicate 6 0)).getD (s2.1.tmod 6).toNat 0))) else none else none else some s2.2.2)) fu' ((rest : Int), (j : Int) - 1, l) = some r ∧ r.length = p.length
  | 0, rest, fu', l, hf, hr, hl => by
    obtain ⟨f, rfl⟩ : ∃ f, fu' = f + 1 := ⟨fu' - 1, by omega⟩
    exact ⟨l, by simp only [whl]; rw [if_neg (by omega)], hl⟩
  | j + 1, rest, fu', l, hf, hr, hl => by
    obtain ⟨f, rfl⟩ : ∃ f, fu' = f + 1 := ⟨fu' - 1, by omega⟩
    have e1 : (rest : Int).tmod 6 = ((rest % 6 : Nat) : Int) := rfl
    have e2 : (rest : Int).tdiv 6 = ((rest / 6 : Nat) : Int) := rfl
    have hm : rest % 6 < 6 := Nat.mod_lt _ (by omega)
    have hd : rest / 6 ≤ rest := Nat.div_le_self _ _
    obtain ⟨r, h1, h2⟩ := roll_run p j (rest / 6) f (l.set j ((p.getD j (List.replicate 6 0)).getD (rest % 6) 0)) (by omega) (by omega) (by rw [List.length_set]; exact hl)
    refine ⟨r, ?_, h2⟩
    simp only [whl]
    rw [if_pos (by omega), e1, if_pos (by omega), if_pos (by omega), e2, wrap_nat (by omega), show (((j + 1 : Nat) : Int) - 1).toNat = j by omega, show (((j + 1 : Nat) : Int) - 1 - 1) = (j : Int) - 1 by omega]
    exact h1
theorem roll_some {p : List (List Int)} {k fu : Nat} (h4 : p.length ≤ 4) (hk : k ≤ 100000) (hf : 1999 < fu) : ∃ r, p_impl_rollAt fu p (k : Int) = some r ∧ p_spec_l2Roll fu p (k : Int) = some r ∧ r.length = p.length := by
  have e : p_spec_l2Roll fu p (k : Int) = p_impl_rollAt fu p (k : Int) := rfl
  rw [e]
  unfold p_impl_rollAt
  rw [if_pos (by omega)]
  obtain ⟨r, h1, h2⟩ := roll_run p p.length k fu (List.replicate (p.length : Int).toNat 0) (by omega) (by omega) (by simp)
  exact ⟨r, h1, h1, h2⟩
/-! ### Where an order stands -/
def oM (n : Nat) : List (List Int) := (ordL n).map (·.1)
theorem oM_get {n i : Nat} (hi : i < (ordL n).length) : ((ordL n).getD i ((List.replicate 4 0), ())).1 = (oM n).getD i [] := by
  unfold oM
  rw [List.getD_eq_getElem?_getD, List.getD_eq_getElem?_getD, List.getElem?_map, List.getElem?_eq_getElem hi]; rfl
theorem oM_len (n : Nat) : (oM n).length = (ordL n).length := by simp [oM]
theorem idx_spec {M : List (List Int)} (hn : M.Nodup) {o : List Int} (ho : o ∈ M) : M.idxOf o < M.length ∧ ∀ i, i < M.length → (M.getD i [] = o ↔ i = M.idxOf o) := by
  have h1 := List.idxOf_lt_length_iff.2 ho
  have h2 := List.getElem_idxOf h1
  refine ⟨h1, fun i hi => ?_⟩
  rw [List.getD_eq_getElem?_getD, List.getElem?_eq_getElem hi]
  constructor
  · intro h
    have h3 : M[i] = M[M.idxOf o] := by rw [h2]; simpa using h
    exact (List.getElem_inj hn).1 h3
  · intro h
    subst h
    simp
theorem index_ord {n : Nat} (hn : (oM n).Nodup) {o : List Int} (ho : o ∈ oM n) : p_slices_Index_impl_Order_impl_Order (ordL n) (o, ()) = ((oM n).idxOf o : Int) := by
  obtain ⟨h1, h2⟩ := idx_spec hn ho
  rw [oM_len] at h1
  unfold p_slices_Index_impl_Order_impl_Order
  have key : ∀ (d i : Nat), d + i = (ordL n).length → i ≤ (oM n).idxOf o → cnt (fun i2 (s1 : Unit) c3 _ => (if o = ((ordL n).getD i2.toNat ((List.replicate 4 0), ())).1 then i2 else c3 ())) (fun i2 (s1 : Unit) => (-1)) d (i : Int) () = ((oM n).idxOf o : Int) := by
    intro d
    induction d with
    | zero => intro i h hi; omega
    | succ d ih =>
      intro i h hi
      simp only [cnt, Int.toNat_natCast]
      rw [oM_get (by omega)]
      by_cases e : i = (oM n).idxOf o
      · rw [if_pos ((h2 i (by rw [oM_len]; omega)).2 e).symm, e]
      · rw [if_neg (fun h' => e ((h2 i (by rw [oM_len]; omega)).1 h'.symm)), show (i : Int) + 1 = ((i + 1 : Nat) : Int) from rfl]
        exact ih (i + 1) (by omega) (by omega)
  have := key (ordL n).length 0 (by omega) (by omega)
  simpa using this
/-- one more at a place -/
def bumpAt (s : List Int) (j : Nat) : List Int := s.set j (IntKind.wrap .i64 (s.getD j 0 + 1))
theorem one_hit {R : Type} {cond : Nat → Bool} {n j : Nat} (hj : j < n) (hc : ∀ i, i < n → (cond i = true ↔ i = j)) (K : List Int → R) : ∀ (d i : Nat) (s : List Int), d + i = n →
    cnt (fun i16 (s15 : List Int) c17 _ => (if cond i16.toNat = true then c17 (s15.set i16.toNat (IntKind.wrap .i64 ((s15.getD i16.toNat 0) + 1))) else c17 s15)) (fun _ s => K s) d (i : Int) s = K (if i ≤ j then bumpAt s j else s)
  | 0, i, s, h => by
    simp only [cnt]
    rw [if_neg (by omega)]
  | d + 1, i, s, h => by
    simp only [cnt, Int.toNat_natCast]
    rw [show (i : Int) + 1 = ((i + 1 : Nat) : Int) from rfl]
    by_cases e : i = j
    · rw [if_pos ((hc i (by omega)).2 e), one_hit hj hc K d (i + 1) _ (by omega), if_neg (by omega), if_pos (by omega), e]; rfl
    · rw [if_neg (fun h' => e ((hc i (by omega)).1 h')), one_hit hj hc K d (i + 1) s (by omega)]
      by_cases h2 : i ≤ j
      · rw [if_pos h2, if_pos (by omega)]
      · rw [if_neg h2, if_neg (by omega)]
theorem no_hit {R : Type} {cond : Nat → Bool} {n : Nat} (hc : ∀ i, i < n → cond i = false) (K : List Int → R) : ∀ (d i : Nat) (s : List Int), d + i = n →
    cnt (fun i16 (s15 : List Int) c17 _ => (if cond i16.toNat = true then c17 (s15.set i16.toNat (IntKind.wrap .i64 ((s15.getD i16.toNat 0) + 1))) else c17 s15)) (fun _ s => K s) d (i : Int) s = K s
  | 0, i, s, h => rfl
  | d + 1, i, s, h => by
    simp only [cnt, Int.toNat_natCast]
    rw [hc i (by omega), if_neg (by simp), show (i : Int) + 1 = ((i + 1 : Nat) : Int) from rfl]
    exact no_hit hc K d (i + 1) s (by omega)
/-- counts: numbers that add up -/
structure Ways (L N : Nat) (out : List Int) : Prop where
  len : out.length = L
  nat : ∃ l : List Nat, out = l.map (fun n => ((n : Nat) : Int)) ∧ l.sum ≤ N
theorem bump_ways {L N j : Nat} {out : List Int} (h : Ways L N out) (hj : j < L) (hN : N ≤ 100000) : Ways L (N + 1) (bumpAt out j) := by
  obtain ⟨hl, l, rfl, hs⟩ := h
  have hll : l.length = L := by simpa using hl
  have hj' : j < l.length := by omega
  have hle : ∀ (l : List Nat) (j : Nat) (hj : j < l.length), l[j] ≤ l.sum ∧ (l.set j (l[j] + 1)).sum = l.sum + 1 := by
    intro l
    induction l with
    | nil => intro j hj; simp at hj
    | cons a l ih =>
      intro j hj
      cases j with
      | zero => simp; omega
      | succ j =>
        obtain ⟨h1, h2⟩ := ih j (by simpa using hj)
        simp only [List.getElem_cons_succ, List.sum_cons, List.set_cons_succ]
        omega
  obtain ⟨h1, h2⟩ := hle l j hj'
  have e : (l.map (fun n => ((n : Nat) : Int))).getD j 0 = ((l[j] : Nat) : Int) := by
    rw [List.getD_eq_getElem?_getD, List.getElem?_map, List.getElem?_eq_getElem hj']; rfl
  have e2 : bumpAt (l.map (fun n => ((n : Nat) : Int))) j = (l.set j (l[j] + 1)).map (fun n => ((n : Nat) : Int)) := by
    unfold bumpAt
    rw [e, wrap_i64 (by omega) (by omega), List.map_set]; rfl
  exact ⟨by rw [e2]; simpa using hll, _, e2, by omega⟩
theorem Ways.mono {L N M : Nat} {out : List Int} (h : Ways L N out) (hM : N ≤ M) : Ways L M out := ⟨h.len, let ⟨l, e, hs⟩ := h.nat; ⟨l, e, Nat.le_trans hs hM⟩⟩
/-- both texts go over all numbers alike -/
theorem ways_run {p : List (List Int)} {fu : Nat} (hF : Fuel fu) (h1 : 1 ≤ p.length) (h4 : p.length ≤ 4) : ∀ (d k fu' : Nat) (out : List Int), d + k = 6 ^ p.length → d < fu' → Ways (ordL p.length).length k out →
    ∃ out', Ways (ordL p.length).length (6 ^ p.length) out' ∧
      whl (fun (s5 : Int × (List Int)) c7 => (if s5.1 < ((6 ^ p.length : Nat) : Int) then (p_impl_rollAt fu p s5.1).bind (fun r12 => (p_impl_orderOf r12).bind (fun r14 => (if r14.2 = true then if 0 ≤ (p_slices_Index_impl_Order_impl_Order (ordL p.length) (r14.1.1, ())) then if (p_slices_Index_impl_Order_impl_Order (ordL p.length) (r14.1.1, ())) < ((ordL p.length).length : Int) then c7 ((IntKind.wrap .i64 (s5.1 + 1)), (s5.2.set (p_slices_Index_impl_Order_impl_Order (ordL p.length) (r14.1.1, ())).toNat (IntKind.wrap .i64 ((s5.2.getD (p_slices_Index_impl_Order_impl_Order (ordL p.length) (r14.1.1, ())).toNat 0) + 1)))) else none else none else c7 ((IntKind.wrap .i64 (s5.1 + 1)), s5.2)))) else some s5.2)) fu' ((k : Int), out) = some out' ∧
      whl (fun (s4 : Int × (List Int)) c6 => (p_spec_l2All fu (p.length : Int)).bind (fun r8 => (if s4.1 < r8 then (p_spec_l2Roll fu p s4.1).bind (fun r12 => (p_spec_l10Order r12).bind (fun r14 => cnt (fun i16 (s15 : (List Int)) c17 _ => (if (r14.2 && (decide (((ordL p.length).getD i16.toNat ((List.replicate 4 0), ())).1 = r14.1.1))) = true then c17 (s15.set i16.toNat (IntKind.wrap .i64 ((s15.getD i16.toNat 0) + 1))) else c17 s15)) (fun i16 (s15 : (List Int)) => c6 ((IntKind.wrap .i64 (s4.1 + 1)), s15)) (Int.toNat (((ordL p.length).length : Int) - 0)) 0 s4.2)) else some s4.2))) fu' ((k : Int), out) = some out' := by
  have hpw : p_spec_l2All fu (p.length : Int) = some ((6 ^ p.length : Nat) : Int) := by
    have := hF.big
    rw [all_power]; exact power_eq _ (by omega) (by omega)
  have h64 : 6 ^ p.length ≤ 6 ^ 4 := Nat.pow_le_pow_right (by omega) h4
  have e64 : (6 : Nat) ^ 4 = 1296 := by decide
  obtain ⟨hnd, _, _⟩ := ord_nodup p.length h1 h4
  generalize hP : 6 ^ p.length = P at *
  simp only [hpw]
  intro d
  induction d with
  | zero =>
    intro k fu' out h hf hw
    obtain ⟨f, rfl⟩ : ∃ f, fu' = f + 1 := ⟨fu' - 1, by omega⟩
    refine ⟨out, hw.mono (by omega), ?_, ?_⟩
    · simp only [whl]; rw [if_neg (by omega)]
    · simp only [whl]; rw [Option.bind_some, if_neg (by omega)]
  | succ d ih =>
    intro k fu' out h hf hw
    obtain ⟨f, rfl⟩ : ∃ f, fu' = f + 1 := ⟨fu' - 1, by omega⟩
    obtain ⟨r, hr1, hr2, hrl⟩ := roll_some (p := p) (k := k) (fu := fu) h4 (by omega) hF.big
    obtain ⟨o, b, ho1, ho2, hom⟩ := order_ok r (by omega) (by omega)
    have ew : IntKind.wrap .i64 ((k : Int) + 1) = ((k + 1 : Nat) : Int) := wrap_i64 (by omega) (by omega)
    simp only [whl]
    have hkP : (k : Int) < ((P : Nat) : Int) := by omega
    rw [if_pos hkP, hr1, Option.bind_some, ho1, Option.bind_some, Option.bind_some, if_pos hkP, hr2, Option.bind_some, ho2, Option.bind_some, ew]
    dsimp only
    cases b with
    | true =>
      have hmem : o.1 ∈ oM p.length := by have := hom rfl; rwa [hrl] at this
      obtain ⟨j1, j2⟩ := idx_spec (M := oM p.length) hnd hmem
      rw [oM_len] at j1 j2
      have hidx : p_slices_Index_impl_Order_impl_Order (ordL p.length) (o.1, ()) = ((oM p.length).idxOf o.1 : Int) := index_ord hnd hmem
      obtain ⟨j, hj⟩ : ∃ j, j = (oM p.length).idxOf o.1 := ⟨_, rfl⟩
      rw [← hj] at j1 hidx
      replace j2 : ∀ i, i < (ordL p.length).length → ((oM p.length).getD i [] = o.1 ↔ i = j) := fun i hi => by rw [hj]; exact j2 i hi
      have hw' := bump_ways hw j1 (by omega)
      obtain ⟨out', g1, g2, g3⟩ := ih (k + 1) f (bumpAt out j) (by omega) (by omega) hw'
      refine ⟨out', g1, ?_, ?_⟩
      · rw [if_pos rfl, hidx, if_pos (by omega), if_pos (by omega), Int.toNat_natCast]
        exact g2
      · have hit := one_hit (R := Option (List Int)) (cond := fun i => (true && decide (((ordL p.length).getD i ((List.replicate 4 0), ())).1 = o.1))) (n := (ordL p.length).length) (j := j) j1 (fun i hi => by
          rw [Bool.true_and, decide_eq_true_eq, oM_get hi]; exact j2 i hi) (fun s15 => whl (fun (s4 : Int × (List Int)) c6 => (some ((P : Nat) : Int)).bind (fun r8 => (if s4.1 < r8 then (p_spec_l2Roll fu p s4.1).bind (fun r12 => (p_spec_l10Order r12).bind (fun r14 => cnt (fun i16 (s15 : (List Int)) c17 _ => (if (r14.2 && (decide (((ordL p.length).getD i16.toNat ((List.replicate 4 0), ())).1 = r14.1.1))) = true then c17 (s15.set i16.toNat (IntKind.wrap .i64 ((s15.getD i16.toNat 0) + 1))) else c17 s15)) (fun i16 (s15 : (List Int)) => c6 ((IntKind.wrap .i64 (s4.1 + 1)), s15)) (Int.toNat (((ordL p.length).length : Int) - 0)) 0 s4.2)) else some s4.2))) f (((k + 1 : Nat) : Int), s15)) (ordL p.length).length 0 out (by omega)
        rw [if_pos (Nat.zero_le _), g3] at hit
        have el : Int.toNat (((ordL p.length).length : Int) - 0) = (ordL p.length).length := by omega
        rw [el]
        rw [el] at hit
        exact hit
    | false =>
      obtain ⟨out', g1, g2, g3⟩ := ih (k + 1) f out (by omega) (by omega) (hw.mono (by omega))
      refine ⟨out', g1, ?_, ?_⟩
      · rw [if_neg (by simp)]
        exact g2
      · have hit := no_hit (R := Option (List Int)) (cond := fun i => (false && decide (((ordL p.length).getD i ((List.replicate 4 0), ())).1 = o.1))) (n := (ordL p.length).length) (fun i hi => rfl) (fun s15 => whl (fun (s4 : Int × (List Int)) c6 => (some ((P : Nat) : Int)).bind (fun r8 => (if s4.1 < r8 then (p_spec_l2Roll fu p s4.1).bind (fun r12 => (p_spec_l10Order r12).bind (fun r14 => cnt (fun i16 (s15 : (List Int)) c17 _ => (if (r14.2 && (decide (((ordL p.length).getD i16.toNat ((List.replicate 4 0), ())).1 = r14.1.1))) = true then c17 (s15.set i16.toNat (IntKind.wrap .i64 ((s15.getD i16.toNat 0) + 1))) else c17 s15)) (fun i16 (s15 : (List Int)) => c6 ((IntKind.wrap .i64 (s4.1 + 1)), s15)) (Int.toNat (((ordL p.length).length : Int) - 0)) 0 s4.2)) else some s4.2))) f (((k + 1 : Nat) : Int), s15)) (ordL p.length).length 0 out (by omega)
        rw [g3] at hit
        have el : Int.toNat (((ordL p.length).length : Int) - 0) = (ordL p.length).length := by omega
        rw [el]
        rw [el] at hit
        exact hit
theorem ways_both {p : List (List Int)} {fu : Nat} (hF : Fuel fu) (h1 : 1 ≤ p.length) (h4 : p.length ≤ 4) : ∃ out, Ways (ordL p.length).length (6 ^ p.length) out ∧ p_impl_orderWays fu p = some out ∧ p_spec_l10Ways fu p = some out := by
  obtain ⟨o1, o2⟩ := hF.ord p.length h1 h4
  obtain ⟨_, h24, _⟩ := ord_nodup p.length h1 h4
  have hb := hF.big
  have h64 : 6 ^ p.length ≤ 6 ^ 4 := Nat.pow_le_pow_right (by omega) h4
  have e64 : (6 : Nat) ^ 4 = 1296 := by decide
  have hz : Ways (ordL p.length).length 0 (List.replicate ((ordL p.length).length : Int).toNat 0) := by
    refine ⟨by simp, List.replicate (ordL p.length).length 0, ?_, by simp⟩
    rw [List.map_replicate, show ((ordL p.length).length : Int).toNat = (ordL p.length).length by omega]; rfl
  obtain ⟨out', g1, g2, g3⟩ := ways_run (fu := fu) hF h1 h4 (6 ^ p.length) 0 fu _ (by omega) (by omega) hz
  refine ⟨out', g1, ?_, ?_⟩
  · unfold p_impl_orderWays
    rw [o1, Option.bind_some, if_pos (by omega), power_eq p.length (by omega) (by omega), Option.bind_some]
    exact g2
  · unfold p_spec_l10Ways
    rw [o2, Option.bind_some, if_pos (by omega)]
    exact g3
end Go.GA.E
