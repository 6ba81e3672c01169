/- Plain law of IsPlaceFair. -/
import Derived.Test.YtnomkjapifeedaaZKe
namespace Go.GA.E
open Go
set_option maxRecDepth 100000
set_option linter.unusedVariables false
set_option linter.unusedSimpArgs false
def sumTo (f : Nat → Nat) : Nat → Nat
  | 0 => 0
  | i + 1 => sumTo f i + f i
theorem sumTo_le {f g : Nat → Nat} : ∀ (i : Nat), (∀ j, j < i → f j ≤ g j) → sumTo f i ≤ sumTo g i
  | 0, _ => Nat.le_refl _
  | i + 1, h => Nat.add_le_add (sumTo_le i (fun j hj => h j (by omega))) (h i (by omega))
theorem sumTo_mono (f : Nat → Nat) {i : Nat} : ∀ (k : Nat), i ≤ k → sumTo f i ≤ sumTo f k
  | 0, h => by obtain rfl : i = 0 := by omega
               exact Nat.le_refl _
  | k + 1, h => by
    by_cases e : i = k + 1
    · rw [e]; exact Nat.le_refl _
    · exact Nat.le_trans (sumTo_mono f k (by omega)) (Nat.le_add_right _ _)
theorem sumTo_add {f g h : Nat → Nat} : ∀ (i : Nat), (∀ j, j < i → f j + g j = h j) → sumTo f i + sumTo g i = sumTo h i
  | 0, _ => rfl
  | i + 1, hh => by
    have h1 := sumTo_add i (fun j hj => hh j (by omega))
    have h2 := hh i (by omega)
    simp only [sumTo]; omega
theorem sumTo_const (a : Nat) : ∀ (n : Nat), sumTo (fun _ => a) n = n * a
  | 0 => by simp [sumTo]
  | n + 1 => by simp only [sumTo, sumTo_const a n, Nat.succ_mul]
theorem sumTo_congr {f g : Nat → Nat} (i : Nat) (h : ∀ j, j < i → f j = g j) : sumTo f i = sumTo g i :=
  Nat.le_antisymm (sumTo_le i (fun j hj => Nat.le_of_eq (h j hj))) (sumTo_le i (fun j hj => Nat.le_of_eq (h j hj).symm))
theorem sumTo_list (l : List Nat) : sumTo (fun i => l.getD i 0) l.length = l.sum := by
  have key : ∀ (l pre : List Nat), sumTo (fun i => (pre ++ l).getD i 0) (pre.length + l.length) = sumTo (fun i => (pre ++ l).getD i 0) pre.length + l.sum := by
    intro l
    induction l with
    | nil => intro pre; simp
    | cons a l ih =>
      intro pre
      have := ih (pre ++ [a])
      simp only [List.append_assoc, List.cons_append, List.nil_append, List.length_append, List.length_cons, List.length_nil] at this
      rw [show pre.length + (a :: l).length = pre.length + (0 + 1) + l.length by simp; omega, this]
      simp only [Nat.zero_add, sumTo, List.sum_cons]
      have : (pre ++ a :: l).getD pre.length 0 = a := by simp [List.getD_eq_getElem?_getD]
      rw [this]; omega
  have := key l []
  simpa [sumTo] using this
/-- the player at a place of the i-th order -/
def plAt (n q i : Nat) : Int := ((oM n).getD i []).getD q 0
theorem pl_ok (n : Nat) (h1 : 1 ≤ n) (h4 : n ≤ 4) : (oM n).all (fun o => (List.range n).all fun q => decide (0 ≤ o.getD q 0 ∧ o.getD q 0 < (n : Int))) = true := by
  have : n = 1 ∨ n = 2 ∨ n = 3 ∨ n = 4 := by omega
  rcases this with rfl | rfl | rfl | rfl <;> decide +kernel
theorem pl_range {n q i : Nat} (h1 : 1 ≤ n) (h4 : n ≤ 4) (hi : i < (ordL n).length) (hq : q < n) : 0 ≤ plAt n q i ∧ plAt n q i < (n : Int) := by
  have hi' : i < (oM n).length := by rw [oM_len]; exact hi
  have hm : (oM n).getD i [] ∈ oM n := by rw [List.getD_eq_getElem?_getD, List.getElem?_eq_getElem hi']; exact List.getElem_mem _
  have := List.all_eq_true.1 (List.all_eq_true.1 (pl_ok n h1 h4) _ hm) q (by simpa using hq)
  simpa [plAt] using this
/-- the ways of a player at a place, as a sum -/
def atN (n : Nat) (l : List Nat) (pl q : Nat) : Nat := sumTo (fun i => if plAt n q i = (pl : Int) then l.getD i 0 else 0) (ordL n).length
theorem at_sum {n q : Nat} (h1 : 1 ≤ n) (h4 : n ≤ 4) (hq : q < n) (l : List Nat) (hl : l.length = (ordL n).length) : sumTo (fun pl => atN n l pl q) n = l.sum := by
  have key : ∀ m : Nat, sumTo (fun pl => atN n l pl q) m = sumTo (fun i => if plAt n q i < (m : Int) then l.getD i 0 else 0) (ordL n).length := by
    intro m
    induction m with
    | zero =>
      have : sumTo (fun i => if plAt n q i < ((0 : Nat) : Int) then l.getD i 0 else 0) (ordL n).length = sumTo (fun _ => 0) (ordL n).length := sumTo_congr _ (fun j hj => by
        have := (pl_range h1 h4 hj hq).1
        rw [if_neg (by omega)])
      rw [this, sumTo_const]; simp [sumTo]
    | succ m ih =>
      simp only [sumTo]
      rw [ih]
      refine sumTo_add _ (fun j hj => ?_)
      by_cases e1 : plAt n q j < (m : Int)
      · rw [if_pos e1, if_neg (by omega), if_pos (by omega)]; omega
      · rw [if_neg e1]
        by_cases e2 : plAt n q j = (m : Int)
        · rw [if_pos e2, if_pos (by omega)]; omega
        · rw [if_neg e2, if_neg (by omega)]
  rw [key n, ← sumTo_list, hl]
  exact sumTo_congr _ (fun j hj => by rw [if_pos (pl_range h1 h4 hj hq).2])
theorem at_eq {fu n : Nat} {l : List Nat} {pl q : Nat} (o2 : p_spec_l10Orders fu (n : Int) = some (ordL n)) (hl : l.length = (ordL n).length) (hs : l.sum ≤ 100000) (hq : q < 4) :
    p_spec_l10At fu (n : Int) (l.map (fun n => ((n : Nat) : Int))) (pl : Int) (q : Int) = some ((atN n l pl q : Nat) : Int) := by
  unfold p_spec_l10At
  rw [o2, Option.bind_some]
  refine cnt_ind0 (ordL n).length (fun i s => s = ((sumTo (fun i => if plAt n q i = (pl : Int) then l.getD i 0 else 0) i : Nat) : Int)) (fun r => r = some ((atN n l pl q : Nat) : Int)) (by omega) rfl (fun s e => by rw [e]; rfl) (fun i s c hi e hc => ?_)
  subst e
  rw [if_pos (by omega), if_pos (by omega), Int.toNat_natCast, Int.toNat_natCast, oM_get hi]
  have hb : sumTo (fun i => if plAt n q i = (pl : Int) then l.getD i 0 else 0) (i + 1) ≤ l.sum := by
    rw [← sumTo_list l]
    exact Nat.le_trans (sumTo_mono _ _ (by omega : i + 1 ≤ l.length)) (sumTo_le _ (fun j hj => by split <;> omega))
  have hg : (l.map (fun n => ((n : Nat) : Int))).getD i 0 = ((l.getD i 0 : Nat) : Int) := by
    rw [List.getD_eq_getElem?_getD, List.getElem?_map, List.getD_eq_getElem?_getD, List.getElem?_eq_getElem (by omega : i < l.length)]; rfl
  by_cases e : ((oM n).getD i []).getD q 0 = (pl : Int)
  · rw [if_pos e, if_pos (by simp; omega), hg]
    refine hc _ ?_
    have e' : plAt n q i = (pl : Int) := e
    simp only [sumTo, if_pos e'] at hb ⊢
    rw [← Int.natCast_add]
    exact wrap_nat (by omega)
  · rw [if_neg e]
    refine hc _ ?_
    have e' : ¬ plAt n q i = (pl : Int) := e
    simp only [sumTo, if_neg e', Nat.add_zero]
theorem key_IsPlaceFair {p : List (List Int)} {fu : Nat} (hF : Fuel fu) (hp : Six p) : ∃ (v q : Bool), p_spec_IsPlaceFair fu p = some (v, q) ∧ p_impl_IsPlaceFair fu p = some (v, q) := by
  unfold p_spec_IsPlaceFair p_impl_IsPlaceFair
  rw [pool_eq hp, Option.bind_some]
  cases hd : p_impl_IsPool p with
  | false => exact ⟨false, false, rfl, rfl⟩
  | true =>
    obtain ⟨g1, g4⟩ := pool_len hd
    obtain ⟨out, hw, e1, e2⟩ := ways_both hF g1 g4
    obtain ⟨t, t1, t2⟩ := ties_eq hF g1 g4 hw e1
    obtain ⟨o1, o2⟩ := hF.ord p.length g1 g4
    have hb := hF.big
    have h64 : 6 ^ p.length ≤ 6 ^ 4 := Nat.pow_le_pow_right (by omega) g4
    have e64 : (6 : Nat) ^ 4 = 1296 := by decide
    have hpw : p_spec_l2All fu (p.length : Int) = some ((6 ^ p.length : Nat) : Int) := by
      rw [all_power]; exact power_eq _ (by omega) (by omega)
    have hfair := fun (q : Nat) (hq : q < p.length) => fairAt_eq hF g1 g4 hw e1 (place := (q : Int)) (by omega) (by omega)
    obtain ⟨hlen, l, rfl, hs⟩ := hw
    have hll : l.length = (ordL p.length).length := by simpa using hlen
    have hat : ∀ pl q : Nat, q < p.length → p_spec_l10At fu (p.length : Int) (l.map (fun n => ((n : Nat) : Int))) (pl : Int) (q : Int) = some ((atN p.length l pl q : Nat) : Int) := fun pl q hq => at_eq o2 hll (by omega) (by omega)
    have hatV : ∀ pl q : Nat, q < p.length → atV fu p.length (l.map (fun n => ((n : Nat) : Int))) (q : Int) pl = ((atN p.length l pl q : Nat) : Int) := fun pl q hq => by
      unfold atV; rw [hat pl q hq]; rfl
    have hsum : ∀ q, q < p.length → sumTo (fun pl => atN p.length l pl q) p.length = l.sum := fun q hq => at_sum g1 g4 hq l hll
    have ht : t = ((6 ^ p.length : Nat) : Int) - (l.sum : Int) := by
      unfold p_spec_l10Ties at t1
      obtain ⟨S, s1, s2, s3⟩ := wsum_ways (L := (ordL p.length).length) (N := 6 ^ p.length) (out := l.map (fun n => ((n : Nat) : Int))) ⟨by simpa using hlen, l, rfl, hs⟩ (by omega)
      rw [hpw, Option.bind_some, cnt_list (fun v s c => c (IntKind.wrap .i64 (s - v))) (l.map (fun n => ((n : Nat) : Int))) 0 (by omega) (fun i s c h0 h1 => rfl), lrun_fold (fun v s => IntKind.wrap .i64 (s - v)), s3 _ (by omega)] at t1
      have hS : S = l.sum := by
        have key : ∀ (l : List Nat) (m : Nat), m + l.sum ≤ 1000000 → wsum (m : Int) (l.map (fun n => ((n : Nat) : Int))) = ((m + l.sum : Nat) : Int) := by
          intro l
          induction l with
          | nil => intro m _; simp [wsum]
          | cons a l ih =>
            intro m hm
            simp only [List.sum_cons] at hm
            have := ih (m + a) (by omega)
            simp only [wsum, List.map_cons, List.foldl_cons] at this ⊢
            rw [wrap_i64 (by omega) (by omega), show (m : Int) + (a : Int) = ((m + a : Nat) : Int) from rfl, this]
            simp; omega
        have k0 := key l 0 (by omega)
        simp only [Int.natCast_zero, Nat.zero_add] at k0
        rw [k0] at s1; omega
      rw [hS] at t1
      exact (Option.some.inj t1).symm
    rw [if_pos rfl, if_pos rfl, e2, Option.bind_some]
    -- the reference
    have hspec : cnt (fun i6 (s5 : Unit) c7 _ => cnt (fun i13 (s12 : Unit) c14 _ => (p_spec_l10At fu (p.length : Int) (l.map (fun n => ((n : Nat) : Int))) i6 i13).bind (fun r19 => (p_spec_l2All fu (p.length : Int)).bind (fun r20 => (if (IntKind.wrap .i64 (r19 * (p.length : Int))) = r20 then c14 () else some (false, true))))) (fun i13 (s12 : Unit) => c7 ()) (Int.toNat ((p.length : Int) - 0)) 0 ()) (fun i6 (s5 : Unit) => some (true, true)) (Int.toNat ((p.length : Int) - 0)) 0 () = if ∀ j, j < p.length → 0 ≤ j → decide (∀ q, q < p.length → 0 ≤ q → decide (atN p.length l j q * p.length = 6 ^ p.length) = true) = true then some (true, true) else some (false, true) := by
      have := all_loop (fun j => decide (∀ q, q < p.length → 0 ≤ q → decide (atN p.length l j q * p.length = 6 ^ p.length) = true)) (some (false, true)) (some (true, true)) p.length p.length 0 (by omega)
      rw [← this]
      have el : Int.toNat ((p.length : Int) - 0) = p.length := by omega
      rw [el]
      refine cnt_cong20 p.length (fun _ _ => True) rfl trivial (fun _ _ => rfl) (fun i s c c' hi _ hc => ?_)
      have inner := all_loop (fun q => decide (atN p.length l i q * p.length = 6 ^ p.length)) (some (false, true)) (c ()) p.length p.length 0 (by omega)
      have hin : cnt (fun i13 (s12 : Unit) c14 _ => (p_spec_l10At fu (p.length : Int) (l.map (fun n => ((n : Nat) : Int))) (i : Int) i13).bind (fun r19 => (p_spec_l2All fu (p.length : Int)).bind (fun r20 => (if (IntKind.wrap .i64 (r19 * (p.length : Int))) = r20 then c14 () else some (false, true))))) (fun i13 (s12 : Unit) => c ()) p.length 0 () = cnt (fun i6 (s5 : Unit) c7 _ => if (fun q => decide (atN p.length l i q * p.length = 6 ^ p.length)) i6.toNat = true then c7 () else some (false, true)) (fun _ _ => c ()) p.length ((0 : Nat) : Int) () := by
        refine cnt_cong20 p.length (fun _ _ => True) rfl trivial (fun _ _ => rfl) (fun q s d d' hq _ hd => ?_)
        rw [hat i q hq, Option.bind_some, hpw, Option.bind_some, Int.toNat_natCast]
        have hAb : atN p.length l i q ≤ l.sum := by
          rw [← sumTo_list l, hll]
          exact sumTo_le _ (fun j hj => by split <;> omega)
        have hAn : atN p.length l i q * p.length ≤ 1296 * 4 := Nat.mul_le_mul (by omega) g4
        rw [← Int.natCast_mul, wrap_nat (by omega)]
        by_cases e : atN p.length l i q * p.length = 6 ^ p.length
        · rw [if_pos (by omega), if_pos (decide_eq_true e)]; exact hd _ trivial
        · rw [if_neg (by omega), if_neg (by simpa using e)]
      rw [hin, inner, Int.toNat_natCast]
      by_cases e : ∀ q, q < p.length → 0 ≤ q → decide (atN p.length l i q * p.length = 6 ^ p.length) = true
      · rw [if_pos e, if_pos (decide_eq_true e)]; exact hc _ trivial
      · rw [if_neg e, if_neg (by rw [decide_eq_false e]; simp)]
    -- the program
    have himpl : cnt (fun i3 (s2 : Unit) c4 _ => (p_impl_isFairAt fu p i3).bind (fun r9 => (if r9 = true then c4 () else some (false, true)))) (fun i3 (s2 : Unit) => (p_impl_ties fu p).bind (fun r11 => some ((decide (r11 = 0)), true))) (Int.toNat ((p.length : Int) - 0)) 0 () = if ∀ q, q < p.length → 0 ≤ q → decide (∀ j, j < p.length → atN p.length l j q = atN p.length l 0 q) = true then some (decide (t = 0), true) else some (false, true) := by
      have := all_loop (fun q => decide (∀ j, j < p.length → atN p.length l j q = atN p.length l 0 q)) (some (false, true)) (some (decide (t = 0), true)) p.length p.length 0 (by omega)
      rw [← this, t2, Option.bind_some]
      have el : Int.toNat ((p.length : Int) - 0) = p.length := by omega
      rw [el]
      refine cnt_cong20 p.length (fun _ _ => True) rfl trivial (fun _ _ => rfl) (fun q s c c' hq _ hc => ?_)
      rw [hfair q hq, Option.bind_some, Int.toNat_natCast]
      by_cases e : ∀ j, j < p.length → atN p.length l j q = atN p.length l 0 q
      · rw [if_pos (decide_eq_true (fun j hj => by rw [hatV j q hq, hatV 0 q hq, e j hj])), if_pos (decide_eq_true e)]; exact hc _ trivial
      · rw [if_neg (by
          rw [decide_eq_false (fun hh => e (fun j hj => by
            have := hh j hj
            rw [hatV j q hq, hatV 0 q hq] at this; omega))]
          simp), if_neg (by rw [decide_eq_false e]; simp)]
    rw [hspec, himpl, ht]
    by_cases hall : ∀ j, j < p.length → ∀ q, q < p.length → atN p.length l j q * p.length = 6 ^ p.length
    · have hsame : ∀ q, q < p.length → ∀ j, j < p.length → atN p.length l j q = atN p.length l 0 q := fun q hq j hj => by
        have a1 := hall j hj q hq
        have a2 := hall 0 (by omega) q hq
        exact Nat.eq_of_mul_eq_mul_right (by omega : 0 < p.length) (a1.trans a2.symm)
      have hS : l.sum = 6 ^ p.length := by
        have h0 := hsum 0 (by omega)
        rw [sumTo_congr p.length (g := fun _ => atN p.length l 0 0) (fun j hj => hsame 0 (by omega) j hj), sumTo_const, Nat.mul_comm, hall 0 (by omega) 0 (by omega)] at h0
        exact h0.symm
      refine ⟨true, true, ?_, ?_⟩
      · rw [if_pos (fun j hj _ => decide_eq_true (fun q hq _ => decide_eq_true (hall j hj q hq)))]
      · rw [if_pos (fun q hq _ => decide_eq_true (fun j hj => hsame q hq j hj)), decide_eq_true (by omega)]
    · refine ⟨false, true, ?_, ?_⟩
      · rw [if_neg (fun hh : ∀ j, j < p.length → 0 ≤ j → decide (∀ q, q < p.length → 0 ≤ q → decide (atN p.length l j q * p.length = 6 ^ p.length) = true) = true => hall (fun j hj q hq => by
          have h1 := of_decide_eq_true (hh j hj (Nat.zero_le _))
          exact of_decide_eq_true (h1 q hq (Nat.zero_le _))))]
      · by_cases hsame : ∀ q, q < p.length → 0 ≤ q → decide (∀ j, j < p.length → atN p.length l j q = atN p.length l 0 q) = true
        · rw [if_pos hsame, decide_eq_false]
          intro hz
          refine hall (fun j hj q hq => ?_)
          have hsq := of_decide_eq_true (hsame q hq (Nat.zero_le _))
          have h0 := hsum q hq
          rw [sumTo_congr p.length (g := fun _ => atN p.length l 0 q) (fun j hj => hsq j hj), sumTo_const] at h0
          rw [hsq j hj, Nat.mul_comm, h0]; omega
        · rw [if_neg hsame]

end Go.GA.E
