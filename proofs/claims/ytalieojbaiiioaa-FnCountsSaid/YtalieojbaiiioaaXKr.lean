/- Plain law of FnCounts: the chances and distances of all counts, one after the other. -/
import Derived.Test.YtalieojbaiiioaaXKq
namespace Go.GA.E
open Go
set_option maxRecDepth 100000
theorem cut_parts (a N : Nat) (hN : 0 < N) : ∃ A C g : Nat, (cutF a N).getD 0 0 = (A : Int) ∧ (cutF a N).getD 1 0 = (C : Int) ∧ A * g = a ∧ C * g = N ∧ 0 < C ∧ 0 < g ∧ A ≤ a ∧ C ≤ N ∧ g ≤ N := by
  have hg : 0 < Nat.gcd a N := Nat.gcd_pos_of_pos_right _ hN
  have hgN : Nat.gcd a N ≤ N := Nat.gcd_le_right _ hN
  exact ⟨a / Nat.gcd a N, N / Nat.gcd a N, Nat.gcd a N, rfl, rfl, Nat.div_mul_cancel (Nat.gcd_dvd_left _ _), Nat.div_mul_cancel (Nat.gcd_dvd_right _ _), Nat.div_pos hgN hg, hg, Nat.div_le_self _ _, Nat.div_le_self _ _, hgN⟩
theorem ways_val {a N : Nat} (hN : 0 < N) (hNb : N ≤ 2176782336) (ha : a ≤ N) : IntKind.wrap .i64 ((cutF a N).getD 0 0 * (IntKind.wrap .i64 ((N : Int).tdiv ((cutF a N).getD 1 0)))) = (a : Int) ∧ (cutF a N).getD 1 0 ≠ 0 := by
  obtain ⟨A, C, g, e0, e1, hA, hC, hC0, hg, lA, lC, lg⟩ := cut_parts a N hN
  rw [e0, e1, tdiv_nat]
  have ed : N / C = g := by rw [← hC, Nat.mul_div_cancel_left _ hC0]
  rw [ed, wrap_nat (by omega), ← Int.natCast_mul, hA, wrap_nat (by omega)]
  exact ⟨rfl, by omega⟩
theorem away_val {D n : Nat} (hn : 0 < n) (hn8 : n ≤ 8) (hD : D ≤ 6 * 311040) : IntKind.wrap .i64 ((IntKind.wrap .i64 ((cutF D (360 * max n 1)).getD 0 0 * (IntKind.wrap .i64 (360 * (n : Int))))).tdiv ((cutF D (360 * max n 1)).getD 1 0)) = (D : Int) ∧ (cutF D (360 * max n 1)).getD 1 0 ≠ 0 := by
  rw [show max n 1 = n by omega]
  obtain ⟨A, C, g, e0, e1, hA, hC, hC0, hg, lA, lC, lg⟩ := cut_parts D (360 * n) (by omega)
  rw [e0, e1, show (360 : Int) * (n : Int) = ((360 * n : Nat) : Int) by omega, wrap_nat (n := 360 * n) (by omega), ← Int.natCast_mul]
  have hb : A * (360 * n) ≤ (6 * 311040) * (360 * 8) := Nat.mul_le_mul (by omega) (by omega)
  rw [wrap_nat (n := A * (360 * n)) (by omega), tdiv_nat]
  have ed : A * (360 * n) / C = D := by
    rw [← hC, Nat.mul_comm C g, ← Nat.mul_assoc, Nat.mul_div_cancel _ hC0, hA]
  rw [ed, wrap_nat (by omega)]
  exact ⟨rfl, by omega⟩
theorem counts_true {x y : List Int} (h : x.length = 6) (hc : Counts x y) : p_impl_areCounts x y = some true := by
  unfold p_impl_areCounts
  have hl := hc.len
  have hdl : (dd x).length ≤ 6 := h ▸ dd_len x
  rw [numbers_impl h, hc.die, if_pos rfl, Option.bind_some, if_pos (by omega), areIn_eq, total_eq]
  have ha : y.all (fun a => p_spec_l1In a 0 12) = true := List.all_eq_true.2 (fun v hv => by
    obtain ⟨n, e, hn⟩ := hc.inn v hv
    rw [l1In_eq, decide_eq_true_eq]; omega)
  have := wsum_nat y 0 hc.inn (by omega)
  simp only [Int.natCast_zero] at this
  have hs := hc.sum
  rw [if_pos ha, this, decide_eq_true (by omega)]
/-! ### the greatest -/
def maxL (ws : List Nat) (m : Nat) (l : List (List Int)) : Nat := l.foldl (fun m r => if m < chN ws r then chN ws r else m) m
theorem best_max (ws : List Nat) : ∀ (l : List (List Int)) (b : List Int), chN ws (l.foldl (fun b r => bestG ws r b) b) = maxL ws (chN ws b) l
  | [], b => rfl
  | r :: l, b => by
    unfold maxL
    rw [List.foldl_cons, List.foldl_cons, best_max ws l]
    unfold maxL bestG
    congr 1
    split <;> rfl
theorem best_all (ws : List Nat) {l : List (List Int)} (hl : 0 < l.length) : chN ws (bestL ws l) = maxL ws 0 l := by
  cases l with
  | nil => simp at hl
  | cons r l =>
    show chN ws (l.foldl (fun b r => bestG ws r b) r) = _
    rw [best_max]
    unfold maxL
    rw [List.foldl_cons]
    congr 1
    split <;> omega
theorem best_mem (ws : List Nat) (V : List (List Int)) : ∀ (l : List (List Int)) (b : List Int), b ∈ V → (∀ r ∈ l, r ∈ V) → l.foldl (fun b r => bestG ws r b) b ∈ V
  | [], b, h, _ => h
  | r :: l, b, h, hl => by
    rw [List.foldl_cons]
    refine best_mem ws V l _ ?_ (fun q hq => hl q (by simp [hq]))
    unfold bestG
    split
    · exact hl r (by simp)
    · exact h
theorem bestL_mem (ws : List Nat) {l : List (List Int)} (hl : 0 < l.length) : bestL ws l ∈ l := by
  cases l with
  | nil => simp at hl
  | cons r l => exact best_mem ws (r :: l) l r (by simp) (fun q hq => by simp [hq])
theorem take_next {α : Type} (l : List α) (d : α) (i : Nat) (h : i < l.length) : l.take (i + 1) = l.take i ++ [l.getD i d] := by
  rw [List.take_add_one, List.getElem?_eq_getElem h, List.getD_eq_getElem?_getD, List.getElem?_eq_getElem h]; rfl
theorem sum_take_le2 {α : Type} (f : α → Nat) (l : List α) (i : Nat) : ((l.take i).map f).sum ≤ (l.map f).sum := by
  have e : l.map f = (l.take i).map f ++ (l.drop i).map f := by rw [← List.map_append, List.take_append_drop]
  rw [e, List.sum_append]; omega
section
variable {x y : List Int} {fu : Nat}
def topN (ws : List Nat) (V : List (List Int)) (i : Nat) : Nat := ((V.take i).map (chN ws)).sum
def farN (x : List Int) (V : List (List Int)) (n i : Nat) : Nat := if 0 < n then ((V.take i).map (fun r => chN (wsF x) r * distN x r)).sum else 0
theorem tail_ok {m n : Nat} (t : TD x m n) (hf : 10000000000 ≤ fu) {mn : List Int} {fo : Bool} (hmn : fo = true → mn = [((dd x).length : Int) - 1, 1] ∧ 1 ≤ (n : Int)) :
    cnt (fun i960 (s959 : Int × Int × Int) c961 _ => (if (p_laws_vInts ((vec (m + 1) n).getD i960.toNat []) ((vec (m + 1) n).getD i960.toNat [])) = true then (p_impl_ChanceOfCounts fu x ((vec (m + 1) n).getD i960.toNat [])).bind (fun r967 => (p_impl_DistanceOf fu x ((vec (m + 1) n).getD i960.toNat [])).bind (fun r982 => (if ((!r967.2) || (!r982.2)) = true then some false else (p_laws_vSix fu (n : Int)).bind (fun r1002 => if (r967.1.getD 1 0) ≠ 0 then jn (fun (s1004 : Int) => (if 0 < (n : Int) then if (r982.1.getD 1 0) ≠ 0 then c961 ((IntKind.wrap .i64 (s959.1 + (IntKind.wrap .i64 ((r967.1.getD 0 0) * (IntKind.wrap .i64 (r1002.tdiv (r967.1.getD 1 0))))))), s1004, (IntKind.wrap .i64 (s959.2.2 + (IntKind.wrap .i64 ((IntKind.wrap .i64 ((r967.1.getD 0 0) * (IntKind.wrap .i64 (r1002.tdiv (r967.1.getD 1 0))))) * (IntKind.wrap .i64 ((IntKind.wrap .i64 ((r982.1.getD 0 0) * (IntKind.wrap .i64 (360 * (n : Int))))).tdiv (r982.1.getD 1 0)))))))) else none else c961 ((IntKind.wrap .i64 (s959.1 + (IntKind.wrap .i64 ((r967.1.getD 0 0) * (IntKind.wrap .i64 (r1002.tdiv (r967.1.getD 1 0))))))), s1004, s959.2.2))) (fun k1005 => (if s959.2.1 < (IntKind.wrap .i64 ((r967.1.getD 0 0) * (IntKind.wrap .i64 (r1002.tdiv (r967.1.getD 1 0))))) then k1005 (IntKind.wrap .i64 ((r967.1.getD 0 0) * (IntKind.wrap .i64 (r1002.tdiv (r967.1.getD 1 0))))) else k1005 s959.2.1)) else none)))) else some false)) (fun i960 (s959 : Int × Int × Int) => (p_impl_ChanceOfCounts fu x (bestL (wsF x) (vec (m + 1) n))).bind (fun r1014 => if (r1014.2 = true → (p_laws_vSix fu (n : Int)).isSome = true) then if ((r1014.2 && (decide (s959.1 = ((p_laws_vSix fu (n : Int)).getD 0)))) = true → (p_laws_vSix fu (n : Int)).isSome = true) then if ((r1014.2 && (decide (s959.1 = ((p_laws_vSix fu (n : Int)).getD 0)))) = true → (r1014.1.getD 1 0) ≠ 0) then if ((((r1014.2 && (decide (s959.1 = ((p_laws_vSix fu (n : Int)).getD 0)))) && (decide ((IntKind.wrap .i64 ((r1014.1.getD 0 0) * (IntKind.wrap .i64 (((p_laws_vSix fu (n : Int)).getD 0).tdiv (r1014.1.getD 1 0))))) = s959.2.1))) && (!(!fo))) = true → (p_laws_vSix fu (n : Int)).isSome = true) then some (((r1014.2 && (decide (s959.1 = ((p_laws_vSix fu (n : Int)).getD 0)))) && (decide ((IntKind.wrap .i64 ((r1014.1.getD 0 0) * (IntKind.wrap .i64 (((p_laws_vSix fu (n : Int)).getD 0).tdiv (r1014.1.getD 1 0))))) = s959.2.1))) && ((!fo) || (decide ((IntKind.wrap .i64 (s959.2.2 * (mn.getD 1 0))) = (IntKind.wrap .i64 ((IntKind.wrap .i64 ((IntKind.wrap .i64 ((mn.getD 0 0) * ((p_laws_vSix fu (n : Int)).getD 0))) * 360)) * (n : Int))))))) else none else none else none else none)) (Int.toNat (((vec (m + 1) n).length : Int) - 0)) 0 (0, 0, 0) = some true := by
  have h8 := t.hn
  have hp : 6 ^ n ≤ 1679616 := Nat.pow_le_pow_right (n := 6) (by omega) h8
  have h0 := six0 n
  have hsix := six_eq h8 (fu := fu) (by omega)
  have hall : ((vec (m + 1) n).map (chN (wsF x))).sum = 6 ^ n := all_sum t.h t.hd t.hm (by omega)
  have hfar := far_all t
  have hch : ∀ r ∈ vec (m + 1) n, p_impl_ChanceOfCounts fu x r = some (cutF (chN (wsF x) r) (6 ^ n), true) ∧ p_impl_DistanceOf fu x r = some (cutF (distN x r) (360 * max n 1), true) ∧ chN (wsF x) r ≤ 6 ^ n ∧ distN x r ≤ 6 * 311040 := fun r hr => by
    have hc := vec_counts t.hd t.hm h8 hr
    have e := counts_true t.h hc
    have es : sm r = n := (vec_mem m n r hr).2.2
    have c1 := (chance_val t.h e hc hf).1
    have d1 := (dist_val t.h e hc hf).1
    have l1 := chance_one t.h hc
    rw [es] at c1 d1 l1
    exact ⟨c1, d1, l1, distN_b t.h hc⟩
  have hin : ∀ i : Nat, i < (vec (m + 1) n).length → (vec (m + 1) n).getD i [] ∈ vec (m + 1) n := fun i hi => by
    rw [List.getD_eq_getElem?_getD, List.getElem?_eq_getElem hi]; exact List.getElem_mem hi
  refine cnt_ind0 (vec (m + 1) n).length (fun i s => s = (((topN (wsF x) (vec (m + 1) n) i : Nat) : Int), ((maxL (wsF x) 0 ((vec (m + 1) n).take i) : Nat) : Int), ((farN x (vec (m + 1) n) n i : Nat) : Int))) (fun r => r = some true) (by omega) ?_ ?_ (fun i s c hi hs hc => ?_)
  · unfold farN topN
    simp only [List.take_zero, List.map_nil, List.sum_nil, ite_self]
    rfl
  · intro s hs
    subst hs
    have hm := bestL_mem (wsF x) (l := vec (m + 1) n) vec_pos
    obtain ⟨c1, _, l1, _⟩ := hch _ hm
    obtain ⟨w1, w2⟩ := ways_val h0 (by omega) l1
    rw [c1, Option.bind_some, hsix]
    refine (if_pos (by intro _; rfl)).trans ((if_pos (by intro _; rfl)).trans ((if_pos (by intro _; exact w2)).trans ((if_pos (by intro _; rfl)).trans ?_)))
    have e1 : topN (wsF x) (vec (m + 1) n) (vec (m + 1) n).length = 6 ^ n := by
      unfold topN; rw [List.take_length, hall]
    refine congrArg some ?_
    rw [Bool.and_eq_true, Bool.and_eq_true, Bool.and_eq_true, decide_eq_true_eq, decide_eq_true_eq]
    refine ⟨⟨⟨rfl, ?_⟩, ?_⟩, ?_⟩
    · show ((topN _ _ _ : Nat) : Int) = _
      rw [e1]; rfl
    · refine w1.trans ?_
      show _ = ((maxL _ _ _ : Nat) : Int)
      rw [best_all (wsF x) vec_pos, List.take_length]
    cases hfo : fo with
    | false => rfl
    | true =>
      obtain ⟨emn, hn1⟩ := hmn hfo
      have hn0 : 0 < n := by omega
      have e2 : farN x (vec (m + 1) n) n (vec (m + 1) n).length = m * 6 ^ n * (360 * n) := by
        unfold farN; rw [if_pos hn0, List.take_length, hfar]
      have b1 : m * 6 ^ n ≤ 5 * 1679616 := Nat.mul_le_mul t.hm5 hp
      have b2 : m * 6 ^ n * (360 * n) ≤ (5 * 1679616) * (360 * 8) := Nat.mul_le_mul b1 (by omega)
      have b3 : m * 6 ^ n * 360 ≤ (5 * 1679616) * 360 := Nat.mul_le_mul_right _ b1
      have e3 : m * 6 ^ n * 360 * n = m * 6 ^ n * (360 * n) := Nat.mul_assoc _ _ _
      show (!true || decide (IntKind.wrap .i64 (((farN x (vec (m + 1) n) n (vec (m + 1) n).length : Nat) : Int) * (mn.getD 1 0)) = IntKind.wrap .i64 (IntKind.wrap .i64 (IntKind.wrap .i64 ((mn.getD 0 0) * ((6 ^ n : Nat) : Int)) * 360) * (n : Int)))) = true
      rw [e2, emn, t.hm]
      have g0 : [((m + 1 : Nat) : Int) - 1, 1].getD 0 0 = (m : Int) := by show ((m + 1 : Nat) : Int) - 1 = _; omega
      have g1 : [((m + 1 : Nat) : Int) - 1, 1].getD 1 0 = 1 := rfl
      rw [g0, g1, Int.mul_one, ← Int.natCast_mul, wrap_nat (n := m * 6 ^ n) (by omega), show ((m * 6 ^ n : Nat) : Int) * 360 = ((m * 6 ^ n * 360 : Nat) : Int) from (Int.natCast_mul _ _).symm, wrap_nat (n := m * 6 ^ n * 360) (by omega), ← Int.natCast_mul, e3]
      simp
  · subst hs
    have hr := hin i hi
    obtain ⟨c1, d1, l1, lD⟩ := hch _ hr
    obtain ⟨w1, w2⟩ := ways_val h0 (by omega) l1
    have nT : topN (wsF x) (vec (m + 1) n) (i + 1) = topN (wsF x) (vec (m + 1) n) i + chN (wsF x) ((vec (m + 1) n).getD i []) := by
      unfold topN; rw [take_next _ [] i hi, List.map_append, List.sum_append]; simp
    have nM : maxL (wsF x) 0 ((vec (m + 1) n).take (i + 1)) = if maxL (wsF x) 0 ((vec (m + 1) n).take i) < chN (wsF x) ((vec (m + 1) n).getD i []) then chN (wsF x) ((vec (m + 1) n).getD i []) else maxL (wsF x) 0 ((vec (m + 1) n).take i) := by
      unfold maxL; rw [take_next _ [] i hi, List.foldl_append]; rfl
    have lT : topN (wsF x) (vec (m + 1) n) (i + 1) ≤ 6 ^ n := by
      unfold topN; rw [← hall]; exact sum_take_le2 _ _ _
    rw [Int.toNat_natCast, vInts_self, if_pos rfl, c1, Option.bind_some, d1, Option.bind_some, if_neg (by simp), hsix, Option.bind_some, if_pos w2]
    unfold jn
    rw [w1]
    have wT : IntKind.wrap .i64 (((topN (wsF x) (vec (m + 1) n) i : Nat) : Int) + ((chN (wsF x) ((vec (m + 1) n).getD i []) : Nat) : Int)) = ((topN (wsF x) (vec (m + 1) n) (i + 1) : Nat) : Int) := by
      rw [nT, ← Int.natCast_add, wrap_nat (by omega)]
    simp only
    rw [wT]
    by_cases hn0 : 0 < n
    · obtain ⟨a1, a2⟩ := away_val hn0 h8 lD
      have nF : farN x (vec (m + 1) n) n (i + 1) = farN x (vec (m + 1) n) n i + chN (wsF x) ((vec (m + 1) n).getD i []) * distN x ((vec (m + 1) n).getD i []) := by
        unfold farN; rw [if_pos hn0, if_pos hn0, take_next _ [] i hi, List.map_append, List.sum_append]; simp
      have lF : farN x (vec (m + 1) n) n (i + 1) ≤ (5 * 1679616) * (360 * 8) := by
        unfold farN; rw [if_pos hn0]
        refine Nat.le_trans (sum_take_le2 _ _ _) ?_
        rw [hfar]
        exact Nat.mul_le_mul (Nat.mul_le_mul t.hm5 hp) (by omega)
      have wF : IntKind.wrap .i64 (((farN x (vec (m + 1) n) n i : Nat) : Int) + IntKind.wrap .i64 (((chN (wsF x) ((vec (m + 1) n).getD i []) : Nat) : Int) * ((distN x ((vec (m + 1) n).getD i []) : Nat) : Int))) = ((farN x (vec (m + 1) n) n (i + 1) : Nat) : Int) := by
        rw [← Int.natCast_mul, wrap_nat (n := chN (wsF x) ((vec (m + 1) n).getD i []) * distN x ((vec (m + 1) n).getD i [])) (by omega), nF, ← Int.natCast_add, wrap_nat (by omega)]
      rw [a1, wF]
      simp only [if_pos (show (0 : Int) < (n : Int) by omega), if_pos a2]
      split
      · exact hc _ (by rw [nM, if_pos (by omega)])
      · exact hc _ (by rw [nM, if_neg (by omega)])
    · have nF : ∀ j, farN x (vec (m + 1) n) n j = 0 := fun j => by unfold farN; rw [if_neg hn0]
      simp only [if_neg (show ¬ (0 : Int) < (n : Int) by omega), nF]
      split
      · exact hc _ (by rw [nM, if_pos (by omega), nF])
      · exact hc _ (by rw [nM, if_neg (by omega), nF])
end
end Go.GA.E
