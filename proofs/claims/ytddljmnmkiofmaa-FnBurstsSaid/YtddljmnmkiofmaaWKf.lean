/- Plain law of FnBursts: waits, phrases of one letter, faces counted. -/
import Derived.Test.YtddljmnmkiofmaaWKe
namespace Go.GA.E
open Go
set_option maxRecDepth 100000
theorem cut_zero {N : Nat} (h : 0 < N) : cutF 0 N = [0, 1] := by
  unfold cutF
  rw [Nat.gcd_zero_left, Nat.div_self h, Nat.zero_div]; rfl
theorem cut_one {N : Nat} (h : 0 < N) : cutF N N = [1, 1] := by
  unfold cutF
  rw [Nat.gcd_self, Nat.div_self h]; rfl
/-- two fractions compared crosswise -/
theorem less_any (a b N M : Nat) (hN : 0 < N) (hM : 0 < M) (ha : a ≤ 2176782336) (hb : b ≤ 2176782336) (hN2 : N ≤ 2176782336) (hM2 : M ≤ 2176782336) : p_laws_vLess (cutF a N) (cutF b M) = decide (a * M < b * N) := by
  unfold p_laws_vLess
  have hg : 0 < Nat.gcd a N := Nat.gcd_pos_of_pos_right _ hN
  have hh : 0 < Nat.gcd b M := Nat.gcd_pos_of_pos_right _ hM
  have e0 : (cutF a N).getD 0 0 = ((a / Nat.gcd a N : Nat) : Int) := rfl
  have e1 : (cutF a N).getD 1 0 = ((N / Nat.gcd a N : Nat) : Int) := rfl
  have e2 : (cutF b M).getD 0 0 = ((b / Nat.gcd b M : Nat) : Int) := rfl
  have e3 : (cutF b M).getD 1 0 = ((M / Nat.gcd b M : Nat) : Int) := rfl
  rw [e0, e1, e2, e3]
  have ea : a / Nat.gcd a N * Nat.gcd a N = a := Nat.div_mul_cancel (Nat.gcd_dvd_left _ _)
  have eN : N / Nat.gcd a N * Nat.gcd a N = N := Nat.div_mul_cancel (Nat.gcd_dvd_right _ _)
  have eb : b / Nat.gcd b M * Nat.gcd b M = b := Nat.div_mul_cancel (Nat.gcd_dvd_left _ _)
  have eM : M / Nat.gcd b M * Nat.gcd b M = M := Nat.div_mul_cancel (Nat.gcd_dvd_right _ _)
  have la := Nat.div_le_self a (Nat.gcd a N)
  have lb := Nat.div_le_self b (Nat.gcd b M)
  have lc := Nat.div_le_self N (Nat.gcd a N)
  have ld := Nat.div_le_self M (Nat.gcd b M)
  generalize a / Nat.gcd a N = A at *
  generalize b / Nat.gcd b M = B at *
  generalize N / Nat.gcd a N = C at *
  generalize M / Nat.gcd b M = D at *
  have m1 : A * D ≤ 2176782336 * 2176782336 := Nat.mul_le_mul (by omega) (by omega)
  have m2 : B * C ≤ 2176782336 * 2176782336 := Nat.mul_le_mul (by omega) (by omega)
  rw [← Int.natCast_mul, ← Int.natCast_mul, wrap_nat (n := A * D) (by omega), wrap_nat (n := B * C) (by omega)]
  have t1 : A * D * (Nat.gcd a N * Nat.gcd b M) = a * M := by rw [Nat.mul_mul_mul_comm, ea, eM]
  have t2 : B * C * (Nat.gcd a N * Nat.gcd b M) = b * N := by rw [Nat.mul_comm (Nat.gcd a N), Nat.mul_mul_mul_comm, eb, eN]
  have key : A * D < B * C ↔ a * M < b * N := by
    rw [← Nat.mul_lt_mul_right (Nat.mul_pos hg hh), t1, t2]
  by_cases hab : a * M < b * N
  · rw [decide_eq_true hab, decide_eq_true (by have := key.2 hab; omega)]
  · rw [decide_eq_false hab, decide_eq_false (by have : ¬ A * D < B * C := fun h => hab (key.1 h); omega)]
section
variable {x : List Int} {fu : Nat}
/-- throws that bring a number within n -/
def wn (x : List Int) (v : Int) (n : Nat) : Nat := 6 ^ n - (6 - x.count v) ^ n
theorem cnt6 (h : x.length = 6) (v : Int) : x.count v ≤ 6 := h ▸ List.count_le_length
theorem sub_pow (x : List Int) (v : Int) (n : Nat) : (6 - x.count v) ^ n ≤ 6 ^ n := Nat.pow_le_pow_left (Nat.sub_le _ _) n
theorem within_both (h : x.length = 6) (v n : Int) (hf : 100000000000 ≤ fu) : p_impl_ChanceWithin fu x v n = some (if (p_impl_IsDie x && p_impl_isRolls n) = true then (cutF (wn x v n.toNat) (6 ^ n.toNat), true) else (List.replicate 2 0, false)) ∧ p_spec_ChanceWithin fu x v n = some (if (p_impl_IsDie x && p_impl_isRolls n) = true then (cutF (wn x v n.toNat) (6 ^ n.toNat), true) else (List.replicate 2 0, false)) := by
  unfold p_impl_ChanceWithin p_spec_ChanceWithin
  rw [rolls_ok h, Option.bind_some]
  by_cases hg : (p_impl_IsDie x && p_impl_isRolls n) = true
  · rw [if_pos hg, if_pos hg, if_neg (by revert hg; cases p_impl_IsDie x <;> cases p_impl_isRolls n <;> simp)]
    simp only [Bool.and_eq_true] at hg
    obtain ⟨hd, hr⟩ := hg
    unfold p_impl_isRolls at hr
    rw [within_eq, decide_eq_true_eq] at hr
    obtain ⟨N, rfl⟩ : ∃ N : Nat, n = (N : Int) := ⟨n.toNat, by omega⟩
    have hN : N ≤ 12 := by omega
    have hp := pow12 hN
    have hc := cnt6 h v
    have hs := sub_pow x v N
    have e6 : IntKind.wrap .i64 (6 - ((x.count v : Nat) : Int)) = ((6 - x.count v : Nat) : Int) := by rw [wrap_i64 (by omega) (by omega)]; omega
    rw [weight_eq, weight_count h, e6, all_power, pow_raised, power_eq N (by omega) (by omega), raised_eq _ N (by omega) (by omega) (by omega), Int.toNat_natCast]
    simp only [Option.bind_some]
    have ed : IntKind.wrap .i64 (((6 ^ N : Nat) : Int) - (((6 - x.count v) ^ N : Nat) : Int)) = ((wn x v N : Nat) : Int) := by
      rw [wrap_i64 (by omega) (by omega)]
      unfold wn
      omega
    obtain ⟨f1, f2⟩ := frac_any (fu := fu) (v := ((wn x v N : Nat) : Int)) (n := N) (by omega) (by omega) (by unfold wn; omega) hf
    rw [Int.toNat_natCast] at f1 f2
    rw [ed, f1, f2]
    exact ⟨rfl, rfl⟩
  · rw [if_neg hg, if_neg hg, if_pos (by revert hg; cases p_impl_IsDie x <;> cases p_impl_isRolls n <;> simp)]
    exact ⟨rfl, rfl⟩
theorem has_count (v : Int) : p_impl_has x v = decide (0 < x.count v) := by
  rw [has_eq]
  by_cases hm : v ∈ x
  · rw [decide_eq_true hm, decide_eq_true (List.count_pos_iff.2 hm)]
  · rw [decide_eq_false hm, decide_eq_false (fun h => hm (List.count_pos_iff.1 h))]
theorem wait_both (h : x.length = 6) (v : Int) (hf : 1000 ≤ fu) : p_impl_MeanWait fu x v = some (if (p_impl_IsDie x && p_impl_has x v) = true then (cutF 6 (x.count v), true) else (List.replicate 2 0, false)) ∧ p_spec_MeanWait fu x v = some (if (p_impl_IsDie x && p_impl_has x v) = true then (cutF 6 (x.count v), true) else (List.replicate 2 0, false)) := by
  unfold p_impl_MeanWait p_spec_MeanWait
  have hc := cnt6 h v
  have ed : decide ((p_spec_l8Weight x v) = 0) = !(p_impl_has x v) := by
    rw [weight_eq, weight_count h, has_count]
    by_cases h0 : 0 < x.count v
    · rw [decide_eq_true h0, decide_eq_false (by omega)]; rfl
    · rw [decide_eq_false h0, decide_eq_true (by omega)]; rfl
  rw [l2Die_eq h, Option.bind_some, ed]
  by_cases hg : (p_impl_IsDie x && p_impl_has x v) = true
  · have hn : ¬ ((!p_impl_IsDie x) || (!p_impl_has x v)) = true := by revert hg; cases p_impl_IsDie x <;> cases p_impl_has x v <;> simp
    rw [if_pos hg, if_neg hn, if_neg hn]
    simp only [Bool.and_eq_true] at hg
    have e1 := fraction_eq (fu := fu) 6 (x.count v) (by omega) (by omega) (by omega) (by omega)
    have e2 := cut_eq (fu := fu) 6 (x.count v) (by omega) (by omega) (by omega) (by omega)
    have e6 : ((6 : Nat) : Int) = 6 := rfl
    rw [e6] at e1 e2
    rw [weight_eq, weight_count h, e1, e2]
    exact ⟨rfl, rfl⟩
  · have hn : ((!p_impl_IsDie x) || (!p_impl_has x v)) = true := by revert hg; cases p_impl_IsDie x <;> cases p_impl_has x v <;> simp
    rw [if_neg hg, if_pos hn, if_pos hn]
    exact ⟨rfl, rfl⟩
/-! ### phrases of one letter -/
theorem long1 (f v : Int) : p_impl_longest ([] ++ [f]) [v] = if f = v then 1 else 0 := by
  have e : p_slices_Equal_int_int [f] [v] = decide (f = v) := by
    by_cases h : f = v <;> simp [p_slices_Equal_int_int, cnt, h]
  unfold p_impl_longest
  simp only [List.nil_append, List.length_singleton, Int.natCast_one]
  rw [if_neg (by omega)]
  show cntd _ _ 1 1 () = _
  simp only [cntd]
  show (if p_slices_Equal_int_int [f] [v] = true then 1 else 0) = _
  rw [e]
  simp
def fS {Q : Type} (v : Int) (a : Nat) : Int → List Int → (List Int → Option Q) → Option Q := fun (f : Int) (s37 : List Int) (c39 : List Int → Option Q) => (p_slices_Clone_int_int (([v] : List Int).take (0 : Int).toNat)).bind (fun r44 => if (r44.length : Int) + 1 ≤ 1000000000 then if 0 ≤ (p_impl_longest (r44 ++ [f]) [v]) then if (p_impl_longest (r44 ++ [f]) [v]) < 2 then c39 (s37.set (p_impl_longest (r44 ++ [f]) [v]).toNat (IntKind.wrap .i64 ((s37.getD (p_impl_longest (r44 ++ [f]) [v]).toNat 0) + (a : Int)))) else none else none else none)
theorem faces_run {Q : Type} (v : Int) (a : Nat) (ha : a ≤ 2176782336) (K : List Int → Option Q) : ∀ (l : List Int) (p q : Nat), p + q + a * l.length ≤ 1000000000000 → lrun (fS v a) K l [(p : Int), (q : Int)] = K [((p + a * (l.length - l.count v) : Nat) : Int), ((q + a * l.count v : Nat) : Int)]
  | [], p, q, _ => by simp [lrun]
  | f :: l, p, q, hb => by
    have hcl : p_slices_Clone_int_int (([v] : List Int).take (0 : Int).toNat) = some [] := rfl
    have ih := fun p q => faces_run v a ha K l p q
    have hle : l.count v ≤ l.length := List.count_le_length
    rw [List.length_cons, Nat.mul_succ] at hb
    rw [lrun.eq_2]
    generalize hW : lrun (fS v a) K l = W at ih
    unfold fS
    rw [hcl, Option.bind_some, if_pos (by simp), long1]
    by_cases h : f = v
    · rw [if_pos h, if_pos (by omega), if_pos (by omega)]
      have e : ([(p : Int), (q : Int)].set (1 : Int).toNat (IntKind.wrap .i64 (([(p : Int), (q : Int)].getD (1 : Int).toNat 0) + (a : Int)))) = [(p : Int), ((q + a : Nat) : Int)] := by
        show [(p : Int), IntKind.wrap .i64 ((q : Int) + (a : Int))] = _
        rw [wrap_i64 (by omega) (by omega)]; rfl
      rw [e]
      refine (ih p (q + a) (by omega)).trans ?_
      rw [List.count_cons, h]
      simp only [beq_self_eq_true, if_true, List.length_cons]
      have e1 : l.length + 1 - (l.count v + 1) = l.length - l.count v := by omega
      rw [e1, Nat.mul_succ]
      congr 3
      omega
    · rw [if_neg h, if_pos (by omega), if_pos (by omega)]
      have e : ([(p : Int), (q : Int)].set (0 : Int).toNat (IntKind.wrap .i64 (([(p : Int), (q : Int)].getD (0 : Int).toNat 0) + (a : Int)))) = [((p + a : Nat) : Int), (q : Int)] := by
        show [IntKind.wrap .i64 ((p : Int) + (a : Int)), (q : Int)] = _
        rw [wrap_i64 (by omega) (by omega)]; rfl
      have hb2 : (f == v) = false := by simpa using h
      rw [e]
      refine (ih (p + a) q (by omega)).trans ?_
      rw [List.count_cons, hb2]
      simp only [Bool.false_eq_true, if_false, Nat.add_zero, List.length_cons]
      have e1 : l.length + 1 - l.count v = (l.length - l.count v) + 1 := by omega
      rw [e1, Nat.mul_succ]
      congr 2
      omega
theorem phrase1 (v : Int) : p_impl_isPhrase x [v] = p_impl_has x v := by
  unfold p_impl_isPhrase p_impl_areAll_intv1 p_slices_ContainsFunc_int_intv1 p_slices_IndexFunc_int_intv1
  have e1 : p_impl_within (([v] : List Int).length : Int) 1 6 = true := by
    rw [within_eq]; rfl
  rw [e1, Bool.true_and]
  show (!(decide (0 ≤ (if p_impl_areAll_int_1v1 v x = true then (0 : Int) else -1)))) = _
  unfold p_impl_areAll_int_1v1 p_impl_isPhrase_1
  cases p_impl_has x v <;> rfl
def phB (fu : Nat) (x : List Int) (v : Int) (n : Int) : Int × List Int → (Int × List Int → Option (List Int × Bool)) → Option (List Int × Bool) := fun (s22 : Int × (List Int)) c24 => (if s22.1 < n then if ((([v] : List Int)).length : Int) < (IntKind.wrap .i64 ((([v] : List Int).length : Int) + 1)) then cnt (fun i31 (s30 : (List Int)) c32 _ => cnt (fun i38 (s37 : (List Int)) c39 _ => (p_slices_Clone_int_int (([v] : List Int).take i31.toNat)).bind (fun r44 => if (r44.length : Int) + 1 ≤ 1000000000 then if 0 ≤ (p_impl_longest (r44 ++ [(x.getD i38.toNat 0)]) [v]) then if (p_impl_longest (r44 ++ [(x.getD i38.toNat 0)]) [v]) < (IntKind.wrap .i64 ((([v] : List Int).length : Int) + 1)) then c39 (s37.set (p_impl_longest (r44 ++ [(x.getD i38.toNat 0)]) [v]).toNat (IntKind.wrap .i64 ((s37.getD (p_impl_longest (r44 ++ [(x.getD i38.toNat 0)]) [v]).toNat 0) + ((s22.2.take (([v] : List Int).length : Int).toNat).getD i31.toNat 0)))) else none else none else none)) (fun i38 (s37 : (List Int)) => c32 s37) (Int.toNat (6 - 0)) 0 s30) (fun i31 (s30 : (List Int)) => c24 ((IntKind.wrap .i64 (s22.1 + 1)), s30)) (Int.toNat ((([v] : List Int).length : Int) - 0)) 0 ((List.replicate (IntKind.wrap .i64 ((([v] : List Int).length : Int) + 1)).toNat 0).set (([v] : List Int).length : Int).toNat (IntKind.wrap .i64 ((s22.2.getD (([v] : List Int).length : Int).toNat 0) * 6))) else none else if (([v] : List Int).length : Int) < (IntKind.wrap .i64 ((([v] : List Int).length : Int) + 1)) then (p_impl_power fu n).bind (fun r50 => (p_impl_fraction fu (s22.2.getD (([v] : List Int).length : Int).toNat 0) r50).bind (fun r51 => some (r51, true))) else none)
theorem ph_step (h : x.length = 6) (v : Int) {n i : Nat} (hi : i < n) {a b : Nat} (ha : a ≤ 2176782336) (hb : b ≤ 2176782336) (W : Int × List Int → Option (List Int × Bool)) : phB fu x v (n : Int) ((i : Int), [(a : Int), (b : Int)]) W = W (IntKind.wrap .i64 ((i : Int) + 1), [((a * (6 - x.count v) : Nat) : Int), ((b * 6 + a * x.count v : Nat) : Int)]) := by
  unfold phB
  simp only
  rw [if_pos (by omega)]
  have e2 : IntKind.wrap .i64 ((([v] : List Int).length : Int) + 1) = 2 := (by decide : IntKind.wrap .i64 ((1 : Int) + 1) = 2)
  have el : (([v] : List Int).length : Int) = 1 := rfl
  rw [e2, el, if_pos (by omega)]
  have e5 : Int.toNat ((1 : Int) - 0) = 1 := rfl
  rw [e5]
  simp only [cnt]
  have eT : ([(a : Int), (b : Int)].take (1 : Int).toNat).getD (0 : Int).toNat 0 = (a : Int) := rfl
  have eb : [(a : Int), (b : Int)].getD (1 : Int).toNat 0 = (b : Int) := rfl
  have e0 : ((List.replicate (2 : Int).toNat (0 : Int)).set (1 : Int).toNat (IntKind.wrap .i64 ((b : Int) * 6))) = [((0 : Nat) : Int), ((b * 6 : Nat) : Int)] := by
    show [(0 : Int), IntKind.wrap .i64 ((b : Int) * 6)] = _
    rw [wrap_i64 (by omega) (by omega)]; rfl
  rw [eT, eb, e0]
  rw [cnt_list (fS v a) x 0 (by rw [h]; rfl) (fun _ _ _ _ _ => by unfold fS; rfl)]
  rw [faces_run v a ha _ x 0 (b * 6) (by rw [h]; omega), h, Nat.zero_add]
theorem ph_run1 (h : x.length = 6) (v : Int) {n : Nat} (hn : n ≤ 12) (hf : 100000000000 ≤ fu) : ∀ (d i : Nat), n - i < d → i ≤ n → whl (phB fu x v (n : Int)) d ((i : Int), [(((6 - x.count v) ^ i : Nat) : Int), ((wn x v i : Nat) : Int)]) = some (cutF (wn x v n) (6 ^ n), true)
  | 0, _, hh, _ => by omega
  | d + 1, i, hh, hi => by
    have ih := ph_run1 h v hn hf d
    rw [show ∀ z, whl (phB fu x v (n : Int)) (d + 1) z = phB fu x v (n : Int) z (whl (phB fu x v (n : Int)) d) from fun _ => rfl]
    generalize whl (phB fu x v (n : Int)) d = W at ih
    have hc := cnt6 h v
    by_cases hlt : i < n
    · have hp := pow12 (n := i) (by omega)
      have hs := sub_pow x v i
      rw [ph_step h v hlt (by omega) (by unfold wn; omega), wrap_i64 (by omega) (by omega), show (i : Int) + 1 = ((i + 1 : Nat) : Int) from rfl]
      have e1 : (6 - x.count v) ^ i * (6 - x.count v) = (6 - x.count v) ^ (i + 1) := (Nat.pow_succ ..).symm
      have e2 : wn x v i * 6 + (6 - x.count v) ^ i * x.count v = wn x v (i + 1) := by
        unfold wn
        rw [Nat.pow_succ, Nat.pow_succ, Nat.sub_mul]
        have : (6 - x.count v) ^ i * (6 - x.count v) + (6 - x.count v) ^ i * x.count v = (6 - x.count v) ^ i * 6 := by rw [← Nat.mul_add]; congr 1; omega
        omega
      rw [e1, e2]
      exact ih (i + 1) (by omega) (by omega)
    · have hin : i = n := by omega
      subst hin
      unfold phB
      simp only
      have e2 : IntKind.wrap .i64 ((([v] : List Int).length : Int) + 1) = 2 := (by decide : IntKind.wrap .i64 ((1 : Int) + 1) = 2)
      have el : (([v] : List Int).length : Int) = 1 := rfl
      have hp := pow12 hn
      obtain ⟨f1, f2⟩ := frac_any (fu := fu) (v := ((wn x v i : Nat) : Int)) (n := i) (by omega) (by omega) (by unfold wn; omega) hf
      rw [Int.toNat_natCast] at f1
      rw [if_neg (by omega), e2, el, if_pos (by omega), power_eq i (by omega) (by omega), Option.bind_some]
      have eb : [(((6 - x.count v) ^ i : Nat) : Int), ((wn x v i : Nat) : Int)].getD (1 : Int).toNat 0 = ((wn x v i : Nat) : Int) := rfl
      rw [eb, f1]
      rfl
theorem phrase_within (h : x.length = 6) (hd : p_impl_IsDie x = true) {v : Int} (hv : p_impl_has x v = true) {n : Nat} (hn : n ≤ 12) (hf : 100000000000 ≤ fu) : p_impl_PhraseWithin fu x [v] (n : Int) = some (cutF (wn x v n) (6 ^ n), true) := by
  have hr : p_impl_isRolls (n : Int) = true := by
    unfold p_impl_isRolls
    rw [within_eq, decide_eq_true_eq]; omega
  unfold p_impl_PhraseWithin
  rw [phrase1, hd, hv, hr, if_neg (by decide), if_pos (show (0 : Int) ≤ IntKind.wrap .i64 ((([v] : List Int).length : Int) + 1) from (by decide : (0 : Int) ≤ IntKind.wrap .i64 ((1 : Int) + 1))), if_pos (show IntKind.wrap .i64 ((([v] : List Int).length : Int) + 1) ≤ 1000000000 from (by decide : IntKind.wrap .i64 ((1 : Int) + 1) ≤ 1000000000)), if_pos (show (0 : Int) < IntKind.wrap .i64 ((([v] : List Int).length : Int) + 1) from (by decide : (0 : Int) < IntKind.wrap .i64 ((1 : Int) + 1)))]
  have := ph_run1 (x := x) h v hn hf fu 0 (by omega) (by omega)
  have e0 : [(((6 - x.count v) ^ 0 : Nat) : Int), ((wn x v 0 : Nat) : Int)] = (List.replicate (IntKind.wrap .i64 ((([v] : List Int).length : Int) + 1)).toNat 0).set 0 1 := by
    unfold wn
    rw [Nat.pow_zero, Nat.pow_zero]; rfl
  rw [e0] at this
  exact this
theorem phrase_wait (h : x.length = 6) (hd : p_impl_IsDie x = true) {v : Int} (hv : p_impl_has x v = true) (hf : 1000 ≤ fu) : p_impl_PhraseWait fu x [v] = some (cutF 6 (x.count v), true) := by
  have hc := cnt6 h v
  unfold p_impl_PhraseWait p_impl_PhraseOverlap
  have hfv : p_impl_faces x [v] = (x.count v : Int) := by
    unfold p_impl_faces
    show IntKind.wrap .i64 (1 * p_impl_weight x v) = _
    rw [weight_count h, Int.one_mul]
    exact wrap_nat (by omega)
  have hov : p_impl_overlap fu x [v] [v] = some 6 := by
    obtain ⟨f, rfl⟩ : ∃ f, fu = f + 2 := ⟨fu - 2, by omega⟩
    unfold p_impl_overlap
    have eq : p_slices_Equal_int_int ([v].drop (IntKind.wrap .i64 ((([v] : List Int).length : Int) - 1)).toNat) ([v].take (1 : Int).toNat) = true := by
      show p_slices_Equal_int_int [v] [v] = true
      simp [p_slices_Equal_int_int, cnt]
    have ep := power_eq (fu := f + 2) 1 (by omega) (by omega)
    have e1 : ((1 : Nat) : Int) = 1 := rfl
    rw [e1] at ep
    simp only [whl]
    rw [if_pos (by simp), if_pos (show (0 : Int) ≤ IntKind.wrap .i64 ((([v] : List Int).length : Int) - 1) from (by decide : (0 : Int) ≤ IntKind.wrap .i64 ((1 : Int) - 1))), if_pos (show IntKind.wrap .i64 ((([v] : List Int).length : Int) - 1) ≤ (([v] : List Int).length : Int) from (by decide : IntKind.wrap .i64 ((1 : Int) - 1) ≤ (1 : Int))), if_pos (by decide), eq, if_pos rfl, ep, Option.bind_some]
    have ef : p_impl_faces x ([v].drop (1 : Int).toNat) = 1 := rfl
    rw [ef, if_neg (by simp; decide)]
    rfl
  have e1 := fraction_eq (fu := fu) 6 (x.count v) (by omega) (by omega) (by omega) (by omega)
  have e6 : ((6 : Nat) : Int) = 6 := rfl
  rw [e6] at e1
  rw [phrase1, hd, hv, if_neg (by decide), hov, Option.bind_some, hfv, e1]
  rfl
end
end Go.GA.E
