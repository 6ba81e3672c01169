/- Plain law of FnKept: joined. -/
import Derived.Test.YtddljmnmkiofmaaVKd
namespace Go.GA
open Go
set_option maxRecDepth 100000
def EA (fu : Nat) (p : List (List Int)) (k : Int) (T : List Int) (ok : Bool) (C : List Int) (P : List Int) (D : List Int) : Option Bool :=
  (if ok = true then cnt (fun i479 (s478 : Int × Int) c480 _ => c480 ((IntKind.wrap .i64 (s478.1 + (T.getD i479.toNat 0))), (IntKind.wrap .i64 (s478.2 + (IntKind.wrap .i64 (i479 * (T.getD i479.toNat 0))))))) (fun i479 (s478 : Int × Int) => cnt (fun i486 (s485 : Int) c487 _ => c487 (IntKind.wrap .i64 (s485 + (P.getD i486.toNat 0)))) (fun i486 (s485 : Int) => (p_laws_vSix fu (p.length : Int)).bind (fun r492 => (if (((!(decide (s478.1 = r492))) || (!(decide (s485 = s478.1)))) || (!(decide ((IntKind.wrap .i64 (s478.2 * (C.getD 1 0))) = (IntKind.wrap .i64 ((C.getD 0 0) * s478.1)))))) = true then some false else jn (fun (s552 : Unit) => (if 1 < k then (p_impl_MeanKept fu p (IntKind.wrap .i64 (k - 1))).bind (fun r558 => (p_impl_MeanPlace fu p (IntKind.wrap .i64 (k - 1))).bind (fun r559 => some (((r558.2 && r559.2) && (decide ((IntKind.wrap .i64 ((IntKind.wrap .i64 ((C.getD 0 0) * (r558.1.getD 1 0))) * (D.getD 1 0))) = (IntKind.wrap .i64 ((IntKind.wrap .i64 ((IntKind.wrap .i64 ((r558.1.getD 0 0) * (D.getD 1 0))) + (IntKind.wrap .i64 ((D.getD 0 0) * (r558.1.getD 1 0))))) * (C.getD 1 0)))))) && (!(p_laws_vLess r559.1 D))))) else some (decide (C = D)))) (fun k553 => (if k = (p.length : Int) then (p_impl_SumTable p).bind (fun r657 => (if ((!r657.2) || (!(decide (r657.1 = T)))) = true then some false else k553 ())) else k553 ()))))) (Int.toNat (31 - 0)) 0 0) (Int.toNat (121 - 0)) 0 (0, 0) else some true)
theorem mulb {a b A B : Int} (h1 : 0 ≤ a) (h2 : a ≤ A) (h3 : 0 ≤ b) (h4 : b ≤ B) : 0 ≤ a * b ∧ a * b ≤ A * B := ⟨Int.mul_nonneg h1 h3, Int.mul_le_mul h2 h4 h3 (by omega)⟩
theorem split_ok {x y z N : Nat} (hN : 0 < N) (hN2 : N ≤ 1296) (hx : x ≤ 155520) (h : x = y + z) : ∃ a b c d e f : Int, cutF x N = [a, b] ∧ cutF y N = [c, d] ∧ cutF z N = [e, f] ∧ IntKind.wrap .i64 (IntKind.wrap .i64 (a * d) * f) = IntKind.wrap .i64 (IntKind.wrap .i64 (IntKind.wrap .i64 (c * f) + IntKind.wrap .i64 (e * d)) * b) := by
  obtain ⟨a, b, e1, x1, x2, x3, x4, x5⟩ := cut_of (x := (x : Int)) (by omega) hN
  obtain ⟨c, d, e2, y1, y2, y3, y4, y5⟩ := cut_of (x := (y : Int)) (by omega) hN
  obtain ⟨e, f, e3, z1, z2, z3, z4, z5⟩ := cut_of (x := (z : Int)) (by omega) hN
  rw [Int.toNat_natCast] at e1 e2 e3
  refine ⟨a, b, c, d, e, f, e1, e2, e3, ?_⟩
  obtain ⟨q1, q2⟩ := mulb (A := 155520) (B := 1296) x2 (by omega) (by omega : 0 ≤ d) (by omega)
  obtain ⟨q3, q4⟩ := mulb (A := 155520 * 1296) (B := 1296) q1 q2 (by omega : 0 ≤ f) (by omega)
  obtain ⟨q5, q6⟩ := mulb (A := 155520) (B := 1296) y2 (by omega) (by omega : 0 ≤ f) (by omega)
  obtain ⟨q7, q8⟩ := mulb (A := 155520) (B := 1296) z2 (by omega) (by omega : 0 ≤ d) (by omega)
  have hk : a * d * f = (c * f + e * d) * b := by
    have hNp : (0 : Int) < N := by omega
    refine Int.eq_of_mul_eq_mul_right (by omega : (N : Int) ≠ 0) ?_
    have hx' : (x : Int) = y + z := by omega
    grind
  rw [wr (n := a * d) (by omega) (by omega), wr (n := c * f) (by omega) (by omega), wr (n := e * d) (by omega) (by omega), wr (n := c * f + e * d) (by omega) (by omega), hk]
theorem ea_ok {p : List (List Int)} (h6 : Six p) {fu : Nat} (hf : 200000 ≤ fu) (k : Int) : EA fu p k (if okK p k = true then (tabV 121 (valsOf p (kv p k.toNat)), true) else (List.replicate 121 0, false)).1 (if okK p k = true then (tabV 121 (valsOf p (kv p k.toNat)), true) else (List.replicate 121 0, false)).2 (if okK p k = true then (cutF (valsOf p (kv p k.toNat)).sum (6 ^ p.length), true) else (List.replicate 2 0, false)).1 (if okK p k = true then (tabV 31 (valsOf p (pv p k.toNat)), true) else (List.replicate 31 0, false)).1 (if okK p k = true then (cutF (valsOf p (pv p k.toNat)).sum (6 ^ p.length), true) else (List.replicate 2 0, false)).1 = some true := by
  unfold EA
  by_cases h : okK p k = true
  · obtain ⟨hl, hd, j, rfl, h1, h2⟩ := ok_of h6 h
    have hpool : p_impl_IsPool p = true := by
      unfold okK at h
      simp only [Bool.and_eq_true] at h
      exact h.1
    simp only [if_pos h, Int.toNat_natCast, ↓reduceIte]
    have hs := ksum_le hl hd j
    have hs2 := psum_le hl hd h1 h2
    have hp := pow4 hl
    have hp0 : 0 < 6 ^ p.length := Nat.pow_pos (by omega)
    have e5 : Int.toNat (31 - 0) = 31 := rfl
    have e6 : Int.toNat (121 - 0) = 121 := rfl
    have hsix : p_laws_vSix fu (p.length : Int) = some ((6 ^ p.length : Nat) : Int) := power_eq (by omega) (by omega)
    rw [e5, e6, mom3 (kvals_lt hl hd j) (by omega) (by rw [vals_len]; omega), sum1 (pvals_lt hd h1 h2) (by omega) (by rw [vals_len]; omega), hsix, Option.bind_some, vals_len, vals_len]
    simp only
    obtain ⟨a, b, e1, x1, x2, x3, x4, x5⟩ := cut_of (x := (((valsOf p (kv p j)).sum : Nat) : Int)) (by omega) hp0
    rw [Int.toNat_natCast] at e1
    have hmean : IntKind.wrap .i64 ((((valsOf p (kv p j)).sum : Nat) : Int) * (cutF (valsOf p (kv p j)).sum (6 ^ p.length)).getD 1 0) = IntKind.wrap .i64 ((cutF (valsOf p (kv p j)).sum (6 ^ p.length)).getD 0 0 * ((6 ^ p.length : Nat) : Int)) := by
      rw [e1]
      show IntKind.wrap .i64 (_ * b) = IntKind.wrap .i64 (a * _)
      rw [x1]
    rw [if_neg (by rw [hmean]; simp)]
    unfold jn
    have hlast : (if (1 : Int) < (j : Int) then (p_impl_MeanKept fu p (IntKind.wrap .i64 ((j : Int) - 1))).bind (fun r558 => (p_impl_MeanPlace fu p (IntKind.wrap .i64 ((j : Int) - 1))).bind (fun r559 => some (((r558.2 && r559.2) && (decide ((IntKind.wrap .i64 ((IntKind.wrap .i64 (((cutF (valsOf p (kv p j)).sum (6 ^ p.length)).getD 0 0) * (r558.1.getD 1 0))) * ((cutF (valsOf p (pv p j)).sum (6 ^ p.length)).getD 1 0))) = (IntKind.wrap .i64 ((IntKind.wrap .i64 ((IntKind.wrap .i64 ((r558.1.getD 0 0) * ((cutF (valsOf p (pv p j)).sum (6 ^ p.length)).getD 1 0))) + (IntKind.wrap .i64 (((cutF (valsOf p (pv p j)).sum (6 ^ p.length)).getD 0 0) * (r558.1.getD 1 0))))) * ((cutF (valsOf p (kv p j)).sum (6 ^ p.length)).getD 1 0)))))) && (!(p_laws_vLess r559.1 (cutF (valsOf p (pv p j)).sum (6 ^ p.length))))))) else some (decide (cutF (valsOf p (kv p j)).sum (6 ^ p.length) = cutF (valsOf p (pv p j)).sum (6 ^ p.length)))) = some true := by
      have hsp := ksum_split hd h1 h2
      by_cases hj : 1 < j
      · have ew : IntKind.wrap .i64 ((j : Int) - 1) = ((j - 1 : Nat) : Int) := by rw [wr (by omega) (by omega)]; omega
        have hok : okK p ((j - 1 : Nat) : Int) = true := by
          unfold okK
          rw [hpool, pwithin_eq]
          simp; omega
        rw [if_pos (by omega), ew, (mkept_eq h6 hf _).1, Option.bind_some, (mplace_eq h6 hf _).1, Option.bind_some, if_pos hok, if_pos hok, Int.toNat_natCast]
        obtain ⟨a, b, c, d, e, f, c1, c2, c3, c4⟩ := split_ok hp0 hp hs hsp
        have hanti := psum_anti hd (k := j) (by omega) h2
        have hs3 := psum_le hl hd (k := j - 1) (by omega) (by omega)
        have hless : p_laws_vLess (cutF (valsOf p (pv p (j - 1))).sum (6 ^ p.length)) (cutF (valsOf p (pv p j)).sum (6 ^ p.length)) = false := by
          have hl := less_cut (x := (((valsOf p (pv p (j - 1))).sum : Nat) : Int)) (y := (((valsOf p (pv p j)).sum : Nat) : Int)) (N := 6 ^ p.length) (by omega) (by omega) hp0 (by omega) (by omega) (by omega)
          rw [Int.toNat_natCast, Int.toNat_natCast] at hl
          unfold p_laws_vLess
          rw [decide_eq_false_iff_not, hl]
          omega
        simp only
        rw [hless, c1, c2, c3]
        simp only [List.getD_cons_zero, List.getD_cons_succ]
        rw [c4]
        simp
      · have hj1 : j = 1 := by omega
        subst hj1
        rw [if_neg (by omega)]
        have : (valsOf p (kv p (1 - 1))).sum = 0 := kzero
        rw [this, Nat.zero_add] at hsp
        rw [hsp]
        simp
    dsimp only
    by_cases hj : (j : Int) = (p.length : Int)
    · rw [if_pos hj]
      unfold p_impl_SumTable
      rw [if_pos hpool, sums_eq hl hd, Option.bind_some, Option.bind_some]
      have hv : valsOf p (kv p j) = valsOf p (sv p) := by
        unfold valsOf
        refine List.map_congr_left (fun n _ => ?_)
        rw [show j = p.length by omega, kv_all hd]
      rw [if_neg (by rw [hv]; simp)]
      exact hlast
    · rw [if_neg hj]
      exact hlast
  · simp only [if_neg h]
    rfl
theorem law_FnKept {x : List Int} (hx : Bytes x) {fu : Nat} (hf : 200000 ≤ fu) : p_laws_FnKept fu x = some true := by
  unfold p_laws_FnKept
  by_cases hb : p_laws_vBig x = true
  · rw [if_pos hb]
  · rw [if_neg hb]
    have hlen : x.length ≤ 65536 := by
      unfold p_laws_vBig at hb
      simp at hb
      omega
    obtain ⟨p, k, d1, h6⟩ := drawKeep hx (fu := fu) (by omega)
    obtain ⟨y, d2, hy⟩ := cut_bytes hx hlen
    obtain ⟨p', n, d3, h6'⟩ := drawDrop hy (fu := fu) (by omega)
    obtain ⟨T, ok, t1, t2, t3⟩ := drop_eq h6' (fu := fu) (by omega) n
    rw [d1, Option.bind_some]
    simp only
    obtain ⟨a1, a2⟩ := keep_eq h6 (fu := fu) (by omega) k
    obtain ⟨b1, b2⟩ := mkept_eq h6 hf k
    obtain ⟨c1, c2⟩ := place_eq h6 (fu := fu) (by omega) k
    obtain ⟨e1, e2⟩ := mplace_eq h6 hf k
    rw [a1, Option.bind_some, a2, Option.bind_some, b1, Option.bind_some, b2, Option.bind_some, c1, Option.bind_some, c2, Option.bind_some, e1, Option.bind_some, e2, Option.bind_some, d2, Option.bind_some, d3, Option.bind_some]
    simp only
    rw [t1, Option.bind_some, t2, Option.bind_some]
    rw [if_neg (by
      by_cases h : okK p k = true
      · simp only [if_pos h]; simp
      · simp only [if_neg h]; simp)]
    refine (t3 (fun _ => EA fu p k (if okK p k = true then (tabV 121 (valsOf p (kv p k.toNat)), true) else (List.replicate 121 0, false)).1 (if okK p k = true then (tabV 121 (valsOf p (kv p k.toNat)), true) else (List.replicate 121 0, false)).2 (if okK p k = true then (cutF (valsOf p (kv p k.toNat)).sum (6 ^ p.length), true) else (List.replicate 2 0, false)).1 (if okK p k = true then (tabV 31 (valsOf p (pv p k.toNat)), true) else (List.replicate 31 0, false)).1 (if okK p k = true then (cutF (valsOf p (pv p k.toNat)).sum (6 ^ p.length), true) else (List.replicate 2 0, false)).1)).trans ?_
    exact ea_ok h6 hf k
theorem pure_FnKept {x : List Int} (o : OkT (.slice (.int .u8)) x) : ∃ fu, p_laws_FnKept fu x = some true := by
  have hx : Bytes x := fun b hb => by
    have h : (Lit.int .u8 b).wf = true := o.2 b hb
    simp only [Lit.wf, Bool.and_eq_true, decide_eq_true_eq] at h
    have e1 : IntKind.u8.min = 0 := by decide
    have e2 : IntKind.u8.max = 255 := by decide
    rw [e1, e2] at h
    exact h
  exact ⟨200000, law_FnKept hx (by omega)⟩
end Go.GA
