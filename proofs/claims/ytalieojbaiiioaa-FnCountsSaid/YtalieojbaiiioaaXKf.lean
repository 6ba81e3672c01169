/- Plain law of DistanceOf. -/
import Derived.Test.YtalieojbaiiioaaXKe
namespace Go.GA.E
theorem weight_count {x : List Int} (h : x.length = 6) (v : Int) : p_impl_weight x v = ((x.count v : Nat) : Int) := by
  unfold p_impl_weight
  rw [cnt_list (fun a s c => c (IntKind.wrap .i64 (s + p_impl_truth (decide (a = v))))) x 0 (by omega) (fun i s c h0 h1 => rfl), lrun_fold (fun a s => IntKind.wrap .i64 (s + p_impl_truth (decide (a = v))))]
  have key : ∀ (l : List Int) (m : Nat), m + l.length ≤ 1000 → l.foldl (fun s a => IntKind.wrap .i64 (s + p_impl_truth (decide (a = v)))) (m : Int) = ((m + l.count v : Nat) : Int) := by
    intro l
    induction l with
    | nil => intro m _; simp
    | cons a l ih =>
      intro m hm
      simp only [List.length_cons] at hm
      rw [List.foldl_cons]
      by_cases e : a = v
      · have : IntKind.wrap .i64 ((m : Int) + p_impl_truth (decide (a = v))) = ((m + 1 : Nat) : Int) := by
          rw [decide_eq_true e]; simp only [p_impl_truth, if_true]; exact wrap_i64 (by omega) (by omega)
        rw [this, ih (m + 1) (by omega), e, List.count_cons_self]; congr 1; omega
      · have : IntKind.wrap .i64 ((m : Int) + p_impl_truth (decide (a = v))) = ((m : Nat) : Int) := by
          rw [decide_eq_false e]; simp only [p_impl_truth, Bool.false_eq_true, if_false, Int.add_zero]; exact wrap_nat (by omega)
        rw [this, ih m (by omega), List.count_cons_of_ne e]
  have := key x 0 (by omega)
  simpa using this
/-! ### Fractions -/
theorem cutF_mul (a b k : Nat) (hk : 0 < k) : cutF (a * k) (b * k) = cutF a b := by
  unfold cutF
  rw [Nat.gcd_mul_right, Nat.mul_div_mul_right _ _ hk, Nat.mul_div_mul_right _ _ hk]
theorem plus_eq {fu : Nat} (a b c d : Nat) (hb : 0 < b) (hd : 0 < d) (ha2 : a ≤ 1000000000) (hb2 : b ≤ 10000) (hc2 : c ≤ 1000000000) (hd2 : d ≤ 100000) (hf : 10000000000 ≤ fu) : p_spec_l2Plus fu (cutF a b) (cutF c d) = some (cutF (a * d + c * b) (b * d)) := by
  unfold p_spec_l2Plus
  have hg : 0 < Nat.gcd a b := Nat.gcd_pos_of_pos_right _ hb
  have hh : 0 < Nat.gcd c d := Nat.gcd_pos_of_pos_right _ hd
  have e0 : (cutF a b).getD 0 0 = ((a / Nat.gcd a b : Nat) : Int) := rfl
  have e1 : (cutF a b).getD 1 0 = ((b / Nat.gcd a b : Nat) : Int) := rfl
  have e2 : (cutF c d).getD 0 0 = ((c / Nat.gcd c d : Nat) : Int) := rfl
  have e3 : (cutF c d).getD 1 0 = ((d / Nat.gcd c d : Nat) : Int) := rfl
  rw [e0, e1, e2, e3]
  have ea : a / Nat.gcd a b * Nat.gcd a b = a := Nat.div_mul_cancel (Nat.gcd_dvd_left _ _)
  have eb : b / Nat.gcd a b * Nat.gcd a b = b := Nat.div_mul_cancel (Nat.gcd_dvd_right _ _)
  have ec : c / Nat.gcd c d * Nat.gcd c d = c := Nat.div_mul_cancel (Nat.gcd_dvd_left _ _)
  have ed : d / Nat.gcd c d * Nat.gcd c d = d := Nat.div_mul_cancel (Nat.gcd_dvd_right _ _)
  have la := Nat.div_le_self a (Nat.gcd a b)
  have lb := Nat.div_le_self b (Nat.gcd a b)
  have lc := Nat.div_le_self c (Nat.gcd c d)
  have ld := Nat.div_le_self d (Nat.gcd c d)
  have pb : 0 < b / Nat.gcd a b := Nat.div_pos (Nat.le_of_dvd hb (Nat.gcd_dvd_right _ _)) hg
  have pd : 0 < d / Nat.gcd c d := Nat.div_pos (Nat.le_of_dvd hd (Nat.gcd_dvd_right _ _)) hh
  generalize a / Nat.gcd a b = A at *
  generalize b / Nat.gcd a b = B at *
  generalize c / Nat.gcd c d = C at *
  generalize d / Nat.gcd c d = D at *
  have m1 : A * D ≤ 1000000000 * 100000 := Nat.mul_le_mul (by omega) (by omega)
  have m2 : C * B ≤ 1000000000 * 100000 := Nat.mul_le_mul (by omega) (by omega)
  have m3 : B * D ≤ 10000 * 100000 := Nat.mul_le_mul (by omega) (by omega)
  have p3 : 0 < B * D := Nat.mul_pos pb pd
  rw [← Int.natCast_mul, ← Int.natCast_mul, ← Int.natCast_mul, wrap_nat (n := A * D) (by omega), wrap_nat (n := C * B) (by omega), wrap_nat (n := B * D) (by omega), ← Int.natCast_add, wrap_nat (by omega)]
  by_cases hlt : B * D < fu
  · rw [cut_eq _ _ (by omega) (by omega) (by omega) hlt]
    simp only [Option.bind_some]
    rw [← cutF_mul (A * D + C * B) (B * D) (Nat.gcd a b * Nat.gcd c d) (Nat.mul_pos hg hh)]
    congr 2
    · rw [Nat.add_mul]
      have t1 : A * D * (Nat.gcd a b * Nat.gcd c d) = (A * Nat.gcd a b) * (D * Nat.gcd c d) := by rw [Nat.mul_mul_mul_comm]
      have t2 : C * B * (Nat.gcd a b * Nat.gcd c d) = (C * Nat.gcd c d) * (B * Nat.gcd a b) := by rw [Nat.mul_comm (Nat.gcd a b), Nat.mul_mul_mul_comm]
      rw [t1, t2, ea, eb, ec, ed]
    · have t1 : B * D * (Nat.gcd a b * Nat.gcd c d) = (B * Nat.gcd a b) * (D * Nat.gcd c d) := by rw [Nat.mul_mul_mul_comm]
      rw [t1, eb, ed]
  · omega
/-! ### Distances -/
def dA (f : Nat → Nat) : Nat → Nat
  | 0 => 0
  | i + 1 => dA f i + f i
theorem dA_le {f : Nat → Nat} {B : Nat} : ∀ (n : Nat), (∀ i, i < n → f i ≤ B) → dA f n ≤ n * B
  | 0, _ => by simp [dA]
  | n + 1, h => by
    have := dA_le n (fun i hi => h i (by omega))
    have := h n (by omega)
    simp only [dA, Nat.succ_mul]; omega
/-- the weight of the i-th number, its count, how far it is off -/
def wt (x : List Int) (i : Nat) : Nat := x.count ((dd x).getD i 0)
def offN (x y : List Int) (i : Nat) : Nat := (6 * ((y.getD i 0).toNat : Int) - ((y.map Int.toNat).sum : Int) * (wt x i : Int)).natAbs
def distT (x y : List Int) (i : Nat) : Nat := offN x y i * offN x y i * (60 / wt x i)
def distN (x y : List Int) : Nat := dA (distT x y) (dd x).length
section
variable {x y : List Int}
theorem wt_b (h : x.length = 6) {i : Nat} (hi : i < (dd x).length) : 1 ≤ wt x i ∧ wt x i ≤ 6 := by
  have hm : (dd x).getD i 0 ∈ x := by
    rw [← dd_mem, List.getD_eq_getElem?_getD, List.getElem?_eq_getElem hi]; exact List.getElem_mem _
  exact ⟨List.count_pos_iff.2 hm, h ▸ List.count_le_length⟩
theorem cnt_b (hc : Counts x y) {i : Nat} (hi : i < (dd x).length) : y.getD i 0 = ((y.getD i 0).toNat : Int) ∧ (y.getD i 0).toNat ≤ 12 := by
  have hl := hc.len
  obtain ⟨n, hn, h12⟩ := hc.inn (y.getD i 0) (by rw [List.getD_eq_getElem?_getD, List.getElem?_eq_getElem (by omega)]; exact List.getElem_mem _)
  rw [hn]; simp; exact h12
theorem off_b (h : x.length = 6) (hc : Counts x y) {i : Nat} (hi : i < (dd x).length) : offN x y i ≤ 72 := by
  obtain ⟨w1, w2⟩ := wt_b h hi
  obtain ⟨_, c2⟩ := cnt_b hc hi
  have hs := hc.sum
  have : (y.map Int.toNat).sum * wt x i ≤ 12 * 6 := Nat.mul_le_mul hs w2
  unfold offN
  rw [← Int.natCast_mul]
  omega
theorem sq_natAbs (a : Int) : a * a = ((a.natAbs * a.natAbs : Nat) : Int) := by
  rw [Int.natCast_mul]
  rcases Int.natAbs_eq a with h | h
  · rw [← h]
  · conv => lhs; rw [h]
    rw [Int.neg_mul_neg]
/-- the words of both texts for the square -/
theorem off_word (h : x.length = 6) (hc : Counts x y) {i : Nat} (hi : i < (dd x).length) :
    IntKind.wrap .i64 ((IntKind.wrap .i64 ((IntKind.wrap .i64 (6 * (y.getD i 0))) - (IntKind.wrap .i64 ((p_impl_total y) * (p_impl_weight x ((dd x).getD i 0)))))) * (IntKind.wrap .i64 ((IntKind.wrap .i64 (6 * (y.getD i 0))) - (IntKind.wrap .i64 ((p_impl_total y) * (p_impl_weight x ((dd x).getD i 0))))))) = ((offN x y i * offN x y i : Nat) : Int) := by
  obtain ⟨w1, w2⟩ := wt_b h hi
  obtain ⟨c1, c2⟩ := cnt_b hc hi
  have hs := hc.sum
  have hb := off_b h hc hi
  have hbb : offN x y i * offN x y i ≤ 72 * 72 := Nat.mul_le_mul hb hb
  have hm : (y.map Int.toNat).sum * wt x i ≤ 12 * 6 := Nat.mul_le_mul hs w2
  rw [total_of h hc, weight_count h, c1]
  show IntKind.wrap .i64 ((IntKind.wrap .i64 ((IntKind.wrap .i64 (6 * ((y.getD i 0).toNat : Int))) - (IntKind.wrap .i64 ((((y.map Int.toNat).sum : Nat) : Int) * (wt x i : Int))))) * _) = _
  have e1 : IntKind.wrap .i64 (6 * ((y.getD i 0).toNat : Int)) = 6 * ((y.getD i 0).toNat : Int) := wrap_i64 (by omega) (by omega)
  have e2 : IntKind.wrap .i64 ((((y.map Int.toNat).sum : Nat) : Int) * (wt x i : Int)) = (((y.map Int.toNat).sum : Nat) : Int) * (wt x i : Int) := by
    rw [← Int.natCast_mul]; exact wrap_nat (by omega)
  have e3 : IntKind.wrap .i64 (6 * ((y.getD i 0).toNat : Int) - (((y.map Int.toNat).sum : Nat) : Int) * (wt x i : Int)) = 6 * ((y.getD i 0).toNat : Int) - (((y.map Int.toNat).sum : Nat) : Int) * (wt x i : Int) := by
    unfold offN at hb
    exact wrap_i64 (by omega) (by omega)
  rw [e1]
  show IntKind.wrap .i64 ((IntKind.wrap .i64 ((6 * ((y.getD i 0).toNat : Int)) - (IntKind.wrap .i64 ((((y.map Int.toNat).sum : Nat) : Int) * (wt x i : Int))))) * (IntKind.wrap .i64 ((6 * ((y.getD i 0).toNat : Int)) - (IntKind.wrap .i64 ((((y.map Int.toNat).sum : Nat) : Int) * (wt x i : Int)))))) = _
  rw [e2, e3, sq_natAbs]
  exact wrap_nat (n := offN x y i * offN x y i) (by omega)
theorem distT_b (h : x.length = 6) (hc : Counts x y) {i : Nat} (hi : i < (dd x).length) : distT x y i ≤ 311040 := by
  have hb := off_b h hc hi
  have hbb : offN x y i * offN x y i ≤ 72 * 72 := Nat.mul_le_mul hb hb
  exact Nat.le_trans (Nat.mul_le_mul hbb (Nat.div_le_self 60 _)) (by decide)
theorem dist_impl (h : x.length = 6) (hc : Counts x y) : p_impl_distance x y = some (distN x y : Int) := by
  unfold p_impl_distance
  rw [numbers_impl h]
  simp only [Option.bind_some]
  have hdl : (dd x).length ≤ 6 := h ▸ dd_len x
  have hl := hc.len
  refine cnt_ind0 (dd x).length (fun i s => s = ((dA (distT x y) i : Nat) : Int)) (fun r => r = some (distN x y : Int)) (by omega) rfl (fun s e => by rw [e]; rfl) (fun i s c hi e hk => ?_)
  subst e
  rw [Int.toNat_natCast]
  obtain ⟨w1, w2⟩ := wt_b h hi
  have hle : dA (distT x y) i ≤ i * 311040 := dA_le i (fun j hj => distT_b h hc (by omega))
  have hti := distT_b h hc hi
  rw [if_pos (by omega), off_word h hc hi, weight_count h]
  show (if ((wt x i : Nat) : Int) ≠ 0 then _ else _) = _
  rw [if_pos (by omega)]
  refine hk _ ?_
  show IntKind.wrap .i64 (_ + IntKind.wrap .i64 (_ * IntKind.wrap .i64 ((60 : Int).tdiv ((wt x i : Nat) : Int)))) = _
  have e1 : (60 : Int).tdiv ((wt x i : Nat) : Int) = ((60 / wt x i : Nat) : Int) := rfl
  have h60 := Nat.div_le_self 60 (wt x i)
  have e2 : distT x y i = offN x y i * offN x y i * (60 / wt x i) := rfl
  rw [e1, wrap_nat (n := 60 / wt x i) (by omega), ← Int.natCast_mul, ← e2, wrap_nat (n := distT x y i) (by omega), ← Int.natCast_add, wrap_nat (by omega)]
  rfl
theorem div60 {w : Nat} (h1 : 1 ≤ w) (h6 : w ≤ 6) : 60 / w * w = 60 := by
  have : w = 1 ∨ w = 2 ∨ w = 3 ∨ w = 4 ∨ w = 5 ∨ w = 6 := by omega
  rcases this with rfl | rfl | rfl | rfl | rfl | rfl <;> rfl
theorem dist_step (A o n w : Nat) (h1 : 1 ≤ w) (h6 : w ≤ 6) (hn : 0 < n) : cutF (A * (6 * n * w) + o * (360 * n)) (360 * n * (6 * n * w)) = cutF (A + o * (60 / w)) (360 * n) := by
  have e : o * (360 * n) = o * (60 / w) * (6 * n * w) := by
    have := div60 h1 h6
    calc o * (360 * n) = o * ((60 / w * w) * 6 * n) := by rw [this]
      _ = o * (60 / w) * (6 * n * w) := by ac_rfl
  rw [e, ← Nat.add_mul]
  exact cutF_mul _ _ _ (Nat.mul_pos (by omega) (by omega))
theorem dist_spec {fu : Nat} (h : x.length = 6) (hc : Counts x y) (hf : 10000000000 ≤ fu) : p_spec_l11Distance fu x y = some (cutF (distN x y) (360 * max (y.map Int.toNat).sum 1)) := by
  unfold p_spec_l11Distance
  rw [numbers_eq h (sorted_of_IsDie h hc.die)]
  simp only [Option.bind_some]
  have hdl : (dd x).length ≤ 6 := h ▸ dd_len x
  have hl := hc.len
  have hs := hc.sum
  have hsum : p_spec_l11Sum y = (((y.map Int.toNat).sum : Nat) : Int) := (show p_spec_l11Sum y = p_impl_total y from rfl).trans (total_of h hc)
  by_cases hn : (y.map Int.toNat).sum = 0
  · -- no rolls
    have hz : distN x y = 0 := by
      have hzero : ∀ i, i < (dd x).length → distT x y i = 0 := fun i hi => by
        have := sum_take_le y (i + 1)
        have hs2 := sum_take y i (by omega)
        have e : (y.getD i 0).toNat = 0 := by omega
        have e2 : offN x y i = 0 := by unfold offN; rw [hn, e]; simp
        simp [distT, e2]
      have := dA_le (f := distT x y) (B := 0) (dd x).length (fun i hi => by rw [hzero i hi]; exact Nat.le_refl _)
      unfold distN; omega
    rw [hz, hn, hsum, hn]
    have e0 : cutF 0 (360 * max 0 1) = [0, 1] := by decide
    rw [e0]
    cases hd : Int.toNat ((y.length : Int) - 0) with
    | zero => rfl
    | succ d =>
      simp only [cnt]
      rw [if_neg (by simp)]
  · refine cnt_ind0 y.length (fun i s => s = cutF (dA (distT x y) i) (360 * (y.map Int.toNat).sum)) (fun r => r = some (cutF (distN x y) (360 * max (y.map Int.toNat).sum 1))) (by omega) ?_ (fun s e => by
      rw [e, Nat.max_eq_left (by omega), hl]; rfl) (fun i s c hi e hk => ?_)
    · show [0, 1] = cutF 0 _
      unfold cutF
      rw [Nat.gcd_zero_left, Nat.zero_div, Nat.div_self (by omega)]; rfl
    · have hi' : i < (dd x).length := by omega
      subst e
      obtain ⟨w1, w2⟩ := wt_b h hi'
      have hle : dA (distT x y) i ≤ i * 311040 := dA_le i (fun j hj => distT_b h hc (by omega))
      have hob := off_b h hc hi'
      have hoo : offN x y i * offN x y i ≤ 72 * 72 := Nat.mul_le_mul hob hob
      rw [Int.toNat_natCast, if_pos (by rw [hsum]; simp; exact ⟨by omega, by omega⟩), if_pos (by omega), weight_eq, (show p_spec_l11Sum y = p_impl_total y from rfl), off_word h hc hi', total_of h hc, weight_count h]
      show Option.bind (p_spec_l2Cut fu _ (IntKind.wrap .i64 ((IntKind.wrap .i64 (6 * (((y.map Int.toNat).sum : Nat) : Int))) * ((wt x i : Nat) : Int)))) _ = _
      have hnw : 6 * (y.map Int.toNat).sum * wt x i ≤ 72 * 6 := Nat.mul_le_mul (by omega) w2
      have hnw0 : 0 < 6 * (y.map Int.toNat).sum * wt x i := Nat.mul_pos (by omega) (by omega)
      have e1 : IntKind.wrap .i64 (6 * (((y.map Int.toNat).sum : Nat) : Int)) = ((6 * (y.map Int.toNat).sum : Nat) : Int) := by
        rw [wrap_i64 (by omega) (by omega)]; omega
      rw [e1, ← Int.natCast_mul, wrap_nat (n := 6 * (y.map Int.toNat).sum * wt x i) (by omega), cut_eq _ _ (by omega) (by omega) (by omega) (by omega)]
      simp only [Option.bind_some]
      rw [plus_eq _ _ _ _ (by omega) hnw0 (by omega) (by omega) (by omega) (by omega) hf]
      simp only [Option.bind_some]
      refine hk _ ?_
      rw [dist_step _ _ _ _ w1 w2 (by omega)]
      rfl
theorem distN_b (h : x.length = 6) (hc : Counts x y) : distN x y ≤ 6 * 311040 := by
  have hdl : (dd x).length ≤ 6 := h ▸ dd_len x
  exact Nat.le_trans (dA_le (B := 311040) _ (fun i hi => distT_b h hc hi)) (Nat.mul_le_mul_right _ hdl)
end
end Go.GA.E
