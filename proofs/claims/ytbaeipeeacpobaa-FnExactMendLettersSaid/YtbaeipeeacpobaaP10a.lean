/- Plain laws for chapter 10: copies, marks, pools. -/
import Derived.Test.YtbaeipeeacpobaaGp3
import Derived.Test.YtbaeipeeacpobaaC10d
namespace Go.GA
open Go
set_option maxRecDepth 100000
set_option linter.unusedVariables false
set_option linter.unusedSimpArgs false
theorem toIntA6_eq {x : List Int} (h : x.length = 6) : p_laws_toIntA6 x = x := by
  unfold p_laws_toIntA6
  exact cnt_copy x 0 (k := fun _ s => s) (by simp [h]) (by simp [h])
theorem toIntS_eq {x : List Int} (h : x.length ≤ 1000000000) : p_laws_toIntS x = some x := by
  unfold p_laws_toIntS
  rw [if_pos (by omega)]
  exact cnt_copy x 0 (k := fun _ s => some s) (by simp) (by simp)
theorem eqIntS_eq (x y : List Int) : p_laws_eqIntS x y = decide (x = y) := by
  unfold p_laws_eqIntS
  by_cases hl : x.length = y.length
  · rw [if_pos (by omega)]
    have := cnt_eq (0 : Int) true false x.length 0 x y hl (by omega)
    simp only [Int.sub_zero, Int.toNat_natCast]
    simp only [Int.natCast_zero] at this
    rw [this]
    simp
  · rw [if_neg (by omega)]
    have : x ≠ y := fun h => hl (by rw [h])
    simp [this]
def upL : Nat → Int → List Int
  | 0, _ => []
  | n + 1, k => k :: upL n (k + 1)
theorem upL_len : ∀ (n : Nat) (k : Int), (upL n k).length = n
  | 0, _ => rfl
  | n + 1, k => by simp [upL, upL_len n (k + 1)]
theorem wrap_i64 {n : Int} (h1 : -9223372036854775808 ≤ n) (h2 : n ≤ 9223372036854775807) : IntKind.wrap .i64 n = n := wrap_id h1 h2
theorem mark_eq (x : List Int) (k : Int) (hk : 0 ≤ k) (hl : k + (x.length : Int) ≤ 9223372036854775807) : p_laws_markIntS x k = (k + x.length, upL x.length k) := by
  unfold p_laws_markIntS
  have key : ∀ (d : Nat) (pre post : List Int) (k : Int), post.length = d → 0 ≤ k → k + d ≤ 9223372036854775807 →
      cnt (fun i2 (s1 : Int × (List Int)) c3 _ => c3 ((IntKind.wrap .i64 (s1.1 + 1)), (s1.2.set i2.toNat s1.1))) (fun i2 (s1 : Int × (List Int)) => (s1.1, s1.2)) d (pre.length : Int) (k, pre ++ post) = (k + d, pre ++ upL d k) := by
    intro d
    induction d with
    | zero => intro pre post k hd h0 h1; obtain rfl := List.eq_nil_of_length_eq_zero hd; simp [cnt, upL]
    | succ d ih =>
      intro pre post k hd h0 h1
      match post, hd with
      | p :: post, hd =>
        simp only [cnt]
        rw [Int.toNat_natCast, List.set_append_right _ _ (Nat.le_refl _)]
        simp only [Nat.sub_self, List.set_cons_zero]
        rw [wrap_i64 (by omega) (by omega)]
        have := ih (pre ++ [k]) post (k + 1) (by simpa using hd) (by omega) (by omega)
        simp only [List.length_append, List.length_cons, List.length_nil, List.append_assoc, List.cons_append, List.nil_append] at this
        rw [show (pre.length : Int) + 1 = ((pre.length + (0 + 1) : Nat) : Int) by omega, this]
        simp only [upL, Prod.mk.injEq, and_true]; omega
  have := key x.length [] x k rfl hk hl
  simpa using this
theorem held_eq (n : Nat) (k : Int) (hk : 0 ≤ k) (hl : k + (n : Int) ≤ 9223372036854775807) : p_laws_heldIntS (upL n k) k = k + n := by
  unfold p_laws_heldIntS
  have key : ∀ (d : Nat) (pre : List Int) (k : Int), 0 ≤ k → k + d ≤ 9223372036854775807 →
      cnt (fun i2 (s1 : Int) c3 _ => (if ((pre ++ upL d k).getD i2.toNat 0) = s1 then c3 (IntKind.wrap .i64 (s1 + 1)) else (-1))) (fun i2 (s1 : Int) => s1) d (pre.length : Int) k = k + d := by
    intro d
    induction d with
    | zero => intro pre k h0 h1; simp [cnt]
    | succ d ih =>
      intro pre k h0 h1
      simp only [cnt, Int.toNat_natCast]
      have e : (pre ++ upL (d + 1) k).getD pre.length 0 = k := by simp [upL, List.getD_eq_getElem?_getD]
      rw [if_pos e, wrap_i64 (by omega) (by omega)]
      have := ih (pre ++ [k]) (k + 1) (by omega) (by omega)
      simp only [List.length_append, List.length_cons, List.length_nil, List.append_assoc, List.cons_append, List.nil_append] at this
      rw [show (pre.length : Int) + 1 = ((pre.length + (0 + 1) : Nat) : Int) by omega]
      refine Eq.trans this ?_
      omega
  have := key n [] k hk hl
  simp only [upL_len, Int.sub_zero, Int.toNat_natCast]
  simpa using this
theorem held_mark (x : List Int) (hl : x.length ≤ 1000000000000) : p_laws_heldIntS (p_laws_markIntS x 1).2 1 = 1 + x.length ∧ (p_laws_markIntS x 1).1 = 1 + x.length := by
  rw [mark_eq x 1 (by omega) (by omega)]
  exact ⟨held_eq _ 1 (by omega) (by omega), rfl⟩
theorem l2Die_eq {x : List Int} (h : x.length = 6) : p_spec_l2Die x = some (p_impl_IsDie x) := by
  obtain ⟨a, b, c, d, e, f, rfl⟩ := len6 h
  simp [p_spec_l2Die, p_impl_IsDie, p_impl_areAll_int, p_slices_ContainsFunc_int_int, p_slices_IndexFunc_int_int, p_slices_IsSorted_int_int, cnt, cntd, p_spec_l1In, p_impl_areAll_int_1, p_impl_isFace, p_impl_within, p_cmp_Less_int, p_cmp_isNaN_int]
  repeat' split
  all_goals first | omega | (simp; done) | (simp; omega)
theorem l1In_eq (x a b : Int) : p_spec_l1In x a b = decide (a ≤ x ∧ x ≤ b) := by simp [p_spec_l1In]
theorem within_eq (x a b : Int) : p_impl_within x a b = decide (a ≤ x ∧ x ≤ b) := by simp [p_impl_within]
theorem within_In (x a b : Int) : p_impl_within x a b = p_spec_l1In x a b := rfl
theorem noneFunc {α : Type} (b : α → Bool) (dflt : α) (x : List α) : (!decide (0 ≤ cnt (fun i (s : Unit) c _ => if b (x.getD i.toNat dflt) = true then i else c ()) (fun _ _ => (-1 : Int)) (Int.toNat ((x.length : Int) - 0)) 0 ())) = x.all (fun a => !b a) := by
  have := cnt_find b dflt x x.length 0 (by omega)
  simp only [Int.sub_zero, Int.toNat_natCast]
  simp only [Int.natCast_zero] at this
  rw [this, List.drop_zero, List.not_any_eq_all_not]
theorem areAll_eq (x : List Int) : p_impl_areAll_int x = x.all (fun a => p_impl_within a 0 30) := by
  unfold p_impl_areAll_int p_slices_ContainsFunc_int_int p_slices_IndexFunc_int_int
  rw [noneFunc]
  congr 1
  funext a
  simp [p_impl_areAll_int_1, p_impl_isFace]
theorem wrap_nat {n : Nat} (h : n ≤ 9223372036854775807) : IntKind.wrap .i64 (n : Int) = (n : Int) := wrap_i64 (by omega) (by omega)
theorem tdiv_nat (a b : Nat) : Int.tdiv (a : Int) (b : Int) = ((a / b : Nat) : Int) := rfl
def wsum (s : Int) (l : List Int) : Int := l.foldl (fun s v => IntKind.wrap .i64 (s + v)) s
theorem total_eq (x : List Int) : p_impl_total x = wsum 0 x := by
  unfold p_impl_total
  rw [cnt_list (fun v s c => c (IntKind.wrap .i64 (s + v))) x 0 (by omega) (fun i s c h0 h1 => rfl), lrun_fold (fun v s => IntKind.wrap .i64 (s + v))]; rfl
def Six (p : List (List Int)) : Prop := ∀ d ∈ p, d.length = 6
theorem getD_six {p : List (List Int)} (h : Six p) {i : Nat} (hi : i < p.length) : (p.getD i (List.replicate 6 0)).length = 6 := by
  rw [List.getD_eq_getElem?_getD, List.getElem?_eq_getElem hi]
  exact h _ (List.getElem_mem _)
theorem iter_copyF {α : Type} (f : α → α) (xs : List α) (dflt : α) (hf : ∀ i, i < xs.length → f (xs.getD i dflt) = xs.getD i dflt) : ∀ (d i : Nat) (s : List α), d + i = xs.length → s.length = xs.length → s.take i = xs.take i → iter (fun i s => s.set i.toNat (f (xs.getD i.toNat dflt))) d (i : Int) s = xs
  | 0, i, s, h, hl, ht => by
    simp only [iter]
    rw [List.take_of_length_le (by omega), List.take_of_length_le (by omega)] at ht
    exact ht
  | d + 1, i, s, h, hl, ht => by
    simp only [iter]
    have hi : i < xs.length := by omega
    rw [Int.toNat_natCast, hf i hi]
    have := iter_copyF f xs dflt hf d (i + 1) (s.set i (xs.getD i dflt)) (by omega) (by simp [hl]) (by
      rw [List.take_add_one, List.take_add_one, List.take_set_of_le (Nat.le_refl i), ht]
      simp [hi, hl])
    simpa using this
theorem toIntA6S_eq {x : List (List Int)} (h : Six x) (hl : x.length ≤ 1000000000) : p_laws_toIntA6S x = some x := by
  unfold p_laws_toIntA6S
  rw [if_pos (by omega), cnt_iter]
  have := iter_copyF p_laws_toIntA6 x (List.replicate 6 0) (fun i hi => toIntA6_eq (getD_six h hi)) x.length 0 (List.replicate x.length (List.replicate 6 0)) (by omega) (by simp) (by simp)
  simp only [Int.natCast_zero] at this
  rw [show Int.toNat ((x.length : Int) - 0) = x.length by omega, show ((x.length : Int)).toNat = x.length by omega, this]
theorem eqIntA6_self (x : List Int) : p_laws_eqIntA6 x x = true := by
  unfold p_laws_eqIntA6
  refine cnt_ind0 6 (fun _ _ => True) (fun r => r = true) rfl trivial (fun _ _ => rfl) (fun i s c _ _ hc => ?_)
  rw [if_pos rfl]; exact hc _ trivial
theorem eqIntA6S_self (x : List (List Int)) : p_laws_eqIntA6S x x = true := by
  unfold p_laws_eqIntA6S
  rw [if_pos rfl]
  refine cnt_ind0 x.length (fun _ _ => True) (fun r => r = true) (by omega) trivial (fun _ _ => rfl) (fun i s c _ _ hc => ?_)
  rw [if_pos (eqIntA6_self _)]; exact hc _ trivial
theorem szS_ok {n k : Int} (hn : 0 ≤ n) (hn2 : n ≤ 9223372036854775807) (hk : 0 ≤ k) (hk2 : k ≤ 1048576) : IntKind.wrap .i64 (k - n) = k - n := wrap_i64 (by omega) (by omega)
theorem szA6S_cases (x : List (List Int)) (k : Int) (hl : x.length ≤ lim) (hk : 0 ≤ k) (hk2 : k ≤ 1048576) : p_laws_szIntA6S x k < 0 ∨ ((x.length : Int) ≤ k ∧ p_laws_szIntA6S x k = k - x.length) := by
  unfold p_laws_szIntA6S
  simp only [lim] at hl
  rw [szS_ok (by omega) (by omega) hk hk2]
  split
  · exact .inl (by omega)
  · exact .inr ⟨by omega, rfl⟩
theorem pool_eq {x : List (List Int)} (h : Six x) : p_spec_l2Pool x = some (p_impl_IsPool x) := by
  have hall : p_impl_areAll_6_int x = x.all p_impl_IsDie := by
    unfold p_impl_areAll_6_int p_slices_ContainsFunc_6_int_6_int p_slices_IndexFunc_6_int_6_int
    rw [noneFunc p_impl_areAll_6_int_1]
    congr 1
    funext a
    simp [p_impl_areAll_6_int_1]
  unfold p_impl_IsPool
  rw [hall, within_In]
  unfold p_spec_l2Pool
  have key : ∀ (d i : Nat), d + i = x.length → cnt (fun i2 (s1 : Unit) c3 k16 => (if ((decide (i2 < (x.length : Int))) && (decide (i2 ≤ 4))) = true then (p_spec_l2Die (x.getD i2.toNat (List.replicate 6 0))).bind (fun r14 => (if r14 = true then c3 () else some false)) else k16 i2 s1)) (fun i2 (s1 : Unit) => some (p_spec_l1In (x.length : Int) 1 4)) d (i : Int) () = some (p_spec_l1In (x.length : Int) 1 4 && (x.drop i).all p_impl_IsDie) := by
    intro d
    induction d with
    | zero => intro i hh; rw [List.drop_eq_nil_of_le (by omega)]; simp [cnt]
    | succ d ih =>
      intro i hh
      have h1 : i < x.length := by omega
      simp only [cnt]
      rw [show (i : Int) + 1 = ((i + 1 : Nat) : Int) from rfl, ih (i + 1) (by omega), List.drop_eq_getElem_cons h1, List.all_cons]
      by_cases h12 : (i : Int) ≤ 4
      · have hc : (decide ((i : Int) < (x.length : Int)) && decide ((i : Int) ≤ 4)) = true := by simp; omega
        rw [if_pos hc, Int.toNat_natCast, l2Die_eq (getD_six h h1)]
        simp only [Option.bind_some, List.getD_eq_getElem?_getD, List.getElem?_eq_getElem h1, Option.getD_some]
        cases p_impl_IsDie x[i] <;> simp
      · have hc : ¬ (decide ((i : Int) < (x.length : Int)) && decide ((i : Int) ≤ 4)) = true := by simp; omega
        rw [if_neg hc]
        have : p_spec_l1In (x.length : Int) 1 4 = false := by rw [l1In_eq]; simp; omega
        simp [this]
  have := key x.length 0 (by omega)
  simp only [Int.sub_zero, Int.toNat_natCast]
  simpa using this
theorem pool_len {x : List (List Int)} (h : p_impl_IsPool x = true) : 1 ≤ x.length ∧ x.length ≤ 4 := by
  unfold p_impl_IsPool at h
  simp only [Bool.and_eq_true, within_eq, decide_eq_true_eq] at h
  omega
def upM : Nat → Int → List (List Int)
  | 0, _ => []
  | n + 1, k => upL 6 k :: upM n (k + 6)
theorem upM_len : ∀ (n : Nat) (k : Int), (upM n k).length = n
  | 0, _ => rfl
  | n + 1, k => by simp [upM, upM_len n (k + 6)]
theorem mark_row {R : Type} (i : Nat) (K : Int × List (List Int) → R) : ∀ (d : Nat) (pre post : List Int) (s : List (List Int)) (k : Int), post.length = d → i < s.length → s.getD i (List.replicate 6 0) = pre ++ post → 0 ≤ k → k + d ≤ 9223372036854775807 →
    cnt (fun i9 (s8 : Int × (List (List Int))) c10 _ => c10 ((IntKind.wrap .i64 (s8.1 + 1)), (s8.2.set i ((s8.2.getD i (List.replicate 6 0)).set i9.toNat s8.1)))) (fun i9 (s8 : Int × (List (List Int))) => K (s8.1, s8.2)) d (pre.length : Int) (k, s) = K (k + d, s.set i (pre ++ upL d k))
  | 0, pre, post, s, k, h, hi, he, h0, h1 => by
    obtain rfl := List.eq_nil_of_length_eq_zero h
    have e : s.set i (pre ++ upL 0 k) = s := by
      rw [show pre ++ upL 0 k = s.getD i (List.replicate 6 0) by rw [he]; rfl, List.getD_eq_getElem?_getD, List.getElem?_eq_getElem hi]
      simp
    simp only [cnt]
    rw [e]; simp
  | d + 1, pre, post, s, k, h, hi, he, h0, h1 => by
    match post, h with
    | p :: post, h =>
      simp only [cnt]
      rw [Int.toNat_natCast, he, List.set_append_right _ _ (Nat.le_refl _), wrap_i64 (by omega) (by omega)]
      simp only [Nat.sub_self, List.set_cons_zero]
      have := mark_row i K d (pre ++ [k]) post (s.set i (pre ++ k :: post)) (k + 1) (by simpa using h) (by rw [List.length_set]; exact hi) (by
        rw [List.getD_eq_getElem?_getD, List.getElem?_set_self (by exact hi)]; simp) (by omega) (by omega)
      simp only [List.length_append, List.length_cons, List.length_nil, List.append_assoc, List.cons_append, List.nil_append, List.set_set] at this
      rw [show (pre.length : Int) + 1 = ((pre.length + (0 + 1) : Nat) : Int) by omega, this]
      simp only [upL]
      rw [show k + 1 + (d : Int) = k + ((d + 1 : Nat) : Int) by omega]
theorem mark6_eq (x : List (List Int)) (hx : Six x) (k : Int) (hk : 0 ≤ k) (hl : k + 6 * (x.length : Int) ≤ 9223372036854775807) : p_laws_markIntA6S x k = (k + 6 * x.length, upM x.length k) := by
  unfold p_laws_markIntA6S
  have key : ∀ (d : Nat) (pre post : List (List Int)) (k : Int), post.length = d → Six post → 0 ≤ k → k + 6 * d ≤ 9223372036854775807 →
      cnt (fun i2 (s1 : Int × (List (List Int))) c3 _ => cnt (fun i9 (s8 : Int × (List (List Int))) c10 _ => c10 ((IntKind.wrap .i64 (s8.1 + 1)), (s8.2.set i2.toNat ((s8.2.getD i2.toNat (List.replicate 6 0)).set i9.toNat s8.1)))) (fun i9 (s8 : Int × (List (List Int))) => c3 (s8.1, s8.2)) (Int.toNat (6 - 0)) 0 (s1.1, s1.2)) (fun i2 (s1 : Int × (List (List Int))) => (s1.1, s1.2)) d (pre.length : Int) (k, pre ++ post) = (k + 6 * d, pre ++ upM d k) := by
    intro d
    induction d with
    | zero => intro pre post k hd hs h0 h1; obtain rfl := List.eq_nil_of_length_eq_zero hd; simp [cnt, upM]
    | succ d ih =>
      intro pre post k hd hs h0 h1
      match post, hd with
      | p :: post, hd =>
        have hp : p.length = 6 := hs p (by simp)
        simp only [cnt, Int.toNat_natCast]
        have h6 : Int.toNat (6 - 0) = 6 := rfl
        have hm := mark_row (R := Int × List (List Int)) pre.length (fun s8 => cnt (fun i2 (s1 : Int × (List (List Int))) c3 _ => cnt (fun i9 (s8 : Int × (List (List Int))) c10 _ => c10 ((IntKind.wrap .i64 (s8.1 + 1)), (s8.2.set i2.toNat ((s8.2.getD i2.toNat (List.replicate 6 0)).set i9.toNat s8.1)))) (fun i9 (s8 : Int × (List (List Int))) => c3 (s8.1, s8.2)) (Int.toNat (6 - 0)) 0 (s1.1, s1.2)) (fun i2 (s1 : Int × (List (List Int))) => (s1.1, s1.2)) d ((pre.length : Int) + 1) s8) 6 [] p (pre ++ p :: post) k hp (by simp) (by simp [List.getD_eq_getElem?_getD]) h0 (by omega)
        refine Eq.trans hm ?_
        rw [List.nil_append, List.set_append_right _ _ (Nat.le_refl _)]
        simp only [Nat.sub_self, List.set_cons_zero]
        have := ih (pre ++ [upL 6 k]) post (k + 6) (by simpa using hd) (fun e he => hs e (by simp [he])) (by omega) (by omega)
        simp only [List.length_append, List.length_cons, List.length_nil, List.append_assoc, List.cons_append, List.nil_append] at this
        rw [show (pre.length : Int) + 1 = ((pre.length + (0 + 1) : Nat) : Int) by omega]
        refine Eq.trans this ?_
        simp only [upM, Prod.mk.injEq, and_true]; omega
  have := key x.length [] x k rfl hx hk hl
  simpa using this
theorem held6_mark (x : List (List Int)) (hx : Six x) (hl : x.length ≤ 1000000000) : ¬ (p_laws_markIntA6S x 1).1 < 0 := by
  rw [mark6_eq x hx 1 (by omega) (by omega)]
  simp only
  omega
theorem pool_in {x : List (List Int)} (o : OkT (.slice (.arr 6 (.int .i64))) x) : Six x ∧ x.length ≤ lim := ⟨fun d hd => (o.2 d hd).1, o.1⟩
end Go.GA
