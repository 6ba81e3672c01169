/- Plain law of FnPairForms: one die like a pool. -/
import Derived.Test.YtebdkchfblddeaaPK8
namespace Go.GA
open Go
set_option maxRecDepth 100000
set_option linter.unusedSectionVars false
/-- each sum as often as its ways allow -/
def ex (T : List Int) (q : Int) : Nat → List Int
  | 0 => []
  | n + 1 => ex T q n ++ List.replicate (T.getD n 0 / q).toNat (n : Int)
def tk (T : List Int) : Nat → Int
  | 0 => 0
  | i + 1 => tk T i + T.getD i 0
theorem tk_sum (T : List Int) : ∀ i, i ≤ T.length → tk T i + (T.drop i).sum = T.sum
  | 0, _ => by simp [tk]
  | i + 1, h => by
    have := tk_sum T i (by omega)
    rw [List.drop_eq_getElem_cons (by omega), List.sum_cons] at this
    simp only [tk]
    rw [List.getD_eq_getElem?_getD, List.getElem?_eq_getElem (show i < T.length by omega)]
    simp only [Option.getD_some]
    omega
theorem tk_all {T : List Int} {n : Nat} (h : T.length = n) : tk T n = T.sum := by
  have := tk_sum T n (by omega)
  rw [List.drop_eq_nil_of_le (by omega)] at this
  simpa using this
/-- the ways of this sum are those of faces -/
def Gd (T : List Int) (q : Int) (s : Nat) : Prop := T.getD s 0 % q = 0 ∧ (0 < T.getD s 0 → s ≤ 30)
theorem ex_len {T : List Int} (hT : NN T) {q : Int} (hq : 0 < q) : ∀ n, (∀ j, j < n → Gd T q j) → q * ((ex T q n).length : Int) = tk T n
  | 0, _ => by simp [ex, tk]
  | n + 1, h => by
    have ih := ex_len hT hq n (fun j hj => h j (by omega))
    have hg := (h n (by omega)).1
    have h0 := hT n
    have h1 : 0 ≤ T.getD n 0 / q := Int.ediv_nonneg h0 (by omega)
    have h2 : q * (T.getD n 0 / q) = T.getD n 0 := Int.mul_ediv_cancel' (Int.dvd_of_emod_eq_zero hg)
    simp only [ex, tk]
    rw [List.length_append, List.length_replicate, Int.natCast_add, Int.toNat_of_nonneg h1, Int.mul_add, ih, h2]
theorem ex_mem {T : List Int} {q : Int} : ∀ n, (ex T q n).Pairwise (· ≤ ·) ∧ ∀ a ∈ ex T q n, 0 ≤ a ∧ a < n
  | 0 => ⟨List.Pairwise.nil, fun a ha => by cases ha⟩
  | n + 1 => by
    obtain ⟨h1, h2⟩ := ex_mem (T := T) (q := q) n
    simp only [ex]
    refine ⟨?_, fun a ha => ?_⟩
    · rw [List.pairwise_append]
      refine ⟨h1, ?_, fun a ha b hb => ?_⟩
      · rw [List.pairwise_replicate]; exact .inr (Int.le_refl _)
      · have := h2 a ha
        have hb' : b = (n : Int) := (List.mem_replicate.1 hb).2
        omega
    · rcases List.mem_append.1 ha with h | h
      · have := h2 a h; omega
      · have : a = (n : Int) := (List.mem_replicate.1 h).2
        omega
theorem ex_count {T : List Int} {q : Int} (j : Nat) : ∀ n, (ex T q n).countP (fun f => f.toNat == j) = if j < n then (T.getD j 0 / q).toNat else 0
  | 0 => by simp [ex]
  | n + 1 => by
    simp only [ex]
    rw [List.countP_append, ex_count j n, List.countP_replicate]
    by_cases h : j = n
    · subst h
      simp
    · have h2 : ¬ (((n : Int).toNat == j) = true) := by simp; omega
      rw [if_neg h2]
      by_cases h3 : j < n
      · rw [if_pos h3, if_pos (by omega)]; rfl
      · rw [if_neg h3, if_neg (by omega)]
theorem ex_more {T : List Int} (hT : NN T) {q : Int} (hq : 0 < q) (h : ∀ j, j < 121 → Gd T q j) : ∀ m, 31 + m ≤ 121 → ex T q (31 + m) = ex T q 31
  | 0, _ => rfl
  | m + 1, hm => by
    have e : ex T q (31 + (m + 1)) = ex T q (31 + m) ++ List.replicate (T.getD (31 + m) 0 / q).toNat ((31 + m : Nat) : Int) := rfl
    have hg := (h (31 + m) (by omega)).2
    have h0 := hT (31 + m)
    have hz : T.getD (31 + m) 0 = 0 := by
      by_cases hp : 0 < T.getD (31 + m) 0
      · have := hg hp; omega
      · omega
    rw [e, hz, Int.zero_ediv, ex_more hT hq h m (by omega), Int.toNat_zero, List.replicate_zero, List.append_nil]
section
variable {T : List Int} (hl : T.length = 121) (hT : NN T) {q : Int} (hq : 0 < q) (hs : T.sum = 6 * q) (h : ∀ j, j < 121 → Gd T q j)
include hl hT hq hs h
theorem ex_six : (ex T q 31).length = 6 := by
  have h1 := ex_len hT hq 121 h
  have h2 := ex_more hT hq h 90 (by omega)
  rw [show 31 + 90 = 121 from rfl] at h2
  rw [tk_all hl, hs, h2] at h1
  have : ((ex T q 31).length : Int) = 6 := by
    have h3 : q * ((ex T q 31).length : Int) = q * 6 := by rw [h1]; omega
    exact Int.eq_of_mul_eq_mul_left (by omega) h3
  omega
theorem ex_le {n : Nat} (hn : n ≤ 31) : (ex T q n).length ≤ 6 := by
  have h6 := ex_six hl hT hq hs h
  have key : ∀ m, n + m ≤ 31 → (ex T q n).length ≤ (ex T q (n + m)).length := by
    intro m
    induction m with
    | zero => intro _; exact Nat.le_refl _
    | succ m ih =>
      intro hm
      have := ih (by omega)
      rw [show n + (m + 1) = (n + m) + 1 from rfl]
      simp only [ex]
      rw [List.length_append]; omega
  have := key (31 - n) (by omega)
  rw [show n + (31 - n) = 31 by omega] at this
  omega
theorem ex_die : Die6 (ex T q 31) := by
  have h6 := ex_six hl hT hq hs h
  obtain ⟨h1, h2⟩ := ex_mem (T := T) (q := q) 31
  obtain ⟨a, b, c, e, f, g, hx⟩ := len6 h6
  rw [hx] at h1 h2 ⊢
  simp only [List.pairwise_cons, List.mem_cons, List.not_mem_nil, or_false, forall_eq_or_imp, forall_eq] at h1 h2
  refine ⟨a, b, c, e, f, g, rfl, ?_⟩
  omega
end
/-! ### the reference's way -/
theorem rep_run {R : Type} (i : Int) (K : List Int → Option R) : ∀ (n : Nat) (c : Nat) (acc : List Int), c < n → acc.length + c ≤ 100000 → whl (fun (s40 : Int × (List Int)) c42 => (if 0 < s40.1 then if (s40.2.length : Int) + 1 ≤ 1000000000 then c42 ((IntKind.wrap .i64 (s40.1 - 1)), (s40.2 ++ [i])) else none else K s40.2)) n ((c : Int), acc) = K (acc ++ List.replicate c i)
  | 0, c, _, h, _ => by omega
  | n + 1, c, acc, h, hb => by
    have ih := rep_run i K n (c - 1) (acc ++ [i])
    rw [show ∀ (f : Int × List Int → (Int × List Int → Option R) → Option R) (z : Int × List Int), whl f (n + 1) z = f z (whl f n) from fun _ _ => rfl]
    generalize whl (fun (s40 : Int × (List Int)) c42 => (if 0 < s40.1 then if (s40.2.length : Int) + 1 ≤ 1000000000 then c42 ((IntKind.wrap .i64 (s40.1 - 1)), (s40.2 ++ [i])) else none else K s40.2)) n = W at ih
    simp only
    by_cases hc : 0 < c
    · rw [if_pos (by omega), if_pos (by omega), wr (by omega) (by omega), show (c : Int) - 1 = ((c - 1 : Nat) : Int) by omega, ih (by omega) (by simp; omega), List.append_assoc]
      congr 2
      obtain ⟨e, rfl⟩ : ∃ e, c = e + 1 := ⟨c - 1, by omega⟩
      rfl
    · rw [if_neg (by omega), show c = 0 by omega]
      simp
/-! ### the program's way -/
def cts (T : List Int) (q : Int) : Nat → List Int
  | 0 => List.replicate 31 0
  | n + 1 => if T.getD n 0 = 0 then cts T q n else (cts T q n).set n (T.getD n 0 / q)
theorem cts_get {T : List Int} (hT : NN T) {q : Int} {j : Nat} (hj : j < 31) : ∀ n, (∀ i, i < n → Gd T q i) → (cts T q n).length = 31 ∧ (cts T q n).getD j 0 = if j < n then T.getD j 0 / q else 0
  | 0, _ => by
    refine ⟨by simp [cts], ?_⟩
    simp only [cts]
    rw [List.getD_eq_getElem?_getD, List.getElem?_replicate_of_lt hj]; rfl
  | n + 1, h => by
    obtain ⟨h1, h2⟩ := cts_get hT hj n (fun i hi => h i (by omega))
    simp only [cts]
    by_cases hz : T.getD n 0 = 0
    · rw [if_pos hz]
      refine ⟨h1, ?_⟩
      rw [h2]
      by_cases e : j = n
      · subst e
        rw [if_neg (by omega), if_pos (by omega), hz, Int.zero_ediv]
      · by_cases hlt : j < n
        · rw [if_pos hlt, if_pos (by omega)]
        · rw [if_neg hlt, if_neg (by omega)]
    · rw [if_neg hz]
      refine ⟨by rw [List.length_set]; exact h1, ?_⟩
      by_cases e : j = n
      · subst e
        rw [List.getD_eq_getElem?_getD, List.getElem?_set_self (by omega), if_pos (by omega)]; rfl
      · rw [List.getD_eq_getElem?_getD, List.getElem?_set_ne (Ne.symm e), ← List.getD_eq_getElem?_getD, h2]
        by_cases hlt : j < n
        · rw [if_pos hlt, if_pos (by omega)]
        · rw [if_neg hlt, if_neg (by omega)]
def arr6 (xs : List Int) : List Int := xs ++ List.replicate (6 - xs.length) 0
theorem arr6_set {xs : List Int} (h : xs.length < 6) (v : Int) : (arr6 xs).set xs.length v = arr6 (xs ++ [v]) := by
  unfold arr6
  rw [List.set_append_right _ _ (Nat.le_refl _), Nat.sub_self, show 6 - xs.length = (6 - (xs.length + 1)) + 1 by omega, List.replicate_succ, List.append_assoc]
  simp
theorem fill_run {R : Type} (v : Int) (cv : Int) (hcv : cv ≤ 1000) (K : Int × List Int → Option R) : ∀ (n m : Nat) (xs : List Int), m < n → xs.length + m ≤ 6 → (m : Int) ≤ cv → whl (fun (s8 : Int × Int × (List Int)) c10 => (if s8.2.1 < cv then if s8.1 < 6 then c10 ((s8.1 + 1), (IntKind.wrap .i64 (s8.2.1 + 1)), (s8.2.2.set s8.1.toNat v)) else none else K (s8.1, s8.2.2))) n ((xs.length : Int), cv - (m : Int), arr6 xs) = K (((xs ++ List.replicate m v).length : Int), arr6 (xs ++ List.replicate m v))
  | 0, m, _, h, _, _ => by omega
  | n + 1, m, xs, h, hb, hm0 => by
    have ih := fill_run v cv hcv K n (m - 1) (xs ++ [v])
    rw [show ∀ (f : Int × Int × List Int → (Int × Int × List Int → Option R) → Option R) (z : Int × Int × List Int), whl f (n + 1) z = f z (whl f n) from fun _ _ => rfl]
    generalize whl (fun (s8 : Int × Int × (List Int)) c10 => (if s8.2.1 < cv then if s8.1 < 6 then c10 ((s8.1 + 1), (IntKind.wrap .i64 (s8.2.1 + 1)), (s8.2.2.set s8.1.toNat v)) else none else K (s8.1, s8.2.2))) n = W at ih
    simp only
    by_cases hc : 0 < m
    · have hx : xs.length < 6 := by omega
      rw [if_pos (by omega), if_pos (by omega), wr (by omega) (by omega), Int.toNat_natCast, arr6_set hx, show cv - (m : Int) + 1 = cv - ((m - 1 : Nat) : Int) by omega]
      have e1 : (xs.length : Int) + 1 = ((xs ++ [v]).length : Int) := by simp
      have e2 : xs ++ [v] ++ List.replicate (m - 1) v = xs ++ List.replicate m v := by
        rw [List.append_assoc]
        congr 1
        obtain ⟨e, rfl⟩ : ∃ e, m = e + 1 := ⟨m - 1, by omega⟩
        rfl
      rw [e1, ih (by omega) (by simp; omega) (by omega), e2]
    · rw [if_neg (by omega), show m = 0 by omega]
      simp
theorem die_run {T : List Int} (hl : T.length = 121) (hT : NN T) {q : Int} (hq : 0 < q) (hs : T.sum = 6 * q) (h : ∀ j, j < 121 → Gd T q j) (hbd : ∀ j, T.getD j 0 ≤ 1296) {fu : Nat} (hf : 64 ≤ fu) {c : List Int} (hc : ∀ j, j < 31 → c.getD j 0 = T.getD j 0 / q) : p_impl_die fu c = some (ex T q 31) := by
  unfold p_impl_die
  have h6 := ex_six hl hT hq hs h
  refine cnt_ind0 (S := Int × List Int) 31 (fun i s => s = (((ex T q i).length : Int), arr6 (ex T q i))) (fun r => r = some (ex T q 31)) rfl rfl (fun s hs' => ?_) (fun i s cc hi hs' hcc => ?_)
  · rw [hs']
    show some (arr6 (ex T q 31)) = _
    unfold arr6
    rw [h6]; simp
  · have hle := ex_le hl hT hq hs h (n := i + 1) (by omega)
    have hnn : 0 ≤ T.getD i 0 / q := Int.ediv_nonneg (hT i) (by omega)
    have hdl : T.getD i 0 / q ≤ 1000 := by
      have e : (ex T q (i + 1)).length = (ex T q i).length + (T.getD i 0 / q).toNat := by
        simp only [ex]; rw [List.length_append, List.length_replicate]
      omega
    have e : (ex T q (i + 1)).length = (ex T q i).length + (T.getD i 0 / q).toNat := by
      simp only [ex]; rw [List.length_append, List.length_replicate]
    rw [hs', Int.toNat_natCast, hc i hi]
    have hr := fill_run ((i : Nat) : Int) (T.getD i 0 / q) hdl cc fu (T.getD i 0 / q).toNat (ex T q i) (by omega) (by omega) (by omega)
    rw [show T.getD i 0 / q - ((T.getD i 0 / q).toNat : Int) = 0 by omega] at hr
    refine (Eq.trans hr ?_ : _ = some (ex T q 31))
    exact hcc _ rfl
end Go.GA
