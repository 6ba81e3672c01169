/- Plain laws of the loops that the printed functions are told by. -/
import Derived.Test.YtddljmnmkiofmaaGaC
import Derived.Test.YtddljmnmkiofmaaGaD
import Derived.Lib.ItoaLen
import Derived.Lib.ItoaMem
section
namespace Go.GA
/-- a loop over a list -/
def lrun {α S R : Type} (F : α → S → (S → R) → R) (k : S → R) : List α → S → R
  | [], s => k s
  | x :: xs, s => F x s (fun s' => lrun F k xs s')
theorem cnt_list_aux {α S R : Type} {f : Int → S → (S → R) → (Int → S → R) → R} {k : Int → S → R} (F : α → S → (S → R) → R) (xs : List α) (dflt : α) (hf : ∀ i s c, 0 ≤ i → i < (xs.length : Int) → f i s c k = F (xs.getD i.toNat dflt) s c) :
    ∀ (d : Nat) (i : Nat) (s : S), d + i = xs.length → cnt f k d (i : Int) s = lrun F (k xs.length) (xs.drop i) s
  | 0, i, s, h => by
    have : xs.drop i = [] := List.drop_eq_nil_of_le (by omega)
    rw [this]
    obtain rfl : i = xs.length := by omega
    rfl
  | d + 1, i, s, h => by
    have hi : i < xs.length := by omega
    rw [List.drop_eq_getElem_cons hi]
    show f (i : Int) s _ k = F xs[i] s _
    rw [hf (i : Int) s _ (by omega) (by omega)]
    have e : xs.getD (i : Int).toNat dflt = xs[i] := by simp [hi]
    rw [e]
    congr 1
    funext s'
    have := cnt_list_aux F xs dflt hf d (i + 1) s' (by omega)
    simpa using this
theorem cnt_list {α S R : Type} {f : Int → S → (S → R) → (Int → S → R) → R} {k : Int → S → R} (F : α → S → (S → R) → R) (xs : List α) (dflt : α) {d : Nat} {s : S} (hd : d = xs.length) (hf : ∀ i s c, 0 ≤ i → i < (xs.length : Int) → f i s c k = F (xs.getD i.toNat dflt) s c) :
    cnt f k d 0 s = lrun F (k xs.length) xs s := by
  have := cnt_list_aux F xs dflt hf d 0 s (by omega)
  simpa using this
theorem lrun_fold {α S R : Type} (G : α → S → S) (k : S → R) : ∀ (xs : List α) (s : S), lrun (fun x s c => c (G x s)) k xs s = k (xs.foldl (fun s x => G x s) s)
  | [], s => rfl
  | x :: xs, s => lrun_fold G k xs (G x s)
theorem len6 {α : Type} {x : List α} (h : x.length = 6) : ∃ a b c d e f, x = [a, b, c, d, e, f] := by
  match x, h with
  | [a, b, c, d, e, f], _ => exact ⟨a, b, c, d, e, f, rfl⟩
end Go.GA
namespace Go.GA
theorem cnt_find {α : Type} (b : α → Bool) (dflt : α) (xs : List α) : ∀ (d i : Nat), d + i = xs.length →
    decide (0 ≤ cnt (fun i (s : Unit) c _ => if b (xs.getD i.toNat dflt) = true then i else c ()) (fun _ _ => (-1 : Int)) d (i : Int) ()) = (xs.drop i).any b
  | 0, i, h => by rw [List.drop_eq_nil_of_le (by omega)]; rfl
  | d + 1, i, h => by
    have h1 : i < xs.length := by omega
    have := cnt_find b dflt xs d (i + 1) (by omega)
    simp only [cnt]
    rw [List.drop_eq_getElem_cons h1, List.any_cons, ← this]
    simp only [Int.toNat_natCast, List.getD_eq_getElem?_getD, List.getElem?_eq_getElem h1, Option.getD_some]
    by_cases he : b xs[i] = true
    · simp only [he, if_true, Bool.true_or, decide_eq_true_eq]; omega
    · simp only [he]; simp
end Go.GA
end
section
namespace Go.GA
/-- neighbours alike, once -/
def dd : List Int → List Int
  | [] => []
  | x :: l => match l with
    | [] => [x]
    | y :: _ => if x = y then dd l else x :: dd l
theorem dd_cons2 (x y : Int) (l : List Int) : dd (x :: y :: l) = if x = y then dd (y :: l) else x :: dd (y :: l) := by rw [dd]
theorem dd_snoc : ∀ (l : List Int) (y z : Int), dd (l ++ [y, z]) = if y = z then dd (l ++ [y]) else dd (l ++ [y]) ++ [z]
  | [], y, z => by simp only [List.nil_append, dd_cons2]; by_cases h : y = z <;> simp [h, dd]
  | [x], y, z => by
    simp only [List.cons_append, List.nil_append, dd_cons2]
    by_cases h : x = y <;> by_cases h2 : y = z <;> simp [h, h2, dd]
  | x :: x' :: l, y, z => by
    have ih := dd_snoc (x' :: l) y z
    simp only [List.cons_append] at ih ⊢
    rw [dd_cons2, ih, dd_cons2]
    by_cases h : x = x' <;> by_cases h2 : y = z <;> simp [h, h2]
theorem dd_take (x : List Int) (i : Nat) (h : i + 1 < x.length) : dd (x.take (i + 2)) = if x.getD i 0 = x.getD (i + 1) 0 then dd (x.take (i + 1)) else dd (x.take (i + 1)) ++ [x.getD (i + 1) 0] := by
  have e1 : x.take (i + 2) = x.take i ++ [x[i], x[i + 1]] := by
    have h1 : x.take (i + 1 + 1) = x.take (i + 1) ++ [x[i + 1]] := List.take_succ_eq_append_getElem h
    have h2 : x.take (i + 1) = x.take i ++ [x[i]] := List.take_succ_eq_append_getElem (by omega)
    rw [show i + 2 = i + 1 + 1 from rfl, h1, h2, List.append_assoc]; rfl
  have e2 : x.take (i + 1) = x.take i ++ [x[i]] := List.take_succ_eq_append_getElem (by omega)
  rw [e1, dd_snoc, e2]
  simp [List.getD_eq_getElem?_getD, List.getElem?_eq_getElem (show i < x.length by omega), List.getElem?_eq_getElem h]
theorem dd_len (l : List Int) : (dd l).length ≤ l.length := by
  induction l with
  | nil => exact Nat.le_refl 0
  | cons x l ih =>
    cases l with
    | nil => simp [dd]
    | cons y l =>
      rw [dd_cons2]
      split
      · simp only [List.length_cons] at ih ⊢; omega
      · simp only [List.length_cons] at ih ⊢; omega
/-- no neighbours alike so far -/
theorem dd_same (x : List Int) : ∀ (i : Nat), i ≤ x.length → (∀ j, 0 < j → j < i → x.getD j 0 ≠ x.getD (j - 1) 0) → dd (x.take i) = x.take i
  | 0, _, _ => rfl
  | 1, h, _ => by
    cases x with
    | nil => rfl
    | cons a l => simp [dd]
  | i + 2, h, hne => by
    have ih := dd_same x (i + 1) (by omega) (fun j h0 h1 => hne j h0 (by omega))
    rw [dd_take x i (by omega), if_neg (fun e => hne (i + 1) (by omega) (by omega) (by simpa using e.symm)), ih]
    have h1 : x.take (i + 1 + 1) = x.take (i + 1) ++ [x[i + 1]] := List.take_succ_eq_append_getElem (by omega)
    rw [show i + 2 = i + 1 + 1 from rfl, h1]
    simp [List.getD_eq_getElem?_getD, List.getElem?_eq_getElem (show i + 1 < x.length by omega)]
end Go.GA
end
section
namespace Go.GA
/-- what holds at each round of a loop -/
theorem cnt_ind {S R : Type} {f : Int → S → (S → R) → (Int → S → R) → R} {k : Int → S → R} (n : Nat) (I : Nat → S → Prop) (Q : R → Prop) (hk : ∀ s, I n s → Q (k (n : Int) s)) (hf : ∀ (i : Nat) s c, i < n → I i s → (∀ s', I (i + 1) s' → Q (c s')) → Q (f (i : Int) s c k)) :
    ∀ (d i : Nat) (s : S), d + i = n → I i s → Q (cnt f k d (i : Int) s)
  | 0, i, s, h, hi => by
    obtain rfl : i = n := by omega
    exact hk s hi
  | d + 1, i, s, h, hi => by
    refine hf i s _ (by omega) hi (fun s' hs' => ?_)
    have := cnt_ind n I Q hk hf d (i + 1) s' (by omega) hs'
    simpa using this
theorem cnt_ind0 {S R : Type} {f : Int → S → (S → R) → (Int → S → R) → R} {k : Int → S → R} {d : Nat} {s : S} (n : Nat) (I : Nat → S → Prop) (Q : R → Prop) (hd : d = n) (h0 : I 0 s) (hk : ∀ s, I n s → Q (k (n : Int) s)) (hf : ∀ (i : Nat) s c, i < n → I i s → (∀ s', I (i + 1) s' → Q (c s')) → Q (f (i : Int) s c k)) : Q (cnt f k d 0 s) := by
  have := cnt_ind n I Q hk hf d 0 s (by omega) h0
  simpa using this
end Go.GA
end
section
namespace Go.GA
open Go
end Go.GA
end
section
namespace Go.GA
open Go
end Go.GA
end
section
namespace Go.GA
open Go
end Go.GA
end
section
namespace Go.GA
open Go
/-- v more at the place j -/
def addAt (s : List Int) (j : Nat) (v : Int) : List Int := s.set j (s.getD j 0 + v)
def inner (i : Nat) (v : Int) (d : List Int) (s : List Int) : List Int := d.foldl (fun s f => addAt s (i + f.toNat) v) s
/-- the table with one die more: from the sum i on -/
def convL (T d : List Int) (l : List Nat) (s : List Int) : List Int := l.foldl (fun s i => inner i (T.getD i 0) d s) s
def conv (T d : List Int) : List Int := convL T d (List.range 121) (List.replicate 121 0)
def NN (s : List Int) : Prop := ∀ j, 0 ≤ s.getD j 0
theorem addAt_len (s : List Int) (j : Nat) (v : Int) : (addAt s j v).length = s.length := by simp [addAt]
theorem addAt_getD (s : List Int) (j : Nat) (v : Int) (q : Nat) (hj : j < s.length) : (addAt s j v).getD q 0 = s.getD q 0 + if q = j then v else 0 := by
  unfold addAt
  by_cases h : q = j
  · subst h
    rw [if_pos rfl, List.getD_eq_getElem?_getD, List.getElem?_set_self hj]
    rfl
  · rw [if_neg h, List.getD_eq_getElem?_getD, List.getElem?_set_ne (Ne.symm h), ← List.getD_eq_getElem?_getD]; omega
theorem addAt_zero (s : List Int) (j : Nat) : addAt s j 0 = s := by
  unfold addAt
  rw [Int.add_zero]
  by_cases h : j < s.length
  · rw [List.getD_eq_getElem?_getD, List.getElem?_eq_getElem h]
    simp
  · rw [List.set_eq_of_length_le (by omega)]
theorem addAt_nn {s : List Int} {j : Nat} {v : Int} (hs : NN s) (hv : 0 ≤ v) (hj : j < s.length) : NN (addAt s j v) := fun q => by
  rw [addAt_getD s j v q hj]
  have := hs q
  split <;> omega
theorem sum_set : ∀ (s : List Int) (j : Nat) (v : Int), j < s.length → (s.set j v).sum = s.sum - s.getD j 0 + v
  | [], j, v, h => by simp at h
  | x :: s, 0, v, _ => by simp; omega
  | x :: s, j + 1, v, h => by
    have := sum_set s j v (by simpa using h)
    simp only [List.set_cons_succ, List.sum_cons, List.getD_cons_succ, this]
    omega
theorem addAt_sum {s : List Int} {j : Nat} {v : Int} (hj : j < s.length) : (addAt s j v).sum = s.sum + v := by
  unfold addAt
  rw [sum_set s j _ hj]; omega
theorem sum_nn : ∀ {s : List Int}, NN s → 0 ≤ s.sum
  | [], _ => by simp
  | x :: s, h => by
    have h0 := h 0
    have := sum_nn (s := s) (fun j => h (j + 1))
    simp only [List.getD_cons_zero] at h0
    rw [List.sum_cons]; omega
theorem getD_le_sum : ∀ {s : List Int}, NN s → ∀ j, s.getD j 0 ≤ s.sum
  | [], _, j => by simp
  | x :: s, h, 0 => by
    have := sum_nn (s := s) (fun j => h (j + 1))
    rw [List.sum_cons, List.getD_cons_zero]; omega
  | x :: s, h, j + 1 => by
    have := getD_le_sum (s := s) (fun j => h (j + 1)) j
    have h0 := h 0
    simp only [List.getD_cons_zero] at h0
    rw [List.sum_cons, List.getD_cons_succ]; omega
/-- the faces of a die lead into the table -/
def InT (i : Nat) (d : List Int) : Prop := ∀ f ∈ d, 0 ≤ f ∧ i + f.toNat < 121
theorem inner_facts (i : Nat) (v : Int) (hv : 0 ≤ v) : ∀ (d s : List Int), (v = 0 ∨ InT i d) → s.length = 121 → NN s → (inner i v d s).length = 121 ∧ NN (inner i v d s) ∧ (inner i v d s).sum = s.sum + d.length * v
  | [], s, _, hl, hn => ⟨hl, hn, by simp [inner]⟩
  | f :: d, s, hd, hl, hn => by
    have e : inner i v (f :: d) s = inner i v d (addAt s (i + f.toNat) v) := rfl
    rw [e]
    rcases hd with h0 | hd
    · subst h0
      rw [addAt_zero]
      obtain ⟨h1, h2, h3⟩ := inner_facts i 0 hv d s (.inl rfl) hl hn
      exact ⟨h1, h2, by rw [h3]; simp⟩
    · obtain ⟨f0, f1⟩ := hd f (by simp)
      obtain ⟨h1, h2, h3⟩ := inner_facts i v hv d (addAt s (i + f.toNat) v) (.inr (fun g hg => hd g (by simp [hg]))) (by rw [addAt_len]; exact hl) (addAt_nn hn hv (by omega))
      refine ⟨h1, h2, ?_⟩
      rw [h3, addAt_sum (by omega), List.length_cons]
      have : ((d.length + 1 : Nat) : Int) * v = (d.length : Int) * v + v := by rw [Int.natCast_add, Int.add_mul]; simp
      rw [this]; omega
theorem inner_zero (i : Nat) : ∀ (d s : List Int), inner i 0 d s = s
  | [], s => rfl
  | f :: d, s => by
    have e : inner i 0 (f :: d) s = inner i 0 d (addAt s (i + f.toNat) 0) := rfl
    rw [e, addAt_zero, inner_zero i d s]
/-- entries that stay 0 -/
theorem inner_supp (i : Nat) (v : Int) (M : Nat) : ∀ (d s : List Int), s.length = 121 → (∀ f ∈ d, i + f.toNat < 121 ∧ i + f.toNat ≤ M) → (∀ j, M < j → s.getD j 0 = 0) → ∀ j, M < j → (inner i v d s).getD j 0 = 0
  | [], s, _, _, h, j, hj => h j hj
  | f :: d, s, hl, hd, h, j, hj => by
    have e : inner i v (f :: d) s = inner i v d (addAt s (i + f.toNat) v) := rfl
    rw [e]
    obtain ⟨f1, f2⟩ := hd f (by simp)
    refine inner_supp i v M d _ (by rw [addAt_len]; exact hl) (fun g hg => hd g (by simp [hg])) (fun q hq => ?_) j hj
    rw [addAt_getD _ _ _ _ (by omega), if_neg (by omega), h q hq]; rfl
theorem inner_run {R : Type} (i : Nat) (v : Int) (hv : 0 ≤ v) (hi : i ≤ 121) (K : List Int → Option R) : ∀ (d s : List Int), InT i d → s.length = 121 → NN s → s.sum + d.length * v ≤ 1000000 →
    lrun (fun (f : Int) (s : List Int) (c : List Int → Option R) => if 0 ≤ (IntKind.wrap .i64 ((i : Int) + f)) then if (IntKind.wrap .i64 ((i : Int) + f)) < 121 then c (s.set (IntKind.wrap .i64 ((i : Int) + f)).toNat (IntKind.wrap .i64 ((s.getD (IntKind.wrap .i64 ((i : Int) + f)).toNat 0) + v))) else none else none) K d s = K (inner i v d s)
  | [], s, _, _, _, _ => rfl
  | f :: d, s, hd, hl, hn, hb => by
    obtain ⟨f0, f1⟩ := hd f (by simp)
    have ew : IntKind.wrap .i64 ((i : Int) + f) = (i : Int) + f := wrap_id (by omega) (by omega)
    have et : ((i : Int) + f).toNat = i + f.toNat := by omega
    have hlen : ((f :: d).length : Int) * v = (d.length : Int) * v + v := by rw [List.length_cons, Int.natCast_add, Int.add_mul]; simp
    rw [hlen] at hb
    have hdv : 0 ≤ (d.length : Int) * v := Int.mul_nonneg (by omega) hv
    have h1 := hn (i + f.toNat)
    have h2 := getD_le_sum hn (i + f.toNat)
    have ew2 : IntKind.wrap .i64 (s.getD (i + f.toNat) 0 + v) = s.getD (i + f.toNat) 0 + v := wrap_id (by omega) (by omega)
    show (if 0 ≤ (IntKind.wrap .i64 ((i : Int) + f)) then _ else none) = _
    rw [ew, if_pos (by omega), if_pos (by omega), et, ew2]
    have ih := inner_run i v hv hi K d (addAt s (i + f.toNat) v) (fun g hg => hd g (by simp [hg])) (by rw [addAt_len]; exact hl) (addAt_nn hn hv (by omega)) (by rw [addAt_sum (by omega)]; omega)
    exact ih
end Go.GA
end
section
namespace Go.GA
open Go
set_option maxRecDepth 10000
def tsum (T : List Int) (l : List Nat) : Int := (l.map (fun i => T.getD i 0)).sum
theorem range_map (T : List Int) : (List.range T.length).map (fun i => T.getD i 0) = T := by
  apply List.ext_getElem
  · simp
  · intro i h1 h2
    simp [List.getD_eq_getElem?_getD, List.getElem?_eq_getElem h2]
theorem tsum_range {T : List Int} (h : T.length = 121) : tsum T (List.range 121) = T.sum := by
  unfold tsum
  rw [← h, range_map]
theorem convL_facts {T d : List Int} (hT : NN T) : ∀ (l : List Nat) (s : List Int), (∀ i ∈ l, T.getD i 0 = 0 ∨ InT i d) → s.length = 121 → NN s → (convL T d l s).length = 121 ∧ NN (convL T d l s) ∧ (convL T d l s).sum = s.sum + d.length * tsum T l
  | [], s, _, hl, hn => ⟨hl, hn, by simp [convL, tsum]⟩
  | i :: l, s, hi, hl, hn => by
    have e : convL T d (i :: l) s = convL T d l (inner i (T.getD i 0) d s) := rfl
    obtain ⟨a1, a2, a3⟩ := inner_facts i (T.getD i 0) (hT i) d s (hi i (by simp)) hl hn
    obtain ⟨b1, b2, b3⟩ := convL_facts hT l (inner i (T.getD i 0) d s) (fun j hj => hi j (by simp [hj])) a1 a2
    rw [e]
    refine ⟨b1, b2, ?_⟩
    rw [b3, a3]
    have : tsum T (i :: l) = T.getD i 0 + tsum T l := by simp [tsum]
    rw [this, Int.mul_add]; omega
theorem convL_supp {T d : List Int} {M N : Nat} (hN : N ≤ 120) (hd : ∀ f ∈ d, 0 ≤ f ∧ f ≤ 30) (hM : M + 30 ≤ N) (hs : ∀ j, M < j → T.getD j 0 = 0) : ∀ (l : List Nat) (s : List Int), s.length = 121 → NN s → NN T → (∀ i ∈ l, T.getD i 0 = 0 ∨ InT i d) → (∀ j, N < j → s.getD j 0 = 0) → ∀ j, N < j → (convL T d l s).getD j 0 = 0
  | [], s, _, _, _, _, h, j, hj => h j hj
  | i :: l, s, hl, hn, hT, hin, h, j, hj => by
    have e : convL T d (i :: l) s = convL T d l (inner i (T.getD i 0) d s) := rfl
    rw [e]
    obtain ⟨a1, a2, _⟩ := inner_facts i (T.getD i 0) (hT i) d s (hin i (by simp)) hl hn
    refine convL_supp hN hd hM hs l _ a1 a2 hT (fun q hq => hin q (by simp [hq])) ?_ j hj
    by_cases hi : M < i
    · rw [hs i hi, inner_zero]; exact h
    · exact inner_supp i _ N d s hl (fun f hf => by have := hd f hf; omega) h
theorem nn_rep : NN (List.replicate 121 0) := fun j => by
  rw [List.getD_eq_getElem?_getD]
  by_cases h : j < 121
  · rw [List.getElem?_replicate_of_lt h]; simp
  · rw [List.getElem?_eq_none (by simp; omega)]; simp
theorem inT_of {d : List Int} (hd : ∀ f ∈ d, 0 ≤ f ∧ f ≤ 30) {i : Nat} (hi : i ≤ 90) : InT i d := fun f hf => by
  have := hd f hf; omega
/-- a table of m dice -/
structure Tab (m : Nat) (T : List Int) : Prop where
  len : T.length = 121
  nn : NN T
  sum : T.sum = ((6 ^ m : Nat) : Int)
  supp : ∀ j, 30 * m < j → T.getD j 0 = 0
theorem tab_conv {m : Nat} {T d : List Int} (h : Tab m T) (hm : m ≤ 3) (h6 : d.length = 6) (hd : ∀ f ∈ d, 0 ≤ f ∧ f ≤ 30) : Tab (m + 1) (conv T d) ∧ ∀ i, T.getD i 0 = 0 ∨ InT i d := by
  have hin : ∀ i, T.getD i 0 = 0 ∨ InT i d := fun i => by
    by_cases hi : 30 * m < i
    · exact .inl (h.supp i hi)
    · exact .inr (inT_of hd (by omega))
  obtain ⟨a1, a2, a3⟩ := convL_facts (d := d) h.nn (List.range 121) (List.replicate 121 0) (fun i _ => hin i) (by simp) nn_rep
  refine ⟨⟨a1, a2, ?_, ?_⟩, hin⟩
  · show (convL T d (List.range 121) (List.replicate 121 0)).sum = _
    rw [a3, tsum_range h.len, h.sum, h6, Nat.pow_succ]
    have : (List.replicate 121 (0 : Int)).sum = 0 := by decide
    rw [this]; omega
  · refine convL_supp (M := 30 * m) (N := 30 * (m + 1)) (by omega) hd (by omega) h.supp (List.range 121) _ (by simp) nn_rep h.nn (fun i _ => hin i) (fun j hj => ?_)
    rw [List.getD_eq_getElem?_getD]
    by_cases hlt : j < 121
    · rw [List.getElem?_replicate_of_lt hlt]; rfl
    · rw [List.getElem?_eq_none (by simp; omega)]; rfl
theorem tab_one : Tab 0 ((List.replicate 121 (0 : Int)).set 0 1) := by
  refine ⟨by simp, fun j => ?_, by decide, fun j hj => ?_⟩
  · rw [List.getD_eq_getElem?_getD]
    by_cases h : j = 0
    · subst h; rw [List.getElem?_set_self (by simp)]; decide
    · rw [List.getElem?_set_ne (Ne.symm h)]
      by_cases h2 : j < 121
      · rw [List.getElem?_replicate_of_lt h2]; simp
      · rw [List.getElem?_eq_none (by simp; omega)]; simp
  · rw [List.getD_eq_getElem?_getD, List.getElem?_set_ne (by omega)]
    by_cases h2 : j < 121
    · rw [List.getElem?_replicate_of_lt h2]; rfl
    · rw [List.getElem?_eq_none (by simp; omega)]; rfl
/-- the loop over the sums -/
theorem outer_run {R : Type} {T d : List Int} (h6 : d.length = 6) (hT : NN T) (hin : ∀ i, T.getD i 0 = 0 ∨ InT i d) (K : List Int → Option R) {f : Int → List Int → (List Int → Option R) → (Int → List Int → Option R) → Option R}
    (hf : ∀ (i : Nat) (s : List Int) (c : List Int → Option R), i < 121 → s.length = 121 → NN s → s.sum + 6 * T.getD i 0 ≤ 1000000 → f (i : Int) s c (fun _ s => K s) = c (inner i (T.getD i 0) d s)) :
    ∀ (n i : Nat) (s : List Int), n + i = 121 → s.length = 121 → NN s → s.sum + 6 * tsum T (List.range' i n) ≤ 1000000 → cnt f (fun _ s => K s) n (i : Int) s = K (convL T d (List.range' i n) s)
  | 0, i, s, _, _, _, _ => rfl
  | n + 1, i, s, hni, hl, hn, hb => by
    have e : List.range' i (n + 1) = i :: List.range' (i + 1) n := rfl
    have et : tsum T (i :: List.range' (i + 1) n) = T.getD i 0 + tsum T (List.range' (i + 1) n) := by simp [tsum]
    have hge : 0 ≤ tsum T (List.range' (i + 1) n) := by
      unfold tsum
      generalize List.range' (i + 1) n = l
      induction l with
      | nil => simp
      | cons a l ih => have := hT a; rw [List.map_cons, List.sum_cons]; omega
    rw [e, et] at hb
    have h0 := hT i
    obtain ⟨a1, a2, a3⟩ := inner_facts i (T.getD i 0) h0 d s (hin i) hl hn
    show f (i : Int) s (fun s' => cnt f (fun _ s => K s) n ((i : Int) + 1) s') (fun _ s => K s) = _
    rw [hf i s _ (by omega) hl hn (by omega), e]
    have ih := outer_run h6 hT hin K hf n (i + 1) (inner i (T.getD i 0) d s) (by omega) a1 a2 (by rw [a3, h6]; omega)
    have ec : ((i + 1 : Nat) : Int) = (i : Int) + 1 := by omega
    rw [ec] at ih
    exact ih
end Go.GA
end
section
namespace Go.GA
open Go
set_option maxRecDepth 10000
/-- entries weighed by g from the place j on -/
def momL (g : Int → Int) : Int → List Int → Int
  | _, [] => 0
  | j, x :: l => g j * x + momL g (j + 1) l
def mom (g : Int → Int) (T : List Int) : Int := momL g 0 T
def sq (d : List Int) : Int := (d.map (fun f => f * f)).sum
def m1 (T : List Int) : Int := mom (fun i => i) T
def m2 (T : List Int) : Int := mom (fun i => i * i) T
/-! ### bounds -/
end Go.GA
end
section
namespace Go.GA
open Go
set_option maxRecDepth 10000
/-- a die of six faces in order -/
def Die6 (d : List Int) : Prop := ∃ a b c e f g, d = [a, b, c, e, f, g] ∧ 0 ≤ a ∧ a ≤ b ∧ b ≤ c ∧ c ≤ e ∧ e ≤ f ∧ f ≤ g ∧ g ≤ 30
theorem Die6.len {d : List Int} (h : Die6 d) : d.length = 6 := by obtain ⟨a, b, c, e, f, g, rfl, _⟩ := h; rfl
theorem Die6.sum {d : List Int} (h : Die6 d) : 0 ≤ d.sum ∧ d.sum ≤ 180 ∧ 0 ≤ sq d ∧ sq d ≤ 5400 := by
  obtain ⟨a, b, c, e, f, g, rfl, h⟩ := h
  have e1 : sq [a, b, c, e, f, g] = a * a + b * b + c * c + e * e + f * f + g * g := by simp [sq]; omega
  have e2 : [a, b, c, e, f, g].sum = a + b + c + e + f + g := by simp; omega
  rw [e1, e2]
  have k : ∀ z : Int, 0 ≤ z → z ≤ 30 → 0 ≤ z * z ∧ z * z ≤ 900 := fun z h0 h1 => ⟨Int.mul_nonneg h0 h0, by have := Int.mul_le_mul h1 h1 h0 (by omega); omega⟩
  have := k a (by omega) (by omega)
  have := k b (by omega) (by omega)
  have := k c (by omega) (by omega)
  have := k e (by omega) (by omega)
  have := k f (by omega) (by omega)
  have := k g (by omega) (by omega)
  omega
/-- what is known of the table T of dice with the sum A, the spread V and the bounds lo, hi -/
structure TM (T : List Int) (A V lo hi : Int) : Prop where
  a : 6 * m1 T = T.sum * A
  v : 36 * (m2 T * T.sum - m1 T * m1 T) = T.sum * T.sum * V
  l0 : 0 ≤ lo
  lh : lo ≤ hi
  lo1 : 1 ≤ T.getD lo.toNat 0
  hi1 : 1 ≤ T.getD hi.toNat 0
  out : ∀ s : Nat, T.getD s 0 ≠ 0 → lo ≤ s ∧ (s : Int) ≤ hi
  an : 0 ≤ A
  vn : 0 ≤ V
/-! ### tails -/
end Go.GA
end
