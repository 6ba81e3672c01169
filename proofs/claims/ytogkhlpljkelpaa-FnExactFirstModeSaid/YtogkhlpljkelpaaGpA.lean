/- Plain laws of the loops that the printed functions are told by. -/
import Derived.Test.YtogkhlpljkelpaaGaC
import Derived.Test.YtogkhlpljkelpaaGaD
import Derived.Lib.ItoaLen
import Derived.Lib.ItoaMem
section
namespace Go.GA
/-- a loop over a list -/
def lrun {α S R : Type} (F : α → S → (S → R) → R) (k : S → R) : List α → S → R
  | [], s => k s
  | x :: xs, s => F x s (fun s' => lrun F k xs s')
theorem cnt_list_aux {α S R : Type} {f : Int → S → (S → R) → (Int → S → R) → R} {k : Int → S → R} (F : α → S → (S → R) → R) (xs : List α) (dflt : α) (hf : ∀ i s c, 0 ≤ i → i < (xs.length : Int) → f i s c k = F (xs.getD i.toNat dflt) s c) :
    ∀ (d : Nat) (i : Nat) (s : S), d + i = xs.length → cnt f k d (i : Int) s = lrun F (k xs.length) (xs.drop i) s
  | 0, i, s, h => by
    have : xs.drop i = [] := List.drop_eq_nil_of_le (by omega)
    rw [this]
    obtain rfl : i = xs.length := by omega
    rfl
  | d + 1, i, s, h => by
    have hi : i < xs.length := by omega
    rw [List.drop_eq_getElem_cons hi]
    show f (i : Int) s _ k = F xs[i] s _
    rw [hf (i : Int) s _ (by omega) (by omega)]
    have e : xs.getD (i : Int).toNat dflt = xs[i] := by simp [hi]
    rw [e]
    congr 1
    funext s'
    have := cnt_list_aux F xs dflt hf d (i + 1) s' (by omega)
    simpa using this
theorem cnt_list {α S R : Type} {f : Int → S → (S → R) → (Int → S → R) → R} {k : Int → S → R} (F : α → S → (S → R) → R) (xs : List α) (dflt : α) {d : Nat} {s : S} (hd : d = xs.length) (hf : ∀ i s c, 0 ≤ i → i < (xs.length : Int) → f i s c k = F (xs.getD i.toNat dflt) s c) :
    cnt f k d 0 s = lrun F (k xs.length) xs s := by
  have := cnt_list_aux F xs dflt hf d 0 s (by omega)
  simpa using this
/-- rounds that go on -/
def iter {S : Type} (g : Int → S → S) : Nat → Int → S → S
  | 0, _, s => s
  | d + 1, i, s => iter g d (i + 1) (g i s)
theorem cnt_iter {S R : Type} (g : Int → S → S) (k : Int → S → R) : ∀ (d : Nat) (i : Int) (s : S), cnt (fun i s c _ => c (g i s)) k d i s = k (i + d) (iter g d i s)
  | 0, i, s => by simp [cnt, iter]
  | d + 1, i, s => by
    show cnt _ k d (i + 1) (g i s) = _
    rw [cnt_iter g k d (i + 1) (g i s)]
    simp only [iter]
    congr 1
    omega
theorem iter_copy {α : Type} (xs : List α) (dflt : α) : ∀ (d i : Nat) (s : List α), d + i = xs.length → s.length = xs.length → s.take i = xs.take i → iter (fun i s => s.set i.toNat (xs.getD i.toNat dflt)) d (i : Int) s = xs
  | 0, i, s, h, hl, ht => by
    simp only [iter]
    rw [List.take_of_length_le (by omega), List.take_of_length_le (by omega)] at ht
    exact ht
  | d + 1, i, s, h, hl, ht => by
    simp only [iter]
    have hi : i < xs.length := by omega
    have := iter_copy xs dflt d (i + 1) (s.set i (xs.getD i dflt)) (by omega) (by simp [hl]) (by
      rw [List.take_add_one, List.take_add_one, List.take_set_of_le (Nat.le_refl i), ht]
      simp [hi, hl])
    simpa using this
/-- a list copied -/
theorem cnt_copy {α R : Type} (xs : List α) (dflt : α) {k : Int → List α → R} {d : Nat} {s : List α} (hd : d = xs.length) (hs : s.length = xs.length) : cnt (fun i s c _ => c (s.set i.toNat (xs.getD i.toNat dflt))) k d 0 s = k xs.length xs := by
  rw [cnt_iter]
  have := iter_copy xs dflt d 0 s (by omega) hs (by simp)
  simp only [Int.natCast_zero] at this
  rw [this, hd]; simp
theorem len6 {α : Type} {x : List α} (h : x.length = 6) : ∃ a b c d e f, x = [a, b, c, d, e, f] := by
  match x, h with
  | [a, b, c, d, e, f], _ => exact ⟨a, b, c, d, e, f, rfl⟩
/-- two lists compared -/
theorem cnt_eq {α R : Type} [DecidableEq α] (dflt : α) (t u : R) : ∀ (d i : Nat) (xs ys : List α), xs.length = ys.length → d + i = xs.length → 
    cnt (fun i (s : Unit) c _ => if xs.getD i.toNat dflt = ys.getD i.toNat dflt then c () else u) (fun _ _ => t) d (i : Int) () = if xs.drop i = ys.drop i then t else u
  | 0, i, xs, ys, hl, h => by
    simp only [cnt]
    rw [List.drop_eq_nil_of_le (by omega), List.drop_eq_nil_of_le (by omega)]; simp
  | d + 1, i, xs, ys, hl, h => by
    have h1 : i < xs.length := by omega
    have h2 : i < ys.length := by omega
    have := cnt_eq dflt t u d (i + 1) xs ys hl (by omega)
    simp only [cnt]
    rw [show (i : Int) + 1 = ((i + 1 : Nat) : Int) from rfl, this, List.drop_eq_getElem_cons h1, List.drop_eq_getElem_cons h2]
    simp only [Int.toNat_natCast, List.getD_eq_getElem?_getD, List.getElem?_eq_getElem h1, List.getElem?_eq_getElem h2, Option.getD_some, List.cons.injEq]
    by_cases he : xs[i] = ys[i] <;> simp [he]
end Go.GA
namespace Go.GA
end Go.GA
end
section
namespace Go.GA
/-- neighbours alike, once -/
def dd : List Int → List Int
  | [] => []
  | x :: l => match l with
    | [] => [x]
    | y :: _ => if x = y then dd l else x :: dd l
theorem dd_cons2 (x y : Int) (l : List Int) : dd (x :: y :: l) = if x = y then dd (y :: l) else x :: dd (y :: l) := by rw [dd]
theorem dd_snoc : ∀ (l : List Int) (y z : Int), dd (l ++ [y, z]) = if y = z then dd (l ++ [y]) else dd (l ++ [y]) ++ [z]
  | [], y, z => by simp only [List.nil_append, dd_cons2]; by_cases h : y = z <;> simp [h, dd]
  | [x], y, z => by
    simp only [List.cons_append, List.nil_append, dd_cons2]
    by_cases h : x = y <;> by_cases h2 : y = z <;> simp [h, h2, dd]
  | x :: x' :: l, y, z => by
    have ih := dd_snoc (x' :: l) y z
    simp only [List.cons_append] at ih ⊢
    rw [dd_cons2, ih, dd_cons2]
    by_cases h : x = x' <;> by_cases h2 : y = z <;> simp [h, h2]
theorem dd_take (x : List Int) (i : Nat) (h : i + 1 < x.length) : dd (x.take (i + 2)) = if x.getD i 0 = x.getD (i + 1) 0 then dd (x.take (i + 1)) else dd (x.take (i + 1)) ++ [x.getD (i + 1) 0] := by
  have e1 : x.take (i + 2) = x.take i ++ [x[i], x[i + 1]] := by
    have h1 : x.take (i + 1 + 1) = x.take (i + 1) ++ [x[i + 1]] := List.take_succ_eq_append_getElem h
    have h2 : x.take (i + 1) = x.take i ++ [x[i]] := List.take_succ_eq_append_getElem (by omega)
    rw [show i + 2 = i + 1 + 1 from rfl, h1, h2, List.append_assoc]; rfl
  have e2 : x.take (i + 1) = x.take i ++ [x[i]] := List.take_succ_eq_append_getElem (by omega)
  rw [e1, dd_snoc, e2]
  simp [List.getD_eq_getElem?_getD, List.getElem?_eq_getElem (show i < x.length by omega), List.getElem?_eq_getElem h]
theorem dd_len (l : List Int) : (dd l).length ≤ l.length := by
  induction l with
  | nil => exact Nat.le_refl 0
  | cons x l ih =>
    cases l with
    | nil => simp [dd]
    | cons y l =>
      rw [dd_cons2]
      split
      · simp only [List.length_cons] at ih ⊢; omega
      · simp only [List.length_cons] at ih ⊢; omega
/-- no neighbours alike so far -/
theorem dd_same (x : List Int) : ∀ (i : Nat), i ≤ x.length → (∀ j, 0 < j → j < i → x.getD j 0 ≠ x.getD (j - 1) 0) → dd (x.take i) = x.take i
  | 0, _, _ => rfl
  | 1, h, _ => by
    cases x with
    | nil => rfl
    | cons a l => simp [dd]
  | i + 2, h, hne => by
    have ih := dd_same x (i + 1) (by omega) (fun j h0 h1 => hne j h0 (by omega))
    rw [dd_take x i (by omega), if_neg (fun e => hne (i + 1) (by omega) (by omega) (by simpa using e.symm)), ih]
    have h1 : x.take (i + 1 + 1) = x.take (i + 1) ++ [x[i + 1]] := List.take_succ_eq_append_getElem (by omega)
    rw [show i + 2 = i + 1 + 1 from rfl, h1]
    simp [List.getD_eq_getElem?_getD, List.getElem?_eq_getElem (show i + 1 < x.length by omega)]
end Go.GA
end
section
namespace Go.GA
/-- what holds at each round of a loop -/
theorem cnt_ind {S R : Type} {f : Int → S → (S → R) → (Int → S → R) → R} {k : Int → S → R} (n : Nat) (I : Nat → S → Prop) (Q : R → Prop) (hk : ∀ s, I n s → Q (k (n : Int) s)) (hf : ∀ (i : Nat) s c, i < n → I i s → (∀ s', I (i + 1) s' → Q (c s')) → Q (f (i : Int) s c k)) :
    ∀ (d i : Nat) (s : S), d + i = n → I i s → Q (cnt f k d (i : Int) s)
  | 0, i, s, h, hi => by
    obtain rfl : i = n := by omega
    exact hk s hi
  | d + 1, i, s, h, hi => by
    refine hf i s _ (by omega) hi (fun s' hs' => ?_)
    have := cnt_ind n I Q hk hf d (i + 1) s' (by omega) hs'
    simpa using this
theorem cnt_ind0 {S R : Type} {f : Int → S → (S → R) → (Int → S → R) → R} {k : Int → S → R} {d : Nat} {s : S} (n : Nat) (I : Nat → S → Prop) (Q : R → Prop) (hd : d = n) (h0 : I 0 s) (hk : ∀ s, I n s → Q (k (n : Int) s)) (hf : ∀ (i : Nat) s c, i < n → I i s → (∀ s', I (i + 1) s' → Q (c s')) → Q (f (i : Int) s c k)) : Q (cnt f k d 0 s) := by
  have := cnt_ind n I Q hk hf d 0 s (by omega) h0
  simpa using this
/-- two loops that are alike where they run -/
theorem cnt_congr_n {S R : Type} {f g : Int → S → (S → R) → (Int → S → R) → R} {k : Int → S → R} {d : Nat} {s : S} (n : Nat) (hd : d = n) (h : ∀ (i : Nat) s c, i < n → f (i : Int) s c k = g (i : Int) s c k) : cnt f k d 0 s = cnt g k d 0 s := by
  have key : ∀ (d i : Nat) (s : S), d + i = n → cnt f k d (i : Int) s = cnt g k d (i : Int) s := by
    intro d
    induction d with
    | zero => intro i s _; rfl
    | succ d ih =>
      intro i s hi
      show f (i : Int) s _ k = g (i : Int) s _ k
      rw [h i s _ (by omega)]
      congr 1
      funext s'
      have := ih (i + 1) s' (by omega)
      simpa using this
  have := key d 0 s (by omega)
  simpa using this
end Go.GA
end
section
namespace Go.GA
open Go
end Go.GA
end
section
namespace Go.GA
open Go
end Go.GA
end
section
namespace Go.GA
open Go
end Go.GA
end
section
namespace Go.GA
open Go
/-- v more at the place j -/
def addAt (s : List Int) (j : Nat) (v : Int) : List Int := s.set j (s.getD j 0 + v)
def inner (i : Nat) (v : Int) (d : List Int) (s : List Int) : List Int := d.foldl (fun s f => addAt s (i + f.toNat) v) s
/-- the table with one die more: from the sum i on -/
def convL (T d : List Int) (l : List Nat) (s : List Int) : List Int := l.foldl (fun s i => inner i (T.getD i 0) d s) s
def conv (T d : List Int) : List Int := convL T d (List.range 121) (List.replicate 121 0)
def NN (s : List Int) : Prop := ∀ j, 0 ≤ s.getD j 0
end Go.GA
end
section
namespace Go.GA
open Go
set_option maxRecDepth 10000
/-- a table of m dice -/
structure Tab (m : Nat) (T : List Int) : Prop where
  len : T.length = 121
  nn : NN T
  sum : T.sum = ((6 ^ m : Nat) : Int)
  supp : ∀ j, 30 * m < j → T.getD j 0 = 0
end Go.GA
end
section
namespace Go.GA
open Go
set_option maxRecDepth 10000
/-- entries weighed by g from the place j on -/
def momL (g : Int → Int) : Int → List Int → Int
  | _, [] => 0
  | j, x :: l => g j * x + momL g (j + 1) l
def mom (g : Int → Int) (T : List Int) : Int := momL g 0 T
def sq (d : List Int) : Int := (d.map (fun f => f * f)).sum
def m1 (T : List Int) : Int := mom (fun i => i) T
def m2 (T : List Int) : Int := mom (fun i => i * i) T
/-! ### bounds -/
end Go.GA
end
section
namespace Go.GA
open Go
set_option maxRecDepth 10000
/-- a die of six faces in order -/
def Die6 (d : List Int) : Prop := ∃ a b c e f g, d = [a, b, c, e, f, g] ∧ 0 ≤ a ∧ a ≤ b ∧ b ≤ c ∧ c ≤ e ∧ e ≤ f ∧ f ≤ g ∧ g ≤ 30
theorem Die6.len {d : List Int} (h : Die6 d) : d.length = 6 := by obtain ⟨a, b, c, e, f, g, rfl, _⟩ := h; rfl
theorem Die6.sum {d : List Int} (h : Die6 d) : 0 ≤ d.sum ∧ d.sum ≤ 180 ∧ 0 ≤ sq d ∧ sq d ≤ 5400 := by
  obtain ⟨a, b, c, e, f, g, rfl, h⟩ := h
  have e1 : sq [a, b, c, e, f, g] = a * a + b * b + c * c + e * e + f * f + g * g := by simp [sq]; omega
  have e2 : [a, b, c, e, f, g].sum = a + b + c + e + f + g := by simp; omega
  rw [e1, e2]
  have k : ∀ z : Int, 0 ≤ z → z ≤ 30 → 0 ≤ z * z ∧ z * z ≤ 900 := fun z h0 h1 => ⟨Int.mul_nonneg h0 h0, by have := Int.mul_le_mul h1 h1 h0 (by omega); omega⟩
  have := k a (by omega) (by omega)
  have := k b (by omega) (by omega)
  have := k c (by omega) (by omega)
  have := k e (by omega) (by omega)
  have := k f (by omega) (by omega)
  have := k g (by omega) (by omega)
  omega
/-- what is known of the table T of dice with the sum A, the spread V and the bounds lo, hi -/
structure TM (T : List Int) (A V lo hi : Int) : Prop where
  a : 6 * m1 T = T.sum * A
  v : 36 * (m2 T * T.sum - m1 T * m1 T) = T.sum * T.sum * V
  l0 : 0 ≤ lo
  lh : lo ≤ hi
  lo1 : 1 ≤ T.getD lo.toNat 0
  hi1 : 1 ≤ T.getD hi.toNat 0
  out : ∀ s : Nat, T.getD s 0 ≠ 0 → lo ≤ s ∧ (s : Int) ≤ hi
  an : 0 ≤ A
  vn : 0 ≤ V
/-! ### tails -/
end Go.GA
end
