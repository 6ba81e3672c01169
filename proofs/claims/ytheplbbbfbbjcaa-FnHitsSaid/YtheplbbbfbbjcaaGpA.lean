/- Plain laws of the loops that the printed functions are told by. -/
import Derived.Test.YtheplbbbfbbjcaaGaC
import Derived.Test.YtheplbbbfbbjcaaGaD
import Derived.Lib.ItoaLen
import Derived.Lib.ItoaMem
section
namespace Go.GA
/-- a loop over a list -/
def lrun {α S R : Type} (F : α → S → (S → R) → R) (k : S → R) : List α → S → R
  | [], s => k s
  | x :: xs, s => F x s (fun s' => lrun F k xs s')
theorem cnt_list_aux {α S R : Type} {f : Int → S → (S → R) → (Int → S → R) → R} {k : Int → S → R} (F : α → S → (S → R) → R) (xs : List α) (dflt : α) (hf : ∀ i s c, 0 ≤ i → i < (xs.length : Int) → f i s c k = F (xs.getD i.toNat dflt) s c) :
    ∀ (d : Nat) (i : Nat) (s : S), d + i = xs.length → cnt f k d (i : Int) s = lrun F (k xs.length) (xs.drop i) s
  | 0, i, s, h => by
    have : xs.drop i = [] := List.drop_eq_nil_of_le (by omega)
    rw [this]
    obtain rfl : i = xs.length := by omega
    rfl
  | d + 1, i, s, h => by
    have hi : i < xs.length := by omega
    rw [List.drop_eq_getElem_cons hi]
    show f (i : Int) s _ k = F xs[i] s _
    rw [hf (i : Int) s _ (by omega) (by omega)]
    have e : xs.getD (i : Int).toNat dflt = xs[i] := by simp [hi]
    rw [e]
    congr 1
    funext s'
    have := cnt_list_aux F xs dflt hf d (i + 1) s' (by omega)
    simpa using this
theorem cnt_list {α S R : Type} {f : Int → S → (S → R) → (Int → S → R) → R} {k : Int → S → R} (F : α → S → (S → R) → R) (xs : List α) (dflt : α) {d : Nat} {s : S} (hd : d = xs.length) (hf : ∀ i s c, 0 ≤ i → i < (xs.length : Int) → f i s c k = F (xs.getD i.toNat dflt) s c) :
    cnt f k d 0 s = lrun F (k xs.length) xs s := by
  have := cnt_list_aux F xs dflt hf d 0 s (by omega)
  simpa using this
theorem lrun_fold {α S R : Type} (G : α → S → S) (k : S → R) : ∀ (xs : List α) (s : S), lrun (fun x s c => c (G x s)) k xs s = k (xs.foldl (fun s x => G x s) s)
  | [], s => rfl
  | x :: xs, s => lrun_fold G k xs (G x s)
/-- a loop that is left at the first element that is bad -/
theorem lrun_any {α S R : Type} (b : α → Bool) (r : R) (k : S → R) : ∀ (xs : List α) (s : S), lrun (fun x s c => if b x = true then r else c s) k xs s = if xs.any b = true then r else k s
  | [], s => by simp [lrun]
  | x :: xs, s => by
    show (if b x = true then r else lrun _ k xs s) = _
    rw [lrun_any b r k xs s]
    cases h : b x <;> simp [h]
theorem cnt_congr {S R : Type} {f g : Int → S → (S → R) → (Int → S → R) → R} {k : Int → S → R} (h : ∀ i s c, f i s c k = g i s c k) : ∀ (d : Nat) (i : Int) (s : S), cnt f k d i s = cnt g k d i s
  | 0, i, s => rfl
  | d + 1, i, s => by
    show f i s _ k = g i s _ k
    rw [h]; congr 1; funext s'; exact cnt_congr h d (i + 1) s'
/-- rounds that go on -/
def iter {S : Type} (g : Int → S → S) : Nat → Int → S → S
  | 0, _, s => s
  | d + 1, i, s => iter g d (i + 1) (g i s)
theorem cnt_iter {S R : Type} (g : Int → S → S) (k : Int → S → R) : ∀ (d : Nat) (i : Int) (s : S), cnt (fun i s c _ => c (g i s)) k d i s = k (i + d) (iter g d i s)
  | 0, i, s => by simp [cnt, iter]
  | d + 1, i, s => by
    show cnt _ k d (i + 1) (g i s) = _
    rw [cnt_iter g k d (i + 1) (g i s)]
    simp only [iter]
    congr 1
    omega
theorem iter_copy {α : Type} (xs : List α) (dflt : α) : ∀ (d i : Nat) (s : List α), d + i = xs.length → s.length = xs.length → s.take i = xs.take i → iter (fun i s => s.set i.toNat (xs.getD i.toNat dflt)) d (i : Int) s = xs
  | 0, i, s, h, hl, ht => by
    simp only [iter]
    rw [List.take_of_length_le (by omega), List.take_of_length_le (by omega)] at ht
    exact ht
  | d + 1, i, s, h, hl, ht => by
    simp only [iter]
    have hi : i < xs.length := by omega
    have := iter_copy xs dflt d (i + 1) (s.set i (xs.getD i dflt)) (by omega) (by simp [hl]) (by
      rw [List.take_add_one, List.take_add_one, List.take_set_of_le (Nat.le_refl i), ht]
      simp [hi, hl])
    simpa using this
/-- a list copied -/
theorem cnt_copy {α R : Type} (xs : List α) (dflt : α) {k : Int → List α → R} {d : Nat} {s : List α} (hd : d = xs.length) (hs : s.length = xs.length) : cnt (fun i s c _ => c (s.set i.toNat (xs.getD i.toNat dflt))) k d 0 s = k xs.length xs := by
  rw [cnt_iter]
  have := iter_copy xs dflt d 0 s (by omega) hs (by simp)
  simp only [Int.natCast_zero] at this
  rw [this, hd]; simp
theorem len6 {α : Type} {x : List α} (h : x.length = 6) : ∃ a b c d e f, x = [a, b, c, d, e, f] := by
  match x, h with
  | [a, b, c, d, e, f], _ => exact ⟨a, b, c, d, e, f, rfl⟩
/-- two lists compared -/
theorem cnt_eq {α R : Type} [DecidableEq α] (dflt : α) (t u : R) : ∀ (d i : Nat) (xs ys : List α), xs.length = ys.length → d + i = xs.length → 
    cnt (fun i (s : Unit) c _ => if xs.getD i.toNat dflt = ys.getD i.toNat dflt then c () else u) (fun _ _ => t) d (i : Int) () = if xs.drop i = ys.drop i then t else u
  | 0, i, xs, ys, hl, h => by
    simp only [cnt]
    rw [List.drop_eq_nil_of_le (by omega), List.drop_eq_nil_of_le (by omega)]; simp
  | d + 1, i, xs, ys, hl, h => by
    have h1 : i < xs.length := by omega
    have h2 : i < ys.length := by omega
    have := cnt_eq dflt t u d (i + 1) xs ys hl (by omega)
    simp only [cnt]
    rw [show (i : Int) + 1 = ((i + 1 : Nat) : Int) from rfl, this, List.drop_eq_getElem_cons h1, List.drop_eq_getElem_cons h2]
    simp only [Int.toNat_natCast, List.getD_eq_getElem?_getD, List.getElem?_eq_getElem h1, List.getElem?_eq_getElem h2, Option.getD_some, List.cons.injEq]
    by_cases he : xs[i] = ys[i] <;> simp [he]
end Go.GA
namespace Go.GA
theorem cnt_find {α : Type} (b : α → Bool) (dflt : α) (xs : List α) : ∀ (d i : Nat), d + i = xs.length →
    decide (0 ≤ cnt (fun i (s : Unit) c _ => if b (xs.getD i.toNat dflt) = true then i else c ()) (fun _ _ => (-1 : Int)) d (i : Int) ()) = (xs.drop i).any b
  | 0, i, h => by rw [List.drop_eq_nil_of_le (by omega)]; rfl
  | d + 1, i, h => by
    have h1 : i < xs.length := by omega
    have := cnt_find b dflt xs d (i + 1) (by omega)
    simp only [cnt]
    rw [List.drop_eq_getElem_cons h1, List.any_cons, ← this]
    simp only [Int.toNat_natCast, List.getD_eq_getElem?_getD, List.getElem?_eq_getElem h1, Option.getD_some]
    by_cases he : b xs[i] = true
    · simp only [he, if_true, Bool.true_or, decide_eq_true_eq]; omega
    · simp only [he]; simp
end Go.GA
end
section
namespace Go.GA
/-- neighbours alike, once -/
def dd : List Int → List Int
  | [] => []
  | x :: l => match l with
    | [] => [x]
    | y :: _ => if x = y then dd l else x :: dd l
theorem dd_cons2 (x y : Int) (l : List Int) : dd (x :: y :: l) = if x = y then dd (y :: l) else x :: dd (y :: l) := by rw [dd]
theorem dd_snoc : ∀ (l : List Int) (y z : Int), dd (l ++ [y, z]) = if y = z then dd (l ++ [y]) else dd (l ++ [y]) ++ [z]
  | [], y, z => by simp only [List.nil_append, dd_cons2]; by_cases h : y = z <;> simp [h, dd]
  | [x], y, z => by
    simp only [List.cons_append, List.nil_append, dd_cons2]
    by_cases h : x = y <;> by_cases h2 : y = z <;> simp [h, h2, dd]
  | x :: x' :: l, y, z => by
    have ih := dd_snoc (x' :: l) y z
    simp only [List.cons_append] at ih ⊢
    rw [dd_cons2, ih, dd_cons2]
    by_cases h : x = x' <;> by_cases h2 : y = z <;> simp [h, h2]
theorem dd_take (x : List Int) (i : Nat) (h : i + 1 < x.length) : dd (x.take (i + 2)) = if x.getD i 0 = x.getD (i + 1) 0 then dd (x.take (i + 1)) else dd (x.take (i + 1)) ++ [x.getD (i + 1) 0] := by
  have e1 : x.take (i + 2) = x.take i ++ [x[i], x[i + 1]] := by
    have h1 : x.take (i + 1 + 1) = x.take (i + 1) ++ [x[i + 1]] := List.take_succ_eq_append_getElem h
    have h2 : x.take (i + 1) = x.take i ++ [x[i]] := List.take_succ_eq_append_getElem (by omega)
    rw [show i + 2 = i + 1 + 1 from rfl, h1, h2, List.append_assoc]; rfl
  have e2 : x.take (i + 1) = x.take i ++ [x[i]] := List.take_succ_eq_append_getElem (by omega)
  rw [e1, dd_snoc, e2]
  simp [List.getD_eq_getElem?_getD, List.getElem?_eq_getElem (show i < x.length by omega), List.getElem?_eq_getElem h]
theorem dd_len (l : List Int) : (dd l).length ≤ l.length := by
  induction l with
  | nil => exact Nat.le_refl 0
  | cons x l ih =>
    cases l with
    | nil => simp [dd]
    | cons y l =>
      rw [dd_cons2]
      split
      · simp only [List.length_cons] at ih ⊢; omega
      · simp only [List.length_cons] at ih ⊢; omega
/-- no neighbours alike so far -/
theorem dd_same (x : List Int) : ∀ (i : Nat), i ≤ x.length → (∀ j, 0 < j → j < i → x.getD j 0 ≠ x.getD (j - 1) 0) → dd (x.take i) = x.take i
  | 0, _, _ => rfl
  | 1, h, _ => by
    cases x with
    | nil => rfl
    | cons a l => simp [dd]
  | i + 2, h, hne => by
    have ih := dd_same x (i + 1) (by omega) (fun j h0 h1 => hne j h0 (by omega))
    rw [dd_take x i (by omega), if_neg (fun e => hne (i + 1) (by omega) (by omega) (by simpa using e.symm)), ih]
    have h1 : x.take (i + 1 + 1) = x.take (i + 1) ++ [x[i + 1]] := List.take_succ_eq_append_getElem (by omega)
    rw [show i + 2 = i + 1 + 1 from rfl, h1]
    simp [List.getD_eq_getElem?_getD, List.getElem?_eq_getElem (show i + 1 < x.length by omega)]
end Go.GA
end
section
namespace Go.GA
/-- what holds at each round of a loop -/
theorem cnt_ind {S R : Type} {f : Int → S → (S → R) → (Int → S → R) → R} {k : Int → S → R} (n : Nat) (I : Nat → S → Prop) (Q : R → Prop) (hk : ∀ s, I n s → Q (k (n : Int) s)) (hf : ∀ (i : Nat) s c, i < n → I i s → (∀ s', I (i + 1) s' → Q (c s')) → Q (f (i : Int) s c k)) :
    ∀ (d i : Nat) (s : S), d + i = n → I i s → Q (cnt f k d (i : Int) s)
  | 0, i, s, h, hi => by
    obtain rfl : i = n := by omega
    exact hk s hi
  | d + 1, i, s, h, hi => by
    refine hf i s _ (by omega) hi (fun s' hs' => ?_)
    have := cnt_ind n I Q hk hf d (i + 1) s' (by omega) hs'
    simpa using this
theorem cnt_ind0 {S R : Type} {f : Int → S → (S → R) → (Int → S → R) → R} {k : Int → S → R} {d : Nat} {s : S} (n : Nat) (I : Nat → S → Prop) (Q : R → Prop) (hd : d = n) (h0 : I 0 s) (hk : ∀ s, I n s → Q (k (n : Int) s)) (hf : ∀ (i : Nat) s c, i < n → I i s → (∀ s', I (i + 1) s' → Q (c s')) → Q (f (i : Int) s c k)) : Q (cnt f k d 0 s) := by
  have := cnt_ind n I Q hk hf d 0 s (by omega) h0
  simpa using this
/-- two loops that are alike where they run -/
theorem cnt_congr_n {S R : Type} {f g : Int → S → (S → R) → (Int → S → R) → R} {k : Int → S → R} {d : Nat} {s : S} (n : Nat) (hd : d = n) (h : ∀ (i : Nat) s c, i < n → f (i : Int) s c k = g (i : Int) s c k) : cnt f k d 0 s = cnt g k d 0 s := by
  have key : ∀ (d i : Nat) (s : S), d + i = n → cnt f k d (i : Int) s = cnt g k d (i : Int) s := by
    intro d
    induction d with
    | zero => intro i s _; rfl
    | succ d ih =>
      intro i s hi
      show f (i : Int) s _ k = g (i : Int) s _ k
      rw [h i s _ (by omega)]
      congr 1
      funext s'
      have := ih (i + 1) s' (by omega)
      simpa using this
  have := key d 0 s (by omega)
  simpa using this
end Go.GA
end
section
namespace Go.GA
open Go
theorem loop_eq (s : ByteArray) : ∀ (d i : Nat) (r : List UInt8), d + i = s.size → ByteArray.toList.loop s i r = r.reverse ++ s.data.toList.drop i
  | 0, i, r, h => by
    unfold ByteArray.toList.loop
    rw [if_neg (by omega), List.drop_eq_nil_of_le (by rw [Array.length_toList]; exact Nat.le_of_eq (by omega : s.size = i)), List.append_nil]
  | d + 1, i, r, h => by
    unfold ByteArray.toList.loop
    have hi : i < s.size := by omega
    have hi' : i < s.data.toList.length := by rw [Array.length_toList]; exact hi
    rw [if_pos hi, loop_eq s d (i + 1) _ (by omega), List.drop_eq_getElem_cons hi']
    have e : s.get! i = s.data.toList[i] := by
      show s.data[i]! = _
      rw [getElem!_pos s.data i hi, Array.getElem_toList]
    rw [e]
    simp
theorem toList_data (s : ByteArray) : s.toList = s.data.toList := by
  unfold ByteArray.toList
  rw [loop_eq s s.size 0 [] (by omega)]
  simp
theorem eqS_data (a b : ByteArray) : eqS a b = (a.data.toList == b.data.toList) := by
  unfold eqS; rw [toList_data, toList_data]
theorem eqS_iff {a b : ByteArray} : eqS a b = true ↔ a = b := by
  rw [eqS_data, beq_iff_eq]
  constructor
  · intro h
    cases a; cases b
    simp only at h
    rw [Array.toList_inj.1 h]
  · intro h; rw [h]
theorem size_toList (s : ByteArray) : s.data.toList.length = s.size := by rw [Array.length_toList]; rfl
theorem index_ge (c : UInt8) : ∀ (l : List UInt8), -1 ≤ Lib.indexByte l c
  | [] => Int.le_refl _
  | b :: l => by
    have ih := index_ge c l
    show -1 ≤ (if b == c then (0 : Int) else if Lib.indexByte l c == -1 then -1 else Lib.indexByte l c + 1)
    split
    · omega
    · split <;> omega
theorem index_iff (c : UInt8) : ∀ (l : List UInt8), 0 ≤ Lib.indexByte l c ↔ l.any (· == c) = true
  | [] => by simp [Lib.indexByte]
  | b :: l => by
    have ih := index_iff c l
    have hge := index_ge c l
    show 0 ≤ (if b == c then (0 : Int) else if Lib.indexByte l c == -1 then -1 else Lib.indexByte l c + 1) ↔ _
    rw [List.any_cons]
    by_cases hb : (b == c) = true
    · rw [if_pos hb, hb]; simp
    · rw [if_neg hb, Bool.eq_false_iff.2 hb, Bool.false_or, ← ih]
      by_cases h : (Lib.indexByte l c == -1) = true
      · rw [if_pos h]
        have h2 := beq_iff_eq.1 h
        omega
      · rw [if_neg h]
        have h2 : Lib.indexByte l c ≠ -1 := fun e => h (beq_iff_eq.2 e)
        omega
theorem index_mem (c : UInt8) (l : List UInt8) : decide (0 ≤ Lib.indexByte l c) = l.any (· == c) := by
  by_cases h : 0 ≤ Lib.indexByte l c
  · rw [decide_eq_true h, (index_iff c l).1 h]
  · rw [decide_eq_false h]
    cases e : l.any (· == c) with
    | false => rfl
    | true => exact absurd ((index_iff c l).2 e) h
end Go.GA
end
section
namespace Go.GA
open Go
theorem nDigits_lt {u k : Nat} : 1 ≤ k → u < 10 ^ k → Lib.nDigits u ≤ k := by
  induction k generalizing u with
  | zero => omega
  | succ k ih =>
    intro _ h
    by_cases hs : u < 10
    · rw [Lib.nDigits_small hs]; omega
    · rw [Lib.nDigits_big hs]
      have : 1 ≤ k := by
        rcases Nat.eq_zero_or_pos k with rfl | h0
        · simp at h; omega
        · exact h0
      have := ih (u := u / 10) this (by rw [Nat.pow_succ] at h; omega)
      omega
/-- the digits of a number -/
def numB (n : Nat) : ByteArray := ⟨(Lib.decDigits n).toArray⟩
theorem numB_list (n : Nat) : (numB n).data.toList = Lib.decDigits n := by simp [numB]
theorem numB_size (n : Nat) : (numB n).size = Lib.nDigits n := by rw [← size_toList, numB_list, Lib.decDigits_length]
theorem itoa_num (n : Nat) (h : n ≤ 9223372036854775807) : p_strconv_Itoa (n : Int) = some (numB n) := by
  unfold p_strconv_Itoa
  rw [if_pos ⟨by omega, by omega⟩, Lib.itoa_nonneg]
  rfl
theorem dec_digit {b : UInt8} : ∀ {n : Nat}, b ∈ Lib.decDigits n → 48 ≤ b.toNat ∧ b.toNat ≤ 57 := by
  intro n
  induction n using Nat.strongRecOn with
  | _ n ih =>
    intro h
    rw [Lib.decDigits] at h
    have key : ∀ d : Nat, d < 10 → (UInt8.ofNat (48 + d)).toNat = 48 + d := by
      intro d hd
      rw [UInt8.toNat_ofNat']
      omega
    split at h
    · rename_i hs
      simp only [List.mem_singleton] at h
      subst h
      rw [key _ hs]; omega
    · rcases List.mem_append.1 h with h | h
      · exact ih _ (by omega) h
      · simp only [List.mem_singleton] at h
        subst h
        rw [key _ (by omega)]; omega
theorem ba_append_list (a b : ByteArray) : (a ++ b).data.toList = a.data.toList ++ b.data.toList := by simp
theorem ba_append_size (a b : ByteArray) : (a ++ b).size = a.size + b.size := by rw [← size_toList, ba_append_list, List.length_append, size_toList, size_toList]
theorem ba_ext {a b : ByteArray} (h : a.data.toList = b.data.toList) : a = b := by
  cases a; cases b; simp only [ByteArray.mk.injEq]; exact Array.toList_inj.1 h
theorem one_digit : ∀ i : _root_.Fin 10, (ByteArray.mk #[48, 49, 50, 51, 52, 53, 54, 55, 56, 57]).extract i.val (i.val + 1) = ⟨#[UInt8.ofNat (48 + i.val)]⟩ := by decide +kernel
theorem one_digit' (d : Nat) (h : d < 10) : (ByteArray.mk #[48, 49, 50, 51, 52, 53, 54, 55, 56, 57]).extract d (d + 1) = numB d := by
  rw [show (ByteArray.mk #[48, 49, 50, 51, 52, 53, 54, 55, 56, 57]).extract d (d + 1) = ⟨#[UInt8.ofNat (48 + d)]⟩ from one_digit ⟨d, h⟩]
  unfold numB
  rw [Lib.decDigits, dif_pos h]
theorem numB_step {n : Nat} (h : ¬ n < 10) : numB (n / 10) ++ numB (n % 10) = numB n := by
  apply ba_ext
  rw [ba_append_list, numB_list, numB_list, numB_list, Lib.decDigits.eq_def n, dif_neg h, Lib.decDigits.eq_def (n % 10), dif_pos (by omega)]
theorem tdiv10 (n : Nat) : (n : Int).tdiv 10 = ((n / 10 : Nat) : Int) := by rw [Int.tdiv_eq_ediv_of_nonneg (by omega)]; omega
theorem tmod10 (n : Nat) : (n : Int).tmod 10 = ((n % 10 : Nat) : Int) := by rw [Int.tmod_eq_emod_of_nonneg (by omega)]; omega
end Go.GA
end
section
namespace Go.GA
open Go
theorem ext_list (s : ByteArray) (a b : Nat) : (s.extract a b).data.toList = (s.data.toList.drop a).take (b - a) := by simp [List.extract_eq_take_drop]
theorem ext_size (s : ByteArray) (a b : Nat) (h1 : a ≤ b) (h2 : b ≤ s.size) : (s.extract a b).size = b - a := by
  rw [← size_toList, ext_list, List.length_take, List.length_drop, size_toList]; omega
theorem fi_app0 (b : UInt8) : ∀ (l c : List UInt8), (∀ x ∈ l, x ≠ b) → (l ++ b :: c).findIdx (· == b) = l.length
  | [], c, _ => by simp [List.findIdx_cons]
  | x :: l, c, h => by
    have h1 : (x == b) = false := by simpa using h x (by simp)
    rw [List.cons_append, List.findIdx_cons, h1, cond_false, fi_app0 b l c (fun y hy => h y (by simp [hy]))]
    rfl
theorem fi_split0 (b : UInt8) : ∀ (l : List UInt8), l.findIdx (· == b) < l.length → l = l.take (l.findIdx (· == b)) ++ b :: l.drop (l.findIdx (· == b) + 1) ∧ ∀ x ∈ l.take (l.findIdx (· == b)), x ≠ b
  | [], h => by simp at h
  | x :: l, h => by
    by_cases h1 : x == b
    · rw [List.findIdx_cons, h1]
      have : x = b := by simpa using h1
      subst this
      simp
    · have h1' : (x == b) = false := by simpa using h1
      rw [List.findIdx_cons, h1', cond_false] at h ⊢
      obtain ⟨e, hn⟩ := fi_split0 b l (by simpa using h)
      refine ⟨?_, fun y hy => ?_⟩
      · rw [List.take_succ_cons, List.drop_succ_cons, List.cons_append, ← e]
      · rw [List.take_succ_cons] at hy
        rcases List.mem_cons.1 hy with rfl | hy
        · simpa using h1
        · exact hn y hy
theorem fi_index0 (b : UInt8) : ∀ (l : List UInt8), Lib.indexByte l b = if l.findIdx (· == b) < l.length then ((l.findIdx (· == b) : Nat) : Int) else -1
  | [] => by simp [Lib.indexByte]
  | x :: l => by
    show (if (x == b) = true then (0 : Int) else if (Lib.indexByte l b == -1) = true then -1 else Lib.indexByte l b + 1) = _
    by_cases h1 : x == b
    · rw [List.findIdx_cons, h1]; simp
    · have h1' : (x == b) = false := by simpa using h1
      rw [List.findIdx_cons, h1', cond_false, if_neg (by simp), fi_index0 b l, List.length_cons]
      by_cases hlt : l.findIdx (· == b) < l.length
      · rw [if_pos hlt, if_neg (by simp), if_pos (by omega)]; omega
      · rw [if_neg hlt, if_pos (by simp), if_neg (by omega)]
/-- where b first stands -/
def fi (b : UInt8) (s : ByteArray) : Nat := s.data.toList.findIdx (· == b)
theorem fi_le (b : UInt8) (s : ByteArray) : fi b s ≤ s.size := by
  have := List.findIdx_le_length (p := (· == b)) (xs := s.data.toList)
  rw [size_toList] at this
  exact this
theorem cut_app {b : UInt8} {s A C : ByteArray} (e : s = A ++ ByteArray.mk #[b] ++ C) (h : ∀ y ∈ A.data.toList, y ≠ b) : fi b s = A.size ∧ A.size < s.size ∧ s.extract 0 A.size = A ∧ s.extract (A.size + 1) s.size = C := by
  have e1 : (ByteArray.mk #[b]).size = 1 := rfl
  have hsz : s.size = A.size + 1 + C.size := by rw [e, ba_append_size, ba_append_size, e1]
  have hl : s.data.toList = A.data.toList ++ b :: C.data.toList := by rw [e, ba_append_list, ba_append_list]; simp
  refine ⟨?_, by omega, ?_, ?_⟩
  · unfold fi; rw [hl, fi_app0 b _ _ h, size_toList]
  · apply ba_ext; rw [ext_list, hl, List.drop_zero, Nat.sub_zero, ← size_toList A, List.take_left]
  · apply ba_ext
    rw [ext_list, hl, hsz, List.drop_append, List.drop_eq_nil_of_le (by rw [size_toList]; omega), size_toList, List.nil_append, show A.size + 1 - A.size = 1 by omega, List.drop_succ_cons, List.drop_zero, List.take_of_length_le (by rw [size_toList]; omega)]
theorem cut_split {b : UInt8} {s : ByteArray} (h : fi b s < s.size) : s = s.extract 0 (fi b s) ++ ByteArray.mk #[b] ++ s.extract (fi b s + 1) s.size ∧ (∀ y ∈ (s.extract 0 (fi b s)).data.toList, y ≠ b) ∧ s.extract 0 (fi b s + 1) = s.extract 0 (fi b s) ++ ByteArray.mk #[b] := by
  have h' : s.data.toList.findIdx (· == b) < s.data.toList.length := by rw [size_toList]; exact h
  obtain ⟨e, hn⟩ := fi_split0 b _ h'
  refine ⟨?_, ?_, ?_⟩
  · apply ba_ext
    rw [ba_append_list, ba_append_list, ext_list, ext_list, List.drop_zero, Nat.sub_zero, List.take_of_length_le (l := s.data.toList.drop _) (by rw [List.length_drop, size_toList]; omega)]
    simpa [fi] using e
  · intro y hy
    rw [ext_list, List.drop_zero, Nat.sub_zero] at hy
    exact hn y hy
  · apply ba_ext
    rw [ba_append_list, ext_list, ext_list, List.drop_zero, Nat.sub_zero, Nat.sub_zero]
    have hlen : (s.data.toList.take (s.data.toList.findIdx (· == b))).length = s.data.toList.findIdx (· == b) := by rw [List.length_take]; omega
    have key : ∀ (A C : List UInt8) (k : Nat), A.length = k → (A ++ b :: C).take (k + 1) = A ++ [b] := by
      intro A C k hk
      subst hk
      rw [List.take_append, List.take_of_length_le (by omega), show A.length + 1 - A.length = 1 by omega]
      simp
    have := key _ (s.data.toList.drop (s.data.toList.findIdx (· == b) + 1)) _ hlen
    rw [← e] at this
    simpa [fi] using this
theorem app_left (A C : ByteArray) : (A ++ C).extract 0 A.size = A := by
  apply ba_ext; rw [ext_list, ba_append_list, List.drop_zero, Nat.sub_zero, ← size_toList A, List.take_left]
theorem app_right (A C : ByteArray) : (A ++ C).extract A.size (A ++ C).size = C := by
  apply ba_ext; rw [ext_list, ba_append_list, ba_append_size, List.drop_append, List.drop_eq_nil_of_le (by rw [size_toList]; omega), size_toList, Nat.sub_self, List.nil_append, List.drop_zero, List.take_of_length_le (by rw [size_toList]; omega)]
theorem ba_assoc (A B C : ByteArray) : A ++ B ++ C = A ++ (B ++ C) := by apply ba_ext; simp
theorem ext_all (s : ByteArray) : s.extract 0 s.size = s := by
  apply ba_ext; rw [ext_list, List.drop_zero, List.take_of_length_le (by rw [size_toList]; omega)]
theorem ext_ext (s : ByteArray) (a n : Nat) : (s.extract a s.size).extract n (s.extract a s.size).size = s.extract (a + n) s.size := by
  apply ba_ext
  rw [ext_list, ext_list, ext_list, ← size_toList (s.extract a s.size), ext_list]
  rw [List.take_of_length_le (l := s.data.toList.drop a) (by rw [List.length_drop, size_toList]; omega), List.drop_drop]
  rw [List.take_of_length_le (by simp; omega), List.take_of_length_le (by rw [List.length_drop, size_toList]; omega)]
/-- the index of a byte in a text -/
def idxG (b : UInt8) (x : ByteArray) : Int := if eqS (ByteArray.mk #[b]) x = true then 0 else Lib.indexByte x.data.toList b
theorem idxB_eq (b : UInt8) (x : ByteArray) : Lib.indexByte x.data.toList b = if fi b x < x.size then ((fi b x : Nat) : Int) else -1 := by
  rw [fi_index0, size_toList]; rfl
theorem idxG_eq (b : UInt8) (x : ByteArray) : idxG b x = if fi b x < x.size then ((fi b x : Nat) : Int) else -1 := by
  unfold idxG
  by_cases h : eqS (ByteArray.mk #[b]) x = true
  · rw [if_pos h]
    have e := eqS_iff.1 h
    subst e
    have : fi b (ByteArray.mk #[b]) = 0 := by simp [fi, List.findIdx_cons]
    rw [this, if_pos (show 0 < (ByteArray.mk #[b]).size from Nat.zero_lt_one)]
    rfl
  · rw [if_neg h, idxB_eq]
theorem anyI (x1 : Int) (xs : List Int) : decide (0 ≤ cnt (fun i2 (s1 : Unit) c3 _ => (if x1 = (xs.getD i2.toNat 0) then i2 else c3 ())) (fun i2 (s1 : Unit) => (-1 : Int)) (Int.toNat ((xs.length : Int) - 0)) 0 ()) = xs.any (fun y => decide (x1 = y)) := by
  have h := cnt_find (fun y => decide (x1 = y)) (0 : Int) xs xs.length 0 (by omega)
  rw [cnt_congr (g := fun i (s : Unit) c _ => if (fun y => decide (x1 = y)) (xs.getD i.toNat 0) = true then i else c ()) (fun i s c => by
    show (if x1 = xs.getD i.toNat 0 then i else c ()) = if decide (x1 = xs.getD i.toNat 0) = true then i else c ()
    by_cases hh : x1 = xs.getD i.toNat 0
    · rw [if_pos hh, if_pos (decide_eq_true hh)]
    · rw [if_neg hh, if_neg (by simpa using hh)])]
  simp only [Int.sub_zero, Int.toNat_natCast]
  simp only [Int.natCast_zero, List.drop_zero] at h
  exact h
end Go.GA
end
section
namespace Go.GA
open Go
/-- v more at the place j -/
def addAt (s : List Int) (j : Nat) (v : Int) : List Int := s.set j (s.getD j 0 + v)
def inner (i : Nat) (v : Int) (d : List Int) (s : List Int) : List Int := d.foldl (fun s f => addAt s (i + f.toNat) v) s
/-- the table with one die more: from the sum i on -/
def convL (T d : List Int) (l : List Nat) (s : List Int) : List Int := l.foldl (fun s i => inner i (T.getD i 0) d s) s
def conv (T d : List Int) : List Int := convL T d (List.range 121) (List.replicate 121 0)
def NN (s : List Int) : Prop := ∀ j, 0 ≤ s.getD j 0
theorem addAt_len (s : List Int) (j : Nat) (v : Int) : (addAt s j v).length = s.length := by simp [addAt]
theorem addAt_getD (s : List Int) (j : Nat) (v : Int) (q : Nat) (hj : j < s.length) : (addAt s j v).getD q 0 = s.getD q 0 + if q = j then v else 0 := by
  unfold addAt
  by_cases h : q = j
  · subst h
    rw [if_pos rfl, List.getD_eq_getElem?_getD, List.getElem?_set_self hj]
    rfl
  · rw [if_neg h, List.getD_eq_getElem?_getD, List.getElem?_set_ne (Ne.symm h), ← List.getD_eq_getElem?_getD]; omega
theorem addAt_zero (s : List Int) (j : Nat) : addAt s j 0 = s := by
  unfold addAt
  rw [Int.add_zero]
  by_cases h : j < s.length
  · rw [List.getD_eq_getElem?_getD, List.getElem?_eq_getElem h]
    simp
  · rw [List.set_eq_of_length_le (by omega)]
theorem addAt_nn {s : List Int} {j : Nat} {v : Int} (hs : NN s) (hv : 0 ≤ v) (hj : j < s.length) : NN (addAt s j v) := fun q => by
  rw [addAt_getD s j v q hj]
  have := hs q
  split <;> omega
theorem sum_set : ∀ (s : List Int) (j : Nat) (v : Int), j < s.length → (s.set j v).sum = s.sum - s.getD j 0 + v
  | [], j, v, h => by simp at h
  | x :: s, 0, v, _ => by simp; omega
  | x :: s, j + 1, v, h => by
    have := sum_set s j v (by simpa using h)
    simp only [List.set_cons_succ, List.sum_cons, List.getD_cons_succ, this]
    omega
theorem addAt_sum {s : List Int} {j : Nat} {v : Int} (hj : j < s.length) : (addAt s j v).sum = s.sum + v := by
  unfold addAt
  rw [sum_set s j _ hj]; omega
theorem sum_nn : ∀ {s : List Int}, NN s → 0 ≤ s.sum
  | [], _ => by simp
  | x :: s, h => by
    have h0 := h 0
    have := sum_nn (s := s) (fun j => h (j + 1))
    simp only [List.getD_cons_zero] at h0
    rw [List.sum_cons]; omega
theorem getD_le_sum : ∀ {s : List Int}, NN s → ∀ j, s.getD j 0 ≤ s.sum
  | [], _, j => by simp
  | x :: s, h, 0 => by
    have := sum_nn (s := s) (fun j => h (j + 1))
    rw [List.sum_cons, List.getD_cons_zero]; omega
  | x :: s, h, j + 1 => by
    have := getD_le_sum (s := s) (fun j => h (j + 1)) j
    have h0 := h 0
    simp only [List.getD_cons_zero] at h0
    rw [List.sum_cons, List.getD_cons_succ]; omega
/-- the faces of a die lead into the table -/
def InT (i : Nat) (d : List Int) : Prop := ∀ f ∈ d, 0 ≤ f ∧ i + f.toNat < 121
theorem inner_facts (i : Nat) (v : Int) (hv : 0 ≤ v) : ∀ (d s : List Int), (v = 0 ∨ InT i d) → s.length = 121 → NN s → (inner i v d s).length = 121 ∧ NN (inner i v d s) ∧ (inner i v d s).sum = s.sum + d.length * v
  | [], s, _, hl, hn => ⟨hl, hn, by simp [inner]⟩
  | f :: d, s, hd, hl, hn => by
    have e : inner i v (f :: d) s = inner i v d (addAt s (i + f.toNat) v) := rfl
    rw [e]
    rcases hd with h0 | hd
    · subst h0
      rw [addAt_zero]
      obtain ⟨h1, h2, h3⟩ := inner_facts i 0 hv d s (.inl rfl) hl hn
      exact ⟨h1, h2, by rw [h3]; simp⟩
    · obtain ⟨f0, f1⟩ := hd f (by simp)
      obtain ⟨h1, h2, h3⟩ := inner_facts i v hv d (addAt s (i + f.toNat) v) (.inr (fun g hg => hd g (by simp [hg]))) (by rw [addAt_len]; exact hl) (addAt_nn hn hv (by omega))
      refine ⟨h1, h2, ?_⟩
      rw [h3, addAt_sum (by omega), List.length_cons]
      have : ((d.length + 1 : Nat) : Int) * v = (d.length : Int) * v + v := by rw [Int.natCast_add, Int.add_mul]; simp
      rw [this]; omega
theorem inner_zero (i : Nat) : ∀ (d s : List Int), inner i 0 d s = s
  | [], s => rfl
  | f :: d, s => by
    have e : inner i 0 (f :: d) s = inner i 0 d (addAt s (i + f.toNat) 0) := rfl
    rw [e, addAt_zero, inner_zero i d s]
/-- entries that stay 0 -/
theorem inner_supp (i : Nat) (v : Int) (M : Nat) : ∀ (d s : List Int), s.length = 121 → (∀ f ∈ d, i + f.toNat < 121 ∧ i + f.toNat ≤ M) → (∀ j, M < j → s.getD j 0 = 0) → ∀ j, M < j → (inner i v d s).getD j 0 = 0
  | [], s, _, _, h, j, hj => h j hj
  | f :: d, s, hl, hd, h, j, hj => by
    have e : inner i v (f :: d) s = inner i v d (addAt s (i + f.toNat) v) := rfl
    rw [e]
    obtain ⟨f1, f2⟩ := hd f (by simp)
    refine inner_supp i v M d _ (by rw [addAt_len]; exact hl) (fun g hg => hd g (by simp [hg])) (fun q hq => ?_) j hj
    rw [addAt_getD _ _ _ _ (by omega), if_neg (by omega), h q hq]; rfl
theorem inner_run {R : Type} (i : Nat) (v : Int) (hv : 0 ≤ v) (hi : i ≤ 121) (K : List Int → Option R) : ∀ (d s : List Int), InT i d → s.length = 121 → NN s → s.sum + d.length * v ≤ 1000000 →
    lrun (fun (f : Int) (s : List Int) (c : List Int → Option R) => if 0 ≤ (IntKind.wrap .i64 ((i : Int) + f)) then if (IntKind.wrap .i64 ((i : Int) + f)) < 121 then c (s.set (IntKind.wrap .i64 ((i : Int) + f)).toNat (IntKind.wrap .i64 ((s.getD (IntKind.wrap .i64 ((i : Int) + f)).toNat 0) + v))) else none else none) K d s = K (inner i v d s)
  | [], s, _, _, _, _ => rfl
  | f :: d, s, hd, hl, hn, hb => by
    obtain ⟨f0, f1⟩ := hd f (by simp)
    have ew : IntKind.wrap .i64 ((i : Int) + f) = (i : Int) + f := wrap_id (by omega) (by omega)
    have et : ((i : Int) + f).toNat = i + f.toNat := by omega
    have hlen : ((f :: d).length : Int) * v = (d.length : Int) * v + v := by rw [List.length_cons, Int.natCast_add, Int.add_mul]; simp
    rw [hlen] at hb
    have hdv : 0 ≤ (d.length : Int) * v := Int.mul_nonneg (by omega) hv
    have h1 := hn (i + f.toNat)
    have h2 := getD_le_sum hn (i + f.toNat)
    have ew2 : IntKind.wrap .i64 (s.getD (i + f.toNat) 0 + v) = s.getD (i + f.toNat) 0 + v := wrap_id (by omega) (by omega)
    show (if 0 ≤ (IntKind.wrap .i64 ((i : Int) + f)) then _ else none) = _
    rw [ew, if_pos (by omega), if_pos (by omega), et, ew2]
    have ih := inner_run i v hv hi K d (addAt s (i + f.toNat) v) (fun g hg => hd g (by simp [hg])) (by rw [addAt_len]; exact hl) (addAt_nn hn hv (by omega)) (by rw [addAt_sum (by omega)]; omega)
    exact ih
end Go.GA
end
section
namespace Go.GA
open Go
set_option maxRecDepth 10000
def tsum (T : List Int) (l : List Nat) : Int := (l.map (fun i => T.getD i 0)).sum
theorem range_map (T : List Int) : (List.range T.length).map (fun i => T.getD i 0) = T := by
  apply List.ext_getElem
  · simp
  · intro i h1 h2
    simp [List.getD_eq_getElem?_getD, List.getElem?_eq_getElem h2]
theorem tsum_range {T : List Int} (h : T.length = 121) : tsum T (List.range 121) = T.sum := by
  unfold tsum
  rw [← h, range_map]
theorem convL_facts {T d : List Int} (hT : NN T) : ∀ (l : List Nat) (s : List Int), (∀ i ∈ l, T.getD i 0 = 0 ∨ InT i d) → s.length = 121 → NN s → (convL T d l s).length = 121 ∧ NN (convL T d l s) ∧ (convL T d l s).sum = s.sum + d.length * tsum T l
  | [], s, _, hl, hn => ⟨hl, hn, by simp [convL, tsum]⟩
  | i :: l, s, hi, hl, hn => by
    have e : convL T d (i :: l) s = convL T d l (inner i (T.getD i 0) d s) := rfl
    obtain ⟨a1, a2, a3⟩ := inner_facts i (T.getD i 0) (hT i) d s (hi i (by simp)) hl hn
    obtain ⟨b1, b2, b3⟩ := convL_facts hT l (inner i (T.getD i 0) d s) (fun j hj => hi j (by simp [hj])) a1 a2
    rw [e]
    refine ⟨b1, b2, ?_⟩
    rw [b3, a3]
    have : tsum T (i :: l) = T.getD i 0 + tsum T l := by simp [tsum]
    rw [this, Int.mul_add]; omega
theorem convL_supp {T d : List Int} {M N : Nat} (hN : N ≤ 120) (hd : ∀ f ∈ d, 0 ≤ f ∧ f ≤ 30) (hM : M + 30 ≤ N) (hs : ∀ j, M < j → T.getD j 0 = 0) : ∀ (l : List Nat) (s : List Int), s.length = 121 → NN s → NN T → (∀ i ∈ l, T.getD i 0 = 0 ∨ InT i d) → (∀ j, N < j → s.getD j 0 = 0) → ∀ j, N < j → (convL T d l s).getD j 0 = 0
  | [], s, _, _, _, _, h, j, hj => h j hj
  | i :: l, s, hl, hn, hT, hin, h, j, hj => by
    have e : convL T d (i :: l) s = convL T d l (inner i (T.getD i 0) d s) := rfl
    rw [e]
    obtain ⟨a1, a2, _⟩ := inner_facts i (T.getD i 0) (hT i) d s (hin i (by simp)) hl hn
    refine convL_supp hN hd hM hs l _ a1 a2 hT (fun q hq => hin q (by simp [hq])) ?_ j hj
    by_cases hi : M < i
    · rw [hs i hi, inner_zero]; exact h
    · exact inner_supp i _ N d s hl (fun f hf => by have := hd f hf; omega) h
theorem nn_rep : NN (List.replicate 121 0) := fun j => by
  rw [List.getD_eq_getElem?_getD]
  by_cases h : j < 121
  · rw [List.getElem?_replicate_of_lt h]; simp
  · rw [List.getElem?_eq_none (by simp; omega)]; simp
theorem inT_of {d : List Int} (hd : ∀ f ∈ d, 0 ≤ f ∧ f ≤ 30) {i : Nat} (hi : i ≤ 90) : InT i d := fun f hf => by
  have := hd f hf; omega
/-- a table of m dice -/
structure Tab (m : Nat) (T : List Int) : Prop where
  len : T.length = 121
  nn : NN T
  sum : T.sum = ((6 ^ m : Nat) : Int)
  supp : ∀ j, 30 * m < j → T.getD j 0 = 0
theorem tab_conv {m : Nat} {T d : List Int} (h : Tab m T) (hm : m ≤ 3) (h6 : d.length = 6) (hd : ∀ f ∈ d, 0 ≤ f ∧ f ≤ 30) : Tab (m + 1) (conv T d) ∧ ∀ i, T.getD i 0 = 0 ∨ InT i d := by
  have hin : ∀ i, T.getD i 0 = 0 ∨ InT i d := fun i => by
    by_cases hi : 30 * m < i
    · exact .inl (h.supp i hi)
    · exact .inr (inT_of hd (by omega))
  obtain ⟨a1, a2, a3⟩ := convL_facts (d := d) h.nn (List.range 121) (List.replicate 121 0) (fun i _ => hin i) (by simp) nn_rep
  refine ⟨⟨a1, a2, ?_, ?_⟩, hin⟩
  · show (convL T d (List.range 121) (List.replicate 121 0)).sum = _
    rw [a3, tsum_range h.len, h.sum, h6, Nat.pow_succ]
    have : (List.replicate 121 (0 : Int)).sum = 0 := by decide
    rw [this]; omega
  · refine convL_supp (M := 30 * m) (N := 30 * (m + 1)) (by omega) hd (by omega) h.supp (List.range 121) _ (by simp) nn_rep h.nn (fun i _ => hin i) (fun j hj => ?_)
    rw [List.getD_eq_getElem?_getD]
    by_cases hlt : j < 121
    · rw [List.getElem?_replicate_of_lt hlt]; rfl
    · rw [List.getElem?_eq_none (by simp; omega)]; rfl
theorem tab_one : Tab 0 ((List.replicate 121 (0 : Int)).set 0 1) := by
  refine ⟨by simp, fun j => ?_, by decide, fun j hj => ?_⟩
  · rw [List.getD_eq_getElem?_getD]
    by_cases h : j = 0
    · subst h; rw [List.getElem?_set_self (by simp)]; decide
    · rw [List.getElem?_set_ne (Ne.symm h)]
      by_cases h2 : j < 121
      · rw [List.getElem?_replicate_of_lt h2]; simp
      · rw [List.getElem?_eq_none (by simp; omega)]; simp
  · rw [List.getD_eq_getElem?_getD, List.getElem?_set_ne (by omega)]
    by_cases h2 : j < 121
    · rw [List.getElem?_replicate_of_lt h2]; rfl
    · rw [List.getElem?_eq_none (by simp; omega)]; rfl
/-- the loop over the sums -/
theorem outer_run {R : Type} {T d : List Int} (h6 : d.length = 6) (hT : NN T) (hin : ∀ i, T.getD i 0 = 0 ∨ InT i d) (K : List Int → Option R) {f : Int → List Int → (List Int → Option R) → (Int → List Int → Option R) → Option R}
    (hf : ∀ (i : Nat) (s : List Int) (c : List Int → Option R), i < 121 → s.length = 121 → NN s → s.sum + 6 * T.getD i 0 ≤ 1000000 → f (i : Int) s c (fun _ s => K s) = c (inner i (T.getD i 0) d s)) :
    ∀ (n i : Nat) (s : List Int), n + i = 121 → s.length = 121 → NN s → s.sum + 6 * tsum T (List.range' i n) ≤ 1000000 → cnt f (fun _ s => K s) n (i : Int) s = K (convL T d (List.range' i n) s)
  | 0, i, s, _, _, _, _ => rfl
  | n + 1, i, s, hni, hl, hn, hb => by
    have e : List.range' i (n + 1) = i :: List.range' (i + 1) n := rfl
    have et : tsum T (i :: List.range' (i + 1) n) = T.getD i 0 + tsum T (List.range' (i + 1) n) := by simp [tsum]
    have hge : 0 ≤ tsum T (List.range' (i + 1) n) := by
      unfold tsum
      generalize List.range' (i + 1) n = l
      induction l with
      | nil => simp
      | cons a l ih => have := hT a; rw [List.map_cons, List.sum_cons]; omega
    rw [e, et] at hb
    have h0 := hT i
    obtain ⟨a1, a2, a3⟩ := inner_facts i (T.getD i 0) h0 d s (hin i) hl hn
    show f (i : Int) s (fun s' => cnt f (fun _ s => K s) n ((i : Int) + 1) s') (fun _ s => K s) = _
    rw [hf i s _ (by omega) hl hn (by omega), e]
    have ih := outer_run h6 hT hin K hf n (i + 1) (inner i (T.getD i 0) d s) (by omega) a1 a2 (by rw [a3, h6]; omega)
    have ec : ((i + 1 : Nat) : Int) = (i : Int) + 1 := by omega
    rw [ec] at ih
    exact ih
end Go.GA
end
section
namespace Go.GA
open Go
set_option maxRecDepth 10000
/-- entries weighed by g from the place j on -/
def momL (g : Int → Int) : Int → List Int → Int
  | _, [] => 0
  | j, x :: l => g j * x + momL g (j + 1) l
def mom (g : Int → Int) (T : List Int) : Int := momL g 0 T
theorem momL_set (g : Int → Int) : ∀ (s : List Int) (b : Int) (j : Nat) (v : Int), j < s.length → momL g b (s.set j v) = momL g b s + g (b + j) * (v - s.getD j 0)
  | [], b, j, v, h => by simp at h
  | x :: s, b, 0, v, _ => by simp [momL]; grind
  | x :: s, b, j + 1, v, h => by
    have := momL_set g s (b + 1) j v (by simpa using h)
    simp only [List.set_cons_succ, momL, List.getD_cons_succ, this]
    have e : b + 1 + (j : Int) = b + ((j + 1 : Nat) : Int) := by omega
    rw [e]; grind
theorem mom_addAt (g : Int → Int) {s : List Int} {j : Nat} (v : Int) (hj : j < s.length) : mom g (addAt s j v) = mom g s + g j * v := by
  unfold mom addAt
  rw [momL_set g s 0 j _ hj]
  have e : (0 : Int) + (j : Int) = j := by omega
  rw [e]; grind
theorem momL_rep (g : Int → Int) : ∀ (n : Nat) (b : Int), momL g b (List.replicate n 0) = 0
  | 0, _ => rfl
  | n + 1, b => by rw [List.replicate_succ]; simp [momL, momL_rep g n]
theorem mom_one : ∀ (T : List Int) (b : Int), momL (fun _ => 1) b T = T.sum
  | [], _ => rfl
  | x :: T, b => by rw [List.sum_cons]; simp [momL, mom_one T]
/-- .. of a die put on a table -/
def psum (g : Int → Int) (d : List Int) : Int := (d.map g).sum
theorem mom_inner (g : Int → Int) (i : Nat) (v : Int) : ∀ (d s : List Int), (v = 0 ∨ InT i d) → s.length = 121 → mom g (inner i v d s) = mom g s + psum (fun f => g (i + f)) d * v
  | [], s, _, _ => by simp [inner, psum]
  | f :: d, s, hd, hl => by
    have e : inner i v (f :: d) s = inner i v d (addAt s (i + f.toNat) v) := rfl
    have ep : psum (fun f => g (i + f)) (f :: d) = g (i + f) + psum (fun f => g (i + f)) d := by simp [psum]
    rw [e, ep]
    rcases hd with h0 | hd
    · subst h0
      rw [addAt_zero, mom_inner g i 0 d s (.inl rfl) hl]; simp
    · obtain ⟨f0, f1⟩ := hd f (by simp)
      rw [mom_inner g i v d _ (.inr (fun q hq => hd q (by simp [hq]))) (by rw [addAt_len]; exact hl), mom_addAt g v (by omega)]
      have e2 : ((i + f.toNat : Nat) : Int) = i + f := by omega
      rw [e2]; grind
theorem mom_convL (g : Int → Int) {T d : List Int} : ∀ (l : List Nat) (s : List Int), (∀ i ∈ l, T.getD i 0 = 0 ∨ InT i d) → s.length = 121 → mom g (convL T d l s) = mom g s + (l.map (fun (i : Nat) => psum (fun f => g ((i : Int) + f)) d * T.getD i 0)).sum
  | [], s, _, hl => by simp [convL]
  | i :: l, s, hi, hl => by
    have e : convL T d (i :: l) s = convL T d l (inner i (T.getD i 0) d s) := rfl
    have hlen : (inner i (T.getD i 0) d s).length = 121 := by
      unfold inner
      have : ∀ (d s : List Int), (d.foldl (fun s f => addAt s (i + f.toNat) (T.getD i 0)) s).length = s.length := by
        intro d
        induction d with
        | nil => intro s; rfl
        | cons f d ih => intro s; rw [List.foldl_cons, ih, addAt_len]
      rw [this]; exact hl
    rw [e, mom_convL g l _ (fun j hj => hi j (by simp [hj])) hlen, mom_inner g i _ d s (hi i (by simp)) hl, List.map_cons, List.sum_cons]
    omega
theorem range_mom (g : Int → Int) (T : List Int) : ∀ (n b : Nat), n + b = T.length → ((List.range' b n).map (fun (i : Nat) => g i * T.getD i 0)).sum = momL g b (T.drop b)
  | 0, b, h => by
    have e : T.drop b = [] := List.drop_eq_nil_of_le (by omega)
    rw [e]; rfl
  | n + 1, b, h => by
    have := range_mom g T n (b + 1) (by omega)
    rw [List.range'_succ, List.map_cons, List.sum_cons, this, List.drop_eq_getElem_cons (l := T) (i := b) (by omega)]
    simp only [momL]
    rw [List.getD_eq_getElem?_getD, List.getElem?_eq_getElem (show b < T.length by omega)]
    rfl
theorem mom_range (g : Int → Int) {T : List Int} (h : T.length = 121) : ((List.range 121).map (fun (i : Nat) => g i * T.getD i 0)).sum = mom g T := by
  have := range_mom g T 121 0 (by omega)
  rw [List.drop_zero] at this
  rw [List.range_eq_range']
  exact this
theorem mom_conv (g : Int → Int) {T d : List Int} (hT : T.length = 121) (hin : ∀ i, T.getD i 0 = 0 ∨ InT i d) : mom g (conv T d) = mom (fun i => psum (fun f => g (i + f)) d) T := by
  unfold conv
  rw [mom_convL g _ _ (fun i _ => hin i) (by simp), ← mom_range _ hT]
  unfold mom
  rw [momL_rep]; omega
theorem momL_add (g k : Int → Int) : ∀ (T : List Int) (b : Int), momL (fun i => g i + k i) b T = momL g b T + momL k b T
  | [], _ => rfl
  | x :: T, b => by simp only [momL, momL_add g k T]; grind
theorem momL_mul (g : Int → Int) (c : Int) : ∀ (T : List Int) (b : Int), momL (fun i => c * g i) b T = c * momL g b T
  | [], _ => by simp [momL]
  | x :: T, b => by simp only [momL, momL_mul g c T]; grind
theorem psum1 (i : Int) : ∀ (d : List Int), psum (fun f => i + f) d = (d.length : Int) * i + d.sum
  | [] => by simp [psum]
  | f :: d => by
    have := psum1 i d
    have e : psum (fun f => i + f) (f :: d) = (i + f) + psum (fun f => i + f) d := by simp [psum]
    rw [e, this, List.length_cons, List.sum_cons]; grind
def sq (d : List Int) : Int := (d.map (fun f => f * f)).sum
theorem psum2 (i : Int) : ∀ (d : List Int), psum (fun f => (i + f) * (i + f)) d = (d.length : Int) * (i * i) + 2 * i * d.sum + sq d
  | [] => by simp [psum, sq]
  | f :: d => by
    have := psum2 i d
    have e : psum (fun f => (i + f) * (i + f)) (f :: d) = (i + f) * (i + f) + psum (fun f => (i + f) * (i + f)) d := by simp [psum]
    have e2 : sq (f :: d) = f * f + sq d := by simp [sq]
    rw [e, e2, this, List.length_cons, List.sum_cons]; grind
def m1 (T : List Int) : Int := mom (fun i => i) T
def m2 (T : List Int) : Int := mom (fun i => i * i) T
theorem m1_conv {T d : List Int} (hT : T.length = 121) (hin : ∀ i, T.getD i 0 = 0 ∨ InT i d) (h6 : d.length = 6) : m1 (conv T d) = 6 * m1 T + d.sum * T.sum := by
  unfold m1
  rw [mom_conv _ hT hin]
  have e : (fun i => psum (fun f => i + f) d) = fun i => 6 * i + d.sum * 1 := by
    funext i
    rw [psum1, h6]; grind
  rw [e]
  unfold mom
  rw [momL_add, momL_mul (fun i => i) 6, momL_mul (fun _ => 1) d.sum, mom_one]
theorem m2_conv {T d : List Int} (hT : T.length = 121) (hin : ∀ i, T.getD i 0 = 0 ∨ InT i d) (h6 : d.length = 6) : m2 (conv T d) = 6 * m2 T + 2 * d.sum * m1 T + sq d * T.sum := by
  unfold m2 m1
  rw [mom_conv _ hT hin]
  have e : (fun i => psum (fun f => (i + f) * (i + f)) d) = fun i => (6 * (i * i) + (2 * d.sum) * i) + sq d * 1 := by
    funext i
    rw [psum2, h6]; grind
  rw [e]
  unfold mom
  rw [momL_add, momL_add, momL_mul (fun i => i * i) 6, momL_mul (fun i => i) (2 * d.sum), momL_mul (fun _ => 1) (sq d), mom_one]
/-! ### bounds -/
theorem addAt_ge {s : List Int} {j : Nat} {v : Int} (hv : 0 ≤ v) (hj : j < s.length) (q : Nat) : s.getD q 0 ≤ (addAt s j v).getD q 0 := by
  rw [addAt_getD s j v q hj]; split <;> omega
theorem inner_ge (i : Nat) (v : Int) (hv : 0 ≤ v) : ∀ (d s : List Int), (v = 0 ∨ InT i d) → s.length = 121 → (∀ q, s.getD q 0 ≤ (inner i v d s).getD q 0) ∧ (v = 0 ∨ ∀ f ∈ d, s.getD (i + f.toNat) 0 + v ≤ (inner i v d s).getD (i + f.toNat) 0)
  | [], s, _, _ => ⟨fun q => Int.le_refl _, .inr (fun f hf => by cases hf)⟩
  | f :: d, s, hd, hl => by
    have e : inner i v (f :: d) s = inner i v d (addAt s (i + f.toNat) v) := rfl
    rcases hd with h0 | hd
    · subst h0
      rw [inner_zero]; exact ⟨fun q => Int.le_refl _, .inl rfl⟩
    · obtain ⟨f0, f1⟩ := hd f (by simp)
      obtain ⟨a1, a2⟩ := inner_ge i v hv d (addAt s (i + f.toNat) v) (.inr (fun q hq => hd q (by simp [hq]))) (by rw [addAt_len]; exact hl)
      rw [e]
      have hg := addAt_ge (s := s) (j := i + f.toNat) hv (by omega)
      refine ⟨fun q => Int.le_trans (hg q) (a1 q), ?_⟩
      rcases a2 with h0 | a2
      · exact .inl h0
      · refine .inr (fun q hq => ?_)
        rcases List.mem_cons.1 hq with rfl | hq
        · have := a1 (i + q.toNat)
          rw [addAt_getD s _ v _ (by omega), if_pos rfl] at this
          exact this
        · have := a2 q hq
          have := hg (i + q.toNat)
          omega
theorem inner_len (i : Nat) (v : Int) : ∀ (d s : List Int), (inner i v d s).length = s.length
  | [], s => rfl
  | f :: d, s => by
    have e : inner i v (f :: d) s = inner i v d (addAt s (i + f.toNat) v) := rfl
    rw [e, inner_len i v d, addAt_len]
theorem convL_ge {T d : List Int} (hT : NN T) : ∀ (l : List Nat) (s : List Int), (∀ i ∈ l, T.getD i 0 = 0 ∨ InT i d) → s.length = 121 → NN s → (∀ q, s.getD q 0 ≤ (convL T d l s).getD q 0) ∧ ∀ i ∈ l, ∀ f ∈ d, T.getD i 0 ≤ (convL T d l s).getD (i + f.toNat) 0
  | [], s, _, _, _ => ⟨fun q => Int.le_refl _, fun i hi => by cases hi⟩
  | i :: l, s, hi, hl, hn => by
    have e : convL T d (i :: l) s = convL T d l (inner i (T.getD i 0) d s) := rfl
    obtain ⟨c1, c2⟩ := inner_ge i (T.getD i 0) (hT i) d s (hi i (by simp)) hl
    have hn' : NN (inner i (T.getD i 0) d s) := fun q => Int.le_trans (hn q) (c1 q)
    obtain ⟨b1, b2⟩ := convL_ge hT l (inner i (T.getD i 0) d s) (fun j hj => hi j (by simp [hj])) (by rw [inner_len]; exact hl) hn'
    rw [e]
    refine ⟨fun q => Int.le_trans (c1 q) (b1 q), fun j hj f hf => ?_⟩
    rcases List.mem_cons.1 hj with rfl | hj
    · have h1 := b1 (j + f.toNat)
      rcases c2 with h0 | c2
      · have := hn' (j + f.toNat); omega
      · have := c2 f hf
        have := hn (j + f.toNat)
        omega
    · exact b2 j hj f hf
theorem conv_ge {T d : List Int} (hT : NN T) (hin : ∀ i, T.getD i 0 = 0 ∨ InT i d) {i : Nat} (hi : i < 121) {f : Int} (hf : f ∈ d) : T.getD i 0 ≤ (conv T d).getD (i + f.toNat) 0 :=
  (convL_ge hT (List.range 121) _ (fun i _ => hin i) (by simp) nn_rep).2 i (by simpa using hi) f hf
/-- entries outside that stay 0 -/
theorem inner_out (i : Nat) (v : Int) (Z : Nat → Prop) : ∀ (d s : List Int), s.length = 121 → (∀ f ∈ d, i + f.toNat < 121 ∧ ¬ Z (i + f.toNat)) → (∀ j, Z j → s.getD j 0 = 0) → ∀ j, Z j → (inner i v d s).getD j 0 = 0
  | [], s, _, _, h, j, hj => h j hj
  | f :: d, s, hl, hd, h, j, hj => by
    have e : inner i v (f :: d) s = inner i v d (addAt s (i + f.toNat) v) := rfl
    rw [e]
    obtain ⟨f1, f2⟩ := hd f (by simp)
    refine inner_out i v Z d _ (by rw [addAt_len]; exact hl) (fun g hg => hd g (by simp [hg])) (fun q hq => ?_) j hj
    rw [addAt_getD _ _ _ _ (by omega), if_neg (fun e => f2 (by rw [← e]; exact hq)), h q hq]; rfl
theorem convL_out {T d : List Int} (Z : Nat → Prop) (hz : ∀ i, T.getD i 0 ≠ 0 → ∀ f ∈ d, ¬ Z (i + f.toNat)) : ∀ (l : List Nat) (s : List Int), s.length = 121 → (∀ i ∈ l, T.getD i 0 = 0 ∨ InT i d) → (∀ j, Z j → s.getD j 0 = 0) → ∀ j, Z j → (convL T d l s).getD j 0 = 0
  | [], s, _, _, h, j, hj => h j hj
  | i :: l, s, hl, hin, h, j, hj => by
    have e : convL T d (i :: l) s = convL T d l (inner i (T.getD i 0) d s) := rfl
    rw [e]
    refine convL_out Z hz l _ (by rw [inner_len]; exact hl) (fun q hq => hin q (by simp [hq])) ?_ j hj
    by_cases h0 : T.getD i 0 = 0
    · rw [h0, inner_zero]; exact h
    · rcases hin i (by simp) with h1 | h1
      · exact absurd h1 h0
      · exact inner_out i _ Z d s hl (fun f hf => ⟨(h1 f hf).2, hz i h0 f hf⟩) h
theorem rep121 (j : Nat) : (List.replicate 121 (0 : Int)).getD j 0 = 0 := by
  rw [List.getD_eq_getElem?_getD]
  by_cases hlt : j < 121
  · rw [List.getElem?_replicate_of_lt hlt]; rfl
  · rw [List.getElem?_eq_none (by simp; omega)]; rfl
theorem conv_out {T d : List Int} (hin : ∀ i, T.getD i 0 = 0 ∨ InT i d) (Z : Nat → Prop) (hz : ∀ i, T.getD i 0 ≠ 0 → ∀ f ∈ d, ¬ Z (i + f.toNat)) {j : Nat} (hj : Z j) : (conv T d).getD j 0 = 0 :=
  convL_out Z hz _ _ (by simp) (fun i _ => hin i) (fun q _ => rep121 q) j hj
end Go.GA
end
section
namespace Go.GA
open Go
set_option maxRecDepth 10000
/-- a die of six faces in order -/
def Die6 (d : List Int) : Prop := ∃ a b c e f g, d = [a, b, c, e, f, g] ∧ 0 ≤ a ∧ a ≤ b ∧ b ≤ c ∧ c ≤ e ∧ e ≤ f ∧ f ≤ g ∧ g ≤ 30
theorem Die6.len {d : List Int} (h : Die6 d) : d.length = 6 := by obtain ⟨a, b, c, e, f, g, rfl, _⟩ := h; rfl
theorem Die6.face {d : List Int} (h : Die6 d) : ∀ f ∈ d, 0 ≤ f ∧ f ≤ 30 ∧ d.getD 0 0 ≤ f ∧ f ≤ d.getD 5 0 := by
  obtain ⟨a, b, c, e, f, g, rfl, _⟩ := h
  intro q hq
  simp only [List.mem_cons, List.not_mem_nil, or_false] at hq
  show 0 ≤ q ∧ q ≤ 30 ∧ a ≤ q ∧ q ≤ g
  omega
theorem Die6.ends {d : List Int} (h : Die6 d) : d.getD 0 0 ∈ d ∧ d.getD 5 0 ∈ d := by
  obtain ⟨a, b, c, e, f, g, rfl, _⟩ := h
  exact ⟨by simp, by simp⟩
theorem sqn (a b : Int) : 0 ≤ (a - b) * (a - b) := by
  rcases Int.le_total 0 (a - b) with h | h
  · exact Int.mul_nonneg h h
  · have := Int.mul_nonneg (a := -(a - b)) (b := -(a - b)) (by omega) (by omega)
    grind
theorem spread_nn {d : List Int} (h : Die6 d) : 0 ≤ 6 * sq d - d.sum * d.sum := by
  obtain ⟨a, b, c, e, f, g, rfl, _⟩ := h
  have e1 : sq [a, b, c, e, f, g] = a * a + b * b + c * c + e * e + f * f + g * g := by simp [sq]; omega
  have e2 : [a, b, c, e, f, g].sum = a + b + c + e + f + g := by simp; omega
  have key : 6 * sq [a, b, c, e, f, g] - [a, b, c, e, f, g].sum * [a, b, c, e, f, g].sum = (a-b)*(a-b)+(a-c)*(a-c)+(a-e)*(a-e)+(a-f)*(a-f)+(a-g)*(a-g)+(b-c)*(b-c)+(b-e)*(b-e)+(b-f)*(b-f)+(b-g)*(b-g)+(c-e)*(c-e)+(c-f)*(c-f)+(c-g)*(c-g)+(e-f)*(e-f)+(e-g)*(e-g)+(f-g)*(f-g) := by rw [e1, e2]; grind
  rw [key]
  have := sqn a b
  have := sqn a c
  have := sqn a e
  have := sqn a f
  have := sqn a g
  have := sqn b c
  have := sqn b e
  have := sqn b f
  have := sqn b g
  have := sqn c e
  have := sqn c f
  have := sqn c g
  have := sqn e f
  have := sqn e g
  have := sqn f g
  omega
theorem Die6.sum {d : List Int} (h : Die6 d) : 0 ≤ d.sum ∧ d.sum ≤ 180 ∧ 0 ≤ sq d ∧ sq d ≤ 5400 := by
  obtain ⟨a, b, c, e, f, g, rfl, h⟩ := h
  have e1 : sq [a, b, c, e, f, g] = a * a + b * b + c * c + e * e + f * f + g * g := by simp [sq]; omega
  have e2 : [a, b, c, e, f, g].sum = a + b + c + e + f + g := by simp; omega
  rw [e1, e2]
  have k : ∀ z : Int, 0 ≤ z → z ≤ 30 → 0 ≤ z * z ∧ z * z ≤ 900 := fun z h0 h1 => ⟨Int.mul_nonneg h0 h0, by have := Int.mul_le_mul h1 h1 h0 (by omega); omega⟩
  have := k a (by omega) (by omega)
  have := k b (by omega) (by omega)
  have := k c (by omega) (by omega)
  have := k e (by omega) (by omega)
  have := k f (by omega) (by omega)
  have := k g (by omega) (by omega)
  omega
/-- what is known of the table T of dice with the sum A, the spread V and the bounds lo, hi -/
structure TM (T : List Int) (A V lo hi : Int) : Prop where
  a : 6 * m1 T = T.sum * A
  v : 36 * (m2 T * T.sum - m1 T * m1 T) = T.sum * T.sum * V
  l0 : 0 ≤ lo
  lh : lo ≤ hi
  lo1 : 1 ≤ T.getD lo.toNat 0
  hi1 : 1 ≤ T.getD hi.toNat 0
  out : ∀ s : Nat, T.getD s 0 ≠ 0 → lo ≤ s ∧ (s : Int) ≤ hi
  an : 0 ≤ A
  vn : 0 ≤ V
theorem sum_conv {m : Nat} {T d : List Int} (h : Tab m T) (hm : m ≤ 3) (h6 : d.length = 6) (hd : ∀ f ∈ d, 0 ≤ f ∧ f ≤ 30) : (conv T d).sum = 6 * T.sum := by
  rw [(tab_conv h hm h6 hd).1.sum, h.sum, Nat.pow_succ]; omega
theorem tm_conv {m : Nat} {T d : List Int} {A V lo hi : Int} (h : Tab m T) (hm : m ≤ 3) (hd : Die6 d) (t : TM T A V lo hi) : TM (conv T d) (A + d.sum) (V + (6 * sq d - d.sum * d.sum)) (lo + d.getD 0 0) (hi + d.getD 5 0) := by
  have hf : ∀ f ∈ d, 0 ≤ f ∧ f ≤ 30 := fun f q => ⟨(hd.face f q).1, (hd.face f q).2.1⟩
  have hin := (tab_conv h hm hd.len hf).2
  have s0 := sum_conv h hm hd.len hf
  have s1 := m1_conv h.len hin hd.len
  have s2 := m2_conv h.len hin hd.len
  have e0 := hd.face _ hd.ends.1
  have e5 := hd.face _ hd.ends.2
  have hlo : lo.toNat < 121 := by
    have := t.out lo.toNat (by have := t.lo1; omega)
    by_cases hc : 30 * m < lo.toNat
    · have := h.supp _ hc; have := t.lo1; omega
    · omega
  have hhi : hi.toNat < 121 := by
    by_cases hc : 30 * m < hi.toNat
    · have := h.supp _ hc; have := t.hi1; omega
    · omega
  have g0 := conv_ge h.nn hin hlo hd.ends.1
  have g5 := conv_ge h.nn hin hhi hd.ends.2
  have l0 := t.l0
  have lh := t.lh
  have q1 := t.lo1
  have q2 := t.hi1
  refine ⟨?_, ?_, by omega, by omega, ?_, ?_, fun s hs => ?_, ?_, ?_⟩
  · have := t.a
    rw [s0, s1]; grind
  · have := t.v
    rw [s0, s1, s2]; grind
  · rw [show (lo + d.getD 0 0).toNat = lo.toNat + (d.getD 0 0).toNat by omega]; omega
  · rw [show (hi + d.getD 5 0).toNat = hi.toNat + (d.getD 5 0).toNat by omega]; omega
  · apply Classical.byContradiction
    intro hc
    refine hs (conv_out hin (fun s => ¬ (lo + d.getD 0 0 ≤ s ∧ (s : Int) ≤ hi + d.getD 5 0)) (fun i hi0 f hf => ?_) hc)
    have := t.out i hi0
    have := hd.face f hf
    intro hz
    apply hz
    omega
  · have := hd.sum; have := t.an; omega
  · have := spread_nn hd; have := t.vn; omega
theorem tm_one : TM ((List.replicate 121 (0 : Int)).set 0 1) 0 0 0 0 := by
  have hs : ((List.replicate 121 (0 : Int)).set 0 1).sum = 1 := by decide
  have h1 : m1 ((List.replicate 121 (0 : Int)).set 0 1) = 0 := by decide
  have h2 : m2 ((List.replicate 121 (0 : Int)).set 0 1) = 0 := by decide
  have h3 : ((List.replicate 121 (0 : Int)).set 0 1).getD (0 : Int).toNat 0 = 1 := by decide
  refine ⟨by rw [h1, hs]; rfl, by rw [h1, h2, hs]; rfl, by omega, by omega, by rw [h3]; omega, by rw [h3]; omega, fun s hs => ?_, by omega, by omega⟩
  by_cases h : s = 0
  · omega
  · rw [List.getD_eq_getElem?_getD, List.getElem?_set_ne (by omega), ← List.getD_eq_getElem?_getD, rep121] at hs
    exact absurd rfl hs
def fA (a : Int) (d : List Int) : Int := a + d.sum
def fV (v : Int) (d : List Int) : Int := v + (6 * sq d - d.sum * d.sum)
def fLo (l : Int) (d : List Int) : Int := l + d.getD 0 0
def fHi (l : Int) (d : List Int) : Int := l + d.getD 5 0
theorem tm_fold : ∀ (x : List (List Int)) (m : Nat) (T : List Int) (A V lo hi : Int), Tab m T → m + x.length ≤ 4 → (∀ d ∈ x, Die6 d) → TM T A V lo hi → TM (x.foldl conv T) (x.foldl fA A) (x.foldl fV V) (x.foldl fLo lo) (x.foldl fHi hi)
  | [], m, T, A, V, lo, hi, _, _, _, t => t
  | d :: x, m, T, A, V, lo, hi, h, hm, hx, t => by
    have hd := hx d (by simp)
    simp only [List.length_cons] at hm
    have hf : ∀ f ∈ d, 0 ≤ f ∧ f ≤ 30 := fun f q => ⟨(hd.face f q).1, (hd.face f q).2.1⟩
    exact tm_fold x (m + 1) _ _ _ _ _ (tab_conv h (by omega) hd.len hf).1 (by omega) (fun q hq => hx q (by simp [hq])) (tm_conv h (by omega) hd t)
theorem tm_pool {x : List (List Int)} (hl : x.length ≤ 4) (hx : ∀ d ∈ x, Die6 d) : TM (x.foldl conv ((List.replicate 121 (0 : Int)).set 0 1)) (x.foldl fA 0) (x.foldl fV 0) (x.foldl fLo 0) (x.foldl fHi 0) :=
  tm_fold x 0 _ 0 0 0 0 tab_one (by omega) hx tm_one
/-! ### tails -/
def tailS (T : List Int) (n : Nat) : Int := (T.drop n).sum
theorem tailS_step {T : List Int} {n : Nat} (h : n < T.length) : tailS T n = T.getD n 0 + tailS T (n + 1) := by
  unfold tailS
  rw [List.drop_eq_getElem_cons h, List.sum_cons, List.getD_eq_getElem?_getD, List.getElem?_eq_getElem h]
  rfl
theorem tailS_end {T : List Int} {n : Nat} (h : T.length ≤ n) : tailS T n = 0 := by
  unfold tailS
  rw [List.drop_eq_nil_of_le h]
  rfl
theorem tailS_nn {T : List Int} (h : NN T) (n : Nat) : 0 ≤ tailS T n := by
  unfold tailS
  refine sum_nn (fun j => ?_)
  have := h (n + j)
  rw [List.getD_eq_getElem?_getD, List.getElem?_drop, ← List.getD_eq_getElem?_getD]
  exact this
theorem tailS_le {T : List Int} (h : NN T) : ∀ n, tailS T n ≤ T.sum
  | 0 => by unfold tailS; simp
  | n + 1 => by
    have := tailS_le h n
    by_cases hc : n < T.length
    · rw [tailS_step hc] at this
      have := h n
      omega
    · rw [tailS_end (by omega)]
      exact sum_nn h
end Go.GA
end
