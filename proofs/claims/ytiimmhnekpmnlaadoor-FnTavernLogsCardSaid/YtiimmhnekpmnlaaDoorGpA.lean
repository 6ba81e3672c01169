/- Plain laws of the loops that the printed functions are told by. -/
import Derived.Test.YtiimmhnekpmnlaaDoorGaC
import Derived.Test.YtiimmhnekpmnlaaDoorGaD
import Derived.Lib.ItoaLen
import Derived.Lib.ItoaMem
section
namespace Go.GA
/-- a loop over a list -/
def lrun {α S R : Type} (F : α → S → (S → R) → R) (k : S → R) : List α → S → R
  | [], s => k s
  | x :: xs, s => F x s (fun s' => lrun F k xs s')
theorem cnt_list_aux {α S R : Type} {f : Int → S → (S → R) → (Int → S → R) → R} {k : Int → S → R} (F : α → S → (S → R) → R) (xs : List α) (dflt : α) (hf : ∀ i s c, 0 ≤ i → i < (xs.length : Int) → f i s c k = F (xs.getD i.toNat dflt) s c) :
    ∀ (d : Nat) (i : Nat) (s : S), d + i = xs.length → cnt f k d (i : Int) s = lrun F (k xs.length) (xs.drop i) s
  | 0, i, s, h => by
    have : xs.drop i = [] := List.drop_eq_nil_of_le (by omega)
    rw [this]
    obtain rfl : i = xs.length := by omega
    rfl
  | d + 1, i, s, h => by
    have hi : i < xs.length := by omega
    rw [List.drop_eq_getElem_cons hi]
    show f (i : Int) s _ k = F xs[i] s _
    rw [hf (i : Int) s _ (by omega) (by omega)]
    have e : xs.getD (i : Int).toNat dflt = xs[i] := by simp [hi]
    rw [e]
    congr 1
    funext s'
    have := cnt_list_aux F xs dflt hf d (i + 1) s' (by omega)
    simpa using this
theorem cnt_list {α S R : Type} {f : Int → S → (S → R) → (Int → S → R) → R} {k : Int → S → R} (F : α → S → (S → R) → R) (xs : List α) (dflt : α) {d : Nat} {s : S} (hd : d = xs.length) (hf : ∀ i s c, 0 ≤ i → i < (xs.length : Int) → f i s c k = F (xs.getD i.toNat dflt) s c) :
    cnt f k d 0 s = lrun F (k xs.length) xs s := by
  have := cnt_list_aux F xs dflt hf d 0 s (by omega)
  simpa using this
/-- a loop that is left at the first element that is bad -/
theorem lrun_any {α S R : Type} (b : α → Bool) (r : R) (k : S → R) : ∀ (xs : List α) (s : S), lrun (fun x s c => if b x = true then r else c s) k xs s = if xs.any b = true then r else k s
  | [], s => by simp [lrun]
  | x :: xs, s => by
    show (if b x = true then r else lrun _ k xs s) = _
    rw [lrun_any b r k xs s]
    cases h : b x <;> simp [h]
theorem cnt_congr {S R : Type} {f g : Int → S → (S → R) → (Int → S → R) → R} {k : Int → S → R} (h : ∀ i s c, f i s c k = g i s c k) : ∀ (d : Nat) (i : Int) (s : S), cnt f k d i s = cnt g k d i s
  | 0, i, s => rfl
  | d + 1, i, s => by
    show f i s _ k = g i s _ k
    rw [h]; congr 1; funext s'; exact cnt_congr h d (i + 1) s'
end Go.GA
namespace Go.GA
theorem cnt_find {α : Type} (b : α → Bool) (dflt : α) (xs : List α) : ∀ (d i : Nat), d + i = xs.length →
    decide (0 ≤ cnt (fun i (s : Unit) c _ => if b (xs.getD i.toNat dflt) = true then i else c ()) (fun _ _ => (-1 : Int)) d (i : Int) ()) = (xs.drop i).any b
  | 0, i, h => by rw [List.drop_eq_nil_of_le (by omega)]; rfl
  | d + 1, i, h => by
    have h1 : i < xs.length := by omega
    have := cnt_find b dflt xs d (i + 1) (by omega)
    simp only [cnt]
    rw [List.drop_eq_getElem_cons h1, List.any_cons, ← this]
    simp only [Int.toNat_natCast, List.getD_eq_getElem?_getD, List.getElem?_eq_getElem h1, Option.getD_some]
    by_cases he : b xs[i] = true
    · simp only [he, if_true, Bool.true_or, decide_eq_true_eq]; omega
    · simp only [he]; simp
end Go.GA
end
section
namespace Go.GA
end Go.GA
end
section
namespace Go.GA
/-- what holds at each round of a loop -/
theorem cnt_ind {S R : Type} {f : Int → S → (S → R) → (Int → S → R) → R} {k : Int → S → R} (n : Nat) (I : Nat → S → Prop) (Q : R → Prop) (hk : ∀ s, I n s → Q (k (n : Int) s)) (hf : ∀ (i : Nat) s c, i < n → I i s → (∀ s', I (i + 1) s' → Q (c s')) → Q (f (i : Int) s c k)) :
    ∀ (d i : Nat) (s : S), d + i = n → I i s → Q (cnt f k d (i : Int) s)
  | 0, i, s, h, hi => by
    obtain rfl : i = n := by omega
    exact hk s hi
  | d + 1, i, s, h, hi => by
    refine hf i s _ (by omega) hi (fun s' hs' => ?_)
    have := cnt_ind n I Q hk hf d (i + 1) s' (by omega) hs'
    simpa using this
theorem cnt_ind0 {S R : Type} {f : Int → S → (S → R) → (Int → S → R) → R} {k : Int → S → R} {d : Nat} {s : S} (n : Nat) (I : Nat → S → Prop) (Q : R → Prop) (hd : d = n) (h0 : I 0 s) (hk : ∀ s, I n s → Q (k (n : Int) s)) (hf : ∀ (i : Nat) s c, i < n → I i s → (∀ s', I (i + 1) s' → Q (c s')) → Q (f (i : Int) s c k)) : Q (cnt f k d 0 s) := by
  have := cnt_ind n I Q hk hf d 0 s (by omega) h0
  simpa using this
end Go.GA
end
section
namespace Go.GA
open Go
theorem loop_eq (s : ByteArray) : ∀ (d i : Nat) (r : List UInt8), d + i = s.size → ByteArray.toList.loop s i r = r.reverse ++ s.data.toList.drop i
  | 0, i, r, h => by
    unfold ByteArray.toList.loop
    rw [if_neg (by omega), List.drop_eq_nil_of_le (by rw [Array.length_toList]; exact Nat.le_of_eq (by omega : s.size = i)), List.append_nil]
  | d + 1, i, r, h => by
    unfold ByteArray.toList.loop
    have hi : i < s.size := by omega
    have hi' : i < s.data.toList.length := by rw [Array.length_toList]; exact hi
    rw [if_pos hi, loop_eq s d (i + 1) _ (by omega), List.drop_eq_getElem_cons hi']
    have e : s.get! i = s.data.toList[i] := by
      show s.data[i]! = _
      rw [getElem!_pos s.data i hi, Array.getElem_toList]
    rw [e]
    simp
theorem toList_data (s : ByteArray) : s.toList = s.data.toList := by
  unfold ByteArray.toList
  rw [loop_eq s s.size 0 [] (by omega)]
  simp
theorem eqS_data (a b : ByteArray) : eqS a b = (a.data.toList == b.data.toList) := by
  unfold eqS; rw [toList_data, toList_data]
theorem eqS_iff {a b : ByteArray} : eqS a b = true ↔ a = b := by
  rw [eqS_data, beq_iff_eq]
  constructor
  · intro h
    cases a; cases b
    simp only at h
    rw [Array.toList_inj.1 h]
  · intro h; rw [h]
theorem size_toList (s : ByteArray) : s.data.toList.length = s.size := by rw [Array.length_toList]; rfl
theorem index_ge (c : UInt8) : ∀ (l : List UInt8), -1 ≤ Lib.indexByte l c
  | [] => Int.le_refl _
  | b :: l => by
    have ih := index_ge c l
    show -1 ≤ (if b == c then (0 : Int) else if Lib.indexByte l c == -1 then -1 else Lib.indexByte l c + 1)
    split
    · omega
    · split <;> omega
theorem index_iff (c : UInt8) : ∀ (l : List UInt8), 0 ≤ Lib.indexByte l c ↔ l.any (· == c) = true
  | [] => by simp [Lib.indexByte]
  | b :: l => by
    have ih := index_iff c l
    have hge := index_ge c l
    show 0 ≤ (if b == c then (0 : Int) else if Lib.indexByte l c == -1 then -1 else Lib.indexByte l c + 1) ↔ _
    rw [List.any_cons]
    by_cases hb : (b == c) = true
    · rw [if_pos hb, hb]; simp
    · rw [if_neg hb, Bool.eq_false_iff.2 hb, Bool.false_or, ← ih]
      by_cases h : (Lib.indexByte l c == -1) = true
      · rw [if_pos h]
        have h2 := beq_iff_eq.1 h
        omega
      · rw [if_neg h]
        have h2 : Lib.indexByte l c ≠ -1 := fun e => h (beq_iff_eq.2 e)
        omega
theorem index_mem (c : UInt8) (l : List UInt8) : decide (0 ≤ Lib.indexByte l c) = l.any (· == c) := by
  by_cases h : 0 ≤ Lib.indexByte l c
  · rw [decide_eq_true h, (index_iff c l).1 h]
  · rw [decide_eq_false h]
    cases e : l.any (· == c) with
    | false => rfl
    | true => exact absurd ((index_iff c l).2 e) h
end Go.GA
end
section
namespace Go.GA
open Go
theorem nDigits_lt {u k : Nat} : 1 ≤ k → u < 10 ^ k → Lib.nDigits u ≤ k := by
  induction k generalizing u with
  | zero => omega
  | succ k ih =>
    intro _ h
    by_cases hs : u < 10
    · rw [Lib.nDigits_small hs]; omega
    · rw [Lib.nDigits_big hs]
      have : 1 ≤ k := by
        rcases Nat.eq_zero_or_pos k with rfl | h0
        · simp at h; omega
        · exact h0
      have := ih (u := u / 10) this (by rw [Nat.pow_succ] at h; omega)
      omega
/-- the digits of a number -/
def numB (n : Nat) : ByteArray := ⟨(Lib.decDigits n).toArray⟩
theorem numB_list (n : Nat) : (numB n).data.toList = Lib.decDigits n := by simp [numB]
theorem numB_size (n : Nat) : (numB n).size = Lib.nDigits n := by rw [← size_toList, numB_list, Lib.decDigits_length]
theorem itoa_num (n : Nat) (h : n ≤ 9223372036854775807) : p_strconv_Itoa (n : Int) = some (numB n) := by
  unfold p_strconv_Itoa
  rw [if_pos ⟨by omega, by omega⟩, Lib.itoa_nonneg]
  rfl
theorem dec_digit {b : UInt8} : ∀ {n : Nat}, b ∈ Lib.decDigits n → 48 ≤ b.toNat ∧ b.toNat ≤ 57 := by
  intro n
  induction n using Nat.strongRecOn with
  | _ n ih =>
    intro h
    rw [Lib.decDigits] at h
    have key : ∀ d : Nat, d < 10 → (UInt8.ofNat (48 + d)).toNat = 48 + d := by
      intro d hd
      rw [UInt8.toNat_ofNat']
      omega
    split at h
    · rename_i hs
      simp only [List.mem_singleton] at h
      subst h
      rw [key _ hs]; omega
    · rcases List.mem_append.1 h with h | h
      · exact ih _ (by omega) h
      · simp only [List.mem_singleton] at h
        subst h
        rw [key _ (by omega)]; omega
theorem ba_append_list (a b : ByteArray) : (a ++ b).data.toList = a.data.toList ++ b.data.toList := by simp
theorem ba_append_size (a b : ByteArray) : (a ++ b).size = a.size + b.size := by rw [← size_toList, ba_append_list, List.length_append, size_toList, size_toList]
theorem ba_ext {a b : ByteArray} (h : a.data.toList = b.data.toList) : a = b := by
  cases a; cases b; simp only [ByteArray.mk.injEq]; exact Array.toList_inj.1 h
theorem one_digit : ∀ i : _root_.Fin 10, (ByteArray.mk #[48, 49, 50, 51, 52, 53, 54, 55, 56, 57]).extract i.val (i.val + 1) = ⟨#[UInt8.ofNat (48 + i.val)]⟩ := by decide +kernel
theorem one_digit' (d : Nat) (h : d < 10) : (ByteArray.mk #[48, 49, 50, 51, 52, 53, 54, 55, 56, 57]).extract d (d + 1) = numB d := by
  rw [show (ByteArray.mk #[48, 49, 50, 51, 52, 53, 54, 55, 56, 57]).extract d (d + 1) = ⟨#[UInt8.ofNat (48 + d)]⟩ from one_digit ⟨d, h⟩]
  unfold numB
  rw [Lib.decDigits, dif_pos h]
theorem numB_step {n : Nat} (h : ¬ n < 10) : numB (n / 10) ++ numB (n % 10) = numB n := by
  apply ba_ext
  rw [ba_append_list, numB_list, numB_list, numB_list, Lib.decDigits.eq_def n, dif_neg h, Lib.decDigits.eq_def (n % 10), dif_pos (by omega)]
theorem tdiv10 (n : Nat) : (n : Int).tdiv 10 = ((n / 10 : Nat) : Int) := by rw [Int.tdiv_eq_ediv_of_nonneg (by omega)]; omega
theorem tmod10 (n : Nat) : (n : Int).tmod 10 = ((n % 10 : Nat) : Int) := by rw [Int.tmod_eq_emod_of_nonneg (by omega)]; omega
end Go.GA
end
section
namespace Go.GA
open Go
theorem ext_list (s : ByteArray) (a b : Nat) : (s.extract a b).data.toList = (s.data.toList.drop a).take (b - a) := by simp [List.extract_eq_take_drop]
theorem ext_size (s : ByteArray) (a b : Nat) (h1 : a ≤ b) (h2 : b ≤ s.size) : (s.extract a b).size = b - a := by
  rw [← size_toList, ext_list, List.length_take, List.length_drop, size_toList]; omega
theorem fi_app0 (b : UInt8) : ∀ (l c : List UInt8), (∀ x ∈ l, x ≠ b) → (l ++ b :: c).findIdx (· == b) = l.length
  | [], c, _ => by simp [List.findIdx_cons]
  | x :: l, c, h => by
    have h1 : (x == b) = false := by simpa using h x (by simp)
    rw [List.cons_append, List.findIdx_cons, h1, cond_false, fi_app0 b l c (fun y hy => h y (by simp [hy]))]
    rfl
theorem fi_split0 (b : UInt8) : ∀ (l : List UInt8), l.findIdx (· == b) < l.length → l = l.take (l.findIdx (· == b)) ++ b :: l.drop (l.findIdx (· == b) + 1) ∧ ∀ x ∈ l.take (l.findIdx (· == b)), x ≠ b
  | [], h => by simp at h
  | x :: l, h => by
    by_cases h1 : x == b
    · rw [List.findIdx_cons, h1]
      have : x = b := by simpa using h1
      subst this
      simp
    · have h1' : (x == b) = false := by simpa using h1
      rw [List.findIdx_cons, h1', cond_false] at h ⊢
      obtain ⟨e, hn⟩ := fi_split0 b l (by simpa using h)
      refine ⟨?_, fun y hy => ?_⟩
      · rw [List.take_succ_cons, List.drop_succ_cons, List.cons_append, ← e]
      · rw [List.take_succ_cons] at hy
        rcases List.mem_cons.1 hy with rfl | hy
        · simpa using h1
        · exact hn y hy
theorem fi_index0 (b : UInt8) : ∀ (l : List UInt8), Lib.indexByte l b = if l.findIdx (· == b) < l.length then ((l.findIdx (· == b) : Nat) : Int) else -1
  | [] => by simp [Lib.indexByte]
  | x :: l => by
    show (if (x == b) = true then (0 : Int) else if (Lib.indexByte l b == -1) = true then -1 else Lib.indexByte l b + 1) = _
    by_cases h1 : x == b
    · rw [List.findIdx_cons, h1]; simp
    · have h1' : (x == b) = false := by simpa using h1
      rw [List.findIdx_cons, h1', cond_false, if_neg (by simp), fi_index0 b l, List.length_cons]
      by_cases hlt : l.findIdx (· == b) < l.length
      · rw [if_pos hlt, if_neg (by simp), if_pos (by omega)]; omega
      · rw [if_neg hlt, if_pos (by simp), if_neg (by omega)]
/-- where b first stands -/
def fi (b : UInt8) (s : ByteArray) : Nat := s.data.toList.findIdx (· == b)
theorem fi_le (b : UInt8) (s : ByteArray) : fi b s ≤ s.size := by
  have := List.findIdx_le_length (p := (· == b)) (xs := s.data.toList)
  rw [size_toList] at this
  exact this
theorem cut_app {b : UInt8} {s A C : ByteArray} (e : s = A ++ ByteArray.mk #[b] ++ C) (h : ∀ y ∈ A.data.toList, y ≠ b) : fi b s = A.size ∧ A.size < s.size ∧ s.extract 0 A.size = A ∧ s.extract (A.size + 1) s.size = C := by
  have e1 : (ByteArray.mk #[b]).size = 1 := rfl
  have hsz : s.size = A.size + 1 + C.size := by rw [e, ba_append_size, ba_append_size, e1]
  have hl : s.data.toList = A.data.toList ++ b :: C.data.toList := by rw [e, ba_append_list, ba_append_list]; simp
  refine ⟨?_, by omega, ?_, ?_⟩
  · unfold fi; rw [hl, fi_app0 b _ _ h, size_toList]
  · apply ba_ext; rw [ext_list, hl, List.drop_zero, Nat.sub_zero, ← size_toList A, List.take_left]
  · apply ba_ext
    rw [ext_list, hl, hsz, List.drop_append, List.drop_eq_nil_of_le (by rw [size_toList]; omega), size_toList, List.nil_append, show A.size + 1 - A.size = 1 by omega, List.drop_succ_cons, List.drop_zero, List.take_of_length_le (by rw [size_toList]; omega)]
theorem cut_split {b : UInt8} {s : ByteArray} (h : fi b s < s.size) : s = s.extract 0 (fi b s) ++ ByteArray.mk #[b] ++ s.extract (fi b s + 1) s.size ∧ (∀ y ∈ (s.extract 0 (fi b s)).data.toList, y ≠ b) ∧ s.extract 0 (fi b s + 1) = s.extract 0 (fi b s) ++ ByteArray.mk #[b] := by
  have h' : s.data.toList.findIdx (· == b) < s.data.toList.length := by rw [size_toList]; exact h
  obtain ⟨e, hn⟩ := fi_split0 b _ h'
  refine ⟨?_, ?_, ?_⟩
  · apply ba_ext
    rw [ba_append_list, ba_append_list, ext_list, ext_list, List.drop_zero, Nat.sub_zero, List.take_of_length_le (l := s.data.toList.drop _) (by rw [List.length_drop, size_toList]; omega)]
    simpa [fi] using e
  · intro y hy
    rw [ext_list, List.drop_zero, Nat.sub_zero] at hy
    exact hn y hy
  · apply ba_ext
    rw [ba_append_list, ext_list, ext_list, List.drop_zero, Nat.sub_zero, Nat.sub_zero]
    have hlen : (s.data.toList.take (s.data.toList.findIdx (· == b))).length = s.data.toList.findIdx (· == b) := by rw [List.length_take]; omega
    have key : ∀ (A C : List UInt8) (k : Nat), A.length = k → (A ++ b :: C).take (k + 1) = A ++ [b] := by
      intro A C k hk
      subst hk
      rw [List.take_append, List.take_of_length_le (by omega), show A.length + 1 - A.length = 1 by omega]
      simp
    have := key _ (s.data.toList.drop (s.data.toList.findIdx (· == b) + 1)) _ hlen
    rw [← e] at this
    simpa [fi] using this
theorem app_left (A C : ByteArray) : (A ++ C).extract 0 A.size = A := by
  apply ba_ext; rw [ext_list, ba_append_list, List.drop_zero, Nat.sub_zero, ← size_toList A, List.take_left]
theorem app_right (A C : ByteArray) : (A ++ C).extract A.size (A ++ C).size = C := by
  apply ba_ext; rw [ext_list, ba_append_list, ba_append_size, List.drop_append, List.drop_eq_nil_of_le (by rw [size_toList]; omega), size_toList, Nat.sub_self, List.nil_append, List.drop_zero, List.take_of_length_le (by rw [size_toList]; omega)]
theorem ba_assoc (A B C : ByteArray) : A ++ B ++ C = A ++ (B ++ C) := by apply ba_ext; simp
theorem ext_all (s : ByteArray) : s.extract 0 s.size = s := by
  apply ba_ext; rw [ext_list, List.drop_zero, List.take_of_length_le (by rw [size_toList]; omega)]
theorem ext_ext (s : ByteArray) (a n : Nat) : (s.extract a s.size).extract n (s.extract a s.size).size = s.extract (a + n) s.size := by
  apply ba_ext
  rw [ext_list, ext_list, ext_list, ← size_toList (s.extract a s.size), ext_list]
  rw [List.take_of_length_le (l := s.data.toList.drop a) (by rw [List.length_drop, size_toList]; omega), List.drop_drop]
  rw [List.take_of_length_le (by simp; omega), List.take_of_length_le (by rw [List.length_drop, size_toList]; omega)]
/-- the index of a byte in a text -/
def idxG (b : UInt8) (x : ByteArray) : Int := if eqS (ByteArray.mk #[b]) x = true then 0 else Lib.indexByte x.data.toList b
theorem idxB_eq (b : UInt8) (x : ByteArray) : Lib.indexByte x.data.toList b = if fi b x < x.size then ((fi b x : Nat) : Int) else -1 := by
  rw [fi_index0, size_toList]; rfl
theorem idxG_eq (b : UInt8) (x : ByteArray) : idxG b x = if fi b x < x.size then ((fi b x : Nat) : Int) else -1 := by
  unfold idxG
  by_cases h : eqS (ByteArray.mk #[b]) x = true
  · rw [if_pos h]
    have e := eqS_iff.1 h
    subst e
    have : fi b (ByteArray.mk #[b]) = 0 := by simp [fi, List.findIdx_cons]
    rw [this, if_pos (show 0 < (ByteArray.mk #[b]).size from Nat.zero_lt_one)]
    rfl
  · rw [if_neg h, idxB_eq]
theorem anyI (x1 : Int) (xs : List Int) : decide (0 ≤ cnt (fun i2 (s1 : Unit) c3 _ => (if x1 = (xs.getD i2.toNat 0) then i2 else c3 ())) (fun i2 (s1 : Unit) => (-1 : Int)) (Int.toNat ((xs.length : Int) - 0)) 0 ()) = xs.any (fun y => decide (x1 = y)) := by
  have h := cnt_find (fun y => decide (x1 = y)) (0 : Int) xs xs.length 0 (by omega)
  rw [cnt_congr (g := fun i (s : Unit) c _ => if (fun y => decide (x1 = y)) (xs.getD i.toNat 0) = true then i else c ()) (fun i s c => by
    show (if x1 = xs.getD i.toNat 0 then i else c ()) = if decide (x1 = xs.getD i.toNat 0) = true then i else c ()
    by_cases hh : x1 = xs.getD i.toNat 0
    · rw [if_pos hh, if_pos (decide_eq_true hh)]
    · rw [if_neg hh, if_neg (by simpa using hh)])]
  simp only [Int.sub_zero, Int.toNat_natCast]
  simp only [Int.natCast_zero, List.drop_zero] at h
  exact h
end Go.GA
end
