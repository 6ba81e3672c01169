/- Plain laws of the loops that the printed functions are told by. -/
import Derived.Test.YtigjhapmgaejnaaDoorGaC
import Derived.Test.YtigjhapmgaejnaaDoorGaD
import Derived.Lib.ItoaLen
import Derived.Lib.ItoaMem
section
namespace Go.GA
/-- a loop over a list -/
def lrun {α S R : Type} (F : α → S → (S → R) → R) (k : S → R) : List α → S → R
  | [], s => k s
  | x :: xs, s => F x s (fun s' => lrun F k xs s')
theorem cnt_list_aux {α S R : Type} {f : Int → S → (S → R) → (Int → S → R) → R} {k : Int → S → R} (F : α → S → (S → R) → R) (xs : List α) (dflt : α) (hf : ∀ i s c, 0 ≤ i → i < (xs.length : Int) → f i s c k = F (xs.getD i.toNat dflt) s c) :
    ∀ (d : Nat) (i : Nat) (s : S), d + i = xs.length → cnt f k d (i : Int) s = lrun F (k xs.length) (xs.drop i) s
  | 0, i, s, h => by
    have : xs.drop i = [] := List.drop_eq_nil_of_le (by omega)
    rw [this]
    obtain rfl : i = xs.length := by omega
    rfl
  | d + 1, i, s, h => by
    have hi : i < xs.length := by omega
    rw [List.drop_eq_getElem_cons hi]
    show f (i : Int) s _ k = F xs[i] s _
    rw [hf (i : Int) s _ (by omega) (by omega)]
    have e : xs.getD (i : Int).toNat dflt = xs[i] := by simp [hi]
    rw [e]
    congr 1
    funext s'
    have := cnt_list_aux F xs dflt hf d (i + 1) s' (by omega)
    simpa using this
theorem cnt_list {α S R : Type} {f : Int → S → (S → R) → (Int → S → R) → R} {k : Int → S → R} (F : α → S → (S → R) → R) (xs : List α) (dflt : α) {d : Nat} {s : S} (hd : d = xs.length) (hf : ∀ i s c, 0 ≤ i → i < (xs.length : Int) → f i s c k = F (xs.getD i.toNat dflt) s c) :
    cnt f k d 0 s = lrun F (k xs.length) xs s := by
  have := cnt_list_aux F xs dflt hf d 0 s (by omega)
  simpa using this
/-- a loop that is left at the first element that is bad -/
theorem lrun_any {α S R : Type} (b : α → Bool) (r : R) (k : S → R) : ∀ (xs : List α) (s : S), lrun (fun x s c => if b x = true then r else c s) k xs s = if xs.any b = true then r else k s
  | [], s => by simp [lrun]
  | x :: xs, s => by
    show (if b x = true then r else lrun _ k xs s) = _
    rw [lrun_any b r k xs s]
    cases h : b x <;> simp [h]
end Go.GA
namespace Go.GA
end Go.GA
end
section
namespace Go.GA
end Go.GA
end
section
namespace Go.GA
end Go.GA
end
section
namespace Go.GA
open Go
theorem loop_eq (s : ByteArray) : ∀ (d i : Nat) (r : List UInt8), d + i = s.size → ByteArray.toList.loop s i r = r.reverse ++ s.data.toList.drop i
  | 0, i, r, h => by
    unfold ByteArray.toList.loop
    rw [if_neg (by omega), List.drop_eq_nil_of_le (by rw [Array.length_toList]; exact Nat.le_of_eq (by omega : s.size = i)), List.append_nil]
  | d + 1, i, r, h => by
    unfold ByteArray.toList.loop
    have hi : i < s.size := by omega
    have hi' : i < s.data.toList.length := by rw [Array.length_toList]; exact hi
    rw [if_pos hi, loop_eq s d (i + 1) _ (by omega), List.drop_eq_getElem_cons hi']
    have e : s.get! i = s.data.toList[i] := by
      show s.data[i]! = _
      rw [getElem!_pos s.data i hi, Array.getElem_toList]
    rw [e]
    simp
theorem toList_data (s : ByteArray) : s.toList = s.data.toList := by
  unfold ByteArray.toList
  rw [loop_eq s s.size 0 [] (by omega)]
  simp
theorem eqS_data (a b : ByteArray) : eqS a b = (a.data.toList == b.data.toList) := by
  unfold eqS; rw [toList_data, toList_data]
theorem eqS_iff {a b : ByteArray} : eqS a b = true ↔ a = b := by
  rw [eqS_data, beq_iff_eq]
  constructor
  · intro h
    cases a; cases b
    simp only at h
    rw [Array.toList_inj.1 h]
  · intro h; rw [h]
theorem size_toList (s : ByteArray) : s.data.toList.length = s.size := by rw [Array.length_toList]; rfl
theorem index_ge (c : UInt8) : ∀ (l : List UInt8), -1 ≤ Lib.indexByte l c
  | [] => Int.le_refl _
  | b :: l => by
    have ih := index_ge c l
    show -1 ≤ (if b == c then (0 : Int) else if Lib.indexByte l c == -1 then -1 else Lib.indexByte l c + 1)
    split
    · omega
    · split <;> omega
theorem index_iff (c : UInt8) : ∀ (l : List UInt8), 0 ≤ Lib.indexByte l c ↔ l.any (· == c) = true
  | [] => by simp [Lib.indexByte]
  | b :: l => by
    have ih := index_iff c l
    have hge := index_ge c l
    show 0 ≤ (if b == c then (0 : Int) else if Lib.indexByte l c == -1 then -1 else Lib.indexByte l c + 1) ↔ _
    rw [List.any_cons]
    by_cases hb : (b == c) = true
    · rw [if_pos hb, hb]; simp
    · rw [if_neg hb, Bool.eq_false_iff.2 hb, Bool.false_or, ← ih]
      by_cases h : (Lib.indexByte l c == -1) = true
      · rw [if_pos h]
        have h2 := beq_iff_eq.1 h
        omega
      · rw [if_neg h]
        have h2 : Lib.indexByte l c ≠ -1 := fun e => h (beq_iff_eq.2 e)
        omega
theorem index_mem (c : UInt8) (l : List UInt8) : decide (0 ≤ Lib.indexByte l c) = l.any (· == c) := by
  by_cases h : 0 ≤ Lib.indexByte l c
  · rw [decide_eq_true h, (index_iff c l).1 h]
  · rw [decide_eq_false h]
    cases e : l.any (· == c) with
    | false => rfl
    | true => exact absurd ((index_iff c l).2 e) h
end Go.GA
end
section
namespace Go.GA
open Go
theorem nDigits_lt {u k : Nat} : 1 ≤ k → u < 10 ^ k → Lib.nDigits u ≤ k := by
  induction k generalizing u with
  | zero => omega
  | succ k ih =>
    intro _ h
    by_cases hs : u < 10
    · rw [Lib.nDigits_small hs]; omega
    · rw [Lib.nDigits_big hs]
      have : 1 ≤ k := by
        rcases Nat.eq_zero_or_pos k with rfl | h0
        · simp at h; omega
        · exact h0
      have := ih (u := u / 10) this (by rw [Nat.pow_succ] at h; omega)
      omega
/-- the digits of a number -/
def numB (n : Nat) : ByteArray := ⟨(Lib.decDigits n).toArray⟩
theorem numB_list (n : Nat) : (numB n).data.toList = Lib.decDigits n := by simp [numB]
theorem numB_size (n : Nat) : (numB n).size = Lib.nDigits n := by rw [← size_toList, numB_list, Lib.decDigits_length]
theorem itoa_num (n : Nat) (h : n ≤ 9223372036854775807) : p_strconv_Itoa (n : Int) = some (numB n) := by
  unfold p_strconv_Itoa
  rw [if_pos ⟨by omega, by omega⟩, Lib.itoa_nonneg]
  rfl
theorem dec_digit {b : UInt8} : ∀ {n : Nat}, b ∈ Lib.decDigits n → 48 ≤ b.toNat ∧ b.toNat ≤ 57 := by
  intro n
  induction n using Nat.strongRecOn with
  | _ n ih =>
    intro h
    rw [Lib.decDigits] at h
    have key : ∀ d : Nat, d < 10 → (UInt8.ofNat (48 + d)).toNat = 48 + d := by
      intro d hd
      rw [UInt8.toNat_ofNat']
      omega
    split at h
    · rename_i hs
      simp only [List.mem_singleton] at h
      subst h
      rw [key _ hs]; omega
    · rcases List.mem_append.1 h with h | h
      · exact ih _ (by omega) h
      · simp only [List.mem_singleton] at h
        subst h
        rw [key _ (by omega)]; omega
theorem ba_append_list (a b : ByteArray) : (a ++ b).data.toList = a.data.toList ++ b.data.toList := by simp
theorem ba_append_size (a b : ByteArray) : (a ++ b).size = a.size + b.size := by rw [← size_toList, ba_append_list, List.length_append, size_toList, size_toList]
theorem ba_ext {a b : ByteArray} (h : a.data.toList = b.data.toList) : a = b := by
  cases a; cases b; simp only [ByteArray.mk.injEq]; exact Array.toList_inj.1 h
theorem one_digit : ∀ i : _root_.Fin 10, (ByteArray.mk #[48, 49, 50, 51, 52, 53, 54, 55, 56, 57]).extract i.val (i.val + 1) = ⟨#[UInt8.ofNat (48 + i.val)]⟩ := by decide +kernel
theorem one_digit' (d : Nat) (h : d < 10) : (ByteArray.mk #[48, 49, 50, 51, 52, 53, 54, 55, 56, 57]).extract d (d + 1) = numB d := by
  rw [show (ByteArray.mk #[48, 49, 50, 51, 52, 53, 54, 55, 56, 57]).extract d (d + 1) = ⟨#[UInt8.ofNat (48 + d)]⟩ from one_digit ⟨d, h⟩]
  unfold numB
  rw [Lib.decDigits, dif_pos h]
theorem numB_step {n : Nat} (h : ¬ n < 10) : numB (n / 10) ++ numB (n % 10) = numB n := by
  apply ba_ext
  rw [ba_append_list, numB_list, numB_list, numB_list, Lib.decDigits.eq_def n, dif_neg h, Lib.decDigits.eq_def (n % 10), dif_pos (by omega)]
theorem tdiv10 (n : Nat) : (n : Int).tdiv 10 = ((n / 10 : Nat) : Int) := by rw [Int.tdiv_eq_ediv_of_nonneg (by omega)]; omega
theorem tmod10 (n : Nat) : (n : Int).tmod 10 = ((n % 10 : Nat) : Int) := by rw [Int.tmod_eq_emod_of_nonneg (by omega)]; omega
end Go.GA
end
section
namespace Go.GA
open Go
theorem ext_list (s : ByteArray) (a b : Nat) : (s.extract a b).data.toList = (s.data.toList.drop a).take (b - a) := by simp [List.extract_eq_take_drop]
theorem ext_size (s : ByteArray) (a b : Nat) (h1 : a ≤ b) (h2 : b ≤ s.size) : (s.extract a b).size = b - a := by
  rw [← size_toList, ext_list, List.length_take, List.length_drop, size_toList]; omega
theorem fi_app0 (b : UInt8) : ∀ (l c : List UInt8), (∀ x ∈ l, x ≠ b) → (l ++ b :: c).findIdx (· == b) = l.length
  | [], c, _ => by simp [List.findIdx_cons]
  | x :: l, c, h => by
    have h1 : (x == b) = false := by simpa using h x (by simp)
    rw [List.cons_append, List.findIdx_cons, h1, cond_false, fi_app0 b l c (fun y hy => h y (by simp [hy]))]
    rfl
theorem fi_index0 (b : UInt8) : ∀ (l : List UInt8), Lib.indexByte l b = if l.findIdx (· == b) < l.length then ((l.findIdx (· == b) : Nat) : Int) else -1
  | [] => by simp [Lib.indexByte]
  | x :: l => by
    show (if (x == b) = true then (0 : Int) else if (Lib.indexByte l b == -1) = true then -1 else Lib.indexByte l b + 1) = _
    by_cases h1 : x == b
    · rw [List.findIdx_cons, h1]; simp
    · have h1' : (x == b) = false := by simpa using h1
      rw [List.findIdx_cons, h1', cond_false, if_neg (by simp), fi_index0 b l, List.length_cons]
      by_cases hlt : l.findIdx (· == b) < l.length
      · rw [if_pos hlt, if_neg (by simp), if_pos (by omega)]; omega
      · rw [if_neg hlt, if_pos (by simp), if_neg (by omega)]
/-- where b first stands -/
def fi (b : UInt8) (s : ByteArray) : Nat := s.data.toList.findIdx (· == b)
theorem cut_app {b : UInt8} {s A C : ByteArray} (e : s = A ++ ByteArray.mk #[b] ++ C) (h : ∀ y ∈ A.data.toList, y ≠ b) : fi b s = A.size ∧ A.size < s.size ∧ s.extract 0 A.size = A ∧ s.extract (A.size + 1) s.size = C := by
  have e1 : (ByteArray.mk #[b]).size = 1 := rfl
  have hsz : s.size = A.size + 1 + C.size := by rw [e, ba_append_size, ba_append_size, e1]
  have hl : s.data.toList = A.data.toList ++ b :: C.data.toList := by rw [e, ba_append_list, ba_append_list]; simp
  refine ⟨?_, by omega, ?_, ?_⟩
  · unfold fi; rw [hl, fi_app0 b _ _ h, size_toList]
  · apply ba_ext; rw [ext_list, hl, List.drop_zero, Nat.sub_zero, ← size_toList A, List.take_left]
  · apply ba_ext
    rw [ext_list, hl, hsz, List.drop_append, List.drop_eq_nil_of_le (by rw [size_toList]; omega), size_toList, List.nil_append, show A.size + 1 - A.size = 1 by omega, List.drop_succ_cons, List.drop_zero, List.take_of_length_le (by rw [size_toList]; omega)]
theorem ba_assoc (A B C : ByteArray) : A ++ B ++ C = A ++ (B ++ C) := by apply ba_ext; simp
/-- the index of a byte in a text -/
def idxG (b : UInt8) (x : ByteArray) : Int := if eqS (ByteArray.mk #[b]) x = true then 0 else Lib.indexByte x.data.toList b
theorem idxB_eq (b : UInt8) (x : ByteArray) : Lib.indexByte x.data.toList b = if fi b x < x.size then ((fi b x : Nat) : Int) else -1 := by
  rw [fi_index0, size_toList]; rfl
theorem idxG_eq (b : UInt8) (x : ByteArray) : idxG b x = if fi b x < x.size then ((fi b x : Nat) : Int) else -1 := by
  unfold idxG
  by_cases h : eqS (ByteArray.mk #[b]) x = true
  · rw [if_pos h]
    have e := eqS_iff.1 h
    subst e
    have : fi b (ByteArray.mk #[b]) = 0 := by simp [fi, List.findIdx_cons]
    rw [this, if_pos (show 0 < (ByteArray.mk #[b]).size from Nat.zero_lt_one)]
    rfl
  · rw [if_neg h, idxB_eq]
end Go.GA
end
section
namespace Go.GA
open Go
def NN (s : List Int) : Prop := ∀ j, 0 ≤ s.getD j 0
end Go.GA
end
section
namespace Go.GA
open Go
set_option maxRecDepth 10000
/-- a table of m dice -/
structure Tab (m : Nat) (T : List Int) : Prop where
  len : T.length = 121
  nn : NN T
  sum : T.sum = ((6 ^ m : Nat) : Int)
  supp : ∀ j, 30 * m < j → T.getD j 0 = 0
end Go.GA
end
section
namespace Go.GA
open Go
set_option maxRecDepth 10000
/-- entries weighed by g from the place j on -/
def momL (g : Int → Int) : Int → List Int → Int
  | _, [] => 0
  | j, x :: l => g j * x + momL g (j + 1) l
def mom (g : Int → Int) (T : List Int) : Int := momL g 0 T
def sq (d : List Int) : Int := (d.map (fun f => f * f)).sum
def m1 (T : List Int) : Int := mom (fun i => i) T
def m2 (T : List Int) : Int := mom (fun i => i * i) T
/-! ### bounds -/
end Go.GA
end
section
namespace Go.GA
open Go
set_option maxRecDepth 10000
/-- a die of six faces in order -/
def Die6 (d : List Int) : Prop := ∃ a b c e f g, d = [a, b, c, e, f, g] ∧ 0 ≤ a ∧ a ≤ b ∧ b ≤ c ∧ c ≤ e ∧ e ≤ f ∧ f ≤ g ∧ g ≤ 30
theorem Die6.len {d : List Int} (h : Die6 d) : d.length = 6 := by obtain ⟨a, b, c, e, f, g, rfl, _⟩ := h; rfl
theorem Die6.sum {d : List Int} (h : Die6 d) : 0 ≤ d.sum ∧ d.sum ≤ 180 ∧ 0 ≤ sq d ∧ sq d ≤ 5400 := by
  obtain ⟨a, b, c, e, f, g, rfl, h⟩ := h
  have e1 : sq [a, b, c, e, f, g] = a * a + b * b + c * c + e * e + f * f + g * g := by simp [sq]; omega
  have e2 : [a, b, c, e, f, g].sum = a + b + c + e + f + g := by simp; omega
  rw [e1, e2]
  have k : ∀ z : Int, 0 ≤ z → z ≤ 30 → 0 ≤ z * z ∧ z * z ≤ 900 := fun z h0 h1 => ⟨Int.mul_nonneg h0 h0, by have := Int.mul_le_mul h1 h1 h0 (by omega); omega⟩
  have := k a (by omega) (by omega)
  have := k b (by omega) (by omega)
  have := k c (by omega) (by omega)
  have := k e (by omega) (by omega)
  have := k f (by omega) (by omega)
  have := k g (by omega) (by omega)
  omega
/-- what is known of the table T of dice with the sum A, the spread V and the bounds lo, hi -/
structure TM (T : List Int) (A V lo hi : Int) : Prop where
  a : 6 * m1 T = T.sum * A
  v : 36 * (m2 T * T.sum - m1 T * m1 T) = T.sum * T.sum * V
  l0 : 0 ≤ lo
  lh : lo ≤ hi
  lo1 : 1 ≤ T.getD lo.toNat 0
  hi1 : 1 ≤ T.getD hi.toNat 0
  out : ∀ s : Nat, T.getD s 0 ≠ 0 → lo ≤ s ∧ (s : Int) ≤ hi
  an : 0 ≤ A
  vn : 0 ≤ V
/-! ### tails -/
end Go.GA
end
