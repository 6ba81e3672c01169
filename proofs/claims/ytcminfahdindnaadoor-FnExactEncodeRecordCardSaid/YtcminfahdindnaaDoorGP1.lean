/- Plain laws of the loops that the printed functions are told by. -/
import Derived.Test.YtcminfahdindnaaDoorGA20
namespace Go.GA
/-- a loop over a list -/
def lrun {α S R : Type} (F : α → S → (S → R) → R) (k : S → R) : List α → S → R
  | [], s => k s
  | x :: xs, s => F x s (fun s' => lrun F k xs s')
theorem cnt_list_aux {α S R : Type} {f : Int → S → (S → R) → (Int → S → R) → R} {k : Int → S → R} (F : α → S → (S → R) → R) (xs : List α) (dflt : α) (hf : ∀ i s c, 0 ≤ i → i < (xs.length : Int) → f i s c k = F (xs.getD i.toNat dflt) s c) :
    ∀ (d : Nat) (i : Nat) (s : S), d + i = xs.length → cnt f k d (i : Int) s = lrun F (k xs.length) (xs.drop i) s
  | 0, i, s, h => by
    have : xs.drop i = [] := List.drop_eq_nil_of_le (by omega)
    rw [this]
    obtain rfl : i = xs.length := by omega
    rfl
  | d + 1, i, s, h => by
    have hi : i < xs.length := by omega
    rw [List.drop_eq_getElem_cons hi]
    show f (i : Int) s _ k = F xs[i] s _
    rw [hf (i : Int) s _ (by omega) (by omega)]
    have e : xs.getD (i : Int).toNat dflt = xs[i] := by simp [hi]
    rw [e]
    congr 1
    funext s'
    have := cnt_list_aux F xs dflt hf d (i + 1) s' (by omega)
    simpa using this
theorem cnt_list {α S R : Type} {f : Int → S → (S → R) → (Int → S → R) → R} {k : Int → S → R} (F : α → S → (S → R) → R) (xs : List α) (dflt : α) {d : Nat} {s : S} (hd : d = xs.length) (hf : ∀ i s c, 0 ≤ i → i < (xs.length : Int) → f i s c k = F (xs.getD i.toNat dflt) s c) :
    cnt f k d 0 s = lrun F (k xs.length) xs s := by
  have := cnt_list_aux F xs dflt hf d 0 s (by omega)
  simpa using this
theorem lrun_fold {α S R : Type} (G : α → S → S) (k : S → R) : ∀ (xs : List α) (s : S), lrun (fun x s c => c (G x s)) k xs s = k (xs.foldl (fun s x => G x s) s)
  | [], s => rfl
  | x :: xs, s => lrun_fold G k xs (G x s)
/-- a loop that is left at the first element that is bad -/
theorem lrun_any {α S R : Type} (b : α → Bool) (r : R) (k : S → R) : ∀ (xs : List α) (s : S), lrun (fun x s c => if b x = true then r else c s) k xs s = if xs.any b = true then r else k s
  | [], s => by simp [lrun]
  | x :: xs, s => by
    show (if b x = true then r else lrun _ k xs s) = _
    rw [lrun_any b r k xs s]
    cases h : b x <;> simp [h]
theorem cnt_congr {S R : Type} {f g : Int → S → (S → R) → (Int → S → R) → R} {k : Int → S → R} (h : ∀ i s c, f i s c k = g i s c k) : ∀ (d : Nat) (i : Int) (s : S), cnt f k d i s = cnt g k d i s
  | 0, i, s => rfl
  | d + 1, i, s => by
    show f i s _ k = g i s _ k
    rw [h]; congr 1; funext s'; exact cnt_congr h d (i + 1) s'
/-- rounds that go on -/
def iter {S : Type} (g : Int → S → S) : Nat → Int → S → S
  | 0, _, s => s
  | d + 1, i, s => iter g d (i + 1) (g i s)
theorem cnt_iter {S R : Type} (g : Int → S → S) (k : Int → S → R) : ∀ (d : Nat) (i : Int) (s : S), cnt (fun i s c _ => c (g i s)) k d i s = k (i + d) (iter g d i s)
  | 0, i, s => by simp [cnt, iter]
  | d + 1, i, s => by
    show cnt _ k d (i + 1) (g i s) = _
    rw [cnt_iter g k d (i + 1) (g i s)]
    simp only [iter]
    congr 1
    omega
theorem iter_copy {α : Type} (xs : List α) (dflt : α) : ∀ (d i : Nat) (s : List α), d + i = xs.length → s.length = xs.length → s.take i = xs.take i → iter (fun i s => s.set i.toNat (xs.getD i.toNat dflt)) d (i : Int) s = xs
  | 0, i, s, h, hl, ht => by
    simp only [iter]
    rw [List.take_of_length_le (by omega), List.take_of_length_le (by omega)] at ht
    exact ht
  | d + 1, i, s, h, hl, ht => by
    simp only [iter]
    have hi : i < xs.length := by omega
    have := iter_copy xs dflt d (i + 1) (s.set i (xs.getD i dflt)) (by omega) (by simp [hl]) (by
      rw [List.take_add_one, List.take_add_one, List.take_set_of_le (Nat.le_refl i), ht]
      simp [hi, hl])
    simpa using this
/-- a list copied -/
theorem cnt_copy {α R : Type} (xs : List α) (dflt : α) {k : Int → List α → R} {d : Nat} {s : List α} (hd : d = xs.length) (hs : s.length = xs.length) : cnt (fun i s c _ => c (s.set i.toNat (xs.getD i.toNat dflt))) k d 0 s = k xs.length xs := by
  rw [cnt_iter]
  have := iter_copy xs dflt d 0 s (by omega) hs (by simp)
  simp only [Int.natCast_zero] at this
  rw [this, hd]; simp
theorem len6 {α : Type} {x : List α} (h : x.length = 6) : ∃ a b c d e f, x = [a, b, c, d, e, f] := by
  match x, h with
  | [a, b, c, d, e, f], _ => exact ⟨a, b, c, d, e, f, rfl⟩
/-- two lists compared -/
theorem cnt_eq {α R : Type} [DecidableEq α] (dflt : α) (t u : R) : ∀ (d i : Nat) (xs ys : List α), xs.length = ys.length → d + i = xs.length → 
    cnt (fun i (s : Unit) c _ => if xs.getD i.toNat dflt = ys.getD i.toNat dflt then c () else u) (fun _ _ => t) d (i : Int) () = if xs.drop i = ys.drop i then t else u
  | 0, i, xs, ys, hl, h => by
    simp only [cnt]
    rw [List.drop_eq_nil_of_le (by omega), List.drop_eq_nil_of_le (by omega)]; simp
  | d + 1, i, xs, ys, hl, h => by
    have h1 : i < xs.length := by omega
    have h2 : i < ys.length := by omega
    have := cnt_eq dflt t u d (i + 1) xs ys hl (by omega)
    simp only [cnt]
    rw [show (i : Int) + 1 = ((i + 1 : Nat) : Int) from rfl, this, List.drop_eq_getElem_cons h1, List.drop_eq_getElem_cons h2]
    simp only [Int.toNat_natCast, List.getD_eq_getElem?_getD, List.getElem?_eq_getElem h1, List.getElem?_eq_getElem h2, Option.getD_some, List.cons.injEq]
    by_cases he : xs[i] = ys[i] <;> simp [he]
end Go.GA
namespace Go.GA
theorem cnt_find {α : Type} (b : α → Bool) (dflt : α) (xs : List α) : ∀ (d i : Nat), d + i = xs.length →
    decide (0 ≤ cnt (fun i (s : Unit) c _ => if b (xs.getD i.toNat dflt) = true then i else c ()) (fun _ _ => (-1 : Int)) d (i : Int) ()) = (xs.drop i).any b
  | 0, i, h => by rw [List.drop_eq_nil_of_le (by omega)]; rfl
  | d + 1, i, h => by
    have h1 : i < xs.length := by omega
    have := cnt_find b dflt xs d (i + 1) (by omega)
    simp only [cnt]
    rw [List.drop_eq_getElem_cons h1, List.any_cons, ← this]
    simp only [Int.toNat_natCast, List.getD_eq_getElem?_getD, List.getElem?_eq_getElem h1, Option.getD_some]
    by_cases he : b xs[i] = true
    · simp only [he, if_true, Bool.true_or, decide_eq_true_eq]; omega
    · simp only [he]; simp
end Go.GA
