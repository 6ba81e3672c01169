/- Plain laws of neighbours alike removed. -/
import Derived.Test.YtcminfahdindnaaDoorGP1
namespace Go.GA
/-- neighbours alike, once -/
def dd : List Int → List Int
  | [] => []
  | x :: l => match l with
    | [] => [x]
    | y :: _ => if x = y then dd l else x :: dd l
theorem dd_cons2 (x y : Int) (l : List Int) : dd (x :: y :: l) = if x = y then dd (y :: l) else x :: dd (y :: l) := by rw [dd]
theorem dd_snoc : ∀ (l : List Int) (y z : Int), dd (l ++ [y, z]) = if y = z then dd (l ++ [y]) else dd (l ++ [y]) ++ [z]
  | [], y, z => by simp only [List.nil_append, dd_cons2]; by_cases h : y = z <;> simp [h, dd]
  | [x], y, z => by
    simp only [List.cons_append, List.nil_append, dd_cons2]
    by_cases h : x = y <;> by_cases h2 : y = z <;> simp [h, h2, dd]
  | x :: x' :: l, y, z => by
    have ih := dd_snoc (x' :: l) y z
    simp only [List.cons_append] at ih ⊢
    rw [dd_cons2, ih, dd_cons2]
    by_cases h : x = x' <;> by_cases h2 : y = z <;> simp [h, h2]
theorem dd_take (x : List Int) (i : Nat) (h : i + 1 < x.length) : dd (x.take (i + 2)) = if x.getD i 0 = x.getD (i + 1) 0 then dd (x.take (i + 1)) else dd (x.take (i + 1)) ++ [x.getD (i + 1) 0] := by
  have e1 : x.take (i + 2) = x.take i ++ [x[i], x[i + 1]] := by
    have h1 : x.take (i + 1 + 1) = x.take (i + 1) ++ [x[i + 1]] := List.take_succ_eq_append_getElem h
    have h2 : x.take (i + 1) = x.take i ++ [x[i]] := List.take_succ_eq_append_getElem (by omega)
    rw [show i + 2 = i + 1 + 1 from rfl, h1, h2, List.append_assoc]; rfl
  have e2 : x.take (i + 1) = x.take i ++ [x[i]] := List.take_succ_eq_append_getElem (by omega)
  rw [e1, dd_snoc, e2]
  simp [List.getD_eq_getElem?_getD, List.getElem?_eq_getElem (show i < x.length by omega), List.getElem?_eq_getElem h]
theorem dd_len (l : List Int) : (dd l).length ≤ l.length := by
  induction l with
  | nil => exact Nat.le_refl 0
  | cons x l ih =>
    cases l with
    | nil => simp [dd]
    | cons y l =>
      rw [dd_cons2]
      split
      · simp only [List.length_cons] at ih ⊢; omega
      · simp only [List.length_cons] at ih ⊢; omega
/-- no neighbours alike so far -/
theorem dd_same (x : List Int) : ∀ (i : Nat), i ≤ x.length → (∀ j, 0 < j → j < i → x.getD j 0 ≠ x.getD (j - 1) 0) → dd (x.take i) = x.take i
  | 0, _, _ => rfl
  | 1, h, _ => by
    cases x with
    | nil => rfl
    | cons a l => simp [dd]
  | i + 2, h, hne => by
    have ih := dd_same x (i + 1) (by omega) (fun j h0 h1 => hne j h0 (by omega))
    rw [dd_take x i (by omega), if_neg (fun e => hne (i + 1) (by omega) (by omega) (by simpa using e.symm)), ih]
    have h1 : x.take (i + 1 + 1) = x.take (i + 1) ++ [x[i + 1]] := List.take_succ_eq_append_getElem (by omega)
    rw [show i + 2 = i + 1 + 1 from rfl, h1]
    simp [List.getD_eq_getElem?_getD, List.getElem?_eq_getElem (show i + 1 < x.length by omega)]
end Go.GA
