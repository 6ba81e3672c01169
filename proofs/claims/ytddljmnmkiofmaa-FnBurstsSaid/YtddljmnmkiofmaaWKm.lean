/- Plain law of FnBursts: what other laws use too. -/
import Derived.Test.YtddljmnmkiofmaaWKi
namespace Go.GA.E
open Go
set_option maxRecDepth 100000
theorem momF_nn : ∀ (b : Nat) (l : List Int), (∀ a ∈ l, 0 ≤ a) → 0 ≤ momF b l
  | _, [], _ => by simp [momF]
  | b, a :: l, h => by
    have h1 := momF_nn (b + 1) l (fun x hx => h x (by simp [hx]))
    have h2 : 0 ≤ (b : Int) * a := Int.mul_nonneg (by omega) (h a (by simp))
    simp only [momF]; omega
theorem sum_nn2 : ∀ (l : List Int), (∀ a ∈ l, 0 ≤ a) → 0 ≤ l.sum
  | [], _ => by simp
  | a :: l, h => by
    have h1 := sum_nn2 l (fun x hx => h x (by simp [hx]))
    have h2 := h a (by simp)
    rw [List.sum_cons]; omega
theorem drop_nn {T : List Int} (h : ∀ a ∈ T, 0 ≤ a) (k : Nat) : ∀ a ∈ T.drop k, 0 ≤ a := fun a ha => h a (List.mem_of_mem_drop ha)
theorem momG {S Q : Type} {T : List Int} (hT : ∀ a ∈ T, 0 ≤ a) (g : Int → Int → S) (F : Int → S → S) (K : Int → S → Q) (hF : ∀ (i : Nat) (a b : Int), i < T.length → 0 ≤ T.getD i 0 → 0 ≤ a → a + T.getD i 0 ≤ 1000000000 → 0 ≤ b → 0 ≤ (i : Int) * T.getD i 0 → b + (i : Int) * T.getD i 0 ≤ 1000000000 → F (i : Int) (g a b) = g (a + T.getD i 0) (b + (i : Int) * T.getD i 0)) : ∀ (d i : Nat) (a b : Int), i + d = T.length → 0 ≤ a → a + (T.drop i).sum ≤ 1000000000 → 0 ≤ b → b + momF i (T.drop i) ≤ 1000000000 → cnt (fun i s c _ => c (F i s)) K d (i : Int) (g a b) = K ((i + d : Nat) : Int) (g (a + (T.drop i).sum) (b + momF i (T.drop i)))
  | 0, i, a, b, h, _, _, _, _ => by
    rw [List.drop_eq_nil_of_le (by omega)]
    simp [cnt, momF]
  | d + 1, i, a, b, h, a0, a1, b0, b1 => by
    have hi : i < T.length := by omega
    have e := List.drop_eq_getElem_cons hi
    have eg : T.getD i 0 = T[i] := by rw [List.getD_eq_getElem?_getD, List.getElem?_eq_getElem hi]; rfl
    rw [e] at a1 b1 ⊢
    rw [List.sum_cons] at a1 ⊢
    simp only [momF] at b1 ⊢
    have hg : 0 ≤ T[i] := hT _ (List.getElem_mem hi)
    have s0 := sum_nn2 _ (drop_nn hT (i + 1))
    have m0 := momF_nn (i + 1) _ (drop_nn hT (i + 1))
    have p0 : 0 ≤ (i : Int) * T[i] := Int.mul_nonneg (by omega) hg
    simp only [cnt]
    rw [hF i a b hi (by rw [eg]; exact hg) a0 (by rw [eg]; omega) b0 (by rw [eg]; exact p0) (by rw [eg]; omega), eg, show (i : Int) + 1 = ((i + 1 : Nat) : Int) from rfl, momG hT g F K hF d (i + 1) _ _ (by omega) (by omega) (by omega) (by omega) (by omega)]
    congr 1
    · congr 1; omega
    · congr 1
      · omega
      · omega
end Go.GA.E
