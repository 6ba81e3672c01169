/- Walks: what the Go functions compute, by the printed lines below. -/
import Derived.Test.YtjkmekpelnjaiaaGp2
import Derived.Test.YtjkmekpelnjaiaaMeanDistanceWalks
namespace Go.GA
open Go Go.Proofs
theorem compact_eq (x : List Int) : p_slices_Compact_int_int x = some (dd x) := by
  unfold p_slices_Compact_int_int
  by_cases h2 : (x.length : Int) < 2
  · rw [if_pos h2]
    match x, h2 with
    | [], _ => rfl
    | [a], _ => rfl
    | a :: b :: l, h => simp at h; omega
  · rw [if_neg h2]
    have outer : ∀ (d i : Nat), 1 ≤ i → d + i = x.length → (∀ j, 0 < j → j < i → x.getD j 0 ≠ x.getD (j - 1) 0) →
        cnt (fun i5 (s4 : Unit) c6 _ => (if (x.getD i5.toNat 0) = (x.getD (i5 - 1).toNat 0) then cnt (fun i15 (s14 : Int × (List Int)) c16 _ => (if (s14.2.getD (i5.toNat + i15.toNat) 0) = (s14.2.getD (i5.toNat + (i15 - 1).toNat) 0) then c16 (s14.1, s14.2) else if s14.1 < (x.length : Int) then c16 ((s14.1 + 1), (s14.2.set s14.1.toNat (s14.2.getD (i5.toNat + i15.toNat) 0))) else none)) (fun i15 (s14 : Int × (List Int)) => if s14.1 ≤ (x.length : Int) then some ((s14.2.take s14.1.toNat ++ (List.replicate ((s14.2.length : Int) - s14.1).toNat 0 ++ s14.2.drop (s14.1.toNat + ((s14.2.length : Int) - s14.1).toNat))).take s14.1.toNat) else none) (Int.toNat (((((x.length : Int) - i5).toNat : Nat) : Int) - 1)) 1 (i5, x) else c6 ())) (fun i5 (s4 : Unit) => some x) d (i : Int) () = some (dd x) := by
      intro d
      induction d with
      | zero =>
        intro i hi h hne
        have := dd_same x i (by omega) hne
        rw [List.take_of_length_le (by omega)] at this
        simp [cnt, this]
      | succ d ih =>
        intro i hi h hne
        have hlt : i < x.length := by omega
        simp only [cnt]
        have e1 : (((i : Int) - 1).toNat) = i - 1 := by omega
        rw [show (i : Int) + 1 = ((i + 1 : Nat) : Int) from rfl, Int.toNat_natCast, e1]
        by_cases he : x.getD i 0 = x.getD (i - 1) 0
        · rw [if_pos he]
          have inner : ∀ (m k w : Nat) (arr : List Int), 1 ≤ k → m + (i + k) = x.length → arr.length = x.length → w + 1 ≤ i + k → arr.take w = dd (x.take (i + k)) → (∀ j, i + k ≤ j + 1 → arr.getD j 0 = x.getD j 0) →
              cnt (fun i15 (s14 : Int × (List Int)) c16 _ => (if (s14.2.getD (i + i15.toNat) 0) = (s14.2.getD (i + (i15 - 1).toNat) 0) then c16 (s14.1, s14.2) else if s14.1 < (x.length : Int) then c16 ((s14.1 + 1), (s14.2.set s14.1.toNat (s14.2.getD (i + i15.toNat) 0))) else none)) (fun i15 (s14 : Int × (List Int)) => if s14.1 ≤ (x.length : Int) then some ((s14.2.take s14.1.toNat ++ (List.replicate ((s14.2.length : Int) - s14.1).toNat 0 ++ s14.2.drop (s14.1.toNat + ((s14.2.length : Int) - s14.1).toNat))).take s14.1.toNat) else none) m (k : Int) ((w : Int), arr) = some (dd x) := by
            intro m
            induction m with
            | zero =>
              intro k w arr hk hm hl hw ht hj
              simp only [cnt]
              rw [if_pos (by omega), Int.toNat_natCast, List.take_append_of_le_length (by rw [List.length_take]; omega), List.take_take, Nat.min_self, ht, List.take_of_length_le (by omega)]
            | succ m ihm =>
              intro k w arr hk hm hl hw ht hj
              simp only [cnt]
              have e2 : (((k : Int) - 1).toNat) = k - 1 := by omega
              rw [show (k : Int) + 1 = ((k + 1 : Nat) : Int) from rfl, Int.toNat_natCast, e2, hj (i + k) (by omega), hj (i + (k - 1)) (by omega)]
              have hdd := dd_take x (i + k - 1) (by omega)
              rw [show i + k - 1 + 2 = i + (k + 1) by omega, show i + k - 1 + 1 = i + k by omega] at hdd
              rw [show i + (k - 1) = i + k - 1 by omega]
              by_cases hh : x.getD (i + k) 0 = x.getD (i + k - 1) 0
              · rw [if_pos hh]
                rw [if_pos hh.symm] at hdd
                exact ihm (k + 1) w arr (by omega) (by omega) hl (by omega) (by rw [hdd]; exact ht) (fun j h' => hj j (by omega))
              · rw [if_neg hh, if_pos (by omega), Int.toNat_natCast, show (w : Int) + 1 = ((w + 1 : Nat) : Int) from rfl]
                rw [if_neg (fun e => hh e.symm)] at hdd
                refine ihm (k + 1) (w + 1) _ (by omega) (by omega) (by rw [List.length_set]; exact hl) (by omega) ?_ (fun j h' => ?_)
                · rw [hdd, ← ht]
                  have hwl : w < arr.length := by omega
                  have h1 : (arr.set w (x.getD (i + k) 0)).take (w + 1) = (arr.set w (x.getD (i + k) 0)).take w ++ [(arr.set w (x.getD (i + k) 0))[w]'(by rw [List.length_set]; exact hwl)] := List.take_succ_eq_append_getElem (by rw [List.length_set]; exact hwl)
                  rw [h1, List.getElem_set_self, List.take_set_of_le (Nat.le_refl w)]
                · have hne' : w ≠ j := by omega
                  rw [List.getD_eq_getElem?_getD, List.getElem?_set_ne hne', ← List.getD_eq_getElem?_getD]
                  exact hj j (by omega)
          have e3 : Int.toNat (((((x.length : Int) - (i : Int)).toNat : Nat) : Int) - 1) = d := by omega
          rw [e3]
          have hdd := dd_take x (i - 1) (by omega)
          rw [show i - 1 + 2 = i + 1 by omega, show i - 1 + 1 = i by omega, if_pos he.symm, dd_same x i (by omega) hne] at hdd
          exact inner d 1 i x (Nat.le_refl 1) (by omega) rfl (by omega) hdd.symm (fun j _ => rfl)
        · rw [if_neg he]
          exact ih (i + 1) (by omega) (by omega) (fun j h0 h1 => by
            by_cases hj : j = i
            · subst hj; exact he
            · exact hne j h0 (by omega))
    have := outer (x.length - 1) 1 (Nat.le_refl 1) (by omega) (fun j h0 h1 => by omega)
    have e : Int.toNat ((x.length : Int) - 1) = x.length - 1 := by omega
    rw [e]
    exact this
end Go.GA
