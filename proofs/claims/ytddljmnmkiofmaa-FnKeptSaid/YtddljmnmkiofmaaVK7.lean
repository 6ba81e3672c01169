/- Plain law of FnKept: outcomes, and numbers sorted. -/
import Derived.Test.YtddljmnmkiofmaaVK5
namespace Go.GA
open Go
set_option maxRecDepth 100000
/-! ### short lists sorted, the greatest number first -/
def sIn (fu : Nat) (len : Int) {R : Type} (K : List Int → Option R) : Int × List Int → (Int × List Int → Option R) → Option R := fun (s8 : Int × (List Int)) c10 => if ((decide ((0 : Int) < s8.1)) = true → 0 ≤ s8.1) then if ((decide ((0 : Int) < s8.1)) = true → s8.1 < len) then if ((decide ((0 : Int) < s8.1)) = true → 0 ≤ (s8.1 - 1)) then (if ((decide ((0 : Int) < s8.1)) && (decide ((p_impl_rolls_1 (s8.2.getD s8.1.toNat 0) (s8.2.getD (s8.1 - 1).toNat 0)) < 0))) = true then if 0 ≤ (IntKind.wrap .i64 (s8.1 - 1)) then if (IntKind.wrap .i64 (s8.1 - 1)) < len then if 0 ≤ s8.1 then if s8.1 < len then c10 ((s8.1 - 1), ((s8.2.set s8.1.toNat (s8.2.getD (IntKind.wrap .i64 (s8.1 - 1)).toNat 0)).set (IntKind.wrap .i64 (s8.1 - 1)).toNat (s8.2.getD s8.1.toNat 0))) else none else none else none else none else K s8.2) else none else none else none
def Fc (l : List Int) : Prop := ∀ a ∈ l, 0 ≤ a ∧ a ≤ 30
theorem swap_at (P R : List Int) (y x : Int) : ((P ++ y :: x :: R).set (P.length + 1) y).set P.length x = P ++ x :: y :: R := by
  rw [List.set_append_right _ _ (by omega), Nat.add_sub_cancel_left, List.set_append_right _ _ (Nat.le_refl _), Nat.sub_self]
  rfl
theorem get_at (P R : List Int) (y x : Int) : (P ++ y :: x :: R).getD P.length 0 = y ∧ (P ++ y :: x :: R).getD (P.length + 1) 0 = x := by
  constructor
  · rw [List.getD_eq_getElem?_getD, List.getElem?_append_right (Nat.le_refl _), Nat.sub_self]; rfl
  · rw [List.getD_eq_getElem?_getD, List.getElem?_append_right (by omega), Nat.add_sub_cancel_left]; rfl
theorem snoc_cases (l : List Int) : l = [] ∨ ∃ L b, l = L ++ [b] := by
  rcases List.eq_nil_or_concat l with h | ⟨L, b, h⟩
  · exact .inl h
  · exact .inr ⟨L, b, by rw [h, List.concat_eq_append]⟩
/-- a number goes to its place -/
theorem sIn_run {fu : Nat} {R : Type} (K : List Int → Option R) (Q : Option R → Prop) : ∀ (n : Nat) (P : List Int) (x : Int) (M R' : List Int), P.length < n → P.length + 1 + M.length + R'.length ≤ 12 → Fc P → 0 ≤ x ∧ x ≤ 30 → (P ++ M).Pairwise (· ≥ ·) → (∀ a ∈ M, a < x) → (∀ l, l.Pairwise (· ≥ ·) → l.Perm (x :: (P ++ M)) → Q (K (l ++ R'))) →
    Q (whl (sIn fu ((P.length + 1 + M.length + R'.length : Nat) : Int) K) n ((P.length : Int), P ++ x :: (M ++ R')))
  | 0, P, x, M, R', h, _, _, _, _, _, _ => by omega
  | n + 1, P, x, M, R', h, hb, hP, hx, hs, hM, hQ => by
    rw [show ∀ z, whl (sIn fu ((P.length + 1 + M.length + R'.length : Nat) : Int) K) (n + 1) z = sIn fu ((P.length + 1 + M.length + R'.length : Nat) : Int) K z (whl (sIn fu ((P.length + 1 + M.length + R'.length : Nat) : Int) K) n) from fun _ => rfl]
    have hend : ∀ (hc : ∀ a ∈ P, x ≤ a), Q (K (P ++ x :: (M ++ R'))) := fun hc => by
      have e : P ++ x :: (M ++ R') = (P ++ x :: M) ++ R' := by simp
      rw [e]
      refine hQ _ ?_ ?_
      · rw [List.pairwise_append] at hs ⊢
        refine ⟨hs.1, List.pairwise_cons.2 ⟨fun a ha => by have := hM a ha; show x ≥ a; omega, hs.2.1⟩, fun a ha b hb => ?_⟩
        rcases List.mem_cons.1 hb with rfl | hb
        · exact hc a ha
        · exact hs.2.2 a ha b hb
      · exact List.perm_middle
    rcases snoc_cases P with rfl | ⟨P', y, rfl⟩
    · unfold sIn
      simp only [List.length_nil]
      rw [if_pos (by simp), if_pos (by simp), if_pos (by simp), if_neg (by simp)]
      exact hend (fun a ha => by cases ha)
    · have hy := hP y (by simp)
      have hlen : (P' ++ [y]).length = P'.length + 1 := by simp
      have hl : (P' ++ [y]) ++ x :: (M ++ R') = P' ++ y :: x :: (M ++ R') := by simp
      obtain ⟨g1, g2⟩ := get_at P' (M ++ R') y x
      have ih := sIn_run (fu := fu) K Q n P' x (y :: M) R'
      have ecount : P'.length + 1 + (y :: M).length + R'.length = (P' ++ [y]).length + 1 + M.length + R'.length := by simp; omega
      rw [ecount] at ih
      generalize whl (sIn fu (((P' ++ [y]).length + 1 + M.length + R'.length : Nat) : Int) K) n = W at ih
      unfold sIn
      rw [hl]
      have hj : (((P' ++ [y]).length : Nat) : Int) = ((P'.length + 1 : Nat) : Int) := by rw [hlen]
      rw [hj]
      have et1 : ((P'.length + 1 : Nat) : Int).toNat = P'.length + 1 := by omega
      have et2 : (((P'.length + 1 : Nat) : Int) - 1) = ((P'.length : Nat) : Int) := by omega
      rw [et1, et2, Int.toNat_natCast, g1, g2]
      have ec : p_impl_rolls_1 x y = y - x := by unfold p_impl_rolls_1; rw [wr (by omega) (by omega)]
      rw [ec, wr (by omega) (by omega), Int.toNat_natCast, g1, swap_at]
      rw [if_pos (fun _ => by omega), if_pos (fun _ => by omega), if_pos (fun _ => by omega)]
      by_cases hc : y < x
      · rw [if_pos (by simp; omega), if_pos (by omega), if_pos (by omega), if_pos (by omega), if_pos (by omega)]
        have hperm : (P' ++ y :: M) = (P' ++ [y]) ++ M := by simp
        refine ih (by rw [hlen] at h; omega) (by rw [hlen] at hb; simp at hb ⊢; omega) (fun a ha => hP a (by simp [ha])) hx (by rw [hperm]; exact hs) (fun a ha => ?_) (fun l h1 h2 => ?_)
        · rcases List.mem_cons.1 ha with rfl | ha
          · exact hc
          · exact hM a ha
        · rw [hperm] at h2
          exact hQ l h1 h2
      · rw [if_neg (by simp; omega)]
        rw [← hl]
        refine hend (fun a ha => ?_)
        rw [List.pairwise_append] at hs
        have hs1 := hs.1
        rw [List.pairwise_append] at hs1
        rcases List.mem_append.1 ha with h | h
        · have := hs1.2.2 a h y (by simp)
          show x ≤ a
          have h3 : a ≥ y := this
          omega
        · have : a = y := by simpa using h
          omega
def sOut (fu : Nat) (len : Int) : Int × List Int → (Int × List Int → Option (List Int)) → Option (List Int) := fun (s1 : Int × (List Int)) c3 => (if s1.1 < len then whl (sIn fu len (fun l => c3 ((IntKind.wrap .i64 (s1.1 + 1)), l))) fu (s1.1, s1.2) else some s1.2)
theorem sOut_run {fu : Nat} (hf : 64 ≤ fu) (N : Nat) (hN : N ≤ 12) : ∀ (n : Nat) (S R' : List Int), N + 1 - S.length < n → 1 ≤ S.length → S.length + R'.length = N → Fc S → Fc R' → S.Pairwise (· ≥ ·) → ∃ r, whl (sOut fu (N : Int)) n ((S.length : Int), S ++ R') = some r ∧ r.Pairwise (· ≥ ·) ∧ r.Perm (S ++ R')
  | 0, S, R', h, _, hl, _, _, _ => by omega
  | n + 1, S, R', h, h1, hl, hS, hR, hs => by
    have ih := sOut_run hf N hN n
    rw [show ∀ z, whl (sOut fu (N : Int)) (n + 1) z = sOut fu (N : Int) z (whl (sOut fu (N : Int)) n) from fun _ => rfl]
    generalize whl (sOut fu (N : Int)) n = W at ih
    unfold sOut
    simp only
    cases R' with
    | nil =>
      simp only [List.length_nil] at hl
      rw [if_neg (by omega), List.append_nil]
      exact ⟨S, rfl, hs, List.Perm.refl _⟩
    | cons x R' =>
      simp only [List.length_cons] at hl
      have hx := hR x (by simp)
      rw [if_pos (by omega)]
      have key := sIn_run (fu := fu) (fun l => W ((IntKind.wrap .i64 ((S.length : Int) + 1)), l)) (fun q => ∃ r, q = some r ∧ r.Pairwise (· ≥ ·) ∧ r.Perm (S ++ x :: R')) fu S x [] R' (by omega) (by simp; omega) hS hx (by rw [List.append_nil]; exact hs) (fun a ha => by cases ha) (fun l p1 p2 => ?_)
      · simp only [List.length_nil, List.nil_append] at key
        rw [show S.length + 1 + 0 + R'.length = N by omega] at key
        exact key
      · rw [List.append_nil] at p2
        have hlen := p2.length_eq
        simp only [List.length_cons] at hlen
        rw [wr (by omega) (by omega), show (S.length : Int) + 1 = (l.length : Int) by omega]
        obtain ⟨r, e, r1, r2⟩ := ih l R' (by omega) (by omega) (by omega) (fun a ha => by
          have := p2.mem_iff.1 ha
          rcases List.mem_cons.1 this with rfl | h
          · exact hx
          · exact hS a h) (fun a ha => hR a (by simp [ha])) p1
        refine ⟨r, e, r1, r2.trans ?_⟩
        exact (p2.append_right R').trans (by
          have : x :: S ++ R' = x :: (S ++ R') := rfl
          rw [this]
          exact List.perm_middle.symm)
theorem len_ok {n : Nat} (hn : n ≤ 12) : ∃ r, p_math_bits_Len (IntKind.wrap .u64 (n : Int)) = some r := by
  rcases (by omega : n = 0 ∨ n = 1 ∨ n = 2 ∨ n = 3 ∨ n = 4 ∨ n = 5 ∨ n = 6 ∨ n = 7 ∨ n = 8 ∨ n = 9 ∨ n = 10 ∨ n = 11 ∨ n = 12) with h | h | h | h | h | h | h | h | h | h | h | h | h <;> subst h <;> exact ⟨_, rfl⟩
theorem sort_ok {fu : Nat} (hf : 64 ≤ fu) {l : List Int} (hl : l.length ≤ 12) (h : Fc l) : ∃ r, p_slices_SortFunc_int_int fu l = some r ∧ r.Pairwise (· ≥ ·) ∧ r.Perm l := by
  unfold p_slices_SortFunc_int_int
  obtain ⟨k, hk⟩ := len_ok hl
  rw [hk, Option.bind_some]
  have key : ∃ r, p_slices_insertionSortCmpFunc_int fu l 0 (l.length : Int) = some r ∧ r.Pairwise (· ≥ ·) ∧ r.Perm l := by
    unfold p_slices_insertionSortCmpFunc_int
    have e1 : IntKind.wrap .i64 ((0 : Int) + 1) = 1 := by decide
    rw [e1]
    cases l with
    | nil =>
      obtain ⟨f, rfl⟩ : ∃ f, fu = f + 1 := ⟨fu - 1, by omega⟩
      exact ⟨[], rfl, List.Pairwise.nil, List.Perm.refl _⟩
    | cons x l =>
      simp only [List.length_cons] at hl
      exact sOut_run hf (l.length + 1) (by omega) fu [x] l (by simp; omega) (Nat.le_refl _) (by simp; omega) (fun a ha => h a (by simp at ha; simp [ha])) (fun a ha => h a (by simp [ha])) (List.pairwise_singleton _ _)
  obtain ⟨r, e, r1, r2⟩ := key
  refine ⟨r, ?_, r1, r2⟩
  unfold p_slices_pdqsortCmpFunc_int
  obtain ⟨f, rfl⟩ : ∃ f, fu = f + 1 := ⟨fu - 1, by omega⟩
  simp only [whl]
  rw [if_pos (by rw [wr (by omega) (by omega)]; omega), e]
  rfl
end Go.GA
