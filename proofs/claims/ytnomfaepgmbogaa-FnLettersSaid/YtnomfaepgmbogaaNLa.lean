/- Plain law of FnLetters: lists of letters, turned. -/
import Derived.Test.YtnomfaepgmbogaaMKh
import Derived.Test.YtnomfaepgmbogaaMKo
namespace Go.GA.E
open Go
set_option maxRecDepth 100000
/-- a list of letters -/
def IsL (x : List Int) : Prop := ∃ m, x.length = 6 * m ∧ 1 ≤ m ∧ m ≤ 4 ∧ Good m x
theorem letters_not {x : List Int} (h : ¬ IsL x) (hl : x.length ≤ 1048576) : p_spec_l10Letters x = some false ∧ p_impl_fromLetters x = some ([], false) := by
  by_cases hm : ∃ m, x.length = 6 * m ∧ 1 ≤ m ∧ m ≤ 4
  · obtain ⟨m, hx, h1, h4⟩ := hm
    have hg : ¬ Good m x := fun hg => h ⟨m, hx, h1, h4, hg⟩
    exact ⟨(letters_eq hx h1 h4).2 hg, (from_letters hx h1 h4).2 hg⟩
  · have hmod : ((x.length : Int).tmod 6) = ((x.length % 6 : Nat) : Int) := rfl
    have hdiv : IntKind.wrap .i64 ((x.length : Int).tdiv 6) = ((x.length / 6 : Nat) : Int) := by
      have : ((x.length : Int).tdiv 6) = ((x.length / 6 : Nat) : Int) := rfl
      rw [this, wrap_nat (by omega)]
    constructor
    · unfold p_spec_l10Letters
      rw [hmod, l1In_eq, if_pos]
      rw [Bool.or_eq_true, Bool.not_eq_true', Bool.not_eq_true', decide_eq_false_iff_not, decide_eq_false_iff_not]
      by_cases e : x.length % 6 = 0
      · right
        intro hh
        exact hm ⟨x.length / 6, by omega, by omega, by omega⟩
      · left; omega
    · unfold p_impl_fromLetters
      rw [hmod, hdiv, within_eq, if_pos]
      rw [Bool.or_eq_true, Bool.not_eq_true', Bool.not_eq_true', decide_eq_false_iff_not, decide_eq_false_iff_not]
      by_cases e : x.length % 6 = 0
      · right
        intro hh
        exact hm ⟨x.length / 6, by omega, by omega, by omega⟩
      · left; omega
theorem from_yes {x : List Int} {m : Nat} (hx : x.length = 6 * m) (h1 : 1 ≤ m) (h4 : m ≤ 4) (hg : Good m x) : p_impl_FromLetters x = some (poolAt m x x.length, true) ∧ p_spec_FromLetters x = some (poolAt m x x.length, true) := by
  unfold p_impl_FromLetters p_spec_FromLetters
  rw [(from_letters hx h1 h4).1 hg, (letters_eq hx h1 h4).1 hg, Option.bind_some, Option.bind_some, if_pos rfl, pool_letters hx h1 h4 hg]
  exact ⟨rfl, rfl⟩
theorem from_no {x : List Int} (h : ¬ IsL x) (hl : x.length ≤ 1048576) : p_impl_FromLetters x = some ([], false) ∧ p_spec_FromLetters x = some ([], false) := by
  obtain ⟨e1, e2⟩ := letters_not h hl
  unfold p_impl_FromLetters p_spec_FromLetters
  rw [e1, e2]
  exact ⟨rfl, rfl⟩
theorem rev_run (x : List Int) : ∀ (d i fu : Nat) (y : List Int), 2 * i + d = x.length → d < fu → y.length = x.length → (∀ k, y.getD k 0 = if k < i ∨ x.length - i ≤ k ∧ k < x.length then x.getD (x.length - 1 - k) 0 else x.getD k 0) →
    ∃ z, whl (fun (s1 : Int × Int × (List Int)) c3 => (if s1.1 < s1.2.1 then c3 ((s1.1 + 1), (s1.2.1 - 1), ((s1.2.2.set s1.1.toNat (s1.2.2.getD s1.2.1.toNat 0)).set s1.2.1.toNat (s1.2.2.getD s1.1.toNat 0))) else some s1.2.2)) fu ((i : Int), (x.length : Int) - 1 - (i : Int), y) = some z ∧ z.length = x.length ∧ ∀ k, k < x.length → z.getD k 0 = x.getD (x.length - 1 - k) 0 := by
  intro d
  induction d using Nat.strongRecOn with
  | _ d ih =>
    intro i fu y hd hf hy hk
    obtain ⟨f, rfl⟩ : ∃ f, fu = f + 1 := ⟨fu - 1, by omega⟩
    simp only [whl]
    by_cases hlt : (i : Int) < (x.length : Int) - 1 - (i : Int)
    · rw [if_pos hlt]
      have ej : ((x.length : Int) - 1 - (i : Int)).toNat = x.length - 1 - i := by omega
      have e2 : (x.length : Int) - 1 - (i : Int) - 1 = (x.length : Int) - 1 - ((i + 1 : Nat) : Int) := by omega
      rw [ej, Int.toNat_natCast, e2, show ((i : Int) + 1) = ((i + 1 : Nat) : Int) by omega]
      refine ih (d - 2) (by omega) (i + 1) f _ (by omega) (by omega) (by simp [hy]) (fun k => ?_)
      have hi := hk i
      have hj := hk (x.length - 1 - i)
      rw [if_neg (by omega)] at hi hj
      rw [List.getD_eq_getElem?_getD, List.getElem?_set]
      by_cases k1 : x.length - 1 - i = k
      · subst k1
        rw [if_pos rfl, if_pos (by rw [List.length_set]; omega), if_pos (by omega), show x.length - 1 - (x.length - 1 - i) = i by omega]
        exact hi
      · rw [if_neg k1, List.getElem?_set]
        by_cases k2 : i = k
        · subst k2
          rw [if_pos rfl, if_pos (by omega), if_pos (by omega)]
          exact hj
        · rw [if_neg k2, ← List.getD_eq_getElem?_getD, hk k]
          by_cases k3 : k < i ∨ x.length - i ≤ k ∧ k < x.length
          · rw [if_pos k3, if_pos (by omega)]
          · rw [if_neg k3, if_neg (by omega)]
    · rw [if_neg hlt]
      refine ⟨y, rfl, hy, fun k hkl => ?_⟩
      rw [hk k]
      by_cases k3 : k < i ∨ x.length - i ≤ k ∧ k < x.length
      · rw [if_pos k3]
      · rw [if_neg k3]
        congr 1
        omega
theorem list_rev {x z : List Int} (hl : z.length = x.length) (h : ∀ k, k < x.length → z.getD k 0 = x.getD (x.length - 1 - k) 0) : z = x.reverse := by
  apply List.ext_getElem
  · simp [hl]
  · intro k h1 h2
    have := h k (by omega)
    rw [List.getD_eq_getElem?_getD, List.getD_eq_getElem?_getD, List.getElem?_eq_getElem h1, List.getElem?_eq_getElem (by omega)] at this
    simpa [List.getElem_reverse] using this
theorem rev_impl (x : List Int) {fu : Nat} (hf : x.length < fu) : p_slices_Reverse_int_int fu x = some x.reverse := by
  unfold p_slices_Reverse_int_int
  obtain ⟨z, h1, h2, h3⟩ := rev_run x x.length 0 fu x (by omega) hf rfl (fun k => by
    by_cases hk : k < 0 ∨ x.length - 0 ≤ k ∧ k < x.length
    · omega
    · rw [if_neg hk])
  have e : (x.length : Int) - 1 - ((0 : Nat) : Int) = (x.length : Int) - 1 := by omega
  rw [e] at h1
  rw [← list_rev h2 h3]
  exact h1
theorem turn_run (x : List Int) (hl : x.length ≤ 1000) : ∀ (d fu : Nat) (out : List Int), d ≤ x.length → d < fu → out.length + d = x.length →
    whl (fun (s3 : Int × (List Int)) c5 => (if 0 ≤ s3.1 then if (s3.2.length : Int) + 1 ≤ 1000000000 then c5 ((s3.1 - 1), (s3.2 ++ [(x.getD s3.1.toNat 0)])) else none else some (s3.2, true))) fu ((d : Int) - 1, out) = some (out ++ (x.take d).reverse, true)
  | 0, fu, out, h, hf, ho => by
    obtain ⟨f, rfl⟩ : ∃ f, fu = f + 1 := ⟨fu - 1, by omega⟩
    simp only [whl]
    rw [if_neg (by omega)]
    simp
  | d + 1, fu, out, h, hf, ho => by
    obtain ⟨f, rfl⟩ : ∃ f, fu = f + 1 := ⟨fu - 1, by omega⟩
    simp only [whl]
    rw [if_pos (by omega), if_pos (by omega), show (((d + 1 : Nat) : Int) - 1).toNat = d by omega, show (((d + 1 : Nat) : Int) - 1 - 1) = (d : Int) - 1 by omega, turn_run x hl d f _ (by omega) (by omega) (by simp; omega)]
    rw [List.take_succ_eq_append_getElem (show d < x.length by omega)]
    have e : x.getD d 0 = x[d]'(by omega) := by rw [List.getD_eq_getElem?_getD, List.getElem?_eq_getElem (by omega)]; rfl
    rw [e, List.reverse_append, List.append_assoc]
    rfl
theorem clone_eq (x : List Int) (hl : x.length ≤ 1000) : p_slices_Clone_int_int x = some x := by
  unfold p_slices_Clone_int_int; rw [if_pos (by omega)]; rfl
theorem turn_yes {x : List Int} {m fu : Nat} (hx : x.length = 6 * m) (h1 : 1 ≤ m) (h4 : m ≤ 4) (hg : Good m x) (hf : 100 < fu) : p_impl_TurnLetters fu x = some (x.reverse, true) ∧ p_spec_TurnLetters fu x = some (x.reverse, true) := by
  unfold p_impl_TurnLetters p_spec_TurnLetters
  rw [(from_letters hx h1 h4).1 hg, (letters_eq hx h1 h4).1 hg, Option.bind_some, Option.bind_some, if_pos rfl, if_pos rfl, clone_eq x (by omega), Option.bind_some, rev_impl x (by omega)]
  refine ⟨rfl, ?_⟩
  rw [turn_run x (by omega) x.length fu [] (Nat.le_refl _) (by omega) (by simp)]
  simp
theorem turn_no {x : List Int} {fu : Nat} (h : ¬ IsL x) (hl : x.length ≤ 1048576) : p_impl_TurnLetters fu x = some ([], false) ∧ p_spec_TurnLetters fu x = some ([], false) := by
  obtain ⟨e1, e2⟩ := letters_not h hl
  unfold p_impl_TurnLetters p_spec_TurnLetters
  rw [e1, e2]
  exact ⟨rfl, rfl⟩
theorem lways_no {x : List Int} {fu : Nat} (h : ¬ IsL x) (hl : x.length ≤ 1048576) : p_impl_LettersWays fu x = some ([], false) ∧ p_spec_LettersWays fu x = some ([], false) := by
  obtain ⟨e1, e2⟩ := letters_not h hl
  unfold p_impl_LettersWays p_spec_LettersWays
  rw [e1, e2]
  exact ⟨rfl, rfl⟩
end Go.GA.E
