/- Plain laws of IsTavern, LastSum and NewTavern. -/
import Derived.Test.YtbfjbbfekodohaaAKa
namespace Go.GA
open Go
set_option maxRecDepth 100000
/-- what a tavern is in these texts -/
abbrev Tav : Type := (List (List Int)) × (Int × ((List Int) × (Int × (Int × (Int × Unit)))))
def Six (p : List (List Int)) : Prop := ∀ d ∈ p, d.length = 6
theorem getD_six {p : List (List Int)} (h : Six p) {i : Nat} (hi : i < p.length) : (p.getD i (List.replicate 6 0)).length = 6 := by
  rw [List.getD_eq_getElem?_getD, List.getElem?_eq_getElem hi]
  exact h _ (List.getElem_mem _)
/-! ### Pools -/
theorem pool_eq {x : List (List Int)} (h : Six x) : p_spec_l2Pool x = some (p_impl_IsPool x) := by
  have hall : p_impl_areAll_6_int x = x.all p_impl_IsDie := by
    unfold p_impl_areAll_6_int p_slices_ContainsFunc_6_int_6_int p_slices_IndexFunc_6_int_6_int
    rw [noneFunc p_impl_areAll_6_int_1]
    congr 1
    funext a
    simp [p_impl_areAll_6_int_1]
  unfold p_impl_IsPool
  rw [hall, within_In]
  unfold p_spec_l2Pool
  have key : ∀ (d i : Nat), d + i = x.length → cnt (fun i2 (s1 : Unit) c3 k16 => (if ((decide (i2 < (x.length : Int))) && (decide (i2 ≤ 4))) = true then (p_spec_l2Die (x.getD i2.toNat (List.replicate 6 0))).bind (fun r14 => (if r14 = true then c3 () else some false)) else k16 i2 s1)) (fun i2 (s1 : Unit) => some (p_spec_l1In (x.length : Int) 1 4)) d (i : Int) () = some (p_spec_l1In (x.length : Int) 1 4 && (x.drop i).all p_impl_IsDie) := by
    intro d
    induction d with
    | zero => intro i hh; rw [List.drop_eq_nil_of_le (by omega)]; simp [cnt]
    | succ d ih =>
      intro i hh
      have h1 : i < x.length := by omega
      simp only [cnt]
      rw [show (i : Int) + 1 = ((i + 1 : Nat) : Int) from rfl, ih (i + 1) (by omega), List.drop_eq_getElem_cons h1, List.all_cons]
      by_cases h12 : (i : Int) ≤ 4
      · have hc : (decide ((i : Int) < (x.length : Int)) && decide ((i : Int) ≤ 4)) = true := by simp; omega
        rw [if_pos hc, Int.toNat_natCast, l2Die_eq (getD_six h h1)]
        simp only [Option.bind_some, List.getD_eq_getElem?_getD, List.getElem?_eq_getElem h1, Option.getD_some]
        cases p_impl_IsDie x[i] <;> simp
      · have hc : ¬ (decide ((i : Int) < (x.length : Int)) && decide ((i : Int) ≤ 4)) = true := by simp; omega
        rw [if_neg hc]
        have : p_spec_l1In (x.length : Int) 1 4 = false := by rw [l1In_eq]; simp; omega
        simp [this]
  have := key x.length 0 (by omega)
  simp only [Int.sub_zero, Int.toNat_natCast]
  simpa using this
theorem pool_len {x : List (List Int)} (h : p_impl_IsPool x = true) : 1 ≤ x.length ∧ x.length ≤ 4 := by
  unfold p_impl_IsPool at h
  simp only [Bool.and_eq_true, within_eq, decide_eq_true_eq] at h
  omega
theorem l1Has_eq (x : List Int) (v : Int) : p_spec_l1Has x v = decide (v ∈ x) := by
  unfold p_spec_l1Has
  rw [cnt_list (fun a s c => if decide (a = v) = true then true else c ()) x 0 (by omega) (fun i s c h0 h1 => by simp)]
  have key : ∀ (l : List Int), lrun (fun a (s : Unit) (c : Unit → Bool) => if decide (a = v) = true then true else c ()) (fun _ => false) l () = decide (v ∈ l) := by
    intro l
    induction l with
    | nil => rfl
    | cons a l ih =>
      simp only [lrun]
      rw [ih]
      by_cases e : a = v
      · simp [e]
      · have e' : ¬ v = a := fun h => e h.symm
        simp [e, e']
  exact key x
/-! ### The last roll -/
/-- the faces stand on the dice -/
def lastOK : List (List Int) → List Int → Bool
  | _, [] => true
  | [], _ :: _ => false
  | d :: p, v :: l => decide (v ∈ d) && lastOK p l
def lastOf (p : List (List Int)) (l : List Int) : Bool := l.isEmpty || (lastOK p l && decide (l.length = p.length))
theorem last_spec (p : List (List Int)) (l : List Int) : p_spec_l12Last p l = lastOf p l := by
  unfold p_spec_l12Last lastOf
  cases l with
  | nil => rfl
  | cons v0 l0 =>
    rw [if_neg (by simp only [List.length_cons]; omega)]
    generalize hl : v0 :: l0 = l
    have hne : l.isEmpty = false := by subst hl; rfl
    rw [hne, Bool.false_or]
    have key : ∀ (d i : Nat), d + i = l.length → (i ≤ p.length) → cnt (fun i5 (s4 : Unit) c6 k22 => (if ((decide (i5 < (l.length : Int))) && (decide (i5 < (p.length : Int)))) = true then (if (p_spec_l1Has (p.getD i5.toNat (List.replicate 6 0)) (l.getD i5.toNat 0)) = true then c6 () else false) else k22 i5 s4)) (fun i5 (s4 : Unit) => (decide ((l.length : Int) = (p.length : Int)))) d (i : Int) () = (lastOK (p.drop i) (l.drop i) && decide (l.length = p.length)) := by
      intro d
      induction d with
      | zero =>
        intro i hh hi
        rw [List.drop_eq_nil_of_le (by omega : l.length ≤ i)]
        simp only [cnt, lastOK, Bool.true_and]
        by_cases e : l.length = p.length
        · rw [decide_eq_true e, decide_eq_true (by omega)]
        · rw [decide_eq_false e, decide_eq_false (by omega)]
      | succ d ih =>
        intro i hh hi
        have h1 : i < l.length := by omega
        simp only [cnt]
        by_cases h2 : i < p.length
        · have hc : (decide ((i : Int) < (l.length : Int)) && decide ((i : Int) < (p.length : Int))) = true := by simp; omega
          rw [if_pos hc, show (i : Int) + 1 = ((i + 1 : Nat) : Int) from rfl, ih (i + 1) (by omega) (by omega), Int.toNat_natCast, l1Has_eq, List.drop_eq_getElem_cons h1, List.drop_eq_getElem_cons h2]
          simp only [List.getD_eq_getElem?_getD, List.getElem?_eq_getElem h1, List.getElem?_eq_getElem h2, Option.getD_some, lastOK]
          by_cases hm : l[i] ∈ p[i]
          · simp [hm]
          · simp [hm]
        · have hc : ¬ (decide ((i : Int) < (l.length : Int)) && decide ((i : Int) < (p.length : Int))) = true := by simp; omega
          rw [if_neg hc, List.drop_eq_nil_of_le (by omega : p.length ≤ i), List.drop_eq_getElem_cons h1]
          have : ¬ l.length = p.length := by omega
          simp [this]; omega
    have := key l.length 0 (by omega) (by omega)
    simp only [Int.sub_zero, Int.toNat_natCast]
    simpa using this
theorem last_run (p : List (List Int)) (l : List Int) (hl : l.length ≤ 1048576) : ∀ (d i fu : Nat), d + i = l.length → i ≤ p.length → d < fu →
    whl (fun (s4 : Int) c6 => (if s4 < (l.length : Int) then if 0 ≤ s4 then (if ((decide ((p.length : Int) ≤ s4)) || (!(p_impl_has (p.getD s4.toNat (List.replicate 6 0)) (l.getD s4.toNat 0)))) = true then some false else c6 (IntKind.wrap .i64 (s4 + 1))) else none else some (decide ((l.length : Int) = (p.length : Int))))) fu (i : Int) = some (lastOK (p.drop i) (l.drop i) && decide (l.length = p.length))
  | 0, i, fu, h, hi, hf => by
    obtain ⟨f, rfl⟩ : ∃ f, fu = f + 1 := ⟨fu - 1, by omega⟩
    simp only [whl]
    rw [if_neg (by omega), List.drop_eq_nil_of_le (by omega : l.length ≤ i)]
    simp only [lastOK, Bool.true_and]
    by_cases e : l.length = p.length
    · rw [decide_eq_true e, decide_eq_true (by omega)]
    · rw [decide_eq_false e, decide_eq_false (by omega)]
  | d + 1, i, fu, h, hi, hf => by
    obtain ⟨f, rfl⟩ : ∃ f, fu = f + 1 := ⟨fu - 1, by omega⟩
    have h1 : i < l.length := by omega
    simp only [whl]
    rw [if_pos (by omega), if_pos (by omega), Int.toNat_natCast, has_eq]
    by_cases h2 : i < p.length
    · have e1 : p.getD i (List.replicate 6 0) = p[i] := by simp [List.getD_eq_getElem?_getD, List.getElem?_eq_getElem h2]
      have e2 : l.getD i 0 = l[i] := by simp [List.getD_eq_getElem?_getD, List.getElem?_eq_getElem h1]
      rw [decide_eq_false (by omega : ¬ (p.length : Int) ≤ (i : Int)), Bool.false_or, List.drop_eq_getElem_cons h1, List.drop_eq_getElem_cons h2, e1, e2]
      simp only [lastOK]
      by_cases hm : l[i] ∈ p[i]
      · rw [decide_eq_true hm, if_neg (by simp), wrap_i64 (by omega) (by omega), show (i : Int) + 1 = ((i + 1 : Nat) : Int) from rfl, last_run p l hl d (i + 1) f (by omega) (by omega) (by omega), Bool.true_and]
      · rw [decide_eq_false hm, if_pos (by simp), Bool.false_and, Bool.false_and]
    · rw [decide_eq_true (by omega : (p.length : Int) ≤ (i : Int)), if_pos (by simp), List.drop_eq_nil_of_le (by omega : p.length ≤ i), List.drop_eq_getElem_cons h1]
      rfl
theorem last_impl {fu : Nat} (x : Tav) (hl : x.2.2.1.length ≤ 1048576) (hf : 10000000 ≤ fu) : p_impl_Tavern_isLast fu x = some (lastOf x.1 x.2.2.1) := by
  obtain ⟨p, a, l, r⟩ := x
  unfold p_impl_Tavern_isLast lastOf
  simp only at hl ⊢
  by_cases h : l = []
  · subst h; rfl
  · have hne : ¬ (l.length : Int) = 0 := by
      intro e; exact h (List.eq_nil_of_length_eq_zero (by omega))
    have hne2 : l.isEmpty = false := by simpa using h
    rw [if_neg hne, hne2, Bool.false_or]
    exact last_run p l hl l.length 0 fu (by omega) (by omega) (by omega)
def tavOK (x : Tav) : Bool := p_impl_IsPool x.1 && decide (0 ≤ x.2.1 ∧ x.2.1 ≤ 65535) && lastOf x.1 x.2.2.1 && decide (0 ≤ x.2.2.2.1 ∧ x.2.2.2.1 ≤ 100000) && decide (0 ≤ x.2.2.2.2.1 ∧ x.2.2.2.2.1 ≤ 120) && decide (0 ≤ x.2.2.2.2.2.1 ∧ x.2.2.2.2.2.1 ≤ 1000)
theorem good_eq {x : Tav} (h : Six x.1) : p_spec_l12Good x = some (tavOK x) := by
  unfold p_spec_l12Good tavOK
  rw [pool_eq h, last_spec]
  simp only [Option.bind_some, l1In_eq]
theorem isTavern_eq {fu : Nat} {x : Tav} (hl : x.2.2.1.length ≤ 1048576) (hf : 10000000 ≤ fu) : p_impl_IsTavern fu x = some (tavOK x) := by
  unfold p_impl_IsTavern tavOK
  have e : p_impl_Tavern_isLast fu (x.1, (x.2.1, (x.2.2.1, (x.2.2.2.1, (x.2.2.2.2.1, (x.2.2.2.2.2.1, ())))))) = some (lastOf x.1 x.2.2.1) := last_impl x hl hf
  rw [e]
  simp only [Option.isSome_some, implies_true, if_true, Option.getD_some, within_eq]
  congr 1
  generalize p_impl_IsPool x.1 = a
  generalize decide (0 ≤ x.2.1 ∧ x.2.1 ≤ 65535) = b
  generalize lastOf x.1 x.2.2.1 = c
  generalize decide (0 ≤ x.2.2.2.1 ∧ x.2.2.2.1 ≤ 100000) = d
  generalize decide (0 ≤ x.2.2.2.2.1 ∧ x.2.2.2.2.1 ≤ 120) = e
  generalize decide (0 ≤ x.2.2.2.2.2.1 ∧ x.2.2.2.2.2.1 ≤ 1000) = f
  cases a <;> cases b <;> cases c <;> cases d <;> cases e <;> cases f <;> rfl
end Go.GA
