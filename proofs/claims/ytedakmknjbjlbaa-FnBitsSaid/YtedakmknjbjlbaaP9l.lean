/- Plain law of FnBits: even coins. -/
import Derived.Test.YtedakmknjbjlbaaP9k
namespace Go.GA
open Go
set_option maxRecDepth 100000
def evA (k : Int) : List Int → List Int
  | a :: b :: t => (if (decide (a < k) == decide (b < k)) = true then [] else [p_impl_truth (decide (a < k))]) ++ evA k t
  | _ => []
def evR (k : Int) : List Int → Nat
  | a :: b :: t => (if (decide (a < k) == decide (b < k)) = true then 1 else 0) + evR k t
  | _ => 0
def swp : List Int → List Int
  | a :: b :: t => b :: a :: swp t
  | _ => []
theorem ev_count (k : Int) : ∀ l : List Int, (evA k l).length + evR k l = l.length / 2
  | [] => by simp [evA, evR]
  | [_] => by simp [evA, evR]
  | a :: b :: t => by
    have := ev_count k t
    simp only [evA, evR, List.length_append, List.length_cons]
    split <;> simp <;> omega
theorem ev_swp (k : Int) : ∀ l : List Int, evA k (swp l) = (evA k l).map (fun x => 1 - x)
  | [] => rfl
  | [_] => rfl
  | a :: b :: t => by
    have := ev_swp k t
    simp only [evA, swp, this, List.map_append]
    congr 1
    cases decide (a < k) <;> cases decide (b < k) <;> rfl
theorem swp_len : ∀ l : List Int, (swp l).length ≤ l.length
  | [] => Nat.le_refl _
  | [_] => by simp [swp]
  | a :: b :: t => by have := swp_len t; simp [swp]; omega
theorem swp_mem : ∀ {l : List Int} {v : Int}, v ∈ swp l → v ∈ l
  | [], v, h => h
  | [_], v, h => by simp [swp] at h
  | a :: b :: t, v, h => by
    simp only [swp, List.mem_cons] at h ⊢
    rcases h with h | h | h
    · exact .inr (.inl h)
    · exact .inl h
    · exact .inr (.inr (swp_mem h))
theorem drop_two {l : List Int} {i : Nat} (h : i + 1 < l.length) : l.drop i = l.getD i 0 :: l.getD (i + 1) 0 :: l.drop (i + 2) := by
  rw [List.drop_eq_getElem_cons (by omega), List.drop_eq_getElem_cons (i := i + 1) (by omega)]
  simp [List.getD_eq_getElem?_getD, List.getElem?_eq_getElem, h, show i < l.length by omega]
def bodyEI (l : List Int) (k : Int) : (Int × Int × List Int) → ((Int × Int × List Int) → Option (List Int × Int × Bool)) → Option (List Int × Int × Bool) := (fun (s18 : Int × Int × (List Int)) c20 => (if (IntKind.wrap .i64 (s18.2.1 + 1)) < (l.length : Int) then if s18.2.1 < (l.length : Int) then if (s18.2.1 + 1) < (l.length : Int) then (if ((decide ((l.getD s18.2.1.toNat 0) < k)) == (decide ((l.getD (s18.2.1 + 1).toNat 0) < k))) = true then c20 ((IntKind.wrap .i64 (s18.1 + 1)), (s18.2.1 + 2), s18.2.2) else if (s18.2.2.length : Int) + 1 ≤ 1000000000 then c20 (s18.1, (s18.2.1 + 2), (s18.2.2 ++ [(p_impl_truth (decide ((l.getD s18.2.1.toNat 0) < k)))])) else none) else none else none else some (s18.2.2, s18.1, true)))
def bodyES (l : List Int) (k : Int) : (Int × Int × List Int) → ((Int × Int × List Int) → Option (List Int × Int × Bool)) → Option (List Int × Int × Bool) := (fun (s7 : Int × Int × (List Int)) c9 => (if (IntKind.wrap .i64 (s7.2.1 + 2)) ≤ (l.length : Int) then if s7.2.1 < (l.length : Int) then if (s7.2.1 + 1) < (l.length : Int) then (if ((decide ((l.getD s7.2.1.toNat 0) < k)) && (!(decide ((l.getD (s7.2.1 + 1).toNat 0) < k)))) = true then if (s7.2.2.length : Int) + 1 ≤ 1000000000 then c9 (s7.1, (s7.2.1 + 2), (s7.2.2 ++ [1])) else none else (if ((decide ((l.getD (s7.2.1 + 1).toNat 0) < k)) && (!(decide ((l.getD s7.2.1.toNat 0) < k)))) = true then if (s7.2.2.length : Int) + 1 ≤ 1000000000 then c9 (s7.1, (s7.2.1 + 2), (s7.2.2 ++ [0])) else none else c9 ((IntKind.wrap .i64 (s7.1 + 1)), (s7.2.1 + 2), s7.2.2))) else none else none else some (s7.2.2, s7.1, true)))
theorem ev_short {k : Int} {l : List Int} {i : Nat} (h : ¬ i + 1 < l.length) : evA k (l.drop i) = [] ∧ evR k (l.drop i) = 0 := by
  have hl : (l.drop i).length ≤ 1 := by rw [List.length_drop]; omega
  cases hd : l.drop i with
  | nil => exact ⟨rfl, rfl⟩
  | cons a t =>
    cases t with
    | nil => exact ⟨rfl, rfl⟩
    | cons b t => rw [hd] at hl; simp at hl
theorem ev_run {l : List Int} {k : Int} (hl : l.length ≤ 41) : ∀ (d i : Nat) (rej : Int) (acc : List Int), i ≤ l.length + 1 → l.length + 1 - i < d → 0 ≤ rej → rej ≤ i → acc.length ≤ i →
    whl (bodyEI l k) d (rej, (i : Int), acc) = some (acc ++ evA k (l.drop i), rej + (evR k (l.drop i) : Int), true) ∧ whl (bodyES l k) d (rej, (i : Int), acc) = some (acc ++ evA k (l.drop i), rej + (evR k (l.drop i) : Int), true)
  | 0, i, _, _, _, h, _, _, _ => by omega
  | d + 1, i, rej, acc, h1, h2, h3, h4, h5 => by
    have s1 : whl (bodyEI l k) (d + 1) (rej, (i : Int), acc) = bodyEI l k (rej, (i : Int), acc) (whl (bodyEI l k) d) := rfl
    have s2 : whl (bodyES l k) (d + 1) (rej, (i : Int), acc) = bodyES l k (rej, (i : Int), acc) (whl (bodyES l k) d) := rfl
    have ih := ev_run (k := k) hl d
    rw [s1, s2]
    generalize whl (bodyEI l k) d = W1 at ih
    generalize whl (bodyES l k) d = W2 at ih
    unfold bodyEI bodyES
    simp only
    have e1 : IntKind.wrap .i64 ((i : Int) + 1) = (i : Int) + 1 := wr (by omega) (by omega)
    have e2 : IntKind.wrap .i64 ((i : Int) + 2) = (i : Int) + 2 := wr (by omega) (by omega)
    have e3 : IntKind.wrap .i64 (rej + 1) = rej + 1 := wr (by omega) (by omega)
    rw [e1, e2, e3]
    by_cases hf : i + 1 < l.length
    · have t0 : ((i : Int)).toNat = i := by omega
      have t1 : ((i : Int) + 1).toNat = i + 1 := by omega
      have c1 : (i : Int) + 1 < (l.length : Int) := by omega
      have c2 : (i : Int) < (l.length : Int) := by omega
      have c3 : (i : Int) + 2 ≤ (l.length : Int) := by omega
      have hac : (acc.length : Int) + 1 ≤ 1000000000 := by omega
      have ec : ((i : Int) + 2) = ((i + 2 : Nat) : Int) := by omega
      simp only [if_pos c1, if_pos c2, if_pos c3, if_pos hac, t0, t1]
      rw [drop_two hf]
      simp only [evA, evR]
      generalize l.getD i 0 = x
      generalize l.getD (i + 1) 0 = y
      rw [ec]
      by_cases ha : x < k <;> by_cases hb : y < k
      · obtain ⟨i1, i2⟩ := ih (i + 2) (rej + 1) acc (by omega) (by omega) (by omega) (by omega) (by omega)
        simp only [ha, hb, decide_true, decide_false, Bool.not_true, Bool.not_false, Bool.and_true, Bool.and_false, Bool.and_self, beq_self_eq_true, if_true, Bool.false_eq_true, if_false, List.nil_append]
        rw [i1, i2]
        simp; omega
      · obtain ⟨i1, i2⟩ := ih (i + 2) rej (acc ++ [1]) (by omega) (by omega) (by omega) (by omega) (by simp; omega)
        have hne : (true == false) = false := rfl
        simp only [ha, hb, decide_true, decide_false, Bool.not_true, Bool.not_false, Bool.and_true, Bool.and_false, Bool.and_self, hne, if_true, Bool.false_eq_true, if_false]
        have ht : p_impl_truth true = 1 := rfl
        rw [ht, i1, i2]
        simp
      · obtain ⟨i1, i2⟩ := ih (i + 2) rej (acc ++ [0]) (by omega) (by omega) (by omega) (by omega) (by simp; omega)
        have hne : (false == true) = false := rfl
        simp only [ha, hb, decide_true, decide_false, Bool.not_true, Bool.not_false, Bool.and_true, Bool.and_false, Bool.and_self, hne, if_true, Bool.false_eq_true, if_false]
        have ht : p_impl_truth false = 0 := rfl
        rw [ht, i1, i2]
        simp
      · obtain ⟨i1, i2⟩ := ih (i + 2) (rej + 1) acc (by omega) (by omega) (by omega) (by omega) (by omega)
        simp only [ha, hb, decide_true, decide_false, Bool.not_true, Bool.not_false, Bool.and_true, Bool.and_false, Bool.and_self, beq_self_eq_true, if_true, Bool.false_eq_true, if_false, List.nil_append]
        rw [i1, i2]
        simp; omega
    · obtain ⟨z1, z2⟩ := ev_short (k := k) hf
      rw [z1, z2, if_neg (by omega), if_neg (by omega)]
      simp
end Go.GA
