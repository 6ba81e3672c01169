/- Plain law of FnSumsOfDice: what the functions return. -/
import Derived.Test.YtheplbbbfbbjcaaSK6
namespace Go.GA
open Go
set_option maxRecDepth 100000
theorem sum_lrun {R : Type} (k : Int → R) : ∀ (l : List Int) (s : Int), (∀ a ∈ l, 0 ≤ a) → 0 ≤ s → s + l.sum ≤ 1000000000 → lrun (fun a s c => c (IntKind.wrap .i64 (s + a))) k l s = k (s + l.sum)
  | [], s, _, _, _ => by simp [lrun]
  | a :: l, s, h, h0, hb => by
    have ha := h a (by simp)
    rw [List.sum_cons] at hb ⊢
    have hl : 0 ≤ l.sum := by
      refine sum_nn (fun j => ?_)
      rw [List.getD_eq_getElem?_getD]
      cases hj : l[j]? with
      | none => simp
      | some b => exact h b (by simp [List.mem_of_getElem? hj])
    show lrun _ k l (IntKind.wrap .i64 (s + a)) = _
    rw [wr (by omega) (by omega), sum_lrun k l (s + a) (fun b hb => h b (by simp [hb])) (by omega) (by omega)]
    congr 1; omega
theorem sq_lrun {R : Type} (k : Int → R) : ∀ (l : List Int) (s : Int), (∀ a ∈ l, 0 ≤ a ∧ a ≤ 30) → 0 ≤ s → s + 900 * l.length ≤ 1000000000 → lrun (fun a s c => c (IntKind.wrap .i64 (s + IntKind.wrap .i64 (a * a)))) k l s = k (s + sq l)
  | [], s, _, _, _ => by simp [lrun, sq]
  | a :: l, s, h, h0, hb => by
    have ha := h a (by simp)
    have e : sq (a :: l) = a * a + sq l := by simp [sq]
    have h1 : 0 ≤ a * a := Int.mul_nonneg ha.1 ha.1
    have h2 : a * a ≤ 30 * 30 := Int.mul_le_mul ha.2 ha.2 ha.1 (by omega)
    rw [List.length_cons] at hb
    show lrun _ k l (IntKind.wrap .i64 (s + IntKind.wrap .i64 (a * a))) = _
    rw [wr (n := a * a) (by omega) (by omega), wr (by omega) (by omega), sq_lrun k l (s + a * a) (fun b hb => h b (by simp [hb])) (by omega) (by omega), e]
    congr 1; omega
theorem nn_mem {T : List Int} (h : NN T) : ∀ a ∈ T, 0 ≤ a := fun a ha => by
  obtain ⟨i, hi, rfl⟩ := List.mem_iff_getElem.1 ha
  have := h i
  rw [List.getD_eq_getElem?_getD, List.getElem?_eq_getElem hi] at this
  exact this
theorem total_eq {l : List Int} (h : ∀ a ∈ l, 0 ≤ a) (hb : l.sum ≤ 1000000000) : p_impl_total l = l.sum := by
  unfold p_impl_total
  rw [cnt_list (fun (a : Int) (s : Int) (c : Int → Int) => c (IntKind.wrap .i64 (s + a))) l 0 (by omega) (fun _ _ _ _ _ => rfl)]
  have := sum_lrun (R := Int) (fun s => s) l 0 h (by omega) (by omega)
  rw [Int.zero_add] at this
  exact this
/-- a loop over dice -/
theorem dice_lrun {S R : Type} {F : List Int → S → (S → R) → R} {G : S → List Int → S} (I : S → Nat → Prop) (k : S → R) (hF : ∀ d s c n, Die6 d → n ≤ 4 → I s n → F d s c = c (G s d) ∧ I (G s d) (n + 1)) : ∀ (x : List (List Int)) (s : S) (n : Nat), (∀ d ∈ x, Die6 d) → n + x.length ≤ 4 → I s n → lrun F k x s = k (x.foldl G s) ∧ I (x.foldl G s) (n + x.length)
  | [], s, n, _, _, hi => ⟨rfl, hi⟩
  | d :: x, s, n, hx, hn, hi => by
    simp only [List.length_cons] at hn ⊢
    obtain ⟨e, hi'⟩ := hF d s (fun s' => lrun F k x s') n (hx d (by simp)) (by omega) hi
    obtain ⟨e2, hi2⟩ := dice_lrun I k hF x (G s d) (n + 1) (fun q hq => hx q (by simp [hq])) (by omega) hi'
    refine ⟨?_, by rw [show n + (x.length + 1) = n + 1 + x.length by omega]; exact hi2⟩
    show F d s (fun s' => lrun F k x s') = _
    rw [e, e2]; rfl
section
variable {x : List (List Int)} (h6 : Six x) (hp : p_impl_IsPool x = true)
include h6 hp
theorem tab_facts : p_impl_sums x = some (tabOf x) ∧ p_spec_l2Table x = some (tabOf x) ∧ Tab x.length (tabOf x) ∧ TM (tabOf x) (x.foldl fA 0) (x.foldl fV 0) (x.foldl fLo 0) (x.foldl fHi 0) := by
  obtain ⟨h1, h2, h3⟩ := pool_good h6 hp
  obtain ⟨_, _, h4⟩ := pool_six h6 hp
  obtain ⟨a, b, c⟩ := table_is h2 h3
  exact ⟨a, b, c, tm_pool h2 h4⟩
theorem n_le : 6 ^ x.length ≤ 1296 ∧ 0 < 6 ^ x.length := by
  obtain ⟨h1, h2, h3⟩ := pool_good h6 hp
  have hp6 : 6 ^ x.length ≤ 6 ^ 4 := Nat.pow_le_pow_right (by omega) h2
  have e6 : (6 : Nat) ^ 4 = 1296 := rfl
  exact ⟨by omega, Nat.pow_pos (by omega)⟩
theorem sumTable_eq : p_impl_SumTable x = some (tabOf x, true) ∧ p_spec_SumTable x = some (tabOf x, true) := by
  obtain ⟨a, b, c, _⟩ := tab_facts h6 hp
  constructor
  · unfold p_impl_SumTable
    rw [if_pos hp, a, Option.bind_some]
  · unfold p_spec_SumTable
    rw [pool_eq h6, Option.bind_some, if_pos hp, b, Option.bind_some]
theorem ent_le (i : Nat) : 0 ≤ (tabOf x).getD i 0 ∧ (tabOf x).getD i 0 ≤ 1296 := by
  obtain ⟨a, b, c, _⟩ := tab_facts h6 hp
  have h1 := n_le h6 hp
  have h2 := getD_le_sum c.nn i
  rw [c.sum] at h2
  exact ⟨c.nn i, by omega⟩
theorem tail_le (i : Nat) : 0 ≤ tailS (tabOf x) i ∧ tailS (tabOf x) i ≤ 1296 := by
  obtain ⟨a, b, c, _⟩ := tab_facts h6 hp
  have h1 := n_le h6 hp
  have h2 := tailS_le c.nn i
  rw [c.sum] at h2
  exact ⟨tailS_nn c.nn i, by omega⟩
theorem chance_eq {fu : Nat} (hf : 2000 < fu) {n : Int} (h0 : 0 ≤ n) (h1 : n ≤ 120) : p_impl_ChanceOfSum fu x n = some (cutF ((tabOf x).getD n.toNat 0).toNat (6 ^ x.length), true) ∧ p_spec_ChanceOfSum fu x n = some (cutF ((tabOf x).getD n.toNat 0).toNat (6 ^ x.length), true) := by
  obtain ⟨a, b, c, _⟩ := tab_facts h6 hp
  obtain ⟨_, hm, _⟩ := pool_good h6 hp
  have hn := n_le h6 hp
  have he := ent_le h6 hp n.toNat
  have en : (((tabOf x).getD n.toNat 0).toNat : Int) = (tabOf x).getD n.toNat 0 := by omega
  constructor
  · unfold p_impl_ChanceOfSum
    rw [if_neg (by simp [hp, pwithin_eq]; omega), a, Option.bind_some, if_pos h0, if_pos (by omega), power_eq (by omega) (by omega), Option.bind_some]
    have := fraction_eq (fu := fu) ((tabOf x).getD n.toNat 0).toNat (6 ^ x.length) (by omega) (by omega) (by omega) (by omega)
    rw [en] at this
    rw [this, Option.bind_some]
  · unfold p_spec_ChanceOfSum p_spec_l2Sum
    rw [pool_eq h6, Option.bind_some, Option.bind_some, if_pos (by simp [hp, pl1In_eq]; omega), b, Option.bind_some, if_pos h0, if_pos (by omega), all_eq (by omega) (by omega), Option.bind_some]
    have := cut_eq (fu := fu) ((tabOf x).getD n.toNat 0).toNat (6 ^ x.length) (by omega) (by omega) (by omega) (by omega)
    rw [en] at this
    rw [this, Option.bind_some]
theorem least_eq {fu : Nat} (hf : 2000 < fu) {n : Int} (h0 : 0 ≤ n) (h1 : n ≤ 120) : p_impl_ChanceAtLeast fu x n = some (cutF (tailS (tabOf x) n.toNat).toNat (6 ^ x.length), true) ∧ p_spec_ChanceAtLeast fu x n = some (cutF (tailS (tabOf x) n.toNat).toNat (6 ^ x.length), true) := by
  obtain ⟨a, b, c, _⟩ := tab_facts h6 hp
  obtain ⟨_, hm, _⟩ := pool_good h6 hp
  have hn := n_le h6 hp
  have he := tail_le h6 hp n.toNat
  have en : ((tailS (tabOf x) n.toNat).toNat : Int) = tailS (tabOf x) n.toNat := by omega
  constructor
  · unfold p_impl_ChanceAtLeast
    rw [if_neg (by simp [hp, pwithin_eq]; omega), a, Option.bind_some, if_pos h0, if_pos (by omega), power_eq (by omega) (by omega), Option.bind_some]
    have hd : ((tabOf x).drop n.toNat).take (121 - n).toNat = (tabOf x).drop n.toNat := List.take_of_length_le (by rw [List.length_drop, c.len]; omega)
    rw [hd, total_eq (fun a ha => nn_mem c.nn a (List.mem_of_mem_drop ha)) (by have := he.2; unfold tailS at this; omega)]
    have := fraction_eq (fu := fu) (tailS (tabOf x) n.toNat).toNat (6 ^ x.length) (by omega) (by omega) (by omega) (by omega)
    rw [en] at this
    unfold tailS at this
    rw [this, Option.bind_some]
    rfl
  · unfold p_spec_ChanceAtLeast p_spec_l2Sum
    rw [pool_eq h6, Option.bind_some, Option.bind_some, if_pos (by simp [hp, pl1In_eq]; omega), b, Option.bind_some]
    have en0 : n = ((n.toNat : Nat) : Int) := by omega
    have key := cnt_ind (S := Int) (f := fun i5 (s4 : Int) (c6 : Int → Option (List Int × Bool)) _ => if 0 ≤ i5 then c6 (IntKind.wrap .i64 (s4 + ((tabOf x).getD i5.toNat 0))) else none) (k := fun i5 (s4 : Int) => (p_spec_l2All fu (x.length : Int)).bind (fun r12 => (p_spec_l2Cut fu s4 r12).bind (fun r13 => some (r13, true)))) 121 (fun i s => 0 ≤ s ∧ s + tailS (tabOf x) i = tailS (tabOf x) n.toNat) (fun r => r = some (cutF (tailS (tabOf x) n.toNat).toNat (6 ^ x.length), true)) (fun s hs => ?_) (fun i s c' hi hs hc => ?_) (Int.toNat (121 - n)) n.toNat 0 (by omega) ⟨by omega, by omega⟩
    · rw [← en0] at key
      exact key
    · rw [tailS_end (by rw [c.len]; exact Nat.le_refl _)] at hs
      have e1 : s = tailS (tabOf x) n.toNat := by omega
      rw [all_eq (by omega) (by omega), Option.bind_some]
      have := cut_eq (fu := fu) (tailS (tabOf x) n.toNat).toNat (6 ^ x.length) (by omega) (by omega) (by omega) (by omega)
      rw [en] at this
      rw [e1, this, Option.bind_some]
    · rw [tailS_step (by rw [c.len]; exact hi)] at hs
      have h3 := c.nn i
      have h4 := tailS_nn c.nn (i + 1)
      simp only [Int.toNat_natCast]
      rw [if_pos (by omega), wr (by omega) (by omega)]
      exact hc _ ⟨by omega, by omega⟩
theorem fold_le {G : Int → List Int → Int} {B : Int} (hG : ∀ s d, Die6 d → s ≤ G s d ∧ G s d ≤ s + B) (hB : 0 ≤ B) : 0 ≤ x.foldl G 0 ∧ x.foldl G 0 ≤ 4 * B := by
  obtain ⟨_, hm, hd⟩ := pool_six h6 hp
  have key : ∀ (l : List (List Int)) (s : Int), (∀ d ∈ l, Die6 d) → s ≤ l.foldl G s ∧ l.foldl G s ≤ s + l.length * B := by
    intro l
    induction l with
    | nil => intro s _; simp
    | cons d l ih =>
      intro s h
      have h1 := hG s d (h d (by simp))
      have h2 := ih (G s d) (fun q hq => h q (by simp [hq]))
      rw [List.foldl_cons, List.length_cons]
      have e : ((l.length + 1 : Nat) : Int) * B = l.length * B + B := by grind
      omega
  have := key x 0 hd
  have hl : (x.length : Int) * B ≤ 4 * B := Int.mul_le_mul_of_nonneg_right (by omega) hB
  omega
theorem mean_eq {fu : Nat} (hf : 2000 < fu) : p_impl_MeanOf fu x = some (cutF (x.foldl fA 0).toNat 6, true) ∧ p_spec_MeanOf fu x = some (cutF (x.foldl fA 0).toNat 6, true) := by
  obtain ⟨_, hm, hd⟩ := pool_six h6 hp
  have hb := fold_le h6 hp (G := fA) (B := 180) (fun s d h => by have := h.sum; unfold fA; omega) (by omega)
  have en : ((x.foldl fA 0).toNat : Int) = x.foldl fA 0 := by omega
  constructor
  · unfold p_impl_MeanOf
    rw [if_pos hp]
    rw [cnt_list (fun (d : List Int) (s : Int) (c : Int → Option (List Int × Bool)) => c (IntKind.wrap .i64 (s + p_impl_total d))) x (List.replicate 6 0) (by omega) (fun _ _ _ _ _ => rfl)]
    rw [(dice_lrun (G := fA) (fun s n => 0 ≤ s ∧ s ≤ 180 * n) (fun s => (p_impl_fraction fu s 6).bind (fun r9 => some (r9, true))) (fun d s c n h hn hi => by
      have h1 := h.sum
      rw [total_eq (fun a ha => (h.face a ha).1) (by omega), wr (by omega) (by omega)]
      exact ⟨rfl, by unfold fA; omega, by unfold fA; omega⟩) x 0 0 hd (by omega) ⟨by omega, by omega⟩).1]
    have := fraction_eq (fu := fu) (x.foldl fA 0).toNat 6 (by omega) (by omega) (by omega) (by omega)
    rw [en] at this
    have this' : p_impl_fraction fu (x.foldl fA 0) 6 = some (cutF (x.foldl fA 0).toNat 6) := this
    rw [this', Option.bind_some]
  · unfold p_spec_MeanOf
    rw [pool_eq h6, Option.bind_some, if_pos hp]
    rw [cnt_list (fun (d : List Int) (s : Int) (c : Int → Option (List Int × Bool)) => cnt (fun i11 (s10 : Int) c12 _ => c12 (IntKind.wrap .i64 (s10 + (d.getD i11.toNat 0)))) (fun i11 (s10 : Int) => c s10) (Int.toNat (6 - 0)) 0 s) x (List.replicate 6 0) (by omega) (fun _ _ _ _ _ => rfl)]
    rw [(dice_lrun (G := fA) (fun s n => 0 ≤ s ∧ s ≤ 180 * n) (fun s => (p_spec_l2Cut fu s 6).bind (fun r17 => some (r17, true))) (fun d s c n h hn hi => by
      have h1 := h.sum
      rw [cnt_list (fun (a : Int) (s : Int) (c : Int → Option (List Int × Bool)) => c (IntKind.wrap .i64 (s + a))) d 0 (by rw [h.len]; rfl) (fun _ _ _ _ _ => rfl)]
      rw [sum_lrun c d s (fun a ha => (h.face a ha).1) hi.1 (by omega)]
      exact ⟨rfl, by unfold fA; omega, by unfold fA; omega⟩) x 0 0 hd (by omega) ⟨by omega, by omega⟩).1]
    have := cut_eq (fu := fu) (x.foldl fA 0).toNat 6 (by omega) (by omega) (by omega) (by omega)
    rw [en] at this
    have this' : p_spec_l2Cut fu (x.foldl fA 0) 6 = some (cutF (x.foldl fA 0).toNat 6) := this
    rw [this', Option.bind_some]
end
end Go.GA
