/- Plain law of FnBits: even coins as a whole, pairs for a coin, the draw of bits. -/
import Derived.Test.YtedakmknjbjlbaaP9l
namespace Go.GA
open Go
set_option maxRecDepth 100000
theorem even_eq {l : List Int} {k : Int} (hl : l.length ≤ 41) : ∃ (r : List Int) (q : Int) (ok : Bool), p_impl_EvenCoin 64 l k = some (r, q, ok) ∧ p_spec_EvenCoin 64 l k = some (r, q, ok) ∧ (ok = true → r = evA k l ∧ q = (evR k l : Int) ∧ okT l = true ∧ (l.length : Int) ≤ 40 ∧ 0 ≤ k ∧ k ≤ 6) ∧ (okT l = true → (l.length : Int) ≤ 40 → 0 ≤ k → k ≤ 6 → ok = true) := by
  have ei : p_impl_EvenCoin 64 l k = (if (((!(decide ((l.length : Int) ≤ 40))) || (!(okT l))) || (!(p_impl_within k 0 6))) = true then some ([], 0, false) else whl (bodyEI l k) 64 (0, 0, [])) := by
    unfold p_impl_EvenCoin
    rw [areThrows_eq]
    rfl
  have es : p_spec_EvenCoin 64 l k = (if ((!(okT l && decide ((l.length : Int) ≤ 40))) || (!(p_impl_within k 0 6))) = true then some ([], 0, false) else whl (bodyES l k) 64 (0, 0, [])) := by
    unfold p_spec_EvenCoin
    rw [l9T]
    rfl
  have ec : (((!(decide ((l.length : Int) ≤ 40))) || (!(okT l))) || (!(p_impl_within k 0 6))) = ((!(okT l && decide ((l.length : Int) ≤ 40))) || (!(p_impl_within k 0 6))) := by
    cases okT l <;> cases decide ((l.length : Int) ≤ 40) <;> cases p_impl_within k 0 6 <;> rfl
  rw [ei, es, ec]
  by_cases hc : ((!(okT l && decide ((l.length : Int) ≤ 40))) || (!(p_impl_within k 0 6))) = true
  · rw [if_pos hc, if_pos hc]
    refine ⟨[], 0, false, rfl, rfl, (fun h => by cases h), fun h1 h2 h3 h4 => ?_⟩
    have hw : p_impl_within k 0 6 = true := by unfold p_impl_within; simp only [Bool.and_eq_true, decide_eq_true_eq]; omega
    rw [h1, decide_eq_true h2, hw] at hc
    cases hc
  · rw [if_neg hc, if_neg hc]
    obtain ⟨r1, r2⟩ := ev_run (k := k) hl 64 0 0 [] (by omega) (by omega) (by omega) (by omega) (by simp)
    simp only [List.drop_zero, List.nil_append] at r1 r2
    refine ⟨_, _, true, r1, r2, (fun _ => ?_), fun _ _ _ _ => rfl⟩
    simp only [Bool.or_eq_true, Bool.not_eq_true', not_or, Bool.not_eq_false, Bool.and_eq_true, decide_eq_true_eq] at hc
    obtain ⟨⟨h1, h2⟩, h3⟩ := hc
    unfold p_impl_within at h3
    simp only [Bool.and_eq_true, decide_eq_true_eq] at h3
    exact ⟨rfl, by omega, h1, h2, h3.1, h3.2⟩
/-- the list with its pairs swapped -/
def bodySw (l : List Int) (K : List Int → Option Bool) : (Int × List Int) → ((Int × List Int) → Option Bool) → Option Bool := fun (s581 : Int × (List Int)) c583 => (if (IntKind.wrap .i64 (s581.1 + 1)) < (l.length : Int) then if 0 ≤ (IntKind.wrap .i64 (s581.1 + 1)) then if s581.1 < (l.length : Int) then if (s581.2.length : Int) + 2 ≤ 1000000000 then c583 ((s581.1 + 2), (s581.2 ++ [(l.getD (s581.1 + 1).toNat 0), (l.getD s581.1.toNat 0)])) else none else none else none else K s581.2)
theorem swp_short {l : List Int} {i : Nat} (h : ¬ i + 1 < l.length) : swp (l.drop i) = [] := by
  have hl : (l.drop i).length ≤ 1 := by rw [List.length_drop]; omega
  cases hd : l.drop i with
  | nil => rfl
  | cons a t =>
    cases t with
    | nil => rfl
    | cons b t => rw [hd] at hl; simp at hl
theorem sw_run {l : List Int} (hl : l.length ≤ 41) (K : List Int → Option Bool) : ∀ (d i : Nat) (acc : List Int), i ≤ l.length + 1 → l.length + 1 - i < d → acc.length ≤ i → whl (bodySw l K) d ((i : Int), acc) = K (acc ++ swp (l.drop i))
  | 0, i, _, _, h, _ => by omega
  | d + 1, i, acc, h1, h2, h3 => by
    have s1 : whl (bodySw l K) (d + 1) ((i : Int), acc) = bodySw l K ((i : Int), acc) (whl (bodySw l K) d) := rfl
    have ih := sw_run hl K d
    rw [s1]
    generalize whl (bodySw l K) d = W at ih
    unfold bodySw
    simp only
    have e1 : IntKind.wrap .i64 ((i : Int) + 1) = (i : Int) + 1 := wr (by omega) (by omega)
    rw [e1]
    by_cases hf : i + 1 < l.length
    · have t0 : ((i : Int)).toNat = i := by omega
      have t1 : ((i : Int) + 1).toNat = i + 1 := by omega
      have ec : ((i : Int) + 2) = ((i + 2 : Nat) : Int) := by omega
      rw [if_pos (by omega), if_pos (by omega), if_pos (by omega), if_pos (by omega), t0, t1, ec, ih (i + 2) _ (by omega) (by omega) (by simp; omega), drop_two hf]
      simp [swp]
    · rw [if_neg (by omega), swp_short hf]
      simp
def chkP (m : Int) : Bool := match p_impl_PairsForCoin 64 m, p_spec_PairsForCoin 64 m with
  | some a, some b => a == b
  | _, _ => false
theorem pairs_all : ∀ m ∈ ([0, 1, 2, 3, 4, 5, 6] : List Int), chkP m = true := by decide +kernel
theorem pairs_eq {m : Int} (h0 : 0 ≤ m) (h1 : m ≤ 6) : ∃ a, p_impl_PairsForCoin 64 m = some a ∧ p_spec_PairsForCoin 64 m = some a := by
  have h := pairs_all m (by simp only [List.mem_cons, List.not_mem_nil, or_false]; omega)
  unfold chkP at h
  split at h
  · rename_i a b e1 e2
    have : a = b := by simpa using h
    subst this
    exact ⟨a, e1, e2⟩
  · cases h
end Go.GA
