/- Plain law of FnBits: parts of the law. -/
import Derived.Test.YtedakmknjbjlbaaP9s
namespace Go.GA
open Go
set_option maxRecDepth 100000
def bodyS2 (l : List Int) (K : List Int → Option Bool) : (Int × List Int) → ((Int × List Int) → Option Bool) → Option Bool := fun (s581 : Int × (List Int)) c583 => (if (IntKind.wrap .i64 (s581.1 + 1)) < (l.length : Int) then if 0 ≤ (IntKind.wrap .i64 (s581.1 + 1)) then if 0 ≤ s581.1 then if s581.1 < (l.length : Int) then if (s581.2.length : Int) + 2 ≤ 1000000000 then c583 ((IntKind.wrap .i64 (s581.1 + 2)), (s581.2 ++ [(l.getD (IntKind.wrap .i64 (s581.1 + 1)).toNat 0), (l.getD s581.1.toNat 0)])) else none else none else none else none else K s581.2)
theorem sw_run2 {l : List Int} (hl : l.length ≤ 41) (K : List Int → Option Bool) : ∀ (d i : Nat) (acc : List Int), i ≤ l.length + 1 → l.length + 1 - i < d → acc.length ≤ i → whl (bodyS2 l K) d ((i : Int), acc) = K (acc ++ swp (l.drop i))
  | 0, i, _, _, h, _ => by omega
  | d + 1, i, acc, h1, h2, h3 => by
    have s1 : whl (bodyS2 l K) (d + 1) ((i : Int), acc) = bodyS2 l K ((i : Int), acc) (whl (bodyS2 l K) d) := rfl
    have ih := sw_run2 hl K d
    rw [s1]
    generalize whl (bodyS2 l K) d = W at ih
    unfold bodyS2
    simp only
    have e1 : IntKind.wrap .i64 ((i : Int) + 1) = (i : Int) + 1 := wr (by omega) (by omega)
    have e2 : IntKind.wrap .i64 ((i : Int) + 2) = (i : Int) + 2 := wr (by omega) (by omega)
    rw [e1, e2]
    by_cases hf : i + 1 < l.length
    · have t0 : ((i : Int)).toNat = i := by omega
      have t1 : ((i : Int) + 1).toNat = i + 1 := by omega
      have ec : ((i : Int) + 2) = ((i + 2 : Nat) : Int) := by omega
      rw [if_pos (by omega), if_pos (by omega), if_pos (by omega), if_pos (by omega), if_pos (by omega), t0, t1, ec, ih (i + 2) _ (by omega) (by omega) (by simp; omega), drop_two hf]
      simp [swp]
    · rw [if_neg (by omega), swp_short hf]
      simp
def EEnd (l : List Int) (k : Int) (r : List Int) (ok : Bool) : Option Bool := (if ((ok && (decide (1 ≤ k))) && (decide (k ≤ 5))) = true then whl (bodyS2 l (fun a => (p_impl_EvenCoin 64 a k).bind (fun r592 => (if ((!r592.2.2) || (!(decide ((r592.1.length : Int) = (r.length : Int))))) = true then some false else cnt (fun i604 (s603 : Unit) c605 _ => (if (r592.1.getD i604.toNat 0) = (r.getD i604.toNat 0) then some false else c605 ())) (fun i604 (s603 : Unit) => some true) (Int.toNat ((r.length : Int) - 0)) 0 ())))) 64 (0, []) else some true)
theorem end_ok {l : List Int} {k : Int} {r : List Int} {ok : Bool} (hl : l.length ≤ 41) (h : ok = true → r = evA k l ∧ okT l = true ∧ (l.length : Int) ≤ 40 ∧ 0 ≤ k ∧ k ≤ 6) : EEnd l k r ok = some true := by
  unfold EEnd
  by_cases hc : ((ok && (decide (1 ≤ k))) && (decide (k ≤ 5))) = true
  · rw [if_pos hc]
    simp only [Bool.and_eq_true, decide_eq_true_eq] at hc
    obtain ⟨h1, h2, h3, h4, h5⟩ := h hc.1.1
    have := sw_run2 hl (fun a => (p_impl_EvenCoin 64 a k).bind (fun r592 => (if ((!r592.2.2) || (!(decide ((r592.1.length : Int) = (r.length : Int))))) = true then some false else cnt (fun i604 (s603 : Unit) c605 _ => (if (r592.1.getD i604.toNat 0) = (r.getD i604.toNat 0) then some false else c605 ())) (fun i604 (s603 : Unit) => some true) (Int.toNat ((r.length : Int) - 0)) 0 ()))) 64 0 [] (by omega) (by omega) (by simp)
    refine Eq.trans this ?_
    simp only [List.drop_zero, List.nil_append]
    have sl := swp_len l
    obtain ⟨r2, q2, ok2, e1, _, e3, e4⟩ := even_eq (l := swp l) (k := k) (by omega)
    have hok2 : ok2 = true := e4 (List.all_eq_true.2 fun v hv => List.all_eq_true.1 h2 v (swp_mem hv)) (by omega) h4 h5
    obtain ⟨f1, _⟩ := e3 hok2
    rw [e1, Option.bind_some]
    have hr2 : r2 = r.map (fun x => 1 - x) := by rw [f1, h1, ev_swp]
    rw [if_neg (by simp [hok2, hr2])]
    refine cnt_ind0 (S := Unit) r.length (fun _ _ => True) (fun r => r = some true) (by omega) trivial (fun _ _ => rfl) (fun i s c hi _ hc => ?_)
    rw [if_neg ?_]
    · exact hc _ trivial
    · simp only [hr2, Int.toNat_natCast, List.getD_eq_getElem?_getD, List.getElem?_map, List.getElem?_eq_getElem hi, Option.map_some, Option.getD_some]
      omega
  · rw [if_neg hc]
theorem modtab_eq {x : List (List Int)} (h : Six x) (n : Int) : ∃ (s : List Int) (ok : Bool), p_impl_ModTable x n = some (s, ok) ∧ p_spec_ModTable x n = some (s, ok) ∧ (ok = true → (s.length : Int) = n ∧ s.sum = ((6 ^ x.length : Nat) : Int) ∧ NN s ∧ x.length ≤ 4) := by
  unfold p_impl_ModTable p_spec_ModTable
  rw [pool_eq h, Option.bind_some]
  have em : p_impl_isModulus n = p_spec_l1In n 1 40 := rfl
  rw [em, pl1In_eq]
  by_cases hc : ((!p_impl_IsPool x) || !decide (1 ≤ n ∧ n ≤ 40)) = true
  · rw [if_pos hc, if_pos hc]; exact ⟨[], false, rfl, rfl, fun h => by cases h⟩
  · rw [if_neg hc, if_neg hc]
    simp only [Bool.or_eq_true, Bool.not_eq_true', decide_eq_false_iff_not, not_or, Bool.not_eq_false] at hc
    obtain ⟨hp, hn⟩ := hc
    have hn' : 1 ≤ n ∧ n ≤ 40 := by omega
    obtain ⟨_, p1, p2⟩ := pool_good h hp
    obtain ⟨s, e1, e2, e3, e4, e5⟩ := mod_eq p1 p2 hn'.1 hn'.2
    rw [e1, e2]
    exact ⟨s, true, rfl, rfl, fun _ => ⟨by omega, e4, e5, p1⟩⟩
theorem modtab_fair {x : List (List Int)} (hp : p_impl_IsPool x = true) {v : Int} (hv : FairN x v) : ∃ s, p_impl_ModTable x v = some (s, true) ∧ 1 ≤ s.length ∧ allEq s = true := by
  obtain ⟨h1, h2, s, e1, e2, e3⟩ := hv
  unfold p_impl_ModTable
  have em : p_impl_isModulus v = decide (1 ≤ v ∧ v ≤ 40) := by unfold p_impl_isModulus; exact pwithin_eq _ _ _
  rw [em, hp, if_neg (by simp; omega), e1]
  exact ⟨s, rfl, e2, e3⟩
def EFair (x : List (List Int)) (t : List Int) (Z : Option Bool) : Option Bool := cnt (fun i545 (s544 : Unit) c546 _ => (p_impl_ModTable x (t.getD i545.toNat 0)).bind (fun r551 => (if r551.2 = true then cnt (fun i555 (s554 : Unit) c556 _ => (if (r551.1.getD i555.toNat 0) = (r551.1.getD 0 0) then c556 () else some false)) (fun i555 (s554 : Unit) => c546 ()) (Int.toNat ((r551.1.length : Int) - 1)) 1 () else some false))) (fun i545 (s544 : Unit) => Z) (Int.toNat ((t.length : Int) - 0)) 0 ()
theorem fair_ok {x : List (List Int)} (hp : p_impl_IsPool x = true) {t : List Int} (ht : ∀ v ∈ t, FairN x v) (Z : Option Bool) : EFair x t Z = Z := by
  unfold EFair
  refine cnt_ind0 (S := Unit) t.length (fun _ _ => True) (fun r => r = Z) (by omega) trivial (fun _ _ => rfl) (fun i s c hi _ hc => ?_)
  rw [Int.toNat_natCast]
  obtain ⟨r, e1, e2, e3⟩ := modtab_fair hp (ht _ (getD_mem' hi))
  rw [e1, Option.bind_some, if_pos rfl]
  refine cnt_ind (S := Unit) (f := fun i555 (s554 : Unit) c556 _ => (if (r.getD i555.toNat 0) = (r.getD 0 0) then c556 () else some false)) (k := fun i555 (s554 : Unit) => c ()) r.length (fun _ _ => True) (fun q => q = Z) (fun _ _ => hc _ trivial) (fun j s' c' hj _ hc' => ?_) (Int.toNat ((r.length : Int) - 1)) 1 () (by omega) trivial
  rw [Int.toNat_natCast]
  have := of_decide_eq_true (List.all_eq_true.1 e3 _ (getD_mem' hj))
  rw [if_pos this]
  exact hc' _ trivial
def EMod (x : List (List Int)) (n : Int) (s : List Int) (ok : Bool) (k542 : Unit → Option Bool) : Option Bool := (if ok = true then cnt (fun i615 (s614 : Int) c616 _ => c616 (IntKind.wrap .i64 (s614 + (s.getD i615.toNat 0)))) (fun i615 (s614 : Int) => cnt (fun i622 (s621 : Int) c623 _ => c623 (IntKind.wrap .i64 (6 * s621))) (fun i622 (s621 : Int) => (if ((!(decide (s614 = s621))) || (!(decide ((s.length : Int) = n)))) = true then some false else k542 ())) (Int.toNat ((x.length : Int) - 0)) 0 1) (Int.toNat ((s.length : Int) - 0)) 0 0 else k542 ())
theorem emod_ok {x : List (List Int)} {n : Int} {s : List Int} {ok : Bool} (h : ok = true → (s.length : Int) = n ∧ s.sum = ((6 ^ x.length : Nat) : Int) ∧ NN s ∧ x.length ≤ 4) (K : Unit → Option Bool) : EMod x n s ok K = K () := by
  unfold EMod
  by_cases hok : ok = true
  · rw [if_pos hok]
    obtain ⟨h1, h2, h3, h4⟩ := h hok
    have hp : 6 ^ x.length ≤ 1000000 := by
      rcases (by omega : x.length = 0 ∨ x.length = 1 ∨ x.length = 2 ∨ x.length = 3 ∨ x.length = 4) with h | h | h | h | h <;> rw [h] <;> decide
    have hs : s.sum ≤ 1000000 := by rw [h2]; exact Int.ofNat_le.2 hp
    refine cnt_ind0 (S := Int) s.length (fun i a => 0 ≤ a ∧ a + (s.drop i).sum = s.sum) (fun q => q = K ()) (by omega) ⟨by omega, by simp⟩ (fun a ha => ?_) (fun i a c hi ha hc => ?_)
    · have ea : a = ((6 ^ x.length : Nat) : Int) := by
        have := ha.2
        rw [List.drop_eq_nil_of_le (by omega)] at this
        rw [← h2]
        simpa using this
      have hK : ∀ z : Int, z = ((6 ^ x.length : Nat) : Int) → (if ((!(decide (a = z))) || (!(decide ((s.length : Int) = n)))) = true then some false else K ()) = K () := fun z hz => by
        rw [if_neg (by rw [ea, hz, h1]; simp)]
      refine Eq.trans ?_ (hK _ rfl)
      rw [Int.sub_zero, Int.toNat_natCast]
      rcases (by omega : x.length = 0 ∨ x.length = 1 ∨ x.length = 2 ∨ x.length = 3 ∨ x.length = 4) with h | h | h | h | h <;> rw [h] <;> rfl
    · rw [Int.toNat_natCast]
      have hd : (s.drop i).sum = s.getD i 0 + (s.drop (i + 1)).sum := by
        rw [List.drop_eq_getElem_cons hi, List.sum_cons, List.getD_eq_getElem?_getD, List.getElem?_eq_getElem hi]
        rfl
      have g1 := h3 i
      have g2 := sum_nn (nn_drop h3 (i + 1))
      rw [wr (by omega) (by omega)]
      exact hc _ ⟨by omega, by omega⟩
  · rw [if_neg hok]
end Go.GA
