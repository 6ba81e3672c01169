/- Plain law of FnAgain: what the functions return, both ways. -/
import Derived.Test.YtkjiaieabelpmaaAGt
namespace Go.GA.E
open Go
set_option maxRecDepth 100000
set_option linter.unusedVariables false
section
variable {p : List (List Int)} {g : Gl} {fu : Nat}
/-- a valid pool, goal, number of rerolls -/
structure Okg (p : List (List Int)) (g : Gl) (r : Int) (least : Int) : Prop where
  pool : p_impl_IsPool p = true
  l1 : 1 ≤ p.length
  l3 : p.length ≤ 3
  goal : p_impl_IsGoal g = true
  r0 : least ≤ r
  r2 : r ≤ 2
theorem again_iff {r least : Int} : p_impl_isAgain p g r least = true ↔ Okg p g r least := by
  unfold p_impl_isAgain
  rw [geta, Bool.and_eq_true, Bool.and_eq_true, Bool.and_eq_true, decide_eq_true_eq, within_eq, decide_eq_true_eq]
  constructor
  · rintro ⟨⟨⟨h1, h2⟩, h3⟩, h4⟩
    exact ⟨h1, (pool_len h1).1, by omega, h3, h4.1, h4.2⟩
  · rintro ⟨h1, h2, h3, h4, h5, h6⟩
    exact ⟨⟨⟨h1, by omega⟩, h4⟩, h5, h6⟩
theorem good_eq (h6 : Six p) (r : Int) : p_spec_l6Good p g r = some (p_impl_isAgain p g r 0) := by
  unfold p_spec_l6Good
  rw [pool_eq h6, Option.bind_some]; rfl
def ocm (p : List (List Int)) (t : Int) : Bool := decide (0 ≤ t ∧ t ≤ ((6 ^ p.length : Nat) : Int) - 1)
theorem outc_eq (h3 : p.length ≤ 4) (hf : 1999 < fu) (t : Int) : p_impl_isOutcome fu p t = some (ocm p t) ∧ p_spec_l6Number fu p t = some (ocm p t) := by
  have h64 : 6 ^ p.length ≤ 6 ^ 4 := Nat.pow_le_pow_right (by omega) h3
  have e64 : (6 : Nat) ^ 4 = 1296 := by decide
  have e1 : 0 < 6 ^ p.length := Nat.pow_pos (by omega)
  unfold p_impl_isOutcome p_spec_l6Number
  rw [all6 (by omega) hf, power_eq p.length (by omega) (by omega), Option.bind_some, Option.bind_some, wrap_i64 (by omega) (by omega), within_eq, l1In_eq]
  exact ⟨rfl, rfl⟩
def vF (p : List (List Int)) (g : Gl) (t r : Int) : List Int := cutF (vls p.length (sc p g) r.toNat t.toNat) (6 ^ (p.length * r.toNat))
def sF (p : List (List Int)) (g : Gl) (t set r : Int) : List Int := cutF (sv p.length (vls p.length (sc p g) (r - 1).toNat) t.toNat set.toNat) (6 ^ (p.length * r.toNat))
def bF (p : List (List Int)) (g : Gl) (t r : Int) : List Int := bl (sv p.length (vls p.length (sc p g) (r - 1).toNat) t.toNat) (vls p.length (sc p g) r.toNat t.toNat) (2 ^ p.length)
theorem pow6 {n r : Nat} (hn : n ≤ 3) (hr : r ≤ 2) : 6 ^ (n * r) ≤ 46656 ∧ 0 < 6 ^ (n * r) ∧ n * r ≤ 6 := by
  have h : n * r ≤ 3 * 2 := Nat.mul_le_mul hn hr
  exact ⟨Nat.le_trans (Nat.pow_le_pow_right (by omega) h) (by decide), Nat.pow_pos (by omega), h⟩
theorem mean_eq {x r : Nat} (h3 : p.length ≤ 3) (hr : r ≤ 2) (hx : x ≤ 1000000000000) (hf : 100000 < fu) (y : List (List Int)) : p_impl_again_mean fu (x : Int) (r : Int) p y = some (cutF x (6 ^ (p.length * r))) := by
  obtain ⟨h1, h2, h5⟩ := pow6 h3 hr
  unfold p_impl_again_mean
  rw [← Int.natCast_mul, wrap_nat (by omega), power_eq _ (by omega) (by omega), Option.bind_some, fraction_eq x _ (by omega) (by omega) (by omega) (by omega)]; rfl
theorem parts_eq {r : Nat} (h3 : p.length ≤ 3) (hr : r ≤ 2) (hf : 100000 < fu) : p_spec_l6Parts fu p (r : Int) = some ((6 ^ (p.length * r) : Nat) : Int) := by
  obtain ⟨h1, h2, h5⟩ := pow6 h3 hr
  unfold p_spec_l6Parts
  rw [← Int.natCast_mul, wrap_nat (by omega), all6 (by omega) (by omega)]; rfl
theorem cutS_eq {x r : Nat} (h3 : p.length ≤ 3) (hr : r ≤ 2) (hx : x ≤ 1000000000000) (hf : 100000 < fu) : p_spec_l2Cut fu (x : Int) ((6 ^ (p.length * r) : Nat) : Int) = some (cutF x (6 ^ (p.length * r))) := by
  obtain ⟨h1, h2, h5⟩ := pow6 h3 hr
  exact cut_eq x _ (by omega) (by omega) (by omega) (by omega)
theorem valueOf_eq (h6 : Six p) (hf : 100000 < fu) (t r : Int) : p_impl_ValueOf fu p g t r = some (if (p_impl_isAgain p g r 0 && ocm p t) = true then (vF p g t r, true) else (List.replicate 2 0, false)) ∧ p_spec_ValueOf fu p g t r = some (if (p_impl_isAgain p g r 0 && ocm p t) = true then (vF p g t r, true) else (List.replicate 2 0, false)) := by
  unfold p_impl_ValueOf p_spec_ValueOf
  simp only [geta]
  rw [good_eq h6, Option.bind_some]
  by_cases h : p_impl_isAgain p g r 0 = true
  · have ho := again_iff.1 h
    obtain ⟨o1, o2⟩ := outc_eq (fu := fu) (show p.length ≤ 4 by have := ho.l3; omega) (by omega) t
    rw [o1, o2, h]
    by_cases hc : ocm p t = true
    · rw [hc]
      have hc' := of_decide_eq_true hc
      have hr0 := ho.r0
      have hr2 := ho.r2
      have h3 := ho.l3
      obtain ⟨rn, rfl⟩ : ∃ rn : Nat, r = (rn : Int) := ⟨r.toNat, by omega⟩
      obtain ⟨tn, rfl⟩ : ∃ tn : Nat, t = (tn : Int) := ⟨t.toNat, by omega⟩
      have hp := pool_faces ho.pool
      have htn : tn < 6 ^ p.length := by omega
      have hvb := vls_b (k := rn) ho.goal ho.l1 h3 hp (by omega) tn htn
      have e1 := againOf_eq (fu := fu) ho.goal ho.l1 h3 hp (r := rn) (by omega) (by omega)
      have e2 := values_eq (fu := fu) ho.goal ho.l1 h3 hp (r := rn) (by omega) (by omega)
      simp only [Option.isSome_some, Option.getD_some, Bool.not_true, Bool.or_self, Bool.and_self, if_true, implies_true, Bool.false_eq_true, if_false]
      rw [e1, e2, Option.bind_some, Option.bind_some]
      dsimp only
      rw [vt_len, if_pos (by omega), if_pos (by omega), if_pos (by omega), Int.toNat_natCast, vt_get _ (by omega), tb_len, if_pos (by omega), if_pos (by omega), if_pos (by omega), Int.toNat_natCast, tb_get _ htn, mean_eq h3 (by omega) (by omega) hf, parts_eq h3 (by omega) hf, Option.bind_some, Option.bind_some, cutS_eq h3 (by omega) (by omega) hf]
      exact ⟨rfl, rfl⟩
    · rw [Bool.not_eq_true] at hc
      rw [hc]
      simp
  · rw [Bool.not_eq_true] at h
    rw [h]
    simp
theorem again_least {r : Int} : p_impl_isAgain p g r 1 = (p_impl_isAgain p g r 0 && !decide (r < 1)) := by
  rw [Bool.eq_iff_iff, Bool.and_eq_true, again_iff, again_iff, Bool.not_eq_true', decide_eq_false_iff_not]
  constructor
  · rintro ⟨h1, h2, h3, h4, h5, h6⟩; exact ⟨⟨h1, h2, h3, h4, by omega, h6⟩, by omega⟩
  · rintro ⟨⟨h1, h2, h3, h4, h5, h6⟩, h7⟩; exact ⟨h1, h2, h3, h4, by omega, h6⟩
theorem bestSets_eq (h6 : Six p) (hf : 100000 < fu) (t r : Int) : p_impl_BestSets fu p g t r = some (if (p_impl_isAgain p g r 1 && ocm p t) = true then (bF p g t r, true) else ([], false)) ∧ p_spec_BestSets fu p g t r = some (if (p_impl_isAgain p g r 1 && ocm p t) = true then (bF p g t r, true) else ([], false)) := by
  unfold p_impl_BestSets p_spec_BestSets
  simp only [geta]
  rw [good_eq h6, Option.bind_some]
  have hl := again_least (p := p) (g := g) (r := r)
  by_cases h : p_impl_isAgain p g r 1 = true
  · have ho := again_iff.1 h
    obtain ⟨o1, o2⟩ := outc_eq (fu := fu) (show p.length ≤ 4 by have := ho.l3; omega) (by omega) t
    have h' := h
    rw [hl, Bool.and_eq_true, Bool.not_eq_true'] at h'
    rw [o1, o2, h, h'.1, h'.2]
    by_cases hc : ocm p t = true
    · rw [hc]
      have hc' := of_decide_eq_true hc
      have hr0 := ho.r0
      have hr2 := ho.r2
      have h3 := ho.l3
      obtain ⟨rn, rfl⟩ : ∃ rn : Nat, r = (rn : Int) := ⟨r.toNat, by omega⟩
      obtain ⟨tn, rfl⟩ : ∃ tn : Nat, t = (tn : Int) := ⟨t.toNat, by omega⟩
      have hp := pool_faces ho.pool
      have htn : tn < 6 ^ p.length := by omega
      obtain ⟨_, _, h8, h20⟩ := pow3 h3
      have hvb : ∀ t, t < 6 ^ p.length → vls p.length (sc p g) (rn - 1) t ≤ 1000000000 := fun t ht => by
        have := vls_b (k := rn - 1) ho.goal ho.l1 h3 hp (by omega) t ht; omega
      have e1 := againOf_eq (fu := fu) ho.goal ho.l1 h3 hp (r := rn) (by omega) (by omega)
      have ew : IntKind.wrap .i64 ((rn : Int) - 1) = ((rn - 1 : Nat) : Int) := by
        rw [wrap_i64 (by omega) (by omega)]; omega
      have e2 := values_eq (fu := fu) ho.goal ho.l1 h3 hp (r := rn - 1) (by omega) (by omega)
      have eV : mxs (sv p.length (vls p.length (sc p g) (rn - 1)) tn) (2 ^ p.length) = vls p.length (sc p g) rn tn := by
        obtain ⟨q, rfl⟩ : ∃ q, rn = q + 1 := ⟨rn - 1, by omega⟩
        rfl
      have eB : bF p g (tn : Int) (rn : Int) = bl (sv p.length (vls p.length (sc p g) (rn - 1)) tn) (vls p.length (sc p g) rn tn) (2 ^ p.length) := by
        unfold bF
        rw [show ((rn : Int) - 1).toNat = rn - 1 by omega, Int.toNat_natCast, Int.toNat_natCast]
      simp only [Option.isSome_some, Option.getD_some, Bool.not_true, Bool.or_self, Bool.and_self, if_true, implies_true, Bool.false_eq_true, if_false]
      have b1 := best_loop (fu := fu) h3 (x4 := vt (6 ^ p.length) (vls p.length (sc p g)) (rn + 1)) (t := tn) (k := rn) (v := vls p.length (sc p g) (rn - 1)) (w := vls p.length (sc p g) rn) htn (by omega) (by omega) (by rw [vt_len]; omega) (by omega) (vt_get _ (by omega)) (vt_get _ (by omega)) hvb (2 ^ p.length) 0 fu (by omega) (by omega)
      have b2 := bestS_loop (fu := fu) h3 (t := tn) (v := vls p.length (sc p g) (rn - 1)) htn (by omega) hvb (2 ^ p.length) 0 fu (by omega) (by omega)
      rw [eV] at b2
      have b1' : p_impl_again_bestSets fu (tn : Int) (rn : Int) p (vt (6 ^ p.length) (vls p.length (sc p g)) (rn + 1)) = some (bF p g (tn : Int) (rn : Int)) := by rw [eB]; exact b1
      have b2' : p_spec_l6Best fu p g (tn : Int) (rn : Int) = some (bF p g (tn : Int) (rn : Int)) := by
        unfold p_spec_l6Best
        rw [geta, ew, e2, Option.bind_some, eB]; exact b2
      rw [e1, Option.bind_some, b1', b2']
      exact ⟨rfl, rfl⟩
    · rw [Bool.not_eq_true] at hc
      rw [hc]
      simp
  · rw [Bool.not_eq_true] at h
    rw [h]
    have hh : (!p_impl_isAgain p g r 0 || decide (r < 1)) = true := by
      rw [hl] at h
      cases h1 : p_impl_isAgain p g r 0 <;> cases h2 : decide (r < 1) <;> simp_all
    rw [hh]
    simp
theorem bF_pos {t r : Int} (h : (p_impl_isAgain p g r 1 && ocm p t) = true) : ∃ b : Nat, (bF p g t r).getD 0 0 = (b : Int) ∧ 1 ≤ (bF p g t r).length ∧ b < 2 ^ p.length ∧ sv p.length (vls p.length (sc p g) (r - 1).toNat) t.toNat b = vls p.length (sc p g) r.toNat t.toNat := by
  rw [Bool.and_eq_true] at h
  have ho := again_iff.1 h.1
  obtain ⟨_, _, h8, h20⟩ := pow3 ho.l3
  obtain ⟨j, j1, j2⟩ := mxs_at (sv p.length (vls p.length (sc p g) (r - 1).toNat) t.toNat) (2 ^ p.length) h20
  have hr0 := ho.r0
  have eV : mxs (sv p.length (vls p.length (sc p g) (r - 1).toNat) t.toNat) (2 ^ p.length) = vls p.length (sc p g) r.toNat t.toNat := by
    rw [show r.toNat = (r - 1).toNat + 1 by omega]; rfl
  rw [eV] at j2
  have hm : j ∈ bsts (sv p.length (vls p.length (sc p g) (r - 1).toNat) t.toNat) (vls p.length (sc p g) r.toNat t.toNat) (2 ^ p.length) := bsts_mem.2 ⟨j1, j2⟩
  have hlen : 1 ≤ (bsts (sv p.length (vls p.length (sc p g) (r - 1).toNat) t.toNat) (vls p.length (sc p g) r.toNat t.toNat) (2 ^ p.length)).length := List.length_pos_of_mem hm
  have hg : (bsts (sv p.length (vls p.length (sc p g) (r - 1).toNat) t.toNat) (vls p.length (sc p g) r.toNat t.toNat) (2 ^ p.length))[0] ∈ bsts (sv p.length (vls p.length (sc p g) (r - 1).toNat) t.toNat) (vls p.length (sc p g) r.toNat t.toNat) (2 ^ p.length) := List.getElem_mem _
  obtain ⟨q1, q2⟩ := bsts_mem.1 hg
  refine ⟨_, ?_, ?_, q1, q2⟩
  · unfold bF bl
    rw [List.getD_eq_getElem?_getD, List.getElem?_map, List.getElem?_eq_getElem (by omega)]; rfl
  · unfold bF bl; rw [List.length_map]; exact hlen
theorem bestSet_eq (h6 : Six p) (hf : 100000 < fu) (t r : Int) : p_impl_BestSet fu p g t r = some (if (p_impl_isAgain p g r 1 && ocm p t) = true then ((bF p g t r).getD 0 0, true) else (0, false)) ∧ p_spec_BestSet fu p g t r = some (if (p_impl_isAgain p g r 1 && ocm p t) = true then ((bF p g t r).getD 0 0, true) else (0, false)) := by
  obtain ⟨e1, e2⟩ := bestSets_eq (g := g) h6 hf t r
  unfold p_impl_BestSet p_spec_BestSet
  simp only [geta]
  rw [e1, e2, Option.bind_some]
  by_cases h : (p_impl_isAgain p g r 1 && ocm p t) = true
  · obtain ⟨b, _, b2, _⟩ := bF_pos h
    rw [if_pos h, if_pos h]
    simp only [if_true]
    rw [if_pos (by omega)]
    exact ⟨rfl, rfl⟩
  · rw [if_neg h, if_neg h]
    exact ⟨rfl, rfl⟩
def stm (p : List (List Int)) (set : Int) : Bool := decide (0 ≤ set ∧ set ≤ ((2 ^ p.length : Nat) : Int) - 1)
theorem setValue_eq (h6 : Six p) (hf : 100000 < fu) (t set r : Int) : p_impl_SetValue fu p g t set r = some (if (p_impl_isAgain p g r 1 && ocm p t && stm p set) = true then (sF p g t set r, true) else (List.replicate 2 0, false)) ∧ p_spec_SetValue fu p g t set r = some (if (p_impl_isAgain p g r 1 && ocm p t && stm p set) = true then (sF p g t set r, true) else (List.replicate 2 0, false)) := by
  unfold p_impl_SetValue p_spec_SetValue
  simp only [geta]
  rw [good_eq h6, Option.bind_some]
  have hl := again_least (p := p) (g := g) (r := r)
  by_cases h : p_impl_isAgain p g r 1 = true
  · have ho := again_iff.1 h
    have h3 := ho.l3
    obtain ⟨o1, o2⟩ := outc_eq (fu := fu) (show p.length ≤ 4 by omega) (by omega) t
    obtain ⟨_, _, h8, h20⟩ := pow3 h3
    have h' := h
    rw [hl, Bool.and_eq_true, Bool.not_eq_true'] at h'
    have es : p_impl_within set 0 (IntKind.wrap .i64 ((shlI .i64 1 (p.length : Int)) - 1)) = stm p set ∧ p_spec_l1In set 0 (IntKind.wrap .i64 ((shlI .i64 1 (p.length : Int)) - 1)) = stm p set := by
      rw [shl_fin p.length (by omega), wrap_i64 (by omega) (by omega), within_eq, l1In_eq]; exact ⟨rfl, rfl⟩
    rw [o1, o2, h, h'.1, h'.2, es.1, es.2]
    by_cases hc : ocm p t = true
    · rw [hc]
      by_cases hst : stm p set = true
      · rw [hst]
        have hc' := of_decide_eq_true hc
        have hs' := of_decide_eq_true hst
        have hr0 := ho.r0
        have hr2 := ho.r2
        obtain ⟨rn, rfl⟩ : ∃ rn : Nat, r = (rn : Int) := ⟨r.toNat, by omega⟩
        obtain ⟨tn, rfl⟩ : ∃ tn : Nat, t = (tn : Int) := ⟨t.toNat, by omega⟩
        obtain ⟨sn, rfl⟩ : ∃ sn : Nat, set = (sn : Int) := ⟨set.toNat, by omega⟩
        have hp := pool_faces ho.pool
        have htn : tn < 6 ^ p.length := by omega
        have hvb0 : ∀ t, t < 6 ^ p.length → vls p.length (sc p g) (rn - 1) t ≤ 10000000 := fun t ht => vls_b (k := rn - 1) ho.goal ho.l1 h3 hp (by omega) t ht
        have hvb : ∀ t, t < 6 ^ p.length → vls p.length (sc p g) (rn - 1) t ≤ 1000000000 := fun t ht => by
          have := hvb0 t ht; omega
        have ew : IntKind.wrap .i64 ((rn : Int) - 1) = ((rn - 1 : Nat) : Int) := by
          rw [wrap_i64 (by omega) (by omega)]; omega
        have e1 := againOf_eq (fu := fu) ho.goal ho.l1 h3 hp (r := rn - 1) (by omega) (by omega)
        have e2 := values_eq (fu := fu) ho.goal ho.l1 h3 hp (r := rn - 1) (by omega) (by omega)
        have eS := setV_eq (fu := fu) h3 (x4 := vt (6 ^ p.length) (vls p.length (sc p g)) (rn - 1 + 1)) (t := tn) (set := sn) (k := rn) (v := vls p.length (sc p g) (rn - 1)) (by omega) htn (by omega) (by omega) (by rw [vt_len]; omega) (by omega) (vt_get _ (by omega)) hvb
        have eT := sums_eq (fu := fu) (set := sn) h3 (by omega) (by omega) hvb
        have hsb := sv_le (n := p.length) (v := vls p.length (sc p g) (rn - 1)) hvb0 tn sn
        have h216 := (pow3 h3).1
        have hm : 6 ^ p.length * 10000000 ≤ 216 * 10000000 := Nat.mul_le_mul_right _ h216
        have eF : sF p g (tn : Int) (sn : Int) (rn : Int) = cutF (sv p.length (vls p.length (sc p g) (rn - 1)) tn sn) (6 ^ (p.length * rn)) := by
          unfold sF
          rw [show ((rn : Int) - 1).toNat = rn - 1 by omega, Int.toNat_natCast, Int.toNat_natCast, Int.toNat_natCast]
        simp only [Option.isSome_some, Option.getD_some, Bool.not_true, Bool.or_self, Bool.and_self, if_true, implies_true, Bool.false_eq_true, if_false]
        rw [ew, e1, Option.bind_some, eS, Option.bind_some, mean_eq h3 (by omega) (by omega) hf, Option.bind_some, e2, Option.bind_some, eT, Option.bind_some, tb_len, if_pos (by omega), if_pos (by omega), parts_eq h3 (by omega) hf, Option.bind_some, Int.toNat_natCast, tb_get _ htn, cutS_eq h3 (by omega) (by omega) hf, eF]
        exact ⟨rfl, rfl⟩
      · rw [Bool.not_eq_true] at hst
        rw [hst]
        simp
    · rw [Bool.not_eq_true] at hc
      rw [hc]
      simp
  · rw [Bool.not_eq_true] at h
    rw [h]
    have hh : (!p_impl_isAgain p g r 0 || decide (r < 1)) = true := by
      rw [hl] at h
      cases h1 : p_impl_isAgain p g r 0 <;> cases h2 : decide (r < 1) <;> simp_all
    rw [hh]
    simp
end
end Go.GA.E
