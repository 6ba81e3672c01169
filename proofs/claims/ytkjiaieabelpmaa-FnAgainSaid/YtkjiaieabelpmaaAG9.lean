/- Plain law of FnAgain. -/
import Derived.Test.YtkjiaieabelpmaaAGu
namespace Go.GA.E
open Go
set_option maxRecDepth 100000
set_option linter.unusedVariables false
section
variable {p : List (List Int)} {g : Gl} {fu : Nat}
theorem cut_inj {x y N : Nat} (hN : 0 < N) : cutF x N = cutF y N ↔ x = y := by
  constructor
  · intro h
    unfold cutF at h
    have h1 : ((x / Nat.gcd x N : Nat) : Int) = ((y / Nat.gcd y N : Nat) : Int) := congrArg (fun l : List Int => l.getD 0 0) h
    have h2 : ((N / Nat.gcd x N : Nat) : Int) = ((N / Nat.gcd y N : Nat) : Int) := congrArg (fun l : List Int => l.getD 1 0) h
    have hx : 0 < Nat.gcd x N := Nat.gcd_pos_of_pos_right _ hN
    have hy : 0 < Nat.gcd y N := Nat.gcd_pos_of_pos_right _ hN
    have ex : x / Nat.gcd x N * Nat.gcd x N = x := Nat.div_mul_cancel (Nat.gcd_dvd_left _ _)
    have ey : y / Nat.gcd y N * Nat.gcd y N = y := Nat.div_mul_cancel (Nat.gcd_dvd_left _ _)
    have nx : N / Nat.gcd x N * Nat.gcd x N = N := Nat.div_mul_cancel (Nat.gcd_dvd_right _ _)
    have ny : N / Nat.gcd y N * Nat.gcd y N = N := Nat.div_mul_cancel (Nat.gcd_dvd_right _ _)
    have h1' : x / Nat.gcd x N = y / Nat.gcd y N := by omega
    have h2' : N / Nat.gcd x N = N / Nat.gcd y N := by omega
    rw [← h2'] at ny
    have hq : 0 < N / Nat.gcd x N := Nat.pos_of_ne_zero (fun h => by rw [h] at nx; omega)
    have hg : Nat.gcd x N = Nat.gcd y N := Nat.eq_of_mul_eq_mul_left hq (nx.trans ny.symm)
    rw [← ex, ← ey, h1', hg]
  · intro h; rw [h]
theorem has_bl (f : Nat → Nat) (M m : Nat) (set : Nat) (hs : set < m) : p_laws_vHas (bl f M m) (set : Int) = decide (f set = M) := by
  have h : p_laws_vHas (bl f M m) (set : Int) = decide ((set : Int) ∈ bl f M m) := by
    unfold p_laws_vHas
    refine cnt_ind0 (bl f M m).length (fun i _ => ∀ j, j < i → (bl f M m).getD j 0 ≠ (set : Int)) (fun r => r = decide ((set : Int) ∈ bl f M m)) (by omega) (fun j hj => by omega) (fun _ hs => ?_) (fun i s c hi hI hc => ?_)
    · symm
      rw [decide_eq_false_iff_not]
      intro hm
      obtain ⟨j, hj, e⟩ := List.getElem_of_mem hm
      have := hs j hj
      rw [List.getD_eq_getElem?_getD, List.getElem?_eq_getElem hj] at this
      exact this e
    · rw [Int.toNat_natCast]
      by_cases e : (bl f M m).getD i 0 = (set : Int)
      · rw [if_pos e]
        symm
        rw [decide_eq_true_eq, ← e, List.getD_eq_getElem?_getD, List.getElem?_eq_getElem hi]
        exact List.getElem_mem _
      · rw [if_neg e]
        refine hc () (fun j hj => ?_)
        by_cases e2 : j = i
        · subst e2; exact e
        · exact hI j (by omega)
  rw [h, Bool.eq_iff_iff, decide_eq_true_eq, decide_eq_true_eq]
  unfold bl
  rw [List.mem_map]
  constructor
  · rintro ⟨j, hj, e⟩
    have : j = set := by omega
    subst this
    exact (bsts_mem.1 hj).2
  · intro h; exact ⟨set, bsts_mem.2 ⟨hs, h⟩, rfl⟩
theorem vls_b' {r : Int} {least : Int} (h0 : 0 ≤ least) (h : p_impl_isAgain p g r least = true) {t : Int} (hc : ocm p t = true) {k : Nat} (hk : k ≤ 2) : vls p.length (sc p g) k t.toNat ≤ 10000000 := by
  have ho := again_iff.1 h
  have hc' := of_decide_eq_true hc
  exact vls_b ho.goal ho.l1 ho.l3 (pool_faces ho.pool) hk _ (by omega)
theorem one_ok (h6 : Six p) (hf : 100000 < fu) {t set r : Int} (hc : (p_impl_isAgain p g r 1 && ocm p t && stm p set) = true) (K : Option Bool) :
    (p_impl_ValueOf fu p g t r).bind (fun r589 => (p_impl_BestSets fu p g t r).bind (fun r590 => (if ((((!r589.2) || (!r590.2)) || (p_laws_vLess r589.1 (sF p g t set r))) || ((decide ((sF p g t set r) = r589.1)) != (p_laws_vHas r590.1 set))) = true then some false else K))) = K := by
  rw [Bool.and_eq_true] at hc
  obtain ⟨hc, hst⟩ := hc
  have hc2 := hc
  rw [Bool.and_eq_true] at hc2
  have ho := again_iff.1 hc2.1
  have ha0 : p_impl_isAgain p g r 0 = true := again_iff.2 ⟨ho.pool, ho.l1, ho.l3, ho.goal, by have := ho.r0; omega, ho.r2⟩
  have hs' := of_decide_eq_true hst
  have hr0 := ho.r0
  have hr2 := ho.r2
  obtain ⟨p1, p2, _⟩ := pow6 ho.l3 (show r.toNat ≤ 2 by omega)
  have eV := (valueOf_eq (g := g) h6 hf t r).1
  rw [if_pos (by rw [ha0, hc2.2]; rfl)] at eV
  have eB := (bestSets_eq (g := g) h6 hf t r).1
  rw [if_pos hc] at eB
  rw [eV, eB, Option.bind_some, Option.bind_some]
  obtain ⟨sn, rfl⟩ : ∃ sn : Nat, set = (sn : Int) := ⟨set.toNat, by omega⟩
  have hle : sv p.length (vls p.length (sc p g) (r - 1).toNat) t.toNat sn ≤ vls p.length (sc p g) r.toNat t.toNat := by
    have := mxs_ge (sv p.length (vls p.length (sc p g) (r - 1).toNat) t.toNat) (2 ^ p.length) sn (by omega)
    rw [show r.toNat = (r - 1).toNat + 1 by omega]
    exact this
  have hvb := vls_b' (k := r.toNat) (by omega) hc2.1 hc2.2 (by omega)
  have e1 : p_laws_vLess (vF p g t r) (sF p g t (sn : Int) r) = false := by
    unfold vF sF
    rw [less_any _ _ _ _ p2 p2 (by omega) (by rw [Int.toNat_natCast]; omega) (by omega) (by omega), decide_eq_false_iff_not, Int.toNat_natCast]
    have := Nat.mul_le_mul_right (6 ^ (p.length * r.toNat)) hle
    omega
  have e2 : decide (sF p g t (sn : Int) r = vF p g t r) = p_laws_vHas (bF p g t r) (sn : Int) := by
    unfold vF sF bF
    rw [has_bl _ _ _ _ (by omega), Bool.eq_iff_iff, decide_eq_true_eq, decide_eq_true_eq, cut_inj p2, Int.toNat_natCast]
  dsimp only
  rw [e1, e2]
  simp
theorem fine_ok (h6 : Six p) (hf : 100000 < fu) {t r : Int} (hc : (p_impl_isAgain p g r 1 && ocm p t) = true) (K : Option Bool) :
    (p_impl_SetValue fu p g t ((bF p g t r).getD 0 0) r).bind (fun r472 => (p_impl_ValueOf fu p g t (IntKind.wrap .i64 (r - 1))).bind (fun r473 => (if ((((((!r472.2) || (!r473.2)) || (decide (((bF p g t r).length : Int) < 1))) || (!(decide (((bF p g t r).getD 0 0) = ((bF p g t r).getD 0 0))))) || (!(decide (r472.1 = (vF p g t r))))) || (p_laws_vLess (vF p g t r) r473.1)) = true then some false else K))) = K := by
  obtain ⟨b, b1, b2, b3, b4⟩ := bF_pos hc
  have hc2 := hc
  rw [Bool.and_eq_true] at hc2
  have ho := again_iff.1 hc2.1
  have hr0 := ho.r0
  have hr2 := ho.r2
  obtain ⟨p1, p2, _⟩ := pow6 ho.l3 (show r.toNat ≤ 2 by omega)
  obtain ⟨q1, q2, _⟩ := pow6 ho.l3 (show (r - 1).toNat ≤ 2 by omega)
  have hst : stm p ((bF p g t r).getD 0 0) = true := by
    rw [b1]; exact decide_eq_true (by omega)
  have ew : IntKind.wrap .i64 (r - 1) = r - 1 := wrap_i64 (by omega) (by omega)
  have ha0 : p_impl_isAgain p g (r - 1) 0 = true := again_iff.2 ⟨ho.pool, ho.l1, ho.l3, ho.goal, by omega, by omega⟩
  have hvb := vls_b' (k := r.toNat) (by omega) hc2.1 hc2.2 (by omega)
  have hvb2 := vls_b' (k := (r - 1).toNat) (by omega) hc2.1 hc2.2 (by omega)
  have hc' := of_decide_eq_true hc2.2
  have eS := (setValue_eq (g := g) h6 hf t ((bF p g t r).getD 0 0) r).1
  rw [if_pos (by rw [hc, hst]; rfl)] at eS
  have eV := (valueOf_eq (g := g) h6 hf t (r - 1)).1
  rw [if_pos (by rw [ha0, hc2.2]; rfl)] at eV
  rw [eS, ew, eV, Option.bind_some, Option.bind_some]
  have e1 : sF p g t ((bF p g t r).getD 0 0) r = vF p g t r := by
    unfold sF vF
    rw [b1, Int.toNat_natCast, b4]
  have e2 : p_laws_vLess (vF p g t r) (vF p g t (r - 1)) = false := by
    unfold vF
    rw [less_any _ _ _ _ p2 q2 (by omega) (by omega) (by omega) (by omega), decide_eq_false_iff_not]
    have hup := vls_up p.length (sc p g) (r - 1).toNat (t := t.toNat) (by omega)
    rw [show (r - 1).toNat + 1 = r.toNat by omega] at hup
    have hm := Nat.mul_le_mul_right (6 ^ (p.length * (r - 1).toNat)) hup
    have e6 : 6 ^ (p.length * r.toNat) = 6 ^ p.length * 6 ^ (p.length * (r - 1).toNat) := by
      rw [← Nat.pow_add, show r.toNat = (r - 1).toNat + 1 by omega, Nat.mul_add, Nat.mul_one, Nat.add_comm]
    rw [e6]
    have e7 : vls p.length (sc p g) (r - 1).toNat t.toNat * (6 ^ p.length * 6 ^ (p.length * (r - 1).toNat)) = 6 ^ p.length * vls p.length (sc p g) (r - 1).toNat t.toNat * 6 ^ (p.length * (r - 1).toNat) := by
      rw [← Nat.mul_assoc, Nat.mul_comm (vls p.length (sc p g) (r - 1).toNat t.toNat)]
    omega
  dsimp only
  rw [e1, e2]
  simp
  omega
theorem last_ok (h6 : Six p) (hf : 100000 < fu) {t : Int} (hc : (p_impl_isAgain p g 0 0 && ocm p t) = true) :
    (p_impl_RollAt fu p t).bind (fun r455 => (p_impl_ScoreOf g r455.1).bind (fun r457 => some ((r455.2 && r457.2) && (decide ((vF p g t 0) = [r457.1, 1]))))) = some true := by
  rw [Bool.and_eq_true] at hc
  have ho := again_iff.1 hc.1
  have h3 := ho.l3
  have hc' := of_decide_eq_true hc.2
  obtain ⟨tn, rfl⟩ : ∃ tn : Nat, t = (tn : Int) := ⟨t.toNat, by omega⟩
  have hp := pool_faces ho.pool
  obtain ⟨s1, s2, s3⟩ := sc_ok ho.goal ho.l1 h3 hp tn
  have hroll : p_impl_RollAt fu p (tn : Int) = some (rl p tn, true) := by
    unfold p_impl_RollAt
    rw [(outc_eq (by omega) (by omega) _).1, ho.pool, hc.2]
    simp only [Option.isSome_some, Option.getD_some, Bool.not_true, Bool.or_self, if_true, implies_true, Bool.false_eq_true, if_false]
    rw [rollAt_eq (by omega) (by omega) (by omega)]; rfl
  have hscore : p_impl_ScoreOf g (rl p tn) = some (((sc p g tn : Nat) : Int), true) := by
    unfold p_impl_ScoreOf
    have ha : p_impl_areAll_int (rl p tn) = true := by
      rw [areAll_eq, List.all_eq_true]
      intro v hv
      obtain ⟨i, hi, e⟩ := List.getElem_of_mem hv
      have := rl_faces hp tn i hi
      rw [List.getD_eq_getElem?_getD, List.getElem?_eq_getElem hi, Option.getD_some, e] at this
      rw [within_eq, decide_eq_true_eq]; exact this
    rw [geta, ho.goal, ha, within_eq, rl_len, decide_eq_true (by have := ho.l1; omega), if_neg (by decide), s2]; rfl
  rw [hroll, Option.bind_some, hscore, Option.bind_some]
  have e : vF p g (tn : Int) 0 = [((sc p g tn : Nat) : Int), 1] := by
    unfold vF cutF
    rw [show (0 : Int).toNat = 0 from rfl, Nat.mul_zero, Nat.pow_zero, Nat.gcd_one_right, Nat.div_one, Nat.div_one, Int.toNat_natCast]; rfl
  rw [e]
  simp
end
end Go.GA.E
namespace Go.GA
open Go
theorem goal6_ok {x : List Int} (hx : Bytes x) {x1 x2 : Int} (h0 : 0 ≤ x1) (h1 : x1 ≤ 1000000) : ∃ g a s, p_spec_l1Cur_goal6 x x1 x2 = some (g, a, s) ∧ 0 ≤ a ∧ a ≤ x1 + 10 := by
  unfold p_spec_l1Cur_goal6
  obtain ⟨v, a, s, e1, _, _, a1, a2⟩ := pick_ok hx (n := 5) (at_ := x1) (s := x2) h0 (by omega) (by omega)
  rw [e1, Option.bind_some]
  unfold jn
  have key : ∀ s2 : Int × Int × Int, 0 ≤ s2.1 → s2.1 ≤ x1 + 4 → ∃ g a s, (p_spec_l1Cur_pick 40 x s2.1 s2.2.1).bind (fun r5 => (if r5.1 = 0 then (p_spec_l1Cur_among [0, 6, (-1)] x r5.2.1 r5.2.2).bind (fun r9 => some ((r9.1, (s2.2.2, ())), r9.2.1, r9.2.2)) else (if r5.1 = 1 then (p_spec_l1Cur_among [(-1), 121, 1] x r5.2.1 r5.2.2).bind (fun r13 => some (((IntKind.wrap .i64 (1 + v)), (r13.1, ())), r13.2.1, r13.2.2)) else some (((IntKind.wrap .i64 (1 + v)), (s2.2.2, ())), r5.2.1, r5.2.2)))) = some (g, a, s) ∧ 0 ≤ a ∧ a ≤ x1 + 10 := by
    intro s2 g0 g1
    obtain ⟨v2, b, s', e2, _, _, b1, b2⟩ := pick_ok hx (n := 40) (at_ := s2.1) (s := s2.2.1) g0 (by omega) (by omega)
    rw [e2, Option.bind_some]
    dsimp only
    by_cases c1 : v2 = 0
    · rw [if_pos c1]
      obtain ⟨v3, c, s3, e3, _, c3, c4⟩ := among_ok hx (l := [0, 6, (-1)]) (at_ := b) (s := s') (by simp) (by simp) (by omega) (by omega)
      rw [e3]
      exact ⟨_, _, _, rfl, by dsimp only; omega, by dsimp only; omega⟩
    · rw [if_neg c1]
      by_cases c2 : v2 = 1
      · rw [if_pos c2]
        obtain ⟨v3, c, s3, e3, _, c3, c4⟩ := among_ok hx (l := [(-1), 121, 1]) (at_ := b) (s := s') (by simp) (by simp) (by omega) (by omega)
        rw [e3]
        exact ⟨_, _, _, rfl, by dsimp only; omega, by dsimp only; omega⟩
      · rw [if_neg c2]
        exact ⟨_, _, _, rfl, by omega, by omega⟩
  split
  · obtain ⟨v3, c, s3, e3, _, c3, c4⟩ := among_ok hx (l := [7, 10, 9, 12, 4, 15, 0, 120]) (at_ := a) (s := s) (by simp) (by simp) (by omega) (by omega)
    rw [e3]
    exact key (c, s3, v3) (by dsimp only; omega) (by dsimp only; omega)
  · exact key (a, s, 0) (by dsimp only; omega) (by dsimp only; omega)
theorem again6_ok {x : List Int} (hx : Bytes x) {fu : Nat} (hf : 2000 < fu) {x1 x2 : Int} (h0 : 0 ≤ x1) (h1 : x1 ≤ 100000) : ∃ p g n r a s, p_spec_l1Cur_again6 fu x x1 x2 = some (p, g, n, r, a, s) ∧ E.Six p ∧ 0 ≤ a ∧ a ≤ x1 + 1000 := by
  unfold p_spec_l1Cur_again6
  obtain ⟨p, a, s, e1, h6, a1, a2⟩ := few_ok hx (fu := fu) (by omega) (x1 := x1) (x2 := x2) h0 (by omega)
  rw [e1, Option.bind_some]
  dsimp only
  obtain ⟨g, b, s2, e2, b1, b2⟩ := goal6_ok hx (x1 := a) (x2 := s) a1 (by omega)
  rw [e2, Option.bind_some]
  dsimp only
  obtain ⟨v3, c, s3, e3, _, _, c1, c2⟩ := pick_ok hx (n := 6) (at_ := b) (s := s2) b1 (by omega) (by omega)
  rw [e3, Option.bind_some]
  dsimp only
  obtain ⟨v4, d, s4, e4, _, _, d1, d2⟩ := pick_ok hx (n := 36) (at_ := c) (s := s3) (by omega) (by omega) (by omega)
  rw [e4, Option.bind_some]
  dsimp only
  obtain ⟨v5, e, s5, e5, _, _, f1, f2⟩ := pick_ok hx (n := 216) (at_ := d) (s := s4) (by omega) (by omega) (by omega)
  rw [e5, Option.bind_some]
  dsimp only
  obtain ⟨v6, f, s6, e6, v60, v61, g1, g2⟩ := pick_ok hx (n := 24) (at_ := e) (s := s5) (by omega) (by omega) (by omega)
  rw [e6, Option.bind_some]
  dsimp only
  have hq : v6.tdiv 22 = 0 ∨ v6.tdiv 22 = 1 := by
    obtain ⟨m, rfl⟩ : ∃ m : Nat, v6 = (m : Int) := ⟨v6.toNat, by omega⟩
    have : (m : Int).tdiv 22 = ((m / 22 : Nat) : Int) := rfl
    omega
  have tail : ∀ l : List Int, 0 < l.length → l.length ≤ 10 → ∃ p' g' n r a' s', (p_spec_l1Cur_among l x f s6).bind (fun r10 => jn (fun (s11 : Int × Int × Int) => (p_spec_l1Cur_pick 24 x s11.2.1 s11.2.2).bind (fun r14 => if 0 ≤ (IntKind.wrap .i64 (4 + (IntKind.wrap .i64 (r14.1.tdiv 11)))) then if (IntKind.wrap .i64 (4 + (IntKind.wrap .i64 (r14.1.tdiv 11)))) ≤ 6 then (p_spec_l1Cur_among ([1, 2, 1, 0, 3, (-1)].take (IntKind.wrap .i64 (4 + (IntKind.wrap .i64 (r14.1.tdiv 11)))).toNat) x r14.2.1 r14.2.2).bind (fun r17 => some (p, (g.1, (g.2.1, ())), s11.1, r17.1, r17.2.1, r17.2.2)) else none else none)) (fun k12 => (p_spec_l2Pool p).bind (fun r30 => (if r30 = true then (p_spec_l1Cur_one 12 x r10.2.1 r10.2.2).bind (fun r32 => (if r32.1 = true then k12 (r10.1, r32.2.1, r32.2.2) else (p_spec_l2All fu (p.length : Int)).bind (fun r34 => (p_spec_l1Cur_pick r34 x r32.2.1 r32.2.2).bind (fun r35 => k12 (r35.1, r35.2.1, r35.2.2))))) else k12 (r10.1, r10.2.1, r10.2.2))))) = some (p', g', n, r, a', s') ∧ E.Six p' ∧ 0 ≤ a' ∧ a' ≤ x1 + 1000 := by
    intro l hl1 hl2
    obtain ⟨v7, i, s7, e7, _, i1, i2⟩ := among_ok hx (l := l) (at_ := f) (s := s6) hl1 (by omega) (by omega) (by omega)
    rw [e7, Option.bind_some]
    unfold jn
    have key : ∀ s11 : Int × Int × Int, 0 ≤ s11.2.1 → s11.2.1 ≤ x1 + 700 → ∃ p' g' n r a' s', (p_spec_l1Cur_pick 24 x s11.2.1 s11.2.2).bind (fun r14 => if 0 ≤ (IntKind.wrap .i64 (4 + (IntKind.wrap .i64 (r14.1.tdiv 11)))) then if (IntKind.wrap .i64 (4 + (IntKind.wrap .i64 (r14.1.tdiv 11)))) ≤ 6 then (p_spec_l1Cur_among ([1, 2, 1, 0, 3, (-1)].take (IntKind.wrap .i64 (4 + (IntKind.wrap .i64 (r14.1.tdiv 11)))).toNat) x r14.2.1 r14.2.2).bind (fun r17 => some (p, (g.1, (g.2.1, ())), s11.1, r17.1, r17.2.1, r17.2.2)) else none else none) = some (p', g', n, r, a', s') ∧ E.Six p' ∧ 0 ≤ a' ∧ a' ≤ x1 + 1000 := by
      intro s11 k0 k1
      obtain ⟨v8, j, s8, e8, v80, v81, j1, j2⟩ := pick_ok hx (n := 24) (at_ := s11.2.1) (s := s11.2.2) k0 (by omega) (by omega)
      rw [e8, Option.bind_some]
      dsimp only
      have hq8 : v8.tdiv 11 = 0 ∨ v8.tdiv 11 = 1 ∨ v8.tdiv 11 = 2 := by
        obtain ⟨m, rfl⟩ : ∃ m : Nat, v8 = (m : Int) := ⟨v8.toNat, by omega⟩
        have : (m : Int).tdiv 11 = ((m / 11 : Nat) : Int) := rfl
        omega
      have fin : ∀ l : List Int, 0 < l.length → l.length ≤ 10 → ∃ p' g' n r a' s', (p_spec_l1Cur_among l x j s8).bind (fun r17 => some (p, (g.1, (g.2.1, ())), s11.1, r17.1, r17.2.1, r17.2.2)) = some (p', g', n, r, a', s') ∧ E.Six p' ∧ 0 ≤ a' ∧ a' ≤ x1 + 1000 := by
        intro l z1 z2
        obtain ⟨v9, q, s9, e9, _, q1, q2⟩ := among_ok hx (l := l) (at_ := j) (s := s8) z1 (by omega) (by omega) (by omega)
        rw [e9]
        exact ⟨_, _, _, _, _, _, rfl, h6, by dsimp only; omega, by dsimp only; omega⟩
      rcases hq8 with h | h | h
      · rw [h, if_pos (by decide), if_pos (by decide)]; exact fin _ (by decide) (by decide)
      · rw [h, if_pos (by decide), if_pos (by decide)]; exact fin _ (by decide) (by decide)
      · rw [h, if_pos (by decide), if_pos (by decide)]; exact fin _ (by decide) (by decide)
    dsimp only
    rw [E.pool_eq h6, Option.bind_some]
    by_cases hp : p_impl_IsPool p = true
    · rw [if_pos hp]
      obtain ⟨bb, o, so, eo, o1, o2⟩ := oneD_ok hx (n := 12) (at_ := i) (s := s7) (by omega) (by omega) (by omega)
      rw [eo, Option.bind_some]
      dsimp only
      by_cases hbb : bb = true
      · rw [if_pos hbb]
        exact key (v7, o, so) (by dsimp only; omega) (by dsimp only; omega)
      · rw [if_neg hbb]
        have h4 := (E.pool_len hp).2
        have h64 : 6 ^ p.length ≤ 6 ^ 4 := Nat.pow_le_pow_right (by omega) h4
        have e64 : (6 : Nat) ^ 4 = 1296 := by decide
        rw [E.all6 (by omega) (by omega), Option.bind_some]
        obtain ⟨v10, w, sw, e10, _, _, w1, w2⟩ := pick_ok hx (n := ((6 ^ p.length : Nat) : Int)) (at_ := o) (s := so) (by omega) (by omega) (by omega)
        rw [e10, Option.bind_some]
        exact key (v10, w, sw) (by dsimp only; omega) (by dsimp only; omega)
    · rw [if_neg hp]
      exact key (v7, i, s7) (by dsimp only; omega) (by dsimp only; omega)
  rcases hq with h | h
  · rw [h, if_pos (by decide), if_pos (by decide)]; exact tail _ (by simp; decide) (by simp; decide)
  · rw [h, if_pos (by decide), if_pos (by decide)]; exact tail _ (by simp; decide) (by simp; decide)
theorem drawValueOf {x : List Int} (hx : Bytes x) {fu : Nat} (hf : 2000 < fu) : ∃ p g n r, p_spec_DrawValueOf fu x = some (p, g, n, r) ∧ E.Six p := by
  obtain ⟨p, g, n, r, a, s, e, h6, _⟩ := again6_ok hx hf (x1 := 0) (x2 := 0) (by omega) (by omega)
  unfold p_spec_DrawValueOf
  rw [e]
  exact ⟨_, _, _, _, rfl, h6⟩
theorem drawSetValue {x : List Int} (hx : Bytes x) {fu : Nat} (hf : 2000 < fu) : ∃ p g n set r, p_spec_DrawSetValue fu x = some (p, g, n, set, r) ∧ E.Six p := by
  obtain ⟨p, g, n, r, a, s, e, h6, a0, a1⟩ := again6_ok hx hf (x1 := 0) (x2 := 0) (by omega) (by omega)
  unfold p_spec_DrawSetValue
  rw [e, Option.bind_some]
  dsimp only
  obtain ⟨v3, c, s3, e3, _, _, c1, c2⟩ := pick_ok hx (n := 8) (at_ := a) (s := s) a0 (by omega) (by omega)
  rw [e3, Option.bind_some]
  dsimp only
  obtain ⟨v4, d, s4, e4, _, _, d1, d2⟩ := pick_ok hx (n := 24) (at_ := c) (s := s3) (by omega) (by omega) (by omega)
  rw [e4]
  exact ⟨_, _, _, _, _, rfl, h6⟩
theorem cut_bytes {x : List Int} (hx : Bytes x) (hl : x.length ≤ 65536) {n : Int} (hn : 0 ≤ n ∧ n ≤ 2) : ∃ y, p_laws_vCut x n = some y ∧ Bytes y ∧ y.length ≤ 70000 := by
  have key : ∀ s1 : Int, 0 ≤ s1 → s1 ≤ x.length → s1 ≤ 2 → ∃ y, (if 0 ≤ s1 then if s1 ≤ (x.length : Int) then if 0 + ((x.length : Int) - s1) ≤ 1000000000 then if (0 + ((x.length : Int) - s1)) + 1 ≤ 1000000000 then some (([] ++ (x.drop s1.toNat)) ++ [(IntKind.wrap .u8 s1)]) else none else none else none else none) = some y ∧ Bytes y ∧ y.length ≤ 70000 := by
    intro s1 h0 h1 h2
    rw [if_pos h0, if_pos h1, if_pos (by omega), if_pos (by omega)]
    refine ⟨_, rfl, fun b hb => ?_, by rw [List.nil_append, List.length_append, List.length_drop]; simp only [List.length_cons, List.length_nil]; omega⟩
    rcases List.mem_append.1 hb with h | h
    · rw [List.nil_append] at h
      exact hx b (List.mem_of_mem_drop h)
    · have e : b = IntKind.wrap .u8 s1 := by simpa using h
      rcases (by omega : s1 = 0 ∨ s1 = 1 ∨ s1 = 2) with h | h | h
      · rw [e, h]; decide
      · rw [e, h]; decide
      · rw [e, h]; decide
  unfold p_laws_vCut jn
  simp only
  split
  · exact key _ (by omega) (by omega) (by omega)
  · exact key n (by omega) (by omega) (by omega)
theorem vInts_self (l : List Int) : p_laws_vInts l l = true := by
  unfold p_laws_vInts
  rw [if_pos rfl]
  refine cnt_ind0 l.length (fun _ _ => True) (fun r => r = true) (by omega) trivial (fun s _ => rfl) (fun i s c _ _ hc => ?_)
  rw [if_pos rfl]
  exact hc () trivial
theorem law_FnAgain {x : List Int} (hx : Bytes x) {fu : Nat} (hf : 100000 < fu) : p_laws_FnAgain fu x = some true := by
  unfold p_laws_FnAgain
  by_cases hb : p_laws_vBig x = true
  · rw [if_pos hb]
  · rw [if_neg hb]
    have hlen : x.length ≤ 65536 := by
      unfold p_laws_vBig at hb
      simp at hb
      omega
    obtain ⟨p, g, t, r, d1, h6⟩ := drawValueOf hx (fu := fu) (by omega)
    obtain ⟨x1, q1, hx1, hl1⟩ := cut_bytes hx hlen (n := 1) (by omega)
    obtain ⟨u, h, from_, set, s, d2, k6⟩ := drawSetValue hx1 (fu := fu) (by omega)
    have v1 := E.valueOf_eq (g := g) h6 hf t r
    have v2 := E.bestSets_eq (g := g) h6 hf t r
    have v3 := E.bestSet_eq (g := g) h6 hf t r
    have v4 := E.setValue_eq (g := h) k6 hf from_ set s
    rw [d1, Option.bind_some]
    simp only [E.geta]
    rw [v1.1, Option.bind_some, v1.2, Option.bind_some, v2.1, Option.bind_some, v2.2, Option.bind_some, v3.1, Option.bind_some, v3.2, Option.bind_some, q1, Option.bind_some, d2, Option.bind_some]
    simp only [E.geta]
    rw [v4.1, Option.bind_some, v4.2, Option.bind_some]
    have c10 : (p_impl_isAgain p g r 1 && E.ocm p t) = true → (p_impl_isAgain p g r 0 && E.ocm p t) = true := fun hc => by
      rw [Bool.and_eq_true] at hc
      have ho := E.again_iff.1 hc.1
      rw [Bool.and_eq_true]
      exact ⟨E.again_iff.2 ⟨ho.pool, ho.l1, ho.l3, ho.goal, by have := ho.r0; omega, ho.r2⟩, hc.2⟩
    have hgoal : p_spec_IsGoal g = p_impl_IsGoal g := rfl
    rw [if_neg]
    · unfold jn
      -- what stands behind
      have last : (if ((if (p_impl_isAgain p g r 0 && E.ocm p t) = true then (E.vF p g t r, true) else (List.replicate 2 0, false)).2 && (decide (r = 0))) = true then (p_impl_RollAt fu p t).bind (fun r455 => (p_impl_ScoreOf g r455.1).bind (fun r457 => some ((r455.2 && r457.2) && (decide ((if (p_impl_isAgain p g r 0 && E.ocm p t) = true then (E.vF p g t r, true) else (List.replicate 2 0, false)).1 = [r457.1, 1]))))) else some true) = some true := by
        by_cases hc : (p_impl_isAgain p g r 0 && E.ocm p t) = true
        · simp only [if_pos hc]
          by_cases hr : r = 0
          · subst hr
            rw [if_pos (by decide)]
            exact E.last_ok h6 hf hc
          · rw [if_neg (by simp [hr])]
        · simp only [if_neg hc]
          rw [if_neg (by simp)]
      have fine : (if (if (p_impl_isAgain p g r 1 && E.ocm p t) = true then (E.bF p g t r, true) else ([], false)).2 = true then (p_impl_SetValue fu p g t (if (p_impl_isAgain p g r 1 && E.ocm p t) = true then ((E.bF p g t r).getD 0 0, true) else (0, false)).1 r).bind (fun r472 => (p_impl_ValueOf fu p g t (IntKind.wrap .i64 (r - 1))).bind (fun r473 => (if ((((((!r472.2) || (!r473.2)) || (decide (((if (p_impl_isAgain p g r 1 && E.ocm p t) = true then (E.bF p g t r, true) else ([], false)).1.length : Int) < 1))) || (!(decide (((if (p_impl_isAgain p g r 1 && E.ocm p t) = true then (E.bF p g t r, true) else ([], false)).1.getD 0 0) = (if (p_impl_isAgain p g r 1 && E.ocm p t) = true then ((E.bF p g t r).getD 0 0, true) else (0, false)).1)))) || (!(decide (r472.1 = (if (p_impl_isAgain p g r 0 && E.ocm p t) = true then (E.vF p g t r, true) else (List.replicate 2 0, false)).1)))) || (p_laws_vLess (if (p_impl_isAgain p g r 0 && E.ocm p t) = true then (E.vF p g t r, true) else (List.replicate 2 0, false)).1 r473.1)) = true then some false else (if ((if (p_impl_isAgain p g r 0 && E.ocm p t) = true then (E.vF p g t r, true) else (List.replicate 2 0, false)).2 && (decide (r = 0))) = true then (p_impl_RollAt fu p t).bind (fun r455 => (p_impl_ScoreOf g r455.1).bind (fun r457 => some ((r455.2 && r457.2) && (decide ((if (p_impl_isAgain p g r 0 && E.ocm p t) = true then (E.vF p g t r, true) else (List.replicate 2 0, false)).1 = [r457.1, 1]))))) else some true)))) else (if ((if (p_impl_isAgain p g r 0 && E.ocm p t) = true then (E.vF p g t r, true) else (List.replicate 2 0, false)).2 && (decide (r = 0))) = true then (p_impl_RollAt fu p t).bind (fun r455 => (p_impl_ScoreOf g r455.1).bind (fun r457 => some ((r455.2 && r457.2) && (decide ((if (p_impl_isAgain p g r 0 && E.ocm p t) = true then (E.vF p g t r, true) else (List.replicate 2 0, false)).1 = [r457.1, 1]))))) else some true)) = some true := by
        rw [last]
        by_cases hc : (p_impl_isAgain p g r 1 && E.ocm p t) = true
        · simp only [if_pos hc, if_pos (c10 hc)]
          rw [if_pos trivial]
          have f := E.fine_ok h6 hf hc (some true)
          simp only [eq_self] at f
          exact f
        · simp only [if_neg hc]
          rw [if_neg (by simp)]
      by_cases hc : (p_impl_isAgain u h s 1 && E.ocm u from_ && E.stm u set) = true
      · have one := E.one_ok k6 hf hc (some true)
        simp only [if_pos hc]
        refine (if_pos trivial).trans ?_
        refine Eq.trans ?_ one
        congr 1
        funext r589
        congr 1
        funext r590
        congr 1
      · simp only [if_neg hc]
        exact (if_neg (by simp)).trans fine
    · rw [hgoal]
      by_cases hc : (p_impl_isAgain p g r 1 && E.ocm p t) = true
      · simp only [if_pos hc, if_pos (c10 hc)]
        simp [vInts_self]
      · simp only [if_neg hc]
        simp [vInts_self]
theorem pure_FnAgain {x : List Int} (o : OkT (.slice (.int .u8)) x) : ∃ fu, p_laws_FnAgain fu x = some true := by
  have hx : Bytes x := fun b hb => by
    have h : (Lit.int .u8 b).wf = true := o.2 b hb
    simp only [Lit.wf, Bool.and_eq_true, decide_eq_true_eq] at h
    have e1 : IntKind.u8.min = 0 := by decide
    have e2 : IntKind.u8.max = 255 := by decide
    rw [e1, e2] at h
    exact h
  exact ⟨1000000, law_FnAgain hx (by omega)⟩
end Go.GA
