/- Plain law of FnSumsOfDice. -/
import Derived.Test.YtheplbbbfbbjcaaSK10
namespace Go.GA
open Go
set_option maxRecDepth 100000
def ELoop (T tp : List Int) (lo hi M : Int) (k : (Int × Int × Int × Int) → Option Bool) : Option Bool := cnt (fun i1745 (s1744 : Int × Int × Int × Int) c1746 _ => jn (fun (s1751 : Int) => (if (((decide (0 < (T.getD i1745.toNat 0))) && ((decide (i1745 < lo)) || (decide (hi < i1745)))) || ((p_laws_vHas tp i1745) != (decide ((T.getD i1745.toNat 0) = M)))) = true then some false else c1746 ((IntKind.wrap .i64 (s1744.1 + (T.getD i1745.toNat 0))), (IntKind.wrap .i64 (s1744.2.1 + (IntKind.wrap .i64 (i1745 * (T.getD i1745.toNat 0))))), (IntKind.wrap .i64 (s1744.2.2.1 + (IntKind.wrap .i64 ((IntKind.wrap .i64 (i1745 * i1745)) * (T.getD i1745.toNat 0))))), s1751))) (fun k1752 => (if s1744.2.2.2 < (T.getD i1745.toNat 0) then k1752 (T.getD i1745.toNat 0) else k1752 s1744.2.2.2))) (fun i1745 (s1744 : Int × Int × Int × Int) => k s1744) (Int.toNat (121 - 0)) 0 (0, 0, 0, 0)
theorem loop_ok {x : List (List Int)} (h6 : Six x) (hp : p_impl_IsPool x = true) {M : Int} (hM : MaxOf (tabOf x) M 121) (hM1 : 1 ≤ M) (k : (Int × Int × Int × Int) → Option Bool) : ELoop (tabOf x) (tops (tabOf x) M 121) (x.foldl fLo 0) (x.foldl fHi 0) M k = k ((tabOf x).sum, m1 (tabOf x), m2 (tabOf x), M) := by
  obtain ⟨_, _, c, t⟩ := tab_facts h6 hp
  obtain ⟨f1, f2, f3, f4, f5, f6, f7, f8⟩ := sums_facts h6 hp
  unfold ELoop
  refine cnt_ind0 (S := Int × Int × Int × Int) 121 (fun i s => s.1 = pm (fun _ => 1) (tabOf x) i ∧ s.2.1 = pm (fun i => i) (tabOf x) i ∧ s.2.2.1 = pm (fun i => i * i) (tabOf x) i ∧ 0 ≤ s.2.2.2 ∧ (∀ j, j < i → (tabOf x).getD j 0 ≤ s.2.2.2) ∧ (s.2.2.2 = 0 ∨ ∃ j, j < i ∧ (tabOf x).getD j 0 = s.2.2.2)) (fun r => r = k ((tabOf x).sum, m1 (tabOf x), m2 (tabOf x), M)) rfl ⟨rfl, rfl, rfl, by simp, fun j hj => by omega, .inl rfl⟩ (fun s hs => ?_) (fun i s c' hi hs hc => ?_)
  · obtain ⟨a1, a2, a3, a4, a5, a6⟩ := hs
    obtain ⟨m1', j, hj, m2'⟩ := hM
    have g1 := a5 j hj
    have e : s.2.2.2 = M := by
      rcases a6 with h | ⟨q, hq, h⟩
      · omega
      · have := m1' q hq; omega
    have es : s = ((tabOf x).sum, m1 (tabOf x), m2 (tabOf x), M) := by
      rw [← f6, ← f7, ← f8, ← a1, ← a2, ← a3, ← e]
    rw [es]
  · obtain ⟨a1, a2, a3, a4, a5, a6⟩ := hs
    have hE := ent_le h6 hp i
    have p1 := part_sums h6 hp (i := i) (by omega)
    have p2 := part_sums h6 hp (i := i + 1) (by omega)
    have hcond : ¬ (((decide (0 < ((tabOf x).getD i 0))) && ((decide ((i : Int) < x.foldl fLo 0)) || (decide (x.foldl fHi 0 < (i : Int))))) || ((p_laws_vHas (tops (tabOf x) M 121) (i : Int)) != (decide (((tabOf x).getD i 0) = M)))) = true := by
      have e1 : p_laws_vHas (tops (tabOf x) M 121) (i : Int) = decide (((tabOf x).getD i 0) = M) := by
        rw [has_eq, Bool.eq_iff_iff, decide_eq_true_eq, decide_eq_true_eq, mem_tops]
        constructor
        · exact fun h => h.2
        · exact fun h => ⟨hi, h⟩
      rw [e1]
      have e2 : ((decide (0 < ((tabOf x).getD i 0))) && ((decide ((i : Int) < x.foldl fLo 0)) || (decide (x.foldl fHi 0 < (i : Int))))) = false := by
        by_cases h0 : 0 < (tabOf x).getD i 0
        · have := t.out i (by omega)
          have d1 : decide ((i : Int) < x.foldl fLo 0) = false := by rw [decide_eq_false_iff_not]; omega
          have d2 : decide (x.foldl fHi 0 < (i : Int)) = false := by rw [decide_eq_false_iff_not]; omega
          rw [d1, d2]; simp
        · rw [decide_eq_false h0]; rfl
      rw [e2]; simp
    have w2 : (i : Int) * (i : Int) ≤ 120 * 120 := Int.mul_le_mul (by omega) (by omega) (by omega) (by omega)
    have w3 := mul_le' (a := (i : Int)) (A := 120) (B := 1296) (by omega) hE.1 (by omega) hE.2
    have w4 := mul_le' (a := (i : Int) * (i : Int)) (A := 14400) (B := 1296) (Int.mul_nonneg (by omega) (by omega)) hE.1 (by omega) hE.2
    have w5 : 0 ≤ (i : Int) * (i : Int) := Int.mul_nonneg (by omega) (by omega)
    simp only [pm, Int.one_mul] at p2
    unfold jn
    simp only [Int.toNat_natCast]
    have hnext : ∀ v : Int, 0 ≤ v → (∀ j, j < i + 1 → (tabOf x).getD j 0 ≤ v) → (v = 0 ∨ ∃ j, j < i + 1 ∧ (tabOf x).getD j 0 = v) → (if (((decide (0 < ((tabOf x).getD i 0))) && ((decide ((i : Int) < x.foldl fLo 0)) || (decide (x.foldl fHi 0 < (i : Int))))) || ((p_laws_vHas (tops (tabOf x) M 121) (i : Int)) != (decide (((tabOf x).getD i 0) = M)))) = true then some false else c' ((IntKind.wrap .i64 (s.1 + ((tabOf x).getD i 0))), (IntKind.wrap .i64 (s.2.1 + (IntKind.wrap .i64 ((i : Int) * ((tabOf x).getD i 0))))), (IntKind.wrap .i64 (s.2.2.1 + (IntKind.wrap .i64 ((IntKind.wrap .i64 ((i : Int) * (i : Int))) * ((tabOf x).getD i 0))))), v)) = k ((tabOf x).sum, m1 (tabOf x), m2 (tabOf x), M) := by
      intro v v0 v1 v2
      rw [if_neg hcond, a1, a2, a3, wr (n := pm (fun _ => 1) (tabOf x) i + (tabOf x).getD i 0) (by omega) (by omega), wr (n := (i : Int) * (tabOf x).getD i 0) (by omega) (by omega), wr (n := pm (fun i => i) (tabOf x) i + (i : Int) * (tabOf x).getD i 0) (by omega) (by omega), wr (n := (i : Int) * (i : Int)) (by omega) (by omega), wr (n := (i : Int) * (i : Int) * (tabOf x).getD i 0) (by omega) (by omega), wr (n := pm (fun i => i * i) (tabOf x) i + (i : Int) * (i : Int) * (tabOf x).getD i 0) (by omega) (by omega)]
      exact hc _ ⟨by simp only [pm, Int.one_mul], rfl, rfl, v0, v1, v2⟩
    by_cases hv : s.2.2.2 < (tabOf x).getD i 0
    · rw [if_pos hv]
      refine hnext _ hE.1 (fun j hj => ?_) (.inr ⟨i, by omega, rfl⟩)
      by_cases e : j = i
      · subst e; exact Int.le_refl _
      · have := a5 j (by omega); omega
    · rw [if_neg hv]
      refine hnext _ a4 (fun j hj => ?_) ?_
      · by_cases e : j = i
        · subst e; omega
        · exact a5 j (by omega)
      · rcases a6 with q | ⟨q, hq, hh⟩
        · exact .inl q
        · exact .inr ⟨q, by omega, hh⟩
theorem law_FnSumsOfDice {x : List Int} (hx : Bytes x) {fu : Nat} (hf : 2000 < fu) : p_laws_FnSumsOfDice fu x = some true := by
  obtain ⟨p, n, d1, h6⟩ := draw_ok hx (fu := fu) (by omega)
  obtain ⟨c, okc, c1, c2, c3, c4⟩ := chance_any h6 hf n
  obtain ⟨l, okl, l1, l2, l3, l4⟩ := least_any h6 hf n
  unfold p_laws_FnSumsOfDice
  by_cases hb : p_laws_vBig x = true
  · rw [if_pos hb]
  · rw [if_neg hb, d1, Option.bind_some]
    simp only
    by_cases hp : p_impl_IsPool p = true
    · obtain ⟨t1, t2⟩ := sumTable_eq h6 hp
      obtain ⟨e1, e2⟩ := mean_eq h6 hp hf
      obtain ⟨s1, s2⟩ := spread_eq h6 hp hf
      obtain ⟨b1, b2⟩ := bounds_eq h6 hp
      obtain ⟨M, hM, hM1, u1, u2⟩ := tops_eq h6 hp
      rw [t1, Option.bind_some, t2, Option.bind_some, c1, Option.bind_some, c2, Option.bind_some, l1, Option.bind_some, l2, Option.bind_some, e1, Option.bind_some, e2, Option.bind_some, s1, Option.bind_some, s2, Option.bind_some, b2, Option.bind_some, u1, Option.bind_some, u2, Option.bind_some]
      rw [if_pos (fun _ => by rw [isPool_spec h6]; rfl), isPool_spec h6, b1, ints_self]
      have hlc : okl = okc := by rw [l3, c3]
      rw [if_neg (by rw [hlc]; simp [hp]), if_pos rfl]
      have key := loop_ok h6 hp hM hM1 (EPost fu p (tabOf p) (p.foldl fLo 0) (p.foldl fHi 0) M (cutF (p.foldl fA 0).toNat 6) (cutF (p.foldl fV 0).toNat 36) (ETail fu p n (tabOf p) c l okc))
      refine Eq.trans (b := ELoop (tabOf p) (tops (tabOf p) M 121) (p.foldl fLo 0) (p.foldl fHi 0) M (EPost fu p (tabOf p) (p.foldl fLo 0) (p.foldl fHi 0) M (cutF (p.foldl fA 0).toNat 6) (cutF (p.foldl fV 0).toNat 36) (ETail fu p n (tabOf p) c l okc))) rfl ?_
      rw [key]
      refine post_ok h6 hp hf _ (tail_ok h6 hp hf (fun hk => ?_))
      have hr := c3
      rw [hk, hp] at hr
      have hr2 : 0 ≤ n ∧ n ≤ 120 := by simpa using hr.symm
      exact ⟨hr2, c4 hk, l4 (by rw [hlc]; exact hk)⟩
    · have hp' : p_impl_IsPool p = false := by simpa using hp
      obtain ⟨t1, t2, e1, e2, s1, s2, b1, b2, u1, u2⟩ := none_all h6 hp' fu
      rw [t1, Option.bind_some, t2, Option.bind_some, c1, Option.bind_some, c2, Option.bind_some, l1, Option.bind_some, l2, Option.bind_some, e1, Option.bind_some, e2, Option.bind_some, s1, Option.bind_some, s2, Option.bind_some, b2, Option.bind_some, u1, Option.bind_some, u2, Option.bind_some]
      rw [if_pos (fun _ => by rw [isPool_spec h6]; rfl), isPool_spec h6, b1, ints_self]
      have hlc : okl = okc := by rw [l3, c3]
      rw [if_neg (by rw [hlc]; simp [hp']), if_neg (by simp)]
theorem pure_FnSumsOfDice {x : List Int} (o : OkT (.slice (.int .u8)) x) : ∃ fu, p_laws_FnSumsOfDice fu x = some true := by
  have hx : Bytes x := fun b hb => by
    have h : (Lit.int .u8 b).wf = true := o.2 b hb
    simp only [Lit.wf, Bool.and_eq_true, decide_eq_true_eq] at h
    have e1 : IntKind.u8.min = 0 := by decide
    have e2 : IntKind.u8.max = 255 := by decide
    rw [e1, e2] at h
    exact h
  exact ⟨10000, law_FnSumsOfDice hx (by omega)⟩
end Go.GA
