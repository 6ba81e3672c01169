/- Plain law of FnSumsOfDice: the checks behind the loop. -/
import Derived.Test.YtheplbbbfbbjcaaSK9
namespace Go.GA
open Go
set_option maxRecDepth 100000
/-- mean and spread are those of the table -/
theorem mean_check {A N M1 a b g : Int} (h : 6 * M1 = N * A) (h1 : A = g * a) (h2 : 6 = g * b) (hg : 0 < g) : M1 * b = a * N := by
  have : g * (M1 * b) = g * (a * N) := by grind
  exact Int.eq_of_mul_eq_mul_left (by omega) this
theorem spread_check {V N D a b g : Int} (h : 36 * D = N * N * V) (h1 : V = g * a) (h2 : 36 = g * b) (hg : 0 < g) : D * b = a * N * N := by
  have : g * (D * b) = g * (a * N * N) := by grind
  exact Int.eq_of_mul_eq_mul_left (by omega) this
theorem after_check {N t t' T l0 l1 a0 a1 c0 c1 : Int} (hN : 0 < N) (h1 : l0 * N = t * l1) (h2 : a0 * N = t' * a1) (h3 : c0 * N = T * c1) (h : t = T + t') : l0 * a1 * c1 = (a0 * c1 + c0 * a1) * l1 := by
  have : N * (l0 * a1 * c1) = N * ((a0 * c1 + c0 * a1) * l1) := by grind
  exact Int.eq_of_mul_eq_mul_left (by omega) this
theorem mul_le' {a b A B : Int} (ha : 0 ≤ a) (hb : 0 ≤ b) (h1 : a ≤ A) (h2 : b ≤ B) : 0 ≤ a * b ∧ a * b ≤ A * B := ⟨Int.mul_nonneg ha hb, Int.mul_le_mul h1 h2 hb (by omega)⟩
section
variable {x : List (List Int)} (h6 : Six x) (hp : p_impl_IsPool x = true)
include h6 hp
/-- the sums of the table -/
theorem sums_facts : (tabOf x).sum = ((6 ^ x.length : Nat) : Int) ∧ 0 ≤ m1 (tabOf x) ∧ m1 (tabOf x) ≤ 155520 ∧ 0 ≤ m2 (tabOf x) ∧ m2 (tabOf x) ≤ 18662400 ∧ pm (fun _ => 1) (tabOf x) 121 = (tabOf x).sum ∧ pm (fun i => i) (tabOf x) 121 = m1 (tabOf x) ∧ pm (fun i => i * i) (tabOf x) 121 = m2 (tabOf x) := by
  obtain ⟨a, b, c, t⟩ := tab_facts h6 hp
  have hn := n_le h6 hp
  have e0 : pm (fun _ => 1) (tabOf x) 121 = (tabOf x).sum := by
    rw [pm_all _ c.len]; exact mom_one _ 0
  have e1 : pm (fun i => i) (tabOf x) 121 = m1 (tabOf x) := pm_all _ c.len
  have e2 : pm (fun i => i * i) (tabOf x) 121 = m2 (tabOf x) := pm_all _ c.len
  have l1 := pm_le (g := fun i => i) (B := 120) c.nn (fun i hi => ⟨by show (0 : Int) ≤ (i : Int); omega, by show (i : Int) ≤ 120; omega⟩) 121 (Nat.le_refl _)
  have l2 := pm_le (g := fun i => i * i) (B := 14400) c.nn (fun i hi => by
    have := mul_le' (a := (i : Int)) (b := (i : Int)) (A := 120) (B := 120) (by omega) (by omega) (by omega) (by omega)
    exact this) 121 (Nat.le_refl _)
  rw [e0, c.sum] at l1 l2
  rw [e1] at l1
  rw [e2] at l2
  refine ⟨c.sum, by omega, by omega, by omega, by omega, e0, e1, e2⟩
theorem part_sums {i : Nat} (hi : i ≤ 121) : (0 ≤ pm (fun _ => 1) (tabOf x) i ∧ pm (fun _ => 1) (tabOf x) i ≤ 1296) ∧ (0 ≤ pm (fun i => i) (tabOf x) i ∧ pm (fun i => i) (tabOf x) i ≤ 155520) ∧ (0 ≤ pm (fun i => i * i) (tabOf x) i ∧ pm (fun i => i * i) (tabOf x) i ≤ 18662400) := by
  obtain ⟨a, b, c, t⟩ := tab_facts h6 hp
  have hn := n_le h6 hp
  have h0 := pm_mono c.nn i (121 - i)
  rw [show i + (121 - i) = 121 by omega, (sums_facts h6 hp).2.2.2.2.2.1, c.sum] at h0
  have l0 := pm_le (g := fun _ => 1) (B := 1) c.nn (fun i hi => ⟨by simp, by simp⟩) i hi
  have l1 := pm_le (g := fun i => i) (B := 120) c.nn (fun i hi => ⟨by show (0 : Int) ≤ (i : Int); omega, by show (i : Int) ≤ 120; omega⟩) i hi
  have l2 := pm_le (g := fun i => i * i) (B := 14400) c.nn (fun i hi => by
    have := mul_le' (a := (i : Int)) (b := (i : Int)) (A := 120) (B := 120) (by omega) (by omega) (by omega) (by omega)
    exact this) i hi
  refine ⟨⟨l0.1, by omega⟩, ⟨l1.1, by omega⟩, ⟨l2.1, by omega⟩⟩
end
def ETail (fu : Nat) (x : List (List Int)) (n : Int) (T r5 r7 : List Int) (ok : Bool) (s1 : Int) : Option Bool := (if ok = true then jn (fun (s2214 : (List Int)) => if 0 ≤ n then if n < 121 then (if ((!(decide ((IntKind.wrap .i64 ((r5.getD 0 0) * s1)) = (IntKind.wrap .i64 ((T.getD n.toNat 0) * (r5.getD 1 0)))))) || (!(decide ((IntKind.wrap .i64 ((IntKind.wrap .i64 ((r7.getD 0 0) * (s2214.getD 1 0))) * (r5.getD 1 0))) = (IntKind.wrap .i64 ((IntKind.wrap .i64 ((IntKind.wrap .i64 ((s2214.getD 0 0) * (r5.getD 1 0))) + (IntKind.wrap .i64 ((r5.getD 0 0) * (s2214.getD 1 0))))) * (r7.getD 1 0))))))) = true then some false else some true) else none else none) (fun k2215 => (if n < 120 then (p_impl_ChanceAtLeast fu x (IntKind.wrap .i64 (n + 1))).bind (fun r2273 => k2215 r2273.1) else k2215 [0, 1])) else some true)
def EPost (fu : Nat) (x : List (List Int)) (T : List Int) (lo hi M : Int) (r9 r11 : List Int) (Z : Int → Option Bool) (s : Int × Int × Int × Int) : Option Bool := (p_laws_vSix fu (x.length : Int)).bind (fun r1794 => if ((!(!(decide (s.1 = r1794)))) = true → 0 ≤ lo) then if ((!(!(decide (s.1 = r1794)))) = true → lo < 121) then if ((!((!(decide (s.1 = r1794))) || (decide ((T.getD lo.toNat 0) < 1)))) = true → 0 ≤ hi) then if ((!((!(decide (s.1 = r1794))) || (decide ((T.getD lo.toNat 0) < 1)))) = true → hi < 121) then (if ((((((!(decide (s.1 = r1794))) || (decide ((T.getD lo.toNat 0) < 1))) || (decide ((T.getD hi.toNat 0) < 1))) || (!(decide (s.2.2.2 = M)))) || (!(decide ((IntKind.wrap .i64 (s.2.1 * (r9.getD 1 0))) = (IntKind.wrap .i64 ((r9.getD 0 0) * s.1)))))) || (!(decide ((IntKind.wrap .i64 ((IntKind.wrap .i64 ((IntKind.wrap .i64 (s.2.2.1 * s.1)) - (IntKind.wrap .i64 (s.2.1 * s.2.1)))) * (r11.getD 1 0))) = (IntKind.wrap .i64 ((IntKind.wrap .i64 ((r11.getD 0 0) * s.1)) * s.1)))))) = true then some false else Z s.1) else none else none else none else none)
section
variable {x : List (List Int)} (h6 : Six x) (hp : p_impl_IsPool x = true)
include h6 hp
theorem tail_ok {fu : Nat} (hf : 2000 < fu) {n : Int} {r5 r7 : List Int} {ok : Bool} (h : ok = true → (0 ≤ n ∧ n ≤ 120) ∧ r5 = cutF ((tabOf x).getD n.toNat 0).toNat (6 ^ x.length) ∧ r7 = cutF (tailS (tabOf x) n.toNat).toNat (6 ^ x.length)) : ETail fu x n (tabOf x) r5 r7 ok ((6 ^ x.length : Nat) : Int) = some true := by
  unfold ETail
  by_cases hk : ok = true
  · obtain ⟨⟨n0, n1⟩, e5, e7⟩ := h hk
    rw [if_pos hk]
    obtain ⟨_, _, c, _⟩ := tab_facts h6 hp
    have hn := n_le h6 hp
    obtain ⟨c0, c1, q1, q2, q3, q4, q5, q6⟩ := cut_of (N := 6 ^ x.length) (ent_le h6 hp n.toNat).1 hn.2
    obtain ⟨l0, l1, p1, p2, p3, p4, p5, p6⟩ := cut_of (N := 6 ^ x.length) (tail_le h6 hp n.toNat).1 hn.2
    have b1 := (ent_le h6 hp n.toNat).2
    have b2 := (tail_le h6 hp n.toNat).2
    have hst := tailS_step (T := tabOf x) (n := n.toNat) (by rw [c.len]; omega)
    rw [q1] at e5
    rw [p1] at e7
    -- what comes behind
    have key : ∀ a0 a1 : Int, a0 * ((6 ^ x.length : Nat) : Int) = tailS (tabOf x) (n.toNat + 1) * a1 → 0 ≤ a0 → a0 ≤ 1296 → 1 ≤ a1 → a1 ≤ 1296 → (if 0 ≤ n then if n < 121 then (if ((!(decide ((IntKind.wrap .i64 ((r5.getD 0 0) * ((6 ^ x.length : Nat) : Int))) = (IntKind.wrap .i64 (((tabOf x).getD n.toNat 0) * (r5.getD 1 0)))))) || (!(decide ((IntKind.wrap .i64 ((IntKind.wrap .i64 ((r7.getD 0 0) * (([a0, a1] : List Int).getD 1 0))) * (r5.getD 1 0))) = (IntKind.wrap .i64 ((IntKind.wrap .i64 ((IntKind.wrap .i64 ((([a0, a1] : List Int).getD 0 0) * (r5.getD 1 0))) + (IntKind.wrap .i64 ((r5.getD 0 0) * (([a0, a1] : List Int).getD 1 0))))) * (r7.getD 1 0))))))) = true then some false else some true) else none else none) = some true := by
      intro a0 a1 ha g0 g1 g2 g3
      rw [if_pos n0, if_pos (by omega), if_neg]
      have f := after_check (by omega) p2 ha q2 hst
      rw [e5, e7]
      show ¬ ((!(decide ((IntKind.wrap .i64 (c0 * ((6 ^ x.length : Nat) : Int))) = (IntKind.wrap .i64 (((tabOf x).getD n.toNat 0) * c1))))) || (!(decide ((IntKind.wrap .i64 ((IntKind.wrap .i64 (l0 * a1)) * c1)) = (IntKind.wrap .i64 ((IntKind.wrap .i64 ((IntKind.wrap .i64 (a0 * c1)) + (IntKind.wrap .i64 (c0 * a1)))) * l1)))))) = true
      have w1 := mul_le' (A := 1296) (B := 1296) p3 (by omega) (by omega) g3 (b := a1)
      have w2 := mul_le' (A := 1296) (B := 1296) g0 (by omega) g1 (by omega) (b := c1)
      have w3 := mul_le' (A := 1296) (B := 1296) q3 (by omega) (by omega) g3 (b := a1)
      rw [q2, wr (n := l0 * a1) (by omega) (by omega), wr (n := a0 * c1) (by omega) (by omega), wr (n := c0 * a1) (by omega) (by omega), wr (n := a0 * c1 + c0 * a1) (by omega) (by omega), f]
      simp
    unfold jn
    simp only
    by_cases hlt : n < 120
    · rw [if_pos hlt, wr (by omega) (by omega), (least_eq h6 hp hf (n := n + 1) (by omega) (by omega)).1, Option.bind_some]
      obtain ⟨a0, a1, s1, s2, s3, s4, s5, s6⟩ := cut_of (N := 6 ^ x.length) (tail_le h6 hp (n + 1).toNat).1 hn.2
      have b3 := (tail_le h6 hp (n + 1).toNat).2
      simp only
      rw [s1]
      exact key a0 a1 (by rw [s2, show (n + 1).toNat = n.toNat + 1 by omega]) s3 (by omega) s5 (by omega)
    · rw [if_neg hlt]
      refine key 0 1 ?_ (by omega) (by omega) (by omega) (by omega)
      rw [tailS_end (by rw [c.len]; omega)]; simp
  · rw [if_neg hk]
theorem post_ok {fu : Nat} (hf : 2000 < fu) {M : Int} (Z : Int → Option Bool) (hZ : Z ((6 ^ x.length : Nat) : Int) = some true) : EPost fu x (tabOf x) (x.foldl fLo 0) (x.foldl fHi 0) M (cutF (x.foldl fA 0).toNat 6) (cutF (x.foldl fV 0).toNat 36) Z ((tabOf x).sum, m1 (tabOf x), m2 (tabOf x), M) = some true := by
  obtain ⟨_, _, c, t⟩ := tab_facts h6 hp
  obtain ⟨_, hm, hd⟩ := pool_six h6 hp
  have hn := n_le h6 hp
  obtain ⟨f1, f2, f3, f4, f5, _⟩ := sums_facts h6 hp
  have hA := fold_le h6 hp (G := fA) (B := 180) (fun s d h => by have := h.sum; unfold fA; omega) (by omega)
  have hV := fold_le h6 hp (G := fV) (B := 32400) (fun s d h => fV_le s h) (by omega)
  have hlo : (x.foldl fLo 0).toNat < 121 := by
    by_cases hc : (x.foldl fLo 0).toNat < (tabOf x).length
    · rw [← c.len]; exact hc
    · have := t.lo1
      rw [List.getD_eq_getElem?_getD, List.getElem?_eq_none (by omega)] at this
      simp at this
  have hhi : (x.foldl fHi 0).toNat < 121 := by
    by_cases hc : (x.foldl fHi 0).toNat < (tabOf x).length
    · rw [← c.len]; exact hc
    · have := t.hi1
      rw [List.getD_eq_getElem?_getD, List.getElem?_eq_none (by omega)] at this
      simp at this
  have l0 := t.l0
  have lh := t.lh
  have lo1 := t.lo1
  have hi1 := t.hi1
  unfold EPost
  rw [six_eq (by omega) (by omega), Option.bind_some, if_pos (fun _ => l0), if_pos (fun _ => by omega), if_pos (fun _ => by omega), if_pos (fun _ => by omega)]
  obtain ⟨a, b, g, e1, g0, g1, g2, g3, g4, g5⟩ := cut_parts (x.foldl fA 0).toNat 6 (by omega)
  obtain ⟨a', b', g', e1', g0', g1', g2', g3', g4', g5'⟩ := cut_parts (x.foldl fV 0).toNat 36 (by omega)
  have k1 := mean_check (A := x.foldl fA 0) (a := a) (b := b) (g := g) t.a (by rw [← Int.natCast_mul, ← g1]; omega) (by rw [← Int.natCast_mul, ← g2]; rfl) (by omega)
  have k2 := spread_check (V := x.foldl fV 0) (a := a') (b := b') (g := g') t.v (by rw [← Int.natCast_mul, ← g1']; omega) (by rw [← Int.natCast_mul, ← g2']; rfl) (by omega)
  rw [if_neg]
  · simp only
    rw [f1]; exact hZ
  · rw [e1, e1']
    show ¬ ((((((!(decide ((tabOf x).sum = ((6 ^ x.length : Nat) : Int)))) || (decide (((tabOf x).getD (x.foldl fLo 0).toNat 0) < 1))) || (decide (((tabOf x).getD (x.foldl fHi 0).toNat 0) < 1))) || (!(decide (M = M)))) || (!(decide ((IntKind.wrap .i64 (m1 (tabOf x) * (b : Int))) = (IntKind.wrap .i64 ((a : Int) * (tabOf x).sum)))))) || (!(decide ((IntKind.wrap .i64 ((IntKind.wrap .i64 ((IntKind.wrap .i64 (m2 (tabOf x) * (tabOf x).sum)) - (IntKind.wrap .i64 (m1 (tabOf x) * m1 (tabOf x))))) * (b' : Int))) = (IntKind.wrap .i64 ((IntKind.wrap .i64 ((a' : Int) * (tabOf x).sum)) * (tabOf x).sum)))))) = true
    have w1 := mul_le' (A := 18662400) (B := 1296) f4 (b := (tabOf x).sum) (by omega) f5 (by omega)
    have w2 := mul_le' (A := 155520) (B := 155520) f2 f2 f3 f3
    have w3 := mul_le' (a := (a' : Int)) (A := 129600) (B := 1296) (b := (tabOf x).sum) (by omega) (by omega) (by omega) (by omega)
    rw [wr (n := m2 (tabOf x) * (tabOf x).sum) (by omega) (by omega), wr (n := m1 (tabOf x) * m1 (tabOf x)) (by omega) (by omega), wr (n := m2 (tabOf x) * (tabOf x).sum - m1 (tabOf x) * m1 (tabOf x)) (by omega) (by omega), wr (n := (a' : Int) * (tabOf x).sum) (by omega) (by omega), k1, k2]
    have d1 : decide ((tabOf x).getD (x.foldl fLo 0).toNat 0 < 1) = false := by rw [decide_eq_false_iff_not]; omega
    have d2 : decide ((tabOf x).getD (x.foldl fHi 0).toNat 0 < 1) = false := by rw [decide_eq_false_iff_not]; omega
    rw [d1, d2]
    simp [f1]
end
end Go.GA
