/- Plain law of FnBeats: chances told, and added. -/
import Derived.Test.YtedakmknjbjlbaaBK10
namespace Go.GA
open Go
set_option maxRecDepth 100000
theorem nat_of {n : Int} (h : 0 ≤ n) : ((n.toNat : Nat) : Int) = n := by omega
theorem pow_le8 {m n : Nat} (hm : m ≤ 4) (hn : n ≤ 4) : 6 ^ (m + n) ≤ 1679616 ∧ 0 < 6 ^ (m + n) := by
  have h2 : 6 ^ (m + n) ≤ 6 ^ 8 := Nat.pow_le_pow_right (by omega) (by omega)
  have h3 : (6 : Nat) ^ 8 = 1679616 := rfl
  exact ⟨by omega, Nat.pow_pos (by omega)⟩
section
variable {x y : List (List Int)} {T U : List Int} (hx : Six x) (hy : Six y) (px : p_impl_IsPool x = true) (py : p_impl_IsPool y = true) (ex : p_impl_sums x = some T) (sx : p_spec_l2Table x = some T) (tx : Tab x.length T) (ey : p_impl_sums y = some U) (sy : p_spec_l2Table y = some U) (ty : Tab y.length U) {fu : Nat} (hf : 2000000 < fu)
include hx hy px py ex sx tx ey sy ty hf
theorem beat_pool : p_impl_ChanceToBeat fu x y = some (cutF (wb T U 121).toNat (6 ^ (x.length + y.length)), true) ∧ p_spec_ChanceToBeat fu x y = some (cutF (wb T U 121).toNat (6 ^ (x.length + y.length)), true) := by
  obtain ⟨_, mx, _⟩ := pool_good hx px
  obtain ⟨_, my, _⟩ := pool_good hy py
  have hp := pow_le8 mx my
  have hw := wb_le tx ty mx my (i := 121) (Nat.le_refl _)
  constructor
  · unfold p_impl_ChanceToBeat
    rw [px, py, if_neg (by simp), ex, Option.bind_some, ey, Option.bind_some]
    refine Eq.trans (beat_I tx ty mx my (fun a => (p_impl_power fu (IntKind.wrap .i64 ((x.length : Int) + (y.length : Int)))).bind (fun r16 => (p_impl_fraction fu a r16).bind (fun r17 => some (r17, true))))) ?_
    rw [wr (by omega) (by omega), ← Int.natCast_add, power_eq (by omega) (by omega), Option.bind_some]
    have := fraction_eq (fu := fu) (wb T U 121).toNat (6 ^ (x.length + y.length)) (by omega) (by omega) (by omega) (by omega)
    rw [nat_of hw.1] at this
    rw [this, Option.bind_some]
  · unfold p_spec_ChanceToBeat
    rw [pool_eq hx, pool_eq hy, px, py, Option.bind_some]
    rw [if_pos (by simp), if_neg (by simp)]
    unfold p_spec_l3Chance
    rw [sx, Option.bind_some, sy, Option.bind_some]
    have e : cnt (fun i4 (s3 : Int) c5 _ => cnt (fun i11 (s10 : Int) c12 _ => (if (((!false) && (decide (i11 < i4))) || (false && (decide (i4 = i11)))) = true then c12 (IntKind.wrap .i64 (s10 + (IntKind.wrap .i64 ((T.getD i4.toNat 0) * (U.getD i11.toNat 0))))) else c12 s10)) (fun i11 (s10 : Int) => c5 s10) (Int.toNat (121 - 0)) 0 s3) (fun i4 (s3 : Int) => (p_spec_l2All fu (x.length : Int)).bind (fun r35 => (p_spec_l2All fu (y.length : Int)).bind (fun r36 => (p_spec_l2Cut fu s3 (IntKind.wrap .i64 (r35 * r36))).bind (fun r37 => some r37)))) (Int.toNat (121 - 0)) 0 0 = some (cutF (wb T U 121).toNat (6 ^ (x.length + y.length))) := by
      refine Eq.trans (beat_S tx ty mx my (fun a => (p_spec_l2All fu (x.length : Int)).bind (fun r35 => (p_spec_l2All fu (y.length : Int)).bind (fun r36 => (p_spec_l2Cut fu a (IntKind.wrap .i64 (r35 * r36))).bind (fun r37 => some r37))))) ?_
      rw [all_eq (by omega) (by omega), Option.bind_some, all_eq (by omega) (by omega), Option.bind_some, ← Int.natCast_mul, ← Nat.pow_add, wrap_nat (by omega)]
      have := cut_eq (fu := fu) (wb T U 121).toNat (6 ^ (x.length + y.length)) (by omega) (by omega) (by omega) (by omega)
      rw [nat_of hw.1] at this
      rw [this, Option.bind_some]
    rw [e, Option.bind_some]
theorem level_pool : p_impl_ChanceLevel fu x y = some (cutF (lv T U 121).toNat (6 ^ (x.length + y.length)), true) ∧ p_spec_ChanceLevel fu x y = some (cutF (lv T U 121).toNat (6 ^ (x.length + y.length)), true) := by
  obtain ⟨_, mx, _⟩ := pool_good hx px
  obtain ⟨_, my, _⟩ := pool_good hy py
  have hp := pow_le8 mx my
  have hw := lv_le tx ty mx my (i := 121) (Nat.le_refl _)
  constructor
  · unfold p_impl_ChanceLevel
    rw [px, py, if_neg (by simp), ex, Option.bind_some, ey, Option.bind_some]
    refine Eq.trans (level_I tx ty mx my (fun a => (p_impl_power fu (IntKind.wrap .i64 ((x.length : Int) + (y.length : Int)))).bind (fun r16 => (p_impl_fraction fu a r16).bind (fun r17 => some (r17, true))))) ?_
    rw [wr (by omega) (by omega), ← Int.natCast_add, power_eq (by omega) (by omega), Option.bind_some]
    have := fraction_eq (fu := fu) (lv T U 121).toNat (6 ^ (x.length + y.length)) (by omega) (by omega) (by omega) (by omega)
    rw [nat_of hw.1] at this
    rw [this, Option.bind_some]
  · unfold p_spec_ChanceLevel
    rw [pool_eq hx, pool_eq hy, px, py, Option.bind_some]
    rw [if_pos (by simp), if_neg (by simp)]
    unfold p_spec_l3Chance
    rw [sx, Option.bind_some, sy, Option.bind_some]
    have e : cnt (fun i4 (s3 : Int) c5 _ => cnt (fun i11 (s10 : Int) c12 _ => (if (((!true) && (decide (i11 < i4))) || (true && (decide (i4 = i11)))) = true then c12 (IntKind.wrap .i64 (s10 + (IntKind.wrap .i64 ((T.getD i4.toNat 0) * (U.getD i11.toNat 0))))) else c12 s10)) (fun i11 (s10 : Int) => c5 s10) (Int.toNat (121 - 0)) 0 s3) (fun i4 (s3 : Int) => (p_spec_l2All fu (x.length : Int)).bind (fun r35 => (p_spec_l2All fu (y.length : Int)).bind (fun r36 => (p_spec_l2Cut fu s3 (IntKind.wrap .i64 (r35 * r36))).bind (fun r37 => some r37)))) (Int.toNat (121 - 0)) 0 0 = some (cutF (lv T U 121).toNat (6 ^ (x.length + y.length))) := by
      refine Eq.trans (level_S tx ty mx my (fun a => (p_spec_l2All fu (x.length : Int)).bind (fun r35 => (p_spec_l2All fu (y.length : Int)).bind (fun r36 => (p_spec_l2Cut fu a (IntKind.wrap .i64 (r35 * r36))).bind (fun r37 => some r37))))) ?_
      rw [all_eq (by omega) (by omega), Option.bind_some, all_eq (by omega) (by omega), Option.bind_some, ← Int.natCast_mul, ← Nat.pow_add, wrap_nat (by omega)]
      have := cut_eq (fu := fu) (lv T U 121).toNat (6 ^ (x.length + y.length)) (by omega) (by omega) (by omega) (by omega)
      rw [nat_of hw.1] at this
      rw [this, Option.bind_some]
    rw [e, Option.bind_some]
end
theorem beat_none {x y : List (List Int)} (hx : Six x) (hy : Six y) (h : (p_impl_IsPool x && p_impl_IsPool y) = false) (fu : Nat) : p_impl_ChanceToBeat fu x y = some (List.replicate 2 0, false) ∧ p_spec_ChanceToBeat fu x y = some (List.replicate 2 0, false) ∧ p_impl_ChanceLevel fu x y = some (List.replicate 2 0, false) ∧ p_spec_ChanceLevel fu x y = some (List.replicate 2 0, false) := by
  have h' : ((!(p_impl_IsPool x)) || (!(p_impl_IsPool y))) = true := by
    cases h1 : p_impl_IsPool x <;> cases h2 : p_impl_IsPool y <;> simp [h1, h2] at h ⊢
  refine ⟨?_, ?_, ?_, ?_⟩
  · unfold p_impl_ChanceToBeat; rw [if_pos h']
  · unfold p_spec_ChanceToBeat
    rw [pool_eq hx, pool_eq hy, Option.bind_some]
    rw [if_pos (by simp), Option.getD_some, if_pos h']
  · unfold p_impl_ChanceLevel; rw [if_pos h']
  · unfold p_spec_ChanceLevel
    rw [pool_eq hx, pool_eq hy, Option.bind_some]
    rw [if_pos (by simp), Option.getD_some, if_pos h']
/-! ### fractions added -/
theorem plus_run (x y : Nat) (hx : x ≤ 9223372036854775807) (hy : y ≤ 9223372036854775807) : ∀ (b a fu : Nat), b < fu → 0 < a + b →
    whl (fun (s1 : Int × Int) c3 => (if 0 < s1.2 then c3 (s1.2, (s1.1.tmod s1.2)) else jn (fun (s8 : Int) => if s8 ≠ 0 then if s8 ≠ 0 then some [(IntKind.wrap .i64 ((x : Int).tdiv s8)), (IntKind.wrap .i64 ((y : Int).tdiv s8))] else none else none) (fun k9 => (if s1.1 < 1 then k9 1 else k9 s1.1)))) fu ((a : Int), (b : Int)) = some [((x / Nat.gcd a b : Nat) : Int), ((y / Nat.gcd a b : Nat) : Int)] := by
  intro b
  induction b using Nat.strongRecOn with
  | _ b ih =>
    intro a fu hf h0
    obtain ⟨f, rfl⟩ : ∃ f, fu = f + 1 := ⟨fu - 1, by omega⟩
    simp only [whl]
    by_cases hb : b = 0
    · subst hb
      have ha : (a : Int) ≠ 0 := by omega
      unfold jn
      simp only
      rw [if_neg (by omega), if_neg (by omega), if_pos ha, if_pos ha, tdiv_nat, tdiv_nat, wrap_nat (Nat.le_trans (Nat.div_le_self _ _) hx), wrap_nat (Nat.le_trans (Nat.div_le_self _ _) hy)]
      simp
    · rw [if_pos (by omega), ← Int.ofNat_tmod]
      have hm : a % b < b := Nat.mod_lt _ (by omega)
      rw [ih (a % b) hm b f (by omega) (by omega)]
      rw [show Nat.gcd b (a % b) = Nat.gcd a b from by rw [Nat.gcd_comm b, ← Nat.gcd_rec, Nat.gcd_comm]]
theorem plus_eq {fu : Nat} {a b c d : Nat} (ha : a ≤ 1679616) (hb : b ≤ 1679616) (hc : c ≤ 1679616) (hd : d ≤ 1679616) (hb0 : 0 < b) (hd0 : 0 < d) (hf : 2821109907456 < fu) : p_laws_rPlus fu [(a : Int), (b : Int)] [(c : Int), (d : Int)] = some (cutF (a * d + c * b) (b * d)) := by
  have h1 : a * d ≤ 1679616 * 1679616 := Nat.mul_le_mul ha hd
  have h2 : c * b ≤ 1679616 * 1679616 := Nat.mul_le_mul hc hb
  have h3 : b * d ≤ 1679616 * 1679616 := Nat.mul_le_mul hb hd
  have h4 : 0 < b * d := Nat.mul_pos hb0 hd0
  have e0 : (1679616 : Nat) * 1679616 = 2821109907456 := rfl
  rw [e0] at h1 h2 h3
  have s1 : IntKind.wrap .i64 ((IntKind.wrap .i64 ((a : Int) * (d : Int))) + (IntKind.wrap .i64 ((c : Int) * (b : Int)))) = ((a * d + c * b : Nat) : Int) := by
    rw [← Int.natCast_mul, ← Int.natCast_mul, wrap_nat (by omega), wrap_nat (by omega), ← Int.natCast_add, wrap_nat (by omega)]
  have s2 : IntKind.wrap .i64 ((b : Int) * (d : Int)) = ((b * d : Nat) : Int) := by
    rw [← Int.natCast_mul, wrap_nat (by omega)]
  have key := plus_run (a * d + c * b) (b * d) (by omega) (by omega) (b * d) (a * d + c * b) fu (by omega) (by omega)
  unfold p_laws_rPlus
  have g : ([(a : Int), (b : Int)] : List Int).getD 0 0 = (a : Int) ∧ ([(a : Int), (b : Int)] : List Int).getD 1 0 = (b : Int) ∧ ([(c : Int), (d : Int)] : List Int).getD 0 0 = (c : Int) ∧ ([(c : Int), (d : Int)] : List Int).getD 1 0 = (d : Int) := ⟨rfl, rfl, rfl, rfl⟩
  rw [g.1, g.2.1, g.2.2.1, g.2.2.2, s1, s2]
  exact key
theorem cut_scale {k p q : Nat} (hk : 0 < k) : cutF (k * p) (k * q) = cutF p q := by
  unfold cutF
  rw [Nat.gcd_mul_left, Nat.mul_div_mul_left _ _ hk, Nat.mul_div_mul_left _ _ hk]
theorem cut_same {p q p' q' : Nat} (hq : 0 < q) (hq' : 0 < q') (h : p * q' = p' * q) : cutF p q = cutF p' q' := by
  rw [← cut_scale (p := p) (q := q) hq', ← cut_scale (p := p') (q := q') hq, Nat.mul_comm q' p, h, Nat.mul_comm p' q, Nat.mul_comm q' q]
/-- two parts of one whole added -/
theorem plus_cut {fu x y N : Nat} (hx : x ≤ N) (hy : y ≤ N) (hN : 0 < N) (hN2 : N ≤ 1679616) (hf : 2821109907456 < fu) : p_laws_rPlus fu (cutF x N) (cutF y N) = some (cutF (x + y) N) := by
  have g1 : 0 < Nat.gcd x N := Nat.gcd_pos_of_pos_right _ hN
  have g2 : 0 < Nat.gcd y N := Nat.gcd_pos_of_pos_right _ hN
  have l1 : N / Nat.gcd x N ≤ N := Nat.div_le_self _ _
  have l2 : N / Nat.gcd y N ≤ N := Nat.div_le_self _ _
  have l3 : x / Nat.gcd x N ≤ x := Nat.div_le_self _ _
  have l4 : y / Nat.gcd y N ≤ y := Nat.div_le_self _ _
  have p1 : 0 < N / Nat.gcd x N := Nat.div_pos (Nat.le_of_dvd hN (Nat.gcd_dvd_right _ _)) g1
  have p2 : 0 < N / Nat.gcd y N := Nat.div_pos (Nat.le_of_dvd hN (Nat.gcd_dvd_right _ _)) g2
  have e1 := Nat.div_mul_cancel (Nat.gcd_dvd_left x N)
  have e2 := Nat.div_mul_cancel (Nat.gcd_dvd_right x N)
  have e3 := Nat.div_mul_cancel (Nat.gcd_dvd_left y N)
  have e4 := Nat.div_mul_cancel (Nat.gcd_dvd_right y N)
  have key := plus_eq (fu := fu) (a := x / Nat.gcd x N) (b := N / Nat.gcd x N) (c := y / Nat.gcd y N) (d := N / Nat.gcd y N) (by omega) (by omega) (by omega) (by omega) p1 p2 hf
  refine Eq.trans key (congrArg some (cut_same (Nat.mul_pos p1 p2) hN ?_))
  generalize x / Nat.gcd x N = a at *
  generalize N / Nat.gcd x N = b at *
  generalize y / Nat.gcd y N = c at *
  generalize N / Nat.gcd y N = d at *
  generalize Nat.gcd x N = g at *
  generalize Nat.gcd y N = h at *
  have q1 : a * N = x * b := by rw [← e1, ← e2]; simp only [Nat.mul_assoc, Nat.mul_comm, Nat.mul_left_comm]
  have q2 : c * N = y * d := by rw [← e3, ← e4]; simp only [Nat.mul_assoc, Nat.mul_comm, Nat.mul_left_comm]
  rw [Nat.add_mul, Nat.add_mul, Nat.mul_right_comm a d N, q1, Nat.mul_right_comm c b N, q2, Nat.mul_assoc x b d, Nat.mul_assoc y d b, Nat.mul_comm d b]
theorem cut_one {N : Nat} (h : 0 < N) : cutF N N = [1, 1] := by
  unfold cutF
  rw [Nat.gcd_self, Nat.div_self h]
  rfl
end Go.GA
