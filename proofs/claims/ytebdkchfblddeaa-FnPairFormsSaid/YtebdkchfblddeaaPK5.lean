/- Plain law of FnPairForms: fractions and powers. -/
import Derived.Test.YtebdkchfblddeaaPK4
namespace Go.GA
open Go
set_option maxRecDepth 100000
theorem wrap_nat {n : Nat} (h : n ≤ 9223372036854775807) : IntKind.wrap .i64 (n : Int) = (n : Int) := wr (by omega) (by omega)
theorem tdiv_nat (a b : Nat) : Int.tdiv (a : Int) (b : Int) = ((a / b : Nat) : Int) := rfl
def cutF (a b : Nat) : List Int := [((a / Nat.gcd a b : Nat) : Int), ((b / Nat.gcd a b : Nat) : Int)]
theorem frac_run (x y : Nat) (hx : x ≤ 9223372036854775807) (hy : y ≤ 9223372036854775807) : ∀ (b a fu : Nat), b < fu → 0 < a + b →
    whl (fun (s1 : Int × Int) c3 => (if s1.2 = 0 then if s1.1 ≠ 0 then if s1.1 ≠ 0 then some [(IntKind.wrap .i64 ((x : Int).tdiv s1.1)), (IntKind.wrap .i64 ((y : Int).tdiv s1.1))] else none else none else if s1.2 ≠ 0 then c3 (s1.2, (s1.1.tmod s1.2)) else none)) fu ((a : Int), (b : Int)) = some [((x / Nat.gcd a b : Nat) : Int), ((y / Nat.gcd a b : Nat) : Int)] := by
  intro b
  induction b using Nat.strongRecOn with
  | _ b ih =>
    intro a fu hf h0
    obtain ⟨f, rfl⟩ : ∃ f, fu = f + 1 := ⟨fu - 1, by omega⟩
    simp only [whl]
    by_cases hb : b = 0
    · subst hb
      have ha : (a : Int) ≠ 0 := by omega
      rw [if_pos (by rfl), if_pos ha, if_pos ha, tdiv_nat, tdiv_nat, wrap_nat (Nat.le_trans (Nat.div_le_self _ _) hx), wrap_nat (Nat.le_trans (Nat.div_le_self _ _) hy)]
      simp
    · have hb' : ¬ (b : Int) = 0 := by omega
      rw [if_neg hb', if_pos hb', ← Int.ofNat_tmod]
      have hm : a % b < b := Nat.mod_lt _ (by omega)
      rw [ih (a % b) hm b f (by omega) (by omega)]
      rw [show Nat.gcd b (a % b) = Nat.gcd a b from by rw [Nat.gcd_comm b, ← Nat.gcd_rec, Nat.gcd_comm]]
theorem cut_run (x y : Nat) (hx : x ≤ 9223372036854775807) (hy : y ≤ 9223372036854775807) : ∀ (b a fu : Nat), b < fu → 0 < a + b →
    whl (fun (s1 : Int × Int) c3 => (if 0 < s1.2 then c3 (s1.2, (s1.1.tmod s1.2)) else if (p_spec_l1Most s1.1 1) ≠ 0 then if (p_spec_l1Most s1.1 1) ≠ 0 then some [(IntKind.wrap .i64 ((x : Int).tdiv (p_spec_l1Most s1.1 1))), (IntKind.wrap .i64 ((y : Int).tdiv (p_spec_l1Most s1.1 1)))] else none else none)) fu ((a : Int), (b : Int)) = some [((x / Nat.gcd a b : Nat) : Int), ((y / Nat.gcd a b : Nat) : Int)] := by
  intro b
  induction b using Nat.strongRecOn with
  | _ b ih =>
    intro a fu hf h0
    obtain ⟨f, rfl⟩ : ∃ f, fu = f + 1 := ⟨fu - 1, by omega⟩
    simp only [whl]
    by_cases hb : b = 0
    · subst hb
      have hm : p_spec_l1Most (a : Int) 1 = (a : Int) := by
        unfold p_spec_l1Most
        split
        · rfl
        · omega
      have ha : (a : Int) ≠ 0 := by omega
      rw [if_neg (by omega), hm, if_pos ha, if_pos ha, tdiv_nat, tdiv_nat, wrap_nat (Nat.le_trans (Nat.div_le_self _ _) hx), wrap_nat (Nat.le_trans (Nat.div_le_self _ _) hy)]
      simp
    · rw [if_pos (by omega), ← Int.ofNat_tmod]
      have hm : a % b < b := Nat.mod_lt _ (by omega)
      rw [ih (a % b) hm b f (by omega) (by omega)]
      rw [show Nat.gcd b (a % b) = Nat.gcd a b from by rw [Nat.gcd_comm b, ← Nat.gcd_rec, Nat.gcd_comm]]
theorem fraction_eq {fu : Nat} (x y : Nat) (hx : x ≤ 9223372036854775807) (hy : y ≤ 9223372036854775807) (h0 : 0 < x + y) (hf : y < fu) : p_impl_fraction fu (x : Int) (y : Int) = some (cutF x y) :=
  frac_run x y hx hy y x fu hf h0
theorem cut_eq {fu : Nat} (x y : Nat) (hx : x ≤ 9223372036854775807) (hy : y ≤ 9223372036854775807) (h0 : 0 < x + y) (hf : y < fu) : p_spec_l2Cut fu (x : Int) (y : Int) = some (cutF x y) :=
  cut_run x y hx hy y x fu hf h0
theorem power_run : ∀ (d m : Nat) (n : Nat), m ≤ n → n ≤ 20 → n - m < d → whl (fun (s1 : Int × Int) (c3 : Int × Int → Option Int) => (if s1.2 < (n : Int) then c3 ((IntKind.wrap .i64 (s1.1 * 6)), (IntKind.wrap .i64 (s1.2 + 1))) else some s1.1)) d (((6 ^ m : Nat) : Int), (m : Int)) = some ((6 ^ n : Nat) : Int)
  | 0, m, n, _, _, h => by omega
  | d + 1, m, n, h1, h2, h3 => by
    simp only [whl]
    by_cases hc : (m : Int) < (n : Int)
    · rw [if_pos hc]
      have e6 : ((6 ^ m : Nat) : Int) * 6 = ((6 ^ (m + 1) : Nat) : Int) := by rw [Nat.pow_succ]; omega
      have hp : 6 ^ (m + 1) ≤ 6 ^ 20 := Nat.pow_le_pow_right (by omega) (by omega)
      rw [e6, wrap_nat (Nat.le_trans hp (by decide)), show (m : Int) + 1 = ((m + 1 : Nat) : Int) by omega, wrap_nat (by omega)]
      exact power_run d (m + 1) n (by omega) h2 (by omega)
    · rw [if_neg hc, show m = n by omega]
theorem power_eq {fu n : Nat} (hn : n ≤ 20) (hf : 20 < fu) : p_impl_power fu (n : Int) = some ((6 ^ n : Nat) : Int) := power_run fu 0 n (by omega) hn (by omega)
theorem all_eq {fu n : Nat} (hn : n ≤ 20) (hf : 20 < fu) : p_spec_l2All fu (n : Int) = some ((6 ^ n : Nat) : Int) := power_run fu 0 n (by omega) hn (by omega)
theorem plus_run (x y : Nat) (hx : x ≤ 9223372036854775807) (hy : y ≤ 9223372036854775807) : ∀ (b a fu : Nat), b < fu → 0 < a + b →
    whl (fun (s1 : Int × Int) c3 => (if 0 < s1.2 then c3 (s1.2, (s1.1.tmod s1.2)) else jn (fun (s8 : Int) => if s8 ≠ 0 then if s8 ≠ 0 then some [(IntKind.wrap .i64 ((x : Int).tdiv s8)), (IntKind.wrap .i64 ((y : Int).tdiv s8))] else none else none) (fun k9 => (if s1.1 < 1 then k9 1 else k9 s1.1)))) fu ((a : Int), (b : Int)) = some [((x / Nat.gcd a b : Nat) : Int), ((y / Nat.gcd a b : Nat) : Int)] := by
  intro b
  induction b using Nat.strongRecOn with
  | _ b ih =>
    intro a fu hf h0
    obtain ⟨f, rfl⟩ : ∃ f, fu = f + 1 := ⟨fu - 1, by omega⟩
    simp only [whl]
    by_cases hb : b = 0
    · subst hb
      have ha : (a : Int) ≠ 0 := by omega
      unfold jn
      simp only
      rw [if_neg (by omega), if_neg (by omega), if_pos ha, if_pos ha, tdiv_nat, tdiv_nat, wrap_nat (Nat.le_trans (Nat.div_le_self _ _) hx), wrap_nat (Nat.le_trans (Nat.div_le_self _ _) hy)]
      simp
    · rw [if_pos (by omega), ← Int.ofNat_tmod]
      have hm : a % b < b := Nat.mod_lt _ (by omega)
      rw [ih (a % b) hm b f (by omega) (by omega)]
      rw [show Nat.gcd b (a % b) = Nat.gcd a b from by rw [Nat.gcd_comm b, ← Nat.gcd_rec, Nat.gcd_comm]]
theorem plus_eq {fu : Nat} {a b c d : Nat} (ha : a ≤ 13436928) (hb : b ≤ 1679616) (hc : c ≤ 13436928) (hd : d ≤ 1679616) (hb0 : 0 < b) (hd0 : 0 < d) (hf : 2821109907456 < fu) : p_laws_rPlus fu [(a : Int), (b : Int)] [(c : Int), (d : Int)] = some (cutF (a * d + c * b) (b * d)) := by
  have h1 : a * d ≤ 13436928 * 1679616 := Nat.mul_le_mul ha hd
  have h2 : c * b ≤ 13436928 * 1679616 := Nat.mul_le_mul hc hb
  have h3 : b * d ≤ 1679616 * 1679616 := Nat.mul_le_mul hb hd
  have h4 : 0 < b * d := Nat.mul_pos hb0 hd0
  have e0 : (1679616 : Nat) * 1679616 = 2821109907456 := rfl
  have e1 : (13436928 : Nat) * 1679616 = 22568879259648 := rfl
  rw [e1] at h1 h2
  rw [e0] at h3
  have s1 : IntKind.wrap .i64 ((IntKind.wrap .i64 ((a : Int) * (d : Int))) + (IntKind.wrap .i64 ((c : Int) * (b : Int)))) = ((a * d + c * b : Nat) : Int) := by
    rw [← Int.natCast_mul, ← Int.natCast_mul, wrap_nat (by omega), wrap_nat (by omega), ← Int.natCast_add, wrap_nat (by omega)]
  have s2 : IntKind.wrap .i64 ((b : Int) * (d : Int)) = ((b * d : Nat) : Int) := by
    rw [← Int.natCast_mul, wrap_nat (by omega)]
  have key := plus_run (a * d + c * b) (b * d) (by omega) (by omega) (b * d) (a * d + c * b) fu (by omega) (by omega)
  unfold p_laws_rPlus
  have g : ([(a : Int), (b : Int)] : List Int).getD 0 0 = (a : Int) ∧ ([(a : Int), (b : Int)] : List Int).getD 1 0 = (b : Int) ∧ ([(c : Int), (d : Int)] : List Int).getD 0 0 = (c : Int) ∧ ([(c : Int), (d : Int)] : List Int).getD 1 0 = (d : Int) := ⟨rfl, rfl, rfl, rfl⟩
  rw [g.1, g.2.1, g.2.2.1, g.2.2.2, s1, s2]
  exact key
theorem cut_scale {k p q : Nat} (hk : 0 < k) : cutF (k * p) (k * q) = cutF p q := by
  unfold cutF
  rw [Nat.gcd_mul_left, Nat.mul_div_mul_left _ _ hk, Nat.mul_div_mul_left _ _ hk]
theorem cut_same {p q p' q' : Nat} (hq : 0 < q) (hq' : 0 < q') (h : p * q' = p' * q) : cutF p q = cutF p' q' := by
  rw [← cut_scale (p := p) (q := q) hq', ← cut_scale (p := p') (q := q') hq, Nat.mul_comm q' p, h, Nat.mul_comm p' q, Nat.mul_comm q' q]
theorem cut_parts (p q : Nat) (hq : 0 < q) : ∃ a b g : Nat, cutF p q = [(a : Int), (b : Int)] ∧ 0 < g ∧ p = g * a ∧ q = g * b ∧ 0 < b ∧ a ≤ p ∧ b ≤ q := by
  have hg : 0 < Nat.gcd p q := Nat.gcd_pos_of_pos_right _ hq
  refine ⟨p / Nat.gcd p q, q / Nat.gcd p q, Nat.gcd p q, rfl, hg, ?_, ?_, ?_, Nat.div_le_self _ _, Nat.div_le_self _ _⟩
  · rw [Nat.mul_comm]; exact (Nat.div_mul_cancel (Nat.gcd_dvd_left p q)).symm
  · rw [Nat.mul_comm]; exact (Nat.div_mul_cancel (Nat.gcd_dvd_right p q)).symm
  · exact Nat.div_pos (Nat.le_of_dvd hq (Nat.gcd_dvd_right _ _)) hg
/-- a fraction of a whole: x / N = a / b -/
theorem cut_of {x : Int} {N : Nat} (hx : 0 ≤ x) (hN : 0 < N) : ∃ a b : Int, cutF x.toNat N = [a, b] ∧ a * N = x * b ∧ 0 ≤ a ∧ a ≤ x ∧ 1 ≤ b ∧ b ≤ N := by
  obtain ⟨a, b, g, e, hg, h1, h2, h3, h4, h5⟩ := cut_parts x.toNat N hN
  refine ⟨a, b, e, ?_, by omega, by omega, by omega, by omega⟩
  have ex : x = (g : Int) * a := by rw [← Int.natCast_mul, ← h1]; omega
  rw [ex, h2, Int.natCast_mul]
  grind
/-- a part of a whole and another fraction of it added -/
theorem plus_cut {fu x y N p q : Nat} (hx : x ≤ 8 * N) (hp : p ≤ 13436928) (hq : q ≤ N) (hq0 : 0 < q) (hN : 0 < N) (hN2 : N ≤ 1679616) (h : p * N = y * q) (hf : 2821109907456 < fu) : p_laws_rPlus fu (cutF x N) [(p : Int), (q : Int)] = some (cutF (x + y) N) := by
  obtain ⟨a, b, g, e, hg, h1, h2, h3, h4, h5⟩ := cut_parts x N hN
  rw [e, plus_eq (by omega) (by omega) (by omega) (by omega) h3 hq0 hf]
  refine congrArg some (cut_same (Nat.mul_pos h3 hq0) hN ?_)
  have q1 : a * N = x * b := by rw [h1, h2]; simp only [Nat.mul_assoc, Nat.mul_comm, Nat.mul_left_comm]
  rw [Nat.add_mul, Nat.add_mul, Nat.mul_right_comm a q N, q1, Nat.mul_right_comm p b N, h]
  simp only [Nat.mul_assoc, Nat.mul_comm, Nat.mul_left_comm]
theorem cut_one {N : Nat} (h : 0 < N) : cutF N N = [1, 1] := by
  unfold cutF
  rw [Nat.gcd_self, Nat.div_self h]
  rfl
theorem cut_zero {N : Nat} (h : 0 < N) : cutF 0 N = [0, 1] := by
  unfold cutF
  rw [Nat.gcd_zero_left, Nat.div_self h, Nat.zero_div]
  rfl
end Go.GA
