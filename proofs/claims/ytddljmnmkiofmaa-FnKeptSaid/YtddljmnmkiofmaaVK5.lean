/- Plain law of FnKept: fractions and powers. -/
import Derived.Test.YtddljmnmkiofmaaVK4
namespace Go.GA
open Go
set_option maxRecDepth 100000
theorem wrap_nat {n : Nat} (h : n ≤ 9223372036854775807) : IntKind.wrap .i64 (n : Int) = (n : Int) := wr (by omega) (by omega)
theorem tdiv_nat (a b : Nat) : Int.tdiv (a : Int) (b : Int) = ((a / b : Nat) : Int) := rfl
def cutF (a b : Nat) : List Int := [((a / Nat.gcd a b : Nat) : Int), ((b / Nat.gcd a b : Nat) : Int)]
theorem frac_run (x y : Nat) (hx : x ≤ 9223372036854775807) (hy : y ≤ 9223372036854775807) : ∀ (b a fu : Nat), b < fu → 0 < a + b →
    whl (fun (s1 : Int × Int) c3 => (if s1.2 = 0 then if s1.1 ≠ 0 then if s1.1 ≠ 0 then some [(IntKind.wrap .i64 ((x : Int).tdiv s1.1)), (IntKind.wrap .i64 ((y : Int).tdiv s1.1))] else none else none else if s1.2 ≠ 0 then c3 (s1.2, (s1.1.tmod s1.2)) else none)) fu ((a : Int), (b : Int)) = some [((x / Nat.gcd a b : Nat) : Int), ((y / Nat.gcd a b : Nat) : Int)] := by
  intro b
  induction b using Nat.strongRecOn with
  | _ b ih =>
    intro a fu hf h0
    obtain ⟨f, rfl⟩ : ∃ f, fu = f + 1 := ⟨fu - 1, by omega⟩
    simp only [whl]
    by_cases hb : b = 0
    · subst hb
      have ha : (a : Int) ≠ 0 := by omega
      rw [if_pos (by rfl), if_pos ha, if_pos ha, tdiv_nat, tdiv_nat, wrap_nat (Nat.le_trans (Nat.div_le_self _ _) hx), wrap_nat (Nat.le_trans (Nat.div_le_self _ _) hy)]
      simp
    · have hb' : ¬ (b : Int) = 0 := by omega
      rw [if_neg hb', if_pos hb', ← Int.ofNat_tmod]
      have hm : a % b < b := Nat.mod_lt _ (by omega)
      rw [ih (a % b) hm b f (by omega) (by omega)]
      rw [show Nat.gcd b (a % b) = Nat.gcd a b from by rw [Nat.gcd_comm b, ← Nat.gcd_rec, Nat.gcd_comm]]
theorem cut_run (x y : Nat) (hx : x ≤ 9223372036854775807) (hy : y ≤ 9223372036854775807) : ∀ (b a fu : Nat), b < fu → 0 < a + b →
    whl (fun (s1 : Int × Int) c3 => (if 0 < s1.2 then c3 (s1.2, (s1.1.tmod s1.2)) else if (p_spec_l1Most s1.1 1) ≠ 0 then if (p_spec_l1Most s1.1 1) ≠ 0 then some [(IntKind.wrap .i64 ((x : Int).tdiv (p_spec_l1Most s1.1 1))), (IntKind.wrap .i64 ((y : Int).tdiv (p_spec_l1Most s1.1 1)))] else none else none)) fu ((a : Int), (b : Int)) = some [((x / Nat.gcd a b : Nat) : Int), ((y / Nat.gcd a b : Nat) : Int)] := by
  intro b
  induction b using Nat.strongRecOn with
  | _ b ih =>
    intro a fu hf h0
    obtain ⟨f, rfl⟩ : ∃ f, fu = f + 1 := ⟨fu - 1, by omega⟩
    simp only [whl]
    by_cases hb : b = 0
    · subst hb
      have hm : p_spec_l1Most (a : Int) 1 = (a : Int) := by
        unfold p_spec_l1Most
        split
        · rfl
        · omega
      have ha : (a : Int) ≠ 0 := by omega
      rw [if_neg (by omega), hm, if_pos ha, if_pos ha, tdiv_nat, tdiv_nat, wrap_nat (Nat.le_trans (Nat.div_le_self _ _) hx), wrap_nat (Nat.le_trans (Nat.div_le_self _ _) hy)]
      simp
    · rw [if_pos (by omega), ← Int.ofNat_tmod]
      have hm : a % b < b := Nat.mod_lt _ (by omega)
      rw [ih (a % b) hm b f (by omega) (by omega)]
      rw [show Nat.gcd b (a % b) = Nat.gcd a b from by rw [Nat.gcd_comm b, ← Nat.gcd_rec, Nat.gcd_comm]]
theorem fraction_eq {fu : Nat} (x y : Nat) (hx : x ≤ 9223372036854775807) (hy : y ≤ 9223372036854775807) (h0 : 0 < x + y) (hf : y < fu) : p_impl_fraction fu (x : Int) (y : Int) = some (cutF x y) :=
  frac_run x y hx hy y x fu hf h0
theorem cut_eq {fu : Nat} (x y : Nat) (hx : x ≤ 9223372036854775807) (hy : y ≤ 9223372036854775807) (h0 : 0 < x + y) (hf : y < fu) : p_spec_l2Cut fu (x : Int) (y : Int) = some (cutF x y) :=
  cut_run x y hx hy y x fu hf h0
theorem power_run : ∀ (d m : Nat) (n : Nat), m ≤ n → n ≤ 8 → n - m < d → whl (fun (s1 : Int × Int) (c3 : Int × Int → Option Int) => (if s1.2 < (n : Int) then c3 ((IntKind.wrap .i64 (s1.1 * 6)), (IntKind.wrap .i64 (s1.2 + 1))) else some s1.1)) d (((6 ^ m : Nat) : Int), (m : Int)) = some ((6 ^ n : Nat) : Int)
  | 0, m, n, _, _, h => by omega
  | d + 1, m, n, h1, h2, h3 => by
    simp only [whl]
    by_cases hc : (m : Int) < (n : Int)
    · rw [if_pos hc]
      have e6 : ((6 ^ m : Nat) : Int) * 6 = ((6 ^ (m + 1) : Nat) : Int) := by rw [Nat.pow_succ]; omega
      have hp : 6 ^ (m + 1) ≤ 6 ^ 8 := Nat.pow_le_pow_right (by omega) (by omega)
      rw [e6, wrap_nat (Nat.le_trans hp (by decide)), show (m : Int) + 1 = ((m + 1 : Nat) : Int) by omega, wrap_nat (by omega)]
      exact power_run d (m + 1) n (by omega) h2 (by omega)
    · rw [if_neg hc, show m = n by omega]
theorem power_eq {fu n : Nat} (hn : n ≤ 8) (hf : 8 < fu) : p_impl_power fu (n : Int) = some ((6 ^ n : Nat) : Int) := power_run fu 0 n (by omega) hn (by omega)
theorem all_eq {fu n : Nat} (hn : n ≤ 8) (hf : 8 < fu) : p_spec_l2All fu (n : Int) = some ((6 ^ n : Nat) : Int) := power_run fu 0 n (by omega) hn (by omega)
theorem cut_parts (p q : Nat) (hq : 0 < q) : ∃ a b g : Nat, cutF p q = [(a : Int), (b : Int)] ∧ 0 < g ∧ p = g * a ∧ q = g * b ∧ 0 < b ∧ a ≤ p ∧ b ≤ q := by
  have hg : 0 < Nat.gcd p q := Nat.gcd_pos_of_pos_right _ hq
  refine ⟨p / Nat.gcd p q, q / Nat.gcd p q, Nat.gcd p q, rfl, hg, ?_, ?_, ?_, Nat.div_le_self _ _, Nat.div_le_self _ _⟩
  · rw [Nat.mul_comm]; exact (Nat.div_mul_cancel (Nat.gcd_dvd_left p q)).symm
  · rw [Nat.mul_comm]; exact (Nat.div_mul_cancel (Nat.gcd_dvd_right p q)).symm
  · exact Nat.div_pos (Nat.le_of_dvd hq (Nat.gcd_dvd_right _ _)) hg
/-- a fraction of a whole: x / N = a / b -/
theorem cut_of {x : Int} {N : Nat} (hx : 0 ≤ x) (hN : 0 < N) : ∃ a b : Int, cutF x.toNat N = [a, b] ∧ a * N = x * b ∧ 0 ≤ a ∧ a ≤ x ∧ 1 ≤ b ∧ b ≤ N := by
  obtain ⟨a, b, g, e, hg, h1, h2, h3, h4, h5⟩ := cut_parts x.toNat N hN
  refine ⟨a, b, e, ?_, by omega, by omega, by omega, by omega⟩
  have ex : x = (g : Int) * a := by rw [← Int.natCast_mul, ← h1]; omega
  rw [ex, h2, Int.natCast_mul]
  grind
theorem less_cut {x y : Int} {N : Nat} (hx : 0 ≤ x) (hy : 0 ≤ y) (hN : 0 < N) (hN2 : N ≤ 1679616) (hx2 : x ≤ 20000000) (hy2 : y ≤ 20000000) : (IntKind.wrap .i64 ((cutF x.toNat N).getD 0 0 * (cutF y.toNat N).getD 1 0) < IntKind.wrap .i64 ((cutF y.toNat N).getD 0 0 * (cutF x.toNat N).getD 1 0)) ↔ x < y := by
  obtain ⟨a, b, e1, e2, e3, e4, e5, e6⟩ := cut_of hx hN
  obtain ⟨a', b', e1', e2', e3', e4', e5', e6'⟩ := cut_of hy hN
  rw [e1, e1']
  show (IntKind.wrap .i64 (a * b') < IntKind.wrap .i64 (a' * b)) ↔ x < y
  have m1 : 0 ≤ a * b' := Int.mul_nonneg e3 (by omega)
  have m2 : 0 ≤ a' * b := Int.mul_nonneg e3' (by omega)
  have m3 : a * b' ≤ 20000000 * 1679616 := Int.mul_le_mul (by omega) (by omega) (by omega) (by omega)
  have m4 : a' * b ≤ 20000000 * 1679616 := Int.mul_le_mul (by omega) (by omega) (by omega) (by omega)
  rw [wr (by omega) (by omega), wr (by omega) (by omega)]
  have hNp : (0 : Int) < N := by omega
  have hbb : 0 < b * b' := Int.mul_pos (by omega) (by omega)
  have k1 : (a * b') * N = x * (b * b') := by grind
  have k2 : (a' * b) * N = y * (b * b') := by grind
  constructor
  · intro h
    have h2 := Int.mul_lt_mul_of_pos_right h hNp
    rw [k1, k2] at h2
    exact Int.lt_of_mul_lt_mul_right h2 (by omega)
  · intro h
    have h2 := Int.mul_lt_mul_of_pos_right h hbb
    rw [← k1, ← k2] at h2
    exact Int.lt_of_mul_lt_mul_right h2 (by omega)
theorem isDie6 (a b c d e f : Int) : p_impl_IsDie [a, b, c, d, e, f] = true ↔ (0 ≤ a ∧ a ≤ b ∧ b ≤ c ∧ c ≤ d ∧ d ≤ e ∧ e ≤ f ∧ f ≤ 30) := by
  unfold p_impl_IsDie
  rw [faces_all]
  simp [p_slices_IsSorted_int_int, cntd, pwithin_eq, p_cmp_Less_int, p_cmp_isNaN_int]
  omega
theorem die6_of {x : List Int} (h : x.length = 6) (hd : p_impl_IsDie x = true) : Die6 x := by
  obtain ⟨a, b, c, d, e, f, rfl⟩ := len6 h
  exact ⟨a, b, c, d, e, f, rfl, (isDie6 a b c d e f).1 hd⟩
theorem pool_six {x : List (List Int)} (h : Six x) (hp : p_impl_IsPool x = true) : 1 ≤ x.length ∧ x.length ≤ 4 ∧ ∀ d ∈ x, Die6 d := by
  obtain ⟨h1, h2, _⟩ := pool_good h hp
  refine ⟨h1, h2, fun d hd => die6_of (h d hd) ?_⟩
  unfold p_impl_IsPool at hp
  simp only [Bool.and_eq_true, dies_all] at hp
  exact List.all_eq_true.1 hp.2 d hd
theorem sum_lrun {R : Type} (k : Int → R) : ∀ (l : List Int) (s : Int), (∀ a ∈ l, 0 ≤ a) → 0 ≤ s → s + l.sum ≤ 1000000000 → lrun (fun a s c => c (IntKind.wrap .i64 (s + a))) k l s = k (s + l.sum)
  | [], s, _, _, _ => by simp [lrun]
  | a :: l, s, h, h0, hb => by
    have ha := h a (by simp)
    rw [List.sum_cons] at hb ⊢
    have hl : 0 ≤ l.sum := by
      refine sum_nn (fun j => ?_)
      rw [List.getD_eq_getElem?_getD]
      cases hj : l[j]? with
      | none => simp
      | some b => exact h b (by simp [List.mem_of_getElem? hj])
    show lrun _ k l (IntKind.wrap .i64 (s + a)) = _
    rw [wr (by omega) (by omega), sum_lrun k l (s + a) (fun b hb => h b (by simp [hb])) (by omega) (by omega)]
    congr 1; omega
theorem total_eq {l : List Int} (h : ∀ a ∈ l, 0 ≤ a) (hb : l.sum ≤ 1000000000) : p_impl_total l = l.sum := by
  unfold p_impl_total
  rw [cnt_list (fun (a : Int) (s : Int) (c : Int → Int) => c (IntKind.wrap .i64 (s + a))) l 0 (by omega) (fun _ _ _ _ _ => rfl)]
  have := sum_lrun (R := Int) (fun s => s) l 0 h (by omega) (by omega)
  rw [Int.zero_add] at this
  exact this
end Go.GA
