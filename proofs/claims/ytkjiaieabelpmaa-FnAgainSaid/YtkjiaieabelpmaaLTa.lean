/- Dice rolled again: sums over outcomes, set by set and die by die. -/
import Derived.Test.YtkjiaieabelpmaaGpA
namespace Go.GA
open Go
/-- f 0 + .. + f (n - 1) -/
def sm (f : Nat → Nat) : Nat → Nat
  | 0 => 0
  | n + 1 => sm f n + f n
theorem sm_congr {f g : Nat → Nat} : ∀ n, (∀ j, j < n → f j = g j) → sm f n = sm g n
  | 0, _ => rfl
  | n + 1, h => by simp only [sm]; rw [sm_congr n (fun j hj => h j (by omega)), h n (by omega)]
theorem sm_add (f g : Nat → Nat) : ∀ n, sm (fun j => f j + g j) n = sm f n + sm g n
  | 0 => rfl
  | n + 1 => by simp only [sm]; rw [sm_add f g n]; omega
theorem sm_mul (a : Nat) (f : Nat → Nat) : ∀ n, sm (fun j => a * f j) n = a * sm f n
  | 0 => rfl
  | n + 1 => by simp only [sm]; rw [sm_mul a f n, Nat.mul_add]
theorem sm_const (a : Nat) : ∀ n, sm (fun _ => a) n = n * a
  | 0 => by simp [sm]
  | n + 1 => by simp only [sm]; rw [sm_const a n, Nat.succ_mul]
theorem sm_le {f : Nat → Nat} {B : Nat} : ∀ n, (∀ j, j < n → f j ≤ B) → sm f n ≤ n * B
  | 0, _ => by simp [sm]
  | n + 1, h => by
    simp only [sm]
    have := sm_le n (fun j hj => h j (by omega))
    have := h n (by omega)
    rw [Nat.succ_mul]; omega
theorem sm6 (f : Nat → Nat) : sm f 6 = f 0 + f 1 + f 2 + f 3 + f 4 + f 5 := by simp [sm]
/-- six by six -/
theorem sm_six (f : Nat → Nat) : ∀ M, sm f (M * 6) = sm (fun a => sm (fun k => f (6 * a + k)) 6) M
  | 0 => by simp [sm]
  | M + 1 => by
    have e : (M + 1) * 6 = M * 6 + 6 := by omega
    rw [e]
    have h6 : sm f (M * 6 + 6) = sm f (M * 6) + sm (fun k => f (6 * M + k)) 6 := by
      rw [sm6]
      simp only [sm, Nat.add_zero]
      rw [show M * 6 = 6 * M by omega]
      omega
    rw [h6, sm_six f M]
    rfl
theorem sm_swap (f : Nat → Nat → Nat) (m : Nat) : ∀ n, sm (fun a => sm (fun b => f a b) m) n = sm (fun b => sm (fun a => f a b) n) m
  | 0 => by
    simp only [sm]
    rw [sm_const, Nat.mul_zero]
  | n + 1 => by
    simp only [sm]
    rw [sm_swap f m n, ← sm_add]
/-- the places of an outcome where those of a set are those of another one -/
def mg (set : Nat) : Nat → Nat → Nat → Nat
  | 0, _, _ => 0
  | i + 1, t, o => 6 * mg set i (t / 6) (o / 6) + (if set.testBit i = true then o % 6 else t % 6)
theorem mg_lt (set : Nat) : ∀ i t o, mg set i t o < 6 ^ i
  | 0, _, _ => by simp [mg]
  | i + 1, t, o => by
    have h := mg_lt set i (t / 6) (o / 6)
    have h1 : o % 6 < 6 := Nat.mod_lt _ (by omega)
    have h2 : t % 6 < 6 := Nat.mod_lt _ (by omega)
    simp only [mg]
    rw [Nat.pow_succ]
    split <;> omega
/-- nothing is rolled again -/
theorem mg_none : ∀ i t o, t < 6 ^ i → mg 0 i t o = t
  | 0, t, o, h => by simp [mg] at *; omega
  | i + 1, t, o, h => by
    rw [Nat.pow_succ] at h
    simp only [mg]
    rw [mg_none i (t / 6) (o / 6) (by omega)]
    simp
    omega
/-- one die of a set summed up -/
def stp (n i set : Nat) (v : Nat → Nat) (t : Nat) : Nat :=
  if set.testBit i = true then sm (fun k => v (t - t / 6 ^ (n - 1 - i) % 6 * 6 ^ (n - 1 - i) + k * 6 ^ (n - 1 - i))) 6 else 6 * v t
/-- the first i dice -/
def stps (n set : Nat) (v : Nat → Nat) : Nat → Nat → Nat
  | 0 => v
  | i + 1 => stp n i set (stps n set v i)
theorem div_mod_of {q x low : Nat} (hl : low < q) : (q * x + low) / q = x ∧ (q * x + low) % q = low := by
  constructor
  · rw [Nat.mul_add_div (by omega), Nat.div_eq_of_lt hl, Nat.add_zero]
  · rw [Nat.mul_add_mod, Nat.mod_eq_of_lt hl]
theorem stps_eq (n set : Nat) (v : Nat → Nat) : ∀ i, i ≤ n → ∀ t, t < 6 ^ n → stps n set v i t = sm (fun o => v (mg set i (t / 6 ^ (n - i)) o * 6 ^ (n - i) + t % 6 ^ (n - i))) (6 ^ i)
  | 0, _, t, ht => by
    simp only [stps, mg, Nat.sub_zero, Nat.pow_zero, sm, Nat.zero_mul, Nat.zero_add]
    rw [Nat.mod_eq_of_lt ht]
  | i + 1, hi, t, ht => by
    have ih := stps_eq n set v i (by omega)
    have hq0 : 0 < 6 ^ (n - (i + 1)) := Nat.pow_pos (by omega)
    have e6 : 6 ^ (n - i) = 6 ^ (n - (i + 1)) * 6 := by rw [← Nat.pow_succ, show (n - (i + 1)).succ = n - i by omega]
    have en : 6 ^ n = 6 ^ (n - (i + 1)) * 6 ^ (i + 1) := by rw [← Nat.pow_add, show n - (i + 1) + (i + 1) = n by omega]
    rw [e6] at ih
    have es : n - 1 - i = n - (i + 1) := by omega
    simp only [stps, stp, es]
    generalize 6 ^ (n - (i + 1)) = q at *
    obtain ⟨x, low, hlow, rfl⟩ : ∃ x low, low < q ∧ t = q * x + low := ⟨t / q, t % q, Nat.mod_lt _ hq0, (Nat.div_add_mod t q).symm⟩
    obtain ⟨d1, d2⟩ := div_mod_of (x := x) hlow
    have hx : x < 6 ^ (i + 1) := by
      rw [en] at ht
      refine Nat.lt_of_not_le fun h => ?_
      have := Nat.mul_le_mul_left q h
      omega
    rw [Nat.pow_succ] at hx
    rw [d1, d2]
    -- what stands at another place of this die
    have at_ : ∀ k, k < 6 → q * (6 * (x / 6) + k) + low < 6 ^ n ∧ (q * (6 * (x / 6) + k) + low) / (q * 6) = x / 6 ∧ (q * (6 * (x / 6) + k) + low) % (q * 6) = q * k + low := by
      intro k hk
      obtain ⟨f1, f2⟩ := div_mod_of (x := 6 * (x / 6) + k) hlow
      refine ⟨?_, ?_, ?_⟩
      · rw [en, Nat.pow_succ]
        have : q * (6 * (x / 6) + k + 1) ≤ q * (6 ^ i * 6) := Nat.mul_le_mul_left q (by omega)
        rw [Nat.mul_add q _ 1, Nat.mul_one] at this
        omega
      · rw [← Nat.div_div_eq_div_mul, f1]; omega
      · rw [Nat.mod_mul, f1, f2, show (6 * (x / 6) + k) % 6 = k by omega]; omega
    rw [Nat.pow_succ, sm_six]
    by_cases hb : set.testBit i = true
    · rw [if_pos hb]
      rw [sm_congr (g := fun k => sm (fun o => v (mg set i (x / 6) o * (q * 6) + (q * k + low))) (6 ^ i)) 6 (fun k hk => by
        have e : q * x + low - x % 6 * q + k * q = q * (6 * (x / 6) + k) + low := by
          have h1 : q * x = q * (6 * (x / 6)) + q * (x % 6) := by rw [← Nat.mul_add, Nat.div_add_mod]
          have h2 : x % 6 * q = q * (x % 6) := Nat.mul_comm _ _
          have h3 : k * q = q * k := Nat.mul_comm _ _
          rw [Nat.mul_add q, h1, h2, h3]; omega
        obtain ⟨a1, a2, a3⟩ := at_ k hk
        rw [e, ih _ a1, a2, a3])]
      rw [sm_swap (fun k o => v (mg set i (x / 6) o * (q * 6) + (q * k + low)))]
      refine sm_congr _ (fun o _ => sm_congr _ (fun k hk => ?_))
      simp only [mg, if_pos hb]
      rw [show (6 * o + k) / 6 = o by omega, show (6 * o + k) % 6 = k by omega, Nat.add_mul]
      congr 1
      rw [Nat.mul_comm k q, ← Nat.add_assoc]
      congr 2
      rw [Nat.mul_comm 6, Nat.mul_assoc, Nat.mul_comm 6 q]
    · rw [if_neg hb]
      obtain ⟨a1, a2, a3⟩ := at_ (x % 6) (Nat.mod_lt _ (by omega))
      rw [Nat.div_add_mod] at a1 a2 a3
      rw [ih _ a1, a2, a3, ← sm_mul]
      refine sm_congr _ (fun o _ => ?_)
      rw [sm_congr (g := fun _ => v (mg set i (x / 6) o * (q * 6) + (q * (x % 6) + low))) 6 (fun k hk => by
        simp only [mg, if_neg hb]
        rw [show (6 * o + k) / 6 = o by omega, Nat.add_mul]
        congr 1
        rw [Nat.mul_comm (x % 6) q, ← Nat.add_assoc]
        congr 2
        rw [Nat.mul_comm 6, Nat.mul_assoc, Nat.mul_comm 6 q]), sm_const]
theorem stps_all (n set : Nat) (v : Nat → Nat) {t : Nat} (ht : t < 6 ^ n) : stps n set v n t = sm (fun o => v (mg set n t o)) (6 ^ n) := by
  rw [stps_eq n set v n (Nat.le_refl _) t ht, Nat.sub_self, Nat.pow_zero]
  refine sm_congr _ (fun o _ => ?_)
  rw [Nat.div_one, Nat.mod_one, Nat.mul_one, Nat.add_zero]
end Go.GA
