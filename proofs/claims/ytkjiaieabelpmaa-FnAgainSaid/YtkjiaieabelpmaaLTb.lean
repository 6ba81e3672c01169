/- Dice rolled again: values with rerolls left, and the best sets. -/
import Derived.Test.YtkjiaieabelpmaaLTa
namespace Go.GA
open Go
/-- the value if a set is rolled again -/
def sv (n : Nat) (v : Nat → Nat) (t set : Nat) : Nat := sm (fun o => v (mg set n t o)) (6 ^ n)
/-- the greatest of f 0, .. -/
def mxs (f : Nat → Nat) : Nat → Nat
  | 0 => 0
  | m + 1 => max (mxs f m) (f m)
theorem mxs_ge (f : Nat → Nat) : ∀ (m j : Nat), j < m → f j ≤ mxs f m
  | 0, j, h => by omega
  | m + 1, j, h => by
    simp only [mxs]
    by_cases e : j = m
    · subst e; omega
    · have := mxs_ge f m j (by omega); omega
theorem mxs_at (f : Nat → Nat) : ∀ (m : Nat), 1 ≤ m → ∃ j, j < m ∧ f j = mxs f m
  | 0, h => by omega
  | m + 1, _ => by
    simp only [mxs]
    by_cases h0 : m = 0
    · subst h0; exact ⟨0, by omega, by simp [mxs]⟩
    · by_cases e : f m ≤ mxs f m
      · obtain ⟨j, h1, h2⟩ := mxs_at f m (by omega)
        exact ⟨j, by omega, by omega⟩
      · exact ⟨m, by omega, by omega⟩
theorem mxs_le {f : Nat → Nat} {B : Nat} : ∀ (m : Nat), (∀ j, j < m → f j ≤ B) → mxs f m ≤ B
  | 0, _ => Nat.zero_le _
  | m + 1, h => by
    simp only [mxs]
    have := mxs_le m (fun j hj => h j (by omega))
    have := h m (by omega)
    omega
/-- the values of all rolls, with so many rerolls left -/
def vls (n : Nat) (sc : Nat → Nat) : Nat → Nat → Nat
  | 0, t => sc t
  | k + 1, t => mxs (sv n (vls n sc k) t) (2 ^ n)
theorem sv_none (n : Nat) (v : Nat → Nat) {t : Nat} (ht : t < 6 ^ n) : sv n v t 0 = 6 ^ n * v t := by
  unfold sv
  rw [sm_congr (g := fun _ => v t) _ (fun o _ => by rw [mg_none n t o ht]), sm_const]
theorem vls_up (n : Nat) (sc : Nat → Nat) (k : Nat) {t : Nat} (ht : t < 6 ^ n) : 6 ^ n * vls n sc k t ≤ vls n sc (k + 1) t := by
  have h := mxs_ge (sv n (vls n sc k) t) (2 ^ n) 0 (Nat.pow_pos (by omega))
  rw [sv_none n _ ht] at h
  exact h
theorem sv_le {n B : Nat} {v : Nat → Nat} (hv : ∀ t, t < 6 ^ n → v t ≤ B) (t set : Nat) : sv n v t set ≤ 6 ^ n * B :=
  sm_le _ (fun o _ => hv _ (mg_lt set n t o))
theorem vls_le {n B : Nat} {sc : Nat → Nat} (hs : ∀ t, t < 6 ^ n → sc t ≤ B) : ∀ k t, t < 6 ^ n → vls n sc k t ≤ (6 ^ n) ^ k * B
  | 0, t, ht => by simpa [vls] using hs t ht
  | k + 1, t, ht => by
    have := mxs_le (f := sv n (vls n sc k) t) (B := 6 ^ n * ((6 ^ n) ^ k * B)) (2 ^ n) (fun set _ => sv_le (vls_le hs k) t set)
    rw [← Nat.mul_assoc, ← Nat.pow_succ'] at this
    exact this
/-- the sets that have the most -/
def bsts (f : Nat → Nat) (M m : Nat) : List Nat := (List.range m).filter fun set => decide (f set = M)
theorem bsts_mem {f : Nat → Nat} {M m j : Nat} : j ∈ bsts f M m ↔ j < m ∧ f j = M := by
  unfold bsts
  rw [List.mem_filter, List.mem_range, decide_eq_true_eq]
theorem bsts_succ (f : Nat → Nat) (M m : Nat) : bsts f M (m + 1) = bsts f M m ++ (if f m = M then [m] else []) := by
  unfold bsts
  rw [List.range_succ, List.filter_append]
  congr 1
  by_cases h : f m = M
  · rw [if_pos h]; simp [h]
  · rw [if_neg h]; simp [h]
theorem bsts_none {f : Nat → Nat} {M m : Nat} (h : ∀ j, j < m → f j < M) : bsts f M m = [] := by
  rw [List.eq_nil_iff_forall_not_mem]
  intro j hj
  obtain ⟨h1, h2⟩ := bsts_mem.1 hj
  have := h j h1
  omega
end Go.GA
