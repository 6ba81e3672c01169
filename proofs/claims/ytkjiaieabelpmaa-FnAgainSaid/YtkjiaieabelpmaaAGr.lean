/- Plain law of FnAgain: rolls, and ways as counts. -/
import Derived.Test.YtkjiaieabelpmaaAGo
namespace Go.GA.E
open Go
set_option maxRecDepth 100000
def dg (m t i : Nat) : Nat := t / 6 ^ (m - 1 - i) % 6
def rl (p : List (List Int)) (t : Nat) : List Int := (List.range p.length).map fun i => (p.getD i (List.replicate 6 0)).getD (dg p.length t i) 0
theorem rl_len (p : List (List Int)) (t : Nat) : (rl p t).length = p.length := by simp [rl]
theorem rl_get {p : List (List Int)} {t i : Nat} (hi : i < p.length) : (rl p t).getD i 0 = (p.getD i (List.replicate 6 0)).getD (dg p.length t i) 0 := by
  unfold rl
  rw [List.getD_eq_getElem?_getD, List.getElem?_map, List.getElem?_eq_getElem (by simpa using hi)]
  simp
theorem roll_exact (p : List (List Int)) (t : Nat) (ht : t ≤ 1000000) : ∀ (j fu' : Nat) (l : List Int), j ≤ p.length → j < fu' → l.length = p.length → (∀ i, j ≤ i → i < p.length → l.getD i 0 = (rl p t).getD i 0) → whl (fun (s2 : Int × Int × (List Int)) c4 => (if 0 ≤ s2.2.1 then if 0 ≤ (s2.1.tmod 6) then if (s2.1.tmod 6) < 6 then c4 ((IntKind.wrap .i64 (s2.1.tdiv 6)), (s2.2.1 - 1), (s2.2.2.set s2.2.1.toNat ((p.getD s2.2.1.toNat (List.replicate 6 0)).getD (s2.1.tmod 6).toNat 0))) else none else none else some s2.2.2)) fu' (((t / 6 ^ (p.length - j) : Nat) : Int), (j : Int) - 1, l) = some (rl p t)
  | 0, fu', l, hj, hf, hl, hi => by
    obtain ⟨f, rfl⟩ : ∃ f, fu' = f + 1 := ⟨fu' - 1, by omega⟩
    simp only [whl]
    rw [if_neg (by omega)]
    congr 1
    apply List.ext_getElem
    · rw [hl, rl_len]
    · intro i h1 h2
      have := hi i (Nat.zero_le _) (by omega)
      rw [List.getD_eq_getElem?_getD, List.getD_eq_getElem?_getD, List.getElem?_eq_getElem h1, List.getElem?_eq_getElem h2] at this
      exact this
  | j + 1, fu', l, hj, hf, hl, hi => by
    obtain ⟨f, rfl⟩ : ∃ f, fu' = f + 1 := ⟨fu' - 1, by omega⟩
    have hq : t / 6 ^ (p.length - (j + 1)) / 6 = t / 6 ^ (p.length - j) := by
      rw [Nat.div_div_eq_div_mul, ← Nat.pow_succ, show (p.length - (j + 1)).succ = p.length - j by omega]
    have hle : t / 6 ^ (p.length - (j + 1)) ≤ t := Nat.div_le_self _ _
    have hd : t / 6 ^ (p.length - (j + 1)) % 6 = dg p.length t j := by
      unfold dg; rw [show p.length - 1 - j = p.length - (j + 1) by omega]
    generalize t / 6 ^ (p.length - (j + 1)) = rest at *
    have e1 : (rest : Int).tmod 6 = ((rest % 6 : Nat) : Int) := rfl
    have e2 : (rest : Int).tdiv 6 = ((rest / 6 : Nat) : Int) := rfl
    have hm : rest % 6 < 6 := Nat.mod_lt _ (by omega)
    have hd2 : rest / 6 ≤ rest := Nat.div_le_self _ _
    have ih := roll_exact p t ht j f (l.set j ((p.getD j (List.replicate 6 0)).getD (rest % 6) 0)) (by omega) (by omega) (by rw [List.length_set]; exact hl) (fun i h1 h2 => by
      by_cases e : j = i
      · subst e
        rw [List.getD_eq_getElem?_getD, List.getElem?_set_self (by omega), rl_get h2, ← hd]; rfl
      · rw [List.getD_eq_getElem?_getD, List.getElem?_set_ne e, ← List.getD_eq_getElem?_getD]
        exact hi i (by omega) h2)
    rw [← hq] at ih
    simp only [whl]
    rw [if_pos (by omega), e1, if_pos (by omega), if_pos (by omega), e2, wrap_nat (by omega), show (((j + 1 : Nat) : Int) - 1).toNat = j by omega, show (((j + 1 : Nat) : Int) - 1 - 1) = (j : Int) - 1 by omega]
    exact ih
theorem rollAt_eq {p : List (List Int)} {t fu : Nat} (h4 : p.length ≤ 4) (ht : t < 6 ^ p.length) (hf : 1999 < fu) : p_impl_rollAt fu p (t : Int) = some (rl p t) := by
  have h64 : 6 ^ p.length ≤ 6 ^ 4 := Nat.pow_le_pow_right (by omega) h4
  have e64 : (6 : Nat) ^ 4 = 1296 := by decide
  unfold p_impl_rollAt
  rw [if_pos (by omega)]
  have := roll_exact p t (by omega) p.length fu (List.replicate (p.length : Int).toNat 0) (Nat.le_refl _) (by omega) (by simp) (fun i h1 h2 => by omega)
  rw [Nat.sub_self, Nat.pow_zero, Nat.div_one] at this
  exact this
/-! ### Ways as counts -/
end Go.GA.E
