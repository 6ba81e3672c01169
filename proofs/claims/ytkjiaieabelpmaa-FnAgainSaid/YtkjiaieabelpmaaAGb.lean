/- Plain law of FnAgain: what other laws use too. -/
import Derived.Test.YtkjiaieabelpmaaAGe
namespace Go.GA.E
open Go
set_option maxRecDepth 100000
/-- a fraction cut down -/
def cutF (a b : Nat) : List Int := [((a / Nat.gcd a b : Nat) : Int), ((b / Nat.gcd a b : Nat) : Int)]
theorem frac_run (x y : Nat) (hx : x ≤ 9223372036854775807) (hy : y ≤ 9223372036854775807) : ∀ (b a fu : Nat), b < fu → 0 < a + b →
    whl (fun (s1 : Int × Int) c3 => (if s1.2 = 0 then if s1.1 ≠ 0 then if s1.1 ≠ 0 then some [(IntKind.wrap .i64 ((x : Int).tdiv s1.1)), (IntKind.wrap .i64 ((y : Int).tdiv s1.1))] else none else none else if s1.2 ≠ 0 then c3 (s1.2, (s1.1.tmod s1.2)) else none)) fu ((a : Int), (b : Int)) = some [((x / Nat.gcd a b : Nat) : Int), ((y / Nat.gcd a b : Nat) : Int)] := by
  intro b
  induction b using Nat.strongRecOn with
  | _ b ih =>
    intro a fu hf h0
    obtain ⟨f, rfl⟩ : ∃ f, fu = f + 1 := ⟨fu - 1, by omega⟩
    simp only [whl]
    by_cases hb : b = 0
    · subst hb
      have ha : (a : Int) ≠ 0 := by omega
      rw [if_pos (by rfl), if_pos ha, if_pos ha, tdiv_nat, tdiv_nat, wrap_nat (Nat.le_trans (Nat.div_le_self _ _) hx), wrap_nat (Nat.le_trans (Nat.div_le_self _ _) hy)]
      simp
    · have hb' : ¬ (b : Int) = 0 := by omega
      rw [if_neg hb', if_pos hb', ← Int.ofNat_tmod]
      have hm : a % b < b := Nat.mod_lt _ (by omega)
      rw [ih (a % b) hm b f (by omega) (by omega)]
      rw [show Nat.gcd b (a % b) = Nat.gcd a b from by rw [Nat.gcd_comm b, ← Nat.gcd_rec, Nat.gcd_comm]]
theorem cut_run (x y : Nat) (hx : x ≤ 9223372036854775807) (hy : y ≤ 9223372036854775807) : ∀ (b a fu : Nat), b < fu → 0 < a + b →
    whl (fun (s1 : Int × Int) c3 => (if 0 < s1.2 then c3 (s1.2, (s1.1.tmod s1.2)) else if (p_spec_l1Most s1.1 1) ≠ 0 then if (p_spec_l1Most s1.1 1) ≠ 0 then some [(IntKind.wrap .i64 ((x : Int).tdiv (p_spec_l1Most s1.1 1))), (IntKind.wrap .i64 ((y : Int).tdiv (p_spec_l1Most s1.1 1)))] else none else none)) fu ((a : Int), (b : Int)) = some [((x / Nat.gcd a b : Nat) : Int), ((y / Nat.gcd a b : Nat) : Int)] := by
  intro b
  induction b using Nat.strongRecOn with
  | _ b ih =>
    intro a fu hf h0
    obtain ⟨f, rfl⟩ : ∃ f, fu = f + 1 := ⟨fu - 1, by omega⟩
    simp only [whl]
    by_cases hb : b = 0
    · subst hb
      have hm : p_spec_l1Most (a : Int) 1 = (a : Int) := by
        unfold p_spec_l1Most
        split
        · rfl
        · omega
      have ha : (a : Int) ≠ 0 := by omega
      rw [if_neg (by omega), hm, if_pos ha, if_pos ha, tdiv_nat, tdiv_nat, wrap_nat (Nat.le_trans (Nat.div_le_self _ _) hx), wrap_nat (Nat.le_trans (Nat.div_le_self _ _) hy)]
      simp
    · rw [if_pos (by omega), ← Int.ofNat_tmod]
      have hm : a % b < b := Nat.mod_lt _ (by omega)
      rw [ih (a % b) hm b f (by omega) (by omega)]
      rw [show Nat.gcd b (a % b) = Nat.gcd a b from by rw [Nat.gcd_comm b, ← Nat.gcd_rec, Nat.gcd_comm]]
theorem fraction_eq {fu : Nat} (x y : Nat) (hx : x ≤ 9223372036854775807) (hy : y ≤ 9223372036854775807) (h0 : 0 < x + y) (hf : y < fu) : p_impl_fraction fu (x : Int) (y : Int) = some (cutF x y) :=
  frac_run x y hx hy y x fu hf h0
theorem cut_eq {fu : Nat} (x y : Nat) (hx : x ≤ 9223372036854775807) (hy : y ≤ 9223372036854775807) (h0 : 0 < x + y) (hf : y < fu) : p_spec_l2Cut fu (x : Int) (y : Int) = some (cutF x y) :=
  cut_run x y hx hy y x fu hf h0
end Go.GA.E
