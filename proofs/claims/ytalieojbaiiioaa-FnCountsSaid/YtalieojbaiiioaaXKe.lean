/- Plain law of ChanceOfCounts. -/
import Derived.Test.YtalieojbaiiioaaXKd
namespace Go.GA.E
theorem orders_eq (fu : Nat) (x : List Int) : p_spec_l11Orders fu x = p_impl_arrangements fu x := rfl
def fact : Nat → Nat
  | 0 => 1
  | n + 1 => (n + 1) * fact n
theorem fact_mono {a b : Nat} (h : a ≤ b) : fact a ≤ fact b := by
  induction b with
  | zero => obtain rfl : a = 0 := by omega
            exact Nat.le_refl _
  | succ b ih =>
    by_cases e : a = b + 1
    · subst e; exact Nat.le_refl _
    · exact Nat.le_trans (ih (by omega)) (Nat.le_mul_of_pos_left _ (by omega))
/-- the inner loop: 'many' more rolls -/
theorem arr_run {R : Type} (many : Nat) (C : Int × Int → Option R) (hm : many ≤ 12) : ∀ (j k fu : Nat) (o n : Nat), k + j = many → j < fu → n + j ≤ 12 → o ≤ fact n →
    ∃ o' : Nat, o' ≤ fact (n + j) ∧ whl (fun (s8 : Int × Int × Int) c10 => (if s8.2.2 ≤ (many : Int) then if s8.2.2 ≠ 0 then c10 ((IntKind.wrap .i64 ((IntKind.wrap .i64 (s8.1 * (IntKind.wrap .i64 (s8.2.1 + 1)))).tdiv s8.2.2)), (IntKind.wrap .i64 (s8.2.1 + 1)), (IntKind.wrap .i64 (s8.2.2 + 1))) else none else C (s8.1, s8.2.1))) fu ((o : Int), (n : Int), ((k + 1 : Nat) : Int)) = C ((o' : Int), ((n + j : Nat) : Int))
  | 0, k, fu, o, n, h, hf, hn, ho => by
    obtain ⟨f, rfl⟩ : ∃ f, fu = f + 1 := ⟨fu - 1, by omega⟩
    refine ⟨o, ho, ?_⟩
    simp only [whl]
    rw [if_neg (by omega)]
    rfl
  | j + 1, k, fu, o, n, h, hf, hn, ho => by
    obtain ⟨f, rfl⟩ : ∃ f, fu = f + 1 := ⟨fu - 1, by omega⟩
    have f12 : fact 12 = 479001600 := by decide
    have h1 : o * (n + 1) ≤ fact (n + 1) := by
      rw [Nat.mul_comm]; exact Nat.mul_le_mul_left _ ho
    have h2 : fact (n + 1) ≤ fact 12 := fact_mono (by omega)
    have h3 : o * (n + 1) / (k + 1) ≤ fact (n + 1) := Nat.le_trans (Nat.div_le_self _ _) h1
    obtain ⟨o', ho', e⟩ := arr_run many C hm j (k + 1) f (o * (n + 1) / (k + 1)) (n + 1) (by omega) (by omega) (by omega) h3
    refine ⟨o', by rw [show n + (j + 1) = n + 1 + j by omega]; exact ho', ?_⟩
    simp only [whl]
    rw [if_pos (by omega), if_pos (by omega), wrap_i64 (n := (n : Int) + 1) (by omega) (by omega), show (n : Int) + 1 = ((n + 1 : Nat) : Int) from rfl, ← Int.natCast_mul, wrap_nat (n := o * (n + 1)) (by omega), tdiv_nat, wrap_nat (n := o * (n + 1) / (k + 1)) (by omega), wrap_i64 (by omega) (by omega)]
    rw [show n + (j + 1) = n + 1 + j by omega]
    exact e
theorem arrangements_b {x y : List Int} {fu : Nat} (h : x.length = 6) (hc : Counts x y) (hf : 100 < fu) : ∃ v : Nat, p_impl_arrangements fu y = some (v : Int) ∧ v ≤ 479001600 := by
  unfold p_impl_arrangements
  have f12 : fact 12 = 479001600 := by decide
  refine cnt_ind0 y.length (fun i s => ∃ o : Nat, s = ((o : Int), ((((y.take i).map Int.toNat).sum : Nat) : Int)) ∧ o ≤ fact ((y.take i).map Int.toNat).sum) (fun r => ∃ v : Nat, r = some (v : Int) ∧ v ≤ 479001600) (by omega) ⟨1, rfl, Nat.le_refl _⟩
    (fun s ⟨o, e, hb⟩ => ⟨o, by rw [e], Nat.le_trans hb (by rw [← f12]; exact fact_mono (Nat.le_trans (sum_take_le _ _) hc.sum))⟩) (fun i s c hi ⟨o, e, hb⟩ hk => ?_)
  subst e
  obtain ⟨n, hn, hn12⟩ := hc.inn (y.getD i 0) (by rw [List.getD_eq_getElem?_getD, List.getElem?_eq_getElem hi]; exact List.getElem_mem _)
  have hs := sum_take y i hi
  rw [hn, Int.toNat_natCast] at hs
  have hle := sum_take_le y (i + 1)
  have hsum := hc.sum
  rw [Int.toNat_natCast, hn]
  obtain ⟨o', ho', e⟩ := arr_run n (fun p => c p) hn12 n 0 fu o ((y.take i).map Int.toNat).sum (by omega) (by omega) (by omega) hb
  have e' := e
  refine Eq.subst (motive := fun z => ∃ v : Nat, z = some (v : Int) ∧ v ≤ 479001600) e'.symm ?_
  refine hk _ ⟨o', by rw [hs], by rw [hs]; exact ho'⟩
theorem chance_b {x y : List Int} {fu : Nat} (h : x.length = 6) (hc : Counts x y) (hf : 100 < fu) : ∃ v : Nat, p_impl_chance fu x y = some (v : Int) ∧ p_spec_l11Chance fu x y = some (v : Int) ∧ v ≤ 479001600 * 6 ^ 12 := by
  unfold p_impl_chance p_spec_l11Chance
  rw [ways_eq fu h hc.die hc.len, orders_eq]
  obtain ⟨v, hv, hb⟩ := likelihood_b h hc hf
  obtain ⟨u, hu, hub⟩ := arrangements_b h hc hf
  have e4 : (6 : Nat) ^ 12 = 2176782336 := by decide
  have hb2 : u * v ≤ 479001600 * 6 ^ 12 := Nat.mul_le_mul hub hb
  refine ⟨u * v, ?_, ?_, hb2⟩
  · rw [hv, hu]
    simp only [Option.bind_some]
    rw [← Int.natCast_mul, wrap_nat (by omega)]
  · rw [hv, hu]
    simp only [Option.bind_some]
    rw [← Int.natCast_mul, Nat.mul_comm v u, wrap_nat (by omega)]
end Go.GA.E
