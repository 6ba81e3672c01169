/- Plain law of FnCounts: chances of counts as numbers, all of them together. -/
import Derived.Test.YtalieojbaiiioaaXKh
namespace Go.GA.E
open Go
set_option maxRecDepth 100000
/-! ### binomial numbers -/
def bin : Nat → Nat → Nat
  | _, 0 => 1
  | 0, _ + 1 => 0
  | n + 1, k + 1 => bin n k + bin n (k + 1)
theorem bin_zero (n : Nat) : bin n 0 = 1 := by cases n <;> rfl
theorem bin_mul : ∀ n k : Nat, bin (n + 1) (k + 1) * (k + 1) = bin n k * (n + 1)
  | 0, 0 => rfl
  | 0, k + 1 => by simp [bin]
  | n + 1, 0 => by
    have ih := bin_mul n 0
    have e : bin (n + 2) 1 = bin (n + 1) 0 + bin (n + 1) 1 := rfl
    rw [bin_zero] at ih e ⊢
    simp only [Nat.zero_add, Nat.mul_one, Nat.one_mul] at ih ⊢
    show bin (n + 2) 1 = _
    rw [e]
    omega
  | n + 1, k + 1 => by
    have i1 := bin_mul n k
    have i2 := bin_mul n (k + 1)
    have e1 : bin (n + 1 + 1) (k + 1 + 1) = bin (n + 1) (k + 1) + bin (n + 1) (k + 1 + 1) := rfl
    have e2 : bin (n + 1) (k + 1) = bin n k + bin n (k + 1) := rfl
    rw [e1, Nat.add_mul, i2]
    have : bin (n + 1) (k + 1) * (k + 1 + 1) = bin (n + 1) (k + 1) * (k + 1) + bin (n + 1) (k + 1) := by rw [Nat.mul_succ]
    rw [this, i1, e2]
    grind
theorem bin_fact : ∀ a b : Nat, bin (b + a) a * fact a * fact b = fact (b + a)
  | 0, b => by simp [bin_zero, fact]
  | a + 1, b => by
    have ih := bin_fact a b
    have hm := bin_mul (b + a) a
    show bin (b + a + 1) (a + 1) * ((a + 1) * fact a) * fact b = (b + a + 1) * fact (b + a)
    rw [← ih, ← Nat.mul_assoc (bin (b + a + 1) (a + 1)), hm]
    grind
/-! ### orders of counts -/
def arrP : Nat → List Nat → Nat
  | _, [] => 1
  | N, v :: l => bin (N + v) v * arrP (N + v) l
def pf : List Nat → Nat
  | [] => 1
  | v :: l => fact v * pf l
theorem fact_pos : ∀ n, 0 < fact n
  | 0 => Nat.one_pos
  | n + 1 => Nat.mul_pos (by omega) (fact_pos n)
theorem pf_pos : ∀ l, 0 < pf l
  | [] => Nat.one_pos
  | v :: l => Nat.mul_pos (fact_pos v) (pf_pos l)
theorem arrP_fact : ∀ (l : List Nat) (N : Nat), arrP N l * fact N * pf l = fact (N + l.sum)
  | [], N => by simp [arrP, pf]
  | v :: l, N => by
    have ih := arrP_fact l (N + v)
    have hb := bin_fact v N
    rw [List.sum_cons, ← Nat.add_assoc, ← ih, ← hb]
    show bin (N + v) v * arrP (N + v) l * fact N * (fact v * pf l) = _
    grind
theorem arrP_cons (f : Nat) (r : List Nat) : arrP 0 (f :: r) = bin (f + r.sum) f * arrP 0 r := by
  have h1 := arrP_fact (f :: r) 0
  have h2 := arrP_fact r 0
  have h3 := bin_fact f r.sum
  rw [Nat.zero_add] at h1 h2
  have hp : 0 < fact f * pf r := Nat.mul_pos (fact_pos _) (pf_pos _)
  refine Nat.eq_of_mul_eq_mul_right hp ?_
  rw [List.sum_cons] at h1
  have e0 : fact 0 = 1 := rfl
  have e1 : pf (f :: r) = fact f * pf r := rfl
  rw [e0, Nat.mul_one] at h1 h2
  rw [← e1, h1, Nat.add_comm f, ← h3, ← h2, e1]
  grind
theorem arr_run2 {R : Type} (many N0 o0 : Nat) (C : Int × Int → Option R) (hm : many ≤ 12) : ∀ (j k fu : Nat) (o n : Nat), k + j = many → j < fu → n + j ≤ 12 → o ≤ fact n → n = N0 + k → o = o0 * bin (N0 + k) k →
    whl (fun (s8 : Int × Int × Int) c10 => (if s8.2.2 ≤ (many : Int) then if s8.2.2 ≠ 0 then c10 ((IntKind.wrap .i64 ((IntKind.wrap .i64 (s8.1 * (IntKind.wrap .i64 (s8.2.1 + 1)))).tdiv s8.2.2)), (IntKind.wrap .i64 (s8.2.1 + 1)), (IntKind.wrap .i64 (s8.2.2 + 1))) else none else C (s8.1, s8.2.1))) fu ((o : Int), (n : Int), ((k + 1 : Nat) : Int)) = C (((o0 * bin (N0 + many) many : Nat) : Int), ((N0 + many : Nat) : Int))
  | 0, k, fu, o, n, h, hf, hn, ho, e1, e2 => by
    obtain ⟨f, rfl⟩ : ∃ f, fu = f + 1 := ⟨fu - 1, by omega⟩
    simp only [whl]
    rw [if_neg (by omega), e2, e1, show k = many by omega]
  | j + 1, k, fu, o, n, h, hf, hn, ho, e1, e2 => by
    obtain ⟨f, rfl⟩ : ∃ f, fu = f + 1 := ⟨fu - 1, by omega⟩
    have f12 : fact 12 = 479001600 := by decide
    have h1 : o * (n + 1) ≤ fact (n + 1) := by
      rw [Nat.mul_comm]; exact Nat.mul_le_mul_left _ ho
    have h2 : fact (n + 1) ≤ fact 12 := fact_mono (by omega)
    have h3 : o * (n + 1) / (k + 1) ≤ fact (n + 1) := Nat.le_trans (Nat.div_le_self _ _) h1
    have e3 : o * (n + 1) / (k + 1) = o0 * bin (N0 + (k + 1)) (k + 1) := by
      have hb := bin_mul (N0 + k) k
      rw [e2, e1, Nat.mul_assoc, ← hb, ← Nat.mul_assoc]
      exact Nat.mul_div_cancel _ (by omega)
    have e := arr_run2 many N0 o0 C hm j (k + 1) f (o * (n + 1) / (k + 1)) (n + 1) (by omega) (by omega) (by omega) h3 (by omega) e3
    simp only [whl]
    rw [if_pos (by omega), if_pos (by omega), wrap_i64 (n := (n : Int) + 1) (by omega) (by omega), show (n : Int) + 1 = ((n + 1 : Nat) : Int) from rfl, ← Int.natCast_mul, wrap_nat (n := o * (n + 1)) (by omega), tdiv_nat, wrap_nat (n := o * (n + 1) / (k + 1)) (by omega), wrap_i64 (by omega) (by omega)]
    exact e
theorem arr_lrun {fu : Nat} (hf : 100 < fu) : ∀ (l : List Int) (N o : Nat), (∀ v ∈ l, ∃ n : Nat, v = (n : Int) ∧ n ≤ 12) → N + (l.map Int.toNat).sum ≤ 12 → o ≤ fact N →
    lrun (fun (a : Int) (s1 : Int × Int) (c3 : Int × Int → Option Int) => whl (fun (s8 : Int × Int × Int) c10 => (if s8.2.2 ≤ a then if s8.2.2 ≠ 0 then c10 ((IntKind.wrap .i64 ((IntKind.wrap .i64 (s8.1 * (IntKind.wrap .i64 (s8.2.1 + 1)))).tdiv s8.2.2)), (IntKind.wrap .i64 (s8.2.1 + 1)), (IntKind.wrap .i64 (s8.2.2 + 1))) else none else c3 (s8.1, s8.2.1))) fu (s1.1, s1.2, 1)) (fun (s1 : Int × Int) => some s1.1) l ((o : Int), (N : Int)) = some ((o * arrP N (l.map Int.toNat) : Nat) : Int)
  | [], N, o, _, _, _ => by simp [lrun, arrP]
  | v :: l, N, o, h, hb, ho => by
    obtain ⟨m, rfl, hm⟩ := h v (by simp)
    simp only [List.map_cons, List.sum_cons, Int.toNat_natCast] at hb
    have hob : o * bin (N + m) m ≤ fact (N + m) := by
      rw [← bin_fact m N]
      have := fact_pos m
      calc o * bin (N + m) m ≤ fact N * bin (N + m) m := Nat.mul_le_mul_right _ ho
        _ ≤ fact m * (fact N * bin (N + m) m) := Nat.le_mul_of_pos_left _ this
        _ = bin (N + m) m * fact m * fact N := by grind
    have ih := arr_lrun hf l (N + m) (o * bin (N + m) m) (fun v hv => h v (by simp [hv])) (by omega) hob
    simp only [lrun] at ih ⊢
    have e := arr_run2 m N o (fun p => lrun (fun (a : Int) (s1 : Int × Int) (c3 : Int × Int → Option Int) => whl (fun (s8 : Int × Int × Int) c10 => (if s8.2.2 ≤ a then if s8.2.2 ≠ 0 then c10 ((IntKind.wrap .i64 ((IntKind.wrap .i64 (s8.1 * (IntKind.wrap .i64 (s8.2.1 + 1)))).tdiv s8.2.2)), (IntKind.wrap .i64 (s8.2.1 + 1)), (IntKind.wrap .i64 (s8.2.2 + 1))) else none else c3 (s8.1, s8.2.1))) fu (s1.1, s1.2, 1)) (fun (s1 : Int × Int) => some s1.1) l p) hm m 0 fu o N (by omega) (by omega) (by omega) ho (by omega) (by rw [bin_zero, Nat.mul_one])
    refine e.trans (ih.trans ?_)
    simp only [List.map_cons, Int.toNat_natCast, arrP]
    rw [Nat.mul_assoc]
section
variable {x y : List Int} {fu : Nat}
theorem arrangements_eq (hc : Counts x y) (hf : 100 < fu) : p_impl_arrangements fu y = some ((arrP 0 (y.map Int.toNat) : Nat) : Int) := by
  unfold p_impl_arrangements
  rw [cnt_list (fun (a : Int) (s1 : Int × Int) (c3 : Int × Int → Option Int) => whl (fun (s8 : Int × Int × Int) c10 => (if s8.2.2 ≤ a then if s8.2.2 ≠ 0 then c10 ((IntKind.wrap .i64 ((IntKind.wrap .i64 (s8.1 * (IntKind.wrap .i64 (s8.2.1 + 1)))).tdiv s8.2.2)), (IntKind.wrap .i64 (s8.2.1 + 1)), (IntKind.wrap .i64 (s8.2.2 + 1))) else none else c3 (s8.1, s8.2.1))) fu (s1.1, s1.2, 1)) y 0 (by omega) (fun _ _ _ _ _ => rfl)]
  have hs := hc.sum
  have := arr_lrun hf y 0 1 hc.inn (by omega) (Nat.le_refl _)
  rw [Nat.one_mul] at this
  exact this
/-! ### likelihoods -/
def lik : List Nat → List Nat → Nat
  | w :: ws, v :: vs => w ^ v * lik ws vs
  | _, _ => 1
theorem lik_snoc (w v : Nat) : ∀ (ws vs : List Nat), ws.length = vs.length → lik (ws ++ [w]) (vs ++ [v]) = lik ws vs * w ^ v
  | [], [], _ => by simp [lik]
  | a :: ws, b :: vs, h => by
    have := lik_snoc w v ws vs (by simpa using h)
    simp only [List.cons_append, lik, this]
    grind
  | [], b :: vs, h => by simp at h
  | a :: ws, [], h => by simp at h
def wsF (x : List Int) : List Nat := (dd x).map (fun v => x.count v)
theorem wsF_len (x : List Int) : (wsF x).length = (dd x).length := by simp [wsF]
theorem likelihood_eq (h : x.length = 6) (hc : Counts x y) (hf : 100 < fu) : p_impl_likelihood fu x y = some ((lik (wsF x) (y.map Int.toNat) : Nat) : Int) := by
  unfold p_impl_likelihood
  rw [numbers_impl h]
  simp only [Option.bind_some]
  refine cnt_ind0 (dd x).length (fun i s => s = ((lik ((wsF x).take i) ((y.map Int.toNat).take i) : Nat) : Int) ∧ lik ((wsF x).take i) ((y.map Int.toNat).take i) ≤ 6 ^ ((y.take i).map Int.toNat).sum) (fun r => r = some ((lik (wsF x) (y.map Int.toNat) : Nat) : Int)) (by omega) ⟨rfl, by simp [lik]⟩
    (fun s ⟨e, hb⟩ => by rw [e, List.take_of_length_le (by rw [wsF_len]; omega), List.take_of_length_le (by rw [List.length_map]; have := hc.len; omega)]) (fun i s c hi ⟨e, hb⟩ hk => ?_)
  have hl := hc.len
  rw [if_pos (by omega)]
  have hiy : i < y.length := by omega
  obtain ⟨n, hn, hn12⟩ := hc.inn (y.getD i 0) (by rw [List.getD_eq_getElem?_getD, List.getElem?_eq_getElem hiy]; exact List.getElem_mem _)
  have hw := weight_count h ((dd x).getD (i : Int).toNat 0)
  have hw6 : x.count ((dd x).getD (i : Int).toNat 0) ≤ 6 := h ▸ List.count_le_length
  rw [Int.toNat_natCast] at hw hw6
  rw [Int.toNat_natCast, hw, hn, raised_eq _ n hw6 (by omega) (by omega)]
  simp only [Option.bind_some]
  have hs := sum_take y i hiy
  rw [hn, Int.toNat_natCast] at hs
  have hwi : i < (wsF x).length := by rw [wsF_len]; omega
  have t1 : (wsF x).take (i + 1) = (wsF x).take i ++ [x.count ((dd x).getD i 0)] := by
    rw [List.take_succ_eq_append_getElem hwi]
    have : (wsF x)[i] = x.count (dd x)[i] := by simp only [wsF, List.getElem_map]
    rw [this, List.getD_eq_getElem?_getD, List.getElem?_eq_getElem hi]
    rfl
  have t2 : (y.map Int.toNat).take (i + 1) = (y.map Int.toNat).take i ++ [n] := by
    rw [List.take_succ_eq_append_getElem (by rw [List.length_map]; omega)]
    congr 2
    rw [List.getElem_map]
    have : y[i] = (n : Int) := by rw [← hn, List.getD_eq_getElem?_getD, List.getElem?_eq_getElem hiy]; rfl
    rw [this]; rfl
  have t3 : lik ((wsF x).take (i + 1)) ((y.map Int.toNat).take (i + 1)) = lik ((wsF x).take i) ((y.map Int.toNat).take i) * x.count ((dd x).getD i 0) ^ n := by
    rw [t1, t2, lik_snoc]
    rw [List.length_take, List.length_take, List.length_map, wsF_len]; omega
  have hb2 : lik ((wsF x).take (i + 1)) ((y.map Int.toNat).take (i + 1)) ≤ 6 ^ ((y.take (i + 1)).map Int.toNat).sum := by
    rw [t3, hs, Nat.pow_add]
    exact Nat.mul_le_mul hb (Nat.pow_le_pow_left hw6 n)
  refine hk _ ⟨?_, hb2⟩
  have hle := sum_take_le y (i + 1)
  have hsum := hc.sum
  have e1 : lik ((wsF x).take (i + 1)) ((y.map Int.toNat).take (i + 1)) ≤ 6 ^ 12 := Nat.le_trans hb2 (Nat.pow_le_pow_right (by omega) (by omega))
  have e4 : (6 : Nat) ^ 12 = 2176782336 := by decide
  rw [e, ← Int.natCast_mul, ← t3]
  exact wrap_nat (by omega)
/-- the chance of counts -/
def chN (ws : List Nat) (r : List Int) : Nat := arrP 0 (r.map Int.toNat) * lik ws (r.map Int.toNat)
end
end Go.GA.E
