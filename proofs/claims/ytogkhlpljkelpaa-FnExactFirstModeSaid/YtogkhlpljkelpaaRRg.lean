/- Plain laws of all counts of so many rolls, and of the chances that go over them. -/
import Derived.Test.YtogkhlpljkelpaaRRe
namespace Go.GA
open Go
set_option maxRecDepth 100000
/-! ### All counts -/
def vec : Nat → Nat → List (List Int)
  | 0, _ => []
  | 1, n => [[(n : Int)]]
  | m + 2, n => (List.range (n + 1)).flatMap fun f => (vec (m + 1) (n - f)).map fun r => (f : Int) :: r
theorem vec_mem : ∀ (m n : Nat) (r : List Int), r ∈ vec (m + 1) n → r.length = m + 1 ∧ (∀ v ∈ r, ∃ k : Nat, v = (k : Int) ∧ k ≤ n) ∧ (r.map Int.toNat).sum = n
  | 0, n, r, h => by
    simp only [vec, List.mem_singleton] at h
    subst h
    exact ⟨rfl, fun v hv => by simp only [List.mem_singleton] at hv; exact ⟨n, hv, Nat.le_refl _⟩, by simp⟩
  | m + 1, n, r, h => by
    simp only [vec, List.mem_flatMap, List.mem_range, List.mem_map] at h
    obtain ⟨f, hf, q, hq, rfl⟩ := h
    obtain ⟨h1, h2, h3⟩ := vec_mem m (n - f) q hq
    refine ⟨by simp [h1], fun v hv => ?_, ?_⟩
    · rcases List.mem_cons.1 hv with rfl | hv
      · exact ⟨f, rfl, by omega⟩
      · obtain ⟨k, hk, hkn⟩ := h2 v hv
        exact ⟨k, hk, by omega⟩
    · simp only [List.map_cons, List.sum_cons, Int.toNat_natCast, h3]; omega
theorem flatMap_len {α β : Type} (g : α → List β) (B : Nat) : ∀ (l : List α), (∀ a ∈ l, (g a).length ≤ B) → (l.flatMap g).length ≤ l.length * B
  | [], _ => by simp
  | a :: l, h => by
    have := flatMap_len g B l (fun b hb => h b (by simp [hb]))
    have := h a (by simp)
    simp only [List.flatMap_cons, List.length_append, List.length_cons, Nat.succ_mul]; omega
theorem vec_len : ∀ (m n : Nat), (vec (m + 1) n).length ≤ (n + 1) ^ m
  | 0, n => by simp [vec]
  | m + 1, n => by
    have : (vec (m + 2) n).length ≤ (List.range (n + 1)).length * (n + 1) ^ m := flatMap_len _ _ _ (fun f hf => by
      rw [List.length_map]
      exact Nat.le_trans (vec_len m (n - f)) (Nat.pow_le_pow_left (by omega) m))
    rw [List.length_range] at this
    rw [Nat.pow_succ, Nat.mul_comm]; exact this
theorem lrun_app {R : Type} (f : Int) (K : List (List Int) → Option R) : ∀ (l s : List (List Int)), (∀ r ∈ l, r.length ≤ 100) → s.length + l.length ≤ 1000000000 →
    lrun (fun r s c => if 1 + (r.length : Int) ≤ 1000000000 then if (s.length : Int) + 1 ≤ 1000000000 then c (s ++ [([f] ++ r)]) else none else none) K l s = K (s ++ l.map fun r => f :: r)
  | [], s, _, _ => by simp [lrun]
  | r :: l, s, h, hl => by
    simp only [lrun]
    simp only [List.length_cons] at hl
    have := h r (by simp)
    rw [if_pos (by omega), if_pos (by omega), lrun_app f K l _ (fun q hq => h q (by simp [hq])) (by simp; omega)]
    simp
/-- all first numbers, one after the other -/
theorem vec_run (m n : Nat) (hm : m ≤ 5) (hn : n ≤ 8) (C : Int → Prop) [DecidablePred C] (hC : ∀ k : Nat, C (k : Int) ↔ k ≤ n) (rec : Int → Int → Option (List (List Int))) (A : Int) (hr : ∀ f : Nat, f ≤ n → rec A ((n - f : Nat) : Int) = some (vec (m + 1) (n - f))) :
    ∀ (j i fu : Nat) (acc : List (List Int)), i + j = n + 1 → j < fu → acc.length ≤ i * 59049 →
    whl (fun (s4 : Int × (List (List Int))) c6 => (if C s4.1 then (rec A (IntKind.wrap .i64 ((n : Int) - s4.1))).bind (fun r11 => cnt (fun i14 (s13 : (List (List Int))) c15 _ => if 1 + ((r11.getD i14.toNat []).length : Int) ≤ 1000000000 then if (s13.length : Int) + 1 ≤ 1000000000 then c15 (s13 ++ [([s4.1] ++ (r11.getD i14.toNat []))]) else none else none) (fun i14 (s13 : (List (List Int))) => c6 ((IntKind.wrap .i64 (s4.1 + 1)), s13)) (Int.toNat ((r11.length : Int) - 0)) 0 s4.2) else some s4.2)) fu ((i : Int), acc)
      = some (acc ++ (List.range' i j).flatMap fun f => (vec (m + 1) (n - f)).map fun r => (f : Int) :: r)
  | 0, i, fu, acc, h, hf, _ => by
    obtain ⟨f, rfl⟩ : ∃ f, fu = f + 1 := ⟨fu - 1, by omega⟩
    simp only [whl]
    rw [if_neg (by rw [hC]; omega)]
    simp
  | j + 1, i, fu, acc, h, hf, ha => by
    obtain ⟨f, rfl⟩ : ∃ f, fu = f + 1 := ⟨fu - 1, by omega⟩
    have hvl : (vec (m + 1) (n - i)).length ≤ 59049 := Nat.le_trans (vec_len m (n - i)) (Nat.le_trans (Nat.pow_le_pow_left (by omega : n - i + 1 ≤ 9) m) (Nat.le_trans (Nat.pow_le_pow_right (by omega) hm) (by decide)))
    simp only [whl]
    have e2 : IntKind.wrap .i64 ((n : Int) - (i : Int)) = ((n - i : Nat) : Int) := by rw [wrap_i64 (by omega) (by omega)]; omega
    rw [if_pos (by rw [hC]; omega), e2, hr i (by omega)]
    simp only [Option.bind_some]
    rw [cnt_list (fun r s c => if 1 + (r.length : Int) ≤ 1000000000 then if (s.length : Int) + 1 ≤ 1000000000 then c (s ++ [([(i : Int)] ++ r)]) else none else none) (vec (m + 1) (n - i)) [] (by omega) (fun i s c h0 h1 => rfl)]
    rw [lrun_app (i : Int) _ _ _ (fun r hr' => by have := (vec_mem m (n - i) r hr').1; omega) (by omega)]
    have e3 : IntKind.wrap .i64 ((i : Int) + 1) = ((i + 1 : Nat) : Int) := by rw [wrap_i64 (by omega) (by omega)]; omega
    rw [e3, vec_run m n hm hn C hC rec A hr j (i + 1) f _ (by omega) (by omega) (by rw [List.length_append, List.length_map, Nat.succ_mul]; omega)]
    rw [List.range'_succ, List.flatMap_cons, List.append_assoc]
theorem vec_all (m n : Nat) : vec (m + 2) n = [] ++ (List.range' 0 (n + 1)).flatMap fun f => (vec (m + 1) (n - f)).map fun r => (f : Int) :: r := by
  rw [List.nil_append, ← List.range_eq_range']; rfl
theorem vec_spec : ∀ (m n fu : Nat), m ≤ 5 → n ≤ 8 → m + 20 < fu → p_spec_l11Vectors fu ((m + 1 : Nat) : Int) (n : Int) = some (vec (m + 1) n)
  | 0, n, fu, _, _, hf => by
    obtain ⟨f, rfl⟩ : ∃ f, fu = f + 1 := ⟨fu - 1, by omega⟩
    rw [p_spec_l11Vectors.eq_2, if_pos (show ((0 + 1 : Nat) : Int) = 1 from rfl)]; rfl
  | m + 1, n, fu, hm, hn, hf => by
    obtain ⟨f, rfl⟩ : ∃ f, fu = f + 1 := ⟨fu - 1, by omega⟩
    rw [p_spec_l11Vectors.eq_2, if_neg (by omega), vec_all]
    exact vec_run m n (by omega) hn (fun k => k ≤ (n : Int)) (fun k => by omega) (p_spec_l11Vectors f) _ (fun k hk => by
      have e1 : IntKind.wrap .i64 (((m + 1 + 1 : Nat) : Int) - 1) = ((m + 1 : Nat) : Int) := by rw [wrap_i64 (by omega) (by omega)]; omega
      rw [e1]
      exact vec_spec m (n - k) f (by omega) (by omega) (by omega)) (n + 1) 0 f [] (by omega) (by omega) (by simp)
theorem vec_impl : ∀ (m n fu : Nat), m ≤ 5 → n ≤ 8 → m + 20 < fu → p_impl_vectors fu ((m + 1 : Nat) : Int) (n : Int) = some (vec (m + 1) n)
  | 0, n, fu, _, _, hf => by
    obtain ⟨f, rfl⟩ : ∃ f, fu = f + 1 := ⟨fu - 1, by omega⟩
    rw [p_impl_vectors.eq_2, if_pos (show ((0 + 1 : Nat) : Int) = 1 from rfl)]; rfl
  | m + 1, n, fu, hm, hn, hf => by
    obtain ⟨f, rfl⟩ : ∃ f, fu = f + 1 := ⟨fu - 1, by omega⟩
    rw [p_impl_vectors.eq_2, if_neg (by omega), vec_all]
    have e : IntKind.wrap .i64 ((n : Int) + 1) = (n : Int) + 1 := wrap_i64 (by omega) (by omega)
    rw [e]
    exact vec_run m n (by omega) hn (fun k => k < (n : Int) + 1) (fun k => by omega) (p_impl_vectors f) _ (fun k hk => by
      have e1 : IntKind.wrap .i64 (((m + 1 + 1 : Nat) : Int) - 1) = ((m + 1 : Nat) : Int) := by rw [wrap_i64 (by omega) (by omega)]; omega
      rw [e1]
      exact vec_impl m (n - k) f (by omega) (by omega) (by omega)) (n + 1) 0 f [] (by omega) (by omega) (by simp)
/-! ### Counts that are listed -/
theorem dd_pos {x : List Int} (h : x.length = 6) : ∃ m, (dd x).length = m + 1 ∧ m ≤ 5 := by
  have h1 : (dd x).length ≤ 6 := h ▸ dd_len x
  have h2 : 0 < (dd x).length := by
    obtain ⟨a, b, c, d, e, f, rfl⟩ := len6 h
    exact List.length_pos_of_mem ((dd_mem _ a).2 (by simp))
  exact ⟨(dd x).length - 1, by omega, by omega⟩
theorem vec_counts {x : List Int} {m n : Nat} (hd : p_impl_IsDie x = true) (hm : (dd x).length = m + 1) (hn : n ≤ 8) {r : List Int} (hr : r ∈ vec (m + 1) n) : Counts x r := by
  obtain ⟨h1, h2, h3⟩ := vec_mem m n r hr
  exact ⟨hd, by omega, fun v hv => by obtain ⟨k, hk, hkn⟩ := h2 v hv; exact ⟨k, hk, by omega⟩, by omega⟩
section
variable {x y : List Int} {fu : Nat}
theorem likelihood_b2 (h : x.length = 6) (hc : Counts x y) (hf : 100 < fu) : ∃ v : Nat, p_impl_likelihood fu x y = some (v : Int) ∧ v ≤ 6 ^ (y.map Int.toNat).sum := by
  unfold p_impl_likelihood
  rw [numbers_impl h]
  simp only [Option.bind_some]
  refine cnt_ind0 (dd x).length (fun i s => ∃ c : Nat, s = (c : Int) ∧ c ≤ 6 ^ ((y.take i).map Int.toNat).sum) (fun r => ∃ v : Nat, r = some (v : Int) ∧ v ≤ 6 ^ (y.map Int.toNat).sum) (by omega) ⟨1, rfl, by simp⟩
    (fun s ⟨c, e, hb⟩ => ⟨c, by rw [e], Nat.le_trans hb (Nat.pow_le_pow_right (by omega) (sum_take_le _ _))⟩) (fun i s c hi ⟨a, e, hb⟩ hk => ?_)
  subst e
  have hl := hc.len
  rw [if_pos (by omega)]
  have hiy : i < y.length := by omega
  obtain ⟨n, hn, hn12⟩ := hc.inn (y.getD i 0) (by rw [List.getD_eq_getElem?_getD, List.getElem?_eq_getElem hiy]; exact List.getElem_mem _)
  obtain ⟨m, hm, hm6⟩ := weight_b (x := x) ((dd x).getD (i : Int).toNat 0)
  rw [hm, Int.toNat_natCast, hn, raised_eq m n hm6 (by omega) (by omega)]
  simp only [Option.bind_some]
  have hs := sum_take y i hiy
  rw [hn, Int.toNat_natCast] at hs
  refine hk _ ⟨a * m ^ n, ?_, ?_⟩
  · have hle := sum_take_le y (i + 1)
    have hsum := hc.sum
    have e1 : a * m ^ n ≤ 6 ^ 12 := Nat.le_trans (Nat.mul_le_mul hb (Nat.pow_le_pow_left hm6 n)) (by
      rw [← Nat.pow_add, ← hs]; exact Nat.pow_le_pow_right (by omega) (by omega))
    have e4 : (6 : Nat) ^ 12 = 2176782336 := by decide
    rw [← Int.natCast_mul]
    exact wrap_nat (by omega)
  · rw [hs, Nat.pow_add]
    exact Nat.mul_le_mul hb (Nat.pow_le_pow_left hm6 n)
theorem arrangements_b2 (hc : Counts x y) (hf : 100 < fu) : ∃ v : Nat, p_impl_arrangements fu y = some (v : Int) ∧ v ≤ fact (y.map Int.toNat).sum := by
  unfold p_impl_arrangements
  refine cnt_ind0 y.length (fun i s => ∃ o : Nat, s = ((o : Int), ((((y.take i).map Int.toNat).sum : Nat) : Int)) ∧ o ≤ fact ((y.take i).map Int.toNat).sum) (fun r => ∃ v : Nat, r = some (v : Int) ∧ v ≤ fact (y.map Int.toNat).sum) (by omega) ⟨1, rfl, Nat.le_refl _⟩
    (fun s ⟨o, e, hb⟩ => ⟨o, by rw [e], Nat.le_trans hb (fact_mono (sum_take_le _ _))⟩) (fun i s c hi ⟨o, e, hb⟩ hk => ?_)
  subst e
  obtain ⟨n, hn, hn12⟩ := hc.inn (y.getD i 0) (by rw [List.getD_eq_getElem?_getD, List.getElem?_eq_getElem hi]; exact List.getElem_mem _)
  have hs := sum_take y i hi
  rw [hn, Int.toNat_natCast] at hs
  have hle := sum_take_le y (i + 1)
  have hsum := hc.sum
  rw [Int.toNat_natCast, hn]
  obtain ⟨o', ho', e⟩ := arr_run n (fun p => c p) hn12 n 0 fu o ((y.take i).map Int.toNat).sum (by omega) (by omega) (by omega) hb
  have e' := e
  refine Eq.subst (motive := fun z => ∃ v : Nat, z = some (v : Int) ∧ v ≤ fact (y.map Int.toNat).sum) e'.symm ?_
  refine hk _ ⟨o', by rw [hs], by rw [hs]; exact ho'⟩
/-- the chance of counts of up to 8 rolls -/
theorem chance_b2 (h : x.length = 6) (hc : Counts x y) (hf : 100 < fu) (h8 : (y.map Int.toNat).sum ≤ 8) : ∃ v : Nat, p_impl_chance fu x y = some (v : Int) ∧ p_spec_l11Chance fu x y = some (v : Int) ∧ v ≤ 67722117120 := by
  unfold p_impl_chance p_spec_l11Chance
  rw [ways_eq fu h hc.die hc.len, orders_eq]
  obtain ⟨v, hv, hb⟩ := likelihood_b2 h hc hf
  obtain ⟨u, hu, hub⟩ := arrangements_b2 hc hf
  have e1 : (6 : Nat) ^ (y.map Int.toNat).sum ≤ 6 ^ 8 := Nat.pow_le_pow_right (by omega) h8
  have e2 : fact (y.map Int.toNat).sum ≤ fact 8 := fact_mono h8
  have hb2 : u * v ≤ fact 8 * 6 ^ 8 := Nat.mul_le_mul (by omega) (by omega)
  have e4 : fact 8 * 6 ^ 8 = 67722117120 := by decide
  rw [e4] at hb2
  have hb3 : u * v ≤ 9223372036854775807 := Nat.le_trans hb2 (by decide)
  refine ⟨u * v, ?_, ?_, hb2⟩
  · rw [hv, hu]
    simp only [Option.bind_some]
    rw [← Int.natCast_mul, wrap_nat hb3]
  · rw [hv, hu]
    simp only [Option.bind_some]
    rw [← Int.natCast_mul, Nat.mul_comm v u, wrap_nat hb3]
end
end Go.GA
