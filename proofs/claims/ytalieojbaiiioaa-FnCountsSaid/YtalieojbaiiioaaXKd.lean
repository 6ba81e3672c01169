/- Plain laws of powers, fractions, counts of a die. -/
import Derived.Test.YtalieojbaiiioaaXKc
namespace Go.GA.E
/-- what holds at each round of a loop -/
theorem cnt_ind {S R : Type} {f : Int → S → (S → R) → (Int → S → R) → R} {k : Int → S → R} (n : Nat) (I : Nat → S → Prop) (Q : R → Prop) (hk : ∀ s, I n s → Q (k (n : Int) s)) (hf : ∀ (i : Nat) s c, i < n → I i s → (∀ s', I (i + 1) s' → Q (c s')) → Q (f (i : Int) s c k)) :
    ∀ (d i : Nat) (s : S), d + i = n → I i s → Q (cnt f k d (i : Int) s)
  | 0, i, s, h, hi => by
    obtain rfl : i = n := by omega
    exact hk s hi
  | d + 1, i, s, h, hi => by
    refine hf i s _ (by omega) hi (fun s' hs' => ?_)
    have := cnt_ind n I Q hk hf d (i + 1) s' (by omega) hs'
    simpa using this
theorem cnt_ind0 {S R : Type} {f : Int → S → (S → R) → (Int → S → R) → R} {k : Int → S → R} {d : Nat} {s : S} (n : Nat) (I : Nat → S → Prop) (Q : R → Prop) (hd : d = n) (h0 : I 0 s) (hk : ∀ s, I n s → Q (k (n : Int) s)) (hf : ∀ (i : Nat) s c, i < n → I i s → (∀ s', I (i + 1) s' → Q (c s')) → Q (f (i : Int) s c k)) : Q (cnt f k d 0 s) := by
  have := cnt_ind n I Q hk hf d 0 s (by omega) h0
  simpa using this
/-- two loops that are alike where they run -/
theorem cnt_congr_n {S R : Type} {f g : Int → S → (S → R) → (Int → S → R) → R} {k : Int → S → R} {d : Nat} {s : S} (n : Nat) (hd : d = n) (h : ∀ (i : Nat) s c, i < n → f (i : Int) s c k = g (i : Int) s c k) : cnt f k d 0 s = cnt g k d 0 s := by
  have key : ∀ (d i : Nat) (s : S), d + i = n → cnt f k d (i : Int) s = cnt g k d (i : Int) s := by
    intro d
    induction d with
    | zero => intro i s _; rfl
    | succ d ih =>
      intro i s hi
      show f (i : Int) s _ k = g (i : Int) s _ k
      rw [h i s _ (by omega)]
      congr 1
      funext s'
      have := ih (i + 1) s' (by omega)
      simpa using this
  have := key d 0 s (by omega)
  simpa using this
theorem pow_run (m n : Nat) (hm : m ≤ 6) (hn : n ≤ 1000) : ∀ (k i c fu : Nat), i + k = n → k < fu → c * 6 ^ k ≤ 6 ^ 24 →
    whl (fun (s1 : Int × Int) c3 => (if s1.2 < (n : Int) then c3 ((IntKind.wrap .i64 (s1.1 * (m : Int))), (IntKind.wrap .i64 (s1.2 + 1))) else some s1.1)) fu ((c : Int), (i : Int)) = some ((c * m ^ k : Nat) : Int)
  | 0, i, c, fu, h, hf, _ => by
    obtain ⟨f, rfl⟩ : ∃ f, fu = f + 1 := ⟨fu - 1, by omega⟩
    simp only [whl]
    rw [if_neg (by omega)]
    simp
  | k + 1, i, c, fu, h, hf, hb => by
    obtain ⟨f, rfl⟩ : ∃ f, fu = f + 1 := ⟨fu - 1, by omega⟩
    have e1 : c * 6 * 6 ^ k ≤ 6 ^ 24 := by rw [Nat.mul_assoc, ← Nat.pow_succ']; exact hb
    have e2 : c * m * 6 ^ k ≤ 6 ^ 24 := Nat.le_trans (Nat.mul_le_mul_right _ (Nat.mul_le_mul_left _ hm)) e1
    have e3 : c * m ≤ 6 ^ 24 := Nat.le_trans (Nat.le_mul_of_pos_right _ (Nat.pow_pos (by omega))) e2
    have e4 : (6 : Nat) ^ 24 = 4738381338321616896 := by decide
    simp only [whl]
    rw [if_pos (by omega), ← Int.natCast_mul, wrap_i64 (n := ((c * m : Nat) : Int)) (by omega) (by omega), wrap_i64 (by omega) (by omega)]
    have := pow_run m n hm hn k (i + 1) (c * m) f (by omega) (by omega) e2
    rw [show (i : Int) + 1 = ((i + 1 : Nat) : Int) from rfl, this, Nat.pow_succ', Nat.mul_assoc]
theorem raised_eq {fu : Nat} (m n : Nat) (hm : m ≤ 6) (hn : n ≤ 24) (hf : n < fu) : p_impl_raised fu (m : Int) (n : Int) = some ((m ^ n : Nat) : Int) := by
  unfold p_impl_raised
  have := pow_run m n hm (by omega) n 0 1 fu (by omega) hf (by rw [Nat.one_mul]; exact Nat.pow_le_pow_right (by omega) hn)
  simpa using this
theorem power_eq {fu : Nat} (n : Nat) (hn : n ≤ 24) (hf : n < fu) : p_impl_power fu (n : Int) = some ((6 ^ n : Nat) : Int) := by
  unfold p_impl_power
  have := pow_run 6 n (Nat.le_refl _) (by omega) n 0 1 fu (by omega) hf (by rw [Nat.one_mul]; exact Nat.pow_le_pow_right (by omega) hn)
  simpa using this
theorem all_power (fu : Nat) (n : Int) : p_spec_l2All fu n = p_impl_power fu n := rfl
/-- a fraction cut down -/
def cutF (a b : Nat) : List Int := [((a / Nat.gcd a b : Nat) : Int), ((b / Nat.gcd a b : Nat) : Int)]
theorem wrap_nat {n : Nat} (h : n ≤ 9223372036854775807) : IntKind.wrap .i64 (n : Int) = (n : Int) := wrap_i64 (by omega) (by omega)
theorem tdiv_nat (a b : Nat) : Int.tdiv (a : Int) (b : Int) = ((a / b : Nat) : Int) := rfl
theorem frac_run (x y : Nat) (hx : x ≤ 9223372036854775807) (hy : y ≤ 9223372036854775807) : ∀ (b a fu : Nat), b < fu → 0 < a + b →
    whl (fun (s1 : Int × Int) c3 => (if s1.2 = 0 then if s1.1 ≠ 0 then if s1.1 ≠ 0 then some [(IntKind.wrap .i64 ((x : Int).tdiv s1.1)), (IntKind.wrap .i64 ((y : Int).tdiv s1.1))] else none else none else if s1.2 ≠ 0 then c3 (s1.2, (s1.1.tmod s1.2)) else none)) fu ((a : Int), (b : Int)) = some [((x / Nat.gcd a b : Nat) : Int), ((y / Nat.gcd a b : Nat) : Int)] := by
  intro b
  induction b using Nat.strongRecOn with
  | _ b ih =>
    intro a fu hf h0
    obtain ⟨f, rfl⟩ : ∃ f, fu = f + 1 := ⟨fu - 1, by omega⟩
    simp only [whl]
    by_cases hb : b = 0
    · subst hb
      have ha : (a : Int) ≠ 0 := by omega
      rw [if_pos (by rfl), if_pos ha, if_pos ha, tdiv_nat, tdiv_nat, wrap_nat (Nat.le_trans (Nat.div_le_self _ _) hx), wrap_nat (Nat.le_trans (Nat.div_le_self _ _) hy)]
      simp
    · have hb' : ¬ (b : Int) = 0 := by omega
      rw [if_neg hb', if_pos hb', ← Int.ofNat_tmod]
      have hm : a % b < b := Nat.mod_lt _ (by omega)
      rw [ih (a % b) hm b f (by omega) (by omega)]
      rw [show Nat.gcd b (a % b) = Nat.gcd a b from by rw [Nat.gcd_comm b, ← Nat.gcd_rec, Nat.gcd_comm]]
theorem cut_run (x y : Nat) (hx : x ≤ 9223372036854775807) (hy : y ≤ 9223372036854775807) : ∀ (b a fu : Nat), b < fu → 0 < a + b →
    whl (fun (s1 : Int × Int) c3 => (if 0 < s1.2 then c3 (s1.2, (s1.1.tmod s1.2)) else if (p_spec_l1Most s1.1 1) ≠ 0 then if (p_spec_l1Most s1.1 1) ≠ 0 then some [(IntKind.wrap .i64 ((x : Int).tdiv (p_spec_l1Most s1.1 1))), (IntKind.wrap .i64 ((y : Int).tdiv (p_spec_l1Most s1.1 1)))] else none else none)) fu ((a : Int), (b : Int)) = some [((x / Nat.gcd a b : Nat) : Int), ((y / Nat.gcd a b : Nat) : Int)] := by
  intro b
  induction b using Nat.strongRecOn with
  | _ b ih =>
    intro a fu hf h0
    obtain ⟨f, rfl⟩ : ∃ f, fu = f + 1 := ⟨fu - 1, by omega⟩
    simp only [whl]
    by_cases hb : b = 0
    · subst hb
      have hm : p_spec_l1Most (a : Int) 1 = (a : Int) := by
        unfold p_spec_l1Most
        split
        · rfl
        · omega
      have ha : (a : Int) ≠ 0 := by omega
      rw [if_neg (by omega), hm, if_pos ha, if_pos ha, tdiv_nat, tdiv_nat, wrap_nat (Nat.le_trans (Nat.div_le_self _ _) hx), wrap_nat (Nat.le_trans (Nat.div_le_self _ _) hy)]
      simp
    · rw [if_pos (by omega), ← Int.ofNat_tmod]
      have hm : a % b < b := Nat.mod_lt _ (by omega)
      rw [ih (a % b) hm b f (by omega) (by omega)]
      rw [show Nat.gcd b (a % b) = Nat.gcd a b from by rw [Nat.gcd_comm b, ← Nat.gcd_rec, Nat.gcd_comm]]
theorem fraction_eq {fu : Nat} (x y : Nat) (hx : x ≤ 9223372036854775807) (hy : y ≤ 9223372036854775807) (h0 : 0 < x + y) (hf : y < fu) : p_impl_fraction fu (x : Int) (y : Int) = some (cutF x y) :=
  frac_run x y hx hy y x fu hf h0
theorem cut_eq {fu : Nat} (x y : Nat) (hx : x ≤ 9223372036854775807) (hy : y ≤ 9223372036854775807) (h0 : 0 < x + y) (hf : y < fu) : p_spec_l2Cut fu (x : Int) (y : Int) = some (cutF x y) :=
  cut_run x y hx hy y x fu hf h0
/-! ### Counts -/
theorem weight_b {x : List Int} (y : Int) : ∃ m : Nat, p_impl_weight x y = (m : Int) ∧ m ≤ 6 := by
  unfold p_impl_weight
  refine cnt_ind0 6 (fun i s => ∃ m : Nat, s = (m : Int) ∧ m ≤ i) (fun r => ∃ m : Nat, r = (m : Int) ∧ m ≤ 6) rfl ⟨0, rfl, Nat.le_refl _⟩ (fun s h => h) (fun i s c hi ⟨m, e, hm⟩ hc => ?_)
  subst e
  refine hc _ ?_
  simp only [p_impl_truth]
  split
  · exact ⟨m + 1, wrap_i64 (by omega) (by omega), by omega⟩
  · exact ⟨m, by rw [Int.add_zero]; exact wrap_nat (by omega), by omega⟩
theorem weight_eq {x : List Int} (y : Int) : p_spec_l8Weight x y = p_impl_weight x y := by
  unfold p_spec_l8Weight p_impl_weight
  have key : ∀ (d : Nat) (i : Nat) (m : Nat), m + d ≤ 1000 → cnt (fun i2 (s1 : Int) c3 _ => (if (x.getD i2.toNat 0) = y then c3 (IntKind.wrap .i64 (s1 + 1)) else c3 s1)) (fun i2 (s1 : Int) => s1) d (i : Int) (m : Int) = cnt (fun i2 (s1 : Int) c3 _ => c3 (IntKind.wrap .i64 (s1 + (p_impl_truth (decide ((x.getD i2.toNat 0) = y)))))) (fun i2 (s1 : Int) => s1) d (i : Int) (m : Int) := by
    intro d
    induction d with
    | zero => intro i m _; rfl
    | succ d ih =>
      intro i m h
      simp only [cnt]
      by_cases e : x.getD (i : Int).toNat 0 = y
      · rw [if_pos e, decide_eq_true e]
        simp only [p_impl_truth, if_true]
        rw [wrap_i64 (n := (m : Int) + 1) (by omega) (by omega)]
        exact ih (i + 1) (m + 1) (by omega)
      · rw [if_neg e, decide_eq_false e]
        simp only [p_impl_truth, Bool.false_eq_true, if_false, Int.add_zero]
        rw [wrap_nat (by omega)]
        exact ih (i + 1) m (by omega)
  exact key 6 0 0 (by omega)
theorem areIn_eq (x : List Int) : p_impl_areAll_intv1 x = x.all (fun a => p_spec_l1In a 0 12) := by
  unfold p_impl_areAll_intv1 p_slices_ContainsFunc_int_intv1 p_slices_IndexFunc_int_intv1
  rw [noneFunc p_impl_areAll_int_1v1]
  congr 1
  funext a
  simp [p_impl_areAll_int_1v1, p_impl_areCounts_1, within_In]
def wsum (s : Int) (l : List Int) : Int := l.foldl (fun s v => IntKind.wrap .i64 (s + v)) s
theorem total_eq (x : List Int) : p_impl_total x = wsum 0 x := by
  unfold p_impl_total
  rw [cnt_list (fun v s c => c (IntKind.wrap .i64 (s + v))) x 0 (by omega) (fun i s c h0 h1 => rfl), lrun_fold (fun v s => IntKind.wrap .i64 (s + v))]; rfl
theorem counts_loop (l : List Int) : ∀ (s : Int), lrun (fun v s c => if p_spec_l1In v 0 12 = true then c (IntKind.wrap .i64 (s + v)) else some false) (fun s => some (decide (s ≤ 12))) l s = if l.all (fun a => p_spec_l1In a 0 12) = true then some (decide (wsum s l ≤ 12)) else some false := by
  induction l with
  | nil => intro s; rfl
  | cons v l ih =>
    intro s
    simp only [lrun]
    rw [ih, List.all_cons]
    cases h : p_spec_l1In v 0 12
    · rfl
    · rfl
theorem counts_eq {x : List Int} (h : x.length = 6) (y : List Int) : p_spec_l11Counts x y = p_impl_areCounts x y := by
  unfold p_spec_l11Counts p_impl_areCounts
  rw [l2Die_eq h]
  simp only [Option.bind_some]
  cases hd : p_impl_IsDie x with
  | false => rfl
  | true =>
    simp only [if_true]
    rw [numbers_eq h (sorted_of_IsDie h hd), numbers_impl h]
    simp only [Option.bind_some]
    by_cases hl : (y.length : Int) = ((dd x).length : Int)
    · rw [if_pos hl, if_pos hl, cnt_list (fun v s c => if p_spec_l1In v 0 12 = true then c (IntKind.wrap .i64 (s + v)) else some false) y 0 (by omega) (fun i s c h0 h1 => rfl), counts_loop, areIn_eq, total_eq]
    · rw [if_neg hl, if_neg hl]
/-- what counts are -/
structure Counts (x y : List Int) : Prop where
  die : p_impl_IsDie x = true
  len : y.length = (dd x).length
  inn : ∀ v ∈ y, ∃ n : Nat, v = (n : Int) ∧ n ≤ 12
  sum : (y.map Int.toNat).sum ≤ 12
theorem wsum_nat : ∀ (l : List Int) (n : Nat), (∀ v ∈ l, ∃ n : Nat, v = (n : Int) ∧ n ≤ 12) → n + 12 * l.length ≤ 1000000 → wsum (n : Int) l = ((n + (l.map Int.toNat).sum : Nat) : Int)
  | [], n, _, _ => by simp [wsum]
  | v :: l, n, h, hb => by
    obtain ⟨m, rfl, hm⟩ := h v (by simp)
    simp only [List.length_cons] at hb
    have := wsum_nat l (n + m) (fun v hv => h v (by simp [hv])) (by omega)
    simp only [wsum, List.foldl_cons] at this ⊢
    rw [wrap_i64 (by omega) (by omega)]
    rw [show (n : Int) + (m : Int) = ((n + m : Nat) : Int) from rfl, this]
    simp; omega
theorem counts_of {x y : List Int} (h : x.length = 6) : p_impl_areCounts x y = some false ∨ (p_impl_areCounts x y = some true ∧ Counts x y) := by
  unfold p_impl_areCounts
  rw [numbers_impl h]
  simp only [Option.bind_some]
  cases hd : p_impl_IsDie x with
  | false => exact .inl rfl
  | true =>
    simp only [if_true]
    by_cases hl : (y.length : Int) = ((dd x).length : Int)
    · rw [if_pos hl, areIn_eq, total_eq]
      cases ha : y.all (fun a => p_spec_l1In a 0 12) with
      | false => exact .inl rfl
      | true =>
        simp only [if_true]
        have hin : ∀ v ∈ y, ∃ n : Nat, v = (n : Int) ∧ n ≤ 12 := fun v hv => by
          have := List.all_eq_true.1 ha v hv
          simp only [l1In_eq, decide_eq_true_eq] at this
          exact ⟨v.toNat, by omega, by omega⟩
        have hdl : (dd x).length ≤ 6 := h ▸ dd_len x
        have := wsum_nat y 0 hin (by omega)
        simp only [Int.natCast_zero] at this
        rw [this]
        by_cases hs : (y.map Int.toNat).sum ≤ 12
        · exact .inr ⟨by rw [decide_eq_true (by omega)], hd, by omega, hin, hs⟩
        · exact .inl (by rw [decide_eq_false (by omega)])
    · rw [if_neg hl]; exact .inl rfl
theorem total_of {x y : List Int} (h : x.length = 6) (hc : Counts x y) : p_impl_total y = (((y.map Int.toNat).sum : Nat) : Int) := by
  have hdl : (dd x).length ≤ 6 := h ▸ dd_len x
  have hl := hc.len
  have := wsum_nat y 0 hc.inn (by omega)
  simp only [Int.natCast_zero] at this
  rw [total_eq, this]; simp
theorem sum_take (l : List Int) (i : Nat) (h : i < l.length) : ((l.take (i + 1)).map Int.toNat).sum = ((l.take i).map Int.toNat).sum + (l.getD i 0).toNat := by
  rw [List.take_succ_eq_append_getElem h, List.map_append, List.sum_append]
  simp [List.getD_eq_getElem?_getD, List.getElem?_eq_getElem h]
theorem sum_take_le (l : List Int) (i : Nat) : ((l.take i).map Int.toNat).sum ≤ (l.map Int.toNat).sum := by
  have : (l.map Int.toNat).sum = ((l.take i).map Int.toNat).sum + ((l.drop i).map Int.toNat).sum := by
    rw [← List.sum_append, ← List.map_append, List.take_append_drop]
  omega
theorem likelihood_b {x y : List Int} {fu : Nat} (h : x.length = 6) (hc : Counts x y) (hf : 100 < fu) : ∃ v : Nat, p_impl_likelihood fu x y = some (v : Int) ∧ v ≤ 6 ^ 12 := by
  unfold p_impl_likelihood
  rw [numbers_impl h]
  simp only [Option.bind_some]
  refine cnt_ind0 (dd x).length (fun i s => ∃ c : Nat, s = (c : Int) ∧ c ≤ 6 ^ ((y.take i).map Int.toNat).sum) (fun r => ∃ v : Nat, r = some (v : Int) ∧ v ≤ 6 ^ 12) (by omega) ⟨1, rfl, by simp⟩
    (fun s ⟨c, e, hb⟩ => ⟨c, by rw [e], Nat.le_trans hb (Nat.pow_le_pow_right (by omega) (Nat.le_trans (sum_take_le _ _) hc.sum))⟩) (fun i s c hi ⟨a, e, hb⟩ hk => ?_)
  subst e
  have hl := hc.len
  rw [if_pos (by omega)]
  have hiy : i < y.length := by omega
  obtain ⟨n, hn, hn12⟩ := hc.inn (y.getD i 0) (by rw [List.getD_eq_getElem?_getD, List.getElem?_eq_getElem hiy]; exact List.getElem_mem _)
  obtain ⟨m, hm, hm6⟩ := weight_b (x := x) ((dd x).getD (i : Int).toNat 0)
  rw [hm, Int.toNat_natCast, hn, raised_eq m n hm6 (by omega) (by omega)]
  simp only [Option.bind_some]
  refine hk _ ⟨a * m ^ n, ?_, ?_⟩
  · have hs := sum_take y i hiy
    rw [hn, Int.toNat_natCast] at hs
    have hle := sum_take_le y (i + 1)
    have hsum := hc.sum
    have e1 : a * m ^ n ≤ 6 ^ 12 := Nat.le_trans (Nat.mul_le_mul hb (Nat.pow_le_pow_left hm6 n)) (by
      rw [← Nat.pow_add, ← hs]; exact Nat.pow_le_pow_right (by omega) (by omega))
    have e4 : (6 : Nat) ^ 12 = 2176782336 := by decide
    rw [← Int.natCast_mul]
    exact wrap_nat (by omega)
  · have hs := sum_take y i hiy
    rw [hn, Int.toNat_natCast] at hs
    rw [hs, Nat.pow_add]
    exact Nat.mul_le_mul hb (Nat.pow_le_pow_left hm6 n)
theorem ways_eq {x y : List Int} (fu : Nat) (h : x.length = 6) (hd : p_impl_IsDie x = true) (hl : y.length = (dd x).length) : p_spec_l11Ways fu x y = p_impl_likelihood fu x y := by
  unfold p_spec_l11Ways p_impl_likelihood
  rw [numbers_impl h, numbers_eq h (sorted_of_IsDie h hd)]
  simp only [Option.bind_some]
  rw [show Int.toNat ((y.length : Int) - 0) = Int.toNat (((dd x).length : Int) - 0) by rw [hl]]
  refine cnt_congr_n (dd x).length (by omega) (fun i s c hi => ?_)
  rw [if_pos (by omega), if_pos (by omega), weight_eq]
  rfl
end Go.GA.E
