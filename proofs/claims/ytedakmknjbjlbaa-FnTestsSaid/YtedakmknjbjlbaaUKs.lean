/- Plain law of WhichDie: what it stands on. -/
import Derived.Test.YtedakmknjbjlbaaUK3
namespace Go.GA.F
open Go
set_option maxRecDepth 100000
theorem wrap_i64 {n : Int} (h1 : -9223372036854775808 ≤ n) (h2 : n ≤ 9223372036854775807) : IntKind.wrap .i64 n = n := wrap_id h1 h2
theorem l2Die_eq {x : List Int} (h : x.length = 6) : p_spec_l2Die x = some (p_impl_IsDie x) := by
  obtain ⟨a, b, c, d, e, f, rfl⟩ := len6 h
  simp [p_spec_l2Die, p_impl_IsDie, p_impl_areAll_int, p_slices_ContainsFunc_int_int, p_slices_IndexFunc_int_int, p_slices_IsSorted_int_int, cnt, cntd, p_spec_l1In, p_impl_areAll_int_1, p_impl_isFace, p_impl_within, p_cmp_Less_int, p_cmp_isNaN_int]
  repeat' split
  all_goals first | omega | (simp; done) | (simp; omega)
theorem l1In_eq (x a b : Int) : p_spec_l1In x a b = decide (a ≤ x ∧ x ≤ b) := by simp [p_spec_l1In]
theorem within_eq (x a b : Int) : p_impl_within x a b = decide (a ≤ x ∧ x ≤ b) := by simp [p_impl_within]
theorem within_In (x a b : Int) : p_impl_within x a b = p_spec_l1In x a b := rfl
theorem noneFunc {α : Type} (b : α → Bool) (dflt : α) (x : List α) : (!decide (0 ≤ cnt (fun i (s : Unit) c _ => if b (x.getD i.toNat dflt) = true then i else c ()) (fun _ _ => (-1 : Int)) (Int.toNat ((x.length : Int) - 0)) 0 ())) = x.all (fun a => !b a) := by
  have := cnt_find b dflt x x.length 0 (by omega)
  simp only [Int.sub_zero, Int.toNat_natCast]
  simp only [Int.natCast_zero] at this
  rw [this, List.drop_zero, List.not_any_eq_all_not]
theorem areAll_eq (x : List Int) : p_impl_areAll_int x = x.all (fun a => p_impl_within a 0 30) := by
  unfold p_impl_areAll_int p_slices_ContainsFunc_int_int p_slices_IndexFunc_int_int
  rw [noneFunc]
  congr 1
  funext a
  simp [p_impl_areAll_int_1, p_impl_isFace]
theorem wrap_nat {n : Nat} (h : n ≤ 9223372036854775807) : IntKind.wrap .i64 (n : Int) = (n : Int) := wrap_i64 (by omega) (by omega)
theorem tdiv_nat (a b : Nat) : Int.tdiv (a : Int) (b : Int) = ((a / b : Nat) : Int) := rfl
def cutF (a b : Nat) : List Int := [((a / Nat.gcd a b : Nat) : Int), ((b / Nat.gcd a b : Nat) : Int)]
theorem frac_run (x y : Nat) (hx : x ≤ 9223372036854775807) (hy : y ≤ 9223372036854775807) : ∀ (b a fu : Nat), b < fu → 0 < a + b →
    whl (fun (s1 : Int × Int) c3 => (if s1.2 = 0 then if s1.1 ≠ 0 then if s1.1 ≠ 0 then some [(IntKind.wrap .i64 ((x : Int).tdiv s1.1)), (IntKind.wrap .i64 ((y : Int).tdiv s1.1))] else none else none else if s1.2 ≠ 0 then c3 (s1.2, (s1.1.tmod s1.2)) else none)) fu ((a : Int), (b : Int)) = some [((x / Nat.gcd a b : Nat) : Int), ((y / Nat.gcd a b : Nat) : Int)] := by
  intro b
  induction b using Nat.strongRecOn with
  | _ b ih =>
    intro a fu hf h0
    obtain ⟨f, rfl⟩ : ∃ f, fu = f + 1 := ⟨fu - 1, by omega⟩
    simp only [whl]
    by_cases hb : b = 0
    · subst hb
      have ha : (a : Int) ≠ 0 := by omega
      rw [if_pos (by rfl), if_pos ha, if_pos ha, tdiv_nat, tdiv_nat, wrap_nat (Nat.le_trans (Nat.div_le_self _ _) hx), wrap_nat (Nat.le_trans (Nat.div_le_self _ _) hy)]
      simp
    · have hb' : ¬ (b : Int) = 0 := by omega
      rw [if_neg hb', if_pos hb', ← Int.ofNat_tmod]
      have hm : a % b < b := Nat.mod_lt _ (by omega)
      rw [ih (a % b) hm b f (by omega) (by omega)]
      rw [show Nat.gcd b (a % b) = Nat.gcd a b from by rw [Nat.gcd_comm b, ← Nat.gcd_rec, Nat.gcd_comm]]
theorem cut_run (x y : Nat) (hx : x ≤ 9223372036854775807) (hy : y ≤ 9223372036854775807) : ∀ (b a fu : Nat), b < fu → 0 < a + b →
    whl (fun (s1 : Int × Int) c3 => (if 0 < s1.2 then c3 (s1.2, (s1.1.tmod s1.2)) else if (p_spec_l1Most s1.1 1) ≠ 0 then if (p_spec_l1Most s1.1 1) ≠ 0 then some [(IntKind.wrap .i64 ((x : Int).tdiv (p_spec_l1Most s1.1 1))), (IntKind.wrap .i64 ((y : Int).tdiv (p_spec_l1Most s1.1 1)))] else none else none)) fu ((a : Int), (b : Int)) = some [((x / Nat.gcd a b : Nat) : Int), ((y / Nat.gcd a b : Nat) : Int)] := by
  intro b
  induction b using Nat.strongRecOn with
  | _ b ih =>
    intro a fu hf h0
    obtain ⟨f, rfl⟩ : ∃ f, fu = f + 1 := ⟨fu - 1, by omega⟩
    simp only [whl]
    by_cases hb : b = 0
    · subst hb
      have hm : p_spec_l1Most (a : Int) 1 = (a : Int) := by
        unfold p_spec_l1Most
        split
        · rfl
        · omega
      have ha : (a : Int) ≠ 0 := by omega
      rw [if_neg (by omega), hm, if_pos ha, if_pos ha, tdiv_nat, tdiv_nat, wrap_nat (Nat.le_trans (Nat.div_le_self _ _) hx), wrap_nat (Nat.le_trans (Nat.div_le_self _ _) hy)]
      simp
    · rw [if_pos (by omega), ← Int.ofNat_tmod]
      have hm : a % b < b := Nat.mod_lt _ (by omega)
      rw [ih (a % b) hm b f (by omega) (by omega)]
      rw [show Nat.gcd b (a % b) = Nat.gcd a b from by rw [Nat.gcd_comm b, ← Nat.gcd_rec, Nat.gcd_comm]]
theorem fraction_eq {fu : Nat} (x y : Nat) (hx : x ≤ 9223372036854775807) (hy : y ≤ 9223372036854775807) (h0 : 0 < x + y) (hf : y < fu) : p_impl_fraction fu (x : Int) (y : Int) = some (cutF x y) :=
  frac_run x y hx hy y x fu hf h0
theorem cut_eq {fu : Nat} (x y : Nat) (hx : x ≤ 9223372036854775807) (hy : y ≤ 9223372036854775807) (h0 : 0 < x + y) (hf : y < fu) : p_spec_l2Cut fu (x : Int) (y : Int) = some (cutF x y) :=
  cut_run x y hx hy y x fu hf h0
theorem weight_b {x : List Int} (y : Int) : ∃ m : Nat, p_impl_weight x y = (m : Int) ∧ m ≤ 6 := by
  unfold p_impl_weight
  refine cnt_ind0 6 (fun i s => ∃ m : Nat, s = (m : Int) ∧ m ≤ i) (fun r => ∃ m : Nat, r = (m : Int) ∧ m ≤ 6) rfl ⟨0, rfl, Nat.le_refl _⟩ (fun s h => h) (fun i s c hi ⟨m, e, hm⟩ hc => ?_)
  subst e
  refine hc _ ?_
  simp only [p_impl_truth]
  split
  · exact ⟨m + 1, wrap_i64 (by omega) (by omega), by omega⟩
  · exact ⟨m, by rw [Int.add_zero]; exact wrap_nat (by omega), by omega⟩
theorem weight_eq {x : List Int} (y : Int) : p_spec_l8Weight x y = p_impl_weight x y := by
  unfold p_spec_l8Weight p_impl_weight
  have key : ∀ (d : Nat) (i : Nat) (m : Nat), m + d ≤ 1000 → cnt (fun i2 (s1 : Int) c3 _ => (if (x.getD i2.toNat 0) = y then c3 (IntKind.wrap .i64 (s1 + 1)) else c3 s1)) (fun i2 (s1 : Int) => s1) d (i : Int) (m : Int) = cnt (fun i2 (s1 : Int) c3 _ => c3 (IntKind.wrap .i64 (s1 + (p_impl_truth (decide ((x.getD i2.toNat 0) = y)))))) (fun i2 (s1 : Int) => s1) d (i : Int) (m : Int) := by
    intro d
    induction d with
    | zero => intro i m _; rfl
    | succ d ih =>
      intro i m h
      simp only [cnt]
      by_cases e : x.getD (i : Int).toNat 0 = y
      · rw [if_pos e, decide_eq_true e]
        simp only [p_impl_truth, if_true]
        rw [wrap_i64 (n := (m : Int) + 1) (by omega) (by omega)]
        exact ih (i + 1) (m + 1) (by omega)
      · rw [if_neg e, decide_eq_false e]
        simp only [p_impl_truth, Bool.false_eq_true, if_false, Int.add_zero]
        rw [wrap_nat (by omega)]
        exact ih (i + 1) m (by omega)
  exact key 6 0 0 (by omega)
def wsum (s : Int) (l : List Int) : Int := l.foldl (fun s v => IntKind.wrap .i64 (s + v)) s
theorem total_eq (x : List Int) : p_impl_total x = wsum 0 x := by
  unfold p_impl_total
  rw [cnt_list (fun v s c => c (IntKind.wrap .i64 (s + v))) x 0 (by omega) (fun i s c h0 h1 => rfl), lrun_fold (fun v s => IntKind.wrap .i64 (s + v))]; rfl
theorem wsum_nat : ∀ (l : List Int) (n : Nat), (∀ v ∈ l, ∃ n : Nat, v = (n : Int) ∧ n ≤ 12) → n + 12 * l.length ≤ 1000000 → wsum (n : Int) l = ((n + (l.map Int.toNat).sum : Nat) : Int)
  | [], n, _, _ => by simp [wsum]
  | v :: l, n, h, hb => by
    obtain ⟨m, rfl, hm⟩ := h v (by simp)
    simp only [List.length_cons] at hb
    have := wsum_nat l (n + m) (fun v hv => h v (by simp [hv])) (by omega)
    simp only [wsum, List.foldl_cons] at this ⊢
    rw [wrap_i64 (by omega) (by omega)]
    rw [show (n : Int) + (m : Int) = ((n + m : Nat) : Int) from rfl, this]
    simp; omega
theorem rolls_loop (x : List Int) : p_spec_l11Rolls x = (decide ((x.length : Int) ≤ 12) && x.all (fun a => p_spec_l1In a 0 30)) := by
  unfold p_spec_l11Rolls
  have key : ∀ (d i : Nat), d + i = x.length → cnt (fun i2 (s1 : Unit) c3 k15 => (if ((decide (i2 < (x.length : Int))) && (decide (i2 ≤ 12))) = true then (if (p_spec_l1In (x.getD i2.toNat 0) 0 30) = true then c3 () else false) else k15 i2 s1)) (fun i2 (s1 : Unit) => (decide ((x.length : Int) ≤ 12))) d (i : Int) () = (decide ((x.length : Int) ≤ 12) && (x.drop i).all (fun a => p_spec_l1In a 0 30)) := by
    intro d
    induction d with
    | zero => intro i h; rw [List.drop_eq_nil_of_le (by omega)]; simp [cnt]
    | succ d ih =>
      intro i h
      have h1 : i < x.length := by omega
      simp only [cnt]
      rw [show (i : Int) + 1 = ((i + 1 : Nat) : Int) from rfl, ih (i + 1) (by omega), List.drop_eq_getElem_cons h1, List.all_cons]
      simp only [Int.toNat_natCast, List.getD_eq_getElem?_getD, List.getElem?_eq_getElem h1, Option.getD_some]
      by_cases h12 : (i : Int) ≤ 12
      · have hc : (decide ((i : Int) < (x.length : Int)) && decide ((i : Int) ≤ 12)) = true := by simp; omega
        rw [if_pos hc]
        cases p_spec_l1In x[i] 0 30 <;> simp
      · have hc : ¬ (decide ((i : Int) < (x.length : Int)) && decide ((i : Int) ≤ 12)) = true := by simp; omega
        rw [if_neg hc]
        have : ¬ (x.length : Int) ≤ 12 := by omega
        simp [this]
  have := key x.length 0 (by omega)
  simp only [Int.sub_zero, Int.toNat_natCast]
  simpa using this
def Six (p : List (List Int)) : Prop := ∀ d ∈ p, d.length = 6
theorem getD_six {p : List (List Int)} (h : Six p) {i : Nat} (hi : i < p.length) : (p.getD i (List.replicate 6 0)).length = 6 := by
  rw [List.getD_eq_getElem?_getD, List.getElem?_eq_getElem hi]
  exact h _ (List.getElem_mem _)
theorem pool_eq {x : List (List Int)} (h : Six x) : p_spec_l2Pool x = some (p_impl_IsPool x) := by
  have hall : p_impl_areAll_6_int x = x.all p_impl_IsDie := by
    unfold p_impl_areAll_6_int p_slices_ContainsFunc_6_int_6_int p_slices_IndexFunc_6_int_6_int
    rw [noneFunc p_impl_areAll_6_int_1]
    congr 1
    funext a
    simp [p_impl_areAll_6_int_1]
  unfold p_impl_IsPool
  rw [hall, within_In]
  unfold p_spec_l2Pool
  have key : ∀ (d i : Nat), d + i = x.length → cnt (fun i2 (s1 : Unit) c3 k16 => (if ((decide (i2 < (x.length : Int))) && (decide (i2 ≤ 4))) = true then (p_spec_l2Die (x.getD i2.toNat (List.replicate 6 0))).bind (fun r14 => (if r14 = true then c3 () else some false)) else k16 i2 s1)) (fun i2 (s1 : Unit) => some (p_spec_l1In (x.length : Int) 1 4)) d (i : Int) () = some (p_spec_l1In (x.length : Int) 1 4 && (x.drop i).all p_impl_IsDie) := by
    intro d
    induction d with
    | zero => intro i hh; rw [List.drop_eq_nil_of_le (by omega)]; simp [cnt]
    | succ d ih =>
      intro i hh
      have h1 : i < x.length := by omega
      simp only [cnt]
      rw [show (i : Int) + 1 = ((i + 1 : Nat) : Int) from rfl, ih (i + 1) (by omega), List.drop_eq_getElem_cons h1, List.all_cons]
      by_cases h12 : (i : Int) ≤ 4
      · have hc : (decide ((i : Int) < (x.length : Int)) && decide ((i : Int) ≤ 4)) = true := by simp; omega
        rw [if_pos hc, Int.toNat_natCast, l2Die_eq (getD_six h h1)]
        simp only [Option.bind_some, List.getD_eq_getElem?_getD, List.getElem?_eq_getElem h1, Option.getD_some]
        cases p_impl_IsDie x[i] <;> simp
      · have hc : ¬ (decide ((i : Int) < (x.length : Int)) && decide ((i : Int) ≤ 4)) = true := by simp; omega
        rw [if_neg hc]
        have : p_spec_l1In (x.length : Int) 1 4 = false := by rw [l1In_eq]; simp; omega
        simp [this]
  have := key x.length 0 (by omega)
  simp only [Int.sub_zero, Int.toNat_natCast]
  simpa using this
theorem pool_len {x : List (List Int)} (h : p_impl_IsPool x = true) : 1 ≤ x.length ∧ x.length ≤ 4 := by
  unfold p_impl_IsPool at h
  simp only [Bool.and_eq_true, within_eq, decide_eq_true_eq] at h
  omega
def Two (p : List (List Int)) : Prop := ∀ d ∈ p, d.length = 2
end Go.GA.F
