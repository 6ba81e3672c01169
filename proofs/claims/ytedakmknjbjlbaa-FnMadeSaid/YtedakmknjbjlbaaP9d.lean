/- Plain law of FnMade: numbers made of throws. -/
import Derived.Test.YtedakmknjbjlbaaP9c
namespace Go.GA
open Go
set_option maxRecDepth 100000
theorem noneFunc {α : Type} (b : α → Bool) (dflt : α) (x : List α) : (!decide (0 ≤ cnt (fun i (s : Unit) c _ => if b (x.getD i.toNat dflt) = true then i else c ()) (fun _ _ => (-1 : Int)) (Int.toNat ((x.length : Int) - 0)) 0 ())) = x.all (fun a => !b a) := by
  have := cnt_find b dflt x x.length 0 (by omega)
  simp only [Int.sub_zero, Int.toNat_natCast]
  simp only [Int.natCast_zero] at this
  rw [this, List.drop_zero, List.not_any_eq_all_not]
def okT (l : List Int) : Bool := l.all p_impl_isSide
theorem areThrows_eq (l : List Int) : p_impl_areThrows l = okT l := by
  unfold p_impl_areThrows p_impl_areAll_int p_slices_ContainsFunc_int_int p_slices_IndexFunc_int_int
  rw [noneFunc p_impl_areAll_int_1]
  unfold okT
  congr 1
  funext a
  simp [p_impl_areAll_int_1]
theorem l9T (l : List Int) (m : Int) : p_spec_l9Throws l m = (okT l && decide ((l.length : Int) ≤ m)) := by
  unfold p_spec_l9Throws
  by_cases h : (l.length : Int) ≤ m
  · rw [decide_eq_true h, Bool.and_true]
    rw [cnt_congr_n (g := fun i2 (s1 : Unit) c3 _ => if (!p_impl_isSide (l.getD i2.toNat 0)) = true then false else c3 ()) l.length (by omega) (fun i s c hi => by
      have hc : (decide ((i : Int) < (l.length : Int)) && decide ((i : Int) ≤ m)) = true := by simp; omega
      show (if (decide ((i : Int) < (l.length : Int)) && decide ((i : Int) ≤ m)) = true then _ else _) = _
      rw [if_pos hc]
      have e : p_spec_l1In (l.getD (i : Int).toNat 0) 0 5 = p_impl_isSide (l.getD (i : Int).toNat 0) := rfl
      rw [e]
      cases p_impl_isSide (l.getD (i : Int).toNat 0) <;> rfl)]
    rw [cnt_list (fun b s' c => if (!p_impl_isSide b) = true then false else c s') l 0 (by omega) (fun i s' c h0 h1 => by cases s'; rfl)]
    rw [lrun_any (fun b => !p_impl_isSide b)]
    unfold okT
    rw [← List.not_all_eq_any_not]
    cases l.all p_impl_isSide <;> simp [h]
  · rw [decide_eq_false h, Bool.and_false]
    refine cnt_ind0 (S := Unit) l.length (fun _ _ => True) (fun r => r = false) (by omega) trivial (fun _ _ => rfl) (fun i s c hi _ hc => ?_)
    split
    · split
      · exact hc _ trivial
      · rfl
    · rfl
theorem number_eq (l : List Int) : p_spec_l9Number l = p_impl_numberOf l := by
  unfold p_spec_l9Number p_impl_numberOf
  exact cnt_congr (fun i s c => by rw [Int.mul_comm 6 s]) _ _ _
theorem okT_mem {l : List Int} (h : okT l = true) : ∀ v ∈ l, 0 ≤ v ∧ v ≤ 5 := fun v hv => by
  have := List.all_eq_true.1 h v hv
  simpa [p_impl_isSide, p_impl_within] using this
theorem number_ge {l : List Int} (h : okT l = true) (hl : l.length ≤ 6) : 0 ≤ p_impl_numberOf l := by
  unfold p_impl_numberOf
  have hp : ∀ i : Nat, i ≤ 6 → ((6 ^ i : Nat) : Int) ≤ 46656 := fun i hi => by
    have := Nat.pow_le_pow_right (show 0 < 6 by omega) hi
    have e : (6 : Nat) ^ 6 = 46656 := rfl
    omega
  refine cnt_ind0 (S := Int) l.length (fun i s => 0 ≤ s ∧ s + 1 ≤ ((6 ^ i : Nat) : Int)) (fun r => 0 ≤ r) (by omega) (by simp) (fun s hs => hs.1) (fun i s c hi hs hc => ?_)
  have hlt : i < l.length := hi
  have hv : 0 ≤ l.getD (i : Int).toNat 0 ∧ l.getD (i : Int).toNat 0 ≤ 5 := by
    rw [List.getD_eq_getElem?_getD, Int.toNat_natCast, List.getElem?_eq_getElem hlt]
    exact okT_mem h _ (List.getElem_mem hlt)
  have h1 := hp i (by omega)
  have e6 : ((6 ^ (i + 1) : Nat) : Int) = ((6 ^ i : Nat) : Int) * 6 := by rw [Nat.pow_succ]; omega
  refine hc _ ?_
  rw [wr (n := s * 6) (by omega) (by omega), wr (by omega) (by omega), e6]
  omega
theorem taken_of {n k : Int} {b : Bool} {t : Int} (h1 : p_impl_isMade 64 n k = some b) (hb : b = true) (h2 : p_impl_taken 64 n k = some t) : p_impl_TakenOf 64 n k = some (t, true) := by
  unfold p_impl_TakenOf
  rw [h1, Option.bind_some, if_pos hb, h2, Option.bind_some]
theorem make_bad {n : Int} (hn : n ∈ SZ) {l : List Int} {b : Bool} (h1 : p_impl_isMade 64 n (l.length : Int) = some b) (h2 : p_spec_l9Good 64 n (l.length : Int) = some b)
    (h : (b && okT l) = false) : p_impl_MakeNumber 64 n l = some (0, false, false) ∧ p_spec_MakeNumber 64 n l = some (0, false, false) := by
  have ei : p_impl_MakeNumber 64 n l = (if ((!b) || (!(okT l))) = true then some (0, false, false) else (p_impl_taken 64 n (l.length : Int)).bind (fun r8 => (if r8 ≤ (p_impl_numberOf l) then some (0, false, true) else if n ≠ 0 then some (((p_impl_numberOf l).tmod n), true, true) else none))) := by
    unfold p_impl_MakeNumber
    rw [h1, Option.bind_some, areThrows_eq]
  have es : p_spec_MakeNumber 64 n l = (if ((!(okT l && decide ((l.length : Int) ≤ 6))) || (!b)) = true then some (0, false, false) else (p_spec_l9Taken 64 n (l.length : Int)).bind (fun r10 => (if r10 ≤ (p_impl_numberOf l) then some (0, false, true) else if n ≠ 0 then some (((p_impl_numberOf l).tmod n), true, true) else none))) := by
    unfold p_spec_MakeNumber
    rw [h2, l9T, number_eq]
    simp only [Option.isSome_some, implies_true, if_true, Option.getD_some]
  have c1 : ((!b) || (!(okT l))) = true := by cases b <;> cases hh : okT l <;> simp_all
  have c2 : ((!(okT l && decide ((l.length : Int) ≤ 6))) || (!b)) = true := by cases b <;> cases hh : okT l <;> simp_all
  rw [ei, es, if_pos c1, if_pos c2]
  exact ⟨rfl, rfl⟩
theorem make_ok {n : Int} (hn : n ∈ SZ) {l : List Int} {b : Bool} {t : Int} (h1 : p_impl_isMade 64 n (l.length : Int) = some b) (h2 : p_spec_l9Good 64 n (l.length : Int) = some b)
    (ht : 1 ≤ (l.length : Int) ∧ (l.length : Int) ≤ 6 ∧ 1 ≤ n ∧ p_impl_taken 64 n (l.length : Int) = some t ∧ p_spec_l9Taken 64 n (l.length : Int) = some t) (h : (b && okT l) = true) :
    p_impl_MakeNumber 64 n l = some (if t ≤ p_impl_numberOf l then (0, false, true) else ((p_impl_numberOf l).tmod n, true, true)) ∧ p_spec_MakeNumber 64 n l = some (if t ≤ p_impl_numberOf l then (0, false, true) else ((p_impl_numberOf l).tmod n, true, true)) := by
  have ei : p_impl_MakeNumber 64 n l = (if ((!b) || (!(okT l))) = true then some (0, false, false) else (p_impl_taken 64 n (l.length : Int)).bind (fun r8 => (if r8 ≤ (p_impl_numberOf l) then some (0, false, true) else if n ≠ 0 then some (((p_impl_numberOf l).tmod n), true, true) else none))) := by
    unfold p_impl_MakeNumber
    rw [h1, Option.bind_some, areThrows_eq]
  have es : p_spec_MakeNumber 64 n l = (if ((!(okT l && decide ((l.length : Int) ≤ 6))) || (!b)) = true then some (0, false, false) else (p_spec_l9Taken 64 n (l.length : Int)).bind (fun r10 => (if r10 ≤ (p_impl_numberOf l) then some (0, false, true) else if n ≠ 0 then some (((p_impl_numberOf l).tmod n), true, true) else none))) := by
    unfold p_spec_MakeNumber
    rw [h2, l9T, number_eq]
    simp only [Option.isSome_some, implies_true, if_true, Option.getD_some]
  simp only [Bool.and_eq_true] at h
  obtain ⟨hb, ho⟩ := h
  obtain ⟨k1, k2, k3, k4, k5⟩ := ht
  have c1 : ¬ ((!b) || (!(okT l))) = true := by rw [hb, ho]; simp
  have c2 : ¬ ((!(okT l && decide ((l.length : Int) ≤ 6))) || (!b)) = true := by rw [hb, ho, decide_eq_true k2]; simp
  have hn0 : n ≠ 0 := by omega
  rw [ei, es, if_neg c1, if_neg c2, k4, k5]
  simp only [Option.bind_some]
  by_cases hc : t ≤ p_impl_numberOf l
  · simp only [if_pos hc]; exact ⟨trivial, trivial⟩
  · simp only [if_neg hc, if_pos hn0]; exact ⟨trivial, trivial⟩
theorem numthrows_eq {l : List Int} (h : l.length ≤ 7) : p_impl_NumberOfThrows l = p_spec_NumberOfThrows l := by
  unfold p_impl_NumberOfThrows p_spec_NumberOfThrows
  rw [areThrows_eq, l9T, number_eq]
  have e : p_impl_within (l.length : Int) 1 6 = (decide ((l.length : Int) ≤ 6) && !decide ((l.length : Int) = 0)) := by
    unfold p_impl_within
    apply Bool.eq_iff_iff.2
    simp only [Bool.and_eq_true, decide_eq_true_eq, Bool.not_eq_true', decide_eq_false_iff_not]
    omega
  rw [e]
  cases okT l <;> cases decide ((l.length : Int) ≤ 6) <;> cases decide ((l.length : Int) = 0) <;> rfl
/-- what is asked of the number that was made -/
def E1 (n : Int) (l : List Int) (r4 : Int × Bool × Bool) (K : Unit → Option Bool) : Option Bool := (if r4.2.2 = true then (p_impl_TakenOf 64 n (l.length : Int)).bind (fun r503 => if (((!(((!((p_impl_NumberOfThrows l).2)) || (!r503.2)) || (r4.2.1 != (decide ((p_impl_NumberOfThrows l).1 < r503.1))))) && r4.2.1) = true → n ≠ 0) then (if (((((!((p_impl_NumberOfThrows l).2)) || (!r503.2)) || (r4.2.1 != (decide ((p_impl_NumberOfThrows l).1 < r503.1)))) || (r4.2.1 && (!(decide (r4.1 = (((p_impl_NumberOfThrows l).1).tmod n)))))) || ((!r4.2.1) && (!(decide (r4.1 = 0))))) = true then some false else K ()) else none) else K ())
theorem part_mn {n : Int} (hn : n ∈ SZ) {l : List Int} (hl : l.length ≤ 7) : ∃ r4, p_impl_MakeNumber 64 n l = some r4 ∧ p_spec_MakeNumber 64 n l = some r4 ∧ ∀ K, E1 n l r4 K = K () := by
  have hk : (l.length : Int) ∈ ([0, 1, 2, 3, 4, 5, 6, 7] : List Int) := by simp only [List.mem_cons, List.not_mem_nil, or_false]; omega
  obtain ⟨b, e1, e2, hb⟩ := part1 hn hk
  cases hbo : (b && okT l) with
  | false =>
    obtain ⟨m1, m2⟩ := make_bad hn e1 e2 hbo
    exact ⟨_, m1, m2, fun K => rfl⟩
  | true =>
    have hb1 : b = true := by cases b with
      | true => rfl
      | false => simp at hbo
    have ho : okT l = true := by simpa [hb1] using hbo
    obtain ⟨k1, k2, k3, t, k4, k5⟩ := hb hb1
    obtain ⟨m1, m2⟩ := make_ok hn e1 e2 ⟨k1, k2, k3, k4, k5⟩ hbo
    refine ⟨_, m1, m2, fun K => ?_⟩
    have hT := taken_of e1 hb1 k4
    have hN : p_impl_NumberOfThrows l = (p_impl_numberOf l, true) := by
      unfold p_impl_NumberOfThrows
      rw [areThrows_eq, ho, if_neg]
      have : p_impl_within (l.length : Int) 1 6 = true := by unfold p_impl_within; simp only [Bool.and_eq_true, decide_eq_true_eq]; omega
      rw [this]; simp
    unfold E1
    by_cases hc : t ≤ p_impl_numberOf l
    · simp only [if_pos hc, if_true]
      rw [hT, Option.bind_some, hN]
      simp only
      rw [if_pos (by intro _; omega), if_neg (by simp; omega)]
    · simp only [if_neg hc, if_true]
      rw [hT, Option.bind_some, hN]
      simp only
      rw [if_pos (by intro _; omega), if_neg (by simp; omega)]
end Go.GA
