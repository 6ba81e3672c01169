/- Plain law of FnLetters: pools of letters are valid, and their letters are the letters. -/
import Derived.Test.YtnomfaepgmbogaaNLd
namespace Go.GA.E
open Go
set_option maxRecDepth 100000
theorem sorted6 (a b c d e f : Int) : p_slices_IsSorted_int_int [a, b, c, d, e, f] = true ↔ (a ≤ b ∧ b ≤ c ∧ c ≤ d ∧ d ≤ e ∧ e ≤ f) := by
  simp [p_slices_IsSorted_int_int, cntd, p_cmp_Less_int, p_cmp_isNaN_int]
  repeat' split
  all_goals first | omega | (simp; done) | (simp; omega)
theorem srt6 (a b c d e f : Int) : Srt [a, b, c, d, e, f] ↔ (a ≤ b ∧ b ≤ c ∧ c ≤ d ∧ d ≤ e ∧ e ≤ f) := by
  constructor
  · intro h
    exact ⟨h 0 1 (by omega) (by simp), h 1 2 (by omega) (by simp), h 2 3 (by omega) (by simp), h 3 4 (by omega) (by simp), h 4 5 (by omega) (by simp)⟩
  · rintro ⟨h1, h2, h3, h4, h5⟩ i j hij hj
    simp only [List.length_cons, List.length_nil] at hj
    have hj' : j = 0 ∨ j = 1 ∨ j = 2 ∨ j = 3 ∨ j = 4 ∨ j = 5 := by omega
    have hi' : i = 0 ∨ i = 1 ∨ i = 2 ∨ i = 3 ∨ i = 4 ∨ i = 5 := by omega
    rcases hj' with rfl | rfl | rfl | rfl | rfl | rfl <;> rcases hi' with rfl | rfl | rfl | rfl | rfl | rfl <;> first | omega | (simp; done) | (simp; omega)
theorem die_iff {d : List Int} (h : d.length = 6) : p_impl_IsDie d = true ↔ (∀ v ∈ d, 0 ≤ v ∧ v ≤ 30) ∧ Srt d := by
  unfold p_impl_IsDie
  rw [Bool.and_eq_true, areAll_eq]
  obtain ⟨a, b, c, e, f, g, rfl⟩ := six_cases h
  rw [sorted6, srt6, List.all_eq_true]
  simp only [within_eq, decide_eq_true_eq]
theorem isPool_iff (x : List (List Int)) : p_impl_IsPool x = true ↔ (1 ≤ x.length ∧ x.length ≤ 4) ∧ ∀ d ∈ x, p_impl_IsDie d = true := by
  have hall : p_impl_areAll_6_int x = x.all p_impl_IsDie := by
    unfold p_impl_areAll_6_int p_slices_ContainsFunc_6_int_6_int p_slices_IndexFunc_6_int_6_int
    rw [noneFunc p_impl_areAll_6_int_1]
    congr 1
    funext a
    simp [p_impl_areAll_6_int_1]
  unfold p_impl_IsPool
  rw [hall, within_eq, Bool.and_eq_true, decide_eq_true_eq, List.all_eq_true]
  constructor
  · rintro ⟨h1, h2⟩; exact ⟨by omega, h2⟩
  · rintro ⟨h1, h2⟩; exact ⟨by omega, h2⟩
/-! ### What stands in the pool of letters -/
theorem poolAt_row (m : Nat) (x : List Int) : ∀ (i c : Nat), ((poolAt m x i).getD c (List.replicate 6 0)).length = 6
  | 0, c => by
    simp only [poolAt]
    rw [List.getD_eq_getElem?_getD, List.getElem?_replicate]
    split <;> simp
  | i + 1, c => by
    simp only [poolAt]
    rw [List.getD_eq_getElem?_getD, List.getElem?_set]
    split
    · split
      · rw [Option.getD_some, List.length_set]; exact poolAt_row m x i _
      · simp
    · rw [← List.getD_eq_getElem?_getD]; exact poolAt_row m x i c
theorem poolAt_at {m : Nat} {x : List Int} (hx : x.length = 6 * m) (hg : Good m x) {c j idx : Nat} (hc : c < m) (ho : OC x (c : Int) j idx) : ∀ i, i ≤ x.length → idx < i → ((poolAt m x i).getD c (List.replicate 6 0)).getD j 0 = (idx : Int) + 1
  | 0, _, h => by omega
  | i + 1, hi, h => by
    obtain ⟨o1, o2, o3⟩ := ho
    obtain ⟨g0, g1⟩ := hg.1 i (by omega)
    have e2 : ((x.getD i 0).toNat : Int) = x.getD i 0 := by omega
    have hlt : (x.take i).count (x.getD i 0) < 6 := by
      have a1 := count_get x (show i < x.length by omega) (x.getD i 0)
      rw [if_pos rfl] at a1
      have a2 := count_le x (i + 1) (x.getD i 0)
      have a3 := hg.2 (x.getD i 0).toNat (by omega)
      rw [e2] at a3
      omega
    have hl := poolAt_len m x i
    have hr := poolAt_row m x i (x.getD i 0).toNat
    simp only [poolAt]
    rw [List.getD_eq_getElem?_getD, List.getD_eq_getElem?_getD, List.getElem?_set]
    by_cases e : idx = i
    · subst e
      rw [o2, Int.toNat_natCast, if_pos rfl, if_pos (by omega), Option.getD_some, o3, List.getElem?_set_self (by rw [o2, Int.toNat_natCast] at hr; rw [hr]; rw [o2, o3] at hlt; exact hlt)]
      rfl
    · have ih := poolAt_at hx hg hc ⟨o1, o2, o3⟩ i (by omega) (by omega)
      by_cases e3 : (x.getD i 0).toNat = c
      · rw [if_pos e3, if_pos (by omega), Option.getD_some, e3, List.getElem?_set_ne, ← List.getD_eq_getElem?_getD]
        · exact ih
        · intro e4
          have h5 := cnt_take_mono x (c : Int) (show idx + 1 ≤ i by omega)
          rw [cnt_take_succ x o1, if_pos o2] at h5
          have e5 : x.getD i 0 = (c : Int) := by omega
          rw [e5] at e4
          omega
      · rw [if_neg e3, ← List.getD_eq_getElem?_getD, ← List.getD_eq_getElem?_getD]
        exact ih
abbrev PL (m : Nat) (x : List Int) : List (List Int) := poolAt m x x.length
theorem PL_len (m : Nat) (x : List Int) : (PL m x).length = m := poolAt_len m x _
theorem PL_six (m : Nat) (x : List Int) : Six (PL m x) := by
  intro d hd
  obtain ⟨i, hi, rfl⟩ := List.getElem_of_mem hd
  have := poolAt_row m x x.length i
  rw [List.getD_eq_getElem?_getD, List.getElem?_eq_getElem hi] at this
  exact this
theorem PL_ex {m : Nat} {x : List Int} (hx : x.length = 6 * m) (hg : Good m x) {c j : Nat} (hc : c < m) (hj : j < 6) : ∃ idx, OC x (c : Int) j idx ∧ (rw6 (PL m x) c).getD j 0 = (idx : Int) + 1 := by
  obtain ⟨idx, h⟩ := OC.ex (c : Int) x j (by rw [hg.2 c hc]; exact hj)
  exact ⟨idx, h, poolAt_at hx hg hc h _ (Nat.le_refl _) h.1⟩
theorem PL_eq {m : Nat} {x : List Int} (hx : x.length = 6 * m) (hg : Good m x) {c j idx : Nat} (hc : c < m) (h : OC x (c : Int) j idx) : (rw6 (PL m x) c).getD j 0 = (idx : Int) + 1 := poolAt_at hx hg hc h _ (Nat.le_refl _) h.1
theorem PL_valid {m : Nat} {x : List Int} (hx : x.length = 6 * m) (h1 : 1 ≤ m) (h4 : m ≤ 4) (hg : Good m x) : p_impl_IsPool (PL m x) = true := by
  refine (isPool_iff _).2 ⟨by rw [PL_len]; omega, fun d hd => ?_⟩
  have h6 := PL_six m x d hd
  obtain ⟨c, hc, rfl⟩ := List.getElem_of_mem hd
  rw [PL_len] at hc
  have e : (PL m x)[c]'(by rw [PL_len]; exact hc) = rw6 (PL m x) c := by
    unfold rw6
    rw [List.getD_eq_getElem?_getD, List.getElem?_eq_getElem (by rw [PL_len]; exact hc)]; rfl
  rw [e] at h6 ⊢
  refine (die_iff h6).2 ⟨fun v hv => ?_, fun i j hij hj => ?_⟩
  · obtain ⟨j, hj, rfl⟩ := List.getElem_of_mem hv
    obtain ⟨idx, q1, q2⟩ := PL_ex hx hg hc (show j < 6 by omega)
    rw [List.getD_eq_getElem?_getD, List.getElem?_eq_getElem hj] at q2
    have := q1.1
    rw [Option.getD_some] at q2
    omega
  · obtain ⟨a, a1, a2⟩ := PL_ex hx hg hc (show i < 6 by omega)
    obtain ⟨b, b1, b2⟩ := PL_ex hx hg hc (show j < 6 by omega)
    rw [a2, b2]
    by_cases he : i = j
    · subst he
      have := a1.uniq b1
      omega
    · have := (a1.lt b1).2 (by omega)
      omega
theorem rw6_mem {p : List (List Int)} (hp : Six p) {c : Nat} (hc : c < p.length) {v : Int} (hv : v ∈ rw6 p c) : ∃ j, j < 6 ∧ (rw6 p c).getD j 0 = v := by
  obtain ⟨j, hj, e⟩ := List.getElem_of_mem hv
  have h6 : (rw6 p c).length = 6 := getD_six hp hc
  refine ⟨j, by omega, ?_⟩
  rw [List.getD_eq_getElem?_getD, List.getElem?_eq_getElem hj, Option.getD_some, e]
theorem untied_iff {p : List (List Int)} : tied p = false ↔ ∀ i k, k < i → i < p.length → ∀ u ∈ rw6 p i, u ∉ rw6 p k := by
  unfold tied share
  constructor
  · intro h i k hk hi u hu hu2
    have : (List.range' 0 p.length).any (fun i => (List.range' 0 i).any fun k => (rw6 p i).any fun u => decide (u ∈ rw6 p k)) = true :=
      List.any_eq_true.2 ⟨i, List.mem_range'_1.2 ⟨by omega, by omega⟩, List.any_eq_true.2 ⟨k, List.mem_range'_1.2 ⟨by omega, by omega⟩, List.any_eq_true.2 ⟨u, hu, decide_eq_true hu2⟩⟩⟩
    rw [this] at h; cases h
  · intro h
    rw [Bool.eq_false_iff]
    intro hh
    obtain ⟨i, hi, h2⟩ := List.any_eq_true.1 hh
    obtain ⟨k, hk, h3⟩ := List.any_eq_true.1 h2
    obtain ⟨u, hu, h4⟩ := List.any_eq_true.1 h3
    have a := List.mem_range'_1.1 hi
    have b := List.mem_range'_1.1 hk
    exact h i k (by omega) (by omega) u hu (of_decide_eq_true h4)
theorem untied_ne {p : List (List Int)} (h : tied p = false) {i k : Nat} (hi : i < p.length) (hk : k < p.length) (hne : i ≠ k) {u : Int} (hu : u ∈ rw6 p i) : u ∉ rw6 p k := by
  rcases Nat.lt_or_ge k i with h1 | h1
  · exact untied_iff.1 h i k h1 hi u hu
  · intro h2
    exact untied_iff.1 h k i (by omega) hk u h2 hu
theorem PL_untied {m : Nat} {x : List Int} (hx : x.length = 6 * m) (hg : Good m x) : tied (PL m x) = false := by
  refine untied_iff.2 fun i k hk hi u hu hu2 => ?_
  rw [PL_len] at hi
  obtain ⟨a, ha, ea⟩ := rw6_mem (PL_six m x) (by rw [PL_len]; exact hi) hu
  obtain ⟨b, hb, eb⟩ := rw6_mem (PL_six m x) (by rw [PL_len]; omega) hu2
  obtain ⟨a', a1, a2⟩ := PL_ex hx hg hi ha
  obtain ⟨b', b1, b2⟩ := PL_ex hx hg (show k < m by omega) hb
  have e : a' = b' := by omega
  subst e
  have h1 := a1.2.1
  have h2 := b1.2.1
  omega
/-! ### The letters of the pool of letters -/
theorem count_nodup {d : List Int} (h : d.length = 6) (hs : ∀ i j, i < j → j < 6 → d.getD i 0 < d.getD j 0) (v : Int) : d.count v = if v ∈ d then 1 else 0 := by
  obtain ⟨a, b, c, e, f, g, rfl⟩ := six_cases h
  have h1 : a < b := hs 0 1 (by omega) (by omega)
  have h2 : b < c := hs 1 2 (by omega) (by omega)
  have h3 : c < e := hs 2 3 (by omega) (by omega)
  have h4 : e < f := hs 3 4 (by omega) (by omega)
  have h5 : f < g := hs 4 5 (by omega) (by omega)
  have hn : [a, b, c, e, f, g].Nodup := by
    simp only [List.nodup_cons, List.mem_cons, List.not_mem_nil, or_false, List.nodup_nil, not_or]
    refine ⟨⟨by omega, by omega, by omega, by omega, by omega⟩, ⟨by omega, by omega, by omega, by omega⟩, ⟨by omega, by omega, by omega⟩, ⟨by omega, by omega⟩, by omega, by simp, trivial⟩
  rw [hn.count]
theorem PL_count {m : Nat} {x : List Int} (hx : x.length = 6 * m) (hg : Good m x) {c : Nat} (hc : c < m) (f : Nat) : (rw6 (PL m x) c).count (f : Int) = if 1 ≤ f ∧ f ≤ x.length ∧ x.getD (f - 1) 0 = (c : Int) then 1 else 0 := by
  have h6 : (rw6 (PL m x) c).length = 6 := getD_six (PL_six m x) (by rw [PL_len]; exact hc)
  rw [count_nodup h6]
  · by_cases h : 1 ≤ f ∧ f ≤ x.length ∧ x.getD (f - 1) 0 = (c : Int)
    · rw [if_pos h, if_pos]
      have ho : OC x (c : Int) ((x.take (f - 1)).count (c : Int)) (f - 1) := ⟨by omega, h.2.2, rfl⟩
      have hj := ho.lt_count
      rw [hg.2 c hc] at hj
      have he := PL_eq hx hg hc ho
      have : (f : Int) = (rw6 (PL m x) c).getD ((x.take (f - 1)).count (c : Int)) 0 := by rw [he]; omega
      rw [this]
      exact getD_mem (by omega)
    · rw [if_neg h, if_neg]
      intro hm
      obtain ⟨j, hj, e⟩ := rw6_mem (PL_six m x) (by rw [PL_len]; exact hc) hm
      obtain ⟨a, a1, a2⟩ := PL_ex hx hg hc hj
      obtain ⟨q1, q2, q3⟩ := a1
      refine h ⟨by omega, by omega, ?_⟩
      rw [show f - 1 = a by omega]; exact q2
  · intro i j hij hj
    obtain ⟨a, a1, a2⟩ := PL_ex hx hg hc (show i < 6 by omega)
    obtain ⟨b, b1, b2⟩ := PL_ex hx hg hc hj
    have := (a1.lt b1).2 hij
    omega
theorem one_flat (v : Nat) : ∀ (n : Nat), ((List.range n).flatMap fun c => List.replicate (if v = c then 1 else 0) (c : Int)) = if v < n then [(v : Int)] else []
  | 0 => by simp
  | n + 1 => by
    rw [List.range_succ, List.flatMap_append, one_flat v n, List.flatMap_cons, List.flatMap_nil, List.append_nil]
    by_cases h : v < n
    · rw [if_pos h, if_neg (by omega), if_pos (by omega)]; rfl
    · rw [if_neg h]
      by_cases h2 : v = n
      · rw [if_pos h2, if_pos (by omega), h2]; rfl
      · rw [if_neg h2, if_neg (by omega)]; rfl
theorem flat_congr {f g : Nat → List Int} (n : Nat) (h : ∀ c, c < n → f c = g c) : (List.range n).flatMap f = (List.range n).flatMap g := by
  induction n with
  | zero => rfl
  | succ n ih =>
    rw [List.range_succ, List.flatMap_append, List.flatMap_append, ih (fun c hc => h c (by omega))]
    simp only [List.flatMap_cons, List.flatMap_nil]
    rw [h n (by omega)]
theorem Lf_PL {m : Nat} {x : List Int} (hx : x.length = 6 * m) (hg : Good m x) (f : Nat) : Lf (PL m x) f = if 1 ≤ f ∧ f ≤ x.length then [x.getD (f - 1) 0] else [] := by
  unfold Lf
  have h1 : ∀ c, c < (PL m x).length → List.replicate ((rowAt (PL m x) c).count (f : Int)) (c : Int) = List.replicate (if 1 ≤ f ∧ f ≤ x.length ∧ x.getD (f - 1) 0 = (c : Int) then 1 else 0) (c : Int) := fun c hc => by
    rw [← six_row (PL_six m x) hc, PL_count hx hg (by rwa [PL_len] at hc)]
  rw [flat_congr _ h1, PL_len]
  by_cases h : 1 ≤ f ∧ f ≤ x.length
  · rw [if_pos h]
    obtain ⟨g0, g1⟩ := hg.1 (f - 1) (by omega)
    have h2 := one_flat (x.getD (f - 1) 0).toNat m
    rw [if_pos (by omega), show ((x.getD (f - 1) 0).toNat : Int) = x.getD (f - 1) 0 by omega] at h2
    rw [← h2]
    refine flat_congr _ (fun c hc => ?_)
    congr 1
    by_cases h3 : x.getD (f - 1) 0 = (c : Int)
    · rw [if_pos ⟨h.1, h.2, h3⟩, if_pos (by omega)]
    · rw [if_neg (fun hh => h3 hh.2.2), if_neg (by omega)]
  · rw [if_neg h]
    rw [flat_congr (g := fun _ => []) _ (fun c hc => by rw [if_neg (fun hh => h ⟨hh.1, hh.2.1⟩)]; rfl)]
    simp
theorem LL_PL {m : Nat} {x : List Int} (hx : x.length = 6 * m) (hg : Good m x) : ∀ F, LL (PL m x) F = x.take (F - 1)
  | 0 => by simp [LL]
  | F + 1 => by
    rw [LL_succ, LL_PL hx hg F, Lf_PL hx hg]
    by_cases h : 1 ≤ F ∧ F ≤ x.length
    · rw [if_pos h, show F + 1 - 1 = (F - 1) + 1 by omega, take_get x (by omega)]
    · rw [if_neg h, List.append_nil]
      by_cases h0 : F = 0
      · subst h0; rfl
      · rw [List.take_of_length_le (by omega), List.take_of_length_le (by omega)]
theorem LL_back {m : Nat} {x : List Int} (hx : x.length = 6 * m) (h4 : m ≤ 4) (hg : Good m x) : LL (PL m x) 31 = x := by
  rw [LL_PL hx hg, List.take_of_length_le (by omega)]
theorem back_ok {m fu : Nat} {x : List Int} (hx : x.length = 6 * m) (h1 : 1 ≤ m) (h4 : m ≤ 4) (hg : Good m x) (hf : 100 < fu) : p_impl_LettersOf fu (PL m x) = some (x, true) := by
  rw [(lettersOf_eq (PL_six m x) hf).1, PL_valid hx h1 h4 hg, PL_untied hx hg, LL_back hx h4 hg]
  rfl
end Go.GA.E
