/- The order that a roll gives: both texts alike, and one of all orders. -/
import Derived.Test.YtnomfaepgmbogaaMKb
namespace Go.GA.E
open Go
set_option maxRecDepth 100000
set_option linter.unusedVariables false
set_option linter.unusedSimpArgs false
/-- two loops that go alike -/
theorem cnt_cong2 {S R : Type} {f g : Int → S → (S → R) → (Int → S → R) → R} {k k' : Int → S → R} (n : Nat) (I : Nat → S → Prop) (hk : ∀ s, I n s → k (n : Int) s = k' (n : Int) s) (hf : ∀ (i : Nat) s c c', i < n → I i s → (∀ s', I (i + 1) s' → c s' = c' s') → f (i : Int) s c k = g (i : Int) s c' k') :
    ∀ (d i : Nat) (s : S), d + i = n → I i s → cnt f k d (i : Int) s = cnt g k' d (i : Int) s
  | 0, i, s, h, hi => by
    obtain rfl : i = n := by omega
    exact hk s hi
  | d + 1, i, s, h, hi => by
    refine hf i s _ _ (by omega) hi (fun s' hs' => ?_)
    have := cnt_cong2 n I hk hf d (i + 1) s' (by omega) hs'
    simpa using this
theorem cnt_cong20 {S R : Type} {f g : Int → S → (S → R) → (Int → S → R) → R} {k k' : Int → S → R} {d : Nat} {s : S} (n : Nat) (I : Nat → S → Prop) (hd : d = n) (h0 : I 0 s) (hk : ∀ s, I n s → k (n : Int) s = k' (n : Int) s) (hf : ∀ (i : Nat) s c c', i < n → I i s → (∀ s', I (i + 1) s' → c s' = c' s') → f (i : Int) s c k = g (i : Int) s c' k') :
    cnt f k d 0 s = cnt g k' d 0 s := by
  have := cnt_cong2 n I hk hf d 0 s (by omega) h0
  simpa using this
theorem order_same (x : List Int) (hl : x.length ≤ 1000) : p_impl_orderOf x = p_spec_l10Order x := by
  unfold p_impl_orderOf p_spec_l10Order
  refine cnt_cong20 x.length (fun _ _ => True) (by omega) trivial (fun _ _ => rfl) (fun i s c c' hi _ hc => ?_)
  refine cnt_cong20 x.length (fun j s => ∃ m : Nat, s = (m : Int) ∧ m ≤ j) (by omega) ⟨0, rfl, Nat.le_refl _⟩ (fun s _ => ?_) (fun j s8 d d' hj ⟨m, e, hm⟩ hd => ?_)
  · by_cases h1 : 0 ≤ s
    · rw [if_pos h1, if_pos h1]
      by_cases h2 : s < 4
      · rw [if_pos h2, if_pos h2]; exact hc _ trivial
      · rw [if_neg h2, if_neg h2]
    · rw [if_neg h1, if_neg h1]
  · subst e
    by_cases h1 : ((!(decide ((j : Int) = (i : Int)))) && (decide ((x.getD (j : Int).toNat 0) = (x.getD (i : Int).toNat 0)))) = true
    · rw [if_pos h1, if_pos h1]
    · rw [if_neg h1, if_neg h1]
      by_cases h2 : (x.getD (i : Int).toNat 0) < (x.getD (j : Int).toNat 0)
      · rw [if_pos h2, decide_eq_true h2]
        have e : IntKind.wrap .i64 ((m : Int) + p_impl_truth true) = IntKind.wrap .i64 ((m : Int) + 1) := rfl
        rw [e]
        exact hd _ ⟨m + 1, wrap_i64 (by omega) (by omega), by omega⟩
      · rw [if_neg h2, decide_eq_false h2]
        have e : IntKind.wrap .i64 ((m : Int) + p_impl_truth false) = (m : Int) := by
          show IntKind.wrap .i64 ((m : Int) + 0) = _
          rw [Int.add_zero]; exact wrap_nat (by omega)
        rw [e]
        exact hd _ ⟨m, rfl, by omega⟩
/-- only how elements stand to one another matters -/
theorem order_cong (x y : List Int) (hl : x.length = y.length) (he : ∀ i j, i < x.length → j < x.length → (x.getD i 0 = x.getD j 0 ↔ y.getD i 0 = y.getD j 0)) (ht : ∀ i j, i < x.length → j < x.length → (x.getD i 0 < x.getD j 0 ↔ y.getD i 0 < y.getD j 0)) : p_impl_orderOf x = p_impl_orderOf y := by
  unfold p_impl_orderOf
  rw [show Int.toNat ((y.length : Int) - 0) = Int.toNat ((x.length : Int) - 0) by rw [hl]]
  refine cnt_cong20 x.length (fun _ _ => True) (by omega) trivial (fun _ _ => rfl) (fun i s c c' hi _ hc => ?_)
  refine cnt_cong20 x.length (fun _ _ => True) (by omega) trivial (fun s _ => ?_) (fun j s8 d d' hj _ hd => ?_)
  · by_cases h1 : 0 ≤ s
    · rw [if_pos h1, if_pos h1]
      by_cases h2 : s < 4
      · rw [if_pos h2, if_pos h2]; exact hc _ trivial
      · rw [if_neg h2, if_neg h2]
    · rw [if_neg h1, if_neg h1]
  · rw [Int.toNat_natCast, Int.toNat_natCast]
    have e1 : decide (x.getD j 0 = x.getD i 0) = decide (y.getD j 0 = y.getD i 0) := by simp only [he j i hj hi]
    have e2 : decide (x.getD i 0 < x.getD j 0) = decide (y.getD i 0 < y.getD j 0) := by simp only [ht i j hi hj]
    rw [e1, e2]
    split
    · rfl
    · exact hd _ trivial
/-! ### Ranks -/
def rk (x : List Int) (v : Int) : Nat := x.countP (fun u => decide (u < v))
theorem rk_mono (v w : Int) (h : v ≤ w) : ∀ (x : List Int), rk x v ≤ rk x w
  | [] => Nat.le_refl _
  | a :: x => by
    have := rk_mono v w h x
    unfold rk at *
    rw [List.countP_cons, List.countP_cons]
    by_cases h1 : a < v
    · have h2 : a < w := by omega
      simp [h1, h2]; omega
    · simp [h1]; split <;> omega
theorem rk_lt (v w : Int) (h : v < w) : ∀ (x : List Int), v ∈ x → rk x v < rk x w
  | [], hm => by simp at hm
  | a :: x, hm => by
    have hmo := rk_mono v w (by omega) x
    by_cases e : v = a
    · subst e
      unfold rk at *
      rw [List.countP_cons, List.countP_cons]
      simp [h]; omega
    · have hm' : v ∈ x := by rcases List.mem_cons.1 hm with h | h <;> first | exact absurd h e | exact h
      have ih := rk_lt v w h x hm'
      unfold rk at *
      rw [List.countP_cons, List.countP_cons]
      by_cases h1 : a < v
      · have h2 : a < w := by omega
        simp [h1, h2]; omega
      · simp [h1]; split <;> omega
theorem rk_len (x : List Int) (v : Int) (hm : v ∈ x) : rk x v < x.length := by
  have h1 := rk_lt v (v + 1) (by omega) x hm
  have h2 : rk x (v + 1) ≤ x.length := List.countP_le_length
  omega
def ranks (x : List Int) : List Int := x.map fun v => ((rk x v : Nat) : Int)
theorem ranks_get (x : List Int) {i : Nat} (hi : i < x.length) : (ranks x).getD i 0 = ((rk x (x.getD i 0) : Nat) : Int) := by
  unfold ranks
  rw [List.getD_eq_getElem?_getD, List.getD_eq_getElem?_getD, List.getElem?_map, List.getElem?_eq_getElem hi]; rfl
theorem getD_mem {x : List Int} {i : Nat} (hi : i < x.length) : x.getD i 0 ∈ x := by
  rw [List.getD_eq_getElem?_getD, List.getElem?_eq_getElem hi]; exact List.getElem_mem _
theorem order_ranks (x : List Int) : p_impl_orderOf x = p_impl_orderOf (ranks x) := by
  refine order_cong x (ranks x) (by simp [ranks]) (fun i j hi hj => ?_) (fun i j hi hj => ?_)
  · rw [ranks_get x hi, ranks_get x hj]
    constructor
    · intro h; rw [h]
    · intro h
      rcases Int.lt_trichotomy (x.getD i 0) (x.getD j 0) with h1 | h1 | h1
      · have := rk_lt _ _ h1 x (getD_mem hi); omega
      · exact h1
      · have := rk_lt _ _ h1 x (getD_mem hj); omega
  · rw [ranks_get x hi, ranks_get x hj]
    constructor
    · intro h; have := rk_lt _ _ h x (getD_mem hi); omega
    · intro h
      rcases Int.lt_trichotomy (x.getD i 0) (x.getD j 0) with h1 | h1 | h1
      · exact h1
      · rw [h1] at h; omega
      · have := rk_lt _ _ h1 x (getD_mem hj); omega
def allL : Nat → Nat → List (List Int)
  | 0, _ => [[]]
  | k + 1, b => (List.range b).flatMap fun (v : Nat) => (allL k b).map fun l => ((v : Nat) : Int) :: l
theorem allL_mem (b : Nat) : ∀ (y : List Int), (∀ v ∈ y, ∃ m : Nat, v = (m : Int) ∧ m < b) → y ∈ allL y.length b
  | [], _ => by simp [allL]
  | v :: y, h => by
    obtain ⟨m, rfl, hm⟩ := h v (by simp)
    have ih := allL_mem b y (fun u hu => h u (by simp [hu]))
    simp only [List.length_cons, allL, List.mem_flatMap, List.mem_range, List.mem_map]
    exact ⟨m, hm, y, ih, rfl⟩
/-- the check of all rolls of ranks -/
def okO (n : Nat) (y : List Int) : Bool := match p_impl_orderOf y with
  | some (o, true) => decide (o.1 ∈ (ordL n).map (·.1))
  | some (_, false) => true
  | none => false
theorem ok1 : (allL 1 1).all (okO 1) = true := by decide +kernel
theorem ok2 : (allL 2 2).all (okO 2) = true := by decide +kernel
theorem ok3 : (allL 3 3).all (okO 3) = true := by decide +kernel
theorem ok4 : (allL 4 4).all (okO 4) = true := by decide +kernel
theorem order_ok (x : List Int) (h1 : 1 ≤ x.length) (h4 : x.length ≤ 4) : ∃ o b, p_impl_orderOf x = some (o, b) ∧ p_spec_l10Order x = some (o, b) ∧ (b = true → o.1 ∈ (ordL x.length).map (·.1)) := by
  rw [← order_same x (by omega)]
  have hm : ranks x ∈ allL x.length x.length := by
    have := allL_mem x.length (ranks x) (fun v hv => by
      unfold ranks at hv
      obtain ⟨u, hu, rfl⟩ := List.mem_map.1 hv
      exact ⟨rk x u, rfl, rk_len x u hu⟩)
    have e : (ranks x).length = x.length := by simp [ranks]
    rwa [e] at this
  have hall : (allL x.length x.length).all (okO x.length) = true := by
    have : x.length = 1 ∨ x.length = 2 ∨ x.length = 3 ∨ x.length = 4 := by omega
    rcases this with h | h | h | h <;> rw [h]
    · exact ok1
    · exact ok2
    · exact ok3
    · exact ok4
  have hk := List.all_eq_true.1 hall _ hm
  rw [order_ranks x]
  unfold okO at hk
  split at hk
  · rename_i o he
    exact ⟨o, true, he, he, fun _ => by simpa using hk⟩
  · rename_i o he
    exact ⟨o, false, he, he, fun h => by cases h⟩
  · cases hk
end Go.GA.E
