/- Plain law: dice are thrown alike. -/
import Derived.Test.YtbfjbbfekodohaaAKc
namespace Go.GA
open Go
set_option maxRecDepth 100000
def nextS (s : Int) : Int := (IntKind.wrap .i64 ((IntKind.wrap .i64 (25173 * s)) + 13849)).tmod 65536
def faceS (d : List Int) (s : Int) : Int := d.getD ((IntKind.wrap .i64 ((nextS s).tdiv 256)).tmod 6).toNat 0
def bitS (set i : Int) : Bool := decide ((andI .i64 (shrI .i64 set i) 1) = 1)
theorem nextS_in {s : Int} (h1 : 0 ≤ s) (h2 : s ≤ 65535) : 0 ≤ nextS s ∧ nextS s ≤ 65535 := by
  unfold nextS
  rw [wrap_i64 (n := 25173 * s) (by omega) (by omega), wrap_i64 (by omega) (by omega), Int.tmod_eq_emod_of_nonneg (by omega)]
  omega
theorem guard6 {s : Int} (h1 : 0 ≤ s) (h2 : s ≤ 65535) : 0 ≤ (IntKind.wrap .i64 ((nextS s).tdiv 256)).tmod 6 ∧ (IntKind.wrap .i64 ((nextS s).tdiv 256)).tmod 6 < 6 := by
  obtain ⟨a, b⟩ := nextS_in h1 h2
  generalize nextS s = t at a b
  rw [Int.tdiv_eq_ediv_of_nonneg a, wrap_i64 (by omega) (by omega), Int.tmod_eq_emod_of_nonneg (by omega)]
  omega
theorem throw_spec (d : List Int) {s : Int} (h1 : 0 ≤ s) (h2 : s ≤ 65535) : p_spec_l12Throw d s = some (nextS s, faceS d s) := by
  show (if 0 ≤ (IntKind.wrap .i64 ((nextS s).tdiv 256)).tmod 6 then (if (IntKind.wrap .i64 ((nextS s).tdiv 256)).tmod 6 < 6 then some (nextS s, faceS d s) else none) else none) = _
  rw [if_pos (guard6 h1 h2).1, if_pos (guard6 h1 h2).2]
theorem throw_impl (p : List (List Int)) (i : Nat) {s : Int} (a b c : Int) (l : List Int) (hi : i < p.length) (h1 : 0 ≤ s) (h2 : s ≤ 65535) : p_impl_Tavern_throwv1 (i : Int) s a b c p l = some (faceS (p.getD i (List.replicate 6 0)) s, nextS s) := by
  show (if 0 ≤ (i : Int) then (if (i : Int) < (p.length : Int) then (if 0 ≤ (IntKind.wrap .i64 ((nextS s).tdiv 256)).tmod 6 then (if (IntKind.wrap .i64 ((nextS s).tdiv 256)).tmod 6 < 6 then some (faceS (p.getD (i : Int).toNat (List.replicate 6 0)) s, nextS s) else none) else none) else none) else none) = _
  rw [if_pos (by omega), if_pos (by omega), if_pos (guard6 h1 h2).1, if_pos (guard6 h1 h2).2, Int.toNat_natCast]
/-- the faces that come, and the seed behind them -/
def runR (p : List (List Int)) (set : Int) : Nat → Nat → Int → List Int → Int × List Int
  | 0, _, s, l => (s, l)
  | d + 1, i, s, l => if bitS set i = true then runR p set d (i + 1) (nextS s) ((if l.length ≤ i then l ++ [0] else l).set i (faceS (p.getD i (List.replicate 6 0)) s)) else runR p set d (i + 1) s (if l.length ≤ i then l ++ [0] else l)
theorem runR_len {p : List (List Int)} {set : Int} : ∀ (d i : Nat) (s : Int) (l : List Int), i ≤ l.length → (runR p set d i s l).2.length = max l.length (i + d)
  | 0, i, s, l, h => by simp only [runR]; omega
  | d + 1, i, s, l, h => by
    have hl1 : ∀ l1, l1 = (if l.length ≤ i then l ++ [0] else l) → i < l1.length ∧ max l1.length (i + 1 + d) = max l.length (i + (d + 1)) := by
      intro l1 e; subst e
      by_cases h1 : l.length ≤ i
      · rw [if_pos h1, List.length_append]; simp only [List.length_cons, List.length_nil]; omega
      · rw [if_neg h1]; omega
    obtain ⟨a, b⟩ := hl1 _ rfl
    simp only [runR]
    by_cases hb : bitS set i = true
    · rw [if_pos hb, runR_len d (i + 1) _ _ (by rw [List.length_set]; omega), List.length_set, b]
    · rw [if_neg hb, runR_len d (i + 1) _ _ (by omega), b]
theorem spec_run {R : Type} (p : List (List Int)) (set : Int) (hp : p.length ≤ 1000) (K : Int × Int × List Int → Option R) {F : (Int × Int × List Int) → ((Int × Int × List Int) → Option R) → Option R}
    (hF : ∀ s3 c5, F s3 c5 = (if s3.1 < (p.length : Int) then jn (fun (s10 : (List Int)) => if 0 ≤ s3.1 then (if (andI .i64 (shrI .i64 set s3.1) 1) = 1 then (p_spec_l12Throw (p.getD s3.1.toNat (List.replicate 6 0)) s3.2.1).bind (fun r17 => if s3.1 < (s10.length : Int) then c5 ((IntKind.wrap .i64 (s3.1 + 1)), r17.1, (s10.set s3.1.toNat r17.2)) else none) else c5 ((IntKind.wrap .i64 (s3.1 + 1)), s3.2.1, s10)) else none) (fun k11 => (if (s3.2.2.length : Int) ≤ s3.1 then if (s3.2.2.length : Int) + 1 ≤ 1000000000 then k11 (s3.2.2 ++ [0]) else none else k11 s3.2.2)) else K s3)) : ∀ (d i fu : Nat) (s : Int) (l : List Int), d + i = p.length → d < fu → 0 ≤ s → s ≤ 65535 → l.length ≤ 1000 → i ≤ l.length →
    whl F fu ((i : Int), s, l) = K ((p.length : Int), runR p set d i s l)
  | 0, i, fu, s, l, h, hf, h1, h2, hl, hi => by
    obtain ⟨f, rfl⟩ : ∃ f, fu = f + 1 := ⟨fu - 1, by omega⟩
    show F ((i : Int), s, l) (fun s' => whl F f s') = _
    rw [hF, if_neg (show ¬ (i : Int) < (p.length : Int) by omega), show (i : Int) = (p.length : Int) by omega]
    rfl
  | d + 1, i, fu, s, l, h, hf, h1, h2, hl, hi => by
    obtain ⟨f, rfl⟩ : ∃ f, fu = f + 1 := ⟨fu - 1, by omega⟩
    have hs := nextS_in h1 h2
    have hl1 : ∀ l1, l1 = (if l.length ≤ i then l ++ [0] else l) → i < l1.length ∧ l1.length ≤ 1000 := by
      intro l1 e; subst e
      by_cases h1 : l.length ≤ i
      · rw [if_pos h1, List.length_append]; simp only [List.length_cons, List.length_nil]; omega
      · rw [if_neg h1]; omega
    obtain ⟨a, b⟩ := hl1 _ rfl
    have ej : ∀ (k : List Int → Option R), jn k (fun k11 => (if (l.length : Int) ≤ (i : Int) then if (l.length : Int) + 1 ≤ 1000000000 then k11 (l ++ [0]) else none else k11 l)) = k (if l.length ≤ i then l ++ [0] else l) := by
      intro k
      show (if (l.length : Int) ≤ (i : Int) then if (l.length : Int) + 1 ≤ 1000000000 then k (l ++ [0]) else none else k l) = _
      by_cases h3 : l.length ≤ i
      · rw [if_pos (by omega), if_pos (by omega), if_pos h3]
      · rw [if_neg (by omega), if_neg h3]
    have ih := fun (s : Int) (l : List Int) => spec_run p set hp K hF d (i + 1) f s l (by omega) (by omega)
    show F ((i : Int), s, l) (fun s' => whl F f s') = _
    rw [hF]
    dsimp only
    rw [if_pos (show (i : Int) < (p.length : Int) by omega), ej]
    simp only [runR]
    generalize (if l.length ≤ i then l ++ [0] else l) = l1 at a b
    rw [if_pos (show (0 : Int) ≤ (i : Int) by omega), throw_spec _ h1 h2, Option.bind_some]
    dsimp only
    rw [if_pos (show (i : Int) < (l1.length : Int) by omega), wrap_i64 (by omega) (by omega), Int.toNat_natCast, show (i : Int) + 1 = ((i + 1 : Nat) : Int) from rfl]
    by_cases hb : bitS set i = true
    · rw [if_pos (of_decide_eq_true hb), if_pos hb]
      exact ih (nextS s) _ hs.1 hs.2 (by rw [List.length_set]; omega) (by rw [List.length_set]; omega)
    · rw [if_neg (by simpa [bitS] using hb), if_neg hb]
      exact ih s l1 h1 h2 b (by omega)
theorem roll_run {R : Type} (p : List (List Int)) (set : Int) (hp : p.length ≤ 1000) (ha : ∀ i, i < p.length → bitS set (i : Nat) = true) (a b c : Int) (K : Int × List Int → Option R) {F : Int → (Int × List Int) → ((Int × List Int) → Option R) → (Int → (Int × List Int) → Option R) → Option R}
    (hF : ∀ i2 s1 c3 k, F i2 s1 c3 k = (p_impl_Tavern_throwv1 i2 s1.1 a b c p s1.2).bind (fun r8 => if (s1.2.length : Int) + 1 ≤ 1000000000 then c3 (r8.2, (s1.2 ++ [r8.1])) else none)) : ∀ (d i : Nat) (s : Int) (l : List Int), d + i = p.length → 0 ≤ s → s ≤ 65535 → i = l.length →
    cnt F (fun _ (s1 : Int × (List Int)) => K s1) d (i : Int) (s, l) = K (runR p set d i s l)
  | 0, i, s, l, h, h1, h2, hi => rfl
  | d + 1, i, s, l, h, h1, h2, hi => by
    have hs := nextS_in h1 h2
    have ih := fun (s : Int) (l : List Int) => roll_run p set hp ha a b c K hF d (i + 1) s l (by omega)
    have hn : (l.length : Int) + 1 ≤ 1000000000 := by omega
    show F (i : Int) (s, l) (fun s' => cnt F _ d ((i : Int) + 1) s') _ = _
    rw [hF]
    simp only [runR]
    rw [throw_impl p i a b c l (by omega) h1 h2, if_pos (ha i (by omega)), if_pos (by omega : l.length ≤ i), Option.bind_some]
    dsimp only
    rw [if_pos hn, List.set_append_right _ _ (by omega), show i - l.length = 0 by omega, show (i : Int) + 1 = ((i + 1 : Nat) : Int) from rfl]
    simp only [List.set_cons_zero]
    exact ih (nextS s) _ hs.1 hs.2 (by simp [hi])
theorem again_run {R : Type} (p : List (List Int)) (set : Int) (a b c : Int) (n : Nat) (hn : n = p.length) (K : Int × List Int → Option R) {F : Int → (Int × List Int) → ((Int × List Int) → Option R) → (Int → (Int × List Int) → Option R) → Option R}
    (hF : ∀ i26 s25 c27 k, F i26 s25 c27 k = (p_impl_isIn set i26).bind (fun r32 => (if r32 = true then (p_impl_Tavern_throwv1 i26 s25.1 a b c p s25.2).bind (fun r34 => if i26 < (n : Int) then c27 (r34.2, (s25.2.set i26.toNat r34.1)) else none) else c27 (s25.1, s25.2)))) : ∀ (d i : Nat) (s : Int) (l : List Int), d + i = p.length → 0 ≤ s → s ≤ 65535 → l.length = p.length →
    cnt F (fun _ (s25 : Int × (List Int)) => K s25) d (i : Int) (s, l) = K (runR p set d i s l)
  | 0, i, s, l, h, h1, h2, hi => rfl
  | d + 1, i, s, l, h, h1, h2, hi => by
    have hs := nextS_in h1 h2
    have ih := fun (s : Int) (l : List Int) => again_run p set a b c n hn K hF d (i + 1) s l (by omega)
    show F (i : Int) (s, l) (fun s' => cnt F _ d ((i : Int) + 1) s') _ = _
    rw [hF]
    simp only [runR]
    rw [if_neg (by omega : ¬ l.length ≤ i)]
    unfold p_impl_isIn
    rw [if_pos (show (0 : Int) ≤ (i : Int) by omega), Option.bind_some]
    rw [show (i : Int) + 1 = ((i + 1 : Nat) : Int) from rfl]
    by_cases hb : bitS set i = true
    · have hb' : decide ((andI .i64 (shrI .i64 set (i : Int)) 1) = 1) = true := hb
      rw [if_pos hb', if_pos hb, throw_impl p i a b c l (by omega) h1 h2, Option.bind_some]
      dsimp only
      rw [if_pos (show (i : Int) < (n : Int) by omega), Int.toNat_natCast]
      exact ih (nextS s) _ hs.1 hs.2 (by rw [List.length_set]; omega)
    · have hb' : ¬ decide ((andI .i64 (shrI .i64 set (i : Int)) 1) = 1) = true := hb
      rw [if_neg hb', if_neg hb]
      exact ih s l h1 h2 hi
theorem all_bits : ∀ n : Nat, 1 ≤ n → n ≤ 4 → ∀ i : Nat, i < n → bitS (IntKind.wrap .i64 ((shlI .i64 1 (n : Int)) - 1)) (i : Nat) = true := by
  intro n h1 h2 i hi
  have : (n = 1 ∧ i = 0) ∨ (n = 2 ∧ i = 0) ∨ (n = 2 ∧ i = 1) ∨ (n = 3 ∧ i = 0) ∨ (n = 3 ∧ i = 1) ∨ (n = 3 ∧ i = 2) ∨ (n = 4 ∧ i = 0) ∨ (n = 4 ∧ i = 1) ∨ (n = 4 ∧ i = 2) ∨ (n = 4 ∧ i = 3) := by omega
  rcases this with ⟨rfl, rfl⟩ | ⟨rfl, rfl⟩ | ⟨rfl, rfl⟩ | ⟨rfl, rfl⟩ | ⟨rfl, rfl⟩ | ⟨rfl, rfl⟩ | ⟨rfl, rfl⟩ | ⟨rfl, rfl⟩ | ⟨rfl, rfl⟩ | ⟨rfl, rfl⟩ <;> decide
theorem add_eq (l : List Int) : p_spec_l12Add l = p_impl_total l := rfl
theorem most_eq (a b : Int) : p_spec_l1Most a b = if b > a then b else a := by
  unfold p_spec_l1Most
  by_cases h : b < a
  · rw [if_pos h, if_neg (by omega)]
  · rw [if_neg h]
    by_cases h2 : b > a
    · rw [if_pos h2]
    · rw [if_neg h2]; omega
end Go.GA
