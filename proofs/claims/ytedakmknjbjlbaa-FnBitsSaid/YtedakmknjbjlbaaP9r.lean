/- Plain law of FnBits: fair sizes, the loops. -/
import Derived.Test.YtedakmknjbjlbaaP9q
namespace Go.GA
open Go
set_option maxRecDepth 100000
/-- a size that is fair -/
def FairN (x : List (List Int)) (n : Int) : Prop := 1 ≤ n ∧ n ≤ 40 ∧ ∃ s, p_impl_remainders x n = some s ∧ 1 ≤ s.length ∧ allEq s = true
def fairI (x0 : List (List Int)) : (Int × (List Int)) → ((Int × (List Int)) → Option ((List Int) × Bool)) → Option ((List Int) × Bool) := fun s2 c4 => (if s2.1 ≤ 40 then (p_impl_remainders x0 s2.1).bind (fun r9 => (p_slices_Max_int_int r9).bind (fun r11 => (p_slices_Min_int_int r9).bind (fun r12 => (if r11 = r12 then if (s2.2.length : Int) + 1 ≤ 1000000000 then c4 ((s2.1 + 1), (s2.2 ++ [s2.1])) else none else c4 ((s2.1 + 1), s2.2))))) else some (s2.2, true))
def fairS (x0 : List (List Int)) : (Int × (List Int)) → ((Int × (List Int)) → Option ((List Int) × Bool)) → Option ((List Int) × Bool) := fun s3 c5 => (if s3.1 ≤ 40 then (p_spec_l9Mod x0 s3.1).bind (fun r10 => cnt (fun i13 (s12 : Bool) c14 _ => if (s12 = true → i13 < (r10.length : Int)) then c14 (s12 && (decide ((r10.getD i13.toNat 0) = (r10.getD 0 0)))) else none) (fun i13 (s12 : Bool) => (if s12 = true then if (s3.2.length : Int) + 1 ≤ 1000000000 then c5 ((s3.1 + 1), (s3.2 ++ [s3.1])) else none else c5 ((s3.1 + 1), s3.2))) (Int.toNat (s3.1 - 1)) 1 true) else some (s3.2, true))
theorem fair_step {x : List (List Int)} (hl : x.length ≤ 4) (hx : ∀ d ∈ x, Die d) {i : Int} {l : List Int} (h1 : 1 ≤ i) (h2 : i ≤ 40) (hll : l.length ≤ 1000) :
    ∃ b : Bool, (∀ c, fairI x (i, l) c = c (i + 1, if b = true then l ++ [i] else l)) ∧ (∀ c, fairS x (i, l) c = c (i + 1, if b = true then l ++ [i] else l)) ∧ (b = true → FairN x i) ∧ (i = 1 → b = true) := by
  obtain ⟨r, e1, e2, e3, _⟩ := mod_eq hl hx h1 h2
  have hr : 1 ≤ r.length := by omega
  obtain ⟨M, m1, m2, m3⟩ := max_run hr
  obtain ⟨m, n1, n2, n3⟩ := min_run hr
  have hmm := maxmin m2 m3 n2 n3 hr
  refine ⟨allEq r, fun c => ?_, fun c => ?_, fun hb => ⟨h1, h2, r, e1, hr, hb⟩, fun hi => ?_⟩
  · unfold fairI
    simp only
    rw [if_pos h2, e1, Option.bind_some, m1, Option.bind_some, n1, Option.bind_some]
    by_cases hb : allEq r = true
    · rw [if_pos (hmm.2 hb), if_pos (by omega), if_pos hb]
    · rw [if_neg (fun h => hb (hmm.1 h)), if_neg hb]
  · unfold fairS
    simp only
    rw [if_pos h2, e2, Option.bind_some]
    have := eq_run (r := r) (fun s12 => (if s12 = true then if (l.length : Int) + 1 ≤ 1000000000 then c ((i + 1), (l ++ [i])) else none else c ((i + 1), l))) hr
    rw [show Int.toNat (i - 1) = Int.toNat ((r.length : Int) - 1) by omega]
    refine Eq.trans this ?_
    by_cases hb : allEq r = true
    · rw [if_pos hb, if_pos (by omega), if_pos hb]
    · rw [if_neg hb, if_neg hb]
  · unfold allEq
    have hr1 : r.length = 1 := by omega
    match r, hr1 with
    | [a], _ => simp
theorem fair_run {x : List (List Int)} (hl : x.length ≤ 4) (hx : ∀ d ∈ x, Die d) : ∀ (d : Nat) (i : Int) (l : List Int), 1 ≤ i → i ≤ 41 → 41 - i < (d : Int) → (l.length : Int) < i →
    ∃ t, whl (fairI x) d (i, l) = some (l ++ t, true) ∧ whl (fairS x) d (i, l) = some (l ++ t, true) ∧ (∀ v ∈ t, FairN x v) ∧ (i = 1 → t ≠ [] ∧ t.getD 0 0 = 1) ∧ (t.length : Int) ≤ 41 - i
  | 0, i, l, h1, h2, h3, _ => by omega
  | d + 1, i, l, h1, h2, h3, h4 => by
    rw [show ∀ (f : (Int × List Int) → ((Int × List Int) → Option (List Int × Bool)) → Option (List Int × Bool)) s, whl f (d + 1) s = f s (whl f d) from fun _ _ => rfl, show ∀ (f : (Int × List Int) → ((Int × List Int) → Option (List Int × Bool)) → Option (List Int × Bool)) s, whl f (d + 1) s = f s (whl f d) from fun _ _ => rfl]
    by_cases hc : i ≤ 40
    · obtain ⟨b, b1, b2, b3, b4⟩ := fair_step hl hx h1 hc (l := l) (by omega)
      rw [b1, b2]
      cases b with
      | true =>
        obtain ⟨t, t1, t2, t3, t4, t5⟩ := fair_run hl hx d (i + 1) (l ++ [i]) (by omega) (by omega) (by omega) (by simp; omega)
        refine ⟨i :: t, ?_, ?_, ?_, ?_, ?_⟩
        · simpa using t1
        · simpa using t2
        · intro v hv
          rcases List.mem_cons.1 hv with h | h
          · rw [h]; exact b3 rfl
          · exact t3 v h
        · intro hi; exact ⟨by simp, by simp [hi]⟩
        · simp; omega
      | false =>
        obtain ⟨t, t1, t2, t3, t4, t5⟩ := fair_run hl hx d (i + 1) l (by omega) (by omega) (by omega) (by omega)
        refine ⟨t, ?_, ?_, t3, ?_, by omega⟩
        · simpa using t1
        · simpa using t2
        · intro hi; exact absurd (b4 hi) (by simp)
    · refine ⟨[], ?_, ?_, by simp, fun hi => by omega, by simp; omega⟩
      · unfold fairI; simp only; rw [if_neg hc]; simp
      · unfold fairS; simp only; rw [if_neg hc]; simp
theorem fair_eq {x : List (List Int)} (h : Six x) {fu : Nat} (hf : 60 ≤ fu) : ∃ t, p_impl_FairSizes fu x = some (t, p_impl_IsPool x) ∧ p_spec_FairSizes fu x = some (t, p_impl_IsPool x) ∧ t.length ≤ 40 ∧ (p_impl_IsPool x = true → (∀ v ∈ t, FairN x v) ∧ t ≠ [] ∧ t.getD 0 0 = 1) := by
  unfold p_impl_FairSizes p_spec_FairSizes
  rw [pool_eq h, Option.bind_some]
  by_cases hp : p_impl_IsPool x = true
  · obtain ⟨_, p1, p2⟩ := pool_good h hp
    obtain ⟨t, t1, t2, t3, t4, t5⟩ := fair_run p1 p2 fu 1 [] (by omega) (by omega) (by omega) (by simp)
    rw [if_pos hp, if_pos hp, hp]
    exact ⟨t, t1, t2, by omega, fun _ => ⟨t3, t4 rfl⟩⟩
  · rw [if_neg hp, if_neg hp, Bool.not_eq_true] at *
    rw [hp]
    exact ⟨[], rfl, rfl, by simp, by simp⟩
end Go.GA
