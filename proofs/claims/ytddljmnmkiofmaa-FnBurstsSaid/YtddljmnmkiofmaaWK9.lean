/- Plain law of FnBursts: tables of sums. -/
import Derived.Test.YtddljmnmkiofmaaWK3
namespace Go.GA
open Go
set_option maxRecDepth 100000
theorem lrun_skip {α S R : Type} (k : S → R) : ∀ (xs : List α) (s : S), lrun (fun _ s c => c s) k xs s = k s
  | [], s => rfl
  | x :: xs, s => lrun_skip k xs s
/-- one die in the program's way -/
def stepI (d T : List Int) (c : List Int → Option (List Int)) : Option (List Int) := cnt (fun i9 (s8 : (List Int)) c10 _ => (if (T.getD i9.toNat 0) = 0 then c10 s8 else cnt (fun i19 (s18 : (List Int)) c20 _ => if 0 ≤ (IntKind.wrap .i64 (i9 + (d.getD i19.toNat 0))) then if (IntKind.wrap .i64 (i9 + (d.getD i19.toNat 0))) < 121 then c20 (s18.set (IntKind.wrap .i64 (i9 + (d.getD i19.toNat 0))).toNat (IntKind.wrap .i64 ((s18.getD (IntKind.wrap .i64 (i9 + (d.getD i19.toNat 0))).toNat 0) + (T.getD i9.toNat 0)))) else none else none) (fun i19 (s18 : (List Int)) => c10 s18) (Int.toNat (6 - 0)) 0 s8)) (fun i9 (s8 : (List Int)) => c s8) (Int.toNat (121 - 0)) 0 (List.replicate 121 0)
theorem sum0 : (List.replicate 121 (0 : Int)).sum = 0 := by decide
theorem step_bound {m : Nat} {T : List Int} (h : Tab m T) (hm : m ≤ 3) : (List.replicate 121 (0 : Int)).sum + 6 * tsum T (List.range' 0 121) ≤ 1000000 := by
  rw [sum0, ← List.range_eq_range', tsum_range h.len, h.sum]
  have : (6 ^ m : Nat) ≤ 6 ^ 3 := Nat.pow_le_pow_right (by omega) hm
  have e : (6 : Nat) ^ 3 = 216 := rfl
  omega
theorem stepI_eq {m : Nat} {T d : List Int} (h : Tab m T) (hm : m ≤ 3) (hd : Die d) (c : List Int → Option (List Int)) : stepI d T c = c (conv T d) := by
  obtain ⟨_, hin⟩ := tab_conv h hm hd.1 hd.2
  unfold stepI conv
  have := outer_run (R := List Int) hd.1 h.nn hin c (f := fun i9 (s8 : (List Int)) c10 _ => (if (T.getD i9.toNat 0) = 0 then c10 s8 else cnt (fun i19 (s18 : (List Int)) c20 _ => if 0 ≤ (IntKind.wrap .i64 (i9 + (d.getD i19.toNat 0))) then if (IntKind.wrap .i64 (i9 + (d.getD i19.toNat 0))) < 121 then c20 (s18.set (IntKind.wrap .i64 (i9 + (d.getD i19.toNat 0))).toNat (IntKind.wrap .i64 ((s18.getD (IntKind.wrap .i64 (i9 + (d.getD i19.toNat 0))).toNat 0) + (T.getD i9.toNat 0)))) else none else none) (fun i19 (s18 : (List Int)) => c10 s18) (Int.toNat (6 - 0)) 0 s8)) (fun i s c' hi hl hn hb => ?_) 121 0 (List.replicate 121 0) rfl (by simp) nn_rep (step_bound h hm)
  · rw [← List.range_eq_range'] at this
    exact this
  · simp only [Int.toNat_natCast]
    by_cases h0 : T.getD i 0 = 0
    · rw [if_pos h0, h0, inner_zero]
    · rw [if_neg h0]
      rcases hin i with h1 | h1
      · exact absurd h1 h0
      · rw [cnt_list (fun (f : Int) (s : List Int) (c : List Int → Option (List Int)) => if 0 ≤ (IntKind.wrap .i64 ((i : Int) + f)) then if (IntKind.wrap .i64 ((i : Int) + f)) < 121 then c (s.set (IntKind.wrap .i64 ((i : Int) + f)).toNat (IntKind.wrap .i64 ((s.getD (IntKind.wrap .i64 ((i : Int) + f)).toNat 0) + T.getD i 0))) else none else none) d 0 (by rw [hd.1]; rfl) (fun _ _ _ _ _ => rfl)]
        exact inner_run i (T.getD i 0) (h.nn i) (by omega) c' d s h1 hl hn (by rw [hd.1]; omega)
theorem lrun_conv {F : List Int → List Int → (List Int → Option (List Int)) → Option (List Int)} (hF : ∀ (m : Nat) (T d : List Int) c, Tab m T → m ≤ 3 → Die d → F d T c = c (conv T d)) : ∀ (x : List (List Int)) (m : Nat) (T : List Int), Tab m T → m + x.length ≤ 4 → (∀ d ∈ x, Die d) → lrun F some x T = some (x.foldl conv T) ∧ Tab (m + x.length) (x.foldl conv T)
  | [], m, T, h, _, _ => ⟨rfl, h⟩
  | d :: x, m, T, h, hm, hx => by
    have hd := hx d (by simp)
    simp only [List.length_cons] at hm ⊢
    obtain ⟨a1, a2⟩ := lrun_conv hF x (m + 1) (conv T d) (tab_conv h (by omega) hd.1 hd.2).1 (by omega) (fun q hq => hx q (by simp [hq]))
    refine ⟨?_, by rw [show m + (x.length + 1) = m + 1 + x.length by omega]; exact a2⟩
    show F d T (fun s => lrun F some x s) = _
    rw [hF m T d _ h (by omega) hd, a1]
    rfl
def tabOf (x : List (List Int)) : List Int := x.foldl conv ((List.replicate 121 (0 : Int)).set 0 1)
end Go.GA
