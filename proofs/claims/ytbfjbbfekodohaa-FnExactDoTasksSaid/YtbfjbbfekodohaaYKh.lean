/- Plain law of DoTasks. -/
import Derived.Test.YtbfjbbfekodohaaYKg
namespace Go.GA
open Go
set_option maxRecDepth 100000
theorem toTaskS_eq {x : List Tsk} (hl : x.length ≤ 1000000000) : p_laws_toTaskS x = some x := by
  unfold p_laws_toTaskS
  rw [if_pos (by omega), cnt_iter]
  have := iter_copyF p_laws_toTask x (0, (0, (0, ()))) (fun i hi => rfl) x.length 0 (List.replicate x.length (0, (0, (0, ())))) (by omega) (by simp) (by simp)
  simp only [Int.natCast_zero] at this
  rw [show Int.toNat ((x.length : Int) - 0) = x.length by omega, show ((x.length : Int)).toNat = x.length by omega, this]
theorem eqTask_self (x : Tsk) : p_laws_eqTask x x = true := by
  unfold p_laws_eqTask
  simp
theorem eqTaskS_self (x : List Tsk) : p_laws_eqTaskS x x = true := by
  unfold p_laws_eqTaskS
  rw [if_pos rfl]
  have key : ∀ (d : Nat) (i : Int), cnt (fun i5 (s4 : Unit) c6 _ => (if (p_laws_eqTask (x.getD i5.toNat (0, (0, (0, ())))) (x.getD i5.toNat (0, (0, (0, ()))))) = true then c6 () else false)) (fun i5 (s4 : Unit) => true) d i () = true := by
    intro d
    induction d with
    | zero => intro i; rfl
    | succ d ih => intro i; simp only [cnt]; rw [if_pos (eqTask_self _)]; exact ih (i + 1)
  exact key _ _
theorem szTaskS_cases (x : List Tsk) (k : Int) (hl : x.length ≤ lim) (hk : 0 ≤ k) (hk2 : k ≤ 1048576) : p_laws_szTaskS x k < 0 ∨ (x.length ≤ 1048576 ∧ ¬ p_laws_szTaskS x k < 0) := by
  have hl' : (x.length : Int) ≤ 9223372036854775807 := by unfold lim at hl; omega
  unfold p_laws_szTaskS
  rw [szS_ok (by omega) hl' hk hk2]
  by_cases h : k - (x.length : Int) < 0
  · left; rw [if_pos h]; omega
  · right; rw [if_neg h]; omega
theorem szTavern_le (x : Tav) (hl : x.1.length ≤ lim) (hl2 : x.2.2.1.length ≤ lim) : p_laws_szTavern x 1048576 ≤ 1048576 := by
  unfold p_laws_szTavern
  rcases szA6S_cases x.1 1048576 hl (by omega) (by omega) with h | ⟨h1, h2⟩
  · rw [if_pos h]; omega
  · rw [if_neg (by omega)]
    rcases szS_cases x.2.2.1 (p_laws_szIntA6S x.1 1048576) hl2 (by omega) (by omega) with h3 | ⟨h3, h4⟩
    · rw [if_pos h3]; omega
    · rw [if_neg (by omega)]; omega
theorem iter_three {α : Type} (rest : Int → Int × α → α) : ∀ (d : Nat) (i : Int) (s : Int × α), 0 ≤ s.1 → s.1 + 3 * d ≤ 1000000000000 →
    (iter (fun i (s : Int × α) => ((IntKind.wrap .i64 ((IntKind.wrap .i64 ((IntKind.wrap .i64 (s.1 + 1)) + 1)) + 1)), rest i s)) d i s).1 = s.1 + 3 * d
  | 0, i, s, h1, h2 => by simp [iter]
  | d + 1, i, s, h1, h2 => by
    simp only [iter]
    rw [wrap_i64 (n := s.1 + 1) (by omega) (by omega), wrap_i64 (n := s.1 + 1 + 1) (by omega) (by omega), wrap_i64 (n := s.1 + 1 + 1 + 1) (by omega) (by omega), iter_three rest d (i + 1) _ (by show 0 ≤ s.1 + 1 + 1 + 1; omega) (by show s.1 + 1 + 1 + 1 + 3 * (d : Int) ≤ _; omega)]
    show s.1 + 1 + 1 + 1 + 3 * (d : Int) = _
    omega
theorem markTaskS_pos {x : List Tsk} {k : Int} (hl : x.length ≤ 1048576) (h0 : 0 ≤ k) (h1 : k ≤ 100000000) : ¬ (p_laws_markTaskS x k).1 < 0 := by
  unfold p_laws_markTaskS
  rw [cnt_iter]
  dsimp only
  rw [iter_three (fun i2 (s1 : Int × List Tsk) => _) _ _ _ h0 (by show k + 3 * _ ≤ _; omega)]
  show ¬ k + 3 * _ < 0
  omega
def tavOf (s : Int × Int × Int × Int × List (List Int) × List Int) : Tav := (s.2.2.2.2.1, (s.1, (s.2.2.2.2.2, (s.2.1, (s.2.2.1, (s.2.2.2.1, ()))))))
theorem tasks_run (xs : List Tsk) {fu : Nat} (hf : 10000000 ≤ fu) {Fs Fi : Int → (Int × Int × Int × Int × List (List Int) × List Int) → ((Int × Int × Int × Int × List (List Int) × List Int) → Option (Tav × Int × Bool)) → (Int → (Int × Int × Int × Int × List (List Int) × List Int) → Option (Tav × Int × Bool)) → Option (Tav × Int × Bool)}
    (hs : ∀ i7 s6 c8 k, Fs i7 s6 c8 k = (p_spec_l12Do fu (tavOf s6) (xs.getD i7.toNat (0, (0, (0, ()))))).bind (fun r13 => (if r13.2 = true then c8 (r13.1.2.1, r13.1.2.2.2.1, r13.1.2.2.2.2.1, r13.1.2.2.2.2.2.1, r13.1.1, r13.1.2.2.1) else some (tavOf s6, i7, true))))
    (hi : ∀ i7 s6 c8 k, Fi i7 s6 c8 k = (p_impl_Tavern_done fu (tavOf s6) (xs.getD i7.toNat (0, (0, (0, ()))))).bind (fun r13 => (if r13.2 = true then c8 (r13.1.2.1, r13.1.2.2.2.1, r13.1.2.2.2.2.1, r13.1.2.2.2.2.2.1, r13.1.1, r13.1.2.2.1) else some (tavOf s6, i7, true)))) :
    ∀ (d : Nat) (i : Int) (s : Int × Int × Int × Int × List (List Int) × List Int), tavOK (tavOf s) = true → Six s.2.2.2.2.1 → s.2.2.2.2.1.length ≤ 1048576 → s.2.2.2.2.2.length ≤ 1048576 → ∃ (t : Tav) (n : Int),
      cnt Fs (fun i7 s6 => some (tavOf s6, (xs.length : Int), true)) d i s = some (t, n, true) ∧ cnt Fi (fun i7 s6 => some (tavOf s6, (xs.length : Int), true)) d i s = some (t, n, true) ∧ Six t.1 ∧ t.1.length ≤ 1048576 ∧ t.2.2.1.length ≤ 1048576
  | 0, i, s, ok, h6, hp, hl => ⟨tavOf s, xs.length, rfl, rfl, h6, hp, hl⟩
  | d + 1, i, s, ok, h6, hp, hl => by
    have ih := fun i s => tasks_run xs hf hs hi d i s
    show ∃ t n, Fs i s (fun s' => cnt Fs _ d (i + 1) s') _ = _ ∧ Fi i s (fun s' => cnt Fi _ d (i + 1) s') _ = _ ∧ _
    obtain ⟨t, b, d1, d2, g6, gp, gl, gok⟩ := do_eq (x := tavOf s) (tk := xs.getD i.toNat (0, (0, (0, ())))) ok h6 hf
    rw [hs, hi, d1, d2, Option.bind_some, Option.bind_some]
    cases b with
    | false =>
      rw [if_neg (by simp), if_neg (by simp)]
      exact ⟨tavOf s, i, rfl, rfl, h6, hp, hl⟩
    | true =>
      rw [if_pos rfl, if_pos rfl]
      exact ih (i + 1) (t.2.1, t.2.2.2.1, t.2.2.2.2.1, t.2.2.2.2.2.1, t.1, t.2.2.1) (gok rfl) g6 (by show t.1.length ≤ _; omega) (by show t.2.2.1.length ≤ _; omega)
theorem tasks_eq {x : Tav} {xs : List Tsk} {fu : Nat} (h6 : Six x.1) (h1 : x.1.length ≤ 1048576) (h2 : x.2.2.1.length ≤ 1048576) (hf : 10000000 ≤ fu) : ∃ (t : Tav) (n : Int) (b : Bool), p_spec_DoTasks fu x xs = some (t, n, b) ∧ p_impl_DoTasks fu x xs = some (t, n, b) ∧ Six t.1 ∧ t.1.length ≤ 1048576 ∧ t.2.2.1.length ≤ 1048576 := by
  unfold p_spec_DoTasks p_impl_DoTasks
  have e1 : p_spec_l12Good (x.1, (x.2.1, (x.2.2.1, (x.2.2.2.1, (x.2.2.2.2.1, (x.2.2.2.2.2.1, ())))))) = some (tavOK x) := good_eq h6
  have e2 : p_impl_IsTavern fu (x.1, (x.2.1, (x.2.2.1, (x.2.2.2.1, (x.2.2.2.2.1, (x.2.2.2.2.2.1, ())))))) = some (tavOK x) := isTavern_eq h2 hf
  rw [e1, e2, Option.bind_some, Option.bind_some]
  cases ok : tavOK x with
  | false =>
    rw [if_neg (by simp), if_neg (by simp)]
    exact ⟨noTav, 0, false, rfl, rfl, (fun d hd => nomatch hd), by simp [noTav], by simp [noTav]⟩
  | true =>
    rw [if_pos rfl, if_pos rfl, spec_own h1 h2, impl_own h1 h2, Option.bind_some, Option.bind_some]
    obtain ⟨t, n, r1, r2, g6, gp, gl⟩ := tasks_run xs hf (Fs := fun i7 s6 c8 _ => (p_spec_l12Do fu (tavOf s6) (xs.getD i7.toNat (0, (0, (0, ()))))).bind (fun r13 => (if r13.2 = true then c8 (r13.1.2.1, r13.1.2.2.2.1, r13.1.2.2.2.2.1, r13.1.2.2.2.2.2.1, r13.1.1, r13.1.2.2.1) else some (tavOf s6, i7, true))))
      (Fi := fun i7 s6 c8 _ => (p_impl_Tavern_done fu (tavOf s6) (xs.getD i7.toNat (0, (0, (0, ()))))).bind (fun r13 => (if r13.2 = true then c8 (r13.1.2.1, r13.1.2.2.2.1, r13.1.2.2.2.2.1, r13.1.2.2.2.2.2.1, r13.1.1, r13.1.2.2.1) else some (tavOf s6, i7, true)))) (fun _ _ _ _ => rfl) (fun _ _ _ _ => rfl) (Int.toNat ((xs.length : Int) - 0)) 0 (x.2.1, x.2.2.2.1, x.2.2.2.2.1, x.2.2.2.2.2.1, x.1, x.2.2.1) ok h6 h1 h2
    exact ⟨t, n, true, r1, r2, g6, gp, gl⟩
end Go.GA
