/- Plain law of DoTasks. -/
import Derived.Test.YtbfjbbfekodohaaAKg
namespace Go.GA
open Go
set_option maxRecDepth 100000
def tavOf (s : Int × Int × Int × Int × List (List Int) × List Int) : Tav := (s.2.2.2.2.1, (s.1, (s.2.2.2.2.2, (s.2.1, (s.2.2.1, (s.2.2.2.1, ()))))))
theorem tasks_run (xs : List Tsk) {fu : Nat} (hf : 10000000 ≤ fu) {Fs Fi : Int → (Int × Int × Int × Int × List (List Int) × List Int) → ((Int × Int × Int × Int × List (List Int) × List Int) → Option (Tav × Int × Bool)) → (Int → (Int × Int × Int × Int × List (List Int) × List Int) → Option (Tav × Int × Bool)) → Option (Tav × Int × Bool)}
    (hs : ∀ i7 s6 c8 k, Fs i7 s6 c8 k = (p_spec_l12Do fu (tavOf s6) (xs.getD i7.toNat (0, (0, (0, ()))))).bind (fun r13 => (if r13.2 = true then c8 (r13.1.2.1, r13.1.2.2.2.1, r13.1.2.2.2.2.1, r13.1.2.2.2.2.2.1, r13.1.1, r13.1.2.2.1) else some (tavOf s6, i7, true))))
    (hi : ∀ i7 s6 c8 k, Fi i7 s6 c8 k = (p_impl_Tavern_done fu (tavOf s6) (xs.getD i7.toNat (0, (0, (0, ()))))).bind (fun r13 => (if r13.2 = true then c8 (r13.1.2.1, r13.1.2.2.2.1, r13.1.2.2.2.2.1, r13.1.2.2.2.2.2.1, r13.1.1, r13.1.2.2.1) else some (tavOf s6, i7, true)))) :
    ∀ (d : Nat) (i : Int) (s : Int × Int × Int × Int × List (List Int) × List Int), tavOK (tavOf s) = true → Six s.2.2.2.2.1 → s.2.2.2.2.1.length ≤ 1048576 → s.2.2.2.2.2.length ≤ 1048576 → ∃ (t : Tav) (n : Int),
      cnt Fs (fun i7 s6 => some (tavOf s6, (xs.length : Int), true)) d i s = some (t, n, true) ∧ cnt Fi (fun i7 s6 => some (tavOf s6, (xs.length : Int), true)) d i s = some (t, n, true) ∧ Six t.1 ∧ t.1.length ≤ 1048576 ∧ t.2.2.1.length ≤ 1048576
  | 0, i, s, ok, h6, hp, hl => ⟨tavOf s, xs.length, rfl, rfl, h6, hp, hl⟩
  | d + 1, i, s, ok, h6, hp, hl => by
    have ih := fun i s => tasks_run xs hf hs hi d i s
    show ∃ t n, Fs i s (fun s' => cnt Fs _ d (i + 1) s') _ = _ ∧ Fi i s (fun s' => cnt Fi _ d (i + 1) s') _ = _ ∧ _
    obtain ⟨t, b, d1, d2, g6, gp, gl, gok⟩ := do_eq (x := tavOf s) (tk := xs.getD i.toNat (0, (0, (0, ())))) ok h6 hf
    rw [hs, hi, d1, d2, Option.bind_some, Option.bind_some]
    cases b with
    | false =>
      rw [if_neg (by simp), if_neg (by simp)]
      exact ⟨tavOf s, i, rfl, rfl, h6, hp, hl⟩
    | true =>
      rw [if_pos rfl, if_pos rfl]
      exact ih (i + 1) (t.2.1, t.2.2.2.1, t.2.2.2.2.1, t.2.2.2.2.2.1, t.1, t.2.2.1) (gok rfl) g6 (by show t.1.length ≤ _; omega) (by show t.2.2.1.length ≤ _; omega)
theorem tasks_eq {x : Tav} {xs : List Tsk} {fu : Nat} (h6 : Six x.1) (h1 : x.1.length ≤ 1048576) (h2 : x.2.2.1.length ≤ 1048576) (hf : 10000000 ≤ fu) : ∃ (t : Tav) (n : Int) (b : Bool), p_spec_DoTasks fu x xs = some (t, n, b) ∧ p_impl_DoTasks fu x xs = some (t, n, b) ∧ Six t.1 ∧ t.1.length ≤ 1048576 ∧ t.2.2.1.length ≤ 1048576 := by
  unfold p_spec_DoTasks p_impl_DoTasks
  have e1 : p_spec_l12Good (x.1, (x.2.1, (x.2.2.1, (x.2.2.2.1, (x.2.2.2.2.1, (x.2.2.2.2.2.1, ())))))) = some (tavOK x) := good_eq h6
  have e2 : p_impl_IsTavern fu (x.1, (x.2.1, (x.2.2.1, (x.2.2.2.1, (x.2.2.2.2.1, (x.2.2.2.2.2.1, ())))))) = some (tavOK x) := isTavern_eq h2 hf
  rw [e1, e2, Option.bind_some, Option.bind_some]
  cases ok : tavOK x with
  | false =>
    rw [if_neg (by simp), if_neg (by simp)]
    exact ⟨noTav, 0, false, rfl, rfl, (fun d hd => nomatch hd), by simp [noTav], by simp [noTav]⟩
  | true =>
    rw [if_pos rfl, if_pos rfl, spec_own h1 h2, impl_own h1 h2, Option.bind_some, Option.bind_some]
    obtain ⟨t, n, r1, r2, g6, gp, gl⟩ := tasks_run xs hf (Fs := fun i7 s6 c8 _ => (p_spec_l12Do fu (tavOf s6) (xs.getD i7.toNat (0, (0, (0, ()))))).bind (fun r13 => (if r13.2 = true then c8 (r13.1.2.1, r13.1.2.2.2.1, r13.1.2.2.2.2.1, r13.1.2.2.2.2.2.1, r13.1.1, r13.1.2.2.1) else some (tavOf s6, i7, true))))
      (Fi := fun i7 s6 c8 _ => (p_impl_Tavern_done fu (tavOf s6) (xs.getD i7.toNat (0, (0, (0, ()))))).bind (fun r13 => (if r13.2 = true then c8 (r13.1.2.1, r13.1.2.2.2.1, r13.1.2.2.2.2.1, r13.1.2.2.2.2.2.1, r13.1.1, r13.1.2.2.1) else some (tavOf s6, i7, true)))) (fun _ _ _ _ => rfl) (fun _ _ _ _ => rfl) (Int.toNat ((xs.length : Int) - 0)) 0 (x.2.1, x.2.2.2.1, x.2.2.2.2.1, x.2.2.2.2.2.1, x.1, x.2.2.1) ok h6 h1 h2
    exact ⟨t, n, true, r1, r2, g6, gp, gl⟩
end Go.GA
