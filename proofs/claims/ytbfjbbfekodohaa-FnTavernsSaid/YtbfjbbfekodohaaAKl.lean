/- Plain law of FnTaverns: comparisons, rounds of tasks. -/
import Derived.Test.YtbfjbbfekodohaaAKk
namespace Go.GA
open Go
set_option maxRecDepth 100000
theorem rDice_self (x : List (List Int)) : p_laws_rDice x x = true := by
  unfold p_laws_rDice
  rw [if_pos rfl]
  have key : ∀ (d : Nat) (i : Int), cnt (fun i5 (s4 : Unit) c6 _ => (if (x.getD i5.toNat (List.replicate 6 0)) = (x.getD i5.toNat (List.replicate 6 0)) then c6 () else false)) (fun i5 (s4 : Unit) => true) d i () = true := by
    intro d
    induction d with
    | zero => intro i; rfl
    | succ d ih => intro i; exact (if_pos (show x.getD i.toNat (List.replicate 6 0) = x.getD i.toNat (List.replicate 6 0) from rfl)).trans (ih (i + 1))
  exact key _ _
theorem rInts_self (x : List Int) : p_laws_rInts x x = true := by
  unfold p_laws_rInts
  rw [if_pos rfl]
  have key : ∀ (d : Nat) (i : Int), cnt (fun i5 (s4 : Unit) c6 _ => (if (x.getD i5.toNat 0) = (x.getD i5.toNat 0) then c6 () else false)) (fun i5 (s4 : Unit) => true) d i () = true := by
    intro d
    induction d with
    | zero => intro i; rfl
    | succ d ih => intro i; exact (if_pos (show x.getD i.toNat 0 = x.getD i.toNat 0 from rfl)).trans (ih (i + 1))
  exact key _ _
theorem rTavern_self (x : Tav) : p_laws_rTavern (x.1, (x.2.1, (x.2.2.1, (x.2.2.2.1, (x.2.2.2.2.1, (x.2.2.2.2.2.1, ())))))) (x.1, (x.2.1, (x.2.2.1, (x.2.2.2.1, (x.2.2.2.2.1, (x.2.2.2.2.2.1, ())))))) = true := by
  unfold p_laws_rTavern
  rw [rDice_self, rInts_self]
  simp
theorem noTav_bad : tavOK noTav = false := by decide
theorem new_form {p : List (List Int)} {seed : Int} {fu : Nat} (h6 : Six p) (hl : p.length ≤ 5) (hf : 10000000 ≤ fu) : ∃ (t : Tav) (b : Bool), p_impl_NewTavern fu p seed = some (t, b) ∧ p_spec_NewTavern p seed = some (t, b) ∧ t.2.2.1.length ≤ 1048576 ∧ tavOK t = b := by
  unfold p_spec_NewTavern p_impl_NewTavern p_slices_Clone_6_int_6_int
  rw [if_pos (by omega)]
  simp only [List.nil_append, Option.bind_some]
  have e1 : p_spec_l12Good (p, (seed, ([], (0, (0, (0, ())))))) = some (tavOK (p, (seed, ([], (0, (0, (0, ()))))))) := good_eq h6
  have e2 : p_impl_IsTavern fu (p, (seed, ([], (0, (0, (0, ())))))) = some (tavOK (p, (seed, ([], (0, (0, (0, ()))))))) := isTavern_eq (by simp) hf
  rw [e1, e2]
  simp only [Option.bind_some]
  cases hk : tavOK (p, (seed, ([], (0, (0, (0, ())))))) with
  | false => exact ⟨noTav, false, rfl, rfl, by simp [noTav], noTav_bad⟩
  | true =>
    have e3 := spec_own (x := (p, (seed, ([], (0, (0, (0, ()))))))) (by show p.length ≤ 1048576; omega) (by simp)
    refine ⟨(p, (seed, ([], (0, (0, (0, ())))))), true, rfl, ?_, by simp, hk⟩
    rw [if_pos rfl, e3]; rfl
abbrev St6 : Type := List (List Int) × Int × List Int × Int × Int × Int
def t6 (s : St6) : Tav := (s.1, (s.2.1, (s.2.2.1, (s.2.2.2.1, (s.2.2.2.2.1, (s.2.2.2.2.2, ()))))))
theorem rounds {xs : List Tsk} {fu : Nat} (hf : 10000000 ≤ fu) {t : Tav} {n : Int} {k309 : St6 → Option Bool} {Fi : Int → (Int × Int × Int × Int × List (List Int) × List Int) → ((Int × Int × Int × Int × List (List Int) × List Int) → Option (Tav × Int × Bool)) → (Int → (Int × Int × Int × Int × List (List Int) × List Int) → Option (Tav × Int × Bool)) → Option (Tav × Int × Bool)}
    {Fl : Int → St6 → (St6 → Option Bool) → (Int → St6 → Option Bool) → Option Bool}
    (hi : ∀ i7 s6 c8 k, Fi i7 s6 c8 k = (p_impl_Tavern_done fu (tavOf s6) (xs.getD i7.toNat (0, (0, (0, ()))))).bind (fun r13 => (if r13.2 = true then c8 (r13.1.2.1, r13.1.2.2.2.1, r13.1.2.2.2.2.1, r13.1.2.2.2.2.2.1, r13.1.1, r13.1.2.2.1) else some (tavOf s6, i7, true))))
    (hF : ∀ i313 s312 c314 k, Fl i313 s312 c314 k = (p_impl_DoTask fu (t6 s312) (xs.getD i313.toNat (0, (0, (0, ()))))).bind (fun r319 => (if (r319.2 != (decide (i313 < n))) = true then some false else (if r319.2 = true then c314 (r319.1.1, r319.1.2.1, r319.1.2.2.1, r319.1.2.2.2.1, r319.1.2.2.2.2.1, r319.1.2.2.2.2.2.1) else k309 (s312.1, s312.2.1, s312.2.2.1, s312.2.2.2.1, s312.2.2.2.2.1, s312.2.2.2.2.2))))) :
    ∀ (d i : Nat) (s : Int × Int × Int × Int × List (List Int) × List Int), d + i = xs.length → tavOK (tavOf s) = true → Six s.2.2.2.2.1 → s.2.2.2.2.2.length ≤ 1048576 →
      cnt Fi (fun i7 s6 => some (tavOf s6, (xs.length : Int), true)) d (i : Int) s = some (t, n, true) →
      (i : Int) ≤ n ∧ cnt Fl (fun i313 s312 => k309 (s312.1, s312.2.1, s312.2.2.1, s312.2.2.2.1, s312.2.2.2.2.1, s312.2.2.2.2.2)) d (i : Int) (s.2.2.2.2.1, s.1, s.2.2.2.2.2, s.2.1, s.2.2.1, s.2.2.2.1) = k309 (t.1, t.2.1, t.2.2.1, t.2.2.2.1, t.2.2.2.2.1, t.2.2.2.2.2.1)
  | 0, i, s, h, ok, h6, hl, e => by
    have e' := Option.some.inj e
    simp only [Prod.mk.injEq] at e'
    obtain ⟨rfl, rfl, _⟩ := e'
    exact ⟨by omega, rfl⟩
  | d + 1, i, s, h, ok, h6, hl, e => by
    have ih := fun i s => rounds (t := t) (n := n) (k309 := k309) hf hi hF d i s
    have es : cnt Fi (fun i7 s6 => some (tavOf s6, (xs.length : Int), true)) (d + 1) (i : Int) s = Fi (i : Int) s (fun s' => cnt Fi (fun i7 s6 => some (tavOf s6, (xs.length : Int), true)) d ((i : Int) + 1) s') (fun i7 s6 => some (tavOf s6, (xs.length : Int), true)) := rfl
    obtain ⟨tt, b, _, d2, g6, gp, gl, gok⟩ := do_eq (x := tavOf s) (tk := xs.getD (i : Int).toNat (0, (0, (0, ())))) ok h6 hf
    rw [es, hi, d2, Option.bind_some] at e
    have el : cnt Fl (fun i313 s312 => k309 (s312.1, s312.2.1, s312.2.2.1, s312.2.2.2.1, s312.2.2.2.2.1, s312.2.2.2.2.2)) (d + 1) (i : Int) (s.2.2.2.2.1, s.1, s.2.2.2.2.2, s.2.1, s.2.2.1, s.2.2.2.1) = Fl (i : Int) (s.2.2.2.2.1, s.1, s.2.2.2.2.2, s.2.1, s.2.2.1, s.2.2.2.1) (fun s' => cnt Fl (fun i313 s312 => k309 (s312.1, s312.2.1, s312.2.2.1, s312.2.2.2.1, s312.2.2.2.2.1, s312.2.2.2.2.2)) d ((i : Int) + 1) s') (fun i313 s312 => k309 (s312.1, s312.2.1, s312.2.2.1, s312.2.2.2.1, s312.2.2.2.2.1, s312.2.2.2.2.2)) := rfl
    have ed : p_impl_DoTask fu (t6 (s.2.2.2.2.1, s.1, s.2.2.2.2.2, s.2.1, s.2.2.1, s.2.2.2.1)) (xs.getD (i : Int).toNat (0, (0, (0, ())))) = some (tt, b) := (task_done (x := tavOf s) hl hf ok).trans d2
    rw [el, hF, ed, Option.bind_some]
    cases b with
    | true =>
      rw [if_pos rfl] at e
      rw [show (i : Int) + 1 = ((i + 1 : Nat) : Int) from rfl] at e ⊢
      obtain ⟨hn, hr⟩ := ih (i + 1) (tt.2.1, tt.2.2.2.1, tt.2.2.2.2.1, tt.2.2.2.2.2.1, tt.1, tt.2.2.1) (by omega) (gok rfl) g6 (Nat.le_trans gl (by omega)) e
      refine ⟨by omega, ?_⟩
      rw [decide_eq_true (show (i : Int) < n by omega), if_neg (by simp), if_pos rfl]
      exact hr
    | false =>
      rw [if_neg (by simp)] at e
      have e' := Option.some.inj e
      simp only [Prod.mk.injEq] at e'
      obtain ⟨rfl, rfl, _⟩ := e'
      refine ⟨by omega, ?_⟩
      rw [decide_eq_false (show ¬ (i : Int) < (i : Int) by omega), if_neg (by simp), if_neg (by simp)]
      rfl
end Go.GA
