/- Plain law of DoTask. -/
import Derived.Test.YtbfjbbfekodohaaAKf
namespace Go.GA
open Go
set_option maxRecDepth 100000
abbrev Tsk : Type := Int × (Int × (Int × Unit))
theorem spec_own {x : Tav} (h1 : x.1.length ≤ 1048576) (h2 : x.2.2.1.length ≤ 1048576) : p_spec_l12Own (x.1, (x.2.1, (x.2.2.1, (x.2.2.2.1, (x.2.2.2.2.1, (x.2.2.2.2.2.1, ())))))) = some x := by
  unfold p_spec_l12Own p_spec_l2Own p_spec_l1Own
  rw [if_pos (show 0 + (x.1.length : Int) ≤ 1000000000 by omega)]
  simp only [Option.bind_some]
  rw [if_pos (show 0 + (x.2.2.1.length : Int) ≤ 1000000000 by omega)]
  rfl
theorem impl_own {x : Tav} (h1 : x.1.length ≤ 1048576) (h2 : x.2.2.1.length ≤ 1048576) : p_impl_Tavern_own (x.1, (x.2.1, (x.2.2.1, (x.2.2.2.1, (x.2.2.2.2.1, (x.2.2.2.2.2.1, ())))))) = some x := by
  unfold p_impl_Tavern_own p_slices_Clone_6_int_6_int p_slices_Clone_int_int
  rw [if_pos (show 0 + (x.1.length : Int) ≤ 1000000000 by omega)]
  simp only [Option.bind_some]
  rw [if_pos (show 0 + (x.2.2.1.length : Int) ≤ 1000000000 by omega)]
  rfl
def noTav : Tav := ([], (0, ([], (0, (0, (0, ()))))))
theorem do_eq {x : Tav} {tk : Tsk} {fu : Nat} (ok : tavOK x = true) (h6 : Six x.1) (hf : 10000000 ≤ fu) : ∃ (t : Tav) (b : Bool), p_spec_l12Do fu x tk = some (t, b) ∧ p_impl_Tavern_done fu x tk = some (t, b) ∧ Six t.1 ∧ t.1.length ≤ 5 ∧ t.2.2.1.length ≤ 5 ∧ (b = true → tavOK t = true) := by
  obtain ⟨p, sd, l, tot, best, c, ⟨⟩⟩ := x
  obtain ⟨k, A, B, ⟨⟩⟩ := tk
  obtain ⟨hp1, hp4, h1, h2, hl⟩ := tav_facts ok
  have hl5 : l.length ≤ 4 := by
    rcases hl with rfl | h
    · simp
    · omega
  have h6' : Six p := h6
  obtain ⟨y, z, e1, e2, s1, s2⟩ := turn_eq (A := A) (B := B) (tot := tot) (best := best) (c := c) hp1 hp4 h1 h2 hl h6' hf k
  have e3 := impl_own (x := (p, (sd, (l, (tot, (best, (c, ()))))))) (by show p.length ≤ 1048576; omega) (by show l.length ≤ 1048576; omega)
  unfold p_spec_l12Do p_impl_Tavern_done
  dsimp only at e3 ⊢
  rw [e3, Option.bind_some]
  dsimp only
  rw [e1, e2, Option.bind_some, Option.bind_some]
  obtain ⟨yt, yb⟩ := y
  obtain ⟨zb, s', t', b', p', l'⟩ := z
  dsimp only at s1 s2 ⊢
  subst s1
  cases yb with
  | false =>
    refine ⟨noTav, false, ?_, ?_, (fun d hd => nomatch hd), by simp [noTav], by simp [noTav], fun h => nomatch h⟩
    · rw [if_pos (by intro h; cases h), if_pos (by rfl)]; rfl
    · rw [if_pos (by intro h; cases h), if_pos (by rfl)]; rfl
  | true =>
    obtain ⟨rfl, g6, gp, gl⟩ := s2 rfl
    have e4 := good_eq (x := (p', (s', (l', (t', (b', (IntKind.wrap .i64 (c + 1), ()))))))) g6
    have e5 := isTavern_eq (fu := fu) (x := (p', (s', (l', (t', (b', (IntKind.wrap .i64 (c + 1), ()))))))) (by show l'.length ≤ 1048576; omega) hf
    have e6 := spec_own (x := (p', (s', (l', (t', (b', (IntKind.wrap .i64 (c + 1), ()))))))) (by show p'.length ≤ 1048576; omega) (by show l'.length ≤ 1048576; omega)
    have e7 := impl_own (x := (p', (s', (l', (t', (b', (IntKind.wrap .i64 (c + 1), ()))))))) (by show p'.length ≤ 1048576; omega) (by show l'.length ≤ 1048576; omega)
    dsimp only at e6 e7 ⊢
    rw [e4, e5, e6, e7]
    cases ht : tavOK (p', (s', (l', (t', (b', (IntKind.wrap .i64 (c + 1), ())))))) with
    | false =>
      refine ⟨noTav, false, ?_, ?_, (fun d hd => nomatch hd), by simp [noTav], by simp [noTav], fun h => nomatch h⟩
      · rw [if_pos (by intro h; rfl), if_pos (by rfl)]; rfl
      · rw [if_pos (by intro h; rfl), if_pos (by rfl)]; rfl
    | true =>
      refine ⟨(p', (s', (l', (t', (b', (IntKind.wrap .i64 (c + 1), ())))))), true, ?_, ?_, g6, gp, gl, fun _ => ht⟩
      · rw [if_pos (by intro h; rfl), if_neg (by simp)]; rfl
      · rw [if_pos (by intro h; rfl), if_neg (by simp)]; rfl
theorem task_eq {x : Tav} {tk : Tsk} {fu : Nat} (h6 : Six x.1) (h2 : x.2.2.1.length ≤ 1048576) (hf : 10000000 ≤ fu) : ∃ (t : Tav) (b : Bool), p_spec_DoTask fu x tk = some (t, b) ∧ p_impl_DoTask fu x tk = some (t, b) ∧ Six t.1 ∧ t.1.length ≤ 5 ∧ t.2.2.1.length ≤ 5 := by
  unfold p_spec_DoTask p_impl_DoTask
  have e1 : p_spec_l12Good (x.1, (x.2.1, (x.2.2.1, (x.2.2.2.1, (x.2.2.2.2.1, (x.2.2.2.2.2.1, ())))))) = some (tavOK x) := good_eq h6
  have e2 : p_impl_IsTavern fu (x.1, (x.2.1, (x.2.2.1, (x.2.2.2.1, (x.2.2.2.2.1, (x.2.2.2.2.2.1, ())))))) = some (tavOK x) := isTavern_eq h2 hf
  rw [e1, e2, Option.bind_some, Option.bind_some]
  cases ok : tavOK x with
  | false =>
    rw [if_neg (by simp), if_neg (by simp)]
    exact ⟨noTav, false, rfl, rfl, (fun d hd => nomatch hd), by simp [noTav], by simp [noTav]⟩
  | true =>
    obtain ⟨t, b, d1, d2, g6, gp, gl, _⟩ := do_eq (tk := tk) ok h6 hf
    have d1' : p_spec_l12Do fu (x.1, (x.2.1, (x.2.2.1, (x.2.2.2.1, (x.2.2.2.2.1, (x.2.2.2.2.2.1, ())))))) (tk.1, (tk.2.1, (tk.2.2.1, ()))) = some (t, b) := d1
    have d2' : p_impl_Tavern_done fu (x.1, (x.2.1, (x.2.2.1, (x.2.2.2.1, (x.2.2.2.2.1, (x.2.2.2.2.2.1, ())))))) (tk.1, (tk.2.1, (tk.2.2.1, ()))) = some (t, b) := d2
    rw [if_pos rfl, if_pos rfl, d1', d2', Option.bind_some]
    exact ⟨t, b, rfl, rfl, g6, gp, gl⟩
end Go.GA
