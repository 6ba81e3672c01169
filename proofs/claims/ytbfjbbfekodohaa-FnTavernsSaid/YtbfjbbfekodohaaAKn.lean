/- Plain law of FnTaverns. -/
import Derived.Test.YtbfjbbfekodohaaAKm
namespace Go.GA
open Go
set_option maxRecDepth 100000
theorem pure_FnTaverns {x : List Int} (o : OkT (.slice (.int .u8)) x) : ∃ fu, p_laws_FnTaverns fu x = some true := by
  refine ⟨10000000000, ?_⟩
  generalize hf0 : 10000000000 = fu
  have hf : 10000000 ≤ fu := by omega
  have hx : Bytes x := fun b hb => by
    have h : (Lit.int .u8 b).wf = true := o.2 b hb
    simp only [Lit.wf, Bool.and_eq_true, decide_eq_true_eq] at h
    have e1 : IntKind.u8.min = 0 := by decide
    have e2 : IntKind.u8.max = 255 := by decide
    rw [e1, e2] at h
    exact h
  clear hf0
  unfold p_laws_FnTaverns
  by_cases hb : p_laws_rBig x = true
  · rw [if_pos hb]
  rw [if_neg hb]
  clear hb
  obtain ⟨p0, sd0, e0, h60, hp0⟩ := drawNew_ok hx hf
  obtain ⟨t0, b0, e1, e2, hl0, hb0⟩ := new_form (seed := sd0) h60 hp0 hf
  rw [e0, Option.bind_some]
  dsimp only
  rw [e1, e2, Option.bind_some, Option.bind_some]
  dsimp only
  have g0 : p_impl_IsTavern fu (t0.1, (t0.2.1, (t0.2.2.1, (t0.2.2.2.1, (t0.2.2.2.2.1, (t0.2.2.2.2.2.1, ())))))) = some (tavOK t0) := isTavern_eq hl0 hf
  rw [g0, rTavern_self, hb0, if_pos (by intro _; rfl), if_neg (by simp)]
  clear g0 e0 e1 e2 hb0
  obtain ⟨y1, c1, hy1⟩ := cut_ok hx (n := 1) (by omega)
  rw [c1, Option.bind_some]
  obtain ⟨t, tk, d1, h6, hp, hl⟩ := drawTask_ok hy1 hf
  rw [d1, Option.bind_some]
  dsimp only
  obtain ⟨t1, b1, q1, q2, _⟩ := task_eq (tk := tk) h6 (show t.2.2.1.length ≤ 1048576 by omega) hf
  have q1' : p_spec_DoTask fu (t.1, (t.2.1, (t.2.2.1, (t.2.2.2.1, (t.2.2.2.2.1, (t.2.2.2.2.2.1, ())))))) (tk.1, (tk.2.1, (tk.2.2.1, ()))) = some (t1, b1) := q1
  have q2' : p_impl_DoTask fu (t.1, (t.2.1, (t.2.2.1, (t.2.2.2.1, (t.2.2.2.2.1, (t.2.2.2.2.2.1, ())))))) (tk.1, (tk.2.1, (tk.2.2.1, ()))) = some (t1, b1) := q2
  rw [q2', q1', Option.bind_some, Option.bind_some]
  dsimp only
  have g1 : p_impl_IsTavern fu (t.1, (t.2.1, (t.2.2.1, (t.2.2.2.1, (t.2.2.2.2.1, (t.2.2.2.2.2.1, ())))))) = some (tavOK t) := isTavern_eq (x := t) (by omega) hf
  have g2 : p_spec_IsTavern (t.1, (t.2.1, (t.2.2.1, (t.2.2.2.1, (t.2.2.2.2.1, (t.2.2.2.2.2.1, ())))))) = some (tavOK t) := by
    unfold p_spec_IsTavern
    show (p_spec_l12Good t).bind _ = _
    rw [good_eq h6]; rfl
  rw [rTavern_self, g1, g2, if_pos (by intro _; rfl), if_pos (by intro _; rfl), if_neg (by simp)]
  obtain ⟨y2, c2, hy2⟩ := cut_ok hx (n := 2) (by omega)
  rw [c2, Option.bind_some]
  obtain ⟨u, us, d2, u6, up, ul⟩ := drawTasks_ok hy2 hf
  rw [d2, Option.bind_some]
  dsimp only
  obtain ⟨t2, n, b2, r1, r2, _⟩ := tasks_eq (x := u) (xs := us) u6 (by omega) (by omega) hf
  have r1' : p_spec_DoTasks fu (u.1, (u.2.1, (u.2.2.1, (u.2.2.2.1, (u.2.2.2.2.1, (u.2.2.2.2.2.1, ())))))) us = some (t2, n, b2) := r1
  have r2' : p_impl_DoTasks fu (u.1, (u.2.1, (u.2.2.1, (u.2.2.2.1, (u.2.2.2.2.1, (u.2.2.2.2.2.1, ())))))) us = some (t2, n, b2) := r2
  rw [r2', r1', Option.bind_some, Option.bind_some]
  dsimp only
  rw [rTavern_self, if_neg (by simp)]
  have s1 : p_impl_LastSum fu (u.1, (u.2.1, (u.2.2.1, (u.2.2.2.1, (u.2.2.2.2.1, (u.2.2.2.2.2.1, ())))))) = _ := last_form (x := u) (by omega) hf
  have s2 : p_spec_LastSum (u.1, (u.2.1, (u.2.2.1, (u.2.2.2.1, (u.2.2.2.2.1, (u.2.2.2.2.2.1, ())))))) = _ := (last_spec2 (x := u) (fu := fu) u6 (by omega) hf).trans (last_form (x := u) (by omega) hf)
  rw [s1, s2, Option.bind_some, Option.bind_some, if_neg (by simp)]
  have ht := tail_ok (r33 := (t, tk)) (r34 := (t1, b1)) hf h6 (by show t.2.2.1.length ≤ _; omega) q2
  dsimp only at ht
  unfold jn at ht ⊢
  dsimp only at ht ⊢
  rw [ht]
  by_cases hb2 : b2 = true
  · rw [if_pos hb2]
    subst hb2
    have ok : tavOK u = true := by
      unfold p_impl_DoTasks at r2
      have e2 : p_impl_IsTavern fu (u.1, (u.2.1, (u.2.2.1, (u.2.2.2.1, (u.2.2.2.2.1, (u.2.2.2.2.2.1, ())))))) = some (tavOK u) := isTavern_eq (x := u) (by omega) hf
      rw [e2, Option.bind_some] at r2
      by_cases q : tavOK u = true
      · exact q
      · rw [if_neg q] at r2; cases r2
    have e2 : p_impl_IsTavern fu (u.1, (u.2.1, (u.2.2.1, (u.2.2.2.1, (u.2.2.2.2.1, (u.2.2.2.2.2.1, ())))))) = some (tavOK u) := isTavern_eq (x := u) (by omega) hf
    unfold p_impl_DoTasks at r2
    rw [e2, Option.bind_some, if_pos ok, impl_own (x := u) (by omega) (by omega), Option.bind_some] at r2
    have hd : Int.toNat ((us.length : Int) - 0) = us.length := by omega
    rw [hd] at r2 ⊢
    obtain ⟨_, hfin⟩ := rounds (xs := us) (t := t2) (n := n) (k309 := fun s308 => if p_laws_rTavern (s308.1, (s308.2.1, (s308.2.2.1, (s308.2.2.2.1, (s308.2.2.2.2.1, (s308.2.2.2.2.2, ())))))) (t2.1, (t2.2.1, (t2.2.2.1, (t2.2.2.2.1, (t2.2.2.2.2.1, (t2.2.2.2.2.2.1, ())))))) = true then some true else some false) hf (fun _ _ _ _ => rfl) (fun _ _ _ _ => rfl) us.length 0 (u.2.1, u.2.2.2.1, u.2.2.2.2.1, u.2.2.2.2.2.1, u.1, u.2.2.1) (by omega) ok u6 (by show u.2.2.1.length ≤ _; omega) r2
    refine Eq.trans hfin ?_
    dsimp only
    rw [rTavern_self, if_pos rfl]
  · rw [if_neg hb2]
end Go.GA
