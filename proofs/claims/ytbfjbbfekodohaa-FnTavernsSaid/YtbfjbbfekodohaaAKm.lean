/- Plain law of FnTaverns: what a task that is made leaves. -/
import Derived.Test.YtbfjbbfekodohaaAKl
namespace Go.GA
open Go
set_option maxRecDepth 100000
theorem tail_ok {fu : Nat} {r33 : Tav × Tsk} {r34 : Tav × Bool} (hf : 10000000 ≤ fu) (h6 : Six r33.1.1) (hl : r33.1.2.2.1.length ≤ 1048576) (h : p_impl_DoTask fu r33.1 r33.2 = some r34) :
    (if r34.2 = true then (p_impl_IsTavern fu (r34.1.1, (r34.1.2.1, (r34.1.2.2.1, (r34.1.2.2.2.1, (r34.1.2.2.2.2.1, (r34.1.2.2.2.2.2.1, ()))))))).bind (fun r119 => (if ((!r119) || (!(decide (r34.1.2.2.2.2.2.1 = (IntKind.wrap .i64 (r33.1.2.2.2.2.2.1 + 1)))))) = true then some false else jn (fun (s130 : Unit) => (if ((decide (r33.2.1 = 4)) && (decide (r34.1.2.2.2.2.2.1 < 1000))) = true then (p_impl_DoTask fu (r34.1.1, (r34.1.2.1, (r34.1.2.2.1, (r34.1.2.2.2.1, (r34.1.2.2.2.2.1, (r34.1.2.2.2.2.2.1, ())))))) (5, (((r34.1.1.length : Int) - 1), (0, ())))).bind (fun r144 => (if ((!r144.2) || (!(p_laws_rDice r144.1.1 r33.1.1))) = true then some false else some true)) else some true)) (fun k131 => (if ((decide (r33.2.1 = 1)) || (decide (r33.2.1 = 2))) = true then (p_impl_LastSum fu (r34.1.1, (r34.1.2.1, (r34.1.2.2.1, (r34.1.2.2.2.1, (r34.1.2.2.2.2.1, (r34.1.2.2.2.2.2.1, ()))))))).bind (fun r167 => (p_impl_LastSum fu (r33.1.1, (r33.1.2.1, (r33.1.2.2.1, (r33.1.2.2.2.1, (r33.1.2.2.2.2.1, (r33.1.2.2.2.2.2.1, ()))))))).bind (fun r168 => jn (fun (s169 : Int) => (if (((((!r167.2) || (!(decide (r34.1.2.2.2.1 = (IntKind.wrap .i64 ((IntKind.wrap .i64 (r33.1.2.2.2.1 + r167.1)) - s169)))))) || (decide (r34.1.2.2.2.2.1 < r167.1))) || (decide (r34.1.2.2.2.2.1 < r33.1.2.2.2.2.1))) || (!(p_laws_rDice r34.1.1 r33.1.1))) = true then some false else k131 ())) (fun k170 => (if r33.2.1 = 1 then k170 0 else k170 r168.1)))) else k131 ())))) else some true) = some true := by
  obtain ⟨⟨p, sd, l, tot, best, c, ⟨⟩⟩, ⟨k, A, B, ⟨⟩⟩⟩ := r33
  obtain ⟨t', b⟩ := r34
  cases b with
  | false => exact if_neg (by simp)
  | true =>
    have ok : tavOK (p, (sd, (l, (tot, (best, (c, ())))))) = true := by
      rw [task_form hl hf] at h
      by_cases q : tavOK (p, (sd, (l, (tot, (best, (c, ())))))) = true
      · exact q
      · rw [if_neg q] at h; cases h
    rw [task_done hl hf ok] at h
    have h6' : Six p := h6
    obtain ⟨⟨zb, s', tt, bb, p', l'⟩, ez, hz6, ed⟩ := done_form (tk := (k, (A, (B, ())))) ok h6' hf
    rw [ed] at h
    have hzz : (zb && tavOK (T c (zb, s', tt, bb, p', l'))) = true := by
      by_cases q : (zb && tavOK (T c (zb, s', tt, bb, p', l'))) = true
      · exact q
      · rw [if_neg q] at h; cases h
    rw [if_pos hzz] at h
    have hz2 : zb = true ∧ tavOK (T c (zb, s', tt, bb, p', l')) = true := by simpa using hzz
    obtain ⟨z1, zt⟩ := hz2
    have ht' : T c (zb, s', tt, bb, p', l') = t' := by
      have := Option.some.inj h
      simp only [Prod.mk.injEq, and_true] at this
      exact this
    subst ht'
    obtain ⟨g6, gp, gl⟩ := hz6 z1
    dsimp only at z1 g6 gp gl
    obtain ⟨hp1, hp4, h1, h2, hll⟩ := tav_facts ok
    unfold T at zt
    dsimp only at zt
    have eT := isTavern_eq (fu := fu) (x := (p', (s', (l', (tt, (bb, (IntKind.wrap .i64 (c + 1), ()))))))) (by show l'.length ≤ 1048576; omega) hf
    have eL := last_form (fu := fu) (x := (p', (s', (l', (tt, (bb, (IntKind.wrap .i64 (c + 1), ()))))))) (by show l'.length ≤ 1048576; omega) hf
    have eM := last_form (fu := fu) (x := (p, (sd, (l, (tot, (best, (c, ()))))))) hl hf
    unfold T jn
    dsimp only at eL eM ⊢
    rw [if_pos rfl, eT, zt, Option.bind_some, decide_eq_true rfl, if_neg (by simp)]
    rw [zt] at eL
    rw [ok] at eM
    by_cases k1 : k = 1
    · subst k1
      obtain ⟨f1, f2, f3, f4⟩ := fact1 hp1 hp4 h1 h2 hll ez z1
      dsimp only at f1 f2 f3 f4
      subst f1
      rw [decide_eq_false (show ¬ (l'.length : Int) = 0 by omega)] at eL
      rw [if_pos (by simp), eL, eM, Option.bind_some, Option.bind_some]
      rw [if_pos rfl, if_neg, if_neg (by simp)]
      have n1 : ¬ bb < p_impl_total l' := by rw [f3]; split <;> omega
      have n2 : ¬ bb < best := by rw [f3]; split <;> omega
      rw [if_neg (by simp), decide_eq_false n1, decide_eq_false n2, rDice_self, f4, decide_eq_true rfl]
      simp
    · by_cases k2 : k = 2
      · subst k2
        obtain ⟨f0, f1, f2, f3, f4⟩ := fact2 hp1 hp4 h1 h2 hll ez z1
        dsimp only at f1 f2 f3 f4
        subst f1
        rw [decide_eq_false (show ¬ (l'.length : Int) = 0 by omega)] at eL
        rw [decide_eq_false (show ¬ (l.length : Int) = 0 by omega)] at eM
        rw [if_pos (by simp), eL, eM, Option.bind_some, Option.bind_some]
        rw [if_neg (show ¬ (2 : Int) = 1 by decide), if_neg, if_neg (by simp)]
        have n1 : ¬ bb < p_impl_total l' := by rw [f3]; split <;> omega
        have n2 : ¬ bb < best := by rw [f3]; split <;> omega
        rw [if_neg (by simp), if_neg (by simp), decide_eq_false n1, decide_eq_false n2, rDice_self, f4, decide_eq_true rfl]
        simp
      · rw [decide_eq_false k1, decide_eq_false k2, if_neg (by simp)]
        by_cases k4 : ((decide (k = 4)) && (decide ((IntKind.wrap .i64 (c + 1)) < 1000))) = true
        · rw [if_pos k4]
          have k4' : k = 4 ∧ (IntKind.wrap .i64 (c + 1)) < 1000 := by simpa using k4
          obtain ⟨rfl, hcount⟩ := k4'
          obtain ⟨q, eq⟩ := fact4 hp1 hp4 h1 h2 hll ez z1
          simp only [Prod.mk.injEq] at eq
          obtain ⟨-, rfl, rfl, rfl, rfl, rfl⟩ := eq
          obtain ⟨_, np4, _, _, _⟩ := tav_facts zt
          have np4' : p.length + 1 ≤ 4 := by simpa using np4
          obtain ⟨z2, e2, _, ed2⟩ := done_form (tk := (5, ((((p ++ [q]).length : Int) - 1), (0, ())))) zt g6 hf
          rw [fact5 (fu := fu) hp1 np4' h1 h2 g6 hf] at e2
          obtain rfl := Option.some.inj e2
          have hk2 : tavOK (T (IntKind.wrap .i64 (c + 1)) (true, s', tt, bb, p, [])) = true := by
            unfold T
            dsimp only
            unfold tavOK at ok zt ⊢
            simp only [Bool.and_eq_true, decide_eq_true_eq] at ok zt ⊢
            obtain ⟨⟨⟨⟨⟨a1, a2⟩, _⟩, a4⟩, a5⟩, a6⟩ := ok
            obtain ⟨_, b6⟩ := zt
            have hw : IntKind.wrap .i64 (IntKind.wrap .i64 (c + 1) + 1) = IntKind.wrap .i64 (c + 1) + 1 := wr (by omega) (by omega)
            rw [hw]
            exact ⟨⟨⟨⟨⟨a1, a2⟩, rfl⟩, a4⟩, a5⟩, by omega⟩
          rw [task_done (by simp) hf zt, ed2, if_pos (by rw [hk2]; rfl), Option.bind_some]
          unfold T
          dsimp only
          rw [rDice_self]
          rfl
        · rw [if_neg k4]
end Go.GA
