/- Plain law of FnTaverns: draws, the whole. -/
import Derived.Test.YtbfjbbfekodohaaAKi
namespace Go.GA
open Go
set_option maxRecDepth 100000
theorem amongP {α : Type} {P : Option α → Prop} {x : List Int} (hx : Bytes x) {l : List Int} (hl : 0 < l.length) (hl2 : l.length ≤ 1000) {b s : Int} (h0 : 0 ≤ b) (h1 : b ≤ 4611686018427380000) {K : Int × Int × Int → Option α} (hK : ∀ v b' s', b ≤ b' → b' ≤ b + 2 → P (K (v, b', s'))) : P ((p_spec_l1Cur_among l x b s).bind K) := by
  obtain ⟨v, b', s', e, _, h3, h4⟩ := among_ok (l := l) hx hl hl2 (at_ := b) (s := s) h0 h1
  rw [e, Option.bind_some]
  exact hK v b' s' h3 h4
theorem pickP {α : Type} {P : Option α → Prop} {x : List Int} (hx : Bytes x) {n : Int} (hn : n ≤ 1000000) {b s : Int} (h0 : 0 ≤ b) (h1 : b ≤ 4611686018427380000) {K : Int × Int × Int → Option α} (hK : ∀ v b' s', (v < n ∨ (n ≤ 1 ∧ v = 0)) → b ≤ b' → b' ≤ b + 2 → P (K (v, b', s'))) : P ((p_spec_l1Cur_pick n x b s).bind K) := by
  obtain ⟨v, b', s', e, _, h2, h3, h4⟩ := pick_ok hx (n := n) (at_ := b) (s := s) h0 h1 hn
  rw [e, Option.bind_some]
  exact hK v b' s' h2 h3 h4
theorem poolP {α : Type} {P : Option α → Prop} {x : List Int} (hx : Bytes x) {fu : Nat} (hf : 10000000 ≤ fu) {b s : Int} (h0 : 0 ≤ b) (h1 : b ≤ 4611686018427200000) {K : List (List Int) × Int × Int → Option α} (hK : ∀ p b' s', p.length ≤ 5 → Six p → b ≤ b' → b' ≤ b + 500 → P (K (p, b', s'))) : P ((p_spec_l1Cur_pool fu x b s).bind K) := by
  obtain ⟨p, b', s', e, h2, h3, h4, h5⟩ := pool_ok hx (fu := fu) (by omega) (x1 := b) (x2 := s) h0 h1
  rw [e, Option.bind_some]
  exact hK p b' s' h2 h3 h4 h5
/-- a tavern that is drawn -/
def TavR (a : Int) (r : Option (Tav × Int × Int)) : Prop := ∃ t a' s', r = some (t, a', s') ∧ Six t.1 ∧ t.1.length ≤ 5 ∧ t.2.2.1.length ≤ 6 ∧ a ≤ a' ∧ a' ≤ a + 1000
theorem tav_then {x : List Int} (hx : Bytes x) {fu : Nat} (hf : 10000000 ≤ fu) (ok : Bool) {R : Type} {P : Option R → Prop} {K : St9 → Option R} {F : St9 → (St9 → Option R) → Option R}
    (hF : ∀ s9 c11, F s9 c11 = (if ((decide (0 < s9.1)) && ok) = true then (p_spec_l1Cur_task12 (t9 s9) x s9.2.1 s9.2.2.1).bind (fun r19 => (p_spec_l12Do fu (t9 s9) r19.1).bind (fun r20 => (if r20.2 = true then c11 ((IntKind.wrap .i64 (s9.1 - 1)), r19.2.1, r19.2.2, r20.1.1, r20.1.2.1, r20.1.2.2.1, r20.1.2.2.2.1, r20.1.2.2.2.2.1, r20.1.2.2.2.2.2.1) else c11 ((IntKind.wrap .i64 (s9.1 - 1)), r19.2.1, r19.2.2, s9.2.2.2.1, s9.2.2.2.2.1, s9.2.2.2.2.2.1, s9.2.2.2.2.2.2.1, s9.2.2.2.2.2.2.2.1, s9.2.2.2.2.2.2.2.2)))) else K s9))
    {s9 : St9} (hn : s9.1 ≤ 6) (h0 : 0 ≤ s9.2.1) (h1 : s9.2.1 + 60 ≤ 4611686018427200000) (hok : ok = true → tavOK (t9 s9) = true) (h6 : Six s9.2.2.2.1) (hp : s9.2.2.2.1.length ≤ 5) (hl : s9.2.2.2.2.2.1.length ≤ 5)
    (hK : ∀ s9' : St9, Six s9'.2.2.2.1 → s9'.2.2.2.1.length ≤ 5 → s9'.2.2.2.2.2.1.length ≤ 5 → s9.2.1 ≤ s9'.2.1 → s9'.2.1 ≤ s9.2.1 + 60 → P (K s9')) : P (whl F fu s9) := by
  obtain ⟨s9', e, r2, r3, r4, r5, r6⟩ := tav_run hx hf ok K hF 6 fu s9 hn (by omega) (by omega) h0 (by omega) hok h6 hp hl
  rw [e]
  exact hK s9' r2 r3 r4 r5 (by omega)
theorem tavern_ok {x : List Int} (hx : Bytes x) {fu : Nat} (hf : 10000000 ≤ fu) {a s : Int} (h0 : 0 ≤ a) (h1 : a ≤ 4611686018427100000) : TavR a (p_spec_l1Cur_tavern fu x a s) := by
  unfold p_spec_l1Cur_tavern
  refine pickP hx (by omega) h0 (by omega) (fun v1 a1 s1 _ b1 c1 => ?_)
  refine amongP hx (by decide) (by decide) (b := a1) (by omega) (by omega) (fun v2 a2 s2 b2 c2 => ?_)
  refine poolP hx hf (b := a2) (by omega) (by omega) (fun p a3 s3 hp h6 b3 c3 => ?_)
  obtain ⟨t, ok, e, t6, tp, tl, tok⟩ := new_spec (p := p) (seed := IntKind.wrap .i64 (v1 * v2)) h6 hp
  rw [e, Option.bind_some]
  refine pickP hx (by omega) (b := a3) (by omega) (by omega) (fun v4 a4 s4 hv b4 c4 => ?_)
  refine tav_then hx hf ok (fun _ _ => rfl) (by show v4 ≤ 6; omega) (by show 0 ≤ a4; omega) (by show a4 + 60 ≤ _; omega) tok t6 tp tl (fun s9 g6 gp gl d1 d2 => ?_)
  have d1' : a4 ≤ s9.2.1 := d1
  have d2' : s9.2.1 ≤ a4 + 60 := d2
  clear d1 d2 e
  refine pickP hx (by omega) (b := s9.2.1) (by omega) (by omega) (fun v5 a5 s5 _ b5 c5 => ?_)
  dsimp only
  by_cases q0 : v5 = 0
  · rw [if_pos q0]
    exact amongP hx (by decide) (by decide) (b := a5) (by omega) (by omega) (fun v6 a6 s6 b6 c6 => ⟨_, a6, s6, rfl, g6, gp, Nat.le_trans gl (by omega), by omega, by omega⟩)
  rw [if_neg q0]
  by_cases q1 : v5 = 1
  · rw [if_pos q1]
    exact amongP hx (by decide) (by decide) (b := a5) (by omega) (by omega) (fun v6 a6 s6 b6 c6 => ⟨_, a6, s6, rfl, g6, gp, Nat.le_trans gl (by omega), by omega, by omega⟩)
  rw [if_neg q1]
  by_cases q2 : v5 = 2
  · rw [if_pos q2]
    exact amongP hx (by decide) (by decide) (b := a5) (by omega) (by omega) (fun v6 a6 s6 b6 c6 => ⟨_, a6, s6, rfl, g6, gp, Nat.le_trans gl (by omega), by omega, by omega⟩)
  rw [if_neg q2]
  by_cases q3 : v5 = 3
  · rw [if_pos q3]
    exact amongP hx (by decide) (by decide) (b := a5) (by omega) (by omega) (fun v6 a6 s6 b6 c6 => ⟨_, a6, s6, rfl, g6, gp, Nat.le_trans gl (by omega), by omega, by omega⟩)
  rw [if_neg q3]
  by_cases q4 : v5 = 4
  · rw [if_pos q4]
    unfold p_spec_l1Own
    rw [if_pos (show 0 + (s9.2.2.2.2.2.1.length : Int) ≤ 1000000000 by omega), Option.bind_some, List.nil_append]
    obtain ⟨v, a6, s6, e6, b6, c6⟩ := face_ok hx (a := a5) (s := s5) (by omega) (by omega)
    rw [e6, Option.bind_some, if_pos (by omega)]
    refine ⟨_, a6, s6, rfl, g6, gp, ?_, by omega, by omega⟩
    show (s9.2.2.2.2.2.1 ++ [v]).length ≤ 6
    rw [List.length_append]; simp only [List.length_cons, List.length_nil]; omega
  rw [if_neg q4]
  exact ⟨_, a5, s5, rfl, g6, gp, Nat.le_trans gl (by omega), by omega, by omega⟩
theorem drawTask_ok {x : List Int} (hx : Bytes x) {fu : Nat} (hf : 10000000 ≤ fu) : ∃ (t : Tav) (k : Tsk), p_spec_DrawDoTask fu x = some (t, k) ∧ Six t.1 ∧ t.1.length ≤ 5 ∧ t.2.2.1.length ≤ 6 := by
  unfold p_spec_DrawDoTask
  obtain ⟨t, a, s, e, h6, hp, hl, h1, h2⟩ := tavern_ok hx hf (a := 0) (s := 0) (by omega) (by omega)
  rw [e, Option.bind_some]
  obtain ⟨k, a', s', e2, _, _⟩ := task12_ok hx (t := t) hp (a := a) (s := s) (by omega) (by omega)
  have e2' : p_spec_l1Cur_task12 (t.1, (t.2.1, (t.2.2.1, (t.2.2.2.1, (t.2.2.2.2.1, (t.2.2.2.2.2.1, ())))))) x a s = some (k, a', s') := e2
  dsimp only
  rw [e2', Option.bind_some]
  exact ⟨t, k, rfl, h6, hp, hl⟩
theorem drawNew_ok {x : List Int} (hx : Bytes x) {fu : Nat} (hf : 10000000 ≤ fu) : ∃ (p : List (List Int)) (s : Int), p_spec_DrawNewTavern fu x = some (p, s) ∧ Six p ∧ p.length ≤ 5 := by
  unfold p_spec_DrawNewTavern
  refine amongP (P := fun r => ∃ (p : List (List Int)) (s : Int), r = some (p, s) ∧ Six p ∧ p.length ≤ 5) hx (by decide) (by decide) (b := 0) (by omega) (by omega) (fun v2 a2 s2 b2 c2 => ?_)
  refine poolP (P := fun r => ∃ (p : List (List Int)) (s : Int), r = some (p, s) ∧ Six p ∧ p.length ≤ 5) hx hf (b := a2) (by omega) (by omega) (fun p a3 s3 hp h6 b3 c3 => ?_)
  exact ⟨p, v2, rfl, h6, hp⟩
abbrev St10 : Type := Int × Int × Int × List Tsk × List (List Int) × Int × List Int × Int × Int × Int
def t10 (s : St10) : Tav := (s.2.2.2.2.1, (s.2.2.2.2.2.1, (s.2.2.2.2.2.2.1, (s.2.2.2.2.2.2.2.1, (s.2.2.2.2.2.2.2.2.1, (s.2.2.2.2.2.2.2.2.2, ()))))))
theorem list_run {x : List Int} (hx : Bytes x) {fu : Nat} (hf : 10000000 ≤ fu) {R : Type} (K : St10 → Option R) {F : St10 → (St10 → Option R) → Option R}
    (hF : ∀ s3 c5, F s3 c5 = if ((decide (0 < s3.1)) = true → (p_spec_l12Good (t10 s3)).isSome = true) then (if ((decide (0 < s3.1)) && ((p_spec_l12Good (t10 s3)).getD false)) = true then (p_spec_l1Cur_task12 (t10 s3) x s3.2.1 s3.2.2.1).bind (fun r16 => if (s3.2.2.2.1.length : Int) + 1 ≤ 1000000000 then (p_spec_l12Do fu (t10 s3) (r16.1.1, (r16.1.2.1, (r16.1.2.2.1, ())))).bind (fun r18 => (if r18.2 = true then c5 ((IntKind.wrap .i64 (s3.1 - 1)), r16.2.1, r16.2.2, (s3.2.2.2.1 ++ [(r16.1.1, (r16.1.2.1, (r16.1.2.2.1, ())))]), r18.1.1, r18.1.2.1, r18.1.2.2.1, r18.1.2.2.2.1, r18.1.2.2.2.2.1, r18.1.2.2.2.2.2.1) else c5 ((IntKind.wrap .i64 (s3.1 - 1)), r16.2.1, r16.2.2, (s3.2.2.2.1 ++ [(r16.1.1, (r16.1.2.1, (r16.1.2.2.1, ())))]), s3.2.2.2.2.1, s3.2.2.2.2.2.1, s3.2.2.2.2.2.2.1, s3.2.2.2.2.2.2.2.1, s3.2.2.2.2.2.2.2.2.1, s3.2.2.2.2.2.2.2.2.2))) else none) else K s3) else none) :
    ∀ (d f : Nat) (s3 : St10), s3.1 ≤ d → d ≤ 100 → d < f → 0 ≤ s3.2.1 → s3.2.1 + 10 * d ≤ 4611686018427200000 → s3.2.2.2.1.length + d ≤ 1000 → Six s3.2.2.2.2.1 → s3.2.2.2.2.1.length ≤ 5 → ∃ s3' : St10, whl F f s3 = K s3'
  | 0, f, s3, hn, hd, hf', h0, h1, hll, h6, hp => by
    obtain ⟨f, rfl⟩ : ∃ g, f = g + 1 := ⟨f - 1, by omega⟩
    refine ⟨s3, ?_⟩
    show F s3 (fun s' => whl F f s') = _
    have hn' : s3.1 ≤ 0 := hn
    rw [hF, decide_eq_false (show ¬ 0 < s3.1 by omega), Bool.false_and, if_pos (by intro h; cases h), if_neg (by simp)]
  | d + 1, f, s3, hn, hd, hf', h0, h1, hll, h6, hp => by
    obtain ⟨f, rfl⟩ : ∃ g, f = g + 1 := ⟨f - 1, by omega⟩
    have eg : p_spec_l12Good (t10 s3) = some (tavOK (t10 s3)) := good_eq h6
    have es : whl F (f + 1) s3 = F s3 (fun s' => whl F f s') := rfl
    rw [es, hF, eg, if_pos (by intro h; rfl), Option.getD_some]
    by_cases hc : ((decide (0 < s3.1)) && tavOK (t10 s3)) = true
    · have hc2 : 0 < s3.1 ∧ tavOK (t10 s3) = true := by simpa using hc
      obtain ⟨k, a', s', e1, h2, h3⟩ := task12_ok hx (t := t10 s3) hp (a := s3.2.1) (s := s3.2.2.1) h0 (by omega)
      obtain ⟨t, b, e2, _, g6, gp, gl, gok⟩ := do_eq (x := t10 s3) (tk := k) hc2.2 h6 hf
      have ih := fun s3 => list_run hx hf K hF d f s3
      have hn' : s3.1 ≤ (d : Int) + 1 := by have := hn; omega
      have hw : IntKind.wrap .i64 (s3.1 - 1) = s3.1 - 1 := wr (by omega) (by omega)
      have e2' : p_spec_l12Do fu (t10 s3) (k.1, (k.2.1, (k.2.2.1, ()))) = some (t, b) := e2
      rw [if_pos hc, e1, Option.bind_some, if_pos (by omega)]
      dsimp only
      rw [e2', Option.bind_some, hw]
      cases b with
      | true =>
        rw [if_pos rfl]
        exact ih (s3.1 - 1, a', s', s3.2.2.2.1 ++ [(k.1, (k.2.1, (k.2.2.1, ())))], t.1, t.2.1, t.2.2.1, t.2.2.2.1, t.2.2.2.2.1, t.2.2.2.2.2.1) (by show s3.1 - 1 ≤ _; omega) (by omega) (by omega) (by show 0 ≤ a'; omega) (by show a' + 10 * (d : Int) ≤ _; omega) (by show (s3.2.2.2.1 ++ [_]).length + d ≤ 1000; rw [List.length_append]; simp only [List.length_cons, List.length_nil]; omega) g6 gp
      | false =>
        rw [if_neg (by simp)]
        exact ih (s3.1 - 1, a', s', s3.2.2.2.1 ++ [(k.1, (k.2.1, (k.2.2.1, ())))], s3.2.2.2.2.1, s3.2.2.2.2.2.1, s3.2.2.2.2.2.2.1, s3.2.2.2.2.2.2.2.1, s3.2.2.2.2.2.2.2.2.1, s3.2.2.2.2.2.2.2.2.2) (by show s3.1 - 1 ≤ _; omega) (by omega) (by omega) (by show 0 ≤ a'; omega) (by show a' + 10 * (d : Int) ≤ _; omega) (by show (s3.2.2.2.1 ++ [_]).length + d ≤ 1000; rw [List.length_append]; simp only [List.length_cons, List.length_nil]; omega) h6 hp
    · rw [if_neg hc]
      exact ⟨s3, rfl⟩
theorem drawTasks_ok {x : List Int} (hx : Bytes x) {fu : Nat} (hf : 10000000 ≤ fu) : ∃ (t : Tav) (l : List Tsk), p_spec_DrawDoTasks fu x = some (t, l) ∧ Six t.1 ∧ t.1.length ≤ 5 ∧ t.2.2.1.length ≤ 6 := by
  unfold p_spec_DrawDoTasks
  obtain ⟨t, a, s, e, h6, hp, hl, h1, h2⟩ := tavern_ok hx hf (a := 0) (s := 0) (by omega) (by omega)
  rw [e, Option.bind_some]
  refine pickP (P := fun r => ∃ (t : Tav) (l : List Tsk), r = some (t, l) ∧ Six t.1 ∧ t.1.length ≤ 5 ∧ t.2.2.1.length ≤ 6) hx (by omega) (b := a) (by omega) (by omega) (fun v4 a4 s4 hv b4 c4 => ?_)
  have hr := list_run hx hf (R := Tav × List Tsk) (fun s3 => some ((t.1, (t.2.1, (t.2.2.1, (t.2.2.2.1, (t.2.2.2.2.1, (t.2.2.2.2.2.1, ())))))), s3.2.2.2.1)) (fun _ _ => rfl) 6 fu (v4, a4, s4, [], t.1, t.2.1, t.2.2.1, t.2.2.2.1, t.2.2.2.2.1, t.2.2.2.2.2.1) (by show v4 ≤ 6; omega) (by omega) (by omega) (by show 0 ≤ a4; omega) (by show a4 + 10 * _ ≤ _; omega) (by simp) h6 hp
  obtain ⟨s3, e3⟩ := hr
  exact ⟨t, s3.2.2.2.1, e3, h6, hp, hl⟩
theorem cut_ok {x : List Int} (hx : Bytes x) {n : Int} (hn : 0 ≤ n) : ∃ y, p_laws_rCut x n = some y ∧ Bytes y := by
  unfold p_laws_rCut
  by_cases h : (x.length : Int) < n
  · rw [if_pos h]; exact ⟨_, rfl, fun b hb => hx b (List.mem_of_mem_drop hb)⟩
  · rw [if_neg h, if_pos hn]; exact ⟨_, rfl, fun b hb => hx b (List.mem_of_mem_drop hb)⟩
end Go.GA
