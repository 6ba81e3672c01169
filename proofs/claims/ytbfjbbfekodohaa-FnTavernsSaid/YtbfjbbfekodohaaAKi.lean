/- Plain law of FnTaverns: draws of taverns and tasks. -/
import Derived.Test.YtbfjbbfekodohaaAKh
namespace Go.GA
open Go
set_option maxRecDepth 100000
/-- a task that is drawn -/
def TaskR (a : Int) (r : Option (Tsk × Int × Int)) : Prop := ∃ k a' s', r = some (k, a', s') ∧ a ≤ a' ∧ a' ≤ a + 10
theorem taskR_some {a a' s' : Int} {k : Tsk} (h1 : a ≤ a') (h2 : a' ≤ a + 10) : TaskR a (some (k, a', s')) := ⟨k, a', s', rfl, h1, h2⟩
theorem among_then {x : List Int} (hx : Bytes x) {l : List Int} (hl : 0 < l.length) (hl2 : l.length ≤ 1000) {a b s : Int} (h0 : 0 ≤ b) (h1 : b ≤ 4611686018427380000) {K : Int × Int × Int → Option (Tsk × Int × Int)} (hK : ∀ v b' s', b ≤ b' → b' ≤ b + 2 → TaskR a (K (v, b', s'))) : TaskR a ((p_spec_l1Cur_among l x b s).bind K) := by
  obtain ⟨v, b', s', e, _, h3, h4⟩ := among_ok (l := l) hx hl hl2 (at_ := b) (s := s) h0 h1
  rw [e, Option.bind_some]
  exact hK v b' s' h3 h4
theorem pick_then {x : List Int} (hx : Bytes x) {n : Int} (hn : n ≤ 1000000) {a b s : Int} (h0 : 0 ≤ b) (h1 : b ≤ 4611686018427380000) {K : Int × Int × Int → Option (Tsk × Int × Int)} (hK : ∀ v b' s', b ≤ b' → b' ≤ b + 2 → TaskR a (K (v, b', s'))) : TaskR a ((p_spec_l1Cur_pick n x b s).bind K) := by
  obtain ⟨v, b', s', e, _, _, h3, h4⟩ := pick_ok hx (n := n) (at_ := b) (s := s) h0 h1 hn
  rw [e, Option.bind_some]
  exact hK v b' s' h3 h4
theorem least_ok {n : Nat} (h : n ≤ 5) : 0 ≤ p_spec_l1Least (n : Int) 4 ∧ shlI .i64 1 (p_spec_l1Least (n : Int) 4) ≤ 1000000 := by
  have : n = 0 ∨ n = 1 ∨ n = 2 ∨ n = 3 ∨ n = 4 ∨ n = 5 := by omega
  rcases this with rfl | rfl | rfl | rfl | rfl | rfl <;> decide
theorem most_ok {n : Nat} (h : n ≤ 5) : p_spec_l1Most 1 (n : Int) ≤ 1000000 := by
  unfold p_spec_l1Most
  by_cases h : (n : Int) < 1
  · rw [if_pos h]; omega
  · rw [if_neg h]; omega
theorem task12_ok {x : List Int} (hx : Bytes x) {t : Tav} (ht : t.1.length ≤ 5) {a s : Int} (h0 : 0 ≤ a) (h1 : a ≤ 4611686018427300000) : TaskR a (p_spec_l1Cur_task12 t x a s) := by
  unfold p_spec_l1Cur_task12
  refine among_then hx (by decide) (by decide) h0 (by omega) (fun v b s' h2 h3 => ?_)
  obtain ⟨l1, l2⟩ := least_ok ht
  have l3 := most_ok ht
  unfold jn
  dsimp only
  have key : ∀ (A B b2 s2 : Int), a ≤ b2 → b2 ≤ a + 6 → TaskR a ((p_spec_l1Cur_pick 32 x b2 s2).bind (fun r5 => (if r5.1 = 0 then (p_spec_l1Cur_among [(-1), 31, 16, 4611686018427387904, (-9223372036854775808)] x r5.2.1 r5.2.2).bind (fun r9 => some ((v, (r9.1, (B, ()))), r9.2.1, r9.2.2)) else (if r5.1 = 1 then (p_spec_l1Cur_among [(-1), 31, 1, 4611686018427387904] x r5.2.1 r5.2.2).bind (fun r13 => some ((v, (A, (r13.1, ()))), r13.2.1, r13.2.2)) else (if r5.1 = 2 then (p_spec_l1Cur_among [0, 7, (-1)] x r5.2.1 r5.2.2).bind (fun r17 => some ((r17.1, (A, (B, ()))), r17.2.1, r17.2.2)) else some ((v, (A, (B, ()))), r5.2.1, r5.2.2)))))) := by
    intro A B b2 s2 h4 h5
    refine pick_then hx (by omega) (by omega) (by omega) (fun w b3 s3 h6 h7 => ?_)
    dsimp only
    by_cases c0 : w = 0
    · rw [if_pos c0]
      exact among_then hx (by decide) (by decide) (by omega) (by omega) (fun u b4 s4 h8 h9 => taskR_some (a' := b4) (s' := s4) (by omega) (by omega))
    rw [if_neg c0]
    by_cases c1 : w = 1
    · rw [if_pos c1]
      exact among_then hx (by decide) (by decide) (by omega) (by omega) (fun u b4 s4 h8 h9 => taskR_some (a' := b4) (s' := s4) (by omega) (by omega))
    rw [if_neg c1]
    by_cases c2 : w = 2
    · rw [if_pos c2]
      exact among_then hx (by decide) (by decide) (by omega) (by omega) (fun u b4 s4 h8 h9 => taskR_some (a' := b4) (s' := s4) (by omega) (by omega))
    rw [if_neg c2]
    exact taskR_some (a' := b3) (s' := s3) (by omega) (by omega)
  by_cases c2 : v = 2
  · rw [if_pos c2, if_pos l1]
    exact pick_then hx l2 (by omega) (by omega) (fun w b3 s3 h6 h7 => key _ _ b3 s3 (by omega) (by omega))
  rw [if_neg c2]
  by_cases c3 : v = 3
  · rw [if_pos c3]
    exact pick_then hx l3 (by omega) (by omega) (fun w b3 s3 h6 h7 => among_then hx (by decide) (by decide) (b := b3) (by omega) (by omega) (fun u b4 s4 h8 h9 => key _ _ b4 s4 (by omega) (by omega)))
  rw [if_neg c3]
  by_cases c4 : v = 4
  · rw [if_pos c4]
    exact among_then hx (by decide) (by decide) (by omega) (by omega) (fun w b3 s3 h6 h7 => among_then hx (by decide) (by decide) (b := b3) (by omega) (by omega) (fun u b4 s4 h8 h9 => key _ _ b4 s4 (by omega) (by omega)))
  rw [if_neg c4]
  by_cases c5 : v = 5
  · rw [if_pos c5]
    exact pick_then hx l3 (by omega) (by omega) (fun w b3 s3 h6 h7 => key _ _ b3 s3 (by omega) (by omega))
  rw [if_neg c5]
  exact key _ _ b s' (by omega) (by omega)
theorem new_spec {p : List (List Int)} {seed : Int} (h6 : Six p) (hl : p.length ≤ 5) : ∃ (t : Tav) (ok : Bool), p_spec_NewTavern p seed = some (t, ok) ∧ Six t.1 ∧ t.1.length ≤ 5 ∧ t.2.2.1.length ≤ 5 ∧ (ok = true → tavOK t = true) := by
  unfold p_spec_NewTavern
  have e1 : p_spec_l12Good (p, (seed, ([], (0, (0, (0, ())))))) = some (tavOK (p, (seed, ([], (0, (0, (0, ()))))))) := good_eq h6
  rw [e1, Option.bind_some]
  cases hk : tavOK (p, (seed, ([], (0, (0, (0, ())))))) with
  | false => exact ⟨noTav, false, rfl, (fun d hd => nomatch hd), by simp [noTav], by simp [noTav], fun h => nomatch h⟩
  | true =>
    have e3 := spec_own (x := (p, (seed, ([], (0, (0, (0, ()))))))) (by show p.length ≤ 1048576; omega) (by simp)
    rw [if_pos rfl]
    exact ⟨(p, (seed, ([], (0, (0, (0, ())))))), true, by rw [e3]; rfl, h6, hl, by simp, fun _ => hk⟩
abbrev St9 : Type := Int × Int × Int × List (List Int) × Int × List Int × Int × Int × Int
def t9 (s : St9) : Tav := (s.2.2.2.1, (s.2.2.2.2.1, (s.2.2.2.2.2.1, (s.2.2.2.2.2.2.1, (s.2.2.2.2.2.2.2.1, (s.2.2.2.2.2.2.2.2, ()))))))
theorem tav_run {x : List Int} (hx : Bytes x) {fu : Nat} (hf : 10000000 ≤ fu) (ok : Bool) {R : Type} (K : St9 → Option R) {F : St9 → (St9 → Option R) → Option R}
    (hF : ∀ s9 c11, F s9 c11 = (if ((decide (0 < s9.1)) && ok) = true then (p_spec_l1Cur_task12 (t9 s9) x s9.2.1 s9.2.2.1).bind (fun r19 => (p_spec_l12Do fu (t9 s9) r19.1).bind (fun r20 => (if r20.2 = true then c11 ((IntKind.wrap .i64 (s9.1 - 1)), r19.2.1, r19.2.2, r20.1.1, r20.1.2.1, r20.1.2.2.1, r20.1.2.2.2.1, r20.1.2.2.2.2.1, r20.1.2.2.2.2.2.1) else c11 ((IntKind.wrap .i64 (s9.1 - 1)), r19.2.1, r19.2.2, s9.2.2.2.1, s9.2.2.2.2.1, s9.2.2.2.2.2.1, s9.2.2.2.2.2.2.1, s9.2.2.2.2.2.2.2.1, s9.2.2.2.2.2.2.2.2)))) else K s9)) :
    ∀ (d f : Nat) (s9 : St9), s9.1 ≤ d → d ≤ 100 → d < f → 0 ≤ s9.2.1 → s9.2.1 + 10 * d ≤ 4611686018427200000 → (ok = true → tavOK (t9 s9) = true) → Six s9.2.2.2.1 → s9.2.2.2.1.length ≤ 5 → s9.2.2.2.2.2.1.length ≤ 5 →
    ∃ s9', whl F f s9 = K s9' ∧ Six s9'.2.2.2.1 ∧ s9'.2.2.2.1.length ≤ 5 ∧ s9'.2.2.2.2.2.1.length ≤ 5 ∧ s9.2.1 ≤ s9'.2.1 ∧ s9'.2.1 ≤ s9.2.1 + 10 * d
  | 0, f, s9, hn, hd, hf', h0, h1, hok, h6, hp, hl => by
    obtain ⟨f, rfl⟩ : ∃ g, f = g + 1 := ⟨f - 1, by omega⟩
    refine ⟨s9, ?_, h6, hp, hl, by omega, by omega⟩
    show F s9 (fun s' => whl F f s') = _
    have hn' : s9.1 ≤ 0 := hn
    rw [hF, decide_eq_false (show ¬ 0 < s9.1 by omega), Bool.false_and, if_neg (by simp)]
  | d + 1, f, s9, hn, hd, hf', h0, h1, hok, h6, hp, hl => by
    obtain ⟨f, rfl⟩ : ∃ g, f = g + 1 := ⟨f - 1, by omega⟩
    by_cases hc : ((decide (0 < s9.1)) && ok) = true
    · have hc2 : 0 < s9.1 ∧ ok = true := by simpa using hc
      obtain ⟨k, a', s', e1, h2, h3⟩ := task12_ok hx (t := t9 s9) hp (a := s9.2.1) (s := s9.2.2.1) h0 (by omega)
      obtain ⟨t, b, e2, _, g6, gp, gl, gok⟩ := do_eq (x := t9 s9) (tk := k) (hok hc2.2) h6 hf
      have ih := fun s9 => tav_run hx hf ok K hF d f s9
      have hn' : s9.1 ≤ (d : Int) + 1 := by have := hn; omega
      have hw : IntKind.wrap .i64 (s9.1 - 1) = s9.1 - 1 := wr (by omega) (by omega)
      have es : whl F (f + 1) s9 = F s9 (fun s' => whl F f s') := rfl
      rw [es, hF, if_pos hc, e1, Option.bind_some, e2, Option.bind_some, hw]
      cases b with
      | true =>
        rw [if_pos rfl]
        obtain ⟨s9', r1, r2, r3, r4, r5, r6⟩ := ih (s9.1 - 1, a', s', t.1, t.2.1, t.2.2.1, t.2.2.2.1, t.2.2.2.2.1, t.2.2.2.2.2.1) (by show s9.1 - 1 ≤ _; omega) (by omega) (by omega) (by show 0 ≤ a'; omega) (by show a' + 10 * (d : Int) ≤ _; omega) (fun _ => gok rfl) g6 gp gl
        exact ⟨s9', r1, r2, r3, r4, by have : a' ≤ s9'.2.1 := r5; omega, by have : s9'.2.1 ≤ a' + 10 * (d : Int) := r6; omega⟩
      | false =>
        rw [if_neg (by simp)]
        obtain ⟨s9', r1, r2, r3, r4, r5, r6⟩ := ih (s9.1 - 1, a', s', s9.2.2.2.1, s9.2.2.2.2.1, s9.2.2.2.2.2.1, s9.2.2.2.2.2.2.1, s9.2.2.2.2.2.2.2.1, s9.2.2.2.2.2.2.2.2) (by show s9.1 - 1 ≤ _; omega) (by omega) (by omega) (by show 0 ≤ a'; omega) (by show a' + 10 * (d : Int) ≤ _; omega) hok h6 hp hl
        exact ⟨s9', r1, r2, r3, r4, by have : a' ≤ s9'.2.1 := r5; omega, by have : s9'.2.1 ≤ a' + 10 * (d : Int) := r6; omega⟩
    · refine ⟨s9, ?_, h6, hp, hl, by omega, by omega⟩
      show F s9 (fun s' => whl F f s') = _
      rw [hF, if_neg hc]
end Go.GA
