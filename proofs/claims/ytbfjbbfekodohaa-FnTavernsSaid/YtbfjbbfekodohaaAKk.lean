/- Plain law of FnTaverns: what tasks do. -/
import Derived.Test.YtbfjbbfekodohaaAKj
namespace Go.GA
open Go
set_option maxRecDepth 100000
abbrev Zt : Type := Bool × Int × Int × Int × List (List Int) × List Int
/-- the tavern behind a turn -/
def T (c : Int) (z : Zt) : Tav := (z.2.2.2.2.1, (z.2.1, (z.2.2.2.2.2, (z.2.2.1, (z.2.2.2.1, ((IntKind.wrap .i64 (c + 1)), ()))))))
theorem done_form {p : List (List Int)} {sd : Int} {l : List Int} {tot best c : Int} {tk : Tsk} {fu : Nat} (ok : tavOK (p, (sd, (l, (tot, (best, (c, ())))))) = true) (h6 : Six p) (hf : 10000000 ≤ fu) :
    ∃ z : Zt, p_impl_Tavern_turn tk sd tot best c p l = some z ∧ (z.1 = true → Six z.2.2.2.2.1 ∧ z.2.2.2.2.1.length ≤ 5 ∧ z.2.2.2.2.2.length ≤ 5) ∧
      p_impl_Tavern_done fu (p, (sd, (l, (tot, (best, (c, ())))))) tk = some (if (z.1 && tavOK (T c z)) = true then (T c z, true) else (noTav, false)) := by
  obtain ⟨k, A, B, ⟨⟩⟩ := tk
  obtain ⟨hp1, hp4, h1, h2, hl⟩ := tav_facts ok
  have hl5 : l.length ≤ 4 := by
    rcases hl with rfl | h
    · simp
    · omega
  obtain ⟨y, z, _, e2, s1, s2⟩ := turn_eq (A := A) (B := B) (tot := tot) (best := best) (c := c) hp1 hp4 h1 h2 hl h6 hf k
  refine ⟨z, e2, fun hz => (s2 (s1.trans hz)).2, ?_⟩
  have e3 := impl_own (x := (p, (sd, (l, (tot, (best, (c, ()))))))) (by show p.length ≤ 1048576; omega) (by show l.length ≤ 1048576; omega)
  unfold p_impl_Tavern_done
  dsimp only at e3 ⊢
  rw [e3, Option.bind_some]
  dsimp only
  rw [e2, Option.bind_some]
  obtain ⟨yt, yb⟩ := y
  obtain ⟨zb, s', t', b', p', l'⟩ := z
  dsimp only at s1 s2 ⊢
  subst s1
  cases yb with
  | false => rw [if_pos (by intro h; cases h), if_pos (by rfl), if_neg (by simp)]; rfl
  | true =>
    obtain ⟨rfl, g6, gp, gl⟩ := s2 rfl
    have e5 := isTavern_eq (fu := fu) (x := (p', (s', (l', (t', (b', (IntKind.wrap .i64 (c + 1), ()))))))) (by show l'.length ≤ 1048576; omega) hf
    have e7 := impl_own (x := (p', (s', (l', (t', (b', (IntKind.wrap .i64 (c + 1), ()))))))) (by show p'.length ≤ 1048576; omega) (by show l'.length ≤ 1048576; omega)
    dsimp only at e7 ⊢
    rw [e5, e7]
    unfold T
    dsimp only
    cases ht : tavOK (p', (s', (l', (t', (b', (IntKind.wrap .i64 (c + 1), ())))))) with
    | false => rw [if_pos (by intro h; rfl), if_pos (by rfl), if_neg (by simp)]; rfl
    | true => rw [if_pos (by intro h; rfl), if_neg (by simp), if_pos (by simp)]; rfl
theorem task_form {x : Tav} {tk : Tsk} {fu : Nat} (h2 : x.2.2.1.length ≤ 1048576) (hf : 10000000 ≤ fu) : p_impl_DoTask fu x tk = if tavOK x = true then (p_impl_Tavern_done fu x tk).bind (fun r => some r) else some (noTav, false) := by
  unfold p_impl_DoTask
  have e2 : p_impl_IsTavern fu (x.1, (x.2.1, (x.2.2.1, (x.2.2.2.1, (x.2.2.2.2.1, (x.2.2.2.2.2.1, ())))))) = some (tavOK x) := isTavern_eq h2 hf
  rw [e2, Option.bind_some]
  cases tavOK x with
  | false => rw [if_neg (by simp), if_neg (by simp)]; rfl
  | true => rw [if_pos rfl, if_pos rfl]
theorem task_done {x : Tav} {tk : Tsk} {fu : Nat} (h2 : x.2.2.1.length ≤ 1048576) (hf : 10000000 ≤ fu) (ok : tavOK x = true) : p_impl_DoTask fu x tk = p_impl_Tavern_done fu x tk := by
  rw [task_form h2 hf, if_pos ok]
  cases p_impl_Tavern_done fu x tk <;> rfl
theorem last_form {x : Tav} {fu : Nat} (h2 : x.2.2.1.length ≤ 1048576) (hf : 10000000 ≤ fu) : p_impl_LastSum fu x = some (if ((!tavOK x) || (decide ((x.2.2.1.length : Int) = 0))) = true then (0, false) else (p_impl_total x.2.2.1, true)) := by
  unfold p_impl_LastSum
  have e2 : p_impl_IsTavern fu (x.1, (x.2.1, (x.2.2.1, (x.2.2.2.1, (x.2.2.2.2.1, (x.2.2.2.2.2.1, ())))))) = some (tavOK x) := isTavern_eq h2 hf
  rw [e2, Option.bind_some]
  cases ((!tavOK x) || (decide ((x.2.2.1.length : Int) = 0))) <;> rfl
theorem last_spec2 {x : Tav} {fu : Nat} (h6 : Six x.1) (h2 : x.2.2.1.length ≤ 1048576) (hf : 10000000 ≤ fu) : p_spec_LastSum x = p_impl_LastSum fu x := by
  unfold p_spec_LastSum p_impl_LastSum
  show (p_spec_l12Good x).bind _ = (p_impl_IsTavern fu x).bind _
  rw [good_eq h6, isTavern_eq h2 hf]
  rfl
section
variable {fu : Nat} {p : List (List Int)} {sd : Int} {l : List Int} {tot best c A B : Int} (hp1 : 1 ≤ p.length) (hp4 : p.length ≤ 4) (h1 : 0 ≤ sd) (h2 : sd ≤ 65535) (hl : l = [] ∨ l.length = p.length)
include hp1 hp4 h1 h2 hl
theorem fact1 {z : Zt} (e : p_impl_Tavern_turn (1, (A, (B, ()))) sd tot best c p l = some z) (hz : z.1 = true) :
    z.2.2.2.2.1 = p ∧ z.2.2.2.2.2.length = p.length ∧ z.2.2.2.1 = (if p_impl_total z.2.2.2.2.2 > best then p_impl_total z.2.2.2.2.2 else best) ∧ z.2.2.1 = IntKind.wrap .i64 (IntKind.wrap .i64 (tot + p_impl_total z.2.2.2.2.2) - 0) := by
  have _u := hl
  unfold p_impl_Tavern_turn at e
  dsimp only at e
  rw [if_pos (show (1 : Int) = 1 from rfl)] at e
  by_cases hc : ((decide (A = 0)) && (decide (B = 0))) = true
  · rw [if_pos hc, roll_eq _ (by omega) (all_bits p.length hp1 hp4) h1 h2, Option.bind_some] at e
    obtain rfl := Option.some.inj e
    have hlen := runR_len (p := p) (set := IntKind.wrap .i64 ((shlI .i64 1 (p.length : Int)) - 1)) p.length 0 sd [] (by simp)
    dsimp only
    refine ⟨rfl, by rw [hlen]; simp, rfl, (ww0 _).symm⟩
  · rw [if_neg hc] at e
    obtain rfl := Option.some.inj e
    cases hz
theorem fact2 {z : Zt} (e : p_impl_Tavern_turn (2, (A, (B, ()))) sd tot best c p l = some z) (hz : z.1 = true) :
    l.length = p.length ∧ z.2.2.2.2.1 = p ∧ z.2.2.2.2.2.length = p.length ∧ z.2.2.2.1 = (if p_impl_total z.2.2.2.2.2 > best then p_impl_total z.2.2.2.2.2 else best) ∧ z.2.2.1 = IntKind.wrap .i64 (IntKind.wrap .i64 (tot + p_impl_total z.2.2.2.2.2) - p_impl_total l) := by
  unfold p_impl_Tavern_turn at e
  dsimp only at e
  rw [if_neg (show ¬ (2 : Int) = 1 by decide), if_pos (show (2 : Int) = 2 from rfl)] at e
  by_cases hB : B = 0
  · rw [if_pos hB] at e
    by_cases hc : ((decide ((l.length : Int) = 0)) || (!(p_impl_within A 1 (IntKind.wrap .i64 ((shlI .i64 1 (p.length : Int)) - 1))))) = true
    · unfold p_impl_Tavern_again at e
      rw [if_pos hc, Option.bind_some] at e
      obtain rfl := Option.some.inj e
      cases hz
    · have hl' : l.length = p.length := by
        rcases hl with rfl | h
        · simp at hc
        · exact h
      rw [again_eq A hc hl' h1 h2, Option.bind_some] at e
      obtain rfl := Option.some.inj e
      have hlen := runR_len (p := p) (set := A) p.length 0 sd l (by omega)
      dsimp only
      refine ⟨hl', rfl, by rw [hlen]; omega, rfl, (ww1 _ _ _).symm⟩
  · rw [if_neg hB] at e
    obtain rfl := Option.some.inj e
    cases hz
theorem fact4 {z : Zt} (e : p_impl_Tavern_turn (4, (A, (B, ()))) sd tot best c p l = some z) (hz : z.1 = true) : ∃ q, z = (true, sd, tot, best, p ++ [q], []) := by
  have _u := And.intro hp1 (And.intro h1 (And.intro h2 hl))
  unfold p_impl_Tavern_turn p_impl_Tavern_put at e
  dsimp only at e
  rw [if_neg (show ¬ (4 : Int) = 1 by decide), if_neg (show ¬ (4 : Int) = 2 by decide), if_neg (show ¬ (4 : Int) = 3 by decide), if_pos (show (4 : Int) = 4 from rfl)] at e
  by_cases hc : ((!(p_impl_isFace A)) || (!(p_impl_isFace B))) = true
  · rw [if_pos hc, Option.bind_some] at e
    obtain rfl := Option.some.inj e
    cases hz
  · rw [if_neg hc, cnt_iter, if_pos (by omega), Option.bind_some] at e
    exact ⟨_, (Option.some.inj e).symm⟩
end
theorem fact5 {fu : Nat} {p : List (List Int)} {d : List Int} {sd : Int} {tot best c : Int} (hp1 : 1 ≤ p.length) (hp4 : p.length + 1 ≤ 4) (h1 : 0 ≤ sd) (h2 : sd ≤ 65535) (h6 : Six (p ++ [d])) (hf : 10000000 ≤ fu) : p_impl_Tavern_turn (5, ((((p ++ [d]).length : Int) - 1), (0, ()))) sd tot best c (p ++ [d]) [] = some (true, sd, tot, best, p, []) := by
  have hlen : (p ++ [d]).length = p.length + 1 := by simp
  unfold p_impl_Tavern_turn p_impl_Tavern_take p_impl_Tavern_isPlace
  dsimp only
  rw [if_neg (show ¬ (5 : Int) = 1 by decide), if_neg (show ¬ (5 : Int) = 2 by decide), if_neg (show ¬ (5 : Int) = 3 by decide), if_neg (show ¬ (5 : Int) = 4 by decide), if_pos (show (5 : Int) = 5 from rfl), if_pos (show (0 : Int) = 0 from rfl)]
  rw [if_pos (by rw [within_eq]; exact decide_eq_true (by omega)), delete_eq (fu := fu) (sd := sd) (l := []) (by omega) (by omega) h1 h2 (.inl rfl) h6 hf (by omega) (by omega), Option.bind_some, Option.bind_some]
  have e1 : (((p ++ [d]).length : Int) - 1).toNat = p.length := by omega
  rw [e1, List.take_left, List.drop_eq_nil_of_le (by omega), List.append_nil]
end Go.GA
