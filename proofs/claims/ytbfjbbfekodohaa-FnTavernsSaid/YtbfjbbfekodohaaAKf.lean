/- Plain law: a task turns a tavern alike, all kinds. -/
import Derived.Test.YtbfjbbfekodohaaAKe
namespace Go.GA
open Go
set_option maxRecDepth 100000
theorem tav_facts {p : List (List Int)} {sd : Int} {l : List Int} {tot best c : Int} (ok : tavOK (p, (sd, (l, (tot, (best, (c, ())))))) = true) : 1 ≤ p.length ∧ p.length ≤ 4 ∧ 0 ≤ sd ∧ sd ≤ 65535 ∧ (l = [] ∨ l.length = p.length) := by
  unfold tavOK lastOf at ok
  simp only [Bool.and_eq_true, Bool.or_eq_true, decide_eq_true_eq] at ok
  obtain ⟨⟨⟨⟨⟨h1, h2⟩, h3⟩, _⟩, _⟩, _⟩ := ok
  have := pool_len h1
  refine ⟨this.1, this.2, h2.1, h2.2, ?_⟩
  rcases h3 with h3 | h3
  · exact .inl (by simpa using h3)
  · exact .inr h3.2
/-- what a task makes of a tavern, told twice -/
def Same (c : Int) (y : Tav × Bool) (z : Bool × Int × Int × Int × List (List Int) × List Int) : Prop :=
  y.2 = z.1 ∧ (y.2 = true → y.1 = (z.2.2.2.2.1, (z.2.1, (z.2.2.2.2.2, (z.2.2.1, (z.2.2.2.1, (c, ())))))) ∧ Six z.2.2.2.2.1 ∧ z.2.2.2.2.1.length ≤ 5 ∧ z.2.2.2.2.2.length ≤ 5)
section
variable {fu : Nat} {p : List (List Int)} {sd : Int} {l : List Int} {tot best c A B : Int} (hp1 : 1 ≤ p.length) (hp4 : p.length ≤ 4) (h1 : 0 ≤ sd) (h2 : sd ≤ 65535) (hl : l = [] ∨ l.length = p.length) (h6 : Six p) (hf : 10000000 ≤ fu)
include hp1 hp4 h1 h2 hl h6 hf
theorem turn1 : ∃ y z, p_spec_l12Make fu (p, (sd, (l, (tot, (best, (c, ())))))) (1, (A, (B, ()))) = some y ∧ p_impl_Tavern_turn (1, (A, (B, ()))) sd tot best c p l = some z ∧ Same c y z := by
  have _u := And.intro hp1 (And.intro hp4 (And.intro h1 (And.intro h2 (And.intro hl (And.intro h6 hf)))))
  unfold p_spec_l12Make p_impl_Tavern_turn
  dsimp only
  rw [if_pos (show (1 : Int) = 1 from rfl), if_pos (show (1 : Int) = 1 from rfl)]
  have e := rolled_eq (fu := fu) (p := p) (sd := sd) (l := []) (tot := tot) (best := best) (c := c) (IntKind.wrap .i64 ((shlI .i64 1 (p.length : Int)) - 1)) 0 (by omega) (by simp) h1 h2 hf
  have e0 : p_spec_l12Dice (p, (sd, (l, (tot, (best, (c, ())))))) p = (p, (sd, ([], (tot, (best, (c, ())))))) := rfl
  rw [e0, e, Option.bind_some, roll_eq _ (by omega) (all_bits p.length hp1 hp4) h1 h2, Option.bind_some, ww0, most_eq]
  have hlen := runR_len (p := p) (set := IntKind.wrap .i64 ((shlI .i64 1 (p.length : Int)) - 1)) p.length 0 sd [] (by simp)
  generalize runR p (IntKind.wrap .i64 ((shlI .i64 1 (p.length : Int)) - 1)) p.length 0 sd [] = q at hlen
  by_cases hc : ((decide (A = 0)) && (decide (B = 0))) = true
  · rw [if_pos hc]
    refine ⟨_, _, rfl, rfl, hc, fun _ => ⟨rfl, h6, by show p.length ≤ 5; omega, ?_⟩⟩
    show q.2.length ≤ 5
    rw [hlen]; simp only [List.length_nil]; omega
  · rw [if_neg hc]
    refine ⟨_, _, rfl, rfl, by simpa using hc, fun h => absurd h hc⟩
theorem turn2 : ∃ y z, p_spec_l12Make fu (p, (sd, (l, (tot, (best, (c, ())))))) (2, (A, (B, ()))) = some y ∧ p_impl_Tavern_turn (2, (A, (B, ()))) sd tot best c p l = some z ∧ Same c y z := by
  have _u := And.intro hp1 (And.intro hp4 (And.intro h1 (And.intro h2 (And.intro hl (And.intro h6 hf)))))
  unfold p_spec_l12Make p_impl_Tavern_turn
  dsimp only
  rw [if_neg (show ¬ (2 : Int) = 1 by decide), if_neg (show ¬ (2 : Int) = 1 by decide), if_pos (show (2 : Int) = 2 from rfl), if_pos (show (2 : Int) = 2 from rfl)]
  by_cases hB : B = 0
  · rw [if_pos hB, decide_eq_true hB, Bool.not_true, Bool.or_false]
    by_cases hc : ((decide ((l.length : Int) = 0)) || (!(p_impl_within A 1 (IntKind.wrap .i64 ((shlI .i64 1 (p.length : Int)) - 1))))) = true
    · rw [if_pos (show ((decide ((l.length : Int) = 0)) || (!(p_spec_l1In A 1 (IntKind.wrap .i64 ((shlI .i64 1 (p.length : Int)) - 1))))) = true from hc)]
      unfold p_impl_Tavern_again
      rw [if_pos hc, Option.bind_some]
      exact ⟨_, _, rfl, rfl, rfl, fun h => nomatch h⟩
    · rw [if_neg (show ¬ ((decide ((l.length : Int) = 0)) || (!(p_spec_l1In A 1 (IntKind.wrap .i64 ((shlI .i64 1 (p.length : Int)) - 1))))) = true from hc)]
      have hl' : l.length = p.length := by
        rcases hl with rfl | h
        · simp at hc
        · exact h
      have e := rolled_eq (fu := fu) (p := p) (sd := sd) (l := l) (tot := tot) (best := best) (c := c) A (p_impl_total l) (by omega) (by omega) h1 h2 hf
      rw [again_eq A hc hl' h1 h2, add_eq, e, Option.bind_some, Option.bind_some, ww1, most_eq]
      have hlen := runR_len (p := p) (set := A) p.length 0 sd l (by omega)
      generalize runR p A p.length 0 sd l = q at hlen
      refine ⟨_, _, rfl, rfl, rfl, fun _ => ⟨rfl, h6, by show p.length ≤ 5; omega, ?_⟩⟩
      show q.2.length ≤ 5
      rw [hlen]; omega
  · rw [if_neg hB, decide_eq_false hB, Bool.not_false, Bool.or_true, if_pos rfl]
    exact ⟨_, _, rfl, rfl, rfl, fun h => nomatch h⟩
theorem place_eq : p_spec_l12Place (p, (sd, (l, (tot, (best, (c, ())))))) A = p_impl_within A 0 ((p.length : Int) - 1) := by
  have _u := And.intro hp1 (And.intro hp4 (And.intro h1 (And.intro h2 (And.intro hl (And.intro h6 hf)))))
  show p_spec_l1In A 0 (IntKind.wrap .i64 ((p.length : Int) - 1)) = _
  rw [wrap_i64 (by omega) (by omega)]; rfl
theorem turn3 : ∃ y z, p_spec_l12Make fu (p, (sd, (l, (tot, (best, (c, ())))))) (3, (A, (B, ()))) = some y ∧ p_impl_Tavern_turn (3, (A, (B, ()))) sd tot best c p l = some z ∧ Same c y z := by
  have _u := And.intro hp1 (And.intro hp4 (And.intro h1 (And.intro h2 (And.intro hl (And.intro h6 hf)))))
  unfold p_spec_l12Make p_impl_Tavern_turn p_impl_Tavern_shift p_impl_Tavern_isPlace
  dsimp only
  rw [if_neg (show ¬ (3 : Int) = 1 by decide), if_neg (show ¬ (3 : Int) = 1 by decide), if_neg (show ¬ (3 : Int) = 2 by decide), if_neg (show ¬ (3 : Int) = 2 by decide), if_pos (show (3 : Int) = 3 from rfl), if_pos (show (3 : Int) = 3 from rfl), place_eq (fu := fu) hp1 hp4 h1 h2 hl h6 hf]
  by_cases hc : p_impl_within A 0 ((p.length : Int) - 1) = true
  · have hA : 0 ≤ A ∧ A ≤ (p.length : Int) - 1 := by rw [within_eq] at hc; exact of_decide_eq_true hc
    have hd : (p.getD A.toNat (List.replicate 6 0)).length = 6 := getD_six h6 (by omega)
    obtain ⟨s1, s2⟩ := shift_eq B hd
    rw [if_pos hc, if_pos hc, if_pos (by omega), if_pos (by omega), if_pos (by omega), if_pos (by omega), s1, Option.bind_some, Option.bind_some]
    unfold p_spec_l2Own p_spec_l12Dicev1
    rw [if_pos (show 0 + (p.length : Int) ≤ 1000000000 by omega), Option.bind_some, List.nil_append, if_pos (by omega)]
    generalize p_impl_ShiftDie (p.getD A.toNat (List.replicate 6 0)) B = q at s2
    refine ⟨_, _, rfl, rfl, rfl, fun _ => ⟨rfl, fun d hd => ?_, by simp; omega, by simp⟩⟩
    rcases List.mem_or_eq_of_mem_set hd with h | h
    · exact h6 d h
    · rw [h]; exact s2
  · rw [if_neg hc, if_neg hc, Option.bind_some]
    exact ⟨_, _, rfl, rfl, rfl, fun h => nomatch h⟩
theorem turn4 : ∃ y z, p_spec_l12Make fu (p, (sd, (l, (tot, (best, (c, ())))))) (4, (A, (B, ()))) = some y ∧ p_impl_Tavern_turn (4, (A, (B, ()))) sd tot best c p l = some z ∧ Same c y z := by
  have _u := And.intro hp1 (And.intro hp4 (And.intro h1 (And.intro h2 (And.intro hl (And.intro h6 hf)))))
  unfold p_spec_l12Make p_impl_Tavern_turn p_impl_Tavern_put
  dsimp only
  rw [if_neg (show ¬ (4 : Int) = 1 by decide), if_neg (show ¬ (4 : Int) = 1 by decide), if_neg (show ¬ (4 : Int) = 2 by decide), if_neg (show ¬ (4 : Int) = 2 by decide), if_neg (show ¬ (4 : Int) = 3 by decide), if_neg (show ¬ (4 : Int) = 3 by decide), if_pos (show (4 : Int) = 4 from rfl), if_pos (show (4 : Int) = 4 from rfl)]
  by_cases hc : ((!(p_impl_isFace A)) || (!(p_impl_isFace B))) = true
  · rw [if_pos hc, if_pos (show ((!(p_spec_l1In A 0 30)) || (!(p_spec_l1In B 0 30))) = true from hc), Option.bind_some]
    exact ⟨_, _, rfl, rfl, rfl, fun h => nomatch h⟩
  · rw [if_neg hc, if_neg (show ¬ ((!(p_spec_l1In A 0 30)) || (!(p_spec_l1In B 0 30))) = true from hc), cnt_iter, cnt_iter]
    have hlen := iter_len (fun i107 (s106 : (List Int)) => s106.set i107.toNat (IntKind.wrap .i64 (A + (IntKind.wrap .i64 (i107 * B))))) (fun i s => by simp) (Int.toNat (6 - 0)) 0 (List.replicate 6 0)
    generalize iter (fun i107 (s106 : (List Int)) => s106.set i107.toNat (IntKind.wrap .i64 (A + (IntKind.wrap .i64 (i107 * B))))) (Int.toNat (6 - 0)) 0 (List.replicate 6 0) = q at hlen
    unfold p_spec_l2Own p_spec_l12Dicev1
    rw [if_pos (show 0 + (p.length : Int) ≤ 1000000000 by omega), Option.bind_some, List.nil_append, if_pos (by omega), if_pos (by omega), Option.bind_some]
    refine ⟨_, _, rfl, rfl, rfl, fun _ => ⟨rfl, fun d hd => ?_, by simp; omega, by simp⟩⟩
    rcases List.mem_append.1 hd with h | h
    · exact h6 d h
    · rw [List.mem_singleton.1 h, hlen]; simp
theorem delete_eq (h0 : 0 ≤ A) (hA : A ≤ (p.length : Int) - 1) : p_slices_Delete_6_int_6_int p A (IntKind.wrap .i64 (A + 1)) = some (p.take A.toNat ++ p.drop (A.toNat + 1)) := by
  have _u := And.intro hp1 (And.intro hp4 (And.intro h1 (And.intro h2 (And.intro hl (And.intro h6 hf)))))
  unfold p_slices_Delete_6_int_6_int
  rw [wrap_i64 (by omega) (by omega), if_pos h0, if_pos (by omega), if_pos (by omega), if_neg (by omega), if_pos (by omega)]
  obtain ⟨a, rfl⟩ : ∃ a : Nat, A = a := ⟨A.toNat, by omega⟩
  rw [show ((a : Int) + 1).toNat = a + 1 by omega, Int.toNat_natCast, Int.toNat_natCast]
  have e1 : (p.drop (a + 1)).take ((p.length : Int) - ((a : Int) + 1)).toNat = p.drop (a + 1) := List.take_of_length_le (by rw [List.length_drop]; omega)
  have e2 : (p.take a ++ p.drop (a + 1)).length = a + ((p.length : Int) - ((a : Int) + 1)).toNat := by
    rw [List.length_append, List.length_take, List.length_drop]; omega
  rw [e1]
  congr 1
  rw [List.take_append_of_le_length (by rw [List.length_take, List.length_append, e2]; omega), List.take_take, Nat.min_self, ← e2, List.take_left]
theorem turn5 : ∃ y z, p_spec_l12Make fu (p, (sd, (l, (tot, (best, (c, ())))))) (5, (A, (B, ()))) = some y ∧ p_impl_Tavern_turn (5, (A, (B, ()))) sd tot best c p l = some z ∧ Same c y z := by
  have _u := And.intro hp1 (And.intro hp4 (And.intro h1 (And.intro h2 (And.intro hl (And.intro h6 hf)))))
  unfold p_spec_l12Make p_impl_Tavern_turn p_impl_Tavern_take p_impl_Tavern_isPlace
  dsimp only
  rw [if_neg (show ¬ (5 : Int) = 1 by decide), if_neg (show ¬ (5 : Int) = 1 by decide), if_neg (show ¬ (5 : Int) = 2 by decide), if_neg (show ¬ (5 : Int) = 2 by decide), if_neg (show ¬ (5 : Int) = 3 by decide), if_neg (show ¬ (5 : Int) = 3 by decide), if_neg (show ¬ (5 : Int) = 4 by decide), if_neg (show ¬ (5 : Int) = 4 by decide), if_pos (show (5 : Int) = 5 from rfl), if_pos (show (5 : Int) = 5 from rfl), place_eq (fu := fu) hp1 hp4 h1 h2 hl h6 hf]
  by_cases hB : B = 0
  · rw [if_pos hB, decide_eq_true hB, Bool.not_true, Bool.or_false]
    by_cases hc : p_impl_within A 0 ((p.length : Int) - 1) = true
    · have hA : 0 ≤ A ∧ A ≤ (p.length : Int) - 1 := by rw [within_eq] at hc; exact of_decide_eq_true hc
      rw [if_pos hc, hc, Bool.not_true, if_neg (by simp), delete_eq (fu := fu) hp1 hp4 h1 h2 hl h6 hf hA.1 hA.2, Option.bind_some, Option.bind_some, if_pos (by omega), if_pos (by omega)]
      unfold p_spec_l2Own p_spec_l12Dicev1
      have hw : IntKind.wrap .i64 (A + 1) = A + 1 := wrap_i64 (by omega) (by omega)
      have ht : (p.take A.toNat).length = A.toNat := by rw [List.length_take]; omega
      rw [if_pos (show 0 + ((p.take A.toNat).length : Int) ≤ 1000000000 by omega), Option.bind_some, List.nil_append, hw, if_pos (by omega), if_pos (by omega), if_pos (by omega), show (A + 1).toNat = A.toNat + 1 by omega]
      refine ⟨_, _, rfl, rfl, rfl, fun _ => ⟨rfl, fun d hd => ?_, ?_, by simp⟩⟩
      · rcases List.mem_append.1 hd with h | h
        · exact h6 d (List.mem_of_mem_take h)
        · exact h6 d (List.mem_of_mem_drop h)
      · show (p.take A.toNat ++ p.drop (A.toNat + 1)).length ≤ 5
        rw [List.length_append, ht, List.length_drop]; omega
    · rw [if_neg hc, Bool.not_eq_true _ |>.mp hc, Bool.not_false, if_pos rfl, Option.bind_some]
      exact ⟨_, _, rfl, rfl, rfl, fun h => nomatch h⟩
  · rw [if_neg hB, decide_eq_false hB, Bool.not_false, Bool.or_true, if_pos rfl]
    exact ⟨_, _, rfl, rfl, rfl, fun h => nomatch h⟩
theorem turn6 : ∃ y z, p_spec_l12Make fu (p, (sd, (l, (tot, (best, (c, ())))))) (6, (A, (B, ()))) = some y ∧ p_impl_Tavern_turn (6, (A, (B, ()))) sd tot best c p l = some z ∧ Same c y z := by
  have _u := And.intro hp1 (And.intro hp4 (And.intro h1 (And.intro h2 (And.intro hl (And.intro h6 hf)))))
  unfold p_spec_l12Make p_impl_Tavern_turn
  dsimp only
  rw [if_neg (show ¬ (6 : Int) = 1 by decide), if_neg (show ¬ (6 : Int) = 1 by decide), if_neg (show ¬ (6 : Int) = 2 by decide), if_neg (show ¬ (6 : Int) = 2 by decide), if_neg (show ¬ (6 : Int) = 3 by decide), if_neg (show ¬ (6 : Int) = 3 by decide), if_neg (show ¬ (6 : Int) = 4 by decide), if_neg (show ¬ (6 : Int) = 4 by decide), if_neg (show ¬ (6 : Int) = 5 by decide), if_neg (show ¬ (6 : Int) = 5 by decide), if_pos (show (6 : Int) = 6 from rfl), if_pos (show (6 : Int) = 6 from rfl)]
  exact ⟨_, _, rfl, rfl, rfl, fun _ => ⟨rfl, h6, by show p.length ≤ 5; omega, by simp⟩⟩
theorem turn_eq (k : Int) : ∃ y z, p_spec_l12Make fu (p, (sd, (l, (tot, (best, (c, ())))))) (k, (A, (B, ()))) = some y ∧ p_impl_Tavern_turn (k, (A, (B, ()))) sd tot best c p l = some z ∧ Same c y z := by
  have _u := And.intro hp1 (And.intro hp4 (And.intro h1 (And.intro h2 (And.intro hl (And.intro h6 hf)))))
  by_cases k1 : k = 1
  · subst k1; exact turn1 hp1 hp4 h1 h2 hl h6 hf
  by_cases k2 : k = 2
  · subst k2; exact turn2 hp1 hp4 h1 h2 hl h6 hf
  by_cases k3 : k = 3
  · subst k3; exact turn3 hp1 hp4 h1 h2 hl h6 hf
  by_cases k4 : k = 4
  · subst k4; exact turn4 hp1 hp4 h1 h2 hl h6 hf
  by_cases k5 : k = 5
  · subst k5; exact turn5 hp1 hp4 h1 h2 hl h6 hf
  by_cases k6 : k = 6
  · subst k6; exact turn6 hp1 hp4 h1 h2 hl h6 hf
  unfold p_spec_l12Make p_impl_Tavern_turn
  dsimp only
  rw [if_neg k1, if_neg k1, if_neg k2, if_neg k2, if_neg k3, if_neg k3, if_neg k4, if_neg k4, if_neg k5, if_neg k5, if_neg k6, if_neg k6]
  exact ⟨_, _, rfl, rfl, rfl, fun h => nomatch h⟩
end
end Go.GA
