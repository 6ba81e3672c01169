/- Plain law of FnHolds. -/
import Derived.Test.YtheplbbbfbbjcaaHK12
namespace Go.GA
open Go
set_option maxRecDepth 100000
set_option linter.unusedSectionVars false
def EFour (fu : Nat) (d : List Int) (b h t : Int) (e ok : Bool) (k284 : Unit → Option Bool) : Option Bool := (if (ok && e) = true then (p_impl_HoldEnds fu d b h).bind (fun r508 => cnt (fun i511 (s510 : Bool) c512 _ => c512 (s510 || (decide ((r508.1.getD i511.toNat (0, ((List.replicate 2 0), ()))).1 = t)))) (fun i511 (s510 : Bool) => (if ((!r508.2) || (!s510)) = true then some false else k284 ())) (Int.toNat ((r508.1.length : Int) - 0)) 0 false) else k284 ())
theorem any_run {R : Type} (K : Bool → R) (t : Int) (l : List (Int × (List Int × Unit))) : cnt (fun i511 (s510 : Bool) c512 _ => c512 (s510 || (decide ((l.getD i511.toNat (0, ((List.replicate 2 0), ()))).1 = t)))) (fun i511 (s510 : Bool) => K s510) (Int.toNat ((l.length : Int) - 0)) 0 false = K (l.any (fun e => decide (e.1 = t))) := by
  rw [cnt_list (fun (e : Int × (List Int × Unit)) (s : Bool) (c : Bool → R) => c (s || decide (e.1 = t))) l (0, ((List.replicate 2 0), ())) (by omega) (fun _ _ _ _ _ => rfl)]
  have key : ∀ (l : List (Int × (List Int × Unit))) (s : Bool), lrun (fun (e : Int × (List Int × Unit)) (s : Bool) (c : Bool → R) => c (s || decide (e.1 = t))) K l s = K (s || l.any (fun e => decide (e.1 = t))) := by
    intro l
    induction l with
    | nil => intro s; simp [lrun]
    | cons e l ih =>
      intro s
      show lrun _ K l (s || decide (e.1 = t)) = _
      rw [ih, List.any_cons, Bool.or_assoc]
  rw [key, Bool.false_or]
theorem four_ok {d : List Int} (h6 : d.length = 6) {b h t : Int} {e ok : Bool} {fu : Nat} (hf : 100000000 < fu) (h1 : ok = true → p_impl_isTurn d b h = true) (h2 : ok = true → e = true → 0 ≤ t ∧ 0 < (en b d h.toNat).getD t.toNat 0) (K : Unit → Option Bool) : EFour fu d b h t e ok K = K () := by
  unfold EFour
  by_cases hc : (ok && e) = true
  · rw [if_pos hc]
    simp only [Bool.and_eq_true] at hc
    obtain ⟨⟨hr, hb⟩, g1, g2⟩ := (turn_iff _ _ _).1 (h1 hc.1)
    obtain ⟨G, rfl⟩ : ∃ G : Nat, h = (G : Int) := ⟨h.toNat, by omega⟩
    obtain ⟨t0, t1⟩ := h2 hc.1 hc.2
    rw [Int.toNat_natCast] at t1
    have hG1 : 1 ≤ G := by omega
    have hG : G ≤ 10 := by omega
    rw [(holdEnds_eq (b := b) h6 hr hG1 hG hf hb).1, Option.bind_some]
    simp only
    rw [any_run (fun s510 => (if ((!true) || (!s510)) = true then some false else K ())) t]
    have hlt : t.toNat < 41 := by
      have hl := (en_get (b := b) h6 hr hG1 hG hf).1
      by_cases hlt : t.toNat < 41
      · exact hlt
      · rw [List.getD_eq_getElem?_getD, List.getElem?_eq_none (by omega)] at t1
        simp at t1
    have hany : (eL (en b d G) (6 ^ G) 41).any (fun e => decide (e.1 = t)) = true := by
      rw [List.any_eq_true]
      refine ⟨eF (en b d G) (6 ^ G) t.toNat, ?_, ?_⟩
      · rw [eL_map]
        exact List.mem_map.2 ⟨t.toNat, (mem_eJ _ _).2 ⟨hlt, t1⟩, rfl⟩
      · rw [decide_eq_true_eq]
        show ((t.toNat : Nat) : Int) = t
        omega
    rw [hany, if_neg (by simp)]
  · rw [if_neg hc]
def ETop (fu : Nat) (d : List Int) (b best : Int) (most : List Int) (ok : Bool) (k287 : Unit → Option Bool) : Option Bool := (if ok = true then whl (fun (s438 : Int) c440 => (if s438 ≤ 10 then (p_impl_HoldMean fu d b s438).bind (fun r445 => (if (((!r445.2) || (decide ((IntKind.wrap .i64 ((most.getD 0 0) * (r445.1.getD 1 0))) < (IntKind.wrap .i64 ((r445.1.getD 0 0) * (most.getD 1 0)))))) || ((decide (s438 = best)) && (!(decide (r445.1 = most))))) = true then some false else c440 (s438 + 1))) else k287 ())) fu 1 else k287 ())
theorem top_any {d : List Int} (h6 : d.length = 6) (b : Int) {fu : Nat} (hf : 100000000 < fu) : ∃ i l ok, p_impl_BestHold fu d b = some (i, l, ok) ∧ p_spec_BestHold fu d b = some (i, l, ok) ∧ ∀ K, ETop fu d b i l ok K = K () := by
  by_cases ht : p_impl_isTurn d b 1 = true
  · obtain ⟨⟨hr, hb⟩, _, _⟩ := (turn_iff _ _ _).1 ht
    obtain ⟨t1, t2⟩ := best_eq (b := b) h6 hr hf hb
    refine ⟨_, _, _, t1, t2, fun K => ?_⟩
    unfold ETop
    rw [if_pos rfl]
    have hbm := bm_le (mH b d) 9
    have q2 := mH_le (b := b) h6 hr hf hbm.1 (by omega)
    have hp := p10 (k := 10) (Nat.le_refl _)
    suffices hh : ∀ (n h : Nat), 1 ≤ h → h ≤ 11 → 11 - h < n → whl (fun (s438 : Int) c440 => (if s438 ≤ 10 then (p_impl_HoldMean fu d b s438).bind (fun r445 => (if (((!r445.2) || (decide ((IntKind.wrap .i64 (((cutF (mH b d (bm (mH b d) 9)).toNat (6 ^ 10)).getD 0 0) * (r445.1.getD 1 0))) < (IntKind.wrap .i64 ((r445.1.getD 0 0) * ((cutF (mH b d (bm (mH b d) 9)).toNat (6 ^ 10)).getD 1 0)))))) || ((decide (s438 = ((bm (mH b d) 9 : Nat) : Int))) && (!(decide (r445.1 = (cutF (mH b d (bm (mH b d) 9)).toNat (6 ^ 10))))))) = true then some false else c440 (s438 + 1))) else K ())) n (h : Int) = K () by
      exact hh fu 1 (Nat.le_refl _) (by omega) (by omega)
    intro n
    induction n with
    | zero => intro h _ _ h3; omega
    | succ n ih =>
      intro h h1 h2 h3
      have ih' := ih (h + 1)
      rw [show ∀ (f : Int → (Int → Option Bool) → Option Bool) (z : Int), whl f (n + 1) z = f z (whl f n) from fun _ _ => rfl]
      generalize whl (fun (s438 : Int) c440 => (if s438 ≤ 10 then (p_impl_HoldMean fu d b s438).bind (fun r445 => (if (((!r445.2) || (decide ((IntKind.wrap .i64 (((cutF (mH b d (bm (mH b d) 9)).toNat (6 ^ 10)).getD 0 0) * (r445.1.getD 1 0))) < (IntKind.wrap .i64 ((r445.1.getD 0 0) * ((cutF (mH b d (bm (mH b d) 9)).toNat (6 ^ 10)).getD 1 0)))))) || ((decide (s438 = ((bm (mH b d) 9 : Nat) : Int))) && (!(decide (r445.1 = (cutF (mH b d (bm (mH b d) 9)).toNat (6 ^ 10))))))) = true then some false else c440 (s438 + 1))) else K ())) n = W at ih'
      by_cases hc : h ≤ 10
      · have q1 := mH_le (b := b) h6 hr hf h1 hc
        have hmax := bm_max (mH b d) 9 h h1 (by omega)
        rw [if_pos (by omega), (holdMean_eq (b := b) h6 hr h1 hc hf hb).1, Option.bind_some, cut_ten h6 hr hf h1 hc]
        simp only
        have hd : decide (IntKind.wrap .i64 ((cutF (mH b d (bm (mH b d) 9)).toNat (6 ^ 10)).getD 0 0 * (cutF (mH b d h).toNat (6 ^ 10)).getD 1 0) < IntKind.wrap .i64 ((cutF (mH b d h).toNat (6 ^ 10)).getD 0 0 * (cutF (mH b d (bm (mH b d) 9)).toNat (6 ^ 10)).getD 1 0)) = false := by
          rw [decide_eq_false_iff_not, less_cut q2.1 q1.1 hp.2 hp.1 q2.2 q1.2]
          omega
        rw [hd, if_neg]
        · exact ih' (by omega) (by omega) (by omega)
        · by_cases hi2 : (h : Int) = ((bm (mH b d) 9 : Nat) : Int)
          · have : h = bm (mH b d) 9 := by omega
            rw [← this]; simp
          · simp [hi2]
      · rw [if_neg (by omega)]
  · obtain ⟨n1, n2⟩ := best_none h6 ht fu
    exact ⟨_, _, _, n1, n2, fun K => rfl⟩
theorem ends_any {d : List Int} (h6 : d.length = 6) (b g : Int) {fu : Nat} (hf : 3656158440062976 < fu) : ∃ E m z ok, p_impl_HoldEnds fu d b g = some (E, ok) ∧ p_spec_HoldEnds fu d b g = some (E, ok) ∧ p_impl_HoldMean fu d b g = some (m, ok) ∧ p_spec_HoldMean fu d b g = some (m, ok) ∧ p_impl_BustChance fu d b g = some (z, ok) ∧ p_spec_BustChance fu d b g = some (z, ok) ∧ EEnd fu E E ok g m z = some true := by
  by_cases ht : p_impl_isTurn d b g = true
  · obtain ⟨⟨hr, hb⟩, g1, g2⟩ := (turn_iff _ _ _).1 ht
    obtain ⟨G, rfl⟩ : ∃ G : Nat, g = (G : Int) := ⟨g.toNat, by omega⟩
    have hG1 : 1 ≤ G := by omega
    have hG : G ≤ 10 := by omega
    obtain ⟨a1, a2⟩ := holdEnds_eq (b := b) h6 hr hG1 hG (fu := fu) (by omega) hb
    obtain ⟨b1, b2⟩ := holdMean_eq (b := b) h6 hr hG1 hG (fu := fu) (by omega) hb
    obtain ⟨c1, c2⟩ := bust_eq (b := b) h6 hr hG1 hG (fu := fu) (by omega) hb
    exact ⟨_, _, _, _, a1, a2, b1, b2, c1, c2, end_ok (b := b) h6 hr hG1 hG hf⟩
  · obtain ⟨a1, a2, b1, b2, c1, c2⟩ := none_turn h6 ht fu
    exact ⟨_, _, _, _, a1, a2, b1, b2, c1, c2, rfl⟩
theorem law_FnHolds {x : List Int} (hx : Bytes x) {fu : Nat} (hf : 3656158440062976 < fu) : p_laws_FnHolds fu x = some true := by
  obtain ⟨d, b, g, d1, d6⟩ := draw1 hx
  obtain ⟨e, b2, d2, e6⟩ := draw2 hx
  obtain ⟨d', b', h', l', d4, d6', _⟩ := draw4 hx (fu := fu) (by omega)
  obtain ⟨p, q, g', l2, d5, p6, q6, _⟩ := draw5 hx (fu := fu) (by omega)
  obtain ⟨E, m, z, ok1, t1, t2, t3, t4, t5, t6, t7⟩ := ends_any d6 b g hf
  obtain ⟨i, l, ok2, u1, u2, u3⟩ := top_any e6 b2 (fu := fu) (by omega)
  obtain ⟨t, u, en', ok3, v1, v2, v3⟩ := playTurn_any d6' b' h' l'
  obtain ⟨w, r, ok4, w1, w2, w3⟩ := playRace_any p6 q6 g' l2
  unfold p_laws_FnHolds
  by_cases hb : p_laws_rBig x = true
  · rw [if_pos hb]
  · rw [if_neg hb, d1, Option.bind_some, t1, Option.bind_some, t2, Option.bind_some, if_neg (by simp), t3, Option.bind_some, t4, Option.bind_some, if_neg (by simp), t5, Option.bind_some, t6, Option.bind_some, if_neg (by simp), d2, Option.bind_some, u1, Option.bind_some, u2, Option.bind_some, if_neg (by simp), d4, Option.bind_some]
    rw [turnS_eq d6', v1, Option.bind_some, Option.bind_some, if_neg (by simp), d5, Option.bind_some, w1, Option.bind_some, w2, Option.bind_some]
    rw [if_neg (by
      cases ok4
      · simp
      · by_cases hw : 0 < w
        · have := w3 rfl hw
          simp [this]
        · simp [hw])]
    show EFour fu d' b' h' t en' ok3 (fun _ => ETop fu e b2 i l ok2 (fun _ => EEnd fu E E ok1 g m z)) = some true
    rw [four_ok d6' (by omega) v2 v3, u3]
    exact t7
theorem pure_FnHolds {x : List Int} (o : OkT (.slice (.int .u8)) x) : ∃ fu, p_laws_FnHolds fu x = some true := by
  have hx : Bytes x := fun b hb => by
    have h : (Lit.int .u8 b).wf = true := o.2 b hb
    simp only [Lit.wf, Bool.and_eq_true, decide_eq_true_eq] at h
    have e1 : IntKind.u8.min = 0 := by decide
    have e2 : IntKind.u8.max = 255 := by decide
    rw [e1, e2] at h
    exact h
  exact ⟨10000000000000000, law_FnHolds hx (by omega)⟩
end Go.GA
