/- Plain law of FnPairForms. -/
import Derived.Test.YtebdkchfblddeaaPK11
namespace Go.GA
open Go
set_option maxRecDepth 100000
set_option linter.unusedSectionVars false
abbrev Pr := List Int × (List Int × Unit)
def zeroP : Pr := (List.replicate 6 0, (List.replicate 6 0, ()))
theorem pr_eta (x : Pr) : (x.1, (x.2.1, ())) = x := rfl
theorem shape_eq {A B : List Int} (hA : A.length = 6) (hB : B.length = 6) : p_impl_ShapeOf (A, (B, ())) = (if p_impl_IsPair (A, (B, ())) = true then prO (bse A) (bse B) else zeroP, p_impl_IsPair (A, (B, ()))) ∧ p_spec_ShapeOf (A, (B, ())) = some (if p_impl_IsPair (A, (B, ())) = true then prO (bse A) (bse B) else zeroP, p_impl_IsPair (A, (B, ()))) := by
  by_cases h : p_impl_IsPair (A, (B, ())) = true
  · have hh := h
    rw [isPair_eq hA hB] at hh
    simp only [Bool.and_eq_true] at hh
    have dA := die6_of hA hh.1.1
    have dB := die6_of hB hh.1.2
    constructor
    · unfold p_impl_ShapeOf
      simp only
      rw [if_pos h, if_pos h, h, base_I dA, base_I dB, pairI_eq (bse_die dA).len (bse_die dB).len]
    · unfold p_spec_ShapeOf
      simp only
      rw [good_eq hA hB, Option.bind_some, if_pos h, if_pos h, h, base_S dA, base_S dB, pairS_eq (bse_die dA).len (bse_die dB).len]
  · have h' : p_impl_IsPair (A, (B, ())) = false := by simpa using h
    constructor
    · unfold p_impl_ShapeOf
      simp only
      rw [if_neg h, if_neg h, h']; rfl
    · unfold p_spec_ShapeOf
      simp only
      rw [good_eq hA hB, Option.bind_some, if_neg h, if_neg h, h']; rfl
theorem mirror_I {A B : List Int} (hA : A.length = 6) (hB : B.length = 6) : p_impl_MirrorPair (A, (B, ())) = (if p_impl_IsPair (A, (B, ())) = true then prO (opp A) (opp B) else zeroP, p_impl_IsPair (A, (B, ()))) := by
  by_cases h : p_impl_IsPair (A, (B, ())) = true
  · have hh := h
    rw [isPair_eq hA hB] at hh
    simp only [Bool.and_eq_true] at hh
    have dA := die6_of hA hh.1.1
    have dB := die6_of hB hh.1.2
    unfold p_impl_MirrorPair
    simp only
    rw [if_pos h, if_pos h, h, opp_I dA, opp_I dB, pairI_eq (opp_die dA).len (opp_die dB).len]
  · have h' : p_impl_IsPair (A, (B, ())) = false := by simpa using h
    unfold p_impl_MirrorPair
    simp only
    rw [if_neg h, if_neg h, h']; rfl
theorem mirror_S {A B : List Int} (hA : A.length = 6) (hB : B.length = 6) : p_spec_MirrorPair (A, (B, ())) = some (p_impl_MirrorPair (A, (B, ()))) := by
  rw [mirror_I hA hB]
  by_cases h : p_impl_IsPair (A, (B, ())) = true
  · have hh := h
    rw [isPair_eq hA hB] at hh
    simp only [Bool.and_eq_true] at hh
    have dA := die6_of hA hh.1.1
    have dB := die6_of hB hh.1.2
    unfold p_spec_MirrorPair
    simp only
    rw [good_eq hA hB, Option.bind_some, if_pos h, if_pos h, h, opp_S dA hh.1.1, Option.bind_some, opp_S dB hh.1.2, Option.bind_some]
    simp only
    rw [pairS_eq (opp_die dA).len (opp_die dB).len]
  · have h' : p_impl_IsPair (A, (B, ())) = false := by simpa using h
    unfold p_spec_MirrorPair
    simp only
    rw [good_eq hA hB, Option.bind_some, if_neg h, if_neg h, h']; rfl
theorem base_eq {d : List Int} (h6 : d.length = 6) : p_spec_BaseOf d = some (p_impl_BaseOf d) := by
  unfold p_spec_BaseOf p_impl_BaseOf
  rw [l2Die_eq h6, Option.bind_some]
  by_cases h : p_impl_IsDie d = true
  · have hd := die6_of h6 h
    rw [if_pos h, if_pos h, base_I hd, base_S hd]
  · rw [if_neg h, if_neg h]
theorem pairOf_I {A B : List Int} (hA : A.length = 6) (hB : B.length = 6) : p_impl_PairOf A B = (if (p_impl_IsDie A && p_impl_IsDie B) = true then prO A B else zeroP, (p_impl_IsDie A && p_impl_IsDie B)) := by
  unfold p_impl_PairOf
  rw [pairI_eq hA hB]
  cases p_impl_IsDie A <;> cases p_impl_IsDie B <;> rfl
theorem pairOf_S {A B : List Int} (hA : A.length = 6) (hB : B.length = 6) : p_spec_PairOf A B = some (p_impl_PairOf A B) := by
  rw [pairOf_I hA hB]
  unfold p_spec_PairOf
  rw [l2Die_eq hA, l2Die_eq hB, Option.bind_some, if_pos (by simp), Option.getD_some, pairS_eq hA hB]
  cases p_impl_IsDie A <;> cases p_impl_IsDie B <;> rfl
theorem zero_pair : p_impl_IsPair zeroP = true := by decide
theorem pairOf_pair {A B : List Int} (hA : A.length = 6) (hB : B.length = 6) : p_impl_IsPair ((p_impl_PairOf A B).1.1, ((p_impl_PairOf A B).1.2.1, ())) = true := by
  rw [pairOf_I hA hB]
  by_cases h : (p_impl_IsDie A && p_impl_IsDie B) = true
  · simp only
    rw [if_pos h]
    simp only [Bool.and_eq_true] at h
    exact prO_pair (die6_of hA h.1) (die6_of hB h.2)
  · simp only
    rw [if_neg h]
    exact zero_pair
theorem two_pool {A B : List Int} (dA : Die6 A) (dB : Die6 B) : Six [A, B] ∧ p_impl_IsPool [A, B] = true := by
  refine ⟨six_two dA.len dB.len, ?_⟩
  unfold p_impl_IsPool
  rw [dies_all, pwithin_eq, List.all_cons, List.all_cons, die_of6 dA, die_of6 dB]
  rfl
theorem spread_two {A B : List Int} (dA : Die6 A) (dB : Die6 B) {fu : Nat} (hf : 2000 < fu) : p_impl_SpreadOf fu [A, B] = some (cutF (spr A + spr B).toNat 36, true) := by
  obtain ⟨h6, hp⟩ := two_pool dA dB
  rw [spread_eq h6 hp hf]
  have e : ([A, B] : List (List Int)).foldl fV 0 = spr A + spr B := by
    show (0 + (6 * sq A - A.sum * A.sum)) + (6 * sq B - B.sum * B.sum) = spr A + spr B
    unfold spr; omega
  rw [e]
theorem spread_prO {A B : List Int} (dA : Die6 A) (dB : Die6 B) {fu : Nat} (hf : 2000 < fu) : p_impl_SpreadOf fu [(prO A B).1, (prO A B).2.1] = some (cutF (spr A + spr B).toNat 36, true) := by
  rcases prO_or A B with ⟨e, _⟩ | ⟨e, _⟩
  · rw [e]; exact spread_two dA dB hf
  · rw [e]
    have := spread_two dB dA hf
    rw [Int.add_comm] at this
    exact this
def EPair (fu : Nat) (x : Pr) (sh mi : Pr × Bool) (ok : Bool) : Option Bool := (if ok = true then (p_impl_SpreadOf fu [x.1, x.2.1]).bind (fun r156 => (p_impl_SpreadOf fu [mi.1.1, mi.1.2.1]).bind (fun r157 => (p_impl_SpreadOf fu [sh.1.1, sh.1.2.1]).bind (fun r158 => some (((((((r156.2 && r157.2) && r158.2) && ((p_impl_MirrorPair (mi.1.1, (mi.1.2.1, ()))).2)) && (decide (r156.1 = r157.1))) && (decide (r156.1 = r158.1))) && (eqT (.pair (.arr 6 (.int .i64)) (.pair (.arr 6 (.int .i64)) .unit)) (((p_impl_MirrorPair (mi.1.1, (mi.1.2.1, ()))).1.1, ((p_impl_MirrorPair (mi.1.1, (mi.1.2.1, ()))).1.2.1, ())) : ((List Int) × ((List Int) × Unit))) ((x.1, (x.2.1, ())) : ((List Int) × ((List Int) × Unit))))) && (decide ((sh.1.1.getD 0 0) = 0)))))) else some true)
theorem pair_ok {A B : List Int} (hA : A.length = 6) (hB : B.length = 6) {fu : Nat} (hf : 2000 < fu) : EPair fu (A, (B, ())) (p_impl_ShapeOf (A, (B, ()))) (p_impl_MirrorPair (A, (B, ()))) (p_impl_ShapeOf (A, (B, ()))).2 = some true := by
  unfold EPair
  rw [(shape_eq hA hB).1, mirror_I hA hB]
  by_cases h : p_impl_IsPair (A, (B, ())) = true
  · have hh := h
    rw [isPair_eq hA hB] at hh
    simp only [Bool.and_eq_true, decide_eq_true_eq] at hh
    have dA := die6_of hA hh.1.1
    have dB := die6_of hB hh.1.2
    have oA := opp_die dA
    have oB := opp_die dB
    simp only
    rw [if_pos h, if_pos h, if_pos h]
    rw [spread_two dA dB hf, Option.bind_some, spread_prO oA oB hf, Option.bind_some, spread_prO (bse_die dA) (bse_die dB) hf, Option.bind_some]
    rw [spr_opp dA, spr_opp dB, spr_bse dA, spr_bse dB]
    have hback : p_impl_MirrorPair ((prO (opp A) (opp B)).1, ((prO (opp A) (opp B)).2.1, ())) = ((A, (B, ())), true) := by
      have hpr := prO_pair oA oB
      rcases prO_or (opp A) (opp B) with ⟨e, _⟩ | ⟨e, _⟩
      · rw [e] at hpr ⊢
        rw [mirror_I oA.len oB.len, if_pos hpr, hpr, opp_opp dA, opp_opp dB, prO_le hh.2]
      · rw [e] at hpr ⊢
        rw [mirror_I oB.len oA.len, if_pos hpr, hpr, opp_opp dA, opp_opp dB, prO_ge (by rw [hA, hB]) hh.2]
    rw [hback, eqT_pair]
    have hz : (prO (bse A) (bse B)).1.getD 0 0 = 0 := by
      rcases prO_or (bse A) (bse B) with ⟨e, _⟩ | ⟨e, _⟩
      · rw [e]; exact bse_zero dA
      · rw [e]; exact bse_zero dB
    rw [hz]
    simp
  · rw [if_neg h]
theorem law_FnPairForms {x : List Int} (hx : Bytes x) {fu : Nat} (hf : 2821109907456 < fu) : p_laws_FnPairForms fu x = some true := by
  obtain ⟨A, B, d1, hA, hB⟩ := draw1 hx (fu := fu) (by omega)
  obtain ⟨d, d2, hd⟩ := draw2 hx
  obtain ⟨a, b, d3, ha, hb⟩ := draw3 hx
  obtain ⟨p, d4, hp⟩ := draw4 hx (fu := fu) (by omega)
  obtain ⟨q, d5, hq⟩ := draw5 hx (fu := fu) (by omega)
  obtain ⟨r, d6, hr⟩ := draw6 hx (fu := fu) (by omega)
  obtain ⟨D, ok1, o1, o2, o3⟩ := one_any hp (fu := fu) (by omega)
  obtain ⟨s, s1, s2⟩ := sym_any hq (fu := fu) (by omega)
  obtain ⟨e, ok2, e1, e2, e3⟩ := even_any hr hf
  unfold p_laws_FnPairForms
  by_cases hbig : p_laws_rBig x = true
  · rw [if_pos hbig]
  · rw [if_neg hbig, d1, Option.bind_some]
    have hs2 := (shape_eq hA hB).2
    have hs1 := (shape_eq hA hB).1
    rw [← hs1] at hs2
    have hsok : (p_impl_ShapeOf (A, (B, ()))).2 = p_impl_IsPair (A, (B, ())) := by rw [hs1]
    have hmok : (p_impl_MirrorPair (A, (B, ()))).2 = (p_impl_ShapeOf (A, (B, ()))).2 := by rw [hsok, mirror_I hA hB]
    simp only
    rw [hs2, Option.bind_some, eqT_pair, if_neg (by rw [hsok]; simp), mirror_S hA hB, Option.bind_some, eqT_pair, if_neg (by rw [hmok]; simp), d2, Option.bind_some, base_eq hd, Option.bind_some, if_neg (by simp), d3, Option.bind_some]
    simp only
    have hpok : (p_impl_PairOf a b).2 = (p_impl_IsDie a && p_impl_IsDie b) := by rw [pairOf_I ha hb]
    rw [pairOf_S ha hb, Option.bind_some, eqT_pair, pairOf_pair ha hb, if_neg (by rw [hpok]; simp), d4, Option.bind_some, o1, Option.bind_some, o2, Option.bind_some, if_neg (by simp), d5, Option.bind_some, s1, Option.bind_some, s2, Option.bind_some, if_neg (by simp), d6, Option.bind_some, e1, Option.bind_some, e2, Option.bind_some, if_neg (by simp)]
    show EOne fu D p ok1 (fun _ => EEven fu r e ok2 (fun _ => EPair fu (A, (B, ())) (p_impl_ShapeOf (A, (B, ()))) (p_impl_MirrorPair (A, (B, ()))) (p_impl_ShapeOf (A, (B, ()))).2)) = some true
    rw [o3, e3]
    exact pair_ok hA hB (by omega)
theorem pure_FnPairForms {x : List Int} (o : OkT (.slice (.int .u8)) x) : ∃ fu, p_laws_FnPairForms fu x = some true := by
  have hx : Bytes x := fun b hb => by
    have h : (Lit.int .u8 b).wf = true := o.2 b hb
    simp only [Lit.wf, Bool.and_eq_true, decide_eq_true_eq] at h
    have e1 : IntKind.u8.min = 0 := by decide
    have e2 : IntKind.u8.max = 255 := by decide
    rw [e1, e2] at h
    exact h
  exact ⟨10000000000000, law_FnPairForms hx (by omega)⟩
end Go.GA
