/- Plain law of FnBeats. -/
import Derived.Test.YtedakmknjbjlbaaBK11
namespace Go.GA
open Go
set_option maxRecDepth 100000
theorem cmpI (x y : List Int) : p_impl_CompareDice x y = some (if (p_impl_IsDie x && p_impl_IsDie y) = true then cmpL x y else List.replicate 3 0, (p_impl_IsDie x && p_impl_IsDie y)) := by
  unfold p_impl_CompareDice
  rw [compared_eq, Option.bind_some]
  cases p_impl_IsDie x <;> cases p_impl_IsDie y <;> rfl
theorem beatI (x y : List Int) : p_impl_DoesBeat x y = some ((p_impl_IsDie x && p_impl_IsDie y) && btB x y, (p_impl_IsDie x && p_impl_IsDie y)) := by
  rw [doesBeat_impl]
  cases p_impl_IsDie x <;> cases p_impl_IsDie y <;> cases btB x y <;> rfl
theorem coverI (x y : List Int) : (p_impl_DoesCover x y).2 = (p_impl_IsDie x && p_impl_IsDie y) := by
  unfold p_impl_DoesCover
  cases p_impl_IsDie x <;> cases p_impl_IsDie y
  · rfl
  · rfl
  · rfl
  · rw [if_neg (by simp)]
    refine cnt_ind0 (S := Unit) 6 (fun _ _ => True) (fun (r : Bool × Bool) => r.2 = (true && true)) rfl trivial (fun _ _ => rfl) (fun i s c _ _ hc => ?_)
    split
    · rfl
    · exact hc _ trivial
def EFin (d e c : List Int) (ok b : Bool) : Option Bool := (if ok = true then (p_impl_CompareDice e d).bind (fun r223 => (p_impl_DoesBeat e d).bind (fun r224 => some ((((((r223.2 && r224.2) && (decide ((IntKind.wrap .i64 ((IntKind.wrap .i64 ((c.getD 0 0) + (c.getD 1 0))) + (c.getD 2 0))) = 36))) && (decide ((r223.1.getD 0 0) = (c.getD 2 0)))) && (decide ((r223.1.getD 2 0) = (c.getD 0 0)))) && (!(b && r224.1))) && (!(((p_impl_DoesCover d e).1) && r224.1))))) else some true)
theorem fin_ok {d e : List Int} (hd : d.length = 6) (he : e.length = 6) : EFin d e (if (p_impl_IsDie d && p_impl_IsDie e) = true then cmpL d e else List.replicate 3 0) (p_impl_IsDie d && p_impl_IsDie e) ((p_impl_IsDie d && p_impl_IsDie e) && btB d e) = some true := by
  unfold EFin
  by_cases h : (p_impl_IsDie d && p_impl_IsDie e) = true
  · have h' : (p_impl_IsDie e && p_impl_IsDie d) = true := by rw [Bool.and_comm]; exact h
    rw [cmpI, beatI, h, h', Option.bind_some, Option.bind_some]
    obtain ⟨f1, f2, f3, f4, f5, f6⟩ := cmp_facts hd he
    rw [if_pos rfl]
    simp only [if_true]
    rw [wr (n := (cmpL d e).getD 0 0 + (cmpL d e).getD 1 0) (by omega) (by omega), wr (by omega) (by omega), f1, f5, f6]
    have nb : (btB d e && btB e d) = false := by
      unfold btB
      rw [f5, f6]
      simp
      omega
    have nc : ((p_impl_DoesCover d e).1 && btB e d) = false := by
      cases hc : (p_impl_DoesCover d e).1
      · rfl
      · rw [cover_beat hd he hc]; rfl
    simp only [Bool.true_and]
    rw [nb, nc]
    simp
  · rw [if_neg h]
def EShift (d e : List Int) (q : Int) (ls : Bool) (k220 : Unit → Option Bool) : Option Bool := (if ls = true then (p_impl_DoesBeat ((p_impl_ShiftDie d q).1) e).bind (fun r463 => (if (((!((p_impl_ShiftDie d q).2)) || (!r463.2)) || (!r463.1)) = true then some false else (if 0 < q then (p_impl_DoesBeat ((p_impl_ShiftDie d (IntKind.wrap .i64 (q - 1))).1) e).bind (fun r480 => (if (((!((p_impl_ShiftDie d (IntKind.wrap .i64 (q - 1))).2)) || (!r480.2)) || r480.1) = true then some false else k220 ())) else k220 ()))) else k220 ())
theorem shiftE_ok {d e : List Int} (hd : d.length = 6) {q : Int} {ls : Bool} (h1 : ls = true → p_impl_IsDie d = true ∧ p_impl_IsDie e = true) (h2 : LeastQ d e q ls) (K : Unit → Option Bool) : EShift d e q ls K = K () := by
  unfold EShift
  by_cases h : ls = true
  · rw [if_pos h]
    obtain ⟨i1, i2⟩ := h1 h
    obtain ⟨l1, l2, l3, l4⟩ := h2 h
    have hl := last_face hd i1
    obtain ⟨s1, s2⟩ := shiftDie_ok hd i1 l1 l2
    rw [s1]
    simp only
    rw [beatI, s2, i2, l3, Option.bind_some, if_neg (by simp)]
    by_cases hq : 0 < q
    · rw [if_pos hq, wr (by omega) (by omega)]
      obtain ⟨t1, t2⟩ := shiftDie_ok hd i1 (q := q - 1) (by omega) (by omega)
      rw [t1]
      simp only
      rw [beatI, t2, i2, l4 hq, Option.bind_some, if_neg (by simp)]
    · rw [if_neg hq]
  · rw [if_neg h]
def EChance (fu : Nat) (P Q : List (List Int)) (r l : List Int) (pk : Bool) (k217 : Unit → Option Bool) : Option Bool := (if pk = true then (p_impl_ChanceToBeat fu Q P).bind (fun r492 => if ((!(!r492.2)) = true → (p_laws_rPlus fu r r492.1).isSome = true) then if ((!(!r492.2)) = true → (p_laws_rPlus fu ((p_laws_rPlus fu r r492.1).getD (List.replicate 2 0)) l).isSome = true) then (if ((!r492.2) || (!(decide (((p_laws_rPlus fu ((p_laws_rPlus fu r r492.1).getD (List.replicate 2 0)) l).getD (List.replicate 2 0)) = [1, 1])))) = true then some false else k217 ()) else none else none) else k217 ())
theorem chance_all {P Q : List (List Int)} (hP : Six P) (hQ : Six Q) {fu : Nat} (hf : 2821109907456 < fu) : ∃ r l, p_impl_ChanceToBeat fu P Q = some (r, (p_impl_IsPool P && p_impl_IsPool Q)) ∧ p_spec_ChanceToBeat fu P Q = some (r, (p_impl_IsPool P && p_impl_IsPool Q)) ∧ p_impl_ChanceLevel fu P Q = some (l, (p_impl_IsPool P && p_impl_IsPool Q)) ∧ p_spec_ChanceLevel fu P Q = some (l, (p_impl_IsPool P && p_impl_IsPool Q)) ∧ ∀ K, EChance fu P Q r l (p_impl_IsPool P && p_impl_IsPool Q) K = K () := by
  by_cases h : (p_impl_IsPool P && p_impl_IsPool Q) = true
  · have hh := h
    simp only [Bool.and_eq_true] at hh
    obtain ⟨pP, pQ⟩ := hh
    obtain ⟨_, mP, dP⟩ := pool_good hP pP
    obtain ⟨_, mQ, dQ⟩ := pool_good hQ pQ
    obtain ⟨T, i1, i2, i3⟩ := table_eq mP dP
    obtain ⟨U, j1, j2, j3⟩ := table_eq mQ dQ
    obtain ⟨b1, b2⟩ := beat_pool hP hQ pP pQ i1 i2 i3 j1 j2 j3 (fu := fu) (by omega)
    obtain ⟨v1, v2⟩ := level_pool hP hQ pP pQ i1 i2 i3 j1 j2 j3 (fu := fu) (by omega)
    obtain ⟨w1, _⟩ := beat_pool hQ hP pQ pP j1 j2 j3 i1 i2 i3 (fu := fu) (by omega)
    refine ⟨_, _, by rw [h]; exact b1, by rw [h]; exact b2, by rw [h]; exact v1, by rw [h]; exact v2, fun K => ?_⟩
    unfold EChance
    rw [if_pos h, w1, Option.bind_some]
    have hp := pow_le8 mP mQ
    have t3 := three_all T U 121
    rw [tk_all i3, tk_all j3, ← Int.natCast_mul, ← Nat.pow_add] at t3
    have n1 := wb_nn i3.nn j3.nn 121
    have n2 := wb_nn j3.nn i3.nn 121
    have n3 := lv_nn i3.nn j3.nn 121
    have eN : Q.length + P.length = P.length + Q.length := Nat.add_comm _ _
    simp only
    rw [eN]
    have a1 := plus_cut (fu := fu) (x := (wb T U 121).toNat) (y := (wb U T 121).toNat) (N := 6 ^ (P.length + Q.length)) (by omega) (by omega) hp.2 hp.1 hf
    have a2 := plus_cut (fu := fu) (x := (wb T U 121).toNat + (wb U T 121).toNat) (y := (lv T U 121).toNat) (N := 6 ^ (P.length + Q.length)) (by omega) (by omega) hp.2 hp.1 hf
    rw [a1, Option.getD_some, a2, Option.getD_some]
    rw [if_pos (by simp), if_pos (by simp)]
    have eS : (wb T U 121).toNat + (wb U T 121).toNat + (lv T U 121).toNat = 6 ^ (P.length + Q.length) := by omega
    rw [eS, cut_one hp.2, if_neg (by simp)]
  · have h' : (p_impl_IsPool P && p_impl_IsPool Q) = false := by simpa using h
    obtain ⟨n1, n2, n3, n4⟩ := beat_none hP hQ h' fu
    refine ⟨_, _, by rw [h']; exact n1, by rw [h']; exact n2, by rw [h']; exact n3, by rw [h']; exact n4, fun K => ?_⟩
    unfold EChance
    rw [if_neg h]
theorem law_FnBeats {x : List Int} (hx : Bytes x) {fu : Nat} (hf : 2821109907456 < fu) : p_laws_FnBeats fu x = some true := by
  obtain ⟨d, e, d1, hd, he⟩ := draw1 hx
  obtain ⟨P, Q, d2, hP, hQ⟩ := draw2 hx (fu := fu) (by omega)
  obtain ⟨q, ls, s1, s2, s3, s4⟩ := least_eq hd he (fu := fu) (by omega)
  obtain ⟨r, l, r1, r2, r3, r4, r5⟩ := chance_all hP hQ hf
  unfold p_laws_FnBeats
  by_cases hb : p_laws_rBig x = true
  · rw [if_pos hb]
  · rw [if_neg hb, d1, Option.bind_some, compareDice_eq hd he, cmpI, Option.bind_some, Option.bind_some, if_neg (by simp), doesBeat_eq hd he, beatI, Option.bind_some, Option.bind_some]
    rw [if_neg (by
      unfold btB
      cases hk : (p_impl_IsDie d && p_impl_IsDie e) <;> simp [hk])]
    rw [doesCover_eq hd he, Option.bind_some, if_neg (by simp [coverI]), s1, Option.bind_some, s2, Option.bind_some, if_neg (by simp), d2, Option.bind_some, r1, Option.bind_some, r2, Option.bind_some, if_neg (by simp), r3, Option.bind_some, r4, Option.bind_some, if_neg (by simp)]
    show EChance fu P Q r l (p_impl_IsPool P && p_impl_IsPool Q) (fun _ => EShift d e q ls (fun _ => EFin d e (if (p_impl_IsDie d && p_impl_IsDie e) = true then cmpL d e else List.replicate 3 0) (p_impl_IsDie d && p_impl_IsDie e) ((p_impl_IsDie d && p_impl_IsDie e) && btB d e))) = some true
    rw [r5, shiftE_ok hd s3 s4]
    exact fin_ok hd he
theorem pure_FnBeats {x : List Int} (o : OkT (.slice (.int .u8)) x) : ∃ fu, p_laws_FnBeats fu x = some true := by
  have hx : Bytes x := fun b hb => by
    have h : (Lit.int .u8 b).wf = true := o.2 b hb
    simp only [Lit.wf, Bool.and_eq_true, decide_eq_true_eq] at h
    have e1 : IntKind.u8.min = 0 := by decide
    have e2 : IntKind.u8.max = 255 := by decide
    rw [e1, e2] at h
    exact h
  exact ⟨10000000000000, law_FnBeats hx (by omega)⟩
end Go.GA
