/- Plain law of FnRuns. -/
import Derived.Test.YtheplbbbfbbjcaaRK13
namespace Go.GA
open Go
set_option maxRecDepth 100000
set_option linter.unusedSectionVars false
theorem pairs_self (l : List (List Int)) : p_laws_rPairs l l = true := by
  unfold p_laws_rPairs
  rw [if_pos rfl]
  refine cnt_ind0 (S := Unit) l.length (fun _ _ => True) (fun r => r = true) (by omega) trivial (fun _ _ => rfl) (fun i s c hi _ hc => ?_)
  rw [if_pos rfl]
  exact hc _ trivial
def EEnd (fu : Nat) (t : List (List Int)) (ok : Bool) (g : Int) (m : List Int) : Option Bool := (if ok = true then cnt (fun i142 (s141 : (List Int) × (List Int)) c143 _ => (p_laws_rPlus fu s141.1 (t.getD i142.toNat (List.replicate 2 0))).bind (fun r148 => (p_laws_rPlus fu s141.2 [(IntKind.wrap .i64 (((t.getD i142.toNat (List.replicate 2 0)).getD 0 0) * (i142 + 1))), ((t.getD i142.toNat (List.replicate 2 0)).getD 1 0)]).bind (fun r149 => c143 (r148, r149)))) (fun i142 (s141 : (List Int) × (List Int)) => some (((decide ((t.length : Int) = g)) && (decide (s141.1 = [1, 1]))) && (decide (s141.2 = m)))) (Int.toNat ((t.length : Int) - 0)) 0 ([0, 1], [0, 1]) else some true)
theorem end_ok {d : List Int} (h6 : d.length = 6) (hr : p_impl_isRunner d = true) {G : Nat} (h1 : 1 ≤ G) (hG : G ≤ 8) {fu : Nat} (hf : 2821109907456 < fu) : EEnd fu (tabF (outI d G G) (6 ^ G)) true (G : Int) (cutF (mu (outI d G G) G).toNat (6 ^ G)) = some true := by
  have h := rl_get h6 hr h1 hG (fu := fu) (by omega)
  have hp := p8 hG
  have hl : (tabF (outI d G G) (6 ^ G)).length = G := by unfold tabF; rw [List.length_map, h.lenX]
  unfold EEnd
  rw [if_pos rfl, hl]
  refine cnt_ind0 (S := List Int × List Int) G (fun i s => s.1 = cutF (tk (outI d G G) i).toNat (6 ^ G) ∧ s.2 = cutF (mu (outI d G G) i).toNat (6 ^ G)) (fun r => r = some true) (by omega) ⟨(cut_zero hp.2).symm, (cut_zero hp.2).symm⟩ (fun s hs => ?_) (fun i s c hi hs hc => ?_)
  · rw [hs.1, hs.2, tk_all h.lenX, h.sum, Int.toNat_natCast, cut_one hp.2]
    simp
  · have hnn := nn_of h.nn
    have g := getD_nn h.nn i
    have t0 := tk_nn hnn i
    have t1 := tk_mono hnn (i := i + 1) (G - (i + 1))
    rw [show i + 1 + (G - (i + 1)) = G by omega, tk_all h.lenX, h.sum] at t1
    simp only [tk] at t1
    have u0 := mu_le hnn i (by omega)
    have et : (tabF (outI d G G) (6 ^ G)).getD i (List.replicate 2 0) = cutF ((outI d G G).getD i 0).toNat (6 ^ G) := by
      have hlt : i < (outI d G G).length := by rw [h.lenX]; exact hi
      unfold tabF
      rw [List.getD_eq_getElem?_getD, List.getElem?_map, List.getElem?_eq_getElem hlt, List.getD_eq_getElem?_getD, List.getElem?_eq_getElem hlt]
      rfl
    obtain ⟨p, q, z, e, hz, q1, q2, q3, q4, q5⟩ := cut_parts ((outI d G G).getD i 0).toNat (6 ^ G) hp.2
    have hpq : p * 6 ^ G = ((outI d G G).getD i 0).toNat * q := by
      have h3 : p * 6 ^ G = p * (z * q) := by rw [← q2]
      rw [h3, q1]; simp only [Nat.mul_assoc, Nat.mul_comm, Nat.mul_left_comm]
    have hp8 : p * (i + 1) ≤ 1679616 * 8 := Nat.mul_le_mul (by omega) (by omega)
    rw [Int.toNat_natCast, et, e, hs.1, hs.2]
    have a1 := plus_cut (fu := fu) (x := (tk (outI d G G) i).toNat) (y := ((outI d G G).getD i 0).toNat) (N := 6 ^ G) (p := p) (q := q) (by omega) (by omega) q5 q3 hp.2 hp.1 hpq hf
    have a2 := plus_cut (fu := fu) (x := (mu (outI d G G) i).toNat) (y := ((outI d G G).getD i 0).toNat * (i + 1)) (N := 6 ^ G) (p := p * (i + 1)) (q := q) (by omega) (by omega) q5 q3 hp.2 hp.1 (by rw [Nat.mul_right_comm, hpq]; simp only [Nat.mul_assoc, Nat.mul_comm, Nat.mul_left_comm]) hf
    have ew : IntKind.wrap .i64 (([(p : Int), (q : Int)] : List Int).getD 0 0 * ((i : Int) + 1)) = ((p * (i + 1) : Nat) : Int) := by
      show IntKind.wrap .i64 ((p : Int) * ((i : Int) + 1)) = _
      rw [show (p : Int) * ((i : Int) + 1) = ((p * (i + 1) : Nat) : Int) by rw [Int.natCast_mul]; rfl, wrap_nat (by omega)]
    rw [a1, Option.bind_some, ew]
    refine Eq.trans (b := ((p_laws_rPlus fu (cutF (mu (outI d G G) i).toNat (6 ^ G)) [((p * (i + 1) : Nat) : Int), (q : Int)]).bind (fun r149 => c (cutF ((tk (outI d G G) i).toNat + ((outI d G G).getD i 0).toNat) (6 ^ G), r149)))) rfl ?_
    rw [a2, Option.bind_some]
    refine hc _ ⟨?_, ?_⟩
    · simp only [tk]
      congr 1
      omega
    · simp only [mu]
      congr 1
      have e5 : (((outI d G G).getD i 0).toNat * (i + 1) : Nat) = (((i : Int) + 1) * (outI d G G).getD i 0).toNat := by
        apply Int.ofNat.inj
        show ((((outI d G G).getD i 0).toNat * (i + 1) : Nat) : Int) = (((((i : Int) + 1) * (outI d G G).getD i 0).toNat : Nat) : Int)
        rw [Int.natCast_mul, Int.toNat_of_nonneg g.1, Int.toNat_of_nonneg (Int.mul_nonneg (by omega) g.1), Int.mul_comm]
        rfl
      have e6 : 0 ≤ ((i : Int) + 1) * (outI d G G).getD i 0 := Int.mul_nonneg (by omega) g.1
      rw [e5]
      omega
/-- a die and a goal that are told of -/
def Good (d : List Int) (g : Int) : Prop := p_impl_isRunner d = true ∧ 1 ≤ g ∧ g ≤ 8
theorem bad_cond {d : List Int} {g : Int} (h : ¬ Good d g) : ((!(p_impl_isRunner d)) || (!decide (1 ≤ g ∧ g ≤ 8))) = true := by
  unfold Good at h
  cases h1 : p_impl_isRunner d <;> simp [h1] at h ⊢
  omega
theorem table_any {d : List Int} (h6 : d.length = 6) (g : Int) {fu : Nat} (hf : 2821109907456 < fu) : ∃ t m ok, p_impl_RunTable fu d g = some (t, ok) ∧ p_spec_RunTable fu d g = some (t, ok) ∧ p_impl_MeanRun fu d g = some (m, ok) ∧ p_spec_MeanRun fu d g = some (m, ok) ∧ EEnd fu t ok g m = some true := by
  by_cases h : Good d g
  · obtain ⟨hr, g1, g2⟩ := h
    obtain ⟨G, rfl⟩ : ∃ G : Nat, g = (G : Int) := ⟨g.toNat, by omega⟩
    obtain ⟨t1, t2⟩ := runTable_eq h6 hr (G := G) (by omega) (by omega) (fu := fu) (by omega)
    obtain ⟨m1, m2⟩ := meanRun_eq h6 hr (G := G) (by omega) (by omega) (fu := fu) (by omega)
    exact ⟨_, _, _, t1, t2, m1, m2, end_ok h6 hr (by omega) (by omega) hf⟩
  · have hb := bad_cond h
    refine ⟨[], List.replicate 2 0, false, ?_, ?_, ?_, ?_, rfl⟩
    · unfold p_impl_RunTable; rw [goal_eq, if_pos hb]
    · unfold p_spec_RunTable; rw [l7Die_eq h6, goalS_eq, Option.bind_some, if_pos hb]
    · unfold p_impl_MeanRun; rw [goal_eq, if_pos hb]
    · unfold p_spec_MeanRun; rw [l7Die_eq h6, goalS_eq, Option.bind_some, if_pos hb]
theorem land_any {d : List Int} (h6 : d.length = 6) (n : Int) {fu : Nat} (hf : 2000000 < fu) : ∃ l ok, p_impl_LandChance fu d n = some (l, ok) ∧ p_spec_LandChance fu d n = some (l, ok) ∧ (ok = true → ¬ l.getD 1 0 < l.getD 0 0) := by
  by_cases h : p_impl_isRunner d = true ∧ 0 ≤ n ∧ n ≤ 8
  · obtain ⟨hr, g1, g2⟩ := h
    obtain ⟨N, rfl⟩ : ∃ N : Nat, n = (N : Int) := ⟨n.toNat, by omega⟩
    obtain ⟨t1, t2⟩ := land_eq h6 hr (n := N) (by omega) hf
    have hle := land_le h6 hr (n := N) (by omega) hf
    refine ⟨_, _, t1, t2, fun _ => ?_⟩
    have hd : ((lpL d N).getD N 0).toNat ≤ 6 ^ N := by omega
    show ¬ (((6 ^ N / Nat.gcd ((lpL d N).getD N 0).toNat (6 ^ N) : Nat) : Int) < ((((lpL d N).getD N 0).toNat / Nat.gcd ((lpL d N).getD N 0).toNat (6 ^ N) : Nat) : Int))
    have := Nat.div_le_div_right (c := Nat.gcd ((lpL d N).getD N 0).toNat (6 ^ N)) hd
    omega
  · have hb : ((!(p_impl_isRunner d)) || (!decide (0 ≤ n ∧ n ≤ 8))) = true := by
      cases h1 : p_impl_isRunner d <;> simp [h1] at h ⊢
      omega
    refine ⟨List.replicate 2 0, false, ?_, ?_, fun h => by cases h⟩
    · unfold p_impl_LandChance; rw [pwithin_eq, if_pos hb]
    · unfold p_spec_LandChance; rw [l7Die_eq h6, pl1In_eq, Option.bind_some, if_pos hb]
def ERace (fu : Nat) (a b : List Int) (g : Int) (r79 r87 : List Int) (ok : Bool) (k138 : Unit → Option Bool) : Option Bool := (if ok = true then (p_impl_FirstWins fu a a g).bind (fun r169 => (p_impl_SameRound fu a a g).bind (fun r170 => (p_impl_FirstWins fu b a g).bind (fun r171 => (if (((!r169.2) || (!r170.2)) || (!r171.2)) = true then some false else whl (fun (s185 : Int × Int) c187 => (if s185.2 < (IntKind.wrap .i64 (2 * g)) then c187 ((IntKind.wrap .i64 (6 * s185.1)), (IntKind.wrap .i64 (s185.2 + 1))) else (if ((!(decide ((IntKind.wrap .i64 (2 * (p_laws_rParts r169.1 s185.1))) = (IntKind.wrap .i64 (s185.1 + (p_laws_rParts r170.1 s185.1)))))) || (!(decide ((IntKind.wrap .i64 ((p_laws_rParts r79 s185.1) + (p_laws_rParts r171.1 s185.1))) = (IntKind.wrap .i64 (s185.1 + (p_laws_rParts r87 s185.1))))))) = true then some false else k138 ()))) fu (1, 0))))) else k138 ())
theorem race_any {a b : List Int} (ha6 : a.length = 6) (hb6 : b.length = 6) (g : Int) {fu : Nat} (hf : 2821109907456 < fu) : ∃ f s ok, p_impl_FirstWins fu a b g = some (f, ok) ∧ p_spec_FirstWins fu a b g = some (f, ok) ∧ p_impl_SameRound fu a b g = some (s, ok) ∧ p_spec_SameRound fu a b g = some (s, ok) ∧ ∀ K, ERace fu a b g f s ok K = K () := by
  by_cases h : p_impl_isRunner a = true ∧ p_impl_isRunner b = true ∧ 1 ≤ g ∧ g ≤ 8
  · obtain ⟨ha, hb, g1, g2⟩ := h
    obtain ⟨G, rfl⟩ : ∃ G : Nat, g = (G : Int) := ⟨g.toNat, by omega⟩
    have h1 : 1 ≤ G := by omega
    have hG : G ≤ 8 := by omega
    obtain ⟨t1, t2⟩ := firstWins_eq ha6 hb6 ha hb h1 hG hf
    obtain ⟨s1, s2⟩ := sameRound_eq ha6 hb6 ha hb h1 hG hf
    refine ⟨_, _, _, t1, t2, s1, s2, fun K => ?_⟩
    have u1 := (firstWins_eq ha6 ha6 ha ha h1 hG hf).1
    have u2 := (sameRound_eq ha6 ha6 ha ha h1 hG hf).1
    have u3 := (firstWins_eq hb6 ha6 hb ha h1 hG hf).1
    unfold ERace
    rw [if_pos rfl, u1, Option.bind_some, u2, Option.bind_some, u3, Option.bind_some]
    simp only [Bool.not_true, Bool.or_false, Bool.false_eq_true, if_false]
    have hA := rlA ha6 hb6 ha hb h1 hG hf
    have hB := rlB ha6 hb6 ha hb h1 hG hf
    have hp := p16 (k := 2 * G) (by omega)
    refine Eq.trans (pow_loop hG (fun z => (if ((!(decide ((IntKind.wrap .i64 (2 * (p_laws_rParts (cutF (fw (outI a G G) (outI a G G) G).toNat (6 ^ (2 * G))) z))) = (IntKind.wrap .i64 (z + (p_laws_rParts (cutF (sr (outI a G G) (outI a G G) G).toNat (6 ^ (2 * G))) z)))))) || (!(decide ((IntKind.wrap .i64 ((p_laws_rParts (cutF (fw (outI a G G) (outI b G G) G).toNat (6 ^ (2 * G))) z) + (p_laws_rParts (cutF (fw (outI b G G) (outI a G G) G).toNat (6 ^ (2 * G))) z))) = (IntKind.wrap .i64 (z + (p_laws_rParts (cutF (sr (outI a G G) (outI b G G) G).toNat (6 ^ (2 * G))) z))))))) = true then some false else K ())) fu 0 (by omega) (by omega)) ?_
    have w1 := fw_bound h1 hG hA hA (i := G) (Nat.le_refl _)
    have w2 := fw_bound h1 hG hA hB (i := G) (Nat.le_refl _)
    have w3 := fw_bound h1 hG hB hA (i := G) (Nat.le_refl _)
    have v1 := fw_top h1 hG hA hA
    have v2 := fw_top h1 hG hA hB
    have v3 := fw_top h1 hG hB hA
    have x1 := sr_le (nn_of hA.nn) (nn_of hA.nn) rfl G (by rw [hA.lenX]; exact Nat.le_refl _)
    have x2 := sr_le (nn_of hA.nn) (nn_of hB.nn) (by rw [hA.lenX, hB.lenX]) G (by rw [hA.lenX]; exact Nat.le_refl _)
    have y1 := fw_all hA.lenX hA.lenX
    have y2 := fw_all hA.lenX hB.lenX
    rw [whole h1 hG hA hA] at y1
    rw [whole h1 hG hA hB] at y2
    rw [parts_eq hp.2 (by omega) hp.1, parts_eq hp.2 (by omega) hp.1, parts_eq hp.2 (by omega) hp.1, parts_eq hp.2 (by omega) hp.1, parts_eq hp.2 (by omega) hp.1]
    rw [Int.toNat_of_nonneg w1.1, Int.toNat_of_nonneg w2.1, Int.toNat_of_nonneg w3.1, Int.toNat_of_nonneg x1.1, Int.toNat_of_nonneg x2.1]
    rw [show 2 * fw (outI a G G) (outI a G G) G = ((6 ^ (2 * G) : Nat) : Int) + sr (outI a G G) (outI a G G) G by omega, y2, if_neg (by simp)]
  · have hb : (((!(p_impl_isRunner a)) || (!(p_impl_isRunner b))) || (!decide (1 ≤ g ∧ g ≤ 8))) = true := by
      cases h1 : p_impl_isRunner a <;> cases h2 : p_impl_isRunner b <;> simp [h1, h2] at h ⊢
      omega
    refine ⟨List.replicate 2 0, List.replicate 2 0, false, ?_, ?_, ?_, ?_, fun K => rfl⟩
    · unfold p_impl_FirstWins; rw [goal_eq, if_pos hb]
    · unfold p_spec_FirstWins; rw [l7Die_eq ha6, l7Die_eq hb6, goalS_eq, Option.bind_some, if_pos (by simp), Option.getD_some, if_pos hb]
    · unfold p_impl_SameRound; rw [goal_eq, if_pos hb]
    · unfold p_spec_SameRound; rw [l7Die_eq ha6, l7Die_eq hb6, goalS_eq, Option.bind_some, if_pos (by simp), Option.getD_some, if_pos hb]
def ETop (fu : Nat) (row : List (List Int)) (g best : Int) (least : List Int) (ok : Bool) (k135 : Unit → Option Bool) : Option Bool := (if ok = true then cnt (fun i225 (s224 : Unit) c226 _ => (p_impl_MeanRun fu (row.getD i225.toNat (List.replicate 6 0)) g).bind (fun r231 => (if (((!r231.2) || (decide ((IntKind.wrap .i64 ((r231.1.getD 0 0) * (least.getD 1 0))) < (IntKind.wrap .i64 ((least.getD 0 0) * (r231.1.getD 1 0)))))) || ((decide (i225 = best)) && (!(decide (r231.1 = least))))) = true then some false else c226 ()))) (fun i225 (s224 : Unit) => k135 ()) (Int.toNat ((row.length : Int) - 0)) 0 () else k135 ())
theorem best_any {row : List (List Int)} (h6 : Six row) (g : Int) {fu : Nat} (hf : 2000000 < fu) : ∃ i l ok, p_impl_BestRunner fu row g = some (i, l, ok) ∧ p_spec_BestRunner fu row g = some (i, l, ok) ∧ ∀ K, ETop fu row g i l ok K = K () := by
  by_cases h : p_impl_isRow row = true ∧ row.all p_impl_isRunner = true ∧ 1 ≤ g ∧ g ≤ 8
  · obtain ⟨hw, hr, g1, g2⟩ := h
    obtain ⟨G, rfl⟩ : ∃ G : Nat, g = (G : Int) := ⟨g.toNat, by omega⟩
    have h1 : 1 ≤ G := by omega
    have hG : G ≤ 8 := by omega
    obtain ⟨t1, t2⟩ := best_eq h6 h1 hG hf hw hr
    refine ⟨_, _, _, t1, t2, fun K => ?_⟩
    have hl := isRow_len hw
    have hp := p8 hG
    have hlast : am (muR row G) row.length < row.length := by
      have := am_lt (muR row G) (row.length - 1)
      rw [show row.length - 1 + 1 = row.length by omega] at this
      omega
    unfold ETop
    rw [if_pos rfl]
    refine cnt_ind0 (S := Unit) row.length (fun _ _ => True) (fun r => r = K ()) (by omega) trivial (fun _ _ => rfl) (fun i s c hi _ hc => ?_)
    have q1 := muR_le h6 h1 hG hf hr hi
    have q2 := muR_le h6 h1 hG hf hr hlast
    have hm := am_min (muR row G) row.length i hi
    rw [Int.toNat_natCast, (meanRun_eq (getD_six h6 hi) (run_at h6 h1 hG hf hr hi) h1 hG hf).1, Option.bind_some]
    have e : mu (outI (row.getD i (List.replicate 6 0)) G G) G = muR row G i := rfl
    rw [e]
    have hd : decide (IntKind.wrap .i64 ((cutF (muR row G i).toNat (6 ^ G)).getD 0 0 * (cutF (muR row G (am (muR row G) row.length)).toNat (6 ^ G)).getD 1 0) < IntKind.wrap .i64 ((cutF (muR row G (am (muR row G) row.length)).toNat (6 ^ G)).getD 0 0 * (cutF (muR row G i).toNat (6 ^ G)).getD 1 0)) = false := by
      rw [decide_eq_false_iff_not, less_cut q1.1 q2.1 hp.2 hp.1 q1.2 q2.2]
      omega
    simp only
    rw [hd]
    rw [if_neg]
    · exact hc _ trivial
    · by_cases hi2 : (i : Int) = ((am (muR row G) row.length : Nat) : Int)
      · have : i = am (muR row G) row.length := by omega
        rw [← this]; simp
      · simp [hi2]
  · obtain ⟨n1, n2⟩ := best_none h6 hf h
    exact ⟨_, _, _, n1, n2, fun K => rfl⟩
theorem law_FnRuns {x : List Int} (hx : Bytes x) {fu : Nat} (hf : 2821109907456 < fu) : p_laws_FnRuns fu x = some true := by
  obtain ⟨d, g, d1, d6⟩ := draw1 hx
  obtain ⟨e, n, d2, e6⟩ := draw2 hx
  obtain ⟨a, b, g3, d3, a6, b6⟩ := draw3 hx
  obtain ⟨row, g4, d4, r6, _⟩ := draw4 hx (fu := fu) (by omega)
  obtain ⟨t, m, ok1, t1, t2, t3, t4, t5⟩ := table_any d6 g hf
  obtain ⟨l, ok2, l1, l2, l3⟩ := land_any e6 n (fu := fu) (by omega)
  obtain ⟨f, s, ok3, f1, f2, f3, f4, f5⟩ := race_any a6 b6 g3 hf
  obtain ⟨i, z, ok4, b1, b2, b3⟩ := best_any r6 g4 (fu := fu) (by omega)
  unfold p_laws_FnRuns
  by_cases hb : p_laws_rBig x = true
  · rw [if_pos hb]
  · rw [if_neg hb, d1, Option.bind_some, t1, Option.bind_some, t2, Option.bind_some, if_neg (by rw [pairs_self]; simp), t3, Option.bind_some, t4, Option.bind_some, if_neg (by simp), d2, Option.bind_some, l1, Option.bind_some, l2, Option.bind_some]
    rw [if_neg (by
      cases ok2
      · simp
      · have := l3 rfl
        simp only [decide_true, Bool.not_true, Bool.false_or, Bool.true_and, bne_self_eq_false, decide_eq_true_eq]
        exact this)]
    rw [d3, Option.bind_some, f1, Option.bind_some, f2, Option.bind_some, if_neg (by simp), f3, Option.bind_some, f4, Option.bind_some, if_neg (by simp), d4, Option.bind_some, b1, Option.bind_some, b2, Option.bind_some, if_neg (by simp)]
    show ETop fu row g4 i z ok4 (fun _ => ERace fu a b g3 f s ok3 (fun _ => EEnd fu t ok1 g m)) = some true
    rw [b3, f5]
    exact t5
theorem pure_FnRuns {x : List Int} (o : OkT (.slice (.int .u8)) x) : ∃ fu, p_laws_FnRuns fu x = some true := by
  have hx : Bytes x := fun b hb => by
    have h : (Lit.int .u8 b).wf = true := o.2 b hb
    simp only [Lit.wf, Bool.and_eq_true, decide_eq_true_eq] at h
    have e1 : IntKind.u8.min = 0 := by decide
    have e2 : IntKind.u8.max = 255 := by decide
    rw [e1, e2] at h
    exact h
  exact ⟨10000000000000, law_FnRuns hx (by omega)⟩
end Go.GA
