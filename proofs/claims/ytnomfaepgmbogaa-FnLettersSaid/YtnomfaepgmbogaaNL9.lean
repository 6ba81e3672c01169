/- Plain law of FnLetters. -/
import Derived.Test.YtnomfaepgmbogaaNLh
import Derived.Test.YtnomfaepgmbogaaNLe
namespace Go.GA.E
open Go
set_option maxRecDepth 100000
theorem big_i1 : p_impl_orders 10000000000000000 1 = some (ordL 1) := by decide +kernel
theorem big_i2 : p_impl_orders 10000000000000000 2 = some (ordL 2) := by decide +kernel
theorem big_i3 : p_impl_orders 10000000000000000 3 = some (ordL 3) := by decide +kernel
theorem big_i4 : p_impl_orders 10000000000000000 4 = some (ordL 4) := by decide +kernel
theorem big_s1 : p_spec_l10Orders 10000000000000000 1 = some (ordL 1) := by decide +kernel
theorem big_s2 : p_spec_l10Orders 10000000000000000 2 = some (ordL 2) := by decide +kernel
theorem big_s3 : p_spec_l10Orders 10000000000000000 3 = some (ordL 3) := by decide +kernel
theorem big_s4 : p_spec_l10Orders 10000000000000000 4 = some (ordL 4) := by decide +kernel
theorem big_fuel : Fuel 10000000000000000 := ⟨by omega, fun n h1 h4 => by
  have : n = 1 ∨ n = 2 ∨ n = 3 ∨ n = 4 := by omega
  rcases this with rfl | rfl | rfl | rfl
  · exact ⟨big_i1, big_s1⟩
  · exact ⟨big_i2, big_s2⟩
  · exact ⟨big_i3, big_s3⟩
  · exact ⟨big_i4, big_s4⟩⟩
theorem vInts_self (l : List Int) : p_laws_vInts l l = true := by
  unfold p_laws_vInts
  rw [if_pos rfl]
  refine cnt_ind0 l.length (fun _ _ => True) (fun r => r = true) (by omega) trivial (fun s _ => rfl) (fun i s c _ _ hc => ?_)
  rw [if_pos rfl]
  exact hc () trivial
theorem vPools_self (l : List (List Int)) : p_laws_vPools l l = true := by
  unfold p_laws_vPools
  rw [if_pos rfl]
  refine cnt_ind0 l.length (fun _ _ => True) (fun r => r = true) (by omega) trivial (fun s _ => rfl) (fun i s c _ _ hc => ?_)
  rw [if_pos rfl]
  exact hc () trivial
theorem orderWays_yes {p : List (List Int)} {fu : Nat} (hF : Fuel fu) (hv : p_impl_IsPool p = true) : p_impl_OrderWays fu p = some (wv p, true) := by
  obtain ⟨h1, h4⟩ := pool_len hv
  unfold p_impl_OrderWays
  rw [if_pos hv, (ways_eq hF h1 h4).1]; rfl
theorem lists_all {x : List Int} {fu : Nat} (hF : Fuel fu) (hl : x.length ≤ 24) : ∃ (pool : List (List Int)) (turn ways mend : List Int) (sp : Int) (q : Bool),
    p_impl_FromLetters x = some (pool, q) ∧ p_spec_FromLetters x = some (pool, q) ∧ p_impl_TurnLetters fu x = some (turn, q) ∧ p_spec_TurnLetters fu x = some (turn, q) ∧ p_impl_LettersWays fu x = some (ways, q) ∧ p_spec_LettersWays fu x = some (ways, q) ∧ p_impl_MendLetters fu x = some (mend, sp, q) ∧ p_spec_MendLetters fu x = some (mend, sp, q) ∧
    (q = true → ∃ m, x.length = 6 * m ∧ 1 ≤ m ∧ m ≤ 4 ∧ Good m x ∧ pool = PL m x ∧ turn = x.reverse ∧ ways = wv (PL m x) ∧ mend.length = x.length ∧ 0 ≤ sp ∧ ∃ i j, i < (wv (PL m x)).length ∧ j < (wv (PL m x)).length ∧ sp ≤ (wv (PL m x)).getD i 0 - (wv (PL m x)).getD j 0) := by
  have hb := hF.big
  by_cases h : IsL x
  · obtain ⟨m, hx, h1, h4, hg⟩ := h
    obtain ⟨b, sp, hbl, g1, g2, g3, g4⟩ := mend_yes hF hx h1 h4 hg
    obtain ⟨f1, f2⟩ := from_yes hx h1 h4 hg
    obtain ⟨t1, t2⟩ := turn_yes (fu := fu) hx h1 h4 hg (by omega)
    obtain ⟨l1, l2⟩ := lways_yes hF hx h1 h4 hg
    exact ⟨_, _, _, _, _, _, f1, f2, t1, t2, l1, l2, g2, g1, fun _ => ⟨m, hx, h1, h4, hg, rfl, rfl, rfl, hbl, g3, g4⟩⟩
  · obtain ⟨g1, g2⟩ := mend_no (fu := fu) h (by omega)
    obtain ⟨f1, f2⟩ := from_no h (by omega)
    obtain ⟨t1, t2⟩ := turn_no (fu := fu) h (by omega)
    obtain ⟨l1, l2⟩ := lways_no (fu := fu) h (by omega)
    exact ⟨_, _, _, _, _, _, f1, f2, t1, t2, l1, l2, g2, g1, fun h => by cases h⟩
theorem pools_all {p : List (List Int)} {fu : Nat} (hp : Six p) (hf : 100 < fu) : ∃ (letters : List Int) (two free three : Bool),
    p_impl_LettersOf fu p = some (letters, two) ∧ p_spec_LettersOf fu p = some (letters, two) ∧ p_impl_IsTieless fu p = some (free, three) ∧ p_spec_IsTieless fu p = some (free, three) ∧ two = (three && free) ∧ (two = true → p_impl_IsPool p = true ∧ tied p = false ∧ letters = LL p 31) := by
  obtain ⟨e1, e2⟩ := lettersOf_eq hp hf
  obtain ⟨e3, e4⟩ := isTieless_eq (fu := fu) hp
  rw [e1, e2, e3, e4]
  cases p_impl_IsPool p <;> cases tied p
  · exact ⟨_, _, _, _, rfl, rfl, rfl, rfl, rfl, fun h => by cases h⟩
  · exact ⟨_, _, _, _, rfl, rfl, rfl, rfl, rfl, fun h => by cases h⟩
  · exact ⟨_, _, _, _, rfl, rfl, rfl, rfl, rfl, fun _ => ⟨rfl, rfl, rfl⟩⟩
  · exact ⟨_, _, _, _, rfl, rfl, rfl, rfl, rfl, fun h => by cases h⟩
/-- the last loop -/
theorem last_loop {m : Nat} {x b : List Int} {sp : Int} (hx : x.length = 6 * m) (h1 : 1 ≤ m) (h4 : m ≤ 4) (hg : Good m x) (hb : b.length = x.length) (h0 : 0 ≤ sp) {a c : Nat} (ha : a < (wv (PL m x)).length) (hc : c < (wv (PL m x)).length) (hsp : sp ≤ (wv (PL m x)).getD a 0 - (wv (PL m x)).getD c 0) :
    cnt (fun i1493 (s1492 : Int × Int) c1494 _ => jn (fun (s1499 : Int) => jn (fun (s1502 : Int) => cnt (fun i1506 (s1505 : (List Int)) c1507 _ => if ((((PL m x).length : Int) - 1) - i1506) < 4 then if i1506 < 4 then c1507 (s1505.set i1506.toNat (((ordL m).getD i1493.toNat ((List.replicate 4 0), ())).1.getD ((((PL m x).length : Int) - 1) - i1506).toNat 0)) else none else none) (fun i1506 (s1505 : (List Int)) => cnt (fun i1515 (s1514 : Unit) c1516 _ => (if ((decide (((ordL m).getD i1515.toNat ((List.replicate 4 0), ())).1 = s1505)) && (!(decide (((wv (PL m x.reverse)).getD i1515.toNat 0) = ((wv (PL m x)).getD i1493.toNat 0))))) = true then some false else c1516 ())) (fun i1515 (s1514 : Unit) => c1494 (s1499, s1502)) (Int.toNat (((ordL m).length : Int) - 0)) 0 ()) (Int.toNat (((PL m x).length : Int) - 0)) 0 (((ordL m).getD i1493.toNat ((List.replicate 4 0), ())).1)) (fun k1503 => (if s1492.2 < ((wv (PL m x)).getD i1493.toNat 0) then k1503 ((wv (PL m x)).getD i1493.toNat 0) else k1503 s1492.2))) (fun k1500 => (if ((wv (PL m x)).getD i1493.toNat 0) < s1492.1 then k1500 ((wv (PL m x)).getD i1493.toNat 0) else k1500 s1492.1))) (fun i1493 (s1492 : Int × Int) => some (((decide (sp ≤ (IntKind.wrap .i64 (s1492.2 - s1492.1)))) && (decide (0 ≤ sp))) && (decide ((b.length : Int) = (x.length : Int))))) (Int.toNat (((wv (PL m x)).length : Int) - 0)) 0 (((wv (PL m x)).getD 0 0), ((wv (PL m x)).getD 0 0)) = some true := by
  have h4' : (PL m x).length ≤ 4 := by rw [PL_len]; exact h4
  have hwl : (wv (PL m x)).length = (ordL m).length := by rw [wv_len, PL_len]
  refine cnt_ind0 (wv (PL m x)).length (fun i s => (0 ≤ s.1 ∧ s.1 ≤ 1296 ∧ 0 ≤ s.2 ∧ s.2 ≤ 1296) ∧ ∀ j, j < i → s.1 ≤ (wv (PL m x)).getD j 0 ∧ (wv (PL m x)).getD j 0 ≤ s.2) (fun r => r = some true) (by omega)
    ⟨⟨(wv_range h4' 0).1, (wv_range h4' 0).2, (wv_range h4' 0).1, (wv_range h4' 0).2⟩, fun j hj => by omega⟩ (fun s ⟨hr, hs⟩ => ?_) (fun i s c hi ⟨hr, hs⟩ hc => ?_)
  · have q1 := (hs a ha).2
    have q2 := (hs c hc).1
    rw [wrap_i64 (by omega) (by omega), decide_eq_true (show sp ≤ s.2 - s.1 by omega), decide_eq_true h0, decide_eq_true (by omega)]
    rfl
  · have hi2 : i < (oM m).length := by rw [oM_len]; omega
    have places : ∀ (v1 v2 : Int), (∀ s', (0 ≤ s'.1 ∧ s'.1 ≤ 1296 ∧ 0 ≤ s'.2 ∧ s'.2 ≤ 1296) ∧ (∀ j, j < i + 1 → s'.1 ≤ (wv (PL m x)).getD j 0 ∧ (wv (PL m x)).getD j 0 ≤ s'.2) → c s' = some true) → ((0 ≤ v1 ∧ v1 ≤ 1296 ∧ 0 ≤ v2 ∧ v2 ≤ 1296) ∧ ∀ j, j < i + 1 → v1 ≤ (wv (PL m x)).getD j 0 ∧ (wv (PL m x)).getD j 0 ≤ v2) →
        cnt (fun i1506 (s1505 : (List Int)) c1507 _ => if ((((PL m x).length : Int) - 1) - i1506) < 4 then if i1506 < 4 then c1507 (s1505.set i1506.toNat (((ordL m).getD (i : Int).toNat ((List.replicate 4 0), ())).1.getD ((((PL m x).length : Int) - 1) - i1506).toNat 0)) else none else none) (fun i1506 (s1505 : (List Int)) => cnt (fun i1515 (s1514 : Unit) c1516 _ => (if ((decide (((ordL m).getD i1515.toNat ((List.replicate 4 0), ())).1 = s1505)) && (!(decide (((wv (PL m x.reverse)).getD i1515.toNat 0) = ((wv (PL m x)).getD (i : Int).toNat 0))))) = true then some false else c1516 ())) (fun i1515 (s1514 : Unit) => c (v1, v2)) (Int.toNat (((ordL m).length : Int) - 0)) 0 ()) (Int.toNat (((PL m x).length : Int) - 0)) 0 (((ordL m).getD (i : Int).toNat ((List.replicate 4 0), ())).1) = some true := by
      intro v1 v2 hc hv
      rw [Int.toNat_natCast, oM_get (by omega), PL_len]
      refine cnt_ind0 m (fun k s => s = (List.range k).foldl (fun s i' => s.set i' (((oM m).getD i []).getD (m - 1 - i') 0)) ((oM m).getD i [])) (fun r => r = some true) (by omega) rfl (fun s hs => ?_) (fun k s c' hk hs hc' => ?_)
      · subst hs
        refine cnt_ind0 (ordL m).length (fun _ _ => True) (fun r => r = some true) (by omega) trivial (fun _ _ => hc _ hv) (fun k u c' hk _ hc' => ?_)
        rw [Int.toNat_natCast, oM_get (by omega)]
        rw [if_neg]
        · exact hc' () trivial
        · intro hh
          simp only [Bool.and_eq_true, decide_eq_true_eq, Bool.not_eq_true', decide_eq_false_iff_not] at hh
          exact hh.2 (wv_turn hx h1 h4 hg hi2 (by rw [oM_len]; exact hk) hh.1)
      · rw [if_pos (by omega), if_pos (by omega)]
        refine hc' _ ?_
        rw [List.range_succ, List.foldl_append, ← hs]
        simp only [List.foldl_cons, List.foldl_nil, Int.toNat_natCast]
        rw [show ((m : Int) - 1 - (k : Int)).toNat = m - 1 - k by omega]
    have hr0 := wv_range h4' i
    unfold jn
    by_cases c1 : (wv (PL m x)).getD (i : Int).toNat 0 < s.1
    · refine (if_pos c1).trans ?_
      rw [Int.toNat_natCast] at c1
      by_cases c2 : s.2 < (wv (PL m x)).getD (i : Int).toNat 0
      · refine (if_pos c2).trans ?_
        rw [Int.toNat_natCast] at c2
        refine places _ _ hc ?_
        rw [Int.toNat_natCast]
        refine ⟨by omega, fun j hj => ?_⟩
        by_cases e : j = i
        · subst e; omega
        · have := hs j (by omega); omega
      · refine (if_neg c2).trans ?_
        rw [Int.toNat_natCast] at c2
        refine places _ _ hc ?_
        rw [Int.toNat_natCast]
        refine ⟨by omega, fun j hj => ?_⟩
        by_cases e : j = i
        · subst e; omega
        · have := hs j (by omega); omega
    · refine (if_neg c1).trans ?_
      rw [Int.toNat_natCast] at c1
      by_cases c2 : s.2 < (wv (PL m x)).getD (i : Int).toNat 0
      · refine (if_pos c2).trans ?_
        rw [Int.toNat_natCast] at c2
        refine places _ _ hc ?_
        rw [Int.toNat_natCast]
        refine ⟨by omega, fun j hj => ?_⟩
        by_cases e : j = i
        · subst e; omega
        · have := hs j (by omega); omega
      · refine (if_neg c2).trans ?_
        rw [Int.toNat_natCast] at c2
        refine places _ _ hc ?_
        refine ⟨by omega, fun j hj => ?_⟩
        by_cases e : j = i
        · subst e; omega
        · have := hs j (by omega); omega
end Go.GA.E
namespace Go.GA
open Go
theorem cut_bytes {x : List Int} (hx : Bytes x) (hl : x.length ≤ 65536) {n : Int} (hn : 0 ≤ n ∧ n ≤ 2) : ∃ y, p_laws_vCut x n = some y ∧ Bytes y ∧ y.length ≤ 70000 := by
  have key : ∀ s1 : Int, 0 ≤ s1 → s1 ≤ x.length → s1 ≤ 2 → ∃ y, (if 0 ≤ s1 then if s1 ≤ (x.length : Int) then if 0 + ((x.length : Int) - s1) ≤ 1000000000 then if (0 + ((x.length : Int) - s1)) + 1 ≤ 1000000000 then some (([] ++ (x.drop s1.toNat)) ++ [(IntKind.wrap .u8 s1)]) else none else none else none else none) = some y ∧ Bytes y ∧ y.length ≤ 70000 := by
    intro s1 h0 h1 h2
    rw [if_pos h0, if_pos h1, if_pos (by omega), if_pos (by omega)]
    refine ⟨_, rfl, fun b hb => ?_, by rw [List.nil_append, List.length_append, List.length_drop]; simp only [List.length_cons, List.length_nil]; omega⟩
    rcases List.mem_append.1 hb with h | h
    · rw [List.nil_append] at h
      exact hx b (List.mem_of_mem_drop h)
    · have e : b = IntKind.wrap .u8 s1 := by simpa using h
      rcases (by omega : s1 = 0 ∨ s1 = 1 ∨ s1 = 2) with h | h | h
      · rw [e, h]; decide
      · rw [e, h]; decide
      · rw [e, h]; decide
  unfold p_laws_vCut jn
  simp only
  split
  · exact key _ (by omega) (by omega) (by omega)
  · exact key n (by omega) (by omega) (by omega)
theorem drawMend {x : List Int} (hx : Bytes x) (hl : x.length ≤ 70000) {fu : Nat} (hf : 10000000000000000 ≤ fu) : ∃ r, p_spec_DrawMendLetters fu x = some r ∧ r.length ≤ 24 := by
  obtain ⟨r, a, s, h1, h2, _⟩ := letters10_ok hx hl hf (x1 := 0) 0 (by omega) (by omega)
  unfold p_spec_DrawMendLetters
  have e : ((0 : Nat) : Int) = 0 := rfl
  rw [e] at h1
  rw [h1, Option.bind_some]
  split
  · exact ⟨_, rfl, by rw [List.length_take]; omega⟩
  · exact ⟨_, rfl, h2⟩
theorem drawLettersOf {x : List Int} (hx : Bytes x) (hl : x.length ≤ 70000) {fu : Nat} (hf : 10000000000000000 ≤ fu) : ∃ p, p_spec_DrawLettersOf fu x = some p ∧ E.Six p := by
  obtain ⟨p, a, s, h1, h2, _⟩ := tieless_ok hx hl hf (x1 := 0) 0 (by omega) (by omega)
  unfold p_spec_DrawLettersOf p_spec_DrawOrderWays
  have e : ((0 : Nat) : Int) = 0 := rfl
  rw [e] at h1
  rw [h1]
  exact ⟨p, rfl, h2⟩
theorem drawEven {x : List Int} (hx : Bytes x) : ∃ k, p_spec_DrawCountEven x = some k ∧ k ∈ [6, 2, 4, 1, 3, 5, 0, 7, (-1 : Int)] := by
  obtain ⟨v, a, s, h1, h2, _⟩ := among_ok hx (l := [6, 2, 4, 1, 3, 5, 0, 7, (-1 : Int)]) (at_ := 0) (s := 0) (by simp) (by simp) (by omega) (by omega)
  unfold p_spec_DrawCountEven
  rw [h1]
  exact ⟨v, rfl, h2⟩
theorem law_FnLetters {x : List Int} (hx : Bytes x) {fu : Nat} (hfu : fu = 10000000000000000) (hF : E.Fuel fu) : p_laws_FnLetters fu x = some true := by
  unfold p_laws_FnLetters
  by_cases hb : p_laws_vBig x = true
  · rw [if_pos hb]
  · rw [if_neg hb]
    have hlen : x.length ≤ 65536 := by
      unfold p_laws_vBig at hb
      simp at hb
      omega
    obtain ⟨l, d1, hl⟩ := drawMend hx (by omega) (fu := fu) (by omega)
    obtain ⟨x1, q1, hx1, hl1⟩ := cut_bytes hx hlen (n := 1) (by omega)
    obtain ⟨x2, q2, hx2, hl2⟩ := cut_bytes hx hlen (n := 2) (by omega)
    obtain ⟨p, d2, hp⟩ := drawLettersOf hx1 hl1 (fu := fu) (by omega)
    obtain ⟨k, d3, hk⟩ := drawEven hx2
    obtain ⟨ev, four, v1, v2, v3⟩ := E.even_ok hk
    rw [← hfu] at v1 v2
    obtain ⟨pool, turn, ways, mend, sp, q, t1, t2, t3, t4, t5, t6, t7, t8, t9⟩ := E.lists_all hF hl
    obtain ⟨letters, two, free, three, u1, u2, u3, u4, u5, u6⟩ := E.pools_all (fu := fu) hp (by omega)
    rw [d1, Option.bind_some, t1, Option.bind_some, t2, Option.bind_some, t3, Option.bind_some, t4, Option.bind_some, t5, Option.bind_some, t6, Option.bind_some, t7, Option.bind_some, t8, Option.bind_some, q1, Option.bind_some, d2, Option.bind_some, u1, Option.bind_some, u2, Option.bind_some, u3, Option.bind_some, u4, Option.bind_some, q2, Option.bind_some, d3, Option.bind_some, v1, Option.bind_some, v2, Option.bind_some]
    rw [if_neg (by simp [E.vInts_self, E.vPools_self, u5])]
    unfold jn
    have tail : (if (four && ((decide (((IntKind.wrap .i64 (k * k)).tmod 2) = 1)) != (decide (ev = 0)))) = true then some false else (if q = true then (p_impl_LettersOf fu pool).bind (fun r1267 => (p_impl_TieWays fu pool).bind (fun r1269 => (p_impl_LettersWays fu turn).bind (fun r1270 => (p_impl_OrdersOf fu (pool.length : Int)).bind (fun r1272 => (if ((((((((!r1267.2) || (!r1269.2)) || (!r1270.2)) || (!r1272.2)) || (!(p_laws_vInts r1267.1 l))) || (!(decide (r1269.1 = 0)))) || (!(decide ((r1270.1.length : Int) = (ways.length : Int))))) || (!(decide ((r1272.1.length : Int) = (ways.length : Int))))) = true then some false else if 0 < (ways.length : Int) then cnt (fun i1493 (s1492 : Int × Int) c1494 _ => jn (fun (s1499 : Int) => jn (fun (s1502 : Int) => cnt (fun i1506 (s1505 : (List Int)) c1507 _ => if (((pool.length : Int) - 1) - i1506) < 4 then if i1506 < 4 then c1507 (s1505.set i1506.toNat ((r1272.1.getD i1493.toNat ((List.replicate 4 0), ())).1.getD (((pool.length : Int) - 1) - i1506).toNat 0)) else none else none) (fun i1506 (s1505 : (List Int)) => cnt (fun i1515 (s1514 : Unit) c1516 _ => (if ((decide ((r1272.1.getD i1515.toNat ((List.replicate 4 0), ())).1 = s1505)) && (!(decide ((r1270.1.getD i1515.toNat 0) = (ways.getD i1493.toNat 0))))) = true then some false else c1516 ())) (fun i1515 (s1514 : Unit) => c1494 (s1499, s1502)) (Int.toNat ((r1272.1.length : Int) - 0)) 0 ()) (Int.toNat ((pool.length : Int) - 0)) 0 ((r1272.1.getD i1493.toNat ((List.replicate 4 0), ())).1)) (fun k1503 => (if s1492.2 < (ways.getD i1493.toNat 0) then k1503 (ways.getD i1493.toNat 0) else k1503 s1492.2))) (fun k1500 => (if (ways.getD i1493.toNat 0) < s1492.1 then k1500 (ways.getD i1493.toNat 0) else k1500 s1492.1))) (fun i1493 (s1492 : Int × Int) => some (((decide (sp ≤ (IntKind.wrap .i64 (s1492.2 - s1492.1)))) && (decide (0 ≤ sp))) && (decide ((mend.length : Int) = (l.length : Int))))) (Int.toNat ((ways.length : Int) - 0)) 0 ((ways.getD 0 0), (ways.getD 0 0)) else none))))) else some true)) = some true := by
      rw [if_neg (by rw [v3]; exact Bool.false_ne_true)]
      cases q with
      | false => rfl
      | true =>
        obtain ⟨m, hm, h1, h4, hg, rfl, rfl, rfl, hml, hs0, i, j, hi, hj, hs⟩ := t9 rfl
        rw [if_pos rfl]
        have hvp := E.PL_valid hm h1 h4 hg
        have hun := E.PL_untied hm hg
        have hrl : l.reverse.length = 6 * m := by rw [List.length_reverse]; exact hm
        have e1 := E.back_ok (fu := fu) hm h1 h4 hg (by omega)
        have e2 := E.ties_zero hF (E.PL_six m l) hvp hun
        have e3 := (E.lways_yes hF hrl h1 h4 (E.good_rev hg)).1
        have e4 : p_impl_OrdersOf fu ((E.PL m l).length : Int) = some (E.ordL m, true) := by
          unfold p_impl_OrdersOf
          rw [E.PL_len, E.within_eq, decide_eq_true (by omega), if_pos rfl, (hF.ord m h1 h4).1]; rfl
        have hL : (E.wv (E.PL m l)).length = (E.ordL m).length := by rw [E.wv_len, E.PL_len]
        have hL2 : (E.wv (E.PL m l.reverse)).length = (E.ordL m).length := by rw [E.wv_len, E.PL_len]
        rw [e1, Option.bind_some, e2, Option.bind_some, e3, Option.bind_some, e4, Option.bind_some, if_neg (by simp [E.vInts_self, hL, hL2]), if_pos (by omega)]
        exact E.last_loop hm h1 h4 hg hml hs0 hi hj hs
    cases two with
    | false => exact tail
    | true =>
      obtain ⟨w1, w2, rfl⟩ := u6 rfl
      obtain ⟨g1, g4⟩ := E.pool_len w1
      obtain ⟨hx6, hg⟩ := E.LL_good hp w1
      have f1 := (E.from_yes hx6 g1 g4 hg).1
      have f2 := E.orderWays_yes hF (E.PL_valid hx6 g1 g4 hg)
      have f3 := E.orderWays_yes hF w1
      have f4 := E.own_ways hp w1 w2
      refine (if_pos rfl).trans ?_
      rw [f1, Option.bind_some, f2, Option.bind_some, f3, Option.bind_some, if_neg]
      · exact tail
      · rw [f4, E.vInts_self, E.wrap_i64 (by omega) (by omega), decide_eq_true (show (((LL p 31, true) : List Int × Bool).1.length : Int) = 6 * (p.length : Int) by have := hx6; dsimp only; omega)]
        simp
theorem pure_FnLetters {x : List Int} (o : OkT (.slice (.int .u8)) x) : ∃ fu, p_laws_FnLetters fu x = some true := by
  have hx : Bytes x := fun b hb => by
    have h : (Lit.int .u8 b).wf = true := o.2 b hb
    simp only [Lit.wf, Bool.and_eq_true, decide_eq_true_eq] at h
    have e1 : IntKind.u8.min = 0 := by decide
    have e2 : IntKind.u8.max = 255 := by decide
    rw [e1, e2] at h
    exact h
  exact ⟨10000000000000000, law_FnLetters hx rfl E.big_fuel⟩
end Go.GA
