/- Plain law of FnMade. -/
import Derived.Test.YtedakmknjbjlbaaP9e
namespace Go.GA
open Go
set_option maxRecDepth 100000
def E5 (r101 : Int × Int × List Int) (r103 : List Int × Int × Bool) : Option Bool := (if r103.2.2 = true then (if ((decide ((r101.2.2.length : Int) < (IntKind.wrap .i64 (r101.2.1 * (IntKind.wrap .i64 ((r103.1.length : Int) + r103.2.1)))))) || (decide ((IntKind.wrap .i64 (r101.2.1 * (IntKind.wrap .i64 ((IntKind.wrap .i64 ((r103.1.length : Int) + r103.2.1)) + 1)))) ≤ (r101.2.2.length : Int)))) = true then some false else cnt (fun i184 (s183 : Unit) c185 _ => (if ((decide ((r103.1.getD i184.toNat 0) < 0)) || (decide (r101.1 ≤ (r103.1.getD i184.toNat 0)))) = true then some false else c185 ())) (fun i184 (s183 : Unit) => some true) (Int.toNat ((r103.1.length : Int) - 0)) 0 ()) else some true)
def E4 (r74 : Int) (r75 : Int × List Int × Bool) (k155 : Unit → Option Bool) : Option Bool := (if r75.2.2 = true then whl (fun (s208 : Int) c210 => (if s208 ≤ 6 then (p_impl_MeanThrows 64 r74 s208).bind (fun r215 => (if (r215.2 && ((decide ((IntKind.wrap .i64 ((r215.1.getD 0 0) * (r75.2.1.getD 1 0))) < (IntKind.wrap .i64 ((r75.2.1.getD 0 0) * (r215.1.getD 1 0))))) || ((decide (s208 < r75.1)) && (decide (r215.1 = r75.2.1))))) = true then some false else c210 (s208 + 1))) else k155 ())) 64 1 else k155 ())
def E2 (r42 : Int × Int) (r43 : Int × Bool) (r55 : List Int × Bool) (k152 : Unit → Option Bool) : Option Bool := (if r43.2 = true then whl (fun (s274 : Int × Int) c276 => (if s274.2 < r42.2 then c276 ((IntKind.wrap .i64 (6 * s274.1)), (IntKind.wrap .i64 (s274.2 + 1))) else if r42.1 ≠ 0 then (if (((((!(decide ((r43.1.tmod r42.1) = 0))) || (decide (s274.1 < r43.1))) || (decide ((IntKind.wrap .i64 (r43.1 + r42.1)) ≤ s274.1))) || (!(decide ((IntKind.wrap .i64 ((r55.1.getD 0 0) * r43.1)) = (IntKind.wrap .i64 ((IntKind.wrap .i64 (r42.2 * s274.1)) * (r55.1.getD 1 0))))))) || ((decide (r55.1 = [r42.2, 1])) != (decide (r43.1 = s274.1)))) = true then some false else k152 ()) else none)) 64 (1, 0) else k152 ())
def E1t (r2 : Int × List Int) (r4 : Int × Bool × Bool) (k149 : Unit → Option Bool) : Option Bool := (if r4.2.2 = true then (p_impl_TakenOf 64 r2.1 (r2.2.length : Int)).bind (fun r503 => if (((!(((!((p_impl_NumberOfThrows r2.2).2)) || (!r503.2)) || (r4.2.1 != (decide ((p_impl_NumberOfThrows r2.2).1 < r503.1))))) && r4.2.1) = true → r2.1 ≠ 0) then (if (((((!((p_impl_NumberOfThrows r2.2).2)) || (!r503.2)) || (r4.2.1 != (decide ((p_impl_NumberOfThrows r2.2).1 < r503.1)))) || (r4.2.1 && (!(decide (r4.1 = (((p_impl_NumberOfThrows r2.2).1).tmod r2.1)))))) || ((!r4.2.1) && (!(decide (r4.1 = 0))))) = true then some false else k149 ()) else none) else k149 ())
theorem ints_self (l : List Int) : p_laws_rInts l l = true := by
  unfold p_laws_rInts
  rw [if_pos rfl]
  refine cnt_ind0 (S := Unit) l.length (fun _ _ => True) (fun r => r = true) (by omega) trivial (fun _ _ => rfl) (fun i s c hi _ hc => ?_)
  rw [if_pos rfl]
  exact hc _ trivial
theorem draw1 {x : List Int} (hx : Bytes x) : ∃ n l, p_spec_DrawMakeNumber 64 x = some (n, l) ∧ n ∈ SZ ∧ l.length ≤ 7 := by
  unfold p_spec_DrawMakeNumber p_spec_l1Cur_size
  obtain ⟨n, a, s, e, h1, h2, h3⟩ := among_ok hx (l := [4, 5, 2, 7, 10, 6, 12, 36, 35, 100, 216, 1000, 1, 0, 1001, 3]) (by simp) (by simp) (at_ := 0) (s := 0) (by omega) (by omega)
  rw [e, Option.bind_some, Option.bind_some]
  obtain ⟨r, a2, s2, e2, h4, h5⟩ := throws_ok hx (l := [2, 3, 1, 4, 5, 6, 0, 7]) (by simp) (by simp) (by decide) (at_ := a) (s := s) (by omega) (by omega)
  simp only
  rw [e2, Option.bind_some]
  refine ⟨n, r, rfl, h1, ?_⟩
  rcases h4 with h4 | h4
  · simp only [List.mem_cons, List.not_mem_nil, or_false] at h4; omega
  · omega
theorem draw2 {x : List Int} (hx : Bytes x) : ∃ l, p_spec_DrawNumberOfThrows 64 x = some l ∧ l.length ≤ 7 := by
  unfold p_spec_DrawNumberOfThrows
  obtain ⟨r, a2, s2, e2, h4, h5⟩ := throws_ok hx (l := [2, 3, 1, 6, 4, 0, 7]) (by simp) (by simp) (by decide) (at_ := 0) (s := 0) (by omega) (by omega)
  rw [e2, Option.bind_some]
  refine ⟨r, rfl, ?_⟩
  rcases h4 with h4 | h4
  · simp only [List.mem_cons, List.not_mem_nil, or_false] at h4; omega
  · omega
theorem draw3 {x : List Int} (hx : Bytes x) : ∃ n k, p_spec_DrawTakenOf x = some (n, k) ∧ n ∈ SZ ∧ k ∈ ([0, 1, 2, 3, 4, 5, 6, 7] : List Int) := by
  unfold p_spec_DrawTakenOf p_spec_l1Cur_size
  obtain ⟨n, a, s, e, h1, h2, h3⟩ := among_ok hx (l := [4, 5, 2, 7, 10, 6, 12, 36, 35, 100, 216, 1000, 1, 0, 1001, 3]) (by simp) (by simp) (at_ := 0) (s := 0) (by omega) (by omega)
  rw [e, Option.bind_some, Option.bind_some]
  obtain ⟨k, a2, s2, e2, h4, _⟩ := among_ok hx (l := [2, 1, 3, 4, 6, 0, 7, 5]) (by simp) (by simp) (at_ := a) (s := s) (by omega) (by omega)
  simp only
  rw [e2, Option.bind_some]
  refine ⟨n, k, rfl, h1, ?_⟩
  simp only [List.mem_cons, List.not_mem_nil, or_false] at h4 ⊢
  omega
theorem SZ_range {n : Int} (h : n ∈ SZ) : 0 ≤ n ∧ n ≤ 1001 := by
  unfold SZ at h
  simp only [List.mem_cons, List.not_mem_nil, or_false] at h
  omega
theorem draw4 {x : List Int} (hx : Bytes x) : ∃ m, p_spec_DrawBestThrows x = some m ∧ 0 ≤ m ∧ m ≤ 1001 := by
  unfold p_spec_DrawBestThrows
  obtain ⟨b, a, s, e, h1, h2⟩ := oneD_ok hx (n := 2) (at_ := 0) (s := 0) (by omega) (by omega) (by omega)
  rw [e, Option.bind_some]
  cases b with
  | true =>
    simp only [if_true]
    obtain ⟨v, a2, s2, e2, v0, v1, _, _⟩ := pick_ok hx (n := 1000) (at_ := a) (s := s) (by omega) (by omega) (by omega)
    rw [e2, Option.bind_some, wr (n := 1 + v) (by omega) (by omega)]
    exact ⟨_, rfl, by omega, by omega⟩
  | false =>
    simp only [Bool.false_eq_true, if_false]
    unfold p_spec_l1Cur_size
    obtain ⟨n, a2, s2, e2, h3, _⟩ := among_ok hx (l := [4, 5, 2, 7, 10, 6, 12, 36, 35, 100, 216, 1000, 1, 0, 1001, 3]) (by simp) (by simp) (at_ := a) (s := s) (by omega) (by omega)
    rw [e2, Option.bind_some, Option.bind_some]
    exact ⟨n, rfl, (SZ_range h3).1, (SZ_range h3).2⟩
theorem draw5 {x : List Int} (hx : Bytes x) : ∃ n k l, p_spec_DrawMakeList 64 x = some (n, k, l) ∧ n ∈ SZ ∧ k ∈ ([0, 1, 2, 3, 4, 5, 6, 7] : List Int) ∧ l.length ≤ 41 := by
  unfold p_spec_DrawMakeList p_spec_l1Cur_size
  obtain ⟨n, a, s, e, h1, h2, h3⟩ := among_ok hx (l := [4, 5, 2, 7, 10, 6, 12, 36, 35, 100, 216, 1000, 1, 0, 1001, 3]) (by simp) (by simp) (at_ := 0) (s := 0) (by omega) (by omega)
  rw [e, Option.bind_some, Option.bind_some]
  obtain ⟨k, a2, s2, e2, h4, h5, h6⟩ := among_ok hx (l := [1, 2, 3, 2, 4, 0]) (by simp) (by simp) (at_ := a) (s := s) (by omega) (by omega)
  simp only
  rw [e2, Option.bind_some]
  obtain ⟨r, a3, s3, e3, _, h8⟩ := throws_ok hx (l := [12, 20, 5, 1, 0, 40, 41]) (by simp) (by simp) (by decide) (at_ := a2) (s := s2) (by omega) (by omega)
  simp only
  rw [e3, Option.bind_some]
  refine ⟨n, k, r, rfl, h1, ?_, h8⟩
  simp only [List.mem_cons, List.not_mem_nil, or_false] at h4 ⊢
  omega
theorem draw6 {x : List Int} (hx : Bytes x) : ∃ m, p_spec_DrawRoomForBits x = some m ∧ -1 ≤ m ∧ m ≤ 21 := by
  unfold p_spec_DrawRoomForBits
  obtain ⟨v, a2, s2, e2, v0, v1, _, _⟩ := pick_ok hx (n := 23) (at_ := 0) (s := 0) (by omega) (by omega) (by omega)
  rw [e2, Option.bind_some, wr (n := v - 1) (by omega) (by omega)]
  exact ⟨_, rfl, by omega, by omega⟩
theorem pure_FnMade {x : List Int} (o : OkT (.slice (.int .u8)) x) : p_laws_FnMade 64 x = some true := by
  have hx : Bytes x := fun b hb => by
    have h : (Lit.int .u8 b).wf = true := o.2 b hb
    simp only [Lit.wf, Bool.and_eq_true, decide_eq_true_eq] at h
    have e1 : IntKind.u8.min = 0 := by decide
    have e2 : IntKind.u8.max = 255 := by decide
    rw [e1, e2] at h
    exact h
  obtain ⟨n1, l1, d1, q1, q2⟩ := draw1 hx
  obtain ⟨l2, d2, q3⟩ := draw2 hx
  obtain ⟨n3, k3, d3, q4, q5⟩ := draw3 hx
  obtain ⟨m4, d4, q6, q7⟩ := draw4 hx
  obtain ⟨n5, k5, l5, d5, q8, q9, q10⟩ := draw5 hx
  obtain ⟨m6, d6, q11, q12⟩ := draw6 hx
  obtain ⟨r4, a1, a2, a3⟩ := part_mn q1 q2
  obtain ⟨r43, r55, b1, b2, b3, b4, b5, b6⟩ := part3 q4 q5
  obtain ⟨r75, c1, c2, c3⟩ := part4 q6 q7
  obtain ⟨acc, rej, ok, e1, e2, e3⟩ := list_ok q8 q9 q10
  obtain ⟨r136, f1, f2⟩ := part6 q11 q12
  have hnt := numthrows_eq q3
  unfold p_laws_FnMade
  by_cases hb : p_laws_rBig x = true
  · rw [if_pos hb]
  · rw [if_neg hb, d1, Option.bind_some, a1, Option.bind_some, a2, Option.bind_some, if_neg (by simp), d2, Option.bind_some, hnt, if_neg (by simp), d3, Option.bind_some, b1, Option.bind_some, b2, Option.bind_some, if_neg (by simp), b3, Option.bind_some, b4, Option.bind_some, if_neg (by simp [b5]), d4, Option.bind_some, c1, Option.bind_some, c2, Option.bind_some, if_neg (by simp), d5, Option.bind_some, e1, Option.bind_some, e2, Option.bind_some, if_neg (by simp [ints_self]), d6, Option.bind_some, f1, Option.bind_some, f2, Option.bind_some, if_neg (by simp)]
    show E1t (n1, l1) r4 (fun _ => E2 (n3, k3) r43 r55 (fun _ => E4 m4 r75 (fun _ => E5 (n5, k5, l5) (acc, rej, ok)))) = some true
    have g1 : ∀ K, E1t (n1, l1) r4 K = K () := a3
    rw [g1]
    have g2 : ∀ K, E2 (n3, k3) r43 r55 K = K () := fun K => by
      unfold E2
      by_cases h : r43.2 = true
      · rw [if_pos h]; exact b6 h K
      · rw [if_neg h]
    rw [g2]
    have g4 : ∀ K, E4 m4 r75 K = K () := fun K => by
      unfold E4
      by_cases h : r75.2.2 = true
      · rw [if_pos h]; exact c3 h K
      · rw [if_neg h]
    rw [g4]
    unfold E5
    cases ok with
    | false => rfl
    | true =>
      obtain ⟨h1, h2, h3, h4, h5, h6, h7, h8⟩ := e3 rfl
      simp only [if_true]
      have w1 : IntKind.wrap .i64 ((acc.length : Int) + rej) = (acc.length : Int) + rej := wr (by omega) (by omega)
      have w2 : IntKind.wrap .i64 ((acc.length : Int) + rej + 1) = (acc.length : Int) + rej + 1 := wr (by omega) (by omega)
      have e1' : k5 * ((acc.length : Int) + rej + 1) = k5 * ((acc.length : Int) + rej) + k5 := by rw [Int.mul_add, Int.mul_one]
      have nn : 0 ≤ k5 * ((acc.length : Int) + rej) := Int.mul_nonneg (by omega) (by omega)
      rw [w1, w2, e1']
      generalize k5 * ((acc.length : Int) + rej) = M at *
      have w3 : IntKind.wrap .i64 M = M := wr (by omega) (by omega)
      have w4 : IntKind.wrap .i64 (M + k5) = M + k5 := wr (by omega) (by omega)
      rw [w3, w4, if_neg (by simp only [Bool.or_eq_true, decide_eq_true_eq]; omega)]
      refine cnt_ind0 (S := Unit) acc.length (fun _ _ => True) (fun r => r = some true) (by omega) trivial (fun _ _ => rfl) (fun i s c hi _ hc => ?_)
      have hv : 0 ≤ acc.getD (i : Int).toNat 0 ∧ acc.getD (i : Int).toNat 0 < n5 := by
        rw [List.getD_eq_getElem?_getD, Int.toNat_natCast, List.getElem?_eq_getElem hi]
        exact h8 _ (List.getElem_mem hi)
      rw [if_neg (by simp only [Bool.or_eq_true, decide_eq_true_eq]; omega)]
      exact hc _ trivial
end Go.GA
