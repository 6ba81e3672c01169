/- Plain law of FnBits. -/
import Derived.Test.YtedakmknjbjlbaaP9t
namespace Go.GA
open Go
set_option maxRecDepth 100000
theorem ints_self (l : List Int) : p_laws_rInts l l = true := by
  unfold p_laws_rInts
  rw [if_pos rfl]
  refine cnt_ind0 (S := Unit) l.length (fun _ _ => True) (fun r => r = true) (by omega) trivial (fun _ _ => rfl) (fun i s c hi _ hc => ?_)
  rw [if_pos rfl]
  exact hc _ trivial
theorem cond1 {l r : List Int} {ok : Bool} (hl : l.length ≤ 41) (h : ok = true → l.length ≤ r.length ∧ r.length ≤ 2 * l.length) : ¬ (((ok != ok) || (!(p_laws_rInts r r))) || (ok && ((decide ((r.length : Int) < (l.length : Int))) || (decide ((IntKind.wrap .i64 (2 * (l.length : Int))) < (r.length : Int)))))) = true := by
  rw [ints_self, wr (by omega) (by omega)]
  cases ok with
  | false => simp
  | true => have := h rfl; simp; omega
theorem cond2 {l r : List Int} {q : Int} {ok : Bool} (hl : l.length ≤ 41) (h : ok = true → 0 ≤ q ∧ q ≤ 2 ∧ 3 * r.length ≤ l.length) : ¬ ((((!(decide (q = q))) || (ok != ok)) || (!(p_laws_rInts r r))) || (ok && (((decide (q < 0)) || (decide (2 < q))) || (decide ((l.length : Int) < (IntKind.wrap .i64 (3 * (r.length : Int)))))))) = true := by
  rw [ints_self]
  cases ok with
  | false => simp
  | true => 
    have := h rfl
    rw [wr (by omega) (by omega)]; simp; omega
theorem cond3 {l r : List Int} {q k : Int} {ok : Bool} (hl : l.length ≤ 41) (h : ok = true → r = evA k l ∧ q = (evR k l : Int) ∧ okT l = true ∧ (l.length : Int) ≤ 40 ∧ 0 ≤ k ∧ k ≤ 6) : ¬ ((((!(decide (q = q))) || (ok != ok)) || (!(p_laws_rInts r r))) || (ok && (!(decide ((IntKind.wrap .i64 ((r.length : Int) + q)) = (IntKind.wrap .i64 ((l.length : Int).tdiv 2))))))) = true := by
  rw [ints_self]
  cases ok with
  | false => simp
  | true => 
    obtain ⟨h1, h2, _⟩ := h rfl
    have hc := ev_count k l
    have e : (l.length : Int).tdiv 2 = ((l.length / 2 : Nat) : Int) := by
      rw [Int.tdiv_eq_ediv_of_nonneg (by omega)]; omega
    rw [e, h1, h2, wr (by omega) (by omega), wr (by omega) (by omega)]
    simp
    omega
theorem pure_FnBits {x : List Int} (o : OkT (.slice (.int .u8)) x) : p_laws_FnBits 64 x = some true := by
  have hx : Bytes x := fun b hb => by
    have h : (Lit.int .u8 b).wf = true := o.2 b hb
    simp only [Lit.wf, Bool.and_eq_true, decide_eq_true_eq] at h
    have e1 : IntKind.u8.min = 0 := by decide
    have e2 : IntKind.u8.max = 255 := by decide
    rw [e1, e2] at h
    exact h
  obtain ⟨l1, d1, q1⟩ := dr1 hx
  obtain ⟨l2, d2, q2⟩ := dr2 hx
  obtain ⟨l3, k3, d3, q3⟩ := dr3 hx
  obtain ⟨m4, d4, q4, q5⟩ := dr4 hx
  obtain ⟨p5, n5, d5, q6, q7⟩ := dr5 hx
  obtain ⟨p6, d6, q8, q9⟩ := dr6 hx
  obtain ⟨r1, ok1, a1, a2, a3⟩ := bits_eq q1
  obtain ⟨r2, w2, ok2, b1, b2, b3⟩ := throwsOf_eq q2
  obtain ⟨r3, w3, ok3, c1, c2, c3, _⟩ := even_eq (k := k3) q3
  obtain ⟨r4, e1, e2⟩ := pairs_eq q4 q5
  obtain ⟨r5, ok5, f1, f2, f3⟩ := modtab_eq q7 n5
  obtain ⟨t6, g1, g2, g3, g4⟩ := fair_eq q9 (fu := 64) (by omega)
  unfold p_laws_FnBits
  by_cases hb : p_laws_rBig x = true
  · rw [if_pos hb]
  · rw [if_neg hb, d1, Option.bind_some, a1, Option.bind_some, a2, Option.bind_some, if_neg (cond1 q1 a3), d2, Option.bind_some, b1, Option.bind_some, b2, Option.bind_some, if_neg (cond2 q2 b3), d3, Option.bind_some, c1, Option.bind_some, c2, Option.bind_some, if_neg (cond3 q3 c3), d4, Option.bind_some, e1, Option.bind_some, e2, Option.bind_some, if_neg (by simp), d5, Option.bind_some, f1, Option.bind_some, f2, Option.bind_some, if_neg (by simp [ints_self]), d6, Option.bind_some, g1, Option.bind_some, g2, Option.bind_some]
    have hpos : p_impl_IsPool p6 = true → 0 < t6.length := fun h => List.length_pos_iff.2 (g4 h).2.1
    rw [if_pos (by
      intro h
      simp only [Bool.and_eq_true, Bool.not_eq_true', decide_eq_false_iff_not] at h
      have := hpos h.1.2
      show (0 : Int) < (t6.length : Int)
      omega)]
    rw [if_neg (by
      rw [ints_self]
      by_cases hp : p_impl_IsPool p6 = true
      · have h1 := hpos hp
        have h2 := (g4 hp).2.2
        simp [hp, h2, (g4 hp).2.1]
        try simpa using h2
      · simp [hp])]
    show EMod p5 n5 r5 ok5 (fun _ => EFair p6 t6 (EEnd l3 k3 r3 ok3)) = some true
    rw [emod_ok f3]
    have he := end_ok (k := k3) (r := r3) (ok := ok3) q3 (fun h => by obtain ⟨h1, _, h2, h3, h4, h5⟩ := c3 h; exact ⟨h1, h2, h3, h4, h5⟩)
    by_cases hp : p_impl_IsPool p6 = true
    · rw [fair_ok hp (g4 hp).1]; exact he
    · have : t6 = [] := by
        have h := g1
        unfold p_impl_FairSizes at h
        rw [if_neg hp] at h
        simp only [Option.some.injEq, Prod.mk.injEq] at h
        exact h.1.symm
      rw [this]
      exact he
end Go.GA
