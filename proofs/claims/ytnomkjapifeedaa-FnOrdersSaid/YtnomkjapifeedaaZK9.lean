/- Plain law of FnOrders. -/
import Derived.Test.YtnomkjapifeedaaZKo
import Derived.Test.YtnomkjapifeedaaZKq
namespace Go.GA.E
open Go
set_option maxRecDepth 100000
theorem big_i1 : p_impl_orders 10000000000000000 1 = some (ordL 1) := by decide +kernel
theorem big_i2 : p_impl_orders 10000000000000000 2 = some (ordL 2) := by decide +kernel
theorem big_i3 : p_impl_orders 10000000000000000 3 = some (ordL 3) := by decide +kernel
theorem big_i4 : p_impl_orders 10000000000000000 4 = some (ordL 4) := by decide +kernel
theorem big_s1 : p_spec_l10Orders 10000000000000000 1 = some (ordL 1) := by decide +kernel
theorem big_s2 : p_spec_l10Orders 10000000000000000 2 = some (ordL 2) := by decide +kernel
theorem big_s3 : p_spec_l10Orders 10000000000000000 3 = some (ordL 3) := by decide +kernel
theorem big_s4 : p_spec_l10Orders 10000000000000000 4 = some (ordL 4) := by decide +kernel
theorem big_fuel : Fuel 10000000000000000 := ⟨by omega, fun n h1 h4 => by
  have : n = 1 ∨ n = 2 ∨ n = 3 ∨ n = 4 := by omega
  rcases this with rfl | rfl | rfl | rfl
  · exact ⟨big_i1, big_s1⟩
  · exact ⟨big_i2, big_s2⟩
  · exact ⟨big_i3, big_s3⟩
  · exact ⟨big_i4, big_s4⟩⟩
end Go.GA.E
namespace Go.GA
open Go
theorem cut_bytes {x : List Int} (hx : Bytes x) (hl : x.length ≤ 65536) {n : Int} (hn : 0 ≤ n ∧ n ≤ 2) : ∃ y, p_laws_vCut x n = some y ∧ Bytes y ∧ y.length ≤ 70000 := by
  have key : ∀ s1 : Int, 0 ≤ s1 → s1 ≤ x.length → s1 ≤ 2 → ∃ y, (if 0 ≤ s1 then if s1 ≤ (x.length : Int) then if 0 + ((x.length : Int) - s1) ≤ 1000000000 then if (0 + ((x.length : Int) - s1)) + 1 ≤ 1000000000 then some (([] ++ (x.drop s1.toNat)) ++ [(IntKind.wrap .u8 s1)]) else none else none else none else none) = some y ∧ Bytes y ∧ y.length ≤ 70000 := by
    intro s1 h0 h1 h2
    rw [if_pos h0, if_pos h1, if_pos (by omega), if_pos (by omega)]
    refine ⟨_, rfl, fun b hb => ?_, by rw [List.nil_append, List.length_append, List.length_drop]; simp only [List.length_cons, List.length_nil]; omega⟩
    rcases List.mem_append.1 hb with h | h
    · rw [List.nil_append] at h
      exact hx b (List.mem_of_mem_drop h)
    · have e : b = IntKind.wrap .u8 s1 := by simpa using h
      rcases (by omega : s1 = 0 ∨ s1 = 1 ∨ s1 = 2) with h | h | h
      · rw [e, h]; decide
      · rw [e, h]; decide
      · rw [e, h]; decide
  unfold p_laws_vCut jn
  simp only
  split
  · exact key _ (by omega) (by omega) (by omega)
  · exact key n (by omega) (by omega) (by omega)
theorem law_FnOrders {x : List Int} (hx : Bytes x) {fu : Nat} (hF : E.Fuel fu) (hf : 10000000000000000 ≤ fu) : p_laws_FnOrders fu x = some true := by
  unfold p_laws_FnOrders
  by_cases hb : p_laws_vBig x = true
  · rw [if_pos hb]
  · rw [if_neg hb]
    have hlen : x.length ≤ 65536 := by
      unfold p_laws_vBig at hb
      simp at hb
      omega
    obtain ⟨p, d1, h6⟩ := drawFair hx (by omega) hf
    obtain ⟨x1, q1, hx1, hl1⟩ := cut_bytes hx hlen (n := 1) (by omega)
    obtain ⟨x2, q2, hx2, hl2⟩ := cut_bytes hx hlen (n := 2) (by omega)
    obtain ⟨u, n, d2, hu⟩ := drawOrder hx1 hl1 hf
    obtain ⟨v, pl, pa, d3, hv⟩ := drawAt hx2 hl2 hf
    obtain ⟨w, t, fair, places, first, q, t1, t2, t3, t4, t5, t6, t7, t8, t9, t10, t11⟩ := E.pool_all hF h6
    obtain ⟨o, b, u1, u2, u3⟩ := E.order_of (n := n) hF hu
    obtain ⟨at_, four, v1, v2, v3⟩ := E.four_ok (player := pl) (place := pa) hF hv
    rw [d1, Option.bind_some, t1, Option.bind_some, t2, Option.bind_some, t3, Option.bind_some, t4, Option.bind_some, t5, Option.bind_some, t6, Option.bind_some, t7, Option.bind_some, t8, Option.bind_some, t9, Option.bind_some, t10, Option.bind_some, q1, Option.bind_some, d2, Option.bind_some]
    dsimp only
    rw [u1, Option.bind_some, u2, Option.bind_some, q2, Option.bind_some, d3, Option.bind_some]
    dsimp only
    rw [v1, Option.bind_some, v2, Option.bind_some, if_neg (by simp [E.vInts_self])]
    dsimp only
    refine E.three_ok u3 _ ?_
    refine v3 _ ?_
    cases q with
    | false => rfl
    | true =>
      obtain ⟨g1, g4, gl, gs, gf, gp⟩ := t11 rfl
      obtain ⟨o1, o2⟩ := hF.ord p.length g1 g4
      have hor : p_impl_OrdersOf fu (p.length : Int) = some (E.ordL p.length, true) := by
        unfold p_impl_OrdersOf
        rw [E.within_eq, decide_eq_true (by omega), if_pos rfl, o1]; rfl
      have hos : p_spec_OrdersOf fu (p.length : Int) = some (E.ordL p.length, true) := by
        unfold p_spec_OrdersOf
        rw [E.l1In_eq, decide_eq_true (by omega), if_pos rfl, o2]; rfl
      refine (if_pos rfl).trans ?_
      rw [hor, Option.bind_some, hos, Option.bind_some, E.sum_loop, E.six_eq (by omega) (by omega), gs]
      refine (if_pos (by intro _; rfl)).trans ?_
      refine congrArg some ?_
      rw [E.vOrders_self, gl]
      have hpl : (!places || first) = true ∧ (!places || decide (t = 0)) = true := by
        cases hp : places with
        | false => exact ⟨rfl, rfl⟩
        | true =>
          obtain ⟨z1, z2⟩ := gp hp
          rw [z1, z2]; exact ⟨rfl, rfl⟩
      have hfa : (!fair || places) = true := by
        cases hp : fair with
        | false => rfl
        | true => rw [gf hp]; rfl
      rw [hpl.1, hpl.2, hfa]
      simp
theorem pure_FnOrders {x : List Int} (o : OkT (.slice (.int .u8)) x) : ∃ fu, p_laws_FnOrders fu x = some true := by
  have hx : Bytes x := fun b hb => by
    have h : (Lit.int .u8 b).wf = true := o.2 b hb
    simp only [Lit.wf, Bool.and_eq_true, decide_eq_true_eq] at h
    have e1 : IntKind.u8.min = 0 := by decide
    have e2 : IntKind.u8.max = 255 := by decide
    rw [e1, e2] at h
    exact h
  exact ⟨10000000000000000, law_FnOrders hx E.big_fuel (by omega)⟩
end Go.GA
