/- Plain law of FnCounts. -/
import Derived.Test.YtalieojbaiiioaaXKr
import Derived.Test.YtalieojbaiiioaaXKy
namespace Go.GA
open Go
set_option maxRecDepth 100000
theorem law_FnCounts {x : List Int} (hx : Bytes x) {fu : Nat} (hf : 10000000000 ≤ fu) : p_laws_FnCounts fu x = some true := by
  unfold p_laws_FnCounts
  by_cases hb : p_laws_vBig x = true
  · rw [if_pos hb]
  · rw [if_neg hb]
    have hlen : x.length ≤ 65536 := by
      unfold p_laws_vBig at hb
      simp at hb
      omega
    obtain ⟨d, y, d1, h6⟩ := drawLike hx (fu := fu) (by omega)
    obtain ⟨x1, q1, hx1⟩ := cut_bytes hx hlen (n := 1) (by omega)
    obtain ⟨x2, q2, hx2⟩ := cut_bytes hx hlen (n := 2) (by omega)
    obtain ⟨u, r, d2, hu⟩ := drawRolls hx1 (fu := fu) (by omega)
    obtain ⟨v, n, d3, hv⟩ := drawMode hx2
    obtain ⟨a, b, c, ok, t1, t2, t3, t4, t5, t6, t7⟩ := E.first_ok (x := d) (y := y) h6 (fu := fu) (by omega)
    obtain ⟨s, q, u1, u2, u3⟩ := E.rolls_ok (x := u) (y := r) hu
    obtain ⟨mn, fo, v1, v2, v3⟩ := E.mean_val hv n
    rw [d1, Option.bind_some]
    simp only
    rw [t1, Option.bind_some, t2, Option.bind_some, t3, Option.bind_some, t4, Option.bind_some, t5, Option.bind_some, t6, Option.bind_some, q1, Option.bind_some, d2, Option.bind_some]
    simp only
    rw [u2, Option.bind_some, u1, Option.bind_some, q2, Option.bind_some, d3, Option.bind_some]
    simp only
    have fin : ∀ (K : Unit → Option Bool), K () = some true → jn K (fun k956 => if q = true then cnt (fun i1210 (s1209 : Int) c1211 _ => c1211 (IntKind.wrap .i64 (s1209 + (s.getD i1210.toNat 0)))) (fun i1210 (s1209 : Int) => (if s1209 = (r.length : Int) then k956 () else some false)) (Int.toNat ((s.length : Int) - 0)) 0 0 else k956 ()) = some true := by
      intro K hK
      unfold jn
      cases hq : q with
      | false => exact hK
      | true =>
        refine (if_pos rfl).trans ?_
        rw [E.sum_loop, u3 hq, if_pos rfl]; exact hK
    rcases E.tested_or v n with ⟨k, rfl, hk, hd⟩ | hb
    · obtain ⟨m, hm, hm5⟩ := E.dd_pos hv
      have t : E.TD v m k := ⟨hv, hd, hm, hm5, hk⟩
      obtain ⟨g1, g2⟩ := E.vects_good t hf
      obtain ⟨g3, g4⟩ := E.mode_good t hf
      rw [g1, Option.bind_some, g2, Option.bind_some, g3, Option.bind_some, g4, Option.bind_some, v1, Option.bind_some, v2, Option.bind_some]
      rw [if_neg (by simp [E.vInts_self])]
      dsimp only
      rw [t7, if_neg (by simp)]
      refine fin _ ?_
      rw [if_pos rfl]
      exact E.tail_ok t hf v3
    · obtain ⟨g1, g2, g3, g4⟩ := E.vects_bad (fu := fu) hv hb
      rw [g1, Option.bind_some, g2, Option.bind_some, g3, Option.bind_some, g4, Option.bind_some, v1, Option.bind_some, v2, Option.bind_some]
      rw [if_neg (by simp [E.vInts_self])]
      dsimp only
      rw [t7, if_neg (by simp)]
      refine fin _ ?_
      rfl
theorem pure_FnCounts {x : List Int} (o : OkT (.slice (.int .u8)) x) : ∃ fu, p_laws_FnCounts fu x = some true := by
  have hx : Bytes x := fun b hb => by
    have h : (Lit.int .u8 b).wf = true := o.2 b hb
    simp only [Lit.wf, Bool.and_eq_true, decide_eq_true_eq] at h
    have e1 : IntKind.u8.min = 0 := by decide
    have e2 : IntKind.u8.max = 255 := by decide
    rw [e1, e2] at h
    exact h
  exact ⟨10000000000, law_FnCounts hx (by omega)⟩
end Go.GA
