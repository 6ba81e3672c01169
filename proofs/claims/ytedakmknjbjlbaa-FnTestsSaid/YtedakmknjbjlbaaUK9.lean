/- Plain law of FnTests. -/
import Derived.Test.YtedakmknjbjlbaaUKz
namespace Go.GA
open Go
set_option maxRecDepth 100000
theorem law_FnTests {x : List Int} (hx : Bytes x) {fu : Nat} (hf : 10000000000000 ≤ fu) : p_laws_FnTests fu x = some true := by
  unfold p_laws_FnTests
  by_cases hb : p_laws_vBig x = true
  · rw [if_pos hb]
  · rw [if_neg hb]
    have hlen : x.length ≤ 65536 := by
      unfold p_laws_vBig at hb
      simp at hb
      omega
    obtain ⟨d, y, d1, h6⟩ := drawFar hx (fu := fu) (by omega)
    obtain ⟨x1, q1, hx1⟩ := cut_bytes hx hlen (n := 1) (by omega)
    obtain ⟨x2, q2, hx2⟩ := cut_bytes hx hlen (n := 2) (by omega)
    obtain ⟨p, w, r, d2, hp⟩ := drawWhich hx1 (fu := fu) (by omega)
    obtain ⟨e, e', z, d3, he, he'⟩ := drawMore hx2 (fu := fu) (by omega)
    obtain ⟨m, n, k, d4, hm⟩ := drawMiss hx
    obtain ⟨a, b, ok, t1, t2, t3, t4, t5⟩ := E.tests_ok (x := d) (y := y) h6 (fu := fu) (by omega)
    obtain ⟨A, q, u1, u2, u3⟩ := F.which_any (p := p) (w := w) (r := r) hp hf
    obtain ⟨c, okc, v1, v2, v3⟩ := E.missing_any (x := m) hm n k (fu := fu) (by omega)
    have hmo := F.more_eq (r := z) he he'
    rw [d1, Option.bind_some]
    simp only
    rw [t1, Option.bind_some, t2, Option.bind_some, t3, Option.bind_some, t4, Option.bind_some, q1, Option.bind_some, d2, Option.bind_some]
    simp only
    rw [u1, Option.bind_some, u2, Option.bind_some, q2, Option.bind_some, d3, Option.bind_some]
    simp only
    rw [hmo, Option.bind_some, d4, Option.bind_some]
    simp only
    rw [v1, Option.bind_some, v2, Option.bind_some, if_neg (by simp [F.pairs_self])]
    refine (F.more_anti (a := e) (b := e') (r := z) (fun _ => _)).trans ?_
    refine (u3 (fun _ => _)).trans ?_
    refine (v3 (fun _ => _)).trans ?_
    exact t5
theorem pure_FnTests {x : List Int} (o : OkT (.slice (.int .u8)) x) : ∃ fu, p_laws_FnTests fu x = some true := by
  have hx : Bytes x := fun b hb => by
    have h : (Lit.int .u8 b).wf = true := o.2 b hb
    simp only [Lit.wf, Bool.and_eq_true, decide_eq_true_eq] at h
    have e1 : IntKind.u8.min = 0 := by decide
    have e2 : IntKind.u8.max = 255 := by decide
    rw [e1, e2] at h
    exact h
  exact ⟨10000000000000, law_FnTests hx (by omega)⟩
end Go.GA
