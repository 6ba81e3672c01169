/- The law of the first mode returns true; no further conditions. -/
import Derived.Test.YtogkhlpljkelpaaRR9
import Derived.Test.YtogkhlpljkelpaaL22
namespace Go.GA
open Go Go.Proofs Go.RowKit
theorem marks1_up (n : Nat) : ∀ (k : Int), marks1 n k = upL n k := by
  induction n with
  | zero => intro k; rfl
  | succ n ih =>
    intro k
    have h := ih (k + 1)
    unfold marks1 at h ⊢
    rw [List.range_succ_eq_map, List.map_cons, List.map_map, upL, ← h]
    congr 1
    · simp
    · apply List.map_congr_left
      intro i _
      simp only [Function.comp_apply]
      omega
theorem law_ok {x0 : List Int} {n : Int} (hl : x0.length = 6) (w : World) : Calls Try.prog 4 #[aggOf x0, .int .i64 n] w fun e w' => e = .returned (.bool true) ∧ Below w.heap.size w w' := by
  obtain ⟨x, q, e1, e2, hx⟩ := mode_eq (x := x0) (fu := 10000000000) hl n (Nat.le_refl _)
  have cT : ∀ w, Calls Try.prog 6 #[aggOf x0] w fun r w' => r = .returned (aggOf x0) ∧ Below w.heap.size w w' := fun w =>
    scal_calls (vs := [aggOf x0]) (c_laws_toIntA6 (is_mk (toIntA6_eq hl))) ⟨_, _, rfl, arr_ra hl, rfl⟩ (fun ρ h M v => arr_val ρ h M v)
  have cS := first_call (x0 := x0) (n := n) (r := (x, q)) (c_spec_FirstMode (is_mk e2)) hl (show x.length ≤ 1000000 by omega)
  have cI := first_call (x0 := x0) (n := n) (r := (x, q)) (c_impl_FirstMode (is_mk e1)) hl (show x.length ≤ 1000000 by omega)
  have cE : ∀ lo hi lo' hi' w u v, SD lo hi w u x → SD lo' hi' w v x → Calls Try.prog 13 #[u, v] w fun r w' => r = .returned (.bool true) ∧ Below w.heap.size w w' := fun lo hi lo' hi' w u v h1 h2 =>
    scal_calls (vs := [u, v]) (c_laws_eqIntS (r := true) (is_mk (by rw [eqIntS_eq]; simp))) ⟨_, _, rfl, h1.ra noOwn, _, _, rfl, h2.ra noOwn, rfl⟩ (fun ρ h M v hv => hv)
  have cH : ∀ lo hi w u, SD lo hi w u (marks1 x.length 1) → Calls Try.prog 15 #[u, .int .i64 1] w fun r w' => r = .returned (.int .i64 (1 + (x.length : Int))) ∧ Below w.heap.size w w' := fun lo hi w u h1 =>
    scal_calls (vs := [u, .int .i64 1]) (c_laws_heldIntS (is_mk (by rw [marks1_up]; exact held_eq x.length 1 (by omega) (by omega)))) ⟨_, _, rfl, h1.ra noOwn, _, _, rfl, rfl, rfl⟩ (fun ρ h M v hv => hv)
  obtain ⟨a, b, c, d, e, f, rfl⟩ := len6 hl
  exact law_first a b c d e f n q x hx cT cS cI cE cH w
end Go.GA
