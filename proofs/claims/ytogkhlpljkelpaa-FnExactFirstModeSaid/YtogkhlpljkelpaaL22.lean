/- The walk of the law of the first mode; no further conditions. -/
import Derived.Test.YtogkhlpljkelpaaL21
namespace Go.GA
open Go Go.Proofs Go.RowKit
set_option maxRecDepth 100000
set_option maxHeartbeats 4000000
theorem box6 {w w2 : World} {a b c d e f : Int} (hb : Below (w.heap.size + 1) (w.alloc (.cells #[.int .i64 a, .int .i64 b, .int .i64 c, .int .i64 d, .int .i64 e, .int .i64 f] 22)) w2) :
    w2.cell? ⟨w.heap.size, 0, none⟩ = some (.int .i64 a) ∧ w2.cell? ⟨w.heap.size, 1, none⟩ = some (.int .i64 b) ∧ w2.cell? ⟨w.heap.size, 2, none⟩ = some (.int .i64 c) ∧ w2.cell? ⟨w.heap.size, 3, none⟩ = some (.int .i64 d) ∧ w2.cell? ⟨w.heap.size, 4, none⟩ = some (.int .i64 e) ∧ w2.cell? ⟨w.heap.size, 5, none⟩ = some (.int .i64 f) := by
  have h : w2.heap[w.heap.size]? = some (.cells #[.int .i64 a, .int .i64 b, .int .i64 c, .int .i64 d, .int .i64 e, .int .i64 f] 22 (0, 0)) := by
    rw [hb.block _ (by omega)]
    show (w.heap.push _)[w.heap.size]? = _
    simp
  unfold World.cell?
  rw [h]
  simp
theorem law_first (a b c d e f n : Int) (q : Bool) (x : List Int) (hx : x.length ≤ 1000)
    (cT : ∀ w, Calls Try.prog 6 #[.agg #[.int .i64 a, .int .i64 b, .int .i64 c, .int .i64 d, .int .i64 e, .int .i64 f]] w fun r w' => r = .returned (.agg #[.int .i64 a, .int .i64 b, .int .i64 c, .int .i64 d, .int .i64 e, .int .i64 f]) ∧ Below w.heap.size w w')
    (cS : ∀ w, Calls Try.prog 11 #[.agg #[.int .i64 a, .int .i64 b, .int .i64 c, .int .i64 d, .int .i64 e, .int .i64 f], .int .i64 n] w fun r w' => ∃ v, r = .returned (.tuple #[v, .bool q]) ∧ SD w.heap.size w'.heap.size w' v x ∧ Below w.heap.size w w')
    (cI : ∀ w, Calls Try.prog 12 #[.agg #[.int .i64 a, .int .i64 b, .int .i64 c, .int .i64 d, .int .i64 e, .int .i64 f], .int .i64 n] w fun r w' => ∃ v, r = .returned (.tuple #[v, .bool q]) ∧ SD w.heap.size w'.heap.size w' v x ∧ Below w.heap.size w w')
    (cE : ∀ lo hi lo' hi' w u v, SD lo hi w u x → SD lo' hi' w v x → Calls Try.prog 13 #[u, v] w fun r w' => r = .returned (.bool true) ∧ Below w.heap.size w w')
    (cH : ∀ lo hi w u, SD lo hi w u (marks1 x.length 1) → Calls Try.prog 15 #[u, .int .i64 1] w fun r w' => r = .returned (.int .i64 (1 + (x.length : Int))) ∧ Below w.heap.size w w') (w : World) :
    Calls Try.prog 4 #[.agg #[.int .i64 a, .int .i64 b, .int .i64 c, .int .i64 d, .int .i64 e, .int .i64 f], .int .i64 n] w fun r w' => r = .returned (.bool true) ∧ Below w.heap.size w w' := by
  go_enter Try.func4, Try.ntmps4
  go_wp2_with (go_at_call 6; refine (cT _).mono ?_; rintro e w1 ⟨rfl, hb1⟩)
  have B1 : Below (w.heap.size + 1) (w.alloc (.cells #[.int .i64 a, .int .i64 b, .int .i64 c, .int .i64 d, .int .i64 e, .int .i64 f] 22)) w1 := by simpa using hb1
  have s1 := hb1.size
  simp at s1
  clear hb1
  refine (cS _).mono ?_
  rintro r w2 ⟨u, rfl, hs2, hb2⟩
  have s2 := hb2.size
  have B2 := B1.trans (hb2.mono s1)
  obtain ⟨g0, g1, g2, g3, g4, g5⟩ := box6 B2
  clear B1 hb2
  go_wp2_with (go_at_call 6; refine (cT _).mono ?_; rintro r w3 ⟨rfl, hb3⟩)
  clear g0 g1 g2 g3 g4 g5
  have s3 := hb3.size
  have B3 := B2.trans (hb3.mono (by omega))
  have hs3 := hs2.same (w' := w3) (fun b _ hb => hb3.block b hb)
  clear B2 hb3 hs2
  refine (cI _).mono ?_
  rintro r w4 ⟨v, rfl, hv4, hb4⟩
  have s4 := hb4.size
  have B4 := B3.trans (hb4.mono (by omega))
  have hs4 := hs3.same (w' := w4) (fun b _ hb => hb4.block b (by omega))
  clear B3 hb4 hs3
  go_wp2_with (go_at_call 13; refine (cE _ _ _ _ _ _ _ hv4 hs4).mono ?_; rintro r w5 ⟨rfl, hb5⟩)
  have s5 := hb5.size
  have B5 := B4.trans (hb5.mono (by omega))
  have hs5 := hs4.same (w' := w5) (fun b _ hb => hb5.block b (by omega))
  have hv5 := hv4.same (w' := w5) (fun b _ hb => hb5.block b (by omega))
  clear B4 hb5 hs4 hv4
  refine (mark_SD hv5 1 (by omega) (by omega)).mono ?_
  rintro r w6 ⟨rfl, hv6, ho6, z6, o6, t6, p6⟩
  have s6 : w5.heap.size ≤ w6.heap.size := by omega
  have B6 := B5.trans (⟨o6, t6, p6, s6, fun k hk => ho6 k (.inl (by omega))⟩ : Below (w.heap.size + 1) w5 w6)
  have hs6 := hs5.same (w' := w6) (fun b _ hb => ho6 b (.inl (by omega)))
  clear B5 hs5 hv5 ho6 z6 o6 t6 p6
  have hx0 : 0 ≤ (x.length : Int) := by omega
  have hx1 : (x.length : Int) ≤ 1000 := by omega
  obtain ⟨L, hL⟩ : ∃ L : Int, (x.length : Int) = L := ⟨_, rfl⟩
  rw [hL] at hx0 hx1 cH ⊢
  go_wp2_with (go_at_call 15; refine (cH _ _ _ _ hv6).mono ?_; rintro r w7 ⟨rfl, hb7⟩; obtain ⟨g0, g1, g2, g3, g4, g5⟩ := box6 (B6.trans (hb7.mono (by omega))))
  have s7 := hb7.size
  have B7 := B6.trans (hb7.mono (by omega))
  have hs7 := hs6.same (w' := w7) (fun b _ hb => hb7.block b (by omega))
  have hv7 := hv6.same (w' := w7) (fun b _ hb => hb7.block b (by omega))
  clear B6 hb7 hs6 hv6 g0 g1 g2 g3 g4 g5
  refine (cT _).mono ?_
  rintro r w8 ⟨rfl, hb8⟩
  have s8 := hb8.size
  have B8 := B7.trans (hb8.mono (by omega))
  have hs8 := hs7.same (w' := w8) (fun b _ hb => hb8.block b (by omega))
  have hv8 := hv7.same (w' := w8) (fun b _ hb => hb8.block b (by omega))
  clear B7 hb8 hs7 hv7
  go_wp2_with (go_at_call 12; refine (cI _).mono ?_; rintro r w9 ⟨h, rfl, hh9, hb9⟩)
  have s9 := hb9.size
  have B9 := B8.trans (hb9.mono (by omega))
  have hs9 := hs8.same (w' := w9) (fun b _ hb => hb9.block b (by omega))
  have hv9 := hv8.same (w' := w9) (fun b _ hb => hb9.block b (by omega))
  clear B8 hb9 hs8 hv8
  refine (cE _ _ _ _ _ _ _ hh9 hs9).mono ?_
  rintro r w10 ⟨rfl, hb10⟩
  have s10 := hb10.size
  have B10 := B9.trans (hb10.mono (by omega))
  have hv10 := hv9.same (w' := w10) (fun b _ hb => hb10.block b (by omega))
  clear B9 hb10 hs9 hv9 hh9
  go_wp2_with (go_at_call 15; refine (cH _ _ _ _ hv10).mono ?_; rintro r w11 ⟨rfl, hb11⟩)
  have s11 := hb11.size
  have B11 := B10.trans (hb11.mono (by omega))
  clear B10 hb11 hv10
  go_wp2
  go_ret
  refine ⟨rfl, ?_⟩
  have B0 : Below w.heap.size w (w.alloc (.cells #[.int .i64 a, .int .i64 b, .int .i64 c, .int .i64 d, .int .i64 e, .int .i64 f] 22)) := (Below.refl _ _).alloc (Nat.le_refl _) _
  exact B0.trans (B11.mono (by omega))
end Go.GA
