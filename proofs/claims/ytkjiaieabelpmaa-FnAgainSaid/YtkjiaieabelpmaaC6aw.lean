/- Walks: what the Go functions compute, by the printed lines below; no further conditions. -/
import Derived.Test.YtkjiaieabelpmaaC6ad
import Derived.Test.YtkjiaieabelpmaaProg
namespace Go.GA
open Go Go.Proofs
set_option maxRecDepth 100000
set_option maxHeartbeats 2000000
set_option linter.unusedVariables false
set_option linter.unusedSimpArgs false
theorem c_laws_vBig {x0 : dy9} {r : Bool} (h : Is (p_laws_vBig x0) r) :
    Scalar Try.prog 4 [.v ty6 x0] (.bool r) := by
  unfold p_laws_vBig at h
  refine ac_enter ⟨6, 0⟩ Try.func4 rfl rfl rfl rfl rfl (fun Γ => ?_)
  refine sl_len_m 0 (x0.length : Int) rfl rfl (fun hl0 => ?_)
  refine aw_seq ?_
  refine aw_region ?_
  refine ao_r (r_assign rfl) rfl ?_
  refine ao_nil ?_
  refine aq_then ?_
  refine aw_seq ?_
  refine aw_region ?_
  refine ao_r (r_move rfl) rfl ?_
  refine ao_r (r_len_vm (x0.length : Int) Try.underlying22 rfl rfl) rfl ?_
  refine ao_r (r_gtr rfl rfl) rfl ?_
  refine ao_r (r_assign rfl) rfl ?_
  refine ao_nil ?_
  refine aq_then ?_
  refine aw_ret ?_
  refine aq_ret ?_
  obtain rfl := is_eq h
  exact aq_finx (l := [.tmp 2]) (xs := [.bool (decide (65536 < (x0.length : Int)))]) idn [.bool (decide (65536 < (x0.length : Int)))] [] rfl (by exact ⟨rfl, trivial⟩) (by exact ⟨ad_ren rfl, trivial⟩) (by exact trivial) rfl (nk rfl) rfl rfl ⟨rfl, rfl⟩
theorem c_spec_l1Cur_next {x0 : dy9} {x1 : Int} {x2 : Int} {r : Int × Int × Int} (h : Is (p_spec_l1Cur_next x0 x1 x2) (some r)) :
    ACallsV Try.prog 59 [.ref 0 0] [(0, .var [.cell (.v ty6 x0), ci x1, .cell (.int .u64 x2)])] (fun r' H' => r' = .int .i64 r.1 ∧ H' = [(0, .var [.cell (.v ty6 x0), ci r.2.1, .cell (.int .u64 r.2.2)])]) := by
  unfold p_spec_l1Cur_next at h
  refine ac_enterV ⟨62, 1⟩ Try.func59 rfl rfl rfl rfl rfl (fun Γ => ?_)
  refine aw_seq ?_
  refine aw_region ?_
  refine ao_r (r_assign rfl) rfl ?_
  refine ao_nil ?_
  refine aq_then ?_
  refine aw_seq ?_
  refine aw_region ?_
  refine ao_r (r_assign rfl) rfl ?_
  refine ao_nil ?_
  refine aq_then ?_
  refine aw_join (fun (s1 : Int) => [(0, .ref 0 0), (3, .int .i64 s1)]) (fun (s1 : Int) => [(0, .var [.cell (.v ty6 x0), ci x1, .cell (.int .u64 x2)])]) (fun (s1 : Int) => True) h (fun s1 hI h => ?_) (fun h j3 => ?_)
  refine aw_seq ?_
  refine aw_region ?_
  refine ao_r (r_move rfl) rfl ?_
  refine ao_r (r_nilCheck rfl rfl) rfl ?_
  refine ao_r (r_fieldAddr Try.underlying50 rfl Try.sizeOf3 rfl rfl rfl) rfl ?_
  refine ao_r (r_load_cell Try.isAgg3 rfl rfl rfl) rfl ?_
  refine ao_r (r_add rfl rfl) rfl ?_
  refine ao_r (r_nilCheck rfl rfl) rfl ?_
  refine ao_r (r_fieldAddr Try.underlying50 rfl Try.sizeOf3 rfl rfl rfl) rfl ?_
  refine ao_effS trivial (e_store rfl rfl rfl rfl Try.sizeOf3 rfl) ?_
  refine ao_nil ?_
  refine aq_then ?_
  refine aw_seq ?_
  refine aw_region ?_
  refine ao_r (r_move rfl) rfl ?_
  refine ao_r (r_move rfl) rfl ?_
  refine ao_r (r_nilCheck rfl rfl) rfl ?_
  refine ao_r (r_fieldAddr Try.underlying50 rfl Try.sizeOf48 rfl rfl rfl) rfl ?_
  refine ao_r (r_load_cell Try.isAgg48 rfl rfl rfl) rfl ?_
  refine ao_r (r_mul rfl rfl) rfl ?_
  refine ao_r (r_move rfl) rfl ?_
  refine ao_r (r_conv Try.underlying3 Try.underlying48 rfl) rfl ?_
  refine ao_r (r_add rfl rfl) rfl ?_
  refine ao_r (r_add rfl rfl) rfl ?_
  refine ao_r (r_nilCheck rfl rfl) rfl ?_
  refine ao_r (r_fieldAddr Try.underlying50 rfl Try.sizeOf48 rfl rfl rfl) rfl ?_
  refine ao_effS trivial (e_store rfl rfl rfl rfl Try.sizeOf48 rfl) ?_
  refine ao_nil ?_
  refine aq_then ?_
  refine aw_seq ?_
  refine aw_seq ?_
  refine aw_drawAll (by kernel_rfl) ?_
  refine an_r 0 (fun _ _ _ h => h) rfl (by kernel_rfl) (r_move rfl) rfl ?_
  refine an_r 1 (fun _ _ _ h => h) rfl (by kernel_rfl) (r_nilCheck rfl rfl) rfl ?_
  refine an_r 2 (fun _ _ _ h => h) rfl (by kernel_rfl) (r_fieldAddr Try.underlying50 rfl Try.sizeOf3 rfl rfl rfl) rfl ?_
  refine an_r 3 (fun _ _ _ h => h) rfl (by kernel_rfl) (r_load_cell Try.isAgg3 rfl rfl rfl) rfl ?_
  refine an_r 4 (fun _ _ _ h => h) rfl (by kernel_rfl) (r_move rfl) rfl ?_
  refine an_r 5 (fun _ _ _ h => h) rfl (by kernel_rfl) (r_nilCheck rfl rfl) rfl ?_
  refine an_r 6 (fun _ _ _ h => h) rfl (by kernel_rfl) (r_fieldAddr Try.underlying50 rfl Try.sizeOf22 rfl rfl rfl) rfl ?_
  refine an_r 7 (fun _ _ _ h => h) rfl (by kernel_rfl) (r_load_cell Try.isAgg22 rfl rfl rfl) rfl ?_
  refine an_r 8 (fun _ _ _ h => h) rfl (by kernel_rfl) (r_len_vm (x0.length : Int) Try.underlying22 rfl rfl) rfl ?_
  refine an_r 9 (fun _ _ _ h => h) rfl (by kernel_rfl) (r_leq rfl rfl) rfl ?_
  refine an_done rfl ?_
  refine aq_then ?_
  refine aw_cond rfl (fun hb4 => ?_) (fun hb4 => ?_)
  have q5 := d_t hb4
  replace h := is_if (d_t hb4) h
  refine aw_seq ?_
  refine aw_region ?_
  refine ao_r (r_move rfl) rfl ?_
  refine ao_r (r_assign rfl) rfl ?_
  refine ao_nil ?_
  refine aq_then ?_
  refine aw_ret ?_
  refine aq_then_ret ?_
  refine aq_ret ?_
  obtain rfl := is_some h
  exact aq_finV (l := [.tmp 2]) (xs := [.int .i64 s1]) idn [.int .i64 s1] [(0, .var [.cell (.v ty6 x0), .cell (.int .i64 (IntKind.wrap .i64 (x1 + 1))), .cell (.int .u64 (IntKind.wrap .u64 ((IntKind.wrap .u64 ((IntKind.wrap .u64 (x2 * 6364136223846793005)) + (IntKind.wrap .u64 s1))) + 462197)))])] rfl (by exact ⟨rfl, trivial⟩) (by exact ⟨ad_ren rfl, trivial⟩) (by exact ⟨⟨_, rfl, ⟨ad_ren rfl, rfl, ad_ren rfl, rfl, ad_ren rfl, rfl, trivial⟩⟩, trivial⟩) rfl (nk1 rfl rfl) ⟨rfl, rfl⟩
  have q6 := d_f hb4
  replace h := is_else (d_f hb4) h
  refine aw_skip ?_
  refine aq_then ?_
  refine aw_seq ?_
  refine aw_region ?_
  refine ao_r (r_move rfl) rfl ?_
  refine ao_r (r_nilCheck rfl rfl) rfl ?_
  refine ao_r (r_fieldAddr Try.underlying50 rfl Try.sizeOf48 rfl rfl rfl) rfl ?_
  refine ao_r (r_load_cell Try.isAgg48 rfl rfl rfl) rfl ?_
  refine ao_r (r_shr rfl rfl (by omega)) rfl ?_
  refine ao_r (r_and rfl rfl) rfl ?_
  refine ao_r (r_conv Try.underlying48 Try.underlying3 rfl) rfl ?_
  refine ao_r (r_assign rfl) rfl ?_
  refine ao_nil ?_
  refine aq_then ?_
  refine aw_ret ?_
  refine aq_ret ?_
  obtain rfl := is_some h
  exact aq_finV (l := [.tmp 2]) (xs := [.int .i64 (IntKind.wrap .i64 (andI .u64 (shrI .u64 (IntKind.wrap .u64 ((IntKind.wrap .u64 ((IntKind.wrap .u64 (x2 * 6364136223846793005)) + (IntKind.wrap .u64 s1))) + 462197)) 40) 255))]) idn [.int .i64 (IntKind.wrap .i64 (andI .u64 (shrI .u64 (IntKind.wrap .u64 ((IntKind.wrap .u64 ((IntKind.wrap .u64 (x2 * 6364136223846793005)) + (IntKind.wrap .u64 s1))) + 462197)) 40) 255))] [(0, .var [.cell (.v ty6 x0), .cell (.int .i64 (IntKind.wrap .i64 (x1 + 1))), .cell (.int .u64 (IntKind.wrap .u64 ((IntKind.wrap .u64 ((IntKind.wrap .u64 (x2 * 6364136223846793005)) + (IntKind.wrap .u64 s1))) + 462197)))])] rfl (by exact ⟨rfl, trivial⟩) (by exact ⟨ad_ren rfl, trivial⟩) (by exact ⟨⟨_, rfl, ⟨ad_ren rfl, rfl, ad_ren rfl, rfl, ad_ren rfl, rfl, trivial⟩⟩, trivial⟩) rfl (nk1 rfl rfl) ⟨rfl, rfl⟩
  refine aw_seq ?_
  refine aw_drawAll (by kernel_rfl) ?_
  refine an_r 0 (fun _ _ _ h => h) rfl (by kernel_rfl) (r_move rfl) rfl ?_
  refine an_r 1 (fun _ _ _ h => h) rfl (by kernel_rfl) (r_nilCheck rfl rfl) rfl ?_
  refine an_r 2 (fun _ _ _ h => h) rfl (by kernel_rfl) (r_fieldAddr Try.underlying50 rfl Try.sizeOf3 rfl rfl rfl) rfl ?_
  refine an_r 3 (fun _ _ _ h => h) rfl (by kernel_rfl) (r_load_cell Try.isAgg3 rfl rfl rfl) rfl ?_
  refine an_r 4 (fun _ _ _ h => h) rfl (by kernel_rfl) (r_move rfl) rfl ?_
  refine an_r 5 (fun _ _ _ h => h) rfl (by kernel_rfl) (r_nilCheck rfl rfl) rfl ?_
  refine an_r 6 (fun _ _ _ h => h) rfl (by kernel_rfl) (r_fieldAddr Try.underlying50 rfl Try.sizeOf22 rfl rfl rfl) rfl ?_
  refine an_r 7 (fun _ _ _ h => h) rfl (by kernel_rfl) (r_load_cell Try.isAgg22 rfl rfl rfl) rfl ?_
  refine an_r 8 (fun _ _ _ h => h) rfl (by kernel_rfl) (r_len_vm (x0.length : Int) Try.underlying22 rfl rfl) rfl ?_
  refine an_r 9 (fun _ _ _ h => h) rfl (by kernel_rfl) (r_lss rfl rfl) rfl ?_
  refine an_done rfl ?_
  refine aq_then ?_
  refine aw_cond rfl (fun hb7 => ?_) (fun hb7 => ?_)
  have q8 := d_t hb7
  replace h := is_if (d_t hb7) h
  obtain ⟨g10, h⟩ := is_guard h
  refine aw_drawAll (by kernel_rfl) ?_
  refine an_r 0 (fun _ _ _ h => h) rfl (by kernel_rfl) (r_move rfl) rfl ?_
  refine an_r 1 (fun _ _ _ h => h) rfl (by kernel_rfl) (r_nilCheck rfl rfl) rfl ?_
  refine an_r 2 (fun _ _ _ h => h) rfl (by kernel_rfl) (r_fieldAddr Try.underlying50 rfl Try.sizeOf22 rfl rfl rfl) rfl ?_
  refine an_r 3 (fun _ _ _ h => h) rfl (by kernel_rfl) (r_load_cell Try.isAgg22 rfl rfl rfl) rfl ?_
  refine an_r 4 (fun _ _ _ h => h) rfl (by kernel_rfl) (r_move rfl) rfl ?_
  refine an_r 5 (fun _ _ _ h => h) rfl (by kernel_rfl) (r_nilCheck rfl rfl) rfl ?_
  refine an_r 6 (fun _ _ _ h => h) rfl (by kernel_rfl) (r_fieldAddr Try.underlying50 rfl Try.sizeOf3 rfl rfl rfl) rfl ?_
  refine an_r 7 (fun _ _ _ h => h) rfl (by kernel_rfl) (r_load_cell Try.isAgg3 rfl rfl rfl) rfl ?_
  refine an_r 8 (fun _ _ _ h => h) rfl (by kernel_rfl) (r_idxAddr_int Try.underlying22 Try.sizeOf5 rfl rfl (show 0 ≤ x1 from by omega) (show x1 < (x0.length : Int) from by omega)) rfl ?_
  refine an_r 9 (fun _ _ _ h => h) rfl (by kernel_rfl) (r_load_c_int Try.isAgg5 Try.sizeOf5 rfl) rfl ?_
  refine an_r 10 (fun _ _ _ h => h) rfl (by kernel_rfl) (r_conv Try.underlying5 Try.underlying3 rfl) rfl ?_
  refine an_r 11 (fun _ _ _ h => h) rfl (by kernel_rfl) (r_assign rfl) rfl ?_
  refine an_done rfl ?_
  exact aq_then (AW.sub (sub_r1 idn (nk1 rfl rfl) (by kernel_rfl)) (j3 (IntKind.wrap .i64 (x0.getD x1.toNat 0)) trivial h))
  have q9 := d_f hb7
  replace h := is_else (d_f hb7) h
  refine aw_skip ?_
  exact aq_then (AW.sub (sub_r1 idn (nk1 rfl rfl) (by kernel_rfl)) (j3 0 trivial h))
theorem c_spec_l1Cur_pick {x0 : Int} {x1 : dy9} {x2 : Int} {x3 : Int} {r : Int × Int × Int} (h : Is (p_spec_l1Cur_pick x0 x1 x2 x3) (some r)) :
    ACallsV Try.prog 35 [.ref 0 0, .int .i64 x0] [(0, .var [.cell (.v ty6 x1), ci x2, .cell (.int .u64 x3)])] (fun r' H' => r' = .int .i64 r.1 ∧ H' = [(0, .var [.cell (.v ty6 x1), ci r.2.1, .cell (.int .u64 r.2.2)])]) := by
  unfold p_spec_l1Cur_pick at h
  refine ac_enterV ⟨20, 1⟩ Try.func35 rfl rfl rfl rfl rfl (fun Γ => ?_)
  refine aw_seq ?_
  refine aw_region ?_
  refine ao_r (r_assign rfl) rfl ?_
  refine ao_nil ?_
  refine aq_then ?_
  refine aw_seq ?_
  refine aw_seq ?_
  refine aw_region ?_
  refine ao_r (r_move rfl) rfl ?_
  refine ao_r (r_leq rfl rfl) rfl ?_
  refine ao_nil ?_
  refine aq_then ?_
  refine aw_cond rfl (fun hb1 => ?_) (fun hb1 => ?_)
  have q2 := d_t hb1
  replace h := is_if (d_t hb1) h
  refine aw_seq ?_
  refine aw_region ?_
  refine ao_r (r_assign rfl) rfl ?_
  refine ao_nil ?_
  refine aq_then ?_
  refine aw_ret ?_
  refine aq_then_ret ?_
  refine aq_ret ?_
  obtain rfl := is_some h
  exact aq_finV (l := [.tmp 4]) (xs := [.int .i64 0]) idn [.int .i64 0] [(0, .var [.cell (.v ty6 x1), ci x2, .cell (.int .u64 x3)])] rfl (by exact ⟨rfl, trivial⟩) (by exact ⟨ad_ren rfl, trivial⟩) (by exact ⟨⟨_, rfl, ⟨ad_ren rfl, rfl, ad_ren rfl, rfl, ad_ren rfl, rfl, trivial⟩⟩, trivial⟩) rfl (nk1 rfl rfl) ⟨rfl, rfl⟩
  have q3 := d_f hb1
  replace h := is_else (d_f hb1) h
  refine aw_skip ?_
  refine aq_then ?_
  refine aw_seq ?_
  refine aw_region ?_
  refine ao_r (r_move rfl) rfl ?_
  obtain ⟨r4, r4h, h⟩ := is_bind h
  refine ao_callV [0] 1 trivial (c_spec_l1Cur_next (is_mk r4h)) Try.func59 rfl rfl rfl rfl rfl ⟨rfl, trivial⟩ ⟨⟨_, rfl, ⟨ad_ren rfl, rfl, ad_ren rfl, rfl, ad_ren rfl, rfl, trivial⟩⟩, trivial⟩ rfl rfl rfl rfl rfl rfl rfl (fun r' H' hr => ?_)
  obtain ⟨rfl, rfl⟩ := hr
  refine ao_norm (y := .int .i64 r4.1) (H' := [(0, .var [.cell (.v ty6 x1), ci r4.2.1, .cell (.int .u64 r4.2.2)])]) rfl rfl ?_
  refine ao_r (r_assign rfl) rfl ?_
  refine ao_nil ?_
  refine aq_then ?_
  refine aw_seq ?_
  refine aw_seq ?_
  refine aw_region ?_
  refine ao_r (r_move rfl) rfl ?_
  refine ao_r (r_gtr rfl rfl) rfl ?_
  refine ao_nil ?_
  refine aq_then ?_
  refine aw_cond rfl (fun hb5 => ?_) (fun hb5 => ?_)
  have q6 := d_t hb5
  replace h := is_if (d_t hb5) h
  refine aw_region ?_
  refine ao_r (r_move rfl) rfl ?_
  refine ao_r (r_mul rfl rfl) rfl ?_
  refine ao_r (r_move rfl) rfl ?_
  obtain ⟨r8, r8h, h⟩ := is_bind h
  refine ao_callV [0] 1 trivial (c_spec_l1Cur_next (is_mk r8h)) Try.func59 rfl rfl rfl rfl rfl ⟨rfl, trivial⟩ ⟨⟨_, rfl, ⟨ad_ren rfl, rfl, ad_ren rfl, rfl, ad_ren rfl, rfl, trivial⟩⟩, trivial⟩ rfl rfl rfl rfl rfl rfl rfl (fun r' H' hr => ?_)
  obtain ⟨rfl, rfl⟩ := hr
  refine ao_norm (y := .int .i64 r8.1) (H' := [(0, .var [.cell (.v ty6 x1), ci r8.2.1, .cell (.int .u64 r8.2.2)])]) rfl rfl ?_
  refine ao_r (r_add rfl rfl) rfl ?_
  refine ao_r (r_assign rfl) rfl ?_
  refine ao_nil ?_
  refine aq_then ?_
  refine aw_seq ?_
  refine aw_region ?_
  refine ao_r (r_move rfl) rfl ?_
  refine ao_r (r_move rfl) rfl ?_
  refine ao_r (r_rem rfl rfl (by omega)) rfl ?_
  refine ao_r (r_assign rfl) rfl ?_
  refine ao_nil ?_
  refine aq_then ?_
  refine aw_ret ?_
  refine aq_ret ?_
  obtain rfl := is_some h
  exact aq_finV (l := [.tmp 4]) (xs := [.int .i64 ((IntKind.wrap .i64 ((IntKind.wrap .i64 (r4.1 * 256)) + r8.1)).tmod x0)]) idn [.int .i64 ((IntKind.wrap .i64 ((IntKind.wrap .i64 (r4.1 * 256)) + r8.1)).tmod x0)] [(0, .var [.cell (.v ty6 x1), ci r8.2.1, .cell (.int .u64 r8.2.2)])] rfl (by exact ⟨rfl, trivial⟩) (by exact ⟨ad_ren rfl, trivial⟩) (by exact ⟨⟨_, rfl, ⟨ad_ren rfl, rfl, ad_ren rfl, rfl, ad_ren rfl, rfl, trivial⟩⟩, trivial⟩) rfl (nk1 rfl rfl) ⟨rfl, rfl⟩
  have q7 := d_f hb5
  replace h := is_else (d_f hb5) h
  refine aw_skip ?_
  refine aq_then ?_
  refine aw_seq ?_
  refine aw_region ?_
  refine ao_r (r_move rfl) rfl ?_
  refine ao_r (r_move rfl) rfl ?_
  refine ao_r (r_rem rfl rfl (by omega)) rfl ?_
  refine ao_r (r_assign rfl) rfl ?_
  refine ao_nil ?_
  refine aq_then ?_
  refine aw_ret ?_
  refine aq_ret ?_
  obtain rfl := is_some h
  exact aq_finV (l := [.tmp 4]) (xs := [.int .i64 (r4.1.tmod x0)]) idn [.int .i64 (r4.1.tmod x0)] [(0, .var [.cell (.v ty6 x1), ci r4.2.1, .cell (.int .u64 r4.2.2)])] rfl (by exact ⟨rfl, trivial⟩) (by exact ⟨ad_ren rfl, trivial⟩) (by exact ⟨⟨_, rfl, ⟨ad_ren rfl, rfl, ad_ren rfl, rfl, ad_ren rfl, rfl, trivial⟩⟩, trivial⟩) rfl (nk1 rfl rfl) ⟨rfl, rfl⟩
theorem c_spec_l1Cur_among {x0 : dy9} {x1 : dy9} {x2 : Int} {x3 : Int} {r : Int × Int × Int} (h : Is (p_spec_l1Cur_among x0 x1 x2 x3) (some r)) :
    ACallsV Try.prog 48 [.ref 0 0, .v ty3 x0] [(0, .var [.cell (.v ty6 x1), ci x2, .cell (.int .u64 x3)])] (fun r' H' => r' = .int .i64 r.1 ∧ H' = [(0, .var [.cell (.v ty6 x1), ci r.2.1, .cell (.int .u64 r.2.2)])]) := by
  unfold p_spec_l1Cur_among at h
  refine ac_enterV ⟨12, 1⟩ Try.func48 rfl rfl rfl rfl rfl (fun Γ => ?_)
  refine sl_len_m 1 (x0.length : Int) rfl rfl (fun hl1 => ?_)
  refine aw_seq ?_
  refine aw_region ?_
  refine ao_r (r_assign rfl) rfl ?_
  refine ao_nil ?_
  refine aq_then ?_
  refine aw_seq ?_
  refine aw_region ?_
  refine ao_r (r_move rfl) rfl ?_
  refine ao_r (r_move rfl) rfl ?_
  refine ao_r (r_move rfl) rfl ?_
  refine ao_r (r_len_vm (x0.length : Int) Try.underlying32 rfl rfl) rfl ?_
  obtain ⟨r1, r1h, h⟩ := is_bind h
  refine ao_callV [0] 1 trivial (c_spec_l1Cur_pick (is_mk r1h)) Try.func35 rfl rfl rfl rfl rfl ⟨rfl, trivial⟩ ⟨⟨_, rfl, ⟨ad_ren rfl, rfl, ad_ren rfl, rfl, ad_ren rfl, rfl, trivial⟩⟩, trivial⟩ rfl rfl rfl rfl rfl rfl rfl (fun r' H' hr => ?_)
  obtain ⟨rfl, rfl⟩ := hr
  refine ao_norm (y := .int .i64 r1.1) (H' := [(0, .var [.cell (.v ty6 x1), ci r1.2.1, .cell (.int .u64 r1.2.2)])]) rfl rfl ?_
  obtain ⟨g2, h⟩ := is_guard h
  obtain ⟨g3, h⟩ := is_guard h
  refine ao_r (r_idxAddr_int Try.underlying32 Try.sizeOf3 rfl rfl (show 0 ≤ r1.1 from by omega) (show r1.1 < (x0.length : Int) from by omega)) rfl ?_
  refine ao_r (r_load_c_int Try.isAgg3 Try.sizeOf3 rfl) rfl ?_
  refine ao_r (r_assign rfl) rfl ?_
  refine ao_nil ?_
  refine aq_then ?_
  refine aw_ret ?_
  refine aq_ret ?_
  obtain rfl := is_some h
  exact aq_finV (l := [.tmp 4]) (xs := [.int .i64 (x0.getD r1.1.toNat 0)]) idn [.int .i64 (x0.getD r1.1.toNat 0)] [(0, .var [.cell (.v ty6 x1), ci r1.2.1, .cell (.int .u64 r1.2.2)])] rfl (by exact ⟨rfl, trivial⟩) (by exact ⟨ad_ren rfl, trivial⟩) (by exact ⟨⟨_, rfl, ⟨ad_ren rfl, rfl, ad_ren rfl, rfl, ad_ren rfl, rfl, trivial⟩⟩, trivial⟩) rfl (nk1 rfl rfl) ⟨rfl, rfl⟩
theorem c_spec_l1Cur_face {x0 : dy9} {x1 : Int} {x2 : Int} {r : Int × Int × Int} (h : Is (p_spec_l1Cur_face x0 x1 x2) (some r)) :
    ACallsV Try.prog 83 [.ref 0 0] [(0, .var [.cell (.v ty6 x0), ci x1, .cell (.int .u64 x2)])] (fun r' H' => r' = .int .i64 r.1 ∧ H' = [(0, .var [.cell (.v ty6 x0), ci r.2.1, .cell (.int .u64 r.2.2)])]) := by
  unfold p_spec_l1Cur_face at h
  refine ac_enterV ⟨6, 1⟩ Try.func83 rfl rfl rfl rfl rfl (fun Γ => ?_)
  refine aw_seq ?_
  refine aw_region ?_
  refine ao_r (r_assign rfl) rfl ?_
  refine ao_nil ?_
  refine aq_then ?_
  refine aw_seq ?_
  refine aw_region ?_
  refine ao_r (r_move rfl) rfl ?_
  refine ao_eff trivial (e_buildSlice (l := [(0, .const (.int .i64 1)), (1, .const (.int .i64 2)), (2, .const (.int .i64 3)), (3, .const (.int .i64 4)), (4, .const (.int .i64 5)), (5, .const (.int .i64 6)), (6, .const (.int .i64 6)), (7, .const (.int .i64 0)), (8, .const (.int .i64 8)), (9, .const (.int .i64 9)), (10, .const (.int .i64 4)), (11, .const (.int .i64 3)), (12, .const (.int .i64 30)), (13, .const (.int .i64 12))]) (t := ty8) 1 ([1, 2, 3, 4, 5, 6, 6, 0, 8, 9, 4, 3, 30, 12] : dy9) rfl Try.underlying32 Try.zeroValue3 Try.sizeOf3 rfl rfl rfl rfl rfl rfl rfl) rfl ?_
  obtain ⟨r1, r1h, h⟩ := is_bind h
  refine ao_frz (fr' := [(0, .ref 0 0), (2, .int .i64 0), (3, .ref 0 0), (4, .v ty3 ([1, 2, 3, 4, 5, 6, 6, 0, 8, 9, 4, 3, 30, 12] : dy9))]) (H' := [(0, .var [.cell (.v ty6 x0), ci x1, .cell (.int .u64 x2)])]) (by exact ⟨⟨_, rfl, ad_ren rfl⟩, ⟨_, rfl, ad_ren rfl⟩, ⟨_, rfl, ad_ren rfl⟩, ⟨_, rfl, ad_osB rfl rfl⟩, trivial⟩) (by exact ⟨⟨_, rfl, ⟨ad_ren rfl, rfl, ad_ren rfl, rfl, ad_ren rfl, rfl, trivial⟩⟩, trivial⟩) rfl ?_
  refine ao_callV [0] 2 trivial (c_spec_l1Cur_among (is_mk r1h)) Try.func48 rfl rfl rfl rfl rfl ⟨rfl, trivial⟩ ⟨⟨_, rfl, ⟨ad_ren rfl, rfl, ad_ren rfl, rfl, ad_ren rfl, rfl, trivial⟩⟩, trivial⟩ rfl rfl rfl rfl rfl rfl rfl (fun r' H' hr => ?_)
  obtain ⟨rfl, rfl⟩ := hr
  refine ao_norm (y := .int .i64 r1.1) (H' := [(0, .var [.cell (.v ty6 x0), ci r1.2.1, .cell (.int .u64 r1.2.2)])]) rfl rfl ?_
  refine ao_r (r_assign rfl) rfl ?_
  refine ao_nil ?_
  refine aq_then ?_
  refine aw_ret ?_
  refine aq_ret ?_
  obtain rfl := is_some h
  exact aq_finV (l := [.tmp 2]) (xs := [.int .i64 r1.1]) idn [.int .i64 r1.1] [(0, .var [.cell (.v ty6 x0), ci r1.2.1, .cell (.int .u64 r1.2.2)])] rfl (by exact ⟨rfl, trivial⟩) (by exact ⟨ad_ren rfl, trivial⟩) (by exact ⟨⟨_, rfl, ⟨ad_ren rfl, rfl, ad_ren rfl, rfl, ad_ren rfl, rfl, trivial⟩⟩, trivial⟩) rfl (nk1 rfl rfl) ⟨rfl, rfl⟩
theorem c_spec_l1Cur_one {x0 : Int} {x1 : dy9} {x2 : Int} {x3 : Int} {r : Bool × Int × Int} (h : Is (p_spec_l1Cur_one x0 x1 x2 x3) (some r)) :
    ACallsV Try.prog 50 [.ref 0 0, .int .i64 x0] [(0, .var [.cell (.v ty6 x1), ci x2, .cell (.int .u64 x3)])] (fun r' H' => r' = .bool r.1 ∧ H' = [(0, .var [.cell (.v ty6 x1), ci r.2.1, .cell (.int .u64 r.2.2)])]) := by
  unfold p_spec_l1Cur_one at h
  refine ac_enterV ⟨9, 1⟩ Try.func50 rfl rfl rfl rfl rfl (fun Γ => ?_)
  refine aw_seq ?_
  refine aw_region ?_
  refine ao_r (r_assign rfl) rfl ?_
  refine ao_nil ?_
  refine aq_then ?_
  refine aw_seq ?_
  refine aw_region ?_
  refine ao_r (r_move rfl) rfl ?_
  refine ao_r (r_move rfl) rfl ?_
  obtain ⟨r1, r1h, h⟩ := is_bind h
  refine ao_callV [0] 1 trivial (c_spec_l1Cur_pick (is_mk r1h)) Try.func35 rfl rfl rfl rfl rfl ⟨rfl, trivial⟩ ⟨⟨_, rfl, ⟨ad_ren rfl, rfl, ad_ren rfl, rfl, ad_ren rfl, rfl, trivial⟩⟩, trivial⟩ rfl rfl rfl rfl rfl rfl rfl (fun r' H' hr => ?_)
  obtain ⟨rfl, rfl⟩ := hr
  refine ao_norm (y := .int .i64 r1.1) (H' := [(0, .var [.cell (.v ty6 x1), ci r1.2.1, .cell (.int .u64 r1.2.2)])]) rfl rfl ?_
  refine ao_r (r_eql rfl rfl) rfl ?_
  refine ao_r (r_assign rfl) rfl ?_
  refine ao_nil ?_
  refine aq_then ?_
  refine aw_ret ?_
  refine aq_ret ?_
  obtain rfl := is_some h
  exact aq_finV (l := [.tmp 4]) (xs := [.bool (decide (r1.1 = 0))]) idn [.bool (decide (r1.1 = 0))] [(0, .var [.cell (.v ty6 x1), ci r1.2.1, .cell (.int .u64 r1.2.2)])] rfl (by exact ⟨rfl, trivial⟩) (by exact ⟨ad_ren rfl, trivial⟩) (by exact ⟨⟨_, rfl, ⟨ad_ren rfl, rfl, ad_ren rfl, rfl, ad_ren rfl, rfl, trivial⟩⟩, trivial⟩) rfl (nk1 rfl rfl) ⟨rfl, rfl⟩
theorem c_spec_l2Sorted {x0 : dy9} {r : dy9} (h : Is (p_spec_l2Sorted x0) r) :
    Scalar Try.prog 84 [.v ty4 x0] (.v ty4 r) := by
  unfold p_spec_l2Sorted at h
  refine ac_enter ⟨36, 0⟩ Try.func84 rfl rfl rfl rfl rfl (fun Γ => ?_)
  refine aw_seq ?_
  refine aw_region ?_
  refine ao_eff trivial (e_box 0 rfl rfl rfl rfl rfl rfl) rfl ?_
  refine ao_eff trivial (e_alloc 1 (y := .v ty4 ((List.replicate 6 0) : dy9)) Try.zeroValue81 (fun ρ h M => ra_zero_arr (t := ty8) rfl) rfl rfl rfl rfl rfl) rfl ?_
  refine ao_nil ?_
  refine aq_then ?_
  refine aw_seq ?_
  refine aw_seq ?_
  refine aw_region ?_
  refine ao_r (r_assign rfl) rfl ?_
  refine ao_nil ?_
  refine aq_then ?_
  refine aw_block ?_
  refine aw_loop (AL.sub (fr' := [(1, .ref 0 0), (2, .ref 1 0), (3, .int .i64 0)]) (H' := [(0, .var [.arr ty8 6 x0]), (1, .var [.arr ty8 6 ((List.replicate 6 0) : dy9)])]) (sub_r1 idn (nk rfl) (by kernel_rfl)) (al_cnt (fun i2 (s1 : dy9) => [(1, .ref 0 0), (2, .ref 1 0), (3, .int .i64 i2)]) (fun i2 (s1 : dy9) => [(0, .var [.arr ty8 6 s1]), (1, .var [.arr ty8 6 ((List.replicate 6 0) : dy9)])]) (fun d i2 (s1 : dy9) => d = Int.toNat (6 - i2) ∧ 0 ≤ i2 ∧ (s1.length : Int) = (x0.length : Int) ∧ i2 ≤ 6) h ⟨rfl, (by (try simp only [List.length_set, List.length_append, List.length_cons, List.length_nil, List.length_replicate, List.length_take, List.length_drop]) <;> omega), (by (try simp only [List.length_set, List.length_append, List.length_cons, List.length_nil, List.length_replicate, List.length_take, List.length_drop]) <;> omega), (by (try simp only [List.length_set, List.length_append, List.length_cons, List.length_nil, List.length_replicate, List.length_take, List.length_drop]) <;> omega)⟩ (fun d3 i2 s1 hI h ih3 => ?_)))
  obtain ⟨hd, _, _, _⟩ := hI
  refine al_round ?_
  refine aw_seq ?_
  refine aw_seq ?_
  refine aw_region ?_
  refine ao_r (r_move rfl) rfl ?_
  refine ao_r (r_lss rfl rfl) rfl ?_
  refine ao_nil ?_
  refine aq_then ?_
  refine aw_cond rfl (fun hb5 => ?_) (fun hb5 => ?_)
  have q6 := d_t hb5
  obtain ⟨d3, rfl⟩ : ∃ e, d3 = e + 1 := ⟨d3 - 1, by omega⟩
  replace h := is_cntS h
  refine aw_skip ?_
  refine aq_then ?_
  refine aw_seq ?_
  refine aw_block ?_
  refine aw_seq ?_
  refine aw_region ?_
  refine ao_r (r_assign rfl) rfl ?_
  refine ao_nil ?_
  refine aq_then ?_
  refine aw_block ?_
  refine aw_loop (AL.sub (fr' := [(1, .ref 0 0), (2, .ref 1 0), (3, .int .i64 i2), (4, .int .i64 0)]) (H' := [(0, .var [.arr ty8 6 s1]), (1, .var [.arr ty8 6 ((List.replicate 6 0) : dy9)])]) (sub_r1 idn (nk rfl) (by kernel_rfl)) (al_cnt (fun i9 (s8 : dy9) => [(1, .ref 0 0), (2, .ref 1 0), (3, .int .i64 i2), (4, .int .i64 i9)]) (fun i9 (s8 : dy9) => [(0, .var [.arr ty8 6 s8]), (1, .var [.arr ty8 6 ((List.replicate 6 0) : dy9)])]) (fun d i9 (s8 : dy9) => d = Int.toNat (5 - i9) ∧ 0 ≤ i9 ∧ (s8.length : Int) = (x0.length : Int) ∧ i9 ≤ 5) h ⟨rfl, (by (try simp only [List.length_set, List.length_append, List.length_cons, List.length_nil, List.length_replicate, List.length_take, List.length_drop]) <;> omega), (by (try simp only [List.length_set, List.length_append, List.length_cons, List.length_nil, List.length_replicate, List.length_take, List.length_drop]) <;> omega), (by (try simp only [List.length_set, List.length_append, List.length_cons, List.length_nil, List.length_replicate, List.length_take, List.length_drop]) <;> omega)⟩ (fun d10 i9 s8 hI h ih10 => ?_)))
  obtain ⟨hd, _, _, _⟩ := hI
  refine al_round ?_
  refine aw_seq ?_
  refine aw_seq ?_
  refine aw_region ?_
  refine ao_r (r_move rfl) rfl ?_
  refine ao_r (r_lss rfl rfl) rfl ?_
  refine ao_nil ?_
  refine aq_then ?_
  refine aw_cond rfl (fun hb12 => ?_) (fun hb12 => ?_)
  have q13 := d_t hb12
  obtain ⟨d10, rfl⟩ : ∃ e, d10 = e + 1 := ⟨d10 - 1, by omega⟩
  replace h := is_cntS h
  refine aw_skip ?_
  refine aq_then ?_
  refine aw_seq ?_
  refine aw_block ?_
  refine aw_seq ?_
  refine aw_drawAll (by kernel_rfl) ?_
  refine an_r 0 (fun _ _ _ h => h) rfl (by kernel_rfl) (r_move rfl) rfl ?_
  refine an_r 1 (fun _ _ _ h => h) rfl (by kernel_rfl) (r_idxAddr_arr (i := i9) Try.underlying81 Try.sizeOf3 rfl rfl (show 0 ≤ i9 from by omega) (show i9 < (6 : Int) from by omega)) rfl ?_
  refine an_r 2 (fun _ _ _ h => h) rfl (by kernel_rfl) (r_load_elema_int Try.isAgg3 Try.sizeOf3 rfl rfl rfl (show i9.toNat < 6 from by omega)) rfl ?_
  refine an_r 3 (fun _ _ _ h => h) rfl (by kernel_rfl) (r_move rfl) rfl ?_
  refine an_r 4 (fun _ _ _ h => h) rfl (by kernel_rfl) (r_addI rfl rfl (wrap_id (by omega) (by omega))) rfl ?_
  refine an_r 5 (fun _ _ _ h => h) rfl (by kernel_rfl) (r_idxAddr_arr (i := (i9 + 1)) Try.underlying81 Try.sizeOf3 rfl rfl (show 0 ≤ (i9 + 1) from by omega) (show (i9 + 1) < (6 : Int) from by omega)) rfl ?_
  refine an_r 6 (fun _ _ _ h => h) rfl (by kernel_rfl) (r_load_elema_int Try.isAgg3 Try.sizeOf3 rfl rfl rfl (show (i9 + 1).toNat < 6 from by omega)) rfl ?_
  refine an_r 7 (fun _ _ _ h => h) rfl (by kernel_rfl) (r_gtr rfl rfl) rfl ?_
  refine an_done rfl ?_
  refine aq_then ?_
  refine aw_cond rfl (fun hb15 => ?_) (fun hb15 => ?_)
  have q16 : (s8.getD (i9 + 1).toNat 0) < (s8.getD i9.toNat 0) := d_t hb15
  replace h := is_if (d_t hb15) h
  refine aw_seq ?_
  refine aw_region ?_
  refine ao_r (r_move rfl) rfl ?_
  refine ao_r (r_idxAddr_arr (i := i9) Try.underlying81 Try.sizeOf3 rfl rfl (show 0 ≤ i9 from by omega) (show i9 < (6 : Int) from by omega)) rfl ?_
  refine ao_r (r_load_elema_int Try.isAgg3 Try.sizeOf3 rfl rfl rfl (show i9.toNat < 6 from by omega)) rfl ?_
  refine ao_r (r_assign rfl) rfl ?_
  refine ao_nil ?_
  refine aq_then ?_
  refine aw_seq ?_
  refine aw_region ?_
  refine ao_r (r_move rfl) rfl ?_
  refine ao_r (r_move rfl) rfl ?_
  refine ao_r (r_addI rfl rfl (wrap_id (by omega) (by omega))) rfl ?_
  refine ao_r (r_idxAddr_arr (i := (i9 + 1)) Try.underlying81 Try.sizeOf3 rfl rfl (show 0 ≤ (i9 + 1) from by omega) (show (i9 + 1) < (6 : Int) from by omega)) rfl ?_
  refine ao_r (r_load_elema_int Try.isAgg3 Try.sizeOf3 rfl rfl rfl (show (i9 + 1).toNat < 6 from by omega)) rfl ?_
  refine ao_r (r_idxAddr_arr (i := i9) Try.underlying81 Try.sizeOf3 rfl rfl (show 0 ≤ i9 from by omega) (show i9 < (6 : Int) from by omega)) rfl ?_
  refine ao_effS trivial (e_store_elema_int Try.sizeOf3 rfl rfl rfl rfl (show i9.toNat < 6 from by omega) rfl) ?_
  refine ao_nil ?_
  refine aq_then ?_
  refine aw_region ?_
  refine ao_r (r_move rfl) rfl ?_
  refine ao_r (r_addI rfl rfl (wrap_id (by omega) (by omega))) rfl ?_
  refine ao_r (r_move rfl) rfl ?_
  refine ao_r (r_idxAddr_arr (i := (i9 + 1)) Try.underlying81 Try.sizeOf3 rfl rfl (show 0 ≤ (i9 + 1) from by omega) (show (i9 + 1) < (6 : Int) from by omega)) rfl ?_
  refine ao_effS trivial (e_store_elema_int Try.sizeOf3 rfl rfl rfl rfl (show (i9 + 1).toNat < 6 from by omega) rfl) ?_
  refine ao_nil ?_
  refine aq_in ?_
  refine aq_then ?_
  refine aw_region ?_
  refine ao_r (r_move rfl) rfl ?_
  refine ao_r (r_addI rfl rfl (wrap_id (by omega) (by omega))) rfl ?_
  refine ao_r (r_assign rfl) rfl ?_
  refine ao_nil ?_
  exact aq_again (AL.sub (sub_r1 idn (nk rfl) (by kernel_rfl)) (ih10 d10 (i9 + 1) ((s8.set i9.toNat (s8.getD (i9 + 1).toNat 0)).set (i9 + 1).toNat (s8.getD i9.toNat 0)) (by omega) ⟨by omega, (by (try simp only [List.length_set, List.length_append, List.length_cons, List.length_nil, List.length_replicate, List.length_take, List.length_drop]) <;> omega), (by (try simp only [List.length_set, List.length_append, List.length_cons, List.length_nil, List.length_replicate, List.length_take, List.length_drop]) <;> omega), (by (try simp only [List.length_set, List.length_append, List.length_cons, List.length_nil, List.length_replicate, List.length_take, List.length_drop]) <;> omega)⟩ h))
  have q17 : ¬ ((s8.getD (i9 + 1).toNat 0) < (s8.getD i9.toNat 0)) := d_f hb15
  replace h := is_else (d_f hb15) h
  refine aw_skip ?_
  refine aq_in ?_
  refine aq_then ?_
  refine aw_region ?_
  refine ao_r (r_move rfl) rfl ?_
  refine ao_r (r_addI rfl rfl (wrap_id (by omega) (by omega))) rfl ?_
  refine ao_r (r_assign rfl) rfl ?_
  refine ao_nil ?_
  exact aq_again (AL.sub (sub_r1 idn (nk rfl) (by kernel_rfl)) (ih10 d10 (i9 + 1) s8 (by omega) ⟨by omega, (by (try simp only [List.length_set, List.length_append, List.length_cons, List.length_nil, List.length_replicate, List.length_take, List.length_drop]) <;> omega), (by (try simp only [List.length_set, List.length_append, List.length_cons, List.length_nil, List.length_replicate, List.length_take, List.length_drop]) <;> omega), (by (try simp only [List.length_set, List.length_append, List.length_cons, List.length_nil, List.length_replicate, List.length_take, List.length_drop]) <;> omega)⟩ h))
  have q14 := d_f hb12
  obtain rfl : d10 = 0 := by omega
  replace h := is_cnt0 h
  refine aw_exit ?_
  refine aq_then_exit ?_
  refine aq_then_exit ?_
  refine aq_in_exit ?_
  refine aq_in ?_
  refine aq_then ?_
  refine aw_region ?_
  refine ao_r (r_move rfl) rfl ?_
  refine ao_r (r_addI rfl rfl (wrap_id (by omega) (by omega))) rfl ?_
  refine ao_r (r_assign rfl) rfl ?_
  refine ao_nil ?_
  exact aq_again (AL.sub (sub_r1 idn (nk rfl) (by kernel_rfl)) (ih3 d3 (i2 + 1) s8 (by omega) ⟨by omega, (by (try simp only [List.length_set, List.length_append, List.length_cons, List.length_nil, List.length_replicate, List.length_take, List.length_drop]) <;> omega), (by (try simp only [List.length_set, List.length_append, List.length_cons, List.length_nil, List.length_replicate, List.length_take, List.length_drop]) <;> omega), (by (try simp only [List.length_set, List.length_append, List.length_cons, List.length_nil, List.length_replicate, List.length_take, List.length_drop]) <;> omega)⟩ h))
  have q7 := d_f hb5
  obtain rfl : d3 = 0 := by omega
  replace h := is_cnt0 h
  refine aw_exit ?_
  refine aq_then_exit ?_
  refine aq_then_exit ?_
  refine aq_in_exit ?_
  refine aq_then ?_
  refine aw_seq ?_
  refine aw_region ?_
  refine ao_r (r_load_arr rfl Try.isAgg81 Try.sizeOf81 rfl rfl rfl) rfl ?_
  refine ao_effS trivial (e_store rfl rfl rfl rfl Try.sizeOf81 rfl) ?_
  refine ao_nil ?_
  refine aq_then ?_
  refine aw_ret ?_
  refine aq_ret ?_
  obtain rfl := is_eq h
  exact aq_finx (l := [.cell 2 81]) (xs := [.v ty4 s1]) idn [.v ty4 s1] [] rfl (by exact ⟨⟨⟨_, _, rfl⟩, r_load_arr rfl Try.isAgg81 Try.sizeOf81 rfl rfl rfl⟩, trivial⟩) (by exact ⟨ad_ren rfl, trivial⟩) (by exact trivial) rfl (nk rfl) rfl rfl ⟨rfl, rfl⟩
theorem c_spec_l1Cur_die {x0 : dy9} {x1 : Int} {x2 : Int} {r : dy9 × Int × Int} (h : Is (p_spec_l1Cur_die x0 x1 x2) (some r)) :
    ACallsV Try.prog 80 [.ref 0 0] [(0, .var [.cell (.v ty6 x0), ci x1, .cell (.int .u64 x2)])] (fun r' H' => r' = .v ty4 r.1 ∧ H' = [(0, .var [.cell (.v ty6 x0), ci r.2.1, .cell (.int .u64 r.2.2)])]) := by
  unfold p_spec_l1Cur_die at h
  refine ac_enterV ⟨59, 1⟩ Try.func80 rfl rfl rfl rfl rfl (fun Γ => ?_)
  refine aw_seq ?_
  refine aw_region ?_
  refine ao_eff trivial (e_alloc 1 (y := .v ty4 ((List.replicate 6 0) : dy9)) Try.zeroValue81 (fun ρ h M => ra_zero_arr (t := ty8) rfl) rfl rfl rfl rfl rfl) rfl ?_
  refine ao_nil ?_
  refine aq_then ?_
  refine aw_seq ?_
  refine aw_region ?_
  refine ao_r (r_build_arr (l := [(0, .const (.int .i64 1)), (1, .const (.int .i64 2)), (2, .const (.int .i64 3)), (3, .const (.int .i64 4)), (4, .const (.int .i64 5)), (5, .const (.int .i64 6))]) (t := ty8) ([1, 2, 3, 4, 5, 6] : dy9) rfl Try.underlying81 Try.zeroValue81 Try.sizeOf3 rfl rfl rfl rfl) rfl ?_
  refine ao_eff trivial (e_alloc 2 (y := .v ty4 ((List.replicate 6 0) : dy9)) Try.zeroValue81 (fun ρ h M => ra_zero_arr (t := ty8) rfl) rfl rfl rfl rfl rfl) rfl ?_
  refine ao_effS trivial (e_store rfl rfl rfl rfl Try.sizeOf81 rfl) ?_
  refine ao_nil ?_
  refine aq_then ?_
  refine aw_join (fun (s1 : Int × Int × dy9) => [(0, .ref 0 0), (2, .ref 1 0), (3, .ref 2 0)]) (fun (s1 : Int × Int × dy9) => [(0, .var [.cell (.v ty6 x0), ci s1.1, .cell (.int .u64 s1.2.1)]), (1, .var [.arr ty8 6 ((List.replicate 6 0) : dy9)]), (2, .var [.arr ty8 6 s1.2.2])]) (fun (s1 : Int × Int × dy9) => (s1.2.2.length : Int) = 6) h (fun s1 hI h => ?_) (fun h j3 => ?_)
  refine aw_seq ?_
  refine aw_region ?_
  refine ao_r (r_load_arr rfl Try.isAgg81 Try.sizeOf81 rfl rfl rfl) rfl ?_
  refine ao_scall trivial (scall (c_spec_l2Sorted (is_mk (rfl : p_spec_l2Sorted s1.2.2 = _))) rfl Try.func84 rfl rfl rfl rfl (fun σ => ⟨ad_ren rfl, trivial⟩)) rfl ?_
  refine ao_effS trivial (e_store rfl rfl rfl rfl Try.sizeOf81 rfl) ?_
  refine ao_nil ?_
  refine aq_then ?_
  refine aw_seq ?_
  refine aw_seq ?_
  refine aw_region ?_
  refine ao_r (r_move rfl) rfl ?_
  obtain ⟨r4, r4h, h⟩ := is_bind h
  refine ao_callV [0] 3 trivial (c_spec_l1Cur_pick (is_mk r4h)) Try.func35 rfl rfl rfl rfl rfl ⟨rfl, trivial⟩ ⟨⟨_, rfl, ⟨ad_ren rfl, rfl, ad_ren rfl, rfl, ad_ren rfl, rfl, trivial⟩⟩, trivial⟩ rfl rfl rfl rfl rfl rfl rfl (fun r' H' hr => ?_)
  obtain ⟨rfl, rfl⟩ := hr
  refine ao_norm (y := .int .i64 r4.1) (H' := [(1, .var [.arr ty8 6 ((List.replicate 6 0) : dy9)]), (2, .var [.arr ty8 6 ((p_spec_l2Sorted s1.2.2) : dy9)]), (0, .var [.cell (.v ty6 x0), ci r4.2.1, .cell (.int .u64 r4.2.2)])]) rfl rfl ?_
  refine ao_nil ?_
  refine aq_then ?_
  refine aw_block ?_
  refine aw_seq ?_
  refine aw_region ?_
  refine ao_r (r_eql rfl rfl) rfl ?_
  refine ao_r (r_assign rfl) rfl ?_
  refine ao_nil ?_
  refine aq_then ?_
  refine aw_cond rfl (fun hb5 => ?_) (fun hb5 => ?_)
  have q6 := d_t hb5
  replace h := is_if (d_t hb5) h
  refine aw_region ?_
  refine ao_r (r_move rfl) rfl ?_
  obtain ⟨r8, r8h, h⟩ := is_bind h
  refine ao_callV [0] 3 trivial (c_spec_l1Cur_pick (is_mk r8h)) Try.func35 rfl rfl rfl rfl rfl ⟨rfl, trivial⟩ ⟨⟨_, rfl, ⟨ad_ren rfl, rfl, ad_ren rfl, rfl, ad_ren rfl, rfl, trivial⟩⟩, trivial⟩ rfl rfl rfl rfl rfl rfl rfl (fun r' H' hr => ?_)
  obtain ⟨rfl, rfl⟩ := hr
  refine ao_norm (y := .int .i64 r8.1) (H' := [(1, .var [.arr ty8 6 ((List.replicate 6 0) : dy9)]), (2, .var [.arr ty8 6 ((p_spec_l2Sorted s1.2.2) : dy9)]), (0, .var [.cell (.v ty6 x0), ci r8.2.1, .cell (.int .u64 r8.2.2)])]) rfl rfl ?_
  refine ao_r (r_move rfl) rfl ?_
  refine ao_eff trivial (e_buildSlice (l := [(0, .const (.int .i64 (-1))), (1, .const (.int .i64 31)), (2, .const (.int .i64 0)), (3, .const (.int .i64 4611686018427387904))]) (t := ty8) 3 ([(-1), 31, 0, 4611686018427387904] : dy9) rfl Try.underlying32 Try.zeroValue3 Try.sizeOf3 rfl rfl rfl rfl rfl rfl rfl) rfl ?_
  obtain ⟨r9, r9h, h⟩ := is_bind h
  refine ao_frz (fr' := [(0, .ref 0 0), (2, .ref 1 0), (3, .ref 2 0), (43, .v ty4 s1.2.2), (44, .v ty4 ((p_spec_l2Sorted s1.2.2) : dy9)), (45, .ref 0 0), (46, .int .i64 r4.1), (48, .bool (decide (r4.1 = 0))), (47, .bool (decide (r4.1 = 0))), (49, .ref 0 0), (50, .int .i64 r8.1), (51, .ref 0 0), (52, .v ty3 ([(-1), 31, 0, 4611686018427387904] : dy9))]) (H' := [(1, .var [.arr ty8 6 ((List.replicate 6 0) : dy9)]), (2, .var [.arr ty8 6 ((p_spec_l2Sorted s1.2.2) : dy9)]), (0, .var [.cell (.v ty6 x0), ci r8.2.1, .cell (.int .u64 r8.2.2)])]) (by exact ⟨⟨_, rfl, ad_ren rfl⟩, ⟨_, rfl, ad_ren rfl⟩, ⟨_, rfl, ad_ren rfl⟩, ⟨_, rfl, ad_ren rfl⟩, ⟨_, rfl, ad_ren rfl⟩, ⟨_, rfl, ad_ren rfl⟩, ⟨_, rfl, ad_ren rfl⟩, ⟨_, rfl, ad_ren rfl⟩, ⟨_, rfl, ad_ren rfl⟩, ⟨_, rfl, ad_ren rfl⟩, ⟨_, rfl, ad_ren rfl⟩, ⟨_, rfl, ad_ren rfl⟩, ⟨_, rfl, ad_osB rfl rfl⟩, trivial⟩) (by exact ⟨⟨_, rfl, ⟨rfl, trivial⟩⟩, ⟨_, rfl, ⟨rfl, trivial⟩⟩, ⟨_, rfl, ⟨ad_ren rfl, rfl, ad_ren rfl, rfl, ad_ren rfl, rfl, trivial⟩⟩, trivial⟩) rfl ?_
  refine ao_callV [0] 4 trivial (c_spec_l1Cur_among (is_mk r9h)) Try.func48 rfl rfl rfl rfl rfl ⟨rfl, trivial⟩ ⟨⟨_, rfl, ⟨ad_ren rfl, rfl, ad_ren rfl, rfl, ad_ren rfl, rfl, trivial⟩⟩, trivial⟩ rfl rfl rfl rfl rfl rfl rfl (fun r' H' hr => ?_)
  obtain ⟨rfl, rfl⟩ := hr
  refine ao_norm (y := .int .i64 r9.1) (H' := [(1, .var [.arr ty8 6 ((List.replicate 6 0) : dy9)]), (2, .var [.arr ty8 6 ((p_spec_l2Sorted s1.2.2) : dy9)]), (0, .var [.cell (.v ty6 x0), ci r9.2.1, .cell (.int .u64 r9.2.2)])]) rfl rfl ?_
  obtain ⟨g10, h⟩ := is_guard h
  obtain ⟨g11, h⟩ := is_guard h
  refine ao_r (r_idxAddr_arr (i := r8.1) Try.underlying81 Try.sizeOf3 rfl rfl (show 0 ≤ r8.1 from by omega) (show r8.1 < (6 : Int) from by omega)) rfl ?_
  refine ao_effS trivial (e_store_elema_int Try.sizeOf3 rfl rfl rfl rfl (show r8.1.toNat < 6 from by omega) rfl) ?_
  refine ao_nil ?_
  refine aq_in ?_
  refine aq_then ?_
  refine aw_seq ?_
  refine aw_region ?_
  refine ao_r (r_load_arr rfl Try.isAgg81 Try.sizeOf81 rfl rfl rfl) rfl ?_
  refine ao_effS trivial (e_store rfl rfl rfl rfl Try.sizeOf81 rfl) ?_
  refine ao_nil ?_
  refine aq_then ?_
  refine aw_ret ?_
  refine aq_ret ?_
  obtain rfl := is_some h
  exact aq_finV (l := [.cell 2 81]) (xs := [.v ty4 (((p_spec_l2Sorted s1.2.2).set r8.1.toNat r9.1) : dy9)]) idn [.v ty4 (((p_spec_l2Sorted s1.2.2).set r8.1.toNat r9.1) : dy9)] [(0, .var [.cell (.v ty6 x0), ci r9.2.1, .cell (.int .u64 r9.2.2)])] rfl (by exact ⟨⟨⟨_, _, rfl⟩, r_load_arr rfl Try.isAgg81 Try.sizeOf81 rfl rfl rfl⟩, trivial⟩) (by exact ⟨ad_ren rfl, trivial⟩) (by exact ⟨⟨_, rfl, ⟨ad_ren rfl, rfl, ad_ren rfl, rfl, ad_ren rfl, rfl, trivial⟩⟩, trivial⟩) rfl (nk1 rfl rfl) ⟨rfl, rfl⟩
  have q7 := d_f hb5
  replace h := is_else (d_f hb5) h
  refine aw_seq ?_
  refine aw_region ?_
  refine ao_r (r_eql rfl rfl) rfl ?_
  refine ao_r (r_assign rfl) rfl ?_
  refine ao_nil ?_
  refine aq_then ?_
  refine aw_cond rfl (fun hb12 => ?_) (fun hb12 => ?_)
  have q13 := d_t hb12
  replace h := is_if (d_t hb12) h
  refine aw_region ?_
  refine ao_r (r_idxAddr_arr (i := 0) Try.underlying81 Try.sizeOf3 rfl rfl (show 0 ≤ 0 from by omega) (show 0 < (6 : Int) from by omega)) rfl ?_
  refine ao_effS trivial (e_store_elema_int Try.sizeOf3 rfl rfl rfl rfl (show 0 < 6 from by omega) rfl) ?_
  refine ao_nil ?_
  refine aq_in ?_
  refine aq_then ?_
  refine aw_seq ?_
  refine aw_region ?_
  refine ao_r (r_load_arr rfl Try.isAgg81 Try.sizeOf81 rfl rfl rfl) rfl ?_
  refine ao_effS trivial (e_store rfl rfl rfl rfl Try.sizeOf81 rfl) ?_
  refine ao_nil ?_
  refine aq_then ?_
  refine aw_ret ?_
  refine aq_ret ?_
  obtain rfl := is_some h
  exact aq_finV (l := [.cell 2 81]) (xs := [.v ty4 (((p_spec_l2Sorted s1.2.2).set 0 30) : dy9)]) idn [.v ty4 (((p_spec_l2Sorted s1.2.2).set 0 30) : dy9)] [(0, .var [.cell (.v ty6 x0), ci r4.2.1, .cell (.int .u64 r4.2.2)])] rfl (by exact ⟨⟨⟨_, _, rfl⟩, r_load_arr rfl Try.isAgg81 Try.sizeOf81 rfl rfl rfl⟩, trivial⟩) (by exact ⟨ad_ren rfl, trivial⟩) (by exact ⟨⟨_, rfl, ⟨ad_ren rfl, rfl, ad_ren rfl, rfl, ad_ren rfl, rfl, trivial⟩⟩, trivial⟩) rfl (nk1 rfl rfl) ⟨rfl, rfl⟩
  have q14 := d_f hb12
  replace h := is_else (d_f hb12) h
  refine aw_skip ?_
  refine aq_in ?_
  refine aq_then ?_
  refine aw_seq ?_
  refine aw_region ?_
  refine ao_r (r_load_arr rfl Try.isAgg81 Try.sizeOf81 rfl rfl rfl) rfl ?_
  refine ao_effS trivial (e_store rfl rfl rfl rfl Try.sizeOf81 rfl) ?_
  refine ao_nil ?_
  refine aq_then ?_
  refine aw_ret ?_
  refine aq_ret ?_
  obtain rfl := is_some h
  exact aq_finV (l := [.cell 2 81]) (xs := [.v ty4 ((p_spec_l2Sorted s1.2.2) : dy9)]) idn [.v ty4 ((p_spec_l2Sorted s1.2.2) : dy9)] [(0, .var [.cell (.v ty6 x0), ci r4.2.1, .cell (.int .u64 r4.2.2)])] rfl (by exact ⟨⟨⟨_, _, rfl⟩, r_load_arr rfl Try.isAgg81 Try.sizeOf81 rfl rfl rfl⟩, trivial⟩) (by exact ⟨ad_ren rfl, trivial⟩) (by exact ⟨⟨_, rfl, ⟨ad_ren rfl, rfl, ad_ren rfl, rfl, ad_ren rfl, rfl, trivial⟩⟩, trivial⟩) rfl (nk1 rfl rfl) ⟨rfl, rfl⟩
  refine aw_seq ?_
  refine aw_region ?_
  refine ao_r (r_move rfl) rfl ?_
  obtain ⟨r15, r15h, h⟩ := is_bind h
  refine ao_callV [0] 3 trivial (c_spec_l1Cur_pick (is_mk r15h)) Try.func35 rfl rfl rfl rfl rfl ⟨rfl, trivial⟩ ⟨⟨_, rfl, ⟨ad_ren rfl, rfl, ad_ren rfl, rfl, ad_ren rfl, rfl, trivial⟩⟩, trivial⟩ rfl rfl rfl rfl rfl rfl rfl (fun r' H' hr => ?_)
  obtain ⟨rfl, rfl⟩ := hr
  refine ao_norm (y := .int .i64 r15.1) (H' := [(2, .var [.arr ty8 6 ([1, 2, 3, 4, 5, 6] : dy9)]), (1, .var [.arr ty8 6 ((List.replicate 6 0) : dy9)]), (0, .var [.cell (.v ty6 x0), ci r15.2.1, .cell (.int .u64 r15.2.2)])]) rfl rfl ?_
  refine ao_nil ?_
  refine aq_then ?_
  refine aw_block ?_
  refine aw_seq ?_
  refine aw_region ?_
  refine ao_r (r_eql rfl rfl) rfl ?_
  refine ao_r (r_assign rfl) rfl ?_
  refine ao_nil ?_
  refine aq_then ?_
  refine aw_cond rfl (fun hb16 => ?_) (fun hb16 => ?_)
  have q17 := d_t hb16
  replace h := is_if (d_t hb16) h
  refine aw_seq ?_
  refine aw_region ?_
  refine ao_r (r_load_arr rfl Try.isAgg81 Try.sizeOf81 rfl rfl rfl) rfl ?_
  refine ao_effS trivial (e_store rfl rfl rfl rfl Try.sizeOf81 rfl) ?_
  refine ao_nil ?_
  refine aq_then ?_
  refine aw_ret ?_
  refine aq_in_ret ?_
  refine aq_then_ret ?_
  refine aq_ret ?_
  obtain rfl := is_some h
  exact aq_finV (l := [.cell 2 81]) (xs := [.v ty4 ([1, 2, 3, 4, 5, 6] : dy9)]) idn [.v ty4 ([1, 2, 3, 4, 5, 6] : dy9)] [(0, .var [.cell (.v ty6 x0), ci r15.2.1, .cell (.int .u64 r15.2.2)])] rfl (by exact ⟨⟨⟨_, _, rfl⟩, r_load_arr rfl Try.isAgg81 Try.sizeOf81 rfl rfl rfl⟩, trivial⟩) (by exact ⟨ad_ren rfl, trivial⟩) (by exact ⟨⟨_, rfl, ⟨ad_ren rfl, rfl, ad_ren rfl, rfl, ad_ren rfl, rfl, trivial⟩⟩, trivial⟩) rfl (nk1 rfl rfl) ⟨rfl, rfl⟩
  have q18 := d_f hb16
  replace h := is_else (d_f hb16) h
  refine aw_seq ?_
  refine aw_region ?_
  refine ao_r (r_eql rfl rfl) rfl ?_
  refine ao_r (r_assign rfl) rfl ?_
  refine ao_nil ?_
  refine aq_then ?_
  refine aw_cond rfl (fun hb19 => ?_) (fun hb19 => ?_)
  have q20 := d_t hb19
  replace h := is_if (d_t hb19) h
  refine aw_region ?_
  refine ao_r (r_build_arr (l := [(0, .const (.int .i64 1)), (1, .const (.int .i64 2)), (2, .const (.int .i64 2)), (3, .const (.int .i64 3)), (4, .const (.int .i64 3)), (5, .const (.int .i64 4))]) (t := ty8) ([1, 2, 2, 3, 3, 4] : dy9) rfl Try.underlying81 Try.zeroValue81 Try.sizeOf3 rfl rfl rfl rfl) rfl ?_
  refine ao_effS trivial (e_store rfl rfl rfl rfl Try.sizeOf81 rfl) ?_
  refine ao_nil ?_
  refine aq_in ?_
  exact aq_then (AW.sub (sub_r1 idn (nk1 rfl rfl) (by kernel_rfl)) (j3 (r15.2.1, r15.2.2, [1, 2, 2, 3, 3, 4]) (by (try simp only [List.length_set, List.length_append, List.length_cons, List.length_nil, List.length_replicate, List.length_take, List.length_drop]) <;> omega) h))
  have q21 := d_f hb19
  replace h := is_else (d_f hb19) h
  refine aw_seq ?_
  refine aw_region ?_
  refine ao_r (r_eql rfl rfl) rfl ?_
  refine ao_r (r_assign rfl) rfl ?_
  refine ao_nil ?_
  refine aq_then ?_
  refine aw_cond rfl (fun hb22 => ?_) (fun hb22 => ?_)
  have q23 := d_t hb22
  replace h := is_if (d_t hb22) h
  refine aw_seq ?_
  refine aw_region ?_
  refine ao_r (r_move rfl) rfl ?_
  obtain ⟨r25, r25h, h⟩ := is_bind h
  refine ao_callV [0] 3 trivial (c_spec_l1Cur_face (is_mk r25h)) Try.func83 rfl rfl rfl rfl rfl ⟨rfl, trivial⟩ ⟨⟨_, rfl, ⟨ad_ren rfl, rfl, ad_ren rfl, rfl, ad_ren rfl, rfl, trivial⟩⟩, trivial⟩ rfl rfl rfl rfl rfl rfl rfl (fun r' H' hr => ?_)
  obtain ⟨rfl, rfl⟩ := hr
  refine ao_norm (y := .int .i64 r25.1) (H' := [(2, .var [.arr ty8 6 ([1, 2, 3, 4, 5, 6] : dy9)]), (1, .var [.arr ty8 6 ((List.replicate 6 0) : dy9)]), (0, .var [.cell (.v ty6 x0), ci r25.2.1, .cell (.int .u64 r25.2.2)])]) rfl rfl ?_
  refine ao_r (r_move rfl) rfl ?_
  obtain ⟨r26, r26h, h⟩ := is_bind h
  refine ao_callV [0] 3 trivial (c_spec_l1Cur_face (is_mk r26h)) Try.func83 rfl rfl rfl rfl rfl ⟨rfl, trivial⟩ ⟨⟨_, rfl, ⟨ad_ren rfl, rfl, ad_ren rfl, rfl, ad_ren rfl, rfl, trivial⟩⟩, trivial⟩ rfl rfl rfl rfl rfl rfl rfl (fun r' H' hr => ?_)
  obtain ⟨rfl, rfl⟩ := hr
  refine ao_norm (y := .int .i64 r26.1) (H' := [(2, .var [.arr ty8 6 ([1, 2, 3, 4, 5, 6] : dy9)]), (1, .var [.arr ty8 6 ((List.replicate 6 0) : dy9)]), (0, .var [.cell (.v ty6 x0), ci r26.2.1, .cell (.int .u64 r26.2.2)])]) rfl rfl ?_
  refine ao_r (r_assign rfl) rfl ?_
  refine ao_r (r_assign rfl) rfl ?_
  refine ao_nil ?_
  refine aq_then ?_
  refine aw_seq ?_
  refine aw_region ?_
  refine ao_r (r_assign rfl) rfl ?_
  refine ao_nil ?_
  refine aq_then ?_
  refine aw_block ?_
  refine aw_loop (AL.sub (fr' := [(0, .ref 0 0), (2, .ref 1 0), (3, .ref 2 0), (4, .int .i64 r25.1), (5, .int .i64 r26.1), (6, .int .i64 0)]) (H' := [(0, .var [.cell (.v ty6 x0), ci r26.2.1, .cell (.int .u64 r26.2.2)]), (1, .var [.arr ty8 6 ((List.replicate 6 0) : dy9)]), (2, .var [.arr ty8 6 ([1, 2, 3, 4, 5, 6] : dy9)])]) (sub_r1 idn (nk1 rfl rfl) (by kernel_rfl)) (al_cnt (fun i28 (s27 : Int × Int × dy9) => [(0, .ref 0 0), (2, .ref 1 0), (3, .ref 2 0), (4, .int .i64 r25.1), (5, .int .i64 r26.1), (6, .int .i64 i28)]) (fun i28 (s27 : Int × Int × dy9) => [(0, .var [.cell (.v ty6 x0), ci s27.1, .cell (.int .u64 s27.2.1)]), (1, .var [.arr ty8 6 ((List.replicate 6 0) : dy9)]), (2, .var [.arr ty8 6 s27.2.2])]) (fun d i28 (s27 : Int × Int × dy9) => d = Int.toNat (6 - i28) ∧ 0 ≤ i28 ∧ (s27.2.2.length : Int) = 6 ∧ i28 ≤ 6) h ⟨rfl, (by (try simp only [List.length_set, List.length_append, List.length_cons, List.length_nil, List.length_replicate, List.length_take, List.length_drop]) <;> omega), (by (try simp only [List.length_set, List.length_append, List.length_cons, List.length_nil, List.length_replicate, List.length_take, List.length_drop]) <;> omega), (by (try simp only [List.length_set, List.length_append, List.length_cons, List.length_nil, List.length_replicate, List.length_take, List.length_drop]) <;> omega)⟩ (fun d29 i28 s27 hI h ih29 => ?_)))
  obtain ⟨hd, _, _, _⟩ := hI
  refine al_round ?_
  refine aw_seq ?_
  refine aw_seq ?_
  refine aw_region ?_
  refine ao_r (r_move rfl) rfl ?_
  refine ao_r (r_lss rfl rfl) rfl ?_
  refine ao_nil ?_
  refine aq_then ?_
  refine aw_cond rfl (fun hb31 => ?_) (fun hb31 => ?_)
  have q32 := d_t hb31
  obtain ⟨d29, rfl⟩ : ∃ e, d29 = e + 1 := ⟨d29 - 1, by omega⟩
  replace h := is_cntS h
  refine aw_skip ?_
  refine aq_then ?_
  refine aw_seq ?_
  refine aw_block ?_
  refine aw_seq ?_
  refine aw_region ?_
  refine ao_r (r_move rfl) rfl ?_
  refine ao_r (r_move rfl) rfl ?_
  refine ao_r (r_idxAddr_arr (i := i28) Try.underlying81 Try.sizeOf3 rfl rfl (show 0 ≤ i28 from by omega) (show i28 < (6 : Int) from by omega)) rfl ?_
  refine ao_effS trivial (e_store_elema_int Try.sizeOf3 rfl rfl rfl rfl (show i28.toNat < 6 from by omega) rfl) ?_
  refine ao_nil ?_
  refine aq_then ?_
  refine aw_seq ?_
  refine aw_region ?_
  refine ao_r (r_move rfl) rfl ?_
  obtain ⟨r34, r34h, h⟩ := is_bind h
  refine ao_callV [0] 3 trivial (c_spec_l1Cur_one (is_mk r34h)) Try.func50 rfl rfl rfl rfl rfl ⟨rfl, trivial⟩ ⟨⟨_, rfl, ⟨ad_ren rfl, rfl, ad_ren rfl, rfl, ad_ren rfl, rfl, trivial⟩⟩, trivial⟩ rfl rfl rfl rfl rfl rfl rfl (fun r' H' hr => ?_)
  obtain ⟨rfl, rfl⟩ := hr
  refine ao_norm (y := .bool r34.1) (H' := [(1, .var [.arr ty8 6 ((List.replicate 6 0) : dy9)]), (2, .var [.arr ty8 6 ((s27.2.2.set i28.toNat r25.1) : dy9)]), (0, .var [.cell (.v ty6 x0), ci r34.2.1, .cell (.int .u64 r34.2.2)])]) rfl rfl ?_
  refine ao_nil ?_
  refine aq_then ?_
  refine aw_cond rfl (fun hb35 => ?_) (fun hb35 => ?_)
  replace h := is_if hb35 h
  refine aw_region ?_
  refine ao_r (r_move rfl) rfl ?_
  refine ao_r (r_move rfl) rfl ?_
  refine ao_r (r_idxAddr_arr (i := i28) Try.underlying81 Try.sizeOf3 rfl rfl (show 0 ≤ i28 from by omega) (show i28 < (6 : Int) from by omega)) rfl ?_
  refine ao_effS trivial (e_store_elema_int Try.sizeOf3 rfl rfl rfl rfl (show i28.toNat < 6 from by omega) rfl) ?_
  refine ao_nil ?_
  refine aq_in ?_
  refine aq_then ?_
  refine aw_region ?_
  refine ao_r (r_move rfl) rfl ?_
  refine ao_r (r_addI rfl rfl (wrap_id (by omega) (by omega))) rfl ?_
  refine ao_r (r_assign rfl) rfl ?_
  refine ao_nil ?_
  exact aq_again (AL.sub (sub_r1 idn (nk1 rfl rfl) (by kernel_rfl)) (ih29 d29 (i28 + 1) (r34.2.1, r34.2.2, ((s27.2.2.set i28.toNat r25.1).set i28.toNat r26.1)) (by omega) ⟨by omega, (by (try simp only [List.length_set, List.length_append, List.length_cons, List.length_nil, List.length_replicate, List.length_take, List.length_drop]) <;> omega), (by (try simp only [List.length_set, List.length_append, List.length_cons, List.length_nil, List.length_replicate, List.length_take, List.length_drop]) <;> omega), (by (try simp only [List.length_set, List.length_append, List.length_cons, List.length_nil, List.length_replicate, List.length_take, List.length_drop]) <;> omega)⟩ h))
  replace h := is_else (ne_t hb35) h
  refine aw_skip ?_
  refine aq_in ?_
  refine aq_then ?_
  refine aw_region ?_
  refine ao_r (r_move rfl) rfl ?_
  refine ao_r (r_addI rfl rfl (wrap_id (by omega) (by omega))) rfl ?_
  refine ao_r (r_assign rfl) rfl ?_
  refine ao_nil ?_
  exact aq_again (AL.sub (sub_r1 idn (nk1 rfl rfl) (by kernel_rfl)) (ih29 d29 (i28 + 1) (r34.2.1, r34.2.2, (s27.2.2.set i28.toNat r25.1)) (by omega) ⟨by omega, (by (try simp only [List.length_set, List.length_append, List.length_cons, List.length_nil, List.length_replicate, List.length_take, List.length_drop]) <;> omega), (by (try simp only [List.length_set, List.length_append, List.length_cons, List.length_nil, List.length_replicate, List.length_take, List.length_drop]) <;> omega), (by (try simp only [List.length_set, List.length_append, List.length_cons, List.length_nil, List.length_replicate, List.length_take, List.length_drop]) <;> omega)⟩ h))
  have q33 := d_f hb31
  obtain rfl : d29 = 0 := by omega
  replace h := is_cnt0 h
  refine aw_exit ?_
  refine aq_then_exit ?_
  refine aq_then_exit ?_
  refine aq_in_exit ?_
  refine aq_in ?_
  exact aq_then (AW.sub (sub_r1 idn (nk1 rfl rfl) (by kernel_rfl)) (j3 (s27.1, s27.2.1, s27.2.2) (by (try simp only [List.length_set, List.length_append, List.length_cons, List.length_nil, List.length_replicate, List.length_take, List.length_drop]) <;> omega) h))
  have q24 := d_f hb22
  replace h := is_else (d_f hb22) h
  refine aw_seq ?_
  refine aw_region ?_
  refine ao_r (r_assign rfl) rfl ?_
  refine ao_nil ?_
  refine aq_then ?_
  refine aw_block ?_
  refine aw_loop (AL.sub (fr' := [(0, .ref 0 0), (2, .ref 1 0), (3, .ref 2 0), (7, .int .i64 0)]) (H' := [(0, .var [.cell (.v ty6 x0), ci r15.2.1, .cell (.int .u64 r15.2.2)]), (1, .var [.arr ty8 6 ((List.replicate 6 0) : dy9)]), (2, .var [.arr ty8 6 ([1, 2, 3, 4, 5, 6] : dy9)])]) (sub_r1 idn (nk1 rfl rfl) (by kernel_rfl)) (al_cnt (fun i37 (s36 : Int × Int × dy9) => [(0, .ref 0 0), (2, .ref 1 0), (3, .ref 2 0), (7, .int .i64 i37)]) (fun i37 (s36 : Int × Int × dy9) => [(0, .var [.cell (.v ty6 x0), ci s36.1, .cell (.int .u64 s36.2.1)]), (1, .var [.arr ty8 6 ((List.replicate 6 0) : dy9)]), (2, .var [.arr ty8 6 s36.2.2])]) (fun d i37 (s36 : Int × Int × dy9) => d = Int.toNat (6 - i37) ∧ 0 ≤ i37 ∧ (s36.2.2.length : Int) = 6 ∧ i37 ≤ 6) h ⟨rfl, (by (try simp only [List.length_set, List.length_append, List.length_cons, List.length_nil, List.length_replicate, List.length_take, List.length_drop]) <;> omega), (by (try simp only [List.length_set, List.length_append, List.length_cons, List.length_nil, List.length_replicate, List.length_take, List.length_drop]) <;> omega), (by (try simp only [List.length_set, List.length_append, List.length_cons, List.length_nil, List.length_replicate, List.length_take, List.length_drop]) <;> omega)⟩ (fun d38 i37 s36 hI h ih38 => ?_)))
  obtain ⟨hd, _, _, _⟩ := hI
  refine al_round ?_
  refine aw_seq ?_
  refine aw_seq ?_
  refine aw_region ?_
  refine ao_r (r_move rfl) rfl ?_
  refine ao_r (r_lss rfl rfl) rfl ?_
  refine ao_nil ?_
  refine aq_then ?_
  refine aw_cond rfl (fun hb40 => ?_) (fun hb40 => ?_)
  have q41 := d_t hb40
  obtain ⟨d38, rfl⟩ : ∃ e, d38 = e + 1 := ⟨d38 - 1, by omega⟩
  replace h := is_cntS h
  refine aw_skip ?_
  refine aq_then ?_
  refine aw_seq ?_
  refine aw_block ?_
  refine aw_region ?_
  refine ao_r (r_move rfl) rfl ?_
  refine ao_r (r_move rfl) rfl ?_
  obtain ⟨r43, r43h, h⟩ := is_bind h
  refine ao_callV [0] 3 trivial (c_spec_l1Cur_face (is_mk r43h)) Try.func83 rfl rfl rfl rfl rfl ⟨rfl, trivial⟩ ⟨⟨_, rfl, ⟨ad_ren rfl, rfl, ad_ren rfl, rfl, ad_ren rfl, rfl, trivial⟩⟩, trivial⟩ rfl rfl rfl rfl rfl rfl rfl (fun r' H' hr => ?_)
  obtain ⟨rfl, rfl⟩ := hr
  refine ao_norm (y := .int .i64 r43.1) (H' := [(1, .var [.arr ty8 6 ((List.replicate 6 0) : dy9)]), (2, .var [.arr ty8 6 s36.2.2]), (0, .var [.cell (.v ty6 x0), ci r43.2.1, .cell (.int .u64 r43.2.2)])]) rfl rfl ?_
  refine ao_r (r_idxAddr_arr (i := i37) Try.underlying81 Try.sizeOf3 rfl rfl (show 0 ≤ i37 from by omega) (show i37 < (6 : Int) from by omega)) rfl ?_
  refine ao_effS trivial (e_store_elema_int Try.sizeOf3 rfl rfl rfl rfl (show i37.toNat < 6 from by omega) rfl) ?_
  refine ao_nil ?_
  refine aq_in ?_
  refine aq_then ?_
  refine aw_region ?_
  refine ao_r (r_move rfl) rfl ?_
  refine ao_r (r_addI rfl rfl (wrap_id (by omega) (by omega))) rfl ?_
  refine ao_r (r_assign rfl) rfl ?_
  refine ao_nil ?_
  exact aq_again (AL.sub (sub_r1 idn (nk1 rfl rfl) (by kernel_rfl)) (ih38 d38 (i37 + 1) (r43.2.1, r43.2.2, (s36.2.2.set i37.toNat r43.1)) (by omega) ⟨by omega, (by (try simp only [List.length_set, List.length_append, List.length_cons, List.length_nil, List.length_replicate, List.length_take, List.length_drop]) <;> omega), (by (try simp only [List.length_set, List.length_append, List.length_cons, List.length_nil, List.length_replicate, List.length_take, List.length_drop]) <;> omega), (by (try simp only [List.length_set, List.length_append, List.length_cons, List.length_nil, List.length_replicate, List.length_take, List.length_drop]) <;> omega)⟩ h))
  have q42 := d_f hb40
  obtain rfl : d38 = 0 := by omega
  replace h := is_cnt0 h
  refine aw_exit ?_
  refine aq_then_exit ?_
  refine aq_then_exit ?_
  refine aq_in_exit ?_
  refine aq_in ?_
  exact aq_then (AW.sub (sub_r1 idn (nk1 rfl rfl) (by kernel_rfl)) (j3 (s36.1, s36.2.1, s36.2.2) (by (try simp only [List.length_set, List.length_append, List.length_cons, List.length_nil, List.length_replicate, List.length_take, List.length_drop]) <;> omega) h))
theorem c_spec_l1Cur_pool {fu : Nat} {x0 : dy9} {x1 : Int} {x2 : Int} {r : dy7 × Int × Int} (h : Is (p_spec_l1Cur_pool fu x0 x1 x2) (some r)) :
    ACallsV Try.prog 72 [.ref 0 0] [(0, .var [.cell (.v ty6 x0), ci x1, .cell (.int .u64 x2)])] (fun r' H' => r' = .os 1 ∧ H' = [(0, .var [.cell (.v ty6 x0), ci r.2.1, .cell (.int .u64 r.2.2)]), (1, .row ty4 r.1)]) := by
  unfold p_spec_l1Cur_pool at h
  refine ac_enterV ⟨47, 1⟩ Try.func72 rfl rfl rfl rfl rfl (fun Γ => ?_)
  refine aw_seq ?_
  refine aw_region ?_
  refine ao_r (r_assign rfl) rfl ?_
  refine ao_nil ?_
  refine aq_then ?_
  refine aw_seq ?_
  refine aw_region ?_
  refine ao_eff trivial (e_buildSlice (l := []) (t := ty4) 1 ([] : dy7) rfl Try.underlying24 Try.zeroValue81 Try.sizeOf81 rfl rfl rfl rfl rfl rfl rfl) rfl ?_
  refine ao_r (r_assign rfl) rfl ?_
  refine ao_nil ?_
  refine aq_then ?_
  refine aw_seq ?_
  refine aw_seq ?_
  refine aw_region ?_
  refine ao_r (r_move rfl) rfl ?_
  refine ao_eff trivial (e_buildSlice (l := [(0, .const (.int .i64 2)), (1, .const (.int .i64 3)), (2, .const (.int .i64 1)), (3, .const (.int .i64 2)), (4, .const (.int .i64 4))]) (t := ty8) 2 ([2, 3, 1, 2, 4] : dy9) rfl Try.underlying32 Try.zeroValue3 Try.sizeOf3 rfl rfl rfl rfl rfl rfl rfl) rfl ?_
  obtain ⟨r1, r1h, h⟩ := is_bind h
  refine ao_frz (fr' := [(0, .ref 0 0), (2, .nilsl), (6, .os 1), (3, .os 1), (7, .ref 0 0), (8, .v ty3 ([2, 3, 1, 2, 4] : dy9))]) (H' := [(1, .row ty4 ([] : dy7)), (0, .var [.cell (.v ty6 x0), ci x1, .cell (.int .u64 x2)])]) (by exact ⟨⟨_, rfl, ad_ren rfl⟩, ⟨_, rfl, ad_ren rfl⟩, ⟨_, rfl, ad_ren rfl⟩, ⟨_, rfl, ad_ren rfl⟩, ⟨_, rfl, ad_ren rfl⟩, ⟨_, rfl, ad_osB rfl rfl⟩, trivial⟩) (by exact ⟨⟨_, rfl, rfl⟩, ⟨_, rfl, ⟨ad_ren rfl, rfl, ad_ren rfl, rfl, ad_ren rfl, rfl, trivial⟩⟩, trivial⟩) rfl ?_
  refine ao_callV [0] 3 trivial (c_spec_l1Cur_among (is_mk r1h)) Try.func48 rfl rfl rfl rfl rfl ⟨rfl, trivial⟩ ⟨⟨_, rfl, ⟨ad_ren rfl, rfl, ad_ren rfl, rfl, ad_ren rfl, rfl, trivial⟩⟩, trivial⟩ rfl rfl rfl rfl rfl rfl rfl (fun r' H' hr => ?_)
  obtain ⟨rfl, rfl⟩ := hr
  refine ao_norm (y := .int .i64 r1.1) (H' := [(1, .row ty4 ([] : dy7)), (0, .var [.cell (.v ty6 x0), ci r1.2.1, .cell (.int .u64 r1.2.2)])]) rfl rfl ?_
  refine ao_r (r_assign rfl) rfl ?_
  refine ao_nil ?_
  refine aq_then ?_
  refine aw_block ?_
  refine aw_loop (AL.sub (sub_r1 idn (nk1 rfl rfl) (by kernel_rfl)) (al_whl (fun (s2 : Int × Int × Int × dy7) => [(0, .ref 0 0), (3, .os 1), (4, .int .i64 s2.1)]) (fun (s2 : Int × Int × Int × dy7) => [(0, .var [.cell (.v ty6 x0), ci s2.2.1, .cell (.int .u64 s2.2.2.1)]), (1, .row ty4 s2.2.2.2)]) (fun (s2 : Int × Int × Int × dy7) => True) h trivial (fun d4 s2 hI h ih4 => ?_)))
  replace h := is_whlS h
  refine al_round ?_
  refine aw_seq ?_
  refine aw_seq ?_
  refine aw_region ?_
  refine ao_r (r_move rfl) rfl ?_
  refine ao_r (r_gtr rfl rfl) rfl ?_
  refine ao_nil ?_
  refine aq_then ?_
  refine aw_cond rfl (fun hb6 => ?_) (fun hb6 => ?_)
  have q7 := d_t hb6
  replace h := is_if (d_t hb6) h
  refine aw_skip ?_
  refine aq_then ?_
  refine aw_seq ?_
  refine aw_block ?_
  refine aw_seq ?_
  refine aw_region ?_
  refine ao_r (r_move rfl) rfl ?_
  obtain ⟨r9, r9h, h⟩ := is_bind h
  refine ao_callV [0] 2 trivial (c_spec_l1Cur_die (is_mk r9h)) Try.func80 rfl rfl rfl rfl rfl ⟨rfl, trivial⟩ ⟨⟨_, rfl, ⟨ad_ren rfl, rfl, ad_ren rfl, rfl, ad_ren rfl, rfl, trivial⟩⟩, trivial⟩ rfl rfl rfl rfl rfl rfl rfl (fun r' H' hr => ?_)
  obtain ⟨rfl, rfl⟩ := hr
  refine ao_norm (y := .v ty4 r9.1) (H' := [(1, .row ty4 s2.2.2.2), (0, .var [.cell (.v ty6 x0), ci r9.2.1, .cell (.int .u64 r9.2.2)])]) rfl rfl ?_
  refine ao_eff trivial (e_alloc 2 (y := .v ty4 ((List.replicate 6 0) : dy9)) Try.zeroValue81 (fun ρ h M => ra_zero_arr (t := ty8) rfl) rfl rfl rfl rfl rfl) rfl ?_
  refine ao_effS trivial (e_store rfl rfl rfl rfl Try.sizeOf81 rfl) ?_
  refine ao_nil ?_
  refine aq_then ?_
  refine aw_seq ?_
  refine aw_seq ?_
  refine aw_region ?_
  refine ao_r (r_move rfl) rfl ?_
  refine ao_r (r_len_osm (s2.2.2.2.length : Int) Try.underlying24 rfl rfl rfl) rfl ?_
  refine ao_r (r_gtr rfl rfl) rfl ?_
  refine ao_r (r_move rfl) rfl ?_
  refine ao_split (decide (0 < (s2.2.2.2.length : Int))) (fun hb10 => ?_) (fun hb10 => ?_)
  have q11 := d_t hb10
  replace h := is_if (d_t hb10) h
  refine ao_read (by exact ⟨_, _, rfl, rfl, hb10⟩) (r_move rfl) rfl ?_
  obtain ⟨r13, r13h, h⟩ := is_bind h
  refine ao_callV [0] 3 (by exact ⟨_, _, rfl, rfl, hb10⟩) (c_spec_l1Cur_one (is_mk r13h)) Try.func50 rfl rfl rfl rfl rfl ⟨rfl, trivial⟩ ⟨⟨_, rfl, ⟨ad_ren rfl, rfl, ad_ren rfl, rfl, ad_ren rfl, rfl, trivial⟩⟩, trivial⟩ rfl rfl rfl rfl rfl rfl rfl (fun r' H' hr => ?_)
  obtain ⟨rfl, rfl⟩ := hr
  refine ao_norm (y := .bool r13.1) (H' := [(2, .var [.arr ty8 6 r9.1]), (1, .row ty4 s2.2.2.2), (0, .var [.cell (.v ty6 x0), ci r13.2.1, .cell (.int .u64 r13.2.2)])]) rfl rfl ?_
  refine ao_r (r_pickT rfl hb10 rfl) rfl ?_
  refine ao_nil ?_
  refine aq_then ?_
  refine aw_cond rfl (fun hb14 => ?_) (fun hb14 => ?_)
  replace h := is_if hb14 h
  refine aw_region ?_
  refine ao_r (r_move rfl) rfl ?_
  refine ao_r (r_idxAddr_os Try.underlying24 Try.sizeOf81 rfl rfl rfl (show 0 ≤ 0 from by omega) (show 0 < (s2.2.2.2.length : Int) from by omega)) rfl ?_
  refine ao_r (r_load_elemv (t := ty4) Try.isAgg81 Try.sizeOf81 rfl rfl (show 0 < s2.2.2.2.length from by omega)) rfl ?_
  refine ao_effS trivial (e_store rfl rfl rfl rfl Try.sizeOf81 rfl) ?_
  refine ao_nil ?_
  refine aq_then ?_
  refine aw_region ?_
  refine ao_r (r_move rfl) rfl ?_
  refine ao_r (r_load_arr rfl Try.isAgg81 Try.sizeOf81 rfl rfl rfl) rfl ?_
  refine ao_eff trivial (e_buildSlice (l := [(0, .tmp 27)]) (t := ty4) 3 ([(s2.2.2.2.getD 0 (List.replicate 6 0))] : dy7) rfl Try.underlying24 Try.zeroValue81 Try.sizeOf81 rfl rfl rfl rfl rfl rfl rfl) rfl ?_
  obtain ⟨g15, h⟩ := is_guard h
  refine ao_eff trivial (e_append (t := ty4) 4 rfl Try.underlying24 (rfl : Try.prog.info? 81 = some _) rfl rfl rfl rfl rfl rfl rfl (src_os rfl) (show s2.2.2.2.length + ([(s2.2.2.2.getD 0 (List.replicate 6 0))] : dy7).length ≤ 1000000000 from by (try simp only [List.length_cons, List.length_nil, List.length_replicate]) <;> omega) rfl rfl) rfl ?_
  refine ao_r (r_assign rfl) rfl ?_
  refine ao_nil ?_
  refine aq_in ?_
  refine aq_then ?_
  refine aw_region ?_
  refine ao_r (r_move rfl) rfl ?_
  refine ao_r (r_sub rfl rfl) rfl ?_
  refine ao_r (r_assign rfl) rfl ?_
  refine ao_nil ?_
  exact aq_again (AL.sub (sub_r1 (rn [(1, 4)]) (nk1 rfl rfl) (by kernel_rfl)) (ih4 ((IntKind.wrap .i64 (s2.1 - 1)), r13.2.1, r13.2.2, (s2.2.2.2 ++ [(s2.2.2.2.getD 0 (List.replicate 6 0))])) trivial h))
  replace h := is_else (ne_t hb14) h
  refine aw_skip ?_
  refine aq_then ?_
  refine aw_region ?_
  refine ao_r (r_move rfl) rfl ?_
  refine ao_r (r_load_arr rfl Try.isAgg81 Try.sizeOf81 rfl rfl rfl) rfl ?_
  refine ao_eff trivial (e_buildSlice (l := [(0, .tmp 27)]) (t := ty4) 3 ([r9.1] : dy7) rfl Try.underlying24 Try.zeroValue81 Try.sizeOf81 rfl rfl rfl rfl rfl rfl rfl) rfl ?_
  obtain ⟨g16, h⟩ := is_guard h
  refine ao_eff trivial (e_append (t := ty4) 4 rfl Try.underlying24 (rfl : Try.prog.info? 81 = some _) rfl rfl rfl rfl rfl rfl rfl (src_os rfl) (show s2.2.2.2.length + ([r9.1] : dy7).length ≤ 1000000000 from by (try simp only [List.length_cons, List.length_nil]) <;> omega) rfl rfl) rfl ?_
  refine ao_r (r_assign rfl) rfl ?_
  refine ao_nil ?_
  refine aq_in ?_
  refine aq_then ?_
  refine aw_region ?_
  refine ao_r (r_move rfl) rfl ?_
  refine ao_r (r_sub rfl rfl) rfl ?_
  refine ao_r (r_assign rfl) rfl ?_
  refine ao_nil ?_
  exact aq_again (AL.sub (sub_r1 (rn [(1, 4)]) (nk1 rfl rfl) (by kernel_rfl)) (ih4 ((IntKind.wrap .i64 (s2.1 - 1)), r13.2.1, r13.2.2, (s2.2.2.2 ++ [r9.1])) trivial h))
  have q12 := d_f hb10
  replace h := is_else (d_f hb10) h
  refine ao_skipT 2 3 19 rfl rfl hb10 rfl rfl rfl ?_
  refine ao_r (r_pickF rfl hb10 rfl) rfl ?_
  refine ao_nil ?_
  refine aq_then ?_
  refine aw_cond rfl (fun hb => by cases hb) (fun _ => ?_)
  refine aw_skip ?_
  refine aq_then ?_
  refine aw_region ?_
  refine ao_r (r_move rfl) rfl ?_
  refine ao_r (r_load_arr rfl Try.isAgg81 Try.sizeOf81 rfl rfl rfl) rfl ?_
  refine ao_eff trivial (e_buildSlice (l := [(0, .tmp 27)]) (t := ty4) 3 ([r9.1] : dy7) rfl Try.underlying24 Try.zeroValue81 Try.sizeOf81 rfl rfl rfl rfl rfl rfl rfl) rfl ?_
  refine ao_eff trivial (e_append (t := ty4) 4 rfl Try.underlying24 (rfl : Try.prog.info? 81 = some _) rfl rfl rfl rfl rfl rfl rfl (src_os rfl) (show s2.2.2.2.length + ([r9.1] : dy7).length ≤ 1000000000 from by (try simp only [List.length_cons, List.length_nil]) <;> omega) rfl rfl) rfl ?_
  refine ao_r (r_assign rfl) rfl ?_
  refine ao_nil ?_
  refine aq_in ?_
  refine aq_then ?_
  refine aw_region ?_
  refine ao_r (r_move rfl) rfl ?_
  refine ao_r (r_sub rfl rfl) rfl ?_
  refine ao_r (r_assign rfl) rfl ?_
  refine ao_nil ?_
  exact aq_again (AL.sub (sub_r1 (rn [(1, 4)]) (nk1 rfl rfl) (by kernel_rfl)) (ih4 ((IntKind.wrap .i64 (s2.1 - 1)), r9.2.1, r9.2.2, (s2.2.2.2 ++ [r9.1])) trivial h))
  have q8 := d_f hb6
  replace h := is_else (d_f hb6) h
  refine aw_exit ?_
  refine aq_then_exit ?_
  refine aq_then_exit ?_
  refine aq_in_exit ?_
  refine aq_then ?_
  refine aw_seq ?_
  refine aw_seq ?_
  refine aw_region ?_
  refine ao_r (r_move rfl) rfl ?_
  obtain ⟨r17, r17h, h⟩ := is_bind h
  refine ao_callV [0] 2 trivial (c_spec_l1Cur_pick (is_mk r17h)) Try.func35 rfl rfl rfl rfl rfl ⟨rfl, trivial⟩ ⟨⟨_, rfl, ⟨ad_ren rfl, rfl, ad_ren rfl, rfl, ad_ren rfl, rfl, trivial⟩⟩, trivial⟩ rfl rfl rfl rfl rfl rfl rfl (fun r' H' hr => ?_)
  obtain ⟨rfl, rfl⟩ := hr
  refine ao_norm (y := .int .i64 r17.1) (H' := [(1, .row ty4 s2.2.2.2), (0, .var [.cell (.v ty6 x0), ci r17.2.1, .cell (.int .u64 r17.2.2)])]) rfl rfl ?_
  refine ao_nil ?_
  refine aq_then ?_
  refine aw_block ?_
  refine aw_seq ?_
  refine aw_region ?_
  refine ao_r (r_eql rfl rfl) rfl ?_
  refine ao_r (r_assign rfl) rfl ?_
  refine ao_nil ?_
  refine aq_then ?_
  refine aw_cond rfl (fun hb18 => ?_) (fun hb18 => ?_)
  have q19 := d_t hb18
  replace h := is_if (d_t hb18) h
  refine aw_seq ?_
  refine aw_region ?_
  refine ao_eff trivial (e_buildSlice (l := []) (t := ty4) 2 ([] : dy7) rfl Try.underlying24 Try.zeroValue81 Try.sizeOf81 rfl rfl rfl rfl rfl rfl rfl) rfl ?_
  refine ao_r (r_assign rfl) rfl ?_
  refine ao_nil ?_
  refine aq_then ?_
  refine aw_ret ?_
  refine aq_in_ret ?_
  refine aq_then_ret ?_
  refine aq_ret ?_
  obtain rfl := is_some h
  exact aq_finV (l := [.tmp 2]) (xs := [.os 2]) (rn [(1, 2)]) [.os 1] [(0, .var [.cell (.v ty6 x0), ci r17.2.1, .cell (.int .u64 r17.2.2)]), (1, .row ty4 ([] : dy7))] rfl (by exact ⟨rfl, trivial⟩) (by exact ⟨ad_ren rfl, trivial⟩) (by exact ⟨⟨_, rfl, ⟨ad_ren rfl, rfl, ad_ren rfl, rfl, ad_ren rfl, rfl, trivial⟩⟩, ⟨_, rfl, rfl⟩, trivial⟩) rfl (nk1 rfl rfl) ⟨rfl, rfl⟩
  have q20 := d_f hb18
  replace h := is_else (d_f hb18) h
  refine aw_seq ?_
  refine aw_region ?_
  refine ao_r (r_eql rfl rfl) rfl ?_
  refine ao_r (r_assign rfl) rfl ?_
  refine ao_nil ?_
  refine aq_then ?_
  refine aw_cond rfl (fun hb21 => ?_) (fun hb21 => ?_)
  have q22 := d_t hb21
  replace h := is_if (d_t hb21) h
  refine aw_block ?_
  refine aw_loop (AL.sub (sub_r1 idn (nk1 rfl rfl) (by kernel_rfl)) (al_whl (fun (s24 : dy7) => [(3, .os 1)]) (fun (s24 : dy7) => [(0, .var [.cell (.v ty6 x0), ci r17.2.1, .cell (.int .u64 r17.2.2)]), (1, .row ty4 s24)]) (fun (s24 : dy7) => True) h trivial (fun d26 s24 hI h ih26 => ?_)))
  replace h := is_whlS h
  refine al_round ?_
  refine aw_seq ?_
  refine aw_seq ?_
  refine aw_region ?_
  refine ao_r (r_move rfl) rfl ?_
  refine ao_r (r_len_osm (s24.length : Int) Try.underlying24 rfl rfl rfl) rfl ?_
  refine ao_r (r_lss rfl rfl) rfl ?_
  refine ao_nil ?_
  refine aq_then ?_
  refine aw_cond rfl (fun hb28 => ?_) (fun hb28 => ?_)
  have q29 := d_t hb28
  replace h := is_if (d_t hb28) h
  refine aw_skip ?_
  refine aq_then ?_
  refine aw_block ?_
  refine aw_region ?_
  refine ao_r (r_move rfl) rfl ?_
  refine ao_r (r_move rfl) rfl ?_
  obtain ⟨g31, h⟩ := is_guard h
  refine ao_r (r_idxAddr_os Try.underlying24 Try.sizeOf81 rfl rfl rfl (show 0 ≤ 0 from by omega) (show 0 < (s24.length : Int) from by omega)) rfl ?_
  refine ao_r (r_load_elemv (t := ty4) Try.isAgg81 Try.sizeOf81 rfl rfl (show 0 < s24.length from by omega)) rfl ?_
  refine ao_eff trivial (e_buildSlice (l := [(0, .tmp 43)]) (t := ty4) 2 ([(s24.getD 0 (List.replicate 6 0))] : dy7) rfl Try.underlying24 Try.zeroValue81 Try.sizeOf81 rfl rfl rfl rfl rfl rfl rfl) rfl ?_
  refine ao_eff trivial (e_append (t := ty4) 3 rfl Try.underlying24 (rfl : Try.prog.info? 81 = some _) rfl rfl rfl rfl rfl rfl rfl (src_os rfl) (show s24.length + ([(s24.getD 0 (List.replicate 6 0))] : dy7).length ≤ 1000000000 from by (try simp only [List.length_cons, List.length_nil, List.length_replicate]) <;> omega) rfl rfl) rfl ?_
  refine ao_r (r_assign rfl) rfl ?_
  refine ao_nil ?_
  refine aq_in ?_
  exact aq_again (AL.sub (sub_r1 (rn [(1, 3)]) (nk1 rfl rfl) (by kernel_rfl)) (ih26 (s24 ++ [(s24.getD 0 (List.replicate 6 0))]) trivial h))
  have q30 := d_f hb28
  replace h := is_else (d_f hb28) h
  refine aw_exit ?_
  refine aq_then_exit ?_
  refine aq_then_exit ?_
  refine aq_in_exit ?_
  refine aq_in ?_
  refine aq_then ?_
  refine aw_seq ?_
  refine aw_region ?_
  refine ao_r (r_move rfl) rfl ?_
  refine ao_r (r_assign rfl) rfl ?_
  refine ao_nil ?_
  refine aq_then ?_
  refine aw_ret ?_
  refine aq_ret ?_
  obtain rfl := is_some h
  exact aq_finV (l := [.tmp 2]) (xs := [.os 1]) idn [.os 1] [(0, .var [.cell (.v ty6 x0), ci r17.2.1, .cell (.int .u64 r17.2.2)]), (1, .row ty4 s24)] rfl (by exact ⟨rfl, trivial⟩) (by exact ⟨ad_ren rfl, trivial⟩) (by exact ⟨⟨_, rfl, ⟨ad_ren rfl, rfl, ad_ren rfl, rfl, ad_ren rfl, rfl, trivial⟩⟩, ⟨_, rfl, rfl⟩, trivial⟩) rfl (nk1 rfl rfl) ⟨rfl, rfl⟩
  have q23 := d_f hb21
  replace h := is_else (d_f hb21) h
  refine aw_skip ?_
  refine aq_in ?_
  refine aq_then ?_
  refine aw_seq ?_
  refine aw_region ?_
  refine ao_r (r_move rfl) rfl ?_
  refine ao_r (r_assign rfl) rfl ?_
  refine ao_nil ?_
  refine aq_then ?_
  refine aw_ret ?_
  refine aq_ret ?_
  obtain rfl := is_some h
  exact aq_finV (l := [.tmp 2]) (xs := [.os 1]) idn [.os 1] [(0, .var [.cell (.v ty6 x0), ci r17.2.1, .cell (.int .u64 r17.2.2)]), (1, .row ty4 s2.2.2.2)] rfl (by exact ⟨rfl, trivial⟩) (by exact ⟨ad_ren rfl, trivial⟩) (by exact ⟨⟨_, rfl, ⟨ad_ren rfl, rfl, ad_ren rfl, rfl, ad_ren rfl, rfl, trivial⟩⟩, ⟨_, rfl, rfl⟩, trivial⟩) rfl (nk1 rfl rfl) ⟨rfl, rfl⟩
theorem c_spec_l1Cur_few {fu : Nat} {x0 : dy9} {x1 : Int} {x2 : Int} {r : dy7 × Int × Int} (h : Is (p_spec_l1Cur_few fu x0 x1 x2) (some r)) :
    ACallsV Try.prog 46 [.ref 0 0] [(0, .var [.cell (.v ty6 x0), ci x1, .cell (.int .u64 x2)])] (fun r' H' => r' = .os 1 ∧ H' = [(0, .var [.cell (.v ty6 x0), ci r.2.1, .cell (.int .u64 r.2.2)]), (1, .row ty4 r.1)]) := by
  unfold p_spec_l1Cur_few at h
  refine ac_enterV ⟨17, 1⟩ Try.func46 rfl rfl rfl rfl rfl (fun Γ => ?_)
  refine aw_seq ?_
  refine aw_region ?_
  refine ao_r (r_assign rfl) rfl ?_
  refine ao_nil ?_
  refine aq_then ?_
  refine aw_seq ?_
  refine aw_region ?_
  refine ao_r (r_move rfl) rfl ?_
  obtain ⟨r1, r1h, h⟩ := is_bind h
  refine ao_callV [0] 1 trivial (c_spec_l1Cur_pool (is_mk r1h)) Try.func72 rfl rfl rfl rfl rfl ⟨rfl, trivial⟩ ⟨⟨_, rfl, ⟨ad_ren rfl, rfl, ad_ren rfl, rfl, ad_ren rfl, rfl, trivial⟩⟩, trivial⟩ rfl rfl rfl rfl rfl rfl rfl (fun r' H' hr => ?_)
  obtain ⟨rfl, rfl⟩ := hr
  refine ao_norm (y := .os 1) (H' := [(0, .var [.cell (.v ty6 x0), ci r1.2.1, .cell (.int .u64 r1.2.2)]), (1, .row ty4 r1.1)]) rfl rfl ?_
  refine row_len_o 1 (r1.1.length : Int) rfl rfl (fun hr2 => ?_)
  refine ao_r (r_assign rfl) rfl ?_
  refine ao_nil ?_
  refine aq_then ?_
  refine aw_seq ?_
  refine aw_seq ?_
  refine aw_region ?_
  refine ao_r (r_move rfl) rfl ?_
  refine ao_r (r_len_osm (r1.1.length : Int) Try.underlying24 rfl rfl rfl) rfl ?_
  refine ao_r (r_eql rfl rfl) rfl ?_
  refine ao_r (r_move rfl) rfl ?_
  refine ao_split (decide ((r1.1.length : Int) = 4)) (fun hb3 => ?_) (fun hb3 => ?_)
  have q4 := d_t hb3
  replace h := is_if (d_t hb3) h
  refine ao_read (by exact ⟨_, _, rfl, rfl, hb3⟩) (r_move rfl) rfl ?_
  obtain ⟨r6, r6h, h⟩ := is_bind h
  refine ao_callV [0] 2 (by exact ⟨_, _, rfl, rfl, hb3⟩) (c_spec_l1Cur_one (is_mk r6h)) Try.func50 rfl rfl rfl rfl rfl ⟨rfl, trivial⟩ ⟨⟨_, rfl, ⟨ad_ren rfl, rfl, ad_ren rfl, rfl, ad_ren rfl, rfl, trivial⟩⟩, trivial⟩ rfl rfl rfl rfl rfl rfl rfl (fun r' H' hr => ?_)
  obtain ⟨rfl, rfl⟩ := hr
  refine ao_norm (y := .bool r6.1) (H' := [(1, .row ty4 r1.1), (0, .var [.cell (.v ty6 x0), ci r6.2.1, .cell (.int .u64 r6.2.2)])]) rfl rfl ?_
  refine ao_read (by exact ⟨_, _, rfl, rfl, hb3⟩) (r_not rfl) rfl ?_
  refine ao_r (r_pickT rfl hb3 rfl) rfl ?_
  refine ao_nil ?_
  refine aq_then ?_
  refine aw_cond rfl (fun hb7 => ?_) (fun hb7 => ?_)
  replace h := is_else (ne_t (not_t hb7)) h
  refine aw_seq ?_
  refine aw_region ?_
  refine ao_r (r_move rfl) rfl ?_
  refine ao_eff trivial (e_shrink (t := ty4) 2 rfl Try.underlying24 Try.sizeOf81 rfl rfl (.some rfl) (by omega) (show 3 ≤ (r1.1.length : Int) from by omega) rfl rfl) rfl ?_
  refine ao_r (r_assign rfl) rfl ?_
  refine ao_nil ?_
  refine aq_then ?_
  refine aw_ret ?_
  refine aq_then_ret ?_
  refine aq_ret ?_
  obtain rfl := is_some h
  exact aq_finV (l := [.tmp 2]) (xs := [.os 2]) (rn [(1, 2)]) [.os 1] [(0, .var [.cell (.v ty6 x0), ci r6.2.1, .cell (.int .u64 r6.2.2)]), (1, .row ty4 ((r1.1.take 3) : dy7))] rfl (by exact ⟨rfl, trivial⟩) (by exact ⟨ad_ren rfl, trivial⟩) (by exact ⟨⟨_, rfl, ⟨ad_ren rfl, rfl, ad_ren rfl, rfl, ad_ren rfl, rfl, trivial⟩⟩, ⟨_, rfl, rfl⟩, trivial⟩) rfl (nk1 rfl rfl) ⟨rfl, rfl⟩
  replace h := is_if (not_f hb7) h
  refine aw_skip ?_
  refine aq_then ?_
  refine aw_seq ?_
  refine aw_region ?_
  refine ao_r (r_move rfl) rfl ?_
  refine ao_r (r_assign rfl) rfl ?_
  refine ao_nil ?_
  refine aq_then ?_
  refine aw_ret ?_
  refine aq_ret ?_
  obtain rfl := is_some h
  exact aq_finV (l := [.tmp 2]) (xs := [.os 1]) idn [.os 1] [(0, .var [.cell (.v ty6 x0), ci r6.2.1, .cell (.int .u64 r6.2.2)]), (1, .row ty4 r1.1)] rfl (by exact ⟨rfl, trivial⟩) (by exact ⟨ad_ren rfl, trivial⟩) (by exact ⟨⟨_, rfl, ⟨ad_ren rfl, rfl, ad_ren rfl, rfl, ad_ren rfl, rfl, trivial⟩⟩, ⟨_, rfl, rfl⟩, trivial⟩) rfl (nk1 rfl rfl) ⟨rfl, rfl⟩
  have q5 := d_f hb3
  replace h := is_else (d_f hb3) h
  refine ao_skipT 3 3 9 rfl rfl hb3 rfl rfl rfl ?_
  refine ao_r (r_pickF rfl hb3 rfl) rfl ?_
  refine ao_nil ?_
  refine aq_then ?_
  refine aw_cond rfl (fun hb => by cases hb) (fun _ => ?_)
  refine aw_skip ?_
  refine aq_then ?_
  refine aw_seq ?_
  refine aw_region ?_
  refine ao_r (r_move rfl) rfl ?_
  refine ao_r (r_assign rfl) rfl ?_
  refine ao_nil ?_
  refine aq_then ?_
  refine aw_ret ?_
  refine aq_ret ?_
  obtain rfl := is_some h
  exact aq_finV (l := [.tmp 2]) (xs := [.os 1]) idn [.os 1] [(0, .var [.cell (.v ty6 x0), ci r1.2.1, .cell (.int .u64 r1.2.2)]), (1, .row ty4 r1.1)] rfl (by exact ⟨rfl, trivial⟩) (by exact ⟨ad_ren rfl, trivial⟩) (by exact ⟨⟨_, rfl, ⟨ad_ren rfl, rfl, ad_ren rfl, rfl, ad_ren rfl, rfl, trivial⟩⟩, ⟨_, rfl, rfl⟩, trivial⟩) rfl (nk1 rfl rfl) ⟨rfl, rfl⟩
theorem c_spec_l1Cur_goal6 {x0 : dy9} {x1 : Int} {x2 : Int} {r : dy5 × Int × Int} (h : Is (p_spec_l1Cur_goal6 x0 x1 x2) (some r)) :
    ACallsV Try.prog 47 [.ref 0 0] [(0, .var [.cell (.v ty6 x0), ci x1, .cell (.int .u64 x2)])] (fun r' H' => r' = .v ty1 r.1 ∧ H' = [(0, .var [.cell (.v ty6 x0), ci r.2.1, .cell (.int .u64 r.2.2)])]) := by
  unfold p_spec_l1Cur_goal6 at h
  refine ac_enterV ⟨35, 1⟩ Try.func47 rfl rfl rfl rfl rfl (fun Γ => ?_)
  refine aw_seq ?_
  refine aw_region ?_
  refine ao_eff trivial (e_alloc 1 (y := .st [.int .i64 0, .int .i64 0]) Try.zeroValue26 (fun ρ h M => ra_zero_st (t := ty1) rfl rfl rfl) rfl rfl rfl rfl rfl) rfl ?_
  refine ao_nil ?_
  refine aq_then ?_
  refine aw_seq ?_
  refine aw_region ?_
  refine ao_r (r_move rfl) rfl ?_
  obtain ⟨r1, r1h, h⟩ := is_bind h
  refine ao_callV [0] 2 trivial (c_spec_l1Cur_pick (is_mk r1h)) Try.func35 rfl rfl rfl rfl rfl ⟨rfl, trivial⟩ ⟨⟨_, rfl, ⟨ad_ren rfl, rfl, ad_ren rfl, rfl, ad_ren rfl, rfl, trivial⟩⟩, trivial⟩ rfl rfl rfl rfl rfl rfl rfl (fun r' H' hr => ?_)
  obtain ⟨rfl, rfl⟩ := hr
  refine ao_norm (y := .int .i64 r1.1) (H' := [(1, .var [ci 0, ci 0]), (0, .var [.cell (.v ty6 x0), ci r1.2.1, .cell (.int .u64 r1.2.2)])]) rfl rfl ?_
  refine ao_r (r_add rfl rfl) rfl ?_
  refine ao_r (r_build_stv (l := [(0, .tmp 6)]) (cs := [.cell (.int .i64 (IntKind.wrap .i64 (1 + r1.1))), ci 0]) ty1 (((IntKind.wrap .i64 (1 + r1.1)), (0, ())) : dy5) [(0, 1), (1, 1)] Try.underlying26 Try.zeroValue26 rfl ⟨rfl, Try.sizeOf3, rfl, Try.sizeOf3, trivial⟩ rfl rfl rfl rfl) rfl ?_
  refine ao_eff trivial (e_alloc 2 (y := .st [.int .i64 0, .int .i64 0]) Try.zeroValue26 (fun ρ h M => ra_zero_st (t := ty1) rfl rfl rfl) rfl rfl rfl rfl rfl) rfl ?_
  refine ao_effS trivial (e_store rfl rfl rfl rfl Try.sizeOf26 rfl) ?_
  refine ao_nil ?_
  refine aq_then ?_
  refine aw_join (fun (s2 : Int × Int × Int) => [(0, .ref 0 0), (2, .ref 1 0), (3, .ref 2 0)]) (fun (s2 : Int × Int × Int) => [(0, .var [.cell (.v ty6 x0), ci s2.1, .cell (.int .u64 s2.2.1)]), (1, .var [ci 0, ci 0]), (2, .var [.cell (.int .i64 (IntKind.wrap .i64 (1 + r1.1))), ci s2.2.2])]) (fun (s2 : Int × Int × Int) => True) h (fun s2 hI h => ?_) (fun h j4 => ?_)
  refine aw_seq ?_
  refine aw_seq ?_
  refine aw_region ?_
  refine ao_r (r_move rfl) rfl ?_
  obtain ⟨r5, r5h, h⟩ := is_bind h
  refine ao_callV [0] 3 trivial (c_spec_l1Cur_pick (is_mk r5h)) Try.func35 rfl rfl rfl rfl rfl ⟨rfl, trivial⟩ ⟨⟨_, rfl, ⟨ad_ren rfl, rfl, ad_ren rfl, rfl, ad_ren rfl, rfl, trivial⟩⟩, trivial⟩ rfl rfl rfl rfl rfl rfl rfl (fun r' H' hr => ?_)
  obtain ⟨rfl, rfl⟩ := hr
  refine ao_norm (y := .int .i64 r5.1) (H' := [(1, .var [ci 0, ci 0]), (2, .var [.cell (.int .i64 (IntKind.wrap .i64 (1 + r1.1))), ci s2.2.2]), (0, .var [.cell (.v ty6 x0), ci r5.2.1, .cell (.int .u64 r5.2.2)])]) rfl rfl ?_
  refine ao_nil ?_
  refine aq_then ?_
  refine aw_block ?_
  refine aw_seq ?_
  refine aw_region ?_
  refine ao_r (r_eql rfl rfl) rfl ?_
  refine ao_r (r_assign rfl) rfl ?_
  refine ao_nil ?_
  refine aq_then ?_
  refine aw_cond rfl (fun hb6 => ?_) (fun hb6 => ?_)
  have q7 := d_t hb6
  replace h := is_if (d_t hb6) h
  refine aw_region ?_
  refine ao_r (r_move rfl) rfl ?_
  refine ao_eff trivial (e_buildSlice (l := [(0, .const (.int .i64 0)), (1, .const (.int .i64 6)), (2, .const (.int .i64 (-1)))]) (t := ty8) 3 ([0, 6, (-1)] : dy9) rfl Try.underlying32 Try.zeroValue3 Try.sizeOf3 rfl rfl rfl rfl rfl rfl rfl) rfl ?_
  obtain ⟨r9, r9h, h⟩ := is_bind h
  refine ao_frz (fr' := [(0, .ref 0 0), (2, .ref 1 0), (3, .ref 2 0), (20, .ref 0 0), (21, .int .i64 r5.1), (23, .bool (decide (r5.1 = 0))), (22, .bool (decide (r5.1 = 0))), (24, .ref 0 0), (25, .v ty3 ([0, 6, (-1)] : dy9))]) (H' := [(1, .var [ci 0, ci 0]), (2, .var [.cell (.int .i64 (IntKind.wrap .i64 (1 + r1.1))), ci s2.2.2]), (0, .var [.cell (.v ty6 x0), ci r5.2.1, .cell (.int .u64 r5.2.2)])]) (by exact ⟨⟨_, rfl, ad_ren rfl⟩, ⟨_, rfl, ad_ren rfl⟩, ⟨_, rfl, ad_ren rfl⟩, ⟨_, rfl, ad_ren rfl⟩, ⟨_, rfl, ad_ren rfl⟩, ⟨_, rfl, ad_ren rfl⟩, ⟨_, rfl, ad_ren rfl⟩, ⟨_, rfl, ad_ren rfl⟩, ⟨_, rfl, ad_osB rfl rfl⟩, trivial⟩) (by exact ⟨⟨_, rfl, ⟨ad_ren rfl, rfl, ad_ren rfl, rfl, trivial⟩⟩, ⟨_, rfl, ⟨ad_ren rfl, rfl, ad_ren rfl, rfl, trivial⟩⟩, ⟨_, rfl, ⟨ad_ren rfl, rfl, ad_ren rfl, rfl, ad_ren rfl, rfl, trivial⟩⟩, trivial⟩) rfl ?_
  refine ao_callV [0] 4 trivial (c_spec_l1Cur_among (is_mk r9h)) Try.func48 rfl rfl rfl rfl rfl ⟨rfl, trivial⟩ ⟨⟨_, rfl, ⟨ad_ren rfl, rfl, ad_ren rfl, rfl, ad_ren rfl, rfl, trivial⟩⟩, trivial⟩ rfl rfl rfl rfl rfl rfl rfl (fun r' H' hr => ?_)
  obtain ⟨rfl, rfl⟩ := hr
  refine ao_norm (y := .int .i64 r9.1) (H' := [(1, .var [ci 0, ci 0]), (2, .var [.cell (.int .i64 (IntKind.wrap .i64 (1 + r1.1))), ci s2.2.2]), (0, .var [.cell (.v ty6 x0), ci r9.2.1, .cell (.int .u64 r9.2.2)])]) rfl rfl ?_
  refine ao_r (r_fieldAddr Try.underlying26 rfl Try.sizeOf3 rfl rfl rfl) rfl ?_
  refine ao_effS trivial (e_store rfl rfl rfl rfl Try.sizeOf3 rfl) ?_
  refine ao_nil ?_
  refine aq_in ?_
  refine aq_then ?_
  refine aw_seq ?_
  refine aw_region ?_
  refine ao_r (r_load_part (τ := ty1) (y := ((r9.1, (s2.2.2, ())) : dy5)) [] [] rfl Try.isAgg26 Try.sizeOf26 rfl rfl rfl rfl) rfl ?_
  refine ao_effS trivial (e_store rfl rfl rfl rfl Try.sizeOf26 rfl) ?_
  refine ao_nil ?_
  refine aq_then ?_
  refine aw_ret ?_
  refine aq_ret ?_
  obtain rfl := is_some h
  exact aq_finV (l := [.cell 2 26]) (xs := [.st [.int .i64 r9.1, .int .i64 s2.2.2]]) idn [.v ty1 ((r9.1, (s2.2.2, ())) : dy5)] [(0, .var [.cell (.v ty6 x0), ci r9.2.1, .cell (.int .u64 r9.2.2)])] rfl (by exact ⟨⟨⟨_, _, rfl⟩, r_load_st [] [ci r9.1, ci s2.2.2] [] Try.isAgg26 Try.sizeOf26 rfl rfl rfl rfl rfl rfl rfl⟩, trivial⟩) (by exact ⟨ad_st rfl rfl ⟨ad_ren rfl, ad_ren rfl, trivial⟩, trivial⟩) (by exact ⟨⟨_, rfl, ⟨ad_ren rfl, rfl, ad_ren rfl, rfl, ad_ren rfl, rfl, trivial⟩⟩, trivial⟩) rfl (nk1 rfl rfl) ⟨rfl, rfl⟩
  have q8 := d_f hb6
  replace h := is_else (d_f hb6) h
  refine aw_seq ?_
  refine aw_region ?_
  refine ao_r (r_eql rfl rfl) rfl ?_
  refine ao_r (r_assign rfl) rfl ?_
  refine ao_nil ?_
  refine aq_then ?_
  refine aw_cond rfl (fun hb10 => ?_) (fun hb10 => ?_)
  have q11 := d_t hb10
  replace h := is_if (d_t hb10) h
  refine aw_region ?_
  refine ao_r (r_move rfl) rfl ?_
  refine ao_eff trivial (e_buildSlice (l := [(0, .const (.int .i64 (-1))), (1, .const (.int .i64 121)), (2, .const (.int .i64 1))]) (t := ty8) 3 ([(-1), 121, 1] : dy9) rfl Try.underlying32 Try.zeroValue3 Try.sizeOf3 rfl rfl rfl rfl rfl rfl rfl) rfl ?_
  obtain ⟨r13, r13h, h⟩ := is_bind h
  refine ao_frz (fr' := [(0, .ref 0 0), (2, .ref 1 0), (3, .ref 2 0), (20, .ref 0 0), (21, .int .i64 r5.1), (23, .bool (decide (r5.1 = 0))), (22, .bool (decide (r5.1 = 0))), (29, .bool (decide (r5.1 = 1))), (28, .bool (decide (r5.1 = 1))), (30, .ref 0 0), (31, .v ty3 ([(-1), 121, 1] : dy9))]) (H' := [(1, .var [ci 0, ci 0]), (2, .var [.cell (.int .i64 (IntKind.wrap .i64 (1 + r1.1))), ci s2.2.2]), (0, .var [.cell (.v ty6 x0), ci r5.2.1, .cell (.int .u64 r5.2.2)])]) (by exact ⟨⟨_, rfl, ad_ren rfl⟩, ⟨_, rfl, ad_ren rfl⟩, ⟨_, rfl, ad_ren rfl⟩, ⟨_, rfl, ad_ren rfl⟩, ⟨_, rfl, ad_ren rfl⟩, ⟨_, rfl, ad_ren rfl⟩, ⟨_, rfl, ad_ren rfl⟩, ⟨_, rfl, ad_ren rfl⟩, ⟨_, rfl, ad_ren rfl⟩, ⟨_, rfl, ad_ren rfl⟩, ⟨_, rfl, ad_osB rfl rfl⟩, trivial⟩) (by exact ⟨⟨_, rfl, ⟨ad_ren rfl, rfl, ad_ren rfl, rfl, trivial⟩⟩, ⟨_, rfl, ⟨ad_ren rfl, rfl, ad_ren rfl, rfl, trivial⟩⟩, ⟨_, rfl, ⟨ad_ren rfl, rfl, ad_ren rfl, rfl, ad_ren rfl, rfl, trivial⟩⟩, trivial⟩) rfl ?_
  refine ao_callV [0] 4 trivial (c_spec_l1Cur_among (is_mk r13h)) Try.func48 rfl rfl rfl rfl rfl ⟨rfl, trivial⟩ ⟨⟨_, rfl, ⟨ad_ren rfl, rfl, ad_ren rfl, rfl, ad_ren rfl, rfl, trivial⟩⟩, trivial⟩ rfl rfl rfl rfl rfl rfl rfl (fun r' H' hr => ?_)
  obtain ⟨rfl, rfl⟩ := hr
  refine ao_norm (y := .int .i64 r13.1) (H' := [(1, .var [ci 0, ci 0]), (2, .var [.cell (.int .i64 (IntKind.wrap .i64 (1 + r1.1))), ci s2.2.2]), (0, .var [.cell (.v ty6 x0), ci r13.2.1, .cell (.int .u64 r13.2.2)])]) rfl rfl ?_
  refine ao_r (r_fieldAddr Try.underlying26 rfl Try.sizeOf3 rfl rfl rfl) rfl ?_
  refine ao_effS trivial (e_store rfl rfl rfl rfl Try.sizeOf3 rfl) ?_
  refine ao_nil ?_
  refine aq_in ?_
  refine aq_then ?_
  refine aw_seq ?_
  refine aw_region ?_
  refine ao_r (r_load_part (τ := ty1) (y := (((IntKind.wrap .i64 (1 + r1.1)), (r13.1, ())) : dy5)) [] [] rfl Try.isAgg26 Try.sizeOf26 rfl rfl rfl rfl) rfl ?_
  refine ao_effS trivial (e_store rfl rfl rfl rfl Try.sizeOf26 rfl) ?_
  refine ao_nil ?_
  refine aq_then ?_
  refine aw_ret ?_
  refine aq_ret ?_
  obtain rfl := is_some h
  exact aq_finV (l := [.cell 2 26]) (xs := [.st [.int .i64 (IntKind.wrap .i64 (1 + r1.1)), .int .i64 r13.1]]) idn [.v ty1 (((IntKind.wrap .i64 (1 + r1.1)), (r13.1, ())) : dy5)] [(0, .var [.cell (.v ty6 x0), ci r13.2.1, .cell (.int .u64 r13.2.2)])] rfl (by exact ⟨⟨⟨_, _, rfl⟩, r_load_st [] [.cell (.int .i64 (IntKind.wrap .i64 (1 + r1.1))), ci r13.1] [] Try.isAgg26 Try.sizeOf26 rfl rfl rfl rfl rfl rfl rfl⟩, trivial⟩) (by exact ⟨ad_st rfl rfl ⟨ad_ren rfl, ad_ren rfl, trivial⟩, trivial⟩) (by exact ⟨⟨_, rfl, ⟨ad_ren rfl, rfl, ad_ren rfl, rfl, ad_ren rfl, rfl, trivial⟩⟩, trivial⟩) rfl (nk1 rfl rfl) ⟨rfl, rfl⟩
  have q12 := d_f hb10
  replace h := is_else (d_f hb10) h
  refine aw_skip ?_
  refine aq_in ?_
  refine aq_then ?_
  refine aw_seq ?_
  refine aw_region ?_
  refine ao_r (r_load_part (τ := ty1) (y := (((IntKind.wrap .i64 (1 + r1.1)), (s2.2.2, ())) : dy5)) [] [] rfl Try.isAgg26 Try.sizeOf26 rfl rfl rfl rfl) rfl ?_
  refine ao_effS trivial (e_store rfl rfl rfl rfl Try.sizeOf26 rfl) ?_
  refine ao_nil ?_
  refine aq_then ?_
  refine aw_ret ?_
  refine aq_ret ?_
  obtain rfl := is_some h
  exact aq_finV (l := [.cell 2 26]) (xs := [.st [.int .i64 (IntKind.wrap .i64 (1 + r1.1)), .int .i64 s2.2.2]]) idn [.v ty1 (((IntKind.wrap .i64 (1 + r1.1)), (s2.2.2, ())) : dy5)] [(0, .var [.cell (.v ty6 x0), ci r5.2.1, .cell (.int .u64 r5.2.2)])] rfl (by exact ⟨⟨⟨_, _, rfl⟩, r_load_st [] [.cell (.int .i64 (IntKind.wrap .i64 (1 + r1.1))), ci s2.2.2] [] Try.isAgg26 Try.sizeOf26 rfl rfl rfl rfl rfl rfl rfl⟩, trivial⟩) (by exact ⟨ad_st rfl rfl ⟨ad_ren rfl, ad_ren rfl, trivial⟩, trivial⟩) (by exact ⟨⟨_, rfl, ⟨ad_ren rfl, rfl, ad_ren rfl, rfl, ad_ren rfl, rfl, trivial⟩⟩, trivial⟩) rfl (nk1 rfl rfl) ⟨rfl, rfl⟩
  refine aw_seq ?_
  refine aw_region ?_
  refine ao_r (r_fieldAddr Try.underlying26 rfl Try.sizeOf3 rfl rfl rfl) rfl ?_
  refine ao_r (r_load_cell Try.isAgg3 rfl rfl rfl) rfl ?_
  refine ao_r (r_eql rfl rfl) rfl ?_
  refine ao_r (r_move rfl) rfl ?_
  refine ao_readG (x := .ref 2 0) rfl (GV.F rfl) (fun hg14 => by
        have q15 := d_f (not_t hg14)
        exact r_fieldAddr Try.underlying26 rfl Try.sizeOf3 rfl rfl rfl) rfl ?_
  refine ao_readG (x := .int .i64 (IntKind.wrap .i64 (1 + r1.1))) rfl (GV.F rfl) (fun hg16 => by
        have q17 := d_f (not_t hg16)
        exact Reads.strip 12 rfl (hg16) (r_load_cell Try.isAgg3 rfl rfl rfl)) rfl ?_
  refine ao_readG (x := .bool (decide ((IntKind.wrap .i64 (1 + r1.1)) = 3))) rfl (GV.F rfl) (fun hg18 => by
        have q19 := d_f (not_t hg18)
        exact Reads.strip 13 rfl (hg18) (r_eql rfl rfl)) rfl ?_
  refine ao_r (r_orB rfl rfl) rfl ?_
  refine ao_nil ?_
  refine aq_then ?_
  refine aw_cond rfl (fun hb20 => ?_) (fun hb20 => ?_)
  replace h := is_if hb20 h
  refine aw_region ?_
  refine ao_r (r_move rfl) rfl ?_
  refine ao_eff trivial (e_buildSlice (l := [(0, .const (.int .i64 7)), (1, .const (.int .i64 10)), (2, .const (.int .i64 9)), (3, .const (.int .i64 12)), (4, .const (.int .i64 4)), (5, .const (.int .i64 15)), (6, .const (.int .i64 0)), (7, .const (.int .i64 120))]) (t := ty8) 3 ([7, 10, 9, 12, 4, 15, 0, 120] : dy9) rfl Try.underlying32 Try.zeroValue3 Try.sizeOf3 rfl rfl rfl rfl rfl rfl rfl) rfl ?_
  obtain ⟨r25, r25h, h⟩ := is_bind h
  refine ao_frz (fr' := [(0, .ref 0 0), (2, .ref 1 0), (4, .ref 0 0), (5, .int .i64 r1.1), (6, .int .i64 (IntKind.wrap .i64 (1 + r1.1))), (7, .v ty1 (((IntKind.wrap .i64 (1 + r1.1)), (0, ())) : dy5)), (3, .ref 2 0), (8, .ref 2 0), (9, .int .i64 (IntKind.wrap .i64 (1 + r1.1))), (10, .bool (decide ((IntKind.wrap .i64 (1 + r1.1)) = 2))), (11, .bool (decide ((IntKind.wrap .i64 (1 + r1.1)) = 2))), (12, .gd (!(decide ((IntKind.wrap .i64 (1 + r1.1)) = 2))) (.ref 2 0)), (13, .gd (!(decide ((IntKind.wrap .i64 (1 + r1.1)) = 2))) (.int .i64 (IntKind.wrap .i64 (1 + r1.1)))), (14, .gd (!(decide ((IntKind.wrap .i64 (1 + r1.1)) = 2))) (.bool (decide ((IntKind.wrap .i64 (1 + r1.1)) = 3)))), (15, .bool ((decide ((IntKind.wrap .i64 (1 + r1.1)) = 2)) || (decide ((IntKind.wrap .i64 (1 + r1.1)) = 3)))), (16, .ref 0 0), (17, .v ty3 ([7, 10, 9, 12, 4, 15, 0, 120] : dy9))]) (H' := [(2, .var [.cell (.int .i64 (IntKind.wrap .i64 (1 + r1.1))), ci 0]), (1, .var [ci 0, ci 0]), (0, .var [.cell (.v ty6 x0), ci r1.2.1, .cell (.int .u64 r1.2.2)])]) (by exact ⟨⟨_, rfl, ad_ren rfl⟩, ⟨_, rfl, ad_ren rfl⟩, ⟨_, rfl, ad_ren rfl⟩, ⟨_, rfl, ad_ren rfl⟩, ⟨_, rfl, ad_ren rfl⟩, ⟨_, rfl, ad_ren rfl⟩, ⟨_, rfl, ad_ren rfl⟩, ⟨_, rfl, ad_ren rfl⟩, ⟨_, rfl, ad_ren rfl⟩, ⟨_, rfl, ad_ren rfl⟩, ⟨_, rfl, ad_ren rfl⟩, ⟨_, rfl, ad_ren rfl⟩, ⟨_, rfl, ad_ren rfl⟩, ⟨_, rfl, ad_ren rfl⟩, ⟨_, rfl, ad_ren rfl⟩, ⟨_, rfl, ad_ren rfl⟩, ⟨_, rfl, ad_osB rfl rfl⟩, trivial⟩) (by exact ⟨⟨_, rfl, ⟨ad_ren rfl, rfl, ad_ren rfl, rfl, trivial⟩⟩, ⟨_, rfl, ⟨ad_ren rfl, rfl, ad_ren rfl, rfl, trivial⟩⟩, ⟨_, rfl, ⟨ad_ren rfl, rfl, ad_ren rfl, rfl, ad_ren rfl, rfl, trivial⟩⟩, trivial⟩) rfl ?_
  refine ao_callV [0] 4 trivial (c_spec_l1Cur_among (is_mk r25h)) Try.func48 rfl rfl rfl rfl rfl ⟨rfl, trivial⟩ ⟨⟨_, rfl, ⟨ad_ren rfl, rfl, ad_ren rfl, rfl, ad_ren rfl, rfl, trivial⟩⟩, trivial⟩ rfl rfl rfl rfl rfl rfl rfl (fun r' H' hr => ?_)
  obtain ⟨rfl, rfl⟩ := hr
  refine ao_norm (y := .int .i64 r25.1) (H' := [(2, .var [.cell (.int .i64 (IntKind.wrap .i64 (1 + r1.1))), ci 0]), (1, .var [ci 0, ci 0]), (0, .var [.cell (.v ty6 x0), ci r25.2.1, .cell (.int .u64 r25.2.2)])]) rfl rfl ?_
  refine ao_r (r_fieldAddr Try.underlying26 rfl Try.sizeOf3 rfl rfl rfl) rfl ?_
  refine ao_effS trivial (e_store rfl rfl rfl rfl Try.sizeOf3 rfl) ?_
  refine ao_nil ?_
  exact aq_then (AW.sub (sub_r1 idn (nk1 rfl rfl) (by kernel_rfl)) (j4 (r25.2.1, r25.2.2, r25.1) trivial h))
  obtain ⟨q21, q22⟩ := or_f hb20
  have q23 := d_f q21
  have q24 := d_f q22
  replace h := is_else (ne_t hb20) h
  refine aw_skip ?_
  exact aq_then (AW.sub (sub_r1 idn (nk1 rfl rfl) (by kernel_rfl)) (j4 (r1.2.1, r1.2.2, 0) trivial h))
theorem c_spec_l1In {x0 : Int} {x1 : Int} {x2 : Int} {r : Bool} (h : Is (p_spec_l1In x0 x1 x2) r) :
    Scalar Try.prog 38 [.int .i64 x0, .int .i64 x1, .int .i64 x2] (.bool r) := by
  unfold p_spec_l1In at h
  refine ac_enter ⟨15, 0⟩ Try.func38 rfl rfl rfl rfl rfl (fun Γ => ?_)
  refine aw_seq ?_
  refine aw_region ?_
  refine ao_r (r_assign rfl) rfl ?_
  refine ao_nil ?_
  refine aq_then ?_
  refine aw_seq ?_
  refine aw_region ?_
  refine ao_r (r_move rfl) rfl ?_
  refine ao_r (r_move rfl) rfl ?_
  refine ao_r (r_geq rfl rfl) rfl ?_
  refine ao_r (r_move rfl) rfl ?_
  refine ao_readG (x := .int .i64 x0) rfl (GV.T rfl) (fun hg1 => by
        have q2 := d_t hg1
        exact r_move rfl) rfl ?_
  refine ao_readG (x := .int .i64 x2) rfl (GV.T rfl) (fun hg3 => by
        have q4 := d_t hg3
        exact r_move rfl) rfl ?_
  refine ao_readG (x := .bool (decide (x0 ≤ x2))) rfl (GV.T rfl) (fun hg5 => by
        have q6 := d_t hg5
        exact Reads.strip 11 rfl (hg5) (Reads.strip 12 rfl (hg5) (r_leq rfl rfl))) rfl ?_
  refine ao_r (r_andB rfl rfl) rfl ?_
  refine ao_r (r_assign rfl) rfl ?_
  refine ao_nil ?_
  refine aq_then ?_
  refine aw_ret ?_
  refine aq_ret ?_
  obtain rfl := is_eq h
  exact aq_finx (l := [.tmp 6]) (xs := [.bool ((decide (x1 ≤ x0)) && (decide (x0 ≤ x2)))]) idn [.bool ((decide (x1 ≤ x0)) && (decide (x0 ≤ x2)))] [] rfl (by exact ⟨rfl, trivial⟩) (by exact ⟨ad_ren rfl, trivial⟩) (by exact trivial) rfl (nk rfl) rfl rfl ⟨rfl, rfl⟩
theorem c_spec_l2Die {x0 : dy9} {r : Bool} (h : Is (p_spec_l2Die x0) (some r)) :
    Scalar Try.prog 73 [.v ty4 x0] (.bool r) := by
  unfold p_spec_l2Die at h
  refine ac_enter ⟨27, 0⟩ Try.func73 rfl rfl rfl rfl rfl (fun Γ => ?_)
  refine aw_seq ?_
  refine aw_region ?_
  refine ao_eff trivial (e_box 0 rfl rfl rfl rfl rfl rfl) rfl ?_
  refine ao_r (r_assign rfl) rfl ?_
  refine ao_nil ?_
  refine aq_then ?_
  refine aw_seq ?_
  refine aw_seq ?_
  refine aw_region ?_
  refine ao_r (r_assign rfl) rfl ?_
  refine ao_nil ?_
  refine aq_then ?_
  refine aw_block ?_
  refine aw_loop (AL.sub (fr' := [(1, .ref 0 0), (3, .int .i64 0)]) (H' := [(0, .var [.arr ty8 6 x0])]) (sub_r1 idn (nk rfl) (by kernel_rfl)) (al_cnt (fun i2 (s1 : Unit) => [(1, .ref 0 0), (3, .int .i64 i2)]) (fun i2 (s1 : Unit) => [(0, .var [.arr ty8 6 x0])]) (fun d i2 (s1 : Unit) => d = Int.toNat (6 - i2) ∧ 0 ≤ i2 ∧ i2 ≤ 6) h ⟨rfl, (by (try simp only [List.length_set, List.length_append, List.length_cons, List.length_nil, List.length_replicate, List.length_take, List.length_drop]) <;> omega), (by (try simp only [List.length_set, List.length_append, List.length_cons, List.length_nil, List.length_replicate, List.length_take, List.length_drop]) <;> omega)⟩ (fun d3 i2 s1 hI h ih3 => ?_)))
  obtain ⟨hd, _, _⟩ := hI
  refine al_round ?_
  refine aw_seq ?_
  refine aw_seq ?_
  refine aw_region ?_
  refine ao_r (r_move rfl) rfl ?_
  refine ao_r (r_lss rfl rfl) rfl ?_
  refine ao_nil ?_
  refine aq_then ?_
  refine aw_cond rfl (fun hb5 => ?_) (fun hb5 => ?_)
  have q6 := d_t hb5
  obtain ⟨d3, rfl⟩ : ∃ e, d3 = e + 1 := ⟨d3 - 1, by omega⟩
  replace h := is_cntS h
  refine aw_skip ?_
  refine aq_then ?_
  refine aw_seq ?_
  refine aw_block ?_
  refine aw_seq ?_
  refine aw_drawAll (by kernel_rfl) ?_
  refine an_r 0 (fun _ _ _ h => h) rfl (by kernel_rfl) (r_move rfl) rfl ?_
  refine an_r 1 (fun _ _ _ h => h) rfl (by kernel_rfl) (r_idxAddr_arr (i := i2) Try.underlying81 Try.sizeOf3 rfl rfl (show 0 ≤ i2 from by omega) (show i2 < (6 : Int) from by omega)) rfl ?_
  refine an_r 2 (fun _ _ _ h => h) rfl (by kernel_rfl) (r_load_elema_int Try.isAgg3 Try.sizeOf3 rfl rfl rfl (show i2.toNat < 6 from by omega)) rfl ?_
  refine an_scall 3 (by kernel_rfl) (fun _ _ _ h => h) rfl (by kernel_rfl) trivial (scall (c_spec_l1In (is_mk (rfl : p_spec_l1In (x0.getD i2.toNat 0) 0 30 = _))) rfl Try.func38 rfl rfl rfl rfl (fun σ => ⟨ad_ren rfl, ad_ren rfl, ad_ren rfl, trivial⟩)) rfl ?_
  refine an_r 4 (fun _ _ _ h => h) rfl (by kernel_rfl) (r_not rfl) rfl ?_
  refine an_r 5 (fun _ _ _ h => h) rfl (by kernel_rfl) (r_move rfl) rfl ?_
  refine an_readG 6 (x := .int .i64 i2) (by kernel_rfl) (fun _ _ _ h => h) rfl (by kernel_rfl) rfl (GV.F rfl) (fun hg8 => r_move rfl) rfl ?_
  refine an_readG 7 (x := .bool (decide (0 < i2))) (by kernel_rfl) (fun _ _ _ h => h) rfl (by kernel_rfl) rfl (GV.F rfl) (fun hg9 => Reads.strip 14 rfl (hg9) (r_gtr rfl rfl)) rfl ?_
  refine an_readG 8 (x := .bool (decide (0 < i2))) (by kernel_rfl) (fun _ _ _ h => h) rfl (by kernel_rfl) rfl (GV.F rfl) (fun hg10 => Reads.strip 15 rfl (hg10) (r_move rfl)) rfl ?_
  refine an_readG 9 (x := .int .i64 i2) (by kernel_rfl) (fun _ _ _ h => h) rfl (by kernel_rfl) rfl (GV.gT rfl) (fun hg11 => by
        obtain ⟨q12, q13⟩ := and_t hg11
        have q14 := d_t q13
        exact r_move rfl) rfl ?_
  refine an_readG 10 (x := .elem 0 0 1 i2.toNat) (by kernel_rfl) (fun _ _ _ h => h) rfl (by kernel_rfl) rfl (GV.gT rfl) (fun hg15 => by
        obtain ⟨q16, q17⟩ := and_t hg15
        have q18 := d_t q17
        exact Reads.strip 17 rfl (hg15) (r_idxAddr_arr (i := i2) Try.underlying81 Try.sizeOf3 rfl rfl (show 0 ≤ i2 from by omega) (show i2 < (6 : Int) from by omega))) rfl ?_
  refine an_readG 11 (x := .int .i64 (x0.getD i2.toNat 0)) (by kernel_rfl) (fun _ _ _ h => h) rfl (by kernel_rfl) rfl (GV.gT rfl) (fun hg19 => by
        obtain ⟨q20, q21⟩ := and_t hg19
        have q22 := d_t q21
        exact Reads.strip 18 rfl (hg19) (r_load_elema_int Try.isAgg3 Try.sizeOf3 rfl rfl rfl (show i2.toNat < 6 from by omega))) rfl ?_
  refine an_readG 12 (x := .int .i64 i2) (by kernel_rfl) (fun _ _ _ h => h) rfl (by kernel_rfl) rfl (GV.gT rfl) (fun hg23 => by
        obtain ⟨q24, q25⟩ := and_t hg23
        have q26 := d_t q25
        exact r_move rfl) rfl ?_
  refine an_readG 13 (x := .int .i64 (i2 - 1)) (by kernel_rfl) (fun _ _ _ h => h) rfl (by kernel_rfl) rfl (GV.gT rfl) (fun hg27 => by
        obtain ⟨q28, q29⟩ := and_t hg27
        have q30 := d_t q29
        exact Reads.strip 20 rfl (hg27) (r_subI rfl rfl (wrap_id (by omega) (by omega)))) rfl ?_
  refine an_readG 14 (x := .elem 0 0 1 (i2 - 1).toNat) (by kernel_rfl) (fun _ _ _ h => h) rfl (by kernel_rfl) rfl (GV.gT rfl) (fun hg31 => by
        obtain ⟨q32, q33⟩ := and_t hg31
        have q34 := d_t q33
        exact Reads.strip 21 rfl (hg31) (r_idxAddr_arr (i := (i2 - 1)) Try.underlying81 Try.sizeOf3 rfl rfl (show 0 ≤ (i2 - 1) from by omega) (show (i2 - 1) < (6 : Int) from by omega))) rfl ?_
  refine an_readG 15 (x := .int .i64 (x0.getD (i2 - 1).toNat 0)) (by kernel_rfl) (fun _ _ _ h => h) rfl (by kernel_rfl) rfl (GV.gT rfl) (fun hg35 => by
        obtain ⟨q36, q37⟩ := and_t hg35
        have q38 := d_t q37
        exact Reads.strip 22 rfl (hg35) (r_load_elema_int Try.isAgg3 Try.sizeOf3 rfl rfl rfl (show (i2 - 1).toNat < 6 from by omega))) rfl ?_
  refine an_readG 16 (x := .bool (decide ((x0.getD i2.toNat 0) < (x0.getD (i2 - 1).toNat 0)))) (by kernel_rfl) (fun _ _ _ h => h) rfl (by kernel_rfl) rfl (GV.gT rfl) (fun hg39 => by
        obtain ⟨q40, q41⟩ := and_t hg39
        have q42 := d_t q41
        exact Reads.strip 19 rfl (hg39) (Reads.strip 23 rfl (hg39) (r_lss rfl rfl))) rfl ?_
  refine an_readG 17 (x := .bool ((decide (0 < i2)) && (decide ((x0.getD i2.toNat 0) < (x0.getD (i2 - 1).toNat 0))))) (by kernel_rfl) (fun _ _ _ h => h) rfl (by kernel_rfl) rfl (GV.F rfl) (fun hg43 => Reads.strip 16 rfl (hg43) (r_andBg rfl rfl (tr_and (hg43)))) rfl ?_
  refine an_r 18 (fun _ _ _ h => h) rfl (by kernel_rfl) (r_orB rfl rfl) rfl ?_
  refine an_done rfl ?_
  refine aq_then ?_
  refine aw_cond rfl (fun hb44 => ?_) (fun hb44 => ?_)
  replace h := is_if hb44 h
  refine aw_seq ?_
  refine aw_region ?_
  refine ao_r (r_assign rfl) rfl ?_
  refine ao_nil ?_
  refine aq_then ?_
  refine aw_ret ?_
  refine aq_in_ret ?_
  refine aq_then_ret ?_
  refine aq_then_ret ?_
  refine aq_in_ret ?_
  refine aq_then_ret ?_
  refine aq_ret ?_
  obtain rfl := is_some h
  exact aq_finx (l := [.tmp 2]) (xs := [.bool false]) idn [.bool false] [] rfl (by exact ⟨rfl, trivial⟩) (by exact ⟨ad_ren rfl, trivial⟩) (by exact trivial) rfl (nk rfl) rfl rfl ⟨rfl, rfl⟩
  obtain ⟨q45, q46⟩ := or_f hb44
  replace h := is_else (ne_t hb44) h
  refine aw_skip ?_
  refine aq_in ?_
  refine aq_then ?_
  refine aw_region ?_
  refine ao_r (r_move rfl) rfl ?_
  refine ao_r (r_addI rfl rfl (wrap_id (by omega) (by omega))) rfl ?_
  refine ao_r (r_assign rfl) rfl ?_
  refine ao_nil ?_
  exact aq_again (AL.sub (sub_r1 idn (nk rfl) (by kernel_rfl)) (ih3 d3 (i2 + 1) () (by omega) ⟨by omega, (by (try simp only [List.length_set, List.length_append, List.length_cons, List.length_nil, List.length_replicate, List.length_take, List.length_drop]) <;> omega), (by (try simp only [List.length_set, List.length_append, List.length_cons, List.length_nil, List.length_replicate, List.length_take, List.length_drop]) <;> omega)⟩ h))
  have q7 := d_f hb5
  obtain rfl : d3 = 0 := by omega
  replace h := is_cnt0 h
  refine aw_exit ?_
  refine aq_then_exit ?_
  refine aq_then_exit ?_
  refine aq_in_exit ?_
  refine aq_then ?_
  refine aw_seq ?_
  refine aw_region ?_
  refine ao_r (r_assign rfl) rfl ?_
  refine ao_nil ?_
  refine aq_then ?_
  refine aw_ret ?_
  refine aq_ret ?_
  obtain rfl := is_some h
  exact aq_finx (l := [.tmp 2]) (xs := [.bool true]) idn [.bool true] [] rfl (by exact ⟨rfl, trivial⟩) (by exact ⟨ad_ren rfl, trivial⟩) (by exact trivial) rfl (nk rfl) rfl rfl ⟨rfl, rfl⟩
theorem c_spec_l2Pool {x0 : dy7} {r : Bool} (h : Is (p_spec_l2Pool x0) (some r)) :
    Scalar Try.prog 49 [.v ty2 x0] (.bool r) := by
  unfold p_spec_l2Pool at h
  refine ac_enter ⟨23, 0⟩ Try.func49 rfl rfl rfl rfl rfl (fun Γ => ?_)
  refine sl_len_m 0 (x0.length : Int) rfl rfl (fun hl0 => ?_)
  refine aw_seq ?_
  refine aw_region ?_
  refine ao_r (r_assign rfl) rfl ?_
  refine ao_nil ?_
  refine aq_then ?_
  refine aw_seq ?_
  refine aw_seq ?_
  refine aw_region ?_
  refine ao_r (r_assign rfl) rfl ?_
  refine ao_nil ?_
  refine aq_then ?_
  refine aw_block ?_
  refine aw_loop (AL.sub (fr' := [(0, .v ty2 x0), (3, .int .i64 0)]) (H' := []) (sub_r1 idn (nk rfl) (by kernel_rfl)) (al_cnt (fun i2 (s1 : Unit) => [(0, .v ty2 x0), (3, .int .i64 i2)]) (fun i2 (s1 : Unit) => []) (fun d i2 (s1 : Unit) => d = Int.toNat ((x0.length : Int) - i2) ∧ 0 ≤ i2 ∧ i2 ≤ (x0.length : Int)) h ⟨rfl, (by (try simp only [List.length_set, List.length_append, List.length_cons, List.length_nil, List.length_replicate, List.length_take, List.length_drop]) <;> omega), (by (try simp only [List.length_set, List.length_append, List.length_cons, List.length_nil, List.length_replicate, List.length_take, List.length_drop]) <;> omega)⟩ (fun d3 i2 s1 hI h ih3 => ?_)))
  obtain ⟨hd, _, _⟩ := hI
  refine al_round ?_
  refine aw_seq ?_
  refine aw_seq ?_
  refine aw_region ?_
  refine ao_r (r_move rfl) rfl ?_
  refine ao_r (r_move rfl) rfl ?_
  refine ao_r (r_len_vm (x0.length : Int) Try.underlying24 rfl rfl) rfl ?_
  refine ao_r (r_lss rfl rfl) rfl ?_
  refine ao_r (r_move rfl) rfl ?_
  refine ao_readG (x := .int .i64 i2) rfl (GV.T rfl) (fun hg5 => by
        have q6 := d_t hg5
        exact r_move rfl) rfl ?_
  refine ao_readG (x := .bool (decide (i2 ≤ 4))) rfl (GV.T rfl) (fun hg7 => by
        have q8 := d_t hg7
        exact Reads.strip 9 rfl (hg7) (r_leq rfl rfl)) rfl ?_
  refine ao_r (r_andB rfl rfl) rfl ?_
  refine ao_nil ?_
  refine aq_then ?_
  refine aw_cond rfl (fun hb9 => ?_) (fun hb9 => ?_)
  obtain ⟨q10, q11⟩ := and_t hb9
  have q12 := d_t q10
  have q13 := d_t q11
  obtain ⟨d3, rfl⟩ : ∃ e, d3 = e + 1 := ⟨d3 - 1, by omega⟩
  replace h := is_if hb9 (is_cntS h)
  refine aw_skip ?_
  refine aq_then ?_
  refine aw_seq ?_
  refine aw_block ?_
  refine aw_seq ?_
  refine aw_region ?_
  refine ao_r (r_move rfl) rfl ?_
  refine ao_r (r_move rfl) rfl ?_
  refine ao_r (r_idxAddr (t := ty4) Try.underlying24 Try.sizeOf81 rfl rfl (show 0 ≤ i2 from by omega) (show i2 < (x0.length : Int) from by omega)) rfl ?_
  refine ao_r (r_load_c (t := ty4) Try.isAgg81 Try.sizeOf81 rfl) rfl ?_
  obtain ⟨r14, r14h, h⟩ := is_bind h
  refine ao_scall trivial (scall (c_spec_l2Die (is_mk r14h)) rfl Try.func73 rfl rfl rfl rfl (fun σ => ⟨ad_ren rfl, trivial⟩)) rfl ?_
  refine ao_r (r_not rfl) rfl ?_
  refine ao_nil ?_
  refine aq_then ?_
  refine aw_cond rfl (fun hb15 => ?_) (fun hb15 => ?_)
  replace h := is_else (ne_t (not_t hb15)) h
  refine aw_seq ?_
  refine aw_region ?_
  refine ao_r (r_assign rfl) rfl ?_
  refine ao_nil ?_
  refine aq_then ?_
  refine aw_ret ?_
  refine aq_in_ret ?_
  refine aq_then_ret ?_
  refine aq_then_ret ?_
  refine aq_in_ret ?_
  refine aq_then_ret ?_
  refine aq_ret ?_
  obtain rfl := is_some h
  exact aq_finx (l := [.tmp 2]) (xs := [.bool false]) idn [.bool false] [] rfl (by exact ⟨rfl, trivial⟩) (by exact ⟨ad_ren rfl, trivial⟩) (by exact trivial) rfl (nk rfl) rfl rfl ⟨rfl, rfl⟩
  replace h := is_if (not_f hb15) h
  refine aw_skip ?_
  refine aq_in ?_
  refine aq_then ?_
  refine aw_region ?_
  refine ao_r (r_move rfl) rfl ?_
  refine ao_r (r_addI rfl rfl (wrap_id (by omega) (by omega))) rfl ?_
  refine ao_r (r_assign rfl) rfl ?_
  refine ao_nil ?_
  exact aq_again (AL.sub (sub_r1 idn (nk rfl) (by kernel_rfl)) (ih3 d3 (i2 + 1) () (by omega) ⟨by omega, (by (try simp only [List.length_set, List.length_append, List.length_cons, List.length_nil, List.length_replicate, List.length_take, List.length_drop]) <;> omega), (by (try simp only [List.length_set, List.length_append, List.length_cons, List.length_nil, List.length_replicate, List.length_take, List.length_drop]) <;> omega)⟩ h))
  replace h := is_cntF h (ne_t hb9) (fun _ => rfl)
  refine aw_exit ?_
  refine aq_then_exit ?_
  refine aq_then_exit ?_
  refine aq_in_exit ?_
  refine aq_then ?_
  refine aw_seq ?_
  refine aw_region ?_
  refine ao_r (r_move rfl) rfl ?_
  refine ao_r (r_len_vm (x0.length : Int) Try.underlying24 rfl rfl) rfl ?_
  refine ao_scall trivial (scall (c_spec_l1In (is_mk (rfl : p_spec_l1In (x0.length : Int) 1 4 = _))) rfl Try.func38 rfl rfl rfl rfl (fun σ => ⟨ad_ren rfl, ad_ren rfl, ad_ren rfl, trivial⟩)) rfl ?_
  refine ao_r (r_assign rfl) rfl ?_
  refine ao_nil ?_
  refine aq_then ?_
  refine aw_ret ?_
  refine aq_ret ?_
  obtain rfl := is_some h
  exact aq_finx (l := [.tmp 2]) (xs := [.bool (p_spec_l1In (x0.length : Int) 1 4)]) idn [.bool (p_spec_l1In (x0.length : Int) 1 4)] [] rfl (by exact ⟨rfl, trivial⟩) (by exact ⟨ad_ren rfl, trivial⟩) (by exact trivial) rfl (nk rfl) rfl rfl ⟨rfl, rfl⟩
theorem c_spec_l2All {fu : Nat} {x0 : Int} {r : Int} (h : Is (p_spec_l2All fu x0) (some r)) :
    Scalar Try.prog 51 [.int .i64 x0] (.int .i64 r) := by
  unfold p_spec_l2All at h
  refine ac_enter ⟨13, 0⟩ Try.func51 rfl rfl rfl rfl rfl (fun Γ => ?_)
  refine aw_seq ?_
  refine aw_region ?_
  refine ao_r (r_assign rfl) rfl ?_
  refine ao_nil ?_
  refine aq_then ?_
  refine aw_seq ?_
  refine aw_region ?_
  refine ao_r (r_assign rfl) rfl ?_
  refine ao_nil ?_
  refine aq_then ?_
  refine aw_seq ?_
  refine aw_seq ?_
  refine aw_region ?_
  refine ao_r (r_assign rfl) rfl ?_
  refine ao_nil ?_
  refine aq_then ?_
  refine aw_block ?_
  refine aw_loop (AL.sub (sub_r1 idn (nk rfl) (by kernel_rfl)) (al_whl (fun (s1 : Int × Int) => [(0, .int .i64 x0), (3, .int .i64 s1.1), (4, .int .i64 s1.2)]) (fun (s1 : Int × Int) => []) (fun (s1 : Int × Int) => True) h trivial (fun d3 s1 hI h ih3 => ?_)))
  replace h := is_whlS h
  refine al_round ?_
  refine aw_seq ?_
  refine aw_seq ?_
  refine aw_region ?_
  refine ao_r (r_move rfl) rfl ?_
  refine ao_r (r_move rfl) rfl ?_
  refine ao_r (r_lss rfl rfl) rfl ?_
  refine ao_nil ?_
  refine aq_then ?_
  refine aw_cond rfl (fun hb5 => ?_) (fun hb5 => ?_)
  have q6 := d_t hb5
  replace h := is_if (d_t hb5) h
  refine aw_skip ?_
  refine aq_then ?_
  refine aw_seq ?_
  refine aw_block ?_
  refine aw_region ?_
  refine ao_r (r_move rfl) rfl ?_
  refine ao_r (r_mul rfl rfl) rfl ?_
  refine ao_r (r_assign rfl) rfl ?_
  refine ao_nil ?_
  refine aq_in ?_
  refine aq_then ?_
  refine aw_region ?_
  refine ao_r (r_move rfl) rfl ?_
  refine ao_r (r_add rfl rfl) rfl ?_
  refine ao_r (r_assign rfl) rfl ?_
  refine ao_nil ?_
  exact aq_again (AL.sub (sub_r1 idn (nk rfl) (by kernel_rfl)) (ih3 ((IntKind.wrap .i64 (s1.1 * 6)), (IntKind.wrap .i64 (s1.2 + 1))) trivial h))
  have q7 := d_f hb5
  replace h := is_else (d_f hb5) h
  refine aw_exit ?_
  refine aq_then_exit ?_
  refine aq_then_exit ?_
  refine aq_in_exit ?_
  refine aq_then ?_
  refine aw_seq ?_
  refine aw_region ?_
  refine ao_r (r_move rfl) rfl ?_
  refine ao_r (r_assign rfl) rfl ?_
  refine ao_nil ?_
  refine aq_then ?_
  refine aw_ret ?_
  refine aq_ret ?_
  obtain rfl := is_some h
  exact aq_finx (l := [.tmp 2]) (xs := [.int .i64 s1.1]) idn [.int .i64 s1.1] [] rfl (by exact ⟨rfl, trivial⟩) (by exact ⟨ad_ren rfl, trivial⟩) (by exact trivial) rfl (nk rfl) rfl rfl ⟨rfl, rfl⟩
theorem c_spec_l1Cur_again6 {fu : Nat} {x0 : dy9} {x1 : Int} {x2 : Int} {r : dy7 × dy5 × Int × Int × Int × Int} (h : Is (p_spec_l1Cur_again6 fu x0 x1 x2) (some r)) :
    ACallsV Try.prog 23 [.ref 0 0] [(0, .var [.cell (.v ty6 x0), ci x1, .cell (.int .u64 x2)])] (fun r' H' => r' = .tup [.os 1, .v ty1 r.2.1, .int .i64 r.2.2.1, .int .i64 r.2.2.2.1] ∧ H' = [(0, .var [.cell (.v ty6 x0), ci r.2.2.2.2.1, .cell (.int .u64 r.2.2.2.2.2)]), (1, .row ty4 r.1)]) := by
  unfold p_spec_l1Cur_again6 at h
  refine ac_enterV ⟨50, 1⟩ Try.func23 rfl rfl rfl rfl rfl (fun Γ => ?_)
  refine aw_seq ?_
  refine aw_region ?_
  refine ao_r (r_assign rfl) rfl ?_
  refine ao_eff trivial (e_alloc 1 (y := .st [.int .i64 0, .int .i64 0]) Try.zeroValue26 (fun ρ h M => ra_zero_st (t := ty1) rfl rfl rfl) rfl rfl rfl rfl rfl) rfl ?_
  refine ao_r (r_assign rfl) rfl ?_
  refine ao_r (r_assign rfl) rfl ?_
  refine ao_nil ?_
  refine aq_then ?_
  refine aw_seq ?_
  refine aw_region ?_
  refine ao_r (r_move rfl) rfl ?_
  obtain ⟨r1, r1h, h⟩ := is_bind h
  refine ao_callV [0] 2 trivial (c_spec_l1Cur_few (is_mk r1h)) Try.func46 rfl rfl rfl rfl rfl ⟨rfl, trivial⟩ ⟨⟨_, rfl, ⟨ad_ren rfl, rfl, ad_ren rfl, rfl, ad_ren rfl, rfl, trivial⟩⟩, trivial⟩ rfl rfl rfl rfl rfl rfl rfl (fun r' H' hr => ?_)
  obtain ⟨rfl, rfl⟩ := hr
  refine ao_norm (y := .os 2) (H' := [(1, .var [ci 0, ci 0]), (0, .var [.cell (.v ty6 x0), ci r1.2.1, .cell (.int .u64 r1.2.2)]), (2, .row ty4 r1.1)]) rfl rfl ?_
  refine row_len_o 2 (r1.1.length : Int) rfl rfl (fun hr2 => ?_)
  refine ao_r (r_move rfl) rfl ?_
  obtain ⟨r3, r3h, h⟩ := is_bind h
  refine ao_callV [0] 3 trivial (c_spec_l1Cur_goal6 (is_mk r3h)) Try.func47 rfl rfl rfl rfl rfl ⟨rfl, trivial⟩ ⟨⟨_, rfl, ⟨ad_ren rfl, rfl, ad_ren rfl, rfl, ad_ren rfl, rfl, trivial⟩⟩, trivial⟩ rfl rfl rfl rfl rfl rfl rfl (fun r' H' hr => ?_)
  obtain ⟨rfl, rfl⟩ := hr
  refine ao_norm (y := .v ty1 r3.1) (H' := [(1, .var [ci 0, ci 0]), (2, .row ty4 r1.1), (0, .var [.cell (.v ty6 x0), ci r3.2.1, .cell (.int .u64 r3.2.2)])]) rfl rfl ?_
  refine ao_eff trivial (e_alloc 3 (y := .st [.int .i64 0, .int .i64 0]) Try.zeroValue26 (fun ρ h M => ra_zero_st (t := ty1) rfl rfl rfl) rfl rfl rfl rfl rfl) rfl ?_
  refine ao_r (r_assign rfl) rfl ?_
  refine ao_effS trivial (e_store rfl rfl rfl rfl Try.sizeOf26 rfl) ?_
  refine ao_nil ?_
  refine aq_then ?_
  refine aw_seq ?_
  refine aw_region ?_
  refine ao_r (r_move rfl) rfl ?_
  refine ao_r (r_move rfl) rfl ?_
  obtain ⟨r4, r4h, h⟩ := is_bind h
  refine ao_callV [0] 4 trivial (c_spec_l1Cur_pick (is_mk r4h)) Try.func35 rfl rfl rfl rfl rfl ⟨rfl, trivial⟩ ⟨⟨_, rfl, ⟨ad_ren rfl, rfl, ad_ren rfl, rfl, ad_ren rfl, rfl, trivial⟩⟩, trivial⟩ rfl rfl rfl rfl rfl rfl rfl (fun r' H' hr => ?_)
  obtain ⟨rfl, rfl⟩ := hr
  refine ao_norm (y := .int .i64 r4.1) (H' := [(3, .var [ci r3.1.1, ci r3.1.2.1]), (1, .var [ci 0, ci 0]), (2, .row ty4 r1.1), (0, .var [.cell (.v ty6 x0), ci r4.2.1, .cell (.int .u64 r4.2.2)])]) rfl rfl ?_
  refine ao_r (r_move rfl) rfl ?_
  obtain ⟨r5, r5h, h⟩ := is_bind h
  refine ao_callV [0] 4 trivial (c_spec_l1Cur_pick (is_mk r5h)) Try.func35 rfl rfl rfl rfl rfl ⟨rfl, trivial⟩ ⟨⟨_, rfl, ⟨ad_ren rfl, rfl, ad_ren rfl, rfl, ad_ren rfl, rfl, trivial⟩⟩, trivial⟩ rfl rfl rfl rfl rfl rfl rfl (fun r' H' hr => ?_)
  obtain ⟨rfl, rfl⟩ := hr
  refine ao_norm (y := .int .i64 r5.1) (H' := [(3, .var [ci r3.1.1, ci r3.1.2.1]), (1, .var [ci 0, ci 0]), (2, .row ty4 r1.1), (0, .var [.cell (.v ty6 x0), ci r5.2.1, .cell (.int .u64 r5.2.2)])]) rfl rfl ?_
  refine ao_r (r_move rfl) rfl ?_
  obtain ⟨r6, r6h, h⟩ := is_bind h
  refine ao_callV [0] 4 trivial (c_spec_l1Cur_pick (is_mk r6h)) Try.func35 rfl rfl rfl rfl rfl ⟨rfl, trivial⟩ ⟨⟨_, rfl, ⟨ad_ren rfl, rfl, ad_ren rfl, rfl, ad_ren rfl, rfl, trivial⟩⟩, trivial⟩ rfl rfl rfl rfl rfl rfl rfl (fun r' H' hr => ?_)
  obtain ⟨rfl, rfl⟩ := hr
  refine ao_norm (y := .int .i64 r6.1) (H' := [(3, .var [ci r3.1.1, ci r3.1.2.1]), (1, .var [ci 0, ci 0]), (2, .row ty4 r1.1), (0, .var [.cell (.v ty6 x0), ci r6.2.1, .cell (.int .u64 r6.2.2)])]) rfl rfl ?_
  refine ao_eff trivial (e_buildSlice (l := [(0, .tmp 15), (1, .tmp 17), (2, .tmp 19), (3, .const (.int .i64 (-1))), (4, .const (.int .i64 1296))]) (t := ty8) 4 ([r4.1, r5.1, r6.1, (-1), 1296] : dy9) rfl Try.underlying32 Try.zeroValue3 Try.sizeOf3 rfl rfl rfl rfl rfl rfl rfl) rfl ?_
  refine ao_r (r_move rfl) rfl ?_
  obtain ⟨r7, r7h, h⟩ := is_bind h
  refine ao_callV [0] 5 trivial (c_spec_l1Cur_pick (is_mk r7h)) Try.func35 rfl rfl rfl rfl rfl ⟨rfl, trivial⟩ ⟨⟨_, rfl, ⟨ad_ren rfl, rfl, ad_ren rfl, rfl, ad_ren rfl, rfl, trivial⟩⟩, trivial⟩ rfl rfl rfl rfl rfl rfl rfl (fun r' H' hr => ?_)
  obtain ⟨rfl, rfl⟩ := hr
  refine ao_norm (y := .int .i64 r7.1) (H' := [(4, .row ty8 ([r4.1, r5.1, r6.1, (-1), 1296] : dy9)), (3, .var [ci r3.1.1, ci r3.1.2.1]), (1, .var [ci 0, ci 0]), (2, .row ty4 r1.1), (0, .var [.cell (.v ty6 x0), ci r7.2.1, .cell (.int .u64 r7.2.2)])]) rfl rfl ?_
  refine ao_r (r_quo rfl rfl (by decide)) rfl ?_
  refine ao_r (r_add rfl rfl) rfl ?_
  obtain ⟨g8, h⟩ := is_guard h
  obtain ⟨g9, h⟩ := is_guard h
  refine ao_eff trivial (e_shrink (t := ty8) 5 rfl Try.underlying32 Try.sizeOf3 rfl rfl (.some rfl) (by omega) (show (IntKind.wrap .i64 (3 + (IntKind.wrap .i64 (r7.1.tdiv 22)))) ≤ (([r4.1, r5.1, r6.1, (-1), 1296] : List Int).length : Int) from by (try simp only [List.length_cons, List.length_nil]) <;> omega) rfl rfl) rfl ?_
  obtain ⟨r10, r10h, h⟩ := is_bind h
  refine ao_frz (fr' := [(0, .ref 0 0), (2, .nilsl), (3, .ref 1 0), (4, .int .i64 0), (5, .int .i64 0), (9, .ref 0 0), (10, .os 2), (11, .ref 0 0), (12, .v ty1 r3.1), (7, .ref 3 0), (6, .os 2), (13, .ref 0 0), (14, .ref 0 0), (15, .int .i64 r4.1), (16, .ref 0 0), (17, .int .i64 r5.1), (18, .ref 0 0), (19, .int .i64 r6.1), (21, .ref 0 0), (22, .int .i64 r7.1), (23, .int .i64 (IntKind.wrap .i64 (r7.1.tdiv 22))), (24, .int .i64 (IntKind.wrap .i64 (3 + (IntKind.wrap .i64 (r7.1.tdiv 22))))), (25, .v ty3 (([r4.1, r5.1, r6.1, (-1), 1296].take (IntKind.wrap .i64 (3 + (IntKind.wrap .i64 (r7.1.tdiv 22)))).toNat) : dy9))]) (H' := [(3, .var [ci r3.1.1, ci r3.1.2.1]), (1, .var [ci 0, ci 0]), (2, .row ty4 r1.1), (0, .var [.cell (.v ty6 x0), ci r7.2.1, .cell (.int .u64 r7.2.2)])]) (by exact ⟨⟨_, rfl, ad_ren rfl⟩, ⟨_, rfl, ad_ren rfl⟩, ⟨_, rfl, ad_ren rfl⟩, ⟨_, rfl, ad_ren rfl⟩, ⟨_, rfl, ad_ren rfl⟩, ⟨_, rfl, ad_ren rfl⟩, ⟨_, rfl, ad_ren rfl⟩, ⟨_, rfl, ad_ren rfl⟩, ⟨_, rfl, ad_ren rfl⟩, ⟨_, rfl, ad_ren rfl⟩, ⟨_, rfl, ad_ren rfl⟩, ⟨_, rfl, ad_ren rfl⟩, ⟨_, rfl, ad_ren rfl⟩, ⟨_, rfl, ad_ren rfl⟩, ⟨_, rfl, ad_ren rfl⟩, ⟨_, rfl, ad_ren rfl⟩, ⟨_, rfl, ad_ren rfl⟩, ⟨_, rfl, ad_ren rfl⟩, ⟨_, rfl, ad_ren rfl⟩, ⟨_, rfl, ad_ren rfl⟩, ⟨_, rfl, ad_ren rfl⟩, ⟨_, rfl, ad_ren rfl⟩, ⟨_, rfl, ad_osB rfl rfl⟩, trivial⟩) (by exact ⟨⟨_, rfl, ⟨ad_ren rfl, rfl, ad_ren rfl, rfl, trivial⟩⟩, ⟨_, rfl, ⟨ad_ren rfl, rfl, ad_ren rfl, rfl, trivial⟩⟩, ⟨_, rfl, rfl⟩, ⟨_, rfl, ⟨ad_ren rfl, rfl, ad_ren rfl, rfl, ad_ren rfl, rfl, trivial⟩⟩, trivial⟩) rfl ?_
  refine ao_callV [0] 6 trivial (c_spec_l1Cur_among (is_mk r10h)) Try.func48 rfl rfl rfl rfl rfl ⟨rfl, trivial⟩ ⟨⟨_, rfl, ⟨ad_ren rfl, rfl, ad_ren rfl, rfl, ad_ren rfl, rfl, trivial⟩⟩, trivial⟩ rfl rfl rfl rfl rfl rfl rfl (fun r' H' hr => ?_)
  obtain ⟨rfl, rfl⟩ := hr
  refine ao_norm (y := .int .i64 r10.1) (H' := [(3, .var [ci r3.1.1, ci r3.1.2.1]), (1, .var [ci 0, ci 0]), (2, .row ty4 r1.1), (0, .var [.cell (.v ty6 x0), ci r10.2.1, .cell (.int .u64 r10.2.2)])]) rfl rfl ?_
  refine ao_r (r_assign rfl) rfl ?_
  refine ao_nil ?_
  refine aq_then ?_
  refine aw_join (fun (s11 : Int × Int × Int) => [(0, .ref 0 0), (3, .ref 1 0), (6, .os 2), (7, .ref 3 0), (8, .int .i64 s11.1)]) (fun (s11 : Int × Int × Int) => [(0, .var [.cell (.v ty6 x0), ci s11.2.1, .cell (.int .u64 s11.2.2)]), (1, .var [ci 0, ci 0]), (2, .row ty4 r1.1), (3, .var [ci r3.1.1, ci r3.1.2.1])]) (fun (s11 : Int × Int × Int) => True) h (fun s11 hI h => ?_) (fun h j13 => ?_)
  refine aw_seq ?_
  obtain ⟨r14, r14h, h⟩ := is_bind h
  obtain ⟨g15, h⟩ := is_guard h
  obtain ⟨g16, h⟩ := is_guard h
  obtain ⟨r17, r17h, h⟩ := is_bind h
  refine aw_drawP 15 rfl (by kernel_rfl) ?_
  refine ap_to [(2, .os 1), (3, .ref 2 0), (4, .int .i64 s11.1), (5, .int .i64 r17.1)] [(0, .var [.cell (.v ty6 x0), ci r17.2.1, .cell (.int .u64 r17.2.2)]), (1, .row ty4 r1.1), (2, .var [ci r3.1.1, ci r3.1.2.1])] ?_ (fun key => ?_)
  refine aq_then ?_
  refine aw_ret ?_
  refine aq_ret ?_
  obtain rfl := is_some h
  exact aq_finV (l := [.tmp 2, .cell 3 26, .tmp 4, .tmp 5]) (xs := [.os 1, .st [.int .i64 r3.1.1, .int .i64 r3.1.2.1], .int .i64 s11.1, .int .i64 r17.1]) idn [.os 1, .v ty1 ((r3.1.1, (r3.1.2.1, ())) : dy5), .int .i64 s11.1, .int .i64 r17.1] [(0, .var [.cell (.v ty6 x0), ci r17.2.1, .cell (.int .u64 r17.2.2)]), (1, .row ty4 r1.1)] rfl (by exact ⟨rfl, ⟨⟨_, _, rfl⟩, r_load_st [] [ci r3.1.1, ci r3.1.2.1] [] Try.isAgg26 Try.sizeOf26 rfl rfl rfl rfl rfl rfl rfl⟩, rfl, rfl, trivial⟩) (by exact ⟨ad_ren rfl, ad_st rfl rfl ⟨ad_ren rfl, ad_ren rfl, trivial⟩, ad_ren rfl, ad_ren rfl, trivial⟩) (by exact ⟨⟨_, rfl, ⟨ad_ren rfl, rfl, ad_ren rfl, rfl, ad_ren rfl, rfl, trivial⟩⟩, ⟨_, rfl, rfl⟩, trivial⟩) rfl (nk1 rfl rfl) ⟨rfl, rfl⟩
  refine ap_let (g := 3) (listed := #[true, true, true, true, true, true, true, true, true, true, true, true, false, false, false]) [(2, .os 1), (3, .ref 2 0), (40, .v ty1 ((r3.1.1, (r3.1.2.1, ())) : dy5)), (41, .int .i64 s11.1), (49, .int .i64 r17.1)] [(0, .var [.cell (.v ty6 x0), ci r17.2.1, .cell (.int .u64 r17.2.2)]), (1, .row ty4 r1.1), (2, .var [ci 0, ci 0])] ?_ (fun k23 => ?_)
  refine ap_all [12] (by kernel_rfl) ⟨?_, trivial⟩
  refine apo_ao rfl ?_
  refine ao_effS trivial (e_store rfl rfl rfl rfl Try.sizeOf26 rfl) ?_
  refine ap_ni ?_
  refine ap_p 13 (fun _ _ _ h => h) rfl (by kernel_rfl) (rp_assign rfl) rfl ?_
  refine ap_p 14 (fun _ _ _ h => h) rfl (by kernel_rfl) (rp_assign rfl) rfl ?_
  exact ap_end (by kernel_rfl) (AQ.sub (sub_r1 idn (nk1 rfl rfl) (by kernel_rfl)) key)
  refine ap_let (g := 4) (listed := #[true, false, true, true, true, true, true, true, true, true, true, true, false, false, false]) [(2, .os 1), (3, .ref 2 0), (7, .ref 3 0), (41, .int .i64 s11.1), (49, .int .i64 r17.1)] [(0, .var [.cell (.v ty6 x0), ci r17.2.1, .cell (.int .u64 r17.2.2)]), (1, .row ty4 r1.1), (2, .var [ci 0, ci 0]), (3, .var [ci r3.1.1, ci r3.1.2.1])] ?_ (fun k28 => ?_)
  refine ap_all [1] (by kernel_rfl) ⟨?_, trivial⟩
  refine apo_ao rfl ?_
  refine ao_r (r_load_part (τ := ty1) (y := ((r3.1.1, (r3.1.2.1, ())) : dy5)) [] [] rfl Try.isAgg26 Try.sizeOf26 rfl rfl rfl rfl) rfl ?_
  refine ap_ni ?_
  exact ap_gr idn (nk1 rfl rfl) k23 (by kernel_rfl)
  refine ap_let (g := 5) (listed := #[true, true, true, true, true, true, true, true, true, true, false, false, false, false, false]) [(3, .ref 1 0), (39, .os 2), (40, .v ty1 ((r3.1.1, (r3.1.2.1, ())) : dy5)), (41, .int .i64 s11.1), (42, .ref 0 0), (48, .os 3)] [(0, .var [.cell (.v ty6 x0), ci r14.2.1, .cell (.int .u64 r14.2.2)]), (1, .var [ci 0, ci 0]), (2, .row ty4 r1.1), (3, .row ty8 (([1, 2, 1, 0, 3, (-1)].take (IntKind.wrap .i64 (4 + (IntKind.wrap .i64 (r14.1.tdiv 11)))).toNat) : dy9))] ?_ (fun k22 => ?_)
  refine ap_all [10] (by kernel_rfl) ⟨?_, trivial⟩
  refine apo_ao rfl ?_
  refine ao_frz (fr' := [(3, .ref 1 0), (39, .os 2), (40, .v ty1 ((r3.1.1, (r3.1.2.1, ())) : dy5)), (41, .int .i64 s11.1), (42, .ref 0 0), (48, .v ty3 (([1, 2, 1, 0, 3, (-1)].take (IntKind.wrap .i64 (4 + (IntKind.wrap .i64 (r14.1.tdiv 11)))).toNat) : dy9))]) (H' := [(0, .var [.cell (.v ty6 x0), ci r14.2.1, .cell (.int .u64 r14.2.2)]), (1, .var [ci 0, ci 0]), (2, .row ty4 r1.1)]) (by exact ⟨⟨_, rfl, ad_ren rfl⟩, ⟨_, rfl, ad_ren rfl⟩, ⟨_, rfl, ad_ren rfl⟩, ⟨_, rfl, ad_ren rfl⟩, ⟨_, rfl, ad_ren rfl⟩, ⟨_, rfl, ad_osB rfl rfl⟩, trivial⟩) (by exact ⟨⟨_, rfl, ⟨ad_ren rfl, rfl, ad_ren rfl, rfl, ad_ren rfl, rfl, trivial⟩⟩, ⟨_, rfl, ⟨ad_ren rfl, rfl, ad_ren rfl, rfl, trivial⟩⟩, ⟨_, rfl, rfl⟩, trivial⟩) rfl ?_
  refine ao_callV [0] 4 trivial (c_spec_l1Cur_among (is_mk r17h)) Try.func48 rfl rfl rfl rfl rfl ⟨rfl, trivial⟩ ⟨⟨_, rfl, ⟨ad_ren rfl, rfl, ad_ren rfl, rfl, ad_ren rfl, rfl, trivial⟩⟩, trivial⟩ rfl rfl rfl rfl rfl rfl rfl (fun r' H' hr => ?_)
  obtain ⟨rfl, rfl⟩ := hr
  refine ao_norm (y := .int .i64 r17.1) (H' := [(1, .var [ci 0, ci 0]), (2, .row ty4 r1.1), (0, .var [.cell (.v ty6 x0), ci r17.2.1, .cell (.int .u64 r17.2.2)])]) rfl rfl ?_
  refine ap_ni ?_
  refine ap_p 11 (fun _ _ _ h => h) rfl (by kernel_rfl) (rp_assign rfl) rfl ?_
  exact ap_gr (rn [(1, 2), (2, 1)]) (nk1 rfl rfl) k23 (by kernel_rfl)
  refine ap_let (g := 6) (listed := #[true, true, true, true, true, true, true, true, true, false, false, false, false, false, false]) [(3, .ref 1 0), (39, .os 2), (40, .v ty1 ((r3.1.1, (r3.1.2.1, ())) : dy5)), (41, .int .i64 s11.1), (42, .ref 0 0), (43, .os 3), (47, .int .i64 (IntKind.wrap .i64 (4 + (IntKind.wrap .i64 (r14.1.tdiv 11)))))] [(0, .var [.cell (.v ty6 x0), ci r14.2.1, .cell (.int .u64 r14.2.2)]), (1, .var [ci 0, ci 0]), (2, .row ty4 r1.1), (3, .row ty8 ([1, 2, 1, 0, 3, (-1)] : dy9))] ?_ (fun k21 => ?_)
  refine ap_all [9] (by kernel_rfl) ⟨?_, trivial⟩
  refine apo_ao rfl ?_
  refine ao_eff trivial (e_shrink (t := ty8) 4 rfl Try.underlying32 Try.sizeOf3 rfl rfl (.some rfl) (by omega) (show (IntKind.wrap .i64 (4 + (IntKind.wrap .i64 (r14.1.tdiv 11)))) ≤ (([1, 2, 1, 0, 3, (-1)] : List Int).length : Int) from by (try simp only [List.length_cons, List.length_nil]) <;> omega) rfl rfl) rfl ?_
  refine ap_ni ?_
  exact ap_gr (rn [(3, 4)]) (nk1 rfl rfl) k22 (by kernel_rfl)
  refine ap_let (g := 6) (listed := #[true, false, true, true, true, true, true, true, true, true, false, false, false, false, false]) [(3, .ref 1 0), (7, .ref 2 0), (39, .os 3), (41, .int .i64 s11.1), (42, .ref 0 0), (48, .os 4)] [(0, .var [.cell (.v ty6 x0), ci r14.2.1, .cell (.int .u64 r14.2.2)]), (1, .var [ci 0, ci 0]), (2, .var [ci r3.1.1, ci r3.1.2.1]), (3, .row ty4 r1.1), (4, .row ty8 (([1, 2, 1, 0, 3, (-1)].take (IntKind.wrap .i64 (4 + (IntKind.wrap .i64 (r14.1.tdiv 11)))).toNat) : dy9))] ?_ (fun k27 => ?_)
  refine ap_all [1, 10] (by kernel_rfl) ⟨?_, ?_, trivial⟩
  refine apo_ao rfl ?_
  refine ao_r (r_load_part (τ := ty1) (y := ((r3.1.1, (r3.1.2.1, ())) : dy5)) [] [] rfl Try.isAgg26 Try.sizeOf26 rfl rfl rfl rfl) rfl ?_
  refine ap_ni ?_
  exact ap_gr (rn [(2, 3), (3, 4)]) (nk1 rfl rfl) k22 (by kernel_rfl)
  refine apo_ao rfl ?_
  refine ao_frz (fr' := [(3, .ref 1 0), (7, .ref 2 0), (39, .os 3), (41, .int .i64 s11.1), (42, .ref 0 0), (48, .v ty3 (([1, 2, 1, 0, 3, (-1)].take (IntKind.wrap .i64 (4 + (IntKind.wrap .i64 (r14.1.tdiv 11)))).toNat) : dy9))]) (H' := [(0, .var [.cell (.v ty6 x0), ci r14.2.1, .cell (.int .u64 r14.2.2)]), (1, .var [ci 0, ci 0]), (2, .var [ci r3.1.1, ci r3.1.2.1]), (3, .row ty4 r1.1)]) (by exact ⟨⟨_, rfl, ad_ren rfl⟩, ⟨_, rfl, ad_ren rfl⟩, ⟨_, rfl, ad_ren rfl⟩, ⟨_, rfl, ad_ren rfl⟩, ⟨_, rfl, ad_ren rfl⟩, ⟨_, rfl, ad_osB rfl rfl⟩, trivial⟩) (by exact ⟨⟨_, rfl, ⟨ad_ren rfl, rfl, ad_ren rfl, rfl, ad_ren rfl, rfl, trivial⟩⟩, ⟨_, rfl, ⟨ad_ren rfl, rfl, ad_ren rfl, rfl, trivial⟩⟩, ⟨_, rfl, ⟨ad_ren rfl, rfl, ad_ren rfl, rfl, trivial⟩⟩, ⟨_, rfl, rfl⟩, trivial⟩) rfl ?_
  refine ao_callV [0] 5 trivial (c_spec_l1Cur_among (is_mk r17h)) Try.func48 rfl rfl rfl rfl rfl ⟨rfl, trivial⟩ ⟨⟨_, rfl, ⟨ad_ren rfl, rfl, ad_ren rfl, rfl, ad_ren rfl, rfl, trivial⟩⟩, trivial⟩ rfl rfl rfl rfl rfl rfl rfl (fun r' H' hr => ?_)
  obtain ⟨rfl, rfl⟩ := hr
  refine ao_norm (y := .int .i64 r17.1) (H' := [(1, .var [ci 0, ci 0]), (2, .var [ci r3.1.1, ci r3.1.2.1]), (3, .row ty4 r1.1), (0, .var [.cell (.v ty6 x0), ci r17.2.1, .cell (.int .u64 r17.2.2)])]) rfl rfl ?_
  refine ap_ni ?_
  refine ap_p 11 (fun _ _ _ h => h) rfl (by kernel_rfl) (rp_assign rfl) rfl ?_
  exact ap_gr (rn [(1, 3), (2, 1), (3, 2)]) (nk1 rfl rfl) k28 (by kernel_rfl)
  refine ap_let (g := 7) (listed := #[true, true, true, true, false, true, true, true, true, false, false, false, false, false, false]) [(3, .ref 1 0), (39, .os 2), (40, .v ty1 ((r3.1.1, (r3.1.2.1, ())) : dy5)), (41, .int .i64 s11.1), (42, .ref 0 0), (47, .int .i64 (IntKind.wrap .i64 (4 + (IntKind.wrap .i64 (r14.1.tdiv 11)))))] [(0, .var [.cell (.v ty6 x0), ci r14.2.1, .cell (.int .u64 r14.2.2)]), (1, .var [ci 0, ci 0]), (2, .row ty4 r1.1)] ?_ (fun k24 => ?_)
  refine ap_all [4] (by kernel_rfl) ⟨?_, trivial⟩
  refine apo_ao rfl ?_
  refine ao_eff trivial (e_buildSlice (l := [(0, .const (.int .i64 1)), (1, .const (.int .i64 2)), (2, .const (.int .i64 1)), (3, .const (.int .i64 0)), (4, .const (.int .i64 3)), (5, .const (.int .i64 (-1)))]) (t := ty8) 3 ([1, 2, 1, 0, 3, (-1)] : dy9) rfl Try.underlying32 Try.zeroValue3 Try.sizeOf3 rfl rfl rfl rfl rfl rfl rfl) rfl ?_
  refine ap_ni ?_
  exact ap_gr idn (nk1 rfl rfl) k21 (by kernel_rfl)
  refine ap_let (g := 7) (listed := #[true, false, true, true, true, true, true, true, true, false, false, false, false, false, false]) [(3, .ref 1 0), (7, .ref 2 0), (39, .os 3), (41, .int .i64 s11.1), (42, .ref 0 0), (43, .os 4), (47, .int .i64 (IntKind.wrap .i64 (4 + (IntKind.wrap .i64 (r14.1.tdiv 11)))))] [(0, .var [.cell (.v ty6 x0), ci r14.2.1, .cell (.int .u64 r14.2.2)]), (1, .var [ci 0, ci 0]), (2, .var [ci r3.1.1, ci r3.1.2.1]), (3, .row ty4 r1.1), (4, .row ty8 ([1, 2, 1, 0, 3, (-1)] : dy9))] ?_ (fun k26 => ?_)
  refine ap_all [1, 9] (by kernel_rfl) ⟨?_, ?_, trivial⟩
  refine apo_ao rfl ?_
  refine ao_r (r_load_part (τ := ty1) (y := ((r3.1.1, (r3.1.2.1, ())) : dy5)) [] [] rfl Try.isAgg26 Try.sizeOf26 rfl rfl rfl rfl) rfl ?_
  refine ap_ni ?_
  exact ap_gr (rn [(2, 3), (3, 4)]) (nk1 rfl rfl) k21 (by kernel_rfl)
  refine apo_ao rfl ?_
  refine ao_eff trivial (e_shrink (t := ty8) 5 rfl Try.underlying32 Try.sizeOf3 rfl rfl (.some rfl) (by omega) (show (IntKind.wrap .i64 (4 + (IntKind.wrap .i64 (r14.1.tdiv 11)))) ≤ (([1, 2, 1, 0, 3, (-1)] : List Int).length : Int) from by (try simp only [List.length_cons, List.length_nil]) <;> omega) rfl rfl) rfl ?_
  refine ap_ni ?_
  exact ap_gr (rn [(4, 5)]) (nk1 rfl rfl) k27 (by kernel_rfl)
  refine ap_let (g := 8) (listed := #[true, false, true, true, false, true, true, true, true, false, false, false, false, false, false]) [(3, .ref 1 0), (7, .ref 2 0), (39, .os 3), (41, .int .i64 s11.1), (42, .ref 0 0), (47, .int .i64 (IntKind.wrap .i64 (4 + (IntKind.wrap .i64 (r14.1.tdiv 11)))))] [(0, .var [.cell (.v ty6 x0), ci r14.2.1, .cell (.int .u64 r14.2.2)]), (1, .var [ci 0, ci 0]), (2, .var [ci r3.1.1, ci r3.1.2.1]), (3, .row ty4 r1.1)] ?_ (fun k29 => ?_)
  refine ap_all [1, 4] (by kernel_rfl) ⟨?_, ?_, trivial⟩
  refine apo_ao rfl ?_
  refine ao_r (r_load_part (τ := ty1) (y := ((r3.1.1, (r3.1.2.1, ())) : dy5)) [] [] rfl Try.isAgg26 Try.sizeOf26 rfl rfl rfl rfl) rfl ?_
  refine ap_ni ?_
  exact ap_gr (rn [(2, 3)]) (nk1 rfl rfl) k24 (by kernel_rfl)
  refine apo_ao rfl ?_
  refine ao_eff trivial (e_buildSlice (l := [(0, .const (.int .i64 1)), (1, .const (.int .i64 2)), (2, .const (.int .i64 1)), (3, .const (.int .i64 0)), (4, .const (.int .i64 3)), (5, .const (.int .i64 (-1)))]) (t := ty8) 4 ([1, 2, 1, 0, 3, (-1)] : dy9) rfl Try.underlying32 Try.zeroValue3 Try.sizeOf3 rfl rfl rfl rfl rfl rfl rfl) rfl ?_
  refine ap_ni ?_
  exact ap_gr idn (nk1 rfl rfl) k26 (by kernel_rfl)
  refine ap_let (g := 9) (listed := #[true, true, true, true, true, true, false, false, false, false, false, false, false, false, false]) [(3, .ref 1 0), (39, .os 2), (40, .v ty1 ((r3.1.1, (r3.1.2.1, ())) : dy5)), (41, .int .i64 s11.1), (42, .ref 0 0), (43, .os 3), (44, .ref 0 0)] [(0, .var [.cell (.v ty6 x0), ci s11.2.1, .cell (.int .u64 s11.2.2)]), (1, .var [ci 0, ci 0]), (2, .row ty4 r1.1), (3, .row ty8 ([1, 2, 1, 0, 3, (-1)] : dy9))] ?_ (fun k20 => ?_)
  refine ap_all [6] (by kernel_rfl) ⟨?_, trivial⟩
  refine apo_ao rfl ?_
  refine ao_callV [0] 4 trivial (c_spec_l1Cur_pick (is_mk r14h)) Try.func35 rfl rfl rfl rfl rfl ⟨rfl, trivial⟩ ⟨⟨_, rfl, ⟨ad_ren rfl, rfl, ad_ren rfl, rfl, ad_ren rfl, rfl, trivial⟩⟩, trivial⟩ rfl rfl rfl rfl rfl rfl rfl (fun r' H' hr => ?_)
  obtain ⟨rfl, rfl⟩ := hr
  refine ao_norm (y := .int .i64 r14.1) (H' := [(1, .var [ci 0, ci 0]), (2, .row ty4 r1.1), (3, .row ty8 ([1, 2, 1, 0, 3, (-1)] : dy9)), (0, .var [.cell (.v ty6 x0), ci r14.2.1, .cell (.int .u64 r14.2.2)])]) rfl rfl ?_
  refine ap_ni ?_
  refine ap_p 7 (fun _ _ _ h => h) rfl (by kernel_rfl) (rp_quo rfl rfl (by decide)) rfl ?_
  refine ap_p 8 (fun _ _ _ h => h) rfl (by kernel_rfl) (rp_add rfl rfl) rfl ?_
  exact ap_gr idn (nk1 rfl rfl) k21 (by kernel_rfl)
  refine ap_let (g := 10) (listed := #[true, true, true, true, false, true, false, false, false, false, false, false, false, false, false]) [(3, .ref 1 0), (39, .os 2), (40, .v ty1 ((r3.1.1, (r3.1.2.1, ())) : dy5)), (41, .int .i64 s11.1), (42, .ref 0 0), (44, .ref 0 0)] [(0, .var [.cell (.v ty6 x0), ci s11.2.1, .cell (.int .u64 s11.2.2)]), (1, .var [ci 0, ci 0]), (2, .row ty4 r1.1)] ?_ (fun k19 => ?_)
  refine ap_all [4, 6] (by kernel_rfl) ⟨?_, ?_, trivial⟩
  refine apo_ao rfl ?_
  refine ao_eff trivial (e_buildSlice (l := [(0, .const (.int .i64 1)), (1, .const (.int .i64 2)), (2, .const (.int .i64 1)), (3, .const (.int .i64 0)), (4, .const (.int .i64 3)), (5, .const (.int .i64 (-1)))]) (t := ty8) 3 ([1, 2, 1, 0, 3, (-1)] : dy9) rfl Try.underlying32 Try.zeroValue3 Try.sizeOf3 rfl rfl rfl rfl rfl rfl rfl) rfl ?_
  refine ap_ni ?_
  exact ap_gr idn (nk1 rfl rfl) k20 (by kernel_rfl)
  refine apo_ao rfl ?_
  refine ao_callV [0] 3 trivial (c_spec_l1Cur_pick (is_mk r14h)) Try.func35 rfl rfl rfl rfl rfl ⟨rfl, trivial⟩ ⟨⟨_, rfl, ⟨ad_ren rfl, rfl, ad_ren rfl, rfl, ad_ren rfl, rfl, trivial⟩⟩, trivial⟩ rfl rfl rfl rfl rfl rfl rfl (fun r' H' hr => ?_)
  obtain ⟨rfl, rfl⟩ := hr
  refine ao_norm (y := .int .i64 r14.1) (H' := [(1, .var [ci 0, ci 0]), (2, .row ty4 r1.1), (0, .var [.cell (.v ty6 x0), ci r14.2.1, .cell (.int .u64 r14.2.2)])]) rfl rfl ?_
  refine ap_ni ?_
  refine ap_p 7 (fun _ _ _ h => h) rfl (by kernel_rfl) (rp_quo rfl rfl (by decide)) rfl ?_
  refine ap_p 8 (fun _ _ _ h => h) rfl (by kernel_rfl) (rp_add rfl rfl) rfl ?_
  exact ap_gr idn (nk1 rfl rfl) k24 (by kernel_rfl)
  refine ap_let (g := 10) (listed := #[true, false, true, true, true, true, false, false, false, false, false, false, false, false, false]) [(3, .ref 1 0), (7, .ref 2 0), (39, .os 3), (41, .int .i64 s11.1), (42, .ref 0 0), (43, .os 4), (44, .ref 0 0)] [(0, .var [.cell (.v ty6 x0), ci s11.2.1, .cell (.int .u64 s11.2.2)]), (1, .var [ci 0, ci 0]), (2, .var [ci r3.1.1, ci r3.1.2.1]), (3, .row ty4 r1.1), (4, .row ty8 ([1, 2, 1, 0, 3, (-1)] : dy9))] ?_ (fun k25 => ?_)
  refine ap_all [1, 6] (by kernel_rfl) ⟨?_, ?_, trivial⟩
  refine apo_ao rfl ?_
  refine ao_r (r_load_part (τ := ty1) (y := ((r3.1.1, (r3.1.2.1, ())) : dy5)) [] [] rfl Try.isAgg26 Try.sizeOf26 rfl rfl rfl rfl) rfl ?_
  refine ap_ni ?_
  exact ap_gr (rn [(2, 3), (3, 4)]) (nk1 rfl rfl) k20 (by kernel_rfl)
  refine apo_ao rfl ?_
  refine ao_callV [0] 5 trivial (c_spec_l1Cur_pick (is_mk r14h)) Try.func35 rfl rfl rfl rfl rfl ⟨rfl, trivial⟩ ⟨⟨_, rfl, ⟨ad_ren rfl, rfl, ad_ren rfl, rfl, ad_ren rfl, rfl, trivial⟩⟩, trivial⟩ rfl rfl rfl rfl rfl rfl rfl (fun r' H' hr => ?_)
  obtain ⟨rfl, rfl⟩ := hr
  refine ao_norm (y := .int .i64 r14.1) (H' := [(1, .var [ci 0, ci 0]), (2, .var [ci r3.1.1, ci r3.1.2.1]), (3, .row ty4 r1.1), (4, .row ty8 ([1, 2, 1, 0, 3, (-1)] : dy9)), (0, .var [.cell (.v ty6 x0), ci r14.2.1, .cell (.int .u64 r14.2.2)])]) rfl rfl ?_
  refine ap_ni ?_
  refine ap_p 7 (fun _ _ _ h => h) rfl (by kernel_rfl) (rp_quo rfl rfl (by decide)) rfl ?_
  refine ap_p 8 (fun _ _ _ h => h) rfl (by kernel_rfl) (rp_add rfl rfl) rfl ?_
  exact ap_gr idn (nk1 rfl rfl) k26 (by kernel_rfl)
  refine ap_let (g := 11) (listed := #[true, false, true, true, false, true, false, false, false, false, false, false, false, false, false]) [(3, .ref 1 0), (7, .ref 2 0), (39, .os 3), (41, .int .i64 s11.1), (42, .ref 0 0), (44, .ref 0 0)] [(0, .var [.cell (.v ty6 x0), ci s11.2.1, .cell (.int .u64 s11.2.2)]), (1, .var [ci 0, ci 0]), (2, .var [ci r3.1.1, ci r3.1.2.1]), (3, .row ty4 r1.1)] ?_ (fun k18 => ?_)
  refine ap_all [1, 4, 6] (by kernel_rfl) ⟨?_, ?_, ?_, trivial⟩
  refine apo_ao rfl ?_
  refine ao_r (r_load_part (τ := ty1) (y := ((r3.1.1, (r3.1.2.1, ())) : dy5)) [] [] rfl Try.isAgg26 Try.sizeOf26 rfl rfl rfl rfl) rfl ?_
  refine ap_ni ?_
  exact ap_gr (rn [(2, 3)]) (nk1 rfl rfl) k19 (by kernel_rfl)
  refine apo_ao rfl ?_
  refine ao_eff trivial (e_buildSlice (l := [(0, .const (.int .i64 1)), (1, .const (.int .i64 2)), (2, .const (.int .i64 1)), (3, .const (.int .i64 0)), (4, .const (.int .i64 3)), (5, .const (.int .i64 (-1)))]) (t := ty8) 4 ([1, 2, 1, 0, 3, (-1)] : dy9) rfl Try.underlying32 Try.zeroValue3 Try.sizeOf3 rfl rfl rfl rfl rfl rfl rfl) rfl ?_
  refine ap_ni ?_
  exact ap_gr idn (nk1 rfl rfl) k25 (by kernel_rfl)
  refine apo_ao rfl ?_
  refine ao_callV [0] 4 trivial (c_spec_l1Cur_pick (is_mk r14h)) Try.func35 rfl rfl rfl rfl rfl ⟨rfl, trivial⟩ ⟨⟨_, rfl, ⟨ad_ren rfl, rfl, ad_ren rfl, rfl, ad_ren rfl, rfl, trivial⟩⟩, trivial⟩ rfl rfl rfl rfl rfl rfl rfl (fun r' H' hr => ?_)
  obtain ⟨rfl, rfl⟩ := hr
  refine ao_norm (y := .int .i64 r14.1) (H' := [(1, .var [ci 0, ci 0]), (2, .var [ci r3.1.1, ci r3.1.2.1]), (3, .row ty4 r1.1), (0, .var [.cell (.v ty6 x0), ci r14.2.1, .cell (.int .u64 r14.2.2)])]) rfl rfl ?_
  refine ap_ni ?_
  refine ap_p 7 (fun _ _ _ h => h) rfl (by kernel_rfl) (rp_quo rfl rfl (by decide)) rfl ?_
  refine ap_p 8 (fun _ _ _ h => h) rfl (by kernel_rfl) (rp_add rfl rfl) rfl ?_
  exact ap_gr idn (nk1 rfl rfl) k29 (by kernel_rfl)
  refine ap_p 0 (fun _ _ _ h => h) rfl (by kernel_rfl) (rp_move rfl) rfl ?_
  refine ap_p 2 (fun _ _ _ h => h) rfl (by kernel_rfl) (rp_move rfl) rfl ?_
  refine ap_p 3 (fun _ _ _ h => h) rfl (by kernel_rfl) (rp_move rfl) rfl ?_
  refine ap_p 5 (fun _ _ _ h => h) rfl (by kernel_rfl) (rp_move rfl) rfl ?_
  exact ap_gr (rn [(2, 3), (3, 2)]) (nk1 rfl rfl) k18 (by kernel_rfl)
  refine aw_seq ?_
  refine aw_region ?_
  refine ao_r (r_move rfl) rfl ?_
  obtain ⟨r30, r30h, h⟩ := is_bind h
  refine ao_scall trivial (scall (c_spec_l2Pool (is_mk r30h)) rfl Try.func49 rfl rfl rfl rfl (fun σ => ⟨ad_os0 rfl, trivial⟩)) rfl ?_
  refine ao_r (r_move rfl) rfl ?_
  refine ao_split r30 (fun hb31 => ?_) (fun hb31 => ?_)
  replace h := is_if hb31 h
  refine ao_read (by exact ⟨_, _, rfl, rfl, hb31⟩) (r_move rfl) rfl ?_
  obtain ⟨r32, r32h, h⟩ := is_bind h
  refine ao_callV [0] 6 (by exact ⟨_, _, rfl, rfl, hb31⟩) (c_spec_l1Cur_one (is_mk r32h)) Try.func50 rfl rfl rfl rfl rfl ⟨rfl, trivial⟩ ⟨⟨_, rfl, ⟨ad_ren rfl, rfl, ad_ren rfl, rfl, ad_ren rfl, rfl, trivial⟩⟩, trivial⟩ rfl rfl rfl rfl rfl rfl rfl (fun r' H' hr => ?_)
  obtain ⟨rfl, rfl⟩ := hr
  refine ao_norm (y := .bool r32.1) (H' := [(3, .var [ci r3.1.1, ci r3.1.2.1]), (1, .var [ci 0, ci 0]), (2, .row ty4 r1.1), (0, .var [.cell (.v ty6 x0), ci r32.2.1, .cell (.int .u64 r32.2.2)])]) rfl rfl ?_
  refine ao_read (by exact ⟨_, _, rfl, rfl, hb31⟩) (r_not rfl) rfl ?_
  refine ao_r (r_pickT rfl hb31 rfl) rfl ?_
  refine ao_nil ?_
  refine aq_then ?_
  refine aw_cond rfl (fun hb33 => ?_) (fun hb33 => ?_)
  replace h := is_else (ne_t (not_t hb33)) h
  refine aw_region ?_
  refine ao_r (r_move rfl) rfl ?_
  refine ao_r (r_move rfl) rfl ?_
  refine ao_r (r_len_osm (r1.1.length : Int) Try.underlying24 rfl rfl rfl) rfl ?_
  obtain ⟨r34, r34h, h⟩ := is_bind h
  refine ao_scall trivial (scall (c_spec_l2All (is_mk r34h)) rfl Try.func51 rfl rfl rfl rfl (fun σ => ⟨ad_ren rfl, trivial⟩)) rfl ?_
  obtain ⟨r35, r35h, h⟩ := is_bind h
  refine ao_callV [0] 6 trivial (c_spec_l1Cur_pick (is_mk r35h)) Try.func35 rfl rfl rfl rfl rfl ⟨rfl, trivial⟩ ⟨⟨_, rfl, ⟨ad_ren rfl, rfl, ad_ren rfl, rfl, ad_ren rfl, rfl, trivial⟩⟩, trivial⟩ rfl rfl rfl rfl rfl rfl rfl (fun r' H' hr => ?_)
  obtain ⟨rfl, rfl⟩ := hr
  refine ao_norm (y := .int .i64 r35.1) (H' := [(3, .var [ci r3.1.1, ci r3.1.2.1]), (1, .var [ci 0, ci 0]), (2, .row ty4 r1.1), (0, .var [.cell (.v ty6 x0), ci r35.2.1, .cell (.int .u64 r35.2.2)])]) rfl rfl ?_
  refine ao_r (r_assign rfl) rfl ?_
  refine ao_nil ?_
  exact aq_then (AW.sub (sub_r1 idn (nk1 rfl rfl) (by kernel_rfl)) (j13 (r35.1, r35.2.1, r35.2.2) trivial h))
  replace h := is_if (not_f hb33) h
  refine aw_skip ?_
  exact aq_then (AW.sub (sub_r1 idn (nk1 rfl rfl) (by kernel_rfl)) (j13 (r10.1, r32.2.1, r32.2.2) trivial h))
  replace h := is_else (ne_t hb31) h
  refine ao_skipT 3 2 29 rfl rfl hb31 rfl rfl rfl ?_
  refine ao_r (r_pickF rfl hb31 rfl) rfl ?_
  refine ao_nil ?_
  refine aq_then ?_
  refine aw_cond rfl (fun hb => by cases hb) (fun _ => ?_)
  refine aw_skip ?_
  exact aq_then (AW.sub (sub_r1 idn (nk1 rfl rfl) (by kernel_rfl)) (j13 (r10.1, r10.2.1, r10.2.2) trivial h))
theorem c_spec_DrawValueOf {fu : Nat} {x0 : dy9} {r : dy7 × dy5 × Int × Int} (h : Is (p_spec_DrawValueOf fu x0) (some r)) :
    ACalls Try.prog 5 [.v ty6 x0] [] (fun r' H' => r' = .tup [.os 0, .v ty1 r.2.1, .int .i64 r.2.2.1, .int .i64 r.2.2.2] ∧ H' = [(0, .row ty4 r.1)]) := by
  unfold p_spec_DrawValueOf at h
  refine ac_enter ⟨16, 0⟩ Try.func5 rfl rfl rfl rfl rfl (fun Γ => ?_)
  refine sl_len_m 0 (x0.length : Int) rfl rfl (fun hl0 => ?_)
  refine aw_seq ?_
  refine aw_region ?_
  refine ao_r (r_assign rfl) rfl ?_
  refine ao_eff trivial (e_alloc 0 (y := .st [.int .i64 0, .int .i64 0]) Try.zeroValue26 (fun ρ h M => ra_zero_st (t := ty1) rfl rfl rfl) rfl rfl rfl rfl rfl) rfl ?_
  refine ao_r (r_assign rfl) rfl ?_
  refine ao_r (r_assign rfl) rfl ?_
  refine ao_nil ?_
  refine aq_then ?_
  refine aw_seq ?_
  refine aw_region ?_
  refine ao_r (r_move rfl) rfl ?_
  refine ao_r (r_build_st (l := [(0, .tmp 7)]) (cs := [.cell (.v ty6 x0), ci 0, .cell (.int .u64 0)]) (.pair ty6 (.pair ty8 (.pair (.int .u64) .unit))) [(0, 1), (1, 1), (2, 1)] Try.underlying50 Try.zeroValue50 rfl ⟨rfl, Try.sizeOf22, rfl, Try.sizeOf3, rfl, Try.sizeOf48, trivial⟩ rfl rfl rfl) rfl ?_
  refine ao_eff trivial (e_box 1 rfl rfl rfl rfl rfl rfl) rfl ?_
  refine ao_r (r_assign rfl) rfl ?_
  refine ao_nil ?_
  refine aq_then ?_
  refine aw_seq ?_
  refine aw_region ?_
  refine ao_r (r_move rfl) rfl ?_
  obtain ⟨r1, r1h, h⟩ := is_bind h
  refine ao_callV [1] 2 trivial (c_spec_l1Cur_again6 (is_mk r1h)) Try.func23 rfl rfl rfl rfl rfl ⟨rfl, trivial⟩ ⟨⟨_, rfl, ⟨ad_ren rfl, rfl, ad_ren rfl, rfl, ad_ren rfl, rfl, trivial⟩⟩, trivial⟩ rfl rfl rfl rfl rfl rfl rfl (fun r' H' hr => ?_)
  obtain ⟨rfl, rfl⟩ := hr
  refine ao_norm (y := .tup [.os 2, .v ty1 r1.2.1, .int .i64 r1.2.2.1, .int .i64 r1.2.2.2.1]) (H' := [(0, .var [ci 0, ci 0]), (1, .var [.cell (.v ty6 x0), ci r1.2.2.2.2.1, .cell (.int .u64 r1.2.2.2.2.2)]), (2, .row ty4 r1.1)]) rfl rfl ?_
  refine row_len_o 2 (r1.1.length : Int) rfl rfl (fun hr2 => ?_)
  refine ao_r (r_extract rfl rfl) rfl ?_
  refine ao_r (r_extract rfl rfl) rfl ?_
  refine ao_r (r_extract rfl rfl) rfl ?_
  refine ao_r (r_extract rfl rfl) rfl ?_
  refine ao_r (r_assign rfl) rfl ?_
  refine ao_effS trivial (e_store rfl rfl rfl rfl Try.sizeOf26 rfl) ?_
  refine ao_r (r_assign rfl) rfl ?_
  refine ao_r (r_assign rfl) rfl ?_
  refine ao_nil ?_
  refine aq_then ?_
  refine aw_ret ?_
  refine aq_ret ?_
  obtain rfl := is_some h
  exact aq_finx (l := [.tmp 2, .cell 3 26, .tmp 4, .tmp 5]) (xs := [.os 2, .st [.int .i64 r1.2.1.1, .int .i64 r1.2.1.2.1], .int .i64 r1.2.2.1, .int .i64 r1.2.2.2.1]) (rn [(0, 2)]) [.os 0, .v ty1 ((r1.2.1.1, (r1.2.1.2.1, ())) : dy5), .int .i64 r1.2.2.1, .int .i64 r1.2.2.2.1] [(0, .row ty4 r1.1)] rfl (by exact ⟨rfl, ⟨⟨_, _, rfl⟩, r_load_st [] [ci r1.2.1.1, ci r1.2.1.2.1] [] Try.isAgg26 Try.sizeOf26 rfl rfl rfl rfl rfl rfl rfl⟩, rfl, rfl, trivial⟩) (by exact ⟨ad_ren rfl, ad_st rfl rfl ⟨ad_ren rfl, ad_ren rfl, trivial⟩, ad_ren rfl, ad_ren rfl, trivial⟩) (by exact ⟨⟨_, rfl, rfl⟩, trivial⟩) rfl (nk rfl) rfl rfl ⟨rfl, rfl⟩
theorem c_impl_within {x0 : Int} {x1 : Int} {x2 : Int} {r : Bool} (h : Is (p_impl_within x0 x1 x2) r) :
    Scalar Try.prog 36 [.int .i64 x0, .int .i64 x1, .int .i64 x2] (.bool r) := by
  unfold p_impl_within at h
  refine ac_enter ⟨15, 0⟩ Try.func36 rfl rfl rfl rfl rfl (fun Γ => ?_)
  refine aw_seq ?_
  refine aw_region ?_
  refine ao_r (r_assign rfl) rfl ?_
  refine ao_nil ?_
  refine aq_then ?_
  refine aw_seq ?_
  refine aw_region ?_
  refine ao_r (r_move rfl) rfl ?_
  refine ao_r (r_move rfl) rfl ?_
  refine ao_r (r_leq rfl rfl) rfl ?_
  refine ao_r (r_move rfl) rfl ?_
  refine ao_readG (x := .int .i64 x0) rfl (GV.T rfl) (fun hg1 => by
        have q2 := d_t hg1
        exact r_move rfl) rfl ?_
  refine ao_readG (x := .int .i64 x2) rfl (GV.T rfl) (fun hg3 => by
        have q4 := d_t hg3
        exact r_move rfl) rfl ?_
  refine ao_readG (x := .bool (decide (x0 ≤ x2))) rfl (GV.T rfl) (fun hg5 => by
        have q6 := d_t hg5
        exact Reads.strip 11 rfl (hg5) (Reads.strip 12 rfl (hg5) (r_leq rfl rfl))) rfl ?_
  refine ao_r (r_andB rfl rfl) rfl ?_
  refine ao_r (r_assign rfl) rfl ?_
  refine ao_nil ?_
  refine aq_then ?_
  refine aw_ret ?_
  refine aq_ret ?_
  obtain rfl := is_eq h
  exact aq_finx (l := [.tmp 6]) (xs := [.bool ((decide (x1 ≤ x0)) && (decide (x0 ≤ x2)))]) idn [.bool ((decide (x1 ≤ x0)) && (decide (x0 ≤ x2)))] [] rfl (by exact ⟨rfl, trivial⟩) (by exact ⟨ad_ren rfl, trivial⟩) (by exact trivial) rfl (nk rfl) rfl rfl ⟨rfl, rfl⟩
theorem c_impl_isFace {x0 : Int} {r : Bool} (h : Is (p_impl_isFace x0) r) :
    Scalar Try.prog 44 [.int .i64 x0] (.bool r) := by
  unfold p_impl_isFace at h
  refine ac_enter ⟨5, 0⟩ Try.func44 rfl rfl rfl rfl rfl (fun Γ => ?_)
  refine aw_seq ?_
  refine aw_region ?_
  refine ao_r (r_assign rfl) rfl ?_
  refine ao_nil ?_
  refine aq_then ?_
  refine aw_seq ?_
  refine aw_region ?_
  refine ao_r (r_move rfl) rfl ?_
  refine ao_scall trivial (scall (c_impl_within (is_mk (rfl : p_impl_within x0 0 30 = _))) rfl Try.func36 rfl rfl rfl rfl (fun σ => ⟨ad_ren rfl, ad_ren rfl, ad_ren rfl, trivial⟩)) rfl ?_
  refine ao_r (r_assign rfl) rfl ?_
  refine ao_nil ?_
  refine aq_then ?_
  refine aw_ret ?_
  refine aq_ret ?_
  obtain rfl := is_eq h
  exact aq_finx (l := [.tmp 2]) (xs := [.bool (p_impl_within x0 0 30)]) idn [.bool (p_impl_within x0 0 30)] [] rfl (by exact ⟨rfl, trivial⟩) (by exact ⟨ad_ren rfl, trivial⟩) (by exact trivial) rfl (nk rfl) rfl rfl ⟨rfl, rfl⟩
theorem c_impl_areAll_int_1 {x0 : Int} {r : Bool} (h : Is (p_impl_areAll_int_1 x0) r) :
    Scalar Try.prog 67 [.int .i64 x0, .cav (.fn 44 [])] (.bool r) := by
  unfold p_impl_areAll_int_1 at h
  refine ac_enter ⟨8, 0⟩ Try.func67 rfl rfl rfl rfl rfl (fun Γ => ?_)
  refine aw_seq ?_
  refine aw_region ?_
  refine ao_r (r_assign rfl) rfl ?_
  refine ao_nil ?_
  refine aq_then ?_
  refine aw_seq ?_
  refine aw_region ?_
  refine ao_r (r_load_cav Try.isAgg72 rfl) rfl ?_
  refine ao_r (r_move rfl) rfl ?_
  refine ao_scall trivial (scall (c_impl_isFace (is_mk (rfl : p_impl_isFace x0 = _))) rfl Try.func44 rfl rfl rfl rfl (fun σ => ⟨ad_ren rfl, trivial⟩)) rfl ?_
  refine ao_r (r_not rfl) rfl ?_
  refine ao_r (r_assign rfl) rfl ?_
  refine ao_nil ?_
  refine aq_then ?_
  refine aw_ret ?_
  refine aq_ret ?_
  obtain rfl := is_eq h
  exact aq_finx (l := [.tmp 3]) (xs := [.bool (!(p_impl_isFace x0))]) idn [.bool (!(p_impl_isFace x0))] [] rfl (by exact ⟨rfl, trivial⟩) (by exact ⟨ad_ren rfl, trivial⟩) (by exact trivial) rfl (nk rfl) rfl rfl ⟨rfl, rfl⟩
theorem c_slices_IndexFunc_int_int {x0 : dy9} {r : Int} (h : Is (p_slices_IndexFunc_int_int x0) r) :
    Scalar Try.prog 79 [.v ty3 x0, .fn 67 [.cav (.fn 44 [])]] (.int .i64 r) := by
  unfold p_slices_IndexFunc_int_int at h
  refine ac_enter ⟨19, 0⟩ Try.func79 rfl rfl rfl rfl rfl (fun Γ => ?_)
  refine sl_len_m 0 (x0.length : Int) rfl rfl (fun hl0 => ?_)
  refine aw_seq ?_
  refine aw_region ?_
  refine ao_r (r_assign rfl) rfl ?_
  refine ao_nil ?_
  refine aq_then ?_
  refine aw_seq ?_
  refine aw_seq ?_
  refine aw_region ?_
  refine ao_r (r_move rfl) rfl ?_
  refine ao_r (r_len_vm (x0.length : Int) Try.underlying32 rfl rfl) rfl ?_
  refine ao_r (r_move rfl) rfl ?_
  refine ao_nil ?_
  refine aq_then ?_
  refine aw_block ?_
  refine aw_loop (AL.sub (fr' := [(0, .v ty3 x0), (1, .fn 67 [.cav (.fn 44 [])]), (7, .int .i64 (x0.length : Int)), (8, .int .i64 0)]) (H' := []) (sub_r1 idn (nk rfl) (by kernel_rfl)) (al_cnt (fun i2 (s1 : Unit) => [(0, .v ty3 x0), (1, .fn 67 [.cav (.fn 44 [])]), (7, .int .i64 (x0.length : Int)), (8, .int .i64 i2)]) (fun i2 (s1 : Unit) => []) (fun d i2 (s1 : Unit) => d = Int.toNat ((x0.length : Int) - i2) ∧ 0 ≤ i2 ∧ i2 ≤ (x0.length : Int)) h ⟨rfl, (by (try simp only [List.length_set, List.length_append, List.length_cons, List.length_nil, List.length_replicate, List.length_take, List.length_drop]) <;> omega), (by (try simp only [List.length_set, List.length_append, List.length_cons, List.length_nil, List.length_replicate, List.length_take, List.length_drop]) <;> omega)⟩ (fun d3 i2 s1 hI h ih3 => ?_)))
  obtain ⟨hd, _, _⟩ := hI
  refine al_round ?_
  refine aw_seq ?_
  refine aw_region ?_
  refine ao_r (r_lss rfl rfl) rfl ?_
  refine ao_nil ?_
  refine aq_then ?_
  refine aw_seq ?_
  refine aw_cond rfl (fun hb5 => ?_) (fun hb5 => ?_)
  have q6 := d_t hb5
  obtain ⟨d3, rfl⟩ : ∃ e, d3 = e + 1 := ⟨d3 - 1, by omega⟩
  replace h := is_cntS h
  refine aw_skip ?_
  refine aq_then ?_
  refine aw_seq ?_
  refine aw_block ?_
  refine aw_seq ?_
  refine aw_region ?_
  refine ao_r (r_move rfl) rfl ?_
  refine ao_r (r_assign rfl) rfl ?_
  refine ao_nil ?_
  refine aq_then ?_
  refine aw_seq ?_
  refine aw_region ?_
  refine ao_r (r_move rfl) rfl ?_
  refine ao_r (r_move rfl) rfl ?_
  refine ao_r (r_move rfl) rfl ?_
  refine ao_r (r_idxAddr_int Try.underlying32 Try.sizeOf3 rfl rfl (show 0 ≤ i2 from by omega) (show i2 < (x0.length : Int) from by omega)) rfl ?_
  refine ao_r (r_load_c_int Try.isAgg3 Try.sizeOf3 rfl) rfl ?_
  refine ao_scall trivial (scall (c_impl_areAll_int_1 (is_mk (rfl : p_impl_areAll_int_1 (x0.getD i2.toNat 0) = _))) rfl Try.func67 rfl rfl rfl rfl (fun σ => ⟨ad_ren rfl, ad_ren rfl, trivial⟩)) rfl ?_
  refine ao_nil ?_
  refine aq_then ?_
  refine aw_cond rfl (fun hb8 => ?_) (fun hb8 => ?_)
  replace h := is_if hb8 h
  refine aw_seq ?_
  refine aw_region ?_
  refine ao_r (r_move rfl) rfl ?_
  refine ao_r (r_assign rfl) rfl ?_
  refine ao_nil ?_
  refine aq_then ?_
  refine aw_ret ?_
  refine aq_in_ret ?_
  refine aq_then_ret ?_
  refine aq_then_ret ?_
  refine aq_in_ret ?_
  refine aq_then_ret ?_
  refine aq_ret ?_
  obtain rfl := is_eq h
  exact aq_finx (l := [.tmp 4]) (xs := [.int .i64 i2]) idn [.int .i64 i2] [] rfl (by exact ⟨rfl, trivial⟩) (by exact ⟨ad_ren rfl, trivial⟩) (by exact trivial) rfl (nk rfl) rfl rfl ⟨rfl, rfl⟩
  replace h := is_else (ne_t hb8) h
  refine aw_skip ?_
  refine aq_in ?_
  refine aq_then ?_
  refine aw_region ?_
  refine ao_r (r_addI rfl rfl (wrap_id (by omega) (by omega))) rfl ?_
  refine ao_r (r_move rfl) rfl ?_
  refine ao_nil ?_
  exact aq_again (AL.sub (sub_r1 idn (nk rfl) (by kernel_rfl)) (ih3 d3 (i2 + 1) () (by omega) ⟨by omega, (by (try simp only [List.length_set, List.length_append, List.length_cons, List.length_nil, List.length_replicate, List.length_take, List.length_drop]) <;> omega), (by (try simp only [List.length_set, List.length_append, List.length_cons, List.length_nil, List.length_replicate, List.length_take, List.length_drop]) <;> omega)⟩ h))
  have q7 := d_f hb5
  obtain rfl : d3 = 0 := by omega
  replace h := is_cnt0 h
  refine aw_exit ?_
  refine aq_then_exit ?_
  refine aq_then_exit ?_
  refine aq_in_exit ?_
  refine aq_then ?_
  refine aw_seq ?_
  refine aw_region ?_
  refine ao_r (r_assign rfl) rfl ?_
  refine ao_nil ?_
  refine aq_then ?_
  refine aw_ret ?_
  refine aq_ret ?_
  obtain rfl := is_eq h
  exact aq_finx (l := [.tmp 4]) (xs := [.int .i64 (-1)]) idn [.int .i64 (-1)] [] rfl (by exact ⟨rfl, trivial⟩) (by exact ⟨ad_ren rfl, trivial⟩) (by exact trivial) rfl (nk rfl) rfl rfl ⟨rfl, rfl⟩
theorem c_slices_ContainsFunc_int_int {x0 : dy9} {r : Bool} (h : Is (p_slices_ContainsFunc_int_int x0) r) :
    Scalar Try.prog 66 [.v ty3 x0, .fn 67 [.cav (.fn 44 [])]] (.bool r) := by
  unfold p_slices_ContainsFunc_int_int at h
  refine ac_enter ⟨9, 0⟩ Try.func66 rfl rfl rfl rfl rfl (fun Γ => ?_)
  refine sl_len_m 0 (x0.length : Int) rfl rfl (fun hl0 => ?_)
  refine aw_seq ?_
  refine aw_region ?_
  refine ao_r (r_assign rfl) rfl ?_
  refine ao_nil ?_
  refine aq_then ?_
  refine aw_seq ?_
  refine aw_region ?_
  refine ao_r (r_move rfl) rfl ?_
  refine ao_r (r_move rfl) rfl ?_
  refine ao_scall trivial (scall (c_slices_IndexFunc_int_int (is_mk (rfl : p_slices_IndexFunc_int_int x0 = _))) rfl Try.func79 rfl rfl rfl rfl (fun σ => ⟨ad_ren rfl, ad_ren rfl, trivial⟩)) rfl ?_
  refine ao_r (r_geq rfl rfl) rfl ?_
  refine ao_r (r_assign rfl) rfl ?_
  refine ao_nil ?_
  refine aq_then ?_
  refine aw_ret ?_
  refine aq_ret ?_
  obtain rfl := is_eq h
  exact aq_finx (l := [.tmp 4]) (xs := [.bool (decide (0 ≤ (p_slices_IndexFunc_int_int x0)))]) idn [.bool (decide (0 ≤ (p_slices_IndexFunc_int_int x0)))] [] rfl (by exact ⟨rfl, trivial⟩) (by exact ⟨ad_ren rfl, trivial⟩) (by exact trivial) rfl (nk rfl) rfl rfl ⟨rfl, rfl⟩
theorem c_impl_areAll_int {x0 : dy9} {r : Bool} (h : Is (p_impl_areAll_int x0) r) :
    Scalar Try.prog 43 [.v ty3 x0, .fn 44 []] (.bool r) := by
  unfold p_impl_areAll_int at h
  refine ac_enter ⟨9, 0⟩ Try.func43 rfl rfl rfl rfl rfl (fun Γ => ?_)
  refine sl_len_m 0 (x0.length : Int) rfl rfl (fun hl0 => ?_)
  refine aw_seq ?_
  refine aw_region ?_
  refine ao_eff trivial (e_box 0 rfl rfl rfl rfl rfl rfl) rfl ?_
  refine ao_r (r_assign rfl) rfl ?_
  refine ao_nil ?_
  refine aq_then ?_
  refine aw_seq ?_
  refine aw_region ?_
  refine ao_r (r_move rfl) rfl ?_
  refine ao_r (r_makeFunc (cs := [.tmp 3]) rfl) rfl ?_
  refine ao_scall trivial (scall (c_slices_ContainsFunc_int_int (is_mk (rfl : p_slices_ContainsFunc_int_int x0 = _))) rfl Try.func66 rfl rfl rfl rfl (fun σ => ⟨ad_ren rfl, ad_fn ⟨ad_refc0 rfl rfl (ad_ren rfl) rfl, trivial⟩, trivial⟩)) rfl ?_
  refine ao_r (r_not rfl) rfl ?_
  refine ao_r (r_assign rfl) rfl ?_
  refine ao_nil ?_
  refine aq_then ?_
  refine aw_ret ?_
  refine aq_ret ?_
  obtain rfl := is_eq h
  exact aq_finx (l := [.tmp 4]) (xs := [.bool (!(p_slices_ContainsFunc_int_int x0))]) idn [.bool (!(p_slices_ContainsFunc_int_int x0))] [] rfl (by exact ⟨rfl, trivial⟩) (by exact ⟨ad_ren rfl, trivial⟩) (by exact trivial) rfl (nk rfl) rfl rfl ⟨rfl, rfl⟩
theorem c_cmp_isNaN_int {x0 : Int} {r : Bool} (h : Is (p_cmp_isNaN_int x0) r) :
    Scalar Try.prog 85 [.int .i64 x0] (.bool r) := by
  unfold p_cmp_isNaN_int at h
  refine ac_enter ⟨6, 0⟩ Try.func85 rfl rfl rfl rfl rfl (fun Γ => ?_)
  refine aw_seq ?_
  refine aw_region ?_
  refine ao_r (r_assign rfl) rfl ?_
  refine ao_nil ?_
  refine aq_then ?_
  refine aw_seq ?_
  refine aw_region ?_
  refine ao_r (r_move rfl) rfl ?_
  refine ao_r (r_move rfl) rfl ?_
  refine ao_r (r_neq rfl rfl) rfl ?_
  refine ao_r (r_assign rfl) rfl ?_
  refine ao_nil ?_
  refine aq_then ?_
  refine aw_ret ?_
  refine aq_ret ?_
  obtain rfl := is_eq h
  exact aq_finx (l := [.tmp 2]) (xs := [.bool (!(decide (x0 = x0)))]) idn [.bool (!(decide (x0 = x0)))] [] rfl (by exact ⟨rfl, trivial⟩) (by exact ⟨ad_ren rfl, trivial⟩) (by exact trivial) rfl (nk rfl) rfl rfl ⟨rfl, rfl⟩
theorem c_cmp_Less_int {x0 : Int} {x1 : Int} {r : Bool} (h : Is (p_cmp_Less_int x0 x1) r) :
    Scalar Try.prog 82 [.int .i64 x0, .int .i64 x1] (.bool r) := by
  unfold p_cmp_Less_int at h
  refine ac_enter ⟨17, 0⟩ Try.func82 rfl rfl rfl rfl rfl (fun Γ => ?_)
  refine aw_seq ?_
  refine aw_region ?_
  refine ao_r (r_assign rfl) rfl ?_
  refine ao_nil ?_
  refine aq_then ?_
  refine aw_seq ?_
  refine aw_region ?_
  refine ao_r (r_move rfl) rfl ?_
  refine ao_scall trivial (scall (c_cmp_isNaN_int (is_mk (rfl : p_cmp_isNaN_int x0 = _))) rfl Try.func85 rfl rfl rfl rfl (fun σ => ⟨ad_ren rfl, trivial⟩)) rfl ?_
  refine ao_r (r_move rfl) rfl ?_
  refine ao_readG (x := .int .i64 x1) rfl (GV.T rfl) (fun hg1 => r_move rfl) rfl ?_
  refine ao_scallG (r := .bool (p_cmp_isNaN_int x1)) rfl (GV.T rfl) (fun hg2 => SCall.strip 8 rfl (hg2) (scall (c_cmp_isNaN_int (is_mk (rfl : p_cmp_isNaN_int x1 = _))) rfl Try.func85 rfl rfl rfl rfl (fun σ => ⟨ad_ren rfl, trivial⟩))) rfl ?_
  refine ao_readG (x := .bool (!(p_cmp_isNaN_int x1))) rfl (GV.T rfl) (fun hg3 => Reads.strip 9 rfl (hg3) (r_not rfl)) rfl ?_
  refine ao_r (r_andB rfl rfl) rfl ?_
  refine ao_r (r_move rfl) rfl ?_
  refine ao_readG (x := .int .i64 x0) rfl (GV.F rfl) (fun hg4 => r_move rfl) rfl ?_
  refine ao_readG (x := .int .i64 x1) rfl (GV.F rfl) (fun hg5 => r_move rfl) rfl ?_
  refine ao_readG (x := .bool (decide (x0 < x1))) rfl (GV.F rfl) (fun hg6 => Reads.strip 13 rfl (hg6) (Reads.strip 14 rfl (hg6) (r_lss rfl rfl))) rfl ?_
  refine ao_r (r_orB rfl rfl) rfl ?_
  refine ao_r (r_assign rfl) rfl ?_
  refine ao_nil ?_
  refine aq_then ?_
  refine aw_ret ?_
  refine aq_ret ?_
  obtain rfl := is_eq h
  exact aq_finx (l := [.tmp 4]) (xs := [.bool (((p_cmp_isNaN_int x0) && (!(p_cmp_isNaN_int x1))) || (decide (x0 < x1)))]) idn [.bool (((p_cmp_isNaN_int x0) && (!(p_cmp_isNaN_int x1))) || (decide (x0 < x1)))] [] rfl (by exact ⟨rfl, trivial⟩) (by exact ⟨ad_ren rfl, trivial⟩) (by exact trivial) rfl (nk rfl) rfl rfl ⟨rfl, rfl⟩
theorem c_slices_IsSorted_int_int {x0 : dy9} {r : Bool} (h : Is (p_slices_IsSorted_int_int x0) r) :
    Scalar Try.prog 78 [.v ty3 x0] (.bool r) := by
  unfold p_slices_IsSorted_int_int at h
  refine ac_enter ⟨21, 0⟩ Try.func78 rfl rfl rfl rfl rfl (fun Γ => ?_)
  refine sl_len_m 0 (x0.length : Int) rfl rfl (fun hl0 => ?_)
  refine aw_seq ?_
  refine aw_region ?_
  refine ao_r (r_assign rfl) rfl ?_
  refine ao_nil ?_
  refine aq_then ?_
  refine aw_seq ?_
  refine aw_seq ?_
  refine aw_region ?_
  refine ao_r (r_move rfl) rfl ?_
  refine ao_r (r_len_vm (x0.length : Int) Try.underlying32 rfl rfl) rfl ?_
  refine ao_r (r_subI rfl rfl (wrap_id (by omega) (by omega))) rfl ?_
  refine ao_r (r_assign rfl) rfl ?_
  refine ao_nil ?_
  refine aq_then ?_
  refine aw_block ?_
  refine aw_loop (AL.sub (fr' := [(0, .v ty3 x0), (3, .int .i64 ((x0.length : Int) - 1))]) (H' := []) (sub_r1 idn (nk rfl) (by kernel_rfl)) (al_cntd (fun i2 (s1 : Unit) => [(0, .v ty3 x0), (3, .int .i64 i2)]) (fun i2 (s1 : Unit) => []) (fun d i2 (s1 : Unit) => d = Int.toNat (i2 - 0) ∧ i2 ≤ ((x0.length : Int) - 1)) h ⟨rfl, (by (try simp only [List.length_set, List.length_append, List.length_cons, List.length_nil, List.length_replicate, List.length_take, List.length_drop]) <;> omega)⟩ (fun d3 i2 s1 hI h ih3 => ?_)))
  obtain ⟨hd, _⟩ := hI
  refine al_round ?_
  refine aw_seq ?_
  refine aw_seq ?_
  refine aw_region ?_
  refine ao_r (r_move rfl) rfl ?_
  refine ao_r (r_gtr rfl rfl) rfl ?_
  refine ao_nil ?_
  refine aq_then ?_
  refine aw_cond rfl (fun hb5 => ?_) (fun hb5 => ?_)
  have q6 := d_t hb5
  obtain ⟨d3, rfl⟩ : ∃ e, d3 = e + 1 := ⟨d3 - 1, by omega⟩
  replace h := is_cntdS h
  refine aw_skip ?_
  refine aq_then ?_
  refine aw_seq ?_
  refine aw_block ?_
  refine aw_seq ?_
  refine aw_drawAll (by kernel_rfl) ?_
  refine an_r 0 (fun _ _ _ h => h) rfl (by kernel_rfl) (r_move rfl) rfl ?_
  refine an_r 1 (fun _ _ _ h => h) rfl (by kernel_rfl) (r_move rfl) rfl ?_
  refine an_r 2 (fun _ _ _ h => h) rfl (by kernel_rfl) (r_idxAddr_int Try.underlying32 Try.sizeOf3 rfl rfl (show 0 ≤ i2 from by omega) (show i2 < (x0.length : Int) from by omega)) rfl ?_
  refine an_r 3 (fun _ _ _ h => h) rfl (by kernel_rfl) (r_load_c_int Try.isAgg3 Try.sizeOf3 rfl) rfl ?_
  refine an_r 4 (fun _ _ _ h => h) rfl (by kernel_rfl) (r_move rfl) rfl ?_
  refine an_r 5 (fun _ _ _ h => h) rfl (by kernel_rfl) (r_move rfl) rfl ?_
  refine an_r 6 (fun _ _ _ h => h) rfl (by kernel_rfl) (r_subI rfl rfl (wrap_id (by omega) (by omega))) rfl ?_
  refine an_r 7 (fun _ _ _ h => h) rfl (by kernel_rfl) (r_idxAddr_int Try.underlying32 Try.sizeOf3 rfl rfl (show 0 ≤ (i2 - 1) from by omega) (show (i2 - 1) < (x0.length : Int) from by omega)) rfl ?_
  refine an_r 8 (fun _ _ _ h => h) rfl (by kernel_rfl) (r_load_c_int Try.isAgg3 Try.sizeOf3 rfl) rfl ?_
  refine an_scall 9 (by kernel_rfl) (fun _ _ _ h => h) rfl (by kernel_rfl) trivial (scall (c_cmp_Less_int (is_mk (rfl : p_cmp_Less_int (x0.getD i2.toNat 0) (x0.getD (i2 - 1).toNat 0) = _))) rfl Try.func82 rfl rfl rfl rfl (fun σ => ⟨ad_ren rfl, ad_ren rfl, trivial⟩)) rfl ?_
  refine an_done rfl ?_
  refine aq_then ?_
  refine aw_cond rfl (fun hb8 => ?_) (fun hb8 => ?_)
  replace h := is_if hb8 h
  refine aw_seq ?_
  refine aw_region ?_
  refine ao_r (r_assign rfl) rfl ?_
  refine ao_nil ?_
  refine aq_then ?_
  refine aw_ret ?_
  refine aq_in_ret ?_
  refine aq_then_ret ?_
  refine aq_then_ret ?_
  refine aq_in_ret ?_
  refine aq_then_ret ?_
  refine aq_ret ?_
  obtain rfl := is_eq h
  exact aq_finx (l := [.tmp 2]) (xs := [.bool false]) idn [.bool false] [] rfl (by exact ⟨rfl, trivial⟩) (by exact ⟨ad_ren rfl, trivial⟩) (by exact trivial) rfl (nk rfl) rfl rfl ⟨rfl, rfl⟩
  replace h := is_else (ne_t hb8) h
  refine aw_skip ?_
  refine aq_in ?_
  refine aq_then ?_
  refine aw_region ?_
  refine ao_r (r_move rfl) rfl ?_
  refine ao_r (r_subI rfl rfl (wrap_id (by omega) (by omega))) rfl ?_
  refine ao_r (r_assign rfl) rfl ?_
  refine ao_nil ?_
  exact aq_again (AL.sub (sub_r1 idn (nk rfl) (by kernel_rfl)) (ih3 d3 (i2 - 1) () (by omega) ⟨by omega, (by (try simp only [List.length_set, List.length_append, List.length_cons, List.length_nil, List.length_replicate, List.length_take, List.length_drop]) <;> omega)⟩ h))
  have q7 := d_f hb5
  obtain rfl : d3 = 0 := by omega
  replace h := is_cntd0 h
  refine aw_exit ?_
  refine aq_then_exit ?_
  refine aq_then_exit ?_
  refine aq_in_exit ?_
  refine aq_then ?_
  refine aw_seq ?_
  refine aw_region ?_
  refine ao_r (r_assign rfl) rfl ?_
  refine ao_nil ?_
  refine aq_then ?_
  refine aw_ret ?_
  refine aq_ret ?_
  obtain rfl := is_eq h
  exact aq_finx (l := [.tmp 2]) (xs := [.bool true]) idn [.bool true] [] rfl (by exact ⟨rfl, trivial⟩) (by exact ⟨ad_ren rfl, trivial⟩) (by exact trivial) rfl (nk rfl) rfl rfl ⟨rfl, rfl⟩
theorem c_impl_IsDie {x0 : dy9} {r : Bool} (h : Is (p_impl_IsDie x0) r) :
    Scalar Try.prog 65 [.v ty4 x0] (.bool r) := by
  unfold p_impl_IsDie at h
  refine ac_enter ⟨9, 0⟩ Try.func65 rfl rfl rfl rfl rfl (fun Γ => ?_)
  refine aw_seq ?_
  refine aw_region ?_
  refine ao_eff trivial (e_box 0 rfl rfl rfl rfl rfl rfl) rfl ?_
  refine ao_r (r_assign rfl) rfl ?_
  refine ao_nil ?_
  refine aq_then ?_
  refine aw_seq ?_
  refine aw_region ?_
  refine ao_r (r_slice_arr Try.underlying81 Try.sizeOf3 rfl .none .none (by omega) (by omega) (by omega)) rfl ?_
  refine ao_scall trivial (scall (c_impl_areAll_int (is_mk (rfl : p_impl_areAll_int x0 = _))) rfl Try.func43 rfl rfl rfl rfl (fun σ => ⟨ad_viewf0 rfl rfl rfl rfl rfl, ad_ren rfl, trivial⟩)) rfl ?_
  refine ao_r (r_move rfl) rfl ?_
  refine ao_readG (x := .view 0 0 1 0 6) rfl (GV.T rfl) (fun hg1 => r_slice_arr Try.underlying81 Try.sizeOf3 rfl .none .none (by omega) (by omega) (by omega)) rfl ?_
  refine ao_scallG (r := .bool (p_slices_IsSorted_int_int x0)) rfl (GV.T rfl) (fun hg2 => SCall.strip 6 rfl (hg2) (scall (c_slices_IsSorted_int_int (is_mk (rfl : p_slices_IsSorted_int_int x0 = _))) rfl Try.func78 rfl rfl rfl rfl (fun σ => ⟨ad_viewf0 rfl rfl rfl rfl rfl, trivial⟩))) rfl ?_
  refine ao_r (r_andB rfl rfl) rfl ?_
  refine ao_r (r_assign rfl) rfl ?_
  refine ao_nil ?_
  refine aq_then ?_
  refine aw_ret ?_
  refine aq_ret ?_
  obtain rfl := is_eq h
  exact aq_finx (l := [.tmp 2]) (xs := [.bool ((p_impl_areAll_int x0) && (p_slices_IsSorted_int_int x0))]) idn [.bool ((p_impl_areAll_int x0) && (p_slices_IsSorted_int_int x0))] [] rfl (by exact ⟨rfl, trivial⟩) (by exact ⟨ad_ren rfl, trivial⟩) (by exact trivial) rfl (nk rfl) rfl rfl ⟨rfl, rfl⟩
theorem c_impl_areAll_6_int_1 {x0 : dy9} {r : Bool} (h : Is (p_impl_areAll_6_int_1 x0) r) :
    Scalar Try.prog 77 [.v ty4 x0, .cav (.fn 65 [])] (.bool r) := by
  unfold p_impl_areAll_6_int_1 at h
  refine ac_enter ⟨8, 0⟩ Try.func77 rfl rfl rfl rfl rfl (fun Γ => ?_)
  refine aw_seq ?_
  refine aw_region ?_
  refine ao_eff trivial (e_box 0 rfl rfl rfl rfl rfl rfl) rfl ?_
  refine ao_r (r_assign rfl) rfl ?_
  refine ao_nil ?_
  refine aq_then ?_
  refine aw_seq ?_
  refine aw_region ?_
  refine ao_r (r_load_cav Try.isAgg82 rfl) rfl ?_
  refine ao_r (r_load_arr rfl Try.isAgg81 Try.sizeOf81 rfl rfl rfl) rfl ?_
  refine ao_scall trivial (scall (c_impl_IsDie (is_mk (rfl : p_impl_IsDie x0 = _))) rfl Try.func65 rfl rfl rfl rfl (fun σ => ⟨ad_ren rfl, trivial⟩)) rfl ?_
  refine ao_r (r_not rfl) rfl ?_
  refine ao_r (r_assign rfl) rfl ?_
  refine ao_nil ?_
  refine aq_then ?_
  refine aw_ret ?_
  refine aq_ret ?_
  obtain rfl := is_eq h
  exact aq_finx (l := [.tmp 3]) (xs := [.bool (!(p_impl_IsDie x0))]) idn [.bool (!(p_impl_IsDie x0))] [] rfl (by exact ⟨rfl, trivial⟩) (by exact ⟨ad_ren rfl, trivial⟩) (by exact trivial) rfl (nk rfl) rfl rfl ⟨rfl, rfl⟩
theorem c_slices_IndexFunc_6_int_6_int {x0 : dy7} {r : Int} (h : Is (p_slices_IndexFunc_6_int_6_int x0) r) :
    Scalar Try.prog 81 [.v ty2 x0, .fn 77 [.cav (.fn 65 [])]] (.int .i64 r) := by
  unfold p_slices_IndexFunc_6_int_6_int at h
  refine ac_enter ⟨19, 0⟩ Try.func81 rfl rfl rfl rfl rfl (fun Γ => ?_)
  refine sl_len_m 0 (x0.length : Int) rfl rfl (fun hl0 => ?_)
  refine aw_seq ?_
  refine aw_region ?_
  refine ao_r (r_assign rfl) rfl ?_
  refine ao_nil ?_
  refine aq_then ?_
  refine aw_seq ?_
  refine aw_seq ?_
  refine aw_region ?_
  refine ao_r (r_move rfl) rfl ?_
  refine ao_r (r_len_vm (x0.length : Int) Try.underlying24 rfl rfl) rfl ?_
  refine ao_r (r_move rfl) rfl ?_
  refine ao_nil ?_
  refine aq_then ?_
  refine aw_block ?_
  refine aw_loop (AL.sub (fr' := [(0, .v ty2 x0), (1, .fn 77 [.cav (.fn 65 [])]), (7, .int .i64 (x0.length : Int)), (8, .int .i64 0)]) (H' := []) (sub_r1 idn (nk rfl) (by kernel_rfl)) (al_cnt (fun i2 (s1 : Unit) => [(0, .v ty2 x0), (1, .fn 77 [.cav (.fn 65 [])]), (7, .int .i64 (x0.length : Int)), (8, .int .i64 i2)]) (fun i2 (s1 : Unit) => []) (fun d i2 (s1 : Unit) => d = Int.toNat ((x0.length : Int) - i2) ∧ 0 ≤ i2 ∧ i2 ≤ (x0.length : Int)) h ⟨rfl, (by (try simp only [List.length_set, List.length_append, List.length_cons, List.length_nil, List.length_replicate, List.length_take, List.length_drop]) <;> omega), (by (try simp only [List.length_set, List.length_append, List.length_cons, List.length_nil, List.length_replicate, List.length_take, List.length_drop]) <;> omega)⟩ (fun d3 i2 s1 hI h ih3 => ?_)))
  obtain ⟨hd, _, _⟩ := hI
  refine al_round ?_
  refine aw_seq ?_
  refine aw_region ?_
  refine ao_r (r_lss rfl rfl) rfl ?_
  refine ao_nil ?_
  refine aq_then ?_
  refine aw_seq ?_
  refine aw_cond rfl (fun hb5 => ?_) (fun hb5 => ?_)
  have q6 := d_t hb5
  obtain ⟨d3, rfl⟩ : ∃ e, d3 = e + 1 := ⟨d3 - 1, by omega⟩
  replace h := is_cntS h
  refine aw_skip ?_
  refine aq_then ?_
  refine aw_seq ?_
  refine aw_block ?_
  refine aw_seq ?_
  refine aw_region ?_
  refine ao_r (r_move rfl) rfl ?_
  refine ao_r (r_assign rfl) rfl ?_
  refine ao_nil ?_
  refine aq_then ?_
  refine aw_seq ?_
  refine aw_region ?_
  refine ao_r (r_move rfl) rfl ?_
  refine ao_r (r_move rfl) rfl ?_
  refine ao_r (r_move rfl) rfl ?_
  refine ao_r (r_idxAddr (t := ty4) Try.underlying24 Try.sizeOf81 rfl rfl (show 0 ≤ i2 from by omega) (show i2 < (x0.length : Int) from by omega)) rfl ?_
  refine ao_r (r_load_c (t := ty4) Try.isAgg81 Try.sizeOf81 rfl) rfl ?_
  refine ao_scall trivial (scall (c_impl_areAll_6_int_1 (is_mk (rfl : p_impl_areAll_6_int_1 (x0.getD i2.toNat (List.replicate 6 0)) = _))) rfl Try.func77 rfl rfl rfl rfl (fun σ => ⟨ad_ren rfl, ad_ren rfl, trivial⟩)) rfl ?_
  refine ao_nil ?_
  refine aq_then ?_
  refine aw_cond rfl (fun hb8 => ?_) (fun hb8 => ?_)
  replace h := is_if hb8 h
  refine aw_seq ?_
  refine aw_region ?_
  refine ao_r (r_move rfl) rfl ?_
  refine ao_r (r_assign rfl) rfl ?_
  refine ao_nil ?_
  refine aq_then ?_
  refine aw_ret ?_
  refine aq_in_ret ?_
  refine aq_then_ret ?_
  refine aq_then_ret ?_
  refine aq_in_ret ?_
  refine aq_then_ret ?_
  refine aq_ret ?_
  obtain rfl := is_eq h
  exact aq_finx (l := [.tmp 4]) (xs := [.int .i64 i2]) idn [.int .i64 i2] [] rfl (by exact ⟨rfl, trivial⟩) (by exact ⟨ad_ren rfl, trivial⟩) (by exact trivial) rfl (nk rfl) rfl rfl ⟨rfl, rfl⟩
  replace h := is_else (ne_t hb8) h
  refine aw_skip ?_
  refine aq_in ?_
  refine aq_then ?_
  refine aw_region ?_
  refine ao_r (r_addI rfl rfl (wrap_id (by omega) (by omega))) rfl ?_
  refine ao_r (r_move rfl) rfl ?_
  refine ao_nil ?_
  exact aq_again (AL.sub (sub_r1 idn (nk rfl) (by kernel_rfl)) (ih3 d3 (i2 + 1) () (by omega) ⟨by omega, (by (try simp only [List.length_set, List.length_append, List.length_cons, List.length_nil, List.length_replicate, List.length_take, List.length_drop]) <;> omega), (by (try simp only [List.length_set, List.length_append, List.length_cons, List.length_nil, List.length_replicate, List.length_take, List.length_drop]) <;> omega)⟩ h))
  have q7 := d_f hb5
  obtain rfl : d3 = 0 := by omega
  replace h := is_cnt0 h
  refine aw_exit ?_
  refine aq_then_exit ?_
  refine aq_then_exit ?_
  refine aq_in_exit ?_
  refine aq_then ?_
  refine aw_seq ?_
  refine aw_region ?_
  refine ao_r (r_assign rfl) rfl ?_
  refine ao_nil ?_
  refine aq_then ?_
  refine aw_ret ?_
  refine aq_ret ?_
  obtain rfl := is_eq h
  exact aq_finx (l := [.tmp 4]) (xs := [.int .i64 (-1)]) idn [.int .i64 (-1)] [] rfl (by exact ⟨rfl, trivial⟩) (by exact ⟨ad_ren rfl, trivial⟩) (by exact trivial) rfl (nk rfl) rfl rfl ⟨rfl, rfl⟩
theorem c_slices_ContainsFunc_6_int_6_int {x0 : dy7} {r : Bool} (h : Is (p_slices_ContainsFunc_6_int_6_int x0) r) :
    Scalar Try.prog 76 [.v ty2 x0, .fn 77 [.cav (.fn 65 [])]] (.bool r) := by
  unfold p_slices_ContainsFunc_6_int_6_int at h
  refine ac_enter ⟨9, 0⟩ Try.func76 rfl rfl rfl rfl rfl (fun Γ => ?_)
  refine sl_len_m 0 (x0.length : Int) rfl rfl (fun hl0 => ?_)
  refine aw_seq ?_
  refine aw_region ?_
  refine ao_r (r_assign rfl) rfl ?_
  refine ao_nil ?_
  refine aq_then ?_
  refine aw_seq ?_
  refine aw_region ?_
  refine ao_r (r_move rfl) rfl ?_
  refine ao_r (r_move rfl) rfl ?_
  refine ao_scall trivial (scall (c_slices_IndexFunc_6_int_6_int (is_mk (rfl : p_slices_IndexFunc_6_int_6_int x0 = _))) rfl Try.func81 rfl rfl rfl rfl (fun σ => ⟨ad_ren rfl, ad_ren rfl, trivial⟩)) rfl ?_
  refine ao_r (r_geq rfl rfl) rfl ?_
  refine ao_r (r_assign rfl) rfl ?_
  refine ao_nil ?_
  refine aq_then ?_
  refine aw_ret ?_
  refine aq_ret ?_
  obtain rfl := is_eq h
  exact aq_finx (l := [.tmp 4]) (xs := [.bool (decide (0 ≤ (p_slices_IndexFunc_6_int_6_int x0)))]) idn [.bool (decide (0 ≤ (p_slices_IndexFunc_6_int_6_int x0)))] [] rfl (by exact ⟨rfl, trivial⟩) (by exact ⟨ad_ren rfl, trivial⟩) (by exact trivial) rfl (nk rfl) rfl rfl ⟨rfl, rfl⟩
theorem c_impl_areAll_6_int {x0 : dy7} {r : Bool} (h : Is (p_impl_areAll_6_int x0) r) :
    Scalar Try.prog 64 [.v ty2 x0, .fn 65 []] (.bool r) := by
  unfold p_impl_areAll_6_int at h
  refine ac_enter ⟨9, 0⟩ Try.func64 rfl rfl rfl rfl rfl (fun Γ => ?_)
  refine sl_len_m 0 (x0.length : Int) rfl rfl (fun hl0 => ?_)
  refine aw_seq ?_
  refine aw_region ?_
  refine ao_eff trivial (e_box 0 rfl rfl rfl rfl rfl rfl) rfl ?_
  refine ao_r (r_assign rfl) rfl ?_
  refine ao_nil ?_
  refine aq_then ?_
  refine aw_seq ?_
  refine aw_region ?_
  refine ao_r (r_move rfl) rfl ?_
  refine ao_r (r_makeFunc (cs := [.tmp 3]) rfl) rfl ?_
  refine ao_scall trivial (scall (c_slices_ContainsFunc_6_int_6_int (is_mk (rfl : p_slices_ContainsFunc_6_int_6_int x0 = _))) rfl Try.func76 rfl rfl rfl rfl (fun σ => ⟨ad_ren rfl, ad_fn ⟨ad_refc0 rfl rfl (ad_ren rfl) rfl, trivial⟩, trivial⟩)) rfl ?_
  refine ao_r (r_not rfl) rfl ?_
  refine ao_r (r_assign rfl) rfl ?_
  refine ao_nil ?_
  refine aq_then ?_
  refine aw_ret ?_
  refine aq_ret ?_
  obtain rfl := is_eq h
  exact aq_finx (l := [.tmp 4]) (xs := [.bool (!(p_slices_ContainsFunc_6_int_6_int x0))]) idn [.bool (!(p_slices_ContainsFunc_6_int_6_int x0))] [] rfl (by exact ⟨rfl, trivial⟩) (by exact ⟨ad_ren rfl, trivial⟩) (by exact trivial) rfl (nk rfl) rfl rfl ⟨rfl, rfl⟩
theorem c_impl_IsPool {x0 : dy7} {r : Bool} (h : Is (p_impl_IsPool x0) r) :
    Scalar Try.prog 41 [.v ty2 x0] (.bool r) := by
  unfold p_impl_IsPool at h
  refine ac_enter ⟨10, 0⟩ Try.func41 rfl rfl rfl rfl rfl (fun Γ => ?_)
  refine sl_len_m 0 (x0.length : Int) rfl rfl (fun hl0 => ?_)
  refine aw_seq ?_
  refine aw_region ?_
  refine ao_r (r_assign rfl) rfl ?_
  refine ao_nil ?_
  refine aq_then ?_
  refine aw_seq ?_
  refine aw_region ?_
  refine ao_r (r_move rfl) rfl ?_
  refine ao_r (r_len_vm (x0.length : Int) Try.underlying24 rfl rfl) rfl ?_
  refine ao_scall trivial (scall (c_impl_within (is_mk (rfl : p_impl_within (x0.length : Int) 1 4 = _))) rfl Try.func36 rfl rfl rfl rfl (fun σ => ⟨ad_ren rfl, ad_ren rfl, ad_ren rfl, trivial⟩)) rfl ?_
  refine ao_r (r_move rfl) rfl ?_
  refine ao_readG (x := .v ty2 x0) rfl (GV.T rfl) (fun hg1 => r_move rfl) rfl ?_
  refine ao_scallG (r := .bool (p_impl_areAll_6_int x0)) rfl (GV.T rfl) (fun hg2 => SCall.strip 7 rfl (hg2) (scall (c_impl_areAll_6_int (is_mk (rfl : p_impl_areAll_6_int x0 = _))) rfl Try.func64 rfl rfl rfl rfl (fun σ => ⟨ad_ren rfl, ad_ren rfl, trivial⟩))) rfl ?_
  refine ao_r (r_andB rfl rfl) rfl ?_
  refine ao_r (r_assign rfl) rfl ?_
  refine ao_nil ?_
  refine aq_then ?_
  refine aw_ret ?_
  refine aq_ret ?_
  obtain rfl := is_eq h
  exact aq_finx (l := [.tmp 2]) (xs := [.bool ((p_impl_within (x0.length : Int) 1 4) && (p_impl_areAll_6_int x0))]) idn [.bool ((p_impl_within (x0.length : Int) 1 4) && (p_impl_areAll_6_int x0))] [] rfl (by exact ⟨rfl, trivial⟩) (by exact ⟨ad_ren rfl, trivial⟩) (by exact trivial) rfl (nk rfl) rfl rfl ⟨rfl, rfl⟩
theorem c_impl_IsGoal {x0 : dy5} {r : Bool} (h : Is (p_impl_IsGoal x0) r) :
    Scalar Try.prog 17 [.v ty1 x0] (.bool r) := by
  unfold p_impl_IsGoal at h
  refine ac_enter ⟨22, 0⟩ Try.func17 rfl rfl rfl rfl rfl (fun Γ => ?_)
  refine aw_seq ?_
  refine aw_region ?_
  refine ao_eff trivial (e_box 0 rfl rfl rfl rfl rfl rfl) rfl ?_
  refine ao_r (r_assign rfl) rfl ?_
  refine ao_nil ?_
  refine aq_then ?_
  refine aw_seq ?_
  refine aw_seq ?_
  refine aw_region ?_
  refine ao_r (r_fieldAddr Try.underlying26 rfl Try.sizeOf3 rfl rfl rfl) rfl ?_
  refine ao_r (r_load_cell Try.isAgg3 rfl rfl rfl) rfl ?_
  refine ao_r (r_eql rfl rfl) rfl ?_
  refine ao_r (r_move rfl) rfl ?_
  refine ao_readG (x := .ref 0 0) rfl (GV.F rfl) (fun hg1 => by
        have q2 := d_f (not_t hg1)
        exact r_fieldAddr Try.underlying26 rfl Try.sizeOf3 rfl rfl rfl) rfl ?_
  refine ao_readG (x := .int .i64 x0.1) rfl (GV.F rfl) (fun hg3 => by
        have q4 := d_f (not_t hg3)
        exact Reads.strip 7 rfl (hg3) (r_load_cell Try.isAgg3 rfl rfl rfl)) rfl ?_
  refine ao_readG (x := .bool (decide (x0.1 = 3))) rfl (GV.F rfl) (fun hg5 => by
        have q6 := d_f (not_t hg5)
        exact Reads.strip 8 rfl (hg5) (r_eql rfl rfl)) rfl ?_
  refine ao_r (r_orB rfl rfl) rfl ?_
  refine ao_nil ?_
  refine aq_then ?_
  refine aw_cond rfl (fun hb7 => ?_) (fun hb7 => ?_)
  replace h := is_if hb7 h
  refine aw_seq ?_
  refine aw_region ?_
  refine ao_r (r_fieldAddr Try.underlying26 rfl Try.sizeOf3 rfl rfl rfl) rfl ?_
  refine ao_r (r_load_cell Try.isAgg3 rfl rfl rfl) rfl ?_
  refine ao_scall trivial (scall (c_impl_within (is_mk (rfl : p_impl_within x0.2.1 0 120 = _))) rfl Try.func36 rfl rfl rfl rfl (fun σ => ⟨ad_ren rfl, ad_ren rfl, ad_ren rfl, trivial⟩)) rfl ?_
  refine ao_r (r_assign rfl) rfl ?_
  refine ao_nil ?_
  refine aq_then ?_
  refine aw_ret ?_
  refine aq_then_ret ?_
  refine aq_ret ?_
  obtain rfl := is_eq h
  exact aq_finx (l := [.tmp 2]) (xs := [.bool (p_impl_within x0.2.1 0 120)]) idn [.bool (p_impl_within x0.2.1 0 120)] [] rfl (by exact ⟨rfl, trivial⟩) (by exact ⟨ad_ren rfl, trivial⟩) (by exact trivial) rfl (nk rfl) rfl rfl ⟨rfl, rfl⟩
  obtain ⟨q8, q9⟩ := or_f hb7
  have q10 := d_f q8
  have q11 := d_f q9
  replace h := is_else (ne_t hb7) h
  refine aw_skip ?_
  refine aq_then ?_
  refine aw_seq ?_
  refine aw_region ?_
  refine ao_r (r_fieldAddr Try.underlying26 rfl Try.sizeOf3 rfl rfl rfl) rfl ?_
  refine ao_r (r_load_cell Try.isAgg3 rfl rfl rfl) rfl ?_
  refine ao_scall trivial (scall (c_impl_within (is_mk (rfl : p_impl_within x0.1 1 5 = _))) rfl Try.func36 rfl rfl rfl rfl (fun σ => ⟨ad_ren rfl, ad_ren rfl, ad_ren rfl, trivial⟩)) rfl ?_
  refine ao_r (r_move rfl) rfl ?_
  refine ao_readG (x := .ref 0 1) rfl (GV.T rfl) (fun hg12 => r_fieldAddr Try.underlying26 rfl Try.sizeOf3 rfl rfl rfl) rfl ?_
  refine ao_readG (x := .int .i64 x0.2.1) rfl (GV.T rfl) (fun hg13 => Reads.strip 18 rfl (hg13) (r_load_cell Try.isAgg3 rfl rfl rfl)) rfl ?_
  refine ao_readG (x := .bool (decide (x0.2.1 = 0))) rfl (GV.T rfl) (fun hg14 => Reads.strip 19 rfl (hg14) (r_eql rfl rfl)) rfl ?_
  refine ao_r (r_andB rfl rfl) rfl ?_
  refine ao_r (r_assign rfl) rfl ?_
  refine ao_nil ?_
  refine aq_then ?_
  refine aw_ret ?_
  refine aq_ret ?_
  obtain rfl := is_eq h
  exact aq_finx (l := [.tmp 2]) (xs := [.bool ((p_impl_within x0.1 1 5) && (decide (x0.2.1 = 0)))]) idn [.bool ((p_impl_within x0.1 1 5) && (decide (x0.2.1 = 0)))] [] rfl (by exact ⟨rfl, trivial⟩) (by exact ⟨ad_ren rfl, trivial⟩) (by exact trivial) rfl (nk rfl) rfl rfl ⟨rfl, rfl⟩
theorem c_impl_isAgain {x0 : dy7} {x1 : dy5} {x2 : Int} {x3 : Int} {r : Bool} (h : Is (p_impl_isAgain x0 x1 x2 x3) r) :
    Scalar Try.prog 24 [.v ty2 x0, .v ty1 x1, .int .i64 x2, .int .i64 x3] (.bool r) := by
  unfold p_impl_isAgain at h
  refine ac_enter ⟨25, 0⟩ Try.func24 rfl rfl rfl rfl rfl (fun Γ => ?_)
  refine sl_len_m 0 (x0.length : Int) rfl rfl (fun hl0 => ?_)
  refine aw_seq ?_
  refine aw_region ?_
  refine ao_eff trivial (e_box 0 rfl rfl rfl rfl rfl rfl) rfl ?_
  refine ao_r (r_assign rfl) rfl ?_
  refine ao_nil ?_
  refine aq_then ?_
  refine aw_seq ?_
  refine aw_region ?_
  refine ao_r (r_move rfl) rfl ?_
  refine ao_scall trivial (scall (c_impl_IsPool (is_mk (rfl : p_impl_IsPool x0 = _))) rfl Try.func41 rfl rfl rfl rfl (fun σ => ⟨ad_ren rfl, trivial⟩)) rfl ?_
  refine ao_r (r_move rfl) rfl ?_
  refine ao_readG (x := .v ty2 x0) rfl (GV.T rfl) (fun hg1 => r_move rfl) rfl ?_
  refine ao_readG (x := .int .i64 (x0.length : Int)) rfl (GV.T rfl) (fun hg2 => Reads.strip 12 rfl (hg2) (r_len_vm (x0.length : Int) Try.underlying24 rfl rfl)) rfl ?_
  refine ao_readG (x := .bool (decide ((x0.length : Int) ≤ 3))) rfl (GV.T rfl) (fun hg3 => Reads.strip 13 rfl (hg3) (r_leq rfl rfl)) rfl ?_
  refine ao_r (r_andB rfl rfl) rfl ?_
  refine ao_r (r_move rfl) rfl ?_
  refine ao_readG (x := .v ty1 ((x1.1, (x1.2.1, ())) : dy5)) rfl (GV.T rfl) (fun hg4 => by
        obtain ⟨q5, q6⟩ := and_t hg4
        have q7 := d_t q6
        exact r_load_part (τ := ty1) (y := ((x1.1, (x1.2.1, ())) : dy5)) [] [] rfl Try.isAgg26 Try.sizeOf26 rfl rfl rfl rfl) rfl ?_
  refine ao_scallG (r := .bool (p_impl_IsGoal (x1.1, (x1.2.1, ())))) rfl (GV.T rfl) (fun hg8 => by
        obtain ⟨q9, q10⟩ := and_t hg8
        have q11 := d_t q10
        exact SCall.strip 17 rfl (hg8) (scall (c_impl_IsGoal (is_mk (rfl : p_impl_IsGoal (x1.1, (x1.2.1, ())) = _))) rfl Try.func17 rfl rfl rfl rfl (fun σ => ⟨ad_ren rfl, trivial⟩))) rfl ?_
  refine ao_r (r_andB rfl rfl) rfl ?_
  refine ao_r (r_move rfl) rfl ?_
  refine ao_readG (x := .int .i64 x2) rfl (GV.T rfl) (fun hg12 => by
        obtain ⟨q13, q14⟩ := and_t hg12
        obtain ⟨q15, q16⟩ := and_t q13
        have q17 := d_t q16
        exact r_move rfl) rfl ?_
  refine ao_readG (x := .int .i64 x3) rfl (GV.T rfl) (fun hg18 => by
        obtain ⟨q19, q20⟩ := and_t hg18
        obtain ⟨q21, q22⟩ := and_t q19
        have q23 := d_t q22
        exact r_move rfl) rfl ?_
  refine ao_scallG (r := .bool (p_impl_within x2 x3 2)) rfl (GV.T rfl) (fun hg24 => by
        obtain ⟨q25, q26⟩ := and_t hg24
        obtain ⟨q27, q28⟩ := and_t q25
        have q29 := d_t q28
        exact SCall.strip 21 rfl (hg24) (SCall.strip 22 rfl (hg24) (scall (c_impl_within (is_mk (rfl : p_impl_within x2 x3 2 = _))) rfl Try.func36 rfl rfl rfl rfl (fun σ => ⟨ad_ren rfl, ad_ren rfl, ad_ren rfl, trivial⟩)))) rfl ?_
  refine ao_r (r_andB rfl rfl) rfl ?_
  refine ao_r (r_assign rfl) rfl ?_
  refine ao_nil ?_
  refine aq_then ?_
  refine aw_ret ?_
  refine aq_ret ?_
  obtain rfl := is_eq h
  exact aq_finx (l := [.tmp 8]) (xs := [.bool ((((p_impl_IsPool x0) && (decide ((x0.length : Int) ≤ 3))) && (p_impl_IsGoal (x1.1, (x1.2.1, ())))) && (p_impl_within x2 x3 2))]) idn [.bool ((((p_impl_IsPool x0) && (decide ((x0.length : Int) ≤ 3))) && (p_impl_IsGoal (x1.1, (x1.2.1, ())))) && (p_impl_within x2 x3 2))] [] rfl (by exact ⟨rfl, trivial⟩) (by exact ⟨ad_ren rfl, trivial⟩) (by exact trivial) rfl (nk rfl) rfl rfl ⟨rfl, rfl⟩
theorem c_impl_power {fu : Nat} {x0 : Int} {r : Int} (h : Is (p_impl_power fu x0) (some r)) :
    Scalar Try.prog 52 [.int .i64 x0] (.int .i64 r) := by
  unfold p_impl_power at h
  refine ac_enter ⟨11, 0⟩ Try.func52 rfl rfl rfl rfl rfl (fun Γ => ?_)
  refine aw_seq ?_
  refine aw_region ?_
  refine ao_r (r_assign rfl) rfl ?_
  refine ao_nil ?_
  refine aq_then ?_
  refine aw_seq ?_
  refine aw_region ?_
  refine ao_r (r_assign rfl) rfl ?_
  refine ao_nil ?_
  refine aq_then ?_
  refine aw_seq ?_
  refine aw_seq ?_
  refine aw_region ?_
  refine ao_r (r_move rfl) rfl ?_
  refine ao_r (r_move rfl) rfl ?_
  refine ao_nil ?_
  refine aq_then ?_
  refine aw_block ?_
  refine aw_loop (AL.sub (sub_r1 idn (nk rfl) (by kernel_rfl)) (al_whl (fun (s1 : Int × Int) => [(3, .int .i64 s1.1), (4, .int .i64 x0), (5, .int .i64 s1.2)]) (fun (s1 : Int × Int) => []) (fun (s1 : Int × Int) => True) h trivial (fun d3 s1 hI h ih3 => ?_)))
  replace h := is_whlS h
  refine al_round ?_
  refine aw_seq ?_
  refine aw_region ?_
  refine ao_r (r_lss rfl rfl) rfl ?_
  refine ao_nil ?_
  refine aq_then ?_
  refine aw_seq ?_
  refine aw_cond rfl (fun hb5 => ?_) (fun hb5 => ?_)
  have q6 := d_t hb5
  replace h := is_if (d_t hb5) h
  refine aw_skip ?_
  refine aq_then ?_
  refine aw_seq ?_
  refine aw_block ?_
  refine aw_region ?_
  refine ao_r (r_move rfl) rfl ?_
  refine ao_r (r_mul rfl rfl) rfl ?_
  refine ao_r (r_assign rfl) rfl ?_
  refine ao_nil ?_
  refine aq_in ?_
  refine aq_then ?_
  refine aw_region ?_
  refine ao_r (r_add rfl rfl) rfl ?_
  refine ao_r (r_move rfl) rfl ?_
  refine ao_nil ?_
  exact aq_again (AL.sub (sub_r1 idn (nk rfl) (by kernel_rfl)) (ih3 ((IntKind.wrap .i64 (s1.1 * 6)), (IntKind.wrap .i64 (s1.2 + 1))) trivial h))
  have q7 := d_f hb5
  replace h := is_else (d_f hb5) h
  refine aw_exit ?_
  refine aq_then_exit ?_
  refine aq_then_exit ?_
  refine aq_in_exit ?_
  refine aq_then ?_
  refine aw_seq ?_
  refine aw_region ?_
  refine ao_r (r_move rfl) rfl ?_
  refine ao_r (r_assign rfl) rfl ?_
  refine ao_nil ?_
  refine aq_then ?_
  refine aw_ret ?_
  refine aq_ret ?_
  obtain rfl := is_some h
  exact aq_finx (l := [.tmp 2]) (xs := [.int .i64 s1.1]) idn [.int .i64 s1.1] [] rfl (by exact ⟨rfl, trivial⟩) (by exact ⟨ad_ren rfl, trivial⟩) (by exact trivial) rfl (nk rfl) rfl rfl ⟨rfl, rfl⟩
theorem c_impl_isOutcome {fu : Nat} {x0 : dy7} {x1 : Int} {r : Bool} (h : Is (p_impl_isOutcome fu x0 x1) (some r)) :
    Scalar Try.prog 25 [.v ty2 x0, .int .i64 x1] (.bool r) := by
  unfold p_impl_isOutcome at h
  refine ac_enter ⟨11, 0⟩ Try.func25 rfl rfl rfl rfl rfl (fun Γ => ?_)
  refine sl_len_m 0 (x0.length : Int) rfl rfl (fun hl0 => ?_)
  refine aw_seq ?_
  refine aw_region ?_
  refine ao_r (r_assign rfl) rfl ?_
  refine ao_nil ?_
  refine aq_then ?_
  refine aw_seq ?_
  refine aw_region ?_
  refine ao_r (r_move rfl) rfl ?_
  refine ao_r (r_move rfl) rfl ?_
  refine ao_r (r_len_vm (x0.length : Int) Try.underlying24 rfl rfl) rfl ?_
  obtain ⟨r1, r1h, h⟩ := is_bind h
  refine ao_scall trivial (scall (c_impl_power (is_mk r1h)) rfl Try.func52 rfl rfl rfl rfl (fun σ => ⟨ad_ren rfl, trivial⟩)) rfl ?_
  refine ao_r (r_sub rfl rfl) rfl ?_
  refine ao_scall trivial (scall (c_impl_within (is_mk (rfl : p_impl_within x1 0 (IntKind.wrap .i64 (r1 - 1)) = _))) rfl Try.func36 rfl rfl rfl rfl (fun σ => ⟨ad_ren rfl, ad_ren rfl, ad_ren rfl, trivial⟩)) rfl ?_
  refine ao_r (r_assign rfl) rfl ?_
  refine ao_nil ?_
  refine aq_then ?_
  refine aw_ret ?_
  refine aq_ret ?_
  obtain rfl := is_some h
  exact aq_finx (l := [.tmp 4]) (xs := [.bool (p_impl_within x1 0 (IntKind.wrap .i64 (r1 - 1)))]) idn [.bool (p_impl_within x1 0 (IntKind.wrap .i64 (r1 - 1)))] [] rfl (by exact ⟨rfl, trivial⟩) (by exact ⟨ad_ren rfl, trivial⟩) (by exact trivial) rfl (nk rfl) rfl rfl ⟨rfl, rfl⟩
theorem c_impl_again_outcomes {fu : Nat} {x0 : dy7} {x1 : dy7} {r : Int} (h : Is (p_impl_again_outcomes fu x0 x1) (some r)) :
    ACallsV Try.prog 53 [.ref 0 0] [(0, .var [.cell (.v ty2 x0), .cell (.os 1)]), (1, .row ty3 x1)] (fun r' H' => r' = .int .i64 r ∧ H' = [(0, .var [.cell (.v ty2 x0), .cell (.os 1)]), (1, .row ty3 x1)]) := by
  unfold p_impl_again_outcomes at h
  refine ac_enterV ⟨9, 2⟩ Try.func53 rfl rfl rfl rfl rfl (fun Γ => ?_)
  refine row_len_m 1 (x1.length : Int) rfl rfl (fun hr1 => ?_)
  refine aw_seq ?_
  refine aw_region ?_
  refine ao_r (r_assign rfl) rfl ?_
  refine ao_nil ?_
  refine aq_then ?_
  refine aw_seq ?_
  refine aw_region ?_
  refine ao_r (r_move rfl) rfl ?_
  refine ao_r (r_nilCheck rfl rfl) rfl ?_
  refine ao_r (r_fieldAddr Try.underlying59 rfl Try.sizeOf24 rfl rfl rfl) rfl ?_
  refine ao_r (r_load_cell Try.isAgg24 rfl rfl rfl) rfl ?_
  refine ao_r (r_len_vm (x0.length : Int) Try.underlying24 rfl rfl) rfl ?_
  obtain ⟨r1, r1h, h⟩ := is_bind h
  refine ao_scall trivial (scall (c_impl_power (is_mk r1h)) rfl Try.func52 rfl rfl rfl rfl (fun σ => ⟨ad_ren rfl, trivial⟩)) rfl ?_
  refine ao_r (r_assign rfl) rfl ?_
  refine ao_nil ?_
  refine aq_then ?_
  refine aw_ret ?_
  refine aq_ret ?_
  obtain rfl := is_some h
  exact aq_finV (l := [.tmp 2]) (xs := [.int .i64 r1]) idn [.int .i64 r1] [(0, .var [.cell (.v ty2 x0), .cell (.os 1)]), (1, .row ty3 x1)] rfl (by exact ⟨rfl, trivial⟩) (by exact ⟨ad_ren rfl, trivial⟩) (by exact ⟨⟨_, rfl, ⟨ad_ren rfl, rfl, ad_ren rfl, rfl, trivial⟩⟩, ⟨_, rfl, rfl⟩, trivial⟩) rfl (nk2 rfl rfl rfl) ⟨rfl, rfl⟩
theorem c_impl_rollAt {fu : Nat} {x0 : dy7} {x1 : Int} {r : dy9} (h : Is (p_impl_rollAt fu x0 x1) (some r)) :
    ACalls Try.prog 42 [.v ty2 x0, .int .i64 x1] [] (fun r' H' => r' = .os 0 ∧ H' = [(0, .row ty8 r)]) := by
  unfold p_impl_rollAt at h
  refine ac_enter ⟨30, 0⟩ Try.func42 rfl rfl rfl rfl rfl (fun Γ => ?_)
  refine sl_len_m 0 (x0.length : Int) rfl rfl (fun hl0 => ?_)
  refine aw_seq ?_
  refine aw_region ?_
  refine ao_r (r_assign rfl) rfl ?_
  refine ao_nil ?_
  refine aq_then ?_
  refine aw_seq ?_
  refine aw_region ?_
  refine ao_r (r_move rfl) rfl ?_
  refine ao_r (r_len_vm (x0.length : Int) Try.underlying24 rfl rfl) rfl ?_
  obtain ⟨g1, h⟩ := is_guard h
  refine ao_eff trivial (e_makeSlice 0 (t := ty8) Try.underlying32 (rfl : Try.prog.info? 3 = some _) rfl rfl rfl rfl rfl rfl (by omega) (by omega) rfl rfl) rfl ?_
  refine ao_r (r_assign rfl) rfl ?_
  refine ao_nil ?_
  refine aq_then ?_
  refine aw_seq ?_
  refine aw_seq ?_
  refine aw_region ?_
  refine ao_r (r_move rfl) rfl ?_
  refine ao_r (r_len_vm (x0.length : Int) Try.underlying24 rfl rfl) rfl ?_
  refine ao_r (r_subI rfl rfl (wrap_id (by omega) (by omega))) rfl ?_
  refine ao_r (r_assign rfl) rfl ?_
  refine ao_nil ?_
  refine aq_then ?_
  refine aw_block ?_
  refine aw_loop (AL.sub (sub_r1 idn (nk rfl) (by kernel_rfl)) (al_whl (fun (s2 : Int × Int × dy9) => [(0, .v ty2 x0), (1, .int .i64 s2.1), (5, .os 0), (6, .int .i64 s2.2.1)]) (fun (s2 : Int × Int × dy9) => [(0, .row ty8 s2.2.2)]) (fun (s2 : Int × Int × dy9) => s2.2.1 ≤ ((x0.length : Int) - 1) ∧ (s2.2.2.length : Int) = (x0.length : Int)) h ⟨(by (try simp only [List.length_set, List.length_append, List.length_cons, List.length_nil, List.length_replicate, List.length_take, List.length_drop]) <;> omega), (by (try simp only [List.length_set, List.length_append, List.length_cons, List.length_nil, List.length_replicate, List.length_take, List.length_drop]) <;> omega)⟩ (fun d4 s2 hI h ih4 => ?_)))
  obtain ⟨_, _⟩ := hI
  replace h := is_whlS h
  refine al_round ?_
  refine aw_seq ?_
  refine aw_seq ?_
  refine aw_region ?_
  refine ao_r (r_move rfl) rfl ?_
  refine ao_r (r_geq rfl rfl) rfl ?_
  refine ao_nil ?_
  refine aq_then ?_
  refine aw_cond rfl (fun hb6 => ?_) (fun hb6 => ?_)
  have q7 := d_t hb6
  replace h := is_if (d_t hb6) h
  refine aw_skip ?_
  refine aq_then ?_
  refine aw_seq ?_
  refine aw_block ?_
  refine aw_seq ?_
  refine aw_region ?_
  refine ao_r (r_move rfl) rfl ?_
  refine ao_r (r_move rfl) rfl ?_
  refine ao_r (r_move rfl) rfl ?_
  refine ao_r (r_move rfl) rfl ?_
  refine ao_r (r_move rfl) rfl ?_
  refine ao_r (r_rem rfl rfl (by decide)) rfl ?_
  refine ao_r (r_idxAddr (t := ty4) Try.underlying24 Try.sizeOf81 rfl rfl (show 0 ≤ s2.2.1 from by omega) (show s2.2.1 < (x0.length : Int) from by omega)) rfl ?_
  obtain ⟨g9, h⟩ := is_guard h
  obtain ⟨g10, h⟩ := is_guard h
  refine ao_r (r_idxAddr_ca (t := ty8) Try.underlying81 Try.sizeOf3 rfl rfl (by omega) (by omega)) rfl ?_
  refine ao_r (r_load_c_int Try.isAgg3 Try.sizeOf3 rfl) rfl ?_
  refine ao_r (r_idxAddr_os Try.underlying32 Try.sizeOf3 rfl rfl rfl (show 0 ≤ s2.2.1 from by omega) (show s2.2.1 < (s2.2.2.length : Int) from by omega)) rfl ?_
  refine ao_effS trivial (e_store_elem_int Try.sizeOf3 rfl rfl rfl rfl (show s2.2.1.toNat < s2.2.2.length from by omega) rfl) ?_
  refine ao_nil ?_
  refine aq_then ?_
  refine aw_region ?_
  refine ao_r (r_move rfl) rfl ?_
  refine ao_r (r_quo rfl rfl (by decide)) rfl ?_
  refine ao_r (r_assign rfl) rfl ?_
  refine ao_nil ?_
  refine aq_in ?_
  refine aq_then ?_
  refine aw_region ?_
  refine ao_r (r_move rfl) rfl ?_
  refine ao_r (r_subI rfl rfl (wrap_id (by omega) (by omega))) rfl ?_
  refine ao_r (r_assign rfl) rfl ?_
  refine ao_nil ?_
  exact aq_again (AL.sub (sub_r1 idn (nk rfl) (by kernel_rfl)) (ih4 ((IntKind.wrap .i64 (s2.1.tdiv 6)), (s2.2.1 - 1), (s2.2.2.set s2.2.1.toNat ((x0.getD s2.2.1.toNat (List.replicate 6 0)).getD (s2.1.tmod 6).toNat 0))) ⟨(by (try simp only [List.length_set, List.length_append, List.length_cons, List.length_nil, List.length_replicate, List.length_take, List.length_drop]) <;> omega), (by (try simp only [List.length_set, List.length_append, List.length_cons, List.length_nil, List.length_replicate, List.length_take, List.length_drop]) <;> omega)⟩ h))
  have q8 := d_f hb6
  replace h := is_else (d_f hb6) h
  refine aw_exit ?_
  refine aq_then_exit ?_
  refine aq_then_exit ?_
  refine aq_in_exit ?_
  refine aq_then ?_
  refine aw_seq ?_
  refine aw_region ?_
  refine ao_r (r_move rfl) rfl ?_
  refine ao_r (r_assign rfl) rfl ?_
  refine ao_nil ?_
  refine aq_then ?_
  refine aw_ret ?_
  refine aq_ret ?_
  obtain rfl := is_some h
  exact aq_finx (l := [.tmp 4]) (xs := [.os 0]) idn [.os 0] [(0, .row ty8 s2.2.2)] rfl (by exact ⟨rfl, trivial⟩) (by exact ⟨ad_ren rfl, trivial⟩) (by exact ⟨⟨_, rfl, rfl⟩, trivial⟩) rfl (nk rfl) rfl rfl ⟨rfl, rfl⟩
theorem c_impl_total {x0 : dy9} {r : Int} (h : Is (p_impl_total x0) r) :
    Scalar Try.prog 69 [.v ty3 x0] (.int .i64 r) := by
  unfold p_impl_total at h
  refine ac_enter ⟨17, 0⟩ Try.func69 rfl rfl rfl rfl rfl (fun Γ => ?_)
  refine sl_len_m 0 (x0.length : Int) rfl rfl (fun hl0 => ?_)
  refine aw_seq ?_
  refine aw_region ?_
  refine ao_r (r_assign rfl) rfl ?_
  refine ao_nil ?_
  refine aq_then ?_
  refine aw_seq ?_
  refine aw_region ?_
  refine ao_r (r_assign rfl) rfl ?_
  refine ao_nil ?_
  refine aq_then ?_
  refine aw_seq ?_
  refine aw_seq ?_
  refine aw_region ?_
  refine ao_r (r_move rfl) rfl ?_
  refine ao_r (r_len_vm (x0.length : Int) Try.underlying32 rfl rfl) rfl ?_
  refine ao_r (r_move rfl) rfl ?_
  refine ao_nil ?_
  refine aq_then ?_
  refine aw_block ?_
  refine aw_loop (AL.sub (fr' := [(3, .int .i64 0), (6, .v ty3 x0), (7, .int .i64 (x0.length : Int)), (8, .int .i64 0)]) (H' := []) (sub_r1 idn (nk rfl) (by kernel_rfl)) (al_cnt (fun i2 (s1 : Int) => [(3, .int .i64 s1), (6, .v ty3 x0), (7, .int .i64 (x0.length : Int)), (8, .int .i64 i2)]) (fun i2 (s1 : Int) => []) (fun d i2 (s1 : Int) => d = Int.toNat ((x0.length : Int) - i2) ∧ 0 ≤ i2 ∧ i2 ≤ (x0.length : Int)) h ⟨rfl, (by (try simp only [List.length_set, List.length_append, List.length_cons, List.length_nil, List.length_replicate, List.length_take, List.length_drop]) <;> omega), (by (try simp only [List.length_set, List.length_append, List.length_cons, List.length_nil, List.length_replicate, List.length_take, List.length_drop]) <;> omega)⟩ (fun d3 i2 s1 hI h ih3 => ?_)))
  obtain ⟨hd, _, _⟩ := hI
  refine al_round ?_
  refine aw_seq ?_
  refine aw_region ?_
  refine ao_r (r_lss rfl rfl) rfl ?_
  refine ao_nil ?_
  refine aq_then ?_
  refine aw_seq ?_
  refine aw_cond rfl (fun hb5 => ?_) (fun hb5 => ?_)
  have q6 := d_t hb5
  obtain ⟨d3, rfl⟩ : ∃ e, d3 = e + 1 := ⟨d3 - 1, by omega⟩
  replace h := is_cntS h
  refine aw_skip ?_
  refine aq_then ?_
  refine aw_seq ?_
  refine aw_block ?_
  refine aw_seq ?_
  refine aw_region ?_
  refine ao_r (r_idxAddr_int Try.underlying32 Try.sizeOf3 rfl rfl (show 0 ≤ i2 from by omega) (show i2 < (x0.length : Int) from by omega)) rfl ?_
  refine ao_r (r_load_c_int Try.isAgg3 Try.sizeOf3 rfl) rfl ?_
  refine ao_r (r_assign rfl) rfl ?_
  refine ao_nil ?_
  refine aq_then ?_
  refine aw_region ?_
  refine ao_r (r_move rfl) rfl ?_
  refine ao_r (r_move rfl) rfl ?_
  refine ao_r (r_add rfl rfl) rfl ?_
  refine ao_r (r_assign rfl) rfl ?_
  refine ao_nil ?_
  refine aq_in ?_
  refine aq_then ?_
  refine aw_region ?_
  refine ao_r (r_addI rfl rfl (wrap_id (by omega) (by omega))) rfl ?_
  refine ao_r (r_move rfl) rfl ?_
  refine ao_nil ?_
  exact aq_again (AL.sub (sub_r1 idn (nk rfl) (by kernel_rfl)) (ih3 d3 (i2 + 1) (IntKind.wrap .i64 (s1 + (x0.getD i2.toNat 0))) (by omega) ⟨by omega, (by (try simp only [List.length_set, List.length_append, List.length_cons, List.length_nil, List.length_replicate, List.length_take, List.length_drop]) <;> omega), (by (try simp only [List.length_set, List.length_append, List.length_cons, List.length_nil, List.length_replicate, List.length_take, List.length_drop]) <;> omega)⟩ h))
  have q7 := d_f hb5
  obtain rfl : d3 = 0 := by omega
  replace h := is_cnt0 h
  refine aw_exit ?_
  refine aq_then_exit ?_
  refine aq_then_exit ?_
  refine aq_in_exit ?_
  refine aq_then ?_
  refine aw_seq ?_
  refine aw_region ?_
  refine ao_r (r_move rfl) rfl ?_
  refine ao_r (r_assign rfl) rfl ?_
  refine ao_nil ?_
  refine aq_then ?_
  refine aw_ret ?_
  refine aq_ret ?_
  obtain rfl := is_eq h
  exact aq_finx (l := [.tmp 2]) (xs := [.int .i64 s1]) idn [.int .i64 s1] [] rfl (by exact ⟨rfl, trivial⟩) (by exact ⟨ad_ren rfl, trivial⟩) (by exact trivial) rfl (nk rfl) rfl rfl ⟨rfl, rfl⟩
theorem c_impl_truth {x0 : Bool} {r : Int} (h : Is (p_impl_truth x0) r) :
    Scalar Try.prog 68 [.bool x0] (.int .i64 r) := by
  unfold p_impl_truth at h
  refine ac_enter ⟨4, 0⟩ Try.func68 rfl rfl rfl rfl rfl (fun Γ => ?_)
  refine aw_seq ?_
  refine aw_region ?_
  refine ao_r (r_assign rfl) rfl ?_
  refine ao_nil ?_
  refine aq_then ?_
  refine aw_seq ?_
  refine aw_seq ?_
  refine aw_region ?_
  refine ao_r (r_move rfl) rfl ?_
  refine ao_nil ?_
  refine aq_then ?_
  refine aw_cond rfl (fun hb1 => ?_) (fun hb1 => ?_)
  replace h := is_if hb1 h
  refine aw_seq ?_
  refine aw_region ?_
  refine ao_r (r_assign rfl) rfl ?_
  refine ao_nil ?_
  refine aq_then ?_
  refine aw_ret ?_
  refine aq_then_ret ?_
  refine aq_ret ?_
  obtain rfl := is_eq h
  exact aq_finx (l := [.tmp 2]) (xs := [.int .i64 1]) idn [.int .i64 1] [] rfl (by exact ⟨rfl, trivial⟩) (by exact ⟨ad_ren rfl, trivial⟩) (by exact trivial) rfl (nk rfl) rfl rfl ⟨rfl, rfl⟩
  replace h := is_else (ne_t hb1) h
  refine aw_skip ?_
  refine aq_then ?_
  refine aw_seq ?_
  refine aw_region ?_
  refine ao_r (r_assign rfl) rfl ?_
  refine ao_nil ?_
  refine aq_then ?_
  refine aw_ret ?_
  refine aq_ret ?_
  obtain rfl := is_eq h
  exact aq_finx (l := [.tmp 2]) (xs := [.int .i64 0]) idn [.int .i64 0] [] rfl (by exact ⟨rfl, trivial⟩) (by exact ⟨ad_ren rfl, trivial⟩) (by exact trivial) rfl (nk rfl) rfl rfl ⟨rfl, rfl⟩
theorem c_slices_Max_int_int {x0 : dy9} {r : Int} (h : Is (p_slices_Max_int_int x0) (some r)) :
    Scalar Try.prog 70 [.v ty3 x0] (.int .i64 r) := by
  unfold p_slices_Max_int_int at h
  refine ac_enter ⟨25, 0⟩ Try.func70 rfl rfl rfl rfl rfl (fun Γ => ?_)
  refine sl_len_m 0 (x0.length : Int) rfl rfl (fun hl0 => ?_)
  refine aw_seq ?_
  refine aw_region ?_
  refine ao_r (r_assign rfl) rfl ?_
  refine ao_nil ?_
  refine aq_then ?_
  refine aw_seq ?_
  refine aw_seq ?_
  refine aw_region ?_
  refine ao_r (r_move rfl) rfl ?_
  refine ao_r (r_len_vm (x0.length : Int) Try.underlying32 rfl rfl) rfl ?_
  refine ao_r (r_lss rfl rfl) rfl ?_
  refine ao_nil ?_
  refine aq_then ?_
  refine aw_cond rfl (fun hb1 => ?_) (fun hb1 => ?_)
  have q2 := d_t hb1
  replace h := is_if (d_t hb1) h
  exact nomatch (show (none : Option _) = some _ from h)
  have q3 := d_f hb1
  replace h := is_else (d_f hb1) h
  refine aw_skip ?_
  refine aq_then ?_
  refine aw_seq ?_
  refine aw_region ?_
  refine ao_r (r_move rfl) rfl ?_
  refine ao_r (r_idxAddr_int Try.underlying32 Try.sizeOf3 rfl rfl (show 0 ≤ 0 from by omega) (show 0 < (x0.length : Int) from by omega)) rfl ?_
  refine ao_r (r_load_c_int Try.isAgg3 Try.sizeOf3 rfl) rfl ?_
  refine ao_r (r_assign rfl) rfl ?_
  refine ao_nil ?_
  refine aq_then ?_
  refine aw_seq ?_
  refine aw_seq ?_
  refine aw_region ?_
  refine ao_r (r_assign rfl) rfl ?_
  refine ao_nil ?_
  refine aq_then ?_
  refine aw_block ?_
  refine aw_loop (AL.sub (fr' := [(0, .v ty3 x0), (3, .int .i64 (x0.getD 0 0)), (4, .int .i64 1)]) (H' := []) (sub_r1 idn (nk rfl) (by kernel_rfl)) (al_cnt (fun i5 (s4 : Int) => [(0, .v ty3 x0), (3, .int .i64 s4), (4, .int .i64 i5)]) (fun i5 (s4 : Int) => []) (fun d i5 (s4 : Int) => d = Int.toNat ((x0.length : Int) - i5) ∧ (x0.getD 0 0) ≤ s4 ∧ 1 ≤ i5 ∧ i5 ≤ (x0.length : Int)) h ⟨rfl, (by (try simp only [List.length_set, List.length_append, List.length_cons, List.length_nil, List.length_replicate, List.length_take, List.length_drop]) <;> omega), (by (try simp only [List.length_set, List.length_append, List.length_cons, List.length_nil, List.length_replicate, List.length_take, List.length_drop]) <;> omega), (by (try simp only [List.length_set, List.length_append, List.length_cons, List.length_nil, List.length_replicate, List.length_take, List.length_drop]) <;> omega)⟩ (fun d6 i5 s4 hI h ih6 => ?_)))
  obtain ⟨hd, _, _, _⟩ := hI
  refine al_round ?_
  refine aw_seq ?_
  refine aw_seq ?_
  refine aw_region ?_
  refine ao_r (r_move rfl) rfl ?_
  refine ao_r (r_move rfl) rfl ?_
  refine ao_r (r_len_vm (x0.length : Int) Try.underlying32 rfl rfl) rfl ?_
  refine ao_r (r_lss rfl rfl) rfl ?_
  refine ao_nil ?_
  refine aq_then ?_
  refine aw_cond rfl (fun hb8 => ?_) (fun hb8 => ?_)
  have q9 := d_t hb8
  obtain ⟨d6, rfl⟩ : ∃ e, d6 = e + 1 := ⟨d6 - 1, by omega⟩
  replace h := is_cntS h
  refine aw_skip ?_
  refine aq_then ?_
  refine aw_seq ?_
  refine aw_block ?_
  refine aw_region ?_
  refine ao_r (r_move rfl) rfl ?_
  refine ao_r (r_move rfl) rfl ?_
  refine ao_r (r_move rfl) rfl ?_
  refine ao_r (r_idxAddr_int Try.underlying32 Try.sizeOf3 rfl rfl (show 0 ≤ i5 from by omega) (show i5 < (x0.length : Int) from by omega)) rfl ?_
  refine ao_r (r_load_c_int Try.isAgg3 Try.sizeOf3 rfl) rfl ?_
  refine ao_r (r_max rfl rfl) rfl ?_
  refine ao_r (r_assign rfl) rfl ?_
  refine ao_nil ?_
  refine aq_in ?_
  refine aq_then ?_
  refine aw_region ?_
  refine ao_r (r_move rfl) rfl ?_
  refine ao_r (r_addI rfl rfl (wrap_id (by omega) (by omega))) rfl ?_
  refine ao_r (r_assign rfl) rfl ?_
  refine ao_nil ?_
  exact aq_again (AL.sub (sub_r1 idn (nk rfl) (by kernel_rfl)) (ih6 d6 (i5 + 1) (if (x0.getD i5.toNat 0) > s4 then (x0.getD i5.toNat 0) else s4) (by omega) ⟨by omega, (by (try simp only [List.length_set, List.length_append, List.length_cons, List.length_nil, List.length_replicate, List.length_take, List.length_drop]) <;> omega), (by (try simp only [List.length_set, List.length_append, List.length_cons, List.length_nil, List.length_replicate, List.length_take, List.length_drop]) <;> omega), (by (try simp only [List.length_set, List.length_append, List.length_cons, List.length_nil, List.length_replicate, List.length_take, List.length_drop]) <;> omega)⟩ h))
  have q10 := d_f hb8
  obtain rfl : d6 = 0 := by omega
  replace h := is_cnt0 h
  refine aw_exit ?_
  refine aq_then_exit ?_
  refine aq_then_exit ?_
  refine aq_in_exit ?_
  refine aq_then ?_
  refine aw_seq ?_
  refine aw_region ?_
  refine ao_r (r_move rfl) rfl ?_
  refine ao_r (r_assign rfl) rfl ?_
  refine ao_nil ?_
  refine aq_then ?_
  refine aw_ret ?_
  refine aq_ret ?_
  obtain rfl := is_some h
  exact aq_finx (l := [.tmp 2]) (xs := [.int .i64 s4]) idn [.int .i64 s4] [] rfl (by exact ⟨rfl, trivial⟩) (by exact ⟨ad_ren rfl, trivial⟩) (by exact trivial) rfl (nk rfl) rfl rfl ⟨rfl, rfl⟩
theorem c_slices_Min_int_int {x0 : dy9} {r : Int} (h : Is (p_slices_Min_int_int x0) (some r)) :
    Scalar Try.prog 71 [.v ty3 x0] (.int .i64 r) := by
  unfold p_slices_Min_int_int at h
  refine ac_enter ⟨25, 0⟩ Try.func71 rfl rfl rfl rfl rfl (fun Γ => ?_)
  refine sl_len_m 0 (x0.length : Int) rfl rfl (fun hl0 => ?_)
  refine aw_seq ?_
  refine aw_region ?_
  refine ao_r (r_assign rfl) rfl ?_
  refine ao_nil ?_
  refine aq_then ?_
  refine aw_seq ?_
  refine aw_seq ?_
  refine aw_region ?_
  refine ao_r (r_move rfl) rfl ?_
  refine ao_r (r_len_vm (x0.length : Int) Try.underlying32 rfl rfl) rfl ?_
  refine ao_r (r_lss rfl rfl) rfl ?_
  refine ao_nil ?_
  refine aq_then ?_
  refine aw_cond rfl (fun hb1 => ?_) (fun hb1 => ?_)
  have q2 := d_t hb1
  replace h := is_if (d_t hb1) h
  exact nomatch (show (none : Option _) = some _ from h)
  have q3 := d_f hb1
  replace h := is_else (d_f hb1) h
  refine aw_skip ?_
  refine aq_then ?_
  refine aw_seq ?_
  refine aw_region ?_
  refine ao_r (r_move rfl) rfl ?_
  refine ao_r (r_idxAddr_int Try.underlying32 Try.sizeOf3 rfl rfl (show 0 ≤ 0 from by omega) (show 0 < (x0.length : Int) from by omega)) rfl ?_
  refine ao_r (r_load_c_int Try.isAgg3 Try.sizeOf3 rfl) rfl ?_
  refine ao_r (r_assign rfl) rfl ?_
  refine ao_nil ?_
  refine aq_then ?_
  refine aw_seq ?_
  refine aw_seq ?_
  refine aw_region ?_
  refine ao_r (r_assign rfl) rfl ?_
  refine ao_nil ?_
  refine aq_then ?_
  refine aw_block ?_
  refine aw_loop (AL.sub (fr' := [(0, .v ty3 x0), (3, .int .i64 (x0.getD 0 0)), (4, .int .i64 1)]) (H' := []) (sub_r1 idn (nk rfl) (by kernel_rfl)) (al_cnt (fun i5 (s4 : Int) => [(0, .v ty3 x0), (3, .int .i64 s4), (4, .int .i64 i5)]) (fun i5 (s4 : Int) => []) (fun d i5 (s4 : Int) => d = Int.toNat ((x0.length : Int) - i5) ∧ s4 ≤ (x0.getD 0 0) ∧ 1 ≤ i5 ∧ i5 ≤ (x0.length : Int)) h ⟨rfl, (by (try simp only [List.length_set, List.length_append, List.length_cons, List.length_nil, List.length_replicate, List.length_take, List.length_drop]) <;> omega), (by (try simp only [List.length_set, List.length_append, List.length_cons, List.length_nil, List.length_replicate, List.length_take, List.length_drop]) <;> omega), (by (try simp only [List.length_set, List.length_append, List.length_cons, List.length_nil, List.length_replicate, List.length_take, List.length_drop]) <;> omega)⟩ (fun d6 i5 s4 hI h ih6 => ?_)))
  obtain ⟨hd, _, _, _⟩ := hI
  refine al_round ?_
  refine aw_seq ?_
  refine aw_seq ?_
  refine aw_region ?_
  refine ao_r (r_move rfl) rfl ?_
  refine ao_r (r_move rfl) rfl ?_
  refine ao_r (r_len_vm (x0.length : Int) Try.underlying32 rfl rfl) rfl ?_
  refine ao_r (r_lss rfl rfl) rfl ?_
  refine ao_nil ?_
  refine aq_then ?_
  refine aw_cond rfl (fun hb8 => ?_) (fun hb8 => ?_)
  have q9 := d_t hb8
  obtain ⟨d6, rfl⟩ : ∃ e, d6 = e + 1 := ⟨d6 - 1, by omega⟩
  replace h := is_cntS h
  refine aw_skip ?_
  refine aq_then ?_
  refine aw_seq ?_
  refine aw_block ?_
  refine aw_region ?_
  refine ao_r (r_move rfl) rfl ?_
  refine ao_r (r_move rfl) rfl ?_
  refine ao_r (r_move rfl) rfl ?_
  refine ao_r (r_idxAddr_int Try.underlying32 Try.sizeOf3 rfl rfl (show 0 ≤ i5 from by omega) (show i5 < (x0.length : Int) from by omega)) rfl ?_
  refine ao_r (r_load_c_int Try.isAgg3 Try.sizeOf3 rfl) rfl ?_
  refine ao_r (r_min rfl rfl) rfl ?_
  refine ao_r (r_assign rfl) rfl ?_
  refine ao_nil ?_
  refine aq_in ?_
  refine aq_then ?_
  refine aw_region ?_
  refine ao_r (r_move rfl) rfl ?_
  refine ao_r (r_addI rfl rfl (wrap_id (by omega) (by omega))) rfl ?_
  refine ao_r (r_assign rfl) rfl ?_
  refine ao_nil ?_
  exact aq_again (AL.sub (sub_r1 idn (nk rfl) (by kernel_rfl)) (ih6 d6 (i5 + 1) (if (x0.getD i5.toNat 0) < s4 then (x0.getD i5.toNat 0) else s4) (by omega) ⟨by omega, (by (try simp only [List.length_set, List.length_append, List.length_cons, List.length_nil, List.length_replicate, List.length_take, List.length_drop]) <;> omega), (by (try simp only [List.length_set, List.length_append, List.length_cons, List.length_nil, List.length_replicate, List.length_take, List.length_drop]) <;> omega), (by (try simp only [List.length_set, List.length_append, List.length_cons, List.length_nil, List.length_replicate, List.length_take, List.length_drop]) <;> omega)⟩ h))
  have q10 := d_f hb8
  obtain rfl : d6 = 0 := by omega
  replace h := is_cnt0 h
  refine aw_exit ?_
  refine aq_then_exit ?_
  refine aq_then_exit ?_
  refine aq_in_exit ?_
  refine aq_then ?_
  refine aw_seq ?_
  refine aw_region ?_
  refine ao_r (r_move rfl) rfl ?_
  refine ao_r (r_assign rfl) rfl ?_
  refine ao_nil ?_
  refine aq_then ?_
  refine aw_ret ?_
  refine aq_ret ?_
  obtain rfl := is_some h
  exact aq_finx (l := [.tmp 2]) (xs := [.int .i64 s4]) idn [.int .i64 s4] [] rfl (by exact ⟨rfl, trivial⟩) (by exact ⟨ad_ren rfl, trivial⟩) (by exact trivial) rfl (nk rfl) rfl rfl ⟨rfl, rfl⟩
end Go.GA
