/- Walks: what the Go functions compute, by the printed lines below; no further conditions. -/
import Derived.Test.YtnomfaepgmbogaaC10ld
import Derived.Test.YtnomfaepgmbogaaProg
import Derived.Test.YtnomfaepgmbogaaL23
namespace Go.GA
open Go Go.Proofs
set_option maxRecDepth 100000
set_option maxHeartbeats 2000000
set_option linter.unusedVariables false
set_option linter.unusedSimpArgs false
theorem c_laws_vBig {x0 : dy8} {r : Bool} (h : Is (p_laws_vBig x0) r) :
    Scalar Try.prog 4 [.v ty5 x0] (.bool r) := by
  unfold p_laws_vBig at h
  refine ac_enter ⟨6, 0⟩ Try.func4 rfl rfl rfl rfl rfl (fun Γ => ?_)
  refine sl_len_m 0 (x0.length : Int) rfl rfl (fun hl0 => ?_)
  refine aw_seq ?_
  refine aw_region ?_
  refine ao_r (r_assign rfl) rfl ?_
  refine ao_nil ?_
  refine aq_then ?_
  refine aw_seq ?_
  refine aw_region ?_
  refine ao_r (r_move rfl) rfl ?_
  refine ao_r (r_len_vm (x0.length : Int) Try.underlying22 rfl rfl) rfl ?_
  refine ao_r (r_gtr rfl rfl) rfl ?_
  refine ao_r (r_assign rfl) rfl ?_
  refine ao_nil ?_
  refine aq_then ?_
  refine aw_ret ?_
  refine aq_ret ?_
  obtain rfl := is_eq h
  exact aq_finx (l := [.tmp 2]) (xs := [.bool (decide (65536 < (x0.length : Int)))]) idn [.bool (decide (65536 < (x0.length : Int)))] [] rfl (by exact ⟨rfl, trivial⟩) (by exact ⟨ad_ren rfl, trivial⟩) (by exact trivial) rfl (nk rfl) rfl rfl ⟨rfl, rfl⟩
theorem c_spec_l1Cur_next {x0 : dy8} {x1 : Int} {x2 : Int} {r : Int × Int × Int} (h : Is (p_spec_l1Cur_next x0 x1 x2) (some r)) :
    ACallsV Try.prog 78 [.ref 0 0] [(0, .var [.cell (.v ty5 x0), ci x1, .cell (.int .u64 x2)])] (fun r' H' => r' = .int .i64 r.1 ∧ H' = [(0, .var [.cell (.v ty5 x0), ci r.2.1, .cell (.int .u64 r.2.2)])]) := by
  unfold p_spec_l1Cur_next at h
  refine ac_enterV ⟨62, 1⟩ Try.func78 rfl rfl rfl rfl rfl (fun Γ => ?_)
  refine aw_seq ?_
  refine aw_region ?_
  refine ao_r (r_assign rfl) rfl ?_
  refine ao_nil ?_
  refine aq_then ?_
  refine aw_seq ?_
  refine aw_region ?_
  refine ao_r (r_assign rfl) rfl ?_
  refine ao_nil ?_
  refine aq_then ?_
  refine aw_join (fun (s1 : Int) => [(0, .ref 0 0), (3, .int .i64 s1)]) (fun (s1 : Int) => [(0, .var [.cell (.v ty5 x0), ci x1, .cell (.int .u64 x2)])]) (fun (s1 : Int) => True) h (fun s1 hI h => ?_) (fun h j3 => ?_)
  refine aw_seq ?_
  refine aw_region ?_
  refine ao_r (r_move rfl) rfl ?_
  refine ao_r (r_nilCheck rfl rfl) rfl ?_
  refine ao_r (r_fieldAddr Try.underlying53 rfl Try.sizeOf3 rfl rfl rfl) rfl ?_
  refine ao_r (r_load_cell Try.isAgg3 rfl rfl rfl) rfl ?_
  refine ao_r (r_add rfl rfl) rfl ?_
  refine ao_r (r_nilCheck rfl rfl) rfl ?_
  refine ao_r (r_fieldAddr Try.underlying53 rfl Try.sizeOf3 rfl rfl rfl) rfl ?_
  refine ao_effS trivial (e_store rfl rfl rfl rfl Try.sizeOf3 rfl) ?_
  refine ao_nil ?_
  refine aq_then ?_
  refine aw_seq ?_
  refine aw_region ?_
  refine ao_r (r_move rfl) rfl ?_
  refine ao_r (r_move rfl) rfl ?_
  refine ao_r (r_nilCheck rfl rfl) rfl ?_
  refine ao_r (r_fieldAddr Try.underlying53 rfl Try.sizeOf51 rfl rfl rfl) rfl ?_
  refine ao_r (r_load_cell Try.isAgg51 rfl rfl rfl) rfl ?_
  refine ao_r (r_mul rfl rfl) rfl ?_
  refine ao_r (r_move rfl) rfl ?_
  refine ao_r (r_conv Try.underlying3 Try.underlying51 rfl) rfl ?_
  refine ao_r (r_add rfl rfl) rfl ?_
  refine ao_r (r_add rfl rfl) rfl ?_
  refine ao_r (r_nilCheck rfl rfl) rfl ?_
  refine ao_r (r_fieldAddr Try.underlying53 rfl Try.sizeOf51 rfl rfl rfl) rfl ?_
  refine ao_effS trivial (e_store rfl rfl rfl rfl Try.sizeOf51 rfl) ?_
  refine ao_nil ?_
  refine aq_then ?_
  refine aw_seq ?_
  refine aw_seq ?_
  refine aw_drawAll (by kernel_rfl) ?_
  refine an_r 0 (fun _ _ _ h => h) rfl (by kernel_rfl) (r_move rfl) rfl ?_
  refine an_r 1 (fun _ _ _ h => h) rfl (by kernel_rfl) (r_nilCheck rfl rfl) rfl ?_
  refine an_r 2 (fun _ _ _ h => h) rfl (by kernel_rfl) (r_fieldAddr Try.underlying53 rfl Try.sizeOf3 rfl rfl rfl) rfl ?_
  refine an_r 3 (fun _ _ _ h => h) rfl (by kernel_rfl) (r_load_cell Try.isAgg3 rfl rfl rfl) rfl ?_
  refine an_r 4 (fun _ _ _ h => h) rfl (by kernel_rfl) (r_move rfl) rfl ?_
  refine an_r 5 (fun _ _ _ h => h) rfl (by kernel_rfl) (r_nilCheck rfl rfl) rfl ?_
  refine an_r 6 (fun _ _ _ h => h) rfl (by kernel_rfl) (r_fieldAddr Try.underlying53 rfl Try.sizeOf22 rfl rfl rfl) rfl ?_
  refine an_r 7 (fun _ _ _ h => h) rfl (by kernel_rfl) (r_load_cell Try.isAgg22 rfl rfl rfl) rfl ?_
  refine an_r 8 (fun _ _ _ h => h) rfl (by kernel_rfl) (r_len_vm (x0.length : Int) Try.underlying22 rfl rfl) rfl ?_
  refine an_r 9 (fun _ _ _ h => h) rfl (by kernel_rfl) (r_leq rfl rfl) rfl ?_
  refine an_done rfl ?_
  refine aq_then ?_
  refine aw_cond rfl (fun hb4 => ?_) (fun hb4 => ?_)
  have q5 := d_t hb4
  replace h := is_if (d_t hb4) h
  refine aw_seq ?_
  refine aw_region ?_
  refine ao_r (r_move rfl) rfl ?_
  refine ao_r (r_assign rfl) rfl ?_
  refine ao_nil ?_
  refine aq_then ?_
  refine aw_ret ?_
  refine aq_then_ret ?_
  refine aq_ret ?_
  obtain rfl := is_some h
  exact aq_finV (l := [.tmp 2]) (xs := [.int .i64 s1]) idn [.int .i64 s1] [(0, .var [.cell (.v ty5 x0), .cell (.int .i64 (IntKind.wrap .i64 (x1 + 1))), .cell (.int .u64 (IntKind.wrap .u64 ((IntKind.wrap .u64 ((IntKind.wrap .u64 (x2 * 6364136223846793005)) + (IntKind.wrap .u64 s1))) + 462197)))])] rfl (by exact ⟨rfl, trivial⟩) (by exact ⟨ad_ren rfl, trivial⟩) (by exact ⟨⟨_, rfl, ⟨ad_ren rfl, rfl, ad_ren rfl, rfl, ad_ren rfl, rfl, trivial⟩⟩, trivial⟩) rfl (nk1 rfl rfl) ⟨rfl, rfl⟩
  have q6 := d_f hb4
  replace h := is_else (d_f hb4) h
  refine aw_skip ?_
  refine aq_then ?_
  refine aw_seq ?_
  refine aw_region ?_
  refine ao_r (r_move rfl) rfl ?_
  refine ao_r (r_nilCheck rfl rfl) rfl ?_
  refine ao_r (r_fieldAddr Try.underlying53 rfl Try.sizeOf51 rfl rfl rfl) rfl ?_
  refine ao_r (r_load_cell Try.isAgg51 rfl rfl rfl) rfl ?_
  refine ao_r (r_shr rfl rfl (by omega)) rfl ?_
  refine ao_r (r_and rfl rfl) rfl ?_
  refine ao_r (r_conv Try.underlying51 Try.underlying3 rfl) rfl ?_
  refine ao_r (r_assign rfl) rfl ?_
  refine ao_nil ?_
  refine aq_then ?_
  refine aw_ret ?_
  refine aq_ret ?_
  obtain rfl := is_some h
  exact aq_finV (l := [.tmp 2]) (xs := [.int .i64 (IntKind.wrap .i64 (andI .u64 (shrI .u64 (IntKind.wrap .u64 ((IntKind.wrap .u64 ((IntKind.wrap .u64 (x2 * 6364136223846793005)) + (IntKind.wrap .u64 s1))) + 462197)) 40) 255))]) idn [.int .i64 (IntKind.wrap .i64 (andI .u64 (shrI .u64 (IntKind.wrap .u64 ((IntKind.wrap .u64 ((IntKind.wrap .u64 (x2 * 6364136223846793005)) + (IntKind.wrap .u64 s1))) + 462197)) 40) 255))] [(0, .var [.cell (.v ty5 x0), .cell (.int .i64 (IntKind.wrap .i64 (x1 + 1))), .cell (.int .u64 (IntKind.wrap .u64 ((IntKind.wrap .u64 ((IntKind.wrap .u64 (x2 * 6364136223846793005)) + (IntKind.wrap .u64 s1))) + 462197)))])] rfl (by exact ⟨rfl, trivial⟩) (by exact ⟨ad_ren rfl, trivial⟩) (by exact ⟨⟨_, rfl, ⟨ad_ren rfl, rfl, ad_ren rfl, rfl, ad_ren rfl, rfl, trivial⟩⟩, trivial⟩) rfl (nk1 rfl rfl) ⟨rfl, rfl⟩
  refine aw_seq ?_
  refine aw_drawAll (by kernel_rfl) ?_
  refine an_r 0 (fun _ _ _ h => h) rfl (by kernel_rfl) (r_move rfl) rfl ?_
  refine an_r 1 (fun _ _ _ h => h) rfl (by kernel_rfl) (r_nilCheck rfl rfl) rfl ?_
  refine an_r 2 (fun _ _ _ h => h) rfl (by kernel_rfl) (r_fieldAddr Try.underlying53 rfl Try.sizeOf3 rfl rfl rfl) rfl ?_
  refine an_r 3 (fun _ _ _ h => h) rfl (by kernel_rfl) (r_load_cell Try.isAgg3 rfl rfl rfl) rfl ?_
  refine an_r 4 (fun _ _ _ h => h) rfl (by kernel_rfl) (r_move rfl) rfl ?_
  refine an_r 5 (fun _ _ _ h => h) rfl (by kernel_rfl) (r_nilCheck rfl rfl) rfl ?_
  refine an_r 6 (fun _ _ _ h => h) rfl (by kernel_rfl) (r_fieldAddr Try.underlying53 rfl Try.sizeOf22 rfl rfl rfl) rfl ?_
  refine an_r 7 (fun _ _ _ h => h) rfl (by kernel_rfl) (r_load_cell Try.isAgg22 rfl rfl rfl) rfl ?_
  refine an_r 8 (fun _ _ _ h => h) rfl (by kernel_rfl) (r_len_vm (x0.length : Int) Try.underlying22 rfl rfl) rfl ?_
  refine an_r 9 (fun _ _ _ h => h) rfl (by kernel_rfl) (r_lss rfl rfl) rfl ?_
  refine an_done rfl ?_
  refine aq_then ?_
  refine aw_cond rfl (fun hb7 => ?_) (fun hb7 => ?_)
  have q8 := d_t hb7
  replace h := is_if (d_t hb7) h
  obtain ⟨g10, h⟩ := is_guard h
  refine aw_drawAll (by kernel_rfl) ?_
  refine an_r 0 (fun _ _ _ h => h) rfl (by kernel_rfl) (r_move rfl) rfl ?_
  refine an_r 1 (fun _ _ _ h => h) rfl (by kernel_rfl) (r_nilCheck rfl rfl) rfl ?_
  refine an_r 2 (fun _ _ _ h => h) rfl (by kernel_rfl) (r_fieldAddr Try.underlying53 rfl Try.sizeOf22 rfl rfl rfl) rfl ?_
  refine an_r 3 (fun _ _ _ h => h) rfl (by kernel_rfl) (r_load_cell Try.isAgg22 rfl rfl rfl) rfl ?_
  refine an_r 4 (fun _ _ _ h => h) rfl (by kernel_rfl) (r_move rfl) rfl ?_
  refine an_r 5 (fun _ _ _ h => h) rfl (by kernel_rfl) (r_nilCheck rfl rfl) rfl ?_
  refine an_r 6 (fun _ _ _ h => h) rfl (by kernel_rfl) (r_fieldAddr Try.underlying53 rfl Try.sizeOf3 rfl rfl rfl) rfl ?_
  refine an_r 7 (fun _ _ _ h => h) rfl (by kernel_rfl) (r_load_cell Try.isAgg3 rfl rfl rfl) rfl ?_
  refine an_r 8 (fun _ _ _ h => h) rfl (by kernel_rfl) (r_idxAddr_int Try.underlying22 Try.sizeOf5 rfl rfl (show 0 ≤ x1 from by omega) (show x1 < (x0.length : Int) from by omega)) rfl ?_
  refine an_r 9 (fun _ _ _ h => h) rfl (by kernel_rfl) (r_load_c_int Try.isAgg5 Try.sizeOf5 rfl) rfl ?_
  refine an_r 10 (fun _ _ _ h => h) rfl (by kernel_rfl) (r_conv Try.underlying5 Try.underlying3 rfl) rfl ?_
  refine an_r 11 (fun _ _ _ h => h) rfl (by kernel_rfl) (r_assign rfl) rfl ?_
  refine an_done rfl ?_
  exact aq_then (AW.sub (sub_r1 idn (nk1 rfl rfl) (by kernel_rfl)) (j3 (IntKind.wrap .i64 (x0.getD x1.toNat 0)) trivial h))
  have q9 := d_f hb7
  replace h := is_else (d_f hb7) h
  refine aw_skip ?_
  exact aq_then (AW.sub (sub_r1 idn (nk1 rfl rfl) (by kernel_rfl)) (j3 0 trivial h))
theorem c_spec_l1Cur_pick {x0 : Int} {x1 : dy8} {x2 : Int} {x3 : Int} {r : Int × Int × Int} (h : Is (p_spec_l1Cur_pick x0 x1 x2 x3) (some r)) :
    ACallsV Try.prog 56 [.ref 0 0, .int .i64 x0] [(0, .var [.cell (.v ty5 x1), ci x2, .cell (.int .u64 x3)])] (fun r' H' => r' = .int .i64 r.1 ∧ H' = [(0, .var [.cell (.v ty5 x1), ci r.2.1, .cell (.int .u64 r.2.2)])]) := by
  unfold p_spec_l1Cur_pick at h
  refine ac_enterV ⟨20, 1⟩ Try.func56 rfl rfl rfl rfl rfl (fun Γ => ?_)
  refine aw_seq ?_
  refine aw_region ?_
  refine ao_r (r_assign rfl) rfl ?_
  refine ao_nil ?_
  refine aq_then ?_
  refine aw_seq ?_
  refine aw_seq ?_
  refine aw_region ?_
  refine ao_r (r_move rfl) rfl ?_
  refine ao_r (r_leq rfl rfl) rfl ?_
  refine ao_nil ?_
  refine aq_then ?_
  refine aw_cond rfl (fun hb1 => ?_) (fun hb1 => ?_)
  have q2 := d_t hb1
  replace h := is_if (d_t hb1) h
  refine aw_seq ?_
  refine aw_region ?_
  refine ao_r (r_assign rfl) rfl ?_
  refine ao_nil ?_
  refine aq_then ?_
  refine aw_ret ?_
  refine aq_then_ret ?_
  refine aq_ret ?_
  obtain rfl := is_some h
  exact aq_finV (l := [.tmp 4]) (xs := [.int .i64 0]) idn [.int .i64 0] [(0, .var [.cell (.v ty5 x1), ci x2, .cell (.int .u64 x3)])] rfl (by exact ⟨rfl, trivial⟩) (by exact ⟨ad_ren rfl, trivial⟩) (by exact ⟨⟨_, rfl, ⟨ad_ren rfl, rfl, ad_ren rfl, rfl, ad_ren rfl, rfl, trivial⟩⟩, trivial⟩) rfl (nk1 rfl rfl) ⟨rfl, rfl⟩
  have q3 := d_f hb1
  replace h := is_else (d_f hb1) h
  refine aw_skip ?_
  refine aq_then ?_
  refine aw_seq ?_
  refine aw_region ?_
  refine ao_r (r_move rfl) rfl ?_
  obtain ⟨r4, r4h, h⟩ := is_bind h
  refine ao_callV [0] 1 trivial (c_spec_l1Cur_next (is_mk r4h)) Try.func78 rfl rfl rfl rfl rfl ⟨rfl, trivial⟩ ⟨⟨_, rfl, ⟨ad_ren rfl, rfl, ad_ren rfl, rfl, ad_ren rfl, rfl, trivial⟩⟩, trivial⟩ rfl rfl rfl rfl rfl rfl rfl (fun r' H' hr => ?_)
  obtain ⟨rfl, rfl⟩ := hr
  refine ao_norm (y := .int .i64 r4.1) (H' := [(0, .var [.cell (.v ty5 x1), ci r4.2.1, .cell (.int .u64 r4.2.2)])]) rfl rfl ?_
  refine ao_r (r_assign rfl) rfl ?_
  refine ao_nil ?_
  refine aq_then ?_
  refine aw_seq ?_
  refine aw_seq ?_
  refine aw_region ?_
  refine ao_r (r_move rfl) rfl ?_
  refine ao_r (r_gtr rfl rfl) rfl ?_
  refine ao_nil ?_
  refine aq_then ?_
  refine aw_cond rfl (fun hb5 => ?_) (fun hb5 => ?_)
  have q6 := d_t hb5
  replace h := is_if (d_t hb5) h
  refine aw_region ?_
  refine ao_r (r_move rfl) rfl ?_
  refine ao_r (r_mul rfl rfl) rfl ?_
  refine ao_r (r_move rfl) rfl ?_
  obtain ⟨r8, r8h, h⟩ := is_bind h
  refine ao_callV [0] 1 trivial (c_spec_l1Cur_next (is_mk r8h)) Try.func78 rfl rfl rfl rfl rfl ⟨rfl, trivial⟩ ⟨⟨_, rfl, ⟨ad_ren rfl, rfl, ad_ren rfl, rfl, ad_ren rfl, rfl, trivial⟩⟩, trivial⟩ rfl rfl rfl rfl rfl rfl rfl (fun r' H' hr => ?_)
  obtain ⟨rfl, rfl⟩ := hr
  refine ao_norm (y := .int .i64 r8.1) (H' := [(0, .var [.cell (.v ty5 x1), ci r8.2.1, .cell (.int .u64 r8.2.2)])]) rfl rfl ?_
  refine ao_r (r_add rfl rfl) rfl ?_
  refine ao_r (r_assign rfl) rfl ?_
  refine ao_nil ?_
  refine aq_then ?_
  refine aw_seq ?_
  refine aw_region ?_
  refine ao_r (r_move rfl) rfl ?_
  refine ao_r (r_move rfl) rfl ?_
  refine ao_r (r_rem rfl rfl (by omega)) rfl ?_
  refine ao_r (r_assign rfl) rfl ?_
  refine ao_nil ?_
  refine aq_then ?_
  refine aw_ret ?_
  refine aq_ret ?_
  obtain rfl := is_some h
  exact aq_finV (l := [.tmp 4]) (xs := [.int .i64 ((IntKind.wrap .i64 ((IntKind.wrap .i64 (r4.1 * 256)) + r8.1)).tmod x0)]) idn [.int .i64 ((IntKind.wrap .i64 ((IntKind.wrap .i64 (r4.1 * 256)) + r8.1)).tmod x0)] [(0, .var [.cell (.v ty5 x1), ci r8.2.1, .cell (.int .u64 r8.2.2)])] rfl (by exact ⟨rfl, trivial⟩) (by exact ⟨ad_ren rfl, trivial⟩) (by exact ⟨⟨_, rfl, ⟨ad_ren rfl, rfl, ad_ren rfl, rfl, ad_ren rfl, rfl, trivial⟩⟩, trivial⟩) rfl (nk1 rfl rfl) ⟨rfl, rfl⟩
  have q7 := d_f hb5
  replace h := is_else (d_f hb5) h
  refine aw_skip ?_
  refine aq_then ?_
  refine aw_seq ?_
  refine aw_region ?_
  refine ao_r (r_move rfl) rfl ?_
  refine ao_r (r_move rfl) rfl ?_
  refine ao_r (r_rem rfl rfl (by omega)) rfl ?_
  refine ao_r (r_assign rfl) rfl ?_
  refine ao_nil ?_
  refine aq_then ?_
  refine aw_ret ?_
  refine aq_ret ?_
  obtain rfl := is_some h
  exact aq_finV (l := [.tmp 4]) (xs := [.int .i64 (r4.1.tmod x0)]) idn [.int .i64 (r4.1.tmod x0)] [(0, .var [.cell (.v ty5 x1), ci r4.2.1, .cell (.int .u64 r4.2.2)])] rfl (by exact ⟨rfl, trivial⟩) (by exact ⟨ad_ren rfl, trivial⟩) (by exact ⟨⟨_, rfl, ⟨ad_ren rfl, rfl, ad_ren rfl, rfl, ad_ren rfl, rfl, trivial⟩⟩, trivial⟩) rfl (nk1 rfl rfl) ⟨rfl, rfl⟩
theorem c_spec_l1Cur_among {x0 : dy8} {x1 : dy8} {x2 : Int} {x3 : Int} {r : Int × Int × Int} (h : Is (p_spec_l1Cur_among x0 x1 x2 x3) (some r)) :
    ACallsV Try.prog 48 [.ref 0 0, .v ty3 x0] [(0, .var [.cell (.v ty5 x1), ci x2, .cell (.int .u64 x3)])] (fun r' H' => r' = .int .i64 r.1 ∧ H' = [(0, .var [.cell (.v ty5 x1), ci r.2.1, .cell (.int .u64 r.2.2)])]) := by
  unfold p_spec_l1Cur_among at h
  refine ac_enterV ⟨12, 1⟩ Try.func48 rfl rfl rfl rfl rfl (fun Γ => ?_)
  refine sl_len_m 1 (x0.length : Int) rfl rfl (fun hl1 => ?_)
  refine aw_seq ?_
  refine aw_region ?_
  refine ao_r (r_assign rfl) rfl ?_
  refine ao_nil ?_
  refine aq_then ?_
  refine aw_seq ?_
  refine aw_region ?_
  refine ao_r (r_move rfl) rfl ?_
  refine ao_r (r_move rfl) rfl ?_
  refine ao_r (r_move rfl) rfl ?_
  refine ao_r (r_len_vm (x0.length : Int) Try.underlying24 rfl rfl) rfl ?_
  obtain ⟨r1, r1h, h⟩ := is_bind h
  refine ao_callV [0] 1 trivial (c_spec_l1Cur_pick (is_mk r1h)) Try.func56 rfl rfl rfl rfl rfl ⟨rfl, trivial⟩ ⟨⟨_, rfl, ⟨ad_ren rfl, rfl, ad_ren rfl, rfl, ad_ren rfl, rfl, trivial⟩⟩, trivial⟩ rfl rfl rfl rfl rfl rfl rfl (fun r' H' hr => ?_)
  obtain ⟨rfl, rfl⟩ := hr
  refine ao_norm (y := .int .i64 r1.1) (H' := [(0, .var [.cell (.v ty5 x1), ci r1.2.1, .cell (.int .u64 r1.2.2)])]) rfl rfl ?_
  obtain ⟨g2, h⟩ := is_guard h
  obtain ⟨g3, h⟩ := is_guard h
  refine ao_r (r_idxAddr_int Try.underlying24 Try.sizeOf3 rfl rfl (show 0 ≤ r1.1 from by omega) (show r1.1 < (x0.length : Int) from by omega)) rfl ?_
  refine ao_r (r_load_c_int Try.isAgg3 Try.sizeOf3 rfl) rfl ?_
  refine ao_r (r_assign rfl) rfl ?_
  refine ao_nil ?_
  refine aq_then ?_
  refine aw_ret ?_
  refine aq_ret ?_
  obtain rfl := is_some h
  exact aq_finV (l := [.tmp 4]) (xs := [.int .i64 (x0.getD r1.1.toNat 0)]) idn [.int .i64 (x0.getD r1.1.toNat 0)] [(0, .var [.cell (.v ty5 x1), ci r1.2.1, .cell (.int .u64 r1.2.2)])] rfl (by exact ⟨rfl, trivial⟩) (by exact ⟨ad_ren rfl, trivial⟩) (by exact ⟨⟨_, rfl, ⟨ad_ren rfl, rfl, ad_ren rfl, rfl, ad_ren rfl, rfl, trivial⟩⟩, trivial⟩) rfl (nk1 rfl rfl) ⟨rfl, rfl⟩
theorem c_spec_l1Cur_one {x0 : Int} {x1 : dy8} {x2 : Int} {x3 : Int} {r : Bool × Int × Int} (h : Is (p_spec_l1Cur_one x0 x1 x2 x3) (some r)) :
    ACallsV Try.prog 55 [.ref 0 0, .int .i64 x0] [(0, .var [.cell (.v ty5 x1), ci x2, .cell (.int .u64 x3)])] (fun r' H' => r' = .bool r.1 ∧ H' = [(0, .var [.cell (.v ty5 x1), ci r.2.1, .cell (.int .u64 r.2.2)])]) := by
  unfold p_spec_l1Cur_one at h
  refine ac_enterV ⟨9, 1⟩ Try.func55 rfl rfl rfl rfl rfl (fun Γ => ?_)
  refine aw_seq ?_
  refine aw_region ?_
  refine ao_r (r_assign rfl) rfl ?_
  refine ao_nil ?_
  refine aq_then ?_
  refine aw_seq ?_
  refine aw_region ?_
  refine ao_r (r_move rfl) rfl ?_
  refine ao_r (r_move rfl) rfl ?_
  obtain ⟨r1, r1h, h⟩ := is_bind h
  refine ao_callV [0] 1 trivial (c_spec_l1Cur_pick (is_mk r1h)) Try.func56 rfl rfl rfl rfl rfl ⟨rfl, trivial⟩ ⟨⟨_, rfl, ⟨ad_ren rfl, rfl, ad_ren rfl, rfl, ad_ren rfl, rfl, trivial⟩⟩, trivial⟩ rfl rfl rfl rfl rfl rfl rfl (fun r' H' hr => ?_)
  obtain ⟨rfl, rfl⟩ := hr
  refine ao_norm (y := .int .i64 r1.1) (H' := [(0, .var [.cell (.v ty5 x1), ci r1.2.1, .cell (.int .u64 r1.2.2)])]) rfl rfl ?_
  refine ao_r (r_eql rfl rfl) rfl ?_
  refine ao_r (r_assign rfl) rfl ?_
  refine ao_nil ?_
  refine aq_then ?_
  refine aw_ret ?_
  refine aq_ret ?_
  obtain rfl := is_some h
  exact aq_finV (l := [.tmp 4]) (xs := [.bool (decide (r1.1 = 0))]) idn [.bool (decide (r1.1 = 0))] [(0, .var [.cell (.v ty5 x1), ci r1.2.1, .cell (.int .u64 r1.2.2)])] rfl (by exact ⟨rfl, trivial⟩) (by exact ⟨ad_ren rfl, trivial⟩) (by exact ⟨⟨_, rfl, ⟨ad_ren rfl, rfl, ad_ren rfl, rfl, ad_ren rfl, rfl, trivial⟩⟩, trivial⟩) rfl (nk1 rfl rfl) ⟨rfl, rfl⟩
theorem c_spec_l1Cur_letters10 {fu : Nat} {x0 : dy8} {x1 : Int} {x2 : Int} {r : dy8 × Int × Int} (h : Is (p_spec_l1Cur_letters10 fu x0 x1 x2) (some r)) :
    ACallsV Try.prog 28 [.ref 0 0] [(0, .var [.cell (.v ty5 x0), ci x1, .cell (.int .u64 x2)])] (fun r' H' => r' = .os 1 ∧ H' = [(0, .var [.cell (.v ty5 x0), ci r.2.1, .cell (.int .u64 r.2.2)]), (1, .row ty7 r.1)]) := by
  unfold p_spec_l1Cur_letters10 at h
  refine ac_enterV ⟨60, 1⟩ Try.func28 rfl rfl rfl rfl rfl (fun Γ => ?_)
  refine aw_seq ?_
  refine aw_region ?_
  refine ao_r (r_assign rfl) rfl ?_
  refine ao_nil ?_
  refine aq_then ?_
  refine aw_seq ?_
  refine aw_region ?_
  refine ao_r (r_move rfl) rfl ?_
  refine ao_eff trivial (e_buildSlice (l := [(0, .const (.int .i64 2)), (1, .const (.int .i64 3)), (2, .const (.int .i64 2)), (3, .const (.int .i64 1))]) (t := ty7) 1 ([2, 3, 2, 1] : dy8) rfl Try.underlying24 Try.zeroValue3 Try.sizeOf3 rfl rfl rfl rfl rfl rfl rfl) rfl ?_
  obtain ⟨r1, r1h, h⟩ := is_bind h
  refine ao_frz (fr' := [(0, .ref 0 0), (2, .nilsl), (7, .ref 0 0), (8, .v ty3 ([2, 3, 2, 1] : dy8))]) (H' := [(0, .var [.cell (.v ty5 x0), ci x1, .cell (.int .u64 x2)])]) (by exact ⟨⟨_, rfl, ad_ren rfl⟩, ⟨_, rfl, ad_ren rfl⟩, ⟨_, rfl, ad_ren rfl⟩, ⟨_, rfl, ad_osB rfl rfl⟩, trivial⟩) (by exact ⟨⟨_, rfl, ⟨ad_ren rfl, rfl, ad_ren rfl, rfl, ad_ren rfl, rfl, trivial⟩⟩, trivial⟩) rfl ?_
  refine ao_callV [0] 2 trivial (c_spec_l1Cur_among (is_mk r1h)) Try.func48 rfl rfl rfl rfl rfl ⟨rfl, trivial⟩ ⟨⟨_, rfl, ⟨ad_ren rfl, rfl, ad_ren rfl, rfl, ad_ren rfl, rfl, trivial⟩⟩, trivial⟩ rfl rfl rfl rfl rfl rfl rfl (fun r' H' hr => ?_)
  obtain ⟨rfl, rfl⟩ := hr
  refine ao_norm (y := .int .i64 r1.1) (H' := [(0, .var [.cell (.v ty5 x0), ci r1.2.1, .cell (.int .u64 r1.2.2)])]) rfl rfl ?_
  refine ao_eff trivial (e_buildSlice (l := []) (t := ty7) 2 ([] : dy8) rfl Try.underlying24 Try.zeroValue3 Try.sizeOf3 rfl rfl rfl rfl rfl rfl rfl) rfl ?_
  refine ao_r (r_assign rfl) rfl ?_
  refine ao_r (r_assign rfl) rfl ?_
  refine ao_nil ?_
  refine aq_then ?_
  refine aw_join (fun (s2 : Int × Int × Int) => [(0, .ref 0 0), (3, .int .i64 s2.1), (4, .os 1)]) (fun (s2 : Int × Int × Int) => [(0, .var [.cell (.v ty5 x0), ci s2.2.1, .cell (.int .u64 s2.2.2)]), (1, .row ty7 ([] : dy8))]) (fun (s2 : Int × Int × Int) => True) h (fun s2 hI h => ?_) (fun h j4 => ?_)
  refine aw_seq ?_
  refine aw_region ?_
  refine ao_r (r_build_zero (t := ty7) Try.underlying47 Try.zeroValue47 Try.sizeOf3 rfl) rfl ?_
  refine ao_eff trivial (e_alloc 2 (y := .v (.arr 4 ty7) ((List.replicate 4 0) : dy8)) Try.zeroValue47 (fun ρ h M => ra_zero_arr (t := ty7) rfl) rfl rfl rfl rfl rfl) rfl ?_
  refine ao_effS trivial (e_store rfl rfl rfl rfl Try.sizeOf47 rfl) ?_
  refine ao_nil ?_
  refine aq_then ?_
  refine aw_seq ?_
  refine aw_block ?_
  refine aw_loop (AL.sub (sub_r1 idn (nk1 rfl rfl) (by kernel_rfl)) (al_whl (fun (s5 : Int × Int × dy8 × dy8) => [(0, .ref 0 0), (3, .int .i64 s2.1), (4, .os 1), (5, .ref 2 0)]) (fun (s5 : Int × Int × dy8 × dy8) => [(0, .var [.cell (.v ty5 x0), ci s5.1, .cell (.int .u64 s5.2.1)]), (1, .row ty7 s5.2.2.1), (2, .var [.arr ty7 4 s5.2.2.2])]) (fun (s5 : Int × Int × dy8 × dy8) => (s5.2.2.2.length : Int) = 4) h (by (try simp only [List.length_set, List.length_append, List.length_cons, List.length_nil, List.length_replicate, List.length_take, List.length_drop]) <;> omega) (fun d7 s5 hI h ih7 => ?_)))
  replace h := is_whlS h
  refine al_round ?_
  refine aw_seq ?_
  refine aw_seq ?_
  refine aw_region ?_
  refine ao_r (r_move rfl) rfl ?_
  refine ao_r (r_len_osm (s5.2.2.1.length : Int) Try.underlying24 rfl rfl rfl) rfl ?_
  refine ao_r (r_move rfl) rfl ?_
  refine ao_r (r_mul rfl rfl) rfl ?_
  refine ao_r (r_lss rfl rfl) rfl ?_
  refine ao_nil ?_
  refine aq_then ?_
  refine aw_cond rfl (fun hb9 => ?_) (fun hb9 => ?_)
  have q10 := d_t hb9
  replace h := is_if (d_t hb9) h
  refine aw_skip ?_
  refine aq_then ?_
  refine aw_block ?_
  refine aw_seq ?_
  refine aw_region ?_
  refine ao_r (r_move rfl) rfl ?_
  refine ao_r (r_move rfl) rfl ?_
  obtain ⟨r12, r12h, h⟩ := is_bind h
  refine ao_callV [0] 3 trivial (c_spec_l1Cur_pick (is_mk r12h)) Try.func56 rfl rfl rfl rfl rfl ⟨rfl, trivial⟩ ⟨⟨_, rfl, ⟨ad_ren rfl, rfl, ad_ren rfl, rfl, ad_ren rfl, rfl, trivial⟩⟩, trivial⟩ rfl rfl rfl rfl rfl rfl rfl (fun r' H' hr => ?_)
  obtain ⟨rfl, rfl⟩ := hr
  refine ao_norm (y := .int .i64 r12.1) (H' := [(1, .row ty7 s5.2.2.1), (2, .var [.arr ty7 4 s5.2.2.2]), (0, .var [.cell (.v ty5 x0), ci r12.2.1, .cell (.int .u64 r12.2.2)])]) rfl rfl ?_
  refine ao_r (r_assign rfl) rfl ?_
  refine ao_nil ?_
  refine aq_then ?_
  refine aw_seq ?_
  refine aw_region ?_
  refine ao_r (r_move rfl) rfl ?_
  obtain ⟨g13, h⟩ := is_guard h
  obtain ⟨g14, h⟩ := is_guard h
  refine ao_r (r_idxAddr_arr (i := r12.1) Try.underlying47 Try.sizeOf3 rfl rfl (show 0 ≤ r12.1 from by omega) (show r12.1 < (4 : Int) from by omega)) rfl ?_
  refine ao_r (r_load_elema_int Try.isAgg3 Try.sizeOf3 rfl rfl rfl (show r12.1.toNat < 4 from by omega)) rfl ?_
  refine ao_r (r_lss rfl rfl) rfl ?_
  refine ao_nil ?_
  refine aq_then ?_
  refine aw_cond rfl (fun hb15 => ?_) (fun hb15 => ?_)
  have q16 : (s5.2.2.2.getD r12.1.toNat 0) < 6 := d_t hb15
  replace h := is_if (d_t hb15) h
  refine aw_seq ?_
  refine aw_region ?_
  refine ao_r (r_move rfl) rfl ?_
  refine ao_r (r_move rfl) rfl ?_
  refine ao_eff trivial (e_buildSlice (l := [(0, .tmp 27)]) (t := ty7) 3 ([r12.1] : dy8) rfl Try.underlying24 Try.zeroValue3 Try.sizeOf3 rfl rfl rfl rfl rfl rfl rfl) rfl ?_
  obtain ⟨g18, h⟩ := is_guard h
  refine ao_eff trivial (e_append (t := ty7) 4 rfl Try.underlying24 (rfl : Try.prog.info? 3 = some _) rfl rfl rfl rfl rfl rfl rfl (src_os rfl) (show s5.2.2.1.length + ([r12.1] : dy8).length ≤ 1000000000 from by (try simp only [List.length_cons, List.length_nil]) <;> omega) rfl rfl) rfl ?_
  refine ao_r (r_assign rfl) rfl ?_
  refine ao_nil ?_
  refine aq_then ?_
  refine aw_region ?_
  refine ao_r (r_move rfl) rfl ?_
  refine ao_r (r_idxAddr_arr (i := r12.1) Try.underlying47 Try.sizeOf3 rfl rfl (show 0 ≤ r12.1 from by omega) (show r12.1 < (4 : Int) from by omega)) rfl ?_
  refine ao_r (r_load_elema_int Try.isAgg3 Try.sizeOf3 rfl rfl rfl (show r12.1.toNat < 4 from by omega)) rfl ?_
  refine ao_r (r_add rfl rfl) rfl ?_
  refine ao_r (r_idxAddr_arr (i := r12.1) Try.underlying47 Try.sizeOf3 rfl rfl (show 0 ≤ r12.1 from by omega) (show r12.1 < (4 : Int) from by omega)) rfl ?_
  refine ao_effS trivial (e_store_elema_int Try.sizeOf3 rfl rfl rfl rfl (show r12.1.toNat < 4 from by omega) rfl) ?_
  refine ao_nil ?_
  refine aq_in ?_
  exact aq_again (AL.sub (sub_r1 (rn [(1, 4)]) (nk1 rfl rfl) (by kernel_rfl)) (ih7 (r12.2.1, r12.2.2, (s5.2.2.1 ++ [r12.1]), (s5.2.2.2.set r12.1.toNat (IntKind.wrap .i64 ((s5.2.2.2.getD r12.1.toNat 0) + 1)))) (by (try simp only [List.length_set, List.length_append, List.length_cons, List.length_nil, List.length_replicate, List.length_take, List.length_drop]) <;> omega) h))
  have q17 : ¬ ((s5.2.2.2.getD r12.1.toNat 0) < 6) := d_f hb15
  replace h := is_else (d_f hb15) h
  refine aw_skip ?_
  refine aq_in ?_
  exact aq_again (AL.sub (sub_r1 idn (nk1 rfl rfl) (by kernel_rfl)) (ih7 (r12.2.1, r12.2.2, s5.2.2.1, s5.2.2.2) (by (try simp only [List.length_set, List.length_append, List.length_cons, List.length_nil, List.length_replicate, List.length_take, List.length_drop]) <;> omega) h))
  have q11 := d_f hb9
  replace h := is_else (d_f hb9) h
  refine aw_exit ?_
  refine aq_then_exit ?_
  refine aq_then_exit ?_
  refine aq_in_exit ?_
  refine aq_then ?_
  refine aw_seq ?_
  refine aw_seq ?_
  refine aw_region ?_
  refine ao_r (r_move rfl) rfl ?_
  obtain ⟨r19, r19h, h⟩ := is_bind h
  refine ao_callV [0] 3 trivial (c_spec_l1Cur_pick (is_mk r19h)) Try.func56 rfl rfl rfl rfl rfl ⟨rfl, trivial⟩ ⟨⟨_, rfl, ⟨ad_ren rfl, rfl, ad_ren rfl, rfl, ad_ren rfl, rfl, trivial⟩⟩, trivial⟩ rfl rfl rfl rfl rfl rfl rfl (fun r' H' hr => ?_)
  obtain ⟨rfl, rfl⟩ := hr
  refine ao_norm (y := .int .i64 r19.1) (H' := [(1, .row ty7 s5.2.2.1), (2, .var [.arr ty7 4 s5.2.2.2]), (0, .var [.cell (.v ty5 x0), ci r19.2.1, .cell (.int .u64 r19.2.2)])]) rfl rfl ?_
  refine ao_nil ?_
  refine aq_then ?_
  refine aw_block ?_
  refine aw_seq ?_
  refine aw_region ?_
  refine ao_r (r_eql rfl rfl) rfl ?_
  refine ao_r (r_assign rfl) rfl ?_
  refine ao_nil ?_
  refine aq_then ?_
  refine aw_cond rfl (fun hb20 => ?_) (fun hb20 => ?_)
  have q21 := d_t hb20
  replace h := is_if (d_t hb20) h
  refine aw_region ?_
  refine ao_r (r_move rfl) rfl ?_
  refine ao_r (r_move rfl) rfl ?_
  refine ao_r (r_move rfl) rfl ?_
  refine ao_r (r_len_osm (s5.2.2.1.length : Int) Try.underlying24 rfl rfl rfl) rfl ?_
  obtain ⟨r23, r23h, h⟩ := is_bind h
  refine ao_callV [0] 3 trivial (c_spec_l1Cur_pick (is_mk r23h)) Try.func56 rfl rfl rfl rfl rfl ⟨rfl, trivial⟩ ⟨⟨_, rfl, ⟨ad_ren rfl, rfl, ad_ren rfl, rfl, ad_ren rfl, rfl, trivial⟩⟩, trivial⟩ rfl rfl rfl rfl rfl rfl rfl (fun r' H' hr => ?_)
  obtain ⟨rfl, rfl⟩ := hr
  refine ao_norm (y := .int .i64 r23.1) (H' := [(1, .row ty7 s5.2.2.1), (2, .var [.arr ty7 4 s5.2.2.2]), (0, .var [.cell (.v ty5 x0), ci r23.2.1, .cell (.int .u64 r23.2.2)])]) rfl rfl ?_
  refine ao_r (r_move rfl) rfl ?_
  refine ao_r (r_move rfl) rfl ?_
  refine ao_eff trivial (e_buildSlice (l := [(0, .const (.int .i64 (-1))), (1, .const (.int .i64 0)), (2, .tmp 45), (3, .const (.int .i64 4)), (4, .const (.int .i64 4611686018427387904))]) (t := ty7) 3 ([(-1), 0, s2.1, 4, 4611686018427387904] : dy8) rfl Try.underlying24 Try.zeroValue3 Try.sizeOf3 rfl rfl rfl rfl rfl rfl rfl) rfl ?_
  obtain ⟨r24, r24h, h⟩ := is_bind h
  refine ao_frz (fr' := [(0, .ref 0 0), (3, .int .i64 s2.1), (4, .os 1), (5, .ref 2 0), (14, .os 1), (15, .int .i64 (s5.2.2.1.length : Int)), (16, .int .i64 s2.1), (17, .int .i64 (IntKind.wrap .i64 (6 * s2.1))), (18, .bool (decide ((s5.2.2.1.length : Int) < (IntKind.wrap .i64 (6 * s2.1))))), (35, .ref 0 0), (36, .int .i64 r19.1), (38, .bool (decide (r19.1 = 0))), (37, .bool (decide (r19.1 = 0))), (39, .os 1), (40, .ref 0 0), (41, .os 1), (42, .int .i64 (s5.2.2.1.length : Int)), (43, .int .i64 r23.1), (44, .ref 0 0), (45, .int .i64 s2.1), (46, .v ty3 ([(-1), 0, s2.1, 4, 4611686018427387904] : dy8))]) (H' := [(1, .row ty7 s5.2.2.1), (2, .var [.arr ty7 4 s5.2.2.2]), (0, .var [.cell (.v ty5 x0), ci r23.2.1, .cell (.int .u64 r23.2.2)])]) (by exact ⟨⟨_, rfl, ad_ren rfl⟩, ⟨_, rfl, ad_ren rfl⟩, ⟨_, rfl, ad_ren rfl⟩, ⟨_, rfl, ad_ren rfl⟩, ⟨_, rfl, ad_ren rfl⟩, ⟨_, rfl, ad_ren rfl⟩, ⟨_, rfl, ad_ren rfl⟩, ⟨_, rfl, ad_ren rfl⟩, ⟨_, rfl, ad_ren rfl⟩, ⟨_, rfl, ad_ren rfl⟩, ⟨_, rfl, ad_ren rfl⟩, ⟨_, rfl, ad_ren rfl⟩, ⟨_, rfl, ad_ren rfl⟩, ⟨_, rfl, ad_ren rfl⟩, ⟨_, rfl, ad_ren rfl⟩, ⟨_, rfl, ad_ren rfl⟩, ⟨_, rfl, ad_ren rfl⟩, ⟨_, rfl, ad_ren rfl⟩, ⟨_, rfl, ad_ren rfl⟩, ⟨_, rfl, ad_ren rfl⟩, ⟨_, rfl, ad_osB rfl rfl⟩, trivial⟩) (by exact ⟨⟨_, rfl, rfl⟩, ⟨_, rfl, ⟨rfl, trivial⟩⟩, ⟨_, rfl, ⟨ad_ren rfl, rfl, ad_ren rfl, rfl, ad_ren rfl, rfl, trivial⟩⟩, trivial⟩) rfl ?_
  refine ao_callV [0] 4 trivial (c_spec_l1Cur_among (is_mk r24h)) Try.func48 rfl rfl rfl rfl rfl ⟨rfl, trivial⟩ ⟨⟨_, rfl, ⟨ad_ren rfl, rfl, ad_ren rfl, rfl, ad_ren rfl, rfl, trivial⟩⟩, trivial⟩ rfl rfl rfl rfl rfl rfl rfl (fun r' H' hr => ?_)
  obtain ⟨rfl, rfl⟩ := hr
  refine ao_norm (y := .int .i64 r24.1) (H' := [(1, .row ty7 s5.2.2.1), (2, .var [.arr ty7 4 s5.2.2.2]), (0, .var [.cell (.v ty5 x0), ci r24.2.1, .cell (.int .u64 r24.2.2)])]) rfl rfl ?_
  obtain ⟨g25, h⟩ := is_guard h
  obtain ⟨g26, h⟩ := is_guard h
  refine ao_r (r_idxAddr_os Try.underlying24 Try.sizeOf3 rfl rfl rfl (show 0 ≤ r23.1 from by omega) (show r23.1 < (s5.2.2.1.length : Int) from by omega)) rfl ?_
  refine ao_effS trivial (e_store_elem_int Try.sizeOf3 rfl rfl rfl rfl (show r23.1.toNat < s5.2.2.1.length from by omega) rfl) ?_
  refine ao_nil ?_
  refine aq_in ?_
  refine aq_then ?_
  refine aw_seq ?_
  refine aw_region ?_
  refine ao_r (r_move rfl) rfl ?_
  refine ao_r (r_assign rfl) rfl ?_
  refine ao_nil ?_
  refine aq_then ?_
  refine aw_ret ?_
  refine aq_ret ?_
  obtain rfl := is_some h
  exact aq_finV (l := [.tmp 2]) (xs := [.os 1]) idn [.os 1] [(0, .var [.cell (.v ty5 x0), ci r24.2.1, .cell (.int .u64 r24.2.2)]), (1, .row ty7 ((s5.2.2.1.set r23.1.toNat r24.1) : dy8))] rfl (by exact ⟨rfl, trivial⟩) (by exact ⟨ad_ren rfl, trivial⟩) (by exact ⟨⟨_, rfl, ⟨ad_ren rfl, rfl, ad_ren rfl, rfl, ad_ren rfl, rfl, trivial⟩⟩, ⟨_, rfl, rfl⟩, trivial⟩) rfl (nk1 rfl rfl) ⟨rfl, rfl⟩
  have q22 := d_f hb20
  replace h := is_else (d_f hb20) h
  refine aw_seq ?_
  refine aw_region ?_
  refine ao_r (r_eql rfl rfl) rfl ?_
  refine ao_r (r_assign rfl) rfl ?_
  refine ao_nil ?_
  refine aq_then ?_
  refine aw_cond rfl (fun hb27 => ?_) (fun hb27 => ?_)
  have q28 := d_t hb27
  replace h := is_if (d_t hb27) h
  refine aw_seq ?_
  refine aw_region ?_
  refine ao_r (r_move rfl) rfl ?_
  refine ao_r (r_move rfl) rfl ?_
  refine ao_r (r_len_osm (s5.2.2.1.length : Int) Try.underlying24 rfl rfl rfl) rfl ?_
  refine ao_r (r_sub rfl rfl) rfl ?_
  obtain ⟨g30, h⟩ := is_guard h
  obtain ⟨g31, h⟩ := is_guard h
  refine ao_eff trivial (e_shrink (t := ty7) 3 rfl Try.underlying24 Try.sizeOf3 rfl rfl (.some rfl) (by omega) (show (IntKind.wrap .i64 ((s5.2.2.1.length : Int) - 1)) ≤ (s5.2.2.1.length : Int) from by omega) rfl rfl) rfl ?_
  refine ao_r (r_assign rfl) rfl ?_
  refine ao_nil ?_
  refine aq_then ?_
  refine aw_ret ?_
  refine aq_in_ret ?_
  refine aq_then_ret ?_
  refine aq_ret ?_
  obtain rfl := is_some h
  exact aq_finV (l := [.tmp 2]) (xs := [.os 3]) (rn [(1, 3)]) [.os 1] [(0, .var [.cell (.v ty5 x0), ci r19.2.1, .cell (.int .u64 r19.2.2)]), (1, .row ty7 ((s5.2.2.1.take (IntKind.wrap .i64 ((s5.2.2.1.length : Int) - 1)).toNat) : dy8))] rfl (by exact ⟨rfl, trivial⟩) (by exact ⟨ad_ren rfl, trivial⟩) (by exact ⟨⟨_, rfl, ⟨ad_ren rfl, rfl, ad_ren rfl, rfl, ad_ren rfl, rfl, trivial⟩⟩, ⟨_, rfl, rfl⟩, trivial⟩) rfl (nk1 rfl rfl) ⟨rfl, rfl⟩
  have q29 := d_f hb27
  replace h := is_else (d_f hb27) h
  refine aw_seq ?_
  refine aw_region ?_
  refine ao_r (r_eql rfl rfl) rfl ?_
  refine ao_r (r_assign rfl) rfl ?_
  refine ao_nil ?_
  refine aq_then ?_
  refine aw_cond rfl (fun hb32 => ?_) (fun hb32 => ?_)
  have q33 := d_t hb32
  replace h := is_if (d_t hb32) h
  refine aw_seq ?_
  refine aw_region ?_
  refine ao_eff trivial (e_buildSlice (l := []) (t := ty7) 3 ([] : dy8) rfl Try.underlying24 Try.zeroValue3 Try.sizeOf3 rfl rfl rfl rfl rfl rfl rfl) rfl ?_
  refine ao_r (r_assign rfl) rfl ?_
  refine ao_nil ?_
  refine aq_then ?_
  refine aw_ret ?_
  refine aq_in_ret ?_
  refine aq_then_ret ?_
  refine aq_ret ?_
  obtain rfl := is_some h
  exact aq_finV (l := [.tmp 2]) (xs := [.os 3]) (rn [(1, 3)]) [.os 1] [(0, .var [.cell (.v ty5 x0), ci r19.2.1, .cell (.int .u64 r19.2.2)]), (1, .row ty7 ([] : dy8))] rfl (by exact ⟨rfl, trivial⟩) (by exact ⟨ad_ren rfl, trivial⟩) (by exact ⟨⟨_, rfl, ⟨ad_ren rfl, rfl, ad_ren rfl, rfl, ad_ren rfl, rfl, trivial⟩⟩, ⟨_, rfl, rfl⟩, trivial⟩) rfl (nk1 rfl rfl) ⟨rfl, rfl⟩
  have q34 := d_f hb32
  replace h := is_else (d_f hb32) h
  refine aw_skip ?_
  refine aq_in ?_
  refine aq_then ?_
  refine aw_seq ?_
  refine aw_region ?_
  refine ao_r (r_move rfl) rfl ?_
  refine ao_r (r_assign rfl) rfl ?_
  refine ao_nil ?_
  refine aq_then ?_
  refine aw_ret ?_
  refine aq_ret ?_
  obtain rfl := is_some h
  exact aq_finV (l := [.tmp 2]) (xs := [.os 1]) idn [.os 1] [(0, .var [.cell (.v ty5 x0), ci r19.2.1, .cell (.int .u64 r19.2.2)]), (1, .row ty7 s5.2.2.1)] rfl (by exact ⟨rfl, trivial⟩) (by exact ⟨ad_ren rfl, trivial⟩) (by exact ⟨⟨_, rfl, ⟨ad_ren rfl, rfl, ad_ren rfl, rfl, ad_ren rfl, rfl, trivial⟩⟩, ⟨_, rfl, rfl⟩, trivial⟩) rfl (nk1 rfl rfl) ⟨rfl, rfl⟩
  refine aw_seq ?_
  refine aw_region ?_
  refine ao_r (r_move rfl) rfl ?_
  obtain ⟨r35, r35h, h⟩ := is_bind h
  refine ao_callV [0] 3 trivial (c_spec_l1Cur_one (is_mk r35h)) Try.func55 rfl rfl rfl rfl rfl ⟨rfl, trivial⟩ ⟨⟨_, rfl, ⟨ad_ren rfl, rfl, ad_ren rfl, rfl, ad_ren rfl, rfl, trivial⟩⟩, trivial⟩ rfl rfl rfl rfl rfl rfl rfl (fun r' H' hr => ?_)
  obtain ⟨rfl, rfl⟩ := hr
  refine ao_norm (y := .bool r35.1) (H' := [(2, .row ty7 ([] : dy8)), (0, .var [.cell (.v ty5 x0), ci r35.2.1, .cell (.int .u64 r35.2.2)])]) rfl rfl ?_
  refine ao_nil ?_
  refine aq_then ?_
  refine aw_cond rfl (fun hb36 => ?_) (fun hb36 => ?_)
  replace h := is_if hb36 h
  refine aw_region ?_
  refine ao_r (r_assign rfl) rfl ?_
  refine ao_nil ?_
  exact aq_then (AW.sub (sub_r1 (rn [(1, 2)]) (nk1 rfl rfl) (by kernel_rfl)) (j4 (4, r35.2.1, r35.2.2) trivial h))
  replace h := is_else (ne_t hb36) h
  refine aw_skip ?_
  exact aq_then (AW.sub (sub_r1 (rn [(1, 2)]) (nk1 rfl rfl) (by kernel_rfl)) (j4 (r1.1, r35.2.1, r35.2.2) trivial h))
theorem c_spec_DrawMendLetters {fu : Nat} {x0 : dy8} {r : dy8} (h : Is (p_spec_DrawMendLetters fu x0) (some r)) :
    ACalls Try.prog 5 [.v ty5 x0] [] (fun r' H' => r' = .os 0 ∧ H' = [(0, .row ty7 r)]) := by
  unfold p_spec_DrawMendLetters at h
  refine ac_enter ⟨16, 0⟩ Try.func5 rfl rfl rfl rfl rfl (fun Γ => ?_)
  refine sl_len_m 0 (x0.length : Int) rfl rfl (fun hl0 => ?_)
  refine aw_seq ?_
  refine aw_region ?_
  refine ao_r (r_assign rfl) rfl ?_
  refine ao_nil ?_
  refine aq_then ?_
  refine aw_seq ?_
  refine aw_region ?_
  refine ao_r (r_move rfl) rfl ?_
  refine ao_r (r_build_st (l := [(0, .tmp 5)]) (cs := [.cell (.v ty5 x0), ci 0, .cell (.int .u64 0)]) (.pair ty5 (.pair ty7 (.pair (.int .u64) .unit))) [(0, 1), (1, 1), (2, 1)] Try.underlying53 Try.zeroValue53 rfl ⟨rfl, Try.sizeOf22, rfl, Try.sizeOf3, rfl, Try.sizeOf51, trivial⟩ rfl rfl rfl) rfl ?_
  refine ao_eff trivial (e_box 0 rfl rfl rfl rfl rfl rfl) rfl ?_
  refine ao_r (r_assign rfl) rfl ?_
  refine ao_nil ?_
  refine aq_then ?_
  refine aw_seq ?_
  refine aw_region ?_
  refine ao_r (r_move rfl) rfl ?_
  obtain ⟨r1, r1h, h⟩ := is_bind h
  refine ao_callV [0] 1 trivial (c_spec_l1Cur_letters10 (is_mk r1h)) Try.func28 rfl rfl rfl rfl rfl ⟨rfl, trivial⟩ ⟨⟨_, rfl, ⟨ad_ren rfl, rfl, ad_ren rfl, rfl, ad_ren rfl, rfl, trivial⟩⟩, trivial⟩ rfl rfl rfl rfl rfl rfl rfl (fun r' H' hr => ?_)
  obtain ⟨rfl, rfl⟩ := hr
  refine ao_norm (y := .os 1) (H' := [(0, .var [.cell (.v ty5 x0), ci r1.2.1, .cell (.int .u64 r1.2.2)]), (1, .row ty7 r1.1)]) rfl rfl ?_
  refine row_len_o 1 (r1.1.length : Int) rfl rfl (fun hr2 => ?_)
  refine ao_r (r_assign rfl) rfl ?_
  refine ao_nil ?_
  refine aq_then ?_
  refine aw_seq ?_
  refine aw_seq ?_
  refine aw_region ?_
  refine ao_r (r_move rfl) rfl ?_
  refine ao_r (r_len_osm (r1.1.length : Int) Try.underlying24 rfl rfl rfl) rfl ?_
  refine ao_r (r_gtr rfl rfl) rfl ?_
  refine ao_nil ?_
  refine aq_then ?_
  refine aw_cond rfl (fun hb3 => ?_) (fun hb3 => ?_)
  have q4 := d_t hb3
  replace h := is_if (d_t hb3) h
  refine aw_seq ?_
  refine aw_region ?_
  refine ao_r (r_move rfl) rfl ?_
  refine ao_eff trivial (e_shrink (t := ty7) 2 rfl Try.underlying24 Try.sizeOf3 rfl rfl (.some rfl) (by omega) (show 18 ≤ (r1.1.length : Int) from by omega) rfl rfl) rfl ?_
  refine ao_r (r_assign rfl) rfl ?_
  refine ao_nil ?_
  refine aq_then ?_
  refine aw_ret ?_
  refine aq_then_ret ?_
  refine aq_ret ?_
  obtain rfl := is_some h
  exact aq_finx (l := [.tmp 2]) (xs := [.os 2]) (rn [(0, 2)]) [.os 0] [(0, .row ty7 ((r1.1.take 18) : dy8))] rfl (by exact ⟨rfl, trivial⟩) (by exact ⟨ad_ren rfl, trivial⟩) (by exact ⟨⟨_, rfl, rfl⟩, trivial⟩) rfl (nk rfl) rfl rfl ⟨rfl, rfl⟩
  have q5 := d_f hb3
  replace h := is_else (d_f hb3) h
  refine aw_skip ?_
  refine aq_then ?_
  refine aw_seq ?_
  refine aw_region ?_
  refine ao_r (r_move rfl) rfl ?_
  refine ao_r (r_assign rfl) rfl ?_
  refine ao_nil ?_
  refine aq_then ?_
  refine aw_ret ?_
  refine aq_ret ?_
  obtain rfl := is_some h
  exact aq_finx (l := [.tmp 2]) (xs := [.os 1]) (rn [(0, 1)]) [.os 0] [(0, .row ty7 r1.1)] rfl (by exact ⟨rfl, trivial⟩) (by exact ⟨ad_ren rfl, trivial⟩) (by exact ⟨⟨_, rfl, rfl⟩, trivial⟩) rfl (nk rfl) rfl rfl ⟨rfl, rfl⟩
theorem c_impl_within {x0 : Int} {x1 : Int} {x2 : Int} {r : Bool} (h : Is (p_impl_within x0 x1 x2) r) :
    Scalar Try.prog 49 [.int .i64 x0, .int .i64 x1, .int .i64 x2] (.bool r) := by
  unfold p_impl_within at h
  refine ac_enter ⟨15, 0⟩ Try.func49 rfl rfl rfl rfl rfl (fun Γ => ?_)
  refine aw_seq ?_
  refine aw_region ?_
  refine ao_r (r_assign rfl) rfl ?_
  refine ao_nil ?_
  refine aq_then ?_
  refine aw_seq ?_
  refine aw_region ?_
  refine ao_r (r_move rfl) rfl ?_
  refine ao_r (r_move rfl) rfl ?_
  refine ao_r (r_leq rfl rfl) rfl ?_
  refine ao_r (r_move rfl) rfl ?_
  refine ao_readG (x := .int .i64 x0) rfl (GV.T rfl) (fun hg1 => by
        have q2 := d_t hg1
        exact r_move rfl) rfl ?_
  refine ao_readG (x := .int .i64 x2) rfl (GV.T rfl) (fun hg3 => by
        have q4 := d_t hg3
        exact r_move rfl) rfl ?_
  refine ao_readG (x := .bool (decide (x0 ≤ x2))) rfl (GV.T rfl) (fun hg5 => by
        have q6 := d_t hg5
        exact Reads.strip 11 rfl (hg5) (Reads.strip 12 rfl (hg5) (r_leq rfl rfl))) rfl ?_
  refine ao_r (r_andB rfl rfl) rfl ?_
  refine ao_r (r_assign rfl) rfl ?_
  refine ao_nil ?_
  refine aq_then ?_
  refine aw_ret ?_
  refine aq_ret ?_
  obtain rfl := is_eq h
  exact aq_finx (l := [.tmp 6]) (xs := [.bool ((decide (x1 ≤ x0)) && (decide (x0 ≤ x2)))]) idn [.bool ((decide (x1 ≤ x0)) && (decide (x0 ≤ x2)))] [] rfl (by exact ⟨rfl, trivial⟩) (by exact ⟨ad_ren rfl, trivial⟩) (by exact trivial) rfl (nk rfl) rfl rfl ⟨rfl, rfl⟩
theorem c_impl_fromLetters {x0 : dy8} {r : dy6 × Bool} (h : Is (p_impl_fromLetters x0) (some r)) :
    ACalls Try.prog 29 [.v ty3 x0] [] (fun r' H' => r' = .tup [.os 0, .bool r.2] ∧ H' = [(0, .row ty4 r.1)]) := by
  unfold p_impl_fromLetters at h
  refine ac_enter ⟨62, 0⟩ Try.func29 rfl rfl rfl rfl rfl (fun Γ => ?_)
  refine sl_len_m 0 (x0.length : Int) rfl rfl (fun hl0 => ?_)
  refine aw_seq ?_
  refine aw_region ?_
  refine ao_r (r_assign rfl) rfl ?_
  refine ao_r (r_assign rfl) rfl ?_
  refine ao_nil ?_
  refine aq_then ?_
  refine aw_seq ?_
  refine aw_region ?_
  refine ao_r (r_move rfl) rfl ?_
  refine ao_r (r_len_vm (x0.length : Int) Try.underlying24 rfl rfl) rfl ?_
  refine ao_r (r_quo rfl rfl (by decide)) rfl ?_
  refine ao_r (r_assign rfl) rfl ?_
  refine ao_nil ?_
  refine aq_then ?_
  refine aw_seq ?_
  refine aw_seq ?_
  refine aw_region ?_
  refine ao_r (r_move rfl) rfl ?_
  refine ao_r (r_len_vm (x0.length : Int) Try.underlying24 rfl rfl) rfl ?_
  refine ao_r (r_rem rfl rfl (by decide)) rfl ?_
  refine ao_r (r_neq rfl rfl) rfl ?_
  refine ao_r (r_move rfl) rfl ?_
  refine ao_readG (x := .int .i64 (IntKind.wrap .i64 ((x0.length : Int).tdiv 6))) rfl (GV.F rfl) (fun hg1 => by
        have q2 := d_t (not_f (not_t hg1))
        exact r_move rfl) rfl ?_
  refine ao_scallG (r := .bool (p_impl_within (IntKind.wrap .i64 ((x0.length : Int).tdiv 6)) 1 4)) rfl (GV.F rfl) (fun hg3 => by
        have q4 := d_t (not_f (not_t hg3))
        exact SCall.strip 17 rfl (hg3) (scall (c_impl_within (is_mk (rfl : p_impl_within (IntKind.wrap .i64 ((x0.length : Int).tdiv 6)) 1 4 = _))) rfl Try.func49 rfl rfl rfl rfl (fun σ => ⟨ad_ren rfl, ad_ren rfl, ad_ren rfl, trivial⟩))) rfl ?_
  refine ao_readG (x := .bool (!(p_impl_within (IntKind.wrap .i64 ((x0.length : Int).tdiv 6)) 1 4))) rfl (GV.F rfl) (fun hg5 => by
        have q6 := d_t (not_f (not_t hg5))
        exact Reads.strip 18 rfl (hg5) (r_not rfl)) rfl ?_
  refine ao_r (r_orB rfl rfl) rfl ?_
  refine ao_nil ?_
  refine aq_then ?_
  refine aw_cond rfl (fun hb7 => ?_) (fun hb7 => ?_)
  replace h := is_if hb7 h
  refine aw_seq ?_
  refine aw_region ?_
  refine ao_r (r_assign rfl) rfl ?_
  refine ao_r (r_assign rfl) rfl ?_
  refine ao_nil ?_
  refine aq_then ?_
  refine aw_ret ?_
  refine aq_then_ret ?_
  refine aq_ret ?_
  obtain rfl := is_some h
  refine AQ.sub (sub_nil (T := 2) (t := ty4) 0 rfl rfl rfl) ?_
  exact aq_finx (l := [.tmp 2, .tmp 3]) (xs := [.os 0, .bool false]) idn [.os 0, .bool false] [(0, .row ty4 ([] : dy6))] rfl (by exact ⟨rfl, rfl, trivial⟩) (by exact ⟨ad_ren rfl, ad_ren rfl, trivial⟩) (by exact ⟨⟨_, rfl, rfl⟩, trivial⟩) rfl (nk rfl) rfl rfl ⟨rfl, rfl⟩
  obtain ⟨q8, q9⟩ := or_f hb7
  have q10 := d_t (not_f q8)
  replace h := is_else (ne_t hb7) h
  refine aw_skip ?_
  refine aq_then ?_
  refine aw_seq ?_
  obtain ⟨g11, h⟩ := is_guard h
  obtain ⟨g12, h⟩ := is_guard h
  refine aw_drawAll (by kernel_rfl) ?_
  refine an_to [(0, .v ty3 x0), (4, .int .i64 (IntKind.wrap .i64 ((x0.length : Int).tdiv 6))), (5, .os 0), (6, .os 1)] [(0, .row ty4 ((List.replicate (IntKind.wrap .i64 ((x0.length : Int).tdiv 6)).toNat (List.replicate 6 0)) : dy6)), (1, .row ty7 ((List.replicate (IntKind.wrap .i64 ((x0.length : Int).tdiv 6)).toNat 0) : dy8))] ?_ (fun key => ?_)
  refine aq_then ?_
  refine aw_seq ?_
  refine aw_seq ?_
  refine aw_region ?_
  refine ao_r (r_move rfl) rfl ?_
  refine ao_r (r_len_vm (x0.length : Int) Try.underlying24 rfl rfl) rfl ?_
  refine ao_r (r_move rfl) rfl ?_
  refine ao_nil ?_
  refine aq_then ?_
  refine aw_block ?_
  refine aw_loop (AL.sub (fr' := [(4, .int .i64 (IntKind.wrap .i64 ((x0.length : Int).tdiv 6))), (5, .os 0), (6, .os 1), (25, .v ty3 x0), (26, .int .i64 (x0.length : Int)), (27, .int .i64 0)]) (H' := [(0, .row ty4 ((List.replicate (IntKind.wrap .i64 ((x0.length : Int).tdiv 6)).toNat (List.replicate 6 0)) : dy6)), (1, .row ty7 ((List.replicate (IntKind.wrap .i64 ((x0.length : Int).tdiv 6)).toNat 0) : dy8))]) (sub_r1 idn (nk rfl) (by kernel_rfl)) (al_cnt (fun i14 (s13 : dy6 × dy8) => [(4, .int .i64 (IntKind.wrap .i64 ((x0.length : Int).tdiv 6))), (5, .os 0), (6, .os 1), (25, .v ty3 x0), (26, .int .i64 (x0.length : Int)), (27, .int .i64 i14)]) (fun i14 (s13 : dy6 × dy8) => [(0, .row ty4 s13.1), (1, .row ty7 s13.2)]) (fun d i14 (s13 : dy6 × dy8) => d = Int.toNat ((x0.length : Int) - i14) ∧ 0 ≤ i14 ∧ (s13.1.length : Int) = (IntKind.wrap .i64 ((x0.length : Int).tdiv 6)) ∧ (s13.2.length : Int) = (IntKind.wrap .i64 ((x0.length : Int).tdiv 6)) ∧ i14 ≤ (x0.length : Int)) h ⟨rfl, (by (try simp only [List.length_set, List.length_append, List.length_cons, List.length_nil, List.length_replicate, List.length_take, List.length_drop]) <;> omega), (by (try simp only [List.length_set, List.length_append, List.length_cons, List.length_nil, List.length_replicate, List.length_take, List.length_drop]) <;> omega), (by (try simp only [List.length_set, List.length_append, List.length_cons, List.length_nil, List.length_replicate, List.length_take, List.length_drop]) <;> omega), (by (try simp only [List.length_set, List.length_append, List.length_cons, List.length_nil, List.length_replicate, List.length_take, List.length_drop]) <;> omega)⟩ (fun d15 i14 s13 hI h ih15 => ?_)))
  obtain ⟨hd, _, _, _, _⟩ := hI
  refine al_round ?_
  refine aw_seq ?_
  refine aw_region ?_
  refine ao_r (r_lss rfl rfl) rfl ?_
  refine ao_nil ?_
  refine aq_then ?_
  refine aw_seq ?_
  refine aw_cond rfl (fun hb17 => ?_) (fun hb17 => ?_)
  have q18 := d_t hb17
  obtain ⟨d15, rfl⟩ : ∃ e, d15 = e + 1 := ⟨d15 - 1, by omega⟩
  replace h := is_cntS h
  refine aw_skip ?_
  refine aq_then ?_
  refine aw_seq ?_
  refine aw_block ?_
  refine aw_seq ?_
  refine aw_region ?_
  refine ao_r (r_move rfl) rfl ?_
  refine ao_r (r_idxAddr_int Try.underlying24 Try.sizeOf3 rfl rfl (show 0 ≤ i14 from by omega) (show i14 < (x0.length : Int) from by omega)) rfl ?_
  refine ao_r (r_load_c_int Try.isAgg3 Try.sizeOf3 rfl) rfl ?_
  refine ao_r (r_assign rfl) rfl ?_
  refine ao_r (r_assign rfl) rfl ?_
  refine ao_nil ?_
  refine aq_then ?_
  refine aw_seq ?_
  refine aw_seq ?_
  refine aw_region ?_
  refine ao_r (r_move rfl) rfl ?_
  refine ao_r (r_move rfl) rfl ?_
  refine ao_r (r_subI rfl rfl (wrap_id (by omega) (by omega))) rfl ?_
  refine ao_scall trivial (scall (c_impl_within (is_mk (rfl : p_impl_within (x0.getD i14.toNat 0) 0 ((IntKind.wrap .i64 ((x0.length : Int).tdiv 6)) - 1) = _))) rfl Try.func49 rfl rfl rfl rfl (fun σ => ⟨ad_ren rfl, ad_ren rfl, ad_ren rfl, trivial⟩)) rfl ?_
  refine ao_r (r_not rfl) rfl ?_
  refine ao_r (r_move rfl) rfl ?_
  refine ao_readG (x := .os 1) rfl (GV.F rfl) (fun hg20 => r_move rfl) rfl ?_
  refine ao_readG (x := .int .i64 (x0.getD i14.toNat 0)) rfl (GV.F rfl) (fun hg21 => r_move rfl) rfl ?_
  obtain ⟨g23, h⟩ := is_guard h
  obtain ⟨g24, h⟩ := is_guard h
  refine ao_readG (x := .elem 1 0 1 (x0.getD i14.toNat 0).toNat) rfl (GV.F rfl) (fun hg22 => by
        have g23a := g23 hg22
        have g24a := g24 hg22
        exact Reads.strip 38 rfl (hg22) (Reads.strip 39 rfl (hg22) (r_idxAddr_os Try.underlying24 Try.sizeOf3 rfl rfl rfl (show 0 ≤ (x0.getD i14.toNat 0) from by omega) (show (x0.getD i14.toNat 0) < (s13.2.length : Int) from by omega)))) rfl ?_
  refine ao_readG (x := .int .i64 (s13.2.getD (x0.getD i14.toNat 0).toNat 0)) rfl (GV.F rfl) (fun hg25 => by
        have w26 := g23 (hg25)
        have w27 := g24 (hg25)
        exact Reads.strip 40 rfl (hg25) (r_load_elem_int Try.isAgg3 Try.sizeOf3 rfl rfl (show (x0.getD i14.toNat 0).toNat < s13.2.length from by omega))) rfl ?_
  refine ao_readG (x := .bool (decide ((s13.2.getD (x0.getD i14.toNat 0).toNat 0) = 6))) rfl (GV.F rfl) (fun hg28 => by
        have w29 := g23 (hg28)
        have w30 := g24 (hg28)
        exact Reads.strip 41 rfl (hg28) (r_eql rfl rfl)) rfl ?_
  refine ao_r (r_orB rfl rfl) rfl ?_
  refine ao_nil ?_
  refine aq_then ?_
  refine aw_cond rfl (fun hb31 => ?_) (fun hb31 => ?_)
  replace h := is_if hb31 h
  refine aw_seq ?_
  refine aw_region ?_
  refine ao_r (r_assign rfl) rfl ?_
  refine ao_r (r_assign rfl) rfl ?_
  refine ao_nil ?_
  refine aq_then ?_
  refine aw_ret ?_
  refine aq_then_ret ?_
  refine aq_in_ret ?_
  refine aq_then_ret ?_
  refine aq_then_ret ?_
  refine aq_in_ret ?_
  refine aq_then_ret ?_
  refine aq_ret ?_
  obtain rfl := is_some h
  refine AQ.sub (sub_nil (T := 2) (t := ty4) 2 rfl rfl rfl) ?_
  exact aq_finx (l := [.tmp 2, .tmp 3]) (xs := [.os 2, .bool false]) (rn [(0, 2)]) [.os 0, .bool false] [(0, .row ty4 ([] : dy6))] rfl (by exact ⟨rfl, rfl, trivial⟩) (by exact ⟨ad_ren rfl, ad_ren rfl, trivial⟩) (by exact ⟨⟨_, rfl, rfl⟩, trivial⟩) rfl (nk rfl) rfl rfl ⟨rfl, rfl⟩
  obtain ⟨q32, q33⟩ := or_f hb31
  have q34 : ¬ ((s13.2.getD (x0.getD i14.toNat 0).toNat 0) = 6) := d_f q33
  replace h := is_else (ne_t hb31) h
  refine aw_skip ?_
  refine aq_then ?_
  refine aw_seq ?_
  obtain ⟨g35, h⟩ := is_guard h
  obtain ⟨g36, h⟩ := is_guard h
  obtain ⟨g37, h⟩ := is_guard h
  obtain ⟨g38, h⟩ := is_guard h
  refine aw_draw 10 (by kernel_rfl) (by kernel_rfl) ?_
  refine an_r 0 (fun _ _ _ h => h) rfl (by kernel_rfl) (r_move rfl) rfl ?_
  refine an_r 1 (fun _ _ _ h => h) rfl (by kernel_rfl) (r_move rfl) rfl ?_
  refine an_r 2 (fun _ _ _ h => h) rfl (by kernel_rfl) (r_move rfl) rfl ?_
  refine an_r 3 (fun _ _ _ h => h) rfl (by kernel_rfl) (r_move rfl) rfl ?_
  refine an_r 4 (fun _ _ _ h => h) rfl (by kernel_rfl) (r_idxAddr_os Try.underlying24 Try.sizeOf3 rfl rfl rfl (show 0 ≤ (x0.getD i14.toNat 0) from by omega) (show (x0.getD i14.toNat 0) < (s13.2.length : Int) from by omega)) rfl ?_
  refine an_r 5 (fun _ _ _ h => h) rfl (by kernel_rfl) (r_load_elem_int Try.isAgg3 Try.sizeOf3 rfl rfl (show (x0.getD i14.toNat 0).toNat < s13.2.length from by omega)) rfl ?_
  refine an_r 6 (fun _ _ _ h => h) rfl (by kernel_rfl) (r_move rfl) rfl ?_
  refine an_r 7 (fun _ _ _ h => h) rfl (by kernel_rfl) (r_addI rfl rfl (wrap_id (by omega) (by omega))) rfl ?_
  refine an_r 8 (fun _ _ _ h => h) rfl (by kernel_rfl) (r_idxAddr_os Try.underlying26 Try.sizeOf62 rfl rfl rfl (show 0 ≤ (x0.getD i14.toNat 0) from by omega) (show (x0.getD i14.toNat 0) < (s13.1.length : Int) from by omega)) rfl ?_
  refine an_r 9 (fun _ _ _ h => h) rfl (by kernel_rfl) (r_idxAddr_elem Try.underlying62 Try.sizeOf3 rfl rfl (by omega) (by omega)) rfl ?_
  refine an_tail rfl rfl ?_
  refine ao_effS trivial (e_store_elem2_int (m := 6) Try.sizeOf3 rfl rfl rfl rfl rfl (show (x0.getD i14.toNat 0).toNat < s13.1.length from by omega) rfl (by omega) rfl) ?_
  refine ao_nil ?_
  refine aq_then ?_
  refine aw_region ?_
  refine ao_r (r_move rfl) rfl ?_
  refine ao_r (r_move rfl) rfl ?_
  refine ao_r (r_idxAddr_os Try.underlying24 Try.sizeOf3 rfl rfl rfl (show 0 ≤ (x0.getD i14.toNat 0) from by omega) (show (x0.getD i14.toNat 0) < (s13.2.length : Int) from by omega)) rfl ?_
  refine ao_r (r_load_elem_int Try.isAgg3 Try.sizeOf3 rfl rfl (show (x0.getD i14.toNat 0).toNat < s13.2.length from by omega)) rfl ?_
  refine ao_r (r_addI rfl rfl (wrap_id (by omega) (by omega))) rfl ?_
  refine ao_r (r_idxAddr_os Try.underlying24 Try.sizeOf3 rfl rfl rfl (show 0 ≤ (x0.getD i14.toNat 0) from by omega) (show (x0.getD i14.toNat 0) < (s13.2.length : Int) from by omega)) rfl ?_
  refine ao_effS trivial (e_store_elem_int Try.sizeOf3 rfl rfl rfl rfl (show (x0.getD i14.toNat 0).toNat < s13.2.length from by omega) rfl) ?_
  refine ao_nil ?_
  refine aq_in ?_
  refine aq_then ?_
  refine aw_region ?_
  refine ao_r (r_addI rfl rfl (wrap_id (by omega) (by omega))) rfl ?_
  refine ao_r (r_move rfl) rfl ?_
  refine ao_nil ?_
  exact aq_again (AL.sub (sub_r1 idn (nk rfl) (by kernel_rfl)) (ih15 d15 (i14 + 1) ((s13.1.set (x0.getD i14.toNat 0).toNat ((s13.1.getD (x0.getD i14.toNat 0).toNat (List.replicate 6 0)).set (s13.2.getD (x0.getD i14.toNat 0).toNat 0).toNat (i14 + 1))), (s13.2.set (x0.getD i14.toNat 0).toNat ((s13.2.getD (x0.getD i14.toNat 0).toNat 0) + 1))) (by omega) ⟨by omega, (by (try simp only [List.length_set, List.length_append, List.length_cons, List.length_nil, List.length_replicate, List.length_take, List.length_drop]) <;> omega), (by (try simp only [List.length_set, List.length_append, List.length_cons, List.length_nil, List.length_replicate, List.length_take, List.length_drop]) <;> omega), (by (try simp only [List.length_set, List.length_append, List.length_cons, List.length_nil, List.length_replicate, List.length_take, List.length_drop]) <;> omega), (by (try simp only [List.length_set, List.length_append, List.length_cons, List.length_nil, List.length_replicate, List.length_take, List.length_drop]) <;> omega)⟩ h))
  have q19 := d_f hb17
  obtain rfl : d15 = 0 := by omega
  replace h := is_cnt0 h
  refine aw_exit ?_
  refine aq_then_exit ?_
  refine aq_then_exit ?_
  refine aq_in_exit ?_
  refine aq_then ?_
  refine aw_seq ?_
  refine aw_region ?_
  refine ao_r (r_move rfl) rfl ?_
  refine ao_r (r_assign rfl) rfl ?_
  refine ao_r (r_assign rfl) rfl ?_
  refine ao_nil ?_
  refine aq_then ?_
  refine aw_ret ?_
  refine aq_ret ?_
  obtain rfl := is_some h
  exact aq_finx (l := [.tmp 2, .tmp 3]) (xs := [.os 0, .bool true]) idn [.os 0, .bool true] [(0, .row ty4 s13.1)] rfl (by exact ⟨rfl, rfl, trivial⟩) (by exact ⟨ad_ren rfl, ad_ren rfl, trivial⟩) (by exact ⟨⟨_, rfl, rfl⟩, trivial⟩) rfl (nk rfl) rfl rfl ⟨rfl, rfl⟩
  refine an_r 0 (fun _ _ _ h => h) rfl (by kernel_rfl) (r_move rfl) rfl ?_
  refine an_r 2 (fun _ _ _ h => h) rfl (by kernel_rfl) (r_move rfl) rfl ?_
  refine an_explore 0 rfl ?_
  refine ax_all [1, 3] (by kernel_rfl) ⟨?_, ?_, trivial⟩
  refine axo_eff 1 rfl trivial (e_makeSlice 0 (t := ty4) Try.underlying26 (rfl : Try.prog.info? 62 = some _) rfl rfl rfl rfl rfl rfl (by omega) (by omega) rfl rfl) rfl rfl ?_
  refine ax_all [3, 4] (by kernel_rfl) ⟨?_, ?_, trivial⟩
  refine axo_eff 3 rfl trivial (e_makeSlice 1 (t := ty7) Try.underlying24 (rfl : Try.prog.info? 3 = some _) rfl rfl rfl rfl rfl rfl (by omega) (by omega) rfl rfl) rfl rfl ?_
  refine ax_all [4] (by kernel_rfl) ⟨?_, trivial⟩
  refine axo_read 4 rfl trivial (r_assign rfl) rfl ?_
  refine ax_all [5] (by kernel_rfl) ⟨?_, trivial⟩
  refine axo_read 5 rfl trivial (r_assign rfl) rfl ?_
  exact ax_done rfl (AQ.sub (sub_r1 idn (nk rfl) (by kernel_rfl)) key)
  refine axo_read 4 rfl trivial (r_assign rfl) rfl ?_
  refine ax_all [3] (by kernel_rfl) ⟨?_, trivial⟩
  refine axo_eff 3 rfl trivial (e_makeSlice 1 (t := ty7) Try.underlying24 (rfl : Try.prog.info? 3 = some _) rfl rfl rfl rfl rfl rfl (by omega) (by omega) rfl rfl) rfl rfl ?_
  refine ax_all [5] (by kernel_rfl) ⟨?_, trivial⟩
  refine axo_read 5 rfl trivial (r_assign rfl) rfl ?_
  exact ax_done rfl (AQ.sub (sub_r1 idn (nk rfl) (by kernel_rfl)) key)
  refine axo_eff 3 rfl trivial (e_makeSlice 0 (t := ty7) Try.underlying24 (rfl : Try.prog.info? 3 = some _) rfl rfl rfl rfl rfl rfl (by omega) (by omega) rfl rfl) rfl rfl ?_
  refine ax_all [1] (by kernel_rfl) ⟨?_, trivial⟩
  refine axo_eff 1 rfl trivial (e_makeSlice 1 (t := ty4) Try.underlying26 (rfl : Try.prog.info? 62 = some _) rfl rfl rfl rfl rfl rfl (by omega) (by omega) rfl rfl) rfl rfl ?_
  refine ax_all [4] (by kernel_rfl) ⟨?_, trivial⟩
  refine axo_read 4 rfl trivial (r_assign rfl) rfl ?_
  refine ax_all [5] (by kernel_rfl) ⟨?_, trivial⟩
  refine axo_read 5 rfl trivial (r_assign rfl) rfl ?_
  exact ax_done rfl (AQ.sub (sub_r1 (rn [(0, 1), (1, 0)]) (nk rfl) (by kernel_rfl)) key)
theorem c_impl_FromLetters {x0 : dy8} {r : dy6 × Bool} (h : Is (p_impl_FromLetters x0) (some r)) :
    ACalls Try.prog 6 [.v ty3 x0] [] (fun r' H' => r' = .tup [.os 0, .bool r.2] ∧ H' = [(0, .row ty4 r.1)]) := by
  unfold p_impl_FromLetters at h
  refine ac_enter ⟨8, 0⟩ Try.func6 rfl rfl rfl rfl rfl (fun Γ => ?_)
  refine sl_len_m 0 (x0.length : Int) rfl rfl (fun hl0 => ?_)
  refine aw_seq ?_
  refine aw_region ?_
  refine ao_r (r_assign rfl) rfl ?_
  refine ao_r (r_assign rfl) rfl ?_
  refine ao_nil ?_
  refine aq_then ?_
  refine aw_seq ?_
  refine aw_region ?_
  refine ao_r (r_move rfl) rfl ?_
  obtain ⟨r1, r1h, h⟩ := is_bind h
  refine ao_call [] 0 trivial (c_impl_fromLetters (is_mk r1h)) Try.func29 rfl rfl rfl rfl ⟨ad_ren rfl, trivial⟩ trivial rfl rfl rfl rfl rfl rfl rfl (fun r' H' hr => ?_)
  obtain ⟨rfl, rfl⟩ := hr
  refine ao_norm (y := .tup [.os 0, .bool r1.2]) (H' := [(0, .row ty4 r1.1)]) rfl rfl ?_
  refine row_len_o 0 (r1.1.length : Int) rfl rfl (fun hr2 => ?_)
  refine ao_r (r_extract rfl rfl) rfl ?_
  refine ao_r (r_extract rfl rfl) rfl ?_
  refine ao_r (r_assign rfl) rfl ?_
  refine ao_r (r_assign rfl) rfl ?_
  refine ao_nil ?_
  refine aq_then ?_
  refine aw_ret ?_
  refine aq_ret ?_
  obtain rfl := is_some h
  exact aq_finx (l := [.tmp 2, .tmp 3]) (xs := [.os 0, .bool r1.2]) idn [.os 0, .bool r1.2] [(0, .row ty4 r1.1)] rfl (by exact ⟨rfl, rfl, trivial⟩) (by exact ⟨ad_ren rfl, ad_ren rfl, trivial⟩) (by exact ⟨⟨_, rfl, rfl⟩, trivial⟩) rfl (nk rfl) rfl rfl ⟨rfl, rfl⟩
theorem c_spec_l1In {x0 : Int} {x1 : Int} {x2 : Int} {r : Bool} (h : Is (p_spec_l1In x0 x1 x2) r) :
    Scalar Try.prog 52 [.int .i64 x0, .int .i64 x1, .int .i64 x2] (.bool r) := by
  unfold p_spec_l1In at h
  refine ac_enter ⟨15, 0⟩ Try.func52 rfl rfl rfl rfl rfl (fun Γ => ?_)
  refine aw_seq ?_
  refine aw_region ?_
  refine ao_r (r_assign rfl) rfl ?_
  refine ao_nil ?_
  refine aq_then ?_
  refine aw_seq ?_
  refine aw_region ?_
  refine ao_r (r_move rfl) rfl ?_
  refine ao_r (r_move rfl) rfl ?_
  refine ao_r (r_geq rfl rfl) rfl ?_
  refine ao_r (r_move rfl) rfl ?_
  refine ao_readG (x := .int .i64 x0) rfl (GV.T rfl) (fun hg1 => by
        have q2 := d_t hg1
        exact r_move rfl) rfl ?_
  refine ao_readG (x := .int .i64 x2) rfl (GV.T rfl) (fun hg3 => by
        have q4 := d_t hg3
        exact r_move rfl) rfl ?_
  refine ao_readG (x := .bool (decide (x0 ≤ x2))) rfl (GV.T rfl) (fun hg5 => by
        have q6 := d_t hg5
        exact Reads.strip 11 rfl (hg5) (Reads.strip 12 rfl (hg5) (r_leq rfl rfl))) rfl ?_
  refine ao_r (r_andB rfl rfl) rfl ?_
  refine ao_r (r_assign rfl) rfl ?_
  refine ao_nil ?_
  refine aq_then ?_
  refine aw_ret ?_
  refine aq_ret ?_
  obtain rfl := is_eq h
  exact aq_finx (l := [.tmp 6]) (xs := [.bool ((decide (x1 ≤ x0)) && (decide (x0 ≤ x2)))]) idn [.bool ((decide (x1 ≤ x0)) && (decide (x0 ≤ x2)))] [] rfl (by exact ⟨rfl, trivial⟩) (by exact ⟨ad_ren rfl, trivial⟩) (by exact trivial) rfl (nk rfl) rfl rfl ⟨rfl, rfl⟩
theorem c_spec_l10Letters {x0 : dy8} {r : Bool} (h : Is (p_spec_l10Letters x0) (some r)) :
    Scalar Try.prog 30 [.v ty3 x0] (.bool r) := by
  unfold p_spec_l10Letters at h
  refine ac_enter ⟨52, 0⟩ Try.func30 rfl rfl rfl rfl rfl (fun Γ => ?_)
  refine sl_len_m 0 (x0.length : Int) rfl rfl (fun hl0 => ?_)
  refine aw_seq ?_
  refine aw_region ?_
  refine ao_r (r_assign rfl) rfl ?_
  refine ao_nil ?_
  refine aq_then ?_
  refine aw_seq ?_
  refine aw_region ?_
  refine ao_r (r_build_zero (t := ty7) Try.underlying47 Try.zeroValue47 Try.sizeOf3 rfl) rfl ?_
  refine ao_eff trivial (e_alloc 0 (y := .v (.arr 4 ty7) ((List.replicate 4 0) : dy8)) Try.zeroValue47 (fun ρ h M => ra_zero_arr (t := ty7) rfl) rfl rfl rfl rfl rfl) rfl ?_
  refine ao_effS trivial (e_store rfl rfl rfl rfl Try.sizeOf47 rfl) ?_
  refine ao_nil ?_
  refine aq_then ?_
  refine aw_seq ?_
  refine aw_seq ?_
  refine aw_region ?_
  refine ao_r (r_move rfl) rfl ?_
  refine ao_r (r_len_vm (x0.length : Int) Try.underlying24 rfl rfl) rfl ?_
  refine ao_r (r_rem rfl rfl (by decide)) rfl ?_
  refine ao_r (r_neq rfl rfl) rfl ?_
  refine ao_r (r_move rfl) rfl ?_
  refine ao_readG (x := .v ty3 x0) rfl (GV.F rfl) (fun hg1 => by
        have q2 := d_t (not_f (not_t hg1))
        exact r_move rfl) rfl ?_
  refine ao_readG (x := .int .i64 (x0.length : Int)) rfl (GV.F rfl) (fun hg3 => by
        have q4 := d_t (not_f (not_t hg3))
        exact Reads.strip 12 rfl (hg3) (r_len_vm (x0.length : Int) Try.underlying24 rfl rfl)) rfl ?_
  refine ao_scallG (r := .bool (p_spec_l1In (x0.length : Int) 6 24)) rfl (GV.F rfl) (fun hg5 => by
        have q6 := d_t (not_f (not_t hg5))
        exact SCall.strip 13 rfl (hg5) (scall (c_spec_l1In (is_mk (rfl : p_spec_l1In (x0.length : Int) 6 24 = _))) rfl Try.func52 rfl rfl rfl rfl (fun σ => ⟨ad_ren rfl, ad_ren rfl, ad_ren rfl, trivial⟩))) rfl ?_
  refine ao_readG (x := .bool (!(p_spec_l1In (x0.length : Int) 6 24))) rfl (GV.F rfl) (fun hg7 => by
        have q8 := d_t (not_f (not_t hg7))
        exact Reads.strip 14 rfl (hg7) (r_not rfl)) rfl ?_
  refine ao_r (r_orB rfl rfl) rfl ?_
  refine ao_nil ?_
  refine aq_then ?_
  refine aw_cond rfl (fun hb9 => ?_) (fun hb9 => ?_)
  replace h := is_if hb9 h
  refine aw_seq ?_
  refine aw_region ?_
  refine ao_r (r_assign rfl) rfl ?_
  refine ao_nil ?_
  refine aq_then ?_
  refine aw_ret ?_
  refine aq_then_ret ?_
  refine aq_ret ?_
  obtain rfl := is_some h
  exact aq_finx (l := [.tmp 2]) (xs := [.bool false]) idn [.bool false] [] rfl (by exact ⟨rfl, trivial⟩) (by exact ⟨ad_ren rfl, trivial⟩) (by exact trivial) rfl (nk rfl) rfl rfl ⟨rfl, rfl⟩
  obtain ⟨q10, q11⟩ := or_f hb9
  have q12 := d_t (not_f q10)
  replace h := is_else (ne_t hb9) h
  refine aw_skip ?_
  refine aq_then ?_
  refine aw_seq ?_
  refine aw_seq ?_
  refine aw_region ?_
  refine ao_r (r_assign rfl) rfl ?_
  refine ao_nil ?_
  refine aq_then ?_
  refine aw_block ?_
  refine aw_loop (AL.sub (fr' := [(0, .v ty3 x0), (3, .ref 0 0), (4, .int .i64 0)]) (H' := [(0, .var [.arr ty7 4 ((List.replicate 4 0) : dy8)])]) (sub_r1 idn (nk rfl) (by kernel_rfl)) (al_cnt (fun i14 (s13 : dy8) => [(0, .v ty3 x0), (3, .ref 0 0), (4, .int .i64 i14)]) (fun i14 (s13 : dy8) => [(0, .var [.arr ty7 4 s13])]) (fun d i14 (s13 : dy8) => d = Int.toNat ((x0.length : Int) - i14) ∧ 0 ≤ i14 ∧ (s13.length : Int) = 4 ∧ i14 ≤ (x0.length : Int)) h ⟨rfl, (by (try simp only [List.length_set, List.length_append, List.length_cons, List.length_nil, List.length_replicate, List.length_take, List.length_drop]) <;> omega), (by (try simp only [List.length_set, List.length_append, List.length_cons, List.length_nil, List.length_replicate, List.length_take, List.length_drop]) <;> omega), (by (try simp only [List.length_set, List.length_append, List.length_cons, List.length_nil, List.length_replicate, List.length_take, List.length_drop]) <;> omega)⟩ (fun d15 i14 s13 hI h ih15 => ?_)))
  obtain ⟨hd, _, _, _⟩ := hI
  refine al_round ?_
  refine aw_seq ?_
  refine aw_seq ?_
  refine aw_region ?_
  refine ao_r (r_move rfl) rfl ?_
  refine ao_r (r_move rfl) rfl ?_
  refine ao_r (r_len_vm (x0.length : Int) Try.underlying24 rfl rfl) rfl ?_
  refine ao_r (r_lss rfl rfl) rfl ?_
  refine ao_nil ?_
  refine aq_then ?_
  refine aw_cond rfl (fun hb17 => ?_) (fun hb17 => ?_)
  have q18 := d_t hb17
  obtain ⟨d15, rfl⟩ : ∃ e, d15 = e + 1 := ⟨d15 - 1, by omega⟩
  replace h := is_cntS h
  refine aw_skip ?_
  refine aq_then ?_
  refine aw_seq ?_
  refine aw_block ?_
  refine aw_seq ?_
  refine aw_seq ?_
  refine aw_region ?_
  refine ao_r (r_move rfl) rfl ?_
  refine ao_r (r_move rfl) rfl ?_
  refine ao_r (r_idxAddr_int Try.underlying24 Try.sizeOf3 rfl rfl (show 0 ≤ i14 from by omega) (show i14 < (x0.length : Int) from by omega)) rfl ?_
  refine ao_r (r_load_c_int Try.isAgg3 Try.sizeOf3 rfl) rfl ?_
  refine ao_r (r_move rfl) rfl ?_
  refine ao_r (r_len_vm (x0.length : Int) Try.underlying24 rfl rfl) rfl ?_
  refine ao_r (r_quo rfl rfl (by decide)) rfl ?_
  refine ao_r (r_sub rfl rfl) rfl ?_
  refine ao_scall trivial (scall (c_spec_l1In (is_mk (rfl : p_spec_l1In (x0.getD i14.toNat 0) 0 (IntKind.wrap .i64 ((IntKind.wrap .i64 ((x0.length : Int).tdiv 6)) - 1)) = _))) rfl Try.func52 rfl rfl rfl rfl (fun σ => ⟨ad_ren rfl, ad_ren rfl, ad_ren rfl, trivial⟩)) rfl ?_
  refine ao_r (r_not rfl) rfl ?_
  refine ao_nil ?_
  refine aq_then ?_
  refine aw_cond rfl (fun hb20 => ?_) (fun hb20 => ?_)
  replace h := is_else (ne_t (not_t hb20)) h
  refine aw_seq ?_
  refine aw_region ?_
  refine ao_r (r_assign rfl) rfl ?_
  refine ao_nil ?_
  refine aq_then ?_
  refine aw_ret ?_
  refine aq_then_ret ?_
  refine aq_in_ret ?_
  refine aq_then_ret ?_
  refine aq_then_ret ?_
  refine aq_in_ret ?_
  refine aq_then_ret ?_
  refine aq_ret ?_
  obtain rfl := is_some h
  exact aq_finx (l := [.tmp 2]) (xs := [.bool false]) idn [.bool false] [] rfl (by exact ⟨rfl, trivial⟩) (by exact ⟨ad_ren rfl, trivial⟩) (by exact trivial) rfl (nk rfl) rfl rfl ⟨rfl, rfl⟩
  replace h := is_if (not_f hb20) h
  refine aw_skip ?_
  refine aq_then ?_
  refine aw_region ?_
  refine ao_r (r_move rfl) rfl ?_
  refine ao_r (r_move rfl) rfl ?_
  refine ao_r (r_idxAddr_int Try.underlying24 Try.sizeOf3 rfl rfl (show 0 ≤ i14 from by omega) (show i14 < (x0.length : Int) from by omega)) rfl ?_
  refine ao_r (r_load_c_int Try.isAgg3 Try.sizeOf3 rfl) rfl ?_
  obtain ⟨g21, h⟩ := is_guard h
  obtain ⟨g22, h⟩ := is_guard h
  refine ao_r (r_idxAddr_arr (i := (x0.getD i14.toNat 0)) Try.underlying47 Try.sizeOf3 rfl rfl (show 0 ≤ (x0.getD i14.toNat 0) from by omega) (show (x0.getD i14.toNat 0) < (4 : Int) from by omega)) rfl ?_
  refine ao_r (r_load_elema_int Try.isAgg3 Try.sizeOf3 rfl rfl rfl (show (x0.getD i14.toNat 0).toNat < 4 from by omega)) rfl ?_
  refine ao_r (r_add rfl rfl) rfl ?_
  refine ao_r (r_idxAddr_arr (i := (x0.getD i14.toNat 0)) Try.underlying47 Try.sizeOf3 rfl rfl (show 0 ≤ (x0.getD i14.toNat 0) from by omega) (show (x0.getD i14.toNat 0) < (4 : Int) from by omega)) rfl ?_
  refine ao_effS trivial (e_store_elema_int Try.sizeOf3 rfl rfl rfl rfl (show (x0.getD i14.toNat 0).toNat < 4 from by omega) rfl) ?_
  refine ao_nil ?_
  refine aq_in ?_
  refine aq_then ?_
  refine aw_region ?_
  refine ao_r (r_move rfl) rfl ?_
  refine ao_r (r_addI rfl rfl (wrap_id (by omega) (by omega))) rfl ?_
  refine ao_r (r_assign rfl) rfl ?_
  refine ao_nil ?_
  exact aq_again (AL.sub (sub_r1 idn (nk rfl) (by kernel_rfl)) (ih15 d15 (i14 + 1) (s13.set (x0.getD i14.toNat 0).toNat (IntKind.wrap .i64 ((s13.getD (x0.getD i14.toNat 0).toNat 0) + 1))) (by omega) ⟨by omega, (by (try simp only [List.length_set, List.length_append, List.length_cons, List.length_nil, List.length_replicate, List.length_take, List.length_drop]) <;> omega), (by (try simp only [List.length_set, List.length_append, List.length_cons, List.length_nil, List.length_replicate, List.length_take, List.length_drop]) <;> omega), (by (try simp only [List.length_set, List.length_append, List.length_cons, List.length_nil, List.length_replicate, List.length_take, List.length_drop]) <;> omega)⟩ h))
  have q19 := d_f hb17
  obtain rfl : d15 = 0 := by omega
  replace h := is_cnt0 h
  refine aw_exit ?_
  refine aq_then_exit ?_
  refine aq_then_exit ?_
  refine aq_in_exit ?_
  refine aq_then ?_
  refine aw_seq ?_
  refine aw_seq ?_
  refine aw_region ?_
  refine ao_r (r_assign rfl) rfl ?_
  refine ao_nil ?_
  refine aq_then ?_
  refine aw_block ?_
  refine aw_loop (AL.sub (fr' := [(0, .v ty3 x0), (3, .ref 0 0), (5, .int .i64 0)]) (H' := [(0, .var [.arr ty7 4 s13])]) (sub_r1 idn (nk rfl) (by kernel_rfl)) (al_cnt (fun i24 (s23 : Unit) => [(0, .v ty3 x0), (3, .ref 0 0), (5, .int .i64 i24)]) (fun i24 (s23 : Unit) => [(0, .var [.arr ty7 4 s13])]) (fun d i24 (s23 : Unit) => d = Int.toNat ((IntKind.wrap .i64 ((x0.length : Int).tdiv 6)) - i24) ∧ 0 ≤ i24) h ⟨rfl, (by (try simp only [List.length_set, List.length_append, List.length_cons, List.length_nil, List.length_replicate, List.length_take, List.length_drop]) <;> omega)⟩ (fun d25 i24 s23 hI h ih25 => ?_)))
  obtain ⟨hd, _⟩ := hI
  refine al_round ?_
  refine aw_seq ?_
  refine aw_seq ?_
  refine aw_region ?_
  refine ao_r (r_move rfl) rfl ?_
  refine ao_r (r_move rfl) rfl ?_
  refine ao_r (r_len_vm (x0.length : Int) Try.underlying24 rfl rfl) rfl ?_
  refine ao_r (r_quo rfl rfl (by decide)) rfl ?_
  refine ao_r (r_lss rfl rfl) rfl ?_
  refine ao_nil ?_
  refine aq_then ?_
  refine aw_cond rfl (fun hb27 => ?_) (fun hb27 => ?_)
  have q28 := d_t hb27
  obtain ⟨d25, rfl⟩ : ∃ e, d25 = e + 1 := ⟨d25 - 1, by omega⟩
  replace h := is_cntS h
  refine aw_skip ?_
  refine aq_then ?_
  refine aw_seq ?_
  refine aw_block ?_
  refine aw_seq ?_
  refine aw_region ?_
  refine ao_r (r_move rfl) rfl ?_
  obtain ⟨g30, h⟩ := is_guard h
  refine ao_r (r_idxAddr_arr (i := i24) Try.underlying47 Try.sizeOf3 rfl rfl (show 0 ≤ i24 from by omega) (show i24 < (4 : Int) from by omega)) rfl ?_
  refine ao_r (r_load_elema_int Try.isAgg3 Try.sizeOf3 rfl rfl rfl (show i24.toNat < 4 from by omega)) rfl ?_
  refine ao_r (r_neq rfl rfl) rfl ?_
  refine ao_nil ?_
  refine aq_then ?_
  refine aw_cond rfl (fun hb31 => ?_) (fun hb31 => ?_)
  have q32 : ¬ ((s13.getD i24.toNat 0) = 6) := d_f (not_t hb31)
  replace h := is_else (d_f (not_t hb31)) h
  refine aw_seq ?_
  refine aw_region ?_
  refine ao_r (r_assign rfl) rfl ?_
  refine ao_nil ?_
  refine aq_then ?_
  refine aw_ret ?_
  refine aq_in_ret ?_
  refine aq_then_ret ?_
  refine aq_then_ret ?_
  refine aq_in_ret ?_
  refine aq_then_ret ?_
  refine aq_ret ?_
  obtain rfl := is_some h
  exact aq_finx (l := [.tmp 2]) (xs := [.bool false]) idn [.bool false] [] rfl (by exact ⟨rfl, trivial⟩) (by exact ⟨ad_ren rfl, trivial⟩) (by exact trivial) rfl (nk rfl) rfl rfl ⟨rfl, rfl⟩
  have q33 : (s13.getD i24.toNat 0) = 6 := d_t (not_f hb31)
  replace h := is_if (d_t (not_f hb31)) h
  refine aw_skip ?_
  refine aq_in ?_
  refine aq_then ?_
  refine aw_region ?_
  refine ao_r (r_move rfl) rfl ?_
  refine ao_r (r_addI rfl rfl (wrap_id (by omega) (by omega))) rfl ?_
  refine ao_r (r_assign rfl) rfl ?_
  refine ao_nil ?_
  exact aq_again (AL.sub (sub_r1 idn (nk rfl) (by kernel_rfl)) (ih25 d25 (i24 + 1) () (by omega) ⟨by omega, (by (try simp only [List.length_set, List.length_append, List.length_cons, List.length_nil, List.length_replicate, List.length_take, List.length_drop]) <;> omega)⟩ h))
  have q29 := d_f hb27
  obtain rfl : d25 = 0 := by omega
  replace h := is_cnt0 h
  refine aw_exit ?_
  refine aq_then_exit ?_
  refine aq_then_exit ?_
  refine aq_in_exit ?_
  refine aq_then ?_
  refine aw_seq ?_
  refine aw_region ?_
  refine ao_r (r_assign rfl) rfl ?_
  refine ao_nil ?_
  refine aq_then ?_
  refine aw_ret ?_
  refine aq_ret ?_
  obtain rfl := is_some h
  exact aq_finx (l := [.tmp 2]) (xs := [.bool true]) idn [.bool true] [] rfl (by exact ⟨rfl, trivial⟩) (by exact ⟨ad_ren rfl, trivial⟩) (by exact trivial) rfl (nk rfl) rfl rfl ⟨rfl, rfl⟩
theorem c_spec_l10Pool {x0 : dy8} {r : dy6} (h : Is (p_spec_l10Pool x0) (some r)) :
    ACalls Try.prog 31 [.v ty3 x0] [] (fun r' H' => r' = .os 0 ∧ H' = [(0, .row ty4 r)]) := by
  unfold p_spec_l10Pool at h
  refine ac_enter ⟨41, 0⟩ Try.func31 rfl rfl rfl rfl rfl (fun Γ => ?_)
  refine sl_len_m 0 (x0.length : Int) rfl rfl (fun hl0 => ?_)
  refine aw_seq ?_
  refine aw_region ?_
  refine ao_r (r_assign rfl) rfl ?_
  refine ao_nil ?_
  refine aq_then ?_
  refine aw_seq ?_
  refine aw_region ?_
  refine ao_r (r_move rfl) rfl ?_
  refine ao_r (r_len_vm (x0.length : Int) Try.underlying24 rfl rfl) rfl ?_
  refine ao_r (r_quo rfl rfl (by decide)) rfl ?_
  obtain ⟨g1, h⟩ := is_guard h
  obtain ⟨g2, h⟩ := is_guard h
  refine ao_eff trivial (e_makeSlice 0 (t := ty4) Try.underlying26 (rfl : Try.prog.info? 62 = some _) rfl rfl rfl rfl rfl rfl (by omega) (by omega) rfl rfl) rfl ?_
  refine ao_r (r_build_zero (t := ty7) Try.underlying47 Try.zeroValue47 Try.sizeOf3 rfl) rfl ?_
  refine ao_eff trivial (e_alloc 1 (y := .v (.arr 4 ty7) ((List.replicate 4 0) : dy8)) Try.zeroValue47 (fun ρ h M => ra_zero_arr (t := ty7) rfl) rfl rfl rfl rfl rfl) rfl ?_
  refine ao_r (r_assign rfl) rfl ?_
  refine ao_effS trivial (e_store rfl rfl rfl rfl Try.sizeOf47 rfl) ?_
  refine ao_nil ?_
  refine aq_then ?_
  refine aw_seq ?_
  refine aw_seq ?_
  refine aw_region ?_
  refine ao_r (r_assign rfl) rfl ?_
  refine ao_nil ?_
  refine aq_then ?_
  refine aw_block ?_
  refine aw_loop (AL.sub (fr' := [(0, .v ty3 x0), (3, .os 0), (4, .ref 1 0), (5, .int .i64 0)]) (H' := [(0, .row ty4 ((List.replicate (IntKind.wrap .i64 ((x0.length : Int).tdiv 6)).toNat (List.replicate 6 0)) : dy6)), (1, .var [.arr ty7 4 ((List.replicate 4 0) : dy8)])]) (sub_r1 idn (nk rfl) (by kernel_rfl)) (al_cnt (fun i4 (s3 : dy6 × dy8) => [(0, .v ty3 x0), (3, .os 0), (4, .ref 1 0), (5, .int .i64 i4)]) (fun i4 (s3 : dy6 × dy8) => [(0, .row ty4 s3.1), (1, .var [.arr ty7 4 s3.2])]) (fun d i4 (s3 : dy6 × dy8) => d = Int.toNat ((x0.length : Int) - i4) ∧ 0 ≤ i4 ∧ (s3.1.length : Int) = (IntKind.wrap .i64 ((x0.length : Int).tdiv 6)) ∧ (s3.2.length : Int) = 4 ∧ i4 ≤ (x0.length : Int)) h ⟨rfl, (by (try simp only [List.length_set, List.length_append, List.length_cons, List.length_nil, List.length_replicate, List.length_take, List.length_drop]) <;> omega), (by (try simp only [List.length_set, List.length_append, List.length_cons, List.length_nil, List.length_replicate, List.length_take, List.length_drop]) <;> omega), (by (try simp only [List.length_set, List.length_append, List.length_cons, List.length_nil, List.length_replicate, List.length_take, List.length_drop]) <;> omega), (by (try simp only [List.length_set, List.length_append, List.length_cons, List.length_nil, List.length_replicate, List.length_take, List.length_drop]) <;> omega)⟩ (fun d5 i4 s3 hI h ih5 => ?_)))
  obtain ⟨hd, _, _, _, _⟩ := hI
  refine al_round ?_
  refine aw_seq ?_
  refine aw_seq ?_
  refine aw_region ?_
  refine ao_r (r_move rfl) rfl ?_
  refine ao_r (r_move rfl) rfl ?_
  refine ao_r (r_len_vm (x0.length : Int) Try.underlying24 rfl rfl) rfl ?_
  refine ao_r (r_lss rfl rfl) rfl ?_
  refine ao_nil ?_
  refine aq_then ?_
  refine aw_cond rfl (fun hb7 => ?_) (fun hb7 => ?_)
  have q8 := d_t hb7
  obtain ⟨d5, rfl⟩ : ∃ e, d5 = e + 1 := ⟨d5 - 1, by omega⟩
  replace h := is_cntS h
  refine aw_skip ?_
  refine aq_then ?_
  refine aw_seq ?_
  refine aw_block ?_
  refine aw_seq ?_
  obtain ⟨g10, h⟩ := is_guard h
  obtain ⟨g11, h⟩ := is_guard h
  obtain ⟨g12, h⟩ := is_guard h
  obtain ⟨g13, h⟩ := is_guard h
  obtain ⟨g14, h⟩ := is_guard h
  refine aw_draw 15 (by kernel_rfl) (by kernel_rfl) ?_
  refine an_r 0 (fun _ _ _ h => h) rfl (by kernel_rfl) (r_move rfl) rfl ?_
  refine an_r 1 (fun _ _ _ h => h) rfl (by kernel_rfl) (r_move rfl) rfl ?_
  refine an_r 2 (fun _ _ _ h => h) rfl (by kernel_rfl) (r_move rfl) rfl ?_
  refine an_r 3 (fun _ _ _ h => h) rfl (by kernel_rfl) (r_idxAddr_int Try.underlying24 Try.sizeOf3 rfl rfl (show 0 ≤ i4 from by omega) (show i4 < (x0.length : Int) from by omega)) rfl ?_
  refine an_r 4 (fun _ _ _ h => h) rfl (by kernel_rfl) (r_load_c_int Try.isAgg3 Try.sizeOf3 rfl) rfl ?_
  refine an_r 5 (fun _ _ _ h => h) rfl (by kernel_rfl) (r_move rfl) rfl ?_
  refine an_r 6 (fun _ _ _ h => h) rfl (by kernel_rfl) (r_move rfl) rfl ?_
  refine an_r 7 (fun _ _ _ h => h) rfl (by kernel_rfl) (r_idxAddr_int Try.underlying24 Try.sizeOf3 rfl rfl (show 0 ≤ i4 from by omega) (show i4 < (x0.length : Int) from by omega)) rfl ?_
  refine an_r 8 (fun _ _ _ h => h) rfl (by kernel_rfl) (r_load_c_int Try.isAgg3 Try.sizeOf3 rfl) rfl ?_
  refine an_r 9 (fun _ _ _ h => h) rfl (by kernel_rfl) (r_idxAddr_arr (i := (x0.getD i4.toNat 0)) Try.underlying47 Try.sizeOf3 rfl rfl (show 0 ≤ (x0.getD i4.toNat 0) from by omega) (show (x0.getD i4.toNat 0) < (4 : Int) from by omega)) rfl ?_
  refine an_r 10 (fun _ _ _ h => h) rfl (by kernel_rfl) (r_load_elema_int Try.isAgg3 Try.sizeOf3 rfl rfl rfl (show (x0.getD i4.toNat 0).toNat < 4 from by omega)) rfl ?_
  refine an_r 11 (fun _ _ _ h => h) rfl (by kernel_rfl) (r_move rfl) rfl ?_
  refine an_r 12 (fun _ _ _ h => h) rfl (by kernel_rfl) (r_addI rfl rfl (wrap_id (by omega) (by omega))) rfl ?_
  refine an_r 13 (fun _ _ _ h => h) rfl (by kernel_rfl) (r_idxAddr_os Try.underlying26 Try.sizeOf62 rfl rfl rfl (show 0 ≤ (x0.getD i4.toNat 0) from by omega) (show (x0.getD i4.toNat 0) < (s3.1.length : Int) from by omega)) rfl ?_
  refine an_r 14 (fun _ _ _ h => h) rfl (by kernel_rfl) (r_idxAddr_elem Try.underlying62 Try.sizeOf3 rfl rfl (by omega) (by omega)) rfl ?_
  refine an_tail rfl rfl ?_
  refine ao_effS trivial (e_store_elem2_int (m := 6) Try.sizeOf3 rfl rfl rfl rfl rfl (show (x0.getD i4.toNat 0).toNat < s3.1.length from by omega) rfl (by omega) rfl) ?_
  refine ao_nil ?_
  refine aq_then ?_
  refine aw_region ?_
  refine ao_r (r_move rfl) rfl ?_
  refine ao_r (r_move rfl) rfl ?_
  refine ao_r (r_idxAddr_int Try.underlying24 Try.sizeOf3 rfl rfl (show 0 ≤ i4 from by omega) (show i4 < (x0.length : Int) from by omega)) rfl ?_
  refine ao_r (r_load_c_int Try.isAgg3 Try.sizeOf3 rfl) rfl ?_
  refine ao_r (r_idxAddr_arr (i := (x0.getD i4.toNat 0)) Try.underlying47 Try.sizeOf3 rfl rfl (show 0 ≤ (x0.getD i4.toNat 0) from by omega) (show (x0.getD i4.toNat 0) < (4 : Int) from by omega)) rfl ?_
  refine ao_r (r_load_elema_int Try.isAgg3 Try.sizeOf3 rfl rfl rfl (show (x0.getD i4.toNat 0).toNat < 4 from by omega)) rfl ?_
  refine ao_r (r_addI rfl rfl (wrap_id (by omega) (by omega))) rfl ?_
  refine ao_r (r_idxAddr_arr (i := (x0.getD i4.toNat 0)) Try.underlying47 Try.sizeOf3 rfl rfl (show 0 ≤ (x0.getD i4.toNat 0) from by omega) (show (x0.getD i4.toNat 0) < (4 : Int) from by omega)) rfl ?_
  refine ao_effS trivial (e_store_elema_int Try.sizeOf3 rfl rfl rfl rfl (show (x0.getD i4.toNat 0).toNat < 4 from by omega) rfl) ?_
  refine ao_nil ?_
  refine aq_in ?_
  refine aq_then ?_
  refine aw_region ?_
  refine ao_r (r_move rfl) rfl ?_
  refine ao_r (r_addI rfl rfl (wrap_id (by omega) (by omega))) rfl ?_
  refine ao_r (r_assign rfl) rfl ?_
  refine ao_nil ?_
  exact aq_again (AL.sub (sub_r1 idn (nk rfl) (by kernel_rfl)) (ih5 d5 (i4 + 1) ((s3.1.set (x0.getD i4.toNat 0).toNat ((s3.1.getD (x0.getD i4.toNat 0).toNat (List.replicate 6 0)).set (s3.2.getD (x0.getD i4.toNat 0).toNat 0).toNat (i4 + 1))), (s3.2.set (x0.getD i4.toNat 0).toNat ((s3.2.getD (x0.getD i4.toNat 0).toNat 0) + 1))) (by omega) ⟨by omega, (by (try simp only [List.length_set, List.length_append, List.length_cons, List.length_nil, List.length_replicate, List.length_take, List.length_drop]) <;> omega), (by (try simp only [List.length_set, List.length_append, List.length_cons, List.length_nil, List.length_replicate, List.length_take, List.length_drop]) <;> omega), (by (try simp only [List.length_set, List.length_append, List.length_cons, List.length_nil, List.length_replicate, List.length_take, List.length_drop]) <;> omega), (by (try simp only [List.length_set, List.length_append, List.length_cons, List.length_nil, List.length_replicate, List.length_take, List.length_drop]) <;> omega)⟩ h))
  have q9 := d_f hb7
  obtain rfl : d5 = 0 := by omega
  replace h := is_cnt0 h
  refine aw_exit ?_
  refine aq_then_exit ?_
  refine aq_then_exit ?_
  refine aq_in_exit ?_
  refine aq_then ?_
  refine aw_seq ?_
  refine aw_region ?_
  refine ao_r (r_move rfl) rfl ?_
  refine ao_r (r_assign rfl) rfl ?_
  refine ao_nil ?_
  refine aq_then ?_
  refine aw_ret ?_
  refine aq_ret ?_
  obtain rfl := is_some h
  exact aq_finx (l := [.tmp 2]) (xs := [.os 0]) idn [.os 0] [(0, .row ty4 s3.1)] rfl (by exact ⟨rfl, trivial⟩) (by exact ⟨ad_ren rfl, trivial⟩) (by exact ⟨⟨_, rfl, rfl⟩, trivial⟩) rfl (nk rfl) rfl rfl ⟨rfl, rfl⟩
theorem c_spec_FromLetters {x0 : dy8} {r : dy6 × Bool} (h : Is (p_spec_FromLetters x0) (some r)) :
    ACalls Try.prog 7 [.v ty3 x0] [] (fun r' H' => r' = .tup [.os 0, .bool r.2] ∧ H' = [(0, .row ty4 r.1)]) := by
  unfold p_spec_FromLetters at h
  refine ac_enter ⟨10, 0⟩ Try.func7 rfl rfl rfl rfl rfl (fun Γ => ?_)
  refine sl_len_m 0 (x0.length : Int) rfl rfl (fun hl0 => ?_)
  refine aw_seq ?_
  refine aw_region ?_
  refine ao_r (r_assign rfl) rfl ?_
  refine ao_r (r_assign rfl) rfl ?_
  refine ao_nil ?_
  refine aq_then ?_
  refine aw_seq ?_
  refine aw_seq ?_
  refine aw_region ?_
  refine ao_r (r_move rfl) rfl ?_
  obtain ⟨r1, r1h, h⟩ := is_bind h
  refine ao_scall trivial (scall (c_spec_l10Letters (is_mk r1h)) rfl Try.func30 rfl rfl rfl rfl (fun σ => ⟨ad_ren rfl, trivial⟩)) rfl ?_
  refine ao_r (r_not rfl) rfl ?_
  refine ao_nil ?_
  refine aq_then ?_
  refine aw_cond rfl (fun hb2 => ?_) (fun hb2 => ?_)
  replace h := is_else (ne_t (not_t hb2)) h
  refine aw_seq ?_
  refine aw_region ?_
  refine ao_eff trivial (e_buildSlice (l := []) (t := ty4) 0 ([] : dy6) rfl Try.underlying26 Try.zeroValue62 Try.sizeOf62 rfl rfl rfl rfl rfl rfl rfl) rfl ?_
  refine ao_r (r_assign rfl) rfl ?_
  refine ao_r (r_assign rfl) rfl ?_
  refine ao_nil ?_
  refine aq_then ?_
  refine aw_ret ?_
  refine aq_then_ret ?_
  refine aq_ret ?_
  obtain rfl := is_some h
  exact aq_finx (l := [.tmp 2, .tmp 3]) (xs := [.os 0, .bool false]) idn [.os 0, .bool false] [(0, .row ty4 ([] : dy6))] rfl (by exact ⟨rfl, rfl, trivial⟩) (by exact ⟨ad_ren rfl, ad_ren rfl, trivial⟩) (by exact ⟨⟨_, rfl, rfl⟩, trivial⟩) rfl (nk rfl) rfl rfl ⟨rfl, rfl⟩
  replace h := is_if (not_f hb2) h
  refine aw_skip ?_
  refine aq_then ?_
  refine aw_seq ?_
  refine aw_region ?_
  refine ao_r (r_move rfl) rfl ?_
  obtain ⟨r3, r3h, h⟩ := is_bind h
  refine ao_call [] 0 trivial (c_spec_l10Pool (is_mk r3h)) Try.func31 rfl rfl rfl rfl ⟨ad_ren rfl, trivial⟩ trivial rfl rfl rfl rfl rfl rfl rfl (fun r' H' hr => ?_)
  obtain ⟨rfl, rfl⟩ := hr
  refine ao_norm (y := .os 0) (H' := [(0, .row ty4 r3)]) rfl rfl ?_
  refine row_len_o 0 (r3.length : Int) rfl rfl (fun hr4 => ?_)
  refine ao_r (r_assign rfl) rfl ?_
  refine ao_r (r_assign rfl) rfl ?_
  refine ao_nil ?_
  refine aq_then ?_
  refine aw_ret ?_
  refine aq_ret ?_
  obtain rfl := is_some h
  exact aq_finx (l := [.tmp 2, .tmp 3]) (xs := [.os 0, .bool true]) idn [.os 0, .bool true] [(0, .row ty4 r3)] rfl (by exact ⟨rfl, rfl, trivial⟩) (by exact ⟨ad_ren rfl, ad_ren rfl, trivial⟩) (by exact ⟨⟨_, rfl, rfl⟩, trivial⟩) rfl (nk rfl) rfl rfl ⟨rfl, rfl⟩
theorem c_slices_Clone_int_int {x0 : dy8} {r : dy8} (h : Is (p_slices_Clone_int_int x0) (some r)) :
    ACalls Try.prog 32 [.v ty3 x0] [] (fun r' H' => r' = .os 0 ∧ H' = [(0, .row ty7 r)]) := by
  unfold p_slices_Clone_int_int at h
  refine ac_enter ⟨8, 0⟩ Try.func32 rfl rfl rfl rfl rfl (fun Γ => ?_)
  refine sl_len_m 0 (x0.length : Int) rfl rfl (fun hl0 => ?_)
  refine aw_seq ?_
  refine aw_region ?_
  refine ao_r (r_assign rfl) rfl ?_
  refine ao_nil ?_
  refine aq_then ?_
  refine aw_seq ?_
  refine aw_seq ?_
  refine aw_region ?_
  refine ao_r (r_move rfl) rfl ?_
  refine ao_eqnil trivial Try.underlying24 rfl rfl rfl (fun b1 hn2 => ?_)
  refine ao_nil ?_
  refine aq_then ?_
  refine aw_cond rfl (fun hb3 => ?_) (fun hb3 => ?_)
  obtain rfl : x0 = [] := hn2 hb3
  replace h : Is (some [] : Option (dy8)) (some r) := (by simpa using h)
  refine aw_seq ?_
  refine aw_region ?_
  refine ao_r (r_assign rfl) rfl ?_
  refine ao_nil ?_
  refine aq_then ?_
  refine aw_ret ?_
  refine aq_then_ret ?_
  refine aq_ret ?_
  obtain rfl := is_some h
  refine AQ.sub (sub_nil (T := 2) (t := ty7) 0 rfl rfl rfl) ?_
  exact aq_finx (l := [.tmp 2]) (xs := [.os 0]) idn [.os 0] [(0, .row ty7 ([] : dy8))] rfl (by exact ⟨rfl, trivial⟩) (by exact ⟨ad_ren rfl, trivial⟩) (by exact ⟨⟨_, rfl, rfl⟩, trivial⟩) rfl (nk rfl) rfl rfl ⟨rfl, rfl⟩
  refine aw_skip ?_
  refine aq_then ?_
  refine aw_seq ?_
  refine aw_region ?_
  refine ao_eff trivial (e_buildSlice (l := []) (t := ty7) 1 ([] : dy8) rfl Try.underlying24 Try.zeroValue3 Try.sizeOf3 rfl rfl rfl rfl rfl rfl rfl) rfl ?_
  refine ao_r (r_move rfl) rfl ?_
  obtain ⟨g4, h⟩ := is_guard h
  refine ao_eff trivial (e_append (t := ty7) 2 rfl Try.underlying24 (rfl : Try.prog.info? 3 = some _) rfl rfl rfl rfl rfl rfl rfl src_v (show [].length + x0.length ≤ 1000000000 from by (try simp only [List.length_cons, List.length_nil]) <;> omega) rfl rfl) rfl ?_
  refine ao_r (r_assign rfl) rfl ?_
  refine ao_nil ?_
  refine aq_then ?_
  refine aw_ret ?_
  refine aq_ret ?_
  obtain rfl := is_some h
  exact aq_finx (l := [.tmp 2]) (xs := [.os 2]) (rn [(0, 2)]) [.os 0] [(0, .row ty7 (([] ++ x0) : dy8))] rfl (by exact ⟨rfl, trivial⟩) (by exact ⟨ad_ren rfl, trivial⟩) (by exact ⟨⟨_, rfl, rfl⟩, trivial⟩) rfl (nk rfl) rfl rfl ⟨rfl, rfl⟩
theorem c_slices_Reverse_int_int {fu : Nat} {x0 : dy8} {r : dy8} (h : Is (p_slices_Reverse_int_int fu x0) (some r)) :
    ACalls Try.prog 33 [.os 0] [(0, .row ty7 x0)] (fun r' H' => r' = .tup [] ∧ H' = [(0, .row ty7 r)]) := by
  unfold p_slices_Reverse_int_int at h
  refine ac_enter ⟨28, 1⟩ Try.func33 rfl rfl rfl rfl rfl (fun Γ => ?_)
  refine row_len_m 0 (x0.length : Int) rfl rfl (fun hr0 => ?_)
  refine aw_seq ?_
  refine aw_region ?_
  refine ao_r (r_move rfl) rfl ?_
  refine ao_r (r_len_osm (x0.length : Int) Try.underlying24 rfl rfl rfl) rfl ?_
  refine ao_r (r_subI rfl rfl (wrap_id (by omega) (by omega))) rfl ?_
  refine ao_r (r_assign rfl) rfl ?_
  refine ao_r (r_assign rfl) rfl ?_
  refine ao_nil ?_
  refine aq_then ?_
  refine aw_block ?_
  refine aw_loop (AL.sub (sub_r1 idn (nk1 rfl rfl) (by kernel_rfl)) (al_whl (fun (s1 : Int × Int × dy8) => [(0, .os 0), (2, .int .i64 s1.1), (3, .int .i64 s1.2.1)]) (fun (s1 : Int × Int × dy8) => [(0, .row ty7 s1.2.2)]) (fun (s1 : Int × Int × dy8) => 0 ≤ s1.1 ∧ s1.2.1 ≤ ((x0.length : Int) - 1) ∧ (s1.2.2.length : Int) = (x0.length : Int)) h ⟨(by (try simp only [List.length_set, List.length_append, List.length_cons, List.length_nil, List.length_replicate, List.length_take, List.length_drop]) <;> omega), (by (try simp only [List.length_set, List.length_append, List.length_cons, List.length_nil, List.length_replicate, List.length_take, List.length_drop]) <;> omega), (by (try simp only [List.length_set, List.length_append, List.length_cons, List.length_nil, List.length_replicate, List.length_take, List.length_drop]) <;> omega)⟩ (fun d3 s1 hI h ih3 => ?_)))
  obtain ⟨_, _, _⟩ := hI
  replace h := is_whlS h
  refine al_round ?_
  refine aw_seq ?_
  refine aw_seq ?_
  refine aw_region ?_
  refine ao_r (r_move rfl) rfl ?_
  refine ao_r (r_move rfl) rfl ?_
  refine ao_r (r_lss rfl rfl) rfl ?_
  refine ao_nil ?_
  refine aq_then ?_
  refine aw_cond rfl (fun hb5 => ?_) (fun hb5 => ?_)
  have q6 := d_t hb5
  replace h := is_if (d_t hb5) h
  refine aw_skip ?_
  refine aq_then ?_
  refine aw_seq ?_
  refine aw_block ?_
  refine aw_drawP 16 rfl (by kernel_rfl) ?_
  refine ap_move 2 (by kernel_rfl) (fun _ _ _ h => h) rfl (by kernel_rfl) rfl rfl ?_
  refine ap_move 3 (by kernel_rfl) (fun _ _ _ h => h) rfl (by kernel_rfl) rfl rfl ?_
  refine ap_an (f := 11) 13 (by kernel_rfl) rfl ?_
  refine an_r 0 (fun _ _ _ h => h) rfl (by kernel_rfl) (r_move rfl) rfl ?_
  refine an_r 1 (fun _ _ _ h => h) rfl (by kernel_rfl) (r_move rfl) rfl ?_
  refine an_r 4 (fun _ _ _ h => h) rfl (by kernel_rfl) (r_move rfl) rfl ?_
  refine an_r 5 (fun _ _ _ h => h) rfl (by kernel_rfl) (r_move rfl) rfl ?_
  refine an_r 6 (fun _ _ _ h => h) rfl (by kernel_rfl) (r_idxAddr_os Try.underlying24 Try.sizeOf3 rfl rfl rfl (show 0 ≤ s1.2.1 from by omega) (show s1.2.1 < (s1.2.2.length : Int) from by omega)) rfl ?_
  refine an_r 7 (fun _ _ _ h => h) rfl (by kernel_rfl) (r_load_elem_int Try.isAgg3 Try.sizeOf3 rfl rfl (show s1.2.1.toNat < s1.2.2.length from by omega)) rfl ?_
  refine an_r 8 (fun _ _ _ h => h) rfl (by kernel_rfl) (r_move rfl) rfl ?_
  refine an_r 9 (fun _ _ _ h => h) rfl (by kernel_rfl) (r_move rfl) rfl ?_
  refine an_r 10 (fun _ _ _ h => h) rfl (by kernel_rfl) (r_idxAddr_os Try.underlying24 Try.sizeOf3 rfl rfl rfl (show 0 ≤ s1.1 from by omega) (show s1.1 < (s1.2.2.length : Int) from by omega)) rfl ?_
  refine an_r 11 (fun _ _ _ h => h) rfl (by kernel_rfl) (r_load_elem_int Try.isAgg3 Try.sizeOf3 rfl rfl (show s1.1.toNat < s1.2.2.length from by omega)) rfl ?_
  refine an_r 12 (fun _ _ _ h => h) rfl (by kernel_rfl) (r_idxAddr_os Try.underlying24 Try.sizeOf3 rfl rfl rfl (show 0 ≤ s1.1 from by omega) (show s1.1 < (s1.2.2.length : Int) from by omega)) rfl ?_
  refine an_tail rfl rfl ?_
  refine ao_effS trivial (e_store_elem_int Try.sizeOf3 rfl rfl rfl rfl (show s1.1.toNat < s1.2.2.length from by omega) rfl) ?_
  refine ao_r (r_idxAddr_os Try.underlying24 Try.sizeOf3 rfl rfl rfl (show 0 ≤ s1.2.1 from by omega) (show s1.2.1 < ((s1.2.2.set s1.1.toNat (s1.2.2.getD s1.2.1.toNat 0)).length : Int) from by (try simp only [List.length_set]) <;> omega)) rfl ?_
  refine ao_effS trivial (e_store_elem_int Try.sizeOf3 rfl rfl rfl rfl (show s1.2.1.toNat < (s1.2.2.set s1.1.toNat (s1.2.2.getD s1.2.1.toNat 0)).length from by (try simp only [List.length_set]) <;> omega) rfl) ?_
  refine ao_nil ?_
  refine aq_in ?_
  refine aq_then ?_
  refine aw_region ?_
  refine ao_r (r_move rfl) rfl ?_
  refine ao_r (r_addI rfl rfl (wrap_id (by omega) (by omega))) rfl ?_
  refine ao_r (r_move rfl) rfl ?_
  refine ao_r (r_subI rfl rfl (wrap_id (by omega) (by omega))) rfl ?_
  refine ao_r (r_assign rfl) rfl ?_
  refine ao_r (r_assign rfl) rfl ?_
  refine ao_nil ?_
  exact aq_again (AL.sub (sub_r1 idn (nk1 rfl rfl) (by kernel_rfl)) (ih3 ((s1.1 + 1), (s1.2.1 - 1), ((s1.2.2.set s1.1.toNat (s1.2.2.getD s1.2.1.toNat 0)).set s1.2.1.toNat (s1.2.2.getD s1.1.toNat 0))) ⟨(by (try simp only [List.length_set, List.length_append, List.length_cons, List.length_nil, List.length_replicate, List.length_take, List.length_drop]) <;> omega), (by (try simp only [List.length_set, List.length_append, List.length_cons, List.length_nil, List.length_replicate, List.length_take, List.length_drop]) <;> omega), (by (try simp only [List.length_set, List.length_append, List.length_cons, List.length_nil, List.length_replicate, List.length_take, List.length_drop]) <;> omega)⟩ h))
  have q7 := d_f hb5
  replace h := is_else (d_f hb5) h
  refine aw_exit ?_
  refine aq_then_exit ?_
  refine aq_then_exit ?_
  refine aq_in_exit ?_
  refine aq_end ?_
  obtain rfl := is_some h
  exact aq_finx (l := []) (xs := []) idn [] [(0, .row ty7 s1.2.2)] rfl (by exact trivial) (by exact trivial) (by exact ⟨⟨_, rfl, rfl⟩, trivial⟩) rfl (nk1 rfl rfl) rfl rfl ⟨rfl, rfl⟩
theorem c_impl_TurnLetters {fu : Nat} {x0 : dy8} {r : dy8 × Bool} (h : Is (p_impl_TurnLetters fu x0) (some r)) :
    ACalls Try.prog 8 [.v ty3 x0] [] (fun r' H' => r' = .tup [.os 0, .bool r.2] ∧ H' = [(0, .row ty7 r.1)]) := by
  unfold p_impl_TurnLetters at h
  refine ac_enter ⟨19, 0⟩ Try.func8 rfl rfl rfl rfl rfl (fun Γ => ?_)
  refine sl_len_m 0 (x0.length : Int) rfl rfl (fun hl0 => ?_)
  refine aw_seq ?_
  refine aw_region ?_
  refine ao_r (r_assign rfl) rfl ?_
  refine ao_r (r_assign rfl) rfl ?_
  refine ao_nil ?_
  refine aq_then ?_
  refine aw_seq ?_
  refine aw_seq ?_
  refine aw_region ?_
  refine ao_r (r_move rfl) rfl ?_
  obtain ⟨r1, r1h, h⟩ := is_bind h
  refine ao_call [] 0 trivial (c_impl_fromLetters (is_mk r1h)) Try.func29 rfl rfl rfl rfl ⟨ad_ren rfl, trivial⟩ trivial rfl rfl rfl rfl rfl rfl rfl (fun r' H' hr => ?_)
  obtain ⟨rfl, rfl⟩ := hr
  refine ao_norm (y := .tup [.os 0, .bool r1.2]) (H' := [(0, .row ty4 r1.1)]) rfl rfl ?_
  refine row_len_o 0 (r1.1.length : Int) rfl rfl (fun hr2 => ?_)
  refine ao_r (r_move rfl) rfl ?_
  refine ao_r (r_extract rfl rfl) rfl ?_
  refine ao_r (r_extract rfl rfl) rfl ?_
  refine ao_r (r_assign rfl) rfl ?_
  refine ao_r (r_assign rfl) rfl ?_
  refine ao_nil ?_
  refine aq_then ?_
  refine aw_seq ?_
  refine aw_region ?_
  refine ao_r (r_move rfl) rfl ?_
  refine ao_r (r_not rfl) rfl ?_
  refine ao_nil ?_
  refine aq_then ?_
  refine aw_cond rfl (fun hb3 => ?_) (fun hb3 => ?_)
  replace h := is_else (ne_t (not_t hb3)) h
  refine aw_seq ?_
  refine aw_region ?_
  refine ao_r (r_assign rfl) rfl ?_
  refine ao_r (r_assign rfl) rfl ?_
  refine ao_nil ?_
  refine aq_then ?_
  refine aw_ret ?_
  refine aq_then_ret ?_
  refine aq_ret ?_
  obtain rfl := is_some h
  refine AQ.sub (sub_nil (T := 2) (t := ty7) 1 rfl rfl rfl) ?_
  exact aq_finx (l := [.tmp 2, .tmp 3]) (xs := [.os 1, .bool false]) (rn [(0, 1)]) [.os 0, .bool false] [(0, .row ty7 ([] : dy8))] rfl (by exact ⟨rfl, rfl, trivial⟩) (by exact ⟨ad_ren rfl, ad_ren rfl, trivial⟩) (by exact ⟨⟨_, rfl, rfl⟩, trivial⟩) rfl (nk rfl) rfl rfl ⟨rfl, rfl⟩
  replace h := is_if (not_f hb3) h
  refine aw_skip ?_
  refine aq_then ?_
  refine aw_seq ?_
  refine aw_region ?_
  refine ao_r (r_move rfl) rfl ?_
  obtain ⟨r4, r4h, h⟩ := is_bind h
  refine ao_call [] 1 trivial (c_slices_Clone_int_int (is_mk r4h)) Try.func32 rfl rfl rfl rfl ⟨ad_ren rfl, trivial⟩ trivial rfl rfl rfl rfl rfl rfl rfl (fun r' H' hr => ?_)
  obtain ⟨rfl, rfl⟩ := hr
  refine ao_norm (y := .os 1) (H' := [(0, .row ty4 r1.1), (1, .row ty7 r4)]) rfl rfl ?_
  refine row_len_o 1 (r4.length : Int) rfl rfl (fun hr5 => ?_)
  refine ao_r (r_assign rfl) rfl ?_
  refine ao_nil ?_
  refine aq_then ?_
  refine aw_seq ?_
  refine aw_region ?_
  refine ao_r (r_move rfl) rfl ?_
  obtain ⟨r6, r6h, h⟩ := is_bind h
  refine ao_call [1] 2 trivial (c_slices_Reverse_int_int (is_mk r6h)) Try.func33 rfl rfl rfl rfl ⟨ad_ren rfl, trivial⟩ ⟨⟨_, rfl, rfl⟩, trivial⟩ rfl rfl rfl rfl rfl rfl rfl (fun r' H' hr => ?_)
  obtain ⟨rfl, rfl⟩ := hr
  refine ao_norm (y := .tup []) (H' := [(0, .row ty4 r1.1), (1, .row ty7 r6)]) rfl rfl ?_
  refine ao_nil ?_
  refine aq_then ?_
  refine aw_seq ?_
  refine aw_region ?_
  refine ao_r (r_move rfl) rfl ?_
  refine ao_r (r_assign rfl) rfl ?_
  refine ao_r (r_assign rfl) rfl ?_
  refine ao_nil ?_
  refine aq_then ?_
  refine aw_ret ?_
  refine aq_ret ?_
  obtain rfl := is_some h
  exact aq_finx (l := [.tmp 2, .tmp 3]) (xs := [.os 1, .bool true]) (rn [(0, 1)]) [.os 0, .bool true] [(0, .row ty7 r6)] rfl (by exact ⟨rfl, rfl, trivial⟩) (by exact ⟨ad_ren rfl, ad_ren rfl, trivial⟩) (by exact ⟨⟨_, rfl, rfl⟩, trivial⟩) rfl (nk rfl) rfl rfl ⟨rfl, rfl⟩
theorem c_spec_TurnLetters {fu : Nat} {x0 : dy8} {r : dy8 × Bool} (h : Is (p_spec_TurnLetters fu x0) (some r)) :
    ACalls Try.prog 9 [.v ty3 x0] [] (fun r' H' => r' = .tup [.os 0, .bool r.2] ∧ H' = [(0, .row ty7 r.1)]) := by
  unfold p_spec_TurnLetters at h
  refine ac_enter ⟨26, 0⟩ Try.func9 rfl rfl rfl rfl rfl (fun Γ => ?_)
  refine sl_len_m 0 (x0.length : Int) rfl rfl (fun hl0 => ?_)
  refine aw_seq ?_
  refine aw_region ?_
  refine ao_r (r_assign rfl) rfl ?_
  refine ao_r (r_assign rfl) rfl ?_
  refine ao_nil ?_
  refine aq_then ?_
  refine aw_seq ?_
  refine aw_region ?_
  refine ao_eff trivial (e_buildSlice (l := []) (t := ty7) 0 ([] : dy8) rfl Try.underlying24 Try.zeroValue3 Try.sizeOf3 rfl rfl rfl rfl rfl rfl rfl) rfl ?_
  refine ao_r (r_assign rfl) rfl ?_
  refine ao_nil ?_
  refine aq_then ?_
  refine aw_seq ?_
  refine aw_seq ?_
  refine aw_region ?_
  refine ao_r (r_move rfl) rfl ?_
  obtain ⟨r1, r1h, h⟩ := is_bind h
  refine ao_scall trivial (scall (c_spec_l10Letters (is_mk r1h)) rfl Try.func30 rfl rfl rfl rfl (fun σ => ⟨ad_ren rfl, trivial⟩)) rfl ?_
  refine ao_r (r_not rfl) rfl ?_
  refine ao_nil ?_
  refine aq_then ?_
  refine aw_cond rfl (fun hb2 => ?_) (fun hb2 => ?_)
  replace h := is_else (ne_t (not_t hb2)) h
  refine aw_seq ?_
  refine aw_region ?_
  refine ao_r (r_move rfl) rfl ?_
  refine ao_r (r_assign rfl) rfl ?_
  refine ao_r (r_assign rfl) rfl ?_
  refine ao_nil ?_
  refine aq_then ?_
  refine aw_ret ?_
  refine aq_then_ret ?_
  refine aq_ret ?_
  obtain rfl := is_some h
  exact aq_finx (l := [.tmp 2, .tmp 3]) (xs := [.os 0, .bool false]) idn [.os 0, .bool false] [(0, .row ty7 ([] : dy8))] rfl (by exact ⟨rfl, rfl, trivial⟩) (by exact ⟨ad_ren rfl, ad_ren rfl, trivial⟩) (by exact ⟨⟨_, rfl, rfl⟩, trivial⟩) rfl (nk rfl) rfl rfl ⟨rfl, rfl⟩
  replace h := is_if (not_f hb2) h
  refine aw_skip ?_
  refine aq_then ?_
  refine aw_seq ?_
  refine aw_seq ?_
  refine aw_region ?_
  refine ao_r (r_move rfl) rfl ?_
  refine ao_r (r_len_vm (x0.length : Int) Try.underlying24 rfl rfl) rfl ?_
  refine ao_r (r_subI rfl rfl (wrap_id (by omega) (by omega))) rfl ?_
  refine ao_r (r_assign rfl) rfl ?_
  refine ao_nil ?_
  refine aq_then ?_
  refine aw_block ?_
  refine aw_loop (AL.sub (sub_r1 idn (nk rfl) (by kernel_rfl)) (al_whl (fun (s3 : Int × dy8) => [(0, .v ty3 x0), (4, .os 0), (5, .int .i64 s3.1)]) (fun (s3 : Int × dy8) => [(0, .row ty7 s3.2)]) (fun (s3 : Int × dy8) => s3.1 ≤ ((x0.length : Int) - 1)) h (by (try simp only [List.length_set, List.length_append, List.length_cons, List.length_nil, List.length_replicate, List.length_take, List.length_drop]) <;> omega) (fun d5 s3 hI h ih5 => ?_)))
  replace h := is_whlS h
  refine al_round ?_
  refine aw_seq ?_
  refine aw_seq ?_
  refine aw_region ?_
  refine ao_r (r_move rfl) rfl ?_
  refine ao_r (r_geq rfl rfl) rfl ?_
  refine ao_nil ?_
  refine aq_then ?_
  refine aw_cond rfl (fun hb7 => ?_) (fun hb7 => ?_)
  have q8 := d_t hb7
  replace h := is_if (d_t hb7) h
  refine aw_skip ?_
  refine aq_then ?_
  refine aw_seq ?_
  refine aw_block ?_
  refine aw_region ?_
  refine ao_r (r_move rfl) rfl ?_
  refine ao_r (r_move rfl) rfl ?_
  refine ao_r (r_move rfl) rfl ?_
  refine ao_r (r_idxAddr_int Try.underlying24 Try.sizeOf3 rfl rfl (show 0 ≤ s3.1 from by omega) (show s3.1 < (x0.length : Int) from by omega)) rfl ?_
  refine ao_r (r_load_c_int Try.isAgg3 Try.sizeOf3 rfl) rfl ?_
  refine ao_eff trivial (e_buildSlice (l := [(0, .tmp 22)]) (t := ty7) 1 ([(x0.getD s3.1.toNat 0)] : dy8) rfl Try.underlying24 Try.zeroValue3 Try.sizeOf3 rfl rfl rfl rfl rfl rfl rfl) rfl ?_
  obtain ⟨g10, h⟩ := is_guard h
  refine ao_eff trivial (e_append (t := ty7) 2 rfl Try.underlying24 (rfl : Try.prog.info? 3 = some _) rfl rfl rfl rfl rfl rfl rfl (src_os rfl) (show s3.2.length + ([(x0.getD s3.1.toNat 0)] : dy8).length ≤ 1000000000 from by (try simp only [List.length_cons, List.length_nil]) <;> omega) rfl rfl) rfl ?_
  refine ao_r (r_assign rfl) rfl ?_
  refine ao_nil ?_
  refine aq_in ?_
  refine aq_then ?_
  refine aw_region ?_
  refine ao_r (r_move rfl) rfl ?_
  refine ao_r (r_subI rfl rfl (wrap_id (by omega) (by omega))) rfl ?_
  refine ao_r (r_assign rfl) rfl ?_
  refine ao_nil ?_
  exact aq_again (AL.sub (sub_r1 (rn [(0, 2)]) (nk rfl) (by kernel_rfl)) (ih5 ((s3.1 - 1), (s3.2 ++ [(x0.getD s3.1.toNat 0)])) (by (try simp only [List.length_set, List.length_append, List.length_cons, List.length_nil, List.length_replicate, List.length_take, List.length_drop]) <;> omega) h))
  have q9 := d_f hb7
  replace h := is_else (d_f hb7) h
  refine aw_exit ?_
  refine aq_then_exit ?_
  refine aq_then_exit ?_
  refine aq_in_exit ?_
  refine aq_then ?_
  refine aw_seq ?_
  refine aw_region ?_
  refine ao_r (r_move rfl) rfl ?_
  refine ao_r (r_assign rfl) rfl ?_
  refine ao_r (r_assign rfl) rfl ?_
  refine ao_nil ?_
  refine aq_then ?_
  refine aw_ret ?_
  refine aq_ret ?_
  obtain rfl := is_some h
  exact aq_finx (l := [.tmp 2, .tmp 3]) (xs := [.os 0, .bool true]) idn [.os 0, .bool true] [(0, .row ty7 s3.2)] rfl (by exact ⟨rfl, rfl, trivial⟩) (by exact ⟨ad_ren rfl, ad_ren rfl, trivial⟩) (by exact ⟨⟨_, rfl, rfl⟩, trivial⟩) rfl (nk rfl) rfl rfl ⟨rfl, rfl⟩
theorem c_slices_Index_int_int {x0 : dy8} {x1 : Int} {r : Int} (h : Is (p_slices_Index_int_int x0 x1) r) :
    Scalar Try.prog 89 [.v ty3 x0, .int .i64 x1] (.int .i64 r) := by
  unfold p_slices_Index_int_int at h
  refine ac_enter ⟨19, 0⟩ Try.func89 rfl rfl rfl rfl rfl (fun Γ => ?_)
  refine sl_len_m 0 (x0.length : Int) rfl rfl (fun hl0 => ?_)
  refine aw_seq ?_
  refine aw_region ?_
  refine ao_r (r_assign rfl) rfl ?_
  refine ao_nil ?_
  refine aq_then ?_
  refine aw_seq ?_
  refine aw_seq ?_
  refine aw_region ?_
  refine ao_r (r_move rfl) rfl ?_
  refine ao_r (r_len_vm (x0.length : Int) Try.underlying24 rfl rfl) rfl ?_
  refine ao_r (r_move rfl) rfl ?_
  refine ao_nil ?_
  refine aq_then ?_
  refine aw_block ?_
  refine aw_loop (AL.sub (fr' := [(0, .v ty3 x0), (1, .int .i64 x1), (7, .int .i64 (x0.length : Int)), (8, .int .i64 0)]) (H' := []) (sub_r1 idn (nk rfl) (by kernel_rfl)) (al_cnt (fun i2 (s1 : Unit) => [(0, .v ty3 x0), (1, .int .i64 x1), (7, .int .i64 (x0.length : Int)), (8, .int .i64 i2)]) (fun i2 (s1 : Unit) => []) (fun d i2 (s1 : Unit) => d = Int.toNat ((x0.length : Int) - i2) ∧ 0 ≤ i2 ∧ i2 ≤ (x0.length : Int)) h ⟨rfl, (by (try simp only [List.length_set, List.length_append, List.length_cons, List.length_nil, List.length_replicate, List.length_take, List.length_drop]) <;> omega), (by (try simp only [List.length_set, List.length_append, List.length_cons, List.length_nil, List.length_replicate, List.length_take, List.length_drop]) <;> omega)⟩ (fun d3 i2 s1 hI h ih3 => ?_)))
  obtain ⟨hd, _, _⟩ := hI
  refine al_round ?_
  refine aw_seq ?_
  refine aw_region ?_
  refine ao_r (r_lss rfl rfl) rfl ?_
  refine ao_nil ?_
  refine aq_then ?_
  refine aw_seq ?_
  refine aw_cond rfl (fun hb5 => ?_) (fun hb5 => ?_)
  have q6 := d_t hb5
  obtain ⟨d3, rfl⟩ : ∃ e, d3 = e + 1 := ⟨d3 - 1, by omega⟩
  replace h := is_cntS h
  refine aw_skip ?_
  refine aq_then ?_
  refine aw_seq ?_
  refine aw_block ?_
  refine aw_seq ?_
  refine aw_region ?_
  refine ao_r (r_move rfl) rfl ?_
  refine ao_r (r_assign rfl) rfl ?_
  refine ao_nil ?_
  refine aq_then ?_
  refine aw_seq ?_
  refine aw_region ?_
  refine ao_r (r_move rfl) rfl ?_
  refine ao_r (r_move rfl) rfl ?_
  refine ao_r (r_move rfl) rfl ?_
  refine ao_r (r_idxAddr_int Try.underlying24 Try.sizeOf3 rfl rfl (show 0 ≤ i2 from by omega) (show i2 < (x0.length : Int) from by omega)) rfl ?_
  refine ao_r (r_load_c_int Try.isAgg3 Try.sizeOf3 rfl) rfl ?_
  refine ao_r (r_eql rfl rfl) rfl ?_
  refine ao_nil ?_
  refine aq_then ?_
  refine aw_cond rfl (fun hb8 => ?_) (fun hb8 => ?_)
  have q9 : x1 = (x0.getD i2.toNat 0) := d_t hb8
  replace h := is_if (d_t hb8) h
  refine aw_seq ?_
  refine aw_region ?_
  refine ao_r (r_move rfl) rfl ?_
  refine ao_r (r_assign rfl) rfl ?_
  refine ao_nil ?_
  refine aq_then ?_
  refine aw_ret ?_
  refine aq_in_ret ?_
  refine aq_then_ret ?_
  refine aq_then_ret ?_
  refine aq_in_ret ?_
  refine aq_then_ret ?_
  refine aq_ret ?_
  obtain rfl := is_eq h
  exact aq_finx (l := [.tmp 4]) (xs := [.int .i64 i2]) idn [.int .i64 i2] [] rfl (by exact ⟨rfl, trivial⟩) (by exact ⟨ad_ren rfl, trivial⟩) (by exact trivial) rfl (nk rfl) rfl rfl ⟨rfl, rfl⟩
  have q10 : ¬ (x1 = (x0.getD i2.toNat 0)) := d_f hb8
  replace h := is_else (d_f hb8) h
  refine aw_skip ?_
  refine aq_in ?_
  refine aq_then ?_
  refine aw_region ?_
  refine ao_r (r_addI rfl rfl (wrap_id (by omega) (by omega))) rfl ?_
  refine ao_r (r_move rfl) rfl ?_
  refine ao_nil ?_
  exact aq_again (AL.sub (sub_r1 idn (nk rfl) (by kernel_rfl)) (ih3 d3 (i2 + 1) () (by omega) ⟨by omega, (by (try simp only [List.length_set, List.length_append, List.length_cons, List.length_nil, List.length_replicate, List.length_take, List.length_drop]) <;> omega), (by (try simp only [List.length_set, List.length_append, List.length_cons, List.length_nil, List.length_replicate, List.length_take, List.length_drop]) <;> omega)⟩ h))
  have q7 := d_f hb5
  obtain rfl : d3 = 0 := by omega
  replace h := is_cnt0 h
  refine aw_exit ?_
  refine aq_then_exit ?_
  refine aq_then_exit ?_
  refine aq_in_exit ?_
  refine aq_then ?_
  refine aw_seq ?_
  refine aw_region ?_
  refine ao_r (r_assign rfl) rfl ?_
  refine ao_nil ?_
  refine aq_then ?_
  refine aw_ret ?_
  refine aq_ret ?_
  obtain rfl := is_eq h
  exact aq_finx (l := [.tmp 4]) (xs := [.int .i64 (-1)]) idn [.int .i64 (-1)] [] rfl (by exact ⟨rfl, trivial⟩) (by exact ⟨ad_ren rfl, trivial⟩) (by exact trivial) rfl (nk rfl) rfl rfl ⟨rfl, rfl⟩
theorem c_slices_Contains_int_int {x0 : dy8} {x1 : Int} {r : Bool} (h : Is (p_slices_Contains_int_int x0 x1) r) :
    Scalar Try.prog 77 [.v ty3 x0, .int .i64 x1] (.bool r) := by
  unfold p_slices_Contains_int_int at h
  refine ac_enter ⟨9, 0⟩ Try.func77 rfl rfl rfl rfl rfl (fun Γ => ?_)
  refine sl_len_m 0 (x0.length : Int) rfl rfl (fun hl0 => ?_)
  refine aw_seq ?_
  refine aw_region ?_
  refine ao_r (r_assign rfl) rfl ?_
  refine ao_nil ?_
  refine aq_then ?_
  refine aw_seq ?_
  refine aw_region ?_
  refine ao_r (r_move rfl) rfl ?_
  refine ao_r (r_move rfl) rfl ?_
  refine ao_scall trivial (scall (c_slices_Index_int_int (is_mk (rfl : p_slices_Index_int_int x0 x1 = _))) rfl Try.func89 rfl rfl rfl rfl (fun σ => ⟨ad_ren rfl, ad_ren rfl, trivial⟩)) rfl ?_
  refine ao_r (r_geq rfl rfl) rfl ?_
  refine ao_r (r_assign rfl) rfl ?_
  refine ao_nil ?_
  refine aq_then ?_
  refine aw_ret ?_
  refine aq_ret ?_
  obtain rfl := is_eq h
  exact aq_finx (l := [.tmp 4]) (xs := [.bool (decide (0 ≤ (p_slices_Index_int_int x0 x1)))]) idn [.bool (decide (0 ≤ (p_slices_Index_int_int x0 x1)))] [] rfl (by exact ⟨rfl, trivial⟩) (by exact ⟨ad_ren rfl, trivial⟩) (by exact trivial) rfl (nk rfl) rfl rfl ⟨rfl, rfl⟩
theorem c_impl_orders_1 {fu : Nat} {x0 : Int} {x1 : Int} {x2 : dy8} {x3 : (List (dy8 × Unit))} {r : dy8 × (List (dy8 × Unit))} (h : Is (p_impl_orders_1 fu x0 x1 x2 x3) (some r)) :
    ACalls Try.prog 76 [.int .i64 x0, .ref 0 0, .ref 1 0, .ref 2 0, .ref 3 0] [(0, .var [ci x1]), (1, .var [.cell (.os 4)]), (2, .var [.arr ty7 4 x2]), (3, .var [.cell (.fn 76 [.ref 0 0, .ref 1 0, .ref 2 0, .ref 3 0])]), (4, .row ty1 x3)] (fun r' H' => r' = .tup [] ∧ H' = [(0, .var [ci x1]), (1, .var [.cell (.os 5)]), (2, .var [.arr ty7 4 r.1]), (3, .var [.cell (.fn 76 [.ref 0 0, .ref 1 0, .ref 2 0, .ref 3 0])]), (5, .row ty1 r.2)]) := by
  induction fu generalizing x0 x1 x2 x3 r with
  | zero => exact nomatch (h : none = some r)
  | succ fu ih =>
    rw [p_impl_orders_1.eq_2] at h
    refine ac_enter ⟨36, 5⟩ Try.func76 rfl rfl rfl rfl rfl (fun Γ => ?_)
    refine AW.sub (fr' := [(0, .int .i64 x0), (1, .ref 0 0), (2, .ref 1 0), (3, .ref 2 0), (4, .ref 3 0)]) (H' := [(0, .var [ci x1]), (1, .var [.cell (.os 5)]), (2, .var [.arr ty7 4 x2]), (3, .var [.cell (.fn 76 [.ref 0 0, .ref 1 0, .ref 2 0, .ref 3 0])]), (5, .row ty1 x3)]) (sub_r1 (rn [(5, 4)]) (nkL rfl) (by kernel_rfl)) ?_
    refine row_len_m 5 (x3.length : Int) rfl rfl (fun hr5 => ?_)
    refine aw_seq ?_
    refine aw_seq ?_
    refine aw_region ?_
    refine ao_r (r_move rfl) rfl ?_
    refine ao_r (r_load_cell Try.isAgg3 rfl rfl rfl) rfl ?_
    refine ao_r (r_eql rfl rfl) rfl ?_
    refine ao_nil ?_
    refine aq_then ?_
    refine aw_cond rfl (fun hb1 => ?_) (fun hb1 => ?_)
    have q2 := d_t hb1
    replace h := is_if (d_t hb1) h
    refine aw_seq ?_
    refine aw_region ?_
    refine ao_r (r_load_cell Try.isAgg44 rfl rfl rfl) rfl ?_
    refine ao_r (r_load_part (τ := ty1) (y := ((x2, ()) : (dy8 × Unit))) [] [] rfl Try.isAgg49 Try.sizeOf49 rfl rfl rfl rfl) rfl ?_
    refine ao_eff trivial (e_buildSlice (l := [(0, .tmp 11)]) (t := ty1) 6 ([(x2, ())] : (List (dy8 × Unit))) rfl Try.underlying44 Try.zeroValue49 Try.sizeOf49 rfl rfl rfl rfl rfl rfl rfl) rfl ?_
    obtain ⟨g4, h⟩ := is_guard h
    refine ao_eff trivial (e_append (t := ty1) 7 rfl Try.underlying44 (rfl : Try.prog.info? 49 = some _) rfl rfl rfl rfl rfl rfl rfl (src_os rfl) (show x3.length + ([(x2, ())] : (List (dy8 × Unit))).length ≤ 1000000000 from by (try simp only [List.length_cons, List.length_nil]) <;> omega) rfl rfl) rfl ?_
    refine ao_effS trivial (e_store rfl rfl rfl rfl Try.sizeOf44 rfl) ?_
    refine ao_nil ?_
    refine aq_then ?_
    refine aw_ret ?_
    refine aq_then_ret ?_
    refine aq_ret ?_
    obtain rfl := is_some h
    exact aq_finx (l := []) (xs := []) (rn [(5, 7)]) [] [(0, .var [ci x1]), (1, .var [.cell (.os 5)]), (2, .var [.arr ty7 4 x2]), (3, .var [.cell (.fn 76 [.ref 0 0, .ref 1 0, .ref 2 0, .ref 3 0])]), (5, .row ty1 ((x3 ++ [(x2, ())]) : (List (dy8 × Unit))))] rfl (by exact trivial) (by exact trivial) (by exact ⟨⟨_, rfl, ⟨ad_ren rfl, rfl, trivial⟩⟩, ⟨_, rfl, ⟨ad_ren rfl, rfl, trivial⟩⟩, ⟨_, rfl, ⟨rfl, trivial⟩⟩, ⟨_, rfl, ⟨ad_ren rfl, rfl, trivial⟩⟩, ⟨_, rfl, rfl⟩, trivial⟩) rfl (nkL rfl) rfl rfl ⟨rfl, rfl⟩
    have q3 := d_f hb1
    replace h := is_else (d_f hb1) h
    refine aw_skip ?_
    refine aq_then ?_
    refine aw_seq ?_
    refine aw_seq ?_
    refine aw_region ?_
    refine ao_r (r_load_cell Try.isAgg3 rfl rfl rfl) rfl ?_
    refine ao_r (r_move rfl) rfl ?_
    refine ao_nil ?_
    refine aq_then ?_
    refine aw_block ?_
    refine aw_loop (AL.sub (sub_r1 idn (nkL rfl) (by kernel_rfl)) (al_whl (fun (s5 : Int × dy8 × (List (dy8 × Unit))) => [(0, .int .i64 x0), (3, .ref 2 0), (4, .ref 3 0), (14, .int .i64 x1), (15, .int .i64 s5.1)]) (fun (s5 : Int × dy8 × (List (dy8 × Unit))) => [(0, .var [ci x1]), (1, .var [.cell (.os 5)]), (2, .var [.arr ty7 4 s5.2.1]), (3, .var [.cell (.fn 76 [.ref 0 0, .ref 1 0, .ref 2 0, .ref 3 0])]), (5, .row ty1 s5.2.2)]) (fun (s5 : Int × dy8 × (List (dy8 × Unit))) => True) h trivial (fun d7 s5 hI h ih7 => ?_)))
    replace h := is_whlS h
    refine al_round ?_
    refine aw_seq ?_
    refine aw_region ?_
    refine ao_r (r_lss rfl rfl) rfl ?_
    refine ao_nil ?_
    refine aq_then ?_
    refine aw_seq ?_
    refine aw_cond rfl (fun hb9 => ?_) (fun hb9 => ?_)
    have q10 := d_t hb9
    replace h := is_if (d_t hb9) h
    refine aw_skip ?_
    refine aq_then ?_
    refine aw_seq ?_
    refine aw_block ?_
    refine aw_seq ?_
    refine aw_region ?_
    refine ao_r (r_move rfl) rfl ?_
    refine ao_r (r_assign rfl) rfl ?_
    refine ao_nil ?_
    refine aq_then ?_
    refine aw_seq ?_
    refine aw_region ?_
    refine ao_r (r_fieldAddr Try.underlying49 rfl Try.sizeOf47 rfl rfl rfl) rfl ?_
    refine ao_r (r_move rfl) rfl ?_
    obtain ⟨g12, h⟩ := is_guard h
    obtain ⟨g13, h⟩ := is_guard h
    refine ao_r (r_slice_arr Try.underlying47 Try.sizeOf3 rfl .none (.some rfl) (by omega) (by omega) (by omega)) rfl ?_
    refine ao_r (r_move rfl) rfl ?_
    refine ao_scall trivial (scall (c_slices_Contains_int_int (is_mk (rfl : p_slices_Contains_int_int ((s5.2.1.drop 0).take (x0 - 0).toNat) s5.1 = _))) rfl Try.func77 rfl rfl rfl rfl (fun σ => ⟨ad_viewv0 rfl rfl rfl rfl (by omega) rfl, ad_ren rfl, trivial⟩)) rfl ?_
    refine ao_r (r_not rfl) rfl ?_
    refine ao_nil ?_
    refine aq_then ?_
    refine aw_cond rfl (fun hb14 => ?_) (fun hb14 => ?_)
    replace h := is_else (ne_t (not_t hb14)) h
    refine aw_seq ?_
    refine aw_region ?_
    refine ao_r (r_move rfl) rfl ?_
    refine ao_r (r_move rfl) rfl ?_
    refine ao_r (r_fieldAddr Try.underlying49 rfl Try.sizeOf47 rfl rfl rfl) rfl ?_
    obtain ⟨g15, h⟩ := is_guard h
    refine ao_r (r_idxAddr_arr (i := x0) Try.underlying47 Try.sizeOf3 rfl rfl (show 0 ≤ x0 from by omega) (show x0 < (4 : Int) from by omega)) rfl ?_
    refine ao_effS trivial (e_store_elema_int Try.sizeOf3 rfl rfl rfl rfl (show x0.toNat < 4 from by omega) rfl) ?_
    refine ao_nil ?_
    refine aq_then ?_
    refine aw_region ?_
    refine ao_r (r_load_cell Try.isAgg85 rfl rfl rfl) rfl ?_
    refine ao_r (r_move rfl) rfl ?_
    refine ao_r (r_addI rfl rfl (wrap_id (by omega) (by omega))) rfl ?_
    obtain ⟨r16, r16h, h⟩ := is_bind h
    refine ao_call [0, 1, 2, 3, 5] 6 trivial (ih (is_mk r16h)) Try.func76 rfl rfl rfl rfl ⟨ad_ren rfl, ad_ren rfl, ad_ren rfl, ad_ren rfl, ad_ren rfl, trivial⟩ ⟨⟨_, rfl, ⟨ad_ren rfl, rfl, trivial⟩⟩, ⟨_, rfl, ⟨ad_ren rfl, rfl, trivial⟩⟩, ⟨_, rfl, ⟨rfl, trivial⟩⟩, ⟨_, rfl, ⟨ad_ren rfl, rfl, trivial⟩⟩, ⟨_, rfl, rfl⟩, trivial⟩ rfl rfl rfl rfl rfl rfl rfl (fun r' H' hr => ?_)
    obtain ⟨rfl, rfl⟩ := hr
    refine ao_norm (y := .tup []) (H' := [(0, .var [ci x1]), (1, .var [.cell (.os 6)]), (2, .var [.arr ty7 4 r16.1]), (3, .var [.cell (.fn 76 [.ref 0 0, .ref 1 0, .ref 2 0, .ref 3 0])]), (6, .row ty1 r16.2)]) rfl rfl ?_
    refine ao_nil ?_
    refine aq_in ?_
    refine aq_then ?_
    refine aw_region ?_
    refine ao_r (r_add rfl rfl) rfl ?_
    refine ao_r (r_move rfl) rfl ?_
    refine ao_nil ?_
    exact aq_again (AL.sub (sub_r1 (rn [(5, 6)]) (nkL rfl) (by kernel_rfl)) (ih7 ((IntKind.wrap .i64 (s5.1 + 1)), r16.1, r16.2) trivial h))
    replace h := is_if (not_f hb14) h
    refine aw_skip ?_
    refine aq_in ?_
    refine aq_then ?_
    refine aw_region ?_
    refine ao_r (r_add rfl rfl) rfl ?_
    refine ao_r (r_move rfl) rfl ?_
    refine ao_nil ?_
    exact aq_again (AL.sub (sub_r1 idn (nkL rfl) (by kernel_rfl)) (ih7 ((IntKind.wrap .i64 (s5.1 + 1)), s5.2.1, s5.2.2) trivial h))
    have q11 := d_f hb9
    replace h := is_else (d_f hb9) h
    refine aw_exit ?_
    refine aq_then_exit ?_
    refine aq_then_exit ?_
    refine aq_in_exit ?_
    refine aq_then ?_
    refine aw_region ?_
    refine ao_r (r_move rfl) rfl ?_
    refine ao_r (r_fieldAddr Try.underlying49 rfl Try.sizeOf47 rfl rfl rfl) rfl ?_
    obtain ⟨g17, h⟩ := is_guard h
    obtain ⟨g18, h⟩ := is_guard h
    refine ao_r (r_idxAddr_arr (i := x0) Try.underlying47 Try.sizeOf3 rfl rfl (show 0 ≤ x0 from by omega) (show x0 < (4 : Int) from by omega)) rfl ?_
    refine ao_effS trivial (e_store_elema_int Try.sizeOf3 rfl rfl rfl rfl (show x0.toNat < 4 from by omega) rfl) ?_
    refine ao_nil ?_
    refine aq_end ?_
    obtain rfl := is_some h
    exact aq_finx (l := []) (xs := []) idn [] [(0, .var [ci x1]), (1, .var [.cell (.os 5)]), (2, .var [.arr ty7 4 ((s5.2.1.set x0.toNat (-1)) : dy8)]), (3, .var [.cell (.fn 76 [.ref 0 0, .ref 1 0, .ref 2 0, .ref 3 0])]), (5, .row ty1 s5.2.2)] rfl (by exact trivial) (by exact trivial) (by exact ⟨⟨_, rfl, ⟨ad_ren rfl, rfl, trivial⟩⟩, ⟨_, rfl, ⟨ad_ren rfl, rfl, trivial⟩⟩, ⟨_, rfl, ⟨rfl, trivial⟩⟩, ⟨_, rfl, ⟨ad_ren rfl, rfl, trivial⟩⟩, ⟨_, rfl, rfl⟩, trivial⟩) rfl (nkL rfl) rfl rfl ⟨rfl, rfl⟩
theorem c_impl_orders {fu : Nat} {x0 : Int} {r : (List (dy8 × Unit))} (h : Is (p_impl_orders fu x0) (some r)) :
    ACalls Try.prog 54 [.int .i64 x0] [] (fun r' H' => r' = .os 0 ∧ H' = [(0, .row ty1 r)]) := by
  unfold p_impl_orders at h
  refine ac_enter ⟨12, 0⟩ Try.func54 rfl rfl rfl rfl rfl (fun Γ => ?_)
  refine aw_seq ?_
  refine aw_region ?_
  refine ao_eff trivial (e_box 0 rfl rfl rfl rfl rfl rfl) rfl ?_
  refine ao_r (r_assign rfl) rfl ?_
  refine ao_nil ?_
  refine aq_then ?_
  refine aw_seq ?_
  refine aw_region ?_
  refine ao_eff trivial (e_alloc 1 (y := .nilsl) Try.zeroValue44 (fun ρ h M => rfl) rfl rfl rfl rfl rfl) rfl ?_
  refine ao_nil ?_
  refine aq_then ?_
  refine aw_seq ?_
  refine aw_region ?_
  refine ao_r (r_build_arr (l := [(0, .const (.int .i64 (-1))), (1, .const (.int .i64 (-1))), (2, .const (.int .i64 (-1))), (3, .const (.int .i64 (-1)))]) (t := ty7) ([(-1), (-1), (-1), (-1)] : dy8) rfl Try.underlying47 Try.zeroValue47 Try.sizeOf3 rfl rfl rfl rfl) rfl ?_
  refine ao_r (r_build_stv (l := [(0, .tmp 6)]) (cs := [.arr ty7 4 ([(-1), (-1), (-1), (-1)] : dy8)]) ty1 (([(-1), (-1), (-1), (-1)], ()) : (dy8 × Unit)) [(0, 4)] Try.underlying49 Try.zeroValue49 rfl ⟨rfl, Try.sizeOf47, trivial⟩ rfl rfl rfl rfl) rfl ?_
  refine ao_eff trivial (e_alloc 2 (y := .st [.v (.arr 4 ty7) ((List.replicate 4 0) : dy8)]) Try.zeroValue49 (fun ρ h M => ra_zero_st (t := ty1) rfl rfl rfl) rfl rfl rfl rfl rfl) rfl ?_
  refine ao_effS trivial (e_store rfl rfl rfl rfl Try.sizeOf49 rfl) ?_
  refine ao_nil ?_
  refine aq_then ?_
  refine aw_seq ?_
  refine aw_region ?_
  refine ao_eff trivial (e_alloc 3 (y := .nilf) Try.zeroValue85 (fun ρ h M => rfl) rfl rfl rfl rfl rfl) rfl ?_
  refine ao_nil ?_
  refine aq_then ?_
  refine aw_seq ?_
  refine aw_region ?_
  refine ao_r (r_makeFunc (cs := [.tmp 1, .tmp 3, .tmp 4, .tmp 5]) rfl) rfl ?_
  refine ao_effS trivial (e_store rfl rfl rfl rfl Try.sizeOf85 rfl) ?_
  refine ao_nil ?_
  refine aq_then ?_
  refine aw_seq ?_
  refine aw_region ?_
  refine ao_r (r_load_cell Try.isAgg85 rfl rfl rfl) rfl ?_
  obtain ⟨r1, r1h, h⟩ := is_bind h
  refine AO.sub (sub_nil_cell (t := ty1) (i := 1) 4 [] [] rfl rfl rfl) ?_
  refine ao_norm0 (H' := [(4, .row ty1 ([] : (List (dy8 × Unit)))), (3, .var [.cell (.fn 76 [.ref 0 0, .ref 1 0, .ref 2 0, .ref 3 0])]), (2, .var [.arr ty7 4 ([(-1), (-1), (-1), (-1)] : dy8)]), (1, .var [.cell (.os 4)]), (0, .var [ci x0])]) rfl ?_
  refine ao_call [0, 1, 2, 3, 4] 5 trivial (c_impl_orders_1 (is_mk r1h)) Try.func76 rfl rfl rfl rfl ⟨ad_ren rfl, ad_ren rfl, ad_ren rfl, ad_ren rfl, ad_ren rfl, trivial⟩ ⟨⟨_, rfl, ⟨ad_ren rfl, rfl, trivial⟩⟩, ⟨_, rfl, ⟨ad_ren rfl, rfl, trivial⟩⟩, ⟨_, rfl, ⟨rfl, trivial⟩⟩, ⟨_, rfl, ⟨ad_ren rfl, rfl, trivial⟩⟩, ⟨_, rfl, rfl⟩, trivial⟩ rfl rfl rfl rfl rfl rfl rfl (fun r' H' hr => ?_)
  obtain ⟨rfl, rfl⟩ := hr
  refine ao_norm (y := .tup []) (H' := [(0, .var [ci x0]), (1, .var [.cell (.os 5)]), (2, .var [.arr ty7 4 r1.1]), (3, .var [.cell (.fn 76 [.ref 0 0, .ref 1 0, .ref 2 0, .ref 3 0])]), (5, .row ty1 r1.2)]) rfl rfl ?_
  refine ao_nil ?_
  refine aq_then ?_
  refine aw_seq ?_
  refine aw_region ?_
  refine ao_r (r_load_cell Try.isAgg44 rfl rfl rfl) rfl ?_
  refine ao_r (r_assign rfl) rfl ?_
  refine ao_nil ?_
  refine aq_then ?_
  refine aw_ret ?_
  refine aq_ret ?_
  obtain rfl := is_some h
  exact aq_finx (l := [.tmp 2]) (xs := [.os 5]) (rn [(0, 5)]) [.os 0] [(0, .row ty1 r1.2)] rfl (by exact ⟨rfl, trivial⟩) (by exact ⟨ad_ren rfl, trivial⟩) (by exact ⟨⟨_, rfl, rfl⟩, trivial⟩) rfl (nk rfl) rfl rfl ⟨rfl, rfl⟩
theorem c_impl_power {fu : Nat} {x0 : Int} {r : Int} (h : Is (p_impl_power fu x0) (some r)) :
    Scalar Try.prog 57 [.int .i64 x0] (.int .i64 r) := by
  unfold p_impl_power at h
  refine ac_enter ⟨11, 0⟩ Try.func57 rfl rfl rfl rfl rfl (fun Γ => ?_)
  refine aw_seq ?_
  refine aw_region ?_
  refine ao_r (r_assign rfl) rfl ?_
  refine ao_nil ?_
  refine aq_then ?_
  refine aw_seq ?_
  refine aw_region ?_
  refine ao_r (r_assign rfl) rfl ?_
  refine ao_nil ?_
  refine aq_then ?_
  refine aw_seq ?_
  refine aw_seq ?_
  refine aw_region ?_
  refine ao_r (r_move rfl) rfl ?_
  refine ao_r (r_move rfl) rfl ?_
  refine ao_nil ?_
  refine aq_then ?_
  refine aw_block ?_
  refine aw_loop (AL.sub (sub_r1 idn (nk rfl) (by kernel_rfl)) (al_whl (fun (s1 : Int × Int) => [(3, .int .i64 s1.1), (4, .int .i64 x0), (5, .int .i64 s1.2)]) (fun (s1 : Int × Int) => []) (fun (s1 : Int × Int) => True) h trivial (fun d3 s1 hI h ih3 => ?_)))
  replace h := is_whlS h
  refine al_round ?_
  refine aw_seq ?_
  refine aw_region ?_
  refine ao_r (r_lss rfl rfl) rfl ?_
  refine ao_nil ?_
  refine aq_then ?_
  refine aw_seq ?_
  refine aw_cond rfl (fun hb5 => ?_) (fun hb5 => ?_)
  have q6 := d_t hb5
  replace h := is_if (d_t hb5) h
  refine aw_skip ?_
  refine aq_then ?_
  refine aw_seq ?_
  refine aw_block ?_
  refine aw_region ?_
  refine ao_r (r_move rfl) rfl ?_
  refine ao_r (r_mul rfl rfl) rfl ?_
  refine ao_r (r_assign rfl) rfl ?_
  refine ao_nil ?_
  refine aq_in ?_
  refine aq_then ?_
  refine aw_region ?_
  refine ao_r (r_add rfl rfl) rfl ?_
  refine ao_r (r_move rfl) rfl ?_
  refine ao_nil ?_
  exact aq_again (AL.sub (sub_r1 idn (nk rfl) (by kernel_rfl)) (ih3 ((IntKind.wrap .i64 (s1.1 * 6)), (IntKind.wrap .i64 (s1.2 + 1))) trivial h))
  have q7 := d_f hb5
  replace h := is_else (d_f hb5) h
  refine aw_exit ?_
  refine aq_then_exit ?_
  refine aq_then_exit ?_
  refine aq_in_exit ?_
  refine aq_then ?_
  refine aw_seq ?_
  refine aw_region ?_
  refine ao_r (r_move rfl) rfl ?_
  refine ao_r (r_assign rfl) rfl ?_
  refine ao_nil ?_
  refine aq_then ?_
  refine aw_ret ?_
  refine aq_ret ?_
  obtain rfl := is_some h
  exact aq_finx (l := [.tmp 2]) (xs := [.int .i64 s1.1]) idn [.int .i64 s1.1] [] rfl (by exact ⟨rfl, trivial⟩) (by exact ⟨ad_ren rfl, trivial⟩) (by exact trivial) rfl (nk rfl) rfl rfl ⟨rfl, rfl⟩
theorem c_impl_rollAt {fu : Nat} {x0 : dy6} {x1 : Int} {r : dy8} (h : Is (p_impl_rollAt fu x0 x1) (some r)) :
    ACalls Try.prog 59 [.v ty2 x0, .int .i64 x1] [] (fun r' H' => r' = .os 0 ∧ H' = [(0, .row ty7 r)]) := by
  unfold p_impl_rollAt at h
  refine ac_enter ⟨30, 0⟩ Try.func59 rfl rfl rfl rfl rfl (fun Γ => ?_)
  refine sl_len_m 0 (x0.length : Int) rfl rfl (fun hl0 => ?_)
  refine aw_seq ?_
  refine aw_region ?_
  refine ao_r (r_assign rfl) rfl ?_
  refine ao_nil ?_
  refine aq_then ?_
  refine aw_seq ?_
  refine aw_region ?_
  refine ao_r (r_move rfl) rfl ?_
  refine ao_r (r_len_vm (x0.length : Int) Try.underlying26 rfl rfl) rfl ?_
  obtain ⟨g1, h⟩ := is_guard h
  refine ao_eff trivial (e_makeSlice 0 (t := ty7) Try.underlying24 (rfl : Try.prog.info? 3 = some _) rfl rfl rfl rfl rfl rfl (by omega) (by omega) rfl rfl) rfl ?_
  refine ao_r (r_assign rfl) rfl ?_
  refine ao_nil ?_
  refine aq_then ?_
  refine aw_seq ?_
  refine aw_seq ?_
  refine aw_region ?_
  refine ao_r (r_move rfl) rfl ?_
  refine ao_r (r_len_vm (x0.length : Int) Try.underlying26 rfl rfl) rfl ?_
  refine ao_r (r_subI rfl rfl (wrap_id (by omega) (by omega))) rfl ?_
  refine ao_r (r_assign rfl) rfl ?_
  refine ao_nil ?_
  refine aq_then ?_
  refine aw_block ?_
  refine aw_loop (AL.sub (sub_r1 idn (nk rfl) (by kernel_rfl)) (al_whl (fun (s2 : Int × Int × dy8) => [(0, .v ty2 x0), (1, .int .i64 s2.1), (5, .os 0), (6, .int .i64 s2.2.1)]) (fun (s2 : Int × Int × dy8) => [(0, .row ty7 s2.2.2)]) (fun (s2 : Int × Int × dy8) => s2.2.1 ≤ ((x0.length : Int) - 1) ∧ (s2.2.2.length : Int) = (x0.length : Int)) h ⟨(by (try simp only [List.length_set, List.length_append, List.length_cons, List.length_nil, List.length_replicate, List.length_take, List.length_drop]) <;> omega), (by (try simp only [List.length_set, List.length_append, List.length_cons, List.length_nil, List.length_replicate, List.length_take, List.length_drop]) <;> omega)⟩ (fun d4 s2 hI h ih4 => ?_)))
  obtain ⟨_, _⟩ := hI
  replace h := is_whlS h
  refine al_round ?_
  refine aw_seq ?_
  refine aw_seq ?_
  refine aw_region ?_
  refine ao_r (r_move rfl) rfl ?_
  refine ao_r (r_geq rfl rfl) rfl ?_
  refine ao_nil ?_
  refine aq_then ?_
  refine aw_cond rfl (fun hb6 => ?_) (fun hb6 => ?_)
  have q7 := d_t hb6
  replace h := is_if (d_t hb6) h
  refine aw_skip ?_
  refine aq_then ?_
  refine aw_seq ?_
  refine aw_block ?_
  refine aw_seq ?_
  refine aw_region ?_
  refine ao_r (r_move rfl) rfl ?_
  refine ao_r (r_move rfl) rfl ?_
  refine ao_r (r_move rfl) rfl ?_
  refine ao_r (r_move rfl) rfl ?_
  refine ao_r (r_move rfl) rfl ?_
  refine ao_r (r_rem rfl rfl (by decide)) rfl ?_
  refine ao_r (r_idxAddr (t := ty4) Try.underlying26 Try.sizeOf62 rfl rfl (show 0 ≤ s2.2.1 from by omega) (show s2.2.1 < (x0.length : Int) from by omega)) rfl ?_
  obtain ⟨g9, h⟩ := is_guard h
  obtain ⟨g10, h⟩ := is_guard h
  refine ao_r (r_idxAddr_ca (t := ty7) Try.underlying62 Try.sizeOf3 rfl rfl (by omega) (by omega)) rfl ?_
  refine ao_r (r_load_c_int Try.isAgg3 Try.sizeOf3 rfl) rfl ?_
  refine ao_r (r_idxAddr_os Try.underlying24 Try.sizeOf3 rfl rfl rfl (show 0 ≤ s2.2.1 from by omega) (show s2.2.1 < (s2.2.2.length : Int) from by omega)) rfl ?_
  refine ao_effS trivial (e_store_elem_int Try.sizeOf3 rfl rfl rfl rfl (show s2.2.1.toNat < s2.2.2.length from by omega) rfl) ?_
  refine ao_nil ?_
  refine aq_then ?_
  refine aw_region ?_
  refine ao_r (r_move rfl) rfl ?_
  refine ao_r (r_quo rfl rfl (by decide)) rfl ?_
  refine ao_r (r_assign rfl) rfl ?_
  refine ao_nil ?_
  refine aq_in ?_
  refine aq_then ?_
  refine aw_region ?_
  refine ao_r (r_move rfl) rfl ?_
  refine ao_r (r_subI rfl rfl (wrap_id (by omega) (by omega))) rfl ?_
  refine ao_r (r_assign rfl) rfl ?_
  refine ao_nil ?_
  exact aq_again (AL.sub (sub_r1 idn (nk rfl) (by kernel_rfl)) (ih4 ((IntKind.wrap .i64 (s2.1.tdiv 6)), (s2.2.1 - 1), (s2.2.2.set s2.2.1.toNat ((x0.getD s2.2.1.toNat (List.replicate 6 0)).getD (s2.1.tmod 6).toNat 0))) ⟨(by (try simp only [List.length_set, List.length_append, List.length_cons, List.length_nil, List.length_replicate, List.length_take, List.length_drop]) <;> omega), (by (try simp only [List.length_set, List.length_append, List.length_cons, List.length_nil, List.length_replicate, List.length_take, List.length_drop]) <;> omega)⟩ h))
  have q8 := d_f hb6
  replace h := is_else (d_f hb6) h
  refine aw_exit ?_
  refine aq_then_exit ?_
  refine aq_then_exit ?_
  refine aq_in_exit ?_
  refine aq_then ?_
  refine aw_seq ?_
  refine aw_region ?_
  refine ao_r (r_move rfl) rfl ?_
  refine ao_r (r_assign rfl) rfl ?_
  refine ao_nil ?_
  refine aq_then ?_
  refine aw_ret ?_
  refine aq_ret ?_
  obtain rfl := is_some h
  exact aq_finx (l := [.tmp 4]) (xs := [.os 0]) idn [.os 0] [(0, .row ty7 s2.2.2)] rfl (by exact ⟨rfl, trivial⟩) (by exact ⟨ad_ren rfl, trivial⟩) (by exact ⟨⟨_, rfl, rfl⟩, trivial⟩) rfl (nk rfl) rfl rfl ⟨rfl, rfl⟩
theorem c_impl_truth {x0 : Bool} {r : Int} (h : Is (p_impl_truth x0) r) :
    Scalar Try.prog 51 [.bool x0] (.int .i64 r) := by
  unfold p_impl_truth at h
  refine ac_enter ⟨4, 0⟩ Try.func51 rfl rfl rfl rfl rfl (fun Γ => ?_)
  refine aw_seq ?_
  refine aw_region ?_
  refine ao_r (r_assign rfl) rfl ?_
  refine ao_nil ?_
  refine aq_then ?_
  refine aw_seq ?_
  refine aw_seq ?_
  refine aw_region ?_
  refine ao_r (r_move rfl) rfl ?_
  refine ao_nil ?_
  refine aq_then ?_
  refine aw_cond rfl (fun hb1 => ?_) (fun hb1 => ?_)
  replace h := is_if hb1 h
  refine aw_seq ?_
  refine aw_region ?_
  refine ao_r (r_assign rfl) rfl ?_
  refine ao_nil ?_
  refine aq_then ?_
  refine aw_ret ?_
  refine aq_then_ret ?_
  refine aq_ret ?_
  obtain rfl := is_eq h
  exact aq_finx (l := [.tmp 2]) (xs := [.int .i64 1]) idn [.int .i64 1] [] rfl (by exact ⟨rfl, trivial⟩) (by exact ⟨ad_ren rfl, trivial⟩) (by exact trivial) rfl (nk rfl) rfl rfl ⟨rfl, rfl⟩
  replace h := is_else (ne_t hb1) h
  refine aw_skip ?_
  refine aq_then ?_
  refine aw_seq ?_
  refine aw_region ?_
  refine ao_r (r_assign rfl) rfl ?_
  refine ao_nil ?_
  refine aq_then ?_
  refine aw_ret ?_
  refine aq_ret ?_
  obtain rfl := is_eq h
  exact aq_finx (l := [.tmp 2]) (xs := [.int .i64 0]) idn [.int .i64 0] [] rfl (by exact ⟨rfl, trivial⟩) (by exact ⟨ad_ren rfl, trivial⟩) (by exact trivial) rfl (nk rfl) rfl rfl ⟨rfl, rfl⟩
theorem c_impl_orderOf {x0 : dy8} {r : (dy8 × Unit) × Bool} (h : Is (p_impl_orderOf x0) (some r)) :
    Scalar Try.prog 58 [.v ty3 x0] (.tup [.v ty1 r.1, .bool r.2]) := by
  unfold p_impl_orderOf at h
  refine ac_enter ⟨48, 0⟩ Try.func58 rfl rfl rfl rfl rfl (fun Γ => ?_)
  refine sl_len_m 0 (x0.length : Int) rfl rfl (fun hl0 => ?_)
  refine aw_seq ?_
  refine aw_region ?_
  refine ao_eff trivial (e_alloc 0 (y := .st [.v (.arr 4 ty7) ((List.replicate 4 0) : dy8)]) Try.zeroValue49 (fun ρ h M => ra_zero_st (t := ty1) rfl rfl rfl) rfl rfl rfl rfl rfl) rfl ?_
  refine ao_r (r_assign rfl) rfl ?_
  refine ao_nil ?_
  refine aq_then ?_
  refine aw_seq ?_
  refine aw_region ?_
  refine ao_r (r_build_arr (l := [(0, .const (.int .i64 (-1))), (1, .const (.int .i64 (-1))), (2, .const (.int .i64 (-1))), (3, .const (.int .i64 (-1)))]) (t := ty7) ([(-1), (-1), (-1), (-1)] : dy8) rfl Try.underlying47 Try.zeroValue47 Try.sizeOf3 rfl rfl rfl rfl) rfl ?_
  refine ao_r (r_build_stv (l := [(0, .tmp 10)]) (cs := [.arr ty7 4 ([(-1), (-1), (-1), (-1)] : dy8)]) ty1 (([(-1), (-1), (-1), (-1)], ()) : (dy8 × Unit)) [(0, 4)] Try.underlying49 Try.zeroValue49 rfl ⟨rfl, Try.sizeOf47, trivial⟩ rfl rfl rfl rfl) rfl ?_
  refine ao_eff trivial (e_alloc 1 (y := .st [.v (.arr 4 ty7) ((List.replicate 4 0) : dy8)]) Try.zeroValue49 (fun ρ h M => ra_zero_st (t := ty1) rfl rfl rfl) rfl rfl rfl rfl rfl) rfl ?_
  refine ao_effS trivial (e_store rfl rfl rfl rfl Try.sizeOf49 rfl) ?_
  refine ao_nil ?_
  refine aq_then ?_
  refine aw_seq ?_
  refine aw_seq ?_
  refine aw_region ?_
  refine ao_r (r_move rfl) rfl ?_
  refine ao_r (r_len_vm (x0.length : Int) Try.underlying24 rfl rfl) rfl ?_
  refine ao_r (r_move rfl) rfl ?_
  refine ao_nil ?_
  refine aq_then ?_
  refine aw_block ?_
  refine aw_loop (AL.sub (fr' := [(0, .v ty3 x0), (2, .ref 0 0), (4, .ref 1 0), (12, .v ty3 x0), (13, .int .i64 (x0.length : Int)), (14, .int .i64 0)]) (H' := [(0, .var [.arr ty7 4 ((List.replicate 4 0) : dy8)]), (1, .var [.arr ty7 4 ([(-1), (-1), (-1), (-1)] : dy8)])]) (sub_r1 idn (nk rfl) (by kernel_rfl)) (al_cnt (fun i2 (s1 : dy8) => [(0, .v ty3 x0), (2, .ref 0 0), (4, .ref 1 0), (12, .v ty3 x0), (13, .int .i64 (x0.length : Int)), (14, .int .i64 i2)]) (fun i2 (s1 : dy8) => [(0, .var [.arr ty7 4 ((List.replicate 4 0) : dy8)]), (1, .var [.arr ty7 4 s1])]) (fun d i2 (s1 : dy8) => d = Int.toNat ((x0.length : Int) - i2) ∧ 0 ≤ i2 ∧ (s1.length : Int) = ([(-1), (-1), (-1), (-1)].length : Int) ∧ i2 ≤ (x0.length : Int)) h ⟨rfl, (by (try simp only [List.length_set, List.length_append, List.length_cons, List.length_nil, List.length_replicate, List.length_take, List.length_drop]) <;> omega), (by (try simp only [List.length_set, List.length_append, List.length_cons, List.length_nil, List.length_replicate, List.length_take, List.length_drop]) <;> omega), (by (try simp only [List.length_set, List.length_append, List.length_cons, List.length_nil, List.length_replicate, List.length_take, List.length_drop]) <;> omega)⟩ (fun d3 i2 s1 hI h ih3 => ?_)))
  obtain ⟨hd, _, _, _⟩ := hI
  refine al_round ?_
  refine aw_seq ?_
  refine aw_region ?_
  refine ao_r (r_lss rfl rfl) rfl ?_
  refine ao_nil ?_
  refine aq_then ?_
  refine aw_seq ?_
  refine aw_cond rfl (fun hb5 => ?_) (fun hb5 => ?_)
  have q6 := d_t hb5
  obtain ⟨d3, rfl⟩ : ∃ e, d3 = e + 1 := ⟨d3 - 1, by omega⟩
  replace h := is_cntS h
  refine aw_skip ?_
  refine aq_then ?_
  refine aw_seq ?_
  refine aw_block ?_
  refine aw_seq ?_
  refine aw_region ?_
  refine ao_r (r_move rfl) rfl ?_
  refine ao_r (r_idxAddr_int Try.underlying24 Try.sizeOf3 rfl rfl (show 0 ≤ i2 from by omega) (show i2 < (x0.length : Int) from by omega)) rfl ?_
  refine ao_r (r_load_c_int Try.isAgg3 Try.sizeOf3 rfl) rfl ?_
  refine ao_r (r_assign rfl) rfl ?_
  refine ao_r (r_assign rfl) rfl ?_
  refine ao_nil ?_
  refine aq_then ?_
  refine aw_seq ?_
  refine aw_region ?_
  refine ao_r (r_assign rfl) rfl ?_
  refine ao_nil ?_
  refine aq_then ?_
  refine aw_seq ?_
  refine aw_seq ?_
  refine aw_region ?_
  refine ao_r (r_move rfl) rfl ?_
  refine ao_r (r_len_vm (x0.length : Int) Try.underlying24 rfl rfl) rfl ?_
  refine ao_r (r_move rfl) rfl ?_
  refine ao_nil ?_
  refine aq_then ?_
  refine aw_block ?_
  refine aw_loop (AL.sub (fr' := [(0, .v ty3 x0), (2, .ref 0 0), (4, .ref 1 0), (5, .int .i64 i2), (6, .int .i64 (x0.getD i2.toNat 0)), (7, .int .i64 0), (12, .v ty3 x0), (13, .int .i64 (x0.length : Int)), (14, .int .i64 i2), (19, .v ty3 x0), (20, .int .i64 (x0.length : Int)), (21, .int .i64 0)]) (H' := [(0, .var [.arr ty7 4 ((List.replicate 4 0) : dy8)]), (1, .var [.arr ty7 4 s1])]) (sub_r1 idn (nk rfl) (by kernel_rfl)) (al_cnt (fun i9 (s8 : Int) => [(0, .v ty3 x0), (2, .ref 0 0), (4, .ref 1 0), (5, .int .i64 i2), (6, .int .i64 (x0.getD i2.toNat 0)), (7, .int .i64 s8), (12, .v ty3 x0), (13, .int .i64 (x0.length : Int)), (14, .int .i64 i2), (19, .v ty3 x0), (20, .int .i64 (x0.length : Int)), (21, .int .i64 i9)]) (fun i9 (s8 : Int) => [(0, .var [.arr ty7 4 ((List.replicate 4 0) : dy8)]), (1, .var [.arr ty7 4 s1])]) (fun d i9 (s8 : Int) => d = Int.toNat ((x0.length : Int) - i9) ∧ 0 ≤ i9 ∧ i9 ≤ (x0.length : Int)) h ⟨rfl, (by (try simp only [List.length_set, List.length_append, List.length_cons, List.length_nil, List.length_replicate, List.length_take, List.length_drop]) <;> omega), (by (try simp only [List.length_set, List.length_append, List.length_cons, List.length_nil, List.length_replicate, List.length_take, List.length_drop]) <;> omega)⟩ (fun d10 i9 s8 hI h ih10 => ?_)))
  obtain ⟨hd, _, _⟩ := hI
  refine al_round ?_
  refine aw_seq ?_
  refine aw_region ?_
  refine ao_r (r_lss rfl rfl) rfl ?_
  refine ao_nil ?_
  refine aq_then ?_
  refine aw_seq ?_
  refine aw_cond rfl (fun hb12 => ?_) (fun hb12 => ?_)
  have q13 := d_t hb12
  obtain ⟨d10, rfl⟩ : ∃ e, d10 = e + 1 := ⟨d10 - 1, by omega⟩
  replace h := is_cntS h
  refine aw_skip ?_
  refine aq_then ?_
  refine aw_seq ?_
  refine aw_block ?_
  refine aw_seq ?_
  refine aw_region ?_
  refine ao_r (r_move rfl) rfl ?_
  refine ao_r (r_idxAddr_int Try.underlying24 Try.sizeOf3 rfl rfl (show 0 ≤ i9 from by omega) (show i9 < (x0.length : Int) from by omega)) rfl ?_
  refine ao_r (r_load_c_int Try.isAgg3 Try.sizeOf3 rfl) rfl ?_
  refine ao_r (r_assign rfl) rfl ?_
  refine ao_r (r_assign rfl) rfl ?_
  refine ao_nil ?_
  refine aq_then ?_
  refine aw_seq ?_
  refine aw_seq ?_
  refine aw_region ?_
  refine ao_r (r_move rfl) rfl ?_
  refine ao_r (r_move rfl) rfl ?_
  refine ao_r (r_neq rfl rfl) rfl ?_
  refine ao_r (r_move rfl) rfl ?_
  refine ao_readG (x := .int .i64 (x0.getD i9.toNat 0)) rfl (GV.T rfl) (fun hg15 => by
        have q16 := d_f (not_t hg15)
        exact r_move rfl) rfl ?_
  refine ao_readG (x := .int .i64 (x0.getD i2.toNat 0)) rfl (GV.T rfl) (fun hg17 => by
        have q18 := d_f (not_t hg17)
        exact r_move rfl) rfl ?_
  refine ao_readG (x := .bool (decide ((x0.getD i9.toNat 0) = (x0.getD i2.toNat 0)))) rfl (GV.T rfl) (fun hg19 => by
        have q20 := d_f (not_t hg19)
        exact Reads.strip 30 rfl (hg19) (Reads.strip 31 rfl (hg19) (r_eql rfl rfl))) rfl ?_
  refine ao_r (r_andB rfl rfl) rfl ?_
  refine ao_nil ?_
  refine aq_then ?_
  refine aw_cond rfl (fun hb21 => ?_) (fun hb21 => ?_)
  obtain ⟨q22, q23⟩ := and_t hb21
  have q24 := d_f (not_t q22)
  have q25 : (x0.getD i9.toNat 0) = (x0.getD i2.toNat 0) := d_t q23
  replace h := is_if hb21 h
  refine aw_seq ?_
  refine aw_region ?_
  refine ao_r (r_build_stv (l := []) (cs := [.arr ty7 4 ((List.replicate 4 0) : dy8)]) ty1 (((List.replicate 4 0), ()) : (dy8 × Unit)) [(0, 4)] Try.underlying49 Try.zeroValue49 rfl ⟨rfl, Try.sizeOf47, trivial⟩ rfl rfl rfl rfl) rfl ?_
  refine ao_effS trivial (e_store rfl rfl rfl rfl Try.sizeOf49 rfl) ?_
  refine ao_r (r_assign rfl) rfl ?_
  refine ao_nil ?_
  refine aq_then ?_
  refine aw_ret ?_
  refine aq_then_ret ?_
  refine aq_in_ret ?_
  refine aq_then_ret ?_
  refine aq_then_ret ?_
  refine aq_in_ret ?_
  refine aq_then_ret ?_
  refine aq_in_ret ?_
  refine aq_then_ret ?_
  refine aq_then_ret ?_
  refine aq_in_ret ?_
  refine aq_then_ret ?_
  refine aq_ret ?_
  obtain rfl := is_some h
  exact aq_finx (l := [.cell 2 49, .tmp 3]) (xs := [.st [.v (.arr 4 ty7) ((List.replicate 4 0) : dy8)], .bool false]) idn [.v ty1 (((List.replicate 4 0), ()) : (dy8 × Unit)), .bool false] [] rfl (by exact ⟨⟨⟨_, _, rfl⟩, r_load_st [] [.arr ty7 4 ((List.replicate 4 0) : dy8)] [] Try.isAgg49 Try.sizeOf49 rfl rfl rfl rfl rfl rfl rfl⟩, rfl, trivial⟩) (by exact ⟨ad_st rfl rfl ⟨ad_ren rfl, trivial⟩, ad_ren rfl, trivial⟩) (by exact trivial) rfl (nk rfl) rfl rfl ⟨rfl, rfl⟩
  replace h := is_else (ne_t hb21) h
  refine aw_skip ?_
  refine aq_then ?_
  refine aw_region ?_
  refine ao_r (r_move rfl) rfl ?_
  refine ao_r (r_move rfl) rfl ?_
  refine ao_r (r_move rfl) rfl ?_
  refine ao_r (r_gtr rfl rfl) rfl ?_
  refine ao_scall trivial (scall (c_impl_truth (is_mk (rfl : p_impl_truth (decide ((x0.getD i2.toNat 0) < (x0.getD i9.toNat 0))) = _))) rfl Try.func51 rfl rfl rfl rfl (fun σ => ⟨ad_ren rfl, trivial⟩)) rfl ?_
  refine ao_r (r_add rfl rfl) rfl ?_
  refine ao_r (r_assign rfl) rfl ?_
  refine ao_nil ?_
  refine aq_in ?_
  refine aq_then ?_
  refine aw_region ?_
  refine ao_r (r_addI rfl rfl (wrap_id (by omega) (by omega))) rfl ?_
  refine ao_r (r_move rfl) rfl ?_
  refine ao_nil ?_
  exact aq_again (AL.sub (sub_r1 idn (nk rfl) (by kernel_rfl)) (ih10 d10 (i9 + 1) (IntKind.wrap .i64 (s8 + (p_impl_truth (decide ((x0.getD i2.toNat 0) < (x0.getD i9.toNat 0)))))) (by omega) ⟨by omega, (by (try simp only [List.length_set, List.length_append, List.length_cons, List.length_nil, List.length_replicate, List.length_take, List.length_drop]) <;> omega), (by (try simp only [List.length_set, List.length_append, List.length_cons, List.length_nil, List.length_replicate, List.length_take, List.length_drop]) <;> omega)⟩ h))
  have q14 := d_f hb12
  obtain rfl : d10 = 0 := by omega
  replace h := is_cnt0 h
  refine aw_exit ?_
  refine aq_then_exit ?_
  refine aq_then_exit ?_
  refine aq_in_exit ?_
  refine aq_then ?_
  refine aw_region ?_
  refine ao_r (r_move rfl) rfl ?_
  refine ao_r (r_move rfl) rfl ?_
  refine ao_r (r_fieldAddr Try.underlying49 rfl Try.sizeOf47 rfl rfl rfl) rfl ?_
  obtain ⟨g26, h⟩ := is_guard h
  obtain ⟨g27, h⟩ := is_guard h
  refine ao_r (r_idxAddr_arr (i := s8) Try.underlying47 Try.sizeOf3 rfl rfl (show 0 ≤ s8 from by omega) (show s8 < (4 : Int) from by omega)) rfl ?_
  refine ao_effS trivial (e_store_elema_int Try.sizeOf3 rfl rfl rfl rfl (show s8.toNat < 4 from by omega) rfl) ?_
  refine ao_nil ?_
  refine aq_in ?_
  refine aq_then ?_
  refine aw_region ?_
  refine ao_r (r_addI rfl rfl (wrap_id (by omega) (by omega))) rfl ?_
  refine ao_r (r_move rfl) rfl ?_
  refine ao_nil ?_
  exact aq_again (AL.sub (sub_r1 idn (nk rfl) (by kernel_rfl)) (ih3 d3 (i2 + 1) (s1.set s8.toNat i2) (by omega) ⟨by omega, (by (try simp only [List.length_set, List.length_append, List.length_cons, List.length_nil, List.length_replicate, List.length_take, List.length_drop]) <;> omega), (by (try simp only [List.length_set, List.length_append, List.length_cons, List.length_nil, List.length_replicate, List.length_take, List.length_drop]) <;> omega), (by (try simp only [List.length_set, List.length_append, List.length_cons, List.length_nil, List.length_replicate, List.length_take, List.length_drop]) <;> omega)⟩ h))
  have q7 := d_f hb5
  obtain rfl : d3 = 0 := by omega
  replace h := is_cnt0 h
  refine aw_exit ?_
  refine aq_then_exit ?_
  refine aq_then_exit ?_
  refine aq_in_exit ?_
  refine aq_then ?_
  refine aw_seq ?_
  refine aw_region ?_
  refine ao_r (r_load_part (τ := ty1) (y := ((s1, ()) : (dy8 × Unit))) [] [] rfl Try.isAgg49 Try.sizeOf49 rfl rfl rfl rfl) rfl ?_
  refine ao_effS trivial (e_store rfl rfl rfl rfl Try.sizeOf49 rfl) ?_
  refine ao_r (r_assign rfl) rfl ?_
  refine ao_nil ?_
  refine aq_then ?_
  refine aw_ret ?_
  refine aq_ret ?_
  obtain rfl := is_some h
  exact aq_finx (l := [.cell 2 49, .tmp 3]) (xs := [.st [.v (.arr 4 ty7) s1], .bool true]) idn [.v ty1 ((s1, ()) : (dy8 × Unit)), .bool true] [] rfl (by exact ⟨⟨⟨_, _, rfl⟩, r_load_st [] [.arr ty7 4 s1] [] Try.isAgg49 Try.sizeOf49 rfl rfl rfl rfl rfl rfl rfl⟩, rfl, trivial⟩) (by exact ⟨ad_st rfl rfl ⟨ad_ren rfl, trivial⟩, ad_ren rfl, trivial⟩) (by exact trivial) rfl (nk rfl) rfl rfl ⟨rfl, rfl⟩
theorem c_slices_Index_impl_Order_impl_Order {x0 : (List (dy8 × Unit))} {x1 : (dy8 × Unit)} {r : Int} (h : Is (p_slices_Index_impl_Order_impl_Order x0 x1) r) :
    Scalar Try.prog 60 [.v (.slice ty1) x0, .v ty1 x1] (.int .i64 r) := by
  unfold p_slices_Index_impl_Order_impl_Order at h
  refine ac_enter ⟨19, 0⟩ Try.func60 rfl rfl rfl rfl rfl (fun Γ => ?_)
  refine sl_len_m 0 (x0.length : Int) rfl rfl (fun hl0 => ?_)
  refine aw_seq ?_
  refine aw_region ?_
  refine ao_eff trivial (e_box 0 rfl rfl rfl rfl rfl rfl) rfl ?_
  refine ao_r (r_assign rfl) rfl ?_
  refine ao_nil ?_
  refine aq_then ?_
  refine aw_seq ?_
  refine aw_seq ?_
  refine aw_region ?_
  refine ao_r (r_move rfl) rfl ?_
  refine ao_r (r_len_vm (x0.length : Int) Try.underlying44 rfl rfl) rfl ?_
  refine ao_r (r_move rfl) rfl ?_
  refine ao_nil ?_
  refine aq_then ?_
  refine aw_block ?_
  refine aw_loop (AL.sub (fr' := [(0, .v (.slice ty1) x0), (3, .ref 0 0), (7, .int .i64 (x0.length : Int)), (8, .int .i64 0)]) (H' := [(0, .var [.arr ty7 4 x1.1])]) (sub_r1 idn (nk rfl) (by kernel_rfl)) (al_cnt (fun i2 (s1 : Unit) => [(0, .v (.slice ty1) x0), (3, .ref 0 0), (7, .int .i64 (x0.length : Int)), (8, .int .i64 i2)]) (fun i2 (s1 : Unit) => [(0, .var [.arr ty7 4 x1.1])]) (fun d i2 (s1 : Unit) => d = Int.toNat ((x0.length : Int) - i2) ∧ 0 ≤ i2 ∧ i2 ≤ (x0.length : Int)) h ⟨rfl, (by (try simp only [List.length_set, List.length_append, List.length_cons, List.length_nil, List.length_replicate, List.length_take, List.length_drop]) <;> omega), (by (try simp only [List.length_set, List.length_append, List.length_cons, List.length_nil, List.length_replicate, List.length_take, List.length_drop]) <;> omega)⟩ (fun d3 i2 s1 hI h ih3 => ?_)))
  obtain ⟨hd, _, _⟩ := hI
  refine al_round ?_
  refine aw_seq ?_
  refine aw_region ?_
  refine ao_r (r_lss rfl rfl) rfl ?_
  refine ao_nil ?_
  refine aq_then ?_
  refine aw_seq ?_
  refine aw_cond rfl (fun hb5 => ?_) (fun hb5 => ?_)
  have q6 := d_t hb5
  obtain ⟨d3, rfl⟩ : ∃ e, d3 = e + 1 := ⟨d3 - 1, by omega⟩
  replace h := is_cntS h
  refine aw_skip ?_
  refine aq_then ?_
  refine aw_seq ?_
  refine aw_block ?_
  refine aw_seq ?_
  refine aw_region ?_
  refine ao_r (r_move rfl) rfl ?_
  refine ao_r (r_assign rfl) rfl ?_
  refine ao_nil ?_
  refine aq_then ?_
  refine aw_seq ?_
  refine aw_drawAll (by kernel_rfl) ?_
  refine an_r 0 (fun _ _ _ h => h) rfl (by kernel_rfl) (r_load_part (τ := ty1) (y := ((x1.1, ()) : (dy8 × Unit))) [] [] rfl Try.isAgg49 Try.sizeOf49 rfl rfl rfl rfl) rfl ?_
  refine an_r 1 (fun _ _ _ h => h) rfl (by kernel_rfl) (r_move rfl) rfl ?_
  refine an_r 2 (fun _ _ _ h => h) rfl (by kernel_rfl) (r_move rfl) rfl ?_
  refine an_r 3 (fun _ _ _ h => h) rfl (by kernel_rfl) (r_idxAddr (t := ty1) Try.underlying44 Try.sizeOf49 rfl rfl (show 0 ≤ i2 from by omega) (show i2 < (x0.length : Int) from by omega)) rfl ?_
  refine an_r 4 (fun _ _ _ h => h) rfl (by kernel_rfl) (r_load_c (t := ty1) Try.isAgg49 Try.sizeOf49 rfl) rfl ?_
  refine an_r 5 (fun _ _ _ h => h) rfl (by kernel_rfl) (r_eq_st1 (m := 4) (xs := x1.1) (ys := ((x0.getD i2.toNat ((List.replicate 4 0), ())).1 : dy8)) Try.underlying49 rfl rfl rfl rfl (by kernel_rfl) Try.underlying47 Try.underlying3 Try.isAgg47 Try.sizeOf47 Try.isAgg3 ⟨_, (rfl : Try.prog.info? 3 = some _), rfl⟩ (by kernel_rfl) rfl rfl rfl rfl rfl) rfl ?_
  refine an_done rfl ?_
  refine aq_then ?_
  refine aw_cond rfl (fun hb8 => ?_) (fun hb8 => ?_)
  replace h := is_if (d_t hb8) h
  refine aw_seq ?_
  refine aw_region ?_
  refine ao_r (r_move rfl) rfl ?_
  refine ao_r (r_assign rfl) rfl ?_
  refine ao_nil ?_
  refine aq_then ?_
  refine aw_ret ?_
  refine aq_in_ret ?_
  refine aq_then_ret ?_
  refine aq_then_ret ?_
  refine aq_in_ret ?_
  refine aq_then_ret ?_
  refine aq_ret ?_
  obtain rfl := is_eq h
  exact aq_finx (l := [.tmp 4]) (xs := [.int .i64 i2]) idn [.int .i64 i2] [] rfl (by exact ⟨rfl, trivial⟩) (by exact ⟨ad_ren rfl, trivial⟩) (by exact trivial) rfl (nk rfl) rfl rfl ⟨rfl, rfl⟩
  replace h := is_else (d_f hb8) h
  refine aw_skip ?_
  refine aq_in ?_
  refine aq_then ?_
  refine aw_region ?_
  refine ao_r (r_addI rfl rfl (wrap_id (by omega) (by omega))) rfl ?_
  refine ao_r (r_move rfl) rfl ?_
  refine ao_nil ?_
  exact aq_again (AL.sub (sub_r1 idn (nk rfl) (by kernel_rfl)) (ih3 d3 (i2 + 1) () (by omega) ⟨by omega, (by (try simp only [List.length_set, List.length_append, List.length_cons, List.length_nil, List.length_replicate, List.length_take, List.length_drop]) <;> omega), (by (try simp only [List.length_set, List.length_append, List.length_cons, List.length_nil, List.length_replicate, List.length_take, List.length_drop]) <;> omega)⟩ h))
  have q7 := d_f hb5
  obtain rfl : d3 = 0 := by omega
  replace h := is_cnt0 h
  refine aw_exit ?_
  refine aq_then_exit ?_
  refine aq_then_exit ?_
  refine aq_in_exit ?_
  refine aq_then ?_
  refine aw_seq ?_
  refine aw_region ?_
  refine ao_r (r_assign rfl) rfl ?_
  refine ao_nil ?_
  refine aq_then ?_
  refine aw_ret ?_
  refine aq_ret ?_
  obtain rfl := is_eq h
  exact aq_finx (l := [.tmp 4]) (xs := [.int .i64 (-1)]) idn [.int .i64 (-1)] [] rfl (by exact ⟨rfl, trivial⟩) (by exact ⟨ad_ren rfl, trivial⟩) (by exact trivial) rfl (nk rfl) rfl rfl ⟨rfl, rfl⟩
theorem c_impl_orderWays {fu : Nat} {x0 : dy6} {r : dy8} (h : Is (p_impl_orderWays fu x0) (some r)) :
    ACalls Try.prog 34 [.v ty2 x0] [] (fun r' H' => r' = .os 0 ∧ H' = [(0, .row ty7 r)]) := by
  unfold p_impl_orderWays at h
  refine ac_enter ⟨38, 0⟩ Try.func34 rfl rfl rfl rfl rfl (fun Γ => ?_)
  refine sl_len_m 0 (x0.length : Int) rfl rfl (fun hl0 => ?_)
  refine aw_seq ?_
  refine aw_region ?_
  refine ao_r (r_assign rfl) rfl ?_
  refine ao_nil ?_
  refine aq_then ?_
  refine aw_seq ?_
  refine aw_region ?_
  refine ao_r (r_move rfl) rfl ?_
  refine ao_r (r_len_vm (x0.length : Int) Try.underlying26 rfl rfl) rfl ?_
  obtain ⟨r1, r1h, h⟩ := is_bind h
  refine ao_call [] 0 trivial (c_impl_orders (is_mk r1h)) Try.func54 rfl rfl rfl rfl ⟨ad_ren rfl, trivial⟩ trivial rfl rfl rfl rfl rfl rfl rfl (fun r' H' hr => ?_)
  obtain ⟨rfl, rfl⟩ := hr
  refine ao_norm (y := .os 0) (H' := [(0, .row ty1 r1)]) rfl rfl ?_
  refine row_len_o 0 (r1.length : Int) rfl rfl (fun hr2 => ?_)
  refine ao_r (r_assign rfl) rfl ?_
  refine ao_nil ?_
  refine aq_then ?_
  refine aw_seq ?_
  refine aw_region ?_
  refine ao_r (r_move rfl) rfl ?_
  refine ao_r (r_len_osm (r1.length : Int) Try.underlying44 rfl rfl rfl) rfl ?_
  obtain ⟨g3, h⟩ := is_guard h
  refine ao_eff trivial (e_makeSlice 1 (t := ty7) Try.underlying24 (rfl : Try.prog.info? 3 = some _) rfl rfl rfl rfl rfl rfl (by omega) (by omega) rfl rfl) rfl ?_
  refine ao_r (r_assign rfl) rfl ?_
  refine ao_nil ?_
  refine aq_then ?_
  refine aw_seq ?_
  refine aw_seq ?_
  refine aw_region ?_
  refine ao_r (r_move rfl) rfl ?_
  refine ao_r (r_len_vm (x0.length : Int) Try.underlying26 rfl rfl) rfl ?_
  obtain ⟨r4, r4h, h⟩ := is_bind h
  refine ao_scall trivial (scall (c_impl_power (is_mk r4h)) rfl Try.func57 rfl rfl rfl rfl (fun σ => ⟨ad_ren rfl, trivial⟩)) rfl ?_
  refine ao_r (r_move rfl) rfl ?_
  refine ao_nil ?_
  refine aq_then ?_
  refine aw_block ?_
  refine aw_loop (AL.sub (sub_r1 idn (nk rfl) (by kernel_rfl)) (al_whl (fun (s5 : Int × dy8) => [(0, .v ty2 x0), (3, .os 0), (4, .os 1), (16, .int .i64 r4), (17, .int .i64 s5.1)]) (fun (s5 : Int × dy8) => [(0, .row ty1 r1), (1, .row ty7 s5.2)]) (fun (s5 : Int × dy8) => (s5.2.length : Int) = (r1.length : Int)) h (by (try simp only [List.length_set, List.length_append, List.length_cons, List.length_nil, List.length_replicate, List.length_take, List.length_drop]) <;> omega) (fun d7 s5 hI h ih7 => ?_)))
  replace h := is_whlS h
  refine al_round ?_
  refine aw_seq ?_
  refine aw_region ?_
  refine ao_r (r_lss rfl rfl) rfl ?_
  refine ao_nil ?_
  refine aq_then ?_
  refine aw_seq ?_
  refine aw_cond rfl (fun hb9 => ?_) (fun hb9 => ?_)
  have q10 := d_t hb9
  replace h := is_if (d_t hb9) h
  refine aw_skip ?_
  refine aq_then ?_
  refine aw_seq ?_
  refine aw_block ?_
  refine aw_seq ?_
  refine aw_region ?_
  refine ao_r (r_move rfl) rfl ?_
  refine ao_r (r_assign rfl) rfl ?_
  refine ao_nil ?_
  refine aq_then ?_
  refine aw_seq ?_
  refine aw_region ?_
  refine ao_r (r_move rfl) rfl ?_
  refine ao_r (r_move rfl) rfl ?_
  obtain ⟨r12, r12h, h⟩ := is_bind h
  refine ao_call [] 2 trivial (c_impl_rollAt (is_mk r12h)) Try.func59 rfl rfl rfl rfl ⟨ad_ren rfl, ad_ren rfl, trivial⟩ trivial rfl rfl rfl rfl rfl rfl rfl (fun r' H' hr => ?_)
  obtain ⟨rfl, rfl⟩ := hr
  refine ao_norm (y := .os 2) (H' := [(0, .row ty1 r1), (1, .row ty7 s5.2), (2, .row ty7 r12)]) rfl rfl ?_
  refine row_len_o 2 (r12.length : Int) rfl rfl (fun hr13 => ?_)
  obtain ⟨r14, r14h, h⟩ := is_bind h
  refine ao_scall trivial (scall (c_impl_orderOf (is_mk r14h)) rfl Try.func58 rfl rfl rfl rfl (fun σ => ⟨ad_os0 rfl, trivial⟩)) rfl ?_
  refine ao_r (r_move rfl) rfl ?_
  refine ao_r (r_extract rfl rfl) rfl ?_
  refine ao_r (r_extract rfl rfl) rfl ?_
  refine ao_eff trivial (e_alloc 3 (y := .st [.v (.arr 4 ty7) ((List.replicate 4 0) : dy8)]) Try.zeroValue49 (fun ρ h M => ra_zero_st (t := ty1) rfl rfl rfl) rfl rfl rfl rfl rfl) rfl ?_
  refine ao_effS trivial (e_store rfl rfl rfl rfl Try.sizeOf49 rfl) ?_
  refine ao_r (r_assign rfl) rfl ?_
  refine ao_nil ?_
  refine aq_then ?_
  refine aw_seq ?_
  refine aw_region ?_
  refine ao_r (r_move rfl) rfl ?_
  refine ao_nil ?_
  refine aq_then ?_
  refine aw_cond rfl (fun hb15 => ?_) (fun hb15 => ?_)
  replace h := is_if hb15 h
  refine aw_region ?_
  refine ao_r (r_move rfl) rfl ?_
  refine ao_r (r_move rfl) rfl ?_
  refine ao_r (r_load_part (τ := ty1) (y := ((r14.1.1, ()) : (dy8 × Unit))) [] [] rfl Try.isAgg49 Try.sizeOf49 rfl rfl rfl rfl) rfl ?_
  refine ao_scall trivial (scall (c_slices_Index_impl_Order_impl_Order (is_mk (rfl : p_slices_Index_impl_Order_impl_Order r1 (r14.1.1, ()) = _))) rfl Try.func60 rfl rfl rfl rfl (fun σ => ⟨ad_os0 rfl, ad_ren rfl, trivial⟩)) rfl ?_
  obtain ⟨g16, h⟩ := is_guard h
  obtain ⟨g17, h⟩ := is_guard h
  refine ao_r (r_idxAddr_os Try.underlying24 Try.sizeOf3 rfl rfl rfl (show 0 ≤ (p_slices_Index_impl_Order_impl_Order r1 (r14.1.1, ())) from by omega) (show (p_slices_Index_impl_Order_impl_Order r1 (r14.1.1, ())) < (s5.2.length : Int) from by omega)) rfl ?_
  refine ao_r (r_load_elem_int Try.isAgg3 Try.sizeOf3 rfl rfl (show (p_slices_Index_impl_Order_impl_Order r1 (r14.1.1, ())).toNat < s5.2.length from by omega)) rfl ?_
  refine ao_r (r_add rfl rfl) rfl ?_
  refine ao_r (r_idxAddr_os Try.underlying24 Try.sizeOf3 rfl rfl rfl (show 0 ≤ (p_slices_Index_impl_Order_impl_Order r1 (r14.1.1, ())) from by omega) (show (p_slices_Index_impl_Order_impl_Order r1 (r14.1.1, ())) < (s5.2.length : Int) from by omega)) rfl ?_
  refine ao_effS trivial (e_store_elem_int Try.sizeOf3 rfl rfl rfl rfl (show (p_slices_Index_impl_Order_impl_Order r1 (r14.1.1, ())).toNat < s5.2.length from by omega) rfl) ?_
  refine ao_nil ?_
  refine aq_in ?_
  refine aq_then ?_
  refine aw_region ?_
  refine ao_r (r_add rfl rfl) rfl ?_
  refine ao_r (r_move rfl) rfl ?_
  refine ao_nil ?_
  exact aq_again (AL.sub (sub_r1 idn (nk rfl) (by kernel_rfl)) (ih7 ((IntKind.wrap .i64 (s5.1 + 1)), (s5.2.set (p_slices_Index_impl_Order_impl_Order r1 (r14.1.1, ())).toNat (IntKind.wrap .i64 ((s5.2.getD (p_slices_Index_impl_Order_impl_Order r1 (r14.1.1, ())).toNat 0) + 1)))) (by (try simp only [List.length_set, List.length_append, List.length_cons, List.length_nil, List.length_replicate, List.length_take, List.length_drop]) <;> omega) h))
  replace h := is_else (ne_t hb15) h
  refine aw_skip ?_
  refine aq_in ?_
  refine aq_then ?_
  refine aw_region ?_
  refine ao_r (r_add rfl rfl) rfl ?_
  refine ao_r (r_move rfl) rfl ?_
  refine ao_nil ?_
  exact aq_again (AL.sub (sub_r1 idn (nk rfl) (by kernel_rfl)) (ih7 ((IntKind.wrap .i64 (s5.1 + 1)), s5.2) (by (try simp only [List.length_set, List.length_append, List.length_cons, List.length_nil, List.length_replicate, List.length_take, List.length_drop]) <;> omega) h))
  have q11 := d_f hb9
  replace h := is_else (d_f hb9) h
  refine aw_exit ?_
  refine aq_then_exit ?_
  refine aq_then_exit ?_
  refine aq_in_exit ?_
  refine aq_then ?_
  refine aw_seq ?_
  refine aw_region ?_
  refine ao_r (r_move rfl) rfl ?_
  refine ao_r (r_assign rfl) rfl ?_
  refine ao_nil ?_
  refine aq_then ?_
  refine aw_ret ?_
  refine aq_ret ?_
  obtain rfl := is_some h
  exact aq_finx (l := [.tmp 2]) (xs := [.os 1]) (rn [(0, 1)]) [.os 0] [(0, .row ty7 s5.2)] rfl (by exact ⟨rfl, trivial⟩) (by exact ⟨ad_ren rfl, trivial⟩) (by exact ⟨⟨_, rfl, rfl⟩, trivial⟩) rfl (nk rfl) rfl rfl ⟨rfl, rfl⟩
theorem c_impl_LettersWays {fu : Nat} {x0 : dy8} {r : dy8 × Bool} (h : Is (p_impl_LettersWays fu x0) (some r)) :
    ACalls Try.prog 10 [.v ty3 x0] [] (fun r' H' => r' = .tup [.os 0, .bool r.2] ∧ H' = [(0, .row ty7 r.1)]) := by
  unfold p_impl_LettersWays at h
  refine ac_enter ⟨15, 0⟩ Try.func10 rfl rfl rfl rfl rfl (fun Γ => ?_)
  refine sl_len_m 0 (x0.length : Int) rfl rfl (fun hl0 => ?_)
  refine aw_seq ?_
  refine aw_region ?_
  refine ao_r (r_assign rfl) rfl ?_
  refine ao_r (r_assign rfl) rfl ?_
  refine ao_nil ?_
  refine aq_then ?_
  refine aw_seq ?_
  refine aw_region ?_
  refine ao_r (r_move rfl) rfl ?_
  obtain ⟨r1, r1h, h⟩ := is_bind h
  refine ao_call [] 0 trivial (c_impl_fromLetters (is_mk r1h)) Try.func29 rfl rfl rfl rfl ⟨ad_ren rfl, trivial⟩ trivial rfl rfl rfl rfl rfl rfl rfl (fun r' H' hr => ?_)
  obtain ⟨rfl, rfl⟩ := hr
  refine ao_norm (y := .tup [.os 0, .bool r1.2]) (H' := [(0, .row ty4 r1.1)]) rfl rfl ?_
  refine row_len_o 0 (r1.1.length : Int) rfl rfl (fun hr2 => ?_)
  refine ao_r (r_move rfl) rfl ?_
  refine ao_r (r_extract rfl rfl) rfl ?_
  refine ao_r (r_extract rfl rfl) rfl ?_
  refine ao_r (r_assign rfl) rfl ?_
  refine ao_r (r_assign rfl) rfl ?_
  refine ao_nil ?_
  refine aq_then ?_
  refine aw_seq ?_
  refine aw_seq ?_
  refine aw_region ?_
  refine ao_r (r_move rfl) rfl ?_
  refine ao_r (r_not rfl) rfl ?_
  refine ao_nil ?_
  refine aq_then ?_
  refine aw_cond rfl (fun hb3 => ?_) (fun hb3 => ?_)
  replace h := is_else (ne_t (not_t hb3)) h
  refine aw_seq ?_
  refine aw_region ?_
  refine ao_r (r_assign rfl) rfl ?_
  refine ao_r (r_assign rfl) rfl ?_
  refine ao_nil ?_
  refine aq_then ?_
  refine aw_ret ?_
  refine aq_then_ret ?_
  refine aq_ret ?_
  obtain rfl := is_some h
  refine AQ.sub (sub_nil (T := 2) (t := ty7) 1 rfl rfl rfl) ?_
  exact aq_finx (l := [.tmp 2, .tmp 3]) (xs := [.os 1, .bool false]) (rn [(0, 1)]) [.os 0, .bool false] [(0, .row ty7 ([] : dy8))] rfl (by exact ⟨rfl, rfl, trivial⟩) (by exact ⟨ad_ren rfl, ad_ren rfl, trivial⟩) (by exact ⟨⟨_, rfl, rfl⟩, trivial⟩) rfl (nk rfl) rfl rfl ⟨rfl, rfl⟩
  replace h := is_if (not_f hb3) h
  refine aw_skip ?_
  refine aq_then ?_
  refine aw_seq ?_
  refine aw_region ?_
  refine ao_r (r_move rfl) rfl ?_
  obtain ⟨r4, r4h, h⟩ := is_bind h
  refine ao_call [] 1 trivial (c_impl_orderWays (is_mk r4h)) Try.func34 rfl rfl rfl rfl ⟨ad_os0 rfl, trivial⟩ trivial rfl rfl rfl rfl rfl rfl rfl (fun r' H' hr => ?_)
  obtain ⟨rfl, rfl⟩ := hr
  refine ao_norm (y := .os 1) (H' := [(0, .row ty4 r1.1), (1, .row ty7 r4)]) rfl rfl ?_
  refine row_len_o 1 (r4.length : Int) rfl rfl (fun hr5 => ?_)
  refine ao_r (r_assign rfl) rfl ?_
  refine ao_r (r_assign rfl) rfl ?_
  refine ao_nil ?_
  refine aq_then ?_
  refine aw_ret ?_
  refine aq_ret ?_
  obtain rfl := is_some h
  exact aq_finx (l := [.tmp 2, .tmp 3]) (xs := [.os 1, .bool true]) (rn [(0, 1)]) [.os 0, .bool true] [(0, .row ty7 r4)] rfl (by exact ⟨rfl, rfl, trivial⟩) (by exact ⟨ad_ren rfl, ad_ren rfl, trivial⟩) (by exact ⟨⟨_, rfl, rfl⟩, trivial⟩) rfl (nk rfl) rfl rfl ⟨rfl, rfl⟩
theorem c_spec_l8Power {fu : Nat} {x0 : Int} {x1 : Int} {r : Int} (h : Is (p_spec_l8Power fu x0 x1) (some r)) :
    Scalar Try.prog 79 [.int .i64 x0, .int .i64 x1] (.int .i64 r) := by
  unfold p_spec_l8Power at h
  refine ac_enter ⟨16, 0⟩ Try.func79 rfl rfl rfl rfl rfl (fun Γ => ?_)
  refine aw_seq ?_
  refine aw_region ?_
  refine ao_r (r_assign rfl) rfl ?_
  refine ao_nil ?_
  refine aq_then ?_
  refine aw_seq ?_
  refine aw_region ?_
  refine ao_r (r_assign rfl) rfl ?_
  refine ao_nil ?_
  refine aq_then ?_
  refine aw_seq ?_
  refine aw_seq ?_
  refine aw_region ?_
  refine ao_r (r_assign rfl) rfl ?_
  refine ao_nil ?_
  refine aq_then ?_
  refine aw_block ?_
  refine aw_loop (AL.sub (sub_r1 idn (nk rfl) (by kernel_rfl)) (al_whl (fun (s1 : Int × Int) => [(0, .int .i64 x0), (1, .int .i64 x1), (5, .int .i64 s1.1), (6, .int .i64 s1.2)]) (fun (s1 : Int × Int) => []) (fun (s1 : Int × Int) => True) h trivial (fun d3 s1 hI h ih3 => ?_)))
  replace h := is_whlS h
  refine al_round ?_
  refine aw_seq ?_
  refine aw_seq ?_
  refine aw_region ?_
  refine ao_r (r_move rfl) rfl ?_
  refine ao_r (r_move rfl) rfl ?_
  refine ao_r (r_lss rfl rfl) rfl ?_
  refine ao_nil ?_
  refine aq_then ?_
  refine aw_cond rfl (fun hb5 => ?_) (fun hb5 => ?_)
  have q6 := d_t hb5
  replace h := is_if (d_t hb5) h
  refine aw_skip ?_
  refine aq_then ?_
  refine aw_seq ?_
  refine aw_block ?_
  refine aw_region ?_
  refine ao_r (r_move rfl) rfl ?_
  refine ao_r (r_move rfl) rfl ?_
  refine ao_r (r_mul rfl rfl) rfl ?_
  refine ao_r (r_assign rfl) rfl ?_
  refine ao_nil ?_
  refine aq_in ?_
  refine aq_then ?_
  refine aw_region ?_
  refine ao_r (r_move rfl) rfl ?_
  refine ao_r (r_add rfl rfl) rfl ?_
  refine ao_r (r_assign rfl) rfl ?_
  refine ao_nil ?_
  exact aq_again (AL.sub (sub_r1 idn (nk rfl) (by kernel_rfl)) (ih3 ((IntKind.wrap .i64 (s1.1 * x0)), (IntKind.wrap .i64 (s1.2 + 1))) trivial h))
  have q7 := d_f hb5
  replace h := is_else (d_f hb5) h
  refine aw_exit ?_
  refine aq_then_exit ?_
  refine aq_then_exit ?_
  refine aq_in_exit ?_
  refine aq_then ?_
  refine aw_seq ?_
  refine aw_region ?_
  refine ao_r (r_move rfl) rfl ?_
  refine ao_r (r_assign rfl) rfl ?_
  refine ao_nil ?_
  refine aq_then ?_
  refine aw_ret ?_
  refine aq_ret ?_
  obtain rfl := is_some h
  exact aq_finx (l := [.tmp 4]) (xs := [.int .i64 s1.1]) idn [.int .i64 s1.1] [] rfl (by exact ⟨rfl, trivial⟩) (by exact ⟨ad_ren rfl, trivial⟩) (by exact trivial) rfl (nk rfl) rfl rfl ⟨rfl, rfl⟩
theorem c_spec_l10Orders {fu : Nat} {x0 : Int} {r : (List (dy8 × Unit))} (h : Is (p_spec_l10Orders fu x0) (some r)) :
    ACalls Try.prog 61 [.int .i64 x0] [] (fun r' H' => r' = .os 0 ∧ H' = [(0, .row ty1 r)]) := by
  unfold p_spec_l10Orders at h
  refine ac_enter ⟨51, 0⟩ Try.func61 rfl rfl rfl rfl rfl (fun Γ => ?_)
  refine aw_seq ?_
  refine aw_region ?_
  refine ao_r (r_assign rfl) rfl ?_
  refine ao_nil ?_
  refine aq_then ?_
  refine aw_seq ?_
  refine aw_region ?_
  refine ao_eff trivial (e_buildSlice (l := []) (t := ty1) 0 ([] : (List (dy8 × Unit))) rfl Try.underlying44 Try.zeroValue49 Try.sizeOf49 rfl rfl rfl rfl rfl rfl rfl) rfl ?_
  refine ao_r (r_assign rfl) rfl ?_
  refine ao_nil ?_
  refine aq_then ?_
  refine aw_seq ?_
  refine aw_seq ?_
  refine aw_region ?_
  refine ao_r (r_assign rfl) rfl ?_
  refine ao_nil ?_
  refine aq_then ?_
  refine aw_block ?_
  refine aw_loop (AL.sub (sub_r1 idn (nk rfl) (by kernel_rfl)) (al_whl (fun (s1 : Int × (List (dy8 × Unit))) => [(0, .int .i64 x0), (3, .os 0), (4, .int .i64 s1.1)]) (fun (s1 : Int × (List (dy8 × Unit))) => [(0, .row ty1 s1.2)]) (fun (s1 : Int × (List (dy8 × Unit))) => True) h trivial (fun d3 s1 hI h ih3 => ?_)))
  replace h := is_whlS h
  refine al_round ?_
  refine aw_seq ?_
  refine aw_seq ?_
  refine aw_region ?_
  refine ao_r (r_move rfl) rfl ?_
  refine ao_r (r_move rfl) rfl ?_
  refine ao_r (r_move rfl) rfl ?_
  obtain ⟨r5, r5h, h⟩ := is_bind h
  refine ao_scall trivial (scall (c_spec_l8Power (is_mk r5h)) rfl Try.func79 rfl rfl rfl rfl (fun σ => ⟨ad_ren rfl, ad_ren rfl, trivial⟩)) rfl ?_
  refine ao_r (r_lss rfl rfl) rfl ?_
  refine ao_nil ?_
  refine aq_then ?_
  refine aw_cond rfl (fun hb6 => ?_) (fun hb6 => ?_)
  have q7 := d_t hb6
  replace h := is_if (d_t hb6) h
  refine aw_skip ?_
  refine aq_then ?_
  refine aw_seq ?_
  refine aw_block ?_
  refine aw_seq ?_
  refine aw_region ?_
  refine ao_r (r_build_arr (l := [(0, .const (.int .i64 (-1))), (1, .const (.int .i64 (-1))), (2, .const (.int .i64 (-1))), (3, .const (.int .i64 (-1)))]) (t := ty7) ([(-1), (-1), (-1), (-1)] : dy8) rfl Try.underlying47 Try.zeroValue47 Try.sizeOf3 rfl rfl rfl rfl) rfl ?_
  refine ao_r (r_build_stv (l := [(0, .tmp 17)]) (cs := [.arr ty7 4 ([(-1), (-1), (-1), (-1)] : dy8)]) ty1 (([(-1), (-1), (-1), (-1)], ()) : (dy8 × Unit)) [(0, 4)] Try.underlying49 Try.zeroValue49 rfl ⟨rfl, Try.sizeOf47, trivial⟩ rfl rfl rfl rfl) rfl ?_
  refine ao_r (r_move rfl) rfl ?_
  refine ao_eff trivial (e_alloc 1 (y := .st [.v (.arr 4 ty7) ((List.replicate 4 0) : dy8)]) Try.zeroValue49 (fun ρ h M => ra_zero_st (t := ty1) rfl rfl rfl) rfl rfl rfl rfl rfl) rfl ?_
  refine ao_effS trivial (e_store rfl rfl rfl rfl Try.sizeOf49 rfl) ?_
  refine ao_r (r_assign rfl) rfl ?_
  refine ao_r (r_assign rfl) rfl ?_
  refine ao_nil ?_
  refine aq_then ?_
  refine aw_seq ?_
  refine aw_seq ?_
  refine aw_region ?_
  refine ao_r (r_move rfl) rfl ?_
  refine ao_r (r_sub rfl rfl) rfl ?_
  refine ao_r (r_assign rfl) rfl ?_
  refine ao_nil ?_
  refine aq_then ?_
  refine aw_block ?_
  refine aw_loop (AL.sub (sub_r1 idn (nk rfl) (by kernel_rfl)) (al_whl (fun (s9 : Int × Int × Int × dy8) => [(0, .int .i64 x0), (3, .os 0), (4, .int .i64 s1.1), (5, .ref 1 0), (6, .int .i64 s9.1), (7, .int .i64 s9.2.1), (8, .int .i64 s9.2.2.1)]) (fun (s9 : Int × Int × Int × dy8) => [(0, .row ty1 s1.2), (1, .var [.arr ty7 4 s9.2.2.2])]) (fun (s9 : Int × Int × Int × dy8) => s9.2.2.1 ≤ (IntKind.wrap .i64 (x0 - 1)) ∧ (s9.2.2.2.length : Int) = ([(-1), (-1), (-1), (-1)].length : Int)) h ⟨(by (try simp only [List.length_set, List.length_append, List.length_cons, List.length_nil, List.length_replicate, List.length_take, List.length_drop]) <;> omega), (by (try simp only [List.length_set, List.length_append, List.length_cons, List.length_nil, List.length_replicate, List.length_take, List.length_drop]) <;> omega)⟩ (fun d11 s9 hI h ih11 => ?_)))
  obtain ⟨_, _⟩ := hI
  replace h := is_whlS h
  refine al_round ?_
  refine aw_seq ?_
  refine aw_seq ?_
  refine aw_region ?_
  refine ao_r (r_move rfl) rfl ?_
  refine ao_r (r_geq rfl rfl) rfl ?_
  refine ao_nil ?_
  refine aq_then ?_
  refine aw_cond rfl (fun hb13 => ?_) (fun hb13 => ?_)
  have q14 := d_t hb13
  replace h := is_if (d_t hb13) h
  refine aw_skip ?_
  refine aq_then ?_
  refine aw_seq ?_
  refine aw_block ?_
  refine aw_seq ?_
  refine aw_region ?_
  refine ao_r (r_move rfl) rfl ?_
  refine ao_r (r_move rfl) rfl ?_
  refine ao_r (r_move rfl) rfl ?_
  obtain ⟨g16, h⟩ := is_guard h
  refine ao_r (r_rem rfl rfl g16) rfl ?_
  refine ao_r (r_fieldAddr Try.underlying49 rfl Try.sizeOf47 rfl rfl rfl) rfl ?_
  obtain ⟨g17, h⟩ := is_guard h
  refine ao_r (r_idxAddr_arr (i := s9.2.2.1) Try.underlying47 Try.sizeOf3 rfl rfl (show 0 ≤ s9.2.2.1 from by omega) (show s9.2.2.1 < (4 : Int) from by omega)) rfl ?_
  refine ao_effS trivial (e_store_elema_int Try.sizeOf3 rfl rfl rfl rfl (show s9.2.2.1.toNat < 4 from by omega) rfl) ?_
  refine ao_nil ?_
  refine aq_then ?_
  refine aw_seq ?_
  refine aw_region ?_
  refine ao_r (r_move rfl) rfl ?_
  refine ao_r (r_move rfl) rfl ?_
  refine ao_r (r_move rfl) rfl ?_
  obtain ⟨g18, h⟩ := is_guard h
  refine ao_r (r_rem rfl rfl g18) rfl ?_
  obtain ⟨g19, h⟩ := is_guard h
  refine ao_r (r_shl rfl rfl (by omega)) rfl ?_
  refine ao_r (r_or rfl rfl) rfl ?_
  refine ao_r (r_assign rfl) rfl ?_
  refine ao_nil ?_
  refine aq_then ?_
  refine aw_region ?_
  refine ao_r (r_move rfl) rfl ?_
  refine ao_r (r_move rfl) rfl ?_
  obtain ⟨g20, h⟩ := is_guard h
  refine ao_r (r_quo rfl rfl g20) rfl ?_
  refine ao_r (r_assign rfl) rfl ?_
  refine ao_nil ?_
  refine aq_in ?_
  refine aq_then ?_
  refine aw_region ?_
  refine ao_r (r_move rfl) rfl ?_
  refine ao_r (r_subI rfl rfl (wrap_id (by omega) (by omega))) rfl ?_
  refine ao_r (r_assign rfl) rfl ?_
  refine ao_nil ?_
  exact aq_again (AL.sub (sub_r1 idn (nk rfl) (by kernel_rfl)) (ih11 ((orI .i64 s9.1 (shlI .i64 1 (s9.2.1.tmod x0))), (IntKind.wrap .i64 (s9.2.1.tdiv x0)), (s9.2.2.1 - 1), (s9.2.2.2.set s9.2.2.1.toNat (s9.2.1.tmod x0))) ⟨(by (try simp only [List.length_set, List.length_append, List.length_cons, List.length_nil, List.length_replicate, List.length_take, List.length_drop]) <;> omega), (by (try simp only [List.length_set, List.length_append, List.length_cons, List.length_nil, List.length_replicate, List.length_take, List.length_drop]) <;> omega)⟩ h))
  have q15 := d_f hb13
  replace h := is_else (d_f hb13) h
  refine aw_exit ?_
  refine aq_then_exit ?_
  refine aq_then_exit ?_
  refine aq_in_exit ?_
  refine aq_then ?_
  refine aw_seq ?_
  refine aw_region ?_
  refine ao_r (r_move rfl) rfl ?_
  refine ao_r (r_move rfl) rfl ?_
  obtain ⟨g21, h⟩ := is_guard h
  refine ao_r (r_shl rfl rfl (by omega)) rfl ?_
  refine ao_r (r_sub rfl rfl) rfl ?_
  refine ao_r (r_eql rfl rfl) rfl ?_
  refine ao_nil ?_
  refine aq_then ?_
  refine aw_cond rfl (fun hb22 => ?_) (fun hb22 => ?_)
  have q23 := d_t hb22
  replace h := is_if (d_t hb22) h
  refine aw_region ?_
  refine ao_r (r_move rfl) rfl ?_
  refine ao_r (r_load_part (τ := ty1) (y := ((s9.2.2.2, ()) : (dy8 × Unit))) [] [] rfl Try.isAgg49 Try.sizeOf49 rfl rfl rfl rfl) rfl ?_
  refine ao_eff trivial (e_buildSlice (l := [(0, .tmp 47)]) (t := ty1) 2 ([(s9.2.2.2, ())] : (List (dy8 × Unit))) rfl Try.underlying44 Try.zeroValue49 Try.sizeOf49 rfl rfl rfl rfl rfl rfl rfl) rfl ?_
  obtain ⟨g25, h⟩ := is_guard h
  refine ao_eff trivial (e_append (t := ty1) 3 rfl Try.underlying44 (rfl : Try.prog.info? 49 = some _) rfl rfl rfl rfl rfl rfl rfl (src_os rfl) (show s1.2.length + ([(s9.2.2.2, ())] : (List (dy8 × Unit))).length ≤ 1000000000 from by (try simp only [List.length_cons, List.length_nil]) <;> omega) rfl rfl) rfl ?_
  refine ao_r (r_assign rfl) rfl ?_
  refine ao_nil ?_
  refine aq_in ?_
  refine aq_then ?_
  refine aw_region ?_
  refine ao_r (r_move rfl) rfl ?_
  refine ao_r (r_add rfl rfl) rfl ?_
  refine ao_r (r_assign rfl) rfl ?_
  refine ao_nil ?_
  exact aq_again (AL.sub (sub_r1 (rn [(0, 3)]) (nk rfl) (by kernel_rfl)) (ih3 ((IntKind.wrap .i64 (s1.1 + 1)), (s1.2 ++ [(s9.2.2.2, ())])) trivial h))
  have q24 := d_f hb22
  replace h := is_else (d_f hb22) h
  refine aw_skip ?_
  refine aq_in ?_
  refine aq_then ?_
  refine aw_region ?_
  refine ao_r (r_move rfl) rfl ?_
  refine ao_r (r_add rfl rfl) rfl ?_
  refine ao_r (r_assign rfl) rfl ?_
  refine ao_nil ?_
  exact aq_again (AL.sub (sub_r1 idn (nk rfl) (by kernel_rfl)) (ih3 ((IntKind.wrap .i64 (s1.1 + 1)), s1.2) trivial h))
  have q8 := d_f hb6
  replace h := is_else (d_f hb6) h
  refine aw_exit ?_
  refine aq_then_exit ?_
  refine aq_then_exit ?_
  refine aq_in_exit ?_
  refine aq_then ?_
  refine aw_seq ?_
  refine aw_region ?_
  refine ao_r (r_move rfl) rfl ?_
  refine ao_r (r_assign rfl) rfl ?_
  refine ao_nil ?_
  refine aq_then ?_
  refine aw_ret ?_
  refine aq_ret ?_
  obtain rfl := is_some h
  exact aq_finx (l := [.tmp 2]) (xs := [.os 0]) idn [.os 0] [(0, .row ty1 s1.2)] rfl (by exact ⟨rfl, trivial⟩) (by exact ⟨ad_ren rfl, trivial⟩) (by exact ⟨⟨_, rfl, rfl⟩, trivial⟩) rfl (nk rfl) rfl rfl ⟨rfl, rfl⟩
theorem c_spec_l2All {fu : Nat} {x0 : Int} {r : Int} (h : Is (p_spec_l2All fu x0) (some r)) :
    Scalar Try.prog 62 [.int .i64 x0] (.int .i64 r) := by
  unfold p_spec_l2All at h
  refine ac_enter ⟨13, 0⟩ Try.func62 rfl rfl rfl rfl rfl (fun Γ => ?_)
  refine aw_seq ?_
  refine aw_region ?_
  refine ao_r (r_assign rfl) rfl ?_
  refine ao_nil ?_
  refine aq_then ?_
  refine aw_seq ?_
  refine aw_region ?_
  refine ao_r (r_assign rfl) rfl ?_
  refine ao_nil ?_
  refine aq_then ?_
  refine aw_seq ?_
  refine aw_seq ?_
  refine aw_region ?_
  refine ao_r (r_assign rfl) rfl ?_
  refine ao_nil ?_
  refine aq_then ?_
  refine aw_block ?_
  refine aw_loop (AL.sub (sub_r1 idn (nk rfl) (by kernel_rfl)) (al_whl (fun (s1 : Int × Int) => [(0, .int .i64 x0), (3, .int .i64 s1.1), (4, .int .i64 s1.2)]) (fun (s1 : Int × Int) => []) (fun (s1 : Int × Int) => True) h trivial (fun d3 s1 hI h ih3 => ?_)))
  replace h := is_whlS h
  refine al_round ?_
  refine aw_seq ?_
  refine aw_seq ?_
  refine aw_region ?_
  refine ao_r (r_move rfl) rfl ?_
  refine ao_r (r_move rfl) rfl ?_
  refine ao_r (r_lss rfl rfl) rfl ?_
  refine ao_nil ?_
  refine aq_then ?_
  refine aw_cond rfl (fun hb5 => ?_) (fun hb5 => ?_)
  have q6 := d_t hb5
  replace h := is_if (d_t hb5) h
  refine aw_skip ?_
  refine aq_then ?_
  refine aw_seq ?_
  refine aw_block ?_
  refine aw_region ?_
  refine ao_r (r_move rfl) rfl ?_
  refine ao_r (r_mul rfl rfl) rfl ?_
  refine ao_r (r_assign rfl) rfl ?_
  refine ao_nil ?_
  refine aq_in ?_
  refine aq_then ?_
  refine aw_region ?_
  refine ao_r (r_move rfl) rfl ?_
  refine ao_r (r_add rfl rfl) rfl ?_
  refine ao_r (r_assign rfl) rfl ?_
  refine ao_nil ?_
  exact aq_again (AL.sub (sub_r1 idn (nk rfl) (by kernel_rfl)) (ih3 ((IntKind.wrap .i64 (s1.1 * 6)), (IntKind.wrap .i64 (s1.2 + 1))) trivial h))
  have q7 := d_f hb5
  replace h := is_else (d_f hb5) h
  refine aw_exit ?_
  refine aq_then_exit ?_
  refine aq_then_exit ?_
  refine aq_in_exit ?_
  refine aq_then ?_
  refine aw_seq ?_
  refine aw_region ?_
  refine ao_r (r_move rfl) rfl ?_
  refine ao_r (r_assign rfl) rfl ?_
  refine ao_nil ?_
  refine aq_then ?_
  refine aw_ret ?_
  refine aq_ret ?_
  obtain rfl := is_some h
  exact aq_finx (l := [.tmp 2]) (xs := [.int .i64 s1.1]) idn [.int .i64 s1.1] [] rfl (by exact ⟨rfl, trivial⟩) (by exact ⟨ad_ren rfl, trivial⟩) (by exact trivial) rfl (nk rfl) rfl rfl ⟨rfl, rfl⟩
theorem c_spec_l2Roll {fu : Nat} {x0 : dy6} {x1 : Int} {r : dy8} (h : Is (p_spec_l2Roll fu x0 x1) (some r)) :
    ACalls Try.prog 64 [.v ty2 x0, .int .i64 x1] [] (fun r' H' => r' = .os 0 ∧ H' = [(0, .row ty7 r)]) := by
  unfold p_spec_l2Roll at h
  refine ac_enter ⟨30, 0⟩ Try.func64 rfl rfl rfl rfl rfl (fun Γ => ?_)
  refine sl_len_m 0 (x0.length : Int) rfl rfl (fun hl0 => ?_)
  refine aw_seq ?_
  refine aw_region ?_
  refine ao_r (r_assign rfl) rfl ?_
  refine ao_nil ?_
  refine aq_then ?_
  refine aw_seq ?_
  refine aw_region ?_
  refine ao_r (r_move rfl) rfl ?_
  refine ao_r (r_len_vm (x0.length : Int) Try.underlying26 rfl rfl) rfl ?_
  obtain ⟨g1, h⟩ := is_guard h
  refine ao_eff trivial (e_makeSlice 0 (t := ty7) Try.underlying24 (rfl : Try.prog.info? 3 = some _) rfl rfl rfl rfl rfl rfl (by omega) (by omega) rfl rfl) rfl ?_
  refine ao_r (r_assign rfl) rfl ?_
  refine ao_nil ?_
  refine aq_then ?_
  refine aw_seq ?_
  refine aw_seq ?_
  refine aw_region ?_
  refine ao_r (r_move rfl) rfl ?_
  refine ao_r (r_len_vm (x0.length : Int) Try.underlying26 rfl rfl) rfl ?_
  refine ao_r (r_subI rfl rfl (wrap_id (by omega) (by omega))) rfl ?_
  refine ao_r (r_assign rfl) rfl ?_
  refine ao_nil ?_
  refine aq_then ?_
  refine aw_block ?_
  refine aw_loop (AL.sub (sub_r1 idn (nk rfl) (by kernel_rfl)) (al_whl (fun (s2 : Int × Int × dy8) => [(0, .v ty2 x0), (1, .int .i64 s2.1), (5, .os 0), (6, .int .i64 s2.2.1)]) (fun (s2 : Int × Int × dy8) => [(0, .row ty7 s2.2.2)]) (fun (s2 : Int × Int × dy8) => s2.2.1 ≤ ((x0.length : Int) - 1) ∧ (s2.2.2.length : Int) = (x0.length : Int)) h ⟨(by (try simp only [List.length_set, List.length_append, List.length_cons, List.length_nil, List.length_replicate, List.length_take, List.length_drop]) <;> omega), (by (try simp only [List.length_set, List.length_append, List.length_cons, List.length_nil, List.length_replicate, List.length_take, List.length_drop]) <;> omega)⟩ (fun d4 s2 hI h ih4 => ?_)))
  obtain ⟨_, _⟩ := hI
  replace h := is_whlS h
  refine al_round ?_
  refine aw_seq ?_
  refine aw_seq ?_
  refine aw_region ?_
  refine ao_r (r_move rfl) rfl ?_
  refine ao_r (r_geq rfl rfl) rfl ?_
  refine ao_nil ?_
  refine aq_then ?_
  refine aw_cond rfl (fun hb6 => ?_) (fun hb6 => ?_)
  have q7 := d_t hb6
  replace h := is_if (d_t hb6) h
  refine aw_skip ?_
  refine aq_then ?_
  refine aw_seq ?_
  refine aw_block ?_
  refine aw_seq ?_
  refine aw_region ?_
  refine ao_r (r_move rfl) rfl ?_
  refine ao_r (r_move rfl) rfl ?_
  refine ao_r (r_move rfl) rfl ?_
  refine ao_r (r_move rfl) rfl ?_
  refine ao_r (r_move rfl) rfl ?_
  refine ao_r (r_rem rfl rfl (by decide)) rfl ?_
  refine ao_r (r_idxAddr (t := ty4) Try.underlying26 Try.sizeOf62 rfl rfl (show 0 ≤ s2.2.1 from by omega) (show s2.2.1 < (x0.length : Int) from by omega)) rfl ?_
  obtain ⟨g9, h⟩ := is_guard h
  obtain ⟨g10, h⟩ := is_guard h
  refine ao_r (r_idxAddr_ca (t := ty7) Try.underlying62 Try.sizeOf3 rfl rfl (by omega) (by omega)) rfl ?_
  refine ao_r (r_load_c_int Try.isAgg3 Try.sizeOf3 rfl) rfl ?_
  refine ao_r (r_idxAddr_os Try.underlying24 Try.sizeOf3 rfl rfl rfl (show 0 ≤ s2.2.1 from by omega) (show s2.2.1 < (s2.2.2.length : Int) from by omega)) rfl ?_
  refine ao_effS trivial (e_store_elem_int Try.sizeOf3 rfl rfl rfl rfl (show s2.2.1.toNat < s2.2.2.length from by omega) rfl) ?_
  refine ao_nil ?_
  refine aq_then ?_
  refine aw_region ?_
  refine ao_r (r_move rfl) rfl ?_
  refine ao_r (r_quo rfl rfl (by decide)) rfl ?_
  refine ao_r (r_assign rfl) rfl ?_
  refine ao_nil ?_
  refine aq_in ?_
  refine aq_then ?_
  refine aw_region ?_
  refine ao_r (r_move rfl) rfl ?_
  refine ao_r (r_subI rfl rfl (wrap_id (by omega) (by omega))) rfl ?_
  refine ao_r (r_assign rfl) rfl ?_
  refine ao_nil ?_
  exact aq_again (AL.sub (sub_r1 idn (nk rfl) (by kernel_rfl)) (ih4 ((IntKind.wrap .i64 (s2.1.tdiv 6)), (s2.2.1 - 1), (s2.2.2.set s2.2.1.toNat ((x0.getD s2.2.1.toNat (List.replicate 6 0)).getD (s2.1.tmod 6).toNat 0))) ⟨(by (try simp only [List.length_set, List.length_append, List.length_cons, List.length_nil, List.length_replicate, List.length_take, List.length_drop]) <;> omega), (by (try simp only [List.length_set, List.length_append, List.length_cons, List.length_nil, List.length_replicate, List.length_take, List.length_drop]) <;> omega)⟩ h))
  have q8 := d_f hb6
  replace h := is_else (d_f hb6) h
  refine aw_exit ?_
  refine aq_then_exit ?_
  refine aq_then_exit ?_
  refine aq_in_exit ?_
  refine aq_then ?_
  refine aw_seq ?_
  refine aw_region ?_
  refine ao_r (r_move rfl) rfl ?_
  refine ao_r (r_assign rfl) rfl ?_
  refine ao_nil ?_
  refine aq_then ?_
  refine aw_ret ?_
  refine aq_ret ?_
  obtain rfl := is_some h
  exact aq_finx (l := [.tmp 4]) (xs := [.os 0]) idn [.os 0] [(0, .row ty7 s2.2.2)] rfl (by exact ⟨rfl, trivial⟩) (by exact ⟨ad_ren rfl, trivial⟩) (by exact ⟨⟨_, rfl, rfl⟩, trivial⟩) rfl (nk rfl) rfl rfl ⟨rfl, rfl⟩
theorem c_spec_l10Order {x0 : dy8} {r : (dy8 × Unit) × Bool} (h : Is (p_spec_l10Order x0) (some r)) :
    Scalar Try.prog 63 [.v ty3 x0] (.tup [.v ty1 r.1, .bool r.2]) := by
  unfold p_spec_l10Order at h
  refine ac_enter ⟨53, 0⟩ Try.func63 rfl rfl rfl rfl rfl (fun Γ => ?_)
  refine sl_len_m 0 (x0.length : Int) rfl rfl (fun hl0 => ?_)
  refine aw_seq ?_
  refine aw_region ?_
  refine ao_eff trivial (e_alloc 0 (y := .st [.v (.arr 4 ty7) ((List.replicate 4 0) : dy8)]) Try.zeroValue49 (fun ρ h M => ra_zero_st (t := ty1) rfl rfl rfl) rfl rfl rfl rfl rfl) rfl ?_
  refine ao_r (r_assign rfl) rfl ?_
  refine ao_nil ?_
  refine aq_then ?_
  refine aw_seq ?_
  refine aw_region ?_
  refine ao_r (r_build_arr (l := [(0, .const (.int .i64 (-1))), (1, .const (.int .i64 (-1))), (2, .const (.int .i64 (-1))), (3, .const (.int .i64 (-1)))]) (t := ty7) ([(-1), (-1), (-1), (-1)] : dy8) rfl Try.underlying47 Try.zeroValue47 Try.sizeOf3 rfl rfl rfl rfl) rfl ?_
  refine ao_r (r_build_stv (l := [(0, .tmp 8)]) (cs := [.arr ty7 4 ([(-1), (-1), (-1), (-1)] : dy8)]) ty1 (([(-1), (-1), (-1), (-1)], ()) : (dy8 × Unit)) [(0, 4)] Try.underlying49 Try.zeroValue49 rfl ⟨rfl, Try.sizeOf47, trivial⟩ rfl rfl rfl rfl) rfl ?_
  refine ao_eff trivial (e_alloc 1 (y := .st [.v (.arr 4 ty7) ((List.replicate 4 0) : dy8)]) Try.zeroValue49 (fun ρ h M => ra_zero_st (t := ty1) rfl rfl rfl) rfl rfl rfl rfl rfl) rfl ?_
  refine ao_effS trivial (e_store rfl rfl rfl rfl Try.sizeOf49 rfl) ?_
  refine ao_nil ?_
  refine aq_then ?_
  refine aw_seq ?_
  refine aw_seq ?_
  refine aw_region ?_
  refine ao_r (r_assign rfl) rfl ?_
  refine ao_nil ?_
  refine aq_then ?_
  refine aw_block ?_
  refine aw_loop (AL.sub (fr' := [(0, .v ty3 x0), (2, .ref 0 0), (4, .ref 1 0), (5, .int .i64 0)]) (H' := [(0, .var [.arr ty7 4 ((List.replicate 4 0) : dy8)]), (1, .var [.arr ty7 4 ([(-1), (-1), (-1), (-1)] : dy8)])]) (sub_r1 idn (nk rfl) (by kernel_rfl)) (al_cnt (fun i2 (s1 : dy8) => [(0, .v ty3 x0), (2, .ref 0 0), (4, .ref 1 0), (5, .int .i64 i2)]) (fun i2 (s1 : dy8) => [(0, .var [.arr ty7 4 ((List.replicate 4 0) : dy8)]), (1, .var [.arr ty7 4 s1])]) (fun d i2 (s1 : dy8) => d = Int.toNat ((x0.length : Int) - i2) ∧ 0 ≤ i2 ∧ (s1.length : Int) = ([(-1), (-1), (-1), (-1)].length : Int) ∧ i2 ≤ (x0.length : Int)) h ⟨rfl, (by (try simp only [List.length_set, List.length_append, List.length_cons, List.length_nil, List.length_replicate, List.length_take, List.length_drop]) <;> omega), (by (try simp only [List.length_set, List.length_append, List.length_cons, List.length_nil, List.length_replicate, List.length_take, List.length_drop]) <;> omega), (by (try simp only [List.length_set, List.length_append, List.length_cons, List.length_nil, List.length_replicate, List.length_take, List.length_drop]) <;> omega)⟩ (fun d3 i2 s1 hI h ih3 => ?_)))
  obtain ⟨hd, _, _, _⟩ := hI
  refine al_round ?_
  refine aw_seq ?_
  refine aw_seq ?_
  refine aw_region ?_
  refine ao_r (r_move rfl) rfl ?_
  refine ao_r (r_move rfl) rfl ?_
  refine ao_r (r_len_vm (x0.length : Int) Try.underlying24 rfl rfl) rfl ?_
  refine ao_r (r_lss rfl rfl) rfl ?_
  refine ao_nil ?_
  refine aq_then ?_
  refine aw_cond rfl (fun hb5 => ?_) (fun hb5 => ?_)
  have q6 := d_t hb5
  obtain ⟨d3, rfl⟩ : ∃ e, d3 = e + 1 := ⟨d3 - 1, by omega⟩
  replace h := is_cntS h
  refine aw_skip ?_
  refine aq_then ?_
  refine aw_seq ?_
  refine aw_block ?_
  refine aw_seq ?_
  refine aw_region ?_
  refine ao_r (r_assign rfl) rfl ?_
  refine ao_nil ?_
  refine aq_then ?_
  refine aw_seq ?_
  refine aw_seq ?_
  refine aw_region ?_
  refine ao_r (r_assign rfl) rfl ?_
  refine ao_nil ?_
  refine aq_then ?_
  refine aw_block ?_
  refine aw_loop (AL.sub (fr' := [(0, .v ty3 x0), (2, .ref 0 0), (4, .ref 1 0), (5, .int .i64 i2), (6, .int .i64 0), (7, .int .i64 0)]) (H' := [(0, .var [.arr ty7 4 ((List.replicate 4 0) : dy8)]), (1, .var [.arr ty7 4 s1])]) (sub_r1 idn (nk rfl) (by kernel_rfl)) (al_cnt (fun i9 (s8 : Int) => [(0, .v ty3 x0), (2, .ref 0 0), (4, .ref 1 0), (5, .int .i64 i2), (6, .int .i64 s8), (7, .int .i64 i9)]) (fun i9 (s8 : Int) => [(0, .var [.arr ty7 4 ((List.replicate 4 0) : dy8)]), (1, .var [.arr ty7 4 s1])]) (fun d i9 (s8 : Int) => d = Int.toNat ((x0.length : Int) - i9) ∧ 0 ≤ i9 ∧ i9 ≤ (x0.length : Int)) h ⟨rfl, (by (try simp only [List.length_set, List.length_append, List.length_cons, List.length_nil, List.length_replicate, List.length_take, List.length_drop]) <;> omega), (by (try simp only [List.length_set, List.length_append, List.length_cons, List.length_nil, List.length_replicate, List.length_take, List.length_drop]) <;> omega)⟩ (fun d10 i9 s8 hI h ih10 => ?_)))
  obtain ⟨hd, _, _⟩ := hI
  refine al_round ?_
  refine aw_seq ?_
  refine aw_seq ?_
  refine aw_region ?_
  refine ao_r (r_move rfl) rfl ?_
  refine ao_r (r_move rfl) rfl ?_
  refine ao_r (r_len_vm (x0.length : Int) Try.underlying24 rfl rfl) rfl ?_
  refine ao_r (r_lss rfl rfl) rfl ?_
  refine ao_nil ?_
  refine aq_then ?_
  refine aw_cond rfl (fun hb12 => ?_) (fun hb12 => ?_)
  have q13 := d_t hb12
  obtain ⟨d10, rfl⟩ : ∃ e, d10 = e + 1 := ⟨d10 - 1, by omega⟩
  replace h := is_cntS h
  refine aw_skip ?_
  refine aq_then ?_
  refine aw_seq ?_
  refine aw_block ?_
  refine aw_seq ?_
  refine aw_seq ?_
  refine aw_drawAll (by kernel_rfl) ?_
  refine an_r 0 (fun _ _ _ h => h) rfl (by kernel_rfl) (r_move rfl) rfl ?_
  refine an_r 1 (fun _ _ _ h => h) rfl (by kernel_rfl) (r_move rfl) rfl ?_
  refine an_r 2 (fun _ _ _ h => h) rfl (by kernel_rfl) (r_neq rfl rfl) rfl ?_
  refine an_r 3 (fun _ _ _ h => h) rfl (by kernel_rfl) (r_move rfl) rfl ?_
  refine an_readG 4 (x := .v ty3 x0) (by kernel_rfl) (fun _ _ _ h => h) rfl (by kernel_rfl) rfl (GV.T rfl) (fun hg15 => by
        have q16 := d_f (not_t hg15)
        exact r_move rfl) rfl ?_
  refine an_readG 5 (x := .int .i64 i9) (by kernel_rfl) (fun _ _ _ h => h) rfl (by kernel_rfl) rfl (GV.T rfl) (fun hg17 => by
        have q18 := d_f (not_t hg17)
        exact r_move rfl) rfl ?_
  refine an_readG 6 (x := .cptr ty7 ((x0.getD i9.toNat 0) : Int)) (by kernel_rfl) (fun _ _ _ h => h) rfl (by kernel_rfl) rfl (GV.T rfl) (fun hg19 => by
        have q20 := d_f (not_t hg19)
        exact Reads.strip 26 rfl (hg19) (Reads.strip 27 rfl (hg19) (r_idxAddr_int Try.underlying24 Try.sizeOf3 rfl rfl (show 0 ≤ i9 from by omega) (show i9 < (x0.length : Int) from by omega)))) rfl ?_
  refine an_readG 7 (x := .int .i64 (x0.getD i9.toNat 0)) (by kernel_rfl) (fun _ _ _ h => h) rfl (by kernel_rfl) rfl (GV.T rfl) (fun hg21 => by
        have q22 := d_f (not_t hg21)
        exact Reads.strip 28 rfl (hg21) (r_load_c_int Try.isAgg3 Try.sizeOf3 rfl)) rfl ?_
  refine an_readG 8 (x := .v ty3 x0) (by kernel_rfl) (fun _ _ _ h => h) rfl (by kernel_rfl) rfl (GV.T rfl) (fun hg23 => by
        have q24 := d_f (not_t hg23)
        exact r_move rfl) rfl ?_
  refine an_readG 9 (x := .int .i64 i2) (by kernel_rfl) (fun _ _ _ h => h) rfl (by kernel_rfl) rfl (GV.T rfl) (fun hg25 => by
        have q26 := d_f (not_t hg25)
        exact r_move rfl) rfl ?_
  refine an_readG 10 (x := .cptr ty7 ((x0.getD i2.toNat 0) : Int)) (by kernel_rfl) (fun _ _ _ h => h) rfl (by kernel_rfl) rfl (GV.T rfl) (fun hg27 => by
        have q28 := d_f (not_t hg27)
        exact Reads.strip 30 rfl (hg27) (Reads.strip 31 rfl (hg27) (r_idxAddr_int Try.underlying24 Try.sizeOf3 rfl rfl (show 0 ≤ i2 from by omega) (show i2 < (x0.length : Int) from by omega)))) rfl ?_
  refine an_readG 11 (x := .int .i64 (x0.getD i2.toNat 0)) (by kernel_rfl) (fun _ _ _ h => h) rfl (by kernel_rfl) rfl (GV.T rfl) (fun hg29 => by
        have q30 := d_f (not_t hg29)
        exact Reads.strip 32 rfl (hg29) (r_load_c_int Try.isAgg3 Try.sizeOf3 rfl)) rfl ?_
  refine an_readG 12 (x := .bool (decide ((x0.getD i9.toNat 0) = (x0.getD i2.toNat 0)))) (by kernel_rfl) (fun _ _ _ h => h) rfl (by kernel_rfl) rfl (GV.T rfl) (fun hg31 => by
        have q32 := d_f (not_t hg31)
        exact Reads.strip 29 rfl (hg31) (Reads.strip 33 rfl (hg31) (r_eql rfl rfl))) rfl ?_
  refine an_r 13 (fun _ _ _ h => h) rfl (by kernel_rfl) (r_andB rfl rfl) rfl ?_
  refine an_done rfl ?_
  refine aq_then ?_
  refine aw_cond rfl (fun hb33 => ?_) (fun hb33 => ?_)
  obtain ⟨q34, q35⟩ := and_t hb33
  have q36 := d_f (not_t q34)
  have q37 : (x0.getD i9.toNat 0) = (x0.getD i2.toNat 0) := d_t q35
  replace h := is_if hb33 h
  refine aw_seq ?_
  refine aw_region ?_
  refine ao_r (r_build_stv (l := []) (cs := [.arr ty7 4 ((List.replicate 4 0) : dy8)]) ty1 (((List.replicate 4 0), ()) : (dy8 × Unit)) [(0, 4)] Try.underlying49 Try.zeroValue49 rfl ⟨rfl, Try.sizeOf47, trivial⟩ rfl rfl rfl rfl) rfl ?_
  refine ao_effS trivial (e_store rfl rfl rfl rfl Try.sizeOf49 rfl) ?_
  refine ao_r (r_assign rfl) rfl ?_
  refine ao_nil ?_
  refine aq_then ?_
  refine aw_ret ?_
  refine aq_then_ret ?_
  refine aq_in_ret ?_
  refine aq_then_ret ?_
  refine aq_then_ret ?_
  refine aq_in_ret ?_
  refine aq_then_ret ?_
  refine aq_in_ret ?_
  refine aq_then_ret ?_
  refine aq_then_ret ?_
  refine aq_in_ret ?_
  refine aq_then_ret ?_
  refine aq_ret ?_
  obtain rfl := is_some h
  exact aq_finx (l := [.cell 2 49, .tmp 3]) (xs := [.st [.v (.arr 4 ty7) ((List.replicate 4 0) : dy8)], .bool false]) idn [.v ty1 (((List.replicate 4 0), ()) : (dy8 × Unit)), .bool false] [] rfl (by exact ⟨⟨⟨_, _, rfl⟩, r_load_st [] [.arr ty7 4 ((List.replicate 4 0) : dy8)] [] Try.isAgg49 Try.sizeOf49 rfl rfl rfl rfl rfl rfl rfl⟩, rfl, trivial⟩) (by exact ⟨ad_st rfl rfl ⟨ad_ren rfl, trivial⟩, ad_ren rfl, trivial⟩) (by exact trivial) rfl (nk rfl) rfl rfl ⟨rfl, rfl⟩
  replace h := is_else (ne_t hb33) h
  refine aw_skip ?_
  refine aq_then ?_
  refine aw_seq ?_
  refine aw_drawAll (by kernel_rfl) ?_
  refine an_r 0 (fun _ _ _ h => h) rfl (by kernel_rfl) (r_move rfl) rfl ?_
  refine an_r 1 (fun _ _ _ h => h) rfl (by kernel_rfl) (r_move rfl) rfl ?_
  refine an_r 2 (fun _ _ _ h => h) rfl (by kernel_rfl) (r_idxAddr_int Try.underlying24 Try.sizeOf3 rfl rfl (show 0 ≤ i9 from by omega) (show i9 < (x0.length : Int) from by omega)) rfl ?_
  refine an_r 3 (fun _ _ _ h => h) rfl (by kernel_rfl) (r_load_c_int Try.isAgg3 Try.sizeOf3 rfl) rfl ?_
  refine an_r 4 (fun _ _ _ h => h) rfl (by kernel_rfl) (r_move rfl) rfl ?_
  refine an_r 5 (fun _ _ _ h => h) rfl (by kernel_rfl) (r_move rfl) rfl ?_
  refine an_r 6 (fun _ _ _ h => h) rfl (by kernel_rfl) (r_idxAddr_int Try.underlying24 Try.sizeOf3 rfl rfl (show 0 ≤ i2 from by omega) (show i2 < (x0.length : Int) from by omega)) rfl ?_
  refine an_r 7 (fun _ _ _ h => h) rfl (by kernel_rfl) (r_load_c_int Try.isAgg3 Try.sizeOf3 rfl) rfl ?_
  refine an_r 8 (fun _ _ _ h => h) rfl (by kernel_rfl) (r_gtr rfl rfl) rfl ?_
  refine an_done rfl ?_
  refine aq_then ?_
  refine aw_cond rfl (fun hb38 => ?_) (fun hb38 => ?_)
  have q39 : (x0.getD i2.toNat 0) < (x0.getD i9.toNat 0) := d_t hb38
  replace h := is_if (d_t hb38) h
  refine aw_region ?_
  refine ao_r (r_move rfl) rfl ?_
  refine ao_r (r_add rfl rfl) rfl ?_
  refine ao_r (r_assign rfl) rfl ?_
  refine ao_nil ?_
  refine aq_in ?_
  refine aq_then ?_
  refine aw_region ?_
  refine ao_r (r_move rfl) rfl ?_
  refine ao_r (r_addI rfl rfl (wrap_id (by omega) (by omega))) rfl ?_
  refine ao_r (r_assign rfl) rfl ?_
  refine ao_nil ?_
  exact aq_again (AL.sub (sub_r1 idn (nk rfl) (by kernel_rfl)) (ih10 d10 (i9 + 1) (IntKind.wrap .i64 (s8 + 1)) (by omega) ⟨by omega, (by (try simp only [List.length_set, List.length_append, List.length_cons, List.length_nil, List.length_replicate, List.length_take, List.length_drop]) <;> omega), (by (try simp only [List.length_set, List.length_append, List.length_cons, List.length_nil, List.length_replicate, List.length_take, List.length_drop]) <;> omega)⟩ h))
  have q40 : ¬ ((x0.getD i2.toNat 0) < (x0.getD i9.toNat 0)) := d_f hb38
  replace h := is_else (d_f hb38) h
  refine aw_skip ?_
  refine aq_in ?_
  refine aq_then ?_
  refine aw_region ?_
  refine ao_r (r_move rfl) rfl ?_
  refine ao_r (r_addI rfl rfl (wrap_id (by omega) (by omega))) rfl ?_
  refine ao_r (r_assign rfl) rfl ?_
  refine ao_nil ?_
  exact aq_again (AL.sub (sub_r1 idn (nk rfl) (by kernel_rfl)) (ih10 d10 (i9 + 1) s8 (by omega) ⟨by omega, (by (try simp only [List.length_set, List.length_append, List.length_cons, List.length_nil, List.length_replicate, List.length_take, List.length_drop]) <;> omega), (by (try simp only [List.length_set, List.length_append, List.length_cons, List.length_nil, List.length_replicate, List.length_take, List.length_drop]) <;> omega)⟩ h))
  have q14 := d_f hb12
  obtain rfl : d10 = 0 := by omega
  replace h := is_cnt0 h
  refine aw_exit ?_
  refine aq_then_exit ?_
  refine aq_then_exit ?_
  refine aq_in_exit ?_
  refine aq_then ?_
  refine aw_region ?_
  refine ao_r (r_move rfl) rfl ?_
  refine ao_r (r_move rfl) rfl ?_
  refine ao_r (r_fieldAddr Try.underlying49 rfl Try.sizeOf47 rfl rfl rfl) rfl ?_
  obtain ⟨g41, h⟩ := is_guard h
  obtain ⟨g42, h⟩ := is_guard h
  refine ao_r (r_idxAddr_arr (i := s8) Try.underlying47 Try.sizeOf3 rfl rfl (show 0 ≤ s8 from by omega) (show s8 < (4 : Int) from by omega)) rfl ?_
  refine ao_effS trivial (e_store_elema_int Try.sizeOf3 rfl rfl rfl rfl (show s8.toNat < 4 from by omega) rfl) ?_
  refine ao_nil ?_
  refine aq_in ?_
  refine aq_then ?_
  refine aw_region ?_
  refine ao_r (r_move rfl) rfl ?_
  refine ao_r (r_addI rfl rfl (wrap_id (by omega) (by omega))) rfl ?_
  refine ao_r (r_assign rfl) rfl ?_
  refine ao_nil ?_
  exact aq_again (AL.sub (sub_r1 idn (nk rfl) (by kernel_rfl)) (ih3 d3 (i2 + 1) (s1.set s8.toNat i2) (by omega) ⟨by omega, (by (try simp only [List.length_set, List.length_append, List.length_cons, List.length_nil, List.length_replicate, List.length_take, List.length_drop]) <;> omega), (by (try simp only [List.length_set, List.length_append, List.length_cons, List.length_nil, List.length_replicate, List.length_take, List.length_drop]) <;> omega), (by (try simp only [List.length_set, List.length_append, List.length_cons, List.length_nil, List.length_replicate, List.length_take, List.length_drop]) <;> omega)⟩ h))
  have q7 := d_f hb5
  obtain rfl : d3 = 0 := by omega
  replace h := is_cnt0 h
  refine aw_exit ?_
  refine aq_then_exit ?_
  refine aq_then_exit ?_
  refine aq_in_exit ?_
  refine aq_then ?_
  refine aw_seq ?_
  refine aw_region ?_
  refine ao_r (r_load_part (τ := ty1) (y := ((s1, ()) : (dy8 × Unit))) [] [] rfl Try.isAgg49 Try.sizeOf49 rfl rfl rfl rfl) rfl ?_
  refine ao_effS trivial (e_store rfl rfl rfl rfl Try.sizeOf49 rfl) ?_
  refine ao_r (r_assign rfl) rfl ?_
  refine ao_nil ?_
  refine aq_then ?_
  refine aw_ret ?_
  refine aq_ret ?_
  obtain rfl := is_some h
  exact aq_finx (l := [.cell 2 49, .tmp 3]) (xs := [.st [.v (.arr 4 ty7) s1], .bool true]) idn [.v ty1 ((s1, ()) : (dy8 × Unit)), .bool true] [] rfl (by exact ⟨⟨⟨_, _, rfl⟩, r_load_st [] [.arr ty7 4 s1] [] Try.isAgg49 Try.sizeOf49 rfl rfl rfl rfl rfl rfl rfl⟩, rfl, trivial⟩) (by exact ⟨ad_st rfl rfl ⟨ad_ren rfl, trivial⟩, ad_ren rfl, trivial⟩) (by exact trivial) rfl (nk rfl) rfl rfl ⟨rfl, rfl⟩
theorem c_spec_l10Ways {fu : Nat} {x0 : dy6} {r : dy8} (h : Is (p_spec_l10Ways fu x0) (some r)) :
    ACalls Try.prog 35 [.v ty2 x0] [] (fun r' H' => r' = .os 0 ∧ H' = [(0, .row ty7 r)]) := by
  unfold p_spec_l10Ways at h
  refine ac_enter ⟨51, 0⟩ Try.func35 rfl rfl rfl rfl rfl (fun Γ => ?_)
  refine sl_len_m 0 (x0.length : Int) rfl rfl (fun hl0 => ?_)
  refine aw_seq ?_
  refine aw_region ?_
  refine ao_r (r_assign rfl) rfl ?_
  refine ao_nil ?_
  refine aq_then ?_
  refine aw_seq ?_
  refine aw_region ?_
  refine ao_r (r_move rfl) rfl ?_
  refine ao_r (r_len_vm (x0.length : Int) Try.underlying26 rfl rfl) rfl ?_
  obtain ⟨r1, r1h, h⟩ := is_bind h
  refine ao_call [] 0 trivial (c_spec_l10Orders (is_mk r1h)) Try.func61 rfl rfl rfl rfl ⟨ad_ren rfl, trivial⟩ trivial rfl rfl rfl rfl rfl rfl rfl (fun r' H' hr => ?_)
  obtain ⟨rfl, rfl⟩ := hr
  refine ao_norm (y := .os 0) (H' := [(0, .row ty1 r1)]) rfl rfl ?_
  refine row_len_o 0 (r1.length : Int) rfl rfl (fun hr2 => ?_)
  refine ao_r (r_assign rfl) rfl ?_
  refine ao_nil ?_
  refine aq_then ?_
  refine aw_seq ?_
  refine aw_region ?_
  refine ao_r (r_move rfl) rfl ?_
  refine ao_r (r_len_osm (r1.length : Int) Try.underlying44 rfl rfl rfl) rfl ?_
  obtain ⟨g3, h⟩ := is_guard h
  refine ao_eff trivial (e_makeSlice 1 (t := ty7) Try.underlying24 (rfl : Try.prog.info? 3 = some _) rfl rfl rfl rfl rfl rfl (by omega) (by omega) rfl rfl) rfl ?_
  refine ao_r (r_assign rfl) rfl ?_
  refine ao_nil ?_
  refine aq_then ?_
  refine aw_seq ?_
  refine aw_seq ?_
  refine aw_region ?_
  refine ao_r (r_assign rfl) rfl ?_
  refine ao_nil ?_
  refine aq_then ?_
  refine aw_block ?_
  refine aw_loop (AL.sub (sub_r1 idn (nk rfl) (by kernel_rfl)) (al_whl (fun (s4 : Int × dy8) => [(0, .v ty2 x0), (3, .os 0), (4, .os 1), (5, .int .i64 s4.1)]) (fun (s4 : Int × dy8) => [(0, .row ty1 r1), (1, .row ty7 s4.2)]) (fun (s4 : Int × dy8) => (s4.2.length : Int) = (r1.length : Int)) h (by (try simp only [List.length_set, List.length_append, List.length_cons, List.length_nil, List.length_replicate, List.length_take, List.length_drop]) <;> omega) (fun d6 s4 hI h ih6 => ?_)))
  replace h := is_whlS h
  refine al_round ?_
  refine aw_seq ?_
  refine aw_seq ?_
  refine aw_region ?_
  refine ao_r (r_move rfl) rfl ?_
  refine ao_r (r_move rfl) rfl ?_
  refine ao_r (r_len_vm (x0.length : Int) Try.underlying26 rfl rfl) rfl ?_
  obtain ⟨r8, r8h, h⟩ := is_bind h
  refine ao_scall trivial (scall (c_spec_l2All (is_mk r8h)) rfl Try.func62 rfl rfl rfl rfl (fun σ => ⟨ad_ren rfl, trivial⟩)) rfl ?_
  refine ao_r (r_lss rfl rfl) rfl ?_
  refine ao_nil ?_
  refine aq_then ?_
  refine aw_cond rfl (fun hb9 => ?_) (fun hb9 => ?_)
  have q10 := d_t hb9
  replace h := is_if (d_t hb9) h
  refine aw_skip ?_
  refine aq_then ?_
  refine aw_seq ?_
  refine aw_block ?_
  refine aw_seq ?_
  refine aw_region ?_
  refine ao_r (r_move rfl) rfl ?_
  refine ao_r (r_move rfl) rfl ?_
  obtain ⟨r12, r12h, h⟩ := is_bind h
  refine ao_call [] 2 trivial (c_spec_l2Roll (is_mk r12h)) Try.func64 rfl rfl rfl rfl ⟨ad_ren rfl, ad_ren rfl, trivial⟩ trivial rfl rfl rfl rfl rfl rfl rfl (fun r' H' hr => ?_)
  obtain ⟨rfl, rfl⟩ := hr
  refine ao_norm (y := .os 2) (H' := [(0, .row ty1 r1), (1, .row ty7 s4.2), (2, .row ty7 r12)]) rfl rfl ?_
  refine row_len_o 2 (r12.length : Int) rfl rfl (fun hr13 => ?_)
  obtain ⟨r14, r14h, h⟩ := is_bind h
  refine ao_scall trivial (scall (c_spec_l10Order (is_mk r14h)) rfl Try.func63 rfl rfl rfl rfl (fun σ => ⟨ad_os0 rfl, trivial⟩)) rfl ?_
  refine ao_r (r_move rfl) rfl ?_
  refine ao_r (r_extract rfl rfl) rfl ?_
  refine ao_r (r_extract rfl rfl) rfl ?_
  refine ao_eff trivial (e_alloc 3 (y := .st [.v (.arr 4 ty7) ((List.replicate 4 0) : dy8)]) Try.zeroValue49 (fun ρ h M => ra_zero_st (t := ty1) rfl rfl rfl) rfl rfl rfl rfl rfl) rfl ?_
  refine ao_effS trivial (e_store rfl rfl rfl rfl Try.sizeOf49 rfl) ?_
  refine ao_r (r_assign rfl) rfl ?_
  refine ao_nil ?_
  refine aq_then ?_
  refine aw_seq ?_
  refine aw_region ?_
  refine ao_r (r_assign rfl) rfl ?_
  refine ao_nil ?_
  refine aq_then ?_
  refine aw_block ?_
  refine aw_loop (AL.sub (fr' := [(0, .v ty2 x0), (3, .os 0), (4, .os 1), (5, .int .i64 s4.1), (6, .ref 2 0), (7, .bool r14.2), (8, .int .i64 0)]) (H' := [(0, .row ty1 r1), (1, .row ty7 s4.2), (2, .var [.arr ty7 4 r14.1.1])]) (sub_r1 (rn [(2, 3)]) (nk rfl) (by kernel_rfl)) (al_cnt (fun i16 (s15 : dy8) => [(0, .v ty2 x0), (3, .os 0), (4, .os 1), (5, .int .i64 s4.1), (6, .ref 2 0), (7, .bool r14.2), (8, .int .i64 i16)]) (fun i16 (s15 : dy8) => [(0, .row ty1 r1), (1, .row ty7 s15), (2, .var [.arr ty7 4 r14.1.1])]) (fun d i16 (s15 : dy8) => d = Int.toNat ((r1.length : Int) - i16) ∧ 0 ≤ i16 ∧ (s15.length : Int) = (r1.length : Int) ∧ i16 ≤ (r1.length : Int)) h ⟨rfl, (by (try simp only [List.length_set, List.length_append, List.length_cons, List.length_nil, List.length_replicate, List.length_take, List.length_drop]) <;> omega), (by (try simp only [List.length_set, List.length_append, List.length_cons, List.length_nil, List.length_replicate, List.length_take, List.length_drop]) <;> omega), (by (try simp only [List.length_set, List.length_append, List.length_cons, List.length_nil, List.length_replicate, List.length_take, List.length_drop]) <;> omega)⟩ (fun d17 i16 s15 hI h ih17 => ?_)))
  obtain ⟨hd, _, _, _⟩ := hI
  refine al_round ?_
  refine aw_seq ?_
  refine aw_seq ?_
  refine aw_region ?_
  refine ao_r (r_move rfl) rfl ?_
  refine ao_r (r_move rfl) rfl ?_
  refine ao_r (r_len_osm (r1.length : Int) Try.underlying44 rfl rfl rfl) rfl ?_
  refine ao_r (r_lss rfl rfl) rfl ?_
  refine ao_nil ?_
  refine aq_then ?_
  refine aw_cond rfl (fun hb19 => ?_) (fun hb19 => ?_)
  have q20 := d_t hb19
  obtain ⟨d17, rfl⟩ : ∃ e, d17 = e + 1 := ⟨d17 - 1, by omega⟩
  replace h := is_cntS h
  refine aw_skip ?_
  refine aq_then ?_
  refine aw_seq ?_
  refine aw_block ?_
  refine aw_seq ?_
  refine aw_drawAll (by kernel_rfl) ?_
  refine an_r 0 (fun _ _ _ h => h) rfl (by kernel_rfl) (r_move rfl) rfl ?_
  refine an_r 1 (fun _ _ _ h => h) rfl (by kernel_rfl) (r_move rfl) rfl ?_
  refine an_readG 2 (x := .os 0) (by kernel_rfl) (fun _ _ _ h => h) rfl (by kernel_rfl) rfl (GV.T rfl) (fun hg22 => r_move rfl) rfl ?_
  refine an_readG 3 (x := .int .i64 i16) (by kernel_rfl) (fun _ _ _ h => h) rfl (by kernel_rfl) rfl (GV.T rfl) (fun hg23 => r_move rfl) rfl ?_
  refine an_readG 4 (x := .elem 0 0 4 i16.toNat) (by kernel_rfl) (fun _ _ _ h => h) rfl (by kernel_rfl) rfl (GV.T rfl) (fun hg24 => Reads.strip 37 rfl (hg24) (Reads.strip 38 rfl (hg24) (r_idxAddr_os Try.underlying44 Try.sizeOf49 rfl rfl rfl (show 0 ≤ i16 from by omega) (show i16 < (r1.length : Int) from by omega)))) rfl ?_
  refine an_readG 5 (x := .v ty1 ((r1.getD i16.toNat ((List.replicate 4 0), ())) : (dy8 × Unit))) (by kernel_rfl) (fun _ _ _ h => h) rfl (by kernel_rfl) rfl (GV.T rfl) (fun hg25 => Reads.strip 39 rfl (hg25) (r_load_elemv (t := ty1) Try.isAgg49 Try.sizeOf49 rfl rfl (show i16.toNat < r1.length from by omega))) rfl ?_
  refine an_readG 6 (x := .v ty1 ((r14.1.1, ()) : (dy8 × Unit))) (by kernel_rfl) (fun _ _ _ h => h) rfl (by kernel_rfl) rfl (GV.T rfl) (fun hg26 => r_load_part (τ := ty1) (y := ((r14.1.1, ()) : (dy8 × Unit))) [] [] rfl Try.isAgg49 Try.sizeOf49 rfl rfl rfl rfl) rfl ?_
  refine an_readG 7 (x := .bool (decide ((r1.getD i16.toNat ((List.replicate 4 0), ())).1 = r14.1.1))) (by kernel_rfl) (fun _ _ _ h => h) rfl (by kernel_rfl) rfl (GV.T rfl) (fun hg27 => Reads.strip 40 rfl (hg27) (Reads.strip 41 rfl (hg27) (r_eq_st1 (m := 4) (xs := ((r1.getD i16.toNat ((List.replicate 4 0), ())).1 : dy8)) (ys := r14.1.1) Try.underlying49 rfl rfl rfl rfl (by kernel_rfl) Try.underlying47 Try.underlying3 Try.isAgg47 Try.sizeOf47 Try.isAgg3 ⟨_, (rfl : Try.prog.info? 3 = some _), rfl⟩ (by kernel_rfl) rfl rfl rfl rfl rfl))) rfl ?_
  refine an_r 8 (fun _ _ _ h => h) rfl (by kernel_rfl) (r_andB rfl rfl) rfl ?_
  refine an_done rfl ?_
  refine aq_then ?_
  refine aw_cond rfl (fun hb28 => ?_) (fun hb28 => ?_)
  obtain ⟨q29, q30⟩ := and_t hb28
  replace h := is_if hb28 h
  refine aw_region ?_
  refine ao_r (r_move rfl) rfl ?_
  refine ao_r (r_move rfl) rfl ?_
  refine ao_r (r_idxAddr_os Try.underlying24 Try.sizeOf3 rfl rfl rfl (show 0 ≤ i16 from by omega) (show i16 < (s15.length : Int) from by omega)) rfl ?_
  refine ao_r (r_load_elem_int Try.isAgg3 Try.sizeOf3 rfl rfl (show i16.toNat < s15.length from by omega)) rfl ?_
  refine ao_r (r_add rfl rfl) rfl ?_
  refine ao_r (r_idxAddr_os Try.underlying24 Try.sizeOf3 rfl rfl rfl (show 0 ≤ i16 from by omega) (show i16 < (s15.length : Int) from by omega)) rfl ?_
  refine ao_effS trivial (e_store_elem_int Try.sizeOf3 rfl rfl rfl rfl (show i16.toNat < s15.length from by omega) rfl) ?_
  refine ao_nil ?_
  refine aq_in ?_
  refine aq_then ?_
  refine aw_region ?_
  refine ao_r (r_move rfl) rfl ?_
  refine ao_r (r_addI rfl rfl (wrap_id (by omega) (by omega))) rfl ?_
  refine ao_r (r_assign rfl) rfl ?_
  refine ao_nil ?_
  exact aq_again (AL.sub (sub_r1 idn (nk rfl) (by kernel_rfl)) (ih17 d17 (i16 + 1) (s15.set i16.toNat (IntKind.wrap .i64 ((s15.getD i16.toNat 0) + 1))) (by omega) ⟨by omega, (by (try simp only [List.length_set, List.length_append, List.length_cons, List.length_nil, List.length_replicate, List.length_take, List.length_drop]) <;> omega), (by (try simp only [List.length_set, List.length_append, List.length_cons, List.length_nil, List.length_replicate, List.length_take, List.length_drop]) <;> omega), (by (try simp only [List.length_set, List.length_append, List.length_cons, List.length_nil, List.length_replicate, List.length_take, List.length_drop]) <;> omega)⟩ h))
  replace h := is_else (ne_t hb28) h
  refine aw_skip ?_
  refine aq_in ?_
  refine aq_then ?_
  refine aw_region ?_
  refine ao_r (r_move rfl) rfl ?_
  refine ao_r (r_addI rfl rfl (wrap_id (by omega) (by omega))) rfl ?_
  refine ao_r (r_assign rfl) rfl ?_
  refine ao_nil ?_
  exact aq_again (AL.sub (sub_r1 idn (nk rfl) (by kernel_rfl)) (ih17 d17 (i16 + 1) s15 (by omega) ⟨by omega, (by (try simp only [List.length_set, List.length_append, List.length_cons, List.length_nil, List.length_replicate, List.length_take, List.length_drop]) <;> omega), (by (try simp only [List.length_set, List.length_append, List.length_cons, List.length_nil, List.length_replicate, List.length_take, List.length_drop]) <;> omega), (by (try simp only [List.length_set, List.length_append, List.length_cons, List.length_nil, List.length_replicate, List.length_take, List.length_drop]) <;> omega)⟩ h))
  have q21 := d_f hb19
  obtain rfl : d17 = 0 := by omega
  replace h := is_cnt0 h
  refine aw_exit ?_
  refine aq_then_exit ?_
  refine aq_then_exit ?_
  refine aq_in_exit ?_
  refine aq_in ?_
  refine aq_then ?_
  refine aw_region ?_
  refine ao_r (r_move rfl) rfl ?_
  refine ao_r (r_add rfl rfl) rfl ?_
  refine ao_r (r_assign rfl) rfl ?_
  refine ao_nil ?_
  exact aq_again (AL.sub (sub_r1 idn (nk rfl) (by kernel_rfl)) (ih6 ((IntKind.wrap .i64 (s4.1 + 1)), s15) (by (try simp only [List.length_set, List.length_append, List.length_cons, List.length_nil, List.length_replicate, List.length_take, List.length_drop]) <;> omega) h))
  have q11 := d_f hb9
  replace h := is_else (d_f hb9) h
  refine aw_exit ?_
  refine aq_then_exit ?_
  refine aq_then_exit ?_
  refine aq_in_exit ?_
  refine aq_then ?_
  refine aw_seq ?_
  refine aw_region ?_
  refine ao_r (r_move rfl) rfl ?_
  refine ao_r (r_assign rfl) rfl ?_
  refine ao_nil ?_
  refine aq_then ?_
  refine aw_ret ?_
  refine aq_ret ?_
  obtain rfl := is_some h
  exact aq_finx (l := [.tmp 2]) (xs := [.os 1]) (rn [(0, 1)]) [.os 0] [(0, .row ty7 s4.2)] rfl (by exact ⟨rfl, trivial⟩) (by exact ⟨ad_ren rfl, trivial⟩) (by exact ⟨⟨_, rfl, rfl⟩, trivial⟩) rfl (nk rfl) rfl rfl ⟨rfl, rfl⟩
end Go.GA
