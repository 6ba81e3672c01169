/- Walks: what the Go functions compute, by the printed lines below; no further conditions. -/
import Derived.Test.YtbfjbbfekodohaaC12vw
namespace Go.GA
open Go Go.Proofs
set_option maxRecDepth 100000
set_option maxHeartbeats 2000000
set_option linter.unusedVariables false
set_option linter.unusedSimpArgs false
theorem c_spec_l1Most {x0 : Int} {x1 : Int} {r : Int} (h : Is (p_spec_l1Most x0 x1) r) :
    Scalar Try.prog 78 [.int .i64 x0, .int .i64 x1] (.int .i64 r) := by
  unfold p_spec_l1Most at h
  refine ac_enter ⟨10, 0⟩ Try.func78 rfl rfl rfl rfl rfl (fun Γ => ?_)
  refine aw_seq ?_
  refine aw_region ?_
  refine ao_r (r_assign rfl) rfl ?_
  refine ao_nil ?_
  refine aq_then ?_
  refine aw_seq ?_
  refine aw_seq ?_
  refine aw_region ?_
  refine ao_r (r_move rfl) rfl ?_
  refine ao_r (r_move rfl) rfl ?_
  refine ao_r (r_gtr rfl rfl) rfl ?_
  refine ao_nil ?_
  refine aq_then ?_
  refine aw_cond rfl (fun hb1 => ?_) (fun hb1 => ?_)
  have q2 := d_t hb1
  replace h := is_if (d_t hb1) h
  refine aw_seq ?_
  refine aw_region ?_
  refine ao_r (r_move rfl) rfl ?_
  refine ao_r (r_assign rfl) rfl ?_
  refine ao_nil ?_
  refine aq_then ?_
  refine aw_ret ?_
  refine aq_then_ret ?_
  refine aq_ret ?_
  obtain rfl := is_eq h
  exact aq_finx (l := [.tmp 4]) (xs := [.int .i64 x0]) idn [.int .i64 x0] [] rfl (by exact ⟨rfl, trivial⟩) (by exact ⟨ad_ren rfl, trivial⟩) (by exact trivial) rfl (nk rfl) rfl rfl ⟨rfl, rfl⟩
  have q3 := d_f hb1
  replace h := is_else (d_f hb1) h
  refine aw_skip ?_
  refine aq_then ?_
  refine aw_seq ?_
  refine aw_region ?_
  refine ao_r (r_move rfl) rfl ?_
  refine ao_r (r_assign rfl) rfl ?_
  refine ao_nil ?_
  refine aq_then ?_
  refine aw_ret ?_
  refine aq_ret ?_
  obtain rfl := is_eq h
  exact aq_finx (l := [.tmp 4]) (xs := [.int .i64 x1]) idn [.int .i64 x1] [] rfl (by exact ⟨rfl, trivial⟩) (by exact ⟨ad_ren rfl, trivial⟩) (by exact trivial) rfl (nk rfl) rfl rfl ⟨rfl, rfl⟩
theorem c_spec_l1Cur_task12 {x0 : dy3} {x1 : dy12} {x2 : Int} {x3 : Int} {r : dy6 × Int × Int} (h : Is (p_spec_l1Cur_task12 x0 x1 x2 x3) (some r)) :
    ACallsV Try.prog 57 [.ref 0 0, .v ty1 x0] [(0, .var [.cell (.v ty9 x1), ci x2, .cell (.int .u64 x3)])] (fun r' H' => r' = .v ty4 r.1 ∧ H' = [(0, .var [.cell (.v ty9 x1), ci r.2.1, .cell (.int .u64 r.2.2)])]) := by
  unfold p_spec_l1Cur_task12 at h
  refine ac_enterV ⟨76, 1⟩ Try.func57 rfl rfl rfl rfl rfl (fun Γ => ?_)
  refine aw_seq ?_
  refine aw_region ?_
  refine ao_eff trivial (e_box 1 rfl rfl rfl rfl rfl rfl) rfl ?_
  refine ao_eff trivial (e_alloc 2 (y := .st [.int .i64 0, .int .i64 0, .int .i64 0]) Try.zeroValue33 (fun ρ h M => ra_zero_st (t := ty4) rfl rfl rfl) rfl rfl rfl rfl rfl) rfl ?_
  refine ao_nil ?_
  refine aq_then ?_
  refine aw_seq ?_
  refine aw_region ?_
  refine ao_r (r_move rfl) rfl ?_
  refine ao_eff trivial (e_buildSlice (l := [(0, .const (.int .i64 1)), (1, .const (.int .i64 1)), (2, .const (.int .i64 1)), (3, .const (.int .i64 2)), (4, .const (.int .i64 2)), (5, .const (.int .i64 3)), (6, .const (.int .i64 4)), (7, .const (.int .i64 5)), (8, .const (.int .i64 6))]) (t := ty11) 3 ([1, 1, 1, 2, 2, 3, 4, 5, 6] : dy12) rfl Try.underlying23 Try.zeroValue3 Try.sizeOf3 rfl rfl rfl rfl rfl rfl rfl) rfl ?_
  obtain ⟨r1, r1h, h⟩ := is_bind h
  refine ao_frz (fr' := [(0, .ref 0 0), (1, .v ty1 x0), (3, .ref 1 0), (4, .ref 2 0), (6, .ref 0 0), (7, .v ty7 ([1, 1, 1, 2, 2, 3, 4, 5, 6] : dy12))]) (H' := [(2, .var [ci 0, ci 0, ci 0]), (1, .var [.cell (.v ty5 x0.1), ci x0.2.1, .cell (.v ty7 x0.2.2.1), ci x0.2.2.2.1, ci x0.2.2.2.2.1, ci x0.2.2.2.2.2.1]), (0, .var [.cell (.v ty9 x1), ci x2, .cell (.int .u64 x3)])]) (by exact ⟨⟨_, rfl, ad_ren rfl⟩, ⟨_, rfl, ad_ren rfl⟩, ⟨_, rfl, ad_ren rfl⟩, ⟨_, rfl, ad_ren rfl⟩, ⟨_, rfl, ad_ren rfl⟩, ⟨_, rfl, ad_osB rfl rfl⟩, trivial⟩) (by exact ⟨⟨_, rfl, ⟨ad_ren rfl, rfl, ad_ren rfl, rfl, ad_ren rfl, rfl, trivial⟩⟩, ⟨_, rfl, ⟨ad_ren rfl, rfl, ad_ren rfl, rfl, ad_ren rfl, rfl, ad_ren rfl, rfl, ad_ren rfl, rfl, ad_ren rfl, rfl, trivial⟩⟩, ⟨_, rfl, ⟨ad_ren rfl, rfl, ad_ren rfl, rfl, ad_ren rfl, rfl, trivial⟩⟩, trivial⟩) rfl ?_
  refine ao_callV [0] 4 trivial (c_spec_l1Cur_among (is_mk r1h)) Try.func49 rfl rfl rfl rfl rfl ⟨rfl, trivial⟩ ⟨⟨_, rfl, ⟨ad_ren rfl, rfl, ad_ren rfl, rfl, ad_ren rfl, rfl, trivial⟩⟩, trivial⟩ rfl rfl rfl rfl rfl rfl rfl (fun r' H' hr => ?_)
  obtain ⟨rfl, rfl⟩ := hr
  refine ao_norm (y := .int .i64 r1.1) (H' := [(2, .var [ci 0, ci 0, ci 0]), (1, .var [.cell (.v ty5 x0.1), ci x0.2.1, .cell (.v ty7 x0.2.2.1), ci x0.2.2.2.1, ci x0.2.2.2.2.1, ci x0.2.2.2.2.2.1]), (0, .var [.cell (.v ty9 x1), ci r1.2.1, .cell (.int .u64 r1.2.2)])]) rfl rfl ?_
  refine ao_r (r_build_stv (l := [(0, .tmp 8)]) (cs := [ci r1.1, ci 0, ci 0]) ty4 ((r1.1, (0, (0, ()))) : dy6) [(0, 1), (1, 1), (2, 1)] Try.underlying33 Try.zeroValue33 rfl ⟨rfl, Try.sizeOf3, rfl, Try.sizeOf3, rfl, Try.sizeOf3, trivial⟩ rfl rfl rfl rfl) rfl ?_
  refine ao_eff trivial (e_alloc 4 (y := .st [.int .i64 0, .int .i64 0, .int .i64 0]) Try.zeroValue33 (fun ρ h M => ra_zero_st (t := ty4) rfl rfl rfl) rfl rfl rfl rfl rfl) rfl ?_
  refine ao_effS trivial (e_store rfl rfl rfl rfl Try.sizeOf33 rfl) ?_
  refine ao_nil ?_
  refine aq_then ?_
  refine aw_join (fun (s2 : Int × Int × Int × Int) => [(0, .ref 0 0), (4, .ref 1 0), (5, .ref 2 0)]) (fun (s2 : Int × Int × Int × Int) => [(0, .var [.cell (.v ty9 x1), ci s2.1, .cell (.int .u64 s2.2.1)]), (1, .var [ci 0, ci 0, ci 0]), (2, .var [ci r1.1, ci s2.2.2.1, ci s2.2.2.2])]) (fun (s2 : Int × Int × Int × Int) => True) h (fun s2 hI h => ?_) (fun h j4 => ?_)
  refine aw_seq ?_
  refine aw_seq ?_
  refine aw_region ?_
  refine ao_r (r_move rfl) rfl ?_
  obtain ⟨r5, r5h, h⟩ := is_bind h
  refine ao_callV [0] 3 trivial (c_spec_l1Cur_pick (is_mk r5h)) Try.func58 rfl rfl rfl rfl rfl ⟨rfl, trivial⟩ ⟨⟨_, rfl, ⟨ad_ren rfl, rfl, ad_ren rfl, rfl, ad_ren rfl, rfl, trivial⟩⟩, trivial⟩ rfl rfl rfl rfl rfl rfl rfl (fun r' H' hr => ?_)
  obtain ⟨rfl, rfl⟩ := hr
  refine ao_norm (y := .int .i64 r5.1) (H' := [(1, .var [ci 0, ci 0, ci 0]), (2, .var [ci r1.1, ci s2.2.2.1, ci s2.2.2.2]), (0, .var [.cell (.v ty9 x1), ci r5.2.1, .cell (.int .u64 r5.2.2)])]) rfl rfl ?_
  refine ao_nil ?_
  refine aq_then ?_
  refine aw_block ?_
  refine aw_seq ?_
  refine aw_region ?_
  refine ao_r (r_eql rfl rfl) rfl ?_
  refine ao_r (r_assign rfl) rfl ?_
  refine ao_nil ?_
  refine aq_then ?_
  refine aw_cond rfl (fun hb6 => ?_) (fun hb6 => ?_)
  have q7 := d_t hb6
  replace h := is_if (d_t hb6) h
  refine aw_region ?_
  refine ao_r (r_move rfl) rfl ?_
  refine ao_eff trivial (e_buildSlice (l := [(0, .const (.int .i64 (-1))), (1, .const (.int .i64 31)), (2, .const (.int .i64 16)), (3, .const (.int .i64 4611686018427387904)), (4, .const (.int .i64 (-9223372036854775808)))]) (t := ty11) 3 ([(-1), 31, 16, 4611686018427387904, (-9223372036854775808)] : dy12) rfl Try.underlying23 Try.zeroValue3 Try.sizeOf3 rfl rfl rfl rfl rfl rfl rfl) rfl ?_
  obtain ⟨r9, r9h, h⟩ := is_bind h
  refine ao_frz (fr' := [(0, .ref 0 0), (4, .ref 1 0), (5, .ref 2 0), (55, .ref 0 0), (56, .int .i64 r5.1), (58, .bool (decide (r5.1 = 0))), (57, .bool (decide (r5.1 = 0))), (59, .ref 0 0), (60, .v ty7 ([(-1), 31, 16, 4611686018427387904, (-9223372036854775808)] : dy12))]) (H' := [(1, .var [ci 0, ci 0, ci 0]), (2, .var [ci r1.1, ci s2.2.2.1, ci s2.2.2.2]), (0, .var [.cell (.v ty9 x1), ci r5.2.1, .cell (.int .u64 r5.2.2)])]) (by exact ⟨⟨_, rfl, ad_ren rfl⟩, ⟨_, rfl, ad_ren rfl⟩, ⟨_, rfl, ad_ren rfl⟩, ⟨_, rfl, ad_ren rfl⟩, ⟨_, rfl, ad_ren rfl⟩, ⟨_, rfl, ad_ren rfl⟩, ⟨_, rfl, ad_ren rfl⟩, ⟨_, rfl, ad_ren rfl⟩, ⟨_, rfl, ad_osB rfl rfl⟩, trivial⟩) (by exact ⟨⟨_, rfl, ⟨ad_ren rfl, rfl, ad_ren rfl, rfl, ad_ren rfl, rfl, trivial⟩⟩, ⟨_, rfl, ⟨ad_ren rfl, rfl, ad_ren rfl, rfl, ad_ren rfl, rfl, trivial⟩⟩, ⟨_, rfl, ⟨ad_ren rfl, rfl, ad_ren rfl, rfl, ad_ren rfl, rfl, trivial⟩⟩, trivial⟩) rfl ?_
  refine ao_callV [0] 4 trivial (c_spec_l1Cur_among (is_mk r9h)) Try.func49 rfl rfl rfl rfl rfl ⟨rfl, trivial⟩ ⟨⟨_, rfl, ⟨ad_ren rfl, rfl, ad_ren rfl, rfl, ad_ren rfl, rfl, trivial⟩⟩, trivial⟩ rfl rfl rfl rfl rfl rfl rfl (fun r' H' hr => ?_)
  obtain ⟨rfl, rfl⟩ := hr
  refine ao_norm (y := .int .i64 r9.1) (H' := [(1, .var [ci 0, ci 0, ci 0]), (2, .var [ci r1.1, ci s2.2.2.1, ci s2.2.2.2]), (0, .var [.cell (.v ty9 x1), ci r9.2.1, .cell (.int .u64 r9.2.2)])]) rfl rfl ?_
  refine ao_r (r_fieldAddr Try.underlying33 rfl Try.sizeOf3 rfl rfl rfl) rfl ?_
  refine ao_effS trivial (e_store rfl rfl rfl rfl Try.sizeOf3 rfl) ?_
  refine ao_nil ?_
  refine aq_in ?_
  refine aq_then ?_
  refine aw_seq ?_
  refine aw_region ?_
  refine ao_r (r_load_part (τ := ty4) (y := ((r1.1, (r9.1, (s2.2.2.2, ()))) : dy6)) [] [] rfl Try.isAgg33 Try.sizeOf33 rfl rfl rfl rfl) rfl ?_
  refine ao_effS trivial (e_store rfl rfl rfl rfl Try.sizeOf33 rfl) ?_
  refine ao_nil ?_
  refine aq_then ?_
  refine aw_ret ?_
  refine aq_ret ?_
  obtain rfl := is_some h
  exact aq_finV (l := [.cell 4 33]) (xs := [.st [.int .i64 r1.1, .int .i64 r9.1, .int .i64 s2.2.2.2]]) idn [.v ty4 ((r1.1, (r9.1, (s2.2.2.2, ()))) : dy6)] [(0, .var [.cell (.v ty9 x1), ci r9.2.1, .cell (.int .u64 r9.2.2)])] rfl (by exact ⟨⟨⟨_, _, rfl⟩, r_load_st [] [ci r1.1, ci r9.1, ci s2.2.2.2] [] Try.isAgg33 Try.sizeOf33 rfl rfl rfl rfl rfl rfl rfl⟩, trivial⟩) (by exact ⟨ad_st rfl rfl ⟨ad_ren rfl, ad_ren rfl, ad_ren rfl, trivial⟩, trivial⟩) (by exact ⟨⟨_, rfl, ⟨ad_ren rfl, rfl, ad_ren rfl, rfl, ad_ren rfl, rfl, trivial⟩⟩, trivial⟩) rfl (nk1 rfl rfl) ⟨rfl, rfl⟩
  have q8 := d_f hb6
  replace h := is_else (d_f hb6) h
  refine aw_seq ?_
  refine aw_region ?_
  refine ao_r (r_eql rfl rfl) rfl ?_
  refine ao_r (r_assign rfl) rfl ?_
  refine ao_nil ?_
  refine aq_then ?_
  refine aw_cond rfl (fun hb10 => ?_) (fun hb10 => ?_)
  have q11 := d_t hb10
  replace h := is_if (d_t hb10) h
  refine aw_region ?_
  refine ao_r (r_move rfl) rfl ?_
  refine ao_eff trivial (e_buildSlice (l := [(0, .const (.int .i64 (-1))), (1, .const (.int .i64 31)), (2, .const (.int .i64 1)), (3, .const (.int .i64 4611686018427387904))]) (t := ty11) 3 ([(-1), 31, 1, 4611686018427387904] : dy12) rfl Try.underlying23 Try.zeroValue3 Try.sizeOf3 rfl rfl rfl rfl rfl rfl rfl) rfl ?_
  obtain ⟨r13, r13h, h⟩ := is_bind h
  refine ao_frz (fr' := [(0, .ref 0 0), (4, .ref 1 0), (5, .ref 2 0), (55, .ref 0 0), (56, .int .i64 r5.1), (58, .bool (decide (r5.1 = 0))), (57, .bool (decide (r5.1 = 0))), (64, .bool (decide (r5.1 = 1))), (63, .bool (decide (r5.1 = 1))), (65, .ref 0 0), (66, .v ty7 ([(-1), 31, 1, 4611686018427387904] : dy12))]) (H' := [(1, .var [ci 0, ci 0, ci 0]), (2, .var [ci r1.1, ci s2.2.2.1, ci s2.2.2.2]), (0, .var [.cell (.v ty9 x1), ci r5.2.1, .cell (.int .u64 r5.2.2)])]) (by exact ⟨⟨_, rfl, ad_ren rfl⟩, ⟨_, rfl, ad_ren rfl⟩, ⟨_, rfl, ad_ren rfl⟩, ⟨_, rfl, ad_ren rfl⟩, ⟨_, rfl, ad_ren rfl⟩, ⟨_, rfl, ad_ren rfl⟩, ⟨_, rfl, ad_ren rfl⟩, ⟨_, rfl, ad_ren rfl⟩, ⟨_, rfl, ad_ren rfl⟩, ⟨_, rfl, ad_ren rfl⟩, ⟨_, rfl, ad_osB rfl rfl⟩, trivial⟩) (by exact ⟨⟨_, rfl, ⟨ad_ren rfl, rfl, ad_ren rfl, rfl, ad_ren rfl, rfl, trivial⟩⟩, ⟨_, rfl, ⟨ad_ren rfl, rfl, ad_ren rfl, rfl, ad_ren rfl, rfl, trivial⟩⟩, ⟨_, rfl, ⟨ad_ren rfl, rfl, ad_ren rfl, rfl, ad_ren rfl, rfl, trivial⟩⟩, trivial⟩) rfl ?_
  refine ao_callV [0] 4 trivial (c_spec_l1Cur_among (is_mk r13h)) Try.func49 rfl rfl rfl rfl rfl ⟨rfl, trivial⟩ ⟨⟨_, rfl, ⟨ad_ren rfl, rfl, ad_ren rfl, rfl, ad_ren rfl, rfl, trivial⟩⟩, trivial⟩ rfl rfl rfl rfl rfl rfl rfl (fun r' H' hr => ?_)
  obtain ⟨rfl, rfl⟩ := hr
  refine ao_norm (y := .int .i64 r13.1) (H' := [(1, .var [ci 0, ci 0, ci 0]), (2, .var [ci r1.1, ci s2.2.2.1, ci s2.2.2.2]), (0, .var [.cell (.v ty9 x1), ci r13.2.1, .cell (.int .u64 r13.2.2)])]) rfl rfl ?_
  refine ao_r (r_fieldAddr Try.underlying33 rfl Try.sizeOf3 rfl rfl rfl) rfl ?_
  refine ao_effS trivial (e_store rfl rfl rfl rfl Try.sizeOf3 rfl) ?_
  refine ao_nil ?_
  refine aq_in ?_
  refine aq_then ?_
  refine aw_seq ?_
  refine aw_region ?_
  refine ao_r (r_load_part (τ := ty4) (y := ((r1.1, (s2.2.2.1, (r13.1, ()))) : dy6)) [] [] rfl Try.isAgg33 Try.sizeOf33 rfl rfl rfl rfl) rfl ?_
  refine ao_effS trivial (e_store rfl rfl rfl rfl Try.sizeOf33 rfl) ?_
  refine ao_nil ?_
  refine aq_then ?_
  refine aw_ret ?_
  refine aq_ret ?_
  obtain rfl := is_some h
  exact aq_finV (l := [.cell 4 33]) (xs := [.st [.int .i64 r1.1, .int .i64 s2.2.2.1, .int .i64 r13.1]]) idn [.v ty4 ((r1.1, (s2.2.2.1, (r13.1, ()))) : dy6)] [(0, .var [.cell (.v ty9 x1), ci r13.2.1, .cell (.int .u64 r13.2.2)])] rfl (by exact ⟨⟨⟨_, _, rfl⟩, r_load_st [] [ci r1.1, ci s2.2.2.1, ci r13.1] [] Try.isAgg33 Try.sizeOf33 rfl rfl rfl rfl rfl rfl rfl⟩, trivial⟩) (by exact ⟨ad_st rfl rfl ⟨ad_ren rfl, ad_ren rfl, ad_ren rfl, trivial⟩, trivial⟩) (by exact ⟨⟨_, rfl, ⟨ad_ren rfl, rfl, ad_ren rfl, rfl, ad_ren rfl, rfl, trivial⟩⟩, trivial⟩) rfl (nk1 rfl rfl) ⟨rfl, rfl⟩
  have q12 := d_f hb10
  replace h := is_else (d_f hb10) h
  refine aw_seq ?_
  refine aw_region ?_
  refine ao_r (r_eql rfl rfl) rfl ?_
  refine ao_r (r_assign rfl) rfl ?_
  refine ao_nil ?_
  refine aq_then ?_
  refine aw_cond rfl (fun hb14 => ?_) (fun hb14 => ?_)
  have q15 := d_t hb14
  replace h := is_if (d_t hb14) h
  refine aw_region ?_
  refine ao_r (r_move rfl) rfl ?_
  refine ao_eff trivial (e_buildSlice (l := [(0, .const (.int .i64 0)), (1, .const (.int .i64 7)), (2, .const (.int .i64 (-1)))]) (t := ty11) 3 ([0, 7, (-1)] : dy12) rfl Try.underlying23 Try.zeroValue3 Try.sizeOf3 rfl rfl rfl rfl rfl rfl rfl) rfl ?_
  obtain ⟨r17, r17h, h⟩ := is_bind h
  refine ao_frz (fr' := [(0, .ref 0 0), (4, .ref 1 0), (5, .ref 2 0), (55, .ref 0 0), (56, .int .i64 r5.1), (58, .bool (decide (r5.1 = 0))), (57, .bool (decide (r5.1 = 0))), (64, .bool (decide (r5.1 = 1))), (63, .bool (decide (r5.1 = 1))), (70, .bool (decide (r5.1 = 2))), (69, .bool (decide (r5.1 = 2))), (71, .ref 0 0), (72, .v ty7 ([0, 7, (-1)] : dy12))]) (H' := [(1, .var [ci 0, ci 0, ci 0]), (2, .var [ci r1.1, ci s2.2.2.1, ci s2.2.2.2]), (0, .var [.cell (.v ty9 x1), ci r5.2.1, .cell (.int .u64 r5.2.2)])]) (by exact ⟨⟨_, rfl, ad_ren rfl⟩, ⟨_, rfl, ad_ren rfl⟩, ⟨_, rfl, ad_ren rfl⟩, ⟨_, rfl, ad_ren rfl⟩, ⟨_, rfl, ad_ren rfl⟩, ⟨_, rfl, ad_ren rfl⟩, ⟨_, rfl, ad_ren rfl⟩, ⟨_, rfl, ad_ren rfl⟩, ⟨_, rfl, ad_ren rfl⟩, ⟨_, rfl, ad_ren rfl⟩, ⟨_, rfl, ad_ren rfl⟩, ⟨_, rfl, ad_ren rfl⟩, ⟨_, rfl, ad_osB rfl rfl⟩, trivial⟩) (by exact ⟨⟨_, rfl, ⟨ad_ren rfl, rfl, ad_ren rfl, rfl, ad_ren rfl, rfl, trivial⟩⟩, ⟨_, rfl, ⟨ad_ren rfl, rfl, ad_ren rfl, rfl, ad_ren rfl, rfl, trivial⟩⟩, ⟨_, rfl, ⟨ad_ren rfl, rfl, ad_ren rfl, rfl, ad_ren rfl, rfl, trivial⟩⟩, trivial⟩) rfl ?_
  refine ao_callV [0] 4 trivial (c_spec_l1Cur_among (is_mk r17h)) Try.func49 rfl rfl rfl rfl rfl ⟨rfl, trivial⟩ ⟨⟨_, rfl, ⟨ad_ren rfl, rfl, ad_ren rfl, rfl, ad_ren rfl, rfl, trivial⟩⟩, trivial⟩ rfl rfl rfl rfl rfl rfl rfl (fun r' H' hr => ?_)
  obtain ⟨rfl, rfl⟩ := hr
  refine ao_norm (y := .int .i64 r17.1) (H' := [(1, .var [ci 0, ci 0, ci 0]), (2, .var [ci r1.1, ci s2.2.2.1, ci s2.2.2.2]), (0, .var [.cell (.v ty9 x1), ci r17.2.1, .cell (.int .u64 r17.2.2)])]) rfl rfl ?_
  refine ao_r (r_fieldAddr Try.underlying33 rfl Try.sizeOf3 rfl rfl rfl) rfl ?_
  refine ao_effS trivial (e_store rfl rfl rfl rfl Try.sizeOf3 rfl) ?_
  refine ao_nil ?_
  refine aq_in ?_
  refine aq_then ?_
  refine aw_seq ?_
  refine aw_region ?_
  refine ao_r (r_load_part (τ := ty4) (y := ((r17.1, (s2.2.2.1, (s2.2.2.2, ()))) : dy6)) [] [] rfl Try.isAgg33 Try.sizeOf33 rfl rfl rfl rfl) rfl ?_
  refine ao_effS trivial (e_store rfl rfl rfl rfl Try.sizeOf33 rfl) ?_
  refine ao_nil ?_
  refine aq_then ?_
  refine aw_ret ?_
  refine aq_ret ?_
  obtain rfl := is_some h
  exact aq_finV (l := [.cell 4 33]) (xs := [.st [.int .i64 r17.1, .int .i64 s2.2.2.1, .int .i64 s2.2.2.2]]) idn [.v ty4 ((r17.1, (s2.2.2.1, (s2.2.2.2, ()))) : dy6)] [(0, .var [.cell (.v ty9 x1), ci r17.2.1, .cell (.int .u64 r17.2.2)])] rfl (by exact ⟨⟨⟨_, _, rfl⟩, r_load_st [] [ci r17.1, ci s2.2.2.1, ci s2.2.2.2] [] Try.isAgg33 Try.sizeOf33 rfl rfl rfl rfl rfl rfl rfl⟩, trivial⟩) (by exact ⟨ad_st rfl rfl ⟨ad_ren rfl, ad_ren rfl, ad_ren rfl, trivial⟩, trivial⟩) (by exact ⟨⟨_, rfl, ⟨ad_ren rfl, rfl, ad_ren rfl, rfl, ad_ren rfl, rfl, trivial⟩⟩, trivial⟩) rfl (nk1 rfl rfl) ⟨rfl, rfl⟩
  have q16 := d_f hb14
  replace h := is_else (d_f hb14) h
  refine aw_skip ?_
  refine aq_in ?_
  refine aq_then ?_
  refine aw_seq ?_
  refine aw_region ?_
  refine ao_r (r_load_part (τ := ty4) (y := ((r1.1, (s2.2.2.1, (s2.2.2.2, ()))) : dy6)) [] [] rfl Try.isAgg33 Try.sizeOf33 rfl rfl rfl rfl) rfl ?_
  refine ao_effS trivial (e_store rfl rfl rfl rfl Try.sizeOf33 rfl) ?_
  refine ao_nil ?_
  refine aq_then ?_
  refine aw_ret ?_
  refine aq_ret ?_
  obtain rfl := is_some h
  exact aq_finV (l := [.cell 4 33]) (xs := [.st [.int .i64 r1.1, .int .i64 s2.2.2.1, .int .i64 s2.2.2.2]]) idn [.v ty4 ((r1.1, (s2.2.2.1, (s2.2.2.2, ()))) : dy6)] [(0, .var [.cell (.v ty9 x1), ci r5.2.1, .cell (.int .u64 r5.2.2)])] rfl (by exact ⟨⟨⟨_, _, rfl⟩, r_load_st [] [ci r1.1, ci s2.2.2.1, ci s2.2.2.2] [] Try.isAgg33 Try.sizeOf33 rfl rfl rfl rfl rfl rfl rfl⟩, trivial⟩) (by exact ⟨ad_st rfl rfl ⟨ad_ren rfl, ad_ren rfl, ad_ren rfl, trivial⟩, trivial⟩) (by exact ⟨⟨_, rfl, ⟨ad_ren rfl, rfl, ad_ren rfl, rfl, ad_ren rfl, rfl, trivial⟩⟩, trivial⟩) rfl (nk1 rfl rfl) ⟨rfl, rfl⟩
  refine aw_seq ?_
  refine aw_region ?_
  refine ao_r (r_fieldAddr Try.underlying33 rfl Try.sizeOf3 rfl rfl rfl) rfl ?_
  refine ao_r (r_load_cell Try.isAgg3 rfl rfl rfl) rfl ?_
  refine ao_nil ?_
  refine aq_then ?_
  refine aw_block ?_
  refine aw_seq ?_
  refine aw_region ?_
  refine ao_r (r_eql rfl rfl) rfl ?_
  refine ao_r (r_assign rfl) rfl ?_
  refine ao_nil ?_
  refine aq_then ?_
  refine aw_cond rfl (fun hb18 => ?_) (fun hb18 => ?_)
  have q19 := d_t hb18
  replace h := is_if (d_t hb18) h
  refine aw_region ?_
  refine ao_r (r_move rfl) rfl ?_
  refine ao_r (r_fieldAddr Try.underlying29 rfl Try.sizeOf22 rfl rfl rfl) rfl ?_
  refine ao_r (r_load_cell Try.isAgg22 rfl rfl rfl) rfl ?_
  refine ao_r (r_len_vm (x0.1.length : Int) Try.underlying22 rfl rfl) rfl ?_
  refine ao_scall trivial (scall (c_spec_l1Least (is_mk (rfl : p_spec_l1Least (x0.1.length : Int) 4 = _))) rfl Try.func77 rfl rfl rfl rfl (fun σ => ⟨ad_ren rfl, ad_ren rfl, trivial⟩)) rfl ?_
  obtain ⟨g21, h⟩ := is_guard h
  refine ao_r (r_shl rfl rfl (by omega)) rfl ?_
  obtain ⟨r22, r22h, h⟩ := is_bind h
  refine ao_callV [0] 5 trivial (c_spec_l1Cur_pick (is_mk r22h)) Try.func58 rfl rfl rfl rfl rfl ⟨rfl, trivial⟩ ⟨⟨_, rfl, ⟨ad_ren rfl, rfl, ad_ren rfl, rfl, ad_ren rfl, rfl, trivial⟩⟩, trivial⟩ rfl rfl rfl rfl rfl rfl rfl (fun r' H' hr => ?_)
  obtain ⟨rfl, rfl⟩ := hr
  refine ao_norm (y := .int .i64 r22.1) (H' := [(4, .var [ci r1.1, ci 0, ci 0]), (2, .var [ci 0, ci 0, ci 0]), (1, .var [.cell (.v ty5 x0.1), ci x0.2.1, .cell (.v ty7 x0.2.2.1), ci x0.2.2.2.1, ci x0.2.2.2.2.1, ci x0.2.2.2.2.2.1]), (0, .var [.cell (.v ty9 x1), ci r22.2.1, .cell (.int .u64 r22.2.2)])]) rfl rfl ?_
  refine ao_r (r_add rfl rfl) rfl ?_
  refine ao_r (r_fieldAddr Try.underlying33 rfl Try.sizeOf3 rfl rfl rfl) rfl ?_
  refine ao_effS trivial (e_store rfl rfl rfl rfl Try.sizeOf3 rfl) ?_
  refine ao_nil ?_
  refine aq_in ?_
  exact aq_then (AW.sub (sub_r1 (rn [(1, 2), (2, 4)]) (nk1 rfl rfl) (by kernel_rfl)) (j4 (r22.2.1, r22.2.2, (IntKind.wrap .i64 (1 + r22.1)), 0) trivial h))
  have q20 := d_f hb18
  replace h := is_else (d_f hb18) h
  refine aw_seq ?_
  refine aw_region ?_
  refine ao_r (r_eql rfl rfl) rfl ?_
  refine ao_r (r_assign rfl) rfl ?_
  refine ao_nil ?_
  refine aq_then ?_
  refine aw_cond rfl (fun hb23 => ?_) (fun hb23 => ?_)
  have q24 := d_t hb23
  replace h := is_if (d_t hb23) h
  refine aw_seq ?_
  refine aw_region ?_
  refine ao_r (r_move rfl) rfl ?_
  refine ao_r (r_fieldAddr Try.underlying29 rfl Try.sizeOf22 rfl rfl rfl) rfl ?_
  refine ao_r (r_load_cell Try.isAgg22 rfl rfl rfl) rfl ?_
  refine ao_r (r_len_vm (x0.1.length : Int) Try.underlying22 rfl rfl) rfl ?_
  refine ao_scall trivial (scall (c_spec_l1Most (is_mk (rfl : p_spec_l1Most 1 (x0.1.length : Int) = _))) rfl Try.func78 rfl rfl rfl rfl (fun σ => ⟨ad_ren rfl, ad_ren rfl, trivial⟩)) rfl ?_
  obtain ⟨r26, r26h, h⟩ := is_bind h
  refine ao_callV [0] 5 trivial (c_spec_l1Cur_pick (is_mk r26h)) Try.func58 rfl rfl rfl rfl rfl ⟨rfl, trivial⟩ ⟨⟨_, rfl, ⟨ad_ren rfl, rfl, ad_ren rfl, rfl, ad_ren rfl, rfl, trivial⟩⟩, trivial⟩ rfl rfl rfl rfl rfl rfl rfl (fun r' H' hr => ?_)
  obtain ⟨rfl, rfl⟩ := hr
  refine ao_norm (y := .int .i64 r26.1) (H' := [(4, .var [ci r1.1, ci 0, ci 0]), (2, .var [ci 0, ci 0, ci 0]), (1, .var [.cell (.v ty5 x0.1), ci x0.2.1, .cell (.v ty7 x0.2.2.1), ci x0.2.2.2.1, ci x0.2.2.2.2.1, ci x0.2.2.2.2.2.1]), (0, .var [.cell (.v ty9 x1), ci r26.2.1, .cell (.int .u64 r26.2.2)])]) rfl rfl ?_
  refine ao_r (r_fieldAddr Try.underlying33 rfl Try.sizeOf3 rfl rfl rfl) rfl ?_
  refine ao_effS trivial (e_store rfl rfl rfl rfl Try.sizeOf3 rfl) ?_
  refine ao_nil ?_
  refine aq_then ?_
  refine aw_region ?_
  refine ao_r (r_move rfl) rfl ?_
  refine ao_eff trivial (e_buildSlice (l := [(0, .const (.int .i64 1)), (1, .const (.int .i64 (-1))), (2, .const (.int .i64 2)), (3, .const (.int .i64 0)), (4, .const (.int .i64 10))]) (t := ty11) 5 ([1, (-1), 2, 0, 10] : dy12) rfl Try.underlying23 Try.zeroValue3 Try.sizeOf3 rfl rfl rfl rfl rfl rfl rfl) rfl ?_
  obtain ⟨r27, r27h, h⟩ := is_bind h
  refine ao_frz (fr' := [(0, .ref 0 0), (1, .v ty1 x0), (3, .ref 1 0), (4, .ref 2 0), (6, .ref 0 0), (7, .v ty7 ([1, 1, 1, 2, 2, 3, 4, 5, 6] : dy12)), (8, .int .i64 r1.1), (9, .v ty4 ((r1.1, (0, (0, ()))) : dy6)), (5, .ref 4 0), (10, .ref 4 0), (11, .int .i64 r1.1), (13, .bool (decide (r1.1 = 2))), (12, .bool (decide (r1.1 = 2))), (24, .bool (decide (r1.1 = 3))), (23, .bool (decide (r1.1 = 3))), (25, .ref 0 0), (26, .ref 1 0), (27, .v ty5 x0.1), (28, .int .i64 (x0.1.length : Int)), (29, .int .i64 (p_spec_l1Most 1 (x0.1.length : Int))), (30, .int .i64 r26.1), (31, .ref 4 1), (32, .ref 0 0), (33, .v ty7 ([1, (-1), 2, 0, 10] : dy12))]) (H' := [(4, .var [ci r1.1, ci r26.1, ci 0]), (2, .var [ci 0, ci 0, ci 0]), (1, .var [.cell (.v ty5 x0.1), ci x0.2.1, .cell (.v ty7 x0.2.2.1), ci x0.2.2.2.1, ci x0.2.2.2.2.1, ci x0.2.2.2.2.2.1]), (0, .var [.cell (.v ty9 x1), ci r26.2.1, .cell (.int .u64 r26.2.2)])]) (by exact ⟨⟨_, rfl, ad_ren rfl⟩, ⟨_, rfl, ad_ren rfl⟩, ⟨_, rfl, ad_ren rfl⟩, ⟨_, rfl, ad_ren rfl⟩, ⟨_, rfl, ad_ren rfl⟩, ⟨_, rfl, ad_ren rfl⟩, ⟨_, rfl, ad_ren rfl⟩, ⟨_, rfl, ad_ren rfl⟩, ⟨_, rfl, ad_ren rfl⟩, ⟨_, rfl, ad_ren rfl⟩, ⟨_, rfl, ad_ren rfl⟩, ⟨_, rfl, ad_ren rfl⟩, ⟨_, rfl, ad_ren rfl⟩, ⟨_, rfl, ad_ren rfl⟩, ⟨_, rfl, ad_ren rfl⟩, ⟨_, rfl, ad_ren rfl⟩, ⟨_, rfl, ad_ren rfl⟩, ⟨_, rfl, ad_ren rfl⟩, ⟨_, rfl, ad_ren rfl⟩, ⟨_, rfl, ad_ren rfl⟩, ⟨_, rfl, ad_ren rfl⟩, ⟨_, rfl, ad_ren rfl⟩, ⟨_, rfl, ad_ren rfl⟩, ⟨_, rfl, ad_osB rfl rfl⟩, trivial⟩) (by exact ⟨⟨_, rfl, ⟨ad_ren rfl, rfl, ad_ren rfl, rfl, ad_ren rfl, rfl, trivial⟩⟩, ⟨_, rfl, ⟨ad_ren rfl, rfl, ad_ren rfl, rfl, ad_ren rfl, rfl, trivial⟩⟩, ⟨_, rfl, ⟨ad_ren rfl, rfl, ad_ren rfl, rfl, ad_ren rfl, rfl, ad_ren rfl, rfl, ad_ren rfl, rfl, ad_ren rfl, rfl, trivial⟩⟩, ⟨_, rfl, ⟨ad_ren rfl, rfl, ad_ren rfl, rfl, ad_ren rfl, rfl, trivial⟩⟩, trivial⟩) rfl ?_
  refine ao_callV [0] 6 trivial (c_spec_l1Cur_among (is_mk r27h)) Try.func49 rfl rfl rfl rfl rfl ⟨rfl, trivial⟩ ⟨⟨_, rfl, ⟨ad_ren rfl, rfl, ad_ren rfl, rfl, ad_ren rfl, rfl, trivial⟩⟩, trivial⟩ rfl rfl rfl rfl rfl rfl rfl (fun r' H' hr => ?_)
  obtain ⟨rfl, rfl⟩ := hr
  refine ao_norm (y := .int .i64 r27.1) (H' := [(4, .var [ci r1.1, ci r26.1, ci 0]), (2, .var [ci 0, ci 0, ci 0]), (1, .var [.cell (.v ty5 x0.1), ci x0.2.1, .cell (.v ty7 x0.2.2.1), ci x0.2.2.2.1, ci x0.2.2.2.2.1, ci x0.2.2.2.2.2.1]), (0, .var [.cell (.v ty9 x1), ci r27.2.1, .cell (.int .u64 r27.2.2)])]) rfl rfl ?_
  refine ao_r (r_fieldAddr Try.underlying33 rfl Try.sizeOf3 rfl rfl rfl) rfl ?_
  refine ao_effS trivial (e_store rfl rfl rfl rfl Try.sizeOf3 rfl) ?_
  refine ao_nil ?_
  refine aq_in ?_
  exact aq_then (AW.sub (sub_r1 (rn [(1, 2), (2, 4)]) (nk1 rfl rfl) (by kernel_rfl)) (j4 (r27.2.1, r27.2.2, r26.1, r27.1) trivial h))
  have q25 := d_f hb23
  replace h := is_else (d_f hb23) h
  refine aw_seq ?_
  refine aw_region ?_
  refine ao_r (r_eql rfl rfl) rfl ?_
  refine ao_r (r_assign rfl) rfl ?_
  refine ao_nil ?_
  refine aq_then ?_
  refine aw_cond rfl (fun hb28 => ?_) (fun hb28 => ?_)
  have q29 := d_t hb28
  replace h := is_if (d_t hb28) h
  refine aw_seq ?_
  refine aw_region ?_
  refine ao_r (r_move rfl) rfl ?_
  refine ao_eff trivial (e_buildSlice (l := [(0, .const (.int .i64 1)), (1, .const (.int .i64 0)), (2, .const (.int .i64 5)), (3, .const (.int .i64 30)), (4, .const (.int .i64 2))]) (t := ty11) 5 ([1, 0, 5, 30, 2] : dy12) rfl Try.underlying23 Try.zeroValue3 Try.sizeOf3 rfl rfl rfl rfl rfl rfl rfl) rfl ?_
  obtain ⟨r31, r31h, h⟩ := is_bind h
  refine ao_frz (fr' := [(0, .ref 0 0), (1, .v ty1 x0), (3, .ref 1 0), (4, .ref 2 0), (6, .ref 0 0), (7, .v ty7 ([1, 1, 1, 2, 2, 3, 4, 5, 6] : dy12)), (8, .int .i64 r1.1), (9, .v ty4 ((r1.1, (0, (0, ()))) : dy6)), (5, .ref 4 0), (10, .ref 4 0), (11, .int .i64 r1.1), (13, .bool (decide (r1.1 = 2))), (12, .bool (decide (r1.1 = 2))), (24, .bool (decide (r1.1 = 3))), (23, .bool (decide (r1.1 = 3))), (37, .bool (decide (r1.1 = 4))), (36, .bool (decide (r1.1 = 4))), (38, .ref 0 0), (39, .v ty7 ([1, 0, 5, 30, 2] : dy12))]) (H' := [(4, .var [ci r1.1, ci 0, ci 0]), (2, .var [ci 0, ci 0, ci 0]), (1, .var [.cell (.v ty5 x0.1), ci x0.2.1, .cell (.v ty7 x0.2.2.1), ci x0.2.2.2.1, ci x0.2.2.2.2.1, ci x0.2.2.2.2.2.1]), (0, .var [.cell (.v ty9 x1), ci r1.2.1, .cell (.int .u64 r1.2.2)])]) (by exact ⟨⟨_, rfl, ad_ren rfl⟩, ⟨_, rfl, ad_ren rfl⟩, ⟨_, rfl, ad_ren rfl⟩, ⟨_, rfl, ad_ren rfl⟩, ⟨_, rfl, ad_ren rfl⟩, ⟨_, rfl, ad_ren rfl⟩, ⟨_, rfl, ad_ren rfl⟩, ⟨_, rfl, ad_ren rfl⟩, ⟨_, rfl, ad_ren rfl⟩, ⟨_, rfl, ad_ren rfl⟩, ⟨_, rfl, ad_ren rfl⟩, ⟨_, rfl, ad_ren rfl⟩, ⟨_, rfl, ad_ren rfl⟩, ⟨_, rfl, ad_ren rfl⟩, ⟨_, rfl, ad_ren rfl⟩, ⟨_, rfl, ad_ren rfl⟩, ⟨_, rfl, ad_ren rfl⟩, ⟨_, rfl, ad_ren rfl⟩, ⟨_, rfl, ad_osB rfl rfl⟩, trivial⟩) (by exact ⟨⟨_, rfl, ⟨ad_ren rfl, rfl, ad_ren rfl, rfl, ad_ren rfl, rfl, trivial⟩⟩, ⟨_, rfl, ⟨ad_ren rfl, rfl, ad_ren rfl, rfl, ad_ren rfl, rfl, trivial⟩⟩, ⟨_, rfl, ⟨ad_ren rfl, rfl, ad_ren rfl, rfl, ad_ren rfl, rfl, ad_ren rfl, rfl, ad_ren rfl, rfl, ad_ren rfl, rfl, trivial⟩⟩, ⟨_, rfl, ⟨ad_ren rfl, rfl, ad_ren rfl, rfl, ad_ren rfl, rfl, trivial⟩⟩, trivial⟩) rfl ?_
  refine ao_callV [0] 6 trivial (c_spec_l1Cur_among (is_mk r31h)) Try.func49 rfl rfl rfl rfl rfl ⟨rfl, trivial⟩ ⟨⟨_, rfl, ⟨ad_ren rfl, rfl, ad_ren rfl, rfl, ad_ren rfl, rfl, trivial⟩⟩, trivial⟩ rfl rfl rfl rfl rfl rfl rfl (fun r' H' hr => ?_)
  obtain ⟨rfl, rfl⟩ := hr
  refine ao_norm (y := .int .i64 r31.1) (H' := [(4, .var [ci r1.1, ci 0, ci 0]), (2, .var [ci 0, ci 0, ci 0]), (1, .var [.cell (.v ty5 x0.1), ci x0.2.1, .cell (.v ty7 x0.2.2.1), ci x0.2.2.2.1, ci x0.2.2.2.2.1, ci x0.2.2.2.2.2.1]), (0, .var [.cell (.v ty9 x1), ci r31.2.1, .cell (.int .u64 r31.2.2)])]) rfl rfl ?_
  refine ao_r (r_fieldAddr Try.underlying33 rfl Try.sizeOf3 rfl rfl rfl) rfl ?_
  refine ao_effS trivial (e_store rfl rfl rfl rfl Try.sizeOf3 rfl) ?_
  refine ao_nil ?_
  refine aq_then ?_
  refine aw_region ?_
  refine ao_r (r_move rfl) rfl ?_
  refine ao_eff trivial (e_buildSlice (l := [(0, .const (.int .i64 1)), (1, .const (.int .i64 0)), (2, .const (.int .i64 5)), (3, .const (.int .i64 2)), (4, .const (.int .i64 6))]) (t := ty11) 6 ([1, 0, 5, 2, 6] : dy12) rfl Try.underlying23 Try.zeroValue3 Try.sizeOf3 rfl rfl rfl rfl rfl rfl rfl) rfl ?_
  obtain ⟨r32, r32h, h⟩ := is_bind h
  refine ao_frz (fr' := [(0, .ref 0 0), (1, .v ty1 x0), (3, .ref 1 0), (4, .ref 2 0), (6, .ref 0 0), (7, .v ty7 ([1, 1, 1, 2, 2, 3, 4, 5, 6] : dy12)), (8, .int .i64 r1.1), (9, .v ty4 ((r1.1, (0, (0, ()))) : dy6)), (5, .ref 4 0), (10, .ref 4 0), (11, .int .i64 r1.1), (13, .bool (decide (r1.1 = 2))), (12, .bool (decide (r1.1 = 2))), (24, .bool (decide (r1.1 = 3))), (23, .bool (decide (r1.1 = 3))), (37, .bool (decide (r1.1 = 4))), (36, .bool (decide (r1.1 = 4))), (38, .ref 0 0), (39, .v ty7 ([1, 0, 5, 30, 2] : dy12)), (40, .int .i64 r31.1), (41, .ref 4 1), (42, .ref 0 0), (43, .v ty7 ([1, 0, 5, 2, 6] : dy12))]) (H' := [(4, .var [ci r1.1, ci r31.1, ci 0]), (2, .var [ci 0, ci 0, ci 0]), (1, .var [.cell (.v ty5 x0.1), ci x0.2.1, .cell (.v ty7 x0.2.2.1), ci x0.2.2.2.1, ci x0.2.2.2.2.1, ci x0.2.2.2.2.2.1]), (0, .var [.cell (.v ty9 x1), ci r31.2.1, .cell (.int .u64 r31.2.2)])]) (by exact ⟨⟨_, rfl, ad_ren rfl⟩, ⟨_, rfl, ad_ren rfl⟩, ⟨_, rfl, ad_ren rfl⟩, ⟨_, rfl, ad_ren rfl⟩, ⟨_, rfl, ad_ren rfl⟩, ⟨_, rfl, ad_ren rfl⟩, ⟨_, rfl, ad_ren rfl⟩, ⟨_, rfl, ad_ren rfl⟩, ⟨_, rfl, ad_ren rfl⟩, ⟨_, rfl, ad_ren rfl⟩, ⟨_, rfl, ad_ren rfl⟩, ⟨_, rfl, ad_ren rfl⟩, ⟨_, rfl, ad_ren rfl⟩, ⟨_, rfl, ad_ren rfl⟩, ⟨_, rfl, ad_ren rfl⟩, ⟨_, rfl, ad_ren rfl⟩, ⟨_, rfl, ad_ren rfl⟩, ⟨_, rfl, ad_ren rfl⟩, ⟨_, rfl, ad_ren rfl⟩, ⟨_, rfl, ad_ren rfl⟩, ⟨_, rfl, ad_ren rfl⟩, ⟨_, rfl, ad_ren rfl⟩, ⟨_, rfl, ad_osB rfl rfl⟩, trivial⟩) (by exact ⟨⟨_, rfl, ⟨ad_ren rfl, rfl, ad_ren rfl, rfl, ad_ren rfl, rfl, trivial⟩⟩, ⟨_, rfl, ⟨ad_ren rfl, rfl, ad_ren rfl, rfl, ad_ren rfl, rfl, trivial⟩⟩, ⟨_, rfl, ⟨ad_ren rfl, rfl, ad_ren rfl, rfl, ad_ren rfl, rfl, ad_ren rfl, rfl, ad_ren rfl, rfl, ad_ren rfl, rfl, trivial⟩⟩, ⟨_, rfl, ⟨ad_ren rfl, rfl, ad_ren rfl, rfl, ad_ren rfl, rfl, trivial⟩⟩, trivial⟩) rfl ?_
  refine ao_callV [0] 7 trivial (c_spec_l1Cur_among (is_mk r32h)) Try.func49 rfl rfl rfl rfl rfl ⟨rfl, trivial⟩ ⟨⟨_, rfl, ⟨ad_ren rfl, rfl, ad_ren rfl, rfl, ad_ren rfl, rfl, trivial⟩⟩, trivial⟩ rfl rfl rfl rfl rfl rfl rfl (fun r' H' hr => ?_)
  obtain ⟨rfl, rfl⟩ := hr
  refine ao_norm (y := .int .i64 r32.1) (H' := [(4, .var [ci r1.1, ci r31.1, ci 0]), (2, .var [ci 0, ci 0, ci 0]), (1, .var [.cell (.v ty5 x0.1), ci x0.2.1, .cell (.v ty7 x0.2.2.1), ci x0.2.2.2.1, ci x0.2.2.2.2.1, ci x0.2.2.2.2.2.1]), (0, .var [.cell (.v ty9 x1), ci r32.2.1, .cell (.int .u64 r32.2.2)])]) rfl rfl ?_
  refine ao_r (r_fieldAddr Try.underlying33 rfl Try.sizeOf3 rfl rfl rfl) rfl ?_
  refine ao_effS trivial (e_store rfl rfl rfl rfl Try.sizeOf3 rfl) ?_
  refine ao_nil ?_
  refine aq_in ?_
  exact aq_then (AW.sub (sub_r1 (rn [(1, 2), (2, 4)]) (nk1 rfl rfl) (by kernel_rfl)) (j4 (r32.2.1, r32.2.2, r31.1, r32.1) trivial h))
  have q30 := d_f hb28
  replace h := is_else (d_f hb28) h
  refine aw_seq ?_
  refine aw_region ?_
  refine ao_r (r_eql rfl rfl) rfl ?_
  refine ao_r (r_assign rfl) rfl ?_
  refine ao_nil ?_
  refine aq_then ?_
  refine aw_cond rfl (fun hb33 => ?_) (fun hb33 => ?_)
  have q34 := d_t hb33
  replace h := is_if (d_t hb33) h
  refine aw_region ?_
  refine ao_r (r_move rfl) rfl ?_
  refine ao_r (r_fieldAddr Try.underlying29 rfl Try.sizeOf22 rfl rfl rfl) rfl ?_
  refine ao_r (r_load_cell Try.isAgg22 rfl rfl rfl) rfl ?_
  refine ao_r (r_len_vm (x0.1.length : Int) Try.underlying22 rfl rfl) rfl ?_
  refine ao_scall trivial (scall (c_spec_l1Most (is_mk (rfl : p_spec_l1Most 1 (x0.1.length : Int) = _))) rfl Try.func78 rfl rfl rfl rfl (fun σ => ⟨ad_ren rfl, ad_ren rfl, trivial⟩)) rfl ?_
  obtain ⟨r36, r36h, h⟩ := is_bind h
  refine ao_callV [0] 5 trivial (c_spec_l1Cur_pick (is_mk r36h)) Try.func58 rfl rfl rfl rfl rfl ⟨rfl, trivial⟩ ⟨⟨_, rfl, ⟨ad_ren rfl, rfl, ad_ren rfl, rfl, ad_ren rfl, rfl, trivial⟩⟩, trivial⟩ rfl rfl rfl rfl rfl rfl rfl (fun r' H' hr => ?_)
  obtain ⟨rfl, rfl⟩ := hr
  refine ao_norm (y := .int .i64 r36.1) (H' := [(4, .var [ci r1.1, ci 0, ci 0]), (2, .var [ci 0, ci 0, ci 0]), (1, .var [.cell (.v ty5 x0.1), ci x0.2.1, .cell (.v ty7 x0.2.2.1), ci x0.2.2.2.1, ci x0.2.2.2.2.1, ci x0.2.2.2.2.2.1]), (0, .var [.cell (.v ty9 x1), ci r36.2.1, .cell (.int .u64 r36.2.2)])]) rfl rfl ?_
  refine ao_r (r_fieldAddr Try.underlying33 rfl Try.sizeOf3 rfl rfl rfl) rfl ?_
  refine ao_effS trivial (e_store rfl rfl rfl rfl Try.sizeOf3 rfl) ?_
  refine ao_nil ?_
  refine aq_in ?_
  exact aq_then (AW.sub (sub_r1 (rn [(1, 2), (2, 4)]) (nk1 rfl rfl) (by kernel_rfl)) (j4 (r36.2.1, r36.2.2, r36.1, 0) trivial h))
  have q35 := d_f hb33
  replace h := is_else (d_f hb33) h
  refine aw_skip ?_
  refine aq_in ?_
  exact aq_then (AW.sub (sub_r1 (rn [(1, 2), (2, 4)]) (nk1 rfl rfl) (by kernel_rfl)) (j4 (r1.2.1, r1.2.2, 0, 0) trivial h))
theorem c_spec_l12Dice {x0 : dy3} {x1 : dy10} {r : dy3} (h : Is (p_spec_l12Dice x0 x1) r) :
    ACallsV Try.prog 83 [.v ty1 x0, .v ty5 x1] [] (fun r' H' => r' = .v ty1 r ∧ H' = []) := by
  unfold p_spec_l12Dice at h
  refine ac_enterV ⟨10, 0⟩ Try.func83 rfl rfl rfl rfl rfl (fun Γ => ?_)
  refine sl_len_m 1 (x1.length : Int) rfl rfl (fun hl1 => ?_)
  refine aw_seq ?_
  refine aw_region ?_
  refine ao_eff trivial (e_box 0 rfl rfl rfl rfl rfl rfl) rfl ?_
  refine ao_eff trivial (e_alloc 1 (y := .st [.nilsl, .int .i64 0, .nilsl, .int .i64 0, .int .i64 0, .int .i64 0]) Try.zeroValue29 (fun ρ h M => ra_zero_st (t := ty1) rfl rfl rfl) rfl rfl rfl rfl rfl) rfl ?_
  refine ao_nil ?_
  refine aq_then ?_
  refine aw_seq ?_
  refine aw_region ?_
  refine ao_r (r_move rfl) rfl ?_
  refine ao_r (r_fieldAddr Try.underlying29 rfl Try.sizeOf22 rfl rfl rfl) rfl ?_
  refine ao_effS trivial (e_store rfl rfl rfl rfl Try.sizeOf22 rfl) ?_
  refine ao_nil ?_
  refine aq_then ?_
  refine aw_seq ?_
  refine aw_region ?_
  refine ao_eff trivial (e_buildSlice (l := []) (t := ty11) 2 ([] : dy12) rfl Try.underlying23 Try.zeroValue3 Try.sizeOf3 rfl rfl rfl rfl rfl rfl rfl) rfl ?_
  refine ao_r (r_fieldAddr Try.underlying29 rfl Try.sizeOf23 rfl rfl rfl) rfl ?_
  refine ao_effS trivial (e_store rfl rfl rfl rfl Try.sizeOf23 rfl) ?_
  refine ao_nil ?_
  refine aq_then ?_
  refine aw_seq ?_
  refine aw_region ?_
  refine ao_r (r_load_st [] [.cell (.v ty5 x1), ci x0.2.1, .cell (.os 2), ci x0.2.2.2.1, ci x0.2.2.2.2.1, ci x0.2.2.2.2.2.1] [] Try.isAgg29 Try.sizeOf29 rfl rfl rfl rfl rfl rfl rfl) rfl ?_
  refine ao_effS trivial (e_store rfl rfl rfl rfl Try.sizeOf29 rfl) ?_
  refine ao_nil ?_
  refine aq_then ?_
  refine aw_ret ?_
  refine aq_ret ?_
  obtain rfl := is_eq h
  exact aq_finV (l := [.cell 4 29]) (xs := [.st [.v ty5 x1, .int .i64 x0.2.1, .os 2, .int .i64 x0.2.2.2.1, .int .i64 x0.2.2.2.2.1, .int .i64 x0.2.2.2.2.2.1]]) idn [.v ty1 ((x1, (x0.2.1, ([], (x0.2.2.2.1, (x0.2.2.2.2.1, (x0.2.2.2.2.2.1, ())))))) : dy3)] [] rfl (by exact ⟨⟨⟨_, _, rfl⟩, r_load_st [] [.cell (.v ty5 x1), ci x0.2.1, .cell (.os 2), ci x0.2.2.2.1, ci x0.2.2.2.2.1, ci x0.2.2.2.2.2.1] [] Try.isAgg29 Try.sizeOf29 rfl rfl rfl rfl rfl rfl rfl⟩, trivial⟩) (by exact ⟨ad_st rfl rfl ⟨ad_ren rfl, ad_ren rfl, ad_osB rfl rfl, ad_ren rfl, ad_ren rfl, ad_ren rfl, trivial⟩, trivial⟩) (by exact trivial) rfl (nk rfl) ⟨rfl, rfl⟩
theorem c_spec_l12Throw {x0 : dy12} {x1 : Int} {r : Int × Int} (h : Is (p_spec_l12Throw x0 x1) (some r)) :
    Scalar Try.prog 98 [.v ty8 x0, .int .i64 x1] (.tup [.int .i64 r.1, .int .i64 r.2]) := by
  unfold p_spec_l12Throw at h
  refine ac_enter ⟨16, 0⟩ Try.func98 rfl rfl rfl rfl rfl (fun Γ => ?_)
  refine aw_seq ?_
  refine aw_region ?_
  refine ao_eff trivial (e_box 0 rfl rfl rfl rfl rfl rfl) rfl ?_
  refine ao_r (r_assign rfl) rfl ?_
  refine ao_r (r_assign rfl) rfl ?_
  refine ao_nil ?_
  refine aq_then ?_
  refine aw_seq ?_
  refine aw_region ?_
  refine ao_r (r_move rfl) rfl ?_
  refine ao_r (r_mul rfl rfl) rfl ?_
  refine ao_r (r_add rfl rfl) rfl ?_
  refine ao_r (r_rem rfl rfl (by decide)) rfl ?_
  refine ao_r (r_assign rfl) rfl ?_
  refine ao_nil ?_
  refine aq_then ?_
  refine aw_seq ?_
  obtain ⟨g1, h⟩ := is_guard h
  obtain ⟨g2, h⟩ := is_guard h
  refine aw_drawAll (by kernel_rfl) ?_
  refine an_r 0 (fun _ _ _ h => h) rfl (by kernel_rfl) (r_move rfl) rfl ?_
  refine an_r 1 (fun _ _ _ h => h) rfl (by kernel_rfl) (r_move rfl) rfl ?_
  refine an_r 2 (fun _ _ _ h => h) rfl (by kernel_rfl) (r_quo rfl rfl (by decide)) rfl ?_
  refine an_r 3 (fun _ _ _ h => h) rfl (by kernel_rfl) (r_rem rfl rfl (by decide)) rfl ?_
  refine an_r 4 (fun _ _ _ h => h) rfl (by kernel_rfl) (r_idxAddr_arr (i := ((IntKind.wrap .i64 (((IntKind.wrap .i64 ((IntKind.wrap .i64 (25173 * x1)) + 13849)).tmod 65536).tdiv 256)).tmod 6)) Try.underlying76 Try.sizeOf3 rfl rfl (show 0 ≤ ((IntKind.wrap .i64 (((IntKind.wrap .i64 ((IntKind.wrap .i64 (25173 * x1)) + 13849)).tmod 65536).tdiv 256)).tmod 6) from by omega) (show ((IntKind.wrap .i64 (((IntKind.wrap .i64 ((IntKind.wrap .i64 (25173 * x1)) + 13849)).tmod 65536).tdiv 256)).tmod 6) < (6 : Int) from by omega)) rfl ?_
  refine an_r 5 (fun _ _ _ h => h) rfl (by kernel_rfl) (r_load_elema_int Try.isAgg3 Try.sizeOf3 rfl rfl rfl (show ((IntKind.wrap .i64 (((IntKind.wrap .i64 ((IntKind.wrap .i64 (25173 * x1)) + 13849)).tmod 65536).tdiv 256)).tmod 6).toNat < 6 from by omega)) rfl ?_
  refine an_r 6 (fun _ _ _ h => h) rfl (by kernel_rfl) (r_assign rfl) rfl ?_
  refine an_r 7 (fun _ _ _ h => h) rfl (by kernel_rfl) (r_assign rfl) rfl ?_
  refine an_done rfl ?_
  refine aq_then ?_
  refine aw_ret ?_
  refine aq_ret ?_
  obtain rfl := is_some h
  exact aq_finx (l := [.tmp 4, .tmp 5]) (xs := [.int .i64 ((IntKind.wrap .i64 ((IntKind.wrap .i64 (25173 * x1)) + 13849)).tmod 65536), .int .i64 (x0.getD ((IntKind.wrap .i64 (((IntKind.wrap .i64 ((IntKind.wrap .i64 (25173 * x1)) + 13849)).tmod 65536).tdiv 256)).tmod 6).toNat 0)]) idn [.int .i64 ((IntKind.wrap .i64 ((IntKind.wrap .i64 (25173 * x1)) + 13849)).tmod 65536), .int .i64 (x0.getD ((IntKind.wrap .i64 (((IntKind.wrap .i64 ((IntKind.wrap .i64 (25173 * x1)) + 13849)).tmod 65536).tdiv 256)).tmod 6).toNat 0)] [] rfl (by exact ⟨rfl, rfl, trivial⟩) (by exact ⟨ad_ren rfl, ad_ren rfl, trivial⟩) (by exact trivial) rfl (nk rfl) rfl rfl ⟨rfl, rfl⟩
theorem c_spec_l12Add {x0 : dy12} {r : Int} (h : Is (p_spec_l12Add x0) r) :
    Scalar Try.prog 60 [.v ty7 x0] (.int .i64 r) := by
  unfold p_spec_l12Add at h
  refine ac_enter ⟨18, 0⟩ Try.func60 rfl rfl rfl rfl rfl (fun Γ => ?_)
  refine sl_len_m 0 (x0.length : Int) rfl rfl (fun hl0 => ?_)
  refine aw_seq ?_
  refine aw_region ?_
  refine ao_r (r_assign rfl) rfl ?_
  refine ao_nil ?_
  refine aq_then ?_
  refine aw_seq ?_
  refine aw_region ?_
  refine ao_r (r_assign rfl) rfl ?_
  refine ao_nil ?_
  refine aq_then ?_
  refine aw_seq ?_
  refine aw_seq ?_
  refine aw_region ?_
  refine ao_r (r_assign rfl) rfl ?_
  refine ao_nil ?_
  refine aq_then ?_
  refine aw_block ?_
  refine aw_loop (AL.sub (fr' := [(0, .v ty7 x0), (3, .int .i64 0), (4, .int .i64 0)]) (H' := []) (sub_r1 idn (nk rfl) (by kernel_rfl)) (al_cnt (fun i2 (s1 : Int) => [(0, .v ty7 x0), (3, .int .i64 s1), (4, .int .i64 i2)]) (fun i2 (s1 : Int) => []) (fun d i2 (s1 : Int) => d = Int.toNat ((x0.length : Int) - i2) ∧ 0 ≤ i2 ∧ i2 ≤ (x0.length : Int)) h ⟨rfl, (by (try simp only [List.length_set, List.length_append, List.length_cons, List.length_nil, List.length_replicate, List.length_take, List.length_drop]) <;> omega), (by (try simp only [List.length_set, List.length_append, List.length_cons, List.length_nil, List.length_replicate, List.length_take, List.length_drop]) <;> omega)⟩ (fun d3 i2 s1 hI h ih3 => ?_)))
  obtain ⟨hd, _, _⟩ := hI
  refine al_round ?_
  refine aw_seq ?_
  refine aw_seq ?_
  refine aw_region ?_
  refine ao_r (r_move rfl) rfl ?_
  refine ao_r (r_move rfl) rfl ?_
  refine ao_r (r_len_vm (x0.length : Int) Try.underlying23 rfl rfl) rfl ?_
  refine ao_r (r_lss rfl rfl) rfl ?_
  refine ao_nil ?_
  refine aq_then ?_
  refine aw_cond rfl (fun hb5 => ?_) (fun hb5 => ?_)
  have q6 := d_t hb5
  obtain ⟨d3, rfl⟩ : ∃ e, d3 = e + 1 := ⟨d3 - 1, by omega⟩
  replace h := is_cntS h
  refine aw_skip ?_
  refine aq_then ?_
  refine aw_seq ?_
  refine aw_block ?_
  refine aw_region ?_
  refine ao_r (r_move rfl) rfl ?_
  refine ao_r (r_move rfl) rfl ?_
  refine ao_r (r_move rfl) rfl ?_
  refine ao_r (r_idxAddr_int Try.underlying23 Try.sizeOf3 rfl rfl (show 0 ≤ i2 from by omega) (show i2 < (x0.length : Int) from by omega)) rfl ?_
  refine ao_r (r_load_c_int Try.isAgg3 Try.sizeOf3 rfl) rfl ?_
  refine ao_r (r_add rfl rfl) rfl ?_
  refine ao_r (r_assign rfl) rfl ?_
  refine ao_nil ?_
  refine aq_in ?_
  refine aq_then ?_
  refine aw_region ?_
  refine ao_r (r_move rfl) rfl ?_
  refine ao_r (r_addI rfl rfl (wrap_id (by omega) (by omega))) rfl ?_
  refine ao_r (r_assign rfl) rfl ?_
  refine ao_nil ?_
  exact aq_again (AL.sub (sub_r1 idn (nk rfl) (by kernel_rfl)) (ih3 d3 (i2 + 1) (IntKind.wrap .i64 (s1 + (x0.getD i2.toNat 0))) (by omega) ⟨by omega, (by (try simp only [List.length_set, List.length_append, List.length_cons, List.length_nil, List.length_replicate, List.length_take, List.length_drop]) <;> omega), (by (try simp only [List.length_set, List.length_append, List.length_cons, List.length_nil, List.length_replicate, List.length_take, List.length_drop]) <;> omega)⟩ h))
  have q7 := d_f hb5
  obtain rfl : d3 = 0 := by omega
  replace h := is_cnt0 h
  refine aw_exit ?_
  refine aq_then_exit ?_
  refine aq_then_exit ?_
  refine aq_in_exit ?_
  refine aq_then ?_
  refine aw_seq ?_
  refine aw_region ?_
  refine ao_r (r_move rfl) rfl ?_
  refine ao_r (r_assign rfl) rfl ?_
  refine ao_nil ?_
  refine aq_then ?_
  refine aw_ret ?_
  refine aq_ret ?_
  obtain rfl := is_eq h
  exact aq_finx (l := [.tmp 2]) (xs := [.int .i64 s1]) idn [.int .i64 s1] [] rfl (by exact ⟨rfl, trivial⟩) (by exact ⟨ad_ren rfl, trivial⟩) (by exact trivial) rfl (nk rfl) rfl rfl ⟨rfl, rfl⟩
theorem c_spec_l12Rolled {fu : Nat} {x0 : dy3} {x1 : Int} {x2 : Int} {r : dy3} (h : Is (p_spec_l12Rolled fu x0 x1 x2) (some r)) :
    ACallsV Try.prog 82 [.v ty1 x0, .int .i64 x1, .int .i64 x2] [] (fun r' H' => r' = .v ty1 r ∧ H' = []) := by
  unfold p_spec_l12Rolled at h
  refine ac_enterV ⟨68, 0⟩ Try.func82 rfl rfl rfl rfl rfl (fun Γ => ?_)
  refine aw_seq ?_
  refine aw_region ?_
  refine ao_eff trivial (e_box 0 rfl rfl rfl rfl rfl rfl) rfl ?_
  refine ao_eff trivial (e_alloc 1 (y := .st [.nilsl, .int .i64 0, .nilsl, .int .i64 0, .int .i64 0, .int .i64 0]) Try.zeroValue29 (fun ρ h M => ra_zero_st (t := ty1) rfl rfl rfl) rfl rfl rfl rfl rfl) rfl ?_
  refine ao_nil ?_
  refine aq_then ?_
  refine aw_seq ?_
  refine aw_region ?_
  refine ao_r (r_fieldAddr Try.underlying29 rfl Try.sizeOf23 rfl rfl rfl) rfl ?_
  refine ao_r (r_load_cell Try.isAgg23 rfl rfl rfl) rfl ?_
  obtain ⟨r1, r1h, h⟩ := is_bind h
  refine ao_call [] 2 trivial (c_spec_l1Own (is_mk r1h)) Try.func69 rfl rfl rfl rfl ⟨ad_ren rfl, trivial⟩ trivial rfl rfl rfl rfl rfl rfl rfl (fun r' H' hr => ?_)
  obtain ⟨rfl, rfl⟩ := hr
  refine ao_norm (y := .os 2) (H' := [(1, .var [.cell (.nilsl), ci 0, .cell (.nilsl), ci 0, ci 0, ci 0]), (0, .var [.cell (.v ty5 x0.1), ci x0.2.1, .cell (.v ty7 x0.2.2.1), ci x0.2.2.2.1, ci x0.2.2.2.2.1, ci x0.2.2.2.2.2.1]), (2, .row ty11 r1)]) rfl rfl ?_
  refine row_len_o 2 (r1.length : Int) rfl rfl (fun hr2 => ?_)
  refine ao_r (r_assign rfl) rfl ?_
  refine ao_nil ?_
  refine aq_then ?_
  refine aw_seq ?_
  refine aw_seq ?_
  refine aw_region ?_
  refine ao_r (r_assign rfl) rfl ?_
  refine ao_nil ?_
  refine aq_then ?_
  refine aw_block ?_
  refine aw_loop (AL.sub (sub_r1 idn (nk rfl) (by kernel_rfl)) (al_whl (fun (s3 : Int × Int × dy12) => [(1, .int .i64 x1), (2, .int .i64 x2), (3, .ref 0 0), (6, .ref 1 0), (7, .os 2), (8, .int .i64 s3.1)]) (fun (s3 : Int × Int × dy12) => [(0, .var [.cell (.v ty5 x0.1), ci s3.2.1, .cell (.v ty7 x0.2.2.1), ci x0.2.2.2.1, ci x0.2.2.2.2.1, ci x0.2.2.2.2.2.1]), (1, .var [.cell (.nilsl), ci 0, .cell (.nilsl), ci 0, ci 0, ci 0]), (2, .row ty11 s3.2.2)]) (fun (s3 : Int × Int × dy12) => True) h trivial (fun d5 s3 hI h ih5 => ?_)))
  replace h := is_whlS h
  refine al_round ?_
  refine aw_seq ?_
  refine aw_seq ?_
  refine aw_region ?_
  refine ao_r (r_move rfl) rfl ?_
  refine ao_r (r_fieldAddr Try.underlying29 rfl Try.sizeOf22 rfl rfl rfl) rfl ?_
  refine ao_r (r_load_cell Try.isAgg22 rfl rfl rfl) rfl ?_
  refine ao_r (r_len_vm (x0.1.length : Int) Try.underlying22 rfl rfl) rfl ?_
  refine ao_r (r_lss rfl rfl) rfl ?_
  refine ao_nil ?_
  refine aq_then ?_
  refine aw_cond rfl (fun hb7 => ?_) (fun hb7 => ?_)
  have q8 := d_t hb7
  replace h := is_if (d_t hb7) h
  refine aw_skip ?_
  refine aq_then ?_
  refine aw_seq ?_
  refine aw_block ?_
  refine aw_join (fun (s10 : dy12) => [(1, .int .i64 x1), (2, .int .i64 x2), (3, .ref 0 0), (6, .ref 1 0), (7, .os 2), (8, .int .i64 s3.1)]) (fun (s10 : dy12) => [(0, .var [.cell (.v ty5 x0.1), ci s3.2.1, .cell (.v ty7 x0.2.2.1), ci x0.2.2.2.1, ci x0.2.2.2.2.1, ci x0.2.2.2.2.2.1]), (1, .var [.cell (.nilsl), ci 0, .cell (.nilsl), ci 0, ci 0, ci 0]), (2, .row ty11 s10)]) (fun (s10 : dy12) => True) h (fun s10 hI h => ?_) (fun h j12 => ?_)
  refine aw_seq ?_
  refine aw_region ?_
  refine ao_r (r_move rfl) rfl ?_
  refine ao_r (r_move rfl) rfl ?_
  obtain ⟨g13, h⟩ := is_guard h
  refine ao_r (r_shr rfl rfl (by omega)) rfl ?_
  refine ao_r (r_and rfl rfl) rfl ?_
  refine ao_r (r_eql rfl rfl) rfl ?_
  refine ao_nil ?_
  refine aq_then ?_
  refine aw_cond rfl (fun hb14 => ?_) (fun hb14 => ?_)
  have q15 := d_t hb14
  replace h := is_if (d_t hb14) h
  refine aw_seq ?_
  obtain ⟨r17, r17h, h⟩ := is_bind h
  refine aw_drawAll (by kernel_rfl) ?_
  refine an_r 0 (fun _ _ _ h => h) rfl (by kernel_rfl) (r_fieldAddr Try.underlying29 rfl Try.sizeOf22 rfl rfl rfl) rfl ?_
  refine an_r 1 (fun _ _ _ h => h) rfl (by kernel_rfl) (r_load_cell Try.isAgg22 rfl rfl rfl) rfl ?_
  refine an_r 2 (fun _ _ _ h => h) rfl (by kernel_rfl) (r_move rfl) rfl ?_
  refine an_r 3 (fun _ _ _ h => h) rfl (by kernel_rfl) (r_idxAddr (t := ty8) Try.underlying22 Try.sizeOf76 rfl rfl (show 0 ≤ s3.1 from by omega) (show s3.1 < (x0.1.length : Int) from by omega)) rfl ?_
  refine an_r 4 (fun _ _ _ h => h) rfl (by kernel_rfl) (r_load_c (t := ty8) Try.isAgg76 Try.sizeOf76 rfl) rfl ?_
  refine an_r 5 (fun _ _ _ h => h) rfl (by kernel_rfl) (r_fieldAddr Try.underlying29 rfl Try.sizeOf3 rfl rfl rfl) rfl ?_
  refine an_r 6 (fun _ _ _ h => h) rfl (by kernel_rfl) (r_load_cell Try.isAgg3 rfl rfl rfl) rfl ?_
  refine an_scall 7 (by kernel_rfl) (fun _ _ _ h => h) rfl (by kernel_rfl) trivial (scall (c_spec_l12Throw (is_mk r17h)) rfl Try.func98 rfl rfl rfl rfl (fun σ => ⟨ad_ren rfl, ad_ren rfl, trivial⟩)) rfl ?_
  refine an_r 8 (fun _ _ _ h => h) rfl (by kernel_rfl) (r_move rfl) rfl ?_
  refine an_r 9 (fun _ _ _ h => h) rfl (by kernel_rfl) (r_extract rfl rfl) rfl ?_
  refine an_r 10 (fun _ _ _ h => h) rfl (by kernel_rfl) (r_extract rfl rfl) rfl ?_
  refine an_r 11 (fun _ _ _ h => h) rfl (by kernel_rfl) (r_assign rfl) rfl ?_
  refine an_r 12 (fun _ _ _ h => h) rfl (by kernel_rfl) (r_assign rfl) rfl ?_
  refine an_done rfl ?_
  refine aq_then ?_
  refine aw_seq ?_
  refine aw_region ?_
  refine ao_r (r_move rfl) rfl ?_
  refine ao_r (r_fieldAddr Try.underlying29 rfl Try.sizeOf3 rfl rfl rfl) rfl ?_
  refine ao_effS trivial (e_store rfl rfl rfl rfl Try.sizeOf3 rfl) ?_
  refine ao_nil ?_
  refine aq_then ?_
  refine aw_region ?_
  refine ao_r (r_move rfl) rfl ?_
  refine ao_r (r_move rfl) rfl ?_
  refine ao_r (r_move rfl) rfl ?_
  obtain ⟨g18, h⟩ := is_guard h
  refine ao_r (r_idxAddr_os Try.underlying23 Try.sizeOf3 rfl rfl rfl (show 0 ≤ s3.1 from by omega) (show s3.1 < (s10.length : Int) from by omega)) rfl ?_
  refine ao_effS trivial (e_store_elem_int Try.sizeOf3 rfl rfl rfl rfl (show s3.1.toNat < s10.length from by omega) rfl) ?_
  refine ao_nil ?_
  refine aq_in ?_
  refine aq_then ?_
  refine aw_region ?_
  refine ao_r (r_move rfl) rfl ?_
  refine ao_r (r_add rfl rfl) rfl ?_
  refine ao_r (r_assign rfl) rfl ?_
  refine ao_nil ?_
  exact aq_again (AL.sub (sub_r1 idn (nk rfl) (by kernel_rfl)) (ih5 ((IntKind.wrap .i64 (s3.1 + 1)), r17.1, (s10.set s3.1.toNat r17.2)) trivial h))
  have q16 := d_f hb14
  replace h := is_else (d_f hb14) h
  refine aw_skip ?_
  refine aq_in ?_
  refine aq_then ?_
  refine aw_region ?_
  refine ao_r (r_move rfl) rfl ?_
  refine ao_r (r_add rfl rfl) rfl ?_
  refine ao_r (r_assign rfl) rfl ?_
  refine ao_nil ?_
  exact aq_again (AL.sub (sub_r1 idn (nk rfl) (by kernel_rfl)) (ih5 ((IntKind.wrap .i64 (s3.1 + 1)), s3.2.1, s10) trivial h))
  refine aw_seq ?_
  refine aw_region ?_
  refine ao_r (r_move rfl) rfl ?_
  refine ao_r (r_len_osm (s3.2.2.length : Int) Try.underlying23 rfl rfl rfl) rfl ?_
  refine ao_r (r_move rfl) rfl ?_
  refine ao_r (r_leq rfl rfl) rfl ?_
  refine ao_nil ?_
  refine aq_then ?_
  refine aw_cond rfl (fun hb19 => ?_) (fun hb19 => ?_)
  have q20 := d_t hb19
  replace h := is_if (d_t hb19) h
  refine aw_region ?_
  refine ao_r (r_move rfl) rfl ?_
  refine ao_eff trivial (e_buildSlice (l := [(0, .const (.int .i64 0))]) (t := ty11) 3 ([0] : dy12) rfl Try.underlying23 Try.zeroValue3 Try.sizeOf3 rfl rfl rfl rfl rfl rfl rfl) rfl ?_
  obtain ⟨g22, h⟩ := is_guard h
  refine ao_eff trivial (e_append (t := ty11) 4 rfl Try.underlying23 (rfl : Try.prog.info? 3 = some _) rfl rfl rfl rfl rfl rfl rfl (src_os rfl) (show s3.2.2.length + ([0] : dy12).length ≤ 1000000000 from by (try simp only [List.length_cons, List.length_nil]) <;> omega) rfl rfl) rfl ?_
  refine ao_r (r_assign rfl) rfl ?_
  refine ao_nil ?_
  exact aq_then (AW.sub (sub_r1 (rn [(2, 4)]) (nk rfl) (by kernel_rfl)) (j12 (s3.2.2 ++ [0]) trivial h))
  have q21 := d_f hb19
  replace h := is_else (d_f hb19) h
  refine aw_skip ?_
  exact aq_then (AW.sub (sub_r1 idn (nk rfl) (by kernel_rfl)) (j12 s3.2.2 trivial h))
  have q9 := d_f hb7
  replace h := is_else (d_f hb7) h
  refine aw_exit ?_
  refine aq_then_exit ?_
  refine aq_then_exit ?_
  refine aq_in_exit ?_
  refine aq_then ?_
  refine aw_seq ?_
  refine aw_region ?_
  refine ao_r (r_move rfl) rfl ?_
  refine ao_r (r_fieldAddr Try.underlying29 rfl Try.sizeOf23 rfl rfl rfl) rfl ?_
  refine ao_effS trivial (e_store rfl rfl rfl rfl Try.sizeOf23 rfl) ?_
  refine ao_nil ?_
  refine aq_then ?_
  refine aw_seq ?_
  refine aw_region ?_
  refine ao_r (r_move rfl) rfl ?_
  refine ao_scall trivial (scall (c_spec_l12Add (is_mk (rfl : p_spec_l12Add s3.2.2 = _))) rfl Try.func60 rfl rfl rfl rfl (fun σ => ⟨ad_os0 rfl, trivial⟩)) rfl ?_
  refine ao_r (r_assign rfl) rfl ?_
  refine ao_nil ?_
  refine aq_then ?_
  refine aw_seq ?_
  refine aw_region ?_
  refine ao_r (r_fieldAddr Try.underlying29 rfl Try.sizeOf3 rfl rfl rfl) rfl ?_
  refine ao_r (r_load_cell Try.isAgg3 rfl rfl rfl) rfl ?_
  refine ao_r (r_move rfl) rfl ?_
  refine ao_r (r_add rfl rfl) rfl ?_
  refine ao_r (r_move rfl) rfl ?_
  refine ao_r (r_sub rfl rfl) rfl ?_
  refine ao_r (r_fieldAddr Try.underlying29 rfl Try.sizeOf3 rfl rfl rfl) rfl ?_
  refine ao_effS trivial (e_store rfl rfl rfl rfl Try.sizeOf3 rfl) ?_
  refine ao_nil ?_
  refine aq_then ?_
  refine aw_seq ?_
  refine aw_region ?_
  refine ao_r (r_fieldAddr Try.underlying29 rfl Try.sizeOf3 rfl rfl rfl) rfl ?_
  refine ao_r (r_load_cell Try.isAgg3 rfl rfl rfl) rfl ?_
  refine ao_r (r_move rfl) rfl ?_
  refine ao_scall trivial (scall (c_spec_l1Most (is_mk (rfl : p_spec_l1Most x0.2.2.2.2.1 (p_spec_l12Add s3.2.2) = _))) rfl Try.func78 rfl rfl rfl rfl (fun σ => ⟨ad_ren rfl, ad_ren rfl, trivial⟩)) rfl ?_
  refine ao_r (r_fieldAddr Try.underlying29 rfl Try.sizeOf3 rfl rfl rfl) rfl ?_
  refine ao_effS trivial (e_store rfl rfl rfl rfl Try.sizeOf3 rfl) ?_
  refine ao_nil ?_
  refine aq_then ?_
  refine aw_seq ?_
  refine aw_region ?_
  refine ao_r (r_load_st [] [.cell (.v ty5 x0.1), ci s3.2.1, .cell (.os 2), .cell (.int .i64 (IntKind.wrap .i64 ((IntKind.wrap .i64 (x0.2.2.2.1 + (p_spec_l12Add s3.2.2))) - x2))), .cell (.int .i64 (p_spec_l1Most x0.2.2.2.2.1 (p_spec_l12Add s3.2.2))), ci x0.2.2.2.2.2.1] [] Try.isAgg29 Try.sizeOf29 rfl rfl rfl rfl rfl rfl rfl) rfl ?_
  refine ao_effS trivial (e_store rfl rfl rfl rfl Try.sizeOf29 rfl) ?_
  refine ao_nil ?_
  refine aq_then ?_
  refine aw_ret ?_
  refine aq_ret ?_
  obtain rfl := is_some h
  exact aq_finV (l := [.cell 6 29]) (xs := [.st [.v ty5 x0.1, .int .i64 s3.2.1, .os 2, .int .i64 (IntKind.wrap .i64 ((IntKind.wrap .i64 (x0.2.2.2.1 + (p_spec_l12Add s3.2.2))) - x2)), .int .i64 (p_spec_l1Most x0.2.2.2.2.1 (p_spec_l12Add s3.2.2)), .int .i64 x0.2.2.2.2.2.1]]) idn [.v ty1 ((x0.1, (s3.2.1, (s3.2.2, ((IntKind.wrap .i64 ((IntKind.wrap .i64 (x0.2.2.2.1 + (p_spec_l12Add s3.2.2))) - x2)), ((p_spec_l1Most x0.2.2.2.2.1 (p_spec_l12Add s3.2.2)), (x0.2.2.2.2.2.1, ())))))) : dy3)] [] rfl (by exact ⟨⟨⟨_, _, rfl⟩, r_load_st [] [.cell (.v ty5 x0.1), ci s3.2.1, .cell (.os 2), .cell (.int .i64 (IntKind.wrap .i64 ((IntKind.wrap .i64 (x0.2.2.2.1 + (p_spec_l12Add s3.2.2))) - x2))), .cell (.int .i64 (p_spec_l1Most x0.2.2.2.2.1 (p_spec_l12Add s3.2.2))), ci x0.2.2.2.2.2.1] [] Try.isAgg29 Try.sizeOf29 rfl rfl rfl rfl rfl rfl rfl⟩, trivial⟩) (by exact ⟨ad_st rfl rfl ⟨ad_ren rfl, ad_ren rfl, ad_osB rfl rfl, ad_ren rfl, ad_ren rfl, ad_ren rfl, trivial⟩, trivial⟩) (by exact trivial) rfl (nk rfl) ⟨rfl, rfl⟩
theorem c_spec_l12Place {x0 : dy3} {x1 : Int} {r : Bool} (h : Is (p_spec_l12Place x0 x1) r) :
    Scalar Try.prog 84 [.v ty1 x0, .int .i64 x1] (.bool r) := by
  unfold p_spec_l12Place at h
  refine ac_enter ⟨11, 0⟩ Try.func84 rfl rfl rfl rfl rfl (fun Γ => ?_)
  refine aw_seq ?_
  refine aw_region ?_
  refine ao_eff trivial (e_box 0 rfl rfl rfl rfl rfl rfl) rfl ?_
  refine ao_r (r_assign rfl) rfl ?_
  refine ao_nil ?_
  refine aq_then ?_
  refine aw_seq ?_
  refine aw_region ?_
  refine ao_r (r_move rfl) rfl ?_
  refine ao_r (r_fieldAddr Try.underlying29 rfl Try.sizeOf22 rfl rfl rfl) rfl ?_
  refine ao_r (r_load_cell Try.isAgg22 rfl rfl rfl) rfl ?_
  refine ao_r (r_len_vm (x0.1.length : Int) Try.underlying22 rfl rfl) rfl ?_
  refine ao_r (r_sub rfl rfl) rfl ?_
  refine ao_scall trivial (scall (c_spec_l1In (is_mk (rfl : p_spec_l1In x1 0 (IntKind.wrap .i64 ((x0.1.length : Int) - 1)) = _))) rfl Try.func62 rfl rfl rfl rfl (fun σ => ⟨ad_ren rfl, ad_ren rfl, ad_ren rfl, trivial⟩)) rfl ?_
  refine ao_r (r_assign rfl) rfl ?_
  refine ao_nil ?_
  refine aq_then ?_
  refine aw_ret ?_
  refine aq_ret ?_
  obtain rfl := is_eq h
  exact aq_finx (l := [.tmp 4]) (xs := [.bool (p_spec_l1In x1 0 (IntKind.wrap .i64 ((x0.1.length : Int) - 1)))]) idn [.bool (p_spec_l1In x1 0 (IntKind.wrap .i64 ((x0.1.length : Int) - 1)))] [] rfl (by exact ⟨rfl, trivial⟩) (by exact ⟨ad_ren rfl, trivial⟩) (by exact trivial) rfl (nk rfl) rfl rfl ⟨rfl, rfl⟩
theorem c_spec_ShiftDie {x0 : dy12} {x1 : Int} {r : dy12 × Bool} (h : Is (p_spec_ShiftDie x0 x1) (some r)) :
    Scalar Try.prog 85 [.v ty8 x0, .int .i64 x1] (.tup [.v ty8 r.1, .bool r.2]) := by
  unfold p_spec_ShiftDie at h
  refine ac_enter ⟨32, 0⟩ Try.func85 rfl rfl rfl rfl rfl (fun Γ => ?_)
  refine aw_seq ?_
  refine aw_region ?_
  refine ao_eff trivial (e_box 0 rfl rfl rfl rfl rfl rfl) rfl ?_
  refine ao_eff trivial (e_alloc 1 (y := .v ty8 ((List.replicate 6 0) : dy12)) Try.zeroValue76 (fun ρ h M => ra_zero_arr (t := ty11) rfl) rfl rfl rfl rfl rfl) rfl ?_
  refine ao_r (r_assign rfl) rfl ?_
  refine ao_nil ?_
  refine aq_then ?_
  refine aw_seq ?_
  refine aw_seq ?_
  refine aw_region ?_
  refine ao_r (r_load_arr rfl Try.isAgg76 Try.sizeOf76 rfl rfl rfl) rfl ?_
  obtain ⟨r1, r1h, h⟩ := is_bind h
  refine ao_scall trivial (scall (c_spec_l2Die (is_mk r1h)) rfl Try.func80 rfl rfl rfl rfl (fun σ => ⟨ad_ren rfl, trivial⟩)) rfl ?_
  refine ao_r (r_not rfl) rfl ?_
  refine ao_r (r_move rfl) rfl ?_
  refine ao_readG (x := .int .i64 x1) rfl (GV.F rfl) (fun hg2 => r_move rfl) rfl ?_
  refine ao_scallG (r := .bool (p_spec_l1In x1 (-30) 30)) rfl (GV.F rfl) (fun hg3 => SCall.strip 11 rfl (hg3) (scall (c_spec_l1In (is_mk (rfl : p_spec_l1In x1 (-30) 30 = _))) rfl Try.func62 rfl rfl rfl rfl (fun σ => ⟨ad_ren rfl, ad_ren rfl, ad_ren rfl, trivial⟩))) rfl ?_
  refine ao_readG (x := .bool (!(p_spec_l1In x1 (-30) 30))) rfl (GV.F rfl) (fun hg4 => Reads.strip 12 rfl (hg4) (r_not rfl)) rfl ?_
  refine ao_r (r_orB rfl rfl) rfl ?_
  refine ao_nil ?_
  refine aq_then ?_
  refine aw_cond rfl (fun hb5 => ?_) (fun hb5 => ?_)
  replace h := is_if hb5 h
  refine aw_seq ?_
  refine aw_region ?_
  refine ao_r (r_build_zero (t := ty11) Try.underlying76 Try.zeroValue76 Try.sizeOf3 rfl) rfl ?_
  refine ao_effS trivial (e_store rfl rfl rfl rfl Try.sizeOf76 rfl) ?_
  refine ao_r (r_assign rfl) rfl ?_
  refine ao_nil ?_
  refine aq_then ?_
  refine aw_ret ?_
  refine aq_then_ret ?_
  refine aq_ret ?_
  obtain rfl := is_some h
  exact aq_finx (l := [.cell 4 76, .tmp 5]) (xs := [.v ty8 ((List.replicate 6 0) : dy12), .bool false]) idn [.v ty8 ((List.replicate 6 0) : dy12), .bool false] [] rfl (by exact ⟨⟨⟨_, _, rfl⟩, r_load_arr rfl Try.isAgg76 Try.sizeOf76 rfl rfl rfl⟩, rfl, trivial⟩) (by exact ⟨ad_ren rfl, ad_ren rfl, trivial⟩) (by exact trivial) rfl (nk rfl) rfl rfl ⟨rfl, rfl⟩
  obtain ⟨q6, q7⟩ := or_f hb5
  replace h := is_else (ne_t hb5) h
  refine aw_skip ?_
  refine aq_then ?_
  refine aw_seq ?_
  refine aw_seq ?_
  refine aw_region ?_
  refine ao_r (r_assign rfl) rfl ?_
  refine ao_nil ?_
  refine aq_then ?_
  refine aw_block ?_
  refine aw_loop (AL.sub (fr' := [(1, .int .i64 x1), (2, .ref 0 0), (4, .ref 1 0), (6, .int .i64 0)]) (H' := [(0, .var [.arr ty11 6 x0]), (1, .var [.arr ty11 6 ((List.replicate 6 0) : dy12)])]) (sub_r1 idn (nk rfl) (by kernel_rfl)) (al_cnt (fun i9 (s8 : dy12) => [(1, .int .i64 x1), (2, .ref 0 0), (4, .ref 1 0), (6, .int .i64 i9)]) (fun i9 (s8 : dy12) => [(0, .var [.arr ty11 6 s8]), (1, .var [.arr ty11 6 ((List.replicate 6 0) : dy12)])]) (fun d i9 (s8 : dy12) => d = Int.toNat (6 - i9) ∧ 0 ≤ i9 ∧ (s8.length : Int) = (x0.length : Int) ∧ i9 ≤ 6) h ⟨rfl, (by (try simp only [List.length_set, List.length_append, List.length_cons, List.length_nil, List.length_replicate, List.length_take, List.length_drop]) <;> omega), (by (try simp only [List.length_set, List.length_append, List.length_cons, List.length_nil, List.length_replicate, List.length_take, List.length_drop]) <;> omega), (by (try simp only [List.length_set, List.length_append, List.length_cons, List.length_nil, List.length_replicate, List.length_take, List.length_drop]) <;> omega)⟩ (fun d10 i9 s8 hI h ih10 => ?_)))
  obtain ⟨hd, _, _, _⟩ := hI
  refine al_round ?_
  refine aw_seq ?_
  refine aw_seq ?_
  refine aw_region ?_
  refine ao_r (r_move rfl) rfl ?_
  refine ao_r (r_lss rfl rfl) rfl ?_
  refine ao_nil ?_
  refine aq_then ?_
  refine aw_cond rfl (fun hb12 => ?_) (fun hb12 => ?_)
  have q13 := d_t hb12
  obtain ⟨d10, rfl⟩ : ∃ e, d10 = e + 1 := ⟨d10 - 1, by omega⟩
  replace h := is_cntS h
  refine aw_skip ?_
  refine aq_then ?_
  refine aw_seq ?_
  refine aw_block ?_
  refine aw_region ?_
  refine ao_r (r_move rfl) rfl ?_
  refine ao_r (r_move rfl) rfl ?_
  refine ao_r (r_idxAddr_arr (i := i9) Try.underlying76 Try.sizeOf3 rfl rfl (show 0 ≤ i9 from by omega) (show i9 < (6 : Int) from by omega)) rfl ?_
  refine ao_r (r_load_elema_int Try.isAgg3 Try.sizeOf3 rfl rfl rfl (show i9.toNat < 6 from by omega)) rfl ?_
  refine ao_r (r_move rfl) rfl ?_
  refine ao_r (r_add rfl rfl) rfl ?_
  refine ao_r (r_idxAddr_arr (i := i9) Try.underlying76 Try.sizeOf3 rfl rfl (show 0 ≤ i9 from by omega) (show i9 < (6 : Int) from by omega)) rfl ?_
  refine ao_effS trivial (e_store_elema_int Try.sizeOf3 rfl rfl rfl rfl (show i9.toNat < 6 from by omega) rfl) ?_
  refine ao_nil ?_
  refine aq_in ?_
  refine aq_then ?_
  refine aw_region ?_
  refine ao_r (r_move rfl) rfl ?_
  refine ao_r (r_addI rfl rfl (wrap_id (by omega) (by omega))) rfl ?_
  refine ao_r (r_assign rfl) rfl ?_
  refine ao_nil ?_
  exact aq_again (AL.sub (sub_r1 idn (nk rfl) (by kernel_rfl)) (ih10 d10 (i9 + 1) (s8.set i9.toNat (IntKind.wrap .i64 ((s8.getD i9.toNat 0) + x1))) (by omega) ⟨by omega, (by (try simp only [List.length_set, List.length_append, List.length_cons, List.length_nil, List.length_replicate, List.length_take, List.length_drop]) <;> omega), (by (try simp only [List.length_set, List.length_append, List.length_cons, List.length_nil, List.length_replicate, List.length_take, List.length_drop]) <;> omega), (by (try simp only [List.length_set, List.length_append, List.length_cons, List.length_nil, List.length_replicate, List.length_take, List.length_drop]) <;> omega)⟩ h))
  have q14 := d_f hb12
  obtain rfl : d10 = 0 := by omega
  replace h := is_cnt0 h
  refine aw_exit ?_
  refine aq_then_exit ?_
  refine aq_then_exit ?_
  refine aq_in_exit ?_
  refine aq_then ?_
  refine aw_seq ?_
  refine aw_seq ?_
  refine aw_region ?_
  refine ao_r (r_load_arr rfl Try.isAgg76 Try.sizeOf76 rfl rfl rfl) rfl ?_
  obtain ⟨r15, r15h, h⟩ := is_bind h
  refine ao_scall trivial (scall (c_spec_l2Die (is_mk r15h)) rfl Try.func80 rfl rfl rfl rfl (fun σ => ⟨ad_ren rfl, trivial⟩)) rfl ?_
  refine ao_r (r_not rfl) rfl ?_
  refine ao_nil ?_
  refine aq_then ?_
  refine aw_cond rfl (fun hb16 => ?_) (fun hb16 => ?_)
  replace h := is_else (ne_t (not_t hb16)) h
  refine aw_seq ?_
  refine aw_region ?_
  refine ao_r (r_build_zero (t := ty11) Try.underlying76 Try.zeroValue76 Try.sizeOf3 rfl) rfl ?_
  refine ao_effS trivial (e_store rfl rfl rfl rfl Try.sizeOf76 rfl) ?_
  refine ao_r (r_assign rfl) rfl ?_
  refine ao_nil ?_
  refine aq_then ?_
  refine aw_ret ?_
  refine aq_then_ret ?_
  refine aq_ret ?_
  obtain rfl := is_some h
  exact aq_finx (l := [.cell 4 76, .tmp 5]) (xs := [.v ty8 ((List.replicate 6 0) : dy12), .bool false]) idn [.v ty8 ((List.replicate 6 0) : dy12), .bool false] [] rfl (by exact ⟨⟨⟨_, _, rfl⟩, r_load_arr rfl Try.isAgg76 Try.sizeOf76 rfl rfl rfl⟩, rfl, trivial⟩) (by exact ⟨ad_ren rfl, ad_ren rfl, trivial⟩) (by exact trivial) rfl (nk rfl) rfl rfl ⟨rfl, rfl⟩
  replace h := is_if (not_f hb16) h
  refine aw_skip ?_
  refine aq_then ?_
  refine aw_seq ?_
  refine aw_region ?_
  refine ao_r (r_load_arr rfl Try.isAgg76 Try.sizeOf76 rfl rfl rfl) rfl ?_
  refine ao_effS trivial (e_store rfl rfl rfl rfl Try.sizeOf76 rfl) ?_
  refine ao_r (r_assign rfl) rfl ?_
  refine ao_nil ?_
  refine aq_then ?_
  refine aw_ret ?_
  refine aq_ret ?_
  obtain rfl := is_some h
  exact aq_finx (l := [.cell 4 76, .tmp 5]) (xs := [.v ty8 s8, .bool true]) idn [.v ty8 s8, .bool true] [] rfl (by exact ⟨⟨⟨_, _, rfl⟩, r_load_arr rfl Try.isAgg76 Try.sizeOf76 rfl rfl rfl⟩, rfl, trivial⟩) (by exact ⟨ad_ren rfl, ad_ren rfl, trivial⟩) (by exact trivial) rfl (nk rfl) rfl rfl ⟨rfl, rfl⟩
theorem c_spec_l12Dicev1 {x0 : dy3} {x1 : dy10} {r : dy3} (h : Is (p_spec_l12Dicev1 x0 x1) r) :
    ACalls Try.prog 83 [.v ty1 x0, .os 0] [(0, .row ty8 x1)] (fun r' H' => r' = .st [.os 1, .int .i64 r.2.1, .os 2, .int .i64 r.2.2.2.1, .int .i64 r.2.2.2.2.1, .int .i64 r.2.2.2.2.2.1] ∧ H' = [(1, .row ty8 r.1), (2, .row ty11 r.2.2.1)]) := by
  unfold p_spec_l12Dicev1 at h
  refine ac_enter ⟨10, 1⟩ Try.func83 rfl rfl rfl rfl rfl (fun Γ => ?_)
  refine row_len_m 0 (x1.length : Int) rfl rfl (fun hr0 => ?_)
  refine aw_seq ?_
  refine aw_region ?_
  refine ao_eff trivial (e_box 1 rfl rfl rfl rfl rfl rfl) rfl ?_
  refine ao_eff trivial (e_alloc 2 (y := .st [.nilsl, .int .i64 0, .nilsl, .int .i64 0, .int .i64 0, .int .i64 0]) Try.zeroValue29 (fun ρ h M => ra_zero_st (t := ty1) rfl rfl rfl) rfl rfl rfl rfl rfl) rfl ?_
  refine ao_nil ?_
  refine aq_then ?_
  refine aw_seq ?_
  refine aw_region ?_
  refine ao_r (r_move rfl) rfl ?_
  refine ao_r (r_fieldAddr Try.underlying29 rfl Try.sizeOf22 rfl rfl rfl) rfl ?_
  refine ao_effS trivial (e_store rfl rfl rfl rfl Try.sizeOf22 rfl) ?_
  refine ao_nil ?_
  refine aq_then ?_
  refine aw_seq ?_
  refine aw_region ?_
  refine ao_eff trivial (e_buildSlice (l := []) (t := ty11) 3 ([] : dy12) rfl Try.underlying23 Try.zeroValue3 Try.sizeOf3 rfl rfl rfl rfl rfl rfl rfl) rfl ?_
  refine ao_r (r_fieldAddr Try.underlying29 rfl Try.sizeOf23 rfl rfl rfl) rfl ?_
  refine ao_effS trivial (e_store rfl rfl rfl rfl Try.sizeOf23 rfl) ?_
  refine ao_nil ?_
  refine aq_then ?_
  refine aw_seq ?_
  refine aw_region ?_
  refine ao_r (r_load_st [] [.cell (.os 0), ci x0.2.1, .cell (.os 3), ci x0.2.2.2.1, ci x0.2.2.2.2.1, ci x0.2.2.2.2.2.1] [] Try.isAgg29 Try.sizeOf29 rfl rfl rfl rfl rfl rfl rfl) rfl ?_
  refine ao_effS trivial (e_store rfl rfl rfl rfl Try.sizeOf29 rfl) ?_
  refine ao_nil ?_
  refine aq_then ?_
  refine aw_ret ?_
  refine aq_ret ?_
  obtain rfl := is_eq h
  exact aq_finx (l := [.cell 4 29]) (xs := [.st [.os 0, .int .i64 x0.2.1, .os 3, .int .i64 x0.2.2.2.1, .int .i64 x0.2.2.2.2.1, .int .i64 x0.2.2.2.2.2.1]]) (rn [(1, 0), (2, 3)]) [.st [.os 1, .int .i64 x0.2.1, .os 2, .int .i64 x0.2.2.2.1, .int .i64 x0.2.2.2.2.1, .int .i64 x0.2.2.2.2.2.1]] [(1, .row ty8 x1), (2, .row ty11 ([] : dy12))] rfl (by exact ⟨⟨⟨_, _, rfl⟩, r_load_st [] [.cell (.os 0), ci x0.2.1, .cell (.os 3), ci x0.2.2.2.1, ci x0.2.2.2.2.1, ci x0.2.2.2.2.2.1] [] Try.isAgg29 Try.sizeOf29 rfl rfl rfl rfl rfl rfl rfl⟩, trivial⟩) (by exact ⟨ad_ren rfl, trivial⟩) (by exact ⟨⟨_, rfl, rfl⟩, ⟨_, rfl, rfl⟩, trivial⟩) rfl (nk1 rfl rfl) rfl rfl ⟨rfl, rfl⟩
end Go.GA
