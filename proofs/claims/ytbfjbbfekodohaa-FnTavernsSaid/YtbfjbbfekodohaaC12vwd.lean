/- Walks: what the Go functions compute, by the printed lines below; no further conditions. -/
import Derived.Test.YtbfjbbfekodohaaC12vwc
namespace Go.GA
open Go Go.Proofs
set_option maxRecDepth 100000
set_option maxHeartbeats 2000000
set_option linter.unusedVariables false
set_option linter.unusedSimpArgs false
theorem c_spec_l12Do {fu : Nat} {x0 : dy3} {x1 : dy6} {r : dy3 × Bool} (h : Is (p_spec_l12Do fu x0 x1) (some r)) :
    ACalls Try.prog 36 [.v ty1 x0, .v ty4 x1] [] (fun r' H' => r' = .tup [.st [.os 0, .int .i64 r.1.2.1, .os 1, .int .i64 r.1.2.2.2.1, .int .i64 r.1.2.2.2.2.1, .int .i64 r.1.2.2.2.2.2.1], .bool r.2] ∧ H' = [(0, .row ty8 r.1.1), (1, .row ty11 r.1.2.2.1)]) := by
  unfold p_spec_l12Do at h
  refine ac_enter ⟨28, 0⟩ Try.func36 rfl rfl rfl rfl rfl (fun Γ => ?_)
  refine aw_seq ?_
  refine aw_region ?_
  refine ao_eff trivial (e_box 0 rfl rfl rfl rfl rfl rfl) rfl ?_
  refine ao_eff trivial (e_box 1 rfl rfl rfl rfl rfl rfl) rfl ?_
  refine ao_eff trivial (e_alloc 2 (y := .st [.nilsl, .int .i64 0, .nilsl, .int .i64 0, .int .i64 0, .int .i64 0]) Try.zeroValue29 (fun ρ h M => ra_zero_st (t := ty1) rfl rfl rfl) rfl rfl rfl rfl rfl) rfl ?_
  refine ao_r (r_assign rfl) rfl ?_
  refine ao_nil ?_
  refine aq_then ?_
  refine aw_seq ?_
  refine aw_region ?_
  refine ao_r (r_load_part (τ := ty1) (y := ((x0.1, (x0.2.1, (x0.2.2.1, (x0.2.2.2.1, (x0.2.2.2.2.1, (x0.2.2.2.2.2.1, ())))))) : dy3)) [] [] rfl Try.isAgg29 Try.sizeOf29 rfl rfl rfl rfl) rfl ?_
  refine ao_r (r_load_part (τ := ty4) (y := ((x1.1, (x1.2.1, (x1.2.2.1, ()))) : dy6)) [] [] rfl Try.isAgg33 Try.sizeOf33 rfl rfl rfl rfl) rfl ?_
  obtain ⟨r1, r1h, h⟩ := is_bind h
  refine ao_callV [] 3 trivial (c_spec_l12Make (is_mk r1h)) Try.func64 rfl rfl rfl rfl rfl trivial trivial rfl rfl rfl rfl rfl rfl rfl (fun r' H' hr => ?_)
  obtain ⟨rfl, rfl⟩ := hr
  refine ao_norm (y := .tup [.v ty1 r1.1, .bool r1.2]) (H' := [(2, .var [.cell (.nilsl), ci 0, .cell (.nilsl), ci 0, ci 0, ci 0]), (1, .var [ci x1.1, ci x1.2.1, ci x1.2.2.1]), (0, .var [.cell (.v ty5 x0.1), ci x0.2.1, .cell (.v ty7 x0.2.2.1), ci x0.2.2.2.1, ci x0.2.2.2.2.1, ci x0.2.2.2.2.2.1])]) rfl rfl ?_
  refine ao_r (r_move rfl) rfl ?_
  refine ao_r (r_extract rfl rfl) rfl ?_
  refine ao_r (r_extract rfl rfl) rfl ?_
  refine ao_eff trivial (e_alloc 3 (y := .st [.nilsl, .int .i64 0, .nilsl, .int .i64 0, .int .i64 0, .int .i64 0]) Try.zeroValue29 (fun ρ h M => ra_zero_st (t := ty1) rfl rfl rfl) rfl rfl rfl rfl rfl) rfl ?_
  refine ao_effS trivial (e_store rfl rfl rfl rfl Try.sizeOf29 rfl) ?_
  refine ao_r (r_assign rfl) rfl ?_
  refine ao_nil ?_
  refine aq_then ?_
  refine aw_seq ?_
  refine aw_region ?_
  refine ao_r (r_fieldAddr Try.underlying29 rfl Try.sizeOf3 rfl rfl rfl) rfl ?_
  refine ao_r (r_load_cell Try.isAgg3 rfl rfl rfl) rfl ?_
  refine ao_r (r_add rfl rfl) rfl ?_
  refine ao_r (r_fieldAddr Try.underlying29 rfl Try.sizeOf3 rfl rfl rfl) rfl ?_
  refine ao_effS trivial (e_store rfl rfl rfl rfl Try.sizeOf3 rfl) ?_
  refine ao_nil ?_
  refine aq_then ?_
  refine aw_seq ?_
  refine aw_seq ?_
  refine aw_region ?_
  refine ao_r (r_move rfl) rfl ?_
  refine ao_r (r_not rfl) rfl ?_
  refine ao_r (r_move rfl) rfl ?_
  refine ao_readG (x := .v ty1 ((r1.1.1, (r1.1.2.1, (r1.1.2.2.1, (r1.1.2.2.2.1, (r1.1.2.2.2.2.1, ((IntKind.wrap .i64 (x0.2.2.2.2.2.1 + 1)), ())))))) : dy3)) rfl (GV.F rfl) (fun hg2 => r_load_part (τ := ty1) (y := ((r1.1.1, (r1.1.2.1, (r1.1.2.2.1, (r1.1.2.2.2.1, (r1.1.2.2.2.2.1, ((IntKind.wrap .i64 (x0.2.2.2.2.2.1 + 1)), ())))))) : dy3)) [] [] rfl Try.isAgg29 Try.sizeOf29 rfl rfl rfl rfl) rfl ?_
  obtain ⟨g4, h⟩ := is_guard h
  refine ao_scallG (r := .bool ((p_spec_l12Good (r1.1.1, (r1.1.2.1, (r1.1.2.2.1, (r1.1.2.2.2.1, (r1.1.2.2.2.2.1, ((IntKind.wrap .i64 (x0.2.2.2.2.2.1 + 1)), ()))))))).getD false)) rfl (GV.F rfl) (fun hg3 => SCall.strip 21 rfl (hg3) (scall (c_spec_l12Good (is_mk (isSome_getD (g4 hg3)))) rfl Try.func35 rfl rfl rfl rfl (fun σ => ⟨ad_ren rfl, trivial⟩))) rfl ?_
  refine ao_readG (x := .bool (!((p_spec_l12Good (r1.1.1, (r1.1.2.1, (r1.1.2.2.1, (r1.1.2.2.2.1, (r1.1.2.2.2.2.1, ((IntKind.wrap .i64 (x0.2.2.2.2.2.1 + 1)), ()))))))).getD false))) rfl (GV.F rfl) (fun hg5 => Reads.strip 22 rfl (hg5) (r_not rfl)) rfl ?_
  refine ao_r (r_orB rfl rfl) rfl ?_
  refine ao_nil ?_
  refine aq_then ?_
  refine aw_cond rfl (fun hb6 => ?_) (fun hb6 => ?_)
  replace h := is_if hb6 h
  refine aw_seq ?_
  refine aw_region ?_
  refine ao_r (r_build_st (l := []) (cs := [.cell (.nilsl), ci 0, .cell (.nilsl), ci 0, ci 0, ci 0]) ty1 [(0, 1), (1, 1), (2, 1), (3, 1), (4, 1), (5, 1)] Try.underlying29 Try.zeroValue29 rfl ⟨rfl, Try.sizeOf22, rfl, Try.sizeOf3, rfl, Try.sizeOf23, rfl, Try.sizeOf3, rfl, Try.sizeOf3, rfl, Try.sizeOf3, trivial⟩ rfl rfl rfl) rfl ?_
  refine ao_effS trivial (e_store rfl rfl rfl rfl Try.sizeOf29 rfl) ?_
  refine ao_r (r_assign rfl) rfl ?_
  refine ao_nil ?_
  refine aq_then ?_
  refine aw_ret ?_
  refine aq_then_ret ?_
  refine aq_ret ?_
  obtain rfl := is_some h
  refine AQ.sub (sub_nil_cell (t := ty8) (i := 2) 4 [] [ci 0, .cell (.nilsl), ci 0, ci 0, ci 0] rfl rfl rfl) ?_
  refine AQ.sub (sub_nil_cell (t := ty11) (i := 2) 5 [.cell (.os 4), ci 0] [ci 0, ci 0, ci 0] rfl rfl rfl) ?_
  exact aq_finx (l := [.cell 4 29, .tmp 5]) (xs := [.st [.os 4, .int .i64 0, .os 5, .int .i64 0, .int .i64 0, .int .i64 0], .bool false]) (rn [(0, 4), (1, 5)]) [.st [.os 0, .int .i64 0, .os 1, .int .i64 0, .int .i64 0, .int .i64 0], .bool false] [(0, .row ty8 ([] : dy10)), (1, .row ty11 ([] : dy12))] rfl (by exact ⟨⟨⟨_, _, rfl⟩, r_load_st [] [.cell (.os 4), ci 0, .cell (.os 5), ci 0, ci 0, ci 0] [] Try.isAgg29 Try.sizeOf29 rfl rfl rfl rfl rfl rfl rfl⟩, rfl, trivial⟩) (by exact ⟨ad_ren rfl, ad_ren rfl, trivial⟩) (by exact ⟨⟨_, rfl, rfl⟩, ⟨_, rfl, rfl⟩, trivial⟩) rfl (nk rfl) rfl rfl ⟨rfl, rfl⟩
  obtain ⟨q7, q8⟩ := or_f hb6
  replace h := is_else (ne_t hb6) h
  refine aw_skip ?_
  refine aq_then ?_
  refine aw_seq ?_
  refine aw_region ?_
  refine ao_r (r_load_part (τ := ty1) (y := ((r1.1.1, (r1.1.2.1, (r1.1.2.2.1, (r1.1.2.2.2.1, (r1.1.2.2.2.2.1, ((IntKind.wrap .i64 (x0.2.2.2.2.2.1 + 1)), ())))))) : dy3)) [] [] rfl Try.isAgg29 Try.sizeOf29 rfl rfl rfl rfl) rfl ?_
  obtain ⟨r9, r9h, h⟩ := is_bind h
  refine ao_call [] 4 trivial (c_spec_l12Own (is_mk r9h)) Try.func46 rfl rfl rfl rfl ⟨ad_ren rfl, trivial⟩ trivial rfl rfl rfl rfl rfl rfl rfl (fun r' H' hr => ?_)
  obtain ⟨rfl, rfl⟩ := hr
  refine ao_norm (y := .st [.os 4, .int .i64 r9.2.1, .os 5, .int .i64 r9.2.2.2.1, .int .i64 r9.2.2.2.2.1, .int .i64 r9.2.2.2.2.2.1]) (H' := [(3, .var [.cell (.v ty5 r1.1.1), ci r1.1.2.1, .cell (.v ty7 r1.1.2.2.1), ci r1.1.2.2.2.1, ci r1.1.2.2.2.2.1, .cell (.int .i64 (IntKind.wrap .i64 (x0.2.2.2.2.2.1 + 1)))]), (2, .var [.cell (.nilsl), ci 0, .cell (.nilsl), ci 0, ci 0, ci 0]), (1, .var [ci x1.1, ci x1.2.1, ci x1.2.2.1]), (0, .var [.cell (.v ty5 x0.1), ci x0.2.1, .cell (.v ty7 x0.2.2.1), ci x0.2.2.2.1, ci x0.2.2.2.2.1, ci x0.2.2.2.2.2.1]), (4, .row ty8 r9.1), (5, .row ty11 r9.2.2.1)]) rfl rfl ?_
  refine row_len_o 4 (r9.1.length : Int) rfl rfl (fun hr10 => ?_)
  refine row_len_o 5 (r9.2.2.1.length : Int) rfl rfl (fun hr11 => ?_)
  refine ao_effS trivial (e_store rfl rfl rfl rfl Try.sizeOf29 rfl) ?_
  refine ao_r (r_assign rfl) rfl ?_
  refine ao_nil ?_
  refine aq_then ?_
  refine aw_ret ?_
  refine aq_ret ?_
  obtain rfl := is_some h
  exact aq_finx (l := [.cell 4 29, .tmp 5]) (xs := [.st [.os 4, .int .i64 r9.2.1, .os 5, .int .i64 r9.2.2.2.1, .int .i64 r9.2.2.2.2.1, .int .i64 r9.2.2.2.2.2.1], .bool true]) (rn [(0, 4), (1, 5)]) [.st [.os 0, .int .i64 r9.2.1, .os 1, .int .i64 r9.2.2.2.1, .int .i64 r9.2.2.2.2.1, .int .i64 r9.2.2.2.2.2.1], .bool true] [(0, .row ty8 r9.1), (1, .row ty11 r9.2.2.1)] rfl (by exact ⟨⟨⟨_, _, rfl⟩, r_load_st [] [.cell (.os 4), ci r9.2.1, .cell (.os 5), ci r9.2.2.2.1, ci r9.2.2.2.2.1, ci r9.2.2.2.2.2.1] [] Try.isAgg29 Try.sizeOf29 rfl rfl rfl rfl rfl rfl rfl⟩, rfl, trivial⟩) (by exact ⟨ad_ren rfl, ad_ren rfl, trivial⟩) (by exact ⟨⟨_, rfl, rfl⟩, ⟨_, rfl, rfl⟩, trivial⟩) rfl (nk rfl) rfl rfl ⟨rfl, rfl⟩
theorem c_spec_l1Cur_tavern {fu : Nat} {x0 : dy12} {x1 : Int} {x2 : Int} {r : dy3 × Int × Int} (h : Is (p_spec_l1Cur_tavern fu x0 x1 x2) (some r)) :
    ACallsV Try.prog 56 [.ref 0 0] [(0, .var [.cell (.v ty9 x0), ci x1, .cell (.int .u64 x2)])] (fun r' H' => r' = .v ty1 r.1 ∧ H' = [(0, .var [.cell (.v ty9 x0), ci r.2.1, .cell (.int .u64 r.2.2)])]) := by
  unfold p_spec_l1Cur_tavern at h
  refine ac_enterV ⟨78, 1⟩ Try.func56 rfl rfl rfl rfl rfl (fun Γ => ?_)
  refine aw_seq ?_
  refine aw_region ?_
  refine ao_eff trivial (e_alloc 1 (y := .st [.nilsl, .int .i64 0, .nilsl, .int .i64 0, .int .i64 0, .int .i64 0]) Try.zeroValue29 (fun ρ h M => ra_zero_st (t := ty1) rfl rfl rfl) rfl rfl rfl rfl rfl) rfl ?_
  refine ao_nil ?_
  refine aq_then ?_
  refine aw_seq ?_
  refine aw_region ?_
  refine ao_r (r_move rfl) rfl ?_
  obtain ⟨r1, r1h, h⟩ := is_bind h
  refine ao_callV [0] 2 trivial (c_spec_l1Cur_pick (is_mk r1h)) Try.func58 rfl rfl rfl rfl rfl ⟨rfl, trivial⟩ ⟨⟨_, rfl, ⟨ad_ren rfl, rfl, ad_ren rfl, rfl, ad_ren rfl, rfl, trivial⟩⟩, trivial⟩ rfl rfl rfl rfl rfl rfl rfl (fun r' H' hr => ?_)
  obtain ⟨rfl, rfl⟩ := hr
  refine ao_norm (y := .int .i64 r1.1) (H' := [(1, .var [.cell (.nilsl), ci 0, .cell (.nilsl), ci 0, ci 0, ci 0]), (0, .var [.cell (.v ty9 x0), ci r1.2.1, .cell (.int .u64 r1.2.2)])]) rfl rfl ?_
  refine ao_r (r_move rfl) rfl ?_
  refine ao_eff trivial (e_buildSlice (l := [(0, .const (.int .i64 1)), (1, .const (.int .i64 300)), (2, .const (.int .i64 17))]) (t := ty11) 2 ([1, 300, 17] : dy12) rfl Try.underlying23 Try.zeroValue3 Try.sizeOf3 rfl rfl rfl rfl rfl rfl rfl) rfl ?_
  obtain ⟨r2, r2h, h⟩ := is_bind h
  refine ao_frz (fr' := [(0, .ref 0 0), (2, .ref 1 0), (9, .ref 0 0), (10, .int .i64 r1.1), (11, .ref 0 0), (12, .v ty7 ([1, 300, 17] : dy12))]) (H' := [(1, .var [.cell (.nilsl), ci 0, .cell (.nilsl), ci 0, ci 0, ci 0]), (0, .var [.cell (.v ty9 x0), ci r1.2.1, .cell (.int .u64 r1.2.2)])]) (by exact ⟨⟨_, rfl, ad_ren rfl⟩, ⟨_, rfl, ad_ren rfl⟩, ⟨_, rfl, ad_ren rfl⟩, ⟨_, rfl, ad_ren rfl⟩, ⟨_, rfl, ad_ren rfl⟩, ⟨_, rfl, ad_osB rfl rfl⟩, trivial⟩) (by exact ⟨⟨_, rfl, ⟨ad_ren rfl, rfl, ad_ren rfl, rfl, ad_ren rfl, rfl, ad_ren rfl, rfl, ad_ren rfl, rfl, ad_ren rfl, rfl, trivial⟩⟩, ⟨_, rfl, ⟨ad_ren rfl, rfl, ad_ren rfl, rfl, ad_ren rfl, rfl, trivial⟩⟩, trivial⟩) rfl ?_
  refine ao_callV [0] 3 trivial (c_spec_l1Cur_among (is_mk r2h)) Try.func49 rfl rfl rfl rfl rfl ⟨rfl, trivial⟩ ⟨⟨_, rfl, ⟨ad_ren rfl, rfl, ad_ren rfl, rfl, ad_ren rfl, rfl, trivial⟩⟩, trivial⟩ rfl rfl rfl rfl rfl rfl rfl (fun r' H' hr => ?_)
  obtain ⟨rfl, rfl⟩ := hr
  refine ao_norm (y := .int .i64 r2.1) (H' := [(1, .var [.cell (.nilsl), ci 0, .cell (.nilsl), ci 0, ci 0, ci 0]), (0, .var [.cell (.v ty9 x0), ci r2.2.1, .cell (.int .u64 r2.2.2)])]) rfl rfl ?_
  refine ao_r (r_mul rfl rfl) rfl ?_
  refine ao_r (r_assign rfl) rfl ?_
  refine ao_nil ?_
  refine aq_then ?_
  refine aw_seq ?_
  refine aw_region ?_
  refine ao_r (r_move rfl) rfl ?_
  obtain ⟨r3, r3h, h⟩ := is_bind h
  refine ao_callV [0] 3 trivial (c_spec_l1Cur_pool (is_mk r3h)) Try.func50 rfl rfl rfl rfl rfl ⟨rfl, trivial⟩ ⟨⟨_, rfl, ⟨ad_ren rfl, rfl, ad_ren rfl, rfl, ad_ren rfl, rfl, trivial⟩⟩, trivial⟩ rfl rfl rfl rfl rfl rfl rfl (fun r' H' hr => ?_)
  obtain ⟨rfl, rfl⟩ := hr
  refine ao_norm (y := .os 3) (H' := [(1, .var [.cell (.nilsl), ci 0, .cell (.nilsl), ci 0, ci 0, ci 0]), (0, .var [.cell (.v ty9 x0), ci r3.2.1, .cell (.int .u64 r3.2.2)]), (3, .row ty8 r3.1)]) rfl rfl ?_
  refine row_len_o 3 (r3.1.length : Int) rfl rfl (fun hr4 => ?_)
  refine ao_r (r_move rfl) rfl ?_
  obtain ⟨r5, r5h, h⟩ := is_bind h
  refine ao_call [] 4 trivial (c_spec_NewTavern (is_mk r5h)) Try.func23 rfl rfl rfl rfl ⟨ad_os0 rfl, ad_ren rfl, trivial⟩ trivial rfl rfl rfl rfl rfl rfl rfl (fun r' H' hr => ?_)
  obtain ⟨rfl, rfl⟩ := hr
  refine ao_norm (y := .tup [.st [.os 4, .int .i64 r5.1.2.1, .os 5, .int .i64 r5.1.2.2.2.1, .int .i64 r5.1.2.2.2.2.1, .int .i64 r5.1.2.2.2.2.2.1], .bool r5.2]) (H' := [(1, .var [.cell (.nilsl), ci 0, .cell (.nilsl), ci 0, ci 0, ci 0]), (0, .var [.cell (.v ty9 x0), ci r3.2.1, .cell (.int .u64 r3.2.2)]), (3, .row ty8 r3.1), (4, .row ty8 r5.1.1), (5, .row ty11 r5.1.2.2.1)]) rfl rfl ?_
  refine row_len_o 4 (r5.1.1.length : Int) rfl rfl (fun hr6 => ?_)
  refine row_len_o 5 (r5.1.2.2.1.length : Int) rfl rfl (fun hr7 => ?_)
  refine ao_r (r_move rfl) rfl ?_
  refine ao_r (r_extract rfl rfl) rfl ?_
  refine ao_r (r_extract rfl rfl) rfl ?_
  refine ao_eff trivial (e_alloc 6 (y := .st [.nilsl, .int .i64 0, .nilsl, .int .i64 0, .int .i64 0, .int .i64 0]) Try.zeroValue29 (fun ρ h M => ra_zero_st (t := ty1) rfl rfl rfl) rfl rfl rfl rfl rfl) rfl ?_
  refine ao_effS trivial (e_store rfl rfl rfl rfl Try.sizeOf29 rfl) ?_
  refine ao_r (r_assign rfl) rfl ?_
  refine ao_nil ?_
  refine aq_then ?_
  refine aw_seq ?_
  refine aw_seq ?_
  refine aw_region ?_
  refine ao_r (r_move rfl) rfl ?_
  obtain ⟨r8, r8h, h⟩ := is_bind h
  refine ao_callV [0] 7 trivial (c_spec_l1Cur_pick (is_mk r8h)) Try.func58 rfl rfl rfl rfl rfl ⟨rfl, trivial⟩ ⟨⟨_, rfl, ⟨ad_ren rfl, rfl, ad_ren rfl, rfl, ad_ren rfl, rfl, trivial⟩⟩, trivial⟩ rfl rfl rfl rfl rfl rfl rfl (fun r' H' hr => ?_)
  obtain ⟨rfl, rfl⟩ := hr
  refine ao_norm (y := .int .i64 r8.1) (H' := [(6, .var [.cell (.os 4), ci r5.1.2.1, .cell (.os 5), ci r5.1.2.2.2.1, ci r5.1.2.2.2.2.1, ci r5.1.2.2.2.2.2.1]), (1, .var [.cell (.nilsl), ci 0, .cell (.nilsl), ci 0, ci 0, ci 0]), (3, .row ty8 r3.1), (4, .row ty8 r5.1.1), (5, .row ty11 r5.1.2.2.1), (0, .var [.cell (.v ty9 x0), ci r8.2.1, .cell (.int .u64 r8.2.2)])]) rfl rfl ?_
  refine ao_r (r_assign rfl) rfl ?_
  refine ao_nil ?_
  refine aq_then ?_
  refine aw_block ?_
  refine AW.sub (sub_mk (fr' := [(0, .ref 0 0), (2, .ref 1 0), (9, .ref 0 0), (10, .int .i64 r1.1), (11, .ref 0 0), (12, .v ty7 ([1, 300, 17] : dy12)), (13, .int .i64 r2.1), (14, .int .i64 (IntKind.wrap .i64 (r1.1 * r2.1))), (3, .int .i64 (IntKind.wrap .i64 (r1.1 * r2.1))), (16, .ref 0 0), (17, .os 3), (18, .int .i64 (IntKind.wrap .i64 (r1.1 * r2.1))), (20, .v ty1 ((r5.1.1, (r5.1.2.1, (r5.1.2.2.1, (r5.1.2.2.2.1, (r5.1.2.2.2.2.1, (r5.1.2.2.2.2.2.1, ())))))) : dy3)), (21, .bool r5.2), (4, .ref 6 0), (5, .bool r5.2), (22, .ref 0 0), (23, .int .i64 r8.1), (6, .int .i64 r8.1)]) (H' := [(6, .var [.cell (.v ty5 r5.1.1), ci r5.1.2.1, .cell (.v ty7 r5.1.2.2.1), ci r5.1.2.2.2.1, ci r5.1.2.2.2.2.1, ci r5.1.2.2.2.2.2.1]), (1, .var [.cell (.nilsl), ci 0, .cell (.nilsl), ci 0, ci 0, ci 0]), (3, .row ty8 r3.1), (0, .var [.cell (.v ty9 x0), ci r8.2.1, .cell (.int .u64 r8.2.2)])]) (fun i => i) (by exact ⟨⟨_, rfl, ad_ren rfl⟩, ⟨_, rfl, ad_ren rfl⟩, ⟨_, rfl, ad_ren rfl⟩, ⟨_, rfl, ad_ren rfl⟩, ⟨_, rfl, ad_ren rfl⟩, ⟨_, rfl, ad_ren rfl⟩, ⟨_, rfl, ad_ren rfl⟩, ⟨_, rfl, ad_ren rfl⟩, ⟨_, rfl, ad_ren rfl⟩, ⟨_, rfl, ad_ren rfl⟩, ⟨_, rfl, ad_ren rfl⟩, ⟨_, rfl, ad_ren rfl⟩, ⟨_, rfl, ad_st rfl rfl ⟨ad_osB rfl rfl, ad_ren rfl, ad_osB rfl rfl, ad_ren rfl, ad_ren rfl, ad_ren rfl, trivial⟩⟩, ⟨_, rfl, ad_ren rfl⟩, ⟨_, rfl, ad_ren rfl⟩, ⟨_, rfl, ad_ren rfl⟩, ⟨_, rfl, ad_ren rfl⟩, ⟨_, rfl, ad_ren rfl⟩, ⟨_, rfl, ad_ren rfl⟩, trivial⟩) (by exact ⟨⟨_, rfl, ⟨ad_osB rfl rfl, rfl, ad_ren rfl, rfl, ad_osB rfl rfl, rfl, ad_ren rfl, rfl, ad_ren rfl, rfl, ad_ren rfl, rfl, trivial⟩⟩, ⟨_, rfl, ⟨ad_ren rfl, rfl, ad_ren rfl, rfl, ad_ren rfl, rfl, ad_ren rfl, rfl, ad_ren rfl, rfl, ad_ren rfl, rfl, trivial⟩⟩, ⟨_, rfl, rfl⟩, ⟨_, rfl, ⟨ad_ren rfl, rfl, ad_ren rfl, rfl, ad_ren rfl, rfl, trivial⟩⟩, trivial⟩) rfl (fun _ _ => rfl)) ?_
  refine aw_loop (AL.sub (sub_r1 (rn [(2, 6)]) (nk1 rfl rfl) (by kernel_rfl)) (al_whl (fun (s9 : Int × Int × Int × dy10 × Int × dy12 × Int × Int × Int) => [(0, .ref 0 0), (2, .ref 1 0), (4, .ref 2 0), (5, .bool r5.2), (6, .int .i64 s9.1)]) (fun (s9 : Int × Int × Int × dy10 × Int × dy12 × Int × Int × Int) => [(0, .var [.cell (.v ty9 x0), ci s9.2.1, .cell (.int .u64 s9.2.2.1)]), (1, .var [.cell (.nilsl), ci 0, .cell (.nilsl), ci 0, ci 0, ci 0]), (2, .var [.cell (.v ty5 s9.2.2.2.1), ci s9.2.2.2.2.1, .cell (.v ty7 s9.2.2.2.2.2.1), ci s9.2.2.2.2.2.2.1, ci s9.2.2.2.2.2.2.2.1, ci s9.2.2.2.2.2.2.2.2])]) (fun (s9 : Int × Int × Int × dy10 × Int × dy12 × Int × Int × Int) => True) h trivial (fun d11 s9 hI h ih11 => ?_)))
  replace h := is_whlS h
  refine al_round ?_
  refine aw_seq ?_
  refine aw_seq ?_
  refine aw_region ?_
  refine ao_r (r_move rfl) rfl ?_
  refine ao_r (r_gtr rfl rfl) rfl ?_
  refine ao_r (r_move rfl) rfl ?_
  refine ao_readG (x := .bool r5.2) rfl (GV.T rfl) (fun hg13 => by
        have q14 := d_t hg13
        exact r_move rfl) rfl ?_
  refine ao_r (r_andB rfl rfl) rfl ?_
  refine ao_nil ?_
  refine aq_then ?_
  refine aw_cond rfl (fun hb15 => ?_) (fun hb15 => ?_)
  obtain ⟨q16, q17⟩ := and_t hb15
  have q18 := d_t q16
  replace h := is_if hb15 h
  refine aw_skip ?_
  refine aq_then ?_
  refine aw_seq ?_
  refine aw_block ?_
  refine aw_seq ?_
  obtain ⟨r19, r19h, h⟩ := is_bind h
  obtain ⟨r20, r20h, h⟩ := is_bind h
  refine aw_drawP 11 rfl (by kernel_rfl) ?_
  refine ap_to [(0, .ref 0 0), (2, .ref 1 0), (4, .ref 2 0), (5, .bool r5.2), (6, .int .i64 s9.1), (7, .ref 3 0), (8, .bool r20.2)] [(0, .var [.cell (.v ty9 x0), ci r19.2.1, .cell (.int .u64 r19.2.2)]), (1, .var [.cell (.nilsl), ci 0, .cell (.nilsl), ci 0, ci 0, ci 0]), (2, .var [.cell (.v ty5 s9.2.2.2.1), ci s9.2.2.2.2.1, .cell (.v ty7 s9.2.2.2.2.2.1), ci s9.2.2.2.2.2.2.1, ci s9.2.2.2.2.2.2.2.1, ci s9.2.2.2.2.2.2.2.2]), (3, .var [.cell (.os 4), ci r20.1.2.1, .cell (.os 5), ci r20.1.2.2.2.1, ci r20.1.2.2.2.2.1, ci r20.1.2.2.2.2.2.1]), (4, .row ty8 r20.1.1), (5, .row ty11 r20.1.2.2.1)] ?_ (fun key => ?_)
  refine row_len_q 4 (r20.1.1.length : Int) rfl rfl (fun hr37 => ?_)
  refine row_len_q 5 (r20.1.2.2.1.length : Int) rfl rfl (fun hr38 => ?_)
  refine aq_then ?_
  refine aw_seq ?_
  refine aw_region ?_
  refine ao_r (r_move rfl) rfl ?_
  refine ao_nil ?_
  refine aq_then ?_
  refine aw_cond rfl (fun hb39 => ?_) (fun hb39 => ?_)
  replace h := is_if hb39 h
  refine aw_region ?_
  refine ao_r (r_load_st [] [.cell (.os 4), ci r20.1.2.1, .cell (.os 5), ci r20.1.2.2.2.1, ci r20.1.2.2.2.2.1, ci r20.1.2.2.2.2.2.1] [] Try.isAgg29 Try.sizeOf29 rfl rfl rfl rfl rfl rfl rfl) rfl ?_
  refine ao_effS trivial (e_store rfl rfl rfl rfl Try.sizeOf29 rfl) ?_
  refine ao_nil ?_
  refine aq_in ?_
  refine aq_then ?_
  refine aw_region ?_
  refine ao_r (r_move rfl) rfl ?_
  refine ao_r (r_sub rfl rfl) rfl ?_
  refine ao_r (r_assign rfl) rfl ?_
  refine ao_nil ?_
  refine AQ.sub (sub_mk (fr' := [(0, .ref 0 0), (2, .ref 1 0), (4, .ref 2 0), (5, .bool r5.2), (6, .int .i64 (IntKind.wrap .i64 (s9.1 - 1))), (7, .ref 3 0), (8, .bool r20.2), (39, .bool r20.2), (40, .v ty1 ((r20.1.1, (r20.1.2.1, (r20.1.2.2.1, (r20.1.2.2.2.1, (r20.1.2.2.2.2.1, (r20.1.2.2.2.2.2.1, ())))))) : dy3)), (29, .int .i64 s9.1), (30, .int .i64 (IntKind.wrap .i64 (s9.1 - 1)))]) (H' := [(0, .var [.cell (.v ty9 x0), ci r19.2.1, .cell (.int .u64 r19.2.2)]), (1, .var [.cell (.nilsl), ci 0, .cell (.nilsl), ci 0, ci 0, ci 0]), (2, .var [.cell (.v ty5 r20.1.1), ci r20.1.2.1, .cell (.v ty7 r20.1.2.2.1), ci r20.1.2.2.2.1, ci r20.1.2.2.2.2.1, ci r20.1.2.2.2.2.2.1]), (3, .var [.cell (.v ty5 r20.1.1), ci r20.1.2.1, .cell (.v ty7 r20.1.2.2.1), ci r20.1.2.2.2.1, ci r20.1.2.2.2.2.1, ci r20.1.2.2.2.2.2.1])]) (fun i => i) (by exact ⟨⟨_, rfl, ad_ren rfl⟩, ⟨_, rfl, ad_ren rfl⟩, ⟨_, rfl, ad_ren rfl⟩, ⟨_, rfl, ad_ren rfl⟩, ⟨_, rfl, ad_ren rfl⟩, ⟨_, rfl, ad_ren rfl⟩, ⟨_, rfl, ad_ren rfl⟩, ⟨_, rfl, ad_ren rfl⟩, ⟨_, rfl, ad_st rfl rfl ⟨ad_osB rfl rfl, ad_ren rfl, ad_osB rfl rfl, ad_ren rfl, ad_ren rfl, ad_ren rfl, trivial⟩⟩, ⟨_, rfl, ad_ren rfl⟩, ⟨_, rfl, ad_ren rfl⟩, trivial⟩) (by exact ⟨⟨_, rfl, ⟨ad_ren rfl, rfl, ad_ren rfl, rfl, ad_ren rfl, rfl, trivial⟩⟩, ⟨_, rfl, ⟨ad_ren rfl, rfl, ad_ren rfl, rfl, ad_ren rfl, rfl, ad_ren rfl, rfl, ad_ren rfl, rfl, ad_ren rfl, rfl, trivial⟩⟩, ⟨_, rfl, ⟨ad_osB rfl rfl, rfl, ad_ren rfl, rfl, ad_osB rfl rfl, rfl, ad_ren rfl, rfl, ad_ren rfl, rfl, ad_ren rfl, rfl, trivial⟩⟩, ⟨_, rfl, ⟨ad_osB rfl rfl, rfl, ad_ren rfl, rfl, ad_osB rfl rfl, rfl, ad_ren rfl, rfl, ad_ren rfl, rfl, ad_ren rfl, rfl, trivial⟩⟩, trivial⟩) rfl (fun _ _ => rfl)) ?_
  exact aq_again (AL.sub (sub_r1 idn (nk1 rfl rfl) (by kernel_rfl)) (ih11 ((IntKind.wrap .i64 (s9.1 - 1)), r19.2.1, r19.2.2, r20.1.1, r20.1.2.1, r20.1.2.2.1, r20.1.2.2.2.1, r20.1.2.2.2.2.1, r20.1.2.2.2.2.2.1) trivial h))
  replace h := is_else (ne_t hb39) h
  refine aw_skip ?_
  refine aq_in ?_
  refine aq_then ?_
  refine aw_region ?_
  refine ao_r (r_move rfl) rfl ?_
  refine ao_r (r_sub rfl rfl) rfl ?_
  refine ao_r (r_assign rfl) rfl ?_
  refine ao_nil ?_
  exact aq_again (AL.sub (sub_r1 idn (nk1 rfl rfl) (by kernel_rfl)) (ih11 ((IntKind.wrap .i64 (s9.1 - 1)), r19.2.1, r19.2.2, s9.2.2.2.1, s9.2.2.2.2.1, s9.2.2.2.2.2.1, s9.2.2.2.2.2.2.1, s9.2.2.2.2.2.2.2.1, s9.2.2.2.2.2.2.2.2) trivial h))
  refine ap_let (g := 2) (listed := #[true, true, true, true, true, true, true, true, true, false, false]) [(0, .ref 0 0), (2, .ref 1 0), (4, .ref 2 0), (5, .bool r5.2), (6, .int .i64 s9.1), (7, .ref 3 0), (27, .gd (decide (0 < s9.1)) (.bool r5.2)), (37, .st [.os 4, .int .i64 r20.1.2.1, .os 5, .int .i64 r20.1.2.2.2.1, .int .i64 r20.1.2.2.2.2.1, .int .i64 r20.1.2.2.2.2.2.1]), (38, .bool r20.2)] [(0, .var [.cell (.v ty9 x0), ci r19.2.1, .cell (.int .u64 r19.2.2)]), (1, .var [.cell (.nilsl), ci 0, .cell (.nilsl), ci 0, ci 0, ci 0]), (2, .var [.cell (.v ty5 s9.2.2.2.1), ci s9.2.2.2.2.1, .cell (.v ty7 s9.2.2.2.2.2.1), ci s9.2.2.2.2.2.2.1, ci s9.2.2.2.2.2.2.2.1, ci s9.2.2.2.2.2.2.2.2]), (3, .var [.cell (.nilsl), ci 0, .cell (.nilsl), ci 0, ci 0, ci 0]), (4, .row ty8 r20.1.1), (5, .row ty11 r20.1.2.2.1)] ?_ (fun k28 => ?_)
  refine ap_all [9] (by kernel_rfl) ⟨?_, trivial⟩
  refine apo_ao rfl ?_
  refine ao_effS trivial (e_store rfl rfl rfl rfl Try.sizeOf29 rfl) ?_
  refine ap_ni ?_
  refine ap_p 10 (fun _ _ _ h => h) rfl (by kernel_rfl) (rp_assign rfl) rfl ?_
  exact ap_end (by kernel_rfl) (AQ.sub (sub_r1 idn (nk1 rfl rfl) (by kernel_rfl)) key)
  refine ap_let (g := 3) (listed := #[true, true, true, true, true, true, true, true, false, false, false]) [(0, .ref 0 0), (2, .ref 1 0), (4, .ref 2 0), (5, .bool r5.2), (6, .int .i64 s9.1), (27, .gd (decide (0 < s9.1)) (.bool r5.2)), (37, .st [.os 3, .int .i64 r20.1.2.1, .os 4, .int .i64 r20.1.2.2.2.1, .int .i64 r20.1.2.2.2.2.1, .int .i64 r20.1.2.2.2.2.2.1]), (38, .bool r20.2)] [(0, .var [.cell (.v ty9 x0), ci r19.2.1, .cell (.int .u64 r19.2.2)]), (1, .var [.cell (.nilsl), ci 0, .cell (.nilsl), ci 0, ci 0, ci 0]), (2, .var [.cell (.v ty5 s9.2.2.2.1), ci s9.2.2.2.2.1, .cell (.v ty7 s9.2.2.2.2.2.1), ci s9.2.2.2.2.2.2.1, ci s9.2.2.2.2.2.2.2.1, ci s9.2.2.2.2.2.2.2.2]), (3, .row ty8 r20.1.1), (4, .row ty11 r20.1.2.2.1)] ?_ (fun k27 => ?_)
  refine ap_all [8] (by kernel_rfl) ⟨?_, trivial⟩
  refine apo_ao rfl ?_
  refine ao_eff trivial (e_alloc 5 (y := .st [.nilsl, .int .i64 0, .nilsl, .int .i64 0, .int .i64 0, .int .i64 0]) Try.zeroValue29 (fun ρ h M => ra_zero_st (t := ty1) rfl rfl rfl) rfl rfl rfl rfl rfl) rfl ?_
  refine ap_ni ?_
  exact ap_gr (rn [(3, 5), (4, 3), (5, 4)]) (nk1 rfl rfl) k28 (by kernel_rfl)
  refine ap_let (g := 6) (listed := #[true, true, true, true, false, false, false, false, true, false, false]) [(0, .ref 0 0), (2, .ref 1 0), (4, .ref 2 0), (5, .bool r5.2), (6, .int .i64 s9.1), (7, .ref 3 0), (27, .gd (decide (0 < s9.1)) (.bool r5.2)), (32, .v ty1 ((s9.2.2.2.1, (s9.2.2.2.2.1, (s9.2.2.2.2.2.1, (s9.2.2.2.2.2.2.1, (s9.2.2.2.2.2.2.2.1, (s9.2.2.2.2.2.2.2.2, ())))))) : dy3)), (35, .v ty4 r19.1)] [(0, .var [.cell (.v ty9 x0), ci r19.2.1, .cell (.int .u64 r19.2.2)]), (1, .var [.cell (.nilsl), ci 0, .cell (.nilsl), ci 0, ci 0, ci 0]), (2, .var [.cell (.v ty5 s9.2.2.2.1), ci s9.2.2.2.2.1, .cell (.v ty7 s9.2.2.2.2.2.1), ci s9.2.2.2.2.2.2.1, ci s9.2.2.2.2.2.2.2.1, ci s9.2.2.2.2.2.2.2.2]), (3, .var [.cell (.nilsl), ci 0, .cell (.nilsl), ci 0, ci 0, ci 0])] ?_ (fun k29 => ?_)
  refine ap_all [4] (by kernel_rfl) ⟨?_, trivial⟩
  refine apo_ao rfl ?_
  refine ao_call [] 4 trivial (c_spec_l12Do (is_mk r20h)) Try.func36 rfl rfl rfl rfl ⟨ad_ren rfl, ad_ren rfl, trivial⟩ trivial rfl rfl rfl rfl rfl rfl rfl (fun r' H' hr => ?_)
  obtain ⟨rfl, rfl⟩ := hr
  refine ao_norm (y := .tup [.st [.os 4, .int .i64 r20.1.2.1, .os 5, .int .i64 r20.1.2.2.2.1, .int .i64 r20.1.2.2.2.2.1, .int .i64 r20.1.2.2.2.2.2.1], .bool r20.2]) (H' := [(0, .var [.cell (.v ty9 x0), ci r19.2.1, .cell (.int .u64 r19.2.2)]), (1, .var [.cell (.nilsl), ci 0, .cell (.nilsl), ci 0, ci 0, ci 0]), (2, .var [.cell (.v ty5 s9.2.2.2.1), ci s9.2.2.2.2.1, .cell (.v ty7 s9.2.2.2.2.2.1), ci s9.2.2.2.2.2.2.1, ci s9.2.2.2.2.2.2.2.1, ci s9.2.2.2.2.2.2.2.2]), (3, .var [.cell (.nilsl), ci 0, .cell (.nilsl), ci 0, ci 0, ci 0]), (4, .row ty8 r20.1.1), (5, .row ty11 r20.1.2.2.1)]) rfl rfl ?_
  refine row_len_o 4 (r20.1.1.length : Int) rfl rfl (fun hr21 => ?_)
  refine row_len_o 5 (r20.1.2.2.1.length : Int) rfl rfl (fun hr22 => ?_)
  refine ap_ni ?_
  refine ap_p 5 (fun _ _ _ h => h) rfl (by kernel_rfl) (rp_move rfl) rfl ?_
  refine ap_p 6 (fun _ _ _ h => h) rfl (by kernel_rfl) (rp_extract rfl rfl) rfl ?_
  refine ap_p 7 (fun _ _ _ h => h) rfl (by kernel_rfl) (rp_extract rfl rfl) rfl ?_
  exact ap_gr idn (nk1 rfl rfl) k28 (by kernel_rfl)
  refine ap_let (g := 7) (listed := #[true, true, true, true, false, false, false, false, false, false, false]) [(0, .ref 0 0), (2, .ref 1 0), (4, .ref 2 0), (5, .bool r5.2), (6, .int .i64 s9.1), (27, .gd (decide (0 < s9.1)) (.bool r5.2)), (32, .v ty1 ((s9.2.2.2.1, (s9.2.2.2.2.1, (s9.2.2.2.2.2.1, (s9.2.2.2.2.2.2.1, (s9.2.2.2.2.2.2.2.1, (s9.2.2.2.2.2.2.2.2, ())))))) : dy3)), (35, .v ty4 r19.1)] [(0, .var [.cell (.v ty9 x0), ci r19.2.1, .cell (.int .u64 r19.2.2)]), (1, .var [.cell (.nilsl), ci 0, .cell (.nilsl), ci 0, ci 0, ci 0]), (2, .var [.cell (.v ty5 s9.2.2.2.1), ci s9.2.2.2.2.1, .cell (.v ty7 s9.2.2.2.2.2.1), ci s9.2.2.2.2.2.2.1, ci s9.2.2.2.2.2.2.2.1, ci s9.2.2.2.2.2.2.2.2])] ?_ (fun k26 => ?_)
  refine ap_all [4, 8] (by kernel_rfl) ⟨?_, ?_, trivial⟩
  refine apo_ao rfl ?_
  refine ao_call [] 3 trivial (c_spec_l12Do (is_mk r20h)) Try.func36 rfl rfl rfl rfl ⟨ad_ren rfl, ad_ren rfl, trivial⟩ trivial rfl rfl rfl rfl rfl rfl rfl (fun r' H' hr => ?_)
  obtain ⟨rfl, rfl⟩ := hr
  refine ao_norm (y := .tup [.st [.os 3, .int .i64 r20.1.2.1, .os 4, .int .i64 r20.1.2.2.2.1, .int .i64 r20.1.2.2.2.2.1, .int .i64 r20.1.2.2.2.2.2.1], .bool r20.2]) (H' := [(0, .var [.cell (.v ty9 x0), ci r19.2.1, .cell (.int .u64 r19.2.2)]), (1, .var [.cell (.nilsl), ci 0, .cell (.nilsl), ci 0, ci 0, ci 0]), (2, .var [.cell (.v ty5 s9.2.2.2.1), ci s9.2.2.2.2.1, .cell (.v ty7 s9.2.2.2.2.2.1), ci s9.2.2.2.2.2.2.1, ci s9.2.2.2.2.2.2.2.1, ci s9.2.2.2.2.2.2.2.2]), (3, .row ty8 r20.1.1), (4, .row ty11 r20.1.2.2.1)]) rfl rfl ?_
  refine row_len_o 3 (r20.1.1.length : Int) rfl rfl (fun hr21 => ?_)
  refine row_len_o 4 (r20.1.2.2.1.length : Int) rfl rfl (fun hr22 => ?_)
  refine ap_ni ?_
  refine ap_p 5 (fun _ _ _ h => h) rfl (by kernel_rfl) (rp_move rfl) rfl ?_
  refine ap_p 6 (fun _ _ _ h => h) rfl (by kernel_rfl) (rp_extract rfl rfl) rfl ?_
  refine ap_p 7 (fun _ _ _ h => h) rfl (by kernel_rfl) (rp_extract rfl rfl) rfl ?_
  exact ap_gr idn (nk1 rfl rfl) k27 (by kernel_rfl)
  refine apo_ao rfl ?_
  refine ao_eff trivial (e_alloc 3 (y := .st [.nilsl, .int .i64 0, .nilsl, .int .i64 0, .int .i64 0, .int .i64 0]) Try.zeroValue29 (fun ρ h M => ra_zero_st (t := ty1) rfl rfl rfl) rfl rfl rfl rfl rfl) rfl ?_
  refine ap_ni ?_
  exact ap_gr idn (nk1 rfl rfl) k29 (by kernel_rfl)
  refine ap_let (g := 7) (listed := #[true, true, true, false, false, false, false, false, true, false, false]) [(0, .ref 0 0), (2, .ref 1 0), (4, .ref 2 0), (5, .bool r5.2), (6, .int .i64 s9.1), (7, .ref 3 0), (27, .gd (decide (0 < s9.1)) (.bool r5.2)), (32, .v ty1 ((s9.2.2.2.1, (s9.2.2.2.2.1, (s9.2.2.2.2.2.1, (s9.2.2.2.2.2.2.1, (s9.2.2.2.2.2.2.2.1, (s9.2.2.2.2.2.2.2.2, ())))))) : dy3)), (33, .ref 0 0), (34, .v ty1 ((s9.2.2.2.1, (s9.2.2.2.2.1, (s9.2.2.2.2.2.1, (s9.2.2.2.2.2.2.1, (s9.2.2.2.2.2.2.2.1, (s9.2.2.2.2.2.2.2.2, ())))))) : dy3))] [(0, .var [.cell (.v ty9 x0), ci s9.2.1, .cell (.int .u64 s9.2.2.1)]), (1, .var [.cell (.nilsl), ci 0, .cell (.nilsl), ci 0, ci 0, ci 0]), (2, .var [.cell (.v ty5 s9.2.2.2.1), ci s9.2.2.2.2.1, .cell (.v ty7 s9.2.2.2.2.2.1), ci s9.2.2.2.2.2.2.1, ci s9.2.2.2.2.2.2.2.1, ci s9.2.2.2.2.2.2.2.2]), (3, .var [.cell (.nilsl), ci 0, .cell (.nilsl), ci 0, ci 0, ci 0])] ?_ (fun k30 => ?_)
  refine ap_all [3] (by kernel_rfl) ⟨?_, trivial⟩
  refine apo_ao rfl ?_
  refine ao_callV [0] 4 trivial (c_spec_l1Cur_task12 (is_mk r19h)) Try.func57 rfl rfl rfl rfl rfl ⟨rfl, trivial⟩ ⟨⟨_, rfl, ⟨ad_ren rfl, rfl, ad_ren rfl, rfl, ad_ren rfl, rfl, trivial⟩⟩, trivial⟩ rfl rfl rfl rfl rfl rfl rfl (fun r' H' hr => ?_)
  obtain ⟨rfl, rfl⟩ := hr
  refine ao_norm (y := .v ty4 r19.1) (H' := [(1, .var [.cell (.nilsl), ci 0, .cell (.nilsl), ci 0, ci 0, ci 0]), (2, .var [.cell (.v ty5 s9.2.2.2.1), ci s9.2.2.2.2.1, .cell (.v ty7 s9.2.2.2.2.2.1), ci s9.2.2.2.2.2.2.1, ci s9.2.2.2.2.2.2.2.1, ci s9.2.2.2.2.2.2.2.2]), (3, .var [.cell (.nilsl), ci 0, .cell (.nilsl), ci 0, ci 0, ci 0]), (0, .var [.cell (.v ty9 x0), ci r19.2.1, .cell (.int .u64 r19.2.2)])]) rfl rfl ?_
  refine ap_ni ?_
  exact ap_gr idn (nk1 rfl rfl) k29 (by kernel_rfl)
  refine ap_let (g := 7) (listed := #[false, true, true, true, false, false, false, false, true, false, false]) [(0, .ref 0 0), (2, .ref 1 0), (4, .ref 2 0), (5, .bool r5.2), (6, .int .i64 s9.1), (7, .ref 3 0), (27, .gd (decide (0 < s9.1)) (.bool r5.2)), (35, .v ty4 r19.1)] [(0, .var [.cell (.v ty9 x0), ci r19.2.1, .cell (.int .u64 r19.2.2)]), (1, .var [.cell (.nilsl), ci 0, .cell (.nilsl), ci 0, ci 0, ci 0]), (2, .var [.cell (.v ty5 s9.2.2.2.1), ci s9.2.2.2.2.1, .cell (.v ty7 s9.2.2.2.2.2.1), ci s9.2.2.2.2.2.2.1, ci s9.2.2.2.2.2.2.2.1, ci s9.2.2.2.2.2.2.2.2]), (3, .var [.cell (.nilsl), ci 0, .cell (.nilsl), ci 0, ci 0, ci 0])] ?_ (fun k34 => ?_)
  refine ap_all [0] (by kernel_rfl) ⟨?_, trivial⟩
  refine apo_ao rfl ?_
  refine ao_r (r_load_part (τ := ty1) (y := ((s9.2.2.2.1, (s9.2.2.2.2.1, (s9.2.2.2.2.2.1, (s9.2.2.2.2.2.2.1, (s9.2.2.2.2.2.2.2.1, (s9.2.2.2.2.2.2.2.2, ())))))) : dy3)) [] [] rfl Try.isAgg29 Try.sizeOf29 rfl rfl rfl rfl) rfl ?_
  refine ap_ni ?_
  exact ap_gr idn (nk1 rfl rfl) k29 (by kernel_rfl)
  refine ap_let (g := 8) (listed := #[true, true, true, false, false, false, false, false, false, false, false]) [(0, .ref 0 0), (2, .ref 1 0), (4, .ref 2 0), (5, .bool r5.2), (6, .int .i64 s9.1), (27, .gd (decide (0 < s9.1)) (.bool r5.2)), (32, .v ty1 ((s9.2.2.2.1, (s9.2.2.2.2.1, (s9.2.2.2.2.2.1, (s9.2.2.2.2.2.2.1, (s9.2.2.2.2.2.2.2.1, (s9.2.2.2.2.2.2.2.2, ())))))) : dy3)), (33, .ref 0 0), (34, .v ty1 ((s9.2.2.2.1, (s9.2.2.2.2.1, (s9.2.2.2.2.2.1, (s9.2.2.2.2.2.2.1, (s9.2.2.2.2.2.2.2.1, (s9.2.2.2.2.2.2.2.2, ())))))) : dy3))] [(0, .var [.cell (.v ty9 x0), ci s9.2.1, .cell (.int .u64 s9.2.2.1)]), (1, .var [.cell (.nilsl), ci 0, .cell (.nilsl), ci 0, ci 0, ci 0]), (2, .var [.cell (.v ty5 s9.2.2.2.1), ci s9.2.2.2.2.1, .cell (.v ty7 s9.2.2.2.2.2.1), ci s9.2.2.2.2.2.2.1, ci s9.2.2.2.2.2.2.2.1, ci s9.2.2.2.2.2.2.2.2])] ?_ (fun k25 => ?_)
  refine ap_all [3, 8] (by kernel_rfl) ⟨?_, ?_, trivial⟩
  refine apo_ao rfl ?_
  refine ao_callV [0] 3 trivial (c_spec_l1Cur_task12 (is_mk r19h)) Try.func57 rfl rfl rfl rfl rfl ⟨rfl, trivial⟩ ⟨⟨_, rfl, ⟨ad_ren rfl, rfl, ad_ren rfl, rfl, ad_ren rfl, rfl, trivial⟩⟩, trivial⟩ rfl rfl rfl rfl rfl rfl rfl (fun r' H' hr => ?_)
  obtain ⟨rfl, rfl⟩ := hr
  refine ao_norm (y := .v ty4 r19.1) (H' := [(1, .var [.cell (.nilsl), ci 0, .cell (.nilsl), ci 0, ci 0, ci 0]), (2, .var [.cell (.v ty5 s9.2.2.2.1), ci s9.2.2.2.2.1, .cell (.v ty7 s9.2.2.2.2.2.1), ci s9.2.2.2.2.2.2.1, ci s9.2.2.2.2.2.2.2.1, ci s9.2.2.2.2.2.2.2.2]), (0, .var [.cell (.v ty9 x0), ci r19.2.1, .cell (.int .u64 r19.2.2)])]) rfl rfl ?_
  refine ap_ni ?_
  exact ap_gr idn (nk1 rfl rfl) k26 (by kernel_rfl)
  refine apo_ao rfl ?_
  refine ao_eff trivial (e_alloc 3 (y := .st [.nilsl, .int .i64 0, .nilsl, .int .i64 0, .int .i64 0, .int .i64 0]) Try.zeroValue29 (fun ρ h M => ra_zero_st (t := ty1) rfl rfl rfl) rfl rfl rfl rfl rfl) rfl ?_
  refine ap_ni ?_
  exact ap_gr idn (nk1 rfl rfl) k30 (by kernel_rfl)
  refine ap_let (g := 8) (listed := #[true, true, false, false, false, false, false, false, true, false, false]) [(0, .ref 0 0), (2, .ref 1 0), (4, .ref 2 0), (5, .bool r5.2), (6, .int .i64 s9.1), (7, .ref 3 0), (27, .gd (decide (0 < s9.1)) (.bool r5.2)), (32, .v ty1 ((s9.2.2.2.1, (s9.2.2.2.2.1, (s9.2.2.2.2.2.1, (s9.2.2.2.2.2.2.1, (s9.2.2.2.2.2.2.2.1, (s9.2.2.2.2.2.2.2.2, ())))))) : dy3)), (33, .ref 0 0)] [(0, .var [.cell (.v ty9 x0), ci s9.2.1, .cell (.int .u64 s9.2.2.1)]), (1, .var [.cell (.nilsl), ci 0, .cell (.nilsl), ci 0, ci 0, ci 0]), (2, .var [.cell (.v ty5 s9.2.2.2.1), ci s9.2.2.2.2.1, .cell (.v ty7 s9.2.2.2.2.2.1), ci s9.2.2.2.2.2.2.1, ci s9.2.2.2.2.2.2.2.1, ci s9.2.2.2.2.2.2.2.2]), (3, .var [.cell (.nilsl), ci 0, .cell (.nilsl), ci 0, ci 0, ci 0])] ?_ (fun k31 => ?_)
  refine ap_all [2] (by kernel_rfl) ⟨?_, trivial⟩
  refine apo_ao rfl ?_
  refine ao_r (r_load_part (τ := ty1) (y := ((s9.2.2.2.1, (s9.2.2.2.2.1, (s9.2.2.2.2.2.1, (s9.2.2.2.2.2.2.1, (s9.2.2.2.2.2.2.2.1, (s9.2.2.2.2.2.2.2.2, ())))))) : dy3)) [] [] rfl Try.isAgg29 Try.sizeOf29 rfl rfl rfl rfl) rfl ?_
  refine ap_ni ?_
  exact ap_gr idn (nk1 rfl rfl) k30 (by kernel_rfl)
  refine ap_let (g := 8) (listed := #[false, true, true, true, false, false, false, false, false, false, false]) [(0, .ref 0 0), (2, .ref 1 0), (4, .ref 2 0), (5, .bool r5.2), (6, .int .i64 s9.1), (27, .gd (decide (0 < s9.1)) (.bool r5.2)), (35, .v ty4 r19.1)] [(0, .var [.cell (.v ty9 x0), ci r19.2.1, .cell (.int .u64 r19.2.2)]), (1, .var [.cell (.nilsl), ci 0, .cell (.nilsl), ci 0, ci 0, ci 0]), (2, .var [.cell (.v ty5 s9.2.2.2.1), ci s9.2.2.2.2.1, .cell (.v ty7 s9.2.2.2.2.2.1), ci s9.2.2.2.2.2.2.1, ci s9.2.2.2.2.2.2.2.1, ci s9.2.2.2.2.2.2.2.2])] ?_ (fun k33 => ?_)
  refine ap_all [0, 8] (by kernel_rfl) ⟨?_, ?_, trivial⟩
  refine apo_ao rfl ?_
  refine ao_r (r_load_part (τ := ty1) (y := ((s9.2.2.2.1, (s9.2.2.2.2.1, (s9.2.2.2.2.2.1, (s9.2.2.2.2.2.2.1, (s9.2.2.2.2.2.2.2.1, (s9.2.2.2.2.2.2.2.2, ())))))) : dy3)) [] [] rfl Try.isAgg29 Try.sizeOf29 rfl rfl rfl rfl) rfl ?_
  refine ap_ni ?_
  exact ap_gr idn (nk1 rfl rfl) k26 (by kernel_rfl)
  refine apo_ao rfl ?_
  refine ao_eff trivial (e_alloc 3 (y := .st [.nilsl, .int .i64 0, .nilsl, .int .i64 0, .int .i64 0, .int .i64 0]) Try.zeroValue29 (fun ρ h M => ra_zero_st (t := ty1) rfl rfl rfl) rfl rfl rfl rfl rfl) rfl ?_
  refine ap_ni ?_
  exact ap_gr idn (nk1 rfl rfl) k34 (by kernel_rfl)
  refine ap_let (g := 8) (listed := #[false, true, true, false, false, false, false, false, true, false, false]) [(0, .ref 0 0), (2, .ref 1 0), (4, .ref 2 0), (5, .bool r5.2), (6, .int .i64 s9.1), (7, .ref 3 0), (27, .gd (decide (0 < s9.1)) (.bool r5.2)), (33, .ref 0 0), (34, .v ty1 ((s9.2.2.2.1, (s9.2.2.2.2.1, (s9.2.2.2.2.2.1, (s9.2.2.2.2.2.2.1, (s9.2.2.2.2.2.2.2.1, (s9.2.2.2.2.2.2.2.2, ())))))) : dy3))] [(0, .var [.cell (.v ty9 x0), ci s9.2.1, .cell (.int .u64 s9.2.2.1)]), (1, .var [.cell (.nilsl), ci 0, .cell (.nilsl), ci 0, ci 0, ci 0]), (2, .var [.cell (.v ty5 s9.2.2.2.1), ci s9.2.2.2.2.1, .cell (.v ty7 s9.2.2.2.2.2.1), ci s9.2.2.2.2.2.2.1, ci s9.2.2.2.2.2.2.2.1, ci s9.2.2.2.2.2.2.2.2]), (3, .var [.cell (.nilsl), ci 0, .cell (.nilsl), ci 0, ci 0, ci 0])] ?_ (fun k35 => ?_)
  refine ap_all [0, 3] (by kernel_rfl) ⟨?_, ?_, trivial⟩
  refine apo_ao rfl ?_
  refine ao_r (r_load_part (τ := ty1) (y := ((s9.2.2.2.1, (s9.2.2.2.2.1, (s9.2.2.2.2.2.1, (s9.2.2.2.2.2.2.1, (s9.2.2.2.2.2.2.2.1, (s9.2.2.2.2.2.2.2.2, ())))))) : dy3)) [] [] rfl Try.isAgg29 Try.sizeOf29 rfl rfl rfl rfl) rfl ?_
  refine ap_ni ?_
  exact ap_gr idn (nk1 rfl rfl) k30 (by kernel_rfl)
  refine apo_ao rfl ?_
  refine ao_callV [0] 4 trivial (c_spec_l1Cur_task12 (is_mk r19h)) Try.func57 rfl rfl rfl rfl rfl ⟨rfl, trivial⟩ ⟨⟨_, rfl, ⟨ad_ren rfl, rfl, ad_ren rfl, rfl, ad_ren rfl, rfl, trivial⟩⟩, trivial⟩ rfl rfl rfl rfl rfl rfl rfl (fun r' H' hr => ?_)
  obtain ⟨rfl, rfl⟩ := hr
  refine ao_norm (y := .v ty4 r19.1) (H' := [(1, .var [.cell (.nilsl), ci 0, .cell (.nilsl), ci 0, ci 0, ci 0]), (2, .var [.cell (.v ty5 s9.2.2.2.1), ci s9.2.2.2.2.1, .cell (.v ty7 s9.2.2.2.2.2.1), ci s9.2.2.2.2.2.2.1, ci s9.2.2.2.2.2.2.2.1, ci s9.2.2.2.2.2.2.2.2]), (3, .var [.cell (.nilsl), ci 0, .cell (.nilsl), ci 0, ci 0, ci 0]), (0, .var [.cell (.v ty9 x0), ci r19.2.1, .cell (.int .u64 r19.2.2)])]) rfl rfl ?_
  refine ap_ni ?_
  exact ap_gr idn (nk1 rfl rfl) k34 (by kernel_rfl)
  refine ap_let (g := 9) (listed := #[true, true, false, false, false, false, false, false, false, false, false]) [(0, .ref 0 0), (2, .ref 1 0), (4, .ref 2 0), (5, .bool r5.2), (6, .int .i64 s9.1), (27, .gd (decide (0 < s9.1)) (.bool r5.2)), (32, .v ty1 ((s9.2.2.2.1, (s9.2.2.2.2.1, (s9.2.2.2.2.2.1, (s9.2.2.2.2.2.2.1, (s9.2.2.2.2.2.2.2.1, (s9.2.2.2.2.2.2.2.2, ())))))) : dy3)), (33, .ref 0 0)] [(0, .var [.cell (.v ty9 x0), ci s9.2.1, .cell (.int .u64 s9.2.2.1)]), (1, .var [.cell (.nilsl), ci 0, .cell (.nilsl), ci 0, ci 0, ci 0]), (2, .var [.cell (.v ty5 s9.2.2.2.1), ci s9.2.2.2.2.1, .cell (.v ty7 s9.2.2.2.2.2.1), ci s9.2.2.2.2.2.2.1, ci s9.2.2.2.2.2.2.2.1, ci s9.2.2.2.2.2.2.2.2])] ?_ (fun k24 => ?_)
  refine ap_all [2, 8] (by kernel_rfl) ⟨?_, ?_, trivial⟩
  refine apo_ao rfl ?_
  refine ao_r (r_load_part (τ := ty1) (y := ((s9.2.2.2.1, (s9.2.2.2.2.1, (s9.2.2.2.2.2.1, (s9.2.2.2.2.2.2.1, (s9.2.2.2.2.2.2.2.1, (s9.2.2.2.2.2.2.2.2, ())))))) : dy3)) [] [] rfl Try.isAgg29 Try.sizeOf29 rfl rfl rfl rfl) rfl ?_
  refine ap_ni ?_
  exact ap_gr idn (nk1 rfl rfl) k25 (by kernel_rfl)
  refine apo_ao rfl ?_
  refine ao_eff trivial (e_alloc 3 (y := .st [.nilsl, .int .i64 0, .nilsl, .int .i64 0, .int .i64 0, .int .i64 0]) Try.zeroValue29 (fun ρ h M => ra_zero_st (t := ty1) rfl rfl rfl) rfl rfl rfl rfl rfl) rfl ?_
  refine ap_ni ?_
  exact ap_gr idn (nk1 rfl rfl) k31 (by kernel_rfl)
  refine ap_let (g := 9) (listed := #[false, true, true, false, false, false, false, false, false, false, false]) [(0, .ref 0 0), (2, .ref 1 0), (4, .ref 2 0), (5, .bool r5.2), (6, .int .i64 s9.1), (27, .gd (decide (0 < s9.1)) (.bool r5.2)), (33, .ref 0 0), (34, .v ty1 ((s9.2.2.2.1, (s9.2.2.2.2.1, (s9.2.2.2.2.2.1, (s9.2.2.2.2.2.2.1, (s9.2.2.2.2.2.2.2.1, (s9.2.2.2.2.2.2.2.2, ())))))) : dy3))] [(0, .var [.cell (.v ty9 x0), ci s9.2.1, .cell (.int .u64 s9.2.2.1)]), (1, .var [.cell (.nilsl), ci 0, .cell (.nilsl), ci 0, ci 0, ci 0]), (2, .var [.cell (.v ty5 s9.2.2.2.1), ci s9.2.2.2.2.1, .cell (.v ty7 s9.2.2.2.2.2.1), ci s9.2.2.2.2.2.2.1, ci s9.2.2.2.2.2.2.2.1, ci s9.2.2.2.2.2.2.2.2])] ?_ (fun k32 => ?_)
  refine ap_all [0, 3, 8] (by kernel_rfl) ⟨?_, ?_, ?_, trivial⟩
  refine apo_ao rfl ?_
  refine ao_r (r_load_part (τ := ty1) (y := ((s9.2.2.2.1, (s9.2.2.2.2.1, (s9.2.2.2.2.2.1, (s9.2.2.2.2.2.2.1, (s9.2.2.2.2.2.2.2.1, (s9.2.2.2.2.2.2.2.2, ())))))) : dy3)) [] [] rfl Try.isAgg29 Try.sizeOf29 rfl rfl rfl rfl) rfl ?_
  refine ap_ni ?_
  exact ap_gr idn (nk1 rfl rfl) k25 (by kernel_rfl)
  refine apo_ao rfl ?_
  refine ao_callV [0] 3 trivial (c_spec_l1Cur_task12 (is_mk r19h)) Try.func57 rfl rfl rfl rfl rfl ⟨rfl, trivial⟩ ⟨⟨_, rfl, ⟨ad_ren rfl, rfl, ad_ren rfl, rfl, ad_ren rfl, rfl, trivial⟩⟩, trivial⟩ rfl rfl rfl rfl rfl rfl rfl (fun r' H' hr => ?_)
  obtain ⟨rfl, rfl⟩ := hr
  refine ao_norm (y := .v ty4 r19.1) (H' := [(1, .var [.cell (.nilsl), ci 0, .cell (.nilsl), ci 0, ci 0, ci 0]), (2, .var [.cell (.v ty5 s9.2.2.2.1), ci s9.2.2.2.2.1, .cell (.v ty7 s9.2.2.2.2.2.1), ci s9.2.2.2.2.2.2.1, ci s9.2.2.2.2.2.2.2.1, ci s9.2.2.2.2.2.2.2.2]), (0, .var [.cell (.v ty9 x0), ci r19.2.1, .cell (.int .u64 r19.2.2)])]) rfl rfl ?_
  refine ap_ni ?_
  exact ap_gr idn (nk1 rfl rfl) k33 (by kernel_rfl)
  refine apo_ao rfl ?_
  refine ao_eff trivial (e_alloc 3 (y := .st [.nilsl, .int .i64 0, .nilsl, .int .i64 0, .int .i64 0, .int .i64 0]) Try.zeroValue29 (fun ρ h M => ra_zero_st (t := ty1) rfl rfl rfl) rfl rfl rfl rfl rfl) rfl ?_
  refine ap_ni ?_
  exact ap_gr idn (nk1 rfl rfl) k35 (by kernel_rfl)
  refine ap_let (g := 9) (listed := #[false, true, false, false, false, false, false, false, true, false, false]) [(0, .ref 0 0), (2, .ref 1 0), (4, .ref 2 0), (5, .bool r5.2), (6, .int .i64 s9.1), (7, .ref 3 0), (27, .gd (decide (0 < s9.1)) (.bool r5.2)), (33, .ref 0 0)] [(0, .var [.cell (.v ty9 x0), ci s9.2.1, .cell (.int .u64 s9.2.2.1)]), (1, .var [.cell (.nilsl), ci 0, .cell (.nilsl), ci 0, ci 0, ci 0]), (2, .var [.cell (.v ty5 s9.2.2.2.1), ci s9.2.2.2.2.1, .cell (.v ty7 s9.2.2.2.2.2.1), ci s9.2.2.2.2.2.2.1, ci s9.2.2.2.2.2.2.2.1, ci s9.2.2.2.2.2.2.2.2]), (3, .var [.cell (.nilsl), ci 0, .cell (.nilsl), ci 0, ci 0, ci 0])] ?_ (fun k36 => ?_)
  refine ap_all [0, 2] (by kernel_rfl) ⟨?_, ?_, trivial⟩
  refine apo_ao rfl ?_
  refine ao_r (r_load_part (τ := ty1) (y := ((s9.2.2.2.1, (s9.2.2.2.2.1, (s9.2.2.2.2.2.1, (s9.2.2.2.2.2.2.1, (s9.2.2.2.2.2.2.2.1, (s9.2.2.2.2.2.2.2.2, ())))))) : dy3)) [] [] rfl Try.isAgg29 Try.sizeOf29 rfl rfl rfl rfl) rfl ?_
  refine ap_ni ?_
  exact ap_gr idn (nk1 rfl rfl) k31 (by kernel_rfl)
  refine apo_ao rfl ?_
  refine ao_r (r_load_part (τ := ty1) (y := ((s9.2.2.2.1, (s9.2.2.2.2.1, (s9.2.2.2.2.2.1, (s9.2.2.2.2.2.2.1, (s9.2.2.2.2.2.2.2.1, (s9.2.2.2.2.2.2.2.2, ())))))) : dy3)) [] [] rfl Try.isAgg29 Try.sizeOf29 rfl rfl rfl rfl) rfl ?_
  refine ap_ni ?_
  exact ap_gr idn (nk1 rfl rfl) k35 (by kernel_rfl)
  refine ap_let (g := 10) (listed := #[false, true, false, false, false, false, false, false, false, false, false]) [(0, .ref 0 0), (2, .ref 1 0), (4, .ref 2 0), (5, .bool r5.2), (6, .int .i64 s9.1), (27, .gd (decide (0 < s9.1)) (.bool r5.2)), (33, .ref 0 0)] [(0, .var [.cell (.v ty9 x0), ci s9.2.1, .cell (.int .u64 s9.2.2.1)]), (1, .var [.cell (.nilsl), ci 0, .cell (.nilsl), ci 0, ci 0, ci 0]), (2, .var [.cell (.v ty5 s9.2.2.2.1), ci s9.2.2.2.2.1, .cell (.v ty7 s9.2.2.2.2.2.1), ci s9.2.2.2.2.2.2.1, ci s9.2.2.2.2.2.2.2.1, ci s9.2.2.2.2.2.2.2.2])] ?_ (fun k23 => ?_)
  refine ap_all [0, 2, 8] (by kernel_rfl) ⟨?_, ?_, ?_, trivial⟩
  refine apo_ao rfl ?_
  refine ao_r (r_load_part (τ := ty1) (y := ((s9.2.2.2.1, (s9.2.2.2.2.1, (s9.2.2.2.2.2.1, (s9.2.2.2.2.2.2.1, (s9.2.2.2.2.2.2.2.1, (s9.2.2.2.2.2.2.2.2, ())))))) : dy3)) [] [] rfl Try.isAgg29 Try.sizeOf29 rfl rfl rfl rfl) rfl ?_
  refine ap_ni ?_
  exact ap_gr idn (nk1 rfl rfl) k24 (by kernel_rfl)
  refine apo_ao rfl ?_
  refine ao_r (r_load_part (τ := ty1) (y := ((s9.2.2.2.1, (s9.2.2.2.2.1, (s9.2.2.2.2.2.1, (s9.2.2.2.2.2.2.1, (s9.2.2.2.2.2.2.2.1, (s9.2.2.2.2.2.2.2.2, ())))))) : dy3)) [] [] rfl Try.isAgg29 Try.sizeOf29 rfl rfl rfl rfl) rfl ?_
  refine ap_ni ?_
  exact ap_gr idn (nk1 rfl rfl) k32 (by kernel_rfl)
  refine apo_ao rfl ?_
  refine ao_eff trivial (e_alloc 3 (y := .st [.nilsl, .int .i64 0, .nilsl, .int .i64 0, .int .i64 0, .int .i64 0]) Try.zeroValue29 (fun ρ h M => ra_zero_st (t := ty1) rfl rfl rfl) rfl rfl rfl rfl rfl) rfl ?_
  refine ap_ni ?_
  exact ap_gr idn (nk1 rfl rfl) k36 (by kernel_rfl)
  refine ap_p 1 (fun _ _ _ h => h) rfl (by kernel_rfl) (rp_move rfl) rfl ?_
  exact ap_gr idn (nk1 rfl rfl) k23 (by kernel_rfl)
  replace h := is_else (ne_t hb15) h
  refine aw_exit ?_
  refine aq_then_exit ?_
  refine aq_then_exit ?_
  refine aq_in_exit ?_
  refine aq_then ?_
  refine aw_seq ?_
  refine aw_seq ?_
  refine aw_region ?_
  refine ao_r (r_move rfl) rfl ?_
  obtain ⟨r40, r40h, h⟩ := is_bind h
  refine ao_callV [0] 3 trivial (c_spec_l1Cur_pick (is_mk r40h)) Try.func58 rfl rfl rfl rfl rfl ⟨rfl, trivial⟩ ⟨⟨_, rfl, ⟨ad_ren rfl, rfl, ad_ren rfl, rfl, ad_ren rfl, rfl, trivial⟩⟩, trivial⟩ rfl rfl rfl rfl rfl rfl rfl (fun r' H' hr => ?_)
  obtain ⟨rfl, rfl⟩ := hr
  refine ao_norm (y := .int .i64 r40.1) (H' := [(1, .var [.cell (.nilsl), ci 0, .cell (.nilsl), ci 0, ci 0, ci 0]), (2, .var [.cell (.v ty5 s9.2.2.2.1), ci s9.2.2.2.2.1, .cell (.v ty7 s9.2.2.2.2.2.1), ci s9.2.2.2.2.2.2.1, ci s9.2.2.2.2.2.2.2.1, ci s9.2.2.2.2.2.2.2.2]), (0, .var [.cell (.v ty9 x0), ci r40.2.1, .cell (.int .u64 r40.2.2)])]) rfl rfl ?_
  refine ao_nil ?_
  refine aq_then ?_
  refine aw_block ?_
  refine aw_seq ?_
  refine aw_region ?_
  refine ao_r (r_eql rfl rfl) rfl ?_
  refine ao_r (r_assign rfl) rfl ?_
  refine ao_nil ?_
  refine aq_then ?_
  refine aw_cond rfl (fun hb41 => ?_) (fun hb41 => ?_)
  have q42 := d_t hb41
  replace h := is_if (d_t hb41) h
  refine aw_region ?_
  refine ao_r (r_move rfl) rfl ?_
  refine ao_eff trivial (e_buildSlice (l := [(0, .const (.int .i64 (-1))), (1, .const (.int .i64 1000)), (2, .const (.int .i64 1001))]) (t := ty11) 3 ([(-1), 1000, 1001] : dy12) rfl Try.underlying23 Try.zeroValue3 Try.sizeOf3 rfl rfl rfl rfl rfl rfl rfl) rfl ?_
  obtain ⟨r44, r44h, h⟩ := is_bind h
  refine ao_frz (fr' := [(0, .ref 0 0), (2, .ref 1 0), (4, .ref 2 0), (5, .bool r5.2), (6, .int .i64 s9.1), (24, .int .i64 s9.1), (25, .bool (decide (0 < s9.1))), (26, .bool (decide (0 < s9.1))), (27, .gd (decide (0 < s9.1)) (.bool r5.2)), (28, .bool ((decide (0 < s9.1)) && r5.2)), (41, .ref 0 0), (42, .int .i64 r40.1), (44, .bool (decide (r40.1 = 0))), (43, .bool (decide (r40.1 = 0))), (45, .ref 0 0), (46, .v ty7 ([(-1), 1000, 1001] : dy12))]) (H' := [(1, .var [.cell (.nilsl), ci 0, .cell (.nilsl), ci 0, ci 0, ci 0]), (2, .var [.cell (.v ty5 s9.2.2.2.1), ci s9.2.2.2.2.1, .cell (.v ty7 s9.2.2.2.2.2.1), ci s9.2.2.2.2.2.2.1, ci s9.2.2.2.2.2.2.2.1, ci s9.2.2.2.2.2.2.2.2]), (0, .var [.cell (.v ty9 x0), ci r40.2.1, .cell (.int .u64 r40.2.2)])]) (by exact ⟨⟨_, rfl, ad_ren rfl⟩, ⟨_, rfl, ad_ren rfl⟩, ⟨_, rfl, ad_ren rfl⟩, ⟨_, rfl, ad_ren rfl⟩, ⟨_, rfl, ad_ren rfl⟩, ⟨_, rfl, ad_ren rfl⟩, ⟨_, rfl, ad_ren rfl⟩, ⟨_, rfl, ad_ren rfl⟩, ⟨_, rfl, ad_ren rfl⟩, ⟨_, rfl, ad_ren rfl⟩, ⟨_, rfl, ad_ren rfl⟩, ⟨_, rfl, ad_ren rfl⟩, ⟨_, rfl, ad_ren rfl⟩, ⟨_, rfl, ad_ren rfl⟩, ⟨_, rfl, ad_ren rfl⟩, ⟨_, rfl, ad_osB rfl rfl⟩, trivial⟩) (by exact ⟨⟨_, rfl, ⟨ad_ren rfl, rfl, ad_ren rfl, rfl, ad_ren rfl, rfl, ad_ren rfl, rfl, ad_ren rfl, rfl, ad_ren rfl, rfl, trivial⟩⟩, ⟨_, rfl, ⟨ad_ren rfl, rfl, ad_ren rfl, rfl, ad_ren rfl, rfl, ad_ren rfl, rfl, ad_ren rfl, rfl, ad_ren rfl, rfl, trivial⟩⟩, ⟨_, rfl, ⟨ad_ren rfl, rfl, ad_ren rfl, rfl, ad_ren rfl, rfl, trivial⟩⟩, trivial⟩) rfl ?_
  refine ao_callV [0] 4 trivial (c_spec_l1Cur_among (is_mk r44h)) Try.func49 rfl rfl rfl rfl rfl ⟨rfl, trivial⟩ ⟨⟨_, rfl, ⟨ad_ren rfl, rfl, ad_ren rfl, rfl, ad_ren rfl, rfl, trivial⟩⟩, trivial⟩ rfl rfl rfl rfl rfl rfl rfl (fun r' H' hr => ?_)
  obtain ⟨rfl, rfl⟩ := hr
  refine ao_norm (y := .int .i64 r44.1) (H' := [(1, .var [.cell (.nilsl), ci 0, .cell (.nilsl), ci 0, ci 0, ci 0]), (2, .var [.cell (.v ty5 s9.2.2.2.1), ci s9.2.2.2.2.1, .cell (.v ty7 s9.2.2.2.2.2.1), ci s9.2.2.2.2.2.2.1, ci s9.2.2.2.2.2.2.2.1, ci s9.2.2.2.2.2.2.2.2]), (0, .var [.cell (.v ty9 x0), ci r44.2.1, .cell (.int .u64 r44.2.2)])]) rfl rfl ?_
  refine ao_r (r_fieldAddr Try.underlying29 rfl Try.sizeOf3 rfl rfl rfl) rfl ?_
  refine ao_effS trivial (e_store rfl rfl rfl rfl Try.sizeOf3 rfl) ?_
  refine ao_nil ?_
  refine aq_in ?_
  refine aq_then ?_
  refine aw_seq ?_
  refine aw_region ?_
  refine ao_r (r_load_part (τ := ty1) (y := ((s9.2.2.2.1, (s9.2.2.2.2.1, (s9.2.2.2.2.2.1, (s9.2.2.2.2.2.2.1, (s9.2.2.2.2.2.2.2.1, (r44.1, ())))))) : dy3)) [] [] rfl Try.isAgg29 Try.sizeOf29 rfl rfl rfl rfl) rfl ?_
  refine ao_effS trivial (e_store rfl rfl rfl rfl Try.sizeOf29 rfl) ?_
  refine ao_nil ?_
  refine aq_then ?_
  refine aw_ret ?_
  refine aq_ret ?_
  obtain rfl := is_some h
  exact aq_finV (l := [.cell 2 29]) (xs := [.st [.v ty5 s9.2.2.2.1, .int .i64 s9.2.2.2.2.1, .v ty7 s9.2.2.2.2.2.1, .int .i64 s9.2.2.2.2.2.2.1, .int .i64 s9.2.2.2.2.2.2.2.1, .int .i64 r44.1]]) idn [.v ty1 ((s9.2.2.2.1, (s9.2.2.2.2.1, (s9.2.2.2.2.2.1, (s9.2.2.2.2.2.2.1, (s9.2.2.2.2.2.2.2.1, (r44.1, ())))))) : dy3)] [(0, .var [.cell (.v ty9 x0), ci r44.2.1, .cell (.int .u64 r44.2.2)])] rfl (by exact ⟨⟨⟨_, _, rfl⟩, r_load_st [] [.cell (.v ty5 s9.2.2.2.1), ci s9.2.2.2.2.1, .cell (.v ty7 s9.2.2.2.2.2.1), ci s9.2.2.2.2.2.2.1, ci s9.2.2.2.2.2.2.2.1, ci r44.1] [] Try.isAgg29 Try.sizeOf29 rfl rfl rfl rfl rfl rfl rfl⟩, trivial⟩) (by exact ⟨ad_st rfl rfl ⟨ad_ren rfl, ad_ren rfl, ad_ren rfl, ad_ren rfl, ad_ren rfl, ad_ren rfl, trivial⟩, trivial⟩) (by exact ⟨⟨_, rfl, ⟨ad_ren rfl, rfl, ad_ren rfl, rfl, ad_ren rfl, rfl, trivial⟩⟩, trivial⟩) rfl (nk1 rfl rfl) ⟨rfl, rfl⟩
  have q43 := d_f hb41
  replace h := is_else (d_f hb41) h
  refine aw_seq ?_
  refine aw_region ?_
  refine ao_r (r_eql rfl rfl) rfl ?_
  refine ao_r (r_assign rfl) rfl ?_
  refine ao_nil ?_
  refine aq_then ?_
  refine aw_cond rfl (fun hb45 => ?_) (fun hb45 => ?_)
  have q46 := d_t hb45
  replace h := is_if (d_t hb45) h
  refine aw_region ?_
  refine ao_r (r_move rfl) rfl ?_
  refine ao_eff trivial (e_buildSlice (l := [(0, .const (.int .i64 (-1))), (1, .const (.int .i64 100000)), (2, .const (.int .i64 100001)), (3, .const (.int .i64 99999))]) (t := ty11) 3 ([(-1), 100000, 100001, 99999] : dy12) rfl Try.underlying23 Try.zeroValue3 Try.sizeOf3 rfl rfl rfl rfl rfl rfl rfl) rfl ?_
  obtain ⟨r48, r48h, h⟩ := is_bind h
  refine ao_frz (fr' := [(0, .ref 0 0), (2, .ref 1 0), (4, .ref 2 0), (5, .bool r5.2), (6, .int .i64 s9.1), (24, .int .i64 s9.1), (25, .bool (decide (0 < s9.1))), (26, .bool (decide (0 < s9.1))), (27, .gd (decide (0 < s9.1)) (.bool r5.2)), (28, .bool ((decide (0 < s9.1)) && r5.2)), (41, .ref 0 0), (42, .int .i64 r40.1), (44, .bool (decide (r40.1 = 0))), (43, .bool (decide (r40.1 = 0))), (50, .bool (decide (r40.1 = 1))), (49, .bool (decide (r40.1 = 1))), (51, .ref 0 0), (52, .v ty7 ([(-1), 100000, 100001, 99999] : dy12))]) (H' := [(1, .var [.cell (.nilsl), ci 0, .cell (.nilsl), ci 0, ci 0, ci 0]), (2, .var [.cell (.v ty5 s9.2.2.2.1), ci s9.2.2.2.2.1, .cell (.v ty7 s9.2.2.2.2.2.1), ci s9.2.2.2.2.2.2.1, ci s9.2.2.2.2.2.2.2.1, ci s9.2.2.2.2.2.2.2.2]), (0, .var [.cell (.v ty9 x0), ci r40.2.1, .cell (.int .u64 r40.2.2)])]) (by exact ⟨⟨_, rfl, ad_ren rfl⟩, ⟨_, rfl, ad_ren rfl⟩, ⟨_, rfl, ad_ren rfl⟩, ⟨_, rfl, ad_ren rfl⟩, ⟨_, rfl, ad_ren rfl⟩, ⟨_, rfl, ad_ren rfl⟩, ⟨_, rfl, ad_ren rfl⟩, ⟨_, rfl, ad_ren rfl⟩, ⟨_, rfl, ad_ren rfl⟩, ⟨_, rfl, ad_ren rfl⟩, ⟨_, rfl, ad_ren rfl⟩, ⟨_, rfl, ad_ren rfl⟩, ⟨_, rfl, ad_ren rfl⟩, ⟨_, rfl, ad_ren rfl⟩, ⟨_, rfl, ad_ren rfl⟩, ⟨_, rfl, ad_ren rfl⟩, ⟨_, rfl, ad_ren rfl⟩, ⟨_, rfl, ad_osB rfl rfl⟩, trivial⟩) (by exact ⟨⟨_, rfl, ⟨ad_ren rfl, rfl, ad_ren rfl, rfl, ad_ren rfl, rfl, ad_ren rfl, rfl, ad_ren rfl, rfl, ad_ren rfl, rfl, trivial⟩⟩, ⟨_, rfl, ⟨ad_ren rfl, rfl, ad_ren rfl, rfl, ad_ren rfl, rfl, ad_ren rfl, rfl, ad_ren rfl, rfl, ad_ren rfl, rfl, trivial⟩⟩, ⟨_, rfl, ⟨ad_ren rfl, rfl, ad_ren rfl, rfl, ad_ren rfl, rfl, trivial⟩⟩, trivial⟩) rfl ?_
  refine ao_callV [0] 4 trivial (c_spec_l1Cur_among (is_mk r48h)) Try.func49 rfl rfl rfl rfl rfl ⟨rfl, trivial⟩ ⟨⟨_, rfl, ⟨ad_ren rfl, rfl, ad_ren rfl, rfl, ad_ren rfl, rfl, trivial⟩⟩, trivial⟩ rfl rfl rfl rfl rfl rfl rfl (fun r' H' hr => ?_)
  obtain ⟨rfl, rfl⟩ := hr
  refine ao_norm (y := .int .i64 r48.1) (H' := [(1, .var [.cell (.nilsl), ci 0, .cell (.nilsl), ci 0, ci 0, ci 0]), (2, .var [.cell (.v ty5 s9.2.2.2.1), ci s9.2.2.2.2.1, .cell (.v ty7 s9.2.2.2.2.2.1), ci s9.2.2.2.2.2.2.1, ci s9.2.2.2.2.2.2.2.1, ci s9.2.2.2.2.2.2.2.2]), (0, .var [.cell (.v ty9 x0), ci r48.2.1, .cell (.int .u64 r48.2.2)])]) rfl rfl ?_
  refine ao_r (r_fieldAddr Try.underlying29 rfl Try.sizeOf3 rfl rfl rfl) rfl ?_
  refine ao_effS trivial (e_store rfl rfl rfl rfl Try.sizeOf3 rfl) ?_
  refine ao_nil ?_
  refine aq_in ?_
  refine aq_then ?_
  refine aw_seq ?_
  refine aw_region ?_
  refine ao_r (r_load_part (τ := ty1) (y := ((s9.2.2.2.1, (s9.2.2.2.2.1, (s9.2.2.2.2.2.1, (r48.1, (s9.2.2.2.2.2.2.2.1, (s9.2.2.2.2.2.2.2.2, ())))))) : dy3)) [] [] rfl Try.isAgg29 Try.sizeOf29 rfl rfl rfl rfl) rfl ?_
  refine ao_effS trivial (e_store rfl rfl rfl rfl Try.sizeOf29 rfl) ?_
  refine ao_nil ?_
  refine aq_then ?_
  refine aw_ret ?_
  refine aq_ret ?_
  obtain rfl := is_some h
  exact aq_finV (l := [.cell 2 29]) (xs := [.st [.v ty5 s9.2.2.2.1, .int .i64 s9.2.2.2.2.1, .v ty7 s9.2.2.2.2.2.1, .int .i64 r48.1, .int .i64 s9.2.2.2.2.2.2.2.1, .int .i64 s9.2.2.2.2.2.2.2.2]]) idn [.v ty1 ((s9.2.2.2.1, (s9.2.2.2.2.1, (s9.2.2.2.2.2.1, (r48.1, (s9.2.2.2.2.2.2.2.1, (s9.2.2.2.2.2.2.2.2, ())))))) : dy3)] [(0, .var [.cell (.v ty9 x0), ci r48.2.1, .cell (.int .u64 r48.2.2)])] rfl (by exact ⟨⟨⟨_, _, rfl⟩, r_load_st [] [.cell (.v ty5 s9.2.2.2.1), ci s9.2.2.2.2.1, .cell (.v ty7 s9.2.2.2.2.2.1), ci r48.1, ci s9.2.2.2.2.2.2.2.1, ci s9.2.2.2.2.2.2.2.2] [] Try.isAgg29 Try.sizeOf29 rfl rfl rfl rfl rfl rfl rfl⟩, trivial⟩) (by exact ⟨ad_st rfl rfl ⟨ad_ren rfl, ad_ren rfl, ad_ren rfl, ad_ren rfl, ad_ren rfl, ad_ren rfl, trivial⟩, trivial⟩) (by exact ⟨⟨_, rfl, ⟨ad_ren rfl, rfl, ad_ren rfl, rfl, ad_ren rfl, rfl, trivial⟩⟩, trivial⟩) rfl (nk1 rfl rfl) ⟨rfl, rfl⟩
  have q47 := d_f hb45
  replace h := is_else (d_f hb45) h
  refine aw_seq ?_
  refine aw_region ?_
  refine ao_r (r_eql rfl rfl) rfl ?_
  refine ao_r (r_assign rfl) rfl ?_
  refine ao_nil ?_
  refine aq_then ?_
  refine aw_cond rfl (fun hb49 => ?_) (fun hb49 => ?_)
  have q50 := d_t hb49
  replace h := is_if (d_t hb49) h
  refine aw_region ?_
  refine ao_r (r_move rfl) rfl ?_
  refine ao_eff trivial (e_buildSlice (l := [(0, .const (.int .i64 (-1))), (1, .const (.int .i64 121)), (2, .const (.int .i64 120))]) (t := ty11) 3 ([(-1), 121, 120] : dy12) rfl Try.underlying23 Try.zeroValue3 Try.sizeOf3 rfl rfl rfl rfl rfl rfl rfl) rfl ?_
  obtain ⟨r52, r52h, h⟩ := is_bind h
  refine ao_frz (fr' := [(0, .ref 0 0), (2, .ref 1 0), (4, .ref 2 0), (5, .bool r5.2), (6, .int .i64 s9.1), (24, .int .i64 s9.1), (25, .bool (decide (0 < s9.1))), (26, .bool (decide (0 < s9.1))), (27, .gd (decide (0 < s9.1)) (.bool r5.2)), (28, .bool ((decide (0 < s9.1)) && r5.2)), (41, .ref 0 0), (42, .int .i64 r40.1), (44, .bool (decide (r40.1 = 0))), (43, .bool (decide (r40.1 = 0))), (50, .bool (decide (r40.1 = 1))), (49, .bool (decide (r40.1 = 1))), (56, .bool (decide (r40.1 = 2))), (55, .bool (decide (r40.1 = 2))), (57, .ref 0 0), (58, .v ty7 ([(-1), 121, 120] : dy12))]) (H' := [(1, .var [.cell (.nilsl), ci 0, .cell (.nilsl), ci 0, ci 0, ci 0]), (2, .var [.cell (.v ty5 s9.2.2.2.1), ci s9.2.2.2.2.1, .cell (.v ty7 s9.2.2.2.2.2.1), ci s9.2.2.2.2.2.2.1, ci s9.2.2.2.2.2.2.2.1, ci s9.2.2.2.2.2.2.2.2]), (0, .var [.cell (.v ty9 x0), ci r40.2.1, .cell (.int .u64 r40.2.2)])]) (by exact ⟨⟨_, rfl, ad_ren rfl⟩, ⟨_, rfl, ad_ren rfl⟩, ⟨_, rfl, ad_ren rfl⟩, ⟨_, rfl, ad_ren rfl⟩, ⟨_, rfl, ad_ren rfl⟩, ⟨_, rfl, ad_ren rfl⟩, ⟨_, rfl, ad_ren rfl⟩, ⟨_, rfl, ad_ren rfl⟩, ⟨_, rfl, ad_ren rfl⟩, ⟨_, rfl, ad_ren rfl⟩, ⟨_, rfl, ad_ren rfl⟩, ⟨_, rfl, ad_ren rfl⟩, ⟨_, rfl, ad_ren rfl⟩, ⟨_, rfl, ad_ren rfl⟩, ⟨_, rfl, ad_ren rfl⟩, ⟨_, rfl, ad_ren rfl⟩, ⟨_, rfl, ad_ren rfl⟩, ⟨_, rfl, ad_ren rfl⟩, ⟨_, rfl, ad_ren rfl⟩, ⟨_, rfl, ad_osB rfl rfl⟩, trivial⟩) (by exact ⟨⟨_, rfl, ⟨ad_ren rfl, rfl, ad_ren rfl, rfl, ad_ren rfl, rfl, ad_ren rfl, rfl, ad_ren rfl, rfl, ad_ren rfl, rfl, trivial⟩⟩, ⟨_, rfl, ⟨ad_ren rfl, rfl, ad_ren rfl, rfl, ad_ren rfl, rfl, ad_ren rfl, rfl, ad_ren rfl, rfl, ad_ren rfl, rfl, trivial⟩⟩, ⟨_, rfl, ⟨ad_ren rfl, rfl, ad_ren rfl, rfl, ad_ren rfl, rfl, trivial⟩⟩, trivial⟩) rfl ?_
  refine ao_callV [0] 4 trivial (c_spec_l1Cur_among (is_mk r52h)) Try.func49 rfl rfl rfl rfl rfl ⟨rfl, trivial⟩ ⟨⟨_, rfl, ⟨ad_ren rfl, rfl, ad_ren rfl, rfl, ad_ren rfl, rfl, trivial⟩⟩, trivial⟩ rfl rfl rfl rfl rfl rfl rfl (fun r' H' hr => ?_)
  obtain ⟨rfl, rfl⟩ := hr
  refine ao_norm (y := .int .i64 r52.1) (H' := [(1, .var [.cell (.nilsl), ci 0, .cell (.nilsl), ci 0, ci 0, ci 0]), (2, .var [.cell (.v ty5 s9.2.2.2.1), ci s9.2.2.2.2.1, .cell (.v ty7 s9.2.2.2.2.2.1), ci s9.2.2.2.2.2.2.1, ci s9.2.2.2.2.2.2.2.1, ci s9.2.2.2.2.2.2.2.2]), (0, .var [.cell (.v ty9 x0), ci r52.2.1, .cell (.int .u64 r52.2.2)])]) rfl rfl ?_
  refine ao_r (r_fieldAddr Try.underlying29 rfl Try.sizeOf3 rfl rfl rfl) rfl ?_
  refine ao_effS trivial (e_store rfl rfl rfl rfl Try.sizeOf3 rfl) ?_
  refine ao_nil ?_
  refine aq_in ?_
  refine aq_then ?_
  refine aw_seq ?_
  refine aw_region ?_
  refine ao_r (r_load_part (τ := ty1) (y := ((s9.2.2.2.1, (s9.2.2.2.2.1, (s9.2.2.2.2.2.1, (s9.2.2.2.2.2.2.1, (r52.1, (s9.2.2.2.2.2.2.2.2, ())))))) : dy3)) [] [] rfl Try.isAgg29 Try.sizeOf29 rfl rfl rfl rfl) rfl ?_
  refine ao_effS trivial (e_store rfl rfl rfl rfl Try.sizeOf29 rfl) ?_
  refine ao_nil ?_
  refine aq_then ?_
  refine aw_ret ?_
  refine aq_ret ?_
  obtain rfl := is_some h
  exact aq_finV (l := [.cell 2 29]) (xs := [.st [.v ty5 s9.2.2.2.1, .int .i64 s9.2.2.2.2.1, .v ty7 s9.2.2.2.2.2.1, .int .i64 s9.2.2.2.2.2.2.1, .int .i64 r52.1, .int .i64 s9.2.2.2.2.2.2.2.2]]) idn [.v ty1 ((s9.2.2.2.1, (s9.2.2.2.2.1, (s9.2.2.2.2.2.1, (s9.2.2.2.2.2.2.1, (r52.1, (s9.2.2.2.2.2.2.2.2, ())))))) : dy3)] [(0, .var [.cell (.v ty9 x0), ci r52.2.1, .cell (.int .u64 r52.2.2)])] rfl (by exact ⟨⟨⟨_, _, rfl⟩, r_load_st [] [.cell (.v ty5 s9.2.2.2.1), ci s9.2.2.2.2.1, .cell (.v ty7 s9.2.2.2.2.2.1), ci s9.2.2.2.2.2.2.1, ci r52.1, ci s9.2.2.2.2.2.2.2.2] [] Try.isAgg29 Try.sizeOf29 rfl rfl rfl rfl rfl rfl rfl⟩, trivial⟩) (by exact ⟨ad_st rfl rfl ⟨ad_ren rfl, ad_ren rfl, ad_ren rfl, ad_ren rfl, ad_ren rfl, ad_ren rfl, trivial⟩, trivial⟩) (by exact ⟨⟨_, rfl, ⟨ad_ren rfl, rfl, ad_ren rfl, rfl, ad_ren rfl, rfl, trivial⟩⟩, trivial⟩) rfl (nk1 rfl rfl) ⟨rfl, rfl⟩
  have q51 := d_f hb49
  replace h := is_else (d_f hb49) h
  refine aw_seq ?_
  refine aw_region ?_
  refine ao_r (r_eql rfl rfl) rfl ?_
  refine ao_r (r_assign rfl) rfl ?_
  refine ao_nil ?_
  refine aq_then ?_
  refine aw_cond rfl (fun hb53 => ?_) (fun hb53 => ?_)
  have q54 := d_t hb53
  replace h := is_if (d_t hb53) h
  refine aw_region ?_
  refine ao_r (r_move rfl) rfl ?_
  refine ao_eff trivial (e_buildSlice (l := [(0, .const (.int .i64 (-1))), (1, .const (.int .i64 65535)), (2, .const (.int .i64 65536))]) (t := ty11) 3 ([(-1), 65535, 65536] : dy12) rfl Try.underlying23 Try.zeroValue3 Try.sizeOf3 rfl rfl rfl rfl rfl rfl rfl) rfl ?_
  obtain ⟨r56, r56h, h⟩ := is_bind h
  refine ao_frz (fr' := [(0, .ref 0 0), (2, .ref 1 0), (4, .ref 2 0), (5, .bool r5.2), (6, .int .i64 s9.1), (24, .int .i64 s9.1), (25, .bool (decide (0 < s9.1))), (26, .bool (decide (0 < s9.1))), (27, .gd (decide (0 < s9.1)) (.bool r5.2)), (28, .bool ((decide (0 < s9.1)) && r5.2)), (41, .ref 0 0), (42, .int .i64 r40.1), (44, .bool (decide (r40.1 = 0))), (43, .bool (decide (r40.1 = 0))), (50, .bool (decide (r40.1 = 1))), (49, .bool (decide (r40.1 = 1))), (56, .bool (decide (r40.1 = 2))), (55, .bool (decide (r40.1 = 2))), (62, .bool (decide (r40.1 = 3))), (61, .bool (decide (r40.1 = 3))), (63, .ref 0 0), (64, .v ty7 ([(-1), 65535, 65536] : dy12))]) (H' := [(1, .var [.cell (.nilsl), ci 0, .cell (.nilsl), ci 0, ci 0, ci 0]), (2, .var [.cell (.v ty5 s9.2.2.2.1), ci s9.2.2.2.2.1, .cell (.v ty7 s9.2.2.2.2.2.1), ci s9.2.2.2.2.2.2.1, ci s9.2.2.2.2.2.2.2.1, ci s9.2.2.2.2.2.2.2.2]), (0, .var [.cell (.v ty9 x0), ci r40.2.1, .cell (.int .u64 r40.2.2)])]) (by exact ⟨⟨_, rfl, ad_ren rfl⟩, ⟨_, rfl, ad_ren rfl⟩, ⟨_, rfl, ad_ren rfl⟩, ⟨_, rfl, ad_ren rfl⟩, ⟨_, rfl, ad_ren rfl⟩, ⟨_, rfl, ad_ren rfl⟩, ⟨_, rfl, ad_ren rfl⟩, ⟨_, rfl, ad_ren rfl⟩, ⟨_, rfl, ad_ren rfl⟩, ⟨_, rfl, ad_ren rfl⟩, ⟨_, rfl, ad_ren rfl⟩, ⟨_, rfl, ad_ren rfl⟩, ⟨_, rfl, ad_ren rfl⟩, ⟨_, rfl, ad_ren rfl⟩, ⟨_, rfl, ad_ren rfl⟩, ⟨_, rfl, ad_ren rfl⟩, ⟨_, rfl, ad_ren rfl⟩, ⟨_, rfl, ad_ren rfl⟩, ⟨_, rfl, ad_ren rfl⟩, ⟨_, rfl, ad_ren rfl⟩, ⟨_, rfl, ad_ren rfl⟩, ⟨_, rfl, ad_osB rfl rfl⟩, trivial⟩) (by exact ⟨⟨_, rfl, ⟨ad_ren rfl, rfl, ad_ren rfl, rfl, ad_ren rfl, rfl, ad_ren rfl, rfl, ad_ren rfl, rfl, ad_ren rfl, rfl, trivial⟩⟩, ⟨_, rfl, ⟨ad_ren rfl, rfl, ad_ren rfl, rfl, ad_ren rfl, rfl, ad_ren rfl, rfl, ad_ren rfl, rfl, ad_ren rfl, rfl, trivial⟩⟩, ⟨_, rfl, ⟨ad_ren rfl, rfl, ad_ren rfl, rfl, ad_ren rfl, rfl, trivial⟩⟩, trivial⟩) rfl ?_
  refine ao_callV [0] 4 trivial (c_spec_l1Cur_among (is_mk r56h)) Try.func49 rfl rfl rfl rfl rfl ⟨rfl, trivial⟩ ⟨⟨_, rfl, ⟨ad_ren rfl, rfl, ad_ren rfl, rfl, ad_ren rfl, rfl, trivial⟩⟩, trivial⟩ rfl rfl rfl rfl rfl rfl rfl (fun r' H' hr => ?_)
  obtain ⟨rfl, rfl⟩ := hr
  refine ao_norm (y := .int .i64 r56.1) (H' := [(1, .var [.cell (.nilsl), ci 0, .cell (.nilsl), ci 0, ci 0, ci 0]), (2, .var [.cell (.v ty5 s9.2.2.2.1), ci s9.2.2.2.2.1, .cell (.v ty7 s9.2.2.2.2.2.1), ci s9.2.2.2.2.2.2.1, ci s9.2.2.2.2.2.2.2.1, ci s9.2.2.2.2.2.2.2.2]), (0, .var [.cell (.v ty9 x0), ci r56.2.1, .cell (.int .u64 r56.2.2)])]) rfl rfl ?_
  refine ao_r (r_fieldAddr Try.underlying29 rfl Try.sizeOf3 rfl rfl rfl) rfl ?_
  refine ao_effS trivial (e_store rfl rfl rfl rfl Try.sizeOf3 rfl) ?_
  refine ao_nil ?_
  refine aq_in ?_
  refine aq_then ?_
  refine aw_seq ?_
  refine aw_region ?_
  refine ao_r (r_load_part (τ := ty1) (y := ((s9.2.2.2.1, (r56.1, (s9.2.2.2.2.2.1, (s9.2.2.2.2.2.2.1, (s9.2.2.2.2.2.2.2.1, (s9.2.2.2.2.2.2.2.2, ())))))) : dy3)) [] [] rfl Try.isAgg29 Try.sizeOf29 rfl rfl rfl rfl) rfl ?_
  refine ao_effS trivial (e_store rfl rfl rfl rfl Try.sizeOf29 rfl) ?_
  refine ao_nil ?_
  refine aq_then ?_
  refine aw_ret ?_
  refine aq_ret ?_
  obtain rfl := is_some h
  exact aq_finV (l := [.cell 2 29]) (xs := [.st [.v ty5 s9.2.2.2.1, .int .i64 r56.1, .v ty7 s9.2.2.2.2.2.1, .int .i64 s9.2.2.2.2.2.2.1, .int .i64 s9.2.2.2.2.2.2.2.1, .int .i64 s9.2.2.2.2.2.2.2.2]]) idn [.v ty1 ((s9.2.2.2.1, (r56.1, (s9.2.2.2.2.2.1, (s9.2.2.2.2.2.2.1, (s9.2.2.2.2.2.2.2.1, (s9.2.2.2.2.2.2.2.2, ())))))) : dy3)] [(0, .var [.cell (.v ty9 x0), ci r56.2.1, .cell (.int .u64 r56.2.2)])] rfl (by exact ⟨⟨⟨_, _, rfl⟩, r_load_st [] [.cell (.v ty5 s9.2.2.2.1), ci r56.1, .cell (.v ty7 s9.2.2.2.2.2.1), ci s9.2.2.2.2.2.2.1, ci s9.2.2.2.2.2.2.2.1, ci s9.2.2.2.2.2.2.2.2] [] Try.isAgg29 Try.sizeOf29 rfl rfl rfl rfl rfl rfl rfl⟩, trivial⟩) (by exact ⟨ad_st rfl rfl ⟨ad_ren rfl, ad_ren rfl, ad_ren rfl, ad_ren rfl, ad_ren rfl, ad_ren rfl, trivial⟩, trivial⟩) (by exact ⟨⟨_, rfl, ⟨ad_ren rfl, rfl, ad_ren rfl, rfl, ad_ren rfl, rfl, trivial⟩⟩, trivial⟩) rfl (nk1 rfl rfl) ⟨rfl, rfl⟩
  have q55 := d_f hb53
  replace h := is_else (d_f hb53) h
  refine aw_seq ?_
  refine aw_region ?_
  refine ao_r (r_eql rfl rfl) rfl ?_
  refine ao_r (r_assign rfl) rfl ?_
  refine ao_nil ?_
  refine aq_then ?_
  refine aw_cond rfl (fun hb57 => ?_) (fun hb57 => ?_)
  have q58 := d_t hb57
  replace h := is_if (d_t hb57) h
  refine aw_region ?_
  refine ao_r (r_fieldAddr Try.underlying29 rfl Try.sizeOf23 rfl rfl rfl) rfl ?_
  refine ao_r (r_load_cell Try.isAgg23 rfl rfl rfl) rfl ?_
  obtain ⟨r60, r60h, h⟩ := is_bind h
  refine ao_call [] 3 trivial (c_spec_l1Own (is_mk r60h)) Try.func69 rfl rfl rfl rfl ⟨ad_ren rfl, trivial⟩ trivial rfl rfl rfl rfl rfl rfl rfl (fun r' H' hr => ?_)
  obtain ⟨rfl, rfl⟩ := hr
  refine ao_norm (y := .os 3) (H' := [(1, .var [.cell (.nilsl), ci 0, .cell (.nilsl), ci 0, ci 0, ci 0]), (2, .var [.cell (.v ty5 s9.2.2.2.1), ci s9.2.2.2.2.1, .cell (.v ty7 s9.2.2.2.2.2.1), ci s9.2.2.2.2.2.2.1, ci s9.2.2.2.2.2.2.2.1, ci s9.2.2.2.2.2.2.2.2]), (0, .var [.cell (.v ty9 x0), ci r40.2.1, .cell (.int .u64 r40.2.2)]), (3, .row ty11 r60)]) rfl rfl ?_
  refine row_len_o 3 (r60.length : Int) rfl rfl (fun hr61 => ?_)
  refine ao_r (r_move rfl) rfl ?_
  obtain ⟨r62, r62h, h⟩ := is_bind h
  refine ao_callV [0] 4 trivial (c_spec_l1Cur_face (is_mk r62h)) Try.func76 rfl rfl rfl rfl rfl ⟨rfl, trivial⟩ ⟨⟨_, rfl, ⟨ad_ren rfl, rfl, ad_ren rfl, rfl, ad_ren rfl, rfl, trivial⟩⟩, trivial⟩ rfl rfl rfl rfl rfl rfl rfl (fun r' H' hr => ?_)
  obtain ⟨rfl, rfl⟩ := hr
  refine ao_norm (y := .int .i64 r62.1) (H' := [(1, .var [.cell (.nilsl), ci 0, .cell (.nilsl), ci 0, ci 0, ci 0]), (2, .var [.cell (.v ty5 s9.2.2.2.1), ci s9.2.2.2.2.1, .cell (.v ty7 s9.2.2.2.2.2.1), ci s9.2.2.2.2.2.2.1, ci s9.2.2.2.2.2.2.2.1, ci s9.2.2.2.2.2.2.2.2]), (3, .row ty11 r60), (0, .var [.cell (.v ty9 x0), ci r62.2.1, .cell (.int .u64 r62.2.2)])]) rfl rfl ?_
  refine ao_eff trivial (e_buildSlice (l := [(0, .tmp 73)]) (t := ty11) 4 ([r62.1] : dy12) rfl Try.underlying23 Try.zeroValue3 Try.sizeOf3 rfl rfl rfl rfl rfl rfl rfl) rfl ?_
  obtain ⟨g63, h⟩ := is_guard h
  refine ao_eff trivial (e_append (t := ty11) 5 rfl Try.underlying23 (rfl : Try.prog.info? 3 = some _) rfl rfl rfl rfl rfl rfl rfl (src_os rfl) (show r60.length + ([r62.1] : dy12).length ≤ 1000000000 from by (try simp only [List.length_cons, List.length_nil]) <;> omega) rfl rfl) rfl ?_
  refine ao_r (r_fieldAddr Try.underlying29 rfl Try.sizeOf23 rfl rfl rfl) rfl ?_
  refine ao_effS trivial (e_store rfl rfl rfl rfl Try.sizeOf23 rfl) ?_
  refine ao_nil ?_
  refine aq_in ?_
  refine aq_then ?_
  refine aw_seq ?_
  refine aw_region ?_
  refine ao_r (r_load_st [] [.cell (.v ty5 s9.2.2.2.1), ci s9.2.2.2.2.1, .cell (.os 5), ci s9.2.2.2.2.2.2.1, ci s9.2.2.2.2.2.2.2.1, ci s9.2.2.2.2.2.2.2.2] [] Try.isAgg29 Try.sizeOf29 rfl rfl rfl rfl rfl rfl rfl) rfl ?_
  refine ao_effS trivial (e_store rfl rfl rfl rfl Try.sizeOf29 rfl) ?_
  refine ao_nil ?_
  refine aq_then ?_
  refine aw_ret ?_
  refine aq_ret ?_
  obtain rfl := is_some h
  exact aq_finV (l := [.cell 2 29]) (xs := [.st [.v ty5 s9.2.2.2.1, .int .i64 s9.2.2.2.2.1, .os 5, .int .i64 s9.2.2.2.2.2.2.1, .int .i64 s9.2.2.2.2.2.2.2.1, .int .i64 s9.2.2.2.2.2.2.2.2]]) idn [.v ty1 ((s9.2.2.2.1, (s9.2.2.2.2.1, ((r60 ++ [r62.1]), (s9.2.2.2.2.2.2.1, (s9.2.2.2.2.2.2.2.1, (s9.2.2.2.2.2.2.2.2, ())))))) : dy3)] [(0, .var [.cell (.v ty9 x0), ci r62.2.1, .cell (.int .u64 r62.2.2)])] rfl (by exact ⟨⟨⟨_, _, rfl⟩, r_load_st [] [.cell (.v ty5 s9.2.2.2.1), ci s9.2.2.2.2.1, .cell (.os 5), ci s9.2.2.2.2.2.2.1, ci s9.2.2.2.2.2.2.2.1, ci s9.2.2.2.2.2.2.2.2] [] Try.isAgg29 Try.sizeOf29 rfl rfl rfl rfl rfl rfl rfl⟩, trivial⟩) (by exact ⟨ad_st rfl rfl ⟨ad_ren rfl, ad_ren rfl, ad_osB rfl rfl, ad_ren rfl, ad_ren rfl, ad_ren rfl, trivial⟩, trivial⟩) (by exact ⟨⟨_, rfl, ⟨ad_ren rfl, rfl, ad_ren rfl, rfl, ad_ren rfl, rfl, trivial⟩⟩, trivial⟩) rfl (nk1 rfl rfl) ⟨rfl, rfl⟩
  have q59 := d_f hb57
  replace h := is_else (d_f hb57) h
  refine aw_skip ?_
  refine aq_in ?_
  refine aq_then ?_
  refine aw_seq ?_
  refine aw_region ?_
  refine ao_r (r_load_part (τ := ty1) (y := ((s9.2.2.2.1, (s9.2.2.2.2.1, (s9.2.2.2.2.2.1, (s9.2.2.2.2.2.2.1, (s9.2.2.2.2.2.2.2.1, (s9.2.2.2.2.2.2.2.2, ())))))) : dy3)) [] [] rfl Try.isAgg29 Try.sizeOf29 rfl rfl rfl rfl) rfl ?_
  refine ao_effS trivial (e_store rfl rfl rfl rfl Try.sizeOf29 rfl) ?_
  refine ao_nil ?_
  refine aq_then ?_
  refine aw_ret ?_
  refine aq_ret ?_
  obtain rfl := is_some h
  exact aq_finV (l := [.cell 2 29]) (xs := [.st [.v ty5 s9.2.2.2.1, .int .i64 s9.2.2.2.2.1, .v ty7 s9.2.2.2.2.2.1, .int .i64 s9.2.2.2.2.2.2.1, .int .i64 s9.2.2.2.2.2.2.2.1, .int .i64 s9.2.2.2.2.2.2.2.2]]) idn [.v ty1 ((s9.2.2.2.1, (s9.2.2.2.2.1, (s9.2.2.2.2.2.1, (s9.2.2.2.2.2.2.1, (s9.2.2.2.2.2.2.2.1, (s9.2.2.2.2.2.2.2.2, ())))))) : dy3)] [(0, .var [.cell (.v ty9 x0), ci r40.2.1, .cell (.int .u64 r40.2.2)])] rfl (by exact ⟨⟨⟨_, _, rfl⟩, r_load_st [] [.cell (.v ty5 s9.2.2.2.1), ci s9.2.2.2.2.1, .cell (.v ty7 s9.2.2.2.2.2.1), ci s9.2.2.2.2.2.2.1, ci s9.2.2.2.2.2.2.2.1, ci s9.2.2.2.2.2.2.2.2] [] Try.isAgg29 Try.sizeOf29 rfl rfl rfl rfl rfl rfl rfl⟩, trivial⟩) (by exact ⟨ad_st rfl rfl ⟨ad_ren rfl, ad_ren rfl, ad_ren rfl, ad_ren rfl, ad_ren rfl, ad_ren rfl, trivial⟩, trivial⟩) (by exact ⟨⟨_, rfl, ⟨ad_ren rfl, rfl, ad_ren rfl, rfl, ad_ren rfl, rfl, trivial⟩⟩, trivial⟩) rfl (nk1 rfl rfl) ⟨rfl, rfl⟩
theorem c_spec_DrawDoTask {fu : Nat} {x0 : dy12} {r : dy3 × dy6} (h : Is (p_spec_DrawDoTask fu x0) (some r)) :
    ACallsV Try.prog 26 [.v ty9 x0] [] (fun r' H' => r' = .tup [.v ty1 r.1, .v ty4 r.2] ∧ H' = []) := by
  unfold p_spec_DrawDoTask at h
  refine ac_enterV ⟨15, 0⟩ Try.func26 rfl rfl rfl rfl rfl (fun Γ => ?_)
  refine sl_len_m 0 (x0.length : Int) rfl rfl (fun hl0 => ?_)
  refine aw_seq ?_
  refine aw_region ?_
  refine ao_eff trivial (e_alloc 0 (y := .st [.nilsl, .int .i64 0, .nilsl, .int .i64 0, .int .i64 0, .int .i64 0]) Try.zeroValue29 (fun ρ h M => ra_zero_st (t := ty1) rfl rfl rfl) rfl rfl rfl rfl rfl) rfl ?_
  refine ao_eff trivial (e_alloc 1 (y := .st [.int .i64 0, .int .i64 0, .int .i64 0]) Try.zeroValue33 (fun ρ h M => ra_zero_st (t := ty4) rfl rfl rfl) rfl rfl rfl rfl rfl) rfl ?_
  refine ao_nil ?_
  refine aq_then ?_
  refine aw_seq ?_
  refine aw_region ?_
  refine ao_r (r_move rfl) rfl ?_
  refine ao_r (r_build_st (l := [(0, .tmp 6)]) (cs := [.cell (.v ty9 x0), ci 0, .cell (.int .u64 0)]) (.pair ty9 (.pair ty11 (.pair (.int .u64) .unit))) [(0, 1), (1, 1), (2, 1)] Try.underlying73 Try.zeroValue73 rfl ⟨rfl, Try.sizeOf47, rfl, Try.sizeOf3, rfl, Try.sizeOf71, trivial⟩ rfl rfl rfl) rfl ?_
  refine ao_eff trivial (e_box 2 rfl rfl rfl rfl rfl rfl) rfl ?_
  refine ao_r (r_assign rfl) rfl ?_
  refine ao_nil ?_
  refine aq_then ?_
  refine aw_seq ?_
  refine aw_region ?_
  refine ao_r (r_move rfl) rfl ?_
  obtain ⟨r1, r1h, h⟩ := is_bind h
  refine ao_callV [2] 3 trivial (c_spec_l1Cur_tavern (is_mk r1h)) Try.func56 rfl rfl rfl rfl rfl ⟨rfl, trivial⟩ ⟨⟨_, rfl, ⟨ad_ren rfl, rfl, ad_ren rfl, rfl, ad_ren rfl, rfl, trivial⟩⟩, trivial⟩ rfl rfl rfl rfl rfl rfl rfl (fun r' H' hr => ?_)
  obtain ⟨rfl, rfl⟩ := hr
  refine ao_norm (y := .v ty1 r1.1) (H' := [(1, .var [ci 0, ci 0, ci 0]), (0, .var [.cell (.nilsl), ci 0, .cell (.nilsl), ci 0, ci 0, ci 0]), (2, .var [.cell (.v ty9 x0), ci r1.2.1, .cell (.int .u64 r1.2.2)])]) rfl rfl ?_
  refine ao_eff trivial (e_alloc 3 (y := .st [.nilsl, .int .i64 0, .nilsl, .int .i64 0, .int .i64 0, .int .i64 0]) Try.zeroValue29 (fun ρ h M => ra_zero_st (t := ty1) rfl rfl rfl) rfl rfl rfl rfl rfl) rfl ?_
  refine ao_effS trivial (e_store rfl rfl rfl rfl Try.sizeOf29 rfl) ?_
  refine ao_nil ?_
  refine aq_then ?_
  refine aw_seq ?_
  obtain ⟨r2, r2h, h⟩ := is_bind h
  refine aw_drawP 6 rfl (by kernel_rfl) ?_
  refine ap_to [(2, .ref 0 0), (3, .ref 1 0)] [(0, .var [.cell (.v ty5 r1.1.1), ci r1.1.2.1, .cell (.v ty7 r1.1.2.2.1), ci r1.1.2.2.2.1, ci r1.1.2.2.2.2.1, ci r1.1.2.2.2.2.2.1]), (1, .var [ci r2.1.1, ci r2.1.2.1, ci r2.1.2.2.1])] ?_ (fun key => ?_)
  refine aq_then ?_
  refine aw_ret ?_
  refine aq_ret ?_
  obtain rfl := is_some h
  exact aq_finV (l := [.cell 2 29, .cell 3 33]) (xs := [.st [.v ty5 r1.1.1, .int .i64 r1.1.2.1, .v ty7 r1.1.2.2.1, .int .i64 r1.1.2.2.2.1, .int .i64 r1.1.2.2.2.2.1, .int .i64 r1.1.2.2.2.2.2.1], .st [.int .i64 r2.1.1, .int .i64 r2.1.2.1, .int .i64 r2.1.2.2.1]]) idn [.v ty1 ((r1.1.1, (r1.1.2.1, (r1.1.2.2.1, (r1.1.2.2.2.1, (r1.1.2.2.2.2.1, (r1.1.2.2.2.2.2.1, ())))))) : dy3), .v ty4 ((r2.1.1, (r2.1.2.1, (r2.1.2.2.1, ()))) : dy6)] [] rfl (by exact ⟨⟨⟨_, _, rfl⟩, r_load_st [] [.cell (.v ty5 r1.1.1), ci r1.1.2.1, .cell (.v ty7 r1.1.2.2.1), ci r1.1.2.2.2.1, ci r1.1.2.2.2.2.1, ci r1.1.2.2.2.2.2.1] [] Try.isAgg29 Try.sizeOf29 rfl rfl rfl rfl rfl rfl rfl⟩, ⟨⟨_, _, rfl⟩, r_load_st [] [ci r2.1.1, ci r2.1.2.1, ci r2.1.2.2.1] [] Try.isAgg33 Try.sizeOf33 rfl rfl rfl rfl rfl rfl rfl⟩, trivial⟩) (by exact ⟨ad_st rfl rfl ⟨ad_ren rfl, ad_ren rfl, ad_ren rfl, ad_ren rfl, ad_ren rfl, ad_ren rfl, trivial⟩, ad_st rfl rfl ⟨ad_ren rfl, ad_ren rfl, ad_ren rfl, trivial⟩, trivial⟩) (by exact trivial) rfl (nk rfl) ⟨rfl, rfl⟩
  refine ap_let (g := 1) (listed := #[true, true, true, true, true, false]) [(2, .ref 0 0), (3, .ref 1 0), (14, .v ty4 r2.1)] [(0, .var [.cell (.v ty5 r1.1.1), ci r1.1.2.1, .cell (.v ty7 r1.1.2.2.1), ci r1.1.2.2.2.1, ci r1.1.2.2.2.2.1, ci r1.1.2.2.2.2.2.1]), (1, .var [ci 0, ci 0, ci 0])] ?_ (fun k7 => ?_)
  refine ap_all [5] (by kernel_rfl) ⟨?_, trivial⟩
  refine apo_ao rfl ?_
  refine ao_effS trivial (e_store rfl rfl rfl rfl Try.sizeOf33 rfl) ?_
  refine ap_ni ?_
  exact ap_end (by kernel_rfl) (AQ.sub (sub_r1 idn (nk rfl) (by kernel_rfl)) key)
  refine ap_let (g := 2) (listed := #[true, true, true, true, false, false]) [(2, .ref 0 0), (3, .ref 1 0), (11, .v ty1 ((r1.1.1, (r1.1.2.1, (r1.1.2.2.1, (r1.1.2.2.2.1, (r1.1.2.2.2.2.1, (r1.1.2.2.2.2.2.1, ())))))) : dy3)), (14, .v ty4 r2.1)] [(0, .var [.cell (.nilsl), ci 0, .cell (.nilsl), ci 0, ci 0, ci 0]), (1, .var [ci 0, ci 0, ci 0])] ?_ (fun k6 => ?_)
  refine ap_all [4] (by kernel_rfl) ⟨?_, trivial⟩
  refine apo_ao rfl ?_
  refine ao_effS trivial (e_store rfl rfl rfl rfl Try.sizeOf29 rfl) ?_
  refine ap_ni ?_
  exact ap_gr idn (nk rfl) k7 (by kernel_rfl)
  refine ap_let (g := 3) (listed := #[true, true, true, false, false, false]) [(2, .ref 0 0), (3, .ref 1 0), (11, .v ty1 ((r1.1.1, (r1.1.2.1, (r1.1.2.2.1, (r1.1.2.2.2.1, (r1.1.2.2.2.2.1, (r1.1.2.2.2.2.2.1, ())))))) : dy3)), (12, .ref 2 0), (13, .v ty1 ((r1.1.1, (r1.1.2.1, (r1.1.2.2.1, (r1.1.2.2.2.1, (r1.1.2.2.2.2.1, (r1.1.2.2.2.2.2.1, ())))))) : dy3))] [(0, .var [.cell (.nilsl), ci 0, .cell (.nilsl), ci 0, ci 0, ci 0]), (1, .var [ci 0, ci 0, ci 0]), (2, .var [.cell (.v ty9 x0), ci r1.2.1, .cell (.int .u64 r1.2.2)])] ?_ (fun k5 => ?_)
  refine ap_all [3] (by kernel_rfl) ⟨?_, trivial⟩
  refine apo_ao rfl ?_
  refine ao_callV [2] 3 trivial (c_spec_l1Cur_task12 (is_mk r2h)) Try.func57 rfl rfl rfl rfl rfl ⟨rfl, trivial⟩ ⟨⟨_, rfl, ⟨ad_ren rfl, rfl, ad_ren rfl, rfl, ad_ren rfl, rfl, trivial⟩⟩, trivial⟩ rfl rfl rfl rfl rfl rfl rfl (fun r' H' hr => ?_)
  obtain ⟨rfl, rfl⟩ := hr
  refine ao_norm (y := .v ty4 r2.1) (H' := [(0, .var [.cell (.nilsl), ci 0, .cell (.nilsl), ci 0, ci 0, ci 0]), (1, .var [ci 0, ci 0, ci 0]), (2, .var [.cell (.v ty9 x0), ci r2.2.1, .cell (.int .u64 r2.2.2)])]) rfl rfl ?_
  refine ap_ni ?_
  exact ap_gr idn (nk rfl) k6 (by kernel_rfl)
  refine ap_let (g := 3) (listed := #[false, true, true, true, false, false]) [(2, .ref 0 0), (3, .ref 1 0), (5, .ref 2 0), (14, .v ty4 r2.1)] [(0, .var [.cell (.nilsl), ci 0, .cell (.nilsl), ci 0, ci 0, ci 0]), (1, .var [ci 0, ci 0, ci 0]), (2, .var [.cell (.v ty5 r1.1.1), ci r1.1.2.1, .cell (.v ty7 r1.1.2.2.1), ci r1.1.2.2.2.1, ci r1.1.2.2.2.2.1, ci r1.1.2.2.2.2.2.1])] ?_ (fun k9 => ?_)
  refine ap_all [0] (by kernel_rfl) ⟨?_, trivial⟩
  refine apo_ao rfl ?_
  refine ao_r (r_load_part (τ := ty1) (y := ((r1.1.1, (r1.1.2.1, (r1.1.2.2.1, (r1.1.2.2.2.1, (r1.1.2.2.2.2.1, (r1.1.2.2.2.2.2.1, ())))))) : dy3)) [] [] rfl Try.isAgg29 Try.sizeOf29 rfl rfl rfl rfl) rfl ?_
  refine ap_ni ?_
  exact ap_gr idn (nk rfl) k6 (by kernel_rfl)
  refine ap_let (g := 4) (listed := #[true, true, false, false, false, false]) [(2, .ref 0 0), (3, .ref 1 0), (5, .ref 2 0), (11, .v ty1 ((r1.1.1, (r1.1.2.1, (r1.1.2.2.1, (r1.1.2.2.2.1, (r1.1.2.2.2.2.1, (r1.1.2.2.2.2.2.1, ())))))) : dy3)), (12, .ref 3 0)] [(0, .var [.cell (.nilsl), ci 0, .cell (.nilsl), ci 0, ci 0, ci 0]), (1, .var [ci 0, ci 0, ci 0]), (2, .var [.cell (.v ty5 r1.1.1), ci r1.1.2.1, .cell (.v ty7 r1.1.2.2.1), ci r1.1.2.2.2.1, ci r1.1.2.2.2.2.1, ci r1.1.2.2.2.2.2.1]), (3, .var [.cell (.v ty9 x0), ci r1.2.1, .cell (.int .u64 r1.2.2)])] ?_ (fun k4 => ?_)
  refine ap_all [2] (by kernel_rfl) ⟨?_, trivial⟩
  refine apo_ao rfl ?_
  refine ao_r (r_load_part (τ := ty1) (y := ((r1.1.1, (r1.1.2.1, (r1.1.2.2.1, (r1.1.2.2.2.1, (r1.1.2.2.2.2.1, (r1.1.2.2.2.2.2.1, ())))))) : dy3)) [] [] rfl Try.isAgg29 Try.sizeOf29 rfl rfl rfl rfl) rfl ?_
  refine ap_ni ?_
  exact ap_gr (rn [(2, 3)]) (nk rfl) k5 (by kernel_rfl)
  refine ap_let (g := 4) (listed := #[false, true, true, false, false, false]) [(2, .ref 0 0), (3, .ref 1 0), (5, .ref 2 0), (12, .ref 3 0), (13, .v ty1 ((r1.1.1, (r1.1.2.1, (r1.1.2.2.1, (r1.1.2.2.2.1, (r1.1.2.2.2.2.1, (r1.1.2.2.2.2.2.1, ())))))) : dy3))] [(0, .var [.cell (.nilsl), ci 0, .cell (.nilsl), ci 0, ci 0, ci 0]), (1, .var [ci 0, ci 0, ci 0]), (2, .var [.cell (.v ty5 r1.1.1), ci r1.1.2.1, .cell (.v ty7 r1.1.2.2.1), ci r1.1.2.2.2.1, ci r1.1.2.2.2.2.1, ci r1.1.2.2.2.2.2.1]), (3, .var [.cell (.v ty9 x0), ci r1.2.1, .cell (.int .u64 r1.2.2)])] ?_ (fun k8 => ?_)
  refine ap_all [0, 3] (by kernel_rfl) ⟨?_, ?_, trivial⟩
  refine apo_ao rfl ?_
  refine ao_r (r_load_part (τ := ty1) (y := ((r1.1.1, (r1.1.2.1, (r1.1.2.2.1, (r1.1.2.2.2.1, (r1.1.2.2.2.2.1, (r1.1.2.2.2.2.2.1, ())))))) : dy3)) [] [] rfl Try.isAgg29 Try.sizeOf29 rfl rfl rfl rfl) rfl ?_
  refine ap_ni ?_
  exact ap_gr (rn [(2, 3)]) (nk rfl) k5 (by kernel_rfl)
  refine apo_ao rfl ?_
  refine ao_callV [3] 4 trivial (c_spec_l1Cur_task12 (is_mk r2h)) Try.func57 rfl rfl rfl rfl rfl ⟨rfl, trivial⟩ ⟨⟨_, rfl, ⟨ad_ren rfl, rfl, ad_ren rfl, rfl, ad_ren rfl, rfl, trivial⟩⟩, trivial⟩ rfl rfl rfl rfl rfl rfl rfl (fun r' H' hr => ?_)
  obtain ⟨rfl, rfl⟩ := hr
  refine ao_norm (y := .v ty4 r2.1) (H' := [(0, .var [.cell (.nilsl), ci 0, .cell (.nilsl), ci 0, ci 0, ci 0]), (1, .var [ci 0, ci 0, ci 0]), (2, .var [.cell (.v ty5 r1.1.1), ci r1.1.2.1, .cell (.v ty7 r1.1.2.2.1), ci r1.1.2.2.2.1, ci r1.1.2.2.2.2.1, ci r1.1.2.2.2.2.2.1]), (3, .var [.cell (.v ty9 x0), ci r2.2.1, .cell (.int .u64 r2.2.2)])]) rfl rfl ?_
  refine ap_ni ?_
  exact ap_gr idn (nk rfl) k9 (by kernel_rfl)
  refine ap_let (g := 5) (listed := #[false, true, false, false, false, false]) [(2, .ref 0 0), (3, .ref 1 0), (5, .ref 2 0), (12, .ref 3 0)] [(0, .var [.cell (.nilsl), ci 0, .cell (.nilsl), ci 0, ci 0, ci 0]), (1, .var [ci 0, ci 0, ci 0]), (2, .var [.cell (.v ty5 r1.1.1), ci r1.1.2.1, .cell (.v ty7 r1.1.2.2.1), ci r1.1.2.2.2.1, ci r1.1.2.2.2.2.1, ci r1.1.2.2.2.2.2.1]), (3, .var [.cell (.v ty9 x0), ci r1.2.1, .cell (.int .u64 r1.2.2)])] ?_ (fun k3 => ?_)
  refine ap_all [0, 2] (by kernel_rfl) ⟨?_, ?_, trivial⟩
  refine apo_ao rfl ?_
  refine ao_r (r_load_part (τ := ty1) (y := ((r1.1.1, (r1.1.2.1, (r1.1.2.2.1, (r1.1.2.2.2.1, (r1.1.2.2.2.2.1, (r1.1.2.2.2.2.2.1, ())))))) : dy3)) [] [] rfl Try.isAgg29 Try.sizeOf29 rfl rfl rfl rfl) rfl ?_
  refine ap_ni ?_
  exact ap_gr idn (nk rfl) k4 (by kernel_rfl)
  refine apo_ao rfl ?_
  refine ao_r (r_load_part (τ := ty1) (y := ((r1.1.1, (r1.1.2.1, (r1.1.2.2.1, (r1.1.2.2.2.1, (r1.1.2.2.2.2.1, (r1.1.2.2.2.2.2.1, ())))))) : dy3)) [] [] rfl Try.isAgg29 Try.sizeOf29 rfl rfl rfl rfl) rfl ?_
  refine ap_ni ?_
  exact ap_gr idn (nk rfl) k8 (by kernel_rfl)
  refine ap_p 1 (fun _ _ _ h => h) rfl (by kernel_rfl) (rp_move rfl) rfl ?_
  exact ap_gr (rn [(2, 3), (3, 2)]) (nk rfl) k3 (by kernel_rfl)
theorem c_slices_Clone_int_int {x0 : dy12} {r : dy12} (h : Is (p_slices_Clone_int_int x0) (some r)) :
    ACalls Try.prog 70 [.v ty7 x0] [] (fun r' H' => r' = .os 0 ∧ H' = [(0, .row ty11 r)]) := by
  unfold p_slices_Clone_int_int at h
  refine ac_enter ⟨8, 0⟩ Try.func70 rfl rfl rfl rfl rfl (fun Γ => ?_)
  refine sl_len_m 0 (x0.length : Int) rfl rfl (fun hl0 => ?_)
  refine aw_seq ?_
  refine aw_region ?_
  refine ao_r (r_assign rfl) rfl ?_
  refine ao_nil ?_
  refine aq_then ?_
  refine aw_seq ?_
  refine aw_seq ?_
  refine aw_region ?_
  refine ao_r (r_move rfl) rfl ?_
  refine ao_eqnil trivial Try.underlying23 rfl rfl rfl (fun b1 hn2 => ?_)
  refine ao_nil ?_
  refine aq_then ?_
  refine aw_cond rfl (fun hb3 => ?_) (fun hb3 => ?_)
  obtain rfl : x0 = [] := hn2 hb3
  replace h : Is (some [] : Option (dy12)) (some r) := (by simpa using h)
  refine aw_seq ?_
  refine aw_region ?_
  refine ao_r (r_assign rfl) rfl ?_
  refine ao_nil ?_
  refine aq_then ?_
  refine aw_ret ?_
  refine aq_then_ret ?_
  refine aq_ret ?_
  obtain rfl := is_some h
  refine AQ.sub (sub_nil (T := 2) (t := ty11) 0 rfl rfl rfl) ?_
  exact aq_finx (l := [.tmp 2]) (xs := [.os 0]) idn [.os 0] [(0, .row ty11 ([] : dy12))] rfl (by exact ⟨rfl, trivial⟩) (by exact ⟨ad_ren rfl, trivial⟩) (by exact ⟨⟨_, rfl, rfl⟩, trivial⟩) rfl (nk rfl) rfl rfl ⟨rfl, rfl⟩
  refine aw_skip ?_
  refine aq_then ?_
  refine aw_seq ?_
  refine aw_region ?_
  refine ao_eff trivial (e_buildSlice (l := []) (t := ty11) 1 ([] : dy12) rfl Try.underlying23 Try.zeroValue3 Try.sizeOf3 rfl rfl rfl rfl rfl rfl rfl) rfl ?_
  refine ao_r (r_move rfl) rfl ?_
  obtain ⟨g4, h⟩ := is_guard h
  refine ao_eff trivial (e_append (t := ty11) 2 rfl Try.underlying23 (rfl : Try.prog.info? 3 = some _) rfl rfl rfl rfl rfl rfl rfl src_v (show [].length + x0.length ≤ 1000000000 from by (try simp only [List.length_cons, List.length_nil]) <;> omega) rfl rfl) rfl ?_
  refine ao_r (r_assign rfl) rfl ?_
  refine ao_nil ?_
  refine aq_then ?_
  refine aw_ret ?_
  refine aq_ret ?_
  obtain rfl := is_some h
  exact aq_finx (l := [.tmp 2]) (xs := [.os 2]) (rn [(0, 2)]) [.os 0] [(0, .row ty11 (([] ++ x0) : dy12))] rfl (by exact ⟨rfl, trivial⟩) (by exact ⟨ad_ren rfl, trivial⟩) (by exact ⟨⟨_, rfl, rfl⟩, trivial⟩) rfl (nk rfl) rfl rfl ⟨rfl, rfl⟩
theorem c_impl_Tavern_own {x0 : dy3} {r : dy3} (h : Is (p_impl_Tavern_own x0) (some r)) :
    ACalls Try.prog 47 [.v ty1 x0] [] (fun r' H' => r' = .st [.os 0, .int .i64 r.2.1, .os 1, .int .i64 r.2.2.2.1, .int .i64 r.2.2.2.2.1, .int .i64 r.2.2.2.2.2.1] ∧ H' = [(0, .row ty8 r.1), (1, .row ty11 r.2.2.1)]) := by
  unfold p_impl_Tavern_own at h
  refine ac_enter ⟨12, 0⟩ Try.func47 rfl rfl rfl rfl rfl (fun Γ => ?_)
  refine aw_seq ?_
  refine aw_region ?_
  refine ao_eff trivial (e_box 0 rfl rfl rfl rfl rfl rfl) rfl ?_
  refine ao_eff trivial (e_alloc 1 (y := .st [.nilsl, .int .i64 0, .nilsl, .int .i64 0, .int .i64 0, .int .i64 0]) Try.zeroValue29 (fun ρ h M => ra_zero_st (t := ty1) rfl rfl rfl) rfl rfl rfl rfl rfl) rfl ?_
  refine ao_nil ?_
  refine aq_then ?_
  refine aw_seq ?_
  obtain ⟨r1, r1h, h⟩ := is_bind h
  obtain ⟨r3, r3h, h⟩ := is_bind h
  refine aw_draw 7 (by kernel_rfl) (by kernel_rfl) ?_
  refine an_to [(1, .ref 0 0), (2, .ref 1 0), (5, .os 2), (8, .os 3), (9, .ref 0 0)] [(0, .var [.cell (.v ty5 x0.1), ci x0.2.1, .cell (.v ty7 x0.2.2.1), ci x0.2.2.2.1, ci x0.2.2.2.2.1, ci x0.2.2.2.2.2.1]), (1, .var [.cell (.nilsl), ci 0, .cell (.nilsl), ci 0, ci 0, ci 0]), (2, .row ty8 r1), (3, .row ty11 r3)] ?_ (fun key => ?_)
  refine row_len_q 2 (r1.length : Int) rfl rfl (fun hr5 => ?_)
  refine row_len_q 3 (r3.length : Int) rfl rfl (fun hr6 => ?_)
  refine aq_tail rfl ?_
  refine ao_effS trivial (e_store rfl rfl rfl rfl Try.sizeOf22 rfl) ?_
  refine ao_r (r_fieldAddr Try.underlying29 rfl Try.sizeOf23 rfl rfl rfl) rfl ?_
  refine ao_effS trivial (e_store rfl rfl rfl rfl Try.sizeOf23 rfl) ?_
  refine ao_nil ?_
  refine aq_then ?_
  refine aw_seq ?_
  refine aw_region ?_
  refine ao_r (r_load_st [] [.cell (.os 2), ci x0.2.1, .cell (.os 3), ci x0.2.2.2.1, ci x0.2.2.2.2.1, ci x0.2.2.2.2.2.1] [] Try.isAgg29 Try.sizeOf29 rfl rfl rfl rfl rfl rfl rfl) rfl ?_
  refine ao_effS trivial (e_store rfl rfl rfl rfl Try.sizeOf29 rfl) ?_
  refine ao_nil ?_
  refine aq_then ?_
  refine aw_ret ?_
  refine aq_ret ?_
  obtain rfl := is_some h
  exact aq_finx (l := [.cell 2 29]) (xs := [.st [.os 2, .int .i64 x0.2.1, .os 3, .int .i64 x0.2.2.2.1, .int .i64 x0.2.2.2.2.1, .int .i64 x0.2.2.2.2.2.1]]) (rn [(0, 2), (1, 3)]) [.st [.os 0, .int .i64 x0.2.1, .os 1, .int .i64 x0.2.2.2.1, .int .i64 x0.2.2.2.2.1, .int .i64 x0.2.2.2.2.2.1]] [(0, .row ty8 r1), (1, .row ty11 r3)] rfl (by exact ⟨⟨⟨_, _, rfl⟩, r_load_st [] [.cell (.os 2), ci x0.2.1, .cell (.os 3), ci x0.2.2.2.1, ci x0.2.2.2.2.1, ci x0.2.2.2.2.2.1] [] Try.isAgg29 Try.sizeOf29 rfl rfl rfl rfl rfl rfl rfl⟩, trivial⟩) (by exact ⟨ad_ren rfl, trivial⟩) (by exact ⟨⟨_, rfl, rfl⟩, ⟨_, rfl, rfl⟩, trivial⟩) rfl (nk rfl) rfl rfl ⟨rfl, rfl⟩
  refine an_r 0 (fun _ _ _ h => h) rfl (by kernel_rfl) (r_fieldAddr Try.underlying29 rfl Try.sizeOf22 rfl rfl rfl) rfl ?_
  refine an_r 1 (fun _ _ _ h => h) rfl (by kernel_rfl) (r_load_cell Try.isAgg22 rfl rfl rfl) rfl ?_
  refine an_r 3 (fun _ _ _ h => h) rfl (by kernel_rfl) (r_fieldAddr Try.underlying29 rfl Try.sizeOf23 rfl rfl rfl) rfl ?_
  refine an_r 4 (fun _ _ _ h => h) rfl (by kernel_rfl) (r_load_cell Try.isAgg23 rfl rfl rfl) rfl ?_
  refine an_explore 2 rfl ?_
  refine ax_all [2] (by kernel_rfl) ⟨?_, trivial⟩
  refine axo_call 2 2 rfl trivial (c_slices_Clone_6_int_6_int (is_mk r1h)) Try.func51 rfl rfl rfl rfl ⟨ad_ren rfl, trivial⟩ rfl rfl rfl rfl (fun r' H' hr => ?_)
  obtain ⟨rfl, rfl⟩ := hr
  refine ax_all [5, 6] (by kernel_rfl) ⟨?_, ?_, trivial⟩
  refine axo_call 5 3 rfl trivial (c_slices_Clone_int_int (is_mk r3h)) Try.func70 rfl rfl rfl rfl ⟨ad_ren rfl, trivial⟩ rfl rfl rfl rfl (fun r' H' hr => ?_)
  obtain ⟨rfl, rfl⟩ := hr
  refine ax_all [6] (by kernel_rfl) ⟨?_, trivial⟩
  refine axo_read 6 rfl trivial (r_fieldAddr Try.underlying29 rfl Try.sizeOf22 rfl rfl rfl) rfl ?_
  exact ax_done rfl (AQ.sub (sub_r1 idn (nk rfl) (by kernel_rfl)) key)
  refine axo_read 6 rfl trivial (r_fieldAddr Try.underlying29 rfl Try.sizeOf22 rfl rfl rfl) rfl ?_
  refine ax_all [5] (by kernel_rfl) ⟨?_, trivial⟩
  refine axo_call 5 3 rfl trivial (c_slices_Clone_int_int (is_mk r3h)) Try.func70 rfl rfl rfl rfl ⟨ad_ren rfl, trivial⟩ rfl rfl rfl rfl (fun r' H' hr => ?_)
  obtain ⟨rfl, rfl⟩ := hr
  exact ax_done rfl (AQ.sub (sub_r1 idn (nk rfl) (by kernel_rfl)) key)
theorem c_impl_Tavern_throwv1 {x0 : Int} {x1 : Int} {x2 : Int} {x3 : Int} {x4 : Int} {x5 : dy10} {x6 : dy12} {r : Int × Int} (h : Is (p_impl_Tavern_throwv1 x0 x1 x2 x3 x4 x5 x6) (some r)) :
    ACalls Try.prog 99 [.ref 0 0, .int .i64 x0] [(0, .var [.cell (.os 1), ci x1, .cell (.os 2), ci x2, ci x3, ci x4]), (1, .row ty8 x5), (2, .row ty11 x6)] (fun r' H' => r' = .int .i64 r.1 ∧ H' = [(0, .var [.cell (.os 1), ci r.2, .cell (.os 2), ci x2, ci x3, ci x4]), (1, .row ty8 x5), (2, .row ty11 x6)]) := by
  unfold p_impl_Tavern_throwv1 at h
  refine ac_enter ⟨29, 3⟩ Try.func99 rfl rfl rfl rfl rfl (fun Γ => ?_)
  refine row_len_m 1 (x5.length : Int) rfl rfl (fun hr1 => ?_)
  refine row_len_m 2 (x6.length : Int) rfl rfl (fun hr2 => ?_)
  refine aw_seq ?_
  refine aw_region ?_
  refine ao_r (r_assign rfl) rfl ?_
  refine ao_nil ?_
  refine aq_then ?_
  refine aw_seq ?_
  refine aw_region ?_
  refine ao_r (r_move rfl) rfl ?_
  refine ao_r (r_move rfl) rfl ?_
  refine ao_r (r_nilCheck rfl rfl) rfl ?_
  refine ao_r (r_fieldAddr Try.underlying29 rfl Try.sizeOf3 rfl rfl rfl) rfl ?_
  refine ao_r (r_load_cell Try.isAgg3 rfl rfl rfl) rfl ?_
  refine ao_r (r_mul rfl rfl) rfl ?_
  refine ao_r (r_add rfl rfl) rfl ?_
  refine ao_r (r_rem rfl rfl (by decide)) rfl ?_
  refine ao_r (r_nilCheck rfl rfl) rfl ?_
  refine ao_r (r_fieldAddr Try.underlying29 rfl Try.sizeOf3 rfl rfl rfl) rfl ?_
  refine ao_effS trivial (e_store rfl rfl rfl rfl Try.sizeOf3 rfl) ?_
  refine ao_nil ?_
  refine aq_then ?_
  refine aw_seq ?_
  obtain ⟨g1, h⟩ := is_guard h
  obtain ⟨g2, h⟩ := is_guard h
  obtain ⟨g3, h⟩ := is_guard h
  obtain ⟨g4, h⟩ := is_guard h
  refine aw_drawAll (by kernel_rfl) ?_
  refine an_r 0 (fun _ _ _ h => h) rfl (by kernel_rfl) (r_move rfl) rfl ?_
  refine an_r 1 (fun _ _ _ h => h) rfl (by kernel_rfl) (r_nilCheck rfl rfl) rfl ?_
  refine an_r 2 (fun _ _ _ h => h) rfl (by kernel_rfl) (r_fieldAddr Try.underlying29 rfl Try.sizeOf22 rfl rfl rfl) rfl ?_
  refine an_r 3 (fun _ _ _ h => h) rfl (by kernel_rfl) (r_load_cell Try.isAgg22 rfl rfl rfl) rfl ?_
  refine an_r 4 (fun _ _ _ h => h) rfl (by kernel_rfl) (r_move rfl) rfl ?_
  refine an_r 5 (fun _ _ _ h => h) rfl (by kernel_rfl) (r_move rfl) rfl ?_
  refine an_r 6 (fun _ _ _ h => h) rfl (by kernel_rfl) (r_nilCheck rfl rfl) rfl ?_
  refine an_r 7 (fun _ _ _ h => h) rfl (by kernel_rfl) (r_fieldAddr Try.underlying29 rfl Try.sizeOf3 rfl rfl rfl) rfl ?_
  refine an_r 8 (fun _ _ _ h => h) rfl (by kernel_rfl) (r_load_cell Try.isAgg3 rfl rfl rfl) rfl ?_
  refine an_r 9 (fun _ _ _ h => h) rfl (by kernel_rfl) (r_quo rfl rfl (by decide)) rfl ?_
  refine an_r 10 (fun _ _ _ h => h) rfl (by kernel_rfl) (r_rem rfl rfl (by decide)) rfl ?_
  refine an_r 11 (fun _ _ _ h => h) rfl (by kernel_rfl) (r_idxAddr_os Try.underlying22 Try.sizeOf76 rfl rfl rfl (show 0 ≤ x0 from by omega) (show x0 < (x5.length : Int) from by omega)) rfl ?_
  refine an_r 12 (fun _ _ _ h => h) rfl (by kernel_rfl) (r_idxAddr_elem Try.underlying76 Try.sizeOf3 rfl rfl (by omega) (by omega)) rfl ?_
  refine an_r 13 (fun _ _ _ h => h) rfl (by kernel_rfl) (r_load_elem2_int (m := 6) Try.isAgg3 Try.sizeOf3 rfl rfl rfl (show x0.toNat < x5.length from by omega) rfl (by omega) rfl) rfl ?_
  refine an_r 14 (fun _ _ _ h => h) rfl (by kernel_rfl) (r_assign rfl) rfl ?_
  refine an_done rfl ?_
  refine aq_then ?_
  refine aw_ret ?_
  refine aq_ret ?_
  obtain rfl := is_some h
  exact aq_finx (l := [.tmp 4]) (xs := [.int .i64 ((x5.getD x0.toNat (List.replicate 6 0)).getD ((IntKind.wrap .i64 (((IntKind.wrap .i64 ((IntKind.wrap .i64 (25173 * x1)) + 13849)).tmod 65536).tdiv 256)).tmod 6).toNat 0)]) idn [.int .i64 ((x5.getD x0.toNat (List.replicate 6 0)).getD ((IntKind.wrap .i64 (((IntKind.wrap .i64 ((IntKind.wrap .i64 (25173 * x1)) + 13849)).tmod 65536).tdiv 256)).tmod 6).toNat 0)] [(0, .var [.cell (.os 1), .cell (.int .i64 ((IntKind.wrap .i64 ((IntKind.wrap .i64 (25173 * x1)) + 13849)).tmod 65536)), .cell (.os 2), ci x2, ci x3, ci x4]), (1, .row ty8 x5), (2, .row ty11 x6)] rfl (by exact ⟨rfl, trivial⟩) (by exact ⟨ad_ren rfl, trivial⟩) (by exact ⟨⟨_, rfl, ⟨ad_ren rfl, rfl, ad_ren rfl, rfl, ad_ren rfl, rfl, ad_ren rfl, rfl, ad_ren rfl, rfl, ad_ren rfl, rfl, trivial⟩⟩, ⟨_, rfl, rfl⟩, ⟨_, rfl, rfl⟩, trivial⟩) rfl (nkL rfl) rfl rfl ⟨rfl, rfl⟩
theorem c_impl_total {x0 : dy12} {r : Int} (h : Is (p_impl_total x0) r) :
    Scalar Try.prog 59 [.v ty7 x0] (.int .i64 r) := by
  unfold p_impl_total at h
  refine ac_enter ⟨17, 0⟩ Try.func59 rfl rfl rfl rfl rfl (fun Γ => ?_)
  refine sl_len_m 0 (x0.length : Int) rfl rfl (fun hl0 => ?_)
  refine aw_seq ?_
  refine aw_region ?_
  refine ao_r (r_assign rfl) rfl ?_
  refine ao_nil ?_
  refine aq_then ?_
  refine aw_seq ?_
  refine aw_region ?_
  refine ao_r (r_assign rfl) rfl ?_
  refine ao_nil ?_
  refine aq_then ?_
  refine aw_seq ?_
  refine aw_seq ?_
  refine aw_region ?_
  refine ao_r (r_move rfl) rfl ?_
  refine ao_r (r_len_vm (x0.length : Int) Try.underlying23 rfl rfl) rfl ?_
  refine ao_r (r_move rfl) rfl ?_
  refine ao_nil ?_
  refine aq_then ?_
  refine aw_block ?_
  refine aw_loop (AL.sub (fr' := [(3, .int .i64 0), (6, .v ty7 x0), (7, .int .i64 (x0.length : Int)), (8, .int .i64 0)]) (H' := []) (sub_r1 idn (nk rfl) (by kernel_rfl)) (al_cnt (fun i2 (s1 : Int) => [(3, .int .i64 s1), (6, .v ty7 x0), (7, .int .i64 (x0.length : Int)), (8, .int .i64 i2)]) (fun i2 (s1 : Int) => []) (fun d i2 (s1 : Int) => d = Int.toNat ((x0.length : Int) - i2) ∧ 0 ≤ i2 ∧ i2 ≤ (x0.length : Int)) h ⟨rfl, (by (try simp only [List.length_set, List.length_append, List.length_cons, List.length_nil, List.length_replicate, List.length_take, List.length_drop]) <;> omega), (by (try simp only [List.length_set, List.length_append, List.length_cons, List.length_nil, List.length_replicate, List.length_take, List.length_drop]) <;> omega)⟩ (fun d3 i2 s1 hI h ih3 => ?_)))
  obtain ⟨hd, _, _⟩ := hI
  refine al_round ?_
  refine aw_seq ?_
  refine aw_region ?_
  refine ao_r (r_lss rfl rfl) rfl ?_
  refine ao_nil ?_
  refine aq_then ?_
  refine aw_seq ?_
  refine aw_cond rfl (fun hb5 => ?_) (fun hb5 => ?_)
  have q6 := d_t hb5
  obtain ⟨d3, rfl⟩ : ∃ e, d3 = e + 1 := ⟨d3 - 1, by omega⟩
  replace h := is_cntS h
  refine aw_skip ?_
  refine aq_then ?_
  refine aw_seq ?_
  refine aw_block ?_
  refine aw_seq ?_
  refine aw_region ?_
  refine ao_r (r_idxAddr_int Try.underlying23 Try.sizeOf3 rfl rfl (show 0 ≤ i2 from by omega) (show i2 < (x0.length : Int) from by omega)) rfl ?_
  refine ao_r (r_load_c_int Try.isAgg3 Try.sizeOf3 rfl) rfl ?_
  refine ao_r (r_assign rfl) rfl ?_
  refine ao_nil ?_
  refine aq_then ?_
  refine aw_region ?_
  refine ao_r (r_move rfl) rfl ?_
  refine ao_r (r_move rfl) rfl ?_
  refine ao_r (r_add rfl rfl) rfl ?_
  refine ao_r (r_assign rfl) rfl ?_
  refine ao_nil ?_
  refine aq_in ?_
  refine aq_then ?_
  refine aw_region ?_
  refine ao_r (r_addI rfl rfl (wrap_id (by omega) (by omega))) rfl ?_
  refine ao_r (r_move rfl) rfl ?_
  refine ao_nil ?_
  exact aq_again (AL.sub (sub_r1 idn (nk rfl) (by kernel_rfl)) (ih3 d3 (i2 + 1) (IntKind.wrap .i64 (s1 + (x0.getD i2.toNat 0))) (by omega) ⟨by omega, (by (try simp only [List.length_set, List.length_append, List.length_cons, List.length_nil, List.length_replicate, List.length_take, List.length_drop]) <;> omega), (by (try simp only [List.length_set, List.length_append, List.length_cons, List.length_nil, List.length_replicate, List.length_take, List.length_drop]) <;> omega)⟩ h))
  have q7 := d_f hb5
  obtain rfl : d3 = 0 := by omega
  replace h := is_cnt0 h
  refine aw_exit ?_
  refine aq_then_exit ?_
  refine aq_then_exit ?_
  refine aq_in_exit ?_
  refine aq_then ?_
  refine aw_seq ?_
  refine aw_region ?_
  refine ao_r (r_move rfl) rfl ?_
  refine ao_r (r_assign rfl) rfl ?_
  refine ao_nil ?_
  refine aq_then ?_
  refine aw_ret ?_
  refine aq_ret ?_
  obtain rfl := is_eq h
  exact aq_finx (l := [.tmp 2]) (xs := [.int .i64 s1]) idn [.int .i64 s1] [] rfl (by exact ⟨rfl, trivial⟩) (by exact ⟨ad_ren rfl, trivial⟩) (by exact trivial) rfl (nk rfl) rfl rfl ⟨rfl, rfl⟩
theorem c_impl_Tavern_roll {x0 : Int} {x1 : Int} {x2 : Int} {x3 : Int} {x4 : dy10} {x5 : dy12} {r : Bool × Int × Int × Int × dy12} (h : Is (p_impl_Tavern_roll x0 x1 x2 x3 x4 x5) (some r)) :
    ACalls Try.prog 86 [.ref 0 0] [(0, .var [.cell (.os 1), ci x0, .cell (.os 2), ci x1, ci x2, ci x3]), (1, .row ty8 x4), (2, .row ty11 x5)] (fun r' H' => r' = .bool r.1 ∧ H' = [(0, .var [.cell (.os 1), ci r.2.1, .cell (.os 3), ci r.2.2.1, ci r.2.2.2.1, ci x3]), (1, .row ty8 x4), (3, .row ty11 r.2.2.2.2)]) := by
  unfold p_impl_Tavern_roll at h
  refine ac_enter ⟨53, 3⟩ Try.func86 rfl rfl rfl rfl rfl (fun Γ => ?_)
  refine AW.sub (fr' := [(0, .ref 0 0)]) (H' := [(0, .var [.cell (.os 1), ci x0, .cell (.os 3), ci x1, ci x2, ci x3]), (1, .row ty8 x4), (3, .row ty11 x5)]) (sub_r1 (rn [(3, 2)]) (nkL rfl) (by kernel_rfl)) ?_
  refine row_len_m 1 (x4.length : Int) rfl rfl (fun hr1 => ?_)
  refine row_len_m 3 (x5.length : Int) rfl rfl (fun hr3 => ?_)
  refine aw_seq ?_
  refine aw_region ?_
  refine ao_r (r_assign rfl) rfl ?_
  refine ao_nil ?_
  refine aq_then ?_
  refine aw_seq ?_
  refine aw_region ?_
  refine ao_r (r_move rfl) rfl ?_
  refine ao_r (r_nilCheck rfl rfl) rfl ?_
  refine ao_r (r_fieldAddr Try.underlying29 rfl Try.sizeOf23 rfl rfl rfl) rfl ?_
  refine ao_effS trivial (e_store rfl rfl rfl rfl Try.sizeOf23 rfl) ?_
  refine ao_nil ?_
  refine aq_then ?_
  refine aw_seq ?_
  refine aw_seq ?_
  refine aw_region ?_
  refine ao_r (r_move rfl) rfl ?_
  refine ao_r (r_nilCheck rfl rfl) rfl ?_
  refine ao_r (r_fieldAddr Try.underlying29 rfl Try.sizeOf22 rfl rfl rfl) rfl ?_
  refine ao_r (r_load_cell Try.isAgg22 rfl rfl rfl) rfl ?_
  refine ao_r (r_len_osm (x4.length : Int) Try.underlying22 rfl rfl rfl) rfl ?_
  refine ao_r (r_move rfl) rfl ?_
  refine ao_nil ?_
  refine aq_then ?_
  refine aw_block ?_
  refine AW.sub (sub_nil_cell (t := ty11) (i := 0) 4 [.cell (.os 1), ci x0] [ci x1, ci x2, ci x3] rfl rfl rfl) ?_
  refine aw_loop (AL.sub (fr' := [(0, .ref 0 0), (11, .int .i64 (x4.length : Int)), (12, .int .i64 0)]) (H' := [(0, .var [.cell (.os 1), ci x0, .cell (.os 3), ci x1, ci x2, ci x3]), (1, .row ty8 x4), (3, .row ty11 ([] : dy12))]) (sub_r1 (rn [(3, 4)]) (nkL rfl) (by kernel_rfl)) (al_cnt (fun i2 (s1 : Int × dy12) => [(0, .ref 0 0), (11, .int .i64 (x4.length : Int)), (12, .int .i64 i2)]) (fun i2 (s1 : Int × dy12) => [(0, .var [.cell (.os 1), ci s1.1, .cell (.os 3), ci x1, ci x2, ci x3]), (1, .row ty8 x4), (3, .row ty11 s1.2)]) (fun d i2 (s1 : Int × dy12) => d = Int.toNat ((x4.length : Int) - i2) ∧ 0 ≤ i2 ∧ i2 ≤ (x4.length : Int)) h ⟨rfl, (by (try simp only [List.length_set, List.length_append, List.length_cons, List.length_nil, List.length_replicate, List.length_take, List.length_drop]) <;> omega), (by (try simp only [List.length_set, List.length_append, List.length_cons, List.length_nil, List.length_replicate, List.length_take, List.length_drop]) <;> omega)⟩ (fun d3 i2 s1 hI h ih3 => ?_)))
  obtain ⟨hd, _, _⟩ := hI
  refine al_round ?_
  refine aw_seq ?_
  refine aw_region ?_
  refine ao_r (r_lss rfl rfl) rfl ?_
  refine ao_nil ?_
  refine aq_then ?_
  refine aw_seq ?_
  refine aw_cond rfl (fun hb5 => ?_) (fun hb5 => ?_)
  have q6 := d_t hb5
  obtain ⟨d3, rfl⟩ : ∃ e, d3 = e + 1 := ⟨d3 - 1, by omega⟩
  replace h := is_cntS h
  refine aw_skip ?_
  refine aq_then ?_
  refine aw_seq ?_
  refine aw_block ?_
  refine aw_seq ?_
  refine aw_region ?_
  refine ao_r (r_move rfl) rfl ?_
  refine ao_r (r_assign rfl) rfl ?_
  refine ao_nil ?_
  refine aq_then ?_
  obtain ⟨r8, r8h, h⟩ := is_bind h
  obtain ⟨g9, h⟩ := is_guard h
  refine aw_drawP 13 rfl (by kernel_rfl) ?_
  refine ap_to [(0, .ref 0 0), (11, .int .i64 (x4.length : Int)), (12, .int .i64 i2)] [(0, .var [.cell (.os 1), ci r8.2, .cell (.os 3), ci x1, ci x2, ci x3]), (1, .row ty8 x4), (3, .row ty11 ((s1.2 ++ [r8.1]) : dy12))] ?_ (fun key => ?_)
  refine aq_in ?_
  refine aq_then ?_
  refine aw_region ?_
  refine ao_r (r_addI rfl rfl (wrap_id (by omega) (by omega))) rfl ?_
  refine ao_r (r_move rfl) rfl ?_
  refine ao_nil ?_
  exact aq_again (AL.sub (sub_r1 idn (nkL rfl) (by kernel_rfl)) (ih3 d3 (i2 + 1) (r8.2, (s1.2 ++ [r8.1])) (by omega) ⟨by omega, (by (try simp only [List.length_set, List.length_append, List.length_cons, List.length_nil, List.length_replicate, List.length_take, List.length_drop]) <;> omega), (by (try simp only [List.length_set, List.length_append, List.length_cons, List.length_nil, List.length_replicate, List.length_take, List.length_drop]) <;> omega)⟩ h))
  refine ap_let (g := 1) (listed := #[true, true, true, true, true, true, true, true, true, true, true, true, false]) [(0, .ref 0 0), (11, .int .i64 (x4.length : Int)), (12, .int .i64 i2), (24, .os 3), (26, .ref 0 2)] [(0, .var [.cell (.os 1), ci r8.2, .cell (.os 4), ci x1, ci x2, ci x3]), (1, .row ty8 x4), (3, .row ty11 ((s1.2 ++ [r8.1]) : dy12))] ?_ (fun k14 => ?_)
  refine ap_all [12] (by kernel_rfl) ⟨?_, trivial⟩
  refine apo_ao rfl ?_
  refine ao_effS trivial (e_store rfl rfl rfl rfl Try.sizeOf23 rfl) ?_
  refine ap_ni ?_
  exact ap_end (by kernel_rfl) (AQ.sub (sub_r1 idn (nkL rfl) (by kernel_rfl)) key)
  refine ap_let (g := 4) (listed := #[true, true, true, true, true, true, true, true, true, false, false, false, false]) [(0, .ref 0 0), (11, .int .i64 (x4.length : Int)), (12, .int .i64 i2), (15, .ref 0 0), (19, .os 3), (23, .os 4)] [(0, .var [.cell (.os 1), ci r8.2, .cell (.os 3), ci x1, ci x2, ci x3]), (1, .row ty8 x4), (3, .row ty11 s1.2), (4, .row ty11 ([r8.1] : dy12))] ?_ (fun k13 => ?_)
  refine ap_all [9] (by kernel_rfl) ⟨?_, trivial⟩
  refine apo_ao rfl ?_
  refine ao_eff trivial (e_append (t := ty11) 5 rfl Try.underlying23 (rfl : Try.prog.info? 3 = some _) rfl rfl rfl rfl rfl rfl rfl (src_os rfl) (show s1.2.length + ([r8.1] : dy12).length ≤ 1000000000 from by (try simp only [List.length_cons, List.length_nil]) <;> omega) rfl rfl) rfl ?_
  refine ap_ni ?_
  refine ap_p 10 (fun _ _ _ h => h) rfl (by kernel_rfl) (rp_nilCheck rfl rfl) rfl ?_
  refine ap_p 11 (fun _ _ _ h => h) rfl (by kernel_rfl) (rp_fieldAddr Try.underlying29 rfl Try.sizeOf23 rfl rfl rfl) rfl ?_
  exact ap_gr (rn [(3, 5), (4, 3)]) (nkL rfl) k14 (by kernel_rfl)
  refine ap_let (g := 5) (listed := #[true, true, true, true, true, true, true, true, false, false, false, false, false]) [(0, .ref 0 0), (11, .int .i64 (x4.length : Int)), (12, .int .i64 i2), (15, .ref 0 0), (19, .os 3), (22, .int .i64 r8.1)] [(0, .var [.cell (.os 1), ci r8.2, .cell (.os 3), ci x1, ci x2, ci x3]), (1, .row ty8 x4), (3, .row ty11 s1.2)] ?_ (fun k12 => ?_)
  refine ap_all [8] (by kernel_rfl) ⟨?_, trivial⟩
  refine apo_ao rfl ?_
  refine ao_eff trivial (e_buildSlice (l := [(0, .tmp 22)]) (t := ty11) 4 ([r8.1] : dy12) rfl Try.underlying23 Try.zeroValue3 Try.sizeOf3 rfl rfl rfl rfl rfl rfl rfl) rfl ?_
  refine ap_ni ?_
  exact ap_gr idn (nkL rfl) k13 (by kernel_rfl)
  refine ap_let (g := 5) (listed := #[true, true, true, true, false, true, true, true, true, false, false, false, false]) [(0, .ref 0 0), (11, .int .i64 (x4.length : Int)), (12, .int .i64 i2), (15, .ref 0 0), (18, .ref 0 2), (23, .os 3)] [(0, .var [.cell (.os 1), ci r8.2, .cell (.os 4), ci x1, ci x2, ci x3]), (1, .row ty8 x4), (3, .row ty11 ([r8.1] : dy12)), (4, .row ty11 s1.2)] ?_ (fun k16 => ?_)
  refine ap_all [4] (by kernel_rfl) ⟨?_, trivial⟩
  refine apo_ao rfl ?_
  refine ao_r (r_load_cell Try.isAgg23 rfl rfl rfl) rfl ?_
  refine ap_ni ?_
  exact ap_gr (rn [(3, 4), (4, 3)]) (nkL rfl) k13 (by kernel_rfl)
  refine ap_let (g := 6) (listed := #[true, true, true, true, true, true, true, false, false, false, false, false, false]) [(0, .ref 0 0), (11, .int .i64 (x4.length : Int)), (12, .int .i64 i2), (15, .ref 0 0), (19, .os 3), (20, .ref 0 0), (21, .int .i64 i2)] [(0, .var [.cell (.os 1), ci s1.1, .cell (.os 3), ci x1, ci x2, ci x3]), (1, .row ty8 x4), (3, .row ty11 s1.2)] ?_ (fun k11 => ?_)
  refine ap_all [7] (by kernel_rfl) ⟨?_, trivial⟩
  refine apo_ao rfl ?_
  refine ao_call [0, 1, 3] 4 trivial (c_impl_Tavern_throwv1 (is_mk r8h)) Try.func99 rfl rfl rfl rfl ⟨ad_ren rfl, ad_ren rfl, trivial⟩ ⟨⟨_, rfl, ⟨ad_ren rfl, rfl, ad_ren rfl, rfl, ad_ren rfl, rfl, ad_ren rfl, rfl, ad_ren rfl, rfl, ad_ren rfl, rfl, trivial⟩⟩, ⟨_, rfl, rfl⟩, ⟨_, rfl, rfl⟩, trivial⟩ rfl rfl rfl rfl rfl rfl rfl (fun r' H' hr => ?_)
  obtain ⟨rfl, rfl⟩ := hr
  refine ao_norm (y := .int .i64 r8.1) (H' := [(0, .var [.cell (.os 1), ci r8.2, .cell (.os 3), ci x1, ci x2, ci x3]), (1, .row ty8 x4), (3, .row ty11 s1.2)]) rfl rfl ?_
  refine ap_ni ?_
  exact ap_gr idn (nkL rfl) k12 (by kernel_rfl)
  refine ap_let (g := 6) (listed := #[true, true, true, true, false, true, true, true, false, false, false, false, false]) [(0, .ref 0 0), (11, .int .i64 (x4.length : Int)), (12, .int .i64 i2), (15, .ref 0 0), (18, .ref 0 2), (22, .int .i64 r8.1)] [(0, .var [.cell (.os 1), ci r8.2, .cell (.os 3), ci x1, ci x2, ci x3]), (1, .row ty8 x4), (3, .row ty11 s1.2)] ?_ (fun k15 => ?_)
  refine ap_all [4, 8] (by kernel_rfl) ⟨?_, ?_, trivial⟩
  refine apo_ao rfl ?_
  refine ao_r (r_load_cell Try.isAgg23 rfl rfl rfl) rfl ?_
  refine ap_ni ?_
  exact ap_gr idn (nkL rfl) k12 (by kernel_rfl)
  refine apo_ao rfl ?_
  refine ao_eff trivial (e_buildSlice (l := [(0, .tmp 22)]) (t := ty11) 4 ([r8.1] : dy12) rfl Try.underlying23 Try.zeroValue3 Try.sizeOf3 rfl rfl rfl rfl rfl rfl rfl) rfl ?_
  refine ap_ni ?_
  exact ap_gr (rn [(3, 4), (4, 3)]) (nkL rfl) k16 (by kernel_rfl)
  refine ap_let (g := 7) (listed := #[true, true, true, true, false, true, true, false, false, false, false, false, false]) [(0, .ref 0 0), (11, .int .i64 (x4.length : Int)), (12, .int .i64 i2), (15, .ref 0 0), (18, .ref 0 2), (20, .ref 0 0), (21, .int .i64 i2)] [(0, .var [.cell (.os 1), ci s1.1, .cell (.os 3), ci x1, ci x2, ci x3]), (1, .row ty8 x4), (3, .row ty11 s1.2)] ?_ (fun k10 => ?_)
  refine ap_all [4, 7] (by kernel_rfl) ⟨?_, ?_, trivial⟩
  refine apo_ao rfl ?_
  refine ao_r (r_load_cell Try.isAgg23 rfl rfl rfl) rfl ?_
  refine ap_ni ?_
  exact ap_gr idn (nkL rfl) k11 (by kernel_rfl)
  refine apo_ao rfl ?_
  refine ao_call [0, 1, 3] 4 trivial (c_impl_Tavern_throwv1 (is_mk r8h)) Try.func99 rfl rfl rfl rfl ⟨ad_ren rfl, ad_ren rfl, trivial⟩ ⟨⟨_, rfl, ⟨ad_ren rfl, rfl, ad_ren rfl, rfl, ad_ren rfl, rfl, ad_ren rfl, rfl, ad_ren rfl, rfl, ad_ren rfl, rfl, trivial⟩⟩, ⟨_, rfl, rfl⟩, ⟨_, rfl, rfl⟩, trivial⟩ rfl rfl rfl rfl rfl rfl rfl (fun r' H' hr => ?_)
  obtain ⟨rfl, rfl⟩ := hr
  refine ao_norm (y := .int .i64 r8.1) (H' := [(0, .var [.cell (.os 1), ci r8.2, .cell (.os 3), ci x1, ci x2, ci x3]), (1, .row ty8 x4), (3, .row ty11 s1.2)]) rfl rfl ?_
  refine ap_ni ?_
  exact ap_gr idn (nkL rfl) k15 (by kernel_rfl)
  refine ap_p 0 (fun _ _ _ h => h) rfl (by kernel_rfl) (rp_move rfl) rfl ?_
  refine ap_p 1 (fun _ _ _ h => h) rfl (by kernel_rfl) (rp_move rfl) rfl ?_
  refine ap_p 2 (fun _ _ _ h => h) rfl (by kernel_rfl) (rp_nilCheck rfl rfl) rfl ?_
  refine ap_p 3 (fun _ _ _ h => h) rfl (by kernel_rfl) (rp_fieldAddr Try.underlying29 rfl Try.sizeOf23 rfl rfl rfl) rfl ?_
  refine ap_p 5 (fun _ _ _ h => h) rfl (by kernel_rfl) (rp_move rfl) rfl ?_
  refine ap_p 6 (fun _ _ _ h => h) rfl (by kernel_rfl) (rp_move rfl) rfl ?_
  exact ap_gr idn (nkL rfl) k10 (by kernel_rfl)
  have q7 := d_f hb5
  obtain rfl : d3 = 0 := by omega
  replace h := is_cnt0 h
  refine aw_exit ?_
  refine aq_then_exit ?_
  refine aq_then_exit ?_
  refine aq_in_exit ?_
  refine aq_then ?_
  refine aw_seq ?_
  refine aw_draw 12 (by kernel_rfl) (by kernel_rfl) ?_
  refine an_r 0 (fun _ _ _ h => h) rfl (by kernel_rfl) (r_move rfl) rfl ?_
  refine an_r 1 (fun _ _ _ h => h) rfl (by kernel_rfl) (r_nilCheck rfl rfl) rfl ?_
  refine an_r 2 (fun _ _ _ h => h) rfl (by kernel_rfl) (r_fieldAddr Try.underlying29 rfl Try.sizeOf3 rfl rfl rfl) rfl ?_
  refine an_r 3 (fun _ _ _ h => h) rfl (by kernel_rfl) (r_load_cell Try.isAgg3 rfl rfl rfl) rfl ?_
  refine an_r 4 (fun _ _ _ h => h) rfl (by kernel_rfl) (r_move rfl) rfl ?_
  refine an_r 5 (fun _ _ _ h => h) rfl (by kernel_rfl) (r_nilCheck rfl rfl) rfl ?_
  refine an_r 6 (fun _ _ _ h => h) rfl (by kernel_rfl) (r_fieldAddr Try.underlying29 rfl Try.sizeOf23 rfl rfl rfl) rfl ?_
  refine an_r 7 (fun _ _ _ h => h) rfl (by kernel_rfl) (r_load_cell Try.isAgg23 rfl rfl rfl) rfl ?_
  refine an_scall 8 (by kernel_rfl) (fun _ _ _ h => h) rfl (by kernel_rfl) trivial (scall (c_impl_total (is_mk (rfl : p_impl_total s1.2 = _))) rfl Try.func59 rfl rfl rfl rfl (fun σ => ⟨ad_os0 rfl, trivial⟩)) rfl ?_
  refine an_r 9 (fun _ _ _ h => h) rfl (by kernel_rfl) (r_add rfl rfl) rfl ?_
  refine an_r 10 (fun _ _ _ h => h) rfl (by kernel_rfl) (r_nilCheck rfl rfl) rfl ?_
  refine an_r 11 (fun _ _ _ h => h) rfl (by kernel_rfl) (r_fieldAddr Try.underlying29 rfl Try.sizeOf3 rfl rfl rfl) rfl ?_
  refine an_tail rfl rfl ?_
  refine ao_effS trivial (e_store rfl rfl rfl rfl Try.sizeOf3 rfl) ?_
  refine ao_nil ?_
  refine aq_then ?_
  refine aw_seq ?_
  refine aw_draw 13 (by kernel_rfl) (by kernel_rfl) ?_
  refine an_r 0 (fun _ _ _ h => h) rfl (by kernel_rfl) (r_move rfl) rfl ?_
  refine an_r 1 (fun _ _ _ h => h) rfl (by kernel_rfl) (r_move rfl) rfl ?_
  refine an_r 2 (fun _ _ _ h => h) rfl (by kernel_rfl) (r_nilCheck rfl rfl) rfl ?_
  refine an_r 3 (fun _ _ _ h => h) rfl (by kernel_rfl) (r_fieldAddr Try.underlying29 rfl Try.sizeOf3 rfl rfl rfl) rfl ?_
  refine an_r 4 (fun _ _ _ h => h) rfl (by kernel_rfl) (r_load_cell Try.isAgg3 rfl rfl rfl) rfl ?_
  refine an_r 5 (fun _ _ _ h => h) rfl (by kernel_rfl) (r_move rfl) rfl ?_
  refine an_r 6 (fun _ _ _ h => h) rfl (by kernel_rfl) (r_nilCheck rfl rfl) rfl ?_
  refine an_r 7 (fun _ _ _ h => h) rfl (by kernel_rfl) (r_fieldAddr Try.underlying29 rfl Try.sizeOf23 rfl rfl rfl) rfl ?_
  refine an_r 8 (fun _ _ _ h => h) rfl (by kernel_rfl) (r_load_cell Try.isAgg23 rfl rfl rfl) rfl ?_
  refine an_scall 9 (by kernel_rfl) (fun _ _ _ h => h) rfl (by kernel_rfl) trivial (scall (c_impl_total (is_mk (rfl : p_impl_total s1.2 = _))) rfl Try.func59 rfl rfl rfl rfl (fun σ => ⟨ad_os0 rfl, trivial⟩)) rfl ?_
  refine an_r 10 (fun _ _ _ h => h) rfl (by kernel_rfl) (r_max rfl rfl) rfl ?_
  refine an_r 11 (fun _ _ _ h => h) rfl (by kernel_rfl) (r_nilCheck rfl rfl) rfl ?_
  refine an_r 12 (fun _ _ _ h => h) rfl (by kernel_rfl) (r_fieldAddr Try.underlying29 rfl Try.sizeOf3 rfl rfl rfl) rfl ?_
  refine an_tail rfl rfl ?_
  refine ao_effS trivial (e_store rfl rfl rfl rfl Try.sizeOf3 rfl) ?_
  refine ao_nil ?_
  refine aq_then ?_
  refine aw_seq ?_
  refine aw_region ?_
  refine ao_r (r_assign rfl) rfl ?_
  refine ao_nil ?_
  refine aq_then ?_
  refine aw_ret ?_
  refine aq_ret ?_
  obtain rfl := is_some h
  exact aq_finx (l := [.tmp 2]) (xs := [.bool true]) idn [.bool true] [(0, .var [.cell (.os 1), ci s1.1, .cell (.os 3), .cell (.int .i64 (IntKind.wrap .i64 (x1 + (p_impl_total s1.2)))), .cell (.int .i64 (if (p_impl_total s1.2) > x2 then (p_impl_total s1.2) else x2)), ci x3]), (1, .row ty8 x4), (3, .row ty11 s1.2)] rfl (by exact ⟨rfl, trivial⟩) (by exact ⟨ad_ren rfl, trivial⟩) (by exact ⟨⟨_, rfl, ⟨ad_ren rfl, rfl, ad_ren rfl, rfl, ad_ren rfl, rfl, ad_ren rfl, rfl, ad_ren rfl, rfl, ad_ren rfl, rfl, trivial⟩⟩, ⟨_, rfl, rfl⟩, ⟨_, rfl, rfl⟩, trivial⟩) rfl (nkL rfl) rfl rfl ⟨rfl, rfl⟩
theorem c_impl_isIn {x0 : Int} {x1 : Int} {r : Bool} (h : Is (p_impl_isIn x0 x1) (some r)) :
    Scalar Try.prog 100 [.int .i64 x0, .int .i64 x1] (.bool r) := by
  unfold p_impl_isIn at h
  refine ac_enter ⟨10, 0⟩ Try.func100 rfl rfl rfl rfl rfl (fun Γ => ?_)
  refine aw_seq ?_
  refine aw_region ?_
  refine ao_r (r_assign rfl) rfl ?_
  refine ao_nil ?_
  refine aq_then ?_
  refine aw_seq ?_
  refine aw_region ?_
  refine ao_r (r_move rfl) rfl ?_
  refine ao_r (r_move rfl) rfl ?_
  obtain ⟨g1, h⟩ := is_guard h
  refine ao_r (r_shr rfl rfl (by omega)) rfl ?_
  refine ao_r (r_and rfl rfl) rfl ?_
  refine ao_r (r_eql rfl rfl) rfl ?_
  refine ao_r (r_assign rfl) rfl ?_
  refine ao_nil ?_
  refine aq_then ?_
  refine aw_ret ?_
  refine aq_ret ?_
  obtain rfl := is_some h
  exact aq_finx (l := [.tmp 4]) (xs := [.bool (decide ((andI .i64 (shrI .i64 x0 x1) 1) = 1))]) idn [.bool (decide ((andI .i64 (shrI .i64 x0 x1) 1) = 1))] [] rfl (by exact ⟨rfl, trivial⟩) (by exact ⟨ad_ren rfl, trivial⟩) (by exact trivial) rfl (nk rfl) rfl rfl ⟨rfl, rfl⟩
theorem c_impl_Tavern_again {x0 : Int} {x1 : Int} {x2 : Int} {x3 : Int} {x4 : Int} {x5 : dy10} {x6 : dy12} {r : Bool × Int × Int × Int × dy12} (h : Is (p_impl_Tavern_again x0 x1 x2 x3 x4 x5 x6) (some r)) :
    ACalls Try.prog 87 [.ref 0 0, .int .i64 x0] [(0, .var [.cell (.os 1), ci x1, .cell (.os 2), ci x2, ci x3, ci x4]), (1, .row ty8 x5), (2, .row ty11 x6)] (fun r' H' => r' = .bool r.1 ∧ H' = [(0, .var [.cell (.os 1), ci r.2.1, .cell (.os 2), ci r.2.2.1, ci r.2.2.2.1, ci x4]), (1, .row ty8 x5), (2, .row ty11 r.2.2.2.2)]) := by
  unfold p_impl_Tavern_again at h
  refine ac_enter ⟨78, 3⟩ Try.func87 rfl rfl rfl rfl rfl (fun Γ => ?_)
  refine row_len_m 1 (x5.length : Int) rfl rfl (fun hr1 => ?_)
  refine row_len_m 2 (x6.length : Int) rfl rfl (fun hr2 => ?_)
  refine aw_seq ?_
  refine aw_region ?_
  refine ao_r (r_assign rfl) rfl ?_
  refine ao_nil ?_
  refine aq_then ?_
  refine aw_seq ?_
  refine aw_seq ?_
  refine aw_region ?_
  refine ao_r (r_move rfl) rfl ?_
  refine ao_r (r_nilCheck rfl rfl) rfl ?_
  refine ao_r (r_fieldAddr Try.underlying29 rfl Try.sizeOf23 rfl rfl rfl) rfl ?_
  refine ao_r (r_load_cell Try.isAgg23 rfl rfl rfl) rfl ?_
  refine ao_r (r_len_osm (x6.length : Int) Try.underlying23 rfl rfl rfl) rfl ?_
  refine ao_r (r_eql rfl rfl) rfl ?_
  refine ao_r (r_move rfl) rfl ?_
  refine ao_readG (x := .int .i64 x0) rfl (GV.F rfl) (fun hg1 => by
        have q2 := d_f (not_t hg1)
        exact r_move rfl) rfl ?_
  refine ao_readG (x := .ref 0 0) rfl (GV.F rfl) (fun hg3 => by
        have q4 := d_f (not_t hg3)
        exact r_move rfl) rfl ?_
  refine ao_readG (x := .ref 0 0) rfl (GV.F rfl) (fun hg5 => by
        have q6 := d_f (not_t hg5)
        exact Reads.strip 15 rfl (hg5) (r_nilCheck rfl rfl)) rfl ?_
  refine ao_readG (x := .ref 0 0) rfl (GV.F rfl) (fun hg7 => by
        have q8 := d_f (not_t hg7)
        exact Reads.strip 16 rfl (hg7) (r_fieldAddr Try.underlying29 rfl Try.sizeOf22 rfl rfl rfl)) rfl ?_
  refine ao_readG (x := .os 1) rfl (GV.F rfl) (fun hg9 => by
        have q10 := d_f (not_t hg9)
        exact Reads.strip 17 rfl (hg9) (r_load_cell Try.isAgg22 rfl rfl rfl)) rfl ?_
  refine ao_readG (x := .int .i64 (x5.length : Int)) rfl (GV.F rfl) (fun hg11 => by
        have q12 := d_f (not_t hg11)
        exact Reads.strip 18 rfl (hg11) (r_len_osm (x5.length : Int) Try.underlying22 rfl rfl rfl)) rfl ?_
  refine ao_readG (x := .int .i64 (shlI .i64 1 (x5.length : Int))) rfl (GV.F rfl) (fun hg13 => by
        have q14 := d_f (not_t hg13)
        exact Reads.strip 19 rfl (hg13) (r_shl rfl rfl (by omega))) rfl ?_
  refine ao_readG (x := .int .i64 (IntKind.wrap .i64 ((shlI .i64 1 (x5.length : Int)) - 1))) rfl (GV.F rfl) (fun hg15 => by
        have q16 := d_f (not_t hg15)
        exact Reads.strip 20 rfl (hg15) (r_sub rfl rfl)) rfl ?_
  refine ao_scallG (r := .bool (p_impl_within x0 1 (IntKind.wrap .i64 ((shlI .i64 1 (x5.length : Int)) - 1)))) rfl (GV.F rfl) (fun hg17 => by
        have q18 := d_f (not_t hg17)
        exact SCall.strip 14 rfl (hg17) (SCall.strip 21 rfl (hg17) (scall (c_impl_within (is_mk (rfl : p_impl_within x0 1 (IntKind.wrap .i64 ((shlI .i64 1 (x5.length : Int)) - 1)) = _))) rfl Try.func54 rfl rfl rfl rfl (fun σ => ⟨ad_ren rfl, ad_ren rfl, ad_ren rfl, trivial⟩)))) rfl ?_
  refine ao_readG (x := .bool (!(p_impl_within x0 1 (IntKind.wrap .i64 ((shlI .i64 1 (x5.length : Int)) - 1))))) rfl (GV.F rfl) (fun hg19 => by
        have q20 := d_f (not_t hg19)
        exact Reads.strip 22 rfl (hg19) (r_not rfl)) rfl ?_
  refine ao_r (r_orB rfl rfl) rfl ?_
  refine ao_nil ?_
  refine aq_then ?_
  refine aw_cond rfl (fun hb21 => ?_) (fun hb21 => ?_)
  replace h := is_if hb21 h
  refine aw_seq ?_
  refine aw_region ?_
  refine ao_r (r_assign rfl) rfl ?_
  refine ao_nil ?_
  refine aq_then ?_
  refine aw_ret ?_
  refine aq_then_ret ?_
  refine aq_ret ?_
  obtain rfl := is_some h
  exact aq_finx (l := [.tmp 4]) (xs := [.bool false]) idn [.bool false] [(0, .var [.cell (.os 1), ci x1, .cell (.os 2), ci x2, ci x3, ci x4]), (1, .row ty8 x5), (2, .row ty11 x6)] rfl (by exact ⟨rfl, trivial⟩) (by exact ⟨ad_ren rfl, trivial⟩) (by exact ⟨⟨_, rfl, ⟨ad_ren rfl, rfl, ad_ren rfl, rfl, ad_ren rfl, rfl, ad_ren rfl, rfl, ad_ren rfl, rfl, ad_ren rfl, rfl, trivial⟩⟩, ⟨_, rfl, rfl⟩, ⟨_, rfl, rfl⟩, trivial⟩) rfl (nkL rfl) rfl rfl ⟨rfl, rfl⟩
  obtain ⟨q22, q23⟩ := or_f hb21
  have q24 := d_f q22
  replace h := is_else (ne_t hb21) h
  refine aw_skip ?_
  refine aq_then ?_
  refine aw_seq ?_
  refine aw_region ?_
  refine ao_r (r_move rfl) rfl ?_
  refine ao_r (r_nilCheck rfl rfl) rfl ?_
  refine ao_r (r_fieldAddr Try.underlying29 rfl Try.sizeOf23 rfl rfl rfl) rfl ?_
  refine ao_r (r_load_cell Try.isAgg23 rfl rfl rfl) rfl ?_
  refine ao_scall trivial (scall (c_impl_total (is_mk (rfl : p_impl_total x6 = _))) rfl Try.func59 rfl rfl rfl rfl (fun σ => ⟨ad_os0 rfl, trivial⟩)) rfl ?_
  refine ao_r (r_assign rfl) rfl ?_
  refine ao_nil ?_
  refine aq_then ?_
  refine aw_seq ?_
  refine aw_seq ?_
  refine aw_region ?_
  refine ao_r (r_move rfl) rfl ?_
  refine ao_r (r_nilCheck rfl rfl) rfl ?_
  refine ao_r (r_fieldAddr Try.underlying29 rfl Try.sizeOf22 rfl rfl rfl) rfl ?_
  refine ao_r (r_load_cell Try.isAgg22 rfl rfl rfl) rfl ?_
  refine ao_r (r_len_osm (x5.length : Int) Try.underlying22 rfl rfl rfl) rfl ?_
  refine ao_r (r_move rfl) rfl ?_
  refine ao_nil ?_
  refine aq_then ?_
  refine aw_block ?_
  refine aw_loop (AL.sub (fr' := [(0, .ref 0 0), (1, .int .i64 x0), (5, .int .i64 (p_impl_total x6)), (34, .int .i64 (x5.length : Int)), (35, .int .i64 0)]) (H' := [(0, .var [.cell (.os 1), ci x1, .cell (.os 2), ci x2, ci x3, ci x4]), (1, .row ty8 x5), (2, .row ty11 x6)]) (sub_r1 idn (nkL rfl) (by kernel_rfl)) (al_cnt (fun i26 (s25 : Int × dy12) => [(0, .ref 0 0), (1, .int .i64 x0), (5, .int .i64 (p_impl_total x6)), (34, .int .i64 (x5.length : Int)), (35, .int .i64 i26)]) (fun i26 (s25 : Int × dy12) => [(0, .var [.cell (.os 1), ci s25.1, .cell (.os 2), ci x2, ci x3, ci x4]), (1, .row ty8 x5), (2, .row ty11 s25.2)]) (fun d i26 (s25 : Int × dy12) => d = Int.toNat ((x5.length : Int) - i26) ∧ 0 ≤ i26 ∧ (s25.2.length : Int) = (x6.length : Int) ∧ i26 ≤ (x5.length : Int)) h ⟨rfl, (by (try simp only [List.length_set, List.length_append, List.length_cons, List.length_nil, List.length_replicate, List.length_take, List.length_drop]) <;> omega), (by (try simp only [List.length_set, List.length_append, List.length_cons, List.length_nil, List.length_replicate, List.length_take, List.length_drop]) <;> omega), (by (try simp only [List.length_set, List.length_append, List.length_cons, List.length_nil, List.length_replicate, List.length_take, List.length_drop]) <;> omega)⟩ (fun d27 i26 s25 hI h ih27 => ?_)))
  obtain ⟨hd, _, _, _⟩ := hI
  refine al_round ?_
  refine aw_seq ?_
  refine aw_region ?_
  refine ao_r (r_lss rfl rfl) rfl ?_
  refine ao_nil ?_
  refine aq_then ?_
  refine aw_seq ?_
  refine aw_cond rfl (fun hb29 => ?_) (fun hb29 => ?_)
  have q30 := d_t hb29
  obtain ⟨d27, rfl⟩ : ∃ e, d27 = e + 1 := ⟨d27 - 1, by omega⟩
  replace h := is_cntS h
  refine aw_skip ?_
  refine aq_then ?_
  refine aw_seq ?_
  refine aw_block ?_
  refine aw_seq ?_
  refine aw_region ?_
  refine ao_r (r_move rfl) rfl ?_
  refine ao_r (r_assign rfl) rfl ?_
  refine ao_nil ?_
  refine aq_then ?_
  refine aw_seq ?_
  refine aw_region ?_
  refine ao_r (r_move rfl) rfl ?_
  refine ao_r (r_move rfl) rfl ?_
  obtain ⟨r32, r32h, h⟩ := is_bind h
  refine ao_scall trivial (scall (c_impl_isIn (is_mk r32h)) rfl Try.func100 rfl rfl rfl rfl (fun σ => ⟨ad_ren rfl, ad_ren rfl, trivial⟩)) rfl ?_
  refine ao_nil ?_
  refine aq_then ?_
  refine aw_cond rfl (fun hb33 => ?_) (fun hb33 => ?_)
  replace h := is_if hb33 h
  obtain ⟨r34, r34h, h⟩ := is_bind h
  obtain ⟨g35, h⟩ := is_guard h
  refine aw_drawP 10 rfl (by kernel_rfl) ?_
  refine ap_to [(0, .ref 0 0), (1, .int .i64 x0), (5, .int .i64 (p_impl_total x6)), (34, .int .i64 (x5.length : Int)), (35, .int .i64 i26)] [(0, .var [.cell (.os 1), ci r34.2, .cell (.os 2), ci x2, ci x3, ci x4]), (1, .row ty8 x5), (2, .row ty11 ((s25.2.set i26.toNat r34.1) : dy12))] ?_ (fun key => ?_)
  refine aq_in ?_
  refine aq_then ?_
  refine aw_region ?_
  refine ao_r (r_addI rfl rfl (wrap_id (by omega) (by omega))) rfl ?_
  refine ao_r (r_move rfl) rfl ?_
  refine ao_nil ?_
  exact aq_again (AL.sub (sub_r1 idn (nkL rfl) (by kernel_rfl)) (ih27 d27 (i26 + 1) (r34.2, (s25.2.set i26.toNat r34.1)) (by omega) ⟨by omega, (by (try simp only [List.length_set, List.length_append, List.length_cons, List.length_nil, List.length_replicate, List.length_take, List.length_drop]) <;> omega), (by (try simp only [List.length_set, List.length_append, List.length_cons, List.length_nil, List.length_replicate, List.length_take, List.length_drop]) <;> omega), (by (try simp only [List.length_set, List.length_append, List.length_cons, List.length_nil, List.length_replicate, List.length_take, List.length_drop]) <;> omega)⟩ h))
  refine ap_let (g := 1) (listed := #[true, true, true, true, true, true, true, true, true, false]) [(0, .ref 0 0), (1, .int .i64 x0), (5, .int .i64 (p_impl_total x6)), (34, .int .i64 (x5.length : Int)), (35, .int .i64 i26), (48, .int .i64 r34.1), (49, .elem 2 0 1 i26.toNat)] [(0, .var [.cell (.os 1), ci r34.2, .cell (.os 2), ci x2, ci x3, ci x4]), (1, .row ty8 x5), (2, .row ty11 s25.2)] ?_ (fun k39 => ?_)
  refine ap_all [9] (by kernel_rfl) ⟨?_, trivial⟩
  refine apo_ao rfl ?_
  refine ao_effS trivial (e_store_elem_int Try.sizeOf3 rfl rfl rfl rfl (show i26.toNat < s25.2.length from by omega) rfl) ?_
  refine ap_ni ?_
  exact ap_end (by kernel_rfl) (AQ.sub (sub_r1 idn (nkL rfl) (by kernel_rfl)) key)
  refine ap_let (g := 2) (listed := #[true, true, true, true, true, true, true, true, false, false]) [(0, .ref 0 0), (1, .int .i64 x0), (5, .int .i64 (p_impl_total x6)), (34, .int .i64 (x5.length : Int)), (35, .int .i64 i26), (44, .os 2), (45, .int .i64 i26), (48, .int .i64 r34.1)] [(0, .var [.cell (.os 1), ci r34.2, .cell (.os 2), ci x2, ci x3, ci x4]), (1, .row ty8 x5), (2, .row ty11 s25.2)] ?_ (fun k38 => ?_)
  refine ap_all [8] (by kernel_rfl) ⟨?_, trivial⟩
  refine apo_ao rfl ?_
  refine ao_r (r_idxAddr_os Try.underlying23 Try.sizeOf3 rfl rfl rfl (show 0 ≤ i26 from by omega) (show i26 < (s25.2.length : Int) from by omega)) rfl ?_
  refine ap_ni ?_
  exact ap_gr idn (nkL rfl) k39 (by kernel_rfl)
  refine ap_let (g := 3) (listed := #[true, true, true, true, true, true, true, false, false, false]) [(0, .ref 0 0), (1, .int .i64 x0), (5, .int .i64 (p_impl_total x6)), (34, .int .i64 (x5.length : Int)), (35, .int .i64 i26), (44, .os 2), (45, .int .i64 i26), (46, .ref 0 0), (47, .int .i64 i26)] [(0, .var [.cell (.os 1), ci s25.1, .cell (.os 2), ci x2, ci x3, ci x4]), (1, .row ty8 x5), (2, .row ty11 s25.2)] ?_ (fun k37 => ?_)
  refine ap_all [7] (by kernel_rfl) ⟨?_, trivial⟩
  refine apo_ao rfl ?_
  refine ao_call [0, 1, 2] 3 trivial (c_impl_Tavern_throwv1 (is_mk r34h)) Try.func99 rfl rfl rfl rfl ⟨ad_ren rfl, ad_ren rfl, trivial⟩ ⟨⟨_, rfl, ⟨ad_ren rfl, rfl, ad_ren rfl, rfl, ad_ren rfl, rfl, ad_ren rfl, rfl, ad_ren rfl, rfl, ad_ren rfl, rfl, trivial⟩⟩, ⟨_, rfl, rfl⟩, ⟨_, rfl, rfl⟩, trivial⟩ rfl rfl rfl rfl rfl rfl rfl (fun r' H' hr => ?_)
  obtain ⟨rfl, rfl⟩ := hr
  refine ao_norm (y := .int .i64 r34.1) (H' := [(0, .var [.cell (.os 1), ci r34.2, .cell (.os 2), ci x2, ci x3, ci x4]), (1, .row ty8 x5), (2, .row ty11 s25.2)]) rfl rfl ?_
  refine ap_ni ?_
  exact ap_gr idn (nkL rfl) k38 (by kernel_rfl)
  refine ap_let (g := 3) (listed := #[true, true, true, false, true, true, true, true, false, false]) [(0, .ref 0 0), (1, .int .i64 x0), (5, .int .i64 (p_impl_total x6)), (34, .int .i64 (x5.length : Int)), (35, .int .i64 i26), (43, .ref 0 2), (45, .int .i64 i26), (48, .int .i64 r34.1)] [(0, .var [.cell (.os 1), ci r34.2, .cell (.os 2), ci x2, ci x3, ci x4]), (1, .row ty8 x5), (2, .row ty11 s25.2)] ?_ (fun k40 => ?_)
  refine ap_all [3] (by kernel_rfl) ⟨?_, trivial⟩
  refine apo_ao rfl ?_
  refine ao_r (r_load_cell Try.isAgg23 rfl rfl rfl) rfl ?_
  refine ap_ni ?_
  exact ap_gr idn (nkL rfl) k38 (by kernel_rfl)
  refine ap_let (g := 4) (listed := #[true, true, true, false, true, true, true, false, false, false]) [(0, .ref 0 0), (1, .int .i64 x0), (5, .int .i64 (p_impl_total x6)), (34, .int .i64 (x5.length : Int)), (35, .int .i64 i26), (43, .ref 0 2), (45, .int .i64 i26), (46, .ref 0 0), (47, .int .i64 i26)] [(0, .var [.cell (.os 1), ci s25.1, .cell (.os 2), ci x2, ci x3, ci x4]), (1, .row ty8 x5), (2, .row ty11 s25.2)] ?_ (fun k36 => ?_)
  refine ap_all [3, 7] (by kernel_rfl) ⟨?_, ?_, trivial⟩
  refine apo_ao rfl ?_
  refine ao_r (r_load_cell Try.isAgg23 rfl rfl rfl) rfl ?_
  refine ap_ni ?_
  exact ap_gr idn (nkL rfl) k37 (by kernel_rfl)
  refine apo_ao rfl ?_
  refine ao_call [0, 1, 2] 3 trivial (c_impl_Tavern_throwv1 (is_mk r34h)) Try.func99 rfl rfl rfl rfl ⟨ad_ren rfl, ad_ren rfl, trivial⟩ ⟨⟨_, rfl, ⟨ad_ren rfl, rfl, ad_ren rfl, rfl, ad_ren rfl, rfl, ad_ren rfl, rfl, ad_ren rfl, rfl, ad_ren rfl, rfl, trivial⟩⟩, ⟨_, rfl, rfl⟩, ⟨_, rfl, rfl⟩, trivial⟩ rfl rfl rfl rfl rfl rfl rfl (fun r' H' hr => ?_)
  obtain ⟨rfl, rfl⟩ := hr
  refine ao_norm (y := .int .i64 r34.1) (H' := [(0, .var [.cell (.os 1), ci r34.2, .cell (.os 2), ci x2, ci x3, ci x4]), (1, .row ty8 x5), (2, .row ty11 s25.2)]) rfl rfl ?_
  refine ap_ni ?_
  exact ap_gr idn (nkL rfl) k40 (by kernel_rfl)
  refine ap_p 0 (fun _ _ _ h => h) rfl (by kernel_rfl) (rp_move rfl) rfl ?_
  refine ap_p 1 (fun _ _ _ h => h) rfl (by kernel_rfl) (rp_nilCheck rfl rfl) rfl ?_
  refine ap_p 2 (fun _ _ _ h => h) rfl (by kernel_rfl) (rp_fieldAddr Try.underlying29 rfl Try.sizeOf23 rfl rfl rfl) rfl ?_
  refine ap_p 4 (fun _ _ _ h => h) rfl (by kernel_rfl) (rp_move rfl) rfl ?_
  refine ap_p 5 (fun _ _ _ h => h) rfl (by kernel_rfl) (rp_move rfl) rfl ?_
  refine ap_p 6 (fun _ _ _ h => h) rfl (by kernel_rfl) (rp_move rfl) rfl ?_
  exact ap_gr idn (nkL rfl) k36 (by kernel_rfl)
  replace h := is_else (ne_t hb33) h
  refine aw_skip ?_
  refine aq_in ?_
  refine aq_then ?_
  refine aw_region ?_
  refine ao_r (r_addI rfl rfl (wrap_id (by omega) (by omega))) rfl ?_
  refine ao_r (r_move rfl) rfl ?_
  refine ao_nil ?_
  exact aq_again (AL.sub (sub_r1 idn (nkL rfl) (by kernel_rfl)) (ih27 d27 (i26 + 1) (s25.1, s25.2) (by omega) ⟨by omega, (by (try simp only [List.length_set, List.length_append, List.length_cons, List.length_nil, List.length_replicate, List.length_take, List.length_drop]) <;> omega), (by (try simp only [List.length_set, List.length_append, List.length_cons, List.length_nil, List.length_replicate, List.length_take, List.length_drop]) <;> omega), (by (try simp only [List.length_set, List.length_append, List.length_cons, List.length_nil, List.length_replicate, List.length_take, List.length_drop]) <;> omega)⟩ h))
  have q31 := d_f hb29
  obtain rfl : d27 = 0 := by omega
  replace h := is_cnt0 h
  refine aw_exit ?_
  refine aq_then_exit ?_
  refine aq_then_exit ?_
  refine aq_in_exit ?_
  refine aq_then ?_
  refine aw_seq ?_
  refine aw_draw 14 (by kernel_rfl) (by kernel_rfl) ?_
  refine an_r 0 (fun _ _ _ h => h) rfl (by kernel_rfl) (r_move rfl) rfl ?_
  refine an_r 1 (fun _ _ _ h => h) rfl (by kernel_rfl) (r_nilCheck rfl rfl) rfl ?_
  refine an_r 2 (fun _ _ _ h => h) rfl (by kernel_rfl) (r_fieldAddr Try.underlying29 rfl Try.sizeOf3 rfl rfl rfl) rfl ?_
  refine an_r 3 (fun _ _ _ h => h) rfl (by kernel_rfl) (r_load_cell Try.isAgg3 rfl rfl rfl) rfl ?_
  refine an_r 4 (fun _ _ _ h => h) rfl (by kernel_rfl) (r_move rfl) rfl ?_
  refine an_r 5 (fun _ _ _ h => h) rfl (by kernel_rfl) (r_nilCheck rfl rfl) rfl ?_
  refine an_r 6 (fun _ _ _ h => h) rfl (by kernel_rfl) (r_fieldAddr Try.underlying29 rfl Try.sizeOf23 rfl rfl rfl) rfl ?_
  refine an_r 7 (fun _ _ _ h => h) rfl (by kernel_rfl) (r_load_cell Try.isAgg23 rfl rfl rfl) rfl ?_
  refine an_scall 8 (by kernel_rfl) (fun _ _ _ h => h) rfl (by kernel_rfl) trivial (scall (c_impl_total (is_mk (rfl : p_impl_total s25.2 = _))) rfl Try.func59 rfl rfl rfl rfl (fun σ => ⟨ad_os0 rfl, trivial⟩)) rfl ?_
  refine an_r 9 (fun _ _ _ h => h) rfl (by kernel_rfl) (r_move rfl) rfl ?_
  refine an_r 10 (fun _ _ _ h => h) rfl (by kernel_rfl) (r_sub rfl rfl) rfl ?_
  refine an_r 11 (fun _ _ _ h => h) rfl (by kernel_rfl) (r_add rfl rfl) rfl ?_
  refine an_r 12 (fun _ _ _ h => h) rfl (by kernel_rfl) (r_nilCheck rfl rfl) rfl ?_
  refine an_r 13 (fun _ _ _ h => h) rfl (by kernel_rfl) (r_fieldAddr Try.underlying29 rfl Try.sizeOf3 rfl rfl rfl) rfl ?_
  refine an_tail rfl rfl ?_
  refine ao_effS trivial (e_store rfl rfl rfl rfl Try.sizeOf3 rfl) ?_
  refine ao_nil ?_
  refine aq_then ?_
  refine aw_seq ?_
  refine aw_draw 13 (by kernel_rfl) (by kernel_rfl) ?_
  refine an_r 0 (fun _ _ _ h => h) rfl (by kernel_rfl) (r_move rfl) rfl ?_
  refine an_r 1 (fun _ _ _ h => h) rfl (by kernel_rfl) (r_move rfl) rfl ?_
  refine an_r 2 (fun _ _ _ h => h) rfl (by kernel_rfl) (r_nilCheck rfl rfl) rfl ?_
  refine an_r 3 (fun _ _ _ h => h) rfl (by kernel_rfl) (r_fieldAddr Try.underlying29 rfl Try.sizeOf3 rfl rfl rfl) rfl ?_
  refine an_r 4 (fun _ _ _ h => h) rfl (by kernel_rfl) (r_load_cell Try.isAgg3 rfl rfl rfl) rfl ?_
  refine an_r 5 (fun _ _ _ h => h) rfl (by kernel_rfl) (r_move rfl) rfl ?_
  refine an_r 6 (fun _ _ _ h => h) rfl (by kernel_rfl) (r_nilCheck rfl rfl) rfl ?_
  refine an_r 7 (fun _ _ _ h => h) rfl (by kernel_rfl) (r_fieldAddr Try.underlying29 rfl Try.sizeOf23 rfl rfl rfl) rfl ?_
  refine an_r 8 (fun _ _ _ h => h) rfl (by kernel_rfl) (r_load_cell Try.isAgg23 rfl rfl rfl) rfl ?_
  refine an_scall 9 (by kernel_rfl) (fun _ _ _ h => h) rfl (by kernel_rfl) trivial (scall (c_impl_total (is_mk (rfl : p_impl_total s25.2 = _))) rfl Try.func59 rfl rfl rfl rfl (fun σ => ⟨ad_os0 rfl, trivial⟩)) rfl ?_
  refine an_r 10 (fun _ _ _ h => h) rfl (by kernel_rfl) (r_max rfl rfl) rfl ?_
  refine an_r 11 (fun _ _ _ h => h) rfl (by kernel_rfl) (r_nilCheck rfl rfl) rfl ?_
  refine an_r 12 (fun _ _ _ h => h) rfl (by kernel_rfl) (r_fieldAddr Try.underlying29 rfl Try.sizeOf3 rfl rfl rfl) rfl ?_
  refine an_tail rfl rfl ?_
  refine ao_effS trivial (e_store rfl rfl rfl rfl Try.sizeOf3 rfl) ?_
  refine ao_nil ?_
  refine aq_then ?_
  refine aw_seq ?_
  refine aw_region ?_
  refine ao_r (r_assign rfl) rfl ?_
  refine ao_nil ?_
  refine aq_then ?_
  refine aw_ret ?_
  refine aq_ret ?_
  obtain rfl := is_some h
  exact aq_finx (l := [.tmp 4]) (xs := [.bool true]) idn [.bool true] [(0, .var [.cell (.os 1), ci s25.1, .cell (.os 2), .cell (.int .i64 (IntKind.wrap .i64 (x2 + (IntKind.wrap .i64 ((p_impl_total s25.2) - (p_impl_total x6)))))), .cell (.int .i64 (if (p_impl_total s25.2) > x3 then (p_impl_total s25.2) else x3)), ci x4]), (1, .row ty8 x5), (2, .row ty11 s25.2)] rfl (by exact ⟨rfl, trivial⟩) (by exact ⟨ad_ren rfl, trivial⟩) (by exact ⟨⟨_, rfl, ⟨ad_ren rfl, rfl, ad_ren rfl, rfl, ad_ren rfl, rfl, ad_ren rfl, rfl, ad_ren rfl, rfl, ad_ren rfl, rfl, trivial⟩⟩, ⟨_, rfl, rfl⟩, ⟨_, rfl, rfl⟩, trivial⟩) rfl (nkL rfl) rfl rfl ⟨rfl, rfl⟩
theorem c_impl_Tavern_isPlace {x0 : Int} {x1 : Int} {x2 : Int} {x3 : Int} {x4 : Int} {x5 : dy10} {x6 : dy12} {r : Bool} (h : Is (p_impl_Tavern_isPlace x0 x1 x2 x3 x4 x5 x6) r) :
    ACalls Try.prog 101 [.ref 0 0, .int .i64 x0] [(0, .var [.cell (.os 1), ci x1, .cell (.os 2), ci x2, ci x3, ci x4]), (1, .row ty8 x5), (2, .row ty11 x6)] (fun r' H' => r' = .bool r ∧ H' = [(0, .var [.cell (.os 1), ci x1, .cell (.os 2), ci x2, ci x3, ci x4]), (1, .row ty8 x5), (2, .row ty11 x6)]) := by
  unfold p_impl_Tavern_isPlace at h
  refine ac_enter ⟨13, 3⟩ Try.func101 rfl rfl rfl rfl rfl (fun Γ => ?_)
  refine row_len_m 1 (x5.length : Int) rfl rfl (fun hr1 => ?_)
  refine row_len_m 2 (x6.length : Int) rfl rfl (fun hr2 => ?_)
  refine aw_seq ?_
  refine aw_region ?_
  refine ao_r (r_assign rfl) rfl ?_
  refine ao_nil ?_
  refine aq_then ?_
  refine aw_seq ?_
  refine aw_region ?_
  refine ao_r (r_move rfl) rfl ?_
  refine ao_r (r_move rfl) rfl ?_
  refine ao_r (r_nilCheck rfl rfl) rfl ?_
  refine ao_r (r_fieldAddr Try.underlying29 rfl Try.sizeOf22 rfl rfl rfl) rfl ?_
  refine ao_r (r_load_cell Try.isAgg22 rfl rfl rfl) rfl ?_
  refine ao_r (r_len_osm (x5.length : Int) Try.underlying22 rfl rfl rfl) rfl ?_
  refine ao_r (r_subI rfl rfl (wrap_id (by omega) (by omega))) rfl ?_
  refine ao_scall trivial (scall (c_impl_within (is_mk (rfl : p_impl_within x0 0 ((x5.length : Int) - 1) = _))) rfl Try.func54 rfl rfl rfl rfl (fun σ => ⟨ad_ren rfl, ad_ren rfl, ad_ren rfl, trivial⟩)) rfl ?_
  refine ao_r (r_assign rfl) rfl ?_
  refine ao_nil ?_
  refine aq_then ?_
  refine aw_ret ?_
  refine aq_ret ?_
  obtain rfl := is_eq h
  exact aq_finx (l := [.tmp 4]) (xs := [.bool (p_impl_within x0 0 ((x5.length : Int) - 1))]) idn [.bool (p_impl_within x0 0 ((x5.length : Int) - 1))] [(0, .var [.cell (.os 1), ci x1, .cell (.os 2), ci x2, ci x3, ci x4]), (1, .row ty8 x5), (2, .row ty11 x6)] rfl (by exact ⟨rfl, trivial⟩) (by exact ⟨ad_ren rfl, trivial⟩) (by exact ⟨⟨_, rfl, ⟨ad_ren rfl, rfl, ad_ren rfl, rfl, ad_ren rfl, rfl, ad_ren rfl, rfl, ad_ren rfl, rfl, ad_ren rfl, rfl, trivial⟩⟩, ⟨_, rfl, rfl⟩, ⟨_, rfl, rfl⟩, trivial⟩) rfl (nkL rfl) rfl rfl ⟨rfl, rfl⟩
theorem c_impl_shifted {x0 : dy12} {x1 : Int} {r : dy12} (h : Is (p_impl_shifted x0 x1) r) :
    Scalar Try.prog 109 [.v ty8 x0, .int .i64 x1] (.v ty8 r) := by
  unfold p_impl_shifted at h
  refine ac_enter ⟨17, 0⟩ Try.func109 rfl rfl rfl rfl rfl (fun Γ => ?_)
  refine aw_seq ?_
  refine aw_region ?_
  refine ao_eff trivial (e_box 0 rfl rfl rfl rfl rfl rfl) rfl ?_
  refine ao_eff trivial (e_alloc 1 (y := .v ty8 ((List.replicate 6 0) : dy12)) Try.zeroValue76 (fun ρ h M => ra_zero_arr (t := ty11) rfl) rfl rfl rfl rfl rfl) rfl ?_
  refine ao_nil ?_
  refine aq_then ?_
  refine aw_seq ?_
  refine aw_seq ?_
  refine aw_region ?_
  refine ao_r (r_move rfl) rfl ?_
  refine ao_nil ?_
  refine aq_then ?_
  refine aw_block ?_
  refine aw_loop (AL.sub (fr' := [(1, .int .i64 x1), (2, .ref 0 0), (4, .ref 1 0), (6, .int .i64 0)]) (H' := [(0, .var [.arr ty11 6 x0]), (1, .var [.arr ty11 6 ((List.replicate 6 0) : dy12)])]) (sub_r1 idn (nk rfl) (by kernel_rfl)) (al_cnt (fun i2 (s1 : dy12) => [(1, .int .i64 x1), (2, .ref 0 0), (4, .ref 1 0), (6, .int .i64 i2)]) (fun i2 (s1 : dy12) => [(0, .var [.arr ty11 6 s1]), (1, .var [.arr ty11 6 ((List.replicate 6 0) : dy12)])]) (fun d i2 (s1 : dy12) => d = Int.toNat (6 - i2) ∧ 0 ≤ i2 ∧ (s1.length : Int) = (x0.length : Int) ∧ i2 ≤ 6) h ⟨rfl, (by (try simp only [List.length_set, List.length_append, List.length_cons, List.length_nil, List.length_replicate, List.length_take, List.length_drop]) <;> omega), (by (try simp only [List.length_set, List.length_append, List.length_cons, List.length_nil, List.length_replicate, List.length_take, List.length_drop]) <;> omega), (by (try simp only [List.length_set, List.length_append, List.length_cons, List.length_nil, List.length_replicate, List.length_take, List.length_drop]) <;> omega)⟩ (fun d3 i2 s1 hI h ih3 => ?_)))
  obtain ⟨hd, _, _, _⟩ := hI
  refine al_round ?_
  refine aw_seq ?_
  refine aw_region ?_
  refine ao_r (r_lss rfl rfl) rfl ?_
  refine ao_nil ?_
  refine aq_then ?_
  refine aw_seq ?_
  refine aw_cond rfl (fun hb5 => ?_) (fun hb5 => ?_)
  have q6 := d_t hb5
  obtain ⟨d3, rfl⟩ : ∃ e, d3 = e + 1 := ⟨d3 - 1, by omega⟩
  replace h := is_cntS h
  refine aw_skip ?_
  refine aq_then ?_
  refine aw_seq ?_
  refine aw_block ?_
  refine aw_seq ?_
  refine aw_region ?_
  refine ao_r (r_move rfl) rfl ?_
  refine ao_r (r_assign rfl) rfl ?_
  refine ao_nil ?_
  refine aq_then ?_
  refine aw_region ?_
  refine ao_r (r_move rfl) rfl ?_
  refine ao_r (r_idxAddr_arr (i := i2) Try.underlying76 Try.sizeOf3 rfl rfl (show 0 ≤ i2 from by omega) (show i2 < (6 : Int) from by omega)) rfl ?_
  refine ao_r (r_load_elema_int Try.isAgg3 Try.sizeOf3 rfl rfl rfl (show i2.toNat < 6 from by omega)) rfl ?_
  refine ao_r (r_move rfl) rfl ?_
  refine ao_r (r_add rfl rfl) rfl ?_
  refine ao_r (r_idxAddr_arr (i := i2) Try.underlying76 Try.sizeOf3 rfl rfl (show 0 ≤ i2 from by omega) (show i2 < (6 : Int) from by omega)) rfl ?_
  refine ao_effS trivial (e_store_elema_int Try.sizeOf3 rfl rfl rfl rfl (show i2.toNat < 6 from by omega) rfl) ?_
  refine ao_nil ?_
  refine aq_in ?_
  refine aq_then ?_
  refine aw_region ?_
  refine ao_r (r_addI rfl rfl (wrap_id (by omega) (by omega))) rfl ?_
  refine ao_r (r_move rfl) rfl ?_
  refine ao_nil ?_
  exact aq_again (AL.sub (sub_r1 idn (nk rfl) (by kernel_rfl)) (ih3 d3 (i2 + 1) (s1.set i2.toNat (IntKind.wrap .i64 ((s1.getD i2.toNat 0) + x1))) (by omega) ⟨by omega, (by (try simp only [List.length_set, List.length_append, List.length_cons, List.length_nil, List.length_replicate, List.length_take, List.length_drop]) <;> omega), (by (try simp only [List.length_set, List.length_append, List.length_cons, List.length_nil, List.length_replicate, List.length_take, List.length_drop]) <;> omega), (by (try simp only [List.length_set, List.length_append, List.length_cons, List.length_nil, List.length_replicate, List.length_take, List.length_drop]) <;> omega)⟩ h))
  have q7 := d_f hb5
  obtain rfl : d3 = 0 := by omega
  replace h := is_cnt0 h
  refine aw_exit ?_
  refine aq_then_exit ?_
  refine aq_then_exit ?_
  refine aq_in_exit ?_
  refine aq_then ?_
  refine aw_seq ?_
  refine aw_region ?_
  refine ao_r (r_load_arr rfl Try.isAgg76 Try.sizeOf76 rfl rfl rfl) rfl ?_
  refine ao_effS trivial (e_store rfl rfl rfl rfl Try.sizeOf76 rfl) ?_
  refine ao_nil ?_
  refine aq_then ?_
  refine aw_ret ?_
  refine aq_ret ?_
  obtain rfl := is_eq h
  exact aq_finx (l := [.cell 4 76]) (xs := [.v ty8 s1]) idn [.v ty8 s1] [] rfl (by exact ⟨⟨⟨_, _, rfl⟩, r_load_arr rfl Try.isAgg76 Try.sizeOf76 rfl rfl rfl⟩, trivial⟩) (by exact ⟨ad_ren rfl, trivial⟩) (by exact trivial) rfl (nk rfl) rfl rfl ⟨rfl, rfl⟩
theorem c_impl_ShiftDie {x0 : dy12} {x1 : Int} {r : dy12 × Bool} (h : Is (p_impl_ShiftDie x0 x1) r) :
    Scalar Try.prog 102 [.v ty8 x0, .int .i64 x1] (.tup [.v ty8 r.1, .bool r.2]) := by
  unfold p_impl_ShiftDie at h
  refine ac_enter ⟨25, 0⟩ Try.func102 rfl rfl rfl rfl rfl (fun Γ => ?_)
  refine aw_seq ?_
  refine aw_region ?_
  refine ao_eff trivial (e_box 0 rfl rfl rfl rfl rfl rfl) rfl ?_
  refine ao_eff trivial (e_alloc 1 (y := .v ty8 ((List.replicate 6 0) : dy12)) Try.zeroValue76 (fun ρ h M => ra_zero_arr (t := ty11) rfl) rfl rfl rfl rfl rfl) rfl ?_
  refine ao_r (r_assign rfl) rfl ?_
  refine ao_nil ?_
  refine aq_then ?_
  refine aw_seq ?_
  refine aw_seq ?_
  refine aw_region ?_
  refine ao_r (r_load_arr rfl Try.isAgg76 Try.sizeOf76 rfl rfl rfl) rfl ?_
  refine ao_scall trivial (scall (c_impl_IsDie (is_mk (rfl : p_impl_IsDie x0 = _))) rfl Try.func74 rfl rfl rfl rfl (fun σ => ⟨ad_ren rfl, trivial⟩)) rfl ?_
  refine ao_r (r_not rfl) rfl ?_
  refine ao_r (r_move rfl) rfl ?_
  refine ao_readG (x := .int .i64 x1) rfl (GV.F rfl) (fun hg1 => r_move rfl) rfl ?_
  refine ao_scallG (r := .bool (p_impl_within x1 (-30) 30)) rfl (GV.F rfl) (fun hg2 => SCall.strip 10 rfl (hg2) (scall (c_impl_within (is_mk (rfl : p_impl_within x1 (-30) 30 = _))) rfl Try.func54 rfl rfl rfl rfl (fun σ => ⟨ad_ren rfl, ad_ren rfl, ad_ren rfl, trivial⟩))) rfl ?_
  refine ao_readG (x := .bool (!(p_impl_within x1 (-30) 30))) rfl (GV.F rfl) (fun hg3 => Reads.strip 11 rfl (hg3) (r_not rfl)) rfl ?_
  refine ao_r (r_orB rfl rfl) rfl ?_
  refine ao_r (r_move rfl) rfl ?_
  refine ao_readG (x := .v ty8 x0) rfl (GV.F rfl) (fun hg4 => by
        obtain ⟨q5, q6⟩ := or_f (not_t hg4)
        exact r_load_arr rfl Try.isAgg76 Try.sizeOf76 rfl rfl rfl) rfl ?_
  refine ao_readG (x := .int .i64 x1) rfl (GV.F rfl) (fun hg7 => by
        obtain ⟨q8, q9⟩ := or_f (not_t hg7)
        exact r_move rfl) rfl ?_
  refine ao_scallG (r := .v ty8 ((p_impl_shifted x0 x1) : dy12)) rfl (GV.F rfl) (fun hg10 => by
        obtain ⟨q11, q12⟩ := or_f (not_t hg10)
        exact SCall.strip 15 rfl (hg10) (SCall.strip 16 rfl (hg10) (scall (c_impl_shifted (is_mk (rfl : p_impl_shifted x0 x1 = _))) rfl Try.func109 rfl rfl rfl rfl (fun σ => ⟨ad_ren rfl, ad_ren rfl, trivial⟩)))) rfl ?_
  refine ao_scallG (r := .bool (p_impl_IsDie (p_impl_shifted x0 x1))) rfl (GV.F rfl) (fun hg13 => by
        obtain ⟨q14, q15⟩ := or_f (not_t hg13)
        exact SCall.strip 17 rfl (hg13) (scall (c_impl_IsDie (is_mk (rfl : p_impl_IsDie (p_impl_shifted x0 x1) = _))) rfl Try.func74 rfl rfl rfl rfl (fun σ => ⟨ad_ren rfl, trivial⟩))) rfl ?_
  refine ao_readG (x := .bool (!(p_impl_IsDie (p_impl_shifted x0 x1)))) rfl (GV.F rfl) (fun hg16 => by
        obtain ⟨q17, q18⟩ := or_f (not_t hg16)
        exact Reads.strip 18 rfl (hg16) (r_not rfl)) rfl ?_
  refine ao_r (r_orB rfl rfl) rfl ?_
  refine ao_nil ?_
  refine aq_then ?_
  refine aw_cond rfl (fun hb19 => ?_) (fun hb19 => ?_)
  replace h := is_if hb19 h
  refine aw_seq ?_
  refine aw_region ?_
  refine ao_r (r_build_zero (t := ty11) Try.underlying76 Try.zeroValue76 Try.sizeOf3 rfl) rfl ?_
  refine ao_effS trivial (e_store rfl rfl rfl rfl Try.sizeOf76 rfl) ?_
  refine ao_r (r_assign rfl) rfl ?_
  refine ao_nil ?_
  refine aq_then ?_
  refine aw_ret ?_
  refine aq_then_ret ?_
  refine aq_ret ?_
  obtain rfl := is_eq h
  exact aq_finx (l := [.cell 4 76, .tmp 5]) (xs := [.v ty8 ((List.replicate 6 0) : dy12), .bool false]) idn [.v ty8 ((List.replicate 6 0) : dy12), .bool false] [] rfl (by exact ⟨⟨⟨_, _, rfl⟩, r_load_arr rfl Try.isAgg76 Try.sizeOf76 rfl rfl rfl⟩, rfl, trivial⟩) (by exact ⟨ad_ren rfl, ad_ren rfl, trivial⟩) (by exact trivial) rfl (nk rfl) rfl rfl ⟨rfl, rfl⟩
  obtain ⟨q20, q21⟩ := or_f hb19
  obtain ⟨q22, q23⟩ := or_f q20
  replace h := is_else (ne_t hb19) h
  refine aw_skip ?_
  refine aq_then ?_
  refine aw_seq ?_
  refine aw_region ?_
  refine ao_r (r_load_arr rfl Try.isAgg76 Try.sizeOf76 rfl rfl rfl) rfl ?_
  refine ao_r (r_move rfl) rfl ?_
  refine ao_scall trivial (scall (c_impl_shifted (is_mk (rfl : p_impl_shifted x0 x1 = _))) rfl Try.func109 rfl rfl rfl rfl (fun σ => ⟨ad_ren rfl, ad_ren rfl, trivial⟩)) rfl ?_
  refine ao_effS trivial (e_store rfl rfl rfl rfl Try.sizeOf76 rfl) ?_
  refine ao_r (r_assign rfl) rfl ?_
  refine ao_nil ?_
  refine aq_then ?_
  refine aw_ret ?_
  refine aq_ret ?_
  obtain rfl := is_eq h
  exact aq_finx (l := [.cell 4 76, .tmp 5]) (xs := [.v ty8 ((p_impl_shifted x0 x1) : dy12), .bool true]) idn [.v ty8 ((p_impl_shifted x0 x1) : dy12), .bool true] [] rfl (by exact ⟨⟨⟨_, _, rfl⟩, r_load_arr rfl Try.isAgg76 Try.sizeOf76 rfl rfl rfl⟩, rfl, trivial⟩) (by exact ⟨ad_ren rfl, ad_ren rfl, trivial⟩) (by exact trivial) rfl (nk rfl) rfl rfl ⟨rfl, rfl⟩
theorem c_impl_Tavern_shift {x0 : Int} {x1 : Int} {x2 : Int} {x3 : Int} {x4 : Int} {x5 : Int} {x6 : dy10} {x7 : dy12} {r : Bool × dy10 × dy12} (h : Is (p_impl_Tavern_shift x0 x1 x2 x3 x4 x5 x6 x7) (some r)) :
    ACalls Try.prog 88 [.ref 0 0, .int .i64 x0, .int .i64 x1] [(0, .var [.cell (.os 1), ci x2, .cell (.os 2), ci x3, ci x4, ci x5]), (1, .row ty8 x6), (2, .row ty11 x7)] (fun r' H' => r' = .bool r.1 ∧ H' = [(0, .var [.cell (.os 1), ci x2, .cell (.os 3), ci x3, ci x4, ci x5]), (1, .row ty8 r.2.1), (3, .row ty11 r.2.2)]) := by
  unfold p_impl_Tavern_shift at h
  refine ac_enter ⟨36, 3⟩ Try.func88 rfl rfl rfl rfl rfl (fun Γ => ?_)
  refine AW.sub (fr' := [(0, .ref 0 0), (1, .int .i64 x0), (2, .int .i64 x1)]) (H' := [(0, .var [.cell (.os 1), ci x2, .cell (.os 3), ci x3, ci x4, ci x5]), (1, .row ty8 x6), (3, .row ty11 x7)]) (sub_r1 (rn [(3, 2)]) (nkL rfl) (by kernel_rfl)) ?_
  refine row_len_m 1 (x6.length : Int) rfl rfl (fun hr1 => ?_)
  refine row_len_m 3 (x7.length : Int) rfl rfl (fun hr3 => ?_)
  refine aw_seq ?_
  refine aw_region ?_
  refine ao_r (r_assign rfl) rfl ?_
  refine ao_nil ?_
  refine aq_then ?_
  refine aw_seq ?_
  refine aw_seq ?_
  refine aw_region ?_
  refine ao_r (r_move rfl) rfl ?_
  refine ao_r (r_move rfl) rfl ?_
  refine ao_call [0, 1, 3] 4 trivial (c_impl_Tavern_isPlace (is_mk (rfl : p_impl_Tavern_isPlace x0 x2 x3 x4 x5 x6 x7 = _))) Try.func101 rfl rfl rfl rfl ⟨ad_ren rfl, ad_ren rfl, trivial⟩ ⟨⟨_, rfl, ⟨ad_ren rfl, rfl, ad_ren rfl, rfl, ad_ren rfl, rfl, ad_ren rfl, rfl, ad_ren rfl, rfl, ad_ren rfl, rfl, trivial⟩⟩, ⟨_, rfl, rfl⟩, ⟨_, rfl, rfl⟩, trivial⟩ rfl rfl rfl rfl rfl rfl rfl (fun r' H' hr => ?_)
  obtain ⟨rfl, rfl⟩ := hr
  refine ao_norm (y := .bool (p_impl_Tavern_isPlace x0 x2 x3 x4 x5 x6 x7)) (H' := [(0, .var [.cell (.os 1), ci x2, .cell (.os 3), ci x3, ci x4, ci x5]), (1, .row ty8 x6), (3, .row ty11 x7)]) rfl rfl ?_
  refine ao_r (r_not rfl) rfl ?_
  refine ao_nil ?_
  refine aq_then ?_
  refine aw_cond rfl (fun hb1 => ?_) (fun hb1 => ?_)
  replace h := is_else (ne_t (not_t hb1)) h
  refine aw_seq ?_
  refine aw_region ?_
  refine ao_r (r_assign rfl) rfl ?_
  refine ao_nil ?_
  refine aq_then ?_
  refine aw_ret ?_
  refine aq_then_ret ?_
  refine aq_ret ?_
  obtain rfl := is_some h
  exact aq_finx (l := [.tmp 6]) (xs := [.bool false]) idn [.bool false] [(0, .var [.cell (.os 1), ci x2, .cell (.os 3), ci x3, ci x4, ci x5]), (1, .row ty8 x6), (3, .row ty11 x7)] rfl (by exact ⟨rfl, trivial⟩) (by exact ⟨ad_ren rfl, trivial⟩) (by exact ⟨⟨_, rfl, ⟨ad_ren rfl, rfl, ad_ren rfl, rfl, ad_ren rfl, rfl, ad_ren rfl, rfl, ad_ren rfl, rfl, ad_ren rfl, rfl, trivial⟩⟩, ⟨_, rfl, rfl⟩, ⟨_, rfl, rfl⟩, trivial⟩) rfl (nkL rfl) rfl rfl ⟨rfl, rfl⟩
  replace h := is_if (not_f hb1) h
  refine aw_skip ?_
  refine aq_then ?_
  refine aw_seq ?_
  refine aw_region ?_
  refine ao_r (r_move rfl) rfl ?_
  refine ao_r (r_nilCheck rfl rfl) rfl ?_
  refine ao_r (r_fieldAddr Try.underlying29 rfl Try.sizeOf22 rfl rfl rfl) rfl ?_
  refine ao_r (r_load_cell Try.isAgg22 rfl rfl rfl) rfl ?_
  refine ao_r (r_move rfl) rfl ?_
  obtain ⟨g2, h⟩ := is_guard h
  obtain ⟨g3, h⟩ := is_guard h
  refine ao_r (r_idxAddr_os Try.underlying22 Try.sizeOf76 rfl rfl rfl (show 0 ≤ x0 from by omega) (show x0 < (x6.length : Int) from by omega)) rfl ?_
  refine ao_r (r_load_elemv (t := ty8) Try.isAgg76 Try.sizeOf76 rfl rfl (show x0.toNat < x6.length from by omega)) rfl ?_
  refine ao_r (r_move rfl) rfl ?_
  refine ao_scall trivial (scall (c_impl_ShiftDie (is_mk (rfl : p_impl_ShiftDie (x6.getD x0.toNat (List.replicate 6 0)) x1 = _))) rfl Try.func102 rfl rfl rfl rfl (fun σ => ⟨ad_ren rfl, ad_ren rfl, trivial⟩)) rfl ?_
  refine ao_r (r_move rfl) rfl ?_
  refine ao_r (r_extract rfl rfl) rfl ?_
  refine ao_r (r_extract rfl rfl) rfl ?_
  refine ao_eff trivial (e_alloc 4 (y := .v ty8 ((List.replicate 6 0) : dy12)) Try.zeroValue76 (fun ρ h M => ra_zero_arr (t := ty11) rfl) rfl rfl rfl rfl rfl) rfl ?_
  refine ao_effS trivial (e_store rfl rfl rfl rfl Try.sizeOf76 rfl) ?_
  refine ao_r (r_assign rfl) rfl ?_
  refine ao_nil ?_
  refine aq_then ?_
  refine aw_seq ?_
  refine aw_drawP 12 rfl (by kernel_rfl) ?_
  refine ap_move 5 (by kernel_rfl) (fun _ _ _ h => h) rfl (by kernel_rfl) rfl rfl ?_
  refine ap_an (f := 7) 8 (by kernel_rfl) rfl ?_
  refine an_r 0 (fun _ _ _ h => h) rfl (by kernel_rfl) (r_move rfl) rfl ?_
  refine an_r 1 (fun _ _ _ h => h) rfl (by kernel_rfl) (r_nilCheck rfl rfl) rfl ?_
  refine an_r 2 (fun _ _ _ h => h) rfl (by kernel_rfl) (r_fieldAddr Try.underlying29 rfl Try.sizeOf22 rfl rfl rfl) rfl ?_
  refine an_r 3 (fun _ _ _ h => h) rfl (by kernel_rfl) (r_load_cell Try.isAgg22 rfl rfl rfl) rfl ?_
  refine an_r 4 (fun _ _ _ h => h) rfl (by kernel_rfl) (r_move rfl) rfl ?_
  refine an_r 6 (fun _ _ _ h => h) rfl (by kernel_rfl) (r_load_arr rfl Try.isAgg76 Try.sizeOf76 rfl rfl rfl) rfl ?_
  refine an_r 7 (fun _ _ _ h => h) rfl (by kernel_rfl) (r_idxAddr_os Try.underlying22 Try.sizeOf76 rfl rfl rfl (show 0 ≤ x0 from by omega) (show x0 < (x6.length : Int) from by omega)) rfl ?_
  refine an_tail rfl rfl ?_
  refine ao_effS trivial (e_store_elem (t := ty8) rfl Try.sizeOf76 rfl rfl rfl rfl (show x0.toNat < x6.length from by omega)) ?_
  refine ao_r (r_nilCheck rfl rfl) rfl ?_
  refine ao_r (r_fieldAddr Try.underlying29 rfl Try.sizeOf23 rfl rfl rfl) rfl ?_
  refine ao_effS trivial (e_store rfl rfl rfl rfl Try.sizeOf23 rfl) ?_
  refine ao_nil ?_
  refine aq_then ?_
  refine aw_seq ?_
  refine aw_region ?_
  refine ao_r (r_move rfl) rfl ?_
  refine ao_r (r_assign rfl) rfl ?_
  refine ao_nil ?_
  refine aq_then ?_
  refine aw_ret ?_
  refine aq_ret ?_
  obtain rfl := is_some h
  refine AQ.sub (sub_nil_cell (t := ty11) (i := 0) 5 [.cell (.os 1), ci x2] [ci x3, ci x4, ci x5] rfl rfl rfl) ?_
  exact aq_finx (l := [.tmp 6]) (xs := [.bool ((p_impl_ShiftDie (x6.getD x0.toNat (List.replicate 6 0)) x1).2)]) (rn [(3, 5)]) [.bool ((p_impl_ShiftDie (x6.getD x0.toNat (List.replicate 6 0)) x1).2)] [(0, .var [.cell (.os 1), ci x2, .cell (.os 3), ci x3, ci x4, ci x5]), (1, .row ty8 ((x6.set x0.toNat ((p_impl_ShiftDie (x6.getD x0.toNat (List.replicate 6 0)) x1).1)) : dy10)), (3, .row ty11 ([] : dy12))] rfl (by exact ⟨rfl, trivial⟩) (by exact ⟨ad_ren rfl, trivial⟩) (by exact ⟨⟨_, rfl, ⟨ad_ren rfl, rfl, ad_ren rfl, rfl, ad_ren rfl, rfl, ad_ren rfl, rfl, ad_ren rfl, rfl, ad_ren rfl, rfl, trivial⟩⟩, ⟨_, rfl, rfl⟩, ⟨_, rfl, rfl⟩, trivial⟩) rfl (nkL rfl) rfl rfl ⟨rfl, rfl⟩
theorem c_impl_Tavern_put {x0 : Int} {x1 : Int} {x2 : Int} {x3 : Int} {x4 : Int} {x5 : Int} {x6 : dy10} {x7 : dy12} {r : Bool × dy10 × dy12} (h : Is (p_impl_Tavern_put x0 x1 x2 x3 x4 x5 x6 x7) (some r)) :
    ACalls Try.prog 89 [.ref 0 0, .int .i64 x0, .int .i64 x1] [(0, .var [.cell (.os 1), ci x2, .cell (.os 2), ci x3, ci x4, ci x5]), (1, .row ty8 x6), (2, .row ty11 x7)] (fun r' H' => r' = .bool r.1 ∧ H' = [(0, .var [.cell (.os 3), ci x2, .cell (.os 4), ci x3, ci x4, ci x5]), (3, .row ty8 r.2.1), (4, .row ty11 r.2.2)]) := by
  unfold p_impl_Tavern_put at h
  refine ac_enter ⟨41, 3⟩ Try.func89 rfl rfl rfl rfl rfl (fun Γ => ?_)
  refine AW.sub (fr' := [(0, .ref 0 0), (1, .int .i64 x0), (2, .int .i64 x1)]) (H' := [(0, .var [.cell (.os 3), ci x2, .cell (.os 4), ci x3, ci x4, ci x5]), (3, .row ty8 x6), (4, .row ty11 x7)]) (sub_r1 (rn [(3, 1), (4, 2)]) (nkL rfl) (by kernel_rfl)) ?_
  refine row_len_m 3 (x6.length : Int) rfl rfl (fun hr3 => ?_)
  refine row_len_m 4 (x7.length : Int) rfl rfl (fun hr4 => ?_)
  refine aw_seq ?_
  refine aw_region ?_
  refine ao_r (r_assign rfl) rfl ?_
  refine ao_nil ?_
  refine aq_then ?_
  refine aw_seq ?_
  refine aw_seq ?_
  refine aw_region ?_
  refine ao_r (r_move rfl) rfl ?_
  refine ao_scall trivial (scall (c_impl_isFace (is_mk (rfl : p_impl_isFace x0 = _))) rfl Try.func95 rfl rfl rfl rfl (fun σ => ⟨ad_ren rfl, trivial⟩)) rfl ?_
  refine ao_r (r_not rfl) rfl ?_
  refine ao_r (r_move rfl) rfl ?_
  refine ao_readG (x := .int .i64 x1) rfl (GV.F rfl) (fun hg1 => r_move rfl) rfl ?_
  refine ao_scallG (r := .bool (p_impl_isFace x1)) rfl (GV.F rfl) (fun hg2 => SCall.strip 13 rfl (hg2) (scall (c_impl_isFace (is_mk (rfl : p_impl_isFace x1 = _))) rfl Try.func95 rfl rfl rfl rfl (fun σ => ⟨ad_ren rfl, trivial⟩))) rfl ?_
  refine ao_readG (x := .bool (!(p_impl_isFace x1))) rfl (GV.F rfl) (fun hg3 => Reads.strip 14 rfl (hg3) (r_not rfl)) rfl ?_
  refine ao_r (r_orB rfl rfl) rfl ?_
  refine ao_nil ?_
  refine aq_then ?_
  refine aw_cond rfl (fun hb4 => ?_) (fun hb4 => ?_)
  replace h := is_if hb4 h
  refine aw_seq ?_
  refine aw_region ?_
  refine ao_r (r_assign rfl) rfl ?_
  refine ao_nil ?_
  refine aq_then ?_
  refine aw_ret ?_
  refine aq_then_ret ?_
  refine aq_ret ?_
  obtain rfl := is_some h
  exact aq_finx (l := [.tmp 6]) (xs := [.bool false]) idn [.bool false] [(0, .var [.cell (.os 3), ci x2, .cell (.os 4), ci x3, ci x4, ci x5]), (3, .row ty8 x6), (4, .row ty11 x7)] rfl (by exact ⟨rfl, trivial⟩) (by exact ⟨ad_ren rfl, trivial⟩) (by exact ⟨⟨_, rfl, ⟨ad_ren rfl, rfl, ad_ren rfl, rfl, ad_ren rfl, rfl, ad_ren rfl, rfl, ad_ren rfl, rfl, ad_ren rfl, rfl, trivial⟩⟩, ⟨_, rfl, rfl⟩, ⟨_, rfl, rfl⟩, trivial⟩) rfl (nkL rfl) rfl rfl ⟨rfl, rfl⟩
  obtain ⟨q5, q6⟩ := or_f hb4
  replace h := is_else (ne_t hb4) h
  refine aw_skip ?_
  refine aq_then ?_
  refine aw_seq ?_
  refine aw_region ?_
  refine ao_eff trivial (e_alloc 5 (y := .v ty8 ((List.replicate 6 0) : dy12)) Try.zeroValue76 (fun ρ h M => ra_zero_arr (t := ty11) rfl) rfl rfl rfl rfl rfl) rfl ?_
  refine ao_nil ?_
  refine aq_then ?_
  refine aw_seq ?_
  refine aw_seq ?_
  refine aw_region ?_
  refine ao_r (r_move rfl) rfl ?_
  refine ao_nil ?_
  refine aq_then ?_
  refine aw_block ?_
  refine aw_loop (AL.sub (fr' := [(0, .ref 0 0), (1, .int .i64 x0), (2, .int .i64 x1), (7, .ref 3 0), (17, .int .i64 0)]) (H' := [(0, .var [.cell (.os 4), ci x2, .cell (.os 5), ci x3, ci x4, ci x5]), (3, .var [.arr ty11 6 ((List.replicate 6 0) : dy12)]), (4, .row ty8 x6), (5, .row ty11 x7)]) (sub_r1 (rn [(3, 5), (4, 3), (5, 4)]) (nkL rfl) (by kernel_rfl)) (al_cnt (fun i8 (s7 : dy12) => [(0, .ref 0 0), (1, .int .i64 x0), (2, .int .i64 x1), (7, .ref 3 0), (17, .int .i64 i8)]) (fun i8 (s7 : dy12) => [(0, .var [.cell (.os 4), ci x2, .cell (.os 5), ci x3, ci x4, ci x5]), (3, .var [.arr ty11 6 s7]), (4, .row ty8 x6), (5, .row ty11 x7)]) (fun d i8 (s7 : dy12) => d = Int.toNat (6 - i8) ∧ 0 ≤ i8 ∧ (s7.length : Int) = 6 ∧ i8 ≤ 6) h ⟨rfl, (by (try simp only [List.length_set, List.length_append, List.length_cons, List.length_nil, List.length_replicate, List.length_take, List.length_drop]) <;> omega), (by (try simp only [List.length_set, List.length_append, List.length_cons, List.length_nil, List.length_replicate, List.length_take, List.length_drop]) <;> omega), (by (try simp only [List.length_set, List.length_append, List.length_cons, List.length_nil, List.length_replicate, List.length_take, List.length_drop]) <;> omega)⟩ (fun d9 i8 s7 hI h ih9 => ?_)))
  obtain ⟨hd, _, _, _⟩ := hI
  refine al_round ?_
  refine aw_seq ?_
  refine aw_region ?_
  refine ao_r (r_lss rfl rfl) rfl ?_
  refine ao_nil ?_
  refine aq_then ?_
  refine aw_seq ?_
  refine aw_cond rfl (fun hb11 => ?_) (fun hb11 => ?_)
  have q12 := d_t hb11
  obtain ⟨d9, rfl⟩ : ∃ e, d9 = e + 1 := ⟨d9 - 1, by omega⟩
  replace h := is_cntS h
  refine aw_skip ?_
  refine aq_then ?_
  refine aw_seq ?_
  refine aw_block ?_
  refine aw_seq ?_
  refine aw_region ?_
  refine ao_r (r_move rfl) rfl ?_
  refine ao_r (r_assign rfl) rfl ?_
  refine ao_nil ?_
  refine aq_then ?_
  refine aw_region ?_
  refine ao_r (r_move rfl) rfl ?_
  refine ao_r (r_move rfl) rfl ?_
  refine ao_r (r_move rfl) rfl ?_
  refine ao_r (r_move rfl) rfl ?_
  refine ao_r (r_mul rfl rfl) rfl ?_
  refine ao_r (r_add rfl rfl) rfl ?_
  refine ao_r (r_idxAddr_arr (i := i8) Try.underlying76 Try.sizeOf3 rfl rfl (show 0 ≤ i8 from by omega) (show i8 < (6 : Int) from by omega)) rfl ?_
  refine ao_effS trivial (e_store_elema_int Try.sizeOf3 rfl rfl rfl rfl (show i8.toNat < 6 from by omega) rfl) ?_
  refine ao_nil ?_
  refine aq_in ?_
  refine aq_then ?_
  refine aw_region ?_
  refine ao_r (r_addI rfl rfl (wrap_id (by omega) (by omega))) rfl ?_
  refine ao_r (r_move rfl) rfl ?_
  refine ao_nil ?_
  exact aq_again (AL.sub (sub_r1 idn (nkL rfl) (by kernel_rfl)) (ih9 d9 (i8 + 1) (s7.set i8.toNat (IntKind.wrap .i64 (x0 + (IntKind.wrap .i64 (i8 * x1))))) (by omega) ⟨by omega, (by (try simp only [List.length_set, List.length_append, List.length_cons, List.length_nil, List.length_replicate, List.length_take, List.length_drop]) <;> omega), (by (try simp only [List.length_set, List.length_append, List.length_cons, List.length_nil, List.length_replicate, List.length_take, List.length_drop]) <;> omega), (by (try simp only [List.length_set, List.length_append, List.length_cons, List.length_nil, List.length_replicate, List.length_take, List.length_drop]) <;> omega)⟩ h))
  have q13 := d_f hb11
  obtain rfl : d9 = 0 := by omega
  replace h := is_cnt0 h
  refine aw_exit ?_
  refine aq_then_exit ?_
  refine aq_then_exit ?_
  refine aq_in_exit ?_
  refine aq_then ?_
  refine aw_seq ?_
  obtain ⟨g14, h⟩ := is_guard h
  refine aw_drawP 15 rfl (by kernel_rfl) ?_
  refine ap_to [] [(0, .var [.cell (.os 3), ci x2, .cell (.nilsl), ci x3, ci x4, ci x5]), (3, .row ty8 ((x6 ++ [s7]) : dy10))] ?_ (fun key => ?_)
  refine aq_then ?_
  refine aw_seq ?_
  refine aw_region ?_
  refine ao_r (r_assign rfl) rfl ?_
  refine ao_nil ?_
  refine aq_then ?_
  refine aw_ret ?_
  refine aq_ret ?_
  obtain rfl := is_some h
  refine AQ.sub (sub_nil_cell (t := ty11) (i := 0) 4 [.cell (.os 3), ci x2] [ci x3, ci x4, ci x5] rfl rfl rfl) ?_
  exact aq_finx (l := [.tmp 6]) (xs := [.bool true]) idn [.bool true] [(0, .var [.cell (.os 3), ci x2, .cell (.os 4), ci x3, ci x4, ci x5]), (3, .row ty8 ((x6 ++ [s7]) : dy10)), (4, .row ty11 ([] : dy12))] rfl (by exact ⟨rfl, trivial⟩) (by exact ⟨ad_ren rfl, trivial⟩) (by exact ⟨⟨_, rfl, ⟨ad_ren rfl, rfl, ad_ren rfl, rfl, ad_ren rfl, rfl, ad_ren rfl, rfl, ad_ren rfl, rfl, ad_ren rfl, rfl, trivial⟩⟩, ⟨_, rfl, rfl⟩, ⟨_, rfl, rfl⟩, trivial⟩) rfl (nkL rfl) rfl rfl ⟨rfl, rfl⟩
  refine ap_let (g := 1) (listed := #[true, true, true, true, true, true, true, true, true, true, true, true, true, true, false]) [(40, .ref 0 2)] [(0, .var [.cell (.os 3), ci x2, .cell (.os 4), ci x3, ci x4, ci x5]), (3, .row ty8 ((x6 ++ [s7]) : dy10)), (4, .row ty11 x7)] ?_ (fun k20 => ?_)
  refine ap_all [14] (by kernel_rfl) ⟨?_, trivial⟩
  refine apo_ao rfl ?_
  refine ao_effS trivial (e_store rfl rfl rfl rfl Try.sizeOf23 rfl) ?_
  refine ap_ni ?_
  exact ap_end (by kernel_rfl) (AQ.sub (sub_r1 idn (nkL rfl) (by kernel_rfl)) key)
  refine ap_let (g := 4) (listed := #[true, true, true, true, true, true, true, true, true, true, true, false, false, false, false]) [(29, .ref 0 0), (36, .os 3), (38, .ref 0 0)] [(0, .var [.cell (.os 4), ci x2, .cell (.os 5), ci x3, ci x4, ci x5]), (3, .row ty8 ((x6 ++ [s7]) : dy10)), (5, .row ty11 x7)] ?_ (fun k19 => ?_)
  refine ap_all [11] (by kernel_rfl) ⟨?_, trivial⟩
  refine apo_ao rfl ?_
  refine ao_effS trivial (e_store rfl rfl rfl rfl Try.sizeOf22 rfl) ?_
  refine ap_ni ?_
  refine ap_p 12 (fun _ _ _ h => h) rfl (by kernel_rfl) (rp_nilCheck rfl rfl) rfl ?_
  refine ap_p 13 (fun _ _ _ h => h) rfl (by kernel_rfl) (rp_fieldAddr Try.underlying29 rfl Try.sizeOf23 rfl rfl rfl) rfl ?_
  exact ap_gr (rn [(4, 5)]) (nkL rfl) k20 (by kernel_rfl)
  refine ap_let (g := 7) (listed := #[true, true, true, true, true, true, true, true, false, false, false, false, false, false, false]) [(28, .ref 0 0), (29, .ref 0 0), (33, .os 3), (35, .os 4)] [(0, .var [.cell (.os 3), ci x2, .cell (.os 5), ci x3, ci x4, ci x5]), (3, .row ty8 x6), (4, .row ty8 ([s7] : dy10)), (5, .row ty11 x7)] ?_ (fun k18 => ?_)
  refine ap_all [8] (by kernel_rfl) ⟨?_, trivial⟩
  refine apo_ao rfl ?_
  refine ao_eff trivial (e_append (t := ty8) 6 rfl Try.underlying22 (rfl : Try.prog.info? 76 = some _) rfl rfl rfl rfl rfl rfl rfl (src_os rfl) (show x6.length + ([s7] : dy10).length ≤ 1000000000 from by (try simp only [List.length_cons, List.length_nil]) <;> omega) rfl rfl) rfl ?_
  refine ap_ni ?_
  refine ap_p 9 (fun _ _ _ h => h) rfl (by kernel_rfl) (rp_nilCheck rfl rfl) rfl ?_
  refine ap_p 10 (fun _ _ _ h => h) rfl (by kernel_rfl) (rp_fieldAddr Try.underlying29 rfl Try.sizeOf22 rfl rfl rfl) rfl ?_
  exact ap_gr (rn [(3, 6), (4, 3)]) (nkL rfl) k19 (by kernel_rfl)
  refine ap_let (g := 8) (listed := #[true, true, true, true, true, true, true, false, false, false, false, false, false, false, false]) [(28, .ref 0 0), (29, .ref 0 0), (33, .os 3), (34, .v ty8 s7)] [(0, .var [.cell (.os 3), ci x2, .cell (.os 4), ci x3, ci x4, ci x5]), (3, .row ty8 x6), (4, .row ty11 x7)] ?_ (fun k17 => ?_)
  refine ap_all [7] (by kernel_rfl) ⟨?_, trivial⟩
  refine apo_ao rfl ?_
  refine ao_eff trivial (e_buildSlice (l := [(0, .tmp 34)]) (t := ty8) 5 ([s7] : dy10) rfl Try.underlying22 Try.zeroValue76 Try.sizeOf76 rfl rfl rfl rfl rfl rfl rfl) rfl ?_
  refine ap_ni ?_
  exact ap_gr (rn [(4, 5), (5, 4)]) (nkL rfl) k18 (by kernel_rfl)
  refine ap_let (g := 8) (listed := #[true, true, true, true, true, false, true, true, false, false, false, false, false, false, false]) [(28, .ref 0 0), (29, .ref 0 0), (32, .ref 0 0), (35, .os 3)] [(0, .var [.cell (.os 4), ci x2, .cell (.os 5), ci x3, ci x4, ci x5]), (3, .row ty8 ([s7] : dy10)), (4, .row ty8 x6), (5, .row ty11 x7)] ?_ (fun k22 => ?_)
  refine ap_all [5] (by kernel_rfl) ⟨?_, trivial⟩
  refine apo_ao rfl ?_
  refine ao_r (r_load_cell Try.isAgg22 rfl rfl rfl) rfl ?_
  refine ap_ni ?_
  exact ap_gr (rn [(3, 4), (4, 3)]) (nkL rfl) k18 (by kernel_rfl)
  refine ap_let (g := 9) (listed := #[true, true, true, true, true, true, false, false, false, false, false, false, false, false, false]) [(7, .ref 3 0), (28, .ref 0 0), (29, .ref 0 0), (33, .os 4)] [(0, .var [.cell (.os 4), ci x2, .cell (.os 5), ci x3, ci x4, ci x5]), (3, .var [.arr ty11 6 s7]), (4, .row ty8 x6), (5, .row ty11 x7)] ?_ (fun k16 => ?_)
  refine ap_all [6] (by kernel_rfl) ⟨?_, trivial⟩
  refine apo_ao rfl ?_
  refine ao_r (r_load_arr rfl Try.isAgg76 Try.sizeOf76 rfl rfl rfl) rfl ?_
  refine ap_ni ?_
  exact ap_gr (rn [(3, 4), (4, 5)]) (nkL rfl) k17 (by kernel_rfl)
  refine ap_let (g := 9) (listed := #[true, true, true, true, true, false, true, false, false, false, false, false, false, false, false]) [(28, .ref 0 0), (29, .ref 0 0), (32, .ref 0 0), (34, .v ty8 s7)] [(0, .var [.cell (.os 3), ci x2, .cell (.os 4), ci x3, ci x4, ci x5]), (3, .row ty8 x6), (4, .row ty11 x7)] ?_ (fun k21 => ?_)
  refine ap_all [5, 7] (by kernel_rfl) ⟨?_, ?_, trivial⟩
  refine apo_ao rfl ?_
  refine ao_r (r_load_cell Try.isAgg22 rfl rfl rfl) rfl ?_
  refine ap_ni ?_
  exact ap_gr idn (nkL rfl) k17 (by kernel_rfl)
  refine apo_ao rfl ?_
  refine ao_eff trivial (e_buildSlice (l := [(0, .tmp 34)]) (t := ty8) 5 ([s7] : dy10) rfl Try.underlying22 Try.zeroValue76 Try.sizeOf76 rfl rfl rfl rfl rfl rfl rfl) rfl ?_
  refine ap_ni ?_
  exact ap_gr (rn [(3, 5), (4, 3), (5, 4)]) (nkL rfl) k22 (by kernel_rfl)
  refine ap_let (g := 10) (listed := #[true, true, true, true, true, false, false, false, false, false, false, false, false, false, false]) [(7, .ref 3 0), (28, .ref 0 0), (29, .ref 0 0), (32, .ref 0 0)] [(0, .var [.cell (.os 4), ci x2, .cell (.os 5), ci x3, ci x4, ci x5]), (3, .var [.arr ty11 6 s7]), (4, .row ty8 x6), (5, .row ty11 x7)] ?_ (fun k15 => ?_)
  refine ap_all [5, 6] (by kernel_rfl) ⟨?_, ?_, trivial⟩
  refine apo_ao rfl ?_
  refine ao_r (r_load_cell Try.isAgg22 rfl rfl rfl) rfl ?_
  refine ap_ni ?_
  exact ap_gr idn (nkL rfl) k16 (by kernel_rfl)
  refine apo_ao rfl ?_
  refine ao_r (r_load_arr rfl Try.isAgg76 Try.sizeOf76 rfl rfl rfl) rfl ?_
  refine ap_ni ?_
  exact ap_gr (rn [(3, 4), (4, 5)]) (nkL rfl) k21 (by kernel_rfl)
  refine ap_p 0 (fun _ _ _ h => h) rfl (by kernel_rfl) (rp_move rfl) rfl ?_
  refine ap_p 1 (fun _ _ _ h => h) rfl (by kernel_rfl) (rp_move rfl) rfl ?_
  refine ap_p 2 (fun _ _ _ h => h) rfl (by kernel_rfl) (rp_move rfl) rfl ?_
  refine ap_p 3 (fun _ _ _ h => h) rfl (by kernel_rfl) (rp_nilCheck rfl rfl) rfl ?_
  refine ap_p 4 (fun _ _ _ h => h) rfl (by kernel_rfl) (rp_fieldAddr Try.underlying29 rfl Try.sizeOf22 rfl rfl rfl) rfl ?_
  exact ap_gr idn (nkL rfl) k15 (by kernel_rfl)
theorem c_slices_Delete_6_int_6_int {x0 : dy10} {x1 : Int} {x2 : Int} {r : dy10} (h : Is (p_slices_Delete_6_int_6_int x0 x1 x2) (some r)) :
    ACalls Try.prog 103 [.os 0, .int .i64 x1, .int .i64 x2] [(0, .row ty8 x0)] (fun r' H' => r' = .os 1 ∧ H' = [(1, .row ty8 r)]) := by
  unfold p_slices_Delete_6_int_6_int at h
  refine ac_enter ⟨33, 1⟩ Try.func103 rfl rfl rfl rfl rfl (fun Γ => ?_)
  refine row_len_m 0 (x0.length : Int) rfl rfl (fun hr0 => ?_)
  refine aw_seq ?_
  refine aw_region ?_
  refine ao_r (r_assign rfl) rfl ?_
  refine ao_nil ?_
  refine aq_then ?_
  refine aw_seq ?_
  refine aw_region ?_
  refine ao_r (r_move rfl) rfl ?_
  refine ao_r (r_move rfl) rfl ?_
  refine ao_r (r_move rfl) rfl ?_
  refine ao_r (r_move rfl) rfl ?_
  refine ao_r (r_len_osm (x0.length : Int) Try.underlying22 rfl rfl rfl) rfl ?_
  obtain ⟨g1, h⟩ := is_guard h
  obtain ⟨g2, h⟩ := is_guard h
  obtain ⟨g3, h⟩ := is_guard h
  refine ao_r (r_slice_os3 (t := ty8) Try.underlying22 Try.sizeOf76 rfl rfl (.some rfl) rfl rfl (show 0 ≤ x1 from by omega) (show x1 ≤ x2 from by omega) (show x2 ≤ (x0.length : Int) from by omega) (show (x0.length : Int) ≤ (x0.length : Int) from by omega)) rfl ?_
  refine ao_nil ?_
  refine aq_then ?_
  refine aw_seq ?_
  refine aw_seq ?_
  refine aw_region ?_
  refine ao_r (r_move rfl) rfl ?_
  refine ao_r (r_move rfl) rfl ?_
  refine ao_r (r_eql rfl rfl) rfl ?_
  refine ao_nil ?_
  refine aq_then ?_
  refine aw_cond rfl (fun hb4 => ?_) (fun hb4 => ?_)
  have q5 := d_t hb4
  replace h := is_if (d_t hb4) h
  refine aw_seq ?_
  refine aw_region ?_
  refine ao_r (r_move rfl) rfl ?_
  refine ao_r (r_assign rfl) rfl ?_
  refine ao_nil ?_
  refine aq_then ?_
  refine aw_ret ?_
  refine aq_then_ret ?_
  refine aq_ret ?_
  obtain rfl := is_some h
  exact aq_finx (l := [.tmp 6]) (xs := [.os 0]) (rn [(1, 0)]) [.os 1] [(1, .row ty8 x0)] rfl (by exact ⟨rfl, trivial⟩) (by exact ⟨ad_ren rfl, trivial⟩) (by exact ⟨⟨_, rfl, rfl⟩, trivial⟩) rfl (nk1 rfl rfl) rfl rfl ⟨rfl, rfl⟩
  have q6 := d_f hb4
  replace h := is_else (d_f hb4) h
  refine aw_skip ?_
  refine aq_then ?_
  refine aw_seq ?_
  refine aw_region ?_
  refine ao_r (r_move rfl) rfl ?_
  refine ao_r (r_len_osm (x0.length : Int) Try.underlying22 rfl rfl rfl) rfl ?_
  refine ao_r (r_assign rfl) rfl ?_
  refine ao_nil ?_
  refine aq_then ?_
  refine aw_seq ?_
  refine aw_draw 6 (by kernel_rfl) (by kernel_rfl) ?_
  refine an_r 0 (fun _ _ _ h => h) rfl (by kernel_rfl) (r_move rfl) rfl ?_
  refine an_r 1 (fun _ _ _ h => h) rfl (by kernel_rfl) (r_move rfl) rfl ?_
  refine an_r 2 (fun _ _ _ h => h) rfl (by kernel_rfl) (r_slice_ov (t := ty8) Try.underlying22 Try.sizeOf76 rfl rfl (.some rfl) (show 0 ≤ x1 from by omega) (show x1 ≤ (x0.length : Int) from by omega)) rfl ?_
  refine an_r 3 (fun _ _ _ h => h) rfl (by kernel_rfl) (r_move rfl) rfl ?_
  refine an_r 4 (fun _ _ _ h => h) rfl (by kernel_rfl) (r_move rfl) rfl ?_
  refine an_r 5 (fun _ _ _ h => h) rfl (by kernel_rfl) (r_slice_os (t := ty8) Try.underlying22 Try.sizeOf76 rfl rfl (.some rfl) .none (show 0 ≤ x2 from by omega) (show x2 ≤ (x0.length : Int) from by omega) (show (x0.length : Int) ≤ (x0.length : Int) from by omega)) rfl ?_
  refine an_tail rfl rfl ?_
  obtain ⟨g7, h⟩ := is_guard h
  refine ao_eff trivial (e_append_ovL (t := ty8) 1 (x1.toNat + ((x0.length : Int) - x2).toNat) (x0.length) (min (((x0.length : Int) - x2).toNat) (x0.length - x2.toNat)) rfl Try.underlying22 (rfl : Try.prog.info? 76 = some _) rfl rfl rfl rfl rfl rfl rfl (src_view (t := ty8) rfl (show x2.toNat + ((x0.length : Int) - x2).toNat ≤ x0.length from by omega)) rfl (len_td _ _ _) (by omega) (by omega) (by omega) rfl rfl) rfl ?_
  refine ao_r (r_assign rfl) rfl ?_
  refine ao_nil ?_
  refine aq_then ?_
  refine aw_seq ?_
  refine aw_region ?_
  refine ao_r (r_move rfl) rfl ?_
  refine ao_r (r_move rfl) rfl ?_
  refine ao_r (r_len_ov Try.underlying22 rfl) rfl ?_
  refine ao_r (r_move rfl) rfl ?_
  refine ao_r (r_slice_ovv (t := ty8) Try.underlying22 Try.sizeOf76 rfl rfl rfl rfl (show 0 ≤ (((x1.toNat + ((x0.length : Int) - x2).toNat) : Nat) : Int) from by omega) (show (((x1.toNat + ((x0.length : Int) - x2).toNat) : Nat) : Int) ≤ (x0.length : Int) from by omega) (show (x0.length : Int) ≤ ((x0.take x1.toNat ++ ((x0.drop x2.toNat).take ((x0.length : Int) - x2).toNat) ++ x0.drop (x1.toNat + ((x0.length : Int) - x2).toNat)).length : Int) from by (try simp only [List.length_append, List.length_take, List.length_drop]) <;> omega)) rfl ?_
  refine ao_clear (t := ty8) trivial Try.underlying22 Try.zeroValue76 rfl rfl rfl rfl rfl (show (((x1.toNat + ((x0.length : Int) - x2).toNat) : Nat) : Int).toNat + ((x0.length : Int) - (((x1.toNat + ((x0.length : Int) - x2).toNat) : Nat) : Int)).toNat ≤ (x0.take x1.toNat ++ ((x0.drop x2.toNat).take ((x0.length : Int) - x2).toNat) ++ x0.drop (x1.toNat + ((x0.length : Int) - x2).toNat)).length from by (try simp only [List.length_append, List.length_take, List.length_drop]) <;> omega) ?_
  refine ao_nil ?_
  refine aq_then ?_
  refine aw_seq ?_
  refine aw_region ?_
  refine ao_r (r_move rfl) rfl ?_
  refine ao_r (r_assign rfl) rfl ?_
  refine ao_nil ?_
  refine aq_then ?_
  refine aw_ret ?_
  refine aq_ret ?_
  obtain rfl := is_some h
  refine AQ.sub (sub_ov (T := 6) (t := ty8) 2 rfl rfl rfl (show (x1.toNat + ((x0.length : Int) - x2).toNat) ≤ ((x0.take x1.toNat ++ ((x0.drop x2.toNat).take ((x0.length : Int) - x2).toNat) ++ x0.drop (x1.toNat + ((x0.length : Int) - x2).toNat)).take (((x1.toNat + ((x0.length : Int) - x2).toNat) : Nat) : Int).toNat ++ (List.replicate ((x0.length : Int) - (((x1.toNat + ((x0.length : Int) - x2).toNat) : Nat) : Int)).toNat (List.replicate 6 0) ++ (x0.take x1.toNat ++ ((x0.drop x2.toNat).take ((x0.length : Int) - x2).toNat) ++ x0.drop (x1.toNat + ((x0.length : Int) - x2).toNat)).drop ((((x1.toNat + ((x0.length : Int) - x2).toNat) : Nat) : Int).toNat + ((x0.length : Int) - (((x1.toNat + ((x0.length : Int) - x2).toNat) : Nat) : Int)).toNat))).length from by (try simp only [List.length_append, List.length_replicate, List.length_take, List.length_drop]) <;> omega) rfl rfl) ?_
  exact aq_finx (l := [.tmp 6]) (xs := [.os 2]) (rn [(1, 2)]) [.os 1] [(1, .row ty8 ((((x0.take x1.toNat ++ ((x0.drop x2.toNat).take ((x0.length : Int) - x2).toNat) ++ x0.drop (x1.toNat + ((x0.length : Int) - x2).toNat)).take (((x1.toNat + ((x0.length : Int) - x2).toNat) : Nat) : Int).toNat ++ (List.replicate ((x0.length : Int) - (((x1.toNat + ((x0.length : Int) - x2).toNat) : Nat) : Int)).toNat (List.replicate 6 0) ++ (x0.take x1.toNat ++ ((x0.drop x2.toNat).take ((x0.length : Int) - x2).toNat) ++ x0.drop (x1.toNat + ((x0.length : Int) - x2).toNat)).drop ((((x1.toNat + ((x0.length : Int) - x2).toNat) : Nat) : Int).toNat + ((x0.length : Int) - (((x1.toNat + ((x0.length : Int) - x2).toNat) : Nat) : Int)).toNat))).take (x1.toNat + ((x0.length : Int) - x2).toNat)) : dy10))] rfl (by exact ⟨rfl, trivial⟩) (by exact ⟨ad_ren rfl, trivial⟩) (by exact ⟨⟨_, rfl, rfl⟩, trivial⟩) rfl (nk1 rfl rfl) rfl rfl ⟨rfl, rfl⟩
theorem c_impl_Tavern_take {x0 : Int} {x1 : Int} {x2 : Int} {x3 : Int} {x4 : Int} {x5 : dy10} {x6 : dy12} {r : Bool × dy10 × dy12} (h : Is (p_impl_Tavern_take x0 x1 x2 x3 x4 x5 x6) (some r)) :
    ACalls Try.prog 90 [.ref 0 0, .int .i64 x0] [(0, .var [.cell (.os 1), ci x1, .cell (.os 2), ci x2, ci x3, ci x4]), (1, .row ty8 x5), (2, .row ty11 x6)] (fun r' H' => r' = .bool r.1 ∧ H' = [(0, .var [.cell (.os 3), ci x1, .cell (.os 4), ci x2, ci x3, ci x4]), (3, .row ty8 r.2.1), (4, .row ty11 r.2.2)]) := by
  unfold p_impl_Tavern_take at h
  refine ac_enter ⟨23, 3⟩ Try.func90 rfl rfl rfl rfl rfl (fun Γ => ?_)
  refine AW.sub (fr' := [(0, .ref 0 0), (1, .int .i64 x0)]) (H' := [(0, .var [.cell (.os 3), ci x1, .cell (.os 4), ci x2, ci x3, ci x4]), (3, .row ty8 x5), (4, .row ty11 x6)]) (sub_r1 (rn [(3, 1), (4, 2)]) (nkL rfl) (by kernel_rfl)) ?_
  refine row_len_m 3 (x5.length : Int) rfl rfl (fun hr3 => ?_)
  refine row_len_m 4 (x6.length : Int) rfl rfl (fun hr4 => ?_)
  refine aw_seq ?_
  refine aw_region ?_
  refine ao_r (r_assign rfl) rfl ?_
  refine ao_nil ?_
  refine aq_then ?_
  refine aw_seq ?_
  refine aw_seq ?_
  refine aw_region ?_
  refine ao_r (r_move rfl) rfl ?_
  refine ao_r (r_move rfl) rfl ?_
  refine ao_call [0, 3, 4] 5 trivial (c_impl_Tavern_isPlace (is_mk (rfl : p_impl_Tavern_isPlace x0 x1 x2 x3 x4 x5 x6 = _))) Try.func101 rfl rfl rfl rfl ⟨ad_ren rfl, ad_ren rfl, trivial⟩ ⟨⟨_, rfl, ⟨ad_ren rfl, rfl, ad_ren rfl, rfl, ad_ren rfl, rfl, ad_ren rfl, rfl, ad_ren rfl, rfl, ad_ren rfl, rfl, trivial⟩⟩, ⟨_, rfl, rfl⟩, ⟨_, rfl, rfl⟩, trivial⟩ rfl rfl rfl rfl rfl rfl rfl (fun r' H' hr => ?_)
  obtain ⟨rfl, rfl⟩ := hr
  refine ao_norm (y := .bool (p_impl_Tavern_isPlace x0 x1 x2 x3 x4 x5 x6)) (H' := [(0, .var [.cell (.os 3), ci x1, .cell (.os 4), ci x2, ci x3, ci x4]), (3, .row ty8 x5), (4, .row ty11 x6)]) rfl rfl ?_
  refine ao_r (r_not rfl) rfl ?_
  refine ao_nil ?_
  refine aq_then ?_
  refine aw_cond rfl (fun hb1 => ?_) (fun hb1 => ?_)
  replace h := is_else (ne_t (not_t hb1)) h
  refine aw_seq ?_
  refine aw_region ?_
  refine ao_r (r_assign rfl) rfl ?_
  refine ao_nil ?_
  refine aq_then ?_
  refine aw_ret ?_
  refine aq_then_ret ?_
  refine aq_ret ?_
  obtain rfl := is_some h
  exact aq_finx (l := [.tmp 4]) (xs := [.bool false]) idn [.bool false] [(0, .var [.cell (.os 3), ci x1, .cell (.os 4), ci x2, ci x3, ci x4]), (3, .row ty8 x5), (4, .row ty11 x6)] rfl (by exact ⟨rfl, trivial⟩) (by exact ⟨ad_ren rfl, trivial⟩) (by exact ⟨⟨_, rfl, ⟨ad_ren rfl, rfl, ad_ren rfl, rfl, ad_ren rfl, rfl, ad_ren rfl, rfl, ad_ren rfl, rfl, ad_ren rfl, rfl, trivial⟩⟩, ⟨_, rfl, rfl⟩, ⟨_, rfl, rfl⟩, trivial⟩) rfl (nkL rfl) rfl rfl ⟨rfl, rfl⟩
  replace h := is_if (not_f hb1) h
  refine aw_skip ?_
  refine aq_then ?_
  refine aw_seq ?_
  refine aw_region ?_
  refine ao_r (r_move rfl) rfl ?_
  refine ao_r (r_move rfl) rfl ?_
  refine ao_r (r_move rfl) rfl ?_
  refine ao_r (r_nilCheck rfl rfl) rfl ?_
  refine ao_r (r_fieldAddr Try.underlying29 rfl Try.sizeOf22 rfl rfl rfl) rfl ?_
  refine ao_r (r_load_cell Try.isAgg22 rfl rfl rfl) rfl ?_
  refine ao_r (r_move rfl) rfl ?_
  refine ao_r (r_move rfl) rfl ?_
  refine ao_r (r_add rfl rfl) rfl ?_
  obtain ⟨r2, r2h, h⟩ := is_bind h
  refine ao_call [3] 5 trivial (c_slices_Delete_6_int_6_int (is_mk r2h)) Try.func103 rfl rfl rfl rfl ⟨ad_ren rfl, ad_ren rfl, ad_ren rfl, trivial⟩ ⟨⟨_, rfl, rfl⟩, trivial⟩ rfl rfl rfl rfl rfl rfl rfl (fun r' H' hr => ?_)
  obtain ⟨rfl, rfl⟩ := hr
  refine ao_norm (y := .os 5) (H' := [(0, .var [.cell (.os 3), ci x1, .cell (.os 4), ci x2, ci x3, ci x4]), (4, .row ty11 x6), (5, .row ty8 r2)]) rfl rfl ?_
  refine row_len_o 5 (r2.length : Int) rfl rfl (fun hr3 => ?_)
  refine ao_r (r_nilCheck rfl rfl) rfl ?_
  refine ao_r (r_fieldAddr Try.underlying29 rfl Try.sizeOf22 rfl rfl rfl) rfl ?_
  refine ao_effS trivial (e_store rfl rfl rfl rfl Try.sizeOf22 rfl) ?_
  refine ao_r (r_nilCheck rfl rfl) rfl ?_
  refine ao_r (r_fieldAddr Try.underlying29 rfl Try.sizeOf23 rfl rfl rfl) rfl ?_
  refine ao_effS trivial (e_store rfl rfl rfl rfl Try.sizeOf23 rfl) ?_
  refine ao_nil ?_
  refine aq_then ?_
  refine aw_seq ?_
  refine aw_region ?_
  refine ao_r (r_assign rfl) rfl ?_
  refine ao_nil ?_
  refine aq_then ?_
  refine aw_ret ?_
  refine aq_ret ?_
  obtain rfl := is_some h
  refine AQ.sub (sub_nil_cell (t := ty11) (i := 0) 6 [.cell (.os 5), ci x1] [ci x2, ci x3, ci x4] rfl rfl rfl) ?_
  exact aq_finx (l := [.tmp 4]) (xs := [.bool true]) (rn [(3, 5), (4, 6)]) [.bool true] [(0, .var [.cell (.os 3), ci x1, .cell (.os 4), ci x2, ci x3, ci x4]), (3, .row ty8 r2), (4, .row ty11 ([] : dy12))] rfl (by exact ⟨rfl, trivial⟩) (by exact ⟨ad_ren rfl, trivial⟩) (by exact ⟨⟨_, rfl, ⟨ad_ren rfl, rfl, ad_ren rfl, rfl, ad_ren rfl, rfl, ad_ren rfl, rfl, ad_ren rfl, rfl, ad_ren rfl, rfl, trivial⟩⟩, ⟨_, rfl, rfl⟩, ⟨_, rfl, rfl⟩, trivial⟩) rfl (nkL rfl) rfl rfl ⟨rfl, rfl⟩
theorem c_impl_Tavern_turn {x0 : dy6} {x1 : Int} {x2 : Int} {x3 : Int} {x4 : Int} {x5 : dy10} {x6 : dy12} {r : Bool × Int × Int × Int × dy10 × dy12} (h : Is (p_impl_Tavern_turn x0 x1 x2 x3 x4 x5 x6) (some r)) :
    ACalls Try.prog 66 [.ref 0 0, .v ty4 x0] [(0, .var [.cell (.os 1), ci x1, .cell (.os 2), ci x2, ci x3, ci x4]), (1, .row ty8 x5), (2, .row ty11 x6)] (fun r' H' => r' = .bool r.1 ∧ H' = [(0, .var [.cell (.os 3), ci r.2.1, .cell (.os 4), ci r.2.2.1, ci r.2.2.2.1, ci x4]), (3, .row ty8 r.2.2.2.2.1), (4, .row ty11 r.2.2.2.2.2)]) := by
  unfold p_impl_Tavern_turn at h
  refine ac_enter ⟨73, 3⟩ Try.func66 rfl rfl rfl rfl rfl (fun Γ => ?_)
  refine AW.sub (fr' := [(0, .ref 0 0), (1, .v ty4 x0)]) (H' := [(0, .var [.cell (.os 3), ci x1, .cell (.os 4), ci x2, ci x3, ci x4]), (3, .row ty8 x5), (4, .row ty11 x6)]) (sub_r1 (rn [(3, 1), (4, 2)]) (nkL rfl) (by kernel_rfl)) ?_
  refine row_len_m 3 (x5.length : Int) rfl rfl (fun hr3 => ?_)
  refine row_len_m 4 (x6.length : Int) rfl rfl (fun hr4 => ?_)
  refine aw_seq ?_
  refine aw_region ?_
  refine ao_eff trivial (e_box 5 rfl rfl rfl rfl rfl rfl) rfl ?_
  refine ao_r (r_assign rfl) rfl ?_
  refine ao_nil ?_
  refine aq_then ?_
  refine aw_seq ?_
  refine aw_drawAll (by kernel_rfl) ?_
  refine an_r 0 (fun _ _ _ h => h) rfl (by kernel_rfl) (r_fieldAddr Try.underlying33 rfl Try.sizeOf3 rfl rfl rfl) rfl ?_
  refine an_r 1 (fun _ _ _ h => h) rfl (by kernel_rfl) (r_load_cell Try.isAgg3 rfl rfl rfl) rfl ?_
  refine an_r 2 (fun _ _ _ h => h) rfl (by kernel_rfl) (r_eql rfl rfl) rfl ?_
  refine an_r 3 (fun _ _ _ h => h) rfl (by kernel_rfl) (r_fieldAddr Try.underlying33 rfl Try.sizeOf3 rfl rfl rfl) rfl ?_
  refine an_r 4 (fun _ _ _ h => h) rfl (by kernel_rfl) (r_load_cell Try.isAgg3 rfl rfl rfl) rfl ?_
  refine an_r 5 (fun _ _ _ h => h) rfl (by kernel_rfl) (r_eql rfl rfl) rfl ?_
  refine an_r 6 (fun _ _ _ h => h) rfl (by kernel_rfl) (r_move rfl) rfl ?_
  refine an_readG 7 (x := .ref 5 2) (by kernel_rfl) (fun _ _ _ h => h) rfl (by kernel_rfl) rfl (GV.T rfl) (fun hg1 => by
        have q2 := d_t hg1
        exact r_fieldAddr Try.underlying33 rfl Try.sizeOf3 rfl rfl rfl) rfl ?_
  refine an_readG 8 (x := .int .i64 x0.2.2.1) (by kernel_rfl) (fun _ _ _ h => h) rfl (by kernel_rfl) rfl (GV.T rfl) (fun hg3 => by
        have q4 := d_t hg3
        exact Reads.strip 14 rfl (hg3) (r_load_cell Try.isAgg3 rfl rfl rfl)) rfl ?_
  refine an_readG 9 (x := .bool (decide (x0.2.2.1 = 0))) (by kernel_rfl) (fun _ _ _ h => h) rfl (by kernel_rfl) rfl (GV.T rfl) (fun hg5 => by
        have q6 := d_t hg5
        exact Reads.strip 15 rfl (hg5) (r_eql rfl rfl)) rfl ?_
  refine an_r 10 (fun _ _ _ h => h) rfl (by kernel_rfl) (r_andB rfl rfl) rfl ?_
  refine an_r 11 (fun _ _ _ h => h) rfl (by kernel_rfl) (r_assign rfl) rfl ?_
  refine an_r 12 (fun _ _ _ h => h) rfl (by kernel_rfl) (r_assign rfl) rfl ?_
  refine an_done rfl ?_
  refine aq_then ?_
  refine aw_seq ?_
  refine aw_seq ?_
  refine aw_region ?_
  refine ao_r (r_fieldAddr Try.underlying33 rfl Try.sizeOf3 rfl rfl rfl) rfl ?_
  refine ao_r (r_load_cell Try.isAgg3 rfl rfl rfl) rfl ?_
  refine ao_nil ?_
  refine aq_then ?_
  refine aw_block ?_
  refine aw_seq ?_
  refine aw_region ?_
  refine ao_r (r_eql rfl rfl) rfl ?_
  refine ao_r (r_assign rfl) rfl ?_
  refine ao_nil ?_
  refine aq_then ?_
  refine aw_cond rfl (fun hb7 => ?_) (fun hb7 => ?_)
  have q8 := d_t hb7
  replace h := is_if (d_t hb7) h
  refine aw_seq ?_
  refine aw_region ?_
  refine ao_r (r_move rfl) rfl ?_
  refine ao_r (r_move rfl) rfl ?_
  refine ao_split ((decide (x0.2.1 = 0)) && (decide (x0.2.2.1 = 0))) (fun hb10 => ?_) (fun hb10 => ?_)
  obtain ⟨q11, q12⟩ := and_t hb10
  have q13 := d_t q11
  have q14 := d_t q12
  replace h := is_if hb10 h
  refine ao_read (by exact ⟨_, _, rfl, rfl, hb10⟩) (r_move rfl) rfl ?_
  obtain ⟨r15, r15h, h⟩ := is_bind h
  refine ao_call [0, 3, 4] 6 (by exact ⟨_, _, rfl, rfl, hb10⟩) (c_impl_Tavern_roll (is_mk r15h)) Try.func86 rfl rfl rfl rfl ⟨ad_ren rfl, trivial⟩ ⟨⟨_, rfl, ⟨ad_ren rfl, rfl, ad_ren rfl, rfl, ad_ren rfl, rfl, ad_ren rfl, rfl, ad_ren rfl, rfl, ad_ren rfl, rfl, trivial⟩⟩, ⟨_, rfl, rfl⟩, ⟨_, rfl, rfl⟩, trivial⟩ rfl rfl rfl rfl rfl rfl rfl (fun r' H' hr => ?_)
  obtain ⟨rfl, rfl⟩ := hr
  refine ao_norm (y := .bool r15.1) (H' := [(5, .var [ci x0.1, ci x0.2.1, ci x0.2.2.1]), (0, .var [.cell (.os 3), ci r15.2.1, .cell (.os 6), ci r15.2.2.1, ci r15.2.2.2.1, ci x4]), (3, .row ty8 x5), (6, .row ty11 r15.2.2.2.2)]) rfl rfl ?_
  refine ao_r (r_pickT rfl hb10 rfl) rfl ?_
  refine ao_r (r_assign rfl) rfl ?_
  refine ao_nil ?_
  refine aq_then ?_
  refine aw_ret ?_
  refine aq_in_ret ?_
  refine aq_then_ret ?_
  refine aq_ret ?_
  obtain rfl := is_some h
  exact aq_finx (l := [.tmp 4]) (xs := [.bool r15.1]) (rn [(4, 6)]) [.bool r15.1] [(0, .var [.cell (.os 3), ci r15.2.1, .cell (.os 4), ci r15.2.2.1, ci r15.2.2.2.1, ci x4]), (3, .row ty8 x5), (4, .row ty11 r15.2.2.2.2)] rfl (by exact ⟨rfl, trivial⟩) (by exact ⟨ad_ren rfl, trivial⟩) (by exact ⟨⟨_, rfl, ⟨ad_ren rfl, rfl, ad_ren rfl, rfl, ad_ren rfl, rfl, ad_ren rfl, rfl, ad_ren rfl, rfl, ad_ren rfl, rfl, trivial⟩⟩, ⟨_, rfl, rfl⟩, ⟨_, rfl, rfl⟩, trivial⟩) rfl (nkL rfl) rfl rfl ⟨rfl, rfl⟩
  replace h := is_else (ne_t hb10) h
  refine ao_skipT 2 1 23 rfl rfl hb10 rfl rfl rfl ?_
  refine ao_r (r_pickF rfl hb10 rfl) rfl ?_
  refine ao_r (r_assign rfl) rfl ?_
  refine ao_nil ?_
  refine aq_then ?_
  refine aw_ret ?_
  refine aq_in_ret ?_
  refine aq_then_ret ?_
  refine aq_ret ?_
  obtain rfl := is_some h
  exact aq_finx (l := [.tmp 4]) (xs := [.bool false]) idn [.bool false] [(0, .var [.cell (.os 3), ci x1, .cell (.os 4), ci x2, ci x3, ci x4]), (3, .row ty8 x5), (4, .row ty11 x6)] rfl (by exact ⟨rfl, trivial⟩) (by exact ⟨ad_ren rfl, trivial⟩) (by exact ⟨⟨_, rfl, ⟨ad_ren rfl, rfl, ad_ren rfl, rfl, ad_ren rfl, rfl, ad_ren rfl, rfl, ad_ren rfl, rfl, ad_ren rfl, rfl, trivial⟩⟩, ⟨_, rfl, rfl⟩, ⟨_, rfl, rfl⟩, trivial⟩) rfl (nkL rfl) rfl rfl ⟨rfl, rfl⟩
  have q9 := d_f hb7
  replace h := is_else (d_f hb7) h
  refine aw_seq ?_
  refine aw_region ?_
  refine ao_r (r_eql rfl rfl) rfl ?_
  refine ao_r (r_assign rfl) rfl ?_
  refine ao_nil ?_
  refine aq_then ?_
  refine aw_cond rfl (fun hb16 => ?_) (fun hb16 => ?_)
  have q17 := d_t hb16
  replace h := is_if (d_t hb16) h
  refine aw_seq ?_
  refine aw_region ?_
  refine ao_r (r_move rfl) rfl ?_
  refine ao_r (r_move rfl) rfl ?_
  refine ao_split (decide (x0.2.2.1 = 0)) (fun hb19 => ?_) (fun hb19 => ?_)
  have q20 := d_t hb19
  replace h := is_if (d_t hb19) h
  refine ao_read (by exact ⟨_, _, rfl, rfl, hb19⟩) (r_move rfl) rfl ?_
  refine ao_read (by exact ⟨_, _, rfl, rfl, hb19⟩) (r_fieldAddr Try.underlying33 rfl Try.sizeOf3 rfl rfl rfl) rfl ?_
  refine ao_read (by exact ⟨_, _, rfl, rfl, hb19⟩) (r_load_cell Try.isAgg3 rfl rfl rfl) rfl ?_
  obtain ⟨r22, r22h, h⟩ := is_bind h
  refine ao_call [0, 3, 4] 6 (by exact ⟨_, _, rfl, rfl, hb19⟩) (c_impl_Tavern_again (is_mk r22h)) Try.func87 rfl rfl rfl rfl ⟨ad_ren rfl, ad_ren rfl, trivial⟩ ⟨⟨_, rfl, ⟨ad_ren rfl, rfl, ad_ren rfl, rfl, ad_ren rfl, rfl, ad_ren rfl, rfl, ad_ren rfl, rfl, ad_ren rfl, rfl, trivial⟩⟩, ⟨_, rfl, rfl⟩, ⟨_, rfl, rfl⟩, trivial⟩ rfl rfl rfl rfl rfl rfl rfl (fun r' H' hr => ?_)
  obtain ⟨rfl, rfl⟩ := hr
  refine ao_norm (y := .bool r22.1) (H' := [(5, .var [ci x0.1, ci x0.2.1, ci x0.2.2.1]), (0, .var [.cell (.os 3), ci r22.2.1, .cell (.os 4), ci r22.2.2.1, ci r22.2.2.2.1, ci x4]), (3, .row ty8 x5), (4, .row ty11 r22.2.2.2.2)]) rfl rfl ?_
  refine ao_r (r_pickT rfl hb19 rfl) rfl ?_
  refine ao_r (r_assign rfl) rfl ?_
  refine ao_nil ?_
  refine aq_then ?_
  refine aw_ret ?_
  refine aq_in_ret ?_
  refine aq_then_ret ?_
  refine aq_ret ?_
  obtain rfl := is_some h
  exact aq_finx (l := [.tmp 4]) (xs := [.bool r22.1]) idn [.bool r22.1] [(0, .var [.cell (.os 3), ci r22.2.1, .cell (.os 4), ci r22.2.2.1, ci r22.2.2.2.1, ci x4]), (3, .row ty8 x5), (4, .row ty11 r22.2.2.2.2)] rfl (by exact ⟨rfl, trivial⟩) (by exact ⟨ad_ren rfl, trivial⟩) (by exact ⟨⟨_, rfl, ⟨ad_ren rfl, rfl, ad_ren rfl, rfl, ad_ren rfl, rfl, ad_ren rfl, rfl, ad_ren rfl, rfl, ad_ren rfl, rfl, trivial⟩⟩, ⟨_, rfl, rfl⟩, ⟨_, rfl, rfl⟩, trivial⟩) rfl (nkL rfl) rfl rfl ⟨rfl, rfl⟩
  have q21 := d_f hb19
  replace h := is_else (d_f hb19) h
  refine ao_skipT 4 1 30 rfl rfl hb19 rfl rfl rfl ?_
  refine ao_r (r_pickF rfl hb19 rfl) rfl ?_
  refine ao_r (r_assign rfl) rfl ?_
  refine ao_nil ?_
  refine aq_then ?_
  refine aw_ret ?_
  refine aq_in_ret ?_
  refine aq_then_ret ?_
  refine aq_ret ?_
  obtain rfl := is_some h
  exact aq_finx (l := [.tmp 4]) (xs := [.bool false]) idn [.bool false] [(0, .var [.cell (.os 3), ci x1, .cell (.os 4), ci x2, ci x3, ci x4]), (3, .row ty8 x5), (4, .row ty11 x6)] rfl (by exact ⟨rfl, trivial⟩) (by exact ⟨ad_ren rfl, trivial⟩) (by exact ⟨⟨_, rfl, ⟨ad_ren rfl, rfl, ad_ren rfl, rfl, ad_ren rfl, rfl, ad_ren rfl, rfl, ad_ren rfl, rfl, ad_ren rfl, rfl, trivial⟩⟩, ⟨_, rfl, rfl⟩, ⟨_, rfl, rfl⟩, trivial⟩) rfl (nkL rfl) rfl rfl ⟨rfl, rfl⟩
  have q18 := d_f hb16
  replace h := is_else (d_f hb16) h
  refine aw_seq ?_
  refine aw_region ?_
  refine ao_r (r_eql rfl rfl) rfl ?_
  refine ao_r (r_assign rfl) rfl ?_
  refine ao_nil ?_
  refine aq_then ?_
  refine aw_cond rfl (fun hb23 => ?_) (fun hb23 => ?_)
  have q24 := d_t hb23
  replace h := is_if (d_t hb23) h
  refine aw_seq ?_
  refine aw_region ?_
  refine ao_r (r_move rfl) rfl ?_
  refine ao_r (r_fieldAddr Try.underlying33 rfl Try.sizeOf3 rfl rfl rfl) rfl ?_
  refine ao_r (r_load_cell Try.isAgg3 rfl rfl rfl) rfl ?_
  refine ao_r (r_fieldAddr Try.underlying33 rfl Try.sizeOf3 rfl rfl rfl) rfl ?_
  refine ao_r (r_load_cell Try.isAgg3 rfl rfl rfl) rfl ?_
  obtain ⟨r26, r26h, h⟩ := is_bind h
  refine ao_call [0, 3, 4] 6 trivial (c_impl_Tavern_shift (is_mk r26h)) Try.func88 rfl rfl rfl rfl ⟨ad_ren rfl, ad_ren rfl, ad_ren rfl, trivial⟩ ⟨⟨_, rfl, ⟨ad_ren rfl, rfl, ad_ren rfl, rfl, ad_ren rfl, rfl, ad_ren rfl, rfl, ad_ren rfl, rfl, ad_ren rfl, rfl, trivial⟩⟩, ⟨_, rfl, rfl⟩, ⟨_, rfl, rfl⟩, trivial⟩ rfl rfl rfl rfl rfl rfl rfl (fun r' H' hr => ?_)
  obtain ⟨rfl, rfl⟩ := hr
  refine ao_norm (y := .bool r26.1) (H' := [(5, .var [ci x0.1, ci x0.2.1, ci x0.2.2.1]), (0, .var [.cell (.os 3), ci x1, .cell (.os 6), ci x2, ci x3, ci x4]), (3, .row ty8 r26.2.1), (6, .row ty11 r26.2.2)]) rfl rfl ?_
  refine ao_r (r_assign rfl) rfl ?_
  refine ao_nil ?_
  refine aq_then ?_
  refine aw_ret ?_
  refine aq_in_ret ?_
  refine aq_then_ret ?_
  refine aq_ret ?_
  obtain rfl := is_some h
  exact aq_finx (l := [.tmp 4]) (xs := [.bool r26.1]) (rn [(4, 6)]) [.bool r26.1] [(0, .var [.cell (.os 3), ci x1, .cell (.os 4), ci x2, ci x3, ci x4]), (3, .row ty8 r26.2.1), (4, .row ty11 r26.2.2)] rfl (by exact ⟨rfl, trivial⟩) (by exact ⟨ad_ren rfl, trivial⟩) (by exact ⟨⟨_, rfl, ⟨ad_ren rfl, rfl, ad_ren rfl, rfl, ad_ren rfl, rfl, ad_ren rfl, rfl, ad_ren rfl, rfl, ad_ren rfl, rfl, trivial⟩⟩, ⟨_, rfl, rfl⟩, ⟨_, rfl, rfl⟩, trivial⟩) rfl (nkL rfl) rfl rfl ⟨rfl, rfl⟩
  have q25 := d_f hb23
  replace h := is_else (d_f hb23) h
  refine aw_seq ?_
  refine aw_region ?_
  refine ao_r (r_eql rfl rfl) rfl ?_
  refine ao_r (r_assign rfl) rfl ?_
  refine ao_nil ?_
  refine aq_then ?_
  refine aw_cond rfl (fun hb27 => ?_) (fun hb27 => ?_)
  have q28 := d_t hb27
  replace h := is_if (d_t hb27) h
  refine aw_seq ?_
  refine aw_region ?_
  refine ao_r (r_move rfl) rfl ?_
  refine ao_r (r_fieldAddr Try.underlying33 rfl Try.sizeOf3 rfl rfl rfl) rfl ?_
  refine ao_r (r_load_cell Try.isAgg3 rfl rfl rfl) rfl ?_
  refine ao_r (r_fieldAddr Try.underlying33 rfl Try.sizeOf3 rfl rfl rfl) rfl ?_
  refine ao_r (r_load_cell Try.isAgg3 rfl rfl rfl) rfl ?_
  obtain ⟨r30, r30h, h⟩ := is_bind h
  refine ao_call [0, 3, 4] 6 trivial (c_impl_Tavern_put (is_mk r30h)) Try.func89 rfl rfl rfl rfl ⟨ad_ren rfl, ad_ren rfl, ad_ren rfl, trivial⟩ ⟨⟨_, rfl, ⟨ad_ren rfl, rfl, ad_ren rfl, rfl, ad_ren rfl, rfl, ad_ren rfl, rfl, ad_ren rfl, rfl, ad_ren rfl, rfl, trivial⟩⟩, ⟨_, rfl, rfl⟩, ⟨_, rfl, rfl⟩, trivial⟩ rfl rfl rfl rfl rfl rfl rfl (fun r' H' hr => ?_)
  obtain ⟨rfl, rfl⟩ := hr
  refine ao_norm (y := .bool r30.1) (H' := [(5, .var [ci x0.1, ci x0.2.1, ci x0.2.2.1]), (0, .var [.cell (.os 6), ci x1, .cell (.os 7), ci x2, ci x3, ci x4]), (6, .row ty8 r30.2.1), (7, .row ty11 r30.2.2)]) rfl rfl ?_
  refine ao_r (r_assign rfl) rfl ?_
  refine ao_nil ?_
  refine aq_then ?_
  refine aw_ret ?_
  refine aq_in_ret ?_
  refine aq_then_ret ?_
  refine aq_ret ?_
  obtain rfl := is_some h
  exact aq_finx (l := [.tmp 4]) (xs := [.bool r30.1]) (rn [(3, 6), (4, 7)]) [.bool r30.1] [(0, .var [.cell (.os 3), ci x1, .cell (.os 4), ci x2, ci x3, ci x4]), (3, .row ty8 r30.2.1), (4, .row ty11 r30.2.2)] rfl (by exact ⟨rfl, trivial⟩) (by exact ⟨ad_ren rfl, trivial⟩) (by exact ⟨⟨_, rfl, ⟨ad_ren rfl, rfl, ad_ren rfl, rfl, ad_ren rfl, rfl, ad_ren rfl, rfl, ad_ren rfl, rfl, ad_ren rfl, rfl, trivial⟩⟩, ⟨_, rfl, rfl⟩, ⟨_, rfl, rfl⟩, trivial⟩) rfl (nkL rfl) rfl rfl ⟨rfl, rfl⟩
  have q29 := d_f hb27
  replace h := is_else (d_f hb27) h
  refine aw_seq ?_
  refine aw_region ?_
  refine ao_r (r_eql rfl rfl) rfl ?_
  refine ao_r (r_assign rfl) rfl ?_
  refine ao_nil ?_
  refine aq_then ?_
  refine aw_cond rfl (fun hb31 => ?_) (fun hb31 => ?_)
  have q32 := d_t hb31
  replace h := is_if (d_t hb31) h
  refine aw_seq ?_
  refine aw_region ?_
  refine ao_r (r_move rfl) rfl ?_
  refine ao_r (r_move rfl) rfl ?_
  refine ao_split (decide (x0.2.2.1 = 0)) (fun hb34 => ?_) (fun hb34 => ?_)
  have q35 := d_t hb34
  replace h := is_if (d_t hb34) h
  refine ao_read (by exact ⟨_, _, rfl, rfl, hb34⟩) (r_move rfl) rfl ?_
  refine ao_read (by exact ⟨_, _, rfl, rfl, hb34⟩) (r_fieldAddr Try.underlying33 rfl Try.sizeOf3 rfl rfl rfl) rfl ?_
  refine ao_read (by exact ⟨_, _, rfl, rfl, hb34⟩) (r_load_cell Try.isAgg3 rfl rfl rfl) rfl ?_
  obtain ⟨r37, r37h, h⟩ := is_bind h
  refine ao_call [0, 3, 4] 6 (by exact ⟨_, _, rfl, rfl, hb34⟩) (c_impl_Tavern_take (is_mk r37h)) Try.func90 rfl rfl rfl rfl ⟨ad_ren rfl, ad_ren rfl, trivial⟩ ⟨⟨_, rfl, ⟨ad_ren rfl, rfl, ad_ren rfl, rfl, ad_ren rfl, rfl, ad_ren rfl, rfl, ad_ren rfl, rfl, ad_ren rfl, rfl, trivial⟩⟩, ⟨_, rfl, rfl⟩, ⟨_, rfl, rfl⟩, trivial⟩ rfl rfl rfl rfl rfl rfl rfl (fun r' H' hr => ?_)
  obtain ⟨rfl, rfl⟩ := hr
  refine ao_norm (y := .bool r37.1) (H' := [(5, .var [ci x0.1, ci x0.2.1, ci x0.2.2.1]), (0, .var [.cell (.os 6), ci x1, .cell (.os 7), ci x2, ci x3, ci x4]), (6, .row ty8 r37.2.1), (7, .row ty11 r37.2.2)]) rfl rfl ?_
  refine ao_r (r_pickT rfl hb34 rfl) rfl ?_
  refine ao_r (r_assign rfl) rfl ?_
  refine ao_nil ?_
  refine aq_then ?_
  refine aw_ret ?_
  refine aq_in_ret ?_
  refine aq_then_ret ?_
  refine aq_ret ?_
  obtain rfl := is_some h
  exact aq_finx (l := [.tmp 4]) (xs := [.bool r37.1]) (rn [(3, 6), (4, 7)]) [.bool r37.1] [(0, .var [.cell (.os 3), ci x1, .cell (.os 4), ci x2, ci x3, ci x4]), (3, .row ty8 r37.2.1), (4, .row ty11 r37.2.2)] rfl (by exact ⟨rfl, trivial⟩) (by exact ⟨ad_ren rfl, trivial⟩) (by exact ⟨⟨_, rfl, ⟨ad_ren rfl, rfl, ad_ren rfl, rfl, ad_ren rfl, rfl, ad_ren rfl, rfl, ad_ren rfl, rfl, ad_ren rfl, rfl, trivial⟩⟩, ⟨_, rfl, rfl⟩, ⟨_, rfl, rfl⟩, trivial⟩) rfl (nkL rfl) rfl rfl ⟨rfl, rfl⟩
  have q36 := d_f hb34
  replace h := is_else (d_f hb34) h
  refine ao_skipT 4 1 55 rfl rfl hb34 rfl rfl rfl ?_
  refine ao_r (r_pickF rfl hb34 rfl) rfl ?_
  refine ao_r (r_assign rfl) rfl ?_
  refine ao_nil ?_
  refine aq_then ?_
  refine aw_ret ?_
  refine aq_in_ret ?_
  refine aq_then_ret ?_
  refine aq_ret ?_
  obtain rfl := is_some h
  exact aq_finx (l := [.tmp 4]) (xs := [.bool false]) idn [.bool false] [(0, .var [.cell (.os 3), ci x1, .cell (.os 4), ci x2, ci x3, ci x4]), (3, .row ty8 x5), (4, .row ty11 x6)] rfl (by exact ⟨rfl, trivial⟩) (by exact ⟨ad_ren rfl, trivial⟩) (by exact ⟨⟨_, rfl, ⟨ad_ren rfl, rfl, ad_ren rfl, rfl, ad_ren rfl, rfl, ad_ren rfl, rfl, ad_ren rfl, rfl, ad_ren rfl, rfl, trivial⟩⟩, ⟨_, rfl, rfl⟩, ⟨_, rfl, rfl⟩, trivial⟩) rfl (nkL rfl) rfl rfl ⟨rfl, rfl⟩
  have q33 := d_f hb31
  replace h := is_else (d_f hb31) h
  refine aw_seq ?_
  refine aw_region ?_
  refine ao_r (r_eql rfl rfl) rfl ?_
  refine ao_r (r_assign rfl) rfl ?_
  refine ao_nil ?_
  refine aq_then ?_
  refine aw_cond rfl (fun hb38 => ?_) (fun hb38 => ?_)
  have q39 := d_t hb38
  replace h := is_if (d_t hb38) h
  refine aw_seq ?_
  refine aw_region ?_
  refine ao_r (r_move rfl) rfl ?_
  refine ao_r (r_move rfl) rfl ?_
  refine ao_r (r_move rfl) rfl ?_
  refine ao_r (r_nilCheck rfl rfl) rfl ?_
  refine ao_r (r_fieldAddr Try.underlying29 rfl Try.sizeOf3 rfl rfl rfl) rfl ?_
  refine ao_effS trivial (e_store rfl rfl rfl rfl Try.sizeOf3 rfl) ?_
  refine ao_r (r_nilCheck rfl rfl) rfl ?_
  refine ao_r (r_fieldAddr Try.underlying29 rfl Try.sizeOf3 rfl rfl rfl) rfl ?_
  refine ao_effS trivial (e_store rfl rfl rfl rfl Try.sizeOf3 rfl) ?_
  refine ao_r (r_nilCheck rfl rfl) rfl ?_
  refine ao_r (r_fieldAddr Try.underlying29 rfl Try.sizeOf23 rfl rfl rfl) rfl ?_
  refine ao_effS trivial (e_store rfl rfl rfl rfl Try.sizeOf23 rfl) ?_
  refine ao_nil ?_
  refine aq_then ?_
  refine aw_seq ?_
  refine aw_region ?_
  refine ao_r (r_move rfl) rfl ?_
  refine ao_r (r_assign rfl) rfl ?_
  refine ao_nil ?_
  refine aq_then ?_
  refine aw_ret ?_
  refine aq_in_ret ?_
  refine aq_then_ret ?_
  refine aq_ret ?_
  obtain rfl := is_some h
  refine AQ.sub (sub_nil_cell (t := ty11) (i := 0) 6 [.cell (.os 3), ci x1] [ci 0, ci 0, ci x4] rfl rfl rfl) ?_
  exact aq_finx (l := [.tmp 4]) (xs := [.bool ((decide (x0.2.1 = 0)) && (decide (x0.2.2.1 = 0)))]) (rn [(4, 6)]) [.bool ((decide (x0.2.1 = 0)) && (decide (x0.2.2.1 = 0)))] [(0, .var [.cell (.os 3), ci x1, .cell (.os 4), ci 0, ci 0, ci x4]), (3, .row ty8 x5), (4, .row ty11 ([] : dy12))] rfl (by exact ⟨rfl, trivial⟩) (by exact ⟨ad_ren rfl, trivial⟩) (by exact ⟨⟨_, rfl, ⟨ad_ren rfl, rfl, ad_ren rfl, rfl, ad_ren rfl, rfl, ad_ren rfl, rfl, ad_ren rfl, rfl, ad_ren rfl, rfl, trivial⟩⟩, ⟨_, rfl, rfl⟩, ⟨_, rfl, rfl⟩, trivial⟩) rfl (nkL rfl) rfl rfl ⟨rfl, rfl⟩
  have q40 := d_f hb38
  replace h := is_else (d_f hb38) h
  refine aw_skip ?_
  refine aq_in ?_
  refine aq_then ?_
  refine aw_seq ?_
  refine aw_region ?_
  refine ao_r (r_assign rfl) rfl ?_
  refine ao_nil ?_
  refine aq_then ?_
  refine aw_ret ?_
  refine aq_ret ?_
  obtain rfl := is_some h
  exact aq_finx (l := [.tmp 4]) (xs := [.bool false]) idn [.bool false] [(0, .var [.cell (.os 3), ci x1, .cell (.os 4), ci x2, ci x3, ci x4]), (3, .row ty8 x5), (4, .row ty11 x6)] rfl (by exact ⟨rfl, trivial⟩) (by exact ⟨ad_ren rfl, trivial⟩) (by exact ⟨⟨_, rfl, ⟨ad_ren rfl, rfl, ad_ren rfl, rfl, ad_ren rfl, rfl, ad_ren rfl, rfl, ad_ren rfl, rfl, ad_ren rfl, rfl, trivial⟩⟩, ⟨_, rfl, rfl⟩, ⟨_, rfl, rfl⟩, trivial⟩) rfl (nkL rfl) rfl rfl ⟨rfl, rfl⟩
theorem c_impl_Tavern_done {fu : Nat} {x0 : dy3} {x1 : dy6} {r : dy3 × Bool} (h : Is (p_impl_Tavern_done fu x0 x1) (some r)) :
    ACalls Try.prog 39 [.v ty1 x0, .v ty4 x1] [] (fun r' H' => r' = .tup [.st [.os 0, .int .i64 r.1.2.1, .os 1, .int .i64 r.1.2.2.2.1, .int .i64 r.1.2.2.2.2.1, .int .i64 r.1.2.2.2.2.2.1], .bool r.2] ∧ H' = [(0, .row ty8 r.1.1), (1, .row ty11 r.1.2.2.1)]) := by
  unfold p_impl_Tavern_done at h
  refine ac_enter ⟨26, 0⟩ Try.func39 rfl rfl rfl rfl rfl (fun Γ => ?_)
  refine aw_seq ?_
  refine aw_region ?_
  refine ao_eff trivial (e_box 0 rfl rfl rfl rfl rfl rfl) rfl ?_
  refine ao_eff trivial (e_box 1 rfl rfl rfl rfl rfl rfl) rfl ?_
  refine ao_eff trivial (e_alloc 2 (y := .st [.nilsl, .int .i64 0, .nilsl, .int .i64 0, .int .i64 0, .int .i64 0]) Try.zeroValue29 (fun ρ h M => ra_zero_st (t := ty1) rfl rfl rfl) rfl rfl rfl rfl rfl) rfl ?_
  refine ao_r (r_assign rfl) rfl ?_
  refine ao_nil ?_
  refine aq_then ?_
  refine aw_seq ?_
  refine aw_region ?_
  refine ao_r (r_load_part (τ := ty1) (y := ((x0.1, (x0.2.1, (x0.2.2.1, (x0.2.2.2.1, (x0.2.2.2.2.1, (x0.2.2.2.2.2.1, ())))))) : dy3)) [] [] rfl Try.isAgg29 Try.sizeOf29 rfl rfl rfl rfl) rfl ?_
  obtain ⟨r1, r1h, h⟩ := is_bind h
  refine ao_call [] 3 trivial (c_impl_Tavern_own (is_mk r1h)) Try.func47 rfl rfl rfl rfl ⟨ad_ren rfl, trivial⟩ trivial rfl rfl rfl rfl rfl rfl rfl (fun r' H' hr => ?_)
  obtain ⟨rfl, rfl⟩ := hr
  refine ao_norm (y := .st [.os 3, .int .i64 r1.2.1, .os 4, .int .i64 r1.2.2.2.1, .int .i64 r1.2.2.2.2.1, .int .i64 r1.2.2.2.2.2.1]) (H' := [(2, .var [.cell (.nilsl), ci 0, .cell (.nilsl), ci 0, ci 0, ci 0]), (1, .var [ci x1.1, ci x1.2.1, ci x1.2.2.1]), (0, .var [.cell (.v ty5 x0.1), ci x0.2.1, .cell (.v ty7 x0.2.2.1), ci x0.2.2.2.1, ci x0.2.2.2.2.1, ci x0.2.2.2.2.2.1]), (3, .row ty8 r1.1), (4, .row ty11 r1.2.2.1)]) rfl rfl ?_
  refine row_len_o 3 (r1.1.length : Int) rfl rfl (fun hr2 => ?_)
  refine row_len_o 4 (r1.2.2.1.length : Int) rfl rfl (fun hr3 => ?_)
  refine ao_eff trivial (e_alloc 5 (y := .st [.nilsl, .int .i64 0, .nilsl, .int .i64 0, .int .i64 0, .int .i64 0]) Try.zeroValue29 (fun ρ h M => ra_zero_st (t := ty1) rfl rfl rfl) rfl rfl rfl rfl rfl) rfl ?_
  refine ao_effS trivial (e_store rfl rfl rfl rfl Try.sizeOf29 rfl) ?_
  refine ao_nil ?_
  refine aq_then ?_
  refine aw_seq ?_
  refine aw_region ?_
  refine ao_r (r_load_part (τ := ty4) (y := ((x1.1, (x1.2.1, (x1.2.2.1, ()))) : dy6)) [] [] rfl Try.isAgg33 Try.sizeOf33 rfl rfl rfl rfl) rfl ?_
  obtain ⟨r4, r4h, h⟩ := is_bind h
  refine ao_call [5, 3, 4] 6 trivial (c_impl_Tavern_turn (is_mk r4h)) Try.func66 rfl rfl rfl rfl ⟨ad_ren rfl, ad_ren rfl, trivial⟩ ⟨⟨_, rfl, ⟨ad_ren rfl, rfl, ad_ren rfl, rfl, ad_ren rfl, rfl, ad_ren rfl, rfl, ad_ren rfl, rfl, ad_ren rfl, rfl, trivial⟩⟩, ⟨_, rfl, rfl⟩, ⟨_, rfl, rfl⟩, trivial⟩ rfl rfl rfl rfl rfl rfl rfl (fun r' H' hr => ?_)
  obtain ⟨rfl, rfl⟩ := hr
  refine ao_norm (y := .bool r4.1) (H' := [(2, .var [.cell (.nilsl), ci 0, .cell (.nilsl), ci 0, ci 0, ci 0]), (1, .var [ci x1.1, ci x1.2.1, ci x1.2.2.1]), (0, .var [.cell (.v ty5 x0.1), ci x0.2.1, .cell (.v ty7 x0.2.2.1), ci x0.2.2.2.1, ci x0.2.2.2.2.1, ci x0.2.2.2.2.2.1]), (5, .var [.cell (.os 6), ci r4.2.1, .cell (.os 7), ci r4.2.2.1, ci r4.2.2.2.1, ci r1.2.2.2.2.2.1]), (6, .row ty8 r4.2.2.2.2.1), (7, .row ty11 r4.2.2.2.2.2)]) rfl rfl ?_
  refine ao_r (r_assign rfl) rfl ?_
  refine ao_nil ?_
  refine aq_then ?_
  refine aw_seq ?_
  refine aw_region ?_
  refine ao_r (r_fieldAddr Try.underlying29 rfl Try.sizeOf3 rfl rfl rfl) rfl ?_
  refine ao_r (r_load_cell Try.isAgg3 rfl rfl rfl) rfl ?_
  refine ao_r (r_add rfl rfl) rfl ?_
  refine ao_r (r_fieldAddr Try.underlying29 rfl Try.sizeOf3 rfl rfl rfl) rfl ?_
  refine ao_effS trivial (e_store rfl rfl rfl rfl Try.sizeOf3 rfl) ?_
  refine ao_nil ?_
  refine aq_then ?_
  refine aw_seq ?_
  refine aw_seq ?_
  refine aw_region ?_
  refine ao_r (r_move rfl) rfl ?_
  refine ao_r (r_not rfl) rfl ?_
  refine ao_r (r_move rfl) rfl ?_
  refine ao_readG (x := .st [.os 6, .int .i64 r4.2.1, .os 7, .int .i64 r4.2.2.1, .int .i64 r4.2.2.2.1, .int .i64 (IntKind.wrap .i64 (r1.2.2.2.2.2.1 + 1))]) rfl (GV.F rfl) (fun hg5 => r_load_st [] [.cell (.os 6), ci r4.2.1, .cell (.os 7), ci r4.2.2.1, ci r4.2.2.2.1, .cell (.int .i64 (IntKind.wrap .i64 (r1.2.2.2.2.2.1 + 1)))] [] Try.isAgg29 Try.sizeOf29 rfl rfl rfl rfl rfl rfl rfl) rfl ?_
  obtain ⟨g7, h⟩ := is_guard h
  refine ao_scallG (r := .bool ((p_impl_IsTavern fu (r4.2.2.2.2.1, (r4.2.1, (r4.2.2.2.2.2, (r4.2.2.1, (r4.2.2.2.1, ((IntKind.wrap .i64 (r1.2.2.2.2.2.1 + 1)), ()))))))).getD false)) rfl (GV.F rfl) (fun hg6 => SCall.strip 19 rfl (hg6) (scall (c_impl_IsTavern (is_mk (isSome_getD (g7 hg6)))) rfl Try.func25 rfl rfl rfl rfl (fun σ => ⟨ad_st rfl rfl ⟨ad_os0 rfl, ad_ren rfl, ad_os0 rfl, ad_ren rfl, ad_ren rfl, ad_ren rfl, trivial⟩, trivial⟩))) rfl ?_
  refine ao_readG (x := .bool (!((p_impl_IsTavern fu (r4.2.2.2.2.1, (r4.2.1, (r4.2.2.2.2.2, (r4.2.2.1, (r4.2.2.2.1, ((IntKind.wrap .i64 (r1.2.2.2.2.2.1 + 1)), ()))))))).getD false))) rfl (GV.F rfl) (fun hg8 => Reads.strip 20 rfl (hg8) (r_not rfl)) rfl ?_
  refine ao_r (r_orB rfl rfl) rfl ?_
  refine ao_nil ?_
  refine aq_then ?_
  refine aw_cond rfl (fun hb9 => ?_) (fun hb9 => ?_)
  replace h := is_if hb9 h
  refine aw_seq ?_
  refine aw_region ?_
  refine ao_r (r_build_st (l := []) (cs := [.cell (.nilsl), ci 0, .cell (.nilsl), ci 0, ci 0, ci 0]) ty1 [(0, 1), (1, 1), (2, 1), (3, 1), (4, 1), (5, 1)] Try.underlying29 Try.zeroValue29 rfl ⟨rfl, Try.sizeOf22, rfl, Try.sizeOf3, rfl, Try.sizeOf23, rfl, Try.sizeOf3, rfl, Try.sizeOf3, rfl, Try.sizeOf3, trivial⟩ rfl rfl rfl) rfl ?_
  refine ao_effS trivial (e_store rfl rfl rfl rfl Try.sizeOf29 rfl) ?_
  refine ao_r (r_assign rfl) rfl ?_
  refine ao_nil ?_
  refine aq_then ?_
  refine aw_ret ?_
  refine aq_then_ret ?_
  refine aq_ret ?_
  obtain rfl := is_some h
  refine AQ.sub (sub_nil_cell (t := ty8) (i := 2) 8 [] [ci 0, .cell (.nilsl), ci 0, ci 0, ci 0] rfl rfl rfl) ?_
  refine AQ.sub (sub_nil_cell (t := ty11) (i := 2) 9 [.cell (.os 8), ci 0] [ci 0, ci 0, ci 0] rfl rfl rfl) ?_
  exact aq_finx (l := [.cell 4 29, .tmp 5]) (xs := [.st [.os 8, .int .i64 0, .os 9, .int .i64 0, .int .i64 0, .int .i64 0], .bool false]) (rn [(0, 8), (1, 9)]) [.st [.os 0, .int .i64 0, .os 1, .int .i64 0, .int .i64 0, .int .i64 0], .bool false] [(0, .row ty8 ([] : dy10)), (1, .row ty11 ([] : dy12))] rfl (by exact ⟨⟨⟨_, _, rfl⟩, r_load_st [] [.cell (.os 8), ci 0, .cell (.os 9), ci 0, ci 0, ci 0] [] Try.isAgg29 Try.sizeOf29 rfl rfl rfl rfl rfl rfl rfl⟩, rfl, trivial⟩) (by exact ⟨ad_ren rfl, ad_ren rfl, trivial⟩) (by exact ⟨⟨_, rfl, rfl⟩, ⟨_, rfl, rfl⟩, trivial⟩) rfl (nk rfl) rfl rfl ⟨rfl, rfl⟩
  obtain ⟨q10, q11⟩ := or_f hb9
  replace h := is_else (ne_t hb9) h
  refine aw_skip ?_
  refine aq_then ?_
  refine aw_seq ?_
  refine aw_region ?_
  refine ao_r (r_load_st [] [.cell (.os 6), ci r4.2.1, .cell (.os 7), ci r4.2.2.1, ci r4.2.2.2.1, .cell (.int .i64 (IntKind.wrap .i64 (r1.2.2.2.2.2.1 + 1)))] [] Try.isAgg29 Try.sizeOf29 rfl rfl rfl rfl rfl rfl rfl) rfl ?_
  obtain ⟨r12, r12h, h⟩ := is_bind h
  refine ao_call [] 8 trivial (c_impl_Tavern_own (is_mk r12h)) Try.func47 rfl rfl rfl rfl ⟨ad_st rfl rfl ⟨ad_os0 rfl, ad_ren rfl, ad_os0 rfl, ad_ren rfl, ad_ren rfl, ad_ren rfl, trivial⟩, trivial⟩ trivial rfl rfl rfl rfl rfl rfl rfl (fun r' H' hr => ?_)
  obtain ⟨rfl, rfl⟩ := hr
  refine ao_norm (y := .st [.os 8, .int .i64 r12.2.1, .os 9, .int .i64 r12.2.2.2.1, .int .i64 r12.2.2.2.2.1, .int .i64 r12.2.2.2.2.2.1]) (H' := [(2, .var [.cell (.nilsl), ci 0, .cell (.nilsl), ci 0, ci 0, ci 0]), (1, .var [ci x1.1, ci x1.2.1, ci x1.2.2.1]), (0, .var [.cell (.v ty5 x0.1), ci x0.2.1, .cell (.v ty7 x0.2.2.1), ci x0.2.2.2.1, ci x0.2.2.2.2.1, ci x0.2.2.2.2.2.1]), (5, .var [.cell (.os 6), ci r4.2.1, .cell (.os 7), ci r4.2.2.1, ci r4.2.2.2.1, .cell (.int .i64 (IntKind.wrap .i64 (r1.2.2.2.2.2.1 + 1)))]), (6, .row ty8 r4.2.2.2.2.1), (7, .row ty11 r4.2.2.2.2.2), (8, .row ty8 r12.1), (9, .row ty11 r12.2.2.1)]) rfl rfl ?_
  refine row_len_o 8 (r12.1.length : Int) rfl rfl (fun hr13 => ?_)
  refine row_len_o 9 (r12.2.2.1.length : Int) rfl rfl (fun hr14 => ?_)
  refine ao_effS trivial (e_store rfl rfl rfl rfl Try.sizeOf29 rfl) ?_
  refine ao_r (r_assign rfl) rfl ?_
  refine ao_nil ?_
  refine aq_then ?_
  refine aw_ret ?_
  refine aq_ret ?_
  obtain rfl := is_some h
  exact aq_finx (l := [.cell 4 29, .tmp 5]) (xs := [.st [.os 8, .int .i64 r12.2.1, .os 9, .int .i64 r12.2.2.2.1, .int .i64 r12.2.2.2.2.1, .int .i64 r12.2.2.2.2.2.1], .bool true]) (rn [(0, 8), (1, 9)]) [.st [.os 0, .int .i64 r12.2.1, .os 1, .int .i64 r12.2.2.2.1, .int .i64 r12.2.2.2.2.1, .int .i64 r12.2.2.2.2.2.1], .bool true] [(0, .row ty8 r12.1), (1, .row ty11 r12.2.2.1)] rfl (by exact ⟨⟨⟨_, _, rfl⟩, r_load_st [] [.cell (.os 8), ci r12.2.1, .cell (.os 9), ci r12.2.2.2.1, ci r12.2.2.2.2.1, ci r12.2.2.2.2.2.1] [] Try.isAgg29 Try.sizeOf29 rfl rfl rfl rfl rfl rfl rfl⟩, rfl, trivial⟩) (by exact ⟨ad_ren rfl, ad_ren rfl, trivial⟩) (by exact ⟨⟨_, rfl, rfl⟩, ⟨_, rfl, rfl⟩, trivial⟩) rfl (nk rfl) rfl rfl ⟨rfl, rfl⟩
end Go.GA
