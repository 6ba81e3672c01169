/- Walks: what the Go functions compute, by the printed lines below; no further conditions. -/
import Derived.Test.YtalieojbaiiioaaC11uwc
namespace Go.GA
open Go Go.Proofs
set_option maxRecDepth 100000
set_option maxHeartbeats 2000000
set_option linter.unusedVariables false
set_option linter.unusedSimpArgs false
theorem c_laws_FnCounts {fu : Nat} {x0 : (List Int)} {r : Bool} (h : Is (p_laws_FnCounts fu x0) (some r)) :
    Scalar Try.prog 5 [.v (.slice (.int .u8)) x0] (.bool r) := by
  unfold p_laws_FnCounts at h
  refine ac_enter ⟨388, 0⟩ Try.func5 rfl rfl rfl rfl rfl (fun Γ => ?_)
  refine sl_len_m 0 (x0.length : Int) rfl rfl (fun hl0 => ?_)
  refine aw_seq ?_
  refine aw_region ?_
  refine ao_read trivial (r_assign rfl) rfl ?_
  refine ao_nil ?_
  refine aq_then ?_
  refine aw_seq ?_
  refine aw_seq ?_
  refine aw_region ?_
  refine ao_read trivial (r_move rfl) rfl ?_
  refine ao_scall trivial (scall (c_laws_vBig (is_mk (rfl : p_laws_vBig x0 = _))) rfl Try.func17 rfl rfl rfl rfl (fun σ => ⟨ad_ren rfl, trivial⟩)) rfl ?_
  refine ao_nil ?_
  refine aq_then ?_
  refine aw_cond rfl (fun hb1 => ?_) (fun hb1 => ?_)
  · replace h := is_if hb1 h
    refine aw_seq ?_
    refine aw_region ?_
    refine ao_read trivial (r_assign rfl) rfl ?_
    refine ao_nil ?_
    refine aq_then ?_
    refine aw_ret ?_
    refine aq_then_ret ?_
    refine aq_ret ?_
    obtain rfl := is_some h
    exact aq_finx (l := [.tmp 2]) (xs := [.bool true]) idn [.bool true] [] rfl (by exact ⟨rfl, trivial⟩) (by exact ⟨ad_ren rfl, trivial⟩) (by exact trivial) rfl (nk rfl) rfl rfl ⟨rfl, rfl⟩
  · replace h := is_else (ne_t hb1) h
    refine aw_skip ?_
    refine aq_then ?_
    refine aw_seq ?_
    refine aw_region ?_
    refine ao_read trivial (r_move rfl) rfl ?_
    obtain ⟨r2, r2h, h⟩ := is_bind h
    refine ao_call [] 0 trivial (c_spec_DrawChanceOfCounts (is_mk r2h)) Try.func18 rfl rfl rfl rfl ⟨ad_ren rfl, trivial⟩ trivial rfl rfl rfl rfl rfl rfl rfl (fun r' H' hr => ?_)
    obtain ⟨rfl, rfl⟩ := hr
    refine ao_norm (y := .tup [.v (.arr 6 (.int .i64)) r2.1, .os 0]) (H' := [(0, .row (.int .i64) r2.2)]) rfl rfl ?_
    refine row_len_o 0 (r2.2.length : Int) rfl rfl (fun hr3 => ?_)
    refine ao_read trivial (r_move rfl) rfl ?_
    refine ao_read trivial (r_extract rfl rfl) rfl ?_
    refine ao_read trivial (r_extract rfl rfl) rfl ?_
    refine ao_eff trivial (e_alloc 1 (y := .v (.arr 6 (.int .i64)) ((List.replicate 6 0) : (List Int))) Try.zeroValue22 (fun ρ h M => ra_zero_arr (t := (.int .i64)) rfl) rfl rfl rfl rfl rfl) rfl ?_
    refine ao_effS trivial (e_store rfl rfl rfl rfl Try.sizeOf22 rfl) ?_
    refine ao_read trivial (r_assign rfl) rfl ?_
    refine ao_nil ?_
    refine aq_then ?_
    refine aw_seq ?_
    refine aw_region ?_
    refine ao_read trivial (r_load_arr rfl Try.isAgg22 Try.sizeOf22 rfl rfl rfl) rfl ?_
    refine ao_read trivial (r_move rfl) rfl ?_
    obtain ⟨r4, r4h, h⟩ := is_bind h
    refine ao_scall trivial (scall (c_impl_LikelihoodOf (is_mk r4h)) rfl Try.func19 rfl rfl rfl rfl (fun σ => ⟨ad_ren rfl, ad_os0 rfl, trivial⟩)) rfl ?_
    refine ao_read trivial (r_move rfl) rfl ?_
    refine ao_read trivial (r_extract rfl rfl) rfl ?_
    refine ao_read trivial (r_extract rfl rfl) rfl ?_
    refine ao_eff trivial (e_alloc 2 (y := .v (.arr 2 (.int .i64)) ((List.replicate 2 0) : (List Int))) Try.zeroValue39 (fun ρ h M => ra_zero_arr (t := (.int .i64)) rfl) rfl rfl rfl rfl rfl) rfl ?_
    refine ao_effS trivial (e_store rfl rfl rfl rfl Try.sizeOf39 rfl) ?_
    refine ao_read trivial (r_assign rfl) rfl ?_
    refine ao_nil ?_
    refine aq_then ?_
    refine aw_seq ?_
    refine aw_region ?_
    refine ao_read trivial (r_load_arr rfl Try.isAgg22 Try.sizeOf22 rfl rfl rfl) rfl ?_
    refine ao_read trivial (r_move rfl) rfl ?_
    obtain ⟨r5, r5h, h⟩ := is_bind h
    refine ao_scall trivial (scall (c_spec_LikelihoodOf (is_mk r5h)) rfl Try.func20 rfl rfl rfl rfl (fun σ => ⟨ad_ren rfl, ad_os0 rfl, trivial⟩)) rfl ?_
    refine ao_read trivial (r_move rfl) rfl ?_
    refine ao_read trivial (r_extract rfl rfl) rfl ?_
    refine ao_read trivial (r_extract rfl rfl) rfl ?_
    refine ao_eff trivial (e_alloc 3 (y := .v (.arr 2 (.int .i64)) ((List.replicate 2 0) : (List Int))) Try.zeroValue39 (fun ρ h M => ra_zero_arr (t := (.int .i64)) rfl) rfl rfl rfl rfl rfl) rfl ?_
    refine ao_effS trivial (e_store rfl rfl rfl rfl Try.sizeOf39 rfl) ?_
    refine ao_read trivial (r_assign rfl) rfl ?_
    refine ao_nil ?_
    refine aq_then ?_
    refine aw_seq ?_
    refine aw_region ?_
    refine ao_read trivial (r_load_arr rfl Try.isAgg22 Try.sizeOf22 rfl rfl rfl) rfl ?_
    refine ao_read trivial (r_move rfl) rfl ?_
    obtain ⟨r6, r6h, h⟩ := is_bind h
    refine ao_scall trivial (scall (c_impl_ChanceOfCounts (is_mk r6h)) rfl Try.func21 rfl rfl rfl rfl (fun σ => ⟨ad_ren rfl, ad_os0 rfl, trivial⟩)) rfl ?_
    refine ao_read trivial (r_move rfl) rfl ?_
    refine ao_read trivial (r_extract rfl rfl) rfl ?_
    refine ao_read trivial (r_extract rfl rfl) rfl ?_
    refine ao_eff trivial (e_alloc 4 (y := .v (.arr 2 (.int .i64)) ((List.replicate 2 0) : (List Int))) Try.zeroValue39 (fun ρ h M => ra_zero_arr (t := (.int .i64)) rfl) rfl rfl rfl rfl rfl) rfl ?_
    refine ao_effS trivial (e_store rfl rfl rfl rfl Try.sizeOf39 rfl) ?_
    refine ao_read trivial (r_assign rfl) rfl ?_
    refine ao_nil ?_
    refine aq_then ?_
    refine aw_seq ?_
    refine aw_region ?_
    refine ao_read trivial (r_load_arr rfl Try.isAgg22 Try.sizeOf22 rfl rfl rfl) rfl ?_
    refine ao_read trivial (r_move rfl) rfl ?_
    obtain ⟨r7, r7h, h⟩ := is_bind h
    refine ao_scall trivial (scall (c_spec_ChanceOfCounts (is_mk r7h)) rfl Try.func22 rfl rfl rfl rfl (fun σ => ⟨ad_ren rfl, ad_os0 rfl, trivial⟩)) rfl ?_
    refine ao_read trivial (r_move rfl) rfl ?_
    refine ao_read trivial (r_extract rfl rfl) rfl ?_
    refine ao_read trivial (r_extract rfl rfl) rfl ?_
    refine ao_eff trivial (e_alloc 5 (y := .v (.arr 2 (.int .i64)) ((List.replicate 2 0) : (List Int))) Try.zeroValue39 (fun ρ h M => ra_zero_arr (t := (.int .i64)) rfl) rfl rfl rfl rfl rfl) rfl ?_
    refine ao_effS trivial (e_store rfl rfl rfl rfl Try.sizeOf39 rfl) ?_
    refine ao_read trivial (r_assign rfl) rfl ?_
    refine ao_nil ?_
    refine aq_then ?_
    refine aw_seq ?_
    refine aw_region ?_
    refine ao_read trivial (r_load_arr rfl Try.isAgg22 Try.sizeOf22 rfl rfl rfl) rfl ?_
    refine ao_read trivial (r_move rfl) rfl ?_
    obtain ⟨r8, r8h, h⟩ := is_bind h
    refine ao_scall trivial (scall (c_impl_DistanceOf (is_mk r8h)) rfl Try.func23 rfl rfl rfl rfl (fun σ => ⟨ad_ren rfl, ad_os0 rfl, trivial⟩)) rfl ?_
    refine ao_read trivial (r_move rfl) rfl ?_
    refine ao_read trivial (r_extract rfl rfl) rfl ?_
    refine ao_read trivial (r_extract rfl rfl) rfl ?_
    refine ao_eff trivial (e_alloc 6 (y := .v (.arr 2 (.int .i64)) ((List.replicate 2 0) : (List Int))) Try.zeroValue39 (fun ρ h M => ra_zero_arr (t := (.int .i64)) rfl) rfl rfl rfl rfl rfl) rfl ?_
    refine ao_effS trivial (e_store rfl rfl rfl rfl Try.sizeOf39 rfl) ?_
    refine ao_read trivial (r_assign rfl) rfl ?_
    refine ao_nil ?_
    refine aq_then ?_
    refine aw_seq ?_
    refine aw_region ?_
    refine ao_read trivial (r_load_arr rfl Try.isAgg22 Try.sizeOf22 rfl rfl rfl) rfl ?_
    refine ao_read trivial (r_move rfl) rfl ?_
    obtain ⟨r9, r9h, h⟩ := is_bind h
    refine ao_scall trivial (scall (c_spec_DistanceOf (is_mk r9h)) rfl Try.func24 rfl rfl rfl rfl (fun σ => ⟨ad_ren rfl, ad_os0 rfl, trivial⟩)) rfl ?_
    refine ao_read trivial (r_move rfl) rfl ?_
    refine ao_read trivial (r_extract rfl rfl) rfl ?_
    refine ao_read trivial (r_extract rfl rfl) rfl ?_
    refine ao_eff trivial (e_alloc 7 (y := .v (.arr 2 (.int .i64)) ((List.replicate 2 0) : (List Int))) Try.zeroValue39 (fun ρ h M => ra_zero_arr (t := (.int .i64)) rfl) rfl rfl rfl rfl rfl) rfl ?_
    refine ao_effS trivial (e_store rfl rfl rfl rfl Try.sizeOf39 rfl) ?_
    refine ao_read trivial (r_assign rfl) rfl ?_
    refine ao_nil ?_
    refine aq_then ?_
    refine aw_seq ?_
    refine aw_region ?_
    refine ao_read trivial (r_move rfl) rfl ?_
    obtain ⟨r10, r10h, h⟩ := is_bind h
    refine ao_call [] 8 trivial (c_laws_vCut (is_mk r10h)) Try.func26 rfl rfl rfl rfl ⟨ad_ren rfl, ad_ren rfl, trivial⟩ trivial rfl rfl rfl rfl rfl rfl rfl (fun r' H' hr => ?_)
    obtain ⟨rfl, rfl⟩ := hr
    refine ao_norm (y := .os 8) (H' := [(7, .var [.arr (.int .i64) 2 r9.1]), (6, .var [.arr (.int .i64) 2 r8.1]), (5, .var [.arr (.int .i64) 2 r7.1]), (4, .var [.arr (.int .i64) 2 r6.1]), (3, .var [.arr (.int .i64) 2 r5.1]), (2, .var [.arr (.int .i64) 2 r4.1]), (1, .var [.arr (.int .i64) 6 r2.1]), (0, .row (.int .i64) r2.2), (8, .row (.int .u8) r10)]) rfl rfl ?_
    refine row_len_o 8 (r10.length : Int) rfl rfl (fun hr11 => ?_)
    obtain ⟨r12, r12h, h⟩ := is_bind h
    refine ao_call [] 9 trivial (c_spec_DrawCountRolls (is_mk r12h)) Try.func25 rfl rfl rfl rfl ⟨ad_os0 rfl, trivial⟩ trivial rfl rfl rfl rfl rfl rfl rfl (fun r' H' hr => ?_)
    obtain ⟨rfl, rfl⟩ := hr
    refine ao_norm (y := .tup [.v (.arr 6 (.int .i64)) r12.1, .os 9]) (H' := [(7, .var [.arr (.int .i64) 2 r9.1]), (6, .var [.arr (.int .i64) 2 r8.1]), (5, .var [.arr (.int .i64) 2 r7.1]), (4, .var [.arr (.int .i64) 2 r6.1]), (3, .var [.arr (.int .i64) 2 r5.1]), (2, .var [.arr (.int .i64) 2 r4.1]), (1, .var [.arr (.int .i64) 6 r2.1]), (0, .row (.int .i64) r2.2), (8, .row (.int .u8) r10), (9, .row (.int .i64) r12.2)]) rfl rfl ?_
    refine row_len_o 9 (r12.2.length : Int) rfl rfl (fun hr13 => ?_)
    refine ao_read trivial (r_move rfl) rfl ?_
    refine ao_read trivial (r_extract rfl rfl) rfl ?_
    refine ao_read trivial (r_extract rfl rfl) rfl ?_
    refine ao_eff trivial (e_alloc 10 (y := .v (.arr 6 (.int .i64)) ((List.replicate 6 0) : (List Int))) Try.zeroValue22 (fun ρ h M => ra_zero_arr (t := (.int .i64)) rfl) rfl rfl rfl rfl rfl) rfl ?_
    refine ao_effS trivial (e_store rfl rfl rfl rfl Try.sizeOf22 rfl) ?_
    refine ao_read trivial (r_assign rfl) rfl ?_
    refine ao_nil ?_
    refine aq_then ?_
    refine aw_seq ?_
    refine aw_region ?_
    refine ao_read trivial (r_load_arr rfl Try.isAgg22 Try.sizeOf22 rfl rfl rfl) rfl ?_
    refine ao_read trivial (r_move rfl) rfl ?_
    obtain ⟨r14, r14h, h⟩ := is_bind h
    refine ao_call [] 11 trivial (c_impl_CountRolls (is_mk r14h)) Try.func27 rfl rfl rfl rfl ⟨ad_ren rfl, ad_os0 rfl, trivial⟩ trivial rfl rfl rfl rfl rfl rfl rfl (fun r' H' hr => ?_)
    obtain ⟨rfl, rfl⟩ := hr
    refine ao_norm (y := .tup [.os 11, .bool r14.2]) (H' := [(10, .var [.arr (.int .i64) 6 r12.1]), (7, .var [.arr (.int .i64) 2 r9.1]), (6, .var [.arr (.int .i64) 2 r8.1]), (5, .var [.arr (.int .i64) 2 r7.1]), (4, .var [.arr (.int .i64) 2 r6.1]), (3, .var [.arr (.int .i64) 2 r5.1]), (2, .var [.arr (.int .i64) 2 r4.1]), (1, .var [.arr (.int .i64) 6 r2.1]), (0, .row (.int .i64) r2.2), (8, .row (.int .u8) r10), (9, .row (.int .i64) r12.2), (11, .row (.int .i64) r14.1)]) rfl rfl ?_
    refine row_len_o 11 (r14.1.length : Int) rfl rfl (fun hr15 => ?_)
    refine ao_read trivial (r_move rfl) rfl ?_
    refine ao_read trivial (r_extract rfl rfl) rfl ?_
    refine ao_read trivial (r_extract rfl rfl) rfl ?_
    refine ao_read trivial (r_assign rfl) rfl ?_
    refine ao_read trivial (r_assign rfl) rfl ?_
    refine ao_nil ?_
    refine aq_then ?_
    refine aw_seq ?_
    refine aw_region ?_
    refine ao_read trivial (r_load_arr rfl Try.isAgg22 Try.sizeOf22 rfl rfl rfl) rfl ?_
    refine ao_read trivial (r_move rfl) rfl ?_
    obtain ⟨r16, r16h, h⟩ := is_bind h
    refine ao_call [] 12 trivial (c_spec_CountRolls (is_mk r16h)) Try.func28 rfl rfl rfl rfl ⟨ad_ren rfl, ad_os0 rfl, trivial⟩ trivial rfl rfl rfl rfl rfl rfl rfl (fun r' H' hr => ?_)
    obtain ⟨rfl, rfl⟩ := hr
    refine ao_norm (y := .tup [.os 12, .bool r16.2]) (H' := [(10, .var [.arr (.int .i64) 6 r12.1]), (7, .var [.arr (.int .i64) 2 r9.1]), (6, .var [.arr (.int .i64) 2 r8.1]), (5, .var [.arr (.int .i64) 2 r7.1]), (4, .var [.arr (.int .i64) 2 r6.1]), (3, .var [.arr (.int .i64) 2 r5.1]), (2, .var [.arr (.int .i64) 2 r4.1]), (1, .var [.arr (.int .i64) 6 r2.1]), (0, .row (.int .i64) r2.2), (8, .row (.int .u8) r10), (9, .row (.int .i64) r12.2), (11, .row (.int .i64) r14.1), (12, .row (.int .i64) r16.1)]) rfl rfl ?_
    refine row_len_o 12 (r16.1.length : Int) rfl rfl (fun hr17 => ?_)
    refine ao_read trivial (r_move rfl) rfl ?_
    refine ao_read trivial (r_extract rfl rfl) rfl ?_
    refine ao_read trivial (r_extract rfl rfl) rfl ?_
    refine ao_read trivial (r_assign rfl) rfl ?_
    refine ao_read trivial (r_assign rfl) rfl ?_
    refine ao_nil ?_
    refine aq_then ?_
    refine aw_seq ?_
    refine aw_region ?_
    refine ao_read trivial (r_move rfl) rfl ?_
    obtain ⟨r18, r18h, h⟩ := is_bind h
    refine ao_call [] 13 trivial (c_laws_vCut (is_mk r18h)) Try.func26 rfl rfl rfl rfl ⟨ad_ren rfl, ad_ren rfl, trivial⟩ trivial rfl rfl rfl rfl rfl rfl rfl (fun r' H' hr => ?_)
    obtain ⟨rfl, rfl⟩ := hr
    refine ao_norm (y := .os 13) (H' := [(10, .var [.arr (.int .i64) 6 r12.1]), (7, .var [.arr (.int .i64) 2 r9.1]), (6, .var [.arr (.int .i64) 2 r8.1]), (5, .var [.arr (.int .i64) 2 r7.1]), (4, .var [.arr (.int .i64) 2 r6.1]), (3, .var [.arr (.int .i64) 2 r5.1]), (2, .var [.arr (.int .i64) 2 r4.1]), (1, .var [.arr (.int .i64) 6 r2.1]), (0, .row (.int .i64) r2.2), (8, .row (.int .u8) r10), (9, .row (.int .i64) r12.2), (11, .row (.int .i64) r14.1), (12, .row (.int .i64) r16.1), (13, .row (.int .u8) r18)]) rfl rfl ?_
    refine row_len_o 13 (r18.length : Int) rfl rfl (fun hr19 => ?_)
    obtain ⟨r20, r20h, h⟩ := is_bind h
    refine ao_scall trivial (scall (c_spec_DrawFirstMode (is_mk r20h)) rfl Try.func29 rfl rfl rfl rfl (fun σ => ⟨ad_os0 rfl, trivial⟩)) rfl ?_
    refine ao_read trivial (r_move rfl) rfl ?_
    refine ao_read trivial (r_extract rfl rfl) rfl ?_
    refine ao_read trivial (r_extract rfl rfl) rfl ?_
    refine ao_eff trivial (e_alloc 14 (y := .v (.arr 6 (.int .i64)) ((List.replicate 6 0) : (List Int))) Try.zeroValue22 (fun ρ h M => ra_zero_arr (t := (.int .i64)) rfl) rfl rfl rfl rfl rfl) rfl ?_
    refine ao_effS trivial (e_store rfl rfl rfl rfl Try.sizeOf22 rfl) ?_
    refine ao_read trivial (r_assign rfl) rfl ?_
    refine ao_nil ?_
    refine aq_then ?_
    refine aw_seq ?_
    refine aw_region ?_
    refine ao_read trivial (r_load_arr rfl Try.isAgg22 Try.sizeOf22 rfl rfl rfl) rfl ?_
    refine ao_read trivial (r_move rfl) rfl ?_
    obtain ⟨r21, r21h, h⟩ := is_bind h
    refine ao_call [] 15 trivial (c_impl_CountVectors (is_mk r21h)) Try.func8 rfl rfl rfl rfl ⟨ad_ren rfl, ad_ren rfl, trivial⟩ trivial rfl rfl rfl rfl rfl rfl rfl (fun r' H' hr => ?_)
    obtain ⟨rfl, rfl⟩ := hr
    refine ao_norm (y := .tup [.os 15, .bool r21.2]) (H' := [(14, .var [.arr (.int .i64) 6 r20.1]), (10, .var [.arr (.int .i64) 6 r12.1]), (7, .var [.arr (.int .i64) 2 r9.1]), (6, .var [.arr (.int .i64) 2 r8.1]), (5, .var [.arr (.int .i64) 2 r7.1]), (4, .var [.arr (.int .i64) 2 r6.1]), (3, .var [.arr (.int .i64) 2 r5.1]), (2, .var [.arr (.int .i64) 2 r4.1]), (1, .var [.arr (.int .i64) 6 r2.1]), (0, .row (.int .i64) r2.2), (8, .row (.int .u8) r10), (9, .row (.int .i64) r12.2), (11, .row (.int .i64) r14.1), (12, .row (.int .i64) r16.1), (13, .row (.int .u8) r18), (15, .row (.slice (.int .i64)) r21.1)]) rfl rfl ?_
    refine row_len_o 15 (r21.1.length : Int) rfl rfl (fun hr22 => ?_)
    refine ao_read trivial (r_move rfl) rfl ?_
    refine ao_read trivial (r_extract rfl rfl) rfl ?_
    refine ao_read trivial (r_extract rfl rfl) rfl ?_
    refine ao_read trivial (r_assign rfl) rfl ?_
    refine ao_read trivial (r_assign rfl) rfl ?_
    refine ao_nil ?_
    refine aq_then ?_
    refine aw_seq ?_
    refine aw_region ?_
    refine ao_read trivial (r_load_arr rfl Try.isAgg22 Try.sizeOf22 rfl rfl rfl) rfl ?_
    refine ao_read trivial (r_move rfl) rfl ?_
    obtain ⟨r23, r23h, h⟩ := is_bind h
    refine ao_call [] 16 trivial (c_spec_CountVectors (is_mk r23h)) Try.func6 rfl rfl rfl rfl ⟨ad_ren rfl, ad_ren rfl, trivial⟩ trivial rfl rfl rfl rfl rfl rfl rfl (fun r' H' hr => ?_)
    obtain ⟨rfl, rfl⟩ := hr
    refine ao_norm (y := .tup [.os 16, .bool r23.2]) (H' := [(14, .var [.arr (.int .i64) 6 r20.1]), (10, .var [.arr (.int .i64) 6 r12.1]), (7, .var [.arr (.int .i64) 2 r9.1]), (6, .var [.arr (.int .i64) 2 r8.1]), (5, .var [.arr (.int .i64) 2 r7.1]), (4, .var [.arr (.int .i64) 2 r6.1]), (3, .var [.arr (.int .i64) 2 r5.1]), (2, .var [.arr (.int .i64) 2 r4.1]), (1, .var [.arr (.int .i64) 6 r2.1]), (0, .row (.int .i64) r2.2), (8, .row (.int .u8) r10), (9, .row (.int .i64) r12.2), (11, .row (.int .i64) r14.1), (12, .row (.int .i64) r16.1), (13, .row (.int .u8) r18), (15, .row (.slice (.int .i64)) r21.1), (16, .row (.slice (.int .i64)) r23.1)]) rfl rfl ?_
    refine row_len_o 16 (r23.1.length : Int) rfl rfl (fun hr24 => ?_)
    refine ao_read trivial (r_move rfl) rfl ?_
    refine ao_read trivial (r_extract rfl rfl) rfl ?_
    refine ao_read trivial (r_extract rfl rfl) rfl ?_
    refine ao_read trivial (r_assign rfl) rfl ?_
    refine ao_read trivial (r_assign rfl) rfl ?_
    refine ao_nil ?_
    refine aq_then ?_
    refine aw_seq ?_
    refine aw_region ?_
    refine ao_read trivial (r_load_arr rfl Try.isAgg22 Try.sizeOf22 rfl rfl rfl) rfl ?_
    refine ao_read trivial (r_move rfl) rfl ?_
    obtain ⟨r25, r25h, h⟩ := is_bind h
    refine ao_callV [] 17 trivial (c_impl_FirstMode (is_mk r25h)) Try.func13 rfl rfl rfl rfl rfl trivial trivial rfl rfl rfl rfl rfl rfl rfl (fun r' H' hr => ?_)
    obtain ⟨rfl, rfl⟩ := hr
    refine ao_norm (y := .tup [.v (.slice (.int .i64)) r25.1, .bool r25.2]) (H' := [(14, .var [.arr (.int .i64) 6 r20.1]), (10, .var [.arr (.int .i64) 6 r12.1]), (7, .var [.arr (.int .i64) 2 r9.1]), (6, .var [.arr (.int .i64) 2 r8.1]), (5, .var [.arr (.int .i64) 2 r7.1]), (4, .var [.arr (.int .i64) 2 r6.1]), (3, .var [.arr (.int .i64) 2 r5.1]), (2, .var [.arr (.int .i64) 2 r4.1]), (1, .var [.arr (.int .i64) 6 r2.1]), (0, .row (.int .i64) r2.2), (8, .row (.int .u8) r10), (9, .row (.int .i64) r12.2), (11, .row (.int .i64) r14.1), (12, .row (.int .i64) r16.1), (13, .row (.int .u8) r18), (15, .row (.slice (.int .i64)) r21.1), (16, .row (.slice (.int .i64)) r23.1)]) rfl rfl ?_
    refine ao_read trivial (r_move rfl) rfl ?_
    refine ao_read trivial (r_extract rfl rfl) rfl ?_
    refine ao_read trivial (r_extract rfl rfl) rfl ?_
    refine ao_read trivial (r_assign rfl) rfl ?_
    refine ao_read trivial (r_assign rfl) rfl ?_
    refine ao_nil ?_
    refine aq_then ?_
    refine aw_seq ?_
    refine aw_region ?_
    refine ao_read trivial (r_load_arr rfl Try.isAgg22 Try.sizeOf22 rfl rfl rfl) rfl ?_
    refine ao_read trivial (r_move rfl) rfl ?_
    obtain ⟨r26, r26h, h⟩ := is_bind h
    refine ao_callV [] 17 trivial (c_spec_FirstMode (is_mk r26h)) Try.func12 rfl rfl rfl rfl rfl trivial trivial rfl rfl rfl rfl rfl rfl rfl (fun r' H' hr => ?_)
    obtain ⟨rfl, rfl⟩ := hr
    refine ao_norm (y := .tup [.v (.slice (.int .i64)) r26.1, .bool r26.2]) (H' := [(14, .var [.arr (.int .i64) 6 r20.1]), (10, .var [.arr (.int .i64) 6 r12.1]), (7, .var [.arr (.int .i64) 2 r9.1]), (6, .var [.arr (.int .i64) 2 r8.1]), (5, .var [.arr (.int .i64) 2 r7.1]), (4, .var [.arr (.int .i64) 2 r6.1]), (3, .var [.arr (.int .i64) 2 r5.1]), (2, .var [.arr (.int .i64) 2 r4.1]), (1, .var [.arr (.int .i64) 6 r2.1]), (0, .row (.int .i64) r2.2), (8, .row (.int .u8) r10), (9, .row (.int .i64) r12.2), (11, .row (.int .i64) r14.1), (12, .row (.int .i64) r16.1), (13, .row (.int .u8) r18), (15, .row (.slice (.int .i64)) r21.1), (16, .row (.slice (.int .i64)) r23.1)]) rfl rfl ?_
    refine ao_read trivial (r_move rfl) rfl ?_
    refine ao_read trivial (r_extract rfl rfl) rfl ?_
    refine ao_read trivial (r_extract rfl rfl) rfl ?_
    refine ao_read trivial (r_assign rfl) rfl ?_
    refine ao_read trivial (r_assign rfl) rfl ?_
    refine ao_nil ?_
    refine aq_then ?_
    refine aw_seq ?_
    refine aw_region ?_
    refine ao_read trivial (r_load_arr rfl Try.isAgg22 Try.sizeOf22 rfl rfl rfl) rfl ?_
    refine ao_read trivial (r_move rfl) rfl ?_
    obtain ⟨r27, r27h, h⟩ := is_bind h
    refine ao_scall trivial (scall (c_impl_MeanDistance (is_mk r27h)) rfl Try.func30 rfl rfl rfl rfl (fun σ => ⟨ad_ren rfl, ad_ren rfl, trivial⟩)) rfl ?_
    refine ao_read trivial (r_move rfl) rfl ?_
    refine ao_read trivial (r_extract rfl rfl) rfl ?_
    refine ao_read trivial (r_extract rfl rfl) rfl ?_
    refine ao_eff trivial (e_alloc 17 (y := .v (.arr 2 (.int .i64)) ((List.replicate 2 0) : (List Int))) Try.zeroValue39 (fun ρ h M => ra_zero_arr (t := (.int .i64)) rfl) rfl rfl rfl rfl rfl) rfl ?_
    refine ao_effS trivial (e_store rfl rfl rfl rfl Try.sizeOf39 rfl) ?_
    refine ao_read trivial (r_assign rfl) rfl ?_
    refine ao_nil ?_
    refine aq_then ?_
    refine aw_seq ?_
    refine aw_region ?_
    refine ao_read trivial (r_load_arr rfl Try.isAgg22 Try.sizeOf22 rfl rfl rfl) rfl ?_
    refine ao_read trivial (r_move rfl) rfl ?_
    obtain ⟨r28, r28h, h⟩ := is_bind h
    refine ao_scall trivial (scall (c_spec_MeanDistance (is_mk r28h)) rfl Try.func31 rfl rfl rfl rfl (fun σ => ⟨ad_ren rfl, ad_ren rfl, trivial⟩)) rfl ?_
    refine ao_read trivial (r_move rfl) rfl ?_
    refine ao_read trivial (r_extract rfl rfl) rfl ?_
    refine ao_read trivial (r_extract rfl rfl) rfl ?_
    refine ao_eff trivial (e_alloc 18 (y := .v (.arr 2 (.int .i64)) ((List.replicate 2 0) : (List Int))) Try.zeroValue39 (fun ρ h M => ra_zero_arr (t := (.int .i64)) rfl) rfl rfl rfl rfl rfl) rfl ?_
    refine ao_effS trivial (e_store rfl rfl rfl rfl Try.sizeOf39 rfl) ?_
    refine ao_read trivial (r_assign rfl) rfl ?_
    refine ao_nil ?_
    refine aq_then ?_
    refine aw_seq ?_
    refine aw_seq ?_
    refine aw_region ?_
    refine ao_read trivial (r_load_arr rfl Try.isAgg39 Try.sizeOf39 rfl rfl rfl) rfl ?_
    refine ao_read trivial (r_load_arr rfl Try.isAgg39 Try.sizeOf39 rfl rfl rfl) rfl ?_
    refine ao_read trivial (r_eq_ints Try.underlying39 Try.underlying3 Try.isAgg3 (info_size Try.sizeOf3) (by kernel_rfl) rfl rfl rfl) rfl ?_
    refine ao_read trivial (r_move rfl) rfl ?_
    refine ao_readG (x := .bool r4.2) rfl (GV.F rfl) (fun hg29 => r_move rfl) rfl ?_
    refine ao_readG (x := .bool r5.2) rfl (GV.F rfl) (fun hg30 => r_move rfl) rfl ?_
    refine ao_readG (x := .bool (r4.2 != r5.2)) rfl (GV.F rfl) (fun hg31 => Reads.strip 157 rfl (hg31) (Reads.strip 158 rfl (hg31) (r_neq_bool Try.underlying4 rfl rfl))) rfl ?_
    refine ao_read trivial (r_orB rfl rfl) rfl ?_
    refine ao_read trivial (r_move rfl) rfl ?_
    refine ao_readG (x := .v (.arr 2 (.int .i64)) r6.1) rfl (GV.F rfl) (fun hg32 => by
          obtain ⟨q33, q34⟩ := or_f (not_t hg32)
          exact r_load_arr rfl Try.isAgg39 Try.sizeOf39 rfl rfl rfl) rfl ?_
    refine ao_readG (x := .v (.arr 2 (.int .i64)) r7.1) rfl (GV.F rfl) (fun hg35 => by
          obtain ⟨q36, q37⟩ := or_f (not_t hg35)
          exact r_load_arr rfl Try.isAgg39 Try.sizeOf39 rfl rfl rfl) rfl ?_
    refine ao_readG (x := .bool (!(decide (r6.1 = r7.1)))) rfl (GV.F rfl) (fun hg38 => by
          obtain ⟨q39, q40⟩ := or_f (not_t hg38)
          exact Reads.strip 162 rfl (hg38) (Reads.strip 163 rfl (hg38) (r_eq_ints Try.underlying39 Try.underlying3 Try.isAgg3 (info_size Try.sizeOf3) (by kernel_rfl) rfl rfl rfl))) rfl ?_
    refine ao_read trivial (r_orB rfl rfl) rfl ?_
    refine ao_read trivial (r_move rfl) rfl ?_
    refine ao_readG (x := .bool r6.2) rfl (GV.F rfl) (fun hg41 => by
          obtain ⟨q42, q43⟩ := or_f (not_t hg41)
          obtain ⟨q44, q45⟩ := or_f q42
          exact r_move rfl) rfl ?_
    refine ao_readG (x := .bool r7.2) rfl (GV.F rfl) (fun hg46 => by
          obtain ⟨q47, q48⟩ := or_f (not_t hg46)
          obtain ⟨q49, q50⟩ := or_f q47
          exact r_move rfl) rfl ?_
    refine ao_readG (x := .bool (r6.2 != r7.2)) rfl (GV.F rfl) (fun hg51 => by
          obtain ⟨q52, q53⟩ := or_f (not_t hg51)
          obtain ⟨q54, q55⟩ := or_f q52
          exact Reads.strip 167 rfl (hg51) (Reads.strip 168 rfl (hg51) (r_neq_bool Try.underlying4 rfl rfl))) rfl ?_
    refine ao_read trivial (r_orB rfl rfl) rfl ?_
    refine ao_read trivial (r_move rfl) rfl ?_
    refine ao_readG (x := .v (.arr 2 (.int .i64)) r8.1) rfl (GV.F rfl) (fun hg56 => by
          obtain ⟨q57, q58⟩ := or_f (not_t hg56)
          obtain ⟨q59, q60⟩ := or_f q57
          obtain ⟨q61, q62⟩ := or_f q59
          exact r_load_arr rfl Try.isAgg39 Try.sizeOf39 rfl rfl rfl) rfl ?_
    refine ao_readG (x := .v (.arr 2 (.int .i64)) r9.1) rfl (GV.F rfl) (fun hg63 => by
          obtain ⟨q64, q65⟩ := or_f (not_t hg63)
          obtain ⟨q66, q67⟩ := or_f q64
          obtain ⟨q68, q69⟩ := or_f q66
          exact r_load_arr rfl Try.isAgg39 Try.sizeOf39 rfl rfl rfl) rfl ?_
    refine ao_readG (x := .bool (!(decide (r8.1 = r9.1)))) rfl (GV.F rfl) (fun hg70 => by
          obtain ⟨q71, q72⟩ := or_f (not_t hg70)
          obtain ⟨q73, q74⟩ := or_f q71
          obtain ⟨q75, q76⟩ := or_f q73
          exact Reads.strip 172 rfl (hg70) (Reads.strip 173 rfl (hg70) (r_eq_ints Try.underlying39 Try.underlying3 Try.isAgg3 (info_size Try.sizeOf3) (by kernel_rfl) rfl rfl rfl))) rfl ?_
    refine ao_read trivial (r_orB rfl rfl) rfl ?_
    refine ao_read trivial (r_move rfl) rfl ?_
    refine ao_readG (x := .bool r8.2) rfl (GV.F rfl) (fun hg77 => by
          obtain ⟨q78, q79⟩ := or_f (not_t hg77)
          obtain ⟨q80, q81⟩ := or_f q78
          obtain ⟨q82, q83⟩ := or_f q80
          obtain ⟨q84, q85⟩ := or_f q82
          exact r_move rfl) rfl ?_
    refine ao_readG (x := .bool r9.2) rfl (GV.F rfl) (fun hg86 => by
          obtain ⟨q87, q88⟩ := or_f (not_t hg86)
          obtain ⟨q89, q90⟩ := or_f q87
          obtain ⟨q91, q92⟩ := or_f q89
          obtain ⟨q93, q94⟩ := or_f q91
          exact r_move rfl) rfl ?_
    refine ao_readG (x := .bool (r8.2 != r9.2)) rfl (GV.F rfl) (fun hg95 => by
          obtain ⟨q96, q97⟩ := or_f (not_t hg95)
          obtain ⟨q98, q99⟩ := or_f q96
          obtain ⟨q100, q101⟩ := or_f q98
          obtain ⟨q102, q103⟩ := or_f q100
          exact Reads.strip 177 rfl (hg95) (Reads.strip 178 rfl (hg95) (r_neq_bool Try.underlying4 rfl rfl))) rfl ?_
    refine ao_read trivial (r_orB rfl rfl) rfl ?_
    refine ao_read trivial (r_move rfl) rfl ?_
    refine ao_readG (x := .bool r14.2) rfl (GV.F rfl) (fun hg104 => by
          obtain ⟨q105, q106⟩ := or_f (not_t hg104)
          obtain ⟨q107, q108⟩ := or_f q105
          obtain ⟨q109, q110⟩ := or_f q107
          obtain ⟨q111, q112⟩ := or_f q109
          obtain ⟨q113, q114⟩ := or_f q111
          exact r_move rfl) rfl ?_
    refine ao_readG (x := .bool r16.2) rfl (GV.F rfl) (fun hg115 => by
          obtain ⟨q116, q117⟩ := or_f (not_t hg115)
          obtain ⟨q118, q119⟩ := or_f q116
          obtain ⟨q120, q121⟩ := or_f q118
          obtain ⟨q122, q123⟩ := or_f q120
          obtain ⟨q124, q125⟩ := or_f q122
          exact r_move rfl) rfl ?_
    refine ao_readG (x := .bool (r14.2 != r16.2)) rfl (GV.F rfl) (fun hg126 => by
          obtain ⟨q127, q128⟩ := or_f (not_t hg126)
          obtain ⟨q129, q130⟩ := or_f q127
          obtain ⟨q131, q132⟩ := or_f q129
          obtain ⟨q133, q134⟩ := or_f q131
          obtain ⟨q135, q136⟩ := or_f q133
          exact Reads.strip 182 rfl (hg126) (Reads.strip 183 rfl (hg126) (r_neq_bool Try.underlying4 rfl rfl))) rfl ?_
    refine ao_read trivial (r_orB rfl rfl) rfl ?_
    refine ao_read trivial (r_move rfl) rfl ?_
    refine ao_readG (x := .os 11) rfl (GV.F rfl) (fun hg137 => by
          obtain ⟨q138, q139⟩ := or_f (not_t hg137)
          obtain ⟨q140, q141⟩ := or_f q138
          obtain ⟨q142, q143⟩ := or_f q140
          obtain ⟨q144, q145⟩ := or_f q142
          obtain ⟨q146, q147⟩ := or_f q144
          obtain ⟨q148, q149⟩ := or_f q146
          exact r_move rfl) rfl ?_
    refine ao_readG (x := .os 12) rfl (GV.F rfl) (fun hg150 => by
          obtain ⟨q151, q152⟩ := or_f (not_t hg150)
          obtain ⟨q153, q154⟩ := or_f q151
          obtain ⟨q155, q156⟩ := or_f q153
          obtain ⟨q157, q158⟩ := or_f q155
          obtain ⟨q159, q160⟩ := or_f q157
          obtain ⟨q161, q162⟩ := or_f q159
          exact r_move rfl) rfl ?_
    refine ao_scallG (r := .bool (p_laws_vInts r14.1 r16.1)) rfl (GV.F rfl) (fun hg163 => by
          obtain ⟨q164, q165⟩ := or_f (not_t hg163)
          obtain ⟨q166, q167⟩ := or_f q164
          obtain ⟨q168, q169⟩ := or_f q166
          obtain ⟨q170, q171⟩ := or_f q168
          obtain ⟨q172, q173⟩ := or_f q170
          obtain ⟨q174, q175⟩ := or_f q172
          exact SCall.strip 187 rfl (hg163) (SCall.strip 188 rfl (hg163) (scall (c_laws_vInts (is_mk (rfl : p_laws_vInts r14.1 r16.1 = _))) rfl Try.func32 rfl rfl rfl rfl (fun σ => ⟨ad_os0 rfl, ad_os0 rfl, trivial⟩)))) rfl ?_
    refine ao_readG (x := .bool (!(p_laws_vInts r14.1 r16.1))) rfl (GV.F rfl) (fun hg176 => by
          obtain ⟨q177, q178⟩ := or_f (not_t hg176)
          obtain ⟨q179, q180⟩ := or_f q177
          obtain ⟨q181, q182⟩ := or_f q179
          obtain ⟨q183, q184⟩ := or_f q181
          obtain ⟨q185, q186⟩ := or_f q183
          obtain ⟨q187, q188⟩ := or_f q185
          exact Reads.strip 189 rfl (hg176) (r_not rfl)) rfl ?_
    refine ao_read trivial (r_orB rfl rfl) rfl ?_
    refine ao_read trivial (r_move rfl) rfl ?_
    refine ao_readG (x := .bool r21.2) rfl (GV.F rfl) (fun hg189 => by
          obtain ⟨q190, q191⟩ := or_f (not_t hg189)
          obtain ⟨q192, q193⟩ := or_f q190
          obtain ⟨q194, q195⟩ := or_f q192
          obtain ⟨q196, q197⟩ := or_f q194
          obtain ⟨q198, q199⟩ := or_f q196
          obtain ⟨q200, q201⟩ := or_f q198
          obtain ⟨q202, q203⟩ := or_f q200
          exact r_move rfl) rfl ?_
    refine ao_readG (x := .bool r23.2) rfl (GV.F rfl) (fun hg204 => by
          obtain ⟨q205, q206⟩ := or_f (not_t hg204)
          obtain ⟨q207, q208⟩ := or_f q205
          obtain ⟨q209, q210⟩ := or_f q207
          obtain ⟨q211, q212⟩ := or_f q209
          obtain ⟨q213, q214⟩ := or_f q211
          obtain ⟨q215, q216⟩ := or_f q213
          obtain ⟨q217, q218⟩ := or_f q215
          exact r_move rfl) rfl ?_
    refine ao_readG (x := .bool (r21.2 != r23.2)) rfl (GV.F rfl) (fun hg219 => by
          obtain ⟨q220, q221⟩ := or_f (not_t hg219)
          obtain ⟨q222, q223⟩ := or_f q220
          obtain ⟨q224, q225⟩ := or_f q222
          obtain ⟨q226, q227⟩ := or_f q224
          obtain ⟨q228, q229⟩ := or_f q226
          obtain ⟨q230, q231⟩ := or_f q228
          obtain ⟨q232, q233⟩ := or_f q230
          exact Reads.strip 193 rfl (hg219) (Reads.strip 194 rfl (hg219) (r_neq_bool Try.underlying4 rfl rfl))) rfl ?_
    refine ao_read trivial (r_orB rfl rfl) rfl ?_
    refine ao_read trivial (r_move rfl) rfl ?_
    refine ao_readG (x := .os 15) rfl (GV.F rfl) (fun hg234 => by
          obtain ⟨q235, q236⟩ := or_f (not_t hg234)
          obtain ⟨q237, q238⟩ := or_f q235
          obtain ⟨q239, q240⟩ := or_f q237
          obtain ⟨q241, q242⟩ := or_f q239
          obtain ⟨q243, q244⟩ := or_f q241
          obtain ⟨q245, q246⟩ := or_f q243
          obtain ⟨q247, q248⟩ := or_f q245
          obtain ⟨q249, q250⟩ := or_f q247
          exact r_move rfl) rfl ?_
    refine ao_readG (x := .int .i64 (r21.1.length : Int)) rfl (GV.F rfl) (fun hg251 => by
          obtain ⟨q252, q253⟩ := or_f (not_t hg251)
          obtain ⟨q254, q255⟩ := or_f q252
          obtain ⟨q256, q257⟩ := or_f q254
          obtain ⟨q258, q259⟩ := or_f q256
          obtain ⟨q260, q261⟩ := or_f q258
          obtain ⟨q262, q263⟩ := or_f q260
          obtain ⟨q264, q265⟩ := or_f q262
          obtain ⟨q266, q267⟩ := or_f q264
          exact Reads.strip 198 rfl (hg251) (r_len_osm (r21.1.length : Int) Try.underlying23 rfl rfl rfl)) rfl ?_
    refine ao_readG (x := .os 16) rfl (GV.F rfl) (fun hg268 => by
          obtain ⟨q269, q270⟩ := or_f (not_t hg268)
          obtain ⟨q271, q272⟩ := or_f q269
          obtain ⟨q273, q274⟩ := or_f q271
          obtain ⟨q275, q276⟩ := or_f q273
          obtain ⟨q277, q278⟩ := or_f q275
          obtain ⟨q279, q280⟩ := or_f q277
          obtain ⟨q281, q282⟩ := or_f q279
          obtain ⟨q283, q284⟩ := or_f q281
          exact r_move rfl) rfl ?_
    refine ao_readG (x := .int .i64 (r23.1.length : Int)) rfl (GV.F rfl) (fun hg285 => by
          obtain ⟨q286, q287⟩ := or_f (not_t hg285)
          obtain ⟨q288, q289⟩ := or_f q286
          obtain ⟨q290, q291⟩ := or_f q288
          obtain ⟨q292, q293⟩ := or_f q290
          obtain ⟨q294, q295⟩ := or_f q292
          obtain ⟨q296, q297⟩ := or_f q294
          obtain ⟨q298, q299⟩ := or_f q296
          obtain ⟨q300, q301⟩ := or_f q298
          exact Reads.strip 200 rfl (hg285) (r_len_osm (r23.1.length : Int) Try.underlying23 rfl rfl rfl)) rfl ?_
    refine ao_readG (x := .bool (!(decide ((r21.1.length : Int) = (r23.1.length : Int))))) rfl (GV.F rfl) (fun hg302 => by
          obtain ⟨q303, q304⟩ := or_f (not_t hg302)
          obtain ⟨q305, q306⟩ := or_f q303
          obtain ⟨q307, q308⟩ := or_f q305
          obtain ⟨q309, q310⟩ := or_f q307
          obtain ⟨q311, q312⟩ := or_f q309
          obtain ⟨q313, q314⟩ := or_f q311
          obtain ⟨q315, q316⟩ := or_f q313
          obtain ⟨q317, q318⟩ := or_f q315
          exact Reads.strip 199 rfl (hg302) (Reads.strip 201 rfl (hg302) (r_neq rfl rfl))) rfl ?_
    refine ao_read trivial (r_orB rfl rfl) rfl ?_
    refine ao_read trivial (r_move rfl) rfl ?_
    refine ao_readG (x := .bool r25.2) rfl (GV.F rfl) (fun hg319 => by
          obtain ⟨q320, q321⟩ := or_f (not_t hg319)
          obtain ⟨q322, q323⟩ := or_f q320
          obtain ⟨q324, q325⟩ := or_f q322
          obtain ⟨q326, q327⟩ := or_f q324
          obtain ⟨q328, q329⟩ := or_f q326
          obtain ⟨q330, q331⟩ := or_f q328
          obtain ⟨q332, q333⟩ := or_f q330
          obtain ⟨q334, q335⟩ := or_f q332
          obtain ⟨q336, q337⟩ := or_f q334
          have q338 := d_t (not_f q321)
          exact r_move rfl) rfl ?_
    refine ao_readG (x := .bool r26.2) rfl (GV.F rfl) (fun hg339 => by
          obtain ⟨q340, q341⟩ := or_f (not_t hg339)
          obtain ⟨q342, q343⟩ := or_f q340
          obtain ⟨q344, q345⟩ := or_f q342
          obtain ⟨q346, q347⟩ := or_f q344
          obtain ⟨q348, q349⟩ := or_f q346
          obtain ⟨q350, q351⟩ := or_f q348
          obtain ⟨q352, q353⟩ := or_f q350
          obtain ⟨q354, q355⟩ := or_f q352
          obtain ⟨q356, q357⟩ := or_f q354
          have q358 := d_t (not_f q341)
          exact r_move rfl) rfl ?_
    refine ao_readG (x := .bool (r25.2 != r26.2)) rfl (GV.F rfl) (fun hg359 => by
          obtain ⟨q360, q361⟩ := or_f (not_t hg359)
          obtain ⟨q362, q363⟩ := or_f q360
          obtain ⟨q364, q365⟩ := or_f q362
          obtain ⟨q366, q367⟩ := or_f q364
          obtain ⟨q368, q369⟩ := or_f q366
          obtain ⟨q370, q371⟩ := or_f q368
          obtain ⟨q372, q373⟩ := or_f q370
          obtain ⟨q374, q375⟩ := or_f q372
          obtain ⟨q376, q377⟩ := or_f q374
          have q378 := d_t (not_f q361)
          exact Reads.strip 205 rfl (hg359) (Reads.strip 206 rfl (hg359) (r_neq_bool Try.underlying4 rfl rfl))) rfl ?_
    refine ao_read trivial (r_orB rfl rfl) rfl ?_
    refine ao_read trivial (r_move rfl) rfl ?_
    refine ao_readG (x := .v (.slice (.int .i64)) r25.1) rfl (GV.F rfl) (fun hg379 => by
          obtain ⟨q380, q381⟩ := or_f (not_t hg379)
          obtain ⟨q382, q383⟩ := or_f q380
          obtain ⟨q384, q385⟩ := or_f q382
          obtain ⟨q386, q387⟩ := or_f q384
          obtain ⟨q388, q389⟩ := or_f q386
          obtain ⟨q390, q391⟩ := or_f q388
          obtain ⟨q392, q393⟩ := or_f q390
          obtain ⟨q394, q395⟩ := or_f q392
          obtain ⟨q396, q397⟩ := or_f q394
          obtain ⟨q398, q399⟩ := or_f q396
          have q400 := d_t (not_f q383)
          exact r_move rfl) rfl ?_
    refine ao_readG (x := .v (.slice (.int .i64)) r26.1) rfl (GV.F rfl) (fun hg401 => by
          obtain ⟨q402, q403⟩ := or_f (not_t hg401)
          obtain ⟨q404, q405⟩ := or_f q402
          obtain ⟨q406, q407⟩ := or_f q404
          obtain ⟨q408, q409⟩ := or_f q406
          obtain ⟨q410, q411⟩ := or_f q408
          obtain ⟨q412, q413⟩ := or_f q410
          obtain ⟨q414, q415⟩ := or_f q412
          obtain ⟨q416, q417⟩ := or_f q414
          obtain ⟨q418, q419⟩ := or_f q416
          obtain ⟨q420, q421⟩ := or_f q418
          have q422 := d_t (not_f q405)
          exact r_move rfl) rfl ?_
    refine ao_scallG (r := .bool (p_laws_vInts r25.1 r26.1)) rfl (GV.F rfl) (fun hg423 => by
          obtain ⟨q424, q425⟩ := or_f (not_t hg423)
          obtain ⟨q426, q427⟩ := or_f q424
          obtain ⟨q428, q429⟩ := or_f q426
          obtain ⟨q430, q431⟩ := or_f q428
          obtain ⟨q432, q433⟩ := or_f q430
          obtain ⟨q434, q435⟩ := or_f q432
          obtain ⟨q436, q437⟩ := or_f q434
          obtain ⟨q438, q439⟩ := or_f q436
          obtain ⟨q440, q441⟩ := or_f q438
          obtain ⟨q442, q443⟩ := or_f q440
          have q444 := d_t (not_f q427)
          exact SCall.strip 210 rfl (hg423) (SCall.strip 211 rfl (hg423) (scall (c_laws_vInts (is_mk (rfl : p_laws_vInts r25.1 r26.1 = _))) rfl Try.func32 rfl rfl rfl rfl (fun σ => ⟨ad_ren rfl, ad_ren rfl, trivial⟩)))) rfl ?_
    refine ao_readG (x := .bool (!(p_laws_vInts r25.1 r26.1))) rfl (GV.F rfl) (fun hg445 => by
          obtain ⟨q446, q447⟩ := or_f (not_t hg445)
          obtain ⟨q448, q449⟩ := or_f q446
          obtain ⟨q450, q451⟩ := or_f q448
          obtain ⟨q452, q453⟩ := or_f q450
          obtain ⟨q454, q455⟩ := or_f q452
          obtain ⟨q456, q457⟩ := or_f q454
          obtain ⟨q458, q459⟩ := or_f q456
          obtain ⟨q460, q461⟩ := or_f q458
          obtain ⟨q462, q463⟩ := or_f q460
          obtain ⟨q464, q465⟩ := or_f q462
          have q466 := d_t (not_f q449)
          exact Reads.strip 212 rfl (hg445) (r_not rfl)) rfl ?_
    refine ao_read trivial (r_orB rfl rfl) rfl ?_
    refine ao_read trivial (r_move rfl) rfl ?_
    refine ao_readG (x := .v (.arr 2 (.int .i64)) r27.1) rfl (GV.F rfl) (fun hg467 => by
          obtain ⟨q468, q469⟩ := or_f (not_t hg467)
          obtain ⟨q470, q471⟩ := or_f q468
          obtain ⟨q472, q473⟩ := or_f q470
          obtain ⟨q474, q475⟩ := or_f q472
          obtain ⟨q476, q477⟩ := or_f q474
          obtain ⟨q478, q479⟩ := or_f q476
          obtain ⟨q480, q481⟩ := or_f q478
          obtain ⟨q482, q483⟩ := or_f q480
          obtain ⟨q484, q485⟩ := or_f q482
          obtain ⟨q486, q487⟩ := or_f q484
          obtain ⟨q488, q489⟩ := or_f q486
          have q490 := d_t (not_f q473)
          exact r_load_arr rfl Try.isAgg39 Try.sizeOf39 rfl rfl rfl) rfl ?_
    refine ao_readG (x := .v (.arr 2 (.int .i64)) r28.1) rfl (GV.F rfl) (fun hg491 => by
          obtain ⟨q492, q493⟩ := or_f (not_t hg491)
          obtain ⟨q494, q495⟩ := or_f q492
          obtain ⟨q496, q497⟩ := or_f q494
          obtain ⟨q498, q499⟩ := or_f q496
          obtain ⟨q500, q501⟩ := or_f q498
          obtain ⟨q502, q503⟩ := or_f q500
          obtain ⟨q504, q505⟩ := or_f q502
          obtain ⟨q506, q507⟩ := or_f q504
          obtain ⟨q508, q509⟩ := or_f q506
          obtain ⟨q510, q511⟩ := or_f q508
          obtain ⟨q512, q513⟩ := or_f q510
          have q514 := d_t (not_f q497)
          exact r_load_arr rfl Try.isAgg39 Try.sizeOf39 rfl rfl rfl) rfl ?_
    refine ao_readG (x := .bool (!(decide (r27.1 = r28.1)))) rfl (GV.F rfl) (fun hg515 => by
          obtain ⟨q516, q517⟩ := or_f (not_t hg515)
          obtain ⟨q518, q519⟩ := or_f q516
          obtain ⟨q520, q521⟩ := or_f q518
          obtain ⟨q522, q523⟩ := or_f q520
          obtain ⟨q524, q525⟩ := or_f q522
          obtain ⟨q526, q527⟩ := or_f q524
          obtain ⟨q528, q529⟩ := or_f q526
          obtain ⟨q530, q531⟩ := or_f q528
          obtain ⟨q532, q533⟩ := or_f q530
          obtain ⟨q534, q535⟩ := or_f q532
          obtain ⟨q536, q537⟩ := or_f q534
          have q538 := d_t (not_f q521)
          exact Reads.strip 216 rfl (hg515) (Reads.strip 217 rfl (hg515) (r_eq_ints Try.underlying39 Try.underlying3 Try.isAgg3 (info_size Try.sizeOf3) (by kernel_rfl) rfl rfl rfl))) rfl ?_
    refine ao_read trivial (r_orB rfl rfl) rfl ?_
    refine ao_read trivial (r_move rfl) rfl ?_
    refine ao_readG (x := .bool r27.2) rfl (GV.F rfl) (fun hg539 => by
          obtain ⟨q540, q541⟩ := or_f (not_t hg539)
          obtain ⟨q542, q543⟩ := or_f q540
          obtain ⟨q544, q545⟩ := or_f q542
          obtain ⟨q546, q547⟩ := or_f q544
          obtain ⟨q548, q549⟩ := or_f q546
          obtain ⟨q550, q551⟩ := or_f q548
          obtain ⟨q552, q553⟩ := or_f q550
          obtain ⟨q554, q555⟩ := or_f q552
          obtain ⟨q556, q557⟩ := or_f q554
          obtain ⟨q558, q559⟩ := or_f q556
          obtain ⟨q560, q561⟩ := or_f q558
          obtain ⟨q562, q563⟩ := or_f q560
          have q564 := d_t (not_f q547)
          exact r_move rfl) rfl ?_
    refine ao_readG (x := .bool r28.2) rfl (GV.F rfl) (fun hg565 => by
          obtain ⟨q566, q567⟩ := or_f (not_t hg565)
          obtain ⟨q568, q569⟩ := or_f q566
          obtain ⟨q570, q571⟩ := or_f q568
          obtain ⟨q572, q573⟩ := or_f q570
          obtain ⟨q574, q575⟩ := or_f q572
          obtain ⟨q576, q577⟩ := or_f q574
          obtain ⟨q578, q579⟩ := or_f q576
          obtain ⟨q580, q581⟩ := or_f q578
          obtain ⟨q582, q583⟩ := or_f q580
          obtain ⟨q584, q585⟩ := or_f q582
          obtain ⟨q586, q587⟩ := or_f q584
          obtain ⟨q588, q589⟩ := or_f q586
          have q590 := d_t (not_f q573)
          exact r_move rfl) rfl ?_
    refine ao_readG (x := .bool (r27.2 != r28.2)) rfl (GV.F rfl) (fun hg591 => by
          obtain ⟨q592, q593⟩ := or_f (not_t hg591)
          obtain ⟨q594, q595⟩ := or_f q592
          obtain ⟨q596, q597⟩ := or_f q594
          obtain ⟨q598, q599⟩ := or_f q596
          obtain ⟨q600, q601⟩ := or_f q598
          obtain ⟨q602, q603⟩ := or_f q600
          obtain ⟨q604, q605⟩ := or_f q602
          obtain ⟨q606, q607⟩ := or_f q604
          obtain ⟨q608, q609⟩ := or_f q606
          obtain ⟨q610, q611⟩ := or_f q608
          obtain ⟨q612, q613⟩ := or_f q610
          obtain ⟨q614, q615⟩ := or_f q612
          have q616 := d_t (not_f q599)
          exact Reads.strip 221 rfl (hg591) (Reads.strip 222 rfl (hg591) (r_neq_bool Try.underlying4 rfl rfl))) rfl ?_
    refine ao_read trivial (r_orB rfl rfl) rfl ?_
    refine ao_read trivial (r_move rfl) rfl ?_
    refine ao_readG (x := .bool r4.2) rfl (GV.F rfl) (fun hg617 => by
          obtain ⟨q618, q619⟩ := or_f (not_t hg617)
          obtain ⟨q620, q621⟩ := or_f q618
          obtain ⟨q622, q623⟩ := or_f q620
          obtain ⟨q624, q625⟩ := or_f q622
          obtain ⟨q626, q627⟩ := or_f q624
          obtain ⟨q628, q629⟩ := or_f q626
          obtain ⟨q630, q631⟩ := or_f q628
          obtain ⟨q632, q633⟩ := or_f q630
          obtain ⟨q634, q635⟩ := or_f q632
          obtain ⟨q636, q637⟩ := or_f q634
          obtain ⟨q638, q639⟩ := or_f q636
          obtain ⟨q640, q641⟩ := or_f q638
          obtain ⟨q642, q643⟩ := or_f q640
          have q644 := d_t (not_f q627)
          exact r_move rfl) rfl ?_
    refine ao_readG (x := .bool r6.2) rfl (GV.F rfl) (fun hg645 => by
          obtain ⟨q646, q647⟩ := or_f (not_t hg645)
          obtain ⟨q648, q649⟩ := or_f q646
          obtain ⟨q650, q651⟩ := or_f q648
          obtain ⟨q652, q653⟩ := or_f q650
          obtain ⟨q654, q655⟩ := or_f q652
          obtain ⟨q656, q657⟩ := or_f q654
          obtain ⟨q658, q659⟩ := or_f q656
          obtain ⟨q660, q661⟩ := or_f q658
          obtain ⟨q662, q663⟩ := or_f q660
          obtain ⟨q664, q665⟩ := or_f q662
          obtain ⟨q666, q667⟩ := or_f q664
          obtain ⟨q668, q669⟩ := or_f q666
          obtain ⟨q670, q671⟩ := or_f q668
          have q672 := d_t (not_f q655)
          exact r_move rfl) rfl ?_
    refine ao_readG (x := .bool (r4.2 != r6.2)) rfl (GV.F rfl) (fun hg673 => by
          obtain ⟨q674, q675⟩ := or_f (not_t hg673)
          obtain ⟨q676, q677⟩ := or_f q674
          obtain ⟨q678, q679⟩ := or_f q676
          obtain ⟨q680, q681⟩ := or_f q678
          obtain ⟨q682, q683⟩ := or_f q680
          obtain ⟨q684, q685⟩ := or_f q682
          obtain ⟨q686, q687⟩ := or_f q684
          obtain ⟨q688, q689⟩ := or_f q686
          obtain ⟨q690, q691⟩ := or_f q688
          obtain ⟨q692, q693⟩ := or_f q690
          obtain ⟨q694, q695⟩ := or_f q692
          obtain ⟨q696, q697⟩ := or_f q694
          obtain ⟨q698, q699⟩ := or_f q696
          have q700 := d_t (not_f q683)
          exact Reads.strip 226 rfl (hg673) (Reads.strip 227 rfl (hg673) (r_neq_bool Try.underlying4 rfl rfl))) rfl ?_
    refine ao_read trivial (r_orB rfl rfl) rfl ?_
    refine ao_read trivial (r_move rfl) rfl ?_
    refine ao_readG (x := .bool r4.2) rfl (GV.F rfl) (fun hg701 => by
          obtain ⟨q702, q703⟩ := or_f (not_t hg701)
          obtain ⟨q704, q705⟩ := or_f q702
          obtain ⟨q706, q707⟩ := or_f q704
          obtain ⟨q708, q709⟩ := or_f q706
          obtain ⟨q710, q711⟩ := or_f q708
          obtain ⟨q712, q713⟩ := or_f q710
          obtain ⟨q714, q715⟩ := or_f q712
          obtain ⟨q716, q717⟩ := or_f q714
          obtain ⟨q718, q719⟩ := or_f q716
          obtain ⟨q720, q721⟩ := or_f q718
          obtain ⟨q722, q723⟩ := or_f q720
          obtain ⟨q724, q725⟩ := or_f q722
          obtain ⟨q726, q727⟩ := or_f q724
          obtain ⟨q728, q729⟩ := or_f q726
          have q730 := d_t (not_f q713)
          exact r_move rfl) rfl ?_
    refine ao_readG (x := .bool r8.2) rfl (GV.F rfl) (fun hg731 => by
          obtain ⟨q732, q733⟩ := or_f (not_t hg731)
          obtain ⟨q734, q735⟩ := or_f q732
          obtain ⟨q736, q737⟩ := or_f q734
          obtain ⟨q738, q739⟩ := or_f q736
          obtain ⟨q740, q741⟩ := or_f q738
          obtain ⟨q742, q743⟩ := or_f q740
          obtain ⟨q744, q745⟩ := or_f q742
          obtain ⟨q746, q747⟩ := or_f q744
          obtain ⟨q748, q749⟩ := or_f q746
          obtain ⟨q750, q751⟩ := or_f q748
          obtain ⟨q752, q753⟩ := or_f q750
          obtain ⟨q754, q755⟩ := or_f q752
          obtain ⟨q756, q757⟩ := or_f q754
          obtain ⟨q758, q759⟩ := or_f q756
          have q760 := d_t (not_f q743)
          exact r_move rfl) rfl ?_
    refine ao_readG (x := .bool (r4.2 != r8.2)) rfl (GV.F rfl) (fun hg761 => by
          obtain ⟨q762, q763⟩ := or_f (not_t hg761)
          obtain ⟨q764, q765⟩ := or_f q762
          obtain ⟨q766, q767⟩ := or_f q764
          obtain ⟨q768, q769⟩ := or_f q766
          obtain ⟨q770, q771⟩ := or_f q768
          obtain ⟨q772, q773⟩ := or_f q770
          obtain ⟨q774, q775⟩ := or_f q772
          obtain ⟨q776, q777⟩ := or_f q774
          obtain ⟨q778, q779⟩ := or_f q776
          obtain ⟨q780, q781⟩ := or_f q778
          obtain ⟨q782, q783⟩ := or_f q780
          obtain ⟨q784, q785⟩ := or_f q782
          obtain ⟨q786, q787⟩ := or_f q784
          obtain ⟨q788, q789⟩ := or_f q786
          have q790 := d_t (not_f q773)
          exact Reads.strip 231 rfl (hg761) (Reads.strip 232 rfl (hg761) (r_neq_bool Try.underlying4 rfl rfl))) rfl ?_
    refine ao_read trivial (r_orB rfl rfl) rfl ?_
    refine ao_read trivial (r_move rfl) rfl ?_
    refine ao_readG (x := .bool r21.2) rfl (GV.F rfl) (fun hg791 => by
          obtain ⟨q792, q793⟩ := or_f (not_t hg791)
          obtain ⟨q794, q795⟩ := or_f q792
          obtain ⟨q796, q797⟩ := or_f q794
          obtain ⟨q798, q799⟩ := or_f q796
          obtain ⟨q800, q801⟩ := or_f q798
          obtain ⟨q802, q803⟩ := or_f q800
          obtain ⟨q804, q805⟩ := or_f q802
          obtain ⟨q806, q807⟩ := or_f q804
          obtain ⟨q808, q809⟩ := or_f q806
          obtain ⟨q810, q811⟩ := or_f q808
          obtain ⟨q812, q813⟩ := or_f q810
          obtain ⟨q814, q815⟩ := or_f q812
          obtain ⟨q816, q817⟩ := or_f q814
          obtain ⟨q818, q819⟩ := or_f q816
          obtain ⟨q820, q821⟩ := or_f q818
          have q822 := d_t (not_f q805)
          exact r_move rfl) rfl ?_
    refine ao_readG (x := .bool r25.2) rfl (GV.F rfl) (fun hg823 => by
          obtain ⟨q824, q825⟩ := or_f (not_t hg823)
          obtain ⟨q826, q827⟩ := or_f q824
          obtain ⟨q828, q829⟩ := or_f q826
          obtain ⟨q830, q831⟩ := or_f q828
          obtain ⟨q832, q833⟩ := or_f q830
          obtain ⟨q834, q835⟩ := or_f q832
          obtain ⟨q836, q837⟩ := or_f q834
          obtain ⟨q838, q839⟩ := or_f q836
          obtain ⟨q840, q841⟩ := or_f q838
          obtain ⟨q842, q843⟩ := or_f q840
          obtain ⟨q844, q845⟩ := or_f q842
          obtain ⟨q846, q847⟩ := or_f q844
          obtain ⟨q848, q849⟩ := or_f q846
          obtain ⟨q850, q851⟩ := or_f q848
          obtain ⟨q852, q853⟩ := or_f q850
          have q854 := d_t (not_f q837)
          exact r_move rfl) rfl ?_
    refine ao_readG (x := .bool (r21.2 != r25.2)) rfl (GV.F rfl) (fun hg855 => by
          obtain ⟨q856, q857⟩ := or_f (not_t hg855)
          obtain ⟨q858, q859⟩ := or_f q856
          obtain ⟨q860, q861⟩ := or_f q858
          obtain ⟨q862, q863⟩ := or_f q860
          obtain ⟨q864, q865⟩ := or_f q862
          obtain ⟨q866, q867⟩ := or_f q864
          obtain ⟨q868, q869⟩ := or_f q866
          obtain ⟨q870, q871⟩ := or_f q868
          obtain ⟨q872, q873⟩ := or_f q870
          obtain ⟨q874, q875⟩ := or_f q872
          obtain ⟨q876, q877⟩ := or_f q874
          obtain ⟨q878, q879⟩ := or_f q876
          obtain ⟨q880, q881⟩ := or_f q878
          obtain ⟨q882, q883⟩ := or_f q880
          obtain ⟨q884, q885⟩ := or_f q882
          have q886 := d_t (not_f q869)
          exact Reads.strip 236 rfl (hg855) (Reads.strip 237 rfl (hg855) (r_neq_bool Try.underlying4 rfl rfl))) rfl ?_
    refine ao_read trivial (r_orB rfl rfl) rfl ?_
    refine ao_nil ?_
    refine aq_then ?_
    refine aw_cond rfl (fun hb887 => ?_) (fun hb887 => ?_)
    · replace h := is_if hb887 h
      refine aw_seq ?_
      refine aw_region ?_
      refine ao_read trivial (r_assign rfl) rfl ?_
      refine ao_nil ?_
      refine aq_then ?_
      refine aw_ret ?_
      refine aq_then_ret ?_
      refine aq_ret ?_
      obtain rfl := is_some h
      exact aq_finx (l := [.tmp 2]) (xs := [.bool false]) idn [.bool false] [] rfl (by exact ⟨rfl, trivial⟩) (by exact ⟨ad_ren rfl, trivial⟩) (by exact trivial) rfl (nk rfl) rfl rfl ⟨rfl, rfl⟩
    · obtain ⟨q888, q889⟩ := or_f hb887
      obtain ⟨q890, q891⟩ := or_f q888
      obtain ⟨q892, q893⟩ := or_f q890
      obtain ⟨q894, q895⟩ := or_f q892
      obtain ⟨q896, q897⟩ := or_f q894
      obtain ⟨q898, q899⟩ := or_f q896
      obtain ⟨q900, q901⟩ := or_f q898
      obtain ⟨q902, q903⟩ := or_f q900
      obtain ⟨q904, q905⟩ := or_f q902
      obtain ⟨q906, q907⟩ := or_f q904
      obtain ⟨q908, q909⟩ := or_f q906
      obtain ⟨q910, q911⟩ := or_f q908
      obtain ⟨q912, q913⟩ := or_f q910
      obtain ⟨q914, q915⟩ := or_f q912
      obtain ⟨q916, q917⟩ := or_f q914
      obtain ⟨q918, q919⟩ := or_f q916
      have q920 := d_t (not_f q903)
      replace h := is_else (ne_t hb887) h
      refine aw_skip ?_
      refine aq_then ?_
      refine aw_seq ?_
      refine aw_seq ?_
      refine aw_region ?_
      refine ao_read trivial (r_move rfl) rfl ?_
      refine ao_read trivial (r_move rfl) rfl ?_
      refine ao_readG (x := .v (.arr 2 (.int .i64)) r6.1) rfl (GV.T rfl) (fun hg921 => r_load_arr rfl Try.isAgg39 Try.sizeOf39 rfl rfl rfl) rfl ?_
      refine ao_readG (x := .v (.arr 2 (.int .i64)) r4.1) rfl (GV.T rfl) (fun hg922 => r_load_arr rfl Try.isAgg39 Try.sizeOf39 rfl rfl rfl) rfl ?_
      refine ao_scallG (r := .bool (p_laws_vLess r6.1 r4.1)) rfl (GV.T rfl) (fun hg923 => SCall.strip 242 rfl (hg923) (SCall.strip 243 rfl (hg923) (scall (c_laws_vLess (is_mk (rfl : p_laws_vLess r6.1 r4.1 = _))) rfl Try.func33 rfl rfl rfl rfl (fun σ => ⟨ad_ren rfl, ad_ren rfl, trivial⟩)))) rfl ?_
      refine ao_readG (x := .bool (p_laws_vLess r6.1 r4.1)) rfl (GV.T rfl) (fun hg924 => Reads.strip 244 rfl (hg924) (r_move rfl)) rfl ?_
      refine ao_readG (x := .v (.arr 2 (.int .i64)) ([1, 1] : (List Int))) rfl (GV.gF rfl) (fun hg925 => by
            obtain ⟨q926, q927⟩ := and_t hg925
            exact r_build_arr (l := [(0, .const (.int .i64 1)), (1, .const (.int .i64 1))]) (t := (.int .i64)) ([1, 1] : (List Int)) rfl Try.underlying39 Try.zeroValue39 Try.sizeOf3 rfl rfl rfl rfl) rfl ?_
      refine ao_readG (x := .v (.arr 2 (.int .i64)) r6.1) rfl (GV.gF rfl) (fun hg928 => by
            obtain ⟨q929, q930⟩ := and_t hg928
            exact r_load_arr rfl Try.isAgg39 Try.sizeOf39 rfl rfl rfl) rfl ?_
      refine ao_scallG (r := .bool (p_laws_vLess [1, 1] r6.1)) rfl (GV.gF rfl) (fun hg931 => by
            obtain ⟨q932, q933⟩ := and_t hg931
            exact SCall.strip 246 rfl (hg931) (SCall.strip 247 rfl (hg931) (scall (c_laws_vLess (is_mk (rfl : p_laws_vLess [1, 1] r6.1 = _))) rfl Try.func33 rfl rfl rfl rfl (fun σ => ⟨ad_ren rfl, ad_ren rfl, trivial⟩)))) rfl ?_
      refine ao_readG (x := .bool ((p_laws_vLess r6.1 r4.1) || (p_laws_vLess [1, 1] r6.1))) rfl (GV.T rfl) (fun hg934 => Reads.strip 245 rfl (hg934) (r_orBg rfl rfl (tr_and (hg934)))) rfl ?_
      refine ao_readG (x := .bool ((p_laws_vLess r6.1 r4.1) || (p_laws_vLess [1, 1] r6.1))) rfl (GV.T rfl) (fun hg935 => Reads.strip 249 rfl (hg935) (r_move rfl)) rfl ?_
      refine ao_readG (x := .elem 6 0 1 0) rfl (GV.gF rfl) (fun hg936 => by
            obtain ⟨q937, q938⟩ := and_t hg936
            obtain ⟨q939, q940⟩ := or_f (not_t q938)
            exact r_idxAddr_arr (i := 0) Try.underlying39 Try.sizeOf3 rfl rfl (show 0 ≤ 0 from by omega) (show 0 < (2 : Int) from by omega)) rfl ?_
      refine ao_readG (x := .int .i64 (r8.1.getD 0 0)) rfl (GV.gF rfl) (fun hg941 => by
            obtain ⟨q942, q943⟩ := and_t hg941
            obtain ⟨q944, q945⟩ := or_f (not_t q943)
            exact Reads.strip 251 rfl (hg941) (r_load_elema_int Try.isAgg3 Try.sizeOf3 rfl rfl rfl (show 0 < 2 from by omega))) rfl ?_
      refine ao_readG (x := .bool (decide ((r8.1.getD 0 0) < 0))) rfl (GV.gF rfl) (fun hg946 => by
            obtain ⟨q947, q948⟩ := and_t hg946
            obtain ⟨q949, q950⟩ := or_f (not_t q948)
            exact Reads.strip 252 rfl (hg946) (r_lss rfl rfl)) rfl ?_
      refine ao_readG (x := .bool (((p_laws_vLess r6.1 r4.1) || (p_laws_vLess [1, 1] r6.1)) || (decide ((r8.1.getD 0 0) < 0)))) rfl (GV.T rfl) (fun hg951 => Reads.strip 250 rfl (hg951) (r_orBg rfl rfl (tr_and (hg951)))) rfl ?_
      refine ao_read trivial (r_andB rfl rfl) rfl ?_
      refine ao_nil ?_
      refine aq_then ?_
      refine aw_cond rfl (fun hb952 => ?_) (fun hb952 => ?_)
      · obtain ⟨q953, q954⟩ := and_t hb952
        replace h := is_if hb952 h
        refine aw_seq ?_
        refine aw_region ?_
        refine ao_read trivial (r_assign rfl) rfl ?_
        refine ao_nil ?_
        refine aq_then ?_
        refine aw_ret ?_
        refine aq_then_ret ?_
        refine aq_ret ?_
        obtain rfl := is_some h
        exact aq_finx (l := [.tmp 2]) (xs := [.bool false]) idn [.bool false] [] rfl (by exact ⟨rfl, trivial⟩) (by exact ⟨ad_ren rfl, trivial⟩) (by exact trivial) rfl (nk rfl) rfl rfl ⟨rfl, rfl⟩
      · replace h := is_else (ne_t hb952) h
        refine aw_skip ?_
        refine aq_then ?_
        refine aw_join (fun (s955 : Unit) => [(23, .ref 0 0), (24, .int .i64 r20.2), (25, .os 1), (26, .bool r21.2), (27, .os 2), (29, .v (.slice (.int .i64)) r25.1), (33, .ref 3 0), (34, .bool r27.2)]) (fun (s955 : Unit) => [(0, .var [.arr (.int .i64) 6 r20.1]), (1, .row (.slice (.int .i64)) r21.1), (2, .row (.slice (.int .i64)) r23.1), (3, .var [.arr (.int .i64) 2 r27.1])]) (fun (s955 : Unit) => True) h (fun s955 hI h => ?_) (fun h j957 => ?_)
        · refine aw_seq ?_
          refine aw_seq ?_
          refine aw_region ?_
          refine ao_read trivial (r_move rfl) rfl ?_
          refine ao_read trivial (r_not rfl) rfl ?_
          refine ao_nil ?_
          refine aq_then ?_
          refine aw_cond rfl (fun hb958 => ?_) (fun hb958 => ?_)
          · replace h := is_else (ne_t (not_t hb958)) h
            refine aw_seq ?_
            refine aw_region ?_
            refine ao_read trivial (r_assign rfl) rfl ?_
            refine ao_nil ?_
            refine aq_then ?_
            refine aw_ret ?_
            refine aq_then_ret ?_
            refine aq_ret ?_
            obtain rfl := is_some h
            exact aq_finx (l := [.tmp 2]) (xs := [.bool true]) idn [.bool true] [] rfl (by exact ⟨rfl, trivial⟩) (by exact ⟨ad_ren rfl, trivial⟩) (by exact trivial) rfl (nk rfl) rfl rfl ⟨rfl, rfl⟩
          · replace h := is_if (not_f hb958) h
            refine aw_skip ?_
            refine aq_then ?_
            refine aw_seq ?_
            refine aw_region ?_
            refine ao_read trivial (r_assign rfl) rfl ?_
            refine ao_read trivial (r_assign rfl) rfl ?_
            refine ao_nil ?_
            refine aq_then ?_
            refine aw_seq ?_
            refine aw_region ?_
            refine ao_read trivial (r_assign rfl) rfl ?_
            refine ao_nil ?_
            refine aq_then ?_
            refine aw_seq ?_
            refine aw_seq ?_
            refine aw_region ?_
            refine ao_read trivial (r_assign rfl) rfl ?_
            refine ao_nil ?_
            refine aq_then ?_
            refine aw_block ?_
            refine aw_loop (AL.sub (fr' := [(23, .ref 0 0), (24, .int .i64 r20.2), (25, .os 1), (27, .os 2), (29, .v (.slice (.int .i64)) r25.1), (33, .ref 3 0), (34, .bool r27.2), (39, .int .i64 0), (40, .int .i64 0), (41, .int .i64 0), (42, .int .i64 0)]) (H' := [(0, .var [.arr (.int .i64) 6 r20.1]), (1, .row (.slice (.int .i64)) r21.1), (2, .row (.slice (.int .i64)) r23.1), (3, .var [.arr (.int .i64) 2 r27.1])]) (sub_mk idn (by exact ⟨⟨_, rfl, ad_ren rfl⟩, ⟨_, rfl, ad_ren rfl⟩, ⟨_, rfl, ad_ren rfl⟩, ⟨_, rfl, ad_ren rfl⟩, ⟨_, rfl, ad_ren rfl⟩, ⟨_, rfl, ad_ren rfl⟩, ⟨_, rfl, ad_ren rfl⟩, ⟨_, rfl, ad_ren rfl⟩, ⟨_, rfl, ad_ren rfl⟩, ⟨_, rfl, ad_ren rfl⟩, ⟨_, rfl, ad_ren rfl⟩, trivial⟩) (by exact ⟨⟨_, rfl, ⟨rfl, trivial⟩⟩, ⟨_, rfl, rfl⟩, ⟨_, rfl, rfl⟩, ⟨_, rfl, ⟨rfl, trivial⟩⟩, trivial⟩) (by rfl) (nk rfl)) (al_cnt (fun i960 (s959 : Int × Int × Int) => [(23, .ref 0 0), (24, .int .i64 r20.2), (25, .os 1), (27, .os 2), (29, .v (.slice (.int .i64)) r25.1), (33, .ref 3 0), (34, .bool r27.2), (39, .int .i64 s959.1), (40, .int .i64 s959.2.1), (41, .int .i64 s959.2.2), (42, .int .i64 i960)]) (fun i960 (s959 : Int × Int × Int) => [(0, .var [.arr (.int .i64) 6 r20.1]), (1, .row (.slice (.int .i64)) r21.1), (2, .row (.slice (.int .i64)) r23.1), (3, .var [.arr (.int .i64) 2 r27.1])]) (fun d i960 (s959 : Int × Int × Int) => d = Int.toNat ((r21.1.length : Int) - i960) ∧ 0 ≤ s959.2.1 ∧ 0 ≤ i960 ∧ i960 ≤ (r21.1.length : Int)) h ⟨rfl, (by (try simp only [List.length_set, List.length_append, List.length_cons, List.length_nil, List.length_replicate, List.length_take, List.length_drop]) <;> omega), (by (try simp only [List.length_set, List.length_append, List.length_cons, List.length_nil, List.length_replicate, List.length_take, List.length_drop]) <;> omega), (by (try simp only [List.length_set, List.length_append, List.length_cons, List.length_nil, List.length_replicate, List.length_take, List.length_drop]) <;> omega)⟩ (fun d961 i960 s959 hI h ih961 => ?_)))
            obtain ⟨hd, _, _, _⟩ := hI
            refine al_round ?_
            refine aw_seq ?_
            refine aw_seq ?_
            refine aw_region ?_
            refine ao_read trivial (r_move rfl) rfl ?_
            refine ao_read trivial (r_move rfl) rfl ?_
            refine ao_read trivial (r_len_osm (r21.1.length : Int) Try.underlying23 rfl rfl rfl) rfl ?_
            refine ao_read trivial (r_lss rfl rfl) rfl ?_
            refine ao_nil ?_
            refine aq_then ?_
            refine aw_cond rfl (fun hb963 => ?_) (fun hb963 => ?_)
            · have q964 := d_t hb963
              obtain ⟨d961, rfl⟩ : ∃ e, d961 = e + 1 := ⟨d961 - 1, by omega⟩
              replace h := is_cntS h
              refine aw_skip ?_
              refine aq_then ?_
              refine aw_seq ?_
              refine aw_block ?_
              refine aw_seq ?_
              refine aw_seq ?_
              refine aw_drawAll (by kernel_rfl) ?_
              refine an_read 0 (by kernel_rfl) (fun _ _ _ h => h) rfl (by kernel_rfl) trivial (r_move rfl) rfl ?_
              refine an_read 1 (by kernel_rfl) (fun _ _ _ h => h) rfl (by kernel_rfl) trivial (r_move rfl) rfl ?_
              refine an_read 2 (by kernel_rfl) (fun _ _ _ h => h) rfl (by kernel_rfl) trivial (r_idxAddr_os Try.underlying23 Try.sizeOf30 rfl rfl rfl (show 0 ≤ i960 from by omega) (show i960 < (r21.1.length : Int) from by omega)) rfl ?_
              refine an_read 3 (by kernel_rfl) (fun _ _ _ h => h) rfl (by kernel_rfl) trivial (r_load_elemv (t := (.slice (.int .i64))) Try.isAgg30 Try.sizeOf30 rfl rfl (show i960.toNat < r21.1.length from by omega)) rfl ?_
              refine an_read 4 (by kernel_rfl) (fun _ _ _ h => h) rfl (by kernel_rfl) trivial (r_move rfl) rfl ?_
              refine an_read 5 (by kernel_rfl) (fun _ _ _ h => h) rfl (by kernel_rfl) trivial (r_move rfl) rfl ?_
              refine an_read 6 (by kernel_rfl) (fun _ _ _ h => h) rfl (by kernel_rfl) trivial (r_idxAddr_os Try.underlying23 Try.sizeOf30 rfl rfl rfl (show 0 ≤ i960 from by omega) (show i960 < (r23.1.length : Int) from by omega)) rfl ?_
              refine an_read 7 (by kernel_rfl) (fun _ _ _ h => h) rfl (by kernel_rfl) trivial (r_load_elemv (t := (.slice (.int .i64))) Try.isAgg30 Try.sizeOf30 rfl rfl (show i960.toNat < r23.1.length from by omega)) rfl ?_
              refine an_scall 8 (by kernel_rfl) (fun _ _ _ h => h) rfl (by kernel_rfl) trivial (scall (c_laws_vInts (is_mk (rfl : p_laws_vInts (r21.1.getD i960.toNat []) (r23.1.getD i960.toNat []) = _))) rfl Try.func32 rfl rfl rfl rfl (fun σ => ⟨ad_ren rfl, ad_ren rfl, trivial⟩)) rfl ?_
              refine an_read 9 (by kernel_rfl) (fun _ _ _ h => h) rfl (by kernel_rfl) trivial (r_not rfl) rfl ?_
              refine an_done rfl ?_
              refine aq_then ?_
              refine aw_cond rfl (fun hb966 => ?_) (fun hb966 => ?_)
              · replace h := is_else (ne_t (not_t hb966)) h
                refine aw_seq ?_
                refine aw_region ?_
                refine ao_read trivial (r_assign rfl) rfl ?_
                refine ao_nil ?_
                refine aq_then ?_
                refine aw_ret ?_
                refine aq_then_ret ?_
                refine aq_in_ret ?_
                refine aq_then_ret ?_
                refine aq_then_ret ?_
                refine aq_in_ret ?_
                refine aq_then_ret ?_
                refine aq_ret ?_
                obtain rfl := is_some h
                exact aq_finx (l := [.tmp 2]) (xs := [.bool false]) idn [.bool false] [] rfl (by exact ⟨rfl, trivial⟩) (by exact ⟨ad_ren rfl, trivial⟩) (by exact trivial) rfl (nk rfl) rfl rfl ⟨rfl, rfl⟩
              · replace h := is_if (not_f hb966) h
                refine aw_skip ?_
                refine aq_then ?_
                refine aw_seq ?_
                obtain ⟨r967, r967h, h⟩ := is_bind h
                refine aw_drawP 12 rfl (by kernel_rfl) ?_
                refine ap_to [(23, .ref 0 0), (24, .int .i64 r20.2), (25, .os 1), (27, .os 2), (29, .v (.slice (.int .i64)) r25.1), (33, .ref 3 0), (34, .bool r27.2), (39, .int .i64 s959.1), (40, .int .i64 s959.2.1), (41, .int .i64 s959.2.2), (42, .int .i64 i960), (43, .ref 4 0), (44, .bool r967.2)] [(0, .var [.arr (.int .i64) 6 r20.1]), (1, .row (.slice (.int .i64)) r21.1), (2, .row (.slice (.int .i64)) r23.1), (3, .var [.arr (.int .i64) 2 r27.1]), (4, .var [.arr (.int .i64) 2 r967.1])] ?_ (fun key => ?_)
                · refine aq_then ?_
                  refine aw_seq ?_
                  obtain ⟨r982, r982h, h⟩ := is_bind h
                  refine aw_drawP 12 rfl (by kernel_rfl) ?_
                  refine ap_to [(23, .ref 0 0), (24, .int .i64 r20.2), (25, .os 1), (27, .os 2), (29, .v (.slice (.int .i64)) r25.1), (33, .ref 3 0), (34, .bool r27.2), (39, .int .i64 s959.1), (40, .int .i64 s959.2.1), (41, .int .i64 s959.2.2), (42, .int .i64 i960), (43, .ref 4 0), (44, .bool r967.2), (45, .ref 5 0), (46, .bool r982.2)] [(0, .var [.arr (.int .i64) 6 r20.1]), (1, .row (.slice (.int .i64)) r21.1), (2, .row (.slice (.int .i64)) r23.1), (3, .var [.arr (.int .i64) 2 r27.1]), (4, .var [.arr (.int .i64) 2 r967.1]), (5, .var [.arr (.int .i64) 2 r982.1])] ?_ (fun key => ?_)
                  · refine aq_then ?_
                    refine aw_seq ?_
                    refine aw_seq ?_
                    refine aw_region ?_
                    refine ao_read trivial (r_move rfl) rfl ?_
                    refine ao_read trivial (r_not rfl) rfl ?_
                    refine ao_read trivial (r_move rfl) rfl ?_
                    refine ao_readG (x := .bool r982.2) rfl (GV.F rfl) (fun hg997 => r_move rfl) rfl ?_
                    refine ao_readG (x := .bool (!r982.2)) rfl (GV.F rfl) (fun hg998 => Reads.strip 312 rfl (hg998) (r_not rfl)) rfl ?_
                    refine ao_read trivial (r_orB rfl rfl) rfl ?_
                    refine ao_nil ?_
                    refine aq_then ?_
                    refine aw_cond rfl (fun hb999 => ?_) (fun hb999 => ?_)
                    · replace h := is_if hb999 h
                      refine aw_seq ?_
                      refine aw_region ?_
                      refine ao_read trivial (r_assign rfl) rfl ?_
                      refine ao_nil ?_
                      refine aq_then ?_
                      refine aw_ret ?_
                      refine aq_then_ret ?_
                      refine aq_in_ret ?_
                      refine aq_then_ret ?_
                      refine aq_then_ret ?_
                      refine aq_in_ret ?_
                      refine aq_then_ret ?_
                      refine aq_ret ?_
                      obtain rfl := is_some h
                      exact aq_finx (l := [.tmp 2]) (xs := [.bool false]) idn [.bool false] [] rfl (by exact ⟨rfl, trivial⟩) (by exact ⟨ad_ren rfl, trivial⟩) (by exact trivial) rfl (nk rfl) rfl rfl ⟨rfl, rfl⟩
                    · obtain ⟨q1000, q1001⟩ := or_f hb999
                      replace h := is_else (ne_t hb999) h
                      refine aw_skip ?_
                      refine aq_then ?_
                      refine aw_seq ?_
                      obtain ⟨r1002, r1002h, h⟩ := is_bind h
                      obtain ⟨g1003, h⟩ := is_guard h
                      refine aw_drawAll (by kernel_rfl) ?_
                      refine an_read 0 (by kernel_rfl) (fun _ _ _ h => h) rfl (by kernel_rfl) trivial (r_idxAddr_arr (i := 0) Try.underlying39 Try.sizeOf3 rfl rfl (show 0 ≤ 0 from by omega) (show 0 < (2 : Int) from by omega)) rfl ?_
                      refine an_read 1 (by kernel_rfl) (fun _ _ _ h => h) rfl (by kernel_rfl) trivial (r_load_elema_int Try.isAgg3 Try.sizeOf3 rfl rfl rfl (show 0 < 2 from by omega)) rfl ?_
                      refine an_read 2 (by kernel_rfl) (fun _ _ _ h => h) rfl (by kernel_rfl) trivial (r_move rfl) rfl ?_
                      refine an_scall 3 (by kernel_rfl) (fun _ _ _ h => h) rfl (by kernel_rfl) trivial (scall (c_laws_vSix (is_mk r1002h)) rfl Try.func34 rfl rfl rfl rfl (fun σ => ⟨ad_ren rfl, trivial⟩)) rfl ?_
                      refine an_read 4 (by kernel_rfl) (fun _ _ _ h => h) rfl (by kernel_rfl) trivial (r_idxAddr_arr (i := 1) Try.underlying39 Try.sizeOf3 rfl rfl (show 0 ≤ 1 from by omega) (show 1 < (2 : Int) from by omega)) rfl ?_
                      refine an_read 5 (by kernel_rfl) (fun _ _ _ h => h) rfl (by kernel_rfl) trivial (r_load_elema_int Try.isAgg3 Try.sizeOf3 rfl rfl rfl (show 1 < 2 from by omega)) rfl ?_
                      refine an_read 6 (by kernel_rfl) (fun _ _ _ h => h) rfl (by kernel_rfl) trivial (r_quo rfl rfl g1003) rfl ?_
                      refine an_read 7 (by kernel_rfl) (fun _ _ _ h => h) rfl (by kernel_rfl) trivial (r_mul rfl rfl) rfl ?_
                      refine an_read 8 (by kernel_rfl) (fun _ _ _ h => h) rfl (by kernel_rfl) trivial (r_assign rfl) rfl ?_
                      refine an_done rfl ?_
                      refine aq_then ?_
                      refine aw_seq ?_
                      refine aw_region ?_
                      refine ao_read trivial (r_move rfl) rfl ?_
                      refine ao_read trivial (r_move rfl) rfl ?_
                      refine ao_read trivial (r_add rfl rfl) rfl ?_
                      refine ao_read trivial (r_assign rfl) rfl ?_
                      refine ao_nil ?_
                      refine aq_then ?_
                      refine aw_join (fun (s1004 : Int) => [(23, .ref 0 0), (24, .int .i64 r20.2), (25, .os 1), (27, .os 2), (29, .v (.slice (.int .i64)) r25.1), (33, .ref 3 0), (34, .bool r27.2), (39, .int .i64 (IntKind.wrap .i64 (s959.1 + (IntKind.wrap .i64 ((r967.1.getD 0 0) * (IntKind.wrap .i64 (r1002.tdiv (r967.1.getD 1 0)))))))), (40, .int .i64 s1004), (41, .int .i64 s959.2.2), (42, .int .i64 i960), (45, .ref 4 0), (47, .int .i64 (IntKind.wrap .i64 ((r967.1.getD 0 0) * (IntKind.wrap .i64 (r1002.tdiv (r967.1.getD 1 0))))))]) (fun (s1004 : Int) => [(0, .var [.arr (.int .i64) 6 r20.1]), (1, .row (.slice (.int .i64)) r21.1), (2, .row (.slice (.int .i64)) r23.1), (3, .var [.arr (.int .i64) 2 r27.1]), (4, .var [.arr (.int .i64) 2 r982.1])]) (fun (s1004 : Int) => 0 ≤ s1004) h (fun s1004 hI h => ?_) (fun h j1006 => ?_)
                      · refine aw_seq ?_
                        refine aw_region ?_
                        refine ao_read trivial (r_move rfl) rfl ?_
                        refine ao_read trivial (r_gtr rfl rfl) rfl ?_
                        refine ao_nil ?_
                        refine aq_then ?_
                        refine aw_cond rfl (fun hb1007 => ?_) (fun hb1007 => ?_)
                        · have q1008 := d_t hb1007
                          replace h := is_if (d_t hb1007) h
                          refine aw_region ?_
                          refine ao_read trivial (r_move rfl) rfl ?_
                          refine ao_read trivial (r_move rfl) rfl ?_
                          refine ao_read trivial (r_idxAddr_arr (i := 0) Try.underlying39 Try.sizeOf3 rfl rfl (show 0 ≤ 0 from by omega) (show 0 < (2 : Int) from by omega)) rfl ?_
                          refine ao_read trivial (r_load_elema_int Try.isAgg3 Try.sizeOf3 rfl rfl rfl (show 0 < 2 from by omega)) rfl ?_
                          refine ao_read trivial (r_move rfl) rfl ?_
                          refine ao_read trivial (r_mul rfl rfl) rfl ?_
                          refine ao_read trivial (r_mul rfl rfl) rfl ?_
                          refine ao_read trivial (r_idxAddr_arr (i := 1) Try.underlying39 Try.sizeOf3 rfl rfl (show 0 ≤ 1 from by omega) (show 1 < (2 : Int) from by omega)) rfl ?_
                          refine ao_read trivial (r_load_elema_int Try.isAgg3 Try.sizeOf3 rfl rfl rfl (show 1 < 2 from by omega)) rfl ?_
                          obtain ⟨g1010, h⟩ := is_guard h
                          refine ao_read trivial (r_quo rfl rfl g1010) rfl ?_
                          refine ao_read trivial (r_mul rfl rfl) rfl ?_
                          refine ao_read trivial (r_add rfl rfl) rfl ?_
                          refine ao_read trivial (r_assign rfl) rfl ?_
                          refine ao_nil ?_
                          refine aq_in ?_
                          refine aq_then ?_
                          refine aw_region ?_
                          refine ao_read trivial (r_move rfl) rfl ?_
                          refine ao_read trivial (r_addI rfl rfl (wrap_id (by omega) (by omega))) rfl ?_
                          refine ao_read trivial (r_assign rfl) rfl ?_
                          refine ao_nil ?_
                          exact aq_again (AL.sub (sub_mk idn (by exact ⟨⟨_, rfl, ad_ren rfl⟩, ⟨_, rfl, ad_ren rfl⟩, ⟨_, rfl, ad_ren rfl⟩, ⟨_, rfl, ad_ren rfl⟩, ⟨_, rfl, ad_ren rfl⟩, ⟨_, rfl, ad_ren rfl⟩, ⟨_, rfl, ad_ren rfl⟩, ⟨_, rfl, ad_ren rfl⟩, ⟨_, rfl, ad_ren rfl⟩, ⟨_, rfl, ad_ren rfl⟩, ⟨_, rfl, ad_ren rfl⟩, trivial⟩) (by exact ⟨⟨_, rfl, ⟨rfl, trivial⟩⟩, ⟨_, rfl, rfl⟩, ⟨_, rfl, rfl⟩, ⟨_, rfl, ⟨rfl, trivial⟩⟩, trivial⟩) (by rfl) (nk rfl)) (ih961 d961 (i960 + 1) ((IntKind.wrap .i64 (s959.1 + (IntKind.wrap .i64 ((r967.1.getD 0 0) * (IntKind.wrap .i64 (r1002.tdiv (r967.1.getD 1 0))))))), s1004, (IntKind.wrap .i64 (s959.2.2 + (IntKind.wrap .i64 ((IntKind.wrap .i64 ((r967.1.getD 0 0) * (IntKind.wrap .i64 (r1002.tdiv (r967.1.getD 1 0))))) * (IntKind.wrap .i64 ((IntKind.wrap .i64 ((r982.1.getD 0 0) * (IntKind.wrap .i64 (360 * r20.2)))).tdiv (r982.1.getD 1 0)))))))) (by omega) ⟨by omega, (by (try simp only [List.length_set, List.length_append, List.length_cons, List.length_nil, List.length_replicate, List.length_take, List.length_drop]) <;> omega), (by (try simp only [List.length_set, List.length_append, List.length_cons, List.length_nil, List.length_replicate, List.length_take, List.length_drop]) <;> omega), (by (try simp only [List.length_set, List.length_append, List.length_cons, List.length_nil, List.length_replicate, List.length_take, List.length_drop]) <;> omega)⟩ h))
                        · have q1009 := d_f hb1007
                          replace h := is_else (d_f hb1007) h
                          refine aw_skip ?_
                          refine aq_in ?_
                          refine aq_then ?_
                          refine aw_region ?_
                          refine ao_read trivial (r_move rfl) rfl ?_
                          refine ao_read trivial (r_addI rfl rfl (wrap_id (by omega) (by omega))) rfl ?_
                          refine ao_read trivial (r_assign rfl) rfl ?_
                          refine ao_nil ?_
                          exact aq_again (AL.sub (sub_mk idn (by exact ⟨⟨_, rfl, ad_ren rfl⟩, ⟨_, rfl, ad_ren rfl⟩, ⟨_, rfl, ad_ren rfl⟩, ⟨_, rfl, ad_ren rfl⟩, ⟨_, rfl, ad_ren rfl⟩, ⟨_, rfl, ad_ren rfl⟩, ⟨_, rfl, ad_ren rfl⟩, ⟨_, rfl, ad_ren rfl⟩, ⟨_, rfl, ad_ren rfl⟩, ⟨_, rfl, ad_ren rfl⟩, ⟨_, rfl, ad_ren rfl⟩, trivial⟩) (by exact ⟨⟨_, rfl, ⟨rfl, trivial⟩⟩, ⟨_, rfl, rfl⟩, ⟨_, rfl, rfl⟩, ⟨_, rfl, ⟨rfl, trivial⟩⟩, trivial⟩) (by rfl) (nk rfl)) (ih961 d961 (i960 + 1) ((IntKind.wrap .i64 (s959.1 + (IntKind.wrap .i64 ((r967.1.getD 0 0) * (IntKind.wrap .i64 (r1002.tdiv (r967.1.getD 1 0))))))), s1004, s959.2.2) (by omega) ⟨by omega, (by (try simp only [List.length_set, List.length_append, List.length_cons, List.length_nil, List.length_replicate, List.length_take, List.length_drop]) <;> omega), (by (try simp only [List.length_set, List.length_append, List.length_cons, List.length_nil, List.length_replicate, List.length_take, List.length_drop]) <;> omega), (by (try simp only [List.length_set, List.length_append, List.length_cons, List.length_nil, List.length_replicate, List.length_take, List.length_drop]) <;> omega)⟩ h))
                      · refine aw_seq ?_
                        refine aw_region ?_
                        refine ao_read trivial (r_move rfl) rfl ?_
                        refine ao_read trivial (r_move rfl) rfl ?_
                        refine ao_read trivial (r_gtr rfl rfl) rfl ?_
                        refine ao_nil ?_
                        refine aq_then ?_
                        refine aw_cond rfl (fun hb1011 => ?_) (fun hb1011 => ?_)
                        · have q1012 : s959.2.1 < (IntKind.wrap .i64 ((r967.1.getD 0 0) * (IntKind.wrap .i64 (r1002.tdiv (r967.1.getD 1 0))))) := d_t hb1011
                          replace h := is_if (d_t hb1011) h
                          refine aw_region ?_
                          refine ao_read trivial (r_move rfl) rfl ?_
                          refine ao_read trivial (r_assign rfl) rfl ?_
                          refine ao_nil ?_
                          exact aq_then (AW.sub (sub_mk (rn [(4, 5)]) (by exact ⟨⟨_, rfl, ad_ren rfl⟩, ⟨_, rfl, ad_ren rfl⟩, ⟨_, rfl, ad_ren rfl⟩, ⟨_, rfl, ad_ren rfl⟩, ⟨_, rfl, ad_ren rfl⟩, ⟨_, rfl, ad_ren rfl⟩, ⟨_, rfl, ad_ren rfl⟩, ⟨_, rfl, ad_ren rfl⟩, ⟨_, rfl, ad_ren rfl⟩, ⟨_, rfl, ad_ren rfl⟩, ⟨_, rfl, ad_ren rfl⟩, ⟨_, rfl, ad_ren rfl⟩, ⟨_, rfl, ad_ren rfl⟩, trivial⟩) (by exact ⟨⟨_, rfl, ⟨rfl, trivial⟩⟩, ⟨_, rfl, rfl⟩, ⟨_, rfl, rfl⟩, ⟨_, rfl, ⟨rfl, trivial⟩⟩, ⟨_, rfl, ⟨rfl, trivial⟩⟩, trivial⟩) (by rfl) (nk rfl)) (j1006 (IntKind.wrap .i64 ((r967.1.getD 0 0) * (IntKind.wrap .i64 (r1002.tdiv (r967.1.getD 1 0))))) (by (try simp only [List.length_set, List.length_append, List.length_cons, List.length_nil, List.length_replicate, List.length_take, List.length_drop]) <;> omega) h))
                        · have q1013 : ¬ (s959.2.1 < (IntKind.wrap .i64 ((r967.1.getD 0 0) * (IntKind.wrap .i64 (r1002.tdiv (r967.1.getD 1 0)))))) := d_f hb1011
                          replace h := is_else (d_f hb1011) h
                          refine aw_skip ?_
                          exact aq_then (AW.sub (sub_mk (rn [(4, 5)]) (by exact ⟨⟨_, rfl, ad_ren rfl⟩, ⟨_, rfl, ad_ren rfl⟩, ⟨_, rfl, ad_ren rfl⟩, ⟨_, rfl, ad_ren rfl⟩, ⟨_, rfl, ad_ren rfl⟩, ⟨_, rfl, ad_ren rfl⟩, ⟨_, rfl, ad_ren rfl⟩, ⟨_, rfl, ad_ren rfl⟩, ⟨_, rfl, ad_ren rfl⟩, ⟨_, rfl, ad_ren rfl⟩, ⟨_, rfl, ad_ren rfl⟩, ⟨_, rfl, ad_ren rfl⟩, ⟨_, rfl, ad_ren rfl⟩, trivial⟩) (by exact ⟨⟨_, rfl, ⟨rfl, trivial⟩⟩, ⟨_, rfl, rfl⟩, ⟨_, rfl, rfl⟩, ⟨_, rfl, ⟨rfl, trivial⟩⟩, ⟨_, rfl, ⟨rfl, trivial⟩⟩, trivial⟩) (by rfl) (nk rfl)) (j1006 s959.2.1 (by (try simp only [List.length_set, List.length_append, List.length_cons, List.length_nil, List.length_replicate, List.length_take, List.length_drop]) <;> omega) h))
                  refine ap_let (g := 2) (listed := #[true, true, true, true, true, true, true, true, true, true, false, false]) [(23, .ref 0 0), (24, .int .i64 r20.2), (25, .os 1), (27, .os 2), (29, .v (.slice (.int .i64)) r25.1), (33, .ref 3 0), (34, .bool r27.2), (39, .int .i64 s959.1), (40, .int .i64 s959.2.1), (41, .int .i64 s959.2.2), (42, .int .i64 i960), (43, .ref 4 0), (44, .bool r967.2), (45, .ref 5 0), (307, .v (.arr 2 (.int .i64)) r982.1), (308, .bool r982.2)] [(0, .var [.arr (.int .i64) 6 r20.1]), (1, .row (.slice (.int .i64)) r21.1), (2, .row (.slice (.int .i64)) r23.1), (3, .var [.arr (.int .i64) 2 r27.1]), (4, .var [.arr (.int .i64) 2 r967.1]), (5, .var [.arr (.int .i64) 2 ((List.replicate 2 0) : (List Int))])] ?_ (fun k988 => ?_)
                  · refine ap_all [10] (by kernel_rfl) ⟨?_, trivial⟩
                    refine apo_ao rfl ?_
                    refine ao_effS trivial (e_store rfl rfl rfl rfl Try.sizeOf39 rfl) ?_
                    refine ao_nil ?_
                    refine ap_in ?_
                    refine ap_pure 11 (by kernel_rfl) (fun _ _ _ h => h) rfl (by kernel_rfl) trivial (rp_assign rfl) rfl ?_
                    exact ap_end (by kernel_rfl) (AQ.sub (sub_mk idn (by exact ⟨⟨_, rfl, ad_ren rfl⟩, ⟨_, rfl, ad_ren rfl⟩, ⟨_, rfl, ad_ren rfl⟩, ⟨_, rfl, ad_ren rfl⟩, ⟨_, rfl, ad_ren rfl⟩, ⟨_, rfl, ad_ren rfl⟩, ⟨_, rfl, ad_ren rfl⟩, ⟨_, rfl, ad_ren rfl⟩, ⟨_, rfl, ad_ren rfl⟩, ⟨_, rfl, ad_ren rfl⟩, ⟨_, rfl, ad_ren rfl⟩, ⟨_, rfl, ad_ren rfl⟩, ⟨_, rfl, ad_ren rfl⟩, ⟨_, rfl, ad_ren rfl⟩, ⟨_, rfl, ad_ren rfl⟩, trivial⟩) (by exact ⟨⟨_, rfl, ⟨rfl, trivial⟩⟩, ⟨_, rfl, rfl⟩, ⟨_, rfl, rfl⟩, ⟨_, rfl, ⟨rfl, trivial⟩⟩, ⟨_, rfl, ⟨rfl, trivial⟩⟩, ⟨_, rfl, ⟨rfl, trivial⟩⟩, trivial⟩) (by rfl) (nk rfl)) key)
                  refine ap_let (g := 3) (listed := #[true, true, true, true, true, true, true, true, true, false, false, false]) [(23, .ref 0 0), (24, .int .i64 r20.2), (25, .os 1), (27, .os 2), (29, .v (.slice (.int .i64)) r25.1), (33, .ref 3 0), (34, .bool r27.2), (39, .int .i64 s959.1), (40, .int .i64 s959.2.1), (41, .int .i64 s959.2.2), (42, .int .i64 i960), (43, .ref 4 0), (44, .bool r967.2), (307, .v (.arr 2 (.int .i64)) r982.1), (308, .bool r982.2)] [(0, .var [.arr (.int .i64) 6 r20.1]), (1, .row (.slice (.int .i64)) r21.1), (2, .row (.slice (.int .i64)) r23.1), (3, .var [.arr (.int .i64) 2 r27.1]), (4, .var [.arr (.int .i64) 2 r967.1])] ?_ (fun k987 => ?_)
                  · refine ap_all [9] (by kernel_rfl) ⟨?_, trivial⟩
                    refine apo_ao rfl ?_
                    refine ao_eff trivial (e_alloc 5 (y := .v (.arr 2 (.int .i64)) ((List.replicate 2 0) : (List Int))) Try.zeroValue39 (fun ρ h M => ra_zero_arr (t := (.int .i64)) rfl) rfl rfl rfl rfl rfl) rfl ?_
                    refine ao_nil ?_
                    refine ap_in ?_
                    exact ap_go (by kernel_rfl) (sub_mk idn (by exact ⟨⟨_, rfl, ad_ren rfl⟩, ⟨_, rfl, ad_ren rfl⟩, ⟨_, rfl, ad_ren rfl⟩, ⟨_, rfl, ad_ren rfl⟩, ⟨_, rfl, ad_ren rfl⟩, ⟨_, rfl, ad_ren rfl⟩, ⟨_, rfl, ad_ren rfl⟩, ⟨_, rfl, ad_ren rfl⟩, ⟨_, rfl, ad_ren rfl⟩, ⟨_, rfl, ad_ren rfl⟩, ⟨_, rfl, ad_ren rfl⟩, ⟨_, rfl, ad_ren rfl⟩, ⟨_, rfl, ad_ren rfl⟩, ⟨_, rfl, ad_ren rfl⟩, ⟨_, rfl, ad_ren rfl⟩, ⟨_, rfl, ad_ren rfl⟩, trivial⟩) (by exact ⟨⟨_, rfl, ⟨rfl, trivial⟩⟩, ⟨_, rfl, rfl⟩, ⟨_, rfl, rfl⟩, ⟨_, rfl, ⟨rfl, trivial⟩⟩, ⟨_, rfl, ⟨rfl, trivial⟩⟩, ⟨_, rfl, ⟨rfl, trivial⟩⟩, trivial⟩) (by rfl) (nk rfl)) k988
                  refine ap_let (g := 6) (listed := #[true, true, true, true, true, false, false, false, false, true, false, false]) [(23, .ref 0 0), (24, .int .i64 r20.2), (25, .os 1), (27, .os 2), (29, .v (.slice (.int .i64)) r25.1), (33, .ref 3 0), (34, .bool r27.2), (39, .int .i64 s959.1), (40, .int .i64 s959.2.1), (41, .int .i64 s959.2.2), (42, .int .i64 i960), (43, .ref 4 0), (44, .bool r967.2), (45, .ref 5 0), (301, .v (.arr 6 (.int .i64)) r20.1), (305, .v (.slice (.int .i64)) ((r21.1.getD i960.toNat []) : (List Int)))] [(0, .var [.arr (.int .i64) 6 r20.1]), (1, .row (.slice (.int .i64)) r21.1), (2, .row (.slice (.int .i64)) r23.1), (3, .var [.arr (.int .i64) 2 r27.1]), (4, .var [.arr (.int .i64) 2 r967.1]), (5, .var [.arr (.int .i64) 2 ((List.replicate 2 0) : (List Int))])] ?_ (fun k989 => ?_)
                  · refine ap_all [5] (by kernel_rfl) ⟨?_, trivial⟩
                    refine apo_ao rfl ?_
                    refine ao_scall trivial (scall (c_impl_DistanceOf (is_mk r982h)) rfl Try.func23 rfl rfl rfl rfl (fun σ => ⟨ad_ren rfl, ad_ren rfl, trivial⟩)) rfl ?_
                    refine ao_nil ?_
                    refine ap_in ?_
                    refine ap_pure 6 (by kernel_rfl) (fun _ _ _ h => h) rfl (by kernel_rfl) trivial (rp_move rfl) rfl ?_
                    refine ap_pure 7 (by kernel_rfl) (fun _ _ _ h => h) rfl (by kernel_rfl) trivial (rp_extract rfl rfl) rfl ?_
                    refine ap_pure 8 (by kernel_rfl) (fun _ _ _ h => h) rfl (by kernel_rfl) trivial (rp_extract rfl rfl) rfl ?_
                    exact ap_go (by kernel_rfl) (sub_mk idn (by exact ⟨⟨_, rfl, ad_ren rfl⟩, ⟨_, rfl, ad_ren rfl⟩, ⟨_, rfl, ad_ren rfl⟩, ⟨_, rfl, ad_ren rfl⟩, ⟨_, rfl, ad_ren rfl⟩, ⟨_, rfl, ad_ren rfl⟩, ⟨_, rfl, ad_ren rfl⟩, ⟨_, rfl, ad_ren rfl⟩, ⟨_, rfl, ad_ren rfl⟩, ⟨_, rfl, ad_ren rfl⟩, ⟨_, rfl, ad_ren rfl⟩, ⟨_, rfl, ad_ren rfl⟩, ⟨_, rfl, ad_ren rfl⟩, ⟨_, rfl, ad_ren rfl⟩, ⟨_, rfl, ad_ren rfl⟩, ⟨_, rfl, ad_ren rfl⟩, trivial⟩) (by exact ⟨⟨_, rfl, ⟨rfl, trivial⟩⟩, ⟨_, rfl, rfl⟩, ⟨_, rfl, rfl⟩, ⟨_, rfl, ⟨rfl, trivial⟩⟩, ⟨_, rfl, ⟨rfl, trivial⟩⟩, ⟨_, rfl, ⟨rfl, trivial⟩⟩, trivial⟩) (by rfl) (nk rfl)) k988
                  refine ap_let (g := 7) (listed := #[true, true, true, true, true, false, false, false, false, false, false, false]) [(23, .ref 0 0), (24, .int .i64 r20.2), (25, .os 1), (27, .os 2), (29, .v (.slice (.int .i64)) r25.1), (33, .ref 3 0), (34, .bool r27.2), (39, .int .i64 s959.1), (40, .int .i64 s959.2.1), (41, .int .i64 s959.2.2), (42, .int .i64 i960), (43, .ref 4 0), (44, .bool r967.2), (301, .v (.arr 6 (.int .i64)) r20.1), (305, .v (.slice (.int .i64)) ((r21.1.getD i960.toNat []) : (List Int)))] [(0, .var [.arr (.int .i64) 6 r20.1]), (1, .row (.slice (.int .i64)) r21.1), (2, .row (.slice (.int .i64)) r23.1), (3, .var [.arr (.int .i64) 2 r27.1]), (4, .var [.arr (.int .i64) 2 r967.1])] ?_ (fun k986 => ?_)
                  · refine ap_all [5, 9] (by kernel_rfl) ⟨?_, ?_, trivial⟩
                    · refine apo_ao rfl ?_
                      refine ao_scall trivial (scall (c_impl_DistanceOf (is_mk r982h)) rfl Try.func23 rfl rfl rfl rfl (fun σ => ⟨ad_ren rfl, ad_ren rfl, trivial⟩)) rfl ?_
                      refine ao_nil ?_
                      refine ap_in ?_
                      refine ap_pure 6 (by kernel_rfl) (fun _ _ _ h => h) rfl (by kernel_rfl) trivial (rp_move rfl) rfl ?_
                      refine ap_pure 7 (by kernel_rfl) (fun _ _ _ h => h) rfl (by kernel_rfl) trivial (rp_extract rfl rfl) rfl ?_
                      refine ap_pure 8 (by kernel_rfl) (fun _ _ _ h => h) rfl (by kernel_rfl) trivial (rp_extract rfl rfl) rfl ?_
                      exact ap_go (by kernel_rfl) (sub_mk idn (by exact ⟨⟨_, rfl, ad_ren rfl⟩, ⟨_, rfl, ad_ren rfl⟩, ⟨_, rfl, ad_ren rfl⟩, ⟨_, rfl, ad_ren rfl⟩, ⟨_, rfl, ad_ren rfl⟩, ⟨_, rfl, ad_ren rfl⟩, ⟨_, rfl, ad_ren rfl⟩, ⟨_, rfl, ad_ren rfl⟩, ⟨_, rfl, ad_ren rfl⟩, ⟨_, rfl, ad_ren rfl⟩, ⟨_, rfl, ad_ren rfl⟩, ⟨_, rfl, ad_ren rfl⟩, ⟨_, rfl, ad_ren rfl⟩, ⟨_, rfl, ad_ren rfl⟩, ⟨_, rfl, ad_ren rfl⟩, trivial⟩) (by exact ⟨⟨_, rfl, ⟨rfl, trivial⟩⟩, ⟨_, rfl, rfl⟩, ⟨_, rfl, rfl⟩, ⟨_, rfl, ⟨rfl, trivial⟩⟩, ⟨_, rfl, ⟨rfl, trivial⟩⟩, trivial⟩) (by rfl) (nk rfl)) k987
                    · refine apo_ao rfl ?_
                      refine ao_eff trivial (e_alloc 5 (y := .v (.arr 2 (.int .i64)) ((List.replicate 2 0) : (List Int))) Try.zeroValue39 (fun ρ h M => ra_zero_arr (t := (.int .i64)) rfl) rfl rfl rfl rfl rfl) rfl ?_
                      refine ao_nil ?_
                      refine ap_in ?_
                      exact ap_go (by kernel_rfl) (sub_mk idn (by exact ⟨⟨_, rfl, ad_ren rfl⟩, ⟨_, rfl, ad_ren rfl⟩, ⟨_, rfl, ad_ren rfl⟩, ⟨_, rfl, ad_ren rfl⟩, ⟨_, rfl, ad_ren rfl⟩, ⟨_, rfl, ad_ren rfl⟩, ⟨_, rfl, ad_ren rfl⟩, ⟨_, rfl, ad_ren rfl⟩, ⟨_, rfl, ad_ren rfl⟩, ⟨_, rfl, ad_ren rfl⟩, ⟨_, rfl, ad_ren rfl⟩, ⟨_, rfl, ad_ren rfl⟩, ⟨_, rfl, ad_ren rfl⟩, ⟨_, rfl, ad_ren rfl⟩, ⟨_, rfl, ad_ren rfl⟩, ⟨_, rfl, ad_ren rfl⟩, trivial⟩) (by exact ⟨⟨_, rfl, ⟨rfl, trivial⟩⟩, ⟨_, rfl, rfl⟩, ⟨_, rfl, rfl⟩, ⟨_, rfl, ⟨rfl, trivial⟩⟩, ⟨_, rfl, ⟨rfl, trivial⟩⟩, ⟨_, rfl, ⟨rfl, trivial⟩⟩, trivial⟩) (by rfl) (nk rfl)) k989
                  refine ap_let (g := 7) (listed := #[true, true, true, true, false, false, false, false, false, true, false, false]) [(23, .ref 0 0), (24, .int .i64 r20.2), (25, .os 1), (27, .os 2), (29, .v (.slice (.int .i64)) r25.1), (33, .ref 3 0), (34, .bool r27.2), (39, .int .i64 s959.1), (40, .int .i64 s959.2.1), (41, .int .i64 s959.2.2), (42, .int .i64 i960), (43, .ref 4 0), (44, .bool r967.2), (45, .ref 5 0), (301, .v (.arr 6 (.int .i64)) r20.1), (304, .elem 1 0 1 i960.toNat)] [(0, .var [.arr (.int .i64) 6 r20.1]), (1, .row (.slice (.int .i64)) r21.1), (2, .row (.slice (.int .i64)) r23.1), (3, .var [.arr (.int .i64) 2 r27.1]), (4, .var [.arr (.int .i64) 2 r967.1]), (5, .var [.arr (.int .i64) 2 ((List.replicate 2 0) : (List Int))])] ?_ (fun k990 => ?_)
                  · refine ap_all [4] (by kernel_rfl) ⟨?_, trivial⟩
                    refine apo_ao rfl ?_
                    refine ao_read trivial (r_load_elemv (t := (.slice (.int .i64))) Try.isAgg30 Try.sizeOf30 rfl rfl (show i960.toNat < r21.1.length from by omega)) rfl ?_
                    refine ao_nil ?_
                    refine ap_in ?_
                    exact ap_go (by kernel_rfl) (sub_mk idn (by exact ⟨⟨_, rfl, ad_ren rfl⟩, ⟨_, rfl, ad_ren rfl⟩, ⟨_, rfl, ad_ren rfl⟩, ⟨_, rfl, ad_ren rfl⟩, ⟨_, rfl, ad_ren rfl⟩, ⟨_, rfl, ad_ren rfl⟩, ⟨_, rfl, ad_ren rfl⟩, ⟨_, rfl, ad_ren rfl⟩, ⟨_, rfl, ad_ren rfl⟩, ⟨_, rfl, ad_ren rfl⟩, ⟨_, rfl, ad_ren rfl⟩, ⟨_, rfl, ad_ren rfl⟩, ⟨_, rfl, ad_ren rfl⟩, ⟨_, rfl, ad_ren rfl⟩, ⟨_, rfl, ad_ren rfl⟩, ⟨_, rfl, ad_ren rfl⟩, trivial⟩) (by exact ⟨⟨_, rfl, ⟨rfl, trivial⟩⟩, ⟨_, rfl, rfl⟩, ⟨_, rfl, rfl⟩, ⟨_, rfl, ⟨rfl, trivial⟩⟩, ⟨_, rfl, ⟨rfl, trivial⟩⟩, ⟨_, rfl, ⟨rfl, trivial⟩⟩, trivial⟩) (by rfl) (nk rfl)) k989
                  refine ap_let (g := 7) (listed := #[false, true, true, true, true, false, false, false, false, true, false, false]) [(23, .ref 0 0), (24, .int .i64 r20.2), (25, .os 1), (27, .os 2), (29, .v (.slice (.int .i64)) r25.1), (33, .ref 3 0), (34, .bool r27.2), (39, .int .i64 s959.1), (40, .int .i64 s959.2.1), (41, .int .i64 s959.2.2), (42, .int .i64 i960), (43, .ref 4 0), (44, .bool r967.2), (45, .ref 5 0), (305, .v (.slice (.int .i64)) ((r21.1.getD i960.toNat []) : (List Int)))] [(0, .var [.arr (.int .i64) 6 r20.1]), (1, .row (.slice (.int .i64)) r21.1), (2, .row (.slice (.int .i64)) r23.1), (3, .var [.arr (.int .i64) 2 r27.1]), (4, .var [.arr (.int .i64) 2 r967.1]), (5, .var [.arr (.int .i64) 2 ((List.replicate 2 0) : (List Int))])] ?_ (fun k994 => ?_)
                  · refine ap_all [0] (by kernel_rfl) ⟨?_, trivial⟩
                    refine apo_ao rfl ?_
                    refine ao_read trivial (r_load_arr rfl Try.isAgg22 Try.sizeOf22 rfl rfl rfl) rfl ?_
                    refine ao_nil ?_
                    refine ap_in ?_
                    exact ap_go (by kernel_rfl) (sub_mk idn (by exact ⟨⟨_, rfl, ad_ren rfl⟩, ⟨_, rfl, ad_ren rfl⟩, ⟨_, rfl, ad_ren rfl⟩, ⟨_, rfl, ad_ren rfl⟩, ⟨_, rfl, ad_ren rfl⟩, ⟨_, rfl, ad_ren rfl⟩, ⟨_, rfl, ad_ren rfl⟩, ⟨_, rfl, ad_ren rfl⟩, ⟨_, rfl, ad_ren rfl⟩, ⟨_, rfl, ad_ren rfl⟩, ⟨_, rfl, ad_ren rfl⟩, ⟨_, rfl, ad_ren rfl⟩, ⟨_, rfl, ad_ren rfl⟩, ⟨_, rfl, ad_ren rfl⟩, ⟨_, rfl, ad_ren rfl⟩, ⟨_, rfl, ad_ren rfl⟩, trivial⟩) (by exact ⟨⟨_, rfl, ⟨rfl, trivial⟩⟩, ⟨_, rfl, rfl⟩, ⟨_, rfl, rfl⟩, ⟨_, rfl, ⟨rfl, trivial⟩⟩, ⟨_, rfl, ⟨rfl, trivial⟩⟩, ⟨_, rfl, ⟨rfl, trivial⟩⟩, trivial⟩) (by rfl) (nk rfl)) k989
                  refine ap_let (g := 8) (listed := #[true, true, true, true, false, false, false, false, false, false, false, false]) [(23, .ref 0 0), (24, .int .i64 r20.2), (25, .os 1), (27, .os 2), (29, .v (.slice (.int .i64)) r25.1), (33, .ref 3 0), (34, .bool r27.2), (39, .int .i64 s959.1), (40, .int .i64 s959.2.1), (41, .int .i64 s959.2.2), (42, .int .i64 i960), (43, .ref 4 0), (44, .bool r967.2), (301, .v (.arr 6 (.int .i64)) r20.1), (304, .elem 1 0 1 i960.toNat)] [(0, .var [.arr (.int .i64) 6 r20.1]), (1, .row (.slice (.int .i64)) r21.1), (2, .row (.slice (.int .i64)) r23.1), (3, .var [.arr (.int .i64) 2 r27.1]), (4, .var [.arr (.int .i64) 2 r967.1])] ?_ (fun k985 => ?_)
                  · refine ap_all [4, 9] (by kernel_rfl) ⟨?_, ?_, trivial⟩
                    · refine apo_ao rfl ?_
                      refine ao_read trivial (r_load_elemv (t := (.slice (.int .i64))) Try.isAgg30 Try.sizeOf30 rfl rfl (show i960.toNat < r21.1.length from by omega)) rfl ?_
                      refine ao_nil ?_
                      refine ap_in ?_
                      exact ap_go (by kernel_rfl) (sub_mk idn (by exact ⟨⟨_, rfl, ad_ren rfl⟩, ⟨_, rfl, ad_ren rfl⟩, ⟨_, rfl, ad_ren rfl⟩, ⟨_, rfl, ad_ren rfl⟩, ⟨_, rfl, ad_ren rfl⟩, ⟨_, rfl, ad_ren rfl⟩, ⟨_, rfl, ad_ren rfl⟩, ⟨_, rfl, ad_ren rfl⟩, ⟨_, rfl, ad_ren rfl⟩, ⟨_, rfl, ad_ren rfl⟩, ⟨_, rfl, ad_ren rfl⟩, ⟨_, rfl, ad_ren rfl⟩, ⟨_, rfl, ad_ren rfl⟩, ⟨_, rfl, ad_ren rfl⟩, ⟨_, rfl, ad_ren rfl⟩, trivial⟩) (by exact ⟨⟨_, rfl, ⟨rfl, trivial⟩⟩, ⟨_, rfl, rfl⟩, ⟨_, rfl, rfl⟩, ⟨_, rfl, ⟨rfl, trivial⟩⟩, ⟨_, rfl, ⟨rfl, trivial⟩⟩, trivial⟩) (by rfl) (nk rfl)) k986
                    · refine apo_ao rfl ?_
                      refine ao_eff trivial (e_alloc 5 (y := .v (.arr 2 (.int .i64)) ((List.replicate 2 0) : (List Int))) Try.zeroValue39 (fun ρ h M => ra_zero_arr (t := (.int .i64)) rfl) rfl rfl rfl rfl rfl) rfl ?_
                      refine ao_nil ?_
                      refine ap_in ?_
                      exact ap_go (by kernel_rfl) (sub_mk idn (by exact ⟨⟨_, rfl, ad_ren rfl⟩, ⟨_, rfl, ad_ren rfl⟩, ⟨_, rfl, ad_ren rfl⟩, ⟨_, rfl, ad_ren rfl⟩, ⟨_, rfl, ad_ren rfl⟩, ⟨_, rfl, ad_ren rfl⟩, ⟨_, rfl, ad_ren rfl⟩, ⟨_, rfl, ad_ren rfl⟩, ⟨_, rfl, ad_ren rfl⟩, ⟨_, rfl, ad_ren rfl⟩, ⟨_, rfl, ad_ren rfl⟩, ⟨_, rfl, ad_ren rfl⟩, ⟨_, rfl, ad_ren rfl⟩, ⟨_, rfl, ad_ren rfl⟩, ⟨_, rfl, ad_ren rfl⟩, ⟨_, rfl, ad_ren rfl⟩, trivial⟩) (by exact ⟨⟨_, rfl, ⟨rfl, trivial⟩⟩, ⟨_, rfl, rfl⟩, ⟨_, rfl, rfl⟩, ⟨_, rfl, ⟨rfl, trivial⟩⟩, ⟨_, rfl, ⟨rfl, trivial⟩⟩, ⟨_, rfl, ⟨rfl, trivial⟩⟩, trivial⟩) (by rfl) (nk rfl)) k990
                  refine ap_let (g := 8) (listed := #[true, true, true, false, false, false, false, false, false, true, false, false]) [(23, .ref 0 0), (24, .int .i64 r20.2), (25, .os 1), (27, .os 2), (29, .v (.slice (.int .i64)) r25.1), (33, .ref 3 0), (34, .bool r27.2), (39, .int .i64 s959.1), (40, .int .i64 s959.2.1), (41, .int .i64 s959.2.2), (42, .int .i64 i960), (43, .ref 4 0), (44, .bool r967.2), (45, .ref 5 0), (301, .v (.arr 6 (.int .i64)) r20.1), (302, .os 1), (303, .int .i64 i960)] [(0, .var [.arr (.int .i64) 6 r20.1]), (1, .row (.slice (.int .i64)) r21.1), (2, .row (.slice (.int .i64)) r23.1), (3, .var [.arr (.int .i64) 2 r27.1]), (4, .var [.arr (.int .i64) 2 r967.1]), (5, .var [.arr (.int .i64) 2 ((List.replicate 2 0) : (List Int))])] ?_ (fun k991 => ?_)
                  · refine ap_all [3] (by kernel_rfl) ⟨?_, trivial⟩
                    refine apo_ao rfl ?_
                    refine ao_read trivial (r_idxAddr_os Try.underlying23 Try.sizeOf30 rfl rfl rfl (show 0 ≤ i960 from by omega) (show i960 < (r21.1.length : Int) from by omega)) rfl ?_
                    refine ao_nil ?_
                    refine ap_in ?_
                    exact ap_go (by kernel_rfl) (sub_mk idn (by exact ⟨⟨_, rfl, ad_ren rfl⟩, ⟨_, rfl, ad_ren rfl⟩, ⟨_, rfl, ad_ren rfl⟩, ⟨_, rfl, ad_ren rfl⟩, ⟨_, rfl, ad_ren rfl⟩, ⟨_, rfl, ad_ren rfl⟩, ⟨_, rfl, ad_ren rfl⟩, ⟨_, rfl, ad_ren rfl⟩, ⟨_, rfl, ad_ren rfl⟩, ⟨_, rfl, ad_ren rfl⟩, ⟨_, rfl, ad_ren rfl⟩, ⟨_, rfl, ad_ren rfl⟩, ⟨_, rfl, ad_ren rfl⟩, ⟨_, rfl, ad_ren rfl⟩, ⟨_, rfl, ad_ren rfl⟩, ⟨_, rfl, ad_ren rfl⟩, trivial⟩) (by exact ⟨⟨_, rfl, ⟨rfl, trivial⟩⟩, ⟨_, rfl, rfl⟩, ⟨_, rfl, rfl⟩, ⟨_, rfl, ⟨rfl, trivial⟩⟩, ⟨_, rfl, ⟨rfl, trivial⟩⟩, ⟨_, rfl, ⟨rfl, trivial⟩⟩, trivial⟩) (by rfl) (nk rfl)) k990
                  refine ap_let (g := 8) (listed := #[false, true, true, true, true, false, false, false, false, false, false, false]) [(23, .ref 0 0), (24, .int .i64 r20.2), (25, .os 1), (27, .os 2), (29, .v (.slice (.int .i64)) r25.1), (33, .ref 3 0), (34, .bool r27.2), (39, .int .i64 s959.1), (40, .int .i64 s959.2.1), (41, .int .i64 s959.2.2), (42, .int .i64 i960), (43, .ref 4 0), (44, .bool r967.2), (305, .v (.slice (.int .i64)) ((r21.1.getD i960.toNat []) : (List Int)))] [(0, .var [.arr (.int .i64) 6 r20.1]), (1, .row (.slice (.int .i64)) r21.1), (2, .row (.slice (.int .i64)) r23.1), (3, .var [.arr (.int .i64) 2 r27.1]), (4, .var [.arr (.int .i64) 2 r967.1])] ?_ (fun k993 => ?_)
                  · refine ap_all [0, 9] (by kernel_rfl) ⟨?_, ?_, trivial⟩
                    · refine apo_ao rfl ?_
                      refine ao_read trivial (r_load_arr rfl Try.isAgg22 Try.sizeOf22 rfl rfl rfl) rfl ?_
                      refine ao_nil ?_
                      refine ap_in ?_
                      exact ap_go (by kernel_rfl) (sub_mk idn (by exact ⟨⟨_, rfl, ad_ren rfl⟩, ⟨_, rfl, ad_ren rfl⟩, ⟨_, rfl, ad_ren rfl⟩, ⟨_, rfl, ad_ren rfl⟩, ⟨_, rfl, ad_ren rfl⟩, ⟨_, rfl, ad_ren rfl⟩, ⟨_, rfl, ad_ren rfl⟩, ⟨_, rfl, ad_ren rfl⟩, ⟨_, rfl, ad_ren rfl⟩, ⟨_, rfl, ad_ren rfl⟩, ⟨_, rfl, ad_ren rfl⟩, ⟨_, rfl, ad_ren rfl⟩, ⟨_, rfl, ad_ren rfl⟩, ⟨_, rfl, ad_ren rfl⟩, ⟨_, rfl, ad_ren rfl⟩, trivial⟩) (by exact ⟨⟨_, rfl, ⟨rfl, trivial⟩⟩, ⟨_, rfl, rfl⟩, ⟨_, rfl, rfl⟩, ⟨_, rfl, ⟨rfl, trivial⟩⟩, ⟨_, rfl, ⟨rfl, trivial⟩⟩, trivial⟩) (by rfl) (nk rfl)) k986
                    · refine apo_ao rfl ?_
                      refine ao_eff trivial (e_alloc 5 (y := .v (.arr 2 (.int .i64)) ((List.replicate 2 0) : (List Int))) Try.zeroValue39 (fun ρ h M => ra_zero_arr (t := (.int .i64)) rfl) rfl rfl rfl rfl rfl) rfl ?_
                      refine ao_nil ?_
                      refine ap_in ?_
                      exact ap_go (by kernel_rfl) (sub_mk idn (by exact ⟨⟨_, rfl, ad_ren rfl⟩, ⟨_, rfl, ad_ren rfl⟩, ⟨_, rfl, ad_ren rfl⟩, ⟨_, rfl, ad_ren rfl⟩, ⟨_, rfl, ad_ren rfl⟩, ⟨_, rfl, ad_ren rfl⟩, ⟨_, rfl, ad_ren rfl⟩, ⟨_, rfl, ad_ren rfl⟩, ⟨_, rfl, ad_ren rfl⟩, ⟨_, rfl, ad_ren rfl⟩, ⟨_, rfl, ad_ren rfl⟩, ⟨_, rfl, ad_ren rfl⟩, ⟨_, rfl, ad_ren rfl⟩, ⟨_, rfl, ad_ren rfl⟩, ⟨_, rfl, ad_ren rfl⟩, trivial⟩) (by exact ⟨⟨_, rfl, ⟨rfl, trivial⟩⟩, ⟨_, rfl, rfl⟩, ⟨_, rfl, rfl⟩, ⟨_, rfl, ⟨rfl, trivial⟩⟩, ⟨_, rfl, ⟨rfl, trivial⟩⟩, ⟨_, rfl, ⟨rfl, trivial⟩⟩, trivial⟩) (by rfl) (nk rfl)) k994
                  refine ap_let (g := 8) (listed := #[false, true, true, true, false, false, false, false, false, true, false, false]) [(23, .ref 0 0), (24, .int .i64 r20.2), (25, .os 1), (27, .os 2), (29, .v (.slice (.int .i64)) r25.1), (33, .ref 3 0), (34, .bool r27.2), (39, .int .i64 s959.1), (40, .int .i64 s959.2.1), (41, .int .i64 s959.2.2), (42, .int .i64 i960), (43, .ref 4 0), (44, .bool r967.2), (45, .ref 5 0), (304, .elem 1 0 1 i960.toNat)] [(0, .var [.arr (.int .i64) 6 r20.1]), (1, .row (.slice (.int .i64)) r21.1), (2, .row (.slice (.int .i64)) r23.1), (3, .var [.arr (.int .i64) 2 r27.1]), (4, .var [.arr (.int .i64) 2 r967.1]), (5, .var [.arr (.int .i64) 2 ((List.replicate 2 0) : (List Int))])] ?_ (fun k995 => ?_)
                  · refine ap_all [0, 4] (by kernel_rfl) ⟨?_, ?_, trivial⟩
                    · refine apo_ao rfl ?_
                      refine ao_read trivial (r_load_arr rfl Try.isAgg22 Try.sizeOf22 rfl rfl rfl) rfl ?_
                      refine ao_nil ?_
                      refine ap_in ?_
                      exact ap_go (by kernel_rfl) (sub_mk idn (by exact ⟨⟨_, rfl, ad_ren rfl⟩, ⟨_, rfl, ad_ren rfl⟩, ⟨_, rfl, ad_ren rfl⟩, ⟨_, rfl, ad_ren rfl⟩, ⟨_, rfl, ad_ren rfl⟩, ⟨_, rfl, ad_ren rfl⟩, ⟨_, rfl, ad_ren rfl⟩, ⟨_, rfl, ad_ren rfl⟩, ⟨_, rfl, ad_ren rfl⟩, ⟨_, rfl, ad_ren rfl⟩, ⟨_, rfl, ad_ren rfl⟩, ⟨_, rfl, ad_ren rfl⟩, ⟨_, rfl, ad_ren rfl⟩, ⟨_, rfl, ad_ren rfl⟩, ⟨_, rfl, ad_ren rfl⟩, ⟨_, rfl, ad_ren rfl⟩, trivial⟩) (by exact ⟨⟨_, rfl, ⟨rfl, trivial⟩⟩, ⟨_, rfl, rfl⟩, ⟨_, rfl, rfl⟩, ⟨_, rfl, ⟨rfl, trivial⟩⟩, ⟨_, rfl, ⟨rfl, trivial⟩⟩, ⟨_, rfl, ⟨rfl, trivial⟩⟩, trivial⟩) (by rfl) (nk rfl)) k990
                    · refine apo_ao rfl ?_
                      refine ao_read trivial (r_load_elemv (t := (.slice (.int .i64))) Try.isAgg30 Try.sizeOf30 rfl rfl (show i960.toNat < r21.1.length from by omega)) rfl ?_
                      refine ao_nil ?_
                      refine ap_in ?_
                      exact ap_go (by kernel_rfl) (sub_mk idn (by exact ⟨⟨_, rfl, ad_ren rfl⟩, ⟨_, rfl, ad_ren rfl⟩, ⟨_, rfl, ad_ren rfl⟩, ⟨_, rfl, ad_ren rfl⟩, ⟨_, rfl, ad_ren rfl⟩, ⟨_, rfl, ad_ren rfl⟩, ⟨_, rfl, ad_ren rfl⟩, ⟨_, rfl, ad_ren rfl⟩, ⟨_, rfl, ad_ren rfl⟩, ⟨_, rfl, ad_ren rfl⟩, ⟨_, rfl, ad_ren rfl⟩, ⟨_, rfl, ad_ren rfl⟩, ⟨_, rfl, ad_ren rfl⟩, ⟨_, rfl, ad_ren rfl⟩, ⟨_, rfl, ad_ren rfl⟩, trivial⟩) (by exact ⟨⟨_, rfl, ⟨rfl, trivial⟩⟩, ⟨_, rfl, rfl⟩, ⟨_, rfl, rfl⟩, ⟨_, rfl, ⟨rfl, trivial⟩⟩, ⟨_, rfl, ⟨rfl, trivial⟩⟩, ⟨_, rfl, ⟨rfl, trivial⟩⟩, trivial⟩) (by rfl) (nk rfl)) k994
                  refine ap_let (g := 9) (listed := #[true, true, true, false, false, false, false, false, false, false, false, false]) [(23, .ref 0 0), (24, .int .i64 r20.2), (25, .os 1), (27, .os 2), (29, .v (.slice (.int .i64)) r25.1), (33, .ref 3 0), (34, .bool r27.2), (39, .int .i64 s959.1), (40, .int .i64 s959.2.1), (41, .int .i64 s959.2.2), (42, .int .i64 i960), (43, .ref 4 0), (44, .bool r967.2), (301, .v (.arr 6 (.int .i64)) r20.1), (302, .os 1), (303, .int .i64 i960)] [(0, .var [.arr (.int .i64) 6 r20.1]), (1, .row (.slice (.int .i64)) r21.1), (2, .row (.slice (.int .i64)) r23.1), (3, .var [.arr (.int .i64) 2 r27.1]), (4, .var [.arr (.int .i64) 2 r967.1])] ?_ (fun k984 => ?_)
                  · refine ap_all [3, 9] (by kernel_rfl) ⟨?_, ?_, trivial⟩
                    · refine apo_ao rfl ?_
                      refine ao_read trivial (r_idxAddr_os Try.underlying23 Try.sizeOf30 rfl rfl rfl (show 0 ≤ i960 from by omega) (show i960 < (r21.1.length : Int) from by omega)) rfl ?_
                      refine ao_nil ?_
                      refine ap_in ?_
                      exact ap_go (by kernel_rfl) (sub_mk idn (by exact ⟨⟨_, rfl, ad_ren rfl⟩, ⟨_, rfl, ad_ren rfl⟩, ⟨_, rfl, ad_ren rfl⟩, ⟨_, rfl, ad_ren rfl⟩, ⟨_, rfl, ad_ren rfl⟩, ⟨_, rfl, ad_ren rfl⟩, ⟨_, rfl, ad_ren rfl⟩, ⟨_, rfl, ad_ren rfl⟩, ⟨_, rfl, ad_ren rfl⟩, ⟨_, rfl, ad_ren rfl⟩, ⟨_, rfl, ad_ren rfl⟩, ⟨_, rfl, ad_ren rfl⟩, ⟨_, rfl, ad_ren rfl⟩, ⟨_, rfl, ad_ren rfl⟩, ⟨_, rfl, ad_ren rfl⟩, trivial⟩) (by exact ⟨⟨_, rfl, ⟨rfl, trivial⟩⟩, ⟨_, rfl, rfl⟩, ⟨_, rfl, rfl⟩, ⟨_, rfl, ⟨rfl, trivial⟩⟩, ⟨_, rfl, ⟨rfl, trivial⟩⟩, trivial⟩) (by rfl) (nk rfl)) k985
                    · refine apo_ao rfl ?_
                      refine ao_eff trivial (e_alloc 5 (y := .v (.arr 2 (.int .i64)) ((List.replicate 2 0) : (List Int))) Try.zeroValue39 (fun ρ h M => ra_zero_arr (t := (.int .i64)) rfl) rfl rfl rfl rfl rfl) rfl ?_
                      refine ao_nil ?_
                      refine ap_in ?_
                      exact ap_go (by kernel_rfl) (sub_mk idn (by exact ⟨⟨_, rfl, ad_ren rfl⟩, ⟨_, rfl, ad_ren rfl⟩, ⟨_, rfl, ad_ren rfl⟩, ⟨_, rfl, ad_ren rfl⟩, ⟨_, rfl, ad_ren rfl⟩, ⟨_, rfl, ad_ren rfl⟩, ⟨_, rfl, ad_ren rfl⟩, ⟨_, rfl, ad_ren rfl⟩, ⟨_, rfl, ad_ren rfl⟩, ⟨_, rfl, ad_ren rfl⟩, ⟨_, rfl, ad_ren rfl⟩, ⟨_, rfl, ad_ren rfl⟩, ⟨_, rfl, ad_ren rfl⟩, ⟨_, rfl, ad_ren rfl⟩, ⟨_, rfl, ad_ren rfl⟩, ⟨_, rfl, ad_ren rfl⟩, ⟨_, rfl, ad_ren rfl⟩, trivial⟩) (by exact ⟨⟨_, rfl, ⟨rfl, trivial⟩⟩, ⟨_, rfl, rfl⟩, ⟨_, rfl, rfl⟩, ⟨_, rfl, ⟨rfl, trivial⟩⟩, ⟨_, rfl, ⟨rfl, trivial⟩⟩, ⟨_, rfl, ⟨rfl, trivial⟩⟩, trivial⟩) (by rfl) (nk rfl)) k991
                  refine ap_let (g := 9) (listed := #[false, true, true, true, false, false, false, false, false, false, false, false]) [(23, .ref 0 0), (24, .int .i64 r20.2), (25, .os 1), (27, .os 2), (29, .v (.slice (.int .i64)) r25.1), (33, .ref 3 0), (34, .bool r27.2), (39, .int .i64 s959.1), (40, .int .i64 s959.2.1), (41, .int .i64 s959.2.2), (42, .int .i64 i960), (43, .ref 4 0), (44, .bool r967.2), (304, .elem 1 0 1 i960.toNat)] [(0, .var [.arr (.int .i64) 6 r20.1]), (1, .row (.slice (.int .i64)) r21.1), (2, .row (.slice (.int .i64)) r23.1), (3, .var [.arr (.int .i64) 2 r27.1]), (4, .var [.arr (.int .i64) 2 r967.1])] ?_ (fun k992 => ?_)
                  · refine ap_all [0, 4, 9] (by kernel_rfl) ⟨?_, ?_, ?_, trivial⟩
                    · refine apo_ao rfl ?_
                      refine ao_read trivial (r_load_arr rfl Try.isAgg22 Try.sizeOf22 rfl rfl rfl) rfl ?_
                      refine ao_nil ?_
                      refine ap_in ?_
                      exact ap_go (by kernel_rfl) (sub_mk idn (by exact ⟨⟨_, rfl, ad_ren rfl⟩, ⟨_, rfl, ad_ren rfl⟩, ⟨_, rfl, ad_ren rfl⟩, ⟨_, rfl, ad_ren rfl⟩, ⟨_, rfl, ad_ren rfl⟩, ⟨_, rfl, ad_ren rfl⟩, ⟨_, rfl, ad_ren rfl⟩, ⟨_, rfl, ad_ren rfl⟩, ⟨_, rfl, ad_ren rfl⟩, ⟨_, rfl, ad_ren rfl⟩, ⟨_, rfl, ad_ren rfl⟩, ⟨_, rfl, ad_ren rfl⟩, ⟨_, rfl, ad_ren rfl⟩, ⟨_, rfl, ad_ren rfl⟩, ⟨_, rfl, ad_ren rfl⟩, trivial⟩) (by exact ⟨⟨_, rfl, ⟨rfl, trivial⟩⟩, ⟨_, rfl, rfl⟩, ⟨_, rfl, rfl⟩, ⟨_, rfl, ⟨rfl, trivial⟩⟩, ⟨_, rfl, ⟨rfl, trivial⟩⟩, trivial⟩) (by rfl) (nk rfl)) k985
                    · refine apo_ao rfl ?_
                      refine ao_read trivial (r_load_elemv (t := (.slice (.int .i64))) Try.isAgg30 Try.sizeOf30 rfl rfl (show i960.toNat < r21.1.length from by omega)) rfl ?_
                      refine ao_nil ?_
                      refine ap_in ?_
                      exact ap_go (by kernel_rfl) (sub_mk idn (by exact ⟨⟨_, rfl, ad_ren rfl⟩, ⟨_, rfl, ad_ren rfl⟩, ⟨_, rfl, ad_ren rfl⟩, ⟨_, rfl, ad_ren rfl⟩, ⟨_, rfl, ad_ren rfl⟩, ⟨_, rfl, ad_ren rfl⟩, ⟨_, rfl, ad_ren rfl⟩, ⟨_, rfl, ad_ren rfl⟩, ⟨_, rfl, ad_ren rfl⟩, ⟨_, rfl, ad_ren rfl⟩, ⟨_, rfl, ad_ren rfl⟩, ⟨_, rfl, ad_ren rfl⟩, ⟨_, rfl, ad_ren rfl⟩, ⟨_, rfl, ad_ren rfl⟩, trivial⟩) (by exact ⟨⟨_, rfl, ⟨rfl, trivial⟩⟩, ⟨_, rfl, rfl⟩, ⟨_, rfl, rfl⟩, ⟨_, rfl, ⟨rfl, trivial⟩⟩, ⟨_, rfl, ⟨rfl, trivial⟩⟩, trivial⟩) (by rfl) (nk rfl)) k993
                    · refine apo_ao rfl ?_
                      refine ao_eff trivial (e_alloc 5 (y := .v (.arr 2 (.int .i64)) ((List.replicate 2 0) : (List Int))) Try.zeroValue39 (fun ρ h M => ra_zero_arr (t := (.int .i64)) rfl) rfl rfl rfl rfl rfl) rfl ?_
                      refine ao_nil ?_
                      refine ap_in ?_
                      exact ap_go (by kernel_rfl) (sub_mk idn (by exact ⟨⟨_, rfl, ad_ren rfl⟩, ⟨_, rfl, ad_ren rfl⟩, ⟨_, rfl, ad_ren rfl⟩, ⟨_, rfl, ad_ren rfl⟩, ⟨_, rfl, ad_ren rfl⟩, ⟨_, rfl, ad_ren rfl⟩, ⟨_, rfl, ad_ren rfl⟩, ⟨_, rfl, ad_ren rfl⟩, ⟨_, rfl, ad_ren rfl⟩, ⟨_, rfl, ad_ren rfl⟩, ⟨_, rfl, ad_ren rfl⟩, ⟨_, rfl, ad_ren rfl⟩, ⟨_, rfl, ad_ren rfl⟩, ⟨_, rfl, ad_ren rfl⟩, ⟨_, rfl, ad_ren rfl⟩, trivial⟩) (by exact ⟨⟨_, rfl, ⟨rfl, trivial⟩⟩, ⟨_, rfl, rfl⟩, ⟨_, rfl, rfl⟩, ⟨_, rfl, ⟨rfl, trivial⟩⟩, ⟨_, rfl, ⟨rfl, trivial⟩⟩, ⟨_, rfl, ⟨rfl, trivial⟩⟩, trivial⟩) (by rfl) (nk rfl)) k995
                  refine ap_let (g := 9) (listed := #[false, true, true, false, false, false, false, false, false, true, false, false]) [(23, .ref 0 0), (24, .int .i64 r20.2), (25, .os 1), (27, .os 2), (29, .v (.slice (.int .i64)) r25.1), (33, .ref 3 0), (34, .bool r27.2), (39, .int .i64 s959.1), (40, .int .i64 s959.2.1), (41, .int .i64 s959.2.2), (42, .int .i64 i960), (43, .ref 4 0), (44, .bool r967.2), (45, .ref 5 0), (302, .os 1), (303, .int .i64 i960)] [(0, .var [.arr (.int .i64) 6 r20.1]), (1, .row (.slice (.int .i64)) r21.1), (2, .row (.slice (.int .i64)) r23.1), (3, .var [.arr (.int .i64) 2 r27.1]), (4, .var [.arr (.int .i64) 2 r967.1]), (5, .var [.arr (.int .i64) 2 ((List.replicate 2 0) : (List Int))])] ?_ (fun k996 => ?_)
                  · refine ap_all [0, 3] (by kernel_rfl) ⟨?_, ?_, trivial⟩
                    · refine apo_ao rfl ?_
                      refine ao_read trivial (r_load_arr rfl Try.isAgg22 Try.sizeOf22 rfl rfl rfl) rfl ?_
                      refine ao_nil ?_
                      refine ap_in ?_
                      exact ap_go (by kernel_rfl) (sub_mk idn (by exact ⟨⟨_, rfl, ad_ren rfl⟩, ⟨_, rfl, ad_ren rfl⟩, ⟨_, rfl, ad_ren rfl⟩, ⟨_, rfl, ad_ren rfl⟩, ⟨_, rfl, ad_ren rfl⟩, ⟨_, rfl, ad_ren rfl⟩, ⟨_, rfl, ad_ren rfl⟩, ⟨_, rfl, ad_ren rfl⟩, ⟨_, rfl, ad_ren rfl⟩, ⟨_, rfl, ad_ren rfl⟩, ⟨_, rfl, ad_ren rfl⟩, ⟨_, rfl, ad_ren rfl⟩, ⟨_, rfl, ad_ren rfl⟩, ⟨_, rfl, ad_ren rfl⟩, ⟨_, rfl, ad_ren rfl⟩, ⟨_, rfl, ad_ren rfl⟩, ⟨_, rfl, ad_ren rfl⟩, trivial⟩) (by exact ⟨⟨_, rfl, ⟨rfl, trivial⟩⟩, ⟨_, rfl, rfl⟩, ⟨_, rfl, rfl⟩, ⟨_, rfl, ⟨rfl, trivial⟩⟩, ⟨_, rfl, ⟨rfl, trivial⟩⟩, ⟨_, rfl, ⟨rfl, trivial⟩⟩, trivial⟩) (by rfl) (nk rfl)) k991
                    · refine apo_ao rfl ?_
                      refine ao_read trivial (r_idxAddr_os Try.underlying23 Try.sizeOf30 rfl rfl rfl (show 0 ≤ i960 from by omega) (show i960 < (r21.1.length : Int) from by omega)) rfl ?_
                      refine ao_nil ?_
                      refine ap_in ?_
                      exact ap_go (by kernel_rfl) (sub_mk idn (by exact ⟨⟨_, rfl, ad_ren rfl⟩, ⟨_, rfl, ad_ren rfl⟩, ⟨_, rfl, ad_ren rfl⟩, ⟨_, rfl, ad_ren rfl⟩, ⟨_, rfl, ad_ren rfl⟩, ⟨_, rfl, ad_ren rfl⟩, ⟨_, rfl, ad_ren rfl⟩, ⟨_, rfl, ad_ren rfl⟩, ⟨_, rfl, ad_ren rfl⟩, ⟨_, rfl, ad_ren rfl⟩, ⟨_, rfl, ad_ren rfl⟩, ⟨_, rfl, ad_ren rfl⟩, ⟨_, rfl, ad_ren rfl⟩, ⟨_, rfl, ad_ren rfl⟩, ⟨_, rfl, ad_ren rfl⟩, trivial⟩) (by exact ⟨⟨_, rfl, ⟨rfl, trivial⟩⟩, ⟨_, rfl, rfl⟩, ⟨_, rfl, rfl⟩, ⟨_, rfl, ⟨rfl, trivial⟩⟩, ⟨_, rfl, ⟨rfl, trivial⟩⟩, ⟨_, rfl, ⟨rfl, trivial⟩⟩, trivial⟩) (by rfl) (nk rfl)) k995
                  refine ap_let (g := 10) (listed := #[false, true, true, false, false, false, false, false, false, false, false, false]) [(23, .ref 0 0), (24, .int .i64 r20.2), (25, .os 1), (27, .os 2), (29, .v (.slice (.int .i64)) r25.1), (33, .ref 3 0), (34, .bool r27.2), (39, .int .i64 s959.1), (40, .int .i64 s959.2.1), (41, .int .i64 s959.2.2), (42, .int .i64 i960), (43, .ref 4 0), (44, .bool r967.2), (302, .os 1), (303, .int .i64 i960)] [(0, .var [.arr (.int .i64) 6 r20.1]), (1, .row (.slice (.int .i64)) r21.1), (2, .row (.slice (.int .i64)) r23.1), (3, .var [.arr (.int .i64) 2 r27.1]), (4, .var [.arr (.int .i64) 2 r967.1])] ?_ (fun k983 => ?_)
                  · refine ap_all [0, 3, 9] (by kernel_rfl) ⟨?_, ?_, ?_, trivial⟩
                    · refine apo_ao rfl ?_
                      refine ao_read trivial (r_load_arr rfl Try.isAgg22 Try.sizeOf22 rfl rfl rfl) rfl ?_
                      refine ao_nil ?_
                      refine ap_in ?_
                      exact ap_go (by kernel_rfl) (sub_mk idn (by exact ⟨⟨_, rfl, ad_ren rfl⟩, ⟨_, rfl, ad_ren rfl⟩, ⟨_, rfl, ad_ren rfl⟩, ⟨_, rfl, ad_ren rfl⟩, ⟨_, rfl, ad_ren rfl⟩, ⟨_, rfl, ad_ren rfl⟩, ⟨_, rfl, ad_ren rfl⟩, ⟨_, rfl, ad_ren rfl⟩, ⟨_, rfl, ad_ren rfl⟩, ⟨_, rfl, ad_ren rfl⟩, ⟨_, rfl, ad_ren rfl⟩, ⟨_, rfl, ad_ren rfl⟩, ⟨_, rfl, ad_ren rfl⟩, ⟨_, rfl, ad_ren rfl⟩, ⟨_, rfl, ad_ren rfl⟩, ⟨_, rfl, ad_ren rfl⟩, trivial⟩) (by exact ⟨⟨_, rfl, ⟨rfl, trivial⟩⟩, ⟨_, rfl, rfl⟩, ⟨_, rfl, rfl⟩, ⟨_, rfl, ⟨rfl, trivial⟩⟩, ⟨_, rfl, ⟨rfl, trivial⟩⟩, trivial⟩) (by rfl) (nk rfl)) k984
                    · refine apo_ao rfl ?_
                      refine ao_read trivial (r_idxAddr_os Try.underlying23 Try.sizeOf30 rfl rfl rfl (show 0 ≤ i960 from by omega) (show i960 < (r21.1.length : Int) from by omega)) rfl ?_
                      refine ao_nil ?_
                      refine ap_in ?_
                      exact ap_go (by kernel_rfl) (sub_mk idn (by exact ⟨⟨_, rfl, ad_ren rfl⟩, ⟨_, rfl, ad_ren rfl⟩, ⟨_, rfl, ad_ren rfl⟩, ⟨_, rfl, ad_ren rfl⟩, ⟨_, rfl, ad_ren rfl⟩, ⟨_, rfl, ad_ren rfl⟩, ⟨_, rfl, ad_ren rfl⟩, ⟨_, rfl, ad_ren rfl⟩, ⟨_, rfl, ad_ren rfl⟩, ⟨_, rfl, ad_ren rfl⟩, ⟨_, rfl, ad_ren rfl⟩, ⟨_, rfl, ad_ren rfl⟩, ⟨_, rfl, ad_ren rfl⟩, ⟨_, rfl, ad_ren rfl⟩, trivial⟩) (by exact ⟨⟨_, rfl, ⟨rfl, trivial⟩⟩, ⟨_, rfl, rfl⟩, ⟨_, rfl, rfl⟩, ⟨_, rfl, ⟨rfl, trivial⟩⟩, ⟨_, rfl, ⟨rfl, trivial⟩⟩, trivial⟩) (by rfl) (nk rfl)) k992
                    · refine apo_ao rfl ?_
                      refine ao_eff trivial (e_alloc 5 (y := .v (.arr 2 (.int .i64)) ((List.replicate 2 0) : (List Int))) Try.zeroValue39 (fun ρ h M => ra_zero_arr (t := (.int .i64)) rfl) rfl rfl rfl rfl rfl) rfl ?_
                      refine ao_nil ?_
                      refine ap_in ?_
                      exact ap_go (by kernel_rfl) (sub_mk idn (by exact ⟨⟨_, rfl, ad_ren rfl⟩, ⟨_, rfl, ad_ren rfl⟩, ⟨_, rfl, ad_ren rfl⟩, ⟨_, rfl, ad_ren rfl⟩, ⟨_, rfl, ad_ren rfl⟩, ⟨_, rfl, ad_ren rfl⟩, ⟨_, rfl, ad_ren rfl⟩, ⟨_, rfl, ad_ren rfl⟩, ⟨_, rfl, ad_ren rfl⟩, ⟨_, rfl, ad_ren rfl⟩, ⟨_, rfl, ad_ren rfl⟩, ⟨_, rfl, ad_ren rfl⟩, ⟨_, rfl, ad_ren rfl⟩, ⟨_, rfl, ad_ren rfl⟩, ⟨_, rfl, ad_ren rfl⟩, ⟨_, rfl, ad_ren rfl⟩, trivial⟩) (by exact ⟨⟨_, rfl, ⟨rfl, trivial⟩⟩, ⟨_, rfl, rfl⟩, ⟨_, rfl, rfl⟩, ⟨_, rfl, ⟨rfl, trivial⟩⟩, ⟨_, rfl, ⟨rfl, trivial⟩⟩, ⟨_, rfl, ⟨rfl, trivial⟩⟩, trivial⟩) (by rfl) (nk rfl)) k996
                  refine ap_pure 1 (by kernel_rfl) (fun _ _ _ h => h) rfl (by kernel_rfl) trivial (rp_move rfl) rfl ?_
                  refine ap_pure 2 (by kernel_rfl) (fun _ _ _ h => h) rfl (by kernel_rfl) trivial (rp_move rfl) rfl ?_
                  exact ap_go (by kernel_rfl) (sub_mk idn (by exact ⟨⟨_, rfl, ad_ren rfl⟩, ⟨_, rfl, ad_ren rfl⟩, ⟨_, rfl, ad_ren rfl⟩, ⟨_, rfl, ad_ren rfl⟩, ⟨_, rfl, ad_ren rfl⟩, ⟨_, rfl, ad_ren rfl⟩, ⟨_, rfl, ad_ren rfl⟩, ⟨_, rfl, ad_ren rfl⟩, ⟨_, rfl, ad_ren rfl⟩, ⟨_, rfl, ad_ren rfl⟩, ⟨_, rfl, ad_ren rfl⟩, ⟨_, rfl, ad_ren rfl⟩, ⟨_, rfl, ad_ren rfl⟩, ⟨_, rfl, ad_ren rfl⟩, ⟨_, rfl, ad_ren rfl⟩, trivial⟩) (by exact ⟨⟨_, rfl, ⟨rfl, trivial⟩⟩, ⟨_, rfl, rfl⟩, ⟨_, rfl, rfl⟩, ⟨_, rfl, ⟨rfl, trivial⟩⟩, ⟨_, rfl, ⟨rfl, trivial⟩⟩, trivial⟩) (by rfl) (nk rfl)) k983
                refine ap_let (g := 2) (listed := #[true, true, true, true, true, true, true, true, true, true, false, false]) [(23, .ref 0 0), (24, .int .i64 r20.2), (25, .os 1), (27, .os 2), (29, .v (.slice (.int .i64)) r25.1), (33, .ref 3 0), (34, .bool r27.2), (39, .int .i64 s959.1), (40, .int .i64 s959.2.1), (41, .int .i64 s959.2.2), (42, .int .i64 i960), (43, .ref 4 0), (298, .v (.arr 2 (.int .i64)) r967.1), (299, .bool r967.2)] [(0, .var [.arr (.int .i64) 6 r20.1]), (1, .row (.slice (.int .i64)) r21.1), (2, .row (.slice (.int .i64)) r23.1), (3, .var [.arr (.int .i64) 2 r27.1]), (4, .var [.arr (.int .i64) 2 ((List.replicate 2 0) : (List Int))])] ?_ (fun k973 => ?_)
                · refine ap_all [10] (by kernel_rfl) ⟨?_, trivial⟩
                  refine apo_ao rfl ?_
                  refine ao_effS trivial (e_store rfl rfl rfl rfl Try.sizeOf39 rfl) ?_
                  refine ao_nil ?_
                  refine ap_in ?_
                  refine ap_pure 11 (by kernel_rfl) (fun _ _ _ h => h) rfl (by kernel_rfl) trivial (rp_assign rfl) rfl ?_
                  exact ap_end (by kernel_rfl) (AQ.sub (sub_mk idn (by exact ⟨⟨_, rfl, ad_ren rfl⟩, ⟨_, rfl, ad_ren rfl⟩, ⟨_, rfl, ad_ren rfl⟩, ⟨_, rfl, ad_ren rfl⟩, ⟨_, rfl, ad_ren rfl⟩, ⟨_, rfl, ad_ren rfl⟩, ⟨_, rfl, ad_ren rfl⟩, ⟨_, rfl, ad_ren rfl⟩, ⟨_, rfl, ad_ren rfl⟩, ⟨_, rfl, ad_ren rfl⟩, ⟨_, rfl, ad_ren rfl⟩, ⟨_, rfl, ad_ren rfl⟩, ⟨_, rfl, ad_ren rfl⟩, trivial⟩) (by exact ⟨⟨_, rfl, ⟨rfl, trivial⟩⟩, ⟨_, rfl, rfl⟩, ⟨_, rfl, rfl⟩, ⟨_, rfl, ⟨rfl, trivial⟩⟩, ⟨_, rfl, ⟨rfl, trivial⟩⟩, trivial⟩) (by rfl) (nk rfl)) key)
                refine ap_let (g := 3) (listed := #[true, true, true, true, true, true, true, true, true, false, false, false]) [(23, .ref 0 0), (24, .int .i64 r20.2), (25, .os 1), (27, .os 2), (29, .v (.slice (.int .i64)) r25.1), (33, .ref 3 0), (34, .bool r27.2), (39, .int .i64 s959.1), (40, .int .i64 s959.2.1), (41, .int .i64 s959.2.2), (42, .int .i64 i960), (298, .v (.arr 2 (.int .i64)) r967.1), (299, .bool r967.2)] [(0, .var [.arr (.int .i64) 6 r20.1]), (1, .row (.slice (.int .i64)) r21.1), (2, .row (.slice (.int .i64)) r23.1), (3, .var [.arr (.int .i64) 2 r27.1])] ?_ (fun k972 => ?_)
                · refine ap_all [9] (by kernel_rfl) ⟨?_, trivial⟩
                  refine apo_ao rfl ?_
                  refine ao_eff trivial (e_alloc 4 (y := .v (.arr 2 (.int .i64)) ((List.replicate 2 0) : (List Int))) Try.zeroValue39 (fun ρ h M => ra_zero_arr (t := (.int .i64)) rfl) rfl rfl rfl rfl rfl) rfl ?_
                  refine ao_nil ?_
                  refine ap_in ?_
                  exact ap_go (by kernel_rfl) (sub_mk idn (by exact ⟨⟨_, rfl, ad_ren rfl⟩, ⟨_, rfl, ad_ren rfl⟩, ⟨_, rfl, ad_ren rfl⟩, ⟨_, rfl, ad_ren rfl⟩, ⟨_, rfl, ad_ren rfl⟩, ⟨_, rfl, ad_ren rfl⟩, ⟨_, rfl, ad_ren rfl⟩, ⟨_, rfl, ad_ren rfl⟩, ⟨_, rfl, ad_ren rfl⟩, ⟨_, rfl, ad_ren rfl⟩, ⟨_, rfl, ad_ren rfl⟩, ⟨_, rfl, ad_ren rfl⟩, ⟨_, rfl, ad_ren rfl⟩, ⟨_, rfl, ad_ren rfl⟩, trivial⟩) (by exact ⟨⟨_, rfl, ⟨rfl, trivial⟩⟩, ⟨_, rfl, rfl⟩, ⟨_, rfl, rfl⟩, ⟨_, rfl, ⟨rfl, trivial⟩⟩, ⟨_, rfl, ⟨rfl, trivial⟩⟩, trivial⟩) (by rfl) (nk rfl)) k973
                refine ap_let (g := 6) (listed := #[true, true, true, true, true, false, false, false, false, true, false, false]) [(23, .ref 0 0), (24, .int .i64 r20.2), (25, .os 1), (27, .os 2), (29, .v (.slice (.int .i64)) r25.1), (33, .ref 3 0), (34, .bool r27.2), (39, .int .i64 s959.1), (40, .int .i64 s959.2.1), (41, .int .i64 s959.2.2), (42, .int .i64 i960), (43, .ref 4 0), (292, .v (.arr 6 (.int .i64)) r20.1), (296, .v (.slice (.int .i64)) ((r21.1.getD i960.toNat []) : (List Int)))] [(0, .var [.arr (.int .i64) 6 r20.1]), (1, .row (.slice (.int .i64)) r21.1), (2, .row (.slice (.int .i64)) r23.1), (3, .var [.arr (.int .i64) 2 r27.1]), (4, .var [.arr (.int .i64) 2 ((List.replicate 2 0) : (List Int))])] ?_ (fun k974 => ?_)
                · refine ap_all [5] (by kernel_rfl) ⟨?_, trivial⟩
                  refine apo_ao rfl ?_
                  refine ao_scall trivial (scall (c_impl_ChanceOfCounts (is_mk r967h)) rfl Try.func21 rfl rfl rfl rfl (fun σ => ⟨ad_ren rfl, ad_ren rfl, trivial⟩)) rfl ?_
                  refine ao_nil ?_
                  refine ap_in ?_
                  refine ap_pure 6 (by kernel_rfl) (fun _ _ _ h => h) rfl (by kernel_rfl) trivial (rp_move rfl) rfl ?_
                  refine ap_pure 7 (by kernel_rfl) (fun _ _ _ h => h) rfl (by kernel_rfl) trivial (rp_extract rfl rfl) rfl ?_
                  refine ap_pure 8 (by kernel_rfl) (fun _ _ _ h => h) rfl (by kernel_rfl) trivial (rp_extract rfl rfl) rfl ?_
                  exact ap_go (by kernel_rfl) (sub_mk idn (by exact ⟨⟨_, rfl, ad_ren rfl⟩, ⟨_, rfl, ad_ren rfl⟩, ⟨_, rfl, ad_ren rfl⟩, ⟨_, rfl, ad_ren rfl⟩, ⟨_, rfl, ad_ren rfl⟩, ⟨_, rfl, ad_ren rfl⟩, ⟨_, rfl, ad_ren rfl⟩, ⟨_, rfl, ad_ren rfl⟩, ⟨_, rfl, ad_ren rfl⟩, ⟨_, rfl, ad_ren rfl⟩, ⟨_, rfl, ad_ren rfl⟩, ⟨_, rfl, ad_ren rfl⟩, ⟨_, rfl, ad_ren rfl⟩, ⟨_, rfl, ad_ren rfl⟩, trivial⟩) (by exact ⟨⟨_, rfl, ⟨rfl, trivial⟩⟩, ⟨_, rfl, rfl⟩, ⟨_, rfl, rfl⟩, ⟨_, rfl, ⟨rfl, trivial⟩⟩, ⟨_, rfl, ⟨rfl, trivial⟩⟩, trivial⟩) (by rfl) (nk rfl)) k973
                refine ap_let (g := 7) (listed := #[true, true, true, true, true, false, false, false, false, false, false, false]) [(23, .ref 0 0), (24, .int .i64 r20.2), (25, .os 1), (27, .os 2), (29, .v (.slice (.int .i64)) r25.1), (33, .ref 3 0), (34, .bool r27.2), (39, .int .i64 s959.1), (40, .int .i64 s959.2.1), (41, .int .i64 s959.2.2), (42, .int .i64 i960), (292, .v (.arr 6 (.int .i64)) r20.1), (296, .v (.slice (.int .i64)) ((r21.1.getD i960.toNat []) : (List Int)))] [(0, .var [.arr (.int .i64) 6 r20.1]), (1, .row (.slice (.int .i64)) r21.1), (2, .row (.slice (.int .i64)) r23.1), (3, .var [.arr (.int .i64) 2 r27.1])] ?_ (fun k971 => ?_)
                · refine ap_all [5, 9] (by kernel_rfl) ⟨?_, ?_, trivial⟩
                  · refine apo_ao rfl ?_
                    refine ao_scall trivial (scall (c_impl_ChanceOfCounts (is_mk r967h)) rfl Try.func21 rfl rfl rfl rfl (fun σ => ⟨ad_ren rfl, ad_ren rfl, trivial⟩)) rfl ?_
                    refine ao_nil ?_
                    refine ap_in ?_
                    refine ap_pure 6 (by kernel_rfl) (fun _ _ _ h => h) rfl (by kernel_rfl) trivial (rp_move rfl) rfl ?_
                    refine ap_pure 7 (by kernel_rfl) (fun _ _ _ h => h) rfl (by kernel_rfl) trivial (rp_extract rfl rfl) rfl ?_
                    refine ap_pure 8 (by kernel_rfl) (fun _ _ _ h => h) rfl (by kernel_rfl) trivial (rp_extract rfl rfl) rfl ?_
                    exact ap_go (by kernel_rfl) (sub_mk idn (by exact ⟨⟨_, rfl, ad_ren rfl⟩, ⟨_, rfl, ad_ren rfl⟩, ⟨_, rfl, ad_ren rfl⟩, ⟨_, rfl, ad_ren rfl⟩, ⟨_, rfl, ad_ren rfl⟩, ⟨_, rfl, ad_ren rfl⟩, ⟨_, rfl, ad_ren rfl⟩, ⟨_, rfl, ad_ren rfl⟩, ⟨_, rfl, ad_ren rfl⟩, ⟨_, rfl, ad_ren rfl⟩, ⟨_, rfl, ad_ren rfl⟩, ⟨_, rfl, ad_ren rfl⟩, ⟨_, rfl, ad_ren rfl⟩, trivial⟩) (by exact ⟨⟨_, rfl, ⟨rfl, trivial⟩⟩, ⟨_, rfl, rfl⟩, ⟨_, rfl, rfl⟩, ⟨_, rfl, ⟨rfl, trivial⟩⟩, trivial⟩) (by rfl) (nk rfl)) k972
                  · refine apo_ao rfl ?_
                    refine ao_eff trivial (e_alloc 4 (y := .v (.arr 2 (.int .i64)) ((List.replicate 2 0) : (List Int))) Try.zeroValue39 (fun ρ h M => ra_zero_arr (t := (.int .i64)) rfl) rfl rfl rfl rfl rfl) rfl ?_
                    refine ao_nil ?_
                    refine ap_in ?_
                    exact ap_go (by kernel_rfl) (sub_mk idn (by exact ⟨⟨_, rfl, ad_ren rfl⟩, ⟨_, rfl, ad_ren rfl⟩, ⟨_, rfl, ad_ren rfl⟩, ⟨_, rfl, ad_ren rfl⟩, ⟨_, rfl, ad_ren rfl⟩, ⟨_, rfl, ad_ren rfl⟩, ⟨_, rfl, ad_ren rfl⟩, ⟨_, rfl, ad_ren rfl⟩, ⟨_, rfl, ad_ren rfl⟩, ⟨_, rfl, ad_ren rfl⟩, ⟨_, rfl, ad_ren rfl⟩, ⟨_, rfl, ad_ren rfl⟩, ⟨_, rfl, ad_ren rfl⟩, ⟨_, rfl, ad_ren rfl⟩, trivial⟩) (by exact ⟨⟨_, rfl, ⟨rfl, trivial⟩⟩, ⟨_, rfl, rfl⟩, ⟨_, rfl, rfl⟩, ⟨_, rfl, ⟨rfl, trivial⟩⟩, ⟨_, rfl, ⟨rfl, trivial⟩⟩, trivial⟩) (by rfl) (nk rfl)) k974
                refine ap_let (g := 7) (listed := #[true, true, true, true, false, false, false, false, false, true, false, false]) [(23, .ref 0 0), (24, .int .i64 r20.2), (25, .os 1), (27, .os 2), (29, .v (.slice (.int .i64)) r25.1), (33, .ref 3 0), (34, .bool r27.2), (39, .int .i64 s959.1), (40, .int .i64 s959.2.1), (41, .int .i64 s959.2.2), (42, .int .i64 i960), (43, .ref 4 0), (292, .v (.arr 6 (.int .i64)) r20.1), (295, .elem 1 0 1 i960.toNat)] [(0, .var [.arr (.int .i64) 6 r20.1]), (1, .row (.slice (.int .i64)) r21.1), (2, .row (.slice (.int .i64)) r23.1), (3, .var [.arr (.int .i64) 2 r27.1]), (4, .var [.arr (.int .i64) 2 ((List.replicate 2 0) : (List Int))])] ?_ (fun k975 => ?_)
                · refine ap_all [4] (by kernel_rfl) ⟨?_, trivial⟩
                  refine apo_ao rfl ?_
                  refine ao_read trivial (r_load_elemv (t := (.slice (.int .i64))) Try.isAgg30 Try.sizeOf30 rfl rfl (show i960.toNat < r21.1.length from by omega)) rfl ?_
                  refine ao_nil ?_
                  refine ap_in ?_
                  exact ap_go (by kernel_rfl) (sub_mk idn (by exact ⟨⟨_, rfl, ad_ren rfl⟩, ⟨_, rfl, ad_ren rfl⟩, ⟨_, rfl, ad_ren rfl⟩, ⟨_, rfl, ad_ren rfl⟩, ⟨_, rfl, ad_ren rfl⟩, ⟨_, rfl, ad_ren rfl⟩, ⟨_, rfl, ad_ren rfl⟩, ⟨_, rfl, ad_ren rfl⟩, ⟨_, rfl, ad_ren rfl⟩, ⟨_, rfl, ad_ren rfl⟩, ⟨_, rfl, ad_ren rfl⟩, ⟨_, rfl, ad_ren rfl⟩, ⟨_, rfl, ad_ren rfl⟩, ⟨_, rfl, ad_ren rfl⟩, trivial⟩) (by exact ⟨⟨_, rfl, ⟨rfl, trivial⟩⟩, ⟨_, rfl, rfl⟩, ⟨_, rfl, rfl⟩, ⟨_, rfl, ⟨rfl, trivial⟩⟩, ⟨_, rfl, ⟨rfl, trivial⟩⟩, trivial⟩) (by rfl) (nk rfl)) k974
                refine ap_let (g := 7) (listed := #[false, true, true, true, true, false, false, false, false, true, false, false]) [(23, .ref 0 0), (24, .int .i64 r20.2), (25, .os 1), (27, .os 2), (29, .v (.slice (.int .i64)) r25.1), (33, .ref 3 0), (34, .bool r27.2), (39, .int .i64 s959.1), (40, .int .i64 s959.2.1), (41, .int .i64 s959.2.2), (42, .int .i64 i960), (43, .ref 4 0), (296, .v (.slice (.int .i64)) ((r21.1.getD i960.toNat []) : (List Int)))] [(0, .var [.arr (.int .i64) 6 r20.1]), (1, .row (.slice (.int .i64)) r21.1), (2, .row (.slice (.int .i64)) r23.1), (3, .var [.arr (.int .i64) 2 r27.1]), (4, .var [.arr (.int .i64) 2 ((List.replicate 2 0) : (List Int))])] ?_ (fun k979 => ?_)
                · refine ap_all [0] (by kernel_rfl) ⟨?_, trivial⟩
                  refine apo_ao rfl ?_
                  refine ao_read trivial (r_load_arr rfl Try.isAgg22 Try.sizeOf22 rfl rfl rfl) rfl ?_
                  refine ao_nil ?_
                  refine ap_in ?_
                  exact ap_go (by kernel_rfl) (sub_mk idn (by exact ⟨⟨_, rfl, ad_ren rfl⟩, ⟨_, rfl, ad_ren rfl⟩, ⟨_, rfl, ad_ren rfl⟩, ⟨_, rfl, ad_ren rfl⟩, ⟨_, rfl, ad_ren rfl⟩, ⟨_, rfl, ad_ren rfl⟩, ⟨_, rfl, ad_ren rfl⟩, ⟨_, rfl, ad_ren rfl⟩, ⟨_, rfl, ad_ren rfl⟩, ⟨_, rfl, ad_ren rfl⟩, ⟨_, rfl, ad_ren rfl⟩, ⟨_, rfl, ad_ren rfl⟩, ⟨_, rfl, ad_ren rfl⟩, ⟨_, rfl, ad_ren rfl⟩, trivial⟩) (by exact ⟨⟨_, rfl, ⟨rfl, trivial⟩⟩, ⟨_, rfl, rfl⟩, ⟨_, rfl, rfl⟩, ⟨_, rfl, ⟨rfl, trivial⟩⟩, ⟨_, rfl, ⟨rfl, trivial⟩⟩, trivial⟩) (by rfl) (nk rfl)) k974
                refine ap_let (g := 8) (listed := #[true, true, true, true, false, false, false, false, false, false, false, false]) [(23, .ref 0 0), (24, .int .i64 r20.2), (25, .os 1), (27, .os 2), (29, .v (.slice (.int .i64)) r25.1), (33, .ref 3 0), (34, .bool r27.2), (39, .int .i64 s959.1), (40, .int .i64 s959.2.1), (41, .int .i64 s959.2.2), (42, .int .i64 i960), (292, .v (.arr 6 (.int .i64)) r20.1), (295, .elem 1 0 1 i960.toNat)] [(0, .var [.arr (.int .i64) 6 r20.1]), (1, .row (.slice (.int .i64)) r21.1), (2, .row (.slice (.int .i64)) r23.1), (3, .var [.arr (.int .i64) 2 r27.1])] ?_ (fun k970 => ?_)
                · refine ap_all [4, 9] (by kernel_rfl) ⟨?_, ?_, trivial⟩
                  · refine apo_ao rfl ?_
                    refine ao_read trivial (r_load_elemv (t := (.slice (.int .i64))) Try.isAgg30 Try.sizeOf30 rfl rfl (show i960.toNat < r21.1.length from by omega)) rfl ?_
                    refine ao_nil ?_
                    refine ap_in ?_
                    exact ap_go (by kernel_rfl) (sub_mk idn (by exact ⟨⟨_, rfl, ad_ren rfl⟩, ⟨_, rfl, ad_ren rfl⟩, ⟨_, rfl, ad_ren rfl⟩, ⟨_, rfl, ad_ren rfl⟩, ⟨_, rfl, ad_ren rfl⟩, ⟨_, rfl, ad_ren rfl⟩, ⟨_, rfl, ad_ren rfl⟩, ⟨_, rfl, ad_ren rfl⟩, ⟨_, rfl, ad_ren rfl⟩, ⟨_, rfl, ad_ren rfl⟩, ⟨_, rfl, ad_ren rfl⟩, ⟨_, rfl, ad_ren rfl⟩, ⟨_, rfl, ad_ren rfl⟩, trivial⟩) (by exact ⟨⟨_, rfl, ⟨rfl, trivial⟩⟩, ⟨_, rfl, rfl⟩, ⟨_, rfl, rfl⟩, ⟨_, rfl, ⟨rfl, trivial⟩⟩, trivial⟩) (by rfl) (nk rfl)) k971
                  · refine apo_ao rfl ?_
                    refine ao_eff trivial (e_alloc 4 (y := .v (.arr 2 (.int .i64)) ((List.replicate 2 0) : (List Int))) Try.zeroValue39 (fun ρ h M => ra_zero_arr (t := (.int .i64)) rfl) rfl rfl rfl rfl rfl) rfl ?_
                    refine ao_nil ?_
                    refine ap_in ?_
                    exact ap_go (by kernel_rfl) (sub_mk idn (by exact ⟨⟨_, rfl, ad_ren rfl⟩, ⟨_, rfl, ad_ren rfl⟩, ⟨_, rfl, ad_ren rfl⟩, ⟨_, rfl, ad_ren rfl⟩, ⟨_, rfl, ad_ren rfl⟩, ⟨_, rfl, ad_ren rfl⟩, ⟨_, rfl, ad_ren rfl⟩, ⟨_, rfl, ad_ren rfl⟩, ⟨_, rfl, ad_ren rfl⟩, ⟨_, rfl, ad_ren rfl⟩, ⟨_, rfl, ad_ren rfl⟩, ⟨_, rfl, ad_ren rfl⟩, ⟨_, rfl, ad_ren rfl⟩, ⟨_, rfl, ad_ren rfl⟩, trivial⟩) (by exact ⟨⟨_, rfl, ⟨rfl, trivial⟩⟩, ⟨_, rfl, rfl⟩, ⟨_, rfl, rfl⟩, ⟨_, rfl, ⟨rfl, trivial⟩⟩, ⟨_, rfl, ⟨rfl, trivial⟩⟩, trivial⟩) (by rfl) (nk rfl)) k975
                refine ap_let (g := 8) (listed := #[true, true, true, false, false, false, false, false, false, true, false, false]) [(23, .ref 0 0), (24, .int .i64 r20.2), (25, .os 1), (27, .os 2), (29, .v (.slice (.int .i64)) r25.1), (33, .ref 3 0), (34, .bool r27.2), (39, .int .i64 s959.1), (40, .int .i64 s959.2.1), (41, .int .i64 s959.2.2), (42, .int .i64 i960), (43, .ref 4 0), (292, .v (.arr 6 (.int .i64)) r20.1), (293, .os 1), (294, .int .i64 i960)] [(0, .var [.arr (.int .i64) 6 r20.1]), (1, .row (.slice (.int .i64)) r21.1), (2, .row (.slice (.int .i64)) r23.1), (3, .var [.arr (.int .i64) 2 r27.1]), (4, .var [.arr (.int .i64) 2 ((List.replicate 2 0) : (List Int))])] ?_ (fun k976 => ?_)
                · refine ap_all [3] (by kernel_rfl) ⟨?_, trivial⟩
                  refine apo_ao rfl ?_
                  refine ao_read trivial (r_idxAddr_os Try.underlying23 Try.sizeOf30 rfl rfl rfl (show 0 ≤ i960 from by omega) (show i960 < (r21.1.length : Int) from by omega)) rfl ?_
                  refine ao_nil ?_
                  refine ap_in ?_
                  exact ap_go (by kernel_rfl) (sub_mk idn (by exact ⟨⟨_, rfl, ad_ren rfl⟩, ⟨_, rfl, ad_ren rfl⟩, ⟨_, rfl, ad_ren rfl⟩, ⟨_, rfl, ad_ren rfl⟩, ⟨_, rfl, ad_ren rfl⟩, ⟨_, rfl, ad_ren rfl⟩, ⟨_, rfl, ad_ren rfl⟩, ⟨_, rfl, ad_ren rfl⟩, ⟨_, rfl, ad_ren rfl⟩, ⟨_, rfl, ad_ren rfl⟩, ⟨_, rfl, ad_ren rfl⟩, ⟨_, rfl, ad_ren rfl⟩, ⟨_, rfl, ad_ren rfl⟩, ⟨_, rfl, ad_ren rfl⟩, trivial⟩) (by exact ⟨⟨_, rfl, ⟨rfl, trivial⟩⟩, ⟨_, rfl, rfl⟩, ⟨_, rfl, rfl⟩, ⟨_, rfl, ⟨rfl, trivial⟩⟩, ⟨_, rfl, ⟨rfl, trivial⟩⟩, trivial⟩) (by rfl) (nk rfl)) k975
                refine ap_let (g := 8) (listed := #[false, true, true, true, true, false, false, false, false, false, false, false]) [(23, .ref 0 0), (24, .int .i64 r20.2), (25, .os 1), (27, .os 2), (29, .v (.slice (.int .i64)) r25.1), (33, .ref 3 0), (34, .bool r27.2), (39, .int .i64 s959.1), (40, .int .i64 s959.2.1), (41, .int .i64 s959.2.2), (42, .int .i64 i960), (296, .v (.slice (.int .i64)) ((r21.1.getD i960.toNat []) : (List Int)))] [(0, .var [.arr (.int .i64) 6 r20.1]), (1, .row (.slice (.int .i64)) r21.1), (2, .row (.slice (.int .i64)) r23.1), (3, .var [.arr (.int .i64) 2 r27.1])] ?_ (fun k978 => ?_)
                · refine ap_all [0, 9] (by kernel_rfl) ⟨?_, ?_, trivial⟩
                  · refine apo_ao rfl ?_
                    refine ao_read trivial (r_load_arr rfl Try.isAgg22 Try.sizeOf22 rfl rfl rfl) rfl ?_
                    refine ao_nil ?_
                    refine ap_in ?_
                    exact ap_go (by kernel_rfl) (sub_mk idn (by exact ⟨⟨_, rfl, ad_ren rfl⟩, ⟨_, rfl, ad_ren rfl⟩, ⟨_, rfl, ad_ren rfl⟩, ⟨_, rfl, ad_ren rfl⟩, ⟨_, rfl, ad_ren rfl⟩, ⟨_, rfl, ad_ren rfl⟩, ⟨_, rfl, ad_ren rfl⟩, ⟨_, rfl, ad_ren rfl⟩, ⟨_, rfl, ad_ren rfl⟩, ⟨_, rfl, ad_ren rfl⟩, ⟨_, rfl, ad_ren rfl⟩, ⟨_, rfl, ad_ren rfl⟩, ⟨_, rfl, ad_ren rfl⟩, trivial⟩) (by exact ⟨⟨_, rfl, ⟨rfl, trivial⟩⟩, ⟨_, rfl, rfl⟩, ⟨_, rfl, rfl⟩, ⟨_, rfl, ⟨rfl, trivial⟩⟩, trivial⟩) (by rfl) (nk rfl)) k971
                  · refine apo_ao rfl ?_
                    refine ao_eff trivial (e_alloc 4 (y := .v (.arr 2 (.int .i64)) ((List.replicate 2 0) : (List Int))) Try.zeroValue39 (fun ρ h M => ra_zero_arr (t := (.int .i64)) rfl) rfl rfl rfl rfl rfl) rfl ?_
                    refine ao_nil ?_
                    refine ap_in ?_
                    exact ap_go (by kernel_rfl) (sub_mk idn (by exact ⟨⟨_, rfl, ad_ren rfl⟩, ⟨_, rfl, ad_ren rfl⟩, ⟨_, rfl, ad_ren rfl⟩, ⟨_, rfl, ad_ren rfl⟩, ⟨_, rfl, ad_ren rfl⟩, ⟨_, rfl, ad_ren rfl⟩, ⟨_, rfl, ad_ren rfl⟩, ⟨_, rfl, ad_ren rfl⟩, ⟨_, rfl, ad_ren rfl⟩, ⟨_, rfl, ad_ren rfl⟩, ⟨_, rfl, ad_ren rfl⟩, ⟨_, rfl, ad_ren rfl⟩, ⟨_, rfl, ad_ren rfl⟩, trivial⟩) (by exact ⟨⟨_, rfl, ⟨rfl, trivial⟩⟩, ⟨_, rfl, rfl⟩, ⟨_, rfl, rfl⟩, ⟨_, rfl, ⟨rfl, trivial⟩⟩, ⟨_, rfl, ⟨rfl, trivial⟩⟩, trivial⟩) (by rfl) (nk rfl)) k979
                refine ap_let (g := 8) (listed := #[false, true, true, true, false, false, false, false, false, true, false, false]) [(23, .ref 0 0), (24, .int .i64 r20.2), (25, .os 1), (27, .os 2), (29, .v (.slice (.int .i64)) r25.1), (33, .ref 3 0), (34, .bool r27.2), (39, .int .i64 s959.1), (40, .int .i64 s959.2.1), (41, .int .i64 s959.2.2), (42, .int .i64 i960), (43, .ref 4 0), (295, .elem 1 0 1 i960.toNat)] [(0, .var [.arr (.int .i64) 6 r20.1]), (1, .row (.slice (.int .i64)) r21.1), (2, .row (.slice (.int .i64)) r23.1), (3, .var [.arr (.int .i64) 2 r27.1]), (4, .var [.arr (.int .i64) 2 ((List.replicate 2 0) : (List Int))])] ?_ (fun k980 => ?_)
                · refine ap_all [0, 4] (by kernel_rfl) ⟨?_, ?_, trivial⟩
                  · refine apo_ao rfl ?_
                    refine ao_read trivial (r_load_arr rfl Try.isAgg22 Try.sizeOf22 rfl rfl rfl) rfl ?_
                    refine ao_nil ?_
                    refine ap_in ?_
                    exact ap_go (by kernel_rfl) (sub_mk idn (by exact ⟨⟨_, rfl, ad_ren rfl⟩, ⟨_, rfl, ad_ren rfl⟩, ⟨_, rfl, ad_ren rfl⟩, ⟨_, rfl, ad_ren rfl⟩, ⟨_, rfl, ad_ren rfl⟩, ⟨_, rfl, ad_ren rfl⟩, ⟨_, rfl, ad_ren rfl⟩, ⟨_, rfl, ad_ren rfl⟩, ⟨_, rfl, ad_ren rfl⟩, ⟨_, rfl, ad_ren rfl⟩, ⟨_, rfl, ad_ren rfl⟩, ⟨_, rfl, ad_ren rfl⟩, ⟨_, rfl, ad_ren rfl⟩, ⟨_, rfl, ad_ren rfl⟩, trivial⟩) (by exact ⟨⟨_, rfl, ⟨rfl, trivial⟩⟩, ⟨_, rfl, rfl⟩, ⟨_, rfl, rfl⟩, ⟨_, rfl, ⟨rfl, trivial⟩⟩, ⟨_, rfl, ⟨rfl, trivial⟩⟩, trivial⟩) (by rfl) (nk rfl)) k975
                  · refine apo_ao rfl ?_
                    refine ao_read trivial (r_load_elemv (t := (.slice (.int .i64))) Try.isAgg30 Try.sizeOf30 rfl rfl (show i960.toNat < r21.1.length from by omega)) rfl ?_
                    refine ao_nil ?_
                    refine ap_in ?_
                    exact ap_go (by kernel_rfl) (sub_mk idn (by exact ⟨⟨_, rfl, ad_ren rfl⟩, ⟨_, rfl, ad_ren rfl⟩, ⟨_, rfl, ad_ren rfl⟩, ⟨_, rfl, ad_ren rfl⟩, ⟨_, rfl, ad_ren rfl⟩, ⟨_, rfl, ad_ren rfl⟩, ⟨_, rfl, ad_ren rfl⟩, ⟨_, rfl, ad_ren rfl⟩, ⟨_, rfl, ad_ren rfl⟩, ⟨_, rfl, ad_ren rfl⟩, ⟨_, rfl, ad_ren rfl⟩, ⟨_, rfl, ad_ren rfl⟩, ⟨_, rfl, ad_ren rfl⟩, trivial⟩) (by exact ⟨⟨_, rfl, ⟨rfl, trivial⟩⟩, ⟨_, rfl, rfl⟩, ⟨_, rfl, rfl⟩, ⟨_, rfl, ⟨rfl, trivial⟩⟩, ⟨_, rfl, ⟨rfl, trivial⟩⟩, trivial⟩) (by rfl) (nk rfl)) k979
                refine ap_let (g := 9) (listed := #[true, true, true, false, false, false, false, false, false, false, false, false]) [(23, .ref 0 0), (24, .int .i64 r20.2), (25, .os 1), (27, .os 2), (29, .v (.slice (.int .i64)) r25.1), (33, .ref 3 0), (34, .bool r27.2), (39, .int .i64 s959.1), (40, .int .i64 s959.2.1), (41, .int .i64 s959.2.2), (42, .int .i64 i960), (292, .v (.arr 6 (.int .i64)) r20.1), (293, .os 1), (294, .int .i64 i960)] [(0, .var [.arr (.int .i64) 6 r20.1]), (1, .row (.slice (.int .i64)) r21.1), (2, .row (.slice (.int .i64)) r23.1), (3, .var [.arr (.int .i64) 2 r27.1])] ?_ (fun k969 => ?_)
                · refine ap_all [3, 9] (by kernel_rfl) ⟨?_, ?_, trivial⟩
                  · refine apo_ao rfl ?_
                    refine ao_read trivial (r_idxAddr_os Try.underlying23 Try.sizeOf30 rfl rfl rfl (show 0 ≤ i960 from by omega) (show i960 < (r21.1.length : Int) from by omega)) rfl ?_
                    refine ao_nil ?_
                    refine ap_in ?_
                    exact ap_go (by kernel_rfl) (sub_mk idn (by exact ⟨⟨_, rfl, ad_ren rfl⟩, ⟨_, rfl, ad_ren rfl⟩, ⟨_, rfl, ad_ren rfl⟩, ⟨_, rfl, ad_ren rfl⟩, ⟨_, rfl, ad_ren rfl⟩, ⟨_, rfl, ad_ren rfl⟩, ⟨_, rfl, ad_ren rfl⟩, ⟨_, rfl, ad_ren rfl⟩, ⟨_, rfl, ad_ren rfl⟩, ⟨_, rfl, ad_ren rfl⟩, ⟨_, rfl, ad_ren rfl⟩, ⟨_, rfl, ad_ren rfl⟩, ⟨_, rfl, ad_ren rfl⟩, trivial⟩) (by exact ⟨⟨_, rfl, ⟨rfl, trivial⟩⟩, ⟨_, rfl, rfl⟩, ⟨_, rfl, rfl⟩, ⟨_, rfl, ⟨rfl, trivial⟩⟩, trivial⟩) (by rfl) (nk rfl)) k970
                  · refine apo_ao rfl ?_
                    refine ao_eff trivial (e_alloc 4 (y := .v (.arr 2 (.int .i64)) ((List.replicate 2 0) : (List Int))) Try.zeroValue39 (fun ρ h M => ra_zero_arr (t := (.int .i64)) rfl) rfl rfl rfl rfl rfl) rfl ?_
                    refine ao_nil ?_
                    refine ap_in ?_
                    exact ap_go (by kernel_rfl) (sub_mk idn (by exact ⟨⟨_, rfl, ad_ren rfl⟩, ⟨_, rfl, ad_ren rfl⟩, ⟨_, rfl, ad_ren rfl⟩, ⟨_, rfl, ad_ren rfl⟩, ⟨_, rfl, ad_ren rfl⟩, ⟨_, rfl, ad_ren rfl⟩, ⟨_, rfl, ad_ren rfl⟩, ⟨_, rfl, ad_ren rfl⟩, ⟨_, rfl, ad_ren rfl⟩, ⟨_, rfl, ad_ren rfl⟩, ⟨_, rfl, ad_ren rfl⟩, ⟨_, rfl, ad_ren rfl⟩, ⟨_, rfl, ad_ren rfl⟩, ⟨_, rfl, ad_ren rfl⟩, ⟨_, rfl, ad_ren rfl⟩, trivial⟩) (by exact ⟨⟨_, rfl, ⟨rfl, trivial⟩⟩, ⟨_, rfl, rfl⟩, ⟨_, rfl, rfl⟩, ⟨_, rfl, ⟨rfl, trivial⟩⟩, ⟨_, rfl, ⟨rfl, trivial⟩⟩, trivial⟩) (by rfl) (nk rfl)) k976
                refine ap_let (g := 9) (listed := #[false, true, true, true, false, false, false, false, false, false, false, false]) [(23, .ref 0 0), (24, .int .i64 r20.2), (25, .os 1), (27, .os 2), (29, .v (.slice (.int .i64)) r25.1), (33, .ref 3 0), (34, .bool r27.2), (39, .int .i64 s959.1), (40, .int .i64 s959.2.1), (41, .int .i64 s959.2.2), (42, .int .i64 i960), (295, .elem 1 0 1 i960.toNat)] [(0, .var [.arr (.int .i64) 6 r20.1]), (1, .row (.slice (.int .i64)) r21.1), (2, .row (.slice (.int .i64)) r23.1), (3, .var [.arr (.int .i64) 2 r27.1])] ?_ (fun k977 => ?_)
                · refine ap_all [0, 4, 9] (by kernel_rfl) ⟨?_, ?_, ?_, trivial⟩
                  · refine apo_ao rfl ?_
                    refine ao_read trivial (r_load_arr rfl Try.isAgg22 Try.sizeOf22 rfl rfl rfl) rfl ?_
                    refine ao_nil ?_
                    refine ap_in ?_
                    exact ap_go (by kernel_rfl) (sub_mk idn (by exact ⟨⟨_, rfl, ad_ren rfl⟩, ⟨_, rfl, ad_ren rfl⟩, ⟨_, rfl, ad_ren rfl⟩, ⟨_, rfl, ad_ren rfl⟩, ⟨_, rfl, ad_ren rfl⟩, ⟨_, rfl, ad_ren rfl⟩, ⟨_, rfl, ad_ren rfl⟩, ⟨_, rfl, ad_ren rfl⟩, ⟨_, rfl, ad_ren rfl⟩, ⟨_, rfl, ad_ren rfl⟩, ⟨_, rfl, ad_ren rfl⟩, ⟨_, rfl, ad_ren rfl⟩, ⟨_, rfl, ad_ren rfl⟩, trivial⟩) (by exact ⟨⟨_, rfl, ⟨rfl, trivial⟩⟩, ⟨_, rfl, rfl⟩, ⟨_, rfl, rfl⟩, ⟨_, rfl, ⟨rfl, trivial⟩⟩, trivial⟩) (by rfl) (nk rfl)) k970
                  · refine apo_ao rfl ?_
                    refine ao_read trivial (r_load_elemv (t := (.slice (.int .i64))) Try.isAgg30 Try.sizeOf30 rfl rfl (show i960.toNat < r21.1.length from by omega)) rfl ?_
                    refine ao_nil ?_
                    refine ap_in ?_
                    exact ap_go (by kernel_rfl) (sub_mk idn (by exact ⟨⟨_, rfl, ad_ren rfl⟩, ⟨_, rfl, ad_ren rfl⟩, ⟨_, rfl, ad_ren rfl⟩, ⟨_, rfl, ad_ren rfl⟩, ⟨_, rfl, ad_ren rfl⟩, ⟨_, rfl, ad_ren rfl⟩, ⟨_, rfl, ad_ren rfl⟩, ⟨_, rfl, ad_ren rfl⟩, ⟨_, rfl, ad_ren rfl⟩, ⟨_, rfl, ad_ren rfl⟩, ⟨_, rfl, ad_ren rfl⟩, ⟨_, rfl, ad_ren rfl⟩, trivial⟩) (by exact ⟨⟨_, rfl, ⟨rfl, trivial⟩⟩, ⟨_, rfl, rfl⟩, ⟨_, rfl, rfl⟩, ⟨_, rfl, ⟨rfl, trivial⟩⟩, trivial⟩) (by rfl) (nk rfl)) k978
                  · refine apo_ao rfl ?_
                    refine ao_eff trivial (e_alloc 4 (y := .v (.arr 2 (.int .i64)) ((List.replicate 2 0) : (List Int))) Try.zeroValue39 (fun ρ h M => ra_zero_arr (t := (.int .i64)) rfl) rfl rfl rfl rfl rfl) rfl ?_
                    refine ao_nil ?_
                    refine ap_in ?_
                    exact ap_go (by kernel_rfl) (sub_mk idn (by exact ⟨⟨_, rfl, ad_ren rfl⟩, ⟨_, rfl, ad_ren rfl⟩, ⟨_, rfl, ad_ren rfl⟩, ⟨_, rfl, ad_ren rfl⟩, ⟨_, rfl, ad_ren rfl⟩, ⟨_, rfl, ad_ren rfl⟩, ⟨_, rfl, ad_ren rfl⟩, ⟨_, rfl, ad_ren rfl⟩, ⟨_, rfl, ad_ren rfl⟩, ⟨_, rfl, ad_ren rfl⟩, ⟨_, rfl, ad_ren rfl⟩, ⟨_, rfl, ad_ren rfl⟩, ⟨_, rfl, ad_ren rfl⟩, trivial⟩) (by exact ⟨⟨_, rfl, ⟨rfl, trivial⟩⟩, ⟨_, rfl, rfl⟩, ⟨_, rfl, rfl⟩, ⟨_, rfl, ⟨rfl, trivial⟩⟩, ⟨_, rfl, ⟨rfl, trivial⟩⟩, trivial⟩) (by rfl) (nk rfl)) k980
                refine ap_let (g := 9) (listed := #[false, true, true, false, false, false, false, false, false, true, false, false]) [(23, .ref 0 0), (24, .int .i64 r20.2), (25, .os 1), (27, .os 2), (29, .v (.slice (.int .i64)) r25.1), (33, .ref 3 0), (34, .bool r27.2), (39, .int .i64 s959.1), (40, .int .i64 s959.2.1), (41, .int .i64 s959.2.2), (42, .int .i64 i960), (43, .ref 4 0), (293, .os 1), (294, .int .i64 i960)] [(0, .var [.arr (.int .i64) 6 r20.1]), (1, .row (.slice (.int .i64)) r21.1), (2, .row (.slice (.int .i64)) r23.1), (3, .var [.arr (.int .i64) 2 r27.1]), (4, .var [.arr (.int .i64) 2 ((List.replicate 2 0) : (List Int))])] ?_ (fun k981 => ?_)
                · refine ap_all [0, 3] (by kernel_rfl) ⟨?_, ?_, trivial⟩
                  · refine apo_ao rfl ?_
                    refine ao_read trivial (r_load_arr rfl Try.isAgg22 Try.sizeOf22 rfl rfl rfl) rfl ?_
                    refine ao_nil ?_
                    refine ap_in ?_
                    exact ap_go (by kernel_rfl) (sub_mk idn (by exact ⟨⟨_, rfl, ad_ren rfl⟩, ⟨_, rfl, ad_ren rfl⟩, ⟨_, rfl, ad_ren rfl⟩, ⟨_, rfl, ad_ren rfl⟩, ⟨_, rfl, ad_ren rfl⟩, ⟨_, rfl, ad_ren rfl⟩, ⟨_, rfl, ad_ren rfl⟩, ⟨_, rfl, ad_ren rfl⟩, ⟨_, rfl, ad_ren rfl⟩, ⟨_, rfl, ad_ren rfl⟩, ⟨_, rfl, ad_ren rfl⟩, ⟨_, rfl, ad_ren rfl⟩, ⟨_, rfl, ad_ren rfl⟩, ⟨_, rfl, ad_ren rfl⟩, ⟨_, rfl, ad_ren rfl⟩, trivial⟩) (by exact ⟨⟨_, rfl, ⟨rfl, trivial⟩⟩, ⟨_, rfl, rfl⟩, ⟨_, rfl, rfl⟩, ⟨_, rfl, ⟨rfl, trivial⟩⟩, ⟨_, rfl, ⟨rfl, trivial⟩⟩, trivial⟩) (by rfl) (nk rfl)) k976
                  · refine apo_ao rfl ?_
                    refine ao_read trivial (r_idxAddr_os Try.underlying23 Try.sizeOf30 rfl rfl rfl (show 0 ≤ i960 from by omega) (show i960 < (r21.1.length : Int) from by omega)) rfl ?_
                    refine ao_nil ?_
                    refine ap_in ?_
                    exact ap_go (by kernel_rfl) (sub_mk idn (by exact ⟨⟨_, rfl, ad_ren rfl⟩, ⟨_, rfl, ad_ren rfl⟩, ⟨_, rfl, ad_ren rfl⟩, ⟨_, rfl, ad_ren rfl⟩, ⟨_, rfl, ad_ren rfl⟩, ⟨_, rfl, ad_ren rfl⟩, ⟨_, rfl, ad_ren rfl⟩, ⟨_, rfl, ad_ren rfl⟩, ⟨_, rfl, ad_ren rfl⟩, ⟨_, rfl, ad_ren rfl⟩, ⟨_, rfl, ad_ren rfl⟩, ⟨_, rfl, ad_ren rfl⟩, ⟨_, rfl, ad_ren rfl⟩, trivial⟩) (by exact ⟨⟨_, rfl, ⟨rfl, trivial⟩⟩, ⟨_, rfl, rfl⟩, ⟨_, rfl, rfl⟩, ⟨_, rfl, ⟨rfl, trivial⟩⟩, ⟨_, rfl, ⟨rfl, trivial⟩⟩, trivial⟩) (by rfl) (nk rfl)) k980
                refine ap_let (g := 10) (listed := #[false, true, true, false, false, false, false, false, false, false, false, false]) [(23, .ref 0 0), (24, .int .i64 r20.2), (25, .os 1), (27, .os 2), (29, .v (.slice (.int .i64)) r25.1), (33, .ref 3 0), (34, .bool r27.2), (39, .int .i64 s959.1), (40, .int .i64 s959.2.1), (41, .int .i64 s959.2.2), (42, .int .i64 i960), (293, .os 1), (294, .int .i64 i960)] [(0, .var [.arr (.int .i64) 6 r20.1]), (1, .row (.slice (.int .i64)) r21.1), (2, .row (.slice (.int .i64)) r23.1), (3, .var [.arr (.int .i64) 2 r27.1])] ?_ (fun k968 => ?_)
                · refine ap_all [0, 3, 9] (by kernel_rfl) ⟨?_, ?_, ?_, trivial⟩
                  · refine apo_ao rfl ?_
                    refine ao_read trivial (r_load_arr rfl Try.isAgg22 Try.sizeOf22 rfl rfl rfl) rfl ?_
                    refine ao_nil ?_
                    refine ap_in ?_
                    exact ap_go (by kernel_rfl) (sub_mk idn (by exact ⟨⟨_, rfl, ad_ren rfl⟩, ⟨_, rfl, ad_ren rfl⟩, ⟨_, rfl, ad_ren rfl⟩, ⟨_, rfl, ad_ren rfl⟩, ⟨_, rfl, ad_ren rfl⟩, ⟨_, rfl, ad_ren rfl⟩, ⟨_, rfl, ad_ren rfl⟩, ⟨_, rfl, ad_ren rfl⟩, ⟨_, rfl, ad_ren rfl⟩, ⟨_, rfl, ad_ren rfl⟩, ⟨_, rfl, ad_ren rfl⟩, ⟨_, rfl, ad_ren rfl⟩, ⟨_, rfl, ad_ren rfl⟩, ⟨_, rfl, ad_ren rfl⟩, trivial⟩) (by exact ⟨⟨_, rfl, ⟨rfl, trivial⟩⟩, ⟨_, rfl, rfl⟩, ⟨_, rfl, rfl⟩, ⟨_, rfl, ⟨rfl, trivial⟩⟩, trivial⟩) (by rfl) (nk rfl)) k969
                  · refine apo_ao rfl ?_
                    refine ao_read trivial (r_idxAddr_os Try.underlying23 Try.sizeOf30 rfl rfl rfl (show 0 ≤ i960 from by omega) (show i960 < (r21.1.length : Int) from by omega)) rfl ?_
                    refine ao_nil ?_
                    refine ap_in ?_
                    exact ap_go (by kernel_rfl) (sub_mk idn (by exact ⟨⟨_, rfl, ad_ren rfl⟩, ⟨_, rfl, ad_ren rfl⟩, ⟨_, rfl, ad_ren rfl⟩, ⟨_, rfl, ad_ren rfl⟩, ⟨_, rfl, ad_ren rfl⟩, ⟨_, rfl, ad_ren rfl⟩, ⟨_, rfl, ad_ren rfl⟩, ⟨_, rfl, ad_ren rfl⟩, ⟨_, rfl, ad_ren rfl⟩, ⟨_, rfl, ad_ren rfl⟩, ⟨_, rfl, ad_ren rfl⟩, ⟨_, rfl, ad_ren rfl⟩, trivial⟩) (by exact ⟨⟨_, rfl, ⟨rfl, trivial⟩⟩, ⟨_, rfl, rfl⟩, ⟨_, rfl, rfl⟩, ⟨_, rfl, ⟨rfl, trivial⟩⟩, trivial⟩) (by rfl) (nk rfl)) k977
                  · refine apo_ao rfl ?_
                    refine ao_eff trivial (e_alloc 4 (y := .v (.arr 2 (.int .i64)) ((List.replicate 2 0) : (List Int))) Try.zeroValue39 (fun ρ h M => ra_zero_arr (t := (.int .i64)) rfl) rfl rfl rfl rfl rfl) rfl ?_
                    refine ao_nil ?_
                    refine ap_in ?_
                    exact ap_go (by kernel_rfl) (sub_mk idn (by exact ⟨⟨_, rfl, ad_ren rfl⟩, ⟨_, rfl, ad_ren rfl⟩, ⟨_, rfl, ad_ren rfl⟩, ⟨_, rfl, ad_ren rfl⟩, ⟨_, rfl, ad_ren rfl⟩, ⟨_, rfl, ad_ren rfl⟩, ⟨_, rfl, ad_ren rfl⟩, ⟨_, rfl, ad_ren rfl⟩, ⟨_, rfl, ad_ren rfl⟩, ⟨_, rfl, ad_ren rfl⟩, ⟨_, rfl, ad_ren rfl⟩, ⟨_, rfl, ad_ren rfl⟩, ⟨_, rfl, ad_ren rfl⟩, ⟨_, rfl, ad_ren rfl⟩, trivial⟩) (by exact ⟨⟨_, rfl, ⟨rfl, trivial⟩⟩, ⟨_, rfl, rfl⟩, ⟨_, rfl, rfl⟩, ⟨_, rfl, ⟨rfl, trivial⟩⟩, ⟨_, rfl, ⟨rfl, trivial⟩⟩, trivial⟩) (by rfl) (nk rfl)) k981
                refine ap_pure 1 (by kernel_rfl) (fun _ _ _ h => h) rfl (by kernel_rfl) trivial (rp_move rfl) rfl ?_
                refine ap_pure 2 (by kernel_rfl) (fun _ _ _ h => h) rfl (by kernel_rfl) trivial (rp_move rfl) rfl ?_
                exact ap_go (by kernel_rfl) (sub_mk idn (by exact ⟨⟨_, rfl, ad_ren rfl⟩, ⟨_, rfl, ad_ren rfl⟩, ⟨_, rfl, ad_ren rfl⟩, ⟨_, rfl, ad_ren rfl⟩, ⟨_, rfl, ad_ren rfl⟩, ⟨_, rfl, ad_ren rfl⟩, ⟨_, rfl, ad_ren rfl⟩, ⟨_, rfl, ad_ren rfl⟩, ⟨_, rfl, ad_ren rfl⟩, ⟨_, rfl, ad_ren rfl⟩, ⟨_, rfl, ad_ren rfl⟩, ⟨_, rfl, ad_ren rfl⟩, ⟨_, rfl, ad_ren rfl⟩, trivial⟩) (by exact ⟨⟨_, rfl, ⟨rfl, trivial⟩⟩, ⟨_, rfl, rfl⟩, ⟨_, rfl, rfl⟩, ⟨_, rfl, ⟨rfl, trivial⟩⟩, trivial⟩) (by rfl) (nk rfl)) k968
            · have q965 := d_f hb963
              obtain rfl : d961 = 0 := by omega
              replace h := is_cnt0 h
              refine aw_exit ?_
              refine aq_then_exit ?_
              refine aq_then_exit ?_
              refine aq_in_exit ?_
              refine aq_then ?_
              refine aw_seq ?_
              refine aw_region ?_
              refine ao_read trivial (r_load_arr rfl Try.isAgg22 Try.sizeOf22 rfl rfl rfl) rfl ?_
              refine ao_read trivial (r_move rfl) rfl ?_
              obtain ⟨r1014, r1014h, h⟩ := is_bind h
              refine ao_scall trivial (scall (c_impl_ChanceOfCounts (is_mk r1014h)) rfl Try.func21 rfl rfl rfl rfl (fun σ => ⟨ad_ren rfl, ad_ren rfl, trivial⟩)) rfl ?_
              refine ao_read trivial (r_move rfl) rfl ?_
              refine ao_read trivial (r_extract rfl rfl) rfl ?_
              refine ao_read trivial (r_extract rfl rfl) rfl ?_
              refine ao_eff trivial (e_alloc 6 (y := .v (.arr 2 (.int .i64)) ((List.replicate 2 0) : (List Int))) Try.zeroValue39 (fun ρ h M => ra_zero_arr (t := (.int .i64)) rfl) rfl rfl rfl rfl rfl) rfl ?_
              refine ao_effS trivial (e_store rfl rfl rfl rfl Try.sizeOf39 rfl) ?_
              refine ao_read trivial (r_assign rfl) rfl ?_
              refine ao_nil ?_
              refine aq_then ?_
              refine aw_seq ?_
              obtain ⟨g1018, h⟩ := is_guard h
              obtain ⟨g1036, h⟩ := is_guard h
              obtain ⟨g1049, h⟩ := is_guard h
              obtain ⟨g1155, h⟩ := is_guard h
              refine aw_drawAll (by kernel_rfl) ?_
              refine an_read 0 (by kernel_rfl) (fun _ _ _ h => h) rfl (by kernel_rfl) trivial (r_move rfl) rfl ?_
              refine an_read 1 (by kernel_rfl) (fun _ _ _ h => h) rfl (by kernel_rfl) trivial (r_move rfl) rfl ?_
              refine an_readG 2 (x := .int .i64 s959.1) (by kernel_rfl) (fun _ _ _ h => h) rfl (by kernel_rfl) rfl (GV.T rfl) (fun hg1015 => r_move rfl) rfl ?_
              refine an_readG 3 (x := .int .i64 r20.2) (by kernel_rfl) (fun _ _ _ h => h) rfl (by kernel_rfl) rfl (GV.T rfl) (fun hg1016 => r_move rfl) rfl ?_
              refine an_scallG 4 (x := .int .i64 ((p_laws_vSix fu r20.2).getD 0)) (by kernel_rfl) (fun _ _ _ h => h) rfl (by kernel_rfl) rfl (GV.T rfl) (fun hg1017 => SCall.strip 353 rfl (hg1017) (scall (c_laws_vSix (is_mk (isSome_getD (g1018 hg1017)))) rfl Try.func34 rfl rfl rfl rfl (fun σ => ⟨ad_ren rfl, trivial⟩))) rfl ?_
              refine an_readG 5 (x := .bool (decide (s959.1 = ((p_laws_vSix fu r20.2).getD 0)))) (by kernel_rfl) (fun _ _ _ h => h) rfl (by kernel_rfl) rfl (GV.T rfl) (fun hg1019 => Reads.strip 352 rfl (hg1019) (Reads.strip 354 rfl (hg1019) (r_eql rfl rfl))) rfl ?_
              refine an_read 6 (by kernel_rfl) (fun _ _ _ h => h) rfl (by kernel_rfl) trivial (r_andB rfl rfl) rfl ?_
              refine an_read 7 (by kernel_rfl) (fun _ _ _ h => h) rfl (by kernel_rfl) trivial (r_move rfl) rfl ?_
              refine an_readG 8 (x := .elem 6 0 1 0) (by kernel_rfl) (fun _ _ _ h => h) rfl (by kernel_rfl) rfl (GV.T rfl) (fun hg1020 => by
                    obtain ⟨q1021, q1022⟩ := and_t hg1020
                    have q1023 : s959.1 = ((p_laws_vSix fu r20.2).getD 0) := d_t q1022
                    exact r_idxAddr_arr (i := 0) Try.underlying39 Try.sizeOf3 rfl rfl (show 0 ≤ 0 from by omega) (show 0 < (2 : Int) from by omega)) rfl ?_
              refine an_readG 9 (x := .int .i64 (r1014.1.getD 0 0)) (by kernel_rfl) (fun _ _ _ h => h) rfl (by kernel_rfl) rfl (GV.T rfl) (fun hg1024 => by
                    obtain ⟨q1025, q1026⟩ := and_t hg1024
                    have q1027 : s959.1 = ((p_laws_vSix fu r20.2).getD 0) := d_t q1026
                    exact Reads.strip 358 rfl (hg1024) (r_load_elema_int Try.isAgg3 Try.sizeOf3 rfl rfl rfl (show 0 < 2 from by omega))) rfl ?_
              refine an_readG 10 (x := .int .i64 r20.2) (by kernel_rfl) (fun _ _ _ h => h) rfl (by kernel_rfl) rfl (GV.T rfl) (fun hg1028 => by
                    obtain ⟨q1029, q1030⟩ := and_t hg1028
                    have q1031 : s959.1 = ((p_laws_vSix fu r20.2).getD 0) := d_t q1030
                    exact r_move rfl) rfl ?_
              refine an_scallG 11 (x := .int .i64 ((p_laws_vSix fu r20.2).getD 0)) (by kernel_rfl) (fun _ _ _ h => h) rfl (by kernel_rfl) rfl (GV.T rfl) (fun hg1032 => by
                    obtain ⟨q1033, q1034⟩ := and_t hg1032
                    have q1035 : s959.1 = ((p_laws_vSix fu r20.2).getD 0) := d_t q1034
                    exact SCall.strip 360 rfl (hg1032) (scall (c_laws_vSix (is_mk (isSome_getD (g1036 hg1032)))) rfl Try.func34 rfl rfl rfl rfl (fun σ => ⟨ad_ren rfl, trivial⟩))) rfl ?_
              refine an_readG 12 (x := .elem 6 0 1 1) (by kernel_rfl) (fun _ _ _ h => h) rfl (by kernel_rfl) rfl (GV.T rfl) (fun hg1037 => by
                    obtain ⟨q1038, q1039⟩ := and_t hg1037
                    have q1040 : s959.1 = ((p_laws_vSix fu r20.2).getD 0) := d_t q1039
                    exact r_idxAddr_arr (i := 1) Try.underlying39 Try.sizeOf3 rfl rfl (show 0 ≤ 1 from by omega) (show 1 < (2 : Int) from by omega)) rfl ?_
              refine an_readG 13 (x := .int .i64 (r1014.1.getD 1 0)) (by kernel_rfl) (fun _ _ _ h => h) rfl (by kernel_rfl) rfl (GV.T rfl) (fun hg1041 => by
                    obtain ⟨q1042, q1043⟩ := and_t hg1041
                    have q1044 : s959.1 = ((p_laws_vSix fu r20.2).getD 0) := d_t q1043
                    exact Reads.strip 362 rfl (hg1041) (r_load_elema_int Try.isAgg3 Try.sizeOf3 rfl rfl rfl (show 1 < 2 from by omega))) rfl ?_
              refine an_readG 14 (x := .int .i64 (IntKind.wrap .i64 (((p_laws_vSix fu r20.2).getD 0).tdiv (r1014.1.getD 1 0)))) (by kernel_rfl) (fun _ _ _ h => h) rfl (by kernel_rfl) rfl (GV.T rfl) (fun hg1045 => by
                    obtain ⟨q1046, q1047⟩ := and_t hg1045
                    have q1048 : s959.1 = ((p_laws_vSix fu r20.2).getD 0) := d_t q1047
                    exact Reads.strip 361 rfl (hg1045) (Reads.strip 363 rfl (hg1045) (r_quo rfl rfl (g1049 hg1045)))) rfl ?_
              refine an_readG 15 (x := .int .i64 (IntKind.wrap .i64 ((r1014.1.getD 0 0) * (IntKind.wrap .i64 (((p_laws_vSix fu r20.2).getD 0).tdiv (r1014.1.getD 1 0)))))) (by kernel_rfl) (fun _ _ _ h => h) rfl (by kernel_rfl) rfl (GV.T rfl) (fun hg1050 => by
                    obtain ⟨q1051, q1052⟩ := and_t hg1050
                    have q1053 : s959.1 = ((p_laws_vSix fu r20.2).getD 0) := d_t q1052
                    exact Reads.strip 359 rfl (hg1050) (Reads.strip 364 rfl (hg1050) (r_mul rfl rfl))) rfl ?_
              refine an_readG 16 (x := .int .i64 s959.2.1) (by kernel_rfl) (fun _ _ _ h => h) rfl (by kernel_rfl) rfl (GV.T rfl) (fun hg1054 => by
                    obtain ⟨q1055, q1056⟩ := and_t hg1054
                    have q1057 : s959.1 = ((p_laws_vSix fu r20.2).getD 0) := d_t q1056
                    exact r_move rfl) rfl ?_
              refine an_readG 17 (x := .bool (decide ((IntKind.wrap .i64 ((r1014.1.getD 0 0) * (IntKind.wrap .i64 (((p_laws_vSix fu r20.2).getD 0).tdiv (r1014.1.getD 1 0))))) = s959.2.1))) (by kernel_rfl) (fun _ _ _ h => h) rfl (by kernel_rfl) rfl (GV.T rfl) (fun hg1058 => by
                    obtain ⟨q1059, q1060⟩ := and_t hg1058
                    have q1061 : s959.1 = ((p_laws_vSix fu r20.2).getD 0) := d_t q1060
                    exact Reads.strip 365 rfl (hg1058) (Reads.strip 366 rfl (hg1058) (r_eql rfl rfl))) rfl ?_
              refine an_read 18 (by kernel_rfl) (fun _ _ _ h => h) rfl (by kernel_rfl) trivial (r_andB rfl rfl) rfl ?_
              refine an_read 19 (by kernel_rfl) (fun _ _ _ h => h) rfl (by kernel_rfl) trivial (r_move rfl) rfl ?_
              refine an_readG 20 (x := .bool r27.2) (by kernel_rfl) (fun _ _ _ h => h) rfl (by kernel_rfl) rfl (GV.T rfl) (fun hg1062 => by
                    obtain ⟨q1063, q1064⟩ := and_t hg1062
                    obtain ⟨q1065, q1066⟩ := and_t q1063
                    have q1067 : s959.1 = ((p_laws_vSix fu r20.2).getD 0) := d_t q1066
                    have q1068 : (IntKind.wrap .i64 ((r1014.1.getD 0 0) * (IntKind.wrap .i64 (((p_laws_vSix fu r20.2).getD 0).tdiv (r1014.1.getD 1 0))))) = s959.2.1 := d_t q1064
                    exact r_move rfl) rfl ?_
              refine an_readG 21 (x := .bool (!r27.2)) (by kernel_rfl) (fun _ _ _ h => h) rfl (by kernel_rfl) rfl (GV.T rfl) (fun hg1069 => by
                    obtain ⟨q1070, q1071⟩ := and_t hg1069
                    obtain ⟨q1072, q1073⟩ := and_t q1070
                    have q1074 : s959.1 = ((p_laws_vSix fu r20.2).getD 0) := d_t q1073
                    have q1075 : (IntKind.wrap .i64 ((r1014.1.getD 0 0) * (IntKind.wrap .i64 (((p_laws_vSix fu r20.2).getD 0).tdiv (r1014.1.getD 1 0))))) = s959.2.1 := d_t q1071
                    exact Reads.strip 370 rfl (hg1069) (r_not rfl)) rfl ?_
              refine an_readG 22 (x := .bool (!r27.2)) (by kernel_rfl) (fun _ _ _ h => h) rfl (by kernel_rfl) rfl (GV.T rfl) (fun hg1076 => by
                    obtain ⟨q1077, q1078⟩ := and_t hg1076
                    obtain ⟨q1079, q1080⟩ := and_t q1077
                    have q1081 : s959.1 = ((p_laws_vSix fu r20.2).getD 0) := d_t q1080
                    have q1082 : (IntKind.wrap .i64 ((r1014.1.getD 0 0) * (IntKind.wrap .i64 (((p_laws_vSix fu r20.2).getD 0).tdiv (r1014.1.getD 1 0))))) = s959.2.1 := d_t q1078
                    exact Reads.strip 371 rfl (hg1076) (r_move rfl)) rfl ?_
              refine an_readG 23 (x := .int .i64 s959.2.2) (by kernel_rfl) (fun _ _ _ h => h) rfl (by kernel_rfl) rfl (GV.gF rfl) (fun hg1083 => by
                    obtain ⟨q1084, q1085⟩ := and_t hg1083
                    obtain ⟨q1086, q1087⟩ := and_t q1084
                    obtain ⟨q1088, q1089⟩ := and_t q1086
                    have q1090 : s959.1 = ((p_laws_vSix fu r20.2).getD 0) := d_t q1089
                    have q1091 : (IntKind.wrap .i64 ((r1014.1.getD 0 0) * (IntKind.wrap .i64 (((p_laws_vSix fu r20.2).getD 0).tdiv (r1014.1.getD 1 0))))) = s959.2.1 := d_t q1087
                    exact r_move rfl) rfl ?_
              refine an_readG 24 (x := .elem 3 0 1 1) (by kernel_rfl) (fun _ _ _ h => h) rfl (by kernel_rfl) rfl (GV.gF rfl) (fun hg1092 => by
                    obtain ⟨q1093, q1094⟩ := and_t hg1092
                    obtain ⟨q1095, q1096⟩ := and_t q1093
                    obtain ⟨q1097, q1098⟩ := and_t q1095
                    have q1099 : s959.1 = ((p_laws_vSix fu r20.2).getD 0) := d_t q1098
                    have q1100 : (IntKind.wrap .i64 ((r1014.1.getD 0 0) * (IntKind.wrap .i64 (((p_laws_vSix fu r20.2).getD 0).tdiv (r1014.1.getD 1 0))))) = s959.2.1 := d_t q1096
                    exact r_idxAddr_arr (i := 1) Try.underlying39 Try.sizeOf3 rfl rfl (show 0 ≤ 1 from by omega) (show 1 < (2 : Int) from by omega)) rfl ?_
              refine an_readG 25 (x := .int .i64 (r27.1.getD 1 0)) (by kernel_rfl) (fun _ _ _ h => h) rfl (by kernel_rfl) rfl (GV.gF rfl) (fun hg1101 => by
                    obtain ⟨q1102, q1103⟩ := and_t hg1101
                    obtain ⟨q1104, q1105⟩ := and_t q1102
                    obtain ⟨q1106, q1107⟩ := and_t q1104
                    have q1108 : s959.1 = ((p_laws_vSix fu r20.2).getD 0) := d_t q1107
                    have q1109 : (IntKind.wrap .i64 ((r1014.1.getD 0 0) * (IntKind.wrap .i64 (((p_laws_vSix fu r20.2).getD 0).tdiv (r1014.1.getD 1 0))))) = s959.2.1 := d_t q1105
                    exact Reads.strip 374 rfl (hg1101) (r_load_elema_int Try.isAgg3 Try.sizeOf3 rfl rfl rfl (show 1 < 2 from by omega))) rfl ?_
              refine an_readG 26 (x := .int .i64 (IntKind.wrap .i64 (s959.2.2 * (r27.1.getD 1 0)))) (by kernel_rfl) (fun _ _ _ h => h) rfl (by kernel_rfl) rfl (GV.gF rfl) (fun hg1110 => by
                    obtain ⟨q1111, q1112⟩ := and_t hg1110
                    obtain ⟨q1113, q1114⟩ := and_t q1111
                    obtain ⟨q1115, q1116⟩ := and_t q1113
                    have q1117 : s959.1 = ((p_laws_vSix fu r20.2).getD 0) := d_t q1116
                    have q1118 : (IntKind.wrap .i64 ((r1014.1.getD 0 0) * (IntKind.wrap .i64 (((p_laws_vSix fu r20.2).getD 0).tdiv (r1014.1.getD 1 0))))) = s959.2.1 := d_t q1114
                    exact Reads.strip 373 rfl (hg1110) (Reads.strip 375 rfl (hg1110) (r_mul rfl rfl))) rfl ?_
              refine an_readG 27 (x := .elem 3 0 1 0) (by kernel_rfl) (fun _ _ _ h => h) rfl (by kernel_rfl) rfl (GV.gF rfl) (fun hg1119 => by
                    obtain ⟨q1120, q1121⟩ := and_t hg1119
                    obtain ⟨q1122, q1123⟩ := and_t q1120
                    obtain ⟨q1124, q1125⟩ := and_t q1122
                    have q1126 : s959.1 = ((p_laws_vSix fu r20.2).getD 0) := d_t q1125
                    have q1127 : (IntKind.wrap .i64 ((r1014.1.getD 0 0) * (IntKind.wrap .i64 (((p_laws_vSix fu r20.2).getD 0).tdiv (r1014.1.getD 1 0))))) = s959.2.1 := d_t q1123
                    exact r_idxAddr_arr (i := 0) Try.underlying39 Try.sizeOf3 rfl rfl (show 0 ≤ 0 from by omega) (show 0 < (2 : Int) from by omega)) rfl ?_
              refine an_readG 28 (x := .int .i64 (r27.1.getD 0 0)) (by kernel_rfl) (fun _ _ _ h => h) rfl (by kernel_rfl) rfl (GV.gF rfl) (fun hg1128 => by
                    obtain ⟨q1129, q1130⟩ := and_t hg1128
                    obtain ⟨q1131, q1132⟩ := and_t q1129
                    obtain ⟨q1133, q1134⟩ := and_t q1131
                    have q1135 : s959.1 = ((p_laws_vSix fu r20.2).getD 0) := d_t q1134
                    have q1136 : (IntKind.wrap .i64 ((r1014.1.getD 0 0) * (IntKind.wrap .i64 (((p_laws_vSix fu r20.2).getD 0).tdiv (r1014.1.getD 1 0))))) = s959.2.1 := d_t q1132
                    exact Reads.strip 377 rfl (hg1128) (r_load_elema_int Try.isAgg3 Try.sizeOf3 rfl rfl rfl (show 0 < 2 from by omega))) rfl ?_
              refine an_readG 29 (x := .int .i64 r20.2) (by kernel_rfl) (fun _ _ _ h => h) rfl (by kernel_rfl) rfl (GV.gF rfl) (fun hg1137 => by
                    obtain ⟨q1138, q1139⟩ := and_t hg1137
                    obtain ⟨q1140, q1141⟩ := and_t q1138
                    obtain ⟨q1142, q1143⟩ := and_t q1140
                    have q1144 : s959.1 = ((p_laws_vSix fu r20.2).getD 0) := d_t q1143
                    have q1145 : (IntKind.wrap .i64 ((r1014.1.getD 0 0) * (IntKind.wrap .i64 (((p_laws_vSix fu r20.2).getD 0).tdiv (r1014.1.getD 1 0))))) = s959.2.1 := d_t q1141
                    exact r_move rfl) rfl ?_
              refine an_scallG 30 (x := .int .i64 ((p_laws_vSix fu r20.2).getD 0)) (by kernel_rfl) (fun _ _ _ h => h) rfl (by kernel_rfl) rfl (GV.gF rfl) (fun hg1146 => by
                    obtain ⟨q1147, q1148⟩ := and_t hg1146
                    obtain ⟨q1149, q1150⟩ := and_t q1147
                    obtain ⟨q1151, q1152⟩ := and_t q1149
                    have q1153 : s959.1 = ((p_laws_vSix fu r20.2).getD 0) := d_t q1152
                    have q1154 : (IntKind.wrap .i64 ((r1014.1.getD 0 0) * (IntKind.wrap .i64 (((p_laws_vSix fu r20.2).getD 0).tdiv (r1014.1.getD 1 0))))) = s959.2.1 := d_t q1150
                    exact SCall.strip 379 rfl (hg1146) (scall (c_laws_vSix (is_mk (isSome_getD (g1155 hg1146)))) rfl Try.func34 rfl rfl rfl rfl (fun σ => ⟨ad_ren rfl, trivial⟩))) rfl ?_
              refine an_readG 31 (x := .int .i64 (IntKind.wrap .i64 ((r27.1.getD 0 0) * ((p_laws_vSix fu r20.2).getD 0)))) (by kernel_rfl) (fun _ _ _ h => h) rfl (by kernel_rfl) rfl (GV.gF rfl) (fun hg1156 => by
                    obtain ⟨q1157, q1158⟩ := and_t hg1156
                    obtain ⟨q1159, q1160⟩ := and_t q1157
                    obtain ⟨q1161, q1162⟩ := and_t q1159
                    have q1163 : s959.1 = ((p_laws_vSix fu r20.2).getD 0) := d_t q1162
                    have q1164 : (IntKind.wrap .i64 ((r1014.1.getD 0 0) * (IntKind.wrap .i64 (((p_laws_vSix fu r20.2).getD 0).tdiv (r1014.1.getD 1 0))))) = s959.2.1 := d_t q1160
                    exact Reads.strip 378 rfl (hg1156) (Reads.strip 380 rfl (hg1156) (r_mul rfl rfl))) rfl ?_
              refine an_readG 32 (x := .int .i64 (IntKind.wrap .i64 ((IntKind.wrap .i64 ((r27.1.getD 0 0) * ((p_laws_vSix fu r20.2).getD 0))) * 360))) (by kernel_rfl) (fun _ _ _ h => h) rfl (by kernel_rfl) rfl (GV.gF rfl) (fun hg1165 => by
                    obtain ⟨q1166, q1167⟩ := and_t hg1165
                    obtain ⟨q1168, q1169⟩ := and_t q1166
                    obtain ⟨q1170, q1171⟩ := and_t q1168
                    have q1172 : s959.1 = ((p_laws_vSix fu r20.2).getD 0) := d_t q1171
                    have q1173 : (IntKind.wrap .i64 ((r1014.1.getD 0 0) * (IntKind.wrap .i64 (((p_laws_vSix fu r20.2).getD 0).tdiv (r1014.1.getD 1 0))))) = s959.2.1 := d_t q1169
                    exact Reads.strip 381 rfl (hg1165) (r_mul rfl rfl)) rfl ?_
              refine an_readG 33 (x := .int .i64 r20.2) (by kernel_rfl) (fun _ _ _ h => h) rfl (by kernel_rfl) rfl (GV.gF rfl) (fun hg1174 => by
                    obtain ⟨q1175, q1176⟩ := and_t hg1174
                    obtain ⟨q1177, q1178⟩ := and_t q1175
                    obtain ⟨q1179, q1180⟩ := and_t q1177
                    have q1181 : s959.1 = ((p_laws_vSix fu r20.2).getD 0) := d_t q1180
                    have q1182 : (IntKind.wrap .i64 ((r1014.1.getD 0 0) * (IntKind.wrap .i64 (((p_laws_vSix fu r20.2).getD 0).tdiv (r1014.1.getD 1 0))))) = s959.2.1 := d_t q1178
                    exact r_move rfl) rfl ?_
              refine an_readG 34 (x := .int .i64 (IntKind.wrap .i64 ((IntKind.wrap .i64 ((IntKind.wrap .i64 ((r27.1.getD 0 0) * ((p_laws_vSix fu r20.2).getD 0))) * 360)) * r20.2))) (by kernel_rfl) (fun _ _ _ h => h) rfl (by kernel_rfl) rfl (GV.gF rfl) (fun hg1183 => by
                    obtain ⟨q1184, q1185⟩ := and_t hg1183
                    obtain ⟨q1186, q1187⟩ := and_t q1184
                    obtain ⟨q1188, q1189⟩ := and_t q1186
                    have q1190 : s959.1 = ((p_laws_vSix fu r20.2).getD 0) := d_t q1189
                    have q1191 : (IntKind.wrap .i64 ((r1014.1.getD 0 0) * (IntKind.wrap .i64 (((p_laws_vSix fu r20.2).getD 0).tdiv (r1014.1.getD 1 0))))) = s959.2.1 := d_t q1187
                    exact Reads.strip 382 rfl (hg1183) (Reads.strip 383 rfl (hg1183) (r_mul rfl rfl))) rfl ?_
              refine an_readG 35 (x := .bool (decide ((IntKind.wrap .i64 (s959.2.2 * (r27.1.getD 1 0))) = (IntKind.wrap .i64 ((IntKind.wrap .i64 ((IntKind.wrap .i64 ((r27.1.getD 0 0) * ((p_laws_vSix fu r20.2).getD 0))) * 360)) * r20.2))))) (by kernel_rfl) (fun _ _ _ h => h) rfl (by kernel_rfl) rfl (GV.gF rfl) (fun hg1192 => by
                    obtain ⟨q1193, q1194⟩ := and_t hg1192
                    obtain ⟨q1195, q1196⟩ := and_t q1193
                    obtain ⟨q1197, q1198⟩ := and_t q1195
                    have q1199 : s959.1 = ((p_laws_vSix fu r20.2).getD 0) := d_t q1198
                    have q1200 : (IntKind.wrap .i64 ((r1014.1.getD 0 0) * (IntKind.wrap .i64 (((p_laws_vSix fu r20.2).getD 0).tdiv (r1014.1.getD 1 0))))) = s959.2.1 := d_t q1196
                    exact Reads.strip 376 rfl (hg1192) (Reads.strip 384 rfl (hg1192) (r_eql rfl rfl))) rfl ?_
              refine an_readG 36 (x := .bool ((!r27.2) || (decide ((IntKind.wrap .i64 (s959.2.2 * (r27.1.getD 1 0))) = (IntKind.wrap .i64 ((IntKind.wrap .i64 ((IntKind.wrap .i64 ((r27.1.getD 0 0) * ((p_laws_vSix fu r20.2).getD 0))) * 360)) * r20.2)))))) (by kernel_rfl) (fun _ _ _ h => h) rfl (by kernel_rfl) rfl (GV.T rfl) (fun hg1201 => by
                    obtain ⟨q1202, q1203⟩ := and_t hg1201
                    obtain ⟨q1204, q1205⟩ := and_t q1202
                    have q1206 : s959.1 = ((p_laws_vSix fu r20.2).getD 0) := d_t q1205
                    have q1207 : (IntKind.wrap .i64 ((r1014.1.getD 0 0) * (IntKind.wrap .i64 (((p_laws_vSix fu r20.2).getD 0).tdiv (r1014.1.getD 1 0))))) = s959.2.1 := d_t q1203
                    exact Reads.strip 372 rfl (hg1201) (r_orBg rfl rfl (tr_and (hg1201)))) rfl ?_
              refine an_read 37 (by kernel_rfl) (fun _ _ _ h => h) rfl (by kernel_rfl) trivial (r_andB rfl rfl) rfl ?_
              refine an_read 38 (by kernel_rfl) (fun _ _ _ h => h) rfl (by kernel_rfl) trivial (r_assign rfl) rfl ?_
              refine an_done rfl ?_
              refine aq_then ?_
              refine aw_ret ?_
              refine aq_ret ?_
              obtain rfl := is_some h
              exact aq_finx (l := [.tmp 2]) (xs := [.bool (((r1014.2 && (decide (s959.1 = ((p_laws_vSix fu r20.2).getD 0)))) && (decide ((IntKind.wrap .i64 ((r1014.1.getD 0 0) * (IntKind.wrap .i64 (((p_laws_vSix fu r20.2).getD 0).tdiv (r1014.1.getD 1 0))))) = s959.2.1))) && ((!r27.2) || (decide ((IntKind.wrap .i64 (s959.2.2 * (r27.1.getD 1 0))) = (IntKind.wrap .i64 ((IntKind.wrap .i64 ((IntKind.wrap .i64 ((r27.1.getD 0 0) * ((p_laws_vSix fu r20.2).getD 0))) * 360)) * r20.2))))))]) idn [.bool (((r1014.2 && (decide (s959.1 = ((p_laws_vSix fu r20.2).getD 0)))) && (decide ((IntKind.wrap .i64 ((r1014.1.getD 0 0) * (IntKind.wrap .i64 (((p_laws_vSix fu r20.2).getD 0).tdiv (r1014.1.getD 1 0))))) = s959.2.1))) && ((!r27.2) || (decide ((IntKind.wrap .i64 (s959.2.2 * (r27.1.getD 1 0))) = (IntKind.wrap .i64 ((IntKind.wrap .i64 ((IntKind.wrap .i64 ((r27.1.getD 0 0) * ((p_laws_vSix fu r20.2).getD 0))) * 360)) * r20.2))))))] [] rfl (by exact ⟨rfl, trivial⟩) (by exact ⟨ad_ren rfl, trivial⟩) (by exact trivial) rfl (nk rfl) rfl rfl ⟨rfl, rfl⟩
        · refine aw_seq ?_
          refine aw_region ?_
          refine ao_read trivial (r_move rfl) rfl ?_
          refine ao_nil ?_
          refine aq_then ?_
          refine aw_cond rfl (fun hb1208 => ?_) (fun hb1208 => ?_)
          · replace h := is_if hb1208 h
            refine aw_seq ?_
            refine aw_region ?_
            refine ao_read trivial (r_assign rfl) rfl ?_
            refine ao_nil ?_
            refine aq_then ?_
            refine aw_seq ?_
            refine aw_seq ?_
            refine aw_region ?_
            refine ao_read trivial (r_assign rfl) rfl ?_
            refine ao_nil ?_
            refine aq_then ?_
            refine aw_block ?_
            refine aw_loop (AL.sub (fr' := [(18, .os 0), (19, .os 1), (23, .ref 2 0), (24, .int .i64 r20.2), (25, .os 3), (26, .bool r21.2), (27, .os 4), (29, .v (.slice (.int .i64)) r25.1), (33, .ref 5 0), (34, .bool r27.2), (37, .int .i64 0), (38, .int .i64 0)]) (H' := [(0, .row (.int .i64) r12.2), (1, .row (.int .i64) r14.1), (2, .var [.arr (.int .i64) 6 r20.1]), (3, .row (.slice (.int .i64)) r21.1), (4, .row (.slice (.int .i64)) r23.1), (5, .var [.arr (.int .i64) 2 r27.1])]) (sub_mk (rn [(0, 9), (1, 11), (2, 14), (3, 15), (4, 16), (5, 17)]) (by exact ⟨⟨_, rfl, ad_ren rfl⟩, ⟨_, rfl, ad_ren rfl⟩, ⟨_, rfl, ad_ren rfl⟩, ⟨_, rfl, ad_ren rfl⟩, ⟨_, rfl, ad_ren rfl⟩, ⟨_, rfl, ad_ren rfl⟩, ⟨_, rfl, ad_ren rfl⟩, ⟨_, rfl, ad_ren rfl⟩, ⟨_, rfl, ad_ren rfl⟩, ⟨_, rfl, ad_ren rfl⟩, ⟨_, rfl, ad_ren rfl⟩, ⟨_, rfl, ad_ren rfl⟩, trivial⟩) (by exact ⟨⟨_, rfl, rfl⟩, ⟨_, rfl, rfl⟩, ⟨_, rfl, ⟨rfl, trivial⟩⟩, ⟨_, rfl, rfl⟩, ⟨_, rfl, rfl⟩, ⟨_, rfl, ⟨rfl, trivial⟩⟩, trivial⟩) (by rfl) (nk rfl)) (al_cnt (fun i1210 (s1209 : Int) => [(18, .os 0), (19, .os 1), (23, .ref 2 0), (24, .int .i64 r20.2), (25, .os 3), (26, .bool r21.2), (27, .os 4), (29, .v (.slice (.int .i64)) r25.1), (33, .ref 5 0), (34, .bool r27.2), (37, .int .i64 s1209), (38, .int .i64 i1210)]) (fun i1210 (s1209 : Int) => [(0, .row (.int .i64) r12.2), (1, .row (.int .i64) r14.1), (2, .var [.arr (.int .i64) 6 r20.1]), (3, .row (.slice (.int .i64)) r21.1), (4, .row (.slice (.int .i64)) r23.1), (5, .var [.arr (.int .i64) 2 r27.1])]) (fun d i1210 (s1209 : Int) => d = Int.toNat ((r14.1.length : Int) - i1210) ∧ 0 ≤ i1210 ∧ i1210 ≤ (r14.1.length : Int)) h ⟨rfl, (by (try simp only [List.length_set, List.length_append, List.length_cons, List.length_nil, List.length_replicate, List.length_take, List.length_drop]) <;> omega), (by (try simp only [List.length_set, List.length_append, List.length_cons, List.length_nil, List.length_replicate, List.length_take, List.length_drop]) <;> omega)⟩ (fun d1211 i1210 s1209 hI h ih1211 => ?_)))
            obtain ⟨hd, _, _⟩ := hI
            refine al_round ?_
            refine aw_seq ?_
            refine aw_seq ?_
            refine aw_region ?_
            refine ao_read trivial (r_move rfl) rfl ?_
            refine ao_read trivial (r_move rfl) rfl ?_
            refine ao_read trivial (r_len_osm (r14.1.length : Int) Try.underlying30 rfl rfl rfl) rfl ?_
            refine ao_read trivial (r_lss rfl rfl) rfl ?_
            refine ao_nil ?_
            refine aq_then ?_
            refine aw_cond rfl (fun hb1213 => ?_) (fun hb1213 => ?_)
            · have q1214 := d_t hb1213
              obtain ⟨d1211, rfl⟩ : ∃ e, d1211 = e + 1 := ⟨d1211 - 1, by omega⟩
              replace h := is_cntS h
              refine aw_skip ?_
              refine aq_then ?_
              refine aw_seq ?_
              refine aw_block ?_
              refine aw_region ?_
              refine ao_read trivial (r_move rfl) rfl ?_
              refine ao_read trivial (r_move rfl) rfl ?_
              refine ao_read trivial (r_move rfl) rfl ?_
              refine ao_read trivial (r_idxAddr_os Try.underlying30 Try.sizeOf3 rfl rfl rfl (show 0 ≤ i1210 from by omega) (show i1210 < (r14.1.length : Int) from by omega)) rfl ?_
              refine ao_read trivial (r_load_elem_int Try.isAgg3 Try.sizeOf3 rfl rfl (show i1210.toNat < r14.1.length from by omega)) rfl ?_
              refine ao_read trivial (r_add rfl rfl) rfl ?_
              refine ao_read trivial (r_assign rfl) rfl ?_
              refine ao_nil ?_
              refine aq_in ?_
              refine aq_then ?_
              refine aw_region ?_
              refine ao_read trivial (r_move rfl) rfl ?_
              refine ao_read trivial (r_addI rfl rfl (wrap_id (by omega) (by omega))) rfl ?_
              refine ao_read trivial (r_assign rfl) rfl ?_
              refine ao_nil ?_
              exact aq_again (AL.sub (sub_mk idn (by exact ⟨⟨_, rfl, ad_ren rfl⟩, ⟨_, rfl, ad_ren rfl⟩, ⟨_, rfl, ad_ren rfl⟩, ⟨_, rfl, ad_ren rfl⟩, ⟨_, rfl, ad_ren rfl⟩, ⟨_, rfl, ad_ren rfl⟩, ⟨_, rfl, ad_ren rfl⟩, ⟨_, rfl, ad_ren rfl⟩, ⟨_, rfl, ad_ren rfl⟩, ⟨_, rfl, ad_ren rfl⟩, ⟨_, rfl, ad_ren rfl⟩, ⟨_, rfl, ad_ren rfl⟩, trivial⟩) (by exact ⟨⟨_, rfl, rfl⟩, ⟨_, rfl, rfl⟩, ⟨_, rfl, ⟨rfl, trivial⟩⟩, ⟨_, rfl, rfl⟩, ⟨_, rfl, rfl⟩, ⟨_, rfl, ⟨rfl, trivial⟩⟩, trivial⟩) (by rfl) (nk rfl)) (ih1211 d1211 (i1210 + 1) (IntKind.wrap .i64 (s1209 + (r14.1.getD i1210.toNat 0))) (by omega) ⟨by omega, (by (try simp only [List.length_set, List.length_append, List.length_cons, List.length_nil, List.length_replicate, List.length_take, List.length_drop]) <;> omega), (by (try simp only [List.length_set, List.length_append, List.length_cons, List.length_nil, List.length_replicate, List.length_take, List.length_drop]) <;> omega)⟩ h))
            · have q1215 := d_f hb1213
              obtain rfl : d1211 = 0 := by omega
              replace h := is_cnt0 h
              refine aw_exit ?_
              refine aq_then_exit ?_
              refine aq_then_exit ?_
              refine aq_in_exit ?_
              refine aq_then ?_
              refine aw_seq ?_
              refine aw_region ?_
              refine ao_read trivial (r_move rfl) rfl ?_
              refine ao_read trivial (r_move rfl) rfl ?_
              refine ao_read trivial (r_len_osm (r12.2.length : Int) Try.underlying30 rfl rfl rfl) rfl ?_
              refine ao_read trivial (r_neq rfl rfl) rfl ?_
              refine ao_nil ?_
              refine aq_then ?_
              refine aw_cond rfl (fun hb1216 => ?_) (fun hb1216 => ?_)
              · have q1217 := d_f (not_t hb1216)
                replace h := is_else (d_f (not_t hb1216)) h
                refine aw_seq ?_
                refine aw_region ?_
                refine ao_read trivial (r_assign rfl) rfl ?_
                refine ao_nil ?_
                refine aq_then ?_
                refine aw_ret ?_
                refine aq_then_ret ?_
                refine aq_ret ?_
                obtain rfl := is_some h
                exact aq_finx (l := [.tmp 2]) (xs := [.bool false]) idn [.bool false] [] rfl (by exact ⟨rfl, trivial⟩) (by exact ⟨ad_ren rfl, trivial⟩) (by exact trivial) rfl (nk rfl) rfl rfl ⟨rfl, rfl⟩
              · have q1218 := d_t (not_f hb1216)
                replace h := is_if (d_t (not_f hb1216)) h
                refine aw_skip ?_
                exact aq_then (AW.sub (sub_mk (rn [(0, 2), (1, 3), (2, 4), (3, 5)]) (by exact ⟨⟨_, rfl, ad_ren rfl⟩, ⟨_, rfl, ad_ren rfl⟩, ⟨_, rfl, ad_ren rfl⟩, ⟨_, rfl, ad_ren rfl⟩, ⟨_, rfl, ad_ren rfl⟩, ⟨_, rfl, ad_ren rfl⟩, ⟨_, rfl, ad_ren rfl⟩, ⟨_, rfl, ad_ren rfl⟩, trivial⟩) (by exact ⟨⟨_, rfl, ⟨rfl, trivial⟩⟩, ⟨_, rfl, rfl⟩, ⟨_, rfl, rfl⟩, ⟨_, rfl, ⟨rfl, trivial⟩⟩, trivial⟩) (by rfl) (nk rfl)) (j957 () trivial h))
          · replace h := is_else (ne_t hb1208) h
            refine aw_skip ?_
            exact aq_then (AW.sub (sub_mk (rn [(0, 14), (1, 15), (2, 16), (3, 17)]) (by exact ⟨⟨_, rfl, ad_ren rfl⟩, ⟨_, rfl, ad_ren rfl⟩, ⟨_, rfl, ad_ren rfl⟩, ⟨_, rfl, ad_ren rfl⟩, ⟨_, rfl, ad_ren rfl⟩, ⟨_, rfl, ad_ren rfl⟩, ⟨_, rfl, ad_ren rfl⟩, ⟨_, rfl, ad_ren rfl⟩, trivial⟩) (by exact ⟨⟨_, rfl, ⟨rfl, trivial⟩⟩, ⟨_, rfl, rfl⟩, ⟨_, rfl, rfl⟩, ⟨_, rfl, ⟨rfl, trivial⟩⟩, trivial⟩) (by rfl) (nk rfl)) (j957 () trivial h))
end Go.GA
