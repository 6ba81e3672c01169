/- Walks: what the Go functions compute, by the printed lines below; no further conditions. -/
import Derived.Test.YtheplbbbfbbjcaaC2swb
namespace Go.GA
open Go Go.Proofs
set_option maxRecDepth 100000
set_option maxHeartbeats 2000000
set_option linter.unusedVariables false
set_option linter.unusedSimpArgs false
theorem c_laws_FnSumsOfDice {fu : Nat} {x0 : (List Int)} {r : Bool} (h : Is (p_laws_FnSumsOfDice fu x0) (some r)) :
    Scalar Try.prog 3 [.v (.slice (.int .u8)) x0] (.bool r) := by
  unfold p_laws_FnSumsOfDice at h
  refine ac_enter ⟨404, 0⟩ Try.func3 rfl rfl rfl rfl rfl (fun Γ => ?_)
  refine sl_len_m 0 (x0.length : Int) rfl rfl (fun hl0 => ?_)
  refine aw_seq ?_
  refine aw_region ?_
  refine ao_read trivial (r_assign rfl) rfl ?_
  refine ao_nil ?_
  refine aq_then ?_
  refine aw_seq ?_
  refine aw_seq ?_
  refine aw_region ?_
  refine ao_read trivial (r_move rfl) rfl ?_
  refine ao_scall trivial (scall (c_laws_vBig (is_mk (rfl : p_laws_vBig x0 = _))) rfl Try.func8 rfl rfl rfl rfl (fun σ => ⟨ad_ren rfl, trivial⟩)) rfl ?_
  refine ao_nil ?_
  refine aq_then ?_
  refine aw_cond rfl (fun hb1 => ?_) (fun hb1 => ?_)
  · replace h := is_if hb1 h
    refine aw_seq ?_
    refine aw_region ?_
    refine ao_read trivial (r_assign rfl) rfl ?_
    refine ao_nil ?_
    refine aq_then ?_
    refine aw_ret ?_
    refine aq_then_ret ?_
    refine aq_ret ?_
    obtain rfl := is_some h
    exact aq_finx (l := [.tmp 2]) (xs := [.bool true]) idn [.bool true] [] rfl (by exact ⟨rfl, trivial⟩) (by exact ⟨ad_ren rfl, trivial⟩) (by exact trivial) rfl (nk rfl) rfl rfl ⟨rfl, rfl⟩
  · replace h := is_else (ne_t hb1) h
    refine aw_skip ?_
    refine aq_then ?_
    refine aw_seq ?_
    refine aw_region ?_
    refine ao_read trivial (r_move rfl) rfl ?_
    obtain ⟨r2, r2h, h⟩ := is_bind h
    refine ao_callV [] 0 trivial (c_spec_DrawChanceOfSum (is_mk r2h)) Try.func9 rfl rfl rfl rfl rfl trivial trivial rfl rfl rfl rfl rfl rfl rfl (fun r' H' hr => ?_)
    obtain ⟨rfl, rfl⟩ := hr
    refine ao_norm (y := .tup [.v (.slice (.arr 6 (.int .i64))) r2.1, .int .i64 r2.2]) (H' := []) rfl rfl ?_
    refine ao_read trivial (r_move rfl) rfl ?_
    refine ao_read trivial (r_extract rfl rfl) rfl ?_
    refine ao_read trivial (r_extract rfl rfl) rfl ?_
    refine ao_read trivial (r_assign rfl) rfl ?_
    refine ao_read trivial (r_assign rfl) rfl ?_
    refine ao_nil ?_
    refine aq_then ?_
    refine aw_seq ?_
    refine aw_region ?_
    refine ao_read trivial (r_move rfl) rfl ?_
    obtain ⟨r3, r3h, h⟩ := is_bind h
    refine ao_scall trivial (scall (c_impl_SumTable (is_mk r3h)) rfl Try.func10 rfl rfl rfl rfl (fun σ => ⟨ad_ren rfl, trivial⟩)) rfl ?_
    refine ao_read trivial (r_move rfl) rfl ?_
    refine ao_read trivial (r_extract rfl rfl) rfl ?_
    refine ao_read trivial (r_extract rfl rfl) rfl ?_
    refine ao_eff trivial (e_alloc 0 (y := .v (.arr 121 (.int .i64)) ((List.replicate 121 0) : (List Int))) Try.zeroValue27 (fun ρ h M => ra_zero_arr (t := (.int .i64)) rfl) rfl rfl rfl rfl rfl) rfl ?_
    refine ao_effS trivial (e_store rfl rfl rfl rfl Try.sizeOf27 rfl) ?_
    refine ao_read trivial (r_assign rfl) rfl ?_
    refine ao_nil ?_
    refine aq_then ?_
    refine aw_seq ?_
    refine aw_region ?_
    refine ao_read trivial (r_move rfl) rfl ?_
    obtain ⟨r4, r4h, h⟩ := is_bind h
    refine ao_scall trivial (scall (c_spec_SumTable (is_mk r4h)) rfl Try.func11 rfl rfl rfl rfl (fun σ => ⟨ad_ren rfl, trivial⟩)) rfl ?_
    refine ao_read trivial (r_move rfl) rfl ?_
    refine ao_read trivial (r_extract rfl rfl) rfl ?_
    refine ao_read trivial (r_extract rfl rfl) rfl ?_
    refine ao_eff trivial (e_alloc 1 (y := .v (.arr 121 (.int .i64)) ((List.replicate 121 0) : (List Int))) Try.zeroValue27 (fun ρ h M => ra_zero_arr (t := (.int .i64)) rfl) rfl rfl rfl rfl rfl) rfl ?_
    refine ao_effS trivial (e_store rfl rfl rfl rfl Try.sizeOf27 rfl) ?_
    refine ao_read trivial (r_assign rfl) rfl ?_
    refine ao_nil ?_
    refine aq_then ?_
    refine aw_seq ?_
    refine aw_region ?_
    refine ao_read trivial (r_move rfl) rfl ?_
    refine ao_read trivial (r_move rfl) rfl ?_
    obtain ⟨r5, r5h, h⟩ := is_bind h
    refine ao_scall trivial (scall (c_impl_ChanceOfSum (is_mk r5h)) rfl Try.func12 rfl rfl rfl rfl (fun σ => ⟨ad_ren rfl, ad_ren rfl, trivial⟩)) rfl ?_
    refine ao_read trivial (r_move rfl) rfl ?_
    refine ao_read trivial (r_extract rfl rfl) rfl ?_
    refine ao_read trivial (r_extract rfl rfl) rfl ?_
    refine ao_eff trivial (e_alloc 2 (y := .v (.arr 2 (.int .i64)) ((List.replicate 2 0) : (List Int))) Try.zeroValue30 (fun ρ h M => ra_zero_arr (t := (.int .i64)) rfl) rfl rfl rfl rfl rfl) rfl ?_
    refine ao_effS trivial (e_store rfl rfl rfl rfl Try.sizeOf30 rfl) ?_
    refine ao_read trivial (r_assign rfl) rfl ?_
    refine ao_nil ?_
    refine aq_then ?_
    refine aw_seq ?_
    refine aw_region ?_
    refine ao_read trivial (r_move rfl) rfl ?_
    refine ao_read trivial (r_move rfl) rfl ?_
    obtain ⟨r6, r6h, h⟩ := is_bind h
    refine ao_scall trivial (scall (c_spec_ChanceOfSum (is_mk r6h)) rfl Try.func13 rfl rfl rfl rfl (fun σ => ⟨ad_ren rfl, ad_ren rfl, trivial⟩)) rfl ?_
    refine ao_read trivial (r_move rfl) rfl ?_
    refine ao_read trivial (r_extract rfl rfl) rfl ?_
    refine ao_read trivial (r_extract rfl rfl) rfl ?_
    refine ao_eff trivial (e_alloc 3 (y := .v (.arr 2 (.int .i64)) ((List.replicate 2 0) : (List Int))) Try.zeroValue30 (fun ρ h M => ra_zero_arr (t := (.int .i64)) rfl) rfl rfl rfl rfl rfl) rfl ?_
    refine ao_effS trivial (e_store rfl rfl rfl rfl Try.sizeOf30 rfl) ?_
    refine ao_read trivial (r_assign rfl) rfl ?_
    refine ao_nil ?_
    refine aq_then ?_
    refine aw_seq ?_
    refine aw_region ?_
    refine ao_read trivial (r_move rfl) rfl ?_
    refine ao_read trivial (r_move rfl) rfl ?_
    obtain ⟨r7, r7h, h⟩ := is_bind h
    refine ao_scall trivial (scall (c_impl_ChanceAtLeast (is_mk r7h)) rfl Try.func14 rfl rfl rfl rfl (fun σ => ⟨ad_ren rfl, ad_ren rfl, trivial⟩)) rfl ?_
    refine ao_read trivial (r_move rfl) rfl ?_
    refine ao_read trivial (r_extract rfl rfl) rfl ?_
    refine ao_read trivial (r_extract rfl rfl) rfl ?_
    refine ao_eff trivial (e_alloc 4 (y := .v (.arr 2 (.int .i64)) ((List.replicate 2 0) : (List Int))) Try.zeroValue30 (fun ρ h M => ra_zero_arr (t := (.int .i64)) rfl) rfl rfl rfl rfl rfl) rfl ?_
    refine ao_effS trivial (e_store rfl rfl rfl rfl Try.sizeOf30 rfl) ?_
    refine ao_read trivial (r_assign rfl) rfl ?_
    refine ao_nil ?_
    refine aq_then ?_
    refine aw_seq ?_
    refine aw_region ?_
    refine ao_read trivial (r_move rfl) rfl ?_
    refine ao_read trivial (r_move rfl) rfl ?_
    obtain ⟨r8, r8h, h⟩ := is_bind h
    refine ao_scall trivial (scall (c_spec_ChanceAtLeast (is_mk r8h)) rfl Try.func15 rfl rfl rfl rfl (fun σ => ⟨ad_ren rfl, ad_ren rfl, trivial⟩)) rfl ?_
    refine ao_read trivial (r_move rfl) rfl ?_
    refine ao_read trivial (r_extract rfl rfl) rfl ?_
    refine ao_read trivial (r_extract rfl rfl) rfl ?_
    refine ao_eff trivial (e_alloc 5 (y := .v (.arr 2 (.int .i64)) ((List.replicate 2 0) : (List Int))) Try.zeroValue30 (fun ρ h M => ra_zero_arr (t := (.int .i64)) rfl) rfl rfl rfl rfl rfl) rfl ?_
    refine ao_effS trivial (e_store rfl rfl rfl rfl Try.sizeOf30 rfl) ?_
    refine ao_read trivial (r_assign rfl) rfl ?_
    refine ao_nil ?_
    refine aq_then ?_
    refine aw_seq ?_
    refine aw_region ?_
    refine ao_read trivial (r_move rfl) rfl ?_
    obtain ⟨r9, r9h, h⟩ := is_bind h
    refine ao_scall trivial (scall (c_impl_MeanOf (is_mk r9h)) rfl Try.func16 rfl rfl rfl rfl (fun σ => ⟨ad_ren rfl, trivial⟩)) rfl ?_
    refine ao_read trivial (r_move rfl) rfl ?_
    refine ao_read trivial (r_extract rfl rfl) rfl ?_
    refine ao_read trivial (r_extract rfl rfl) rfl ?_
    refine ao_eff trivial (e_alloc 6 (y := .v (.arr 2 (.int .i64)) ((List.replicate 2 0) : (List Int))) Try.zeroValue30 (fun ρ h M => ra_zero_arr (t := (.int .i64)) rfl) rfl rfl rfl rfl rfl) rfl ?_
    refine ao_effS trivial (e_store rfl rfl rfl rfl Try.sizeOf30 rfl) ?_
    refine ao_read trivial (r_assign rfl) rfl ?_
    refine ao_nil ?_
    refine aq_then ?_
    refine aw_seq ?_
    refine aw_region ?_
    refine ao_read trivial (r_move rfl) rfl ?_
    obtain ⟨r10, r10h, h⟩ := is_bind h
    refine ao_scall trivial (scall (c_spec_MeanOf (is_mk r10h)) rfl Try.func17 rfl rfl rfl rfl (fun σ => ⟨ad_ren rfl, trivial⟩)) rfl ?_
    refine ao_read trivial (r_move rfl) rfl ?_
    refine ao_read trivial (r_extract rfl rfl) rfl ?_
    refine ao_read trivial (r_extract rfl rfl) rfl ?_
    refine ao_eff trivial (e_alloc 7 (y := .v (.arr 2 (.int .i64)) ((List.replicate 2 0) : (List Int))) Try.zeroValue30 (fun ρ h M => ra_zero_arr (t := (.int .i64)) rfl) rfl rfl rfl rfl rfl) rfl ?_
    refine ao_effS trivial (e_store rfl rfl rfl rfl Try.sizeOf30 rfl) ?_
    refine ao_read trivial (r_assign rfl) rfl ?_
    refine ao_nil ?_
    refine aq_then ?_
    refine aw_seq ?_
    refine aw_region ?_
    refine ao_read trivial (r_move rfl) rfl ?_
    obtain ⟨r11, r11h, h⟩ := is_bind h
    refine ao_scall trivial (scall (c_impl_SpreadOf (is_mk r11h)) rfl Try.func18 rfl rfl rfl rfl (fun σ => ⟨ad_ren rfl, trivial⟩)) rfl ?_
    refine ao_read trivial (r_move rfl) rfl ?_
    refine ao_read trivial (r_extract rfl rfl) rfl ?_
    refine ao_read trivial (r_extract rfl rfl) rfl ?_
    refine ao_eff trivial (e_alloc 8 (y := .v (.arr 2 (.int .i64)) ((List.replicate 2 0) : (List Int))) Try.zeroValue30 (fun ρ h M => ra_zero_arr (t := (.int .i64)) rfl) rfl rfl rfl rfl rfl) rfl ?_
    refine ao_effS trivial (e_store rfl rfl rfl rfl Try.sizeOf30 rfl) ?_
    refine ao_read trivial (r_assign rfl) rfl ?_
    refine ao_nil ?_
    refine aq_then ?_
    refine aw_seq ?_
    refine aw_region ?_
    refine ao_read trivial (r_move rfl) rfl ?_
    obtain ⟨r12, r12h, h⟩ := is_bind h
    refine ao_scall trivial (scall (c_spec_SpreadOf (is_mk r12h)) rfl Try.func19 rfl rfl rfl rfl (fun σ => ⟨ad_ren rfl, trivial⟩)) rfl ?_
    refine ao_read trivial (r_move rfl) rfl ?_
    refine ao_read trivial (r_extract rfl rfl) rfl ?_
    refine ao_read trivial (r_extract rfl rfl) rfl ?_
    refine ao_eff trivial (e_alloc 9 (y := .v (.arr 2 (.int .i64)) ((List.replicate 2 0) : (List Int))) Try.zeroValue30 (fun ρ h M => ra_zero_arr (t := (.int .i64)) rfl) rfl rfl rfl rfl rfl) rfl ?_
    refine ao_effS trivial (e_store rfl rfl rfl rfl Try.sizeOf30 rfl) ?_
    refine ao_read trivial (r_assign rfl) rfl ?_
    refine ao_nil ?_
    refine aq_then ?_
    refine aw_seq ?_
    refine aw_region ?_
    refine ao_read trivial (r_move rfl) rfl ?_
    refine ao_scall trivial (scall (c_impl_BoundsOf (is_mk (rfl : p_impl_BoundsOf r2.1 = _))) rfl Try.func20 rfl rfl rfl rfl (fun σ => ⟨ad_ren rfl, trivial⟩)) rfl ?_
    refine ao_read trivial (r_move rfl) rfl ?_
    refine ao_read trivial (r_extract rfl rfl) rfl ?_
    refine ao_read trivial (r_extract rfl rfl) rfl ?_
    refine ao_read trivial (r_extract rfl rfl) rfl ?_
    refine ao_read trivial (r_assign rfl) rfl ?_
    refine ao_read trivial (r_assign rfl) rfl ?_
    refine ao_read trivial (r_assign rfl) rfl ?_
    refine ao_nil ?_
    refine aq_then ?_
    refine aw_seq ?_
    refine aw_region ?_
    refine ao_read trivial (r_move rfl) rfl ?_
    obtain ⟨r13, r13h, h⟩ := is_bind h
    refine ao_scall trivial (scall (c_spec_BoundsOf (is_mk r13h)) rfl Try.func21 rfl rfl rfl rfl (fun σ => ⟨ad_ren rfl, trivial⟩)) rfl ?_
    refine ao_read trivial (r_move rfl) rfl ?_
    refine ao_read trivial (r_extract rfl rfl) rfl ?_
    refine ao_read trivial (r_extract rfl rfl) rfl ?_
    refine ao_read trivial (r_extract rfl rfl) rfl ?_
    refine ao_read trivial (r_assign rfl) rfl ?_
    refine ao_read trivial (r_assign rfl) rfl ?_
    refine ao_read trivial (r_assign rfl) rfl ?_
    refine ao_nil ?_
    refine aq_then ?_
    refine aw_seq ?_
    refine aw_region ?_
    refine ao_read trivial (r_move rfl) rfl ?_
    obtain ⟨r14, r14h, h⟩ := is_bind h
    refine ao_call [] 10 trivial (c_impl_TopSums (is_mk r14h)) Try.func22 rfl rfl rfl rfl ⟨ad_ren rfl, trivial⟩ trivial rfl rfl rfl rfl rfl rfl rfl (fun r' H' hr => ?_)
    obtain ⟨rfl, rfl⟩ := hr
    refine ao_norm (y := .tup [.os 10, .int .i64 r14.2.1, .bool r14.2.2]) (H' := [(9, .var [.arr (.int .i64) 2 r12.1]), (8, .var [.arr (.int .i64) 2 r11.1]), (7, .var [.arr (.int .i64) 2 r10.1]), (6, .var [.arr (.int .i64) 2 r9.1]), (5, .var [.arr (.int .i64) 2 r8.1]), (4, .var [.arr (.int .i64) 2 r7.1]), (3, .var [.arr (.int .i64) 2 r6.1]), (2, .var [.arr (.int .i64) 2 r5.1]), (1, .var [.arr (.int .i64) 121 r4.1]), (0, .var [.arr (.int .i64) 121 r3.1]), (10, .row (.int .i64) r14.1)]) rfl rfl ?_
    refine row_len_o 10 (r14.1.length : Int) rfl rfl (fun hr15 => ?_)
    refine ao_read trivial (r_move rfl) rfl ?_
    refine ao_read trivial (r_extract rfl rfl) rfl ?_
    refine ao_read trivial (r_extract rfl rfl) rfl ?_
    refine ao_read trivial (r_extract rfl rfl) rfl ?_
    refine ao_read trivial (r_assign rfl) rfl ?_
    refine ao_read trivial (r_assign rfl) rfl ?_
    refine ao_read trivial (r_assign rfl) rfl ?_
    refine ao_nil ?_
    refine aq_then ?_
    refine aw_seq ?_
    refine aw_region ?_
    refine ao_read trivial (r_move rfl) rfl ?_
    obtain ⟨r16, r16h, h⟩ := is_bind h
    refine ao_call [] 11 trivial (c_spec_TopSums (is_mk r16h)) Try.func23 rfl rfl rfl rfl ⟨ad_ren rfl, trivial⟩ trivial rfl rfl rfl rfl rfl rfl rfl (fun r' H' hr => ?_)
    obtain ⟨rfl, rfl⟩ := hr
    refine ao_norm (y := .tup [.os 11, .int .i64 r16.2.1, .bool r16.2.2]) (H' := [(9, .var [.arr (.int .i64) 2 r12.1]), (8, .var [.arr (.int .i64) 2 r11.1]), (7, .var [.arr (.int .i64) 2 r10.1]), (6, .var [.arr (.int .i64) 2 r9.1]), (5, .var [.arr (.int .i64) 2 r8.1]), (4, .var [.arr (.int .i64) 2 r7.1]), (3, .var [.arr (.int .i64) 2 r6.1]), (2, .var [.arr (.int .i64) 2 r5.1]), (1, .var [.arr (.int .i64) 121 r4.1]), (0, .var [.arr (.int .i64) 121 r3.1]), (10, .row (.int .i64) r14.1), (11, .row (.int .i64) r16.1)]) rfl rfl ?_
    refine row_len_o 11 (r16.1.length : Int) rfl rfl (fun hr17 => ?_)
    refine ao_read trivial (r_move rfl) rfl ?_
    refine ao_read trivial (r_extract rfl rfl) rfl ?_
    refine ao_read trivial (r_extract rfl rfl) rfl ?_
    refine ao_read trivial (r_extract rfl rfl) rfl ?_
    refine ao_read trivial (r_assign rfl) rfl ?_
    refine ao_read trivial (r_assign rfl) rfl ?_
    refine ao_read trivial (r_assign rfl) rfl ?_
    refine ao_nil ?_
    refine aq_then ?_
    refine aw_seq ?_
    refine aw_seq ?_
    refine aw_region ?_
    refine ao_read trivial (r_load_arr rfl Try.isAgg27 Try.sizeOf27 rfl rfl rfl) rfl ?_
    refine ao_read trivial (r_load_arr rfl Try.isAgg27 Try.sizeOf27 rfl rfl rfl) rfl ?_
    refine ao_read trivial (r_eq_ints Try.underlying27 Try.underlying3 Try.isAgg3 (info_size Try.sizeOf3) (by kernel_rfl) rfl rfl rfl) rfl ?_
    refine ao_read trivial (r_move rfl) rfl ?_
    refine ao_readG (x := .bool r3.2) rfl (GV.F rfl) (fun hg18 => r_move rfl) rfl ?_
    refine ao_readG (x := .bool r4.2) rfl (GV.F rfl) (fun hg19 => r_move rfl) rfl ?_
    refine ao_readG (x := .bool (r3.2 != r4.2)) rfl (GV.F rfl) (fun hg20 => Reads.strip 132 rfl (hg20) (Reads.strip 133 rfl (hg20) (r_neq_bool Try.underlying4 rfl rfl))) rfl ?_
    refine ao_read trivial (r_orB rfl rfl) rfl ?_
    refine ao_read trivial (r_move rfl) rfl ?_
    refine ao_readG (x := .v (.arr 2 (.int .i64)) r5.1) rfl (GV.F rfl) (fun hg21 => by
          obtain ⟨q22, q23⟩ := or_f (not_t hg21)
          exact r_load_arr rfl Try.isAgg30 Try.sizeOf30 rfl rfl rfl) rfl ?_
    refine ao_readG (x := .v (.arr 2 (.int .i64)) r6.1) rfl (GV.F rfl) (fun hg24 => by
          obtain ⟨q25, q26⟩ := or_f (not_t hg24)
          exact r_load_arr rfl Try.isAgg30 Try.sizeOf30 rfl rfl rfl) rfl ?_
    refine ao_readG (x := .bool (!(decide (r5.1 = r6.1)))) rfl (GV.F rfl) (fun hg27 => by
          obtain ⟨q28, q29⟩ := or_f (not_t hg27)
          exact Reads.strip 137 rfl (hg27) (Reads.strip 138 rfl (hg27) (r_eq_ints Try.underlying30 Try.underlying3 Try.isAgg3 (info_size Try.sizeOf3) (by kernel_rfl) rfl rfl rfl))) rfl ?_
    refine ao_read trivial (r_orB rfl rfl) rfl ?_
    refine ao_read trivial (r_move rfl) rfl ?_
    refine ao_readG (x := .bool r5.2) rfl (GV.F rfl) (fun hg30 => by
          obtain ⟨q31, q32⟩ := or_f (not_t hg30)
          obtain ⟨q33, q34⟩ := or_f q31
          exact r_move rfl) rfl ?_
    refine ao_readG (x := .bool r6.2) rfl (GV.F rfl) (fun hg35 => by
          obtain ⟨q36, q37⟩ := or_f (not_t hg35)
          obtain ⟨q38, q39⟩ := or_f q36
          exact r_move rfl) rfl ?_
    refine ao_readG (x := .bool (r5.2 != r6.2)) rfl (GV.F rfl) (fun hg40 => by
          obtain ⟨q41, q42⟩ := or_f (not_t hg40)
          obtain ⟨q43, q44⟩ := or_f q41
          exact Reads.strip 142 rfl (hg40) (Reads.strip 143 rfl (hg40) (r_neq_bool Try.underlying4 rfl rfl))) rfl ?_
    refine ao_read trivial (r_orB rfl rfl) rfl ?_
    refine ao_read trivial (r_move rfl) rfl ?_
    refine ao_readG (x := .v (.arr 2 (.int .i64)) r7.1) rfl (GV.F rfl) (fun hg45 => by
          obtain ⟨q46, q47⟩ := or_f (not_t hg45)
          obtain ⟨q48, q49⟩ := or_f q46
          obtain ⟨q50, q51⟩ := or_f q48
          exact r_load_arr rfl Try.isAgg30 Try.sizeOf30 rfl rfl rfl) rfl ?_
    refine ao_readG (x := .v (.arr 2 (.int .i64)) r8.1) rfl (GV.F rfl) (fun hg52 => by
          obtain ⟨q53, q54⟩ := or_f (not_t hg52)
          obtain ⟨q55, q56⟩ := or_f q53
          obtain ⟨q57, q58⟩ := or_f q55
          exact r_load_arr rfl Try.isAgg30 Try.sizeOf30 rfl rfl rfl) rfl ?_
    refine ao_readG (x := .bool (!(decide (r7.1 = r8.1)))) rfl (GV.F rfl) (fun hg59 => by
          obtain ⟨q60, q61⟩ := or_f (not_t hg59)
          obtain ⟨q62, q63⟩ := or_f q60
          obtain ⟨q64, q65⟩ := or_f q62
          exact Reads.strip 147 rfl (hg59) (Reads.strip 148 rfl (hg59) (r_eq_ints Try.underlying30 Try.underlying3 Try.isAgg3 (info_size Try.sizeOf3) (by kernel_rfl) rfl rfl rfl))) rfl ?_
    refine ao_read trivial (r_orB rfl rfl) rfl ?_
    refine ao_read trivial (r_move rfl) rfl ?_
    refine ao_readG (x := .bool r7.2) rfl (GV.F rfl) (fun hg66 => by
          obtain ⟨q67, q68⟩ := or_f (not_t hg66)
          obtain ⟨q69, q70⟩ := or_f q67
          obtain ⟨q71, q72⟩ := or_f q69
          obtain ⟨q73, q74⟩ := or_f q71
          exact r_move rfl) rfl ?_
    refine ao_readG (x := .bool r8.2) rfl (GV.F rfl) (fun hg75 => by
          obtain ⟨q76, q77⟩ := or_f (not_t hg75)
          obtain ⟨q78, q79⟩ := or_f q76
          obtain ⟨q80, q81⟩ := or_f q78
          obtain ⟨q82, q83⟩ := or_f q80
          exact r_move rfl) rfl ?_
    refine ao_readG (x := .bool (r7.2 != r8.2)) rfl (GV.F rfl) (fun hg84 => by
          obtain ⟨q85, q86⟩ := or_f (not_t hg84)
          obtain ⟨q87, q88⟩ := or_f q85
          obtain ⟨q89, q90⟩ := or_f q87
          obtain ⟨q91, q92⟩ := or_f q89
          exact Reads.strip 152 rfl (hg84) (Reads.strip 153 rfl (hg84) (r_neq_bool Try.underlying4 rfl rfl))) rfl ?_
    refine ao_read trivial (r_orB rfl rfl) rfl ?_
    refine ao_read trivial (r_move rfl) rfl ?_
    refine ao_readG (x := .v (.arr 2 (.int .i64)) r9.1) rfl (GV.F rfl) (fun hg93 => by
          obtain ⟨q94, q95⟩ := or_f (not_t hg93)
          obtain ⟨q96, q97⟩ := or_f q94
          obtain ⟨q98, q99⟩ := or_f q96
          obtain ⟨q100, q101⟩ := or_f q98
          obtain ⟨q102, q103⟩ := or_f q100
          exact r_load_arr rfl Try.isAgg30 Try.sizeOf30 rfl rfl rfl) rfl ?_
    refine ao_readG (x := .v (.arr 2 (.int .i64)) r10.1) rfl (GV.F rfl) (fun hg104 => by
          obtain ⟨q105, q106⟩ := or_f (not_t hg104)
          obtain ⟨q107, q108⟩ := or_f q105
          obtain ⟨q109, q110⟩ := or_f q107
          obtain ⟨q111, q112⟩ := or_f q109
          obtain ⟨q113, q114⟩ := or_f q111
          exact r_load_arr rfl Try.isAgg30 Try.sizeOf30 rfl rfl rfl) rfl ?_
    refine ao_readG (x := .bool (!(decide (r9.1 = r10.1)))) rfl (GV.F rfl) (fun hg115 => by
          obtain ⟨q116, q117⟩ := or_f (not_t hg115)
          obtain ⟨q118, q119⟩ := or_f q116
          obtain ⟨q120, q121⟩ := or_f q118
          obtain ⟨q122, q123⟩ := or_f q120
          obtain ⟨q124, q125⟩ := or_f q122
          exact Reads.strip 157 rfl (hg115) (Reads.strip 158 rfl (hg115) (r_eq_ints Try.underlying30 Try.underlying3 Try.isAgg3 (info_size Try.sizeOf3) (by kernel_rfl) rfl rfl rfl))) rfl ?_
    refine ao_read trivial (r_orB rfl rfl) rfl ?_
    refine ao_read trivial (r_move rfl) rfl ?_
    refine ao_readG (x := .bool r9.2) rfl (GV.F rfl) (fun hg126 => by
          obtain ⟨q127, q128⟩ := or_f (not_t hg126)
          obtain ⟨q129, q130⟩ := or_f q127
          obtain ⟨q131, q132⟩ := or_f q129
          obtain ⟨q133, q134⟩ := or_f q131
          obtain ⟨q135, q136⟩ := or_f q133
          obtain ⟨q137, q138⟩ := or_f q135
          exact r_move rfl) rfl ?_
    refine ao_readG (x := .bool r10.2) rfl (GV.F rfl) (fun hg139 => by
          obtain ⟨q140, q141⟩ := or_f (not_t hg139)
          obtain ⟨q142, q143⟩ := or_f q140
          obtain ⟨q144, q145⟩ := or_f q142
          obtain ⟨q146, q147⟩ := or_f q144
          obtain ⟨q148, q149⟩ := or_f q146
          obtain ⟨q150, q151⟩ := or_f q148
          exact r_move rfl) rfl ?_
    refine ao_readG (x := .bool (r9.2 != r10.2)) rfl (GV.F rfl) (fun hg152 => by
          obtain ⟨q153, q154⟩ := or_f (not_t hg152)
          obtain ⟨q155, q156⟩ := or_f q153
          obtain ⟨q157, q158⟩ := or_f q155
          obtain ⟨q159, q160⟩ := or_f q157
          obtain ⟨q161, q162⟩ := or_f q159
          obtain ⟨q163, q164⟩ := or_f q161
          exact Reads.strip 162 rfl (hg152) (Reads.strip 163 rfl (hg152) (r_neq_bool Try.underlying4 rfl rfl))) rfl ?_
    refine ao_read trivial (r_orB rfl rfl) rfl ?_
    refine ao_read trivial (r_move rfl) rfl ?_
    refine ao_readG (x := .v (.arr 2 (.int .i64)) r11.1) rfl (GV.F rfl) (fun hg165 => by
          obtain ⟨q166, q167⟩ := or_f (not_t hg165)
          obtain ⟨q168, q169⟩ := or_f q166
          obtain ⟨q170, q171⟩ := or_f q168
          obtain ⟨q172, q173⟩ := or_f q170
          obtain ⟨q174, q175⟩ := or_f q172
          obtain ⟨q176, q177⟩ := or_f q174
          obtain ⟨q178, q179⟩ := or_f q176
          exact r_load_arr rfl Try.isAgg30 Try.sizeOf30 rfl rfl rfl) rfl ?_
    refine ao_readG (x := .v (.arr 2 (.int .i64)) r12.1) rfl (GV.F rfl) (fun hg180 => by
          obtain ⟨q181, q182⟩ := or_f (not_t hg180)
          obtain ⟨q183, q184⟩ := or_f q181
          obtain ⟨q185, q186⟩ := or_f q183
          obtain ⟨q187, q188⟩ := or_f q185
          obtain ⟨q189, q190⟩ := or_f q187
          obtain ⟨q191, q192⟩ := or_f q189
          obtain ⟨q193, q194⟩ := or_f q191
          exact r_load_arr rfl Try.isAgg30 Try.sizeOf30 rfl rfl rfl) rfl ?_
    refine ao_readG (x := .bool (!(decide (r11.1 = r12.1)))) rfl (GV.F rfl) (fun hg195 => by
          obtain ⟨q196, q197⟩ := or_f (not_t hg195)
          obtain ⟨q198, q199⟩ := or_f q196
          obtain ⟨q200, q201⟩ := or_f q198
          obtain ⟨q202, q203⟩ := or_f q200
          obtain ⟨q204, q205⟩ := or_f q202
          obtain ⟨q206, q207⟩ := or_f q204
          obtain ⟨q208, q209⟩ := or_f q206
          exact Reads.strip 167 rfl (hg195) (Reads.strip 168 rfl (hg195) (r_eq_ints Try.underlying30 Try.underlying3 Try.isAgg3 (info_size Try.sizeOf3) (by kernel_rfl) rfl rfl rfl))) rfl ?_
    refine ao_read trivial (r_orB rfl rfl) rfl ?_
    refine ao_read trivial (r_move rfl) rfl ?_
    refine ao_readG (x := .bool r11.2) rfl (GV.F rfl) (fun hg210 => by
          obtain ⟨q211, q212⟩ := or_f (not_t hg210)
          obtain ⟨q213, q214⟩ := or_f q211
          obtain ⟨q215, q216⟩ := or_f q213
          obtain ⟨q217, q218⟩ := or_f q215
          obtain ⟨q219, q220⟩ := or_f q217
          obtain ⟨q221, q222⟩ := or_f q219
          obtain ⟨q223, q224⟩ := or_f q221
          obtain ⟨q225, q226⟩ := or_f q223
          exact r_move rfl) rfl ?_
    refine ao_readG (x := .bool r12.2) rfl (GV.F rfl) (fun hg227 => by
          obtain ⟨q228, q229⟩ := or_f (not_t hg227)
          obtain ⟨q230, q231⟩ := or_f q228
          obtain ⟨q232, q233⟩ := or_f q230
          obtain ⟨q234, q235⟩ := or_f q232
          obtain ⟨q236, q237⟩ := or_f q234
          obtain ⟨q238, q239⟩ := or_f q236
          obtain ⟨q240, q241⟩ := or_f q238
          obtain ⟨q242, q243⟩ := or_f q240
          exact r_move rfl) rfl ?_
    refine ao_readG (x := .bool (r11.2 != r12.2)) rfl (GV.F rfl) (fun hg244 => by
          obtain ⟨q245, q246⟩ := or_f (not_t hg244)
          obtain ⟨q247, q248⟩ := or_f q245
          obtain ⟨q249, q250⟩ := or_f q247
          obtain ⟨q251, q252⟩ := or_f q249
          obtain ⟨q253, q254⟩ := or_f q251
          obtain ⟨q255, q256⟩ := or_f q253
          obtain ⟨q257, q258⟩ := or_f q255
          obtain ⟨q259, q260⟩ := or_f q257
          exact Reads.strip 172 rfl (hg244) (Reads.strip 173 rfl (hg244) (r_neq_bool Try.underlying4 rfl rfl))) rfl ?_
    refine ao_read trivial (r_orB rfl rfl) rfl ?_
    refine ao_read trivial (r_move rfl) rfl ?_
    refine ao_readG (x := .int .i64 ((p_impl_BoundsOf r2.1).1)) rfl (GV.F rfl) (fun hg261 => by
          obtain ⟨q262, q263⟩ := or_f (not_t hg261)
          obtain ⟨q264, q265⟩ := or_f q262
          obtain ⟨q266, q267⟩ := or_f q264
          obtain ⟨q268, q269⟩ := or_f q266
          obtain ⟨q270, q271⟩ := or_f q268
          obtain ⟨q272, q273⟩ := or_f q270
          obtain ⟨q274, q275⟩ := or_f q272
          obtain ⟨q276, q277⟩ := or_f q274
          obtain ⟨q278, q279⟩ := or_f q276
          exact r_move rfl) rfl ?_
    refine ao_readG (x := .int .i64 r13.1) rfl (GV.F rfl) (fun hg280 => by
          obtain ⟨q281, q282⟩ := or_f (not_t hg280)
          obtain ⟨q283, q284⟩ := or_f q281
          obtain ⟨q285, q286⟩ := or_f q283
          obtain ⟨q287, q288⟩ := or_f q285
          obtain ⟨q289, q290⟩ := or_f q287
          obtain ⟨q291, q292⟩ := or_f q289
          obtain ⟨q293, q294⟩ := or_f q291
          obtain ⟨q295, q296⟩ := or_f q293
          obtain ⟨q297, q298⟩ := or_f q295
          exact r_move rfl) rfl ?_
    refine ao_readG (x := .bool (!(decide ((p_impl_BoundsOf r2.1).1 = r13.1)))) rfl (GV.F rfl) (fun hg299 => by
          obtain ⟨q300, q301⟩ := or_f (not_t hg299)
          obtain ⟨q302, q303⟩ := or_f q300
          obtain ⟨q304, q305⟩ := or_f q302
          obtain ⟨q306, q307⟩ := or_f q304
          obtain ⟨q308, q309⟩ := or_f q306
          obtain ⟨q310, q311⟩ := or_f q308
          obtain ⟨q312, q313⟩ := or_f q310
          obtain ⟨q314, q315⟩ := or_f q312
          obtain ⟨q316, q317⟩ := or_f q314
          exact Reads.strip 177 rfl (hg299) (Reads.strip 178 rfl (hg299) (r_neq rfl rfl))) rfl ?_
    refine ao_read trivial (r_orB rfl rfl) rfl ?_
    refine ao_read trivial (r_move rfl) rfl ?_
    refine ao_readG (x := .int .i64 ((p_impl_BoundsOf r2.1).2.1)) rfl (GV.F rfl) (fun hg318 => by
          obtain ⟨q319, q320⟩ := or_f (not_t hg318)
          obtain ⟨q321, q322⟩ := or_f q319
          obtain ⟨q323, q324⟩ := or_f q321
          obtain ⟨q325, q326⟩ := or_f q323
          obtain ⟨q327, q328⟩ := or_f q325
          obtain ⟨q329, q330⟩ := or_f q327
          obtain ⟨q331, q332⟩ := or_f q329
          obtain ⟨q333, q334⟩ := or_f q331
          obtain ⟨q335, q336⟩ := or_f q333
          obtain ⟨q337, q338⟩ := or_f q335
          have q339 := d_t (not_f q320)
          exact r_move rfl) rfl ?_
    refine ao_readG (x := .int .i64 r13.2.1) rfl (GV.F rfl) (fun hg340 => by
          obtain ⟨q341, q342⟩ := or_f (not_t hg340)
          obtain ⟨q343, q344⟩ := or_f q341
          obtain ⟨q345, q346⟩ := or_f q343
          obtain ⟨q347, q348⟩ := or_f q345
          obtain ⟨q349, q350⟩ := or_f q347
          obtain ⟨q351, q352⟩ := or_f q349
          obtain ⟨q353, q354⟩ := or_f q351
          obtain ⟨q355, q356⟩ := or_f q353
          obtain ⟨q357, q358⟩ := or_f q355
          obtain ⟨q359, q360⟩ := or_f q357
          have q361 := d_t (not_f q342)
          exact r_move rfl) rfl ?_
    refine ao_readG (x := .bool (!(decide ((p_impl_BoundsOf r2.1).2.1 = r13.2.1)))) rfl (GV.F rfl) (fun hg362 => by
          obtain ⟨q363, q364⟩ := or_f (not_t hg362)
          obtain ⟨q365, q366⟩ := or_f q363
          obtain ⟨q367, q368⟩ := or_f q365
          obtain ⟨q369, q370⟩ := or_f q367
          obtain ⟨q371, q372⟩ := or_f q369
          obtain ⟨q373, q374⟩ := or_f q371
          obtain ⟨q375, q376⟩ := or_f q373
          obtain ⟨q377, q378⟩ := or_f q375
          obtain ⟨q379, q380⟩ := or_f q377
          obtain ⟨q381, q382⟩ := or_f q379
          have q383 := d_t (not_f q364)
          exact Reads.strip 182 rfl (hg362) (Reads.strip 183 rfl (hg362) (r_neq rfl rfl))) rfl ?_
    refine ao_read trivial (r_orB rfl rfl) rfl ?_
    refine ao_read trivial (r_move rfl) rfl ?_
    refine ao_readG (x := .bool ((p_impl_BoundsOf r2.1).2.2)) rfl (GV.F rfl) (fun hg384 => by
          obtain ⟨q385, q386⟩ := or_f (not_t hg384)
          obtain ⟨q387, q388⟩ := or_f q385
          obtain ⟨q389, q390⟩ := or_f q387
          obtain ⟨q391, q392⟩ := or_f q389
          obtain ⟨q393, q394⟩ := or_f q391
          obtain ⟨q395, q396⟩ := or_f q393
          obtain ⟨q397, q398⟩ := or_f q395
          obtain ⟨q399, q400⟩ := or_f q397
          obtain ⟨q401, q402⟩ := or_f q399
          obtain ⟨q403, q404⟩ := or_f q401
          obtain ⟨q405, q406⟩ := or_f q403
          have q407 := d_t (not_f q388)
          have q408 := d_t (not_f q386)
          exact r_move rfl) rfl ?_
    refine ao_readG (x := .bool r13.2.2) rfl (GV.F rfl) (fun hg409 => by
          obtain ⟨q410, q411⟩ := or_f (not_t hg409)
          obtain ⟨q412, q413⟩ := or_f q410
          obtain ⟨q414, q415⟩ := or_f q412
          obtain ⟨q416, q417⟩ := or_f q414
          obtain ⟨q418, q419⟩ := or_f q416
          obtain ⟨q420, q421⟩ := or_f q418
          obtain ⟨q422, q423⟩ := or_f q420
          obtain ⟨q424, q425⟩ := or_f q422
          obtain ⟨q426, q427⟩ := or_f q424
          obtain ⟨q428, q429⟩ := or_f q426
          obtain ⟨q430, q431⟩ := or_f q428
          have q432 := d_t (not_f q413)
          have q433 := d_t (not_f q411)
          exact r_move rfl) rfl ?_
    refine ao_readG (x := .bool (((p_impl_BoundsOf r2.1).2.2) != r13.2.2)) rfl (GV.F rfl) (fun hg434 => by
          obtain ⟨q435, q436⟩ := or_f (not_t hg434)
          obtain ⟨q437, q438⟩ := or_f q435
          obtain ⟨q439, q440⟩ := or_f q437
          obtain ⟨q441, q442⟩ := or_f q439
          obtain ⟨q443, q444⟩ := or_f q441
          obtain ⟨q445, q446⟩ := or_f q443
          obtain ⟨q447, q448⟩ := or_f q445
          obtain ⟨q449, q450⟩ := or_f q447
          obtain ⟨q451, q452⟩ := or_f q449
          obtain ⟨q453, q454⟩ := or_f q451
          obtain ⟨q455, q456⟩ := or_f q453
          have q457 := d_t (not_f q438)
          have q458 := d_t (not_f q436)
          exact Reads.strip 187 rfl (hg434) (Reads.strip 188 rfl (hg434) (r_neq_bool Try.underlying4 rfl rfl))) rfl ?_
    refine ao_read trivial (r_orB rfl rfl) rfl ?_
    refine ao_read trivial (r_move rfl) rfl ?_
    refine ao_readG (x := .os 10) rfl (GV.F rfl) (fun hg459 => by
          obtain ⟨q460, q461⟩ := or_f (not_t hg459)
          obtain ⟨q462, q463⟩ := or_f q460
          obtain ⟨q464, q465⟩ := or_f q462
          obtain ⟨q466, q467⟩ := or_f q464
          obtain ⟨q468, q469⟩ := or_f q466
          obtain ⟨q470, q471⟩ := or_f q468
          obtain ⟨q472, q473⟩ := or_f q470
          obtain ⟨q474, q475⟩ := or_f q472
          obtain ⟨q476, q477⟩ := or_f q474
          obtain ⟨q478, q479⟩ := or_f q476
          obtain ⟨q480, q481⟩ := or_f q478
          obtain ⟨q482, q483⟩ := or_f q480
          have q484 := d_t (not_f q465)
          have q485 := d_t (not_f q463)
          exact r_move rfl) rfl ?_
    refine ao_readG (x := .os 11) rfl (GV.F rfl) (fun hg486 => by
          obtain ⟨q487, q488⟩ := or_f (not_t hg486)
          obtain ⟨q489, q490⟩ := or_f q487
          obtain ⟨q491, q492⟩ := or_f q489
          obtain ⟨q493, q494⟩ := or_f q491
          obtain ⟨q495, q496⟩ := or_f q493
          obtain ⟨q497, q498⟩ := or_f q495
          obtain ⟨q499, q500⟩ := or_f q497
          obtain ⟨q501, q502⟩ := or_f q499
          obtain ⟨q503, q504⟩ := or_f q501
          obtain ⟨q505, q506⟩ := or_f q503
          obtain ⟨q507, q508⟩ := or_f q505
          obtain ⟨q509, q510⟩ := or_f q507
          have q511 := d_t (not_f q492)
          have q512 := d_t (not_f q490)
          exact r_move rfl) rfl ?_
    refine ao_scallG (r := .bool (p_laws_vInts r14.1 r16.1)) rfl (GV.F rfl) (fun hg513 => by
          obtain ⟨q514, q515⟩ := or_f (not_t hg513)
          obtain ⟨q516, q517⟩ := or_f q514
          obtain ⟨q518, q519⟩ := or_f q516
          obtain ⟨q520, q521⟩ := or_f q518
          obtain ⟨q522, q523⟩ := or_f q520
          obtain ⟨q524, q525⟩ := or_f q522
          obtain ⟨q526, q527⟩ := or_f q524
          obtain ⟨q528, q529⟩ := or_f q526
          obtain ⟨q530, q531⟩ := or_f q528
          obtain ⟨q532, q533⟩ := or_f q530
          obtain ⟨q534, q535⟩ := or_f q532
          obtain ⟨q536, q537⟩ := or_f q534
          have q538 := d_t (not_f q519)
          have q539 := d_t (not_f q517)
          exact SCall.strip 192 rfl (hg513) (SCall.strip 193 rfl (hg513) (scall (c_laws_vInts (is_mk (rfl : p_laws_vInts r14.1 r16.1 = _))) rfl Try.func24 rfl rfl rfl rfl (fun σ => ⟨ad_os0 rfl, ad_os0 rfl, trivial⟩)))) rfl ?_
    refine ao_readG (x := .bool (!(p_laws_vInts r14.1 r16.1))) rfl (GV.F rfl) (fun hg540 => by
          obtain ⟨q541, q542⟩ := or_f (not_t hg540)
          obtain ⟨q543, q544⟩ := or_f q541
          obtain ⟨q545, q546⟩ := or_f q543
          obtain ⟨q547, q548⟩ := or_f q545
          obtain ⟨q549, q550⟩ := or_f q547
          obtain ⟨q551, q552⟩ := or_f q549
          obtain ⟨q553, q554⟩ := or_f q551
          obtain ⟨q555, q556⟩ := or_f q553
          obtain ⟨q557, q558⟩ := or_f q555
          obtain ⟨q559, q560⟩ := or_f q557
          obtain ⟨q561, q562⟩ := or_f q559
          obtain ⟨q563, q564⟩ := or_f q561
          have q565 := d_t (not_f q546)
          have q566 := d_t (not_f q544)
          exact Reads.strip 194 rfl (hg540) (r_not rfl)) rfl ?_
    refine ao_read trivial (r_orB rfl rfl) rfl ?_
    refine ao_read trivial (r_move rfl) rfl ?_
    refine ao_readG (x := .int .i64 r14.2.1) rfl (GV.F rfl) (fun hg567 => by
          obtain ⟨q568, q569⟩ := or_f (not_t hg567)
          obtain ⟨q570, q571⟩ := or_f q568
          obtain ⟨q572, q573⟩ := or_f q570
          obtain ⟨q574, q575⟩ := or_f q572
          obtain ⟨q576, q577⟩ := or_f q574
          obtain ⟨q578, q579⟩ := or_f q576
          obtain ⟨q580, q581⟩ := or_f q578
          obtain ⟨q582, q583⟩ := or_f q580
          obtain ⟨q584, q585⟩ := or_f q582
          obtain ⟨q586, q587⟩ := or_f q584
          obtain ⟨q588, q589⟩ := or_f q586
          obtain ⟨q590, q591⟩ := or_f q588
          obtain ⟨q592, q593⟩ := or_f q590
          have q594 := d_t (not_f q575)
          have q595 := d_t (not_f q573)
          exact r_move rfl) rfl ?_
    refine ao_readG (x := .int .i64 r16.2.1) rfl (GV.F rfl) (fun hg596 => by
          obtain ⟨q597, q598⟩ := or_f (not_t hg596)
          obtain ⟨q599, q600⟩ := or_f q597
          obtain ⟨q601, q602⟩ := or_f q599
          obtain ⟨q603, q604⟩ := or_f q601
          obtain ⟨q605, q606⟩ := or_f q603
          obtain ⟨q607, q608⟩ := or_f q605
          obtain ⟨q609, q610⟩ := or_f q607
          obtain ⟨q611, q612⟩ := or_f q609
          obtain ⟨q613, q614⟩ := or_f q611
          obtain ⟨q615, q616⟩ := or_f q613
          obtain ⟨q617, q618⟩ := or_f q615
          obtain ⟨q619, q620⟩ := or_f q617
          obtain ⟨q621, q622⟩ := or_f q619
          have q623 := d_t (not_f q604)
          have q624 := d_t (not_f q602)
          exact r_move rfl) rfl ?_
    refine ao_readG (x := .bool (!(decide (r14.2.1 = r16.2.1)))) rfl (GV.F rfl) (fun hg625 => by
          obtain ⟨q626, q627⟩ := or_f (not_t hg625)
          obtain ⟨q628, q629⟩ := or_f q626
          obtain ⟨q630, q631⟩ := or_f q628
          obtain ⟨q632, q633⟩ := or_f q630
          obtain ⟨q634, q635⟩ := or_f q632
          obtain ⟨q636, q637⟩ := or_f q634
          obtain ⟨q638, q639⟩ := or_f q636
          obtain ⟨q640, q641⟩ := or_f q638
          obtain ⟨q642, q643⟩ := or_f q640
          obtain ⟨q644, q645⟩ := or_f q642
          obtain ⟨q646, q647⟩ := or_f q644
          obtain ⟨q648, q649⟩ := or_f q646
          obtain ⟨q650, q651⟩ := or_f q648
          have q652 := d_t (not_f q633)
          have q653 := d_t (not_f q631)
          exact Reads.strip 198 rfl (hg625) (Reads.strip 199 rfl (hg625) (r_neq rfl rfl))) rfl ?_
    refine ao_read trivial (r_orB rfl rfl) rfl ?_
    refine ao_read trivial (r_move rfl) rfl ?_
    refine ao_readG (x := .bool r14.2.2) rfl (GV.F rfl) (fun hg654 => by
          obtain ⟨q655, q656⟩ := or_f (not_t hg654)
          obtain ⟨q657, q658⟩ := or_f q655
          obtain ⟨q659, q660⟩ := or_f q657
          obtain ⟨q661, q662⟩ := or_f q659
          obtain ⟨q663, q664⟩ := or_f q661
          obtain ⟨q665, q666⟩ := or_f q663
          obtain ⟨q667, q668⟩ := or_f q665
          obtain ⟨q669, q670⟩ := or_f q667
          obtain ⟨q671, q672⟩ := or_f q669
          obtain ⟨q673, q674⟩ := or_f q671
          obtain ⟨q675, q676⟩ := or_f q673
          obtain ⟨q677, q678⟩ := or_f q675
          obtain ⟨q679, q680⟩ := or_f q677
          obtain ⟨q681, q682⟩ := or_f q679
          have q683 := d_t (not_f q664)
          have q684 := d_t (not_f q662)
          have q685 := d_t (not_f q656)
          exact r_move rfl) rfl ?_
    refine ao_readG (x := .bool r16.2.2) rfl (GV.F rfl) (fun hg686 => by
          obtain ⟨q687, q688⟩ := or_f (not_t hg686)
          obtain ⟨q689, q690⟩ := or_f q687
          obtain ⟨q691, q692⟩ := or_f q689
          obtain ⟨q693, q694⟩ := or_f q691
          obtain ⟨q695, q696⟩ := or_f q693
          obtain ⟨q697, q698⟩ := or_f q695
          obtain ⟨q699, q700⟩ := or_f q697
          obtain ⟨q701, q702⟩ := or_f q699
          obtain ⟨q703, q704⟩ := or_f q701
          obtain ⟨q705, q706⟩ := or_f q703
          obtain ⟨q707, q708⟩ := or_f q705
          obtain ⟨q709, q710⟩ := or_f q707
          obtain ⟨q711, q712⟩ := or_f q709
          obtain ⟨q713, q714⟩ := or_f q711
          have q715 := d_t (not_f q696)
          have q716 := d_t (not_f q694)
          have q717 := d_t (not_f q688)
          exact r_move rfl) rfl ?_
    refine ao_readG (x := .bool (r14.2.2 != r16.2.2)) rfl (GV.F rfl) (fun hg718 => by
          obtain ⟨q719, q720⟩ := or_f (not_t hg718)
          obtain ⟨q721, q722⟩ := or_f q719
          obtain ⟨q723, q724⟩ := or_f q721
          obtain ⟨q725, q726⟩ := or_f q723
          obtain ⟨q727, q728⟩ := or_f q725
          obtain ⟨q729, q730⟩ := or_f q727
          obtain ⟨q731, q732⟩ := or_f q729
          obtain ⟨q733, q734⟩ := or_f q731
          obtain ⟨q735, q736⟩ := or_f q733
          obtain ⟨q737, q738⟩ := or_f q735
          obtain ⟨q739, q740⟩ := or_f q737
          obtain ⟨q741, q742⟩ := or_f q739
          obtain ⟨q743, q744⟩ := or_f q741
          obtain ⟨q745, q746⟩ := or_f q743
          have q747 := d_t (not_f q728)
          have q748 := d_t (not_f q726)
          have q749 := d_t (not_f q720)
          exact Reads.strip 203 rfl (hg718) (Reads.strip 204 rfl (hg718) (r_neq_bool Try.underlying4 rfl rfl))) rfl ?_
    refine ao_read trivial (r_orB rfl rfl) rfl ?_
    refine ao_read trivial (r_move rfl) rfl ?_
    refine ao_readG (x := .v (.slice (.arr 6 (.int .i64))) r2.1) rfl (GV.F rfl) (fun hg750 => by
          obtain ⟨q751, q752⟩ := or_f (not_t hg750)
          obtain ⟨q753, q754⟩ := or_f q751
          obtain ⟨q755, q756⟩ := or_f q753
          obtain ⟨q757, q758⟩ := or_f q755
          obtain ⟨q759, q760⟩ := or_f q757
          obtain ⟨q761, q762⟩ := or_f q759
          obtain ⟨q763, q764⟩ := or_f q761
          obtain ⟨q765, q766⟩ := or_f q763
          obtain ⟨q767, q768⟩ := or_f q765
          obtain ⟨q769, q770⟩ := or_f q767
          obtain ⟨q771, q772⟩ := or_f q769
          obtain ⟨q773, q774⟩ := or_f q771
          obtain ⟨q775, q776⟩ := or_f q773
          obtain ⟨q777, q778⟩ := or_f q775
          obtain ⟨q779, q780⟩ := or_f q777
          have q781 := d_t (not_f q762)
          have q782 := d_t (not_f q760)
          have q783 := d_t (not_f q754)
          exact r_move rfl) rfl ?_
    refine ao_scallG (r := .bool (p_impl_IsPool r2.1)) rfl (GV.F rfl) (fun hg784 => by
          obtain ⟨q785, q786⟩ := or_f (not_t hg784)
          obtain ⟨q787, q788⟩ := or_f q785
          obtain ⟨q789, q790⟩ := or_f q787
          obtain ⟨q791, q792⟩ := or_f q789
          obtain ⟨q793, q794⟩ := or_f q791
          obtain ⟨q795, q796⟩ := or_f q793
          obtain ⟨q797, q798⟩ := or_f q795
          obtain ⟨q799, q800⟩ := or_f q797
          obtain ⟨q801, q802⟩ := or_f q799
          obtain ⟨q803, q804⟩ := or_f q801
          obtain ⟨q805, q806⟩ := or_f q803
          obtain ⟨q807, q808⟩ := or_f q805
          obtain ⟨q809, q810⟩ := or_f q807
          obtain ⟨q811, q812⟩ := or_f q809
          obtain ⟨q813, q814⟩ := or_f q811
          have q815 := d_t (not_f q796)
          have q816 := d_t (not_f q794)
          have q817 := d_t (not_f q788)
          exact SCall.strip 208 rfl (hg784) (scall (c_impl_IsPool (is_mk (rfl : p_impl_IsPool r2.1 = _))) rfl Try.func25 rfl rfl rfl rfl (fun σ => ⟨ad_ren rfl, trivial⟩))) rfl ?_
    refine ao_readG (x := .v (.slice (.arr 6 (.int .i64))) r2.1) rfl (GV.F rfl) (fun hg818 => by
          obtain ⟨q819, q820⟩ := or_f (not_t hg818)
          obtain ⟨q821, q822⟩ := or_f q819
          obtain ⟨q823, q824⟩ := or_f q821
          obtain ⟨q825, q826⟩ := or_f q823
          obtain ⟨q827, q828⟩ := or_f q825
          obtain ⟨q829, q830⟩ := or_f q827
          obtain ⟨q831, q832⟩ := or_f q829
          obtain ⟨q833, q834⟩ := or_f q831
          obtain ⟨q835, q836⟩ := or_f q833
          obtain ⟨q837, q838⟩ := or_f q835
          obtain ⟨q839, q840⟩ := or_f q837
          obtain ⟨q841, q842⟩ := or_f q839
          obtain ⟨q843, q844⟩ := or_f q841
          obtain ⟨q845, q846⟩ := or_f q843
          obtain ⟨q847, q848⟩ := or_f q845
          have q849 := d_t (not_f q830)
          have q850 := d_t (not_f q828)
          have q851 := d_t (not_f q822)
          exact r_move rfl) rfl ?_
    obtain ⟨g886, h⟩ := is_guard h
    refine ao_scallG (r := .bool ((p_spec_IsPool r2.1).getD false)) rfl (GV.F rfl) (fun hg852 => by
          obtain ⟨q853, q854⟩ := or_f (not_t hg852)
          obtain ⟨q855, q856⟩ := or_f q853
          obtain ⟨q857, q858⟩ := or_f q855
          obtain ⟨q859, q860⟩ := or_f q857
          obtain ⟨q861, q862⟩ := or_f q859
          obtain ⟨q863, q864⟩ := or_f q861
          obtain ⟨q865, q866⟩ := or_f q863
          obtain ⟨q867, q868⟩ := or_f q865
          obtain ⟨q869, q870⟩ := or_f q867
          obtain ⟨q871, q872⟩ := or_f q869
          obtain ⟨q873, q874⟩ := or_f q871
          obtain ⟨q875, q876⟩ := or_f q873
          obtain ⟨q877, q878⟩ := or_f q875
          obtain ⟨q879, q880⟩ := or_f q877
          obtain ⟨q881, q882⟩ := or_f q879
          have q883 := d_t (not_f q864)
          have q884 := d_t (not_f q862)
          have q885 := d_t (not_f q856)
          exact SCall.strip 210 rfl (hg852) (scall (c_spec_IsPool (is_mk (isSome_getD (g886 hg852)))) rfl Try.func26 rfl rfl rfl rfl (fun σ => ⟨ad_ren rfl, trivial⟩))) rfl ?_
    refine ao_readG (x := .bool ((p_impl_IsPool r2.1) != ((p_spec_IsPool r2.1).getD false))) rfl (GV.F rfl) (fun hg887 => by
          obtain ⟨q888, q889⟩ := or_f (not_t hg887)
          obtain ⟨q890, q891⟩ := or_f q888
          obtain ⟨q892, q893⟩ := or_f q890
          obtain ⟨q894, q895⟩ := or_f q892
          obtain ⟨q896, q897⟩ := or_f q894
          obtain ⟨q898, q899⟩ := or_f q896
          obtain ⟨q900, q901⟩ := or_f q898
          obtain ⟨q902, q903⟩ := or_f q900
          obtain ⟨q904, q905⟩ := or_f q902
          obtain ⟨q906, q907⟩ := or_f q904
          obtain ⟨q908, q909⟩ := or_f q906
          obtain ⟨q910, q911⟩ := or_f q908
          obtain ⟨q912, q913⟩ := or_f q910
          obtain ⟨q914, q915⟩ := or_f q912
          obtain ⟨q916, q917⟩ := or_f q914
          have q918 := d_t (not_f q899)
          have q919 := d_t (not_f q897)
          have q920 := d_t (not_f q891)
          exact Reads.strip 209 rfl (hg887) (Reads.strip 211 rfl (hg887) (r_neq_bool Try.underlying4 rfl rfl))) rfl ?_
    refine ao_read trivial (r_orB rfl rfl) rfl ?_
    refine ao_read trivial (r_move rfl) rfl ?_
    refine ao_readG (x := .bool r3.2) rfl (GV.F rfl) (fun hg921 => by
          obtain ⟨q922, q923⟩ := or_f (not_t hg921)
          obtain ⟨q924, q925⟩ := or_f q922
          obtain ⟨q926, q927⟩ := or_f q924
          obtain ⟨q928, q929⟩ := or_f q926
          obtain ⟨q930, q931⟩ := or_f q928
          obtain ⟨q932, q933⟩ := or_f q930
          obtain ⟨q934, q935⟩ := or_f q932
          obtain ⟨q936, q937⟩ := or_f q934
          obtain ⟨q938, q939⟩ := or_f q936
          obtain ⟨q940, q941⟩ := or_f q938
          obtain ⟨q942, q943⟩ := or_f q940
          obtain ⟨q944, q945⟩ := or_f q942
          obtain ⟨q946, q947⟩ := or_f q944
          obtain ⟨q948, q949⟩ := or_f q946
          obtain ⟨q950, q951⟩ := or_f q948
          obtain ⟨q952, q953⟩ := or_f q950
          have q954 := d_t (not_f q935)
          have q955 := d_t (not_f q933)
          have q956 := d_t (not_f q927)
          exact r_move rfl) rfl ?_
    refine ao_readG (x := .v (.slice (.arr 6 (.int .i64))) r2.1) rfl (GV.F rfl) (fun hg957 => by
          obtain ⟨q958, q959⟩ := or_f (not_t hg957)
          obtain ⟨q960, q961⟩ := or_f q958
          obtain ⟨q962, q963⟩ := or_f q960
          obtain ⟨q964, q965⟩ := or_f q962
          obtain ⟨q966, q967⟩ := or_f q964
          obtain ⟨q968, q969⟩ := or_f q966
          obtain ⟨q970, q971⟩ := or_f q968
          obtain ⟨q972, q973⟩ := or_f q970
          obtain ⟨q974, q975⟩ := or_f q972
          obtain ⟨q976, q977⟩ := or_f q974
          obtain ⟨q978, q979⟩ := or_f q976
          obtain ⟨q980, q981⟩ := or_f q978
          obtain ⟨q982, q983⟩ := or_f q980
          obtain ⟨q984, q985⟩ := or_f q982
          obtain ⟨q986, q987⟩ := or_f q984
          obtain ⟨q988, q989⟩ := or_f q986
          have q990 := d_t (not_f q971)
          have q991 := d_t (not_f q969)
          have q992 := d_t (not_f q963)
          exact r_move rfl) rfl ?_
    refine ao_scallG (r := .bool (p_impl_IsPool r2.1)) rfl (GV.F rfl) (fun hg993 => by
          obtain ⟨q994, q995⟩ := or_f (not_t hg993)
          obtain ⟨q996, q997⟩ := or_f q994
          obtain ⟨q998, q999⟩ := or_f q996
          obtain ⟨q1000, q1001⟩ := or_f q998
          obtain ⟨q1002, q1003⟩ := or_f q1000
          obtain ⟨q1004, q1005⟩ := or_f q1002
          obtain ⟨q1006, q1007⟩ := or_f q1004
          obtain ⟨q1008, q1009⟩ := or_f q1006
          obtain ⟨q1010, q1011⟩ := or_f q1008
          obtain ⟨q1012, q1013⟩ := or_f q1010
          obtain ⟨q1014, q1015⟩ := or_f q1012
          obtain ⟨q1016, q1017⟩ := or_f q1014
          obtain ⟨q1018, q1019⟩ := or_f q1016
          obtain ⟨q1020, q1021⟩ := or_f q1018
          obtain ⟨q1022, q1023⟩ := or_f q1020
          obtain ⟨q1024, q1025⟩ := or_f q1022
          have q1026 := d_t (not_f q1007)
          have q1027 := d_t (not_f q1005)
          have q1028 := d_t (not_f q999)
          exact SCall.strip 216 rfl (hg993) (scall (c_impl_IsPool (is_mk (rfl : p_impl_IsPool r2.1 = _))) rfl Try.func25 rfl rfl rfl rfl (fun σ => ⟨ad_ren rfl, trivial⟩))) rfl ?_
    refine ao_readG (x := .bool (r3.2 != (p_impl_IsPool r2.1))) rfl (GV.F rfl) (fun hg1029 => by
          obtain ⟨q1030, q1031⟩ := or_f (not_t hg1029)
          obtain ⟨q1032, q1033⟩ := or_f q1030
          obtain ⟨q1034, q1035⟩ := or_f q1032
          obtain ⟨q1036, q1037⟩ := or_f q1034
          obtain ⟨q1038, q1039⟩ := or_f q1036
          obtain ⟨q1040, q1041⟩ := or_f q1038
          obtain ⟨q1042, q1043⟩ := or_f q1040
          obtain ⟨q1044, q1045⟩ := or_f q1042
          obtain ⟨q1046, q1047⟩ := or_f q1044
          obtain ⟨q1048, q1049⟩ := or_f q1046
          obtain ⟨q1050, q1051⟩ := or_f q1048
          obtain ⟨q1052, q1053⟩ := or_f q1050
          obtain ⟨q1054, q1055⟩ := or_f q1052
          obtain ⟨q1056, q1057⟩ := or_f q1054
          obtain ⟨q1058, q1059⟩ := or_f q1056
          obtain ⟨q1060, q1061⟩ := or_f q1058
          have q1062 := d_t (not_f q1043)
          have q1063 := d_t (not_f q1041)
          have q1064 := d_t (not_f q1035)
          exact Reads.strip 215 rfl (hg1029) (Reads.strip 217 rfl (hg1029) (r_neq_bool Try.underlying4 rfl rfl))) rfl ?_
    refine ao_read trivial (r_orB rfl rfl) rfl ?_
    refine ao_read trivial (r_move rfl) rfl ?_
    refine ao_readG (x := .bool r3.2) rfl (GV.F rfl) (fun hg1065 => by
          obtain ⟨q1066, q1067⟩ := or_f (not_t hg1065)
          obtain ⟨q1068, q1069⟩ := or_f q1066
          obtain ⟨q1070, q1071⟩ := or_f q1068
          obtain ⟨q1072, q1073⟩ := or_f q1070
          obtain ⟨q1074, q1075⟩ := or_f q1072
          obtain ⟨q1076, q1077⟩ := or_f q1074
          obtain ⟨q1078, q1079⟩ := or_f q1076
          obtain ⟨q1080, q1081⟩ := or_f q1078
          obtain ⟨q1082, q1083⟩ := or_f q1080
          obtain ⟨q1084, q1085⟩ := or_f q1082
          obtain ⟨q1086, q1087⟩ := or_f q1084
          obtain ⟨q1088, q1089⟩ := or_f q1086
          obtain ⟨q1090, q1091⟩ := or_f q1088
          obtain ⟨q1092, q1093⟩ := or_f q1090
          obtain ⟨q1094, q1095⟩ := or_f q1092
          obtain ⟨q1096, q1097⟩ := or_f q1094
          obtain ⟨q1098, q1099⟩ := or_f q1096
          have q1100 := d_t (not_f q1081)
          have q1101 := d_t (not_f q1079)
          have q1102 := d_t (not_f q1073)
          exact r_move rfl) rfl ?_
    refine ao_readG (x := .bool r9.2) rfl (GV.F rfl) (fun hg1103 => by
          obtain ⟨q1104, q1105⟩ := or_f (not_t hg1103)
          obtain ⟨q1106, q1107⟩ := or_f q1104
          obtain ⟨q1108, q1109⟩ := or_f q1106
          obtain ⟨q1110, q1111⟩ := or_f q1108
          obtain ⟨q1112, q1113⟩ := or_f q1110
          obtain ⟨q1114, q1115⟩ := or_f q1112
          obtain ⟨q1116, q1117⟩ := or_f q1114
          obtain ⟨q1118, q1119⟩ := or_f q1116
          obtain ⟨q1120, q1121⟩ := or_f q1118
          obtain ⟨q1122, q1123⟩ := or_f q1120
          obtain ⟨q1124, q1125⟩ := or_f q1122
          obtain ⟨q1126, q1127⟩ := or_f q1124
          obtain ⟨q1128, q1129⟩ := or_f q1126
          obtain ⟨q1130, q1131⟩ := or_f q1128
          obtain ⟨q1132, q1133⟩ := or_f q1130
          obtain ⟨q1134, q1135⟩ := or_f q1132
          obtain ⟨q1136, q1137⟩ := or_f q1134
          have q1138 := d_t (not_f q1119)
          have q1139 := d_t (not_f q1117)
          have q1140 := d_t (not_f q1111)
          exact r_move rfl) rfl ?_
    refine ao_readG (x := .bool (r3.2 != r9.2)) rfl (GV.F rfl) (fun hg1141 => by
          obtain ⟨q1142, q1143⟩ := or_f (not_t hg1141)
          obtain ⟨q1144, q1145⟩ := or_f q1142
          obtain ⟨q1146, q1147⟩ := or_f q1144
          obtain ⟨q1148, q1149⟩ := or_f q1146
          obtain ⟨q1150, q1151⟩ := or_f q1148
          obtain ⟨q1152, q1153⟩ := or_f q1150
          obtain ⟨q1154, q1155⟩ := or_f q1152
          obtain ⟨q1156, q1157⟩ := or_f q1154
          obtain ⟨q1158, q1159⟩ := or_f q1156
          obtain ⟨q1160, q1161⟩ := or_f q1158
          obtain ⟨q1162, q1163⟩ := or_f q1160
          obtain ⟨q1164, q1165⟩ := or_f q1162
          obtain ⟨q1166, q1167⟩ := or_f q1164
          obtain ⟨q1168, q1169⟩ := or_f q1166
          obtain ⟨q1170, q1171⟩ := or_f q1168
          obtain ⟨q1172, q1173⟩ := or_f q1170
          obtain ⟨q1174, q1175⟩ := or_f q1172
          have q1176 := d_t (not_f q1157)
          have q1177 := d_t (not_f q1155)
          have q1178 := d_t (not_f q1149)
          exact Reads.strip 221 rfl (hg1141) (Reads.strip 222 rfl (hg1141) (r_neq_bool Try.underlying4 rfl rfl))) rfl ?_
    refine ao_read trivial (r_orB rfl rfl) rfl ?_
    refine ao_read trivial (r_move rfl) rfl ?_
    refine ao_readG (x := .bool r3.2) rfl (GV.F rfl) (fun hg1179 => by
          obtain ⟨q1180, q1181⟩ := or_f (not_t hg1179)
          obtain ⟨q1182, q1183⟩ := or_f q1180
          obtain ⟨q1184, q1185⟩ := or_f q1182
          obtain ⟨q1186, q1187⟩ := or_f q1184
          obtain ⟨q1188, q1189⟩ := or_f q1186
          obtain ⟨q1190, q1191⟩ := or_f q1188
          obtain ⟨q1192, q1193⟩ := or_f q1190
          obtain ⟨q1194, q1195⟩ := or_f q1192
          obtain ⟨q1196, q1197⟩ := or_f q1194
          obtain ⟨q1198, q1199⟩ := or_f q1196
          obtain ⟨q1200, q1201⟩ := or_f q1198
          obtain ⟨q1202, q1203⟩ := or_f q1200
          obtain ⟨q1204, q1205⟩ := or_f q1202
          obtain ⟨q1206, q1207⟩ := or_f q1204
          obtain ⟨q1208, q1209⟩ := or_f q1206
          obtain ⟨q1210, q1211⟩ := or_f q1208
          obtain ⟨q1212, q1213⟩ := or_f q1210
          obtain ⟨q1214, q1215⟩ := or_f q1212
          have q1216 := d_t (not_f q1197)
          have q1217 := d_t (not_f q1195)
          have q1218 := d_t (not_f q1189)
          exact r_move rfl) rfl ?_
    refine ao_readG (x := .bool r11.2) rfl (GV.F rfl) (fun hg1219 => by
          obtain ⟨q1220, q1221⟩ := or_f (not_t hg1219)
          obtain ⟨q1222, q1223⟩ := or_f q1220
          obtain ⟨q1224, q1225⟩ := or_f q1222
          obtain ⟨q1226, q1227⟩ := or_f q1224
          obtain ⟨q1228, q1229⟩ := or_f q1226
          obtain ⟨q1230, q1231⟩ := or_f q1228
          obtain ⟨q1232, q1233⟩ := or_f q1230
          obtain ⟨q1234, q1235⟩ := or_f q1232
          obtain ⟨q1236, q1237⟩ := or_f q1234
          obtain ⟨q1238, q1239⟩ := or_f q1236
          obtain ⟨q1240, q1241⟩ := or_f q1238
          obtain ⟨q1242, q1243⟩ := or_f q1240
          obtain ⟨q1244, q1245⟩ := or_f q1242
          obtain ⟨q1246, q1247⟩ := or_f q1244
          obtain ⟨q1248, q1249⟩ := or_f q1246
          obtain ⟨q1250, q1251⟩ := or_f q1248
          obtain ⟨q1252, q1253⟩ := or_f q1250
          obtain ⟨q1254, q1255⟩ := or_f q1252
          have q1256 := d_t (not_f q1237)
          have q1257 := d_t (not_f q1235)
          have q1258 := d_t (not_f q1229)
          exact r_move rfl) rfl ?_
    refine ao_readG (x := .bool (r3.2 != r11.2)) rfl (GV.F rfl) (fun hg1259 => by
          obtain ⟨q1260, q1261⟩ := or_f (not_t hg1259)
          obtain ⟨q1262, q1263⟩ := or_f q1260
          obtain ⟨q1264, q1265⟩ := or_f q1262
          obtain ⟨q1266, q1267⟩ := or_f q1264
          obtain ⟨q1268, q1269⟩ := or_f q1266
          obtain ⟨q1270, q1271⟩ := or_f q1268
          obtain ⟨q1272, q1273⟩ := or_f q1270
          obtain ⟨q1274, q1275⟩ := or_f q1272
          obtain ⟨q1276, q1277⟩ := or_f q1274
          obtain ⟨q1278, q1279⟩ := or_f q1276
          obtain ⟨q1280, q1281⟩ := or_f q1278
          obtain ⟨q1282, q1283⟩ := or_f q1280
          obtain ⟨q1284, q1285⟩ := or_f q1282
          obtain ⟨q1286, q1287⟩ := or_f q1284
          obtain ⟨q1288, q1289⟩ := or_f q1286
          obtain ⟨q1290, q1291⟩ := or_f q1288
          obtain ⟨q1292, q1293⟩ := or_f q1290
          obtain ⟨q1294, q1295⟩ := or_f q1292
          have q1296 := d_t (not_f q1277)
          have q1297 := d_t (not_f q1275)
          have q1298 := d_t (not_f q1269)
          exact Reads.strip 226 rfl (hg1259) (Reads.strip 227 rfl (hg1259) (r_neq_bool Try.underlying4 rfl rfl))) rfl ?_
    refine ao_read trivial (r_orB rfl rfl) rfl ?_
    refine ao_read trivial (r_move rfl) rfl ?_
    refine ao_readG (x := .bool r3.2) rfl (GV.F rfl) (fun hg1299 => by
          obtain ⟨q1300, q1301⟩ := or_f (not_t hg1299)
          obtain ⟨q1302, q1303⟩ := or_f q1300
          obtain ⟨q1304, q1305⟩ := or_f q1302
          obtain ⟨q1306, q1307⟩ := or_f q1304
          obtain ⟨q1308, q1309⟩ := or_f q1306
          obtain ⟨q1310, q1311⟩ := or_f q1308
          obtain ⟨q1312, q1313⟩ := or_f q1310
          obtain ⟨q1314, q1315⟩ := or_f q1312
          obtain ⟨q1316, q1317⟩ := or_f q1314
          obtain ⟨q1318, q1319⟩ := or_f q1316
          obtain ⟨q1320, q1321⟩ := or_f q1318
          obtain ⟨q1322, q1323⟩ := or_f q1320
          obtain ⟨q1324, q1325⟩ := or_f q1322
          obtain ⟨q1326, q1327⟩ := or_f q1324
          obtain ⟨q1328, q1329⟩ := or_f q1326
          obtain ⟨q1330, q1331⟩ := or_f q1328
          obtain ⟨q1332, q1333⟩ := or_f q1330
          obtain ⟨q1334, q1335⟩ := or_f q1332
          obtain ⟨q1336, q1337⟩ := or_f q1334
          have q1338 := d_t (not_f q1319)
          have q1339 := d_t (not_f q1317)
          have q1340 := d_t (not_f q1311)
          exact r_move rfl) rfl ?_
    refine ao_readG (x := .bool ((p_impl_BoundsOf r2.1).2.2)) rfl (GV.F rfl) (fun hg1341 => by
          obtain ⟨q1342, q1343⟩ := or_f (not_t hg1341)
          obtain ⟨q1344, q1345⟩ := or_f q1342
          obtain ⟨q1346, q1347⟩ := or_f q1344
          obtain ⟨q1348, q1349⟩ := or_f q1346
          obtain ⟨q1350, q1351⟩ := or_f q1348
          obtain ⟨q1352, q1353⟩ := or_f q1350
          obtain ⟨q1354, q1355⟩ := or_f q1352
          obtain ⟨q1356, q1357⟩ := or_f q1354
          obtain ⟨q1358, q1359⟩ := or_f q1356
          obtain ⟨q1360, q1361⟩ := or_f q1358
          obtain ⟨q1362, q1363⟩ := or_f q1360
          obtain ⟨q1364, q1365⟩ := or_f q1362
          obtain ⟨q1366, q1367⟩ := or_f q1364
          obtain ⟨q1368, q1369⟩ := or_f q1366
          obtain ⟨q1370, q1371⟩ := or_f q1368
          obtain ⟨q1372, q1373⟩ := or_f q1370
          obtain ⟨q1374, q1375⟩ := or_f q1372
          obtain ⟨q1376, q1377⟩ := or_f q1374
          obtain ⟨q1378, q1379⟩ := or_f q1376
          have q1380 := d_t (not_f q1361)
          have q1381 := d_t (not_f q1359)
          have q1382 := d_t (not_f q1353)
          exact r_move rfl) rfl ?_
    refine ao_readG (x := .bool (r3.2 != ((p_impl_BoundsOf r2.1).2.2))) rfl (GV.F rfl) (fun hg1383 => by
          obtain ⟨q1384, q1385⟩ := or_f (not_t hg1383)
          obtain ⟨q1386, q1387⟩ := or_f q1384
          obtain ⟨q1388, q1389⟩ := or_f q1386
          obtain ⟨q1390, q1391⟩ := or_f q1388
          obtain ⟨q1392, q1393⟩ := or_f q1390
          obtain ⟨q1394, q1395⟩ := or_f q1392
          obtain ⟨q1396, q1397⟩ := or_f q1394
          obtain ⟨q1398, q1399⟩ := or_f q1396
          obtain ⟨q1400, q1401⟩ := or_f q1398
          obtain ⟨q1402, q1403⟩ := or_f q1400
          obtain ⟨q1404, q1405⟩ := or_f q1402
          obtain ⟨q1406, q1407⟩ := or_f q1404
          obtain ⟨q1408, q1409⟩ := or_f q1406
          obtain ⟨q1410, q1411⟩ := or_f q1408
          obtain ⟨q1412, q1413⟩ := or_f q1410
          obtain ⟨q1414, q1415⟩ := or_f q1412
          obtain ⟨q1416, q1417⟩ := or_f q1414
          obtain ⟨q1418, q1419⟩ := or_f q1416
          obtain ⟨q1420, q1421⟩ := or_f q1418
          have q1422 := d_t (not_f q1403)
          have q1423 := d_t (not_f q1401)
          have q1424 := d_t (not_f q1395)
          exact Reads.strip 231 rfl (hg1383) (Reads.strip 232 rfl (hg1383) (r_neq_bool Try.underlying4 rfl rfl))) rfl ?_
    refine ao_read trivial (r_orB rfl rfl) rfl ?_
    refine ao_read trivial (r_move rfl) rfl ?_
    refine ao_readG (x := .bool r3.2) rfl (GV.F rfl) (fun hg1425 => by
          obtain ⟨q1426, q1427⟩ := or_f (not_t hg1425)
          obtain ⟨q1428, q1429⟩ := or_f q1426
          obtain ⟨q1430, q1431⟩ := or_f q1428
          obtain ⟨q1432, q1433⟩ := or_f q1430
          obtain ⟨q1434, q1435⟩ := or_f q1432
          obtain ⟨q1436, q1437⟩ := or_f q1434
          obtain ⟨q1438, q1439⟩ := or_f q1436
          obtain ⟨q1440, q1441⟩ := or_f q1438
          obtain ⟨q1442, q1443⟩ := or_f q1440
          obtain ⟨q1444, q1445⟩ := or_f q1442
          obtain ⟨q1446, q1447⟩ := or_f q1444
          obtain ⟨q1448, q1449⟩ := or_f q1446
          obtain ⟨q1450, q1451⟩ := or_f q1448
          obtain ⟨q1452, q1453⟩ := or_f q1450
          obtain ⟨q1454, q1455⟩ := or_f q1452
          obtain ⟨q1456, q1457⟩ := or_f q1454
          obtain ⟨q1458, q1459⟩ := or_f q1456
          obtain ⟨q1460, q1461⟩ := or_f q1458
          obtain ⟨q1462, q1463⟩ := or_f q1460
          obtain ⟨q1464, q1465⟩ := or_f q1462
          have q1466 := d_t (not_f q1447)
          have q1467 := d_t (not_f q1445)
          have q1468 := d_t (not_f q1439)
          exact r_move rfl) rfl ?_
    refine ao_readG (x := .bool r14.2.2) rfl (GV.F rfl) (fun hg1469 => by
          obtain ⟨q1470, q1471⟩ := or_f (not_t hg1469)
          obtain ⟨q1472, q1473⟩ := or_f q1470
          obtain ⟨q1474, q1475⟩ := or_f q1472
          obtain ⟨q1476, q1477⟩ := or_f q1474
          obtain ⟨q1478, q1479⟩ := or_f q1476
          obtain ⟨q1480, q1481⟩ := or_f q1478
          obtain ⟨q1482, q1483⟩ := or_f q1480
          obtain ⟨q1484, q1485⟩ := or_f q1482
          obtain ⟨q1486, q1487⟩ := or_f q1484
          obtain ⟨q1488, q1489⟩ := or_f q1486
          obtain ⟨q1490, q1491⟩ := or_f q1488
          obtain ⟨q1492, q1493⟩ := or_f q1490
          obtain ⟨q1494, q1495⟩ := or_f q1492
          obtain ⟨q1496, q1497⟩ := or_f q1494
          obtain ⟨q1498, q1499⟩ := or_f q1496
          obtain ⟨q1500, q1501⟩ := or_f q1498
          obtain ⟨q1502, q1503⟩ := or_f q1500
          obtain ⟨q1504, q1505⟩ := or_f q1502
          obtain ⟨q1506, q1507⟩ := or_f q1504
          obtain ⟨q1508, q1509⟩ := or_f q1506
          have q1510 := d_t (not_f q1491)
          have q1511 := d_t (not_f q1489)
          have q1512 := d_t (not_f q1483)
          exact r_move rfl) rfl ?_
    refine ao_readG (x := .bool (r3.2 != r14.2.2)) rfl (GV.F rfl) (fun hg1513 => by
          obtain ⟨q1514, q1515⟩ := or_f (not_t hg1513)
          obtain ⟨q1516, q1517⟩ := or_f q1514
          obtain ⟨q1518, q1519⟩ := or_f q1516
          obtain ⟨q1520, q1521⟩ := or_f q1518
          obtain ⟨q1522, q1523⟩ := or_f q1520
          obtain ⟨q1524, q1525⟩ := or_f q1522
          obtain ⟨q1526, q1527⟩ := or_f q1524
          obtain ⟨q1528, q1529⟩ := or_f q1526
          obtain ⟨q1530, q1531⟩ := or_f q1528
          obtain ⟨q1532, q1533⟩ := or_f q1530
          obtain ⟨q1534, q1535⟩ := or_f q1532
          obtain ⟨q1536, q1537⟩ := or_f q1534
          obtain ⟨q1538, q1539⟩ := or_f q1536
          obtain ⟨q1540, q1541⟩ := or_f q1538
          obtain ⟨q1542, q1543⟩ := or_f q1540
          obtain ⟨q1544, q1545⟩ := or_f q1542
          obtain ⟨q1546, q1547⟩ := or_f q1544
          obtain ⟨q1548, q1549⟩ := or_f q1546
          obtain ⟨q1550, q1551⟩ := or_f q1548
          obtain ⟨q1552, q1553⟩ := or_f q1550
          have q1554 := d_t (not_f q1535)
          have q1555 := d_t (not_f q1533)
          have q1556 := d_t (not_f q1527)
          exact Reads.strip 236 rfl (hg1513) (Reads.strip 237 rfl (hg1513) (r_neq_bool Try.underlying4 rfl rfl))) rfl ?_
    refine ao_read trivial (r_orB rfl rfl) rfl ?_
    refine ao_read trivial (r_move rfl) rfl ?_
    refine ao_readG (x := .bool r5.2) rfl (GV.F rfl) (fun hg1557 => by
          obtain ⟨q1558, q1559⟩ := or_f (not_t hg1557)
          obtain ⟨q1560, q1561⟩ := or_f q1558
          obtain ⟨q1562, q1563⟩ := or_f q1560
          obtain ⟨q1564, q1565⟩ := or_f q1562
          obtain ⟨q1566, q1567⟩ := or_f q1564
          obtain ⟨q1568, q1569⟩ := or_f q1566
          obtain ⟨q1570, q1571⟩ := or_f q1568
          obtain ⟨q1572, q1573⟩ := or_f q1570
          obtain ⟨q1574, q1575⟩ := or_f q1572
          obtain ⟨q1576, q1577⟩ := or_f q1574
          obtain ⟨q1578, q1579⟩ := or_f q1576
          obtain ⟨q1580, q1581⟩ := or_f q1578
          obtain ⟨q1582, q1583⟩ := or_f q1580
          obtain ⟨q1584, q1585⟩ := or_f q1582
          obtain ⟨q1586, q1587⟩ := or_f q1584
          obtain ⟨q1588, q1589⟩ := or_f q1586
          obtain ⟨q1590, q1591⟩ := or_f q1588
          obtain ⟨q1592, q1593⟩ := or_f q1590
          obtain ⟨q1594, q1595⟩ := or_f q1592
          obtain ⟨q1596, q1597⟩ := or_f q1594
          obtain ⟨q1598, q1599⟩ := or_f q1596
          have q1600 := d_t (not_f q1581)
          have q1601 := d_t (not_f q1579)
          have q1602 := d_t (not_f q1573)
          exact r_move rfl) rfl ?_
    refine ao_readG (x := .bool r7.2) rfl (GV.F rfl) (fun hg1603 => by
          obtain ⟨q1604, q1605⟩ := or_f (not_t hg1603)
          obtain ⟨q1606, q1607⟩ := or_f q1604
          obtain ⟨q1608, q1609⟩ := or_f q1606
          obtain ⟨q1610, q1611⟩ := or_f q1608
          obtain ⟨q1612, q1613⟩ := or_f q1610
          obtain ⟨q1614, q1615⟩ := or_f q1612
          obtain ⟨q1616, q1617⟩ := or_f q1614
          obtain ⟨q1618, q1619⟩ := or_f q1616
          obtain ⟨q1620, q1621⟩ := or_f q1618
          obtain ⟨q1622, q1623⟩ := or_f q1620
          obtain ⟨q1624, q1625⟩ := or_f q1622
          obtain ⟨q1626, q1627⟩ := or_f q1624
          obtain ⟨q1628, q1629⟩ := or_f q1626
          obtain ⟨q1630, q1631⟩ := or_f q1628
          obtain ⟨q1632, q1633⟩ := or_f q1630
          obtain ⟨q1634, q1635⟩ := or_f q1632
          obtain ⟨q1636, q1637⟩ := or_f q1634
          obtain ⟨q1638, q1639⟩ := or_f q1636
          obtain ⟨q1640, q1641⟩ := or_f q1638
          obtain ⟨q1642, q1643⟩ := or_f q1640
          obtain ⟨q1644, q1645⟩ := or_f q1642
          have q1646 := d_t (not_f q1627)
          have q1647 := d_t (not_f q1625)
          have q1648 := d_t (not_f q1619)
          exact r_move rfl) rfl ?_
    refine ao_readG (x := .bool (r5.2 != r7.2)) rfl (GV.F rfl) (fun hg1649 => by
          obtain ⟨q1650, q1651⟩ := or_f (not_t hg1649)
          obtain ⟨q1652, q1653⟩ := or_f q1650
          obtain ⟨q1654, q1655⟩ := or_f q1652
          obtain ⟨q1656, q1657⟩ := or_f q1654
          obtain ⟨q1658, q1659⟩ := or_f q1656
          obtain ⟨q1660, q1661⟩ := or_f q1658
          obtain ⟨q1662, q1663⟩ := or_f q1660
          obtain ⟨q1664, q1665⟩ := or_f q1662
          obtain ⟨q1666, q1667⟩ := or_f q1664
          obtain ⟨q1668, q1669⟩ := or_f q1666
          obtain ⟨q1670, q1671⟩ := or_f q1668
          obtain ⟨q1672, q1673⟩ := or_f q1670
          obtain ⟨q1674, q1675⟩ := or_f q1672
          obtain ⟨q1676, q1677⟩ := or_f q1674
          obtain ⟨q1678, q1679⟩ := or_f q1676
          obtain ⟨q1680, q1681⟩ := or_f q1678
          obtain ⟨q1682, q1683⟩ := or_f q1680
          obtain ⟨q1684, q1685⟩ := or_f q1682
          obtain ⟨q1686, q1687⟩ := or_f q1684
          obtain ⟨q1688, q1689⟩ := or_f q1686
          obtain ⟨q1690, q1691⟩ := or_f q1688
          have q1692 := d_t (not_f q1673)
          have q1693 := d_t (not_f q1671)
          have q1694 := d_t (not_f q1665)
          exact Reads.strip 241 rfl (hg1649) (Reads.strip 242 rfl (hg1649) (r_neq_bool Try.underlying4 rfl rfl))) rfl ?_
    refine ao_read trivial (r_orB rfl rfl) rfl ?_
    refine ao_nil ?_
    refine aq_then ?_
    refine aw_cond rfl (fun hb1695 => ?_) (fun hb1695 => ?_)
    · replace h := is_if hb1695 h
      refine aw_seq ?_
      refine aw_region ?_
      refine ao_read trivial (r_assign rfl) rfl ?_
      refine ao_nil ?_
      refine aq_then ?_
      refine aw_ret ?_
      refine aq_then_ret ?_
      refine aq_ret ?_
      obtain rfl := is_some h
      exact aq_finx (l := [.tmp 2]) (xs := [.bool false]) idn [.bool false] [] rfl (by exact ⟨rfl, trivial⟩) (by exact ⟨ad_ren rfl, trivial⟩) (by exact trivial) rfl (nk rfl) rfl rfl ⟨rfl, rfl⟩
    · obtain ⟨q1696, q1697⟩ := or_f hb1695
      obtain ⟨q1698, q1699⟩ := or_f q1696
      obtain ⟨q1700, q1701⟩ := or_f q1698
      obtain ⟨q1702, q1703⟩ := or_f q1700
      obtain ⟨q1704, q1705⟩ := or_f q1702
      obtain ⟨q1706, q1707⟩ := or_f q1704
      obtain ⟨q1708, q1709⟩ := or_f q1706
      obtain ⟨q1710, q1711⟩ := or_f q1708
      obtain ⟨q1712, q1713⟩ := or_f q1710
      obtain ⟨q1714, q1715⟩ := or_f q1712
      obtain ⟨q1716, q1717⟩ := or_f q1714
      obtain ⟨q1718, q1719⟩ := or_f q1716
      obtain ⟨q1720, q1721⟩ := or_f q1718
      obtain ⟨q1722, q1723⟩ := or_f q1720
      obtain ⟨q1724, q1725⟩ := or_f q1722
      obtain ⟨q1726, q1727⟩ := or_f q1724
      obtain ⟨q1728, q1729⟩ := or_f q1726
      obtain ⟨q1730, q1731⟩ := or_f q1728
      obtain ⟨q1732, q1733⟩ := or_f q1730
      obtain ⟨q1734, q1735⟩ := or_f q1732
      obtain ⟨q1736, q1737⟩ := or_f q1734
      obtain ⟨q1738, q1739⟩ := or_f q1736
      have q1740 := d_t (not_f q1721)
      have q1741 := d_t (not_f q1719)
      have q1742 := d_t (not_f q1713)
      replace h := is_else (ne_t hb1695) h
      refine aw_skip ?_
      refine aq_then ?_
      refine aw_seq ?_
      refine aw_seq ?_
      refine aw_region ?_
      refine ao_read trivial (r_move rfl) rfl ?_
      refine ao_read trivial (r_not rfl) rfl ?_
      refine ao_nil ?_
      refine aq_then ?_
      refine aw_cond rfl (fun hb1743 => ?_) (fun hb1743 => ?_)
      · replace h := is_else (ne_t (not_t hb1743)) h
        refine aw_seq ?_
        refine aw_region ?_
        refine ao_read trivial (r_assign rfl) rfl ?_
        refine ao_nil ?_
        refine aq_then ?_
        refine aw_ret ?_
        refine aq_then_ret ?_
        refine aq_ret ?_
        obtain rfl := is_some h
        exact aq_finx (l := [.tmp 2]) (xs := [.bool true]) idn [.bool true] [] rfl (by exact ⟨rfl, trivial⟩) (by exact ⟨ad_ren rfl, trivial⟩) (by exact trivial) rfl (nk rfl) rfl rfl ⟨rfl, rfl⟩
      · replace h := is_if (not_f hb1743) h
        refine aw_skip ?_
        refine aq_then ?_
        refine aw_seq ?_
        refine aw_region ?_
        refine ao_read trivial (r_assign rfl) rfl ?_
        refine ao_read trivial (r_assign rfl) rfl ?_
        refine ao_read trivial (r_assign rfl) rfl ?_
        refine ao_read trivial (r_assign rfl) rfl ?_
        refine ao_nil ?_
        refine aq_then ?_
        refine aw_seq ?_
        refine aw_seq ?_
        refine aw_region ?_
        refine ao_read trivial (r_assign rfl) rfl ?_
        refine ao_nil ?_
        refine aq_then ?_
        refine aw_block ?_
        refine aw_loop (AL.sub (fr' := [(3, .v (.slice (.arr 6 (.int .i64))) r2.1), (4, .int .i64 r2.2), (5, .ref 0 0), (9, .ref 1 0), (10, .bool r5.2), (13, .ref 2 0), (17, .ref 3 0), (21, .ref 4 0), (25, .int .i64 ((p_impl_BoundsOf r2.1).1)), (26, .int .i64 ((p_impl_BoundsOf r2.1).2.1)), (31, .os 5), (32, .int .i64 r14.2.1), (37, .int .i64 0), (38, .int .i64 0), (39, .int .i64 0), (40, .int .i64 0), (41, .int .i64 0)]) (H' := [(0, .var [.arr (.int .i64) 121 r3.1]), (1, .var [.arr (.int .i64) 2 r5.1]), (2, .var [.arr (.int .i64) 2 r7.1]), (3, .var [.arr (.int .i64) 2 r9.1]), (4, .var [.arr (.int .i64) 2 r11.1]), (5, .row (.int .i64) r14.1)]) (sub_mk (rn [(1, 2), (2, 4), (3, 6), (4, 8), (5, 10)]) (by exact ⟨⟨_, rfl, ad_ren rfl⟩, ⟨_, rfl, ad_ren rfl⟩, ⟨_, rfl, ad_ren rfl⟩, ⟨_, rfl, ad_ren rfl⟩, ⟨_, rfl, ad_ren rfl⟩, ⟨_, rfl, ad_ren rfl⟩, ⟨_, rfl, ad_ren rfl⟩, ⟨_, rfl, ad_ren rfl⟩, ⟨_, rfl, ad_ren rfl⟩, ⟨_, rfl, ad_ren rfl⟩, ⟨_, rfl, ad_ren rfl⟩, ⟨_, rfl, ad_ren rfl⟩, ⟨_, rfl, ad_ren rfl⟩, ⟨_, rfl, ad_ren rfl⟩, ⟨_, rfl, ad_ren rfl⟩, ⟨_, rfl, ad_ren rfl⟩, ⟨_, rfl, ad_ren rfl⟩, trivial⟩) (by exact ⟨⟨_, rfl, ⟨rfl, trivial⟩⟩, ⟨_, rfl, ⟨rfl, trivial⟩⟩, ⟨_, rfl, ⟨rfl, trivial⟩⟩, ⟨_, rfl, ⟨rfl, trivial⟩⟩, ⟨_, rfl, ⟨rfl, trivial⟩⟩, ⟨_, rfl, rfl⟩, trivial⟩) (by rfl) (nk rfl)) (al_cnt (fun i1745 (s1744 : Int × Int × Int × Int) => [(3, .v (.slice (.arr 6 (.int .i64))) r2.1), (4, .int .i64 r2.2), (5, .ref 0 0), (9, .ref 1 0), (10, .bool r5.2), (13, .ref 2 0), (17, .ref 3 0), (21, .ref 4 0), (25, .int .i64 ((p_impl_BoundsOf r2.1).1)), (26, .int .i64 ((p_impl_BoundsOf r2.1).2.1)), (31, .os 5), (32, .int .i64 r14.2.1), (37, .int .i64 s1744.1), (38, .int .i64 s1744.2.1), (39, .int .i64 s1744.2.2.1), (40, .int .i64 s1744.2.2.2), (41, .int .i64 i1745)]) (fun i1745 (s1744 : Int × Int × Int × Int) => [(0, .var [.arr (.int .i64) 121 r3.1]), (1, .var [.arr (.int .i64) 2 r5.1]), (2, .var [.arr (.int .i64) 2 r7.1]), (3, .var [.arr (.int .i64) 2 r9.1]), (4, .var [.arr (.int .i64) 2 r11.1]), (5, .row (.int .i64) r14.1)]) (fun d i1745 (s1744 : Int × Int × Int × Int) => d = Int.toNat (121 - i1745) ∧ 0 ≤ s1744.2.2.2 ∧ 0 ≤ i1745 ∧ i1745 ≤ 121) h ⟨rfl, (by (try simp only [List.length_set, List.length_append, List.length_cons, List.length_nil, List.length_replicate, List.length_take, List.length_drop]) <;> omega), (by (try simp only [List.length_set, List.length_append, List.length_cons, List.length_nil, List.length_replicate, List.length_take, List.length_drop]) <;> omega), (by (try simp only [List.length_set, List.length_append, List.length_cons, List.length_nil, List.length_replicate, List.length_take, List.length_drop]) <;> omega)⟩ (fun d1746 i1745 s1744 hI h ih1746 => ?_)))
        obtain ⟨hd, _, _, _⟩ := hI
        refine al_round ?_
        refine aw_seq ?_
        refine aw_seq ?_
        refine aw_region ?_
        refine ao_read trivial (r_move rfl) rfl ?_
        refine ao_read trivial (r_lss rfl rfl) rfl ?_
        refine ao_nil ?_
        refine aq_then ?_
        refine aw_cond rfl (fun hb1748 => ?_) (fun hb1748 => ?_)
        · have q1749 := d_t hb1748
          obtain ⟨d1746, rfl⟩ : ∃ e, d1746 = e + 1 := ⟨d1746 - 1, by omega⟩
          replace h := is_cntS h
          refine aw_skip ?_
          refine aq_then ?_
          refine aw_seq ?_
          refine aw_block ?_
          refine aw_seq ?_
          refine aw_region ?_
          refine ao_read trivial (r_move rfl) rfl ?_
          refine ao_read trivial (r_move rfl) rfl ?_
          refine ao_read trivial (r_idxAddr_arr (i := i1745) Try.underlying27 Try.sizeOf3 rfl rfl (show 0 ≤ i1745 from by omega) (show i1745 < (121 : Int) from by omega)) rfl ?_
          refine ao_read trivial (r_load_elema_int Try.isAgg3 Try.sizeOf3 rfl rfl rfl (show i1745.toNat < 121 from by omega)) rfl ?_
          refine ao_read trivial (r_add rfl rfl) rfl ?_
          refine ao_read trivial (r_assign rfl) rfl ?_
          refine ao_nil ?_
          refine aq_then ?_
          refine aw_seq ?_
          refine aw_region ?_
          refine ao_read trivial (r_move rfl) rfl ?_
          refine ao_read trivial (r_move rfl) rfl ?_
          refine ao_read trivial (r_move rfl) rfl ?_
          refine ao_read trivial (r_idxAddr_arr (i := i1745) Try.underlying27 Try.sizeOf3 rfl rfl (show 0 ≤ i1745 from by omega) (show i1745 < (121 : Int) from by omega)) rfl ?_
          refine ao_read trivial (r_load_elema_int Try.isAgg3 Try.sizeOf3 rfl rfl rfl (show i1745.toNat < 121 from by omega)) rfl ?_
          refine ao_read trivial (r_mul rfl rfl) rfl ?_
          refine ao_read trivial (r_add rfl rfl) rfl ?_
          refine ao_read trivial (r_assign rfl) rfl ?_
          refine ao_nil ?_
          refine aq_then ?_
          refine aw_seq ?_
          refine aw_region ?_
          refine ao_read trivial (r_move rfl) rfl ?_
          refine ao_read trivial (r_move rfl) rfl ?_
          refine ao_read trivial (r_move rfl) rfl ?_
          refine ao_read trivial (r_mul rfl rfl) rfl ?_
          refine ao_read trivial (r_move rfl) rfl ?_
          refine ao_read trivial (r_idxAddr_arr (i := i1745) Try.underlying27 Try.sizeOf3 rfl rfl (show 0 ≤ i1745 from by omega) (show i1745 < (121 : Int) from by omega)) rfl ?_
          refine ao_read trivial (r_load_elema_int Try.isAgg3 Try.sizeOf3 rfl rfl rfl (show i1745.toNat < 121 from by omega)) rfl ?_
          refine ao_read trivial (r_mul rfl rfl) rfl ?_
          refine ao_read trivial (r_add rfl rfl) rfl ?_
          refine ao_read trivial (r_assign rfl) rfl ?_
          refine ao_nil ?_
          refine aq_then ?_
          refine aw_join (fun (s1751 : Int) => [(3, .v (.slice (.arr 6 (.int .i64))) r2.1), (4, .int .i64 r2.2), (5, .ref 0 0), (9, .ref 1 0), (10, .bool r5.2), (13, .ref 2 0), (17, .ref 3 0), (21, .ref 4 0), (25, .int .i64 ((p_impl_BoundsOf r2.1).1)), (26, .int .i64 ((p_impl_BoundsOf r2.1).2.1)), (31, .os 5), (32, .int .i64 r14.2.1), (37, .int .i64 (IntKind.wrap .i64 (s1744.1 + (r3.1.getD i1745.toNat 0)))), (38, .int .i64 (IntKind.wrap .i64 (s1744.2.1 + (IntKind.wrap .i64 (i1745 * (r3.1.getD i1745.toNat 0)))))), (39, .int .i64 (IntKind.wrap .i64 (s1744.2.2.1 + (IntKind.wrap .i64 ((IntKind.wrap .i64 (i1745 * i1745)) * (r3.1.getD i1745.toNat 0)))))), (40, .int .i64 s1751), (41, .int .i64 i1745)]) (fun (s1751 : Int) => [(0, .var [.arr (.int .i64) 121 r3.1]), (1, .var [.arr (.int .i64) 2 r5.1]), (2, .var [.arr (.int .i64) 2 r7.1]), (3, .var [.arr (.int .i64) 2 r9.1]), (4, .var [.arr (.int .i64) 2 r11.1]), (5, .row (.int .i64) r14.1)]) (fun (s1751 : Int) => 0 ≤ s1751) h (fun s1751 hI h => ?_) (fun h j1753 => ?_)
          · refine aw_seq ?_
            refine aw_drawAll (by kernel_rfl) ?_
            refine an_read 0 (by kernel_rfl) (fun _ _ _ h => h) rfl (by kernel_rfl) trivial (r_move rfl) rfl ?_
            refine an_read 1 (by kernel_rfl) (fun _ _ _ h => h) rfl (by kernel_rfl) trivial (r_idxAddr_arr (i := i1745) Try.underlying27 Try.sizeOf3 rfl rfl (show 0 ≤ i1745 from by omega) (show i1745 < (121 : Int) from by omega)) rfl ?_
            refine an_read 2 (by kernel_rfl) (fun _ _ _ h => h) rfl (by kernel_rfl) trivial (r_load_elema_int Try.isAgg3 Try.sizeOf3 rfl rfl rfl (show i1745.toNat < 121 from by omega)) rfl ?_
            refine an_read 3 (by kernel_rfl) (fun _ _ _ h => h) rfl (by kernel_rfl) trivial (r_gtr rfl rfl) rfl ?_
            refine an_read 4 (by kernel_rfl) (fun _ _ _ h => h) rfl (by kernel_rfl) trivial (r_move rfl) rfl ?_
            refine an_readG 5 (x := .int .i64 i1745) (by kernel_rfl) (fun _ _ _ h => h) rfl (by kernel_rfl) rfl (GV.T rfl) (fun hg1754 => by
                  have q1755 : 0 < (r3.1.getD i1745.toNat 0) := d_t hg1754
                  exact r_move rfl) rfl ?_
            refine an_readG 6 (x := .int .i64 ((p_impl_BoundsOf r2.1).1)) (by kernel_rfl) (fun _ _ _ h => h) rfl (by kernel_rfl) rfl (GV.T rfl) (fun hg1756 => by
                  have q1757 : 0 < (r3.1.getD i1745.toNat 0) := d_t hg1756
                  exact r_move rfl) rfl ?_
            refine an_readG 7 (x := .bool (decide (i1745 < (p_impl_BoundsOf r2.1).1))) (by kernel_rfl) (fun _ _ _ h => h) rfl (by kernel_rfl) rfl (GV.T rfl) (fun hg1758 => by
                  have q1759 : 0 < (r3.1.getD i1745.toNat 0) := d_t hg1758
                  exact Reads.strip 285 rfl (hg1758) (Reads.strip 286 rfl (hg1758) (r_lss rfl rfl))) rfl ?_
            refine an_readG 8 (x := .bool (decide (i1745 < (p_impl_BoundsOf r2.1).1))) (by kernel_rfl) (fun _ _ _ h => h) rfl (by kernel_rfl) rfl (GV.T rfl) (fun hg1760 => by
                  have q1761 : 0 < (r3.1.getD i1745.toNat 0) := d_t hg1760
                  exact Reads.strip 287 rfl (hg1760) (r_move rfl)) rfl ?_
            refine an_readG 9 (x := .int .i64 i1745) (by kernel_rfl) (fun _ _ _ h => h) rfl (by kernel_rfl) rfl (GV.gF rfl) (fun hg1762 => by
                  obtain ⟨q1763, q1764⟩ := and_t hg1762
                  have q1765 : 0 < (r3.1.getD i1745.toNat 0) := d_t q1763
                  have q1766 := d_f (not_t q1764)
                  exact r_move rfl) rfl ?_
            refine an_readG 10 (x := .int .i64 ((p_impl_BoundsOf r2.1).2.1)) (by kernel_rfl) (fun _ _ _ h => h) rfl (by kernel_rfl) rfl (GV.gF rfl) (fun hg1767 => by
                  obtain ⟨q1768, q1769⟩ := and_t hg1767
                  have q1770 : 0 < (r3.1.getD i1745.toNat 0) := d_t q1768
                  have q1771 := d_f (not_t q1769)
                  exact r_move rfl) rfl ?_
            refine an_readG 11 (x := .bool (decide ((p_impl_BoundsOf r2.1).2.1 < i1745))) (by kernel_rfl) (fun _ _ _ h => h) rfl (by kernel_rfl) rfl (GV.gF rfl) (fun hg1772 => by
                  obtain ⟨q1773, q1774⟩ := and_t hg1772
                  have q1775 : 0 < (r3.1.getD i1745.toNat 0) := d_t q1773
                  have q1776 := d_f (not_t q1774)
                  exact Reads.strip 289 rfl (hg1772) (Reads.strip 290 rfl (hg1772) (r_gtr rfl rfl))) rfl ?_
            refine an_readG 12 (x := .bool ((decide (i1745 < (p_impl_BoundsOf r2.1).1)) || (decide ((p_impl_BoundsOf r2.1).2.1 < i1745)))) (by kernel_rfl) (fun _ _ _ h => h) rfl (by kernel_rfl) rfl (GV.T rfl) (fun hg1777 => by
                  have q1778 : 0 < (r3.1.getD i1745.toNat 0) := d_t hg1777
                  exact Reads.strip 288 rfl (hg1777) (r_orBg rfl rfl (tr_and (hg1777)))) rfl ?_
            refine an_read 13 (by kernel_rfl) (fun _ _ _ h => h) rfl (by kernel_rfl) trivial (r_andB rfl rfl) rfl ?_
            refine an_read 14 (by kernel_rfl) (fun _ _ _ h => h) rfl (by kernel_rfl) trivial (r_move rfl) rfl ?_
            refine an_readG 15 (x := .os 5) (by kernel_rfl) (fun _ _ _ h => h) rfl (by kernel_rfl) rfl (GV.F rfl) (fun hg1779 => r_move rfl) rfl ?_
            refine an_readG 16 (x := .int .i64 i1745) (by kernel_rfl) (fun _ _ _ h => h) rfl (by kernel_rfl) rfl (GV.F rfl) (fun hg1780 => r_move rfl) rfl ?_
            refine an_scallG 17 (x := .bool (p_laws_vHas r14.1 i1745)) (by kernel_rfl) (fun _ _ _ h => h) rfl (by kernel_rfl) rfl (GV.F rfl) (fun hg1781 => SCall.strip 295 rfl (hg1781) (SCall.strip 296 rfl (hg1781) (scall (c_laws_vHas (is_mk (rfl : p_laws_vHas r14.1 i1745 = _))) rfl Try.func27 rfl rfl rfl rfl (fun σ => ⟨ad_os0 rfl, ad_ren rfl, trivial⟩)))) rfl ?_
            refine an_readG 18 (x := .int .i64 i1745) (by kernel_rfl) (fun _ _ _ h => h) rfl (by kernel_rfl) rfl (GV.F rfl) (fun hg1782 => r_move rfl) rfl ?_
            refine an_readG 19 (x := .elem 0 0 1 i1745.toNat) (by kernel_rfl) (fun _ _ _ h => h) rfl (by kernel_rfl) rfl (GV.F rfl) (fun hg1783 => Reads.strip 298 rfl (hg1783) (r_idxAddr_arr (i := i1745) Try.underlying27 Try.sizeOf3 rfl rfl (show 0 ≤ i1745 from by omega) (show i1745 < (121 : Int) from by omega))) rfl ?_
            refine an_readG 20 (x := .int .i64 (r3.1.getD i1745.toNat 0)) (by kernel_rfl) (fun _ _ _ h => h) rfl (by kernel_rfl) rfl (GV.F rfl) (fun hg1784 => Reads.strip 299 rfl (hg1784) (r_load_elema_int Try.isAgg3 Try.sizeOf3 rfl rfl rfl (show i1745.toNat < 121 from by omega))) rfl ?_
            refine an_readG 21 (x := .int .i64 r14.2.1) (by kernel_rfl) (fun _ _ _ h => h) rfl (by kernel_rfl) rfl (GV.F rfl) (fun hg1785 => r_move rfl) rfl ?_
            refine an_readG 22 (x := .bool (decide ((r3.1.getD i1745.toNat 0) = r14.2.1))) (by kernel_rfl) (fun _ _ _ h => h) rfl (by kernel_rfl) rfl (GV.F rfl) (fun hg1786 => Reads.strip 300 rfl (hg1786) (Reads.strip 301 rfl (hg1786) (r_eql rfl rfl))) rfl ?_
            refine an_readG 23 (x := .bool ((p_laws_vHas r14.1 i1745) != (decide ((r3.1.getD i1745.toNat 0) = r14.2.1)))) (by kernel_rfl) (fun _ _ _ h => h) rfl (by kernel_rfl) rfl (GV.F rfl) (fun hg1787 => Reads.strip 297 rfl (hg1787) (Reads.strip 302 rfl (hg1787) (r_neq_bool Try.underlying4 rfl rfl))) rfl ?_
            refine an_read 24 (by kernel_rfl) (fun _ _ _ h => h) rfl (by kernel_rfl) trivial (r_orB rfl rfl) rfl ?_
            refine an_done rfl ?_
            refine aq_then ?_
            refine aw_cond rfl (fun hb1788 => ?_) (fun hb1788 => ?_)
            · replace h := is_if hb1788 h
              refine aw_seq ?_
              refine aw_region ?_
              refine ao_read trivial (r_assign rfl) rfl ?_
              refine ao_nil ?_
              refine aq_then ?_
              refine aw_ret ?_
              refine aq_in_ret ?_
              refine aq_then_ret ?_
              refine aq_then_ret ?_
              refine aq_in_ret ?_
              refine aq_then_ret ?_
              refine aq_ret ?_
              obtain rfl := is_some h
              exact aq_finx (l := [.tmp 2]) (xs := [.bool false]) idn [.bool false] [] rfl (by exact ⟨rfl, trivial⟩) (by exact ⟨ad_ren rfl, trivial⟩) (by exact trivial) rfl (nk rfl) rfl rfl ⟨rfl, rfl⟩
            · obtain ⟨q1789, q1790⟩ := or_f hb1788
              replace h := is_else (ne_t hb1788) h
              refine aw_skip ?_
              refine aq_in ?_
              refine aq_then ?_
              refine aw_region ?_
              refine ao_read trivial (r_move rfl) rfl ?_
              refine ao_read trivial (r_addI rfl rfl (wrap_id (by omega) (by omega))) rfl ?_
              refine ao_read trivial (r_assign rfl) rfl ?_
              refine ao_nil ?_
              exact aq_again (AL.sub (sub_mk idn (by exact ⟨⟨_, rfl, ad_ren rfl⟩, ⟨_, rfl, ad_ren rfl⟩, ⟨_, rfl, ad_ren rfl⟩, ⟨_, rfl, ad_ren rfl⟩, ⟨_, rfl, ad_ren rfl⟩, ⟨_, rfl, ad_ren rfl⟩, ⟨_, rfl, ad_ren rfl⟩, ⟨_, rfl, ad_ren rfl⟩, ⟨_, rfl, ad_ren rfl⟩, ⟨_, rfl, ad_ren rfl⟩, ⟨_, rfl, ad_ren rfl⟩, ⟨_, rfl, ad_ren rfl⟩, ⟨_, rfl, ad_ren rfl⟩, ⟨_, rfl, ad_ren rfl⟩, ⟨_, rfl, ad_ren rfl⟩, ⟨_, rfl, ad_ren rfl⟩, ⟨_, rfl, ad_ren rfl⟩, trivial⟩) (by exact ⟨⟨_, rfl, ⟨rfl, trivial⟩⟩, ⟨_, rfl, ⟨rfl, trivial⟩⟩, ⟨_, rfl, ⟨rfl, trivial⟩⟩, ⟨_, rfl, ⟨rfl, trivial⟩⟩, ⟨_, rfl, ⟨rfl, trivial⟩⟩, ⟨_, rfl, rfl⟩, trivial⟩) (by rfl) (nk rfl)) (ih1746 d1746 (i1745 + 1) ((IntKind.wrap .i64 (s1744.1 + (r3.1.getD i1745.toNat 0))), (IntKind.wrap .i64 (s1744.2.1 + (IntKind.wrap .i64 (i1745 * (r3.1.getD i1745.toNat 0))))), (IntKind.wrap .i64 (s1744.2.2.1 + (IntKind.wrap .i64 ((IntKind.wrap .i64 (i1745 * i1745)) * (r3.1.getD i1745.toNat 0))))), s1751) (by omega) ⟨by omega, (by (try simp only [List.length_set, List.length_append, List.length_cons, List.length_nil, List.length_replicate, List.length_take, List.length_drop]) <;> omega), (by (try simp only [List.length_set, List.length_append, List.length_cons, List.length_nil, List.length_replicate, List.length_take, List.length_drop]) <;> omega), (by (try simp only [List.length_set, List.length_append, List.length_cons, List.length_nil, List.length_replicate, List.length_take, List.length_drop]) <;> omega)⟩ h))
          · refine aw_seq ?_
            refine aw_region ?_
            refine ao_read trivial (r_move rfl) rfl ?_
            refine ao_read trivial (r_idxAddr_arr (i := i1745) Try.underlying27 Try.sizeOf3 rfl rfl (show 0 ≤ i1745 from by omega) (show i1745 < (121 : Int) from by omega)) rfl ?_
            refine ao_read trivial (r_load_elema_int Try.isAgg3 Try.sizeOf3 rfl rfl rfl (show i1745.toNat < 121 from by omega)) rfl ?_
            refine ao_read trivial (r_move rfl) rfl ?_
            refine ao_read trivial (r_gtr rfl rfl) rfl ?_
            refine ao_nil ?_
            refine aq_then ?_
            refine aw_cond rfl (fun hb1791 => ?_) (fun hb1791 => ?_)
            · have q1792 : s1744.2.2.2 < (r3.1.getD i1745.toNat 0) := d_t hb1791
              replace h := is_if (d_t hb1791) h
              refine aw_region ?_
              refine ao_read trivial (r_move rfl) rfl ?_
              refine ao_read trivial (r_idxAddr_arr (i := i1745) Try.underlying27 Try.sizeOf3 rfl rfl (show 0 ≤ i1745 from by omega) (show i1745 < (121 : Int) from by omega)) rfl ?_
              refine ao_read trivial (r_load_elema_int Try.isAgg3 Try.sizeOf3 rfl rfl rfl (show i1745.toNat < 121 from by omega)) rfl ?_
              refine ao_read trivial (r_assign rfl) rfl ?_
              refine ao_nil ?_
              exact aq_then (AW.sub (sub_mk idn (by exact ⟨⟨_, rfl, ad_ren rfl⟩, ⟨_, rfl, ad_ren rfl⟩, ⟨_, rfl, ad_ren rfl⟩, ⟨_, rfl, ad_ren rfl⟩, ⟨_, rfl, ad_ren rfl⟩, ⟨_, rfl, ad_ren rfl⟩, ⟨_, rfl, ad_ren rfl⟩, ⟨_, rfl, ad_ren rfl⟩, ⟨_, rfl, ad_ren rfl⟩, ⟨_, rfl, ad_ren rfl⟩, ⟨_, rfl, ad_ren rfl⟩, ⟨_, rfl, ad_ren rfl⟩, ⟨_, rfl, ad_ren rfl⟩, ⟨_, rfl, ad_ren rfl⟩, ⟨_, rfl, ad_ren rfl⟩, ⟨_, rfl, ad_ren rfl⟩, ⟨_, rfl, ad_ren rfl⟩, trivial⟩) (by exact ⟨⟨_, rfl, ⟨rfl, trivial⟩⟩, ⟨_, rfl, ⟨rfl, trivial⟩⟩, ⟨_, rfl, ⟨rfl, trivial⟩⟩, ⟨_, rfl, ⟨rfl, trivial⟩⟩, ⟨_, rfl, ⟨rfl, trivial⟩⟩, ⟨_, rfl, rfl⟩, trivial⟩) (by rfl) (nk rfl)) (j1753 (r3.1.getD i1745.toNat 0) (by (try simp only [List.length_set, List.length_append, List.length_cons, List.length_nil, List.length_replicate, List.length_take, List.length_drop]) <;> omega) h))
            · have q1793 : ¬ (s1744.2.2.2 < (r3.1.getD i1745.toNat 0)) := d_f hb1791
              replace h := is_else (d_f hb1791) h
              refine aw_skip ?_
              exact aq_then (AW.sub (sub_mk idn (by exact ⟨⟨_, rfl, ad_ren rfl⟩, ⟨_, rfl, ad_ren rfl⟩, ⟨_, rfl, ad_ren rfl⟩, ⟨_, rfl, ad_ren rfl⟩, ⟨_, rfl, ad_ren rfl⟩, ⟨_, rfl, ad_ren rfl⟩, ⟨_, rfl, ad_ren rfl⟩, ⟨_, rfl, ad_ren rfl⟩, ⟨_, rfl, ad_ren rfl⟩, ⟨_, rfl, ad_ren rfl⟩, ⟨_, rfl, ad_ren rfl⟩, ⟨_, rfl, ad_ren rfl⟩, ⟨_, rfl, ad_ren rfl⟩, ⟨_, rfl, ad_ren rfl⟩, ⟨_, rfl, ad_ren rfl⟩, ⟨_, rfl, ad_ren rfl⟩, ⟨_, rfl, ad_ren rfl⟩, trivial⟩) (by exact ⟨⟨_, rfl, ⟨rfl, trivial⟩⟩, ⟨_, rfl, ⟨rfl, trivial⟩⟩, ⟨_, rfl, ⟨rfl, trivial⟩⟩, ⟨_, rfl, ⟨rfl, trivial⟩⟩, ⟨_, rfl, ⟨rfl, trivial⟩⟩, ⟨_, rfl, rfl⟩, trivial⟩) (by rfl) (nk rfl)) (j1753 s1744.2.2.2 (by (try simp only [List.length_set, List.length_append, List.length_cons, List.length_nil, List.length_replicate, List.length_take, List.length_drop]) <;> omega) h))
        · have q1750 := d_f hb1748
          obtain rfl : d1746 = 0 := by omega
          replace h := is_cnt0 h
          refine aw_exit ?_
          refine aq_then_exit ?_
          refine aq_then_exit ?_
          refine aq_in_exit ?_
          refine aq_then ?_
          refine aw_seq ?_
          refine aw_seq ?_
          refine aw_region ?_
          refine ao_read trivial (r_move rfl) rfl ?_
          refine ao_read trivial (r_move rfl) rfl ?_
          refine ao_read trivial (r_len_vm (r2.1.length : Int) Try.underlying24 rfl rfl) rfl ?_
          obtain ⟨r1794, r1794h, h⟩ := is_bind h
          refine ao_scall trivial (scall (c_laws_vSix (is_mk r1794h)) rfl Try.func28 rfl rfl rfl rfl (fun σ => ⟨ad_ren rfl, trivial⟩)) rfl ?_
          refine ao_read trivial (r_neq rfl rfl) rfl ?_
          refine ao_read trivial (r_move rfl) rfl ?_
          refine ao_readG (x := .int .i64 ((p_impl_BoundsOf r2.1).1)) rfl (GV.F rfl) (fun hg1795 => by
                have q1796 := d_t (not_f (not_t hg1795))
                exact r_move rfl) rfl ?_
          obtain ⟨g1799, h⟩ := is_guard h
          obtain ⟨g1800, h⟩ := is_guard h
          refine ao_readG (x := .elem 0 0 1 ((p_impl_BoundsOf r2.1).1).toNat) rfl (GV.F rfl) (fun hg1797 => by
                have g1799a := g1799 hg1797
                have g1800a := g1800 hg1797
                have q1798 := d_t (not_f (not_t hg1797))
                exact Reads.strip 311 rfl (hg1797) (r_idxAddr_arr (i := (p_impl_BoundsOf r2.1).1) Try.underlying27 Try.sizeOf3 rfl rfl (show 0 ≤ (p_impl_BoundsOf r2.1).1 from by omega) (show (p_impl_BoundsOf r2.1).1 < (121 : Int) from by omega))) rfl ?_
          refine ao_readG (x := .int .i64 (r3.1.getD ((p_impl_BoundsOf r2.1).1).toNat 0)) rfl (GV.F rfl) (fun hg1801 => by
                have q1802 := d_t (not_f (not_t hg1801))
                have w1803 := g1799 (hg1801)
                have w1804 := g1800 (hg1801)
                exact Reads.strip 312 rfl (hg1801) (r_load_elema_int Try.isAgg3 Try.sizeOf3 rfl rfl rfl (show ((p_impl_BoundsOf r2.1).1).toNat < 121 from by omega))) rfl ?_
          refine ao_readG (x := .bool (decide ((r3.1.getD ((p_impl_BoundsOf r2.1).1).toNat 0) < 1))) rfl (GV.F rfl) (fun hg1805 => by
                have q1806 := d_t (not_f (not_t hg1805))
                have w1807 := g1799 (hg1805)
                have w1808 := g1800 (hg1805)
                exact Reads.strip 313 rfl (hg1805) (r_lss rfl rfl)) rfl ?_
          refine ao_read trivial (r_orB rfl rfl) rfl ?_
          refine ao_read trivial (r_move rfl) rfl ?_
          refine ao_readG (x := .int .i64 ((p_impl_BoundsOf r2.1).2.1)) rfl (GV.F rfl) (fun hg1809 => by
                obtain ⟨q1810, q1811⟩ := or_f (not_t hg1809)
                have q1812 := d_t (not_f q1810)
                have q1813 : ¬ ((r3.1.getD ((p_impl_BoundsOf r2.1).1).toNat 0) < 1) := d_f q1811
                exact r_move rfl) rfl ?_
          obtain ⟨g1819, h⟩ := is_guard h
          obtain ⟨g1820, h⟩ := is_guard h
          refine ao_readG (x := .elem 0 0 1 ((p_impl_BoundsOf r2.1).2.1).toNat) rfl (GV.F rfl) (fun hg1814 => by
                have g1819a := g1819 hg1814
                have g1820a := g1820 hg1814
                obtain ⟨q1815, q1816⟩ := or_f (not_t hg1814)
                have q1817 := d_t (not_f q1815)
                have q1818 : ¬ ((r3.1.getD ((p_impl_BoundsOf r2.1).1).toNat 0) < 1) := d_f q1816
                exact Reads.strip 317 rfl (hg1814) (r_idxAddr_arr (i := (p_impl_BoundsOf r2.1).2.1) Try.underlying27 Try.sizeOf3 rfl rfl (show 0 ≤ (p_impl_BoundsOf r2.1).2.1 from by omega) (show (p_impl_BoundsOf r2.1).2.1 < (121 : Int) from by omega))) rfl ?_
          refine ao_readG (x := .int .i64 (r3.1.getD ((p_impl_BoundsOf r2.1).2.1).toNat 0)) rfl (GV.F rfl) (fun hg1821 => by
                obtain ⟨q1822, q1823⟩ := or_f (not_t hg1821)
                have q1824 := d_t (not_f q1822)
                have q1825 : ¬ ((r3.1.getD ((p_impl_BoundsOf r2.1).1).toNat 0) < 1) := d_f q1823
                have w1826 := g1819 (hg1821)
                have w1827 := g1820 (hg1821)
                exact Reads.strip 318 rfl (hg1821) (r_load_elema_int Try.isAgg3 Try.sizeOf3 rfl rfl rfl (show ((p_impl_BoundsOf r2.1).2.1).toNat < 121 from by omega))) rfl ?_
          refine ao_readG (x := .bool (decide ((r3.1.getD ((p_impl_BoundsOf r2.1).2.1).toNat 0) < 1))) rfl (GV.F rfl) (fun hg1828 => by
                obtain ⟨q1829, q1830⟩ := or_f (not_t hg1828)
                have q1831 := d_t (not_f q1829)
                have q1832 : ¬ ((r3.1.getD ((p_impl_BoundsOf r2.1).1).toNat 0) < 1) := d_f q1830
                have w1833 := g1819 (hg1828)
                have w1834 := g1820 (hg1828)
                exact Reads.strip 319 rfl (hg1828) (r_lss rfl rfl)) rfl ?_
          refine ao_read trivial (r_orB rfl rfl) rfl ?_
          refine ao_read trivial (r_move rfl) rfl ?_
          refine ao_readG (x := .int .i64 s1744.2.2.2) rfl (GV.F rfl) (fun hg1835 => by
                obtain ⟨q1836, q1837⟩ := or_f (not_t hg1835)
                obtain ⟨q1838, q1839⟩ := or_f q1836
                have q1840 := d_t (not_f q1838)
                have q1841 : ¬ ((r3.1.getD ((p_impl_BoundsOf r2.1).1).toNat 0) < 1) := d_f q1839
                have q1842 : ¬ ((r3.1.getD ((p_impl_BoundsOf r2.1).2.1).toNat 0) < 1) := d_f q1837
                exact r_move rfl) rfl ?_
          refine ao_readG (x := .int .i64 r14.2.1) rfl (GV.F rfl) (fun hg1843 => by
                obtain ⟨q1844, q1845⟩ := or_f (not_t hg1843)
                obtain ⟨q1846, q1847⟩ := or_f q1844
                have q1848 := d_t (not_f q1846)
                have q1849 : ¬ ((r3.1.getD ((p_impl_BoundsOf r2.1).1).toNat 0) < 1) := d_f q1847
                have q1850 : ¬ ((r3.1.getD ((p_impl_BoundsOf r2.1).2.1).toNat 0) < 1) := d_f q1845
                exact r_move rfl) rfl ?_
          refine ao_readG (x := .bool (!(decide (s1744.2.2.2 = r14.2.1)))) rfl (GV.F rfl) (fun hg1851 => by
                obtain ⟨q1852, q1853⟩ := or_f (not_t hg1851)
                obtain ⟨q1854, q1855⟩ := or_f q1852
                have q1856 := d_t (not_f q1854)
                have q1857 : ¬ ((r3.1.getD ((p_impl_BoundsOf r2.1).1).toNat 0) < 1) := d_f q1855
                have q1858 : ¬ ((r3.1.getD ((p_impl_BoundsOf r2.1).2.1).toNat 0) < 1) := d_f q1853
                exact Reads.strip 323 rfl (hg1851) (Reads.strip 324 rfl (hg1851) (r_neq rfl rfl))) rfl ?_
          refine ao_read trivial (r_orB rfl rfl) rfl ?_
          refine ao_read trivial (r_move rfl) rfl ?_
          refine ao_readG (x := .int .i64 s1744.2.1) rfl (GV.F rfl) (fun hg1859 => by
                obtain ⟨q1860, q1861⟩ := or_f (not_t hg1859)
                obtain ⟨q1862, q1863⟩ := or_f q1860
                obtain ⟨q1864, q1865⟩ := or_f q1862
                have q1866 := d_t (not_f q1864)
                have q1867 : ¬ ((r3.1.getD ((p_impl_BoundsOf r2.1).1).toNat 0) < 1) := d_f q1865
                have q1868 : ¬ ((r3.1.getD ((p_impl_BoundsOf r2.1).2.1).toNat 0) < 1) := d_f q1863
                have q1869 := d_t (not_f q1861)
                exact r_move rfl) rfl ?_
          refine ao_readG (x := .elem 3 0 1 1) rfl (GV.F rfl) (fun hg1870 => by
                obtain ⟨q1871, q1872⟩ := or_f (not_t hg1870)
                obtain ⟨q1873, q1874⟩ := or_f q1871
                obtain ⟨q1875, q1876⟩ := or_f q1873
                have q1877 := d_t (not_f q1875)
                have q1878 : ¬ ((r3.1.getD ((p_impl_BoundsOf r2.1).1).toNat 0) < 1) := d_f q1876
                have q1879 : ¬ ((r3.1.getD ((p_impl_BoundsOf r2.1).2.1).toNat 0) < 1) := d_f q1874
                have q1880 := d_t (not_f q1872)
                exact r_idxAddr_arr (i := 1) Try.underlying30 Try.sizeOf3 rfl rfl (show 0 ≤ 1 from by omega) (show 1 < (2 : Int) from by omega)) rfl ?_
          refine ao_readG (x := .int .i64 (r9.1.getD 1 0)) rfl (GV.F rfl) (fun hg1881 => by
                obtain ⟨q1882, q1883⟩ := or_f (not_t hg1881)
                obtain ⟨q1884, q1885⟩ := or_f q1882
                obtain ⟨q1886, q1887⟩ := or_f q1884
                have q1888 := d_t (not_f q1886)
                have q1889 : ¬ ((r3.1.getD ((p_impl_BoundsOf r2.1).1).toNat 0) < 1) := d_f q1887
                have q1890 : ¬ ((r3.1.getD ((p_impl_BoundsOf r2.1).2.1).toNat 0) < 1) := d_f q1885
                have q1891 := d_t (not_f q1883)
                exact Reads.strip 329 rfl (hg1881) (r_load_elema_int Try.isAgg3 Try.sizeOf3 rfl rfl rfl (show 1 < 2 from by omega))) rfl ?_
          refine ao_readG (x := .int .i64 (IntKind.wrap .i64 (s1744.2.1 * (r9.1.getD 1 0)))) rfl (GV.F rfl) (fun hg1892 => by
                obtain ⟨q1893, q1894⟩ := or_f (not_t hg1892)
                obtain ⟨q1895, q1896⟩ := or_f q1893
                obtain ⟨q1897, q1898⟩ := or_f q1895
                have q1899 := d_t (not_f q1897)
                have q1900 : ¬ ((r3.1.getD ((p_impl_BoundsOf r2.1).1).toNat 0) < 1) := d_f q1898
                have q1901 : ¬ ((r3.1.getD ((p_impl_BoundsOf r2.1).2.1).toNat 0) < 1) := d_f q1896
                have q1902 := d_t (not_f q1894)
                exact Reads.strip 328 rfl (hg1892) (Reads.strip 330 rfl (hg1892) (r_mul rfl rfl))) rfl ?_
          refine ao_readG (x := .elem 3 0 1 0) rfl (GV.F rfl) (fun hg1903 => by
                obtain ⟨q1904, q1905⟩ := or_f (not_t hg1903)
                obtain ⟨q1906, q1907⟩ := or_f q1904
                obtain ⟨q1908, q1909⟩ := or_f q1906
                have q1910 := d_t (not_f q1908)
                have q1911 : ¬ ((r3.1.getD ((p_impl_BoundsOf r2.1).1).toNat 0) < 1) := d_f q1909
                have q1912 : ¬ ((r3.1.getD ((p_impl_BoundsOf r2.1).2.1).toNat 0) < 1) := d_f q1907
                have q1913 := d_t (not_f q1905)
                exact r_idxAddr_arr (i := 0) Try.underlying30 Try.sizeOf3 rfl rfl (show 0 ≤ 0 from by omega) (show 0 < (2 : Int) from by omega)) rfl ?_
          refine ao_readG (x := .int .i64 (r9.1.getD 0 0)) rfl (GV.F rfl) (fun hg1914 => by
                obtain ⟨q1915, q1916⟩ := or_f (not_t hg1914)
                obtain ⟨q1917, q1918⟩ := or_f q1915
                obtain ⟨q1919, q1920⟩ := or_f q1917
                have q1921 := d_t (not_f q1919)
                have q1922 : ¬ ((r3.1.getD ((p_impl_BoundsOf r2.1).1).toNat 0) < 1) := d_f q1920
                have q1923 : ¬ ((r3.1.getD ((p_impl_BoundsOf r2.1).2.1).toNat 0) < 1) := d_f q1918
                have q1924 := d_t (not_f q1916)
                exact Reads.strip 332 rfl (hg1914) (r_load_elema_int Try.isAgg3 Try.sizeOf3 rfl rfl rfl (show 0 < 2 from by omega))) rfl ?_
          refine ao_readG (x := .int .i64 s1744.1) rfl (GV.F rfl) (fun hg1925 => by
                obtain ⟨q1926, q1927⟩ := or_f (not_t hg1925)
                obtain ⟨q1928, q1929⟩ := or_f q1926
                obtain ⟨q1930, q1931⟩ := or_f q1928
                have q1932 := d_t (not_f q1930)
                have q1933 : ¬ ((r3.1.getD ((p_impl_BoundsOf r2.1).1).toNat 0) < 1) := d_f q1931
                have q1934 : ¬ ((r3.1.getD ((p_impl_BoundsOf r2.1).2.1).toNat 0) < 1) := d_f q1929
                have q1935 := d_t (not_f q1927)
                exact r_move rfl) rfl ?_
          refine ao_readG (x := .int .i64 (IntKind.wrap .i64 ((r9.1.getD 0 0) * s1744.1))) rfl (GV.F rfl) (fun hg1936 => by
                obtain ⟨q1937, q1938⟩ := or_f (not_t hg1936)
                obtain ⟨q1939, q1940⟩ := or_f q1937
                obtain ⟨q1941, q1942⟩ := or_f q1939
                have q1943 := d_t (not_f q1941)
                have q1944 : ¬ ((r3.1.getD ((p_impl_BoundsOf r2.1).1).toNat 0) < 1) := d_f q1942
                have q1945 : ¬ ((r3.1.getD ((p_impl_BoundsOf r2.1).2.1).toNat 0) < 1) := d_f q1940
                have q1946 := d_t (not_f q1938)
                exact Reads.strip 333 rfl (hg1936) (Reads.strip 334 rfl (hg1936) (r_mul rfl rfl))) rfl ?_
          refine ao_readG (x := .bool (!(decide ((IntKind.wrap .i64 (s1744.2.1 * (r9.1.getD 1 0))) = (IntKind.wrap .i64 ((r9.1.getD 0 0) * s1744.1)))))) rfl (GV.F rfl) (fun hg1947 => by
                obtain ⟨q1948, q1949⟩ := or_f (not_t hg1947)
                obtain ⟨q1950, q1951⟩ := or_f q1948
                obtain ⟨q1952, q1953⟩ := or_f q1950
                have q1954 := d_t (not_f q1952)
                have q1955 : ¬ ((r3.1.getD ((p_impl_BoundsOf r2.1).1).toNat 0) < 1) := d_f q1953
                have q1956 : ¬ ((r3.1.getD ((p_impl_BoundsOf r2.1).2.1).toNat 0) < 1) := d_f q1951
                have q1957 := d_t (not_f q1949)
                exact Reads.strip 331 rfl (hg1947) (Reads.strip 335 rfl (hg1947) (r_neq rfl rfl))) rfl ?_
          refine ao_read trivial (r_orB rfl rfl) rfl ?_
          refine ao_read trivial (r_move rfl) rfl ?_
          refine ao_readG (x := .int .i64 s1744.2.2.1) rfl (GV.F rfl) (fun hg1958 => by
                obtain ⟨q1959, q1960⟩ := or_f (not_t hg1958)
                obtain ⟨q1961, q1962⟩ := or_f q1959
                obtain ⟨q1963, q1964⟩ := or_f q1961
                obtain ⟨q1965, q1966⟩ := or_f q1963
                have q1967 := d_t (not_f q1965)
                have q1968 : ¬ ((r3.1.getD ((p_impl_BoundsOf r2.1).1).toNat 0) < 1) := d_f q1966
                have q1969 : ¬ ((r3.1.getD ((p_impl_BoundsOf r2.1).2.1).toNat 0) < 1) := d_f q1964
                have q1970 := d_t (not_f q1962)
                have q1971 : (IntKind.wrap .i64 (s1744.2.1 * (r9.1.getD 1 0))) = (IntKind.wrap .i64 ((r9.1.getD 0 0) * s1744.1)) := d_t (not_f q1960)
                exact r_move rfl) rfl ?_
          refine ao_readG (x := .int .i64 s1744.1) rfl (GV.F rfl) (fun hg1972 => by
                obtain ⟨q1973, q1974⟩ := or_f (not_t hg1972)
                obtain ⟨q1975, q1976⟩ := or_f q1973
                obtain ⟨q1977, q1978⟩ := or_f q1975
                obtain ⟨q1979, q1980⟩ := or_f q1977
                have q1981 := d_t (not_f q1979)
                have q1982 : ¬ ((r3.1.getD ((p_impl_BoundsOf r2.1).1).toNat 0) < 1) := d_f q1980
                have q1983 : ¬ ((r3.1.getD ((p_impl_BoundsOf r2.1).2.1).toNat 0) < 1) := d_f q1978
                have q1984 := d_t (not_f q1976)
                have q1985 : (IntKind.wrap .i64 (s1744.2.1 * (r9.1.getD 1 0))) = (IntKind.wrap .i64 ((r9.1.getD 0 0) * s1744.1)) := d_t (not_f q1974)
                exact r_move rfl) rfl ?_
          refine ao_readG (x := .int .i64 (IntKind.wrap .i64 (s1744.2.2.1 * s1744.1))) rfl (GV.F rfl) (fun hg1986 => by
                obtain ⟨q1987, q1988⟩ := or_f (not_t hg1986)
                obtain ⟨q1989, q1990⟩ := or_f q1987
                obtain ⟨q1991, q1992⟩ := or_f q1989
                obtain ⟨q1993, q1994⟩ := or_f q1991
                have q1995 := d_t (not_f q1993)
                have q1996 : ¬ ((r3.1.getD ((p_impl_BoundsOf r2.1).1).toNat 0) < 1) := d_f q1994
                have q1997 : ¬ ((r3.1.getD ((p_impl_BoundsOf r2.1).2.1).toNat 0) < 1) := d_f q1992
                have q1998 := d_t (not_f q1990)
                have q1999 : (IntKind.wrap .i64 (s1744.2.1 * (r9.1.getD 1 0))) = (IntKind.wrap .i64 ((r9.1.getD 0 0) * s1744.1)) := d_t (not_f q1988)
                exact Reads.strip 339 rfl (hg1986) (Reads.strip 340 rfl (hg1986) (r_mul rfl rfl))) rfl ?_
          refine ao_readG (x := .int .i64 s1744.2.1) rfl (GV.F rfl) (fun hg2000 => by
                obtain ⟨q2001, q2002⟩ := or_f (not_t hg2000)
                obtain ⟨q2003, q2004⟩ := or_f q2001
                obtain ⟨q2005, q2006⟩ := or_f q2003
                obtain ⟨q2007, q2008⟩ := or_f q2005
                have q2009 := d_t (not_f q2007)
                have q2010 : ¬ ((r3.1.getD ((p_impl_BoundsOf r2.1).1).toNat 0) < 1) := d_f q2008
                have q2011 : ¬ ((r3.1.getD ((p_impl_BoundsOf r2.1).2.1).toNat 0) < 1) := d_f q2006
                have q2012 := d_t (not_f q2004)
                have q2013 : (IntKind.wrap .i64 (s1744.2.1 * (r9.1.getD 1 0))) = (IntKind.wrap .i64 ((r9.1.getD 0 0) * s1744.1)) := d_t (not_f q2002)
                exact r_move rfl) rfl ?_
          refine ao_readG (x := .int .i64 s1744.2.1) rfl (GV.F rfl) (fun hg2014 => by
                obtain ⟨q2015, q2016⟩ := or_f (not_t hg2014)
                obtain ⟨q2017, q2018⟩ := or_f q2015
                obtain ⟨q2019, q2020⟩ := or_f q2017
                obtain ⟨q2021, q2022⟩ := or_f q2019
                have q2023 := d_t (not_f q2021)
                have q2024 : ¬ ((r3.1.getD ((p_impl_BoundsOf r2.1).1).toNat 0) < 1) := d_f q2022
                have q2025 : ¬ ((r3.1.getD ((p_impl_BoundsOf r2.1).2.1).toNat 0) < 1) := d_f q2020
                have q2026 := d_t (not_f q2018)
                have q2027 : (IntKind.wrap .i64 (s1744.2.1 * (r9.1.getD 1 0))) = (IntKind.wrap .i64 ((r9.1.getD 0 0) * s1744.1)) := d_t (not_f q2016)
                exact r_move rfl) rfl ?_
          refine ao_readG (x := .int .i64 (IntKind.wrap .i64 (s1744.2.1 * s1744.2.1))) rfl (GV.F rfl) (fun hg2028 => by
                obtain ⟨q2029, q2030⟩ := or_f (not_t hg2028)
                obtain ⟨q2031, q2032⟩ := or_f q2029
                obtain ⟨q2033, q2034⟩ := or_f q2031
                obtain ⟨q2035, q2036⟩ := or_f q2033
                have q2037 := d_t (not_f q2035)
                have q2038 : ¬ ((r3.1.getD ((p_impl_BoundsOf r2.1).1).toNat 0) < 1) := d_f q2036
                have q2039 : ¬ ((r3.1.getD ((p_impl_BoundsOf r2.1).2.1).toNat 0) < 1) := d_f q2034
                have q2040 := d_t (not_f q2032)
                have q2041 : (IntKind.wrap .i64 (s1744.2.1 * (r9.1.getD 1 0))) = (IntKind.wrap .i64 ((r9.1.getD 0 0) * s1744.1)) := d_t (not_f q2030)
                exact Reads.strip 342 rfl (hg2028) (Reads.strip 343 rfl (hg2028) (r_mul rfl rfl))) rfl ?_
          refine ao_readG (x := .int .i64 (IntKind.wrap .i64 ((IntKind.wrap .i64 (s1744.2.2.1 * s1744.1)) - (IntKind.wrap .i64 (s1744.2.1 * s1744.2.1))))) rfl (GV.F rfl) (fun hg2042 => by
                obtain ⟨q2043, q2044⟩ := or_f (not_t hg2042)
                obtain ⟨q2045, q2046⟩ := or_f q2043
                obtain ⟨q2047, q2048⟩ := or_f q2045
                obtain ⟨q2049, q2050⟩ := or_f q2047
                have q2051 := d_t (not_f q2049)
                have q2052 : ¬ ((r3.1.getD ((p_impl_BoundsOf r2.1).1).toNat 0) < 1) := d_f q2050
                have q2053 : ¬ ((r3.1.getD ((p_impl_BoundsOf r2.1).2.1).toNat 0) < 1) := d_f q2048
                have q2054 := d_t (not_f q2046)
                have q2055 : (IntKind.wrap .i64 (s1744.2.1 * (r9.1.getD 1 0))) = (IntKind.wrap .i64 ((r9.1.getD 0 0) * s1744.1)) := d_t (not_f q2044)
                exact Reads.strip 341 rfl (hg2042) (Reads.strip 344 rfl (hg2042) (r_sub rfl rfl))) rfl ?_
          refine ao_readG (x := .elem 4 0 1 1) rfl (GV.F rfl) (fun hg2056 => by
                obtain ⟨q2057, q2058⟩ := or_f (not_t hg2056)
                obtain ⟨q2059, q2060⟩ := or_f q2057
                obtain ⟨q2061, q2062⟩ := or_f q2059
                obtain ⟨q2063, q2064⟩ := or_f q2061
                have q2065 := d_t (not_f q2063)
                have q2066 : ¬ ((r3.1.getD ((p_impl_BoundsOf r2.1).1).toNat 0) < 1) := d_f q2064
                have q2067 : ¬ ((r3.1.getD ((p_impl_BoundsOf r2.1).2.1).toNat 0) < 1) := d_f q2062
                have q2068 := d_t (not_f q2060)
                have q2069 : (IntKind.wrap .i64 (s1744.2.1 * (r9.1.getD 1 0))) = (IntKind.wrap .i64 ((r9.1.getD 0 0) * s1744.1)) := d_t (not_f q2058)
                exact r_idxAddr_arr (i := 1) Try.underlying30 Try.sizeOf3 rfl rfl (show 0 ≤ 1 from by omega) (show 1 < (2 : Int) from by omega)) rfl ?_
          refine ao_readG (x := .int .i64 (r11.1.getD 1 0)) rfl (GV.F rfl) (fun hg2070 => by
                obtain ⟨q2071, q2072⟩ := or_f (not_t hg2070)
                obtain ⟨q2073, q2074⟩ := or_f q2071
                obtain ⟨q2075, q2076⟩ := or_f q2073
                obtain ⟨q2077, q2078⟩ := or_f q2075
                have q2079 := d_t (not_f q2077)
                have q2080 : ¬ ((r3.1.getD ((p_impl_BoundsOf r2.1).1).toNat 0) < 1) := d_f q2078
                have q2081 : ¬ ((r3.1.getD ((p_impl_BoundsOf r2.1).2.1).toNat 0) < 1) := d_f q2076
                have q2082 := d_t (not_f q2074)
                have q2083 : (IntKind.wrap .i64 (s1744.2.1 * (r9.1.getD 1 0))) = (IntKind.wrap .i64 ((r9.1.getD 0 0) * s1744.1)) := d_t (not_f q2072)
                exact Reads.strip 346 rfl (hg2070) (r_load_elema_int Try.isAgg3 Try.sizeOf3 rfl rfl rfl (show 1 < 2 from by omega))) rfl ?_
          refine ao_readG (x := .int .i64 (IntKind.wrap .i64 ((IntKind.wrap .i64 ((IntKind.wrap .i64 (s1744.2.2.1 * s1744.1)) - (IntKind.wrap .i64 (s1744.2.1 * s1744.2.1)))) * (r11.1.getD 1 0)))) rfl (GV.F rfl) (fun hg2084 => by
                obtain ⟨q2085, q2086⟩ := or_f (not_t hg2084)
                obtain ⟨q2087, q2088⟩ := or_f q2085
                obtain ⟨q2089, q2090⟩ := or_f q2087
                obtain ⟨q2091, q2092⟩ := or_f q2089
                have q2093 := d_t (not_f q2091)
                have q2094 : ¬ ((r3.1.getD ((p_impl_BoundsOf r2.1).1).toNat 0) < 1) := d_f q2092
                have q2095 : ¬ ((r3.1.getD ((p_impl_BoundsOf r2.1).2.1).toNat 0) < 1) := d_f q2090
                have q2096 := d_t (not_f q2088)
                have q2097 : (IntKind.wrap .i64 (s1744.2.1 * (r9.1.getD 1 0))) = (IntKind.wrap .i64 ((r9.1.getD 0 0) * s1744.1)) := d_t (not_f q2086)
                exact Reads.strip 345 rfl (hg2084) (Reads.strip 347 rfl (hg2084) (r_mul rfl rfl))) rfl ?_
          refine ao_readG (x := .elem 4 0 1 0) rfl (GV.F rfl) (fun hg2098 => by
                obtain ⟨q2099, q2100⟩ := or_f (not_t hg2098)
                obtain ⟨q2101, q2102⟩ := or_f q2099
                obtain ⟨q2103, q2104⟩ := or_f q2101
                obtain ⟨q2105, q2106⟩ := or_f q2103
                have q2107 := d_t (not_f q2105)
                have q2108 : ¬ ((r3.1.getD ((p_impl_BoundsOf r2.1).1).toNat 0) < 1) := d_f q2106
                have q2109 : ¬ ((r3.1.getD ((p_impl_BoundsOf r2.1).2.1).toNat 0) < 1) := d_f q2104
                have q2110 := d_t (not_f q2102)
                have q2111 : (IntKind.wrap .i64 (s1744.2.1 * (r9.1.getD 1 0))) = (IntKind.wrap .i64 ((r9.1.getD 0 0) * s1744.1)) := d_t (not_f q2100)
                exact r_idxAddr_arr (i := 0) Try.underlying30 Try.sizeOf3 rfl rfl (show 0 ≤ 0 from by omega) (show 0 < (2 : Int) from by omega)) rfl ?_
          refine ao_readG (x := .int .i64 (r11.1.getD 0 0)) rfl (GV.F rfl) (fun hg2112 => by
                obtain ⟨q2113, q2114⟩ := or_f (not_t hg2112)
                obtain ⟨q2115, q2116⟩ := or_f q2113
                obtain ⟨q2117, q2118⟩ := or_f q2115
                obtain ⟨q2119, q2120⟩ := or_f q2117
                have q2121 := d_t (not_f q2119)
                have q2122 : ¬ ((r3.1.getD ((p_impl_BoundsOf r2.1).1).toNat 0) < 1) := d_f q2120
                have q2123 : ¬ ((r3.1.getD ((p_impl_BoundsOf r2.1).2.1).toNat 0) < 1) := d_f q2118
                have q2124 := d_t (not_f q2116)
                have q2125 : (IntKind.wrap .i64 (s1744.2.1 * (r9.1.getD 1 0))) = (IntKind.wrap .i64 ((r9.1.getD 0 0) * s1744.1)) := d_t (not_f q2114)
                exact Reads.strip 349 rfl (hg2112) (r_load_elema_int Try.isAgg3 Try.sizeOf3 rfl rfl rfl (show 0 < 2 from by omega))) rfl ?_
          refine ao_readG (x := .int .i64 s1744.1) rfl (GV.F rfl) (fun hg2126 => by
                obtain ⟨q2127, q2128⟩ := or_f (not_t hg2126)
                obtain ⟨q2129, q2130⟩ := or_f q2127
                obtain ⟨q2131, q2132⟩ := or_f q2129
                obtain ⟨q2133, q2134⟩ := or_f q2131
                have q2135 := d_t (not_f q2133)
                have q2136 : ¬ ((r3.1.getD ((p_impl_BoundsOf r2.1).1).toNat 0) < 1) := d_f q2134
                have q2137 : ¬ ((r3.1.getD ((p_impl_BoundsOf r2.1).2.1).toNat 0) < 1) := d_f q2132
                have q2138 := d_t (not_f q2130)
                have q2139 : (IntKind.wrap .i64 (s1744.2.1 * (r9.1.getD 1 0))) = (IntKind.wrap .i64 ((r9.1.getD 0 0) * s1744.1)) := d_t (not_f q2128)
                exact r_move rfl) rfl ?_
          refine ao_readG (x := .int .i64 (IntKind.wrap .i64 ((r11.1.getD 0 0) * s1744.1))) rfl (GV.F rfl) (fun hg2140 => by
                obtain ⟨q2141, q2142⟩ := or_f (not_t hg2140)
                obtain ⟨q2143, q2144⟩ := or_f q2141
                obtain ⟨q2145, q2146⟩ := or_f q2143
                obtain ⟨q2147, q2148⟩ := or_f q2145
                have q2149 := d_t (not_f q2147)
                have q2150 : ¬ ((r3.1.getD ((p_impl_BoundsOf r2.1).1).toNat 0) < 1) := d_f q2148
                have q2151 : ¬ ((r3.1.getD ((p_impl_BoundsOf r2.1).2.1).toNat 0) < 1) := d_f q2146
                have q2152 := d_t (not_f q2144)
                have q2153 : (IntKind.wrap .i64 (s1744.2.1 * (r9.1.getD 1 0))) = (IntKind.wrap .i64 ((r9.1.getD 0 0) * s1744.1)) := d_t (not_f q2142)
                exact Reads.strip 350 rfl (hg2140) (Reads.strip 351 rfl (hg2140) (r_mul rfl rfl))) rfl ?_
          refine ao_readG (x := .int .i64 s1744.1) rfl (GV.F rfl) (fun hg2154 => by
                obtain ⟨q2155, q2156⟩ := or_f (not_t hg2154)
                obtain ⟨q2157, q2158⟩ := or_f q2155
                obtain ⟨q2159, q2160⟩ := or_f q2157
                obtain ⟨q2161, q2162⟩ := or_f q2159
                have q2163 := d_t (not_f q2161)
                have q2164 : ¬ ((r3.1.getD ((p_impl_BoundsOf r2.1).1).toNat 0) < 1) := d_f q2162
                have q2165 : ¬ ((r3.1.getD ((p_impl_BoundsOf r2.1).2.1).toNat 0) < 1) := d_f q2160
                have q2166 := d_t (not_f q2158)
                have q2167 : (IntKind.wrap .i64 (s1744.2.1 * (r9.1.getD 1 0))) = (IntKind.wrap .i64 ((r9.1.getD 0 0) * s1744.1)) := d_t (not_f q2156)
                exact r_move rfl) rfl ?_
          refine ao_readG (x := .int .i64 (IntKind.wrap .i64 ((IntKind.wrap .i64 ((r11.1.getD 0 0) * s1744.1)) * s1744.1))) rfl (GV.F rfl) (fun hg2168 => by
                obtain ⟨q2169, q2170⟩ := or_f (not_t hg2168)
                obtain ⟨q2171, q2172⟩ := or_f q2169
                obtain ⟨q2173, q2174⟩ := or_f q2171
                obtain ⟨q2175, q2176⟩ := or_f q2173
                have q2177 := d_t (not_f q2175)
                have q2178 : ¬ ((r3.1.getD ((p_impl_BoundsOf r2.1).1).toNat 0) < 1) := d_f q2176
                have q2179 : ¬ ((r3.1.getD ((p_impl_BoundsOf r2.1).2.1).toNat 0) < 1) := d_f q2174
                have q2180 := d_t (not_f q2172)
                have q2181 : (IntKind.wrap .i64 (s1744.2.1 * (r9.1.getD 1 0))) = (IntKind.wrap .i64 ((r9.1.getD 0 0) * s1744.1)) := d_t (not_f q2170)
                exact Reads.strip 352 rfl (hg2168) (Reads.strip 353 rfl (hg2168) (r_mul rfl rfl))) rfl ?_
          refine ao_readG (x := .bool (!(decide ((IntKind.wrap .i64 ((IntKind.wrap .i64 ((IntKind.wrap .i64 (s1744.2.2.1 * s1744.1)) - (IntKind.wrap .i64 (s1744.2.1 * s1744.2.1)))) * (r11.1.getD 1 0))) = (IntKind.wrap .i64 ((IntKind.wrap .i64 ((r11.1.getD 0 0) * s1744.1)) * s1744.1)))))) rfl (GV.F rfl) (fun hg2182 => by
                obtain ⟨q2183, q2184⟩ := or_f (not_t hg2182)
                obtain ⟨q2185, q2186⟩ := or_f q2183
                obtain ⟨q2187, q2188⟩ := or_f q2185
                obtain ⟨q2189, q2190⟩ := or_f q2187
                have q2191 := d_t (not_f q2189)
                have q2192 : ¬ ((r3.1.getD ((p_impl_BoundsOf r2.1).1).toNat 0) < 1) := d_f q2190
                have q2193 : ¬ ((r3.1.getD ((p_impl_BoundsOf r2.1).2.1).toNat 0) < 1) := d_f q2188
                have q2194 := d_t (not_f q2186)
                have q2195 : (IntKind.wrap .i64 (s1744.2.1 * (r9.1.getD 1 0))) = (IntKind.wrap .i64 ((r9.1.getD 0 0) * s1744.1)) := d_t (not_f q2184)
                exact Reads.strip 348 rfl (hg2182) (Reads.strip 354 rfl (hg2182) (r_neq rfl rfl))) rfl ?_
          refine ao_read trivial (r_orB rfl rfl) rfl ?_
          refine ao_nil ?_
          refine aq_then ?_
          refine aw_cond rfl (fun hb2196 => ?_) (fun hb2196 => ?_)
          · replace h := is_if hb2196 h
            refine aw_seq ?_
            refine aw_region ?_
            refine ao_read trivial (r_assign rfl) rfl ?_
            refine ao_nil ?_
            refine aq_then ?_
            refine aw_ret ?_
            refine aq_then_ret ?_
            refine aq_ret ?_
            obtain rfl := is_some h
            exact aq_finx (l := [.tmp 2]) (xs := [.bool false]) idn [.bool false] [] rfl (by exact ⟨rfl, trivial⟩) (by exact ⟨ad_ren rfl, trivial⟩) (by exact trivial) rfl (nk rfl) rfl rfl ⟨rfl, rfl⟩
          · obtain ⟨q2197, q2198⟩ := or_f hb2196
            obtain ⟨q2199, q2200⟩ := or_f q2197
            obtain ⟨q2201, q2202⟩ := or_f q2199
            obtain ⟨q2203, q2204⟩ := or_f q2201
            obtain ⟨q2205, q2206⟩ := or_f q2203
            have q2207 := d_t (not_f q2205)
            have q2208 : ¬ ((r3.1.getD ((p_impl_BoundsOf r2.1).1).toNat 0) < 1) := d_f q2206
            have q2209 : ¬ ((r3.1.getD ((p_impl_BoundsOf r2.1).2.1).toNat 0) < 1) := d_f q2204
            have q2210 := d_t (not_f q2202)
            have q2211 : (IntKind.wrap .i64 (s1744.2.1 * (r9.1.getD 1 0))) = (IntKind.wrap .i64 ((r9.1.getD 0 0) * s1744.1)) := d_t (not_f q2200)
            have q2212 : (IntKind.wrap .i64 ((IntKind.wrap .i64 ((IntKind.wrap .i64 (s1744.2.2.1 * s1744.1)) - (IntKind.wrap .i64 (s1744.2.1 * s1744.2.1)))) * (r11.1.getD 1 0))) = (IntKind.wrap .i64 ((IntKind.wrap .i64 ((r11.1.getD 0 0) * s1744.1)) * s1744.1)) := d_t (not_f q2198)
            replace h := is_else (ne_t hb2196) h
            refine aw_skip ?_
            refine aq_then ?_
            refine aw_seq ?_
            refine aw_seq ?_
            refine aw_region ?_
            refine ao_read trivial (r_move rfl) rfl ?_
            refine ao_nil ?_
            refine aq_then ?_
            refine aw_cond rfl (fun hb2213 => ?_) (fun hb2213 => ?_)
            · replace h := is_if hb2213 h
              refine aw_seq ?_
              refine aw_region ?_
              refine ao_read trivial (r_build_arr (l := [(0, .const (.int .i64 0)), (1, .const (.int .i64 1))]) (t := (.int .i64)) ([0, 1] : (List Int)) rfl Try.underlying30 Try.zeroValue30 Try.sizeOf3 rfl rfl rfl rfl) rfl ?_
              refine ao_eff trivial (e_alloc 6 (y := .v (.arr 2 (.int .i64)) ((List.replicate 2 0) : (List Int))) Try.zeroValue30 (fun ρ h M => ra_zero_arr (t := (.int .i64)) rfl) rfl rfl rfl rfl rfl) rfl ?_
              refine ao_effS trivial (e_store rfl rfl rfl rfl Try.sizeOf30 rfl) ?_
              refine ao_nil ?_
              refine aq_then ?_
              refine aw_join (fun (s2214 : (List Int)) => [(4, .int .i64 r2.2), (5, .ref 0 0), (9, .ref 1 0), (13, .ref 2 0), (37, .int .i64 s1744.1), (42, .ref 3 0)]) (fun (s2214 : (List Int)) => [(0, .var [.arr (.int .i64) 121 r3.1]), (1, .var [.arr (.int .i64) 2 r5.1]), (2, .var [.arr (.int .i64) 2 r7.1]), (3, .var [.arr (.int .i64) 2 s2214])]) (fun (s2214 : (List Int)) => True) h (fun s2214 hI h => ?_) (fun h j2216 => ?_)
              · refine aw_seq ?_
                obtain ⟨g2217, h⟩ := is_guard h
                obtain ⟨g2218, h⟩ := is_guard h
                refine aw_drawAll (by kernel_rfl) ?_
                refine an_read 0 (by kernel_rfl) (fun _ _ _ h => h) rfl (by kernel_rfl) trivial (r_idxAddr_arr (i := 0) Try.underlying30 Try.sizeOf3 rfl rfl (show 0 ≤ 0 from by omega) (show 0 < (2 : Int) from by omega)) rfl ?_
                refine an_read 1 (by kernel_rfl) (fun _ _ _ h => h) rfl (by kernel_rfl) trivial (r_load_elema_int Try.isAgg3 Try.sizeOf3 rfl rfl rfl (show 0 < 2 from by omega)) rfl ?_
                refine an_read 2 (by kernel_rfl) (fun _ _ _ h => h) rfl (by kernel_rfl) trivial (r_move rfl) rfl ?_
                refine an_read 3 (by kernel_rfl) (fun _ _ _ h => h) rfl (by kernel_rfl) trivial (r_mul rfl rfl) rfl ?_
                refine an_read 4 (by kernel_rfl) (fun _ _ _ h => h) rfl (by kernel_rfl) trivial (r_move rfl) rfl ?_
                refine an_read 5 (by kernel_rfl) (fun _ _ _ h => h) rfl (by kernel_rfl) trivial (r_idxAddr_arr (i := r2.2) Try.underlying27 Try.sizeOf3 rfl rfl (show 0 ≤ r2.2 from by omega) (show r2.2 < (121 : Int) from by omega)) rfl ?_
                refine an_read 6 (by kernel_rfl) (fun _ _ _ h => h) rfl (by kernel_rfl) trivial (r_load_elema_int Try.isAgg3 Try.sizeOf3 rfl rfl rfl (show r2.2.toNat < 121 from by omega)) rfl ?_
                refine an_read 7 (by kernel_rfl) (fun _ _ _ h => h) rfl (by kernel_rfl) trivial (r_idxAddr_arr (i := 1) Try.underlying30 Try.sizeOf3 rfl rfl (show 0 ≤ 1 from by omega) (show 1 < (2 : Int) from by omega)) rfl ?_
                refine an_read 8 (by kernel_rfl) (fun _ _ _ h => h) rfl (by kernel_rfl) trivial (r_load_elema_int Try.isAgg3 Try.sizeOf3 rfl rfl rfl (show 1 < 2 from by omega)) rfl ?_
                refine an_read 9 (by kernel_rfl) (fun _ _ _ h => h) rfl (by kernel_rfl) trivial (r_mul rfl rfl) rfl ?_
                refine an_read 10 (by kernel_rfl) (fun _ _ _ h => h) rfl (by kernel_rfl) trivial (r_neq rfl rfl) rfl ?_
                refine an_read 11 (by kernel_rfl) (fun _ _ _ h => h) rfl (by kernel_rfl) trivial (r_move rfl) rfl ?_
                refine an_readG 12 (x := .elem 2 0 1 0) (by kernel_rfl) (fun _ _ _ h => h) rfl (by kernel_rfl) rfl (GV.F rfl) (fun hg2219 => by
                      have q2220 : (IntKind.wrap .i64 ((r5.1.getD 0 0) * s1744.1)) = (IntKind.wrap .i64 ((r3.1.getD r2.2.toNat 0) * (r5.1.getD 1 0))) := d_t (not_f (not_t hg2219))
                      exact r_idxAddr_arr (i := 0) Try.underlying30 Try.sizeOf3 rfl rfl (show 0 ≤ 0 from by omega) (show 0 < (2 : Int) from by omega)) rfl ?_
                refine an_readG 13 (x := .int .i64 (r7.1.getD 0 0)) (by kernel_rfl) (fun _ _ _ h => h) rfl (by kernel_rfl) rfl (GV.F rfl) (fun hg2221 => by
                      have q2222 : (IntKind.wrap .i64 ((r5.1.getD 0 0) * s1744.1)) = (IntKind.wrap .i64 ((r3.1.getD r2.2.toNat 0) * (r5.1.getD 1 0))) := d_t (not_f (not_t hg2221))
                      exact Reads.strip 380 rfl (hg2221) (r_load_elema_int Try.isAgg3 Try.sizeOf3 rfl rfl rfl (show 0 < 2 from by omega))) rfl ?_
                refine an_readG 14 (x := .elem 3 0 1 1) (by kernel_rfl) (fun _ _ _ h => h) rfl (by kernel_rfl) rfl (GV.F rfl) (fun hg2223 => by
                      have q2224 : (IntKind.wrap .i64 ((r5.1.getD 0 0) * s1744.1)) = (IntKind.wrap .i64 ((r3.1.getD r2.2.toNat 0) * (r5.1.getD 1 0))) := d_t (not_f (not_t hg2223))
                      exact r_idxAddr_arr (i := 1) Try.underlying30 Try.sizeOf3 rfl rfl (show 0 ≤ 1 from by omega) (show 1 < (2 : Int) from by omega)) rfl ?_
                refine an_readG 15 (x := .int .i64 (s2214.getD 1 0)) (by kernel_rfl) (fun _ _ _ h => h) rfl (by kernel_rfl) rfl (GV.F rfl) (fun hg2225 => by
                      have q2226 : (IntKind.wrap .i64 ((r5.1.getD 0 0) * s1744.1)) = (IntKind.wrap .i64 ((r3.1.getD r2.2.toNat 0) * (r5.1.getD 1 0))) := d_t (not_f (not_t hg2225))
                      exact Reads.strip 382 rfl (hg2225) (r_load_elema_int Try.isAgg3 Try.sizeOf3 rfl rfl rfl (show 1 < 2 from by omega))) rfl ?_
                refine an_readG 16 (x := .int .i64 (IntKind.wrap .i64 ((r7.1.getD 0 0) * (s2214.getD 1 0)))) (by kernel_rfl) (fun _ _ _ h => h) rfl (by kernel_rfl) rfl (GV.F rfl) (fun hg2227 => by
                      have q2228 : (IntKind.wrap .i64 ((r5.1.getD 0 0) * s1744.1)) = (IntKind.wrap .i64 ((r3.1.getD r2.2.toNat 0) * (r5.1.getD 1 0))) := d_t (not_f (not_t hg2227))
                      exact Reads.strip 381 rfl (hg2227) (Reads.strip 383 rfl (hg2227) (r_mul rfl rfl))) rfl ?_
                refine an_readG 17 (x := .elem 1 0 1 1) (by kernel_rfl) (fun _ _ _ h => h) rfl (by kernel_rfl) rfl (GV.F rfl) (fun hg2229 => by
                      have q2230 : (IntKind.wrap .i64 ((r5.1.getD 0 0) * s1744.1)) = (IntKind.wrap .i64 ((r3.1.getD r2.2.toNat 0) * (r5.1.getD 1 0))) := d_t (not_f (not_t hg2229))
                      exact r_idxAddr_arr (i := 1) Try.underlying30 Try.sizeOf3 rfl rfl (show 0 ≤ 1 from by omega) (show 1 < (2 : Int) from by omega)) rfl ?_
                refine an_readG 18 (x := .int .i64 (r5.1.getD 1 0)) (by kernel_rfl) (fun _ _ _ h => h) rfl (by kernel_rfl) rfl (GV.F rfl) (fun hg2231 => by
                      have q2232 : (IntKind.wrap .i64 ((r5.1.getD 0 0) * s1744.1)) = (IntKind.wrap .i64 ((r3.1.getD r2.2.toNat 0) * (r5.1.getD 1 0))) := d_t (not_f (not_t hg2231))
                      exact Reads.strip 385 rfl (hg2231) (r_load_elema_int Try.isAgg3 Try.sizeOf3 rfl rfl rfl (show 1 < 2 from by omega))) rfl ?_
                refine an_readG 19 (x := .int .i64 (IntKind.wrap .i64 ((IntKind.wrap .i64 ((r7.1.getD 0 0) * (s2214.getD 1 0))) * (r5.1.getD 1 0)))) (by kernel_rfl) (fun _ _ _ h => h) rfl (by kernel_rfl) rfl (GV.F rfl) (fun hg2233 => by
                      have q2234 : (IntKind.wrap .i64 ((r5.1.getD 0 0) * s1744.1)) = (IntKind.wrap .i64 ((r3.1.getD r2.2.toNat 0) * (r5.1.getD 1 0))) := d_t (not_f (not_t hg2233))
                      exact Reads.strip 384 rfl (hg2233) (Reads.strip 386 rfl (hg2233) (r_mul rfl rfl))) rfl ?_
                refine an_readG 20 (x := .elem 3 0 1 0) (by kernel_rfl) (fun _ _ _ h => h) rfl (by kernel_rfl) rfl (GV.F rfl) (fun hg2235 => by
                      have q2236 : (IntKind.wrap .i64 ((r5.1.getD 0 0) * s1744.1)) = (IntKind.wrap .i64 ((r3.1.getD r2.2.toNat 0) * (r5.1.getD 1 0))) := d_t (not_f (not_t hg2235))
                      exact r_idxAddr_arr (i := 0) Try.underlying30 Try.sizeOf3 rfl rfl (show 0 ≤ 0 from by omega) (show 0 < (2 : Int) from by omega)) rfl ?_
                refine an_readG 21 (x := .int .i64 (s2214.getD 0 0)) (by kernel_rfl) (fun _ _ _ h => h) rfl (by kernel_rfl) rfl (GV.F rfl) (fun hg2237 => by
                      have q2238 : (IntKind.wrap .i64 ((r5.1.getD 0 0) * s1744.1)) = (IntKind.wrap .i64 ((r3.1.getD r2.2.toNat 0) * (r5.1.getD 1 0))) := d_t (not_f (not_t hg2237))
                      exact Reads.strip 388 rfl (hg2237) (r_load_elema_int Try.isAgg3 Try.sizeOf3 rfl rfl rfl (show 0 < 2 from by omega))) rfl ?_
                refine an_readG 22 (x := .elem 1 0 1 1) (by kernel_rfl) (fun _ _ _ h => h) rfl (by kernel_rfl) rfl (GV.F rfl) (fun hg2239 => by
                      have q2240 : (IntKind.wrap .i64 ((r5.1.getD 0 0) * s1744.1)) = (IntKind.wrap .i64 ((r3.1.getD r2.2.toNat 0) * (r5.1.getD 1 0))) := d_t (not_f (not_t hg2239))
                      exact r_idxAddr_arr (i := 1) Try.underlying30 Try.sizeOf3 rfl rfl (show 0 ≤ 1 from by omega) (show 1 < (2 : Int) from by omega)) rfl ?_
                refine an_readG 23 (x := .int .i64 (r5.1.getD 1 0)) (by kernel_rfl) (fun _ _ _ h => h) rfl (by kernel_rfl) rfl (GV.F rfl) (fun hg2241 => by
                      have q2242 : (IntKind.wrap .i64 ((r5.1.getD 0 0) * s1744.1)) = (IntKind.wrap .i64 ((r3.1.getD r2.2.toNat 0) * (r5.1.getD 1 0))) := d_t (not_f (not_t hg2241))
                      exact Reads.strip 390 rfl (hg2241) (r_load_elema_int Try.isAgg3 Try.sizeOf3 rfl rfl rfl (show 1 < 2 from by omega))) rfl ?_
                refine an_readG 24 (x := .int .i64 (IntKind.wrap .i64 ((s2214.getD 0 0) * (r5.1.getD 1 0)))) (by kernel_rfl) (fun _ _ _ h => h) rfl (by kernel_rfl) rfl (GV.F rfl) (fun hg2243 => by
                      have q2244 : (IntKind.wrap .i64 ((r5.1.getD 0 0) * s1744.1)) = (IntKind.wrap .i64 ((r3.1.getD r2.2.toNat 0) * (r5.1.getD 1 0))) := d_t (not_f (not_t hg2243))
                      exact Reads.strip 389 rfl (hg2243) (Reads.strip 391 rfl (hg2243) (r_mul rfl rfl))) rfl ?_
                refine an_readG 25 (x := .elem 1 0 1 0) (by kernel_rfl) (fun _ _ _ h => h) rfl (by kernel_rfl) rfl (GV.F rfl) (fun hg2245 => by
                      have q2246 : (IntKind.wrap .i64 ((r5.1.getD 0 0) * s1744.1)) = (IntKind.wrap .i64 ((r3.1.getD r2.2.toNat 0) * (r5.1.getD 1 0))) := d_t (not_f (not_t hg2245))
                      exact r_idxAddr_arr (i := 0) Try.underlying30 Try.sizeOf3 rfl rfl (show 0 ≤ 0 from by omega) (show 0 < (2 : Int) from by omega)) rfl ?_
                refine an_readG 26 (x := .int .i64 (r5.1.getD 0 0)) (by kernel_rfl) (fun _ _ _ h => h) rfl (by kernel_rfl) rfl (GV.F rfl) (fun hg2247 => by
                      have q2248 : (IntKind.wrap .i64 ((r5.1.getD 0 0) * s1744.1)) = (IntKind.wrap .i64 ((r3.1.getD r2.2.toNat 0) * (r5.1.getD 1 0))) := d_t (not_f (not_t hg2247))
                      exact Reads.strip 393 rfl (hg2247) (r_load_elema_int Try.isAgg3 Try.sizeOf3 rfl rfl rfl (show 0 < 2 from by omega))) rfl ?_
                refine an_readG 27 (x := .elem 3 0 1 1) (by kernel_rfl) (fun _ _ _ h => h) rfl (by kernel_rfl) rfl (GV.F rfl) (fun hg2249 => by
                      have q2250 : (IntKind.wrap .i64 ((r5.1.getD 0 0) * s1744.1)) = (IntKind.wrap .i64 ((r3.1.getD r2.2.toNat 0) * (r5.1.getD 1 0))) := d_t (not_f (not_t hg2249))
                      exact r_idxAddr_arr (i := 1) Try.underlying30 Try.sizeOf3 rfl rfl (show 0 ≤ 1 from by omega) (show 1 < (2 : Int) from by omega)) rfl ?_
                refine an_readG 28 (x := .int .i64 (s2214.getD 1 0)) (by kernel_rfl) (fun _ _ _ h => h) rfl (by kernel_rfl) rfl (GV.F rfl) (fun hg2251 => by
                      have q2252 : (IntKind.wrap .i64 ((r5.1.getD 0 0) * s1744.1)) = (IntKind.wrap .i64 ((r3.1.getD r2.2.toNat 0) * (r5.1.getD 1 0))) := d_t (not_f (not_t hg2251))
                      exact Reads.strip 395 rfl (hg2251) (r_load_elema_int Try.isAgg3 Try.sizeOf3 rfl rfl rfl (show 1 < 2 from by omega))) rfl ?_
                refine an_readG 29 (x := .int .i64 (IntKind.wrap .i64 ((r5.1.getD 0 0) * (s2214.getD 1 0)))) (by kernel_rfl) (fun _ _ _ h => h) rfl (by kernel_rfl) rfl (GV.F rfl) (fun hg2253 => by
                      have q2254 : (IntKind.wrap .i64 ((r5.1.getD 0 0) * s1744.1)) = (IntKind.wrap .i64 ((r3.1.getD r2.2.toNat 0) * (r5.1.getD 1 0))) := d_t (not_f (not_t hg2253))
                      exact Reads.strip 394 rfl (hg2253) (Reads.strip 396 rfl (hg2253) (r_mul rfl rfl))) rfl ?_
                refine an_readG 30 (x := .int .i64 (IntKind.wrap .i64 ((IntKind.wrap .i64 ((s2214.getD 0 0) * (r5.1.getD 1 0))) + (IntKind.wrap .i64 ((r5.1.getD 0 0) * (s2214.getD 1 0)))))) (by kernel_rfl) (fun _ _ _ h => h) rfl (by kernel_rfl) rfl (GV.F rfl) (fun hg2255 => by
                      have q2256 : (IntKind.wrap .i64 ((r5.1.getD 0 0) * s1744.1)) = (IntKind.wrap .i64 ((r3.1.getD r2.2.toNat 0) * (r5.1.getD 1 0))) := d_t (not_f (not_t hg2255))
                      exact Reads.strip 392 rfl (hg2255) (Reads.strip 397 rfl (hg2255) (r_add rfl rfl))) rfl ?_
                refine an_readG 31 (x := .elem 2 0 1 1) (by kernel_rfl) (fun _ _ _ h => h) rfl (by kernel_rfl) rfl (GV.F rfl) (fun hg2257 => by
                      have q2258 : (IntKind.wrap .i64 ((r5.1.getD 0 0) * s1744.1)) = (IntKind.wrap .i64 ((r3.1.getD r2.2.toNat 0) * (r5.1.getD 1 0))) := d_t (not_f (not_t hg2257))
                      exact r_idxAddr_arr (i := 1) Try.underlying30 Try.sizeOf3 rfl rfl (show 0 ≤ 1 from by omega) (show 1 < (2 : Int) from by omega)) rfl ?_
                refine an_readG 32 (x := .int .i64 (r7.1.getD 1 0)) (by kernel_rfl) (fun _ _ _ h => h) rfl (by kernel_rfl) rfl (GV.F rfl) (fun hg2259 => by
                      have q2260 : (IntKind.wrap .i64 ((r5.1.getD 0 0) * s1744.1)) = (IntKind.wrap .i64 ((r3.1.getD r2.2.toNat 0) * (r5.1.getD 1 0))) := d_t (not_f (not_t hg2259))
                      exact Reads.strip 399 rfl (hg2259) (r_load_elema_int Try.isAgg3 Try.sizeOf3 rfl rfl rfl (show 1 < 2 from by omega))) rfl ?_
                refine an_readG 33 (x := .int .i64 (IntKind.wrap .i64 ((IntKind.wrap .i64 ((IntKind.wrap .i64 ((s2214.getD 0 0) * (r5.1.getD 1 0))) + (IntKind.wrap .i64 ((r5.1.getD 0 0) * (s2214.getD 1 0))))) * (r7.1.getD 1 0)))) (by kernel_rfl) (fun _ _ _ h => h) rfl (by kernel_rfl) rfl (GV.F rfl) (fun hg2261 => by
                      have q2262 : (IntKind.wrap .i64 ((r5.1.getD 0 0) * s1744.1)) = (IntKind.wrap .i64 ((r3.1.getD r2.2.toNat 0) * (r5.1.getD 1 0))) := d_t (not_f (not_t hg2261))
                      exact Reads.strip 398 rfl (hg2261) (Reads.strip 400 rfl (hg2261) (r_mul rfl rfl))) rfl ?_
                refine an_readG 34 (x := .bool (!(decide ((IntKind.wrap .i64 ((IntKind.wrap .i64 ((r7.1.getD 0 0) * (s2214.getD 1 0))) * (r5.1.getD 1 0))) = (IntKind.wrap .i64 ((IntKind.wrap .i64 ((IntKind.wrap .i64 ((s2214.getD 0 0) * (r5.1.getD 1 0))) + (IntKind.wrap .i64 ((r5.1.getD 0 0) * (s2214.getD 1 0))))) * (r7.1.getD 1 0))))))) (by kernel_rfl) (fun _ _ _ h => h) rfl (by kernel_rfl) rfl (GV.F rfl) (fun hg2263 => by
                      have q2264 : (IntKind.wrap .i64 ((r5.1.getD 0 0) * s1744.1)) = (IntKind.wrap .i64 ((r3.1.getD r2.2.toNat 0) * (r5.1.getD 1 0))) := d_t (not_f (not_t hg2263))
                      exact Reads.strip 387 rfl (hg2263) (Reads.strip 401 rfl (hg2263) (r_neq rfl rfl))) rfl ?_
                refine an_read 35 (by kernel_rfl) (fun _ _ _ h => h) rfl (by kernel_rfl) trivial (r_orB rfl rfl) rfl ?_
                refine an_done rfl ?_
                refine aq_then ?_
                refine aw_cond rfl (fun hb2265 => ?_) (fun hb2265 => ?_)
                · replace h := is_if hb2265 h
                  refine aw_seq ?_
                  refine aw_region ?_
                  refine ao_read trivial (r_assign rfl) rfl ?_
                  refine ao_nil ?_
                  refine aq_then ?_
                  refine aw_ret ?_
                  refine aq_then_ret ?_
                  refine aq_ret ?_
                  obtain rfl := is_some h
                  exact aq_finx (l := [.tmp 2]) (xs := [.bool false]) idn [.bool false] [] rfl (by exact ⟨rfl, trivial⟩) (by exact ⟨ad_ren rfl, trivial⟩) (by exact trivial) rfl (nk rfl) rfl rfl ⟨rfl, rfl⟩
                · obtain ⟨q2266, q2267⟩ := or_f hb2265
                  have q2268 : (IntKind.wrap .i64 ((r5.1.getD 0 0) * s1744.1)) = (IntKind.wrap .i64 ((r3.1.getD r2.2.toNat 0) * (r5.1.getD 1 0))) := d_t (not_f q2266)
                  have q2269 : (IntKind.wrap .i64 ((IntKind.wrap .i64 ((r7.1.getD 0 0) * (s2214.getD 1 0))) * (r5.1.getD 1 0))) = (IntKind.wrap .i64 ((IntKind.wrap .i64 ((IntKind.wrap .i64 ((s2214.getD 0 0) * (r5.1.getD 1 0))) + (IntKind.wrap .i64 ((r5.1.getD 0 0) * (s2214.getD 1 0))))) * (r7.1.getD 1 0))) := d_t (not_f q2267)
                  replace h := is_else (ne_t hb2265) h
                  refine aw_skip ?_
                  refine aq_then ?_
                  refine aw_seq ?_
                  refine aw_region ?_
                  refine ao_read trivial (r_assign rfl) rfl ?_
                  refine ao_nil ?_
                  refine aq_then ?_
                  refine aw_ret ?_
                  refine aq_ret ?_
                  obtain rfl := is_some h
                  exact aq_finx (l := [.tmp 2]) (xs := [.bool true]) idn [.bool true] [] rfl (by exact ⟨rfl, trivial⟩) (by exact ⟨ad_ren rfl, trivial⟩) (by exact trivial) rfl (nk rfl) rfl rfl ⟨rfl, rfl⟩
              · refine aw_seq ?_
                refine aw_region ?_
                refine ao_read trivial (r_move rfl) rfl ?_
                refine ao_read trivial (r_lss rfl rfl) rfl ?_
                refine ao_nil ?_
                refine aq_then ?_
                refine aw_cond rfl (fun hb2270 => ?_) (fun hb2270 => ?_)
                · have q2271 := d_t hb2270
                  replace h := is_if (d_t hb2270) h
                  refine aw_region ?_
                  refine ao_read trivial (r_move rfl) rfl ?_
                  refine ao_read trivial (r_move rfl) rfl ?_
                  refine ao_read trivial (r_add rfl rfl) rfl ?_
                  obtain ⟨r2273, r2273h, h⟩ := is_bind h
                  refine ao_scall trivial (scall (c_impl_ChanceAtLeast (is_mk r2273h)) rfl Try.func14 rfl rfl rfl rfl (fun σ => ⟨ad_ren rfl, ad_ren rfl, trivial⟩)) rfl ?_
                  refine ao_read trivial (r_move rfl) rfl ?_
                  refine ao_read trivial (r_extract rfl rfl) rfl ?_
                  refine ao_read trivial (r_extract rfl rfl) rfl ?_
                  refine ao_effS trivial (e_store rfl rfl rfl rfl Try.sizeOf30 rfl) ?_
                  refine ao_nil ?_
                  exact aq_then (AW.sub (sub_mk (rn [(3, 6)]) (by exact ⟨⟨_, rfl, ad_ren rfl⟩, ⟨_, rfl, ad_ren rfl⟩, ⟨_, rfl, ad_ren rfl⟩, ⟨_, rfl, ad_ren rfl⟩, ⟨_, rfl, ad_ren rfl⟩, ⟨_, rfl, ad_ren rfl⟩, trivial⟩) (by exact ⟨⟨_, rfl, ⟨rfl, trivial⟩⟩, ⟨_, rfl, ⟨rfl, trivial⟩⟩, ⟨_, rfl, ⟨rfl, trivial⟩⟩, ⟨_, rfl, ⟨rfl, trivial⟩⟩, trivial⟩) (by rfl) (nk rfl)) (j2216 r2273.1 trivial h))
                · have q2272 := d_f hb2270
                  replace h := is_else (d_f hb2270) h
                  refine aw_skip ?_
                  exact aq_then (AW.sub (sub_mk (rn [(3, 6)]) (by exact ⟨⟨_, rfl, ad_ren rfl⟩, ⟨_, rfl, ad_ren rfl⟩, ⟨_, rfl, ad_ren rfl⟩, ⟨_, rfl, ad_ren rfl⟩, ⟨_, rfl, ad_ren rfl⟩, ⟨_, rfl, ad_ren rfl⟩, trivial⟩) (by exact ⟨⟨_, rfl, ⟨rfl, trivial⟩⟩, ⟨_, rfl, ⟨rfl, trivial⟩⟩, ⟨_, rfl, ⟨rfl, trivial⟩⟩, ⟨_, rfl, ⟨rfl, trivial⟩⟩, trivial⟩) (by rfl) (nk rfl)) (j2216 [0, 1] trivial h))
            · replace h := is_else (ne_t hb2213) h
              refine aw_skip ?_
              refine aq_then ?_
              refine aw_seq ?_
              refine aw_region ?_
              refine ao_read trivial (r_assign rfl) rfl ?_
              refine ao_nil ?_
              refine aq_then ?_
              refine aw_ret ?_
              refine aq_ret ?_
              obtain rfl := is_some h
              exact aq_finx (l := [.tmp 2]) (xs := [.bool true]) idn [.bool true] [] rfl (by exact ⟨rfl, trivial⟩) (by exact ⟨ad_ren rfl, trivial⟩) (by exact trivial) rfl (nk rfl) rfl rfl ⟨rfl, rfl⟩
end Go.GA
