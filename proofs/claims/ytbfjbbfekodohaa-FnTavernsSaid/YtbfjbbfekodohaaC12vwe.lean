/- Walks: what the Go functions compute, by the printed lines below; no further conditions. -/
import Derived.Test.YtbfjbbfekodohaaC12vwd
namespace Go.GA
open Go Go.Proofs
set_option maxRecDepth 100000
set_option maxHeartbeats 2000000
set_option linter.unusedVariables false
set_option linter.unusedSimpArgs false
theorem c_impl_DoTask {fu : Nat} {x0 : dy3} {x1 : dy6} {r : dy3 × Bool} (h : Is (p_impl_DoTask fu x0 x1) (some r)) :
    ACalls Try.prog 10 [.v ty1 x0, .v ty4 x1] [] (fun r' H' => r' = .tup [.st [.os 0, .int .i64 r.1.2.1, .os 1, .int .i64 r.1.2.2.2.1, .int .i64 r.1.2.2.2.2.1, .int .i64 r.1.2.2.2.2.2.1], .bool r.2] ∧ H' = [(0, .row ty8 r.1.1), (1, .row ty11 r.1.2.2.1)]) := by
  unfold p_impl_DoTask at h
  refine ac_enter ⟨15, 0⟩ Try.func10 rfl rfl rfl rfl rfl (fun Γ => ?_)
  refine aw_seq ?_
  refine aw_region ?_
  refine ao_eff trivial (e_box 0 rfl rfl rfl rfl rfl rfl) rfl ?_
  refine ao_eff trivial (e_box 1 rfl rfl rfl rfl rfl rfl) rfl ?_
  refine ao_eff trivial (e_alloc 2 (y := .st [.nilsl, .int .i64 0, .nilsl, .int .i64 0, .int .i64 0, .int .i64 0]) Try.zeroValue29 (fun ρ h M => ra_zero_st (t := ty1) rfl rfl rfl) rfl rfl rfl rfl rfl) rfl ?_
  refine ao_r (r_assign rfl) rfl ?_
  refine ao_nil ?_
  refine aq_then ?_
  refine aw_seq ?_
  refine aw_seq ?_
  refine aw_region ?_
  refine ao_r (r_load_part (τ := ty1) (y := ((x0.1, (x0.2.1, (x0.2.2.1, (x0.2.2.2.1, (x0.2.2.2.2.1, (x0.2.2.2.2.2.1, ())))))) : dy3)) [] [] rfl Try.isAgg29 Try.sizeOf29 rfl rfl rfl rfl) rfl ?_
  obtain ⟨r1, r1h, h⟩ := is_bind h
  refine ao_scall trivial (scall (c_impl_IsTavern (is_mk r1h)) rfl Try.func25 rfl rfl rfl rfl (fun σ => ⟨ad_ren rfl, trivial⟩)) rfl ?_
  refine ao_r (r_not rfl) rfl ?_
  refine ao_nil ?_
  refine aq_then ?_
  refine aw_cond rfl (fun hb2 => ?_) (fun hb2 => ?_)
  replace h := is_else (ne_t (not_t hb2)) h
  refine aw_seq ?_
  refine aw_region ?_
  refine ao_r (r_build_st (l := []) (cs := [.cell (.nilsl), ci 0, .cell (.nilsl), ci 0, ci 0, ci 0]) ty1 [(0, 1), (1, 1), (2, 1), (3, 1), (4, 1), (5, 1)] Try.underlying29 Try.zeroValue29 rfl ⟨rfl, Try.sizeOf22, rfl, Try.sizeOf3, rfl, Try.sizeOf23, rfl, Try.sizeOf3, rfl, Try.sizeOf3, rfl, Try.sizeOf3, trivial⟩ rfl rfl rfl) rfl ?_
  refine ao_effS trivial (e_store rfl rfl rfl rfl Try.sizeOf29 rfl) ?_
  refine ao_r (r_assign rfl) rfl ?_
  refine ao_nil ?_
  refine aq_then ?_
  refine aw_ret ?_
  refine aq_then_ret ?_
  refine aq_ret ?_
  obtain rfl := is_some h
  refine AQ.sub (sub_nil_cell (t := ty8) (i := 2) 3 [] [ci 0, .cell (.nilsl), ci 0, ci 0, ci 0] rfl rfl rfl) ?_
  refine AQ.sub (sub_nil_cell (t := ty11) (i := 2) 4 [.cell (.os 3), ci 0] [ci 0, ci 0, ci 0] rfl rfl rfl) ?_
  exact aq_finx (l := [.cell 4 29, .tmp 5]) (xs := [.st [.os 3, .int .i64 0, .os 4, .int .i64 0, .int .i64 0, .int .i64 0], .bool false]) (rn [(0, 3), (1, 4)]) [.st [.os 0, .int .i64 0, .os 1, .int .i64 0, .int .i64 0, .int .i64 0], .bool false] [(0, .row ty8 ([] : dy10)), (1, .row ty11 ([] : dy12))] rfl (by exact ⟨⟨⟨_, _, rfl⟩, r_load_st [] [.cell (.os 3), ci 0, .cell (.os 4), ci 0, ci 0, ci 0] [] Try.isAgg29 Try.sizeOf29 rfl rfl rfl rfl rfl rfl rfl⟩, rfl, trivial⟩) (by exact ⟨ad_ren rfl, ad_ren rfl, trivial⟩) (by exact ⟨⟨_, rfl, rfl⟩, ⟨_, rfl, rfl⟩, trivial⟩) rfl (nk rfl) rfl rfl ⟨rfl, rfl⟩
  replace h := is_if (not_f hb2) h
  refine aw_skip ?_
  refine aq_then ?_
  refine aw_seq ?_
  refine aw_region ?_
  refine ao_r (r_load_part (τ := ty1) (y := ((x0.1, (x0.2.1, (x0.2.2.1, (x0.2.2.2.1, (x0.2.2.2.2.1, (x0.2.2.2.2.2.1, ())))))) : dy3)) [] [] rfl Try.isAgg29 Try.sizeOf29 rfl rfl rfl rfl) rfl ?_
  refine ao_r (r_load_part (τ := ty4) (y := ((x1.1, (x1.2.1, (x1.2.2.1, ()))) : dy6)) [] [] rfl Try.isAgg33 Try.sizeOf33 rfl rfl rfl rfl) rfl ?_
  obtain ⟨r3, r3h, h⟩ := is_bind h
  refine ao_call [] 3 trivial (c_impl_Tavern_done (is_mk r3h)) Try.func39 rfl rfl rfl rfl ⟨ad_ren rfl, ad_ren rfl, trivial⟩ trivial rfl rfl rfl rfl rfl rfl rfl (fun r' H' hr => ?_)
  obtain ⟨rfl, rfl⟩ := hr
  refine ao_norm (y := .tup [.st [.os 3, .int .i64 r3.1.2.1, .os 4, .int .i64 r3.1.2.2.2.1, .int .i64 r3.1.2.2.2.2.1, .int .i64 r3.1.2.2.2.2.2.1], .bool r3.2]) (H' := [(2, .var [.cell (.nilsl), ci 0, .cell (.nilsl), ci 0, ci 0, ci 0]), (1, .var [ci x1.1, ci x1.2.1, ci x1.2.2.1]), (0, .var [.cell (.v ty5 x0.1), ci x0.2.1, .cell (.v ty7 x0.2.2.1), ci x0.2.2.2.1, ci x0.2.2.2.2.1, ci x0.2.2.2.2.2.1]), (3, .row ty8 r3.1.1), (4, .row ty11 r3.1.2.2.1)]) rfl rfl ?_
  refine row_len_o 3 (r3.1.1.length : Int) rfl rfl (fun hr4 => ?_)
  refine row_len_o 4 (r3.1.2.2.1.length : Int) rfl rfl (fun hr5 => ?_)
  refine ao_r (r_extract rfl rfl) rfl ?_
  refine ao_r (r_extract rfl rfl) rfl ?_
  refine ao_effS trivial (e_store rfl rfl rfl rfl Try.sizeOf29 rfl) ?_
  refine ao_r (r_assign rfl) rfl ?_
  refine ao_nil ?_
  refine aq_then ?_
  refine aw_ret ?_
  refine aq_ret ?_
  obtain rfl := is_some h
  exact aq_finx (l := [.cell 4 29, .tmp 5]) (xs := [.st [.os 3, .int .i64 r3.1.2.1, .os 4, .int .i64 r3.1.2.2.2.1, .int .i64 r3.1.2.2.2.2.1, .int .i64 r3.1.2.2.2.2.2.1], .bool r3.2]) (rn [(0, 3), (1, 4)]) [.st [.os 0, .int .i64 r3.1.2.1, .os 1, .int .i64 r3.1.2.2.2.1, .int .i64 r3.1.2.2.2.2.1, .int .i64 r3.1.2.2.2.2.2.1], .bool r3.2] [(0, .row ty8 r3.1.1), (1, .row ty11 r3.1.2.2.1)] rfl (by exact ⟨⟨⟨_, _, rfl⟩, r_load_st [] [.cell (.os 3), ci r3.1.2.1, .cell (.os 4), ci r3.1.2.2.2.1, ci r3.1.2.2.2.2.1, ci r3.1.2.2.2.2.2.1] [] Try.isAgg29 Try.sizeOf29 rfl rfl rfl rfl rfl rfl rfl⟩, rfl, trivial⟩) (by exact ⟨ad_ren rfl, ad_ren rfl, trivial⟩) (by exact ⟨⟨_, rfl, rfl⟩, ⟨_, rfl, rfl⟩, trivial⟩) rfl (nk rfl) rfl rfl ⟨rfl, rfl⟩
theorem c_spec_DoTask {fu : Nat} {x0 : dy3} {x1 : dy6} {r : dy3 × Bool} (h : Is (p_spec_DoTask fu x0 x1) (some r)) :
    ACalls Try.prog 7 [.v ty1 x0, .v ty4 x1] [] (fun r' H' => r' = .tup [.st [.os 0, .int .i64 r.1.2.1, .os 1, .int .i64 r.1.2.2.2.1, .int .i64 r.1.2.2.2.2.1, .int .i64 r.1.2.2.2.2.2.1], .bool r.2] ∧ H' = [(0, .row ty8 r.1.1), (1, .row ty11 r.1.2.2.1)]) := by
  unfold p_spec_DoTask at h
  refine ac_enter ⟨15, 0⟩ Try.func7 rfl rfl rfl rfl rfl (fun Γ => ?_)
  refine aw_seq ?_
  refine aw_region ?_
  refine ao_eff trivial (e_box 0 rfl rfl rfl rfl rfl rfl) rfl ?_
  refine ao_eff trivial (e_box 1 rfl rfl rfl rfl rfl rfl) rfl ?_
  refine ao_eff trivial (e_alloc 2 (y := .st [.nilsl, .int .i64 0, .nilsl, .int .i64 0, .int .i64 0, .int .i64 0]) Try.zeroValue29 (fun ρ h M => ra_zero_st (t := ty1) rfl rfl rfl) rfl rfl rfl rfl rfl) rfl ?_
  refine ao_r (r_assign rfl) rfl ?_
  refine ao_nil ?_
  refine aq_then ?_
  refine aw_seq ?_
  refine aw_seq ?_
  refine aw_region ?_
  refine ao_r (r_load_part (τ := ty1) (y := ((x0.1, (x0.2.1, (x0.2.2.1, (x0.2.2.2.1, (x0.2.2.2.2.1, (x0.2.2.2.2.2.1, ())))))) : dy3)) [] [] rfl Try.isAgg29 Try.sizeOf29 rfl rfl rfl rfl) rfl ?_
  obtain ⟨r1, r1h, h⟩ := is_bind h
  refine ao_scall trivial (scall (c_spec_l12Good (is_mk r1h)) rfl Try.func35 rfl rfl rfl rfl (fun σ => ⟨ad_ren rfl, trivial⟩)) rfl ?_
  refine ao_r (r_not rfl) rfl ?_
  refine ao_nil ?_
  refine aq_then ?_
  refine aw_cond rfl (fun hb2 => ?_) (fun hb2 => ?_)
  replace h := is_else (ne_t (not_t hb2)) h
  refine aw_seq ?_
  refine aw_region ?_
  refine ao_r (r_build_st (l := []) (cs := [.cell (.nilsl), ci 0, .cell (.nilsl), ci 0, ci 0, ci 0]) ty1 [(0, 1), (1, 1), (2, 1), (3, 1), (4, 1), (5, 1)] Try.underlying29 Try.zeroValue29 rfl ⟨rfl, Try.sizeOf22, rfl, Try.sizeOf3, rfl, Try.sizeOf23, rfl, Try.sizeOf3, rfl, Try.sizeOf3, rfl, Try.sizeOf3, trivial⟩ rfl rfl rfl) rfl ?_
  refine ao_effS trivial (e_store rfl rfl rfl rfl Try.sizeOf29 rfl) ?_
  refine ao_r (r_assign rfl) rfl ?_
  refine ao_nil ?_
  refine aq_then ?_
  refine aw_ret ?_
  refine aq_then_ret ?_
  refine aq_ret ?_
  obtain rfl := is_some h
  refine AQ.sub (sub_nil_cell (t := ty8) (i := 2) 3 [] [ci 0, .cell (.nilsl), ci 0, ci 0, ci 0] rfl rfl rfl) ?_
  refine AQ.sub (sub_nil_cell (t := ty11) (i := 2) 4 [.cell (.os 3), ci 0] [ci 0, ci 0, ci 0] rfl rfl rfl) ?_
  exact aq_finx (l := [.cell 4 29, .tmp 5]) (xs := [.st [.os 3, .int .i64 0, .os 4, .int .i64 0, .int .i64 0, .int .i64 0], .bool false]) (rn [(0, 3), (1, 4)]) [.st [.os 0, .int .i64 0, .os 1, .int .i64 0, .int .i64 0, .int .i64 0], .bool false] [(0, .row ty8 ([] : dy10)), (1, .row ty11 ([] : dy12))] rfl (by exact ⟨⟨⟨_, _, rfl⟩, r_load_st [] [.cell (.os 3), ci 0, .cell (.os 4), ci 0, ci 0, ci 0] [] Try.isAgg29 Try.sizeOf29 rfl rfl rfl rfl rfl rfl rfl⟩, rfl, trivial⟩) (by exact ⟨ad_ren rfl, ad_ren rfl, trivial⟩) (by exact ⟨⟨_, rfl, rfl⟩, ⟨_, rfl, rfl⟩, trivial⟩) rfl (nk rfl) rfl rfl ⟨rfl, rfl⟩
  replace h := is_if (not_f hb2) h
  refine aw_skip ?_
  refine aq_then ?_
  refine aw_seq ?_
  refine aw_region ?_
  refine ao_r (r_load_part (τ := ty1) (y := ((x0.1, (x0.2.1, (x0.2.2.1, (x0.2.2.2.1, (x0.2.2.2.2.1, (x0.2.2.2.2.2.1, ())))))) : dy3)) [] [] rfl Try.isAgg29 Try.sizeOf29 rfl rfl rfl rfl) rfl ?_
  refine ao_r (r_load_part (τ := ty4) (y := ((x1.1, (x1.2.1, (x1.2.2.1, ()))) : dy6)) [] [] rfl Try.isAgg33 Try.sizeOf33 rfl rfl rfl rfl) rfl ?_
  obtain ⟨r3, r3h, h⟩ := is_bind h
  refine ao_call [] 3 trivial (c_spec_l12Do (is_mk r3h)) Try.func36 rfl rfl rfl rfl ⟨ad_ren rfl, ad_ren rfl, trivial⟩ trivial rfl rfl rfl rfl rfl rfl rfl (fun r' H' hr => ?_)
  obtain ⟨rfl, rfl⟩ := hr
  refine ao_norm (y := .tup [.st [.os 3, .int .i64 r3.1.2.1, .os 4, .int .i64 r3.1.2.2.2.1, .int .i64 r3.1.2.2.2.2.1, .int .i64 r3.1.2.2.2.2.2.1], .bool r3.2]) (H' := [(2, .var [.cell (.nilsl), ci 0, .cell (.nilsl), ci 0, ci 0, ci 0]), (1, .var [ci x1.1, ci x1.2.1, ci x1.2.2.1]), (0, .var [.cell (.v ty5 x0.1), ci x0.2.1, .cell (.v ty7 x0.2.2.1), ci x0.2.2.2.1, ci x0.2.2.2.2.1, ci x0.2.2.2.2.2.1]), (3, .row ty8 r3.1.1), (4, .row ty11 r3.1.2.2.1)]) rfl rfl ?_
  refine row_len_o 3 (r3.1.1.length : Int) rfl rfl (fun hr4 => ?_)
  refine row_len_o 4 (r3.1.2.2.1.length : Int) rfl rfl (fun hr5 => ?_)
  refine ao_r (r_extract rfl rfl) rfl ?_
  refine ao_r (r_extract rfl rfl) rfl ?_
  refine ao_effS trivial (e_store rfl rfl rfl rfl Try.sizeOf29 rfl) ?_
  refine ao_r (r_assign rfl) rfl ?_
  refine ao_nil ?_
  refine aq_then ?_
  refine aw_ret ?_
  refine aq_ret ?_
  obtain rfl := is_some h
  exact aq_finx (l := [.cell 4 29, .tmp 5]) (xs := [.st [.os 3, .int .i64 r3.1.2.1, .os 4, .int .i64 r3.1.2.2.2.1, .int .i64 r3.1.2.2.2.2.1, .int .i64 r3.1.2.2.2.2.2.1], .bool r3.2]) (rn [(0, 3), (1, 4)]) [.st [.os 0, .int .i64 r3.1.2.1, .os 1, .int .i64 r3.1.2.2.2.1, .int .i64 r3.1.2.2.2.2.1, .int .i64 r3.1.2.2.2.2.2.1], .bool r3.2] [(0, .row ty8 r3.1.1), (1, .row ty11 r3.1.2.2.1)] rfl (by exact ⟨⟨⟨_, _, rfl⟩, r_load_st [] [.cell (.os 3), ci r3.1.2.1, .cell (.os 4), ci r3.1.2.2.2.1, ci r3.1.2.2.2.2.1, ci r3.1.2.2.2.2.2.1] [] Try.isAgg29 Try.sizeOf29 rfl rfl rfl rfl rfl rfl rfl⟩, rfl, trivial⟩) (by exact ⟨ad_ren rfl, ad_ren rfl, trivial⟩) (by exact ⟨⟨_, rfl, rfl⟩, ⟨_, rfl, rfl⟩, trivial⟩) rfl (nk rfl) rfl rfl ⟨rfl, rfl⟩
theorem c_spec_IsTavern {x0 : dy3} {r : Bool} (h : Is (p_spec_IsTavern x0) (some r)) :
    Scalar Try.prog 28 [.v ty1 x0] (.bool r) := by
  unfold p_spec_IsTavern at h
  refine ac_enter ⟨5, 0⟩ Try.func28 rfl rfl rfl rfl rfl (fun Γ => ?_)
  refine aw_seq ?_
  refine aw_region ?_
  refine ao_eff trivial (e_box 0 rfl rfl rfl rfl rfl rfl) rfl ?_
  refine ao_r (r_assign rfl) rfl ?_
  refine ao_nil ?_
  refine aq_then ?_
  refine aw_seq ?_
  refine aw_region ?_
  refine ao_r (r_load_part (τ := ty1) (y := ((x0.1, (x0.2.1, (x0.2.2.1, (x0.2.2.2.1, (x0.2.2.2.2.1, (x0.2.2.2.2.2.1, ())))))) : dy3)) [] [] rfl Try.isAgg29 Try.sizeOf29 rfl rfl rfl rfl) rfl ?_
  obtain ⟨r1, r1h, h⟩ := is_bind h
  refine ao_scall trivial (scall (c_spec_l12Good (is_mk r1h)) rfl Try.func35 rfl rfl rfl rfl (fun σ => ⟨ad_ren rfl, trivial⟩)) rfl ?_
  refine ao_r (r_assign rfl) rfl ?_
  refine ao_nil ?_
  refine aq_then ?_
  refine aw_ret ?_
  refine aq_ret ?_
  obtain rfl := is_some h
  exact aq_finx (l := [.tmp 2]) (xs := [.bool r1]) idn [.bool r1] [] rfl (by exact ⟨rfl, trivial⟩) (by exact ⟨ad_ren rfl, trivial⟩) (by exact trivial) rfl (nk rfl) rfl rfl ⟨rfl, rfl⟩
theorem c_spec_DrawDoTasks {fu : Nat} {x0 : dy12} {r : dy3 × (List dy6)} (h : Is (p_spec_DrawDoTasks fu x0) (some r)) :
    ACallsV Try.prog 29 [.v ty9 x0] [] (fun r' H' => r' = .tup [.v ty1 r.1, .os 0] ∧ H' = [(0, .row ty4 r.2)]) := by
  unfold p_spec_DrawDoTasks at h
  refine ac_enterV ⟨46, 0⟩ Try.func29 rfl rfl rfl rfl rfl (fun Γ => ?_)
  refine sl_len_m 0 (x0.length : Int) rfl rfl (fun hl0 => ?_)
  refine aw_seq ?_
  refine aw_region ?_
  refine ao_eff trivial (e_alloc 0 (y := .st [.nilsl, .int .i64 0, .nilsl, .int .i64 0, .int .i64 0, .int .i64 0]) Try.zeroValue29 (fun ρ h M => ra_zero_st (t := ty1) rfl rfl rfl) rfl rfl rfl rfl rfl) rfl ?_
  refine ao_r (r_assign rfl) rfl ?_
  refine ao_nil ?_
  refine aq_then ?_
  refine aw_seq ?_
  refine aw_region ?_
  refine ao_r (r_move rfl) rfl ?_
  refine ao_r (r_build_st (l := [(0, .tmp 12)]) (cs := [.cell (.v ty9 x0), ci 0, .cell (.int .u64 0)]) (.pair ty9 (.pair ty11 (.pair (.int .u64) .unit))) [(0, 1), (1, 1), (2, 1)] Try.underlying73 Try.zeroValue73 rfl ⟨rfl, Try.sizeOf47, rfl, Try.sizeOf3, rfl, Try.sizeOf71, trivial⟩ rfl rfl rfl) rfl ?_
  refine ao_eff trivial (e_box 1 rfl rfl rfl rfl rfl rfl) rfl ?_
  refine ao_r (r_assign rfl) rfl ?_
  refine ao_nil ?_
  refine aq_then ?_
  refine aw_seq ?_
  refine aw_region ?_
  refine ao_r (r_move rfl) rfl ?_
  obtain ⟨r1, r1h, h⟩ := is_bind h
  refine ao_callV [1] 2 trivial (c_spec_l1Cur_tavern (is_mk r1h)) Try.func56 rfl rfl rfl rfl rfl ⟨rfl, trivial⟩ ⟨⟨_, rfl, ⟨ad_ren rfl, rfl, ad_ren rfl, rfl, ad_ren rfl, rfl, trivial⟩⟩, trivial⟩ rfl rfl rfl rfl rfl rfl rfl (fun r' H' hr => ?_)
  obtain ⟨rfl, rfl⟩ := hr
  refine ao_norm (y := .v ty1 r1.1) (H' := [(0, .var [.cell (.nilsl), ci 0, .cell (.nilsl), ci 0, ci 0, ci 0]), (1, .var [.cell (.v ty9 x0), ci r1.2.1, .cell (.int .u64 r1.2.2)])]) rfl rfl ?_
  refine ao_eff trivial (e_alloc 2 (y := .st [.nilsl, .int .i64 0, .nilsl, .int .i64 0, .int .i64 0, .int .i64 0]) Try.zeroValue29 (fun ρ h M => ra_zero_st (t := ty1) rfl rfl rfl) rfl rfl rfl rfl rfl) rfl ?_
  refine ao_effS trivial (e_store rfl rfl rfl rfl Try.sizeOf29 rfl) ?_
  refine ao_nil ?_
  refine aq_then ?_
  refine aw_seq ?_
  refine aw_region ?_
  refine ao_eff trivial (e_buildSlice (l := []) (t := ty4) 3 ([] : (List dy6)) rfl Try.underlying42 Try.zeroValue33 Try.sizeOf33 rfl rfl rfl rfl rfl rfl rfl) rfl ?_
  refine ao_r (r_assign rfl) rfl ?_
  refine ao_nil ?_
  refine aq_then ?_
  refine aw_seq ?_
  refine aw_region ?_
  refine ao_r (r_load_part (τ := ty1) (y := ((r1.1.1, (r1.1.2.1, (r1.1.2.2.1, (r1.1.2.2.2.1, (r1.1.2.2.2.2.1, (r1.1.2.2.2.2.2.1, ())))))) : dy3)) [] [] rfl Try.isAgg29 Try.sizeOf29 rfl rfl rfl rfl) rfl ?_
  refine ao_eff trivial (e_alloc 4 (y := .st [.nilsl, .int .i64 0, .nilsl, .int .i64 0, .int .i64 0, .int .i64 0]) Try.zeroValue29 (fun ρ h M => ra_zero_st (t := ty1) rfl rfl rfl) rfl rfl rfl rfl rfl) rfl ?_
  refine ao_effS trivial (e_store rfl rfl rfl rfl Try.sizeOf29 rfl) ?_
  refine ao_nil ?_
  refine aq_then ?_
  refine aw_seq ?_
  refine aw_seq ?_
  refine aw_region ?_
  refine ao_r (r_move rfl) rfl ?_
  obtain ⟨r2, r2h, h⟩ := is_bind h
  refine ao_callV [1] 5 trivial (c_spec_l1Cur_pick (is_mk r2h)) Try.func58 rfl rfl rfl rfl rfl ⟨rfl, trivial⟩ ⟨⟨_, rfl, ⟨ad_ren rfl, rfl, ad_ren rfl, rfl, ad_ren rfl, rfl, trivial⟩⟩, trivial⟩ rfl rfl rfl rfl rfl rfl rfl (fun r' H' hr => ?_)
  obtain ⟨rfl, rfl⟩ := hr
  refine ao_norm (y := .int .i64 r2.1) (H' := [(4, .var [.cell (.v ty5 r1.1.1), ci r1.1.2.1, .cell (.v ty7 r1.1.2.2.1), ci r1.1.2.2.2.1, ci r1.1.2.2.2.2.1, ci r1.1.2.2.2.2.2.1]), (3, .row ty4 ([] : (List dy6))), (2, .var [.cell (.v ty5 r1.1.1), ci r1.1.2.1, .cell (.v ty7 r1.1.2.2.1), ci r1.1.2.2.2.1, ci r1.1.2.2.2.2.1, ci r1.1.2.2.2.2.2.1]), (0, .var [.cell (.nilsl), ci 0, .cell (.nilsl), ci 0, ci 0, ci 0]), (1, .var [.cell (.v ty9 x0), ci r2.2.1, .cell (.int .u64 r2.2.2)])]) rfl rfl ?_
  refine ao_r (r_assign rfl) rfl ?_
  refine ao_nil ?_
  refine aq_then ?_
  refine aw_block ?_
  refine aw_loop (AL.sub (sub_r1 idn (nk rfl) (by kernel_rfl)) (al_whl (fun (s3 : Int × Int × Int × (List dy6) × dy10 × Int × dy12 × Int × Int × Int) => [(2, .ref 0 0), (4, .ref 1 0), (5, .ref 2 0), (6, .os 3), (7, .ref 4 0), (8, .int .i64 s3.1)]) (fun (s3 : Int × Int × Int × (List dy6) × dy10 × Int × dy12 × Int × Int × Int) => [(0, .var [.cell (.nilsl), ci 0, .cell (.nilsl), ci 0, ci 0, ci 0]), (1, .var [.cell (.v ty9 x0), ci s3.2.1, .cell (.int .u64 s3.2.2.1)]), (2, .var [.cell (.v ty5 r1.1.1), ci r1.1.2.1, .cell (.v ty7 r1.1.2.2.1), ci r1.1.2.2.2.1, ci r1.1.2.2.2.2.1, ci r1.1.2.2.2.2.2.1]), (3, .row ty4 s3.2.2.2.1), (4, .var [.cell (.v ty5 s3.2.2.2.2.1), ci s3.2.2.2.2.2.1, .cell (.v ty7 s3.2.2.2.2.2.2.1), ci s3.2.2.2.2.2.2.2.1, ci s3.2.2.2.2.2.2.2.2.1, ci s3.2.2.2.2.2.2.2.2.2])]) (fun (s3 : Int × Int × Int × (List dy6) × dy10 × Int × dy12 × Int × Int × Int) => True) h trivial (fun d5 s3 hI h ih5 => ?_)))
  replace h := is_whlS h
  refine al_round ?_
  refine aw_seq ?_
  refine aw_seq ?_
  refine aw_region ?_
  refine ao_r (r_move rfl) rfl ?_
  refine ao_r (r_gtr rfl rfl) rfl ?_
  refine ao_r (r_move rfl) rfl ?_
  refine ao_readG (x := .v ty1 ((s3.2.2.2.2.1, (s3.2.2.2.2.2.1, (s3.2.2.2.2.2.2.1, (s3.2.2.2.2.2.2.2.1, (s3.2.2.2.2.2.2.2.2.1, (s3.2.2.2.2.2.2.2.2.2, ())))))) : dy3)) rfl (GV.T rfl) (fun hg7 => by
        have q8 := d_t hg7
        exact r_load_part (τ := ty1) (y := ((s3.2.2.2.2.1, (s3.2.2.2.2.2.1, (s3.2.2.2.2.2.2.1, (s3.2.2.2.2.2.2.2.1, (s3.2.2.2.2.2.2.2.2.1, (s3.2.2.2.2.2.2.2.2.2, ())))))) : dy3)) [] [] rfl Try.isAgg29 Try.sizeOf29 rfl rfl rfl rfl) rfl ?_
  obtain ⟨g11, h⟩ := is_guard h
  refine ao_scallG (r := .bool ((p_spec_l12Good (s3.2.2.2.2.1, (s3.2.2.2.2.2.1, (s3.2.2.2.2.2.2.1, (s3.2.2.2.2.2.2.2.1, (s3.2.2.2.2.2.2.2.2.1, (s3.2.2.2.2.2.2.2.2.2, ()))))))).getD false)) rfl (GV.T rfl) (fun hg9 => by
        have q10 := d_t hg9
        exact SCall.strip 24 rfl (hg9) (scall (c_spec_l12Good (is_mk (isSome_getD (g11 hg9)))) rfl Try.func35 rfl rfl rfl rfl (fun σ => ⟨ad_ren rfl, trivial⟩))) rfl ?_
  refine ao_r (r_andB rfl rfl) rfl ?_
  refine ao_nil ?_
  refine aq_then ?_
  refine aw_cond rfl (fun hb12 => ?_) (fun hb12 => ?_)
  obtain ⟨q13, q14⟩ := and_t hb12
  have q15 := d_t q13
  replace h := is_if hb12 h
  refine aw_skip ?_
  refine aq_then ?_
  refine aw_seq ?_
  refine aw_block ?_
  refine aw_seq ?_
  refine aw_region ?_
  refine ao_r (r_move rfl) rfl ?_
  refine ao_r (r_load_part (τ := ty1) (y := ((s3.2.2.2.2.1, (s3.2.2.2.2.2.1, (s3.2.2.2.2.2.2.1, (s3.2.2.2.2.2.2.2.1, (s3.2.2.2.2.2.2.2.2.1, (s3.2.2.2.2.2.2.2.2.2, ())))))) : dy3)) [] [] rfl Try.isAgg29 Try.sizeOf29 rfl rfl rfl rfl) rfl ?_
  obtain ⟨r16, r16h, h⟩ := is_bind h
  refine ao_callV [1] 5 trivial (c_spec_l1Cur_task12 (is_mk r16h)) Try.func57 rfl rfl rfl rfl rfl ⟨rfl, trivial⟩ ⟨⟨_, rfl, ⟨ad_ren rfl, rfl, ad_ren rfl, rfl, ad_ren rfl, rfl, trivial⟩⟩, trivial⟩ rfl rfl rfl rfl rfl rfl rfl (fun r' H' hr => ?_)
  obtain ⟨rfl, rfl⟩ := hr
  refine ao_norm (y := .v ty4 r16.1) (H' := [(0, .var [.cell (.nilsl), ci 0, .cell (.nilsl), ci 0, ci 0, ci 0]), (2, .var [.cell (.v ty5 r1.1.1), ci r1.1.2.1, .cell (.v ty7 r1.1.2.2.1), ci r1.1.2.2.2.1, ci r1.1.2.2.2.2.1, ci r1.1.2.2.2.2.2.1]), (3, .row ty4 s3.2.2.2.1), (4, .var [.cell (.v ty5 s3.2.2.2.2.1), ci s3.2.2.2.2.2.1, .cell (.v ty7 s3.2.2.2.2.2.2.1), ci s3.2.2.2.2.2.2.2.1, ci s3.2.2.2.2.2.2.2.2.1, ci s3.2.2.2.2.2.2.2.2.2]), (1, .var [.cell (.v ty9 x0), ci r16.2.1, .cell (.int .u64 r16.2.2)])]) rfl rfl ?_
  refine ao_eff trivial (e_alloc 5 (y := .st [.int .i64 0, .int .i64 0, .int .i64 0]) Try.zeroValue33 (fun ρ h M => ra_zero_st (t := ty4) rfl rfl rfl) rfl rfl rfl rfl rfl) rfl ?_
  refine ao_effS trivial (e_store rfl rfl rfl rfl Try.sizeOf33 rfl) ?_
  refine ao_nil ?_
  refine aq_then ?_
  refine aw_seq ?_
  refine aw_region ?_
  refine ao_r (r_move rfl) rfl ?_
  refine ao_r (r_load_part (τ := ty4) (y := ((r16.1.1, (r16.1.2.1, (r16.1.2.2.1, ()))) : dy6)) [] [] rfl Try.isAgg33 Try.sizeOf33 rfl rfl rfl rfl) rfl ?_
  refine ao_eff trivial (e_buildSlice (l := [(0, .tmp 33)]) (t := ty4) 6 ([(r16.1.1, (r16.1.2.1, (r16.1.2.2.1, ())))] : (List dy6)) rfl Try.underlying42 Try.zeroValue33 Try.sizeOf33 rfl rfl rfl rfl rfl rfl rfl) rfl ?_
  obtain ⟨g17, h⟩ := is_guard h
  refine ao_eff trivial (e_append (t := ty4) 7 rfl Try.underlying42 (rfl : Try.prog.info? 33 = some _) rfl rfl rfl rfl rfl rfl rfl (src_os rfl) (show s3.2.2.2.1.length + ([(r16.1.1, (r16.1.2.1, (r16.1.2.2.1, ())))] : (List dy6)).length ≤ 1000000000 from by (try simp only [List.length_cons, List.length_nil]) <;> omega) rfl rfl) rfl ?_
  refine ao_r (r_assign rfl) rfl ?_
  refine ao_nil ?_
  refine aq_then ?_
  refine aw_seq ?_
  refine aw_region ?_
  refine ao_r (r_load_part (τ := ty1) (y := ((s3.2.2.2.2.1, (s3.2.2.2.2.2.1, (s3.2.2.2.2.2.2.1, (s3.2.2.2.2.2.2.2.1, (s3.2.2.2.2.2.2.2.2.1, (s3.2.2.2.2.2.2.2.2.2, ())))))) : dy3)) [] [] rfl Try.isAgg29 Try.sizeOf29 rfl rfl rfl rfl) rfl ?_
  refine ao_r (r_load_part (τ := ty4) (y := ((r16.1.1, (r16.1.2.1, (r16.1.2.2.1, ()))) : dy6)) [] [] rfl Try.isAgg33 Try.sizeOf33 rfl rfl rfl rfl) rfl ?_
  obtain ⟨r18, r18h, h⟩ := is_bind h
  refine ao_call [] 8 trivial (c_spec_l12Do (is_mk r18h)) Try.func36 rfl rfl rfl rfl ⟨ad_ren rfl, ad_ren rfl, trivial⟩ trivial rfl rfl rfl rfl rfl rfl rfl (fun r' H' hr => ?_)
  obtain ⟨rfl, rfl⟩ := hr
  refine ao_norm (y := .tup [.st [.os 8, .int .i64 r18.1.2.1, .os 9, .int .i64 r18.1.2.2.2.1, .int .i64 r18.1.2.2.2.2.1, .int .i64 r18.1.2.2.2.2.2.1], .bool r18.2]) (H' := [(7, .row ty4 ((s3.2.2.2.1 ++ [(r16.1.1, (r16.1.2.1, (r16.1.2.2.1, ())))]) : (List dy6))), (6, .row ty4 ([(r16.1.1, (r16.1.2.1, (r16.1.2.2.1, ())))] : (List dy6))), (5, .var [ci r16.1.1, ci r16.1.2.1, ci r16.1.2.2.1]), (0, .var [.cell (.nilsl), ci 0, .cell (.nilsl), ci 0, ci 0, ci 0]), (2, .var [.cell (.v ty5 r1.1.1), ci r1.1.2.1, .cell (.v ty7 r1.1.2.2.1), ci r1.1.2.2.2.1, ci r1.1.2.2.2.2.1, ci r1.1.2.2.2.2.2.1]), (4, .var [.cell (.v ty5 s3.2.2.2.2.1), ci s3.2.2.2.2.2.1, .cell (.v ty7 s3.2.2.2.2.2.2.1), ci s3.2.2.2.2.2.2.2.1, ci s3.2.2.2.2.2.2.2.2.1, ci s3.2.2.2.2.2.2.2.2.2]), (1, .var [.cell (.v ty9 x0), ci r16.2.1, .cell (.int .u64 r16.2.2)]), (8, .row ty8 r18.1.1), (9, .row ty11 r18.1.2.2.1)]) rfl rfl ?_
  refine row_len_o 8 (r18.1.1.length : Int) rfl rfl (fun hr19 => ?_)
  refine row_len_o 9 (r18.1.2.2.1.length : Int) rfl rfl (fun hr20 => ?_)
  refine ao_r (r_move rfl) rfl ?_
  refine ao_r (r_extract rfl rfl) rfl ?_
  refine ao_r (r_extract rfl rfl) rfl ?_
  refine ao_eff trivial (e_alloc 10 (y := .st [.nilsl, .int .i64 0, .nilsl, .int .i64 0, .int .i64 0, .int .i64 0]) Try.zeroValue29 (fun ρ h M => ra_zero_st (t := ty1) rfl rfl rfl) rfl rfl rfl rfl rfl) rfl ?_
  refine ao_effS trivial (e_store rfl rfl rfl rfl Try.sizeOf29 rfl) ?_
  refine ao_r (r_assign rfl) rfl ?_
  refine ao_nil ?_
  refine aq_then ?_
  refine aw_seq ?_
  refine aw_region ?_
  refine ao_r (r_move rfl) rfl ?_
  refine ao_nil ?_
  refine aq_then ?_
  refine aw_cond rfl (fun hb21 => ?_) (fun hb21 => ?_)
  replace h := is_if hb21 h
  refine aw_region ?_
  refine ao_r (r_load_st [] [.cell (.os 8), ci r18.1.2.1, .cell (.os 9), ci r18.1.2.2.2.1, ci r18.1.2.2.2.2.1, ci r18.1.2.2.2.2.2.1] [] Try.isAgg29 Try.sizeOf29 rfl rfl rfl rfl rfl rfl rfl) rfl ?_
  refine ao_effS trivial (e_store rfl rfl rfl rfl Try.sizeOf29 rfl) ?_
  refine ao_nil ?_
  refine aq_in ?_
  refine aq_then ?_
  refine aw_region ?_
  refine ao_r (r_move rfl) rfl ?_
  refine ao_r (r_sub rfl rfl) rfl ?_
  refine ao_r (r_assign rfl) rfl ?_
  refine ao_nil ?_
  refine AQ.sub (sub_mk (fr' := [(2, .ref 0 0), (4, .ref 1 0), (5, .ref 2 0), (7, .ref 4 0), (8, .int .i64 (IntKind.wrap .i64 (s3.1 - 1))), (21, .int .i64 s3.1), (22, .bool (decide (0 < s3.1))), (23, .bool (decide (0 < s3.1))), (24, .gd (decide (0 < s3.1)) (.v ty1 ((s3.2.2.2.2.1, (s3.2.2.2.2.2.1, (s3.2.2.2.2.2.2.1, (s3.2.2.2.2.2.2.2.1, (s3.2.2.2.2.2.2.2.2.1, (s3.2.2.2.2.2.2.2.2.2, ())))))) : dy3))), (25, .gd (decide (0 < s3.1)) (.bool ((p_spec_l12Good (s3.2.2.2.2.1, (s3.2.2.2.2.2.1, (s3.2.2.2.2.2.2.1, (s3.2.2.2.2.2.2.2.1, (s3.2.2.2.2.2.2.2.2.1, (s3.2.2.2.2.2.2.2.2.2, ()))))))).getD false))), (26, .bool ((decide (0 < s3.1)) && ((p_spec_l12Good (s3.2.2.2.2.1, (s3.2.2.2.2.2.1, (s3.2.2.2.2.2.2.1, (s3.2.2.2.2.2.2.2.1, (s3.2.2.2.2.2.2.2.2.1, (s3.2.2.2.2.2.2.2.2.2, ()))))))).getD false))), (29, .ref 1 0), (30, .v ty1 ((s3.2.2.2.2.1, (s3.2.2.2.2.2.1, (s3.2.2.2.2.2.2.1, (s3.2.2.2.2.2.2.2.1, (s3.2.2.2.2.2.2.2.2.1, (s3.2.2.2.2.2.2.2.2.2, ())))))) : dy3)), (31, .v ty4 r16.1), (9, .ref 5 0), (33, .v ty4 ((r16.1.1, (r16.1.2.1, (r16.1.2.2.1, ()))) : dy6)), (34, .os 6), (35, .os 7), (6, .os 7), (37, .v ty1 ((s3.2.2.2.2.1, (s3.2.2.2.2.2.1, (s3.2.2.2.2.2.2.1, (s3.2.2.2.2.2.2.2.1, (s3.2.2.2.2.2.2.2.2.1, (s3.2.2.2.2.2.2.2.2.2, ())))))) : dy3)), (38, .v ty4 ((r16.1.1, (r16.1.2.1, (r16.1.2.2.1, ()))) : dy6)), (40, .v ty1 ((r18.1.1, (r18.1.2.1, (r18.1.2.2.1, (r18.1.2.2.2.1, (r18.1.2.2.2.2.1, (r18.1.2.2.2.2.2.1, ())))))) : dy3)), (41, .bool r18.2), (10, .ref 10 0), (11, .bool r18.2), (42, .bool r18.2), (43, .v ty1 ((r18.1.1, (r18.1.2.1, (r18.1.2.2.1, (r18.1.2.2.2.1, (r18.1.2.2.2.2.1, (r18.1.2.2.2.2.2.1, ())))))) : dy3)), (27, .int .i64 s3.1), (28, .int .i64 (IntKind.wrap .i64 (s3.1 - 1)))]) (H' := [(10, .var [.cell (.v ty5 r18.1.1), ci r18.1.2.1, .cell (.v ty7 r18.1.2.2.1), ci r18.1.2.2.2.1, ci r18.1.2.2.2.2.1, ci r18.1.2.2.2.2.2.1]), (7, .row ty4 ((s3.2.2.2.1 ++ [(r16.1.1, (r16.1.2.1, (r16.1.2.2.1, ())))]) : (List dy6))), (6, .row ty4 ([(r16.1.1, (r16.1.2.1, (r16.1.2.2.1, ())))] : (List dy6))), (5, .var [ci r16.1.1, ci r16.1.2.1, ci r16.1.2.2.1]), (0, .var [.cell (.nilsl), ci 0, .cell (.nilsl), ci 0, ci 0, ci 0]), (2, .var [.cell (.v ty5 r1.1.1), ci r1.1.2.1, .cell (.v ty7 r1.1.2.2.1), ci r1.1.2.2.2.1, ci r1.1.2.2.2.2.1, ci r1.1.2.2.2.2.2.1]), (4, .var [.cell (.v ty5 r18.1.1), ci r18.1.2.1, .cell (.v ty7 r18.1.2.2.1), ci r18.1.2.2.2.1, ci r18.1.2.2.2.2.1, ci r18.1.2.2.2.2.2.1]), (1, .var [.cell (.v ty9 x0), ci r16.2.1, .cell (.int .u64 r16.2.2)])]) (fun i => i) (by exact ⟨⟨_, rfl, ad_ren rfl⟩, ⟨_, rfl, ad_ren rfl⟩, ⟨_, rfl, ad_ren rfl⟩, ⟨_, rfl, ad_ren rfl⟩, ⟨_, rfl, ad_ren rfl⟩, ⟨_, rfl, ad_ren rfl⟩, ⟨_, rfl, ad_ren rfl⟩, ⟨_, rfl, ad_ren rfl⟩, ⟨_, rfl, ad_ren rfl⟩, ⟨_, rfl, ad_ren rfl⟩, ⟨_, rfl, ad_ren rfl⟩, ⟨_, rfl, ad_ren rfl⟩, ⟨_, rfl, ad_ren rfl⟩, ⟨_, rfl, ad_ren rfl⟩, ⟨_, rfl, ad_ren rfl⟩, ⟨_, rfl, ad_ren rfl⟩, ⟨_, rfl, ad_ren rfl⟩, ⟨_, rfl, ad_ren rfl⟩, ⟨_, rfl, ad_ren rfl⟩, ⟨_, rfl, ad_ren rfl⟩, ⟨_, rfl, ad_ren rfl⟩, ⟨_, rfl, ad_st rfl rfl ⟨ad_osB rfl rfl, ad_ren rfl, ad_osB rfl rfl, ad_ren rfl, ad_ren rfl, ad_ren rfl, trivial⟩⟩, ⟨_, rfl, ad_ren rfl⟩, ⟨_, rfl, ad_ren rfl⟩, ⟨_, rfl, ad_ren rfl⟩, ⟨_, rfl, ad_ren rfl⟩, ⟨_, rfl, ad_st rfl rfl ⟨ad_osB rfl rfl, ad_ren rfl, ad_osB rfl rfl, ad_ren rfl, ad_ren rfl, ad_ren rfl, trivial⟩⟩, ⟨_, rfl, ad_ren rfl⟩, ⟨_, rfl, ad_ren rfl⟩, trivial⟩) (by exact ⟨⟨_, rfl, ⟨ad_osB rfl rfl, rfl, ad_ren rfl, rfl, ad_osB rfl rfl, rfl, ad_ren rfl, rfl, ad_ren rfl, rfl, ad_ren rfl, rfl, trivial⟩⟩, ⟨_, rfl, rfl⟩, ⟨_, rfl, rfl⟩, ⟨_, rfl, ⟨ad_ren rfl, rfl, ad_ren rfl, rfl, ad_ren rfl, rfl, trivial⟩⟩, ⟨_, rfl, ⟨ad_ren rfl, rfl, ad_ren rfl, rfl, ad_ren rfl, rfl, ad_ren rfl, rfl, ad_ren rfl, rfl, ad_ren rfl, rfl, trivial⟩⟩, ⟨_, rfl, ⟨ad_ren rfl, rfl, ad_ren rfl, rfl, ad_ren rfl, rfl, ad_ren rfl, rfl, ad_ren rfl, rfl, ad_ren rfl, rfl, trivial⟩⟩, ⟨_, rfl, ⟨ad_osB rfl rfl, rfl, ad_ren rfl, rfl, ad_osB rfl rfl, rfl, ad_ren rfl, rfl, ad_ren rfl, rfl, ad_ren rfl, rfl, trivial⟩⟩, ⟨_, rfl, ⟨ad_ren rfl, rfl, ad_ren rfl, rfl, ad_ren rfl, rfl, trivial⟩⟩, trivial⟩) rfl (fun _ _ => rfl)) ?_
  exact aq_again (AL.sub (sub_r1 (rn [(3, 7)]) (nk rfl) (by kernel_rfl)) (ih5 ((IntKind.wrap .i64 (s3.1 - 1)), r16.2.1, r16.2.2, (s3.2.2.2.1 ++ [(r16.1.1, (r16.1.2.1, (r16.1.2.2.1, ())))]), r18.1.1, r18.1.2.1, r18.1.2.2.1, r18.1.2.2.2.1, r18.1.2.2.2.2.1, r18.1.2.2.2.2.2.1) trivial h))
  replace h := is_else (ne_t hb21) h
  refine aw_skip ?_
  refine aq_in ?_
  refine aq_then ?_
  refine aw_region ?_
  refine ao_r (r_move rfl) rfl ?_
  refine ao_r (r_sub rfl rfl) rfl ?_
  refine ao_r (r_assign rfl) rfl ?_
  refine ao_nil ?_
  exact aq_again (AL.sub (sub_r1 (rn [(3, 7)]) (nk rfl) (by kernel_rfl)) (ih5 ((IntKind.wrap .i64 (s3.1 - 1)), r16.2.1, r16.2.2, (s3.2.2.2.1 ++ [(r16.1.1, (r16.1.2.1, (r16.1.2.2.1, ())))]), s3.2.2.2.2.1, s3.2.2.2.2.2.1, s3.2.2.2.2.2.2.1, s3.2.2.2.2.2.2.2.1, s3.2.2.2.2.2.2.2.2.1, s3.2.2.2.2.2.2.2.2.2) trivial h))
  replace h := is_else (ne_t hb12) h
  refine aw_exit ?_
  refine aq_then_exit ?_
  refine aq_then_exit ?_
  refine aq_in_exit ?_
  refine aq_then ?_
  refine aw_seq ?_
  refine aw_region ?_
  refine ao_r (r_load_part (τ := ty1) (y := ((r1.1.1, (r1.1.2.1, (r1.1.2.2.1, (r1.1.2.2.2.1, (r1.1.2.2.2.2.1, (r1.1.2.2.2.2.2.1, ())))))) : dy3)) [] [] rfl Try.isAgg29 Try.sizeOf29 rfl rfl rfl rfl) rfl ?_
  refine ao_r (r_move rfl) rfl ?_
  refine ao_effS trivial (e_store rfl rfl rfl rfl Try.sizeOf29 rfl) ?_
  refine ao_r (r_assign rfl) rfl ?_
  refine ao_nil ?_
  refine aq_then ?_
  refine aw_ret ?_
  refine aq_ret ?_
  obtain rfl := is_some h
  exact aq_finV (l := [.cell 2 29, .tmp 3]) (xs := [.st [.v ty5 r1.1.1, .int .i64 r1.1.2.1, .v ty7 r1.1.2.2.1, .int .i64 r1.1.2.2.2.1, .int .i64 r1.1.2.2.2.2.1, .int .i64 r1.1.2.2.2.2.2.1], .os 3]) (rn [(0, 3)]) [.v ty1 ((r1.1.1, (r1.1.2.1, (r1.1.2.2.1, (r1.1.2.2.2.1, (r1.1.2.2.2.2.1, (r1.1.2.2.2.2.2.1, ())))))) : dy3), .os 0] [(0, .row ty4 s3.2.2.2.1)] rfl (by exact ⟨⟨⟨_, _, rfl⟩, r_load_st [] [.cell (.v ty5 r1.1.1), ci r1.1.2.1, .cell (.v ty7 r1.1.2.2.1), ci r1.1.2.2.2.1, ci r1.1.2.2.2.2.1, ci r1.1.2.2.2.2.2.1] [] Try.isAgg29 Try.sizeOf29 rfl rfl rfl rfl rfl rfl rfl⟩, rfl, trivial⟩) (by exact ⟨ad_st rfl rfl ⟨ad_ren rfl, ad_ren rfl, ad_ren rfl, ad_ren rfl, ad_ren rfl, ad_ren rfl, trivial⟩, ad_ren rfl, trivial⟩) (by exact ⟨⟨_, rfl, rfl⟩, trivial⟩) rfl (nk rfl) ⟨rfl, rfl⟩
theorem c_impl_DoTasks {fu : Nat} {x0 : dy3} {x1 : (List dy6)} {r : dy3 × Int × Bool} (h : Is (p_impl_DoTasks fu x0 x1) (some r)) :
    ACalls Try.prog 17 [.v ty1 x0, .v ty2 x1] [] (fun r' H' => r' = .tup [.st [.os 0, .int .i64 r.1.2.1, .os 1, .int .i64 r.1.2.2.2.1, .int .i64 r.1.2.2.2.2.1, .int .i64 r.1.2.2.2.2.2.1], .int .i64 r.2.1, .bool r.2.2] ∧ H' = [(0, .row ty8 r.1.1), (1, .row ty11 r.1.2.2.1)]) := by
  unfold p_impl_DoTasks at h
  refine ac_enter ⟨40, 0⟩ Try.func17 rfl rfl rfl rfl rfl (fun Γ => ?_)
  refine sl_len_m 1 (x1.length : Int) rfl rfl (fun hl1 => ?_)
  refine aw_seq ?_
  refine aw_region ?_
  refine ao_eff trivial (e_box 0 rfl rfl rfl rfl rfl rfl) rfl ?_
  refine ao_eff trivial (e_alloc 1 (y := .st [.nilsl, .int .i64 0, .nilsl, .int .i64 0, .int .i64 0, .int .i64 0]) Try.zeroValue29 (fun ρ h M => ra_zero_st (t := ty1) rfl rfl rfl) rfl rfl rfl rfl rfl) rfl ?_
  refine ao_r (r_assign rfl) rfl ?_
  refine ao_r (r_assign rfl) rfl ?_
  refine ao_nil ?_
  refine aq_then ?_
  refine aw_seq ?_
  refine aw_seq ?_
  refine aw_region ?_
  refine ao_r (r_load_part (τ := ty1) (y := ((x0.1, (x0.2.1, (x0.2.2.1, (x0.2.2.2.1, (x0.2.2.2.2.1, (x0.2.2.2.2.2.1, ())))))) : dy3)) [] [] rfl Try.isAgg29 Try.sizeOf29 rfl rfl rfl rfl) rfl ?_
  obtain ⟨r1, r1h, h⟩ := is_bind h
  refine ao_scall trivial (scall (c_impl_IsTavern (is_mk r1h)) rfl Try.func25 rfl rfl rfl rfl (fun σ => ⟨ad_ren rfl, trivial⟩)) rfl ?_
  refine ao_r (r_not rfl) rfl ?_
  refine ao_nil ?_
  refine aq_then ?_
  refine aw_cond rfl (fun hb2 => ?_) (fun hb2 => ?_)
  replace h := is_else (ne_t (not_t hb2)) h
  refine aw_seq ?_
  refine aw_region ?_
  refine ao_r (r_build_st (l := []) (cs := [.cell (.nilsl), ci 0, .cell (.nilsl), ci 0, ci 0, ci 0]) ty1 [(0, 1), (1, 1), (2, 1), (3, 1), (4, 1), (5, 1)] Try.underlying29 Try.zeroValue29 rfl ⟨rfl, Try.sizeOf22, rfl, Try.sizeOf3, rfl, Try.sizeOf23, rfl, Try.sizeOf3, rfl, Try.sizeOf3, rfl, Try.sizeOf3, trivial⟩ rfl rfl rfl) rfl ?_
  refine ao_effS trivial (e_store rfl rfl rfl rfl Try.sizeOf29 rfl) ?_
  refine ao_r (r_assign rfl) rfl ?_
  refine ao_r (r_assign rfl) rfl ?_
  refine ao_nil ?_
  refine aq_then ?_
  refine aw_ret ?_
  refine aq_then_ret ?_
  refine aq_ret ?_
  obtain rfl := is_some h
  refine AQ.sub (sub_nil_cell (t := ty8) (i := 1) 2 [] [ci 0, .cell (.nilsl), ci 0, ci 0, ci 0] rfl rfl rfl) ?_
  refine AQ.sub (sub_nil_cell (t := ty11) (i := 1) 3 [.cell (.os 2), ci 0] [ci 0, ci 0, ci 0] rfl rfl rfl) ?_
  exact aq_finx (l := [.cell 4 29, .tmp 5, .tmp 6]) (xs := [.st [.os 2, .int .i64 0, .os 3, .int .i64 0, .int .i64 0, .int .i64 0], .int .i64 0, .bool false]) (rn [(0, 2), (1, 3)]) [.st [.os 0, .int .i64 0, .os 1, .int .i64 0, .int .i64 0, .int .i64 0], .int .i64 0, .bool false] [(0, .row ty8 ([] : dy10)), (1, .row ty11 ([] : dy12))] rfl (by exact ⟨⟨⟨_, _, rfl⟩, r_load_st [] [.cell (.os 2), ci 0, .cell (.os 3), ci 0, ci 0, ci 0] [] Try.isAgg29 Try.sizeOf29 rfl rfl rfl rfl rfl rfl rfl⟩, rfl, rfl, trivial⟩) (by exact ⟨ad_ren rfl, ad_ren rfl, ad_ren rfl, trivial⟩) (by exact ⟨⟨_, rfl, rfl⟩, ⟨_, rfl, rfl⟩, trivial⟩) rfl (nk rfl) rfl rfl ⟨rfl, rfl⟩
  replace h := is_if (not_f hb2) h
  refine aw_skip ?_
  refine aq_then ?_
  refine aw_seq ?_
  refine aw_region ?_
  refine ao_r (r_load_part (τ := ty1) (y := ((x0.1, (x0.2.1, (x0.2.2.1, (x0.2.2.2.1, (x0.2.2.2.2.1, (x0.2.2.2.2.2.1, ())))))) : dy3)) [] [] rfl Try.isAgg29 Try.sizeOf29 rfl rfl rfl rfl) rfl ?_
  obtain ⟨r3, r3h, h⟩ := is_bind h
  refine ao_call [] 2 trivial (c_impl_Tavern_own (is_mk r3h)) Try.func47 rfl rfl rfl rfl ⟨ad_ren rfl, trivial⟩ trivial rfl rfl rfl rfl rfl rfl rfl (fun r' H' hr => ?_)
  obtain ⟨rfl, rfl⟩ := hr
  refine ao_norm (y := .st [.os 2, .int .i64 r3.2.1, .os 3, .int .i64 r3.2.2.2.1, .int .i64 r3.2.2.2.2.1, .int .i64 r3.2.2.2.2.2.1]) (H' := [(1, .var [.cell (.nilsl), ci 0, .cell (.nilsl), ci 0, ci 0, ci 0]), (0, .var [.cell (.v ty5 x0.1), ci x0.2.1, .cell (.v ty7 x0.2.2.1), ci x0.2.2.2.1, ci x0.2.2.2.2.1, ci x0.2.2.2.2.2.1]), (2, .row ty8 r3.1), (3, .row ty11 r3.2.2.1)]) rfl rfl ?_
  refine row_len_o 2 (r3.1.length : Int) rfl rfl (fun hr4 => ?_)
  refine row_len_o 3 (r3.2.2.1.length : Int) rfl rfl (fun hr5 => ?_)
  refine ao_eff trivial (e_alloc 4 (y := .st [.nilsl, .int .i64 0, .nilsl, .int .i64 0, .int .i64 0, .int .i64 0]) Try.zeroValue29 (fun ρ h M => ra_zero_st (t := ty1) rfl rfl rfl) rfl rfl rfl rfl rfl) rfl ?_
  refine ao_effS trivial (e_store rfl rfl rfl rfl Try.sizeOf29 rfl) ?_
  refine ao_nil ?_
  refine aq_then ?_
  refine aw_seq ?_
  refine aw_seq ?_
  refine aw_region ?_
  refine ao_r (r_move rfl) rfl ?_
  refine ao_r (r_len_vm (x1.length : Int) Try.underlying42 rfl rfl) rfl ?_
  refine ao_r (r_move rfl) rfl ?_
  refine ao_nil ?_
  refine aq_then ?_
  refine aw_block ?_
  refine aw_loop (AL.sub (fr' := [(1, .v ty2 x1), (4, .ref 0 0), (7, .ref 1 0), (18, .v ty2 x1), (19, .int .i64 (x1.length : Int)), (20, .int .i64 0)]) (H' := [(0, .var [.cell (.nilsl), ci 0, .cell (.nilsl), ci 0, ci 0, ci 0]), (1, .var [.cell (.os 2), ci r3.2.1, .cell (.os 3), ci r3.2.2.2.1, ci r3.2.2.2.2.1, ci r3.2.2.2.2.2.1]), (2, .row ty8 r3.1), (3, .row ty11 r3.2.2.1)]) (sub_r1 (rn [(0, 1), (1, 4)]) (nk rfl) (by kernel_rfl)) (al_cnt (fun i7 (s6 : Int × Int × Int × Int × dy10 × dy12) => [(1, .v ty2 x1), (4, .ref 0 0), (7, .ref 1 0), (18, .v ty2 x1), (19, .int .i64 (x1.length : Int)), (20, .int .i64 i7)]) (fun i7 (s6 : Int × Int × Int × Int × dy10 × dy12) => [(0, .var [.cell (.nilsl), ci 0, .cell (.nilsl), ci 0, ci 0, ci 0]), (1, .var [.cell (.os 2), ci s6.1, .cell (.os 3), ci s6.2.1, ci s6.2.2.1, ci s6.2.2.2.1]), (2, .row ty8 s6.2.2.2.2.1), (3, .row ty11 s6.2.2.2.2.2)]) (fun d i7 (s6 : Int × Int × Int × Int × dy10 × dy12) => d = Int.toNat ((x1.length : Int) - i7) ∧ 0 ≤ i7 ∧ i7 ≤ (x1.length : Int)) h ⟨rfl, (by (try simp only [List.length_set, List.length_append, List.length_cons, List.length_nil, List.length_replicate, List.length_take, List.length_drop]) <;> omega), (by (try simp only [List.length_set, List.length_append, List.length_cons, List.length_nil, List.length_replicate, List.length_take, List.length_drop]) <;> omega)⟩ (fun d8 i7 s6 hI h ih8 => ?_)))
  obtain ⟨hd, _, _⟩ := hI
  refine al_round ?_
  refine aw_seq ?_
  refine aw_region ?_
  refine ao_r (r_lss rfl rfl) rfl ?_
  refine ao_nil ?_
  refine aq_then ?_
  refine aw_seq ?_
  refine aw_cond rfl (fun hb10 => ?_) (fun hb10 => ?_)
  have q11 := d_t hb10
  obtain ⟨d8, rfl⟩ : ∃ e, d8 = e + 1 := ⟨d8 - 1, by omega⟩
  replace h := is_cntS h
  refine aw_skip ?_
  refine aq_then ?_
  refine aw_seq ?_
  refine aw_block ?_
  refine aw_seq ?_
  refine aw_region ?_
  refine ao_r (r_move rfl) rfl ?_
  refine ao_r (r_idxAddr (t := ty4) Try.underlying42 Try.sizeOf33 rfl rfl (show 0 ≤ i7 from by omega) (show i7 < (x1.length : Int) from by omega)) rfl ?_
  refine ao_r (r_load_c (t := ty4) Try.isAgg33 Try.sizeOf33 rfl) rfl ?_
  refine ao_eff trivial (e_alloc 4 (y := .st [.int .i64 0, .int .i64 0, .int .i64 0]) Try.zeroValue33 (fun ρ h M => ra_zero_st (t := ty4) rfl rfl rfl) rfl rfl rfl rfl rfl) rfl ?_
  refine ao_r (r_assign rfl) rfl ?_
  refine ao_effS trivial (e_store rfl rfl rfl rfl Try.sizeOf33 rfl) ?_
  refine ao_nil ?_
  refine aq_then ?_
  refine aw_seq ?_
  refine aw_region ?_
  refine ao_r (r_load_st [] [.cell (.os 2), ci s6.1, .cell (.os 3), ci s6.2.1, ci s6.2.2.1, ci s6.2.2.2.1] [] Try.isAgg29 Try.sizeOf29 rfl rfl rfl rfl rfl rfl rfl) rfl ?_
  refine ao_r (r_load_part (τ := ty4) (y := (((x1.getD i7.toNat (0, (0, (0, ())))).1, (((x1.getD i7.toNat (0, (0, (0, ())))).2).1, ((((x1.getD i7.toNat (0, (0, (0, ())))).2).2).1, ()))) : dy6)) [] [] rfl Try.isAgg33 Try.sizeOf33 rfl rfl rfl rfl) rfl ?_
  obtain ⟨r13, r13h, h⟩ := is_bind h
  refine ao_call [] 5 trivial (c_impl_Tavern_done (is_mk r13h)) Try.func39 rfl rfl rfl rfl ⟨ad_st rfl rfl ⟨ad_os0 rfl, ad_ren rfl, ad_os0 rfl, ad_ren rfl, ad_ren rfl, ad_ren rfl, trivial⟩, ad_ren rfl, trivial⟩ trivial rfl rfl rfl rfl rfl rfl rfl (fun r' H' hr => ?_)
  obtain ⟨rfl, rfl⟩ := hr
  refine ao_norm (y := .tup [.st [.os 5, .int .i64 r13.1.2.1, .os 6, .int .i64 r13.1.2.2.2.1, .int .i64 r13.1.2.2.2.2.1, .int .i64 r13.1.2.2.2.2.2.1], .bool r13.2]) (H' := [(4, .var [.cell (.int .i64 ((x1.getD i7.toNat (0, (0, (0, ())))).1)), .cell (.int .i64 (((x1.getD i7.toNat (0, (0, (0, ())))).2).1)), .cell (.int .i64 ((((x1.getD i7.toNat (0, (0, (0, ())))).2).2).1))]), (0, .var [.cell (.nilsl), ci 0, .cell (.nilsl), ci 0, ci 0, ci 0]), (1, .var [.cell (.os 2), ci s6.1, .cell (.os 3), ci s6.2.1, ci s6.2.2.1, ci s6.2.2.2.1]), (2, .row ty8 s6.2.2.2.2.1), (3, .row ty11 s6.2.2.2.2.2), (5, .row ty8 r13.1.1), (6, .row ty11 r13.1.2.2.1)]) rfl rfl ?_
  refine row_len_o 5 (r13.1.1.length : Int) rfl rfl (fun hr14 => ?_)
  refine row_len_o 6 (r13.1.2.2.1.length : Int) rfl rfl (fun hr15 => ?_)
  refine ao_r (r_move rfl) rfl ?_
  refine ao_r (r_extract rfl rfl) rfl ?_
  refine ao_r (r_extract rfl rfl) rfl ?_
  refine ao_eff trivial (e_alloc 7 (y := .st [.nilsl, .int .i64 0, .nilsl, .int .i64 0, .int .i64 0, .int .i64 0]) Try.zeroValue29 (fun ρ h M => ra_zero_st (t := ty1) rfl rfl rfl) rfl rfl rfl rfl rfl) rfl ?_
  refine ao_effS trivial (e_store rfl rfl rfl rfl Try.sizeOf29 rfl) ?_
  refine ao_r (r_assign rfl) rfl ?_
  refine ao_nil ?_
  refine aq_then ?_
  refine aw_seq ?_
  refine aw_seq ?_
  refine aw_region ?_
  refine ao_r (r_move rfl) rfl ?_
  refine ao_r (r_not rfl) rfl ?_
  refine ao_nil ?_
  refine aq_then ?_
  refine aw_cond rfl (fun hb16 => ?_) (fun hb16 => ?_)
  replace h := is_else (ne_t (not_t hb16)) h
  refine aw_seq ?_
  refine aw_region ?_
  refine ao_r (r_load_st [] [.cell (.os 2), ci s6.1, .cell (.os 3), ci s6.2.1, ci s6.2.2.1, ci s6.2.2.2.1] [] Try.isAgg29 Try.sizeOf29 rfl rfl rfl rfl rfl rfl rfl) rfl ?_
  refine ao_r (r_move rfl) rfl ?_
  refine ao_effS trivial (e_store rfl rfl rfl rfl Try.sizeOf29 rfl) ?_
  refine ao_r (r_assign rfl) rfl ?_
  refine ao_r (r_assign rfl) rfl ?_
  refine ao_nil ?_
  refine aq_then ?_
  refine aw_ret ?_
  refine aq_then_ret ?_
  refine aq_in_ret ?_
  refine aq_then_ret ?_
  refine aq_then_ret ?_
  refine aq_in_ret ?_
  refine aq_then_ret ?_
  refine aq_ret ?_
  obtain rfl := is_some h
  exact aq_finx (l := [.cell 4 29, .tmp 5, .tmp 6]) (xs := [.st [.os 2, .int .i64 s6.1, .os 3, .int .i64 s6.2.1, .int .i64 s6.2.2.1, .int .i64 s6.2.2.2.1], .int .i64 i7, .bool true]) (rn [(0, 2), (1, 3)]) [.st [.os 0, .int .i64 s6.1, .os 1, .int .i64 s6.2.1, .int .i64 s6.2.2.1, .int .i64 s6.2.2.2.1], .int .i64 i7, .bool true] [(0, .row ty8 s6.2.2.2.2.1), (1, .row ty11 s6.2.2.2.2.2)] rfl (by exact ⟨⟨⟨_, _, rfl⟩, r_load_st [] [.cell (.os 2), ci s6.1, .cell (.os 3), ci s6.2.1, ci s6.2.2.1, ci s6.2.2.2.1] [] Try.isAgg29 Try.sizeOf29 rfl rfl rfl rfl rfl rfl rfl⟩, rfl, rfl, trivial⟩) (by exact ⟨ad_ren rfl, ad_ren rfl, ad_ren rfl, trivial⟩) (by exact ⟨⟨_, rfl, rfl⟩, ⟨_, rfl, rfl⟩, trivial⟩) rfl (nk rfl) rfl rfl ⟨rfl, rfl⟩
  replace h := is_if (not_f hb16) h
  refine aw_skip ?_
  refine aq_then ?_
  refine aw_region ?_
  refine ao_r (r_load_st [] [.cell (.os 5), ci r13.1.2.1, .cell (.os 6), ci r13.1.2.2.2.1, ci r13.1.2.2.2.2.1, ci r13.1.2.2.2.2.2.1] [] Try.isAgg29 Try.sizeOf29 rfl rfl rfl rfl rfl rfl rfl) rfl ?_
  refine ao_effS trivial (e_store rfl rfl rfl rfl Try.sizeOf29 rfl) ?_
  refine ao_nil ?_
  refine aq_in ?_
  refine aq_then ?_
  refine aw_region ?_
  refine ao_r (r_addI rfl rfl (wrap_id (by omega) (by omega))) rfl ?_
  refine ao_r (r_move rfl) rfl ?_
  refine ao_nil ?_
  exact aq_again (AL.sub (sub_r1 (rn [(2, 5), (3, 6)]) (nk rfl) (by kernel_rfl)) (ih8 d8 (i7 + 1) (r13.1.2.1, r13.1.2.2.2.1, r13.1.2.2.2.2.1, r13.1.2.2.2.2.2.1, r13.1.1, r13.1.2.2.1) (by omega) ⟨by omega, (by (try simp only [List.length_set, List.length_append, List.length_cons, List.length_nil, List.length_replicate, List.length_take, List.length_drop]) <;> omega), (by (try simp only [List.length_set, List.length_append, List.length_cons, List.length_nil, List.length_replicate, List.length_take, List.length_drop]) <;> omega)⟩ h))
  have q12 := d_f hb10
  obtain rfl : d8 = 0 := by omega
  replace h := is_cnt0 h
  refine aw_exit ?_
  refine aq_then_exit ?_
  refine aq_then_exit ?_
  refine aq_in_exit ?_
  refine aq_then ?_
  refine aw_seq ?_
  refine aw_region ?_
  refine ao_r (r_load_st [] [.cell (.os 2), ci s6.1, .cell (.os 3), ci s6.2.1, ci s6.2.2.1, ci s6.2.2.2.1] [] Try.isAgg29 Try.sizeOf29 rfl rfl rfl rfl rfl rfl rfl) rfl ?_
  refine ao_r (r_move rfl) rfl ?_
  refine ao_r (r_len_vm (x1.length : Int) Try.underlying42 rfl rfl) rfl ?_
  refine ao_effS trivial (e_store rfl rfl rfl rfl Try.sizeOf29 rfl) ?_
  refine ao_r (r_assign rfl) rfl ?_
  refine ao_r (r_assign rfl) rfl ?_
  refine ao_nil ?_
  refine aq_then ?_
  refine aw_ret ?_
  refine aq_ret ?_
  obtain rfl := is_some h
  exact aq_finx (l := [.cell 4 29, .tmp 5, .tmp 6]) (xs := [.st [.os 2, .int .i64 s6.1, .os 3, .int .i64 s6.2.1, .int .i64 s6.2.2.1, .int .i64 s6.2.2.2.1], .int .i64 (x1.length : Int), .bool true]) (rn [(0, 2), (1, 3)]) [.st [.os 0, .int .i64 s6.1, .os 1, .int .i64 s6.2.1, .int .i64 s6.2.2.1, .int .i64 s6.2.2.2.1], .int .i64 (x1.length : Int), .bool true] [(0, .row ty8 s6.2.2.2.2.1), (1, .row ty11 s6.2.2.2.2.2)] rfl (by exact ⟨⟨⟨_, _, rfl⟩, r_load_st [] [.cell (.os 2), ci s6.1, .cell (.os 3), ci s6.2.1, ci s6.2.2.1, ci s6.2.2.2.1] [] Try.isAgg29 Try.sizeOf29 rfl rfl rfl rfl rfl rfl rfl⟩, rfl, rfl, trivial⟩) (by exact ⟨ad_ren rfl, ad_ren rfl, ad_ren rfl, trivial⟩) (by exact ⟨⟨_, rfl, rfl⟩, ⟨_, rfl, rfl⟩, trivial⟩) rfl (nk rfl) rfl rfl ⟨rfl, rfl⟩
theorem c_spec_DoTasks {fu : Nat} {x0 : dy3} {x1 : (List dy6)} {r : dy3 × Int × Bool} (h : Is (p_spec_DoTasks fu x0 x1) (some r)) :
    ACalls Try.prog 15 [.v ty1 x0, .v ty2 x1] [] (fun r' H' => r' = .tup [.st [.os 0, .int .i64 r.1.2.1, .os 1, .int .i64 r.1.2.2.2.1, .int .i64 r.1.2.2.2.2.1, .int .i64 r.1.2.2.2.2.2.1], .int .i64 r.2.1, .bool r.2.2] ∧ H' = [(0, .row ty8 r.1.1), (1, .row ty11 r.1.2.2.1)]) := by
  unfold p_spec_DoTasks at h
  refine ac_enter ⟨40, 0⟩ Try.func15 rfl rfl rfl rfl rfl (fun Γ => ?_)
  refine sl_len_m 1 (x1.length : Int) rfl rfl (fun hl1 => ?_)
  refine aw_seq ?_
  refine aw_region ?_
  refine ao_eff trivial (e_box 0 rfl rfl rfl rfl rfl rfl) rfl ?_
  refine ao_eff trivial (e_alloc 1 (y := .st [.nilsl, .int .i64 0, .nilsl, .int .i64 0, .int .i64 0, .int .i64 0]) Try.zeroValue29 (fun ρ h M => ra_zero_st (t := ty1) rfl rfl rfl) rfl rfl rfl rfl rfl) rfl ?_
  refine ao_r (r_assign rfl) rfl ?_
  refine ao_r (r_assign rfl) rfl ?_
  refine ao_nil ?_
  refine aq_then ?_
  refine aw_seq ?_
  refine aw_seq ?_
  refine aw_region ?_
  refine ao_r (r_load_part (τ := ty1) (y := ((x0.1, (x0.2.1, (x0.2.2.1, (x0.2.2.2.1, (x0.2.2.2.2.1, (x0.2.2.2.2.2.1, ())))))) : dy3)) [] [] rfl Try.isAgg29 Try.sizeOf29 rfl rfl rfl rfl) rfl ?_
  obtain ⟨r1, r1h, h⟩ := is_bind h
  refine ao_scall trivial (scall (c_spec_l12Good (is_mk r1h)) rfl Try.func35 rfl rfl rfl rfl (fun σ => ⟨ad_ren rfl, trivial⟩)) rfl ?_
  refine ao_r (r_not rfl) rfl ?_
  refine ao_nil ?_
  refine aq_then ?_
  refine aw_cond rfl (fun hb2 => ?_) (fun hb2 => ?_)
  replace h := is_else (ne_t (not_t hb2)) h
  refine aw_seq ?_
  refine aw_region ?_
  refine ao_r (r_build_st (l := []) (cs := [.cell (.nilsl), ci 0, .cell (.nilsl), ci 0, ci 0, ci 0]) ty1 [(0, 1), (1, 1), (2, 1), (3, 1), (4, 1), (5, 1)] Try.underlying29 Try.zeroValue29 rfl ⟨rfl, Try.sizeOf22, rfl, Try.sizeOf3, rfl, Try.sizeOf23, rfl, Try.sizeOf3, rfl, Try.sizeOf3, rfl, Try.sizeOf3, trivial⟩ rfl rfl rfl) rfl ?_
  refine ao_effS trivial (e_store rfl rfl rfl rfl Try.sizeOf29 rfl) ?_
  refine ao_r (r_assign rfl) rfl ?_
  refine ao_r (r_assign rfl) rfl ?_
  refine ao_nil ?_
  refine aq_then ?_
  refine aw_ret ?_
  refine aq_then_ret ?_
  refine aq_ret ?_
  obtain rfl := is_some h
  refine AQ.sub (sub_nil_cell (t := ty8) (i := 1) 2 [] [ci 0, .cell (.nilsl), ci 0, ci 0, ci 0] rfl rfl rfl) ?_
  refine AQ.sub (sub_nil_cell (t := ty11) (i := 1) 3 [.cell (.os 2), ci 0] [ci 0, ci 0, ci 0] rfl rfl rfl) ?_
  exact aq_finx (l := [.cell 4 29, .tmp 5, .tmp 6]) (xs := [.st [.os 2, .int .i64 0, .os 3, .int .i64 0, .int .i64 0, .int .i64 0], .int .i64 0, .bool false]) (rn [(0, 2), (1, 3)]) [.st [.os 0, .int .i64 0, .os 1, .int .i64 0, .int .i64 0, .int .i64 0], .int .i64 0, .bool false] [(0, .row ty8 ([] : dy10)), (1, .row ty11 ([] : dy12))] rfl (by exact ⟨⟨⟨_, _, rfl⟩, r_load_st [] [.cell (.os 2), ci 0, .cell (.os 3), ci 0, ci 0, ci 0] [] Try.isAgg29 Try.sizeOf29 rfl rfl rfl rfl rfl rfl rfl⟩, rfl, rfl, trivial⟩) (by exact ⟨ad_ren rfl, ad_ren rfl, ad_ren rfl, trivial⟩) (by exact ⟨⟨_, rfl, rfl⟩, ⟨_, rfl, rfl⟩, trivial⟩) rfl (nk rfl) rfl rfl ⟨rfl, rfl⟩
  replace h := is_if (not_f hb2) h
  refine aw_skip ?_
  refine aq_then ?_
  refine aw_seq ?_
  refine aw_region ?_
  refine ao_r (r_load_part (τ := ty1) (y := ((x0.1, (x0.2.1, (x0.2.2.1, (x0.2.2.2.1, (x0.2.2.2.2.1, (x0.2.2.2.2.2.1, ())))))) : dy3)) [] [] rfl Try.isAgg29 Try.sizeOf29 rfl rfl rfl rfl) rfl ?_
  obtain ⟨r3, r3h, h⟩ := is_bind h
  refine ao_call [] 2 trivial (c_spec_l12Own (is_mk r3h)) Try.func46 rfl rfl rfl rfl ⟨ad_ren rfl, trivial⟩ trivial rfl rfl rfl rfl rfl rfl rfl (fun r' H' hr => ?_)
  obtain ⟨rfl, rfl⟩ := hr
  refine ao_norm (y := .st [.os 2, .int .i64 r3.2.1, .os 3, .int .i64 r3.2.2.2.1, .int .i64 r3.2.2.2.2.1, .int .i64 r3.2.2.2.2.2.1]) (H' := [(1, .var [.cell (.nilsl), ci 0, .cell (.nilsl), ci 0, ci 0, ci 0]), (0, .var [.cell (.v ty5 x0.1), ci x0.2.1, .cell (.v ty7 x0.2.2.1), ci x0.2.2.2.1, ci x0.2.2.2.2.1, ci x0.2.2.2.2.2.1]), (2, .row ty8 r3.1), (3, .row ty11 r3.2.2.1)]) rfl rfl ?_
  refine row_len_o 2 (r3.1.length : Int) rfl rfl (fun hr4 => ?_)
  refine row_len_o 3 (r3.2.2.1.length : Int) rfl rfl (fun hr5 => ?_)
  refine ao_eff trivial (e_alloc 4 (y := .st [.nilsl, .int .i64 0, .nilsl, .int .i64 0, .int .i64 0, .int .i64 0]) Try.zeroValue29 (fun ρ h M => ra_zero_st (t := ty1) rfl rfl rfl) rfl rfl rfl rfl rfl) rfl ?_
  refine ao_effS trivial (e_store rfl rfl rfl rfl Try.sizeOf29 rfl) ?_
  refine ao_nil ?_
  refine aq_then ?_
  refine aw_seq ?_
  refine aw_seq ?_
  refine aw_region ?_
  refine ao_r (r_assign rfl) rfl ?_
  refine ao_nil ?_
  refine aq_then ?_
  refine aw_block ?_
  refine aw_loop (AL.sub (fr' := [(1, .v ty2 x1), (4, .ref 0 0), (7, .ref 1 0), (8, .int .i64 0)]) (H' := [(0, .var [.cell (.nilsl), ci 0, .cell (.nilsl), ci 0, ci 0, ci 0]), (1, .var [.cell (.os 2), ci r3.2.1, .cell (.os 3), ci r3.2.2.2.1, ci r3.2.2.2.2.1, ci r3.2.2.2.2.2.1]), (2, .row ty8 r3.1), (3, .row ty11 r3.2.2.1)]) (sub_r1 (rn [(0, 1), (1, 4)]) (nk rfl) (by kernel_rfl)) (al_cnt (fun i7 (s6 : Int × Int × Int × Int × dy10 × dy12) => [(1, .v ty2 x1), (4, .ref 0 0), (7, .ref 1 0), (8, .int .i64 i7)]) (fun i7 (s6 : Int × Int × Int × Int × dy10 × dy12) => [(0, .var [.cell (.nilsl), ci 0, .cell (.nilsl), ci 0, ci 0, ci 0]), (1, .var [.cell (.os 2), ci s6.1, .cell (.os 3), ci s6.2.1, ci s6.2.2.1, ci s6.2.2.2.1]), (2, .row ty8 s6.2.2.2.2.1), (3, .row ty11 s6.2.2.2.2.2)]) (fun d i7 (s6 : Int × Int × Int × Int × dy10 × dy12) => d = Int.toNat ((x1.length : Int) - i7) ∧ 0 ≤ i7 ∧ i7 ≤ (x1.length : Int)) h ⟨rfl, (by (try simp only [List.length_set, List.length_append, List.length_cons, List.length_nil, List.length_replicate, List.length_take, List.length_drop]) <;> omega), (by (try simp only [List.length_set, List.length_append, List.length_cons, List.length_nil, List.length_replicate, List.length_take, List.length_drop]) <;> omega)⟩ (fun d8 i7 s6 hI h ih8 => ?_)))
  obtain ⟨hd, _, _⟩ := hI
  refine al_round ?_
  refine aw_seq ?_
  refine aw_seq ?_
  refine aw_region ?_
  refine ao_r (r_move rfl) rfl ?_
  refine ao_r (r_move rfl) rfl ?_
  refine ao_r (r_len_vm (x1.length : Int) Try.underlying42 rfl rfl) rfl ?_
  refine ao_r (r_lss rfl rfl) rfl ?_
  refine ao_nil ?_
  refine aq_then ?_
  refine aw_cond rfl (fun hb10 => ?_) (fun hb10 => ?_)
  have q11 := d_t hb10
  obtain ⟨d8, rfl⟩ : ∃ e, d8 = e + 1 := ⟨d8 - 1, by omega⟩
  replace h := is_cntS h
  refine aw_skip ?_
  refine aq_then ?_
  refine aw_seq ?_
  refine aw_block ?_
  refine aw_seq ?_
  obtain ⟨r13, r13h, h⟩ := is_bind h
  refine aw_drawP 12 rfl (by kernel_rfl) ?_
  refine ap_to [(1, .v ty2 x1), (4, .ref 0 0), (7, .ref 1 0), (8, .int .i64 i7), (9, .ref 2 0), (10, .bool r13.2)] [(0, .var [.cell (.nilsl), ci 0, .cell (.nilsl), ci 0, ci 0, ci 0]), (1, .var [.cell (.os 3), ci s6.1, .cell (.os 4), ci s6.2.1, ci s6.2.2.1, ci s6.2.2.2.1]), (2, .var [.cell (.os 5), ci r13.1.2.1, .cell (.os 6), ci r13.1.2.2.2.1, ci r13.1.2.2.2.2.1, ci r13.1.2.2.2.2.2.1]), (3, .row ty8 s6.2.2.2.2.1), (4, .row ty11 s6.2.2.2.2.2), (5, .row ty8 r13.1.1), (6, .row ty11 r13.1.2.2.1)] ?_ (fun key => ?_)
  refine row_len_q 5 (r13.1.1.length : Int) rfl rfl (fun hr30 => ?_)
  refine row_len_q 6 (r13.1.2.2.1.length : Int) rfl rfl (fun hr31 => ?_)
  refine aq_then ?_
  refine aw_seq ?_
  refine aw_seq ?_
  refine aw_region ?_
  refine ao_r (r_move rfl) rfl ?_
  refine ao_r (r_not rfl) rfl ?_
  refine ao_nil ?_
  refine aq_then ?_
  refine aw_cond rfl (fun hb32 => ?_) (fun hb32 => ?_)
  replace h := is_else (ne_t (not_t hb32)) h
  refine aw_seq ?_
  refine aw_region ?_
  refine ao_r (r_load_st [] [.cell (.os 3), ci s6.1, .cell (.os 4), ci s6.2.1, ci s6.2.2.1, ci s6.2.2.2.1] [] Try.isAgg29 Try.sizeOf29 rfl rfl rfl rfl rfl rfl rfl) rfl ?_
  refine ao_r (r_move rfl) rfl ?_
  refine ao_effS trivial (e_store rfl rfl rfl rfl Try.sizeOf29 rfl) ?_
  refine ao_r (r_assign rfl) rfl ?_
  refine ao_r (r_assign rfl) rfl ?_
  refine ao_nil ?_
  refine aq_then ?_
  refine aw_ret ?_
  refine aq_then_ret ?_
  refine aq_in_ret ?_
  refine aq_then_ret ?_
  refine aq_then_ret ?_
  refine aq_in_ret ?_
  refine aq_then_ret ?_
  refine aq_ret ?_
  obtain rfl := is_some h
  exact aq_finx (l := [.cell 4 29, .tmp 5, .tmp 6]) (xs := [.st [.os 3, .int .i64 s6.1, .os 4, .int .i64 s6.2.1, .int .i64 s6.2.2.1, .int .i64 s6.2.2.2.1], .int .i64 i7, .bool true]) (rn [(0, 3), (1, 4)]) [.st [.os 0, .int .i64 s6.1, .os 1, .int .i64 s6.2.1, .int .i64 s6.2.2.1, .int .i64 s6.2.2.2.1], .int .i64 i7, .bool true] [(0, .row ty8 s6.2.2.2.2.1), (1, .row ty11 s6.2.2.2.2.2)] rfl (by exact ⟨⟨⟨_, _, rfl⟩, r_load_st [] [.cell (.os 3), ci s6.1, .cell (.os 4), ci s6.2.1, ci s6.2.2.1, ci s6.2.2.2.1] [] Try.isAgg29 Try.sizeOf29 rfl rfl rfl rfl rfl rfl rfl⟩, rfl, rfl, trivial⟩) (by exact ⟨ad_ren rfl, ad_ren rfl, ad_ren rfl, trivial⟩) (by exact ⟨⟨_, rfl, rfl⟩, ⟨_, rfl, rfl⟩, trivial⟩) rfl (nk rfl) rfl rfl ⟨rfl, rfl⟩
  replace h := is_if (not_f hb32) h
  refine aw_skip ?_
  refine aq_then ?_
  refine aw_region ?_
  refine ao_r (r_load_st [] [.cell (.os 5), ci r13.1.2.1, .cell (.os 6), ci r13.1.2.2.2.1, ci r13.1.2.2.2.2.1, ci r13.1.2.2.2.2.2.1] [] Try.isAgg29 Try.sizeOf29 rfl rfl rfl rfl rfl rfl rfl) rfl ?_
  refine ao_effS trivial (e_store rfl rfl rfl rfl Try.sizeOf29 rfl) ?_
  refine ao_nil ?_
  refine aq_in ?_
  refine aq_then ?_
  refine aw_region ?_
  refine ao_r (r_move rfl) rfl ?_
  refine ao_r (r_addI rfl rfl (wrap_id (by omega) (by omega))) rfl ?_
  refine ao_r (r_assign rfl) rfl ?_
  refine ao_nil ?_
  exact aq_again (AL.sub (sub_r1 (rn [(2, 5), (3, 6)]) (nk rfl) (by kernel_rfl)) (ih8 d8 (i7 + 1) (r13.1.2.1, r13.1.2.2.2.1, r13.1.2.2.2.2.1, r13.1.2.2.2.2.2.1, r13.1.1, r13.1.2.2.1) (by omega) ⟨by omega, (by (try simp only [List.length_set, List.length_append, List.length_cons, List.length_nil, List.length_replicate, List.length_take, List.length_drop]) <;> omega), (by (try simp only [List.length_set, List.length_append, List.length_cons, List.length_nil, List.length_replicate, List.length_take, List.length_drop]) <;> omega)⟩ h))
  refine ap_let (g := 2) (listed := #[true, true, true, true, true, true, true, true, true, true, false, false]) [(1, .v ty2 x1), (4, .ref 0 0), (7, .ref 1 0), (8, .int .i64 i7), (9, .ref 2 0), (30, .st [.os 3, .int .i64 r13.1.2.1, .os 4, .int .i64 r13.1.2.2.2.1, .int .i64 r13.1.2.2.2.2.1, .int .i64 r13.1.2.2.2.2.2.1]), (31, .bool r13.2)] [(0, .var [.cell (.nilsl), ci 0, .cell (.nilsl), ci 0, ci 0, ci 0]), (1, .var [.cell (.os 5), ci s6.1, .cell (.os 6), ci s6.2.1, ci s6.2.2.1, ci s6.2.2.2.1]), (2, .var [.cell (.nilsl), ci 0, .cell (.nilsl), ci 0, ci 0, ci 0]), (3, .row ty8 r13.1.1), (4, .row ty11 r13.1.2.2.1), (5, .row ty8 s6.2.2.2.2.1), (6, .row ty11 s6.2.2.2.2.2)] ?_ (fun k21 => ?_)
  refine ap_all [10] (by kernel_rfl) ⟨?_, trivial⟩
  refine apo_ao rfl ?_
  refine ao_effS trivial (e_store rfl rfl rfl rfl Try.sizeOf29 rfl) ?_
  refine ap_ni ?_
  refine ap_p 11 (fun _ _ _ h => h) rfl (by kernel_rfl) (rp_assign rfl) rfl ?_
  exact ap_end (by kernel_rfl) (AQ.sub (sub_r1 (rn [(3, 5), (4, 6), (5, 3), (6, 4)]) (nk rfl) (by kernel_rfl)) key)
  refine ap_let (g := 3) (listed := #[true, true, true, true, true, true, true, true, true, false, false, false]) [(1, .v ty2 x1), (4, .ref 0 0), (7, .ref 1 0), (8, .int .i64 i7), (30, .st [.os 2, .int .i64 r13.1.2.1, .os 3, .int .i64 r13.1.2.2.2.1, .int .i64 r13.1.2.2.2.2.1, .int .i64 r13.1.2.2.2.2.2.1]), (31, .bool r13.2)] [(0, .var [.cell (.nilsl), ci 0, .cell (.nilsl), ci 0, ci 0, ci 0]), (1, .var [.cell (.os 4), ci s6.1, .cell (.os 5), ci s6.2.1, ci s6.2.2.1, ci s6.2.2.2.1]), (2, .row ty8 r13.1.1), (3, .row ty11 r13.1.2.2.1), (4, .row ty8 s6.2.2.2.2.1), (5, .row ty11 s6.2.2.2.2.2)] ?_ (fun k20 => ?_)
  refine ap_all [9] (by kernel_rfl) ⟨?_, trivial⟩
  refine apo_ao rfl ?_
  refine ao_eff trivial (e_alloc 6 (y := .st [.nilsl, .int .i64 0, .nilsl, .int .i64 0, .int .i64 0, .int .i64 0]) Try.zeroValue29 (fun ρ h M => ra_zero_st (t := ty1) rfl rfl rfl) rfl rfl rfl rfl rfl) rfl ?_
  refine ap_ni ?_
  exact ap_gr (rn [(2, 6), (3, 2), (4, 3), (5, 4), (6, 5)]) (nk rfl) k21 (by kernel_rfl)
  refine ap_let (g := 6) (listed := #[true, true, true, true, true, false, false, false, false, true, false, false]) [(1, .v ty2 x1), (4, .ref 0 0), (7, .ref 1 0), (8, .int .i64 i7), (9, .ref 2 0), (24, .st [.os 3, .int .i64 s6.1, .os 4, .int .i64 s6.2.1, .int .i64 s6.2.2.1, .int .i64 s6.2.2.2.1]), (28, .v ty4 ((x1.getD i7.toNat (0, (0, (0, ())))) : dy6))] [(0, .var [.cell (.nilsl), ci 0, .cell (.nilsl), ci 0, ci 0, ci 0]), (1, .var [.cell (.os 3), ci s6.1, .cell (.os 4), ci s6.2.1, ci s6.2.2.1, ci s6.2.2.2.1]), (2, .var [.cell (.nilsl), ci 0, .cell (.nilsl), ci 0, ci 0, ci 0]), (3, .row ty8 s6.2.2.2.2.1), (4, .row ty11 s6.2.2.2.2.2)] ?_ (fun k22 => ?_)
  refine ap_all [5] (by kernel_rfl) ⟨?_, trivial⟩
  refine apo_ao rfl ?_
  refine ao_call [] 5 trivial (c_spec_l12Do (is_mk r13h)) Try.func36 rfl rfl rfl rfl ⟨ad_st rfl rfl ⟨ad_os0 rfl, ad_ren rfl, ad_os0 rfl, ad_ren rfl, ad_ren rfl, ad_ren rfl, trivial⟩, ad_ren rfl, trivial⟩ trivial rfl rfl rfl rfl rfl rfl rfl (fun r' H' hr => ?_)
  obtain ⟨rfl, rfl⟩ := hr
  refine ao_norm (y := .tup [.st [.os 5, .int .i64 r13.1.2.1, .os 6, .int .i64 r13.1.2.2.2.1, .int .i64 r13.1.2.2.2.2.1, .int .i64 r13.1.2.2.2.2.2.1], .bool r13.2]) (H' := [(0, .var [.cell (.nilsl), ci 0, .cell (.nilsl), ci 0, ci 0, ci 0]), (1, .var [.cell (.os 3), ci s6.1, .cell (.os 4), ci s6.2.1, ci s6.2.2.1, ci s6.2.2.2.1]), (2, .var [.cell (.nilsl), ci 0, .cell (.nilsl), ci 0, ci 0, ci 0]), (3, .row ty8 s6.2.2.2.2.1), (4, .row ty11 s6.2.2.2.2.2), (5, .row ty8 r13.1.1), (6, .row ty11 r13.1.2.2.1)]) rfl rfl ?_
  refine row_len_o 5 (r13.1.1.length : Int) rfl rfl (fun hr14 => ?_)
  refine row_len_o 6 (r13.1.2.2.1.length : Int) rfl rfl (fun hr15 => ?_)
  refine ap_ni ?_
  refine ap_p 6 (fun _ _ _ h => h) rfl (by kernel_rfl) (rp_move rfl) rfl ?_
  refine ap_p 7 (fun _ _ _ h => h) rfl (by kernel_rfl) (rp_extract rfl rfl) rfl ?_
  refine ap_p 8 (fun _ _ _ h => h) rfl (by kernel_rfl) (rp_extract rfl rfl) rfl ?_
  exact ap_gr (rn [(3, 5), (4, 6), (5, 3), (6, 4)]) (nk rfl) k21 (by kernel_rfl)
  refine ap_let (g := 7) (listed := #[true, true, true, true, true, false, false, false, false, false, false, false]) [(1, .v ty2 x1), (4, .ref 0 0), (7, .ref 1 0), (8, .int .i64 i7), (24, .st [.os 2, .int .i64 s6.1, .os 3, .int .i64 s6.2.1, .int .i64 s6.2.2.1, .int .i64 s6.2.2.2.1]), (28, .v ty4 ((x1.getD i7.toNat (0, (0, (0, ())))) : dy6))] [(0, .var [.cell (.nilsl), ci 0, .cell (.nilsl), ci 0, ci 0, ci 0]), (1, .var [.cell (.os 2), ci s6.1, .cell (.os 3), ci s6.2.1, ci s6.2.2.1, ci s6.2.2.2.1]), (2, .row ty8 s6.2.2.2.2.1), (3, .row ty11 s6.2.2.2.2.2)] ?_ (fun k19 => ?_)
  refine ap_all [5, 9] (by kernel_rfl) ⟨?_, ?_, trivial⟩
  refine apo_ao rfl ?_
  refine ao_call [] 4 trivial (c_spec_l12Do (is_mk r13h)) Try.func36 rfl rfl rfl rfl ⟨ad_st rfl rfl ⟨ad_os0 rfl, ad_ren rfl, ad_os0 rfl, ad_ren rfl, ad_ren rfl, ad_ren rfl, trivial⟩, ad_ren rfl, trivial⟩ trivial rfl rfl rfl rfl rfl rfl rfl (fun r' H' hr => ?_)
  obtain ⟨rfl, rfl⟩ := hr
  refine ao_norm (y := .tup [.st [.os 4, .int .i64 r13.1.2.1, .os 5, .int .i64 r13.1.2.2.2.1, .int .i64 r13.1.2.2.2.2.1, .int .i64 r13.1.2.2.2.2.2.1], .bool r13.2]) (H' := [(0, .var [.cell (.nilsl), ci 0, .cell (.nilsl), ci 0, ci 0, ci 0]), (1, .var [.cell (.os 2), ci s6.1, .cell (.os 3), ci s6.2.1, ci s6.2.2.1, ci s6.2.2.2.1]), (2, .row ty8 s6.2.2.2.2.1), (3, .row ty11 s6.2.2.2.2.2), (4, .row ty8 r13.1.1), (5, .row ty11 r13.1.2.2.1)]) rfl rfl ?_
  refine row_len_o 4 (r13.1.1.length : Int) rfl rfl (fun hr14 => ?_)
  refine row_len_o 5 (r13.1.2.2.1.length : Int) rfl rfl (fun hr15 => ?_)
  refine ap_ni ?_
  refine ap_p 6 (fun _ _ _ h => h) rfl (by kernel_rfl) (rp_move rfl) rfl ?_
  refine ap_p 7 (fun _ _ _ h => h) rfl (by kernel_rfl) (rp_extract rfl rfl) rfl ?_
  refine ap_p 8 (fun _ _ _ h => h) rfl (by kernel_rfl) (rp_extract rfl rfl) rfl ?_
  exact ap_gr (rn [(2, 4), (3, 5), (4, 2), (5, 3)]) (nk rfl) k20 (by kernel_rfl)
  refine apo_ao rfl ?_
  refine ao_eff trivial (e_alloc 4 (y := .st [.nilsl, .int .i64 0, .nilsl, .int .i64 0, .int .i64 0, .int .i64 0]) Try.zeroValue29 (fun ρ h M => ra_zero_st (t := ty1) rfl rfl rfl) rfl rfl rfl rfl rfl) rfl ?_
  refine ap_ni ?_
  exact ap_gr (rn [(2, 4), (3, 2), (4, 3)]) (nk rfl) k22 (by kernel_rfl)
  refine ap_let (g := 7) (listed := #[true, true, true, true, false, false, false, false, false, true, false, false]) [(1, .v ty2 x1), (4, .ref 0 0), (7, .ref 1 0), (8, .int .i64 i7), (9, .ref 2 0), (24, .st [.os 3, .int .i64 s6.1, .os 4, .int .i64 s6.2.1, .int .i64 s6.2.2.1, .int .i64 s6.2.2.2.1]), (27, .cptr ty4 ((x1.getD i7.toNat (0, (0, (0, ())))) : dy6))] [(0, .var [.cell (.nilsl), ci 0, .cell (.nilsl), ci 0, ci 0, ci 0]), (1, .var [.cell (.os 3), ci s6.1, .cell (.os 4), ci s6.2.1, ci s6.2.2.1, ci s6.2.2.2.1]), (2, .var [.cell (.nilsl), ci 0, .cell (.nilsl), ci 0, ci 0, ci 0]), (3, .row ty8 s6.2.2.2.2.1), (4, .row ty11 s6.2.2.2.2.2)] ?_ (fun k23 => ?_)
  refine ap_all [4] (by kernel_rfl) ⟨?_, trivial⟩
  refine apo_ao rfl ?_
  refine ao_r (r_load_c (t := ty4) Try.isAgg33 Try.sizeOf33 rfl) rfl ?_
  refine ap_ni ?_
  exact ap_gr idn (nk rfl) k22 (by kernel_rfl)
  refine ap_let (g := 7) (listed := #[false, true, true, true, true, false, false, false, false, true, false, false]) [(1, .v ty2 x1), (4, .ref 0 0), (7, .ref 1 0), (8, .int .i64 i7), (9, .ref 2 0), (28, .v ty4 ((x1.getD i7.toNat (0, (0, (0, ())))) : dy6))] [(0, .var [.cell (.nilsl), ci 0, .cell (.nilsl), ci 0, ci 0, ci 0]), (1, .var [.cell (.os 3), ci s6.1, .cell (.os 4), ci s6.2.1, ci s6.2.2.1, ci s6.2.2.2.1]), (2, .var [.cell (.nilsl), ci 0, .cell (.nilsl), ci 0, ci 0, ci 0]), (3, .row ty8 s6.2.2.2.2.1), (4, .row ty11 s6.2.2.2.2.2)] ?_ (fun k27 => ?_)
  refine ap_all [0] (by kernel_rfl) ⟨?_, trivial⟩
  refine apo_ao rfl ?_
  refine ao_r (r_load_st [] [.cell (.os 3), ci s6.1, .cell (.os 4), ci s6.2.1, ci s6.2.2.1, ci s6.2.2.2.1] [] Try.isAgg29 Try.sizeOf29 rfl rfl rfl rfl rfl rfl rfl) rfl ?_
  refine ap_ni ?_
  exact ap_gr idn (nk rfl) k22 (by kernel_rfl)
  refine ap_let (g := 8) (listed := #[true, true, true, true, false, false, false, false, false, false, false, false]) [(1, .v ty2 x1), (4, .ref 0 0), (7, .ref 1 0), (8, .int .i64 i7), (24, .st [.os 2, .int .i64 s6.1, .os 3, .int .i64 s6.2.1, .int .i64 s6.2.2.1, .int .i64 s6.2.2.2.1]), (27, .cptr ty4 ((x1.getD i7.toNat (0, (0, (0, ())))) : dy6))] [(0, .var [.cell (.nilsl), ci 0, .cell (.nilsl), ci 0, ci 0, ci 0]), (1, .var [.cell (.os 2), ci s6.1, .cell (.os 3), ci s6.2.1, ci s6.2.2.1, ci s6.2.2.2.1]), (2, .row ty8 s6.2.2.2.2.1), (3, .row ty11 s6.2.2.2.2.2)] ?_ (fun k18 => ?_)
  refine ap_all [4, 9] (by kernel_rfl) ⟨?_, ?_, trivial⟩
  refine apo_ao rfl ?_
  refine ao_r (r_load_c (t := ty4) Try.isAgg33 Try.sizeOf33 rfl) rfl ?_
  refine ap_ni ?_
  exact ap_gr idn (nk rfl) k19 (by kernel_rfl)
  refine apo_ao rfl ?_
  refine ao_eff trivial (e_alloc 4 (y := .st [.nilsl, .int .i64 0, .nilsl, .int .i64 0, .int .i64 0, .int .i64 0]) Try.zeroValue29 (fun ρ h M => ra_zero_st (t := ty1) rfl rfl rfl) rfl rfl rfl rfl rfl) rfl ?_
  refine ap_ni ?_
  exact ap_gr (rn [(2, 4), (3, 2), (4, 3)]) (nk rfl) k23 (by kernel_rfl)
  refine ap_let (g := 8) (listed := #[true, true, true, false, false, false, false, false, false, true, false, false]) [(1, .v ty2 x1), (4, .ref 0 0), (7, .ref 1 0), (8, .int .i64 i7), (9, .ref 2 0), (24, .st [.os 3, .int .i64 s6.1, .os 4, .int .i64 s6.2.1, .int .i64 s6.2.2.1, .int .i64 s6.2.2.2.1]), (25, .v ty2 x1), (26, .int .i64 i7)] [(0, .var [.cell (.nilsl), ci 0, .cell (.nilsl), ci 0, ci 0, ci 0]), (1, .var [.cell (.os 3), ci s6.1, .cell (.os 4), ci s6.2.1, ci s6.2.2.1, ci s6.2.2.2.1]), (2, .var [.cell (.nilsl), ci 0, .cell (.nilsl), ci 0, ci 0, ci 0]), (3, .row ty8 s6.2.2.2.2.1), (4, .row ty11 s6.2.2.2.2.2)] ?_ (fun k24 => ?_)
  refine ap_all [3] (by kernel_rfl) ⟨?_, trivial⟩
  refine apo_ao rfl ?_
  refine ao_r (r_idxAddr (t := ty4) Try.underlying42 Try.sizeOf33 rfl rfl (show 0 ≤ i7 from by omega) (show i7 < (x1.length : Int) from by omega)) rfl ?_
  refine ap_ni ?_
  exact ap_gr idn (nk rfl) k23 (by kernel_rfl)
  refine ap_let (g := 8) (listed := #[false, true, true, true, true, false, false, false, false, false, false, false]) [(1, .v ty2 x1), (4, .ref 0 0), (7, .ref 1 0), (8, .int .i64 i7), (28, .v ty4 ((x1.getD i7.toNat (0, (0, (0, ())))) : dy6))] [(0, .var [.cell (.nilsl), ci 0, .cell (.nilsl), ci 0, ci 0, ci 0]), (1, .var [.cell (.os 2), ci s6.1, .cell (.os 3), ci s6.2.1, ci s6.2.2.1, ci s6.2.2.2.1]), (2, .row ty8 s6.2.2.2.2.1), (3, .row ty11 s6.2.2.2.2.2)] ?_ (fun k26 => ?_)
  refine ap_all [0, 9] (by kernel_rfl) ⟨?_, ?_, trivial⟩
  refine apo_ao rfl ?_
  refine ao_r (r_load_st [] [.cell (.os 2), ci s6.1, .cell (.os 3), ci s6.2.1, ci s6.2.2.1, ci s6.2.2.2.1] [] Try.isAgg29 Try.sizeOf29 rfl rfl rfl rfl rfl rfl rfl) rfl ?_
  refine ap_ni ?_
  exact ap_gr idn (nk rfl) k19 (by kernel_rfl)
  refine apo_ao rfl ?_
  refine ao_eff trivial (e_alloc 4 (y := .st [.nilsl, .int .i64 0, .nilsl, .int .i64 0, .int .i64 0, .int .i64 0]) Try.zeroValue29 (fun ρ h M => ra_zero_st (t := ty1) rfl rfl rfl) rfl rfl rfl rfl rfl) rfl ?_
  refine ap_ni ?_
  exact ap_gr (rn [(2, 4), (3, 2), (4, 3)]) (nk rfl) k27 (by kernel_rfl)
  refine ap_let (g := 8) (listed := #[false, true, true, true, false, false, false, false, false, true, false, false]) [(1, .v ty2 x1), (4, .ref 0 0), (7, .ref 1 0), (8, .int .i64 i7), (9, .ref 2 0), (27, .cptr ty4 ((x1.getD i7.toNat (0, (0, (0, ())))) : dy6))] [(0, .var [.cell (.nilsl), ci 0, .cell (.nilsl), ci 0, ci 0, ci 0]), (1, .var [.cell (.os 3), ci s6.1, .cell (.os 4), ci s6.2.1, ci s6.2.2.1, ci s6.2.2.2.1]), (2, .var [.cell (.nilsl), ci 0, .cell (.nilsl), ci 0, ci 0, ci 0]), (3, .row ty8 s6.2.2.2.2.1), (4, .row ty11 s6.2.2.2.2.2)] ?_ (fun k28 => ?_)
  refine ap_all [0, 4] (by kernel_rfl) ⟨?_, ?_, trivial⟩
  refine apo_ao rfl ?_
  refine ao_r (r_load_st [] [.cell (.os 3), ci s6.1, .cell (.os 4), ci s6.2.1, ci s6.2.2.1, ci s6.2.2.2.1] [] Try.isAgg29 Try.sizeOf29 rfl rfl rfl rfl rfl rfl rfl) rfl ?_
  refine ap_ni ?_
  exact ap_gr idn (nk rfl) k23 (by kernel_rfl)
  refine apo_ao rfl ?_
  refine ao_r (r_load_c (t := ty4) Try.isAgg33 Try.sizeOf33 rfl) rfl ?_
  refine ap_ni ?_
  exact ap_gr idn (nk rfl) k27 (by kernel_rfl)
  refine ap_let (g := 9) (listed := #[true, true, true, false, false, false, false, false, false, false, false, false]) [(1, .v ty2 x1), (4, .ref 0 0), (7, .ref 1 0), (8, .int .i64 i7), (24, .st [.os 2, .int .i64 s6.1, .os 3, .int .i64 s6.2.1, .int .i64 s6.2.2.1, .int .i64 s6.2.2.2.1]), (25, .v ty2 x1), (26, .int .i64 i7)] [(0, .var [.cell (.nilsl), ci 0, .cell (.nilsl), ci 0, ci 0, ci 0]), (1, .var [.cell (.os 2), ci s6.1, .cell (.os 3), ci s6.2.1, ci s6.2.2.1, ci s6.2.2.2.1]), (2, .row ty8 s6.2.2.2.2.1), (3, .row ty11 s6.2.2.2.2.2)] ?_ (fun k17 => ?_)
  refine ap_all [3, 9] (by kernel_rfl) ⟨?_, ?_, trivial⟩
  refine apo_ao rfl ?_
  refine ao_r (r_idxAddr (t := ty4) Try.underlying42 Try.sizeOf33 rfl rfl (show 0 ≤ i7 from by omega) (show i7 < (x1.length : Int) from by omega)) rfl ?_
  refine ap_ni ?_
  exact ap_gr idn (nk rfl) k18 (by kernel_rfl)
  refine apo_ao rfl ?_
  refine ao_eff trivial (e_alloc 4 (y := .st [.nilsl, .int .i64 0, .nilsl, .int .i64 0, .int .i64 0, .int .i64 0]) Try.zeroValue29 (fun ρ h M => ra_zero_st (t := ty1) rfl rfl rfl) rfl rfl rfl rfl rfl) rfl ?_
  refine ap_ni ?_
  exact ap_gr (rn [(2, 4), (3, 2), (4, 3)]) (nk rfl) k24 (by kernel_rfl)
  refine ap_let (g := 9) (listed := #[false, true, true, true, false, false, false, false, false, false, false, false]) [(1, .v ty2 x1), (4, .ref 0 0), (7, .ref 1 0), (8, .int .i64 i7), (27, .cptr ty4 ((x1.getD i7.toNat (0, (0, (0, ())))) : dy6))] [(0, .var [.cell (.nilsl), ci 0, .cell (.nilsl), ci 0, ci 0, ci 0]), (1, .var [.cell (.os 2), ci s6.1, .cell (.os 3), ci s6.2.1, ci s6.2.2.1, ci s6.2.2.2.1]), (2, .row ty8 s6.2.2.2.2.1), (3, .row ty11 s6.2.2.2.2.2)] ?_ (fun k25 => ?_)
  refine ap_all [0, 4, 9] (by kernel_rfl) ⟨?_, ?_, ?_, trivial⟩
  refine apo_ao rfl ?_
  refine ao_r (r_load_st [] [.cell (.os 2), ci s6.1, .cell (.os 3), ci s6.2.1, ci s6.2.2.1, ci s6.2.2.2.1] [] Try.isAgg29 Try.sizeOf29 rfl rfl rfl rfl rfl rfl rfl) rfl ?_
  refine ap_ni ?_
  exact ap_gr idn (nk rfl) k18 (by kernel_rfl)
  refine apo_ao rfl ?_
  refine ao_r (r_load_c (t := ty4) Try.isAgg33 Try.sizeOf33 rfl) rfl ?_
  refine ap_ni ?_
  exact ap_gr idn (nk rfl) k26 (by kernel_rfl)
  refine apo_ao rfl ?_
  refine ao_eff trivial (e_alloc 4 (y := .st [.nilsl, .int .i64 0, .nilsl, .int .i64 0, .int .i64 0, .int .i64 0]) Try.zeroValue29 (fun ρ h M => ra_zero_st (t := ty1) rfl rfl rfl) rfl rfl rfl rfl rfl) rfl ?_
  refine ap_ni ?_
  exact ap_gr (rn [(2, 4), (3, 2), (4, 3)]) (nk rfl) k28 (by kernel_rfl)
  refine ap_let (g := 9) (listed := #[false, true, true, false, false, false, false, false, false, true, false, false]) [(1, .v ty2 x1), (4, .ref 0 0), (7, .ref 1 0), (8, .int .i64 i7), (9, .ref 2 0), (25, .v ty2 x1), (26, .int .i64 i7)] [(0, .var [.cell (.nilsl), ci 0, .cell (.nilsl), ci 0, ci 0, ci 0]), (1, .var [.cell (.os 3), ci s6.1, .cell (.os 4), ci s6.2.1, ci s6.2.2.1, ci s6.2.2.2.1]), (2, .var [.cell (.nilsl), ci 0, .cell (.nilsl), ci 0, ci 0, ci 0]), (3, .row ty8 s6.2.2.2.2.1), (4, .row ty11 s6.2.2.2.2.2)] ?_ (fun k29 => ?_)
  refine ap_all [0, 3] (by kernel_rfl) ⟨?_, ?_, trivial⟩
  refine apo_ao rfl ?_
  refine ao_r (r_load_st [] [.cell (.os 3), ci s6.1, .cell (.os 4), ci s6.2.1, ci s6.2.2.1, ci s6.2.2.2.1] [] Try.isAgg29 Try.sizeOf29 rfl rfl rfl rfl rfl rfl rfl) rfl ?_
  refine ap_ni ?_
  exact ap_gr idn (nk rfl) k24 (by kernel_rfl)
  refine apo_ao rfl ?_
  refine ao_r (r_idxAddr (t := ty4) Try.underlying42 Try.sizeOf33 rfl rfl (show 0 ≤ i7 from by omega) (show i7 < (x1.length : Int) from by omega)) rfl ?_
  refine ap_ni ?_
  exact ap_gr idn (nk rfl) k28 (by kernel_rfl)
  refine ap_let (g := 10) (listed := #[false, true, true, false, false, false, false, false, false, false, false, false]) [(1, .v ty2 x1), (4, .ref 0 0), (7, .ref 1 0), (8, .int .i64 i7), (25, .v ty2 x1), (26, .int .i64 i7)] [(0, .var [.cell (.nilsl), ci 0, .cell (.nilsl), ci 0, ci 0, ci 0]), (1, .var [.cell (.os 2), ci s6.1, .cell (.os 3), ci s6.2.1, ci s6.2.2.1, ci s6.2.2.2.1]), (2, .row ty8 s6.2.2.2.2.1), (3, .row ty11 s6.2.2.2.2.2)] ?_ (fun k16 => ?_)
  refine ap_all [0, 3, 9] (by kernel_rfl) ⟨?_, ?_, ?_, trivial⟩
  refine apo_ao rfl ?_
  refine ao_r (r_load_st [] [.cell (.os 2), ci s6.1, .cell (.os 3), ci s6.2.1, ci s6.2.2.1, ci s6.2.2.2.1] [] Try.isAgg29 Try.sizeOf29 rfl rfl rfl rfl rfl rfl rfl) rfl ?_
  refine ap_ni ?_
  exact ap_gr idn (nk rfl) k17 (by kernel_rfl)
  refine apo_ao rfl ?_
  refine ao_r (r_idxAddr (t := ty4) Try.underlying42 Try.sizeOf33 rfl rfl (show 0 ≤ i7 from by omega) (show i7 < (x1.length : Int) from by omega)) rfl ?_
  refine ap_ni ?_
  exact ap_gr idn (nk rfl) k25 (by kernel_rfl)
  refine apo_ao rfl ?_
  refine ao_eff trivial (e_alloc 4 (y := .st [.nilsl, .int .i64 0, .nilsl, .int .i64 0, .int .i64 0, .int .i64 0]) Try.zeroValue29 (fun ρ h M => ra_zero_st (t := ty1) rfl rfl rfl) rfl rfl rfl rfl rfl) rfl ?_
  refine ap_ni ?_
  exact ap_gr (rn [(2, 4), (3, 2), (4, 3)]) (nk rfl) k29 (by kernel_rfl)
  refine ap_p 1 (fun _ _ _ h => h) rfl (by kernel_rfl) (rp_move rfl) rfl ?_
  refine ap_p 2 (fun _ _ _ h => h) rfl (by kernel_rfl) (rp_move rfl) rfl ?_
  exact ap_gr idn (nk rfl) k16 (by kernel_rfl)
  have q12 := d_f hb10
  obtain rfl : d8 = 0 := by omega
  replace h := is_cnt0 h
  refine aw_exit ?_
  refine aq_then_exit ?_
  refine aq_then_exit ?_
  refine aq_in_exit ?_
  refine aq_then ?_
  refine aw_seq ?_
  refine aw_region ?_
  refine ao_r (r_load_st [] [.cell (.os 2), ci s6.1, .cell (.os 3), ci s6.2.1, ci s6.2.2.1, ci s6.2.2.2.1] [] Try.isAgg29 Try.sizeOf29 rfl rfl rfl rfl rfl rfl rfl) rfl ?_
  refine ao_r (r_move rfl) rfl ?_
  refine ao_r (r_len_vm (x1.length : Int) Try.underlying42 rfl rfl) rfl ?_
  refine ao_effS trivial (e_store rfl rfl rfl rfl Try.sizeOf29 rfl) ?_
  refine ao_r (r_assign rfl) rfl ?_
  refine ao_r (r_assign rfl) rfl ?_
  refine ao_nil ?_
  refine aq_then ?_
  refine aw_ret ?_
  refine aq_ret ?_
  obtain rfl := is_some h
  exact aq_finx (l := [.cell 4 29, .tmp 5, .tmp 6]) (xs := [.st [.os 2, .int .i64 s6.1, .os 3, .int .i64 s6.2.1, .int .i64 s6.2.2.1, .int .i64 s6.2.2.2.1], .int .i64 (x1.length : Int), .bool true]) (rn [(0, 2), (1, 3)]) [.st [.os 0, .int .i64 s6.1, .os 1, .int .i64 s6.2.1, .int .i64 s6.2.2.1, .int .i64 s6.2.2.2.1], .int .i64 (x1.length : Int), .bool true] [(0, .row ty8 s6.2.2.2.2.1), (1, .row ty11 s6.2.2.2.2.2)] rfl (by exact ⟨⟨⟨_, _, rfl⟩, r_load_st [] [.cell (.os 2), ci s6.1, .cell (.os 3), ci s6.2.1, ci s6.2.2.1, ci s6.2.2.2.1] [] Try.isAgg29 Try.sizeOf29 rfl rfl rfl rfl rfl rfl rfl⟩, rfl, rfl, trivial⟩) (by exact ⟨ad_ren rfl, ad_ren rfl, ad_ren rfl, trivial⟩) (by exact ⟨⟨_, rfl, rfl⟩, ⟨_, rfl, rfl⟩, trivial⟩) rfl (nk rfl) rfl rfl ⟨rfl, rfl⟩
theorem c_impl_LastSum {fu : Nat} {x0 : dy3} {r : Int × Bool} (h : Is (p_impl_LastSum fu x0) (some r)) :
    Scalar Try.prog 30 [.v ty1 x0] (.tup [.int .i64 r.1, .bool r.2]) := by
  unfold p_impl_LastSum at h
  refine ac_enter ⟨16, 0⟩ Try.func30 rfl rfl rfl rfl rfl (fun Γ => ?_)
  refine aw_seq ?_
  refine aw_region ?_
  refine ao_eff trivial (e_box 0 rfl rfl rfl rfl rfl rfl) rfl ?_
  refine ao_r (r_assign rfl) rfl ?_
  refine ao_r (r_assign rfl) rfl ?_
  refine ao_nil ?_
  refine aq_then ?_
  refine aw_seq ?_
  refine aw_seq ?_
  refine aw_region ?_
  refine ao_r (r_load_part (τ := ty1) (y := ((x0.1, (x0.2.1, (x0.2.2.1, (x0.2.2.2.1, (x0.2.2.2.2.1, (x0.2.2.2.2.2.1, ())))))) : dy3)) [] [] rfl Try.isAgg29 Try.sizeOf29 rfl rfl rfl rfl) rfl ?_
  obtain ⟨r1, r1h, h⟩ := is_bind h
  refine ao_scall trivial (scall (c_impl_IsTavern (is_mk r1h)) rfl Try.func25 rfl rfl rfl rfl (fun σ => ⟨ad_ren rfl, trivial⟩)) rfl ?_
  refine ao_r (r_not rfl) rfl ?_
  refine ao_r (r_move rfl) rfl ?_
  refine ao_readG (x := .ref 0 2) rfl (GV.F rfl) (fun hg2 => r_fieldAddr Try.underlying29 rfl Try.sizeOf23 rfl rfl rfl) rfl ?_
  refine ao_readG (x := .v ty7 x0.2.2.1) rfl (GV.F rfl) (fun hg3 => Reads.strip 8 rfl (hg3) (r_load_cell Try.isAgg23 rfl rfl rfl)) rfl ?_
  refine ao_readG (x := .int .i64 (x0.2.2.1.length : Int)) rfl (GV.F rfl) (fun hg4 => Reads.strip 9 rfl (hg4) (r_len_vm (x0.2.2.1.length : Int) Try.underlying23 rfl rfl)) rfl ?_
  refine ao_readG (x := .bool (decide ((x0.2.2.1.length : Int) = 0))) rfl (GV.F rfl) (fun hg5 => Reads.strip 10 rfl (hg5) (r_eql rfl rfl)) rfl ?_
  refine ao_r (r_orB rfl rfl) rfl ?_
  refine ao_nil ?_
  refine aq_then ?_
  refine aw_cond rfl (fun hb6 => ?_) (fun hb6 => ?_)
  replace h := is_if hb6 h
  refine aw_seq ?_
  refine aw_region ?_
  refine ao_r (r_assign rfl) rfl ?_
  refine ao_r (r_assign rfl) rfl ?_
  refine ao_nil ?_
  refine aq_then ?_
  refine aw_ret ?_
  refine aq_then_ret ?_
  refine aq_ret ?_
  obtain rfl := is_some h
  exact aq_finx (l := [.tmp 2, .tmp 3]) (xs := [.int .i64 0, .bool false]) idn [.int .i64 0, .bool false] [] rfl (by exact ⟨rfl, rfl, trivial⟩) (by exact ⟨ad_ren rfl, ad_ren rfl, trivial⟩) (by exact trivial) rfl (nk rfl) rfl rfl ⟨rfl, rfl⟩
  obtain ⟨q7, q8⟩ := or_f hb6
  have q9 := d_f q8
  replace h := is_else (ne_t hb6) h
  refine aw_skip ?_
  refine aq_then ?_
  refine aw_seq ?_
  refine aw_region ?_
  refine ao_r (r_fieldAddr Try.underlying29 rfl Try.sizeOf23 rfl rfl rfl) rfl ?_
  refine ao_r (r_load_cell Try.isAgg23 rfl rfl rfl) rfl ?_
  refine ao_scall trivial (scall (c_impl_total (is_mk (rfl : p_impl_total x0.2.2.1 = _))) rfl Try.func59 rfl rfl rfl rfl (fun σ => ⟨ad_ren rfl, trivial⟩)) rfl ?_
  refine ao_r (r_assign rfl) rfl ?_
  refine ao_r (r_assign rfl) rfl ?_
  refine ao_nil ?_
  refine aq_then ?_
  refine aw_ret ?_
  refine aq_ret ?_
  obtain rfl := is_some h
  exact aq_finx (l := [.tmp 2, .tmp 3]) (xs := [.int .i64 (p_impl_total x0.2.2.1), .bool true]) idn [.int .i64 (p_impl_total x0.2.2.1), .bool true] [] rfl (by exact ⟨rfl, rfl, trivial⟩) (by exact ⟨ad_ren rfl, ad_ren rfl, trivial⟩) (by exact trivial) rfl (nk rfl) rfl rfl ⟨rfl, rfl⟩
theorem c_spec_LastSum {x0 : dy3} {r : Int × Bool} (h : Is (p_spec_LastSum x0) (some r)) :
    Scalar Try.prog 31 [.v ty1 x0] (.tup [.int .i64 r.1, .bool r.2]) := by
  unfold p_spec_LastSum at h
  refine ac_enter ⟨16, 0⟩ Try.func31 rfl rfl rfl rfl rfl (fun Γ => ?_)
  refine aw_seq ?_
  refine aw_region ?_
  refine ao_eff trivial (e_box 0 rfl rfl rfl rfl rfl rfl) rfl ?_
  refine ao_r (r_assign rfl) rfl ?_
  refine ao_r (r_assign rfl) rfl ?_
  refine ao_nil ?_
  refine aq_then ?_
  refine aw_seq ?_
  refine aw_seq ?_
  refine aw_region ?_
  refine ao_r (r_load_part (τ := ty1) (y := ((x0.1, (x0.2.1, (x0.2.2.1, (x0.2.2.2.1, (x0.2.2.2.2.1, (x0.2.2.2.2.2.1, ())))))) : dy3)) [] [] rfl Try.isAgg29 Try.sizeOf29 rfl rfl rfl rfl) rfl ?_
  obtain ⟨r1, r1h, h⟩ := is_bind h
  refine ao_scall trivial (scall (c_spec_l12Good (is_mk r1h)) rfl Try.func35 rfl rfl rfl rfl (fun σ => ⟨ad_ren rfl, trivial⟩)) rfl ?_
  refine ao_r (r_not rfl) rfl ?_
  refine ao_r (r_move rfl) rfl ?_
  refine ao_readG (x := .ref 0 2) rfl (GV.F rfl) (fun hg2 => r_fieldAddr Try.underlying29 rfl Try.sizeOf23 rfl rfl rfl) rfl ?_
  refine ao_readG (x := .v ty7 x0.2.2.1) rfl (GV.F rfl) (fun hg3 => Reads.strip 8 rfl (hg3) (r_load_cell Try.isAgg23 rfl rfl rfl)) rfl ?_
  refine ao_readG (x := .int .i64 (x0.2.2.1.length : Int)) rfl (GV.F rfl) (fun hg4 => Reads.strip 9 rfl (hg4) (r_len_vm (x0.2.2.1.length : Int) Try.underlying23 rfl rfl)) rfl ?_
  refine ao_readG (x := .bool (decide ((x0.2.2.1.length : Int) = 0))) rfl (GV.F rfl) (fun hg5 => Reads.strip 10 rfl (hg5) (r_eql rfl rfl)) rfl ?_
  refine ao_r (r_orB rfl rfl) rfl ?_
  refine ao_nil ?_
  refine aq_then ?_
  refine aw_cond rfl (fun hb6 => ?_) (fun hb6 => ?_)
  replace h := is_if hb6 h
  refine aw_seq ?_
  refine aw_region ?_
  refine ao_r (r_assign rfl) rfl ?_
  refine ao_r (r_assign rfl) rfl ?_
  refine ao_nil ?_
  refine aq_then ?_
  refine aw_ret ?_
  refine aq_then_ret ?_
  refine aq_ret ?_
  obtain rfl := is_some h
  exact aq_finx (l := [.tmp 2, .tmp 3]) (xs := [.int .i64 0, .bool false]) idn [.int .i64 0, .bool false] [] rfl (by exact ⟨rfl, rfl, trivial⟩) (by exact ⟨ad_ren rfl, ad_ren rfl, trivial⟩) (by exact trivial) rfl (nk rfl) rfl rfl ⟨rfl, rfl⟩
  obtain ⟨q7, q8⟩ := or_f hb6
  have q9 := d_f q8
  replace h := is_else (ne_t hb6) h
  refine aw_skip ?_
  refine aq_then ?_
  refine aw_seq ?_
  refine aw_region ?_
  refine ao_r (r_fieldAddr Try.underlying29 rfl Try.sizeOf23 rfl rfl rfl) rfl ?_
  refine ao_r (r_load_cell Try.isAgg23 rfl rfl rfl) rfl ?_
  refine ao_scall trivial (scall (c_spec_l12Add (is_mk (rfl : p_spec_l12Add x0.2.2.1 = _))) rfl Try.func60 rfl rfl rfl rfl (fun σ => ⟨ad_ren rfl, trivial⟩)) rfl ?_
  refine ao_r (r_assign rfl) rfl ?_
  refine ao_r (r_assign rfl) rfl ?_
  refine ao_nil ?_
  refine aq_then ?_
  refine aw_ret ?_
  refine aq_ret ?_
  obtain rfl := is_some h
  exact aq_finx (l := [.tmp 2, .tmp 3]) (xs := [.int .i64 (p_spec_l12Add x0.2.2.1), .bool true]) idn [.int .i64 (p_spec_l12Add x0.2.2.1), .bool true] [] rfl (by exact ⟨rfl, rfl, trivial⟩) (by exact ⟨ad_ren rfl, ad_ren rfl, trivial⟩) (by exact trivial) rfl (nk rfl) rfl rfl ⟨rfl, rfl⟩
theorem c_laws_FnTaverns {fu : Nat} {x0 : dy12} {r : Bool} (h : Is (p_laws_FnTaverns fu x0) (some r)) :
    Scalar Try.prog 5 [.v ty9 x0] (.bool r) := by
  unfold p_laws_FnTaverns at h
  refine ac_enter ⟨282, 0⟩ Try.func5 rfl rfl rfl rfl rfl (fun Γ => ?_)
  refine sl_len_m 0 (x0.length : Int) rfl rfl (fun hl0 => ?_)
  refine aw_seq ?_
  refine aw_region ?_
  refine ao_r (r_assign rfl) rfl ?_
  refine ao_nil ?_
  refine aq_then ?_
  refine aw_seq ?_
  refine aw_seq ?_
  refine aw_region ?_
  refine ao_r (r_move rfl) rfl ?_
  refine ao_scall trivial (scall (c_laws_rBig (is_mk (rfl : p_laws_rBig x0 = _))) rfl Try.func20 rfl rfl rfl rfl (fun σ => ⟨ad_ren rfl, trivial⟩)) rfl ?_
  refine ao_nil ?_
  refine aq_then ?_
  refine aw_cond rfl (fun hb1 => ?_) (fun hb1 => ?_)
  replace h := is_if hb1 h
  refine aw_seq ?_
  refine aw_region ?_
  refine ao_r (r_assign rfl) rfl ?_
  refine ao_nil ?_
  refine aq_then ?_
  refine aw_ret ?_
  refine aq_then_ret ?_
  refine aq_ret ?_
  obtain rfl := is_some h
  exact aq_finx (l := [.tmp 2]) (xs := [.bool true]) idn [.bool true] [] rfl (by exact ⟨rfl, trivial⟩) (by exact ⟨ad_ren rfl, trivial⟩) (by exact trivial) rfl (nk rfl) rfl rfl ⟨rfl, rfl⟩
  replace h := is_else (ne_t hb1) h
  refine aw_skip ?_
  refine aq_then ?_
  refine aw_seq ?_
  refine aw_region ?_
  refine ao_r (r_move rfl) rfl ?_
  obtain ⟨r2, r2h, h⟩ := is_bind h
  refine ao_call [] 0 trivial (c_spec_DrawNewTavern (is_mk r2h)) Try.func21 rfl rfl rfl rfl ⟨ad_ren rfl, trivial⟩ trivial rfl rfl rfl rfl rfl rfl rfl (fun r' H' hr => ?_)
  obtain ⟨rfl, rfl⟩ := hr
  refine ao_norm (y := .tup [.os 0, .int .i64 r2.2]) (H' := [(0, .row ty8 r2.1)]) rfl rfl ?_
  refine row_len_o 0 (r2.1.length : Int) rfl rfl (fun hr3 => ?_)
  refine ao_r (r_move rfl) rfl ?_
  refine ao_r (r_extract rfl rfl) rfl ?_
  refine ao_r (r_extract rfl rfl) rfl ?_
  refine ao_r (r_assign rfl) rfl ?_
  refine ao_r (r_assign rfl) rfl ?_
  refine ao_nil ?_
  refine aq_then ?_
  refine aw_seq ?_
  refine aw_region ?_
  refine ao_r (r_move rfl) rfl ?_
  refine ao_r (r_move rfl) rfl ?_
  obtain ⟨r4, r4h, h⟩ := is_bind h
  refine ao_call [] 1 trivial (c_impl_NewTavern (is_mk r4h)) Try.func22 rfl rfl rfl rfl ⟨ad_os0 rfl, ad_ren rfl, trivial⟩ trivial rfl rfl rfl rfl rfl rfl rfl (fun r' H' hr => ?_)
  obtain ⟨rfl, rfl⟩ := hr
  refine ao_norm (y := .tup [.st [.os 1, .int .i64 r4.1.2.1, .os 2, .int .i64 r4.1.2.2.2.1, .int .i64 r4.1.2.2.2.2.1, .int .i64 r4.1.2.2.2.2.2.1], .bool r4.2]) (H' := [(0, .row ty8 r2.1), (1, .row ty8 r4.1.1), (2, .row ty11 r4.1.2.2.1)]) rfl rfl ?_
  refine row_len_o 1 (r4.1.1.length : Int) rfl rfl (fun hr5 => ?_)
  refine row_len_o 2 (r4.1.2.2.1.length : Int) rfl rfl (fun hr6 => ?_)
  refine ao_r (r_move rfl) rfl ?_
  refine ao_r (r_extract rfl rfl) rfl ?_
  refine ao_r (r_extract rfl rfl) rfl ?_
  refine ao_eff trivial (e_alloc 3 (y := .st [.nilsl, .int .i64 0, .nilsl, .int .i64 0, .int .i64 0, .int .i64 0]) Try.zeroValue29 (fun ρ h M => ra_zero_st (t := ty1) rfl rfl rfl) rfl rfl rfl rfl rfl) rfl ?_
  refine ao_effS trivial (e_store rfl rfl rfl rfl Try.sizeOf29 rfl) ?_
  refine ao_r (r_assign rfl) rfl ?_
  refine ao_nil ?_
  refine aq_then ?_
  refine aw_seq ?_
  refine aw_seq ?_
  refine aw_region ?_
  refine ao_r (r_move rfl) rfl ?_
  refine ao_r (r_move rfl) rfl ?_
  obtain ⟨r7, r7h, h⟩ := is_bind h
  refine ao_call [] 4 trivial (c_spec_NewTavern (is_mk r7h)) Try.func23 rfl rfl rfl rfl ⟨ad_os0 rfl, ad_ren rfl, trivial⟩ trivial rfl rfl rfl rfl rfl rfl rfl (fun r' H' hr => ?_)
  obtain ⟨rfl, rfl⟩ := hr
  refine ao_norm (y := .tup [.st [.os 4, .int .i64 r7.1.2.1, .os 5, .int .i64 r7.1.2.2.2.1, .int .i64 r7.1.2.2.2.2.1, .int .i64 r7.1.2.2.2.2.2.1], .bool r7.2]) (H' := [(3, .var [.cell (.os 1), ci r4.1.2.1, .cell (.os 2), ci r4.1.2.2.2.1, ci r4.1.2.2.2.2.1, ci r4.1.2.2.2.2.2.1]), (0, .row ty8 r2.1), (1, .row ty8 r4.1.1), (2, .row ty11 r4.1.2.2.1), (4, .row ty8 r7.1.1), (5, .row ty11 r7.1.2.2.1)]) rfl rfl ?_
  refine row_len_o 4 (r7.1.1.length : Int) rfl rfl (fun hr8 => ?_)
  refine row_len_o 5 (r7.1.2.2.1.length : Int) rfl rfl (fun hr9 => ?_)
  refine ao_r (r_move rfl) rfl ?_
  refine ao_r (r_extract rfl rfl) rfl ?_
  refine ao_r (r_extract rfl rfl) rfl ?_
  refine ao_eff trivial (e_alloc 6 (y := .st [.nilsl, .int .i64 0, .nilsl, .int .i64 0, .int .i64 0, .int .i64 0]) Try.zeroValue29 (fun ρ h M => ra_zero_st (t := ty1) rfl rfl rfl) rfl rfl rfl rfl rfl) rfl ?_
  refine ao_effS trivial (e_store rfl rfl rfl rfl Try.sizeOf29 rfl) ?_
  refine ao_r (r_assign rfl) rfl ?_
  refine ao_nil ?_
  refine aq_then ?_
  refine aw_seq ?_
  refine aw_region ?_
  refine ao_r (r_move rfl) rfl ?_
  refine ao_r (r_move rfl) rfl ?_
  refine ao_r (r_neq_bool Try.underlying4 rfl rfl) rfl ?_
  refine ao_r (r_move rfl) rfl ?_
  refine ao_readG (x := .st [.os 1, .int .i64 r4.1.2.1, .os 2, .int .i64 r4.1.2.2.2.1, .int .i64 r4.1.2.2.2.2.1, .int .i64 r4.1.2.2.2.2.2.1]) rfl (GV.F rfl) (fun hg10 => r_load_st [] [.cell (.os 1), ci r4.1.2.1, .cell (.os 2), ci r4.1.2.2.2.1, ci r4.1.2.2.2.2.1, ci r4.1.2.2.2.2.2.1] [] Try.isAgg29 Try.sizeOf29 rfl rfl rfl rfl rfl rfl rfl) rfl ?_
  refine ao_readG (x := .st [.os 4, .int .i64 r7.1.2.1, .os 5, .int .i64 r7.1.2.2.2.1, .int .i64 r7.1.2.2.2.2.1, .int .i64 r7.1.2.2.2.2.2.1]) rfl (GV.F rfl) (fun hg11 => r_load_st [] [.cell (.os 4), ci r7.1.2.1, .cell (.os 5), ci r7.1.2.2.2.1, ci r7.1.2.2.2.2.1, ci r7.1.2.2.2.2.2.1] [] Try.isAgg29 Try.sizeOf29 rfl rfl rfl rfl rfl rfl rfl) rfl ?_
  refine ao_scallG (r := .bool (p_laws_rTavern (r4.1.1, (r4.1.2.1, (r4.1.2.2.1, (r4.1.2.2.2.1, (r4.1.2.2.2.2.1, (r4.1.2.2.2.2.2.1, ())))))) (r7.1.1, (r7.1.2.1, (r7.1.2.2.1, (r7.1.2.2.2.1, (r7.1.2.2.2.2.1, (r7.1.2.2.2.2.2.1, ())))))))) rfl (GV.F rfl) (fun hg12 => SCall.strip 60 rfl (hg12) (SCall.strip 61 rfl (hg12) (scall (c_laws_rTavern (is_mk (rfl : p_laws_rTavern (r4.1.1, (r4.1.2.1, (r4.1.2.2.1, (r4.1.2.2.2.1, (r4.1.2.2.2.2.1, (r4.1.2.2.2.2.2.1, ())))))) (r7.1.1, (r7.1.2.1, (r7.1.2.2.1, (r7.1.2.2.2.1, (r7.1.2.2.2.2.1, (r7.1.2.2.2.2.2.1, ())))))) = _))) rfl Try.func24 rfl rfl rfl rfl (fun σ => ⟨ad_st rfl rfl ⟨ad_os0 rfl, ad_ren rfl, ad_os0 rfl, ad_ren rfl, ad_ren rfl, ad_ren rfl, trivial⟩, ad_st rfl rfl ⟨ad_os0 rfl, ad_ren rfl, ad_os0 rfl, ad_ren rfl, ad_ren rfl, ad_ren rfl, trivial⟩, trivial⟩)))) rfl ?_
  refine ao_readG (x := .bool (!(p_laws_rTavern (r4.1.1, (r4.1.2.1, (r4.1.2.2.1, (r4.1.2.2.2.1, (r4.1.2.2.2.2.1, (r4.1.2.2.2.2.2.1, ())))))) (r7.1.1, (r7.1.2.1, (r7.1.2.2.1, (r7.1.2.2.2.1, (r7.1.2.2.2.2.1, (r7.1.2.2.2.2.2.1, ()))))))))) rfl (GV.F rfl) (fun hg13 => Reads.strip 62 rfl (hg13) (r_not rfl)) rfl ?_
  refine ao_r (r_orB rfl rfl) rfl ?_
  refine ao_r (r_move rfl) rfl ?_
  refine ao_readG (x := .bool r4.2) rfl (GV.F rfl) (fun hg14 => by
        obtain ⟨q15, q16⟩ := or_f (not_t hg14)
        exact r_move rfl) rfl ?_
  refine ao_readG (x := .st [.os 1, .int .i64 r4.1.2.1, .os 2, .int .i64 r4.1.2.2.2.1, .int .i64 r4.1.2.2.2.2.1, .int .i64 r4.1.2.2.2.2.2.1]) rfl (GV.F rfl) (fun hg17 => by
        obtain ⟨q18, q19⟩ := or_f (not_t hg17)
        exact r_load_st [] [.cell (.os 1), ci r4.1.2.1, .cell (.os 2), ci r4.1.2.2.2.1, ci r4.1.2.2.2.2.1, ci r4.1.2.2.2.2.2.1] [] Try.isAgg29 Try.sizeOf29 rfl rfl rfl rfl rfl rfl rfl) rfl ?_
  obtain ⟨g23, h⟩ := is_guard h
  refine ao_scallG (r := .bool ((p_impl_IsTavern fu (r4.1.1, (r4.1.2.1, (r4.1.2.2.1, (r4.1.2.2.2.1, (r4.1.2.2.2.2.1, (r4.1.2.2.2.2.2.1, ()))))))).getD false)) rfl (GV.F rfl) (fun hg20 => by
        obtain ⟨q21, q22⟩ := or_f (not_t hg20)
        exact SCall.strip 67 rfl (hg20) (scall (c_impl_IsTavern (is_mk (isSome_getD (g23 hg20)))) rfl Try.func25 rfl rfl rfl rfl (fun σ => ⟨ad_st rfl rfl ⟨ad_os0 rfl, ad_ren rfl, ad_os0 rfl, ad_ren rfl, ad_ren rfl, ad_ren rfl, trivial⟩, trivial⟩))) rfl ?_
  refine ao_readG (x := .bool (r4.2 != ((p_impl_IsTavern fu (r4.1.1, (r4.1.2.1, (r4.1.2.2.1, (r4.1.2.2.2.1, (r4.1.2.2.2.2.1, (r4.1.2.2.2.2.2.1, ()))))))).getD false))) rfl (GV.F rfl) (fun hg24 => by
        obtain ⟨q25, q26⟩ := or_f (not_t hg24)
        exact Reads.strip 66 rfl (hg24) (Reads.strip 68 rfl (hg24) (r_neq_bool Try.underlying4 rfl rfl))) rfl ?_
  refine ao_r (r_orB rfl rfl) rfl ?_
  refine ao_nil ?_
  refine aq_then ?_
  refine aw_cond rfl (fun hb27 => ?_) (fun hb27 => ?_)
  replace h := is_if hb27 h
  refine aw_seq ?_
  refine aw_region ?_
  refine ao_r (r_assign rfl) rfl ?_
  refine ao_nil ?_
  refine aq_then ?_
  refine aw_ret ?_
  refine aq_then_ret ?_
  refine aq_ret ?_
  obtain rfl := is_some h
  exact aq_finx (l := [.tmp 2]) (xs := [.bool false]) idn [.bool false] [] rfl (by exact ⟨rfl, trivial⟩) (by exact ⟨ad_ren rfl, trivial⟩) (by exact trivial) rfl (nk rfl) rfl rfl ⟨rfl, rfl⟩
  obtain ⟨q28, q29⟩ := or_f hb27
  obtain ⟨q30, q31⟩ := or_f q28
  replace h := is_else (ne_t hb27) h
  refine aw_skip ?_
  refine aq_then ?_
  refine aw_seq ?_
  refine aw_region ?_
  refine ao_r (r_move rfl) rfl ?_
  obtain ⟨r32, r32h, h⟩ := is_bind h
  refine ao_callV [] 7 trivial (c_laws_rCut (is_mk r32h)) Try.func27 rfl rfl rfl rfl rfl trivial trivial rfl rfl rfl rfl rfl rfl rfl (fun r' H' hr => ?_)
  obtain ⟨rfl, rfl⟩ := hr
  refine ao_norm (y := .v ty9 r32) (H' := [(6, .var [.cell (.os 4), ci r7.1.2.1, .cell (.os 5), ci r7.1.2.2.2.1, ci r7.1.2.2.2.2.1, ci r7.1.2.2.2.2.2.1]), (3, .var [.cell (.os 1), ci r4.1.2.1, .cell (.os 2), ci r4.1.2.2.2.1, ci r4.1.2.2.2.2.1, ci r4.1.2.2.2.2.2.1]), (0, .row ty8 r2.1), (1, .row ty8 r4.1.1), (2, .row ty11 r4.1.2.2.1), (4, .row ty8 r7.1.1), (5, .row ty11 r7.1.2.2.1)]) rfl rfl ?_
  obtain ⟨r33, r33h, h⟩ := is_bind h
  refine ao_callV [] 7 trivial (c_spec_DrawDoTask (is_mk r33h)) Try.func26 rfl rfl rfl rfl rfl trivial trivial rfl rfl rfl rfl rfl rfl rfl (fun r' H' hr => ?_)
  obtain ⟨rfl, rfl⟩ := hr
  refine ao_norm (y := .tup [.v ty1 r33.1, .v ty4 r33.2]) (H' := [(6, .var [.cell (.os 4), ci r7.1.2.1, .cell (.os 5), ci r7.1.2.2.2.1, ci r7.1.2.2.2.2.1, ci r7.1.2.2.2.2.2.1]), (3, .var [.cell (.os 1), ci r4.1.2.1, .cell (.os 2), ci r4.1.2.2.2.1, ci r4.1.2.2.2.2.1, ci r4.1.2.2.2.2.2.1]), (0, .row ty8 r2.1), (1, .row ty8 r4.1.1), (2, .row ty11 r4.1.2.2.1), (4, .row ty8 r7.1.1), (5, .row ty11 r7.1.2.2.1)]) rfl rfl ?_
  refine ao_r (r_move rfl) rfl ?_
  refine ao_r (r_extract rfl rfl) rfl ?_
  refine ao_r (r_extract rfl rfl) rfl ?_
  refine ao_eff trivial (e_alloc 7 (y := .st [.nilsl, .int .i64 0, .nilsl, .int .i64 0, .int .i64 0, .int .i64 0]) Try.zeroValue29 (fun ρ h M => ra_zero_st (t := ty1) rfl rfl rfl) rfl rfl rfl rfl rfl) rfl ?_
  refine ao_eff trivial (e_alloc 8 (y := .st [.int .i64 0, .int .i64 0, .int .i64 0]) Try.zeroValue33 (fun ρ h M => ra_zero_st (t := ty4) rfl rfl rfl) rfl rfl rfl rfl rfl) rfl ?_
  refine ao_effS trivial (e_store rfl rfl rfl rfl Try.sizeOf29 rfl) ?_
  refine ao_effS trivial (e_store rfl rfl rfl rfl Try.sizeOf33 rfl) ?_
  refine ao_nil ?_
  refine aq_then ?_
  refine aw_seq ?_
  refine aw_region ?_
  refine ao_r (r_load_part (τ := ty1) (y := ((r33.1.1, (r33.1.2.1, (r33.1.2.2.1, (r33.1.2.2.2.1, (r33.1.2.2.2.2.1, (r33.1.2.2.2.2.2.1, ())))))) : dy3)) [] [] rfl Try.isAgg29 Try.sizeOf29 rfl rfl rfl rfl) rfl ?_
  refine ao_r (r_load_part (τ := ty4) (y := ((r33.2.1, (r33.2.2.1, (r33.2.2.2.1, ()))) : dy6)) [] [] rfl Try.isAgg33 Try.sizeOf33 rfl rfl rfl rfl) rfl ?_
  obtain ⟨r34, r34h, h⟩ := is_bind h
  refine ao_call [] 9 trivial (c_impl_DoTask (is_mk r34h)) Try.func10 rfl rfl rfl rfl ⟨ad_ren rfl, ad_ren rfl, trivial⟩ trivial rfl rfl rfl rfl rfl rfl rfl (fun r' H' hr => ?_)
  obtain ⟨rfl, rfl⟩ := hr
  refine ao_norm (y := .tup [.st [.os 9, .int .i64 r34.1.2.1, .os 10, .int .i64 r34.1.2.2.2.1, .int .i64 r34.1.2.2.2.2.1, .int .i64 r34.1.2.2.2.2.2.1], .bool r34.2]) (H' := [(8, .var [ci r33.2.1, ci r33.2.2.1, ci r33.2.2.2.1]), (7, .var [.cell (.v ty5 r33.1.1), ci r33.1.2.1, .cell (.v ty7 r33.1.2.2.1), ci r33.1.2.2.2.1, ci r33.1.2.2.2.2.1, ci r33.1.2.2.2.2.2.1]), (6, .var [.cell (.os 4), ci r7.1.2.1, .cell (.os 5), ci r7.1.2.2.2.1, ci r7.1.2.2.2.2.1, ci r7.1.2.2.2.2.2.1]), (3, .var [.cell (.os 1), ci r4.1.2.1, .cell (.os 2), ci r4.1.2.2.2.1, ci r4.1.2.2.2.2.1, ci r4.1.2.2.2.2.2.1]), (0, .row ty8 r2.1), (1, .row ty8 r4.1.1), (2, .row ty11 r4.1.2.2.1), (4, .row ty8 r7.1.1), (5, .row ty11 r7.1.2.2.1), (9, .row ty8 r34.1.1), (10, .row ty11 r34.1.2.2.1)]) rfl rfl ?_
  refine row_len_o 9 (r34.1.1.length : Int) rfl rfl (fun hr35 => ?_)
  refine row_len_o 10 (r34.1.2.2.1.length : Int) rfl rfl (fun hr36 => ?_)
  refine ao_r (r_move rfl) rfl ?_
  refine ao_r (r_extract rfl rfl) rfl ?_
  refine ao_r (r_extract rfl rfl) rfl ?_
  refine ao_eff trivial (e_alloc 11 (y := .st [.nilsl, .int .i64 0, .nilsl, .int .i64 0, .int .i64 0, .int .i64 0]) Try.zeroValue29 (fun ρ h M => ra_zero_st (t := ty1) rfl rfl rfl) rfl rfl rfl rfl rfl) rfl ?_
  refine ao_effS trivial (e_store rfl rfl rfl rfl Try.sizeOf29 rfl) ?_
  refine ao_r (r_assign rfl) rfl ?_
  refine ao_nil ?_
  refine aq_then ?_
  refine aw_seq ?_
  refine aw_seq ?_
  refine aw_region ?_
  refine ao_r (r_load_part (τ := ty1) (y := ((r33.1.1, (r33.1.2.1, (r33.1.2.2.1, (r33.1.2.2.2.1, (r33.1.2.2.2.2.1, (r33.1.2.2.2.2.2.1, ())))))) : dy3)) [] [] rfl Try.isAgg29 Try.sizeOf29 rfl rfl rfl rfl) rfl ?_
  refine ao_r (r_load_part (τ := ty4) (y := ((r33.2.1, (r33.2.2.1, (r33.2.2.2.1, ()))) : dy6)) [] [] rfl Try.isAgg33 Try.sizeOf33 rfl rfl rfl rfl) rfl ?_
  obtain ⟨r37, r37h, h⟩ := is_bind h
  refine ao_call [] 12 trivial (c_spec_DoTask (is_mk r37h)) Try.func7 rfl rfl rfl rfl ⟨ad_ren rfl, ad_ren rfl, trivial⟩ trivial rfl rfl rfl rfl rfl rfl rfl (fun r' H' hr => ?_)
  obtain ⟨rfl, rfl⟩ := hr
  refine ao_norm (y := .tup [.st [.os 12, .int .i64 r37.1.2.1, .os 13, .int .i64 r37.1.2.2.2.1, .int .i64 r37.1.2.2.2.2.1, .int .i64 r37.1.2.2.2.2.2.1], .bool r37.2]) (H' := [(11, .var [.cell (.os 9), ci r34.1.2.1, .cell (.os 10), ci r34.1.2.2.2.1, ci r34.1.2.2.2.2.1, ci r34.1.2.2.2.2.2.1]), (8, .var [ci r33.2.1, ci r33.2.2.1, ci r33.2.2.2.1]), (7, .var [.cell (.v ty5 r33.1.1), ci r33.1.2.1, .cell (.v ty7 r33.1.2.2.1), ci r33.1.2.2.2.1, ci r33.1.2.2.2.2.1, ci r33.1.2.2.2.2.2.1]), (6, .var [.cell (.os 4), ci r7.1.2.1, .cell (.os 5), ci r7.1.2.2.2.1, ci r7.1.2.2.2.2.1, ci r7.1.2.2.2.2.2.1]), (3, .var [.cell (.os 1), ci r4.1.2.1, .cell (.os 2), ci r4.1.2.2.2.1, ci r4.1.2.2.2.2.1, ci r4.1.2.2.2.2.2.1]), (0, .row ty8 r2.1), (1, .row ty8 r4.1.1), (2, .row ty11 r4.1.2.2.1), (4, .row ty8 r7.1.1), (5, .row ty11 r7.1.2.2.1), (9, .row ty8 r34.1.1), (10, .row ty11 r34.1.2.2.1), (12, .row ty8 r37.1.1), (13, .row ty11 r37.1.2.2.1)]) rfl rfl ?_
  refine row_len_o 12 (r37.1.1.length : Int) rfl rfl (fun hr38 => ?_)
  refine row_len_o 13 (r37.1.2.2.1.length : Int) rfl rfl (fun hr39 => ?_)
  refine ao_r (r_move rfl) rfl ?_
  refine ao_r (r_extract rfl rfl) rfl ?_
  refine ao_r (r_extract rfl rfl) rfl ?_
  refine ao_eff trivial (e_alloc 14 (y := .st [.nilsl, .int .i64 0, .nilsl, .int .i64 0, .int .i64 0, .int .i64 0]) Try.zeroValue29 (fun ρ h M => ra_zero_st (t := ty1) rfl rfl rfl) rfl rfl rfl rfl rfl) rfl ?_
  refine ao_effS trivial (e_store rfl rfl rfl rfl Try.sizeOf29 rfl) ?_
  refine ao_r (r_assign rfl) rfl ?_
  refine ao_nil ?_
  refine aq_then ?_
  refine aw_seq ?_
  obtain ⟨g50, h⟩ := is_guard h
  obtain ⟨g57, h⟩ := is_guard h
  refine aw_drawAll (by kernel_rfl) ?_
  refine an_r 0 (fun _ _ _ h => h) rfl (by kernel_rfl) (r_move rfl) rfl ?_
  refine an_r 1 (fun _ _ _ h => h) rfl (by kernel_rfl) (r_move rfl) rfl ?_
  refine an_r 2 (fun _ _ _ h => h) rfl (by kernel_rfl) (r_neq_bool Try.underlying4 rfl rfl) rfl ?_
  refine an_r 3 (fun _ _ _ h => h) rfl (by kernel_rfl) (r_move rfl) rfl ?_
  refine an_readG 4 (x := .st [.os 9, .int .i64 r34.1.2.1, .os 10, .int .i64 r34.1.2.2.2.1, .int .i64 r34.1.2.2.2.2.1, .int .i64 r34.1.2.2.2.2.2.1]) (by kernel_rfl) (fun _ _ _ h => h) rfl (by kernel_rfl) rfl (GV.F rfl) (fun hg40 => r_load_st [] [.cell (.os 9), ci r34.1.2.1, .cell (.os 10), ci r34.1.2.2.2.1, ci r34.1.2.2.2.2.1, ci r34.1.2.2.2.2.2.1] [] Try.isAgg29 Try.sizeOf29 rfl rfl rfl rfl rfl rfl rfl) rfl ?_
  refine an_readG 5 (x := .st [.os 12, .int .i64 r37.1.2.1, .os 13, .int .i64 r37.1.2.2.2.1, .int .i64 r37.1.2.2.2.2.1, .int .i64 r37.1.2.2.2.2.2.1]) (by kernel_rfl) (fun _ _ _ h => h) rfl (by kernel_rfl) rfl (GV.F rfl) (fun hg41 => r_load_st [] [.cell (.os 12), ci r37.1.2.1, .cell (.os 13), ci r37.1.2.2.2.1, ci r37.1.2.2.2.2.1, ci r37.1.2.2.2.2.2.1] [] Try.isAgg29 Try.sizeOf29 rfl rfl rfl rfl rfl rfl rfl) rfl ?_
  refine an_scallG 6 (x := .bool (p_laws_rTavern (r34.1.1, (r34.1.2.1, (r34.1.2.2.1, (r34.1.2.2.2.1, (r34.1.2.2.2.2.1, (r34.1.2.2.2.2.2.1, ())))))) (r37.1.1, (r37.1.2.1, (r37.1.2.2.1, (r37.1.2.2.2.1, (r37.1.2.2.2.2.1, (r37.1.2.2.2.2.2.1, ())))))))) (by kernel_rfl) (fun _ _ _ h => h) rfl (by kernel_rfl) rfl (GV.F rfl) (fun hg42 => SCall.strip 93 rfl (hg42) (SCall.strip 94 rfl (hg42) (scall (c_laws_rTavern (is_mk (rfl : p_laws_rTavern (r34.1.1, (r34.1.2.1, (r34.1.2.2.1, (r34.1.2.2.2.1, (r34.1.2.2.2.2.1, (r34.1.2.2.2.2.2.1, ())))))) (r37.1.1, (r37.1.2.1, (r37.1.2.2.1, (r37.1.2.2.2.1, (r37.1.2.2.2.2.1, (r37.1.2.2.2.2.2.1, ())))))) = _))) rfl Try.func24 rfl rfl rfl rfl (fun σ => ⟨ad_st rfl rfl ⟨ad_os0 rfl, ad_ren rfl, ad_os0 rfl, ad_ren rfl, ad_ren rfl, ad_ren rfl, trivial⟩, ad_st rfl rfl ⟨ad_os0 rfl, ad_ren rfl, ad_os0 rfl, ad_ren rfl, ad_ren rfl, ad_ren rfl, trivial⟩, trivial⟩)))) rfl ?_
  refine an_readG 7 (x := .bool (!(p_laws_rTavern (r34.1.1, (r34.1.2.1, (r34.1.2.2.1, (r34.1.2.2.2.1, (r34.1.2.2.2.2.1, (r34.1.2.2.2.2.2.1, ())))))) (r37.1.1, (r37.1.2.1, (r37.1.2.2.1, (r37.1.2.2.2.1, (r37.1.2.2.2.2.1, (r37.1.2.2.2.2.2.1, ()))))))))) (by kernel_rfl) (fun _ _ _ h => h) rfl (by kernel_rfl) rfl (GV.F rfl) (fun hg43 => Reads.strip 95 rfl (hg43) (r_not rfl)) rfl ?_
  refine an_r 8 (fun _ _ _ h => h) rfl (by kernel_rfl) (r_orB rfl rfl) rfl ?_
  refine an_r 9 (fun _ _ _ h => h) rfl (by kernel_rfl) (r_move rfl) rfl ?_
  refine an_readG 10 (x := .v ty1 ((r33.1.1, (r33.1.2.1, (r33.1.2.2.1, (r33.1.2.2.2.1, (r33.1.2.2.2.2.1, (r33.1.2.2.2.2.2.1, ())))))) : dy3)) (by kernel_rfl) (fun _ _ _ h => h) rfl (by kernel_rfl) rfl (GV.F rfl) (fun hg44 => by
        obtain ⟨q45, q46⟩ := or_f (not_t hg44)
        exact r_load_part (τ := ty1) (y := ((r33.1.1, (r33.1.2.1, (r33.1.2.2.1, (r33.1.2.2.2.1, (r33.1.2.2.2.2.1, (r33.1.2.2.2.2.2.1, ())))))) : dy3)) [] [] rfl Try.isAgg29 Try.sizeOf29 rfl rfl rfl rfl) rfl ?_
  refine an_scallG 11 (x := .bool ((p_impl_IsTavern fu (r33.1.1, (r33.1.2.1, (r33.1.2.2.1, (r33.1.2.2.2.1, (r33.1.2.2.2.2.1, (r33.1.2.2.2.2.2.1, ()))))))).getD false)) (by kernel_rfl) (fun _ _ _ h => h) rfl (by kernel_rfl) rfl (GV.F rfl) (fun hg47 => by
        obtain ⟨q48, q49⟩ := or_f (not_t hg47)
        exact SCall.strip 99 rfl (hg47) (scall (c_impl_IsTavern (is_mk (isSome_getD (g50 hg47)))) rfl Try.func25 rfl rfl rfl rfl (fun σ => ⟨ad_ren rfl, trivial⟩))) rfl ?_
  refine an_readG 12 (x := .v ty1 ((r33.1.1, (r33.1.2.1, (r33.1.2.2.1, (r33.1.2.2.2.1, (r33.1.2.2.2.2.1, (r33.1.2.2.2.2.2.1, ())))))) : dy3)) (by kernel_rfl) (fun _ _ _ h => h) rfl (by kernel_rfl) rfl (GV.F rfl) (fun hg51 => by
        obtain ⟨q52, q53⟩ := or_f (not_t hg51)
        exact r_load_part (τ := ty1) (y := ((r33.1.1, (r33.1.2.1, (r33.1.2.2.1, (r33.1.2.2.2.1, (r33.1.2.2.2.2.1, (r33.1.2.2.2.2.2.1, ())))))) : dy3)) [] [] rfl Try.isAgg29 Try.sizeOf29 rfl rfl rfl rfl) rfl ?_
  refine an_scallG 13 (x := .bool ((p_spec_IsTavern (r33.1.1, (r33.1.2.1, (r33.1.2.2.1, (r33.1.2.2.2.1, (r33.1.2.2.2.2.1, (r33.1.2.2.2.2.2.1, ()))))))).getD false)) (by kernel_rfl) (fun _ _ _ h => h) rfl (by kernel_rfl) rfl (GV.F rfl) (fun hg54 => by
        obtain ⟨q55, q56⟩ := or_f (not_t hg54)
        exact SCall.strip 101 rfl (hg54) (scall (c_spec_IsTavern (is_mk (isSome_getD (g57 hg54)))) rfl Try.func28 rfl rfl rfl rfl (fun σ => ⟨ad_ren rfl, trivial⟩))) rfl ?_
  refine an_readG 14 (x := .bool (((p_impl_IsTavern fu (r33.1.1, (r33.1.2.1, (r33.1.2.2.1, (r33.1.2.2.2.1, (r33.1.2.2.2.2.1, (r33.1.2.2.2.2.2.1, ()))))))).getD false) != ((p_spec_IsTavern (r33.1.1, (r33.1.2.1, (r33.1.2.2.1, (r33.1.2.2.2.1, (r33.1.2.2.2.2.1, (r33.1.2.2.2.2.2.1, ()))))))).getD false))) (by kernel_rfl) (fun _ _ _ h => h) rfl (by kernel_rfl) rfl (GV.F rfl) (fun hg58 => by
        obtain ⟨q59, q60⟩ := or_f (not_t hg58)
        exact Reads.strip 100 rfl (hg58) (Reads.strip 102 rfl (hg58) (r_neq_bool Try.underlying4 rfl rfl))) rfl ?_
  refine an_r 15 (fun _ _ _ h => h) rfl (by kernel_rfl) (r_orB rfl rfl) rfl ?_
  refine an_done rfl ?_
  refine aq_then ?_
  refine aw_cond rfl (fun hb61 => ?_) (fun hb61 => ?_)
  replace h := is_if hb61 h
  refine aw_seq ?_
  refine aw_region ?_
  refine ao_r (r_assign rfl) rfl ?_
  refine ao_nil ?_
  refine aq_then ?_
  refine aw_ret ?_
  refine aq_then_ret ?_
  refine aq_ret ?_
  obtain rfl := is_some h
  exact aq_finx (l := [.tmp 2]) (xs := [.bool false]) idn [.bool false] [] rfl (by exact ⟨rfl, trivial⟩) (by exact ⟨ad_ren rfl, trivial⟩) (by exact trivial) rfl (nk rfl) rfl rfl ⟨rfl, rfl⟩
  obtain ⟨q62, q63⟩ := or_f hb61
  obtain ⟨q64, q65⟩ := or_f q62
  replace h := is_else (ne_t hb61) h
  refine aw_skip ?_
  refine aq_then ?_
  refine aw_seq ?_
  refine aw_region ?_
  refine ao_r (r_move rfl) rfl ?_
  obtain ⟨r66, r66h, h⟩ := is_bind h
  refine ao_callV [] 15 trivial (c_laws_rCut (is_mk r66h)) Try.func27 rfl rfl rfl rfl rfl trivial trivial rfl rfl rfl rfl rfl rfl rfl (fun r' H' hr => ?_)
  obtain ⟨rfl, rfl⟩ := hr
  refine ao_norm (y := .v ty9 r66) (H' := [(14, .var [.cell (.os 12), ci r37.1.2.1, .cell (.os 13), ci r37.1.2.2.2.1, ci r37.1.2.2.2.2.1, ci r37.1.2.2.2.2.2.1]), (11, .var [.cell (.os 9), ci r34.1.2.1, .cell (.os 10), ci r34.1.2.2.2.1, ci r34.1.2.2.2.2.1, ci r34.1.2.2.2.2.2.1]), (8, .var [ci r33.2.1, ci r33.2.2.1, ci r33.2.2.2.1]), (7, .var [.cell (.v ty5 r33.1.1), ci r33.1.2.1, .cell (.v ty7 r33.1.2.2.1), ci r33.1.2.2.2.1, ci r33.1.2.2.2.2.1, ci r33.1.2.2.2.2.2.1]), (6, .var [.cell (.os 4), ci r7.1.2.1, .cell (.os 5), ci r7.1.2.2.2.1, ci r7.1.2.2.2.2.1, ci r7.1.2.2.2.2.2.1]), (3, .var [.cell (.os 1), ci r4.1.2.1, .cell (.os 2), ci r4.1.2.2.2.1, ci r4.1.2.2.2.2.1, ci r4.1.2.2.2.2.2.1]), (0, .row ty8 r2.1), (1, .row ty8 r4.1.1), (2, .row ty11 r4.1.2.2.1), (4, .row ty8 r7.1.1), (5, .row ty11 r7.1.2.2.1), (9, .row ty8 r34.1.1), (10, .row ty11 r34.1.2.2.1), (12, .row ty8 r37.1.1), (13, .row ty11 r37.1.2.2.1)]) rfl rfl ?_
  obtain ⟨r67, r67h, h⟩ := is_bind h
  refine ao_callV [] 15 trivial (c_spec_DrawDoTasks (is_mk r67h)) Try.func29 rfl rfl rfl rfl rfl trivial trivial rfl rfl rfl rfl rfl rfl rfl (fun r' H' hr => ?_)
  obtain ⟨rfl, rfl⟩ := hr
  refine ao_norm (y := .tup [.v ty1 r67.1, .os 15]) (H' := [(14, .var [.cell (.os 12), ci r37.1.2.1, .cell (.os 13), ci r37.1.2.2.2.1, ci r37.1.2.2.2.2.1, ci r37.1.2.2.2.2.2.1]), (11, .var [.cell (.os 9), ci r34.1.2.1, .cell (.os 10), ci r34.1.2.2.2.1, ci r34.1.2.2.2.2.1, ci r34.1.2.2.2.2.2.1]), (8, .var [ci r33.2.1, ci r33.2.2.1, ci r33.2.2.2.1]), (7, .var [.cell (.v ty5 r33.1.1), ci r33.1.2.1, .cell (.v ty7 r33.1.2.2.1), ci r33.1.2.2.2.1, ci r33.1.2.2.2.2.1, ci r33.1.2.2.2.2.2.1]), (6, .var [.cell (.os 4), ci r7.1.2.1, .cell (.os 5), ci r7.1.2.2.2.1, ci r7.1.2.2.2.2.1, ci r7.1.2.2.2.2.2.1]), (3, .var [.cell (.os 1), ci r4.1.2.1, .cell (.os 2), ci r4.1.2.2.2.1, ci r4.1.2.2.2.2.1, ci r4.1.2.2.2.2.2.1]), (0, .row ty8 r2.1), (1, .row ty8 r4.1.1), (2, .row ty11 r4.1.2.2.1), (4, .row ty8 r7.1.1), (5, .row ty11 r7.1.2.2.1), (9, .row ty8 r34.1.1), (10, .row ty11 r34.1.2.2.1), (12, .row ty8 r37.1.1), (13, .row ty11 r37.1.2.2.1), (15, .row ty4 r67.2)]) rfl rfl ?_
  refine row_len_o 15 (r67.2.length : Int) rfl rfl (fun hr68 => ?_)
  refine ao_r (r_move rfl) rfl ?_
  refine ao_r (r_extract rfl rfl) rfl ?_
  refine ao_r (r_extract rfl rfl) rfl ?_
  refine ao_eff trivial (e_alloc 16 (y := .st [.nilsl, .int .i64 0, .nilsl, .int .i64 0, .int .i64 0, .int .i64 0]) Try.zeroValue29 (fun ρ h M => ra_zero_st (t := ty1) rfl rfl rfl) rfl rfl rfl rfl rfl) rfl ?_
  refine ao_effS trivial (e_store rfl rfl rfl rfl Try.sizeOf29 rfl) ?_
  refine ao_r (r_assign rfl) rfl ?_
  refine ao_nil ?_
  refine aq_then ?_
  refine aw_seq ?_
  refine aw_region ?_
  refine ao_r (r_load_part (τ := ty1) (y := ((r67.1.1, (r67.1.2.1, (r67.1.2.2.1, (r67.1.2.2.2.1, (r67.1.2.2.2.2.1, (r67.1.2.2.2.2.2.1, ())))))) : dy3)) [] [] rfl Try.isAgg29 Try.sizeOf29 rfl rfl rfl rfl) rfl ?_
  refine ao_r (r_move rfl) rfl ?_
  obtain ⟨r69, r69h, h⟩ := is_bind h
  refine ao_call [] 17 trivial (c_impl_DoTasks (is_mk r69h)) Try.func17 rfl rfl rfl rfl ⟨ad_ren rfl, ad_os0 rfl, trivial⟩ trivial rfl rfl rfl rfl rfl rfl rfl (fun r' H' hr => ?_)
  obtain ⟨rfl, rfl⟩ := hr
  refine ao_norm (y := .tup [.st [.os 17, .int .i64 r69.1.2.1, .os 18, .int .i64 r69.1.2.2.2.1, .int .i64 r69.1.2.2.2.2.1, .int .i64 r69.1.2.2.2.2.2.1], .int .i64 r69.2.1, .bool r69.2.2]) (H' := [(16, .var [.cell (.v ty5 r67.1.1), ci r67.1.2.1, .cell (.v ty7 r67.1.2.2.1), ci r67.1.2.2.2.1, ci r67.1.2.2.2.2.1, ci r67.1.2.2.2.2.2.1]), (14, .var [.cell (.os 12), ci r37.1.2.1, .cell (.os 13), ci r37.1.2.2.2.1, ci r37.1.2.2.2.2.1, ci r37.1.2.2.2.2.2.1]), (11, .var [.cell (.os 9), ci r34.1.2.1, .cell (.os 10), ci r34.1.2.2.2.1, ci r34.1.2.2.2.2.1, ci r34.1.2.2.2.2.2.1]), (8, .var [ci r33.2.1, ci r33.2.2.1, ci r33.2.2.2.1]), (7, .var [.cell (.v ty5 r33.1.1), ci r33.1.2.1, .cell (.v ty7 r33.1.2.2.1), ci r33.1.2.2.2.1, ci r33.1.2.2.2.2.1, ci r33.1.2.2.2.2.2.1]), (6, .var [.cell (.os 4), ci r7.1.2.1, .cell (.os 5), ci r7.1.2.2.2.1, ci r7.1.2.2.2.2.1, ci r7.1.2.2.2.2.2.1]), (3, .var [.cell (.os 1), ci r4.1.2.1, .cell (.os 2), ci r4.1.2.2.2.1, ci r4.1.2.2.2.2.1, ci r4.1.2.2.2.2.2.1]), (0, .row ty8 r2.1), (1, .row ty8 r4.1.1), (2, .row ty11 r4.1.2.2.1), (4, .row ty8 r7.1.1), (5, .row ty11 r7.1.2.2.1), (9, .row ty8 r34.1.1), (10, .row ty11 r34.1.2.2.1), (12, .row ty8 r37.1.1), (13, .row ty11 r37.1.2.2.1), (15, .row ty4 r67.2), (17, .row ty8 r69.1.1), (18, .row ty11 r69.1.2.2.1)]) rfl rfl ?_
  refine row_len_o 17 (r69.1.1.length : Int) rfl rfl (fun hr70 => ?_)
  refine row_len_o 18 (r69.1.2.2.1.length : Int) rfl rfl (fun hr71 => ?_)
  refine ao_r (r_move rfl) rfl ?_
  refine ao_r (r_extract rfl rfl) rfl ?_
  refine ao_r (r_extract rfl rfl) rfl ?_
  refine ao_r (r_extract rfl rfl) rfl ?_
  refine ao_eff trivial (e_alloc 19 (y := .st [.nilsl, .int .i64 0, .nilsl, .int .i64 0, .int .i64 0, .int .i64 0]) Try.zeroValue29 (fun ρ h M => ra_zero_st (t := ty1) rfl rfl rfl) rfl rfl rfl rfl rfl) rfl ?_
  refine ao_effS trivial (e_store rfl rfl rfl rfl Try.sizeOf29 rfl) ?_
  refine ao_r (r_assign rfl) rfl ?_
  refine ao_r (r_assign rfl) rfl ?_
  refine ao_nil ?_
  refine aq_then ?_
  refine aw_seq ?_
  refine aw_seq ?_
  refine aw_region ?_
  refine ao_r (r_load_part (τ := ty1) (y := ((r67.1.1, (r67.1.2.1, (r67.1.2.2.1, (r67.1.2.2.2.1, (r67.1.2.2.2.2.1, (r67.1.2.2.2.2.2.1, ())))))) : dy3)) [] [] rfl Try.isAgg29 Try.sizeOf29 rfl rfl rfl rfl) rfl ?_
  refine ao_r (r_move rfl) rfl ?_
  obtain ⟨r72, r72h, h⟩ := is_bind h
  refine ao_call [] 20 trivial (c_spec_DoTasks (is_mk r72h)) Try.func15 rfl rfl rfl rfl ⟨ad_ren rfl, ad_os0 rfl, trivial⟩ trivial rfl rfl rfl rfl rfl rfl rfl (fun r' H' hr => ?_)
  obtain ⟨rfl, rfl⟩ := hr
  refine ao_norm (y := .tup [.st [.os 20, .int .i64 r72.1.2.1, .os 21, .int .i64 r72.1.2.2.2.1, .int .i64 r72.1.2.2.2.2.1, .int .i64 r72.1.2.2.2.2.2.1], .int .i64 r72.2.1, .bool r72.2.2]) (H' := [(19, .var [.cell (.os 17), ci r69.1.2.1, .cell (.os 18), ci r69.1.2.2.2.1, ci r69.1.2.2.2.2.1, ci r69.1.2.2.2.2.2.1]), (16, .var [.cell (.v ty5 r67.1.1), ci r67.1.2.1, .cell (.v ty7 r67.1.2.2.1), ci r67.1.2.2.2.1, ci r67.1.2.2.2.2.1, ci r67.1.2.2.2.2.2.1]), (14, .var [.cell (.os 12), ci r37.1.2.1, .cell (.os 13), ci r37.1.2.2.2.1, ci r37.1.2.2.2.2.1, ci r37.1.2.2.2.2.2.1]), (11, .var [.cell (.os 9), ci r34.1.2.1, .cell (.os 10), ci r34.1.2.2.2.1, ci r34.1.2.2.2.2.1, ci r34.1.2.2.2.2.2.1]), (8, .var [ci r33.2.1, ci r33.2.2.1, ci r33.2.2.2.1]), (7, .var [.cell (.v ty5 r33.1.1), ci r33.1.2.1, .cell (.v ty7 r33.1.2.2.1), ci r33.1.2.2.2.1, ci r33.1.2.2.2.2.1, ci r33.1.2.2.2.2.2.1]), (6, .var [.cell (.os 4), ci r7.1.2.1, .cell (.os 5), ci r7.1.2.2.2.1, ci r7.1.2.2.2.2.1, ci r7.1.2.2.2.2.2.1]), (3, .var [.cell (.os 1), ci r4.1.2.1, .cell (.os 2), ci r4.1.2.2.2.1, ci r4.1.2.2.2.2.1, ci r4.1.2.2.2.2.2.1]), (0, .row ty8 r2.1), (1, .row ty8 r4.1.1), (2, .row ty11 r4.1.2.2.1), (4, .row ty8 r7.1.1), (5, .row ty11 r7.1.2.2.1), (9, .row ty8 r34.1.1), (10, .row ty11 r34.1.2.2.1), (12, .row ty8 r37.1.1), (13, .row ty11 r37.1.2.2.1), (15, .row ty4 r67.2), (17, .row ty8 r69.1.1), (18, .row ty11 r69.1.2.2.1), (20, .row ty8 r72.1.1), (21, .row ty11 r72.1.2.2.1)]) rfl rfl ?_
  refine row_len_o 20 (r72.1.1.length : Int) rfl rfl (fun hr73 => ?_)
  refine row_len_o 21 (r72.1.2.2.1.length : Int) rfl rfl (fun hr74 => ?_)
  refine ao_r (r_move rfl) rfl ?_
  refine ao_r (r_extract rfl rfl) rfl ?_
  refine ao_r (r_extract rfl rfl) rfl ?_
  refine ao_r (r_extract rfl rfl) rfl ?_
  refine ao_eff trivial (e_alloc 22 (y := .st [.nilsl, .int .i64 0, .nilsl, .int .i64 0, .int .i64 0, .int .i64 0]) Try.zeroValue29 (fun ρ h M => ra_zero_st (t := ty1) rfl rfl rfl) rfl rfl rfl rfl rfl) rfl ?_
  refine ao_effS trivial (e_store rfl rfl rfl rfl Try.sizeOf29 rfl) ?_
  refine ao_r (r_assign rfl) rfl ?_
  refine ao_r (r_assign rfl) rfl ?_
  refine ao_nil ?_
  refine aq_then ?_
  refine aw_seq ?_
  refine aw_region ?_
  refine ao_r (r_move rfl) rfl ?_
  refine ao_r (r_move rfl) rfl ?_
  refine ao_r (r_neq rfl rfl) rfl ?_
  refine ao_r (r_move rfl) rfl ?_
  refine ao_readG (x := .bool r69.2.2) rfl (GV.F rfl) (fun hg75 => by
        have q76 := d_t (not_f (not_t hg75))
        exact r_move rfl) rfl ?_
  refine ao_readG (x := .bool r72.2.2) rfl (GV.F rfl) (fun hg77 => by
        have q78 := d_t (not_f (not_t hg77))
        exact r_move rfl) rfl ?_
  refine ao_readG (x := .bool (r69.2.2 != r72.2.2)) rfl (GV.F rfl) (fun hg79 => by
        have q80 := d_t (not_f (not_t hg79))
        exact Reads.strip 129 rfl (hg79) (Reads.strip 130 rfl (hg79) (r_neq_bool Try.underlying4 rfl rfl))) rfl ?_
  refine ao_r (r_orB rfl rfl) rfl ?_
  refine ao_r (r_move rfl) rfl ?_
  refine ao_readG (x := .st [.os 17, .int .i64 r69.1.2.1, .os 18, .int .i64 r69.1.2.2.2.1, .int .i64 r69.1.2.2.2.2.1, .int .i64 r69.1.2.2.2.2.2.1]) rfl (GV.F rfl) (fun hg81 => by
        obtain ⟨q82, q83⟩ := or_f (not_t hg81)
        have q84 := d_t (not_f q82)
        exact r_load_st [] [.cell (.os 17), ci r69.1.2.1, .cell (.os 18), ci r69.1.2.2.2.1, ci r69.1.2.2.2.2.1, ci r69.1.2.2.2.2.2.1] [] Try.isAgg29 Try.sizeOf29 rfl rfl rfl rfl rfl rfl rfl) rfl ?_
  refine ao_readG (x := .st [.os 20, .int .i64 r72.1.2.1, .os 21, .int .i64 r72.1.2.2.2.1, .int .i64 r72.1.2.2.2.2.1, .int .i64 r72.1.2.2.2.2.2.1]) rfl (GV.F rfl) (fun hg85 => by
        obtain ⟨q86, q87⟩ := or_f (not_t hg85)
        have q88 := d_t (not_f q86)
        exact r_load_st [] [.cell (.os 20), ci r72.1.2.1, .cell (.os 21), ci r72.1.2.2.2.1, ci r72.1.2.2.2.2.1, ci r72.1.2.2.2.2.2.1] [] Try.isAgg29 Try.sizeOf29 rfl rfl rfl rfl rfl rfl rfl) rfl ?_
  refine ao_scallG (r := .bool (p_laws_rTavern (r69.1.1, (r69.1.2.1, (r69.1.2.2.1, (r69.1.2.2.2.1, (r69.1.2.2.2.2.1, (r69.1.2.2.2.2.2.1, ())))))) (r72.1.1, (r72.1.2.1, (r72.1.2.2.1, (r72.1.2.2.2.1, (r72.1.2.2.2.2.1, (r72.1.2.2.2.2.2.1, ())))))))) rfl (GV.F rfl) (fun hg89 => by
        obtain ⟨q90, q91⟩ := or_f (not_t hg89)
        have q92 := d_t (not_f q90)
        exact SCall.strip 134 rfl (hg89) (SCall.strip 135 rfl (hg89) (scall (c_laws_rTavern (is_mk (rfl : p_laws_rTavern (r69.1.1, (r69.1.2.1, (r69.1.2.2.1, (r69.1.2.2.2.1, (r69.1.2.2.2.2.1, (r69.1.2.2.2.2.2.1, ())))))) (r72.1.1, (r72.1.2.1, (r72.1.2.2.1, (r72.1.2.2.2.1, (r72.1.2.2.2.2.1, (r72.1.2.2.2.2.2.1, ())))))) = _))) rfl Try.func24 rfl rfl rfl rfl (fun σ => ⟨ad_st rfl rfl ⟨ad_os0 rfl, ad_ren rfl, ad_os0 rfl, ad_ren rfl, ad_ren rfl, ad_ren rfl, trivial⟩, ad_st rfl rfl ⟨ad_os0 rfl, ad_ren rfl, ad_os0 rfl, ad_ren rfl, ad_ren rfl, ad_ren rfl, trivial⟩, trivial⟩)))) rfl ?_
  refine ao_readG (x := .bool (!(p_laws_rTavern (r69.1.1, (r69.1.2.1, (r69.1.2.2.1, (r69.1.2.2.2.1, (r69.1.2.2.2.2.1, (r69.1.2.2.2.2.2.1, ())))))) (r72.1.1, (r72.1.2.1, (r72.1.2.2.1, (r72.1.2.2.2.1, (r72.1.2.2.2.2.1, (r72.1.2.2.2.2.2.1, ()))))))))) rfl (GV.F rfl) (fun hg93 => by
        obtain ⟨q94, q95⟩ := or_f (not_t hg93)
        have q96 := d_t (not_f q94)
        exact Reads.strip 136 rfl (hg93) (r_not rfl)) rfl ?_
  refine ao_r (r_orB rfl rfl) rfl ?_
  refine ao_nil ?_
  refine aq_then ?_
  refine aw_cond rfl (fun hb97 => ?_) (fun hb97 => ?_)
  replace h := is_if hb97 h
  refine aw_seq ?_
  refine aw_region ?_
  refine ao_r (r_assign rfl) rfl ?_
  refine ao_nil ?_
  refine aq_then ?_
  refine aw_ret ?_
  refine aq_then_ret ?_
  refine aq_ret ?_
  obtain rfl := is_some h
  exact aq_finx (l := [.tmp 2]) (xs := [.bool false]) idn [.bool false] [] rfl (by exact ⟨rfl, trivial⟩) (by exact ⟨ad_ren rfl, trivial⟩) (by exact trivial) rfl (nk rfl) rfl rfl ⟨rfl, rfl⟩
  obtain ⟨q98, q99⟩ := or_f hb97
  obtain ⟨q100, q101⟩ := or_f q98
  have q102 := d_t (not_f q100)
  replace h := is_else (ne_t hb97) h
  refine aw_skip ?_
  refine aq_then ?_
  refine aw_seq ?_
  refine aw_region ?_
  refine ao_r (r_load_part (τ := ty1) (y := ((r67.1.1, (r67.1.2.1, (r67.1.2.2.1, (r67.1.2.2.2.1, (r67.1.2.2.2.2.1, (r67.1.2.2.2.2.2.1, ())))))) : dy3)) [] [] rfl Try.isAgg29 Try.sizeOf29 rfl rfl rfl rfl) rfl ?_
  obtain ⟨r103, r103h, h⟩ := is_bind h
  refine ao_scall trivial (scall (c_impl_LastSum (is_mk r103h)) rfl Try.func30 rfl rfl rfl rfl (fun σ => ⟨ad_ren rfl, trivial⟩)) rfl ?_
  refine ao_r (r_move rfl) rfl ?_
  refine ao_r (r_extract rfl rfl) rfl ?_
  refine ao_r (r_extract rfl rfl) rfl ?_
  refine ao_r (r_assign rfl) rfl ?_
  refine ao_r (r_assign rfl) rfl ?_
  refine ao_nil ?_
  refine aq_then ?_
  refine aw_seq ?_
  refine aw_seq ?_
  refine aw_region ?_
  refine ao_r (r_load_part (τ := ty1) (y := ((r67.1.1, (r67.1.2.1, (r67.1.2.2.1, (r67.1.2.2.2.1, (r67.1.2.2.2.2.1, (r67.1.2.2.2.2.2.1, ())))))) : dy3)) [] [] rfl Try.isAgg29 Try.sizeOf29 rfl rfl rfl rfl) rfl ?_
  obtain ⟨r104, r104h, h⟩ := is_bind h
  refine ao_scall trivial (scall (c_spec_LastSum (is_mk r104h)) rfl Try.func31 rfl rfl rfl rfl (fun σ => ⟨ad_ren rfl, trivial⟩)) rfl ?_
  refine ao_r (r_move rfl) rfl ?_
  refine ao_r (r_extract rfl rfl) rfl ?_
  refine ao_r (r_extract rfl rfl) rfl ?_
  refine ao_r (r_assign rfl) rfl ?_
  refine ao_r (r_assign rfl) rfl ?_
  refine ao_nil ?_
  refine aq_then ?_
  refine aw_seq ?_
  refine aw_region ?_
  refine ao_r (r_move rfl) rfl ?_
  refine ao_r (r_move rfl) rfl ?_
  refine ao_r (r_neq rfl rfl) rfl ?_
  refine ao_r (r_move rfl) rfl ?_
  refine ao_readG (x := .bool r103.2) rfl (GV.F rfl) (fun hg105 => by
        have q106 := d_t (not_f (not_t hg105))
        exact r_move rfl) rfl ?_
  refine ao_readG (x := .bool r104.2) rfl (GV.F rfl) (fun hg107 => by
        have q108 := d_t (not_f (not_t hg107))
        exact r_move rfl) rfl ?_
  refine ao_readG (x := .bool (r103.2 != r104.2)) rfl (GV.F rfl) (fun hg109 => by
        have q110 := d_t (not_f (not_t hg109))
        exact Reads.strip 153 rfl (hg109) (Reads.strip 154 rfl (hg109) (r_neq_bool Try.underlying4 rfl rfl))) rfl ?_
  refine ao_r (r_orB rfl rfl) rfl ?_
  refine ao_nil ?_
  refine aq_then ?_
  refine aw_cond rfl (fun hb111 => ?_) (fun hb111 => ?_)
  replace h := is_if hb111 h
  refine aw_seq ?_
  refine aw_region ?_
  refine ao_r (r_assign rfl) rfl ?_
  refine ao_nil ?_
  refine aq_then ?_
  refine aw_ret ?_
  refine aq_then_ret ?_
  refine aq_ret ?_
  obtain rfl := is_some h
  exact aq_finx (l := [.tmp 2]) (xs := [.bool false]) idn [.bool false] [] rfl (by exact ⟨rfl, trivial⟩) (by exact ⟨ad_ren rfl, trivial⟩) (by exact trivial) rfl (nk rfl) rfl rfl ⟨rfl, rfl⟩
  obtain ⟨q112, q113⟩ := or_f hb111
  have q114 := d_t (not_f q112)
  replace h := is_else (ne_t hb111) h
  refine aw_skip ?_
  refine aq_then ?_
  refine aw_join (fun (s115 : Unit) => [(9, .ref 0 0), (10, .ref 1 0), (11, .ref 2 0), (12, .bool r34.2)]) (fun (s115 : Unit) => [(0, .var [.cell (.v ty5 r33.1.1), ci r33.1.2.1, .cell (.v ty7 r33.1.2.2.1), ci r33.1.2.2.2.1, ci r33.1.2.2.2.2.1, ci r33.1.2.2.2.2.2.1]), (1, .var [ci r33.2.1, ci r33.2.2.1, ci r33.2.2.2.1]), (2, .var [.cell (.os 3), ci r34.1.2.1, .cell (.os 4), ci r34.1.2.2.2.1, ci r34.1.2.2.2.2.1, ci r34.1.2.2.2.2.2.1]), (3, .row ty8 r34.1.1), (4, .row ty11 r34.1.2.2.1)]) (fun (s115 : Unit) => True) h (fun s115 hI h => ?_) (fun h j117 => ?_)
  refine aw_seq ?_
  refine aw_seq ?_
  refine aw_region ?_
  refine ao_r (r_move rfl) rfl ?_
  refine ao_r (r_not rfl) rfl ?_
  refine ao_nil ?_
  refine aq_then ?_
  refine aw_cond rfl (fun hb118 => ?_) (fun hb118 => ?_)
  replace h := is_else (ne_t (not_t hb118)) h
  refine aw_seq ?_
  refine aw_region ?_
  refine ao_r (r_assign rfl) rfl ?_
  refine ao_nil ?_
  refine aq_then ?_
  refine aw_ret ?_
  refine aq_then_ret ?_
  refine aq_ret ?_
  obtain rfl := is_some h
  exact aq_finx (l := [.tmp 2]) (xs := [.bool true]) idn [.bool true] [] rfl (by exact ⟨rfl, trivial⟩) (by exact ⟨ad_ren rfl, trivial⟩) (by exact trivial) rfl (nk rfl) rfl rfl ⟨rfl, rfl⟩
  replace h := is_if (not_f hb118) h
  refine aw_skip ?_
  refine aq_then ?_
  refine aw_seq ?_
  refine aw_seq ?_
  refine aw_region ?_
  refine ao_r (r_load_st [] [.cell (.os 3), ci r34.1.2.1, .cell (.os 4), ci r34.1.2.2.2.1, ci r34.1.2.2.2.2.1, ci r34.1.2.2.2.2.2.1] [] Try.isAgg29 Try.sizeOf29 rfl rfl rfl rfl rfl rfl rfl) rfl ?_
  obtain ⟨r119, r119h, h⟩ := is_bind h
  refine ao_scall trivial (scall (c_impl_IsTavern (is_mk r119h)) rfl Try.func25 rfl rfl rfl rfl (fun σ => ⟨ad_st rfl rfl ⟨ad_os0 rfl, ad_ren rfl, ad_os0 rfl, ad_ren rfl, ad_ren rfl, ad_ren rfl, trivial⟩, trivial⟩)) rfl ?_
  refine ao_r (r_not rfl) rfl ?_
  refine ao_r (r_move rfl) rfl ?_
  refine ao_readG (x := .ref 2 5) rfl (GV.F rfl) (fun hg120 => r_fieldAddr Try.underlying29 rfl Try.sizeOf3 rfl rfl rfl) rfl ?_
  refine ao_readG (x := .int .i64 r34.1.2.2.2.2.2.1) rfl (GV.F rfl) (fun hg121 => Reads.strip 192 rfl (hg121) (r_load_cell Try.isAgg3 rfl rfl rfl)) rfl ?_
  refine ao_readG (x := .ref 0 5) rfl (GV.F rfl) (fun hg122 => r_fieldAddr Try.underlying29 rfl Try.sizeOf3 rfl rfl rfl) rfl ?_
  refine ao_readG (x := .int .i64 r33.1.2.2.2.2.2.1) rfl (GV.F rfl) (fun hg123 => Reads.strip 194 rfl (hg123) (r_load_cell Try.isAgg3 rfl rfl rfl)) rfl ?_
  refine ao_readG (x := .int .i64 (IntKind.wrap .i64 (r33.1.2.2.2.2.2.1 + 1))) rfl (GV.F rfl) (fun hg124 => Reads.strip 195 rfl (hg124) (r_add rfl rfl)) rfl ?_
  refine ao_readG (x := .bool (!(decide (r34.1.2.2.2.2.2.1 = (IntKind.wrap .i64 (r33.1.2.2.2.2.2.1 + 1)))))) rfl (GV.F rfl) (fun hg125 => Reads.strip 193 rfl (hg125) (Reads.strip 196 rfl (hg125) (r_neq rfl rfl))) rfl ?_
  refine ao_r (r_orB rfl rfl) rfl ?_
  refine ao_nil ?_
  refine aq_then ?_
  refine aw_cond rfl (fun hb126 => ?_) (fun hb126 => ?_)
  replace h := is_if hb126 h
  refine aw_seq ?_
  refine aw_region ?_
  refine ao_r (r_assign rfl) rfl ?_
  refine ao_nil ?_
  refine aq_then ?_
  refine aw_ret ?_
  refine aq_then_ret ?_
  refine aq_ret ?_
  obtain rfl := is_some h
  exact aq_finx (l := [.tmp 2]) (xs := [.bool false]) idn [.bool false] [] rfl (by exact ⟨rfl, trivial⟩) (by exact ⟨ad_ren rfl, trivial⟩) (by exact trivial) rfl (nk rfl) rfl rfl ⟨rfl, rfl⟩
  obtain ⟨q127, q128⟩ := or_f hb126
  have q129 := d_t (not_f q128)
  replace h := is_else (ne_t hb126) h
  refine aw_skip ?_
  refine aq_then ?_
  refine aw_join (fun (s130 : Unit) => [(9, .ref 0 0), (10, .ref 1 0), (11, .ref 2 0)]) (fun (s130 : Unit) => [(0, .var [.cell (.v ty5 r33.1.1), ci r33.1.2.1, .cell (.v ty7 r33.1.2.2.1), ci r33.1.2.2.2.1, ci r33.1.2.2.2.2.1, ci r33.1.2.2.2.2.2.1]), (1, .var [ci r33.2.1, ci r33.2.2.1, ci r33.2.2.2.1]), (2, .var [.cell (.os 3), ci r34.1.2.1, .cell (.os 4), ci r34.1.2.2.2.1, ci r34.1.2.2.2.2.1, ci r34.1.2.2.2.2.2.1]), (3, .row ty8 r34.1.1), (4, .row ty11 r34.1.2.2.1)]) (fun (s130 : Unit) => True) h (fun s130 hI h => ?_) (fun h j132 => ?_)
  refine aw_seq ?_
  refine aw_seq ?_
  refine aw_region ?_
  refine ao_r (r_fieldAddr Try.underlying33 rfl Try.sizeOf3 rfl rfl rfl) rfl ?_
  refine ao_r (r_load_cell Try.isAgg3 rfl rfl rfl) rfl ?_
  refine ao_r (r_eql rfl rfl) rfl ?_
  refine ao_r (r_move rfl) rfl ?_
  refine ao_readG (x := .ref 2 5) rfl (GV.T rfl) (fun hg133 => by
        have q134 := d_t hg133
        exact r_fieldAddr Try.underlying29 rfl Try.sizeOf3 rfl rfl rfl) rfl ?_
  refine ao_readG (x := .int .i64 r34.1.2.2.2.2.2.1) rfl (GV.T rfl) (fun hg135 => by
        have q136 := d_t hg135
        exact Reads.strip 258 rfl (hg135) (r_load_cell Try.isAgg3 rfl rfl rfl)) rfl ?_
  refine ao_readG (x := .bool (decide (r34.1.2.2.2.2.2.1 < 1000))) rfl (GV.T rfl) (fun hg137 => by
        have q138 := d_t hg137
        exact Reads.strip 259 rfl (hg137) (r_lss rfl rfl)) rfl ?_
  refine ao_r (r_andB rfl rfl) rfl ?_
  refine ao_nil ?_
  refine aq_then ?_
  refine aw_cond rfl (fun hb139 => ?_) (fun hb139 => ?_)
  obtain ⟨q140, q141⟩ := and_t hb139
  have q142 := d_t q140
  have q143 := d_t q141
  replace h := is_if hb139 h
  refine aw_seq ?_
  refine aw_region ?_
  refine ao_r (r_load_st [] [.cell (.os 3), ci r34.1.2.1, .cell (.os 4), ci r34.1.2.2.2.1, ci r34.1.2.2.2.2.1, ci r34.1.2.2.2.2.2.1] [] Try.isAgg29 Try.sizeOf29 rfl rfl rfl rfl rfl rfl rfl) rfl ?_
  refine ao_r (r_fieldAddr Try.underlying29 rfl Try.sizeOf22 rfl rfl rfl) rfl ?_
  refine ao_r (r_load_cell Try.isAgg22 rfl rfl rfl) rfl ?_
  refine ao_r (r_len_osm (r34.1.1.length : Int) Try.underlying22 rfl rfl rfl) rfl ?_
  refine ao_r (r_subI rfl rfl (wrap_id (by omega) (by omega))) rfl ?_
  refine ao_r (r_build_stv (l := [(0, .const (.int .i64 5)), (1, .tmp 267)]) (cs := [ci 5, .cell (.int .i64 ((r34.1.1.length : Int) - 1)), ci 0]) ty4 ((5, (((r34.1.1.length : Int) - 1), (0, ()))) : dy6) [(0, 1), (1, 1), (2, 1)] Try.underlying33 Try.zeroValue33 rfl ⟨rfl, Try.sizeOf3, rfl, Try.sizeOf3, rfl, Try.sizeOf3, trivial⟩ rfl rfl rfl rfl) rfl ?_
  obtain ⟨r144, r144h, h⟩ := is_bind h
  refine ao_call [] 5 trivial (c_impl_DoTask (is_mk r144h)) Try.func10 rfl rfl rfl rfl ⟨ad_st rfl rfl ⟨ad_os0 rfl, ad_ren rfl, ad_os0 rfl, ad_ren rfl, ad_ren rfl, ad_ren rfl, trivial⟩, ad_ren rfl, trivial⟩ trivial rfl rfl rfl rfl rfl rfl rfl (fun r' H' hr => ?_)
  obtain ⟨rfl, rfl⟩ := hr
  refine ao_norm (y := .tup [.st [.os 5, .int .i64 r144.1.2.1, .os 6, .int .i64 r144.1.2.2.2.1, .int .i64 r144.1.2.2.2.2.1, .int .i64 r144.1.2.2.2.2.2.1], .bool r144.2]) (H' := [(0, .var [.cell (.v ty5 r33.1.1), ci r33.1.2.1, .cell (.v ty7 r33.1.2.2.1), ci r33.1.2.2.2.1, ci r33.1.2.2.2.2.1, ci r33.1.2.2.2.2.2.1]), (1, .var [ci r33.2.1, ci r33.2.2.1, ci r33.2.2.2.1]), (2, .var [.cell (.os 3), ci r34.1.2.1, .cell (.os 4), ci r34.1.2.2.2.1, ci r34.1.2.2.2.2.1, ci r34.1.2.2.2.2.2.1]), (3, .row ty8 r34.1.1), (4, .row ty11 r34.1.2.2.1), (5, .row ty8 r144.1.1), (6, .row ty11 r144.1.2.2.1)]) rfl rfl ?_
  refine row_len_o 5 (r144.1.1.length : Int) rfl rfl (fun hr145 => ?_)
  refine row_len_o 6 (r144.1.2.2.1.length : Int) rfl rfl (fun hr146 => ?_)
  refine ao_r (r_move rfl) rfl ?_
  refine ao_r (r_extract rfl rfl) rfl ?_
  refine ao_r (r_extract rfl rfl) rfl ?_
  refine ao_eff trivial (e_alloc 7 (y := .st [.nilsl, .int .i64 0, .nilsl, .int .i64 0, .int .i64 0, .int .i64 0]) Try.zeroValue29 (fun ρ h M => ra_zero_st (t := ty1) rfl rfl rfl) rfl rfl rfl rfl rfl) rfl ?_
  refine ao_effS trivial (e_store rfl rfl rfl rfl Try.sizeOf29 rfl) ?_
  refine ao_r (r_assign rfl) rfl ?_
  refine ao_nil ?_
  refine aq_then ?_
  refine aw_seq ?_
  refine aw_region ?_
  refine ao_r (r_move rfl) rfl ?_
  refine ao_r (r_not rfl) rfl ?_
  refine ao_r (r_move rfl) rfl ?_
  refine ao_readG (x := .ref 7 0) rfl (GV.F rfl) (fun hg147 => r_fieldAddr Try.underlying29 rfl Try.sizeOf22 rfl rfl rfl) rfl ?_
  refine ao_readG (x := .os 5) rfl (GV.F rfl) (fun hg148 => Reads.strip 275 rfl (hg148) (r_load_cell Try.isAgg22 rfl rfl rfl)) rfl ?_
  refine ao_readG (x := .ref 0 0) rfl (GV.F rfl) (fun hg149 => r_fieldAddr Try.underlying29 rfl Try.sizeOf22 rfl rfl rfl) rfl ?_
  refine ao_readG (x := .v ty5 r33.1.1) rfl (GV.F rfl) (fun hg150 => Reads.strip 277 rfl (hg150) (r_load_cell Try.isAgg22 rfl rfl rfl)) rfl ?_
  refine ao_scallG (r := .bool (p_laws_rDice r144.1.1 r33.1.1)) rfl (GV.F rfl) (fun hg151 => SCall.strip 276 rfl (hg151) (SCall.strip 278 rfl (hg151) (scall (c_laws_rDice (is_mk (rfl : p_laws_rDice r144.1.1 r33.1.1 = _))) rfl Try.func32 rfl rfl rfl rfl (fun σ => ⟨ad_os0 rfl, ad_ren rfl, trivial⟩)))) rfl ?_
  refine ao_readG (x := .bool (!(p_laws_rDice r144.1.1 r33.1.1))) rfl (GV.F rfl) (fun hg152 => Reads.strip 279 rfl (hg152) (r_not rfl)) rfl ?_
  refine ao_r (r_orB rfl rfl) rfl ?_
  refine ao_nil ?_
  refine aq_then ?_
  refine aw_cond rfl (fun hb153 => ?_) (fun hb153 => ?_)
  replace h := is_if hb153 h
  refine aw_seq ?_
  refine aw_region ?_
  refine ao_r (r_assign rfl) rfl ?_
  refine ao_nil ?_
  refine aq_then ?_
  refine aw_ret ?_
  refine aq_then_ret ?_
  refine aq_ret ?_
  obtain rfl := is_some h
  exact aq_finx (l := [.tmp 2]) (xs := [.bool false]) idn [.bool false] [] rfl (by exact ⟨rfl, trivial⟩) (by exact ⟨ad_ren rfl, trivial⟩) (by exact trivial) rfl (nk rfl) rfl rfl ⟨rfl, rfl⟩
  obtain ⟨q154, q155⟩ := or_f hb153
  replace h := is_else (ne_t hb153) h
  refine aw_skip ?_
  refine aq_then ?_
  refine aw_seq ?_
  refine aw_region ?_
  refine ao_r (r_assign rfl) rfl ?_
  refine ao_nil ?_
  refine aq_then ?_
  refine aw_ret ?_
  refine aq_ret ?_
  obtain rfl := is_some h
  exact aq_finx (l := [.tmp 2]) (xs := [.bool true]) idn [.bool true] [] rfl (by exact ⟨rfl, trivial⟩) (by exact ⟨ad_ren rfl, trivial⟩) (by exact trivial) rfl (nk rfl) rfl rfl ⟨rfl, rfl⟩
  replace h := is_else (ne_t hb139) h
  refine aw_skip ?_
  refine aq_then ?_
  refine aw_seq ?_
  refine aw_region ?_
  refine ao_r (r_assign rfl) rfl ?_
  refine ao_nil ?_
  refine aq_then ?_
  refine aw_ret ?_
  refine aq_ret ?_
  obtain rfl := is_some h
  exact aq_finx (l := [.tmp 2]) (xs := [.bool true]) idn [.bool true] [] rfl (by exact ⟨rfl, trivial⟩) (by exact ⟨ad_ren rfl, trivial⟩) (by exact trivial) rfl (nk rfl) rfl rfl ⟨rfl, rfl⟩
  refine aw_seq ?_
  refine aw_region ?_
  refine ao_r (r_fieldAddr Try.underlying33 rfl Try.sizeOf3 rfl rfl rfl) rfl ?_
  refine ao_r (r_load_cell Try.isAgg3 rfl rfl rfl) rfl ?_
  refine ao_r (r_eql rfl rfl) rfl ?_
  refine ao_r (r_move rfl) rfl ?_
  refine ao_readG (x := .ref 1 0) rfl (GV.F rfl) (fun hg156 => by
        have q157 := d_f (not_t hg156)
        exact r_fieldAddr Try.underlying33 rfl Try.sizeOf3 rfl rfl rfl) rfl ?_
  refine ao_readG (x := .int .i64 r33.2.1) rfl (GV.F rfl) (fun hg158 => by
        have q159 := d_f (not_t hg158)
        exact Reads.strip 203 rfl (hg158) (r_load_cell Try.isAgg3 rfl rfl rfl)) rfl ?_
  refine ao_readG (x := .bool (decide (r33.2.1 = 2))) rfl (GV.F rfl) (fun hg160 => by
        have q161 := d_f (not_t hg160)
        exact Reads.strip 204 rfl (hg160) (r_eql rfl rfl)) rfl ?_
  refine ao_r (r_orB rfl rfl) rfl ?_
  refine ao_nil ?_
  refine aq_then ?_
  refine aw_cond rfl (fun hb162 => ?_) (fun hb162 => ?_)
  replace h := is_if hb162 h
  refine aw_seq ?_
  refine aw_region ?_
  refine ao_r (r_load_st [] [.cell (.os 3), ci r34.1.2.1, .cell (.os 4), ci r34.1.2.2.2.1, ci r34.1.2.2.2.2.1, ci r34.1.2.2.2.2.2.1] [] Try.isAgg29 Try.sizeOf29 rfl rfl rfl rfl rfl rfl rfl) rfl ?_
  obtain ⟨r167, r167h, h⟩ := is_bind h
  refine ao_scall trivial (scall (c_impl_LastSum (is_mk r167h)) rfl Try.func30 rfl rfl rfl rfl (fun σ => ⟨ad_st rfl rfl ⟨ad_os0 rfl, ad_ren rfl, ad_os0 rfl, ad_ren rfl, ad_ren rfl, ad_ren rfl, trivial⟩, trivial⟩)) rfl ?_
  refine ao_r (r_move rfl) rfl ?_
  refine ao_r (r_extract rfl rfl) rfl ?_
  refine ao_r (r_extract rfl rfl) rfl ?_
  refine ao_r (r_assign rfl) rfl ?_
  refine ao_r (r_assign rfl) rfl ?_
  refine ao_nil ?_
  refine aq_then ?_
  refine aw_seq ?_
  refine aw_region ?_
  refine ao_r (r_load_part (τ := ty1) (y := ((r33.1.1, (r33.1.2.1, (r33.1.2.2.1, (r33.1.2.2.2.1, (r33.1.2.2.2.2.1, (r33.1.2.2.2.2.2.1, ())))))) : dy3)) [] [] rfl Try.isAgg29 Try.sizeOf29 rfl rfl rfl rfl) rfl ?_
  obtain ⟨r168, r168h, h⟩ := is_bind h
  refine ao_scall trivial (scall (c_impl_LastSum (is_mk r168h)) rfl Try.func30 rfl rfl rfl rfl (fun σ => ⟨ad_ren rfl, trivial⟩)) rfl ?_
  refine ao_r (r_move rfl) rfl ?_
  refine ao_r (r_extract rfl rfl) rfl ?_
  refine ao_r (r_extract rfl rfl) rfl ?_
  refine ao_r (r_assign rfl) rfl ?_
  refine ao_r (r_assign rfl) rfl ?_
  refine ao_nil ?_
  refine aq_then ?_
  refine aw_join (fun (s169 : Int) => [(9, .ref 0 0), (10, .ref 1 0), (11, .ref 2 0), (31, .int .i64 r167.1), (32, .bool r167.2), (33, .int .i64 s169)]) (fun (s169 : Int) => [(0, .var [.cell (.v ty5 r33.1.1), ci r33.1.2.1, .cell (.v ty7 r33.1.2.2.1), ci r33.1.2.2.2.1, ci r33.1.2.2.2.2.1, ci r33.1.2.2.2.2.2.1]), (1, .var [ci r33.2.1, ci r33.2.2.1, ci r33.2.2.2.1]), (2, .var [.cell (.os 3), ci r34.1.2.1, .cell (.os 4), ci r34.1.2.2.2.1, ci r34.1.2.2.2.2.1, ci r34.1.2.2.2.2.2.1]), (3, .row ty8 r34.1.1), (4, .row ty11 r34.1.2.2.1)]) (fun (s169 : Int) => True) h (fun s169 hI h => ?_) (fun h j171 => ?_)
  refine aw_seq ?_
  refine aw_region ?_
  refine ao_r (r_move rfl) rfl ?_
  refine ao_r (r_not rfl) rfl ?_
  refine ao_r (r_move rfl) rfl ?_
  refine ao_readG (x := .ref 2 3) rfl (GV.F rfl) (fun hg172 => r_fieldAddr Try.underlying29 rfl Try.sizeOf3 rfl rfl rfl) rfl ?_
  refine ao_readG (x := .int .i64 r34.1.2.2.2.1) rfl (GV.F rfl) (fun hg173 => Reads.strip 223 rfl (hg173) (r_load_cell Try.isAgg3 rfl rfl rfl)) rfl ?_
  refine ao_readG (x := .ref 0 3) rfl (GV.F rfl) (fun hg174 => r_fieldAddr Try.underlying29 rfl Try.sizeOf3 rfl rfl rfl) rfl ?_
  refine ao_readG (x := .int .i64 r33.1.2.2.2.1) rfl (GV.F rfl) (fun hg175 => Reads.strip 225 rfl (hg175) (r_load_cell Try.isAgg3 rfl rfl rfl)) rfl ?_
  refine ao_readG (x := .int .i64 r167.1) rfl (GV.F rfl) (fun hg176 => r_move rfl) rfl ?_
  refine ao_readG (x := .int .i64 (IntKind.wrap .i64 (r33.1.2.2.2.1 + r167.1))) rfl (GV.F rfl) (fun hg177 => Reads.strip 226 rfl (hg177) (Reads.strip 227 rfl (hg177) (r_add rfl rfl))) rfl ?_
  refine ao_readG (x := .int .i64 s169) rfl (GV.F rfl) (fun hg178 => r_move rfl) rfl ?_
  refine ao_readG (x := .int .i64 (IntKind.wrap .i64 ((IntKind.wrap .i64 (r33.1.2.2.2.1 + r167.1)) - s169))) rfl (GV.F rfl) (fun hg179 => Reads.strip 228 rfl (hg179) (Reads.strip 229 rfl (hg179) (r_sub rfl rfl))) rfl ?_
  refine ao_readG (x := .bool (!(decide (r34.1.2.2.2.1 = (IntKind.wrap .i64 ((IntKind.wrap .i64 (r33.1.2.2.2.1 + r167.1)) - s169)))))) rfl (GV.F rfl) (fun hg180 => Reads.strip 224 rfl (hg180) (Reads.strip 230 rfl (hg180) (r_neq rfl rfl))) rfl ?_
  refine ao_r (r_orB rfl rfl) rfl ?_
  refine ao_r (r_move rfl) rfl ?_
  refine ao_readG (x := .ref 2 4) rfl (GV.F rfl) (fun hg181 => by
        obtain ⟨q182, q183⟩ := or_f (not_t hg181)
        have q184 := d_t (not_f q183)
        exact r_fieldAddr Try.underlying29 rfl Try.sizeOf3 rfl rfl rfl) rfl ?_
  refine ao_readG (x := .int .i64 r34.1.2.2.2.2.1) rfl (GV.F rfl) (fun hg185 => by
        obtain ⟨q186, q187⟩ := or_f (not_t hg185)
        have q188 := d_t (not_f q187)
        exact Reads.strip 234 rfl (hg185) (r_load_cell Try.isAgg3 rfl rfl rfl)) rfl ?_
  refine ao_readG (x := .int .i64 r167.1) rfl (GV.F rfl) (fun hg189 => by
        obtain ⟨q190, q191⟩ := or_f (not_t hg189)
        have q192 := d_t (not_f q191)
        exact r_move rfl) rfl ?_
  refine ao_readG (x := .bool (decide (r34.1.2.2.2.2.1 < r167.1))) rfl (GV.F rfl) (fun hg193 => by
        obtain ⟨q194, q195⟩ := or_f (not_t hg193)
        have q196 := d_t (not_f q195)
        exact Reads.strip 235 rfl (hg193) (Reads.strip 236 rfl (hg193) (r_lss rfl rfl))) rfl ?_
  refine ao_r (r_orB rfl rfl) rfl ?_
  refine ao_r (r_move rfl) rfl ?_
  refine ao_readG (x := .ref 2 4) rfl (GV.F rfl) (fun hg197 => by
        obtain ⟨q198, q199⟩ := or_f (not_t hg197)
        obtain ⟨q200, q201⟩ := or_f q198
        have q202 := d_t (not_f q201)
        have q203 := d_f q199
        exact r_fieldAddr Try.underlying29 rfl Try.sizeOf3 rfl rfl rfl) rfl ?_
  refine ao_readG (x := .int .i64 r34.1.2.2.2.2.1) rfl (GV.F rfl) (fun hg204 => by
        obtain ⟨q205, q206⟩ := or_f (not_t hg204)
        obtain ⟨q207, q208⟩ := or_f q205
        have q209 := d_t (not_f q208)
        have q210 := d_f q206
        exact Reads.strip 240 rfl (hg204) (r_load_cell Try.isAgg3 rfl rfl rfl)) rfl ?_
  refine ao_readG (x := .ref 0 4) rfl (GV.F rfl) (fun hg211 => by
        obtain ⟨q212, q213⟩ := or_f (not_t hg211)
        obtain ⟨q214, q215⟩ := or_f q212
        have q216 := d_t (not_f q215)
        have q217 := d_f q213
        exact r_fieldAddr Try.underlying29 rfl Try.sizeOf3 rfl rfl rfl) rfl ?_
  refine ao_readG (x := .int .i64 r33.1.2.2.2.2.1) rfl (GV.F rfl) (fun hg218 => by
        obtain ⟨q219, q220⟩ := or_f (not_t hg218)
        obtain ⟨q221, q222⟩ := or_f q219
        have q223 := d_t (not_f q222)
        have q224 := d_f q220
        exact Reads.strip 242 rfl (hg218) (r_load_cell Try.isAgg3 rfl rfl rfl)) rfl ?_
  refine ao_readG (x := .bool (decide (r34.1.2.2.2.2.1 < r33.1.2.2.2.2.1))) rfl (GV.F rfl) (fun hg225 => by
        obtain ⟨q226, q227⟩ := or_f (not_t hg225)
        obtain ⟨q228, q229⟩ := or_f q226
        have q230 := d_t (not_f q229)
        have q231 := d_f q227
        exact Reads.strip 241 rfl (hg225) (Reads.strip 243 rfl (hg225) (r_lss rfl rfl))) rfl ?_
  refine ao_r (r_orB rfl rfl) rfl ?_
  refine ao_r (r_move rfl) rfl ?_
  refine ao_readG (x := .ref 2 0) rfl (GV.F rfl) (fun hg232 => by
        obtain ⟨q233, q234⟩ := or_f (not_t hg232)
        obtain ⟨q235, q236⟩ := or_f q233
        obtain ⟨q237, q238⟩ := or_f q235
        have q239 := d_t (not_f q238)
        have q240 := d_f q236
        have q241 := d_f q234
        exact r_fieldAddr Try.underlying29 rfl Try.sizeOf22 rfl rfl rfl) rfl ?_
  refine ao_readG (x := .os 3) rfl (GV.F rfl) (fun hg242 => by
        obtain ⟨q243, q244⟩ := or_f (not_t hg242)
        obtain ⟨q245, q246⟩ := or_f q243
        obtain ⟨q247, q248⟩ := or_f q245
        have q249 := d_t (not_f q248)
        have q250 := d_f q246
        have q251 := d_f q244
        exact Reads.strip 247 rfl (hg242) (r_load_cell Try.isAgg22 rfl rfl rfl)) rfl ?_
  refine ao_readG (x := .ref 0 0) rfl (GV.F rfl) (fun hg252 => by
        obtain ⟨q253, q254⟩ := or_f (not_t hg252)
        obtain ⟨q255, q256⟩ := or_f q253
        obtain ⟨q257, q258⟩ := or_f q255
        have q259 := d_t (not_f q258)
        have q260 := d_f q256
        have q261 := d_f q254
        exact r_fieldAddr Try.underlying29 rfl Try.sizeOf22 rfl rfl rfl) rfl ?_
  refine ao_readG (x := .v ty5 r33.1.1) rfl (GV.F rfl) (fun hg262 => by
        obtain ⟨q263, q264⟩ := or_f (not_t hg262)
        obtain ⟨q265, q266⟩ := or_f q263
        obtain ⟨q267, q268⟩ := or_f q265
        have q269 := d_t (not_f q268)
        have q270 := d_f q266
        have q271 := d_f q264
        exact Reads.strip 249 rfl (hg262) (r_load_cell Try.isAgg22 rfl rfl rfl)) rfl ?_
  refine ao_scallG (r := .bool (p_laws_rDice r34.1.1 r33.1.1)) rfl (GV.F rfl) (fun hg272 => by
        obtain ⟨q273, q274⟩ := or_f (not_t hg272)
        obtain ⟨q275, q276⟩ := or_f q273
        obtain ⟨q277, q278⟩ := or_f q275
        have q279 := d_t (not_f q278)
        have q280 := d_f q276
        have q281 := d_f q274
        exact SCall.strip 248 rfl (hg272) (SCall.strip 250 rfl (hg272) (scall (c_laws_rDice (is_mk (rfl : p_laws_rDice r34.1.1 r33.1.1 = _))) rfl Try.func32 rfl rfl rfl rfl (fun σ => ⟨ad_os0 rfl, ad_ren rfl, trivial⟩)))) rfl ?_
  refine ao_readG (x := .bool (!(p_laws_rDice r34.1.1 r33.1.1))) rfl (GV.F rfl) (fun hg282 => by
        obtain ⟨q283, q284⟩ := or_f (not_t hg282)
        obtain ⟨q285, q286⟩ := or_f q283
        obtain ⟨q287, q288⟩ := or_f q285
        have q289 := d_t (not_f q288)
        have q290 := d_f q286
        have q291 := d_f q284
        exact Reads.strip 251 rfl (hg282) (r_not rfl)) rfl ?_
  refine ao_r (r_orB rfl rfl) rfl ?_
  refine ao_nil ?_
  refine aq_then ?_
  refine aw_cond rfl (fun hb292 => ?_) (fun hb292 => ?_)
  replace h := is_if hb292 h
  refine aw_seq ?_
  refine aw_region ?_
  refine ao_r (r_assign rfl) rfl ?_
  refine ao_nil ?_
  refine aq_then ?_
  refine aw_ret ?_
  refine aq_then_ret ?_
  refine aq_ret ?_
  obtain rfl := is_some h
  exact aq_finx (l := [.tmp 2]) (xs := [.bool false]) idn [.bool false] [] rfl (by exact ⟨rfl, trivial⟩) (by exact ⟨ad_ren rfl, trivial⟩) (by exact trivial) rfl (nk rfl) rfl rfl ⟨rfl, rfl⟩
  obtain ⟨q293, q294⟩ := or_f hb292
  obtain ⟨q295, q296⟩ := or_f q293
  obtain ⟨q297, q298⟩ := or_f q295
  obtain ⟨q299, q300⟩ := or_f q297
  have q301 := d_t (not_f q300)
  have q302 := d_f q298
  have q303 := d_f q296
  replace h := is_else (ne_t hb292) h
  refine aw_skip ?_
  exact aq_then (AW.sub (sub_r1 idn (nk rfl) (by kernel_rfl)) (j132 () trivial h))
  refine aw_seq ?_
  refine aw_region ?_
  refine ao_r (r_fieldAddr Try.underlying33 rfl Try.sizeOf3 rfl rfl rfl) rfl ?_
  refine ao_r (r_load_cell Try.isAgg3 rfl rfl rfl) rfl ?_
  refine ao_r (r_eql rfl rfl) rfl ?_
  refine ao_nil ?_
  refine aq_then ?_
  refine aw_cond rfl (fun hb304 => ?_) (fun hb304 => ?_)
  have q305 := d_t hb304
  replace h := is_if (d_t hb304) h
  refine aw_region ?_
  refine ao_r (r_assign rfl) rfl ?_
  refine ao_nil ?_
  exact aq_then (AW.sub (sub_r1 idn (nk rfl) (by kernel_rfl)) (j171 0 trivial h))
  have q306 := d_f hb304
  replace h := is_else (d_f hb304) h
  refine aw_skip ?_
  exact aq_then (AW.sub (sub_r1 idn (nk rfl) (by kernel_rfl)) (j171 r168.1 trivial h))
  obtain ⟨q163, q164⟩ := or_f hb162
  have q165 := d_f q163
  have q166 := d_f q164
  replace h := is_else (ne_t hb162) h
  refine aw_skip ?_
  exact aq_then (AW.sub (sub_r1 idn (nk rfl) (by kernel_rfl)) (j132 () trivial h))
  refine aw_seq ?_
  refine aw_region ?_
  refine ao_r (r_move rfl) rfl ?_
  refine ao_nil ?_
  refine aq_then ?_
  refine aw_cond rfl (fun hb307 => ?_) (fun hb307 => ?_)
  replace h := is_if hb307 h
  refine aw_seq ?_
  refine aw_region ?_
  refine ao_r (r_load_part (τ := ty1) (y := ((r67.1.1, (r67.1.2.1, (r67.1.2.2.1, (r67.1.2.2.2.1, (r67.1.2.2.2.2.1, (r67.1.2.2.2.2.2.1, ())))))) : dy3)) [] [] rfl Try.isAgg29 Try.sizeOf29 rfl rfl rfl rfl) rfl ?_
  refine ao_eff trivial (e_alloc 23 (y := .st [.nilsl, .int .i64 0, .nilsl, .int .i64 0, .int .i64 0, .int .i64 0]) Try.zeroValue29 (fun ρ h M => ra_zero_st (t := ty1) rfl rfl rfl) rfl rfl rfl rfl rfl) rfl ?_
  refine ao_effS trivial (e_store rfl rfl rfl rfl Try.sizeOf29 rfl) ?_
  refine ao_nil ?_
  refine aq_then ?_
  refine aw_join (fun (s308 : dy10 × Int × dy12 × Int × Int × Int) => [(9, .ref 0 0), (10, .ref 1 0), (11, .ref 2 0), (12, .bool r34.2), (17, .ref 3 0), (27, .ref 4 0)]) (fun (s308 : dy10 × Int × dy12 × Int × Int × Int) => [(0, .var [.cell (.v ty5 r33.1.1), ci r33.1.2.1, .cell (.v ty7 r33.1.2.2.1), ci r33.1.2.2.2.1, ci r33.1.2.2.2.2.1, ci r33.1.2.2.2.2.2.1]), (1, .var [ci r33.2.1, ci r33.2.2.1, ci r33.2.2.2.1]), (2, .var [.cell (.os 5), ci r34.1.2.1, .cell (.os 6), ci r34.1.2.2.2.1, ci r34.1.2.2.2.2.1, ci r34.1.2.2.2.2.2.1]), (3, .var [.cell (.os 7), ci r69.1.2.1, .cell (.os 8), ci r69.1.2.2.2.1, ci r69.1.2.2.2.2.1, ci r69.1.2.2.2.2.2.1]), (4, .var [.cell (.v ty5 s308.1), ci s308.2.1, .cell (.v ty7 s308.2.2.1), ci s308.2.2.2.1, ci s308.2.2.2.2.1, ci s308.2.2.2.2.2]), (5, .row ty8 r34.1.1), (6, .row ty11 r34.1.2.2.1), (7, .row ty8 r69.1.1), (8, .row ty11 r69.1.2.2.1)]) (fun (s308 : dy10 × Int × dy12 × Int × Int × Int) => (s308.1.length : Int) = (s308.1.length : Int) ∧ (s308.2.2.1.length : Int) = (s308.2.2.1.length : Int)) h (fun s308 hI h => ?_) (fun h j310 => ?_)
  obtain ⟨_, _⟩ := hI
  refine aw_seq ?_
  refine aw_region ?_
  refine ao_r (r_load_part (τ := ty1) (y := ((s308.1, (s308.2.1, (s308.2.2.1, (s308.2.2.2.1, (s308.2.2.2.2.1, (s308.2.2.2.2.2, ())))))) : dy3)) [] [] rfl Try.isAgg29 Try.sizeOf29 rfl rfl rfl rfl) rfl ?_
  refine ao_r (r_load_st [] [.cell (.os 7), ci r69.1.2.1, .cell (.os 8), ci r69.1.2.2.2.1, ci r69.1.2.2.2.2.1, ci r69.1.2.2.2.2.2.1] [] Try.isAgg29 Try.sizeOf29 rfl rfl rfl rfl rfl rfl rfl) rfl ?_
  refine ao_scall trivial (scall (c_laws_rTavern (is_mk (rfl : p_laws_rTavern (s308.1, (s308.2.1, (s308.2.2.1, (s308.2.2.2.1, (s308.2.2.2.2.1, (s308.2.2.2.2.2, ())))))) (r69.1.1, (r69.1.2.1, (r69.1.2.2.1, (r69.1.2.2.2.1, (r69.1.2.2.2.2.1, (r69.1.2.2.2.2.2.1, ())))))) = _))) rfl Try.func24 rfl rfl rfl rfl (fun σ => ⟨ad_ren rfl, ad_st rfl rfl ⟨ad_os0 rfl, ad_ren rfl, ad_os0 rfl, ad_ren rfl, ad_ren rfl, ad_ren rfl, trivial⟩, trivial⟩)) rfl ?_
  refine ao_r (r_not rfl) rfl ?_
  refine ao_nil ?_
  refine aq_then ?_
  refine aw_cond rfl (fun hb311 => ?_) (fun hb311 => ?_)
  replace h := is_else (ne_t (not_t hb311)) h
  refine aw_seq ?_
  refine aw_region ?_
  refine ao_r (r_assign rfl) rfl ?_
  refine ao_nil ?_
  refine aq_then ?_
  refine aw_ret ?_
  refine aq_then_ret ?_
  refine aq_ret ?_
  obtain rfl := is_some h
  exact aq_finx (l := [.tmp 2]) (xs := [.bool false]) idn [.bool false] [] rfl (by exact ⟨rfl, trivial⟩) (by exact ⟨ad_ren rfl, trivial⟩) (by exact trivial) rfl (nk rfl) rfl rfl ⟨rfl, rfl⟩
  replace h := is_if (not_f hb311) h
  refine aw_skip ?_
  exact aq_then (AW.sub (sub_r1 (rn [(3, 5), (4, 6)]) (nk rfl) (by kernel_rfl)) (j117 () trivial h))
  refine aw_seq ?_
  refine aw_region ?_
  refine ao_r (r_assign rfl) rfl ?_
  refine ao_nil ?_
  refine aq_then ?_
  refine aw_block ?_
  refine aw_loop (AL.sub (fr' := [(9, .ref 0 0), (10, .ref 1 0), (11, .ref 2 0), (12, .bool r34.2), (16, .os 3), (17, .ref 4 0), (18, .int .i64 r69.2.1), (27, .ref 5 0), (28, .int .i64 0)]) (H' := [(0, .var [.cell (.v ty5 r33.1.1), ci r33.1.2.1, .cell (.v ty7 r33.1.2.2.1), ci r33.1.2.2.2.1, ci r33.1.2.2.2.2.1, ci r33.1.2.2.2.2.2.1]), (1, .var [ci r33.2.1, ci r33.2.2.1, ci r33.2.2.2.1]), (2, .var [.cell (.os 6), ci r34.1.2.1, .cell (.os 7), ci r34.1.2.2.2.1, ci r34.1.2.2.2.2.1, ci r34.1.2.2.2.2.2.1]), (3, .row ty4 r67.2), (4, .var [.cell (.os 8), ci r69.1.2.1, .cell (.os 9), ci r69.1.2.2.2.1, ci r69.1.2.2.2.2.1, ci r69.1.2.2.2.2.2.1]), (5, .var [.cell (.v ty5 r67.1.1), ci r67.1.2.1, .cell (.v ty7 r67.1.2.2.1), ci r67.1.2.2.2.1, ci r67.1.2.2.2.2.1, ci r67.1.2.2.2.2.2.1]), (6, .row ty8 r34.1.1), (7, .row ty11 r34.1.2.2.1), (8, .row ty8 r69.1.1), (9, .row ty11 r69.1.2.2.1)]) (sub_r1 (rn [(0, 7), (1, 8), (2, 11), (3, 15), (4, 19), (5, 23), (6, 9), (7, 10), (8, 17), (9, 18)]) (nk rfl) (by kernel_rfl)) (al_cnt (fun i313 (s312 : dy10 × Int × dy12 × Int × Int × Int) => [(9, .ref 0 0), (10, .ref 1 0), (11, .ref 2 0), (12, .bool r34.2), (16, .os 3), (17, .ref 4 0), (18, .int .i64 r69.2.1), (27, .ref 5 0), (28, .int .i64 i313)]) (fun i313 (s312 : dy10 × Int × dy12 × Int × Int × Int) => [(0, .var [.cell (.v ty5 r33.1.1), ci r33.1.2.1, .cell (.v ty7 r33.1.2.2.1), ci r33.1.2.2.2.1, ci r33.1.2.2.2.2.1, ci r33.1.2.2.2.2.2.1]), (1, .var [ci r33.2.1, ci r33.2.2.1, ci r33.2.2.2.1]), (2, .var [.cell (.os 6), ci r34.1.2.1, .cell (.os 7), ci r34.1.2.2.2.1, ci r34.1.2.2.2.2.1, ci r34.1.2.2.2.2.2.1]), (3, .row ty4 r67.2), (4, .var [.cell (.os 8), ci r69.1.2.1, .cell (.os 9), ci r69.1.2.2.2.1, ci r69.1.2.2.2.2.1, ci r69.1.2.2.2.2.2.1]), (5, .var [.cell (.v ty5 s312.1), ci s312.2.1, .cell (.v ty7 s312.2.2.1), ci s312.2.2.2.1, ci s312.2.2.2.2.1, ci s312.2.2.2.2.2]), (6, .row ty8 r34.1.1), (7, .row ty11 r34.1.2.2.1), (8, .row ty8 r69.1.1), (9, .row ty11 r69.1.2.2.1)]) (fun d i313 (s312 : dy10 × Int × dy12 × Int × Int × Int) => d = Int.toNat ((r67.2.length : Int) - i313) ∧ 0 ≤ i313 ∧ i313 ≤ (r67.2.length : Int)) h ⟨rfl, (by (try simp only [List.length_set, List.length_append, List.length_cons, List.length_nil, List.length_replicate, List.length_take, List.length_drop]) <;> omega), (by (try simp only [List.length_set, List.length_append, List.length_cons, List.length_nil, List.length_replicate, List.length_take, List.length_drop]) <;> omega)⟩ (fun d314 i313 s312 hI h ih314 => ?_)))
  obtain ⟨hd, _, _⟩ := hI
  refine al_round ?_
  refine aw_seq ?_
  refine aw_seq ?_
  refine aw_region ?_
  refine ao_r (r_move rfl) rfl ?_
  refine ao_r (r_move rfl) rfl ?_
  refine ao_r (r_len_osm (r67.2.length : Int) Try.underlying42 rfl rfl rfl) rfl ?_
  refine ao_r (r_lss rfl rfl) rfl ?_
  refine ao_nil ?_
  refine aq_then ?_
  refine aw_cond rfl (fun hb316 => ?_) (fun hb316 => ?_)
  have q317 := d_t hb316
  obtain ⟨d314, rfl⟩ : ∃ e, d314 = e + 1 := ⟨d314 - 1, by omega⟩
  replace h := is_cntS h
  refine aw_skip ?_
  refine aq_then ?_
  refine aw_seq ?_
  refine aw_block ?_
  refine aw_seq ?_
  obtain ⟨r319, r319h, h⟩ := is_bind h
  refine aw_drawP 12 rfl (by kernel_rfl) ?_
  refine ap_to [(9, .ref 0 0), (10, .ref 1 0), (11, .ref 2 0), (12, .bool r34.2), (16, .os 3), (17, .ref 4 0), (18, .int .i64 r69.2.1), (27, .ref 5 0), (28, .int .i64 i313), (29, .ref 6 0), (30, .bool r319.2)] [(0, .var [.cell (.v ty5 r33.1.1), ci r33.1.2.1, .cell (.v ty7 r33.1.2.2.1), ci r33.1.2.2.2.1, ci r33.1.2.2.2.2.1, ci r33.1.2.2.2.2.2.1]), (1, .var [ci r33.2.1, ci r33.2.2.1, ci r33.2.2.2.1]), (2, .var [.cell (.os 7), ci r34.1.2.1, .cell (.os 8), ci r34.1.2.2.2.1, ci r34.1.2.2.2.2.1, ci r34.1.2.2.2.2.2.1]), (3, .row ty4 r67.2), (4, .var [.cell (.os 9), ci r69.1.2.1, .cell (.os 10), ci r69.1.2.2.2.1, ci r69.1.2.2.2.2.1, ci r69.1.2.2.2.2.2.1]), (5, .var [.cell (.v ty5 s312.1), ci s312.2.1, .cell (.v ty7 s312.2.2.1), ci s312.2.2.2.1, ci s312.2.2.2.2.1, ci s312.2.2.2.2.2]), (6, .var [.cell (.os 11), ci r319.1.2.1, .cell (.os 12), ci r319.1.2.2.2.1, ci r319.1.2.2.2.2.1, ci r319.1.2.2.2.2.2.1]), (7, .row ty8 r34.1.1), (8, .row ty11 r34.1.2.2.1), (9, .row ty8 r69.1.1), (10, .row ty11 r69.1.2.2.1), (11, .row ty8 r319.1.1), (12, .row ty11 r319.1.2.2.1)] ?_ (fun key => ?_)
  refine row_len_q 11 (r319.1.1.length : Int) rfl rfl (fun hr336 => ?_)
  refine row_len_q 12 (r319.1.2.2.1.length : Int) rfl rfl (fun hr337 => ?_)
  refine aq_then ?_
  refine aw_seq ?_
  refine aw_seq ?_
  refine aw_region ?_
  refine ao_r (r_move rfl) rfl ?_
  refine ao_r (r_move rfl) rfl ?_
  refine ao_r (r_move rfl) rfl ?_
  refine ao_r (r_lss rfl rfl) rfl ?_
  refine ao_r (r_neq_bool Try.underlying4 rfl rfl) rfl ?_
  refine ao_nil ?_
  refine aq_then ?_
  refine aw_cond rfl (fun hb338 => ?_) (fun hb338 => ?_)
  replace h := is_if hb338 h
  refine aw_seq ?_
  refine aw_region ?_
  refine ao_r (r_assign rfl) rfl ?_
  refine ao_nil ?_
  refine aq_then ?_
  refine aw_ret ?_
  refine aq_then_ret ?_
  refine aq_in_ret ?_
  refine aq_then_ret ?_
  refine aq_then_ret ?_
  refine aq_in_ret ?_
  refine aq_then_ret ?_
  refine aq_then_ret ?_
  refine aq_ret ?_
  obtain rfl := is_some h
  exact aq_finx (l := [.tmp 2]) (xs := [.bool false]) idn [.bool false] [] rfl (by exact ⟨rfl, trivial⟩) (by exact ⟨ad_ren rfl, trivial⟩) (by exact trivial) rfl (nk rfl) rfl rfl ⟨rfl, rfl⟩
  replace h := is_else (ne_t hb338) h
  refine aw_skip ?_
  refine aq_then ?_
  refine aw_seq ?_
  refine aw_seq ?_
  refine aw_region ?_
  refine ao_r (r_move rfl) rfl ?_
  refine ao_r (r_not rfl) rfl ?_
  refine ao_nil ?_
  refine aq_then ?_
  refine aw_cond rfl (fun hb339 => ?_) (fun hb339 => ?_)
  replace h := is_else (ne_t (not_t hb339)) h
  refine aw_exit ?_
  refine aq_then_exit ?_
  refine aq_in_other rfl ?_
  refine aq_then_exit ?_
  refine aq_then_exit ?_
  refine aq_in_exit ?_
  exact aq_then (AW.sub (sub_r1 (rn [(3, 4), (4, 5), (5, 7), (6, 8), (7, 9), (8, 10)]) (nk rfl) (by kernel_rfl)) (j310 (s312.1, s312.2.1, s312.2.2.1, s312.2.2.2.1, s312.2.2.2.2.1, s312.2.2.2.2.2) ⟨(by (try simp only [List.length_set, List.length_append, List.length_cons, List.length_nil, List.length_replicate, List.length_take, List.length_drop]) <;> omega), (by (try simp only [List.length_set, List.length_append, List.length_cons, List.length_nil, List.length_replicate, List.length_take, List.length_drop]) <;> omega)⟩ h))
  replace h := is_if (not_f hb339) h
  refine aw_skip ?_
  refine aq_then ?_
  refine aw_region ?_
  refine ao_r (r_load_st [] [.cell (.os 11), ci r319.1.2.1, .cell (.os 12), ci r319.1.2.2.2.1, ci r319.1.2.2.2.2.1, ci r319.1.2.2.2.2.2.1] [] Try.isAgg29 Try.sizeOf29 rfl rfl rfl rfl rfl rfl rfl) rfl ?_
  refine ao_effS trivial (e_store rfl rfl rfl rfl Try.sizeOf29 rfl) ?_
  refine ao_nil ?_
  refine aq_in ?_
  refine aq_then ?_
  refine aw_region ?_
  refine ao_r (r_move rfl) rfl ?_
  refine ao_r (r_addI rfl rfl (wrap_id (by omega) (by omega))) rfl ?_
  refine ao_r (r_assign rfl) rfl ?_
  refine ao_nil ?_
  refine AQ.sub (sub_mk (fr' := [(9, .ref 0 0), (10, .ref 1 0), (11, .ref 2 0), (12, .bool r34.2), (16, .os 3), (17, .ref 4 0), (18, .int .i64 r69.2.1), (27, .ref 5 0), (28, .int .i64 (i313 + 1)), (29, .ref 6 0), (30, .bool r319.2), (174, .bool r319.2), (175, .int .i64 i313), (176, .int .i64 r69.2.1), (177, .bool (decide (i313 < r69.2.1))), (178, .bool (r319.2 != (decide (i313 < r69.2.1)))), (179, .bool r319.2), (180, .bool (!r319.2)), (181, .v ty1 ((r319.1.1, (r319.1.2.1, (r319.1.2.2.1, (r319.1.2.2.2.1, (r319.1.2.2.2.2.1, (r319.1.2.2.2.2.2.1, ())))))) : dy3)), (163, .int .i64 i313), (164, .int .i64 (i313 + 1))]) (H' := [(0, .var [.cell (.v ty5 r33.1.1), ci r33.1.2.1, .cell (.v ty7 r33.1.2.2.1), ci r33.1.2.2.2.1, ci r33.1.2.2.2.2.1, ci r33.1.2.2.2.2.2.1]), (1, .var [ci r33.2.1, ci r33.2.2.1, ci r33.2.2.2.1]), (2, .var [.cell (.os 7), ci r34.1.2.1, .cell (.os 8), ci r34.1.2.2.2.1, ci r34.1.2.2.2.2.1, ci r34.1.2.2.2.2.2.1]), (3, .row ty4 r67.2), (4, .var [.cell (.os 9), ci r69.1.2.1, .cell (.os 10), ci r69.1.2.2.2.1, ci r69.1.2.2.2.2.1, ci r69.1.2.2.2.2.2.1]), (5, .var [.cell (.v ty5 r319.1.1), ci r319.1.2.1, .cell (.v ty7 r319.1.2.2.1), ci r319.1.2.2.2.1, ci r319.1.2.2.2.2.1, ci r319.1.2.2.2.2.2.1]), (6, .var [.cell (.v ty5 r319.1.1), ci r319.1.2.1, .cell (.v ty7 r319.1.2.2.1), ci r319.1.2.2.2.1, ci r319.1.2.2.2.2.1, ci r319.1.2.2.2.2.2.1]), (7, .row ty8 r34.1.1), (8, .row ty11 r34.1.2.2.1), (9, .row ty8 r69.1.1), (10, .row ty11 r69.1.2.2.1)]) (fun i => i) (by exact ⟨⟨_, rfl, ad_ren rfl⟩, ⟨_, rfl, ad_ren rfl⟩, ⟨_, rfl, ad_ren rfl⟩, ⟨_, rfl, ad_ren rfl⟩, ⟨_, rfl, ad_ren rfl⟩, ⟨_, rfl, ad_ren rfl⟩, ⟨_, rfl, ad_ren rfl⟩, ⟨_, rfl, ad_ren rfl⟩, ⟨_, rfl, ad_ren rfl⟩, ⟨_, rfl, ad_ren rfl⟩, ⟨_, rfl, ad_ren rfl⟩, ⟨_, rfl, ad_ren rfl⟩, ⟨_, rfl, ad_ren rfl⟩, ⟨_, rfl, ad_ren rfl⟩, ⟨_, rfl, ad_ren rfl⟩, ⟨_, rfl, ad_ren rfl⟩, ⟨_, rfl, ad_ren rfl⟩, ⟨_, rfl, ad_ren rfl⟩, ⟨_, rfl, ad_st rfl rfl ⟨ad_osB rfl rfl, ad_ren rfl, ad_osB rfl rfl, ad_ren rfl, ad_ren rfl, ad_ren rfl, trivial⟩⟩, ⟨_, rfl, ad_ren rfl⟩, ⟨_, rfl, ad_ren rfl⟩, trivial⟩) (by exact ⟨⟨_, rfl, ⟨ad_ren rfl, rfl, ad_ren rfl, rfl, ad_ren rfl, rfl, ad_ren rfl, rfl, ad_ren rfl, rfl, ad_ren rfl, rfl, trivial⟩⟩, ⟨_, rfl, ⟨ad_ren rfl, rfl, ad_ren rfl, rfl, ad_ren rfl, rfl, trivial⟩⟩, ⟨_, rfl, ⟨ad_ren rfl, rfl, ad_ren rfl, rfl, ad_ren rfl, rfl, ad_ren rfl, rfl, ad_ren rfl, rfl, ad_ren rfl, rfl, trivial⟩⟩, ⟨_, rfl, rfl⟩, ⟨_, rfl, ⟨ad_ren rfl, rfl, ad_ren rfl, rfl, ad_ren rfl, rfl, ad_ren rfl, rfl, ad_ren rfl, rfl, ad_ren rfl, rfl, trivial⟩⟩, ⟨_, rfl, ⟨ad_osB rfl rfl, rfl, ad_ren rfl, rfl, ad_osB rfl rfl, rfl, ad_ren rfl, rfl, ad_ren rfl, rfl, ad_ren rfl, rfl, trivial⟩⟩, ⟨_, rfl, ⟨ad_osB rfl rfl, rfl, ad_ren rfl, rfl, ad_osB rfl rfl, rfl, ad_ren rfl, rfl, ad_ren rfl, rfl, ad_ren rfl, rfl, trivial⟩⟩, ⟨_, rfl, rfl⟩, ⟨_, rfl, rfl⟩, ⟨_, rfl, rfl⟩, ⟨_, rfl, rfl⟩, trivial⟩) rfl (fun _ _ => rfl)) ?_
  exact aq_again (AL.sub (sub_r1 (rn [(6, 7), (7, 8), (8, 9), (9, 10)]) (nk rfl) (by kernel_rfl)) (ih314 d314 (i313 + 1) (r319.1.1, r319.1.2.1, r319.1.2.2.1, r319.1.2.2.2.1, r319.1.2.2.2.2.1, r319.1.2.2.2.2.2.1) (by omega) ⟨by omega, (by (try simp only [List.length_set, List.length_append, List.length_cons, List.length_nil, List.length_replicate, List.length_take, List.length_drop]) <;> omega), (by (try simp only [List.length_set, List.length_append, List.length_cons, List.length_nil, List.length_replicate, List.length_take, List.length_drop]) <;> omega)⟩ h))
  refine ap_let (g := 2) (listed := #[true, true, true, true, true, true, true, true, true, true, false, false]) [(9, .ref 0 0), (10, .ref 1 0), (11, .ref 2 0), (12, .bool r34.2), (16, .os 3), (17, .ref 4 0), (18, .int .i64 r69.2.1), (27, .ref 5 0), (28, .int .i64 i313), (29, .ref 6 0), (172, .st [.os 7, .int .i64 r319.1.2.1, .os 8, .int .i64 r319.1.2.2.2.1, .int .i64 r319.1.2.2.2.2.1, .int .i64 r319.1.2.2.2.2.2.1]), (173, .bool r319.2)] [(0, .var [.cell (.v ty5 r33.1.1), ci r33.1.2.1, .cell (.v ty7 r33.1.2.2.1), ci r33.1.2.2.2.1, ci r33.1.2.2.2.2.1, ci r33.1.2.2.2.2.2.1]), (1, .var [ci r33.2.1, ci r33.2.2.1, ci r33.2.2.2.1]), (2, .var [.cell (.os 9), ci r34.1.2.1, .cell (.os 10), ci r34.1.2.2.2.1, ci r34.1.2.2.2.2.1, ci r34.1.2.2.2.2.2.1]), (3, .row ty4 r67.2), (4, .var [.cell (.os 11), ci r69.1.2.1, .cell (.os 12), ci r69.1.2.2.2.1, ci r69.1.2.2.2.2.1, ci r69.1.2.2.2.2.2.1]), (5, .var [.cell (.v ty5 s312.1), ci s312.2.1, .cell (.v ty7 s312.2.2.1), ci s312.2.2.2.1, ci s312.2.2.2.2.1, ci s312.2.2.2.2.2]), (6, .var [.cell (.nilsl), ci 0, .cell (.nilsl), ci 0, ci 0, ci 0]), (7, .row ty8 r319.1.1), (8, .row ty11 r319.1.2.2.1), (9, .row ty8 r34.1.1), (10, .row ty11 r34.1.2.2.1), (11, .row ty8 r69.1.1), (12, .row ty11 r69.1.2.2.1)] ?_ (fun k327 => ?_)
  refine ap_all [10] (by kernel_rfl) ⟨?_, trivial⟩
  refine apo_ao rfl ?_
  refine ao_effS trivial (e_store rfl rfl rfl rfl Try.sizeOf29 rfl) ?_
  refine ap_ni ?_
  refine ap_p 11 (fun _ _ _ h => h) rfl (by kernel_rfl) (rp_assign rfl) rfl ?_
  exact ap_end (by kernel_rfl) (AQ.sub (sub_r1 (rn [(7, 9), (8, 10), (9, 11), (10, 12), (11, 7), (12, 8)]) (nk rfl) (by kernel_rfl)) key)
  refine ap_let (g := 3) (listed := #[true, true, true, true, true, true, true, true, true, false, false, false]) [(9, .ref 0 0), (10, .ref 1 0), (11, .ref 2 0), (12, .bool r34.2), (16, .os 3), (17, .ref 4 0), (18, .int .i64 r69.2.1), (27, .ref 5 0), (28, .int .i64 i313), (172, .st [.os 6, .int .i64 r319.1.2.1, .os 7, .int .i64 r319.1.2.2.2.1, .int .i64 r319.1.2.2.2.2.1, .int .i64 r319.1.2.2.2.2.2.1]), (173, .bool r319.2)] [(0, .var [.cell (.v ty5 r33.1.1), ci r33.1.2.1, .cell (.v ty7 r33.1.2.2.1), ci r33.1.2.2.2.1, ci r33.1.2.2.2.2.1, ci r33.1.2.2.2.2.2.1]), (1, .var [ci r33.2.1, ci r33.2.2.1, ci r33.2.2.2.1]), (2, .var [.cell (.os 8), ci r34.1.2.1, .cell (.os 9), ci r34.1.2.2.2.1, ci r34.1.2.2.2.2.1, ci r34.1.2.2.2.2.2.1]), (3, .row ty4 r67.2), (4, .var [.cell (.os 10), ci r69.1.2.1, .cell (.os 11), ci r69.1.2.2.2.1, ci r69.1.2.2.2.2.1, ci r69.1.2.2.2.2.2.1]), (5, .var [.cell (.v ty5 s312.1), ci s312.2.1, .cell (.v ty7 s312.2.2.1), ci s312.2.2.2.1, ci s312.2.2.2.2.1, ci s312.2.2.2.2.2]), (6, .row ty8 r319.1.1), (7, .row ty11 r319.1.2.2.1), (8, .row ty8 r34.1.1), (9, .row ty11 r34.1.2.2.1), (10, .row ty8 r69.1.1), (11, .row ty11 r69.1.2.2.1)] ?_ (fun k326 => ?_)
  refine ap_all [9] (by kernel_rfl) ⟨?_, trivial⟩
  refine apo_ao rfl ?_
  refine ao_eff trivial (e_alloc 12 (y := .st [.nilsl, .int .i64 0, .nilsl, .int .i64 0, .int .i64 0, .int .i64 0]) Try.zeroValue29 (fun ρ h M => ra_zero_st (t := ty1) rfl rfl rfl) rfl rfl rfl rfl rfl) rfl ?_
  refine ap_ni ?_
  exact ap_gr (rn [(6, 12), (7, 6), (8, 7), (9, 8), (10, 9), (11, 10), (12, 11)]) (nk rfl) k327 (by kernel_rfl)
  refine ap_let (g := 6) (listed := #[true, true, true, true, true, false, false, false, false, true, false, false]) [(9, .ref 0 0), (10, .ref 1 0), (11, .ref 2 0), (12, .bool r34.2), (16, .os 3), (17, .ref 4 0), (18, .int .i64 r69.2.1), (27, .ref 5 0), (28, .int .i64 i313), (29, .ref 6 0), (166, .v ty1 ((s312.1, (s312.2.1, (s312.2.2.1, (s312.2.2.2.1, (s312.2.2.2.2.1, (s312.2.2.2.2.2, ())))))) : dy3)), (170, .v ty4 ((r67.2.getD i313.toNat (0, (0, (0, ())))) : dy6))] [(0, .var [.cell (.v ty5 r33.1.1), ci r33.1.2.1, .cell (.v ty7 r33.1.2.2.1), ci r33.1.2.2.2.1, ci r33.1.2.2.2.2.1, ci r33.1.2.2.2.2.2.1]), (1, .var [ci r33.2.1, ci r33.2.2.1, ci r33.2.2.2.1]), (2, .var [.cell (.os 7), ci r34.1.2.1, .cell (.os 8), ci r34.1.2.2.2.1, ci r34.1.2.2.2.2.1, ci r34.1.2.2.2.2.2.1]), (3, .row ty4 r67.2), (4, .var [.cell (.os 9), ci r69.1.2.1, .cell (.os 10), ci r69.1.2.2.2.1, ci r69.1.2.2.2.2.1, ci r69.1.2.2.2.2.2.1]), (5, .var [.cell (.v ty5 s312.1), ci s312.2.1, .cell (.v ty7 s312.2.2.1), ci s312.2.2.2.1, ci s312.2.2.2.2.1, ci s312.2.2.2.2.2]), (6, .var [.cell (.nilsl), ci 0, .cell (.nilsl), ci 0, ci 0, ci 0]), (7, .row ty8 r34.1.1), (8, .row ty11 r34.1.2.2.1), (9, .row ty8 r69.1.1), (10, .row ty11 r69.1.2.2.1)] ?_ (fun k328 => ?_)
  refine ap_all [5] (by kernel_rfl) ⟨?_, trivial⟩
  refine apo_ao rfl ?_
  refine ao_call [] 11 trivial (c_impl_DoTask (is_mk r319h)) Try.func10 rfl rfl rfl rfl ⟨ad_ren rfl, ad_ren rfl, trivial⟩ trivial rfl rfl rfl rfl rfl rfl rfl (fun r' H' hr => ?_)
  obtain ⟨rfl, rfl⟩ := hr
  refine ao_norm (y := .tup [.st [.os 11, .int .i64 r319.1.2.1, .os 12, .int .i64 r319.1.2.2.2.1, .int .i64 r319.1.2.2.2.2.1, .int .i64 r319.1.2.2.2.2.2.1], .bool r319.2]) (H' := [(0, .var [.cell (.v ty5 r33.1.1), ci r33.1.2.1, .cell (.v ty7 r33.1.2.2.1), ci r33.1.2.2.2.1, ci r33.1.2.2.2.2.1, ci r33.1.2.2.2.2.2.1]), (1, .var [ci r33.2.1, ci r33.2.2.1, ci r33.2.2.2.1]), (2, .var [.cell (.os 7), ci r34.1.2.1, .cell (.os 8), ci r34.1.2.2.2.1, ci r34.1.2.2.2.2.1, ci r34.1.2.2.2.2.2.1]), (3, .row ty4 r67.2), (4, .var [.cell (.os 9), ci r69.1.2.1, .cell (.os 10), ci r69.1.2.2.2.1, ci r69.1.2.2.2.2.1, ci r69.1.2.2.2.2.2.1]), (5, .var [.cell (.v ty5 s312.1), ci s312.2.1, .cell (.v ty7 s312.2.2.1), ci s312.2.2.2.1, ci s312.2.2.2.2.1, ci s312.2.2.2.2.2]), (6, .var [.cell (.nilsl), ci 0, .cell (.nilsl), ci 0, ci 0, ci 0]), (7, .row ty8 r34.1.1), (8, .row ty11 r34.1.2.2.1), (9, .row ty8 r69.1.1), (10, .row ty11 r69.1.2.2.1), (11, .row ty8 r319.1.1), (12, .row ty11 r319.1.2.2.1)]) rfl rfl ?_
  refine row_len_o 11 (r319.1.1.length : Int) rfl rfl (fun hr320 => ?_)
  refine row_len_o 12 (r319.1.2.2.1.length : Int) rfl rfl (fun hr321 => ?_)
  refine ap_ni ?_
  refine ap_p 6 (fun _ _ _ h => h) rfl (by kernel_rfl) (rp_move rfl) rfl ?_
  refine ap_p 7 (fun _ _ _ h => h) rfl (by kernel_rfl) (rp_extract rfl rfl) rfl ?_
  refine ap_p 8 (fun _ _ _ h => h) rfl (by kernel_rfl) (rp_extract rfl rfl) rfl ?_
  exact ap_gr (rn [(7, 11), (8, 12), (9, 7), (10, 8), (11, 9), (12, 10)]) (nk rfl) k327 (by kernel_rfl)
  refine ap_let (g := 7) (listed := #[true, true, true, true, true, false, false, false, false, false, false, false]) [(9, .ref 0 0), (10, .ref 1 0), (11, .ref 2 0), (12, .bool r34.2), (16, .os 3), (17, .ref 4 0), (18, .int .i64 r69.2.1), (27, .ref 5 0), (28, .int .i64 i313), (166, .v ty1 ((s312.1, (s312.2.1, (s312.2.2.1, (s312.2.2.2.1, (s312.2.2.2.2.1, (s312.2.2.2.2.2, ())))))) : dy3)), (170, .v ty4 ((r67.2.getD i313.toNat (0, (0, (0, ())))) : dy6))] [(0, .var [.cell (.v ty5 r33.1.1), ci r33.1.2.1, .cell (.v ty7 r33.1.2.2.1), ci r33.1.2.2.2.1, ci r33.1.2.2.2.2.1, ci r33.1.2.2.2.2.2.1]), (1, .var [ci r33.2.1, ci r33.2.2.1, ci r33.2.2.2.1]), (2, .var [.cell (.os 6), ci r34.1.2.1, .cell (.os 7), ci r34.1.2.2.2.1, ci r34.1.2.2.2.2.1, ci r34.1.2.2.2.2.2.1]), (3, .row ty4 r67.2), (4, .var [.cell (.os 8), ci r69.1.2.1, .cell (.os 9), ci r69.1.2.2.2.1, ci r69.1.2.2.2.2.1, ci r69.1.2.2.2.2.2.1]), (5, .var [.cell (.v ty5 s312.1), ci s312.2.1, .cell (.v ty7 s312.2.2.1), ci s312.2.2.2.1, ci s312.2.2.2.2.1, ci s312.2.2.2.2.2]), (6, .row ty8 r34.1.1), (7, .row ty11 r34.1.2.2.1), (8, .row ty8 r69.1.1), (9, .row ty11 r69.1.2.2.1)] ?_ (fun k325 => ?_)
  refine ap_all [5, 9] (by kernel_rfl) ⟨?_, ?_, trivial⟩
  refine apo_ao rfl ?_
  refine ao_call [] 10 trivial (c_impl_DoTask (is_mk r319h)) Try.func10 rfl rfl rfl rfl ⟨ad_ren rfl, ad_ren rfl, trivial⟩ trivial rfl rfl rfl rfl rfl rfl rfl (fun r' H' hr => ?_)
  obtain ⟨rfl, rfl⟩ := hr
  refine ao_norm (y := .tup [.st [.os 10, .int .i64 r319.1.2.1, .os 11, .int .i64 r319.1.2.2.2.1, .int .i64 r319.1.2.2.2.2.1, .int .i64 r319.1.2.2.2.2.2.1], .bool r319.2]) (H' := [(0, .var [.cell (.v ty5 r33.1.1), ci r33.1.2.1, .cell (.v ty7 r33.1.2.2.1), ci r33.1.2.2.2.1, ci r33.1.2.2.2.2.1, ci r33.1.2.2.2.2.2.1]), (1, .var [ci r33.2.1, ci r33.2.2.1, ci r33.2.2.2.1]), (2, .var [.cell (.os 6), ci r34.1.2.1, .cell (.os 7), ci r34.1.2.2.2.1, ci r34.1.2.2.2.2.1, ci r34.1.2.2.2.2.2.1]), (3, .row ty4 r67.2), (4, .var [.cell (.os 8), ci r69.1.2.1, .cell (.os 9), ci r69.1.2.2.2.1, ci r69.1.2.2.2.2.1, ci r69.1.2.2.2.2.2.1]), (5, .var [.cell (.v ty5 s312.1), ci s312.2.1, .cell (.v ty7 s312.2.2.1), ci s312.2.2.2.1, ci s312.2.2.2.2.1, ci s312.2.2.2.2.2]), (6, .row ty8 r34.1.1), (7, .row ty11 r34.1.2.2.1), (8, .row ty8 r69.1.1), (9, .row ty11 r69.1.2.2.1), (10, .row ty8 r319.1.1), (11, .row ty11 r319.1.2.2.1)]) rfl rfl ?_
  refine row_len_o 10 (r319.1.1.length : Int) rfl rfl (fun hr320 => ?_)
  refine row_len_o 11 (r319.1.2.2.1.length : Int) rfl rfl (fun hr321 => ?_)
  refine ap_ni ?_
  refine ap_p 6 (fun _ _ _ h => h) rfl (by kernel_rfl) (rp_move rfl) rfl ?_
  refine ap_p 7 (fun _ _ _ h => h) rfl (by kernel_rfl) (rp_extract rfl rfl) rfl ?_
  refine ap_p 8 (fun _ _ _ h => h) rfl (by kernel_rfl) (rp_extract rfl rfl) rfl ?_
  exact ap_gr (rn [(6, 10), (7, 11), (8, 6), (9, 7), (10, 8), (11, 9)]) (nk rfl) k326 (by kernel_rfl)
  refine apo_ao rfl ?_
  refine ao_eff trivial (e_alloc 10 (y := .st [.nilsl, .int .i64 0, .nilsl, .int .i64 0, .int .i64 0, .int .i64 0]) Try.zeroValue29 (fun ρ h M => ra_zero_st (t := ty1) rfl rfl rfl) rfl rfl rfl rfl rfl) rfl ?_
  refine ap_ni ?_
  exact ap_gr (rn [(6, 10), (7, 6), (8, 7), (9, 8), (10, 9)]) (nk rfl) k328 (by kernel_rfl)
  refine ap_let (g := 7) (listed := #[true, true, true, true, false, false, false, false, false, true, false, false]) [(9, .ref 0 0), (10, .ref 1 0), (11, .ref 2 0), (12, .bool r34.2), (16, .os 3), (17, .ref 4 0), (18, .int .i64 r69.2.1), (27, .ref 5 0), (28, .int .i64 i313), (29, .ref 6 0), (166, .v ty1 ((s312.1, (s312.2.1, (s312.2.2.1, (s312.2.2.2.1, (s312.2.2.2.2.1, (s312.2.2.2.2.2, ())))))) : dy3)), (169, .elem 3 0 3 i313.toNat)] [(0, .var [.cell (.v ty5 r33.1.1), ci r33.1.2.1, .cell (.v ty7 r33.1.2.2.1), ci r33.1.2.2.2.1, ci r33.1.2.2.2.2.1, ci r33.1.2.2.2.2.2.1]), (1, .var [ci r33.2.1, ci r33.2.2.1, ci r33.2.2.2.1]), (2, .var [.cell (.os 7), ci r34.1.2.1, .cell (.os 8), ci r34.1.2.2.2.1, ci r34.1.2.2.2.2.1, ci r34.1.2.2.2.2.2.1]), (3, .row ty4 r67.2), (4, .var [.cell (.os 9), ci r69.1.2.1, .cell (.os 10), ci r69.1.2.2.2.1, ci r69.1.2.2.2.2.1, ci r69.1.2.2.2.2.2.1]), (5, .var [.cell (.v ty5 s312.1), ci s312.2.1, .cell (.v ty7 s312.2.2.1), ci s312.2.2.2.1, ci s312.2.2.2.2.1, ci s312.2.2.2.2.2]), (6, .var [.cell (.nilsl), ci 0, .cell (.nilsl), ci 0, ci 0, ci 0]), (7, .row ty8 r34.1.1), (8, .row ty11 r34.1.2.2.1), (9, .row ty8 r69.1.1), (10, .row ty11 r69.1.2.2.1)] ?_ (fun k329 => ?_)
  refine ap_all [4] (by kernel_rfl) ⟨?_, trivial⟩
  refine apo_ao rfl ?_
  refine ao_r (r_load_elemv (t := ty4) Try.isAgg33 Try.sizeOf33 rfl rfl (show i313.toNat < r67.2.length from by omega)) rfl ?_
  refine ap_ni ?_
  exact ap_gr idn (nk rfl) k328 (by kernel_rfl)
  refine ap_let (g := 7) (listed := #[false, true, true, true, true, false, false, false, false, true, false, false]) [(9, .ref 0 0), (10, .ref 1 0), (11, .ref 2 0), (12, .bool r34.2), (16, .os 3), (17, .ref 4 0), (18, .int .i64 r69.2.1), (27, .ref 5 0), (28, .int .i64 i313), (29, .ref 6 0), (170, .v ty4 ((r67.2.getD i313.toNat (0, (0, (0, ())))) : dy6))] [(0, .var [.cell (.v ty5 r33.1.1), ci r33.1.2.1, .cell (.v ty7 r33.1.2.2.1), ci r33.1.2.2.2.1, ci r33.1.2.2.2.2.1, ci r33.1.2.2.2.2.2.1]), (1, .var [ci r33.2.1, ci r33.2.2.1, ci r33.2.2.2.1]), (2, .var [.cell (.os 7), ci r34.1.2.1, .cell (.os 8), ci r34.1.2.2.2.1, ci r34.1.2.2.2.2.1, ci r34.1.2.2.2.2.2.1]), (3, .row ty4 r67.2), (4, .var [.cell (.os 9), ci r69.1.2.1, .cell (.os 10), ci r69.1.2.2.2.1, ci r69.1.2.2.2.2.1, ci r69.1.2.2.2.2.2.1]), (5, .var [.cell (.v ty5 s312.1), ci s312.2.1, .cell (.v ty7 s312.2.2.1), ci s312.2.2.2.1, ci s312.2.2.2.2.1, ci s312.2.2.2.2.2]), (6, .var [.cell (.nilsl), ci 0, .cell (.nilsl), ci 0, ci 0, ci 0]), (7, .row ty8 r34.1.1), (8, .row ty11 r34.1.2.2.1), (9, .row ty8 r69.1.1), (10, .row ty11 r69.1.2.2.1)] ?_ (fun k333 => ?_)
  refine ap_all [0] (by kernel_rfl) ⟨?_, trivial⟩
  refine apo_ao rfl ?_
  refine ao_r (r_load_part (τ := ty1) (y := ((s312.1, (s312.2.1, (s312.2.2.1, (s312.2.2.2.1, (s312.2.2.2.2.1, (s312.2.2.2.2.2, ())))))) : dy3)) [] [] rfl Try.isAgg29 Try.sizeOf29 rfl rfl rfl rfl) rfl ?_
  refine ap_ni ?_
  exact ap_gr idn (nk rfl) k328 (by kernel_rfl)
  refine ap_let (g := 8) (listed := #[true, true, true, true, false, false, false, false, false, false, false, false]) [(9, .ref 0 0), (10, .ref 1 0), (11, .ref 2 0), (12, .bool r34.2), (16, .os 3), (17, .ref 4 0), (18, .int .i64 r69.2.1), (27, .ref 5 0), (28, .int .i64 i313), (166, .v ty1 ((s312.1, (s312.2.1, (s312.2.2.1, (s312.2.2.2.1, (s312.2.2.2.2.1, (s312.2.2.2.2.2, ())))))) : dy3)), (169, .elem 3 0 3 i313.toNat)] [(0, .var [.cell (.v ty5 r33.1.1), ci r33.1.2.1, .cell (.v ty7 r33.1.2.2.1), ci r33.1.2.2.2.1, ci r33.1.2.2.2.2.1, ci r33.1.2.2.2.2.2.1]), (1, .var [ci r33.2.1, ci r33.2.2.1, ci r33.2.2.2.1]), (2, .var [.cell (.os 6), ci r34.1.2.1, .cell (.os 7), ci r34.1.2.2.2.1, ci r34.1.2.2.2.2.1, ci r34.1.2.2.2.2.2.1]), (3, .row ty4 r67.2), (4, .var [.cell (.os 8), ci r69.1.2.1, .cell (.os 9), ci r69.1.2.2.2.1, ci r69.1.2.2.2.2.1, ci r69.1.2.2.2.2.2.1]), (5, .var [.cell (.v ty5 s312.1), ci s312.2.1, .cell (.v ty7 s312.2.2.1), ci s312.2.2.2.1, ci s312.2.2.2.2.1, ci s312.2.2.2.2.2]), (6, .row ty8 r34.1.1), (7, .row ty11 r34.1.2.2.1), (8, .row ty8 r69.1.1), (9, .row ty11 r69.1.2.2.1)] ?_ (fun k324 => ?_)
  refine ap_all [4, 9] (by kernel_rfl) ⟨?_, ?_, trivial⟩
  refine apo_ao rfl ?_
  refine ao_r (r_load_elemv (t := ty4) Try.isAgg33 Try.sizeOf33 rfl rfl (show i313.toNat < r67.2.length from by omega)) rfl ?_
  refine ap_ni ?_
  exact ap_gr idn (nk rfl) k325 (by kernel_rfl)
  refine apo_ao rfl ?_
  refine ao_eff trivial (e_alloc 10 (y := .st [.nilsl, .int .i64 0, .nilsl, .int .i64 0, .int .i64 0, .int .i64 0]) Try.zeroValue29 (fun ρ h M => ra_zero_st (t := ty1) rfl rfl rfl) rfl rfl rfl rfl rfl) rfl ?_
  refine ap_ni ?_
  exact ap_gr (rn [(6, 10), (7, 6), (8, 7), (9, 8), (10, 9)]) (nk rfl) k329 (by kernel_rfl)
  refine ap_let (g := 8) (listed := #[true, true, true, false, false, false, false, false, false, true, false, false]) [(9, .ref 0 0), (10, .ref 1 0), (11, .ref 2 0), (12, .bool r34.2), (16, .os 3), (17, .ref 4 0), (18, .int .i64 r69.2.1), (27, .ref 5 0), (28, .int .i64 i313), (29, .ref 6 0), (166, .v ty1 ((s312.1, (s312.2.1, (s312.2.2.1, (s312.2.2.2.1, (s312.2.2.2.2.1, (s312.2.2.2.2.2, ())))))) : dy3)), (167, .os 3), (168, .int .i64 i313)] [(0, .var [.cell (.v ty5 r33.1.1), ci r33.1.2.1, .cell (.v ty7 r33.1.2.2.1), ci r33.1.2.2.2.1, ci r33.1.2.2.2.2.1, ci r33.1.2.2.2.2.2.1]), (1, .var [ci r33.2.1, ci r33.2.2.1, ci r33.2.2.2.1]), (2, .var [.cell (.os 7), ci r34.1.2.1, .cell (.os 8), ci r34.1.2.2.2.1, ci r34.1.2.2.2.2.1, ci r34.1.2.2.2.2.2.1]), (3, .row ty4 r67.2), (4, .var [.cell (.os 9), ci r69.1.2.1, .cell (.os 10), ci r69.1.2.2.2.1, ci r69.1.2.2.2.2.1, ci r69.1.2.2.2.2.2.1]), (5, .var [.cell (.v ty5 s312.1), ci s312.2.1, .cell (.v ty7 s312.2.2.1), ci s312.2.2.2.1, ci s312.2.2.2.2.1, ci s312.2.2.2.2.2]), (6, .var [.cell (.nilsl), ci 0, .cell (.nilsl), ci 0, ci 0, ci 0]), (7, .row ty8 r34.1.1), (8, .row ty11 r34.1.2.2.1), (9, .row ty8 r69.1.1), (10, .row ty11 r69.1.2.2.1)] ?_ (fun k330 => ?_)
  refine ap_all [3] (by kernel_rfl) ⟨?_, trivial⟩
  refine apo_ao rfl ?_
  refine ao_r (r_idxAddr_os Try.underlying42 Try.sizeOf33 rfl rfl rfl (show 0 ≤ i313 from by omega) (show i313 < (r67.2.length : Int) from by omega)) rfl ?_
  refine ap_ni ?_
  exact ap_gr idn (nk rfl) k329 (by kernel_rfl)
  refine ap_let (g := 8) (listed := #[false, true, true, true, true, false, false, false, false, false, false, false]) [(9, .ref 0 0), (10, .ref 1 0), (11, .ref 2 0), (12, .bool r34.2), (16, .os 3), (17, .ref 4 0), (18, .int .i64 r69.2.1), (27, .ref 5 0), (28, .int .i64 i313), (170, .v ty4 ((r67.2.getD i313.toNat (0, (0, (0, ())))) : dy6))] [(0, .var [.cell (.v ty5 r33.1.1), ci r33.1.2.1, .cell (.v ty7 r33.1.2.2.1), ci r33.1.2.2.2.1, ci r33.1.2.2.2.2.1, ci r33.1.2.2.2.2.2.1]), (1, .var [ci r33.2.1, ci r33.2.2.1, ci r33.2.2.2.1]), (2, .var [.cell (.os 6), ci r34.1.2.1, .cell (.os 7), ci r34.1.2.2.2.1, ci r34.1.2.2.2.2.1, ci r34.1.2.2.2.2.2.1]), (3, .row ty4 r67.2), (4, .var [.cell (.os 8), ci r69.1.2.1, .cell (.os 9), ci r69.1.2.2.2.1, ci r69.1.2.2.2.2.1, ci r69.1.2.2.2.2.2.1]), (5, .var [.cell (.v ty5 s312.1), ci s312.2.1, .cell (.v ty7 s312.2.2.1), ci s312.2.2.2.1, ci s312.2.2.2.2.1, ci s312.2.2.2.2.2]), (6, .row ty8 r34.1.1), (7, .row ty11 r34.1.2.2.1), (8, .row ty8 r69.1.1), (9, .row ty11 r69.1.2.2.1)] ?_ (fun k332 => ?_)
  refine ap_all [0, 9] (by kernel_rfl) ⟨?_, ?_, trivial⟩
  refine apo_ao rfl ?_
  refine ao_r (r_load_part (τ := ty1) (y := ((s312.1, (s312.2.1, (s312.2.2.1, (s312.2.2.2.1, (s312.2.2.2.2.1, (s312.2.2.2.2.2, ())))))) : dy3)) [] [] rfl Try.isAgg29 Try.sizeOf29 rfl rfl rfl rfl) rfl ?_
  refine ap_ni ?_
  exact ap_gr idn (nk rfl) k325 (by kernel_rfl)
  refine apo_ao rfl ?_
  refine ao_eff trivial (e_alloc 10 (y := .st [.nilsl, .int .i64 0, .nilsl, .int .i64 0, .int .i64 0, .int .i64 0]) Try.zeroValue29 (fun ρ h M => ra_zero_st (t := ty1) rfl rfl rfl) rfl rfl rfl rfl rfl) rfl ?_
  refine ap_ni ?_
  exact ap_gr (rn [(6, 10), (7, 6), (8, 7), (9, 8), (10, 9)]) (nk rfl) k333 (by kernel_rfl)
  refine ap_let (g := 8) (listed := #[false, true, true, true, false, false, false, false, false, true, false, false]) [(9, .ref 0 0), (10, .ref 1 0), (11, .ref 2 0), (12, .bool r34.2), (16, .os 3), (17, .ref 4 0), (18, .int .i64 r69.2.1), (27, .ref 5 0), (28, .int .i64 i313), (29, .ref 6 0), (169, .elem 3 0 3 i313.toNat)] [(0, .var [.cell (.v ty5 r33.1.1), ci r33.1.2.1, .cell (.v ty7 r33.1.2.2.1), ci r33.1.2.2.2.1, ci r33.1.2.2.2.2.1, ci r33.1.2.2.2.2.2.1]), (1, .var [ci r33.2.1, ci r33.2.2.1, ci r33.2.2.2.1]), (2, .var [.cell (.os 7), ci r34.1.2.1, .cell (.os 8), ci r34.1.2.2.2.1, ci r34.1.2.2.2.2.1, ci r34.1.2.2.2.2.2.1]), (3, .row ty4 r67.2), (4, .var [.cell (.os 9), ci r69.1.2.1, .cell (.os 10), ci r69.1.2.2.2.1, ci r69.1.2.2.2.2.1, ci r69.1.2.2.2.2.2.1]), (5, .var [.cell (.v ty5 s312.1), ci s312.2.1, .cell (.v ty7 s312.2.2.1), ci s312.2.2.2.1, ci s312.2.2.2.2.1, ci s312.2.2.2.2.2]), (6, .var [.cell (.nilsl), ci 0, .cell (.nilsl), ci 0, ci 0, ci 0]), (7, .row ty8 r34.1.1), (8, .row ty11 r34.1.2.2.1), (9, .row ty8 r69.1.1), (10, .row ty11 r69.1.2.2.1)] ?_ (fun k334 => ?_)
  refine ap_all [0, 4] (by kernel_rfl) ⟨?_, ?_, trivial⟩
  refine apo_ao rfl ?_
  refine ao_r (r_load_part (τ := ty1) (y := ((s312.1, (s312.2.1, (s312.2.2.1, (s312.2.2.2.1, (s312.2.2.2.2.1, (s312.2.2.2.2.2, ())))))) : dy3)) [] [] rfl Try.isAgg29 Try.sizeOf29 rfl rfl rfl rfl) rfl ?_
  refine ap_ni ?_
  exact ap_gr idn (nk rfl) k329 (by kernel_rfl)
  refine apo_ao rfl ?_
  refine ao_r (r_load_elemv (t := ty4) Try.isAgg33 Try.sizeOf33 rfl rfl (show i313.toNat < r67.2.length from by omega)) rfl ?_
  refine ap_ni ?_
  exact ap_gr idn (nk rfl) k333 (by kernel_rfl)
  refine ap_let (g := 9) (listed := #[true, true, true, false, false, false, false, false, false, false, false, false]) [(9, .ref 0 0), (10, .ref 1 0), (11, .ref 2 0), (12, .bool r34.2), (16, .os 3), (17, .ref 4 0), (18, .int .i64 r69.2.1), (27, .ref 5 0), (28, .int .i64 i313), (166, .v ty1 ((s312.1, (s312.2.1, (s312.2.2.1, (s312.2.2.2.1, (s312.2.2.2.2.1, (s312.2.2.2.2.2, ())))))) : dy3)), (167, .os 3), (168, .int .i64 i313)] [(0, .var [.cell (.v ty5 r33.1.1), ci r33.1.2.1, .cell (.v ty7 r33.1.2.2.1), ci r33.1.2.2.2.1, ci r33.1.2.2.2.2.1, ci r33.1.2.2.2.2.2.1]), (1, .var [ci r33.2.1, ci r33.2.2.1, ci r33.2.2.2.1]), (2, .var [.cell (.os 6), ci r34.1.2.1, .cell (.os 7), ci r34.1.2.2.2.1, ci r34.1.2.2.2.2.1, ci r34.1.2.2.2.2.2.1]), (3, .row ty4 r67.2), (4, .var [.cell (.os 8), ci r69.1.2.1, .cell (.os 9), ci r69.1.2.2.2.1, ci r69.1.2.2.2.2.1, ci r69.1.2.2.2.2.2.1]), (5, .var [.cell (.v ty5 s312.1), ci s312.2.1, .cell (.v ty7 s312.2.2.1), ci s312.2.2.2.1, ci s312.2.2.2.2.1, ci s312.2.2.2.2.2]), (6, .row ty8 r34.1.1), (7, .row ty11 r34.1.2.2.1), (8, .row ty8 r69.1.1), (9, .row ty11 r69.1.2.2.1)] ?_ (fun k323 => ?_)
  refine ap_all [3, 9] (by kernel_rfl) ⟨?_, ?_, trivial⟩
  refine apo_ao rfl ?_
  refine ao_r (r_idxAddr_os Try.underlying42 Try.sizeOf33 rfl rfl rfl (show 0 ≤ i313 from by omega) (show i313 < (r67.2.length : Int) from by omega)) rfl ?_
  refine ap_ni ?_
  exact ap_gr idn (nk rfl) k324 (by kernel_rfl)
  refine apo_ao rfl ?_
  refine ao_eff trivial (e_alloc 10 (y := .st [.nilsl, .int .i64 0, .nilsl, .int .i64 0, .int .i64 0, .int .i64 0]) Try.zeroValue29 (fun ρ h M => ra_zero_st (t := ty1) rfl rfl rfl) rfl rfl rfl rfl rfl) rfl ?_
  refine ap_ni ?_
  exact ap_gr (rn [(6, 10), (7, 6), (8, 7), (9, 8), (10, 9)]) (nk rfl) k330 (by kernel_rfl)
  refine ap_let (g := 9) (listed := #[false, true, true, true, false, false, false, false, false, false, false, false]) [(9, .ref 0 0), (10, .ref 1 0), (11, .ref 2 0), (12, .bool r34.2), (16, .os 3), (17, .ref 4 0), (18, .int .i64 r69.2.1), (27, .ref 5 0), (28, .int .i64 i313), (169, .elem 3 0 3 i313.toNat)] [(0, .var [.cell (.v ty5 r33.1.1), ci r33.1.2.1, .cell (.v ty7 r33.1.2.2.1), ci r33.1.2.2.2.1, ci r33.1.2.2.2.2.1, ci r33.1.2.2.2.2.2.1]), (1, .var [ci r33.2.1, ci r33.2.2.1, ci r33.2.2.2.1]), (2, .var [.cell (.os 6), ci r34.1.2.1, .cell (.os 7), ci r34.1.2.2.2.1, ci r34.1.2.2.2.2.1, ci r34.1.2.2.2.2.2.1]), (3, .row ty4 r67.2), (4, .var [.cell (.os 8), ci r69.1.2.1, .cell (.os 9), ci r69.1.2.2.2.1, ci r69.1.2.2.2.2.1, ci r69.1.2.2.2.2.2.1]), (5, .var [.cell (.v ty5 s312.1), ci s312.2.1, .cell (.v ty7 s312.2.2.1), ci s312.2.2.2.1, ci s312.2.2.2.2.1, ci s312.2.2.2.2.2]), (6, .row ty8 r34.1.1), (7, .row ty11 r34.1.2.2.1), (8, .row ty8 r69.1.1), (9, .row ty11 r69.1.2.2.1)] ?_ (fun k331 => ?_)
  refine ap_all [0, 4, 9] (by kernel_rfl) ⟨?_, ?_, ?_, trivial⟩
  refine apo_ao rfl ?_
  refine ao_r (r_load_part (τ := ty1) (y := ((s312.1, (s312.2.1, (s312.2.2.1, (s312.2.2.2.1, (s312.2.2.2.2.1, (s312.2.2.2.2.2, ())))))) : dy3)) [] [] rfl Try.isAgg29 Try.sizeOf29 rfl rfl rfl rfl) rfl ?_
  refine ap_ni ?_
  exact ap_gr idn (nk rfl) k324 (by kernel_rfl)
  refine apo_ao rfl ?_
  refine ao_r (r_load_elemv (t := ty4) Try.isAgg33 Try.sizeOf33 rfl rfl (show i313.toNat < r67.2.length from by omega)) rfl ?_
  refine ap_ni ?_
  exact ap_gr idn (nk rfl) k332 (by kernel_rfl)
  refine apo_ao rfl ?_
  refine ao_eff trivial (e_alloc 10 (y := .st [.nilsl, .int .i64 0, .nilsl, .int .i64 0, .int .i64 0, .int .i64 0]) Try.zeroValue29 (fun ρ h M => ra_zero_st (t := ty1) rfl rfl rfl) rfl rfl rfl rfl rfl) rfl ?_
  refine ap_ni ?_
  exact ap_gr (rn [(6, 10), (7, 6), (8, 7), (9, 8), (10, 9)]) (nk rfl) k334 (by kernel_rfl)
  refine ap_let (g := 9) (listed := #[false, true, true, false, false, false, false, false, false, true, false, false]) [(9, .ref 0 0), (10, .ref 1 0), (11, .ref 2 0), (12, .bool r34.2), (16, .os 3), (17, .ref 4 0), (18, .int .i64 r69.2.1), (27, .ref 5 0), (28, .int .i64 i313), (29, .ref 6 0), (167, .os 3), (168, .int .i64 i313)] [(0, .var [.cell (.v ty5 r33.1.1), ci r33.1.2.1, .cell (.v ty7 r33.1.2.2.1), ci r33.1.2.2.2.1, ci r33.1.2.2.2.2.1, ci r33.1.2.2.2.2.2.1]), (1, .var [ci r33.2.1, ci r33.2.2.1, ci r33.2.2.2.1]), (2, .var [.cell (.os 7), ci r34.1.2.1, .cell (.os 8), ci r34.1.2.2.2.1, ci r34.1.2.2.2.2.1, ci r34.1.2.2.2.2.2.1]), (3, .row ty4 r67.2), (4, .var [.cell (.os 9), ci r69.1.2.1, .cell (.os 10), ci r69.1.2.2.2.1, ci r69.1.2.2.2.2.1, ci r69.1.2.2.2.2.2.1]), (5, .var [.cell (.v ty5 s312.1), ci s312.2.1, .cell (.v ty7 s312.2.2.1), ci s312.2.2.2.1, ci s312.2.2.2.2.1, ci s312.2.2.2.2.2]), (6, .var [.cell (.nilsl), ci 0, .cell (.nilsl), ci 0, ci 0, ci 0]), (7, .row ty8 r34.1.1), (8, .row ty11 r34.1.2.2.1), (9, .row ty8 r69.1.1), (10, .row ty11 r69.1.2.2.1)] ?_ (fun k335 => ?_)
  refine ap_all [0, 3] (by kernel_rfl) ⟨?_, ?_, trivial⟩
  refine apo_ao rfl ?_
  refine ao_r (r_load_part (τ := ty1) (y := ((s312.1, (s312.2.1, (s312.2.2.1, (s312.2.2.2.1, (s312.2.2.2.2.1, (s312.2.2.2.2.2, ())))))) : dy3)) [] [] rfl Try.isAgg29 Try.sizeOf29 rfl rfl rfl rfl) rfl ?_
  refine ap_ni ?_
  exact ap_gr idn (nk rfl) k330 (by kernel_rfl)
  refine apo_ao rfl ?_
  refine ao_r (r_idxAddr_os Try.underlying42 Try.sizeOf33 rfl rfl rfl (show 0 ≤ i313 from by omega) (show i313 < (r67.2.length : Int) from by omega)) rfl ?_
  refine ap_ni ?_
  exact ap_gr idn (nk rfl) k334 (by kernel_rfl)
  refine ap_let (g := 10) (listed := #[false, true, true, false, false, false, false, false, false, false, false, false]) [(9, .ref 0 0), (10, .ref 1 0), (11, .ref 2 0), (12, .bool r34.2), (16, .os 3), (17, .ref 4 0), (18, .int .i64 r69.2.1), (27, .ref 5 0), (28, .int .i64 i313), (167, .os 3), (168, .int .i64 i313)] [(0, .var [.cell (.v ty5 r33.1.1), ci r33.1.2.1, .cell (.v ty7 r33.1.2.2.1), ci r33.1.2.2.2.1, ci r33.1.2.2.2.2.1, ci r33.1.2.2.2.2.2.1]), (1, .var [ci r33.2.1, ci r33.2.2.1, ci r33.2.2.2.1]), (2, .var [.cell (.os 6), ci r34.1.2.1, .cell (.os 7), ci r34.1.2.2.2.1, ci r34.1.2.2.2.2.1, ci r34.1.2.2.2.2.2.1]), (3, .row ty4 r67.2), (4, .var [.cell (.os 8), ci r69.1.2.1, .cell (.os 9), ci r69.1.2.2.2.1, ci r69.1.2.2.2.2.1, ci r69.1.2.2.2.2.2.1]), (5, .var [.cell (.v ty5 s312.1), ci s312.2.1, .cell (.v ty7 s312.2.2.1), ci s312.2.2.2.1, ci s312.2.2.2.2.1, ci s312.2.2.2.2.2]), (6, .row ty8 r34.1.1), (7, .row ty11 r34.1.2.2.1), (8, .row ty8 r69.1.1), (9, .row ty11 r69.1.2.2.1)] ?_ (fun k322 => ?_)
  refine ap_all [0, 3, 9] (by kernel_rfl) ⟨?_, ?_, ?_, trivial⟩
  refine apo_ao rfl ?_
  refine ao_r (r_load_part (τ := ty1) (y := ((s312.1, (s312.2.1, (s312.2.2.1, (s312.2.2.2.1, (s312.2.2.2.2.1, (s312.2.2.2.2.2, ())))))) : dy3)) [] [] rfl Try.isAgg29 Try.sizeOf29 rfl rfl rfl rfl) rfl ?_
  refine ap_ni ?_
  exact ap_gr idn (nk rfl) k323 (by kernel_rfl)
  refine apo_ao rfl ?_
  refine ao_r (r_idxAddr_os Try.underlying42 Try.sizeOf33 rfl rfl rfl (show 0 ≤ i313 from by omega) (show i313 < (r67.2.length : Int) from by omega)) rfl ?_
  refine ap_ni ?_
  exact ap_gr idn (nk rfl) k331 (by kernel_rfl)
  refine apo_ao rfl ?_
  refine ao_eff trivial (e_alloc 10 (y := .st [.nilsl, .int .i64 0, .nilsl, .int .i64 0, .int .i64 0, .int .i64 0]) Try.zeroValue29 (fun ρ h M => ra_zero_st (t := ty1) rfl rfl rfl) rfl rfl rfl rfl rfl) rfl ?_
  refine ap_ni ?_
  exact ap_gr (rn [(6, 10), (7, 6), (8, 7), (9, 8), (10, 9)]) (nk rfl) k335 (by kernel_rfl)
  refine ap_p 1 (fun _ _ _ h => h) rfl (by kernel_rfl) (rp_move rfl) rfl ?_
  refine ap_p 2 (fun _ _ _ h => h) rfl (by kernel_rfl) (rp_move rfl) rfl ?_
  exact ap_gr idn (nk rfl) k322 (by kernel_rfl)
  have q318 := d_f hb316
  obtain rfl : d314 = 0 := by omega
  replace h := is_cnt0 h
  refine aw_exit ?_
  refine aq_then_exit ?_
  refine aq_then_exit ?_
  refine aq_in_exit ?_
  exact aq_then (AW.sub (sub_r1 (rn [(3, 4), (4, 5), (5, 6), (6, 7), (7, 8), (8, 9)]) (nk rfl) (by kernel_rfl)) (j310 (s312.1, s312.2.1, s312.2.2.1, s312.2.2.2.1, s312.2.2.2.2.1, s312.2.2.2.2.2) ⟨(by (try simp only [List.length_set, List.length_append, List.length_cons, List.length_nil, List.length_replicate, List.length_take, List.length_drop]) <;> omega), (by (try simp only [List.length_set, List.length_append, List.length_cons, List.length_nil, List.length_replicate, List.length_take, List.length_drop]) <;> omega)⟩ h))
  replace h := is_else (ne_t hb307) h
  refine aw_skip ?_
  exact aq_then (AW.sub (sub_r1 (rn [(0, 7), (1, 8), (2, 11), (3, 9), (4, 10)]) (nk rfl) (by kernel_rfl)) (j117 () trivial h))
end Go.GA
