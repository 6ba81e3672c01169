/- Walks: what the Go functions compute, by the printed lines below; no further conditions. -/
import Derived.Test.YtbfjbbfekodohaaC12xwd
namespace Go.GA
open Go Go.Proofs
set_option maxRecDepth 100000
set_option maxHeartbeats 2000000
set_option linter.unusedVariables false
set_option linter.unusedSimpArgs false
theorem c_spec_DoTask {fu : Nat} {x0 : ((List (List Int)) × (Int × ((List Int) × (Int × (Int × (Int × Unit))))))} {x1 : (Int × (Int × (Int × Unit)))} {r : ((List (List Int)) × (Int × ((List Int) × (Int × (Int × (Int × Unit)))))) × Bool} (h : Is (p_spec_DoTask fu x0 x1) (some r)) :
    ACalls Try.prog 7 [.v (.pair (.slice (.arr 6 (.int .i64))) (.pair (.int .i64) (.pair (.slice (.int .i64)) (.pair (.int .i64) (.pair (.int .i64) (.pair (.int .i64) .unit)))))) x0, .v (.pair (.int .i64) (.pair (.int .i64) (.pair (.int .i64) .unit))) x1] [] (fun r' H' => r' = .tup [.st [.os 0, .int .i64 r.1.2.1, .os 1, .int .i64 r.1.2.2.2.1, .int .i64 r.1.2.2.2.2.1, .int .i64 r.1.2.2.2.2.2.1], .bool r.2] ∧ H' = [(0, .row (.arr 6 (.int .i64)) r.1.1), (1, .row (.int .i64) r.1.2.2.1)]) := by
  unfold p_spec_DoTask at h
  refine ac_enter ⟨15, 0⟩ Try.func7 rfl rfl rfl rfl rfl (fun Γ => ?_)
  refine aw_seq ?_
  refine aw_region ?_
  refine ao_eff trivial (e_box 0 rfl rfl rfl rfl rfl rfl) rfl ?_
  refine ao_eff trivial (e_box 1 rfl rfl rfl rfl rfl rfl) rfl ?_
  refine ao_eff trivial (e_alloc 2 (y := .st [.nilsl, .int .i64 0, .nilsl, .int .i64 0, .int .i64 0, .int .i64 0]) Try.zeroValue29 (fun ρ h M => ra_zero_st (t := (.pair (.slice (.arr 6 (.int .i64))) (.pair (.int .i64) (.pair (.slice (.int .i64)) (.pair (.int .i64) (.pair (.int .i64) (.pair (.int .i64) .unit))))))) rfl rfl rfl) rfl rfl rfl rfl rfl) rfl ?_
  refine ao_read trivial (r_assign rfl) rfl ?_
  refine ao_nil ?_
  refine aq_then ?_
  refine aw_seq ?_
  refine aw_seq ?_
  refine aw_region ?_
  refine ao_read trivial (r_load_part (τ := (.pair (.slice (.arr 6 (.int .i64))) (.pair (.int .i64) (.pair (.slice (.int .i64)) (.pair (.int .i64) (.pair (.int .i64) (.pair (.int .i64) .unit))))))) (y := ((x0.1, (x0.2.1, (x0.2.2.1, (x0.2.2.2.1, (x0.2.2.2.2.1, (x0.2.2.2.2.2.1, ())))))) : ((List (List Int)) × (Int × ((List Int) × (Int × (Int × (Int × Unit)))))))) [] [] rfl Try.isAgg29 Try.sizeOf29 rfl rfl rfl rfl) rfl ?_
  obtain ⟨r1, r1h, h⟩ := is_bind h
  refine ao_scall trivial (scall (c_spec_l12Good (is_mk r1h)) rfl Try.func35 rfl rfl rfl rfl (fun σ => ⟨ad_ren rfl, trivial⟩)) rfl ?_
  refine ao_read trivial (r_not rfl) rfl ?_
  refine ao_nil ?_
  refine aq_then ?_
  refine aw_cond rfl (fun hb2 => ?_) (fun hb2 => ?_)
  · replace h := is_else (ne_t (not_t hb2)) h
    refine aw_seq ?_
    refine aw_region ?_
    refine ao_read trivial (r_build_st (l := []) (cs := [.cell (.nilsl), .cell (.int .i64 0), .cell (.nilsl), .cell (.int .i64 0), .cell (.int .i64 0), .cell (.int .i64 0)]) (.pair (.slice (.arr 6 (.int .i64))) (.pair (.int .i64) (.pair (.slice (.int .i64)) (.pair (.int .i64) (.pair (.int .i64) (.pair (.int .i64) .unit)))))) [(0, 1), (1, 1), (2, 1), (3, 1), (4, 1), (5, 1)] Try.underlying29 Try.zeroValue29 rfl ⟨rfl, Try.sizeOf22, rfl, Try.sizeOf3, rfl, Try.sizeOf23, rfl, Try.sizeOf3, rfl, Try.sizeOf3, rfl, Try.sizeOf3, trivial⟩ rfl rfl rfl) rfl ?_
    refine ao_effS trivial (e_store rfl rfl rfl rfl Try.sizeOf29 rfl) ?_
    refine ao_read trivial (r_assign rfl) rfl ?_
    refine ao_nil ?_
    refine aq_then ?_
    refine aw_ret ?_
    refine aq_then_ret ?_
    refine aq_ret ?_
    obtain rfl := is_some h
    refine AQ.sub (sub_nil_cell (t := (.arr 6 (.int .i64))) (i := 2) 3 [] [.cell (.int .i64 0), .cell (.nilsl), .cell (.int .i64 0), .cell (.int .i64 0), .cell (.int .i64 0)] rfl rfl rfl) ?_
    refine AQ.sub (sub_nil_cell (t := (.int .i64)) (i := 2) 4 [.cell (.os 3), .cell (.int .i64 0)] [.cell (.int .i64 0), .cell (.int .i64 0), .cell (.int .i64 0)] rfl rfl rfl) ?_
    exact aq_finx (l := [.cell 4 29, .tmp 5]) (xs := [.st [.os 3, .int .i64 0, .os 4, .int .i64 0, .int .i64 0, .int .i64 0], .bool false]) (rn [(0, 3), (1, 4)]) [.st [.os 0, .int .i64 0, .os 1, .int .i64 0, .int .i64 0, .int .i64 0], .bool false] [(0, .row (.arr 6 (.int .i64)) ([] : (List (List Int)))), (1, .row (.int .i64) ([] : (List Int)))] rfl (by exact ⟨⟨⟨_, _, rfl⟩, r_load_st [] [.cell (.os 3), .cell (.int .i64 0), .cell (.os 4), .cell (.int .i64 0), .cell (.int .i64 0), .cell (.int .i64 0)] [] Try.isAgg29 Try.sizeOf29 rfl rfl rfl rfl rfl rfl rfl⟩, rfl, trivial⟩) (by exact ⟨ad_ren rfl, ad_ren rfl, trivial⟩) (by exact ⟨⟨_, rfl, rfl⟩, ⟨_, rfl, rfl⟩, trivial⟩) rfl (nk rfl) rfl rfl ⟨rfl, rfl⟩
  · replace h := is_if (not_f hb2) h
    refine aw_skip ?_
    refine aq_then ?_
    refine aw_seq ?_
    refine aw_region ?_
    refine ao_read trivial (r_load_part (τ := (.pair (.slice (.arr 6 (.int .i64))) (.pair (.int .i64) (.pair (.slice (.int .i64)) (.pair (.int .i64) (.pair (.int .i64) (.pair (.int .i64) .unit))))))) (y := ((x0.1, (x0.2.1, (x0.2.2.1, (x0.2.2.2.1, (x0.2.2.2.2.1, (x0.2.2.2.2.2.1, ())))))) : ((List (List Int)) × (Int × ((List Int) × (Int × (Int × (Int × Unit)))))))) [] [] rfl Try.isAgg29 Try.sizeOf29 rfl rfl rfl rfl) rfl ?_
    refine ao_read trivial (r_load_part (τ := (.pair (.int .i64) (.pair (.int .i64) (.pair (.int .i64) .unit)))) (y := ((x1.1, (x1.2.1, (x1.2.2.1, ()))) : (Int × (Int × (Int × Unit))))) [] [] rfl Try.isAgg33 Try.sizeOf33 rfl rfl rfl rfl) rfl ?_
    obtain ⟨r3, r3h, h⟩ := is_bind h
    refine ao_call [] 3 trivial (c_spec_l12Do (is_mk r3h)) Try.func36 rfl rfl rfl rfl ⟨ad_ren rfl, ad_ren rfl, trivial⟩ trivial rfl rfl rfl rfl rfl rfl rfl (fun r' H' hr => ?_)
    obtain ⟨rfl, rfl⟩ := hr
    refine ao_norm (y := .tup [.st [.os 3, .int .i64 r3.1.2.1, .os 4, .int .i64 r3.1.2.2.2.1, .int .i64 r3.1.2.2.2.2.1, .int .i64 r3.1.2.2.2.2.2.1], .bool r3.2]) (H' := [(2, .var [.cell (.nilsl), .cell (.int .i64 0), .cell (.nilsl), .cell (.int .i64 0), .cell (.int .i64 0), .cell (.int .i64 0)]), (1, .var [.cell (.int .i64 x1.1), .cell (.int .i64 x1.2.1), .cell (.int .i64 x1.2.2.1)]), (0, .var [.cell (.v (.slice (.arr 6 (.int .i64))) x0.1), .cell (.int .i64 x0.2.1), .cell (.v (.slice (.int .i64)) x0.2.2.1), .cell (.int .i64 x0.2.2.2.1), .cell (.int .i64 x0.2.2.2.2.1), .cell (.int .i64 x0.2.2.2.2.2.1)]), (3, .row (.arr 6 (.int .i64)) r3.1.1), (4, .row (.int .i64) r3.1.2.2.1)]) rfl rfl ?_
    refine row_len_o 3 (r3.1.1.length : Int) rfl rfl (fun hr4 => ?_)
    refine row_len_o 4 (r3.1.2.2.1.length : Int) rfl rfl (fun hr5 => ?_)
    refine ao_read trivial (r_extract rfl rfl) rfl ?_
    refine ao_read trivial (r_extract rfl rfl) rfl ?_
    refine ao_effS trivial (e_store rfl rfl rfl rfl Try.sizeOf29 rfl) ?_
    refine ao_read trivial (r_assign rfl) rfl ?_
    refine ao_nil ?_
    refine aq_then ?_
    refine aw_ret ?_
    refine aq_ret ?_
    obtain rfl := is_some h
    exact aq_finx (l := [.cell 4 29, .tmp 5]) (xs := [.st [.os 3, .int .i64 r3.1.2.1, .os 4, .int .i64 r3.1.2.2.2.1, .int .i64 r3.1.2.2.2.2.1, .int .i64 r3.1.2.2.2.2.2.1], .bool r3.2]) (rn [(0, 3), (1, 4)]) [.st [.os 0, .int .i64 r3.1.2.1, .os 1, .int .i64 r3.1.2.2.2.1, .int .i64 r3.1.2.2.2.2.1, .int .i64 r3.1.2.2.2.2.2.1], .bool r3.2] [(0, .row (.arr 6 (.int .i64)) r3.1.1), (1, .row (.int .i64) r3.1.2.2.1)] rfl (by exact ⟨⟨⟨_, _, rfl⟩, r_load_st [] [.cell (.os 3), .cell (.int .i64 r3.1.2.1), .cell (.os 4), .cell (.int .i64 r3.1.2.2.2.1), .cell (.int .i64 r3.1.2.2.2.2.1), .cell (.int .i64 r3.1.2.2.2.2.2.1)] [] Try.isAgg29 Try.sizeOf29 rfl rfl rfl rfl rfl rfl rfl⟩, rfl, trivial⟩) (by exact ⟨ad_ren rfl, ad_ren rfl, trivial⟩) (by exact ⟨⟨_, rfl, rfl⟩, ⟨_, rfl, rfl⟩, trivial⟩) rfl (nk rfl) rfl rfl ⟨rfl, rfl⟩
theorem c_impl_DoTask {fu : Nat} {x0 : ((List (List Int)) × (Int × ((List Int) × (Int × (Int × (Int × Unit))))))} {x1 : (Int × (Int × (Int × Unit)))} {r : ((List (List Int)) × (Int × ((List Int) × (Int × (Int × (Int × Unit)))))) × Bool} (h : Is (p_impl_DoTask fu x0 x1) (some r)) :
    ACalls Try.prog 10 [.v (.pair (.slice (.arr 6 (.int .i64))) (.pair (.int .i64) (.pair (.slice (.int .i64)) (.pair (.int .i64) (.pair (.int .i64) (.pair (.int .i64) .unit)))))) x0, .v (.pair (.int .i64) (.pair (.int .i64) (.pair (.int .i64) .unit))) x1] [] (fun r' H' => r' = .tup [.st [.os 0, .int .i64 r.1.2.1, .os 1, .int .i64 r.1.2.2.2.1, .int .i64 r.1.2.2.2.2.1, .int .i64 r.1.2.2.2.2.2.1], .bool r.2] ∧ H' = [(0, .row (.arr 6 (.int .i64)) r.1.1), (1, .row (.int .i64) r.1.2.2.1)]) := by
  unfold p_impl_DoTask at h
  refine ac_enter ⟨15, 0⟩ Try.func10 rfl rfl rfl rfl rfl (fun Γ => ?_)
  refine aw_seq ?_
  refine aw_region ?_
  refine ao_eff trivial (e_box 0 rfl rfl rfl rfl rfl rfl) rfl ?_
  refine ao_eff trivial (e_box 1 rfl rfl rfl rfl rfl rfl) rfl ?_
  refine ao_eff trivial (e_alloc 2 (y := .st [.nilsl, .int .i64 0, .nilsl, .int .i64 0, .int .i64 0, .int .i64 0]) Try.zeroValue29 (fun ρ h M => ra_zero_st (t := (.pair (.slice (.arr 6 (.int .i64))) (.pair (.int .i64) (.pair (.slice (.int .i64)) (.pair (.int .i64) (.pair (.int .i64) (.pair (.int .i64) .unit))))))) rfl rfl rfl) rfl rfl rfl rfl rfl) rfl ?_
  refine ao_read trivial (r_assign rfl) rfl ?_
  refine ao_nil ?_
  refine aq_then ?_
  refine aw_seq ?_
  refine aw_seq ?_
  refine aw_region ?_
  refine ao_read trivial (r_load_part (τ := (.pair (.slice (.arr 6 (.int .i64))) (.pair (.int .i64) (.pair (.slice (.int .i64)) (.pair (.int .i64) (.pair (.int .i64) (.pair (.int .i64) .unit))))))) (y := ((x0.1, (x0.2.1, (x0.2.2.1, (x0.2.2.2.1, (x0.2.2.2.2.1, (x0.2.2.2.2.2.1, ())))))) : ((List (List Int)) × (Int × ((List Int) × (Int × (Int × (Int × Unit)))))))) [] [] rfl Try.isAgg29 Try.sizeOf29 rfl rfl rfl rfl) rfl ?_
  obtain ⟨r1, r1h, h⟩ := is_bind h
  refine ao_scall trivial (scall (c_impl_IsTavern (is_mk r1h)) rfl Try.func25 rfl rfl rfl rfl (fun σ => ⟨ad_ren rfl, trivial⟩)) rfl ?_
  refine ao_read trivial (r_not rfl) rfl ?_
  refine ao_nil ?_
  refine aq_then ?_
  refine aw_cond rfl (fun hb2 => ?_) (fun hb2 => ?_)
  · replace h := is_else (ne_t (not_t hb2)) h
    refine aw_seq ?_
    refine aw_region ?_
    refine ao_read trivial (r_build_st (l := []) (cs := [.cell (.nilsl), .cell (.int .i64 0), .cell (.nilsl), .cell (.int .i64 0), .cell (.int .i64 0), .cell (.int .i64 0)]) (.pair (.slice (.arr 6 (.int .i64))) (.pair (.int .i64) (.pair (.slice (.int .i64)) (.pair (.int .i64) (.pair (.int .i64) (.pair (.int .i64) .unit)))))) [(0, 1), (1, 1), (2, 1), (3, 1), (4, 1), (5, 1)] Try.underlying29 Try.zeroValue29 rfl ⟨rfl, Try.sizeOf22, rfl, Try.sizeOf3, rfl, Try.sizeOf23, rfl, Try.sizeOf3, rfl, Try.sizeOf3, rfl, Try.sizeOf3, trivial⟩ rfl rfl rfl) rfl ?_
    refine ao_effS trivial (e_store rfl rfl rfl rfl Try.sizeOf29 rfl) ?_
    refine ao_read trivial (r_assign rfl) rfl ?_
    refine ao_nil ?_
    refine aq_then ?_
    refine aw_ret ?_
    refine aq_then_ret ?_
    refine aq_ret ?_
    obtain rfl := is_some h
    refine AQ.sub (sub_nil_cell (t := (.arr 6 (.int .i64))) (i := 2) 3 [] [.cell (.int .i64 0), .cell (.nilsl), .cell (.int .i64 0), .cell (.int .i64 0), .cell (.int .i64 0)] rfl rfl rfl) ?_
    refine AQ.sub (sub_nil_cell (t := (.int .i64)) (i := 2) 4 [.cell (.os 3), .cell (.int .i64 0)] [.cell (.int .i64 0), .cell (.int .i64 0), .cell (.int .i64 0)] rfl rfl rfl) ?_
    exact aq_finx (l := [.cell 4 29, .tmp 5]) (xs := [.st [.os 3, .int .i64 0, .os 4, .int .i64 0, .int .i64 0, .int .i64 0], .bool false]) (rn [(0, 3), (1, 4)]) [.st [.os 0, .int .i64 0, .os 1, .int .i64 0, .int .i64 0, .int .i64 0], .bool false] [(0, .row (.arr 6 (.int .i64)) ([] : (List (List Int)))), (1, .row (.int .i64) ([] : (List Int)))] rfl (by exact ⟨⟨⟨_, _, rfl⟩, r_load_st [] [.cell (.os 3), .cell (.int .i64 0), .cell (.os 4), .cell (.int .i64 0), .cell (.int .i64 0), .cell (.int .i64 0)] [] Try.isAgg29 Try.sizeOf29 rfl rfl rfl rfl rfl rfl rfl⟩, rfl, trivial⟩) (by exact ⟨ad_ren rfl, ad_ren rfl, trivial⟩) (by exact ⟨⟨_, rfl, rfl⟩, ⟨_, rfl, rfl⟩, trivial⟩) rfl (nk rfl) rfl rfl ⟨rfl, rfl⟩
  · replace h := is_if (not_f hb2) h
    refine aw_skip ?_
    refine aq_then ?_
    refine aw_seq ?_
    refine aw_region ?_
    refine ao_read trivial (r_load_part (τ := (.pair (.slice (.arr 6 (.int .i64))) (.pair (.int .i64) (.pair (.slice (.int .i64)) (.pair (.int .i64) (.pair (.int .i64) (.pair (.int .i64) .unit))))))) (y := ((x0.1, (x0.2.1, (x0.2.2.1, (x0.2.2.2.1, (x0.2.2.2.2.1, (x0.2.2.2.2.2.1, ())))))) : ((List (List Int)) × (Int × ((List Int) × (Int × (Int × (Int × Unit)))))))) [] [] rfl Try.isAgg29 Try.sizeOf29 rfl rfl rfl rfl) rfl ?_
    refine ao_read trivial (r_load_part (τ := (.pair (.int .i64) (.pair (.int .i64) (.pair (.int .i64) .unit)))) (y := ((x1.1, (x1.2.1, (x1.2.2.1, ()))) : (Int × (Int × (Int × Unit))))) [] [] rfl Try.isAgg33 Try.sizeOf33 rfl rfl rfl rfl) rfl ?_
    obtain ⟨r3, r3h, h⟩ := is_bind h
    refine ao_call [] 3 trivial (c_impl_Tavern_done (is_mk r3h)) Try.func39 rfl rfl rfl rfl ⟨ad_ren rfl, ad_ren rfl, trivial⟩ trivial rfl rfl rfl rfl rfl rfl rfl (fun r' H' hr => ?_)
    obtain ⟨rfl, rfl⟩ := hr
    refine ao_norm (y := .tup [.st [.os 3, .int .i64 r3.1.2.1, .os 4, .int .i64 r3.1.2.2.2.1, .int .i64 r3.1.2.2.2.2.1, .int .i64 r3.1.2.2.2.2.2.1], .bool r3.2]) (H' := [(2, .var [.cell (.nilsl), .cell (.int .i64 0), .cell (.nilsl), .cell (.int .i64 0), .cell (.int .i64 0), .cell (.int .i64 0)]), (1, .var [.cell (.int .i64 x1.1), .cell (.int .i64 x1.2.1), .cell (.int .i64 x1.2.2.1)]), (0, .var [.cell (.v (.slice (.arr 6 (.int .i64))) x0.1), .cell (.int .i64 x0.2.1), .cell (.v (.slice (.int .i64)) x0.2.2.1), .cell (.int .i64 x0.2.2.2.1), .cell (.int .i64 x0.2.2.2.2.1), .cell (.int .i64 x0.2.2.2.2.2.1)]), (3, .row (.arr 6 (.int .i64)) r3.1.1), (4, .row (.int .i64) r3.1.2.2.1)]) rfl rfl ?_
    refine row_len_o 3 (r3.1.1.length : Int) rfl rfl (fun hr4 => ?_)
    refine row_len_o 4 (r3.1.2.2.1.length : Int) rfl rfl (fun hr5 => ?_)
    refine ao_read trivial (r_extract rfl rfl) rfl ?_
    refine ao_read trivial (r_extract rfl rfl) rfl ?_
    refine ao_effS trivial (e_store rfl rfl rfl rfl Try.sizeOf29 rfl) ?_
    refine ao_read trivial (r_assign rfl) rfl ?_
    refine ao_nil ?_
    refine aq_then ?_
    refine aw_ret ?_
    refine aq_ret ?_
    obtain rfl := is_some h
    exact aq_finx (l := [.cell 4 29, .tmp 5]) (xs := [.st [.os 3, .int .i64 r3.1.2.1, .os 4, .int .i64 r3.1.2.2.2.1, .int .i64 r3.1.2.2.2.2.1, .int .i64 r3.1.2.2.2.2.2.1], .bool r3.2]) (rn [(0, 3), (1, 4)]) [.st [.os 0, .int .i64 r3.1.2.1, .os 1, .int .i64 r3.1.2.2.2.1, .int .i64 r3.1.2.2.2.2.1, .int .i64 r3.1.2.2.2.2.2.1], .bool r3.2] [(0, .row (.arr 6 (.int .i64)) r3.1.1), (1, .row (.int .i64) r3.1.2.2.1)] rfl (by exact ⟨⟨⟨_, _, rfl⟩, r_load_st [] [.cell (.os 3), .cell (.int .i64 r3.1.2.1), .cell (.os 4), .cell (.int .i64 r3.1.2.2.2.1), .cell (.int .i64 r3.1.2.2.2.2.1), .cell (.int .i64 r3.1.2.2.2.2.2.1)] [] Try.isAgg29 Try.sizeOf29 rfl rfl rfl rfl rfl rfl rfl⟩, rfl, trivial⟩) (by exact ⟨ad_ren rfl, ad_ren rfl, trivial⟩) (by exact ⟨⟨_, rfl, rfl⟩, ⟨_, rfl, rfl⟩, trivial⟩) rfl (nk rfl) rfl rfl ⟨rfl, rfl⟩
theorem c_laws_FnExactDoTask {fu : Nat} {x0 : ((List (List Int)) × (Int × ((List Int) × (Int × (Int × (Int × Unit))))))} {x1 : (Int × (Int × (Int × Unit)))} {r : Bool} (h : Is (p_laws_FnExactDoTask fu x0 x1) (some r)) :
    Scalar Try.prog 3 [.v (.pair (.slice (.arr 6 (.int .i64))) (.pair (.int .i64) (.pair (.slice (.int .i64)) (.pair (.int .i64) (.pair (.int .i64) (.pair (.int .i64) .unit)))))) x0, .v (.pair (.int .i64) (.pair (.int .i64) (.pair (.int .i64) .unit))) x1] (.bool r) := by
  unfold p_laws_FnExactDoTask at h
  refine ac_enter ⟨104, 0⟩ Try.func3 rfl rfl rfl rfl rfl (fun Γ => ?_)
  refine aw_seq ?_
  refine aw_region ?_
  refine ao_eff trivial (e_box 0 rfl rfl rfl rfl rfl rfl) rfl ?_
  refine ao_eff trivial (e_box 1 rfl rfl rfl rfl rfl rfl) rfl ?_
  refine ao_read trivial (r_assign rfl) rfl ?_
  refine ao_nil ?_
  refine aq_then ?_
  refine aw_seq ?_
  refine aw_region ?_
  refine ao_read trivial (r_assign rfl) rfl ?_
  refine ao_nil ?_
  refine aq_then ?_
  refine aw_seq ?_
  refine aw_region ?_
  refine ao_read trivial (r_load_part (τ := (.pair (.slice (.arr 6 (.int .i64))) (.pair (.int .i64) (.pair (.slice (.int .i64)) (.pair (.int .i64) (.pair (.int .i64) (.pair (.int .i64) .unit))))))) (y := ((x0.1, (x0.2.1, (x0.2.2.1, (x0.2.2.2.1, (x0.2.2.2.2.1, (x0.2.2.2.2.2.1, ())))))) : ((List (List Int)) × (Int × ((List Int) × (Int × (Int × (Int × Unit)))))))) [] [] rfl Try.isAgg25 Try.sizeOf25 rfl rfl rfl rfl) rfl ?_
  refine ao_read trivial (r_move rfl) rfl ?_
  refine ao_scall trivial (scall (c_laws_szTavern (is_mk (rfl : p_laws_szTavern (x0.1, (x0.2.1, (x0.2.2.1, (x0.2.2.2.1, (x0.2.2.2.2.1, (x0.2.2.2.2.2.1, ())))))) 1048576 = _))) rfl Try.func6 rfl rfl rfl rfl (fun σ => ⟨ad_ren rfl, ad_ren rfl, trivial⟩)) rfl ?_
  refine ao_read trivial (r_assign rfl) rfl ?_
  refine ao_nil ?_
  refine aq_then ?_
  refine aw_seq ?_
  refine aw_seq ?_
  refine aw_region ?_
  refine ao_read trivial (r_move rfl) rfl ?_
  refine ao_read trivial (r_lss rfl rfl) rfl ?_
  refine ao_nil ?_
  refine aq_then ?_
  refine aw_cond rfl (fun hb1 => ?_) (fun hb1 => ?_)
  · have q2 := d_t hb1
    replace h := is_if (d_t hb1) h
    refine aw_seq ?_
    refine aw_region ?_
    refine ao_read trivial (r_assign rfl) rfl ?_
    refine ao_nil ?_
    refine aq_then ?_
    refine aw_ret ?_
    refine aq_then_ret ?_
    refine aq_ret ?_
    obtain rfl := is_some h
    exact aq_finx (l := [.tmp 4]) (xs := [.bool true]) idn [.bool true] [] rfl (by exact ⟨rfl, trivial⟩) (by exact ⟨ad_ren rfl, trivial⟩) (by exact trivial) rfl (nk rfl) rfl rfl ⟨rfl, rfl⟩
  · have q3 := d_f hb1
    replace h := is_else (d_f hb1) h
    refine aw_skip ?_
    refine aq_then ?_
    refine aw_seq ?_
    obtain ⟨r4, r4h, h⟩ := is_bind h
    obtain ⟨r7, r7h, h⟩ := is_bind h
    refine aw_drawP 11 rfl (by kernel_rfl) ?_
    refine ap_to [(2, .ref 0 0), (3, .ref 1 0), (6, .ref 2 0), (7, .bool r7.2)] [(0, .var [.cell (.v (.slice (.arr 6 (.int .i64))) x0.1), .cell (.int .i64 x0.2.1), .cell (.v (.slice (.int .i64)) x0.2.2.1), .cell (.int .i64 x0.2.2.2.1), .cell (.int .i64 x0.2.2.2.2.1), .cell (.int .i64 x0.2.2.2.2.2.1)]), (1, .var [.cell (.int .i64 x1.1), .cell (.int .i64 x1.2.1), .cell (.int .i64 x1.2.2.1)]), (2, .var [.cell (.os 3), .cell (.int .i64 r7.1.2.1), .cell (.os 4), .cell (.int .i64 r7.1.2.2.2.1), .cell (.int .i64 r7.1.2.2.2.2.1), .cell (.int .i64 r7.1.2.2.2.2.2.1)]), (3, .row (.arr 6 (.int .i64)) r7.1.1), (4, .row (.int .i64) r7.1.2.2.1)] ?_ (fun key => ?_)
    · refine row_len_q 3 (r7.1.1.length : Int) rfl rfl (fun hr26 => ?_)
      refine row_len_q 4 (r7.1.2.2.1.length : Int) rfl rfl (fun hr27 => ?_)
      refine aq_then ?_
      refine aw_seq ?_
      refine aw_region ?_
      refine ao_read trivial (r_load_part (τ := (.pair (.slice (.arr 6 (.int .i64))) (.pair (.int .i64) (.pair (.slice (.int .i64)) (.pair (.int .i64) (.pair (.int .i64) (.pair (.int .i64) .unit))))))) (y := ((x0.1, (x0.2.1, (x0.2.2.1, (x0.2.2.2.1, (x0.2.2.2.2.1, (x0.2.2.2.2.2.1, ())))))) : ((List (List Int)) × (Int × ((List Int) × (Int × (Int × (Int × Unit)))))))) [] [] rfl Try.isAgg25 Try.sizeOf25 rfl rfl rfl rfl) rfl ?_
      obtain ⟨r28, r28h, h⟩ := is_bind h
      refine ao_call [] 5 trivial (c_laws_toTavern (is_mk r28h)) Try.func8 rfl rfl rfl rfl ⟨ad_ren rfl, trivial⟩ trivial rfl rfl rfl rfl rfl rfl rfl (fun r' H' hr => ?_)
      obtain ⟨rfl, rfl⟩ := hr
      refine ao_norm (y := .st [.os 5, .int .i64 r28.2.1, .os 6, .int .i64 r28.2.2.2.1, .int .i64 r28.2.2.2.2.1, .int .i64 r28.2.2.2.2.2.1]) (H' := [(0, .var [.cell (.v (.slice (.arr 6 (.int .i64))) x0.1), .cell (.int .i64 x0.2.1), .cell (.v (.slice (.int .i64)) x0.2.2.1), .cell (.int .i64 x0.2.2.2.1), .cell (.int .i64 x0.2.2.2.2.1), .cell (.int .i64 x0.2.2.2.2.2.1)]), (1, .var [.cell (.int .i64 x1.1), .cell (.int .i64 x1.2.1), .cell (.int .i64 x1.2.2.1)]), (2, .var [.cell (.os 3), .cell (.int .i64 r7.1.2.1), .cell (.os 4), .cell (.int .i64 r7.1.2.2.2.1), .cell (.int .i64 r7.1.2.2.2.2.1), .cell (.int .i64 r7.1.2.2.2.2.2.1)]), (3, .row (.arr 6 (.int .i64)) r7.1.1), (4, .row (.int .i64) r7.1.2.2.1), (5, .row (.arr 6 (.int .i64)) r28.1), (6, .row (.int .i64) r28.2.2.1)]) rfl rfl ?_
      refine row_len_o 5 (r28.1.length : Int) rfl rfl (fun hr29 => ?_)
      refine row_len_o 6 (r28.2.2.1.length : Int) rfl rfl (fun hr30 => ?_)
      refine ao_eff trivial (e_alloc 7 (y := .st [.nilsl, .int .i64 0, .nilsl, .int .i64 0, .int .i64 0, .int .i64 0]) Try.zeroValue29 (fun ρ h M => ra_zero_st (t := (.pair (.slice (.arr 6 (.int .i64))) (.pair (.int .i64) (.pair (.slice (.int .i64)) (.pair (.int .i64) (.pair (.int .i64) (.pair (.int .i64) .unit))))))) rfl rfl rfl) rfl rfl rfl rfl rfl) rfl ?_
      refine ao_effS trivial (e_store rfl rfl rfl rfl Try.sizeOf29 rfl) ?_
      refine ao_nil ?_
      refine aq_then ?_
      refine aw_seq ?_
      obtain ⟨r31, r31h, h⟩ := is_bind h
      refine aw_drawP 10 rfl (by kernel_rfl) ?_
      refine ap_to [(2, .ref 0 0), (3, .ref 1 0), (6, .ref 2 0), (7, .bool r7.2), (8, .ref 3 0), (9, .ref 4 0), (10, .bool r31.2)] [(0, .var [.cell (.v (.slice (.arr 6 (.int .i64))) x0.1), .cell (.int .i64 x0.2.1), .cell (.v (.slice (.int .i64)) x0.2.2.1), .cell (.int .i64 x0.2.2.2.1), .cell (.int .i64 x0.2.2.2.2.1), .cell (.int .i64 x0.2.2.2.2.2.1)]), (1, .var [.cell (.int .i64 x1.1), .cell (.int .i64 x1.2.1), .cell (.int .i64 x1.2.2.1)]), (2, .var [.cell (.os 5), .cell (.int .i64 r7.1.2.1), .cell (.os 6), .cell (.int .i64 r7.1.2.2.2.1), .cell (.int .i64 r7.1.2.2.2.2.1), .cell (.int .i64 r7.1.2.2.2.2.2.1)]), (3, .var [.cell (.os 7), .cell (.int .i64 r28.2.1), .cell (.os 8), .cell (.int .i64 r28.2.2.2.1), .cell (.int .i64 r28.2.2.2.2.1), .cell (.int .i64 r28.2.2.2.2.2.1)]), (4, .var [.cell (.os 9), .cell (.int .i64 r31.1.2.1), .cell (.os 10), .cell (.int .i64 r31.1.2.2.2.1), .cell (.int .i64 r31.1.2.2.2.2.1), .cell (.int .i64 r31.1.2.2.2.2.2.1)]), (5, .row (.arr 6 (.int .i64)) r7.1.1), (6, .row (.int .i64) r7.1.2.2.1), (7, .row (.arr 6 (.int .i64)) r28.1), (8, .row (.int .i64) r28.2.2.1), (9, .row (.arr 6 (.int .i64)) r31.1.1), (10, .row (.int .i64) r31.1.2.2.1)] ?_ (fun key => ?_)
      · refine row_len_q 9 (r31.1.1.length : Int) rfl rfl (fun hr48 => ?_)
        refine row_len_q 10 (r31.1.2.2.1.length : Int) rfl rfl (fun hr49 => ?_)
        refine aq_then ?_
        refine aw_seq ?_
        refine aw_seq ?_
        refine aw_region ?_
        refine ao_read trivial (r_load_st [] [.cell (.os 9), .cell (.int .i64 r31.1.2.1), .cell (.os 10), .cell (.int .i64 r31.1.2.2.2.1), .cell (.int .i64 r31.1.2.2.2.2.1), .cell (.int .i64 r31.1.2.2.2.2.2.1)] [] Try.isAgg29 Try.sizeOf29 rfl rfl rfl rfl rfl rfl rfl) rfl ?_
        refine ao_read trivial (r_load_st [] [.cell (.os 5), .cell (.int .i64 r7.1.2.1), .cell (.os 6), .cell (.int .i64 r7.1.2.2.2.1), .cell (.int .i64 r7.1.2.2.2.2.1), .cell (.int .i64 r7.1.2.2.2.2.2.1)] [] Try.isAgg29 Try.sizeOf29 rfl rfl rfl rfl rfl rfl rfl) rfl ?_
        refine ao_scall trivial (scall (c_laws_eqTavern (is_mk (rfl : p_laws_eqTavern (r31.1.1, (r31.1.2.1, (r31.1.2.2.1, (r31.1.2.2.2.1, (r31.1.2.2.2.2.1, (r31.1.2.2.2.2.2.1, ())))))) (r7.1.1, (r7.1.2.1, (r7.1.2.2.1, (r7.1.2.2.2.1, (r7.1.2.2.2.2.1, (r7.1.2.2.2.2.2.1, ())))))) = _))) rfl Try.func11 rfl rfl rfl rfl (fun σ => ⟨ad_st rfl rfl ⟨ad_os0 rfl, ad_ren rfl, ad_os0 rfl, ad_ren rfl, ad_ren rfl, ad_ren rfl, trivial⟩, ad_st rfl rfl ⟨ad_os0 rfl, ad_ren rfl, ad_os0 rfl, ad_ren rfl, ad_ren rfl, ad_ren rfl, trivial⟩, trivial⟩)) rfl ?_
        refine ao_read trivial (r_not rfl) rfl ?_
        refine ao_read trivial (r_move rfl) rfl ?_
        refine ao_readG (x := .bool r31.2) rfl (GV.F rfl) (fun hg50 => r_move rfl) rfl ?_
        refine ao_readG (x := .bool r7.2) rfl (GV.F rfl) (fun hg51 => r_move rfl) rfl ?_
        refine ao_readG (x := .bool (r31.2 != r7.2)) rfl (GV.F rfl) (fun hg52 => Reads.strip 43 rfl (hg52) (Reads.strip 44 rfl (hg52) (r_neq_bool Try.underlying4 rfl rfl))) rfl ?_
        refine ao_read trivial (r_orB rfl rfl) rfl ?_
        refine ao_nil ?_
        refine aq_then ?_
        refine aw_cond rfl (fun hb53 => ?_) (fun hb53 => ?_)
        · replace h := is_if hb53 h
          refine aw_seq ?_
          refine aw_region ?_
          refine ao_read trivial (r_assign rfl) rfl ?_
          refine ao_nil ?_
          refine aq_then ?_
          refine aw_ret ?_
          refine aq_then_ret ?_
          refine aq_ret ?_
          obtain rfl := is_some h
          exact aq_finx (l := [.tmp 4]) (xs := [.bool false]) idn [.bool false] [] rfl (by exact ⟨rfl, trivial⟩) (by exact ⟨ad_ren rfl, trivial⟩) (by exact trivial) rfl (nk rfl) rfl rfl ⟨rfl, rfl⟩
        · obtain ⟨q54, q55⟩ := or_f hb53
          replace h := is_else (ne_t hb53) h
          refine aw_skip ?_
          refine aq_then ?_
          refine aw_seq ?_
          refine aw_seq ?_
          obtain ⟨r56, r56h, h⟩ := is_bind h
          refine aw_drawAll (by kernel_rfl) ?_
          refine an_to [(2, .ref 0 0), (3, .ref 1 0), (6, .ref 2 0), (7, .bool r7.2), (8, .ref 3 0), (9, .ref 4 0), (10, .bool r31.2), (51, .bool (!(p_laws_eqTavern (r28.1, (r28.2.1, (r28.2.2.1, (r28.2.2.2.1, (r28.2.2.2.2.1, (r28.2.2.2.2.2.1, ())))))) (r56.1, (r56.2.1, (r56.2.2.1, (r56.2.2.2.1, (r56.2.2.2.2.1, (r56.2.2.2.2.2.1, ())))))))))] [(0, .var [.cell (.v (.slice (.arr 6 (.int .i64))) x0.1), .cell (.int .i64 x0.2.1), .cell (.v (.slice (.int .i64)) x0.2.2.1), .cell (.int .i64 x0.2.2.2.1), .cell (.int .i64 x0.2.2.2.2.1), .cell (.int .i64 x0.2.2.2.2.2.1)]), (1, .var [.cell (.int .i64 x1.1), .cell (.int .i64 x1.2.1), .cell (.int .i64 x1.2.2.1)]), (2, .var [.cell (.os 5), .cell (.int .i64 r7.1.2.1), .cell (.os 6), .cell (.int .i64 r7.1.2.2.2.1), .cell (.int .i64 r7.1.2.2.2.2.1), .cell (.int .i64 r7.1.2.2.2.2.2.1)]), (3, .var [.cell (.os 7), .cell (.int .i64 r28.2.1), .cell (.os 8), .cell (.int .i64 r28.2.2.2.1), .cell (.int .i64 r28.2.2.2.2.1), .cell (.int .i64 r28.2.2.2.2.2.1)]), (4, .var [.cell (.os 9), .cell (.int .i64 r31.1.2.1), .cell (.os 10), .cell (.int .i64 r31.1.2.2.2.1), .cell (.int .i64 r31.1.2.2.2.2.1), .cell (.int .i64 r31.1.2.2.2.2.2.1)]), (5, .row (.arr 6 (.int .i64)) r7.1.1), (6, .row (.int .i64) r7.1.2.2.1), (7, .row (.arr 6 (.int .i64)) r28.1), (8, .row (.int .i64) r28.2.2.1), (9, .row (.arr 6 (.int .i64)) r31.1.1), (10, .row (.int .i64) r31.1.2.2.1)] ?_ (fun key => ?_)
          · refine aq_then ?_
            refine aw_cond rfl (fun hb59 => ?_) (fun hb59 => ?_)
            · replace h := is_else (ne_t (not_t hb59)) h
              refine aw_seq ?_
              refine aw_region ?_
              refine ao_read trivial (r_assign rfl) rfl ?_
              refine ao_nil ?_
              refine aq_then ?_
              refine aw_ret ?_
              refine aq_then_ret ?_
              refine aq_ret ?_
              obtain rfl := is_some h
              exact aq_finx (l := [.tmp 4]) (xs := [.bool false]) idn [.bool false] [] rfl (by exact ⟨rfl, trivial⟩) (by exact ⟨ad_ren rfl, trivial⟩) (by exact trivial) rfl (nk rfl) rfl rfl ⟨rfl, rfl⟩
            · replace h := is_if (not_f hb59) h
              refine aw_skip ?_
              refine aq_then ?_
              refine aw_seq ?_
              refine aw_region ?_
              refine ao_read trivial (r_assign rfl) rfl ?_
              refine ao_nil ?_
              refine aq_then ?_
              refine aw_seq ?_
              refine aw_region ?_
              refine ao_read trivial (r_load_st [] [.cell (.os 7), .cell (.int .i64 r28.2.1), .cell (.os 8), .cell (.int .i64 r28.2.2.2.1), .cell (.int .i64 r28.2.2.2.2.1), .cell (.int .i64 r28.2.2.2.2.2.1)] [] Try.isAgg29 Try.sizeOf29 rfl rfl rfl rfl rfl rfl rfl) rfl ?_
              refine ao_read trivial (r_move rfl) rfl ?_
              refine ao_call [7, 8] 11 trivial (c_laws_markTavern (is_mk (rfl : p_laws_markTavern r28.1 r28.2.1 r28.2.2.1 r28.2.2.2.1 r28.2.2.2.2.1 r28.2.2.2.2.2.1 1 = _))) Try.func12 rfl rfl rfl rfl ⟨ad_ren rfl, ad_ren rfl, trivial⟩ ⟨⟨_, rfl, rfl⟩, ⟨_, rfl, rfl⟩, trivial⟩ rfl rfl rfl rfl rfl rfl rfl (fun r' H' hr => ?_)
              obtain ⟨rfl, rfl⟩ := hr
              refine ao_norm (y := .int .i64 ((p_laws_markTavern r28.1 r28.2.1 r28.2.2.1 r28.2.2.2.1 r28.2.2.2.2.1 r28.2.2.2.2.2.1 1).1)) (H' := [(0, .var [.cell (.v (.slice (.arr 6 (.int .i64))) x0.1), .cell (.int .i64 x0.2.1), .cell (.v (.slice (.int .i64)) x0.2.2.1), .cell (.int .i64 x0.2.2.2.1), .cell (.int .i64 x0.2.2.2.2.1), .cell (.int .i64 x0.2.2.2.2.2.1)]), (1, .var [.cell (.int .i64 x1.1), .cell (.int .i64 x1.2.1), .cell (.int .i64 x1.2.2.1)]), (2, .var [.cell (.os 5), .cell (.int .i64 r7.1.2.1), .cell (.os 6), .cell (.int .i64 r7.1.2.2.2.1), .cell (.int .i64 r7.1.2.2.2.2.1), .cell (.int .i64 r7.1.2.2.2.2.2.1)]), (3, .var [.cell (.os 7), .cell (.int .i64 r28.2.1), .cell (.os 8), .cell (.int .i64 r28.2.2.2.1), .cell (.int .i64 r28.2.2.2.2.1), .cell (.int .i64 r28.2.2.2.2.2.1)]), (4, .var [.cell (.os 9), .cell (.int .i64 r31.1.2.1), .cell (.os 10), .cell (.int .i64 r31.1.2.2.2.1), .cell (.int .i64 r31.1.2.2.2.2.1), .cell (.int .i64 r31.1.2.2.2.2.2.1)]), (5, .row (.arr 6 (.int .i64)) r7.1.1), (6, .row (.int .i64) r7.1.2.2.1), (9, .row (.arr 6 (.int .i64)) r31.1.1), (10, .row (.int .i64) r31.1.2.2.1), (7, .row (.arr 6 (.int .i64)) ((p_laws_markTavern r28.1 r28.2.1 r28.2.2.1 r28.2.2.2.1 r28.2.2.2.2.1 r28.2.2.2.2.2.1 1).2.1 : (List (List Int)))), (8, .row (.int .i64) ((p_laws_markTavern r28.1 r28.2.1 r28.2.2.1 r28.2.2.2.1 r28.2.2.2.2.1 r28.2.2.2.2.2.1 1).2.2 : (List Int)))]) rfl rfl ?_
              refine ao_read trivial (r_assign rfl) rfl ?_
              refine ao_nil ?_
              refine aq_then ?_
              refine aw_seq ?_
              refine aw_seq ?_
              refine aw_region ?_
              refine ao_read trivial (r_move rfl) rfl ?_
              refine ao_read trivial (r_lss rfl rfl) rfl ?_
              refine ao_read trivial (r_move rfl) rfl ?_
              refine ao_readG (x := .st [.os 9, .int .i64 r31.1.2.1, .os 10, .int .i64 r31.1.2.2.2.1, .int .i64 r31.1.2.2.2.2.1, .int .i64 r31.1.2.2.2.2.2.1]) rfl (GV.F rfl) (fun hg60 => by
                    have q61 := d_f (not_t hg60)
                    exact r_load_st [] [.cell (.os 9), .cell (.int .i64 r31.1.2.1), .cell (.os 10), .cell (.int .i64 r31.1.2.2.2.1), .cell (.int .i64 r31.1.2.2.2.2.1), .cell (.int .i64 r31.1.2.2.2.2.2.1)] [] Try.isAgg29 Try.sizeOf29 rfl rfl rfl rfl rfl rfl rfl) rfl ?_
              refine ao_readG (x := .st [.os 5, .int .i64 r7.1.2.1, .os 6, .int .i64 r7.1.2.2.2.1, .int .i64 r7.1.2.2.2.2.1, .int .i64 r7.1.2.2.2.2.2.1]) rfl (GV.F rfl) (fun hg62 => by
                    have q63 := d_f (not_t hg62)
                    exact r_load_st [] [.cell (.os 5), .cell (.int .i64 r7.1.2.1), .cell (.os 6), .cell (.int .i64 r7.1.2.2.2.1), .cell (.int .i64 r7.1.2.2.2.2.1), .cell (.int .i64 r7.1.2.2.2.2.2.1)] [] Try.isAgg29 Try.sizeOf29 rfl rfl rfl rfl rfl rfl rfl) rfl ?_
              refine ao_scallG (r := .bool (p_laws_eqTavern (r31.1.1, (r31.1.2.1, (r31.1.2.2.1, (r31.1.2.2.2.1, (r31.1.2.2.2.2.1, (r31.1.2.2.2.2.2.1, ())))))) (r7.1.1, (r7.1.2.1, (r7.1.2.2.1, (r7.1.2.2.2.1, (r7.1.2.2.2.2.1, (r7.1.2.2.2.2.2.1, ())))))))) rfl (GV.F rfl) (fun hg64 => by
                    have q65 := d_f (not_t hg64)
                    exact SCall.strip 58 rfl (hg64) (SCall.strip 59 rfl (hg64) (scall (c_laws_eqTavern (is_mk (rfl : p_laws_eqTavern (r31.1.1, (r31.1.2.1, (r31.1.2.2.1, (r31.1.2.2.2.1, (r31.1.2.2.2.2.1, (r31.1.2.2.2.2.2.1, ())))))) (r7.1.1, (r7.1.2.1, (r7.1.2.2.1, (r7.1.2.2.2.1, (r7.1.2.2.2.2.1, (r7.1.2.2.2.2.2.1, ())))))) = _))) rfl Try.func11 rfl rfl rfl rfl (fun σ => ⟨ad_st rfl rfl ⟨ad_os0 rfl, ad_ren rfl, ad_os0 rfl, ad_ren rfl, ad_ren rfl, ad_ren rfl, trivial⟩, ad_st rfl rfl ⟨ad_os0 rfl, ad_ren rfl, ad_os0 rfl, ad_ren rfl, ad_ren rfl, ad_ren rfl, trivial⟩, trivial⟩)))) rfl ?_
              refine ao_readG (x := .bool (!(p_laws_eqTavern (r31.1.1, (r31.1.2.1, (r31.1.2.2.1, (r31.1.2.2.2.1, (r31.1.2.2.2.2.1, (r31.1.2.2.2.2.2.1, ())))))) (r7.1.1, (r7.1.2.1, (r7.1.2.2.1, (r7.1.2.2.2.1, (r7.1.2.2.2.2.1, (r7.1.2.2.2.2.2.1, ()))))))))) rfl (GV.F rfl) (fun hg66 => by
                    have q67 := d_f (not_t hg66)
                    exact Reads.strip 60 rfl (hg66) (r_not rfl)) rfl ?_
              refine ao_read trivial (r_orB rfl rfl) rfl ?_
              refine ao_read trivial (r_move rfl) rfl ?_
              refine ao_readG (x := .bool r31.2) rfl (GV.F rfl) (fun hg68 => by
                    obtain ⟨q69, q70⟩ := or_f (not_t hg68)
                    have q71 := d_f q69
                    exact r_move rfl) rfl ?_
              refine ao_readG (x := .bool r7.2) rfl (GV.F rfl) (fun hg72 => by
                    obtain ⟨q73, q74⟩ := or_f (not_t hg72)
                    have q75 := d_f q73
                    exact r_move rfl) rfl ?_
              refine ao_readG (x := .bool (r31.2 != r7.2)) rfl (GV.F rfl) (fun hg76 => by
                    obtain ⟨q77, q78⟩ := or_f (not_t hg76)
                    have q79 := d_f q77
                    exact Reads.strip 64 rfl (hg76) (Reads.strip 65 rfl (hg76) (r_neq_bool Try.underlying4 rfl rfl))) rfl ?_
              refine ao_read trivial (r_orB rfl rfl) rfl ?_
              refine ao_nil ?_
              refine aq_then ?_
              refine aw_cond rfl (fun hb80 => ?_) (fun hb80 => ?_)
              · replace h := is_if hb80 h
                refine aw_seq ?_
                refine aw_region ?_
                refine ao_read trivial (r_assign rfl) rfl ?_
                refine ao_nil ?_
                refine aq_then ?_
                refine aw_ret ?_
                refine aq_then_ret ?_
                refine aq_ret ?_
                obtain rfl := is_some h
                exact aq_finx (l := [.tmp 4]) (xs := [.bool false]) idn [.bool false] [] rfl (by exact ⟨rfl, trivial⟩) (by exact ⟨ad_ren rfl, trivial⟩) (by exact trivial) rfl (nk rfl) rfl rfl ⟨rfl, rfl⟩
              · obtain ⟨q81, q82⟩ := or_f hb80
                obtain ⟨q83, q84⟩ := or_f q81
                have q85 := d_f q83
                replace h := is_else (ne_t hb80) h
                refine aw_skip ?_
                refine aq_then ?_
                refine aw_seq ?_
                refine aw_region ?_
                refine ao_read trivial (r_assign rfl) rfl ?_
                refine ao_nil ?_
                refine aq_then ?_
                refine aw_seq ?_
                refine aw_region ?_
                refine ao_read trivial (r_load_st [] [.cell (.os 9), .cell (.int .i64 r31.1.2.1), .cell (.os 10), .cell (.int .i64 r31.1.2.2.2.1), .cell (.int .i64 r31.1.2.2.2.2.1), .cell (.int .i64 r31.1.2.2.2.2.2.1)] [] Try.isAgg29 Try.sizeOf29 rfl rfl rfl rfl rfl rfl rfl) rfl ?_
                refine ao_read trivial (r_move rfl) rfl ?_
                refine ao_call [9, 10] 11 trivial (c_laws_markTavern (is_mk (rfl : p_laws_markTavern r31.1.1 r31.1.2.1 r31.1.2.2.1 r31.1.2.2.2.1 r31.1.2.2.2.2.1 r31.1.2.2.2.2.2.1 1 = _))) Try.func12 rfl rfl rfl rfl ⟨ad_ren rfl, ad_ren rfl, trivial⟩ ⟨⟨_, rfl, rfl⟩, ⟨_, rfl, rfl⟩, trivial⟩ rfl rfl rfl rfl rfl rfl rfl (fun r' H' hr => ?_)
                obtain ⟨rfl, rfl⟩ := hr
                refine ao_norm (y := .int .i64 ((p_laws_markTavern r31.1.1 r31.1.2.1 r31.1.2.2.1 r31.1.2.2.2.1 r31.1.2.2.2.2.1 r31.1.2.2.2.2.2.1 1).1)) (H' := [(0, .var [.cell (.v (.slice (.arr 6 (.int .i64))) x0.1), .cell (.int .i64 x0.2.1), .cell (.v (.slice (.int .i64)) x0.2.2.1), .cell (.int .i64 x0.2.2.2.1), .cell (.int .i64 x0.2.2.2.2.1), .cell (.int .i64 x0.2.2.2.2.2.1)]), (1, .var [.cell (.int .i64 x1.1), .cell (.int .i64 x1.2.1), .cell (.int .i64 x1.2.2.1)]), (2, .var [.cell (.os 5), .cell (.int .i64 r7.1.2.1), .cell (.os 6), .cell (.int .i64 r7.1.2.2.2.1), .cell (.int .i64 r7.1.2.2.2.2.1), .cell (.int .i64 r7.1.2.2.2.2.2.1)]), (3, .var [.cell (.os 7), .cell (.int .i64 r28.2.1), .cell (.os 8), .cell (.int .i64 r28.2.2.2.1), .cell (.int .i64 r28.2.2.2.2.1), .cell (.int .i64 r28.2.2.2.2.2.1)]), (4, .var [.cell (.os 9), .cell (.int .i64 r31.1.2.1), .cell (.os 10), .cell (.int .i64 r31.1.2.2.2.1), .cell (.int .i64 r31.1.2.2.2.2.1), .cell (.int .i64 r31.1.2.2.2.2.2.1)]), (5, .row (.arr 6 (.int .i64)) r7.1.1), (6, .row (.int .i64) r7.1.2.2.1), (7, .row (.arr 6 (.int .i64)) ((p_laws_markTavern r28.1 r28.2.1 r28.2.2.1 r28.2.2.2.1 r28.2.2.2.2.1 r28.2.2.2.2.2.1 1).2.1 : (List (List Int)))), (8, .row (.int .i64) ((p_laws_markTavern r28.1 r28.2.1 r28.2.2.1 r28.2.2.2.1 r28.2.2.2.2.1 r28.2.2.2.2.2.1 1).2.2 : (List Int))), (9, .row (.arr 6 (.int .i64)) ((p_laws_markTavern r31.1.1 r31.1.2.1 r31.1.2.2.1 r31.1.2.2.2.1 r31.1.2.2.2.2.1 r31.1.2.2.2.2.2.1 1).2.1 : (List (List Int)))), (10, .row (.int .i64) ((p_laws_markTavern r31.1.1 r31.1.2.1 r31.1.2.2.1 r31.1.2.2.2.1 r31.1.2.2.2.2.1 r31.1.2.2.2.2.2.1 1).2.2 : (List Int)))]) rfl rfl ?_
                refine ao_read trivial (r_assign rfl) rfl ?_
                refine ao_nil ?_
                refine aq_then ?_
                refine aw_seq ?_
                refine aw_region ?_
                refine ao_read trivial (r_assign rfl) rfl ?_
                refine ao_nil ?_
                refine aq_then ?_
                refine aw_seq ?_
                refine aw_region ?_
                refine ao_read trivial (r_load_st [] [.cell (.os 9), .cell (.int .i64 r31.1.2.1), .cell (.os 10), .cell (.int .i64 r31.1.2.2.2.1), .cell (.int .i64 r31.1.2.2.2.2.1), .cell (.int .i64 r31.1.2.2.2.2.2.1)] [] Try.isAgg29 Try.sizeOf29 rfl rfl rfl rfl rfl rfl rfl) rfl ?_
                refine ao_read trivial (r_move rfl) rfl ?_
                refine ao_scall trivial (scall (c_laws_heldTavern (is_mk (rfl : p_laws_heldTavern ((p_laws_markTavern r31.1.1 r31.1.2.1 r31.1.2.2.1 r31.1.2.2.2.1 r31.1.2.2.2.2.1 r31.1.2.2.2.2.2.1 1).2.1, (r31.1.2.1, ((p_laws_markTavern r31.1.1 r31.1.2.1 r31.1.2.2.1 r31.1.2.2.2.1 r31.1.2.2.2.2.1 r31.1.2.2.2.2.2.1 1).2.2, (r31.1.2.2.2.1, (r31.1.2.2.2.2.1, (r31.1.2.2.2.2.2.1, ())))))) 1 = _))) rfl Try.func13 rfl rfl rfl rfl (fun σ => ⟨ad_st rfl rfl ⟨ad_os0 rfl, ad_ren rfl, ad_os0 rfl, ad_ren rfl, ad_ren rfl, ad_ren rfl, trivial⟩, ad_ren rfl, trivial⟩)) rfl ?_
                refine ao_read trivial (r_assign rfl) rfl ?_
                refine ao_nil ?_
                refine aq_then ?_
                refine aw_seq ?_
                refine aw_seq ?_
                refine aw_region ?_
                refine ao_read trivial (r_move rfl) rfl ?_
                refine ao_read trivial (r_lss rfl rfl) rfl ?_
                refine ao_nil ?_
                refine aq_then ?_
                refine aw_cond rfl (fun hb86 => ?_) (fun hb86 => ?_)
                · have q87 := d_t hb86
                  replace h := is_if (d_t hb86) h
                  refine aw_seq ?_
                  refine aw_region ?_
                  refine ao_read trivial (r_assign rfl) rfl ?_
                  refine ao_nil ?_
                  refine aq_then ?_
                  refine aw_ret ?_
                  refine aq_then_ret ?_
                  refine aq_ret ?_
                  obtain rfl := is_some h
                  exact aq_finx (l := [.tmp 4]) (xs := [.bool false]) idn [.bool false] [] rfl (by exact ⟨rfl, trivial⟩) (by exact ⟨ad_ren rfl, trivial⟩) (by exact trivial) rfl (nk rfl) rfl rfl ⟨rfl, rfl⟩
                · have q88 := d_f hb86
                  replace h := is_else (d_f hb86) h
                  refine aw_skip ?_
                  refine aq_then ?_
                  refine aw_seq ?_
                  refine aw_seq ?_
                  refine aw_region ?_
                  refine ao_read trivial (r_move rfl) rfl ?_
                  refine ao_read trivial (r_move rfl) rfl ?_
                  refine ao_read trivial (r_neq rfl rfl) rfl ?_
                  refine ao_nil ?_
                  refine aq_then ?_
                  refine aw_cond rfl (fun hb89 => ?_) (fun hb89 => ?_)
                  · have q90 := d_f (not_t hb89)
                    replace h := is_else (d_f (not_t hb89)) h
                    refine aw_seq ?_
                    refine aw_region ?_
                    refine ao_read trivial (r_assign rfl) rfl ?_
                    refine ao_nil ?_
                    refine aq_then ?_
                    refine aw_ret ?_
                    refine aq_then_ret ?_
                    refine aq_ret ?_
                    obtain rfl := is_some h
                    exact aq_finx (l := [.tmp 4]) (xs := [.bool false]) idn [.bool false] [] rfl (by exact ⟨rfl, trivial⟩) (by exact ⟨ad_ren rfl, trivial⟩) (by exact trivial) rfl (nk rfl) rfl rfl ⟨rfl, rfl⟩
                  · have q91 := d_t (not_f hb89)
                    replace h := is_if (d_t (not_f hb89)) h
                    refine aw_skip ?_
                    refine aq_then ?_
                    refine aw_seq ?_
                    obtain ⟨r92, r92h, h⟩ := is_bind h
                    obtain ⟨r95, r95h, h⟩ := is_bind h
                    refine aw_drawP 11 rfl (by kernel_rfl) ?_
                    refine ap_to [(6, .ref 0 0), (7, .bool r7.2), (9, .ref 1 0), (12, .int .i64 ((p_laws_markTavern r31.1.1 r31.1.2.1 r31.1.2.2.1 r31.1.2.2.2.1 r31.1.2.2.2.2.1 r31.1.2.2.2.2.2.1 1).1)), (14, .ref 2 0), (15, .bool r95.2)] [(0, .var [.cell (.os 3), .cell (.int .i64 r7.1.2.1), .cell (.os 4), .cell (.int .i64 r7.1.2.2.2.1), .cell (.int .i64 r7.1.2.2.2.2.1), .cell (.int .i64 r7.1.2.2.2.2.2.1)]), (1, .var [.cell (.os 5), .cell (.int .i64 r31.1.2.1), .cell (.os 6), .cell (.int .i64 r31.1.2.2.2.1), .cell (.int .i64 r31.1.2.2.2.2.1), .cell (.int .i64 r31.1.2.2.2.2.2.1)]), (2, .var [.cell (.os 7), .cell (.int .i64 r95.1.2.1), .cell (.os 8), .cell (.int .i64 r95.1.2.2.2.1), .cell (.int .i64 r95.1.2.2.2.2.1), .cell (.int .i64 r95.1.2.2.2.2.2.1)]), (3, .row (.arr 6 (.int .i64)) r7.1.1), (4, .row (.int .i64) r7.1.2.2.1), (5, .row (.arr 6 (.int .i64)) ((p_laws_markTavern r31.1.1 r31.1.2.1 r31.1.2.2.1 r31.1.2.2.2.1 r31.1.2.2.2.2.1 r31.1.2.2.2.2.2.1 1).2.1 : (List (List Int)))), (6, .row (.int .i64) ((p_laws_markTavern r31.1.1 r31.1.2.1 r31.1.2.2.1 r31.1.2.2.2.1 r31.1.2.2.2.2.1 r31.1.2.2.2.2.2.1 1).2.2 : (List Int))), (7, .row (.arr 6 (.int .i64)) r95.1.1), (8, .row (.int .i64) r95.1.2.2.1)] ?_ (fun key => ?_)
                    · refine row_len_q 7 (r95.1.1.length : Int) rfl rfl (fun hr114 => ?_)
                      refine row_len_q 8 (r95.1.2.2.1.length : Int) rfl rfl (fun hr115 => ?_)
                      refine aq_then ?_
                      refine aw_seq ?_
                      refine aw_seq ?_
                      refine aw_region ?_
                      refine ao_read trivial (r_load_st [] [.cell (.os 7), .cell (.int .i64 r95.1.2.1), .cell (.os 8), .cell (.int .i64 r95.1.2.2.2.1), .cell (.int .i64 r95.1.2.2.2.2.1), .cell (.int .i64 r95.1.2.2.2.2.2.1)] [] Try.isAgg29 Try.sizeOf29 rfl rfl rfl rfl rfl rfl rfl) rfl ?_
                      refine ao_read trivial (r_load_st [] [.cell (.os 3), .cell (.int .i64 r7.1.2.1), .cell (.os 4), .cell (.int .i64 r7.1.2.2.2.1), .cell (.int .i64 r7.1.2.2.2.2.1), .cell (.int .i64 r7.1.2.2.2.2.2.1)] [] Try.isAgg29 Try.sizeOf29 rfl rfl rfl rfl rfl rfl rfl) rfl ?_
                      refine ao_scall trivial (scall (c_laws_eqTavern (is_mk (rfl : p_laws_eqTavern (r95.1.1, (r95.1.2.1, (r95.1.2.2.1, (r95.1.2.2.2.1, (r95.1.2.2.2.2.1, (r95.1.2.2.2.2.2.1, ())))))) (r7.1.1, (r7.1.2.1, (r7.1.2.2.1, (r7.1.2.2.2.1, (r7.1.2.2.2.2.1, (r7.1.2.2.2.2.2.1, ())))))) = _))) rfl Try.func11 rfl rfl rfl rfl (fun σ => ⟨ad_st rfl rfl ⟨ad_os0 rfl, ad_ren rfl, ad_os0 rfl, ad_ren rfl, ad_ren rfl, ad_ren rfl, trivial⟩, ad_st rfl rfl ⟨ad_os0 rfl, ad_ren rfl, ad_os0 rfl, ad_ren rfl, ad_ren rfl, ad_ren rfl, trivial⟩, trivial⟩)) rfl ?_
                      refine ao_read trivial (r_not rfl) rfl ?_
                      refine ao_read trivial (r_move rfl) rfl ?_
                      refine ao_readG (x := .bool r95.2) rfl (GV.F rfl) (fun hg116 => r_move rfl) rfl ?_
                      refine ao_readG (x := .bool r7.2) rfl (GV.F rfl) (fun hg117 => r_move rfl) rfl ?_
                      refine ao_readG (x := .bool (r95.2 != r7.2)) rfl (GV.F rfl) (fun hg118 => Reads.strip 92 rfl (hg118) (Reads.strip 93 rfl (hg118) (r_neq_bool Try.underlying4 rfl rfl))) rfl ?_
                      refine ao_read trivial (r_orB rfl rfl) rfl ?_
                      refine ao_nil ?_
                      refine aq_then ?_
                      refine aw_cond rfl (fun hb119 => ?_) (fun hb119 => ?_)
                      · replace h := is_if hb119 h
                        refine aw_seq ?_
                        refine aw_region ?_
                        refine ao_read trivial (r_assign rfl) rfl ?_
                        refine ao_nil ?_
                        refine aq_then ?_
                        refine aw_ret ?_
                        refine aq_then_ret ?_
                        refine aq_ret ?_
                        obtain rfl := is_some h
                        exact aq_finx (l := [.tmp 4]) (xs := [.bool false]) idn [.bool false] [] rfl (by exact ⟨rfl, trivial⟩) (by exact ⟨ad_ren rfl, trivial⟩) (by exact trivial) rfl (nk rfl) rfl rfl ⟨rfl, rfl⟩
                      · obtain ⟨q120, q121⟩ := or_f hb119
                        replace h := is_else (ne_t hb119) h
                        refine aw_skip ?_
                        refine aq_then ?_
                        refine aw_seq ?_
                        refine aw_region ?_
                        refine ao_read trivial (r_assign rfl) rfl ?_
                        refine ao_nil ?_
                        refine aq_then ?_
                        refine aw_seq ?_
                        refine aw_region ?_
                        refine ao_read trivial (r_load_st [] [.cell (.os 5), .cell (.int .i64 r31.1.2.1), .cell (.os 6), .cell (.int .i64 r31.1.2.2.2.1), .cell (.int .i64 r31.1.2.2.2.2.1), .cell (.int .i64 r31.1.2.2.2.2.2.1)] [] Try.isAgg29 Try.sizeOf29 rfl rfl rfl rfl rfl rfl rfl) rfl ?_
                        refine ao_read trivial (r_move rfl) rfl ?_
                        refine ao_scall trivial (scall (c_laws_heldTavern (is_mk (rfl : p_laws_heldTavern ((p_laws_markTavern r31.1.1 r31.1.2.1 r31.1.2.2.1 r31.1.2.2.2.1 r31.1.2.2.2.2.1 r31.1.2.2.2.2.2.1 1).2.1, (r31.1.2.1, ((p_laws_markTavern r31.1.1 r31.1.2.1 r31.1.2.2.1 r31.1.2.2.2.1 r31.1.2.2.2.2.1 r31.1.2.2.2.2.2.1 1).2.2, (r31.1.2.2.2.1, (r31.1.2.2.2.2.1, (r31.1.2.2.2.2.2.1, ())))))) 1 = _))) rfl Try.func13 rfl rfl rfl rfl (fun σ => ⟨ad_st rfl rfl ⟨ad_os0 rfl, ad_ren rfl, ad_os0 rfl, ad_ren rfl, ad_ren rfl, ad_ren rfl, trivial⟩, ad_ren rfl, trivial⟩)) rfl ?_
                        refine ao_read trivial (r_assign rfl) rfl ?_
                        refine ao_nil ?_
                        refine aq_then ?_
                        refine aw_seq ?_
                        refine aw_seq ?_
                        refine aw_region ?_
                        refine ao_read trivial (r_move rfl) rfl ?_
                        refine ao_read trivial (r_lss rfl rfl) rfl ?_
                        refine ao_nil ?_
                        refine aq_then ?_
                        refine aw_cond rfl (fun hb122 => ?_) (fun hb122 => ?_)
                        · have q123 := d_t hb122
                          replace h := is_if (d_t hb122) h
                          refine aw_seq ?_
                          refine aw_region ?_
                          refine ao_read trivial (r_assign rfl) rfl ?_
                          refine ao_nil ?_
                          refine aq_then ?_
                          refine aw_ret ?_
                          refine aq_then_ret ?_
                          refine aq_ret ?_
                          obtain rfl := is_some h
                          exact aq_finx (l := [.tmp 4]) (xs := [.bool false]) idn [.bool false] [] rfl (by exact ⟨rfl, trivial⟩) (by exact ⟨ad_ren rfl, trivial⟩) (by exact trivial) rfl (nk rfl) rfl rfl ⟨rfl, rfl⟩
                        · have q124 := d_f hb122
                          replace h := is_else (d_f hb122) h
                          refine aw_skip ?_
                          refine aq_then ?_
                          refine aw_seq ?_
                          refine aw_seq ?_
                          refine aw_region ?_
                          refine ao_read trivial (r_move rfl) rfl ?_
                          refine ao_read trivial (r_move rfl) rfl ?_
                          refine ao_read trivial (r_neq rfl rfl) rfl ?_
                          refine ao_nil ?_
                          refine aq_then ?_
                          refine aw_cond rfl (fun hb125 => ?_) (fun hb125 => ?_)
                          · have q126 := d_f (not_t hb125)
                            replace h := is_else (d_f (not_t hb125)) h
                            refine aw_seq ?_
                            refine aw_region ?_
                            refine ao_read trivial (r_assign rfl) rfl ?_
                            refine ao_nil ?_
                            refine aq_then ?_
                            refine aw_ret ?_
                            refine aq_then_ret ?_
                            refine aq_ret ?_
                            obtain rfl := is_some h
                            exact aq_finx (l := [.tmp 4]) (xs := [.bool false]) idn [.bool false] [] rfl (by exact ⟨rfl, trivial⟩) (by exact ⟨ad_ren rfl, trivial⟩) (by exact trivial) rfl (nk rfl) rfl rfl ⟨rfl, rfl⟩
                          · have q127 := d_t (not_f hb125)
                            replace h := is_if (d_t (not_f hb125)) h
                            refine aw_skip ?_
                            refine aq_then ?_
                            refine aw_seq ?_
                            refine aw_region ?_
                            refine ao_read trivial (r_assign rfl) rfl ?_
                            refine ao_nil ?_
                            refine aq_then ?_
                            refine aw_ret ?_
                            refine aq_ret ?_
                            obtain rfl := is_some h
                            exact aq_finx (l := [.tmp 4]) (xs := [.bool true]) idn [.bool true] [] rfl (by exact ⟨rfl, trivial⟩) (by exact ⟨ad_ren rfl, trivial⟩) (by exact trivial) rfl (nk rfl) rfl rfl ⟨rfl, rfl⟩
                    refine ap_let (g := 2) (listed := #[true, true, true, true, true, true, true, true, true, false, false]) [(6, .ref 0 0), (7, .bool r7.2), (9, .ref 1 0), (12, .int .i64 ((p_laws_markTavern r31.1.1 r31.1.2.1 r31.1.2.2.1 r31.1.2.2.2.1 r31.1.2.2.2.2.1 r31.1.2.2.2.2.2.1 1).1)), (14, .ref 2 0), (85, .st [.os 3, .int .i64 r95.1.2.1, .os 4, .int .i64 r95.1.2.2.2.1, .int .i64 r95.1.2.2.2.2.1, .int .i64 r95.1.2.2.2.2.2.1]), (86, .bool r95.2)] [(0, .var [.cell (.os 5), ci r7.1.2.1, .cell (.os 6), ci r7.1.2.2.2.1, ci r7.1.2.2.2.2.1, ci r7.1.2.2.2.2.2.1]), (1, .var [.cell (.os 7), ci r31.1.2.1, .cell (.os 8), ci r31.1.2.2.2.1, ci r31.1.2.2.2.2.1, ci r31.1.2.2.2.2.2.1]), (2, .var [.cell (.nilsl), ci 0, .cell (.nilsl), ci 0, ci 0, ci 0]), (3, .row (.arr 6 (.int .i64)) r95.1.1), (4, .row (.int .i64) r95.1.2.2.1), (5, .row (.arr 6 (.int .i64)) r7.1.1), (6, .row (.int .i64) r7.1.2.2.1), (7, .row (.arr 6 (.int .i64)) ((p_laws_markTavern r31.1.1 r31.1.2.1 r31.1.2.2.1 r31.1.2.2.2.1 r31.1.2.2.2.2.1 r31.1.2.2.2.2.2.1 1).2.1 : (List (List Int)))), (8, .row (.int .i64) ((p_laws_markTavern r31.1.1 r31.1.2.1 r31.1.2.2.1 r31.1.2.2.2.1 r31.1.2.2.2.2.1 r31.1.2.2.2.2.2.1 1).2.2 : (List Int)))] ?_ (fun k104 => ?_)
                    · refine ap_all [9] (by kernel_rfl) ⟨?_, trivial⟩
                      refine apo_ao rfl ?_
                      refine ao_effS trivial (e_store rfl rfl rfl rfl Try.sizeOf29 rfl) ?_
                      refine ap_ni ?_
                      refine ap_pure 10 (by kernel_rfl) (fun _ _ _ h => h) rfl (by kernel_rfl) trivial (rp_assign rfl) rfl ?_
                      exact ap_end (by kernel_rfl) (AQ.sub (sub_r1 (rn [(3, 5), (4, 6), (5, 7), (6, 8), (7, 3), (8, 4)]) (nk rfl) (by kernel_rfl)) key)
                    refine ap_let (g := 3) (listed := #[true, true, true, true, true, true, true, true, false, false, false]) [(6, .ref 0 0), (7, .bool r7.2), (9, .ref 1 0), (12, .int .i64 ((p_laws_markTavern r31.1.1 r31.1.2.1 r31.1.2.2.1 r31.1.2.2.2.1 r31.1.2.2.2.2.1 r31.1.2.2.2.2.2.1 1).1)), (85, .st [.os 2, .int .i64 r95.1.2.1, .os 3, .int .i64 r95.1.2.2.2.1, .int .i64 r95.1.2.2.2.2.1, .int .i64 r95.1.2.2.2.2.2.1]), (86, .bool r95.2)] [(0, .var [.cell (.os 4), ci r7.1.2.1, .cell (.os 5), ci r7.1.2.2.2.1, ci r7.1.2.2.2.2.1, ci r7.1.2.2.2.2.2.1]), (1, .var [.cell (.os 6), ci r31.1.2.1, .cell (.os 7), ci r31.1.2.2.2.1, ci r31.1.2.2.2.2.1, ci r31.1.2.2.2.2.2.1]), (2, .row (.arr 6 (.int .i64)) r95.1.1), (3, .row (.int .i64) r95.1.2.2.1), (4, .row (.arr 6 (.int .i64)) r7.1.1), (5, .row (.int .i64) r7.1.2.2.1), (6, .row (.arr 6 (.int .i64)) ((p_laws_markTavern r31.1.1 r31.1.2.1 r31.1.2.2.1 r31.1.2.2.2.1 r31.1.2.2.2.2.1 r31.1.2.2.2.2.2.1 1).2.1 : (List (List Int)))), (7, .row (.int .i64) ((p_laws_markTavern r31.1.1 r31.1.2.1 r31.1.2.2.1 r31.1.2.2.2.1 r31.1.2.2.2.2.1 r31.1.2.2.2.2.2.1 1).2.2 : (List Int)))] ?_ (fun k103 => ?_)
                    · refine ap_all [8] (by kernel_rfl) ⟨?_, trivial⟩
                      refine apo_ao rfl ?_
                      refine ao_eff trivial (e_alloc 8 (y := .st [.nilsl, .int .i64 0, .nilsl, .int .i64 0, .int .i64 0, .int .i64 0]) Try.zeroValue29 (fun ρ h M => ra_zero_st (t := (.pair (.slice (.arr 6 (.int .i64))) (.pair (.int .i64) (.pair (.slice (.int .i64)) (.pair (.int .i64) (.pair (.int .i64) (.pair (.int .i64) .unit))))))) rfl rfl rfl) rfl rfl rfl rfl rfl) rfl ?_
                      refine ap_ni ?_
                      exact ap_gr (rn [(2, 8), (3, 2), (4, 3), (5, 4), (6, 5), (7, 6), (8, 7)]) (nk rfl) k104 (by kernel_rfl)
                    refine ap_let (g := 6) (listed := #[true, true, true, true, false, false, false, false, true, false, false]) [(6, .ref 0 0), (7, .bool r7.2), (9, .ref 1 0), (12, .int .i64 ((p_laws_markTavern r31.1.1 r31.1.2.1 r31.1.2.2.1 r31.1.2.2.2.1 r31.1.2.2.2.2.1 r31.1.2.2.2.2.2.1 1).1)), (14, .ref 2 0), (81, .st [.os 3, .int .i64 r92.2.1, .os 4, .int .i64 r92.2.2.2.1, .int .i64 r92.2.2.2.2.1, .int .i64 r92.2.2.2.2.2.1]), (83, .v (.pair (.int .i64) (.pair (.int .i64) (.pair (.int .i64) .unit))) ((p_laws_toTask (x1.1, (x1.2.1, (x1.2.2.1, ())))) : (Int × (Int × (Int × Unit)))))] [(0, .var [.cell (.os 5), ci r7.1.2.1, .cell (.os 6), ci r7.1.2.2.2.1, ci r7.1.2.2.2.2.1, ci r7.1.2.2.2.2.2.1]), (1, .var [.cell (.os 7), ci r31.1.2.1, .cell (.os 8), ci r31.1.2.2.2.1, ci r31.1.2.2.2.2.1, ci r31.1.2.2.2.2.2.1]), (2, .var [.cell (.nilsl), ci 0, .cell (.nilsl), ci 0, ci 0, ci 0]), (3, .row (.arr 6 (.int .i64)) r92.1), (4, .row (.int .i64) r92.2.2.1), (5, .row (.arr 6 (.int .i64)) r7.1.1), (6, .row (.int .i64) r7.1.2.2.1), (7, .row (.arr 6 (.int .i64)) ((p_laws_markTavern r31.1.1 r31.1.2.1 r31.1.2.2.1 r31.1.2.2.2.1 r31.1.2.2.2.2.1 r31.1.2.2.2.2.2.1 1).2.1 : (List (List Int)))), (8, .row (.int .i64) ((p_laws_markTavern r31.1.1 r31.1.2.1 r31.1.2.2.1 r31.1.2.2.2.1 r31.1.2.2.2.2.1 r31.1.2.2.2.2.2.1 1).2.2 : (List Int)))] ?_ (fun k105 => ?_)
                    · refine ap_all [4] (by kernel_rfl) ⟨?_, trivial⟩
                      refine apo_ao rfl ?_
                      refine ao_call [] 9 trivial (c_impl_DoTask (is_mk r95h)) Try.func10 rfl rfl rfl rfl ⟨ad_st rfl rfl ⟨ad_os0 rfl, ad_ren rfl, ad_os0 rfl, ad_ren rfl, ad_ren rfl, ad_ren rfl, trivial⟩, ad_ren rfl, trivial⟩ trivial rfl rfl rfl rfl rfl rfl rfl (fun r' H' hr => ?_)
                      obtain ⟨rfl, rfl⟩ := hr
                      refine ao_norm (y := .tup [.st [.os 9, .int .i64 r95.1.2.1, .os 10, .int .i64 r95.1.2.2.2.1, .int .i64 r95.1.2.2.2.2.1, .int .i64 r95.1.2.2.2.2.2.1], .bool r95.2]) (H' := [(0, .var [.cell (.os 5), .cell (.int .i64 r7.1.2.1), .cell (.os 6), .cell (.int .i64 r7.1.2.2.2.1), .cell (.int .i64 r7.1.2.2.2.2.1), .cell (.int .i64 r7.1.2.2.2.2.2.1)]), (1, .var [.cell (.os 7), .cell (.int .i64 r31.1.2.1), .cell (.os 8), .cell (.int .i64 r31.1.2.2.2.1), .cell (.int .i64 r31.1.2.2.2.2.1), .cell (.int .i64 r31.1.2.2.2.2.2.1)]), (2, .var [.cell (.nilsl), .cell (.int .i64 0), .cell (.nilsl), .cell (.int .i64 0), .cell (.int .i64 0), .cell (.int .i64 0)]), (3, .row (.arr 6 (.int .i64)) r92.1), (4, .row (.int .i64) r92.2.2.1), (5, .row (.arr 6 (.int .i64)) r7.1.1), (6, .row (.int .i64) r7.1.2.2.1), (7, .row (.arr 6 (.int .i64)) ((p_laws_markTavern r31.1.1 r31.1.2.1 r31.1.2.2.1 r31.1.2.2.2.1 r31.1.2.2.2.2.1 r31.1.2.2.2.2.2.1 1).2.1 : (List (List Int)))), (8, .row (.int .i64) ((p_laws_markTavern r31.1.1 r31.1.2.1 r31.1.2.2.1 r31.1.2.2.2.1 r31.1.2.2.2.2.1 r31.1.2.2.2.2.2.1 1).2.2 : (List Int))), (9, .row (.arr 6 (.int .i64)) r95.1.1), (10, .row (.int .i64) r95.1.2.2.1)]) rfl rfl ?_
                      refine row_len_o 9 (r95.1.1.length : Int) rfl rfl (fun hr96 => ?_)
                      refine row_len_o 10 (r95.1.2.2.1.length : Int) rfl rfl (fun hr97 => ?_)
                      refine ap_ni ?_
                      refine ap_pure 5 (by kernel_rfl) (fun _ _ _ h => h) rfl (by kernel_rfl) trivial (rp_move rfl) rfl ?_
                      refine ap_pure 6 (by kernel_rfl) (fun _ _ _ h => h) rfl (by kernel_rfl) trivial (rp_extract rfl rfl) rfl ?_
                      refine ap_pure 7 (by kernel_rfl) (fun _ _ _ h => h) rfl (by kernel_rfl) trivial (rp_extract rfl rfl) rfl ?_
                      exact ap_gr (rn [(3, 9), (4, 10)]) (nk rfl) k104 (by kernel_rfl)
                    refine ap_let (g := 7) (listed := #[true, true, true, true, false, false, false, false, false, false, false]) [(6, .ref 0 0), (7, .bool r7.2), (9, .ref 1 0), (12, .int .i64 ((p_laws_markTavern r31.1.1 r31.1.2.1 r31.1.2.2.1 r31.1.2.2.2.1 r31.1.2.2.2.2.1 r31.1.2.2.2.2.2.1 1).1)), (81, .st [.os 2, .int .i64 r92.2.1, .os 3, .int .i64 r92.2.2.2.1, .int .i64 r92.2.2.2.2.1, .int .i64 r92.2.2.2.2.2.1]), (83, .v (.pair (.int .i64) (.pair (.int .i64) (.pair (.int .i64) .unit))) ((p_laws_toTask (x1.1, (x1.2.1, (x1.2.2.1, ())))) : (Int × (Int × (Int × Unit)))))] [(0, .var [.cell (.os 4), ci r7.1.2.1, .cell (.os 5), ci r7.1.2.2.2.1, ci r7.1.2.2.2.2.1, ci r7.1.2.2.2.2.2.1]), (1, .var [.cell (.os 6), ci r31.1.2.1, .cell (.os 7), ci r31.1.2.2.2.1, ci r31.1.2.2.2.2.1, ci r31.1.2.2.2.2.2.1]), (2, .row (.arr 6 (.int .i64)) r92.1), (3, .row (.int .i64) r92.2.2.1), (4, .row (.arr 6 (.int .i64)) r7.1.1), (5, .row (.int .i64) r7.1.2.2.1), (6, .row (.arr 6 (.int .i64)) ((p_laws_markTavern r31.1.1 r31.1.2.1 r31.1.2.2.1 r31.1.2.2.2.1 r31.1.2.2.2.2.1 r31.1.2.2.2.2.2.1 1).2.1 : (List (List Int)))), (7, .row (.int .i64) ((p_laws_markTavern r31.1.1 r31.1.2.1 r31.1.2.2.1 r31.1.2.2.2.1 r31.1.2.2.2.2.1 r31.1.2.2.2.2.2.1 1).2.2 : (List Int)))] ?_ (fun k102 => ?_)
                    · refine ap_all [4, 8] (by kernel_rfl) ⟨?_, ?_, trivial⟩
                      · refine apo_ao rfl ?_
                        refine ao_call [] 8 trivial (c_impl_DoTask (is_mk r95h)) Try.func10 rfl rfl rfl rfl ⟨ad_st rfl rfl ⟨ad_os0 rfl, ad_ren rfl, ad_os0 rfl, ad_ren rfl, ad_ren rfl, ad_ren rfl, trivial⟩, ad_ren rfl, trivial⟩ trivial rfl rfl rfl rfl rfl rfl rfl (fun r' H' hr => ?_)
                        obtain ⟨rfl, rfl⟩ := hr
                        refine ao_norm (y := .tup [.st [.os 8, .int .i64 r95.1.2.1, .os 9, .int .i64 r95.1.2.2.2.1, .int .i64 r95.1.2.2.2.2.1, .int .i64 r95.1.2.2.2.2.2.1], .bool r95.2]) (H' := [(0, .var [.cell (.os 4), .cell (.int .i64 r7.1.2.1), .cell (.os 5), .cell (.int .i64 r7.1.2.2.2.1), .cell (.int .i64 r7.1.2.2.2.2.1), .cell (.int .i64 r7.1.2.2.2.2.2.1)]), (1, .var [.cell (.os 6), .cell (.int .i64 r31.1.2.1), .cell (.os 7), .cell (.int .i64 r31.1.2.2.2.1), .cell (.int .i64 r31.1.2.2.2.2.1), .cell (.int .i64 r31.1.2.2.2.2.2.1)]), (2, .row (.arr 6 (.int .i64)) r92.1), (3, .row (.int .i64) r92.2.2.1), (4, .row (.arr 6 (.int .i64)) r7.1.1), (5, .row (.int .i64) r7.1.2.2.1), (6, .row (.arr 6 (.int .i64)) ((p_laws_markTavern r31.1.1 r31.1.2.1 r31.1.2.2.1 r31.1.2.2.2.1 r31.1.2.2.2.2.1 r31.1.2.2.2.2.2.1 1).2.1 : (List (List Int)))), (7, .row (.int .i64) ((p_laws_markTavern r31.1.1 r31.1.2.1 r31.1.2.2.1 r31.1.2.2.2.1 r31.1.2.2.2.2.1 r31.1.2.2.2.2.2.1 1).2.2 : (List Int))), (8, .row (.arr 6 (.int .i64)) r95.1.1), (9, .row (.int .i64) r95.1.2.2.1)]) rfl rfl ?_
                        refine row_len_o 8 (r95.1.1.length : Int) rfl rfl (fun hr96 => ?_)
                        refine row_len_o 9 (r95.1.2.2.1.length : Int) rfl rfl (fun hr97 => ?_)
                        refine ap_ni ?_
                        refine ap_pure 5 (by kernel_rfl) (fun _ _ _ h => h) rfl (by kernel_rfl) trivial (rp_move rfl) rfl ?_
                        refine ap_pure 6 (by kernel_rfl) (fun _ _ _ h => h) rfl (by kernel_rfl) trivial (rp_extract rfl rfl) rfl ?_
                        refine ap_pure 7 (by kernel_rfl) (fun _ _ _ h => h) rfl (by kernel_rfl) trivial (rp_extract rfl rfl) rfl ?_
                        exact ap_gr (rn [(2, 8), (3, 9)]) (nk rfl) k103 (by kernel_rfl)
                      · refine apo_ao rfl ?_
                        refine ao_eff trivial (e_alloc 8 (y := .st [.nilsl, .int .i64 0, .nilsl, .int .i64 0, .int .i64 0, .int .i64 0]) Try.zeroValue29 (fun ρ h M => ra_zero_st (t := (.pair (.slice (.arr 6 (.int .i64))) (.pair (.int .i64) (.pair (.slice (.int .i64)) (.pair (.int .i64) (.pair (.int .i64) (.pair (.int .i64) .unit))))))) rfl rfl rfl) rfl rfl rfl rfl rfl) rfl ?_
                        refine ap_ni ?_
                        exact ap_gr (rn [(2, 8), (3, 2), (4, 3), (5, 4), (6, 5), (7, 6), (8, 7)]) (nk rfl) k105 (by kernel_rfl)
                    refine ap_let (g := 7) (listed := #[true, true, true, false, false, false, false, false, true, false, false]) [(6, .ref 0 0), (7, .bool r7.2), (9, .ref 1 0), (12, .int .i64 ((p_laws_markTavern r31.1.1 r31.1.2.1 r31.1.2.2.1 r31.1.2.2.2.1 r31.1.2.2.2.2.1 r31.1.2.2.2.2.2.1 1).1)), (14, .ref 2 0), (81, .st [.os 3, .int .i64 r92.2.1, .os 4, .int .i64 r92.2.2.2.1, .int .i64 r92.2.2.2.2.1, .int .i64 r92.2.2.2.2.2.1]), (82, .v (.pair (.int .i64) (.pair (.int .i64) (.pair (.int .i64) .unit))) ((x1.1, (x1.2.1, (x1.2.2.1, ()))) : (Int × (Int × (Int × Unit)))))] [(0, .var [.cell (.os 5), ci r7.1.2.1, .cell (.os 6), ci r7.1.2.2.2.1, ci r7.1.2.2.2.2.1, ci r7.1.2.2.2.2.2.1]), (1, .var [.cell (.os 7), ci r31.1.2.1, .cell (.os 8), ci r31.1.2.2.2.1, ci r31.1.2.2.2.2.1, ci r31.1.2.2.2.2.2.1]), (2, .var [.cell (.nilsl), ci 0, .cell (.nilsl), ci 0, ci 0, ci 0]), (3, .row (.arr 6 (.int .i64)) r92.1), (4, .row (.int .i64) r92.2.2.1), (5, .row (.arr 6 (.int .i64)) r7.1.1), (6, .row (.int .i64) r7.1.2.2.1), (7, .row (.arr 6 (.int .i64)) ((p_laws_markTavern r31.1.1 r31.1.2.1 r31.1.2.2.1 r31.1.2.2.2.1 r31.1.2.2.2.2.1 r31.1.2.2.2.2.2.1 1).2.1 : (List (List Int)))), (8, .row (.int .i64) ((p_laws_markTavern r31.1.1 r31.1.2.1 r31.1.2.2.1 r31.1.2.2.2.1 r31.1.2.2.2.2.1 r31.1.2.2.2.2.2.1 1).2.2 : (List Int)))] ?_ (fun k106 => ?_)
                    · refine ap_all [3] (by kernel_rfl) ⟨?_, trivial⟩
                      refine apo_ao rfl ?_
                      refine ao_scall trivial (scall (c_laws_toTask (is_mk (rfl : p_laws_toTask (x1.1, (x1.2.1, (x1.2.2.1, ()))) = _))) rfl Try.func9 rfl rfl rfl rfl (fun σ => ⟨ad_ren rfl, trivial⟩)) rfl ?_
                      refine ap_ni ?_
                      exact ap_gr idn (nk rfl) k105 (by kernel_rfl)
                    refine ap_let (g := 8) (listed := #[true, true, true, false, false, false, false, false, false, false, false]) [(6, .ref 0 0), (7, .bool r7.2), (9, .ref 1 0), (12, .int .i64 ((p_laws_markTavern r31.1.1 r31.1.2.1 r31.1.2.2.1 r31.1.2.2.2.1 r31.1.2.2.2.2.1 r31.1.2.2.2.2.2.1 1).1)), (81, .st [.os 2, .int .i64 r92.2.1, .os 3, .int .i64 r92.2.2.2.1, .int .i64 r92.2.2.2.2.1, .int .i64 r92.2.2.2.2.2.1]), (82, .v (.pair (.int .i64) (.pair (.int .i64) (.pair (.int .i64) .unit))) ((x1.1, (x1.2.1, (x1.2.2.1, ()))) : (Int × (Int × (Int × Unit)))))] [(0, .var [.cell (.os 4), ci r7.1.2.1, .cell (.os 5), ci r7.1.2.2.2.1, ci r7.1.2.2.2.2.1, ci r7.1.2.2.2.2.2.1]), (1, .var [.cell (.os 6), ci r31.1.2.1, .cell (.os 7), ci r31.1.2.2.2.1, ci r31.1.2.2.2.2.1, ci r31.1.2.2.2.2.2.1]), (2, .row (.arr 6 (.int .i64)) r92.1), (3, .row (.int .i64) r92.2.2.1), (4, .row (.arr 6 (.int .i64)) r7.1.1), (5, .row (.int .i64) r7.1.2.2.1), (6, .row (.arr 6 (.int .i64)) ((p_laws_markTavern r31.1.1 r31.1.2.1 r31.1.2.2.1 r31.1.2.2.2.1 r31.1.2.2.2.2.1 r31.1.2.2.2.2.2.1 1).2.1 : (List (List Int)))), (7, .row (.int .i64) ((p_laws_markTavern r31.1.1 r31.1.2.1 r31.1.2.2.1 r31.1.2.2.2.1 r31.1.2.2.2.2.1 r31.1.2.2.2.2.2.1 1).2.2 : (List Int)))] ?_ (fun k101 => ?_)
                    · refine ap_all [3, 8] (by kernel_rfl) ⟨?_, ?_, trivial⟩
                      · refine apo_ao rfl ?_
                        refine ao_scall trivial (scall (c_laws_toTask (is_mk (rfl : p_laws_toTask (x1.1, (x1.2.1, (x1.2.2.1, ()))) = _))) rfl Try.func9 rfl rfl rfl rfl (fun σ => ⟨ad_ren rfl, trivial⟩)) rfl ?_
                        refine ap_ni ?_
                        exact ap_gr idn (nk rfl) k102 (by kernel_rfl)
                      · refine apo_ao rfl ?_
                        refine ao_eff trivial (e_alloc 8 (y := .st [.nilsl, .int .i64 0, .nilsl, .int .i64 0, .int .i64 0, .int .i64 0]) Try.zeroValue29 (fun ρ h M => ra_zero_st (t := (.pair (.slice (.arr 6 (.int .i64))) (.pair (.int .i64) (.pair (.slice (.int .i64)) (.pair (.int .i64) (.pair (.int .i64) (.pair (.int .i64) .unit))))))) rfl rfl rfl) rfl rfl rfl rfl rfl) rfl ?_
                        refine ap_ni ?_
                        exact ap_gr (rn [(2, 8), (3, 2), (4, 3), (5, 4), (6, 5), (7, 6), (8, 7)]) (nk rfl) k106 (by kernel_rfl)
                    refine ap_let (g := 8) (listed := #[true, true, false, false, false, false, false, false, true, false, false]) [(3, .ref 0 0), (6, .ref 1 0), (7, .bool r7.2), (9, .ref 2 0), (12, .int .i64 ((p_laws_markTavern r31.1.1 r31.1.2.1 r31.1.2.2.1 r31.1.2.2.2.1 r31.1.2.2.2.2.1 r31.1.2.2.2.2.2.1 1).1)), (14, .ref 3 0), (81, .st [.os 4, .int .i64 r92.2.1, .os 5, .int .i64 r92.2.2.2.1, .int .i64 r92.2.2.2.2.1, .int .i64 r92.2.2.2.2.2.1])] [(0, .var [ci x1.1, ci x1.2.1, ci x1.2.2.1]), (1, .var [.cell (.os 6), ci r7.1.2.1, .cell (.os 7), ci r7.1.2.2.2.1, ci r7.1.2.2.2.2.1, ci r7.1.2.2.2.2.2.1]), (2, .var [.cell (.os 8), ci r31.1.2.1, .cell (.os 9), ci r31.1.2.2.2.1, ci r31.1.2.2.2.2.1, ci r31.1.2.2.2.2.2.1]), (3, .var [.cell (.nilsl), ci 0, .cell (.nilsl), ci 0, ci 0, ci 0]), (4, .row (.arr 6 (.int .i64)) r92.1), (5, .row (.int .i64) r92.2.2.1), (6, .row (.arr 6 (.int .i64)) r7.1.1), (7, .row (.int .i64) r7.1.2.2.1), (8, .row (.arr 6 (.int .i64)) ((p_laws_markTavern r31.1.1 r31.1.2.1 r31.1.2.2.1 r31.1.2.2.2.1 r31.1.2.2.2.2.1 r31.1.2.2.2.2.2.1 1).2.1 : (List (List Int)))), (9, .row (.int .i64) ((p_laws_markTavern r31.1.1 r31.1.2.1 r31.1.2.2.1 r31.1.2.2.2.1 r31.1.2.2.2.2.1 r31.1.2.2.2.2.2.1 1).2.2 : (List Int)))] ?_ (fun k107 => ?_)
                    · refine ap_all [2] (by kernel_rfl) ⟨?_, trivial⟩
                      refine apo_ao rfl ?_
                      refine ao_read trivial (r_load_part (τ := (.pair (.int .i64) (.pair (.int .i64) (.pair (.int .i64) .unit)))) (y := ((x1.1, (x1.2.1, (x1.2.2.1, ()))) : (Int × (Int × (Int × Unit))))) [] [] rfl Try.isAgg27 Try.sizeOf27 rfl rfl rfl rfl) rfl ?_
                      refine ap_ni ?_
                      exact ap_gr (rn [(0, 1), (1, 2), (2, 3), (3, 4), (4, 5), (5, 6), (6, 7), (7, 8), (8, 9)]) (nk rfl) k106 (by kernel_rfl)
                    refine ap_let (g := 8) (listed := #[true, false, true, false, false, false, false, false, true, false, false]) [(6, .ref 0 0), (7, .bool r7.2), (9, .ref 1 0), (12, .int .i64 ((p_laws_markTavern r31.1.1 r31.1.2.1 r31.1.2.2.1 r31.1.2.2.2.1 r31.1.2.2.2.2.1 r31.1.2.2.2.2.2.1 1).1)), (14, .ref 2 0), (80, .v (.pair (.slice (.arr 6 (.int .i64))) (.pair (.int .i64) (.pair (.slice (.int .i64)) (.pair (.int .i64) (.pair (.int .i64) (.pair (.int .i64) .unit)))))) ((x0.1, (x0.2.1, (x0.2.2.1, (x0.2.2.2.1, (x0.2.2.2.2.1, (x0.2.2.2.2.2.1, ())))))) : ((List (List Int)) × (Int × ((List Int) × (Int × (Int × (Int × Unit)))))))), (82, .v (.pair (.int .i64) (.pair (.int .i64) (.pair (.int .i64) .unit))) ((x1.1, (x1.2.1, (x1.2.2.1, ()))) : (Int × (Int × (Int × Unit)))))] [(0, .var [.cell (.os 3), ci r7.1.2.1, .cell (.os 4), ci r7.1.2.2.2.1, ci r7.1.2.2.2.2.1, ci r7.1.2.2.2.2.2.1]), (1, .var [.cell (.os 5), ci r31.1.2.1, .cell (.os 6), ci r31.1.2.2.2.1, ci r31.1.2.2.2.2.1, ci r31.1.2.2.2.2.2.1]), (2, .var [.cell (.nilsl), ci 0, .cell (.nilsl), ci 0, ci 0, ci 0]), (3, .row (.arr 6 (.int .i64)) r7.1.1), (4, .row (.int .i64) r7.1.2.2.1), (5, .row (.arr 6 (.int .i64)) ((p_laws_markTavern r31.1.1 r31.1.2.1 r31.1.2.2.1 r31.1.2.2.2.1 r31.1.2.2.2.2.1 r31.1.2.2.2.2.2.1 1).2.1 : (List (List Int)))), (6, .row (.int .i64) ((p_laws_markTavern r31.1.1 r31.1.2.1 r31.1.2.2.1 r31.1.2.2.2.1 r31.1.2.2.2.2.1 r31.1.2.2.2.2.2.1 1).2.2 : (List Int)))] ?_ (fun k109 => ?_)
                    · refine ap_all [1] (by kernel_rfl) ⟨?_, trivial⟩
                      refine apo_ao rfl ?_
                      refine ao_call [] 7 trivial (c_laws_toTavern (is_mk r92h)) Try.func8 rfl rfl rfl rfl ⟨ad_ren rfl, trivial⟩ trivial rfl rfl rfl rfl rfl rfl rfl (fun r' H' hr => ?_)
                      obtain ⟨rfl, rfl⟩ := hr
                      refine ao_norm (y := .st [.os 7, .int .i64 r92.2.1, .os 8, .int .i64 r92.2.2.2.1, .int .i64 r92.2.2.2.2.1, .int .i64 r92.2.2.2.2.2.1]) (H' := [(0, .var [.cell (.os 3), .cell (.int .i64 r7.1.2.1), .cell (.os 4), .cell (.int .i64 r7.1.2.2.2.1), .cell (.int .i64 r7.1.2.2.2.2.1), .cell (.int .i64 r7.1.2.2.2.2.2.1)]), (1, .var [.cell (.os 5), .cell (.int .i64 r31.1.2.1), .cell (.os 6), .cell (.int .i64 r31.1.2.2.2.1), .cell (.int .i64 r31.1.2.2.2.2.1), .cell (.int .i64 r31.1.2.2.2.2.2.1)]), (2, .var [.cell (.nilsl), .cell (.int .i64 0), .cell (.nilsl), .cell (.int .i64 0), .cell (.int .i64 0), .cell (.int .i64 0)]), (3, .row (.arr 6 (.int .i64)) r7.1.1), (4, .row (.int .i64) r7.1.2.2.1), (5, .row (.arr 6 (.int .i64)) ((p_laws_markTavern r31.1.1 r31.1.2.1 r31.1.2.2.1 r31.1.2.2.2.1 r31.1.2.2.2.2.1 r31.1.2.2.2.2.2.1 1).2.1 : (List (List Int)))), (6, .row (.int .i64) ((p_laws_markTavern r31.1.1 r31.1.2.1 r31.1.2.2.1 r31.1.2.2.2.1 r31.1.2.2.2.2.1 r31.1.2.2.2.2.2.1 1).2.2 : (List Int))), (7, .row (.arr 6 (.int .i64)) r92.1), (8, .row (.int .i64) r92.2.2.1)]) rfl rfl ?_
                      refine row_len_o 7 (r92.1.length : Int) rfl rfl (fun hr93 => ?_)
                      refine row_len_o 8 (r92.2.2.1.length : Int) rfl rfl (fun hr94 => ?_)
                      refine ap_ni ?_
                      exact ap_gr (rn [(3, 7), (4, 8), (5, 3), (6, 4), (7, 5), (8, 6)]) (nk rfl) k106 (by kernel_rfl)
                    refine ap_let (g := 9) (listed := #[true, true, false, false, false, false, false, false, false, false, false]) [(3, .ref 0 0), (6, .ref 1 0), (7, .bool r7.2), (9, .ref 2 0), (12, .int .i64 ((p_laws_markTavern r31.1.1 r31.1.2.1 r31.1.2.2.1 r31.1.2.2.2.1 r31.1.2.2.2.2.1 r31.1.2.2.2.2.2.1 1).1)), (81, .st [.os 3, .int .i64 r92.2.1, .os 4, .int .i64 r92.2.2.2.1, .int .i64 r92.2.2.2.2.1, .int .i64 r92.2.2.2.2.2.1])] [(0, .var [ci x1.1, ci x1.2.1, ci x1.2.2.1]), (1, .var [.cell (.os 5), ci r7.1.2.1, .cell (.os 6), ci r7.1.2.2.2.1, ci r7.1.2.2.2.2.1, ci r7.1.2.2.2.2.2.1]), (2, .var [.cell (.os 7), ci r31.1.2.1, .cell (.os 8), ci r31.1.2.2.2.1, ci r31.1.2.2.2.2.1, ci r31.1.2.2.2.2.2.1]), (3, .row (.arr 6 (.int .i64)) r92.1), (4, .row (.int .i64) r92.2.2.1), (5, .row (.arr 6 (.int .i64)) r7.1.1), (6, .row (.int .i64) r7.1.2.2.1), (7, .row (.arr 6 (.int .i64)) ((p_laws_markTavern r31.1.1 r31.1.2.1 r31.1.2.2.1 r31.1.2.2.2.1 r31.1.2.2.2.2.1 r31.1.2.2.2.2.2.1 1).2.1 : (List (List Int)))), (8, .row (.int .i64) ((p_laws_markTavern r31.1.1 r31.1.2.1 r31.1.2.2.1 r31.1.2.2.2.1 r31.1.2.2.2.2.1 r31.1.2.2.2.2.2.1 1).2.2 : (List Int)))] ?_ (fun k100 => ?_)
                    · refine ap_all [2, 8] (by kernel_rfl) ⟨?_, ?_, trivial⟩
                      · refine apo_ao rfl ?_
                        refine ao_read trivial (r_load_part (τ := (.pair (.int .i64) (.pair (.int .i64) (.pair (.int .i64) .unit)))) (y := ((x1.1, (x1.2.1, (x1.2.2.1, ()))) : (Int × (Int × (Int × Unit))))) [] [] rfl Try.isAgg27 Try.sizeOf27 rfl rfl rfl rfl) rfl ?_
                        refine ap_ni ?_
                        exact ap_gr (rn [(0, 1), (1, 2), (2, 3), (3, 4), (4, 5), (5, 6), (6, 7), (7, 8)]) (nk rfl) k101 (by kernel_rfl)
                      · refine apo_ao rfl ?_
                        refine ao_eff trivial (e_alloc 9 (y := .st [.nilsl, .int .i64 0, .nilsl, .int .i64 0, .int .i64 0, .int .i64 0]) Try.zeroValue29 (fun ρ h M => ra_zero_st (t := (.pair (.slice (.arr 6 (.int .i64))) (.pair (.int .i64) (.pair (.slice (.int .i64)) (.pair (.int .i64) (.pair (.int .i64) (.pair (.int .i64) .unit))))))) rfl rfl rfl) rfl rfl rfl rfl rfl) rfl ?_
                        refine ap_ni ?_
                        exact ap_gr (rn [(3, 9), (4, 3), (5, 4), (6, 5), (7, 6), (8, 7), (9, 8)]) (nk rfl) k107 (by kernel_rfl)
                    refine ap_let (g := 9) (listed := #[true, false, true, false, false, false, false, false, false, false, false]) [(6, .ref 0 0), (7, .bool r7.2), (9, .ref 1 0), (12, .int .i64 ((p_laws_markTavern r31.1.1 r31.1.2.1 r31.1.2.2.1 r31.1.2.2.2.1 r31.1.2.2.2.2.1 r31.1.2.2.2.2.2.1 1).1)), (80, .v (.pair (.slice (.arr 6 (.int .i64))) (.pair (.int .i64) (.pair (.slice (.int .i64)) (.pair (.int .i64) (.pair (.int .i64) (.pair (.int .i64) .unit)))))) ((x0.1, (x0.2.1, (x0.2.2.1, (x0.2.2.2.1, (x0.2.2.2.2.1, (x0.2.2.2.2.2.1, ())))))) : ((List (List Int)) × (Int × ((List Int) × (Int × (Int × (Int × Unit)))))))), (82, .v (.pair (.int .i64) (.pair (.int .i64) (.pair (.int .i64) .unit))) ((x1.1, (x1.2.1, (x1.2.2.1, ()))) : (Int × (Int × (Int × Unit)))))] [(0, .var [.cell (.os 2), ci r7.1.2.1, .cell (.os 3), ci r7.1.2.2.2.1, ci r7.1.2.2.2.2.1, ci r7.1.2.2.2.2.2.1]), (1, .var [.cell (.os 4), ci r31.1.2.1, .cell (.os 5), ci r31.1.2.2.2.1, ci r31.1.2.2.2.2.1, ci r31.1.2.2.2.2.2.1]), (2, .row (.arr 6 (.int .i64)) r7.1.1), (3, .row (.int .i64) r7.1.2.2.1), (4, .row (.arr 6 (.int .i64)) ((p_laws_markTavern r31.1.1 r31.1.2.1 r31.1.2.2.1 r31.1.2.2.2.1 r31.1.2.2.2.2.1 r31.1.2.2.2.2.2.1 1).2.1 : (List (List Int)))), (5, .row (.int .i64) ((p_laws_markTavern r31.1.1 r31.1.2.1 r31.1.2.2.1 r31.1.2.2.2.1 r31.1.2.2.2.2.1 r31.1.2.2.2.2.2.1 1).2.2 : (List Int)))] ?_ (fun k108 => ?_)
                    · refine ap_all [1, 8] (by kernel_rfl) ⟨?_, ?_, trivial⟩
                      · refine apo_ao rfl ?_
                        refine ao_call [] 6 trivial (c_laws_toTavern (is_mk r92h)) Try.func8 rfl rfl rfl rfl ⟨ad_ren rfl, trivial⟩ trivial rfl rfl rfl rfl rfl rfl rfl (fun r' H' hr => ?_)
                        obtain ⟨rfl, rfl⟩ := hr
                        refine ao_norm (y := .st [.os 6, .int .i64 r92.2.1, .os 7, .int .i64 r92.2.2.2.1, .int .i64 r92.2.2.2.2.1, .int .i64 r92.2.2.2.2.2.1]) (H' := [(0, .var [.cell (.os 2), .cell (.int .i64 r7.1.2.1), .cell (.os 3), .cell (.int .i64 r7.1.2.2.2.1), .cell (.int .i64 r7.1.2.2.2.2.1), .cell (.int .i64 r7.1.2.2.2.2.2.1)]), (1, .var [.cell (.os 4), .cell (.int .i64 r31.1.2.1), .cell (.os 5), .cell (.int .i64 r31.1.2.2.2.1), .cell (.int .i64 r31.1.2.2.2.2.1), .cell (.int .i64 r31.1.2.2.2.2.2.1)]), (2, .row (.arr 6 (.int .i64)) r7.1.1), (3, .row (.int .i64) r7.1.2.2.1), (4, .row (.arr 6 (.int .i64)) ((p_laws_markTavern r31.1.1 r31.1.2.1 r31.1.2.2.1 r31.1.2.2.2.1 r31.1.2.2.2.2.1 r31.1.2.2.2.2.2.1 1).2.1 : (List (List Int)))), (5, .row (.int .i64) ((p_laws_markTavern r31.1.1 r31.1.2.1 r31.1.2.2.1 r31.1.2.2.2.1 r31.1.2.2.2.2.1 r31.1.2.2.2.2.2.1 1).2.2 : (List Int))), (6, .row (.arr 6 (.int .i64)) r92.1), (7, .row (.int .i64) r92.2.2.1)]) rfl rfl ?_
                        refine row_len_o 6 (r92.1.length : Int) rfl rfl (fun hr93 => ?_)
                        refine row_len_o 7 (r92.2.2.1.length : Int) rfl rfl (fun hr94 => ?_)
                        refine ap_ni ?_
                        exact ap_gr (rn [(2, 6), (3, 7), (4, 2), (5, 3), (6, 4), (7, 5)]) (nk rfl) k101 (by kernel_rfl)
                      · refine apo_ao rfl ?_
                        refine ao_eff trivial (e_alloc 6 (y := .st [.nilsl, .int .i64 0, .nilsl, .int .i64 0, .int .i64 0, .int .i64 0]) Try.zeroValue29 (fun ρ h M => ra_zero_st (t := (.pair (.slice (.arr 6 (.int .i64))) (.pair (.int .i64) (.pair (.slice (.int .i64)) (.pair (.int .i64) (.pair (.int .i64) (.pair (.int .i64) .unit))))))) rfl rfl rfl) rfl rfl rfl rfl rfl) rfl ?_
                        refine ap_ni ?_
                        exact ap_gr (rn [(2, 6), (3, 2), (4, 3), (5, 4), (6, 5)]) (nk rfl) k109 (by kernel_rfl)
                    refine ap_let (g := 9) (listed := #[true, false, false, false, false, false, false, false, true, false, false]) [(3, .ref 0 0), (6, .ref 1 0), (7, .bool r7.2), (9, .ref 2 0), (12, .int .i64 ((p_laws_markTavern r31.1.1 r31.1.2.1 r31.1.2.2.1 r31.1.2.2.2.1 r31.1.2.2.2.2.1 r31.1.2.2.2.2.2.1 1).1)), (14, .ref 3 0), (80, .v (.pair (.slice (.arr 6 (.int .i64))) (.pair (.int .i64) (.pair (.slice (.int .i64)) (.pair (.int .i64) (.pair (.int .i64) (.pair (.int .i64) .unit)))))) ((x0.1, (x0.2.1, (x0.2.2.1, (x0.2.2.2.1, (x0.2.2.2.2.1, (x0.2.2.2.2.2.1, ())))))) : ((List (List Int)) × (Int × ((List Int) × (Int × (Int × (Int × Unit))))))))] [(0, .var [ci x1.1, ci x1.2.1, ci x1.2.2.1]), (1, .var [.cell (.os 4), ci r7.1.2.1, .cell (.os 5), ci r7.1.2.2.2.1, ci r7.1.2.2.2.2.1, ci r7.1.2.2.2.2.2.1]), (2, .var [.cell (.os 6), ci r31.1.2.1, .cell (.os 7), ci r31.1.2.2.2.1, ci r31.1.2.2.2.2.1, ci r31.1.2.2.2.2.2.1]), (3, .var [.cell (.nilsl), ci 0, .cell (.nilsl), ci 0, ci 0, ci 0]), (4, .row (.arr 6 (.int .i64)) r7.1.1), (5, .row (.int .i64) r7.1.2.2.1), (6, .row (.arr 6 (.int .i64)) ((p_laws_markTavern r31.1.1 r31.1.2.1 r31.1.2.2.1 r31.1.2.2.2.1 r31.1.2.2.2.2.1 r31.1.2.2.2.2.2.1 1).2.1 : (List (List Int)))), (7, .row (.int .i64) ((p_laws_markTavern r31.1.1 r31.1.2.1 r31.1.2.2.1 r31.1.2.2.2.1 r31.1.2.2.2.2.1 r31.1.2.2.2.2.2.1 1).2.2 : (List Int)))] ?_ (fun k110 => ?_)
                    · refine ap_all [1, 2] (by kernel_rfl) ⟨?_, ?_, trivial⟩
                      · refine apo_ao rfl ?_
                        refine ao_call [] 8 trivial (c_laws_toTavern (is_mk r92h)) Try.func8 rfl rfl rfl rfl ⟨ad_ren rfl, trivial⟩ trivial rfl rfl rfl rfl rfl rfl rfl (fun r' H' hr => ?_)
                        obtain ⟨rfl, rfl⟩ := hr
                        refine ao_norm (y := .st [.os 8, .int .i64 r92.2.1, .os 9, .int .i64 r92.2.2.2.1, .int .i64 r92.2.2.2.2.1, .int .i64 r92.2.2.2.2.2.1]) (H' := [(0, .var [.cell (.int .i64 x1.1), .cell (.int .i64 x1.2.1), .cell (.int .i64 x1.2.2.1)]), (1, .var [.cell (.os 4), .cell (.int .i64 r7.1.2.1), .cell (.os 5), .cell (.int .i64 r7.1.2.2.2.1), .cell (.int .i64 r7.1.2.2.2.2.1), .cell (.int .i64 r7.1.2.2.2.2.2.1)]), (2, .var [.cell (.os 6), .cell (.int .i64 r31.1.2.1), .cell (.os 7), .cell (.int .i64 r31.1.2.2.2.1), .cell (.int .i64 r31.1.2.2.2.2.1), .cell (.int .i64 r31.1.2.2.2.2.2.1)]), (3, .var [.cell (.nilsl), .cell (.int .i64 0), .cell (.nilsl), .cell (.int .i64 0), .cell (.int .i64 0), .cell (.int .i64 0)]), (4, .row (.arr 6 (.int .i64)) r7.1.1), (5, .row (.int .i64) r7.1.2.2.1), (6, .row (.arr 6 (.int .i64)) ((p_laws_markTavern r31.1.1 r31.1.2.1 r31.1.2.2.1 r31.1.2.2.2.1 r31.1.2.2.2.2.1 r31.1.2.2.2.2.2.1 1).2.1 : (List (List Int)))), (7, .row (.int .i64) ((p_laws_markTavern r31.1.1 r31.1.2.1 r31.1.2.2.1 r31.1.2.2.2.1 r31.1.2.2.2.2.1 r31.1.2.2.2.2.2.1 1).2.2 : (List Int))), (8, .row (.arr 6 (.int .i64)) r92.1), (9, .row (.int .i64) r92.2.2.1)]) rfl rfl ?_
                        refine row_len_o 8 (r92.1.length : Int) rfl rfl (fun hr93 => ?_)
                        refine row_len_o 9 (r92.2.2.1.length : Int) rfl rfl (fun hr94 => ?_)
                        refine ap_ni ?_
                        exact ap_gr (rn [(4, 8), (5, 9), (6, 4), (7, 5), (8, 6), (9, 7)]) (nk rfl) k107 (by kernel_rfl)
                      · refine apo_ao rfl ?_
                        refine ao_read trivial (r_load_part (τ := (.pair (.int .i64) (.pair (.int .i64) (.pair (.int .i64) .unit)))) (y := ((x1.1, (x1.2.1, (x1.2.2.1, ()))) : (Int × (Int × (Int × Unit))))) [] [] rfl Try.isAgg27 Try.sizeOf27 rfl rfl rfl rfl) rfl ?_
                        refine ap_ni ?_
                        exact ap_gr (rn [(0, 1), (1, 2), (2, 3), (3, 4), (4, 5), (5, 6), (6, 7)]) (nk rfl) k109 (by kernel_rfl)
                    refine ap_let (g := 9) (listed := #[false, false, true, false, false, false, false, false, true, false, false]) [(2, .ref 0 0), (6, .ref 1 0), (7, .bool r7.2), (9, .ref 2 0), (12, .int .i64 ((p_laws_markTavern r31.1.1 r31.1.2.1 r31.1.2.2.1 r31.1.2.2.2.1 r31.1.2.2.2.2.1 r31.1.2.2.2.2.2.1 1).1)), (14, .ref 3 0), (82, .v (.pair (.int .i64) (.pair (.int .i64) (.pair (.int .i64) .unit))) ((x1.1, (x1.2.1, (x1.2.2.1, ()))) : (Int × (Int × (Int × Unit)))))] [(0, .var [.cell (.v (.slice (.arr 6 (.int .i64))) x0.1), ci x0.2.1, .cell (.v (.slice (.int .i64)) x0.2.2.1), ci x0.2.2.2.1, ci x0.2.2.2.2.1, ci x0.2.2.2.2.2.1]), (1, .var [.cell (.os 4), ci r7.1.2.1, .cell (.os 5), ci r7.1.2.2.2.1, ci r7.1.2.2.2.2.1, ci r7.1.2.2.2.2.2.1]), (2, .var [.cell (.os 6), ci r31.1.2.1, .cell (.os 7), ci r31.1.2.2.2.1, ci r31.1.2.2.2.2.1, ci r31.1.2.2.2.2.2.1]), (3, .var [.cell (.nilsl), ci 0, .cell (.nilsl), ci 0, ci 0, ci 0]), (4, .row (.arr 6 (.int .i64)) r7.1.1), (5, .row (.int .i64) r7.1.2.2.1), (6, .row (.arr 6 (.int .i64)) ((p_laws_markTavern r31.1.1 r31.1.2.1 r31.1.2.2.1 r31.1.2.2.2.1 r31.1.2.2.2.2.1 r31.1.2.2.2.2.2.1 1).2.1 : (List (List Int)))), (7, .row (.int .i64) ((p_laws_markTavern r31.1.1 r31.1.2.1 r31.1.2.2.1 r31.1.2.2.2.1 r31.1.2.2.2.2.1 r31.1.2.2.2.2.2.1 1).2.2 : (List Int)))] ?_ (fun k112 => ?_)
                    · refine ap_all [0] (by kernel_rfl) ⟨?_, trivial⟩
                      refine apo_ao rfl ?_
                      refine ao_read trivial (r_load_part (τ := (.pair (.slice (.arr 6 (.int .i64))) (.pair (.int .i64) (.pair (.slice (.int .i64)) (.pair (.int .i64) (.pair (.int .i64) (.pair (.int .i64) .unit))))))) (y := ((x0.1, (x0.2.1, (x0.2.2.1, (x0.2.2.2.1, (x0.2.2.2.2.1, (x0.2.2.2.2.2.1, ())))))) : ((List (List Int)) × (Int × ((List Int) × (Int × (Int × (Int × Unit)))))))) [] [] rfl Try.isAgg25 Try.sizeOf25 rfl rfl rfl rfl) rfl ?_
                      refine ap_ni ?_
                      exact ap_gr (rn [(0, 1), (1, 2), (2, 3), (3, 4), (4, 5), (5, 6), (6, 7)]) (nk rfl) k109 (by kernel_rfl)
                    refine ap_let (g := 10) (listed := #[true, false, false, false, false, false, false, false, false, false, false]) [(3, .ref 0 0), (6, .ref 1 0), (7, .bool r7.2), (9, .ref 2 0), (12, .int .i64 ((p_laws_markTavern r31.1.1 r31.1.2.1 r31.1.2.2.1 r31.1.2.2.2.1 r31.1.2.2.2.2.1 r31.1.2.2.2.2.2.1 1).1)), (80, .v (.pair (.slice (.arr 6 (.int .i64))) (.pair (.int .i64) (.pair (.slice (.int .i64)) (.pair (.int .i64) (.pair (.int .i64) (.pair (.int .i64) .unit)))))) ((x0.1, (x0.2.1, (x0.2.2.1, (x0.2.2.2.1, (x0.2.2.2.2.1, (x0.2.2.2.2.2.1, ())))))) : ((List (List Int)) × (Int × ((List Int) × (Int × (Int × (Int × Unit))))))))] [(0, .var [ci x1.1, ci x1.2.1, ci x1.2.2.1]), (1, .var [.cell (.os 3), ci r7.1.2.1, .cell (.os 4), ci r7.1.2.2.2.1, ci r7.1.2.2.2.2.1, ci r7.1.2.2.2.2.2.1]), (2, .var [.cell (.os 5), ci r31.1.2.1, .cell (.os 6), ci r31.1.2.2.2.1, ci r31.1.2.2.2.2.1, ci r31.1.2.2.2.2.2.1]), (3, .row (.arr 6 (.int .i64)) r7.1.1), (4, .row (.int .i64) r7.1.2.2.1), (5, .row (.arr 6 (.int .i64)) ((p_laws_markTavern r31.1.1 r31.1.2.1 r31.1.2.2.1 r31.1.2.2.2.1 r31.1.2.2.2.2.1 r31.1.2.2.2.2.2.1 1).2.1 : (List (List Int)))), (6, .row (.int .i64) ((p_laws_markTavern r31.1.1 r31.1.2.1 r31.1.2.2.1 r31.1.2.2.2.1 r31.1.2.2.2.2.1 r31.1.2.2.2.2.2.1 1).2.2 : (List Int)))] ?_ (fun k99 => ?_)
                    · refine ap_all [1, 2, 8] (by kernel_rfl) ⟨?_, ?_, ?_, trivial⟩
                      · refine apo_ao rfl ?_
                        refine ao_call [] 7 trivial (c_laws_toTavern (is_mk r92h)) Try.func8 rfl rfl rfl rfl ⟨ad_ren rfl, trivial⟩ trivial rfl rfl rfl rfl rfl rfl rfl (fun r' H' hr => ?_)
                        obtain ⟨rfl, rfl⟩ := hr
                        refine ao_norm (y := .st [.os 7, .int .i64 r92.2.1, .os 8, .int .i64 r92.2.2.2.1, .int .i64 r92.2.2.2.2.1, .int .i64 r92.2.2.2.2.2.1]) (H' := [(0, .var [.cell (.int .i64 x1.1), .cell (.int .i64 x1.2.1), .cell (.int .i64 x1.2.2.1)]), (1, .var [.cell (.os 3), .cell (.int .i64 r7.1.2.1), .cell (.os 4), .cell (.int .i64 r7.1.2.2.2.1), .cell (.int .i64 r7.1.2.2.2.2.1), .cell (.int .i64 r7.1.2.2.2.2.2.1)]), (2, .var [.cell (.os 5), .cell (.int .i64 r31.1.2.1), .cell (.os 6), .cell (.int .i64 r31.1.2.2.2.1), .cell (.int .i64 r31.1.2.2.2.2.1), .cell (.int .i64 r31.1.2.2.2.2.2.1)]), (3, .row (.arr 6 (.int .i64)) r7.1.1), (4, .row (.int .i64) r7.1.2.2.1), (5, .row (.arr 6 (.int .i64)) ((p_laws_markTavern r31.1.1 r31.1.2.1 r31.1.2.2.1 r31.1.2.2.2.1 r31.1.2.2.2.2.1 r31.1.2.2.2.2.2.1 1).2.1 : (List (List Int)))), (6, .row (.int .i64) ((p_laws_markTavern r31.1.1 r31.1.2.1 r31.1.2.2.1 r31.1.2.2.2.1 r31.1.2.2.2.2.1 r31.1.2.2.2.2.2.1 1).2.2 : (List Int))), (7, .row (.arr 6 (.int .i64)) r92.1), (8, .row (.int .i64) r92.2.2.1)]) rfl rfl ?_
                        refine row_len_o 7 (r92.1.length : Int) rfl rfl (fun hr93 => ?_)
                        refine row_len_o 8 (r92.2.2.1.length : Int) rfl rfl (fun hr94 => ?_)
                        refine ap_ni ?_
                        exact ap_gr (rn [(3, 7), (4, 8), (5, 3), (6, 4), (7, 5), (8, 6)]) (nk rfl) k100 (by kernel_rfl)
                      · refine apo_ao rfl ?_
                        refine ao_read trivial (r_load_part (τ := (.pair (.int .i64) (.pair (.int .i64) (.pair (.int .i64) .unit)))) (y := ((x1.1, (x1.2.1, (x1.2.2.1, ()))) : (Int × (Int × (Int × Unit))))) [] [] rfl Try.isAgg27 Try.sizeOf27 rfl rfl rfl rfl) rfl ?_
                        refine ap_ni ?_
                        exact ap_gr (rn [(0, 1), (1, 2), (2, 3), (3, 4), (4, 5), (5, 6)]) (nk rfl) k108 (by kernel_rfl)
                      · refine apo_ao rfl ?_
                        refine ao_eff trivial (e_alloc 7 (y := .st [.nilsl, .int .i64 0, .nilsl, .int .i64 0, .int .i64 0, .int .i64 0]) Try.zeroValue29 (fun ρ h M => ra_zero_st (t := (.pair (.slice (.arr 6 (.int .i64))) (.pair (.int .i64) (.pair (.slice (.int .i64)) (.pair (.int .i64) (.pair (.int .i64) (.pair (.int .i64) .unit))))))) rfl rfl rfl) rfl rfl rfl rfl rfl) rfl ?_
                        refine ap_ni ?_
                        exact ap_gr (rn [(3, 7), (4, 3), (5, 4), (6, 5), (7, 6)]) (nk rfl) k110 (by kernel_rfl)
                    refine ap_let (g := 10) (listed := #[false, false, true, false, false, false, false, false, false, false, false]) [(2, .ref 0 0), (6, .ref 1 0), (7, .bool r7.2), (9, .ref 2 0), (12, .int .i64 ((p_laws_markTavern r31.1.1 r31.1.2.1 r31.1.2.2.1 r31.1.2.2.2.1 r31.1.2.2.2.2.1 r31.1.2.2.2.2.2.1 1).1)), (82, .v (.pair (.int .i64) (.pair (.int .i64) (.pair (.int .i64) .unit))) ((x1.1, (x1.2.1, (x1.2.2.1, ()))) : (Int × (Int × (Int × Unit)))))] [(0, .var [.cell (.v (.slice (.arr 6 (.int .i64))) x0.1), ci x0.2.1, .cell (.v (.slice (.int .i64)) x0.2.2.1), ci x0.2.2.2.1, ci x0.2.2.2.2.1, ci x0.2.2.2.2.2.1]), (1, .var [.cell (.os 3), ci r7.1.2.1, .cell (.os 4), ci r7.1.2.2.2.1, ci r7.1.2.2.2.2.1, ci r7.1.2.2.2.2.2.1]), (2, .var [.cell (.os 5), ci r31.1.2.1, .cell (.os 6), ci r31.1.2.2.2.1, ci r31.1.2.2.2.2.1, ci r31.1.2.2.2.2.2.1]), (3, .row (.arr 6 (.int .i64)) r7.1.1), (4, .row (.int .i64) r7.1.2.2.1), (5, .row (.arr 6 (.int .i64)) ((p_laws_markTavern r31.1.1 r31.1.2.1 r31.1.2.2.1 r31.1.2.2.2.1 r31.1.2.2.2.2.1 r31.1.2.2.2.2.2.1 1).2.1 : (List (List Int)))), (6, .row (.int .i64) ((p_laws_markTavern r31.1.1 r31.1.2.1 r31.1.2.2.1 r31.1.2.2.2.1 r31.1.2.2.2.2.1 r31.1.2.2.2.2.2.1 1).2.2 : (List Int)))] ?_ (fun k111 => ?_)
                    · refine ap_all [0, 8] (by kernel_rfl) ⟨?_, ?_, trivial⟩
                      · refine apo_ao rfl ?_
                        refine ao_read trivial (r_load_part (τ := (.pair (.slice (.arr 6 (.int .i64))) (.pair (.int .i64) (.pair (.slice (.int .i64)) (.pair (.int .i64) (.pair (.int .i64) (.pair (.int .i64) .unit))))))) (y := ((x0.1, (x0.2.1, (x0.2.2.1, (x0.2.2.2.1, (x0.2.2.2.2.1, (x0.2.2.2.2.2.1, ())))))) : ((List (List Int)) × (Int × ((List Int) × (Int × (Int × (Int × Unit)))))))) [] [] rfl Try.isAgg25 Try.sizeOf25 rfl rfl rfl rfl) rfl ?_
                        refine ap_ni ?_
                        exact ap_gr (rn [(0, 1), (1, 2), (2, 3), (3, 4), (4, 5), (5, 6)]) (nk rfl) k108 (by kernel_rfl)
                      · refine apo_ao rfl ?_
                        refine ao_eff trivial (e_alloc 7 (y := .st [.nilsl, .int .i64 0, .nilsl, .int .i64 0, .int .i64 0, .int .i64 0]) Try.zeroValue29 (fun ρ h M => ra_zero_st (t := (.pair (.slice (.arr 6 (.int .i64))) (.pair (.int .i64) (.pair (.slice (.int .i64)) (.pair (.int .i64) (.pair (.int .i64) (.pair (.int .i64) .unit))))))) rfl rfl rfl) rfl rfl rfl rfl rfl) rfl ?_
                        refine ap_ni ?_
                        exact ap_gr (rn [(3, 7), (4, 3), (5, 4), (6, 5), (7, 6)]) (nk rfl) k112 (by kernel_rfl)
                    refine ap_let (g := 10) (listed := #[false, false, false, false, false, false, false, false, true, false, false]) [(2, .ref 0 0), (3, .ref 1 0), (6, .ref 2 0), (7, .bool r7.2), (9, .ref 3 0), (12, .int .i64 ((p_laws_markTavern r31.1.1 r31.1.2.1 r31.1.2.2.1 r31.1.2.2.2.1 r31.1.2.2.2.2.1 r31.1.2.2.2.2.2.1 1).1)), (14, .ref 4 0)] [(0, .var [.cell (.v (.slice (.arr 6 (.int .i64))) x0.1), ci x0.2.1, .cell (.v (.slice (.int .i64)) x0.2.2.1), ci x0.2.2.2.1, ci x0.2.2.2.2.1, ci x0.2.2.2.2.2.1]), (1, .var [ci x1.1, ci x1.2.1, ci x1.2.2.1]), (2, .var [.cell (.os 5), ci r7.1.2.1, .cell (.os 6), ci r7.1.2.2.2.1, ci r7.1.2.2.2.2.1, ci r7.1.2.2.2.2.2.1]), (3, .var [.cell (.os 7), ci r31.1.2.1, .cell (.os 8), ci r31.1.2.2.2.1, ci r31.1.2.2.2.2.1, ci r31.1.2.2.2.2.2.1]), (4, .var [.cell (.nilsl), ci 0, .cell (.nilsl), ci 0, ci 0, ci 0]), (5, .row (.arr 6 (.int .i64)) r7.1.1), (6, .row (.int .i64) r7.1.2.2.1), (7, .row (.arr 6 (.int .i64)) ((p_laws_markTavern r31.1.1 r31.1.2.1 r31.1.2.2.1 r31.1.2.2.2.1 r31.1.2.2.2.2.1 r31.1.2.2.2.2.2.1 1).2.1 : (List (List Int)))), (8, .row (.int .i64) ((p_laws_markTavern r31.1.1 r31.1.2.1 r31.1.2.2.1 r31.1.2.2.2.1 r31.1.2.2.2.2.1 r31.1.2.2.2.2.2.1 1).2.2 : (List Int)))] ?_ (fun k113 => ?_)
                    · refine ap_all [0, 2] (by kernel_rfl) ⟨?_, ?_, trivial⟩
                      · refine apo_ao rfl ?_
                        refine ao_read trivial (r_load_part (τ := (.pair (.slice (.arr 6 (.int .i64))) (.pair (.int .i64) (.pair (.slice (.int .i64)) (.pair (.int .i64) (.pair (.int .i64) (.pair (.int .i64) .unit))))))) (y := ((x0.1, (x0.2.1, (x0.2.2.1, (x0.2.2.2.1, (x0.2.2.2.2.1, (x0.2.2.2.2.2.1, ())))))) : ((List (List Int)) × (Int × ((List Int) × (Int × (Int × (Int × Unit)))))))) [] [] rfl Try.isAgg25 Try.sizeOf25 rfl rfl rfl rfl) rfl ?_
                        refine ap_ni ?_
                        exact ap_gr (rn [(0, 1), (1, 2), (2, 3), (3, 4), (4, 5), (5, 6), (6, 7), (7, 8)]) (nk rfl) k110 (by kernel_rfl)
                      · refine apo_ao rfl ?_
                        refine ao_read trivial (r_load_part (τ := (.pair (.int .i64) (.pair (.int .i64) (.pair (.int .i64) .unit)))) (y := ((x1.1, (x1.2.1, (x1.2.2.1, ()))) : (Int × (Int × (Int × Unit))))) [] [] rfl Try.isAgg27 Try.sizeOf27 rfl rfl rfl rfl) rfl ?_
                        refine ap_ni ?_
                        exact ap_gr (rn [(1, 2), (2, 3), (3, 4), (4, 5), (5, 6), (6, 7), (7, 8)]) (nk rfl) k112 (by kernel_rfl)
                    refine ap_let (g := 11) (listed := #[false, false, false, false, false, false, false, false, false, false, false]) [(2, .ref 0 0), (3, .ref 1 0), (6, .ref 2 0), (7, .bool r7.2), (9, .ref 3 0), (12, .int .i64 ((p_laws_markTavern r31.1.1 r31.1.2.1 r31.1.2.2.1 r31.1.2.2.2.1 r31.1.2.2.2.2.1 r31.1.2.2.2.2.2.1 1).1))] [(0, .var [.cell (.v (.slice (.arr 6 (.int .i64))) x0.1), ci x0.2.1, .cell (.v (.slice (.int .i64)) x0.2.2.1), ci x0.2.2.2.1, ci x0.2.2.2.2.1, ci x0.2.2.2.2.2.1]), (1, .var [ci x1.1, ci x1.2.1, ci x1.2.2.1]), (2, .var [.cell (.os 4), ci r7.1.2.1, .cell (.os 5), ci r7.1.2.2.2.1, ci r7.1.2.2.2.2.1, ci r7.1.2.2.2.2.2.1]), (3, .var [.cell (.os 6), ci r31.1.2.1, .cell (.os 7), ci r31.1.2.2.2.1, ci r31.1.2.2.2.2.1, ci r31.1.2.2.2.2.2.1]), (4, .row (.arr 6 (.int .i64)) r7.1.1), (5, .row (.int .i64) r7.1.2.2.1), (6, .row (.arr 6 (.int .i64)) ((p_laws_markTavern r31.1.1 r31.1.2.1 r31.1.2.2.1 r31.1.2.2.2.1 r31.1.2.2.2.2.1 r31.1.2.2.2.2.2.1 1).2.1 : (List (List Int)))), (7, .row (.int .i64) ((p_laws_markTavern r31.1.1 r31.1.2.1 r31.1.2.2.1 r31.1.2.2.2.1 r31.1.2.2.2.2.1 r31.1.2.2.2.2.2.1 1).2.2 : (List Int)))] ?_ (fun k98 => ?_)
                    · refine ap_all [0, 2, 8] (by kernel_rfl) ⟨?_, ?_, ?_, trivial⟩
                      · refine apo_ao rfl ?_
                        refine ao_read trivial (r_load_part (τ := (.pair (.slice (.arr 6 (.int .i64))) (.pair (.int .i64) (.pair (.slice (.int .i64)) (.pair (.int .i64) (.pair (.int .i64) (.pair (.int .i64) .unit))))))) (y := ((x0.1, (x0.2.1, (x0.2.2.1, (x0.2.2.2.1, (x0.2.2.2.2.1, (x0.2.2.2.2.2.1, ())))))) : ((List (List Int)) × (Int × ((List Int) × (Int × (Int × (Int × Unit)))))))) [] [] rfl Try.isAgg25 Try.sizeOf25 rfl rfl rfl rfl) rfl ?_
                        refine ap_ni ?_
                        exact ap_gr (rn [(0, 1), (1, 2), (2, 3), (3, 4), (4, 5), (5, 6), (6, 7)]) (nk rfl) k99 (by kernel_rfl)
                      · refine apo_ao rfl ?_
                        refine ao_read trivial (r_load_part (τ := (.pair (.int .i64) (.pair (.int .i64) (.pair (.int .i64) .unit)))) (y := ((x1.1, (x1.2.1, (x1.2.2.1, ()))) : (Int × (Int × (Int × Unit))))) [] [] rfl Try.isAgg27 Try.sizeOf27 rfl rfl rfl rfl) rfl ?_
                        refine ap_ni ?_
                        exact ap_gr (rn [(1, 2), (2, 3), (3, 4), (4, 5), (5, 6), (6, 7)]) (nk rfl) k111 (by kernel_rfl)
                      · refine apo_ao rfl ?_
                        refine ao_eff trivial (e_alloc 8 (y := .st [.nilsl, .int .i64 0, .nilsl, .int .i64 0, .int .i64 0, .int .i64 0]) Try.zeroValue29 (fun ρ h M => ra_zero_st (t := (.pair (.slice (.arr 6 (.int .i64))) (.pair (.int .i64) (.pair (.slice (.int .i64)) (.pair (.int .i64) (.pair (.int .i64) (.pair (.int .i64) .unit))))))) rfl rfl rfl) rfl rfl rfl rfl rfl) rfl ?_
                        refine ap_ni ?_
                        exact ap_gr (rn [(4, 8), (5, 4), (6, 5), (7, 6), (8, 7)]) (nk rfl) k113 (by kernel_rfl)
                    exact ap_gr (rn [(3, 4), (4, 5), (5, 6), (6, 9), (7, 10)]) (nk rfl) k98 (by kernel_rfl)
          · refine an_read 0 (by kernel_rfl) (fun _ _ _ h => h) rfl (by kernel_rfl) trivial (r_load_st [] [.cell (.os 7), .cell (.int .i64 r28.2.1), .cell (.os 8), .cell (.int .i64 r28.2.2.2.1), .cell (.int .i64 r28.2.2.2.2.1), .cell (.int .i64 r28.2.2.2.2.2.1)] [] Try.isAgg29 Try.sizeOf29 rfl rfl rfl rfl rfl rfl rfl) rfl ?_
            refine an_read 1 (by kernel_rfl) (fun _ _ _ h => h) rfl (by kernel_rfl) trivial (r_load_part (τ := (.pair (.slice (.arr 6 (.int .i64))) (.pair (.int .i64) (.pair (.slice (.int .i64)) (.pair (.int .i64) (.pair (.int .i64) (.pair (.int .i64) .unit))))))) (y := ((x0.1, (x0.2.1, (x0.2.2.1, (x0.2.2.2.1, (x0.2.2.2.2.1, (x0.2.2.2.2.2.1, ())))))) : ((List (List Int)) × (Int × ((List Int) × (Int × (Int × (Int × Unit)))))))) [] [] rfl Try.isAgg25 Try.sizeOf25 rfl rfl rfl rfl) rfl ?_
            refine an_explore 11 rfl ?_
            refine ax_all [2] (by kernel_rfl) ⟨?_, trivial⟩
            refine axo_call 2 11 rfl trivial (c_laws_toTavern (is_mk r56h)) Try.func8 rfl rfl rfl rfl ⟨ad_ren rfl, trivial⟩ rfl rfl rfl rfl (fun r' H' hr => ?_)
            obtain ⟨rfl, rfl⟩ := hr
            refine ax_all [3] (by kernel_rfl) ⟨?_, trivial⟩
            refine axo_scall 3 rfl trivial (scall (c_laws_eqTavern (is_mk (rfl : p_laws_eqTavern (r28.1, (r28.2.1, (r28.2.2.1, (r28.2.2.2.1, (r28.2.2.2.2.1, (r28.2.2.2.2.2.1, ())))))) (r56.1, (r56.2.1, (r56.2.2.1, (r56.2.2.2.1, (r56.2.2.2.2.1, (r56.2.2.2.2.2.1, ())))))) = _))) rfl Try.func11 rfl rfl rfl rfl (fun σ => ⟨ad_st rfl rfl ⟨ad_os0 rfl, ad_ren rfl, ad_os0 rfl, ad_ren rfl, ad_ren rfl, ad_ren rfl, trivial⟩, ad_st rfl rfl ⟨ad_os0 rfl, ad_ren rfl, ad_os0 rfl, ad_ren rfl, ad_ren rfl, ad_ren rfl, trivial⟩, trivial⟩)) rfl ?_
            refine ax_all [4] (by kernel_rfl) ⟨?_, trivial⟩
            refine axo_read 4 rfl trivial (r_not rfl) rfl ?_
            exact ax_done rfl (AQ.sub (sub_r1 idn (nk rfl) (by kernel_rfl)) key)
      refine ap_let (g := 2) (listed := #[true, true, true, true, true, true, true, true, false, false]) [(2, .ref 0 0), (3, .ref 1 0), (6, .ref 2 0), (7, .bool r7.2), (8, .ref 3 0), (9, .ref 4 0), (36, .st [.os 5, .int .i64 r31.1.2.1, .os 6, .int .i64 r31.1.2.2.2.1, .int .i64 r31.1.2.2.2.2.1, .int .i64 r31.1.2.2.2.2.2.1]), (37, .bool r31.2)] [(0, .var [.cell (.v (.slice (.arr 6 (.int .i64))) x0.1), ci x0.2.1, .cell (.v (.slice (.int .i64)) x0.2.2.1), ci x0.2.2.2.1, ci x0.2.2.2.2.1, ci x0.2.2.2.2.2.1]), (1, .var [ci x1.1, ci x1.2.1, ci x1.2.2.1]), (2, .var [.cell (.os 7), ci r7.1.2.1, .cell (.os 8), ci r7.1.2.2.2.1, ci r7.1.2.2.2.2.1, ci r7.1.2.2.2.2.2.1]), (3, .var [.cell (.os 9), ci r28.2.1, .cell (.os 10), ci r28.2.2.2.1, ci r28.2.2.2.2.1, ci r28.2.2.2.2.2.1]), (4, .var [.cell (.nilsl), ci 0, .cell (.nilsl), ci 0, ci 0, ci 0]), (5, .row (.arr 6 (.int .i64)) r31.1.1), (6, .row (.int .i64) r31.1.2.2.1), (7, .row (.arr 6 (.int .i64)) r7.1.1), (8, .row (.int .i64) r7.1.2.2.1), (9, .row (.arr 6 (.int .i64)) r28.1), (10, .row (.int .i64) r28.2.2.1)] ?_ (fun k39 => ?_)
      · refine ap_all [8] (by kernel_rfl) ⟨?_, trivial⟩
        refine apo_ao rfl ?_
        refine ao_effS trivial (e_store rfl rfl rfl rfl Try.sizeOf29 rfl) ?_
        refine ap_ni ?_
        refine ap_pure 9 (by kernel_rfl) (fun _ _ _ h => h) rfl (by kernel_rfl) trivial (rp_assign rfl) rfl ?_
        exact ap_end (by kernel_rfl) (AQ.sub (sub_r1 (rn [(5, 7), (6, 8), (7, 9), (8, 10), (9, 5), (10, 6)]) (nk rfl) (by kernel_rfl)) key)
      refine ap_let (g := 3) (listed := #[true, true, true, true, true, true, true, false, false, false]) [(2, .ref 0 0), (3, .ref 1 0), (6, .ref 2 0), (7, .bool r7.2), (8, .ref 3 0), (36, .st [.os 4, .int .i64 r31.1.2.1, .os 5, .int .i64 r31.1.2.2.2.1, .int .i64 r31.1.2.2.2.2.1, .int .i64 r31.1.2.2.2.2.2.1]), (37, .bool r31.2)] [(0, .var [.cell (.v (.slice (.arr 6 (.int .i64))) x0.1), ci x0.2.1, .cell (.v (.slice (.int .i64)) x0.2.2.1), ci x0.2.2.2.1, ci x0.2.2.2.2.1, ci x0.2.2.2.2.2.1]), (1, .var [ci x1.1, ci x1.2.1, ci x1.2.2.1]), (2, .var [.cell (.os 6), ci r7.1.2.1, .cell (.os 7), ci r7.1.2.2.2.1, ci r7.1.2.2.2.2.1, ci r7.1.2.2.2.2.2.1]), (3, .var [.cell (.os 8), ci r28.2.1, .cell (.os 9), ci r28.2.2.2.1, ci r28.2.2.2.2.1, ci r28.2.2.2.2.2.1]), (4, .row (.arr 6 (.int .i64)) r31.1.1), (5, .row (.int .i64) r31.1.2.2.1), (6, .row (.arr 6 (.int .i64)) r7.1.1), (7, .row (.int .i64) r7.1.2.2.1), (8, .row (.arr 6 (.int .i64)) r28.1), (9, .row (.int .i64) r28.2.2.1)] ?_ (fun k38 => ?_)
      · refine ap_all [7] (by kernel_rfl) ⟨?_, trivial⟩
        refine apo_ao rfl ?_
        refine ao_eff trivial (e_alloc 10 (y := .st [.nilsl, .int .i64 0, .nilsl, .int .i64 0, .int .i64 0, .int .i64 0]) Try.zeroValue29 (fun ρ h M => ra_zero_st (t := (.pair (.slice (.arr 6 (.int .i64))) (.pair (.int .i64) (.pair (.slice (.int .i64)) (.pair (.int .i64) (.pair (.int .i64) (.pair (.int .i64) .unit))))))) rfl rfl rfl) rfl rfl rfl rfl rfl) rfl ?_
        refine ap_ni ?_
        exact ap_gr (rn [(4, 10), (5, 4), (6, 5), (7, 6), (8, 7), (9, 8), (10, 9)]) (nk rfl) k39 (by kernel_rfl)
      refine ap_let (g := 6) (listed := #[true, true, true, false, false, false, false, true, false, false]) [(2, .ref 0 0), (3, .ref 1 0), (6, .ref 2 0), (7, .bool r7.2), (8, .ref 3 0), (9, .ref 4 0), (32, .st [.os 5, .int .i64 r28.2.1, .os 6, .int .i64 r28.2.2.2.1, .int .i64 r28.2.2.2.2.1, .int .i64 r28.2.2.2.2.2.1]), (34, .v (.pair (.int .i64) (.pair (.int .i64) (.pair (.int .i64) .unit))) ((p_laws_toTask (x1.1, (x1.2.1, (x1.2.2.1, ())))) : (Int × (Int × (Int × Unit)))))] [(0, .var [.cell (.v (.slice (.arr 6 (.int .i64))) x0.1), ci x0.2.1, .cell (.v (.slice (.int .i64)) x0.2.2.1), ci x0.2.2.2.1, ci x0.2.2.2.2.1, ci x0.2.2.2.2.2.1]), (1, .var [ci x1.1, ci x1.2.1, ci x1.2.2.1]), (2, .var [.cell (.os 7), ci r7.1.2.1, .cell (.os 8), ci r7.1.2.2.2.1, ci r7.1.2.2.2.2.1, ci r7.1.2.2.2.2.2.1]), (3, .var [.cell (.os 5), ci r28.2.1, .cell (.os 6), ci r28.2.2.2.1, ci r28.2.2.2.2.1, ci r28.2.2.2.2.2.1]), (4, .var [.cell (.nilsl), ci 0, .cell (.nilsl), ci 0, ci 0, ci 0]), (5, .row (.arr 6 (.int .i64)) r28.1), (6, .row (.int .i64) r28.2.2.1), (7, .row (.arr 6 (.int .i64)) r7.1.1), (8, .row (.int .i64) r7.1.2.2.1)] ?_ (fun k40 => ?_)
      · refine ap_all [3] (by kernel_rfl) ⟨?_, trivial⟩
        refine apo_ao rfl ?_
        refine ao_call [] 9 trivial (c_impl_DoTask (is_mk r31h)) Try.func10 rfl rfl rfl rfl ⟨ad_st rfl rfl ⟨ad_os0 rfl, ad_ren rfl, ad_os0 rfl, ad_ren rfl, ad_ren rfl, ad_ren rfl, trivial⟩, ad_ren rfl, trivial⟩ trivial rfl rfl rfl rfl rfl rfl rfl (fun r' H' hr => ?_)
        obtain ⟨rfl, rfl⟩ := hr
        refine ao_norm (y := .tup [.st [.os 9, .int .i64 r31.1.2.1, .os 10, .int .i64 r31.1.2.2.2.1, .int .i64 r31.1.2.2.2.2.1, .int .i64 r31.1.2.2.2.2.2.1], .bool r31.2]) (H' := [(0, .var [.cell (.v (.slice (.arr 6 (.int .i64))) x0.1), .cell (.int .i64 x0.2.1), .cell (.v (.slice (.int .i64)) x0.2.2.1), .cell (.int .i64 x0.2.2.2.1), .cell (.int .i64 x0.2.2.2.2.1), .cell (.int .i64 x0.2.2.2.2.2.1)]), (1, .var [.cell (.int .i64 x1.1), .cell (.int .i64 x1.2.1), .cell (.int .i64 x1.2.2.1)]), (2, .var [.cell (.os 7), .cell (.int .i64 r7.1.2.1), .cell (.os 8), .cell (.int .i64 r7.1.2.2.2.1), .cell (.int .i64 r7.1.2.2.2.2.1), .cell (.int .i64 r7.1.2.2.2.2.2.1)]), (3, .var [.cell (.os 5), .cell (.int .i64 r28.2.1), .cell (.os 6), .cell (.int .i64 r28.2.2.2.1), .cell (.int .i64 r28.2.2.2.2.1), .cell (.int .i64 r28.2.2.2.2.2.1)]), (4, .var [.cell (.nilsl), .cell (.int .i64 0), .cell (.nilsl), .cell (.int .i64 0), .cell (.int .i64 0), .cell (.int .i64 0)]), (5, .row (.arr 6 (.int .i64)) r28.1), (6, .row (.int .i64) r28.2.2.1), (7, .row (.arr 6 (.int .i64)) r7.1.1), (8, .row (.int .i64) r7.1.2.2.1), (9, .row (.arr 6 (.int .i64)) r31.1.1), (10, .row (.int .i64) r31.1.2.2.1)]) rfl rfl ?_
        refine row_len_o 9 (r31.1.1.length : Int) rfl rfl (fun hr32 => ?_)
        refine row_len_o 10 (r31.1.2.2.1.length : Int) rfl rfl (fun hr33 => ?_)
        refine ap_ni ?_
        refine ap_pure 4 (by kernel_rfl) (fun _ _ _ h => h) rfl (by kernel_rfl) trivial (rp_move rfl) rfl ?_
        refine ap_pure 5 (by kernel_rfl) (fun _ _ _ h => h) rfl (by kernel_rfl) trivial (rp_extract rfl rfl) rfl ?_
        refine ap_pure 6 (by kernel_rfl) (fun _ _ _ h => h) rfl (by kernel_rfl) trivial (rp_extract rfl rfl) rfl ?_
        exact ap_gr (rn [(5, 9), (6, 10), (9, 5), (10, 6)]) (nk rfl) k39 (by kernel_rfl)
      refine ap_let (g := 7) (listed := #[true, true, true, false, false, false, false, false, false, false]) [(2, .ref 0 0), (3, .ref 1 0), (6, .ref 2 0), (7, .bool r7.2), (8, .ref 3 0), (32, .st [.os 4, .int .i64 r28.2.1, .os 5, .int .i64 r28.2.2.2.1, .int .i64 r28.2.2.2.2.1, .int .i64 r28.2.2.2.2.2.1]), (34, .v (.pair (.int .i64) (.pair (.int .i64) (.pair (.int .i64) .unit))) ((p_laws_toTask (x1.1, (x1.2.1, (x1.2.2.1, ())))) : (Int × (Int × (Int × Unit)))))] [(0, .var [.cell (.v (.slice (.arr 6 (.int .i64))) x0.1), ci x0.2.1, .cell (.v (.slice (.int .i64)) x0.2.2.1), ci x0.2.2.2.1, ci x0.2.2.2.2.1, ci x0.2.2.2.2.2.1]), (1, .var [ci x1.1, ci x1.2.1, ci x1.2.2.1]), (2, .var [.cell (.os 6), ci r7.1.2.1, .cell (.os 7), ci r7.1.2.2.2.1, ci r7.1.2.2.2.2.1, ci r7.1.2.2.2.2.2.1]), (3, .var [.cell (.os 4), ci r28.2.1, .cell (.os 5), ci r28.2.2.2.1, ci r28.2.2.2.2.1, ci r28.2.2.2.2.2.1]), (4, .row (.arr 6 (.int .i64)) r28.1), (5, .row (.int .i64) r28.2.2.1), (6, .row (.arr 6 (.int .i64)) r7.1.1), (7, .row (.int .i64) r7.1.2.2.1)] ?_ (fun k37 => ?_)
      · refine ap_all [3, 7] (by kernel_rfl) ⟨?_, ?_, trivial⟩
        · refine apo_ao rfl ?_
          refine ao_call [] 8 trivial (c_impl_DoTask (is_mk r31h)) Try.func10 rfl rfl rfl rfl ⟨ad_st rfl rfl ⟨ad_os0 rfl, ad_ren rfl, ad_os0 rfl, ad_ren rfl, ad_ren rfl, ad_ren rfl, trivial⟩, ad_ren rfl, trivial⟩ trivial rfl rfl rfl rfl rfl rfl rfl (fun r' H' hr => ?_)
          obtain ⟨rfl, rfl⟩ := hr
          refine ao_norm (y := .tup [.st [.os 8, .int .i64 r31.1.2.1, .os 9, .int .i64 r31.1.2.2.2.1, .int .i64 r31.1.2.2.2.2.1, .int .i64 r31.1.2.2.2.2.2.1], .bool r31.2]) (H' := [(0, .var [.cell (.v (.slice (.arr 6 (.int .i64))) x0.1), .cell (.int .i64 x0.2.1), .cell (.v (.slice (.int .i64)) x0.2.2.1), .cell (.int .i64 x0.2.2.2.1), .cell (.int .i64 x0.2.2.2.2.1), .cell (.int .i64 x0.2.2.2.2.2.1)]), (1, .var [.cell (.int .i64 x1.1), .cell (.int .i64 x1.2.1), .cell (.int .i64 x1.2.2.1)]), (2, .var [.cell (.os 6), .cell (.int .i64 r7.1.2.1), .cell (.os 7), .cell (.int .i64 r7.1.2.2.2.1), .cell (.int .i64 r7.1.2.2.2.2.1), .cell (.int .i64 r7.1.2.2.2.2.2.1)]), (3, .var [.cell (.os 4), .cell (.int .i64 r28.2.1), .cell (.os 5), .cell (.int .i64 r28.2.2.2.1), .cell (.int .i64 r28.2.2.2.2.1), .cell (.int .i64 r28.2.2.2.2.2.1)]), (4, .row (.arr 6 (.int .i64)) r28.1), (5, .row (.int .i64) r28.2.2.1), (6, .row (.arr 6 (.int .i64)) r7.1.1), (7, .row (.int .i64) r7.1.2.2.1), (8, .row (.arr 6 (.int .i64)) r31.1.1), (9, .row (.int .i64) r31.1.2.2.1)]) rfl rfl ?_
          refine row_len_o 8 (r31.1.1.length : Int) rfl rfl (fun hr32 => ?_)
          refine row_len_o 9 (r31.1.2.2.1.length : Int) rfl rfl (fun hr33 => ?_)
          refine ap_ni ?_
          refine ap_pure 4 (by kernel_rfl) (fun _ _ _ h => h) rfl (by kernel_rfl) trivial (rp_move rfl) rfl ?_
          refine ap_pure 5 (by kernel_rfl) (fun _ _ _ h => h) rfl (by kernel_rfl) trivial (rp_extract rfl rfl) rfl ?_
          refine ap_pure 6 (by kernel_rfl) (fun _ _ _ h => h) rfl (by kernel_rfl) trivial (rp_extract rfl rfl) rfl ?_
          exact ap_gr (rn [(4, 8), (5, 9), (8, 4), (9, 5)]) (nk rfl) k38 (by kernel_rfl)
        · refine apo_ao rfl ?_
          refine ao_eff trivial (e_alloc 8 (y := .st [.nilsl, .int .i64 0, .nilsl, .int .i64 0, .int .i64 0, .int .i64 0]) Try.zeroValue29 (fun ρ h M => ra_zero_st (t := (.pair (.slice (.arr 6 (.int .i64))) (.pair (.int .i64) (.pair (.slice (.int .i64)) (.pair (.int .i64) (.pair (.int .i64) (.pair (.int .i64) .unit))))))) rfl rfl rfl) rfl rfl rfl rfl rfl) rfl ?_
          refine ap_ni ?_
          exact ap_gr (rn [(4, 8), (5, 4), (6, 5), (7, 6), (8, 7)]) (nk rfl) k40 (by kernel_rfl)
      refine ap_let (g := 7) (listed := #[true, true, false, false, false, false, false, true, false, false]) [(2, .ref 0 0), (3, .ref 1 0), (6, .ref 2 0), (7, .bool r7.2), (8, .ref 3 0), (9, .ref 4 0), (32, .st [.os 5, .int .i64 r28.2.1, .os 6, .int .i64 r28.2.2.2.1, .int .i64 r28.2.2.2.2.1, .int .i64 r28.2.2.2.2.2.1]), (33, .v (.pair (.int .i64) (.pair (.int .i64) (.pair (.int .i64) .unit))) ((x1.1, (x1.2.1, (x1.2.2.1, ()))) : (Int × (Int × (Int × Unit)))))] [(0, .var [.cell (.v (.slice (.arr 6 (.int .i64))) x0.1), ci x0.2.1, .cell (.v (.slice (.int .i64)) x0.2.2.1), ci x0.2.2.2.1, ci x0.2.2.2.2.1, ci x0.2.2.2.2.2.1]), (1, .var [ci x1.1, ci x1.2.1, ci x1.2.2.1]), (2, .var [.cell (.os 7), ci r7.1.2.1, .cell (.os 8), ci r7.1.2.2.2.1, ci r7.1.2.2.2.2.1, ci r7.1.2.2.2.2.2.1]), (3, .var [.cell (.os 5), ci r28.2.1, .cell (.os 6), ci r28.2.2.2.1, ci r28.2.2.2.2.1, ci r28.2.2.2.2.2.1]), (4, .var [.cell (.nilsl), ci 0, .cell (.nilsl), ci 0, ci 0, ci 0]), (5, .row (.arr 6 (.int .i64)) r28.1), (6, .row (.int .i64) r28.2.2.1), (7, .row (.arr 6 (.int .i64)) r7.1.1), (8, .row (.int .i64) r7.1.2.2.1)] ?_ (fun k41 => ?_)
      · refine ap_all [2] (by kernel_rfl) ⟨?_, trivial⟩
        refine apo_ao rfl ?_
        refine ao_scall trivial (scall (c_laws_toTask (is_mk (rfl : p_laws_toTask (x1.1, (x1.2.1, (x1.2.2.1, ()))) = _))) rfl Try.func9 rfl rfl rfl rfl (fun σ => ⟨ad_ren rfl, trivial⟩)) rfl ?_
        refine ap_ni ?_
        exact ap_gr idn (nk rfl) k40 (by kernel_rfl)
      refine ap_let (g := 7) (listed := #[false, true, true, false, false, false, false, true, false, false]) [(2, .ref 0 0), (3, .ref 1 0), (6, .ref 2 0), (7, .bool r7.2), (8, .ref 3 0), (9, .ref 4 0), (34, .v (.pair (.int .i64) (.pair (.int .i64) (.pair (.int .i64) .unit))) ((p_laws_toTask (x1.1, (x1.2.1, (x1.2.2.1, ())))) : (Int × (Int × (Int × Unit)))))] [(0, .var [.cell (.v (.slice (.arr 6 (.int .i64))) x0.1), ci x0.2.1, .cell (.v (.slice (.int .i64)) x0.2.2.1), ci x0.2.2.2.1, ci x0.2.2.2.2.1, ci x0.2.2.2.2.2.1]), (1, .var [ci x1.1, ci x1.2.1, ci x1.2.2.1]), (2, .var [.cell (.os 5), ci r7.1.2.1, .cell (.os 6), ci r7.1.2.2.2.1, ci r7.1.2.2.2.2.1, ci r7.1.2.2.2.2.2.1]), (3, .var [.cell (.os 7), ci r28.2.1, .cell (.os 8), ci r28.2.2.2.1, ci r28.2.2.2.2.1, ci r28.2.2.2.2.2.1]), (4, .var [.cell (.nilsl), ci 0, .cell (.nilsl), ci 0, ci 0, ci 0]), (5, .row (.arr 6 (.int .i64)) r7.1.1), (6, .row (.int .i64) r7.1.2.2.1), (7, .row (.arr 6 (.int .i64)) r28.1), (8, .row (.int .i64) r28.2.2.1)] ?_ (fun k45 => ?_)
      · refine ap_all [0] (by kernel_rfl) ⟨?_, trivial⟩
        refine apo_ao rfl ?_
        refine ao_read trivial (r_load_st [] [.cell (.os 7), .cell (.int .i64 r28.2.1), .cell (.os 8), .cell (.int .i64 r28.2.2.2.1), .cell (.int .i64 r28.2.2.2.2.1), .cell (.int .i64 r28.2.2.2.2.2.1)] [] Try.isAgg29 Try.sizeOf29 rfl rfl rfl rfl rfl rfl rfl) rfl ?_
        refine ap_ni ?_
        exact ap_gr (rn [(5, 7), (6, 8), (7, 5), (8, 6)]) (nk rfl) k40 (by kernel_rfl)
      refine ap_let (g := 8) (listed := #[true, true, false, false, false, false, false, false, false, false]) [(2, .ref 0 0), (3, .ref 1 0), (6, .ref 2 0), (7, .bool r7.2), (8, .ref 3 0), (32, .st [.os 4, .int .i64 r28.2.1, .os 5, .int .i64 r28.2.2.2.1, .int .i64 r28.2.2.2.2.1, .int .i64 r28.2.2.2.2.2.1]), (33, .v (.pair (.int .i64) (.pair (.int .i64) (.pair (.int .i64) .unit))) ((x1.1, (x1.2.1, (x1.2.2.1, ()))) : (Int × (Int × (Int × Unit)))))] [(0, .var [.cell (.v (.slice (.arr 6 (.int .i64))) x0.1), ci x0.2.1, .cell (.v (.slice (.int .i64)) x0.2.2.1), ci x0.2.2.2.1, ci x0.2.2.2.2.1, ci x0.2.2.2.2.2.1]), (1, .var [ci x1.1, ci x1.2.1, ci x1.2.2.1]), (2, .var [.cell (.os 6), ci r7.1.2.1, .cell (.os 7), ci r7.1.2.2.2.1, ci r7.1.2.2.2.2.1, ci r7.1.2.2.2.2.2.1]), (3, .var [.cell (.os 4), ci r28.2.1, .cell (.os 5), ci r28.2.2.2.1, ci r28.2.2.2.2.1, ci r28.2.2.2.2.2.1]), (4, .row (.arr 6 (.int .i64)) r28.1), (5, .row (.int .i64) r28.2.2.1), (6, .row (.arr 6 (.int .i64)) r7.1.1), (7, .row (.int .i64) r7.1.2.2.1)] ?_ (fun k36 => ?_)
      · refine ap_all [2, 7] (by kernel_rfl) ⟨?_, ?_, trivial⟩
        · refine apo_ao rfl ?_
          refine ao_scall trivial (scall (c_laws_toTask (is_mk (rfl : p_laws_toTask (x1.1, (x1.2.1, (x1.2.2.1, ()))) = _))) rfl Try.func9 rfl rfl rfl rfl (fun σ => ⟨ad_ren rfl, trivial⟩)) rfl ?_
          refine ap_ni ?_
          exact ap_gr idn (nk rfl) k37 (by kernel_rfl)
        · refine apo_ao rfl ?_
          refine ao_eff trivial (e_alloc 8 (y := .st [.nilsl, .int .i64 0, .nilsl, .int .i64 0, .int .i64 0, .int .i64 0]) Try.zeroValue29 (fun ρ h M => ra_zero_st (t := (.pair (.slice (.arr 6 (.int .i64))) (.pair (.int .i64) (.pair (.slice (.int .i64)) (.pair (.int .i64) (.pair (.int .i64) (.pair (.int .i64) .unit))))))) rfl rfl rfl) rfl rfl rfl rfl rfl) rfl ?_
          refine ap_ni ?_
          exact ap_gr (rn [(4, 8), (5, 4), (6, 5), (7, 6), (8, 7)]) (nk rfl) k41 (by kernel_rfl)
      refine ap_let (g := 8) (listed := #[true, false, false, false, false, false, false, true, false, false]) [(2, .ref 0 0), (3, .ref 1 0), (6, .ref 2 0), (7, .bool r7.2), (8, .ref 3 0), (9, .ref 4 0), (32, .st [.os 5, .int .i64 r28.2.1, .os 6, .int .i64 r28.2.2.2.1, .int .i64 r28.2.2.2.2.1, .int .i64 r28.2.2.2.2.2.1])] [(0, .var [.cell (.v (.slice (.arr 6 (.int .i64))) x0.1), ci x0.2.1, .cell (.v (.slice (.int .i64)) x0.2.2.1), ci x0.2.2.2.1, ci x0.2.2.2.2.1, ci x0.2.2.2.2.2.1]), (1, .var [ci x1.1, ci x1.2.1, ci x1.2.2.1]), (2, .var [.cell (.os 7), ci r7.1.2.1, .cell (.os 8), ci r7.1.2.2.2.1, ci r7.1.2.2.2.2.1, ci r7.1.2.2.2.2.2.1]), (3, .var [.cell (.os 5), ci r28.2.1, .cell (.os 6), ci r28.2.2.2.1, ci r28.2.2.2.2.1, ci r28.2.2.2.2.2.1]), (4, .var [.cell (.nilsl), ci 0, .cell (.nilsl), ci 0, ci 0, ci 0]), (5, .row (.arr 6 (.int .i64)) r28.1), (6, .row (.int .i64) r28.2.2.1), (7, .row (.arr 6 (.int .i64)) r7.1.1), (8, .row (.int .i64) r7.1.2.2.1)] ?_ (fun k42 => ?_)
      · refine ap_all [1] (by kernel_rfl) ⟨?_, trivial⟩
        refine apo_ao rfl ?_
        refine ao_read trivial (r_load_part (τ := (.pair (.int .i64) (.pair (.int .i64) (.pair (.int .i64) .unit)))) (y := ((x1.1, (x1.2.1, (x1.2.2.1, ()))) : (Int × (Int × (Int × Unit))))) [] [] rfl Try.isAgg27 Try.sizeOf27 rfl rfl rfl rfl) rfl ?_
        refine ap_ni ?_
        exact ap_gr idn (nk rfl) k41 (by kernel_rfl)
      refine ap_let (g := 8) (listed := #[false, true, true, false, false, false, false, false, false, false]) [(2, .ref 0 0), (3, .ref 1 0), (6, .ref 2 0), (7, .bool r7.2), (8, .ref 3 0), (34, .v (.pair (.int .i64) (.pair (.int .i64) (.pair (.int .i64) .unit))) ((p_laws_toTask (x1.1, (x1.2.1, (x1.2.2.1, ())))) : (Int × (Int × (Int × Unit)))))] [(0, .var [.cell (.v (.slice (.arr 6 (.int .i64))) x0.1), ci x0.2.1, .cell (.v (.slice (.int .i64)) x0.2.2.1), ci x0.2.2.2.1, ci x0.2.2.2.2.1, ci x0.2.2.2.2.2.1]), (1, .var [ci x1.1, ci x1.2.1, ci x1.2.2.1]), (2, .var [.cell (.os 4), ci r7.1.2.1, .cell (.os 5), ci r7.1.2.2.2.1, ci r7.1.2.2.2.2.1, ci r7.1.2.2.2.2.2.1]), (3, .var [.cell (.os 6), ci r28.2.1, .cell (.os 7), ci r28.2.2.2.1, ci r28.2.2.2.2.1, ci r28.2.2.2.2.2.1]), (4, .row (.arr 6 (.int .i64)) r7.1.1), (5, .row (.int .i64) r7.1.2.2.1), (6, .row (.arr 6 (.int .i64)) r28.1), (7, .row (.int .i64) r28.2.2.1)] ?_ (fun k44 => ?_)
      · refine ap_all [0, 7] (by kernel_rfl) ⟨?_, ?_, trivial⟩
        · refine apo_ao rfl ?_
          refine ao_read trivial (r_load_st [] [.cell (.os 6), .cell (.int .i64 r28.2.1), .cell (.os 7), .cell (.int .i64 r28.2.2.2.1), .cell (.int .i64 r28.2.2.2.2.1), .cell (.int .i64 r28.2.2.2.2.2.1)] [] Try.isAgg29 Try.sizeOf29 rfl rfl rfl rfl rfl rfl rfl) rfl ?_
          refine ap_ni ?_
          exact ap_gr (rn [(4, 6), (5, 7), (6, 4), (7, 5)]) (nk rfl) k37 (by kernel_rfl)
        · refine apo_ao rfl ?_
          refine ao_eff trivial (e_alloc 8 (y := .st [.nilsl, .int .i64 0, .nilsl, .int .i64 0, .int .i64 0, .int .i64 0]) Try.zeroValue29 (fun ρ h M => ra_zero_st (t := (.pair (.slice (.arr 6 (.int .i64))) (.pair (.int .i64) (.pair (.slice (.int .i64)) (.pair (.int .i64) (.pair (.int .i64) (.pair (.int .i64) .unit))))))) rfl rfl rfl) rfl rfl rfl rfl rfl) rfl ?_
          refine ap_ni ?_
          exact ap_gr (rn [(4, 8), (5, 4), (6, 5), (7, 6), (8, 7)]) (nk rfl) k45 (by kernel_rfl)
      refine ap_let (g := 8) (listed := #[false, true, false, false, false, false, false, true, false, false]) [(2, .ref 0 0), (3, .ref 1 0), (6, .ref 2 0), (7, .bool r7.2), (8, .ref 3 0), (9, .ref 4 0), (33, .v (.pair (.int .i64) (.pair (.int .i64) (.pair (.int .i64) .unit))) ((x1.1, (x1.2.1, (x1.2.2.1, ()))) : (Int × (Int × (Int × Unit)))))] [(0, .var [.cell (.v (.slice (.arr 6 (.int .i64))) x0.1), ci x0.2.1, .cell (.v (.slice (.int .i64)) x0.2.2.1), ci x0.2.2.2.1, ci x0.2.2.2.2.1, ci x0.2.2.2.2.2.1]), (1, .var [ci x1.1, ci x1.2.1, ci x1.2.2.1]), (2, .var [.cell (.os 5), ci r7.1.2.1, .cell (.os 6), ci r7.1.2.2.2.1, ci r7.1.2.2.2.2.1, ci r7.1.2.2.2.2.2.1]), (3, .var [.cell (.os 7), ci r28.2.1, .cell (.os 8), ci r28.2.2.2.1, ci r28.2.2.2.2.1, ci r28.2.2.2.2.2.1]), (4, .var [.cell (.nilsl), ci 0, .cell (.nilsl), ci 0, ci 0, ci 0]), (5, .row (.arr 6 (.int .i64)) r7.1.1), (6, .row (.int .i64) r7.1.2.2.1), (7, .row (.arr 6 (.int .i64)) r28.1), (8, .row (.int .i64) r28.2.2.1)] ?_ (fun k46 => ?_)
      · refine ap_all [0, 2] (by kernel_rfl) ⟨?_, ?_, trivial⟩
        · refine apo_ao rfl ?_
          refine ao_read trivial (r_load_st [] [.cell (.os 7), .cell (.int .i64 r28.2.1), .cell (.os 8), .cell (.int .i64 r28.2.2.2.1), .cell (.int .i64 r28.2.2.2.2.1), .cell (.int .i64 r28.2.2.2.2.2.1)] [] Try.isAgg29 Try.sizeOf29 rfl rfl rfl rfl rfl rfl rfl) rfl ?_
          refine ap_ni ?_
          exact ap_gr (rn [(5, 7), (6, 8), (7, 5), (8, 6)]) (nk rfl) k41 (by kernel_rfl)
        · refine apo_ao rfl ?_
          refine ao_scall trivial (scall (c_laws_toTask (is_mk (rfl : p_laws_toTask (x1.1, (x1.2.1, (x1.2.2.1, ()))) = _))) rfl Try.func9 rfl rfl rfl rfl (fun σ => ⟨ad_ren rfl, trivial⟩)) rfl ?_
          refine ap_ni ?_
          exact ap_gr idn (nk rfl) k45 (by kernel_rfl)
      refine ap_let (g := 9) (listed := #[true, false, false, false, false, false, false, false, false, false]) [(2, .ref 0 0), (3, .ref 1 0), (6, .ref 2 0), (7, .bool r7.2), (8, .ref 3 0), (32, .st [.os 4, .int .i64 r28.2.1, .os 5, .int .i64 r28.2.2.2.1, .int .i64 r28.2.2.2.2.1, .int .i64 r28.2.2.2.2.2.1])] [(0, .var [.cell (.v (.slice (.arr 6 (.int .i64))) x0.1), ci x0.2.1, .cell (.v (.slice (.int .i64)) x0.2.2.1), ci x0.2.2.2.1, ci x0.2.2.2.2.1, ci x0.2.2.2.2.2.1]), (1, .var [ci x1.1, ci x1.2.1, ci x1.2.2.1]), (2, .var [.cell (.os 6), ci r7.1.2.1, .cell (.os 7), ci r7.1.2.2.2.1, ci r7.1.2.2.2.2.1, ci r7.1.2.2.2.2.2.1]), (3, .var [.cell (.os 4), ci r28.2.1, .cell (.os 5), ci r28.2.2.2.1, ci r28.2.2.2.2.1, ci r28.2.2.2.2.2.1]), (4, .row (.arr 6 (.int .i64)) r28.1), (5, .row (.int .i64) r28.2.2.1), (6, .row (.arr 6 (.int .i64)) r7.1.1), (7, .row (.int .i64) r7.1.2.2.1)] ?_ (fun k35 => ?_)
      · refine ap_all [1, 7] (by kernel_rfl) ⟨?_, ?_, trivial⟩
        · refine apo_ao rfl ?_
          refine ao_read trivial (r_load_part (τ := (.pair (.int .i64) (.pair (.int .i64) (.pair (.int .i64) .unit)))) (y := ((x1.1, (x1.2.1, (x1.2.2.1, ()))) : (Int × (Int × (Int × Unit))))) [] [] rfl Try.isAgg27 Try.sizeOf27 rfl rfl rfl rfl) rfl ?_
          refine ap_ni ?_
          exact ap_gr idn (nk rfl) k36 (by kernel_rfl)
        · refine apo_ao rfl ?_
          refine ao_eff trivial (e_alloc 8 (y := .st [.nilsl, .int .i64 0, .nilsl, .int .i64 0, .int .i64 0, .int .i64 0]) Try.zeroValue29 (fun ρ h M => ra_zero_st (t := (.pair (.slice (.arr 6 (.int .i64))) (.pair (.int .i64) (.pair (.slice (.int .i64)) (.pair (.int .i64) (.pair (.int .i64) (.pair (.int .i64) .unit))))))) rfl rfl rfl) rfl rfl rfl rfl rfl) rfl ?_
          refine ap_ni ?_
          exact ap_gr (rn [(4, 8), (5, 4), (6, 5), (7, 6), (8, 7)]) (nk rfl) k42 (by kernel_rfl)
      refine ap_let (g := 9) (listed := #[false, true, false, false, false, false, false, false, false, false]) [(2, .ref 0 0), (3, .ref 1 0), (6, .ref 2 0), (7, .bool r7.2), (8, .ref 3 0), (33, .v (.pair (.int .i64) (.pair (.int .i64) (.pair (.int .i64) .unit))) ((x1.1, (x1.2.1, (x1.2.2.1, ()))) : (Int × (Int × (Int × Unit)))))] [(0, .var [.cell (.v (.slice (.arr 6 (.int .i64))) x0.1), ci x0.2.1, .cell (.v (.slice (.int .i64)) x0.2.2.1), ci x0.2.2.2.1, ci x0.2.2.2.2.1, ci x0.2.2.2.2.2.1]), (1, .var [ci x1.1, ci x1.2.1, ci x1.2.2.1]), (2, .var [.cell (.os 4), ci r7.1.2.1, .cell (.os 5), ci r7.1.2.2.2.1, ci r7.1.2.2.2.2.1, ci r7.1.2.2.2.2.2.1]), (3, .var [.cell (.os 6), ci r28.2.1, .cell (.os 7), ci r28.2.2.2.1, ci r28.2.2.2.2.1, ci r28.2.2.2.2.2.1]), (4, .row (.arr 6 (.int .i64)) r7.1.1), (5, .row (.int .i64) r7.1.2.2.1), (6, .row (.arr 6 (.int .i64)) r28.1), (7, .row (.int .i64) r28.2.2.1)] ?_ (fun k43 => ?_)
      · refine ap_all [0, 2, 7] (by kernel_rfl) ⟨?_, ?_, ?_, trivial⟩
        · refine apo_ao rfl ?_
          refine ao_read trivial (r_load_st [] [.cell (.os 6), .cell (.int .i64 r28.2.1), .cell (.os 7), .cell (.int .i64 r28.2.2.2.1), .cell (.int .i64 r28.2.2.2.2.1), .cell (.int .i64 r28.2.2.2.2.2.1)] [] Try.isAgg29 Try.sizeOf29 rfl rfl rfl rfl rfl rfl rfl) rfl ?_
          refine ap_ni ?_
          exact ap_gr (rn [(4, 6), (5, 7), (6, 4), (7, 5)]) (nk rfl) k36 (by kernel_rfl)
        · refine apo_ao rfl ?_
          refine ao_scall trivial (scall (c_laws_toTask (is_mk (rfl : p_laws_toTask (x1.1, (x1.2.1, (x1.2.2.1, ()))) = _))) rfl Try.func9 rfl rfl rfl rfl (fun σ => ⟨ad_ren rfl, trivial⟩)) rfl ?_
          refine ap_ni ?_
          exact ap_gr idn (nk rfl) k44 (by kernel_rfl)
        · refine apo_ao rfl ?_
          refine ao_eff trivial (e_alloc 8 (y := .st [.nilsl, .int .i64 0, .nilsl, .int .i64 0, .int .i64 0, .int .i64 0]) Try.zeroValue29 (fun ρ h M => ra_zero_st (t := (.pair (.slice (.arr 6 (.int .i64))) (.pair (.int .i64) (.pair (.slice (.int .i64)) (.pair (.int .i64) (.pair (.int .i64) (.pair (.int .i64) .unit))))))) rfl rfl rfl) rfl rfl rfl rfl rfl) rfl ?_
          refine ap_ni ?_
          exact ap_gr (rn [(4, 8), (5, 4), (6, 5), (7, 6), (8, 7)]) (nk rfl) k46 (by kernel_rfl)
      refine ap_let (g := 9) (listed := #[false, false, false, false, false, false, false, true, false, false]) [(2, .ref 0 0), (3, .ref 1 0), (6, .ref 2 0), (7, .bool r7.2), (8, .ref 3 0), (9, .ref 4 0)] [(0, .var [.cell (.v (.slice (.arr 6 (.int .i64))) x0.1), ci x0.2.1, .cell (.v (.slice (.int .i64)) x0.2.2.1), ci x0.2.2.2.1, ci x0.2.2.2.2.1, ci x0.2.2.2.2.2.1]), (1, .var [ci x1.1, ci x1.2.1, ci x1.2.2.1]), (2, .var [.cell (.os 5), ci r7.1.2.1, .cell (.os 6), ci r7.1.2.2.2.1, ci r7.1.2.2.2.2.1, ci r7.1.2.2.2.2.2.1]), (3, .var [.cell (.os 7), ci r28.2.1, .cell (.os 8), ci r28.2.2.2.1, ci r28.2.2.2.2.1, ci r28.2.2.2.2.2.1]), (4, .var [.cell (.nilsl), ci 0, .cell (.nilsl), ci 0, ci 0, ci 0]), (5, .row (.arr 6 (.int .i64)) r7.1.1), (6, .row (.int .i64) r7.1.2.2.1), (7, .row (.arr 6 (.int .i64)) r28.1), (8, .row (.int .i64) r28.2.2.1)] ?_ (fun k47 => ?_)
      · refine ap_all [0, 1] (by kernel_rfl) ⟨?_, ?_, trivial⟩
        · refine apo_ao rfl ?_
          refine ao_read trivial (r_load_st [] [.cell (.os 7), .cell (.int .i64 r28.2.1), .cell (.os 8), .cell (.int .i64 r28.2.2.2.1), .cell (.int .i64 r28.2.2.2.2.1), .cell (.int .i64 r28.2.2.2.2.2.1)] [] Try.isAgg29 Try.sizeOf29 rfl rfl rfl rfl rfl rfl rfl) rfl ?_
          refine ap_ni ?_
          exact ap_gr (rn [(5, 7), (6, 8), (7, 5), (8, 6)]) (nk rfl) k42 (by kernel_rfl)
        · refine apo_ao rfl ?_
          refine ao_read trivial (r_load_part (τ := (.pair (.int .i64) (.pair (.int .i64) (.pair (.int .i64) .unit)))) (y := ((x1.1, (x1.2.1, (x1.2.2.1, ()))) : (Int × (Int × (Int × Unit))))) [] [] rfl Try.isAgg27 Try.sizeOf27 rfl rfl rfl rfl) rfl ?_
          refine ap_ni ?_
          exact ap_gr idn (nk rfl) k46 (by kernel_rfl)
      refine ap_let (g := 10) (listed := #[false, false, false, false, false, false, false, false, false, false]) [(2, .ref 0 0), (3, .ref 1 0), (6, .ref 2 0), (7, .bool r7.2), (8, .ref 3 0)] [(0, .var [.cell (.v (.slice (.arr 6 (.int .i64))) x0.1), ci x0.2.1, .cell (.v (.slice (.int .i64)) x0.2.2.1), ci x0.2.2.2.1, ci x0.2.2.2.2.1, ci x0.2.2.2.2.2.1]), (1, .var [ci x1.1, ci x1.2.1, ci x1.2.2.1]), (2, .var [.cell (.os 4), ci r7.1.2.1, .cell (.os 5), ci r7.1.2.2.2.1, ci r7.1.2.2.2.2.1, ci r7.1.2.2.2.2.2.1]), (3, .var [.cell (.os 6), ci r28.2.1, .cell (.os 7), ci r28.2.2.2.1, ci r28.2.2.2.2.1, ci r28.2.2.2.2.2.1]), (4, .row (.arr 6 (.int .i64)) r7.1.1), (5, .row (.int .i64) r7.1.2.2.1), (6, .row (.arr 6 (.int .i64)) r28.1), (7, .row (.int .i64) r28.2.2.1)] ?_ (fun k34 => ?_)
      · refine ap_all [0, 1, 7] (by kernel_rfl) ⟨?_, ?_, ?_, trivial⟩
        · refine apo_ao rfl ?_
          refine ao_read trivial (r_load_st [] [.cell (.os 6), .cell (.int .i64 r28.2.1), .cell (.os 7), .cell (.int .i64 r28.2.2.2.1), .cell (.int .i64 r28.2.2.2.2.1), .cell (.int .i64 r28.2.2.2.2.2.1)] [] Try.isAgg29 Try.sizeOf29 rfl rfl rfl rfl rfl rfl rfl) rfl ?_
          refine ap_ni ?_
          exact ap_gr (rn [(4, 6), (5, 7), (6, 4), (7, 5)]) (nk rfl) k35 (by kernel_rfl)
        · refine apo_ao rfl ?_
          refine ao_read trivial (r_load_part (τ := (.pair (.int .i64) (.pair (.int .i64) (.pair (.int .i64) .unit)))) (y := ((x1.1, (x1.2.1, (x1.2.2.1, ()))) : (Int × (Int × (Int × Unit))))) [] [] rfl Try.isAgg27 Try.sizeOf27 rfl rfl rfl rfl) rfl ?_
          refine ap_ni ?_
          exact ap_gr idn (nk rfl) k43 (by kernel_rfl)
        · refine apo_ao rfl ?_
          refine ao_eff trivial (e_alloc 8 (y := .st [.nilsl, .int .i64 0, .nilsl, .int .i64 0, .int .i64 0, .int .i64 0]) Try.zeroValue29 (fun ρ h M => ra_zero_st (t := (.pair (.slice (.arr 6 (.int .i64))) (.pair (.int .i64) (.pair (.slice (.int .i64)) (.pair (.int .i64) (.pair (.int .i64) (.pair (.int .i64) .unit))))))) rfl rfl rfl) rfl rfl rfl rfl rfl) rfl ?_
          refine ap_ni ?_
          exact ap_gr (rn [(4, 8), (5, 4), (6, 5), (7, 6), (8, 7)]) (nk rfl) k47 (by kernel_rfl)
      exact ap_gr (rn [(3, 7), (4, 3), (5, 4), (6, 5), (7, 6)]) (nk rfl) k34 (by kernel_rfl)
    refine ap_let (g := 2) (listed := #[true, true, true, true, true, true, true, true, true, false, false]) [(2, .ref 0 0), (3, .ref 1 0), (6, .ref 2 0), (27, .st [.os 3, .int .i64 r7.1.2.1, .os 4, .int .i64 r7.1.2.2.2.1, .int .i64 r7.1.2.2.2.2.1, .int .i64 r7.1.2.2.2.2.2.1]), (28, .bool r7.2)] [(0, .var [.cell (.v (.slice (.arr 6 (.int .i64))) x0.1), ci x0.2.1, .cell (.v (.slice (.int .i64)) x0.2.2.1), ci x0.2.2.2.1, ci x0.2.2.2.2.1, ci x0.2.2.2.2.2.1]), (1, .var [ci x1.1, ci x1.2.1, ci x1.2.2.1]), (2, .var [.cell (.nilsl), ci 0, .cell (.nilsl), ci 0, ci 0, ci 0]), (3, .row (.arr 6 (.int .i64)) r7.1.1), (4, .row (.int .i64) r7.1.2.2.1)] ?_ (fun k16 => ?_)
    · refine ap_all [9] (by kernel_rfl) ⟨?_, trivial⟩
      refine apo_ao rfl ?_
      refine ao_effS trivial (e_store rfl rfl rfl rfl Try.sizeOf29 rfl) ?_
      refine ap_ni ?_
      refine ap_pure 10 (by kernel_rfl) (fun _ _ _ h => h) rfl (by kernel_rfl) trivial (rp_assign rfl) rfl ?_
      exact ap_end (by kernel_rfl) (AQ.sub (sub_r1 idn (nk rfl) (by kernel_rfl)) key)
    refine ap_let (g := 3) (listed := #[true, true, true, true, true, true, true, true, false, false, false]) [(2, .ref 0 0), (3, .ref 1 0), (27, .st [.os 2, .int .i64 r7.1.2.1, .os 3, .int .i64 r7.1.2.2.2.1, .int .i64 r7.1.2.2.2.2.1, .int .i64 r7.1.2.2.2.2.2.1]), (28, .bool r7.2)] [(0, .var [.cell (.v (.slice (.arr 6 (.int .i64))) x0.1), ci x0.2.1, .cell (.v (.slice (.int .i64)) x0.2.2.1), ci x0.2.2.2.1, ci x0.2.2.2.2.1, ci x0.2.2.2.2.2.1]), (1, .var [ci x1.1, ci x1.2.1, ci x1.2.2.1]), (2, .row (.arr 6 (.int .i64)) r7.1.1), (3, .row (.int .i64) r7.1.2.2.1)] ?_ (fun k15 => ?_)
    · refine ap_all [8] (by kernel_rfl) ⟨?_, trivial⟩
      refine apo_ao rfl ?_
      refine ao_eff trivial (e_alloc 4 (y := .st [.nilsl, .int .i64 0, .nilsl, .int .i64 0, .int .i64 0, .int .i64 0]) Try.zeroValue29 (fun ρ h M => ra_zero_st (t := (.pair (.slice (.arr 6 (.int .i64))) (.pair (.int .i64) (.pair (.slice (.int .i64)) (.pair (.int .i64) (.pair (.int .i64) (.pair (.int .i64) .unit))))))) rfl rfl rfl) rfl rfl rfl rfl rfl) rfl ?_
      refine ap_ni ?_
      exact ap_gr (rn [(2, 4), (3, 2), (4, 3)]) (nk rfl) k16 (by kernel_rfl)
    refine ap_let (g := 6) (listed := #[true, true, true, true, false, false, false, false, true, false, false]) [(2, .ref 0 0), (3, .ref 1 0), (6, .ref 2 0), (23, .st [.os 3, .int .i64 r4.2.1, .os 4, .int .i64 r4.2.2.2.1, .int .i64 r4.2.2.2.2.1, .int .i64 r4.2.2.2.2.2.1]), (25, .v (.pair (.int .i64) (.pair (.int .i64) (.pair (.int .i64) .unit))) ((p_laws_toTask (x1.1, (x1.2.1, (x1.2.2.1, ())))) : (Int × (Int × (Int × Unit)))))] [(0, .var [.cell (.v (.slice (.arr 6 (.int .i64))) x0.1), ci x0.2.1, .cell (.v (.slice (.int .i64)) x0.2.2.1), ci x0.2.2.2.1, ci x0.2.2.2.2.1, ci x0.2.2.2.2.2.1]), (1, .var [ci x1.1, ci x1.2.1, ci x1.2.2.1]), (2, .var [.cell (.nilsl), ci 0, .cell (.nilsl), ci 0, ci 0, ci 0]), (3, .row (.arr 6 (.int .i64)) r4.1), (4, .row (.int .i64) r4.2.2.1)] ?_ (fun k17 => ?_)
    · refine ap_all [4] (by kernel_rfl) ⟨?_, trivial⟩
      refine apo_ao rfl ?_
      refine ao_call [] 5 trivial (c_spec_DoTask (is_mk r7h)) Try.func7 rfl rfl rfl rfl ⟨ad_st rfl rfl ⟨ad_os0 rfl, ad_ren rfl, ad_os0 rfl, ad_ren rfl, ad_ren rfl, ad_ren rfl, trivial⟩, ad_ren rfl, trivial⟩ trivial rfl rfl rfl rfl rfl rfl rfl (fun r' H' hr => ?_)
      obtain ⟨rfl, rfl⟩ := hr
      refine ao_norm (y := .tup [.st [.os 5, .int .i64 r7.1.2.1, .os 6, .int .i64 r7.1.2.2.2.1, .int .i64 r7.1.2.2.2.2.1, .int .i64 r7.1.2.2.2.2.2.1], .bool r7.2]) (H' := [(0, .var [.cell (.v (.slice (.arr 6 (.int .i64))) x0.1), .cell (.int .i64 x0.2.1), .cell (.v (.slice (.int .i64)) x0.2.2.1), .cell (.int .i64 x0.2.2.2.1), .cell (.int .i64 x0.2.2.2.2.1), .cell (.int .i64 x0.2.2.2.2.2.1)]), (1, .var [.cell (.int .i64 x1.1), .cell (.int .i64 x1.2.1), .cell (.int .i64 x1.2.2.1)]), (2, .var [.cell (.nilsl), .cell (.int .i64 0), .cell (.nilsl), .cell (.int .i64 0), .cell (.int .i64 0), .cell (.int .i64 0)]), (3, .row (.arr 6 (.int .i64)) r4.1), (4, .row (.int .i64) r4.2.2.1), (5, .row (.arr 6 (.int .i64)) r7.1.1), (6, .row (.int .i64) r7.1.2.2.1)]) rfl rfl ?_
      refine row_len_o 5 (r7.1.1.length : Int) rfl rfl (fun hr8 => ?_)
      refine row_len_o 6 (r7.1.2.2.1.length : Int) rfl rfl (fun hr9 => ?_)
      refine ap_ni ?_
      refine ap_pure 5 (by kernel_rfl) (fun _ _ _ h => h) rfl (by kernel_rfl) trivial (rp_move rfl) rfl ?_
      refine ap_pure 6 (by kernel_rfl) (fun _ _ _ h => h) rfl (by kernel_rfl) trivial (rp_extract rfl rfl) rfl ?_
      refine ap_pure 7 (by kernel_rfl) (fun _ _ _ h => h) rfl (by kernel_rfl) trivial (rp_extract rfl rfl) rfl ?_
      exact ap_gr (rn [(3, 5), (4, 6)]) (nk rfl) k16 (by kernel_rfl)
    refine ap_let (g := 7) (listed := #[true, true, true, true, false, false, false, false, false, false, false]) [(2, .ref 0 0), (3, .ref 1 0), (23, .st [.os 2, .int .i64 r4.2.1, .os 3, .int .i64 r4.2.2.2.1, .int .i64 r4.2.2.2.2.1, .int .i64 r4.2.2.2.2.2.1]), (25, .v (.pair (.int .i64) (.pair (.int .i64) (.pair (.int .i64) .unit))) ((p_laws_toTask (x1.1, (x1.2.1, (x1.2.2.1, ())))) : (Int × (Int × (Int × Unit)))))] [(0, .var [.cell (.v (.slice (.arr 6 (.int .i64))) x0.1), ci x0.2.1, .cell (.v (.slice (.int .i64)) x0.2.2.1), ci x0.2.2.2.1, ci x0.2.2.2.2.1, ci x0.2.2.2.2.2.1]), (1, .var [ci x1.1, ci x1.2.1, ci x1.2.2.1]), (2, .row (.arr 6 (.int .i64)) r4.1), (3, .row (.int .i64) r4.2.2.1)] ?_ (fun k14 => ?_)
    · refine ap_all [4, 8] (by kernel_rfl) ⟨?_, ?_, trivial⟩
      · refine apo_ao rfl ?_
        refine ao_call [] 4 trivial (c_spec_DoTask (is_mk r7h)) Try.func7 rfl rfl rfl rfl ⟨ad_st rfl rfl ⟨ad_os0 rfl, ad_ren rfl, ad_os0 rfl, ad_ren rfl, ad_ren rfl, ad_ren rfl, trivial⟩, ad_ren rfl, trivial⟩ trivial rfl rfl rfl rfl rfl rfl rfl (fun r' H' hr => ?_)
        obtain ⟨rfl, rfl⟩ := hr
        refine ao_norm (y := .tup [.st [.os 4, .int .i64 r7.1.2.1, .os 5, .int .i64 r7.1.2.2.2.1, .int .i64 r7.1.2.2.2.2.1, .int .i64 r7.1.2.2.2.2.2.1], .bool r7.2]) (H' := [(0, .var [.cell (.v (.slice (.arr 6 (.int .i64))) x0.1), .cell (.int .i64 x0.2.1), .cell (.v (.slice (.int .i64)) x0.2.2.1), .cell (.int .i64 x0.2.2.2.1), .cell (.int .i64 x0.2.2.2.2.1), .cell (.int .i64 x0.2.2.2.2.2.1)]), (1, .var [.cell (.int .i64 x1.1), .cell (.int .i64 x1.2.1), .cell (.int .i64 x1.2.2.1)]), (2, .row (.arr 6 (.int .i64)) r4.1), (3, .row (.int .i64) r4.2.2.1), (4, .row (.arr 6 (.int .i64)) r7.1.1), (5, .row (.int .i64) r7.1.2.2.1)]) rfl rfl ?_
        refine row_len_o 4 (r7.1.1.length : Int) rfl rfl (fun hr8 => ?_)
        refine row_len_o 5 (r7.1.2.2.1.length : Int) rfl rfl (fun hr9 => ?_)
        refine ap_ni ?_
        refine ap_pure 5 (by kernel_rfl) (fun _ _ _ h => h) rfl (by kernel_rfl) trivial (rp_move rfl) rfl ?_
        refine ap_pure 6 (by kernel_rfl) (fun _ _ _ h => h) rfl (by kernel_rfl) trivial (rp_extract rfl rfl) rfl ?_
        refine ap_pure 7 (by kernel_rfl) (fun _ _ _ h => h) rfl (by kernel_rfl) trivial (rp_extract rfl rfl) rfl ?_
        exact ap_gr (rn [(2, 4), (3, 5)]) (nk rfl) k15 (by kernel_rfl)
      · refine apo_ao rfl ?_
        refine ao_eff trivial (e_alloc 4 (y := .st [.nilsl, .int .i64 0, .nilsl, .int .i64 0, .int .i64 0, .int .i64 0]) Try.zeroValue29 (fun ρ h M => ra_zero_st (t := (.pair (.slice (.arr 6 (.int .i64))) (.pair (.int .i64) (.pair (.slice (.int .i64)) (.pair (.int .i64) (.pair (.int .i64) (.pair (.int .i64) .unit))))))) rfl rfl rfl) rfl rfl rfl rfl rfl) rfl ?_
        refine ap_ni ?_
        exact ap_gr (rn [(2, 4), (3, 2), (4, 3)]) (nk rfl) k17 (by kernel_rfl)
    refine ap_let (g := 7) (listed := #[true, true, true, false, false, false, false, false, true, false, false]) [(2, .ref 0 0), (3, .ref 1 0), (6, .ref 2 0), (23, .st [.os 3, .int .i64 r4.2.1, .os 4, .int .i64 r4.2.2.2.1, .int .i64 r4.2.2.2.2.1, .int .i64 r4.2.2.2.2.2.1]), (24, .v (.pair (.int .i64) (.pair (.int .i64) (.pair (.int .i64) .unit))) ((x1.1, (x1.2.1, (x1.2.2.1, ()))) : (Int × (Int × (Int × Unit)))))] [(0, .var [.cell (.v (.slice (.arr 6 (.int .i64))) x0.1), ci x0.2.1, .cell (.v (.slice (.int .i64)) x0.2.2.1), ci x0.2.2.2.1, ci x0.2.2.2.2.1, ci x0.2.2.2.2.2.1]), (1, .var [ci x1.1, ci x1.2.1, ci x1.2.2.1]), (2, .var [.cell (.nilsl), ci 0, .cell (.nilsl), ci 0, ci 0, ci 0]), (3, .row (.arr 6 (.int .i64)) r4.1), (4, .row (.int .i64) r4.2.2.1)] ?_ (fun k18 => ?_)
    · refine ap_all [3] (by kernel_rfl) ⟨?_, trivial⟩
      refine apo_ao rfl ?_
      refine ao_scall trivial (scall (c_laws_toTask (is_mk (rfl : p_laws_toTask (x1.1, (x1.2.1, (x1.2.2.1, ()))) = _))) rfl Try.func9 rfl rfl rfl rfl (fun σ => ⟨ad_ren rfl, trivial⟩)) rfl ?_
      refine ap_ni ?_
      exact ap_gr idn (nk rfl) k17 (by kernel_rfl)
    refine ap_let (g := 8) (listed := #[true, true, true, false, false, false, false, false, false, false, false]) [(2, .ref 0 0), (3, .ref 1 0), (23, .st [.os 2, .int .i64 r4.2.1, .os 3, .int .i64 r4.2.2.2.1, .int .i64 r4.2.2.2.2.1, .int .i64 r4.2.2.2.2.2.1]), (24, .v (.pair (.int .i64) (.pair (.int .i64) (.pair (.int .i64) .unit))) ((x1.1, (x1.2.1, (x1.2.2.1, ()))) : (Int × (Int × (Int × Unit)))))] [(0, .var [.cell (.v (.slice (.arr 6 (.int .i64))) x0.1), ci x0.2.1, .cell (.v (.slice (.int .i64)) x0.2.2.1), ci x0.2.2.2.1, ci x0.2.2.2.2.1, ci x0.2.2.2.2.2.1]), (1, .var [ci x1.1, ci x1.2.1, ci x1.2.2.1]), (2, .row (.arr 6 (.int .i64)) r4.1), (3, .row (.int .i64) r4.2.2.1)] ?_ (fun k13 => ?_)
    · refine ap_all [3, 8] (by kernel_rfl) ⟨?_, ?_, trivial⟩
      · refine apo_ao rfl ?_
        refine ao_scall trivial (scall (c_laws_toTask (is_mk (rfl : p_laws_toTask (x1.1, (x1.2.1, (x1.2.2.1, ()))) = _))) rfl Try.func9 rfl rfl rfl rfl (fun σ => ⟨ad_ren rfl, trivial⟩)) rfl ?_
        refine ap_ni ?_
        exact ap_gr idn (nk rfl) k14 (by kernel_rfl)
      · refine apo_ao rfl ?_
        refine ao_eff trivial (e_alloc 4 (y := .st [.nilsl, .int .i64 0, .nilsl, .int .i64 0, .int .i64 0, .int .i64 0]) Try.zeroValue29 (fun ρ h M => ra_zero_st (t := (.pair (.slice (.arr 6 (.int .i64))) (.pair (.int .i64) (.pair (.slice (.int .i64)) (.pair (.int .i64) (.pair (.int .i64) (.pair (.int .i64) .unit))))))) rfl rfl rfl) rfl rfl rfl rfl rfl) rfl ?_
        refine ap_ni ?_
        exact ap_gr (rn [(2, 4), (3, 2), (4, 3)]) (nk rfl) k18 (by kernel_rfl)
    refine ap_let (g := 8) (listed := #[true, true, false, false, false, false, false, false, true, false, false]) [(2, .ref 0 0), (3, .ref 1 0), (6, .ref 2 0), (23, .st [.os 3, .int .i64 r4.2.1, .os 4, .int .i64 r4.2.2.2.1, .int .i64 r4.2.2.2.2.1, .int .i64 r4.2.2.2.2.2.1])] [(0, .var [.cell (.v (.slice (.arr 6 (.int .i64))) x0.1), ci x0.2.1, .cell (.v (.slice (.int .i64)) x0.2.2.1), ci x0.2.2.2.1, ci x0.2.2.2.2.1, ci x0.2.2.2.2.2.1]), (1, .var [ci x1.1, ci x1.2.1, ci x1.2.2.1]), (2, .var [.cell (.nilsl), ci 0, .cell (.nilsl), ci 0, ci 0, ci 0]), (3, .row (.arr 6 (.int .i64)) r4.1), (4, .row (.int .i64) r4.2.2.1)] ?_ (fun k19 => ?_)
    · refine ap_all [2] (by kernel_rfl) ⟨?_, trivial⟩
      refine apo_ao rfl ?_
      refine ao_read trivial (r_load_part (τ := (.pair (.int .i64) (.pair (.int .i64) (.pair (.int .i64) .unit)))) (y := ((x1.1, (x1.2.1, (x1.2.2.1, ()))) : (Int × (Int × (Int × Unit))))) [] [] rfl Try.isAgg27 Try.sizeOf27 rfl rfl rfl rfl) rfl ?_
      refine ap_ni ?_
      exact ap_gr idn (nk rfl) k18 (by kernel_rfl)
    refine ap_let (g := 8) (listed := #[true, false, true, false, false, false, false, false, true, false, false]) [(2, .ref 0 0), (3, .ref 1 0), (6, .ref 2 0), (22, .v (.pair (.slice (.arr 6 (.int .i64))) (.pair (.int .i64) (.pair (.slice (.int .i64)) (.pair (.int .i64) (.pair (.int .i64) (.pair (.int .i64) .unit)))))) ((x0.1, (x0.2.1, (x0.2.2.1, (x0.2.2.2.1, (x0.2.2.2.2.1, (x0.2.2.2.2.2.1, ())))))) : ((List (List Int)) × (Int × ((List Int) × (Int × (Int × (Int × Unit)))))))), (24, .v (.pair (.int .i64) (.pair (.int .i64) (.pair (.int .i64) .unit))) ((x1.1, (x1.2.1, (x1.2.2.1, ()))) : (Int × (Int × (Int × Unit)))))] [(0, .var [.cell (.v (.slice (.arr 6 (.int .i64))) x0.1), ci x0.2.1, .cell (.v (.slice (.int .i64)) x0.2.2.1), ci x0.2.2.2.1, ci x0.2.2.2.2.1, ci x0.2.2.2.2.2.1]), (1, .var [ci x1.1, ci x1.2.1, ci x1.2.2.1]), (2, .var [.cell (.nilsl), ci 0, .cell (.nilsl), ci 0, ci 0, ci 0])] ?_ (fun k21 => ?_)
    · refine ap_all [1] (by kernel_rfl) ⟨?_, trivial⟩
      refine apo_ao rfl ?_
      refine ao_call [] 3 trivial (c_laws_toTavern (is_mk r4h)) Try.func8 rfl rfl rfl rfl ⟨ad_ren rfl, trivial⟩ trivial rfl rfl rfl rfl rfl rfl rfl (fun r' H' hr => ?_)
      obtain ⟨rfl, rfl⟩ := hr
      refine ao_norm (y := .st [.os 3, .int .i64 r4.2.1, .os 4, .int .i64 r4.2.2.2.1, .int .i64 r4.2.2.2.2.1, .int .i64 r4.2.2.2.2.2.1]) (H' := [(0, .var [.cell (.v (.slice (.arr 6 (.int .i64))) x0.1), .cell (.int .i64 x0.2.1), .cell (.v (.slice (.int .i64)) x0.2.2.1), .cell (.int .i64 x0.2.2.2.1), .cell (.int .i64 x0.2.2.2.2.1), .cell (.int .i64 x0.2.2.2.2.2.1)]), (1, .var [.cell (.int .i64 x1.1), .cell (.int .i64 x1.2.1), .cell (.int .i64 x1.2.2.1)]), (2, .var [.cell (.nilsl), .cell (.int .i64 0), .cell (.nilsl), .cell (.int .i64 0), .cell (.int .i64 0), .cell (.int .i64 0)]), (3, .row (.arr 6 (.int .i64)) r4.1), (4, .row (.int .i64) r4.2.2.1)]) rfl rfl ?_
      refine row_len_o 3 (r4.1.length : Int) rfl rfl (fun hr5 => ?_)
      refine row_len_o 4 (r4.2.2.1.length : Int) rfl rfl (fun hr6 => ?_)
      refine ap_ni ?_
      exact ap_gr idn (nk rfl) k18 (by kernel_rfl)
    refine ap_let (g := 9) (listed := #[true, true, false, false, false, false, false, false, false, false, false]) [(2, .ref 0 0), (3, .ref 1 0), (23, .st [.os 2, .int .i64 r4.2.1, .os 3, .int .i64 r4.2.2.2.1, .int .i64 r4.2.2.2.2.1, .int .i64 r4.2.2.2.2.2.1])] [(0, .var [.cell (.v (.slice (.arr 6 (.int .i64))) x0.1), ci x0.2.1, .cell (.v (.slice (.int .i64)) x0.2.2.1), ci x0.2.2.2.1, ci x0.2.2.2.2.1, ci x0.2.2.2.2.2.1]), (1, .var [ci x1.1, ci x1.2.1, ci x1.2.2.1]), (2, .row (.arr 6 (.int .i64)) r4.1), (3, .row (.int .i64) r4.2.2.1)] ?_ (fun k12 => ?_)
    · refine ap_all [2, 8] (by kernel_rfl) ⟨?_, ?_, trivial⟩
      · refine apo_ao rfl ?_
        refine ao_read trivial (r_load_part (τ := (.pair (.int .i64) (.pair (.int .i64) (.pair (.int .i64) .unit)))) (y := ((x1.1, (x1.2.1, (x1.2.2.1, ()))) : (Int × (Int × (Int × Unit))))) [] [] rfl Try.isAgg27 Try.sizeOf27 rfl rfl rfl rfl) rfl ?_
        refine ap_ni ?_
        exact ap_gr idn (nk rfl) k13 (by kernel_rfl)
      · refine apo_ao rfl ?_
        refine ao_eff trivial (e_alloc 4 (y := .st [.nilsl, .int .i64 0, .nilsl, .int .i64 0, .int .i64 0, .int .i64 0]) Try.zeroValue29 (fun ρ h M => ra_zero_st (t := (.pair (.slice (.arr 6 (.int .i64))) (.pair (.int .i64) (.pair (.slice (.int .i64)) (.pair (.int .i64) (.pair (.int .i64) (.pair (.int .i64) .unit))))))) rfl rfl rfl) rfl rfl rfl rfl rfl) rfl ?_
        refine ap_ni ?_
        exact ap_gr (rn [(2, 4), (3, 2), (4, 3)]) (nk rfl) k19 (by kernel_rfl)
    refine ap_let (g := 9) (listed := #[true, false, true, false, false, false, false, false, false, false, false]) [(2, .ref 0 0), (3, .ref 1 0), (22, .v (.pair (.slice (.arr 6 (.int .i64))) (.pair (.int .i64) (.pair (.slice (.int .i64)) (.pair (.int .i64) (.pair (.int .i64) (.pair (.int .i64) .unit)))))) ((x0.1, (x0.2.1, (x0.2.2.1, (x0.2.2.2.1, (x0.2.2.2.2.1, (x0.2.2.2.2.2.1, ())))))) : ((List (List Int)) × (Int × ((List Int) × (Int × (Int × (Int × Unit)))))))), (24, .v (.pair (.int .i64) (.pair (.int .i64) (.pair (.int .i64) .unit))) ((x1.1, (x1.2.1, (x1.2.2.1, ()))) : (Int × (Int × (Int × Unit)))))] [(0, .var [.cell (.v (.slice (.arr 6 (.int .i64))) x0.1), ci x0.2.1, .cell (.v (.slice (.int .i64)) x0.2.2.1), ci x0.2.2.2.1, ci x0.2.2.2.2.1, ci x0.2.2.2.2.2.1]), (1, .var [ci x1.1, ci x1.2.1, ci x1.2.2.1])] ?_ (fun k20 => ?_)
    · refine ap_all [1, 8] (by kernel_rfl) ⟨?_, ?_, trivial⟩
      · refine apo_ao rfl ?_
        refine ao_call [] 2 trivial (c_laws_toTavern (is_mk r4h)) Try.func8 rfl rfl rfl rfl ⟨ad_ren rfl, trivial⟩ trivial rfl rfl rfl rfl rfl rfl rfl (fun r' H' hr => ?_)
        obtain ⟨rfl, rfl⟩ := hr
        refine ao_norm (y := .st [.os 2, .int .i64 r4.2.1, .os 3, .int .i64 r4.2.2.2.1, .int .i64 r4.2.2.2.2.1, .int .i64 r4.2.2.2.2.2.1]) (H' := [(0, .var [.cell (.v (.slice (.arr 6 (.int .i64))) x0.1), .cell (.int .i64 x0.2.1), .cell (.v (.slice (.int .i64)) x0.2.2.1), .cell (.int .i64 x0.2.2.2.1), .cell (.int .i64 x0.2.2.2.2.1), .cell (.int .i64 x0.2.2.2.2.2.1)]), (1, .var [.cell (.int .i64 x1.1), .cell (.int .i64 x1.2.1), .cell (.int .i64 x1.2.2.1)]), (2, .row (.arr 6 (.int .i64)) r4.1), (3, .row (.int .i64) r4.2.2.1)]) rfl rfl ?_
        refine row_len_o 2 (r4.1.length : Int) rfl rfl (fun hr5 => ?_)
        refine row_len_o 3 (r4.2.2.1.length : Int) rfl rfl (fun hr6 => ?_)
        refine ap_ni ?_
        exact ap_gr idn (nk rfl) k13 (by kernel_rfl)
      · refine apo_ao rfl ?_
        refine ao_eff trivial (e_alloc 2 (y := .st [.nilsl, .int .i64 0, .nilsl, .int .i64 0, .int .i64 0, .int .i64 0]) Try.zeroValue29 (fun ρ h M => ra_zero_st (t := (.pair (.slice (.arr 6 (.int .i64))) (.pair (.int .i64) (.pair (.slice (.int .i64)) (.pair (.int .i64) (.pair (.int .i64) (.pair (.int .i64) .unit))))))) rfl rfl rfl) rfl rfl rfl rfl rfl) rfl ?_
        refine ap_ni ?_
        exact ap_gr idn (nk rfl) k21 (by kernel_rfl)
    refine ap_let (g := 9) (listed := #[true, false, false, false, false, false, false, false, true, false, false]) [(2, .ref 0 0), (3, .ref 1 0), (6, .ref 2 0), (22, .v (.pair (.slice (.arr 6 (.int .i64))) (.pair (.int .i64) (.pair (.slice (.int .i64)) (.pair (.int .i64) (.pair (.int .i64) (.pair (.int .i64) .unit)))))) ((x0.1, (x0.2.1, (x0.2.2.1, (x0.2.2.2.1, (x0.2.2.2.2.1, (x0.2.2.2.2.2.1, ())))))) : ((List (List Int)) × (Int × ((List Int) × (Int × (Int × (Int × Unit))))))))] [(0, .var [.cell (.v (.slice (.arr 6 (.int .i64))) x0.1), ci x0.2.1, .cell (.v (.slice (.int .i64)) x0.2.2.1), ci x0.2.2.2.1, ci x0.2.2.2.2.1, ci x0.2.2.2.2.2.1]), (1, .var [ci x1.1, ci x1.2.1, ci x1.2.2.1]), (2, .var [.cell (.nilsl), ci 0, .cell (.nilsl), ci 0, ci 0, ci 0])] ?_ (fun k22 => ?_)
    · refine ap_all [1, 2] (by kernel_rfl) ⟨?_, ?_, trivial⟩
      · refine apo_ao rfl ?_
        refine ao_call [] 3 trivial (c_laws_toTavern (is_mk r4h)) Try.func8 rfl rfl rfl rfl ⟨ad_ren rfl, trivial⟩ trivial rfl rfl rfl rfl rfl rfl rfl (fun r' H' hr => ?_)
        obtain ⟨rfl, rfl⟩ := hr
        refine ao_norm (y := .st [.os 3, .int .i64 r4.2.1, .os 4, .int .i64 r4.2.2.2.1, .int .i64 r4.2.2.2.2.1, .int .i64 r4.2.2.2.2.2.1]) (H' := [(0, .var [.cell (.v (.slice (.arr 6 (.int .i64))) x0.1), .cell (.int .i64 x0.2.1), .cell (.v (.slice (.int .i64)) x0.2.2.1), .cell (.int .i64 x0.2.2.2.1), .cell (.int .i64 x0.2.2.2.2.1), .cell (.int .i64 x0.2.2.2.2.2.1)]), (1, .var [.cell (.int .i64 x1.1), .cell (.int .i64 x1.2.1), .cell (.int .i64 x1.2.2.1)]), (2, .var [.cell (.nilsl), .cell (.int .i64 0), .cell (.nilsl), .cell (.int .i64 0), .cell (.int .i64 0), .cell (.int .i64 0)]), (3, .row (.arr 6 (.int .i64)) r4.1), (4, .row (.int .i64) r4.2.2.1)]) rfl rfl ?_
        refine row_len_o 3 (r4.1.length : Int) rfl rfl (fun hr5 => ?_)
        refine row_len_o 4 (r4.2.2.1.length : Int) rfl rfl (fun hr6 => ?_)
        refine ap_ni ?_
        exact ap_gr idn (nk rfl) k19 (by kernel_rfl)
      · refine apo_ao rfl ?_
        refine ao_read trivial (r_load_part (τ := (.pair (.int .i64) (.pair (.int .i64) (.pair (.int .i64) .unit)))) (y := ((x1.1, (x1.2.1, (x1.2.2.1, ()))) : (Int × (Int × (Int × Unit))))) [] [] rfl Try.isAgg27 Try.sizeOf27 rfl rfl rfl rfl) rfl ?_
        refine ap_ni ?_
        exact ap_gr idn (nk rfl) k21 (by kernel_rfl)
    refine ap_let (g := 9) (listed := #[false, false, true, false, false, false, false, false, true, false, false]) [(2, .ref 0 0), (3, .ref 1 0), (6, .ref 2 0), (24, .v (.pair (.int .i64) (.pair (.int .i64) (.pair (.int .i64) .unit))) ((x1.1, (x1.2.1, (x1.2.2.1, ()))) : (Int × (Int × (Int × Unit)))))] [(0, .var [.cell (.v (.slice (.arr 6 (.int .i64))) x0.1), ci x0.2.1, .cell (.v (.slice (.int .i64)) x0.2.2.1), ci x0.2.2.2.1, ci x0.2.2.2.2.1, ci x0.2.2.2.2.2.1]), (1, .var [ci x1.1, ci x1.2.1, ci x1.2.2.1]), (2, .var [.cell (.nilsl), ci 0, .cell (.nilsl), ci 0, ci 0, ci 0])] ?_ (fun k24 => ?_)
    · refine ap_all [0] (by kernel_rfl) ⟨?_, trivial⟩
      refine apo_ao rfl ?_
      refine ao_read trivial (r_load_part (τ := (.pair (.slice (.arr 6 (.int .i64))) (.pair (.int .i64) (.pair (.slice (.int .i64)) (.pair (.int .i64) (.pair (.int .i64) (.pair (.int .i64) .unit))))))) (y := ((x0.1, (x0.2.1, (x0.2.2.1, (x0.2.2.2.1, (x0.2.2.2.2.1, (x0.2.2.2.2.2.1, ())))))) : ((List (List Int)) × (Int × ((List Int) × (Int × (Int × (Int × Unit)))))))) [] [] rfl Try.isAgg25 Try.sizeOf25 rfl rfl rfl rfl) rfl ?_
      refine ap_ni ?_
      exact ap_gr idn (nk rfl) k21 (by kernel_rfl)
    refine ap_let (g := 10) (listed := #[true, false, false, false, false, false, false, false, false, false, false]) [(2, .ref 0 0), (3, .ref 1 0), (22, .v (.pair (.slice (.arr 6 (.int .i64))) (.pair (.int .i64) (.pair (.slice (.int .i64)) (.pair (.int .i64) (.pair (.int .i64) (.pair (.int .i64) .unit)))))) ((x0.1, (x0.2.1, (x0.2.2.1, (x0.2.2.2.1, (x0.2.2.2.2.1, (x0.2.2.2.2.2.1, ())))))) : ((List (List Int)) × (Int × ((List Int) × (Int × (Int × (Int × Unit))))))))] [(0, .var [.cell (.v (.slice (.arr 6 (.int .i64))) x0.1), ci x0.2.1, .cell (.v (.slice (.int .i64)) x0.2.2.1), ci x0.2.2.2.1, ci x0.2.2.2.2.1, ci x0.2.2.2.2.2.1]), (1, .var [ci x1.1, ci x1.2.1, ci x1.2.2.1])] ?_ (fun k11 => ?_)
    · refine ap_all [1, 2, 8] (by kernel_rfl) ⟨?_, ?_, ?_, trivial⟩
      · refine apo_ao rfl ?_
        refine ao_call [] 2 trivial (c_laws_toTavern (is_mk r4h)) Try.func8 rfl rfl rfl rfl ⟨ad_ren rfl, trivial⟩ trivial rfl rfl rfl rfl rfl rfl rfl (fun r' H' hr => ?_)
        obtain ⟨rfl, rfl⟩ := hr
        refine ao_norm (y := .st [.os 2, .int .i64 r4.2.1, .os 3, .int .i64 r4.2.2.2.1, .int .i64 r4.2.2.2.2.1, .int .i64 r4.2.2.2.2.2.1]) (H' := [(0, .var [.cell (.v (.slice (.arr 6 (.int .i64))) x0.1), .cell (.int .i64 x0.2.1), .cell (.v (.slice (.int .i64)) x0.2.2.1), .cell (.int .i64 x0.2.2.2.1), .cell (.int .i64 x0.2.2.2.2.1), .cell (.int .i64 x0.2.2.2.2.2.1)]), (1, .var [.cell (.int .i64 x1.1), .cell (.int .i64 x1.2.1), .cell (.int .i64 x1.2.2.1)]), (2, .row (.arr 6 (.int .i64)) r4.1), (3, .row (.int .i64) r4.2.2.1)]) rfl rfl ?_
        refine row_len_o 2 (r4.1.length : Int) rfl rfl (fun hr5 => ?_)
        refine row_len_o 3 (r4.2.2.1.length : Int) rfl rfl (fun hr6 => ?_)
        refine ap_ni ?_
        exact ap_gr idn (nk rfl) k12 (by kernel_rfl)
      · refine apo_ao rfl ?_
        refine ao_read trivial (r_load_part (τ := (.pair (.int .i64) (.pair (.int .i64) (.pair (.int .i64) .unit)))) (y := ((x1.1, (x1.2.1, (x1.2.2.1, ()))) : (Int × (Int × (Int × Unit))))) [] [] rfl Try.isAgg27 Try.sizeOf27 rfl rfl rfl rfl) rfl ?_
        refine ap_ni ?_
        exact ap_gr idn (nk rfl) k20 (by kernel_rfl)
      · refine apo_ao rfl ?_
        refine ao_eff trivial (e_alloc 2 (y := .st [.nilsl, .int .i64 0, .nilsl, .int .i64 0, .int .i64 0, .int .i64 0]) Try.zeroValue29 (fun ρ h M => ra_zero_st (t := (.pair (.slice (.arr 6 (.int .i64))) (.pair (.int .i64) (.pair (.slice (.int .i64)) (.pair (.int .i64) (.pair (.int .i64) (.pair (.int .i64) .unit))))))) rfl rfl rfl) rfl rfl rfl rfl rfl) rfl ?_
        refine ap_ni ?_
        exact ap_gr idn (nk rfl) k22 (by kernel_rfl)
    refine ap_let (g := 10) (listed := #[false, false, true, false, false, false, false, false, false, false, false]) [(2, .ref 0 0), (3, .ref 1 0), (24, .v (.pair (.int .i64) (.pair (.int .i64) (.pair (.int .i64) .unit))) ((x1.1, (x1.2.1, (x1.2.2.1, ()))) : (Int × (Int × (Int × Unit)))))] [(0, .var [.cell (.v (.slice (.arr 6 (.int .i64))) x0.1), ci x0.2.1, .cell (.v (.slice (.int .i64)) x0.2.2.1), ci x0.2.2.2.1, ci x0.2.2.2.2.1, ci x0.2.2.2.2.2.1]), (1, .var [ci x1.1, ci x1.2.1, ci x1.2.2.1])] ?_ (fun k23 => ?_)
    · refine ap_all [0, 8] (by kernel_rfl) ⟨?_, ?_, trivial⟩
      · refine apo_ao rfl ?_
        refine ao_read trivial (r_load_part (τ := (.pair (.slice (.arr 6 (.int .i64))) (.pair (.int .i64) (.pair (.slice (.int .i64)) (.pair (.int .i64) (.pair (.int .i64) (.pair (.int .i64) .unit))))))) (y := ((x0.1, (x0.2.1, (x0.2.2.1, (x0.2.2.2.1, (x0.2.2.2.2.1, (x0.2.2.2.2.2.1, ())))))) : ((List (List Int)) × (Int × ((List Int) × (Int × (Int × (Int × Unit)))))))) [] [] rfl Try.isAgg25 Try.sizeOf25 rfl rfl rfl rfl) rfl ?_
        refine ap_ni ?_
        exact ap_gr idn (nk rfl) k20 (by kernel_rfl)
      · refine apo_ao rfl ?_
        refine ao_eff trivial (e_alloc 2 (y := .st [.nilsl, .int .i64 0, .nilsl, .int .i64 0, .int .i64 0, .int .i64 0]) Try.zeroValue29 (fun ρ h M => ra_zero_st (t := (.pair (.slice (.arr 6 (.int .i64))) (.pair (.int .i64) (.pair (.slice (.int .i64)) (.pair (.int .i64) (.pair (.int .i64) (.pair (.int .i64) .unit))))))) rfl rfl rfl) rfl rfl rfl rfl rfl) rfl ?_
        refine ap_ni ?_
        exact ap_gr idn (nk rfl) k24 (by kernel_rfl)
    refine ap_let (g := 10) (listed := #[false, false, false, false, false, false, false, false, true, false, false]) [(2, .ref 0 0), (3, .ref 1 0), (6, .ref 2 0)] [(0, .var [.cell (.v (.slice (.arr 6 (.int .i64))) x0.1), ci x0.2.1, .cell (.v (.slice (.int .i64)) x0.2.2.1), ci x0.2.2.2.1, ci x0.2.2.2.2.1, ci x0.2.2.2.2.2.1]), (1, .var [ci x1.1, ci x1.2.1, ci x1.2.2.1]), (2, .var [.cell (.nilsl), ci 0, .cell (.nilsl), ci 0, ci 0, ci 0])] ?_ (fun k25 => ?_)
    · refine ap_all [0, 2] (by kernel_rfl) ⟨?_, ?_, trivial⟩
      · refine apo_ao rfl ?_
        refine ao_read trivial (r_load_part (τ := (.pair (.slice (.arr 6 (.int .i64))) (.pair (.int .i64) (.pair (.slice (.int .i64)) (.pair (.int .i64) (.pair (.int .i64) (.pair (.int .i64) .unit))))))) (y := ((x0.1, (x0.2.1, (x0.2.2.1, (x0.2.2.2.1, (x0.2.2.2.2.1, (x0.2.2.2.2.2.1, ())))))) : ((List (List Int)) × (Int × ((List Int) × (Int × (Int × (Int × Unit)))))))) [] [] rfl Try.isAgg25 Try.sizeOf25 rfl rfl rfl rfl) rfl ?_
        refine ap_ni ?_
        exact ap_gr idn (nk rfl) k22 (by kernel_rfl)
      · refine apo_ao rfl ?_
        refine ao_read trivial (r_load_part (τ := (.pair (.int .i64) (.pair (.int .i64) (.pair (.int .i64) .unit)))) (y := ((x1.1, (x1.2.1, (x1.2.2.1, ()))) : (Int × (Int × (Int × Unit))))) [] [] rfl Try.isAgg27 Try.sizeOf27 rfl rfl rfl rfl) rfl ?_
        refine ap_ni ?_
        exact ap_gr idn (nk rfl) k24 (by kernel_rfl)
    refine ap_let (g := 11) (listed := #[false, false, false, false, false, false, false, false, false, false, false]) [(2, .ref 0 0), (3, .ref 1 0)] [(0, .var [.cell (.v (.slice (.arr 6 (.int .i64))) x0.1), ci x0.2.1, .cell (.v (.slice (.int .i64)) x0.2.2.1), ci x0.2.2.2.1, ci x0.2.2.2.2.1, ci x0.2.2.2.2.2.1]), (1, .var [ci x1.1, ci x1.2.1, ci x1.2.2.1])] ?_ (fun k10 => ?_)
    · refine ap_all [0, 2, 8] (by kernel_rfl) ⟨?_, ?_, ?_, trivial⟩
      · refine apo_ao rfl ?_
        refine ao_read trivial (r_load_part (τ := (.pair (.slice (.arr 6 (.int .i64))) (.pair (.int .i64) (.pair (.slice (.int .i64)) (.pair (.int .i64) (.pair (.int .i64) (.pair (.int .i64) .unit))))))) (y := ((x0.1, (x0.2.1, (x0.2.2.1, (x0.2.2.2.1, (x0.2.2.2.2.1, (x0.2.2.2.2.2.1, ())))))) : ((List (List Int)) × (Int × ((List Int) × (Int × (Int × (Int × Unit)))))))) [] [] rfl Try.isAgg25 Try.sizeOf25 rfl rfl rfl rfl) rfl ?_
        refine ap_ni ?_
        exact ap_gr idn (nk rfl) k11 (by kernel_rfl)
      · refine apo_ao rfl ?_
        refine ao_read trivial (r_load_part (τ := (.pair (.int .i64) (.pair (.int .i64) (.pair (.int .i64) .unit)))) (y := ((x1.1, (x1.2.1, (x1.2.2.1, ()))) : (Int × (Int × (Int × Unit))))) [] [] rfl Try.isAgg27 Try.sizeOf27 rfl rfl rfl rfl) rfl ?_
        refine ap_ni ?_
        exact ap_gr idn (nk rfl) k23 (by kernel_rfl)
      · refine apo_ao rfl ?_
        refine ao_eff trivial (e_alloc 2 (y := .st [.nilsl, .int .i64 0, .nilsl, .int .i64 0, .int .i64 0, .int .i64 0]) Try.zeroValue29 (fun ρ h M => ra_zero_st (t := (.pair (.slice (.arr 6 (.int .i64))) (.pair (.int .i64) (.pair (.slice (.int .i64)) (.pair (.int .i64) (.pair (.int .i64) (.pair (.int .i64) .unit))))))) rfl rfl rfl) rfl rfl rfl rfl rfl) rfl ?_
        refine ap_ni ?_
        exact ap_gr idn (nk rfl) k25 (by kernel_rfl)
    exact ap_gr idn (nk rfl) k10 (by kernel_rfl)
end Go.GA
