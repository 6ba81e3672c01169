/- Walks: what the Go functions compute, by the printed lines below. -/
import Derived.Test.YtjffjghllmpfmaaC12w
namespace Go.GA
open Go Go.Proofs
set_option maxRecDepth 100000
set_option linter.unusedVariables false
theorem c_spec_NewTavern {x0 : (List (List Int))} {x1 : Int} {r : ((List (List Int)) × (Int × ((List Int) × (Int × (Int × (Int × Unit)))))) × Bool} (h : Is (p_spec_NewTavern x0 x1) (some r)) :
    ACalls Try.prog 22 [.v (.slice (.arr 6 (.int .i64))) x0, .int .i64 x1] [] (fun r' H' => r' = .tup [.st [.os 0, .int .i64 r.1.2.1, .os 1, .int .i64 r.1.2.2.2.1, .int .i64 r.1.2.2.2.2.1, .int .i64 r.1.2.2.2.2.2.1], .bool r.2] ∧ H' = [(0, .row (.arr 6 (.int .i64)) r.1.1), (1, .row (.int .i64) r.1.2.2.1)]) := by
  unfold p_spec_NewTavern at h
  refine ac_enter ⟨16, 0⟩ Try.func22 rfl rfl rfl rfl rfl (fun Γ => ?_)
  refine sl_len_m 0 (x0.length : Int) rfl rfl (fun hl0 => ?_)
  refine aw_seq ?_
  refine aw_region ?_
  refine ao_eff trivial (e_alloc 0 (y := .st [.nilsl, .int .i64 0, .nilsl, .int .i64 0, .int .i64 0, .int .i64 0]) Try.zeroValue35 (fun ρ h M => ra_zero_st (t := (.pair (.slice (.arr 6 (.int .i64))) (.pair (.int .i64) (.pair (.slice (.int .i64)) (.pair (.int .i64) (.pair (.int .i64) (.pair (.int .i64) .unit))))))) rfl rfl rfl) rfl rfl rfl rfl rfl) rfl ?_
  refine ao_read trivial (r_assign rfl) rfl ?_
  refine ao_nil ?_
  refine aq_then ?_
  refine aw_seq ?_
  refine aw_region ?_
  refine ao_read trivial (r_move rfl) rfl ?_
  refine ao_read trivial (r_move rfl) rfl ?_
  refine ao_read trivial (r_build_st (l := [(0, .tmp 7), (1, .tmp 8)]) (cs := [.cell (.v (.slice (.arr 6 (.int .i64))) x0), .cell (.int .i64 x1), .cell (.nilsl), .cell (.int .i64 0), .cell (.int .i64 0), .cell (.int .i64 0)]) (.pair (.slice (.arr 6 (.int .i64))) (.pair (.int .i64) (.pair (.slice (.int .i64)) (.pair (.int .i64) (.pair (.int .i64) (.pair (.int .i64) .unit)))))) [(0, 1), (1, 1), (2, 1), (3, 1), (4, 1), (5, 1)] Try.underlying35 Try.zeroValue35 rfl ⟨rfl, Try.sizeOf29, rfl, Try.sizeOf3, rfl, Try.sizeOf30, rfl, Try.sizeOf3, rfl, Try.sizeOf3, rfl, Try.sizeOf3, trivial⟩ rfl rfl rfl) rfl ?_
  refine ao_eff trivial (e_alloc 1 (y := .st [.nilsl, .int .i64 0, .nilsl, .int .i64 0, .int .i64 0, .int .i64 0]) Try.zeroValue35 (fun ρ h M => ra_zero_st (t := (.pair (.slice (.arr 6 (.int .i64))) (.pair (.int .i64) (.pair (.slice (.int .i64)) (.pair (.int .i64) (.pair (.int .i64) (.pair (.int .i64) .unit))))))) rfl rfl rfl) rfl rfl rfl rfl rfl) rfl ?_
  refine ao_effS trivial (e_store rfl rfl rfl rfl Try.sizeOf35 rfl) ?_
  refine ao_nil ?_
  refine aq_then ?_
  refine aw_seq ?_
  refine aw_seq ?_
  refine aw_region ?_
  refine ao_read trivial (r_load_st [] [.cell (.v (.slice (.arr 6 (.int .i64))) x0), .cell (.int .i64 x1), .cell (.nilsl), .cell (.int .i64 0), .cell (.int .i64 0), .cell (.int .i64 0)] [] Try.isAgg35 Try.sizeOf35 rfl rfl rfl rfl rfl rfl rfl) rfl ?_
  obtain ⟨r1, r1h, h⟩ := is_bind h
  refine ao_scall trivial (scall (c_spec_l12Good (is_mk r1h)) rfl Try.func47 rfl rfl rfl rfl (fun σ => ⟨ad_st rfl rfl ⟨ad_ren rfl, ad_ren rfl, ad_nil, ad_ren rfl, ad_ren rfl, ad_ren rfl, trivial⟩, trivial⟩)) rfl ?_
  refine ao_read trivial (r_not rfl) rfl ?_
  refine ao_nil ?_
  refine aq_then ?_
  refine aw_cond rfl (fun hb2 => ?_) (fun hb2 => ?_)
  · replace h := is_else (ne_t (not_t hb2)) h
    refine aw_seq ?_
    refine aw_region ?_
    refine ao_read trivial (r_build_st (l := []) (cs := [.cell (.nilsl), .cell (.int .i64 0), .cell (.nilsl), .cell (.int .i64 0), .cell (.int .i64 0), .cell (.int .i64 0)]) (.pair (.slice (.arr 6 (.int .i64))) (.pair (.int .i64) (.pair (.slice (.int .i64)) (.pair (.int .i64) (.pair (.int .i64) (.pair (.int .i64) .unit)))))) [(0, 1), (1, 1), (2, 1), (3, 1), (4, 1), (5, 1)] Try.underlying35 Try.zeroValue35 rfl ⟨rfl, Try.sizeOf29, rfl, Try.sizeOf3, rfl, Try.sizeOf30, rfl, Try.sizeOf3, rfl, Try.sizeOf3, rfl, Try.sizeOf3, trivial⟩ rfl rfl rfl) rfl ?_
    refine ao_effS trivial (e_store rfl rfl rfl rfl Try.sizeOf35 rfl) ?_
    refine ao_read trivial (r_assign rfl) rfl ?_
    refine ao_nil ?_
    refine aq_then ?_
    refine aw_ret ?_
    refine aq_then_ret ?_
    refine aq_ret ?_
    obtain rfl := is_some h
    refine AQ.sub (sub_nil_cell (t := (.arr 6 (.int .i64))) (i := 0) 2 [] [.cell (.int .i64 0), .cell (.nilsl), .cell (.int .i64 0), .cell (.int .i64 0), .cell (.int .i64 0)] rfl rfl rfl) ?_
    refine AQ.sub (sub_nil_cell (t := (.int .i64)) (i := 0) 3 [.cell (.os 2), .cell (.int .i64 0)] [.cell (.int .i64 0), .cell (.int .i64 0), .cell (.int .i64 0)] rfl rfl rfl) ?_
    exact aq_finx (l := [.cell 4 35, .tmp 5]) (xs := [.st [.os 2, .int .i64 0, .os 3, .int .i64 0, .int .i64 0, .int .i64 0], .bool false]) (rn [(0, 2), (1, 3)]) [.st [.os 0, .int .i64 0, .os 1, .int .i64 0, .int .i64 0, .int .i64 0], .bool false] [(0, .row (.arr 6 (.int .i64)) ([] : (List (List Int)))), (1, .row (.int .i64) ([] : (List Int)))] rfl (by exact ⟨⟨⟨_, _, rfl⟩, r_load_st [] [.cell (.os 2), .cell (.int .i64 0), .cell (.os 3), .cell (.int .i64 0), .cell (.int .i64 0), .cell (.int .i64 0)] [] Try.isAgg35 Try.sizeOf35 rfl rfl rfl rfl rfl rfl rfl⟩, rfl, trivial⟩) (by exact ⟨ad_ren rfl, ad_ren rfl, trivial⟩) (by exact ⟨⟨_, rfl, rfl⟩, ⟨_, rfl, rfl⟩, trivial⟩) rfl (nk rfl) rfl rfl ⟨rfl, rfl⟩
  · replace h := is_if (not_f hb2) h
    refine aw_skip ?_
    refine aq_then ?_
    refine aw_seq ?_
    refine aw_region ?_
    refine ao_read trivial (r_load_st [] [.cell (.v (.slice (.arr 6 (.int .i64))) x0), .cell (.int .i64 x1), .cell (.nilsl), .cell (.int .i64 0), .cell (.int .i64 0), .cell (.int .i64 0)] [] Try.isAgg35 Try.sizeOf35 rfl rfl rfl rfl rfl rfl rfl) rfl ?_
    obtain ⟨r3, r3h, h⟩ := is_bind h
    refine ao_call [] 4 trivial (c_spec_l12Own (is_mk r3h)) Try.func55 rfl rfl rfl rfl ⟨ad_st rfl rfl ⟨ad_ren rfl, ad_ren rfl, ad_nil, ad_ren rfl, ad_ren rfl, ad_ren rfl, trivial⟩, trivial⟩ trivial rfl rfl rfl rfl rfl rfl rfl (fun r' H' hr => ?_)
    obtain ⟨rfl, rfl⟩ := hr
    refine ao_norm (y := .st [.os 4, .int .i64 r3.2.1, .os 5, .int .i64 r3.2.2.2.1, .int .i64 r3.2.2.2.2.1, .int .i64 r3.2.2.2.2.2.1]) (H' := [(1, .var [.cell (.v (.slice (.arr 6 (.int .i64))) x0), .cell (.int .i64 x1), .cell (.nilsl), .cell (.int .i64 0), .cell (.int .i64 0), .cell (.int .i64 0)]), (0, .var [.cell (.nilsl), .cell (.int .i64 0), .cell (.nilsl), .cell (.int .i64 0), .cell (.int .i64 0), .cell (.int .i64 0)]), (4, .row (.arr 6 (.int .i64)) r3.1), (5, .row (.int .i64) r3.2.2.1)]) rfl rfl ?_
    refine row_len_o 4 (r3.1.length : Int) rfl rfl (fun hr4 => ?_)
    refine row_len_o 5 (r3.2.2.1.length : Int) rfl rfl (fun hr5 => ?_)
    refine ao_effS trivial (e_store rfl rfl rfl rfl Try.sizeOf35 rfl) ?_
    refine ao_read trivial (r_assign rfl) rfl ?_
    refine ao_nil ?_
    refine aq_then ?_
    refine aw_ret ?_
    refine aq_ret ?_
    obtain rfl := is_some h
    exact aq_finx (l := [.cell 4 35, .tmp 5]) (xs := [.st [.os 4, .int .i64 r3.2.1, .os 5, .int .i64 r3.2.2.2.1, .int .i64 r3.2.2.2.2.1, .int .i64 r3.2.2.2.2.2.1], .bool true]) (rn [(0, 4), (1, 5)]) [.st [.os 0, .int .i64 r3.2.1, .os 1, .int .i64 r3.2.2.2.1, .int .i64 r3.2.2.2.2.1, .int .i64 r3.2.2.2.2.2.1], .bool true] [(0, .row (.arr 6 (.int .i64)) r3.1), (1, .row (.int .i64) r3.2.2.1)] rfl (by exact ⟨⟨⟨_, _, rfl⟩, r_load_st [] [.cell (.os 4), .cell (.int .i64 r3.2.1), .cell (.os 5), .cell (.int .i64 r3.2.2.2.1), .cell (.int .i64 r3.2.2.2.2.1), .cell (.int .i64 r3.2.2.2.2.2.1)] [] Try.isAgg35 Try.sizeOf35 rfl rfl rfl rfl rfl rfl rfl⟩, rfl, trivial⟩) (by exact ⟨ad_ren rfl, ad_ren rfl, trivial⟩) (by exact ⟨⟨_, rfl, rfl⟩, ⟨_, rfl, rfl⟩, trivial⟩) rfl (nk rfl) rfl rfl ⟨rfl, rfl⟩
theorem c_impl_NewTavern {fu : Nat} {x0 : (List (List Int))} {x1 : Int} {r : ((List (List Int)) × (Int × ((List Int) × (Int × (Int × (Int × Unit)))))) × Bool} (h : Is (p_impl_NewTavern fu x0 x1) (some r)) :
    ACalls Try.prog 24 [.v (.slice (.arr 6 (.int .i64))) x0, .int .i64 x1] [] (fun r' H' => r' = .tup [.st [.os 0, .int .i64 r.1.2.1, .os 1, .int .i64 r.1.2.2.2.1, .int .i64 r.1.2.2.2.2.1, .int .i64 r.1.2.2.2.2.2.1], .bool r.2] ∧ H' = [(0, .row (.arr 6 (.int .i64)) r.1.1), (1, .row (.int .i64) r.1.2.2.1)]) := by
  unfold p_impl_NewTavern at h
  refine ac_enter ⟨16, 0⟩ Try.func24 rfl rfl rfl rfl rfl (fun Γ => ?_)
  refine sl_len_m 0 (x0.length : Int) rfl rfl (fun hl0 => ?_)
  refine aw_seq ?_
  refine aw_region ?_
  refine ao_eff trivial (e_alloc 0 (y := .st [.nilsl, .int .i64 0, .nilsl, .int .i64 0, .int .i64 0, .int .i64 0]) Try.zeroValue35 (fun ρ h M => ra_zero_st (t := (.pair (.slice (.arr 6 (.int .i64))) (.pair (.int .i64) (.pair (.slice (.int .i64)) (.pair (.int .i64) (.pair (.int .i64) (.pair (.int .i64) .unit))))))) rfl rfl rfl) rfl rfl rfl rfl rfl) rfl ?_
  refine ao_read trivial (r_assign rfl) rfl ?_
  refine ao_nil ?_
  refine aq_then ?_
  refine aw_seq ?_
  refine aw_region ?_
  refine ao_read trivial (r_move rfl) rfl ?_
  obtain ⟨r1, r1h, h⟩ := is_bind h
  refine ao_call [] 1 trivial (c_slices_Clone_6_int_6_int (is_mk r1h)) Try.func57 rfl rfl rfl rfl ⟨ad_ren rfl, trivial⟩ trivial rfl rfl rfl rfl rfl rfl rfl (fun r' H' hr => ?_)
  obtain ⟨rfl, rfl⟩ := hr
  refine ao_norm (y := .os 1) (H' := [(0, .var [.cell (.nilsl), .cell (.int .i64 0), .cell (.nilsl), .cell (.int .i64 0), .cell (.int .i64 0), .cell (.int .i64 0)]), (1, .row (.arr 6 (.int .i64)) r1)]) rfl rfl ?_
  refine row_len_o 1 (r1.length : Int) rfl rfl (fun hr2 => ?_)
  refine ao_read trivial (r_move rfl) rfl ?_
  refine ao_read trivial (r_build_st (l := [(0, .tmp 8), (1, .tmp 9)]) (cs := [.cell (.os 1), .cell (.int .i64 x1), .cell (.nilsl), .cell (.int .i64 0), .cell (.int .i64 0), .cell (.int .i64 0)]) (.pair (.slice (.arr 6 (.int .i64))) (.pair (.int .i64) (.pair (.slice (.int .i64)) (.pair (.int .i64) (.pair (.int .i64) (.pair (.int .i64) .unit)))))) [(0, 1), (1, 1), (2, 1), (3, 1), (4, 1), (5, 1)] Try.underlying35 Try.zeroValue35 rfl ⟨rfl, Try.sizeOf29, rfl, Try.sizeOf3, rfl, Try.sizeOf30, rfl, Try.sizeOf3, rfl, Try.sizeOf3, rfl, Try.sizeOf3, trivial⟩ rfl rfl rfl) rfl ?_
  refine ao_eff trivial (e_alloc 2 (y := .st [.nilsl, .int .i64 0, .nilsl, .int .i64 0, .int .i64 0, .int .i64 0]) Try.zeroValue35 (fun ρ h M => ra_zero_st (t := (.pair (.slice (.arr 6 (.int .i64))) (.pair (.int .i64) (.pair (.slice (.int .i64)) (.pair (.int .i64) (.pair (.int .i64) (.pair (.int .i64) .unit))))))) rfl rfl rfl) rfl rfl rfl rfl rfl) rfl ?_
  refine ao_effS trivial (e_store rfl rfl rfl rfl Try.sizeOf35 rfl) ?_
  refine ao_nil ?_
  refine aq_then ?_
  refine aw_seq ?_
  refine aw_seq ?_
  refine aw_region ?_
  refine ao_read trivial (r_load_st [] [.cell (.os 1), .cell (.int .i64 x1), .cell (.nilsl), .cell (.int .i64 0), .cell (.int .i64 0), .cell (.int .i64 0)] [] Try.isAgg35 Try.sizeOf35 rfl rfl rfl rfl rfl rfl rfl) rfl ?_
  obtain ⟨r3, r3h, h⟩ := is_bind h
  refine ao_scall trivial (scall (c_impl_IsTavern (is_mk r3h)) rfl Try.func17 rfl rfl rfl rfl (fun σ => ⟨ad_st rfl rfl ⟨ad_os0 rfl, ad_ren rfl, ad_nil, ad_ren rfl, ad_ren rfl, ad_ren rfl, trivial⟩, trivial⟩)) rfl ?_
  refine ao_read trivial (r_not rfl) rfl ?_
  refine ao_nil ?_
  refine aq_then ?_
  refine aw_cond rfl (fun hb4 => ?_) (fun hb4 => ?_)
  · replace h := is_else (ne_t (not_t hb4)) h
    refine aw_seq ?_
    refine aw_region ?_
    refine ao_read trivial (r_build_st (l := []) (cs := [.cell (.nilsl), .cell (.int .i64 0), .cell (.nilsl), .cell (.int .i64 0), .cell (.int .i64 0), .cell (.int .i64 0)]) (.pair (.slice (.arr 6 (.int .i64))) (.pair (.int .i64) (.pair (.slice (.int .i64)) (.pair (.int .i64) (.pair (.int .i64) (.pair (.int .i64) .unit)))))) [(0, 1), (1, 1), (2, 1), (3, 1), (4, 1), (5, 1)] Try.underlying35 Try.zeroValue35 rfl ⟨rfl, Try.sizeOf29, rfl, Try.sizeOf3, rfl, Try.sizeOf30, rfl, Try.sizeOf3, rfl, Try.sizeOf3, rfl, Try.sizeOf3, trivial⟩ rfl rfl rfl) rfl ?_
    refine ao_effS trivial (e_store rfl rfl rfl rfl Try.sizeOf35 rfl) ?_
    refine ao_read trivial (r_assign rfl) rfl ?_
    refine ao_nil ?_
    refine aq_then ?_
    refine aw_ret ?_
    refine aq_then_ret ?_
    refine aq_ret ?_
    obtain rfl := is_some h
    refine AQ.sub (sub_nil_cell (t := (.arr 6 (.int .i64))) (i := 0) 3 [] [.cell (.int .i64 0), .cell (.nilsl), .cell (.int .i64 0), .cell (.int .i64 0), .cell (.int .i64 0)] rfl rfl rfl) ?_
    refine AQ.sub (sub_nil_cell (t := (.int .i64)) (i := 0) 4 [.cell (.os 3), .cell (.int .i64 0)] [.cell (.int .i64 0), .cell (.int .i64 0), .cell (.int .i64 0)] rfl rfl rfl) ?_
    exact aq_finx (l := [.cell 4 35, .tmp 5]) (xs := [.st [.os 3, .int .i64 0, .os 4, .int .i64 0, .int .i64 0, .int .i64 0], .bool false]) (rn [(0, 3), (1, 4)]) [.st [.os 0, .int .i64 0, .os 1, .int .i64 0, .int .i64 0, .int .i64 0], .bool false] [(0, .row (.arr 6 (.int .i64)) ([] : (List (List Int)))), (1, .row (.int .i64) ([] : (List Int)))] rfl (by exact ⟨⟨⟨_, _, rfl⟩, r_load_st [] [.cell (.os 3), .cell (.int .i64 0), .cell (.os 4), .cell (.int .i64 0), .cell (.int .i64 0), .cell (.int .i64 0)] [] Try.isAgg35 Try.sizeOf35 rfl rfl rfl rfl rfl rfl rfl⟩, rfl, trivial⟩) (by exact ⟨ad_ren rfl, ad_ren rfl, trivial⟩) (by exact ⟨⟨_, rfl, rfl⟩, ⟨_, rfl, rfl⟩, trivial⟩) rfl (nk rfl) rfl rfl ⟨rfl, rfl⟩
  · replace h := is_if (not_f hb4) h
    refine aw_skip ?_
    refine aq_then ?_
    refine aw_seq ?_
    refine aw_region ?_
    refine ao_read trivial (r_load_st [] [.cell (.os 1), .cell (.int .i64 x1), .cell (.nilsl), .cell (.int .i64 0), .cell (.int .i64 0), .cell (.int .i64 0)] [] Try.isAgg35 Try.sizeOf35 rfl rfl rfl rfl rfl rfl rfl) rfl ?_
    refine ao_effS trivial (e_store rfl rfl rfl rfl Try.sizeOf35 rfl) ?_
    refine ao_read trivial (r_assign rfl) rfl ?_
    refine ao_nil ?_
    refine aq_then ?_
    refine aw_ret ?_
    refine aq_ret ?_
    obtain rfl := is_some h
    refine AQ.sub (sub_nil_cell (t := (.int .i64)) (i := 0) 5 [.cell (.os 1), .cell (.int .i64 x1)] [.cell (.int .i64 0), .cell (.int .i64 0), .cell (.int .i64 0)] rfl rfl rfl) ?_
    exact aq_finx (l := [.cell 4 35, .tmp 5]) (xs := [.st [.os 1, .int .i64 x1, .os 5, .int .i64 0, .int .i64 0, .int .i64 0], .bool true]) (rn [(0, 1), (1, 5)]) [.st [.os 0, .int .i64 x1, .os 1, .int .i64 0, .int .i64 0, .int .i64 0], .bool true] [(0, .row (.arr 6 (.int .i64)) r1), (1, .row (.int .i64) ([] : (List Int)))] rfl (by exact ⟨⟨⟨_, _, rfl⟩, r_load_st [] [.cell (.os 1), .cell (.int .i64 x1), .cell (.os 5), .cell (.int .i64 0), .cell (.int .i64 0), .cell (.int .i64 0)] [] Try.isAgg35 Try.sizeOf35 rfl rfl rfl rfl rfl rfl rfl⟩, rfl, trivial⟩) (by exact ⟨ad_ren rfl, ad_ren rfl, trivial⟩) (by exact ⟨⟨_, rfl, rfl⟩, ⟨_, rfl, rfl⟩, trivial⟩) rfl (nk rfl) rfl rfl ⟨rfl, rfl⟩
theorem c_laws_FnExactNewTavern {fu : Nat} {x0 : (List (List Int))} {x1 : Int} {r : Bool} (h : Is (p_laws_FnExactNewTavern fu x0 x1) (some r)) :
    Scalar Try.prog 6 [.v (.slice (.arr 6 (.int .i64))) x0, .int .i64 x1] (.bool r) := by
  unfold p_laws_FnExactNewTavern at h
  refine ac_enter ⟨101, 0⟩ Try.func6 rfl rfl rfl rfl rfl (fun Γ => ?_)
  refine sl_len_m 0 (x0.length : Int) rfl rfl (fun hl0 => ?_)
  refine aw_seq ?_
  refine aw_region ?_
  refine ao_read trivial (r_assign rfl) rfl ?_
  refine ao_nil ?_
  refine aq_then ?_
  refine aw_seq ?_
  refine aw_region ?_
  refine ao_read trivial (r_assign rfl) rfl ?_
  refine ao_nil ?_
  refine aq_then ?_
  refine aw_seq ?_
  refine aw_region ?_
  refine ao_read trivial (r_move rfl) rfl ?_
  refine ao_read trivial (r_move rfl) rfl ?_
  refine ao_scall trivial (scall (c_laws_szIntA6S (is_mk (rfl : p_laws_szIntA6S x0 1048576 = _))) rfl Try.func21 rfl rfl rfl rfl (fun σ => ⟨ad_ren rfl, ad_ren rfl, trivial⟩)) rfl ?_
  refine ao_read trivial (r_assign rfl) rfl ?_
  refine ao_nil ?_
  refine aq_then ?_
  refine aw_seq ?_
  refine aw_seq ?_
  refine aw_region ?_
  refine ao_read trivial (r_move rfl) rfl ?_
  refine ao_read trivial (r_lss rfl rfl) rfl ?_
  refine ao_nil ?_
  refine aq_then ?_
  refine aw_cond rfl (fun hb1 => ?_) (fun hb1 => ?_)
  · have q2 := d_t hb1
    replace h := is_if (d_t hb1) h
    refine aw_seq ?_
    refine aw_region ?_
    refine ao_read trivial (r_assign rfl) rfl ?_
    refine ao_nil ?_
    refine aq_then ?_
    refine aw_ret ?_
    refine aq_then_ret ?_
    refine aq_ret ?_
    obtain rfl := is_some h
    exact aq_finx (l := [.tmp 4]) (xs := [.bool true]) idn [.bool true] [] rfl (by exact ⟨rfl, trivial⟩) (by exact ⟨ad_ren rfl, trivial⟩) (by exact trivial) rfl (nk rfl) rfl rfl ⟨rfl, rfl⟩
  · have q3 := d_f hb1
    replace h := is_else (d_f hb1) h
    refine aw_skip ?_
    refine aq_then ?_
    refine aw_seq ?_
    refine aw_region ?_
    refine ao_read trivial (r_move rfl) rfl ?_
    obtain ⟨r4, r4h, h⟩ := is_bind h
    refine ao_call [] 0 trivial (c_laws_toIntA6S (is_mk r4h)) Try.func23 rfl rfl rfl rfl ⟨ad_ren rfl, trivial⟩ trivial rfl rfl rfl rfl rfl rfl rfl (fun r' H' hr => ?_)
    obtain ⟨rfl, rfl⟩ := hr
    refine ao_norm (y := .os 0) (H' := [(0, .row (.arr 6 (.int .i64)) r4)]) rfl rfl ?_
    refine row_len_o 0 (r4.length : Int) rfl rfl (fun hr5 => ?_)
    refine ao_read trivial (r_move rfl) rfl ?_
    obtain ⟨r6, r6h, h⟩ := is_bind h
    refine ao_call [] 1 trivial (c_spec_NewTavern (is_mk r6h)) Try.func22 rfl rfl rfl rfl ⟨ad_os0 rfl, ad_ren rfl, trivial⟩ trivial rfl rfl rfl rfl rfl rfl rfl (fun r' H' hr => ?_)
    obtain ⟨rfl, rfl⟩ := hr
    refine ao_norm (y := .tup [.st [.os 1, .int .i64 r6.1.2.1, .os 2, .int .i64 r6.1.2.2.2.1, .int .i64 r6.1.2.2.2.2.1, .int .i64 r6.1.2.2.2.2.2.1], .bool r6.2]) (H' := [(0, .row (.arr 6 (.int .i64)) r4), (1, .row (.arr 6 (.int .i64)) r6.1.1), (2, .row (.int .i64) r6.1.2.2.1)]) rfl rfl ?_
    refine row_len_o 1 (r6.1.1.length : Int) rfl rfl (fun hr7 => ?_)
    refine row_len_o 2 (r6.1.2.2.1.length : Int) rfl rfl (fun hr8 => ?_)
    refine ao_read trivial (r_move rfl) rfl ?_
    refine ao_read trivial (r_extract rfl rfl) rfl ?_
    refine ao_read trivial (r_extract rfl rfl) rfl ?_
    refine ao_eff trivial (e_alloc 3 (y := .st [.nilsl, .int .i64 0, .nilsl, .int .i64 0, .int .i64 0, .int .i64 0]) Try.zeroValue35 (fun ρ h M => ra_zero_st (t := (.pair (.slice (.arr 6 (.int .i64))) (.pair (.int .i64) (.pair (.slice (.int .i64)) (.pair (.int .i64) (.pair (.int .i64) (.pair (.int .i64) .unit))))))) rfl rfl rfl) rfl rfl rfl rfl rfl) rfl ?_
    refine ao_effS trivial (e_store rfl rfl rfl rfl Try.sizeOf35 rfl) ?_
    refine ao_read trivial (r_assign rfl) rfl ?_
    refine ao_nil ?_
    refine aq_then ?_
    refine aw_seq ?_
    refine aw_region ?_
    refine ao_read trivial (r_move rfl) rfl ?_
    obtain ⟨r9, r9h, h⟩ := is_bind h
    refine ao_call [] 4 trivial (c_laws_toIntA6S (is_mk r9h)) Try.func23 rfl rfl rfl rfl ⟨ad_ren rfl, trivial⟩ trivial rfl rfl rfl rfl rfl rfl rfl (fun r' H' hr => ?_)
    obtain ⟨rfl, rfl⟩ := hr
    refine ao_norm (y := .os 4) (H' := [(3, .var [.cell (.os 1), .cell (.int .i64 r6.1.2.1), .cell (.os 2), .cell (.int .i64 r6.1.2.2.2.1), .cell (.int .i64 r6.1.2.2.2.2.1), .cell (.int .i64 r6.1.2.2.2.2.2.1)]), (0, .row (.arr 6 (.int .i64)) r4), (1, .row (.arr 6 (.int .i64)) r6.1.1), (2, .row (.int .i64) r6.1.2.2.1), (4, .row (.arr 6 (.int .i64)) r9)]) rfl rfl ?_
    refine row_len_o 4 (r9.length : Int) rfl rfl (fun hr10 => ?_)
    refine ao_read trivial (r_assign rfl) rfl ?_
    refine ao_nil ?_
    refine aq_then ?_
    refine aw_seq ?_
    refine aw_region ?_
    refine ao_read trivial (r_move rfl) rfl ?_
    refine ao_read trivial (r_move rfl) rfl ?_
    obtain ⟨r11, r11h, h⟩ := is_bind h
    refine ao_call [] 5 trivial (c_impl_NewTavern (is_mk r11h)) Try.func24 rfl rfl rfl rfl ⟨ad_os0 rfl, ad_ren rfl, trivial⟩ trivial rfl rfl rfl rfl rfl rfl rfl (fun r' H' hr => ?_)
    obtain ⟨rfl, rfl⟩ := hr
    refine ao_norm (y := .tup [.st [.os 5, .int .i64 r11.1.2.1, .os 6, .int .i64 r11.1.2.2.2.1, .int .i64 r11.1.2.2.2.2.1, .int .i64 r11.1.2.2.2.2.2.1], .bool r11.2]) (H' := [(3, .var [.cell (.os 1), .cell (.int .i64 r6.1.2.1), .cell (.os 2), .cell (.int .i64 r6.1.2.2.2.1), .cell (.int .i64 r6.1.2.2.2.2.1), .cell (.int .i64 r6.1.2.2.2.2.2.1)]), (0, .row (.arr 6 (.int .i64)) r4), (1, .row (.arr 6 (.int .i64)) r6.1.1), (2, .row (.int .i64) r6.1.2.2.1), (4, .row (.arr 6 (.int .i64)) r9), (5, .row (.arr 6 (.int .i64)) r11.1.1), (6, .row (.int .i64) r11.1.2.2.1)]) rfl rfl ?_
    refine row_len_o 5 (r11.1.1.length : Int) rfl rfl (fun hr12 => ?_)
    refine row_len_o 6 (r11.1.2.2.1.length : Int) rfl rfl (fun hr13 => ?_)
    refine ao_read trivial (r_move rfl) rfl ?_
    refine ao_read trivial (r_extract rfl rfl) rfl ?_
    refine ao_read trivial (r_extract rfl rfl) rfl ?_
    refine ao_eff trivial (e_alloc 7 (y := .st [.nilsl, .int .i64 0, .nilsl, .int .i64 0, .int .i64 0, .int .i64 0]) Try.zeroValue35 (fun ρ h M => ra_zero_st (t := (.pair (.slice (.arr 6 (.int .i64))) (.pair (.int .i64) (.pair (.slice (.int .i64)) (.pair (.int .i64) (.pair (.int .i64) (.pair (.int .i64) .unit))))))) rfl rfl rfl) rfl rfl rfl rfl rfl) rfl ?_
    refine ao_effS trivial (e_store rfl rfl rfl rfl Try.sizeOf35 rfl) ?_
    refine ao_read trivial (r_assign rfl) rfl ?_
    refine ao_nil ?_
    refine aq_then ?_
    refine aw_seq ?_
    refine aw_seq ?_
    refine aw_region ?_
    refine ao_read trivial (r_load_st [] [.cell (.os 5), .cell (.int .i64 r11.1.2.1), .cell (.os 6), .cell (.int .i64 r11.1.2.2.2.1), .cell (.int .i64 r11.1.2.2.2.2.1), .cell (.int .i64 r11.1.2.2.2.2.2.1)] [] Try.isAgg35 Try.sizeOf35 rfl rfl rfl rfl rfl rfl rfl) rfl ?_
    refine ao_read trivial (r_load_st [] [.cell (.os 1), .cell (.int .i64 r6.1.2.1), .cell (.os 2), .cell (.int .i64 r6.1.2.2.2.1), .cell (.int .i64 r6.1.2.2.2.2.1), .cell (.int .i64 r6.1.2.2.2.2.2.1)] [] Try.isAgg35 Try.sizeOf35 rfl rfl rfl rfl rfl rfl rfl) rfl ?_
    refine ao_scall trivial (scall (c_laws_eqTavern (is_mk (rfl : p_laws_eqTavern (r11.1.1, (r11.1.2.1, (r11.1.2.2.1, (r11.1.2.2.2.1, (r11.1.2.2.2.2.1, (r11.1.2.2.2.2.2.1, ())))))) (r6.1.1, (r6.1.2.1, (r6.1.2.2.1, (r6.1.2.2.2.1, (r6.1.2.2.2.2.1, (r6.1.2.2.2.2.2.1, ())))))) = _))) rfl Try.func18 rfl rfl rfl rfl (fun σ => ⟨ad_st rfl rfl ⟨ad_os0 rfl, ad_ren rfl, ad_os0 rfl, ad_ren rfl, ad_ren rfl, ad_ren rfl, trivial⟩, ad_st rfl rfl ⟨ad_os0 rfl, ad_ren rfl, ad_os0 rfl, ad_ren rfl, ad_ren rfl, ad_ren rfl, trivial⟩, trivial⟩)) rfl ?_
    refine ao_read trivial (r_not rfl) rfl ?_
    refine ao_read trivial (r_move rfl) rfl ?_
    refine ao_readG (x := .bool r11.2) rfl (GV.F rfl) (fun hg14 => r_move rfl) rfl ?_
    refine ao_readG (x := .bool r6.2) rfl (GV.F rfl) (fun hg15 => r_move rfl) rfl ?_
    refine ao_readG (x := .bool (r11.2 != r6.2)) rfl (GV.F rfl) (fun hg16 => Reads.strip 41 rfl (hg16) (Reads.strip 42 rfl (hg16) (r_neq_bool Try.underlying4 rfl rfl))) rfl ?_
    refine ao_read trivial (r_orB rfl rfl) rfl ?_
    refine ao_nil ?_
    refine aq_then ?_
    refine aw_cond rfl (fun hb17 => ?_) (fun hb17 => ?_)
    · replace h := is_if hb17 h
      refine aw_seq ?_
      refine aw_region ?_
      refine ao_read trivial (r_assign rfl) rfl ?_
      refine ao_nil ?_
      refine aq_then ?_
      refine aw_ret ?_
      refine aq_then_ret ?_
      refine aq_ret ?_
      obtain rfl := is_some h
      exact aq_finx (l := [.tmp 4]) (xs := [.bool false]) idn [.bool false] [] rfl (by exact ⟨rfl, trivial⟩) (by exact ⟨ad_ren rfl, trivial⟩) (by exact trivial) rfl (nk rfl) rfl rfl ⟨rfl, rfl⟩
    · obtain ⟨q18, q19⟩ := or_f hb17
      replace h := is_else (ne_t hb17) h
      refine aw_skip ?_
      refine aq_then ?_
      refine aw_seq ?_
      refine aw_seq ?_
      refine aw_region ?_
      refine ao_read trivial (r_move rfl) rfl ?_
      refine ao_read trivial (r_move rfl) rfl ?_
      obtain ⟨r20, r20h, h⟩ := is_bind h
      refine ao_call [] 8 trivial (c_laws_toIntA6S (is_mk r20h)) Try.func23 rfl rfl rfl rfl ⟨ad_ren rfl, trivial⟩ trivial rfl rfl rfl rfl rfl rfl rfl (fun r' H' hr => ?_)
      obtain ⟨rfl, rfl⟩ := hr
      refine ao_norm (y := .os 8) (H' := [(7, .var [.cell (.os 5), .cell (.int .i64 r11.1.2.1), .cell (.os 6), .cell (.int .i64 r11.1.2.2.2.1), .cell (.int .i64 r11.1.2.2.2.2.1), .cell (.int .i64 r11.1.2.2.2.2.2.1)]), (3, .var [.cell (.os 1), .cell (.int .i64 r6.1.2.1), .cell (.os 2), .cell (.int .i64 r6.1.2.2.2.1), .cell (.int .i64 r6.1.2.2.2.2.1), .cell (.int .i64 r6.1.2.2.2.2.2.1)]), (0, .row (.arr 6 (.int .i64)) r4), (1, .row (.arr 6 (.int .i64)) r6.1.1), (2, .row (.int .i64) r6.1.2.2.1), (4, .row (.arr 6 (.int .i64)) r9), (5, .row (.arr 6 (.int .i64)) r11.1.1), (6, .row (.int .i64) r11.1.2.2.1), (8, .row (.arr 6 (.int .i64)) r20)]) rfl rfl ?_
      refine row_len_o 8 (r20.length : Int) rfl rfl (fun hr21 => ?_)
      refine ao_scall trivial (scall (c_laws_eqIntA6S (is_mk (rfl : p_laws_eqIntA6S r9 r20 = _))) rfl Try.func25 rfl rfl rfl rfl (fun σ => ⟨ad_os0 rfl, ad_os0 rfl, trivial⟩)) rfl ?_
      refine ao_read trivial (r_not rfl) rfl ?_
      refine ao_nil ?_
      refine aq_then ?_
      refine aw_cond rfl (fun hb22 => ?_) (fun hb22 => ?_)
      · replace h := is_else (ne_t (not_t hb22)) h
        refine aw_seq ?_
        refine aw_region ?_
        refine ao_read trivial (r_assign rfl) rfl ?_
        refine ao_nil ?_
        refine aq_then ?_
        refine aw_ret ?_
        refine aq_then_ret ?_
        refine aq_ret ?_
        obtain rfl := is_some h
        exact aq_finx (l := [.tmp 4]) (xs := [.bool false]) idn [.bool false] [] rfl (by exact ⟨rfl, trivial⟩) (by exact ⟨ad_ren rfl, trivial⟩) (by exact trivial) rfl (nk rfl) rfl rfl ⟨rfl, rfl⟩
      · replace h := is_if (not_f hb22) h
        refine aw_skip ?_
        refine aq_then ?_
        refine aw_seq ?_
        refine aw_region ?_
        refine ao_read trivial (r_assign rfl) rfl ?_
        refine ao_nil ?_
        refine aq_then ?_
        refine aw_seq ?_
        refine aw_region ?_
        refine ao_read trivial (r_move rfl) rfl ?_
        refine ao_read trivial (r_move rfl) rfl ?_
        refine ao_call [4] 9 trivial (c_laws_markIntA6S (is_mk (rfl : p_laws_markIntA6S r9 1 = _))) Try.func26 rfl rfl rfl rfl ⟨ad_ren rfl, ad_ren rfl, trivial⟩ ⟨⟨_, rfl, rfl⟩, trivial⟩ rfl rfl rfl rfl rfl rfl rfl (fun r' H' hr => ?_)
        obtain ⟨rfl, rfl⟩ := hr
        refine ao_norm (y := .int .i64 ((p_laws_markIntA6S r9 1).1)) (H' := [(7, .var [.cell (.os 5), .cell (.int .i64 r11.1.2.1), .cell (.os 6), .cell (.int .i64 r11.1.2.2.2.1), .cell (.int .i64 r11.1.2.2.2.2.1), .cell (.int .i64 r11.1.2.2.2.2.2.1)]), (3, .var [.cell (.os 1), .cell (.int .i64 r6.1.2.1), .cell (.os 2), .cell (.int .i64 r6.1.2.2.2.1), .cell (.int .i64 r6.1.2.2.2.2.1), .cell (.int .i64 r6.1.2.2.2.2.2.1)]), (0, .row (.arr 6 (.int .i64)) r4), (1, .row (.arr 6 (.int .i64)) r6.1.1), (2, .row (.int .i64) r6.1.2.2.1), (5, .row (.arr 6 (.int .i64)) r11.1.1), (6, .row (.int .i64) r11.1.2.2.1), (8, .row (.arr 6 (.int .i64)) r20), (4, .row (.arr 6 (.int .i64)) ((p_laws_markIntA6S r9 1).2 : (List (List Int))))]) rfl rfl ?_
        refine ao_read trivial (r_assign rfl) rfl ?_
        refine ao_nil ?_
        refine aq_then ?_
        refine aw_seq ?_
        refine aw_seq ?_
        refine aw_region ?_
        refine ao_read trivial (r_move rfl) rfl ?_
        refine ao_read trivial (r_lss rfl rfl) rfl ?_
        refine ao_read trivial (r_move rfl) rfl ?_
        refine ao_readG (x := .st [.os 5, .int .i64 r11.1.2.1, .os 6, .int .i64 r11.1.2.2.2.1, .int .i64 r11.1.2.2.2.2.1, .int .i64 r11.1.2.2.2.2.2.1]) rfl (GV.F rfl) (fun hg23 => by
      have q24 := d_f (not_t hg23)
      exact r_load_st [] [.cell (.os 5), .cell (.int .i64 r11.1.2.1), .cell (.os 6), .cell (.int .i64 r11.1.2.2.2.1), .cell (.int .i64 r11.1.2.2.2.2.1), .cell (.int .i64 r11.1.2.2.2.2.2.1)] [] Try.isAgg35 Try.sizeOf35 rfl rfl rfl rfl rfl rfl rfl) rfl ?_
        refine ao_readG (x := .st [.os 1, .int .i64 r6.1.2.1, .os 2, .int .i64 r6.1.2.2.2.1, .int .i64 r6.1.2.2.2.2.1, .int .i64 r6.1.2.2.2.2.2.1]) rfl (GV.F rfl) (fun hg25 => by
      have q26 := d_f (not_t hg25)
      exact r_load_st [] [.cell (.os 1), .cell (.int .i64 r6.1.2.1), .cell (.os 2), .cell (.int .i64 r6.1.2.2.2.1), .cell (.int .i64 r6.1.2.2.2.2.1), .cell (.int .i64 r6.1.2.2.2.2.2.1)] [] Try.isAgg35 Try.sizeOf35 rfl rfl rfl rfl rfl rfl rfl) rfl ?_
        refine ao_scallG (r := .bool (p_laws_eqTavern (r11.1.1, (r11.1.2.1, (r11.1.2.2.1, (r11.1.2.2.2.1, (r11.1.2.2.2.2.1, (r11.1.2.2.2.2.2.1, ())))))) (r6.1.1, (r6.1.2.1, (r6.1.2.2.1, (r6.1.2.2.2.1, (r6.1.2.2.2.2.1, (r6.1.2.2.2.2.2.1, ())))))))) rfl (GV.F rfl) (fun hg27 => by
      have q28 := d_f (not_t hg27)
      exact SCall.strip 56 rfl (hg27) (SCall.strip 57 rfl (hg27) (scall (c_laws_eqTavern (is_mk (rfl : p_laws_eqTavern (r11.1.1, (r11.1.2.1, (r11.1.2.2.1, (r11.1.2.2.2.1, (r11.1.2.2.2.2.1, (r11.1.2.2.2.2.2.1, ())))))) (r6.1.1, (r6.1.2.1, (r6.1.2.2.1, (r6.1.2.2.2.1, (r6.1.2.2.2.2.1, (r6.1.2.2.2.2.2.1, ())))))) = _))) rfl Try.func18 rfl rfl rfl rfl (fun σ => ⟨ad_st rfl rfl ⟨ad_os0 rfl, ad_ren rfl, ad_os0 rfl, ad_ren rfl, ad_ren rfl, ad_ren rfl, trivial⟩, ad_st rfl rfl ⟨ad_os0 rfl, ad_ren rfl, ad_os0 rfl, ad_ren rfl, ad_ren rfl, ad_ren rfl, trivial⟩, trivial⟩)))) rfl ?_
        refine ao_readG (x := .bool (!(p_laws_eqTavern (r11.1.1, (r11.1.2.1, (r11.1.2.2.1, (r11.1.2.2.2.1, (r11.1.2.2.2.2.1, (r11.1.2.2.2.2.2.1, ())))))) (r6.1.1, (r6.1.2.1, (r6.1.2.2.1, (r6.1.2.2.2.1, (r6.1.2.2.2.2.1, (r6.1.2.2.2.2.2.1, ()))))))))) rfl (GV.F rfl) (fun hg29 => by
      have q30 := d_f (not_t hg29)
      exact Reads.strip 58 rfl (hg29) (r_not rfl)) rfl ?_
        refine ao_read trivial (r_orB rfl rfl) rfl ?_
        refine ao_read trivial (r_move rfl) rfl ?_
        refine ao_readG (x := .bool r11.2) rfl (GV.F rfl) (fun hg31 => by
      obtain ⟨q32, q33⟩ := or_f (not_t hg31)
      have q34 := d_f q32
      exact r_move rfl) rfl ?_
        refine ao_readG (x := .bool r6.2) rfl (GV.F rfl) (fun hg35 => by
      obtain ⟨q36, q37⟩ := or_f (not_t hg35)
      have q38 := d_f q36
      exact r_move rfl) rfl ?_
        refine ao_readG (x := .bool (r11.2 != r6.2)) rfl (GV.F rfl) (fun hg39 => by
      obtain ⟨q40, q41⟩ := or_f (not_t hg39)
      have q42 := d_f q40
      exact Reads.strip 62 rfl (hg39) (Reads.strip 63 rfl (hg39) (r_neq_bool Try.underlying4 rfl rfl))) rfl ?_
        refine ao_read trivial (r_orB rfl rfl) rfl ?_
        refine ao_nil ?_
        refine aq_then ?_
        refine aw_cond rfl (fun hb43 => ?_) (fun hb43 => ?_)
        · replace h := is_if hb43 h
          refine aw_seq ?_
          refine aw_region ?_
          refine ao_read trivial (r_assign rfl) rfl ?_
          refine ao_nil ?_
          refine aq_then ?_
          refine aw_ret ?_
          refine aq_then_ret ?_
          refine aq_ret ?_
          obtain rfl := is_some h
          exact aq_finx (l := [.tmp 4]) (xs := [.bool false]) idn [.bool false] [] rfl (by exact ⟨rfl, trivial⟩) (by exact ⟨ad_ren rfl, trivial⟩) (by exact trivial) rfl (nk rfl) rfl rfl ⟨rfl, rfl⟩
        · obtain ⟨q44, q45⟩ := or_f hb43
          obtain ⟨q46, q47⟩ := or_f q44
          have q48 := d_f q46
          replace h := is_else (ne_t hb43) h
          refine aw_skip ?_
          refine aq_then ?_
          refine aw_seq ?_
          refine aw_region ?_
          refine ao_read trivial (r_assign rfl) rfl ?_
          refine ao_nil ?_
          refine aq_then ?_
          refine aw_seq ?_
          refine aw_region ?_
          refine ao_read trivial (r_load_st [] [.cell (.os 5), .cell (.int .i64 r11.1.2.1), .cell (.os 6), .cell (.int .i64 r11.1.2.2.2.1), .cell (.int .i64 r11.1.2.2.2.2.1), .cell (.int .i64 r11.1.2.2.2.2.2.1)] [] Try.isAgg35 Try.sizeOf35 rfl rfl rfl rfl rfl rfl rfl) rfl ?_
          refine ao_read trivial (r_move rfl) rfl ?_
          refine ao_call [5, 6] 9 trivial (c_laws_markTavern (is_mk (rfl : p_laws_markTavern r11.1.1 r11.1.2.1 r11.1.2.2.1 r11.1.2.2.2.1 r11.1.2.2.2.2.1 r11.1.2.2.2.2.2.1 1 = _))) Try.func27 rfl rfl rfl rfl ⟨ad_ren rfl, ad_ren rfl, trivial⟩ ⟨⟨_, rfl, rfl⟩, ⟨_, rfl, rfl⟩, trivial⟩ rfl rfl rfl rfl rfl rfl rfl (fun r' H' hr => ?_)
          obtain ⟨rfl, rfl⟩ := hr
          refine ao_norm (y := .int .i64 ((p_laws_markTavern r11.1.1 r11.1.2.1 r11.1.2.2.1 r11.1.2.2.2.1 r11.1.2.2.2.2.1 r11.1.2.2.2.2.2.1 1).1)) (H' := [(7, .var [.cell (.os 5), .cell (.int .i64 r11.1.2.1), .cell (.os 6), .cell (.int .i64 r11.1.2.2.2.1), .cell (.int .i64 r11.1.2.2.2.2.1), .cell (.int .i64 r11.1.2.2.2.2.2.1)]), (3, .var [.cell (.os 1), .cell (.int .i64 r6.1.2.1), .cell (.os 2), .cell (.int .i64 r6.1.2.2.2.1), .cell (.int .i64 r6.1.2.2.2.2.1), .cell (.int .i64 r6.1.2.2.2.2.2.1)]), (0, .row (.arr 6 (.int .i64)) r4), (1, .row (.arr 6 (.int .i64)) r6.1.1), (2, .row (.int .i64) r6.1.2.2.1), (8, .row (.arr 6 (.int .i64)) r20), (4, .row (.arr 6 (.int .i64)) ((p_laws_markIntA6S r9 1).2 : (List (List Int)))), (5, .row (.arr 6 (.int .i64)) ((p_laws_markTavern r11.1.1 r11.1.2.1 r11.1.2.2.1 r11.1.2.2.2.1 r11.1.2.2.2.2.1 r11.1.2.2.2.2.2.1 1).2.1 : (List (List Int)))), (6, .row (.int .i64) ((p_laws_markTavern r11.1.1 r11.1.2.1 r11.1.2.2.1 r11.1.2.2.2.1 r11.1.2.2.2.2.1 r11.1.2.2.2.2.2.1 1).2.2 : (List Int)))]) rfl rfl ?_
          refine ao_read trivial (r_assign rfl) rfl ?_
          refine ao_nil ?_
          refine aq_then ?_
          refine aw_seq ?_
          refine aw_region ?_
          refine ao_read trivial (r_assign rfl) rfl ?_
          refine ao_nil ?_
          refine aq_then ?_
          refine aw_seq ?_
          refine aw_region ?_
          refine ao_read trivial (r_load_st [] [.cell (.os 5), .cell (.int .i64 r11.1.2.1), .cell (.os 6), .cell (.int .i64 r11.1.2.2.2.1), .cell (.int .i64 r11.1.2.2.2.2.1), .cell (.int .i64 r11.1.2.2.2.2.2.1)] [] Try.isAgg35 Try.sizeOf35 rfl rfl rfl rfl rfl rfl rfl) rfl ?_
          refine ao_read trivial (r_move rfl) rfl ?_
          refine ao_scall trivial (scall (c_laws_heldTavern (is_mk (rfl : p_laws_heldTavern ((p_laws_markTavern r11.1.1 r11.1.2.1 r11.1.2.2.1 r11.1.2.2.2.1 r11.1.2.2.2.2.1 r11.1.2.2.2.2.2.1 1).2.1, (r11.1.2.1, ((p_laws_markTavern r11.1.1 r11.1.2.1 r11.1.2.2.1 r11.1.2.2.2.1 r11.1.2.2.2.2.1 r11.1.2.2.2.2.2.1 1).2.2, (r11.1.2.2.2.1, (r11.1.2.2.2.2.1, (r11.1.2.2.2.2.2.1, ())))))) 1 = _))) rfl Try.func28 rfl rfl rfl rfl (fun σ => ⟨ad_st rfl rfl ⟨ad_os0 rfl, ad_ren rfl, ad_os0 rfl, ad_ren rfl, ad_ren rfl, ad_ren rfl, trivial⟩, ad_ren rfl, trivial⟩)) rfl ?_
          refine ao_read trivial (r_assign rfl) rfl ?_
          refine ao_nil ?_
          refine aq_then ?_
          refine aw_seq ?_
          refine aw_seq ?_
          refine aw_region ?_
          refine ao_read trivial (r_move rfl) rfl ?_
          refine ao_read trivial (r_lss rfl rfl) rfl ?_
          refine ao_nil ?_
          refine aq_then ?_
          refine aw_cond rfl (fun hb49 => ?_) (fun hb49 => ?_)
          · have q50 := d_t hb49
            replace h := is_if (d_t hb49) h
            refine aw_seq ?_
            refine aw_region ?_
            refine ao_read trivial (r_assign rfl) rfl ?_
            refine ao_nil ?_
            refine aq_then ?_
            refine aw_ret ?_
            refine aq_then_ret ?_
            refine aq_ret ?_
            obtain rfl := is_some h
            exact aq_finx (l := [.tmp 4]) (xs := [.bool false]) idn [.bool false] [] rfl (by exact ⟨rfl, trivial⟩) (by exact ⟨ad_ren rfl, trivial⟩) (by exact trivial) rfl (nk rfl) rfl rfl ⟨rfl, rfl⟩
          · have q51 := d_f hb49
            replace h := is_else (d_f hb49) h
            refine aw_skip ?_
            refine aq_then ?_
            refine aw_seq ?_
            refine aw_seq ?_
            refine aw_region ?_
            refine ao_read trivial (r_move rfl) rfl ?_
            refine ao_read trivial (r_move rfl) rfl ?_
            refine ao_read trivial (r_neq rfl rfl) rfl ?_
            refine ao_nil ?_
            refine aq_then ?_
            refine aw_cond rfl (fun hb52 => ?_) (fun hb52 => ?_)
            · have q53 := d_f (not_t hb52)
              replace h := is_else (d_f (not_t hb52)) h
              refine aw_seq ?_
              refine aw_region ?_
              refine ao_read trivial (r_assign rfl) rfl ?_
              refine ao_nil ?_
              refine aq_then ?_
              refine aw_ret ?_
              refine aq_then_ret ?_
              refine aq_ret ?_
              obtain rfl := is_some h
              exact aq_finx (l := [.tmp 4]) (xs := [.bool false]) idn [.bool false] [] rfl (by exact ⟨rfl, trivial⟩) (by exact ⟨ad_ren rfl, trivial⟩) (by exact trivial) rfl (nk rfl) rfl rfl ⟨rfl, rfl⟩
            · have q54 := d_t (not_f hb52)
              replace h := is_if (d_t (not_f hb52)) h
              refine aw_skip ?_
              refine aq_then ?_
              refine aw_seq ?_
              refine aw_region ?_
              refine ao_read trivial (r_move rfl) rfl ?_
              obtain ⟨r55, r55h, h⟩ := is_bind h
              refine ao_call [] 9 trivial (c_laws_toIntA6S (is_mk r55h)) Try.func23 rfl rfl rfl rfl ⟨ad_ren rfl, trivial⟩ trivial rfl rfl rfl rfl rfl rfl rfl (fun r' H' hr => ?_)
              obtain ⟨rfl, rfl⟩ := hr
              refine ao_norm (y := .os 9) (H' := [(7, .var [.cell (.os 5), .cell (.int .i64 r11.1.2.1), .cell (.os 6), .cell (.int .i64 r11.1.2.2.2.1), .cell (.int .i64 r11.1.2.2.2.2.1), .cell (.int .i64 r11.1.2.2.2.2.2.1)]), (3, .var [.cell (.os 1), .cell (.int .i64 r6.1.2.1), .cell (.os 2), .cell (.int .i64 r6.1.2.2.2.1), .cell (.int .i64 r6.1.2.2.2.2.1), .cell (.int .i64 r6.1.2.2.2.2.2.1)]), (0, .row (.arr 6 (.int .i64)) r4), (1, .row (.arr 6 (.int .i64)) r6.1.1), (2, .row (.int .i64) r6.1.2.2.1), (8, .row (.arr 6 (.int .i64)) r20), (4, .row (.arr 6 (.int .i64)) ((p_laws_markIntA6S r9 1).2 : (List (List Int)))), (5, .row (.arr 6 (.int .i64)) ((p_laws_markTavern r11.1.1 r11.1.2.1 r11.1.2.2.1 r11.1.2.2.2.1 r11.1.2.2.2.2.1 r11.1.2.2.2.2.2.1 1).2.1 : (List (List Int)))), (6, .row (.int .i64) ((p_laws_markTavern r11.1.1 r11.1.2.1 r11.1.2.2.1 r11.1.2.2.2.1 r11.1.2.2.2.2.1 r11.1.2.2.2.2.2.1 1).2.2 : (List Int))), (9, .row (.arr 6 (.int .i64)) r55)]) rfl rfl ?_
              refine row_len_o 9 (r55.length : Int) rfl rfl (fun hr56 => ?_)
              refine ao_read trivial (r_move rfl) rfl ?_
              obtain ⟨r57, r57h, h⟩ := is_bind h
              refine ao_call [] 10 trivial (c_impl_NewTavern (is_mk r57h)) Try.func24 rfl rfl rfl rfl ⟨ad_os0 rfl, ad_ren rfl, trivial⟩ trivial rfl rfl rfl rfl rfl rfl rfl (fun r' H' hr => ?_)
              obtain ⟨rfl, rfl⟩ := hr
              refine ao_norm (y := .tup [.st [.os 10, .int .i64 r57.1.2.1, .os 11, .int .i64 r57.1.2.2.2.1, .int .i64 r57.1.2.2.2.2.1, .int .i64 r57.1.2.2.2.2.2.1], .bool r57.2]) (H' := [(7, .var [.cell (.os 5), .cell (.int .i64 r11.1.2.1), .cell (.os 6), .cell (.int .i64 r11.1.2.2.2.1), .cell (.int .i64 r11.1.2.2.2.2.1), .cell (.int .i64 r11.1.2.2.2.2.2.1)]), (3, .var [.cell (.os 1), .cell (.int .i64 r6.1.2.1), .cell (.os 2), .cell (.int .i64 r6.1.2.2.2.1), .cell (.int .i64 r6.1.2.2.2.2.1), .cell (.int .i64 r6.1.2.2.2.2.2.1)]), (0, .row (.arr 6 (.int .i64)) r4), (1, .row (.arr 6 (.int .i64)) r6.1.1), (2, .row (.int .i64) r6.1.2.2.1), (8, .row (.arr 6 (.int .i64)) r20), (4, .row (.arr 6 (.int .i64)) ((p_laws_markIntA6S r9 1).2 : (List (List Int)))), (5, .row (.arr 6 (.int .i64)) ((p_laws_markTavern r11.1.1 r11.1.2.1 r11.1.2.2.1 r11.1.2.2.2.1 r11.1.2.2.2.2.1 r11.1.2.2.2.2.2.1 1).2.1 : (List (List Int)))), (6, .row (.int .i64) ((p_laws_markTavern r11.1.1 r11.1.2.1 r11.1.2.2.1 r11.1.2.2.2.1 r11.1.2.2.2.2.1 r11.1.2.2.2.2.2.1 1).2.2 : (List Int))), (9, .row (.arr 6 (.int .i64)) r55), (10, .row (.arr 6 (.int .i64)) r57.1.1), (11, .row (.int .i64) r57.1.2.2.1)]) rfl rfl ?_
              refine row_len_o 10 (r57.1.1.length : Int) rfl rfl (fun hr58 => ?_)
              refine row_len_o 11 (r57.1.2.2.1.length : Int) rfl rfl (fun hr59 => ?_)
              refine ao_read trivial (r_move rfl) rfl ?_
              refine ao_read trivial (r_extract rfl rfl) rfl ?_
              refine ao_read trivial (r_extract rfl rfl) rfl ?_
              refine ao_eff trivial (e_alloc 12 (y := .st [.nilsl, .int .i64 0, .nilsl, .int .i64 0, .int .i64 0, .int .i64 0]) Try.zeroValue35 (fun ρ h M => ra_zero_st (t := (.pair (.slice (.arr 6 (.int .i64))) (.pair (.int .i64) (.pair (.slice (.int .i64)) (.pair (.int .i64) (.pair (.int .i64) (.pair (.int .i64) .unit))))))) rfl rfl rfl) rfl rfl rfl rfl rfl) rfl ?_
              refine ao_effS trivial (e_store rfl rfl rfl rfl Try.sizeOf35 rfl) ?_
              refine ao_read trivial (r_assign rfl) rfl ?_
              refine ao_nil ?_
              refine aq_then ?_
              refine aw_seq ?_
              refine aw_seq ?_
              refine aw_region ?_
              refine ao_read trivial (r_load_st [] [.cell (.os 10), .cell (.int .i64 r57.1.2.1), .cell (.os 11), .cell (.int .i64 r57.1.2.2.2.1), .cell (.int .i64 r57.1.2.2.2.2.1), .cell (.int .i64 r57.1.2.2.2.2.2.1)] [] Try.isAgg35 Try.sizeOf35 rfl rfl rfl rfl rfl rfl rfl) rfl ?_
              refine ao_read trivial (r_load_st [] [.cell (.os 1), .cell (.int .i64 r6.1.2.1), .cell (.os 2), .cell (.int .i64 r6.1.2.2.2.1), .cell (.int .i64 r6.1.2.2.2.2.1), .cell (.int .i64 r6.1.2.2.2.2.2.1)] [] Try.isAgg35 Try.sizeOf35 rfl rfl rfl rfl rfl rfl rfl) rfl ?_
              refine ao_scall trivial (scall (c_laws_eqTavern (is_mk (rfl : p_laws_eqTavern (r57.1.1, (r57.1.2.1, (r57.1.2.2.1, (r57.1.2.2.2.1, (r57.1.2.2.2.2.1, (r57.1.2.2.2.2.2.1, ())))))) (r6.1.1, (r6.1.2.1, (r6.1.2.2.1, (r6.1.2.2.2.1, (r6.1.2.2.2.2.1, (r6.1.2.2.2.2.2.1, ())))))) = _))) rfl Try.func18 rfl rfl rfl rfl (fun σ => ⟨ad_st rfl rfl ⟨ad_os0 rfl, ad_ren rfl, ad_os0 rfl, ad_ren rfl, ad_ren rfl, ad_ren rfl, trivial⟩, ad_st rfl rfl ⟨ad_os0 rfl, ad_ren rfl, ad_os0 rfl, ad_ren rfl, ad_ren rfl, ad_ren rfl, trivial⟩, trivial⟩)) rfl ?_
              refine ao_read trivial (r_not rfl) rfl ?_
              refine ao_read trivial (r_move rfl) rfl ?_
              refine ao_readG (x := .bool r57.2) rfl (GV.F rfl) (fun hg60 => r_move rfl) rfl ?_
              refine ao_readG (x := .bool r6.2) rfl (GV.F rfl) (fun hg61 => r_move rfl) rfl ?_
              refine ao_readG (x := .bool (r57.2 != r6.2)) rfl (GV.F rfl) (fun hg62 => Reads.strip 89 rfl (hg62) (Reads.strip 90 rfl (hg62) (r_neq_bool Try.underlying4 rfl rfl))) rfl ?_
              refine ao_read trivial (r_orB rfl rfl) rfl ?_
              refine ao_nil ?_
              refine aq_then ?_
              refine aw_cond rfl (fun hb63 => ?_) (fun hb63 => ?_)
              · replace h := is_if hb63 h
                refine aw_seq ?_
                refine aw_region ?_
                refine ao_read trivial (r_assign rfl) rfl ?_
                refine ao_nil ?_
                refine aq_then ?_
                refine aw_ret ?_
                refine aq_then_ret ?_
                refine aq_ret ?_
                obtain rfl := is_some h
                exact aq_finx (l := [.tmp 4]) (xs := [.bool false]) idn [.bool false] [] rfl (by exact ⟨rfl, trivial⟩) (by exact ⟨ad_ren rfl, trivial⟩) (by exact trivial) rfl (nk rfl) rfl rfl ⟨rfl, rfl⟩
              · obtain ⟨q64, q65⟩ := or_f hb63
                replace h := is_else (ne_t hb63) h
                refine aw_skip ?_
                refine aq_then ?_
                refine aw_seq ?_
                refine aw_region ?_
                refine ao_read trivial (r_assign rfl) rfl ?_
                refine ao_nil ?_
                refine aq_then ?_
                refine aw_seq ?_
                refine aw_region ?_
                refine ao_read trivial (r_load_st [] [.cell (.os 5), .cell (.int .i64 r11.1.2.1), .cell (.os 6), .cell (.int .i64 r11.1.2.2.2.1), .cell (.int .i64 r11.1.2.2.2.2.1), .cell (.int .i64 r11.1.2.2.2.2.2.1)] [] Try.isAgg35 Try.sizeOf35 rfl rfl rfl rfl rfl rfl rfl) rfl ?_
                refine ao_read trivial (r_move rfl) rfl ?_
                refine ao_scall trivial (scall (c_laws_heldTavern (is_mk (rfl : p_laws_heldTavern ((p_laws_markTavern r11.1.1 r11.1.2.1 r11.1.2.2.1 r11.1.2.2.2.1 r11.1.2.2.2.2.1 r11.1.2.2.2.2.2.1 1).2.1, (r11.1.2.1, ((p_laws_markTavern r11.1.1 r11.1.2.1 r11.1.2.2.1 r11.1.2.2.2.1 r11.1.2.2.2.2.1 r11.1.2.2.2.2.2.1 1).2.2, (r11.1.2.2.2.1, (r11.1.2.2.2.2.1, (r11.1.2.2.2.2.2.1, ())))))) 1 = _))) rfl Try.func28 rfl rfl rfl rfl (fun σ => ⟨ad_st rfl rfl ⟨ad_os0 rfl, ad_ren rfl, ad_os0 rfl, ad_ren rfl, ad_ren rfl, ad_ren rfl, trivial⟩, ad_ren rfl, trivial⟩)) rfl ?_
                refine ao_read trivial (r_assign rfl) rfl ?_
                refine ao_nil ?_
                refine aq_then ?_
                refine aw_seq ?_
                refine aw_seq ?_
                refine aw_region ?_
                refine ao_read trivial (r_move rfl) rfl ?_
                refine ao_read trivial (r_lss rfl rfl) rfl ?_
                refine ao_nil ?_
                refine aq_then ?_
                refine aw_cond rfl (fun hb66 => ?_) (fun hb66 => ?_)
                · have q67 := d_t hb66
                  replace h := is_if (d_t hb66) h
                  refine aw_seq ?_
                  refine aw_region ?_
                  refine ao_read trivial (r_assign rfl) rfl ?_
                  refine ao_nil ?_
                  refine aq_then ?_
                  refine aw_ret ?_
                  refine aq_then_ret ?_
                  refine aq_ret ?_
                  obtain rfl := is_some h
                  exact aq_finx (l := [.tmp 4]) (xs := [.bool false]) idn [.bool false] [] rfl (by exact ⟨rfl, trivial⟩) (by exact ⟨ad_ren rfl, trivial⟩) (by exact trivial) rfl (nk rfl) rfl rfl ⟨rfl, rfl⟩
                · have q68 := d_f hb66
                  replace h := is_else (d_f hb66) h
                  refine aw_skip ?_
                  refine aq_then ?_
                  refine aw_seq ?_
                  refine aw_seq ?_
                  refine aw_region ?_
                  refine ao_read trivial (r_move rfl) rfl ?_
                  refine ao_read trivial (r_move rfl) rfl ?_
                  refine ao_read trivial (r_neq rfl rfl) rfl ?_
                  refine ao_nil ?_
                  refine aq_then ?_
                  refine aw_cond rfl (fun hb69 => ?_) (fun hb69 => ?_)
                  · have q70 := d_f (not_t hb69)
                    replace h := is_else (d_f (not_t hb69)) h
                    refine aw_seq ?_
                    refine aw_region ?_
                    refine ao_read trivial (r_assign rfl) rfl ?_
                    refine ao_nil ?_
                    refine aq_then ?_
                    refine aw_ret ?_
                    refine aq_then_ret ?_
                    refine aq_ret ?_
                    obtain rfl := is_some h
                    exact aq_finx (l := [.tmp 4]) (xs := [.bool false]) idn [.bool false] [] rfl (by exact ⟨rfl, trivial⟩) (by exact ⟨ad_ren rfl, trivial⟩) (by exact trivial) rfl (nk rfl) rfl rfl ⟨rfl, rfl⟩
                  · have q71 := d_t (not_f hb69)
                    replace h := is_if (d_t (not_f hb69)) h
                    refine aw_skip ?_
                    refine aq_then ?_
                    refine aw_seq ?_
                    refine aw_region ?_
                    refine ao_read trivial (r_assign rfl) rfl ?_
                    refine ao_nil ?_
                    refine aq_then ?_
                    refine aw_ret ?_
                    refine aq_ret ?_
                    obtain rfl := is_some h
                    exact aq_finx (l := [.tmp 4]) (xs := [.bool true]) idn [.bool true] [] rfl (by exact ⟨rfl, trivial⟩) (by exact ⟨ad_ren rfl, trivial⟩) (by exact trivial) rfl (nk rfl) rfl rfl ⟨rfl, rfl⟩
end Go.GA
