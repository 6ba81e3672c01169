/- Walks: what the Go functions compute, by the printed lines below. -/
import Derived.Test.YtjffjghllmpfmaaC12w
namespace Go.GA
open Go Go.Proofs
set_option maxRecDepth 100000
set_option maxHeartbeats 2000000
set_option linter.unusedVariables false
theorem c_spec_NewConsole {x0 : ((List (List Int)) × (Int × ((List Int) × (Int × (Int × (Int × Unit))))))} {r : (((List (List Int)) × (Int × ((List Int) × (Int × (Int × (Int × Unit)))))) × ((ByteArray × (ByteArray × (Int × Unit))) × Unit)) × Bool} (h : Is (p_spec_NewConsole x0) (some r)) :
    ACalls Try.prog 29 [.v (.pair (.slice (.arr 6 (.int .i64))) (.pair (.int .i64) (.pair (.slice (.int .i64)) (.pair (.int .i64) (.pair (.int .i64) (.pair (.int .i64) .unit)))))) x0] [] (fun r' H' => r' = .tup [.st [.os 0, .int .i64 r.1.1.2.1, .os 1, .int .i64 r.1.1.2.2.2.1, .int .i64 r.1.1.2.2.2.2.1, .int .i64 r.1.1.2.2.2.2.2.1, .str r.1.2.1.1, .str r.1.2.1.2.1, .int .i64 r.1.2.1.2.2.1], .bool r.2] ∧ H' = [(0, .row (.arr 6 (.int .i64)) r.1.1.1), (1, .row (.int .i64) r.1.1.2.2.1)]) := by
  unfold p_spec_NewConsole at h
  refine ac_enter ⟨11, 0⟩ Try.func29 rfl rfl rfl rfl rfl (fun Γ => ?_)
  refine aw_seq ?_
  refine aw_region ?_
  refine ao_eff trivial (e_box 0 rfl rfl rfl rfl rfl rfl) rfl ?_
  refine ao_eff trivial (e_alloc 1 (y := .st [.nilsl, .int .i64 0, .nilsl, .int .i64 0, .int .i64 0, .int .i64 0, .str ByteArray.empty, .str ByteArray.empty, .int .i64 0]) Try.zeroValue51 (fun ρ h M => ra_zero_st (t := (.pair (.pair (.slice (.arr 6 (.int .i64))) (.pair (.int .i64) (.pair (.slice (.int .i64)) (.pair (.int .i64) (.pair (.int .i64) (.pair (.int .i64) .unit)))))) (.pair (.pair .str (.pair .str (.pair (.int .i64) .unit))) .unit))) rfl rfl rfl) rfl rfl rfl rfl rfl) rfl ?_
  refine ao_read trivial (r_assign rfl) rfl ?_
  refine ao_nil ?_
  refine aq_then ?_
  refine aw_seq ?_
  refine aw_seq ?_
  refine aw_region ?_
  refine ao_read trivial (r_load_part (τ := (.pair (.slice (.arr 6 (.int .i64))) (.pair (.int .i64) (.pair (.slice (.int .i64)) (.pair (.int .i64) (.pair (.int .i64) (.pair (.int .i64) .unit))))))) (y := ((x0.1, (x0.2.1, (x0.2.2.1, (x0.2.2.2.1, (x0.2.2.2.2.1, (x0.2.2.2.2.2.1, ())))))) : ((List (List Int)) × (Int × ((List Int) × (Int × (Int × (Int × Unit)))))))) [] [] rfl Try.isAgg35 Try.sizeOf35 rfl rfl rfl rfl) rfl ?_
  obtain ⟨r1, r1h, h⟩ := is_bind h
  refine ao_scall trivial (scall (c_spec_l12Good (is_mk r1h)) rfl Try.func47 rfl rfl rfl rfl (fun σ => ⟨ad_ren rfl, trivial⟩)) rfl ?_
  refine ao_read trivial (r_not rfl) rfl ?_
  refine ao_nil ?_
  refine aq_then ?_
  refine aw_cond rfl (fun hb2 => ?_) (fun hb2 => ?_)
  · replace h := is_else (ne_t (not_t hb2)) h
    refine aw_seq ?_
    refine aw_region ?_
    refine ao_read trivial (r_build_st (l := []) (cs := [.cell (.nilsl), .cell (.int .i64 0), .cell (.nilsl), .cell (.int .i64 0), .cell (.int .i64 0), .cell (.int .i64 0), .cell (.str ByteArray.empty), .cell (.str ByteArray.empty), .cell (.int .i64 0)]) (.pair (.pair (.slice (.arr 6 (.int .i64))) (.pair (.int .i64) (.pair (.slice (.int .i64)) (.pair (.int .i64) (.pair (.int .i64) (.pair (.int .i64) .unit)))))) (.pair (.pair .str (.pair .str (.pair (.int .i64) .unit))) .unit)) [(0, 6), (6, 3)] Try.underlying51 Try.zeroValue51 rfl ⟨rfl, Try.sizeOf35, rfl, Try.sizeOf49, trivial⟩ rfl rfl rfl) rfl ?_
    refine ao_effS trivial (e_store rfl rfl rfl rfl Try.sizeOf51 rfl) ?_
    refine ao_read trivial (r_assign rfl) rfl ?_
    refine ao_nil ?_
    refine aq_then ?_
    refine aw_ret ?_
    refine aq_then_ret ?_
    refine aq_ret ?_
    obtain rfl := is_some h
    refine AQ.sub (sub_nil_cell (t := (.arr 6 (.int .i64))) (i := 1) 2 [] [.cell (.int .i64 0), .cell (.nilsl), .cell (.int .i64 0), .cell (.int .i64 0), .cell (.int .i64 0), .cell (.str ByteArray.empty), .cell (.str ByteArray.empty), .cell (.int .i64 0)] rfl rfl rfl) ?_
    refine AQ.sub (sub_nil_cell (t := (.int .i64)) (i := 1) 3 [.cell (.os 2), .cell (.int .i64 0)] [.cell (.int .i64 0), .cell (.int .i64 0), .cell (.int .i64 0), .cell (.str ByteArray.empty), .cell (.str ByteArray.empty), .cell (.int .i64 0)] rfl rfl rfl) ?_
    exact aq_finx (l := [.cell 2 51, .tmp 3]) (xs := [.st [.os 2, .int .i64 0, .os 3, .int .i64 0, .int .i64 0, .int .i64 0, .str ByteArray.empty, .str ByteArray.empty, .int .i64 0], .bool false]) (rn [(0, 2), (1, 3)]) [.st [.os 0, .int .i64 0, .os 1, .int .i64 0, .int .i64 0, .int .i64 0, .str ByteArray.empty, .str ByteArray.empty, .int .i64 0], .bool false] [(0, .row (.arr 6 (.int .i64)) ([] : (List (List Int)))), (1, .row (.int .i64) ([] : (List Int)))] rfl (by exact ⟨⟨⟨_, _, rfl⟩, r_load_st [] [.cell (.os 2), .cell (.int .i64 0), .cell (.os 3), .cell (.int .i64 0), .cell (.int .i64 0), .cell (.int .i64 0), .cell (.str ByteArray.empty), .cell (.str ByteArray.empty), .cell (.int .i64 0)] [] Try.isAgg51 Try.sizeOf51 rfl rfl rfl rfl rfl rfl rfl⟩, rfl, trivial⟩) (by exact ⟨ad_ren rfl, ad_ren rfl, trivial⟩) (by exact ⟨⟨_, rfl, rfl⟩, ⟨_, rfl, rfl⟩, trivial⟩) rfl (nk rfl) rfl rfl ⟨rfl, rfl⟩
  · replace h := is_if (not_f hb2) h
    refine aw_skip ?_
    refine aq_then ?_
    refine aw_seq ?_
    refine aw_region ?_
    refine ao_read trivial (r_load_part (τ := (.pair (.slice (.arr 6 (.int .i64))) (.pair (.int .i64) (.pair (.slice (.int .i64)) (.pair (.int .i64) (.pair (.int .i64) (.pair (.int .i64) .unit))))))) (y := ((x0.1, (x0.2.1, (x0.2.2.1, (x0.2.2.2.1, (x0.2.2.2.2.1, (x0.2.2.2.2.2.1, ())))))) : ((List (List Int)) × (Int × ((List Int) × (Int × (Int × (Int × Unit)))))))) [] [] rfl Try.isAgg35 Try.sizeOf35 rfl rfl rfl rfl) rfl ?_
    obtain ⟨r3, r3h, h⟩ := is_bind h
    refine ao_call [] 4 trivial (c_spec_l12Own (is_mk r3h)) Try.func55 rfl rfl rfl rfl ⟨ad_ren rfl, trivial⟩ trivial rfl rfl rfl rfl rfl rfl rfl (fun r' H' hr => ?_)
    obtain ⟨rfl, rfl⟩ := hr
    refine ao_norm (y := .st [.os 4, .int .i64 r3.2.1, .os 5, .int .i64 r3.2.2.2.1, .int .i64 r3.2.2.2.2.1, .int .i64 r3.2.2.2.2.2.1]) (H' := [(1, .var [.cell (.nilsl), .cell (.int .i64 0), .cell (.nilsl), .cell (.int .i64 0), .cell (.int .i64 0), .cell (.int .i64 0), .cell (.str ByteArray.empty), .cell (.str ByteArray.empty), .cell (.int .i64 0)]), (0, .var [.cell (.v (.slice (.arr 6 (.int .i64))) x0.1), .cell (.int .i64 x0.2.1), .cell (.v (.slice (.int .i64)) x0.2.2.1), .cell (.int .i64 x0.2.2.2.1), .cell (.int .i64 x0.2.2.2.2.1), .cell (.int .i64 x0.2.2.2.2.2.1)]), (4, .row (.arr 6 (.int .i64)) r3.1), (5, .row (.int .i64) r3.2.2.1)]) rfl rfl ?_
    refine row_len_o 4 (r3.1.length : Int) rfl rfl (fun hr4 => ?_)
    refine row_len_o 5 (r3.2.2.1.length : Int) rfl rfl (fun hr5 => ?_)
    refine ao_read trivial (r_build_st (l := [(0, .tmp 9)]) (cs := [.cell (.os 4), .cell (.int .i64 r3.2.1), .cell (.os 5), .cell (.int .i64 r3.2.2.2.1), .cell (.int .i64 r3.2.2.2.2.1), .cell (.int .i64 r3.2.2.2.2.2.1), .cell (.str ByteArray.empty), .cell (.str ByteArray.empty), .cell (.int .i64 0)]) (.pair (.pair (.slice (.arr 6 (.int .i64))) (.pair (.int .i64) (.pair (.slice (.int .i64)) (.pair (.int .i64) (.pair (.int .i64) (.pair (.int .i64) .unit)))))) (.pair (.pair .str (.pair .str (.pair (.int .i64) .unit))) .unit)) [(0, 6), (6, 3)] Try.underlying51 Try.zeroValue51 rfl ⟨rfl, Try.sizeOf35, rfl, Try.sizeOf49, trivial⟩ rfl rfl rfl) rfl ?_
    refine ao_effS trivial (e_store rfl rfl rfl rfl Try.sizeOf51 rfl) ?_
    refine ao_read trivial (r_assign rfl) rfl ?_
    refine ao_nil ?_
    refine aq_then ?_
    refine aw_ret ?_
    refine aq_ret ?_
    obtain rfl := is_some h
    exact aq_finx (l := [.cell 2 51, .tmp 3]) (xs := [.st [.os 4, .int .i64 r3.2.1, .os 5, .int .i64 r3.2.2.2.1, .int .i64 r3.2.2.2.2.1, .int .i64 r3.2.2.2.2.2.1, .str ByteArray.empty, .str ByteArray.empty, .int .i64 0], .bool true]) (rn [(0, 4), (1, 5)]) [.st [.os 0, .int .i64 r3.2.1, .os 1, .int .i64 r3.2.2.2.1, .int .i64 r3.2.2.2.2.1, .int .i64 r3.2.2.2.2.2.1, .str ByteArray.empty, .str ByteArray.empty, .int .i64 0], .bool true] [(0, .row (.arr 6 (.int .i64)) r3.1), (1, .row (.int .i64) r3.2.2.1)] rfl (by exact ⟨⟨⟨_, _, rfl⟩, r_load_st [] [.cell (.os 4), .cell (.int .i64 r3.2.1), .cell (.os 5), .cell (.int .i64 r3.2.2.2.1), .cell (.int .i64 r3.2.2.2.2.1), .cell (.int .i64 r3.2.2.2.2.2.1), .cell (.str ByteArray.empty), .cell (.str ByteArray.empty), .cell (.int .i64 0)] [] Try.isAgg51 Try.sizeOf51 rfl rfl rfl rfl rfl rfl rfl⟩, rfl, trivial⟩) (by exact ⟨ad_ren rfl, ad_ren rfl, trivial⟩) (by exact ⟨⟨_, rfl, rfl⟩, ⟨_, rfl, rfl⟩, trivial⟩) rfl (nk rfl) rfl rfl ⟨rfl, rfl⟩
theorem c_slices_Clone_int_int {x0 : (List Int)} {r : (List Int)} (h : Is (p_slices_Clone_int_int x0) (some r)) :
    ACalls Try.prog 80 [.v (.slice (.int .i64)) x0] [] (fun r' H' => r' = .os 0 ∧ H' = [(0, .row (.int .i64) r)]) := by
  unfold p_slices_Clone_int_int at h
  refine ac_enter ⟨8, 0⟩ Try.func80 rfl rfl rfl rfl rfl (fun Γ => ?_)
  refine sl_len_m 0 (x0.length : Int) rfl rfl (fun hl0 => ?_)
  refine aw_seq ?_
  refine aw_region ?_
  refine ao_read trivial (r_assign rfl) rfl ?_
  refine ao_nil ?_
  refine aq_then ?_
  refine aw_seq ?_
  refine aw_seq ?_
  refine aw_region ?_
  refine ao_read trivial (r_move rfl) rfl ?_
  refine ao_eqnil trivial Try.underlying30 rfl rfl rfl (fun b1 hn2 => ?_)
  refine ao_nil ?_
  refine aq_then ?_
  refine aw_cond rfl (fun hb3 => ?_) (fun hb3 => ?_)
  · obtain rfl : x0 = [] := hn2 hb3
    replace h : Is (some [] : Option ((List Int))) (some r) := (by simpa using h)
    refine aw_seq ?_
    refine aw_region ?_
    refine ao_read trivial (r_assign rfl) rfl ?_
    refine ao_nil ?_
    refine aq_then ?_
    refine aw_ret ?_
    refine aq_then_ret ?_
    refine aq_ret ?_
    obtain rfl := is_some h
    refine AQ.sub (sub_nil (T := 2) (t := (.int .i64)) 0 rfl rfl rfl) ?_
    exact aq_finx (l := [.tmp 2]) (xs := [.os 0]) idn [.os 0] [(0, .row (.int .i64) ([] : (List Int)))] rfl (by exact ⟨rfl, trivial⟩) (by exact ⟨ad_ren rfl, trivial⟩) (by exact ⟨⟨_, rfl, rfl⟩, trivial⟩) rfl (nk rfl) rfl rfl ⟨rfl, rfl⟩
  · refine aw_skip ?_
    refine aq_then ?_
    refine aw_seq ?_
    refine aw_region ?_
    refine ao_eff trivial (e_buildSlice (l := []) (t := (.int .i64)) 1 [] rfl Try.underlying30 Try.zeroValue3 Try.sizeOf3 rfl rfl rfl rfl rfl rfl rfl) rfl ?_
    refine ao_read trivial (r_move rfl) rfl ?_
    obtain ⟨g4, h⟩ := is_guard h
    refine ao_eff trivial (e_append (t := (.int .i64)) 2 rfl Try.underlying30 (rfl : Try.prog.info? 3 = some _) rfl rfl rfl rfl rfl rfl rfl src_v (show [].length + x0.length ≤ 1000000000 from by (try simp only [List.length_cons, List.length_nil]) <;> omega) rfl rfl) rfl ?_
    refine ao_read trivial (r_assign rfl) rfl ?_
    refine ao_nil ?_
    refine aq_then ?_
    refine aw_ret ?_
    refine aq_ret ?_
    obtain rfl := is_some h
    exact aq_finx (l := [.tmp 2]) (xs := [.os 2]) (rn [(0, 2)]) [.os 0] [(0, .row (.int .i64) (([] ++ x0) : (List Int)))] rfl (by exact ⟨rfl, trivial⟩) (by exact ⟨ad_ren rfl, trivial⟩) (by exact ⟨⟨_, rfl, rfl⟩, trivial⟩) rfl (nk rfl) rfl rfl ⟨rfl, rfl⟩
theorem c_impl_Tavern_own {x0 : ((List (List Int)) × (Int × ((List Int) × (Int × (Int × (Int × Unit))))))} {r : ((List (List Int)) × (Int × ((List Int) × (Int × (Int × (Int × Unit))))))} (h : Is (p_impl_Tavern_own x0) (some r)) :
    ACalls Try.prog 62 [.v (.pair (.slice (.arr 6 (.int .i64))) (.pair (.int .i64) (.pair (.slice (.int .i64)) (.pair (.int .i64) (.pair (.int .i64) (.pair (.int .i64) .unit)))))) x0] [] (fun r' H' => r' = .st [.os 0, .int .i64 r.2.1, .os 1, .int .i64 r.2.2.2.1, .int .i64 r.2.2.2.2.1, .int .i64 r.2.2.2.2.2.1] ∧ H' = [(0, .row (.arr 6 (.int .i64)) r.1), (1, .row (.int .i64) r.2.2.1)]) := by
  unfold p_impl_Tavern_own at h
  refine ac_enter ⟨12, 0⟩ Try.func62 rfl rfl rfl rfl rfl (fun Γ => ?_)
  refine aw_seq ?_
  refine aw_region ?_
  refine ao_eff trivial (e_box 0 rfl rfl rfl rfl rfl rfl) rfl ?_
  refine ao_eff trivial (e_alloc 1 (y := .st [.nilsl, .int .i64 0, .nilsl, .int .i64 0, .int .i64 0, .int .i64 0]) Try.zeroValue35 (fun ρ h M => ra_zero_st (t := (.pair (.slice (.arr 6 (.int .i64))) (.pair (.int .i64) (.pair (.slice (.int .i64)) (.pair (.int .i64) (.pair (.int .i64) (.pair (.int .i64) .unit))))))) rfl rfl rfl) rfl rfl rfl rfl rfl) rfl ?_
  refine ao_nil ?_
  refine aq_then ?_
  refine aw_seq ?_
  obtain ⟨r1, r1h, h⟩ := is_bind h
  obtain ⟨r3, r3h, h⟩ := is_bind h
  refine aw_draw 7 (by kernel_rfl) (by kernel_rfl) ?_
  refine an_to [(1, .ref 0 0), (2, .ref 1 0), (5, .os 2), (8, .os 3), (9, .ref 0 0)] [(0, .var [.cell (.v (.slice (.arr 6 (.int .i64))) x0.1), .cell (.int .i64 x0.2.1), .cell (.v (.slice (.int .i64)) x0.2.2.1), .cell (.int .i64 x0.2.2.2.1), .cell (.int .i64 x0.2.2.2.2.1), .cell (.int .i64 x0.2.2.2.2.2.1)]), (1, .var [.cell (.nilsl), .cell (.int .i64 0), .cell (.nilsl), .cell (.int .i64 0), .cell (.int .i64 0), .cell (.int .i64 0)]), (2, .row (.arr 6 (.int .i64)) r1), (3, .row (.int .i64) r3)] ?_ (fun key => ?_)
  · refine aq_tail rfl ?_
    refine ao_effS trivial (e_store rfl rfl rfl rfl Try.sizeOf29 rfl) ?_
    refine ao_read trivial (r_fieldAddr Try.underlying35 rfl Try.sizeOf30 rfl rfl rfl) rfl ?_
    refine ao_effS trivial (e_store rfl rfl rfl rfl Try.sizeOf30 rfl) ?_
    refine ao_nil ?_
    refine aq_then ?_
    refine aw_seq ?_
    refine aw_region ?_
    refine ao_read trivial (r_load_st [] [.cell (.os 2), .cell (.int .i64 x0.2.1), .cell (.os 3), .cell (.int .i64 x0.2.2.2.1), .cell (.int .i64 x0.2.2.2.2.1), .cell (.int .i64 x0.2.2.2.2.2.1)] [] Try.isAgg35 Try.sizeOf35 rfl rfl rfl rfl rfl rfl rfl) rfl ?_
    refine ao_effS trivial (e_store rfl rfl rfl rfl Try.sizeOf35 rfl) ?_
    refine ao_nil ?_
    refine aq_then ?_
    refine aw_ret ?_
    refine aq_ret ?_
    obtain rfl := is_some h
    exact aq_finx (l := [.cell 2 35]) (xs := [.st [.os 2, .int .i64 x0.2.1, .os 3, .int .i64 x0.2.2.2.1, .int .i64 x0.2.2.2.2.1, .int .i64 x0.2.2.2.2.2.1]]) (rn [(0, 2), (1, 3)]) [.st [.os 0, .int .i64 x0.2.1, .os 1, .int .i64 x0.2.2.2.1, .int .i64 x0.2.2.2.2.1, .int .i64 x0.2.2.2.2.2.1]] [(0, .row (.arr 6 (.int .i64)) r1), (1, .row (.int .i64) r3)] rfl (by exact ⟨⟨⟨_, _, rfl⟩, r_load_st [] [.cell (.os 2), .cell (.int .i64 x0.2.1), .cell (.os 3), .cell (.int .i64 x0.2.2.2.1), .cell (.int .i64 x0.2.2.2.2.1), .cell (.int .i64 x0.2.2.2.2.2.1)] [] Try.isAgg35 Try.sizeOf35 rfl rfl rfl rfl rfl rfl rfl⟩, trivial⟩) (by exact ⟨ad_ren rfl, trivial⟩) (by exact ⟨⟨_, rfl, rfl⟩, ⟨_, rfl, rfl⟩, trivial⟩) rfl (nk rfl) rfl rfl ⟨rfl, rfl⟩
  · refine an_read 0 (by kernel_rfl) (fun _ _ _ h => h) rfl (by kernel_rfl) trivial (r_fieldAddr Try.underlying35 rfl Try.sizeOf29 rfl rfl rfl) rfl ?_
    refine an_read 1 (by kernel_rfl) (fun _ _ _ h => h) rfl (by kernel_rfl) trivial (r_load_cell Try.isAgg29 rfl rfl rfl) rfl ?_
    refine an_read 3 (by kernel_rfl) (fun _ _ _ h => h) rfl (by kernel_rfl) trivial (r_fieldAddr Try.underlying35 rfl Try.sizeOf30 rfl rfl rfl) rfl ?_
    refine an_read 4 (by kernel_rfl) (fun _ _ _ h => h) rfl (by kernel_rfl) trivial (r_load_cell Try.isAgg30 rfl rfl rfl) rfl ?_
    refine an_explore 2 rfl ?_
    refine ax_all [2] (by kernel_rfl) ⟨?_, trivial⟩
    refine axo_call 2 2 rfl trivial (c_slices_Clone_6_int_6_int (is_mk r1h)) Try.func57 rfl rfl rfl rfl ⟨ad_ren rfl, trivial⟩ rfl rfl rfl rfl (fun r' H' hr => ?_)
    obtain ⟨rfl, rfl⟩ := hr
    refine ax_all [5, 6] (by kernel_rfl) ⟨?_, ?_, trivial⟩
    · refine axo_call 5 3 rfl trivial (c_slices_Clone_int_int (is_mk r3h)) Try.func80 rfl rfl rfl rfl ⟨ad_ren rfl, trivial⟩ rfl rfl rfl rfl (fun r' H' hr => ?_)
      obtain ⟨rfl, rfl⟩ := hr
      refine ax_all [6] (by kernel_rfl) ⟨?_, trivial⟩
      refine axo_read 6 rfl trivial (r_fieldAddr Try.underlying35 rfl Try.sizeOf29 rfl rfl rfl) rfl ?_
      exact ax_done rfl (AQ.sub (sub_mk idn (by exact ⟨⟨_, rfl, ad_ren rfl⟩, ⟨_, rfl, ad_ren rfl⟩, ⟨_, rfl, ad_ren rfl⟩, ⟨_, rfl, ad_ren rfl⟩, ⟨_, rfl, ad_ren rfl⟩, trivial⟩) (by exact ⟨⟨_, rfl, ⟨ad_ren rfl, rfl, ad_ren rfl, rfl, ad_ren rfl, rfl, ad_ren rfl, rfl, ad_ren rfl, rfl, ad_ren rfl, rfl, trivial⟩⟩, ⟨_, rfl, ⟨ad_ren rfl, rfl, ad_ren rfl, rfl, ad_ren rfl, rfl, ad_ren rfl, rfl, ad_ren rfl, rfl, ad_ren rfl, rfl, trivial⟩⟩, ⟨_, rfl, rfl⟩, ⟨_, rfl, rfl⟩, trivial⟩) (by rfl) (nk rfl)) key)
    · refine axo_read 6 rfl trivial (r_fieldAddr Try.underlying35 rfl Try.sizeOf29 rfl rfl rfl) rfl ?_
      refine ax_all [5] (by kernel_rfl) ⟨?_, trivial⟩
      refine axo_call 5 3 rfl trivial (c_slices_Clone_int_int (is_mk r3h)) Try.func80 rfl rfl rfl rfl ⟨ad_ren rfl, trivial⟩ rfl rfl rfl rfl (fun r' H' hr => ?_)
      obtain ⟨rfl, rfl⟩ := hr
      exact ax_done rfl (AQ.sub (sub_mk idn (by exact ⟨⟨_, rfl, ad_ren rfl⟩, ⟨_, rfl, ad_ren rfl⟩, ⟨_, rfl, ad_ren rfl⟩, ⟨_, rfl, ad_ren rfl⟩, ⟨_, rfl, ad_ren rfl⟩, trivial⟩) (by exact ⟨⟨_, rfl, ⟨ad_ren rfl, rfl, ad_ren rfl, rfl, ad_ren rfl, rfl, ad_ren rfl, rfl, ad_ren rfl, rfl, ad_ren rfl, rfl, trivial⟩⟩, ⟨_, rfl, ⟨ad_ren rfl, rfl, ad_ren rfl, rfl, ad_ren rfl, rfl, ad_ren rfl, rfl, ad_ren rfl, rfl, ad_ren rfl, rfl, trivial⟩⟩, ⟨_, rfl, rfl⟩, ⟨_, rfl, rfl⟩, trivial⟩) (by rfl) (nk rfl)) key)
theorem c_impl_NewConsole {fu : Nat} {x0 : ((List (List Int)) × (Int × ((List Int) × (Int × (Int × (Int × Unit))))))} {r : (((List (List Int)) × (Int × ((List Int) × (Int × (Int × (Int × Unit)))))) × ((ByteArray × (ByteArray × (Int × Unit))) × Unit)) × Bool} (h : Is (p_impl_NewConsole fu x0) (some r)) :
    ACalls Try.prog 30 [.v (.pair (.slice (.arr 6 (.int .i64))) (.pair (.int .i64) (.pair (.slice (.int .i64)) (.pair (.int .i64) (.pair (.int .i64) (.pair (.int .i64) .unit)))))) x0] [] (fun r' H' => r' = .tup [.st [.os 0, .int .i64 r.1.1.2.1, .os 1, .int .i64 r.1.1.2.2.2.1, .int .i64 r.1.1.2.2.2.2.1, .int .i64 r.1.1.2.2.2.2.2.1, .str r.1.2.1.1, .str r.1.2.1.2.1, .int .i64 r.1.2.1.2.2.1], .bool r.2] ∧ H' = [(0, .row (.arr 6 (.int .i64)) r.1.1.1), (1, .row (.int .i64) r.1.1.2.2.1)]) := by
  unfold p_impl_NewConsole at h
  refine ac_enter ⟨11, 0⟩ Try.func30 rfl rfl rfl rfl rfl (fun Γ => ?_)
  refine aw_seq ?_
  refine aw_region ?_
  refine ao_eff trivial (e_box 0 rfl rfl rfl rfl rfl rfl) rfl ?_
  refine ao_eff trivial (e_alloc 1 (y := .st [.nilsl, .int .i64 0, .nilsl, .int .i64 0, .int .i64 0, .int .i64 0, .str ByteArray.empty, .str ByteArray.empty, .int .i64 0]) Try.zeroValue51 (fun ρ h M => ra_zero_st (t := (.pair (.pair (.slice (.arr 6 (.int .i64))) (.pair (.int .i64) (.pair (.slice (.int .i64)) (.pair (.int .i64) (.pair (.int .i64) (.pair (.int .i64) .unit)))))) (.pair (.pair .str (.pair .str (.pair (.int .i64) .unit))) .unit))) rfl rfl rfl) rfl rfl rfl rfl rfl) rfl ?_
  refine ao_read trivial (r_assign rfl) rfl ?_
  refine ao_nil ?_
  refine aq_then ?_
  refine aw_seq ?_
  refine aw_seq ?_
  refine aw_region ?_
  refine ao_read trivial (r_load_part (τ := (.pair (.slice (.arr 6 (.int .i64))) (.pair (.int .i64) (.pair (.slice (.int .i64)) (.pair (.int .i64) (.pair (.int .i64) (.pair (.int .i64) .unit))))))) (y := ((x0.1, (x0.2.1, (x0.2.2.1, (x0.2.2.2.1, (x0.2.2.2.2.1, (x0.2.2.2.2.2.1, ())))))) : ((List (List Int)) × (Int × ((List Int) × (Int × (Int × (Int × Unit)))))))) [] [] rfl Try.isAgg35 Try.sizeOf35 rfl rfl rfl rfl) rfl ?_
  obtain ⟨r1, r1h, h⟩ := is_bind h
  refine ao_scall trivial (scall (c_impl_IsTavern (is_mk r1h)) rfl Try.func17 rfl rfl rfl rfl (fun σ => ⟨ad_ren rfl, trivial⟩)) rfl ?_
  refine ao_read trivial (r_not rfl) rfl ?_
  refine ao_nil ?_
  refine aq_then ?_
  refine aw_cond rfl (fun hb2 => ?_) (fun hb2 => ?_)
  · replace h := is_else (ne_t (not_t hb2)) h
    refine aw_seq ?_
    refine aw_region ?_
    refine ao_read trivial (r_build_st (l := []) (cs := [.cell (.nilsl), .cell (.int .i64 0), .cell (.nilsl), .cell (.int .i64 0), .cell (.int .i64 0), .cell (.int .i64 0), .cell (.str ByteArray.empty), .cell (.str ByteArray.empty), .cell (.int .i64 0)]) (.pair (.pair (.slice (.arr 6 (.int .i64))) (.pair (.int .i64) (.pair (.slice (.int .i64)) (.pair (.int .i64) (.pair (.int .i64) (.pair (.int .i64) .unit)))))) (.pair (.pair .str (.pair .str (.pair (.int .i64) .unit))) .unit)) [(0, 6), (6, 3)] Try.underlying51 Try.zeroValue51 rfl ⟨rfl, Try.sizeOf35, rfl, Try.sizeOf49, trivial⟩ rfl rfl rfl) rfl ?_
    refine ao_effS trivial (e_store rfl rfl rfl rfl Try.sizeOf51 rfl) ?_
    refine ao_read trivial (r_assign rfl) rfl ?_
    refine ao_nil ?_
    refine aq_then ?_
    refine aw_ret ?_
    refine aq_then_ret ?_
    refine aq_ret ?_
    obtain rfl := is_some h
    refine AQ.sub (sub_nil_cell (t := (.arr 6 (.int .i64))) (i := 1) 2 [] [.cell (.int .i64 0), .cell (.nilsl), .cell (.int .i64 0), .cell (.int .i64 0), .cell (.int .i64 0), .cell (.str ByteArray.empty), .cell (.str ByteArray.empty), .cell (.int .i64 0)] rfl rfl rfl) ?_
    refine AQ.sub (sub_nil_cell (t := (.int .i64)) (i := 1) 3 [.cell (.os 2), .cell (.int .i64 0)] [.cell (.int .i64 0), .cell (.int .i64 0), .cell (.int .i64 0), .cell (.str ByteArray.empty), .cell (.str ByteArray.empty), .cell (.int .i64 0)] rfl rfl rfl) ?_
    exact aq_finx (l := [.cell 2 51, .tmp 3]) (xs := [.st [.os 2, .int .i64 0, .os 3, .int .i64 0, .int .i64 0, .int .i64 0, .str ByteArray.empty, .str ByteArray.empty, .int .i64 0], .bool false]) (rn [(0, 2), (1, 3)]) [.st [.os 0, .int .i64 0, .os 1, .int .i64 0, .int .i64 0, .int .i64 0, .str ByteArray.empty, .str ByteArray.empty, .int .i64 0], .bool false] [(0, .row (.arr 6 (.int .i64)) ([] : (List (List Int)))), (1, .row (.int .i64) ([] : (List Int)))] rfl (by exact ⟨⟨⟨_, _, rfl⟩, r_load_st [] [.cell (.os 2), .cell (.int .i64 0), .cell (.os 3), .cell (.int .i64 0), .cell (.int .i64 0), .cell (.int .i64 0), .cell (.str ByteArray.empty), .cell (.str ByteArray.empty), .cell (.int .i64 0)] [] Try.isAgg51 Try.sizeOf51 rfl rfl rfl rfl rfl rfl rfl⟩, rfl, trivial⟩) (by exact ⟨ad_ren rfl, ad_ren rfl, trivial⟩) (by exact ⟨⟨_, rfl, rfl⟩, ⟨_, rfl, rfl⟩, trivial⟩) rfl (nk rfl) rfl rfl ⟨rfl, rfl⟩
  · replace h := is_if (not_f hb2) h
    refine aw_skip ?_
    refine aq_then ?_
    refine aw_seq ?_
    refine aw_region ?_
    refine ao_read trivial (r_load_part (τ := (.pair (.slice (.arr 6 (.int .i64))) (.pair (.int .i64) (.pair (.slice (.int .i64)) (.pair (.int .i64) (.pair (.int .i64) (.pair (.int .i64) .unit))))))) (y := ((x0.1, (x0.2.1, (x0.2.2.1, (x0.2.2.2.1, (x0.2.2.2.2.1, (x0.2.2.2.2.2.1, ())))))) : ((List (List Int)) × (Int × ((List Int) × (Int × (Int × (Int × Unit)))))))) [] [] rfl Try.isAgg35 Try.sizeOf35 rfl rfl rfl rfl) rfl ?_
    obtain ⟨r3, r3h, h⟩ := is_bind h
    refine ao_call [] 4 trivial (c_impl_Tavern_own (is_mk r3h)) Try.func62 rfl rfl rfl rfl ⟨ad_ren rfl, trivial⟩ trivial rfl rfl rfl rfl rfl rfl rfl (fun r' H' hr => ?_)
    obtain ⟨rfl, rfl⟩ := hr
    refine ao_norm (y := .st [.os 4, .int .i64 r3.2.1, .os 5, .int .i64 r3.2.2.2.1, .int .i64 r3.2.2.2.2.1, .int .i64 r3.2.2.2.2.2.1]) (H' := [(1, .var [.cell (.nilsl), .cell (.int .i64 0), .cell (.nilsl), .cell (.int .i64 0), .cell (.int .i64 0), .cell (.int .i64 0), .cell (.str ByteArray.empty), .cell (.str ByteArray.empty), .cell (.int .i64 0)]), (0, .var [.cell (.v (.slice (.arr 6 (.int .i64))) x0.1), .cell (.int .i64 x0.2.1), .cell (.v (.slice (.int .i64)) x0.2.2.1), .cell (.int .i64 x0.2.2.2.1), .cell (.int .i64 x0.2.2.2.2.1), .cell (.int .i64 x0.2.2.2.2.2.1)]), (4, .row (.arr 6 (.int .i64)) r3.1), (5, .row (.int .i64) r3.2.2.1)]) rfl rfl ?_
    refine row_len_o 4 (r3.1.length : Int) rfl rfl (fun hr4 => ?_)
    refine row_len_o 5 (r3.2.2.1.length : Int) rfl rfl (fun hr5 => ?_)
    refine ao_read trivial (r_build_st (l := [(0, .tmp 9)]) (cs := [.cell (.os 4), .cell (.int .i64 r3.2.1), .cell (.os 5), .cell (.int .i64 r3.2.2.2.1), .cell (.int .i64 r3.2.2.2.2.1), .cell (.int .i64 r3.2.2.2.2.2.1), .cell (.str ByteArray.empty), .cell (.str ByteArray.empty), .cell (.int .i64 0)]) (.pair (.pair (.slice (.arr 6 (.int .i64))) (.pair (.int .i64) (.pair (.slice (.int .i64)) (.pair (.int .i64) (.pair (.int .i64) (.pair (.int .i64) .unit)))))) (.pair (.pair .str (.pair .str (.pair (.int .i64) .unit))) .unit)) [(0, 6), (6, 3)] Try.underlying51 Try.zeroValue51 rfl ⟨rfl, Try.sizeOf35, rfl, Try.sizeOf49, trivial⟩ rfl rfl rfl) rfl ?_
    refine ao_effS trivial (e_store rfl rfl rfl rfl Try.sizeOf51 rfl) ?_
    refine ao_read trivial (r_assign rfl) rfl ?_
    refine ao_nil ?_
    refine aq_then ?_
    refine aw_ret ?_
    refine aq_ret ?_
    obtain rfl := is_some h
    exact aq_finx (l := [.cell 2 51, .tmp 3]) (xs := [.st [.os 4, .int .i64 r3.2.1, .os 5, .int .i64 r3.2.2.2.1, .int .i64 r3.2.2.2.2.1, .int .i64 r3.2.2.2.2.2.1, .str ByteArray.empty, .str ByteArray.empty, .int .i64 0], .bool true]) (rn [(0, 4), (1, 5)]) [.st [.os 0, .int .i64 r3.2.1, .os 1, .int .i64 r3.2.2.2.1, .int .i64 r3.2.2.2.2.1, .int .i64 r3.2.2.2.2.2.1, .str ByteArray.empty, .str ByteArray.empty, .int .i64 0], .bool true] [(0, .row (.arr 6 (.int .i64)) r3.1), (1, .row (.int .i64) r3.2.2.1)] rfl (by exact ⟨⟨⟨_, _, rfl⟩, r_load_st [] [.cell (.os 4), .cell (.int .i64 r3.2.1), .cell (.os 5), .cell (.int .i64 r3.2.2.2.1), .cell (.int .i64 r3.2.2.2.2.1), .cell (.int .i64 r3.2.2.2.2.2.1), .cell (.str ByteArray.empty), .cell (.str ByteArray.empty), .cell (.int .i64 0)] [] Try.isAgg51 Try.sizeOf51 rfl rfl rfl rfl rfl rfl rfl⟩, rfl, trivial⟩) (by exact ⟨ad_ren rfl, ad_ren rfl, trivial⟩) (by exact ⟨⟨_, rfl, rfl⟩, ⟨_, rfl, rfl⟩, trivial⟩) rfl (nk rfl) rfl rfl ⟨rfl, rfl⟩
theorem c_laws_eqLog {x0 : (ByteArray × (ByteArray × (Int × Unit)))} {x1 : (ByteArray × (ByteArray × (Int × Unit)))} {r : Bool} (h : Is (p_laws_eqLog x0 x1) r) :
    Scalar Try.prog 63 [.v (.pair .str (.pair .str (.pair (.int .i64) .unit))) x0, .v (.pair .str (.pair .str (.pair (.int .i64) .unit))) x1] (.bool r) := by
  unfold p_laws_eqLog at h
  refine ac_enter ⟨20, 0⟩ Try.func63 rfl rfl rfl rfl rfl (fun Γ => ?_)
  refine aw_seq ?_
  refine aw_region ?_
  refine ao_eff trivial (e_box 0 rfl rfl rfl rfl rfl rfl) rfl ?_
  refine ao_eff trivial (e_box 1 rfl rfl rfl rfl rfl rfl) rfl ?_
  refine ao_read trivial (r_assign rfl) rfl ?_
  refine ao_nil ?_
  refine aq_then ?_
  refine aw_seq ?_
  refine aw_seq ?_
  refine aw_region ?_
  refine ao_read trivial (r_fieldAddr Try.underlying49 rfl Try.sizeOf9 rfl rfl rfl) rfl ?_
  refine ao_read trivial (r_load_cell Try.isAgg9 rfl rfl rfl) rfl ?_
  refine ao_read trivial (r_fieldAddr Try.underlying49 rfl Try.sizeOf9 rfl rfl rfl) rfl ?_
  refine ao_read trivial (r_load_cell Try.isAgg9 rfl rfl rfl) rfl ?_
  refine ao_read trivial (r_neq_str rfl rfl) rfl ?_
  refine ao_nil ?_
  refine aq_then ?_
  refine aw_cond rfl (fun hb1 => ?_) (fun hb1 => ?_)
  · replace h := is_else (ne_t (not_t hb1)) h
    refine aw_seq ?_
    refine aw_region ?_
    refine ao_read trivial (r_assign rfl) rfl ?_
    refine ao_nil ?_
    refine aq_then ?_
    refine aw_ret ?_
    refine aq_then_ret ?_
    refine aq_ret ?_
    obtain rfl := is_eq h
    exact aq_finx (l := [.tmp 4]) (xs := [.bool false]) idn [.bool false] [] rfl (by exact ⟨rfl, trivial⟩) (by exact ⟨ad_ren rfl, trivial⟩) (by exact trivial) rfl (nk rfl) rfl rfl ⟨rfl, rfl⟩
  · replace h := is_if (not_f hb1) h
    refine aw_skip ?_
    refine aq_then ?_
    refine aw_seq ?_
    refine aw_seq ?_
    refine aw_region ?_
    refine ao_read trivial (r_fieldAddr Try.underlying49 rfl Try.sizeOf9 rfl rfl rfl) rfl ?_
    refine ao_read trivial (r_load_cell Try.isAgg9 rfl rfl rfl) rfl ?_
    refine ao_read trivial (r_fieldAddr Try.underlying49 rfl Try.sizeOf9 rfl rfl rfl) rfl ?_
    refine ao_read trivial (r_load_cell Try.isAgg9 rfl rfl rfl) rfl ?_
    refine ao_read trivial (r_neq_str rfl rfl) rfl ?_
    refine ao_nil ?_
    refine aq_then ?_
    refine aw_cond rfl (fun hb2 => ?_) (fun hb2 => ?_)
    · replace h := is_else (ne_t (not_t hb2)) h
      refine aw_seq ?_
      refine aw_region ?_
      refine ao_read trivial (r_assign rfl) rfl ?_
      refine ao_nil ?_
      refine aq_then ?_
      refine aw_ret ?_
      refine aq_then_ret ?_
      refine aq_ret ?_
      obtain rfl := is_eq h
      exact aq_finx (l := [.tmp 4]) (xs := [.bool false]) idn [.bool false] [] rfl (by exact ⟨rfl, trivial⟩) (by exact ⟨ad_ren rfl, trivial⟩) (by exact trivial) rfl (nk rfl) rfl rfl ⟨rfl, rfl⟩
    · replace h := is_if (not_f hb2) h
      refine aw_skip ?_
      refine aq_then ?_
      refine aw_seq ?_
      refine aw_seq ?_
      refine aw_region ?_
      refine ao_read trivial (r_fieldAddr Try.underlying49 rfl Try.sizeOf3 rfl rfl rfl) rfl ?_
      refine ao_read trivial (r_load_cell Try.isAgg3 rfl rfl rfl) rfl ?_
      refine ao_read trivial (r_fieldAddr Try.underlying49 rfl Try.sizeOf3 rfl rfl rfl) rfl ?_
      refine ao_read trivial (r_load_cell Try.isAgg3 rfl rfl rfl) rfl ?_
      refine ao_read trivial (r_neq rfl rfl) rfl ?_
      refine ao_nil ?_
      refine aq_then ?_
      refine aw_cond rfl (fun hb3 => ?_) (fun hb3 => ?_)
      · have q4 := d_f (not_t hb3)
        replace h := is_else (d_f (not_t hb3)) h
        refine aw_seq ?_
        refine aw_region ?_
        refine ao_read trivial (r_assign rfl) rfl ?_
        refine ao_nil ?_
        refine aq_then ?_
        refine aw_ret ?_
        refine aq_then_ret ?_
        refine aq_ret ?_
        obtain rfl := is_eq h
        exact aq_finx (l := [.tmp 4]) (xs := [.bool false]) idn [.bool false] [] rfl (by exact ⟨rfl, trivial⟩) (by exact ⟨ad_ren rfl, trivial⟩) (by exact trivial) rfl (nk rfl) rfl rfl ⟨rfl, rfl⟩
      · have q5 := d_t (not_f hb3)
        replace h := is_if (d_t (not_f hb3)) h
        refine aw_skip ?_
        refine aq_then ?_
        refine aw_seq ?_
        refine aw_region ?_
        refine ao_read trivial (r_assign rfl) rfl ?_
        refine ao_nil ?_
        refine aq_then ?_
        refine aw_ret ?_
        refine aq_ret ?_
        obtain rfl := is_eq h
        exact aq_finx (l := [.tmp 4]) (xs := [.bool true]) idn [.bool true] [] rfl (by exact ⟨rfl, trivial⟩) (by exact ⟨ad_ren rfl, trivial⟩) (by exact trivial) rfl (nk rfl) rfl rfl ⟨rfl, rfl⟩
theorem c_laws_eqConsole {x0 : (((List (List Int)) × (Int × ((List Int) × (Int × (Int × (Int × Unit)))))) × ((ByteArray × (ByteArray × (Int × Unit))) × Unit))} {x1 : (((List (List Int)) × (Int × ((List Int) × (Int × (Int × (Int × Unit)))))) × ((ByteArray × (ByteArray × (Int × Unit))) × Unit))} {r : Bool} (h : Is (p_laws_eqConsole x0 x1) r) :
    Scalar Try.prog 31 [.v (.pair (.pair (.slice (.arr 6 (.int .i64))) (.pair (.int .i64) (.pair (.slice (.int .i64)) (.pair (.int .i64) (.pair (.int .i64) (.pair (.int .i64) .unit)))))) (.pair (.pair .str (.pair .str (.pair (.int .i64) .unit))) .unit)) x0, .v (.pair (.pair (.slice (.arr 6 (.int .i64))) (.pair (.int .i64) (.pair (.slice (.int .i64)) (.pair (.int .i64) (.pair (.int .i64) (.pair (.int .i64) .unit)))))) (.pair (.pair .str (.pair .str (.pair (.int .i64) .unit))) .unit)) x1] (.bool r) := by
  unfold p_laws_eqConsole at h
  refine ac_enter ⟨17, 0⟩ Try.func31 rfl rfl rfl rfl rfl (fun Γ => ?_)
  refine aw_seq ?_
  refine aw_region ?_
  refine ao_eff trivial (e_box 0 rfl rfl rfl rfl rfl rfl) rfl ?_
  refine ao_eff trivial (e_box 1 rfl rfl rfl rfl rfl rfl) rfl ?_
  refine ao_read trivial (r_assign rfl) rfl ?_
  refine ao_nil ?_
  refine aq_then ?_
  refine aw_seq ?_
  refine aw_seq ?_
  refine aw_region ?_
  refine ao_read trivial (r_fieldAddr Try.underlying51 rfl Try.sizeOf35 rfl rfl rfl) rfl ?_
  refine ao_read trivial (r_load_part (τ := (.pair (.slice (.arr 6 (.int .i64))) (.pair (.int .i64) (.pair (.slice (.int .i64)) (.pair (.int .i64) (.pair (.int .i64) (.pair (.int .i64) .unit))))))) (y := ((x0.1.1, (x0.1.2.1, (x0.1.2.2.1, (x0.1.2.2.2.1, (x0.1.2.2.2.2.1, (x0.1.2.2.2.2.2.1, ())))))) : ((List (List Int)) × (Int × ((List Int) × (Int × (Int × (Int × Unit)))))))) [] [.cell (.str x0.2.1.1), .cell (.str x0.2.1.2.1), .cell (.int .i64 x0.2.1.2.2.1)] rfl Try.isAgg35 Try.sizeOf35 rfl rfl rfl rfl) rfl ?_
  refine ao_read trivial (r_fieldAddr Try.underlying51 rfl Try.sizeOf35 rfl rfl rfl) rfl ?_
  refine ao_read trivial (r_load_part (τ := (.pair (.slice (.arr 6 (.int .i64))) (.pair (.int .i64) (.pair (.slice (.int .i64)) (.pair (.int .i64) (.pair (.int .i64) (.pair (.int .i64) .unit))))))) (y := ((x1.1.1, (x1.1.2.1, (x1.1.2.2.1, (x1.1.2.2.2.1, (x1.1.2.2.2.2.1, (x1.1.2.2.2.2.2.1, ())))))) : ((List (List Int)) × (Int × ((List Int) × (Int × (Int × (Int × Unit)))))))) [] [.cell (.str x1.2.1.1), .cell (.str x1.2.1.2.1), .cell (.int .i64 x1.2.1.2.2.1)] rfl Try.isAgg35 Try.sizeOf35 rfl rfl rfl rfl) rfl ?_
  refine ao_scall trivial (scall (c_laws_eqTavern (is_mk (rfl : p_laws_eqTavern (x0.1.1, (x0.1.2.1, (x0.1.2.2.1, (x0.1.2.2.2.1, (x0.1.2.2.2.2.1, (x0.1.2.2.2.2.2.1, ())))))) (x1.1.1, (x1.1.2.1, (x1.1.2.2.1, (x1.1.2.2.2.1, (x1.1.2.2.2.2.1, (x1.1.2.2.2.2.2.1, ())))))) = _))) rfl Try.func18 rfl rfl rfl rfl (fun σ => ⟨ad_ren rfl, ad_ren rfl, trivial⟩)) rfl ?_
  refine ao_read trivial (r_not rfl) rfl ?_
  refine ao_nil ?_
  refine aq_then ?_
  refine aw_cond rfl (fun hb1 => ?_) (fun hb1 => ?_)
  · replace h := is_else (ne_t (not_t hb1)) h
    refine aw_seq ?_
    refine aw_region ?_
    refine ao_read trivial (r_assign rfl) rfl ?_
    refine ao_nil ?_
    refine aq_then ?_
    refine aw_ret ?_
    refine aq_then_ret ?_
    refine aq_ret ?_
    obtain rfl := is_eq h
    exact aq_finx (l := [.tmp 4]) (xs := [.bool false]) idn [.bool false] [] rfl (by exact ⟨rfl, trivial⟩) (by exact ⟨ad_ren rfl, trivial⟩) (by exact trivial) rfl (nk rfl) rfl rfl ⟨rfl, rfl⟩
  · replace h := is_if (not_f hb1) h
    refine aw_skip ?_
    refine aq_then ?_
    refine aw_seq ?_
    refine aw_seq ?_
    refine aw_region ?_
    refine ao_read trivial (r_fieldAddr Try.underlying51 rfl Try.sizeOf49 rfl rfl rfl) rfl ?_
    refine ao_read trivial (r_load_part (τ := (.pair .str (.pair .str (.pair (.int .i64) .unit)))) (y := ((x0.2.1.1, (x0.2.1.2.1, (x0.2.1.2.2.1, ()))) : (ByteArray × (ByteArray × (Int × Unit))))) [.cell (.v (.slice (.arr 6 (.int .i64))) x0.1.1), .cell (.int .i64 x0.1.2.1), .cell (.v (.slice (.int .i64)) x0.1.2.2.1), .cell (.int .i64 x0.1.2.2.2.1), .cell (.int .i64 x0.1.2.2.2.2.1), .cell (.int .i64 x0.1.2.2.2.2.2.1)] [] rfl Try.isAgg49 Try.sizeOf49 rfl rfl rfl rfl) rfl ?_
    refine ao_read trivial (r_fieldAddr Try.underlying51 rfl Try.sizeOf49 rfl rfl rfl) rfl ?_
    refine ao_read trivial (r_load_part (τ := (.pair .str (.pair .str (.pair (.int .i64) .unit)))) (y := ((x1.2.1.1, (x1.2.1.2.1, (x1.2.1.2.2.1, ()))) : (ByteArray × (ByteArray × (Int × Unit))))) [.cell (.v (.slice (.arr 6 (.int .i64))) x1.1.1), .cell (.int .i64 x1.1.2.1), .cell (.v (.slice (.int .i64)) x1.1.2.2.1), .cell (.int .i64 x1.1.2.2.2.1), .cell (.int .i64 x1.1.2.2.2.2.1), .cell (.int .i64 x1.1.2.2.2.2.2.1)] [] rfl Try.isAgg49 Try.sizeOf49 rfl rfl rfl rfl) rfl ?_
    refine ao_scall trivial (scall (c_laws_eqLog (is_mk (rfl : p_laws_eqLog (x0.2.1.1, (x0.2.1.2.1, (x0.2.1.2.2.1, ()))) (x1.2.1.1, (x1.2.1.2.1, (x1.2.1.2.2.1, ()))) = _))) rfl Try.func63 rfl rfl rfl rfl (fun σ => ⟨ad_ren rfl, ad_ren rfl, trivial⟩)) rfl ?_
    refine ao_read trivial (r_not rfl) rfl ?_
    refine ao_nil ?_
    refine aq_then ?_
    refine aw_cond rfl (fun hb2 => ?_) (fun hb2 => ?_)
    · replace h := is_else (ne_t (not_t hb2)) h
      refine aw_seq ?_
      refine aw_region ?_
      refine ao_read trivial (r_assign rfl) rfl ?_
      refine ao_nil ?_
      refine aq_then ?_
      refine aw_ret ?_
      refine aq_then_ret ?_
      refine aq_ret ?_
      obtain rfl := is_eq h
      exact aq_finx (l := [.tmp 4]) (xs := [.bool false]) idn [.bool false] [] rfl (by exact ⟨rfl, trivial⟩) (by exact ⟨ad_ren rfl, trivial⟩) (by exact trivial) rfl (nk rfl) rfl rfl ⟨rfl, rfl⟩
    · replace h := is_if (not_f hb2) h
      refine aw_skip ?_
      refine aq_then ?_
      refine aw_seq ?_
      refine aw_region ?_
      refine ao_read trivial (r_assign rfl) rfl ?_
      refine ao_nil ?_
      refine aq_then ?_
      refine aw_ret ?_
      refine aq_ret ?_
      obtain rfl := is_eq h
      exact aq_finx (l := [.tmp 4]) (xs := [.bool true]) idn [.bool true] [] rfl (by exact ⟨rfl, trivial⟩) (by exact ⟨ad_ren rfl, trivial⟩) (by exact trivial) rfl (nk rfl) rfl rfl ⟨rfl, rfl⟩
theorem c_laws_markConsole {x0 : (List (List Int))} {x1 : Int} {x2 : (List Int)} {x3 : Int} {x4 : Int} {x5 : Int} {x6 : ByteArray} {x7 : ByteArray} {x8 : Int} {x9 : Int} {r : Int × (List (List Int)) × (List Int)} (h : Is (p_laws_markConsole x0 x1 x2 x3 x4 x5 x6 x7 x8 x9) r) :
    ACalls Try.prog 32 [.st [.os 0, .int .i64 x1, .os 1, .int .i64 x3, .int .i64 x4, .int .i64 x5, .str x6, .str x7, .int .i64 x8], .int .i64 x9] [(0, .row (.arr 6 (.int .i64)) x0), (1, .row (.int .i64) x2)] (fun r' H' => r' = .int .i64 r.1 ∧ H' = [(0, .row (.arr 6 (.int .i64)) r.2.1), (1, .row (.int .i64) r.2.2)]) := by
  unfold p_laws_markConsole at h
  refine ac_enter ⟨10, 2⟩ Try.func32 rfl rfl rfl rfl rfl (fun Γ => ?_)
  refine row_len_m 0 (x0.length : Int) rfl rfl (fun hr0 => ?_)
  refine row_len_m 1 (x2.length : Int) rfl rfl (fun hr1 => ?_)
  refine aw_seq ?_
  refine aw_region ?_
  refine ao_eff trivial (e_box 2 rfl rfl rfl rfl rfl rfl) rfl ?_
  refine ao_read trivial (r_assign rfl) rfl ?_
  refine ao_nil ?_
  refine aq_then ?_
  refine aw_seq ?_
  refine aw_region ?_
  refine ao_read trivial (r_fieldAddr Try.underlying51 rfl Try.sizeOf35 rfl rfl rfl) rfl ?_
  refine ao_read trivial (r_load_st [] [.cell (.os 0), .cell (.int .i64 x1), .cell (.os 1), .cell (.int .i64 x3), .cell (.int .i64 x4), .cell (.int .i64 x5)] [.cell (.str x6), .cell (.str x7), .cell (.int .i64 x8)] Try.isAgg35 Try.sizeOf35 rfl rfl rfl rfl rfl rfl rfl) rfl ?_
  refine ao_read trivial (r_move rfl) rfl ?_
  refine ao_call [0, 1] 3 trivial (c_laws_markTavern (is_mk (rfl : p_laws_markTavern x0 x1 x2 x3 x4 x5 x9 = _))) Try.func27 rfl rfl rfl rfl ⟨ad_ren rfl, ad_ren rfl, trivial⟩ ⟨⟨_, rfl, rfl⟩, ⟨_, rfl, rfl⟩, trivial⟩ rfl rfl rfl rfl rfl rfl rfl (fun r' H' hr => ?_)
  obtain ⟨rfl, rfl⟩ := hr
  refine ao_norm (y := .int .i64 ((p_laws_markTavern x0 x1 x2 x3 x4 x5 x9).1)) (H' := [(2, .var [.cell (.os 0), .cell (.int .i64 x1), .cell (.os 1), .cell (.int .i64 x3), .cell (.int .i64 x4), .cell (.int .i64 x5), .cell (.str x6), .cell (.str x7), .cell (.int .i64 x8)]), (0, .row (.arr 6 (.int .i64)) ((p_laws_markTavern x0 x1 x2 x3 x4 x5 x9).2.1 : (List (List Int)))), (1, .row (.int .i64) ((p_laws_markTavern x0 x1 x2 x3 x4 x5 x9).2.2 : (List Int)))]) rfl rfl ?_
  refine ao_read trivial (r_assign rfl) rfl ?_
  refine ao_nil ?_
  refine aq_then ?_
  refine aw_seq ?_
  refine aw_region ?_
  refine ao_read trivial (r_move rfl) rfl ?_
  refine ao_read trivial (r_assign rfl) rfl ?_
  refine ao_nil ?_
  refine aq_then ?_
  refine aw_ret ?_
  refine aq_ret ?_
  obtain rfl := is_eq h
  exact aq_finx (l := [.tmp 4]) (xs := [.int .i64 ((p_laws_markTavern x0 x1 x2 x3 x4 x5 x9).1)]) idn [.int .i64 ((p_laws_markTavern x0 x1 x2 x3 x4 x5 x9).1)] [(0, .row (.arr 6 (.int .i64)) ((p_laws_markTavern x0 x1 x2 x3 x4 x5 x9).2.1 : (List (List Int)))), (1, .row (.int .i64) ((p_laws_markTavern x0 x1 x2 x3 x4 x5 x9).2.2 : (List Int)))] rfl (by exact ⟨rfl, trivial⟩) (by exact ⟨ad_ren rfl, trivial⟩) (by exact ⟨⟨_, rfl, rfl⟩, ⟨_, rfl, rfl⟩, trivial⟩) rfl (nk2 rfl rfl rfl) rfl rfl ⟨rfl, rfl⟩
theorem c_laws_heldConsole {x0 : (((List (List Int)) × (Int × ((List Int) × (Int × (Int × (Int × Unit)))))) × ((ByteArray × (ByteArray × (Int × Unit))) × Unit))} {x1 : Int} {r : Int} (h : Is (p_laws_heldConsole x0 x1) r) :
    Scalar Try.prog 33 [.v (.pair (.pair (.slice (.arr 6 (.int .i64))) (.pair (.int .i64) (.pair (.slice (.int .i64)) (.pair (.int .i64) (.pair (.int .i64) (.pair (.int .i64) .unit)))))) (.pair (.pair .str (.pair .str (.pair (.int .i64) .unit))) .unit)) x0, .int .i64 x1] (.int .i64 r) := by
  unfold p_laws_heldConsole at h
  refine ac_enter ⟨12, 0⟩ Try.func33 rfl rfl rfl rfl rfl (fun Γ => ?_)
  refine aw_seq ?_
  refine aw_region ?_
  refine ao_eff trivial (e_box 0 rfl rfl rfl rfl rfl rfl) rfl ?_
  refine ao_read trivial (r_assign rfl) rfl ?_
  refine ao_nil ?_
  refine aq_then ?_
  refine aw_seq ?_
  refine aw_region ?_
  refine ao_read trivial (r_fieldAddr Try.underlying51 rfl Try.sizeOf35 rfl rfl rfl) rfl ?_
  refine ao_read trivial (r_load_part (τ := (.pair (.slice (.arr 6 (.int .i64))) (.pair (.int .i64) (.pair (.slice (.int .i64)) (.pair (.int .i64) (.pair (.int .i64) (.pair (.int .i64) .unit))))))) (y := ((x0.1.1, (x0.1.2.1, (x0.1.2.2.1, (x0.1.2.2.2.1, (x0.1.2.2.2.2.1, (x0.1.2.2.2.2.2.1, ())))))) : ((List (List Int)) × (Int × ((List Int) × (Int × (Int × (Int × Unit)))))))) [] [.cell (.str x0.2.1.1), .cell (.str x0.2.1.2.1), .cell (.int .i64 x0.2.1.2.2.1)] rfl Try.isAgg35 Try.sizeOf35 rfl rfl rfl rfl) rfl ?_
  refine ao_read trivial (r_move rfl) rfl ?_
  refine ao_scall trivial (scall (c_laws_heldTavern (is_mk (rfl : p_laws_heldTavern (x0.1.1, (x0.1.2.1, (x0.1.2.2.1, (x0.1.2.2.2.1, (x0.1.2.2.2.2.1, (x0.1.2.2.2.2.2.1, ())))))) x1 = _))) rfl Try.func28 rfl rfl rfl rfl (fun σ => ⟨ad_ren rfl, ad_ren rfl, trivial⟩)) rfl ?_
  refine ao_read trivial (r_assign rfl) rfl ?_
  refine ao_nil ?_
  refine aq_then ?_
  refine aw_seq ?_
  refine aw_seq ?_
  refine aw_region ?_
  refine ao_read trivial (r_move rfl) rfl ?_
  refine ao_read trivial (r_lss rfl rfl) rfl ?_
  refine ao_nil ?_
  refine aq_then ?_
  refine aw_cond rfl (fun hb1 => ?_) (fun hb1 => ?_)
  · have q2 := d_t hb1
    replace h := is_if (d_t hb1) h
    refine aw_seq ?_
    refine aw_region ?_
    refine ao_read trivial (r_assign rfl) rfl ?_
    refine ao_nil ?_
    refine aq_then ?_
    refine aw_ret ?_
    refine aq_then_ret ?_
    refine aq_ret ?_
    obtain rfl := is_eq h
    exact aq_finx (l := [.tmp 4]) (xs := [.int .i64 (-1)]) idn [.int .i64 (-1)] [] rfl (by exact ⟨rfl, trivial⟩) (by exact ⟨ad_ren rfl, trivial⟩) (by exact trivial) rfl (nk rfl) rfl rfl ⟨rfl, rfl⟩
  · have q3 := d_f hb1
    replace h := is_else (d_f hb1) h
    refine aw_skip ?_
    refine aq_then ?_
    refine aw_seq ?_
    refine aw_region ?_
    refine ao_read trivial (r_move rfl) rfl ?_
    refine ao_read trivial (r_assign rfl) rfl ?_
    refine ao_nil ?_
    refine aq_then ?_
    refine aw_ret ?_
    refine aq_ret ?_
    obtain rfl := is_eq h
    exact aq_finx (l := [.tmp 4]) (xs := [.int .i64 (p_laws_heldTavern (x0.1.1, (x0.1.2.1, (x0.1.2.2.1, (x0.1.2.2.2.1, (x0.1.2.2.2.2.1, (x0.1.2.2.2.2.2.1, ())))))) x1)]) idn [.int .i64 (p_laws_heldTavern (x0.1.1, (x0.1.2.1, (x0.1.2.2.1, (x0.1.2.2.2.1, (x0.1.2.2.2.2.1, (x0.1.2.2.2.2.2.1, ())))))) x1)] [] rfl (by exact ⟨rfl, trivial⟩) (by exact ⟨ad_ren rfl, trivial⟩) (by exact trivial) rfl (nk rfl) rfl rfl ⟨rfl, rfl⟩
theorem c_laws_FnExactNewConsole {fu : Nat} {x0 : ((List (List Int)) × (Int × ((List Int) × (Int × (Int × (Int × Unit))))))} {r : Bool} (h : Is (p_laws_FnExactNewConsole fu x0) (some r)) :
    Scalar Try.prog 7 [.v (.pair (.slice (.arr 6 (.int .i64))) (.pair (.int .i64) (.pair (.slice (.int .i64)) (.pair (.int .i64) (.pair (.int .i64) (.pair (.int .i64) .unit)))))) x0] (.bool r) := by
  unfold p_laws_FnExactNewConsole at h
  refine ac_enter ⟨96, 0⟩ Try.func7 rfl rfl rfl rfl rfl (fun Γ => ?_)
  refine aw_seq ?_
  refine aw_region ?_
  refine ao_eff trivial (e_box 0 rfl rfl rfl rfl rfl rfl) rfl ?_
  refine ao_read trivial (r_assign rfl) rfl ?_
  refine ao_nil ?_
  refine aq_then ?_
  refine aw_seq ?_
  refine aw_region ?_
  refine ao_read trivial (r_assign rfl) rfl ?_
  refine ao_nil ?_
  refine aq_then ?_
  refine aw_seq ?_
  refine aw_region ?_
  refine ao_read trivial (r_load_part (τ := (.pair (.slice (.arr 6 (.int .i64))) (.pair (.int .i64) (.pair (.slice (.int .i64)) (.pair (.int .i64) (.pair (.int .i64) (.pair (.int .i64) .unit))))))) (y := ((x0.1, (x0.2.1, (x0.2.2.1, (x0.2.2.2.1, (x0.2.2.2.2.1, (x0.2.2.2.2.2.1, ())))))) : ((List (List Int)) × (Int × ((List Int) × (Int × (Int × (Int × Unit)))))))) [] [] rfl Try.isAgg32 Try.sizeOf32 rfl rfl rfl rfl) rfl ?_
  refine ao_read trivial (r_move rfl) rfl ?_
  refine ao_scall trivial (scall (c_laws_szTavern (is_mk (rfl : p_laws_szTavern (x0.1, (x0.2.1, (x0.2.2.1, (x0.2.2.2.1, (x0.2.2.2.2.1, (x0.2.2.2.2.2.1, ())))))) 1048576 = _))) rfl Try.func14 rfl rfl rfl rfl (fun σ => ⟨ad_ren rfl, ad_ren rfl, trivial⟩)) rfl ?_
  refine ao_read trivial (r_assign rfl) rfl ?_
  refine ao_nil ?_
  refine aq_then ?_
  refine aw_seq ?_
  refine aw_seq ?_
  refine aw_region ?_
  refine ao_read trivial (r_move rfl) rfl ?_
  refine ao_read trivial (r_lss rfl rfl) rfl ?_
  refine ao_nil ?_
  refine aq_then ?_
  refine aw_cond rfl (fun hb1 => ?_) (fun hb1 => ?_)
  · have q2 := d_t hb1
    replace h := is_if (d_t hb1) h
    refine aw_seq ?_
    refine aw_region ?_
    refine ao_read trivial (r_assign rfl) rfl ?_
    refine ao_nil ?_
    refine aq_then ?_
    refine aw_ret ?_
    refine aq_then_ret ?_
    refine aq_ret ?_
    obtain rfl := is_some h
    exact aq_finx (l := [.tmp 2]) (xs := [.bool true]) idn [.bool true] [] rfl (by exact ⟨rfl, trivial⟩) (by exact ⟨ad_ren rfl, trivial⟩) (by exact trivial) rfl (nk rfl) rfl rfl ⟨rfl, rfl⟩
  · have q3 := d_f hb1
    replace h := is_else (d_f hb1) h
    refine aw_skip ?_
    refine aq_then ?_
    refine aw_seq ?_
    refine aw_region ?_
    refine ao_read trivial (r_load_part (τ := (.pair (.slice (.arr 6 (.int .i64))) (.pair (.int .i64) (.pair (.slice (.int .i64)) (.pair (.int .i64) (.pair (.int .i64) (.pair (.int .i64) .unit))))))) (y := ((x0.1, (x0.2.1, (x0.2.2.1, (x0.2.2.2.1, (x0.2.2.2.2.1, (x0.2.2.2.2.2.1, ())))))) : ((List (List Int)) × (Int × ((List Int) × (Int × (Int × (Int × Unit)))))))) [] [] rfl Try.isAgg32 Try.sizeOf32 rfl rfl rfl rfl) rfl ?_
    obtain ⟨r4, r4h, h⟩ := is_bind h
    refine ao_call [] 1 trivial (c_laws_toTavern (is_mk r4h)) Try.func16 rfl rfl rfl rfl ⟨ad_ren rfl, trivial⟩ trivial rfl rfl rfl rfl rfl rfl rfl (fun r' H' hr => ?_)
    obtain ⟨rfl, rfl⟩ := hr
    refine ao_norm (y := .st [.os 1, .int .i64 r4.2.1, .os 2, .int .i64 r4.2.2.2.1, .int .i64 r4.2.2.2.2.1, .int .i64 r4.2.2.2.2.2.1]) (H' := [(0, .var [.cell (.v (.slice (.arr 6 (.int .i64))) x0.1), .cell (.int .i64 x0.2.1), .cell (.v (.slice (.int .i64)) x0.2.2.1), .cell (.int .i64 x0.2.2.2.1), .cell (.int .i64 x0.2.2.2.2.1), .cell (.int .i64 x0.2.2.2.2.2.1)]), (1, .row (.arr 6 (.int .i64)) r4.1), (2, .row (.int .i64) r4.2.2.1)]) rfl rfl ?_
    refine row_len_o 1 (r4.1.length : Int) rfl rfl (fun hr5 => ?_)
    refine row_len_o 2 (r4.2.2.1.length : Int) rfl rfl (fun hr6 => ?_)
    obtain ⟨r7, r7h, h⟩ := is_bind h
    refine ao_call [] 3 trivial (c_spec_NewConsole (is_mk r7h)) Try.func29 rfl rfl rfl rfl ⟨ad_st rfl rfl ⟨ad_os0 rfl, ad_ren rfl, ad_os0 rfl, ad_ren rfl, ad_ren rfl, ad_ren rfl, trivial⟩, trivial⟩ trivial rfl rfl rfl rfl rfl rfl rfl (fun r' H' hr => ?_)
    obtain ⟨rfl, rfl⟩ := hr
    refine ao_norm (y := .tup [.st [.os 3, .int .i64 r7.1.1.2.1, .os 4, .int .i64 r7.1.1.2.2.2.1, .int .i64 r7.1.1.2.2.2.2.1, .int .i64 r7.1.1.2.2.2.2.2.1, .str r7.1.2.1.1, .str r7.1.2.1.2.1, .int .i64 r7.1.2.1.2.2.1], .bool r7.2]) (H' := [(0, .var [.cell (.v (.slice (.arr 6 (.int .i64))) x0.1), .cell (.int .i64 x0.2.1), .cell (.v (.slice (.int .i64)) x0.2.2.1), .cell (.int .i64 x0.2.2.2.1), .cell (.int .i64 x0.2.2.2.2.1), .cell (.int .i64 x0.2.2.2.2.2.1)]), (1, .row (.arr 6 (.int .i64)) r4.1), (2, .row (.int .i64) r4.2.2.1), (3, .row (.arr 6 (.int .i64)) r7.1.1.1), (4, .row (.int .i64) r7.1.1.2.2.1)]) rfl rfl ?_
    refine row_len_o 3 (r7.1.1.1.length : Int) rfl rfl (fun hr8 => ?_)
    refine row_len_o 4 (r7.1.1.2.2.1.length : Int) rfl rfl (fun hr9 => ?_)
    refine ao_read trivial (r_move rfl) rfl ?_
    refine ao_read trivial (r_extract rfl rfl) rfl ?_
    refine ao_read trivial (r_extract rfl rfl) rfl ?_
    refine ao_eff trivial (e_alloc 5 (y := .st [.nilsl, .int .i64 0, .nilsl, .int .i64 0, .int .i64 0, .int .i64 0, .str ByteArray.empty, .str ByteArray.empty, .int .i64 0]) Try.zeroValue51 (fun ρ h M => ra_zero_st (t := (.pair (.pair (.slice (.arr 6 (.int .i64))) (.pair (.int .i64) (.pair (.slice (.int .i64)) (.pair (.int .i64) (.pair (.int .i64) (.pair (.int .i64) .unit)))))) (.pair (.pair .str (.pair .str (.pair (.int .i64) .unit))) .unit))) rfl rfl rfl) rfl rfl rfl rfl rfl) rfl ?_
    refine ao_effS trivial (e_store rfl rfl rfl rfl Try.sizeOf51 rfl) ?_
    refine ao_read trivial (r_assign rfl) rfl ?_
    refine ao_nil ?_
    refine aq_then ?_
    refine aw_seq ?_
    refine aw_region ?_
    refine ao_read trivial (r_load_part (τ := (.pair (.slice (.arr 6 (.int .i64))) (.pair (.int .i64) (.pair (.slice (.int .i64)) (.pair (.int .i64) (.pair (.int .i64) (.pair (.int .i64) .unit))))))) (y := ((x0.1, (x0.2.1, (x0.2.2.1, (x0.2.2.2.1, (x0.2.2.2.2.1, (x0.2.2.2.2.2.1, ())))))) : ((List (List Int)) × (Int × ((List Int) × (Int × (Int × (Int × Unit)))))))) [] [] rfl Try.isAgg32 Try.sizeOf32 rfl rfl rfl rfl) rfl ?_
    obtain ⟨r10, r10h, h⟩ := is_bind h
    refine ao_call [] 6 trivial (c_laws_toTavern (is_mk r10h)) Try.func16 rfl rfl rfl rfl ⟨ad_ren rfl, trivial⟩ trivial rfl rfl rfl rfl rfl rfl rfl (fun r' H' hr => ?_)
    obtain ⟨rfl, rfl⟩ := hr
    refine ao_norm (y := .st [.os 6, .int .i64 r10.2.1, .os 7, .int .i64 r10.2.2.2.1, .int .i64 r10.2.2.2.2.1, .int .i64 r10.2.2.2.2.2.1]) (H' := [(5, .var [.cell (.os 3), .cell (.int .i64 r7.1.1.2.1), .cell (.os 4), .cell (.int .i64 r7.1.1.2.2.2.1), .cell (.int .i64 r7.1.1.2.2.2.2.1), .cell (.int .i64 r7.1.1.2.2.2.2.2.1), .cell (.str r7.1.2.1.1), .cell (.str r7.1.2.1.2.1), .cell (.int .i64 r7.1.2.1.2.2.1)]), (0, .var [.cell (.v (.slice (.arr 6 (.int .i64))) x0.1), .cell (.int .i64 x0.2.1), .cell (.v (.slice (.int .i64)) x0.2.2.1), .cell (.int .i64 x0.2.2.2.1), .cell (.int .i64 x0.2.2.2.2.1), .cell (.int .i64 x0.2.2.2.2.2.1)]), (1, .row (.arr 6 (.int .i64)) r4.1), (2, .row (.int .i64) r4.2.2.1), (3, .row (.arr 6 (.int .i64)) r7.1.1.1), (4, .row (.int .i64) r7.1.1.2.2.1), (6, .row (.arr 6 (.int .i64)) r10.1), (7, .row (.int .i64) r10.2.2.1)]) rfl rfl ?_
    refine row_len_o 6 (r10.1.length : Int) rfl rfl (fun hr11 => ?_)
    refine row_len_o 7 (r10.2.2.1.length : Int) rfl rfl (fun hr12 => ?_)
    refine ao_eff trivial (e_alloc 8 (y := .st [.nilsl, .int .i64 0, .nilsl, .int .i64 0, .int .i64 0, .int .i64 0]) Try.zeroValue35 (fun ρ h M => ra_zero_st (t := (.pair (.slice (.arr 6 (.int .i64))) (.pair (.int .i64) (.pair (.slice (.int .i64)) (.pair (.int .i64) (.pair (.int .i64) (.pair (.int .i64) .unit))))))) rfl rfl rfl) rfl rfl rfl rfl rfl) rfl ?_
    refine ao_effS trivial (e_store rfl rfl rfl rfl Try.sizeOf35 rfl) ?_
    refine ao_nil ?_
    refine aq_then ?_
    refine aw_seq ?_
    refine aw_region ?_
    refine ao_read trivial (r_load_st [] [.cell (.os 6), .cell (.int .i64 r10.2.1), .cell (.os 7), .cell (.int .i64 r10.2.2.2.1), .cell (.int .i64 r10.2.2.2.2.1), .cell (.int .i64 r10.2.2.2.2.2.1)] [] Try.isAgg35 Try.sizeOf35 rfl rfl rfl rfl rfl rfl rfl) rfl ?_
    obtain ⟨r13, r13h, h⟩ := is_bind h
    refine ao_call [] 9 trivial (c_impl_NewConsole (is_mk r13h)) Try.func30 rfl rfl rfl rfl ⟨ad_st rfl rfl ⟨ad_os0 rfl, ad_ren rfl, ad_os0 rfl, ad_ren rfl, ad_ren rfl, ad_ren rfl, trivial⟩, trivial⟩ trivial rfl rfl rfl rfl rfl rfl rfl (fun r' H' hr => ?_)
    obtain ⟨rfl, rfl⟩ := hr
    refine ao_norm (y := .tup [.st [.os 9, .int .i64 r13.1.1.2.1, .os 10, .int .i64 r13.1.1.2.2.2.1, .int .i64 r13.1.1.2.2.2.2.1, .int .i64 r13.1.1.2.2.2.2.2.1, .str r13.1.2.1.1, .str r13.1.2.1.2.1, .int .i64 r13.1.2.1.2.2.1], .bool r13.2]) (H' := [(8, .var [.cell (.os 6), .cell (.int .i64 r10.2.1), .cell (.os 7), .cell (.int .i64 r10.2.2.2.1), .cell (.int .i64 r10.2.2.2.2.1), .cell (.int .i64 r10.2.2.2.2.2.1)]), (5, .var [.cell (.os 3), .cell (.int .i64 r7.1.1.2.1), .cell (.os 4), .cell (.int .i64 r7.1.1.2.2.2.1), .cell (.int .i64 r7.1.1.2.2.2.2.1), .cell (.int .i64 r7.1.1.2.2.2.2.2.1), .cell (.str r7.1.2.1.1), .cell (.str r7.1.2.1.2.1), .cell (.int .i64 r7.1.2.1.2.2.1)]), (0, .var [.cell (.v (.slice (.arr 6 (.int .i64))) x0.1), .cell (.int .i64 x0.2.1), .cell (.v (.slice (.int .i64)) x0.2.2.1), .cell (.int .i64 x0.2.2.2.1), .cell (.int .i64 x0.2.2.2.2.1), .cell (.int .i64 x0.2.2.2.2.2.1)]), (1, .row (.arr 6 (.int .i64)) r4.1), (2, .row (.int .i64) r4.2.2.1), (3, .row (.arr 6 (.int .i64)) r7.1.1.1), (4, .row (.int .i64) r7.1.1.2.2.1), (6, .row (.arr 6 (.int .i64)) r10.1), (7, .row (.int .i64) r10.2.2.1), (9, .row (.arr 6 (.int .i64)) r13.1.1.1), (10, .row (.int .i64) r13.1.1.2.2.1)]) rfl rfl ?_
    refine row_len_o 9 (r13.1.1.1.length : Int) rfl rfl (fun hr14 => ?_)
    refine row_len_o 10 (r13.1.1.2.2.1.length : Int) rfl rfl (fun hr15 => ?_)
    refine ao_read trivial (r_move rfl) rfl ?_
    refine ao_read trivial (r_extract rfl rfl) rfl ?_
    refine ao_read trivial (r_extract rfl rfl) rfl ?_
    refine ao_eff trivial (e_alloc 11 (y := .st [.nilsl, .int .i64 0, .nilsl, .int .i64 0, .int .i64 0, .int .i64 0, .str ByteArray.empty, .str ByteArray.empty, .int .i64 0]) Try.zeroValue51 (fun ρ h M => ra_zero_st (t := (.pair (.pair (.slice (.arr 6 (.int .i64))) (.pair (.int .i64) (.pair (.slice (.int .i64)) (.pair (.int .i64) (.pair (.int .i64) (.pair (.int .i64) .unit)))))) (.pair (.pair .str (.pair .str (.pair (.int .i64) .unit))) .unit))) rfl rfl rfl) rfl rfl rfl rfl rfl) rfl ?_
    refine ao_effS trivial (e_store rfl rfl rfl rfl Try.sizeOf51 rfl) ?_
    refine ao_read trivial (r_assign rfl) rfl ?_
    refine ao_nil ?_
    refine aq_then ?_
    refine aw_seq ?_
    refine aw_seq ?_
    refine aw_region ?_
    refine ao_read trivial (r_load_st [] [.cell (.os 9), .cell (.int .i64 r13.1.1.2.1), .cell (.os 10), .cell (.int .i64 r13.1.1.2.2.2.1), .cell (.int .i64 r13.1.1.2.2.2.2.1), .cell (.int .i64 r13.1.1.2.2.2.2.2.1), .cell (.str r13.1.2.1.1), .cell (.str r13.1.2.1.2.1), .cell (.int .i64 r13.1.2.1.2.2.1)] [] Try.isAgg51 Try.sizeOf51 rfl rfl rfl rfl rfl rfl rfl) rfl ?_
    refine ao_read trivial (r_load_st [] [.cell (.os 3), .cell (.int .i64 r7.1.1.2.1), .cell (.os 4), .cell (.int .i64 r7.1.1.2.2.2.1), .cell (.int .i64 r7.1.1.2.2.2.2.1), .cell (.int .i64 r7.1.1.2.2.2.2.2.1), .cell (.str r7.1.2.1.1), .cell (.str r7.1.2.1.2.1), .cell (.int .i64 r7.1.2.1.2.2.1)] [] Try.isAgg51 Try.sizeOf51 rfl rfl rfl rfl rfl rfl rfl) rfl ?_
    refine ao_scall trivial (scall (c_laws_eqConsole (is_mk (rfl : p_laws_eqConsole ((r13.1.1.1, (r13.1.1.2.1, (r13.1.1.2.2.1, (r13.1.1.2.2.2.1, (r13.1.1.2.2.2.2.1, (r13.1.1.2.2.2.2.2.1, ())))))), ((r13.1.2.1.1, (r13.1.2.1.2.1, (r13.1.2.1.2.2.1, ()))), ())) ((r7.1.1.1, (r7.1.1.2.1, (r7.1.1.2.2.1, (r7.1.1.2.2.2.1, (r7.1.1.2.2.2.2.1, (r7.1.1.2.2.2.2.2.1, ())))))), ((r7.1.2.1.1, (r7.1.2.1.2.1, (r7.1.2.1.2.2.1, ()))), ())) = _))) rfl Try.func31 rfl rfl rfl rfl (fun σ => ⟨ad_st rfl rfl ⟨ad_os0 rfl, ad_ren rfl, ad_os0 rfl, ad_ren rfl, ad_ren rfl, ad_ren rfl, ad_ren rfl, ad_ren rfl, ad_ren rfl, trivial⟩, ad_st rfl rfl ⟨ad_os0 rfl, ad_ren rfl, ad_os0 rfl, ad_ren rfl, ad_ren rfl, ad_ren rfl, ad_ren rfl, ad_ren rfl, ad_ren rfl, trivial⟩, trivial⟩)) rfl ?_
    refine ao_read trivial (r_not rfl) rfl ?_
    refine ao_read trivial (r_move rfl) rfl ?_
    refine ao_readG (x := .bool r13.2) rfl (GV.F rfl) (fun hg16 => r_move rfl) rfl ?_
    refine ao_readG (x := .bool r7.2) rfl (GV.F rfl) (fun hg17 => r_move rfl) rfl ?_
    refine ao_readG (x := .bool (r13.2 != r7.2)) rfl (GV.F rfl) (fun hg18 => Reads.strip 37 rfl (hg18) (Reads.strip 38 rfl (hg18) (r_neq_bool Try.underlying4 rfl rfl))) rfl ?_
    refine ao_read trivial (r_orB rfl rfl) rfl ?_
    refine ao_nil ?_
    refine aq_then ?_
    refine aw_cond rfl (fun hb19 => ?_) (fun hb19 => ?_)
    · replace h := is_if hb19 h
      refine aw_seq ?_
      refine aw_region ?_
      refine ao_read trivial (r_assign rfl) rfl ?_
      refine ao_nil ?_
      refine aq_then ?_
      refine aw_ret ?_
      refine aq_then_ret ?_
      refine aq_ret ?_
      obtain rfl := is_some h
      exact aq_finx (l := [.tmp 2]) (xs := [.bool false]) idn [.bool false] [] rfl (by exact ⟨rfl, trivial⟩) (by exact ⟨ad_ren rfl, trivial⟩) (by exact trivial) rfl (nk rfl) rfl rfl ⟨rfl, rfl⟩
    · obtain ⟨q20, q21⟩ := or_f hb19
      replace h := is_else (ne_t hb19) h
      refine aw_skip ?_
      refine aq_then ?_
      refine aw_seq ?_
      refine aw_seq ?_
      obtain ⟨r22, r22h, h⟩ := is_bind h
      refine aw_drawAll (by kernel_rfl) ?_
      refine an_to [(1, .ref 0 0), (4, .ref 1 0), (5, .bool r7.2), (6, .ref 2 0), (7, .ref 3 0), (8, .bool r13.2), (45, .bool (!(p_laws_eqTavern (r10.1, (r10.2.1, (r10.2.2.1, (r10.2.2.2.1, (r10.2.2.2.2.1, (r10.2.2.2.2.2.1, ())))))) (r22.1, (r22.2.1, (r22.2.2.1, (r22.2.2.2.1, (r22.2.2.2.2.1, (r22.2.2.2.2.2.1, ())))))))))] [(0, .var [.cell (.v (.slice (.arr 6 (.int .i64))) x0.1), .cell (.int .i64 x0.2.1), .cell (.v (.slice (.int .i64)) x0.2.2.1), .cell (.int .i64 x0.2.2.2.1), .cell (.int .i64 x0.2.2.2.2.1), .cell (.int .i64 x0.2.2.2.2.2.1)]), (1, .var [.cell (.os 4), .cell (.int .i64 r7.1.1.2.1), .cell (.os 5), .cell (.int .i64 r7.1.1.2.2.2.1), .cell (.int .i64 r7.1.1.2.2.2.2.1), .cell (.int .i64 r7.1.1.2.2.2.2.2.1), .cell (.str r7.1.2.1.1), .cell (.str r7.1.2.1.2.1), .cell (.int .i64 r7.1.2.1.2.2.1)]), (2, .var [.cell (.os 6), .cell (.int .i64 r10.2.1), .cell (.os 7), .cell (.int .i64 r10.2.2.2.1), .cell (.int .i64 r10.2.2.2.2.1), .cell (.int .i64 r10.2.2.2.2.2.1)]), (3, .var [.cell (.os 8), .cell (.int .i64 r13.1.1.2.1), .cell (.os 9), .cell (.int .i64 r13.1.1.2.2.2.1), .cell (.int .i64 r13.1.1.2.2.2.2.1), .cell (.int .i64 r13.1.1.2.2.2.2.2.1), .cell (.str r13.1.2.1.1), .cell (.str r13.1.2.1.2.1), .cell (.int .i64 r13.1.2.1.2.2.1)]), (4, .row (.arr 6 (.int .i64)) r7.1.1.1), (5, .row (.int .i64) r7.1.1.2.2.1), (6, .row (.arr 6 (.int .i64)) r10.1), (7, .row (.int .i64) r10.2.2.1), (8, .row (.arr 6 (.int .i64)) r13.1.1.1), (9, .row (.int .i64) r13.1.1.2.2.1)] ?_ (fun key => ?_)
      · refine aq_then ?_
        refine aw_cond rfl (fun hb25 => ?_) (fun hb25 => ?_)
        · replace h := is_else (ne_t (not_t hb25)) h
          refine aw_seq ?_
          refine aw_region ?_
          refine ao_read trivial (r_assign rfl) rfl ?_
          refine ao_nil ?_
          refine aq_then ?_
          refine aw_ret ?_
          refine aq_then_ret ?_
          refine aq_ret ?_
          obtain rfl := is_some h
          exact aq_finx (l := [.tmp 2]) (xs := [.bool false]) idn [.bool false] [] rfl (by exact ⟨rfl, trivial⟩) (by exact ⟨ad_ren rfl, trivial⟩) (by exact trivial) rfl (nk rfl) rfl rfl ⟨rfl, rfl⟩
        · replace h := is_if (not_f hb25) h
          refine aw_skip ?_
          refine aq_then ?_
          refine aw_seq ?_
          refine aw_region ?_
          refine ao_read trivial (r_assign rfl) rfl ?_
          refine ao_nil ?_
          refine aq_then ?_
          refine aw_seq ?_
          refine aw_region ?_
          refine ao_read trivial (r_load_st [] [.cell (.os 6), .cell (.int .i64 r10.2.1), .cell (.os 7), .cell (.int .i64 r10.2.2.2.1), .cell (.int .i64 r10.2.2.2.2.1), .cell (.int .i64 r10.2.2.2.2.2.1)] [] Try.isAgg35 Try.sizeOf35 rfl rfl rfl rfl rfl rfl rfl) rfl ?_
          refine ao_read trivial (r_move rfl) rfl ?_
          refine ao_call [6, 7] 10 trivial (c_laws_markTavern (is_mk (rfl : p_laws_markTavern r10.1 r10.2.1 r10.2.2.1 r10.2.2.2.1 r10.2.2.2.2.1 r10.2.2.2.2.2.1 1 = _))) Try.func27 rfl rfl rfl rfl ⟨ad_ren rfl, ad_ren rfl, trivial⟩ ⟨⟨_, rfl, rfl⟩, ⟨_, rfl, rfl⟩, trivial⟩ rfl rfl rfl rfl rfl rfl rfl (fun r' H' hr => ?_)
          obtain ⟨rfl, rfl⟩ := hr
          refine ao_norm (y := .int .i64 ((p_laws_markTavern r10.1 r10.2.1 r10.2.2.1 r10.2.2.2.1 r10.2.2.2.2.1 r10.2.2.2.2.2.1 1).1)) (H' := [(0, .var [.cell (.v (.slice (.arr 6 (.int .i64))) x0.1), .cell (.int .i64 x0.2.1), .cell (.v (.slice (.int .i64)) x0.2.2.1), .cell (.int .i64 x0.2.2.2.1), .cell (.int .i64 x0.2.2.2.2.1), .cell (.int .i64 x0.2.2.2.2.2.1)]), (1, .var [.cell (.os 4), .cell (.int .i64 r7.1.1.2.1), .cell (.os 5), .cell (.int .i64 r7.1.1.2.2.2.1), .cell (.int .i64 r7.1.1.2.2.2.2.1), .cell (.int .i64 r7.1.1.2.2.2.2.2.1), .cell (.str r7.1.2.1.1), .cell (.str r7.1.2.1.2.1), .cell (.int .i64 r7.1.2.1.2.2.1)]), (2, .var [.cell (.os 6), .cell (.int .i64 r10.2.1), .cell (.os 7), .cell (.int .i64 r10.2.2.2.1), .cell (.int .i64 r10.2.2.2.2.1), .cell (.int .i64 r10.2.2.2.2.2.1)]), (3, .var [.cell (.os 8), .cell (.int .i64 r13.1.1.2.1), .cell (.os 9), .cell (.int .i64 r13.1.1.2.2.2.1), .cell (.int .i64 r13.1.1.2.2.2.2.1), .cell (.int .i64 r13.1.1.2.2.2.2.2.1), .cell (.str r13.1.2.1.1), .cell (.str r13.1.2.1.2.1), .cell (.int .i64 r13.1.2.1.2.2.1)]), (4, .row (.arr 6 (.int .i64)) r7.1.1.1), (5, .row (.int .i64) r7.1.1.2.2.1), (8, .row (.arr 6 (.int .i64)) r13.1.1.1), (9, .row (.int .i64) r13.1.1.2.2.1), (6, .row (.arr 6 (.int .i64)) ((p_laws_markTavern r10.1 r10.2.1 r10.2.2.1 r10.2.2.2.1 r10.2.2.2.2.1 r10.2.2.2.2.2.1 1).2.1 : (List (List Int)))), (7, .row (.int .i64) ((p_laws_markTavern r10.1 r10.2.1 r10.2.2.1 r10.2.2.2.1 r10.2.2.2.2.1 r10.2.2.2.2.2.1 1).2.2 : (List Int)))]) rfl rfl ?_
          refine ao_read trivial (r_assign rfl) rfl ?_
          refine ao_nil ?_
          refine aq_then ?_
          refine aw_seq ?_
          refine aw_seq ?_
          refine aw_region ?_
          refine ao_read trivial (r_move rfl) rfl ?_
          refine ao_read trivial (r_lss rfl rfl) rfl ?_
          refine ao_read trivial (r_move rfl) rfl ?_
          refine ao_readG (x := .st [.os 8, .int .i64 r13.1.1.2.1, .os 9, .int .i64 r13.1.1.2.2.2.1, .int .i64 r13.1.1.2.2.2.2.1, .int .i64 r13.1.1.2.2.2.2.2.1, .str r13.1.2.1.1, .str r13.1.2.1.2.1, .int .i64 r13.1.2.1.2.2.1]) rfl (GV.F rfl) (fun hg26 => by
      have q27 := d_f (not_t hg26)
      exact r_load_st [] [.cell (.os 8), .cell (.int .i64 r13.1.1.2.1), .cell (.os 9), .cell (.int .i64 r13.1.1.2.2.2.1), .cell (.int .i64 r13.1.1.2.2.2.2.1), .cell (.int .i64 r13.1.1.2.2.2.2.2.1), .cell (.str r13.1.2.1.1), .cell (.str r13.1.2.1.2.1), .cell (.int .i64 r13.1.2.1.2.2.1)] [] Try.isAgg51 Try.sizeOf51 rfl rfl rfl rfl rfl rfl rfl) rfl ?_
          refine ao_readG (x := .st [.os 4, .int .i64 r7.1.1.2.1, .os 5, .int .i64 r7.1.1.2.2.2.1, .int .i64 r7.1.1.2.2.2.2.1, .int .i64 r7.1.1.2.2.2.2.2.1, .str r7.1.2.1.1, .str r7.1.2.1.2.1, .int .i64 r7.1.2.1.2.2.1]) rfl (GV.F rfl) (fun hg28 => by
      have q29 := d_f (not_t hg28)
      exact r_load_st [] [.cell (.os 4), .cell (.int .i64 r7.1.1.2.1), .cell (.os 5), .cell (.int .i64 r7.1.1.2.2.2.1), .cell (.int .i64 r7.1.1.2.2.2.2.1), .cell (.int .i64 r7.1.1.2.2.2.2.2.1), .cell (.str r7.1.2.1.1), .cell (.str r7.1.2.1.2.1), .cell (.int .i64 r7.1.2.1.2.2.1)] [] Try.isAgg51 Try.sizeOf51 rfl rfl rfl rfl rfl rfl rfl) rfl ?_
          refine ao_scallG (r := .bool (p_laws_eqConsole ((r13.1.1.1, (r13.1.1.2.1, (r13.1.1.2.2.1, (r13.1.1.2.2.2.1, (r13.1.1.2.2.2.2.1, (r13.1.1.2.2.2.2.2.1, ())))))), ((r13.1.2.1.1, (r13.1.2.1.2.1, (r13.1.2.1.2.2.1, ()))), ())) ((r7.1.1.1, (r7.1.1.2.1, (r7.1.1.2.2.1, (r7.1.1.2.2.2.1, (r7.1.1.2.2.2.2.1, (r7.1.1.2.2.2.2.2.1, ())))))), ((r7.1.2.1.1, (r7.1.2.1.2.1, (r7.1.2.1.2.2.1, ()))), ())))) rfl (GV.F rfl) (fun hg30 => by
      have q31 := d_f (not_t hg30)
      exact SCall.strip 52 rfl (hg30) (SCall.strip 53 rfl (hg30) (scall (c_laws_eqConsole (is_mk (rfl : p_laws_eqConsole ((r13.1.1.1, (r13.1.1.2.1, (r13.1.1.2.2.1, (r13.1.1.2.2.2.1, (r13.1.1.2.2.2.2.1, (r13.1.1.2.2.2.2.2.1, ())))))), ((r13.1.2.1.1, (r13.1.2.1.2.1, (r13.1.2.1.2.2.1, ()))), ())) ((r7.1.1.1, (r7.1.1.2.1, (r7.1.1.2.2.1, (r7.1.1.2.2.2.1, (r7.1.1.2.2.2.2.1, (r7.1.1.2.2.2.2.2.1, ())))))), ((r7.1.2.1.1, (r7.1.2.1.2.1, (r7.1.2.1.2.2.1, ()))), ())) = _))) rfl Try.func31 rfl rfl rfl rfl (fun σ => ⟨ad_st rfl rfl ⟨ad_os0 rfl, ad_ren rfl, ad_os0 rfl, ad_ren rfl, ad_ren rfl, ad_ren rfl, ad_ren rfl, ad_ren rfl, ad_ren rfl, trivial⟩, ad_st rfl rfl ⟨ad_os0 rfl, ad_ren rfl, ad_os0 rfl, ad_ren rfl, ad_ren rfl, ad_ren rfl, ad_ren rfl, ad_ren rfl, ad_ren rfl, trivial⟩, trivial⟩)))) rfl ?_
          refine ao_readG (x := .bool (!(p_laws_eqConsole ((r13.1.1.1, (r13.1.1.2.1, (r13.1.1.2.2.1, (r13.1.1.2.2.2.1, (r13.1.1.2.2.2.2.1, (r13.1.1.2.2.2.2.2.1, ())))))), ((r13.1.2.1.1, (r13.1.2.1.2.1, (r13.1.2.1.2.2.1, ()))), ())) ((r7.1.1.1, (r7.1.1.2.1, (r7.1.1.2.2.1, (r7.1.1.2.2.2.1, (r7.1.1.2.2.2.2.1, (r7.1.1.2.2.2.2.2.1, ())))))), ((r7.1.2.1.1, (r7.1.2.1.2.1, (r7.1.2.1.2.2.1, ()))), ()))))) rfl (GV.F rfl) (fun hg32 => by
      have q33 := d_f (not_t hg32)
      exact Reads.strip 54 rfl (hg32) (r_not rfl)) rfl ?_
          refine ao_read trivial (r_orB rfl rfl) rfl ?_
          refine ao_read trivial (r_move rfl) rfl ?_
          refine ao_readG (x := .bool r13.2) rfl (GV.F rfl) (fun hg34 => by
      obtain ⟨q35, q36⟩ := or_f (not_t hg34)
      have q37 := d_f q35
      exact r_move rfl) rfl ?_
          refine ao_readG (x := .bool r7.2) rfl (GV.F rfl) (fun hg38 => by
      obtain ⟨q39, q40⟩ := or_f (not_t hg38)
      have q41 := d_f q39
      exact r_move rfl) rfl ?_
          refine ao_readG (x := .bool (r13.2 != r7.2)) rfl (GV.F rfl) (fun hg42 => by
      obtain ⟨q43, q44⟩ := or_f (not_t hg42)
      have q45 := d_f q43
      exact Reads.strip 58 rfl (hg42) (Reads.strip 59 rfl (hg42) (r_neq_bool Try.underlying4 rfl rfl))) rfl ?_
          refine ao_read trivial (r_orB rfl rfl) rfl ?_
          refine ao_nil ?_
          refine aq_then ?_
          refine aw_cond rfl (fun hb46 => ?_) (fun hb46 => ?_)
          · replace h := is_if hb46 h
            refine aw_seq ?_
            refine aw_region ?_
            refine ao_read trivial (r_assign rfl) rfl ?_
            refine ao_nil ?_
            refine aq_then ?_
            refine aw_ret ?_
            refine aq_then_ret ?_
            refine aq_ret ?_
            obtain rfl := is_some h
            exact aq_finx (l := [.tmp 2]) (xs := [.bool false]) idn [.bool false] [] rfl (by exact ⟨rfl, trivial⟩) (by exact ⟨ad_ren rfl, trivial⟩) (by exact trivial) rfl (nk rfl) rfl rfl ⟨rfl, rfl⟩
          · obtain ⟨q47, q48⟩ := or_f hb46
            obtain ⟨q49, q50⟩ := or_f q47
            have q51 := d_f q49
            replace h := is_else (ne_t hb46) h
            refine aw_skip ?_
            refine aq_then ?_
            refine aw_seq ?_
            refine aw_region ?_
            refine ao_read trivial (r_assign rfl) rfl ?_
            refine ao_nil ?_
            refine aq_then ?_
            refine aw_seq ?_
            refine aw_region ?_
            refine ao_read trivial (r_load_st [] [.cell (.os 8), .cell (.int .i64 r13.1.1.2.1), .cell (.os 9), .cell (.int .i64 r13.1.1.2.2.2.1), .cell (.int .i64 r13.1.1.2.2.2.2.1), .cell (.int .i64 r13.1.1.2.2.2.2.2.1), .cell (.str r13.1.2.1.1), .cell (.str r13.1.2.1.2.1), .cell (.int .i64 r13.1.2.1.2.2.1)] [] Try.isAgg51 Try.sizeOf51 rfl rfl rfl rfl rfl rfl rfl) rfl ?_
            refine ao_read trivial (r_move rfl) rfl ?_
            refine ao_call [8, 9] 10 trivial (c_laws_markConsole (is_mk (rfl : p_laws_markConsole r13.1.1.1 r13.1.1.2.1 r13.1.1.2.2.1 r13.1.1.2.2.2.1 r13.1.1.2.2.2.2.1 r13.1.1.2.2.2.2.2.1 r13.1.2.1.1 r13.1.2.1.2.1 r13.1.2.1.2.2.1 1 = _))) Try.func32 rfl rfl rfl rfl ⟨ad_ren rfl, ad_ren rfl, trivial⟩ ⟨⟨_, rfl, rfl⟩, ⟨_, rfl, rfl⟩, trivial⟩ rfl rfl rfl rfl rfl rfl rfl (fun r' H' hr => ?_)
            obtain ⟨rfl, rfl⟩ := hr
            refine ao_norm (y := .int .i64 ((p_laws_markConsole r13.1.1.1 r13.1.1.2.1 r13.1.1.2.2.1 r13.1.1.2.2.2.1 r13.1.1.2.2.2.2.1 r13.1.1.2.2.2.2.2.1 r13.1.2.1.1 r13.1.2.1.2.1 r13.1.2.1.2.2.1 1).1)) (H' := [(0, .var [.cell (.v (.slice (.arr 6 (.int .i64))) x0.1), .cell (.int .i64 x0.2.1), .cell (.v (.slice (.int .i64)) x0.2.2.1), .cell (.int .i64 x0.2.2.2.1), .cell (.int .i64 x0.2.2.2.2.1), .cell (.int .i64 x0.2.2.2.2.2.1)]), (1, .var [.cell (.os 4), .cell (.int .i64 r7.1.1.2.1), .cell (.os 5), .cell (.int .i64 r7.1.1.2.2.2.1), .cell (.int .i64 r7.1.1.2.2.2.2.1), .cell (.int .i64 r7.1.1.2.2.2.2.2.1), .cell (.str r7.1.2.1.1), .cell (.str r7.1.2.1.2.1), .cell (.int .i64 r7.1.2.1.2.2.1)]), (2, .var [.cell (.os 6), .cell (.int .i64 r10.2.1), .cell (.os 7), .cell (.int .i64 r10.2.2.2.1), .cell (.int .i64 r10.2.2.2.2.1), .cell (.int .i64 r10.2.2.2.2.2.1)]), (3, .var [.cell (.os 8), .cell (.int .i64 r13.1.1.2.1), .cell (.os 9), .cell (.int .i64 r13.1.1.2.2.2.1), .cell (.int .i64 r13.1.1.2.2.2.2.1), .cell (.int .i64 r13.1.1.2.2.2.2.2.1), .cell (.str r13.1.2.1.1), .cell (.str r13.1.2.1.2.1), .cell (.int .i64 r13.1.2.1.2.2.1)]), (4, .row (.arr 6 (.int .i64)) r7.1.1.1), (5, .row (.int .i64) r7.1.1.2.2.1), (6, .row (.arr 6 (.int .i64)) ((p_laws_markTavern r10.1 r10.2.1 r10.2.2.1 r10.2.2.2.1 r10.2.2.2.2.1 r10.2.2.2.2.2.1 1).2.1 : (List (List Int)))), (7, .row (.int .i64) ((p_laws_markTavern r10.1 r10.2.1 r10.2.2.1 r10.2.2.2.1 r10.2.2.2.2.1 r10.2.2.2.2.2.1 1).2.2 : (List Int))), (8, .row (.arr 6 (.int .i64)) ((p_laws_markConsole r13.1.1.1 r13.1.1.2.1 r13.1.1.2.2.1 r13.1.1.2.2.2.1 r13.1.1.2.2.2.2.1 r13.1.1.2.2.2.2.2.1 r13.1.2.1.1 r13.1.2.1.2.1 r13.1.2.1.2.2.1 1).2.1 : (List (List Int)))), (9, .row (.int .i64) ((p_laws_markConsole r13.1.1.1 r13.1.1.2.1 r13.1.1.2.2.1 r13.1.1.2.2.2.1 r13.1.1.2.2.2.2.1 r13.1.1.2.2.2.2.2.1 r13.1.2.1.1 r13.1.2.1.2.1 r13.1.2.1.2.2.1 1).2.2 : (List Int)))]) rfl rfl ?_
            refine ao_read trivial (r_assign rfl) rfl ?_
            refine ao_nil ?_
            refine aq_then ?_
            refine aw_seq ?_
            refine aw_region ?_
            refine ao_read trivial (r_assign rfl) rfl ?_
            refine ao_nil ?_
            refine aq_then ?_
            refine aw_seq ?_
            refine aw_region ?_
            refine ao_read trivial (r_load_st [] [.cell (.os 8), .cell (.int .i64 r13.1.1.2.1), .cell (.os 9), .cell (.int .i64 r13.1.1.2.2.2.1), .cell (.int .i64 r13.1.1.2.2.2.2.1), .cell (.int .i64 r13.1.1.2.2.2.2.2.1), .cell (.str r13.1.2.1.1), .cell (.str r13.1.2.1.2.1), .cell (.int .i64 r13.1.2.1.2.2.1)] [] Try.isAgg51 Try.sizeOf51 rfl rfl rfl rfl rfl rfl rfl) rfl ?_
            refine ao_read trivial (r_move rfl) rfl ?_
            refine ao_scall trivial (scall (c_laws_heldConsole (is_mk (rfl : p_laws_heldConsole (((p_laws_markConsole r13.1.1.1 r13.1.1.2.1 r13.1.1.2.2.1 r13.1.1.2.2.2.1 r13.1.1.2.2.2.2.1 r13.1.1.2.2.2.2.2.1 r13.1.2.1.1 r13.1.2.1.2.1 r13.1.2.1.2.2.1 1).2.1, (r13.1.1.2.1, ((p_laws_markConsole r13.1.1.1 r13.1.1.2.1 r13.1.1.2.2.1 r13.1.1.2.2.2.1 r13.1.1.2.2.2.2.1 r13.1.1.2.2.2.2.2.1 r13.1.2.1.1 r13.1.2.1.2.1 r13.1.2.1.2.2.1 1).2.2, (r13.1.1.2.2.2.1, (r13.1.1.2.2.2.2.1, (r13.1.1.2.2.2.2.2.1, ())))))), ((r13.1.2.1.1, (r13.1.2.1.2.1, (r13.1.2.1.2.2.1, ()))), ())) 1 = _))) rfl Try.func33 rfl rfl rfl rfl (fun σ => ⟨ad_st rfl rfl ⟨ad_os0 rfl, ad_ren rfl, ad_os0 rfl, ad_ren rfl, ad_ren rfl, ad_ren rfl, ad_ren rfl, ad_ren rfl, ad_ren rfl, trivial⟩, ad_ren rfl, trivial⟩)) rfl ?_
            refine ao_read trivial (r_assign rfl) rfl ?_
            refine ao_nil ?_
            refine aq_then ?_
            refine aw_seq ?_
            refine aw_seq ?_
            refine aw_region ?_
            refine ao_read trivial (r_move rfl) rfl ?_
            refine ao_read trivial (r_lss rfl rfl) rfl ?_
            refine ao_nil ?_
            refine aq_then ?_
            refine aw_cond rfl (fun hb52 => ?_) (fun hb52 => ?_)
            · have q53 := d_t hb52
              replace h := is_if (d_t hb52) h
              refine aw_seq ?_
              refine aw_region ?_
              refine ao_read trivial (r_assign rfl) rfl ?_
              refine ao_nil ?_
              refine aq_then ?_
              refine aw_ret ?_
              refine aq_then_ret ?_
              refine aq_ret ?_
              obtain rfl := is_some h
              exact aq_finx (l := [.tmp 2]) (xs := [.bool false]) idn [.bool false] [] rfl (by exact ⟨rfl, trivial⟩) (by exact ⟨ad_ren rfl, trivial⟩) (by exact trivial) rfl (nk rfl) rfl rfl ⟨rfl, rfl⟩
            · have q54 := d_f hb52
              replace h := is_else (d_f hb52) h
              refine aw_skip ?_
              refine aq_then ?_
              refine aw_seq ?_
              refine aw_seq ?_
              refine aw_region ?_
              refine ao_read trivial (r_move rfl) rfl ?_
              refine ao_read trivial (r_move rfl) rfl ?_
              refine ao_read trivial (r_neq rfl rfl) rfl ?_
              refine ao_nil ?_
              refine aq_then ?_
              refine aw_cond rfl (fun hb55 => ?_) (fun hb55 => ?_)
              · have q56 := d_f (not_t hb55)
                replace h := is_else (d_f (not_t hb55)) h
                refine aw_seq ?_
                refine aw_region ?_
                refine ao_read trivial (r_assign rfl) rfl ?_
                refine ao_nil ?_
                refine aq_then ?_
                refine aw_ret ?_
                refine aq_then_ret ?_
                refine aq_ret ?_
                obtain rfl := is_some h
                exact aq_finx (l := [.tmp 2]) (xs := [.bool false]) idn [.bool false] [] rfl (by exact ⟨rfl, trivial⟩) (by exact ⟨ad_ren rfl, trivial⟩) (by exact trivial) rfl (nk rfl) rfl rfl ⟨rfl, rfl⟩
              · have q57 := d_t (not_f hb55)
                replace h := is_if (d_t (not_f hb55)) h
                refine aw_skip ?_
                refine aq_then ?_
                refine aw_seq ?_
                refine aw_region ?_
                refine ao_read trivial (r_load_part (τ := (.pair (.slice (.arr 6 (.int .i64))) (.pair (.int .i64) (.pair (.slice (.int .i64)) (.pair (.int .i64) (.pair (.int .i64) (.pair (.int .i64) .unit))))))) (y := ((x0.1, (x0.2.1, (x0.2.2.1, (x0.2.2.2.1, (x0.2.2.2.2.1, (x0.2.2.2.2.2.1, ())))))) : ((List (List Int)) × (Int × ((List Int) × (Int × (Int × (Int × Unit)))))))) [] [] rfl Try.isAgg32 Try.sizeOf32 rfl rfl rfl rfl) rfl ?_
                obtain ⟨r58, r58h, h⟩ := is_bind h
                refine ao_call [] 10 trivial (c_laws_toTavern (is_mk r58h)) Try.func16 rfl rfl rfl rfl ⟨ad_ren rfl, trivial⟩ trivial rfl rfl rfl rfl rfl rfl rfl (fun r' H' hr => ?_)
                obtain ⟨rfl, rfl⟩ := hr
                refine ao_norm (y := .st [.os 10, .int .i64 r58.2.1, .os 11, .int .i64 r58.2.2.2.1, .int .i64 r58.2.2.2.2.1, .int .i64 r58.2.2.2.2.2.1]) (H' := [(0, .var [.cell (.v (.slice (.arr 6 (.int .i64))) x0.1), .cell (.int .i64 x0.2.1), .cell (.v (.slice (.int .i64)) x0.2.2.1), .cell (.int .i64 x0.2.2.2.1), .cell (.int .i64 x0.2.2.2.2.1), .cell (.int .i64 x0.2.2.2.2.2.1)]), (1, .var [.cell (.os 4), .cell (.int .i64 r7.1.1.2.1), .cell (.os 5), .cell (.int .i64 r7.1.1.2.2.2.1), .cell (.int .i64 r7.1.1.2.2.2.2.1), .cell (.int .i64 r7.1.1.2.2.2.2.2.1), .cell (.str r7.1.2.1.1), .cell (.str r7.1.2.1.2.1), .cell (.int .i64 r7.1.2.1.2.2.1)]), (2, .var [.cell (.os 6), .cell (.int .i64 r10.2.1), .cell (.os 7), .cell (.int .i64 r10.2.2.2.1), .cell (.int .i64 r10.2.2.2.2.1), .cell (.int .i64 r10.2.2.2.2.2.1)]), (3, .var [.cell (.os 8), .cell (.int .i64 r13.1.1.2.1), .cell (.os 9), .cell (.int .i64 r13.1.1.2.2.2.1), .cell (.int .i64 r13.1.1.2.2.2.2.1), .cell (.int .i64 r13.1.1.2.2.2.2.2.1), .cell (.str r13.1.2.1.1), .cell (.str r13.1.2.1.2.1), .cell (.int .i64 r13.1.2.1.2.2.1)]), (4, .row (.arr 6 (.int .i64)) r7.1.1.1), (5, .row (.int .i64) r7.1.1.2.2.1), (6, .row (.arr 6 (.int .i64)) ((p_laws_markTavern r10.1 r10.2.1 r10.2.2.1 r10.2.2.2.1 r10.2.2.2.2.1 r10.2.2.2.2.2.1 1).2.1 : (List (List Int)))), (7, .row (.int .i64) ((p_laws_markTavern r10.1 r10.2.1 r10.2.2.1 r10.2.2.2.1 r10.2.2.2.2.1 r10.2.2.2.2.2.1 1).2.2 : (List Int))), (8, .row (.arr 6 (.int .i64)) ((p_laws_markConsole r13.1.1.1 r13.1.1.2.1 r13.1.1.2.2.1 r13.1.1.2.2.2.1 r13.1.1.2.2.2.2.1 r13.1.1.2.2.2.2.2.1 r13.1.2.1.1 r13.1.2.1.2.1 r13.1.2.1.2.2.1 1).2.1 : (List (List Int)))), (9, .row (.int .i64) ((p_laws_markConsole r13.1.1.1 r13.1.1.2.1 r13.1.1.2.2.1 r13.1.1.2.2.2.1 r13.1.1.2.2.2.2.1 r13.1.1.2.2.2.2.2.1 r13.1.2.1.1 r13.1.2.1.2.1 r13.1.2.1.2.2.1 1).2.2 : (List Int))), (10, .row (.arr 6 (.int .i64)) r58.1), (11, .row (.int .i64) r58.2.2.1)]) rfl rfl ?_
                refine row_len_o 10 (r58.1.length : Int) rfl rfl (fun hr59 => ?_)
                refine row_len_o 11 (r58.2.2.1.length : Int) rfl rfl (fun hr60 => ?_)
                obtain ⟨r61, r61h, h⟩ := is_bind h
                refine ao_call [] 12 trivial (c_impl_NewConsole (is_mk r61h)) Try.func30 rfl rfl rfl rfl ⟨ad_st rfl rfl ⟨ad_os0 rfl, ad_ren rfl, ad_os0 rfl, ad_ren rfl, ad_ren rfl, ad_ren rfl, trivial⟩, trivial⟩ trivial rfl rfl rfl rfl rfl rfl rfl (fun r' H' hr => ?_)
                obtain ⟨rfl, rfl⟩ := hr
                refine ao_norm (y := .tup [.st [.os 12, .int .i64 r61.1.1.2.1, .os 13, .int .i64 r61.1.1.2.2.2.1, .int .i64 r61.1.1.2.2.2.2.1, .int .i64 r61.1.1.2.2.2.2.2.1, .str r61.1.2.1.1, .str r61.1.2.1.2.1, .int .i64 r61.1.2.1.2.2.1], .bool r61.2]) (H' := [(0, .var [.cell (.v (.slice (.arr 6 (.int .i64))) x0.1), .cell (.int .i64 x0.2.1), .cell (.v (.slice (.int .i64)) x0.2.2.1), .cell (.int .i64 x0.2.2.2.1), .cell (.int .i64 x0.2.2.2.2.1), .cell (.int .i64 x0.2.2.2.2.2.1)]), (1, .var [.cell (.os 4), .cell (.int .i64 r7.1.1.2.1), .cell (.os 5), .cell (.int .i64 r7.1.1.2.2.2.1), .cell (.int .i64 r7.1.1.2.2.2.2.1), .cell (.int .i64 r7.1.1.2.2.2.2.2.1), .cell (.str r7.1.2.1.1), .cell (.str r7.1.2.1.2.1), .cell (.int .i64 r7.1.2.1.2.2.1)]), (2, .var [.cell (.os 6), .cell (.int .i64 r10.2.1), .cell (.os 7), .cell (.int .i64 r10.2.2.2.1), .cell (.int .i64 r10.2.2.2.2.1), .cell (.int .i64 r10.2.2.2.2.2.1)]), (3, .var [.cell (.os 8), .cell (.int .i64 r13.1.1.2.1), .cell (.os 9), .cell (.int .i64 r13.1.1.2.2.2.1), .cell (.int .i64 r13.1.1.2.2.2.2.1), .cell (.int .i64 r13.1.1.2.2.2.2.2.1), .cell (.str r13.1.2.1.1), .cell (.str r13.1.2.1.2.1), .cell (.int .i64 r13.1.2.1.2.2.1)]), (4, .row (.arr 6 (.int .i64)) r7.1.1.1), (5, .row (.int .i64) r7.1.1.2.2.1), (6, .row (.arr 6 (.int .i64)) ((p_laws_markTavern r10.1 r10.2.1 r10.2.2.1 r10.2.2.2.1 r10.2.2.2.2.1 r10.2.2.2.2.2.1 1).2.1 : (List (List Int)))), (7, .row (.int .i64) ((p_laws_markTavern r10.1 r10.2.1 r10.2.2.1 r10.2.2.2.1 r10.2.2.2.2.1 r10.2.2.2.2.2.1 1).2.2 : (List Int))), (8, .row (.arr 6 (.int .i64)) ((p_laws_markConsole r13.1.1.1 r13.1.1.2.1 r13.1.1.2.2.1 r13.1.1.2.2.2.1 r13.1.1.2.2.2.2.1 r13.1.1.2.2.2.2.2.1 r13.1.2.1.1 r13.1.2.1.2.1 r13.1.2.1.2.2.1 1).2.1 : (List (List Int)))), (9, .row (.int .i64) ((p_laws_markConsole r13.1.1.1 r13.1.1.2.1 r13.1.1.2.2.1 r13.1.1.2.2.2.1 r13.1.1.2.2.2.2.1 r13.1.1.2.2.2.2.2.1 r13.1.2.1.1 r13.1.2.1.2.1 r13.1.2.1.2.2.1 1).2.2 : (List Int))), (10, .row (.arr 6 (.int .i64)) r58.1), (11, .row (.int .i64) r58.2.2.1), (12, .row (.arr 6 (.int .i64)) r61.1.1.1), (13, .row (.int .i64) r61.1.1.2.2.1)]) rfl rfl ?_
                refine row_len_o 12 (r61.1.1.1.length : Int) rfl rfl (fun hr62 => ?_)
                refine row_len_o 13 (r61.1.1.2.2.1.length : Int) rfl rfl (fun hr63 => ?_)
                refine ao_read trivial (r_move rfl) rfl ?_
                refine ao_read trivial (r_extract rfl rfl) rfl ?_
                refine ao_read trivial (r_extract rfl rfl) rfl ?_
                refine ao_eff trivial (e_alloc 14 (y := .st [.nilsl, .int .i64 0, .nilsl, .int .i64 0, .int .i64 0, .int .i64 0, .str ByteArray.empty, .str ByteArray.empty, .int .i64 0]) Try.zeroValue51 (fun ρ h M => ra_zero_st (t := (.pair (.pair (.slice (.arr 6 (.int .i64))) (.pair (.int .i64) (.pair (.slice (.int .i64)) (.pair (.int .i64) (.pair (.int .i64) (.pair (.int .i64) .unit)))))) (.pair (.pair .str (.pair .str (.pair (.int .i64) .unit))) .unit))) rfl rfl rfl) rfl rfl rfl rfl rfl) rfl ?_
                refine ao_effS trivial (e_store rfl rfl rfl rfl Try.sizeOf51 rfl) ?_
                refine ao_read trivial (r_assign rfl) rfl ?_
                refine ao_nil ?_
                refine aq_then ?_
                refine aw_seq ?_
                refine aw_seq ?_
                refine aw_region ?_
                refine ao_read trivial (r_load_st [] [.cell (.os 12), .cell (.int .i64 r61.1.1.2.1), .cell (.os 13), .cell (.int .i64 r61.1.1.2.2.2.1), .cell (.int .i64 r61.1.1.2.2.2.2.1), .cell (.int .i64 r61.1.1.2.2.2.2.2.1), .cell (.str r61.1.2.1.1), .cell (.str r61.1.2.1.2.1), .cell (.int .i64 r61.1.2.1.2.2.1)] [] Try.isAgg51 Try.sizeOf51 rfl rfl rfl rfl rfl rfl rfl) rfl ?_
                refine ao_read trivial (r_load_st [] [.cell (.os 4), .cell (.int .i64 r7.1.1.2.1), .cell (.os 5), .cell (.int .i64 r7.1.1.2.2.2.1), .cell (.int .i64 r7.1.1.2.2.2.2.1), .cell (.int .i64 r7.1.1.2.2.2.2.2.1), .cell (.str r7.1.2.1.1), .cell (.str r7.1.2.1.2.1), .cell (.int .i64 r7.1.2.1.2.2.1)] [] Try.isAgg51 Try.sizeOf51 rfl rfl rfl rfl rfl rfl rfl) rfl ?_
                refine ao_scall trivial (scall (c_laws_eqConsole (is_mk (rfl : p_laws_eqConsole ((r61.1.1.1, (r61.1.1.2.1, (r61.1.1.2.2.1, (r61.1.1.2.2.2.1, (r61.1.1.2.2.2.2.1, (r61.1.1.2.2.2.2.2.1, ())))))), ((r61.1.2.1.1, (r61.1.2.1.2.1, (r61.1.2.1.2.2.1, ()))), ())) ((r7.1.1.1, (r7.1.1.2.1, (r7.1.1.2.2.1, (r7.1.1.2.2.2.1, (r7.1.1.2.2.2.2.1, (r7.1.1.2.2.2.2.2.1, ())))))), ((r7.1.2.1.1, (r7.1.2.1.2.1, (r7.1.2.1.2.2.1, ()))), ())) = _))) rfl Try.func31 rfl rfl rfl rfl (fun σ => ⟨ad_st rfl rfl ⟨ad_os0 rfl, ad_ren rfl, ad_os0 rfl, ad_ren rfl, ad_ren rfl, ad_ren rfl, ad_ren rfl, ad_ren rfl, ad_ren rfl, trivial⟩, ad_st rfl rfl ⟨ad_os0 rfl, ad_ren rfl, ad_os0 rfl, ad_ren rfl, ad_ren rfl, ad_ren rfl, ad_ren rfl, ad_ren rfl, ad_ren rfl, trivial⟩, trivial⟩)) rfl ?_
                refine ao_read trivial (r_not rfl) rfl ?_
                refine ao_read trivial (r_move rfl) rfl ?_
                refine ao_readG (x := .bool r61.2) rfl (GV.F rfl) (fun hg64 => r_move rfl) rfl ?_
                refine ao_readG (x := .bool r7.2) rfl (GV.F rfl) (fun hg65 => r_move rfl) rfl ?_
                refine ao_readG (x := .bool (r61.2 != r7.2)) rfl (GV.F rfl) (fun hg66 => Reads.strip 84 rfl (hg66) (Reads.strip 85 rfl (hg66) (r_neq_bool Try.underlying4 rfl rfl))) rfl ?_
                refine ao_read trivial (r_orB rfl rfl) rfl ?_
                refine ao_nil ?_
                refine aq_then ?_
                refine aw_cond rfl (fun hb67 => ?_) (fun hb67 => ?_)
                · replace h := is_if hb67 h
                  refine aw_seq ?_
                  refine aw_region ?_
                  refine ao_read trivial (r_assign rfl) rfl ?_
                  refine ao_nil ?_
                  refine aq_then ?_
                  refine aw_ret ?_
                  refine aq_then_ret ?_
                  refine aq_ret ?_
                  obtain rfl := is_some h
                  exact aq_finx (l := [.tmp 2]) (xs := [.bool false]) idn [.bool false] [] rfl (by exact ⟨rfl, trivial⟩) (by exact ⟨ad_ren rfl, trivial⟩) (by exact trivial) rfl (nk rfl) rfl rfl ⟨rfl, rfl⟩
                · obtain ⟨q68, q69⟩ := or_f hb67
                  replace h := is_else (ne_t hb67) h
                  refine aw_skip ?_
                  refine aq_then ?_
                  refine aw_seq ?_
                  refine aw_region ?_
                  refine ao_read trivial (r_assign rfl) rfl ?_
                  refine ao_nil ?_
                  refine aq_then ?_
                  refine aw_seq ?_
                  refine aw_region ?_
                  refine ao_read trivial (r_load_st [] [.cell (.os 8), .cell (.int .i64 r13.1.1.2.1), .cell (.os 9), .cell (.int .i64 r13.1.1.2.2.2.1), .cell (.int .i64 r13.1.1.2.2.2.2.1), .cell (.int .i64 r13.1.1.2.2.2.2.2.1), .cell (.str r13.1.2.1.1), .cell (.str r13.1.2.1.2.1), .cell (.int .i64 r13.1.2.1.2.2.1)] [] Try.isAgg51 Try.sizeOf51 rfl rfl rfl rfl rfl rfl rfl) rfl ?_
                  refine ao_read trivial (r_move rfl) rfl ?_
                  refine ao_scall trivial (scall (c_laws_heldConsole (is_mk (rfl : p_laws_heldConsole (((p_laws_markConsole r13.1.1.1 r13.1.1.2.1 r13.1.1.2.2.1 r13.1.1.2.2.2.1 r13.1.1.2.2.2.2.1 r13.1.1.2.2.2.2.2.1 r13.1.2.1.1 r13.1.2.1.2.1 r13.1.2.1.2.2.1 1).2.1, (r13.1.1.2.1, ((p_laws_markConsole r13.1.1.1 r13.1.1.2.1 r13.1.1.2.2.1 r13.1.1.2.2.2.1 r13.1.1.2.2.2.2.1 r13.1.1.2.2.2.2.2.1 r13.1.2.1.1 r13.1.2.1.2.1 r13.1.2.1.2.2.1 1).2.2, (r13.1.1.2.2.2.1, (r13.1.1.2.2.2.2.1, (r13.1.1.2.2.2.2.2.1, ())))))), ((r13.1.2.1.1, (r13.1.2.1.2.1, (r13.1.2.1.2.2.1, ()))), ())) 1 = _))) rfl Try.func33 rfl rfl rfl rfl (fun σ => ⟨ad_st rfl rfl ⟨ad_os0 rfl, ad_ren rfl, ad_os0 rfl, ad_ren rfl, ad_ren rfl, ad_ren rfl, ad_ren rfl, ad_ren rfl, ad_ren rfl, trivial⟩, ad_ren rfl, trivial⟩)) rfl ?_
                  refine ao_read trivial (r_assign rfl) rfl ?_
                  refine ao_nil ?_
                  refine aq_then ?_
                  refine aw_seq ?_
                  refine aw_seq ?_
                  refine aw_region ?_
                  refine ao_read trivial (r_move rfl) rfl ?_
                  refine ao_read trivial (r_lss rfl rfl) rfl ?_
                  refine ao_nil ?_
                  refine aq_then ?_
                  refine aw_cond rfl (fun hb70 => ?_) (fun hb70 => ?_)
                  · have q71 := d_t hb70
                    replace h := is_if (d_t hb70) h
                    refine aw_seq ?_
                    refine aw_region ?_
                    refine ao_read trivial (r_assign rfl) rfl ?_
                    refine ao_nil ?_
                    refine aq_then ?_
                    refine aw_ret ?_
                    refine aq_then_ret ?_
                    refine aq_ret ?_
                    obtain rfl := is_some h
                    exact aq_finx (l := [.tmp 2]) (xs := [.bool false]) idn [.bool false] [] rfl (by exact ⟨rfl, trivial⟩) (by exact ⟨ad_ren rfl, trivial⟩) (by exact trivial) rfl (nk rfl) rfl rfl ⟨rfl, rfl⟩
                  · have q72 := d_f hb70
                    replace h := is_else (d_f hb70) h
                    refine aw_skip ?_
                    refine aq_then ?_
                    refine aw_seq ?_
                    refine aw_seq ?_
                    refine aw_region ?_
                    refine ao_read trivial (r_move rfl) rfl ?_
                    refine ao_read trivial (r_move rfl) rfl ?_
                    refine ao_read trivial (r_neq rfl rfl) rfl ?_
                    refine ao_nil ?_
                    refine aq_then ?_
                    refine aw_cond rfl (fun hb73 => ?_) (fun hb73 => ?_)
                    · have q74 := d_f (not_t hb73)
                      replace h := is_else (d_f (not_t hb73)) h
                      refine aw_seq ?_
                      refine aw_region ?_
                      refine ao_read trivial (r_assign rfl) rfl ?_
                      refine ao_nil ?_
                      refine aq_then ?_
                      refine aw_ret ?_
                      refine aq_then_ret ?_
                      refine aq_ret ?_
                      obtain rfl := is_some h
                      exact aq_finx (l := [.tmp 2]) (xs := [.bool false]) idn [.bool false] [] rfl (by exact ⟨rfl, trivial⟩) (by exact ⟨ad_ren rfl, trivial⟩) (by exact trivial) rfl (nk rfl) rfl rfl ⟨rfl, rfl⟩
                    · have q75 := d_t (not_f hb73)
                      replace h := is_if (d_t (not_f hb73)) h
                      refine aw_skip ?_
                      refine aq_then ?_
                      refine aw_seq ?_
                      refine aw_region ?_
                      refine ao_read trivial (r_assign rfl) rfl ?_
                      refine ao_nil ?_
                      refine aq_then ?_
                      refine aw_ret ?_
                      refine aq_ret ?_
                      obtain rfl := is_some h
                      exact aq_finx (l := [.tmp 2]) (xs := [.bool true]) idn [.bool true] [] rfl (by exact ⟨rfl, trivial⟩) (by exact ⟨ad_ren rfl, trivial⟩) (by exact trivial) rfl (nk rfl) rfl rfl ⟨rfl, rfl⟩
      · refine an_read 0 (by kernel_rfl) (fun _ _ _ h => h) rfl (by kernel_rfl) trivial (r_load_st [] [.cell (.os 6), .cell (.int .i64 r10.2.1), .cell (.os 7), .cell (.int .i64 r10.2.2.2.1), .cell (.int .i64 r10.2.2.2.2.1), .cell (.int .i64 r10.2.2.2.2.2.1)] [] Try.isAgg35 Try.sizeOf35 rfl rfl rfl rfl rfl rfl rfl) rfl ?_
        refine an_read 1 (by kernel_rfl) (fun _ _ _ h => h) rfl (by kernel_rfl) trivial (r_load_part (τ := (.pair (.slice (.arr 6 (.int .i64))) (.pair (.int .i64) (.pair (.slice (.int .i64)) (.pair (.int .i64) (.pair (.int .i64) (.pair (.int .i64) .unit))))))) (y := ((x0.1, (x0.2.1, (x0.2.2.1, (x0.2.2.2.1, (x0.2.2.2.2.1, (x0.2.2.2.2.2.1, ())))))) : ((List (List Int)) × (Int × ((List Int) × (Int × (Int × (Int × Unit)))))))) [] [] rfl Try.isAgg32 Try.sizeOf32 rfl rfl rfl rfl) rfl ?_
        refine an_explore 12 rfl ?_
        refine ax_all [2] (by kernel_rfl) ⟨?_, trivial⟩
        refine axo_call 2 12 rfl trivial (c_laws_toTavern (is_mk r22h)) Try.func16 rfl rfl rfl rfl ⟨ad_ren rfl, trivial⟩ rfl rfl rfl rfl (fun r' H' hr => ?_)
        obtain ⟨rfl, rfl⟩ := hr
        refine ax_all [3] (by kernel_rfl) ⟨?_, trivial⟩
        refine axo_scall 3 rfl trivial (scall (c_laws_eqTavern (is_mk (rfl : p_laws_eqTavern (r10.1, (r10.2.1, (r10.2.2.1, (r10.2.2.2.1, (r10.2.2.2.2.1, (r10.2.2.2.2.2.1, ())))))) (r22.1, (r22.2.1, (r22.2.2.1, (r22.2.2.2.1, (r22.2.2.2.2.1, (r22.2.2.2.2.2.1, ())))))) = _))) rfl Try.func18 rfl rfl rfl rfl (fun σ => ⟨ad_st rfl rfl ⟨ad_os0 rfl, ad_ren rfl, ad_os0 rfl, ad_ren rfl, ad_ren rfl, ad_ren rfl, trivial⟩, ad_st rfl rfl ⟨ad_os0 rfl, ad_ren rfl, ad_os0 rfl, ad_ren rfl, ad_ren rfl, ad_ren rfl, trivial⟩, trivial⟩)) rfl ?_
        refine ax_all [4] (by kernel_rfl) ⟨?_, trivial⟩
        refine axo_read 4 rfl trivial (r_not rfl) rfl ?_
        exact ax_done rfl (AQ.sub (sub_mk (rn [(1, 5), (2, 8), (3, 11), (4, 3), (5, 4), (8, 9), (9, 10)]) (by exact ⟨⟨_, rfl, ad_ren rfl⟩, ⟨_, rfl, ad_ren rfl⟩, ⟨_, rfl, ad_ren rfl⟩, ⟨_, rfl, ad_ren rfl⟩, ⟨_, rfl, ad_ren rfl⟩, ⟨_, rfl, ad_ren rfl⟩, ⟨_, rfl, ad_ren rfl⟩, trivial⟩) (by exact ⟨⟨_, rfl, ⟨ad_ren rfl, rfl, ad_ren rfl, rfl, ad_ren rfl, rfl, ad_ren rfl, rfl, ad_ren rfl, rfl, ad_ren rfl, rfl, trivial⟩⟩, ⟨_, rfl, ⟨ad_ren rfl, rfl, ad_ren rfl, rfl, ad_ren rfl, rfl, ad_ren rfl, rfl, ad_ren rfl, rfl, ad_ren rfl, rfl, ad_ren rfl, rfl, ad_ren rfl, rfl, ad_ren rfl, rfl, trivial⟩⟩, ⟨_, rfl, ⟨ad_ren rfl, rfl, ad_ren rfl, rfl, ad_ren rfl, rfl, ad_ren rfl, rfl, ad_ren rfl, rfl, ad_ren rfl, rfl, trivial⟩⟩, ⟨_, rfl, ⟨ad_ren rfl, rfl, ad_ren rfl, rfl, ad_ren rfl, rfl, ad_ren rfl, rfl, ad_ren rfl, rfl, ad_ren rfl, rfl, ad_ren rfl, rfl, ad_ren rfl, rfl, ad_ren rfl, rfl, trivial⟩⟩, ⟨_, rfl, rfl⟩, ⟨_, rfl, rfl⟩, ⟨_, rfl, rfl⟩, ⟨_, rfl, rfl⟩, ⟨_, rfl, rfl⟩, ⟨_, rfl, rfl⟩, trivial⟩) (by rfl) (nk rfl)) key)
end Go.GA
