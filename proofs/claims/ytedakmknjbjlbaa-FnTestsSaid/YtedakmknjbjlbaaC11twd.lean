/- Walks: what the Go functions compute, by the printed lines below; no further conditions. -/
import Derived.Test.YtedakmknjbjlbaaC11twc
namespace Go.GA
open Go Go.Proofs
set_option maxRecDepth 100000
set_option maxHeartbeats 2000000
set_option linter.unusedVariables false
set_option linter.unusedSimpArgs false
theorem c_spec_DrawChanceMissing {x0 : (List Int)} {r : (List Int) × Int × Int} (h : Is (p_spec_DrawChanceMissing x0) (some r)) :
    Scalar Try.prog 78 [.v (.slice (.int .u8)) x0] (.tup [.v (.arr 6 (.int .i64)) r.1, .int .i64 r.2.1, .int .i64 r.2.2]) := by
  unfold p_spec_DrawChanceMissing at h
  refine ac_enter ⟨26, 0⟩ Try.func78 rfl rfl rfl rfl rfl (fun Γ => ?_)
  refine sl_len_m 0 (x0.length : Int) rfl rfl (fun hl0 => ?_)
  refine aw_seq ?_
  refine aw_region ?_
  refine ao_eff trivial (e_alloc 0 (y := .v (.arr 6 (.int .i64)) ((List.replicate 6 0) : (List Int))) Try.zeroValue60 (fun ρ h M => ra_zero_arr (t := (.int .i64)) rfl) rfl rfl rfl rfl rfl) rfl ?_
  refine ao_read trivial (r_assign rfl) rfl ?_
  refine ao_read trivial (r_assign rfl) rfl ?_
  refine ao_nil ?_
  refine aq_then ?_
  refine aw_seq ?_
  refine aw_region ?_
  refine ao_read trivial (r_move rfl) rfl ?_
  refine ao_read trivial (r_build_st (l := [(0, .tmp 8)]) (cs := [.cell (.v (.slice (.int .u8)) x0), .cell (.int .i64 0), .cell (.int .u64 0)]) (.pair (.slice (.int .u8)) (.pair (.int .i64) (.pair (.int .u64) .unit))) [(0, 1), (1, 1), (2, 1)] Try.underlying98 Try.zeroValue98 rfl ⟨rfl, Try.sizeOf22, rfl, Try.sizeOf3, rfl, Try.sizeOf96, trivial⟩ rfl rfl rfl) rfl ?_
  refine ao_eff trivial (e_box 1 rfl rfl rfl rfl rfl rfl) rfl ?_
  refine ao_read trivial (r_assign rfl) rfl ?_
  refine ao_nil ?_
  refine aq_then ?_
  refine aw_seq ?_
  refine aw_region ?_
  refine ao_read trivial (r_move rfl) rfl ?_
  obtain ⟨r1, r1h, h⟩ := is_bind h
  refine ao_scall trivial (scall (c_spec_DrawCountVectors (is_mk r1h)) rfl Try.func156 rfl rfl rfl rfl (fun σ => ⟨ad_ren rfl, trivial⟩)) rfl ?_
  refine ao_read trivial (r_move rfl) rfl ?_
  refine ao_read trivial (r_extract rfl rfl) rfl ?_
  refine ao_read trivial (r_extract rfl rfl) rfl ?_
  refine ao_eff trivial (e_alloc 2 (y := .v (.arr 6 (.int .i64)) ((List.replicate 6 0) : (List Int))) Try.zeroValue60 (fun ρ h M => ra_zero_arr (t := (.int .i64)) rfl) rfl rfl rfl rfl rfl) rfl ?_
  refine ao_effS trivial (e_store rfl rfl rfl rfl Try.sizeOf60 rfl) ?_
  refine ao_read trivial (r_assign rfl) rfl ?_
  refine ao_nil ?_
  refine aq_then ?_
  refine aw_seq ?_
  obtain ⟨r2, r2h, h⟩ := is_bind h
  obtain ⟨g3, h⟩ := is_guard h
  obtain ⟨g4, h⟩ := is_guard h
  obtain ⟨r5, r5h, h⟩ := is_bind h
  refine aw_drawP 13 rfl (by kernel_rfl) ?_
  refine ap_to [(2, .ref 0 0), (3, .int .i64 r1.2), (4, .int .i64 r5.1)] [(0, .var [.arr (.int .i64) 6 r1.1])] ?_ (fun key => ?_)
  · refine aq_then ?_
    refine aw_ret ?_
    refine aq_ret ?_
    obtain rfl := is_some h
    exact aq_finx (l := [.cell 2 60, .tmp 3, .tmp 4]) (xs := [.v (.arr 6 (.int .i64)) r1.1, .int .i64 r1.2, .int .i64 r5.1]) idn [.v (.arr 6 (.int .i64)) r1.1, .int .i64 r1.2, .int .i64 r5.1] [] rfl (by exact ⟨⟨⟨_, _, rfl⟩, r_load_arr rfl Try.isAgg60 Try.sizeOf60 rfl rfl rfl⟩, rfl, rfl, trivial⟩) (by exact ⟨ad_ren rfl, ad_ren rfl, ad_ren rfl, trivial⟩) (by exact trivial) rfl (nk rfl) rfl rfl ⟨rfl, rfl⟩
  refine ap_let (g := 3) (listed := #[true, true, true, true, true, true, true, true, true, true, false, false, false]) [(2, .ref 0 0), (3, .int .i64 0), (4, .int .i64 0), (16, .v (.arr 6 (.int .i64)) r1.1), (17, .int .i64 r1.2), (25, .int .i64 r5.1)] [(0, .var [.arr (.int .i64) 6 ((List.replicate 6 0) : (List Int))])] ?_ (fun k11 => ?_)
  · refine ap_all [10] (by kernel_rfl) ⟨?_, trivial⟩
    refine apo_ao rfl ?_
    refine ao_effS trivial (e_store rfl rfl rfl rfl Try.sizeOf60 rfl) ?_
    refine ao_nil ?_
    refine ap_in ?_
    refine ap_pure 11 (by kernel_rfl) (fun _ _ _ h => h) rfl (by kernel_rfl) trivial (rp_assign rfl) rfl ?_
    refine ap_pure 12 (by kernel_rfl) (fun _ _ _ h => h) rfl (by kernel_rfl) trivial (rp_assign rfl) rfl ?_
    exact ap_end (by kernel_rfl) (AQ.sub (sub_mk idn (by exact ⟨⟨_, rfl, ad_ren rfl⟩, ⟨_, rfl, ad_ren rfl⟩, ⟨_, rfl, ad_ren rfl⟩, trivial⟩) (by exact ⟨⟨_, rfl, ⟨rfl, trivial⟩⟩, trivial⟩) (by rfl) (nk rfl)) key)
  refine ap_let (g := 4) (listed := #[true, true, true, true, true, true, true, true, true, false, false, false, false]) [(2, .ref 0 0), (3, .int .i64 0), (4, .int .i64 0), (16, .v (.arr 6 (.int .i64)) r1.1), (17, .int .i64 r1.2), (18, .ref 1 0), (24, .os 2)] [(0, .var [.arr (.int .i64) 6 ((List.replicate 6 0) : (List Int))]), (1, .var [.cell (.v (.slice (.int .u8)) x0), .cell (.int .i64 r2.2.1), .cell (.int .u64 r2.2.2)]), (2, .row (.int .i64) (([1, 0, 2, 3, 5, 6, 7, (-1)].take (IntKind.wrap .i64 (6 + (IntKind.wrap .i64 (r2.1.tdiv 11)))).toNat) : (List Int)))] ?_ (fun k10 => ?_)
  · refine ap_all [9] (by kernel_rfl) ⟨?_, trivial⟩
    refine apo_ao rfl ?_
    refine ao_frz (fr' := [(2, .ref 0 0), (3, .int .i64 0), (4, .int .i64 0), (16, .v (.arr 6 (.int .i64)) r1.1), (17, .int .i64 r1.2), (18, .ref 1 0), (24, .v (.slice (.int .i64)) (([1, 0, 2, 3, 5, 6, 7, (-1)].take (IntKind.wrap .i64 (6 + (IntKind.wrap .i64 (r2.1.tdiv 11)))).toNat) : (List Int)))]) (H' := [(0, .var [.arr (.int .i64) 6 ((List.replicate 6 0) : (List Int))]), (1, .var [.cell (.v (.slice (.int .u8)) x0), .cell (.int .i64 r2.2.1), .cell (.int .u64 r2.2.2)])]) (by exact ⟨⟨_, rfl, ad_ren rfl⟩, ⟨_, rfl, ad_ren rfl⟩, ⟨_, rfl, ad_ren rfl⟩, ⟨_, rfl, ad_ren rfl⟩, ⟨_, rfl, ad_ren rfl⟩, ⟨_, rfl, ad_ren rfl⟩, ⟨_, rfl, ad_osB rfl rfl⟩, trivial⟩) (by exact ⟨⟨_, rfl, ⟨rfl, trivial⟩⟩, ⟨_, rfl, ⟨ad_ren rfl, rfl, ad_ren rfl, rfl, ad_ren rfl, rfl, trivial⟩⟩, trivial⟩) rfl ?_
    refine ao_callV [1] 3 trivial (c_spec_l1Cur_among (is_mk r5h)) Try.func97 rfl rfl rfl rfl rfl ⟨rfl, trivial⟩ ⟨⟨_, rfl, ⟨ad_ren rfl, rfl, ad_ren rfl, rfl, ad_ren rfl, rfl, trivial⟩⟩, trivial⟩ rfl rfl rfl rfl rfl rfl rfl (fun r' H' hr => ?_)
    obtain ⟨rfl, rfl⟩ := hr
    refine ao_norm (y := .int .i64 r5.1) (H' := [(0, .var [.arr (.int .i64) 6 ((List.replicate 6 0) : (List Int))]), (1, .var [.cell (.v (.slice (.int .u8)) x0), .cell (.int .i64 r5.2.1), .cell (.int .u64 r5.2.2)])]) rfl rfl ?_
    refine ao_nil ?_
    refine ap_in ?_
    exact ap_go (by kernel_rfl) (sub_mk idn (by exact ⟨⟨_, rfl, ad_ren rfl⟩, ⟨_, rfl, ad_ren rfl⟩, ⟨_, rfl, ad_ren rfl⟩, ⟨_, rfl, ad_ren rfl⟩, ⟨_, rfl, ad_ren rfl⟩, ⟨_, rfl, ad_ren rfl⟩, trivial⟩) (by exact ⟨⟨_, rfl, ⟨rfl, trivial⟩⟩, trivial⟩) (by rfl) (nk rfl)) k11
  refine ap_let (g := 4) (listed := #[false, true, true, true, true, true, true, true, true, true, false, false, false]) [(2, .ref 0 0), (3, .int .i64 0), (4, .int .i64 0), (6, .ref 1 0), (17, .int .i64 r1.2), (25, .int .i64 r5.1)] [(0, .var [.arr (.int .i64) 6 ((List.replicate 6 0) : (List Int))]), (1, .var [.arr (.int .i64) 6 r1.1])] ?_ (fun k16 => ?_)
  · refine ap_all [0] (by kernel_rfl) ⟨?_, trivial⟩
    refine apo_ao rfl ?_
    refine ao_read trivial (r_load_arr rfl Try.isAgg60 Try.sizeOf60 rfl rfl rfl) rfl ?_
    refine ao_nil ?_
    refine ap_in ?_
    exact ap_go (by kernel_rfl) (sub_mk idn (by exact ⟨⟨_, rfl, ad_ren rfl⟩, ⟨_, rfl, ad_ren rfl⟩, ⟨_, rfl, ad_ren rfl⟩, ⟨_, rfl, ad_ren rfl⟩, ⟨_, rfl, ad_ren rfl⟩, ⟨_, rfl, ad_ren rfl⟩, trivial⟩) (by exact ⟨⟨_, rfl, ⟨rfl, trivial⟩⟩, trivial⟩) (by rfl) (nk rfl)) k11
  refine ap_let (g := 5) (listed := #[true, true, true, true, true, true, true, true, false, false, false, false, false]) [(2, .ref 0 0), (3, .int .i64 0), (4, .int .i64 0), (16, .v (.arr 6 (.int .i64)) r1.1), (17, .int .i64 r1.2), (18, .ref 1 0), (19, .os 2), (23, .int .i64 (IntKind.wrap .i64 (6 + (IntKind.wrap .i64 (r2.1.tdiv 11)))))] [(0, .var [.arr (.int .i64) 6 ((List.replicate 6 0) : (List Int))]), (1, .var [.cell (.v (.slice (.int .u8)) x0), .cell (.int .i64 r2.2.1), .cell (.int .u64 r2.2.2)]), (2, .row (.int .i64) ([1, 0, 2, 3, 5, 6, 7, (-1)] : (List Int)))] ?_ (fun k9 => ?_)
  · refine ap_all [8] (by kernel_rfl) ⟨?_, trivial⟩
    refine apo_ao rfl ?_
    refine ao_eff trivial (e_shrink (t := (.int .i64)) 3 rfl Try.underlying24 Try.sizeOf3 rfl rfl (.some rfl) (by omega) (show (IntKind.wrap .i64 (6 + (IntKind.wrap .i64 (r2.1.tdiv 11)))) ≤ (([1, 0, 2, 3, 5, 6, 7, (-1)] : List Int).length : Int) from by (try simp only [List.length_cons, List.length_nil]) <;> omega) rfl rfl) rfl ?_
    refine ao_nil ?_
    refine ap_in ?_
    exact ap_go (by kernel_rfl) (sub_mk (rn [(2, 3)]) (by exact ⟨⟨_, rfl, ad_ren rfl⟩, ⟨_, rfl, ad_ren rfl⟩, ⟨_, rfl, ad_ren rfl⟩, ⟨_, rfl, ad_ren rfl⟩, ⟨_, rfl, ad_ren rfl⟩, ⟨_, rfl, ad_ren rfl⟩, ⟨_, rfl, ad_ren rfl⟩, trivial⟩) (by exact ⟨⟨_, rfl, ⟨rfl, trivial⟩⟩, ⟨_, rfl, ⟨ad_ren rfl, rfl, ad_ren rfl, rfl, ad_ren rfl, rfl, trivial⟩⟩, ⟨_, rfl, rfl⟩, trivial⟩) (by rfl) (nk rfl)) k10
  refine ap_let (g := 5) (listed := #[false, true, true, true, true, true, true, true, true, false, false, false, false]) [(2, .ref 0 0), (3, .int .i64 0), (4, .int .i64 0), (6, .ref 1 0), (17, .int .i64 r1.2), (18, .ref 2 0), (24, .os 3)] [(0, .var [.arr (.int .i64) 6 ((List.replicate 6 0) : (List Int))]), (1, .var [.arr (.int .i64) 6 r1.1]), (2, .var [.cell (.v (.slice (.int .u8)) x0), .cell (.int .i64 r2.2.1), .cell (.int .u64 r2.2.2)]), (3, .row (.int .i64) (([1, 0, 2, 3, 5, 6, 7, (-1)].take (IntKind.wrap .i64 (6 + (IntKind.wrap .i64 (r2.1.tdiv 11)))).toNat) : (List Int)))] ?_ (fun k15 => ?_)
  · refine ap_all [0, 9] (by kernel_rfl) ⟨?_, ?_, trivial⟩
    · refine apo_ao rfl ?_
      refine ao_read trivial (r_load_arr rfl Try.isAgg60 Try.sizeOf60 rfl rfl rfl) rfl ?_
      refine ao_nil ?_
      refine ap_in ?_
      exact ap_go (by kernel_rfl) (sub_mk (rn [(1, 2), (2, 3)]) (by exact ⟨⟨_, rfl, ad_ren rfl⟩, ⟨_, rfl, ad_ren rfl⟩, ⟨_, rfl, ad_ren rfl⟩, ⟨_, rfl, ad_ren rfl⟩, ⟨_, rfl, ad_ren rfl⟩, ⟨_, rfl, ad_ren rfl⟩, ⟨_, rfl, ad_ren rfl⟩, trivial⟩) (by exact ⟨⟨_, rfl, ⟨rfl, trivial⟩⟩, ⟨_, rfl, ⟨ad_ren rfl, rfl, ad_ren rfl, rfl, ad_ren rfl, rfl, trivial⟩⟩, ⟨_, rfl, rfl⟩, trivial⟩) (by rfl) (nk rfl)) k10
    · refine apo_ao rfl ?_
      refine ao_frz (fr' := [(2, .ref 0 0), (3, .int .i64 0), (4, .int .i64 0), (6, .ref 1 0), (17, .int .i64 r1.2), (18, .ref 2 0), (24, .v (.slice (.int .i64)) (([1, 0, 2, 3, 5, 6, 7, (-1)].take (IntKind.wrap .i64 (6 + (IntKind.wrap .i64 (r2.1.tdiv 11)))).toNat) : (List Int)))]) (H' := [(0, .var [.arr (.int .i64) 6 ((List.replicate 6 0) : (List Int))]), (1, .var [.arr (.int .i64) 6 r1.1]), (2, .var [.cell (.v (.slice (.int .u8)) x0), .cell (.int .i64 r2.2.1), .cell (.int .u64 r2.2.2)])]) (by exact ⟨⟨_, rfl, ad_ren rfl⟩, ⟨_, rfl, ad_ren rfl⟩, ⟨_, rfl, ad_ren rfl⟩, ⟨_, rfl, ad_ren rfl⟩, ⟨_, rfl, ad_ren rfl⟩, ⟨_, rfl, ad_ren rfl⟩, ⟨_, rfl, ad_osB rfl rfl⟩, trivial⟩) (by exact ⟨⟨_, rfl, ⟨rfl, trivial⟩⟩, ⟨_, rfl, ⟨rfl, trivial⟩⟩, ⟨_, rfl, ⟨ad_ren rfl, rfl, ad_ren rfl, rfl, ad_ren rfl, rfl, trivial⟩⟩, trivial⟩) rfl ?_
      refine ao_callV [2] 4 trivial (c_spec_l1Cur_among (is_mk r5h)) Try.func97 rfl rfl rfl rfl rfl ⟨rfl, trivial⟩ ⟨⟨_, rfl, ⟨ad_ren rfl, rfl, ad_ren rfl, rfl, ad_ren rfl, rfl, trivial⟩⟩, trivial⟩ rfl rfl rfl rfl rfl rfl rfl (fun r' H' hr => ?_)
      obtain ⟨rfl, rfl⟩ := hr
      refine ao_norm (y := .int .i64 r5.1) (H' := [(0, .var [.arr (.int .i64) 6 ((List.replicate 6 0) : (List Int))]), (1, .var [.arr (.int .i64) 6 r1.1]), (2, .var [.cell (.v (.slice (.int .u8)) x0), .cell (.int .i64 r5.2.1), .cell (.int .u64 r5.2.2)])]) rfl rfl ?_
      refine ao_nil ?_
      refine ap_in ?_
      exact ap_go (by kernel_rfl) (sub_mk idn (by exact ⟨⟨_, rfl, ad_ren rfl⟩, ⟨_, rfl, ad_ren rfl⟩, ⟨_, rfl, ad_ren rfl⟩, ⟨_, rfl, ad_ren rfl⟩, ⟨_, rfl, ad_ren rfl⟩, ⟨_, rfl, ad_ren rfl⟩, trivial⟩) (by exact ⟨⟨_, rfl, ⟨rfl, trivial⟩⟩, ⟨_, rfl, ⟨rfl, trivial⟩⟩, trivial⟩) (by rfl) (nk rfl)) k16
  refine ap_let (g := 6) (listed := #[true, true, true, false, true, true, true, true, false, false, false, false, false]) [(2, .ref 0 0), (3, .int .i64 0), (4, .int .i64 0), (16, .v (.arr 6 (.int .i64)) r1.1), (17, .int .i64 r1.2), (18, .ref 1 0), (23, .int .i64 (IntKind.wrap .i64 (6 + (IntKind.wrap .i64 (r2.1.tdiv 11)))))] [(0, .var [.arr (.int .i64) 6 ((List.replicate 6 0) : (List Int))]), (1, .var [.cell (.v (.slice (.int .u8)) x0), .cell (.int .i64 r2.2.1), .cell (.int .u64 r2.2.2)])] ?_ (fun k12 => ?_)
  · refine ap_all [3] (by kernel_rfl) ⟨?_, trivial⟩
    refine apo_ao rfl ?_
    refine ao_eff trivial (e_buildSlice (l := [(0, .const (.int .i64 1)), (1, .const (.int .i64 0)), (2, .const (.int .i64 2)), (3, .const (.int .i64 3)), (4, .const (.int .i64 5)), (5, .const (.int .i64 6)), (6, .const (.int .i64 7)), (7, .const (.int .i64 (-1)))]) (t := (.int .i64)) 2 ([1, 0, 2, 3, 5, 6, 7, (-1)] : (List Int)) rfl Try.underlying24 Try.zeroValue3 Try.sizeOf3 rfl rfl rfl rfl rfl rfl rfl) rfl ?_
    refine ao_nil ?_
    refine ap_in ?_
    exact ap_go (by kernel_rfl) (sub_mk idn (by exact ⟨⟨_, rfl, ad_ren rfl⟩, ⟨_, rfl, ad_ren rfl⟩, ⟨_, rfl, ad_ren rfl⟩, ⟨_, rfl, ad_ren rfl⟩, ⟨_, rfl, ad_ren rfl⟩, ⟨_, rfl, ad_ren rfl⟩, ⟨_, rfl, ad_ren rfl⟩, ⟨_, rfl, ad_ren rfl⟩, trivial⟩) (by exact ⟨⟨_, rfl, ⟨rfl, trivial⟩⟩, ⟨_, rfl, ⟨ad_ren rfl, rfl, ad_ren rfl, rfl, ad_ren rfl, rfl, trivial⟩⟩, ⟨_, rfl, rfl⟩, trivial⟩) (by rfl) (nk rfl)) k9
  refine ap_let (g := 6) (listed := #[false, true, true, true, true, true, true, true, false, false, false, false, false]) [(2, .ref 0 0), (3, .int .i64 0), (4, .int .i64 0), (6, .ref 1 0), (17, .int .i64 r1.2), (18, .ref 2 0), (19, .os 3), (23, .int .i64 (IntKind.wrap .i64 (6 + (IntKind.wrap .i64 (r2.1.tdiv 11)))))] [(0, .var [.arr (.int .i64) 6 ((List.replicate 6 0) : (List Int))]), (1, .var [.arr (.int .i64) 6 r1.1]), (2, .var [.cell (.v (.slice (.int .u8)) x0), .cell (.int .i64 r2.2.1), .cell (.int .u64 r2.2.2)]), (3, .row (.int .i64) ([1, 0, 2, 3, 5, 6, 7, (-1)] : (List Int)))] ?_ (fun k14 => ?_)
  · refine ap_all [0, 8] (by kernel_rfl) ⟨?_, ?_, trivial⟩
    · refine apo_ao rfl ?_
      refine ao_read trivial (r_load_arr rfl Try.isAgg60 Try.sizeOf60 rfl rfl rfl) rfl ?_
      refine ao_nil ?_
      refine ap_in ?_
      exact ap_go (by kernel_rfl) (sub_mk (rn [(1, 2), (2, 3)]) (by exact ⟨⟨_, rfl, ad_ren rfl⟩, ⟨_, rfl, ad_ren rfl⟩, ⟨_, rfl, ad_ren rfl⟩, ⟨_, rfl, ad_ren rfl⟩, ⟨_, rfl, ad_ren rfl⟩, ⟨_, rfl, ad_ren rfl⟩, ⟨_, rfl, ad_ren rfl⟩, ⟨_, rfl, ad_ren rfl⟩, trivial⟩) (by exact ⟨⟨_, rfl, ⟨rfl, trivial⟩⟩, ⟨_, rfl, ⟨ad_ren rfl, rfl, ad_ren rfl, rfl, ad_ren rfl, rfl, trivial⟩⟩, ⟨_, rfl, rfl⟩, trivial⟩) (by rfl) (nk rfl)) k9
    · refine apo_ao rfl ?_
      refine ao_eff trivial (e_shrink (t := (.int .i64)) 4 rfl Try.underlying24 Try.sizeOf3 rfl rfl (.some rfl) (by omega) (show (IntKind.wrap .i64 (6 + (IntKind.wrap .i64 (r2.1.tdiv 11)))) ≤ (([1, 0, 2, 3, 5, 6, 7, (-1)] : List Int).length : Int) from by (try simp only [List.length_cons, List.length_nil]) <;> omega) rfl rfl) rfl ?_
      refine ao_nil ?_
      refine ap_in ?_
      exact ap_go (by kernel_rfl) (sub_mk (rn [(3, 4)]) (by exact ⟨⟨_, rfl, ad_ren rfl⟩, ⟨_, rfl, ad_ren rfl⟩, ⟨_, rfl, ad_ren rfl⟩, ⟨_, rfl, ad_ren rfl⟩, ⟨_, rfl, ad_ren rfl⟩, ⟨_, rfl, ad_ren rfl⟩, ⟨_, rfl, ad_ren rfl⟩, trivial⟩) (by exact ⟨⟨_, rfl, ⟨rfl, trivial⟩⟩, ⟨_, rfl, ⟨rfl, trivial⟩⟩, ⟨_, rfl, ⟨ad_ren rfl, rfl, ad_ren rfl, rfl, ad_ren rfl, rfl, trivial⟩⟩, ⟨_, rfl, rfl⟩, trivial⟩) (by rfl) (nk rfl)) k15
  refine ap_let (g := 7) (listed := #[false, true, true, false, true, true, true, true, false, false, false, false, false]) [(2, .ref 0 0), (3, .int .i64 0), (4, .int .i64 0), (6, .ref 1 0), (17, .int .i64 r1.2), (18, .ref 2 0), (23, .int .i64 (IntKind.wrap .i64 (6 + (IntKind.wrap .i64 (r2.1.tdiv 11)))))] [(0, .var [.arr (.int .i64) 6 ((List.replicate 6 0) : (List Int))]), (1, .var [.arr (.int .i64) 6 r1.1]), (2, .var [.cell (.v (.slice (.int .u8)) x0), .cell (.int .i64 r2.2.1), .cell (.int .u64 r2.2.2)])] ?_ (fun k17 => ?_)
  · refine ap_all [0, 3] (by kernel_rfl) ⟨?_, ?_, trivial⟩
    · refine apo_ao rfl ?_
      refine ao_read trivial (r_load_arr rfl Try.isAgg60 Try.sizeOf60 rfl rfl rfl) rfl ?_
      refine ao_nil ?_
      refine ap_in ?_
      exact ap_go (by kernel_rfl) (sub_mk (rn [(1, 2)]) (by exact ⟨⟨_, rfl, ad_ren rfl⟩, ⟨_, rfl, ad_ren rfl⟩, ⟨_, rfl, ad_ren rfl⟩, ⟨_, rfl, ad_ren rfl⟩, ⟨_, rfl, ad_ren rfl⟩, ⟨_, rfl, ad_ren rfl⟩, ⟨_, rfl, ad_ren rfl⟩, trivial⟩) (by exact ⟨⟨_, rfl, ⟨rfl, trivial⟩⟩, ⟨_, rfl, ⟨ad_ren rfl, rfl, ad_ren rfl, rfl, ad_ren rfl, rfl, trivial⟩⟩, trivial⟩) (by rfl) (nk rfl)) k12
    · refine apo_ao rfl ?_
      refine ao_eff trivial (e_buildSlice (l := [(0, .const (.int .i64 1)), (1, .const (.int .i64 0)), (2, .const (.int .i64 2)), (3, .const (.int .i64 3)), (4, .const (.int .i64 5)), (5, .const (.int .i64 6)), (6, .const (.int .i64 7)), (7, .const (.int .i64 (-1)))]) (t := (.int .i64)) 3 ([1, 0, 2, 3, 5, 6, 7, (-1)] : (List Int)) rfl Try.underlying24 Try.zeroValue3 Try.sizeOf3 rfl rfl rfl rfl rfl rfl rfl) rfl ?_
      refine ao_nil ?_
      refine ap_in ?_
      exact ap_go (by kernel_rfl) (sub_mk idn (by exact ⟨⟨_, rfl, ad_ren rfl⟩, ⟨_, rfl, ad_ren rfl⟩, ⟨_, rfl, ad_ren rfl⟩, ⟨_, rfl, ad_ren rfl⟩, ⟨_, rfl, ad_ren rfl⟩, ⟨_, rfl, ad_ren rfl⟩, ⟨_, rfl, ad_ren rfl⟩, ⟨_, rfl, ad_ren rfl⟩, trivial⟩) (by exact ⟨⟨_, rfl, ⟨rfl, trivial⟩⟩, ⟨_, rfl, ⟨rfl, trivial⟩⟩, ⟨_, rfl, ⟨ad_ren rfl, rfl, ad_ren rfl, rfl, ad_ren rfl, rfl, trivial⟩⟩, ⟨_, rfl, rfl⟩, trivial⟩) (by rfl) (nk rfl)) k14
  refine ap_let (g := 8) (listed := #[true, true, true, true, true, false, false, false, false, false, false, false, false]) [(2, .ref 0 0), (3, .int .i64 0), (4, .int .i64 0), (16, .v (.arr 6 (.int .i64)) r1.1), (17, .int .i64 r1.2), (18, .ref 1 0), (19, .os 2), (20, .ref 1 0)] [(0, .var [.arr (.int .i64) 6 ((List.replicate 6 0) : (List Int))]), (1, .var [.cell (.v (.slice (.int .u8)) x0), .cell (.int .i64 0), .cell (.int .u64 0)]), (2, .row (.int .i64) ([1, 0, 2, 3, 5, 6, 7, (-1)] : (List Int)))] ?_ (fun k8 => ?_)
  · refine ap_all [5] (by kernel_rfl) ⟨?_, trivial⟩
    refine apo_ao rfl ?_
    refine ao_callV [1] 3 trivial (c_spec_l1Cur_pick (is_mk r2h)) Try.func103 rfl rfl rfl rfl rfl ⟨rfl, trivial⟩ ⟨⟨_, rfl, ⟨ad_ren rfl, rfl, ad_ren rfl, rfl, ad_ren rfl, rfl, trivial⟩⟩, trivial⟩ rfl rfl rfl rfl rfl rfl rfl (fun r' H' hr => ?_)
    obtain ⟨rfl, rfl⟩ := hr
    refine ao_norm (y := .int .i64 r2.1) (H' := [(0, .var [.arr (.int .i64) 6 ((List.replicate 6 0) : (List Int))]), (2, .row (.int .i64) ([1, 0, 2, 3, 5, 6, 7, (-1)] : (List Int))), (1, .var [.cell (.v (.slice (.int .u8)) x0), .cell (.int .i64 r2.2.1), .cell (.int .u64 r2.2.2)])]) rfl rfl ?_
    refine ao_nil ?_
    refine ap_in ?_
    refine ap_pure 6 (by kernel_rfl) (fun _ _ _ h => h) rfl (by kernel_rfl) trivial (rp_quo rfl rfl (by decide)) rfl ?_
    refine ap_pure 7 (by kernel_rfl) (fun _ _ _ h => h) rfl (by kernel_rfl) trivial (rp_add rfl rfl) rfl ?_
    exact ap_go (by kernel_rfl) (sub_mk idn (by exact ⟨⟨_, rfl, ad_ren rfl⟩, ⟨_, rfl, ad_ren rfl⟩, ⟨_, rfl, ad_ren rfl⟩, ⟨_, rfl, ad_ren rfl⟩, ⟨_, rfl, ad_ren rfl⟩, ⟨_, rfl, ad_ren rfl⟩, ⟨_, rfl, ad_ren rfl⟩, ⟨_, rfl, ad_ren rfl⟩, trivial⟩) (by exact ⟨⟨_, rfl, ⟨rfl, trivial⟩⟩, ⟨_, rfl, ⟨ad_ren rfl, rfl, ad_ren rfl, rfl, ad_ren rfl, rfl, trivial⟩⟩, ⟨_, rfl, rfl⟩, trivial⟩) (by rfl) (nk rfl)) k9
  refine ap_let (g := 9) (listed := #[true, true, true, false, true, false, false, false, false, false, false, false, false]) [(2, .ref 0 0), (3, .int .i64 0), (4, .int .i64 0), (16, .v (.arr 6 (.int .i64)) r1.1), (17, .int .i64 r1.2), (18, .ref 1 0), (20, .ref 1 0)] [(0, .var [.arr (.int .i64) 6 ((List.replicate 6 0) : (List Int))]), (1, .var [.cell (.v (.slice (.int .u8)) x0), .cell (.int .i64 0), .cell (.int .u64 0)])] ?_ (fun k7 => ?_)
  · refine ap_all [3, 5] (by kernel_rfl) ⟨?_, ?_, trivial⟩
    · refine apo_ao rfl ?_
      refine ao_eff trivial (e_buildSlice (l := [(0, .const (.int .i64 1)), (1, .const (.int .i64 0)), (2, .const (.int .i64 2)), (3, .const (.int .i64 3)), (4, .const (.int .i64 5)), (5, .const (.int .i64 6)), (6, .const (.int .i64 7)), (7, .const (.int .i64 (-1)))]) (t := (.int .i64)) 2 ([1, 0, 2, 3, 5, 6, 7, (-1)] : (List Int)) rfl Try.underlying24 Try.zeroValue3 Try.sizeOf3 rfl rfl rfl rfl rfl rfl rfl) rfl ?_
      refine ao_nil ?_
      refine ap_in ?_
      exact ap_go (by kernel_rfl) (sub_mk idn (by exact ⟨⟨_, rfl, ad_ren rfl⟩, ⟨_, rfl, ad_ren rfl⟩, ⟨_, rfl, ad_ren rfl⟩, ⟨_, rfl, ad_ren rfl⟩, ⟨_, rfl, ad_ren rfl⟩, ⟨_, rfl, ad_ren rfl⟩, ⟨_, rfl, ad_ren rfl⟩, ⟨_, rfl, ad_ren rfl⟩, trivial⟩) (by exact ⟨⟨_, rfl, ⟨rfl, trivial⟩⟩, ⟨_, rfl, ⟨ad_ren rfl, rfl, ad_ren rfl, rfl, ad_ren rfl, rfl, trivial⟩⟩, ⟨_, rfl, rfl⟩, trivial⟩) (by rfl) (nk rfl)) k8
    · refine apo_ao rfl ?_
      refine ao_callV [1] 2 trivial (c_spec_l1Cur_pick (is_mk r2h)) Try.func103 rfl rfl rfl rfl rfl ⟨rfl, trivial⟩ ⟨⟨_, rfl, ⟨ad_ren rfl, rfl, ad_ren rfl, rfl, ad_ren rfl, rfl, trivial⟩⟩, trivial⟩ rfl rfl rfl rfl rfl rfl rfl (fun r' H' hr => ?_)
      obtain ⟨rfl, rfl⟩ := hr
      refine ao_norm (y := .int .i64 r2.1) (H' := [(0, .var [.arr (.int .i64) 6 ((List.replicate 6 0) : (List Int))]), (1, .var [.cell (.v (.slice (.int .u8)) x0), .cell (.int .i64 r2.2.1), .cell (.int .u64 r2.2.2)])]) rfl rfl ?_
      refine ao_nil ?_
      refine ap_in ?_
      refine ap_pure 6 (by kernel_rfl) (fun _ _ _ h => h) rfl (by kernel_rfl) trivial (rp_quo rfl rfl (by decide)) rfl ?_
      refine ap_pure 7 (by kernel_rfl) (fun _ _ _ h => h) rfl (by kernel_rfl) trivial (rp_add rfl rfl) rfl ?_
      exact ap_go (by kernel_rfl) (sub_mk idn (by exact ⟨⟨_, rfl, ad_ren rfl⟩, ⟨_, rfl, ad_ren rfl⟩, ⟨_, rfl, ad_ren rfl⟩, ⟨_, rfl, ad_ren rfl⟩, ⟨_, rfl, ad_ren rfl⟩, ⟨_, rfl, ad_ren rfl⟩, ⟨_, rfl, ad_ren rfl⟩, trivial⟩) (by exact ⟨⟨_, rfl, ⟨rfl, trivial⟩⟩, ⟨_, rfl, ⟨ad_ren rfl, rfl, ad_ren rfl, rfl, ad_ren rfl, rfl, trivial⟩⟩, trivial⟩) (by rfl) (nk rfl)) k12
  refine ap_let (g := 9) (listed := #[false, true, true, true, true, false, false, false, false, false, false, false, false]) [(2, .ref 0 0), (3, .int .i64 0), (4, .int .i64 0), (6, .ref 1 0), (17, .int .i64 r1.2), (18, .ref 2 0), (19, .os 3), (20, .ref 2 0)] [(0, .var [.arr (.int .i64) 6 ((List.replicate 6 0) : (List Int))]), (1, .var [.arr (.int .i64) 6 r1.1]), (2, .var [.cell (.v (.slice (.int .u8)) x0), .cell (.int .i64 0), .cell (.int .u64 0)]), (3, .row (.int .i64) ([1, 0, 2, 3, 5, 6, 7, (-1)] : (List Int)))] ?_ (fun k13 => ?_)
  · refine ap_all [0, 5] (by kernel_rfl) ⟨?_, ?_, trivial⟩
    · refine apo_ao rfl ?_
      refine ao_read trivial (r_load_arr rfl Try.isAgg60 Try.sizeOf60 rfl rfl rfl) rfl ?_
      refine ao_nil ?_
      refine ap_in ?_
      exact ap_go (by kernel_rfl) (sub_mk (rn [(1, 2), (2, 3)]) (by exact ⟨⟨_, rfl, ad_ren rfl⟩, ⟨_, rfl, ad_ren rfl⟩, ⟨_, rfl, ad_ren rfl⟩, ⟨_, rfl, ad_ren rfl⟩, ⟨_, rfl, ad_ren rfl⟩, ⟨_, rfl, ad_ren rfl⟩, ⟨_, rfl, ad_ren rfl⟩, ⟨_, rfl, ad_ren rfl⟩, trivial⟩) (by exact ⟨⟨_, rfl, ⟨rfl, trivial⟩⟩, ⟨_, rfl, ⟨ad_ren rfl, rfl, ad_ren rfl, rfl, ad_ren rfl, rfl, trivial⟩⟩, ⟨_, rfl, rfl⟩, trivial⟩) (by rfl) (nk rfl)) k8
    · refine apo_ao rfl ?_
      refine ao_callV [2] 4 trivial (c_spec_l1Cur_pick (is_mk r2h)) Try.func103 rfl rfl rfl rfl rfl ⟨rfl, trivial⟩ ⟨⟨_, rfl, ⟨ad_ren rfl, rfl, ad_ren rfl, rfl, ad_ren rfl, rfl, trivial⟩⟩, trivial⟩ rfl rfl rfl rfl rfl rfl rfl (fun r' H' hr => ?_)
      obtain ⟨rfl, rfl⟩ := hr
      refine ao_norm (y := .int .i64 r2.1) (H' := [(0, .var [.arr (.int .i64) 6 ((List.replicate 6 0) : (List Int))]), (1, .var [.arr (.int .i64) 6 r1.1]), (3, .row (.int .i64) ([1, 0, 2, 3, 5, 6, 7, (-1)] : (List Int))), (2, .var [.cell (.v (.slice (.int .u8)) x0), .cell (.int .i64 r2.2.1), .cell (.int .u64 r2.2.2)])]) rfl rfl ?_
      refine ao_nil ?_
      refine ap_in ?_
      refine ap_pure 6 (by kernel_rfl) (fun _ _ _ h => h) rfl (by kernel_rfl) trivial (rp_quo rfl rfl (by decide)) rfl ?_
      refine ap_pure 7 (by kernel_rfl) (fun _ _ _ h => h) rfl (by kernel_rfl) trivial (rp_add rfl rfl) rfl ?_
      exact ap_go (by kernel_rfl) (sub_mk idn (by exact ⟨⟨_, rfl, ad_ren rfl⟩, ⟨_, rfl, ad_ren rfl⟩, ⟨_, rfl, ad_ren rfl⟩, ⟨_, rfl, ad_ren rfl⟩, ⟨_, rfl, ad_ren rfl⟩, ⟨_, rfl, ad_ren rfl⟩, ⟨_, rfl, ad_ren rfl⟩, ⟨_, rfl, ad_ren rfl⟩, trivial⟩) (by exact ⟨⟨_, rfl, ⟨rfl, trivial⟩⟩, ⟨_, rfl, ⟨rfl, trivial⟩⟩, ⟨_, rfl, ⟨ad_ren rfl, rfl, ad_ren rfl, rfl, ad_ren rfl, rfl, trivial⟩⟩, ⟨_, rfl, rfl⟩, trivial⟩) (by rfl) (nk rfl)) k14
  refine ap_let (g := 10) (listed := #[false, true, true, false, true, false, false, false, false, false, false, false, false]) [(2, .ref 0 0), (3, .int .i64 0), (4, .int .i64 0), (6, .ref 1 0), (17, .int .i64 r1.2), (18, .ref 2 0), (20, .ref 2 0)] [(0, .var [.arr (.int .i64) 6 ((List.replicate 6 0) : (List Int))]), (1, .var [.arr (.int .i64) 6 r1.1]), (2, .var [.cell (.v (.slice (.int .u8)) x0), .cell (.int .i64 0), .cell (.int .u64 0)])] ?_ (fun k6 => ?_)
  · refine ap_all [0, 3, 5] (by kernel_rfl) ⟨?_, ?_, ?_, trivial⟩
    · refine apo_ao rfl ?_
      refine ao_read trivial (r_load_arr rfl Try.isAgg60 Try.sizeOf60 rfl rfl rfl) rfl ?_
      refine ao_nil ?_
      refine ap_in ?_
      exact ap_go (by kernel_rfl) (sub_mk (rn [(1, 2)]) (by exact ⟨⟨_, rfl, ad_ren rfl⟩, ⟨_, rfl, ad_ren rfl⟩, ⟨_, rfl, ad_ren rfl⟩, ⟨_, rfl, ad_ren rfl⟩, ⟨_, rfl, ad_ren rfl⟩, ⟨_, rfl, ad_ren rfl⟩, ⟨_, rfl, ad_ren rfl⟩, trivial⟩) (by exact ⟨⟨_, rfl, ⟨rfl, trivial⟩⟩, ⟨_, rfl, ⟨ad_ren rfl, rfl, ad_ren rfl, rfl, ad_ren rfl, rfl, trivial⟩⟩, trivial⟩) (by rfl) (nk rfl)) k7
    · refine apo_ao rfl ?_
      refine ao_eff trivial (e_buildSlice (l := [(0, .const (.int .i64 1)), (1, .const (.int .i64 0)), (2, .const (.int .i64 2)), (3, .const (.int .i64 3)), (4, .const (.int .i64 5)), (5, .const (.int .i64 6)), (6, .const (.int .i64 7)), (7, .const (.int .i64 (-1)))]) (t := (.int .i64)) 3 ([1, 0, 2, 3, 5, 6, 7, (-1)] : (List Int)) rfl Try.underlying24 Try.zeroValue3 Try.sizeOf3 rfl rfl rfl rfl rfl rfl rfl) rfl ?_
      refine ao_nil ?_
      refine ap_in ?_
      exact ap_go (by kernel_rfl) (sub_mk idn (by exact ⟨⟨_, rfl, ad_ren rfl⟩, ⟨_, rfl, ad_ren rfl⟩, ⟨_, rfl, ad_ren rfl⟩, ⟨_, rfl, ad_ren rfl⟩, ⟨_, rfl, ad_ren rfl⟩, ⟨_, rfl, ad_ren rfl⟩, ⟨_, rfl, ad_ren rfl⟩, ⟨_, rfl, ad_ren rfl⟩, trivial⟩) (by exact ⟨⟨_, rfl, ⟨rfl, trivial⟩⟩, ⟨_, rfl, ⟨rfl, trivial⟩⟩, ⟨_, rfl, ⟨ad_ren rfl, rfl, ad_ren rfl, rfl, ad_ren rfl, rfl, trivial⟩⟩, ⟨_, rfl, rfl⟩, trivial⟩) (by rfl) (nk rfl)) k13
    · refine apo_ao rfl ?_
      refine ao_callV [2] 3 trivial (c_spec_l1Cur_pick (is_mk r2h)) Try.func103 rfl rfl rfl rfl rfl ⟨rfl, trivial⟩ ⟨⟨_, rfl, ⟨ad_ren rfl, rfl, ad_ren rfl, rfl, ad_ren rfl, rfl, trivial⟩⟩, trivial⟩ rfl rfl rfl rfl rfl rfl rfl (fun r' H' hr => ?_)
      obtain ⟨rfl, rfl⟩ := hr
      refine ao_norm (y := .int .i64 r2.1) (H' := [(0, .var [.arr (.int .i64) 6 ((List.replicate 6 0) : (List Int))]), (1, .var [.arr (.int .i64) 6 r1.1]), (2, .var [.cell (.v (.slice (.int .u8)) x0), .cell (.int .i64 r2.2.1), .cell (.int .u64 r2.2.2)])]) rfl rfl ?_
      refine ao_nil ?_
      refine ap_in ?_
      refine ap_pure 6 (by kernel_rfl) (fun _ _ _ h => h) rfl (by kernel_rfl) trivial (rp_quo rfl rfl (by decide)) rfl ?_
      refine ap_pure 7 (by kernel_rfl) (fun _ _ _ h => h) rfl (by kernel_rfl) trivial (rp_add rfl rfl) rfl ?_
      exact ap_go (by kernel_rfl) (sub_mk idn (by exact ⟨⟨_, rfl, ad_ren rfl⟩, ⟨_, rfl, ad_ren rfl⟩, ⟨_, rfl, ad_ren rfl⟩, ⟨_, rfl, ad_ren rfl⟩, ⟨_, rfl, ad_ren rfl⟩, ⟨_, rfl, ad_ren rfl⟩, ⟨_, rfl, ad_ren rfl⟩, trivial⟩) (by exact ⟨⟨_, rfl, ⟨rfl, trivial⟩⟩, ⟨_, rfl, ⟨rfl, trivial⟩⟩, ⟨_, rfl, ⟨ad_ren rfl, rfl, ad_ren rfl, rfl, ad_ren rfl, rfl, trivial⟩⟩, trivial⟩) (by rfl) (nk rfl)) k17
  refine ap_pure 1 (by kernel_rfl) (fun _ _ _ h => h) rfl (by kernel_rfl) trivial (rp_move rfl) rfl ?_
  refine ap_pure 2 (by kernel_rfl) (fun _ _ _ h => h) rfl (by kernel_rfl) trivial (rp_move rfl) rfl ?_
  refine ap_pure 4 (by kernel_rfl) (fun _ _ _ h => h) rfl (by kernel_rfl) trivial (rp_move rfl) rfl ?_
  exact ap_go (by kernel_rfl) (sub_mk (rn [(1, 2), (2, 1)]) (by exact ⟨⟨_, rfl, ad_ren rfl⟩, ⟨_, rfl, ad_ren rfl⟩, ⟨_, rfl, ad_ren rfl⟩, ⟨_, rfl, ad_ren rfl⟩, ⟨_, rfl, ad_ren rfl⟩, ⟨_, rfl, ad_ren rfl⟩, ⟨_, rfl, ad_ren rfl⟩, trivial⟩) (by exact ⟨⟨_, rfl, ⟨rfl, trivial⟩⟩, ⟨_, rfl, ⟨rfl, trivial⟩⟩, ⟨_, rfl, ⟨ad_ren rfl, rfl, ad_ren rfl, rfl, ad_ren rfl, rfl, trivial⟩⟩, trivial⟩) (by rfl) (nk rfl)) k6
theorem c_impl_ChanceMissing_1 {x0 : (List Int)} {x1 : Int} {r : Bool} (h : Is (p_impl_ChanceMissing_1 x0 x1) r) :
    Scalar Try.prog 157 [.v (.slice (.int .i64)) x0, .cptr (.int .i64) x1] (.bool r) := by
  unfold p_impl_ChanceMissing_1 at h
  refine ac_enter ⟨22, 0⟩ Try.func157 rfl rfl rfl rfl rfl (fun Γ => ?_)
  refine sl_len_m 0 (x0.length : Int) rfl rfl (fun hl0 => ?_)
  refine aw_seq ?_
  refine aw_region ?_
  refine ao_read trivial (r_assign rfl) rfl ?_
  refine ao_nil ?_
  refine aq_then ?_
  refine aw_seq ?_
  refine aw_region ?_
  refine ao_read trivial (r_assign rfl) rfl ?_
  refine ao_nil ?_
  refine aq_then ?_
  refine aw_seq ?_
  refine aw_seq ?_
  refine aw_region ?_
  refine ao_read trivial (r_move rfl) rfl ?_
  refine ao_read trivial (r_len_vm (x0.length : Int) Try.underlying24 rfl rfl) rfl ?_
  refine ao_read trivial (r_move rfl) rfl ?_
  refine ao_nil ?_
  refine aq_then ?_
  refine aw_block ?_
  refine aw_loop (AL.sub (fr' := [(1, .cptr (.int .i64) x1), (4, .int .i64 0), (7, .v (.slice (.int .i64)) x0), (8, .int .i64 (x0.length : Int)), (9, .int .i64 0)]) (H' := []) (sub_mk idn (by exact ⟨⟨_, rfl, ad_ren rfl⟩, ⟨_, rfl, ad_ren rfl⟩, ⟨_, rfl, ad_ren rfl⟩, ⟨_, rfl, ad_ren rfl⟩, ⟨_, rfl, ad_ren rfl⟩, trivial⟩) (by exact trivial) (by rfl) (nk rfl)) (al_cnt (fun i2 (s1 : Int) => [(1, .cptr (.int .i64) x1), (4, .int .i64 s1), (7, .v (.slice (.int .i64)) x0), (8, .int .i64 (x0.length : Int)), (9, .int .i64 i2)]) (fun i2 (s1 : Int) => []) (fun d i2 (s1 : Int) => d = Int.toNat ((x0.length : Int) - i2) ∧ 0 ≤ i2 ∧ i2 ≤ (x0.length : Int)) h ⟨rfl, (by (try simp only [List.length_set, List.length_append, List.length_cons, List.length_nil, List.length_replicate, List.length_take, List.length_drop]) <;> omega), (by (try simp only [List.length_set, List.length_append, List.length_cons, List.length_nil, List.length_replicate, List.length_take, List.length_drop]) <;> omega)⟩ (fun d3 i2 s1 hI h ih3 => ?_)))
  obtain ⟨hd, _, _⟩ := hI
  refine al_round ?_
  refine aw_seq ?_
  refine aw_region ?_
  refine ao_read trivial (r_lss rfl rfl) rfl ?_
  refine ao_nil ?_
  refine aq_then ?_
  refine aw_seq ?_
  refine aw_cond rfl (fun hb5 => ?_) (fun hb5 => ?_)
  · have q6 := d_t hb5
    obtain ⟨d3, rfl⟩ : ∃ e, d3 = e + 1 := ⟨d3 - 1, by omega⟩
    replace h := is_cntS h
    refine aw_skip ?_
    refine aq_then ?_
    refine aw_seq ?_
    refine aw_block ?_
    refine aw_seq ?_
    refine aw_region ?_
    refine ao_read trivial (r_idxAddr_int Try.underlying24 Try.sizeOf3 rfl rfl (show 0 ≤ i2 from by omega) (show i2 < (x0.length : Int) from by omega)) rfl ?_
    refine ao_read trivial (r_load_c_int Try.isAgg3 Try.sizeOf3 rfl) rfl ?_
    refine ao_read trivial (r_assign rfl) rfl ?_
    refine ao_nil ?_
    refine aq_then ?_
    refine aw_region ?_
    refine ao_read trivial (r_move rfl) rfl ?_
    refine ao_read trivial (r_move rfl) rfl ?_
    refine ao_read trivial (r_eql rfl rfl) rfl ?_
    refine ao_scall trivial (scall (c_impl_truth (is_mk (rfl : p_impl_truth (decide ((x0.getD i2.toNat 0) = 0)) = _))) rfl Try.func112 rfl rfl rfl rfl (fun σ => ⟨ad_ren rfl, trivial⟩)) rfl ?_
    refine ao_read trivial (r_add rfl rfl) rfl ?_
    refine ao_read trivial (r_assign rfl) rfl ?_
    refine ao_nil ?_
    refine aq_in ?_
    refine aq_then ?_
    refine aw_region ?_
    refine ao_read trivial (r_addI rfl rfl (wrap_id (by omega) (by omega))) rfl ?_
    refine ao_read trivial (r_move rfl) rfl ?_
    refine ao_nil ?_
    exact aq_again (AL.sub (sub_mk idn (by exact ⟨⟨_, rfl, ad_ren rfl⟩, ⟨_, rfl, ad_ren rfl⟩, ⟨_, rfl, ad_ren rfl⟩, ⟨_, rfl, ad_ren rfl⟩, ⟨_, rfl, ad_ren rfl⟩, trivial⟩) (by exact trivial) (by rfl) (nk rfl)) (ih3 d3 (i2 + 1) (IntKind.wrap .i64 (s1 + (p_impl_truth (decide ((x0.getD i2.toNat 0) = 0))))) (by omega) ⟨by omega, (by (try simp only [List.length_set, List.length_append, List.length_cons, List.length_nil, List.length_replicate, List.length_take, List.length_drop]) <;> omega), (by (try simp only [List.length_set, List.length_append, List.length_cons, List.length_nil, List.length_replicate, List.length_take, List.length_drop]) <;> omega)⟩ h))
  · have q7 := d_f hb5
    obtain rfl : d3 = 0 := by omega
    replace h := is_cnt0 h
    refine aw_exit ?_
    refine aq_then_exit ?_
    refine aq_then_exit ?_
    refine aq_in_exit ?_
    refine aq_then ?_
    refine aw_seq ?_
    refine aw_region ?_
    refine ao_read trivial (r_move rfl) rfl ?_
    refine ao_read trivial (r_load_c_int Try.isAgg3 Try.sizeOf3 rfl) rfl ?_
    refine ao_read trivial (r_eql rfl rfl) rfl ?_
    refine ao_read trivial (r_assign rfl) rfl ?_
    refine ao_nil ?_
    refine aq_then ?_
    refine aw_ret ?_
    refine aq_ret ?_
    obtain rfl := is_eq h
    exact aq_finx (l := [.tmp 3]) (xs := [.bool (decide (s1 = x1))]) idn [.bool (decide (s1 = x1))] [] rfl (by exact ⟨rfl, trivial⟩) (by exact ⟨ad_ren rfl, trivial⟩) (by exact trivial) rfl (nk rfl) rfl rfl ⟨rfl, rfl⟩
theorem c_impl_chanceOfv2 {fu : Nat} {x0 : (List Int)} {x1 : Int} {x2 : Int} {r : (List Int)} (h : Is (p_impl_chanceOfv2 fu x0 x1 x2) (some r)) :
    Scalar Try.prog 140 [.v (.arr 6 (.int .i64)) x0, .int .i64 x1, .fn 157 [.cptr (.int .i64) x2]] (.v (.arr 2 (.int .i64)) r) := by
  unfold p_impl_chanceOfv2 at h
  refine ac_enter ⟨33, 0⟩ Try.func140 rfl rfl rfl rfl rfl (fun Γ => ?_)
  refine aw_seq ?_
  refine aw_region ?_
  refine ao_eff trivial (e_box 0 rfl rfl rfl rfl rfl rfl) rfl ?_
  refine ao_eff trivial (e_alloc 1 (y := .v (.arr 2 (.int .i64)) ((List.replicate 2 0) : (List Int))) Try.zeroValue35 (fun ρ h M => ra_zero_arr (t := (.int .i64)) rfl) rfl rfl rfl rfl rfl) rfl ?_
  refine ao_nil ?_
  refine aq_then ?_
  refine aw_seq ?_
  refine aw_region ?_
  refine ao_read trivial (r_assign rfl) rfl ?_
  refine ao_nil ?_
  refine aq_then ?_
  refine aw_seq ?_
  refine aw_seq ?_
  refine aw_region ?_
  refine ao_read trivial (r_load_arr rfl Try.isAgg60 Try.sizeOf60 rfl rfl rfl) rfl ?_
  obtain ⟨r1, r1h, h⟩ := is_bind h
  refine ao_call [] 2 trivial (c_impl_numbers (is_mk r1h)) Try.func175 rfl rfl rfl rfl ⟨ad_ren rfl, trivial⟩ trivial rfl rfl rfl rfl rfl rfl rfl (fun r' H' hr => ?_)
  obtain ⟨rfl, rfl⟩ := hr
  refine ao_norm (y := .os 2) (H' := [(1, .var [.arr (.int .i64) 2 ((List.replicate 2 0) : (List Int))]), (0, .var [.arr (.int .i64) 6 x0]), (2, .row (.int .i64) r1)]) rfl rfl ?_
  refine row_len_o 2 (r1.length : Int) rfl rfl (fun hr2 => ?_)
  refine ao_read trivial (r_len_osm (r1.length : Int) Try.underlying24 rfl rfl rfl) rfl ?_
  refine ao_read trivial (r_move rfl) rfl ?_
  obtain ⟨r3, r3h, h⟩ := is_bind h
  refine ao_call [] 3 trivial (c_impl_vectors (is_mk r3h)) Try.func178 rfl rfl rfl rfl ⟨ad_ren rfl, ad_ren rfl, trivial⟩ trivial rfl rfl rfl rfl rfl rfl rfl (fun r' H' hr => ?_)
  obtain ⟨rfl, rfl⟩ := hr
  refine ao_norm (y := .os 3) (H' := [(1, .var [.arr (.int .i64) 2 ((List.replicate 2 0) : (List Int))]), (0, .var [.arr (.int .i64) 6 x0]), (2, .row (.int .i64) r1), (3, .row (.slice (.int .i64)) r3)]) rfl rfl ?_
  refine row_len_o 3 (r3.length : Int) rfl rfl (fun hr4 => ?_)
  refine ao_read trivial (r_len_osm (r3.length : Int) Try.underlying133 rfl rfl rfl) rfl ?_
  refine ao_read trivial (r_move rfl) rfl ?_
  refine ao_nil ?_
  refine aq_then ?_
  refine aw_block ?_
  refine aw_loop (AL.sub (fr' := [(1, .int .i64 x1), (2, .fn 157 [.cptr (.int .i64) x2]), (3, .ref 0 0), (6, .ref 1 0), (7, .int .i64 0), (14, .os 2), (15, .int .i64 (r3.length : Int)), (16, .int .i64 0)]) (H' := [(0, .var [.arr (.int .i64) 6 x0]), (1, .var [.arr (.int .i64) 2 ((List.replicate 2 0) : (List Int))]), (2, .row (.slice (.int .i64)) r3)]) (sub_mk (rn [(2, 3)]) (by exact ⟨⟨_, rfl, ad_ren rfl⟩, ⟨_, rfl, ad_ren rfl⟩, ⟨_, rfl, ad_ren rfl⟩, ⟨_, rfl, ad_ren rfl⟩, ⟨_, rfl, ad_ren rfl⟩, ⟨_, rfl, ad_ren rfl⟩, ⟨_, rfl, ad_ren rfl⟩, ⟨_, rfl, ad_ren rfl⟩, trivial⟩) (by exact ⟨⟨_, rfl, ⟨rfl, trivial⟩⟩, ⟨_, rfl, ⟨rfl, trivial⟩⟩, ⟨_, rfl, rfl⟩, trivial⟩) (by rfl) (nk rfl)) (al_cnt (fun i6 (s5 : Int) => [(1, .int .i64 x1), (2, .fn 157 [.cptr (.int .i64) x2]), (3, .ref 0 0), (6, .ref 1 0), (7, .int .i64 s5), (14, .os 2), (15, .int .i64 (r3.length : Int)), (16, .int .i64 i6)]) (fun i6 (s5 : Int) => [(0, .var [.arr (.int .i64) 6 x0]), (1, .var [.arr (.int .i64) 2 ((List.replicate 2 0) : (List Int))]), (2, .row (.slice (.int .i64)) r3)]) (fun d i6 (s5 : Int) => d = Int.toNat ((r3.length : Int) - i6) ∧ 0 ≤ i6 ∧ i6 ≤ (r3.length : Int)) h ⟨rfl, (by (try simp only [List.length_set, List.length_append, List.length_cons, List.length_nil, List.length_replicate, List.length_take, List.length_drop]) <;> omega), (by (try simp only [List.length_set, List.length_append, List.length_cons, List.length_nil, List.length_replicate, List.length_take, List.length_drop]) <;> omega)⟩ (fun d7 i6 s5 hI h ih7 => ?_)))
  obtain ⟨hd, _, _⟩ := hI
  refine al_round ?_
  refine aw_seq ?_
  refine aw_region ?_
  refine ao_read trivial (r_lss rfl rfl) rfl ?_
  refine ao_nil ?_
  refine aq_then ?_
  refine aw_seq ?_
  refine aw_cond rfl (fun hb9 => ?_) (fun hb9 => ?_)
  · have q10 := d_t hb9
    obtain ⟨d7, rfl⟩ : ∃ e, d7 = e + 1 := ⟨d7 - 1, by omega⟩
    replace h := is_cntS h
    refine aw_skip ?_
    refine aq_then ?_
    refine aw_seq ?_
    refine aw_block ?_
    refine aw_seq ?_
    refine aw_region ?_
    refine ao_read trivial (r_idxAddr_os Try.underlying133 Try.sizeOf24 rfl rfl rfl (show 0 ≤ i6 from by omega) (show i6 < (r3.length : Int) from by omega)) rfl ?_
    refine ao_read trivial (r_load_elemv (t := (.slice (.int .i64))) Try.isAgg24 Try.sizeOf24 rfl rfl (show i6.toNat < r3.length from by omega)) rfl ?_
    refine ao_read trivial (r_assign rfl) rfl ?_
    refine ao_nil ?_
    refine aq_then ?_
    refine aw_seq ?_
    refine aw_region ?_
    refine ao_read trivial (r_move rfl) rfl ?_
    refine ao_read trivial (r_move rfl) rfl ?_
    refine ao_scall trivial (scall (c_impl_ChanceMissing_1 (is_mk (rfl : p_impl_ChanceMissing_1 (r3.getD i6.toNat []) x2 = _))) rfl Try.func157 rfl rfl rfl rfl (fun σ => ⟨ad_ren rfl, ad_ren rfl, trivial⟩)) rfl ?_
    refine ao_nil ?_
    refine aq_then ?_
    refine aw_cond rfl (fun hb12 => ?_) (fun hb12 => ?_)
    · replace h := is_if hb12 h
      refine aw_region ?_
      refine ao_read trivial (r_move rfl) rfl ?_
      refine ao_read trivial (r_load_arr rfl Try.isAgg60 Try.sizeOf60 rfl rfl rfl) rfl ?_
      refine ao_read trivial (r_move rfl) rfl ?_
      obtain ⟨r13, r13h, h⟩ := is_bind h
      refine ao_scall trivial (scall (c_impl_chance (is_mk r13h)) rfl Try.func147 rfl rfl rfl rfl (fun σ => ⟨ad_ren rfl, ad_ren rfl, trivial⟩)) rfl ?_
      refine ao_read trivial (r_add rfl rfl) rfl ?_
      refine ao_read trivial (r_assign rfl) rfl ?_
      refine ao_nil ?_
      refine aq_in ?_
      refine aq_then ?_
      refine aw_region ?_
      refine ao_read trivial (r_addI rfl rfl (wrap_id (by omega) (by omega))) rfl ?_
      refine ao_read trivial (r_move rfl) rfl ?_
      refine ao_nil ?_
      exact aq_again (AL.sub (sub_mk idn (by exact ⟨⟨_, rfl, ad_ren rfl⟩, ⟨_, rfl, ad_ren rfl⟩, ⟨_, rfl, ad_ren rfl⟩, ⟨_, rfl, ad_ren rfl⟩, ⟨_, rfl, ad_ren rfl⟩, ⟨_, rfl, ad_ren rfl⟩, ⟨_, rfl, ad_ren rfl⟩, ⟨_, rfl, ad_ren rfl⟩, trivial⟩) (by exact ⟨⟨_, rfl, ⟨rfl, trivial⟩⟩, ⟨_, rfl, ⟨rfl, trivial⟩⟩, ⟨_, rfl, rfl⟩, trivial⟩) (by rfl) (nk rfl)) (ih7 d7 (i6 + 1) (IntKind.wrap .i64 (s5 + r13)) (by omega) ⟨by omega, (by (try simp only [List.length_set, List.length_append, List.length_cons, List.length_nil, List.length_replicate, List.length_take, List.length_drop]) <;> omega), (by (try simp only [List.length_set, List.length_append, List.length_cons, List.length_nil, List.length_replicate, List.length_take, List.length_drop]) <;> omega)⟩ h))
    · replace h := is_else (ne_t hb12) h
      refine aw_skip ?_
      refine aq_in ?_
      refine aq_then ?_
      refine aw_region ?_
      refine ao_read trivial (r_addI rfl rfl (wrap_id (by omega) (by omega))) rfl ?_
      refine ao_read trivial (r_move rfl) rfl ?_
      refine ao_nil ?_
      exact aq_again (AL.sub (sub_mk idn (by exact ⟨⟨_, rfl, ad_ren rfl⟩, ⟨_, rfl, ad_ren rfl⟩, ⟨_, rfl, ad_ren rfl⟩, ⟨_, rfl, ad_ren rfl⟩, ⟨_, rfl, ad_ren rfl⟩, ⟨_, rfl, ad_ren rfl⟩, ⟨_, rfl, ad_ren rfl⟩, ⟨_, rfl, ad_ren rfl⟩, trivial⟩) (by exact ⟨⟨_, rfl, ⟨rfl, trivial⟩⟩, ⟨_, rfl, ⟨rfl, trivial⟩⟩, ⟨_, rfl, rfl⟩, trivial⟩) (by rfl) (nk rfl)) (ih7 d7 (i6 + 1) s5 (by omega) ⟨by omega, (by (try simp only [List.length_set, List.length_append, List.length_cons, List.length_nil, List.length_replicate, List.length_take, List.length_drop]) <;> omega), (by (try simp only [List.length_set, List.length_append, List.length_cons, List.length_nil, List.length_replicate, List.length_take, List.length_drop]) <;> omega)⟩ h))
  · have q11 := d_f hb9
    obtain rfl : d7 = 0 := by omega
    replace h := is_cnt0 h
    refine aw_exit ?_
    refine aq_then_exit ?_
    refine aq_then_exit ?_
    refine aq_in_exit ?_
    refine aq_then ?_
    refine aw_seq ?_
    refine aw_region ?_
    refine ao_read trivial (r_move rfl) rfl ?_
    refine ao_read trivial (r_move rfl) rfl ?_
    obtain ⟨r14, r14h, h⟩ := is_bind h
    refine ao_scall trivial (scall (c_impl_power (is_mk r14h)) rfl Try.func99 rfl rfl rfl rfl (fun σ => ⟨ad_ren rfl, trivial⟩)) rfl ?_
    obtain ⟨r15, r15h, h⟩ := is_bind h
    refine ao_scall trivial (scall (c_impl_fraction (is_mk r15h)) rfl Try.func98 rfl rfl rfl rfl (fun σ => ⟨ad_ren rfl, ad_ren rfl, trivial⟩)) rfl ?_
    refine ao_effS trivial (e_store rfl rfl rfl rfl Try.sizeOf35 rfl) ?_
    refine ao_nil ?_
    refine aq_then ?_
    refine aw_ret ?_
    refine aq_ret ?_
    obtain rfl := is_some h
    exact aq_finx (l := [.cell 6 35]) (xs := [.v (.arr 2 (.int .i64)) r15]) idn [.v (.arr 2 (.int .i64)) r15] [] rfl (by exact ⟨⟨⟨_, _, rfl⟩, r_load_arr rfl Try.isAgg35 Try.sizeOf35 rfl rfl rfl⟩, trivial⟩) (by exact ⟨ad_ren rfl, trivial⟩) (by exact trivial) rfl (nk rfl) rfl rfl ⟨rfl, rfl⟩
theorem c_impl_ChanceMissing {fu : Nat} {x0 : (List Int)} {x1 : Int} {x2 : Int} {r : (List Int) × Bool} (h : Is (p_impl_ChanceMissing fu x0 x1 x2) (some r)) :
    Scalar Try.prog 79 [.v (.arr 6 (.int .i64)) x0, .int .i64 x1, .int .i64 x2] (.tup [.v (.arr 2 (.int .i64)) r.1, .bool r.2]) := by
  unfold p_impl_ChanceMissing at h
  refine ac_enter ⟨26, 0⟩ Try.func79 rfl rfl rfl rfl rfl (fun Γ => ?_)
  refine aw_seq ?_
  refine aw_region ?_
  refine ao_eff trivial (e_box 0 rfl rfl rfl rfl rfl rfl) rfl ?_
  refine ao_eff trivial (e_box 1 rfl rfl rfl rfl rfl rfl) rfl ?_
  refine ao_eff trivial (e_alloc 2 (y := .v (.arr 2 (.int .i64)) ((List.replicate 2 0) : (List Int))) Try.zeroValue35 (fun ρ h M => ra_zero_arr (t := (.int .i64)) rfl) rfl rfl rfl rfl rfl) rfl ?_
  refine ao_read trivial (r_assign rfl) rfl ?_
  refine ao_nil ?_
  refine aq_then ?_
  refine aw_seq ?_
  refine aw_seq ?_
  refine aw_region ?_
  refine ao_read trivial (r_load_arr rfl Try.isAgg60 Try.sizeOf60 rfl rfl rfl) rfl ?_
  refine ao_scall trivial (scall (c_impl_IsDie (is_mk (rfl : p_impl_IsDie x0 = _))) rfl Try.func50 rfl rfl rfl rfl (fun σ => ⟨ad_ren rfl, trivial⟩)) rfl ?_
  refine ao_read trivial (r_not rfl) rfl ?_
  refine ao_read trivial (r_move rfl) rfl ?_
  refine ao_readG (x := .int .i64 x1) rfl (GV.F rfl) (fun hg1 => r_move rfl) rfl ?_
  refine ao_scallG (r := .bool (p_impl_isTested x1)) rfl (GV.F rfl) (fun hg2 => SCall.strip 12 rfl (hg2) (scall (c_impl_isTested (is_mk (rfl : p_impl_isTested x1 = _))) rfl Try.func137 rfl rfl rfl rfl (fun σ => ⟨ad_ren rfl, trivial⟩))) rfl ?_
  refine ao_readG (x := .bool (!(p_impl_isTested x1))) rfl (GV.F rfl) (fun hg3 => Reads.strip 13 rfl (hg3) (r_not rfl)) rfl ?_
  refine ao_read trivial (r_orB rfl rfl) rfl ?_
  refine ao_read trivial (r_move rfl) rfl ?_
  refine ao_readG (x := .int .i64 x2) rfl (GV.F rfl) (fun hg4 => by
        obtain ⟨q5, q6⟩ := or_f (not_t hg4)
        exact r_load_cell Try.isAgg3 rfl rfl rfl) rfl ?_
  refine ao_scallG (r := .bool (p_impl_within x2 0 6)) rfl (GV.F rfl) (fun hg7 => by
        obtain ⟨q8, q9⟩ := or_f (not_t hg7)
        exact SCall.strip 17 rfl (hg7) (scall (c_impl_within (is_mk (rfl : p_impl_within x2 0 6 = _))) rfl Try.func96 rfl rfl rfl rfl (fun σ => ⟨ad_ren rfl, ad_ren rfl, ad_ren rfl, trivial⟩))) rfl ?_
  refine ao_readG (x := .bool (!(p_impl_within x2 0 6))) rfl (GV.F rfl) (fun hg10 => by
        obtain ⟨q11, q12⟩ := or_f (not_t hg10)
        exact Reads.strip 18 rfl (hg10) (r_not rfl)) rfl ?_
  refine ao_read trivial (r_orB rfl rfl) rfl ?_
  refine ao_nil ?_
  refine aq_then ?_
  refine aw_cond rfl (fun hb13 => ?_) (fun hb13 => ?_)
  · replace h := is_if hb13 h
    refine aw_seq ?_
    refine aw_region ?_
    refine ao_read trivial (r_build_zero (t := (.int .i64)) Try.underlying35 Try.zeroValue35 Try.sizeOf3 rfl) rfl ?_
    refine ao_effS trivial (e_store rfl rfl rfl rfl Try.sizeOf35 rfl) ?_
    refine ao_read trivial (r_assign rfl) rfl ?_
    refine ao_nil ?_
    refine aq_then ?_
    refine aw_ret ?_
    refine aq_then_ret ?_
    refine aq_ret ?_
    obtain rfl := is_some h
    exact aq_finx (l := [.cell 6 35, .tmp 7]) (xs := [.v (.arr 2 (.int .i64)) ((List.replicate 2 0) : (List Int)), .bool false]) idn [.v (.arr 2 (.int .i64)) ((List.replicate 2 0) : (List Int)), .bool false] [] rfl (by exact ⟨⟨⟨_, _, rfl⟩, r_load_arr rfl Try.isAgg35 Try.sizeOf35 rfl rfl rfl⟩, rfl, trivial⟩) (by exact ⟨ad_ren rfl, ad_ren rfl, trivial⟩) (by exact trivial) rfl (nk rfl) rfl rfl ⟨rfl, rfl⟩
  · obtain ⟨q14, q15⟩ := or_f hb13
    obtain ⟨q16, q17⟩ := or_f q14
    replace h := is_else (ne_t hb13) h
    refine aw_skip ?_
    refine aq_then ?_
    refine aw_seq ?_
    refine aw_region ?_
    refine ao_read trivial (r_load_arr rfl Try.isAgg60 Try.sizeOf60 rfl rfl rfl) rfl ?_
    refine ao_read trivial (r_move rfl) rfl ?_
    refine ao_read trivial (r_makeFunc (cs := [.tmp 5]) rfl) rfl ?_
    obtain ⟨r18, r18h, h⟩ := is_bind h
    refine ao_scall trivial (scall (c_impl_chanceOfv2 (is_mk r18h)) rfl Try.func140 rfl rfl rfl rfl (fun σ => ⟨ad_ren rfl, ad_ren rfl, ad_fn ⟨ad_ref0 rfl rfl rfl, trivial⟩, trivial⟩)) rfl ?_
    refine ao_effS trivial (e_store rfl rfl rfl rfl Try.sizeOf35 rfl) ?_
    refine ao_read trivial (r_assign rfl) rfl ?_
    refine ao_nil ?_
    refine aq_then ?_
    refine aw_ret ?_
    refine aq_ret ?_
    obtain rfl := is_some h
    exact aq_finx (l := [.cell 6 35, .tmp 7]) (xs := [.v (.arr 2 (.int .i64)) r18, .bool true]) idn [.v (.arr 2 (.int .i64)) r18, .bool true] [] rfl (by exact ⟨⟨⟨_, _, rfl⟩, r_load_arr rfl Try.isAgg35 Try.sizeOf35 rfl rfl rfl⟩, rfl, trivial⟩) (by exact ⟨ad_ren rfl, ad_ren rfl, trivial⟩) (by exact trivial) rfl (nk rfl) rfl rfl ⟨rfl, rfl⟩
theorem c_spec_l11Tested {x0 : (List Int)} {x1 : Int} {r : Bool} (h : Is (p_spec_l11Tested x0 x1) (some r)) :
    Scalar Try.prog 158 [.v (.arr 6 (.int .i64)) x0, .int .i64 x1] (.bool r) := by
  unfold p_spec_l11Tested at h
  refine ac_enter ⟨11, 0⟩ Try.func158 rfl rfl rfl rfl rfl (fun Γ => ?_)
  refine aw_seq ?_
  refine aw_region ?_
  refine ao_eff trivial (e_box 0 rfl rfl rfl rfl rfl rfl) rfl ?_
  refine ao_read trivial (r_assign rfl) rfl ?_
  refine ao_nil ?_
  refine aq_then ?_
  refine aw_seq ?_
  refine aw_region ?_
  refine ao_read trivial (r_load_arr rfl Try.isAgg60 Try.sizeOf60 rfl rfl rfl) rfl ?_
  obtain ⟨r1, r1h, h⟩ := is_bind h
  refine ao_scall trivial (scall (c_spec_l2Die (is_mk r1h)) rfl Try.func124 rfl rfl rfl rfl (fun σ => ⟨ad_ren rfl, trivial⟩)) rfl ?_
  refine ao_read trivial (r_move rfl) rfl ?_
  refine ao_readG (x := .int .i64 x1) rfl (GV.T rfl) (fun hg2 => r_move rfl) rfl ?_
  refine ao_scallG (r := .bool (p_spec_l1In x1 0 8)) rfl (GV.T rfl) (fun hg3 => SCall.strip 8 rfl (hg3) (scall (c_spec_l1In (is_mk (rfl : p_spec_l1In x1 0 8 = _))) rfl Try.func107 rfl rfl rfl rfl (fun σ => ⟨ad_ren rfl, ad_ren rfl, ad_ren rfl, trivial⟩))) rfl ?_
  refine ao_read trivial (r_andB rfl rfl) rfl ?_
  refine ao_read trivial (r_assign rfl) rfl ?_
  refine ao_nil ?_
  refine aq_then ?_
  refine aw_ret ?_
  refine aq_ret ?_
  obtain rfl := is_some h
  exact aq_finx (l := [.tmp 4]) (xs := [.bool (r1 && (p_spec_l1In x1 0 8))]) idn [.bool (r1 && (p_spec_l1In x1 0 8))] [] rfl (by exact ⟨rfl, trivial⟩) (by exact ⟨ad_ren rfl, trivial⟩) (by exact trivial) rfl (nk rfl) rfl rfl ⟨rfl, rfl⟩
theorem c_spec_ChanceMissing {fu : Nat} {x0 : (List Int)} {x1 : Int} {x2 : Int} {r : (List Int) × Bool} (h : Is (p_spec_ChanceMissing fu x0 x1 x2) (some r)) :
    Scalar Try.prog 80 [.v (.arr 6 (.int .i64)) x0, .int .i64 x1, .int .i64 x2] (.tup [.v (.arr 2 (.int .i64)) r.1, .bool r.2]) := by
  unfold p_spec_ChanceMissing at h
  refine ac_enter ⟨68, 0⟩ Try.func80 rfl rfl rfl rfl rfl (fun Γ => ?_)
  refine aw_seq ?_
  refine aw_region ?_
  refine ao_eff trivial (e_box 0 rfl rfl rfl rfl rfl rfl) rfl ?_
  refine ao_eff trivial (e_alloc 1 (y := .v (.arr 2 (.int .i64)) ((List.replicate 2 0) : (List Int))) Try.zeroValue35 (fun ρ h M => ra_zero_arr (t := (.int .i64)) rfl) rfl rfl rfl rfl rfl) rfl ?_
  refine ao_read trivial (r_assign rfl) rfl ?_
  refine ao_nil ?_
  refine aq_then ?_
  refine aw_seq ?_
  refine aw_seq ?_
  refine aw_region ?_
  refine ao_read trivial (r_load_arr rfl Try.isAgg60 Try.sizeOf60 rfl rfl rfl) rfl ?_
  refine ao_read trivial (r_move rfl) rfl ?_
  obtain ⟨r1, r1h, h⟩ := is_bind h
  refine ao_scall trivial (scall (c_spec_l11Tested (is_mk r1h)) rfl Try.func158 rfl rfl rfl rfl (fun σ => ⟨ad_ren rfl, ad_ren rfl, trivial⟩)) rfl ?_
  refine ao_read trivial (r_not rfl) rfl ?_
  refine ao_read trivial (r_move rfl) rfl ?_
  refine ao_readG (x := .int .i64 x2) rfl (GV.F rfl) (fun hg2 => r_move rfl) rfl ?_
  refine ao_scallG (r := .bool (p_spec_l1In x2 0 6)) rfl (GV.F rfl) (fun hg3 => SCall.strip 18 rfl (hg3) (scall (c_spec_l1In (is_mk (rfl : p_spec_l1In x2 0 6 = _))) rfl Try.func107 rfl rfl rfl rfl (fun σ => ⟨ad_ren rfl, ad_ren rfl, ad_ren rfl, trivial⟩))) rfl ?_
  refine ao_readG (x := .bool (!(p_spec_l1In x2 0 6))) rfl (GV.F rfl) (fun hg4 => Reads.strip 19 rfl (hg4) (r_not rfl)) rfl ?_
  refine ao_read trivial (r_orB rfl rfl) rfl ?_
  refine ao_nil ?_
  refine aq_then ?_
  refine aw_cond rfl (fun hb5 => ?_) (fun hb5 => ?_)
  · replace h := is_if hb5 h
    refine aw_seq ?_
    refine aw_region ?_
    refine ao_read trivial (r_build_zero (t := (.int .i64)) Try.underlying35 Try.zeroValue35 Try.sizeOf3 rfl) rfl ?_
    refine ao_effS trivial (e_store rfl rfl rfl rfl Try.sizeOf35 rfl) ?_
    refine ao_read trivial (r_assign rfl) rfl ?_
    refine ao_nil ?_
    refine aq_then ?_
    refine aw_ret ?_
    refine aq_then_ret ?_
    refine aq_ret ?_
    obtain rfl := is_some h
    exact aq_finx (l := [.cell 6 35, .tmp 7]) (xs := [.v (.arr 2 (.int .i64)) ((List.replicate 2 0) : (List Int)), .bool false]) idn [.v (.arr 2 (.int .i64)) ((List.replicate 2 0) : (List Int)), .bool false] [] rfl (by exact ⟨⟨⟨_, _, rfl⟩, r_load_arr rfl Try.isAgg35 Try.sizeOf35 rfl rfl rfl⟩, rfl, trivial⟩) (by exact ⟨ad_ren rfl, ad_ren rfl, trivial⟩) (by exact trivial) rfl (nk rfl) rfl rfl ⟨rfl, rfl⟩
  · obtain ⟨q6, q7⟩ := or_f hb5
    replace h := is_else (ne_t hb5) h
    refine aw_skip ?_
    refine aq_then ?_
    refine aw_seq ?_
    refine aw_region ?_
    refine ao_read trivial (r_load_arr rfl Try.isAgg60 Try.sizeOf60 rfl rfl rfl) rfl ?_
    obtain ⟨r8, r8h, h⟩ := is_bind h
    refine ao_call [] 2 trivial (c_spec_l8Numbers (is_mk r8h)) Try.func159 rfl rfl rfl rfl ⟨ad_ren rfl, trivial⟩ trivial rfl rfl rfl rfl rfl rfl rfl (fun r' H' hr => ?_)
    obtain ⟨rfl, rfl⟩ := hr
    refine ao_norm (y := .os 2) (H' := [(1, .var [.arr (.int .i64) 2 ((List.replicate 2 0) : (List Int))]), (0, .var [.arr (.int .i64) 6 x0]), (2, .row (.int .i64) r8)]) rfl rfl ?_
    refine row_len_o 2 (r8.length : Int) rfl rfl (fun hr9 => ?_)
    refine ao_read trivial (r_len_osm (r8.length : Int) Try.underlying24 rfl rfl rfl) rfl ?_
    refine ao_read trivial (r_move rfl) rfl ?_
    obtain ⟨r10, r10h, h⟩ := is_bind h
    refine ao_call [] 3 trivial (c_spec_l11Vectors (is_mk r10h)) Try.func145 rfl rfl rfl rfl ⟨ad_ren rfl, ad_ren rfl, trivial⟩ trivial rfl rfl rfl rfl rfl rfl rfl (fun r' H' hr => ?_)
    obtain ⟨rfl, rfl⟩ := hr
    refine ao_norm (y := .os 3) (H' := [(1, .var [.arr (.int .i64) 2 ((List.replicate 2 0) : (List Int))]), (0, .var [.arr (.int .i64) 6 x0]), (2, .row (.int .i64) r8), (3, .row (.slice (.int .i64)) r10)]) rfl rfl ?_
    refine row_len_o 3 (r10.length : Int) rfl rfl (fun hr11 => ?_)
    refine ao_read trivial (r_assign rfl) rfl ?_
    refine ao_read trivial (r_assign rfl) rfl ?_
    refine ao_nil ?_
    refine aq_then ?_
    refine aw_seq ?_
    refine aw_seq ?_
    refine aw_region ?_
    refine ao_read trivial (r_assign rfl) rfl ?_
    refine ao_nil ?_
    refine aq_then ?_
    refine aw_block ?_
    refine aw_loop (AL.sub (fr' := [(1, .int .i64 x1), (2, .int .i64 x2), (3, .ref 0 0), (6, .ref 1 0), (8, .int .i64 0), (9, .os 2), (10, .int .i64 0)]) (H' := [(0, .var [.arr (.int .i64) 6 x0]), (1, .var [.arr (.int .i64) 2 ((List.replicate 2 0) : (List Int))]), (2, .row (.slice (.int .i64)) r10)]) (sub_mk (rn [(2, 3)]) (by exact ⟨⟨_, rfl, ad_ren rfl⟩, ⟨_, rfl, ad_ren rfl⟩, ⟨_, rfl, ad_ren rfl⟩, ⟨_, rfl, ad_ren rfl⟩, ⟨_, rfl, ad_ren rfl⟩, ⟨_, rfl, ad_ren rfl⟩, ⟨_, rfl, ad_ren rfl⟩, trivial⟩) (by exact ⟨⟨_, rfl, ⟨rfl, trivial⟩⟩, ⟨_, rfl, ⟨rfl, trivial⟩⟩, ⟨_, rfl, rfl⟩, trivial⟩) (by rfl) (nk rfl)) (al_cnt (fun i13 (s12 : Int) => [(1, .int .i64 x1), (2, .int .i64 x2), (3, .ref 0 0), (6, .ref 1 0), (8, .int .i64 s12), (9, .os 2), (10, .int .i64 i13)]) (fun i13 (s12 : Int) => [(0, .var [.arr (.int .i64) 6 x0]), (1, .var [.arr (.int .i64) 2 ((List.replicate 2 0) : (List Int))]), (2, .row (.slice (.int .i64)) r10)]) (fun d i13 (s12 : Int) => d = Int.toNat ((r10.length : Int) - i13) ∧ 0 ≤ i13 ∧ i13 ≤ (r10.length : Int)) h ⟨rfl, (by (try simp only [List.length_set, List.length_append, List.length_cons, List.length_nil, List.length_replicate, List.length_take, List.length_drop]) <;> omega), (by (try simp only [List.length_set, List.length_append, List.length_cons, List.length_nil, List.length_replicate, List.length_take, List.length_drop]) <;> omega)⟩ (fun d14 i13 s12 hI h ih14 => ?_)))
    obtain ⟨hd, _, _⟩ := hI
    refine al_round ?_
    refine aw_seq ?_
    refine aw_seq ?_
    refine aw_region ?_
    refine ao_read trivial (r_move rfl) rfl ?_
    refine ao_read trivial (r_move rfl) rfl ?_
    refine ao_read trivial (r_len_osm (r10.length : Int) Try.underlying133 rfl rfl rfl) rfl ?_
    refine ao_read trivial (r_lss rfl rfl) rfl ?_
    refine ao_nil ?_
    refine aq_then ?_
    refine aw_cond rfl (fun hb16 => ?_) (fun hb16 => ?_)
    · have q17 := d_t hb16
      obtain ⟨d14, rfl⟩ : ∃ e, d14 = e + 1 := ⟨d14 - 1, by omega⟩
      replace h := is_cntS h
      refine aw_skip ?_
      refine aq_then ?_
      refine aw_seq ?_
      refine aw_block ?_
      refine aw_seq ?_
      refine aw_region ?_
      refine ao_read trivial (r_assign rfl) rfl ?_
      refine ao_nil ?_
      refine aq_then ?_
      refine aw_seq ?_
      refine aw_seq ?_
      refine aw_region ?_
      refine ao_read trivial (r_assign rfl) rfl ?_
      refine ao_nil ?_
      refine aq_then ?_
      refine aw_block ?_
      refine aw_loop (AL.sub (sub_mk idn (by exact ⟨⟨_, rfl, ad_ren rfl⟩, ⟨_, rfl, ad_ren rfl⟩, ⟨_, rfl, ad_ren rfl⟩, ⟨_, rfl, ad_ren rfl⟩, ⟨_, rfl, ad_ren rfl⟩, ⟨_, rfl, ad_ren rfl⟩, ⟨_, rfl, ad_ren rfl⟩, ⟨_, rfl, ad_ren rfl⟩, ⟨_, rfl, ad_ren rfl⟩, trivial⟩) (by exact ⟨⟨_, rfl, ⟨rfl, trivial⟩⟩, ⟨_, rfl, ⟨rfl, trivial⟩⟩, ⟨_, rfl, rfl⟩, trivial⟩) (by rfl) (nk rfl)) (al_whl (fun (s19 : Int × Int) => [(1, .int .i64 x1), (2, .int .i64 x2), (3, .ref 0 0), (6, .ref 1 0), (8, .int .i64 s12), (9, .os 2), (10, .int .i64 i13), (11, .int .i64 s19.1), (12, .int .i64 s19.2)]) (fun (s19 : Int × Int) => [(0, .var [.arr (.int .i64) 6 x0]), (1, .var [.arr (.int .i64) 2 ((List.replicate 2 0) : (List Int))]), (2, .row (.slice (.int .i64)) r10)]) (fun (s19 : Int × Int) => True) h trivial (fun d21 s19 hI h ih21 => ?_)))
      replace h := is_whlS h
      refine al_round ?_
      refine aw_seq ?_
      refine aw_seq ?_
      refine aw_region ?_
      refine ao_read trivial (r_move rfl) rfl ?_
      refine ao_read trivial (r_move rfl) rfl ?_
      refine ao_read trivial (r_move rfl) rfl ?_
      refine ao_read trivial (r_idxAddr_os Try.underlying133 Try.sizeOf24 rfl rfl rfl (show 0 ≤ i13 from by omega) (show i13 < (r10.length : Int) from by omega)) rfl ?_
      refine ao_read trivial (r_load_elemv (t := (.slice (.int .i64))) Try.isAgg24 Try.sizeOf24 rfl rfl (show i13.toNat < r10.length from by omega)) rfl ?_
      refine ao_read trivial (r_len_vm ((r10.getD i13.toNat []).length : Int) Try.underlying24 rfl rfl) rfl ?_
      refine ao_read trivial (r_lss rfl rfl) rfl ?_
      refine ao_nil ?_
      refine aq_then ?_
      refine aw_cond rfl (fun hb23 => ?_) (fun hb23 => ?_)
      · have q24 : s19.2 < ((r10.getD i13.toNat []).length : Int) := d_t hb23
        replace h := is_if (d_t hb23) h
        refine aw_skip ?_
        refine aq_then ?_
        refine aw_seq ?_
        refine aw_block ?_
        refine aw_seq ?_
        refine aw_region ?_
        refine ao_read trivial (r_move rfl) rfl ?_
        refine ao_read trivial (r_move rfl) rfl ?_
        refine ao_read trivial (r_idxAddr_os Try.underlying133 Try.sizeOf24 rfl rfl rfl (show 0 ≤ i13 from by omega) (show i13 < (r10.length : Int) from by omega)) rfl ?_
        refine ao_read trivial (r_load_elemv (t := (.slice (.int .i64))) Try.isAgg24 Try.sizeOf24 rfl rfl (show i13.toNat < r10.length from by omega)) rfl ?_
        refine ao_read trivial (r_move rfl) rfl ?_
        obtain ⟨g26, h⟩ := is_guard h
        refine ao_read trivial (r_idxAddr_int Try.underlying24 Try.sizeOf3 rfl rfl (show 0 ≤ s19.2 from by omega) (show s19.2 < ((r10.getD i13.toNat []).length : Int) from by (try simp only [List.length_cons, List.length_nil]) <;> omega)) rfl ?_
        refine ao_read trivial (r_load_c_int Try.isAgg3 Try.sizeOf3 rfl) rfl ?_
        refine ao_read trivial (r_eql rfl rfl) rfl ?_
        refine ao_nil ?_
        refine aq_then ?_
        refine aw_cond rfl (fun hb27 => ?_) (fun hb27 => ?_)
        · have q28 : ((r10.getD i13.toNat []).getD s19.2.toNat 0) = 0 := d_t hb27
          replace h := is_if (d_t hb27) h
          refine aw_region ?_
          refine ao_read trivial (r_move rfl) rfl ?_
          refine ao_read trivial (r_add rfl rfl) rfl ?_
          refine ao_read trivial (r_assign rfl) rfl ?_
          refine ao_nil ?_
          refine aq_in ?_
          refine aq_then ?_
          refine aw_region ?_
          refine ao_read trivial (r_move rfl) rfl ?_
          refine ao_read trivial (r_add rfl rfl) rfl ?_
          refine ao_read trivial (r_assign rfl) rfl ?_
          refine ao_nil ?_
          exact aq_again (AL.sub (sub_mk idn (by exact ⟨⟨_, rfl, ad_ren rfl⟩, ⟨_, rfl, ad_ren rfl⟩, ⟨_, rfl, ad_ren rfl⟩, ⟨_, rfl, ad_ren rfl⟩, ⟨_, rfl, ad_ren rfl⟩, ⟨_, rfl, ad_ren rfl⟩, ⟨_, rfl, ad_ren rfl⟩, ⟨_, rfl, ad_ren rfl⟩, ⟨_, rfl, ad_ren rfl⟩, trivial⟩) (by exact ⟨⟨_, rfl, ⟨rfl, trivial⟩⟩, ⟨_, rfl, ⟨rfl, trivial⟩⟩, ⟨_, rfl, rfl⟩, trivial⟩) (by rfl) (nk rfl)) (ih21 ((IntKind.wrap .i64 (s19.1 + 1)), (IntKind.wrap .i64 (s19.2 + 1))) trivial h))
        · have q29 : ¬ (((r10.getD i13.toNat []).getD s19.2.toNat 0) = 0) := d_f hb27
          replace h := is_else (d_f hb27) h
          refine aw_skip ?_
          refine aq_in ?_
          refine aq_then ?_
          refine aw_region ?_
          refine ao_read trivial (r_move rfl) rfl ?_
          refine ao_read trivial (r_add rfl rfl) rfl ?_
          refine ao_read trivial (r_assign rfl) rfl ?_
          refine ao_nil ?_
          exact aq_again (AL.sub (sub_mk idn (by exact ⟨⟨_, rfl, ad_ren rfl⟩, ⟨_, rfl, ad_ren rfl⟩, ⟨_, rfl, ad_ren rfl⟩, ⟨_, rfl, ad_ren rfl⟩, ⟨_, rfl, ad_ren rfl⟩, ⟨_, rfl, ad_ren rfl⟩, ⟨_, rfl, ad_ren rfl⟩, ⟨_, rfl, ad_ren rfl⟩, ⟨_, rfl, ad_ren rfl⟩, trivial⟩) (by exact ⟨⟨_, rfl, ⟨rfl, trivial⟩⟩, ⟨_, rfl, ⟨rfl, trivial⟩⟩, ⟨_, rfl, rfl⟩, trivial⟩) (by rfl) (nk rfl)) (ih21 (s19.1, (IntKind.wrap .i64 (s19.2 + 1))) trivial h))
      · have q25 : ¬ (s19.2 < ((r10.getD i13.toNat []).length : Int)) := d_f hb23
        replace h := is_else (d_f hb23) h
        refine aw_exit ?_
        refine aq_then_exit ?_
        refine aq_then_exit ?_
        refine aq_in_exit ?_
        refine aq_then ?_
        refine aw_seq ?_
        refine aw_region ?_
        refine ao_read trivial (r_move rfl) rfl ?_
        refine ao_read trivial (r_move rfl) rfl ?_
        refine ao_read trivial (r_eql rfl rfl) rfl ?_
        refine ao_nil ?_
        refine aq_then ?_
        refine aw_cond rfl (fun hb30 => ?_) (fun hb30 => ?_)
        · have q31 := d_t hb30
          replace h := is_if (d_t hb30) h
          obtain ⟨r33, r33h, h⟩ := is_bind h
          refine aw_drawAll (by kernel_rfl) ?_
          refine an_read 0 (by kernel_rfl) (fun _ _ _ h => h) rfl (by kernel_rfl) trivial (r_move rfl) rfl ?_
          refine an_read 1 (by kernel_rfl) (fun _ _ _ h => h) rfl (by kernel_rfl) trivial (r_load_arr rfl Try.isAgg60 Try.sizeOf60 rfl rfl rfl) rfl ?_
          refine an_read 2 (by kernel_rfl) (fun _ _ _ h => h) rfl (by kernel_rfl) trivial (r_move rfl) rfl ?_
          refine an_read 3 (by kernel_rfl) (fun _ _ _ h => h) rfl (by kernel_rfl) trivial (r_move rfl) rfl ?_
          refine an_read 4 (by kernel_rfl) (fun _ _ _ h => h) rfl (by kernel_rfl) trivial (r_idxAddr_os Try.underlying133 Try.sizeOf24 rfl rfl rfl (show 0 ≤ i13 from by omega) (show i13 < (r10.length : Int) from by omega)) rfl ?_
          refine an_read 5 (by kernel_rfl) (fun _ _ _ h => h) rfl (by kernel_rfl) trivial (r_load_elemv (t := (.slice (.int .i64))) Try.isAgg24 Try.sizeOf24 rfl rfl (show i13.toNat < r10.length from by omega)) rfl ?_
          refine an_scall 6 (by kernel_rfl) (fun _ _ _ h => h) rfl (by kernel_rfl) trivial (scall (c_spec_l11Chance (is_mk r33h)) rfl Try.func146 rfl rfl rfl rfl (fun σ => ⟨ad_ren rfl, ad_ren rfl, trivial⟩)) rfl ?_
          refine an_read 7 (by kernel_rfl) (fun _ _ _ h => h) rfl (by kernel_rfl) trivial (r_add rfl rfl) rfl ?_
          refine an_read 8 (by kernel_rfl) (fun _ _ _ h => h) rfl (by kernel_rfl) trivial (r_assign rfl) rfl ?_
          refine an_done rfl ?_
          refine aq_in ?_
          refine aq_then ?_
          refine aw_region ?_
          refine ao_read trivial (r_move rfl) rfl ?_
          refine ao_read trivial (r_addI rfl rfl (wrap_id (by omega) (by omega))) rfl ?_
          refine ao_read trivial (r_assign rfl) rfl ?_
          refine ao_nil ?_
          exact aq_again (AL.sub (sub_mk idn (by exact ⟨⟨_, rfl, ad_ren rfl⟩, ⟨_, rfl, ad_ren rfl⟩, ⟨_, rfl, ad_ren rfl⟩, ⟨_, rfl, ad_ren rfl⟩, ⟨_, rfl, ad_ren rfl⟩, ⟨_, rfl, ad_ren rfl⟩, ⟨_, rfl, ad_ren rfl⟩, trivial⟩) (by exact ⟨⟨_, rfl, ⟨rfl, trivial⟩⟩, ⟨_, rfl, ⟨rfl, trivial⟩⟩, ⟨_, rfl, rfl⟩, trivial⟩) (by rfl) (nk rfl)) (ih14 d14 (i13 + 1) (IntKind.wrap .i64 (s12 + r33)) (by omega) ⟨by omega, (by (try simp only [List.length_set, List.length_append, List.length_cons, List.length_nil, List.length_replicate, List.length_take, List.length_drop]) <;> omega), (by (try simp only [List.length_set, List.length_append, List.length_cons, List.length_nil, List.length_replicate, List.length_take, List.length_drop]) <;> omega)⟩ h))
        · have q32 := d_f hb30
          replace h := is_else (d_f hb30) h
          refine aw_skip ?_
          refine aq_in ?_
          refine aq_then ?_
          refine aw_region ?_
          refine ao_read trivial (r_move rfl) rfl ?_
          refine ao_read trivial (r_addI rfl rfl (wrap_id (by omega) (by omega))) rfl ?_
          refine ao_read trivial (r_assign rfl) rfl ?_
          refine ao_nil ?_
          exact aq_again (AL.sub (sub_mk idn (by exact ⟨⟨_, rfl, ad_ren rfl⟩, ⟨_, rfl, ad_ren rfl⟩, ⟨_, rfl, ad_ren rfl⟩, ⟨_, rfl, ad_ren rfl⟩, ⟨_, rfl, ad_ren rfl⟩, ⟨_, rfl, ad_ren rfl⟩, ⟨_, rfl, ad_ren rfl⟩, trivial⟩) (by exact ⟨⟨_, rfl, ⟨rfl, trivial⟩⟩, ⟨_, rfl, ⟨rfl, trivial⟩⟩, ⟨_, rfl, rfl⟩, trivial⟩) (by rfl) (nk rfl)) (ih14 d14 (i13 + 1) s12 (by omega) ⟨by omega, (by (try simp only [List.length_set, List.length_append, List.length_cons, List.length_nil, List.length_replicate, List.length_take, List.length_drop]) <;> omega), (by (try simp only [List.length_set, List.length_append, List.length_cons, List.length_nil, List.length_replicate, List.length_take, List.length_drop]) <;> omega)⟩ h))
    · have q18 := d_f hb16
      obtain rfl : d14 = 0 := by omega
      replace h := is_cnt0 h
      refine aw_exit ?_
      refine aq_then_exit ?_
      refine aq_then_exit ?_
      refine aq_in_exit ?_
      refine aq_then ?_
      refine aw_seq ?_
      refine aw_region ?_
      refine ao_read trivial (r_move rfl) rfl ?_
      refine ao_read trivial (r_move rfl) rfl ?_
      obtain ⟨r34, r34h, h⟩ := is_bind h
      refine ao_scall trivial (scall (c_spec_l2All (is_mk r34h)) rfl Try.func101 rfl rfl rfl rfl (fun σ => ⟨ad_ren rfl, trivial⟩)) rfl ?_
      obtain ⟨r35, r35h, h⟩ := is_bind h
      refine ao_scall trivial (scall (c_spec_l2Cut (is_mk r35h)) rfl Try.func100 rfl rfl rfl rfl (fun σ => ⟨ad_ren rfl, ad_ren rfl, trivial⟩)) rfl ?_
      refine ao_effS trivial (e_store rfl rfl rfl rfl Try.sizeOf35 rfl) ?_
      refine ao_read trivial (r_assign rfl) rfl ?_
      refine ao_nil ?_
      refine aq_then ?_
      refine aw_ret ?_
      refine aq_ret ?_
      obtain rfl := is_some h
      exact aq_finx (l := [.cell 6 35, .tmp 7]) (xs := [.v (.arr 2 (.int .i64)) r35, .bool true]) idn [.v (.arr 2 (.int .i64)) r35, .bool true] [] rfl (by exact ⟨⟨⟨_, _, rfl⟩, r_load_arr rfl Try.isAgg35 Try.sizeOf35 rfl rfl rfl⟩, rfl, trivial⟩) (by exact ⟨ad_ren rfl, ad_ren rfl, trivial⟩) (by exact trivial) rfl (nk rfl) rfl rfl ⟨rfl, rfl⟩
theorem c_laws_vPairs {x0 : (List (List Int))} {x1 : (List (List Int))} {r : Bool} (h : Is (p_laws_vPairs x0 x1) r) :
    Scalar Try.prog 81 [.v (.slice (.arr 2 (.int .i64))) x0, .v (.slice (.arr 2 (.int .i64))) x1] (.bool r) := by
  unfold p_laws_vPairs at h
  refine ac_enter ⟨26, 0⟩ Try.func81 rfl rfl rfl rfl rfl (fun Γ => ?_)
  refine sl_len_m 0 (x0.length : Int) rfl rfl (fun hl0 => ?_)
  refine sl_len_m 1 (x1.length : Int) rfl rfl (fun hl1 => ?_)
  refine aw_seq ?_
  refine aw_region ?_
  refine ao_read trivial (r_assign rfl) rfl ?_
  refine ao_nil ?_
  refine aq_then ?_
  refine aw_seq ?_
  refine aw_seq ?_
  refine aw_region ?_
  refine ao_read trivial (r_move rfl) rfl ?_
  refine ao_read trivial (r_len_vm (x0.length : Int) Try.underlying83 rfl rfl) rfl ?_
  refine ao_read trivial (r_move rfl) rfl ?_
  refine ao_read trivial (r_len_vm (x1.length : Int) Try.underlying83 rfl rfl) rfl ?_
  refine ao_read trivial (r_neq rfl rfl) rfl ?_
  refine ao_nil ?_
  refine aq_then ?_
  refine aw_cond rfl (fun hb1 => ?_) (fun hb1 => ?_)
  · have q2 := d_f (not_t hb1)
    replace h := is_else (d_f (not_t hb1)) h
    refine aw_seq ?_
    refine aw_region ?_
    refine ao_read trivial (r_assign rfl) rfl ?_
    refine ao_nil ?_
    refine aq_then ?_
    refine aw_ret ?_
    refine aq_then_ret ?_
    refine aq_ret ?_
    obtain rfl := is_eq h
    exact aq_finx (l := [.tmp 4]) (xs := [.bool false]) idn [.bool false] [] rfl (by exact ⟨rfl, trivial⟩) (by exact ⟨ad_ren rfl, trivial⟩) (by exact trivial) rfl (nk rfl) rfl rfl ⟨rfl, rfl⟩
  · have q3 := d_t (not_f hb1)
    replace h := is_if (d_t (not_f hb1)) h
    refine aw_skip ?_
    refine aq_then ?_
    refine aw_seq ?_
    refine aw_seq ?_
    refine aw_region ?_
    refine ao_read trivial (r_assign rfl) rfl ?_
    refine ao_nil ?_
    refine aq_then ?_
    refine aw_block ?_
    refine aw_loop (AL.sub (fr' := [(0, .v (.slice (.arr 2 (.int .i64))) x0), (1, .v (.slice (.arr 2 (.int .i64))) x1), (5, .int .i64 0)]) (H' := []) (sub_mk idn (by exact ⟨⟨_, rfl, ad_ren rfl⟩, ⟨_, rfl, ad_ren rfl⟩, ⟨_, rfl, ad_ren rfl⟩, trivial⟩) (by exact trivial) (by rfl) (nk rfl)) (al_cnt (fun i5 (s4 : Unit) => [(0, .v (.slice (.arr 2 (.int .i64))) x0), (1, .v (.slice (.arr 2 (.int .i64))) x1), (5, .int .i64 i5)]) (fun i5 (s4 : Unit) => []) (fun d i5 (s4 : Unit) => d = Int.toNat ((x0.length : Int) - i5) ∧ 0 ≤ i5 ∧ i5 ≤ (x0.length : Int)) h ⟨rfl, (by (try simp only [List.length_set, List.length_append, List.length_cons, List.length_nil, List.length_replicate, List.length_take, List.length_drop]) <;> omega), (by (try simp only [List.length_set, List.length_append, List.length_cons, List.length_nil, List.length_replicate, List.length_take, List.length_drop]) <;> omega)⟩ (fun d6 i5 s4 hI h ih6 => ?_)))
    obtain ⟨hd, _, _⟩ := hI
    refine al_round ?_
    refine aw_seq ?_
    refine aw_seq ?_
    refine aw_region ?_
    refine ao_read trivial (r_move rfl) rfl ?_
    refine ao_read trivial (r_move rfl) rfl ?_
    refine ao_read trivial (r_len_vm (x0.length : Int) Try.underlying83 rfl rfl) rfl ?_
    refine ao_read trivial (r_lss rfl rfl) rfl ?_
    refine ao_nil ?_
    refine aq_then ?_
    refine aw_cond rfl (fun hb8 => ?_) (fun hb8 => ?_)
    · have q9 := d_t hb8
      obtain ⟨d6, rfl⟩ : ∃ e, d6 = e + 1 := ⟨d6 - 1, by omega⟩
      replace h := is_cntS h
      refine aw_skip ?_
      refine aq_then ?_
      refine aw_seq ?_
      refine aw_block ?_
      refine aw_seq ?_
      refine aw_drawAll (by kernel_rfl) ?_
      refine an_read 0 (by kernel_rfl) (fun _ _ _ h => h) rfl (by kernel_rfl) trivial (r_move rfl) rfl ?_
      refine an_read 1 (by kernel_rfl) (fun _ _ _ h => h) rfl (by kernel_rfl) trivial (r_move rfl) rfl ?_
      refine an_read 2 (by kernel_rfl) (fun _ _ _ h => h) rfl (by kernel_rfl) trivial (r_idxAddr (t := (.arr 2 (.int .i64))) Try.underlying83 Try.sizeOf35 rfl rfl (show 0 ≤ i5 from by omega) (show i5 < (x0.length : Int) from by omega)) rfl ?_
      refine an_read 3 (by kernel_rfl) (fun _ _ _ h => h) rfl (by kernel_rfl) trivial (r_load_c (t := (.arr 2 (.int .i64))) Try.isAgg35 Try.sizeOf35 rfl) rfl ?_
      refine an_read 4 (by kernel_rfl) (fun _ _ _ h => h) rfl (by kernel_rfl) trivial (r_move rfl) rfl ?_
      refine an_read 5 (by kernel_rfl) (fun _ _ _ h => h) rfl (by kernel_rfl) trivial (r_move rfl) rfl ?_
      refine an_read 6 (by kernel_rfl) (fun _ _ _ h => h) rfl (by kernel_rfl) trivial (r_idxAddr (t := (.arr 2 (.int .i64))) Try.underlying83 Try.sizeOf35 rfl rfl (show 0 ≤ i5 from by omega) (show i5 < (x1.length : Int) from by omega)) rfl ?_
      refine an_read 7 (by kernel_rfl) (fun _ _ _ h => h) rfl (by kernel_rfl) trivial (r_load_c (t := (.arr 2 (.int .i64))) Try.isAgg35 Try.sizeOf35 rfl) rfl ?_
      refine an_read 8 (by kernel_rfl) (fun _ _ _ h => h) rfl (by kernel_rfl) trivial (r_eq_ints Try.underlying35 Try.underlying3 Try.isAgg3 (info_size Try.sizeOf3) (by kernel_rfl) rfl rfl rfl) rfl ?_
      refine an_done rfl ?_
      refine aq_then ?_
      refine aw_cond rfl (fun hb11 => ?_) (fun hb11 => ?_)
      · replace h := is_else (d_f (not_t hb11)) h
        refine aw_seq ?_
        refine aw_region ?_
        refine ao_read trivial (r_assign rfl) rfl ?_
        refine ao_nil ?_
        refine aq_then ?_
        refine aw_ret ?_
        refine aq_in_ret ?_
        refine aq_then_ret ?_
        refine aq_then_ret ?_
        refine aq_in_ret ?_
        refine aq_then_ret ?_
        refine aq_ret ?_
        obtain rfl := is_eq h
        exact aq_finx (l := [.tmp 4]) (xs := [.bool false]) idn [.bool false] [] rfl (by exact ⟨rfl, trivial⟩) (by exact ⟨ad_ren rfl, trivial⟩) (by exact trivial) rfl (nk rfl) rfl rfl ⟨rfl, rfl⟩
      · replace h := is_if (d_t (not_f hb11)) h
        refine aw_skip ?_
        refine aq_in ?_
        refine aq_then ?_
        refine aw_region ?_
        refine ao_read trivial (r_move rfl) rfl ?_
        refine ao_read trivial (r_addI rfl rfl (wrap_id (by omega) (by omega))) rfl ?_
        refine ao_read trivial (r_assign rfl) rfl ?_
        refine ao_nil ?_
        exact aq_again (AL.sub (sub_mk idn (by exact ⟨⟨_, rfl, ad_ren rfl⟩, ⟨_, rfl, ad_ren rfl⟩, ⟨_, rfl, ad_ren rfl⟩, trivial⟩) (by exact trivial) (by rfl) (nk rfl)) (ih6 d6 (i5 + 1) () (by omega) ⟨by omega, (by (try simp only [List.length_set, List.length_append, List.length_cons, List.length_nil, List.length_replicate, List.length_take, List.length_drop]) <;> omega), (by (try simp only [List.length_set, List.length_append, List.length_cons, List.length_nil, List.length_replicate, List.length_take, List.length_drop]) <;> omega)⟩ h))
    · have q10 := d_f hb8
      obtain rfl : d6 = 0 := by omega
      replace h := is_cnt0 h
      refine aw_exit ?_
      refine aq_then_exit ?_
      refine aq_then_exit ?_
      refine aq_in_exit ?_
      refine aq_then ?_
      refine aw_seq ?_
      refine aw_region ?_
      refine ao_read trivial (r_assign rfl) rfl ?_
      refine ao_nil ?_
      refine aq_then ?_
      refine aw_ret ?_
      refine aq_ret ?_
      obtain rfl := is_eq h
      exact aq_finx (l := [.tmp 4]) (xs := [.bool true]) idn [.bool true] [] rfl (by exact ⟨rfl, trivial⟩) (by exact ⟨ad_ren rfl, trivial⟩) (by exact trivial) rfl (nk rfl) rfl rfl ⟨rfl, rfl⟩
theorem c_laws_vPlus {fu : Nat} {x0 : (List Int)} {x1 : (List Int)} {r : (List Int)} (h : Is (p_laws_vPlus fu x0 x1) (some r)) :
    Scalar Try.prog 82 [.v (.arr 2 (.int .i64)) x0, .v (.arr 2 (.int .i64)) x1] (.v (.arr 2 (.int .i64)) r) := by
  unfold p_laws_vPlus at h
  refine ac_enter ⟨56, 0⟩ Try.func82 rfl rfl rfl rfl rfl (fun Γ => ?_)
  refine aw_seq ?_
  refine aw_region ?_
  refine ao_eff trivial (e_box 0 rfl rfl rfl rfl rfl rfl) rfl ?_
  refine ao_eff trivial (e_box 1 rfl rfl rfl rfl rfl rfl) rfl ?_
  refine ao_eff trivial (e_alloc 2 (y := .v (.arr 2 (.int .i64)) ((List.replicate 2 0) : (List Int))) Try.zeroValue35 (fun ρ h M => ra_zero_arr (t := (.int .i64)) rfl) rfl rfl rfl rfl rfl) rfl ?_
  refine ao_nil ?_
  refine aq_then ?_
  refine aw_seq ?_
  refine aw_drawAll (by kernel_rfl) ?_
  refine an_read 0 (by kernel_rfl) (fun _ _ _ h => h) rfl (by kernel_rfl) trivial (r_idxAddr_arr (i := 1) Try.underlying35 Try.sizeOf3 rfl rfl (show 0 ≤ 1 from by omega) (show 1 < (2 : Int) from by omega)) rfl ?_
  refine an_read 1 (by kernel_rfl) (fun _ _ _ h => h) rfl (by kernel_rfl) trivial (r_load_elema_int Try.isAgg3 Try.sizeOf3 rfl rfl rfl (show 1 < 2 from by omega)) rfl ?_
  refine an_read 2 (by kernel_rfl) (fun _ _ _ h => h) rfl (by kernel_rfl) trivial (r_idxAddr_arr (i := 1) Try.underlying35 Try.sizeOf3 rfl rfl (show 0 ≤ 1 from by omega) (show 1 < (2 : Int) from by omega)) rfl ?_
  refine an_read 3 (by kernel_rfl) (fun _ _ _ h => h) rfl (by kernel_rfl) trivial (r_load_elema_int Try.isAgg3 Try.sizeOf3 rfl rfl rfl (show 1 < 2 from by omega)) rfl ?_
  refine an_read 4 (by kernel_rfl) (fun _ _ _ h => h) rfl (by kernel_rfl) trivial (r_assign rfl) rfl ?_
  refine an_read 5 (by kernel_rfl) (fun _ _ _ h => h) rfl (by kernel_rfl) trivial (r_assign rfl) rfl ?_
  refine an_done rfl ?_
  refine aq_then ?_
  refine aw_seq ?_
  refine aw_block ?_
  refine aw_loop (AL.sub (sub_mk idn (by exact ⟨⟨_, rfl, ad_ren rfl⟩, ⟨_, rfl, ad_ren rfl⟩, ⟨_, rfl, ad_ren rfl⟩, ⟨_, rfl, ad_ren rfl⟩, ⟨_, rfl, ad_ren rfl⟩, trivial⟩) (by exact ⟨⟨_, rfl, ⟨rfl, trivial⟩⟩, ⟨_, rfl, ⟨rfl, trivial⟩⟩, ⟨_, rfl, ⟨rfl, trivial⟩⟩, trivial⟩) (by rfl) (nk rfl)) (al_whl (fun (s1 : Int × Int) => [(2, .ref 0 0), (3, .ref 1 0), (4, .ref 2 0), (5, .int .i64 s1.1), (6, .int .i64 s1.2)]) (fun (s1 : Int × Int) => [(0, .var [.arr (.int .i64) 2 x0]), (1, .var [.arr (.int .i64) 2 x1]), (2, .var [.arr (.int .i64) 2 ((List.replicate 2 0) : (List Int))])]) (fun (s1 : Int × Int) => True) h trivial (fun d3 s1 hI h ih3 => ?_)))
  replace h := is_whlS h
  refine al_round ?_
  refine aw_seq ?_
  refine aw_seq ?_
  refine aw_region ?_
  refine ao_read trivial (r_move rfl) rfl ?_
  refine ao_read trivial (r_gtr rfl rfl) rfl ?_
  refine ao_nil ?_
  refine aq_then ?_
  refine aw_cond rfl (fun hb5 => ?_) (fun hb5 => ?_)
  · have q6 := d_t hb5
    replace h := is_if (d_t hb5) h
    refine aw_skip ?_
    refine aq_then ?_
    refine aw_block ?_
    refine aw_drawAll (by kernel_rfl) ?_
    refine an_read 0 (by kernel_rfl) (fun _ _ _ h => h) rfl (by kernel_rfl) trivial (r_move rfl) rfl ?_
    refine an_read 1 (by kernel_rfl) (fun _ _ _ h => h) rfl (by kernel_rfl) trivial (r_move rfl) rfl ?_
    refine an_read 2 (by kernel_rfl) (fun _ _ _ h => h) rfl (by kernel_rfl) trivial (r_move rfl) rfl ?_
    refine an_read 3 (by kernel_rfl) (fun _ _ _ h => h) rfl (by kernel_rfl) trivial (r_rem rfl rfl (by omega)) rfl ?_
    refine an_read 4 (by kernel_rfl) (fun _ _ _ h => h) rfl (by kernel_rfl) trivial (r_assign rfl) rfl ?_
    refine an_read 5 (by kernel_rfl) (fun _ _ _ h => h) rfl (by kernel_rfl) trivial (r_assign rfl) rfl ?_
    refine an_done rfl ?_
    refine aq_in ?_
    exact aq_again (AL.sub (sub_mk idn (by exact ⟨⟨_, rfl, ad_ren rfl⟩, ⟨_, rfl, ad_ren rfl⟩, ⟨_, rfl, ad_ren rfl⟩, ⟨_, rfl, ad_ren rfl⟩, ⟨_, rfl, ad_ren rfl⟩, trivial⟩) (by exact ⟨⟨_, rfl, ⟨rfl, trivial⟩⟩, ⟨_, rfl, ⟨rfl, trivial⟩⟩, ⟨_, rfl, ⟨rfl, trivial⟩⟩, trivial⟩) (by rfl) (nk rfl)) (ih3 (s1.2, (s1.1.tmod s1.2)) trivial h))
  · have q7 := d_f hb5
    replace h := is_else (d_f hb5) h
    refine aw_exit ?_
    refine aq_then_exit ?_
    refine aq_then_exit ?_
    refine aq_in_exit ?_
    refine aq_then ?_
    refine aw_seq ?_
    obtain ⟨g8, h⟩ := is_guard h
    obtain ⟨g9, h⟩ := is_guard h
    obtain ⟨g10, h⟩ := is_guard h
    refine aw_drawAll (by kernel_rfl) ?_
    refine an_read 0 (by kernel_rfl) (fun _ _ _ h => h) rfl (by kernel_rfl) trivial (r_idxAddr_arr (i := 0) Try.underlying35 Try.sizeOf3 rfl rfl (show 0 ≤ 0 from by omega) (show 0 < (2 : Int) from by omega)) rfl ?_
    refine an_read 1 (by kernel_rfl) (fun _ _ _ h => h) rfl (by kernel_rfl) trivial (r_load_elema_int Try.isAgg3 Try.sizeOf3 rfl rfl rfl (show 0 < 2 from by omega)) rfl ?_
    refine an_read 2 (by kernel_rfl) (fun _ _ _ h => h) rfl (by kernel_rfl) trivial (r_idxAddr_arr (i := 1) Try.underlying35 Try.sizeOf3 rfl rfl (show 0 ≤ 1 from by omega) (show 1 < (2 : Int) from by omega)) rfl ?_
    refine an_read 3 (by kernel_rfl) (fun _ _ _ h => h) rfl (by kernel_rfl) trivial (r_load_elema_int Try.isAgg3 Try.sizeOf3 rfl rfl rfl (show 1 < 2 from by omega)) rfl ?_
    refine an_read 4 (by kernel_rfl) (fun _ _ _ h => h) rfl (by kernel_rfl) trivial (r_move rfl) rfl ?_
    refine an_read 5 (by kernel_rfl) (fun _ _ _ h => h) rfl (by kernel_rfl) trivial (r_quo rfl rfl g8) rfl ?_
    refine an_read 6 (by kernel_rfl) (fun _ _ _ h => h) rfl (by kernel_rfl) trivial (r_mul rfl rfl) rfl ?_
    refine an_read 7 (by kernel_rfl) (fun _ _ _ h => h) rfl (by kernel_rfl) trivial (r_idxAddr_arr (i := 0) Try.underlying35 Try.sizeOf3 rfl rfl (show 0 ≤ 0 from by omega) (show 0 < (2 : Int) from by omega)) rfl ?_
    refine an_read 8 (by kernel_rfl) (fun _ _ _ h => h) rfl (by kernel_rfl) trivial (r_load_elema_int Try.isAgg3 Try.sizeOf3 rfl rfl rfl (show 0 < 2 from by omega)) rfl ?_
    refine an_read 9 (by kernel_rfl) (fun _ _ _ h => h) rfl (by kernel_rfl) trivial (r_idxAddr_arr (i := 1) Try.underlying35 Try.sizeOf3 rfl rfl (show 0 ≤ 1 from by omega) (show 1 < (2 : Int) from by omega)) rfl ?_
    refine an_read 10 (by kernel_rfl) (fun _ _ _ h => h) rfl (by kernel_rfl) trivial (r_load_elema_int Try.isAgg3 Try.sizeOf3 rfl rfl rfl (show 1 < 2 from by omega)) rfl ?_
    refine an_read 11 (by kernel_rfl) (fun _ _ _ h => h) rfl (by kernel_rfl) trivial (r_move rfl) rfl ?_
    refine an_read 12 (by kernel_rfl) (fun _ _ _ h => h) rfl (by kernel_rfl) trivial (r_quo rfl rfl g9) rfl ?_
    refine an_read 13 (by kernel_rfl) (fun _ _ _ h => h) rfl (by kernel_rfl) trivial (r_mul rfl rfl) rfl ?_
    refine an_read 14 (by kernel_rfl) (fun _ _ _ h => h) rfl (by kernel_rfl) trivial (r_add rfl rfl) rfl ?_
    refine an_read 15 (by kernel_rfl) (fun _ _ _ h => h) rfl (by kernel_rfl) trivial (r_idxAddr_arr (i := 1) Try.underlying35 Try.sizeOf3 rfl rfl (show 0 ≤ 1 from by omega) (show 1 < (2 : Int) from by omega)) rfl ?_
    refine an_read 16 (by kernel_rfl) (fun _ _ _ h => h) rfl (by kernel_rfl) trivial (r_load_elema_int Try.isAgg3 Try.sizeOf3 rfl rfl rfl (show 1 < 2 from by omega)) rfl ?_
    refine an_read 17 (by kernel_rfl) (fun _ _ _ h => h) rfl (by kernel_rfl) trivial (r_move rfl) rfl ?_
    refine an_read 18 (by kernel_rfl) (fun _ _ _ h => h) rfl (by kernel_rfl) trivial (r_quo rfl rfl g10) rfl ?_
    refine an_read 19 (by kernel_rfl) (fun _ _ _ h => h) rfl (by kernel_rfl) trivial (r_idxAddr_arr (i := 1) Try.underlying35 Try.sizeOf3 rfl rfl (show 0 ≤ 1 from by omega) (show 1 < (2 : Int) from by omega)) rfl ?_
    refine an_read 20 (by kernel_rfl) (fun _ _ _ h => h) rfl (by kernel_rfl) trivial (r_load_elema_int Try.isAgg3 Try.sizeOf3 rfl rfl rfl (show 1 < 2 from by omega)) rfl ?_
    refine an_read 21 (by kernel_rfl) (fun _ _ _ h => h) rfl (by kernel_rfl) trivial (r_mul rfl rfl) rfl ?_
    refine an_read 22 (by kernel_rfl) (fun _ _ _ h => h) rfl (by kernel_rfl) trivial (r_assign rfl) rfl ?_
    refine an_read 23 (by kernel_rfl) (fun _ _ _ h => h) rfl (by kernel_rfl) trivial (r_assign rfl) rfl ?_
    refine an_done rfl ?_
    refine aq_then ?_
    refine aw_seq ?_
    refine aw_region ?_
    refine ao_read trivial (r_move rfl) rfl ?_
    refine ao_read trivial (r_move rfl) rfl ?_
    refine ao_read trivial (r_assign rfl) rfl ?_
    refine ao_read trivial (r_assign rfl) rfl ?_
    refine ao_nil ?_
    refine aq_then ?_
    refine aw_seq ?_
    refine aw_block ?_
    refine aw_loop (AL.sub (sub_mk (rn [(0, 2)]) (by exact ⟨⟨_, rfl, ad_ren rfl⟩, ⟨_, rfl, ad_ren rfl⟩, ⟨_, rfl, ad_ren rfl⟩, ⟨_, rfl, ad_ren rfl⟩, ⟨_, rfl, ad_ren rfl⟩, trivial⟩) (by exact ⟨⟨_, rfl, ⟨rfl, trivial⟩⟩, trivial⟩) (by rfl) (nk rfl)) (al_whl (fun (s11 : Int × Int) => [(4, .ref 0 0), (5, .int .i64 s11.1), (6, .int .i64 s11.2), (7, .int .i64 (IntKind.wrap .i64 ((IntKind.wrap .i64 ((x0.getD 0 0) * (IntKind.wrap .i64 ((x1.getD 1 0).tdiv s1.1)))) + (IntKind.wrap .i64 ((x1.getD 0 0) * (IntKind.wrap .i64 ((x0.getD 1 0).tdiv s1.1))))))), (8, .int .i64 (IntKind.wrap .i64 ((IntKind.wrap .i64 ((x0.getD 1 0).tdiv s1.1)) * (x1.getD 1 0))))]) (fun (s11 : Int × Int) => [(0, .var [.arr (.int .i64) 2 ((List.replicate 2 0) : (List Int))])]) (fun (s11 : Int × Int) => True) h trivial (fun d13 s11 hI h ih13 => ?_)))
    replace h := is_whlS h
    refine al_round ?_
    refine aw_seq ?_
    refine aw_seq ?_
    refine aw_region ?_
    refine ao_read trivial (r_move rfl) rfl ?_
    refine ao_read trivial (r_gtr rfl rfl) rfl ?_
    refine ao_nil ?_
    refine aq_then ?_
    refine aw_cond rfl (fun hb15 => ?_) (fun hb15 => ?_)
    · have q16 := d_t hb15
      replace h := is_if (d_t hb15) h
      refine aw_skip ?_
      refine aq_then ?_
      refine aw_block ?_
      refine aw_drawAll (by kernel_rfl) ?_
      refine an_read 0 (by kernel_rfl) (fun _ _ _ h => h) rfl (by kernel_rfl) trivial (r_move rfl) rfl ?_
      refine an_read 1 (by kernel_rfl) (fun _ _ _ h => h) rfl (by kernel_rfl) trivial (r_move rfl) rfl ?_
      refine an_read 2 (by kernel_rfl) (fun _ _ _ h => h) rfl (by kernel_rfl) trivial (r_move rfl) rfl ?_
      refine an_read 3 (by kernel_rfl) (fun _ _ _ h => h) rfl (by kernel_rfl) trivial (r_rem rfl rfl (by omega)) rfl ?_
      refine an_read 4 (by kernel_rfl) (fun _ _ _ h => h) rfl (by kernel_rfl) trivial (r_assign rfl) rfl ?_
      refine an_read 5 (by kernel_rfl) (fun _ _ _ h => h) rfl (by kernel_rfl) trivial (r_assign rfl) rfl ?_
      refine an_done rfl ?_
      refine aq_in ?_
      exact aq_again (AL.sub (sub_mk idn (by exact ⟨⟨_, rfl, ad_ren rfl⟩, ⟨_, rfl, ad_ren rfl⟩, ⟨_, rfl, ad_ren rfl⟩, ⟨_, rfl, ad_ren rfl⟩, ⟨_, rfl, ad_ren rfl⟩, trivial⟩) (by exact ⟨⟨_, rfl, ⟨rfl, trivial⟩⟩, trivial⟩) (by rfl) (nk rfl)) (ih13 (s11.2, (s11.1.tmod s11.2)) trivial h))
    · have q17 := d_f hb15
      replace h := is_else (d_f hb15) h
      refine aw_exit ?_
      refine aq_then_exit ?_
      refine aq_then_exit ?_
      refine aq_in_exit ?_
      refine aq_then ?_
      refine aw_seq ?_
      obtain ⟨g18, h⟩ := is_guard h
      obtain ⟨g19, h⟩ := is_guard h
      refine aw_draw 7 (by kernel_rfl) (by kernel_rfl) ?_
      refine an_read 0 (by kernel_rfl) (fun _ _ _ h => h) rfl (by kernel_rfl) trivial (r_move rfl) rfl ?_
      refine an_read 1 (by kernel_rfl) (fun _ _ _ h => h) rfl (by kernel_rfl) trivial (r_move rfl) rfl ?_
      refine an_read 2 (by kernel_rfl) (fun _ _ _ h => h) rfl (by kernel_rfl) trivial (r_quo rfl rfl g18) rfl ?_
      refine an_read 3 (by kernel_rfl) (fun _ _ _ h => h) rfl (by kernel_rfl) trivial (r_move rfl) rfl ?_
      refine an_read 4 (by kernel_rfl) (fun _ _ _ h => h) rfl (by kernel_rfl) trivial (r_move rfl) rfl ?_
      refine an_read 5 (by kernel_rfl) (fun _ _ _ h => h) rfl (by kernel_rfl) trivial (r_quo rfl rfl g19) rfl ?_
      refine an_read 6 (by kernel_rfl) (fun _ _ _ h => h) rfl (by kernel_rfl) trivial (r_build_arr (l := [(0, .tmp 51), (1, .tmp 54)]) (t := (.int .i64)) ([(IntKind.wrap .i64 ((IntKind.wrap .i64 ((IntKind.wrap .i64 ((x0.getD 0 0) * (IntKind.wrap .i64 ((x1.getD 1 0).tdiv s1.1)))) + (IntKind.wrap .i64 ((x1.getD 0 0) * (IntKind.wrap .i64 ((x0.getD 1 0).tdiv s1.1)))))).tdiv s11.1)), (IntKind.wrap .i64 ((IntKind.wrap .i64 ((IntKind.wrap .i64 ((x0.getD 1 0).tdiv s1.1)) * (x1.getD 1 0))).tdiv s11.1))] : (List Int)) rfl Try.underlying35 Try.zeroValue35 Try.sizeOf3 rfl rfl rfl rfl) rfl ?_
      refine an_tail rfl rfl ?_
      refine ao_effS trivial (e_store rfl rfl rfl rfl Try.sizeOf35 rfl) ?_
      refine ao_nil ?_
      refine aq_then ?_
      refine aw_ret ?_
      refine aq_ret ?_
      obtain rfl := is_some h
      exact aq_finx (l := [.cell 4 35]) (xs := [.v (.arr 2 (.int .i64)) ([(IntKind.wrap .i64 ((IntKind.wrap .i64 ((IntKind.wrap .i64 ((x0.getD 0 0) * (IntKind.wrap .i64 ((x1.getD 1 0).tdiv s1.1)))) + (IntKind.wrap .i64 ((x1.getD 0 0) * (IntKind.wrap .i64 ((x0.getD 1 0).tdiv s1.1)))))).tdiv s11.1)), (IntKind.wrap .i64 ((IntKind.wrap .i64 ((IntKind.wrap .i64 ((x0.getD 1 0).tdiv s1.1)) * (x1.getD 1 0))).tdiv s11.1))] : (List Int))]) idn [.v (.arr 2 (.int .i64)) ([(IntKind.wrap .i64 ((IntKind.wrap .i64 ((IntKind.wrap .i64 ((x0.getD 0 0) * (IntKind.wrap .i64 ((x1.getD 1 0).tdiv s1.1)))) + (IntKind.wrap .i64 ((x1.getD 0 0) * (IntKind.wrap .i64 ((x0.getD 1 0).tdiv s1.1)))))).tdiv s11.1)), (IntKind.wrap .i64 ((IntKind.wrap .i64 ((IntKind.wrap .i64 ((x0.getD 1 0).tdiv s1.1)) * (x1.getD 1 0))).tdiv s11.1))] : (List Int))] [] rfl (by exact ⟨⟨⟨_, _, rfl⟩, r_load_arr rfl Try.isAgg35 Try.sizeOf35 rfl rfl rfl⟩, trivial⟩) (by exact ⟨ad_ren rfl, trivial⟩) (by exact trivial) rfl (nk rfl) rfl rfl ⟨rfl, rfl⟩
theorem c_impl_isRolls {x0 : Int} {r : Bool} (h : Is (p_impl_isRolls x0) r) :
    Scalar Try.prog 160 [.int .i64 x0] (.bool r) := by
  unfold p_impl_isRolls at h
  refine ac_enter ⟨5, 0⟩ Try.func160 rfl rfl rfl rfl rfl (fun Γ => ?_)
  refine aw_seq ?_
  refine aw_region ?_
  refine ao_read trivial (r_assign rfl) rfl ?_
  refine ao_nil ?_
  refine aq_then ?_
  refine aw_seq ?_
  refine aw_region ?_
  refine ao_read trivial (r_move rfl) rfl ?_
  refine ao_scall trivial (scall (c_impl_within (is_mk (rfl : p_impl_within x0 0 12 = _))) rfl Try.func96 rfl rfl rfl rfl (fun σ => ⟨ad_ren rfl, ad_ren rfl, ad_ren rfl, trivial⟩)) rfl ?_
  refine ao_read trivial (r_assign rfl) rfl ?_
  refine ao_nil ?_
  refine aq_then ?_
  refine aw_ret ?_
  refine aq_ret ?_
  obtain rfl := is_eq h
  exact aq_finx (l := [.tmp 2]) (xs := [.bool (p_impl_within x0 0 12)]) idn [.bool (p_impl_within x0 0 12)] [] rfl (by exact ⟨rfl, trivial⟩) (by exact ⟨ad_ren rfl, trivial⟩) (by exact trivial) rfl (nk rfl) rfl rfl ⟨rfl, rfl⟩
theorem c_impl_isIn {x0 : Int} {x1 : Int} {r : Bool} (h : Is (p_impl_isIn x0 x1) (some r)) :
    Scalar Try.prog 187 [.int .i64 x0, .int .i64 x1] (.bool r) := by
  unfold p_impl_isIn at h
  refine ac_enter ⟨10, 0⟩ Try.func187 rfl rfl rfl rfl rfl (fun Γ => ?_)
  refine aw_seq ?_
  refine aw_region ?_
  refine ao_read trivial (r_assign rfl) rfl ?_
  refine ao_nil ?_
  refine aq_then ?_
  refine aw_seq ?_
  refine aw_region ?_
  refine ao_read trivial (r_move rfl) rfl ?_
  refine ao_read trivial (r_move rfl) rfl ?_
  obtain ⟨g1, h⟩ := is_guard h
  refine ao_read trivial (r_shr rfl rfl (by omega)) rfl ?_
  refine ao_read trivial (r_and rfl rfl) rfl ?_
  refine ao_read trivial (r_eql rfl rfl) rfl ?_
  refine ao_read trivial (r_assign rfl) rfl ?_
  refine ao_nil ?_
  refine aq_then ?_
  refine aw_ret ?_
  refine aq_ret ?_
  obtain rfl := is_some h
  exact aq_finx (l := [.tmp 4]) (xs := [.bool (decide ((andI .i64 (shrI .i64 x0 x1) 1) = 1))]) idn [.bool (decide ((andI .i64 (shrI .i64 x0 x1) 1) = 1))] [] rfl (by exact ⟨rfl, trivial⟩) (by exact ⟨ad_ren rfl, trivial⟩) (by exact trivial) rfl (nk rfl) rfl rfl ⟨rfl, rfl⟩
theorem c_impl_ChanceAll_1 {fu : Nat} {x0 : Int} {x1 : Int} {x2 : Int} {x3 : Int} {r : Int} (h : Is (p_impl_ChanceAll_1 fu x0 x1 x2 x3) (some r)) :
    ACalls Try.prog 162 [.int .i64 x0, .int .i64 x1, .ref 0 0, .ref 1 0] [(0, .var [.cell (.int .i64 x2)]), (1, .var [.cell (.int .i64 x3)])] (fun r' H' => r' = .tup [] ∧ H' = [(0, .var [.cell (.int .i64 r)]), (1, .var [.cell (.int .i64 x3)])]) := by
  unfold p_impl_ChanceAll_1 at h
  refine ac_enter ⟨14, 2⟩ Try.func162 rfl rfl rfl rfl rfl (fun Γ => ?_)
  obtain ⟨r1, r1h, h⟩ := is_bind h
  refine aw_draw 8 (by kernel_rfl) (by kernel_rfl) ?_
  refine an_read 0 (by kernel_rfl) (fun _ _ _ h => h) rfl (by kernel_rfl) trivial (r_load_cell Try.isAgg3 rfl rfl rfl) rfl ?_
  refine an_read 1 (by kernel_rfl) (fun _ _ _ h => h) rfl (by kernel_rfl) trivial (r_move rfl) rfl ?_
  refine an_read 2 (by kernel_rfl) (fun _ _ _ h => h) rfl (by kernel_rfl) trivial (r_move rfl) rfl ?_
  refine an_read 3 (by kernel_rfl) (fun _ _ _ h => h) rfl (by kernel_rfl) trivial (r_sub rfl rfl) rfl ?_
  refine an_read 4 (by kernel_rfl) (fun _ _ _ h => h) rfl (by kernel_rfl) trivial (r_load_cell Try.isAgg3 rfl rfl rfl) rfl ?_
  refine an_scall 5 (by kernel_rfl) (fun _ _ _ h => h) rfl (by kernel_rfl) trivial (scall (c_impl_raised (is_mk r1h)) rfl Try.func163 rfl rfl rfl rfl (fun σ => ⟨ad_ren rfl, ad_ren rfl, trivial⟩)) rfl ?_
  refine an_read 6 (by kernel_rfl) (fun _ _ _ h => h) rfl (by kernel_rfl) trivial (r_mul rfl rfl) rfl ?_
  refine an_read 7 (by kernel_rfl) (fun _ _ _ h => h) rfl (by kernel_rfl) trivial (r_add rfl rfl) rfl ?_
  refine an_tail rfl rfl ?_
  refine ao_effS trivial (e_store rfl rfl rfl rfl Try.sizeOf3 rfl) ?_
  refine ao_nil ?_
  refine aq_end ?_
  obtain rfl := is_some h
  exact aq_finx (l := []) (xs := []) idn [] [(0, .var [.cell (.int .i64 (IntKind.wrap .i64 (x2 + (IntKind.wrap .i64 (x1 * r1)))))]), (1, .var [.cell (.int .i64 x3)])] rfl (by exact trivial) (by exact trivial) (by exact ⟨⟨_, rfl, ⟨ad_ren rfl, rfl, trivial⟩⟩, ⟨_, rfl, ⟨ad_ren rfl, rfl, trivial⟩⟩, trivial⟩) rfl (nk2 rfl rfl rfl) rfl rfl ⟨rfl, rfl⟩
theorem c_impl_parts {fu : Nat} {x0 : (List Int)} {x1 : Int} {x2 : Int} {r : Int} (h : Is (p_impl_parts fu x0 x1 x2) (some r)) :
    ACalls Try.prog 161 [.v (.arr 6 (.int .i64)) x0, .fn 162 [.ref 0 0, .ref 1 0]] [(0, .var [.cell (.int .i64 x1)]), (1, .var [.cell (.int .i64 x2)])] (fun r' H' => r' = .tup [] ∧ H' = [(0, .var [.cell (.int .i64 r)]), (1, .var [.cell (.int .i64 x2)])]) := by
  unfold p_impl_parts at h
  refine ac_enter ⟨41, 2⟩ Try.func161 rfl rfl rfl rfl rfl (fun Γ => ?_)
  refine aw_seq ?_
  refine aw_region ?_
  refine ao_eff trivial (e_box 2 rfl rfl rfl rfl rfl rfl) rfl ?_
  refine ao_nil ?_
  refine aq_then ?_
  refine aw_seq ?_
  refine aw_region ?_
  refine ao_read trivial (r_load_arr rfl Try.isAgg60 Try.sizeOf60 rfl rfl rfl) rfl ?_
  obtain ⟨r1, r1h, h⟩ := is_bind h
  refine ao_call [] 3 trivial (c_impl_numbers (is_mk r1h)) Try.func175 rfl rfl rfl rfl ⟨ad_ren rfl, trivial⟩ trivial rfl rfl rfl rfl rfl rfl rfl (fun r' H' hr => ?_)
  obtain ⟨rfl, rfl⟩ := hr
  refine ao_norm (y := .os 3) (H' := [(2, .var [.arr (.int .i64) 6 x0]), (0, .var [.cell (.int .i64 x1)]), (1, .var [.cell (.int .i64 x2)]), (3, .row (.int .i64) r1)]) rfl rfl ?_
  refine row_len_o 3 (r1.length : Int) rfl rfl (fun hr2 => ?_)
  refine ao_read trivial (r_assign rfl) rfl ?_
  refine ao_nil ?_
  refine aq_then ?_
  refine aw_seq ?_
  refine aw_region ?_
  refine ao_read trivial (r_move rfl) rfl ?_
  refine ao_read trivial (r_len_osm (r1.length : Int) Try.underlying24 rfl rfl rfl) rfl ?_
  refine ao_read trivial (r_shl rfl rfl (by omega)) rfl ?_
  refine ao_read trivial (r_move rfl) rfl ?_
  refine ao_nil ?_
  refine aq_then ?_
  refine aw_block ?_
  refine aw_loop (AL.sub (sub_mk idn (by exact ⟨⟨_, rfl, ad_ren rfl⟩, ⟨_, rfl, ad_ren rfl⟩, ⟨_, rfl, ad_ren rfl⟩, ⟨_, rfl, ad_ren rfl⟩, ⟨_, rfl, ad_ren rfl⟩, trivial⟩) (by exact ⟨⟨_, rfl, ⟨ad_ren rfl, rfl, trivial⟩⟩, ⟨_, rfl, ⟨ad_ren rfl, rfl, trivial⟩⟩, ⟨_, rfl, ⟨rfl, trivial⟩⟩, ⟨_, rfl, rfl⟩, trivial⟩) (by rfl) (nk2 rfl rfl rfl)) (al_whl (fun (s3 : Int × Int) => [(1, .fn 162 [.ref 0 0, .ref 1 0]), (2, .ref 2 0), (4, .os 3), (14, .int .i64 (shlI .i64 1 (r1.length : Int))), (15, .int .i64 s3.1)]) (fun (s3 : Int × Int) => [(0, .var [.cell (.int .i64 s3.2)]), (1, .var [.cell (.int .i64 x2)]), (2, .var [.arr (.int .i64) 6 x0]), (3, .row (.int .i64) r1)]) (fun (s3 : Int × Int) => True) h trivial (fun d5 s3 hI h ih5 => ?_)))
  replace h := is_whlS h
  refine al_round ?_
  refine aw_seq ?_
  refine aw_region ?_
  refine ao_read trivial (r_lss rfl rfl) rfl ?_
  refine ao_nil ?_
  refine aq_then ?_
  refine aw_seq ?_
  refine aw_cond rfl (fun hb7 => ?_) (fun hb7 => ?_)
  · have q8 := d_t hb7
    replace h := is_if (d_t hb7) h
    refine aw_skip ?_
    refine aq_then ?_
    refine aw_seq ?_
    refine aw_block ?_
    refine aw_seq ?_
    refine aw_region ?_
    refine ao_read trivial (r_move rfl) rfl ?_
    refine ao_read trivial (r_assign rfl) rfl ?_
    refine ao_nil ?_
    refine aq_then ?_
    refine aw_seq ?_
    refine aw_region ?_
    refine ao_read trivial (r_assign rfl) rfl ?_
    refine ao_read trivial (r_assign rfl) rfl ?_
    refine ao_nil ?_
    refine aq_then ?_
    refine aw_seq ?_
    refine aw_seq ?_
    refine aw_region ?_
    refine ao_read trivial (r_move rfl) rfl ?_
    refine ao_read trivial (r_len_osm (r1.length : Int) Try.underlying24 rfl rfl rfl) rfl ?_
    refine ao_read trivial (r_move rfl) rfl ?_
    refine ao_nil ?_
    refine aq_then ?_
    refine aw_block ?_
    refine aw_loop (AL.sub (fr' := [(1, .fn 162 [.ref 0 0, .ref 1 0]), (2, .ref 2 0), (4, .os 3), (5, .int .i64 s3.1), (6, .int .i64 0), (7, .int .i64 1), (14, .int .i64 (shlI .i64 1 (r1.length : Int))), (15, .int .i64 s3.1), (18, .os 3), (19, .int .i64 (r1.length : Int)), (20, .int .i64 0)]) (H' := [(0, .var [.cell (.int .i64 s3.2)]), (1, .var [.cell (.int .i64 x2)]), (2, .var [.arr (.int .i64) 6 x0]), (3, .row (.int .i64) r1)]) (sub_mk idn (by exact ⟨⟨_, rfl, ad_ren rfl⟩, ⟨_, rfl, ad_ren rfl⟩, ⟨_, rfl, ad_ren rfl⟩, ⟨_, rfl, ad_ren rfl⟩, ⟨_, rfl, ad_ren rfl⟩, ⟨_, rfl, ad_ren rfl⟩, ⟨_, rfl, ad_ren rfl⟩, ⟨_, rfl, ad_ren rfl⟩, ⟨_, rfl, ad_ren rfl⟩, ⟨_, rfl, ad_ren rfl⟩, ⟨_, rfl, ad_ren rfl⟩, trivial⟩) (by exact ⟨⟨_, rfl, ⟨ad_ren rfl, rfl, trivial⟩⟩, ⟨_, rfl, ⟨ad_ren rfl, rfl, trivial⟩⟩, ⟨_, rfl, ⟨rfl, trivial⟩⟩, ⟨_, rfl, rfl⟩, trivial⟩) (by rfl) (nk2 rfl rfl rfl)) (al_cnt (fun i11 (s10 : Int × Int) => [(1, .fn 162 [.ref 0 0, .ref 1 0]), (2, .ref 2 0), (4, .os 3), (5, .int .i64 s3.1), (6, .int .i64 s10.1), (7, .int .i64 s10.2), (14, .int .i64 (shlI .i64 1 (r1.length : Int))), (15, .int .i64 s3.1), (18, .os 3), (19, .int .i64 (r1.length : Int)), (20, .int .i64 i11)]) (fun i11 (s10 : Int × Int) => [(0, .var [.cell (.int .i64 s3.2)]), (1, .var [.cell (.int .i64 x2)]), (2, .var [.arr (.int .i64) 6 x0]), (3, .row (.int .i64) r1)]) (fun d i11 (s10 : Int × Int) => d = Int.toNat ((r1.length : Int) - i11) ∧ 0 ≤ i11 ∧ i11 ≤ (r1.length : Int)) h ⟨rfl, (by (try simp only [List.length_set, List.length_append, List.length_cons, List.length_nil, List.length_replicate, List.length_take, List.length_drop]) <;> omega), (by (try simp only [List.length_set, List.length_append, List.length_cons, List.length_nil, List.length_replicate, List.length_take, List.length_drop]) <;> omega)⟩ (fun d12 i11 s10 hI h ih12 => ?_)))
    obtain ⟨hd, _, _⟩ := hI
    refine al_round ?_
    refine aw_seq ?_
    refine aw_region ?_
    refine ao_read trivial (r_lss rfl rfl) rfl ?_
    refine ao_nil ?_
    refine aq_then ?_
    refine aw_seq ?_
    refine aw_cond rfl (fun hb14 => ?_) (fun hb14 => ?_)
    · have q15 := d_t hb14
      obtain ⟨d12, rfl⟩ : ∃ e, d12 = e + 1 := ⟨d12 - 1, by omega⟩
      replace h := is_cntS h
      refine aw_skip ?_
      refine aq_then ?_
      refine aw_seq ?_
      refine aw_block ?_
      refine aw_seq ?_
      refine aw_region ?_
      refine ao_read trivial (r_move rfl) rfl ?_
      refine ao_read trivial (r_idxAddr_os Try.underlying24 Try.sizeOf3 rfl rfl rfl (show 0 ≤ i11 from by omega) (show i11 < (r1.length : Int) from by omega)) rfl ?_
      refine ao_read trivial (r_load_elem_int Try.isAgg3 Try.sizeOf3 rfl rfl (show i11.toNat < r1.length from by omega)) rfl ?_
      refine ao_read trivial (r_assign rfl) rfl ?_
      refine ao_read trivial (r_assign rfl) rfl ?_
      refine ao_nil ?_
      refine aq_then ?_
      refine aw_seq ?_
      refine aw_region ?_
      refine ao_read trivial (r_move rfl) rfl ?_
      refine ao_read trivial (r_move rfl) rfl ?_
      obtain ⟨r17, r17h, h⟩ := is_bind h
      refine ao_scall trivial (scall (c_impl_isIn (is_mk r17h)) rfl Try.func187 rfl rfl rfl rfl (fun σ => ⟨ad_ren rfl, ad_ren rfl, trivial⟩)) rfl ?_
      refine ao_nil ?_
      refine aq_then ?_
      refine aw_cond rfl (fun hb18 => ?_) (fun hb18 => ?_)
      · replace h := is_if hb18 h
        refine aw_seq ?_
        refine aw_region ?_
        refine ao_read trivial (r_move rfl) rfl ?_
        refine ao_read trivial (r_load_arr rfl Try.isAgg60 Try.sizeOf60 rfl rfl rfl) rfl ?_
        refine ao_read trivial (r_move rfl) rfl ?_
        refine ao_scall trivial (scall (c_impl_weight (is_mk (rfl : p_impl_weight x0 (r1.getD i11.toNat 0) = _))) rfl Try.func177 rfl rfl rfl rfl (fun σ => ⟨ad_ren rfl, ad_ren rfl, trivial⟩)) rfl ?_
        refine ao_read trivial (r_add rfl rfl) rfl ?_
        refine ao_read trivial (r_assign rfl) rfl ?_
        refine ao_nil ?_
        refine aq_then ?_
        refine aw_region ?_
        refine ao_read trivial (r_move rfl) rfl ?_
        refine ao_read trivial (r_neg rfl) rfl ?_
        refine ao_read trivial (r_assign rfl) rfl ?_
        refine ao_nil ?_
        refine aq_in ?_
        refine aq_then ?_
        refine aw_region ?_
        refine ao_read trivial (r_addI rfl rfl (wrap_id (by omega) (by omega))) rfl ?_
        refine ao_read trivial (r_move rfl) rfl ?_
        refine ao_nil ?_
        exact aq_again (AL.sub (sub_mk idn (by exact ⟨⟨_, rfl, ad_ren rfl⟩, ⟨_, rfl, ad_ren rfl⟩, ⟨_, rfl, ad_ren rfl⟩, ⟨_, rfl, ad_ren rfl⟩, ⟨_, rfl, ad_ren rfl⟩, ⟨_, rfl, ad_ren rfl⟩, ⟨_, rfl, ad_ren rfl⟩, ⟨_, rfl, ad_ren rfl⟩, ⟨_, rfl, ad_ren rfl⟩, ⟨_, rfl, ad_ren rfl⟩, ⟨_, rfl, ad_ren rfl⟩, trivial⟩) (by exact ⟨⟨_, rfl, ⟨ad_ren rfl, rfl, trivial⟩⟩, ⟨_, rfl, ⟨ad_ren rfl, rfl, trivial⟩⟩, ⟨_, rfl, ⟨rfl, trivial⟩⟩, ⟨_, rfl, rfl⟩, trivial⟩) (by rfl) (nk2 rfl rfl rfl)) (ih12 d12 (i11 + 1) ((IntKind.wrap .i64 (s10.1 + (p_impl_weight x0 (r1.getD i11.toNat 0)))), (IntKind.wrap .i64 (0 - s10.2))) (by omega) ⟨by omega, (by (try simp only [List.length_set, List.length_append, List.length_cons, List.length_nil, List.length_replicate, List.length_take, List.length_drop]) <;> omega), (by (try simp only [List.length_set, List.length_append, List.length_cons, List.length_nil, List.length_replicate, List.length_take, List.length_drop]) <;> omega)⟩ h))
      · replace h := is_else (ne_t hb18) h
        refine aw_skip ?_
        refine aq_in ?_
        refine aq_then ?_
        refine aw_region ?_
        refine ao_read trivial (r_addI rfl rfl (wrap_id (by omega) (by omega))) rfl ?_
        refine ao_read trivial (r_move rfl) rfl ?_
        refine ao_nil ?_
        exact aq_again (AL.sub (sub_mk idn (by exact ⟨⟨_, rfl, ad_ren rfl⟩, ⟨_, rfl, ad_ren rfl⟩, ⟨_, rfl, ad_ren rfl⟩, ⟨_, rfl, ad_ren rfl⟩, ⟨_, rfl, ad_ren rfl⟩, ⟨_, rfl, ad_ren rfl⟩, ⟨_, rfl, ad_ren rfl⟩, ⟨_, rfl, ad_ren rfl⟩, ⟨_, rfl, ad_ren rfl⟩, ⟨_, rfl, ad_ren rfl⟩, ⟨_, rfl, ad_ren rfl⟩, trivial⟩) (by exact ⟨⟨_, rfl, ⟨ad_ren rfl, rfl, trivial⟩⟩, ⟨_, rfl, ⟨ad_ren rfl, rfl, trivial⟩⟩, ⟨_, rfl, ⟨rfl, trivial⟩⟩, ⟨_, rfl, rfl⟩, trivial⟩) (by rfl) (nk2 rfl rfl rfl)) (ih12 d12 (i11 + 1) (s10.1, s10.2) (by omega) ⟨by omega, (by (try simp only [List.length_set, List.length_append, List.length_cons, List.length_nil, List.length_replicate, List.length_take, List.length_drop]) <;> omega), (by (try simp only [List.length_set, List.length_append, List.length_cons, List.length_nil, List.length_replicate, List.length_take, List.length_drop]) <;> omega)⟩ h))
    · have q16 := d_f hb14
      obtain rfl : d12 = 0 := by omega
      replace h := is_cnt0 h
      refine aw_exit ?_
      refine aq_then_exit ?_
      refine aq_then_exit ?_
      refine aq_in_exit ?_
      refine aq_then ?_
      refine aw_region ?_
      refine ao_read trivial (r_move rfl) rfl ?_
      refine ao_read trivial (r_move rfl) rfl ?_
      refine ao_read trivial (r_move rfl) rfl ?_
      obtain ⟨r19, r19h, h⟩ := is_bind h
      refine ao_call [0, 1] 4 trivial (c_impl_ChanceAll_1 (is_mk r19h)) Try.func162 rfl rfl rfl rfl ⟨ad_ren rfl, ad_ren rfl, ad_ren rfl, ad_ren rfl, trivial⟩ ⟨⟨_, rfl, ⟨ad_ren rfl, rfl, trivial⟩⟩, ⟨_, rfl, ⟨ad_ren rfl, rfl, trivial⟩⟩, trivial⟩ rfl rfl rfl rfl rfl rfl rfl (fun r' H' hr => ?_)
      obtain ⟨rfl, rfl⟩ := hr
      refine ao_norm (y := .tup []) (H' := [(2, .var [.arr (.int .i64) 6 x0]), (3, .row (.int .i64) r1), (0, .var [.cell (.int .i64 r19)]), (1, .var [.cell (.int .i64 x2)])]) rfl rfl ?_
      refine ao_nil ?_
      refine aq_in ?_
      refine aq_then ?_
      refine aw_region ?_
      refine ao_read trivial (r_add rfl rfl) rfl ?_
      refine ao_read trivial (r_move rfl) rfl ?_
      refine ao_nil ?_
      exact aq_again (AL.sub (sub_mk idn (by exact ⟨⟨_, rfl, ad_ren rfl⟩, ⟨_, rfl, ad_ren rfl⟩, ⟨_, rfl, ad_ren rfl⟩, ⟨_, rfl, ad_ren rfl⟩, ⟨_, rfl, ad_ren rfl⟩, trivial⟩) (by exact ⟨⟨_, rfl, ⟨ad_ren rfl, rfl, trivial⟩⟩, ⟨_, rfl, ⟨ad_ren rfl, rfl, trivial⟩⟩, ⟨_, rfl, ⟨rfl, trivial⟩⟩, ⟨_, rfl, rfl⟩, trivial⟩) (by rfl) (nk2 rfl rfl rfl)) (ih5 ((IntKind.wrap .i64 (s3.1 + 1)), r19) trivial h))
  · have q9 := d_f hb7
    replace h := is_else (d_f hb7) h
    refine aw_exit ?_
    refine aq_then_exit ?_
    refine aq_then_exit ?_
    refine aq_in_exit ?_
    refine aq_end ?_
    obtain rfl := is_some h
    exact aq_finx (l := []) (xs := []) idn [] [(0, .var [.cell (.int .i64 s3.2)]), (1, .var [.cell (.int .i64 x2)])] rfl (by exact trivial) (by exact trivial) (by exact ⟨⟨_, rfl, ⟨ad_ren rfl, rfl, trivial⟩⟩, ⟨_, rfl, ⟨ad_ren rfl, rfl, trivial⟩⟩, trivial⟩) rfl (nk2 rfl rfl rfl) rfl rfl ⟨rfl, rfl⟩
theorem c_impl_ChanceAll {fu : Nat} {x0 : (List Int)} {x1 : Int} {r : (List Int) × Bool} (h : Is (p_impl_ChanceAll fu x0 x1) (some r)) :
    Scalar Try.prog 83 [.v (.arr 6 (.int .i64)) x0, .int .i64 x1] (.tup [.v (.arr 2 (.int .i64)) r.1, .bool r.2]) := by
  unfold p_impl_ChanceAll at h
  refine ac_enter ⟨23, 0⟩ Try.func83 rfl rfl rfl rfl rfl (fun Γ => ?_)
  refine aw_seq ?_
  refine aw_region ?_
  refine ao_eff trivial (e_box 0 rfl rfl rfl rfl rfl rfl) rfl ?_
  refine ao_eff trivial (e_box 1 rfl rfl rfl rfl rfl rfl) rfl ?_
  refine ao_eff trivial (e_alloc 2 (y := .v (.arr 2 (.int .i64)) ((List.replicate 2 0) : (List Int))) Try.zeroValue35 (fun ρ h M => ra_zero_arr (t := (.int .i64)) rfl) rfl rfl rfl rfl rfl) rfl ?_
  refine ao_read trivial (r_assign rfl) rfl ?_
  refine ao_nil ?_
  refine aq_then ?_
  refine aw_seq ?_
  refine aw_seq ?_
  refine aw_region ?_
  refine ao_read trivial (r_load_arr rfl Try.isAgg60 Try.sizeOf60 rfl rfl rfl) rfl ?_
  refine ao_scall trivial (scall (c_impl_IsDie (is_mk (rfl : p_impl_IsDie x0 = _))) rfl Try.func50 rfl rfl rfl rfl (fun σ => ⟨ad_ren rfl, trivial⟩)) rfl ?_
  refine ao_read trivial (r_not rfl) rfl ?_
  refine ao_read trivial (r_move rfl) rfl ?_
  refine ao_readG (x := .int .i64 x1) rfl (GV.F rfl) (fun hg1 => r_load_cell Try.isAgg3 rfl rfl rfl) rfl ?_
  refine ao_scallG (r := .bool (p_impl_isRolls x1)) rfl (GV.F rfl) (fun hg2 => SCall.strip 11 rfl (hg2) (scall (c_impl_isRolls (is_mk (rfl : p_impl_isRolls x1 = _))) rfl Try.func160 rfl rfl rfl rfl (fun σ => ⟨ad_ren rfl, trivial⟩))) rfl ?_
  refine ao_readG (x := .bool (!(p_impl_isRolls x1))) rfl (GV.F rfl) (fun hg3 => Reads.strip 12 rfl (hg3) (r_not rfl)) rfl ?_
  refine ao_read trivial (r_orB rfl rfl) rfl ?_
  refine ao_nil ?_
  refine aq_then ?_
  refine aw_cond rfl (fun hb4 => ?_) (fun hb4 => ?_)
  · replace h := is_if hb4 h
    refine aw_seq ?_
    refine aw_region ?_
    refine ao_read trivial (r_build_zero (t := (.int .i64)) Try.underlying35 Try.zeroValue35 Try.sizeOf3 rfl) rfl ?_
    refine ao_effS trivial (e_store rfl rfl rfl rfl Try.sizeOf35 rfl) ?_
    refine ao_read trivial (r_assign rfl) rfl ?_
    refine ao_nil ?_
    refine aq_then ?_
    refine aw_ret ?_
    refine aq_then_ret ?_
    refine aq_ret ?_
    obtain rfl := is_some h
    exact aq_finx (l := [.cell 4 35, .tmp 5]) (xs := [.v (.arr 2 (.int .i64)) ((List.replicate 2 0) : (List Int)), .bool false]) idn [.v (.arr 2 (.int .i64)) ((List.replicate 2 0) : (List Int)), .bool false] [] rfl (by exact ⟨⟨⟨_, _, rfl⟩, r_load_arr rfl Try.isAgg35 Try.sizeOf35 rfl rfl rfl⟩, rfl, trivial⟩) (by exact ⟨ad_ren rfl, ad_ren rfl, trivial⟩) (by exact trivial) rfl (nk rfl) rfl rfl ⟨rfl, rfl⟩
  · obtain ⟨q5, q6⟩ := or_f hb4
    replace h := is_else (ne_t hb4) h
    refine aw_skip ?_
    refine aq_then ?_
    refine aw_seq ?_
    refine aw_region ?_
    refine ao_eff trivial (e_alloc 3 (y := .int .i64 0) Try.zeroValue3 (fun ρ h M => rfl) rfl rfl rfl rfl rfl) rfl ?_
    refine ao_effS trivial (e_store rfl rfl rfl rfl Try.sizeOf3 rfl) ?_
    refine ao_nil ?_
    refine aq_then ?_
    refine aw_seq ?_
    refine aw_region ?_
    refine ao_read trivial (r_load_arr rfl Try.isAgg60 Try.sizeOf60 rfl rfl rfl) rfl ?_
    refine ao_read trivial (r_makeFunc (cs := [.tmp 6, .tmp 3]) rfl) rfl ?_
    obtain ⟨r7, r7h, h⟩ := is_bind h
    refine ao_call [3, 1] 4 trivial (c_impl_parts (is_mk r7h)) Try.func161 rfl rfl rfl rfl ⟨ad_ren rfl, ad_ren rfl, trivial⟩ ⟨⟨_, rfl, ⟨ad_ren rfl, rfl, trivial⟩⟩, ⟨_, rfl, ⟨ad_ren rfl, rfl, trivial⟩⟩, trivial⟩ rfl rfl rfl rfl rfl rfl rfl (fun r' H' hr => ?_)
    obtain ⟨rfl, rfl⟩ := hr
    refine ao_norm (y := .tup []) (H' := [(2, .var [.arr (.int .i64) 2 ((List.replicate 2 0) : (List Int))]), (0, .var [.arr (.int .i64) 6 x0]), (3, .var [.cell (.int .i64 r7)]), (1, .var [.cell (.int .i64 x1)])]) rfl rfl ?_
    refine ao_nil ?_
    refine aq_then ?_
    refine aw_seq ?_
    obtain ⟨r8, r8h, h⟩ := is_bind h
    obtain ⟨r9, r9h, h⟩ := is_bind h
    refine aw_draw 4 (by kernel_rfl) (by kernel_rfl) ?_
    refine an_read 0 (by kernel_rfl) (fun _ _ _ h => h) rfl (by kernel_rfl) trivial (r_load_cell Try.isAgg3 rfl rfl rfl) rfl ?_
    refine an_read 1 (by kernel_rfl) (fun _ _ _ h => h) rfl (by kernel_rfl) trivial (r_load_cell Try.isAgg3 rfl rfl rfl) rfl ?_
    refine an_scall 2 (by kernel_rfl) (fun _ _ _ h => h) rfl (by kernel_rfl) trivial (scall (c_impl_power (is_mk r8h)) rfl Try.func99 rfl rfl rfl rfl (fun σ => ⟨ad_ren rfl, trivial⟩)) rfl ?_
    refine an_scall 3 (by kernel_rfl) (fun _ _ _ h => h) rfl (by kernel_rfl) trivial (scall (c_impl_fraction (is_mk r9h)) rfl Try.func98 rfl rfl rfl rfl (fun σ => ⟨ad_ren rfl, ad_ren rfl, trivial⟩)) rfl ?_
    refine an_tail rfl rfl ?_
    refine ao_effS trivial (e_store rfl rfl rfl rfl Try.sizeOf35 rfl) ?_
    refine ao_read trivial (r_assign rfl) rfl ?_
    refine ao_nil ?_
    refine aq_then ?_
    refine aw_ret ?_
    refine aq_ret ?_
    obtain rfl := is_some h
    exact aq_finx (l := [.cell 4 35, .tmp 5]) (xs := [.v (.arr 2 (.int .i64)) r9, .bool true]) idn [.v (.arr 2 (.int .i64)) r9, .bool true] [] rfl (by exact ⟨⟨⟨_, _, rfl⟩, r_load_arr rfl Try.isAgg35 Try.sizeOf35 rfl rfl rfl⟩, rfl, trivial⟩) (by exact ⟨ad_ren rfl, ad_ren rfl, trivial⟩) (by exact trivial) rfl (nk rfl) rfl rfl ⟨rfl, rfl⟩
theorem c_impl_ChanceOfCounts {fu : Nat} {x0 : (List Int)} {x1 : (List Int)} {r : (List Int) × Bool} (h : Is (p_impl_ChanceOfCounts fu x0 x1) (some r)) :
    Scalar Try.prog 84 [.v (.arr 6 (.int .i64)) x0, .v (.slice (.int .i64)) x1] (.tup [.v (.arr 2 (.int .i64)) r.1, .bool r.2]) := by
  unfold p_impl_ChanceOfCounts at h
  refine ac_enter ⟨18, 0⟩ Try.func84 rfl rfl rfl rfl rfl (fun Γ => ?_)
  refine sl_len_m 1 (x1.length : Int) rfl rfl (fun hl1 => ?_)
  refine aw_seq ?_
  refine aw_region ?_
  refine ao_eff trivial (e_box 0 rfl rfl rfl rfl rfl rfl) rfl ?_
  refine ao_eff trivial (e_alloc 1 (y := .v (.arr 2 (.int .i64)) ((List.replicate 2 0) : (List Int))) Try.zeroValue35 (fun ρ h M => ra_zero_arr (t := (.int .i64)) rfl) rfl rfl rfl rfl rfl) rfl ?_
  refine ao_read trivial (r_assign rfl) rfl ?_
  refine ao_nil ?_
  refine aq_then ?_
  refine aw_seq ?_
  refine aw_seq ?_
  refine aw_region ?_
  refine ao_read trivial (r_load_arr rfl Try.isAgg60 Try.sizeOf60 rfl rfl rfl) rfl ?_
  refine ao_read trivial (r_move rfl) rfl ?_
  obtain ⟨r1, r1h, h⟩ := is_bind h
  refine ao_scall trivial (scall (c_impl_areCounts (is_mk r1h)) rfl Try.func136 rfl rfl rfl rfl (fun σ => ⟨ad_ren rfl, ad_ren rfl, trivial⟩)) rfl ?_
  refine ao_read trivial (r_not rfl) rfl ?_
  refine ao_nil ?_
  refine aq_then ?_
  refine aw_cond rfl (fun hb2 => ?_) (fun hb2 => ?_)
  · replace h := is_else (ne_t (not_t hb2)) h
    refine aw_seq ?_
    refine aw_region ?_
    refine ao_read trivial (r_build_zero (t := (.int .i64)) Try.underlying35 Try.zeroValue35 Try.sizeOf3 rfl) rfl ?_
    refine ao_effS trivial (e_store rfl rfl rfl rfl Try.sizeOf35 rfl) ?_
    refine ao_read trivial (r_assign rfl) rfl ?_
    refine ao_nil ?_
    refine aq_then ?_
    refine aw_ret ?_
    refine aq_then_ret ?_
    refine aq_ret ?_
    obtain rfl := is_some h
    exact aq_finx (l := [.cell 4 35, .tmp 5]) (xs := [.v (.arr 2 (.int .i64)) ((List.replicate 2 0) : (List Int)), .bool false]) idn [.v (.arr 2 (.int .i64)) ((List.replicate 2 0) : (List Int)), .bool false] [] rfl (by exact ⟨⟨⟨_, _, rfl⟩, r_load_arr rfl Try.isAgg35 Try.sizeOf35 rfl rfl rfl⟩, rfl, trivial⟩) (by exact ⟨ad_ren rfl, ad_ren rfl, trivial⟩) (by exact trivial) rfl (nk rfl) rfl rfl ⟨rfl, rfl⟩
  · replace h := is_if (not_f hb2) h
    refine aw_skip ?_
    refine aq_then ?_
    refine aw_seq ?_
    refine aw_region ?_
    refine ao_read trivial (r_load_arr rfl Try.isAgg60 Try.sizeOf60 rfl rfl rfl) rfl ?_
    refine ao_read trivial (r_move rfl) rfl ?_
    obtain ⟨r3, r3h, h⟩ := is_bind h
    refine ao_scall trivial (scall (c_impl_chance (is_mk r3h)) rfl Try.func147 rfl rfl rfl rfl (fun σ => ⟨ad_ren rfl, ad_ren rfl, trivial⟩)) rfl ?_
    refine ao_read trivial (r_move rfl) rfl ?_
    refine ao_scall trivial (scall (c_impl_total (is_mk (rfl : p_impl_total x1 = _))) rfl Try.func138 rfl rfl rfl rfl (fun σ => ⟨ad_ren rfl, trivial⟩)) rfl ?_
    obtain ⟨r4, r4h, h⟩ := is_bind h
    refine ao_scall trivial (scall (c_impl_power (is_mk r4h)) rfl Try.func99 rfl rfl rfl rfl (fun σ => ⟨ad_ren rfl, trivial⟩)) rfl ?_
    obtain ⟨r5, r5h, h⟩ := is_bind h
    refine ao_scall trivial (scall (c_impl_fraction (is_mk r5h)) rfl Try.func98 rfl rfl rfl rfl (fun σ => ⟨ad_ren rfl, ad_ren rfl, trivial⟩)) rfl ?_
    refine ao_effS trivial (e_store rfl rfl rfl rfl Try.sizeOf35 rfl) ?_
    refine ao_read trivial (r_assign rfl) rfl ?_
    refine ao_nil ?_
    refine aq_then ?_
    refine aw_ret ?_
    refine aq_ret ?_
    obtain rfl := is_some h
    exact aq_finx (l := [.cell 4 35, .tmp 5]) (xs := [.v (.arr 2 (.int .i64)) r5, .bool true]) idn [.v (.arr 2 (.int .i64)) r5, .bool true] [] rfl (by exact ⟨⟨⟨_, _, rfl⟩, r_load_arr rfl Try.isAgg35 Try.sizeOf35 rfl rfl rfl⟩, rfl, trivial⟩) (by exact ⟨ad_ren rfl, ad_ren rfl, trivial⟩) (by exact trivial) rfl (nk rfl) rfl rfl ⟨rfl, rfl⟩
theorem c_laws_vLess {x0 : (List Int)} {x1 : (List Int)} {r : Bool} (h : Is (p_laws_vLess x0 x1) r) :
    Scalar Try.prog 85 [.v (.arr 2 (.int .i64)) x0, .v (.arr 2 (.int .i64)) x1] (.bool r) := by
  unfold p_laws_vLess at h
  refine ac_enter ⟨16, 0⟩ Try.func85 rfl rfl rfl rfl rfl (fun Γ => ?_)
  refine aw_seq ?_
  refine aw_region ?_
  refine ao_eff trivial (e_box 0 rfl rfl rfl rfl rfl rfl) rfl ?_
  refine ao_eff trivial (e_box 1 rfl rfl rfl rfl rfl rfl) rfl ?_
  refine ao_read trivial (r_assign rfl) rfl ?_
  refine ao_nil ?_
  refine aq_then ?_
  refine aw_seq ?_
  refine aw_region ?_
  refine ao_read trivial (r_idxAddr_arr (i := 0) Try.underlying35 Try.sizeOf3 rfl rfl (show 0 ≤ 0 from by omega) (show 0 < (2 : Int) from by omega)) rfl ?_
  refine ao_read trivial (r_load_elema_int Try.isAgg3 Try.sizeOf3 rfl rfl rfl (show 0 < 2 from by omega)) rfl ?_
  refine ao_read trivial (r_idxAddr_arr (i := 1) Try.underlying35 Try.sizeOf3 rfl rfl (show 0 ≤ 1 from by omega) (show 1 < (2 : Int) from by omega)) rfl ?_
  refine ao_read trivial (r_load_elema_int Try.isAgg3 Try.sizeOf3 rfl rfl rfl (show 1 < 2 from by omega)) rfl ?_
  refine ao_read trivial (r_mul rfl rfl) rfl ?_
  refine ao_read trivial (r_idxAddr_arr (i := 0) Try.underlying35 Try.sizeOf3 rfl rfl (show 0 ≤ 0 from by omega) (show 0 < (2 : Int) from by omega)) rfl ?_
  refine ao_read trivial (r_load_elema_int Try.isAgg3 Try.sizeOf3 rfl rfl rfl (show 0 < 2 from by omega)) rfl ?_
  refine ao_read trivial (r_idxAddr_arr (i := 1) Try.underlying35 Try.sizeOf3 rfl rfl (show 0 ≤ 1 from by omega) (show 1 < (2 : Int) from by omega)) rfl ?_
  refine ao_read trivial (r_load_elema_int Try.isAgg3 Try.sizeOf3 rfl rfl rfl (show 1 < 2 from by omega)) rfl ?_
  refine ao_read trivial (r_mul rfl rfl) rfl ?_
  refine ao_read trivial (r_lss rfl rfl) rfl ?_
  refine ao_read trivial (r_assign rfl) rfl ?_
  refine ao_nil ?_
  refine aq_then ?_
  refine aw_ret ?_
  refine aq_ret ?_
  obtain rfl := is_eq h
  exact aq_finx (l := [.tmp 4]) (xs := [.bool (decide ((IntKind.wrap .i64 ((x0.getD 0 0) * (x1.getD 1 0))) < (IntKind.wrap .i64 ((x1.getD 0 0) * (x0.getD 1 0)))))]) idn [.bool (decide ((IntKind.wrap .i64 ((x0.getD 0 0) * (x1.getD 1 0))) < (IntKind.wrap .i64 ((x1.getD 0 0) * (x0.getD 1 0)))))] [] rfl (by exact ⟨rfl, trivial⟩) (by exact ⟨ad_ren rfl, trivial⟩) (by exact trivial) rfl (nk rfl) rfl rfl ⟨rfl, rfl⟩
theorem c_laws_FnTests {fu : Nat} {x0 : (List Int)} {r : Bool} (h : Is (p_laws_FnTests fu x0) (some r)) :
    Scalar Try.prog 6 [.v (.slice (.int .u8)) x0] (.bool r) := by
  unfold p_laws_FnTests at h
  refine ac_enter ⟨294, 0⟩ Try.func6 rfl rfl rfl rfl rfl (fun Γ => ?_)
  refine sl_len_m 0 (x0.length : Int) rfl rfl (fun hl0 => ?_)
  refine aw_seq ?_
  refine aw_region ?_
  refine ao_read trivial (r_assign rfl) rfl ?_
  refine ao_nil ?_
  refine aq_then ?_
  refine aw_seq ?_
  refine aw_seq ?_
  refine aw_region ?_
  refine ao_read trivial (r_move rfl) rfl ?_
  refine ao_scall trivial (scall (c_laws_vBig (is_mk (rfl : p_laws_vBig x0 = _))) rfl Try.func65 rfl rfl rfl rfl (fun σ => ⟨ad_ren rfl, trivial⟩)) rfl ?_
  refine ao_nil ?_
  refine aq_then ?_
  refine aw_cond rfl (fun hb1 => ?_) (fun hb1 => ?_)
  · replace h := is_if hb1 h
    refine aw_seq ?_
    refine aw_region ?_
    refine ao_read trivial (r_assign rfl) rfl ?_
    refine ao_nil ?_
    refine aq_then ?_
    refine aw_ret ?_
    refine aq_then_ret ?_
    refine aq_ret ?_
    obtain rfl := is_some h
    exact aq_finx (l := [.tmp 2]) (xs := [.bool true]) idn [.bool true] [] rfl (by exact ⟨rfl, trivial⟩) (by exact ⟨ad_ren rfl, trivial⟩) (by exact trivial) rfl (nk rfl) rfl rfl ⟨rfl, rfl⟩
  · replace h := is_else (ne_t hb1) h
    refine aw_skip ?_
    refine aq_then ?_
    refine aw_seq ?_
    refine aw_region ?_
    refine ao_read trivial (r_move rfl) rfl ?_
    obtain ⟨r2, r2h, h⟩ := is_bind h
    refine ao_call [] 0 trivial (c_spec_DrawChanceAsFar (is_mk r2h)) Try.func66 rfl rfl rfl rfl ⟨ad_ren rfl, trivial⟩ trivial rfl rfl rfl rfl rfl rfl rfl (fun r' H' hr => ?_)
    obtain ⟨rfl, rfl⟩ := hr
    refine ao_norm (y := .tup [.v (.arr 6 (.int .i64)) r2.1, .os 0]) (H' := [(0, .row (.int .i64) r2.2)]) rfl rfl ?_
    refine row_len_o 0 (r2.2.length : Int) rfl rfl (fun hr3 => ?_)
    refine ao_read trivial (r_move rfl) rfl ?_
    refine ao_read trivial (r_extract rfl rfl) rfl ?_
    refine ao_read trivial (r_extract rfl rfl) rfl ?_
    refine ao_eff trivial (e_alloc 1 (y := .v (.arr 6 (.int .i64)) ((List.replicate 6 0) : (List Int))) Try.zeroValue60 (fun ρ h M => ra_zero_arr (t := (.int .i64)) rfl) rfl rfl rfl rfl rfl) rfl ?_
    refine ao_effS trivial (e_store rfl rfl rfl rfl Try.sizeOf60 rfl) ?_
    refine ao_read trivial (r_assign rfl) rfl ?_
    refine ao_nil ?_
    refine aq_then ?_
    refine aw_seq ?_
    refine aw_region ?_
    refine ao_read trivial (r_load_arr rfl Try.isAgg60 Try.sizeOf60 rfl rfl rfl) rfl ?_
    refine ao_read trivial (r_move rfl) rfl ?_
    obtain ⟨r4, r4h, h⟩ := is_bind h
    refine ao_scall trivial (scall (c_impl_ChanceAsFar (is_mk r4h)) rfl Try.func67 rfl rfl rfl rfl (fun σ => ⟨ad_ren rfl, ad_os0 rfl, trivial⟩)) rfl ?_
    refine ao_read trivial (r_move rfl) rfl ?_
    refine ao_read trivial (r_extract rfl rfl) rfl ?_
    refine ao_read trivial (r_extract rfl rfl) rfl ?_
    refine ao_eff trivial (e_alloc 2 (y := .v (.arr 2 (.int .i64)) ((List.replicate 2 0) : (List Int))) Try.zeroValue35 (fun ρ h M => ra_zero_arr (t := (.int .i64)) rfl) rfl rfl rfl rfl rfl) rfl ?_
    refine ao_effS trivial (e_store rfl rfl rfl rfl Try.sizeOf35 rfl) ?_
    refine ao_read trivial (r_assign rfl) rfl ?_
    refine ao_nil ?_
    refine aq_then ?_
    refine aw_seq ?_
    refine aw_region ?_
    refine ao_read trivial (r_load_arr rfl Try.isAgg60 Try.sizeOf60 rfl rfl rfl) rfl ?_
    refine ao_read trivial (r_move rfl) rfl ?_
    obtain ⟨r5, r5h, h⟩ := is_bind h
    refine ao_scall trivial (scall (c_spec_ChanceAsFar (is_mk r5h)) rfl Try.func68 rfl rfl rfl rfl (fun σ => ⟨ad_ren rfl, ad_os0 rfl, trivial⟩)) rfl ?_
    refine ao_read trivial (r_move rfl) rfl ?_
    refine ao_read trivial (r_extract rfl rfl) rfl ?_
    refine ao_read trivial (r_extract rfl rfl) rfl ?_
    refine ao_eff trivial (e_alloc 3 (y := .v (.arr 2 (.int .i64)) ((List.replicate 2 0) : (List Int))) Try.zeroValue35 (fun ρ h M => ra_zero_arr (t := (.int .i64)) rfl) rfl rfl rfl rfl rfl) rfl ?_
    refine ao_effS trivial (e_store rfl rfl rfl rfl Try.sizeOf35 rfl) ?_
    refine ao_read trivial (r_assign rfl) rfl ?_
    refine ao_nil ?_
    refine aq_then ?_
    refine aw_seq ?_
    refine aw_region ?_
    refine ao_read trivial (r_load_arr rfl Try.isAgg60 Try.sizeOf60 rfl rfl rfl) rfl ?_
    refine ao_read trivial (r_move rfl) rfl ?_
    obtain ⟨r6, r6h, h⟩ := is_bind h
    refine ao_scall trivial (scall (c_impl_ChanceAsRare (is_mk r6h)) rfl Try.func69 rfl rfl rfl rfl (fun σ => ⟨ad_ren rfl, ad_os0 rfl, trivial⟩)) rfl ?_
    refine ao_read trivial (r_move rfl) rfl ?_
    refine ao_read trivial (r_extract rfl rfl) rfl ?_
    refine ao_read trivial (r_extract rfl rfl) rfl ?_
    refine ao_eff trivial (e_alloc 4 (y := .v (.arr 2 (.int .i64)) ((List.replicate 2 0) : (List Int))) Try.zeroValue35 (fun ρ h M => ra_zero_arr (t := (.int .i64)) rfl) rfl rfl rfl rfl rfl) rfl ?_
    refine ao_effS trivial (e_store rfl rfl rfl rfl Try.sizeOf35 rfl) ?_
    refine ao_read trivial (r_assign rfl) rfl ?_
    refine ao_nil ?_
    refine aq_then ?_
    refine aw_seq ?_
    refine aw_region ?_
    refine ao_read trivial (r_load_arr rfl Try.isAgg60 Try.sizeOf60 rfl rfl rfl) rfl ?_
    refine ao_read trivial (r_move rfl) rfl ?_
    obtain ⟨r7, r7h, h⟩ := is_bind h
    refine ao_scall trivial (scall (c_spec_ChanceAsRare (is_mk r7h)) rfl Try.func70 rfl rfl rfl rfl (fun σ => ⟨ad_ren rfl, ad_os0 rfl, trivial⟩)) rfl ?_
    refine ao_read trivial (r_move rfl) rfl ?_
    refine ao_read trivial (r_extract rfl rfl) rfl ?_
    refine ao_read trivial (r_extract rfl rfl) rfl ?_
    refine ao_eff trivial (e_alloc 5 (y := .v (.arr 2 (.int .i64)) ((List.replicate 2 0) : (List Int))) Try.zeroValue35 (fun ρ h M => ra_zero_arr (t := (.int .i64)) rfl) rfl rfl rfl rfl rfl) rfl ?_
    refine ao_effS trivial (e_store rfl rfl rfl rfl Try.sizeOf35 rfl) ?_
    refine ao_read trivial (r_assign rfl) rfl ?_
    refine ao_nil ?_
    refine aq_then ?_
    refine aw_seq ?_
    refine aw_region ?_
    refine ao_read trivial (r_move rfl) rfl ?_
    obtain ⟨r8, r8h, h⟩ := is_bind h
    refine ao_call [] 6 trivial (c_laws_vCut (is_mk r8h)) Try.func72 rfl rfl rfl rfl ⟨ad_ren rfl, ad_ren rfl, trivial⟩ trivial rfl rfl rfl rfl rfl rfl rfl (fun r' H' hr => ?_)
    obtain ⟨rfl, rfl⟩ := hr
    refine ao_norm (y := .os 6) (H' := [(5, .var [.arr (.int .i64) 2 r7.1]), (4, .var [.arr (.int .i64) 2 r6.1]), (3, .var [.arr (.int .i64) 2 r5.1]), (2, .var [.arr (.int .i64) 2 r4.1]), (1, .var [.arr (.int .i64) 6 r2.1]), (0, .row (.int .i64) r2.2), (6, .row (.int .u8) r8)]) rfl rfl ?_
    refine row_len_o 6 (r8.length : Int) rfl rfl (fun hr9 => ?_)
    obtain ⟨r10, r10h, h⟩ := is_bind h
    refine ao_call [] 7 trivial (c_spec_DrawWhichDie (is_mk r10h)) Try.func71 rfl rfl rfl rfl ⟨ad_os0 rfl, trivial⟩ trivial rfl rfl rfl rfl rfl rfl rfl (fun r' H' hr => ?_)
    obtain ⟨rfl, rfl⟩ := hr
    refine ao_norm (y := .tup [.os 7, .os 8, .os 9]) (H' := [(5, .var [.arr (.int .i64) 2 r7.1]), (4, .var [.arr (.int .i64) 2 r6.1]), (3, .var [.arr (.int .i64) 2 r5.1]), (2, .var [.arr (.int .i64) 2 r4.1]), (1, .var [.arr (.int .i64) 6 r2.1]), (0, .row (.int .i64) r2.2), (6, .row (.int .u8) r8), (7, .row (.arr 6 (.int .i64)) r10.1), (8, .row (.int .i64) r10.2.1), (9, .row (.int .i64) r10.2.2)]) rfl rfl ?_
    refine row_len_o 7 (r10.1.length : Int) rfl rfl (fun hr11 => ?_)
    refine row_len_o 8 (r10.2.1.length : Int) rfl rfl (fun hr12 => ?_)
    refine row_len_o 9 (r10.2.2.length : Int) rfl rfl (fun hr13 => ?_)
    refine ao_read trivial (r_move rfl) rfl ?_
    refine ao_read trivial (r_extract rfl rfl) rfl ?_
    refine ao_read trivial (r_extract rfl rfl) rfl ?_
    refine ao_read trivial (r_extract rfl rfl) rfl ?_
    refine ao_read trivial (r_assign rfl) rfl ?_
    refine ao_read trivial (r_assign rfl) rfl ?_
    refine ao_read trivial (r_assign rfl) rfl ?_
    refine ao_nil ?_
    refine aq_then ?_
    refine aw_seq ?_
    refine aw_region ?_
    refine ao_read trivial (r_move rfl) rfl ?_
    refine ao_read trivial (r_move rfl) rfl ?_
    refine ao_read trivial (r_move rfl) rfl ?_
    obtain ⟨r14, r14h, h⟩ := is_bind h
    refine ao_call [] 10 trivial (c_impl_WhichDie (is_mk r14h)) Try.func73 rfl rfl rfl rfl ⟨ad_os0 rfl, ad_os0 rfl, ad_os0 rfl, trivial⟩ trivial rfl rfl rfl rfl rfl rfl rfl (fun r' H' hr => ?_)
    obtain ⟨rfl, rfl⟩ := hr
    refine ao_norm (y := .tup [.os 10, .bool r14.2]) (H' := [(5, .var [.arr (.int .i64) 2 r7.1]), (4, .var [.arr (.int .i64) 2 r6.1]), (3, .var [.arr (.int .i64) 2 r5.1]), (2, .var [.arr (.int .i64) 2 r4.1]), (1, .var [.arr (.int .i64) 6 r2.1]), (0, .row (.int .i64) r2.2), (6, .row (.int .u8) r8), (7, .row (.arr 6 (.int .i64)) r10.1), (8, .row (.int .i64) r10.2.1), (9, .row (.int .i64) r10.2.2), (10, .row (.arr 2 (.int .i64)) r14.1)]) rfl rfl ?_
    refine row_len_o 10 (r14.1.length : Int) rfl rfl (fun hr15 => ?_)
    refine ao_read trivial (r_move rfl) rfl ?_
    refine ao_read trivial (r_extract rfl rfl) rfl ?_
    refine ao_read trivial (r_extract rfl rfl) rfl ?_
    refine ao_read trivial (r_assign rfl) rfl ?_
    refine ao_read trivial (r_assign rfl) rfl ?_
    refine ao_nil ?_
    refine aq_then ?_
    refine aw_seq ?_
    refine aw_region ?_
    refine ao_read trivial (r_move rfl) rfl ?_
    refine ao_read trivial (r_move rfl) rfl ?_
    refine ao_read trivial (r_move rfl) rfl ?_
    obtain ⟨r16, r16h, h⟩ := is_bind h
    refine ao_call [] 11 trivial (c_spec_WhichDie (is_mk r16h)) Try.func74 rfl rfl rfl rfl ⟨ad_os0 rfl, ad_os0 rfl, ad_os0 rfl, trivial⟩ trivial rfl rfl rfl rfl rfl rfl rfl (fun r' H' hr => ?_)
    obtain ⟨rfl, rfl⟩ := hr
    refine ao_norm (y := .tup [.os 11, .bool r16.2]) (H' := [(5, .var [.arr (.int .i64) 2 r7.1]), (4, .var [.arr (.int .i64) 2 r6.1]), (3, .var [.arr (.int .i64) 2 r5.1]), (2, .var [.arr (.int .i64) 2 r4.1]), (1, .var [.arr (.int .i64) 6 r2.1]), (0, .row (.int .i64) r2.2), (6, .row (.int .u8) r8), (7, .row (.arr 6 (.int .i64)) r10.1), (8, .row (.int .i64) r10.2.1), (9, .row (.int .i64) r10.2.2), (10, .row (.arr 2 (.int .i64)) r14.1), (11, .row (.arr 2 (.int .i64)) r16.1)]) rfl rfl ?_
    refine row_len_o 11 (r16.1.length : Int) rfl rfl (fun hr17 => ?_)
    refine ao_read trivial (r_move rfl) rfl ?_
    refine ao_read trivial (r_extract rfl rfl) rfl ?_
    refine ao_read trivial (r_extract rfl rfl) rfl ?_
    refine ao_read trivial (r_assign rfl) rfl ?_
    refine ao_read trivial (r_assign rfl) rfl ?_
    refine ao_nil ?_
    refine aq_then ?_
    refine aw_seq ?_
    refine aw_region ?_
    refine ao_read trivial (r_move rfl) rfl ?_
    obtain ⟨r18, r18h, h⟩ := is_bind h
    refine ao_call [] 12 trivial (c_laws_vCut (is_mk r18h)) Try.func72 rfl rfl rfl rfl ⟨ad_ren rfl, ad_ren rfl, trivial⟩ trivial rfl rfl rfl rfl rfl rfl rfl (fun r' H' hr => ?_)
    obtain ⟨rfl, rfl⟩ := hr
    refine ao_norm (y := .os 12) (H' := [(5, .var [.arr (.int .i64) 2 r7.1]), (4, .var [.arr (.int .i64) 2 r6.1]), (3, .var [.arr (.int .i64) 2 r5.1]), (2, .var [.arr (.int .i64) 2 r4.1]), (1, .var [.arr (.int .i64) 6 r2.1]), (0, .row (.int .i64) r2.2), (6, .row (.int .u8) r8), (7, .row (.arr 6 (.int .i64)) r10.1), (8, .row (.int .i64) r10.2.1), (9, .row (.int .i64) r10.2.2), (10, .row (.arr 2 (.int .i64)) r14.1), (11, .row (.arr 2 (.int .i64)) r16.1), (12, .row (.int .u8) r18)]) rfl rfl ?_
    refine row_len_o 12 (r18.length : Int) rfl rfl (fun hr19 => ?_)
    obtain ⟨r20, r20h, h⟩ := is_bind h
    refine ao_call [] 13 trivial (c_spec_DrawMoreLikely (is_mk r20h)) Try.func75 rfl rfl rfl rfl ⟨ad_os0 rfl, trivial⟩ trivial rfl rfl rfl rfl rfl rfl rfl (fun r' H' hr => ?_)
    obtain ⟨rfl, rfl⟩ := hr
    refine ao_norm (y := .tup [.v (.arr 6 (.int .i64)) r20.1, .v (.arr 6 (.int .i64)) r20.2.1, .os 13]) (H' := [(5, .var [.arr (.int .i64) 2 r7.1]), (4, .var [.arr (.int .i64) 2 r6.1]), (3, .var [.arr (.int .i64) 2 r5.1]), (2, .var [.arr (.int .i64) 2 r4.1]), (1, .var [.arr (.int .i64) 6 r2.1]), (0, .row (.int .i64) r2.2), (6, .row (.int .u8) r8), (7, .row (.arr 6 (.int .i64)) r10.1), (8, .row (.int .i64) r10.2.1), (9, .row (.int .i64) r10.2.2), (10, .row (.arr 2 (.int .i64)) r14.1), (11, .row (.arr 2 (.int .i64)) r16.1), (12, .row (.int .u8) r18), (13, .row (.int .i64) r20.2.2)]) rfl rfl ?_
    refine row_len_o 13 (r20.2.2.length : Int) rfl rfl (fun hr21 => ?_)
    refine ao_read trivial (r_move rfl) rfl ?_
    refine ao_read trivial (r_extract rfl rfl) rfl ?_
    refine ao_read trivial (r_extract rfl rfl) rfl ?_
    refine ao_read trivial (r_extract rfl rfl) rfl ?_
    refine ao_eff trivial (e_alloc 14 (y := .v (.arr 6 (.int .i64)) ((List.replicate 6 0) : (List Int))) Try.zeroValue60 (fun ρ h M => ra_zero_arr (t := (.int .i64)) rfl) rfl rfl rfl rfl rfl) rfl ?_
    refine ao_eff trivial (e_alloc 15 (y := .v (.arr 6 (.int .i64)) ((List.replicate 6 0) : (List Int))) Try.zeroValue60 (fun ρ h M => ra_zero_arr (t := (.int .i64)) rfl) rfl rfl rfl rfl rfl) rfl ?_
    refine ao_effS trivial (e_store rfl rfl rfl rfl Try.sizeOf60 rfl) ?_
    refine ao_effS trivial (e_store rfl rfl rfl rfl Try.sizeOf60 rfl) ?_
    refine ao_read trivial (r_assign rfl) rfl ?_
    refine ao_nil ?_
    refine aq_then ?_
    refine aw_seq ?_
    refine aw_region ?_
    refine ao_read trivial (r_load_arr rfl Try.isAgg60 Try.sizeOf60 rfl rfl rfl) rfl ?_
    refine ao_read trivial (r_load_arr rfl Try.isAgg60 Try.sizeOf60 rfl rfl rfl) rfl ?_
    refine ao_read trivial (r_move rfl) rfl ?_
    refine ao_scall trivial (scall (c_impl_MoreLikely (is_mk (rfl : p_impl_MoreLikely r20.1 r20.2.1 r20.2.2 = _))) rfl Try.func76 rfl rfl rfl rfl (fun σ => ⟨ad_ren rfl, ad_ren rfl, ad_os0 rfl, trivial⟩)) rfl ?_
    refine ao_read trivial (r_move rfl) rfl ?_
    refine ao_read trivial (r_extract rfl rfl) rfl ?_
    refine ao_read trivial (r_extract rfl rfl) rfl ?_
    refine ao_read trivial (r_assign rfl) rfl ?_
    refine ao_read trivial (r_assign rfl) rfl ?_
    refine ao_nil ?_
    refine aq_then ?_
    refine aw_seq ?_
    refine aw_region ?_
    refine ao_read trivial (r_load_arr rfl Try.isAgg60 Try.sizeOf60 rfl rfl rfl) rfl ?_
    refine ao_read trivial (r_load_arr rfl Try.isAgg60 Try.sizeOf60 rfl rfl rfl) rfl ?_
    refine ao_read trivial (r_move rfl) rfl ?_
    obtain ⟨r22, r22h, h⟩ := is_bind h
    refine ao_scall trivial (scall (c_spec_MoreLikely (is_mk r22h)) rfl Try.func77 rfl rfl rfl rfl (fun σ => ⟨ad_ren rfl, ad_ren rfl, ad_os0 rfl, trivial⟩)) rfl ?_
    refine ao_read trivial (r_move rfl) rfl ?_
    refine ao_read trivial (r_extract rfl rfl) rfl ?_
    refine ao_read trivial (r_extract rfl rfl) rfl ?_
    refine ao_read trivial (r_assign rfl) rfl ?_
    refine ao_read trivial (r_assign rfl) rfl ?_
    refine ao_nil ?_
    refine aq_then ?_
    refine aw_seq ?_
    refine aw_region ?_
    refine ao_read trivial (r_move rfl) rfl ?_
    obtain ⟨r23, r23h, h⟩ := is_bind h
    refine ao_scall trivial (scall (c_spec_DrawChanceMissing (is_mk r23h)) rfl Try.func78 rfl rfl rfl rfl (fun σ => ⟨ad_ren rfl, trivial⟩)) rfl ?_
    refine ao_read trivial (r_move rfl) rfl ?_
    refine ao_read trivial (r_extract rfl rfl) rfl ?_
    refine ao_read trivial (r_extract rfl rfl) rfl ?_
    refine ao_read trivial (r_extract rfl rfl) rfl ?_
    refine ao_eff trivial (e_alloc 16 (y := .v (.arr 6 (.int .i64)) ((List.replicate 6 0) : (List Int))) Try.zeroValue60 (fun ρ h M => ra_zero_arr (t := (.int .i64)) rfl) rfl rfl rfl rfl rfl) rfl ?_
    refine ao_effS trivial (e_store rfl rfl rfl rfl Try.sizeOf60 rfl) ?_
    refine ao_read trivial (r_assign rfl) rfl ?_
    refine ao_read trivial (r_assign rfl) rfl ?_
    refine ao_nil ?_
    refine aq_then ?_
    refine aw_seq ?_
    refine aw_region ?_
    refine ao_read trivial (r_load_arr rfl Try.isAgg60 Try.sizeOf60 rfl rfl rfl) rfl ?_
    refine ao_read trivial (r_move rfl) rfl ?_
    refine ao_read trivial (r_move rfl) rfl ?_
    obtain ⟨r24, r24h, h⟩ := is_bind h
    refine ao_scall trivial (scall (c_impl_ChanceMissing (is_mk r24h)) rfl Try.func79 rfl rfl rfl rfl (fun σ => ⟨ad_ren rfl, ad_ren rfl, ad_ren rfl, trivial⟩)) rfl ?_
    refine ao_read trivial (r_move rfl) rfl ?_
    refine ao_read trivial (r_extract rfl rfl) rfl ?_
    refine ao_read trivial (r_extract rfl rfl) rfl ?_
    refine ao_eff trivial (e_alloc 17 (y := .v (.arr 2 (.int .i64)) ((List.replicate 2 0) : (List Int))) Try.zeroValue35 (fun ρ h M => ra_zero_arr (t := (.int .i64)) rfl) rfl rfl rfl rfl rfl) rfl ?_
    refine ao_effS trivial (e_store rfl rfl rfl rfl Try.sizeOf35 rfl) ?_
    refine ao_read trivial (r_assign rfl) rfl ?_
    refine ao_nil ?_
    refine aq_then ?_
    refine aw_seq ?_
    refine aw_region ?_
    refine ao_read trivial (r_load_arr rfl Try.isAgg60 Try.sizeOf60 rfl rfl rfl) rfl ?_
    refine ao_read trivial (r_move rfl) rfl ?_
    refine ao_read trivial (r_move rfl) rfl ?_
    obtain ⟨r25, r25h, h⟩ := is_bind h
    refine ao_scall trivial (scall (c_spec_ChanceMissing (is_mk r25h)) rfl Try.func80 rfl rfl rfl rfl (fun σ => ⟨ad_ren rfl, ad_ren rfl, ad_ren rfl, trivial⟩)) rfl ?_
    refine ao_read trivial (r_move rfl) rfl ?_
    refine ao_read trivial (r_extract rfl rfl) rfl ?_
    refine ao_read trivial (r_extract rfl rfl) rfl ?_
    refine ao_eff trivial (e_alloc 18 (y := .v (.arr 2 (.int .i64)) ((List.replicate 2 0) : (List Int))) Try.zeroValue35 (fun ρ h M => ra_zero_arr (t := (.int .i64)) rfl) rfl rfl rfl rfl rfl) rfl ?_
    refine ao_effS trivial (e_store rfl rfl rfl rfl Try.sizeOf35 rfl) ?_
    refine ao_read trivial (r_assign rfl) rfl ?_
    refine ao_nil ?_
    refine aq_then ?_
    refine aw_seq ?_
    refine aw_seq ?_
    refine aw_region ?_
    refine ao_read trivial (r_load_arr rfl Try.isAgg35 Try.sizeOf35 rfl rfl rfl) rfl ?_
    refine ao_read trivial (r_load_arr rfl Try.isAgg35 Try.sizeOf35 rfl rfl rfl) rfl ?_
    refine ao_read trivial (r_eq_ints Try.underlying35 Try.underlying3 Try.isAgg3 (info_size Try.sizeOf3) (by kernel_rfl) rfl rfl rfl) rfl ?_
    refine ao_read trivial (r_move rfl) rfl ?_
    refine ao_readG (x := .bool r4.2) rfl (GV.F rfl) (fun hg26 => r_move rfl) rfl ?_
    refine ao_readG (x := .bool r5.2) rfl (GV.F rfl) (fun hg27 => r_move rfl) rfl ?_
    refine ao_readG (x := .bool (r4.2 != r5.2)) rfl (GV.F rfl) (fun hg28 => Reads.strip 139 rfl (hg28) (Reads.strip 140 rfl (hg28) (r_neq_bool Try.underlying4 rfl rfl))) rfl ?_
    refine ao_read trivial (r_orB rfl rfl) rfl ?_
    refine ao_read trivial (r_move rfl) rfl ?_
    refine ao_readG (x := .v (.arr 2 (.int .i64)) r6.1) rfl (GV.F rfl) (fun hg29 => by
          obtain ⟨q30, q31⟩ := or_f (not_t hg29)
          exact r_load_arr rfl Try.isAgg35 Try.sizeOf35 rfl rfl rfl) rfl ?_
    refine ao_readG (x := .v (.arr 2 (.int .i64)) r7.1) rfl (GV.F rfl) (fun hg32 => by
          obtain ⟨q33, q34⟩ := or_f (not_t hg32)
          exact r_load_arr rfl Try.isAgg35 Try.sizeOf35 rfl rfl rfl) rfl ?_
    refine ao_readG (x := .bool (!(decide (r6.1 = r7.1)))) rfl (GV.F rfl) (fun hg35 => by
          obtain ⟨q36, q37⟩ := or_f (not_t hg35)
          exact Reads.strip 144 rfl (hg35) (Reads.strip 145 rfl (hg35) (r_eq_ints Try.underlying35 Try.underlying3 Try.isAgg3 (info_size Try.sizeOf3) (by kernel_rfl) rfl rfl rfl))) rfl ?_
    refine ao_read trivial (r_orB rfl rfl) rfl ?_
    refine ao_read trivial (r_move rfl) rfl ?_
    refine ao_readG (x := .bool r6.2) rfl (GV.F rfl) (fun hg38 => by
          obtain ⟨q39, q40⟩ := or_f (not_t hg38)
          obtain ⟨q41, q42⟩ := or_f q39
          exact r_move rfl) rfl ?_
    refine ao_readG (x := .bool r7.2) rfl (GV.F rfl) (fun hg43 => by
          obtain ⟨q44, q45⟩ := or_f (not_t hg43)
          obtain ⟨q46, q47⟩ := or_f q44
          exact r_move rfl) rfl ?_
    refine ao_readG (x := .bool (r6.2 != r7.2)) rfl (GV.F rfl) (fun hg48 => by
          obtain ⟨q49, q50⟩ := or_f (not_t hg48)
          obtain ⟨q51, q52⟩ := or_f q49
          exact Reads.strip 149 rfl (hg48) (Reads.strip 150 rfl (hg48) (r_neq_bool Try.underlying4 rfl rfl))) rfl ?_
    refine ao_read trivial (r_orB rfl rfl) rfl ?_
    refine ao_read trivial (r_move rfl) rfl ?_
    refine ao_readG (x := .bool r14.2) rfl (GV.F rfl) (fun hg53 => by
          obtain ⟨q54, q55⟩ := or_f (not_t hg53)
          obtain ⟨q56, q57⟩ := or_f q54
          obtain ⟨q58, q59⟩ := or_f q56
          exact r_move rfl) rfl ?_
    refine ao_readG (x := .bool r16.2) rfl (GV.F rfl) (fun hg60 => by
          obtain ⟨q61, q62⟩ := or_f (not_t hg60)
          obtain ⟨q63, q64⟩ := or_f q61
          obtain ⟨q65, q66⟩ := or_f q63
          exact r_move rfl) rfl ?_
    refine ao_readG (x := .bool (r14.2 != r16.2)) rfl (GV.F rfl) (fun hg67 => by
          obtain ⟨q68, q69⟩ := or_f (not_t hg67)
          obtain ⟨q70, q71⟩ := or_f q68
          obtain ⟨q72, q73⟩ := or_f q70
          exact Reads.strip 154 rfl (hg67) (Reads.strip 155 rfl (hg67) (r_neq_bool Try.underlying4 rfl rfl))) rfl ?_
    refine ao_read trivial (r_orB rfl rfl) rfl ?_
    refine ao_read trivial (r_move rfl) rfl ?_
    refine ao_readG (x := .os 10) rfl (GV.F rfl) (fun hg74 => by
          obtain ⟨q75, q76⟩ := or_f (not_t hg74)
          obtain ⟨q77, q78⟩ := or_f q75
          obtain ⟨q79, q80⟩ := or_f q77
          obtain ⟨q81, q82⟩ := or_f q79
          exact r_move rfl) rfl ?_
    refine ao_readG (x := .os 11) rfl (GV.F rfl) (fun hg83 => by
          obtain ⟨q84, q85⟩ := or_f (not_t hg83)
          obtain ⟨q86, q87⟩ := or_f q84
          obtain ⟨q88, q89⟩ := or_f q86
          obtain ⟨q90, q91⟩ := or_f q88
          exact r_move rfl) rfl ?_
    refine ao_scallG (r := .bool (p_laws_vPairs r14.1 r16.1)) rfl (GV.F rfl) (fun hg92 => by
          obtain ⟨q93, q94⟩ := or_f (not_t hg92)
          obtain ⟨q95, q96⟩ := or_f q93
          obtain ⟨q97, q98⟩ := or_f q95
          obtain ⟨q99, q100⟩ := or_f q97
          exact SCall.strip 159 rfl (hg92) (SCall.strip 160 rfl (hg92) (scall (c_laws_vPairs (is_mk (rfl : p_laws_vPairs r14.1 r16.1 = _))) rfl Try.func81 rfl rfl rfl rfl (fun σ => ⟨ad_os0 rfl, ad_os0 rfl, trivial⟩)))) rfl ?_
    refine ao_readG (x := .bool (!(p_laws_vPairs r14.1 r16.1))) rfl (GV.F rfl) (fun hg101 => by
          obtain ⟨q102, q103⟩ := or_f (not_t hg101)
          obtain ⟨q104, q105⟩ := or_f q102
          obtain ⟨q106, q107⟩ := or_f q104
          obtain ⟨q108, q109⟩ := or_f q106
          exact Reads.strip 161 rfl (hg101) (r_not rfl)) rfl ?_
    refine ao_read trivial (r_orB rfl rfl) rfl ?_
    refine ao_read trivial (r_move rfl) rfl ?_
    refine ao_readG (x := .int .i64 ((p_impl_MoreLikely r20.1 r20.2.1 r20.2.2).1)) rfl (GV.F rfl) (fun hg110 => by
          obtain ⟨q111, q112⟩ := or_f (not_t hg110)
          obtain ⟨q113, q114⟩ := or_f q111
          obtain ⟨q115, q116⟩ := or_f q113
          obtain ⟨q117, q118⟩ := or_f q115
          obtain ⟨q119, q120⟩ := or_f q117
          exact r_move rfl) rfl ?_
    refine ao_readG (x := .int .i64 r22.1) rfl (GV.F rfl) (fun hg121 => by
          obtain ⟨q122, q123⟩ := or_f (not_t hg121)
          obtain ⟨q124, q125⟩ := or_f q122
          obtain ⟨q126, q127⟩ := or_f q124
          obtain ⟨q128, q129⟩ := or_f q126
          obtain ⟨q130, q131⟩ := or_f q128
          exact r_move rfl) rfl ?_
    refine ao_readG (x := .bool (!(decide ((p_impl_MoreLikely r20.1 r20.2.1 r20.2.2).1 = r22.1)))) rfl (GV.F rfl) (fun hg132 => by
          obtain ⟨q133, q134⟩ := or_f (not_t hg132)
          obtain ⟨q135, q136⟩ := or_f q133
          obtain ⟨q137, q138⟩ := or_f q135
          obtain ⟨q139, q140⟩ := or_f q137
          obtain ⟨q141, q142⟩ := or_f q139
          exact Reads.strip 165 rfl (hg132) (Reads.strip 166 rfl (hg132) (r_neq rfl rfl))) rfl ?_
    refine ao_read trivial (r_orB rfl rfl) rfl ?_
    refine ao_read trivial (r_move rfl) rfl ?_
    refine ao_readG (x := .bool ((p_impl_MoreLikely r20.1 r20.2.1 r20.2.2).2)) rfl (GV.F rfl) (fun hg143 => by
          obtain ⟨q144, q145⟩ := or_f (not_t hg143)
          obtain ⟨q146, q147⟩ := or_f q144
          obtain ⟨q148, q149⟩ := or_f q146
          obtain ⟨q150, q151⟩ := or_f q148
          obtain ⟨q152, q153⟩ := or_f q150
          obtain ⟨q154, q155⟩ := or_f q152
          have q156 := d_t (not_f q145)
          exact r_move rfl) rfl ?_
    refine ao_readG (x := .bool r22.2) rfl (GV.F rfl) (fun hg157 => by
          obtain ⟨q158, q159⟩ := or_f (not_t hg157)
          obtain ⟨q160, q161⟩ := or_f q158
          obtain ⟨q162, q163⟩ := or_f q160
          obtain ⟨q164, q165⟩ := or_f q162
          obtain ⟨q166, q167⟩ := or_f q164
          obtain ⟨q168, q169⟩ := or_f q166
          have q170 := d_t (not_f q159)
          exact r_move rfl) rfl ?_
    refine ao_readG (x := .bool (((p_impl_MoreLikely r20.1 r20.2.1 r20.2.2).2) != r22.2)) rfl (GV.F rfl) (fun hg171 => by
          obtain ⟨q172, q173⟩ := or_f (not_t hg171)
          obtain ⟨q174, q175⟩ := or_f q172
          obtain ⟨q176, q177⟩ := or_f q174
          obtain ⟨q178, q179⟩ := or_f q176
          obtain ⟨q180, q181⟩ := or_f q178
          obtain ⟨q182, q183⟩ := or_f q180
          have q184 := d_t (not_f q173)
          exact Reads.strip 170 rfl (hg171) (Reads.strip 171 rfl (hg171) (r_neq_bool Try.underlying4 rfl rfl))) rfl ?_
    refine ao_read trivial (r_orB rfl rfl) rfl ?_
    refine ao_read trivial (r_move rfl) rfl ?_
    refine ao_readG (x := .v (.arr 2 (.int .i64)) r24.1) rfl (GV.F rfl) (fun hg185 => by
          obtain ⟨q186, q187⟩ := or_f (not_t hg185)
          obtain ⟨q188, q189⟩ := or_f q186
          obtain ⟨q190, q191⟩ := or_f q188
          obtain ⟨q192, q193⟩ := or_f q190
          obtain ⟨q194, q195⟩ := or_f q192
          obtain ⟨q196, q197⟩ := or_f q194
          obtain ⟨q198, q199⟩ := or_f q196
          have q200 := d_t (not_f q189)
          exact r_load_arr rfl Try.isAgg35 Try.sizeOf35 rfl rfl rfl) rfl ?_
    refine ao_readG (x := .v (.arr 2 (.int .i64)) r25.1) rfl (GV.F rfl) (fun hg201 => by
          obtain ⟨q202, q203⟩ := or_f (not_t hg201)
          obtain ⟨q204, q205⟩ := or_f q202
          obtain ⟨q206, q207⟩ := or_f q204
          obtain ⟨q208, q209⟩ := or_f q206
          obtain ⟨q210, q211⟩ := or_f q208
          obtain ⟨q212, q213⟩ := or_f q210
          obtain ⟨q214, q215⟩ := or_f q212
          have q216 := d_t (not_f q205)
          exact r_load_arr rfl Try.isAgg35 Try.sizeOf35 rfl rfl rfl) rfl ?_
    refine ao_readG (x := .bool (!(decide (r24.1 = r25.1)))) rfl (GV.F rfl) (fun hg217 => by
          obtain ⟨q218, q219⟩ := or_f (not_t hg217)
          obtain ⟨q220, q221⟩ := or_f q218
          obtain ⟨q222, q223⟩ := or_f q220
          obtain ⟨q224, q225⟩ := or_f q222
          obtain ⟨q226, q227⟩ := or_f q224
          obtain ⟨q228, q229⟩ := or_f q226
          obtain ⟨q230, q231⟩ := or_f q228
          have q232 := d_t (not_f q221)
          exact Reads.strip 175 rfl (hg217) (Reads.strip 176 rfl (hg217) (r_eq_ints Try.underlying35 Try.underlying3 Try.isAgg3 (info_size Try.sizeOf3) (by kernel_rfl) rfl rfl rfl))) rfl ?_
    refine ao_read trivial (r_orB rfl rfl) rfl ?_
    refine ao_read trivial (r_move rfl) rfl ?_
    refine ao_readG (x := .bool r24.2) rfl (GV.F rfl) (fun hg233 => by
          obtain ⟨q234, q235⟩ := or_f (not_t hg233)
          obtain ⟨q236, q237⟩ := or_f q234
          obtain ⟨q238, q239⟩ := or_f q236
          obtain ⟨q240, q241⟩ := or_f q238
          obtain ⟨q242, q243⟩ := or_f q240
          obtain ⟨q244, q245⟩ := or_f q242
          obtain ⟨q246, q247⟩ := or_f q244
          obtain ⟨q248, q249⟩ := or_f q246
          have q250 := d_t (not_f q239)
          exact r_move rfl) rfl ?_
    refine ao_readG (x := .bool r25.2) rfl (GV.F rfl) (fun hg251 => by
          obtain ⟨q252, q253⟩ := or_f (not_t hg251)
          obtain ⟨q254, q255⟩ := or_f q252
          obtain ⟨q256, q257⟩ := or_f q254
          obtain ⟨q258, q259⟩ := or_f q256
          obtain ⟨q260, q261⟩ := or_f q258
          obtain ⟨q262, q263⟩ := or_f q260
          obtain ⟨q264, q265⟩ := or_f q262
          obtain ⟨q266, q267⟩ := or_f q264
          have q268 := d_t (not_f q257)
          exact r_move rfl) rfl ?_
    refine ao_readG (x := .bool (r24.2 != r25.2)) rfl (GV.F rfl) (fun hg269 => by
          obtain ⟨q270, q271⟩ := or_f (not_t hg269)
          obtain ⟨q272, q273⟩ := or_f q270
          obtain ⟨q274, q275⟩ := or_f q272
          obtain ⟨q276, q277⟩ := or_f q274
          obtain ⟨q278, q279⟩ := or_f q276
          obtain ⟨q280, q281⟩ := or_f q278
          obtain ⟨q282, q283⟩ := or_f q280
          obtain ⟨q284, q285⟩ := or_f q282
          have q286 := d_t (not_f q275)
          exact Reads.strip 180 rfl (hg269) (Reads.strip 181 rfl (hg269) (r_neq_bool Try.underlying4 rfl rfl))) rfl ?_
    refine ao_read trivial (r_orB rfl rfl) rfl ?_
    refine ao_read trivial (r_move rfl) rfl ?_
    refine ao_readG (x := .bool r4.2) rfl (GV.F rfl) (fun hg287 => by
          obtain ⟨q288, q289⟩ := or_f (not_t hg287)
          obtain ⟨q290, q291⟩ := or_f q288
          obtain ⟨q292, q293⟩ := or_f q290
          obtain ⟨q294, q295⟩ := or_f q292
          obtain ⟨q296, q297⟩ := or_f q294
          obtain ⟨q298, q299⟩ := or_f q296
          obtain ⟨q300, q301⟩ := or_f q298
          obtain ⟨q302, q303⟩ := or_f q300
          obtain ⟨q304, q305⟩ := or_f q302
          have q306 := d_t (not_f q295)
          exact r_move rfl) rfl ?_
    refine ao_readG (x := .bool r6.2) rfl (GV.F rfl) (fun hg307 => by
          obtain ⟨q308, q309⟩ := or_f (not_t hg307)
          obtain ⟨q310, q311⟩ := or_f q308
          obtain ⟨q312, q313⟩ := or_f q310
          obtain ⟨q314, q315⟩ := or_f q312
          obtain ⟨q316, q317⟩ := or_f q314
          obtain ⟨q318, q319⟩ := or_f q316
          obtain ⟨q320, q321⟩ := or_f q318
          obtain ⟨q322, q323⟩ := or_f q320
          obtain ⟨q324, q325⟩ := or_f q322
          have q326 := d_t (not_f q315)
          exact r_move rfl) rfl ?_
    refine ao_readG (x := .bool (r4.2 != r6.2)) rfl (GV.F rfl) (fun hg327 => by
          obtain ⟨q328, q329⟩ := or_f (not_t hg327)
          obtain ⟨q330, q331⟩ := or_f q328
          obtain ⟨q332, q333⟩ := or_f q330
          obtain ⟨q334, q335⟩ := or_f q332
          obtain ⟨q336, q337⟩ := or_f q334
          obtain ⟨q338, q339⟩ := or_f q336
          obtain ⟨q340, q341⟩ := or_f q338
          obtain ⟨q342, q343⟩ := or_f q340
          obtain ⟨q344, q345⟩ := or_f q342
          have q346 := d_t (not_f q335)
          exact Reads.strip 185 rfl (hg327) (Reads.strip 186 rfl (hg327) (r_neq_bool Try.underlying4 rfl rfl))) rfl ?_
    refine ao_read trivial (r_orB rfl rfl) rfl ?_
    refine ao_nil ?_
    refine aq_then ?_
    refine aw_cond rfl (fun hb347 => ?_) (fun hb347 => ?_)
    · replace h := is_if hb347 h
      refine aw_seq ?_
      refine aw_region ?_
      refine ao_read trivial (r_assign rfl) rfl ?_
      refine ao_nil ?_
      refine aq_then ?_
      refine aw_ret ?_
      refine aq_then_ret ?_
      refine aq_ret ?_
      obtain rfl := is_some h
      exact aq_finx (l := [.tmp 2]) (xs := [.bool false]) idn [.bool false] [] rfl (by exact ⟨rfl, trivial⟩) (by exact ⟨ad_ren rfl, trivial⟩) (by exact trivial) rfl (nk rfl) rfl rfl ⟨rfl, rfl⟩
    · obtain ⟨q348, q349⟩ := or_f hb347
      obtain ⟨q350, q351⟩ := or_f q348
      obtain ⟨q352, q353⟩ := or_f q350
      obtain ⟨q354, q355⟩ := or_f q352
      obtain ⟨q356, q357⟩ := or_f q354
      obtain ⟨q358, q359⟩ := or_f q356
      obtain ⟨q360, q361⟩ := or_f q358
      obtain ⟨q362, q363⟩ := or_f q360
      obtain ⟨q364, q365⟩ := or_f q362
      obtain ⟨q366, q367⟩ := or_f q364
      have q368 := d_t (not_f q357)
      replace h := is_else (ne_t hb347) h
      refine aw_skip ?_
      refine aq_then ?_
      refine aw_join (fun (s369 : Unit) => [(3, .ref 0 0), (4, .os 1), (5, .ref 2 0), (6, .bool r4.2), (9, .ref 3 0), (13, .os 4), (16, .os 5), (17, .bool r14.2), (27, .ref 6 0), (28, .int .i64 r23.2.1), (29, .int .i64 r23.2.2), (30, .ref 7 0), (31, .bool r24.2)]) (fun (s369 : Unit) => [(0, .var [.arr (.int .i64) 6 r2.1]), (1, .row (.int .i64) r2.2), (2, .var [.arr (.int .i64) 2 r4.1]), (3, .var [.arr (.int .i64) 2 r6.1]), (4, .row (.arr 6 (.int .i64)) r10.1), (5, .row (.arr 2 (.int .i64)) r14.1), (6, .var [.arr (.int .i64) 6 r23.1]), (7, .var [.arr (.int .i64) 2 r24.1])]) (fun (s369 : Unit) => True) h (fun s369 hI h => ?_) (fun h j371 => ?_)
      · refine aw_join (fun (s372 : Unit) => [(3, .ref 0 0), (4, .os 1), (5, .ref 2 0), (6, .bool r4.2), (9, .ref 3 0), (27, .ref 4 0), (28, .int .i64 r23.2.1), (29, .int .i64 r23.2.2), (30, .ref 5 0), (31, .bool r24.2)]) (fun (s372 : Unit) => [(0, .var [.arr (.int .i64) 6 r2.1]), (1, .row (.int .i64) r2.2), (2, .var [.arr (.int .i64) 2 r4.1]), (3, .var [.arr (.int .i64) 2 r6.1]), (4, .var [.arr (.int .i64) 6 r23.1]), (5, .var [.arr (.int .i64) 2 r24.1])]) (fun (s372 : Unit) => True) h (fun s372 hI h => ?_) (fun h j374 => ?_)
        · refine aw_join (fun (s375 : Unit) => [(3, .ref 0 0), (4, .os 1), (5, .ref 2 0), (6, .bool r4.2), (9, .ref 3 0)]) (fun (s375 : Unit) => [(0, .var [.arr (.int .i64) 6 r2.1]), (1, .row (.int .i64) r2.2), (2, .var [.arr (.int .i64) 2 r4.1]), (3, .var [.arr (.int .i64) 2 r6.1])]) (fun (s375 : Unit) => True) h (fun s375 hI h => ?_) (fun h j377 => ?_)
          · refine aw_seq ?_
            refine aw_seq ?_
            refine aw_region ?_
            refine ao_read trivial (r_move rfl) rfl ?_
            refine ao_read trivial (r_not rfl) rfl ?_
            refine ao_nil ?_
            refine aq_then ?_
            refine aw_cond rfl (fun hb378 => ?_) (fun hb378 => ?_)
            · replace h := is_else (ne_t (not_t hb378)) h
              refine aw_seq ?_
              refine aw_region ?_
              refine ao_read trivial (r_assign rfl) rfl ?_
              refine ao_nil ?_
              refine aq_then ?_
              refine aw_ret ?_
              refine aq_then_ret ?_
              refine aq_ret ?_
              obtain rfl := is_some h
              exact aq_finx (l := [.tmp 2]) (xs := [.bool true]) idn [.bool true] [] rfl (by exact ⟨rfl, trivial⟩) (by exact ⟨ad_ren rfl, trivial⟩) (by exact trivial) rfl (nk rfl) rfl rfl ⟨rfl, rfl⟩
            · replace h := is_if (not_f hb378) h
              refine aw_skip ?_
              refine aq_then ?_
              refine aw_seq ?_
              refine aw_region ?_
              refine ao_read trivial (r_load_arr rfl Try.isAgg60 Try.sizeOf60 rfl rfl rfl) rfl ?_
              refine ao_read trivial (r_move rfl) rfl ?_
              obtain ⟨r379, r379h, h⟩ := is_bind h
              refine ao_scall trivial (scall (c_impl_ChanceOfCounts (is_mk r379h)) rfl Try.func84 rfl rfl rfl rfl (fun σ => ⟨ad_ren rfl, ad_os0 rfl, trivial⟩)) rfl ?_
              refine ao_read trivial (r_move rfl) rfl ?_
              refine ao_read trivial (r_extract rfl rfl) rfl ?_
              refine ao_read trivial (r_extract rfl rfl) rfl ?_
              refine ao_eff trivial (e_alloc 4 (y := .v (.arr 2 (.int .i64)) ((List.replicate 2 0) : (List Int))) Try.zeroValue35 (fun ρ h M => ra_zero_arr (t := (.int .i64)) rfl) rfl rfl rfl rfl rfl) rfl ?_
              refine ao_effS trivial (e_store rfl rfl rfl rfl Try.sizeOf35 rfl) ?_
              refine ao_read trivial (r_assign rfl) rfl ?_
              refine ao_nil ?_
              refine aq_then ?_
              refine aw_seq ?_
              refine aw_region ?_
              refine ao_read trivial (r_move rfl) rfl ?_
              refine ao_read trivial (r_move rfl) rfl ?_
              refine ao_readG (x := .v (.arr 2 (.int .i64)) r4.1) rfl (GV.T rfl) (fun hg380 => r_load_arr rfl Try.isAgg35 Try.sizeOf35 rfl rfl rfl) rfl ?_
              refine ao_readG (x := .v (.arr 2 (.int .i64)) r379.1) rfl (GV.T rfl) (fun hg381 => r_load_arr rfl Try.isAgg35 Try.sizeOf35 rfl rfl rfl) rfl ?_
              refine ao_scallG (r := .bool (p_laws_vLess r4.1 r379.1)) rfl (GV.T rfl) (fun hg382 => SCall.strip 271 rfl (hg382) (SCall.strip 272 rfl (hg382) (scall (c_laws_vLess (is_mk (rfl : p_laws_vLess r4.1 r379.1 = _))) rfl Try.func85 rfl rfl rfl rfl (fun σ => ⟨ad_ren rfl, ad_ren rfl, trivial⟩)))) rfl ?_
              refine ao_readG (x := .bool (!(p_laws_vLess r4.1 r379.1))) rfl (GV.T rfl) (fun hg383 => Reads.strip 273 rfl (hg383) (r_not rfl)) rfl ?_
              refine ao_read trivial (r_andB rfl rfl) rfl ?_
              refine ao_read trivial (r_move rfl) rfl ?_
              refine ao_readG (x := .v (.arr 2 (.int .i64)) r6.1) rfl (GV.T rfl) (fun hg384 => by
                    obtain ⟨q385, q386⟩ := and_t hg384
                    exact r_load_arr rfl Try.isAgg35 Try.sizeOf35 rfl rfl rfl) rfl ?_
              refine ao_readG (x := .v (.arr 2 (.int .i64)) r379.1) rfl (GV.T rfl) (fun hg387 => by
                    obtain ⟨q388, q389⟩ := and_t hg387
                    exact r_load_arr rfl Try.isAgg35 Try.sizeOf35 rfl rfl rfl) rfl ?_
              refine ao_scallG (r := .bool (p_laws_vLess r6.1 r379.1)) rfl (GV.T rfl) (fun hg390 => by
                    obtain ⟨q391, q392⟩ := and_t hg390
                    exact SCall.strip 277 rfl (hg390) (SCall.strip 278 rfl (hg390) (scall (c_laws_vLess (is_mk (rfl : p_laws_vLess r6.1 r379.1 = _))) rfl Try.func85 rfl rfl rfl rfl (fun σ => ⟨ad_ren rfl, ad_ren rfl, trivial⟩)))) rfl ?_
              refine ao_readG (x := .bool (!(p_laws_vLess r6.1 r379.1))) rfl (GV.T rfl) (fun hg393 => by
                    obtain ⟨q394, q395⟩ := and_t hg393
                    exact Reads.strip 279 rfl (hg393) (r_not rfl)) rfl ?_
              refine ao_read trivial (r_andB rfl rfl) rfl ?_
              refine ao_read trivial (r_move rfl) rfl ?_
              refine ao_readG (x := .v (.arr 2 (.int .i64)) ([1, 1] : (List Int))) rfl (GV.T rfl) (fun hg396 => by
                    obtain ⟨q397, q398⟩ := and_t hg396
                    obtain ⟨q399, q400⟩ := and_t q397
                    exact r_build_arr (l := [(0, .const (.int .i64 1)), (1, .const (.int .i64 1))]) (t := (.int .i64)) ([1, 1] : (List Int)) rfl Try.underlying35 Try.zeroValue35 Try.sizeOf3 rfl rfl rfl rfl) rfl ?_
              refine ao_readG (x := .v (.arr 2 (.int .i64)) r4.1) rfl (GV.T rfl) (fun hg401 => by
                    obtain ⟨q402, q403⟩ := and_t hg401
                    obtain ⟨q404, q405⟩ := and_t q402
                    exact r_load_arr rfl Try.isAgg35 Try.sizeOf35 rfl rfl rfl) rfl ?_
              refine ao_scallG (r := .bool (p_laws_vLess [1, 1] r4.1)) rfl (GV.T rfl) (fun hg406 => by
                    obtain ⟨q407, q408⟩ := and_t hg406
                    obtain ⟨q409, q410⟩ := and_t q407
                    exact SCall.strip 283 rfl (hg406) (SCall.strip 284 rfl (hg406) (scall (c_laws_vLess (is_mk (rfl : p_laws_vLess [1, 1] r4.1 = _))) rfl Try.func85 rfl rfl rfl rfl (fun σ => ⟨ad_ren rfl, ad_ren rfl, trivial⟩)))) rfl ?_
              refine ao_readG (x := .bool (!(p_laws_vLess [1, 1] r4.1))) rfl (GV.T rfl) (fun hg411 => by
                    obtain ⟨q412, q413⟩ := and_t hg411
                    obtain ⟨q414, q415⟩ := and_t q412
                    exact Reads.strip 285 rfl (hg411) (r_not rfl)) rfl ?_
              refine ao_read trivial (r_andB rfl rfl) rfl ?_
              refine ao_read trivial (r_move rfl) rfl ?_
              refine ao_readG (x := .v (.arr 2 (.int .i64)) ([1, 1] : (List Int))) rfl (GV.T rfl) (fun hg416 => by
                    obtain ⟨q417, q418⟩ := and_t hg416
                    obtain ⟨q419, q420⟩ := and_t q417
                    obtain ⟨q421, q422⟩ := and_t q419
                    exact r_build_arr (l := [(0, .const (.int .i64 1)), (1, .const (.int .i64 1))]) (t := (.int .i64)) ([1, 1] : (List Int)) rfl Try.underlying35 Try.zeroValue35 Try.sizeOf3 rfl rfl rfl rfl) rfl ?_
              refine ao_readG (x := .v (.arr 2 (.int .i64)) r6.1) rfl (GV.T rfl) (fun hg423 => by
                    obtain ⟨q424, q425⟩ := and_t hg423
                    obtain ⟨q426, q427⟩ := and_t q424
                    obtain ⟨q428, q429⟩ := and_t q426
                    exact r_load_arr rfl Try.isAgg35 Try.sizeOf35 rfl rfl rfl) rfl ?_
              refine ao_scallG (r := .bool (p_laws_vLess [1, 1] r6.1)) rfl (GV.T rfl) (fun hg430 => by
                    obtain ⟨q431, q432⟩ := and_t hg430
                    obtain ⟨q433, q434⟩ := and_t q431
                    obtain ⟨q435, q436⟩ := and_t q433
                    exact SCall.strip 289 rfl (hg430) (SCall.strip 290 rfl (hg430) (scall (c_laws_vLess (is_mk (rfl : p_laws_vLess [1, 1] r6.1 = _))) rfl Try.func85 rfl rfl rfl rfl (fun σ => ⟨ad_ren rfl, ad_ren rfl, trivial⟩)))) rfl ?_
              refine ao_readG (x := .bool (!(p_laws_vLess [1, 1] r6.1))) rfl (GV.T rfl) (fun hg437 => by
                    obtain ⟨q438, q439⟩ := and_t hg437
                    obtain ⟨q440, q441⟩ := and_t q438
                    obtain ⟨q442, q443⟩ := and_t q440
                    exact Reads.strip 291 rfl (hg437) (r_not rfl)) rfl ?_
              refine ao_read trivial (r_andB rfl rfl) rfl ?_
              refine ao_read trivial (r_assign rfl) rfl ?_
              refine ao_nil ?_
              refine aq_then ?_
              refine aw_ret ?_
              refine aq_ret ?_
              obtain rfl := is_some h
              exact aq_finx (l := [.tmp 2]) (xs := [.bool ((((r379.2 && (!(p_laws_vLess r4.1 r379.1))) && (!(p_laws_vLess r6.1 r379.1))) && (!(p_laws_vLess [1, 1] r4.1))) && (!(p_laws_vLess [1, 1] r6.1)))]) idn [.bool ((((r379.2 && (!(p_laws_vLess r4.1 r379.1))) && (!(p_laws_vLess r6.1 r379.1))) && (!(p_laws_vLess [1, 1] r4.1))) && (!(p_laws_vLess [1, 1] r6.1)))] [] rfl (by exact ⟨rfl, trivial⟩) (by exact ⟨ad_ren rfl, trivial⟩) (by exact trivial) rfl (nk rfl) rfl rfl ⟨rfl, rfl⟩
          · refine aw_seq ?_
            refine aw_region ?_
            refine ao_read trivial (r_move rfl) rfl ?_
            refine ao_read trivial (r_move rfl) rfl ?_
            refine ao_readG (x := .int .i64 r23.2.2) rfl (GV.T rfl) (fun hg444 => r_move rfl) rfl ?_
            refine ao_readG (x := .bool (decide (r23.2.2 = 0))) rfl (GV.T rfl) (fun hg445 => Reads.strip 245 rfl (hg445) (r_eql rfl rfl)) rfl ?_
            refine ao_read trivial (r_andB rfl rfl) rfl ?_
            refine ao_nil ?_
            refine aq_then ?_
            refine aw_cond rfl (fun hb446 => ?_) (fun hb446 => ?_)
            · obtain ⟨q447, q448⟩ := and_t hb446
              have q449 := d_t q448
              replace h := is_if hb446 h
              refine aw_seq ?_
              refine aw_region ?_
              refine ao_read trivial (r_load_arr rfl Try.isAgg60 Try.sizeOf60 rfl rfl rfl) rfl ?_
              refine ao_read trivial (r_move rfl) rfl ?_
              obtain ⟨r450, r450h, h⟩ := is_bind h
              refine ao_scall trivial (scall (c_impl_ChanceAll (is_mk r450h)) rfl Try.func83 rfl rfl rfl rfl (fun σ => ⟨ad_ren rfl, ad_ren rfl, trivial⟩)) rfl ?_
              refine ao_read trivial (r_move rfl) rfl ?_
              refine ao_read trivial (r_extract rfl rfl) rfl ?_
              refine ao_read trivial (r_extract rfl rfl) rfl ?_
              refine ao_eff trivial (e_alloc 6 (y := .v (.arr 2 (.int .i64)) ((List.replicate 2 0) : (List Int))) Try.zeroValue35 (fun ρ h M => ra_zero_arr (t := (.int .i64)) rfl) rfl rfl rfl rfl rfl) rfl ?_
              refine ao_effS trivial (e_store rfl rfl rfl rfl Try.sizeOf35 rfl) ?_
              refine ao_read trivial (r_assign rfl) rfl ?_
              refine ao_nil ?_
              refine aq_then ?_
              refine aw_seq ?_
              refine aw_region ?_
              refine ao_read trivial (r_move rfl) rfl ?_
              refine ao_read trivial (r_not rfl) rfl ?_
              refine ao_read trivial (r_move rfl) rfl ?_
              refine ao_readG (x := .v (.arr 2 (.int .i64)) r450.1) rfl (GV.F rfl) (fun hg451 => r_load_arr rfl Try.isAgg35 Try.sizeOf35 rfl rfl rfl) rfl ?_
              refine ao_readG (x := .v (.arr 2 (.int .i64)) r24.1) rfl (GV.F rfl) (fun hg452 => r_load_arr rfl Try.isAgg35 Try.sizeOf35 rfl rfl rfl) rfl ?_
              refine ao_readG (x := .bool (!(decide (r450.1 = r24.1)))) rfl (GV.F rfl) (fun hg453 => Reads.strip 257 rfl (hg453) (Reads.strip 258 rfl (hg453) (r_eq_ints Try.underlying35 Try.underlying3 Try.isAgg3 (info_size Try.sizeOf3) (by kernel_rfl) rfl rfl rfl))) rfl ?_
              refine ao_read trivial (r_orB rfl rfl) rfl ?_
              refine ao_nil ?_
              refine aq_then ?_
              refine aw_cond rfl (fun hb454 => ?_) (fun hb454 => ?_)
              · replace h := is_if hb454 h
                refine aw_seq ?_
                refine aw_region ?_
                refine ao_read trivial (r_assign rfl) rfl ?_
                refine ao_nil ?_
                refine aq_then ?_
                refine aw_ret ?_
                refine aq_then_ret ?_
                refine aq_ret ?_
                obtain rfl := is_some h
                exact aq_finx (l := [.tmp 2]) (xs := [.bool false]) idn [.bool false] [] rfl (by exact ⟨rfl, trivial⟩) (by exact ⟨ad_ren rfl, trivial⟩) (by exact trivial) rfl (nk rfl) rfl rfl ⟨rfl, rfl⟩
              · obtain ⟨q455, q456⟩ := or_f hb454
                replace h := is_else (ne_t hb454) h
                refine aw_skip ?_
                exact aq_then (AW.sub (sub_mk idn (by exact ⟨⟨_, rfl, ad_ren rfl⟩, ⟨_, rfl, ad_ren rfl⟩, ⟨_, rfl, ad_ren rfl⟩, ⟨_, rfl, ad_ren rfl⟩, ⟨_, rfl, ad_ren rfl⟩, trivial⟩) (by exact ⟨⟨_, rfl, ⟨rfl, trivial⟩⟩, ⟨_, rfl, rfl⟩, ⟨_, rfl, ⟨rfl, trivial⟩⟩, ⟨_, rfl, ⟨rfl, trivial⟩⟩, trivial⟩) (by rfl) (nk rfl)) (j377 () trivial h))
            · replace h := is_else (ne_t hb446) h
              refine aw_skip ?_
              exact aq_then (AW.sub (sub_mk idn (by exact ⟨⟨_, rfl, ad_ren rfl⟩, ⟨_, rfl, ad_ren rfl⟩, ⟨_, rfl, ad_ren rfl⟩, ⟨_, rfl, ad_ren rfl⟩, ⟨_, rfl, ad_ren rfl⟩, trivial⟩) (by exact ⟨⟨_, rfl, ⟨rfl, trivial⟩⟩, ⟨_, rfl, rfl⟩, ⟨_, rfl, ⟨rfl, trivial⟩⟩, ⟨_, rfl, ⟨rfl, trivial⟩⟩, trivial⟩) (by rfl) (nk rfl)) (j377 () trivial h))
        · refine aw_seq ?_
          refine aw_region ?_
          refine ao_read trivial (r_move rfl) rfl ?_
          refine ao_nil ?_
          refine aq_then ?_
          refine aw_cond rfl (fun hb457 => ?_) (fun hb457 => ?_)
          · replace h := is_if hb457 h
            refine aw_seq ?_
            refine aw_region ?_
            refine ao_read trivial (r_build_arr (l := [(0, .const (.int .i64 0)), (1, .const (.int .i64 1))]) (t := (.int .i64)) ([0, 1] : (List Int)) rfl Try.underlying35 Try.zeroValue35 Try.sizeOf3 rfl rfl rfl rfl) rfl ?_
            refine ao_eff trivial (e_alloc 8 (y := .v (.arr 2 (.int .i64)) ((List.replicate 2 0) : (List Int))) Try.zeroValue35 (fun ρ h M => ra_zero_arr (t := (.int .i64)) rfl) rfl rfl rfl rfl rfl) rfl ?_
            refine ao_effS trivial (e_store rfl rfl rfl rfl Try.sizeOf35 rfl) ?_
            refine ao_nil ?_
            refine aq_then ?_
            refine aw_seq ?_
            refine aw_seq ?_
            refine aw_region ?_
            refine ao_read trivial (r_assign rfl) rfl ?_
            refine ao_nil ?_
            refine aq_then ?_
            refine aw_block ?_
            refine aw_loop (AL.sub (fr' := [(3, .ref 0 0), (4, .os 1), (5, .ref 2 0), (6, .bool r4.2), (9, .ref 3 0), (13, .os 4), (16, .os 5), (27, .ref 6 0), (28, .int .i64 r23.2.1), (29, .int .i64 r23.2.2), (30, .ref 7 0), (31, .bool r24.2), (36, .ref 8 0), (37, .int .i64 0)]) (H' := [(0, .var [.arr (.int .i64) 6 r2.1]), (1, .row (.int .i64) r2.2), (2, .var [.arr (.int .i64) 2 r4.1]), (3, .var [.arr (.int .i64) 2 r6.1]), (4, .row (.arr 6 (.int .i64)) r10.1), (5, .row (.arr 2 (.int .i64)) r14.1), (6, .var [.arr (.int .i64) 6 r23.1]), (7, .var [.arr (.int .i64) 2 r24.1]), (8, .var [.arr (.int .i64) 2 ([0, 1] : (List Int))])]) (sub_mk idn (by exact ⟨⟨_, rfl, ad_ren rfl⟩, ⟨_, rfl, ad_ren rfl⟩, ⟨_, rfl, ad_ren rfl⟩, ⟨_, rfl, ad_ren rfl⟩, ⟨_, rfl, ad_ren rfl⟩, ⟨_, rfl, ad_ren rfl⟩, ⟨_, rfl, ad_ren rfl⟩, ⟨_, rfl, ad_ren rfl⟩, ⟨_, rfl, ad_ren rfl⟩, ⟨_, rfl, ad_ren rfl⟩, ⟨_, rfl, ad_ren rfl⟩, ⟨_, rfl, ad_ren rfl⟩, ⟨_, rfl, ad_ren rfl⟩, ⟨_, rfl, ad_ren rfl⟩, trivial⟩) (by exact ⟨⟨_, rfl, ⟨rfl, trivial⟩⟩, ⟨_, rfl, rfl⟩, ⟨_, rfl, ⟨rfl, trivial⟩⟩, ⟨_, rfl, ⟨rfl, trivial⟩⟩, ⟨_, rfl, rfl⟩, ⟨_, rfl, rfl⟩, ⟨_, rfl, ⟨rfl, trivial⟩⟩, ⟨_, rfl, ⟨rfl, trivial⟩⟩, ⟨_, rfl, ⟨rfl, trivial⟩⟩, trivial⟩) (by rfl) (nk rfl)) (al_cnt (fun i459 (s458 : (List Int)) => [(3, .ref 0 0), (4, .os 1), (5, .ref 2 0), (6, .bool r4.2), (9, .ref 3 0), (13, .os 4), (16, .os 5), (27, .ref 6 0), (28, .int .i64 r23.2.1), (29, .int .i64 r23.2.2), (30, .ref 7 0), (31, .bool r24.2), (36, .ref 8 0), (37, .int .i64 i459)]) (fun i459 (s458 : (List Int)) => [(0, .var [.arr (.int .i64) 6 r2.1]), (1, .row (.int .i64) r2.2), (2, .var [.arr (.int .i64) 2 r4.1]), (3, .var [.arr (.int .i64) 2 r6.1]), (4, .row (.arr 6 (.int .i64)) r10.1), (5, .row (.arr 2 (.int .i64)) r14.1), (6, .var [.arr (.int .i64) 6 r23.1]), (7, .var [.arr (.int .i64) 2 r24.1]), (8, .var [.arr (.int .i64) 2 s458])]) (fun d i459 (s458 : (List Int)) => d = Int.toNat ((r14.1.length : Int) - i459) ∧ 0 ≤ i459 ∧ i459 ≤ (r14.1.length : Int)) h ⟨rfl, (by (try simp only [List.length_set, List.length_append, List.length_cons, List.length_nil, List.length_replicate, List.length_take, List.length_drop]) <;> omega), (by (try simp only [List.length_set, List.length_append, List.length_cons, List.length_nil, List.length_replicate, List.length_take, List.length_drop]) <;> omega)⟩ (fun d460 i459 s458 hI h ih460 => ?_)))
            obtain ⟨hd, _, _⟩ := hI
            refine al_round ?_
            refine aw_seq ?_
            refine aw_seq ?_
            refine aw_region ?_
            refine ao_read trivial (r_move rfl) rfl ?_
            refine ao_read trivial (r_move rfl) rfl ?_
            refine ao_read trivial (r_len_osm (r14.1.length : Int) Try.underlying83 rfl rfl rfl) rfl ?_
            refine ao_read trivial (r_lss rfl rfl) rfl ?_
            refine ao_nil ?_
            refine aq_then ?_
            refine aw_cond rfl (fun hb462 => ?_) (fun hb462 => ?_)
            · have q463 := d_t hb462
              obtain ⟨d460, rfl⟩ : ∃ e, d460 = e + 1 := ⟨d460 - 1, by omega⟩
              replace h := is_cntS h
              refine aw_skip ?_
              refine aq_then ?_
              refine aw_seq ?_
              refine aw_block ?_
              refine aw_seq ?_
              refine aw_seq ?_
              refine aw_region ?_
              refine ao_read trivial (r_move rfl) rfl ?_
              refine ao_read trivial (r_move rfl) rfl ?_
              refine ao_read trivial (r_idxAddr_os Try.underlying83 Try.sizeOf35 rfl rfl rfl (show 0 ≤ i459 from by omega) (show i459 < (r14.1.length : Int) from by omega)) rfl ?_
              refine ao_read trivial (r_idxAddr_elem (i := 1) Try.underlying35 Try.sizeOf3 rfl rfl (by omega) (by omega)) rfl ?_
              refine ao_read trivial (r_load_elem2_int (m := 2) Try.isAgg3 Try.sizeOf3 rfl rfl rfl (show i459.toNat < r14.1.length from by omega) rfl (by omega) rfl) rfl ?_
              refine ao_read trivial (r_lss rfl rfl) rfl ?_
              refine ao_read trivial (r_move rfl) rfl ?_
              refine ao_readG (x := .os 5) rfl (GV.F rfl) (fun hg465 => by
                    have q466 : ¬ (((r14.1.getD i459.toNat (List.replicate 2 0)).getD 1 0) < 1) := d_f (not_t hg465)
                    exact r_move rfl) rfl ?_
              refine ao_readG (x := .int .i64 i459) rfl (GV.F rfl) (fun hg467 => by
                    have q468 : ¬ (((r14.1.getD i459.toNat (List.replicate 2 0)).getD 1 0) < 1) := d_f (not_t hg467)
                    exact r_move rfl) rfl ?_
              refine ao_readG (x := .elem 5 0 2 i459.toNat) rfl (GV.F rfl) (fun hg469 => by
                    have q470 : ¬ (((r14.1.getD i459.toNat (List.replicate 2 0)).getD 1 0) < 1) := d_f (not_t hg469)
                    exact Reads.strip 220 rfl (hg469) (Reads.strip 221 rfl (hg469) (r_idxAddr_os Try.underlying83 Try.sizeOf35 rfl rfl rfl (show 0 ≤ i459 from by omega) (show i459 < (r14.1.length : Int) from by omega)))) rfl ?_
              refine ao_readG (x := .elem2 5 0 2 i459.toNat 1 0) rfl (GV.F rfl) (fun hg471 => by
                    have q472 : ¬ (((r14.1.getD i459.toNat (List.replicate 2 0)).getD 1 0) < 1) := d_f (not_t hg471)
                    exact Reads.strip 222 rfl (hg471) (r_idxAddr_elem (i := 0) Try.underlying35 Try.sizeOf3 rfl rfl (by omega) (by omega))) rfl ?_
              refine ao_readG (x := .int .i64 ((r14.1.getD i459.toNat (List.replicate 2 0)).getD 0 0)) rfl (GV.F rfl) (fun hg473 => by
                    have q474 : ¬ (((r14.1.getD i459.toNat (List.replicate 2 0)).getD 1 0) < 1) := d_f (not_t hg473)
                    exact Reads.strip 223 rfl (hg473) (r_load_elem2_int (m := 2) Try.isAgg3 Try.sizeOf3 rfl rfl rfl (show i459.toNat < r14.1.length from by omega) rfl (by omega) rfl)) rfl ?_
              refine ao_readG (x := .bool (decide (((r14.1.getD i459.toNat (List.replicate 2 0)).getD 0 0) < 0))) rfl (GV.F rfl) (fun hg475 => by
                    have q476 : ¬ (((r14.1.getD i459.toNat (List.replicate 2 0)).getD 1 0) < 1) := d_f (not_t hg475)
                    exact Reads.strip 224 rfl (hg475) (r_lss rfl rfl)) rfl ?_
              refine ao_read trivial (r_orB rfl rfl) rfl ?_
              refine ao_nil ?_
              refine aq_then ?_
              refine aw_cond rfl (fun hb477 => ?_) (fun hb477 => ?_)
              · replace h := is_if hb477 h
                refine aw_seq ?_
                refine aw_region ?_
                refine ao_read trivial (r_assign rfl) rfl ?_
                refine ao_nil ?_
                refine aq_then ?_
                refine aw_ret ?_
                refine aq_then_ret ?_
                refine aq_in_ret ?_
                refine aq_then_ret ?_
                refine aq_then_ret ?_
                refine aq_in_ret ?_
                refine aq_then_ret ?_
                refine aq_then_ret ?_
                refine aq_ret ?_
                obtain rfl := is_some h
                exact aq_finx (l := [.tmp 2]) (xs := [.bool false]) idn [.bool false] [] rfl (by exact ⟨rfl, trivial⟩) (by exact ⟨ad_ren rfl, trivial⟩) (by exact trivial) rfl (nk rfl) rfl rfl ⟨rfl, rfl⟩
              · obtain ⟨q478, q479⟩ := or_f hb477
                have q480 : ¬ (((r14.1.getD i459.toNat (List.replicate 2 0)).getD 1 0) < 1) := d_f q478
                have q481 : ¬ (((r14.1.getD i459.toNat (List.replicate 2 0)).getD 0 0) < 0) := d_f q479
                replace h := is_else (ne_t hb477) h
                refine aw_skip ?_
                refine aq_then ?_
                obtain ⟨r482, r482h, h⟩ := is_bind h
                refine aw_draw 6 (by kernel_rfl) (by kernel_rfl) ?_
                refine an_read 0 (by kernel_rfl) (fun _ _ _ h => h) rfl (by kernel_rfl) trivial (r_load_arr rfl Try.isAgg35 Try.sizeOf35 rfl rfl rfl) rfl ?_
                refine an_read 1 (by kernel_rfl) (fun _ _ _ h => h) rfl (by kernel_rfl) trivial (r_move rfl) rfl ?_
                refine an_read 2 (by kernel_rfl) (fun _ _ _ h => h) rfl (by kernel_rfl) trivial (r_move rfl) rfl ?_
                refine an_read 3 (by kernel_rfl) (fun _ _ _ h => h) rfl (by kernel_rfl) trivial (r_idxAddr_os Try.underlying83 Try.sizeOf35 rfl rfl rfl (show 0 ≤ i459 from by omega) (show i459 < (r14.1.length : Int) from by omega)) rfl ?_
                refine an_read 4 (by kernel_rfl) (fun _ _ _ h => h) rfl (by kernel_rfl) trivial (r_load_elemv (t := (.arr 2 (.int .i64))) Try.isAgg35 Try.sizeOf35 rfl rfl (show i459.toNat < r14.1.length from by omega)) rfl ?_
                refine an_scall 5 (by kernel_rfl) (fun _ _ _ h => h) rfl (by kernel_rfl) trivial (scall (c_laws_vPlus (is_mk r482h)) rfl Try.func82 rfl rfl rfl rfl (fun σ => ⟨ad_ren rfl, ad_ren rfl, trivial⟩)) rfl ?_
                refine an_tail rfl rfl ?_
                refine ao_effS trivial (e_store rfl rfl rfl rfl Try.sizeOf35 rfl) ?_
                refine ao_nil ?_
                refine aq_in ?_
                refine aq_then ?_
                refine aw_region ?_
                refine ao_read trivial (r_move rfl) rfl ?_
                refine ao_read trivial (r_addI rfl rfl (wrap_id (by omega) (by omega))) rfl ?_
                refine ao_read trivial (r_assign rfl) rfl ?_
                refine ao_nil ?_
                exact aq_again (AL.sub (sub_mk idn (by exact ⟨⟨_, rfl, ad_ren rfl⟩, ⟨_, rfl, ad_ren rfl⟩, ⟨_, rfl, ad_ren rfl⟩, ⟨_, rfl, ad_ren rfl⟩, ⟨_, rfl, ad_ren rfl⟩, ⟨_, rfl, ad_ren rfl⟩, ⟨_, rfl, ad_ren rfl⟩, ⟨_, rfl, ad_ren rfl⟩, ⟨_, rfl, ad_ren rfl⟩, ⟨_, rfl, ad_ren rfl⟩, ⟨_, rfl, ad_ren rfl⟩, ⟨_, rfl, ad_ren rfl⟩, ⟨_, rfl, ad_ren rfl⟩, ⟨_, rfl, ad_ren rfl⟩, trivial⟩) (by exact ⟨⟨_, rfl, ⟨rfl, trivial⟩⟩, ⟨_, rfl, rfl⟩, ⟨_, rfl, ⟨rfl, trivial⟩⟩, ⟨_, rfl, ⟨rfl, trivial⟩⟩, ⟨_, rfl, rfl⟩, ⟨_, rfl, rfl⟩, ⟨_, rfl, ⟨rfl, trivial⟩⟩, ⟨_, rfl, ⟨rfl, trivial⟩⟩, ⟨_, rfl, ⟨rfl, trivial⟩⟩, trivial⟩) (by rfl) (nk rfl)) (ih460 d460 (i459 + 1) r482 (by omega) ⟨by omega, (by (try simp only [List.length_set, List.length_append, List.length_cons, List.length_nil, List.length_replicate, List.length_take, List.length_drop]) <;> omega), (by (try simp only [List.length_set, List.length_append, List.length_cons, List.length_nil, List.length_replicate, List.length_take, List.length_drop]) <;> omega)⟩ h))
            · have q464 := d_f hb462
              obtain rfl : d460 = 0 := by omega
              replace h := is_cnt0 h
              refine aw_exit ?_
              refine aq_then_exit ?_
              refine aq_then_exit ?_
              refine aq_in_exit ?_
              refine aq_then ?_
              refine aw_seq ?_
              refine aw_region ?_
              refine ao_read trivial (r_move rfl) rfl ?_
              refine ao_read trivial (r_len_osm (r14.1.length : Int) Try.underlying83 rfl rfl rfl) rfl ?_
              refine ao_read trivial (r_move rfl) rfl ?_
              refine ao_read trivial (r_len_osm (r10.1.length : Int) Try.underlying54 rfl rfl rfl) rfl ?_
              refine ao_read trivial (r_neq rfl rfl) rfl ?_
              refine ao_read trivial (r_move rfl) rfl ?_
              refine ao_readG (x := .v (.arr 2 (.int .i64)) s458) rfl (GV.F rfl) (fun hg483 => by
                    have q484 := d_t (not_f (not_t hg483))
                    exact r_load_arr rfl Try.isAgg35 Try.sizeOf35 rfl rfl rfl) rfl ?_
              refine ao_readG (x := .v (.arr 2 (.int .i64)) ([1, 1] : (List Int))) rfl (GV.F rfl) (fun hg485 => by
                    have q486 := d_t (not_f (not_t hg485))
                    exact r_build_arr (l := [(0, .const (.int .i64 1)), (1, .const (.int .i64 1))]) (t := (.int .i64)) ([1, 1] : (List Int)) rfl Try.underlying35 Try.zeroValue35 Try.sizeOf3 rfl rfl rfl rfl) rfl ?_
              refine ao_readG (x := .bool (!(decide (s458 = [1, 1])))) rfl (GV.F rfl) (fun hg487 => by
                    have q488 := d_t (not_f (not_t hg487))
                    exact Reads.strip 239 rfl (hg487) (Reads.strip 240 rfl (hg487) (r_eq_ints Try.underlying35 Try.underlying3 Try.isAgg3 (info_size Try.sizeOf3) (by kernel_rfl) rfl rfl rfl))) rfl ?_
              refine ao_read trivial (r_orB rfl rfl) rfl ?_
              refine ao_nil ?_
              refine aq_then ?_
              refine aw_cond rfl (fun hb489 => ?_) (fun hb489 => ?_)
              · replace h := is_if hb489 h
                refine aw_seq ?_
                refine aw_region ?_
                refine ao_read trivial (r_assign rfl) rfl ?_
                refine ao_nil ?_
                refine aq_then ?_
                refine aw_ret ?_
                refine aq_then_ret ?_
                refine aq_ret ?_
                obtain rfl := is_some h
                exact aq_finx (l := [.tmp 2]) (xs := [.bool false]) idn [.bool false] [] rfl (by exact ⟨rfl, trivial⟩) (by exact ⟨ad_ren rfl, trivial⟩) (by exact trivial) rfl (nk rfl) rfl rfl ⟨rfl, rfl⟩
              · obtain ⟨q490, q491⟩ := or_f hb489
                have q492 := d_t (not_f q490)
                replace h := is_else (ne_t hb489) h
                refine aw_skip ?_
                exact aq_then (AW.sub (sub_mk (rn [(4, 6), (5, 7)]) (by exact ⟨⟨_, rfl, ad_ren rfl⟩, ⟨_, rfl, ad_ren rfl⟩, ⟨_, rfl, ad_ren rfl⟩, ⟨_, rfl, ad_ren rfl⟩, ⟨_, rfl, ad_ren rfl⟩, ⟨_, rfl, ad_ren rfl⟩, ⟨_, rfl, ad_ren rfl⟩, ⟨_, rfl, ad_ren rfl⟩, ⟨_, rfl, ad_ren rfl⟩, ⟨_, rfl, ad_ren rfl⟩, trivial⟩) (by exact ⟨⟨_, rfl, ⟨rfl, trivial⟩⟩, ⟨_, rfl, rfl⟩, ⟨_, rfl, ⟨rfl, trivial⟩⟩, ⟨_, rfl, ⟨rfl, trivial⟩⟩, ⟨_, rfl, ⟨rfl, trivial⟩⟩, ⟨_, rfl, ⟨rfl, trivial⟩⟩, trivial⟩) (by rfl) (nk rfl)) (j374 () trivial h))
          · replace h := is_else (ne_t hb457) h
            refine aw_skip ?_
            exact aq_then (AW.sub (sub_mk (rn [(4, 6), (5, 7)]) (by exact ⟨⟨_, rfl, ad_ren rfl⟩, ⟨_, rfl, ad_ren rfl⟩, ⟨_, rfl, ad_ren rfl⟩, ⟨_, rfl, ad_ren rfl⟩, ⟨_, rfl, ad_ren rfl⟩, ⟨_, rfl, ad_ren rfl⟩, ⟨_, rfl, ad_ren rfl⟩, ⟨_, rfl, ad_ren rfl⟩, ⟨_, rfl, ad_ren rfl⟩, ⟨_, rfl, ad_ren rfl⟩, trivial⟩) (by exact ⟨⟨_, rfl, ⟨rfl, trivial⟩⟩, ⟨_, rfl, rfl⟩, ⟨_, rfl, ⟨rfl, trivial⟩⟩, ⟨_, rfl, ⟨rfl, trivial⟩⟩, ⟨_, rfl, ⟨rfl, trivial⟩⟩, ⟨_, rfl, ⟨rfl, trivial⟩⟩, trivial⟩) (by rfl) (nk rfl)) (j374 () trivial h))
      · refine aw_seq ?_
        refine aw_region ?_
        refine ao_read trivial (r_move rfl) rfl ?_
        refine ao_nil ?_
        refine aq_then ?_
        refine aw_cond rfl (fun hb493 => ?_) (fun hb493 => ?_)
        · replace h := is_if hb493 h
          refine aw_seq ?_
          refine aw_region ?_
          refine ao_read trivial (r_load_arr rfl Try.isAgg60 Try.sizeOf60 rfl rfl rfl) rfl ?_
          refine ao_read trivial (r_load_arr rfl Try.isAgg60 Try.sizeOf60 rfl rfl rfl) rfl ?_
          refine ao_read trivial (r_move rfl) rfl ?_
          refine ao_scall trivial (scall (c_impl_MoreLikely (is_mk (rfl : p_impl_MoreLikely r20.2.1 r20.1 r20.2.2 = _))) rfl Try.func76 rfl rfl rfl rfl (fun σ => ⟨ad_ren rfl, ad_ren rfl, ad_os0 rfl, trivial⟩)) rfl ?_
          refine ao_read trivial (r_move rfl) rfl ?_
          refine ao_read trivial (r_extract rfl rfl) rfl ?_
          refine ao_read trivial (r_extract rfl rfl) rfl ?_
          refine ao_read trivial (r_assign rfl) rfl ?_
          refine ao_read trivial (r_assign rfl) rfl ?_
          refine ao_nil ?_
          refine aq_then ?_
          refine aw_seq ?_
          refine aw_region ?_
          refine ao_read trivial (r_move rfl) rfl ?_
          refine ao_read trivial (r_not rfl) rfl ?_
          refine ao_read trivial (r_move rfl) rfl ?_
          refine ao_readG (x := .int .i64 ((p_impl_MoreLikely r20.2.1 r20.1 r20.2.2).1)) rfl (GV.F rfl) (fun hg494 => r_move rfl) rfl ?_
          refine ao_readG (x := .int .i64 ((p_impl_MoreLikely r20.1 r20.2.1 r20.2.2).1)) rfl (GV.F rfl) (fun hg495 => r_move rfl) rfl ?_
          refine ao_readG (x := .int .i64 (IntKind.wrap .i64 (0 - ((p_impl_MoreLikely r20.1 r20.2.1 r20.2.2).1)))) rfl (GV.F rfl) (fun hg496 => Reads.strip 201 rfl (hg496) (r_neg rfl)) rfl ?_
          refine ao_readG (x := .bool (!(decide ((p_impl_MoreLikely r20.2.1 r20.1 r20.2.2).1 = (IntKind.wrap .i64 (0 - ((p_impl_MoreLikely r20.1 r20.2.1 r20.2.2).1))))))) rfl (GV.F rfl) (fun hg497 => Reads.strip 200 rfl (hg497) (Reads.strip 202 rfl (hg497) (r_neq rfl rfl))) rfl ?_
          refine ao_read trivial (r_orB rfl rfl) rfl ?_
          refine ao_nil ?_
          refine aq_then ?_
          refine aw_cond rfl (fun hb498 => ?_) (fun hb498 => ?_)
          · replace h := is_if hb498 h
            refine aw_seq ?_
            refine aw_region ?_
            refine ao_read trivial (r_assign rfl) rfl ?_
            refine ao_nil ?_
            refine aq_then ?_
            refine aw_ret ?_
            refine aq_then_ret ?_
            refine aq_ret ?_
            obtain rfl := is_some h
            exact aq_finx (l := [.tmp 2]) (xs := [.bool false]) idn [.bool false] [] rfl (by exact ⟨rfl, trivial⟩) (by exact ⟨ad_ren rfl, trivial⟩) (by exact trivial) rfl (nk rfl) rfl rfl ⟨rfl, rfl⟩
          · obtain ⟨q499, q500⟩ := or_f hb498
            have q501 := d_t (not_f q500)
            replace h := is_else (ne_t hb498) h
            refine aw_skip ?_
            exact aq_then (AW.sub (sub_mk (rn [(0, 1), (1, 0), (3, 4), (4, 7), (5, 10), (6, 16), (7, 17)]) (by exact ⟨⟨_, rfl, ad_ren rfl⟩, ⟨_, rfl, ad_ren rfl⟩, ⟨_, rfl, ad_ren rfl⟩, ⟨_, rfl, ad_ren rfl⟩, ⟨_, rfl, ad_ren rfl⟩, ⟨_, rfl, ad_ren rfl⟩, ⟨_, rfl, ad_ren rfl⟩, ⟨_, rfl, ad_ren rfl⟩, ⟨_, rfl, ad_ren rfl⟩, ⟨_, rfl, ad_ren rfl⟩, ⟨_, rfl, ad_ren rfl⟩, ⟨_, rfl, ad_ren rfl⟩, ⟨_, rfl, ad_ren rfl⟩, trivial⟩) (by exact ⟨⟨_, rfl, ⟨rfl, trivial⟩⟩, ⟨_, rfl, rfl⟩, ⟨_, rfl, ⟨rfl, trivial⟩⟩, ⟨_, rfl, ⟨rfl, trivial⟩⟩, ⟨_, rfl, rfl⟩, ⟨_, rfl, rfl⟩, ⟨_, rfl, ⟨rfl, trivial⟩⟩, ⟨_, rfl, ⟨rfl, trivial⟩⟩, trivial⟩) (by rfl) (nk rfl)) (j371 () trivial h))
        · replace h := is_else (ne_t hb493) h
          refine aw_skip ?_
          exact aq_then (AW.sub (sub_mk (rn [(0, 1), (1, 0), (3, 4), (4, 7), (5, 10), (6, 16), (7, 17)]) (by exact ⟨⟨_, rfl, ad_ren rfl⟩, ⟨_, rfl, ad_ren rfl⟩, ⟨_, rfl, ad_ren rfl⟩, ⟨_, rfl, ad_ren rfl⟩, ⟨_, rfl, ad_ren rfl⟩, ⟨_, rfl, ad_ren rfl⟩, ⟨_, rfl, ad_ren rfl⟩, ⟨_, rfl, ad_ren rfl⟩, ⟨_, rfl, ad_ren rfl⟩, ⟨_, rfl, ad_ren rfl⟩, ⟨_, rfl, ad_ren rfl⟩, ⟨_, rfl, ad_ren rfl⟩, ⟨_, rfl, ad_ren rfl⟩, trivial⟩) (by exact ⟨⟨_, rfl, ⟨rfl, trivial⟩⟩, ⟨_, rfl, rfl⟩, ⟨_, rfl, ⟨rfl, trivial⟩⟩, ⟨_, rfl, ⟨rfl, trivial⟩⟩, ⟨_, rfl, rfl⟩, ⟨_, rfl, rfl⟩, ⟨_, rfl, ⟨rfl, trivial⟩⟩, ⟨_, rfl, ⟨rfl, trivial⟩⟩, trivial⟩) (by rfl) (nk rfl)) (j371 () trivial h))
end Go.GA
