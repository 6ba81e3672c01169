/- Walks: what the Go functions compute, by the printed lines below; no further conditions. -/
import Derived.Test.YtddljmnmkiofmaaC8bwb
namespace Go.GA
open Go Go.Proofs
set_option maxRecDepth 100000
set_option maxHeartbeats 2000000
set_option linter.unusedVariables false
set_option linter.unusedSimpArgs false
theorem c_spec_DrawMeanWait {x0 : (List Int)} {r : (List Int) × Int} (h : Is (p_spec_DrawMeanWait x0) (some r)) :
    Scalar Try.prog 106 [.v (.slice (.int .u8)) x0] (.tup [.v (.arr 6 (.int .i64)) r.1, .int .i64 r.2]) := by
  unfold p_spec_DrawMeanWait at h
  refine ac_enter ⟨26, 0⟩ Try.func106 rfl rfl rfl rfl rfl (fun Γ => ?_)
  refine sl_len_m 0 (x0.length : Int) rfl rfl (fun hl0 => ?_)
  refine aw_seq ?_
  refine aw_region ?_
  refine ao_eff trivial (e_alloc 0 (y := .v (.arr 6 (.int .i64)) ((List.replicate 6 0) : (List Int))) Try.zeroValue47 (fun ρ h M => ra_zero_arr (t := (.int .i64)) rfl) rfl rfl rfl rfl rfl) rfl ?_
  refine ao_read trivial (r_assign rfl) rfl ?_
  refine ao_nil ?_
  refine aq_then ?_
  refine aw_seq ?_
  refine aw_region ?_
  refine ao_read trivial (r_move rfl) rfl ?_
  refine ao_read trivial (r_build_st (l := [(0, .tmp 6)]) (cs := [.cell (.v (.slice (.int .u8)) x0), .cell (.int .i64 0), .cell (.int .u64 0)]) (.pair (.slice (.int .u8)) (.pair (.int .i64) (.pair (.int .u64) .unit))) [(0, 1), (1, 1), (2, 1)] Try.underlying81 Try.zeroValue81 rfl ⟨rfl, Try.sizeOf22, rfl, Try.sizeOf3, rfl, Try.sizeOf79, trivial⟩ rfl rfl rfl) rfl ?_
  refine ao_eff trivial (e_box 1 rfl rfl rfl rfl rfl rfl) rfl ?_
  refine ao_read trivial (r_assign rfl) rfl ?_
  refine ao_nil ?_
  refine aq_then ?_
  refine aw_seq ?_
  refine aw_region ?_
  refine ao_read trivial (r_move rfl) rfl ?_
  obtain ⟨r1, r1h, h⟩ := is_bind h
  refine ao_callV [1] 2 trivial (c_spec_l1Cur_die (is_mk r1h)) Try.func95 rfl rfl rfl rfl rfl ⟨rfl, trivial⟩ ⟨⟨_, rfl, ⟨ad_ren rfl, rfl, ad_ren rfl, rfl, ad_ren rfl, rfl, trivial⟩⟩, trivial⟩ rfl rfl rfl rfl rfl rfl rfl (fun r' H' hr => ?_)
  obtain ⟨rfl, rfl⟩ := hr
  refine ao_norm (y := .v (.arr 6 (.int .i64)) r1.1) (H' := [(0, .var [.arr (.int .i64) 6 ((List.replicate 6 0) : (List Int))]), (1, .var [.cell (.v (.slice (.int .u8)) x0), .cell (.int .i64 r1.2.1), .cell (.int .u64 r1.2.2)])]) rfl rfl ?_
  refine ao_eff trivial (e_alloc 2 (y := .v (.arr 6 (.int .i64)) ((List.replicate 6 0) : (List Int))) Try.zeroValue47 (fun ρ h M => ra_zero_arr (t := (.int .i64)) rfl) rfl rfl rfl rfl rfl) rfl ?_
  refine ao_effS trivial (e_store rfl rfl rfl rfl Try.sizeOf47 rfl) ?_
  refine ao_nil ?_
  refine aq_then ?_
  refine aw_seq ?_
  obtain ⟨r2, r2h, h⟩ := is_bind h
  obtain ⟨g3, h⟩ := is_guard h
  obtain ⟨g4, h⟩ := is_guard h
  obtain ⟨r5, r5h, h⟩ := is_bind h
  refine aw_drawP 17 rfl (by kernel_rfl) ?_
  refine ap_to [(2, .ref 0 0), (3, .int .i64 r5.1)] [(0, .var [.arr (.int .i64) 6 r1.1])] ?_ (fun key => ?_)
  · refine aq_then ?_
    refine aw_ret ?_
    refine aq_ret ?_
    obtain rfl := is_some h
    exact aq_finx (l := [.cell 2 47, .tmp 3]) (xs := [.v (.arr 6 (.int .i64)) r1.1, .int .i64 r5.1]) idn [.v (.arr 6 (.int .i64)) r1.1, .int .i64 r5.1] [] rfl (by exact ⟨⟨⟨_, _, rfl⟩, r_load_arr rfl Try.isAgg47 Try.sizeOf47 rfl rfl rfl⟩, rfl, trivial⟩) (by exact ⟨ad_ren rfl, ad_ren rfl, trivial⟩) (by exact trivial) rfl (nk rfl) rfl rfl ⟨rfl, rfl⟩
  refine ap_let (g := 2) (listed := #[true, true, true, true, true, true, true, true, true, true, true, true, true, true, true, false, false]) [(2, .ref 0 0), (3, .int .i64 0), (11, .v (.arr 6 (.int .i64)) r1.1), (25, .int .i64 r5.1)] [(0, .var [.arr (.int .i64) 6 ((List.replicate 6 0) : (List Int))])] ?_ (fun k17 => ?_)
  · refine ap_all [15] (by kernel_rfl) ⟨?_, trivial⟩
    refine apo_ao rfl ?_
    refine ao_effS trivial (e_store rfl rfl rfl rfl Try.sizeOf47 rfl) ?_
    refine ao_nil ?_
    refine ap_in ?_
    refine ap_pure 16 (by kernel_rfl) (fun _ _ _ h => h) rfl (by kernel_rfl) trivial (rp_assign rfl) rfl ?_
    exact ap_end (by kernel_rfl) (AQ.sub (sub_mk idn (by exact ⟨ai rfl, ai rfl, trivial⟩) (by exact ⟨⟨_, rfl, ⟨rfl, trivial⟩⟩, trivial⟩) (by rfl) (nk rfl)) key)
  refine ap_let (g := 3) (listed := #[true, true, true, true, true, true, true, true, true, true, true, true, true, true, false, false, false]) [(2, .ref 0 0), (3, .int .i64 0), (11, .v (.arr 6 (.int .i64)) r1.1), (12, .ref 1 0), (24, .os 2)] [(0, .var [.arr (.int .i64) 6 ((List.replicate 6 0) : (List Int))]), (1, .var [.cell (.v (.slice (.int .u8)) x0), .cell (.int .i64 r2.2.1), .cell (.int .u64 r2.2.2)]), (2, .row (.int .i64) (([(r1.1.getD 0 0), (r1.1.getD 5 0), (r1.1.getD 2 0), 7, (-1), 4611686018427387904].take (IntKind.wrap .i64 (3 + (IntKind.wrap .i64 (r2.1.tdiv 6)))).toNat) : (List Int)))] ?_ (fun k16 => ?_)
  · refine ap_all [14] (by kernel_rfl) ⟨?_, trivial⟩
    refine apo_ao rfl ?_
    refine ao_frz (fr' := [(2, .ref 0 0), (3, .int .i64 0), (11, .v (.arr 6 (.int .i64)) r1.1), (12, .ref 1 0), (24, .v (.slice (.int .i64)) (([(r1.1.getD 0 0), (r1.1.getD 5 0), (r1.1.getD 2 0), 7, (-1), 4611686018427387904].take (IntKind.wrap .i64 (3 + (IntKind.wrap .i64 (r2.1.tdiv 6)))).toNat) : (List Int)))]) (H' := [(0, .var [.arr (.int .i64) 6 ((List.replicate 6 0) : (List Int))]), (1, .var [.cell (.v (.slice (.int .u8)) x0), .cell (.int .i64 r2.2.1), .cell (.int .u64 r2.2.2)])]) (by exact ⟨ai rfl, ai rfl, ai rfl, ai rfl, ⟨_, rfl, ad_osB rfl rfl⟩, trivial⟩) (by exact ⟨⟨_, rfl, ⟨rfl, trivial⟩⟩, ⟨_, rfl, ⟨ad_ren rfl, rfl, ad_ren rfl, rfl, ad_ren rfl, rfl, trivial⟩⟩, trivial⟩) rfl ?_
    refine ao_callV [1] 3 trivial (c_spec_l1Cur_among (is_mk r5h)) Try.func96 rfl rfl rfl rfl rfl ⟨rfl, trivial⟩ ⟨⟨_, rfl, ⟨ad_ren rfl, rfl, ad_ren rfl, rfl, ad_ren rfl, rfl, trivial⟩⟩, trivial⟩ rfl rfl rfl rfl rfl rfl rfl (fun r' H' hr => ?_)
    obtain ⟨rfl, rfl⟩ := hr
    refine ao_norm (y := .int .i64 r5.1) (H' := [(0, .var [.arr (.int .i64) 6 ((List.replicate 6 0) : (List Int))]), (1, .var [.cell (.v (.slice (.int .u8)) x0), .cell (.int .i64 r5.2.1), .cell (.int .u64 r5.2.2)])]) rfl rfl ?_
    refine ao_nil ?_
    refine ap_in ?_
    exact ap_go (by kernel_rfl) (sub_mk idn (by exact ⟨ai rfl, ai rfl, ai rfl, ai rfl, trivial⟩) (by exact ⟨⟨_, rfl, ⟨rfl, trivial⟩⟩, trivial⟩) (by rfl) (nk rfl)) k17
  refine ap_let (g := 3) (listed := #[false, true, true, true, true, true, true, true, true, true, true, true, true, true, true, false, false]) [(2, .ref 0 0), (3, .int .i64 0), (5, .ref 1 0), (25, .int .i64 r5.1)] [(0, .var [.arr (.int .i64) 6 ((List.replicate 6 0) : (List Int))]), (1, .var [.arr (.int .i64) 6 r1.1])] ?_ (fun k74 => ?_)
  · refine ap_all [0] (by kernel_rfl) ⟨?_, trivial⟩
    refine apo_ao rfl ?_
    refine ao_read trivial (r_load_arr rfl Try.isAgg47 Try.sizeOf47 rfl rfl rfl) rfl ?_
    refine ao_nil ?_
    refine ap_in ?_
    exact ap_go (by kernel_rfl) (sub_mk idn (by exact ⟨ai rfl, ai rfl, ai rfl, ai rfl, trivial⟩) (by exact ⟨⟨_, rfl, ⟨rfl, trivial⟩⟩, trivial⟩) (by rfl) (nk rfl)) k17
  refine ap_let (g := 4) (listed := #[true, true, true, true, true, true, true, true, true, true, true, true, true, false, false, false, false]) [(2, .ref 0 0), (3, .int .i64 0), (11, .v (.arr 6 (.int .i64)) r1.1), (12, .ref 1 0), (19, .os 2), (23, .int .i64 (IntKind.wrap .i64 (3 + (IntKind.wrap .i64 (r2.1.tdiv 6)))))] [(0, .var [.arr (.int .i64) 6 ((List.replicate 6 0) : (List Int))]), (1, .var [.cell (.v (.slice (.int .u8)) x0), .cell (.int .i64 r2.2.1), .cell (.int .u64 r2.2.2)]), (2, .row (.int .i64) ([(r1.1.getD 0 0), (r1.1.getD 5 0), (r1.1.getD 2 0), 7, (-1), 4611686018427387904] : (List Int)))] ?_ (fun k15 => ?_)
  · refine ap_all [13] (by kernel_rfl) ⟨?_, trivial⟩
    refine apo_ao rfl ?_
    refine ao_eff trivial (e_shrink (t := (.int .i64)) 3 rfl Try.underlying32 Try.sizeOf3 rfl rfl (.some rfl) (by omega) (show (IntKind.wrap .i64 (3 + (IntKind.wrap .i64 (r2.1.tdiv 6)))) ≤ (([(r1.1.getD 0 0), (r1.1.getD 5 0), (r1.1.getD 2 0), 7, (-1), 4611686018427387904] : List Int).length : Int) from by (try simp only [List.length_cons, List.length_nil]) <;> omega) rfl rfl) rfl ?_
    refine ao_nil ?_
    refine ap_in ?_
    exact ap_go (by kernel_rfl) (sub_mk (rn [(2, 3)]) (by exact ⟨ai rfl, ai rfl, ai rfl, ai rfl, ai rfl, trivial⟩) (by exact ⟨⟨_, rfl, ⟨rfl, trivial⟩⟩, ⟨_, rfl, ⟨ad_ren rfl, rfl, ad_ren rfl, rfl, ad_ren rfl, rfl, trivial⟩⟩, ⟨_, rfl, rfl⟩, trivial⟩) (by rfl) (nk rfl)) k16
  refine ap_let (g := 4) (listed := #[false, true, true, true, true, true, true, true, true, true, true, true, true, true, false, false, false]) [(2, .ref 0 0), (3, .int .i64 0), (5, .ref 1 0), (12, .ref 2 0), (24, .os 3)] [(0, .var [.arr (.int .i64) 6 ((List.replicate 6 0) : (List Int))]), (1, .var [.arr (.int .i64) 6 r1.1]), (2, .var [.cell (.v (.slice (.int .u8)) x0), .cell (.int .i64 r2.2.1), .cell (.int .u64 r2.2.2)]), (3, .row (.int .i64) (([(r1.1.getD 0 0), (r1.1.getD 5 0), (r1.1.getD 2 0), 7, (-1), 4611686018427387904].take (IntKind.wrap .i64 (3 + (IntKind.wrap .i64 (r2.1.tdiv 6)))).toNat) : (List Int)))] ?_ (fun k73 => ?_)
  · refine ap_all [0, 14] (by kernel_rfl) ⟨?_, ?_, trivial⟩
    · refine apo_ao rfl ?_
      refine ao_read trivial (r_load_arr rfl Try.isAgg47 Try.sizeOf47 rfl rfl rfl) rfl ?_
      refine ao_nil ?_
      refine ap_in ?_
      exact ap_go (by kernel_rfl) (sub_mk (rn [(1, 2), (2, 3)]) (by exact ⟨ai rfl, ai rfl, ai rfl, ai rfl, ai rfl, trivial⟩) (by exact ⟨⟨_, rfl, ⟨rfl, trivial⟩⟩, ⟨_, rfl, ⟨ad_ren rfl, rfl, ad_ren rfl, rfl, ad_ren rfl, rfl, trivial⟩⟩, ⟨_, rfl, rfl⟩, trivial⟩) (by rfl) (nk rfl)) k16
    · refine apo_ao rfl ?_
      refine ao_frz (fr' := [(2, .ref 0 0), (3, .int .i64 0), (5, .ref 1 0), (12, .ref 2 0), (24, .v (.slice (.int .i64)) (([(r1.1.getD 0 0), (r1.1.getD 5 0), (r1.1.getD 2 0), 7, (-1), 4611686018427387904].take (IntKind.wrap .i64 (3 + (IntKind.wrap .i64 (r2.1.tdiv 6)))).toNat) : (List Int)))]) (H' := [(0, .var [.arr (.int .i64) 6 ((List.replicate 6 0) : (List Int))]), (1, .var [.arr (.int .i64) 6 r1.1]), (2, .var [.cell (.v (.slice (.int .u8)) x0), .cell (.int .i64 r2.2.1), .cell (.int .u64 r2.2.2)])]) (by exact ⟨ai rfl, ai rfl, ai rfl, ai rfl, ⟨_, rfl, ad_osB rfl rfl⟩, trivial⟩) (by exact ⟨⟨_, rfl, ⟨rfl, trivial⟩⟩, ⟨_, rfl, ⟨rfl, trivial⟩⟩, ⟨_, rfl, ⟨ad_ren rfl, rfl, ad_ren rfl, rfl, ad_ren rfl, rfl, trivial⟩⟩, trivial⟩) rfl ?_
      refine ao_callV [2] 4 trivial (c_spec_l1Cur_among (is_mk r5h)) Try.func96 rfl rfl rfl rfl rfl ⟨rfl, trivial⟩ ⟨⟨_, rfl, ⟨ad_ren rfl, rfl, ad_ren rfl, rfl, ad_ren rfl, rfl, trivial⟩⟩, trivial⟩ rfl rfl rfl rfl rfl rfl rfl (fun r' H' hr => ?_)
      obtain ⟨rfl, rfl⟩ := hr
      refine ao_norm (y := .int .i64 r5.1) (H' := [(0, .var [.arr (.int .i64) 6 ((List.replicate 6 0) : (List Int))]), (1, .var [.arr (.int .i64) 6 r1.1]), (2, .var [.cell (.v (.slice (.int .u8)) x0), .cell (.int .i64 r5.2.1), .cell (.int .u64 r5.2.2)])]) rfl rfl ?_
      refine ao_nil ?_
      refine ap_in ?_
      exact ap_go (by kernel_rfl) (sub_mk idn (by exact ⟨ai rfl, ai rfl, ai rfl, ai rfl, trivial⟩) (by exact ⟨⟨_, rfl, ⟨rfl, trivial⟩⟩, ⟨_, rfl, ⟨rfl, trivial⟩⟩, trivial⟩) (by rfl) (nk rfl)) k74
  refine ap_let (g := 5) (listed := #[true, true, true, true, true, true, true, true, false, true, true, true, true, false, false, false, false]) [(2, .ref 0 0), (3, .int .i64 0), (11, .v (.arr 6 (.int .i64)) r1.1), (12, .ref 1 0), (14, .int .i64 (r1.1.getD 0 0)), (16, .int .i64 (r1.1.getD 5 0)), (18, .int .i64 (r1.1.getD 2 0)), (23, .int .i64 (IntKind.wrap .i64 (3 + (IntKind.wrap .i64 (r2.1.tdiv 6)))))] [(0, .var [.arr (.int .i64) 6 ((List.replicate 6 0) : (List Int))]), (1, .var [.cell (.v (.slice (.int .u8)) x0), .cell (.int .i64 r2.2.1), .cell (.int .u64 r2.2.2)])] ?_ (fun k18 => ?_)
  · refine ap_all [8] (by kernel_rfl) ⟨?_, trivial⟩
    refine apo_ao rfl ?_
    refine ao_eff trivial (e_buildSlice (l := [(0, .tmp 14), (1, .tmp 16), (2, .tmp 18), (3, .const (.int .i64 7)), (4, .const (.int .i64 (-1))), (5, .const (.int .i64 4611686018427387904))]) (t := (.int .i64)) 2 ([(r1.1.getD 0 0), (r1.1.getD 5 0), (r1.1.getD 2 0), 7, (-1), 4611686018427387904] : (List Int)) rfl Try.underlying32 Try.zeroValue3 Try.sizeOf3 rfl rfl rfl rfl rfl rfl rfl) rfl ?_
    refine ao_nil ?_
    refine ap_in ?_
    exact ap_go (by kernel_rfl) (sub_mk idn (by exact ⟨ai rfl, ai rfl, ai rfl, ai rfl, ai rfl, ai rfl, trivial⟩) (by exact ⟨⟨_, rfl, ⟨rfl, trivial⟩⟩, ⟨_, rfl, ⟨ad_ren rfl, rfl, ad_ren rfl, rfl, ad_ren rfl, rfl, trivial⟩⟩, ⟨_, rfl, rfl⟩, trivial⟩) (by rfl) (nk rfl)) k15
  refine ap_let (g := 5) (listed := #[false, true, true, true, true, true, true, true, true, true, true, true, true, false, false, false, false]) [(2, .ref 0 0), (3, .int .i64 0), (5, .ref 1 0), (12, .ref 2 0), (19, .os 3), (23, .int .i64 (IntKind.wrap .i64 (3 + (IntKind.wrap .i64 (r2.1.tdiv 6)))))] [(0, .var [.arr (.int .i64) 6 ((List.replicate 6 0) : (List Int))]), (1, .var [.arr (.int .i64) 6 r1.1]), (2, .var [.cell (.v (.slice (.int .u8)) x0), .cell (.int .i64 r2.2.1), .cell (.int .u64 r2.2.2)]), (3, .row (.int .i64) ([(r1.1.getD 0 0), (r1.1.getD 5 0), (r1.1.getD 2 0), 7, (-1), 4611686018427387904] : (List Int)))] ?_ (fun k72 => ?_)
  · refine ap_all [0, 13] (by kernel_rfl) ⟨?_, ?_, trivial⟩
    · refine apo_ao rfl ?_
      refine ao_read trivial (r_load_arr rfl Try.isAgg47 Try.sizeOf47 rfl rfl rfl) rfl ?_
      refine ao_nil ?_
      refine ap_in ?_
      exact ap_go (by kernel_rfl) (sub_mk (rn [(1, 2), (2, 3)]) (by exact ⟨ai rfl, ai rfl, ai rfl, ai rfl, ai rfl, ai rfl, trivial⟩) (by exact ⟨⟨_, rfl, ⟨rfl, trivial⟩⟩, ⟨_, rfl, ⟨ad_ren rfl, rfl, ad_ren rfl, rfl, ad_ren rfl, rfl, trivial⟩⟩, ⟨_, rfl, rfl⟩, trivial⟩) (by rfl) (nk rfl)) k15
    · refine apo_ao rfl ?_
      refine ao_eff trivial (e_shrink (t := (.int .i64)) 4 rfl Try.underlying32 Try.sizeOf3 rfl rfl (.some rfl) (by omega) (show (IntKind.wrap .i64 (3 + (IntKind.wrap .i64 (r2.1.tdiv 6)))) ≤ (([(r1.1.getD 0 0), (r1.1.getD 5 0), (r1.1.getD 2 0), 7, (-1), 4611686018427387904] : List Int).length : Int) from by (try simp only [List.length_cons, List.length_nil]) <;> omega) rfl rfl) rfl ?_
      refine ao_nil ?_
      refine ap_in ?_
      exact ap_go (by kernel_rfl) (sub_mk (rn [(3, 4)]) (by exact ⟨ai rfl, ai rfl, ai rfl, ai rfl, ai rfl, trivial⟩) (by exact ⟨⟨_, rfl, ⟨rfl, trivial⟩⟩, ⟨_, rfl, ⟨rfl, trivial⟩⟩, ⟨_, rfl, ⟨ad_ren rfl, rfl, ad_ren rfl, rfl, ad_ren rfl, rfl, trivial⟩⟩, ⟨_, rfl, rfl⟩, trivial⟩) (by rfl) (nk rfl)) k73
  refine ap_let (g := 6) (listed := #[true, true, true, true, true, true, true, false, false, true, true, true, true, false, false, false, false]) [(2, .ref 0 0), (3, .int .i64 0), (11, .v (.arr 6 (.int .i64)) r1.1), (12, .ref 1 0), (14, .int .i64 (r1.1.getD 0 0)), (16, .int .i64 (r1.1.getD 5 0)), (17, .elem 2 0 1 2), (23, .int .i64 (IntKind.wrap .i64 (3 + (IntKind.wrap .i64 (r2.1.tdiv 6)))))] [(0, .var [.arr (.int .i64) 6 ((List.replicate 6 0) : (List Int))]), (1, .var [.cell (.v (.slice (.int .u8)) x0), .cell (.int .i64 r2.2.1), .cell (.int .u64 r2.2.2)]), (2, .var [.arr (.int .i64) 6 r1.1])] ?_ (fun k19 => ?_)
  · refine ap_all [7] (by kernel_rfl) ⟨?_, trivial⟩
    refine apo_ao rfl ?_
    refine ao_read trivial (r_load_elema_int Try.isAgg3 Try.sizeOf3 rfl rfl rfl (show 2 < 6 from by omega)) rfl ?_
    refine ao_nil ?_
    refine ap_in ?_
    exact ap_go (by kernel_rfl) (sub_mk idn (by exact ⟨ai rfl, ai rfl, ai rfl, ai rfl, ai rfl, ai rfl, ai rfl, ai rfl, trivial⟩) (by exact ⟨⟨_, rfl, ⟨rfl, trivial⟩⟩, ⟨_, rfl, ⟨ad_ren rfl, rfl, ad_ren rfl, rfl, ad_ren rfl, rfl, trivial⟩⟩, trivial⟩) (by rfl) (nk rfl)) k18
  refine ap_let (g := 6) (listed := #[true, true, true, true, true, false, true, true, false, true, true, true, true, false, false, false, false]) [(2, .ref 0 0), (3, .int .i64 0), (11, .v (.arr 6 (.int .i64)) r1.1), (12, .ref 1 0), (14, .int .i64 (r1.1.getD 0 0)), (15, .elem 2 0 1 5), (18, .int .i64 (r1.1.getD 2 0)), (23, .int .i64 (IntKind.wrap .i64 (3 + (IntKind.wrap .i64 (r2.1.tdiv 6)))))] [(0, .var [.arr (.int .i64) 6 ((List.replicate 6 0) : (List Int))]), (1, .var [.cell (.v (.slice (.int .u8)) x0), .cell (.int .i64 r2.2.1), .cell (.int .u64 r2.2.2)]), (2, .var [.arr (.int .i64) 6 r1.1])] ?_ (fun k23 => ?_)
  · refine ap_all [5] (by kernel_rfl) ⟨?_, trivial⟩
    refine apo_ao rfl ?_
    refine ao_read trivial (r_load_elema_int Try.isAgg3 Try.sizeOf3 rfl rfl rfl (show 5 < 6 from by omega)) rfl ?_
    refine ao_nil ?_
    refine ap_in ?_
    exact ap_go (by kernel_rfl) (sub_mk idn (by exact ⟨ai rfl, ai rfl, ai rfl, ai rfl, ai rfl, ai rfl, ai rfl, ai rfl, trivial⟩) (by exact ⟨⟨_, rfl, ⟨rfl, trivial⟩⟩, ⟨_, rfl, ⟨ad_ren rfl, rfl, ad_ren rfl, rfl, ad_ren rfl, rfl, trivial⟩⟩, trivial⟩) (by rfl) (nk rfl)) k18
  refine ap_let (g := 6) (listed := #[true, true, true, false, true, true, true, true, false, true, true, true, true, false, false, false, false]) [(2, .ref 0 0), (3, .int .i64 0), (11, .v (.arr 6 (.int .i64)) r1.1), (12, .ref 1 0), (13, .elem 2 0 1 0), (16, .int .i64 (r1.1.getD 5 0)), (18, .int .i64 (r1.1.getD 2 0)), (23, .int .i64 (IntKind.wrap .i64 (3 + (IntKind.wrap .i64 (r2.1.tdiv 6)))))] [(0, .var [.arr (.int .i64) 6 ((List.replicate 6 0) : (List Int))]), (1, .var [.cell (.v (.slice (.int .u8)) x0), .cell (.int .i64 r2.2.1), .cell (.int .u64 r2.2.2)]), (2, .var [.arr (.int .i64) 6 r1.1])] ?_ (fun k35 => ?_)
  · refine ap_all [3] (by kernel_rfl) ⟨?_, trivial⟩
    refine apo_ao rfl ?_
    refine ao_read trivial (r_load_elema_int Try.isAgg3 Try.sizeOf3 rfl rfl rfl (show 0 < 6 from by omega)) rfl ?_
    refine ao_nil ?_
    refine ap_in ?_
    exact ap_go (by kernel_rfl) (sub_mk idn (by exact ⟨ai rfl, ai rfl, ai rfl, ai rfl, ai rfl, ai rfl, ai rfl, ai rfl, trivial⟩) (by exact ⟨⟨_, rfl, ⟨rfl, trivial⟩⟩, ⟨_, rfl, ⟨ad_ren rfl, rfl, ad_ren rfl, rfl, ad_ren rfl, rfl, trivial⟩⟩, trivial⟩) (by rfl) (nk rfl)) k18
  refine ap_let (g := 6) (listed := #[false, true, true, true, true, true, true, true, false, true, true, true, true, false, false, false, false]) [(2, .ref 0 0), (3, .int .i64 0), (5, .ref 1 0), (12, .ref 2 0), (14, .int .i64 (r1.1.getD 0 0)), (16, .int .i64 (r1.1.getD 5 0)), (18, .int .i64 (r1.1.getD 2 0)), (23, .int .i64 (IntKind.wrap .i64 (3 + (IntKind.wrap .i64 (r2.1.tdiv 6)))))] [(0, .var [.arr (.int .i64) 6 ((List.replicate 6 0) : (List Int))]), (1, .var [.arr (.int .i64) 6 r1.1]), (2, .var [.cell (.v (.slice (.int .u8)) x0), .cell (.int .i64 r2.2.1), .cell (.int .u64 r2.2.2)])] ?_ (fun k75 => ?_)
  · refine ap_all [0, 8] (by kernel_rfl) ⟨?_, ?_, trivial⟩
    · refine apo_ao rfl ?_
      refine ao_read trivial (r_load_arr rfl Try.isAgg47 Try.sizeOf47 rfl rfl rfl) rfl ?_
      refine ao_nil ?_
      refine ap_in ?_
      exact ap_go (by kernel_rfl) (sub_mk (rn [(1, 2)]) (by exact ⟨ai rfl, ai rfl, ai rfl, ai rfl, ai rfl, ai rfl, ai rfl, ai rfl, trivial⟩) (by exact ⟨⟨_, rfl, ⟨rfl, trivial⟩⟩, ⟨_, rfl, ⟨ad_ren rfl, rfl, ad_ren rfl, rfl, ad_ren rfl, rfl, trivial⟩⟩, trivial⟩) (by rfl) (nk rfl)) k18
    · refine apo_ao rfl ?_
      refine ao_eff trivial (e_buildSlice (l := [(0, .tmp 14), (1, .tmp 16), (2, .tmp 18), (3, .const (.int .i64 7)), (4, .const (.int .i64 (-1))), (5, .const (.int .i64 4611686018427387904))]) (t := (.int .i64)) 3 ([(r1.1.getD 0 0), (r1.1.getD 5 0), (r1.1.getD 2 0), 7, (-1), 4611686018427387904] : (List Int)) rfl Try.underlying32 Try.zeroValue3 Try.sizeOf3 rfl rfl rfl rfl rfl rfl rfl) rfl ?_
      refine ao_nil ?_
      refine ap_in ?_
      exact ap_go (by kernel_rfl) (sub_mk idn (by exact ⟨ai rfl, ai rfl, ai rfl, ai rfl, ai rfl, ai rfl, trivial⟩) (by exact ⟨⟨_, rfl, ⟨rfl, trivial⟩⟩, ⟨_, rfl, ⟨rfl, trivial⟩⟩, ⟨_, rfl, ⟨ad_ren rfl, rfl, ad_ren rfl, rfl, ad_ren rfl, rfl, trivial⟩⟩, ⟨_, rfl, rfl⟩, trivial⟩) (by rfl) (nk rfl)) k72
  refine ap_let (g := 7) (listed := #[true, true, true, true, true, true, true, true, true, true, false, false, false, false, false, false, false]) [(2, .ref 0 0), (3, .int .i64 0), (11, .v (.arr 6 (.int .i64)) r1.1), (12, .ref 1 0), (19, .os 2), (20, .ref 1 0)] [(0, .var [.arr (.int .i64) 6 ((List.replicate 6 0) : (List Int))]), (1, .var [.cell (.v (.slice (.int .u8)) x0), .cell (.int .i64 r1.2.1), .cell (.int .u64 r1.2.2)]), (2, .row (.int .i64) ([(r1.1.getD 0 0), (r1.1.getD 5 0), (r1.1.getD 2 0), 7, (-1), 4611686018427387904] : (List Int)))] ?_ (fun k14 => ?_)
  · refine ap_all [10] (by kernel_rfl) ⟨?_, trivial⟩
    refine apo_ao rfl ?_
    refine ao_callV [1] 3 trivial (c_spec_l1Cur_pick (is_mk r2h)) Try.func84 rfl rfl rfl rfl rfl ⟨rfl, trivial⟩ ⟨⟨_, rfl, ⟨ad_ren rfl, rfl, ad_ren rfl, rfl, ad_ren rfl, rfl, trivial⟩⟩, trivial⟩ rfl rfl rfl rfl rfl rfl rfl (fun r' H' hr => ?_)
    obtain ⟨rfl, rfl⟩ := hr
    refine ao_norm (y := .int .i64 r2.1) (H' := [(0, .var [.arr (.int .i64) 6 ((List.replicate 6 0) : (List Int))]), (2, .row (.int .i64) ([(r1.1.getD 0 0), (r1.1.getD 5 0), (r1.1.getD 2 0), 7, (-1), 4611686018427387904] : (List Int))), (1, .var [.cell (.v (.slice (.int .u8)) x0), .cell (.int .i64 r2.2.1), .cell (.int .u64 r2.2.2)])]) rfl rfl ?_
    refine ao_nil ?_
    refine ap_in ?_
    refine ap_pure 11 (by kernel_rfl) (fun _ _ _ h => h) rfl (by kernel_rfl) trivial (rp_quo rfl rfl (by decide)) rfl ?_
    refine ap_pure 12 (by kernel_rfl) (fun _ _ _ h => h) rfl (by kernel_rfl) trivial (rp_add rfl rfl) rfl ?_
    exact ap_go (by kernel_rfl) (sub_mk idn (by exact ⟨ai rfl, ai rfl, ai rfl, ai rfl, ai rfl, ai rfl, trivial⟩) (by exact ⟨⟨_, rfl, ⟨rfl, trivial⟩⟩, ⟨_, rfl, ⟨ad_ren rfl, rfl, ad_ren rfl, rfl, ad_ren rfl, rfl, trivial⟩⟩, ⟨_, rfl, rfl⟩, trivial⟩) (by rfl) (nk rfl)) k15
  refine ap_let (g := 7) (listed := #[true, true, true, true, true, true, false, false, false, true, true, true, true, false, false, false, false]) [(2, .ref 0 0), (3, .int .i64 0), (5, .ref 1 0), (11, .v (.arr 6 (.int .i64)) r1.1), (12, .ref 2 0), (14, .int .i64 (r1.1.getD 0 0)), (16, .int .i64 (r1.1.getD 5 0)), (23, .int .i64 (IntKind.wrap .i64 (3 + (IntKind.wrap .i64 (r2.1.tdiv 6)))))] [(0, .var [.arr (.int .i64) 6 ((List.replicate 6 0) : (List Int))]), (1, .var [.arr (.int .i64) 6 r1.1]), (2, .var [.cell (.v (.slice (.int .u8)) x0), .cell (.int .i64 r2.2.1), .cell (.int .u64 r2.2.2)])] ?_ (fun k20 => ?_)
  · refine ap_all [6] (by kernel_rfl) ⟨?_, trivial⟩
    refine apo_ao rfl ?_
    refine ao_read trivial (r_idxAddr_arr (i := 2) Try.underlying47 Try.sizeOf3 rfl rfl (show 0 ≤ 2 from by omega) (show 2 < (6 : Int) from by omega)) rfl ?_
    refine ao_nil ?_
    refine ap_in ?_
    exact ap_go (by kernel_rfl) (sub_mk (rn [(1, 2), (2, 1)]) (by exact ⟨ai rfl, ai rfl, ai rfl, ai rfl, ai rfl, ai rfl, ai rfl, ai rfl, trivial⟩) (by exact ⟨⟨_, rfl, ⟨rfl, trivial⟩⟩, ⟨_, rfl, ⟨ad_ren rfl, rfl, ad_ren rfl, rfl, ad_ren rfl, rfl, trivial⟩⟩, ⟨_, rfl, ⟨rfl, trivial⟩⟩, trivial⟩) (by rfl) (nk rfl)) k19
  refine ap_let (g := 7) (listed := #[true, true, true, true, true, false, true, false, false, true, true, true, true, false, false, false, false]) [(2, .ref 0 0), (3, .int .i64 0), (11, .v (.arr 6 (.int .i64)) r1.1), (12, .ref 1 0), (14, .int .i64 (r1.1.getD 0 0)), (15, .elem 2 0 1 5), (17, .elem 2 0 1 2), (23, .int .i64 (IntKind.wrap .i64 (3 + (IntKind.wrap .i64 (r2.1.tdiv 6)))))] [(0, .var [.arr (.int .i64) 6 ((List.replicate 6 0) : (List Int))]), (1, .var [.cell (.v (.slice (.int .u8)) x0), .cell (.int .i64 r2.2.1), .cell (.int .u64 r2.2.2)]), (2, .var [.arr (.int .i64) 6 r1.1])] ?_ (fun k24 => ?_)
  · refine ap_all [5, 7] (by kernel_rfl) ⟨?_, ?_, trivial⟩
    · refine apo_ao rfl ?_
      refine ao_read trivial (r_load_elema_int Try.isAgg3 Try.sizeOf3 rfl rfl rfl (show 5 < 6 from by omega)) rfl ?_
      refine ao_nil ?_
      refine ap_in ?_
      exact ap_go (by kernel_rfl) (sub_mk idn (by exact ⟨ai rfl, ai rfl, ai rfl, ai rfl, ai rfl, ai rfl, ai rfl, ai rfl, trivial⟩) (by exact ⟨⟨_, rfl, ⟨rfl, trivial⟩⟩, ⟨_, rfl, ⟨ad_ren rfl, rfl, ad_ren rfl, rfl, ad_ren rfl, rfl, trivial⟩⟩, ⟨_, rfl, ⟨rfl, trivial⟩⟩, trivial⟩) (by rfl) (nk rfl)) k19
    · refine apo_ao rfl ?_
      refine ao_read trivial (r_load_elema_int Try.isAgg3 Try.sizeOf3 rfl rfl rfl (show 2 < 6 from by omega)) rfl ?_
      refine ao_nil ?_
      refine ap_in ?_
      exact ap_go (by kernel_rfl) (sub_mk idn (by exact ⟨ai rfl, ai rfl, ai rfl, ai rfl, ai rfl, ai rfl, ai rfl, ai rfl, trivial⟩) (by exact ⟨⟨_, rfl, ⟨rfl, trivial⟩⟩, ⟨_, rfl, ⟨ad_ren rfl, rfl, ad_ren rfl, rfl, ad_ren rfl, rfl, trivial⟩⟩, ⟨_, rfl, ⟨rfl, trivial⟩⟩, trivial⟩) (by rfl) (nk rfl)) k23
  refine ap_let (g := 7) (listed := #[true, true, true, true, false, false, true, true, false, true, true, true, true, false, false, false, false]) [(2, .ref 0 0), (3, .int .i64 0), (5, .ref 1 0), (11, .v (.arr 6 (.int .i64)) r1.1), (12, .ref 2 0), (14, .int .i64 (r1.1.getD 0 0)), (18, .int .i64 (r1.1.getD 2 0)), (23, .int .i64 (IntKind.wrap .i64 (3 + (IntKind.wrap .i64 (r2.1.tdiv 6)))))] [(0, .var [.arr (.int .i64) 6 ((List.replicate 6 0) : (List Int))]), (1, .var [.arr (.int .i64) 6 r1.1]), (2, .var [.cell (.v (.slice (.int .u8)) x0), .cell (.int .i64 r2.2.1), .cell (.int .u64 r2.2.2)])] ?_ (fun k28 => ?_)
  · refine ap_all [4] (by kernel_rfl) ⟨?_, trivial⟩
    refine apo_ao rfl ?_
    refine ao_read trivial (r_idxAddr_arr (i := 5) Try.underlying47 Try.sizeOf3 rfl rfl (show 0 ≤ 5 from by omega) (show 5 < (6 : Int) from by omega)) rfl ?_
    refine ao_nil ?_
    refine ap_in ?_
    exact ap_go (by kernel_rfl) (sub_mk (rn [(1, 2), (2, 1)]) (by exact ⟨ai rfl, ai rfl, ai rfl, ai rfl, ai rfl, ai rfl, ai rfl, ai rfl, trivial⟩) (by exact ⟨⟨_, rfl, ⟨rfl, trivial⟩⟩, ⟨_, rfl, ⟨ad_ren rfl, rfl, ad_ren rfl, rfl, ad_ren rfl, rfl, trivial⟩⟩, ⟨_, rfl, ⟨rfl, trivial⟩⟩, trivial⟩) (by rfl) (nk rfl)) k23
  refine ap_let (g := 7) (listed := #[true, true, true, false, true, true, true, false, false, true, true, true, true, false, false, false, false]) [(2, .ref 0 0), (3, .int .i64 0), (11, .v (.arr 6 (.int .i64)) r1.1), (12, .ref 1 0), (13, .elem 2 0 1 0), (16, .int .i64 (r1.1.getD 5 0)), (17, .elem 2 0 1 2), (23, .int .i64 (IntKind.wrap .i64 (3 + (IntKind.wrap .i64 (r2.1.tdiv 6)))))] [(0, .var [.arr (.int .i64) 6 ((List.replicate 6 0) : (List Int))]), (1, .var [.cell (.v (.slice (.int .u8)) x0), .cell (.int .i64 r2.2.1), .cell (.int .u64 r2.2.2)]), (2, .var [.arr (.int .i64) 6 r1.1])] ?_ (fun k36 => ?_)
  · refine ap_all [3, 7] (by kernel_rfl) ⟨?_, ?_, trivial⟩
    · refine apo_ao rfl ?_
      refine ao_read trivial (r_load_elema_int Try.isAgg3 Try.sizeOf3 rfl rfl rfl (show 0 < 6 from by omega)) rfl ?_
      refine ao_nil ?_
      refine ap_in ?_
      exact ap_go (by kernel_rfl) (sub_mk idn (by exact ⟨ai rfl, ai rfl, ai rfl, ai rfl, ai rfl, ai rfl, ai rfl, ai rfl, trivial⟩) (by exact ⟨⟨_, rfl, ⟨rfl, trivial⟩⟩, ⟨_, rfl, ⟨ad_ren rfl, rfl, ad_ren rfl, rfl, ad_ren rfl, rfl, trivial⟩⟩, ⟨_, rfl, ⟨rfl, trivial⟩⟩, trivial⟩) (by rfl) (nk rfl)) k19
    · refine apo_ao rfl ?_
      refine ao_read trivial (r_load_elema_int Try.isAgg3 Try.sizeOf3 rfl rfl rfl (show 2 < 6 from by omega)) rfl ?_
      refine ao_nil ?_
      refine ap_in ?_
      exact ap_go (by kernel_rfl) (sub_mk idn (by exact ⟨ai rfl, ai rfl, ai rfl, ai rfl, ai rfl, ai rfl, ai rfl, ai rfl, trivial⟩) (by exact ⟨⟨_, rfl, ⟨rfl, trivial⟩⟩, ⟨_, rfl, ⟨ad_ren rfl, rfl, ad_ren rfl, rfl, ad_ren rfl, rfl, trivial⟩⟩, ⟨_, rfl, ⟨rfl, trivial⟩⟩, trivial⟩) (by rfl) (nk rfl)) k35
  refine ap_let (g := 7) (listed := #[true, true, true, false, true, false, true, true, false, true, true, true, true, false, false, false, false]) [(2, .ref 0 0), (3, .int .i64 0), (11, .v (.arr 6 (.int .i64)) r1.1), (12, .ref 1 0), (13, .elem 2 0 1 0), (15, .elem 2 0 1 5), (18, .int .i64 (r1.1.getD 2 0)), (23, .int .i64 (IntKind.wrap .i64 (3 + (IntKind.wrap .i64 (r2.1.tdiv 6)))))] [(0, .var [.arr (.int .i64) 6 ((List.replicate 6 0) : (List Int))]), (1, .var [.cell (.v (.slice (.int .u8)) x0), .cell (.int .i64 r2.2.1), .cell (.int .u64 r2.2.2)]), (2, .var [.arr (.int .i64) 6 r1.1])] ?_ (fun k40 => ?_)
  · refine ap_all [3, 5] (by kernel_rfl) ⟨?_, ?_, trivial⟩
    · refine apo_ao rfl ?_
      refine ao_read trivial (r_load_elema_int Try.isAgg3 Try.sizeOf3 rfl rfl rfl (show 0 < 6 from by omega)) rfl ?_
      refine ao_nil ?_
      refine ap_in ?_
      exact ap_go (by kernel_rfl) (sub_mk idn (by exact ⟨ai rfl, ai rfl, ai rfl, ai rfl, ai rfl, ai rfl, ai rfl, ai rfl, trivial⟩) (by exact ⟨⟨_, rfl, ⟨rfl, trivial⟩⟩, ⟨_, rfl, ⟨ad_ren rfl, rfl, ad_ren rfl, rfl, ad_ren rfl, rfl, trivial⟩⟩, ⟨_, rfl, ⟨rfl, trivial⟩⟩, trivial⟩) (by rfl) (nk rfl)) k23
    · refine apo_ao rfl ?_
      refine ao_read trivial (r_load_elema_int Try.isAgg3 Try.sizeOf3 rfl rfl rfl (show 5 < 6 from by omega)) rfl ?_
      refine ao_nil ?_
      refine ap_in ?_
      exact ap_go (by kernel_rfl) (sub_mk idn (by exact ⟨ai rfl, ai rfl, ai rfl, ai rfl, ai rfl, ai rfl, ai rfl, ai rfl, trivial⟩) (by exact ⟨⟨_, rfl, ⟨rfl, trivial⟩⟩, ⟨_, rfl, ⟨ad_ren rfl, rfl, ad_ren rfl, rfl, ad_ren rfl, rfl, trivial⟩⟩, ⟨_, rfl, ⟨rfl, trivial⟩⟩, trivial⟩) (by rfl) (nk rfl)) k35
  refine ap_let (g := 7) (listed := #[true, true, false, false, true, true, true, true, false, true, true, true, true, false, false, false, false]) [(2, .ref 0 0), (3, .int .i64 0), (5, .ref 1 0), (11, .v (.arr 6 (.int .i64)) r1.1), (12, .ref 2 0), (16, .int .i64 (r1.1.getD 5 0)), (18, .int .i64 (r1.1.getD 2 0)), (23, .int .i64 (IntKind.wrap .i64 (3 + (IntKind.wrap .i64 (r2.1.tdiv 6)))))] [(0, .var [.arr (.int .i64) 6 ((List.replicate 6 0) : (List Int))]), (1, .var [.arr (.int .i64) 6 r1.1]), (2, .var [.cell (.v (.slice (.int .u8)) x0), .cell (.int .i64 r2.2.1), .cell (.int .u64 r2.2.2)])] ?_ (fun k52 => ?_)
  · refine ap_all [2] (by kernel_rfl) ⟨?_, trivial⟩
    refine apo_ao rfl ?_
    refine ao_read trivial (r_idxAddr_arr (i := 0) Try.underlying47 Try.sizeOf3 rfl rfl (show 0 ≤ 0 from by omega) (show 0 < (6 : Int) from by omega)) rfl ?_
    refine ao_nil ?_
    refine ap_in ?_
    exact ap_go (by kernel_rfl) (sub_mk (rn [(1, 2), (2, 1)]) (by exact ⟨ai rfl, ai rfl, ai rfl, ai rfl, ai rfl, ai rfl, ai rfl, ai rfl, trivial⟩) (by exact ⟨⟨_, rfl, ⟨rfl, trivial⟩⟩, ⟨_, rfl, ⟨ad_ren rfl, rfl, ad_ren rfl, rfl, ad_ren rfl, rfl, trivial⟩⟩, ⟨_, rfl, ⟨rfl, trivial⟩⟩, trivial⟩) (by rfl) (nk rfl)) k35
  refine ap_let (g := 7) (listed := #[false, true, true, true, true, true, true, false, false, true, true, true, true, false, false, false, false]) [(2, .ref 0 0), (3, .int .i64 0), (5, .ref 1 0), (12, .ref 2 0), (14, .int .i64 (r1.1.getD 0 0)), (16, .int .i64 (r1.1.getD 5 0)), (17, .elem 1 0 1 2), (23, .int .i64 (IntKind.wrap .i64 (3 + (IntKind.wrap .i64 (r2.1.tdiv 6)))))] [(0, .var [.arr (.int .i64) 6 ((List.replicate 6 0) : (List Int))]), (1, .var [.arr (.int .i64) 6 r1.1]), (2, .var [.cell (.v (.slice (.int .u8)) x0), .cell (.int .i64 r2.2.1), .cell (.int .u64 r2.2.2)])] ?_ (fun k76 => ?_)
  · refine ap_all [0, 7] (by kernel_rfl) ⟨?_, ?_, trivial⟩
    · refine apo_ao rfl ?_
      refine ao_read trivial (r_load_arr rfl Try.isAgg47 Try.sizeOf47 rfl rfl rfl) rfl ?_
      refine ao_nil ?_
      refine ap_in ?_
      exact ap_go (by kernel_rfl) (sub_mk (rn [(1, 2), (2, 1)]) (by exact ⟨ai rfl, ai rfl, ai rfl, ai rfl, ai rfl, ai rfl, ai rfl, ai rfl, trivial⟩) (by exact ⟨⟨_, rfl, ⟨rfl, trivial⟩⟩, ⟨_, rfl, ⟨ad_ren rfl, rfl, ad_ren rfl, rfl, ad_ren rfl, rfl, trivial⟩⟩, ⟨_, rfl, ⟨rfl, trivial⟩⟩, trivial⟩) (by rfl) (nk rfl)) k19
    · refine apo_ao rfl ?_
      refine ao_read trivial (r_load_elema_int Try.isAgg3 Try.sizeOf3 rfl rfl rfl (show 2 < 6 from by omega)) rfl ?_
      refine ao_nil ?_
      refine ap_in ?_
      exact ap_go (by kernel_rfl) (sub_mk idn (by exact ⟨ai rfl, ai rfl, ai rfl, ai rfl, ai rfl, ai rfl, ai rfl, ai rfl, trivial⟩) (by exact ⟨⟨_, rfl, ⟨rfl, trivial⟩⟩, ⟨_, rfl, ⟨rfl, trivial⟩⟩, ⟨_, rfl, ⟨ad_ren rfl, rfl, ad_ren rfl, rfl, ad_ren rfl, rfl, trivial⟩⟩, trivial⟩) (by rfl) (nk rfl)) k75
  refine ap_let (g := 7) (listed := #[false, true, true, true, true, false, true, true, false, true, true, true, true, false, false, false, false]) [(2, .ref 0 0), (3, .int .i64 0), (5, .ref 1 0), (12, .ref 2 0), (14, .int .i64 (r1.1.getD 0 0)), (15, .elem 1 0 1 5), (18, .int .i64 (r1.1.getD 2 0)), (23, .int .i64 (IntKind.wrap .i64 (3 + (IntKind.wrap .i64 (r2.1.tdiv 6)))))] [(0, .var [.arr (.int .i64) 6 ((List.replicate 6 0) : (List Int))]), (1, .var [.arr (.int .i64) 6 r1.1]), (2, .var [.cell (.v (.slice (.int .u8)) x0), .cell (.int .i64 r2.2.1), .cell (.int .u64 r2.2.2)])] ?_ (fun k80 => ?_)
  · refine ap_all [0, 5] (by kernel_rfl) ⟨?_, ?_, trivial⟩
    · refine apo_ao rfl ?_
      refine ao_read trivial (r_load_arr rfl Try.isAgg47 Try.sizeOf47 rfl rfl rfl) rfl ?_
      refine ao_nil ?_
      refine ap_in ?_
      exact ap_go (by kernel_rfl) (sub_mk (rn [(1, 2), (2, 1)]) (by exact ⟨ai rfl, ai rfl, ai rfl, ai rfl, ai rfl, ai rfl, ai rfl, ai rfl, trivial⟩) (by exact ⟨⟨_, rfl, ⟨rfl, trivial⟩⟩, ⟨_, rfl, ⟨ad_ren rfl, rfl, ad_ren rfl, rfl, ad_ren rfl, rfl, trivial⟩⟩, ⟨_, rfl, ⟨rfl, trivial⟩⟩, trivial⟩) (by rfl) (nk rfl)) k23
    · refine apo_ao rfl ?_
      refine ao_read trivial (r_load_elema_int Try.isAgg3 Try.sizeOf3 rfl rfl rfl (show 5 < 6 from by omega)) rfl ?_
      refine ao_nil ?_
      refine ap_in ?_
      exact ap_go (by kernel_rfl) (sub_mk idn (by exact ⟨ai rfl, ai rfl, ai rfl, ai rfl, ai rfl, ai rfl, ai rfl, ai rfl, trivial⟩) (by exact ⟨⟨_, rfl, ⟨rfl, trivial⟩⟩, ⟨_, rfl, ⟨rfl, trivial⟩⟩, ⟨_, rfl, ⟨ad_ren rfl, rfl, ad_ren rfl, rfl, ad_ren rfl, rfl, trivial⟩⟩, trivial⟩) (by rfl) (nk rfl)) k75
  refine ap_let (g := 7) (listed := #[false, true, true, false, true, true, true, true, false, true, true, true, true, false, false, false, false]) [(2, .ref 0 0), (3, .int .i64 0), (5, .ref 1 0), (12, .ref 2 0), (13, .elem 1 0 1 0), (16, .int .i64 (r1.1.getD 5 0)), (18, .int .i64 (r1.1.getD 2 0)), (23, .int .i64 (IntKind.wrap .i64 (3 + (IntKind.wrap .i64 (r2.1.tdiv 6)))))] [(0, .var [.arr (.int .i64) 6 ((List.replicate 6 0) : (List Int))]), (1, .var [.arr (.int .i64) 6 r1.1]), (2, .var [.cell (.v (.slice (.int .u8)) x0), .cell (.int .i64 r2.2.1), .cell (.int .u64 r2.2.2)])] ?_ (fun k92 => ?_)
  · refine ap_all [0, 3] (by kernel_rfl) ⟨?_, ?_, trivial⟩
    · refine apo_ao rfl ?_
      refine ao_read trivial (r_load_arr rfl Try.isAgg47 Try.sizeOf47 rfl rfl rfl) rfl ?_
      refine ao_nil ?_
      refine ap_in ?_
      exact ap_go (by kernel_rfl) (sub_mk (rn [(1, 2), (2, 1)]) (by exact ⟨ai rfl, ai rfl, ai rfl, ai rfl, ai rfl, ai rfl, ai rfl, ai rfl, trivial⟩) (by exact ⟨⟨_, rfl, ⟨rfl, trivial⟩⟩, ⟨_, rfl, ⟨ad_ren rfl, rfl, ad_ren rfl, rfl, ad_ren rfl, rfl, trivial⟩⟩, ⟨_, rfl, ⟨rfl, trivial⟩⟩, trivial⟩) (by rfl) (nk rfl)) k35
    · refine apo_ao rfl ?_
      refine ao_read trivial (r_load_elema_int Try.isAgg3 Try.sizeOf3 rfl rfl rfl (show 0 < 6 from by omega)) rfl ?_
      refine ao_nil ?_
      refine ap_in ?_
      exact ap_go (by kernel_rfl) (sub_mk idn (by exact ⟨ai rfl, ai rfl, ai rfl, ai rfl, ai rfl, ai rfl, ai rfl, ai rfl, trivial⟩) (by exact ⟨⟨_, rfl, ⟨rfl, trivial⟩⟩, ⟨_, rfl, ⟨rfl, trivial⟩⟩, ⟨_, rfl, ⟨ad_ren rfl, rfl, ad_ren rfl, rfl, ad_ren rfl, rfl, trivial⟩⟩, trivial⟩) (by rfl) (nk rfl)) k75
  refine ap_let (g := 8) (listed := #[true, true, true, true, true, true, true, true, false, true, false, false, false, false, false, false, false]) [(2, .ref 0 0), (3, .int .i64 0), (11, .v (.arr 6 (.int .i64)) r1.1), (12, .ref 1 0), (14, .int .i64 (r1.1.getD 0 0)), (16, .int .i64 (r1.1.getD 5 0)), (18, .int .i64 (r1.1.getD 2 0)), (20, .ref 1 0)] [(0, .var [.arr (.int .i64) 6 ((List.replicate 6 0) : (List Int))]), (1, .var [.cell (.v (.slice (.int .u8)) x0), .cell (.int .i64 r1.2.1), .cell (.int .u64 r1.2.2)])] ?_ (fun k13 => ?_)
  · refine ap_all [8, 10] (by kernel_rfl) ⟨?_, ?_, trivial⟩
    · refine apo_ao rfl ?_
      refine ao_eff trivial (e_buildSlice (l := [(0, .tmp 14), (1, .tmp 16), (2, .tmp 18), (3, .const (.int .i64 7)), (4, .const (.int .i64 (-1))), (5, .const (.int .i64 4611686018427387904))]) (t := (.int .i64)) 2 ([(r1.1.getD 0 0), (r1.1.getD 5 0), (r1.1.getD 2 0), 7, (-1), 4611686018427387904] : (List Int)) rfl Try.underlying32 Try.zeroValue3 Try.sizeOf3 rfl rfl rfl rfl rfl rfl rfl) rfl ?_
      refine ao_nil ?_
      refine ap_in ?_
      exact ap_go (by kernel_rfl) (sub_mk idn (by exact ⟨ai rfl, ai rfl, ai rfl, ai rfl, ai rfl, ai rfl, trivial⟩) (by exact ⟨⟨_, rfl, ⟨rfl, trivial⟩⟩, ⟨_, rfl, ⟨ad_ren rfl, rfl, ad_ren rfl, rfl, ad_ren rfl, rfl, trivial⟩⟩, ⟨_, rfl, rfl⟩, trivial⟩) (by rfl) (nk rfl)) k14
    · refine apo_ao rfl ?_
      refine ao_callV [1] 2 trivial (c_spec_l1Cur_pick (is_mk r2h)) Try.func84 rfl rfl rfl rfl rfl ⟨rfl, trivial⟩ ⟨⟨_, rfl, ⟨ad_ren rfl, rfl, ad_ren rfl, rfl, ad_ren rfl, rfl, trivial⟩⟩, trivial⟩ rfl rfl rfl rfl rfl rfl rfl (fun r' H' hr => ?_)
      obtain ⟨rfl, rfl⟩ := hr
      refine ao_norm (y := .int .i64 r2.1) (H' := [(0, .var [.arr (.int .i64) 6 ((List.replicate 6 0) : (List Int))]), (1, .var [.cell (.v (.slice (.int .u8)) x0), .cell (.int .i64 r2.2.1), .cell (.int .u64 r2.2.2)])]) rfl rfl ?_
      refine ao_nil ?_
      refine ap_in ?_
      refine ap_pure 11 (by kernel_rfl) (fun _ _ _ h => h) rfl (by kernel_rfl) trivial (rp_quo rfl rfl (by decide)) rfl ?_
      refine ap_pure 12 (by kernel_rfl) (fun _ _ _ h => h) rfl (by kernel_rfl) trivial (rp_add rfl rfl) rfl ?_
      exact ap_go (by kernel_rfl) (sub_mk idn (by exact ⟨ai rfl, ai rfl, ai rfl, ai rfl, ai rfl, ai rfl, ai rfl, ai rfl, trivial⟩) (by exact ⟨⟨_, rfl, ⟨rfl, trivial⟩⟩, ⟨_, rfl, ⟨ad_ren rfl, rfl, ad_ren rfl, rfl, ad_ren rfl, rfl, trivial⟩⟩, trivial⟩) (by rfl) (nk rfl)) k18
  refine ap_let (g := 8) (listed := #[true, true, true, true, true, false, false, false, false, true, true, true, true, false, false, false, false]) [(2, .ref 0 0), (3, .int .i64 0), (5, .ref 1 0), (11, .v (.arr 6 (.int .i64)) r1.1), (12, .ref 2 0), (14, .int .i64 (r1.1.getD 0 0)), (15, .elem 1 0 1 5), (23, .int .i64 (IntKind.wrap .i64 (3 + (IntKind.wrap .i64 (r2.1.tdiv 6)))))] [(0, .var [.arr (.int .i64) 6 ((List.replicate 6 0) : (List Int))]), (1, .var [.arr (.int .i64) 6 r1.1]), (2, .var [.cell (.v (.slice (.int .u8)) x0), .cell (.int .i64 r2.2.1), .cell (.int .u64 r2.2.2)])] ?_ (fun k25 => ?_)
  · refine ap_all [5, 6] (by kernel_rfl) ⟨?_, ?_, trivial⟩
    · refine apo_ao rfl ?_
      refine ao_read trivial (r_load_elema_int Try.isAgg3 Try.sizeOf3 rfl rfl rfl (show 5 < 6 from by omega)) rfl ?_
      refine ao_nil ?_
      refine ap_in ?_
      exact ap_go (by kernel_rfl) (sub_mk idn (by exact ⟨ai rfl, ai rfl, ai rfl, ai rfl, ai rfl, ai rfl, ai rfl, ai rfl, trivial⟩) (by exact ⟨⟨_, rfl, ⟨rfl, trivial⟩⟩, ⟨_, rfl, ⟨rfl, trivial⟩⟩, ⟨_, rfl, ⟨ad_ren rfl, rfl, ad_ren rfl, rfl, ad_ren rfl, rfl, trivial⟩⟩, trivial⟩) (by rfl) (nk rfl)) k20
    · refine apo_ao rfl ?_
      refine ao_read trivial (r_idxAddr_arr (i := 2) Try.underlying47 Try.sizeOf3 rfl rfl (show 0 ≤ 2 from by omega) (show 2 < (6 : Int) from by omega)) rfl ?_
      refine ao_nil ?_
      refine ap_in ?_
      exact ap_go (by kernel_rfl) (sub_mk (rn [(1, 2), (2, 1)]) (by exact ⟨ai rfl, ai rfl, ai rfl, ai rfl, ai rfl, ai rfl, ai rfl, ai rfl, trivial⟩) (by exact ⟨⟨_, rfl, ⟨rfl, trivial⟩⟩, ⟨_, rfl, ⟨ad_ren rfl, rfl, ad_ren rfl, rfl, ad_ren rfl, rfl, trivial⟩⟩, ⟨_, rfl, ⟨rfl, trivial⟩⟩, trivial⟩) (by rfl) (nk rfl)) k24
  refine ap_let (g := 8) (listed := #[true, true, true, true, false, false, true, false, false, true, true, true, true, false, false, false, false]) [(2, .ref 0 0), (3, .int .i64 0), (5, .ref 1 0), (11, .v (.arr 6 (.int .i64)) r1.1), (12, .ref 2 0), (14, .int .i64 (r1.1.getD 0 0)), (17, .elem 1 0 1 2), (23, .int .i64 (IntKind.wrap .i64 (3 + (IntKind.wrap .i64 (r2.1.tdiv 6)))))] [(0, .var [.arr (.int .i64) 6 ((List.replicate 6 0) : (List Int))]), (1, .var [.arr (.int .i64) 6 r1.1]), (2, .var [.cell (.v (.slice (.int .u8)) x0), .cell (.int .i64 r2.2.1), .cell (.int .u64 r2.2.2)])] ?_ (fun k29 => ?_)
  · refine ap_all [4, 7] (by kernel_rfl) ⟨?_, ?_, trivial⟩
    · refine apo_ao rfl ?_
      refine ao_read trivial (r_idxAddr_arr (i := 5) Try.underlying47 Try.sizeOf3 rfl rfl (show 0 ≤ 5 from by omega) (show 5 < (6 : Int) from by omega)) rfl ?_
      refine ao_nil ?_
      refine ap_in ?_
      exact ap_go (by kernel_rfl) (sub_mk (rn [(1, 2), (2, 1)]) (by exact ⟨ai rfl, ai rfl, ai rfl, ai rfl, ai rfl, ai rfl, ai rfl, ai rfl, trivial⟩) (by exact ⟨⟨_, rfl, ⟨rfl, trivial⟩⟩, ⟨_, rfl, ⟨ad_ren rfl, rfl, ad_ren rfl, rfl, ad_ren rfl, rfl, trivial⟩⟩, ⟨_, rfl, ⟨rfl, trivial⟩⟩, trivial⟩) (by rfl) (nk rfl)) k24
    · refine apo_ao rfl ?_
      refine ao_read trivial (r_load_elema_int Try.isAgg3 Try.sizeOf3 rfl rfl rfl (show 2 < 6 from by omega)) rfl ?_
      refine ao_nil ?_
      refine ap_in ?_
      exact ap_go (by kernel_rfl) (sub_mk idn (by exact ⟨ai rfl, ai rfl, ai rfl, ai rfl, ai rfl, ai rfl, ai rfl, ai rfl, trivial⟩) (by exact ⟨⟨_, rfl, ⟨rfl, trivial⟩⟩, ⟨_, rfl, ⟨rfl, trivial⟩⟩, ⟨_, rfl, ⟨ad_ren rfl, rfl, ad_ren rfl, rfl, ad_ren rfl, rfl, trivial⟩⟩, trivial⟩) (by rfl) (nk rfl)) k28
  refine ap_let (g := 8) (listed := #[true, true, true, false, true, true, false, false, false, true, true, true, true, false, false, false, false]) [(2, .ref 0 0), (3, .int .i64 0), (5, .ref 1 0), (11, .v (.arr 6 (.int .i64)) r1.1), (12, .ref 2 0), (13, .elem 1 0 1 0), (16, .int .i64 (r1.1.getD 5 0)), (23, .int .i64 (IntKind.wrap .i64 (3 + (IntKind.wrap .i64 (r2.1.tdiv 6)))))] [(0, .var [.arr (.int .i64) 6 ((List.replicate 6 0) : (List Int))]), (1, .var [.arr (.int .i64) 6 r1.1]), (2, .var [.cell (.v (.slice (.int .u8)) x0), .cell (.int .i64 r2.2.1), .cell (.int .u64 r2.2.2)])] ?_ (fun k37 => ?_)
  · refine ap_all [3, 6] (by kernel_rfl) ⟨?_, ?_, trivial⟩
    · refine apo_ao rfl ?_
      refine ao_read trivial (r_load_elema_int Try.isAgg3 Try.sizeOf3 rfl rfl rfl (show 0 < 6 from by omega)) rfl ?_
      refine ao_nil ?_
      refine ap_in ?_
      exact ap_go (by kernel_rfl) (sub_mk idn (by exact ⟨ai rfl, ai rfl, ai rfl, ai rfl, ai rfl, ai rfl, ai rfl, ai rfl, trivial⟩) (by exact ⟨⟨_, rfl, ⟨rfl, trivial⟩⟩, ⟨_, rfl, ⟨rfl, trivial⟩⟩, ⟨_, rfl, ⟨ad_ren rfl, rfl, ad_ren rfl, rfl, ad_ren rfl, rfl, trivial⟩⟩, trivial⟩) (by rfl) (nk rfl)) k20
    · refine apo_ao rfl ?_
      refine ao_read trivial (r_idxAddr_arr (i := 2) Try.underlying47 Try.sizeOf3 rfl rfl (show 0 ≤ 2 from by omega) (show 2 < (6 : Int) from by omega)) rfl ?_
      refine ao_nil ?_
      refine ap_in ?_
      exact ap_go (by kernel_rfl) (sub_mk (rn [(1, 2), (2, 1)]) (by exact ⟨ai rfl, ai rfl, ai rfl, ai rfl, ai rfl, ai rfl, ai rfl, ai rfl, trivial⟩) (by exact ⟨⟨_, rfl, ⟨rfl, trivial⟩⟩, ⟨_, rfl, ⟨ad_ren rfl, rfl, ad_ren rfl, rfl, ad_ren rfl, rfl, trivial⟩⟩, ⟨_, rfl, ⟨rfl, trivial⟩⟩, trivial⟩) (by rfl) (nk rfl)) k36
  refine ap_let (g := 8) (listed := #[true, true, true, false, true, false, true, false, false, true, true, true, true, false, false, false, false]) [(2, .ref 0 0), (3, .int .i64 0), (11, .v (.arr 6 (.int .i64)) r1.1), (12, .ref 1 0), (13, .elem 2 0 1 0), (15, .elem 2 0 1 5), (17, .elem 2 0 1 2), (23, .int .i64 (IntKind.wrap .i64 (3 + (IntKind.wrap .i64 (r2.1.tdiv 6)))))] [(0, .var [.arr (.int .i64) 6 ((List.replicate 6 0) : (List Int))]), (1, .var [.cell (.v (.slice (.int .u8)) x0), .cell (.int .i64 r2.2.1), .cell (.int .u64 r2.2.2)]), (2, .var [.arr (.int .i64) 6 r1.1])] ?_ (fun k41 => ?_)
  · refine ap_all [3, 5, 7] (by kernel_rfl) ⟨?_, ?_, ?_, trivial⟩
    · refine apo_ao rfl ?_
      refine ao_read trivial (r_load_elema_int Try.isAgg3 Try.sizeOf3 rfl rfl rfl (show 0 < 6 from by omega)) rfl ?_
      refine ao_nil ?_
      refine ap_in ?_
      exact ap_go (by kernel_rfl) (sub_mk idn (by exact ⟨ai rfl, ai rfl, ai rfl, ai rfl, ai rfl, ai rfl, ai rfl, ai rfl, trivial⟩) (by exact ⟨⟨_, rfl, ⟨rfl, trivial⟩⟩, ⟨_, rfl, ⟨ad_ren rfl, rfl, ad_ren rfl, rfl, ad_ren rfl, rfl, trivial⟩⟩, ⟨_, rfl, ⟨rfl, trivial⟩⟩, trivial⟩) (by rfl) (nk rfl)) k24
    · refine apo_ao rfl ?_
      refine ao_read trivial (r_load_elema_int Try.isAgg3 Try.sizeOf3 rfl rfl rfl (show 5 < 6 from by omega)) rfl ?_
      refine ao_nil ?_
      refine ap_in ?_
      exact ap_go (by kernel_rfl) (sub_mk idn (by exact ⟨ai rfl, ai rfl, ai rfl, ai rfl, ai rfl, ai rfl, ai rfl, ai rfl, trivial⟩) (by exact ⟨⟨_, rfl, ⟨rfl, trivial⟩⟩, ⟨_, rfl, ⟨ad_ren rfl, rfl, ad_ren rfl, rfl, ad_ren rfl, rfl, trivial⟩⟩, ⟨_, rfl, ⟨rfl, trivial⟩⟩, trivial⟩) (by rfl) (nk rfl)) k36
    · refine apo_ao rfl ?_
      refine ao_read trivial (r_load_elema_int Try.isAgg3 Try.sizeOf3 rfl rfl rfl (show 2 < 6 from by omega)) rfl ?_
      refine ao_nil ?_
      refine ap_in ?_
      exact ap_go (by kernel_rfl) (sub_mk idn (by exact ⟨ai rfl, ai rfl, ai rfl, ai rfl, ai rfl, ai rfl, ai rfl, ai rfl, trivial⟩) (by exact ⟨⟨_, rfl, ⟨rfl, trivial⟩⟩, ⟨_, rfl, ⟨ad_ren rfl, rfl, ad_ren rfl, rfl, ad_ren rfl, rfl, trivial⟩⟩, ⟨_, rfl, ⟨rfl, trivial⟩⟩, trivial⟩) (by rfl) (nk rfl)) k40
  refine ap_let (g := 8) (listed := #[true, true, true, false, false, false, true, true, false, true, true, true, true, false, false, false, false]) [(2, .ref 0 0), (3, .int .i64 0), (5, .ref 1 0), (11, .v (.arr 6 (.int .i64)) r1.1), (12, .ref 2 0), (13, .elem 1 0 1 0), (18, .int .i64 (r1.1.getD 2 0)), (23, .int .i64 (IntKind.wrap .i64 (3 + (IntKind.wrap .i64 (r2.1.tdiv 6)))))] [(0, .var [.arr (.int .i64) 6 ((List.replicate 6 0) : (List Int))]), (1, .var [.arr (.int .i64) 6 r1.1]), (2, .var [.cell (.v (.slice (.int .u8)) x0), .cell (.int .i64 r2.2.1), .cell (.int .u64 r2.2.2)])] ?_ (fun k45 => ?_)
  · refine ap_all [3, 4] (by kernel_rfl) ⟨?_, ?_, trivial⟩
    · refine apo_ao rfl ?_
      refine ao_read trivial (r_load_elema_int Try.isAgg3 Try.sizeOf3 rfl rfl rfl (show 0 < 6 from by omega)) rfl ?_
      refine ao_nil ?_
      refine ap_in ?_
      exact ap_go (by kernel_rfl) (sub_mk idn (by exact ⟨ai rfl, ai rfl, ai rfl, ai rfl, ai rfl, ai rfl, ai rfl, ai rfl, trivial⟩) (by exact ⟨⟨_, rfl, ⟨rfl, trivial⟩⟩, ⟨_, rfl, ⟨rfl, trivial⟩⟩, ⟨_, rfl, ⟨ad_ren rfl, rfl, ad_ren rfl, rfl, ad_ren rfl, rfl, trivial⟩⟩, trivial⟩) (by rfl) (nk rfl)) k28
    · refine apo_ao rfl ?_
      refine ao_read trivial (r_idxAddr_arr (i := 5) Try.underlying47 Try.sizeOf3 rfl rfl (show 0 ≤ 5 from by omega) (show 5 < (6 : Int) from by omega)) rfl ?_
      refine ao_nil ?_
      refine ap_in ?_
      exact ap_go (by kernel_rfl) (sub_mk (rn [(1, 2), (2, 1)]) (by exact ⟨ai rfl, ai rfl, ai rfl, ai rfl, ai rfl, ai rfl, ai rfl, ai rfl, trivial⟩) (by exact ⟨⟨_, rfl, ⟨rfl, trivial⟩⟩, ⟨_, rfl, ⟨ad_ren rfl, rfl, ad_ren rfl, rfl, ad_ren rfl, rfl, trivial⟩⟩, ⟨_, rfl, ⟨rfl, trivial⟩⟩, trivial⟩) (by rfl) (nk rfl)) k40
  refine ap_let (g := 8) (listed := #[true, true, false, false, true, true, true, false, false, true, true, true, true, false, false, false, false]) [(2, .ref 0 0), (3, .int .i64 0), (5, .ref 1 0), (11, .v (.arr 6 (.int .i64)) r1.1), (12, .ref 2 0), (16, .int .i64 (r1.1.getD 5 0)), (17, .elem 1 0 1 2), (23, .int .i64 (IntKind.wrap .i64 (3 + (IntKind.wrap .i64 (r2.1.tdiv 6)))))] [(0, .var [.arr (.int .i64) 6 ((List.replicate 6 0) : (List Int))]), (1, .var [.arr (.int .i64) 6 r1.1]), (2, .var [.cell (.v (.slice (.int .u8)) x0), .cell (.int .i64 r2.2.1), .cell (.int .u64 r2.2.2)])] ?_ (fun k53 => ?_)
  · refine ap_all [2, 7] (by kernel_rfl) ⟨?_, ?_, trivial⟩
    · refine apo_ao rfl ?_
      refine ao_read trivial (r_idxAddr_arr (i := 0) Try.underlying47 Try.sizeOf3 rfl rfl (show 0 ≤ 0 from by omega) (show 0 < (6 : Int) from by omega)) rfl ?_
      refine ao_nil ?_
      refine ap_in ?_
      exact ap_go (by kernel_rfl) (sub_mk (rn [(1, 2), (2, 1)]) (by exact ⟨ai rfl, ai rfl, ai rfl, ai rfl, ai rfl, ai rfl, ai rfl, ai rfl, trivial⟩) (by exact ⟨⟨_, rfl, ⟨rfl, trivial⟩⟩, ⟨_, rfl, ⟨ad_ren rfl, rfl, ad_ren rfl, rfl, ad_ren rfl, rfl, trivial⟩⟩, ⟨_, rfl, ⟨rfl, trivial⟩⟩, trivial⟩) (by rfl) (nk rfl)) k36
    · refine apo_ao rfl ?_
      refine ao_read trivial (r_load_elema_int Try.isAgg3 Try.sizeOf3 rfl rfl rfl (show 2 < 6 from by omega)) rfl ?_
      refine ao_nil ?_
      refine ap_in ?_
      exact ap_go (by kernel_rfl) (sub_mk idn (by exact ⟨ai rfl, ai rfl, ai rfl, ai rfl, ai rfl, ai rfl, ai rfl, ai rfl, trivial⟩) (by exact ⟨⟨_, rfl, ⟨rfl, trivial⟩⟩, ⟨_, rfl, ⟨rfl, trivial⟩⟩, ⟨_, rfl, ⟨ad_ren rfl, rfl, ad_ren rfl, rfl, ad_ren rfl, rfl, trivial⟩⟩, trivial⟩) (by rfl) (nk rfl)) k52
  refine ap_let (g := 8) (listed := #[true, true, false, false, true, false, true, true, false, true, true, true, true, false, false, false, false]) [(2, .ref 0 0), (3, .int .i64 0), (5, .ref 1 0), (11, .v (.arr 6 (.int .i64)) r1.1), (12, .ref 2 0), (15, .elem 1 0 1 5), (18, .int .i64 (r1.1.getD 2 0)), (23, .int .i64 (IntKind.wrap .i64 (3 + (IntKind.wrap .i64 (r2.1.tdiv 6)))))] [(0, .var [.arr (.int .i64) 6 ((List.replicate 6 0) : (List Int))]), (1, .var [.arr (.int .i64) 6 r1.1]), (2, .var [.cell (.v (.slice (.int .u8)) x0), .cell (.int .i64 r2.2.1), .cell (.int .u64 r2.2.2)])] ?_ (fun k57 => ?_)
  · refine ap_all [2, 5] (by kernel_rfl) ⟨?_, ?_, trivial⟩
    · refine apo_ao rfl ?_
      refine ao_read trivial (r_idxAddr_arr (i := 0) Try.underlying47 Try.sizeOf3 rfl rfl (show 0 ≤ 0 from by omega) (show 0 < (6 : Int) from by omega)) rfl ?_
      refine ao_nil ?_
      refine ap_in ?_
      exact ap_go (by kernel_rfl) (sub_mk (rn [(1, 2), (2, 1)]) (by exact ⟨ai rfl, ai rfl, ai rfl, ai rfl, ai rfl, ai rfl, ai rfl, ai rfl, trivial⟩) (by exact ⟨⟨_, rfl, ⟨rfl, trivial⟩⟩, ⟨_, rfl, ⟨ad_ren rfl, rfl, ad_ren rfl, rfl, ad_ren rfl, rfl, trivial⟩⟩, ⟨_, rfl, ⟨rfl, trivial⟩⟩, trivial⟩) (by rfl) (nk rfl)) k40
    · refine apo_ao rfl ?_
      refine ao_read trivial (r_load_elema_int Try.isAgg3 Try.sizeOf3 rfl rfl rfl (show 5 < 6 from by omega)) rfl ?_
      refine ao_nil ?_
      refine ap_in ?_
      exact ap_go (by kernel_rfl) (sub_mk idn (by exact ⟨ai rfl, ai rfl, ai rfl, ai rfl, ai rfl, ai rfl, ai rfl, ai rfl, trivial⟩) (by exact ⟨⟨_, rfl, ⟨rfl, trivial⟩⟩, ⟨_, rfl, ⟨rfl, trivial⟩⟩, ⟨_, rfl, ⟨ad_ren rfl, rfl, ad_ren rfl, rfl, ad_ren rfl, rfl, trivial⟩⟩, trivial⟩) (by rfl) (nk rfl)) k52
  refine ap_let (g := 8) (listed := #[false, true, true, true, true, true, true, true, true, true, false, false, false, false, false, false, false]) [(2, .ref 0 0), (3, .int .i64 0), (5, .ref 1 0), (12, .ref 2 0), (19, .os 3), (20, .ref 2 0)] [(0, .var [.arr (.int .i64) 6 ((List.replicate 6 0) : (List Int))]), (1, .var [.arr (.int .i64) 6 r1.1]), (2, .var [.cell (.v (.slice (.int .u8)) x0), .cell (.int .i64 r1.2.1), .cell (.int .u64 r1.2.2)]), (3, .row (.int .i64) ([(r1.1.getD 0 0), (r1.1.getD 5 0), (r1.1.getD 2 0), 7, (-1), 4611686018427387904] : (List Int)))] ?_ (fun k71 => ?_)
  · refine ap_all [0, 10] (by kernel_rfl) ⟨?_, ?_, trivial⟩
    · refine apo_ao rfl ?_
      refine ao_read trivial (r_load_arr rfl Try.isAgg47 Try.sizeOf47 rfl rfl rfl) rfl ?_
      refine ao_nil ?_
      refine ap_in ?_
      exact ap_go (by kernel_rfl) (sub_mk (rn [(1, 2), (2, 3)]) (by exact ⟨ai rfl, ai rfl, ai rfl, ai rfl, ai rfl, ai rfl, trivial⟩) (by exact ⟨⟨_, rfl, ⟨rfl, trivial⟩⟩, ⟨_, rfl, ⟨ad_ren rfl, rfl, ad_ren rfl, rfl, ad_ren rfl, rfl, trivial⟩⟩, ⟨_, rfl, rfl⟩, trivial⟩) (by rfl) (nk rfl)) k14
    · refine apo_ao rfl ?_
      refine ao_callV [2] 4 trivial (c_spec_l1Cur_pick (is_mk r2h)) Try.func84 rfl rfl rfl rfl rfl ⟨rfl, trivial⟩ ⟨⟨_, rfl, ⟨ad_ren rfl, rfl, ad_ren rfl, rfl, ad_ren rfl, rfl, trivial⟩⟩, trivial⟩ rfl rfl rfl rfl rfl rfl rfl (fun r' H' hr => ?_)
      obtain ⟨rfl, rfl⟩ := hr
      refine ao_norm (y := .int .i64 r2.1) (H' := [(0, .var [.arr (.int .i64) 6 ((List.replicate 6 0) : (List Int))]), (1, .var [.arr (.int .i64) 6 r1.1]), (3, .row (.int .i64) ([(r1.1.getD 0 0), (r1.1.getD 5 0), (r1.1.getD 2 0), 7, (-1), 4611686018427387904] : (List Int))), (2, .var [.cell (.v (.slice (.int .u8)) x0), .cell (.int .i64 r2.2.1), .cell (.int .u64 r2.2.2)])]) rfl rfl ?_
      refine ao_nil ?_
      refine ap_in ?_
      refine ap_pure 11 (by kernel_rfl) (fun _ _ _ h => h) rfl (by kernel_rfl) trivial (rp_quo rfl rfl (by decide)) rfl ?_
      refine ap_pure 12 (by kernel_rfl) (fun _ _ _ h => h) rfl (by kernel_rfl) trivial (rp_add rfl rfl) rfl ?_
      exact ap_go (by kernel_rfl) (sub_mk idn (by exact ⟨ai rfl, ai rfl, ai rfl, ai rfl, ai rfl, ai rfl, trivial⟩) (by exact ⟨⟨_, rfl, ⟨rfl, trivial⟩⟩, ⟨_, rfl, ⟨rfl, trivial⟩⟩, ⟨_, rfl, ⟨ad_ren rfl, rfl, ad_ren rfl, rfl, ad_ren rfl, rfl, trivial⟩⟩, ⟨_, rfl, rfl⟩, trivial⟩) (by rfl) (nk rfl)) k72
  refine ap_let (g := 8) (listed := #[false, true, true, true, true, true, false, false, false, true, true, true, true, false, false, false, false]) [(2, .ref 0 0), (3, .int .i64 0), (5, .ref 1 0), (12, .ref 2 0), (14, .int .i64 (r1.1.getD 0 0)), (16, .int .i64 (r1.1.getD 5 0)), (23, .int .i64 (IntKind.wrap .i64 (3 + (IntKind.wrap .i64 (r2.1.tdiv 6)))))] [(0, .var [.arr (.int .i64) 6 ((List.replicate 6 0) : (List Int))]), (1, .var [.arr (.int .i64) 6 r1.1]), (2, .var [.cell (.v (.slice (.int .u8)) x0), .cell (.int .i64 r2.2.1), .cell (.int .u64 r2.2.2)])] ?_ (fun k77 => ?_)
  · refine ap_all [0, 6] (by kernel_rfl) ⟨?_, ?_, trivial⟩
    · refine apo_ao rfl ?_
      refine ao_read trivial (r_load_arr rfl Try.isAgg47 Try.sizeOf47 rfl rfl rfl) rfl ?_
      refine ao_nil ?_
      refine ap_in ?_
      exact ap_go (by kernel_rfl) (sub_mk idn (by exact ⟨ai rfl, ai rfl, ai rfl, ai rfl, ai rfl, ai rfl, ai rfl, ai rfl, trivial⟩) (by exact ⟨⟨_, rfl, ⟨rfl, trivial⟩⟩, ⟨_, rfl, ⟨rfl, trivial⟩⟩, ⟨_, rfl, ⟨ad_ren rfl, rfl, ad_ren rfl, rfl, ad_ren rfl, rfl, trivial⟩⟩, trivial⟩) (by rfl) (nk rfl)) k20
    · refine apo_ao rfl ?_
      refine ao_read trivial (r_idxAddr_arr (i := 2) Try.underlying47 Try.sizeOf3 rfl rfl (show 0 ≤ 2 from by omega) (show 2 < (6 : Int) from by omega)) rfl ?_
      refine ao_nil ?_
      refine ap_in ?_
      exact ap_go (by kernel_rfl) (sub_mk idn (by exact ⟨ai rfl, ai rfl, ai rfl, ai rfl, ai rfl, ai rfl, ai rfl, ai rfl, trivial⟩) (by exact ⟨⟨_, rfl, ⟨rfl, trivial⟩⟩, ⟨_, rfl, ⟨rfl, trivial⟩⟩, ⟨_, rfl, ⟨ad_ren rfl, rfl, ad_ren rfl, rfl, ad_ren rfl, rfl, trivial⟩⟩, trivial⟩) (by rfl) (nk rfl)) k76
  refine ap_let (g := 8) (listed := #[false, true, true, true, true, false, true, false, false, true, true, true, true, false, false, false, false]) [(2, .ref 0 0), (3, .int .i64 0), (5, .ref 1 0), (12, .ref 2 0), (14, .int .i64 (r1.1.getD 0 0)), (15, .elem 1 0 1 5), (17, .elem 1 0 1 2), (23, .int .i64 (IntKind.wrap .i64 (3 + (IntKind.wrap .i64 (r2.1.tdiv 6)))))] [(0, .var [.arr (.int .i64) 6 ((List.replicate 6 0) : (List Int))]), (1, .var [.arr (.int .i64) 6 r1.1]), (2, .var [.cell (.v (.slice (.int .u8)) x0), .cell (.int .i64 r2.2.1), .cell (.int .u64 r2.2.2)])] ?_ (fun k81 => ?_)
  · refine ap_all [0, 5, 7] (by kernel_rfl) ⟨?_, ?_, ?_, trivial⟩
    · refine apo_ao rfl ?_
      refine ao_read trivial (r_load_arr rfl Try.isAgg47 Try.sizeOf47 rfl rfl rfl) rfl ?_
      refine ao_nil ?_
      refine ap_in ?_
      exact ap_go (by kernel_rfl) (sub_mk (rn [(1, 2), (2, 1)]) (by exact ⟨ai rfl, ai rfl, ai rfl, ai rfl, ai rfl, ai rfl, ai rfl, ai rfl, trivial⟩) (by exact ⟨⟨_, rfl, ⟨rfl, trivial⟩⟩, ⟨_, rfl, ⟨ad_ren rfl, rfl, ad_ren rfl, rfl, ad_ren rfl, rfl, trivial⟩⟩, ⟨_, rfl, ⟨rfl, trivial⟩⟩, trivial⟩) (by rfl) (nk rfl)) k24
    · refine apo_ao rfl ?_
      refine ao_read trivial (r_load_elema_int Try.isAgg3 Try.sizeOf3 rfl rfl rfl (show 5 < 6 from by omega)) rfl ?_
      refine ao_nil ?_
      refine ap_in ?_
      exact ap_go (by kernel_rfl) (sub_mk idn (by exact ⟨ai rfl, ai rfl, ai rfl, ai rfl, ai rfl, ai rfl, ai rfl, ai rfl, trivial⟩) (by exact ⟨⟨_, rfl, ⟨rfl, trivial⟩⟩, ⟨_, rfl, ⟨rfl, trivial⟩⟩, ⟨_, rfl, ⟨ad_ren rfl, rfl, ad_ren rfl, rfl, ad_ren rfl, rfl, trivial⟩⟩, trivial⟩) (by rfl) (nk rfl)) k76
    · refine apo_ao rfl ?_
      refine ao_read trivial (r_load_elema_int Try.isAgg3 Try.sizeOf3 rfl rfl rfl (show 2 < 6 from by omega)) rfl ?_
      refine ao_nil ?_
      refine ap_in ?_
      exact ap_go (by kernel_rfl) (sub_mk idn (by exact ⟨ai rfl, ai rfl, ai rfl, ai rfl, ai rfl, ai rfl, ai rfl, ai rfl, trivial⟩) (by exact ⟨⟨_, rfl, ⟨rfl, trivial⟩⟩, ⟨_, rfl, ⟨rfl, trivial⟩⟩, ⟨_, rfl, ⟨ad_ren rfl, rfl, ad_ren rfl, rfl, ad_ren rfl, rfl, trivial⟩⟩, trivial⟩) (by rfl) (nk rfl)) k80
  refine ap_let (g := 8) (listed := #[false, true, true, true, false, false, true, true, false, true, true, true, true, false, false, false, false]) [(2, .ref 0 0), (3, .int .i64 0), (5, .ref 1 0), (12, .ref 2 0), (14, .int .i64 (r1.1.getD 0 0)), (18, .int .i64 (r1.1.getD 2 0)), (23, .int .i64 (IntKind.wrap .i64 (3 + (IntKind.wrap .i64 (r2.1.tdiv 6)))))] [(0, .var [.arr (.int .i64) 6 ((List.replicate 6 0) : (List Int))]), (1, .var [.arr (.int .i64) 6 r1.1]), (2, .var [.cell (.v (.slice (.int .u8)) x0), .cell (.int .i64 r2.2.1), .cell (.int .u64 r2.2.2)])] ?_ (fun k85 => ?_)
  · refine ap_all [0, 4] (by kernel_rfl) ⟨?_, ?_, trivial⟩
    · refine apo_ao rfl ?_
      refine ao_read trivial (r_load_arr rfl Try.isAgg47 Try.sizeOf47 rfl rfl rfl) rfl ?_
      refine ao_nil ?_
      refine ap_in ?_
      exact ap_go (by kernel_rfl) (sub_mk idn (by exact ⟨ai rfl, ai rfl, ai rfl, ai rfl, ai rfl, ai rfl, ai rfl, ai rfl, trivial⟩) (by exact ⟨⟨_, rfl, ⟨rfl, trivial⟩⟩, ⟨_, rfl, ⟨rfl, trivial⟩⟩, ⟨_, rfl, ⟨ad_ren rfl, rfl, ad_ren rfl, rfl, ad_ren rfl, rfl, trivial⟩⟩, trivial⟩) (by rfl) (nk rfl)) k28
    · refine apo_ao rfl ?_
      refine ao_read trivial (r_idxAddr_arr (i := 5) Try.underlying47 Try.sizeOf3 rfl rfl (show 0 ≤ 5 from by omega) (show 5 < (6 : Int) from by omega)) rfl ?_
      refine ao_nil ?_
      refine ap_in ?_
      exact ap_go (by kernel_rfl) (sub_mk idn (by exact ⟨ai rfl, ai rfl, ai rfl, ai rfl, ai rfl, ai rfl, ai rfl, ai rfl, trivial⟩) (by exact ⟨⟨_, rfl, ⟨rfl, trivial⟩⟩, ⟨_, rfl, ⟨rfl, trivial⟩⟩, ⟨_, rfl, ⟨ad_ren rfl, rfl, ad_ren rfl, rfl, ad_ren rfl, rfl, trivial⟩⟩, trivial⟩) (by rfl) (nk rfl)) k80
  refine ap_let (g := 8) (listed := #[false, true, true, false, true, true, true, false, false, true, true, true, true, false, false, false, false]) [(2, .ref 0 0), (3, .int .i64 0), (5, .ref 1 0), (12, .ref 2 0), (13, .elem 1 0 1 0), (16, .int .i64 (r1.1.getD 5 0)), (17, .elem 1 0 1 2), (23, .int .i64 (IntKind.wrap .i64 (3 + (IntKind.wrap .i64 (r2.1.tdiv 6)))))] [(0, .var [.arr (.int .i64) 6 ((List.replicate 6 0) : (List Int))]), (1, .var [.arr (.int .i64) 6 r1.1]), (2, .var [.cell (.v (.slice (.int .u8)) x0), .cell (.int .i64 r2.2.1), .cell (.int .u64 r2.2.2)])] ?_ (fun k93 => ?_)
  · refine ap_all [0, 3, 7] (by kernel_rfl) ⟨?_, ?_, ?_, trivial⟩
    · refine apo_ao rfl ?_
      refine ao_read trivial (r_load_arr rfl Try.isAgg47 Try.sizeOf47 rfl rfl rfl) rfl ?_
      refine ao_nil ?_
      refine ap_in ?_
      exact ap_go (by kernel_rfl) (sub_mk (rn [(1, 2), (2, 1)]) (by exact ⟨ai rfl, ai rfl, ai rfl, ai rfl, ai rfl, ai rfl, ai rfl, ai rfl, trivial⟩) (by exact ⟨⟨_, rfl, ⟨rfl, trivial⟩⟩, ⟨_, rfl, ⟨ad_ren rfl, rfl, ad_ren rfl, rfl, ad_ren rfl, rfl, trivial⟩⟩, ⟨_, rfl, ⟨rfl, trivial⟩⟩, trivial⟩) (by rfl) (nk rfl)) k36
    · refine apo_ao rfl ?_
      refine ao_read trivial (r_load_elema_int Try.isAgg3 Try.sizeOf3 rfl rfl rfl (show 0 < 6 from by omega)) rfl ?_
      refine ao_nil ?_
      refine ap_in ?_
      exact ap_go (by kernel_rfl) (sub_mk idn (by exact ⟨ai rfl, ai rfl, ai rfl, ai rfl, ai rfl, ai rfl, ai rfl, ai rfl, trivial⟩) (by exact ⟨⟨_, rfl, ⟨rfl, trivial⟩⟩, ⟨_, rfl, ⟨rfl, trivial⟩⟩, ⟨_, rfl, ⟨ad_ren rfl, rfl, ad_ren rfl, rfl, ad_ren rfl, rfl, trivial⟩⟩, trivial⟩) (by rfl) (nk rfl)) k76
    · refine apo_ao rfl ?_
      refine ao_read trivial (r_load_elema_int Try.isAgg3 Try.sizeOf3 rfl rfl rfl (show 2 < 6 from by omega)) rfl ?_
      refine ao_nil ?_
      refine ap_in ?_
      exact ap_go (by kernel_rfl) (sub_mk idn (by exact ⟨ai rfl, ai rfl, ai rfl, ai rfl, ai rfl, ai rfl, ai rfl, ai rfl, trivial⟩) (by exact ⟨⟨_, rfl, ⟨rfl, trivial⟩⟩, ⟨_, rfl, ⟨rfl, trivial⟩⟩, ⟨_, rfl, ⟨ad_ren rfl, rfl, ad_ren rfl, rfl, ad_ren rfl, rfl, trivial⟩⟩, trivial⟩) (by rfl) (nk rfl)) k92
  refine ap_let (g := 8) (listed := #[false, true, true, false, true, false, true, true, false, true, true, true, true, false, false, false, false]) [(2, .ref 0 0), (3, .int .i64 0), (5, .ref 1 0), (12, .ref 2 0), (13, .elem 1 0 1 0), (15, .elem 1 0 1 5), (18, .int .i64 (r1.1.getD 2 0)), (23, .int .i64 (IntKind.wrap .i64 (3 + (IntKind.wrap .i64 (r2.1.tdiv 6)))))] [(0, .var [.arr (.int .i64) 6 ((List.replicate 6 0) : (List Int))]), (1, .var [.arr (.int .i64) 6 r1.1]), (2, .var [.cell (.v (.slice (.int .u8)) x0), .cell (.int .i64 r2.2.1), .cell (.int .u64 r2.2.2)])] ?_ (fun k97 => ?_)
  · refine ap_all [0, 3, 5] (by kernel_rfl) ⟨?_, ?_, ?_, trivial⟩
    · refine apo_ao rfl ?_
      refine ao_read trivial (r_load_arr rfl Try.isAgg47 Try.sizeOf47 rfl rfl rfl) rfl ?_
      refine ao_nil ?_
      refine ap_in ?_
      exact ap_go (by kernel_rfl) (sub_mk (rn [(1, 2), (2, 1)]) (by exact ⟨ai rfl, ai rfl, ai rfl, ai rfl, ai rfl, ai rfl, ai rfl, ai rfl, trivial⟩) (by exact ⟨⟨_, rfl, ⟨rfl, trivial⟩⟩, ⟨_, rfl, ⟨ad_ren rfl, rfl, ad_ren rfl, rfl, ad_ren rfl, rfl, trivial⟩⟩, ⟨_, rfl, ⟨rfl, trivial⟩⟩, trivial⟩) (by rfl) (nk rfl)) k40
    · refine apo_ao rfl ?_
      refine ao_read trivial (r_load_elema_int Try.isAgg3 Try.sizeOf3 rfl rfl rfl (show 0 < 6 from by omega)) rfl ?_
      refine ao_nil ?_
      refine ap_in ?_
      exact ap_go (by kernel_rfl) (sub_mk idn (by exact ⟨ai rfl, ai rfl, ai rfl, ai rfl, ai rfl, ai rfl, ai rfl, ai rfl, trivial⟩) (by exact ⟨⟨_, rfl, ⟨rfl, trivial⟩⟩, ⟨_, rfl, ⟨rfl, trivial⟩⟩, ⟨_, rfl, ⟨ad_ren rfl, rfl, ad_ren rfl, rfl, ad_ren rfl, rfl, trivial⟩⟩, trivial⟩) (by rfl) (nk rfl)) k80
    · refine apo_ao rfl ?_
      refine ao_read trivial (r_load_elema_int Try.isAgg3 Try.sizeOf3 rfl rfl rfl (show 5 < 6 from by omega)) rfl ?_
      refine ao_nil ?_
      refine ap_in ?_
      exact ap_go (by kernel_rfl) (sub_mk idn (by exact ⟨ai rfl, ai rfl, ai rfl, ai rfl, ai rfl, ai rfl, ai rfl, ai rfl, trivial⟩) (by exact ⟨⟨_, rfl, ⟨rfl, trivial⟩⟩, ⟨_, rfl, ⟨rfl, trivial⟩⟩, ⟨_, rfl, ⟨ad_ren rfl, rfl, ad_ren rfl, rfl, ad_ren rfl, rfl, trivial⟩⟩, trivial⟩) (by rfl) (nk rfl)) k92
  refine ap_let (g := 8) (listed := #[false, true, false, false, true, true, true, true, false, true, true, true, true, false, false, false, false]) [(2, .ref 0 0), (3, .int .i64 0), (5, .ref 1 0), (12, .ref 2 0), (16, .int .i64 (r1.1.getD 5 0)), (18, .int .i64 (r1.1.getD 2 0)), (23, .int .i64 (IntKind.wrap .i64 (3 + (IntKind.wrap .i64 (r2.1.tdiv 6)))))] [(0, .var [.arr (.int .i64) 6 ((List.replicate 6 0) : (List Int))]), (1, .var [.arr (.int .i64) 6 r1.1]), (2, .var [.cell (.v (.slice (.int .u8)) x0), .cell (.int .i64 r2.2.1), .cell (.int .u64 r2.2.2)])] ?_ (fun k109 => ?_)
  · refine ap_all [0, 2] (by kernel_rfl) ⟨?_, ?_, trivial⟩
    · refine apo_ao rfl ?_
      refine ao_read trivial (r_load_arr rfl Try.isAgg47 Try.sizeOf47 rfl rfl rfl) rfl ?_
      refine ao_nil ?_
      refine ap_in ?_
      exact ap_go (by kernel_rfl) (sub_mk idn (by exact ⟨ai rfl, ai rfl, ai rfl, ai rfl, ai rfl, ai rfl, ai rfl, ai rfl, trivial⟩) (by exact ⟨⟨_, rfl, ⟨rfl, trivial⟩⟩, ⟨_, rfl, ⟨rfl, trivial⟩⟩, ⟨_, rfl, ⟨ad_ren rfl, rfl, ad_ren rfl, rfl, ad_ren rfl, rfl, trivial⟩⟩, trivial⟩) (by rfl) (nk rfl)) k52
    · refine apo_ao rfl ?_
      refine ao_read trivial (r_idxAddr_arr (i := 0) Try.underlying47 Try.sizeOf3 rfl rfl (show 0 ≤ 0 from by omega) (show 0 < (6 : Int) from by omega)) rfl ?_
      refine ao_nil ?_
      refine ap_in ?_
      exact ap_go (by kernel_rfl) (sub_mk idn (by exact ⟨ai rfl, ai rfl, ai rfl, ai rfl, ai rfl, ai rfl, ai rfl, ai rfl, trivial⟩) (by exact ⟨⟨_, rfl, ⟨rfl, trivial⟩⟩, ⟨_, rfl, ⟨rfl, trivial⟩⟩, ⟨_, rfl, ⟨ad_ren rfl, rfl, ad_ren rfl, rfl, ad_ren rfl, rfl, trivial⟩⟩, trivial⟩) (by rfl) (nk rfl)) k92
  refine ap_let (g := 9) (listed := #[true, true, true, true, true, true, true, false, false, true, false, false, false, false, false, false, false]) [(2, .ref 0 0), (3, .int .i64 0), (11, .v (.arr 6 (.int .i64)) r1.1), (12, .ref 1 0), (14, .int .i64 (r1.1.getD 0 0)), (16, .int .i64 (r1.1.getD 5 0)), (17, .elem 2 0 1 2), (20, .ref 1 0)] [(0, .var [.arr (.int .i64) 6 ((List.replicate 6 0) : (List Int))]), (1, .var [.cell (.v (.slice (.int .u8)) x0), .cell (.int .i64 r1.2.1), .cell (.int .u64 r1.2.2)]), (2, .var [.arr (.int .i64) 6 r1.1])] ?_ (fun k12 => ?_)
  · refine ap_all [7, 10] (by kernel_rfl) ⟨?_, ?_, trivial⟩
    · refine apo_ao rfl ?_
      refine ao_read trivial (r_load_elema_int Try.isAgg3 Try.sizeOf3 rfl rfl rfl (show 2 < 6 from by omega)) rfl ?_
      refine ao_nil ?_
      refine ap_in ?_
      exact ap_go (by kernel_rfl) (sub_mk idn (by exact ⟨ai rfl, ai rfl, ai rfl, ai rfl, ai rfl, ai rfl, ai rfl, ai rfl, trivial⟩) (by exact ⟨⟨_, rfl, ⟨rfl, trivial⟩⟩, ⟨_, rfl, ⟨ad_ren rfl, rfl, ad_ren rfl, rfl, ad_ren rfl, rfl, trivial⟩⟩, trivial⟩) (by rfl) (nk rfl)) k13
    · refine apo_ao rfl ?_
      refine ao_callV [1] 3 trivial (c_spec_l1Cur_pick (is_mk r2h)) Try.func84 rfl rfl rfl rfl rfl ⟨rfl, trivial⟩ ⟨⟨_, rfl, ⟨ad_ren rfl, rfl, ad_ren rfl, rfl, ad_ren rfl, rfl, trivial⟩⟩, trivial⟩ rfl rfl rfl rfl rfl rfl rfl (fun r' H' hr => ?_)
      obtain ⟨rfl, rfl⟩ := hr
      refine ao_norm (y := .int .i64 r2.1) (H' := [(0, .var [.arr (.int .i64) 6 ((List.replicate 6 0) : (List Int))]), (2, .var [.arr (.int .i64) 6 r1.1]), (1, .var [.cell (.v (.slice (.int .u8)) x0), .cell (.int .i64 r2.2.1), .cell (.int .u64 r2.2.2)])]) rfl rfl ?_
      refine ao_nil ?_
      refine ap_in ?_
      refine ap_pure 11 (by kernel_rfl) (fun _ _ _ h => h) rfl (by kernel_rfl) trivial (rp_quo rfl rfl (by decide)) rfl ?_
      refine ap_pure 12 (by kernel_rfl) (fun _ _ _ h => h) rfl (by kernel_rfl) trivial (rp_add rfl rfl) rfl ?_
      exact ap_go (by kernel_rfl) (sub_mk idn (by exact ⟨ai rfl, ai rfl, ai rfl, ai rfl, ai rfl, ai rfl, ai rfl, ai rfl, trivial⟩) (by exact ⟨⟨_, rfl, ⟨rfl, trivial⟩⟩, ⟨_, rfl, ⟨ad_ren rfl, rfl, ad_ren rfl, rfl, ad_ren rfl, rfl, trivial⟩⟩, ⟨_, rfl, ⟨rfl, trivial⟩⟩, trivial⟩) (by rfl) (nk rfl)) k19
  refine ap_let (g := 9) (listed := #[true, true, true, true, true, false, true, true, false, true, false, false, false, false, false, false, false]) [(2, .ref 0 0), (3, .int .i64 0), (11, .v (.arr 6 (.int .i64)) r1.1), (12, .ref 1 0), (14, .int .i64 (r1.1.getD 0 0)), (15, .elem 2 0 1 5), (18, .int .i64 (r1.1.getD 2 0)), (20, .ref 1 0)] [(0, .var [.arr (.int .i64) 6 ((List.replicate 6 0) : (List Int))]), (1, .var [.cell (.v (.slice (.int .u8)) x0), .cell (.int .i64 r1.2.1), .cell (.int .u64 r1.2.2)]), (2, .var [.arr (.int .i64) 6 r1.1])] ?_ (fun k22 => ?_)
  · refine ap_all [5, 10] (by kernel_rfl) ⟨?_, ?_, trivial⟩
    · refine apo_ao rfl ?_
      refine ao_read trivial (r_load_elema_int Try.isAgg3 Try.sizeOf3 rfl rfl rfl (show 5 < 6 from by omega)) rfl ?_
      refine ao_nil ?_
      refine ap_in ?_
      exact ap_go (by kernel_rfl) (sub_mk idn (by exact ⟨ai rfl, ai rfl, ai rfl, ai rfl, ai rfl, ai rfl, ai rfl, ai rfl, trivial⟩) (by exact ⟨⟨_, rfl, ⟨rfl, trivial⟩⟩, ⟨_, rfl, ⟨ad_ren rfl, rfl, ad_ren rfl, rfl, ad_ren rfl, rfl, trivial⟩⟩, trivial⟩) (by rfl) (nk rfl)) k13
    · refine apo_ao rfl ?_
      refine ao_callV [1] 3 trivial (c_spec_l1Cur_pick (is_mk r2h)) Try.func84 rfl rfl rfl rfl rfl ⟨rfl, trivial⟩ ⟨⟨_, rfl, ⟨ad_ren rfl, rfl, ad_ren rfl, rfl, ad_ren rfl, rfl, trivial⟩⟩, trivial⟩ rfl rfl rfl rfl rfl rfl rfl (fun r' H' hr => ?_)
      obtain ⟨rfl, rfl⟩ := hr
      refine ao_norm (y := .int .i64 r2.1) (H' := [(0, .var [.arr (.int .i64) 6 ((List.replicate 6 0) : (List Int))]), (2, .var [.arr (.int .i64) 6 r1.1]), (1, .var [.cell (.v (.slice (.int .u8)) x0), .cell (.int .i64 r2.2.1), .cell (.int .u64 r2.2.2)])]) rfl rfl ?_
      refine ao_nil ?_
      refine ap_in ?_
      refine ap_pure 11 (by kernel_rfl) (fun _ _ _ h => h) rfl (by kernel_rfl) trivial (rp_quo rfl rfl (by decide)) rfl ?_
      refine ap_pure 12 (by kernel_rfl) (fun _ _ _ h => h) rfl (by kernel_rfl) trivial (rp_add rfl rfl) rfl ?_
      exact ap_go (by kernel_rfl) (sub_mk idn (by exact ⟨ai rfl, ai rfl, ai rfl, ai rfl, ai rfl, ai rfl, ai rfl, ai rfl, trivial⟩) (by exact ⟨⟨_, rfl, ⟨rfl, trivial⟩⟩, ⟨_, rfl, ⟨ad_ren rfl, rfl, ad_ren rfl, rfl, ad_ren rfl, rfl, trivial⟩⟩, ⟨_, rfl, ⟨rfl, trivial⟩⟩, trivial⟩) (by rfl) (nk rfl)) k23
  refine ap_let (g := 9) (listed := #[true, true, true, true, false, false, false, false, false, true, true, true, true, false, false, false, false]) [(2, .ref 0 0), (3, .int .i64 0), (5, .ref 1 0), (11, .v (.arr 6 (.int .i64)) r1.1), (12, .ref 2 0), (14, .int .i64 (r1.1.getD 0 0)), (23, .int .i64 (IntKind.wrap .i64 (3 + (IntKind.wrap .i64 (r2.1.tdiv 6)))))] [(0, .var [.arr (.int .i64) 6 ((List.replicate 6 0) : (List Int))]), (1, .var [.arr (.int .i64) 6 r1.1]), (2, .var [.cell (.v (.slice (.int .u8)) x0), .cell (.int .i64 r2.2.1), .cell (.int .u64 r2.2.2)])] ?_ (fun k30 => ?_)
  · refine ap_all [4, 6] (by kernel_rfl) ⟨?_, ?_, trivial⟩
    · refine apo_ao rfl ?_
      refine ao_read trivial (r_idxAddr_arr (i := 5) Try.underlying47 Try.sizeOf3 rfl rfl (show 0 ≤ 5 from by omega) (show 5 < (6 : Int) from by omega)) rfl ?_
      refine ao_nil ?_
      refine ap_in ?_
      exact ap_go (by kernel_rfl) (sub_mk idn (by exact ⟨ai rfl, ai rfl, ai rfl, ai rfl, ai rfl, ai rfl, ai rfl, ai rfl, trivial⟩) (by exact ⟨⟨_, rfl, ⟨rfl, trivial⟩⟩, ⟨_, rfl, ⟨rfl, trivial⟩⟩, ⟨_, rfl, ⟨ad_ren rfl, rfl, ad_ren rfl, rfl, ad_ren rfl, rfl, trivial⟩⟩, trivial⟩) (by rfl) (nk rfl)) k25
    · refine apo_ao rfl ?_
      refine ao_read trivial (r_idxAddr_arr (i := 2) Try.underlying47 Try.sizeOf3 rfl rfl (show 0 ≤ 2 from by omega) (show 2 < (6 : Int) from by omega)) rfl ?_
      refine ao_nil ?_
      refine ap_in ?_
      exact ap_go (by kernel_rfl) (sub_mk idn (by exact ⟨ai rfl, ai rfl, ai rfl, ai rfl, ai rfl, ai rfl, ai rfl, ai rfl, trivial⟩) (by exact ⟨⟨_, rfl, ⟨rfl, trivial⟩⟩, ⟨_, rfl, ⟨rfl, trivial⟩⟩, ⟨_, rfl, ⟨ad_ren rfl, rfl, ad_ren rfl, rfl, ad_ren rfl, rfl, trivial⟩⟩, trivial⟩) (by rfl) (nk rfl)) k29
  refine ap_let (g := 9) (listed := #[true, true, true, false, true, true, true, true, false, true, false, false, false, false, false, false, false]) [(2, .ref 0 0), (3, .int .i64 0), (11, .v (.arr 6 (.int .i64)) r1.1), (12, .ref 1 0), (13, .elem 2 0 1 0), (16, .int .i64 (r1.1.getD 5 0)), (18, .int .i64 (r1.1.getD 2 0)), (20, .ref 1 0)] [(0, .var [.arr (.int .i64) 6 ((List.replicate 6 0) : (List Int))]), (1, .var [.cell (.v (.slice (.int .u8)) x0), .cell (.int .i64 r1.2.1), .cell (.int .u64 r1.2.2)]), (2, .var [.arr (.int .i64) 6 r1.1])] ?_ (fun k34 => ?_)
  · refine ap_all [3, 10] (by kernel_rfl) ⟨?_, ?_, trivial⟩
    · refine apo_ao rfl ?_
      refine ao_read trivial (r_load_elema_int Try.isAgg3 Try.sizeOf3 rfl rfl rfl (show 0 < 6 from by omega)) rfl ?_
      refine ao_nil ?_
      refine ap_in ?_
      exact ap_go (by kernel_rfl) (sub_mk idn (by exact ⟨ai rfl, ai rfl, ai rfl, ai rfl, ai rfl, ai rfl, ai rfl, ai rfl, trivial⟩) (by exact ⟨⟨_, rfl, ⟨rfl, trivial⟩⟩, ⟨_, rfl, ⟨ad_ren rfl, rfl, ad_ren rfl, rfl, ad_ren rfl, rfl, trivial⟩⟩, trivial⟩) (by rfl) (nk rfl)) k13
    · refine apo_ao rfl ?_
      refine ao_callV [1] 3 trivial (c_spec_l1Cur_pick (is_mk r2h)) Try.func84 rfl rfl rfl rfl rfl ⟨rfl, trivial⟩ ⟨⟨_, rfl, ⟨ad_ren rfl, rfl, ad_ren rfl, rfl, ad_ren rfl, rfl, trivial⟩⟩, trivial⟩ rfl rfl rfl rfl rfl rfl rfl (fun r' H' hr => ?_)
      obtain ⟨rfl, rfl⟩ := hr
      refine ao_norm (y := .int .i64 r2.1) (H' := [(0, .var [.arr (.int .i64) 6 ((List.replicate 6 0) : (List Int))]), (2, .var [.arr (.int .i64) 6 r1.1]), (1, .var [.cell (.v (.slice (.int .u8)) x0), .cell (.int .i64 r2.2.1), .cell (.int .u64 r2.2.2)])]) rfl rfl ?_
      refine ao_nil ?_
      refine ap_in ?_
      refine ap_pure 11 (by kernel_rfl) (fun _ _ _ h => h) rfl (by kernel_rfl) trivial (rp_quo rfl rfl (by decide)) rfl ?_
      refine ap_pure 12 (by kernel_rfl) (fun _ _ _ h => h) rfl (by kernel_rfl) trivial (rp_add rfl rfl) rfl ?_
      exact ap_go (by kernel_rfl) (sub_mk idn (by exact ⟨ai rfl, ai rfl, ai rfl, ai rfl, ai rfl, ai rfl, ai rfl, ai rfl, trivial⟩) (by exact ⟨⟨_, rfl, ⟨rfl, trivial⟩⟩, ⟨_, rfl, ⟨ad_ren rfl, rfl, ad_ren rfl, rfl, ad_ren rfl, rfl, trivial⟩⟩, ⟨_, rfl, ⟨rfl, trivial⟩⟩, trivial⟩) (by rfl) (nk rfl)) k35
  refine ap_let (g := 9) (listed := #[true, true, true, false, true, false, false, false, false, true, true, true, true, false, false, false, false]) [(2, .ref 0 0), (3, .int .i64 0), (5, .ref 1 0), (11, .v (.arr 6 (.int .i64)) r1.1), (12, .ref 2 0), (13, .elem 1 0 1 0), (15, .elem 1 0 1 5), (23, .int .i64 (IntKind.wrap .i64 (3 + (IntKind.wrap .i64 (r2.1.tdiv 6)))))] [(0, .var [.arr (.int .i64) 6 ((List.replicate 6 0) : (List Int))]), (1, .var [.arr (.int .i64) 6 r1.1]), (2, .var [.cell (.v (.slice (.int .u8)) x0), .cell (.int .i64 r2.2.1), .cell (.int .u64 r2.2.2)])] ?_ (fun k42 => ?_)
  · refine ap_all [3, 5, 6] (by kernel_rfl) ⟨?_, ?_, ?_, trivial⟩
    · refine apo_ao rfl ?_
      refine ao_read trivial (r_load_elema_int Try.isAgg3 Try.sizeOf3 rfl rfl rfl (show 0 < 6 from by omega)) rfl ?_
      refine ao_nil ?_
      refine ap_in ?_
      exact ap_go (by kernel_rfl) (sub_mk idn (by exact ⟨ai rfl, ai rfl, ai rfl, ai rfl, ai rfl, ai rfl, ai rfl, ai rfl, trivial⟩) (by exact ⟨⟨_, rfl, ⟨rfl, trivial⟩⟩, ⟨_, rfl, ⟨rfl, trivial⟩⟩, ⟨_, rfl, ⟨ad_ren rfl, rfl, ad_ren rfl, rfl, ad_ren rfl, rfl, trivial⟩⟩, trivial⟩) (by rfl) (nk rfl)) k25
    · refine apo_ao rfl ?_
      refine ao_read trivial (r_load_elema_int Try.isAgg3 Try.sizeOf3 rfl rfl rfl (show 5 < 6 from by omega)) rfl ?_
      refine ao_nil ?_
      refine ap_in ?_
      exact ap_go (by kernel_rfl) (sub_mk idn (by exact ⟨ai rfl, ai rfl, ai rfl, ai rfl, ai rfl, ai rfl, ai rfl, ai rfl, trivial⟩) (by exact ⟨⟨_, rfl, ⟨rfl, trivial⟩⟩, ⟨_, rfl, ⟨rfl, trivial⟩⟩, ⟨_, rfl, ⟨ad_ren rfl, rfl, ad_ren rfl, rfl, ad_ren rfl, rfl, trivial⟩⟩, trivial⟩) (by rfl) (nk rfl)) k37
    · refine apo_ao rfl ?_
      refine ao_read trivial (r_idxAddr_arr (i := 2) Try.underlying47 Try.sizeOf3 rfl rfl (show 0 ≤ 2 from by omega) (show 2 < (6 : Int) from by omega)) rfl ?_
      refine ao_nil ?_
      refine ap_in ?_
      exact ap_go (by kernel_rfl) (sub_mk (rn [(1, 2), (2, 1)]) (by exact ⟨ai rfl, ai rfl, ai rfl, ai rfl, ai rfl, ai rfl, ai rfl, ai rfl, trivial⟩) (by exact ⟨⟨_, rfl, ⟨rfl, trivial⟩⟩, ⟨_, rfl, ⟨ad_ren rfl, rfl, ad_ren rfl, rfl, ad_ren rfl, rfl, trivial⟩⟩, ⟨_, rfl, ⟨rfl, trivial⟩⟩, trivial⟩) (by rfl) (nk rfl)) k41
  refine ap_let (g := 9) (listed := #[true, true, true, false, false, false, true, false, false, true, true, true, true, false, false, false, false]) [(2, .ref 0 0), (3, .int .i64 0), (5, .ref 1 0), (11, .v (.arr 6 (.int .i64)) r1.1), (12, .ref 2 0), (13, .elem 1 0 1 0), (17, .elem 1 0 1 2), (23, .int .i64 (IntKind.wrap .i64 (3 + (IntKind.wrap .i64 (r2.1.tdiv 6)))))] [(0, .var [.arr (.int .i64) 6 ((List.replicate 6 0) : (List Int))]), (1, .var [.arr (.int .i64) 6 r1.1]), (2, .var [.cell (.v (.slice (.int .u8)) x0), .cell (.int .i64 r2.2.1), .cell (.int .u64 r2.2.2)])] ?_ (fun k46 => ?_)
  · refine ap_all [3, 4, 7] (by kernel_rfl) ⟨?_, ?_, ?_, trivial⟩
    · refine apo_ao rfl ?_
      refine ao_read trivial (r_load_elema_int Try.isAgg3 Try.sizeOf3 rfl rfl rfl (show 0 < 6 from by omega)) rfl ?_
      refine ao_nil ?_
      refine ap_in ?_
      exact ap_go (by kernel_rfl) (sub_mk idn (by exact ⟨ai rfl, ai rfl, ai rfl, ai rfl, ai rfl, ai rfl, ai rfl, ai rfl, trivial⟩) (by exact ⟨⟨_, rfl, ⟨rfl, trivial⟩⟩, ⟨_, rfl, ⟨rfl, trivial⟩⟩, ⟨_, rfl, ⟨ad_ren rfl, rfl, ad_ren rfl, rfl, ad_ren rfl, rfl, trivial⟩⟩, trivial⟩) (by rfl) (nk rfl)) k29
    · refine apo_ao rfl ?_
      refine ao_read trivial (r_idxAddr_arr (i := 5) Try.underlying47 Try.sizeOf3 rfl rfl (show 0 ≤ 5 from by omega) (show 5 < (6 : Int) from by omega)) rfl ?_
      refine ao_nil ?_
      refine ap_in ?_
      exact ap_go (by kernel_rfl) (sub_mk (rn [(1, 2), (2, 1)]) (by exact ⟨ai rfl, ai rfl, ai rfl, ai rfl, ai rfl, ai rfl, ai rfl, ai rfl, trivial⟩) (by exact ⟨⟨_, rfl, ⟨rfl, trivial⟩⟩, ⟨_, rfl, ⟨ad_ren rfl, rfl, ad_ren rfl, rfl, ad_ren rfl, rfl, trivial⟩⟩, ⟨_, rfl, ⟨rfl, trivial⟩⟩, trivial⟩) (by rfl) (nk rfl)) k41
    · refine apo_ao rfl ?_
      refine ao_read trivial (r_load_elema_int Try.isAgg3 Try.sizeOf3 rfl rfl rfl (show 2 < 6 from by omega)) rfl ?_
      refine ao_nil ?_
      refine ap_in ?_
      exact ap_go (by kernel_rfl) (sub_mk idn (by exact ⟨ai rfl, ai rfl, ai rfl, ai rfl, ai rfl, ai rfl, ai rfl, ai rfl, trivial⟩) (by exact ⟨⟨_, rfl, ⟨rfl, trivial⟩⟩, ⟨_, rfl, ⟨rfl, trivial⟩⟩, ⟨_, rfl, ⟨ad_ren rfl, rfl, ad_ren rfl, rfl, ad_ren rfl, rfl, trivial⟩⟩, trivial⟩) (by rfl) (nk rfl)) k45
  refine ap_let (g := 9) (listed := #[true, true, false, false, true, true, false, false, false, true, true, true, true, false, false, false, false]) [(2, .ref 0 0), (3, .int .i64 0), (5, .ref 1 0), (11, .v (.arr 6 (.int .i64)) r1.1), (12, .ref 2 0), (16, .int .i64 (r1.1.getD 5 0)), (23, .int .i64 (IntKind.wrap .i64 (3 + (IntKind.wrap .i64 (r2.1.tdiv 6)))))] [(0, .var [.arr (.int .i64) 6 ((List.replicate 6 0) : (List Int))]), (1, .var [.arr (.int .i64) 6 r1.1]), (2, .var [.cell (.v (.slice (.int .u8)) x0), .cell (.int .i64 r2.2.1), .cell (.int .u64 r2.2.2)])] ?_ (fun k54 => ?_)
  · refine ap_all [2, 6] (by kernel_rfl) ⟨?_, ?_, trivial⟩
    · refine apo_ao rfl ?_
      refine ao_read trivial (r_idxAddr_arr (i := 0) Try.underlying47 Try.sizeOf3 rfl rfl (show 0 ≤ 0 from by omega) (show 0 < (6 : Int) from by omega)) rfl ?_
      refine ao_nil ?_
      refine ap_in ?_
      exact ap_go (by kernel_rfl) (sub_mk idn (by exact ⟨ai rfl, ai rfl, ai rfl, ai rfl, ai rfl, ai rfl, ai rfl, ai rfl, trivial⟩) (by exact ⟨⟨_, rfl, ⟨rfl, trivial⟩⟩, ⟨_, rfl, ⟨rfl, trivial⟩⟩, ⟨_, rfl, ⟨ad_ren rfl, rfl, ad_ren rfl, rfl, ad_ren rfl, rfl, trivial⟩⟩, trivial⟩) (by rfl) (nk rfl)) k37
    · refine apo_ao rfl ?_
      refine ao_read trivial (r_idxAddr_arr (i := 2) Try.underlying47 Try.sizeOf3 rfl rfl (show 0 ≤ 2 from by omega) (show 2 < (6 : Int) from by omega)) rfl ?_
      refine ao_nil ?_
      refine ap_in ?_
      exact ap_go (by kernel_rfl) (sub_mk idn (by exact ⟨ai rfl, ai rfl, ai rfl, ai rfl, ai rfl, ai rfl, ai rfl, ai rfl, trivial⟩) (by exact ⟨⟨_, rfl, ⟨rfl, trivial⟩⟩, ⟨_, rfl, ⟨rfl, trivial⟩⟩, ⟨_, rfl, ⟨ad_ren rfl, rfl, ad_ren rfl, rfl, ad_ren rfl, rfl, trivial⟩⟩, trivial⟩) (by rfl) (nk rfl)) k53
  refine ap_let (g := 9) (listed := #[true, true, false, false, true, false, true, false, false, true, true, true, true, false, false, false, false]) [(2, .ref 0 0), (3, .int .i64 0), (5, .ref 1 0), (11, .v (.arr 6 (.int .i64)) r1.1), (12, .ref 2 0), (15, .elem 1 0 1 5), (17, .elem 1 0 1 2), (23, .int .i64 (IntKind.wrap .i64 (3 + (IntKind.wrap .i64 (r2.1.tdiv 6)))))] [(0, .var [.arr (.int .i64) 6 ((List.replicate 6 0) : (List Int))]), (1, .var [.arr (.int .i64) 6 r1.1]), (2, .var [.cell (.v (.slice (.int .u8)) x0), .cell (.int .i64 r2.2.1), .cell (.int .u64 r2.2.2)])] ?_ (fun k58 => ?_)
  · refine ap_all [2, 5, 7] (by kernel_rfl) ⟨?_, ?_, ?_, trivial⟩
    · refine apo_ao rfl ?_
      refine ao_read trivial (r_idxAddr_arr (i := 0) Try.underlying47 Try.sizeOf3 rfl rfl (show 0 ≤ 0 from by omega) (show 0 < (6 : Int) from by omega)) rfl ?_
      refine ao_nil ?_
      refine ap_in ?_
      exact ap_go (by kernel_rfl) (sub_mk (rn [(1, 2), (2, 1)]) (by exact ⟨ai rfl, ai rfl, ai rfl, ai rfl, ai rfl, ai rfl, ai rfl, ai rfl, trivial⟩) (by exact ⟨⟨_, rfl, ⟨rfl, trivial⟩⟩, ⟨_, rfl, ⟨ad_ren rfl, rfl, ad_ren rfl, rfl, ad_ren rfl, rfl, trivial⟩⟩, ⟨_, rfl, ⟨rfl, trivial⟩⟩, trivial⟩) (by rfl) (nk rfl)) k41
    · refine apo_ao rfl ?_
      refine ao_read trivial (r_load_elema_int Try.isAgg3 Try.sizeOf3 rfl rfl rfl (show 5 < 6 from by omega)) rfl ?_
      refine ao_nil ?_
      refine ap_in ?_
      exact ap_go (by kernel_rfl) (sub_mk idn (by exact ⟨ai rfl, ai rfl, ai rfl, ai rfl, ai rfl, ai rfl, ai rfl, ai rfl, trivial⟩) (by exact ⟨⟨_, rfl, ⟨rfl, trivial⟩⟩, ⟨_, rfl, ⟨rfl, trivial⟩⟩, ⟨_, rfl, ⟨ad_ren rfl, rfl, ad_ren rfl, rfl, ad_ren rfl, rfl, trivial⟩⟩, trivial⟩) (by rfl) (nk rfl)) k53
    · refine apo_ao rfl ?_
      refine ao_read trivial (r_load_elema_int Try.isAgg3 Try.sizeOf3 rfl rfl rfl (show 2 < 6 from by omega)) rfl ?_
      refine ao_nil ?_
      refine ap_in ?_
      exact ap_go (by kernel_rfl) (sub_mk idn (by exact ⟨ai rfl, ai rfl, ai rfl, ai rfl, ai rfl, ai rfl, ai rfl, ai rfl, trivial⟩) (by exact ⟨⟨_, rfl, ⟨rfl, trivial⟩⟩, ⟨_, rfl, ⟨rfl, trivial⟩⟩, ⟨_, rfl, ⟨ad_ren rfl, rfl, ad_ren rfl, rfl, ad_ren rfl, rfl, trivial⟩⟩, trivial⟩) (by rfl) (nk rfl)) k57
  refine ap_let (g := 9) (listed := #[true, true, false, false, false, false, true, true, false, true, true, true, true, false, false, false, false]) [(2, .ref 0 0), (3, .int .i64 0), (5, .ref 1 0), (11, .v (.arr 6 (.int .i64)) r1.1), (12, .ref 2 0), (18, .int .i64 (r1.1.getD 2 0)), (23, .int .i64 (IntKind.wrap .i64 (3 + (IntKind.wrap .i64 (r2.1.tdiv 6)))))] [(0, .var [.arr (.int .i64) 6 ((List.replicate 6 0) : (List Int))]), (1, .var [.arr (.int .i64) 6 r1.1]), (2, .var [.cell (.v (.slice (.int .u8)) x0), .cell (.int .i64 r2.2.1), .cell (.int .u64 r2.2.2)])] ?_ (fun k62 => ?_)
  · refine ap_all [2, 4] (by kernel_rfl) ⟨?_, ?_, trivial⟩
    · refine apo_ao rfl ?_
      refine ao_read trivial (r_idxAddr_arr (i := 0) Try.underlying47 Try.sizeOf3 rfl rfl (show 0 ≤ 0 from by omega) (show 0 < (6 : Int) from by omega)) rfl ?_
      refine ao_nil ?_
      refine ap_in ?_
      exact ap_go (by kernel_rfl) (sub_mk idn (by exact ⟨ai rfl, ai rfl, ai rfl, ai rfl, ai rfl, ai rfl, ai rfl, ai rfl, trivial⟩) (by exact ⟨⟨_, rfl, ⟨rfl, trivial⟩⟩, ⟨_, rfl, ⟨rfl, trivial⟩⟩, ⟨_, rfl, ⟨ad_ren rfl, rfl, ad_ren rfl, rfl, ad_ren rfl, rfl, trivial⟩⟩, trivial⟩) (by rfl) (nk rfl)) k45
    · refine apo_ao rfl ?_
      refine ao_read trivial (r_idxAddr_arr (i := 5) Try.underlying47 Try.sizeOf3 rfl rfl (show 0 ≤ 5 from by omega) (show 5 < (6 : Int) from by omega)) rfl ?_
      refine ao_nil ?_
      refine ap_in ?_
      exact ap_go (by kernel_rfl) (sub_mk idn (by exact ⟨ai rfl, ai rfl, ai rfl, ai rfl, ai rfl, ai rfl, ai rfl, ai rfl, trivial⟩) (by exact ⟨⟨_, rfl, ⟨rfl, trivial⟩⟩, ⟨_, rfl, ⟨rfl, trivial⟩⟩, ⟨_, rfl, ⟨ad_ren rfl, rfl, ad_ren rfl, rfl, ad_ren rfl, rfl, trivial⟩⟩, trivial⟩) (by rfl) (nk rfl)) k57
  refine ap_let (g := 9) (listed := #[false, true, true, true, true, true, true, true, false, true, false, false, false, false, false, false, false]) [(2, .ref 0 0), (3, .int .i64 0), (5, .ref 1 0), (12, .ref 2 0), (14, .int .i64 (r1.1.getD 0 0)), (16, .int .i64 (r1.1.getD 5 0)), (18, .int .i64 (r1.1.getD 2 0)), (20, .ref 2 0)] [(0, .var [.arr (.int .i64) 6 ((List.replicate 6 0) : (List Int))]), (1, .var [.arr (.int .i64) 6 r1.1]), (2, .var [.cell (.v (.slice (.int .u8)) x0), .cell (.int .i64 r1.2.1), .cell (.int .u64 r1.2.2)])] ?_ (fun k70 => ?_)
  · refine ap_all [0, 8, 10] (by kernel_rfl) ⟨?_, ?_, ?_, trivial⟩
    · refine apo_ao rfl ?_
      refine ao_read trivial (r_load_arr rfl Try.isAgg47 Try.sizeOf47 rfl rfl rfl) rfl ?_
      refine ao_nil ?_
      refine ap_in ?_
      exact ap_go (by kernel_rfl) (sub_mk (rn [(1, 2)]) (by exact ⟨ai rfl, ai rfl, ai rfl, ai rfl, ai rfl, ai rfl, ai rfl, ai rfl, trivial⟩) (by exact ⟨⟨_, rfl, ⟨rfl, trivial⟩⟩, ⟨_, rfl, ⟨ad_ren rfl, rfl, ad_ren rfl, rfl, ad_ren rfl, rfl, trivial⟩⟩, trivial⟩) (by rfl) (nk rfl)) k13
    · refine apo_ao rfl ?_
      refine ao_eff trivial (e_buildSlice (l := [(0, .tmp 14), (1, .tmp 16), (2, .tmp 18), (3, .const (.int .i64 7)), (4, .const (.int .i64 (-1))), (5, .const (.int .i64 4611686018427387904))]) (t := (.int .i64)) 3 ([(r1.1.getD 0 0), (r1.1.getD 5 0), (r1.1.getD 2 0), 7, (-1), 4611686018427387904] : (List Int)) rfl Try.underlying32 Try.zeroValue3 Try.sizeOf3 rfl rfl rfl rfl rfl rfl rfl) rfl ?_
      refine ao_nil ?_
      refine ap_in ?_
      exact ap_go (by kernel_rfl) (sub_mk idn (by exact ⟨ai rfl, ai rfl, ai rfl, ai rfl, ai rfl, ai rfl, trivial⟩) (by exact ⟨⟨_, rfl, ⟨rfl, trivial⟩⟩, ⟨_, rfl, ⟨rfl, trivial⟩⟩, ⟨_, rfl, ⟨ad_ren rfl, rfl, ad_ren rfl, rfl, ad_ren rfl, rfl, trivial⟩⟩, ⟨_, rfl, rfl⟩, trivial⟩) (by rfl) (nk rfl)) k71
    · refine apo_ao rfl ?_
      refine ao_callV [2] 3 trivial (c_spec_l1Cur_pick (is_mk r2h)) Try.func84 rfl rfl rfl rfl rfl ⟨rfl, trivial⟩ ⟨⟨_, rfl, ⟨ad_ren rfl, rfl, ad_ren rfl, rfl, ad_ren rfl, rfl, trivial⟩⟩, trivial⟩ rfl rfl rfl rfl rfl rfl rfl (fun r' H' hr => ?_)
      obtain ⟨rfl, rfl⟩ := hr
      refine ao_norm (y := .int .i64 r2.1) (H' := [(0, .var [.arr (.int .i64) 6 ((List.replicate 6 0) : (List Int))]), (1, .var [.arr (.int .i64) 6 r1.1]), (2, .var [.cell (.v (.slice (.int .u8)) x0), .cell (.int .i64 r2.2.1), .cell (.int .u64 r2.2.2)])]) rfl rfl ?_
      refine ao_nil ?_
      refine ap_in ?_
      refine ap_pure 11 (by kernel_rfl) (fun _ _ _ h => h) rfl (by kernel_rfl) trivial (rp_quo rfl rfl (by decide)) rfl ?_
      refine ap_pure 12 (by kernel_rfl) (fun _ _ _ h => h) rfl (by kernel_rfl) trivial (rp_add rfl rfl) rfl ?_
      exact ap_go (by kernel_rfl) (sub_mk idn (by exact ⟨ai rfl, ai rfl, ai rfl, ai rfl, ai rfl, ai rfl, ai rfl, ai rfl, trivial⟩) (by exact ⟨⟨_, rfl, ⟨rfl, trivial⟩⟩, ⟨_, rfl, ⟨rfl, trivial⟩⟩, ⟨_, rfl, ⟨ad_ren rfl, rfl, ad_ren rfl, rfl, ad_ren rfl, rfl, trivial⟩⟩, trivial⟩) (by rfl) (nk rfl)) k75
  refine ap_let (g := 9) (listed := #[false, true, true, true, true, false, false, false, false, true, true, true, true, false, false, false, false]) [(2, .ref 0 0), (3, .int .i64 0), (5, .ref 1 0), (12, .ref 2 0), (14, .int .i64 (r1.1.getD 0 0)), (15, .elem 1 0 1 5), (23, .int .i64 (IntKind.wrap .i64 (3 + (IntKind.wrap .i64 (r2.1.tdiv 6)))))] [(0, .var [.arr (.int .i64) 6 ((List.replicate 6 0) : (List Int))]), (1, .var [.arr (.int .i64) 6 r1.1]), (2, .var [.cell (.v (.slice (.int .u8)) x0), .cell (.int .i64 r2.2.1), .cell (.int .u64 r2.2.2)])] ?_ (fun k82 => ?_)
  · refine ap_all [0, 5, 6] (by kernel_rfl) ⟨?_, ?_, ?_, trivial⟩
    · refine apo_ao rfl ?_
      refine ao_read trivial (r_load_arr rfl Try.isAgg47 Try.sizeOf47 rfl rfl rfl) rfl ?_
      refine ao_nil ?_
      refine ap_in ?_
      exact ap_go (by kernel_rfl) (sub_mk idn (by exact ⟨ai rfl, ai rfl, ai rfl, ai rfl, ai rfl, ai rfl, ai rfl, ai rfl, trivial⟩) (by exact ⟨⟨_, rfl, ⟨rfl, trivial⟩⟩, ⟨_, rfl, ⟨rfl, trivial⟩⟩, ⟨_, rfl, ⟨ad_ren rfl, rfl, ad_ren rfl, rfl, ad_ren rfl, rfl, trivial⟩⟩, trivial⟩) (by rfl) (nk rfl)) k25
    · refine apo_ao rfl ?_
      refine ao_read trivial (r_load_elema_int Try.isAgg3 Try.sizeOf3 rfl rfl rfl (show 5 < 6 from by omega)) rfl ?_
      refine ao_nil ?_
      refine ap_in ?_
      exact ap_go (by kernel_rfl) (sub_mk idn (by exact ⟨ai rfl, ai rfl, ai rfl, ai rfl, ai rfl, ai rfl, ai rfl, trivial⟩) (by exact ⟨⟨_, rfl, ⟨rfl, trivial⟩⟩, ⟨_, rfl, ⟨rfl, trivial⟩⟩, ⟨_, rfl, ⟨ad_ren rfl, rfl, ad_ren rfl, rfl, ad_ren rfl, rfl, trivial⟩⟩, trivial⟩) (by rfl) (nk rfl)) k77
    · refine apo_ao rfl ?_
      refine ao_read trivial (r_idxAddr_arr (i := 2) Try.underlying47 Try.sizeOf3 rfl rfl (show 0 ≤ 2 from by omega) (show 2 < (6 : Int) from by omega)) rfl ?_
      refine ao_nil ?_
      refine ap_in ?_
      exact ap_go (by kernel_rfl) (sub_mk idn (by exact ⟨ai rfl, ai rfl, ai rfl, ai rfl, ai rfl, ai rfl, ai rfl, ai rfl, trivial⟩) (by exact ⟨⟨_, rfl, ⟨rfl, trivial⟩⟩, ⟨_, rfl, ⟨rfl, trivial⟩⟩, ⟨_, rfl, ⟨ad_ren rfl, rfl, ad_ren rfl, rfl, ad_ren rfl, rfl, trivial⟩⟩, trivial⟩) (by rfl) (nk rfl)) k81
  refine ap_let (g := 9) (listed := #[false, true, true, true, false, false, true, false, false, true, true, true, true, false, false, false, false]) [(2, .ref 0 0), (3, .int .i64 0), (5, .ref 1 0), (12, .ref 2 0), (14, .int .i64 (r1.1.getD 0 0)), (17, .elem 1 0 1 2), (23, .int .i64 (IntKind.wrap .i64 (3 + (IntKind.wrap .i64 (r2.1.tdiv 6)))))] [(0, .var [.arr (.int .i64) 6 ((List.replicate 6 0) : (List Int))]), (1, .var [.arr (.int .i64) 6 r1.1]), (2, .var [.cell (.v (.slice (.int .u8)) x0), .cell (.int .i64 r2.2.1), .cell (.int .u64 r2.2.2)])] ?_ (fun k86 => ?_)
  · refine ap_all [0, 4, 7] (by kernel_rfl) ⟨?_, ?_, ?_, trivial⟩
    · refine apo_ao rfl ?_
      refine ao_read trivial (r_load_arr rfl Try.isAgg47 Try.sizeOf47 rfl rfl rfl) rfl ?_
      refine ao_nil ?_
      refine ap_in ?_
      exact ap_go (by kernel_rfl) (sub_mk idn (by exact ⟨ai rfl, ai rfl, ai rfl, ai rfl, ai rfl, ai rfl, ai rfl, ai rfl, trivial⟩) (by exact ⟨⟨_, rfl, ⟨rfl, trivial⟩⟩, ⟨_, rfl, ⟨rfl, trivial⟩⟩, ⟨_, rfl, ⟨ad_ren rfl, rfl, ad_ren rfl, rfl, ad_ren rfl, rfl, trivial⟩⟩, trivial⟩) (by rfl) (nk rfl)) k29
    · refine apo_ao rfl ?_
      refine ao_read trivial (r_idxAddr_arr (i := 5) Try.underlying47 Try.sizeOf3 rfl rfl (show 0 ≤ 5 from by omega) (show 5 < (6 : Int) from by omega)) rfl ?_
      refine ao_nil ?_
      refine ap_in ?_
      exact ap_go (by kernel_rfl) (sub_mk idn (by exact ⟨ai rfl, ai rfl, ai rfl, ai rfl, ai rfl, ai rfl, ai rfl, ai rfl, trivial⟩) (by exact ⟨⟨_, rfl, ⟨rfl, trivial⟩⟩, ⟨_, rfl, ⟨rfl, trivial⟩⟩, ⟨_, rfl, ⟨ad_ren rfl, rfl, ad_ren rfl, rfl, ad_ren rfl, rfl, trivial⟩⟩, trivial⟩) (by rfl) (nk rfl)) k81
    · refine apo_ao rfl ?_
      refine ao_read trivial (r_load_elema_int Try.isAgg3 Try.sizeOf3 rfl rfl rfl (show 2 < 6 from by omega)) rfl ?_
      refine ao_nil ?_
      refine ap_in ?_
      exact ap_go (by kernel_rfl) (sub_mk idn (by exact ⟨ai rfl, ai rfl, ai rfl, ai rfl, ai rfl, ai rfl, ai rfl, trivial⟩) (by exact ⟨⟨_, rfl, ⟨rfl, trivial⟩⟩, ⟨_, rfl, ⟨rfl, trivial⟩⟩, ⟨_, rfl, ⟨ad_ren rfl, rfl, ad_ren rfl, rfl, ad_ren rfl, rfl, trivial⟩⟩, trivial⟩) (by rfl) (nk rfl)) k85
  refine ap_let (g := 9) (listed := #[false, true, true, false, true, true, false, false, false, true, true, true, true, false, false, false, false]) [(2, .ref 0 0), (3, .int .i64 0), (5, .ref 1 0), (12, .ref 2 0), (13, .elem 1 0 1 0), (16, .int .i64 (r1.1.getD 5 0)), (23, .int .i64 (IntKind.wrap .i64 (3 + (IntKind.wrap .i64 (r2.1.tdiv 6)))))] [(0, .var [.arr (.int .i64) 6 ((List.replicate 6 0) : (List Int))]), (1, .var [.arr (.int .i64) 6 r1.1]), (2, .var [.cell (.v (.slice (.int .u8)) x0), .cell (.int .i64 r2.2.1), .cell (.int .u64 r2.2.2)])] ?_ (fun k94 => ?_)
  · refine ap_all [0, 3, 6] (by kernel_rfl) ⟨?_, ?_, ?_, trivial⟩
    · refine apo_ao rfl ?_
      refine ao_read trivial (r_load_arr rfl Try.isAgg47 Try.sizeOf47 rfl rfl rfl) rfl ?_
      refine ao_nil ?_
      refine ap_in ?_
      exact ap_go (by kernel_rfl) (sub_mk idn (by exact ⟨ai rfl, ai rfl, ai rfl, ai rfl, ai rfl, ai rfl, ai rfl, ai rfl, trivial⟩) (by exact ⟨⟨_, rfl, ⟨rfl, trivial⟩⟩, ⟨_, rfl, ⟨rfl, trivial⟩⟩, ⟨_, rfl, ⟨ad_ren rfl, rfl, ad_ren rfl, rfl, ad_ren rfl, rfl, trivial⟩⟩, trivial⟩) (by rfl) (nk rfl)) k37
    · refine apo_ao rfl ?_
      refine ao_read trivial (r_load_elema_int Try.isAgg3 Try.sizeOf3 rfl rfl rfl (show 0 < 6 from by omega)) rfl ?_
      refine ao_nil ?_
      refine ap_in ?_
      exact ap_go (by kernel_rfl) (sub_mk idn (by exact ⟨ai rfl, ai rfl, ai rfl, ai rfl, ai rfl, ai rfl, ai rfl, trivial⟩) (by exact ⟨⟨_, rfl, ⟨rfl, trivial⟩⟩, ⟨_, rfl, ⟨rfl, trivial⟩⟩, ⟨_, rfl, ⟨ad_ren rfl, rfl, ad_ren rfl, rfl, ad_ren rfl, rfl, trivial⟩⟩, trivial⟩) (by rfl) (nk rfl)) k77
    · refine apo_ao rfl ?_
      refine ao_read trivial (r_idxAddr_arr (i := 2) Try.underlying47 Try.sizeOf3 rfl rfl (show 0 ≤ 2 from by omega) (show 2 < (6 : Int) from by omega)) rfl ?_
      refine ao_nil ?_
      refine ap_in ?_
      exact ap_go (by kernel_rfl) (sub_mk idn (by exact ⟨ai rfl, ai rfl, ai rfl, ai rfl, ai rfl, ai rfl, ai rfl, ai rfl, trivial⟩) (by exact ⟨⟨_, rfl, ⟨rfl, trivial⟩⟩, ⟨_, rfl, ⟨rfl, trivial⟩⟩, ⟨_, rfl, ⟨ad_ren rfl, rfl, ad_ren rfl, rfl, ad_ren rfl, rfl, trivial⟩⟩, trivial⟩) (by rfl) (nk rfl)) k93
  refine ap_let (g := 9) (listed := #[false, true, true, false, true, false, true, false, false, true, true, true, true, false, false, false, false]) [(2, .ref 0 0), (3, .int .i64 0), (5, .ref 1 0), (12, .ref 2 0), (13, .elem 1 0 1 0), (15, .elem 1 0 1 5), (17, .elem 1 0 1 2), (23, .int .i64 (IntKind.wrap .i64 (3 + (IntKind.wrap .i64 (r2.1.tdiv 6)))))] [(0, .var [.arr (.int .i64) 6 ((List.replicate 6 0) : (List Int))]), (1, .var [.arr (.int .i64) 6 r1.1]), (2, .var [.cell (.v (.slice (.int .u8)) x0), .cell (.int .i64 r2.2.1), .cell (.int .u64 r2.2.2)])] ?_ (fun k98 => ?_)
  · refine ap_all [0, 3, 5, 7] (by kernel_rfl) ⟨?_, ?_, ?_, ?_, trivial⟩
    · refine apo_ao rfl ?_
      refine ao_read trivial (r_load_arr rfl Try.isAgg47 Try.sizeOf47 rfl rfl rfl) rfl ?_
      refine ao_nil ?_
      refine ap_in ?_
      exact ap_go (by kernel_rfl) (sub_mk (rn [(1, 2), (2, 1)]) (by exact ⟨ai rfl, ai rfl, ai rfl, ai rfl, ai rfl, ai rfl, ai rfl, ai rfl, trivial⟩) (by exact ⟨⟨_, rfl, ⟨rfl, trivial⟩⟩, ⟨_, rfl, ⟨ad_ren rfl, rfl, ad_ren rfl, rfl, ad_ren rfl, rfl, trivial⟩⟩, ⟨_, rfl, ⟨rfl, trivial⟩⟩, trivial⟩) (by rfl) (nk rfl)) k41
    · refine apo_ao rfl ?_
      refine ao_read trivial (r_load_elema_int Try.isAgg3 Try.sizeOf3 rfl rfl rfl (show 0 < 6 from by omega)) rfl ?_
      refine ao_nil ?_
      refine ap_in ?_
      exact ap_go (by kernel_rfl) (sub_mk idn (by exact ⟨ai rfl, ai rfl, ai rfl, ai rfl, ai rfl, ai rfl, ai rfl, ai rfl, trivial⟩) (by exact ⟨⟨_, rfl, ⟨rfl, trivial⟩⟩, ⟨_, rfl, ⟨rfl, trivial⟩⟩, ⟨_, rfl, ⟨ad_ren rfl, rfl, ad_ren rfl, rfl, ad_ren rfl, rfl, trivial⟩⟩, trivial⟩) (by rfl) (nk rfl)) k81
    · refine apo_ao rfl ?_
      refine ao_read trivial (r_load_elema_int Try.isAgg3 Try.sizeOf3 rfl rfl rfl (show 5 < 6 from by omega)) rfl ?_
      refine ao_nil ?_
      refine ap_in ?_
      exact ap_go (by kernel_rfl) (sub_mk idn (by exact ⟨ai rfl, ai rfl, ai rfl, ai rfl, ai rfl, ai rfl, ai rfl, ai rfl, trivial⟩) (by exact ⟨⟨_, rfl, ⟨rfl, trivial⟩⟩, ⟨_, rfl, ⟨rfl, trivial⟩⟩, ⟨_, rfl, ⟨ad_ren rfl, rfl, ad_ren rfl, rfl, ad_ren rfl, rfl, trivial⟩⟩, trivial⟩) (by rfl) (nk rfl)) k93
    · refine apo_ao rfl ?_
      refine ao_read trivial (r_load_elema_int Try.isAgg3 Try.sizeOf3 rfl rfl rfl (show 2 < 6 from by omega)) rfl ?_
      refine ao_nil ?_
      refine ap_in ?_
      exact ap_go (by kernel_rfl) (sub_mk idn (by exact ⟨ai rfl, ai rfl, ai rfl, ai rfl, ai rfl, ai rfl, ai rfl, ai rfl, trivial⟩) (by exact ⟨⟨_, rfl, ⟨rfl, trivial⟩⟩, ⟨_, rfl, ⟨rfl, trivial⟩⟩, ⟨_, rfl, ⟨ad_ren rfl, rfl, ad_ren rfl, rfl, ad_ren rfl, rfl, trivial⟩⟩, trivial⟩) (by rfl) (nk rfl)) k97
  refine ap_let (g := 9) (listed := #[false, true, true, false, false, false, true, true, false, true, true, true, true, false, false, false, false]) [(2, .ref 0 0), (3, .int .i64 0), (5, .ref 1 0), (12, .ref 2 0), (13, .elem 1 0 1 0), (18, .int .i64 (r1.1.getD 2 0)), (23, .int .i64 (IntKind.wrap .i64 (3 + (IntKind.wrap .i64 (r2.1.tdiv 6)))))] [(0, .var [.arr (.int .i64) 6 ((List.replicate 6 0) : (List Int))]), (1, .var [.arr (.int .i64) 6 r1.1]), (2, .var [.cell (.v (.slice (.int .u8)) x0), .cell (.int .i64 r2.2.1), .cell (.int .u64 r2.2.2)])] ?_ (fun k102 => ?_)
  · refine ap_all [0, 3, 4] (by kernel_rfl) ⟨?_, ?_, ?_, trivial⟩
    · refine apo_ao rfl ?_
      refine ao_read trivial (r_load_arr rfl Try.isAgg47 Try.sizeOf47 rfl rfl rfl) rfl ?_
      refine ao_nil ?_
      refine ap_in ?_
      exact ap_go (by kernel_rfl) (sub_mk idn (by exact ⟨ai rfl, ai rfl, ai rfl, ai rfl, ai rfl, ai rfl, ai rfl, ai rfl, trivial⟩) (by exact ⟨⟨_, rfl, ⟨rfl, trivial⟩⟩, ⟨_, rfl, ⟨rfl, trivial⟩⟩, ⟨_, rfl, ⟨ad_ren rfl, rfl, ad_ren rfl, rfl, ad_ren rfl, rfl, trivial⟩⟩, trivial⟩) (by rfl) (nk rfl)) k45
    · refine apo_ao rfl ?_
      refine ao_read trivial (r_load_elema_int Try.isAgg3 Try.sizeOf3 rfl rfl rfl (show 0 < 6 from by omega)) rfl ?_
      refine ao_nil ?_
      refine ap_in ?_
      exact ap_go (by kernel_rfl) (sub_mk idn (by exact ⟨ai rfl, ai rfl, ai rfl, ai rfl, ai rfl, ai rfl, ai rfl, trivial⟩) (by exact ⟨⟨_, rfl, ⟨rfl, trivial⟩⟩, ⟨_, rfl, ⟨rfl, trivial⟩⟩, ⟨_, rfl, ⟨ad_ren rfl, rfl, ad_ren rfl, rfl, ad_ren rfl, rfl, trivial⟩⟩, trivial⟩) (by rfl) (nk rfl)) k85
    · refine apo_ao rfl ?_
      refine ao_read trivial (r_idxAddr_arr (i := 5) Try.underlying47 Try.sizeOf3 rfl rfl (show 0 ≤ 5 from by omega) (show 5 < (6 : Int) from by omega)) rfl ?_
      refine ao_nil ?_
      refine ap_in ?_
      exact ap_go (by kernel_rfl) (sub_mk idn (by exact ⟨ai rfl, ai rfl, ai rfl, ai rfl, ai rfl, ai rfl, ai rfl, ai rfl, trivial⟩) (by exact ⟨⟨_, rfl, ⟨rfl, trivial⟩⟩, ⟨_, rfl, ⟨rfl, trivial⟩⟩, ⟨_, rfl, ⟨ad_ren rfl, rfl, ad_ren rfl, rfl, ad_ren rfl, rfl, trivial⟩⟩, trivial⟩) (by rfl) (nk rfl)) k97
  refine ap_let (g := 9) (listed := #[false, true, false, false, true, true, true, false, false, true, true, true, true, false, false, false, false]) [(2, .ref 0 0), (3, .int .i64 0), (5, .ref 1 0), (12, .ref 2 0), (16, .int .i64 (r1.1.getD 5 0)), (17, .elem 1 0 1 2), (23, .int .i64 (IntKind.wrap .i64 (3 + (IntKind.wrap .i64 (r2.1.tdiv 6)))))] [(0, .var [.arr (.int .i64) 6 ((List.replicate 6 0) : (List Int))]), (1, .var [.arr (.int .i64) 6 r1.1]), (2, .var [.cell (.v (.slice (.int .u8)) x0), .cell (.int .i64 r2.2.1), .cell (.int .u64 r2.2.2)])] ?_ (fun k110 => ?_)
  · refine ap_all [0, 2, 7] (by kernel_rfl) ⟨?_, ?_, ?_, trivial⟩
    · refine apo_ao rfl ?_
      refine ao_read trivial (r_load_arr rfl Try.isAgg47 Try.sizeOf47 rfl rfl rfl) rfl ?_
      refine ao_nil ?_
      refine ap_in ?_
      exact ap_go (by kernel_rfl) (sub_mk idn (by exact ⟨ai rfl, ai rfl, ai rfl, ai rfl, ai rfl, ai rfl, ai rfl, ai rfl, trivial⟩) (by exact ⟨⟨_, rfl, ⟨rfl, trivial⟩⟩, ⟨_, rfl, ⟨rfl, trivial⟩⟩, ⟨_, rfl, ⟨ad_ren rfl, rfl, ad_ren rfl, rfl, ad_ren rfl, rfl, trivial⟩⟩, trivial⟩) (by rfl) (nk rfl)) k53
    · refine apo_ao rfl ?_
      refine ao_read trivial (r_idxAddr_arr (i := 0) Try.underlying47 Try.sizeOf3 rfl rfl (show 0 ≤ 0 from by omega) (show 0 < (6 : Int) from by omega)) rfl ?_
      refine ao_nil ?_
      refine ap_in ?_
      exact ap_go (by kernel_rfl) (sub_mk idn (by exact ⟨ai rfl, ai rfl, ai rfl, ai rfl, ai rfl, ai rfl, ai rfl, ai rfl, trivial⟩) (by exact ⟨⟨_, rfl, ⟨rfl, trivial⟩⟩, ⟨_, rfl, ⟨rfl, trivial⟩⟩, ⟨_, rfl, ⟨ad_ren rfl, rfl, ad_ren rfl, rfl, ad_ren rfl, rfl, trivial⟩⟩, trivial⟩) (by rfl) (nk rfl)) k93
    · refine apo_ao rfl ?_
      refine ao_read trivial (r_load_elema_int Try.isAgg3 Try.sizeOf3 rfl rfl rfl (show 2 < 6 from by omega)) rfl ?_
      refine ao_nil ?_
      refine ap_in ?_
      exact ap_go (by kernel_rfl) (sub_mk idn (by exact ⟨ai rfl, ai rfl, ai rfl, ai rfl, ai rfl, ai rfl, ai rfl, trivial⟩) (by exact ⟨⟨_, rfl, ⟨rfl, trivial⟩⟩, ⟨_, rfl, ⟨rfl, trivial⟩⟩, ⟨_, rfl, ⟨ad_ren rfl, rfl, ad_ren rfl, rfl, ad_ren rfl, rfl, trivial⟩⟩, trivial⟩) (by rfl) (nk rfl)) k109
  refine ap_let (g := 9) (listed := #[false, true, false, false, true, false, true, true, false, true, true, true, true, false, false, false, false]) [(2, .ref 0 0), (3, .int .i64 0), (5, .ref 1 0), (12, .ref 2 0), (15, .elem 1 0 1 5), (18, .int .i64 (r1.1.getD 2 0)), (23, .int .i64 (IntKind.wrap .i64 (3 + (IntKind.wrap .i64 (r2.1.tdiv 6)))))] [(0, .var [.arr (.int .i64) 6 ((List.replicate 6 0) : (List Int))]), (1, .var [.arr (.int .i64) 6 r1.1]), (2, .var [.cell (.v (.slice (.int .u8)) x0), .cell (.int .i64 r2.2.1), .cell (.int .u64 r2.2.2)])] ?_ (fun k114 => ?_)
  · refine ap_all [0, 2, 5] (by kernel_rfl) ⟨?_, ?_, ?_, trivial⟩
    · refine apo_ao rfl ?_
      refine ao_read trivial (r_load_arr rfl Try.isAgg47 Try.sizeOf47 rfl rfl rfl) rfl ?_
      refine ao_nil ?_
      refine ap_in ?_
      exact ap_go (by kernel_rfl) (sub_mk idn (by exact ⟨ai rfl, ai rfl, ai rfl, ai rfl, ai rfl, ai rfl, ai rfl, ai rfl, trivial⟩) (by exact ⟨⟨_, rfl, ⟨rfl, trivial⟩⟩, ⟨_, rfl, ⟨rfl, trivial⟩⟩, ⟨_, rfl, ⟨ad_ren rfl, rfl, ad_ren rfl, rfl, ad_ren rfl, rfl, trivial⟩⟩, trivial⟩) (by rfl) (nk rfl)) k57
    · refine apo_ao rfl ?_
      refine ao_read trivial (r_idxAddr_arr (i := 0) Try.underlying47 Try.sizeOf3 rfl rfl (show 0 ≤ 0 from by omega) (show 0 < (6 : Int) from by omega)) rfl ?_
      refine ao_nil ?_
      refine ap_in ?_
      exact ap_go (by kernel_rfl) (sub_mk idn (by exact ⟨ai rfl, ai rfl, ai rfl, ai rfl, ai rfl, ai rfl, ai rfl, ai rfl, trivial⟩) (by exact ⟨⟨_, rfl, ⟨rfl, trivial⟩⟩, ⟨_, rfl, ⟨rfl, trivial⟩⟩, ⟨_, rfl, ⟨ad_ren rfl, rfl, ad_ren rfl, rfl, ad_ren rfl, rfl, trivial⟩⟩, trivial⟩) (by rfl) (nk rfl)) k97
    · refine apo_ao rfl ?_
      refine ao_read trivial (r_load_elema_int Try.isAgg3 Try.sizeOf3 rfl rfl rfl (show 5 < 6 from by omega)) rfl ?_
      refine ao_nil ?_
      refine ap_in ?_
      exact ap_go (by kernel_rfl) (sub_mk idn (by exact ⟨ai rfl, ai rfl, ai rfl, ai rfl, ai rfl, ai rfl, ai rfl, trivial⟩) (by exact ⟨⟨_, rfl, ⟨rfl, trivial⟩⟩, ⟨_, rfl, ⟨rfl, trivial⟩⟩, ⟨_, rfl, ⟨ad_ren rfl, rfl, ad_ren rfl, rfl, ad_ren rfl, rfl, trivial⟩⟩, trivial⟩) (by rfl) (nk rfl)) k109
  refine ap_let (g := 10) (listed := #[true, true, true, true, true, true, false, false, false, true, false, false, false, false, false, false, false]) [(2, .ref 0 0), (3, .int .i64 0), (5, .ref 1 0), (11, .v (.arr 6 (.int .i64)) r1.1), (12, .ref 2 0), (14, .int .i64 (r1.1.getD 0 0)), (16, .int .i64 (r1.1.getD 5 0)), (20, .ref 2 0)] [(0, .var [.arr (.int .i64) 6 ((List.replicate 6 0) : (List Int))]), (1, .var [.arr (.int .i64) 6 r1.1]), (2, .var [.cell (.v (.slice (.int .u8)) x0), .cell (.int .i64 r1.2.1), .cell (.int .u64 r1.2.2)])] ?_ (fun k11 => ?_)
  · refine ap_all [6, 10] (by kernel_rfl) ⟨?_, ?_, trivial⟩
    · refine apo_ao rfl ?_
      refine ao_read trivial (r_idxAddr_arr (i := 2) Try.underlying47 Try.sizeOf3 rfl rfl (show 0 ≤ 2 from by omega) (show 2 < (6 : Int) from by omega)) rfl ?_
      refine ao_nil ?_
      refine ap_in ?_
      exact ap_go (by kernel_rfl) (sub_mk (rn [(1, 2), (2, 1)]) (by exact ⟨ai rfl, ai rfl, ai rfl, ai rfl, ai rfl, ai rfl, ai rfl, ai rfl, trivial⟩) (by exact ⟨⟨_, rfl, ⟨rfl, trivial⟩⟩, ⟨_, rfl, ⟨ad_ren rfl, rfl, ad_ren rfl, rfl, ad_ren rfl, rfl, trivial⟩⟩, ⟨_, rfl, ⟨rfl, trivial⟩⟩, trivial⟩) (by rfl) (nk rfl)) k12
    · refine apo_ao rfl ?_
      refine ao_callV [2] 3 trivial (c_spec_l1Cur_pick (is_mk r2h)) Try.func84 rfl rfl rfl rfl rfl ⟨rfl, trivial⟩ ⟨⟨_, rfl, ⟨ad_ren rfl, rfl, ad_ren rfl, rfl, ad_ren rfl, rfl, trivial⟩⟩, trivial⟩ rfl rfl rfl rfl rfl rfl rfl (fun r' H' hr => ?_)
      obtain ⟨rfl, rfl⟩ := hr
      refine ao_norm (y := .int .i64 r2.1) (H' := [(0, .var [.arr (.int .i64) 6 ((List.replicate 6 0) : (List Int))]), (1, .var [.arr (.int .i64) 6 r1.1]), (2, .var [.cell (.v (.slice (.int .u8)) x0), .cell (.int .i64 r2.2.1), .cell (.int .u64 r2.2.2)])]) rfl rfl ?_
      refine ao_nil ?_
      refine ap_in ?_
      refine ap_pure 11 (by kernel_rfl) (fun _ _ _ h => h) rfl (by kernel_rfl) trivial (rp_quo rfl rfl (by decide)) rfl ?_
      refine ap_pure 12 (by kernel_rfl) (fun _ _ _ h => h) rfl (by kernel_rfl) trivial (rp_add rfl rfl) rfl ?_
      exact ap_go (by kernel_rfl) (sub_mk idn (by exact ⟨ai rfl, ai rfl, ai rfl, ai rfl, ai rfl, ai rfl, ai rfl, ai rfl, trivial⟩) (by exact ⟨⟨_, rfl, ⟨rfl, trivial⟩⟩, ⟨_, rfl, ⟨rfl, trivial⟩⟩, ⟨_, rfl, ⟨ad_ren rfl, rfl, ad_ren rfl, rfl, ad_ren rfl, rfl, trivial⟩⟩, trivial⟩) (by rfl) (nk rfl)) k20
  refine ap_let (g := 10) (listed := #[true, true, true, true, true, false, true, false, false, true, false, false, false, false, false, false, false]) [(2, .ref 0 0), (3, .int .i64 0), (11, .v (.arr 6 (.int .i64)) r1.1), (12, .ref 1 0), (14, .int .i64 (r1.1.getD 0 0)), (15, .elem 2 0 1 5), (17, .elem 2 0 1 2), (20, .ref 1 0)] [(0, .var [.arr (.int .i64) 6 ((List.replicate 6 0) : (List Int))]), (1, .var [.cell (.v (.slice (.int .u8)) x0), .cell (.int .i64 r1.2.1), .cell (.int .u64 r1.2.2)]), (2, .var [.arr (.int .i64) 6 r1.1])] ?_ (fun k21 => ?_)
  · refine ap_all [5, 7, 10] (by kernel_rfl) ⟨?_, ?_, ?_, trivial⟩
    · refine apo_ao rfl ?_
      refine ao_read trivial (r_load_elema_int Try.isAgg3 Try.sizeOf3 rfl rfl rfl (show 5 < 6 from by omega)) rfl ?_
      refine ao_nil ?_
      refine ap_in ?_
      exact ap_go (by kernel_rfl) (sub_mk idn (by exact ⟨ai rfl, ai rfl, ai rfl, ai rfl, ai rfl, ai rfl, ai rfl, ai rfl, trivial⟩) (by exact ⟨⟨_, rfl, ⟨rfl, trivial⟩⟩, ⟨_, rfl, ⟨ad_ren rfl, rfl, ad_ren rfl, rfl, ad_ren rfl, rfl, trivial⟩⟩, ⟨_, rfl, ⟨rfl, trivial⟩⟩, trivial⟩) (by rfl) (nk rfl)) k12
    · refine apo_ao rfl ?_
      refine ao_read trivial (r_load_elema_int Try.isAgg3 Try.sizeOf3 rfl rfl rfl (show 2 < 6 from by omega)) rfl ?_
      refine ao_nil ?_
      refine ap_in ?_
      exact ap_go (by kernel_rfl) (sub_mk idn (by exact ⟨ai rfl, ai rfl, ai rfl, ai rfl, ai rfl, ai rfl, ai rfl, ai rfl, trivial⟩) (by exact ⟨⟨_, rfl, ⟨rfl, trivial⟩⟩, ⟨_, rfl, ⟨ad_ren rfl, rfl, ad_ren rfl, rfl, ad_ren rfl, rfl, trivial⟩⟩, ⟨_, rfl, ⟨rfl, trivial⟩⟩, trivial⟩) (by rfl) (nk rfl)) k22
    · refine apo_ao rfl ?_
      refine ao_callV [1] 3 trivial (c_spec_l1Cur_pick (is_mk r2h)) Try.func84 rfl rfl rfl rfl rfl ⟨rfl, trivial⟩ ⟨⟨_, rfl, ⟨ad_ren rfl, rfl, ad_ren rfl, rfl, ad_ren rfl, rfl, trivial⟩⟩, trivial⟩ rfl rfl rfl rfl rfl rfl rfl (fun r' H' hr => ?_)
      obtain ⟨rfl, rfl⟩ := hr
      refine ao_norm (y := .int .i64 r2.1) (H' := [(0, .var [.arr (.int .i64) 6 ((List.replicate 6 0) : (List Int))]), (2, .var [.arr (.int .i64) 6 r1.1]), (1, .var [.cell (.v (.slice (.int .u8)) x0), .cell (.int .i64 r2.2.1), .cell (.int .u64 r2.2.2)])]) rfl rfl ?_
      refine ao_nil ?_
      refine ap_in ?_
      refine ap_pure 11 (by kernel_rfl) (fun _ _ _ h => h) rfl (by kernel_rfl) trivial (rp_quo rfl rfl (by decide)) rfl ?_
      refine ap_pure 12 (by kernel_rfl) (fun _ _ _ h => h) rfl (by kernel_rfl) trivial (rp_add rfl rfl) rfl ?_
      exact ap_go (by kernel_rfl) (sub_mk idn (by exact ⟨ai rfl, ai rfl, ai rfl, ai rfl, ai rfl, ai rfl, ai rfl, ai rfl, trivial⟩) (by exact ⟨⟨_, rfl, ⟨rfl, trivial⟩⟩, ⟨_, rfl, ⟨ad_ren rfl, rfl, ad_ren rfl, rfl, ad_ren rfl, rfl, trivial⟩⟩, ⟨_, rfl, ⟨rfl, trivial⟩⟩, trivial⟩) (by rfl) (nk rfl)) k24
  refine ap_let (g := 10) (listed := #[true, true, true, true, false, false, true, true, false, true, false, false, false, false, false, false, false]) [(2, .ref 0 0), (3, .int .i64 0), (5, .ref 1 0), (11, .v (.arr 6 (.int .i64)) r1.1), (12, .ref 2 0), (14, .int .i64 (r1.1.getD 0 0)), (18, .int .i64 (r1.1.getD 2 0)), (20, .ref 2 0)] [(0, .var [.arr (.int .i64) 6 ((List.replicate 6 0) : (List Int))]), (1, .var [.arr (.int .i64) 6 r1.1]), (2, .var [.cell (.v (.slice (.int .u8)) x0), .cell (.int .i64 r1.2.1), .cell (.int .u64 r1.2.2)])] ?_ (fun k27 => ?_)
  · refine ap_all [4, 10] (by kernel_rfl) ⟨?_, ?_, trivial⟩
    · refine apo_ao rfl ?_
      refine ao_read trivial (r_idxAddr_arr (i := 5) Try.underlying47 Try.sizeOf3 rfl rfl (show 0 ≤ 5 from by omega) (show 5 < (6 : Int) from by omega)) rfl ?_
      refine ao_nil ?_
      refine ap_in ?_
      exact ap_go (by kernel_rfl) (sub_mk (rn [(1, 2), (2, 1)]) (by exact ⟨ai rfl, ai rfl, ai rfl, ai rfl, ai rfl, ai rfl, ai rfl, ai rfl, trivial⟩) (by exact ⟨⟨_, rfl, ⟨rfl, trivial⟩⟩, ⟨_, rfl, ⟨ad_ren rfl, rfl, ad_ren rfl, rfl, ad_ren rfl, rfl, trivial⟩⟩, ⟨_, rfl, ⟨rfl, trivial⟩⟩, trivial⟩) (by rfl) (nk rfl)) k22
    · refine apo_ao rfl ?_
      refine ao_callV [2] 3 trivial (c_spec_l1Cur_pick (is_mk r2h)) Try.func84 rfl rfl rfl rfl rfl ⟨rfl, trivial⟩ ⟨⟨_, rfl, ⟨ad_ren rfl, rfl, ad_ren rfl, rfl, ad_ren rfl, rfl, trivial⟩⟩, trivial⟩ rfl rfl rfl rfl rfl rfl rfl (fun r' H' hr => ?_)
      obtain ⟨rfl, rfl⟩ := hr
      refine ao_norm (y := .int .i64 r2.1) (H' := [(0, .var [.arr (.int .i64) 6 ((List.replicate 6 0) : (List Int))]), (1, .var [.arr (.int .i64) 6 r1.1]), (2, .var [.cell (.v (.slice (.int .u8)) x0), .cell (.int .i64 r2.2.1), .cell (.int .u64 r2.2.2)])]) rfl rfl ?_
      refine ao_nil ?_
      refine ap_in ?_
      refine ap_pure 11 (by kernel_rfl) (fun _ _ _ h => h) rfl (by kernel_rfl) trivial (rp_quo rfl rfl (by decide)) rfl ?_
      refine ap_pure 12 (by kernel_rfl) (fun _ _ _ h => h) rfl (by kernel_rfl) trivial (rp_add rfl rfl) rfl ?_
      exact ap_go (by kernel_rfl) (sub_mk idn (by exact ⟨ai rfl, ai rfl, ai rfl, ai rfl, ai rfl, ai rfl, ai rfl, ai rfl, trivial⟩) (by exact ⟨⟨_, rfl, ⟨rfl, trivial⟩⟩, ⟨_, rfl, ⟨rfl, trivial⟩⟩, ⟨_, rfl, ⟨ad_ren rfl, rfl, ad_ren rfl, rfl, ad_ren rfl, rfl, trivial⟩⟩, trivial⟩) (by rfl) (nk rfl)) k28
  refine ap_let (g := 10) (listed := #[true, true, true, false, true, true, true, false, false, true, false, false, false, false, false, false, false]) [(2, .ref 0 0), (3, .int .i64 0), (11, .v (.arr 6 (.int .i64)) r1.1), (12, .ref 1 0), (13, .elem 2 0 1 0), (16, .int .i64 (r1.1.getD 5 0)), (17, .elem 2 0 1 2), (20, .ref 1 0)] [(0, .var [.arr (.int .i64) 6 ((List.replicate 6 0) : (List Int))]), (1, .var [.cell (.v (.slice (.int .u8)) x0), .cell (.int .i64 r1.2.1), .cell (.int .u64 r1.2.2)]), (2, .var [.arr (.int .i64) 6 r1.1])] ?_ (fun k33 => ?_)
  · refine ap_all [3, 7, 10] (by kernel_rfl) ⟨?_, ?_, ?_, trivial⟩
    · refine apo_ao rfl ?_
      refine ao_read trivial (r_load_elema_int Try.isAgg3 Try.sizeOf3 rfl rfl rfl (show 0 < 6 from by omega)) rfl ?_
      refine ao_nil ?_
      refine ap_in ?_
      exact ap_go (by kernel_rfl) (sub_mk idn (by exact ⟨ai rfl, ai rfl, ai rfl, ai rfl, ai rfl, ai rfl, ai rfl, ai rfl, trivial⟩) (by exact ⟨⟨_, rfl, ⟨rfl, trivial⟩⟩, ⟨_, rfl, ⟨ad_ren rfl, rfl, ad_ren rfl, rfl, ad_ren rfl, rfl, trivial⟩⟩, ⟨_, rfl, ⟨rfl, trivial⟩⟩, trivial⟩) (by rfl) (nk rfl)) k12
    · refine apo_ao rfl ?_
      refine ao_read trivial (r_load_elema_int Try.isAgg3 Try.sizeOf3 rfl rfl rfl (show 2 < 6 from by omega)) rfl ?_
      refine ao_nil ?_
      refine ap_in ?_
      exact ap_go (by kernel_rfl) (sub_mk idn (by exact ⟨ai rfl, ai rfl, ai rfl, ai rfl, ai rfl, ai rfl, ai rfl, ai rfl, trivial⟩) (by exact ⟨⟨_, rfl, ⟨rfl, trivial⟩⟩, ⟨_, rfl, ⟨ad_ren rfl, rfl, ad_ren rfl, rfl, ad_ren rfl, rfl, trivial⟩⟩, ⟨_, rfl, ⟨rfl, trivial⟩⟩, trivial⟩) (by rfl) (nk rfl)) k34
    · refine apo_ao rfl ?_
      refine ao_callV [1] 3 trivial (c_spec_l1Cur_pick (is_mk r2h)) Try.func84 rfl rfl rfl rfl rfl ⟨rfl, trivial⟩ ⟨⟨_, rfl, ⟨ad_ren rfl, rfl, ad_ren rfl, rfl, ad_ren rfl, rfl, trivial⟩⟩, trivial⟩ rfl rfl rfl rfl rfl rfl rfl (fun r' H' hr => ?_)
      obtain ⟨rfl, rfl⟩ := hr
      refine ao_norm (y := .int .i64 r2.1) (H' := [(0, .var [.arr (.int .i64) 6 ((List.replicate 6 0) : (List Int))]), (2, .var [.arr (.int .i64) 6 r1.1]), (1, .var [.cell (.v (.slice (.int .u8)) x0), .cell (.int .i64 r2.2.1), .cell (.int .u64 r2.2.2)])]) rfl rfl ?_
      refine ao_nil ?_
      refine ap_in ?_
      refine ap_pure 11 (by kernel_rfl) (fun _ _ _ h => h) rfl (by kernel_rfl) trivial (rp_quo rfl rfl (by decide)) rfl ?_
      refine ap_pure 12 (by kernel_rfl) (fun _ _ _ h => h) rfl (by kernel_rfl) trivial (rp_add rfl rfl) rfl ?_
      exact ap_go (by kernel_rfl) (sub_mk idn (by exact ⟨ai rfl, ai rfl, ai rfl, ai rfl, ai rfl, ai rfl, ai rfl, ai rfl, trivial⟩) (by exact ⟨⟨_, rfl, ⟨rfl, trivial⟩⟩, ⟨_, rfl, ⟨ad_ren rfl, rfl, ad_ren rfl, rfl, ad_ren rfl, rfl, trivial⟩⟩, ⟨_, rfl, ⟨rfl, trivial⟩⟩, trivial⟩) (by rfl) (nk rfl)) k36
  refine ap_let (g := 10) (listed := #[true, true, true, false, true, false, true, true, false, true, false, false, false, false, false, false, false]) [(2, .ref 0 0), (3, .int .i64 0), (11, .v (.arr 6 (.int .i64)) r1.1), (12, .ref 1 0), (13, .elem 2 0 1 0), (15, .elem 2 0 1 5), (18, .int .i64 (r1.1.getD 2 0)), (20, .ref 1 0)] [(0, .var [.arr (.int .i64) 6 ((List.replicate 6 0) : (List Int))]), (1, .var [.cell (.v (.slice (.int .u8)) x0), .cell (.int .i64 r1.2.1), .cell (.int .u64 r1.2.2)]), (2, .var [.arr (.int .i64) 6 r1.1])] ?_ (fun k39 => ?_)
  · refine ap_all [3, 5, 10] (by kernel_rfl) ⟨?_, ?_, ?_, trivial⟩
    · refine apo_ao rfl ?_
      refine ao_read trivial (r_load_elema_int Try.isAgg3 Try.sizeOf3 rfl rfl rfl (show 0 < 6 from by omega)) rfl ?_
      refine ao_nil ?_
      refine ap_in ?_
      exact ap_go (by kernel_rfl) (sub_mk idn (by exact ⟨ai rfl, ai rfl, ai rfl, ai rfl, ai rfl, ai rfl, ai rfl, ai rfl, trivial⟩) (by exact ⟨⟨_, rfl, ⟨rfl, trivial⟩⟩, ⟨_, rfl, ⟨ad_ren rfl, rfl, ad_ren rfl, rfl, ad_ren rfl, rfl, trivial⟩⟩, ⟨_, rfl, ⟨rfl, trivial⟩⟩, trivial⟩) (by rfl) (nk rfl)) k22
    · refine apo_ao rfl ?_
      refine ao_read trivial (r_load_elema_int Try.isAgg3 Try.sizeOf3 rfl rfl rfl (show 5 < 6 from by omega)) rfl ?_
      refine ao_nil ?_
      refine ap_in ?_
      exact ap_go (by kernel_rfl) (sub_mk idn (by exact ⟨ai rfl, ai rfl, ai rfl, ai rfl, ai rfl, ai rfl, ai rfl, ai rfl, trivial⟩) (by exact ⟨⟨_, rfl, ⟨rfl, trivial⟩⟩, ⟨_, rfl, ⟨ad_ren rfl, rfl, ad_ren rfl, rfl, ad_ren rfl, rfl, trivial⟩⟩, ⟨_, rfl, ⟨rfl, trivial⟩⟩, trivial⟩) (by rfl) (nk rfl)) k34
    · refine apo_ao rfl ?_
      refine ao_callV [1] 3 trivial (c_spec_l1Cur_pick (is_mk r2h)) Try.func84 rfl rfl rfl rfl rfl ⟨rfl, trivial⟩ ⟨⟨_, rfl, ⟨ad_ren rfl, rfl, ad_ren rfl, rfl, ad_ren rfl, rfl, trivial⟩⟩, trivial⟩ rfl rfl rfl rfl rfl rfl rfl (fun r' H' hr => ?_)
      obtain ⟨rfl, rfl⟩ := hr
      refine ao_norm (y := .int .i64 r2.1) (H' := [(0, .var [.arr (.int .i64) 6 ((List.replicate 6 0) : (List Int))]), (2, .var [.arr (.int .i64) 6 r1.1]), (1, .var [.cell (.v (.slice (.int .u8)) x0), .cell (.int .i64 r2.2.1), .cell (.int .u64 r2.2.2)])]) rfl rfl ?_
      refine ao_nil ?_
      refine ap_in ?_
      refine ap_pure 11 (by kernel_rfl) (fun _ _ _ h => h) rfl (by kernel_rfl) trivial (rp_quo rfl rfl (by decide)) rfl ?_
      refine ap_pure 12 (by kernel_rfl) (fun _ _ _ h => h) rfl (by kernel_rfl) trivial (rp_add rfl rfl) rfl ?_
      exact ap_go (by kernel_rfl) (sub_mk idn (by exact ⟨ai rfl, ai rfl, ai rfl, ai rfl, ai rfl, ai rfl, ai rfl, ai rfl, trivial⟩) (by exact ⟨⟨_, rfl, ⟨rfl, trivial⟩⟩, ⟨_, rfl, ⟨ad_ren rfl, rfl, ad_ren rfl, rfl, ad_ren rfl, rfl, trivial⟩⟩, ⟨_, rfl, ⟨rfl, trivial⟩⟩, trivial⟩) (by rfl) (nk rfl)) k40
  refine ap_let (g := 10) (listed := #[true, true, true, false, false, false, false, false, false, true, true, true, true, false, false, false, false]) [(2, .ref 0 0), (3, .int .i64 0), (5, .ref 1 0), (11, .v (.arr 6 (.int .i64)) r1.1), (12, .ref 2 0), (13, .elem 1 0 1 0), (23, .int .i64 (IntKind.wrap .i64 (3 + (IntKind.wrap .i64 (r2.1.tdiv 6)))))] [(0, .var [.arr (.int .i64) 6 ((List.replicate 6 0) : (List Int))]), (1, .var [.arr (.int .i64) 6 r1.1]), (2, .var [.cell (.v (.slice (.int .u8)) x0), .cell (.int .i64 r2.2.1), .cell (.int .u64 r2.2.2)])] ?_ (fun k47 => ?_)
  · refine ap_all [3, 4, 6] (by kernel_rfl) ⟨?_, ?_, ?_, trivial⟩
    · refine apo_ao rfl ?_
      refine ao_read trivial (r_load_elema_int Try.isAgg3 Try.sizeOf3 rfl rfl rfl (show 0 < 6 from by omega)) rfl ?_
      refine ao_nil ?_
      refine ap_in ?_
      exact ap_go (by kernel_rfl) (sub_mk idn (by exact ⟨ai rfl, ai rfl, ai rfl, ai rfl, ai rfl, ai rfl, ai rfl, trivial⟩) (by exact ⟨⟨_, rfl, ⟨rfl, trivial⟩⟩, ⟨_, rfl, ⟨rfl, trivial⟩⟩, ⟨_, rfl, ⟨ad_ren rfl, rfl, ad_ren rfl, rfl, ad_ren rfl, rfl, trivial⟩⟩, trivial⟩) (by rfl) (nk rfl)) k30
    · refine apo_ao rfl ?_
      refine ao_read trivial (r_idxAddr_arr (i := 5) Try.underlying47 Try.sizeOf3 rfl rfl (show 0 ≤ 5 from by omega) (show 5 < (6 : Int) from by omega)) rfl ?_
      refine ao_nil ?_
      refine ap_in ?_
      exact ap_go (by kernel_rfl) (sub_mk idn (by exact ⟨ai rfl, ai rfl, ai rfl, ai rfl, ai rfl, ai rfl, ai rfl, ai rfl, trivial⟩) (by exact ⟨⟨_, rfl, ⟨rfl, trivial⟩⟩, ⟨_, rfl, ⟨rfl, trivial⟩⟩, ⟨_, rfl, ⟨ad_ren rfl, rfl, ad_ren rfl, rfl, ad_ren rfl, rfl, trivial⟩⟩, trivial⟩) (by rfl) (nk rfl)) k42
    · refine apo_ao rfl ?_
      refine ao_read trivial (r_idxAddr_arr (i := 2) Try.underlying47 Try.sizeOf3 rfl rfl (show 0 ≤ 2 from by omega) (show 2 < (6 : Int) from by omega)) rfl ?_
      refine ao_nil ?_
      refine ap_in ?_
      exact ap_go (by kernel_rfl) (sub_mk idn (by exact ⟨ai rfl, ai rfl, ai rfl, ai rfl, ai rfl, ai rfl, ai rfl, ai rfl, trivial⟩) (by exact ⟨⟨_, rfl, ⟨rfl, trivial⟩⟩, ⟨_, rfl, ⟨rfl, trivial⟩⟩, ⟨_, rfl, ⟨ad_ren rfl, rfl, ad_ren rfl, rfl, ad_ren rfl, rfl, trivial⟩⟩, trivial⟩) (by rfl) (nk rfl)) k46
  refine ap_let (g := 10) (listed := #[true, true, false, false, true, true, true, true, false, true, false, false, false, false, false, false, false]) [(2, .ref 0 0), (3, .int .i64 0), (5, .ref 1 0), (11, .v (.arr 6 (.int .i64)) r1.1), (12, .ref 2 0), (16, .int .i64 (r1.1.getD 5 0)), (18, .int .i64 (r1.1.getD 2 0)), (20, .ref 2 0)] [(0, .var [.arr (.int .i64) 6 ((List.replicate 6 0) : (List Int))]), (1, .var [.arr (.int .i64) 6 r1.1]), (2, .var [.cell (.v (.slice (.int .u8)) x0), .cell (.int .i64 r1.2.1), .cell (.int .u64 r1.2.2)])] ?_ (fun k51 => ?_)
  · refine ap_all [2, 10] (by kernel_rfl) ⟨?_, ?_, trivial⟩
    · refine apo_ao rfl ?_
      refine ao_read trivial (r_idxAddr_arr (i := 0) Try.underlying47 Try.sizeOf3 rfl rfl (show 0 ≤ 0 from by omega) (show 0 < (6 : Int) from by omega)) rfl ?_
      refine ao_nil ?_
      refine ap_in ?_
      exact ap_go (by kernel_rfl) (sub_mk (rn [(1, 2), (2, 1)]) (by exact ⟨ai rfl, ai rfl, ai rfl, ai rfl, ai rfl, ai rfl, ai rfl, ai rfl, trivial⟩) (by exact ⟨⟨_, rfl, ⟨rfl, trivial⟩⟩, ⟨_, rfl, ⟨ad_ren rfl, rfl, ad_ren rfl, rfl, ad_ren rfl, rfl, trivial⟩⟩, ⟨_, rfl, ⟨rfl, trivial⟩⟩, trivial⟩) (by rfl) (nk rfl)) k34
    · refine apo_ao rfl ?_
      refine ao_callV [2] 3 trivial (c_spec_l1Cur_pick (is_mk r2h)) Try.func84 rfl rfl rfl rfl rfl ⟨rfl, trivial⟩ ⟨⟨_, rfl, ⟨ad_ren rfl, rfl, ad_ren rfl, rfl, ad_ren rfl, rfl, trivial⟩⟩, trivial⟩ rfl rfl rfl rfl rfl rfl rfl (fun r' H' hr => ?_)
      obtain ⟨rfl, rfl⟩ := hr
      refine ao_norm (y := .int .i64 r2.1) (H' := [(0, .var [.arr (.int .i64) 6 ((List.replicate 6 0) : (List Int))]), (1, .var [.arr (.int .i64) 6 r1.1]), (2, .var [.cell (.v (.slice (.int .u8)) x0), .cell (.int .i64 r2.2.1), .cell (.int .u64 r2.2.2)])]) rfl rfl ?_
      refine ao_nil ?_
      refine ap_in ?_
      refine ap_pure 11 (by kernel_rfl) (fun _ _ _ h => h) rfl (by kernel_rfl) trivial (rp_quo rfl rfl (by decide)) rfl ?_
      refine ap_pure 12 (by kernel_rfl) (fun _ _ _ h => h) rfl (by kernel_rfl) trivial (rp_add rfl rfl) rfl ?_
      exact ap_go (by kernel_rfl) (sub_mk idn (by exact ⟨ai rfl, ai rfl, ai rfl, ai rfl, ai rfl, ai rfl, ai rfl, ai rfl, trivial⟩) (by exact ⟨⟨_, rfl, ⟨rfl, trivial⟩⟩, ⟨_, rfl, ⟨rfl, trivial⟩⟩, ⟨_, rfl, ⟨ad_ren rfl, rfl, ad_ren rfl, rfl, ad_ren rfl, rfl, trivial⟩⟩, trivial⟩) (by rfl) (nk rfl)) k52
  refine ap_let (g := 10) (listed := #[true, true, false, false, true, false, false, false, false, true, true, true, true, false, false, false, false]) [(2, .ref 0 0), (3, .int .i64 0), (5, .ref 1 0), (11, .v (.arr 6 (.int .i64)) r1.1), (12, .ref 2 0), (15, .elem 1 0 1 5), (23, .int .i64 (IntKind.wrap .i64 (3 + (IntKind.wrap .i64 (r2.1.tdiv 6)))))] [(0, .var [.arr (.int .i64) 6 ((List.replicate 6 0) : (List Int))]), (1, .var [.arr (.int .i64) 6 r1.1]), (2, .var [.cell (.v (.slice (.int .u8)) x0), .cell (.int .i64 r2.2.1), .cell (.int .u64 r2.2.2)])] ?_ (fun k59 => ?_)
  · refine ap_all [2, 5, 6] (by kernel_rfl) ⟨?_, ?_, ?_, trivial⟩
    · refine apo_ao rfl ?_
      refine ao_read trivial (r_idxAddr_arr (i := 0) Try.underlying47 Try.sizeOf3 rfl rfl (show 0 ≤ 0 from by omega) (show 0 < (6 : Int) from by omega)) rfl ?_
      refine ao_nil ?_
      refine ap_in ?_
      exact ap_go (by kernel_rfl) (sub_mk idn (by exact ⟨ai rfl, ai rfl, ai rfl, ai rfl, ai rfl, ai rfl, ai rfl, ai rfl, trivial⟩) (by exact ⟨⟨_, rfl, ⟨rfl, trivial⟩⟩, ⟨_, rfl, ⟨rfl, trivial⟩⟩, ⟨_, rfl, ⟨ad_ren rfl, rfl, ad_ren rfl, rfl, ad_ren rfl, rfl, trivial⟩⟩, trivial⟩) (by rfl) (nk rfl)) k42
    · refine apo_ao rfl ?_
      refine ao_read trivial (r_load_elema_int Try.isAgg3 Try.sizeOf3 rfl rfl rfl (show 5 < 6 from by omega)) rfl ?_
      refine ao_nil ?_
      refine ap_in ?_
      exact ap_go (by kernel_rfl) (sub_mk idn (by exact ⟨ai rfl, ai rfl, ai rfl, ai rfl, ai rfl, ai rfl, ai rfl, trivial⟩) (by exact ⟨⟨_, rfl, ⟨rfl, trivial⟩⟩, ⟨_, rfl, ⟨rfl, trivial⟩⟩, ⟨_, rfl, ⟨ad_ren rfl, rfl, ad_ren rfl, rfl, ad_ren rfl, rfl, trivial⟩⟩, trivial⟩) (by rfl) (nk rfl)) k54
    · refine apo_ao rfl ?_
      refine ao_read trivial (r_idxAddr_arr (i := 2) Try.underlying47 Try.sizeOf3 rfl rfl (show 0 ≤ 2 from by omega) (show 2 < (6 : Int) from by omega)) rfl ?_
      refine ao_nil ?_
      refine ap_in ?_
      exact ap_go (by kernel_rfl) (sub_mk idn (by exact ⟨ai rfl, ai rfl, ai rfl, ai rfl, ai rfl, ai rfl, ai rfl, ai rfl, trivial⟩) (by exact ⟨⟨_, rfl, ⟨rfl, trivial⟩⟩, ⟨_, rfl, ⟨rfl, trivial⟩⟩, ⟨_, rfl, ⟨ad_ren rfl, rfl, ad_ren rfl, rfl, ad_ren rfl, rfl, trivial⟩⟩, trivial⟩) (by rfl) (nk rfl)) k58
  refine ap_let (g := 10) (listed := #[true, true, false, false, false, false, true, false, false, true, true, true, true, false, false, false, false]) [(2, .ref 0 0), (3, .int .i64 0), (5, .ref 1 0), (11, .v (.arr 6 (.int .i64)) r1.1), (12, .ref 2 0), (17, .elem 1 0 1 2), (23, .int .i64 (IntKind.wrap .i64 (3 + (IntKind.wrap .i64 (r2.1.tdiv 6)))))] [(0, .var [.arr (.int .i64) 6 ((List.replicate 6 0) : (List Int))]), (1, .var [.arr (.int .i64) 6 r1.1]), (2, .var [.cell (.v (.slice (.int .u8)) x0), .cell (.int .i64 r2.2.1), .cell (.int .u64 r2.2.2)])] ?_ (fun k63 => ?_)
  · refine ap_all [2, 4, 7] (by kernel_rfl) ⟨?_, ?_, ?_, trivial⟩
    · refine apo_ao rfl ?_
      refine ao_read trivial (r_idxAddr_arr (i := 0) Try.underlying47 Try.sizeOf3 rfl rfl (show 0 ≤ 0 from by omega) (show 0 < (6 : Int) from by omega)) rfl ?_
      refine ao_nil ?_
      refine ap_in ?_
      exact ap_go (by kernel_rfl) (sub_mk idn (by exact ⟨ai rfl, ai rfl, ai rfl, ai rfl, ai rfl, ai rfl, ai rfl, ai rfl, trivial⟩) (by exact ⟨⟨_, rfl, ⟨rfl, trivial⟩⟩, ⟨_, rfl, ⟨rfl, trivial⟩⟩, ⟨_, rfl, ⟨ad_ren rfl, rfl, ad_ren rfl, rfl, ad_ren rfl, rfl, trivial⟩⟩, trivial⟩) (by rfl) (nk rfl)) k46
    · refine apo_ao rfl ?_
      refine ao_read trivial (r_idxAddr_arr (i := 5) Try.underlying47 Try.sizeOf3 rfl rfl (show 0 ≤ 5 from by omega) (show 5 < (6 : Int) from by omega)) rfl ?_
      refine ao_nil ?_
      refine ap_in ?_
      exact ap_go (by kernel_rfl) (sub_mk idn (by exact ⟨ai rfl, ai rfl, ai rfl, ai rfl, ai rfl, ai rfl, ai rfl, ai rfl, trivial⟩) (by exact ⟨⟨_, rfl, ⟨rfl, trivial⟩⟩, ⟨_, rfl, ⟨rfl, trivial⟩⟩, ⟨_, rfl, ⟨ad_ren rfl, rfl, ad_ren rfl, rfl, ad_ren rfl, rfl, trivial⟩⟩, trivial⟩) (by rfl) (nk rfl)) k58
    · refine apo_ao rfl ?_
      refine ao_read trivial (r_load_elema_int Try.isAgg3 Try.sizeOf3 rfl rfl rfl (show 2 < 6 from by omega)) rfl ?_
      refine ao_nil ?_
      refine ap_in ?_
      exact ap_go (by kernel_rfl) (sub_mk idn (by exact ⟨ai rfl, ai rfl, ai rfl, ai rfl, ai rfl, ai rfl, ai rfl, trivial⟩) (by exact ⟨⟨_, rfl, ⟨rfl, trivial⟩⟩, ⟨_, rfl, ⟨rfl, trivial⟩⟩, ⟨_, rfl, ⟨ad_ren rfl, rfl, ad_ren rfl, rfl, ad_ren rfl, rfl, trivial⟩⟩, trivial⟩) (by rfl) (nk rfl)) k62
  refine ap_let (g := 10) (listed := #[false, true, true, true, true, true, true, false, false, true, false, false, false, false, false, false, false]) [(2, .ref 0 0), (3, .int .i64 0), (5, .ref 1 0), (12, .ref 2 0), (14, .int .i64 (r1.1.getD 0 0)), (16, .int .i64 (r1.1.getD 5 0)), (17, .elem 1 0 1 2), (20, .ref 2 0)] [(0, .var [.arr (.int .i64) 6 ((List.replicate 6 0) : (List Int))]), (1, .var [.arr (.int .i64) 6 r1.1]), (2, .var [.cell (.v (.slice (.int .u8)) x0), .cell (.int .i64 r1.2.1), .cell (.int .u64 r1.2.2)])] ?_ (fun k69 => ?_)
  · refine ap_all [0, 7, 10] (by kernel_rfl) ⟨?_, ?_, ?_, trivial⟩
    · refine apo_ao rfl ?_
      refine ao_read trivial (r_load_arr rfl Try.isAgg47 Try.sizeOf47 rfl rfl rfl) rfl ?_
      refine ao_nil ?_
      refine ap_in ?_
      exact ap_go (by kernel_rfl) (sub_mk (rn [(1, 2), (2, 1)]) (by exact ⟨ai rfl, ai rfl, ai rfl, ai rfl, ai rfl, ai rfl, ai rfl, ai rfl, trivial⟩) (by exact ⟨⟨_, rfl, ⟨rfl, trivial⟩⟩, ⟨_, rfl, ⟨ad_ren rfl, rfl, ad_ren rfl, rfl, ad_ren rfl, rfl, trivial⟩⟩, ⟨_, rfl, ⟨rfl, trivial⟩⟩, trivial⟩) (by rfl) (nk rfl)) k12
    · refine apo_ao rfl ?_
      refine ao_read trivial (r_load_elema_int Try.isAgg3 Try.sizeOf3 rfl rfl rfl (show 2 < 6 from by omega)) rfl ?_
      refine ao_nil ?_
      refine ap_in ?_
      exact ap_go (by kernel_rfl) (sub_mk idn (by exact ⟨ai rfl, ai rfl, ai rfl, ai rfl, ai rfl, ai rfl, ai rfl, ai rfl, trivial⟩) (by exact ⟨⟨_, rfl, ⟨rfl, trivial⟩⟩, ⟨_, rfl, ⟨rfl, trivial⟩⟩, ⟨_, rfl, ⟨ad_ren rfl, rfl, ad_ren rfl, rfl, ad_ren rfl, rfl, trivial⟩⟩, trivial⟩) (by rfl) (nk rfl)) k70
    · refine apo_ao rfl ?_
      refine ao_callV [2] 3 trivial (c_spec_l1Cur_pick (is_mk r2h)) Try.func84 rfl rfl rfl rfl rfl ⟨rfl, trivial⟩ ⟨⟨_, rfl, ⟨ad_ren rfl, rfl, ad_ren rfl, rfl, ad_ren rfl, rfl, trivial⟩⟩, trivial⟩ rfl rfl rfl rfl rfl rfl rfl (fun r' H' hr => ?_)
      obtain ⟨rfl, rfl⟩ := hr
      refine ao_norm (y := .int .i64 r2.1) (H' := [(0, .var [.arr (.int .i64) 6 ((List.replicate 6 0) : (List Int))]), (1, .var [.arr (.int .i64) 6 r1.1]), (2, .var [.cell (.v (.slice (.int .u8)) x0), .cell (.int .i64 r2.2.1), .cell (.int .u64 r2.2.2)])]) rfl rfl ?_
      refine ao_nil ?_
      refine ap_in ?_
      refine ap_pure 11 (by kernel_rfl) (fun _ _ _ h => h) rfl (by kernel_rfl) trivial (rp_quo rfl rfl (by decide)) rfl ?_
      refine ap_pure 12 (by kernel_rfl) (fun _ _ _ h => h) rfl (by kernel_rfl) trivial (rp_add rfl rfl) rfl ?_
      exact ap_go (by kernel_rfl) (sub_mk idn (by exact ⟨ai rfl, ai rfl, ai rfl, ai rfl, ai rfl, ai rfl, ai rfl, ai rfl, trivial⟩) (by exact ⟨⟨_, rfl, ⟨rfl, trivial⟩⟩, ⟨_, rfl, ⟨rfl, trivial⟩⟩, ⟨_, rfl, ⟨ad_ren rfl, rfl, ad_ren rfl, rfl, ad_ren rfl, rfl, trivial⟩⟩, trivial⟩) (by rfl) (nk rfl)) k76
  refine ap_let (g := 10) (listed := #[false, true, true, true, true, false, true, true, false, true, false, false, false, false, false, false, false]) [(2, .ref 0 0), (3, .int .i64 0), (5, .ref 1 0), (12, .ref 2 0), (14, .int .i64 (r1.1.getD 0 0)), (15, .elem 1 0 1 5), (18, .int .i64 (r1.1.getD 2 0)), (20, .ref 2 0)] [(0, .var [.arr (.int .i64) 6 ((List.replicate 6 0) : (List Int))]), (1, .var [.arr (.int .i64) 6 r1.1]), (2, .var [.cell (.v (.slice (.int .u8)) x0), .cell (.int .i64 r1.2.1), .cell (.int .u64 r1.2.2)])] ?_ (fun k79 => ?_)
  · refine ap_all [0, 5, 10] (by kernel_rfl) ⟨?_, ?_, ?_, trivial⟩
    · refine apo_ao rfl ?_
      refine ao_read trivial (r_load_arr rfl Try.isAgg47 Try.sizeOf47 rfl rfl rfl) rfl ?_
      refine ao_nil ?_
      refine ap_in ?_
      exact ap_go (by kernel_rfl) (sub_mk (rn [(1, 2), (2, 1)]) (by exact ⟨ai rfl, ai rfl, ai rfl, ai rfl, ai rfl, ai rfl, ai rfl, ai rfl, trivial⟩) (by exact ⟨⟨_, rfl, ⟨rfl, trivial⟩⟩, ⟨_, rfl, ⟨ad_ren rfl, rfl, ad_ren rfl, rfl, ad_ren rfl, rfl, trivial⟩⟩, ⟨_, rfl, ⟨rfl, trivial⟩⟩, trivial⟩) (by rfl) (nk rfl)) k22
    · refine apo_ao rfl ?_
      refine ao_read trivial (r_load_elema_int Try.isAgg3 Try.sizeOf3 rfl rfl rfl (show 5 < 6 from by omega)) rfl ?_
      refine ao_nil ?_
      refine ap_in ?_
      exact ap_go (by kernel_rfl) (sub_mk idn (by exact ⟨ai rfl, ai rfl, ai rfl, ai rfl, ai rfl, ai rfl, ai rfl, ai rfl, trivial⟩) (by exact ⟨⟨_, rfl, ⟨rfl, trivial⟩⟩, ⟨_, rfl, ⟨rfl, trivial⟩⟩, ⟨_, rfl, ⟨ad_ren rfl, rfl, ad_ren rfl, rfl, ad_ren rfl, rfl, trivial⟩⟩, trivial⟩) (by rfl) (nk rfl)) k70
    · refine apo_ao rfl ?_
      refine ao_callV [2] 3 trivial (c_spec_l1Cur_pick (is_mk r2h)) Try.func84 rfl rfl rfl rfl rfl ⟨rfl, trivial⟩ ⟨⟨_, rfl, ⟨ad_ren rfl, rfl, ad_ren rfl, rfl, ad_ren rfl, rfl, trivial⟩⟩, trivial⟩ rfl rfl rfl rfl rfl rfl rfl (fun r' H' hr => ?_)
      obtain ⟨rfl, rfl⟩ := hr
      refine ao_norm (y := .int .i64 r2.1) (H' := [(0, .var [.arr (.int .i64) 6 ((List.replicate 6 0) : (List Int))]), (1, .var [.arr (.int .i64) 6 r1.1]), (2, .var [.cell (.v (.slice (.int .u8)) x0), .cell (.int .i64 r2.2.1), .cell (.int .u64 r2.2.2)])]) rfl rfl ?_
      refine ao_nil ?_
      refine ap_in ?_
      refine ap_pure 11 (by kernel_rfl) (fun _ _ _ h => h) rfl (by kernel_rfl) trivial (rp_quo rfl rfl (by decide)) rfl ?_
      refine ap_pure 12 (by kernel_rfl) (fun _ _ _ h => h) rfl (by kernel_rfl) trivial (rp_add rfl rfl) rfl ?_
      exact ap_go (by kernel_rfl) (sub_mk idn (by exact ⟨ai rfl, ai rfl, ai rfl, ai rfl, ai rfl, ai rfl, ai rfl, ai rfl, trivial⟩) (by exact ⟨⟨_, rfl, ⟨rfl, trivial⟩⟩, ⟨_, rfl, ⟨rfl, trivial⟩⟩, ⟨_, rfl, ⟨ad_ren rfl, rfl, ad_ren rfl, rfl, ad_ren rfl, rfl, trivial⟩⟩, trivial⟩) (by rfl) (nk rfl)) k80
  refine ap_let (g := 10) (listed := #[false, true, true, true, false, false, false, false, false, true, true, true, true, false, false, false, false]) [(2, .ref 0 0), (3, .int .i64 0), (5, .ref 1 0), (12, .ref 2 0), (14, .int .i64 (r1.1.getD 0 0)), (23, .int .i64 (IntKind.wrap .i64 (3 + (IntKind.wrap .i64 (r2.1.tdiv 6)))))] [(0, .var [.arr (.int .i64) 6 ((List.replicate 6 0) : (List Int))]), (1, .var [.arr (.int .i64) 6 r1.1]), (2, .var [.cell (.v (.slice (.int .u8)) x0), .cell (.int .i64 r2.2.1), .cell (.int .u64 r2.2.2)])] ?_ (fun k87 => ?_)
  · refine ap_all [0, 4, 6] (by kernel_rfl) ⟨?_, ?_, ?_, trivial⟩
    · refine apo_ao rfl ?_
      refine ao_read trivial (r_load_arr rfl Try.isAgg47 Try.sizeOf47 rfl rfl rfl) rfl ?_
      refine ao_nil ?_
      refine ap_in ?_
      exact ap_go (by kernel_rfl) (sub_mk idn (by exact ⟨ai rfl, ai rfl, ai rfl, ai rfl, ai rfl, ai rfl, ai rfl, trivial⟩) (by exact ⟨⟨_, rfl, ⟨rfl, trivial⟩⟩, ⟨_, rfl, ⟨rfl, trivial⟩⟩, ⟨_, rfl, ⟨ad_ren rfl, rfl, ad_ren rfl, rfl, ad_ren rfl, rfl, trivial⟩⟩, trivial⟩) (by rfl) (nk rfl)) k30
    · refine apo_ao rfl ?_
      refine ao_read trivial (r_idxAddr_arr (i := 5) Try.underlying47 Try.sizeOf3 rfl rfl (show 0 ≤ 5 from by omega) (show 5 < (6 : Int) from by omega)) rfl ?_
      refine ao_nil ?_
      refine ap_in ?_
      exact ap_go (by kernel_rfl) (sub_mk idn (by exact ⟨ai rfl, ai rfl, ai rfl, ai rfl, ai rfl, ai rfl, ai rfl, trivial⟩) (by exact ⟨⟨_, rfl, ⟨rfl, trivial⟩⟩, ⟨_, rfl, ⟨rfl, trivial⟩⟩, ⟨_, rfl, ⟨ad_ren rfl, rfl, ad_ren rfl, rfl, ad_ren rfl, rfl, trivial⟩⟩, trivial⟩) (by rfl) (nk rfl)) k82
    · refine apo_ao rfl ?_
      refine ao_read trivial (r_idxAddr_arr (i := 2) Try.underlying47 Try.sizeOf3 rfl rfl (show 0 ≤ 2 from by omega) (show 2 < (6 : Int) from by omega)) rfl ?_
      refine ao_nil ?_
      refine ap_in ?_
      exact ap_go (by kernel_rfl) (sub_mk idn (by exact ⟨ai rfl, ai rfl, ai rfl, ai rfl, ai rfl, ai rfl, ai rfl, trivial⟩) (by exact ⟨⟨_, rfl, ⟨rfl, trivial⟩⟩, ⟨_, rfl, ⟨rfl, trivial⟩⟩, ⟨_, rfl, ⟨ad_ren rfl, rfl, ad_ren rfl, rfl, ad_ren rfl, rfl, trivial⟩⟩, trivial⟩) (by rfl) (nk rfl)) k86
  refine ap_let (g := 10) (listed := #[false, true, true, false, true, true, true, true, false, true, false, false, false, false, false, false, false]) [(2, .ref 0 0), (3, .int .i64 0), (5, .ref 1 0), (12, .ref 2 0), (13, .elem 1 0 1 0), (16, .int .i64 (r1.1.getD 5 0)), (18, .int .i64 (r1.1.getD 2 0)), (20, .ref 2 0)] [(0, .var [.arr (.int .i64) 6 ((List.replicate 6 0) : (List Int))]), (1, .var [.arr (.int .i64) 6 r1.1]), (2, .var [.cell (.v (.slice (.int .u8)) x0), .cell (.int .i64 r1.2.1), .cell (.int .u64 r1.2.2)])] ?_ (fun k91 => ?_)
  · refine ap_all [0, 3, 10] (by kernel_rfl) ⟨?_, ?_, ?_, trivial⟩
    · refine apo_ao rfl ?_
      refine ao_read trivial (r_load_arr rfl Try.isAgg47 Try.sizeOf47 rfl rfl rfl) rfl ?_
      refine ao_nil ?_
      refine ap_in ?_
      exact ap_go (by kernel_rfl) (sub_mk (rn [(1, 2), (2, 1)]) (by exact ⟨ai rfl, ai rfl, ai rfl, ai rfl, ai rfl, ai rfl, ai rfl, ai rfl, trivial⟩) (by exact ⟨⟨_, rfl, ⟨rfl, trivial⟩⟩, ⟨_, rfl, ⟨ad_ren rfl, rfl, ad_ren rfl, rfl, ad_ren rfl, rfl, trivial⟩⟩, ⟨_, rfl, ⟨rfl, trivial⟩⟩, trivial⟩) (by rfl) (nk rfl)) k34
    · refine apo_ao rfl ?_
      refine ao_read trivial (r_load_elema_int Try.isAgg3 Try.sizeOf3 rfl rfl rfl (show 0 < 6 from by omega)) rfl ?_
      refine ao_nil ?_
      refine ap_in ?_
      exact ap_go (by kernel_rfl) (sub_mk idn (by exact ⟨ai rfl, ai rfl, ai rfl, ai rfl, ai rfl, ai rfl, ai rfl, ai rfl, trivial⟩) (by exact ⟨⟨_, rfl, ⟨rfl, trivial⟩⟩, ⟨_, rfl, ⟨rfl, trivial⟩⟩, ⟨_, rfl, ⟨ad_ren rfl, rfl, ad_ren rfl, rfl, ad_ren rfl, rfl, trivial⟩⟩, trivial⟩) (by rfl) (nk rfl)) k70
    · refine apo_ao rfl ?_
      refine ao_callV [2] 3 trivial (c_spec_l1Cur_pick (is_mk r2h)) Try.func84 rfl rfl rfl rfl rfl ⟨rfl, trivial⟩ ⟨⟨_, rfl, ⟨ad_ren rfl, rfl, ad_ren rfl, rfl, ad_ren rfl, rfl, trivial⟩⟩, trivial⟩ rfl rfl rfl rfl rfl rfl rfl (fun r' H' hr => ?_)
      obtain ⟨rfl, rfl⟩ := hr
      refine ao_norm (y := .int .i64 r2.1) (H' := [(0, .var [.arr (.int .i64) 6 ((List.replicate 6 0) : (List Int))]), (1, .var [.arr (.int .i64) 6 r1.1]), (2, .var [.cell (.v (.slice (.int .u8)) x0), .cell (.int .i64 r2.2.1), .cell (.int .u64 r2.2.2)])]) rfl rfl ?_
      refine ao_nil ?_
      refine ap_in ?_
      refine ap_pure 11 (by kernel_rfl) (fun _ _ _ h => h) rfl (by kernel_rfl) trivial (rp_quo rfl rfl (by decide)) rfl ?_
      refine ap_pure 12 (by kernel_rfl) (fun _ _ _ h => h) rfl (by kernel_rfl) trivial (rp_add rfl rfl) rfl ?_
      exact ap_go (by kernel_rfl) (sub_mk idn (by exact ⟨ai rfl, ai rfl, ai rfl, ai rfl, ai rfl, ai rfl, ai rfl, ai rfl, trivial⟩) (by exact ⟨⟨_, rfl, ⟨rfl, trivial⟩⟩, ⟨_, rfl, ⟨rfl, trivial⟩⟩, ⟨_, rfl, ⟨ad_ren rfl, rfl, ad_ren rfl, rfl, ad_ren rfl, rfl, trivial⟩⟩, trivial⟩) (by rfl) (nk rfl)) k92
  refine ap_let (g := 10) (listed := #[false, true, true, false, true, false, false, false, false, true, true, true, true, false, false, false, false]) [(2, .ref 0 0), (3, .int .i64 0), (5, .ref 1 0), (12, .ref 2 0), (13, .elem 1 0 1 0), (15, .elem 1 0 1 5), (23, .int .i64 (IntKind.wrap .i64 (3 + (IntKind.wrap .i64 (r2.1.tdiv 6)))))] [(0, .var [.arr (.int .i64) 6 ((List.replicate 6 0) : (List Int))]), (1, .var [.arr (.int .i64) 6 r1.1]), (2, .var [.cell (.v (.slice (.int .u8)) x0), .cell (.int .i64 r2.2.1), .cell (.int .u64 r2.2.2)])] ?_ (fun k99 => ?_)
  · refine ap_all [0, 3, 5, 6] (by kernel_rfl) ⟨?_, ?_, ?_, ?_, trivial⟩
    · refine apo_ao rfl ?_
      refine ao_read trivial (r_load_arr rfl Try.isAgg47 Try.sizeOf47 rfl rfl rfl) rfl ?_
      refine ao_nil ?_
      refine ap_in ?_
      exact ap_go (by kernel_rfl) (sub_mk idn (by exact ⟨ai rfl, ai rfl, ai rfl, ai rfl, ai rfl, ai rfl, ai rfl, ai rfl, trivial⟩) (by exact ⟨⟨_, rfl, ⟨rfl, trivial⟩⟩, ⟨_, rfl, ⟨rfl, trivial⟩⟩, ⟨_, rfl, ⟨ad_ren rfl, rfl, ad_ren rfl, rfl, ad_ren rfl, rfl, trivial⟩⟩, trivial⟩) (by rfl) (nk rfl)) k42
    · refine apo_ao rfl ?_
      refine ao_read trivial (r_load_elema_int Try.isAgg3 Try.sizeOf3 rfl rfl rfl (show 0 < 6 from by omega)) rfl ?_
      refine ao_nil ?_
      refine ap_in ?_
      exact ap_go (by kernel_rfl) (sub_mk idn (by exact ⟨ai rfl, ai rfl, ai rfl, ai rfl, ai rfl, ai rfl, ai rfl, trivial⟩) (by exact ⟨⟨_, rfl, ⟨rfl, trivial⟩⟩, ⟨_, rfl, ⟨rfl, trivial⟩⟩, ⟨_, rfl, ⟨ad_ren rfl, rfl, ad_ren rfl, rfl, ad_ren rfl, rfl, trivial⟩⟩, trivial⟩) (by rfl) (nk rfl)) k82
    · refine apo_ao rfl ?_
      refine ao_read trivial (r_load_elema_int Try.isAgg3 Try.sizeOf3 rfl rfl rfl (show 5 < 6 from by omega)) rfl ?_
      refine ao_nil ?_
      refine ap_in ?_
      exact ap_go (by kernel_rfl) (sub_mk idn (by exact ⟨ai rfl, ai rfl, ai rfl, ai rfl, ai rfl, ai rfl, ai rfl, trivial⟩) (by exact ⟨⟨_, rfl, ⟨rfl, trivial⟩⟩, ⟨_, rfl, ⟨rfl, trivial⟩⟩, ⟨_, rfl, ⟨ad_ren rfl, rfl, ad_ren rfl, rfl, ad_ren rfl, rfl, trivial⟩⟩, trivial⟩) (by rfl) (nk rfl)) k94
    · refine apo_ao rfl ?_
      refine ao_read trivial (r_idxAddr_arr (i := 2) Try.underlying47 Try.sizeOf3 rfl rfl (show 0 ≤ 2 from by omega) (show 2 < (6 : Int) from by omega)) rfl ?_
      refine ao_nil ?_
      refine ap_in ?_
      exact ap_go (by kernel_rfl) (sub_mk idn (by exact ⟨ai rfl, ai rfl, ai rfl, ai rfl, ai rfl, ai rfl, ai rfl, ai rfl, trivial⟩) (by exact ⟨⟨_, rfl, ⟨rfl, trivial⟩⟩, ⟨_, rfl, ⟨rfl, trivial⟩⟩, ⟨_, rfl, ⟨ad_ren rfl, rfl, ad_ren rfl, rfl, ad_ren rfl, rfl, trivial⟩⟩, trivial⟩) (by rfl) (nk rfl)) k98
  refine ap_let (g := 10) (listed := #[false, true, true, false, false, false, true, false, false, true, true, true, true, false, false, false, false]) [(2, .ref 0 0), (3, .int .i64 0), (5, .ref 1 0), (12, .ref 2 0), (13, .elem 1 0 1 0), (17, .elem 1 0 1 2), (23, .int .i64 (IntKind.wrap .i64 (3 + (IntKind.wrap .i64 (r2.1.tdiv 6)))))] [(0, .var [.arr (.int .i64) 6 ((List.replicate 6 0) : (List Int))]), (1, .var [.arr (.int .i64) 6 r1.1]), (2, .var [.cell (.v (.slice (.int .u8)) x0), .cell (.int .i64 r2.2.1), .cell (.int .u64 r2.2.2)])] ?_ (fun k103 => ?_)
  · refine ap_all [0, 3, 4, 7] (by kernel_rfl) ⟨?_, ?_, ?_, ?_, trivial⟩
    · refine apo_ao rfl ?_
      refine ao_read trivial (r_load_arr rfl Try.isAgg47 Try.sizeOf47 rfl rfl rfl) rfl ?_
      refine ao_nil ?_
      refine ap_in ?_
      exact ap_go (by kernel_rfl) (sub_mk idn (by exact ⟨ai rfl, ai rfl, ai rfl, ai rfl, ai rfl, ai rfl, ai rfl, ai rfl, trivial⟩) (by exact ⟨⟨_, rfl, ⟨rfl, trivial⟩⟩, ⟨_, rfl, ⟨rfl, trivial⟩⟩, ⟨_, rfl, ⟨ad_ren rfl, rfl, ad_ren rfl, rfl, ad_ren rfl, rfl, trivial⟩⟩, trivial⟩) (by rfl) (nk rfl)) k46
    · refine apo_ao rfl ?_
      refine ao_read trivial (r_load_elema_int Try.isAgg3 Try.sizeOf3 rfl rfl rfl (show 0 < 6 from by omega)) rfl ?_
      refine ao_nil ?_
      refine ap_in ?_
      exact ap_go (by kernel_rfl) (sub_mk idn (by exact ⟨ai rfl, ai rfl, ai rfl, ai rfl, ai rfl, ai rfl, ai rfl, trivial⟩) (by exact ⟨⟨_, rfl, ⟨rfl, trivial⟩⟩, ⟨_, rfl, ⟨rfl, trivial⟩⟩, ⟨_, rfl, ⟨ad_ren rfl, rfl, ad_ren rfl, rfl, ad_ren rfl, rfl, trivial⟩⟩, trivial⟩) (by rfl) (nk rfl)) k86
    · refine apo_ao rfl ?_
      refine ao_read trivial (r_idxAddr_arr (i := 5) Try.underlying47 Try.sizeOf3 rfl rfl (show 0 ≤ 5 from by omega) (show 5 < (6 : Int) from by omega)) rfl ?_
      refine ao_nil ?_
      refine ap_in ?_
      exact ap_go (by kernel_rfl) (sub_mk idn (by exact ⟨ai rfl, ai rfl, ai rfl, ai rfl, ai rfl, ai rfl, ai rfl, ai rfl, trivial⟩) (by exact ⟨⟨_, rfl, ⟨rfl, trivial⟩⟩, ⟨_, rfl, ⟨rfl, trivial⟩⟩, ⟨_, rfl, ⟨ad_ren rfl, rfl, ad_ren rfl, rfl, ad_ren rfl, rfl, trivial⟩⟩, trivial⟩) (by rfl) (nk rfl)) k98
    · refine apo_ao rfl ?_
      refine ao_read trivial (r_load_elema_int Try.isAgg3 Try.sizeOf3 rfl rfl rfl (show 2 < 6 from by omega)) rfl ?_
      refine ao_nil ?_
      refine ap_in ?_
      exact ap_go (by kernel_rfl) (sub_mk idn (by exact ⟨ai rfl, ai rfl, ai rfl, ai rfl, ai rfl, ai rfl, ai rfl, trivial⟩) (by exact ⟨⟨_, rfl, ⟨rfl, trivial⟩⟩, ⟨_, rfl, ⟨rfl, trivial⟩⟩, ⟨_, rfl, ⟨ad_ren rfl, rfl, ad_ren rfl, rfl, ad_ren rfl, rfl, trivial⟩⟩, trivial⟩) (by rfl) (nk rfl)) k102
  refine ap_let (g := 10) (listed := #[false, true, false, false, true, true, false, false, false, true, true, true, true, false, false, false, false]) [(2, .ref 0 0), (3, .int .i64 0), (5, .ref 1 0), (12, .ref 2 0), (16, .int .i64 (r1.1.getD 5 0)), (23, .int .i64 (IntKind.wrap .i64 (3 + (IntKind.wrap .i64 (r2.1.tdiv 6)))))] [(0, .var [.arr (.int .i64) 6 ((List.replicate 6 0) : (List Int))]), (1, .var [.arr (.int .i64) 6 r1.1]), (2, .var [.cell (.v (.slice (.int .u8)) x0), .cell (.int .i64 r2.2.1), .cell (.int .u64 r2.2.2)])] ?_ (fun k111 => ?_)
  · refine ap_all [0, 2, 6] (by kernel_rfl) ⟨?_, ?_, ?_, trivial⟩
    · refine apo_ao rfl ?_
      refine ao_read trivial (r_load_arr rfl Try.isAgg47 Try.sizeOf47 rfl rfl rfl) rfl ?_
      refine ao_nil ?_
      refine ap_in ?_
      exact ap_go (by kernel_rfl) (sub_mk idn (by exact ⟨ai rfl, ai rfl, ai rfl, ai rfl, ai rfl, ai rfl, ai rfl, trivial⟩) (by exact ⟨⟨_, rfl, ⟨rfl, trivial⟩⟩, ⟨_, rfl, ⟨rfl, trivial⟩⟩, ⟨_, rfl, ⟨ad_ren rfl, rfl, ad_ren rfl, rfl, ad_ren rfl, rfl, trivial⟩⟩, trivial⟩) (by rfl) (nk rfl)) k54
    · refine apo_ao rfl ?_
      refine ao_read trivial (r_idxAddr_arr (i := 0) Try.underlying47 Try.sizeOf3 rfl rfl (show 0 ≤ 0 from by omega) (show 0 < (6 : Int) from by omega)) rfl ?_
      refine ao_nil ?_
      refine ap_in ?_
      exact ap_go (by kernel_rfl) (sub_mk idn (by exact ⟨ai rfl, ai rfl, ai rfl, ai rfl, ai rfl, ai rfl, ai rfl, trivial⟩) (by exact ⟨⟨_, rfl, ⟨rfl, trivial⟩⟩, ⟨_, rfl, ⟨rfl, trivial⟩⟩, ⟨_, rfl, ⟨ad_ren rfl, rfl, ad_ren rfl, rfl, ad_ren rfl, rfl, trivial⟩⟩, trivial⟩) (by rfl) (nk rfl)) k94
    · refine apo_ao rfl ?_
      refine ao_read trivial (r_idxAddr_arr (i := 2) Try.underlying47 Try.sizeOf3 rfl rfl (show 0 ≤ 2 from by omega) (show 2 < (6 : Int) from by omega)) rfl ?_
      refine ao_nil ?_
      refine ap_in ?_
      exact ap_go (by kernel_rfl) (sub_mk idn (by exact ⟨ai rfl, ai rfl, ai rfl, ai rfl, ai rfl, ai rfl, ai rfl, trivial⟩) (by exact ⟨⟨_, rfl, ⟨rfl, trivial⟩⟩, ⟨_, rfl, ⟨rfl, trivial⟩⟩, ⟨_, rfl, ⟨ad_ren rfl, rfl, ad_ren rfl, rfl, ad_ren rfl, rfl, trivial⟩⟩, trivial⟩) (by rfl) (nk rfl)) k110
  refine ap_let (g := 10) (listed := #[false, true, false, false, true, false, true, false, false, true, true, true, true, false, false, false, false]) [(2, .ref 0 0), (3, .int .i64 0), (5, .ref 1 0), (12, .ref 2 0), (15, .elem 1 0 1 5), (17, .elem 1 0 1 2), (23, .int .i64 (IntKind.wrap .i64 (3 + (IntKind.wrap .i64 (r2.1.tdiv 6)))))] [(0, .var [.arr (.int .i64) 6 ((List.replicate 6 0) : (List Int))]), (1, .var [.arr (.int .i64) 6 r1.1]), (2, .var [.cell (.v (.slice (.int .u8)) x0), .cell (.int .i64 r2.2.1), .cell (.int .u64 r2.2.2)])] ?_ (fun k115 => ?_)
  · refine ap_all [0, 2, 5, 7] (by kernel_rfl) ⟨?_, ?_, ?_, ?_, trivial⟩
    · refine apo_ao rfl ?_
      refine ao_read trivial (r_load_arr rfl Try.isAgg47 Try.sizeOf47 rfl rfl rfl) rfl ?_
      refine ao_nil ?_
      refine ap_in ?_
      exact ap_go (by kernel_rfl) (sub_mk idn (by exact ⟨ai rfl, ai rfl, ai rfl, ai rfl, ai rfl, ai rfl, ai rfl, ai rfl, trivial⟩) (by exact ⟨⟨_, rfl, ⟨rfl, trivial⟩⟩, ⟨_, rfl, ⟨rfl, trivial⟩⟩, ⟨_, rfl, ⟨ad_ren rfl, rfl, ad_ren rfl, rfl, ad_ren rfl, rfl, trivial⟩⟩, trivial⟩) (by rfl) (nk rfl)) k58
    · refine apo_ao rfl ?_
      refine ao_read trivial (r_idxAddr_arr (i := 0) Try.underlying47 Try.sizeOf3 rfl rfl (show 0 ≤ 0 from by omega) (show 0 < (6 : Int) from by omega)) rfl ?_
      refine ao_nil ?_
      refine ap_in ?_
      exact ap_go (by kernel_rfl) (sub_mk idn (by exact ⟨ai rfl, ai rfl, ai rfl, ai rfl, ai rfl, ai rfl, ai rfl, ai rfl, trivial⟩) (by exact ⟨⟨_, rfl, ⟨rfl, trivial⟩⟩, ⟨_, rfl, ⟨rfl, trivial⟩⟩, ⟨_, rfl, ⟨ad_ren rfl, rfl, ad_ren rfl, rfl, ad_ren rfl, rfl, trivial⟩⟩, trivial⟩) (by rfl) (nk rfl)) k98
    · refine apo_ao rfl ?_
      refine ao_read trivial (r_load_elema_int Try.isAgg3 Try.sizeOf3 rfl rfl rfl (show 5 < 6 from by omega)) rfl ?_
      refine ao_nil ?_
      refine ap_in ?_
      exact ap_go (by kernel_rfl) (sub_mk idn (by exact ⟨ai rfl, ai rfl, ai rfl, ai rfl, ai rfl, ai rfl, ai rfl, trivial⟩) (by exact ⟨⟨_, rfl, ⟨rfl, trivial⟩⟩, ⟨_, rfl, ⟨rfl, trivial⟩⟩, ⟨_, rfl, ⟨ad_ren rfl, rfl, ad_ren rfl, rfl, ad_ren rfl, rfl, trivial⟩⟩, trivial⟩) (by rfl) (nk rfl)) k110
    · refine apo_ao rfl ?_
      refine ao_read trivial (r_load_elema_int Try.isAgg3 Try.sizeOf3 rfl rfl rfl (show 2 < 6 from by omega)) rfl ?_
      refine ao_nil ?_
      refine ap_in ?_
      exact ap_go (by kernel_rfl) (sub_mk idn (by exact ⟨ai rfl, ai rfl, ai rfl, ai rfl, ai rfl, ai rfl, ai rfl, trivial⟩) (by exact ⟨⟨_, rfl, ⟨rfl, trivial⟩⟩, ⟨_, rfl, ⟨rfl, trivial⟩⟩, ⟨_, rfl, ⟨ad_ren rfl, rfl, ad_ren rfl, rfl, ad_ren rfl, rfl, trivial⟩⟩, trivial⟩) (by rfl) (nk rfl)) k114
  refine ap_let (g := 10) (listed := #[false, true, false, false, false, false, true, true, false, true, true, true, true, false, false, false, false]) [(2, .ref 0 0), (3, .int .i64 0), (5, .ref 1 0), (12, .ref 2 0), (18, .int .i64 (r1.1.getD 2 0)), (23, .int .i64 (IntKind.wrap .i64 (3 + (IntKind.wrap .i64 (r2.1.tdiv 6)))))] [(0, .var [.arr (.int .i64) 6 ((List.replicate 6 0) : (List Int))]), (1, .var [.arr (.int .i64) 6 r1.1]), (2, .var [.cell (.v (.slice (.int .u8)) x0), .cell (.int .i64 r2.2.1), .cell (.int .u64 r2.2.2)])] ?_ (fun k119 => ?_)
  · refine ap_all [0, 2, 4] (by kernel_rfl) ⟨?_, ?_, ?_, trivial⟩
    · refine apo_ao rfl ?_
      refine ao_read trivial (r_load_arr rfl Try.isAgg47 Try.sizeOf47 rfl rfl rfl) rfl ?_
      refine ao_nil ?_
      refine ap_in ?_
      exact ap_go (by kernel_rfl) (sub_mk idn (by exact ⟨ai rfl, ai rfl, ai rfl, ai rfl, ai rfl, ai rfl, ai rfl, trivial⟩) (by exact ⟨⟨_, rfl, ⟨rfl, trivial⟩⟩, ⟨_, rfl, ⟨rfl, trivial⟩⟩, ⟨_, rfl, ⟨ad_ren rfl, rfl, ad_ren rfl, rfl, ad_ren rfl, rfl, trivial⟩⟩, trivial⟩) (by rfl) (nk rfl)) k62
    · refine apo_ao rfl ?_
      refine ao_read trivial (r_idxAddr_arr (i := 0) Try.underlying47 Try.sizeOf3 rfl rfl (show 0 ≤ 0 from by omega) (show 0 < (6 : Int) from by omega)) rfl ?_
      refine ao_nil ?_
      refine ap_in ?_
      exact ap_go (by kernel_rfl) (sub_mk idn (by exact ⟨ai rfl, ai rfl, ai rfl, ai rfl, ai rfl, ai rfl, ai rfl, trivial⟩) (by exact ⟨⟨_, rfl, ⟨rfl, trivial⟩⟩, ⟨_, rfl, ⟨rfl, trivial⟩⟩, ⟨_, rfl, ⟨ad_ren rfl, rfl, ad_ren rfl, rfl, ad_ren rfl, rfl, trivial⟩⟩, trivial⟩) (by rfl) (nk rfl)) k102
    · refine apo_ao rfl ?_
      refine ao_read trivial (r_idxAddr_arr (i := 5) Try.underlying47 Try.sizeOf3 rfl rfl (show 0 ≤ 5 from by omega) (show 5 < (6 : Int) from by omega)) rfl ?_
      refine ao_nil ?_
      refine ap_in ?_
      exact ap_go (by kernel_rfl) (sub_mk idn (by exact ⟨ai rfl, ai rfl, ai rfl, ai rfl, ai rfl, ai rfl, ai rfl, trivial⟩) (by exact ⟨⟨_, rfl, ⟨rfl, trivial⟩⟩, ⟨_, rfl, ⟨rfl, trivial⟩⟩, ⟨_, rfl, ⟨ad_ren rfl, rfl, ad_ren rfl, rfl, ad_ren rfl, rfl, trivial⟩⟩, trivial⟩) (by rfl) (nk rfl)) k114
  refine ap_let (g := 11) (listed := #[true, true, true, true, true, false, false, false, false, true, false, false, false, false, false, false, false]) [(2, .ref 0 0), (3, .int .i64 0), (5, .ref 1 0), (11, .v (.arr 6 (.int .i64)) r1.1), (12, .ref 2 0), (14, .int .i64 (r1.1.getD 0 0)), (15, .elem 1 0 1 5), (20, .ref 2 0)] [(0, .var [.arr (.int .i64) 6 ((List.replicate 6 0) : (List Int))]), (1, .var [.arr (.int .i64) 6 r1.1]), (2, .var [.cell (.v (.slice (.int .u8)) x0), .cell (.int .i64 r1.2.1), .cell (.int .u64 r1.2.2)])] ?_ (fun k10 => ?_)
  · refine ap_all [5, 6, 10] (by kernel_rfl) ⟨?_, ?_, ?_, trivial⟩
    · refine apo_ao rfl ?_
      refine ao_read trivial (r_load_elema_int Try.isAgg3 Try.sizeOf3 rfl rfl rfl (show 5 < 6 from by omega)) rfl ?_
      refine ao_nil ?_
      refine ap_in ?_
      exact ap_go (by kernel_rfl) (sub_mk idn (by exact ⟨ai rfl, ai rfl, ai rfl, ai rfl, ai rfl, ai rfl, ai rfl, ai rfl, trivial⟩) (by exact ⟨⟨_, rfl, ⟨rfl, trivial⟩⟩, ⟨_, rfl, ⟨rfl, trivial⟩⟩, ⟨_, rfl, ⟨ad_ren rfl, rfl, ad_ren rfl, rfl, ad_ren rfl, rfl, trivial⟩⟩, trivial⟩) (by rfl) (nk rfl)) k11
    · refine apo_ao rfl ?_
      refine ao_read trivial (r_idxAddr_arr (i := 2) Try.underlying47 Try.sizeOf3 rfl rfl (show 0 ≤ 2 from by omega) (show 2 < (6 : Int) from by omega)) rfl ?_
      refine ao_nil ?_
      refine ap_in ?_
      exact ap_go (by kernel_rfl) (sub_mk (rn [(1, 2), (2, 1)]) (by exact ⟨ai rfl, ai rfl, ai rfl, ai rfl, ai rfl, ai rfl, ai rfl, ai rfl, trivial⟩) (by exact ⟨⟨_, rfl, ⟨rfl, trivial⟩⟩, ⟨_, rfl, ⟨ad_ren rfl, rfl, ad_ren rfl, rfl, ad_ren rfl, rfl, trivial⟩⟩, ⟨_, rfl, ⟨rfl, trivial⟩⟩, trivial⟩) (by rfl) (nk rfl)) k21
    · refine apo_ao rfl ?_
      refine ao_callV [2] 3 trivial (c_spec_l1Cur_pick (is_mk r2h)) Try.func84 rfl rfl rfl rfl rfl ⟨rfl, trivial⟩ ⟨⟨_, rfl, ⟨ad_ren rfl, rfl, ad_ren rfl, rfl, ad_ren rfl, rfl, trivial⟩⟩, trivial⟩ rfl rfl rfl rfl rfl rfl rfl (fun r' H' hr => ?_)
      obtain ⟨rfl, rfl⟩ := hr
      refine ao_norm (y := .int .i64 r2.1) (H' := [(0, .var [.arr (.int .i64) 6 ((List.replicate 6 0) : (List Int))]), (1, .var [.arr (.int .i64) 6 r1.1]), (2, .var [.cell (.v (.slice (.int .u8)) x0), .cell (.int .i64 r2.2.1), .cell (.int .u64 r2.2.2)])]) rfl rfl ?_
      refine ao_nil ?_
      refine ap_in ?_
      refine ap_pure 11 (by kernel_rfl) (fun _ _ _ h => h) rfl (by kernel_rfl) trivial (rp_quo rfl rfl (by decide)) rfl ?_
      refine ap_pure 12 (by kernel_rfl) (fun _ _ _ h => h) rfl (by kernel_rfl) trivial (rp_add rfl rfl) rfl ?_
      exact ap_go (by kernel_rfl) (sub_mk idn (by exact ⟨ai rfl, ai rfl, ai rfl, ai rfl, ai rfl, ai rfl, ai rfl, ai rfl, trivial⟩) (by exact ⟨⟨_, rfl, ⟨rfl, trivial⟩⟩, ⟨_, rfl, ⟨rfl, trivial⟩⟩, ⟨_, rfl, ⟨ad_ren rfl, rfl, ad_ren rfl, rfl, ad_ren rfl, rfl, trivial⟩⟩, trivial⟩) (by rfl) (nk rfl)) k25
  refine ap_let (g := 11) (listed := #[true, true, true, true, false, false, true, false, false, true, false, false, false, false, false, false, false]) [(2, .ref 0 0), (3, .int .i64 0), (5, .ref 1 0), (11, .v (.arr 6 (.int .i64)) r1.1), (12, .ref 2 0), (14, .int .i64 (r1.1.getD 0 0)), (17, .elem 1 0 1 2), (20, .ref 2 0)] [(0, .var [.arr (.int .i64) 6 ((List.replicate 6 0) : (List Int))]), (1, .var [.arr (.int .i64) 6 r1.1]), (2, .var [.cell (.v (.slice (.int .u8)) x0), .cell (.int .i64 r1.2.1), .cell (.int .u64 r1.2.2)])] ?_ (fun k26 => ?_)
  · refine ap_all [4, 7, 10] (by kernel_rfl) ⟨?_, ?_, ?_, trivial⟩
    · refine apo_ao rfl ?_
      refine ao_read trivial (r_idxAddr_arr (i := 5) Try.underlying47 Try.sizeOf3 rfl rfl (show 0 ≤ 5 from by omega) (show 5 < (6 : Int) from by omega)) rfl ?_
      refine ao_nil ?_
      refine ap_in ?_
      exact ap_go (by kernel_rfl) (sub_mk (rn [(1, 2), (2, 1)]) (by exact ⟨ai rfl, ai rfl, ai rfl, ai rfl, ai rfl, ai rfl, ai rfl, ai rfl, trivial⟩) (by exact ⟨⟨_, rfl, ⟨rfl, trivial⟩⟩, ⟨_, rfl, ⟨ad_ren rfl, rfl, ad_ren rfl, rfl, ad_ren rfl, rfl, trivial⟩⟩, ⟨_, rfl, ⟨rfl, trivial⟩⟩, trivial⟩) (by rfl) (nk rfl)) k21
    · refine apo_ao rfl ?_
      refine ao_read trivial (r_load_elema_int Try.isAgg3 Try.sizeOf3 rfl rfl rfl (show 2 < 6 from by omega)) rfl ?_
      refine ao_nil ?_
      refine ap_in ?_
      exact ap_go (by kernel_rfl) (sub_mk idn (by exact ⟨ai rfl, ai rfl, ai rfl, ai rfl, ai rfl, ai rfl, ai rfl, ai rfl, trivial⟩) (by exact ⟨⟨_, rfl, ⟨rfl, trivial⟩⟩, ⟨_, rfl, ⟨rfl, trivial⟩⟩, ⟨_, rfl, ⟨ad_ren rfl, rfl, ad_ren rfl, rfl, ad_ren rfl, rfl, trivial⟩⟩, trivial⟩) (by rfl) (nk rfl)) k27
    · refine apo_ao rfl ?_
      refine ao_callV [2] 3 trivial (c_spec_l1Cur_pick (is_mk r2h)) Try.func84 rfl rfl rfl rfl rfl ⟨rfl, trivial⟩ ⟨⟨_, rfl, ⟨ad_ren rfl, rfl, ad_ren rfl, rfl, ad_ren rfl, rfl, trivial⟩⟩, trivial⟩ rfl rfl rfl rfl rfl rfl rfl (fun r' H' hr => ?_)
      obtain ⟨rfl, rfl⟩ := hr
      refine ao_norm (y := .int .i64 r2.1) (H' := [(0, .var [.arr (.int .i64) 6 ((List.replicate 6 0) : (List Int))]), (1, .var [.arr (.int .i64) 6 r1.1]), (2, .var [.cell (.v (.slice (.int .u8)) x0), .cell (.int .i64 r2.2.1), .cell (.int .u64 r2.2.2)])]) rfl rfl ?_
      refine ao_nil ?_
      refine ap_in ?_
      refine ap_pure 11 (by kernel_rfl) (fun _ _ _ h => h) rfl (by kernel_rfl) trivial (rp_quo rfl rfl (by decide)) rfl ?_
      refine ap_pure 12 (by kernel_rfl) (fun _ _ _ h => h) rfl (by kernel_rfl) trivial (rp_add rfl rfl) rfl ?_
      exact ap_go (by kernel_rfl) (sub_mk idn (by exact ⟨ai rfl, ai rfl, ai rfl, ai rfl, ai rfl, ai rfl, ai rfl, ai rfl, trivial⟩) (by exact ⟨⟨_, rfl, ⟨rfl, trivial⟩⟩, ⟨_, rfl, ⟨rfl, trivial⟩⟩, ⟨_, rfl, ⟨ad_ren rfl, rfl, ad_ren rfl, rfl, ad_ren rfl, rfl, trivial⟩⟩, trivial⟩) (by rfl) (nk rfl)) k29
  refine ap_let (g := 11) (listed := #[true, true, true, false, true, true, false, false, false, true, false, false, false, false, false, false, false]) [(2, .ref 0 0), (3, .int .i64 0), (5, .ref 1 0), (11, .v (.arr 6 (.int .i64)) r1.1), (12, .ref 2 0), (13, .elem 1 0 1 0), (16, .int .i64 (r1.1.getD 5 0)), (20, .ref 2 0)] [(0, .var [.arr (.int .i64) 6 ((List.replicate 6 0) : (List Int))]), (1, .var [.arr (.int .i64) 6 r1.1]), (2, .var [.cell (.v (.slice (.int .u8)) x0), .cell (.int .i64 r1.2.1), .cell (.int .u64 r1.2.2)])] ?_ (fun k32 => ?_)
  · refine ap_all [3, 6, 10] (by kernel_rfl) ⟨?_, ?_, ?_, trivial⟩
    · refine apo_ao rfl ?_
      refine ao_read trivial (r_load_elema_int Try.isAgg3 Try.sizeOf3 rfl rfl rfl (show 0 < 6 from by omega)) rfl ?_
      refine ao_nil ?_
      refine ap_in ?_
      exact ap_go (by kernel_rfl) (sub_mk idn (by exact ⟨ai rfl, ai rfl, ai rfl, ai rfl, ai rfl, ai rfl, ai rfl, ai rfl, trivial⟩) (by exact ⟨⟨_, rfl, ⟨rfl, trivial⟩⟩, ⟨_, rfl, ⟨rfl, trivial⟩⟩, ⟨_, rfl, ⟨ad_ren rfl, rfl, ad_ren rfl, rfl, ad_ren rfl, rfl, trivial⟩⟩, trivial⟩) (by rfl) (nk rfl)) k11
    · refine apo_ao rfl ?_
      refine ao_read trivial (r_idxAddr_arr (i := 2) Try.underlying47 Try.sizeOf3 rfl rfl (show 0 ≤ 2 from by omega) (show 2 < (6 : Int) from by omega)) rfl ?_
      refine ao_nil ?_
      refine ap_in ?_
      exact ap_go (by kernel_rfl) (sub_mk (rn [(1, 2), (2, 1)]) (by exact ⟨ai rfl, ai rfl, ai rfl, ai rfl, ai rfl, ai rfl, ai rfl, ai rfl, trivial⟩) (by exact ⟨⟨_, rfl, ⟨rfl, trivial⟩⟩, ⟨_, rfl, ⟨ad_ren rfl, rfl, ad_ren rfl, rfl, ad_ren rfl, rfl, trivial⟩⟩, ⟨_, rfl, ⟨rfl, trivial⟩⟩, trivial⟩) (by rfl) (nk rfl)) k33
    · refine apo_ao rfl ?_
      refine ao_callV [2] 3 trivial (c_spec_l1Cur_pick (is_mk r2h)) Try.func84 rfl rfl rfl rfl rfl ⟨rfl, trivial⟩ ⟨⟨_, rfl, ⟨ad_ren rfl, rfl, ad_ren rfl, rfl, ad_ren rfl, rfl, trivial⟩⟩, trivial⟩ rfl rfl rfl rfl rfl rfl rfl (fun r' H' hr => ?_)
      obtain ⟨rfl, rfl⟩ := hr
      refine ao_norm (y := .int .i64 r2.1) (H' := [(0, .var [.arr (.int .i64) 6 ((List.replicate 6 0) : (List Int))]), (1, .var [.arr (.int .i64) 6 r1.1]), (2, .var [.cell (.v (.slice (.int .u8)) x0), .cell (.int .i64 r2.2.1), .cell (.int .u64 r2.2.2)])]) rfl rfl ?_
      refine ao_nil ?_
      refine ap_in ?_
      refine ap_pure 11 (by kernel_rfl) (fun _ _ _ h => h) rfl (by kernel_rfl) trivial (rp_quo rfl rfl (by decide)) rfl ?_
      refine ap_pure 12 (by kernel_rfl) (fun _ _ _ h => h) rfl (by kernel_rfl) trivial (rp_add rfl rfl) rfl ?_
      exact ap_go (by kernel_rfl) (sub_mk idn (by exact ⟨ai rfl, ai rfl, ai rfl, ai rfl, ai rfl, ai rfl, ai rfl, ai rfl, trivial⟩) (by exact ⟨⟨_, rfl, ⟨rfl, trivial⟩⟩, ⟨_, rfl, ⟨rfl, trivial⟩⟩, ⟨_, rfl, ⟨ad_ren rfl, rfl, ad_ren rfl, rfl, ad_ren rfl, rfl, trivial⟩⟩, trivial⟩) (by rfl) (nk rfl)) k37
  refine ap_let (g := 11) (listed := #[true, true, true, false, true, false, true, false, false, true, false, false, false, false, false, false, false]) [(2, .ref 0 0), (3, .int .i64 0), (11, .v (.arr 6 (.int .i64)) r1.1), (12, .ref 1 0), (13, .elem 2 0 1 0), (15, .elem 2 0 1 5), (17, .elem 2 0 1 2), (20, .ref 1 0)] [(0, .var [.arr (.int .i64) 6 ((List.replicate 6 0) : (List Int))]), (1, .var [.cell (.v (.slice (.int .u8)) x0), .cell (.int .i64 r1.2.1), .cell (.int .u64 r1.2.2)]), (2, .var [.arr (.int .i64) 6 r1.1])] ?_ (fun k38 => ?_)
  · refine ap_all [3, 5, 7, 10] (by kernel_rfl) ⟨?_, ?_, ?_, ?_, trivial⟩
    · refine apo_ao rfl ?_
      refine ao_read trivial (r_load_elema_int Try.isAgg3 Try.sizeOf3 rfl rfl rfl (show 0 < 6 from by omega)) rfl ?_
      refine ao_nil ?_
      refine ap_in ?_
      exact ap_go (by kernel_rfl) (sub_mk idn (by exact ⟨ai rfl, ai rfl, ai rfl, ai rfl, ai rfl, ai rfl, ai rfl, ai rfl, trivial⟩) (by exact ⟨⟨_, rfl, ⟨rfl, trivial⟩⟩, ⟨_, rfl, ⟨ad_ren rfl, rfl, ad_ren rfl, rfl, ad_ren rfl, rfl, trivial⟩⟩, ⟨_, rfl, ⟨rfl, trivial⟩⟩, trivial⟩) (by rfl) (nk rfl)) k21
    · refine apo_ao rfl ?_
      refine ao_read trivial (r_load_elema_int Try.isAgg3 Try.sizeOf3 rfl rfl rfl (show 5 < 6 from by omega)) rfl ?_
      refine ao_nil ?_
      refine ap_in ?_
      exact ap_go (by kernel_rfl) (sub_mk idn (by exact ⟨ai rfl, ai rfl, ai rfl, ai rfl, ai rfl, ai rfl, ai rfl, ai rfl, trivial⟩) (by exact ⟨⟨_, rfl, ⟨rfl, trivial⟩⟩, ⟨_, rfl, ⟨ad_ren rfl, rfl, ad_ren rfl, rfl, ad_ren rfl, rfl, trivial⟩⟩, ⟨_, rfl, ⟨rfl, trivial⟩⟩, trivial⟩) (by rfl) (nk rfl)) k33
    · refine apo_ao rfl ?_
      refine ao_read trivial (r_load_elema_int Try.isAgg3 Try.sizeOf3 rfl rfl rfl (show 2 < 6 from by omega)) rfl ?_
      refine ao_nil ?_
      refine ap_in ?_
      exact ap_go (by kernel_rfl) (sub_mk idn (by exact ⟨ai rfl, ai rfl, ai rfl, ai rfl, ai rfl, ai rfl, ai rfl, ai rfl, trivial⟩) (by exact ⟨⟨_, rfl, ⟨rfl, trivial⟩⟩, ⟨_, rfl, ⟨ad_ren rfl, rfl, ad_ren rfl, rfl, ad_ren rfl, rfl, trivial⟩⟩, ⟨_, rfl, ⟨rfl, trivial⟩⟩, trivial⟩) (by rfl) (nk rfl)) k39
    · refine apo_ao rfl ?_
      refine ao_callV [1] 3 trivial (c_spec_l1Cur_pick (is_mk r2h)) Try.func84 rfl rfl rfl rfl rfl ⟨rfl, trivial⟩ ⟨⟨_, rfl, ⟨ad_ren rfl, rfl, ad_ren rfl, rfl, ad_ren rfl, rfl, trivial⟩⟩, trivial⟩ rfl rfl rfl rfl rfl rfl rfl (fun r' H' hr => ?_)
      obtain ⟨rfl, rfl⟩ := hr
      refine ao_norm (y := .int .i64 r2.1) (H' := [(0, .var [.arr (.int .i64) 6 ((List.replicate 6 0) : (List Int))]), (2, .var [.arr (.int .i64) 6 r1.1]), (1, .var [.cell (.v (.slice (.int .u8)) x0), .cell (.int .i64 r2.2.1), .cell (.int .u64 r2.2.2)])]) rfl rfl ?_
      refine ao_nil ?_
      refine ap_in ?_
      refine ap_pure 11 (by kernel_rfl) (fun _ _ _ h => h) rfl (by kernel_rfl) trivial (rp_quo rfl rfl (by decide)) rfl ?_
      refine ap_pure 12 (by kernel_rfl) (fun _ _ _ h => h) rfl (by kernel_rfl) trivial (rp_add rfl rfl) rfl ?_
      exact ap_go (by kernel_rfl) (sub_mk idn (by exact ⟨ai rfl, ai rfl, ai rfl, ai rfl, ai rfl, ai rfl, ai rfl, ai rfl, trivial⟩) (by exact ⟨⟨_, rfl, ⟨rfl, trivial⟩⟩, ⟨_, rfl, ⟨ad_ren rfl, rfl, ad_ren rfl, rfl, ad_ren rfl, rfl, trivial⟩⟩, ⟨_, rfl, ⟨rfl, trivial⟩⟩, trivial⟩) (by rfl) (nk rfl)) k41
  refine ap_let (g := 11) (listed := #[true, true, true, false, false, false, true, true, false, true, false, false, false, false, false, false, false]) [(2, .ref 0 0), (3, .int .i64 0), (5, .ref 1 0), (11, .v (.arr 6 (.int .i64)) r1.1), (12, .ref 2 0), (13, .elem 1 0 1 0), (18, .int .i64 (r1.1.getD 2 0)), (20, .ref 2 0)] [(0, .var [.arr (.int .i64) 6 ((List.replicate 6 0) : (List Int))]), (1, .var [.arr (.int .i64) 6 r1.1]), (2, .var [.cell (.v (.slice (.int .u8)) x0), .cell (.int .i64 r1.2.1), .cell (.int .u64 r1.2.2)])] ?_ (fun k44 => ?_)
  · refine ap_all [3, 4, 10] (by kernel_rfl) ⟨?_, ?_, ?_, trivial⟩
    · refine apo_ao rfl ?_
      refine ao_read trivial (r_load_elema_int Try.isAgg3 Try.sizeOf3 rfl rfl rfl (show 0 < 6 from by omega)) rfl ?_
      refine ao_nil ?_
      refine ap_in ?_
      exact ap_go (by kernel_rfl) (sub_mk idn (by exact ⟨ai rfl, ai rfl, ai rfl, ai rfl, ai rfl, ai rfl, ai rfl, ai rfl, trivial⟩) (by exact ⟨⟨_, rfl, ⟨rfl, trivial⟩⟩, ⟨_, rfl, ⟨rfl, trivial⟩⟩, ⟨_, rfl, ⟨ad_ren rfl, rfl, ad_ren rfl, rfl, ad_ren rfl, rfl, trivial⟩⟩, trivial⟩) (by rfl) (nk rfl)) k27
    · refine apo_ao rfl ?_
      refine ao_read trivial (r_idxAddr_arr (i := 5) Try.underlying47 Try.sizeOf3 rfl rfl (show 0 ≤ 5 from by omega) (show 5 < (6 : Int) from by omega)) rfl ?_
      refine ao_nil ?_
      refine ap_in ?_
      exact ap_go (by kernel_rfl) (sub_mk (rn [(1, 2), (2, 1)]) (by exact ⟨ai rfl, ai rfl, ai rfl, ai rfl, ai rfl, ai rfl, ai rfl, ai rfl, trivial⟩) (by exact ⟨⟨_, rfl, ⟨rfl, trivial⟩⟩, ⟨_, rfl, ⟨ad_ren rfl, rfl, ad_ren rfl, rfl, ad_ren rfl, rfl, trivial⟩⟩, ⟨_, rfl, ⟨rfl, trivial⟩⟩, trivial⟩) (by rfl) (nk rfl)) k39
    · refine apo_ao rfl ?_
      refine ao_callV [2] 3 trivial (c_spec_l1Cur_pick (is_mk r2h)) Try.func84 rfl rfl rfl rfl rfl ⟨rfl, trivial⟩ ⟨⟨_, rfl, ⟨ad_ren rfl, rfl, ad_ren rfl, rfl, ad_ren rfl, rfl, trivial⟩⟩, trivial⟩ rfl rfl rfl rfl rfl rfl rfl (fun r' H' hr => ?_)
      obtain ⟨rfl, rfl⟩ := hr
      refine ao_norm (y := .int .i64 r2.1) (H' := [(0, .var [.arr (.int .i64) 6 ((List.replicate 6 0) : (List Int))]), (1, .var [.arr (.int .i64) 6 r1.1]), (2, .var [.cell (.v (.slice (.int .u8)) x0), .cell (.int .i64 r2.2.1), .cell (.int .u64 r2.2.2)])]) rfl rfl ?_
      refine ao_nil ?_
      refine ap_in ?_
      refine ap_pure 11 (by kernel_rfl) (fun _ _ _ h => h) rfl (by kernel_rfl) trivial (rp_quo rfl rfl (by decide)) rfl ?_
      refine ap_pure 12 (by kernel_rfl) (fun _ _ _ h => h) rfl (by kernel_rfl) trivial (rp_add rfl rfl) rfl ?_
      exact ap_go (by kernel_rfl) (sub_mk idn (by exact ⟨ai rfl, ai rfl, ai rfl, ai rfl, ai rfl, ai rfl, ai rfl, ai rfl, trivial⟩) (by exact ⟨⟨_, rfl, ⟨rfl, trivial⟩⟩, ⟨_, rfl, ⟨rfl, trivial⟩⟩, ⟨_, rfl, ⟨ad_ren rfl, rfl, ad_ren rfl, rfl, ad_ren rfl, rfl, trivial⟩⟩, trivial⟩) (by rfl) (nk rfl)) k45
  refine ap_let (g := 11) (listed := #[true, true, false, false, true, true, true, false, false, true, false, false, false, false, false, false, false]) [(2, .ref 0 0), (3, .int .i64 0), (5, .ref 1 0), (11, .v (.arr 6 (.int .i64)) r1.1), (12, .ref 2 0), (16, .int .i64 (r1.1.getD 5 0)), (17, .elem 1 0 1 2), (20, .ref 2 0)] [(0, .var [.arr (.int .i64) 6 ((List.replicate 6 0) : (List Int))]), (1, .var [.arr (.int .i64) 6 r1.1]), (2, .var [.cell (.v (.slice (.int .u8)) x0), .cell (.int .i64 r1.2.1), .cell (.int .u64 r1.2.2)])] ?_ (fun k50 => ?_)
  · refine ap_all [2, 7, 10] (by kernel_rfl) ⟨?_, ?_, ?_, trivial⟩
    · refine apo_ao rfl ?_
      refine ao_read trivial (r_idxAddr_arr (i := 0) Try.underlying47 Try.sizeOf3 rfl rfl (show 0 ≤ 0 from by omega) (show 0 < (6 : Int) from by omega)) rfl ?_
      refine ao_nil ?_
      refine ap_in ?_
      exact ap_go (by kernel_rfl) (sub_mk (rn [(1, 2), (2, 1)]) (by exact ⟨ai rfl, ai rfl, ai rfl, ai rfl, ai rfl, ai rfl, ai rfl, ai rfl, trivial⟩) (by exact ⟨⟨_, rfl, ⟨rfl, trivial⟩⟩, ⟨_, rfl, ⟨ad_ren rfl, rfl, ad_ren rfl, rfl, ad_ren rfl, rfl, trivial⟩⟩, ⟨_, rfl, ⟨rfl, trivial⟩⟩, trivial⟩) (by rfl) (nk rfl)) k33
    · refine apo_ao rfl ?_
      refine ao_read trivial (r_load_elema_int Try.isAgg3 Try.sizeOf3 rfl rfl rfl (show 2 < 6 from by omega)) rfl ?_
      refine ao_nil ?_
      refine ap_in ?_
      exact ap_go (by kernel_rfl) (sub_mk idn (by exact ⟨ai rfl, ai rfl, ai rfl, ai rfl, ai rfl, ai rfl, ai rfl, ai rfl, trivial⟩) (by exact ⟨⟨_, rfl, ⟨rfl, trivial⟩⟩, ⟨_, rfl, ⟨rfl, trivial⟩⟩, ⟨_, rfl, ⟨ad_ren rfl, rfl, ad_ren rfl, rfl, ad_ren rfl, rfl, trivial⟩⟩, trivial⟩) (by rfl) (nk rfl)) k51
    · refine apo_ao rfl ?_
      refine ao_callV [2] 3 trivial (c_spec_l1Cur_pick (is_mk r2h)) Try.func84 rfl rfl rfl rfl rfl ⟨rfl, trivial⟩ ⟨⟨_, rfl, ⟨ad_ren rfl, rfl, ad_ren rfl, rfl, ad_ren rfl, rfl, trivial⟩⟩, trivial⟩ rfl rfl rfl rfl rfl rfl rfl (fun r' H' hr => ?_)
      obtain ⟨rfl, rfl⟩ := hr
      refine ao_norm (y := .int .i64 r2.1) (H' := [(0, .var [.arr (.int .i64) 6 ((List.replicate 6 0) : (List Int))]), (1, .var [.arr (.int .i64) 6 r1.1]), (2, .var [.cell (.v (.slice (.int .u8)) x0), .cell (.int .i64 r2.2.1), .cell (.int .u64 r2.2.2)])]) rfl rfl ?_
      refine ao_nil ?_
      refine ap_in ?_
      refine ap_pure 11 (by kernel_rfl) (fun _ _ _ h => h) rfl (by kernel_rfl) trivial (rp_quo rfl rfl (by decide)) rfl ?_
      refine ap_pure 12 (by kernel_rfl) (fun _ _ _ h => h) rfl (by kernel_rfl) trivial (rp_add rfl rfl) rfl ?_
      exact ap_go (by kernel_rfl) (sub_mk idn (by exact ⟨ai rfl, ai rfl, ai rfl, ai rfl, ai rfl, ai rfl, ai rfl, ai rfl, trivial⟩) (by exact ⟨⟨_, rfl, ⟨rfl, trivial⟩⟩, ⟨_, rfl, ⟨rfl, trivial⟩⟩, ⟨_, rfl, ⟨ad_ren rfl, rfl, ad_ren rfl, rfl, ad_ren rfl, rfl, trivial⟩⟩, trivial⟩) (by rfl) (nk rfl)) k53
  refine ap_let (g := 11) (listed := #[true, true, false, false, true, false, true, true, false, true, false, false, false, false, false, false, false]) [(2, .ref 0 0), (3, .int .i64 0), (5, .ref 1 0), (11, .v (.arr 6 (.int .i64)) r1.1), (12, .ref 2 0), (15, .elem 1 0 1 5), (18, .int .i64 (r1.1.getD 2 0)), (20, .ref 2 0)] [(0, .var [.arr (.int .i64) 6 ((List.replicate 6 0) : (List Int))]), (1, .var [.arr (.int .i64) 6 r1.1]), (2, .var [.cell (.v (.slice (.int .u8)) x0), .cell (.int .i64 r1.2.1), .cell (.int .u64 r1.2.2)])] ?_ (fun k56 => ?_)
  · refine ap_all [2, 5, 10] (by kernel_rfl) ⟨?_, ?_, ?_, trivial⟩
    · refine apo_ao rfl ?_
      refine ao_read trivial (r_idxAddr_arr (i := 0) Try.underlying47 Try.sizeOf3 rfl rfl (show 0 ≤ 0 from by omega) (show 0 < (6 : Int) from by omega)) rfl ?_
      refine ao_nil ?_
      refine ap_in ?_
      exact ap_go (by kernel_rfl) (sub_mk (rn [(1, 2), (2, 1)]) (by exact ⟨ai rfl, ai rfl, ai rfl, ai rfl, ai rfl, ai rfl, ai rfl, ai rfl, trivial⟩) (by exact ⟨⟨_, rfl, ⟨rfl, trivial⟩⟩, ⟨_, rfl, ⟨ad_ren rfl, rfl, ad_ren rfl, rfl, ad_ren rfl, rfl, trivial⟩⟩, ⟨_, rfl, ⟨rfl, trivial⟩⟩, trivial⟩) (by rfl) (nk rfl)) k39
    · refine apo_ao rfl ?_
      refine ao_read trivial (r_load_elema_int Try.isAgg3 Try.sizeOf3 rfl rfl rfl (show 5 < 6 from by omega)) rfl ?_
      refine ao_nil ?_
      refine ap_in ?_
      exact ap_go (by kernel_rfl) (sub_mk idn (by exact ⟨ai rfl, ai rfl, ai rfl, ai rfl, ai rfl, ai rfl, ai rfl, ai rfl, trivial⟩) (by exact ⟨⟨_, rfl, ⟨rfl, trivial⟩⟩, ⟨_, rfl, ⟨rfl, trivial⟩⟩, ⟨_, rfl, ⟨ad_ren rfl, rfl, ad_ren rfl, rfl, ad_ren rfl, rfl, trivial⟩⟩, trivial⟩) (by rfl) (nk rfl)) k51
    · refine apo_ao rfl ?_
      refine ao_callV [2] 3 trivial (c_spec_l1Cur_pick (is_mk r2h)) Try.func84 rfl rfl rfl rfl rfl ⟨rfl, trivial⟩ ⟨⟨_, rfl, ⟨ad_ren rfl, rfl, ad_ren rfl, rfl, ad_ren rfl, rfl, trivial⟩⟩, trivial⟩ rfl rfl rfl rfl rfl rfl rfl (fun r' H' hr => ?_)
      obtain ⟨rfl, rfl⟩ := hr
      refine ao_norm (y := .int .i64 r2.1) (H' := [(0, .var [.arr (.int .i64) 6 ((List.replicate 6 0) : (List Int))]), (1, .var [.arr (.int .i64) 6 r1.1]), (2, .var [.cell (.v (.slice (.int .u8)) x0), .cell (.int .i64 r2.2.1), .cell (.int .u64 r2.2.2)])]) rfl rfl ?_
      refine ao_nil ?_
      refine ap_in ?_
      refine ap_pure 11 (by kernel_rfl) (fun _ _ _ h => h) rfl (by kernel_rfl) trivial (rp_quo rfl rfl (by decide)) rfl ?_
      refine ap_pure 12 (by kernel_rfl) (fun _ _ _ h => h) rfl (by kernel_rfl) trivial (rp_add rfl rfl) rfl ?_
      exact ap_go (by kernel_rfl) (sub_mk idn (by exact ⟨ai rfl, ai rfl, ai rfl, ai rfl, ai rfl, ai rfl, ai rfl, ai rfl, trivial⟩) (by exact ⟨⟨_, rfl, ⟨rfl, trivial⟩⟩, ⟨_, rfl, ⟨rfl, trivial⟩⟩, ⟨_, rfl, ⟨ad_ren rfl, rfl, ad_ren rfl, rfl, ad_ren rfl, rfl, trivial⟩⟩, trivial⟩) (by rfl) (nk rfl)) k57
  refine ap_let (g := 11) (listed := #[true, true, false, false, false, false, false, false, false, true, true, true, true, false, false, false, false]) [(2, .ref 0 0), (3, .int .i64 0), (5, .ref 1 0), (11, .v (.arr 6 (.int .i64)) r1.1), (12, .ref 2 0), (23, .int .i64 (IntKind.wrap .i64 (3 + (IntKind.wrap .i64 (r2.1.tdiv 6)))))] [(0, .var [.arr (.int .i64) 6 ((List.replicate 6 0) : (List Int))]), (1, .var [.arr (.int .i64) 6 r1.1]), (2, .var [.cell (.v (.slice (.int .u8)) x0), .cell (.int .i64 r2.2.1), .cell (.int .u64 r2.2.2)])] ?_ (fun k64 => ?_)
  · refine ap_all [2, 4, 6] (by kernel_rfl) ⟨?_, ?_, ?_, trivial⟩
    · refine apo_ao rfl ?_
      refine ao_read trivial (r_idxAddr_arr (i := 0) Try.underlying47 Try.sizeOf3 rfl rfl (show 0 ≤ 0 from by omega) (show 0 < (6 : Int) from by omega)) rfl ?_
      refine ao_nil ?_
      refine ap_in ?_
      exact ap_go (by kernel_rfl) (sub_mk idn (by exact ⟨ai rfl, ai rfl, ai rfl, ai rfl, ai rfl, ai rfl, ai rfl, trivial⟩) (by exact ⟨⟨_, rfl, ⟨rfl, trivial⟩⟩, ⟨_, rfl, ⟨rfl, trivial⟩⟩, ⟨_, rfl, ⟨ad_ren rfl, rfl, ad_ren rfl, rfl, ad_ren rfl, rfl, trivial⟩⟩, trivial⟩) (by rfl) (nk rfl)) k47
    · refine apo_ao rfl ?_
      refine ao_read trivial (r_idxAddr_arr (i := 5) Try.underlying47 Try.sizeOf3 rfl rfl (show 0 ≤ 5 from by omega) (show 5 < (6 : Int) from by omega)) rfl ?_
      refine ao_nil ?_
      refine ap_in ?_
      exact ap_go (by kernel_rfl) (sub_mk idn (by exact ⟨ai rfl, ai rfl, ai rfl, ai rfl, ai rfl, ai rfl, ai rfl, trivial⟩) (by exact ⟨⟨_, rfl, ⟨rfl, trivial⟩⟩, ⟨_, rfl, ⟨rfl, trivial⟩⟩, ⟨_, rfl, ⟨ad_ren rfl, rfl, ad_ren rfl, rfl, ad_ren rfl, rfl, trivial⟩⟩, trivial⟩) (by rfl) (nk rfl)) k59
    · refine apo_ao rfl ?_
      refine ao_read trivial (r_idxAddr_arr (i := 2) Try.underlying47 Try.sizeOf3 rfl rfl (show 0 ≤ 2 from by omega) (show 2 < (6 : Int) from by omega)) rfl ?_
      refine ao_nil ?_
      refine ap_in ?_
      exact ap_go (by kernel_rfl) (sub_mk idn (by exact ⟨ai rfl, ai rfl, ai rfl, ai rfl, ai rfl, ai rfl, ai rfl, trivial⟩) (by exact ⟨⟨_, rfl, ⟨rfl, trivial⟩⟩, ⟨_, rfl, ⟨rfl, trivial⟩⟩, ⟨_, rfl, ⟨ad_ren rfl, rfl, ad_ren rfl, rfl, ad_ren rfl, rfl, trivial⟩⟩, trivial⟩) (by rfl) (nk rfl)) k63
  refine ap_let (g := 11) (listed := #[false, true, true, true, true, true, false, false, false, true, false, false, false, false, false, false, false]) [(2, .ref 0 0), (3, .int .i64 0), (5, .ref 1 0), (12, .ref 2 0), (14, .int .i64 (r1.1.getD 0 0)), (16, .int .i64 (r1.1.getD 5 0)), (20, .ref 2 0)] [(0, .var [.arr (.int .i64) 6 ((List.replicate 6 0) : (List Int))]), (1, .var [.arr (.int .i64) 6 r1.1]), (2, .var [.cell (.v (.slice (.int .u8)) x0), .cell (.int .i64 r1.2.1), .cell (.int .u64 r1.2.2)])] ?_ (fun k68 => ?_)
  · refine ap_all [0, 6, 10] (by kernel_rfl) ⟨?_, ?_, ?_, trivial⟩
    · refine apo_ao rfl ?_
      refine ao_read trivial (r_load_arr rfl Try.isAgg47 Try.sizeOf47 rfl rfl rfl) rfl ?_
      refine ao_nil ?_
      refine ap_in ?_
      exact ap_go (by kernel_rfl) (sub_mk idn (by exact ⟨ai rfl, ai rfl, ai rfl, ai rfl, ai rfl, ai rfl, ai rfl, ai rfl, trivial⟩) (by exact ⟨⟨_, rfl, ⟨rfl, trivial⟩⟩, ⟨_, rfl, ⟨rfl, trivial⟩⟩, ⟨_, rfl, ⟨ad_ren rfl, rfl, ad_ren rfl, rfl, ad_ren rfl, rfl, trivial⟩⟩, trivial⟩) (by rfl) (nk rfl)) k11
    · refine apo_ao rfl ?_
      refine ao_read trivial (r_idxAddr_arr (i := 2) Try.underlying47 Try.sizeOf3 rfl rfl (show 0 ≤ 2 from by omega) (show 2 < (6 : Int) from by omega)) rfl ?_
      refine ao_nil ?_
      refine ap_in ?_
      exact ap_go (by kernel_rfl) (sub_mk idn (by exact ⟨ai rfl, ai rfl, ai rfl, ai rfl, ai rfl, ai rfl, ai rfl, ai rfl, trivial⟩) (by exact ⟨⟨_, rfl, ⟨rfl, trivial⟩⟩, ⟨_, rfl, ⟨rfl, trivial⟩⟩, ⟨_, rfl, ⟨ad_ren rfl, rfl, ad_ren rfl, rfl, ad_ren rfl, rfl, trivial⟩⟩, trivial⟩) (by rfl) (nk rfl)) k69
    · refine apo_ao rfl ?_
      refine ao_callV [2] 3 trivial (c_spec_l1Cur_pick (is_mk r2h)) Try.func84 rfl rfl rfl rfl rfl ⟨rfl, trivial⟩ ⟨⟨_, rfl, ⟨ad_ren rfl, rfl, ad_ren rfl, rfl, ad_ren rfl, rfl, trivial⟩⟩, trivial⟩ rfl rfl rfl rfl rfl rfl rfl (fun r' H' hr => ?_)
      obtain ⟨rfl, rfl⟩ := hr
      refine ao_norm (y := .int .i64 r2.1) (H' := [(0, .var [.arr (.int .i64) 6 ((List.replicate 6 0) : (List Int))]), (1, .var [.arr (.int .i64) 6 r1.1]), (2, .var [.cell (.v (.slice (.int .u8)) x0), .cell (.int .i64 r2.2.1), .cell (.int .u64 r2.2.2)])]) rfl rfl ?_
      refine ao_nil ?_
      refine ap_in ?_
      refine ap_pure 11 (by kernel_rfl) (fun _ _ _ h => h) rfl (by kernel_rfl) trivial (rp_quo rfl rfl (by decide)) rfl ?_
      refine ap_pure 12 (by kernel_rfl) (fun _ _ _ h => h) rfl (by kernel_rfl) trivial (rp_add rfl rfl) rfl ?_
      exact ap_go (by kernel_rfl) (sub_mk idn (by exact ⟨ai rfl, ai rfl, ai rfl, ai rfl, ai rfl, ai rfl, ai rfl, trivial⟩) (by exact ⟨⟨_, rfl, ⟨rfl, trivial⟩⟩, ⟨_, rfl, ⟨rfl, trivial⟩⟩, ⟨_, rfl, ⟨ad_ren rfl, rfl, ad_ren rfl, rfl, ad_ren rfl, rfl, trivial⟩⟩, trivial⟩) (by rfl) (nk rfl)) k77
  refine ap_let (g := 11) (listed := #[false, true, true, true, true, false, true, false, false, true, false, false, false, false, false, false, false]) [(2, .ref 0 0), (3, .int .i64 0), (5, .ref 1 0), (12, .ref 2 0), (14, .int .i64 (r1.1.getD 0 0)), (15, .elem 1 0 1 5), (17, .elem 1 0 1 2), (20, .ref 2 0)] [(0, .var [.arr (.int .i64) 6 ((List.replicate 6 0) : (List Int))]), (1, .var [.arr (.int .i64) 6 r1.1]), (2, .var [.cell (.v (.slice (.int .u8)) x0), .cell (.int .i64 r1.2.1), .cell (.int .u64 r1.2.2)])] ?_ (fun k78 => ?_)
  · refine ap_all [0, 5, 7, 10] (by kernel_rfl) ⟨?_, ?_, ?_, ?_, trivial⟩
    · refine apo_ao rfl ?_
      refine ao_read trivial (r_load_arr rfl Try.isAgg47 Try.sizeOf47 rfl rfl rfl) rfl ?_
      refine ao_nil ?_
      refine ap_in ?_
      exact ap_go (by kernel_rfl) (sub_mk (rn [(1, 2), (2, 1)]) (by exact ⟨ai rfl, ai rfl, ai rfl, ai rfl, ai rfl, ai rfl, ai rfl, ai rfl, trivial⟩) (by exact ⟨⟨_, rfl, ⟨rfl, trivial⟩⟩, ⟨_, rfl, ⟨ad_ren rfl, rfl, ad_ren rfl, rfl, ad_ren rfl, rfl, trivial⟩⟩, ⟨_, rfl, ⟨rfl, trivial⟩⟩, trivial⟩) (by rfl) (nk rfl)) k21
    · refine apo_ao rfl ?_
      refine ao_read trivial (r_load_elema_int Try.isAgg3 Try.sizeOf3 rfl rfl rfl (show 5 < 6 from by omega)) rfl ?_
      refine ao_nil ?_
      refine ap_in ?_
      exact ap_go (by kernel_rfl) (sub_mk idn (by exact ⟨ai rfl, ai rfl, ai rfl, ai rfl, ai rfl, ai rfl, ai rfl, ai rfl, trivial⟩) (by exact ⟨⟨_, rfl, ⟨rfl, trivial⟩⟩, ⟨_, rfl, ⟨rfl, trivial⟩⟩, ⟨_, rfl, ⟨ad_ren rfl, rfl, ad_ren rfl, rfl, ad_ren rfl, rfl, trivial⟩⟩, trivial⟩) (by rfl) (nk rfl)) k69
    · refine apo_ao rfl ?_
      refine ao_read trivial (r_load_elema_int Try.isAgg3 Try.sizeOf3 rfl rfl rfl (show 2 < 6 from by omega)) rfl ?_
      refine ao_nil ?_
      refine ap_in ?_
      exact ap_go (by kernel_rfl) (sub_mk idn (by exact ⟨ai rfl, ai rfl, ai rfl, ai rfl, ai rfl, ai rfl, ai rfl, ai rfl, trivial⟩) (by exact ⟨⟨_, rfl, ⟨rfl, trivial⟩⟩, ⟨_, rfl, ⟨rfl, trivial⟩⟩, ⟨_, rfl, ⟨ad_ren rfl, rfl, ad_ren rfl, rfl, ad_ren rfl, rfl, trivial⟩⟩, trivial⟩) (by rfl) (nk rfl)) k79
    · refine apo_ao rfl ?_
      refine ao_callV [2] 3 trivial (c_spec_l1Cur_pick (is_mk r2h)) Try.func84 rfl rfl rfl rfl rfl ⟨rfl, trivial⟩ ⟨⟨_, rfl, ⟨ad_ren rfl, rfl, ad_ren rfl, rfl, ad_ren rfl, rfl, trivial⟩⟩, trivial⟩ rfl rfl rfl rfl rfl rfl rfl (fun r' H' hr => ?_)
      obtain ⟨rfl, rfl⟩ := hr
      refine ao_norm (y := .int .i64 r2.1) (H' := [(0, .var [.arr (.int .i64) 6 ((List.replicate 6 0) : (List Int))]), (1, .var [.arr (.int .i64) 6 r1.1]), (2, .var [.cell (.v (.slice (.int .u8)) x0), .cell (.int .i64 r2.2.1), .cell (.int .u64 r2.2.2)])]) rfl rfl ?_
      refine ao_nil ?_
      refine ap_in ?_
      refine ap_pure 11 (by kernel_rfl) (fun _ _ _ h => h) rfl (by kernel_rfl) trivial (rp_quo rfl rfl (by decide)) rfl ?_
      refine ap_pure 12 (by kernel_rfl) (fun _ _ _ h => h) rfl (by kernel_rfl) trivial (rp_add rfl rfl) rfl ?_
      exact ap_go (by kernel_rfl) (sub_mk idn (by exact ⟨ai rfl, ai rfl, ai rfl, ai rfl, ai rfl, ai rfl, ai rfl, ai rfl, trivial⟩) (by exact ⟨⟨_, rfl, ⟨rfl, trivial⟩⟩, ⟨_, rfl, ⟨rfl, trivial⟩⟩, ⟨_, rfl, ⟨ad_ren rfl, rfl, ad_ren rfl, rfl, ad_ren rfl, rfl, trivial⟩⟩, trivial⟩) (by rfl) (nk rfl)) k81
  refine ap_let (g := 11) (listed := #[false, true, true, true, false, false, true, true, false, true, false, false, false, false, false, false, false]) [(2, .ref 0 0), (3, .int .i64 0), (5, .ref 1 0), (12, .ref 2 0), (14, .int .i64 (r1.1.getD 0 0)), (18, .int .i64 (r1.1.getD 2 0)), (20, .ref 2 0)] [(0, .var [.arr (.int .i64) 6 ((List.replicate 6 0) : (List Int))]), (1, .var [.arr (.int .i64) 6 r1.1]), (2, .var [.cell (.v (.slice (.int .u8)) x0), .cell (.int .i64 r1.2.1), .cell (.int .u64 r1.2.2)])] ?_ (fun k84 => ?_)
  · refine ap_all [0, 4, 10] (by kernel_rfl) ⟨?_, ?_, ?_, trivial⟩
    · refine apo_ao rfl ?_
      refine ao_read trivial (r_load_arr rfl Try.isAgg47 Try.sizeOf47 rfl rfl rfl) rfl ?_
      refine ao_nil ?_
      refine ap_in ?_
      exact ap_go (by kernel_rfl) (sub_mk idn (by exact ⟨ai rfl, ai rfl, ai rfl, ai rfl, ai rfl, ai rfl, ai rfl, ai rfl, trivial⟩) (by exact ⟨⟨_, rfl, ⟨rfl, trivial⟩⟩, ⟨_, rfl, ⟨rfl, trivial⟩⟩, ⟨_, rfl, ⟨ad_ren rfl, rfl, ad_ren rfl, rfl, ad_ren rfl, rfl, trivial⟩⟩, trivial⟩) (by rfl) (nk rfl)) k27
    · refine apo_ao rfl ?_
      refine ao_read trivial (r_idxAddr_arr (i := 5) Try.underlying47 Try.sizeOf3 rfl rfl (show 0 ≤ 5 from by omega) (show 5 < (6 : Int) from by omega)) rfl ?_
      refine ao_nil ?_
      refine ap_in ?_
      exact ap_go (by kernel_rfl) (sub_mk idn (by exact ⟨ai rfl, ai rfl, ai rfl, ai rfl, ai rfl, ai rfl, ai rfl, ai rfl, trivial⟩) (by exact ⟨⟨_, rfl, ⟨rfl, trivial⟩⟩, ⟨_, rfl, ⟨rfl, trivial⟩⟩, ⟨_, rfl, ⟨ad_ren rfl, rfl, ad_ren rfl, rfl, ad_ren rfl, rfl, trivial⟩⟩, trivial⟩) (by rfl) (nk rfl)) k79
    · refine apo_ao rfl ?_
      refine ao_callV [2] 3 trivial (c_spec_l1Cur_pick (is_mk r2h)) Try.func84 rfl rfl rfl rfl rfl ⟨rfl, trivial⟩ ⟨⟨_, rfl, ⟨ad_ren rfl, rfl, ad_ren rfl, rfl, ad_ren rfl, rfl, trivial⟩⟩, trivial⟩ rfl rfl rfl rfl rfl rfl rfl (fun r' H' hr => ?_)
      obtain ⟨rfl, rfl⟩ := hr
      refine ao_norm (y := .int .i64 r2.1) (H' := [(0, .var [.arr (.int .i64) 6 ((List.replicate 6 0) : (List Int))]), (1, .var [.arr (.int .i64) 6 r1.1]), (2, .var [.cell (.v (.slice (.int .u8)) x0), .cell (.int .i64 r2.2.1), .cell (.int .u64 r2.2.2)])]) rfl rfl ?_
      refine ao_nil ?_
      refine ap_in ?_
      refine ap_pure 11 (by kernel_rfl) (fun _ _ _ h => h) rfl (by kernel_rfl) trivial (rp_quo rfl rfl (by decide)) rfl ?_
      refine ap_pure 12 (by kernel_rfl) (fun _ _ _ h => h) rfl (by kernel_rfl) trivial (rp_add rfl rfl) rfl ?_
      exact ap_go (by kernel_rfl) (sub_mk idn (by exact ⟨ai rfl, ai rfl, ai rfl, ai rfl, ai rfl, ai rfl, ai rfl, trivial⟩) (by exact ⟨⟨_, rfl, ⟨rfl, trivial⟩⟩, ⟨_, rfl, ⟨rfl, trivial⟩⟩, ⟨_, rfl, ⟨ad_ren rfl, rfl, ad_ren rfl, rfl, ad_ren rfl, rfl, trivial⟩⟩, trivial⟩) (by rfl) (nk rfl)) k85
  refine ap_let (g := 11) (listed := #[false, true, true, false, true, true, true, false, false, true, false, false, false, false, false, false, false]) [(2, .ref 0 0), (3, .int .i64 0), (5, .ref 1 0), (12, .ref 2 0), (13, .elem 1 0 1 0), (16, .int .i64 (r1.1.getD 5 0)), (17, .elem 1 0 1 2), (20, .ref 2 0)] [(0, .var [.arr (.int .i64) 6 ((List.replicate 6 0) : (List Int))]), (1, .var [.arr (.int .i64) 6 r1.1]), (2, .var [.cell (.v (.slice (.int .u8)) x0), .cell (.int .i64 r1.2.1), .cell (.int .u64 r1.2.2)])] ?_ (fun k90 => ?_)
  · refine ap_all [0, 3, 7, 10] (by kernel_rfl) ⟨?_, ?_, ?_, ?_, trivial⟩
    · refine apo_ao rfl ?_
      refine ao_read trivial (r_load_arr rfl Try.isAgg47 Try.sizeOf47 rfl rfl rfl) rfl ?_
      refine ao_nil ?_
      refine ap_in ?_
      exact ap_go (by kernel_rfl) (sub_mk (rn [(1, 2), (2, 1)]) (by exact ⟨ai rfl, ai rfl, ai rfl, ai rfl, ai rfl, ai rfl, ai rfl, ai rfl, trivial⟩) (by exact ⟨⟨_, rfl, ⟨rfl, trivial⟩⟩, ⟨_, rfl, ⟨ad_ren rfl, rfl, ad_ren rfl, rfl, ad_ren rfl, rfl, trivial⟩⟩, ⟨_, rfl, ⟨rfl, trivial⟩⟩, trivial⟩) (by rfl) (nk rfl)) k33
    · refine apo_ao rfl ?_
      refine ao_read trivial (r_load_elema_int Try.isAgg3 Try.sizeOf3 rfl rfl rfl (show 0 < 6 from by omega)) rfl ?_
      refine ao_nil ?_
      refine ap_in ?_
      exact ap_go (by kernel_rfl) (sub_mk idn (by exact ⟨ai rfl, ai rfl, ai rfl, ai rfl, ai rfl, ai rfl, ai rfl, ai rfl, trivial⟩) (by exact ⟨⟨_, rfl, ⟨rfl, trivial⟩⟩, ⟨_, rfl, ⟨rfl, trivial⟩⟩, ⟨_, rfl, ⟨ad_ren rfl, rfl, ad_ren rfl, rfl, ad_ren rfl, rfl, trivial⟩⟩, trivial⟩) (by rfl) (nk rfl)) k69
    · refine apo_ao rfl ?_
      refine ao_read trivial (r_load_elema_int Try.isAgg3 Try.sizeOf3 rfl rfl rfl (show 2 < 6 from by omega)) rfl ?_
      refine ao_nil ?_
      refine ap_in ?_
      exact ap_go (by kernel_rfl) (sub_mk idn (by exact ⟨ai rfl, ai rfl, ai rfl, ai rfl, ai rfl, ai rfl, ai rfl, ai rfl, trivial⟩) (by exact ⟨⟨_, rfl, ⟨rfl, trivial⟩⟩, ⟨_, rfl, ⟨rfl, trivial⟩⟩, ⟨_, rfl, ⟨ad_ren rfl, rfl, ad_ren rfl, rfl, ad_ren rfl, rfl, trivial⟩⟩, trivial⟩) (by rfl) (nk rfl)) k91
    · refine apo_ao rfl ?_
      refine ao_callV [2] 3 trivial (c_spec_l1Cur_pick (is_mk r2h)) Try.func84 rfl rfl rfl rfl rfl ⟨rfl, trivial⟩ ⟨⟨_, rfl, ⟨ad_ren rfl, rfl, ad_ren rfl, rfl, ad_ren rfl, rfl, trivial⟩⟩, trivial⟩ rfl rfl rfl rfl rfl rfl rfl (fun r' H' hr => ?_)
      obtain ⟨rfl, rfl⟩ := hr
      refine ao_norm (y := .int .i64 r2.1) (H' := [(0, .var [.arr (.int .i64) 6 ((List.replicate 6 0) : (List Int))]), (1, .var [.arr (.int .i64) 6 r1.1]), (2, .var [.cell (.v (.slice (.int .u8)) x0), .cell (.int .i64 r2.2.1), .cell (.int .u64 r2.2.2)])]) rfl rfl ?_
      refine ao_nil ?_
      refine ap_in ?_
      refine ap_pure 11 (by kernel_rfl) (fun _ _ _ h => h) rfl (by kernel_rfl) trivial (rp_quo rfl rfl (by decide)) rfl ?_
      refine ap_pure 12 (by kernel_rfl) (fun _ _ _ h => h) rfl (by kernel_rfl) trivial (rp_add rfl rfl) rfl ?_
      exact ap_go (by kernel_rfl) (sub_mk idn (by exact ⟨ai rfl, ai rfl, ai rfl, ai rfl, ai rfl, ai rfl, ai rfl, ai rfl, trivial⟩) (by exact ⟨⟨_, rfl, ⟨rfl, trivial⟩⟩, ⟨_, rfl, ⟨rfl, trivial⟩⟩, ⟨_, rfl, ⟨ad_ren rfl, rfl, ad_ren rfl, rfl, ad_ren rfl, rfl, trivial⟩⟩, trivial⟩) (by rfl) (nk rfl)) k93
  refine ap_let (g := 11) (listed := #[false, true, true, false, true, false, true, true, false, true, false, false, false, false, false, false, false]) [(2, .ref 0 0), (3, .int .i64 0), (5, .ref 1 0), (12, .ref 2 0), (13, .elem 1 0 1 0), (15, .elem 1 0 1 5), (18, .int .i64 (r1.1.getD 2 0)), (20, .ref 2 0)] [(0, .var [.arr (.int .i64) 6 ((List.replicate 6 0) : (List Int))]), (1, .var [.arr (.int .i64) 6 r1.1]), (2, .var [.cell (.v (.slice (.int .u8)) x0), .cell (.int .i64 r1.2.1), .cell (.int .u64 r1.2.2)])] ?_ (fun k96 => ?_)
  · refine ap_all [0, 3, 5, 10] (by kernel_rfl) ⟨?_, ?_, ?_, ?_, trivial⟩
    · refine apo_ao rfl ?_
      refine ao_read trivial (r_load_arr rfl Try.isAgg47 Try.sizeOf47 rfl rfl rfl) rfl ?_
      refine ao_nil ?_
      refine ap_in ?_
      exact ap_go (by kernel_rfl) (sub_mk (rn [(1, 2), (2, 1)]) (by exact ⟨ai rfl, ai rfl, ai rfl, ai rfl, ai rfl, ai rfl, ai rfl, ai rfl, trivial⟩) (by exact ⟨⟨_, rfl, ⟨rfl, trivial⟩⟩, ⟨_, rfl, ⟨ad_ren rfl, rfl, ad_ren rfl, rfl, ad_ren rfl, rfl, trivial⟩⟩, ⟨_, rfl, ⟨rfl, trivial⟩⟩, trivial⟩) (by rfl) (nk rfl)) k39
    · refine apo_ao rfl ?_
      refine ao_read trivial (r_load_elema_int Try.isAgg3 Try.sizeOf3 rfl rfl rfl (show 0 < 6 from by omega)) rfl ?_
      refine ao_nil ?_
      refine ap_in ?_
      exact ap_go (by kernel_rfl) (sub_mk idn (by exact ⟨ai rfl, ai rfl, ai rfl, ai rfl, ai rfl, ai rfl, ai rfl, ai rfl, trivial⟩) (by exact ⟨⟨_, rfl, ⟨rfl, trivial⟩⟩, ⟨_, rfl, ⟨rfl, trivial⟩⟩, ⟨_, rfl, ⟨ad_ren rfl, rfl, ad_ren rfl, rfl, ad_ren rfl, rfl, trivial⟩⟩, trivial⟩) (by rfl) (nk rfl)) k79
    · refine apo_ao rfl ?_
      refine ao_read trivial (r_load_elema_int Try.isAgg3 Try.sizeOf3 rfl rfl rfl (show 5 < 6 from by omega)) rfl ?_
      refine ao_nil ?_
      refine ap_in ?_
      exact ap_go (by kernel_rfl) (sub_mk idn (by exact ⟨ai rfl, ai rfl, ai rfl, ai rfl, ai rfl, ai rfl, ai rfl, ai rfl, trivial⟩) (by exact ⟨⟨_, rfl, ⟨rfl, trivial⟩⟩, ⟨_, rfl, ⟨rfl, trivial⟩⟩, ⟨_, rfl, ⟨ad_ren rfl, rfl, ad_ren rfl, rfl, ad_ren rfl, rfl, trivial⟩⟩, trivial⟩) (by rfl) (nk rfl)) k91
    · refine apo_ao rfl ?_
      refine ao_callV [2] 3 trivial (c_spec_l1Cur_pick (is_mk r2h)) Try.func84 rfl rfl rfl rfl rfl ⟨rfl, trivial⟩ ⟨⟨_, rfl, ⟨ad_ren rfl, rfl, ad_ren rfl, rfl, ad_ren rfl, rfl, trivial⟩⟩, trivial⟩ rfl rfl rfl rfl rfl rfl rfl (fun r' H' hr => ?_)
      obtain ⟨rfl, rfl⟩ := hr
      refine ao_norm (y := .int .i64 r2.1) (H' := [(0, .var [.arr (.int .i64) 6 ((List.replicate 6 0) : (List Int))]), (1, .var [.arr (.int .i64) 6 r1.1]), (2, .var [.cell (.v (.slice (.int .u8)) x0), .cell (.int .i64 r2.2.1), .cell (.int .u64 r2.2.2)])]) rfl rfl ?_
      refine ao_nil ?_
      refine ap_in ?_
      refine ap_pure 11 (by kernel_rfl) (fun _ _ _ h => h) rfl (by kernel_rfl) trivial (rp_quo rfl rfl (by decide)) rfl ?_
      refine ap_pure 12 (by kernel_rfl) (fun _ _ _ h => h) rfl (by kernel_rfl) trivial (rp_add rfl rfl) rfl ?_
      exact ap_go (by kernel_rfl) (sub_mk idn (by exact ⟨ai rfl, ai rfl, ai rfl, ai rfl, ai rfl, ai rfl, ai rfl, ai rfl, trivial⟩) (by exact ⟨⟨_, rfl, ⟨rfl, trivial⟩⟩, ⟨_, rfl, ⟨rfl, trivial⟩⟩, ⟨_, rfl, ⟨ad_ren rfl, rfl, ad_ren rfl, rfl, ad_ren rfl, rfl, trivial⟩⟩, trivial⟩) (by rfl) (nk rfl)) k97
  refine ap_let (g := 11) (listed := #[false, true, true, false, false, false, false, false, false, true, true, true, true, false, false, false, false]) [(2, .ref 0 0), (3, .int .i64 0), (5, .ref 1 0), (12, .ref 2 0), (13, .elem 1 0 1 0), (23, .int .i64 (IntKind.wrap .i64 (3 + (IntKind.wrap .i64 (r2.1.tdiv 6)))))] [(0, .var [.arr (.int .i64) 6 ((List.replicate 6 0) : (List Int))]), (1, .var [.arr (.int .i64) 6 r1.1]), (2, .var [.cell (.v (.slice (.int .u8)) x0), .cell (.int .i64 r2.2.1), .cell (.int .u64 r2.2.2)])] ?_ (fun k104 => ?_)
  · refine ap_all [0, 3, 4, 6] (by kernel_rfl) ⟨?_, ?_, ?_, ?_, trivial⟩
    · refine apo_ao rfl ?_
      refine ao_read trivial (r_load_arr rfl Try.isAgg47 Try.sizeOf47 rfl rfl rfl) rfl ?_
      refine ao_nil ?_
      refine ap_in ?_
      exact ap_go (by kernel_rfl) (sub_mk idn (by exact ⟨ai rfl, ai rfl, ai rfl, ai rfl, ai rfl, ai rfl, ai rfl, trivial⟩) (by exact ⟨⟨_, rfl, ⟨rfl, trivial⟩⟩, ⟨_, rfl, ⟨rfl, trivial⟩⟩, ⟨_, rfl, ⟨ad_ren rfl, rfl, ad_ren rfl, rfl, ad_ren rfl, rfl, trivial⟩⟩, trivial⟩) (by rfl) (nk rfl)) k47
    · refine apo_ao rfl ?_
      refine ao_read trivial (r_load_elema_int Try.isAgg3 Try.sizeOf3 rfl rfl rfl (show 0 < 6 from by omega)) rfl ?_
      refine ao_nil ?_
      refine ap_in ?_
      exact ap_go (by kernel_rfl) (sub_mk idn (by exact ⟨ai rfl, ai rfl, ai rfl, ai rfl, ai rfl, ai rfl, trivial⟩) (by exact ⟨⟨_, rfl, ⟨rfl, trivial⟩⟩, ⟨_, rfl, ⟨rfl, trivial⟩⟩, ⟨_, rfl, ⟨ad_ren rfl, rfl, ad_ren rfl, rfl, ad_ren rfl, rfl, trivial⟩⟩, trivial⟩) (by rfl) (nk rfl)) k87
    · refine apo_ao rfl ?_
      refine ao_read trivial (r_idxAddr_arr (i := 5) Try.underlying47 Try.sizeOf3 rfl rfl (show 0 ≤ 5 from by omega) (show 5 < (6 : Int) from by omega)) rfl ?_
      refine ao_nil ?_
      refine ap_in ?_
      exact ap_go (by kernel_rfl) (sub_mk idn (by exact ⟨ai rfl, ai rfl, ai rfl, ai rfl, ai rfl, ai rfl, ai rfl, trivial⟩) (by exact ⟨⟨_, rfl, ⟨rfl, trivial⟩⟩, ⟨_, rfl, ⟨rfl, trivial⟩⟩, ⟨_, rfl, ⟨ad_ren rfl, rfl, ad_ren rfl, rfl, ad_ren rfl, rfl, trivial⟩⟩, trivial⟩) (by rfl) (nk rfl)) k99
    · refine apo_ao rfl ?_
      refine ao_read trivial (r_idxAddr_arr (i := 2) Try.underlying47 Try.sizeOf3 rfl rfl (show 0 ≤ 2 from by omega) (show 2 < (6 : Int) from by omega)) rfl ?_
      refine ao_nil ?_
      refine ap_in ?_
      exact ap_go (by kernel_rfl) (sub_mk idn (by exact ⟨ai rfl, ai rfl, ai rfl, ai rfl, ai rfl, ai rfl, ai rfl, trivial⟩) (by exact ⟨⟨_, rfl, ⟨rfl, trivial⟩⟩, ⟨_, rfl, ⟨rfl, trivial⟩⟩, ⟨_, rfl, ⟨ad_ren rfl, rfl, ad_ren rfl, rfl, ad_ren rfl, rfl, trivial⟩⟩, trivial⟩) (by rfl) (nk rfl)) k103
  refine ap_let (g := 11) (listed := #[false, true, false, false, true, true, true, true, false, true, false, false, false, false, false, false, false]) [(2, .ref 0 0), (3, .int .i64 0), (5, .ref 1 0), (12, .ref 2 0), (16, .int .i64 (r1.1.getD 5 0)), (18, .int .i64 (r1.1.getD 2 0)), (20, .ref 2 0)] [(0, .var [.arr (.int .i64) 6 ((List.replicate 6 0) : (List Int))]), (1, .var [.arr (.int .i64) 6 r1.1]), (2, .var [.cell (.v (.slice (.int .u8)) x0), .cell (.int .i64 r1.2.1), .cell (.int .u64 r1.2.2)])] ?_ (fun k108 => ?_)
  · refine ap_all [0, 2, 10] (by kernel_rfl) ⟨?_, ?_, ?_, trivial⟩
    · refine apo_ao rfl ?_
      refine ao_read trivial (r_load_arr rfl Try.isAgg47 Try.sizeOf47 rfl rfl rfl) rfl ?_
      refine ao_nil ?_
      refine ap_in ?_
      exact ap_go (by kernel_rfl) (sub_mk idn (by exact ⟨ai rfl, ai rfl, ai rfl, ai rfl, ai rfl, ai rfl, ai rfl, ai rfl, trivial⟩) (by exact ⟨⟨_, rfl, ⟨rfl, trivial⟩⟩, ⟨_, rfl, ⟨rfl, trivial⟩⟩, ⟨_, rfl, ⟨ad_ren rfl, rfl, ad_ren rfl, rfl, ad_ren rfl, rfl, trivial⟩⟩, trivial⟩) (by rfl) (nk rfl)) k51
    · refine apo_ao rfl ?_
      refine ao_read trivial (r_idxAddr_arr (i := 0) Try.underlying47 Try.sizeOf3 rfl rfl (show 0 ≤ 0 from by omega) (show 0 < (6 : Int) from by omega)) rfl ?_
      refine ao_nil ?_
      refine ap_in ?_
      exact ap_go (by kernel_rfl) (sub_mk idn (by exact ⟨ai rfl, ai rfl, ai rfl, ai rfl, ai rfl, ai rfl, ai rfl, ai rfl, trivial⟩) (by exact ⟨⟨_, rfl, ⟨rfl, trivial⟩⟩, ⟨_, rfl, ⟨rfl, trivial⟩⟩, ⟨_, rfl, ⟨ad_ren rfl, rfl, ad_ren rfl, rfl, ad_ren rfl, rfl, trivial⟩⟩, trivial⟩) (by rfl) (nk rfl)) k91
    · refine apo_ao rfl ?_
      refine ao_callV [2] 3 trivial (c_spec_l1Cur_pick (is_mk r2h)) Try.func84 rfl rfl rfl rfl rfl ⟨rfl, trivial⟩ ⟨⟨_, rfl, ⟨ad_ren rfl, rfl, ad_ren rfl, rfl, ad_ren rfl, rfl, trivial⟩⟩, trivial⟩ rfl rfl rfl rfl rfl rfl rfl (fun r' H' hr => ?_)
      obtain ⟨rfl, rfl⟩ := hr
      refine ao_norm (y := .int .i64 r2.1) (H' := [(0, .var [.arr (.int .i64) 6 ((List.replicate 6 0) : (List Int))]), (1, .var [.arr (.int .i64) 6 r1.1]), (2, .var [.cell (.v (.slice (.int .u8)) x0), .cell (.int .i64 r2.2.1), .cell (.int .u64 r2.2.2)])]) rfl rfl ?_
      refine ao_nil ?_
      refine ap_in ?_
      refine ap_pure 11 (by kernel_rfl) (fun _ _ _ h => h) rfl (by kernel_rfl) trivial (rp_quo rfl rfl (by decide)) rfl ?_
      refine ap_pure 12 (by kernel_rfl) (fun _ _ _ h => h) rfl (by kernel_rfl) trivial (rp_add rfl rfl) rfl ?_
      exact ap_go (by kernel_rfl) (sub_mk idn (by exact ⟨ai rfl, ai rfl, ai rfl, ai rfl, ai rfl, ai rfl, ai rfl, trivial⟩) (by exact ⟨⟨_, rfl, ⟨rfl, trivial⟩⟩, ⟨_, rfl, ⟨rfl, trivial⟩⟩, ⟨_, rfl, ⟨ad_ren rfl, rfl, ad_ren rfl, rfl, ad_ren rfl, rfl, trivial⟩⟩, trivial⟩) (by rfl) (nk rfl)) k109
  refine ap_let (g := 11) (listed := #[false, true, false, false, true, false, false, false, false, true, true, true, true, false, false, false, false]) [(2, .ref 0 0), (3, .int .i64 0), (5, .ref 1 0), (12, .ref 2 0), (15, .elem 1 0 1 5), (23, .int .i64 (IntKind.wrap .i64 (3 + (IntKind.wrap .i64 (r2.1.tdiv 6)))))] [(0, .var [.arr (.int .i64) 6 ((List.replicate 6 0) : (List Int))]), (1, .var [.arr (.int .i64) 6 r1.1]), (2, .var [.cell (.v (.slice (.int .u8)) x0), .cell (.int .i64 r2.2.1), .cell (.int .u64 r2.2.2)])] ?_ (fun k116 => ?_)
  · refine ap_all [0, 2, 5, 6] (by kernel_rfl) ⟨?_, ?_, ?_, ?_, trivial⟩
    · refine apo_ao rfl ?_
      refine ao_read trivial (r_load_arr rfl Try.isAgg47 Try.sizeOf47 rfl rfl rfl) rfl ?_
      refine ao_nil ?_
      refine ap_in ?_
      exact ap_go (by kernel_rfl) (sub_mk idn (by exact ⟨ai rfl, ai rfl, ai rfl, ai rfl, ai rfl, ai rfl, ai rfl, trivial⟩) (by exact ⟨⟨_, rfl, ⟨rfl, trivial⟩⟩, ⟨_, rfl, ⟨rfl, trivial⟩⟩, ⟨_, rfl, ⟨ad_ren rfl, rfl, ad_ren rfl, rfl, ad_ren rfl, rfl, trivial⟩⟩, trivial⟩) (by rfl) (nk rfl)) k59
    · refine apo_ao rfl ?_
      refine ao_read trivial (r_idxAddr_arr (i := 0) Try.underlying47 Try.sizeOf3 rfl rfl (show 0 ≤ 0 from by omega) (show 0 < (6 : Int) from by omega)) rfl ?_
      refine ao_nil ?_
      refine ap_in ?_
      exact ap_go (by kernel_rfl) (sub_mk idn (by exact ⟨ai rfl, ai rfl, ai rfl, ai rfl, ai rfl, ai rfl, ai rfl, trivial⟩) (by exact ⟨⟨_, rfl, ⟨rfl, trivial⟩⟩, ⟨_, rfl, ⟨rfl, trivial⟩⟩, ⟨_, rfl, ⟨ad_ren rfl, rfl, ad_ren rfl, rfl, ad_ren rfl, rfl, trivial⟩⟩, trivial⟩) (by rfl) (nk rfl)) k99
    · refine apo_ao rfl ?_
      refine ao_read trivial (r_load_elema_int Try.isAgg3 Try.sizeOf3 rfl rfl rfl (show 5 < 6 from by omega)) rfl ?_
      refine ao_nil ?_
      refine ap_in ?_
      exact ap_go (by kernel_rfl) (sub_mk idn (by exact ⟨ai rfl, ai rfl, ai rfl, ai rfl, ai rfl, ai rfl, trivial⟩) (by exact ⟨⟨_, rfl, ⟨rfl, trivial⟩⟩, ⟨_, rfl, ⟨rfl, trivial⟩⟩, ⟨_, rfl, ⟨ad_ren rfl, rfl, ad_ren rfl, rfl, ad_ren rfl, rfl, trivial⟩⟩, trivial⟩) (by rfl) (nk rfl)) k111
    · refine apo_ao rfl ?_
      refine ao_read trivial (r_idxAddr_arr (i := 2) Try.underlying47 Try.sizeOf3 rfl rfl (show 0 ≤ 2 from by omega) (show 2 < (6 : Int) from by omega)) rfl ?_
      refine ao_nil ?_
      refine ap_in ?_
      exact ap_go (by kernel_rfl) (sub_mk idn (by exact ⟨ai rfl, ai rfl, ai rfl, ai rfl, ai rfl, ai rfl, ai rfl, trivial⟩) (by exact ⟨⟨_, rfl, ⟨rfl, trivial⟩⟩, ⟨_, rfl, ⟨rfl, trivial⟩⟩, ⟨_, rfl, ⟨ad_ren rfl, rfl, ad_ren rfl, rfl, ad_ren rfl, rfl, trivial⟩⟩, trivial⟩) (by rfl) (nk rfl)) k115
  refine ap_let (g := 11) (listed := #[false, true, false, false, false, false, true, false, false, true, true, true, true, false, false, false, false]) [(2, .ref 0 0), (3, .int .i64 0), (5, .ref 1 0), (12, .ref 2 0), (17, .elem 1 0 1 2), (23, .int .i64 (IntKind.wrap .i64 (3 + (IntKind.wrap .i64 (r2.1.tdiv 6)))))] [(0, .var [.arr (.int .i64) 6 ((List.replicate 6 0) : (List Int))]), (1, .var [.arr (.int .i64) 6 r1.1]), (2, .var [.cell (.v (.slice (.int .u8)) x0), .cell (.int .i64 r2.2.1), .cell (.int .u64 r2.2.2)])] ?_ (fun k120 => ?_)
  · refine ap_all [0, 2, 4, 7] (by kernel_rfl) ⟨?_, ?_, ?_, ?_, trivial⟩
    · refine apo_ao rfl ?_
      refine ao_read trivial (r_load_arr rfl Try.isAgg47 Try.sizeOf47 rfl rfl rfl) rfl ?_
      refine ao_nil ?_
      refine ap_in ?_
      exact ap_go (by kernel_rfl) (sub_mk idn (by exact ⟨ai rfl, ai rfl, ai rfl, ai rfl, ai rfl, ai rfl, ai rfl, trivial⟩) (by exact ⟨⟨_, rfl, ⟨rfl, trivial⟩⟩, ⟨_, rfl, ⟨rfl, trivial⟩⟩, ⟨_, rfl, ⟨ad_ren rfl, rfl, ad_ren rfl, rfl, ad_ren rfl, rfl, trivial⟩⟩, trivial⟩) (by rfl) (nk rfl)) k63
    · refine apo_ao rfl ?_
      refine ao_read trivial (r_idxAddr_arr (i := 0) Try.underlying47 Try.sizeOf3 rfl rfl (show 0 ≤ 0 from by omega) (show 0 < (6 : Int) from by omega)) rfl ?_
      refine ao_nil ?_
      refine ap_in ?_
      exact ap_go (by kernel_rfl) (sub_mk idn (by exact ⟨ai rfl, ai rfl, ai rfl, ai rfl, ai rfl, ai rfl, ai rfl, trivial⟩) (by exact ⟨⟨_, rfl, ⟨rfl, trivial⟩⟩, ⟨_, rfl, ⟨rfl, trivial⟩⟩, ⟨_, rfl, ⟨ad_ren rfl, rfl, ad_ren rfl, rfl, ad_ren rfl, rfl, trivial⟩⟩, trivial⟩) (by rfl) (nk rfl)) k103
    · refine apo_ao rfl ?_
      refine ao_read trivial (r_idxAddr_arr (i := 5) Try.underlying47 Try.sizeOf3 rfl rfl (show 0 ≤ 5 from by omega) (show 5 < (6 : Int) from by omega)) rfl ?_
      refine ao_nil ?_
      refine ap_in ?_
      exact ap_go (by kernel_rfl) (sub_mk idn (by exact ⟨ai rfl, ai rfl, ai rfl, ai rfl, ai rfl, ai rfl, ai rfl, trivial⟩) (by exact ⟨⟨_, rfl, ⟨rfl, trivial⟩⟩, ⟨_, rfl, ⟨rfl, trivial⟩⟩, ⟨_, rfl, ⟨ad_ren rfl, rfl, ad_ren rfl, rfl, ad_ren rfl, rfl, trivial⟩⟩, trivial⟩) (by rfl) (nk rfl)) k115
    · refine apo_ao rfl ?_
      refine ao_read trivial (r_load_elema_int Try.isAgg3 Try.sizeOf3 rfl rfl rfl (show 2 < 6 from by omega)) rfl ?_
      refine ao_nil ?_
      refine ap_in ?_
      exact ap_go (by kernel_rfl) (sub_mk idn (by exact ⟨ai rfl, ai rfl, ai rfl, ai rfl, ai rfl, ai rfl, trivial⟩) (by exact ⟨⟨_, rfl, ⟨rfl, trivial⟩⟩, ⟨_, rfl, ⟨rfl, trivial⟩⟩, ⟨_, rfl, ⟨ad_ren rfl, rfl, ad_ren rfl, rfl, ad_ren rfl, rfl, trivial⟩⟩, trivial⟩) (by rfl) (nk rfl)) k119
  refine ap_let (g := 12) (listed := #[true, true, true, true, false, false, false, false, false, true, false, false, false, false, false, false, false]) [(2, .ref 0 0), (3, .int .i64 0), (5, .ref 1 0), (11, .v (.arr 6 (.int .i64)) r1.1), (12, .ref 2 0), (14, .int .i64 (r1.1.getD 0 0)), (20, .ref 2 0)] [(0, .var [.arr (.int .i64) 6 ((List.replicate 6 0) : (List Int))]), (1, .var [.arr (.int .i64) 6 r1.1]), (2, .var [.cell (.v (.slice (.int .u8)) x0), .cell (.int .i64 r1.2.1), .cell (.int .u64 r1.2.2)])] ?_ (fun k9 => ?_)
  · refine ap_all [4, 6, 10] (by kernel_rfl) ⟨?_, ?_, ?_, trivial⟩
    · refine apo_ao rfl ?_
      refine ao_read trivial (r_idxAddr_arr (i := 5) Try.underlying47 Try.sizeOf3 rfl rfl (show 0 ≤ 5 from by omega) (show 5 < (6 : Int) from by omega)) rfl ?_
      refine ao_nil ?_
      refine ap_in ?_
      exact ap_go (by kernel_rfl) (sub_mk idn (by exact ⟨ai rfl, ai rfl, ai rfl, ai rfl, ai rfl, ai rfl, ai rfl, ai rfl, trivial⟩) (by exact ⟨⟨_, rfl, ⟨rfl, trivial⟩⟩, ⟨_, rfl, ⟨rfl, trivial⟩⟩, ⟨_, rfl, ⟨ad_ren rfl, rfl, ad_ren rfl, rfl, ad_ren rfl, rfl, trivial⟩⟩, trivial⟩) (by rfl) (nk rfl)) k10
    · refine apo_ao rfl ?_
      refine ao_read trivial (r_idxAddr_arr (i := 2) Try.underlying47 Try.sizeOf3 rfl rfl (show 0 ≤ 2 from by omega) (show 2 < (6 : Int) from by omega)) rfl ?_
      refine ao_nil ?_
      refine ap_in ?_
      exact ap_go (by kernel_rfl) (sub_mk idn (by exact ⟨ai rfl, ai rfl, ai rfl, ai rfl, ai rfl, ai rfl, ai rfl, ai rfl, trivial⟩) (by exact ⟨⟨_, rfl, ⟨rfl, trivial⟩⟩, ⟨_, rfl, ⟨rfl, trivial⟩⟩, ⟨_, rfl, ⟨ad_ren rfl, rfl, ad_ren rfl, rfl, ad_ren rfl, rfl, trivial⟩⟩, trivial⟩) (by rfl) (nk rfl)) k26
    · refine apo_ao rfl ?_
      refine ao_callV [2] 3 trivial (c_spec_l1Cur_pick (is_mk r2h)) Try.func84 rfl rfl rfl rfl rfl ⟨rfl, trivial⟩ ⟨⟨_, rfl, ⟨ad_ren rfl, rfl, ad_ren rfl, rfl, ad_ren rfl, rfl, trivial⟩⟩, trivial⟩ rfl rfl rfl rfl rfl rfl rfl (fun r' H' hr => ?_)
      obtain ⟨rfl, rfl⟩ := hr
      refine ao_norm (y := .int .i64 r2.1) (H' := [(0, .var [.arr (.int .i64) 6 ((List.replicate 6 0) : (List Int))]), (1, .var [.arr (.int .i64) 6 r1.1]), (2, .var [.cell (.v (.slice (.int .u8)) x0), .cell (.int .i64 r2.2.1), .cell (.int .u64 r2.2.2)])]) rfl rfl ?_
      refine ao_nil ?_
      refine ap_in ?_
      refine ap_pure 11 (by kernel_rfl) (fun _ _ _ h => h) rfl (by kernel_rfl) trivial (rp_quo rfl rfl (by decide)) rfl ?_
      refine ap_pure 12 (by kernel_rfl) (fun _ _ _ h => h) rfl (by kernel_rfl) trivial (rp_add rfl rfl) rfl ?_
      exact ap_go (by kernel_rfl) (sub_mk idn (by exact ⟨ai rfl, ai rfl, ai rfl, ai rfl, ai rfl, ai rfl, ai rfl, trivial⟩) (by exact ⟨⟨_, rfl, ⟨rfl, trivial⟩⟩, ⟨_, rfl, ⟨rfl, trivial⟩⟩, ⟨_, rfl, ⟨ad_ren rfl, rfl, ad_ren rfl, rfl, ad_ren rfl, rfl, trivial⟩⟩, trivial⟩) (by rfl) (nk rfl)) k30
  refine ap_let (g := 12) (listed := #[true, true, true, false, true, false, false, false, false, true, false, false, false, false, false, false, false]) [(2, .ref 0 0), (3, .int .i64 0), (5, .ref 1 0), (11, .v (.arr 6 (.int .i64)) r1.1), (12, .ref 2 0), (13, .elem 1 0 1 0), (15, .elem 1 0 1 5), (20, .ref 2 0)] [(0, .var [.arr (.int .i64) 6 ((List.replicate 6 0) : (List Int))]), (1, .var [.arr (.int .i64) 6 r1.1]), (2, .var [.cell (.v (.slice (.int .u8)) x0), .cell (.int .i64 r1.2.1), .cell (.int .u64 r1.2.2)])] ?_ (fun k31 => ?_)
  · refine ap_all [3, 5, 6, 10] (by kernel_rfl) ⟨?_, ?_, ?_, ?_, trivial⟩
    · refine apo_ao rfl ?_
      refine ao_read trivial (r_load_elema_int Try.isAgg3 Try.sizeOf3 rfl rfl rfl (show 0 < 6 from by omega)) rfl ?_
      refine ao_nil ?_
      refine ap_in ?_
      exact ap_go (by kernel_rfl) (sub_mk idn (by exact ⟨ai rfl, ai rfl, ai rfl, ai rfl, ai rfl, ai rfl, ai rfl, ai rfl, trivial⟩) (by exact ⟨⟨_, rfl, ⟨rfl, trivial⟩⟩, ⟨_, rfl, ⟨rfl, trivial⟩⟩, ⟨_, rfl, ⟨ad_ren rfl, rfl, ad_ren rfl, rfl, ad_ren rfl, rfl, trivial⟩⟩, trivial⟩) (by rfl) (nk rfl)) k10
    · refine apo_ao rfl ?_
      refine ao_read trivial (r_load_elema_int Try.isAgg3 Try.sizeOf3 rfl rfl rfl (show 5 < 6 from by omega)) rfl ?_
      refine ao_nil ?_
      refine ap_in ?_
      exact ap_go (by kernel_rfl) (sub_mk idn (by exact ⟨ai rfl, ai rfl, ai rfl, ai rfl, ai rfl, ai rfl, ai rfl, ai rfl, trivial⟩) (by exact ⟨⟨_, rfl, ⟨rfl, trivial⟩⟩, ⟨_, rfl, ⟨rfl, trivial⟩⟩, ⟨_, rfl, ⟨ad_ren rfl, rfl, ad_ren rfl, rfl, ad_ren rfl, rfl, trivial⟩⟩, trivial⟩) (by rfl) (nk rfl)) k32
    · refine apo_ao rfl ?_
      refine ao_read trivial (r_idxAddr_arr (i := 2) Try.underlying47 Try.sizeOf3 rfl rfl (show 0 ≤ 2 from by omega) (show 2 < (6 : Int) from by omega)) rfl ?_
      refine ao_nil ?_
      refine ap_in ?_
      exact ap_go (by kernel_rfl) (sub_mk (rn [(1, 2), (2, 1)]) (by exact ⟨ai rfl, ai rfl, ai rfl, ai rfl, ai rfl, ai rfl, ai rfl, ai rfl, trivial⟩) (by exact ⟨⟨_, rfl, ⟨rfl, trivial⟩⟩, ⟨_, rfl, ⟨ad_ren rfl, rfl, ad_ren rfl, rfl, ad_ren rfl, rfl, trivial⟩⟩, ⟨_, rfl, ⟨rfl, trivial⟩⟩, trivial⟩) (by rfl) (nk rfl)) k38
    · refine apo_ao rfl ?_
      refine ao_callV [2] 3 trivial (c_spec_l1Cur_pick (is_mk r2h)) Try.func84 rfl rfl rfl rfl rfl ⟨rfl, trivial⟩ ⟨⟨_, rfl, ⟨ad_ren rfl, rfl, ad_ren rfl, rfl, ad_ren rfl, rfl, trivial⟩⟩, trivial⟩ rfl rfl rfl rfl rfl rfl rfl (fun r' H' hr => ?_)
      obtain ⟨rfl, rfl⟩ := hr
      refine ao_norm (y := .int .i64 r2.1) (H' := [(0, .var [.arr (.int .i64) 6 ((List.replicate 6 0) : (List Int))]), (1, .var [.arr (.int .i64) 6 r1.1]), (2, .var [.cell (.v (.slice (.int .u8)) x0), .cell (.int .i64 r2.2.1), .cell (.int .u64 r2.2.2)])]) rfl rfl ?_
      refine ao_nil ?_
      refine ap_in ?_
      refine ap_pure 11 (by kernel_rfl) (fun _ _ _ h => h) rfl (by kernel_rfl) trivial (rp_quo rfl rfl (by decide)) rfl ?_
      refine ap_pure 12 (by kernel_rfl) (fun _ _ _ h => h) rfl (by kernel_rfl) trivial (rp_add rfl rfl) rfl ?_
      exact ap_go (by kernel_rfl) (sub_mk idn (by exact ⟨ai rfl, ai rfl, ai rfl, ai rfl, ai rfl, ai rfl, ai rfl, ai rfl, trivial⟩) (by exact ⟨⟨_, rfl, ⟨rfl, trivial⟩⟩, ⟨_, rfl, ⟨rfl, trivial⟩⟩, ⟨_, rfl, ⟨ad_ren rfl, rfl, ad_ren rfl, rfl, ad_ren rfl, rfl, trivial⟩⟩, trivial⟩) (by rfl) (nk rfl)) k42
  refine ap_let (g := 12) (listed := #[true, true, true, false, false, false, true, false, false, true, false, false, false, false, false, false, false]) [(2, .ref 0 0), (3, .int .i64 0), (5, .ref 1 0), (11, .v (.arr 6 (.int .i64)) r1.1), (12, .ref 2 0), (13, .elem 1 0 1 0), (17, .elem 1 0 1 2), (20, .ref 2 0)] [(0, .var [.arr (.int .i64) 6 ((List.replicate 6 0) : (List Int))]), (1, .var [.arr (.int .i64) 6 r1.1]), (2, .var [.cell (.v (.slice (.int .u8)) x0), .cell (.int .i64 r1.2.1), .cell (.int .u64 r1.2.2)])] ?_ (fun k43 => ?_)
  · refine ap_all [3, 4, 7, 10] (by kernel_rfl) ⟨?_, ?_, ?_, ?_, trivial⟩
    · refine apo_ao rfl ?_
      refine ao_read trivial (r_load_elema_int Try.isAgg3 Try.sizeOf3 rfl rfl rfl (show 0 < 6 from by omega)) rfl ?_
      refine ao_nil ?_
      refine ap_in ?_
      exact ap_go (by kernel_rfl) (sub_mk idn (by exact ⟨ai rfl, ai rfl, ai rfl, ai rfl, ai rfl, ai rfl, ai rfl, ai rfl, trivial⟩) (by exact ⟨⟨_, rfl, ⟨rfl, trivial⟩⟩, ⟨_, rfl, ⟨rfl, trivial⟩⟩, ⟨_, rfl, ⟨ad_ren rfl, rfl, ad_ren rfl, rfl, ad_ren rfl, rfl, trivial⟩⟩, trivial⟩) (by rfl) (nk rfl)) k26
    · refine apo_ao rfl ?_
      refine ao_read trivial (r_idxAddr_arr (i := 5) Try.underlying47 Try.sizeOf3 rfl rfl (show 0 ≤ 5 from by omega) (show 5 < (6 : Int) from by omega)) rfl ?_
      refine ao_nil ?_
      refine ap_in ?_
      exact ap_go (by kernel_rfl) (sub_mk (rn [(1, 2), (2, 1)]) (by exact ⟨ai rfl, ai rfl, ai rfl, ai rfl, ai rfl, ai rfl, ai rfl, ai rfl, trivial⟩) (by exact ⟨⟨_, rfl, ⟨rfl, trivial⟩⟩, ⟨_, rfl, ⟨ad_ren rfl, rfl, ad_ren rfl, rfl, ad_ren rfl, rfl, trivial⟩⟩, ⟨_, rfl, ⟨rfl, trivial⟩⟩, trivial⟩) (by rfl) (nk rfl)) k38
    · refine apo_ao rfl ?_
      refine ao_read trivial (r_load_elema_int Try.isAgg3 Try.sizeOf3 rfl rfl rfl (show 2 < 6 from by omega)) rfl ?_
      refine ao_nil ?_
      refine ap_in ?_
      exact ap_go (by kernel_rfl) (sub_mk idn (by exact ⟨ai rfl, ai rfl, ai rfl, ai rfl, ai rfl, ai rfl, ai rfl, ai rfl, trivial⟩) (by exact ⟨⟨_, rfl, ⟨rfl, trivial⟩⟩, ⟨_, rfl, ⟨rfl, trivial⟩⟩, ⟨_, rfl, ⟨ad_ren rfl, rfl, ad_ren rfl, rfl, ad_ren rfl, rfl, trivial⟩⟩, trivial⟩) (by rfl) (nk rfl)) k44
    · refine apo_ao rfl ?_
      refine ao_callV [2] 3 trivial (c_spec_l1Cur_pick (is_mk r2h)) Try.func84 rfl rfl rfl rfl rfl ⟨rfl, trivial⟩ ⟨⟨_, rfl, ⟨ad_ren rfl, rfl, ad_ren rfl, rfl, ad_ren rfl, rfl, trivial⟩⟩, trivial⟩ rfl rfl rfl rfl rfl rfl rfl (fun r' H' hr => ?_)
      obtain ⟨rfl, rfl⟩ := hr
      refine ao_norm (y := .int .i64 r2.1) (H' := [(0, .var [.arr (.int .i64) 6 ((List.replicate 6 0) : (List Int))]), (1, .var [.arr (.int .i64) 6 r1.1]), (2, .var [.cell (.v (.slice (.int .u8)) x0), .cell (.int .i64 r2.2.1), .cell (.int .u64 r2.2.2)])]) rfl rfl ?_
      refine ao_nil ?_
      refine ap_in ?_
      refine ap_pure 11 (by kernel_rfl) (fun _ _ _ h => h) rfl (by kernel_rfl) trivial (rp_quo rfl rfl (by decide)) rfl ?_
      refine ap_pure 12 (by kernel_rfl) (fun _ _ _ h => h) rfl (by kernel_rfl) trivial (rp_add rfl rfl) rfl ?_
      exact ap_go (by kernel_rfl) (sub_mk idn (by exact ⟨ai rfl, ai rfl, ai rfl, ai rfl, ai rfl, ai rfl, ai rfl, ai rfl, trivial⟩) (by exact ⟨⟨_, rfl, ⟨rfl, trivial⟩⟩, ⟨_, rfl, ⟨rfl, trivial⟩⟩, ⟨_, rfl, ⟨ad_ren rfl, rfl, ad_ren rfl, rfl, ad_ren rfl, rfl, trivial⟩⟩, trivial⟩) (by rfl) (nk rfl)) k46
  refine ap_let (g := 12) (listed := #[true, true, false, false, true, true, false, false, false, true, false, false, false, false, false, false, false]) [(2, .ref 0 0), (3, .int .i64 0), (5, .ref 1 0), (11, .v (.arr 6 (.int .i64)) r1.1), (12, .ref 2 0), (16, .int .i64 (r1.1.getD 5 0)), (20, .ref 2 0)] [(0, .var [.arr (.int .i64) 6 ((List.replicate 6 0) : (List Int))]), (1, .var [.arr (.int .i64) 6 r1.1]), (2, .var [.cell (.v (.slice (.int .u8)) x0), .cell (.int .i64 r1.2.1), .cell (.int .u64 r1.2.2)])] ?_ (fun k49 => ?_)
  · refine ap_all [2, 6, 10] (by kernel_rfl) ⟨?_, ?_, ?_, trivial⟩
    · refine apo_ao rfl ?_
      refine ao_read trivial (r_idxAddr_arr (i := 0) Try.underlying47 Try.sizeOf3 rfl rfl (show 0 ≤ 0 from by omega) (show 0 < (6 : Int) from by omega)) rfl ?_
      refine ao_nil ?_
      refine ap_in ?_
      exact ap_go (by kernel_rfl) (sub_mk idn (by exact ⟨ai rfl, ai rfl, ai rfl, ai rfl, ai rfl, ai rfl, ai rfl, ai rfl, trivial⟩) (by exact ⟨⟨_, rfl, ⟨rfl, trivial⟩⟩, ⟨_, rfl, ⟨rfl, trivial⟩⟩, ⟨_, rfl, ⟨ad_ren rfl, rfl, ad_ren rfl, rfl, ad_ren rfl, rfl, trivial⟩⟩, trivial⟩) (by rfl) (nk rfl)) k32
    · refine apo_ao rfl ?_
      refine ao_read trivial (r_idxAddr_arr (i := 2) Try.underlying47 Try.sizeOf3 rfl rfl (show 0 ≤ 2 from by omega) (show 2 < (6 : Int) from by omega)) rfl ?_
      refine ao_nil ?_
      refine ap_in ?_
      exact ap_go (by kernel_rfl) (sub_mk idn (by exact ⟨ai rfl, ai rfl, ai rfl, ai rfl, ai rfl, ai rfl, ai rfl, ai rfl, trivial⟩) (by exact ⟨⟨_, rfl, ⟨rfl, trivial⟩⟩, ⟨_, rfl, ⟨rfl, trivial⟩⟩, ⟨_, rfl, ⟨ad_ren rfl, rfl, ad_ren rfl, rfl, ad_ren rfl, rfl, trivial⟩⟩, trivial⟩) (by rfl) (nk rfl)) k50
    · refine apo_ao rfl ?_
      refine ao_callV [2] 3 trivial (c_spec_l1Cur_pick (is_mk r2h)) Try.func84 rfl rfl rfl rfl rfl ⟨rfl, trivial⟩ ⟨⟨_, rfl, ⟨ad_ren rfl, rfl, ad_ren rfl, rfl, ad_ren rfl, rfl, trivial⟩⟩, trivial⟩ rfl rfl rfl rfl rfl rfl rfl (fun r' H' hr => ?_)
      obtain ⟨rfl, rfl⟩ := hr
      refine ao_norm (y := .int .i64 r2.1) (H' := [(0, .var [.arr (.int .i64) 6 ((List.replicate 6 0) : (List Int))]), (1, .var [.arr (.int .i64) 6 r1.1]), (2, .var [.cell (.v (.slice (.int .u8)) x0), .cell (.int .i64 r2.2.1), .cell (.int .u64 r2.2.2)])]) rfl rfl ?_
      refine ao_nil ?_
      refine ap_in ?_
      refine ap_pure 11 (by kernel_rfl) (fun _ _ _ h => h) rfl (by kernel_rfl) trivial (rp_quo rfl rfl (by decide)) rfl ?_
      refine ap_pure 12 (by kernel_rfl) (fun _ _ _ h => h) rfl (by kernel_rfl) trivial (rp_add rfl rfl) rfl ?_
      exact ap_go (by kernel_rfl) (sub_mk idn (by exact ⟨ai rfl, ai rfl, ai rfl, ai rfl, ai rfl, ai rfl, ai rfl, trivial⟩) (by exact ⟨⟨_, rfl, ⟨rfl, trivial⟩⟩, ⟨_, rfl, ⟨rfl, trivial⟩⟩, ⟨_, rfl, ⟨ad_ren rfl, rfl, ad_ren rfl, rfl, ad_ren rfl, rfl, trivial⟩⟩, trivial⟩) (by rfl) (nk rfl)) k54
  refine ap_let (g := 12) (listed := #[true, true, false, false, true, false, true, false, false, true, false, false, false, false, false, false, false]) [(2, .ref 0 0), (3, .int .i64 0), (5, .ref 1 0), (11, .v (.arr 6 (.int .i64)) r1.1), (12, .ref 2 0), (15, .elem 1 0 1 5), (17, .elem 1 0 1 2), (20, .ref 2 0)] [(0, .var [.arr (.int .i64) 6 ((List.replicate 6 0) : (List Int))]), (1, .var [.arr (.int .i64) 6 r1.1]), (2, .var [.cell (.v (.slice (.int .u8)) x0), .cell (.int .i64 r1.2.1), .cell (.int .u64 r1.2.2)])] ?_ (fun k55 => ?_)
  · refine ap_all [2, 5, 7, 10] (by kernel_rfl) ⟨?_, ?_, ?_, ?_, trivial⟩
    · refine apo_ao rfl ?_
      refine ao_read trivial (r_idxAddr_arr (i := 0) Try.underlying47 Try.sizeOf3 rfl rfl (show 0 ≤ 0 from by omega) (show 0 < (6 : Int) from by omega)) rfl ?_
      refine ao_nil ?_
      refine ap_in ?_
      exact ap_go (by kernel_rfl) (sub_mk (rn [(1, 2), (2, 1)]) (by exact ⟨ai rfl, ai rfl, ai rfl, ai rfl, ai rfl, ai rfl, ai rfl, ai rfl, trivial⟩) (by exact ⟨⟨_, rfl, ⟨rfl, trivial⟩⟩, ⟨_, rfl, ⟨ad_ren rfl, rfl, ad_ren rfl, rfl, ad_ren rfl, rfl, trivial⟩⟩, ⟨_, rfl, ⟨rfl, trivial⟩⟩, trivial⟩) (by rfl) (nk rfl)) k38
    · refine apo_ao rfl ?_
      refine ao_read trivial (r_load_elema_int Try.isAgg3 Try.sizeOf3 rfl rfl rfl (show 5 < 6 from by omega)) rfl ?_
      refine ao_nil ?_
      refine ap_in ?_
      exact ap_go (by kernel_rfl) (sub_mk idn (by exact ⟨ai rfl, ai rfl, ai rfl, ai rfl, ai rfl, ai rfl, ai rfl, ai rfl, trivial⟩) (by exact ⟨⟨_, rfl, ⟨rfl, trivial⟩⟩, ⟨_, rfl, ⟨rfl, trivial⟩⟩, ⟨_, rfl, ⟨ad_ren rfl, rfl, ad_ren rfl, rfl, ad_ren rfl, rfl, trivial⟩⟩, trivial⟩) (by rfl) (nk rfl)) k50
    · refine apo_ao rfl ?_
      refine ao_read trivial (r_load_elema_int Try.isAgg3 Try.sizeOf3 rfl rfl rfl (show 2 < 6 from by omega)) rfl ?_
      refine ao_nil ?_
      refine ap_in ?_
      exact ap_go (by kernel_rfl) (sub_mk idn (by exact ⟨ai rfl, ai rfl, ai rfl, ai rfl, ai rfl, ai rfl, ai rfl, ai rfl, trivial⟩) (by exact ⟨⟨_, rfl, ⟨rfl, trivial⟩⟩, ⟨_, rfl, ⟨rfl, trivial⟩⟩, ⟨_, rfl, ⟨ad_ren rfl, rfl, ad_ren rfl, rfl, ad_ren rfl, rfl, trivial⟩⟩, trivial⟩) (by rfl) (nk rfl)) k56
    · refine apo_ao rfl ?_
      refine ao_callV [2] 3 trivial (c_spec_l1Cur_pick (is_mk r2h)) Try.func84 rfl rfl rfl rfl rfl ⟨rfl, trivial⟩ ⟨⟨_, rfl, ⟨ad_ren rfl, rfl, ad_ren rfl, rfl, ad_ren rfl, rfl, trivial⟩⟩, trivial⟩ rfl rfl rfl rfl rfl rfl rfl (fun r' H' hr => ?_)
      obtain ⟨rfl, rfl⟩ := hr
      refine ao_norm (y := .int .i64 r2.1) (H' := [(0, .var [.arr (.int .i64) 6 ((List.replicate 6 0) : (List Int))]), (1, .var [.arr (.int .i64) 6 r1.1]), (2, .var [.cell (.v (.slice (.int .u8)) x0), .cell (.int .i64 r2.2.1), .cell (.int .u64 r2.2.2)])]) rfl rfl ?_
      refine ao_nil ?_
      refine ap_in ?_
      refine ap_pure 11 (by kernel_rfl) (fun _ _ _ h => h) rfl (by kernel_rfl) trivial (rp_quo rfl rfl (by decide)) rfl ?_
      refine ap_pure 12 (by kernel_rfl) (fun _ _ _ h => h) rfl (by kernel_rfl) trivial (rp_add rfl rfl) rfl ?_
      exact ap_go (by kernel_rfl) (sub_mk idn (by exact ⟨ai rfl, ai rfl, ai rfl, ai rfl, ai rfl, ai rfl, ai rfl, ai rfl, trivial⟩) (by exact ⟨⟨_, rfl, ⟨rfl, trivial⟩⟩, ⟨_, rfl, ⟨rfl, trivial⟩⟩, ⟨_, rfl, ⟨ad_ren rfl, rfl, ad_ren rfl, rfl, ad_ren rfl, rfl, trivial⟩⟩, trivial⟩) (by rfl) (nk rfl)) k58
  refine ap_let (g := 12) (listed := #[true, true, false, false, false, false, true, true, false, true, false, false, false, false, false, false, false]) [(2, .ref 0 0), (3, .int .i64 0), (5, .ref 1 0), (11, .v (.arr 6 (.int .i64)) r1.1), (12, .ref 2 0), (18, .int .i64 (r1.1.getD 2 0)), (20, .ref 2 0)] [(0, .var [.arr (.int .i64) 6 ((List.replicate 6 0) : (List Int))]), (1, .var [.arr (.int .i64) 6 r1.1]), (2, .var [.cell (.v (.slice (.int .u8)) x0), .cell (.int .i64 r1.2.1), .cell (.int .u64 r1.2.2)])] ?_ (fun k61 => ?_)
  · refine ap_all [2, 4, 10] (by kernel_rfl) ⟨?_, ?_, ?_, trivial⟩
    · refine apo_ao rfl ?_
      refine ao_read trivial (r_idxAddr_arr (i := 0) Try.underlying47 Try.sizeOf3 rfl rfl (show 0 ≤ 0 from by omega) (show 0 < (6 : Int) from by omega)) rfl ?_
      refine ao_nil ?_
      refine ap_in ?_
      exact ap_go (by kernel_rfl) (sub_mk idn (by exact ⟨ai rfl, ai rfl, ai rfl, ai rfl, ai rfl, ai rfl, ai rfl, ai rfl, trivial⟩) (by exact ⟨⟨_, rfl, ⟨rfl, trivial⟩⟩, ⟨_, rfl, ⟨rfl, trivial⟩⟩, ⟨_, rfl, ⟨ad_ren rfl, rfl, ad_ren rfl, rfl, ad_ren rfl, rfl, trivial⟩⟩, trivial⟩) (by rfl) (nk rfl)) k44
    · refine apo_ao rfl ?_
      refine ao_read trivial (r_idxAddr_arr (i := 5) Try.underlying47 Try.sizeOf3 rfl rfl (show 0 ≤ 5 from by omega) (show 5 < (6 : Int) from by omega)) rfl ?_
      refine ao_nil ?_
      refine ap_in ?_
      exact ap_go (by kernel_rfl) (sub_mk idn (by exact ⟨ai rfl, ai rfl, ai rfl, ai rfl, ai rfl, ai rfl, ai rfl, ai rfl, trivial⟩) (by exact ⟨⟨_, rfl, ⟨rfl, trivial⟩⟩, ⟨_, rfl, ⟨rfl, trivial⟩⟩, ⟨_, rfl, ⟨ad_ren rfl, rfl, ad_ren rfl, rfl, ad_ren rfl, rfl, trivial⟩⟩, trivial⟩) (by rfl) (nk rfl)) k56
    · refine apo_ao rfl ?_
      refine ao_callV [2] 3 trivial (c_spec_l1Cur_pick (is_mk r2h)) Try.func84 rfl rfl rfl rfl rfl ⟨rfl, trivial⟩ ⟨⟨_, rfl, ⟨ad_ren rfl, rfl, ad_ren rfl, rfl, ad_ren rfl, rfl, trivial⟩⟩, trivial⟩ rfl rfl rfl rfl rfl rfl rfl (fun r' H' hr => ?_)
      obtain ⟨rfl, rfl⟩ := hr
      refine ao_norm (y := .int .i64 r2.1) (H' := [(0, .var [.arr (.int .i64) 6 ((List.replicate 6 0) : (List Int))]), (1, .var [.arr (.int .i64) 6 r1.1]), (2, .var [.cell (.v (.slice (.int .u8)) x0), .cell (.int .i64 r2.2.1), .cell (.int .u64 r2.2.2)])]) rfl rfl ?_
      refine ao_nil ?_
      refine ap_in ?_
      refine ap_pure 11 (by kernel_rfl) (fun _ _ _ h => h) rfl (by kernel_rfl) trivial (rp_quo rfl rfl (by decide)) rfl ?_
      refine ap_pure 12 (by kernel_rfl) (fun _ _ _ h => h) rfl (by kernel_rfl) trivial (rp_add rfl rfl) rfl ?_
      exact ap_go (by kernel_rfl) (sub_mk idn (by exact ⟨ai rfl, ai rfl, ai rfl, ai rfl, ai rfl, ai rfl, ai rfl, trivial⟩) (by exact ⟨⟨_, rfl, ⟨rfl, trivial⟩⟩, ⟨_, rfl, ⟨rfl, trivial⟩⟩, ⟨_, rfl, ⟨ad_ren rfl, rfl, ad_ren rfl, rfl, ad_ren rfl, rfl, trivial⟩⟩, trivial⟩) (by rfl) (nk rfl)) k62
  refine ap_let (g := 12) (listed := #[false, true, true, true, true, false, false, false, false, true, false, false, false, false, false, false, false]) [(2, .ref 0 0), (3, .int .i64 0), (5, .ref 1 0), (12, .ref 2 0), (14, .int .i64 (r1.1.getD 0 0)), (15, .elem 1 0 1 5), (20, .ref 2 0)] [(0, .var [.arr (.int .i64) 6 ((List.replicate 6 0) : (List Int))]), (1, .var [.arr (.int .i64) 6 r1.1]), (2, .var [.cell (.v (.slice (.int .u8)) x0), .cell (.int .i64 r1.2.1), .cell (.int .u64 r1.2.2)])] ?_ (fun k67 => ?_)
  · refine ap_all [0, 5, 6, 10] (by kernel_rfl) ⟨?_, ?_, ?_, ?_, trivial⟩
    · refine apo_ao rfl ?_
      refine ao_read trivial (r_load_arr rfl Try.isAgg47 Try.sizeOf47 rfl rfl rfl) rfl ?_
      refine ao_nil ?_
      refine ap_in ?_
      exact ap_go (by kernel_rfl) (sub_mk idn (by exact ⟨ai rfl, ai rfl, ai rfl, ai rfl, ai rfl, ai rfl, ai rfl, ai rfl, trivial⟩) (by exact ⟨⟨_, rfl, ⟨rfl, trivial⟩⟩, ⟨_, rfl, ⟨rfl, trivial⟩⟩, ⟨_, rfl, ⟨ad_ren rfl, rfl, ad_ren rfl, rfl, ad_ren rfl, rfl, trivial⟩⟩, trivial⟩) (by rfl) (nk rfl)) k10
    · refine apo_ao rfl ?_
      refine ao_read trivial (r_load_elema_int Try.isAgg3 Try.sizeOf3 rfl rfl rfl (show 5 < 6 from by omega)) rfl ?_
      refine ao_nil ?_
      refine ap_in ?_
      exact ap_go (by kernel_rfl) (sub_mk idn (by exact ⟨ai rfl, ai rfl, ai rfl, ai rfl, ai rfl, ai rfl, ai rfl, trivial⟩) (by exact ⟨⟨_, rfl, ⟨rfl, trivial⟩⟩, ⟨_, rfl, ⟨rfl, trivial⟩⟩, ⟨_, rfl, ⟨ad_ren rfl, rfl, ad_ren rfl, rfl, ad_ren rfl, rfl, trivial⟩⟩, trivial⟩) (by rfl) (nk rfl)) k68
    · refine apo_ao rfl ?_
      refine ao_read trivial (r_idxAddr_arr (i := 2) Try.underlying47 Try.sizeOf3 rfl rfl (show 0 ≤ 2 from by omega) (show 2 < (6 : Int) from by omega)) rfl ?_
      refine ao_nil ?_
      refine ap_in ?_
      exact ap_go (by kernel_rfl) (sub_mk idn (by exact ⟨ai rfl, ai rfl, ai rfl, ai rfl, ai rfl, ai rfl, ai rfl, ai rfl, trivial⟩) (by exact ⟨⟨_, rfl, ⟨rfl, trivial⟩⟩, ⟨_, rfl, ⟨rfl, trivial⟩⟩, ⟨_, rfl, ⟨ad_ren rfl, rfl, ad_ren rfl, rfl, ad_ren rfl, rfl, trivial⟩⟩, trivial⟩) (by rfl) (nk rfl)) k78
    · refine apo_ao rfl ?_
      refine ao_callV [2] 3 trivial (c_spec_l1Cur_pick (is_mk r2h)) Try.func84 rfl rfl rfl rfl rfl ⟨rfl, trivial⟩ ⟨⟨_, rfl, ⟨ad_ren rfl, rfl, ad_ren rfl, rfl, ad_ren rfl, rfl, trivial⟩⟩, trivial⟩ rfl rfl rfl rfl rfl rfl rfl (fun r' H' hr => ?_)
      obtain ⟨rfl, rfl⟩ := hr
      refine ao_norm (y := .int .i64 r2.1) (H' := [(0, .var [.arr (.int .i64) 6 ((List.replicate 6 0) : (List Int))]), (1, .var [.arr (.int .i64) 6 r1.1]), (2, .var [.cell (.v (.slice (.int .u8)) x0), .cell (.int .i64 r2.2.1), .cell (.int .u64 r2.2.2)])]) rfl rfl ?_
      refine ao_nil ?_
      refine ap_in ?_
      refine ap_pure 11 (by kernel_rfl) (fun _ _ _ h => h) rfl (by kernel_rfl) trivial (rp_quo rfl rfl (by decide)) rfl ?_
      refine ap_pure 12 (by kernel_rfl) (fun _ _ _ h => h) rfl (by kernel_rfl) trivial (rp_add rfl rfl) rfl ?_
      exact ap_go (by kernel_rfl) (sub_mk idn (by exact ⟨ai rfl, ai rfl, ai rfl, ai rfl, ai rfl, ai rfl, ai rfl, trivial⟩) (by exact ⟨⟨_, rfl, ⟨rfl, trivial⟩⟩, ⟨_, rfl, ⟨rfl, trivial⟩⟩, ⟨_, rfl, ⟨ad_ren rfl, rfl, ad_ren rfl, rfl, ad_ren rfl, rfl, trivial⟩⟩, trivial⟩) (by rfl) (nk rfl)) k82
  refine ap_let (g := 12) (listed := #[false, true, true, true, false, false, true, false, false, true, false, false, false, false, false, false, false]) [(2, .ref 0 0), (3, .int .i64 0), (5, .ref 1 0), (12, .ref 2 0), (14, .int .i64 (r1.1.getD 0 0)), (17, .elem 1 0 1 2), (20, .ref 2 0)] [(0, .var [.arr (.int .i64) 6 ((List.replicate 6 0) : (List Int))]), (1, .var [.arr (.int .i64) 6 r1.1]), (2, .var [.cell (.v (.slice (.int .u8)) x0), .cell (.int .i64 r1.2.1), .cell (.int .u64 r1.2.2)])] ?_ (fun k83 => ?_)
  · refine ap_all [0, 4, 7, 10] (by kernel_rfl) ⟨?_, ?_, ?_, ?_, trivial⟩
    · refine apo_ao rfl ?_
      refine ao_read trivial (r_load_arr rfl Try.isAgg47 Try.sizeOf47 rfl rfl rfl) rfl ?_
      refine ao_nil ?_
      refine ap_in ?_
      exact ap_go (by kernel_rfl) (sub_mk idn (by exact ⟨ai rfl, ai rfl, ai rfl, ai rfl, ai rfl, ai rfl, ai rfl, ai rfl, trivial⟩) (by exact ⟨⟨_, rfl, ⟨rfl, trivial⟩⟩, ⟨_, rfl, ⟨rfl, trivial⟩⟩, ⟨_, rfl, ⟨ad_ren rfl, rfl, ad_ren rfl, rfl, ad_ren rfl, rfl, trivial⟩⟩, trivial⟩) (by rfl) (nk rfl)) k26
    · refine apo_ao rfl ?_
      refine ao_read trivial (r_idxAddr_arr (i := 5) Try.underlying47 Try.sizeOf3 rfl rfl (show 0 ≤ 5 from by omega) (show 5 < (6 : Int) from by omega)) rfl ?_
      refine ao_nil ?_
      refine ap_in ?_
      exact ap_go (by kernel_rfl) (sub_mk idn (by exact ⟨ai rfl, ai rfl, ai rfl, ai rfl, ai rfl, ai rfl, ai rfl, ai rfl, trivial⟩) (by exact ⟨⟨_, rfl, ⟨rfl, trivial⟩⟩, ⟨_, rfl, ⟨rfl, trivial⟩⟩, ⟨_, rfl, ⟨ad_ren rfl, rfl, ad_ren rfl, rfl, ad_ren rfl, rfl, trivial⟩⟩, trivial⟩) (by rfl) (nk rfl)) k78
    · refine apo_ao rfl ?_
      refine ao_read trivial (r_load_elema_int Try.isAgg3 Try.sizeOf3 rfl rfl rfl (show 2 < 6 from by omega)) rfl ?_
      refine ao_nil ?_
      refine ap_in ?_
      exact ap_go (by kernel_rfl) (sub_mk idn (by exact ⟨ai rfl, ai rfl, ai rfl, ai rfl, ai rfl, ai rfl, ai rfl, trivial⟩) (by exact ⟨⟨_, rfl, ⟨rfl, trivial⟩⟩, ⟨_, rfl, ⟨rfl, trivial⟩⟩, ⟨_, rfl, ⟨ad_ren rfl, rfl, ad_ren rfl, rfl, ad_ren rfl, rfl, trivial⟩⟩, trivial⟩) (by rfl) (nk rfl)) k84
    · refine apo_ao rfl ?_
      refine ao_callV [2] 3 trivial (c_spec_l1Cur_pick (is_mk r2h)) Try.func84 rfl rfl rfl rfl rfl ⟨rfl, trivial⟩ ⟨⟨_, rfl, ⟨ad_ren rfl, rfl, ad_ren rfl, rfl, ad_ren rfl, rfl, trivial⟩⟩, trivial⟩ rfl rfl rfl rfl rfl rfl rfl (fun r' H' hr => ?_)
      obtain ⟨rfl, rfl⟩ := hr
      refine ao_norm (y := .int .i64 r2.1) (H' := [(0, .var [.arr (.int .i64) 6 ((List.replicate 6 0) : (List Int))]), (1, .var [.arr (.int .i64) 6 r1.1]), (2, .var [.cell (.v (.slice (.int .u8)) x0), .cell (.int .i64 r2.2.1), .cell (.int .u64 r2.2.2)])]) rfl rfl ?_
      refine ao_nil ?_
      refine ap_in ?_
      refine ap_pure 11 (by kernel_rfl) (fun _ _ _ h => h) rfl (by kernel_rfl) trivial (rp_quo rfl rfl (by decide)) rfl ?_
      refine ap_pure 12 (by kernel_rfl) (fun _ _ _ h => h) rfl (by kernel_rfl) trivial (rp_add rfl rfl) rfl ?_
      exact ap_go (by kernel_rfl) (sub_mk idn (by exact ⟨ai rfl, ai rfl, ai rfl, ai rfl, ai rfl, ai rfl, ai rfl, trivial⟩) (by exact ⟨⟨_, rfl, ⟨rfl, trivial⟩⟩, ⟨_, rfl, ⟨rfl, trivial⟩⟩, ⟨_, rfl, ⟨ad_ren rfl, rfl, ad_ren rfl, rfl, ad_ren rfl, rfl, trivial⟩⟩, trivial⟩) (by rfl) (nk rfl)) k86
  refine ap_let (g := 12) (listed := #[false, true, true, false, true, true, false, false, false, true, false, false, false, false, false, false, false]) [(2, .ref 0 0), (3, .int .i64 0), (5, .ref 1 0), (12, .ref 2 0), (13, .elem 1 0 1 0), (16, .int .i64 (r1.1.getD 5 0)), (20, .ref 2 0)] [(0, .var [.arr (.int .i64) 6 ((List.replicate 6 0) : (List Int))]), (1, .var [.arr (.int .i64) 6 r1.1]), (2, .var [.cell (.v (.slice (.int .u8)) x0), .cell (.int .i64 r1.2.1), .cell (.int .u64 r1.2.2)])] ?_ (fun k89 => ?_)
  · refine ap_all [0, 3, 6, 10] (by kernel_rfl) ⟨?_, ?_, ?_, ?_, trivial⟩
    · refine apo_ao rfl ?_
      refine ao_read trivial (r_load_arr rfl Try.isAgg47 Try.sizeOf47 rfl rfl rfl) rfl ?_
      refine ao_nil ?_
      refine ap_in ?_
      exact ap_go (by kernel_rfl) (sub_mk idn (by exact ⟨ai rfl, ai rfl, ai rfl, ai rfl, ai rfl, ai rfl, ai rfl, ai rfl, trivial⟩) (by exact ⟨⟨_, rfl, ⟨rfl, trivial⟩⟩, ⟨_, rfl, ⟨rfl, trivial⟩⟩, ⟨_, rfl, ⟨ad_ren rfl, rfl, ad_ren rfl, rfl, ad_ren rfl, rfl, trivial⟩⟩, trivial⟩) (by rfl) (nk rfl)) k32
    · refine apo_ao rfl ?_
      refine ao_read trivial (r_load_elema_int Try.isAgg3 Try.sizeOf3 rfl rfl rfl (show 0 < 6 from by omega)) rfl ?_
      refine ao_nil ?_
      refine ap_in ?_
      exact ap_go (by kernel_rfl) (sub_mk idn (by exact ⟨ai rfl, ai rfl, ai rfl, ai rfl, ai rfl, ai rfl, ai rfl, trivial⟩) (by exact ⟨⟨_, rfl, ⟨rfl, trivial⟩⟩, ⟨_, rfl, ⟨rfl, trivial⟩⟩, ⟨_, rfl, ⟨ad_ren rfl, rfl, ad_ren rfl, rfl, ad_ren rfl, rfl, trivial⟩⟩, trivial⟩) (by rfl) (nk rfl)) k68
    · refine apo_ao rfl ?_
      refine ao_read trivial (r_idxAddr_arr (i := 2) Try.underlying47 Try.sizeOf3 rfl rfl (show 0 ≤ 2 from by omega) (show 2 < (6 : Int) from by omega)) rfl ?_
      refine ao_nil ?_
      refine ap_in ?_
      exact ap_go (by kernel_rfl) (sub_mk idn (by exact ⟨ai rfl, ai rfl, ai rfl, ai rfl, ai rfl, ai rfl, ai rfl, ai rfl, trivial⟩) (by exact ⟨⟨_, rfl, ⟨rfl, trivial⟩⟩, ⟨_, rfl, ⟨rfl, trivial⟩⟩, ⟨_, rfl, ⟨ad_ren rfl, rfl, ad_ren rfl, rfl, ad_ren rfl, rfl, trivial⟩⟩, trivial⟩) (by rfl) (nk rfl)) k90
    · refine apo_ao rfl ?_
      refine ao_callV [2] 3 trivial (c_spec_l1Cur_pick (is_mk r2h)) Try.func84 rfl rfl rfl rfl rfl ⟨rfl, trivial⟩ ⟨⟨_, rfl, ⟨ad_ren rfl, rfl, ad_ren rfl, rfl, ad_ren rfl, rfl, trivial⟩⟩, trivial⟩ rfl rfl rfl rfl rfl rfl rfl (fun r' H' hr => ?_)
      obtain ⟨rfl, rfl⟩ := hr
      refine ao_norm (y := .int .i64 r2.1) (H' := [(0, .var [.arr (.int .i64) 6 ((List.replicate 6 0) : (List Int))]), (1, .var [.arr (.int .i64) 6 r1.1]), (2, .var [.cell (.v (.slice (.int .u8)) x0), .cell (.int .i64 r2.2.1), .cell (.int .u64 r2.2.2)])]) rfl rfl ?_
      refine ao_nil ?_
      refine ap_in ?_
      refine ap_pure 11 (by kernel_rfl) (fun _ _ _ h => h) rfl (by kernel_rfl) trivial (rp_quo rfl rfl (by decide)) rfl ?_
      refine ap_pure 12 (by kernel_rfl) (fun _ _ _ h => h) rfl (by kernel_rfl) trivial (rp_add rfl rfl) rfl ?_
      exact ap_go (by kernel_rfl) (sub_mk idn (by exact ⟨ai rfl, ai rfl, ai rfl, ai rfl, ai rfl, ai rfl, ai rfl, trivial⟩) (by exact ⟨⟨_, rfl, ⟨rfl, trivial⟩⟩, ⟨_, rfl, ⟨rfl, trivial⟩⟩, ⟨_, rfl, ⟨ad_ren rfl, rfl, ad_ren rfl, rfl, ad_ren rfl, rfl, trivial⟩⟩, trivial⟩) (by rfl) (nk rfl)) k94
  refine ap_let (g := 12) (listed := #[false, true, true, false, true, false, true, false, false, true, false, false, false, false, false, false, false]) [(2, .ref 0 0), (3, .int .i64 0), (5, .ref 1 0), (12, .ref 2 0), (13, .elem 1 0 1 0), (15, .elem 1 0 1 5), (17, .elem 1 0 1 2), (20, .ref 2 0)] [(0, .var [.arr (.int .i64) 6 ((List.replicate 6 0) : (List Int))]), (1, .var [.arr (.int .i64) 6 r1.1]), (2, .var [.cell (.v (.slice (.int .u8)) x0), .cell (.int .i64 r1.2.1), .cell (.int .u64 r1.2.2)])] ?_ (fun k95 => ?_)
  · refine ap_all [0, 3, 5, 7, 10] (by kernel_rfl) ⟨?_, ?_, ?_, ?_, ?_, trivial⟩
    · refine apo_ao rfl ?_
      refine ao_read trivial (r_load_arr rfl Try.isAgg47 Try.sizeOf47 rfl rfl rfl) rfl ?_
      refine ao_nil ?_
      refine ap_in ?_
      exact ap_go (by kernel_rfl) (sub_mk (rn [(1, 2), (2, 1)]) (by exact ⟨ai rfl, ai rfl, ai rfl, ai rfl, ai rfl, ai rfl, ai rfl, ai rfl, trivial⟩) (by exact ⟨⟨_, rfl, ⟨rfl, trivial⟩⟩, ⟨_, rfl, ⟨ad_ren rfl, rfl, ad_ren rfl, rfl, ad_ren rfl, rfl, trivial⟩⟩, ⟨_, rfl, ⟨rfl, trivial⟩⟩, trivial⟩) (by rfl) (nk rfl)) k38
    · refine apo_ao rfl ?_
      refine ao_read trivial (r_load_elema_int Try.isAgg3 Try.sizeOf3 rfl rfl rfl (show 0 < 6 from by omega)) rfl ?_
      refine ao_nil ?_
      refine ap_in ?_
      exact ap_go (by kernel_rfl) (sub_mk idn (by exact ⟨ai rfl, ai rfl, ai rfl, ai rfl, ai rfl, ai rfl, ai rfl, ai rfl, trivial⟩) (by exact ⟨⟨_, rfl, ⟨rfl, trivial⟩⟩, ⟨_, rfl, ⟨rfl, trivial⟩⟩, ⟨_, rfl, ⟨ad_ren rfl, rfl, ad_ren rfl, rfl, ad_ren rfl, rfl, trivial⟩⟩, trivial⟩) (by rfl) (nk rfl)) k78
    · refine apo_ao rfl ?_
      refine ao_read trivial (r_load_elema_int Try.isAgg3 Try.sizeOf3 rfl rfl rfl (show 5 < 6 from by omega)) rfl ?_
      refine ao_nil ?_
      refine ap_in ?_
      exact ap_go (by kernel_rfl) (sub_mk idn (by exact ⟨ai rfl, ai rfl, ai rfl, ai rfl, ai rfl, ai rfl, ai rfl, ai rfl, trivial⟩) (by exact ⟨⟨_, rfl, ⟨rfl, trivial⟩⟩, ⟨_, rfl, ⟨rfl, trivial⟩⟩, ⟨_, rfl, ⟨ad_ren rfl, rfl, ad_ren rfl, rfl, ad_ren rfl, rfl, trivial⟩⟩, trivial⟩) (by rfl) (nk rfl)) k90
    · refine apo_ao rfl ?_
      refine ao_read trivial (r_load_elema_int Try.isAgg3 Try.sizeOf3 rfl rfl rfl (show 2 < 6 from by omega)) rfl ?_
      refine ao_nil ?_
      refine ap_in ?_
      exact ap_go (by kernel_rfl) (sub_mk idn (by exact ⟨ai rfl, ai rfl, ai rfl, ai rfl, ai rfl, ai rfl, ai rfl, ai rfl, trivial⟩) (by exact ⟨⟨_, rfl, ⟨rfl, trivial⟩⟩, ⟨_, rfl, ⟨rfl, trivial⟩⟩, ⟨_, rfl, ⟨ad_ren rfl, rfl, ad_ren rfl, rfl, ad_ren rfl, rfl, trivial⟩⟩, trivial⟩) (by rfl) (nk rfl)) k96
    · refine apo_ao rfl ?_
      refine ao_callV [2] 3 trivial (c_spec_l1Cur_pick (is_mk r2h)) Try.func84 rfl rfl rfl rfl rfl ⟨rfl, trivial⟩ ⟨⟨_, rfl, ⟨ad_ren rfl, rfl, ad_ren rfl, rfl, ad_ren rfl, rfl, trivial⟩⟩, trivial⟩ rfl rfl rfl rfl rfl rfl rfl (fun r' H' hr => ?_)
      obtain ⟨rfl, rfl⟩ := hr
      refine ao_norm (y := .int .i64 r2.1) (H' := [(0, .var [.arr (.int .i64) 6 ((List.replicate 6 0) : (List Int))]), (1, .var [.arr (.int .i64) 6 r1.1]), (2, .var [.cell (.v (.slice (.int .u8)) x0), .cell (.int .i64 r2.2.1), .cell (.int .u64 r2.2.2)])]) rfl rfl ?_
      refine ao_nil ?_
      refine ap_in ?_
      refine ap_pure 11 (by kernel_rfl) (fun _ _ _ h => h) rfl (by kernel_rfl) trivial (rp_quo rfl rfl (by decide)) rfl ?_
      refine ap_pure 12 (by kernel_rfl) (fun _ _ _ h => h) rfl (by kernel_rfl) trivial (rp_add rfl rfl) rfl ?_
      exact ap_go (by kernel_rfl) (sub_mk idn (by exact ⟨ai rfl, ai rfl, ai rfl, ai rfl, ai rfl, ai rfl, ai rfl, ai rfl, trivial⟩) (by exact ⟨⟨_, rfl, ⟨rfl, trivial⟩⟩, ⟨_, rfl, ⟨rfl, trivial⟩⟩, ⟨_, rfl, ⟨ad_ren rfl, rfl, ad_ren rfl, rfl, ad_ren rfl, rfl, trivial⟩⟩, trivial⟩) (by rfl) (nk rfl)) k98
  refine ap_let (g := 12) (listed := #[false, true, true, false, false, false, true, true, false, true, false, false, false, false, false, false, false]) [(2, .ref 0 0), (3, .int .i64 0), (5, .ref 1 0), (12, .ref 2 0), (13, .elem 1 0 1 0), (18, .int .i64 (r1.1.getD 2 0)), (20, .ref 2 0)] [(0, .var [.arr (.int .i64) 6 ((List.replicate 6 0) : (List Int))]), (1, .var [.arr (.int .i64) 6 r1.1]), (2, .var [.cell (.v (.slice (.int .u8)) x0), .cell (.int .i64 r1.2.1), .cell (.int .u64 r1.2.2)])] ?_ (fun k101 => ?_)
  · refine ap_all [0, 3, 4, 10] (by kernel_rfl) ⟨?_, ?_, ?_, ?_, trivial⟩
    · refine apo_ao rfl ?_
      refine ao_read trivial (r_load_arr rfl Try.isAgg47 Try.sizeOf47 rfl rfl rfl) rfl ?_
      refine ao_nil ?_
      refine ap_in ?_
      exact ap_go (by kernel_rfl) (sub_mk idn (by exact ⟨ai rfl, ai rfl, ai rfl, ai rfl, ai rfl, ai rfl, ai rfl, ai rfl, trivial⟩) (by exact ⟨⟨_, rfl, ⟨rfl, trivial⟩⟩, ⟨_, rfl, ⟨rfl, trivial⟩⟩, ⟨_, rfl, ⟨ad_ren rfl, rfl, ad_ren rfl, rfl, ad_ren rfl, rfl, trivial⟩⟩, trivial⟩) (by rfl) (nk rfl)) k44
    · refine apo_ao rfl ?_
      refine ao_read trivial (r_load_elema_int Try.isAgg3 Try.sizeOf3 rfl rfl rfl (show 0 < 6 from by omega)) rfl ?_
      refine ao_nil ?_
      refine ap_in ?_
      exact ap_go (by kernel_rfl) (sub_mk idn (by exact ⟨ai rfl, ai rfl, ai rfl, ai rfl, ai rfl, ai rfl, ai rfl, trivial⟩) (by exact ⟨⟨_, rfl, ⟨rfl, trivial⟩⟩, ⟨_, rfl, ⟨rfl, trivial⟩⟩, ⟨_, rfl, ⟨ad_ren rfl, rfl, ad_ren rfl, rfl, ad_ren rfl, rfl, trivial⟩⟩, trivial⟩) (by rfl) (nk rfl)) k84
    · refine apo_ao rfl ?_
      refine ao_read trivial (r_idxAddr_arr (i := 5) Try.underlying47 Try.sizeOf3 rfl rfl (show 0 ≤ 5 from by omega) (show 5 < (6 : Int) from by omega)) rfl ?_
      refine ao_nil ?_
      refine ap_in ?_
      exact ap_go (by kernel_rfl) (sub_mk idn (by exact ⟨ai rfl, ai rfl, ai rfl, ai rfl, ai rfl, ai rfl, ai rfl, ai rfl, trivial⟩) (by exact ⟨⟨_, rfl, ⟨rfl, trivial⟩⟩, ⟨_, rfl, ⟨rfl, trivial⟩⟩, ⟨_, rfl, ⟨ad_ren rfl, rfl, ad_ren rfl, rfl, ad_ren rfl, rfl, trivial⟩⟩, trivial⟩) (by rfl) (nk rfl)) k96
    · refine apo_ao rfl ?_
      refine ao_callV [2] 3 trivial (c_spec_l1Cur_pick (is_mk r2h)) Try.func84 rfl rfl rfl rfl rfl ⟨rfl, trivial⟩ ⟨⟨_, rfl, ⟨ad_ren rfl, rfl, ad_ren rfl, rfl, ad_ren rfl, rfl, trivial⟩⟩, trivial⟩ rfl rfl rfl rfl rfl rfl rfl (fun r' H' hr => ?_)
      obtain ⟨rfl, rfl⟩ := hr
      refine ao_norm (y := .int .i64 r2.1) (H' := [(0, .var [.arr (.int .i64) 6 ((List.replicate 6 0) : (List Int))]), (1, .var [.arr (.int .i64) 6 r1.1]), (2, .var [.cell (.v (.slice (.int .u8)) x0), .cell (.int .i64 r2.2.1), .cell (.int .u64 r2.2.2)])]) rfl rfl ?_
      refine ao_nil ?_
      refine ap_in ?_
      refine ap_pure 11 (by kernel_rfl) (fun _ _ _ h => h) rfl (by kernel_rfl) trivial (rp_quo rfl rfl (by decide)) rfl ?_
      refine ap_pure 12 (by kernel_rfl) (fun _ _ _ h => h) rfl (by kernel_rfl) trivial (rp_add rfl rfl) rfl ?_
      exact ap_go (by kernel_rfl) (sub_mk idn (by exact ⟨ai rfl, ai rfl, ai rfl, ai rfl, ai rfl, ai rfl, ai rfl, trivial⟩) (by exact ⟨⟨_, rfl, ⟨rfl, trivial⟩⟩, ⟨_, rfl, ⟨rfl, trivial⟩⟩, ⟨_, rfl, ⟨ad_ren rfl, rfl, ad_ren rfl, rfl, ad_ren rfl, rfl, trivial⟩⟩, trivial⟩) (by rfl) (nk rfl)) k102
  refine ap_let (g := 12) (listed := #[false, true, false, false, true, true, true, false, false, true, false, false, false, false, false, false, false]) [(2, .ref 0 0), (3, .int .i64 0), (5, .ref 1 0), (12, .ref 2 0), (16, .int .i64 (r1.1.getD 5 0)), (17, .elem 1 0 1 2), (20, .ref 2 0)] [(0, .var [.arr (.int .i64) 6 ((List.replicate 6 0) : (List Int))]), (1, .var [.arr (.int .i64) 6 r1.1]), (2, .var [.cell (.v (.slice (.int .u8)) x0), .cell (.int .i64 r1.2.1), .cell (.int .u64 r1.2.2)])] ?_ (fun k107 => ?_)
  · refine ap_all [0, 2, 7, 10] (by kernel_rfl) ⟨?_, ?_, ?_, ?_, trivial⟩
    · refine apo_ao rfl ?_
      refine ao_read trivial (r_load_arr rfl Try.isAgg47 Try.sizeOf47 rfl rfl rfl) rfl ?_
      refine ao_nil ?_
      refine ap_in ?_
      exact ap_go (by kernel_rfl) (sub_mk idn (by exact ⟨ai rfl, ai rfl, ai rfl, ai rfl, ai rfl, ai rfl, ai rfl, ai rfl, trivial⟩) (by exact ⟨⟨_, rfl, ⟨rfl, trivial⟩⟩, ⟨_, rfl, ⟨rfl, trivial⟩⟩, ⟨_, rfl, ⟨ad_ren rfl, rfl, ad_ren rfl, rfl, ad_ren rfl, rfl, trivial⟩⟩, trivial⟩) (by rfl) (nk rfl)) k50
    · refine apo_ao rfl ?_
      refine ao_read trivial (r_idxAddr_arr (i := 0) Try.underlying47 Try.sizeOf3 rfl rfl (show 0 ≤ 0 from by omega) (show 0 < (6 : Int) from by omega)) rfl ?_
      refine ao_nil ?_
      refine ap_in ?_
      exact ap_go (by kernel_rfl) (sub_mk idn (by exact ⟨ai rfl, ai rfl, ai rfl, ai rfl, ai rfl, ai rfl, ai rfl, ai rfl, trivial⟩) (by exact ⟨⟨_, rfl, ⟨rfl, trivial⟩⟩, ⟨_, rfl, ⟨rfl, trivial⟩⟩, ⟨_, rfl, ⟨ad_ren rfl, rfl, ad_ren rfl, rfl, ad_ren rfl, rfl, trivial⟩⟩, trivial⟩) (by rfl) (nk rfl)) k90
    · refine apo_ao rfl ?_
      refine ao_read trivial (r_load_elema_int Try.isAgg3 Try.sizeOf3 rfl rfl rfl (show 2 < 6 from by omega)) rfl ?_
      refine ao_nil ?_
      refine ap_in ?_
      exact ap_go (by kernel_rfl) (sub_mk idn (by exact ⟨ai rfl, ai rfl, ai rfl, ai rfl, ai rfl, ai rfl, ai rfl, trivial⟩) (by exact ⟨⟨_, rfl, ⟨rfl, trivial⟩⟩, ⟨_, rfl, ⟨rfl, trivial⟩⟩, ⟨_, rfl, ⟨ad_ren rfl, rfl, ad_ren rfl, rfl, ad_ren rfl, rfl, trivial⟩⟩, trivial⟩) (by rfl) (nk rfl)) k108
    · refine apo_ao rfl ?_
      refine ao_callV [2] 3 trivial (c_spec_l1Cur_pick (is_mk r2h)) Try.func84 rfl rfl rfl rfl rfl ⟨rfl, trivial⟩ ⟨⟨_, rfl, ⟨ad_ren rfl, rfl, ad_ren rfl, rfl, ad_ren rfl, rfl, trivial⟩⟩, trivial⟩ rfl rfl rfl rfl rfl rfl rfl (fun r' H' hr => ?_)
      obtain ⟨rfl, rfl⟩ := hr
      refine ao_norm (y := .int .i64 r2.1) (H' := [(0, .var [.arr (.int .i64) 6 ((List.replicate 6 0) : (List Int))]), (1, .var [.arr (.int .i64) 6 r1.1]), (2, .var [.cell (.v (.slice (.int .u8)) x0), .cell (.int .i64 r2.2.1), .cell (.int .u64 r2.2.2)])]) rfl rfl ?_
      refine ao_nil ?_
      refine ap_in ?_
      refine ap_pure 11 (by kernel_rfl) (fun _ _ _ h => h) rfl (by kernel_rfl) trivial (rp_quo rfl rfl (by decide)) rfl ?_
      refine ap_pure 12 (by kernel_rfl) (fun _ _ _ h => h) rfl (by kernel_rfl) trivial (rp_add rfl rfl) rfl ?_
      exact ap_go (by kernel_rfl) (sub_mk idn (by exact ⟨ai rfl, ai rfl, ai rfl, ai rfl, ai rfl, ai rfl, ai rfl, trivial⟩) (by exact ⟨⟨_, rfl, ⟨rfl, trivial⟩⟩, ⟨_, rfl, ⟨rfl, trivial⟩⟩, ⟨_, rfl, ⟨ad_ren rfl, rfl, ad_ren rfl, rfl, ad_ren rfl, rfl, trivial⟩⟩, trivial⟩) (by rfl) (nk rfl)) k110
  refine ap_let (g := 12) (listed := #[false, true, false, false, true, false, true, true, false, true, false, false, false, false, false, false, false]) [(2, .ref 0 0), (3, .int .i64 0), (5, .ref 1 0), (12, .ref 2 0), (15, .elem 1 0 1 5), (18, .int .i64 (r1.1.getD 2 0)), (20, .ref 2 0)] [(0, .var [.arr (.int .i64) 6 ((List.replicate 6 0) : (List Int))]), (1, .var [.arr (.int .i64) 6 r1.1]), (2, .var [.cell (.v (.slice (.int .u8)) x0), .cell (.int .i64 r1.2.1), .cell (.int .u64 r1.2.2)])] ?_ (fun k113 => ?_)
  · refine ap_all [0, 2, 5, 10] (by kernel_rfl) ⟨?_, ?_, ?_, ?_, trivial⟩
    · refine apo_ao rfl ?_
      refine ao_read trivial (r_load_arr rfl Try.isAgg47 Try.sizeOf47 rfl rfl rfl) rfl ?_
      refine ao_nil ?_
      refine ap_in ?_
      exact ap_go (by kernel_rfl) (sub_mk idn (by exact ⟨ai rfl, ai rfl, ai rfl, ai rfl, ai rfl, ai rfl, ai rfl, ai rfl, trivial⟩) (by exact ⟨⟨_, rfl, ⟨rfl, trivial⟩⟩, ⟨_, rfl, ⟨rfl, trivial⟩⟩, ⟨_, rfl, ⟨ad_ren rfl, rfl, ad_ren rfl, rfl, ad_ren rfl, rfl, trivial⟩⟩, trivial⟩) (by rfl) (nk rfl)) k56
    · refine apo_ao rfl ?_
      refine ao_read trivial (r_idxAddr_arr (i := 0) Try.underlying47 Try.sizeOf3 rfl rfl (show 0 ≤ 0 from by omega) (show 0 < (6 : Int) from by omega)) rfl ?_
      refine ao_nil ?_
      refine ap_in ?_
      exact ap_go (by kernel_rfl) (sub_mk idn (by exact ⟨ai rfl, ai rfl, ai rfl, ai rfl, ai rfl, ai rfl, ai rfl, ai rfl, trivial⟩) (by exact ⟨⟨_, rfl, ⟨rfl, trivial⟩⟩, ⟨_, rfl, ⟨rfl, trivial⟩⟩, ⟨_, rfl, ⟨ad_ren rfl, rfl, ad_ren rfl, rfl, ad_ren rfl, rfl, trivial⟩⟩, trivial⟩) (by rfl) (nk rfl)) k96
    · refine apo_ao rfl ?_
      refine ao_read trivial (r_load_elema_int Try.isAgg3 Try.sizeOf3 rfl rfl rfl (show 5 < 6 from by omega)) rfl ?_
      refine ao_nil ?_
      refine ap_in ?_
      exact ap_go (by kernel_rfl) (sub_mk idn (by exact ⟨ai rfl, ai rfl, ai rfl, ai rfl, ai rfl, ai rfl, ai rfl, trivial⟩) (by exact ⟨⟨_, rfl, ⟨rfl, trivial⟩⟩, ⟨_, rfl, ⟨rfl, trivial⟩⟩, ⟨_, rfl, ⟨ad_ren rfl, rfl, ad_ren rfl, rfl, ad_ren rfl, rfl, trivial⟩⟩, trivial⟩) (by rfl) (nk rfl)) k108
    · refine apo_ao rfl ?_
      refine ao_callV [2] 3 trivial (c_spec_l1Cur_pick (is_mk r2h)) Try.func84 rfl rfl rfl rfl rfl ⟨rfl, trivial⟩ ⟨⟨_, rfl, ⟨ad_ren rfl, rfl, ad_ren rfl, rfl, ad_ren rfl, rfl, trivial⟩⟩, trivial⟩ rfl rfl rfl rfl rfl rfl rfl (fun r' H' hr => ?_)
      obtain ⟨rfl, rfl⟩ := hr
      refine ao_norm (y := .int .i64 r2.1) (H' := [(0, .var [.arr (.int .i64) 6 ((List.replicate 6 0) : (List Int))]), (1, .var [.arr (.int .i64) 6 r1.1]), (2, .var [.cell (.v (.slice (.int .u8)) x0), .cell (.int .i64 r2.2.1), .cell (.int .u64 r2.2.2)])]) rfl rfl ?_
      refine ao_nil ?_
      refine ap_in ?_
      refine ap_pure 11 (by kernel_rfl) (fun _ _ _ h => h) rfl (by kernel_rfl) trivial (rp_quo rfl rfl (by decide)) rfl ?_
      refine ap_pure 12 (by kernel_rfl) (fun _ _ _ h => h) rfl (by kernel_rfl) trivial (rp_add rfl rfl) rfl ?_
      exact ap_go (by kernel_rfl) (sub_mk idn (by exact ⟨ai rfl, ai rfl, ai rfl, ai rfl, ai rfl, ai rfl, ai rfl, trivial⟩) (by exact ⟨⟨_, rfl, ⟨rfl, trivial⟩⟩, ⟨_, rfl, ⟨rfl, trivial⟩⟩, ⟨_, rfl, ⟨ad_ren rfl, rfl, ad_ren rfl, rfl, ad_ren rfl, rfl, trivial⟩⟩, trivial⟩) (by rfl) (nk rfl)) k114
  refine ap_let (g := 12) (listed := #[false, true, false, false, false, false, false, false, false, true, true, true, true, false, false, false, false]) [(2, .ref 0 0), (3, .int .i64 0), (5, .ref 1 0), (12, .ref 2 0), (23, .int .i64 (IntKind.wrap .i64 (3 + (IntKind.wrap .i64 (r2.1.tdiv 6)))))] [(0, .var [.arr (.int .i64) 6 ((List.replicate 6 0) : (List Int))]), (1, .var [.arr (.int .i64) 6 r1.1]), (2, .var [.cell (.v (.slice (.int .u8)) x0), .cell (.int .i64 r2.2.1), .cell (.int .u64 r2.2.2)])] ?_ (fun k121 => ?_)
  · refine ap_all [0, 2, 4, 6] (by kernel_rfl) ⟨?_, ?_, ?_, ?_, trivial⟩
    · refine apo_ao rfl ?_
      refine ao_read trivial (r_load_arr rfl Try.isAgg47 Try.sizeOf47 rfl rfl rfl) rfl ?_
      refine ao_nil ?_
      refine ap_in ?_
      exact ap_go (by kernel_rfl) (sub_mk idn (by exact ⟨ai rfl, ai rfl, ai rfl, ai rfl, ai rfl, ai rfl, trivial⟩) (by exact ⟨⟨_, rfl, ⟨rfl, trivial⟩⟩, ⟨_, rfl, ⟨rfl, trivial⟩⟩, ⟨_, rfl, ⟨ad_ren rfl, rfl, ad_ren rfl, rfl, ad_ren rfl, rfl, trivial⟩⟩, trivial⟩) (by rfl) (nk rfl)) k64
    · refine apo_ao rfl ?_
      refine ao_read trivial (r_idxAddr_arr (i := 0) Try.underlying47 Try.sizeOf3 rfl rfl (show 0 ≤ 0 from by omega) (show 0 < (6 : Int) from by omega)) rfl ?_
      refine ao_nil ?_
      refine ap_in ?_
      exact ap_go (by kernel_rfl) (sub_mk idn (by exact ⟨ai rfl, ai rfl, ai rfl, ai rfl, ai rfl, ai rfl, trivial⟩) (by exact ⟨⟨_, rfl, ⟨rfl, trivial⟩⟩, ⟨_, rfl, ⟨rfl, trivial⟩⟩, ⟨_, rfl, ⟨ad_ren rfl, rfl, ad_ren rfl, rfl, ad_ren rfl, rfl, trivial⟩⟩, trivial⟩) (by rfl) (nk rfl)) k104
    · refine apo_ao rfl ?_
      refine ao_read trivial (r_idxAddr_arr (i := 5) Try.underlying47 Try.sizeOf3 rfl rfl (show 0 ≤ 5 from by omega) (show 5 < (6 : Int) from by omega)) rfl ?_
      refine ao_nil ?_
      refine ap_in ?_
      exact ap_go (by kernel_rfl) (sub_mk idn (by exact ⟨ai rfl, ai rfl, ai rfl, ai rfl, ai rfl, ai rfl, trivial⟩) (by exact ⟨⟨_, rfl, ⟨rfl, trivial⟩⟩, ⟨_, rfl, ⟨rfl, trivial⟩⟩, ⟨_, rfl, ⟨ad_ren rfl, rfl, ad_ren rfl, rfl, ad_ren rfl, rfl, trivial⟩⟩, trivial⟩) (by rfl) (nk rfl)) k116
    · refine apo_ao rfl ?_
      refine ao_read trivial (r_idxAddr_arr (i := 2) Try.underlying47 Try.sizeOf3 rfl rfl (show 0 ≤ 2 from by omega) (show 2 < (6 : Int) from by omega)) rfl ?_
      refine ao_nil ?_
      refine ap_in ?_
      exact ap_go (by kernel_rfl) (sub_mk idn (by exact ⟨ai rfl, ai rfl, ai rfl, ai rfl, ai rfl, ai rfl, trivial⟩) (by exact ⟨⟨_, rfl, ⟨rfl, trivial⟩⟩, ⟨_, rfl, ⟨rfl, trivial⟩⟩, ⟨_, rfl, ⟨ad_ren rfl, rfl, ad_ren rfl, rfl, ad_ren rfl, rfl, trivial⟩⟩, trivial⟩) (by rfl) (nk rfl)) k120
  refine ap_let (g := 13) (listed := #[true, true, true, false, false, false, false, false, false, true, false, false, false, false, false, false, false]) [(2, .ref 0 0), (3, .int .i64 0), (5, .ref 1 0), (11, .v (.arr 6 (.int .i64)) r1.1), (12, .ref 2 0), (13, .elem 1 0 1 0), (20, .ref 2 0)] [(0, .var [.arr (.int .i64) 6 ((List.replicate 6 0) : (List Int))]), (1, .var [.arr (.int .i64) 6 r1.1]), (2, .var [.cell (.v (.slice (.int .u8)) x0), .cell (.int .i64 r1.2.1), .cell (.int .u64 r1.2.2)])] ?_ (fun k8 => ?_)
  · refine ap_all [3, 4, 6, 10] (by kernel_rfl) ⟨?_, ?_, ?_, ?_, trivial⟩
    · refine apo_ao rfl ?_
      refine ao_read trivial (r_load_elema_int Try.isAgg3 Try.sizeOf3 rfl rfl rfl (show 0 < 6 from by omega)) rfl ?_
      refine ao_nil ?_
      refine ap_in ?_
      exact ap_go (by kernel_rfl) (sub_mk idn (by exact ⟨ai rfl, ai rfl, ai rfl, ai rfl, ai rfl, ai rfl, ai rfl, trivial⟩) (by exact ⟨⟨_, rfl, ⟨rfl, trivial⟩⟩, ⟨_, rfl, ⟨rfl, trivial⟩⟩, ⟨_, rfl, ⟨ad_ren rfl, rfl, ad_ren rfl, rfl, ad_ren rfl, rfl, trivial⟩⟩, trivial⟩) (by rfl) (nk rfl)) k9
    · refine apo_ao rfl ?_
      refine ao_read trivial (r_idxAddr_arr (i := 5) Try.underlying47 Try.sizeOf3 rfl rfl (show 0 ≤ 5 from by omega) (show 5 < (6 : Int) from by omega)) rfl ?_
      refine ao_nil ?_
      refine ap_in ?_
      exact ap_go (by kernel_rfl) (sub_mk idn (by exact ⟨ai rfl, ai rfl, ai rfl, ai rfl, ai rfl, ai rfl, ai rfl, ai rfl, trivial⟩) (by exact ⟨⟨_, rfl, ⟨rfl, trivial⟩⟩, ⟨_, rfl, ⟨rfl, trivial⟩⟩, ⟨_, rfl, ⟨ad_ren rfl, rfl, ad_ren rfl, rfl, ad_ren rfl, rfl, trivial⟩⟩, trivial⟩) (by rfl) (nk rfl)) k31
    · refine apo_ao rfl ?_
      refine ao_read trivial (r_idxAddr_arr (i := 2) Try.underlying47 Try.sizeOf3 rfl rfl (show 0 ≤ 2 from by omega) (show 2 < (6 : Int) from by omega)) rfl ?_
      refine ao_nil ?_
      refine ap_in ?_
      exact ap_go (by kernel_rfl) (sub_mk idn (by exact ⟨ai rfl, ai rfl, ai rfl, ai rfl, ai rfl, ai rfl, ai rfl, ai rfl, trivial⟩) (by exact ⟨⟨_, rfl, ⟨rfl, trivial⟩⟩, ⟨_, rfl, ⟨rfl, trivial⟩⟩, ⟨_, rfl, ⟨ad_ren rfl, rfl, ad_ren rfl, rfl, ad_ren rfl, rfl, trivial⟩⟩, trivial⟩) (by rfl) (nk rfl)) k43
    · refine apo_ao rfl ?_
      refine ao_callV [2] 3 trivial (c_spec_l1Cur_pick (is_mk r2h)) Try.func84 rfl rfl rfl rfl rfl ⟨rfl, trivial⟩ ⟨⟨_, rfl, ⟨ad_ren rfl, rfl, ad_ren rfl, rfl, ad_ren rfl, rfl, trivial⟩⟩, trivial⟩ rfl rfl rfl rfl rfl rfl rfl (fun r' H' hr => ?_)
      obtain ⟨rfl, rfl⟩ := hr
      refine ao_norm (y := .int .i64 r2.1) (H' := [(0, .var [.arr (.int .i64) 6 ((List.replicate 6 0) : (List Int))]), (1, .var [.arr (.int .i64) 6 r1.1]), (2, .var [.cell (.v (.slice (.int .u8)) x0), .cell (.int .i64 r2.2.1), .cell (.int .u64 r2.2.2)])]) rfl rfl ?_
      refine ao_nil ?_
      refine ap_in ?_
      refine ap_pure 11 (by kernel_rfl) (fun _ _ _ h => h) rfl (by kernel_rfl) trivial (rp_quo rfl rfl (by decide)) rfl ?_
      refine ap_pure 12 (by kernel_rfl) (fun _ _ _ h => h) rfl (by kernel_rfl) trivial (rp_add rfl rfl) rfl ?_
      exact ap_go (by kernel_rfl) (sub_mk idn (by exact ⟨ai rfl, ai rfl, ai rfl, ai rfl, ai rfl, ai rfl, ai rfl, trivial⟩) (by exact ⟨⟨_, rfl, ⟨rfl, trivial⟩⟩, ⟨_, rfl, ⟨rfl, trivial⟩⟩, ⟨_, rfl, ⟨ad_ren rfl, rfl, ad_ren rfl, rfl, ad_ren rfl, rfl, trivial⟩⟩, trivial⟩) (by rfl) (nk rfl)) k47
  refine ap_let (g := 13) (listed := #[true, true, false, false, true, false, false, false, false, true, false, false, false, false, false, false, false]) [(2, .ref 0 0), (3, .int .i64 0), (5, .ref 1 0), (11, .v (.arr 6 (.int .i64)) r1.1), (12, .ref 2 0), (15, .elem 1 0 1 5), (20, .ref 2 0)] [(0, .var [.arr (.int .i64) 6 ((List.replicate 6 0) : (List Int))]), (1, .var [.arr (.int .i64) 6 r1.1]), (2, .var [.cell (.v (.slice (.int .u8)) x0), .cell (.int .i64 r1.2.1), .cell (.int .u64 r1.2.2)])] ?_ (fun k48 => ?_)
  · refine ap_all [2, 5, 6, 10] (by kernel_rfl) ⟨?_, ?_, ?_, ?_, trivial⟩
    · refine apo_ao rfl ?_
      refine ao_read trivial (r_idxAddr_arr (i := 0) Try.underlying47 Try.sizeOf3 rfl rfl (show 0 ≤ 0 from by omega) (show 0 < (6 : Int) from by omega)) rfl ?_
      refine ao_nil ?_
      refine ap_in ?_
      exact ap_go (by kernel_rfl) (sub_mk idn (by exact ⟨ai rfl, ai rfl, ai rfl, ai rfl, ai rfl, ai rfl, ai rfl, ai rfl, trivial⟩) (by exact ⟨⟨_, rfl, ⟨rfl, trivial⟩⟩, ⟨_, rfl, ⟨rfl, trivial⟩⟩, ⟨_, rfl, ⟨ad_ren rfl, rfl, ad_ren rfl, rfl, ad_ren rfl, rfl, trivial⟩⟩, trivial⟩) (by rfl) (nk rfl)) k31
    · refine apo_ao rfl ?_
      refine ao_read trivial (r_load_elema_int Try.isAgg3 Try.sizeOf3 rfl rfl rfl (show 5 < 6 from by omega)) rfl ?_
      refine ao_nil ?_
      refine ap_in ?_
      exact ap_go (by kernel_rfl) (sub_mk idn (by exact ⟨ai rfl, ai rfl, ai rfl, ai rfl, ai rfl, ai rfl, ai rfl, trivial⟩) (by exact ⟨⟨_, rfl, ⟨rfl, trivial⟩⟩, ⟨_, rfl, ⟨rfl, trivial⟩⟩, ⟨_, rfl, ⟨ad_ren rfl, rfl, ad_ren rfl, rfl, ad_ren rfl, rfl, trivial⟩⟩, trivial⟩) (by rfl) (nk rfl)) k49
    · refine apo_ao rfl ?_
      refine ao_read trivial (r_idxAddr_arr (i := 2) Try.underlying47 Try.sizeOf3 rfl rfl (show 0 ≤ 2 from by omega) (show 2 < (6 : Int) from by omega)) rfl ?_
      refine ao_nil ?_
      refine ap_in ?_
      exact ap_go (by kernel_rfl) (sub_mk idn (by exact ⟨ai rfl, ai rfl, ai rfl, ai rfl, ai rfl, ai rfl, ai rfl, ai rfl, trivial⟩) (by exact ⟨⟨_, rfl, ⟨rfl, trivial⟩⟩, ⟨_, rfl, ⟨rfl, trivial⟩⟩, ⟨_, rfl, ⟨ad_ren rfl, rfl, ad_ren rfl, rfl, ad_ren rfl, rfl, trivial⟩⟩, trivial⟩) (by rfl) (nk rfl)) k55
    · refine apo_ao rfl ?_
      refine ao_callV [2] 3 trivial (c_spec_l1Cur_pick (is_mk r2h)) Try.func84 rfl rfl rfl rfl rfl ⟨rfl, trivial⟩ ⟨⟨_, rfl, ⟨ad_ren rfl, rfl, ad_ren rfl, rfl, ad_ren rfl, rfl, trivial⟩⟩, trivial⟩ rfl rfl rfl rfl rfl rfl rfl (fun r' H' hr => ?_)
      obtain ⟨rfl, rfl⟩ := hr
      refine ao_norm (y := .int .i64 r2.1) (H' := [(0, .var [.arr (.int .i64) 6 ((List.replicate 6 0) : (List Int))]), (1, .var [.arr (.int .i64) 6 r1.1]), (2, .var [.cell (.v (.slice (.int .u8)) x0), .cell (.int .i64 r2.2.1), .cell (.int .u64 r2.2.2)])]) rfl rfl ?_
      refine ao_nil ?_
      refine ap_in ?_
      refine ap_pure 11 (by kernel_rfl) (fun _ _ _ h => h) rfl (by kernel_rfl) trivial (rp_quo rfl rfl (by decide)) rfl ?_
      refine ap_pure 12 (by kernel_rfl) (fun _ _ _ h => h) rfl (by kernel_rfl) trivial (rp_add rfl rfl) rfl ?_
      exact ap_go (by kernel_rfl) (sub_mk idn (by exact ⟨ai rfl, ai rfl, ai rfl, ai rfl, ai rfl, ai rfl, ai rfl, trivial⟩) (by exact ⟨⟨_, rfl, ⟨rfl, trivial⟩⟩, ⟨_, rfl, ⟨rfl, trivial⟩⟩, ⟨_, rfl, ⟨ad_ren rfl, rfl, ad_ren rfl, rfl, ad_ren rfl, rfl, trivial⟩⟩, trivial⟩) (by rfl) (nk rfl)) k59
  refine ap_let (g := 13) (listed := #[true, true, false, false, false, false, true, false, false, true, false, false, false, false, false, false, false]) [(2, .ref 0 0), (3, .int .i64 0), (5, .ref 1 0), (11, .v (.arr 6 (.int .i64)) r1.1), (12, .ref 2 0), (17, .elem 1 0 1 2), (20, .ref 2 0)] [(0, .var [.arr (.int .i64) 6 ((List.replicate 6 0) : (List Int))]), (1, .var [.arr (.int .i64) 6 r1.1]), (2, .var [.cell (.v (.slice (.int .u8)) x0), .cell (.int .i64 r1.2.1), .cell (.int .u64 r1.2.2)])] ?_ (fun k60 => ?_)
  · refine ap_all [2, 4, 7, 10] (by kernel_rfl) ⟨?_, ?_, ?_, ?_, trivial⟩
    · refine apo_ao rfl ?_
      refine ao_read trivial (r_idxAddr_arr (i := 0) Try.underlying47 Try.sizeOf3 rfl rfl (show 0 ≤ 0 from by omega) (show 0 < (6 : Int) from by omega)) rfl ?_
      refine ao_nil ?_
      refine ap_in ?_
      exact ap_go (by kernel_rfl) (sub_mk idn (by exact ⟨ai rfl, ai rfl, ai rfl, ai rfl, ai rfl, ai rfl, ai rfl, ai rfl, trivial⟩) (by exact ⟨⟨_, rfl, ⟨rfl, trivial⟩⟩, ⟨_, rfl, ⟨rfl, trivial⟩⟩, ⟨_, rfl, ⟨ad_ren rfl, rfl, ad_ren rfl, rfl, ad_ren rfl, rfl, trivial⟩⟩, trivial⟩) (by rfl) (nk rfl)) k43
    · refine apo_ao rfl ?_
      refine ao_read trivial (r_idxAddr_arr (i := 5) Try.underlying47 Try.sizeOf3 rfl rfl (show 0 ≤ 5 from by omega) (show 5 < (6 : Int) from by omega)) rfl ?_
      refine ao_nil ?_
      refine ap_in ?_
      exact ap_go (by kernel_rfl) (sub_mk idn (by exact ⟨ai rfl, ai rfl, ai rfl, ai rfl, ai rfl, ai rfl, ai rfl, ai rfl, trivial⟩) (by exact ⟨⟨_, rfl, ⟨rfl, trivial⟩⟩, ⟨_, rfl, ⟨rfl, trivial⟩⟩, ⟨_, rfl, ⟨ad_ren rfl, rfl, ad_ren rfl, rfl, ad_ren rfl, rfl, trivial⟩⟩, trivial⟩) (by rfl) (nk rfl)) k55
    · refine apo_ao rfl ?_
      refine ao_read trivial (r_load_elema_int Try.isAgg3 Try.sizeOf3 rfl rfl rfl (show 2 < 6 from by omega)) rfl ?_
      refine ao_nil ?_
      refine ap_in ?_
      exact ap_go (by kernel_rfl) (sub_mk idn (by exact ⟨ai rfl, ai rfl, ai rfl, ai rfl, ai rfl, ai rfl, ai rfl, trivial⟩) (by exact ⟨⟨_, rfl, ⟨rfl, trivial⟩⟩, ⟨_, rfl, ⟨rfl, trivial⟩⟩, ⟨_, rfl, ⟨ad_ren rfl, rfl, ad_ren rfl, rfl, ad_ren rfl, rfl, trivial⟩⟩, trivial⟩) (by rfl) (nk rfl)) k61
    · refine apo_ao rfl ?_
      refine ao_callV [2] 3 trivial (c_spec_l1Cur_pick (is_mk r2h)) Try.func84 rfl rfl rfl rfl rfl ⟨rfl, trivial⟩ ⟨⟨_, rfl, ⟨ad_ren rfl, rfl, ad_ren rfl, rfl, ad_ren rfl, rfl, trivial⟩⟩, trivial⟩ rfl rfl rfl rfl rfl rfl rfl (fun r' H' hr => ?_)
      obtain ⟨rfl, rfl⟩ := hr
      refine ao_norm (y := .int .i64 r2.1) (H' := [(0, .var [.arr (.int .i64) 6 ((List.replicate 6 0) : (List Int))]), (1, .var [.arr (.int .i64) 6 r1.1]), (2, .var [.cell (.v (.slice (.int .u8)) x0), .cell (.int .i64 r2.2.1), .cell (.int .u64 r2.2.2)])]) rfl rfl ?_
      refine ao_nil ?_
      refine ap_in ?_
      refine ap_pure 11 (by kernel_rfl) (fun _ _ _ h => h) rfl (by kernel_rfl) trivial (rp_quo rfl rfl (by decide)) rfl ?_
      refine ap_pure 12 (by kernel_rfl) (fun _ _ _ h => h) rfl (by kernel_rfl) trivial (rp_add rfl rfl) rfl ?_
      exact ap_go (by kernel_rfl) (sub_mk idn (by exact ⟨ai rfl, ai rfl, ai rfl, ai rfl, ai rfl, ai rfl, ai rfl, trivial⟩) (by exact ⟨⟨_, rfl, ⟨rfl, trivial⟩⟩, ⟨_, rfl, ⟨rfl, trivial⟩⟩, ⟨_, rfl, ⟨ad_ren rfl, rfl, ad_ren rfl, rfl, ad_ren rfl, rfl, trivial⟩⟩, trivial⟩) (by rfl) (nk rfl)) k63
  refine ap_let (g := 13) (listed := #[false, true, true, true, false, false, false, false, false, true, false, false, false, false, false, false, false]) [(2, .ref 0 0), (3, .int .i64 0), (5, .ref 1 0), (12, .ref 2 0), (14, .int .i64 (r1.1.getD 0 0)), (20, .ref 2 0)] [(0, .var [.arr (.int .i64) 6 ((List.replicate 6 0) : (List Int))]), (1, .var [.arr (.int .i64) 6 r1.1]), (2, .var [.cell (.v (.slice (.int .u8)) x0), .cell (.int .i64 r1.2.1), .cell (.int .u64 r1.2.2)])] ?_ (fun k66 => ?_)
  · refine ap_all [0, 4, 6, 10] (by kernel_rfl) ⟨?_, ?_, ?_, ?_, trivial⟩
    · refine apo_ao rfl ?_
      refine ao_read trivial (r_load_arr rfl Try.isAgg47 Try.sizeOf47 rfl rfl rfl) rfl ?_
      refine ao_nil ?_
      refine ap_in ?_
      exact ap_go (by kernel_rfl) (sub_mk idn (by exact ⟨ai rfl, ai rfl, ai rfl, ai rfl, ai rfl, ai rfl, ai rfl, trivial⟩) (by exact ⟨⟨_, rfl, ⟨rfl, trivial⟩⟩, ⟨_, rfl, ⟨rfl, trivial⟩⟩, ⟨_, rfl, ⟨ad_ren rfl, rfl, ad_ren rfl, rfl, ad_ren rfl, rfl, trivial⟩⟩, trivial⟩) (by rfl) (nk rfl)) k9
    · refine apo_ao rfl ?_
      refine ao_read trivial (r_idxAddr_arr (i := 5) Try.underlying47 Try.sizeOf3 rfl rfl (show 0 ≤ 5 from by omega) (show 5 < (6 : Int) from by omega)) rfl ?_
      refine ao_nil ?_
      refine ap_in ?_
      exact ap_go (by kernel_rfl) (sub_mk idn (by exact ⟨ai rfl, ai rfl, ai rfl, ai rfl, ai rfl, ai rfl, ai rfl, trivial⟩) (by exact ⟨⟨_, rfl, ⟨rfl, trivial⟩⟩, ⟨_, rfl, ⟨rfl, trivial⟩⟩, ⟨_, rfl, ⟨ad_ren rfl, rfl, ad_ren rfl, rfl, ad_ren rfl, rfl, trivial⟩⟩, trivial⟩) (by rfl) (nk rfl)) k67
    · refine apo_ao rfl ?_
      refine ao_read trivial (r_idxAddr_arr (i := 2) Try.underlying47 Try.sizeOf3 rfl rfl (show 0 ≤ 2 from by omega) (show 2 < (6 : Int) from by omega)) rfl ?_
      refine ao_nil ?_
      refine ap_in ?_
      exact ap_go (by kernel_rfl) (sub_mk idn (by exact ⟨ai rfl, ai rfl, ai rfl, ai rfl, ai rfl, ai rfl, ai rfl, trivial⟩) (by exact ⟨⟨_, rfl, ⟨rfl, trivial⟩⟩, ⟨_, rfl, ⟨rfl, trivial⟩⟩, ⟨_, rfl, ⟨ad_ren rfl, rfl, ad_ren rfl, rfl, ad_ren rfl, rfl, trivial⟩⟩, trivial⟩) (by rfl) (nk rfl)) k83
    · refine apo_ao rfl ?_
      refine ao_callV [2] 3 trivial (c_spec_l1Cur_pick (is_mk r2h)) Try.func84 rfl rfl rfl rfl rfl ⟨rfl, trivial⟩ ⟨⟨_, rfl, ⟨ad_ren rfl, rfl, ad_ren rfl, rfl, ad_ren rfl, rfl, trivial⟩⟩, trivial⟩ rfl rfl rfl rfl rfl rfl rfl (fun r' H' hr => ?_)
      obtain ⟨rfl, rfl⟩ := hr
      refine ao_norm (y := .int .i64 r2.1) (H' := [(0, .var [.arr (.int .i64) 6 ((List.replicate 6 0) : (List Int))]), (1, .var [.arr (.int .i64) 6 r1.1]), (2, .var [.cell (.v (.slice (.int .u8)) x0), .cell (.int .i64 r2.2.1), .cell (.int .u64 r2.2.2)])]) rfl rfl ?_
      refine ao_nil ?_
      refine ap_in ?_
      refine ap_pure 11 (by kernel_rfl) (fun _ _ _ h => h) rfl (by kernel_rfl) trivial (rp_quo rfl rfl (by decide)) rfl ?_
      refine ap_pure 12 (by kernel_rfl) (fun _ _ _ h => h) rfl (by kernel_rfl) trivial (rp_add rfl rfl) rfl ?_
      exact ap_go (by kernel_rfl) (sub_mk idn (by exact ⟨ai rfl, ai rfl, ai rfl, ai rfl, ai rfl, ai rfl, trivial⟩) (by exact ⟨⟨_, rfl, ⟨rfl, trivial⟩⟩, ⟨_, rfl, ⟨rfl, trivial⟩⟩, ⟨_, rfl, ⟨ad_ren rfl, rfl, ad_ren rfl, rfl, ad_ren rfl, rfl, trivial⟩⟩, trivial⟩) (by rfl) (nk rfl)) k87
  refine ap_let (g := 13) (listed := #[false, true, true, false, true, false, false, false, false, true, false, false, false, false, false, false, false]) [(2, .ref 0 0), (3, .int .i64 0), (5, .ref 1 0), (12, .ref 2 0), (13, .elem 1 0 1 0), (15, .elem 1 0 1 5), (20, .ref 2 0)] [(0, .var [.arr (.int .i64) 6 ((List.replicate 6 0) : (List Int))]), (1, .var [.arr (.int .i64) 6 r1.1]), (2, .var [.cell (.v (.slice (.int .u8)) x0), .cell (.int .i64 r1.2.1), .cell (.int .u64 r1.2.2)])] ?_ (fun k88 => ?_)
  · refine ap_all [0, 3, 5, 6, 10] (by kernel_rfl) ⟨?_, ?_, ?_, ?_, ?_, trivial⟩
    · refine apo_ao rfl ?_
      refine ao_read trivial (r_load_arr rfl Try.isAgg47 Try.sizeOf47 rfl rfl rfl) rfl ?_
      refine ao_nil ?_
      refine ap_in ?_
      exact ap_go (by kernel_rfl) (sub_mk idn (by exact ⟨ai rfl, ai rfl, ai rfl, ai rfl, ai rfl, ai rfl, ai rfl, ai rfl, trivial⟩) (by exact ⟨⟨_, rfl, ⟨rfl, trivial⟩⟩, ⟨_, rfl, ⟨rfl, trivial⟩⟩, ⟨_, rfl, ⟨ad_ren rfl, rfl, ad_ren rfl, rfl, ad_ren rfl, rfl, trivial⟩⟩, trivial⟩) (by rfl) (nk rfl)) k31
    · refine apo_ao rfl ?_
      refine ao_read trivial (r_load_elema_int Try.isAgg3 Try.sizeOf3 rfl rfl rfl (show 0 < 6 from by omega)) rfl ?_
      refine ao_nil ?_
      refine ap_in ?_
      exact ap_go (by kernel_rfl) (sub_mk idn (by exact ⟨ai rfl, ai rfl, ai rfl, ai rfl, ai rfl, ai rfl, ai rfl, trivial⟩) (by exact ⟨⟨_, rfl, ⟨rfl, trivial⟩⟩, ⟨_, rfl, ⟨rfl, trivial⟩⟩, ⟨_, rfl, ⟨ad_ren rfl, rfl, ad_ren rfl, rfl, ad_ren rfl, rfl, trivial⟩⟩, trivial⟩) (by rfl) (nk rfl)) k67
    · refine apo_ao rfl ?_
      refine ao_read trivial (r_load_elema_int Try.isAgg3 Try.sizeOf3 rfl rfl rfl (show 5 < 6 from by omega)) rfl ?_
      refine ao_nil ?_
      refine ap_in ?_
      exact ap_go (by kernel_rfl) (sub_mk idn (by exact ⟨ai rfl, ai rfl, ai rfl, ai rfl, ai rfl, ai rfl, ai rfl, trivial⟩) (by exact ⟨⟨_, rfl, ⟨rfl, trivial⟩⟩, ⟨_, rfl, ⟨rfl, trivial⟩⟩, ⟨_, rfl, ⟨ad_ren rfl, rfl, ad_ren rfl, rfl, ad_ren rfl, rfl, trivial⟩⟩, trivial⟩) (by rfl) (nk rfl)) k89
    · refine apo_ao rfl ?_
      refine ao_read trivial (r_idxAddr_arr (i := 2) Try.underlying47 Try.sizeOf3 rfl rfl (show 0 ≤ 2 from by omega) (show 2 < (6 : Int) from by omega)) rfl ?_
      refine ao_nil ?_
      refine ap_in ?_
      exact ap_go (by kernel_rfl) (sub_mk idn (by exact ⟨ai rfl, ai rfl, ai rfl, ai rfl, ai rfl, ai rfl, ai rfl, ai rfl, trivial⟩) (by exact ⟨⟨_, rfl, ⟨rfl, trivial⟩⟩, ⟨_, rfl, ⟨rfl, trivial⟩⟩, ⟨_, rfl, ⟨ad_ren rfl, rfl, ad_ren rfl, rfl, ad_ren rfl, rfl, trivial⟩⟩, trivial⟩) (by rfl) (nk rfl)) k95
    · refine apo_ao rfl ?_
      refine ao_callV [2] 3 trivial (c_spec_l1Cur_pick (is_mk r2h)) Try.func84 rfl rfl rfl rfl rfl ⟨rfl, trivial⟩ ⟨⟨_, rfl, ⟨ad_ren rfl, rfl, ad_ren rfl, rfl, ad_ren rfl, rfl, trivial⟩⟩, trivial⟩ rfl rfl rfl rfl rfl rfl rfl (fun r' H' hr => ?_)
      obtain ⟨rfl, rfl⟩ := hr
      refine ao_norm (y := .int .i64 r2.1) (H' := [(0, .var [.arr (.int .i64) 6 ((List.replicate 6 0) : (List Int))]), (1, .var [.arr (.int .i64) 6 r1.1]), (2, .var [.cell (.v (.slice (.int .u8)) x0), .cell (.int .i64 r2.2.1), .cell (.int .u64 r2.2.2)])]) rfl rfl ?_
      refine ao_nil ?_
      refine ap_in ?_
      refine ap_pure 11 (by kernel_rfl) (fun _ _ _ h => h) rfl (by kernel_rfl) trivial (rp_quo rfl rfl (by decide)) rfl ?_
      refine ap_pure 12 (by kernel_rfl) (fun _ _ _ h => h) rfl (by kernel_rfl) trivial (rp_add rfl rfl) rfl ?_
      exact ap_go (by kernel_rfl) (sub_mk idn (by exact ⟨ai rfl, ai rfl, ai rfl, ai rfl, ai rfl, ai rfl, ai rfl, trivial⟩) (by exact ⟨⟨_, rfl, ⟨rfl, trivial⟩⟩, ⟨_, rfl, ⟨rfl, trivial⟩⟩, ⟨_, rfl, ⟨ad_ren rfl, rfl, ad_ren rfl, rfl, ad_ren rfl, rfl, trivial⟩⟩, trivial⟩) (by rfl) (nk rfl)) k99
  refine ap_let (g := 13) (listed := #[false, true, true, false, false, false, true, false, false, true, false, false, false, false, false, false, false]) [(2, .ref 0 0), (3, .int .i64 0), (5, .ref 1 0), (12, .ref 2 0), (13, .elem 1 0 1 0), (17, .elem 1 0 1 2), (20, .ref 2 0)] [(0, .var [.arr (.int .i64) 6 ((List.replicate 6 0) : (List Int))]), (1, .var [.arr (.int .i64) 6 r1.1]), (2, .var [.cell (.v (.slice (.int .u8)) x0), .cell (.int .i64 r1.2.1), .cell (.int .u64 r1.2.2)])] ?_ (fun k100 => ?_)
  · refine ap_all [0, 3, 4, 7, 10] (by kernel_rfl) ⟨?_, ?_, ?_, ?_, ?_, trivial⟩
    · refine apo_ao rfl ?_
      refine ao_read trivial (r_load_arr rfl Try.isAgg47 Try.sizeOf47 rfl rfl rfl) rfl ?_
      refine ao_nil ?_
      refine ap_in ?_
      exact ap_go (by kernel_rfl) (sub_mk idn (by exact ⟨ai rfl, ai rfl, ai rfl, ai rfl, ai rfl, ai rfl, ai rfl, ai rfl, trivial⟩) (by exact ⟨⟨_, rfl, ⟨rfl, trivial⟩⟩, ⟨_, rfl, ⟨rfl, trivial⟩⟩, ⟨_, rfl, ⟨ad_ren rfl, rfl, ad_ren rfl, rfl, ad_ren rfl, rfl, trivial⟩⟩, trivial⟩) (by rfl) (nk rfl)) k43
    · refine apo_ao rfl ?_
      refine ao_read trivial (r_load_elema_int Try.isAgg3 Try.sizeOf3 rfl rfl rfl (show 0 < 6 from by omega)) rfl ?_
      refine ao_nil ?_
      refine ap_in ?_
      exact ap_go (by kernel_rfl) (sub_mk idn (by exact ⟨ai rfl, ai rfl, ai rfl, ai rfl, ai rfl, ai rfl, ai rfl, trivial⟩) (by exact ⟨⟨_, rfl, ⟨rfl, trivial⟩⟩, ⟨_, rfl, ⟨rfl, trivial⟩⟩, ⟨_, rfl, ⟨ad_ren rfl, rfl, ad_ren rfl, rfl, ad_ren rfl, rfl, trivial⟩⟩, trivial⟩) (by rfl) (nk rfl)) k83
    · refine apo_ao rfl ?_
      refine ao_read trivial (r_idxAddr_arr (i := 5) Try.underlying47 Try.sizeOf3 rfl rfl (show 0 ≤ 5 from by omega) (show 5 < (6 : Int) from by omega)) rfl ?_
      refine ao_nil ?_
      refine ap_in ?_
      exact ap_go (by kernel_rfl) (sub_mk idn (by exact ⟨ai rfl, ai rfl, ai rfl, ai rfl, ai rfl, ai rfl, ai rfl, ai rfl, trivial⟩) (by exact ⟨⟨_, rfl, ⟨rfl, trivial⟩⟩, ⟨_, rfl, ⟨rfl, trivial⟩⟩, ⟨_, rfl, ⟨ad_ren rfl, rfl, ad_ren rfl, rfl, ad_ren rfl, rfl, trivial⟩⟩, trivial⟩) (by rfl) (nk rfl)) k95
    · refine apo_ao rfl ?_
      refine ao_read trivial (r_load_elema_int Try.isAgg3 Try.sizeOf3 rfl rfl rfl (show 2 < 6 from by omega)) rfl ?_
      refine ao_nil ?_
      refine ap_in ?_
      exact ap_go (by kernel_rfl) (sub_mk idn (by exact ⟨ai rfl, ai rfl, ai rfl, ai rfl, ai rfl, ai rfl, ai rfl, trivial⟩) (by exact ⟨⟨_, rfl, ⟨rfl, trivial⟩⟩, ⟨_, rfl, ⟨rfl, trivial⟩⟩, ⟨_, rfl, ⟨ad_ren rfl, rfl, ad_ren rfl, rfl, ad_ren rfl, rfl, trivial⟩⟩, trivial⟩) (by rfl) (nk rfl)) k101
    · refine apo_ao rfl ?_
      refine ao_callV [2] 3 trivial (c_spec_l1Cur_pick (is_mk r2h)) Try.func84 rfl rfl rfl rfl rfl ⟨rfl, trivial⟩ ⟨⟨_, rfl, ⟨ad_ren rfl, rfl, ad_ren rfl, rfl, ad_ren rfl, rfl, trivial⟩⟩, trivial⟩ rfl rfl rfl rfl rfl rfl rfl (fun r' H' hr => ?_)
      obtain ⟨rfl, rfl⟩ := hr
      refine ao_norm (y := .int .i64 r2.1) (H' := [(0, .var [.arr (.int .i64) 6 ((List.replicate 6 0) : (List Int))]), (1, .var [.arr (.int .i64) 6 r1.1]), (2, .var [.cell (.v (.slice (.int .u8)) x0), .cell (.int .i64 r2.2.1), .cell (.int .u64 r2.2.2)])]) rfl rfl ?_
      refine ao_nil ?_
      refine ap_in ?_
      refine ap_pure 11 (by kernel_rfl) (fun _ _ _ h => h) rfl (by kernel_rfl) trivial (rp_quo rfl rfl (by decide)) rfl ?_
      refine ap_pure 12 (by kernel_rfl) (fun _ _ _ h => h) rfl (by kernel_rfl) trivial (rp_add rfl rfl) rfl ?_
      exact ap_go (by kernel_rfl) (sub_mk idn (by exact ⟨ai rfl, ai rfl, ai rfl, ai rfl, ai rfl, ai rfl, ai rfl, trivial⟩) (by exact ⟨⟨_, rfl, ⟨rfl, trivial⟩⟩, ⟨_, rfl, ⟨rfl, trivial⟩⟩, ⟨_, rfl, ⟨ad_ren rfl, rfl, ad_ren rfl, rfl, ad_ren rfl, rfl, trivial⟩⟩, trivial⟩) (by rfl) (nk rfl)) k103
  refine ap_let (g := 13) (listed := #[false, true, false, false, true, true, false, false, false, true, false, false, false, false, false, false, false]) [(2, .ref 0 0), (3, .int .i64 0), (5, .ref 1 0), (12, .ref 2 0), (16, .int .i64 (r1.1.getD 5 0)), (20, .ref 2 0)] [(0, .var [.arr (.int .i64) 6 ((List.replicate 6 0) : (List Int))]), (1, .var [.arr (.int .i64) 6 r1.1]), (2, .var [.cell (.v (.slice (.int .u8)) x0), .cell (.int .i64 r1.2.1), .cell (.int .u64 r1.2.2)])] ?_ (fun k106 => ?_)
  · refine ap_all [0, 2, 6, 10] (by kernel_rfl) ⟨?_, ?_, ?_, ?_, trivial⟩
    · refine apo_ao rfl ?_
      refine ao_read trivial (r_load_arr rfl Try.isAgg47 Try.sizeOf47 rfl rfl rfl) rfl ?_
      refine ao_nil ?_
      refine ap_in ?_
      exact ap_go (by kernel_rfl) (sub_mk idn (by exact ⟨ai rfl, ai rfl, ai rfl, ai rfl, ai rfl, ai rfl, ai rfl, trivial⟩) (by exact ⟨⟨_, rfl, ⟨rfl, trivial⟩⟩, ⟨_, rfl, ⟨rfl, trivial⟩⟩, ⟨_, rfl, ⟨ad_ren rfl, rfl, ad_ren rfl, rfl, ad_ren rfl, rfl, trivial⟩⟩, trivial⟩) (by rfl) (nk rfl)) k49
    · refine apo_ao rfl ?_
      refine ao_read trivial (r_idxAddr_arr (i := 0) Try.underlying47 Try.sizeOf3 rfl rfl (show 0 ≤ 0 from by omega) (show 0 < (6 : Int) from by omega)) rfl ?_
      refine ao_nil ?_
      refine ap_in ?_
      exact ap_go (by kernel_rfl) (sub_mk idn (by exact ⟨ai rfl, ai rfl, ai rfl, ai rfl, ai rfl, ai rfl, ai rfl, trivial⟩) (by exact ⟨⟨_, rfl, ⟨rfl, trivial⟩⟩, ⟨_, rfl, ⟨rfl, trivial⟩⟩, ⟨_, rfl, ⟨ad_ren rfl, rfl, ad_ren rfl, rfl, ad_ren rfl, rfl, trivial⟩⟩, trivial⟩) (by rfl) (nk rfl)) k89
    · refine apo_ao rfl ?_
      refine ao_read trivial (r_idxAddr_arr (i := 2) Try.underlying47 Try.sizeOf3 rfl rfl (show 0 ≤ 2 from by omega) (show 2 < (6 : Int) from by omega)) rfl ?_
      refine ao_nil ?_
      refine ap_in ?_
      exact ap_go (by kernel_rfl) (sub_mk idn (by exact ⟨ai rfl, ai rfl, ai rfl, ai rfl, ai rfl, ai rfl, ai rfl, trivial⟩) (by exact ⟨⟨_, rfl, ⟨rfl, trivial⟩⟩, ⟨_, rfl, ⟨rfl, trivial⟩⟩, ⟨_, rfl, ⟨ad_ren rfl, rfl, ad_ren rfl, rfl, ad_ren rfl, rfl, trivial⟩⟩, trivial⟩) (by rfl) (nk rfl)) k107
    · refine apo_ao rfl ?_
      refine ao_callV [2] 3 trivial (c_spec_l1Cur_pick (is_mk r2h)) Try.func84 rfl rfl rfl rfl rfl ⟨rfl, trivial⟩ ⟨⟨_, rfl, ⟨ad_ren rfl, rfl, ad_ren rfl, rfl, ad_ren rfl, rfl, trivial⟩⟩, trivial⟩ rfl rfl rfl rfl rfl rfl rfl (fun r' H' hr => ?_)
      obtain ⟨rfl, rfl⟩ := hr
      refine ao_norm (y := .int .i64 r2.1) (H' := [(0, .var [.arr (.int .i64) 6 ((List.replicate 6 0) : (List Int))]), (1, .var [.arr (.int .i64) 6 r1.1]), (2, .var [.cell (.v (.slice (.int .u8)) x0), .cell (.int .i64 r2.2.1), .cell (.int .u64 r2.2.2)])]) rfl rfl ?_
      refine ao_nil ?_
      refine ap_in ?_
      refine ap_pure 11 (by kernel_rfl) (fun _ _ _ h => h) rfl (by kernel_rfl) trivial (rp_quo rfl rfl (by decide)) rfl ?_
      refine ap_pure 12 (by kernel_rfl) (fun _ _ _ h => h) rfl (by kernel_rfl) trivial (rp_add rfl rfl) rfl ?_
      exact ap_go (by kernel_rfl) (sub_mk idn (by exact ⟨ai rfl, ai rfl, ai rfl, ai rfl, ai rfl, ai rfl, trivial⟩) (by exact ⟨⟨_, rfl, ⟨rfl, trivial⟩⟩, ⟨_, rfl, ⟨rfl, trivial⟩⟩, ⟨_, rfl, ⟨ad_ren rfl, rfl, ad_ren rfl, rfl, ad_ren rfl, rfl, trivial⟩⟩, trivial⟩) (by rfl) (nk rfl)) k111
  refine ap_let (g := 13) (listed := #[false, true, false, false, true, false, true, false, false, true, false, false, false, false, false, false, false]) [(2, .ref 0 0), (3, .int .i64 0), (5, .ref 1 0), (12, .ref 2 0), (15, .elem 1 0 1 5), (17, .elem 1 0 1 2), (20, .ref 2 0)] [(0, .var [.arr (.int .i64) 6 ((List.replicate 6 0) : (List Int))]), (1, .var [.arr (.int .i64) 6 r1.1]), (2, .var [.cell (.v (.slice (.int .u8)) x0), .cell (.int .i64 r1.2.1), .cell (.int .u64 r1.2.2)])] ?_ (fun k112 => ?_)
  · refine ap_all [0, 2, 5, 7, 10] (by kernel_rfl) ⟨?_, ?_, ?_, ?_, ?_, trivial⟩
    · refine apo_ao rfl ?_
      refine ao_read trivial (r_load_arr rfl Try.isAgg47 Try.sizeOf47 rfl rfl rfl) rfl ?_
      refine ao_nil ?_
      refine ap_in ?_
      exact ap_go (by kernel_rfl) (sub_mk idn (by exact ⟨ai rfl, ai rfl, ai rfl, ai rfl, ai rfl, ai rfl, ai rfl, ai rfl, trivial⟩) (by exact ⟨⟨_, rfl, ⟨rfl, trivial⟩⟩, ⟨_, rfl, ⟨rfl, trivial⟩⟩, ⟨_, rfl, ⟨ad_ren rfl, rfl, ad_ren rfl, rfl, ad_ren rfl, rfl, trivial⟩⟩, trivial⟩) (by rfl) (nk rfl)) k55
    · refine apo_ao rfl ?_
      refine ao_read trivial (r_idxAddr_arr (i := 0) Try.underlying47 Try.sizeOf3 rfl rfl (show 0 ≤ 0 from by omega) (show 0 < (6 : Int) from by omega)) rfl ?_
      refine ao_nil ?_
      refine ap_in ?_
      exact ap_go (by kernel_rfl) (sub_mk idn (by exact ⟨ai rfl, ai rfl, ai rfl, ai rfl, ai rfl, ai rfl, ai rfl, ai rfl, trivial⟩) (by exact ⟨⟨_, rfl, ⟨rfl, trivial⟩⟩, ⟨_, rfl, ⟨rfl, trivial⟩⟩, ⟨_, rfl, ⟨ad_ren rfl, rfl, ad_ren rfl, rfl, ad_ren rfl, rfl, trivial⟩⟩, trivial⟩) (by rfl) (nk rfl)) k95
    · refine apo_ao rfl ?_
      refine ao_read trivial (r_load_elema_int Try.isAgg3 Try.sizeOf3 rfl rfl rfl (show 5 < 6 from by omega)) rfl ?_
      refine ao_nil ?_
      refine ap_in ?_
      exact ap_go (by kernel_rfl) (sub_mk idn (by exact ⟨ai rfl, ai rfl, ai rfl, ai rfl, ai rfl, ai rfl, ai rfl, trivial⟩) (by exact ⟨⟨_, rfl, ⟨rfl, trivial⟩⟩, ⟨_, rfl, ⟨rfl, trivial⟩⟩, ⟨_, rfl, ⟨ad_ren rfl, rfl, ad_ren rfl, rfl, ad_ren rfl, rfl, trivial⟩⟩, trivial⟩) (by rfl) (nk rfl)) k107
    · refine apo_ao rfl ?_
      refine ao_read trivial (r_load_elema_int Try.isAgg3 Try.sizeOf3 rfl rfl rfl (show 2 < 6 from by omega)) rfl ?_
      refine ao_nil ?_
      refine ap_in ?_
      exact ap_go (by kernel_rfl) (sub_mk idn (by exact ⟨ai rfl, ai rfl, ai rfl, ai rfl, ai rfl, ai rfl, ai rfl, trivial⟩) (by exact ⟨⟨_, rfl, ⟨rfl, trivial⟩⟩, ⟨_, rfl, ⟨rfl, trivial⟩⟩, ⟨_, rfl, ⟨ad_ren rfl, rfl, ad_ren rfl, rfl, ad_ren rfl, rfl, trivial⟩⟩, trivial⟩) (by rfl) (nk rfl)) k113
    · refine apo_ao rfl ?_
      refine ao_callV [2] 3 trivial (c_spec_l1Cur_pick (is_mk r2h)) Try.func84 rfl rfl rfl rfl rfl ⟨rfl, trivial⟩ ⟨⟨_, rfl, ⟨ad_ren rfl, rfl, ad_ren rfl, rfl, ad_ren rfl, rfl, trivial⟩⟩, trivial⟩ rfl rfl rfl rfl rfl rfl rfl (fun r' H' hr => ?_)
      obtain ⟨rfl, rfl⟩ := hr
      refine ao_norm (y := .int .i64 r2.1) (H' := [(0, .var [.arr (.int .i64) 6 ((List.replicate 6 0) : (List Int))]), (1, .var [.arr (.int .i64) 6 r1.1]), (2, .var [.cell (.v (.slice (.int .u8)) x0), .cell (.int .i64 r2.2.1), .cell (.int .u64 r2.2.2)])]) rfl rfl ?_
      refine ao_nil ?_
      refine ap_in ?_
      refine ap_pure 11 (by kernel_rfl) (fun _ _ _ h => h) rfl (by kernel_rfl) trivial (rp_quo rfl rfl (by decide)) rfl ?_
      refine ap_pure 12 (by kernel_rfl) (fun _ _ _ h => h) rfl (by kernel_rfl) trivial (rp_add rfl rfl) rfl ?_
      exact ap_go (by kernel_rfl) (sub_mk idn (by exact ⟨ai rfl, ai rfl, ai rfl, ai rfl, ai rfl, ai rfl, ai rfl, trivial⟩) (by exact ⟨⟨_, rfl, ⟨rfl, trivial⟩⟩, ⟨_, rfl, ⟨rfl, trivial⟩⟩, ⟨_, rfl, ⟨ad_ren rfl, rfl, ad_ren rfl, rfl, ad_ren rfl, rfl, trivial⟩⟩, trivial⟩) (by rfl) (nk rfl)) k115
  refine ap_let (g := 13) (listed := #[false, true, false, false, false, false, true, true, false, true, false, false, false, false, false, false, false]) [(2, .ref 0 0), (3, .int .i64 0), (5, .ref 1 0), (12, .ref 2 0), (18, .int .i64 (r1.1.getD 2 0)), (20, .ref 2 0)] [(0, .var [.arr (.int .i64) 6 ((List.replicate 6 0) : (List Int))]), (1, .var [.arr (.int .i64) 6 r1.1]), (2, .var [.cell (.v (.slice (.int .u8)) x0), .cell (.int .i64 r1.2.1), .cell (.int .u64 r1.2.2)])] ?_ (fun k118 => ?_)
  · refine ap_all [0, 2, 4, 10] (by kernel_rfl) ⟨?_, ?_, ?_, ?_, trivial⟩
    · refine apo_ao rfl ?_
      refine ao_read trivial (r_load_arr rfl Try.isAgg47 Try.sizeOf47 rfl rfl rfl) rfl ?_
      refine ao_nil ?_
      refine ap_in ?_
      exact ap_go (by kernel_rfl) (sub_mk idn (by exact ⟨ai rfl, ai rfl, ai rfl, ai rfl, ai rfl, ai rfl, ai rfl, trivial⟩) (by exact ⟨⟨_, rfl, ⟨rfl, trivial⟩⟩, ⟨_, rfl, ⟨rfl, trivial⟩⟩, ⟨_, rfl, ⟨ad_ren rfl, rfl, ad_ren rfl, rfl, ad_ren rfl, rfl, trivial⟩⟩, trivial⟩) (by rfl) (nk rfl)) k61
    · refine apo_ao rfl ?_
      refine ao_read trivial (r_idxAddr_arr (i := 0) Try.underlying47 Try.sizeOf3 rfl rfl (show 0 ≤ 0 from by omega) (show 0 < (6 : Int) from by omega)) rfl ?_
      refine ao_nil ?_
      refine ap_in ?_
      exact ap_go (by kernel_rfl) (sub_mk idn (by exact ⟨ai rfl, ai rfl, ai rfl, ai rfl, ai rfl, ai rfl, ai rfl, trivial⟩) (by exact ⟨⟨_, rfl, ⟨rfl, trivial⟩⟩, ⟨_, rfl, ⟨rfl, trivial⟩⟩, ⟨_, rfl, ⟨ad_ren rfl, rfl, ad_ren rfl, rfl, ad_ren rfl, rfl, trivial⟩⟩, trivial⟩) (by rfl) (nk rfl)) k101
    · refine apo_ao rfl ?_
      refine ao_read trivial (r_idxAddr_arr (i := 5) Try.underlying47 Try.sizeOf3 rfl rfl (show 0 ≤ 5 from by omega) (show 5 < (6 : Int) from by omega)) rfl ?_
      refine ao_nil ?_
      refine ap_in ?_
      exact ap_go (by kernel_rfl) (sub_mk idn (by exact ⟨ai rfl, ai rfl, ai rfl, ai rfl, ai rfl, ai rfl, ai rfl, trivial⟩) (by exact ⟨⟨_, rfl, ⟨rfl, trivial⟩⟩, ⟨_, rfl, ⟨rfl, trivial⟩⟩, ⟨_, rfl, ⟨ad_ren rfl, rfl, ad_ren rfl, rfl, ad_ren rfl, rfl, trivial⟩⟩, trivial⟩) (by rfl) (nk rfl)) k113
    · refine apo_ao rfl ?_
      refine ao_callV [2] 3 trivial (c_spec_l1Cur_pick (is_mk r2h)) Try.func84 rfl rfl rfl rfl rfl ⟨rfl, trivial⟩ ⟨⟨_, rfl, ⟨ad_ren rfl, rfl, ad_ren rfl, rfl, ad_ren rfl, rfl, trivial⟩⟩, trivial⟩ rfl rfl rfl rfl rfl rfl rfl (fun r' H' hr => ?_)
      obtain ⟨rfl, rfl⟩ := hr
      refine ao_norm (y := .int .i64 r2.1) (H' := [(0, .var [.arr (.int .i64) 6 ((List.replicate 6 0) : (List Int))]), (1, .var [.arr (.int .i64) 6 r1.1]), (2, .var [.cell (.v (.slice (.int .u8)) x0), .cell (.int .i64 r2.2.1), .cell (.int .u64 r2.2.2)])]) rfl rfl ?_
      refine ao_nil ?_
      refine ap_in ?_
      refine ap_pure 11 (by kernel_rfl) (fun _ _ _ h => h) rfl (by kernel_rfl) trivial (rp_quo rfl rfl (by decide)) rfl ?_
      refine ap_pure 12 (by kernel_rfl) (fun _ _ _ h => h) rfl (by kernel_rfl) trivial (rp_add rfl rfl) rfl ?_
      exact ap_go (by kernel_rfl) (sub_mk idn (by exact ⟨ai rfl, ai rfl, ai rfl, ai rfl, ai rfl, ai rfl, trivial⟩) (by exact ⟨⟨_, rfl, ⟨rfl, trivial⟩⟩, ⟨_, rfl, ⟨rfl, trivial⟩⟩, ⟨_, rfl, ⟨ad_ren rfl, rfl, ad_ren rfl, rfl, ad_ren rfl, rfl, trivial⟩⟩, trivial⟩) (by rfl) (nk rfl)) k119
  refine ap_let (g := 14) (listed := #[true, true, false, false, false, false, false, false, false, true, false, false, false, false, false, false, false]) [(2, .ref 0 0), (3, .int .i64 0), (5, .ref 1 0), (11, .v (.arr 6 (.int .i64)) r1.1), (12, .ref 2 0), (20, .ref 2 0)] [(0, .var [.arr (.int .i64) 6 ((List.replicate 6 0) : (List Int))]), (1, .var [.arr (.int .i64) 6 r1.1]), (2, .var [.cell (.v (.slice (.int .u8)) x0), .cell (.int .i64 r1.2.1), .cell (.int .u64 r1.2.2)])] ?_ (fun k7 => ?_)
  · refine ap_all [2, 4, 6, 10] (by kernel_rfl) ⟨?_, ?_, ?_, ?_, trivial⟩
    · refine apo_ao rfl ?_
      refine ao_read trivial (r_idxAddr_arr (i := 0) Try.underlying47 Try.sizeOf3 rfl rfl (show 0 ≤ 0 from by omega) (show 0 < (6 : Int) from by omega)) rfl ?_
      refine ao_nil ?_
      refine ap_in ?_
      exact ap_go (by kernel_rfl) (sub_mk idn (by exact ⟨ai rfl, ai rfl, ai rfl, ai rfl, ai rfl, ai rfl, ai rfl, trivial⟩) (by exact ⟨⟨_, rfl, ⟨rfl, trivial⟩⟩, ⟨_, rfl, ⟨rfl, trivial⟩⟩, ⟨_, rfl, ⟨ad_ren rfl, rfl, ad_ren rfl, rfl, ad_ren rfl, rfl, trivial⟩⟩, trivial⟩) (by rfl) (nk rfl)) k8
    · refine apo_ao rfl ?_
      refine ao_read trivial (r_idxAddr_arr (i := 5) Try.underlying47 Try.sizeOf3 rfl rfl (show 0 ≤ 5 from by omega) (show 5 < (6 : Int) from by omega)) rfl ?_
      refine ao_nil ?_
      refine ap_in ?_
      exact ap_go (by kernel_rfl) (sub_mk idn (by exact ⟨ai rfl, ai rfl, ai rfl, ai rfl, ai rfl, ai rfl, ai rfl, trivial⟩) (by exact ⟨⟨_, rfl, ⟨rfl, trivial⟩⟩, ⟨_, rfl, ⟨rfl, trivial⟩⟩, ⟨_, rfl, ⟨ad_ren rfl, rfl, ad_ren rfl, rfl, ad_ren rfl, rfl, trivial⟩⟩, trivial⟩) (by rfl) (nk rfl)) k48
    · refine apo_ao rfl ?_
      refine ao_read trivial (r_idxAddr_arr (i := 2) Try.underlying47 Try.sizeOf3 rfl rfl (show 0 ≤ 2 from by omega) (show 2 < (6 : Int) from by omega)) rfl ?_
      refine ao_nil ?_
      refine ap_in ?_
      exact ap_go (by kernel_rfl) (sub_mk idn (by exact ⟨ai rfl, ai rfl, ai rfl, ai rfl, ai rfl, ai rfl, ai rfl, trivial⟩) (by exact ⟨⟨_, rfl, ⟨rfl, trivial⟩⟩, ⟨_, rfl, ⟨rfl, trivial⟩⟩, ⟨_, rfl, ⟨ad_ren rfl, rfl, ad_ren rfl, rfl, ad_ren rfl, rfl, trivial⟩⟩, trivial⟩) (by rfl) (nk rfl)) k60
    · refine apo_ao rfl ?_
      refine ao_callV [2] 3 trivial (c_spec_l1Cur_pick (is_mk r2h)) Try.func84 rfl rfl rfl rfl rfl ⟨rfl, trivial⟩ ⟨⟨_, rfl, ⟨ad_ren rfl, rfl, ad_ren rfl, rfl, ad_ren rfl, rfl, trivial⟩⟩, trivial⟩ rfl rfl rfl rfl rfl rfl rfl (fun r' H' hr => ?_)
      obtain ⟨rfl, rfl⟩ := hr
      refine ao_norm (y := .int .i64 r2.1) (H' := [(0, .var [.arr (.int .i64) 6 ((List.replicate 6 0) : (List Int))]), (1, .var [.arr (.int .i64) 6 r1.1]), (2, .var [.cell (.v (.slice (.int .u8)) x0), .cell (.int .i64 r2.2.1), .cell (.int .u64 r2.2.2)])]) rfl rfl ?_
      refine ao_nil ?_
      refine ap_in ?_
      refine ap_pure 11 (by kernel_rfl) (fun _ _ _ h => h) rfl (by kernel_rfl) trivial (rp_quo rfl rfl (by decide)) rfl ?_
      refine ap_pure 12 (by kernel_rfl) (fun _ _ _ h => h) rfl (by kernel_rfl) trivial (rp_add rfl rfl) rfl ?_
      exact ap_go (by kernel_rfl) (sub_mk idn (by exact ⟨ai rfl, ai rfl, ai rfl, ai rfl, ai rfl, ai rfl, trivial⟩) (by exact ⟨⟨_, rfl, ⟨rfl, trivial⟩⟩, ⟨_, rfl, ⟨rfl, trivial⟩⟩, ⟨_, rfl, ⟨ad_ren rfl, rfl, ad_ren rfl, rfl, ad_ren rfl, rfl, trivial⟩⟩, trivial⟩) (by rfl) (nk rfl)) k64
  refine ap_let (g := 14) (listed := #[false, true, true, false, false, false, false, false, false, true, false, false, false, false, false, false, false]) [(2, .ref 0 0), (3, .int .i64 0), (5, .ref 1 0), (12, .ref 2 0), (13, .elem 1 0 1 0), (20, .ref 2 0)] [(0, .var [.arr (.int .i64) 6 ((List.replicate 6 0) : (List Int))]), (1, .var [.arr (.int .i64) 6 r1.1]), (2, .var [.cell (.v (.slice (.int .u8)) x0), .cell (.int .i64 r1.2.1), .cell (.int .u64 r1.2.2)])] ?_ (fun k65 => ?_)
  · refine ap_all [0, 3, 4, 6, 10] (by kernel_rfl) ⟨?_, ?_, ?_, ?_, ?_, trivial⟩
    · refine apo_ao rfl ?_
      refine ao_read trivial (r_load_arr rfl Try.isAgg47 Try.sizeOf47 rfl rfl rfl) rfl ?_
      refine ao_nil ?_
      refine ap_in ?_
      exact ap_go (by kernel_rfl) (sub_mk idn (by exact ⟨ai rfl, ai rfl, ai rfl, ai rfl, ai rfl, ai rfl, ai rfl, trivial⟩) (by exact ⟨⟨_, rfl, ⟨rfl, trivial⟩⟩, ⟨_, rfl, ⟨rfl, trivial⟩⟩, ⟨_, rfl, ⟨ad_ren rfl, rfl, ad_ren rfl, rfl, ad_ren rfl, rfl, trivial⟩⟩, trivial⟩) (by rfl) (nk rfl)) k8
    · refine apo_ao rfl ?_
      refine ao_read trivial (r_load_elema_int Try.isAgg3 Try.sizeOf3 rfl rfl rfl (show 0 < 6 from by omega)) rfl ?_
      refine ao_nil ?_
      refine ap_in ?_
      exact ap_go (by kernel_rfl) (sub_mk idn (by exact ⟨ai rfl, ai rfl, ai rfl, ai rfl, ai rfl, ai rfl, trivial⟩) (by exact ⟨⟨_, rfl, ⟨rfl, trivial⟩⟩, ⟨_, rfl, ⟨rfl, trivial⟩⟩, ⟨_, rfl, ⟨ad_ren rfl, rfl, ad_ren rfl, rfl, ad_ren rfl, rfl, trivial⟩⟩, trivial⟩) (by rfl) (nk rfl)) k66
    · refine apo_ao rfl ?_
      refine ao_read trivial (r_idxAddr_arr (i := 5) Try.underlying47 Try.sizeOf3 rfl rfl (show 0 ≤ 5 from by omega) (show 5 < (6 : Int) from by omega)) rfl ?_
      refine ao_nil ?_
      refine ap_in ?_
      exact ap_go (by kernel_rfl) (sub_mk idn (by exact ⟨ai rfl, ai rfl, ai rfl, ai rfl, ai rfl, ai rfl, ai rfl, trivial⟩) (by exact ⟨⟨_, rfl, ⟨rfl, trivial⟩⟩, ⟨_, rfl, ⟨rfl, trivial⟩⟩, ⟨_, rfl, ⟨ad_ren rfl, rfl, ad_ren rfl, rfl, ad_ren rfl, rfl, trivial⟩⟩, trivial⟩) (by rfl) (nk rfl)) k88
    · refine apo_ao rfl ?_
      refine ao_read trivial (r_idxAddr_arr (i := 2) Try.underlying47 Try.sizeOf3 rfl rfl (show 0 ≤ 2 from by omega) (show 2 < (6 : Int) from by omega)) rfl ?_
      refine ao_nil ?_
      refine ap_in ?_
      exact ap_go (by kernel_rfl) (sub_mk idn (by exact ⟨ai rfl, ai rfl, ai rfl, ai rfl, ai rfl, ai rfl, ai rfl, trivial⟩) (by exact ⟨⟨_, rfl, ⟨rfl, trivial⟩⟩, ⟨_, rfl, ⟨rfl, trivial⟩⟩, ⟨_, rfl, ⟨ad_ren rfl, rfl, ad_ren rfl, rfl, ad_ren rfl, rfl, trivial⟩⟩, trivial⟩) (by rfl) (nk rfl)) k100
    · refine apo_ao rfl ?_
      refine ao_callV [2] 3 trivial (c_spec_l1Cur_pick (is_mk r2h)) Try.func84 rfl rfl rfl rfl rfl ⟨rfl, trivial⟩ ⟨⟨_, rfl, ⟨ad_ren rfl, rfl, ad_ren rfl, rfl, ad_ren rfl, rfl, trivial⟩⟩, trivial⟩ rfl rfl rfl rfl rfl rfl rfl (fun r' H' hr => ?_)
      obtain ⟨rfl, rfl⟩ := hr
      refine ao_norm (y := .int .i64 r2.1) (H' := [(0, .var [.arr (.int .i64) 6 ((List.replicate 6 0) : (List Int))]), (1, .var [.arr (.int .i64) 6 r1.1]), (2, .var [.cell (.v (.slice (.int .u8)) x0), .cell (.int .i64 r2.2.1), .cell (.int .u64 r2.2.2)])]) rfl rfl ?_
      refine ao_nil ?_
      refine ap_in ?_
      refine ap_pure 11 (by kernel_rfl) (fun _ _ _ h => h) rfl (by kernel_rfl) trivial (rp_quo rfl rfl (by decide)) rfl ?_
      refine ap_pure 12 (by kernel_rfl) (fun _ _ _ h => h) rfl (by kernel_rfl) trivial (rp_add rfl rfl) rfl ?_
      exact ap_go (by kernel_rfl) (sub_mk idn (by exact ⟨ai rfl, ai rfl, ai rfl, ai rfl, ai rfl, ai rfl, trivial⟩) (by exact ⟨⟨_, rfl, ⟨rfl, trivial⟩⟩, ⟨_, rfl, ⟨rfl, trivial⟩⟩, ⟨_, rfl, ⟨ad_ren rfl, rfl, ad_ren rfl, rfl, ad_ren rfl, rfl, trivial⟩⟩, trivial⟩) (by rfl) (nk rfl)) k104
  refine ap_let (g := 14) (listed := #[false, true, false, false, true, false, false, false, false, true, false, false, false, false, false, false, false]) [(2, .ref 0 0), (3, .int .i64 0), (5, .ref 1 0), (12, .ref 2 0), (15, .elem 1 0 1 5), (20, .ref 2 0)] [(0, .var [.arr (.int .i64) 6 ((List.replicate 6 0) : (List Int))]), (1, .var [.arr (.int .i64) 6 r1.1]), (2, .var [.cell (.v (.slice (.int .u8)) x0), .cell (.int .i64 r1.2.1), .cell (.int .u64 r1.2.2)])] ?_ (fun k105 => ?_)
  · refine ap_all [0, 2, 5, 6, 10] (by kernel_rfl) ⟨?_, ?_, ?_, ?_, ?_, trivial⟩
    · refine apo_ao rfl ?_
      refine ao_read trivial (r_load_arr rfl Try.isAgg47 Try.sizeOf47 rfl rfl rfl) rfl ?_
      refine ao_nil ?_
      refine ap_in ?_
      exact ap_go (by kernel_rfl) (sub_mk idn (by exact ⟨ai rfl, ai rfl, ai rfl, ai rfl, ai rfl, ai rfl, ai rfl, trivial⟩) (by exact ⟨⟨_, rfl, ⟨rfl, trivial⟩⟩, ⟨_, rfl, ⟨rfl, trivial⟩⟩, ⟨_, rfl, ⟨ad_ren rfl, rfl, ad_ren rfl, rfl, ad_ren rfl, rfl, trivial⟩⟩, trivial⟩) (by rfl) (nk rfl)) k48
    · refine apo_ao rfl ?_
      refine ao_read trivial (r_idxAddr_arr (i := 0) Try.underlying47 Try.sizeOf3 rfl rfl (show 0 ≤ 0 from by omega) (show 0 < (6 : Int) from by omega)) rfl ?_
      refine ao_nil ?_
      refine ap_in ?_
      exact ap_go (by kernel_rfl) (sub_mk idn (by exact ⟨ai rfl, ai rfl, ai rfl, ai rfl, ai rfl, ai rfl, ai rfl, trivial⟩) (by exact ⟨⟨_, rfl, ⟨rfl, trivial⟩⟩, ⟨_, rfl, ⟨rfl, trivial⟩⟩, ⟨_, rfl, ⟨ad_ren rfl, rfl, ad_ren rfl, rfl, ad_ren rfl, rfl, trivial⟩⟩, trivial⟩) (by rfl) (nk rfl)) k88
    · refine apo_ao rfl ?_
      refine ao_read trivial (r_load_elema_int Try.isAgg3 Try.sizeOf3 rfl rfl rfl (show 5 < 6 from by omega)) rfl ?_
      refine ao_nil ?_
      refine ap_in ?_
      exact ap_go (by kernel_rfl) (sub_mk idn (by exact ⟨ai rfl, ai rfl, ai rfl, ai rfl, ai rfl, ai rfl, trivial⟩) (by exact ⟨⟨_, rfl, ⟨rfl, trivial⟩⟩, ⟨_, rfl, ⟨rfl, trivial⟩⟩, ⟨_, rfl, ⟨ad_ren rfl, rfl, ad_ren rfl, rfl, ad_ren rfl, rfl, trivial⟩⟩, trivial⟩) (by rfl) (nk rfl)) k106
    · refine apo_ao rfl ?_
      refine ao_read trivial (r_idxAddr_arr (i := 2) Try.underlying47 Try.sizeOf3 rfl rfl (show 0 ≤ 2 from by omega) (show 2 < (6 : Int) from by omega)) rfl ?_
      refine ao_nil ?_
      refine ap_in ?_
      exact ap_go (by kernel_rfl) (sub_mk idn (by exact ⟨ai rfl, ai rfl, ai rfl, ai rfl, ai rfl, ai rfl, ai rfl, trivial⟩) (by exact ⟨⟨_, rfl, ⟨rfl, trivial⟩⟩, ⟨_, rfl, ⟨rfl, trivial⟩⟩, ⟨_, rfl, ⟨ad_ren rfl, rfl, ad_ren rfl, rfl, ad_ren rfl, rfl, trivial⟩⟩, trivial⟩) (by rfl) (nk rfl)) k112
    · refine apo_ao rfl ?_
      refine ao_callV [2] 3 trivial (c_spec_l1Cur_pick (is_mk r2h)) Try.func84 rfl rfl rfl rfl rfl ⟨rfl, trivial⟩ ⟨⟨_, rfl, ⟨ad_ren rfl, rfl, ad_ren rfl, rfl, ad_ren rfl, rfl, trivial⟩⟩, trivial⟩ rfl rfl rfl rfl rfl rfl rfl (fun r' H' hr => ?_)
      obtain ⟨rfl, rfl⟩ := hr
      refine ao_norm (y := .int .i64 r2.1) (H' := [(0, .var [.arr (.int .i64) 6 ((List.replicate 6 0) : (List Int))]), (1, .var [.arr (.int .i64) 6 r1.1]), (2, .var [.cell (.v (.slice (.int .u8)) x0), .cell (.int .i64 r2.2.1), .cell (.int .u64 r2.2.2)])]) rfl rfl ?_
      refine ao_nil ?_
      refine ap_in ?_
      refine ap_pure 11 (by kernel_rfl) (fun _ _ _ h => h) rfl (by kernel_rfl) trivial (rp_quo rfl rfl (by decide)) rfl ?_
      refine ap_pure 12 (by kernel_rfl) (fun _ _ _ h => h) rfl (by kernel_rfl) trivial (rp_add rfl rfl) rfl ?_
      exact ap_go (by kernel_rfl) (sub_mk idn (by exact ⟨ai rfl, ai rfl, ai rfl, ai rfl, ai rfl, ai rfl, trivial⟩) (by exact ⟨⟨_, rfl, ⟨rfl, trivial⟩⟩, ⟨_, rfl, ⟨rfl, trivial⟩⟩, ⟨_, rfl, ⟨ad_ren rfl, rfl, ad_ren rfl, rfl, ad_ren rfl, rfl, trivial⟩⟩, trivial⟩) (by rfl) (nk rfl)) k116
  refine ap_let (g := 14) (listed := #[false, true, false, false, false, false, true, false, false, true, false, false, false, false, false, false, false]) [(2, .ref 0 0), (3, .int .i64 0), (5, .ref 1 0), (12, .ref 2 0), (17, .elem 1 0 1 2), (20, .ref 2 0)] [(0, .var [.arr (.int .i64) 6 ((List.replicate 6 0) : (List Int))]), (1, .var [.arr (.int .i64) 6 r1.1]), (2, .var [.cell (.v (.slice (.int .u8)) x0), .cell (.int .i64 r1.2.1), .cell (.int .u64 r1.2.2)])] ?_ (fun k117 => ?_)
  · refine ap_all [0, 2, 4, 7, 10] (by kernel_rfl) ⟨?_, ?_, ?_, ?_, ?_, trivial⟩
    · refine apo_ao rfl ?_
      refine ao_read trivial (r_load_arr rfl Try.isAgg47 Try.sizeOf47 rfl rfl rfl) rfl ?_
      refine ao_nil ?_
      refine ap_in ?_
      exact ap_go (by kernel_rfl) (sub_mk idn (by exact ⟨ai rfl, ai rfl, ai rfl, ai rfl, ai rfl, ai rfl, ai rfl, trivial⟩) (by exact ⟨⟨_, rfl, ⟨rfl, trivial⟩⟩, ⟨_, rfl, ⟨rfl, trivial⟩⟩, ⟨_, rfl, ⟨ad_ren rfl, rfl, ad_ren rfl, rfl, ad_ren rfl, rfl, trivial⟩⟩, trivial⟩) (by rfl) (nk rfl)) k60
    · refine apo_ao rfl ?_
      refine ao_read trivial (r_idxAddr_arr (i := 0) Try.underlying47 Try.sizeOf3 rfl rfl (show 0 ≤ 0 from by omega) (show 0 < (6 : Int) from by omega)) rfl ?_
      refine ao_nil ?_
      refine ap_in ?_
      exact ap_go (by kernel_rfl) (sub_mk idn (by exact ⟨ai rfl, ai rfl, ai rfl, ai rfl, ai rfl, ai rfl, ai rfl, trivial⟩) (by exact ⟨⟨_, rfl, ⟨rfl, trivial⟩⟩, ⟨_, rfl, ⟨rfl, trivial⟩⟩, ⟨_, rfl, ⟨ad_ren rfl, rfl, ad_ren rfl, rfl, ad_ren rfl, rfl, trivial⟩⟩, trivial⟩) (by rfl) (nk rfl)) k100
    · refine apo_ao rfl ?_
      refine ao_read trivial (r_idxAddr_arr (i := 5) Try.underlying47 Try.sizeOf3 rfl rfl (show 0 ≤ 5 from by omega) (show 5 < (6 : Int) from by omega)) rfl ?_
      refine ao_nil ?_
      refine ap_in ?_
      exact ap_go (by kernel_rfl) (sub_mk idn (by exact ⟨ai rfl, ai rfl, ai rfl, ai rfl, ai rfl, ai rfl, ai rfl, trivial⟩) (by exact ⟨⟨_, rfl, ⟨rfl, trivial⟩⟩, ⟨_, rfl, ⟨rfl, trivial⟩⟩, ⟨_, rfl, ⟨ad_ren rfl, rfl, ad_ren rfl, rfl, ad_ren rfl, rfl, trivial⟩⟩, trivial⟩) (by rfl) (nk rfl)) k112
    · refine apo_ao rfl ?_
      refine ao_read trivial (r_load_elema_int Try.isAgg3 Try.sizeOf3 rfl rfl rfl (show 2 < 6 from by omega)) rfl ?_
      refine ao_nil ?_
      refine ap_in ?_
      exact ap_go (by kernel_rfl) (sub_mk idn (by exact ⟨ai rfl, ai rfl, ai rfl, ai rfl, ai rfl, ai rfl, trivial⟩) (by exact ⟨⟨_, rfl, ⟨rfl, trivial⟩⟩, ⟨_, rfl, ⟨rfl, trivial⟩⟩, ⟨_, rfl, ⟨ad_ren rfl, rfl, ad_ren rfl, rfl, ad_ren rfl, rfl, trivial⟩⟩, trivial⟩) (by rfl) (nk rfl)) k118
    · refine apo_ao rfl ?_
      refine ao_callV [2] 3 trivial (c_spec_l1Cur_pick (is_mk r2h)) Try.func84 rfl rfl rfl rfl rfl ⟨rfl, trivial⟩ ⟨⟨_, rfl, ⟨ad_ren rfl, rfl, ad_ren rfl, rfl, ad_ren rfl, rfl, trivial⟩⟩, trivial⟩ rfl rfl rfl rfl rfl rfl rfl (fun r' H' hr => ?_)
      obtain ⟨rfl, rfl⟩ := hr
      refine ao_norm (y := .int .i64 r2.1) (H' := [(0, .var [.arr (.int .i64) 6 ((List.replicate 6 0) : (List Int))]), (1, .var [.arr (.int .i64) 6 r1.1]), (2, .var [.cell (.v (.slice (.int .u8)) x0), .cell (.int .i64 r2.2.1), .cell (.int .u64 r2.2.2)])]) rfl rfl ?_
      refine ao_nil ?_
      refine ap_in ?_
      refine ap_pure 11 (by kernel_rfl) (fun _ _ _ h => h) rfl (by kernel_rfl) trivial (rp_quo rfl rfl (by decide)) rfl ?_
      refine ap_pure 12 (by kernel_rfl) (fun _ _ _ h => h) rfl (by kernel_rfl) trivial (rp_add rfl rfl) rfl ?_
      exact ap_go (by kernel_rfl) (sub_mk idn (by exact ⟨ai rfl, ai rfl, ai rfl, ai rfl, ai rfl, ai rfl, trivial⟩) (by exact ⟨⟨_, rfl, ⟨rfl, trivial⟩⟩, ⟨_, rfl, ⟨rfl, trivial⟩⟩, ⟨_, rfl, ⟨ad_ren rfl, rfl, ad_ren rfl, rfl, ad_ren rfl, rfl, trivial⟩⟩, trivial⟩) (by rfl) (nk rfl)) k120
  refine ap_let (g := 15) (listed := #[false, true, false, false, false, false, false, false, false, true, false, false, false, false, false, false, false]) [(2, .ref 0 0), (3, .int .i64 0), (5, .ref 1 0), (12, .ref 2 0), (20, .ref 2 0)] [(0, .var [.arr (.int .i64) 6 ((List.replicate 6 0) : (List Int))]), (1, .var [.arr (.int .i64) 6 r1.1]), (2, .var [.cell (.v (.slice (.int .u8)) x0), .cell (.int .i64 r1.2.1), .cell (.int .u64 r1.2.2)])] ?_ (fun k6 => ?_)
  · refine ap_all [0, 2, 4, 6, 10] (by kernel_rfl) ⟨?_, ?_, ?_, ?_, ?_, trivial⟩
    · refine apo_ao rfl ?_
      refine ao_read trivial (r_load_arr rfl Try.isAgg47 Try.sizeOf47 rfl rfl rfl) rfl ?_
      refine ao_nil ?_
      refine ap_in ?_
      exact ap_go (by kernel_rfl) (sub_mk idn (by exact ⟨ai rfl, ai rfl, ai rfl, ai rfl, ai rfl, ai rfl, trivial⟩) (by exact ⟨⟨_, rfl, ⟨rfl, trivial⟩⟩, ⟨_, rfl, ⟨rfl, trivial⟩⟩, ⟨_, rfl, ⟨ad_ren rfl, rfl, ad_ren rfl, rfl, ad_ren rfl, rfl, trivial⟩⟩, trivial⟩) (by rfl) (nk rfl)) k7
    · refine apo_ao rfl ?_
      refine ao_read trivial (r_idxAddr_arr (i := 0) Try.underlying47 Try.sizeOf3 rfl rfl (show 0 ≤ 0 from by omega) (show 0 < (6 : Int) from by omega)) rfl ?_
      refine ao_nil ?_
      refine ap_in ?_
      exact ap_go (by kernel_rfl) (sub_mk idn (by exact ⟨ai rfl, ai rfl, ai rfl, ai rfl, ai rfl, ai rfl, trivial⟩) (by exact ⟨⟨_, rfl, ⟨rfl, trivial⟩⟩, ⟨_, rfl, ⟨rfl, trivial⟩⟩, ⟨_, rfl, ⟨ad_ren rfl, rfl, ad_ren rfl, rfl, ad_ren rfl, rfl, trivial⟩⟩, trivial⟩) (by rfl) (nk rfl)) k65
    · refine apo_ao rfl ?_
      refine ao_read trivial (r_idxAddr_arr (i := 5) Try.underlying47 Try.sizeOf3 rfl rfl (show 0 ≤ 5 from by omega) (show 5 < (6 : Int) from by omega)) rfl ?_
      refine ao_nil ?_
      refine ap_in ?_
      exact ap_go (by kernel_rfl) (sub_mk idn (by exact ⟨ai rfl, ai rfl, ai rfl, ai rfl, ai rfl, ai rfl, trivial⟩) (by exact ⟨⟨_, rfl, ⟨rfl, trivial⟩⟩, ⟨_, rfl, ⟨rfl, trivial⟩⟩, ⟨_, rfl, ⟨ad_ren rfl, rfl, ad_ren rfl, rfl, ad_ren rfl, rfl, trivial⟩⟩, trivial⟩) (by rfl) (nk rfl)) k105
    · refine apo_ao rfl ?_
      refine ao_read trivial (r_idxAddr_arr (i := 2) Try.underlying47 Try.sizeOf3 rfl rfl (show 0 ≤ 2 from by omega) (show 2 < (6 : Int) from by omega)) rfl ?_
      refine ao_nil ?_
      refine ap_in ?_
      exact ap_go (by kernel_rfl) (sub_mk idn (by exact ⟨ai rfl, ai rfl, ai rfl, ai rfl, ai rfl, ai rfl, trivial⟩) (by exact ⟨⟨_, rfl, ⟨rfl, trivial⟩⟩, ⟨_, rfl, ⟨rfl, trivial⟩⟩, ⟨_, rfl, ⟨ad_ren rfl, rfl, ad_ren rfl, rfl, ad_ren rfl, rfl, trivial⟩⟩, trivial⟩) (by rfl) (nk rfl)) k117
    · refine apo_ao rfl ?_
      refine ao_callV [2] 3 trivial (c_spec_l1Cur_pick (is_mk r2h)) Try.func84 rfl rfl rfl rfl rfl ⟨rfl, trivial⟩ ⟨⟨_, rfl, ⟨ad_ren rfl, rfl, ad_ren rfl, rfl, ad_ren rfl, rfl, trivial⟩⟩, trivial⟩ rfl rfl rfl rfl rfl rfl rfl (fun r' H' hr => ?_)
      obtain ⟨rfl, rfl⟩ := hr
      refine ao_norm (y := .int .i64 r2.1) (H' := [(0, .var [.arr (.int .i64) 6 ((List.replicate 6 0) : (List Int))]), (1, .var [.arr (.int .i64) 6 r1.1]), (2, .var [.cell (.v (.slice (.int .u8)) x0), .cell (.int .i64 r2.2.1), .cell (.int .u64 r2.2.2)])]) rfl rfl ?_
      refine ao_nil ?_
      refine ap_in ?_
      refine ap_pure 11 (by kernel_rfl) (fun _ _ _ h => h) rfl (by kernel_rfl) trivial (rp_quo rfl rfl (by decide)) rfl ?_
      refine ap_pure 12 (by kernel_rfl) (fun _ _ _ h => h) rfl (by kernel_rfl) trivial (rp_add rfl rfl) rfl ?_
      exact ap_go (by kernel_rfl) (sub_mk idn (by exact ⟨ai rfl, ai rfl, ai rfl, ai rfl, ai rfl, trivial⟩) (by exact ⟨⟨_, rfl, ⟨rfl, trivial⟩⟩, ⟨_, rfl, ⟨rfl, trivial⟩⟩, ⟨_, rfl, ⟨ad_ren rfl, rfl, ad_ren rfl, rfl, ad_ren rfl, rfl, trivial⟩⟩, trivial⟩) (by rfl) (nk rfl)) k121
  refine ap_pure 1 (by kernel_rfl) (fun _ _ _ h => h) rfl (by kernel_rfl) trivial (rp_move rfl) rfl ?_
  refine ap_pure 9 (by kernel_rfl) (fun _ _ _ h => h) rfl (by kernel_rfl) trivial (rp_move rfl) rfl ?_
  exact ap_go (by kernel_rfl) (sub_mk (rn [(1, 2), (2, 1)]) (by exact ⟨ai rfl, ai rfl, ai rfl, ai rfl, ai rfl, trivial⟩) (by exact ⟨⟨_, rfl, ⟨rfl, trivial⟩⟩, ⟨_, rfl, ⟨rfl, trivial⟩⟩, ⟨_, rfl, ⟨ad_ren rfl, rfl, ad_ren rfl, rfl, ad_ren rfl, rfl, trivial⟩⟩, trivial⟩) (by rfl) (nk rfl)) k6
end Go.GA
