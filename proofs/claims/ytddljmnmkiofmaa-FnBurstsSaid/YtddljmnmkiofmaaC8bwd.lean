/- Walks: what the Go functions compute, by the printed lines below; no further conditions. -/
import Derived.Test.YtddljmnmkiofmaaC8bwc
namespace Go.GA
open Go Go.Proofs
set_option maxRecDepth 100000
set_option maxHeartbeats 2000000
set_option linter.unusedVariables false
set_option linter.unusedSimpArgs false
theorem c_spec_l1Cur_rolls8 {x0 : (List Int)} {x1 : Int} {x2 : Int} {r : Int × Int × Int} (h : Is (p_spec_l1Cur_rolls8 x0 x1 x2) (some r)) :
    ACallsV Try.prog 107 [.ref 0 0] [(0, .var [.cell (.v (.slice (.int .u8)) x0), .cell (.int .i64 x1), .cell (.int .u64 x2)])] (fun r' H' => r' = .int .i64 r.1 ∧ H' = [(0, .var [.cell (.v (.slice (.int .u8)) x0), .cell (.int .i64 r.2.1), .cell (.int .u64 r.2.2)])]) := by
  unfold p_spec_l1Cur_rolls8 at h
  refine ac_enterV ⟨11, 1⟩ Try.func107 rfl rfl rfl rfl rfl (fun Γ => ?_)
  refine aw_seq ?_
  refine aw_region ?_
  refine ao_read trivial (r_assign rfl) rfl ?_
  refine ao_nil ?_
  refine aq_then ?_
  refine aw_seq ?_
  refine aw_region ?_
  refine ao_read trivial (r_move rfl) rfl ?_
  refine ao_eff trivial (e_buildSlice (l := [(0, .const (.int .i64 3)), (1, .const (.int .i64 2)), (2, .const (.int .i64 5)), (3, .const (.int .i64 1)), (4, .const (.int .i64 8)), (5, .const (.int .i64 12)), (6, .const (.int .i64 0)), (7, .const (.int .i64 13)), (8, .const (.int .i64 (-1)))]) (t := (.int .i64)) 1 ([3, 2, 5, 1, 8, 12, 0, 13, (-1)] : (List Int)) rfl Try.underlying32 Try.zeroValue3 Try.sizeOf3 rfl rfl rfl rfl rfl rfl rfl) rfl ?_
  refine ao_read trivial (r_move rfl) rfl ?_
  obtain ⟨r1, r1h, h⟩ := is_bind h
  refine ao_callV [0] 2 trivial (c_spec_l1Cur_pick (is_mk r1h)) Try.func84 rfl rfl rfl rfl rfl ⟨rfl, trivial⟩ ⟨⟨_, rfl, ⟨ad_ren rfl, rfl, ad_ren rfl, rfl, ad_ren rfl, rfl, trivial⟩⟩, trivial⟩ rfl rfl rfl rfl rfl rfl rfl (fun r' H' hr => ?_)
  obtain ⟨rfl, rfl⟩ := hr
  refine ao_norm (y := .int .i64 r1.1) (H' := [(1, .row (.int .i64) ([3, 2, 5, 1, 8, 12, 0, 13, (-1)] : (List Int))), (0, .var [.cell (.v (.slice (.int .u8)) x0), .cell (.int .i64 r1.2.1), .cell (.int .u64 r1.2.2)])]) rfl rfl ?_
  refine ao_read trivial (r_quo rfl rfl (by decide)) rfl ?_
  refine ao_read trivial (r_add rfl rfl) rfl ?_
  obtain ⟨g2, h⟩ := is_guard h
  obtain ⟨g3, h⟩ := is_guard h
  refine ao_eff trivial (e_shrink (t := (.int .i64)) 2 rfl Try.underlying32 Try.sizeOf3 rfl rfl (.some rfl) (by omega) (show (IntKind.wrap .i64 (7 + (IntKind.wrap .i64 (r1.1.tdiv 11)))) ≤ (([3, 2, 5, 1, 8, 12, 0, 13, (-1)] : List Int).length : Int) from by (try simp only [List.length_cons, List.length_nil]) <;> omega) rfl rfl) rfl ?_
  obtain ⟨r4, r4h, h⟩ := is_bind h
  refine ao_frz (fr' := [(0, .ref 0 0), (2, .int .i64 0), (3, .ref 0 0), (5, .ref 0 0), (6, .int .i64 r1.1), (7, .int .i64 (IntKind.wrap .i64 (r1.1.tdiv 11))), (8, .int .i64 (IntKind.wrap .i64 (7 + (IntKind.wrap .i64 (r1.1.tdiv 11))))), (9, .v (.slice (.int .i64)) (([3, 2, 5, 1, 8, 12, 0, 13, (-1)].take (IntKind.wrap .i64 (7 + (IntKind.wrap .i64 (r1.1.tdiv 11)))).toNat) : (List Int)))]) (H' := [(0, .var [.cell (.v (.slice (.int .u8)) x0), .cell (.int .i64 r1.2.1), .cell (.int .u64 r1.2.2)])]) (by exact ⟨ai rfl, ai rfl, ai rfl, ai rfl, ai rfl, ai rfl, ai rfl, ⟨_, rfl, ad_osB rfl rfl⟩, trivial⟩) (by exact ⟨⟨_, rfl, ⟨ad_ren rfl, rfl, ad_ren rfl, rfl, ad_ren rfl, rfl, trivial⟩⟩, trivial⟩) rfl ?_
  refine ao_callV [0] 3 trivial (c_spec_l1Cur_among (is_mk r4h)) Try.func96 rfl rfl rfl rfl rfl ⟨rfl, trivial⟩ ⟨⟨_, rfl, ⟨ad_ren rfl, rfl, ad_ren rfl, rfl, ad_ren rfl, rfl, trivial⟩⟩, trivial⟩ rfl rfl rfl rfl rfl rfl rfl (fun r' H' hr => ?_)
  obtain ⟨rfl, rfl⟩ := hr
  refine ao_norm (y := .int .i64 r4.1) (H' := [(0, .var [.cell (.v (.slice (.int .u8)) x0), .cell (.int .i64 r4.2.1), .cell (.int .u64 r4.2.2)])]) rfl rfl ?_
  refine ao_read trivial (r_assign rfl) rfl ?_
  refine ao_nil ?_
  refine aq_then ?_
  refine aw_ret ?_
  refine aq_ret ?_
  obtain rfl := is_some h
  exact aq_finV (l := [.tmp 2]) (xs := [.int .i64 r4.1]) idn [.int .i64 r4.1] [(0, .var [.cell (.v (.slice (.int .u8)) x0), .cell (.int .i64 r4.2.1), .cell (.int .u64 r4.2.2)])] rfl (by exact ⟨rfl, trivial⟩) (by exact ⟨ad_ren rfl, trivial⟩) (by exact ⟨⟨_, rfl, ⟨ad_ren rfl, rfl, ad_ren rfl, rfl, ad_ren rfl, rfl, trivial⟩⟩, trivial⟩) rfl (nk1 rfl rfl) ⟨rfl, rfl⟩
theorem c_spec_DrawChanceWithin {x0 : (List Int)} {r : (List Int) × Int × Int} (h : Is (p_spec_DrawChanceWithin x0) (some r)) :
    Scalar Try.prog 31 [.v (.slice (.int .u8)) x0] (.tup [.v (.arr 6 (.int .i64)) r.1, .int .i64 r.2.1, .int .i64 r.2.2]) := by
  unfold p_spec_DrawChanceWithin at h
  refine ac_enter ⟨20, 0⟩ Try.func31 rfl rfl rfl rfl rfl (fun Γ => ?_)
  refine sl_len_m 0 (x0.length : Int) rfl rfl (fun hl0 => ?_)
  refine aw_seq ?_
  refine aw_region ?_
  refine ao_eff trivial (e_alloc 0 (y := .v (.arr 6 (.int .i64)) ((List.replicate 6 0) : (List Int))) Try.zeroValue47 (fun ρ h M => ra_zero_arr (t := (.int .i64)) rfl) rfl rfl rfl rfl rfl) rfl ?_
  refine ao_read trivial (r_assign rfl) rfl ?_
  refine ao_read trivial (r_assign rfl) rfl ?_
  refine ao_nil ?_
  refine aq_then ?_
  refine aw_seq ?_
  refine aw_region ?_
  refine ao_read trivial (r_move rfl) rfl ?_
  refine ao_read trivial (r_build_st (l := [(0, .tmp 8)]) (cs := [.cell (.v (.slice (.int .u8)) x0), .cell (.int .i64 0), .cell (.int .u64 0)]) (.pair (.slice (.int .u8)) (.pair (.int .i64) (.pair (.int .u64) .unit))) [(0, 1), (1, 1), (2, 1)] Try.underlying81 Try.zeroValue81 rfl ⟨rfl, Try.sizeOf22, rfl, Try.sizeOf3, rfl, Try.sizeOf79, trivial⟩ rfl rfl rfl) rfl ?_
  refine ao_eff trivial (e_box 1 rfl rfl rfl rfl rfl rfl) rfl ?_
  refine ao_read trivial (r_assign rfl) rfl ?_
  refine ao_nil ?_
  refine aq_then ?_
  refine aw_seq ?_
  refine aw_region ?_
  refine ao_read trivial (r_move rfl) rfl ?_
  obtain ⟨r1, r1h, h⟩ := is_bind h
  refine ao_scall trivial (scall (c_spec_DrawMeanWait (is_mk r1h)) rfl Try.func106 rfl rfl rfl rfl (fun σ => ⟨ad_ren rfl, trivial⟩)) rfl ?_
  refine ao_read trivial (r_move rfl) rfl ?_
  refine ao_read trivial (r_extract rfl rfl) rfl ?_
  refine ao_read trivial (r_extract rfl rfl) rfl ?_
  refine ao_eff trivial (e_alloc 2 (y := .v (.arr 6 (.int .i64)) ((List.replicate 6 0) : (List Int))) Try.zeroValue47 (fun ρ h M => ra_zero_arr (t := (.int .i64)) rfl) rfl rfl rfl rfl rfl) rfl ?_
  refine ao_effS trivial (e_store rfl rfl rfl rfl Try.sizeOf47 rfl) ?_
  refine ao_read trivial (r_assign rfl) rfl ?_
  refine ao_nil ?_
  refine aq_then ?_
  refine aw_seq ?_
  obtain ⟨r2, r2h, h⟩ := is_bind h
  refine aw_drawP 7 rfl (by kernel_rfl) ?_
  refine ap_to [(2, .ref 0 0), (3, .int .i64 r1.2), (4, .int .i64 r2.1)] [(0, .var [.arr (.int .i64) 6 r1.1])] ?_ (fun key => ?_)
  · refine aq_then ?_
    refine aw_ret ?_
    refine aq_ret ?_
    obtain rfl := is_some h
    exact aq_finx (l := [.cell 2 47, .tmp 3, .tmp 4]) (xs := [.v (.arr 6 (.int .i64)) r1.1, .int .i64 r1.2, .int .i64 r2.1]) idn [.v (.arr 6 (.int .i64)) r1.1, .int .i64 r1.2, .int .i64 r2.1] [] rfl (by exact ⟨⟨⟨_, _, rfl⟩, r_load_arr rfl Try.isAgg47 Try.sizeOf47 rfl rfl rfl⟩, rfl, rfl, trivial⟩) (by exact ⟨ad_ren rfl, ad_ren rfl, ad_ren rfl, trivial⟩) (by exact trivial) rfl (nk rfl) rfl rfl ⟨rfl, rfl⟩
  refine ap_let (g := 3) (listed := #[true, true, true, true, false, false, false]) [(2, .ref 0 0), (3, .int .i64 0), (4, .int .i64 0), (16, .v (.arr 6 (.int .i64)) r1.1), (17, .int .i64 r1.2), (19, .int .i64 r2.1)] [(0, .var [.arr (.int .i64) 6 ((List.replicate 6 0) : (List Int))])] ?_ (fun k5 => ?_)
  · refine ap_all [4] (by kernel_rfl) ⟨?_, trivial⟩
    refine apo_ao rfl ?_
    refine ao_effS trivial (e_store rfl rfl rfl rfl Try.sizeOf47 rfl) ?_
    refine ao_nil ?_
    refine ap_in ?_
    refine ap_pure 5 (by kernel_rfl) (fun _ _ _ h => h) rfl (by kernel_rfl) trivial (rp_assign rfl) rfl ?_
    refine ap_pure 6 (by kernel_rfl) (fun _ _ _ h => h) rfl (by kernel_rfl) trivial (rp_assign rfl) rfl ?_
    exact ap_end (by kernel_rfl) (AQ.sub (sub_mk idn (by exact ⟨ai rfl, ai rfl, ai rfl, trivial⟩) (by exact ⟨⟨_, rfl, ⟨rfl, trivial⟩⟩, trivial⟩) (by rfl) (nk rfl)) key)
  refine ap_let (g := 4) (listed := #[true, true, true, false, false, false, false]) [(2, .ref 0 0), (3, .int .i64 0), (4, .int .i64 0), (16, .v (.arr 6 (.int .i64)) r1.1), (17, .int .i64 r1.2), (18, .ref 1 0)] [(0, .var [.arr (.int .i64) 6 ((List.replicate 6 0) : (List Int))]), (1, .var [.cell (.v (.slice (.int .u8)) x0), .cell (.int .i64 0), .cell (.int .u64 0)])] ?_ (fun k4 => ?_)
  · refine ap_all [3] (by kernel_rfl) ⟨?_, trivial⟩
    refine apo_ao rfl ?_
    refine ao_callV [1] 2 trivial (c_spec_l1Cur_rolls8 (is_mk r2h)) Try.func107 rfl rfl rfl rfl rfl ⟨rfl, trivial⟩ ⟨⟨_, rfl, ⟨ad_ren rfl, rfl, ad_ren rfl, rfl, ad_ren rfl, rfl, trivial⟩⟩, trivial⟩ rfl rfl rfl rfl rfl rfl rfl (fun r' H' hr => ?_)
    obtain ⟨rfl, rfl⟩ := hr
    refine ao_norm (y := .int .i64 r2.1) (H' := [(0, .var [.arr (.int .i64) 6 ((List.replicate 6 0) : (List Int))]), (1, .var [.cell (.v (.slice (.int .u8)) x0), .cell (.int .i64 r2.2.1), .cell (.int .u64 r2.2.2)])]) rfl rfl ?_
    refine ao_nil ?_
    refine ap_in ?_
    exact ap_go (by kernel_rfl) (sub_mk idn (by exact ⟨ai rfl, ai rfl, ai rfl, ai rfl, ai rfl, ai rfl, trivial⟩) (by exact ⟨⟨_, rfl, ⟨rfl, trivial⟩⟩, trivial⟩) (by rfl) (nk rfl)) k5
  refine ap_let (g := 4) (listed := #[false, true, true, true, false, false, false]) [(2, .ref 0 0), (3, .int .i64 0), (4, .int .i64 0), (6, .ref 1 0), (17, .int .i64 r1.2), (19, .int .i64 r2.1)] [(0, .var [.arr (.int .i64) 6 ((List.replicate 6 0) : (List Int))]), (1, .var [.arr (.int .i64) 6 r1.1])] ?_ (fun k6 => ?_)
  · refine ap_all [0] (by kernel_rfl) ⟨?_, trivial⟩
    refine apo_ao rfl ?_
    refine ao_read trivial (r_load_arr rfl Try.isAgg47 Try.sizeOf47 rfl rfl rfl) rfl ?_
    refine ao_nil ?_
    refine ap_in ?_
    exact ap_go (by kernel_rfl) (sub_mk idn (by exact ⟨ai rfl, ai rfl, ai rfl, ai rfl, ai rfl, ai rfl, trivial⟩) (by exact ⟨⟨_, rfl, ⟨rfl, trivial⟩⟩, trivial⟩) (by rfl) (nk rfl)) k5
  refine ap_let (g := 5) (listed := #[false, true, true, false, false, false, false]) [(2, .ref 0 0), (3, .int .i64 0), (4, .int .i64 0), (6, .ref 1 0), (17, .int .i64 r1.2), (18, .ref 2 0)] [(0, .var [.arr (.int .i64) 6 ((List.replicate 6 0) : (List Int))]), (1, .var [.arr (.int .i64) 6 r1.1]), (2, .var [.cell (.v (.slice (.int .u8)) x0), .cell (.int .i64 0), .cell (.int .u64 0)])] ?_ (fun k3 => ?_)
  · refine ap_all [0, 3] (by kernel_rfl) ⟨?_, ?_, trivial⟩
    · refine apo_ao rfl ?_
      refine ao_read trivial (r_load_arr rfl Try.isAgg47 Try.sizeOf47 rfl rfl rfl) rfl ?_
      refine ao_nil ?_
      refine ap_in ?_
      exact ap_go (by kernel_rfl) (sub_mk (rn [(1, 2)]) (by exact ⟨ai rfl, ai rfl, ai rfl, ai rfl, ai rfl, ai rfl, trivial⟩) (by exact ⟨⟨_, rfl, ⟨rfl, trivial⟩⟩, ⟨_, rfl, ⟨ad_ren rfl, rfl, ad_ren rfl, rfl, ad_ren rfl, rfl, trivial⟩⟩, trivial⟩) (by rfl) (nk rfl)) k4
    · refine apo_ao rfl ?_
      refine ao_callV [2] 3 trivial (c_spec_l1Cur_rolls8 (is_mk r2h)) Try.func107 rfl rfl rfl rfl rfl ⟨rfl, trivial⟩ ⟨⟨_, rfl, ⟨ad_ren rfl, rfl, ad_ren rfl, rfl, ad_ren rfl, rfl, trivial⟩⟩, trivial⟩ rfl rfl rfl rfl rfl rfl rfl (fun r' H' hr => ?_)
      obtain ⟨rfl, rfl⟩ := hr
      refine ao_norm (y := .int .i64 r2.1) (H' := [(0, .var [.arr (.int .i64) 6 ((List.replicate 6 0) : (List Int))]), (1, .var [.arr (.int .i64) 6 r1.1]), (2, .var [.cell (.v (.slice (.int .u8)) x0), .cell (.int .i64 r2.2.1), .cell (.int .u64 r2.2.2)])]) rfl rfl ?_
      refine ao_nil ?_
      refine ap_in ?_
      exact ap_go (by kernel_rfl) (sub_mk idn (by exact ⟨ai rfl, ai rfl, ai rfl, ai rfl, ai rfl, ai rfl, trivial⟩) (by exact ⟨⟨_, rfl, ⟨rfl, trivial⟩⟩, ⟨_, rfl, ⟨rfl, trivial⟩⟩, trivial⟩) (by rfl) (nk rfl)) k6
  refine ap_pure 1 (by kernel_rfl) (fun _ _ _ h => h) rfl (by kernel_rfl) trivial (rp_move rfl) rfl ?_
  refine ap_pure 2 (by kernel_rfl) (fun _ _ _ h => h) rfl (by kernel_rfl) trivial (rp_move rfl) rfl ?_
  exact ap_go (by kernel_rfl) (sub_mk (rn [(1, 2), (2, 1)]) (by exact ⟨ai rfl, ai rfl, ai rfl, ai rfl, ai rfl, ai rfl, trivial⟩) (by exact ⟨⟨_, rfl, ⟨rfl, trivial⟩⟩, ⟨_, rfl, ⟨rfl, trivial⟩⟩, ⟨_, rfl, ⟨ad_ren rfl, rfl, ad_ren rfl, rfl, ad_ren rfl, rfl, trivial⟩⟩, trivial⟩) (by rfl) (nk rfl)) k3
theorem c_impl_isRolls {x0 : Int} {r : Bool} (h : Is (p_impl_isRolls x0) r) :
    Scalar Try.prog 108 [.int .i64 x0] (.bool r) := by
  unfold p_impl_isRolls at h
  refine ac_enter ⟨5, 0⟩ Try.func108 rfl rfl rfl rfl rfl (fun Γ => ?_)
  refine aw_seq ?_
  refine aw_region ?_
  refine ao_read trivial (r_assign rfl) rfl ?_
  refine ao_nil ?_
  refine aq_then ?_
  refine aw_seq ?_
  refine aw_region ?_
  refine ao_read trivial (r_move rfl) rfl ?_
  refine ao_scall trivial (scall (c_impl_within (is_mk (rfl : p_impl_within x0 0 12 = _))) rfl Try.func85 rfl rfl rfl rfl (fun σ => ⟨ad_ren rfl, ad_ren rfl, ad_ren rfl, trivial⟩)) rfl ?_
  refine ao_read trivial (r_assign rfl) rfl ?_
  refine ao_nil ?_
  refine aq_then ?_
  refine aw_ret ?_
  refine aq_ret ?_
  obtain rfl := is_eq h
  exact aq_finx (l := [.tmp 2]) (xs := [.bool (p_impl_within x0 0 12)]) idn [.bool (p_impl_within x0 0 12)] [] rfl (by exact ⟨rfl, trivial⟩) (by exact ⟨ad_ren rfl, trivial⟩) (by exact trivial) rfl (nk rfl) rfl rfl ⟨rfl, rfl⟩
theorem c_impl_raised {fu : Nat} {x0 : Int} {x1 : Int} {r : Int} (h : Is (p_impl_raised fu x0 x1) (some r)) :
    Scalar Try.prog 109 [.int .i64 x0, .int .i64 x1] (.int .i64 r) := by
  unfold p_impl_raised at h
  refine ac_enter ⟨14, 0⟩ Try.func109 rfl rfl rfl rfl rfl (fun Γ => ?_)
  refine aw_seq ?_
  refine aw_region ?_
  refine ao_read trivial (r_assign rfl) rfl ?_
  refine ao_nil ?_
  refine aq_then ?_
  refine aw_seq ?_
  refine aw_region ?_
  refine ao_read trivial (r_assign rfl) rfl ?_
  refine ao_nil ?_
  refine aq_then ?_
  refine aw_seq ?_
  refine aw_seq ?_
  refine aw_region ?_
  refine ao_read trivial (r_move rfl) rfl ?_
  refine ao_read trivial (r_move rfl) rfl ?_
  refine ao_nil ?_
  refine aq_then ?_
  refine aw_block ?_
  refine aw_loop (AL.sub (sub_mk idn (by exact ⟨ai rfl, ai rfl, ai rfl, ai rfl, trivial⟩) (by exact trivial) (by rfl) (nk rfl)) (al_whl (fun (s1 : Int × Int) => [(0, .int .i64 x0), (5, .int .i64 s1.1), (6, .int .i64 x1), (7, .int .i64 s1.2)]) (fun (s1 : Int × Int) => []) (fun (s1 : Int × Int) => True) h trivial (fun d3 s1 hI h ih3 => ?_)))
  replace h := is_whlS h
  refine al_round ?_
  refine aw_seq ?_
  refine aw_region ?_
  refine ao_read trivial (r_lss rfl rfl) rfl ?_
  refine ao_nil ?_
  refine aq_then ?_
  refine aw_seq ?_
  refine aw_cond rfl (fun hb5 => ?_) (fun hb5 => ?_)
  · have q6 := d_t hb5
    replace h := is_if (d_t hb5) h
    refine aw_skip ?_
    refine aq_then ?_
    refine aw_seq ?_
    refine aw_block ?_
    refine aw_region ?_
    refine ao_read trivial (r_move rfl) rfl ?_
    refine ao_read trivial (r_move rfl) rfl ?_
    refine ao_read trivial (r_mul rfl rfl) rfl ?_
    refine ao_read trivial (r_assign rfl) rfl ?_
    refine ao_nil ?_
    refine aq_in ?_
    refine aq_then ?_
    refine aw_region ?_
    refine ao_read trivial (r_add rfl rfl) rfl ?_
    refine ao_read trivial (r_move rfl) rfl ?_
    refine ao_nil ?_
    exact aq_again (AL.sub (sub_mk idn (by exact ⟨ai rfl, ai rfl, ai rfl, ai rfl, trivial⟩) (by exact trivial) (by rfl) (nk rfl)) (ih3 ((IntKind.wrap .i64 (s1.1 * x0)), (IntKind.wrap .i64 (s1.2 + 1))) trivial h))
  · have q7 := d_f hb5
    replace h := is_else (d_f hb5) h
    refine aw_exit ?_
    refine aq_then_exit ?_
    refine aq_then_exit ?_
    refine aq_in_exit ?_
    refine aq_then ?_
    refine aw_seq ?_
    refine aw_region ?_
    refine ao_read trivial (r_move rfl) rfl ?_
    refine ao_read trivial (r_assign rfl) rfl ?_
    refine ao_nil ?_
    refine aq_then ?_
    refine aw_ret ?_
    refine aq_ret ?_
    obtain rfl := is_some h
    exact aq_finx (l := [.tmp 4]) (xs := [.int .i64 s1.1]) idn [.int .i64 s1.1] [] rfl (by exact ⟨rfl, trivial⟩) (by exact ⟨ad_ren rfl, trivial⟩) (by exact trivial) rfl (nk rfl) rfl rfl ⟨rfl, rfl⟩
theorem c_impl_ChanceWithin {fu : Nat} {x0 : (List Int)} {x1 : Int} {x2 : Int} {r : (List Int) × Bool} (h : Is (p_impl_ChanceWithin fu x0 x1 x2) (some r)) :
    Scalar Try.prog 32 [.v (.arr 6 (.int .i64)) x0, .int .i64 x1, .int .i64 x2] (.tup [.v (.arr 2 (.int .i64)) r.1, .bool r.2]) := by
  unfold p_impl_ChanceWithin at h
  refine ac_enter ⟨29, 0⟩ Try.func32 rfl rfl rfl rfl rfl (fun Γ => ?_)
  refine aw_seq ?_
  refine aw_region ?_
  refine ao_eff trivial (e_box 0 rfl rfl rfl rfl rfl rfl) rfl ?_
  refine ao_eff trivial (e_alloc 1 (y := .v (.arr 2 (.int .i64)) ((List.replicate 2 0) : (List Int))) Try.zeroValue29 (fun ρ h M => ra_zero_arr (t := (.int .i64)) rfl) rfl rfl rfl rfl rfl) rfl ?_
  refine ao_read trivial (r_assign rfl) rfl ?_
  refine ao_nil ?_
  refine aq_then ?_
  refine aw_seq ?_
  refine aw_seq ?_
  refine aw_region ?_
  refine ao_read trivial (r_load_arr rfl Try.isAgg47 Try.sizeOf47 rfl rfl rfl) rfl ?_
  refine ao_scall trivial (scall (c_impl_IsDie (is_mk (rfl : p_impl_IsDie x0 = _))) rfl Try.func97 rfl rfl rfl rfl (fun σ => ⟨ad_ren rfl, trivial⟩)) rfl ?_
  refine ao_read trivial (r_not rfl) rfl ?_
  refine ao_read trivial (r_move rfl) rfl ?_
  refine ao_readG (x := .int .i64 x2) rfl (GV.F rfl) (fun hg1 => r_move rfl) rfl ?_
  refine ao_scallG (r := .bool (p_impl_isRolls x2)) rfl (GV.F rfl) (fun hg2 => SCall.strip 12 rfl (hg2) (scall (c_impl_isRolls (is_mk (rfl : p_impl_isRolls x2 = _))) rfl Try.func108 rfl rfl rfl rfl (fun σ => ⟨ad_ren rfl, trivial⟩))) rfl ?_
  refine ao_readG (x := .bool (!(p_impl_isRolls x2))) rfl (GV.F rfl) (fun hg3 => Reads.strip 13 rfl (hg3) (r_not rfl)) rfl ?_
  refine ao_read trivial (r_orB rfl rfl) rfl ?_
  refine ao_nil ?_
  refine aq_then ?_
  refine aw_cond rfl (fun hb4 => ?_) (fun hb4 => ?_)
  · replace h := is_if hb4 h
    refine aw_seq ?_
    refine aw_region ?_
    refine ao_read trivial (r_build_zero (t := (.int .i64)) Try.underlying29 Try.zeroValue29 Try.sizeOf3 rfl) rfl ?_
    refine ao_effS trivial (e_store rfl rfl rfl rfl Try.sizeOf29 rfl) ?_
    refine ao_read trivial (r_assign rfl) rfl ?_
    refine ao_nil ?_
    refine aq_then ?_
    refine aw_ret ?_
    refine aq_then_ret ?_
    refine aq_ret ?_
    obtain rfl := is_some h
    exact aq_finx (l := [.cell 6 29, .tmp 7]) (xs := [.v (.arr 2 (.int .i64)) ((List.replicate 2 0) : (List Int)), .bool false]) idn [.v (.arr 2 (.int .i64)) ((List.replicate 2 0) : (List Int)), .bool false] [] rfl (by exact ⟨⟨⟨_, _, rfl⟩, r_load_arr rfl Try.isAgg29 Try.sizeOf29 rfl rfl rfl⟩, rfl, trivial⟩) (by exact ⟨ad_ren rfl, ad_ren rfl, trivial⟩) (by exact trivial) rfl (nk rfl) rfl rfl ⟨rfl, rfl⟩
  · obtain ⟨q5, q6⟩ := or_f hb4
    replace h := is_else (ne_t hb4) h
    refine aw_skip ?_
    refine aq_then ?_
    refine aw_seq ?_
    obtain ⟨r7, r7h, h⟩ := is_bind h
    obtain ⟨r8, r8h, h⟩ := is_bind h
    obtain ⟨r9, r9h, h⟩ := is_bind h
    obtain ⟨r10, r10h, h⟩ := is_bind h
    refine aw_draw 12 (by kernel_rfl) (by kernel_rfl) ?_
    refine an_read 0 (by kernel_rfl) (fun _ _ _ h => h) rfl (by kernel_rfl) trivial (r_move rfl) rfl ?_
    refine an_scall 1 (by kernel_rfl) (fun _ _ _ h => h) rfl (by kernel_rfl) trivial (scall (c_impl_power (is_mk r7h)) rfl Try.func99 rfl rfl rfl rfl (fun σ => ⟨ad_ren rfl, trivial⟩)) rfl ?_
    refine an_read 2 (by kernel_rfl) (fun _ _ _ h => h) rfl (by kernel_rfl) trivial (r_load_arr rfl Try.isAgg47 Try.sizeOf47 rfl rfl rfl) rfl ?_
    refine an_read 3 (by kernel_rfl) (fun _ _ _ h => h) rfl (by kernel_rfl) trivial (r_move rfl) rfl ?_
    refine an_scall 4 (by kernel_rfl) (fun _ _ _ h => h) rfl (by kernel_rfl) trivial (scall (c_impl_weight (is_mk (rfl : p_impl_weight x0 x1 = _))) rfl Try.func104 rfl rfl rfl rfl (fun σ => ⟨ad_ren rfl, ad_ren rfl, trivial⟩)) rfl ?_
    refine an_read 5 (by kernel_rfl) (fun _ _ _ h => h) rfl (by kernel_rfl) trivial (r_sub rfl rfl) rfl ?_
    refine an_read 6 (by kernel_rfl) (fun _ _ _ h => h) rfl (by kernel_rfl) trivial (r_move rfl) rfl ?_
    refine an_scall 7 (by kernel_rfl) (fun _ _ _ h => h) rfl (by kernel_rfl) trivial (scall (c_impl_raised (is_mk r8h)) rfl Try.func109 rfl rfl rfl rfl (fun σ => ⟨ad_ren rfl, ad_ren rfl, trivial⟩)) rfl ?_
    refine an_read 8 (by kernel_rfl) (fun _ _ _ h => h) rfl (by kernel_rfl) trivial (r_sub rfl rfl) rfl ?_
    refine an_read 9 (by kernel_rfl) (fun _ _ _ h => h) rfl (by kernel_rfl) trivial (r_move rfl) rfl ?_
    refine an_scall 10 (by kernel_rfl) (fun _ _ _ h => h) rfl (by kernel_rfl) trivial (scall (c_impl_power (is_mk r9h)) rfl Try.func99 rfl rfl rfl rfl (fun σ => ⟨ad_ren rfl, trivial⟩)) rfl ?_
    refine an_scall 11 (by kernel_rfl) (fun _ _ _ h => h) rfl (by kernel_rfl) trivial (scall (c_impl_fraction (is_mk r10h)) rfl Try.func102 rfl rfl rfl rfl (fun σ => ⟨ad_ren rfl, ad_ren rfl, trivial⟩)) rfl ?_
    refine an_tail rfl rfl ?_
    refine ao_effS trivial (e_store rfl rfl rfl rfl Try.sizeOf29 rfl) ?_
    refine ao_read trivial (r_assign rfl) rfl ?_
    refine ao_nil ?_
    refine aq_then ?_
    refine aw_ret ?_
    refine aq_ret ?_
    obtain rfl := is_some h
    exact aq_finx (l := [.cell 6 29, .tmp 7]) (xs := [.v (.arr 2 (.int .i64)) r10, .bool true]) idn [.v (.arr 2 (.int .i64)) r10, .bool true] [] rfl (by exact ⟨⟨⟨_, _, rfl⟩, r_load_arr rfl Try.isAgg29 Try.sizeOf29 rfl rfl rfl⟩, rfl, trivial⟩) (by exact ⟨ad_ren rfl, ad_ren rfl, trivial⟩) (by exact trivial) rfl (nk rfl) rfl rfl ⟨rfl, rfl⟩
theorem c_spec_l8Rolls {x0 : (List Int)} {x1 : Int} {r : Bool} (h : Is (p_spec_l8Rolls x0 x1) (some r)) :
    Scalar Try.prog 110 [.v (.arr 6 (.int .i64)) x0, .int .i64 x1] (.bool r) := by
  unfold p_spec_l8Rolls at h
  refine ac_enter ⟨11, 0⟩ Try.func110 rfl rfl rfl rfl rfl (fun Γ => ?_)
  refine aw_seq ?_
  refine aw_region ?_
  refine ao_eff trivial (e_box 0 rfl rfl rfl rfl rfl rfl) rfl ?_
  refine ao_read trivial (r_assign rfl) rfl ?_
  refine ao_nil ?_
  refine aq_then ?_
  refine aw_seq ?_
  refine aw_region ?_
  refine ao_read trivial (r_load_arr rfl Try.isAgg47 Try.sizeOf47 rfl rfl rfl) rfl ?_
  obtain ⟨r1, r1h, h⟩ := is_bind h
  refine ao_scall trivial (scall (c_spec_l2Die (is_mk r1h)) rfl Try.func100 rfl rfl rfl rfl (fun σ => ⟨ad_ren rfl, trivial⟩)) rfl ?_
  refine ao_read trivial (r_move rfl) rfl ?_
  refine ao_readG (x := .int .i64 x1) rfl (GV.T rfl) (fun hg2 => r_move rfl) rfl ?_
  refine ao_scallG (r := .bool (p_spec_l1In x1 0 12)) rfl (GV.T rfl) (fun hg3 => SCall.strip 8 rfl (hg3) (scall (c_spec_l1In (is_mk (rfl : p_spec_l1In x1 0 12 = _))) rfl Try.func87 rfl rfl rfl rfl (fun σ => ⟨ad_ren rfl, ad_ren rfl, ad_ren rfl, trivial⟩))) rfl ?_
  refine ao_read trivial (r_andB rfl rfl) rfl ?_
  refine ao_read trivial (r_assign rfl) rfl ?_
  refine ao_nil ?_
  refine aq_then ?_
  refine aw_ret ?_
  refine aq_ret ?_
  obtain rfl := is_some h
  exact aq_finx (l := [.tmp 4]) (xs := [.bool (r1 && (p_spec_l1In x1 0 12))]) idn [.bool (r1 && (p_spec_l1In x1 0 12))] [] rfl (by exact ⟨rfl, trivial⟩) (by exact ⟨ad_ren rfl, trivial⟩) (by exact trivial) rfl (nk rfl) rfl rfl ⟨rfl, rfl⟩
theorem c_spec_l8Power {fu : Nat} {x0 : Int} {x1 : Int} {r : Int} (h : Is (p_spec_l8Power fu x0 x1) (some r)) :
    Scalar Try.prog 111 [.int .i64 x0, .int .i64 x1] (.int .i64 r) := by
  unfold p_spec_l8Power at h
  refine ac_enter ⟨16, 0⟩ Try.func111 rfl rfl rfl rfl rfl (fun Γ => ?_)
  refine aw_seq ?_
  refine aw_region ?_
  refine ao_read trivial (r_assign rfl) rfl ?_
  refine ao_nil ?_
  refine aq_then ?_
  refine aw_seq ?_
  refine aw_region ?_
  refine ao_read trivial (r_assign rfl) rfl ?_
  refine ao_nil ?_
  refine aq_then ?_
  refine aw_seq ?_
  refine aw_seq ?_
  refine aw_region ?_
  refine ao_read trivial (r_assign rfl) rfl ?_
  refine ao_nil ?_
  refine aq_then ?_
  refine aw_block ?_
  refine aw_loop (AL.sub (sub_mk idn (by exact ⟨ai rfl, ai rfl, ai rfl, ai rfl, trivial⟩) (by exact trivial) (by rfl) (nk rfl)) (al_whl (fun (s1 : Int × Int) => [(0, .int .i64 x0), (1, .int .i64 x1), (5, .int .i64 s1.1), (6, .int .i64 s1.2)]) (fun (s1 : Int × Int) => []) (fun (s1 : Int × Int) => True) h trivial (fun d3 s1 hI h ih3 => ?_)))
  replace h := is_whlS h
  refine al_round ?_
  refine aw_seq ?_
  refine aw_seq ?_
  refine aw_region ?_
  refine ao_read trivial (r_move rfl) rfl ?_
  refine ao_read trivial (r_move rfl) rfl ?_
  refine ao_read trivial (r_lss rfl rfl) rfl ?_
  refine ao_nil ?_
  refine aq_then ?_
  refine aw_cond rfl (fun hb5 => ?_) (fun hb5 => ?_)
  · have q6 := d_t hb5
    replace h := is_if (d_t hb5) h
    refine aw_skip ?_
    refine aq_then ?_
    refine aw_seq ?_
    refine aw_block ?_
    refine aw_region ?_
    refine ao_read trivial (r_move rfl) rfl ?_
    refine ao_read trivial (r_move rfl) rfl ?_
    refine ao_read trivial (r_mul rfl rfl) rfl ?_
    refine ao_read trivial (r_assign rfl) rfl ?_
    refine ao_nil ?_
    refine aq_in ?_
    refine aq_then ?_
    refine aw_region ?_
    refine ao_read trivial (r_move rfl) rfl ?_
    refine ao_read trivial (r_add rfl rfl) rfl ?_
    refine ao_read trivial (r_assign rfl) rfl ?_
    refine ao_nil ?_
    exact aq_again (AL.sub (sub_mk idn (by exact ⟨ai rfl, ai rfl, ai rfl, ai rfl, trivial⟩) (by exact trivial) (by rfl) (nk rfl)) (ih3 ((IntKind.wrap .i64 (s1.1 * x0)), (IntKind.wrap .i64 (s1.2 + 1))) trivial h))
  · have q7 := d_f hb5
    replace h := is_else (d_f hb5) h
    refine aw_exit ?_
    refine aq_then_exit ?_
    refine aq_then_exit ?_
    refine aq_in_exit ?_
    refine aq_then ?_
    refine aw_seq ?_
    refine aw_region ?_
    refine ao_read trivial (r_move rfl) rfl ?_
    refine ao_read trivial (r_assign rfl) rfl ?_
    refine ao_nil ?_
    refine aq_then ?_
    refine aw_ret ?_
    refine aq_ret ?_
    obtain rfl := is_some h
    exact aq_finx (l := [.tmp 4]) (xs := [.int .i64 s1.1]) idn [.int .i64 s1.1] [] rfl (by exact ⟨rfl, trivial⟩) (by exact ⟨ad_ren rfl, trivial⟩) (by exact trivial) rfl (nk rfl) rfl rfl ⟨rfl, rfl⟩
theorem c_spec_ChanceWithin {fu : Nat} {x0 : (List Int)} {x1 : Int} {x2 : Int} {r : (List Int) × Bool} (h : Is (p_spec_ChanceWithin fu x0 x1 x2) (some r)) :
    Scalar Try.prog 33 [.v (.arr 6 (.int .i64)) x0, .int .i64 x1, .int .i64 x2] (.tup [.v (.arr 2 (.int .i64)) r.1, .bool r.2]) := by
  unfold p_spec_ChanceWithin at h
  refine ac_enter ⟨25, 0⟩ Try.func33 rfl rfl rfl rfl rfl (fun Γ => ?_)
  refine aw_seq ?_
  refine aw_region ?_
  refine ao_eff trivial (e_box 0 rfl rfl rfl rfl rfl rfl) rfl ?_
  refine ao_eff trivial (e_alloc 1 (y := .v (.arr 2 (.int .i64)) ((List.replicate 2 0) : (List Int))) Try.zeroValue29 (fun ρ h M => ra_zero_arr (t := (.int .i64)) rfl) rfl rfl rfl rfl rfl) rfl ?_
  refine ao_read trivial (r_assign rfl) rfl ?_
  refine ao_nil ?_
  refine aq_then ?_
  refine aw_seq ?_
  refine aw_seq ?_
  refine aw_region ?_
  refine ao_read trivial (r_load_arr rfl Try.isAgg47 Try.sizeOf47 rfl rfl rfl) rfl ?_
  refine ao_read trivial (r_move rfl) rfl ?_
  obtain ⟨r1, r1h, h⟩ := is_bind h
  refine ao_scall trivial (scall (c_spec_l8Rolls (is_mk r1h)) rfl Try.func110 rfl rfl rfl rfl (fun σ => ⟨ad_ren rfl, ad_ren rfl, trivial⟩)) rfl ?_
  refine ao_read trivial (r_not rfl) rfl ?_
  refine ao_nil ?_
  refine aq_then ?_
  refine aw_cond rfl (fun hb2 => ?_) (fun hb2 => ?_)
  · replace h := is_else (ne_t (not_t hb2)) h
    refine aw_seq ?_
    refine aw_region ?_
    refine ao_read trivial (r_build_zero (t := (.int .i64)) Try.underlying29 Try.zeroValue29 Try.sizeOf3 rfl) rfl ?_
    refine ao_effS trivial (e_store rfl rfl rfl rfl Try.sizeOf29 rfl) ?_
    refine ao_read trivial (r_assign rfl) rfl ?_
    refine ao_nil ?_
    refine aq_then ?_
    refine aw_ret ?_
    refine aq_then_ret ?_
    refine aq_ret ?_
    obtain rfl := is_some h
    exact aq_finx (l := [.cell 6 29, .tmp 7]) (xs := [.v (.arr 2 (.int .i64)) ((List.replicate 2 0) : (List Int)), .bool false]) idn [.v (.arr 2 (.int .i64)) ((List.replicate 2 0) : (List Int)), .bool false] [] rfl (by exact ⟨⟨⟨_, _, rfl⟩, r_load_arr rfl Try.isAgg29 Try.sizeOf29 rfl rfl rfl⟩, rfl, trivial⟩) (by exact ⟨ad_ren rfl, ad_ren rfl, trivial⟩) (by exact trivial) rfl (nk rfl) rfl rfl ⟨rfl, rfl⟩
  · replace h := is_if (not_f hb2) h
    refine aw_skip ?_
    refine aq_then ?_
    refine aw_seq ?_
    obtain ⟨r3, r3h, h⟩ := is_bind h
    obtain ⟨r4, r4h, h⟩ := is_bind h
    obtain ⟨r5, r5h, h⟩ := is_bind h
    obtain ⟨r6, r6h, h⟩ := is_bind h
    refine aw_draw 12 (by kernel_rfl) (by kernel_rfl) ?_
    refine an_read 0 (by kernel_rfl) (fun _ _ _ h => h) rfl (by kernel_rfl) trivial (r_move rfl) rfl ?_
    refine an_scall 1 (by kernel_rfl) (fun _ _ _ h => h) rfl (by kernel_rfl) trivial (scall (c_spec_l2All (is_mk r3h)) rfl Try.func101 rfl rfl rfl rfl (fun σ => ⟨ad_ren rfl, trivial⟩)) rfl ?_
    refine an_read 2 (by kernel_rfl) (fun _ _ _ h => h) rfl (by kernel_rfl) trivial (r_load_arr rfl Try.isAgg47 Try.sizeOf47 rfl rfl rfl) rfl ?_
    refine an_read 3 (by kernel_rfl) (fun _ _ _ h => h) rfl (by kernel_rfl) trivial (r_move rfl) rfl ?_
    refine an_scall 4 (by kernel_rfl) (fun _ _ _ h => h) rfl (by kernel_rfl) trivial (scall (c_spec_l8Weight (is_mk (rfl : p_spec_l8Weight x0 x1 = _))) rfl Try.func105 rfl rfl rfl rfl (fun σ => ⟨ad_ren rfl, ad_ren rfl, trivial⟩)) rfl ?_
    refine an_read 5 (by kernel_rfl) (fun _ _ _ h => h) rfl (by kernel_rfl) trivial (r_sub rfl rfl) rfl ?_
    refine an_read 6 (by kernel_rfl) (fun _ _ _ h => h) rfl (by kernel_rfl) trivial (r_move rfl) rfl ?_
    refine an_scall 7 (by kernel_rfl) (fun _ _ _ h => h) rfl (by kernel_rfl) trivial (scall (c_spec_l8Power (is_mk r4h)) rfl Try.func111 rfl rfl rfl rfl (fun σ => ⟨ad_ren rfl, ad_ren rfl, trivial⟩)) rfl ?_
    refine an_read 8 (by kernel_rfl) (fun _ _ _ h => h) rfl (by kernel_rfl) trivial (r_sub rfl rfl) rfl ?_
    refine an_read 9 (by kernel_rfl) (fun _ _ _ h => h) rfl (by kernel_rfl) trivial (r_move rfl) rfl ?_
    refine an_scall 10 (by kernel_rfl) (fun _ _ _ h => h) rfl (by kernel_rfl) trivial (scall (c_spec_l2All (is_mk r5h)) rfl Try.func101 rfl rfl rfl rfl (fun σ => ⟨ad_ren rfl, trivial⟩)) rfl ?_
    refine an_scall 11 (by kernel_rfl) (fun _ _ _ h => h) rfl (by kernel_rfl) trivial (scall (c_spec_l2Cut (is_mk r6h)) rfl Try.func79 rfl rfl rfl rfl (fun σ => ⟨ad_ren rfl, ad_ren rfl, trivial⟩)) rfl ?_
    refine an_tail rfl rfl ?_
    refine ao_effS trivial (e_store rfl rfl rfl rfl Try.sizeOf29 rfl) ?_
    refine ao_read trivial (r_assign rfl) rfl ?_
    refine ao_nil ?_
    refine aq_then ?_
    refine aw_ret ?_
    refine aq_ret ?_
    obtain rfl := is_some h
    exact aq_finx (l := [.cell 6 29, .tmp 7]) (xs := [.v (.arr 2 (.int .i64)) r6, .bool true]) idn [.v (.arr 2 (.int .i64)) r6, .bool true] [] rfl (by exact ⟨⟨⟨_, _, rfl⟩, r_load_arr rfl Try.isAgg29 Try.sizeOf29 rfl rfl rfl⟩, rfl, trivial⟩) (by exact ⟨ad_ren rfl, ad_ren rfl, trivial⟩) (by exact trivial) rfl (nk rfl) rfl rfl ⟨rfl, rfl⟩
theorem c_slices_Index_int_int {x0 : (List Int)} {x1 : Int} {r : Int} (h : Is (p_slices_Index_int_int x0 x1) r) :
    Scalar Try.prog 185 [.v (.slice (.int .i64)) x0, .int .i64 x1] (.int .i64 r) := by
  unfold p_slices_Index_int_int at h
  refine ac_enter ⟨19, 0⟩ Try.func185 rfl rfl rfl rfl rfl (fun Γ => ?_)
  refine sl_len_m 0 (x0.length : Int) rfl rfl (fun hl0 => ?_)
  refine aw_seq ?_
  refine aw_region ?_
  refine ao_read trivial (r_assign rfl) rfl ?_
  refine ao_nil ?_
  refine aq_then ?_
  refine aw_seq ?_
  refine aw_seq ?_
  refine aw_region ?_
  refine ao_read trivial (r_move rfl) rfl ?_
  refine ao_read trivial (r_len_vm (x0.length : Int) Try.underlying32 rfl rfl) rfl ?_
  refine ao_read trivial (r_move rfl) rfl ?_
  refine ao_nil ?_
  refine aq_then ?_
  refine aw_block ?_
  refine aw_loop (AL.sub (fr' := [(0, .v (.slice (.int .i64)) x0), (1, .int .i64 x1), (7, .int .i64 (x0.length : Int)), (8, .int .i64 0)]) (H' := []) (sub_mk idn (by exact ⟨ai rfl, ai rfl, ai rfl, ai rfl, trivial⟩) (by exact trivial) (by rfl) (nk rfl)) (al_cnt (fun i2 (s1 : Unit) => [(0, .v (.slice (.int .i64)) x0), (1, .int .i64 x1), (7, .int .i64 (x0.length : Int)), (8, .int .i64 i2)]) (fun i2 (s1 : Unit) => []) (fun d i2 (s1 : Unit) => d = Int.toNat ((x0.length : Int) - i2) ∧ 0 ≤ i2 ∧ i2 ≤ (x0.length : Int)) h ⟨rfl, (by (try simp only [List.length_set, List.length_append, List.length_cons, List.length_nil, List.length_replicate, List.length_take, List.length_drop]) <;> omega), (by (try simp only [List.length_set, List.length_append, List.length_cons, List.length_nil, List.length_replicate, List.length_take, List.length_drop]) <;> omega)⟩ (fun d3 i2 s1 hI h ih3 => ?_)))
  obtain ⟨hd, _, _⟩ := hI
  refine al_round ?_
  refine aw_seq ?_
  refine aw_region ?_
  refine ao_read trivial (r_lss rfl rfl) rfl ?_
  refine ao_nil ?_
  refine aq_then ?_
  refine aw_seq ?_
  refine aw_cond rfl (fun hb5 => ?_) (fun hb5 => ?_)
  · have q6 := d_t hb5
    obtain ⟨d3, rfl⟩ : ∃ e, d3 = e + 1 := ⟨d3 - 1, by omega⟩
    replace h := is_cntS h
    refine aw_skip ?_
    refine aq_then ?_
    refine aw_seq ?_
    refine aw_block ?_
    refine aw_seq ?_
    refine aw_region ?_
    refine ao_read trivial (r_move rfl) rfl ?_
    refine ao_read trivial (r_assign rfl) rfl ?_
    refine ao_nil ?_
    refine aq_then ?_
    refine aw_seq ?_
    refine aw_region ?_
    refine ao_read trivial (r_move rfl) rfl ?_
    refine ao_read trivial (r_move rfl) rfl ?_
    refine ao_read trivial (r_move rfl) rfl ?_
    refine ao_read trivial (r_idxAddr_int Try.underlying32 Try.sizeOf3 rfl rfl (show 0 ≤ i2 from by omega) (show i2 < (x0.length : Int) from by omega)) rfl ?_
    refine ao_read trivial (r_load_c_int Try.isAgg3 Try.sizeOf3 rfl) rfl ?_
    refine ao_read trivial (r_eql rfl rfl) rfl ?_
    refine ao_nil ?_
    refine aq_then ?_
    refine aw_cond rfl (fun hb8 => ?_) (fun hb8 => ?_)
    · have q9 : x1 = (x0.getD i2.toNat 0) := d_t hb8
      replace h := is_if (d_t hb8) h
      refine aw_seq ?_
      refine aw_region ?_
      refine ao_read trivial (r_move rfl) rfl ?_
      refine ao_read trivial (r_assign rfl) rfl ?_
      refine ao_nil ?_
      refine aq_then ?_
      refine aw_ret ?_
      refine aq_in_ret ?_
      refine aq_then_ret ?_
      refine aq_then_ret ?_
      refine aq_in_ret ?_
      refine aq_then_ret ?_
      refine aq_ret ?_
      obtain rfl := is_eq h
      exact aq_finx (l := [.tmp 4]) (xs := [.int .i64 i2]) idn [.int .i64 i2] [] rfl (by exact ⟨rfl, trivial⟩) (by exact ⟨ad_ren rfl, trivial⟩) (by exact trivial) rfl (nk rfl) rfl rfl ⟨rfl, rfl⟩
    · have q10 : ¬ (x1 = (x0.getD i2.toNat 0)) := d_f hb8
      replace h := is_else (d_f hb8) h
      refine aw_skip ?_
      refine aq_in ?_
      refine aq_then ?_
      refine aw_region ?_
      refine ao_read trivial (r_addI rfl rfl (wrap_id (by omega) (by omega))) rfl ?_
      refine ao_read trivial (r_move rfl) rfl ?_
      refine ao_nil ?_
      exact aq_again (AL.sub (sub_mk idn (by exact ⟨ai rfl, ai rfl, ai rfl, ai rfl, trivial⟩) (by exact trivial) (by rfl) (nk rfl)) (ih3 d3 (i2 + 1) () (by omega) ⟨by omega, (by (try simp only [List.length_set, List.length_append, List.length_cons, List.length_nil, List.length_replicate, List.length_take, List.length_drop]) <;> omega), (by (try simp only [List.length_set, List.length_append, List.length_cons, List.length_nil, List.length_replicate, List.length_take, List.length_drop]) <;> omega)⟩ h))
  · have q7 := d_f hb5
    obtain rfl : d3 = 0 := by omega
    replace h := is_cnt0 h
    refine aw_exit ?_
    refine aq_then_exit ?_
    refine aq_then_exit ?_
    refine aq_in_exit ?_
    refine aq_then ?_
    refine aw_seq ?_
    refine aw_region ?_
    refine ao_read trivial (r_assign rfl) rfl ?_
    refine ao_nil ?_
    refine aq_then ?_
    refine aw_ret ?_
    refine aq_ret ?_
    obtain rfl := is_eq h
    exact aq_finx (l := [.tmp 4]) (xs := [.int .i64 (-1)]) idn [.int .i64 (-1)] [] rfl (by exact ⟨rfl, trivial⟩) (by exact ⟨ad_ren rfl, trivial⟩) (by exact trivial) rfl (nk rfl) rfl rfl ⟨rfl, rfl⟩
theorem c_slices_Contains_int_int {x0 : (List Int)} {x1 : Int} {r : Bool} (h : Is (p_slices_Contains_int_int x0 x1) r) :
    Scalar Try.prog 167 [.v (.slice (.int .i64)) x0, .int .i64 x1] (.bool r) := by
  unfold p_slices_Contains_int_int at h
  refine ac_enter ⟨9, 0⟩ Try.func167 rfl rfl rfl rfl rfl (fun Γ => ?_)
  refine sl_len_m 0 (x0.length : Int) rfl rfl (fun hl0 => ?_)
  refine aw_seq ?_
  refine aw_region ?_
  refine ao_read trivial (r_assign rfl) rfl ?_
  refine ao_nil ?_
  refine aq_then ?_
  refine aw_seq ?_
  refine aw_region ?_
  refine ao_read trivial (r_move rfl) rfl ?_
  refine ao_read trivial (r_move rfl) rfl ?_
  refine ao_scall trivial (scall (c_slices_Index_int_int (is_mk (rfl : p_slices_Index_int_int x0 x1 = _))) rfl Try.func185 rfl rfl rfl rfl (fun σ => ⟨ad_ren rfl, ad_ren rfl, trivial⟩)) rfl ?_
  refine ao_read trivial (r_geq rfl rfl) rfl ?_
  refine ao_read trivial (r_assign rfl) rfl ?_
  refine ao_nil ?_
  refine aq_then ?_
  refine aw_ret ?_
  refine aq_ret ?_
  obtain rfl := is_eq h
  exact aq_finx (l := [.tmp 4]) (xs := [.bool (decide (0 ≤ (p_slices_Index_int_int x0 x1)))]) idn [.bool (decide (0 ≤ (p_slices_Index_int_int x0 x1)))] [] rfl (by exact ⟨rfl, trivial⟩) (by exact ⟨ad_ren rfl, trivial⟩) (by exact trivial) rfl (nk rfl) rfl rfl ⟨rfl, rfl⟩
theorem c_impl_has {x0 : (List Int)} {x1 : Int} {r : Bool} (h : Is (p_impl_has x0 x1) r) :
    Scalar Try.prog 112 [.v (.arr 6 (.int .i64)) x0, .int .i64 x1] (.bool r) := by
  unfold p_impl_has at h
  refine ac_enter ⟨8, 0⟩ Try.func112 rfl rfl rfl rfl rfl (fun Γ => ?_)
  refine aw_seq ?_
  refine aw_region ?_
  refine ao_eff trivial (e_box 0 rfl rfl rfl rfl rfl rfl) rfl ?_
  refine ao_read trivial (r_assign rfl) rfl ?_
  refine ao_nil ?_
  refine aq_then ?_
  refine aw_seq ?_
  refine aw_region ?_
  refine ao_read trivial (r_slice_arr Try.underlying47 Try.sizeOf3 rfl .none .none (by omega) (by omega) (by omega)) rfl ?_
  refine ao_read trivial (r_move rfl) rfl ?_
  refine ao_scall trivial (scall (c_slices_Contains_int_int (is_mk (rfl : p_slices_Contains_int_int x0 x1 = _))) rfl Try.func167 rfl rfl rfl rfl (fun σ => ⟨ad_viewf0 rfl rfl rfl rfl rfl, ad_ren rfl, trivial⟩)) rfl ?_
  refine ao_read trivial (r_assign rfl) rfl ?_
  refine ao_nil ?_
  refine aq_then ?_
  refine aw_ret ?_
  refine aq_ret ?_
  obtain rfl := is_eq h
  exact aq_finx (l := [.tmp 4]) (xs := [.bool (p_slices_Contains_int_int x0 x1)]) idn [.bool (p_slices_Contains_int_int x0 x1)] [] rfl (by exact ⟨rfl, trivial⟩) (by exact ⟨ad_ren rfl, trivial⟩) (by exact trivial) rfl (nk rfl) rfl rfl ⟨rfl, rfl⟩
theorem c_impl_MeanWait {fu : Nat} {x0 : (List Int)} {x1 : Int} {r : (List Int) × Bool} (h : Is (p_impl_MeanWait fu x0 x1) (some r)) :
    Scalar Try.prog 34 [.v (.arr 6 (.int .i64)) x0, .int .i64 x1] (.tup [.v (.arr 2 (.int .i64)) r.1, .bool r.2]) := by
  unfold p_impl_MeanWait at h
  refine ac_enter ⟨20, 0⟩ Try.func34 rfl rfl rfl rfl rfl (fun Γ => ?_)
  refine aw_seq ?_
  refine aw_region ?_
  refine ao_eff trivial (e_box 0 rfl rfl rfl rfl rfl rfl) rfl ?_
  refine ao_eff trivial (e_alloc 1 (y := .v (.arr 2 (.int .i64)) ((List.replicate 2 0) : (List Int))) Try.zeroValue29 (fun ρ h M => ra_zero_arr (t := (.int .i64)) rfl) rfl rfl rfl rfl rfl) rfl ?_
  refine ao_read trivial (r_assign rfl) rfl ?_
  refine ao_nil ?_
  refine aq_then ?_
  refine aw_seq ?_
  refine aw_seq ?_
  refine aw_region ?_
  refine ao_read trivial (r_load_arr rfl Try.isAgg47 Try.sizeOf47 rfl rfl rfl) rfl ?_
  refine ao_scall trivial (scall (c_impl_IsDie (is_mk (rfl : p_impl_IsDie x0 = _))) rfl Try.func97 rfl rfl rfl rfl (fun σ => ⟨ad_ren rfl, trivial⟩)) rfl ?_
  refine ao_read trivial (r_not rfl) rfl ?_
  refine ao_read trivial (r_move rfl) rfl ?_
  refine ao_readG (x := .v (.arr 6 (.int .i64)) x0) rfl (GV.F rfl) (fun hg1 => r_load_arr rfl Try.isAgg47 Try.sizeOf47 rfl rfl rfl) rfl ?_
  refine ao_readG (x := .int .i64 x1) rfl (GV.F rfl) (fun hg2 => r_move rfl) rfl ?_
  refine ao_scallG (r := .bool (p_impl_has x0 x1)) rfl (GV.F rfl) (fun hg3 => SCall.strip 10 rfl (hg3) (SCall.strip 11 rfl (hg3) (scall (c_impl_has (is_mk (rfl : p_impl_has x0 x1 = _))) rfl Try.func112 rfl rfl rfl rfl (fun σ => ⟨ad_ren rfl, ad_ren rfl, trivial⟩)))) rfl ?_
  refine ao_readG (x := .bool (!(p_impl_has x0 x1))) rfl (GV.F rfl) (fun hg4 => Reads.strip 12 rfl (hg4) (r_not rfl)) rfl ?_
  refine ao_read trivial (r_orB rfl rfl) rfl ?_
  refine ao_nil ?_
  refine aq_then ?_
  refine aw_cond rfl (fun hb5 => ?_) (fun hb5 => ?_)
  · replace h := is_if hb5 h
    refine aw_seq ?_
    refine aw_region ?_
    refine ao_read trivial (r_build_zero (t := (.int .i64)) Try.underlying29 Try.zeroValue29 Try.sizeOf3 rfl) rfl ?_
    refine ao_effS trivial (e_store rfl rfl rfl rfl Try.sizeOf29 rfl) ?_
    refine ao_read trivial (r_assign rfl) rfl ?_
    refine ao_nil ?_
    refine aq_then ?_
    refine aw_ret ?_
    refine aq_then_ret ?_
    refine aq_ret ?_
    obtain rfl := is_some h
    exact aq_finx (l := [.cell 4 29, .tmp 5]) (xs := [.v (.arr 2 (.int .i64)) ((List.replicate 2 0) : (List Int)), .bool false]) idn [.v (.arr 2 (.int .i64)) ((List.replicate 2 0) : (List Int)), .bool false] [] rfl (by exact ⟨⟨⟨_, _, rfl⟩, r_load_arr rfl Try.isAgg29 Try.sizeOf29 rfl rfl rfl⟩, rfl, trivial⟩) (by exact ⟨ad_ren rfl, ad_ren rfl, trivial⟩) (by exact trivial) rfl (nk rfl) rfl rfl ⟨rfl, rfl⟩
  · obtain ⟨q6, q7⟩ := or_f hb5
    replace h := is_else (ne_t hb5) h
    refine aw_skip ?_
    refine aq_then ?_
    refine aw_seq ?_
    refine aw_region ?_
    refine ao_read trivial (r_load_arr rfl Try.isAgg47 Try.sizeOf47 rfl rfl rfl) rfl ?_
    refine ao_read trivial (r_move rfl) rfl ?_
    refine ao_scall trivial (scall (c_impl_weight (is_mk (rfl : p_impl_weight x0 x1 = _))) rfl Try.func104 rfl rfl rfl rfl (fun σ => ⟨ad_ren rfl, ad_ren rfl, trivial⟩)) rfl ?_
    obtain ⟨r8, r8h, h⟩ := is_bind h
    refine ao_scall trivial (scall (c_impl_fraction (is_mk r8h)) rfl Try.func102 rfl rfl rfl rfl (fun σ => ⟨ad_ren rfl, ad_ren rfl, trivial⟩)) rfl ?_
    refine ao_effS trivial (e_store rfl rfl rfl rfl Try.sizeOf29 rfl) ?_
    refine ao_read trivial (r_assign rfl) rfl ?_
    refine ao_nil ?_
    refine aq_then ?_
    refine aw_ret ?_
    refine aq_ret ?_
    obtain rfl := is_some h
    exact aq_finx (l := [.cell 4 29, .tmp 5]) (xs := [.v (.arr 2 (.int .i64)) r8, .bool true]) idn [.v (.arr 2 (.int .i64)) r8, .bool true] [] rfl (by exact ⟨⟨⟨_, _, rfl⟩, r_load_arr rfl Try.isAgg29 Try.sizeOf29 rfl rfl rfl⟩, rfl, trivial⟩) (by exact ⟨ad_ren rfl, ad_ren rfl, trivial⟩) (by exact trivial) rfl (nk rfl) rfl rfl ⟨rfl, rfl⟩
theorem c_spec_MeanWait {fu : Nat} {x0 : (List Int)} {x1 : Int} {r : (List Int) × Bool} (h : Is (p_spec_MeanWait fu x0 x1) (some r)) :
    Scalar Try.prog 35 [.v (.arr 6 (.int .i64)) x0, .int .i64 x1] (.tup [.v (.arr 2 (.int .i64)) r.1, .bool r.2]) := by
  unfold p_spec_MeanWait at h
  refine ac_enter ⟨20, 0⟩ Try.func35 rfl rfl rfl rfl rfl (fun Γ => ?_)
  refine aw_seq ?_
  refine aw_region ?_
  refine ao_eff trivial (e_box 0 rfl rfl rfl rfl rfl rfl) rfl ?_
  refine ao_eff trivial (e_alloc 1 (y := .v (.arr 2 (.int .i64)) ((List.replicate 2 0) : (List Int))) Try.zeroValue29 (fun ρ h M => ra_zero_arr (t := (.int .i64)) rfl) rfl rfl rfl rfl rfl) rfl ?_
  refine ao_read trivial (r_assign rfl) rfl ?_
  refine ao_nil ?_
  refine aq_then ?_
  refine aw_seq ?_
  refine aw_seq ?_
  refine aw_region ?_
  refine ao_read trivial (r_load_arr rfl Try.isAgg47 Try.sizeOf47 rfl rfl rfl) rfl ?_
  obtain ⟨r1, r1h, h⟩ := is_bind h
  refine ao_scall trivial (scall (c_spec_l2Die (is_mk r1h)) rfl Try.func100 rfl rfl rfl rfl (fun σ => ⟨ad_ren rfl, trivial⟩)) rfl ?_
  refine ao_read trivial (r_not rfl) rfl ?_
  refine ao_read trivial (r_move rfl) rfl ?_
  refine ao_readG (x := .v (.arr 6 (.int .i64)) x0) rfl (GV.F rfl) (fun hg2 => r_load_arr rfl Try.isAgg47 Try.sizeOf47 rfl rfl rfl) rfl ?_
  refine ao_readG (x := .int .i64 x1) rfl (GV.F rfl) (fun hg3 => r_move rfl) rfl ?_
  refine ao_scallG (r := .int .i64 (p_spec_l8Weight x0 x1)) rfl (GV.F rfl) (fun hg4 => SCall.strip 10 rfl (hg4) (SCall.strip 11 rfl (hg4) (scall (c_spec_l8Weight (is_mk (rfl : p_spec_l8Weight x0 x1 = _))) rfl Try.func105 rfl rfl rfl rfl (fun σ => ⟨ad_ren rfl, ad_ren rfl, trivial⟩)))) rfl ?_
  refine ao_readG (x := .bool (decide ((p_spec_l8Weight x0 x1) = 0))) rfl (GV.F rfl) (fun hg5 => Reads.strip 12 rfl (hg5) (r_eql rfl rfl)) rfl ?_
  refine ao_read trivial (r_orB rfl rfl) rfl ?_
  refine ao_nil ?_
  refine aq_then ?_
  refine aw_cond rfl (fun hb6 => ?_) (fun hb6 => ?_)
  · replace h := is_if hb6 h
    refine aw_seq ?_
    refine aw_region ?_
    refine ao_read trivial (r_build_zero (t := (.int .i64)) Try.underlying29 Try.zeroValue29 Try.sizeOf3 rfl) rfl ?_
    refine ao_effS trivial (e_store rfl rfl rfl rfl Try.sizeOf29 rfl) ?_
    refine ao_read trivial (r_assign rfl) rfl ?_
    refine ao_nil ?_
    refine aq_then ?_
    refine aw_ret ?_
    refine aq_then_ret ?_
    refine aq_ret ?_
    obtain rfl := is_some h
    exact aq_finx (l := [.cell 4 29, .tmp 5]) (xs := [.v (.arr 2 (.int .i64)) ((List.replicate 2 0) : (List Int)), .bool false]) idn [.v (.arr 2 (.int .i64)) ((List.replicate 2 0) : (List Int)), .bool false] [] rfl (by exact ⟨⟨⟨_, _, rfl⟩, r_load_arr rfl Try.isAgg29 Try.sizeOf29 rfl rfl rfl⟩, rfl, trivial⟩) (by exact ⟨ad_ren rfl, ad_ren rfl, trivial⟩) (by exact trivial) rfl (nk rfl) rfl rfl ⟨rfl, rfl⟩
  · obtain ⟨q7, q8⟩ := or_f hb6
    have q9 := d_f q8
    replace h := is_else (ne_t hb6) h
    refine aw_skip ?_
    refine aq_then ?_
    refine aw_seq ?_
    refine aw_region ?_
    refine ao_read trivial (r_load_arr rfl Try.isAgg47 Try.sizeOf47 rfl rfl rfl) rfl ?_
    refine ao_read trivial (r_move rfl) rfl ?_
    refine ao_scall trivial (scall (c_spec_l8Weight (is_mk (rfl : p_spec_l8Weight x0 x1 = _))) rfl Try.func105 rfl rfl rfl rfl (fun σ => ⟨ad_ren rfl, ad_ren rfl, trivial⟩)) rfl ?_
    obtain ⟨r10, r10h, h⟩ := is_bind h
    refine ao_scall trivial (scall (c_spec_l2Cut (is_mk r10h)) rfl Try.func79 rfl rfl rfl rfl (fun σ => ⟨ad_ren rfl, ad_ren rfl, trivial⟩)) rfl ?_
    refine ao_effS trivial (e_store rfl rfl rfl rfl Try.sizeOf29 rfl) ?_
    refine ao_read trivial (r_assign rfl) rfl ?_
    refine ao_nil ?_
    refine aq_then ?_
    refine aw_ret ?_
    refine aq_ret ?_
    obtain rfl := is_some h
    exact aq_finx (l := [.cell 4 29, .tmp 5]) (xs := [.v (.arr 2 (.int .i64)) r10, .bool true]) idn [.v (.arr 2 (.int .i64)) r10, .bool true] [] rfl (by exact ⟨⟨⟨_, _, rfl⟩, r_load_arr rfl Try.isAgg29 Try.sizeOf29 rfl rfl rfl⟩, rfl, trivial⟩) (by exact ⟨ad_ren rfl, ad_ren rfl, trivial⟩) (by exact trivial) rfl (nk rfl) rfl rfl ⟨rfl, rfl⟩
theorem c_spec_DrawChanceAll {x0 : (List Int)} {r : (List Int) × Int} (h : Is (p_spec_DrawChanceAll x0) (some r)) :
    Scalar Try.prog 36 [.v (.slice (.int .u8)) x0] (.tup [.v (.arr 6 (.int .i64)) r.1, .int .i64 r.2]) := by
  unfold p_spec_DrawChanceAll at h
  refine ac_enter ⟨12, 0⟩ Try.func36 rfl rfl rfl rfl rfl (fun Γ => ?_)
  refine sl_len_m 0 (x0.length : Int) rfl rfl (fun hl0 => ?_)
  refine aw_seq ?_
  refine aw_region ?_
  refine ao_eff trivial (e_alloc 0 (y := .v (.arr 6 (.int .i64)) ((List.replicate 6 0) : (List Int))) Try.zeroValue47 (fun ρ h M => ra_zero_arr (t := (.int .i64)) rfl) rfl rfl rfl rfl rfl) rfl ?_
  refine ao_read trivial (r_assign rfl) rfl ?_
  refine ao_nil ?_
  refine aq_then ?_
  refine aw_seq ?_
  refine aw_region ?_
  refine ao_read trivial (r_move rfl) rfl ?_
  refine ao_read trivial (r_build_st (l := [(0, .tmp 5)]) (cs := [.cell (.v (.slice (.int .u8)) x0), .cell (.int .i64 0), .cell (.int .u64 0)]) (.pair (.slice (.int .u8)) (.pair (.int .i64) (.pair (.int .u64) .unit))) [(0, 1), (1, 1), (2, 1)] Try.underlying81 Try.zeroValue81 rfl ⟨rfl, Try.sizeOf22, rfl, Try.sizeOf3, rfl, Try.sizeOf79, trivial⟩ rfl rfl rfl) rfl ?_
  refine ao_eff trivial (e_box 1 rfl rfl rfl rfl rfl rfl) rfl ?_
  refine ao_read trivial (r_assign rfl) rfl ?_
  refine ao_nil ?_
  refine aq_then ?_
  refine aw_seq ?_
  refine aw_region ?_
  refine ao_read trivial (r_move rfl) rfl ?_
  obtain ⟨r1, r1h, h⟩ := is_bind h
  refine ao_callV [1] 2 trivial (c_spec_l1Cur_die (is_mk r1h)) Try.func95 rfl rfl rfl rfl rfl ⟨rfl, trivial⟩ ⟨⟨_, rfl, ⟨ad_ren rfl, rfl, ad_ren rfl, rfl, ad_ren rfl, rfl, trivial⟩⟩, trivial⟩ rfl rfl rfl rfl rfl rfl rfl (fun r' H' hr => ?_)
  obtain ⟨rfl, rfl⟩ := hr
  refine ao_norm (y := .v (.arr 6 (.int .i64)) r1.1) (H' := [(0, .var [.arr (.int .i64) 6 ((List.replicate 6 0) : (List Int))]), (1, .var [.cell (.v (.slice (.int .u8)) x0), .cell (.int .i64 r1.2.1), .cell (.int .u64 r1.2.2)])]) rfl rfl ?_
  refine ao_read trivial (r_move rfl) rfl ?_
  obtain ⟨r2, r2h, h⟩ := is_bind h
  refine ao_callV [1] 2 trivial (c_spec_l1Cur_rolls8 (is_mk r2h)) Try.func107 rfl rfl rfl rfl rfl ⟨rfl, trivial⟩ ⟨⟨_, rfl, ⟨ad_ren rfl, rfl, ad_ren rfl, rfl, ad_ren rfl, rfl, trivial⟩⟩, trivial⟩ rfl rfl rfl rfl rfl rfl rfl (fun r' H' hr => ?_)
  obtain ⟨rfl, rfl⟩ := hr
  refine ao_norm (y := .int .i64 r2.1) (H' := [(0, .var [.arr (.int .i64) 6 ((List.replicate 6 0) : (List Int))]), (1, .var [.cell (.v (.slice (.int .u8)) x0), .cell (.int .i64 r2.2.1), .cell (.int .u64 r2.2.2)])]) rfl rfl ?_
  refine ao_effS trivial (e_store rfl rfl rfl rfl Try.sizeOf47 rfl) ?_
  refine ao_read trivial (r_assign rfl) rfl ?_
  refine ao_nil ?_
  refine aq_then ?_
  refine aw_ret ?_
  refine aq_ret ?_
  obtain rfl := is_some h
  exact aq_finx (l := [.cell 2 47, .tmp 3]) (xs := [.v (.arr 6 (.int .i64)) r1.1, .int .i64 r2.1]) idn [.v (.arr 6 (.int .i64)) r1.1, .int .i64 r2.1] [] rfl (by exact ⟨⟨⟨_, _, rfl⟩, r_load_arr rfl Try.isAgg47 Try.sizeOf47 rfl rfl rfl⟩, rfl, trivial⟩) (by exact ⟨ad_ren rfl, ad_ren rfl, trivial⟩) (by exact trivial) rfl (nk rfl) rfl rfl ⟨rfl, rfl⟩
theorem c_slices_Clone_int_int {x0 : (List Int)} {r : (List Int)} (h : Is (p_slices_Clone_int_int x0) (some r)) :
    ACalls Try.prog 121 [.v (.slice (.int .i64)) x0] [] (fun r' H' => r' = .os 0 ∧ H' = [(0, .row (.int .i64) r)]) := by
  unfold p_slices_Clone_int_int at h
  refine ac_enter ⟨8, 0⟩ Try.func121 rfl rfl rfl rfl rfl (fun Γ => ?_)
  refine sl_len_m 0 (x0.length : Int) rfl rfl (fun hl0 => ?_)
  refine aw_seq ?_
  refine aw_region ?_
  refine ao_read trivial (r_assign rfl) rfl ?_
  refine ao_nil ?_
  refine aq_then ?_
  refine aw_seq ?_
  refine aw_seq ?_
  refine aw_region ?_
  refine ao_read trivial (r_move rfl) rfl ?_
  refine ao_eqnil trivial Try.underlying32 rfl rfl rfl (fun b1 hn2 => ?_)
  refine ao_nil ?_
  refine aq_then ?_
  refine aw_cond rfl (fun hb3 => ?_) (fun hb3 => ?_)
  · obtain rfl : x0 = [] := hn2 hb3
    replace h : Is (some [] : Option ((List Int))) (some r) := (by simpa using h)
    refine aw_seq ?_
    refine aw_region ?_
    refine ao_read trivial (r_assign rfl) rfl ?_
    refine ao_nil ?_
    refine aq_then ?_
    refine aw_ret ?_
    refine aq_then_ret ?_
    refine aq_ret ?_
    obtain rfl := is_some h
    refine AQ.sub (sub_nil (T := 2) (t := (.int .i64)) 0 rfl rfl rfl) ?_
    exact aq_finx (l := [.tmp 2]) (xs := [.os 0]) idn [.os 0] [(0, .row (.int .i64) ([] : (List Int)))] rfl (by exact ⟨rfl, trivial⟩) (by exact ⟨ad_ren rfl, trivial⟩) (by exact ⟨⟨_, rfl, rfl⟩, trivial⟩) rfl (nk rfl) rfl rfl ⟨rfl, rfl⟩
  · refine aw_skip ?_
    refine aq_then ?_
    refine aw_seq ?_
    refine aw_region ?_
    refine ao_eff trivial (e_buildSlice (l := []) (t := (.int .i64)) 1 ([] : (List Int)) rfl Try.underlying32 Try.zeroValue3 Try.sizeOf3 rfl rfl rfl rfl rfl rfl rfl) rfl ?_
    refine ao_read trivial (r_move rfl) rfl ?_
    obtain ⟨g4, h⟩ := is_guard h
    refine ao_eff trivial (e_append (t := (.int .i64)) 2 rfl Try.underlying32 (rfl : Try.prog.info? 3 = some _) rfl rfl rfl rfl rfl rfl rfl src_v (show [].length + x0.length ≤ 1000000000 from by (try simp only [List.length_cons, List.length_nil]) <;> omega) rfl rfl) rfl ?_
    refine ao_read trivial (r_assign rfl) rfl ?_
    refine ao_nil ?_
    refine aq_then ?_
    refine aw_ret ?_
    refine aq_ret ?_
    obtain rfl := is_some h
    exact aq_finx (l := [.tmp 2]) (xs := [.os 2]) (rn [(0, 2)]) [.os 0] [(0, .row (.int .i64) (([] ++ x0) : (List Int)))] rfl (by exact ⟨rfl, trivial⟩) (by exact ⟨ad_ren rfl, trivial⟩) (by exact ⟨⟨_, rfl, rfl⟩, trivial⟩) rfl (nk rfl) rfl rfl ⟨rfl, rfl⟩
theorem c_slices_Compact_int_int {x0 : (List Int)} {r : (List Int)} (h : Is (p_slices_Compact_int_int x0) (some r)) :
    ACalls Try.prog 175 [.os 0] [(0, .row (.int .i64) x0)] (fun r' H' => r' = .os 1 ∧ H' = [(1, .row (.int .i64) r)]) := by
  unfold p_slices_Compact_int_int at h
  refine ac_enter ⟨61, 1⟩ Try.func175 rfl rfl rfl rfl rfl (fun Γ => ?_)
  refine row_len_m 0 (x0.length : Int) rfl rfl (fun hr0 => ?_)
  refine aw_seq ?_
  refine aw_region ?_
  refine ao_read trivial (r_assign rfl) rfl ?_
  refine ao_nil ?_
  refine aq_then ?_
  refine aw_seq ?_
  refine aw_seq ?_
  refine aw_region ?_
  refine ao_read trivial (r_move rfl) rfl ?_
  refine ao_read trivial (r_len_osm (x0.length : Int) Try.underlying32 rfl rfl rfl) rfl ?_
  refine ao_read trivial (r_lss rfl rfl) rfl ?_
  refine ao_nil ?_
  refine aq_then ?_
  refine aw_cond rfl (fun hb1 => ?_) (fun hb1 => ?_)
  · have q2 := d_t hb1
    replace h := is_if (d_t hb1) h
    refine aw_seq ?_
    refine aw_region ?_
    refine ao_read trivial (r_move rfl) rfl ?_
    refine ao_read trivial (r_assign rfl) rfl ?_
    refine ao_nil ?_
    refine aq_then ?_
    refine aw_ret ?_
    refine aq_then_ret ?_
    refine aq_ret ?_
    obtain rfl := is_some h
    exact aq_finx (l := [.tmp 2]) (xs := [.os 0]) (rn [(1, 0)]) [.os 1] [(1, .row (.int .i64) x0)] rfl (by exact ⟨rfl, trivial⟩) (by exact ⟨ad_ren rfl, trivial⟩) (by exact ⟨⟨_, rfl, rfl⟩, trivial⟩) rfl (nk1 rfl rfl) rfl rfl ⟨rfl, rfl⟩
  · have q3 := d_f hb1
    replace h := is_else (d_f hb1) h
    refine aw_skip ?_
    refine aq_then ?_
    refine aw_seq ?_
    refine aw_seq ?_
    refine aw_region ?_
    refine ao_read trivial (r_assign rfl) rfl ?_
    refine ao_nil ?_
    refine aq_then ?_
    refine aw_block ?_
    refine aw_loop (AL.sub (fr' := [(0, .os 0), (3, .int .i64 1)]) (H' := [(0, .row (.int .i64) x0)]) (sub_mk idn (by exact ⟨ai rfl, ai rfl, trivial⟩) (by exact ⟨⟨_, rfl, rfl⟩, trivial⟩) (by rfl) (nk1 rfl rfl)) (al_cnt (fun i5 (s4 : Unit) => [(0, .os 0), (3, .int .i64 i5)]) (fun i5 (s4 : Unit) => [(0, .row (.int .i64) x0)]) (fun d i5 (s4 : Unit) => d = Int.toNat ((x0.length : Int) - i5) ∧ 1 ≤ i5 ∧ i5 ≤ (x0.length : Int)) h ⟨rfl, (by (try simp only [List.length_set, List.length_append, List.length_cons, List.length_nil, List.length_replicate, List.length_take, List.length_drop]) <;> omega), (by (try simp only [List.length_set, List.length_append, List.length_cons, List.length_nil, List.length_replicate, List.length_take, List.length_drop]) <;> omega)⟩ (fun d6 i5 s4 hI h ih6 => ?_)))
    obtain ⟨hd, _, _⟩ := hI
    refine al_round ?_
    refine aw_seq ?_
    refine aw_seq ?_
    refine aw_region ?_
    refine ao_read trivial (r_move rfl) rfl ?_
    refine ao_read trivial (r_move rfl) rfl ?_
    refine ao_read trivial (r_len_osm (x0.length : Int) Try.underlying32 rfl rfl rfl) rfl ?_
    refine ao_read trivial (r_lss rfl rfl) rfl ?_
    refine ao_nil ?_
    refine aq_then ?_
    refine aw_cond rfl (fun hb8 => ?_) (fun hb8 => ?_)
    · have q9 := d_t hb8
      obtain ⟨d6, rfl⟩ : ∃ e, d6 = e + 1 := ⟨d6 - 1, by omega⟩
      replace h := is_cntS h
      refine aw_skip ?_
      refine aq_then ?_
      refine aw_seq ?_
      refine aw_block ?_
      refine aw_seq ?_
      refine aw_drawAll (by kernel_rfl) ?_
      refine an_read 0 (by kernel_rfl) (fun _ _ _ h => h) rfl (by kernel_rfl) trivial (r_move rfl) rfl ?_
      refine an_read 1 (by kernel_rfl) (fun _ _ _ h => h) rfl (by kernel_rfl) trivial (r_move rfl) rfl ?_
      refine an_read 2 (by kernel_rfl) (fun _ _ _ h => h) rfl (by kernel_rfl) trivial (r_idxAddr_os Try.underlying32 Try.sizeOf3 rfl rfl rfl (show 0 ≤ i5 from by omega) (show i5 < (x0.length : Int) from by omega)) rfl ?_
      refine an_read 3 (by kernel_rfl) (fun _ _ _ h => h) rfl (by kernel_rfl) trivial (r_load_elem_int Try.isAgg3 Try.sizeOf3 rfl rfl (show i5.toNat < x0.length from by omega)) rfl ?_
      refine an_read 4 (by kernel_rfl) (fun _ _ _ h => h) rfl (by kernel_rfl) trivial (r_move rfl) rfl ?_
      refine an_read 5 (by kernel_rfl) (fun _ _ _ h => h) rfl (by kernel_rfl) trivial (r_move rfl) rfl ?_
      refine an_read 6 (by kernel_rfl) (fun _ _ _ h => h) rfl (by kernel_rfl) trivial (r_subI rfl rfl (wrap_id (by omega) (by omega))) rfl ?_
      refine an_read 7 (by kernel_rfl) (fun _ _ _ h => h) rfl (by kernel_rfl) trivial (r_idxAddr_os Try.underlying32 Try.sizeOf3 rfl rfl rfl (show 0 ≤ (i5 - 1) from by omega) (show (i5 - 1) < (x0.length : Int) from by omega)) rfl ?_
      refine an_read 8 (by kernel_rfl) (fun _ _ _ h => h) rfl (by kernel_rfl) trivial (r_load_elem_int Try.isAgg3 Try.sizeOf3 rfl rfl (show (i5 - 1).toNat < x0.length from by omega)) rfl ?_
      refine an_read 9 (by kernel_rfl) (fun _ _ _ h => h) rfl (by kernel_rfl) trivial (r_eql rfl rfl) rfl ?_
      refine an_done rfl ?_
      refine aq_then ?_
      refine aw_cond rfl (fun hb11 => ?_) (fun hb11 => ?_)
      · have q12 : (x0.getD i5.toNat 0) = (x0.getD (i5 - 1).toNat 0) := d_t hb11
        replace h := is_if (d_t hb11) h
        refine aw_seq ?_
        refine aw_region ?_
        refine ao_read trivial (r_move rfl) rfl ?_
        refine ao_read trivial (r_move rfl) rfl ?_
        refine ao_read trivial (r_slice_os (t := (.int .i64)) Try.underlying32 Try.sizeOf3 rfl rfl (.some rfl) .none (show 0 ≤ i5 from by omega) (show i5 ≤ (x0.length : Int) from by omega) (show (x0.length : Int) ≤ (x0.length : Int) from by omega)) rfl ?_
        refine ao_read trivial (r_assign rfl) rfl ?_
        refine ao_nil ?_
        refine aq_then ?_
        refine aw_seq ?_
        refine aw_seq ?_
        refine aw_region ?_
        refine ao_read trivial (r_assign rfl) rfl ?_
        refine ao_nil ?_
        refine aq_then ?_
        refine aw_block ?_
        refine aw_loop (AL.sub (fr' := [(0, .os 0), (3, .int .i64 i5), (4, .view 0 0 1 i5.toNat ((x0.length : Int) - i5).toNat), (5, .int .i64 1)]) (H' := [(0, .row (.int .i64) x0)]) (sub_mk idn (by exact ⟨ai rfl, ai rfl, ai rfl, ai rfl, trivial⟩) (by exact ⟨⟨_, rfl, rfl⟩, trivial⟩) (by rfl) (nk1 rfl rfl)) (al_cnt (fun i15 (s14 : Int × (List Int)) => [(0, .os 0), (3, .int .i64 s14.1), (4, .view 0 0 1 i5.toNat ((x0.length : Int) - i5).toNat), (5, .int .i64 i15)]) (fun i15 (s14 : Int × (List Int)) => [(0, .row (.int .i64) s14.2)]) (fun d i15 (s14 : Int × (List Int)) => d = Int.toNat (((((x0.length : Int) - i5).toNat : Nat) : Int) - i15) ∧ i5 ≤ s14.1 ∧ 1 ≤ i15 ∧ (s14.2.length : Int) = (x0.length : Int) ∧ i15 ≤ ((((x0.length : Int) - i5).toNat : Nat) : Int)) h ⟨rfl, (by (try simp only [List.length_set, List.length_append, List.length_cons, List.length_nil, List.length_replicate, List.length_take, List.length_drop]) <;> omega), (by (try simp only [List.length_set, List.length_append, List.length_cons, List.length_nil, List.length_replicate, List.length_take, List.length_drop]) <;> omega), (by (try simp only [List.length_set, List.length_append, List.length_cons, List.length_nil, List.length_replicate, List.length_take, List.length_drop]) <;> omega), (by (try simp only [List.length_set, List.length_append, List.length_cons, List.length_nil, List.length_replicate, List.length_take, List.length_drop]) <;> omega)⟩ (fun d16 i15 s14 hI h ih16 => ?_)))
        obtain ⟨hd, _, _, _, _⟩ := hI
        refine al_round ?_
        refine aw_seq ?_
        refine aw_seq ?_
        refine aw_region ?_
        refine ao_read trivial (r_move rfl) rfl ?_
        refine ao_read trivial (r_move rfl) rfl ?_
        refine ao_read trivial (r_len_view Try.underlying32 rfl) rfl ?_
        refine ao_read trivial (r_lss rfl rfl) rfl ?_
        refine ao_nil ?_
        refine aq_then ?_
        refine aw_cond rfl (fun hb18 => ?_) (fun hb18 => ?_)
        · have q19 := d_t hb18
          obtain ⟨d16, rfl⟩ : ∃ e, d16 = e + 1 := ⟨d16 - 1, by omega⟩
          replace h := is_cntS h
          refine aw_skip ?_
          refine aq_then ?_
          refine aw_seq ?_
          refine aw_block ?_
          refine aw_seq ?_
          refine aw_drawAll (by kernel_rfl) ?_
          refine an_read 0 (by kernel_rfl) (fun _ _ _ h => h) rfl (by kernel_rfl) trivial (r_move rfl) rfl ?_
          refine an_read 1 (by kernel_rfl) (fun _ _ _ h => h) rfl (by kernel_rfl) trivial (r_move rfl) rfl ?_
          refine an_read 2 (by kernel_rfl) (fun _ _ _ h => h) rfl (by kernel_rfl) trivial (r_idxAddr_view Try.underlying32 Try.sizeOf3 rfl rfl (by omega) (by omega)) rfl ?_
          refine an_read 3 (by kernel_rfl) (fun _ _ _ h => h) rfl (by kernel_rfl) trivial (r_load_elem_int Try.isAgg3 Try.sizeOf3 rfl rfl (show (i5.toNat + i15.toNat) < s14.2.length from by omega)) rfl ?_
          refine an_read 4 (by kernel_rfl) (fun _ _ _ h => h) rfl (by kernel_rfl) trivial (r_move rfl) rfl ?_
          refine an_read 5 (by kernel_rfl) (fun _ _ _ h => h) rfl (by kernel_rfl) trivial (r_move rfl) rfl ?_
          refine an_read 6 (by kernel_rfl) (fun _ _ _ h => h) rfl (by kernel_rfl) trivial (r_subI rfl rfl (wrap_id (by omega) (by omega))) rfl ?_
          refine an_read 7 (by kernel_rfl) (fun _ _ _ h => h) rfl (by kernel_rfl) trivial (r_idxAddr_view Try.underlying32 Try.sizeOf3 rfl rfl (by omega) (by omega)) rfl ?_
          refine an_read 8 (by kernel_rfl) (fun _ _ _ h => h) rfl (by kernel_rfl) trivial (r_load_elem_int Try.isAgg3 Try.sizeOf3 rfl rfl (show (i5.toNat + (i15 - 1).toNat) < s14.2.length from by omega)) rfl ?_
          refine an_read 9 (by kernel_rfl) (fun _ _ _ h => h) rfl (by kernel_rfl) trivial (r_neq rfl rfl) rfl ?_
          refine an_done rfl ?_
          refine aq_then ?_
          refine aw_cond rfl (fun hb21 => ?_) (fun hb21 => ?_)
          · have q22 : ¬ ((s14.2.getD (i5.toNat + i15.toNat) 0) = (s14.2.getD (i5.toNat + (i15 - 1).toNat) 0)) := d_f (not_t hb21)
            replace h := is_else (d_f (not_t hb21)) h
            refine aw_seq ?_
            refine aw_region ?_
            refine ao_read trivial (r_move rfl) rfl ?_
            refine ao_read trivial (r_move rfl) rfl ?_
            refine ao_read trivial (r_move rfl) rfl ?_
            refine ao_read trivial (r_move rfl) rfl ?_
            refine ao_read trivial (r_idxAddr_view Try.underlying32 Try.sizeOf3 rfl rfl (by omega) (by omega)) rfl ?_
            refine ao_read trivial (r_load_elem_int Try.isAgg3 Try.sizeOf3 rfl rfl (show (i5.toNat + i15.toNat) < s14.2.length from by omega)) rfl ?_
            obtain ⟨g24, h⟩ := is_guard h
            refine ao_read trivial (r_idxAddr_os Try.underlying32 Try.sizeOf3 rfl rfl rfl (show 0 ≤ s14.1 from by omega) (show s14.1 < (s14.2.length : Int) from by omega)) rfl ?_
            refine ao_effS trivial (e_store_elem_int Try.sizeOf3 rfl rfl rfl rfl (show s14.1.toNat < s14.2.length from by omega) rfl) ?_
            refine ao_nil ?_
            refine aq_then ?_
            refine aw_region ?_
            refine ao_read trivial (r_move rfl) rfl ?_
            refine ao_read trivial (r_addI rfl rfl (wrap_id (by omega) (by omega))) rfl ?_
            refine ao_read trivial (r_assign rfl) rfl ?_
            refine ao_nil ?_
            refine aq_in ?_
            refine aq_then ?_
            refine aw_region ?_
            refine ao_read trivial (r_move rfl) rfl ?_
            refine ao_read trivial (r_addI rfl rfl (wrap_id (by omega) (by omega))) rfl ?_
            refine ao_read trivial (r_assign rfl) rfl ?_
            refine ao_nil ?_
            exact aq_again (AL.sub (sub_mk idn (by exact ⟨ai rfl, ai rfl, ai rfl, ai rfl, trivial⟩) (by exact ⟨⟨_, rfl, rfl⟩, trivial⟩) (by rfl) (nk1 rfl rfl)) (ih16 d16 (i15 + 1) ((s14.1 + 1), (s14.2.set s14.1.toNat (s14.2.getD (i5.toNat + i15.toNat) 0))) (by omega) ⟨by omega, (by (try simp only [List.length_set, List.length_append, List.length_cons, List.length_nil, List.length_replicate, List.length_take, List.length_drop]) <;> omega), (by (try simp only [List.length_set, List.length_append, List.length_cons, List.length_nil, List.length_replicate, List.length_take, List.length_drop]) <;> omega), (by (try simp only [List.length_set, List.length_append, List.length_cons, List.length_nil, List.length_replicate, List.length_take, List.length_drop]) <;> omega), (by (try simp only [List.length_set, List.length_append, List.length_cons, List.length_nil, List.length_replicate, List.length_take, List.length_drop]) <;> omega)⟩ h))
          · have q23 : (s14.2.getD (i5.toNat + i15.toNat) 0) = (s14.2.getD (i5.toNat + (i15 - 1).toNat) 0) := d_t (not_f hb21)
            replace h := is_if (d_t (not_f hb21)) h
            refine aw_skip ?_
            refine aq_in ?_
            refine aq_then ?_
            refine aw_region ?_
            refine ao_read trivial (r_move rfl) rfl ?_
            refine ao_read trivial (r_addI rfl rfl (wrap_id (by omega) (by omega))) rfl ?_
            refine ao_read trivial (r_assign rfl) rfl ?_
            refine ao_nil ?_
            exact aq_again (AL.sub (sub_mk idn (by exact ⟨ai rfl, ai rfl, ai rfl, ai rfl, trivial⟩) (by exact ⟨⟨_, rfl, rfl⟩, trivial⟩) (by rfl) (nk1 rfl rfl)) (ih16 d16 (i15 + 1) (s14.1, s14.2) (by omega) ⟨by omega, (by (try simp only [List.length_set, List.length_append, List.length_cons, List.length_nil, List.length_replicate, List.length_take, List.length_drop]) <;> omega), (by (try simp only [List.length_set, List.length_append, List.length_cons, List.length_nil, List.length_replicate, List.length_take, List.length_drop]) <;> omega), (by (try simp only [List.length_set, List.length_append, List.length_cons, List.length_nil, List.length_replicate, List.length_take, List.length_drop]) <;> omega), (by (try simp only [List.length_set, List.length_append, List.length_cons, List.length_nil, List.length_replicate, List.length_take, List.length_drop]) <;> omega)⟩ h))
        · have q20 := d_f hb18
          obtain rfl : d16 = 0 := by omega
          replace h := is_cnt0 h
          refine aw_exit ?_
          refine aq_then_exit ?_
          refine aq_then_exit ?_
          refine aq_in_exit ?_
          refine aq_then ?_
          refine aw_seq ?_
          refine aw_region ?_
          refine ao_read trivial (r_move rfl) rfl ?_
          refine ao_read trivial (r_move rfl) rfl ?_
          obtain ⟨g25, h⟩ := is_guard h
          refine ao_read trivial (r_slice_os (t := (.int .i64)) Try.underlying32 Try.sizeOf3 rfl rfl (.some rfl) .none (show 0 ≤ s14.1 from by omega) (show s14.1 ≤ (s14.2.length : Int) from by omega) (show (s14.2.length : Int) ≤ (s14.2.length : Int) from by omega)) rfl ?_
          refine ao_clear (t := (.int .i64)) trivial Try.underlying32 Try.zeroValue3 rfl rfl rfl rfl rfl (show s14.1.toNat + ((s14.2.length : Int) - s14.1).toNat ≤ s14.2.length from by omega) ?_
          refine ao_nil ?_
          refine aq_then ?_
          refine aw_seq ?_
          refine aw_region ?_
          refine ao_read trivial (r_move rfl) rfl ?_
          refine ao_read trivial (r_move rfl) rfl ?_
          refine ao_eff trivial (e_shrink (t := (.int .i64)) 1 rfl Try.underlying32 Try.sizeOf3 rfl rfl (.some rfl) (by omega) (show s14.1 ≤ ((s14.2.take s14.1.toNat ++ (List.replicate ((s14.2.length : Int) - s14.1).toNat 0 ++ s14.2.drop (s14.1.toNat + ((s14.2.length : Int) - s14.1).toNat))).length : Int) from by (try simp only [List.length_append, List.length_replicate, List.length_take, List.length_drop]) <;> omega) rfl rfl) rfl ?_
          refine ao_read trivial (r_assign rfl) rfl ?_
          refine ao_nil ?_
          refine aq_then ?_
          refine aw_ret ?_
          refine aq_in_ret ?_
          refine aq_then_ret ?_
          refine aq_then_ret ?_
          refine aq_in_ret ?_
          refine aq_then_ret ?_
          refine aq_ret ?_
          obtain rfl := is_some h
          exact aq_finx (l := [.tmp 2]) (xs := [.os 1]) idn [.os 1] [(1, .row (.int .i64) (((s14.2.take s14.1.toNat ++ (List.replicate ((s14.2.length : Int) - s14.1).toNat 0 ++ s14.2.drop (s14.1.toNat + ((s14.2.length : Int) - s14.1).toNat))).take s14.1.toNat) : (List Int)))] rfl (by exact ⟨rfl, trivial⟩) (by exact ⟨ad_ren rfl, trivial⟩) (by exact ⟨⟨_, rfl, rfl⟩, trivial⟩) rfl (nk1 rfl rfl) rfl rfl ⟨rfl, rfl⟩
      · have q13 : ¬ ((x0.getD i5.toNat 0) = (x0.getD (i5 - 1).toNat 0)) := d_f hb11
        replace h := is_else (d_f hb11) h
        refine aw_skip ?_
        refine aq_in ?_
        refine aq_then ?_
        refine aw_region ?_
        refine ao_read trivial (r_move rfl) rfl ?_
        refine ao_read trivial (r_addI rfl rfl (wrap_id (by omega) (by omega))) rfl ?_
        refine ao_read trivial (r_assign rfl) rfl ?_
        refine ao_nil ?_
        exact aq_again (AL.sub (sub_mk idn (by exact ⟨ai rfl, ai rfl, trivial⟩) (by exact ⟨⟨_, rfl, rfl⟩, trivial⟩) (by rfl) (nk1 rfl rfl)) (ih6 d6 (i5 + 1) () (by omega) ⟨by omega, (by (try simp only [List.length_set, List.length_append, List.length_cons, List.length_nil, List.length_replicate, List.length_take, List.length_drop]) <;> omega), (by (try simp only [List.length_set, List.length_append, List.length_cons, List.length_nil, List.length_replicate, List.length_take, List.length_drop]) <;> omega)⟩ h))
    · have q10 := d_f hb8
      obtain rfl : d6 = 0 := by omega
      replace h := is_cnt0 h
      refine aw_exit ?_
      refine aq_then_exit ?_
      refine aq_then_exit ?_
      refine aq_in_exit ?_
      refine aq_then ?_
      refine aw_seq ?_
      refine aw_region ?_
      refine ao_read trivial (r_move rfl) rfl ?_
      refine ao_read trivial (r_assign rfl) rfl ?_
      refine ao_nil ?_
      refine aq_then ?_
      refine aw_ret ?_
      refine aq_ret ?_
      obtain rfl := is_some h
      exact aq_finx (l := [.tmp 2]) (xs := [.os 0]) (rn [(1, 0)]) [.os 1] [(1, .row (.int .i64) x0)] rfl (by exact ⟨rfl, trivial⟩) (by exact ⟨ad_ren rfl, trivial⟩) (by exact ⟨⟨_, rfl, rfl⟩, trivial⟩) rfl (nk1 rfl rfl) rfl rfl ⟨rfl, rfl⟩
theorem c_impl_numbers {x0 : (List Int)} {r : (List Int)} (h : Is (p_impl_numbers x0) (some r)) :
    ACalls Try.prog 134 [.v (.arr 6 (.int .i64)) x0] [] (fun r' H' => r' = .os 0 ∧ H' = [(0, .row (.int .i64) r)]) := by
  unfold p_impl_numbers at h
  refine ac_enter ⟨6, 0⟩ Try.func134 rfl rfl rfl rfl rfl (fun Γ => ?_)
  refine aw_seq ?_
  refine aw_region ?_
  refine ao_eff trivial (e_box 0 rfl rfl rfl rfl rfl rfl) rfl ?_
  refine ao_read trivial (r_assign rfl) rfl ?_
  refine ao_nil ?_
  refine aq_then ?_
  refine aw_seq ?_
  refine aw_region ?_
  refine ao_read trivial (r_slice_arr Try.underlying47 Try.sizeOf3 rfl .none .none (by omega) (by omega) (by omega)) rfl ?_
  obtain ⟨r1, r1h, h⟩ := is_bind h
  refine ao_call [] 1 trivial (c_slices_Clone_int_int (is_mk r1h)) Try.func121 rfl rfl rfl rfl ⟨ad_viewf0 rfl rfl rfl rfl rfl, trivial⟩ trivial rfl rfl rfl rfl rfl rfl rfl (fun r' H' hr => ?_)
  obtain ⟨rfl, rfl⟩ := hr
  refine ao_norm (y := .os 1) (H' := [(0, .var [.arr (.int .i64) 6 x0]), (1, .row (.int .i64) r1)]) rfl rfl ?_
  refine row_len_o 1 (r1.length : Int) rfl rfl (fun hr2 => ?_)
  obtain ⟨r3, r3h, h⟩ := is_bind h
  refine ao_call [1] 2 trivial (c_slices_Compact_int_int (is_mk r3h)) Try.func175 rfl rfl rfl rfl ⟨ad_ren rfl, trivial⟩ ⟨⟨_, rfl, rfl⟩, trivial⟩ rfl rfl rfl rfl rfl rfl rfl (fun r' H' hr => ?_)
  obtain ⟨rfl, rfl⟩ := hr
  refine ao_norm (y := .os 2) (H' := [(0, .var [.arr (.int .i64) 6 x0]), (2, .row (.int .i64) r3)]) rfl rfl ?_
  refine row_len_o 2 (r3.length : Int) rfl rfl (fun hr4 => ?_)
  refine ao_read trivial (r_assign rfl) rfl ?_
  refine ao_nil ?_
  refine aq_then ?_
  refine aw_ret ?_
  refine aq_ret ?_
  obtain rfl := is_some h
  exact aq_finx (l := [.tmp 2]) (xs := [.os 2]) (rn [(0, 2)]) [.os 0] [(0, .row (.int .i64) r3)] rfl (by exact ⟨rfl, trivial⟩) (by exact ⟨ad_ren rfl, trivial⟩) (by exact ⟨⟨_, rfl, rfl⟩, trivial⟩) rfl (nk rfl) rfl rfl ⟨rfl, rfl⟩
theorem c_impl_isIn {x0 : Int} {x1 : Int} {r : Bool} (h : Is (p_impl_isIn x0 x1) (some r)) :
    Scalar Try.prog 168 [.int .i64 x0, .int .i64 x1] (.bool r) := by
  unfold p_impl_isIn at h
  refine ac_enter ⟨10, 0⟩ Try.func168 rfl rfl rfl rfl rfl (fun Γ => ?_)
  refine aw_seq ?_
  refine aw_region ?_
  refine ao_read trivial (r_assign rfl) rfl ?_
  refine ao_nil ?_
  refine aq_then ?_
  refine aw_seq ?_
  refine aw_region ?_
  refine ao_read trivial (r_move rfl) rfl ?_
  refine ao_read trivial (r_move rfl) rfl ?_
  obtain ⟨g1, h⟩ := is_guard h
  refine ao_read trivial (r_shr rfl rfl (by omega)) rfl ?_
  refine ao_read trivial (r_and rfl rfl) rfl ?_
  refine ao_read trivial (r_eql rfl rfl) rfl ?_
  refine ao_read trivial (r_assign rfl) rfl ?_
  refine ao_nil ?_
  refine aq_then ?_
  refine aw_ret ?_
  refine aq_ret ?_
  obtain rfl := is_some h
  exact aq_finx (l := [.tmp 4]) (xs := [.bool (decide ((andI .i64 (shrI .i64 x0 x1) 1) = 1))]) idn [.bool (decide ((andI .i64 (shrI .i64 x0 x1) 1) = 1))] [] rfl (by exact ⟨rfl, trivial⟩) (by exact ⟨ad_ren rfl, trivial⟩) (by exact trivial) rfl (nk rfl) rfl rfl ⟨rfl, rfl⟩
theorem c_impl_ChanceAll_1 {fu : Nat} {x0 : Int} {x1 : Int} {x2 : Int} {x3 : Int} {r : Int} (h : Is (p_impl_ChanceAll_1 fu x0 x1 x2 x3) (some r)) :
    ACalls Try.prog 114 [.int .i64 x0, .int .i64 x1, .ref 0 0, .ref 1 0] [(0, .var [.cell (.int .i64 x2)]), (1, .var [.cell (.int .i64 x3)])] (fun r' H' => r' = .tup [] ∧ H' = [(0, .var [.cell (.int .i64 r)]), (1, .var [.cell (.int .i64 x3)])]) := by
  unfold p_impl_ChanceAll_1 at h
  refine ac_enter ⟨14, 2⟩ Try.func114 rfl rfl rfl rfl rfl (fun Γ => ?_)
  obtain ⟨r1, r1h, h⟩ := is_bind h
  refine aw_draw 8 (by kernel_rfl) (by kernel_rfl) ?_
  refine an_read 0 (by kernel_rfl) (fun _ _ _ h => h) rfl (by kernel_rfl) trivial (r_load_cell Try.isAgg3 rfl rfl rfl) rfl ?_
  refine an_read 1 (by kernel_rfl) (fun _ _ _ h => h) rfl (by kernel_rfl) trivial (r_move rfl) rfl ?_
  refine an_read 2 (by kernel_rfl) (fun _ _ _ h => h) rfl (by kernel_rfl) trivial (r_move rfl) rfl ?_
  refine an_read 3 (by kernel_rfl) (fun _ _ _ h => h) rfl (by kernel_rfl) trivial (r_sub rfl rfl) rfl ?_
  refine an_read 4 (by kernel_rfl) (fun _ _ _ h => h) rfl (by kernel_rfl) trivial (r_load_cell Try.isAgg3 rfl rfl rfl) rfl ?_
  refine an_scall 5 (by kernel_rfl) (fun _ _ _ h => h) rfl (by kernel_rfl) trivial (scall (c_impl_raised (is_mk r1h)) rfl Try.func109 rfl rfl rfl rfl (fun σ => ⟨ad_ren rfl, ad_ren rfl, trivial⟩)) rfl ?_
  refine an_read 6 (by kernel_rfl) (fun _ _ _ h => h) rfl (by kernel_rfl) trivial (r_mul rfl rfl) rfl ?_
  refine an_read 7 (by kernel_rfl) (fun _ _ _ h => h) rfl (by kernel_rfl) trivial (r_add rfl rfl) rfl ?_
  refine an_tail rfl rfl ?_
  refine ao_effS trivial (e_store rfl rfl rfl rfl Try.sizeOf3 rfl) ?_
  refine ao_nil ?_
  refine aq_end ?_
  obtain rfl := is_some h
  exact aq_finx (l := []) (xs := []) idn [] [(0, .var [.cell (.int .i64 (IntKind.wrap .i64 (x2 + (IntKind.wrap .i64 (x1 * r1)))))]), (1, .var [.cell (.int .i64 x3)])] rfl (by exact trivial) (by exact trivial) (by exact ⟨⟨_, rfl, ⟨ad_ren rfl, rfl, trivial⟩⟩, ⟨_, rfl, ⟨ad_ren rfl, rfl, trivial⟩⟩, trivial⟩) rfl (nk2 rfl rfl rfl) rfl rfl ⟨rfl, rfl⟩
theorem c_impl_parts {fu : Nat} {x0 : (List Int)} {x1 : Int} {x2 : Int} {r : Int} (h : Is (p_impl_parts fu x0 x1 x2) (some r)) :
    ACalls Try.prog 113 [.v (.arr 6 (.int .i64)) x0, .fn 114 [.ref 0 0, .ref 1 0]] [(0, .var [.cell (.int .i64 x1)]), (1, .var [.cell (.int .i64 x2)])] (fun r' H' => r' = .tup [] ∧ H' = [(0, .var [.cell (.int .i64 r)]), (1, .var [.cell (.int .i64 x2)])]) := by
  unfold p_impl_parts at h
  refine ac_enter ⟨41, 2⟩ Try.func113 rfl rfl rfl rfl rfl (fun Γ => ?_)
  refine aw_seq ?_
  refine aw_region ?_
  refine ao_eff trivial (e_box 2 rfl rfl rfl rfl rfl rfl) rfl ?_
  refine ao_nil ?_
  refine aq_then ?_
  refine aw_seq ?_
  refine aw_region ?_
  refine ao_read trivial (r_load_arr rfl Try.isAgg47 Try.sizeOf47 rfl rfl rfl) rfl ?_
  obtain ⟨r1, r1h, h⟩ := is_bind h
  refine ao_call [] 3 trivial (c_impl_numbers (is_mk r1h)) Try.func134 rfl rfl rfl rfl ⟨ad_ren rfl, trivial⟩ trivial rfl rfl rfl rfl rfl rfl rfl (fun r' H' hr => ?_)
  obtain ⟨rfl, rfl⟩ := hr
  refine ao_norm (y := .os 3) (H' := [(2, .var [.arr (.int .i64) 6 x0]), (0, .var [.cell (.int .i64 x1)]), (1, .var [.cell (.int .i64 x2)]), (3, .row (.int .i64) r1)]) rfl rfl ?_
  refine row_len_o 3 (r1.length : Int) rfl rfl (fun hr2 => ?_)
  refine ao_read trivial (r_assign rfl) rfl ?_
  refine ao_nil ?_
  refine aq_then ?_
  refine aw_seq ?_
  refine aw_region ?_
  refine ao_read trivial (r_move rfl) rfl ?_
  refine ao_read trivial (r_len_osm (r1.length : Int) Try.underlying32 rfl rfl rfl) rfl ?_
  refine ao_read trivial (r_shl rfl rfl (by omega)) rfl ?_
  refine ao_read trivial (r_move rfl) rfl ?_
  refine ao_nil ?_
  refine aq_then ?_
  refine aw_block ?_
  refine aw_loop (AL.sub (sub_mk idn (by exact ⟨ai rfl, ai rfl, ai rfl, ai rfl, ai rfl, trivial⟩) (by exact ⟨⟨_, rfl, ⟨ad_ren rfl, rfl, trivial⟩⟩, ⟨_, rfl, ⟨ad_ren rfl, rfl, trivial⟩⟩, ⟨_, rfl, ⟨rfl, trivial⟩⟩, ⟨_, rfl, rfl⟩, trivial⟩) (by rfl) (nk2 rfl rfl rfl)) (al_whl (fun (s3 : Int × Int) => [(1, .fn 114 [.ref 0 0, .ref 1 0]), (2, .ref 2 0), (4, .os 3), (14, .int .i64 (shlI .i64 1 (r1.length : Int))), (15, .int .i64 s3.1)]) (fun (s3 : Int × Int) => [(0, .var [.cell (.int .i64 s3.2)]), (1, .var [.cell (.int .i64 x2)]), (2, .var [.arr (.int .i64) 6 x0]), (3, .row (.int .i64) r1)]) (fun (s3 : Int × Int) => True) h trivial (fun d5 s3 hI h ih5 => ?_)))
  replace h := is_whlS h
  refine al_round ?_
  refine aw_seq ?_
  refine aw_region ?_
  refine ao_read trivial (r_lss rfl rfl) rfl ?_
  refine ao_nil ?_
  refine aq_then ?_
  refine aw_seq ?_
  refine aw_cond rfl (fun hb7 => ?_) (fun hb7 => ?_)
  · have q8 := d_t hb7
    replace h := is_if (d_t hb7) h
    refine aw_skip ?_
    refine aq_then ?_
    refine aw_seq ?_
    refine aw_block ?_
    refine aw_seq ?_
    refine aw_region ?_
    refine ao_read trivial (r_move rfl) rfl ?_
    refine ao_read trivial (r_assign rfl) rfl ?_
    refine ao_nil ?_
    refine aq_then ?_
    refine aw_seq ?_
    refine aw_region ?_
    refine ao_read trivial (r_assign rfl) rfl ?_
    refine ao_read trivial (r_assign rfl) rfl ?_
    refine ao_nil ?_
    refine aq_then ?_
    refine aw_seq ?_
    refine aw_seq ?_
    refine aw_region ?_
    refine ao_read trivial (r_move rfl) rfl ?_
    refine ao_read trivial (r_len_osm (r1.length : Int) Try.underlying32 rfl rfl rfl) rfl ?_
    refine ao_read trivial (r_move rfl) rfl ?_
    refine ao_nil ?_
    refine aq_then ?_
    refine aw_block ?_
    refine aw_loop (AL.sub (fr' := [(1, .fn 114 [.ref 0 0, .ref 1 0]), (2, .ref 2 0), (4, .os 3), (5, .int .i64 s3.1), (6, .int .i64 0), (7, .int .i64 1), (14, .int .i64 (shlI .i64 1 (r1.length : Int))), (15, .int .i64 s3.1), (18, .os 3), (19, .int .i64 (r1.length : Int)), (20, .int .i64 0)]) (H' := [(0, .var [.cell (.int .i64 s3.2)]), (1, .var [.cell (.int .i64 x2)]), (2, .var [.arr (.int .i64) 6 x0]), (3, .row (.int .i64) r1)]) (sub_mk idn (by exact ⟨ai rfl, ai rfl, ai rfl, ai rfl, ai rfl, ai rfl, ai rfl, ai rfl, ai rfl, ai rfl, ai rfl, trivial⟩) (by exact ⟨⟨_, rfl, ⟨ad_ren rfl, rfl, trivial⟩⟩, ⟨_, rfl, ⟨ad_ren rfl, rfl, trivial⟩⟩, ⟨_, rfl, ⟨rfl, trivial⟩⟩, ⟨_, rfl, rfl⟩, trivial⟩) (by rfl) (nk2 rfl rfl rfl)) (al_cnt (fun i11 (s10 : Int × Int) => [(1, .fn 114 [.ref 0 0, .ref 1 0]), (2, .ref 2 0), (4, .os 3), (5, .int .i64 s3.1), (6, .int .i64 s10.1), (7, .int .i64 s10.2), (14, .int .i64 (shlI .i64 1 (r1.length : Int))), (15, .int .i64 s3.1), (18, .os 3), (19, .int .i64 (r1.length : Int)), (20, .int .i64 i11)]) (fun i11 (s10 : Int × Int) => [(0, .var [.cell (.int .i64 s3.2)]), (1, .var [.cell (.int .i64 x2)]), (2, .var [.arr (.int .i64) 6 x0]), (3, .row (.int .i64) r1)]) (fun d i11 (s10 : Int × Int) => d = Int.toNat ((r1.length : Int) - i11) ∧ 0 ≤ i11 ∧ i11 ≤ (r1.length : Int)) h ⟨rfl, (by (try simp only [List.length_set, List.length_append, List.length_cons, List.length_nil, List.length_replicate, List.length_take, List.length_drop]) <;> omega), (by (try simp only [List.length_set, List.length_append, List.length_cons, List.length_nil, List.length_replicate, List.length_take, List.length_drop]) <;> omega)⟩ (fun d12 i11 s10 hI h ih12 => ?_)))
    obtain ⟨hd, _, _⟩ := hI
    refine al_round ?_
    refine aw_seq ?_
    refine aw_region ?_
    refine ao_read trivial (r_lss rfl rfl) rfl ?_
    refine ao_nil ?_
    refine aq_then ?_
    refine aw_seq ?_
    refine aw_cond rfl (fun hb14 => ?_) (fun hb14 => ?_)
    · have q15 := d_t hb14
      obtain ⟨d12, rfl⟩ : ∃ e, d12 = e + 1 := ⟨d12 - 1, by omega⟩
      replace h := is_cntS h
      refine aw_skip ?_
      refine aq_then ?_
      refine aw_seq ?_
      refine aw_block ?_
      refine aw_seq ?_
      refine aw_region ?_
      refine ao_read trivial (r_move rfl) rfl ?_
      refine ao_read trivial (r_idxAddr_os Try.underlying32 Try.sizeOf3 rfl rfl rfl (show 0 ≤ i11 from by omega) (show i11 < (r1.length : Int) from by omega)) rfl ?_
      refine ao_read trivial (r_load_elem_int Try.isAgg3 Try.sizeOf3 rfl rfl (show i11.toNat < r1.length from by omega)) rfl ?_
      refine ao_read trivial (r_assign rfl) rfl ?_
      refine ao_read trivial (r_assign rfl) rfl ?_
      refine ao_nil ?_
      refine aq_then ?_
      refine aw_seq ?_
      refine aw_region ?_
      refine ao_read trivial (r_move rfl) rfl ?_
      refine ao_read trivial (r_move rfl) rfl ?_
      obtain ⟨r17, r17h, h⟩ := is_bind h
      refine ao_scall trivial (scall (c_impl_isIn (is_mk r17h)) rfl Try.func168 rfl rfl rfl rfl (fun σ => ⟨ad_ren rfl, ad_ren rfl, trivial⟩)) rfl ?_
      refine ao_nil ?_
      refine aq_then ?_
      refine aw_cond rfl (fun hb18 => ?_) (fun hb18 => ?_)
      · replace h := is_if hb18 h
        refine aw_seq ?_
        refine aw_region ?_
        refine ao_read trivial (r_move rfl) rfl ?_
        refine ao_read trivial (r_load_arr rfl Try.isAgg47 Try.sizeOf47 rfl rfl rfl) rfl ?_
        refine ao_read trivial (r_move rfl) rfl ?_
        refine ao_scall trivial (scall (c_impl_weight (is_mk (rfl : p_impl_weight x0 (r1.getD i11.toNat 0) = _))) rfl Try.func104 rfl rfl rfl rfl (fun σ => ⟨ad_ren rfl, ad_ren rfl, trivial⟩)) rfl ?_
        refine ao_read trivial (r_add rfl rfl) rfl ?_
        refine ao_read trivial (r_assign rfl) rfl ?_
        refine ao_nil ?_
        refine aq_then ?_
        refine aw_region ?_
        refine ao_read trivial (r_move rfl) rfl ?_
        refine ao_read trivial (r_neg rfl) rfl ?_
        refine ao_read trivial (r_assign rfl) rfl ?_
        refine ao_nil ?_
        refine aq_in ?_
        refine aq_then ?_
        refine aw_region ?_
        refine ao_read trivial (r_addI rfl rfl (wrap_id (by omega) (by omega))) rfl ?_
        refine ao_read trivial (r_move rfl) rfl ?_
        refine ao_nil ?_
        exact aq_again (AL.sub (sub_mk idn (by exact ⟨ai rfl, ai rfl, ai rfl, ai rfl, ai rfl, ai rfl, ai rfl, ai rfl, ai rfl, ai rfl, ai rfl, trivial⟩) (by exact ⟨⟨_, rfl, ⟨ad_ren rfl, rfl, trivial⟩⟩, ⟨_, rfl, ⟨ad_ren rfl, rfl, trivial⟩⟩, ⟨_, rfl, ⟨rfl, trivial⟩⟩, ⟨_, rfl, rfl⟩, trivial⟩) (by rfl) (nk2 rfl rfl rfl)) (ih12 d12 (i11 + 1) ((IntKind.wrap .i64 (s10.1 + (p_impl_weight x0 (r1.getD i11.toNat 0)))), (IntKind.wrap .i64 (0 - s10.2))) (by omega) ⟨by omega, (by (try simp only [List.length_set, List.length_append, List.length_cons, List.length_nil, List.length_replicate, List.length_take, List.length_drop]) <;> omega), (by (try simp only [List.length_set, List.length_append, List.length_cons, List.length_nil, List.length_replicate, List.length_take, List.length_drop]) <;> omega)⟩ h))
      · replace h := is_else (ne_t hb18) h
        refine aw_skip ?_
        refine aq_in ?_
        refine aq_then ?_
        refine aw_region ?_
        refine ao_read trivial (r_addI rfl rfl (wrap_id (by omega) (by omega))) rfl ?_
        refine ao_read trivial (r_move rfl) rfl ?_
        refine ao_nil ?_
        exact aq_again (AL.sub (sub_mk idn (by exact ⟨ai rfl, ai rfl, ai rfl, ai rfl, ai rfl, ai rfl, ai rfl, ai rfl, ai rfl, ai rfl, ai rfl, trivial⟩) (by exact ⟨⟨_, rfl, ⟨ad_ren rfl, rfl, trivial⟩⟩, ⟨_, rfl, ⟨ad_ren rfl, rfl, trivial⟩⟩, ⟨_, rfl, ⟨rfl, trivial⟩⟩, ⟨_, rfl, rfl⟩, trivial⟩) (by rfl) (nk2 rfl rfl rfl)) (ih12 d12 (i11 + 1) (s10.1, s10.2) (by omega) ⟨by omega, (by (try simp only [List.length_set, List.length_append, List.length_cons, List.length_nil, List.length_replicate, List.length_take, List.length_drop]) <;> omega), (by (try simp only [List.length_set, List.length_append, List.length_cons, List.length_nil, List.length_replicate, List.length_take, List.length_drop]) <;> omega)⟩ h))
    · have q16 := d_f hb14
      obtain rfl : d12 = 0 := by omega
      replace h := is_cnt0 h
      refine aw_exit ?_
      refine aq_then_exit ?_
      refine aq_then_exit ?_
      refine aq_in_exit ?_
      refine aq_then ?_
      refine aw_region ?_
      refine ao_read trivial (r_move rfl) rfl ?_
      refine ao_read trivial (r_move rfl) rfl ?_
      refine ao_read trivial (r_move rfl) rfl ?_
      obtain ⟨r19, r19h, h⟩ := is_bind h
      refine ao_call [0, 1] 4 trivial (c_impl_ChanceAll_1 (is_mk r19h)) Try.func114 rfl rfl rfl rfl ⟨ad_ren rfl, ad_ren rfl, ad_ren rfl, ad_ren rfl, trivial⟩ ⟨⟨_, rfl, ⟨ad_ren rfl, rfl, trivial⟩⟩, ⟨_, rfl, ⟨ad_ren rfl, rfl, trivial⟩⟩, trivial⟩ rfl rfl rfl rfl rfl rfl rfl (fun r' H' hr => ?_)
      obtain ⟨rfl, rfl⟩ := hr
      refine ao_norm (y := .tup []) (H' := [(2, .var [.arr (.int .i64) 6 x0]), (3, .row (.int .i64) r1), (0, .var [.cell (.int .i64 r19)]), (1, .var [.cell (.int .i64 x2)])]) rfl rfl ?_
      refine ao_nil ?_
      refine aq_in ?_
      refine aq_then ?_
      refine aw_region ?_
      refine ao_read trivial (r_add rfl rfl) rfl ?_
      refine ao_read trivial (r_move rfl) rfl ?_
      refine ao_nil ?_
      exact aq_again (AL.sub (sub_mk idn (by exact ⟨ai rfl, ai rfl, ai rfl, ai rfl, ai rfl, trivial⟩) (by exact ⟨⟨_, rfl, ⟨ad_ren rfl, rfl, trivial⟩⟩, ⟨_, rfl, ⟨ad_ren rfl, rfl, trivial⟩⟩, ⟨_, rfl, ⟨rfl, trivial⟩⟩, ⟨_, rfl, rfl⟩, trivial⟩) (by rfl) (nk2 rfl rfl rfl)) (ih5 ((IntKind.wrap .i64 (s3.1 + 1)), r19) trivial h))
  · have q9 := d_f hb7
    replace h := is_else (d_f hb7) h
    refine aw_exit ?_
    refine aq_then_exit ?_
    refine aq_then_exit ?_
    refine aq_in_exit ?_
    refine aq_end ?_
    obtain rfl := is_some h
    exact aq_finx (l := []) (xs := []) idn [] [(0, .var [.cell (.int .i64 s3.2)]), (1, .var [.cell (.int .i64 x2)])] rfl (by exact trivial) (by exact trivial) (by exact ⟨⟨_, rfl, ⟨ad_ren rfl, rfl, trivial⟩⟩, ⟨_, rfl, ⟨ad_ren rfl, rfl, trivial⟩⟩, trivial⟩) rfl (nk2 rfl rfl rfl) rfl rfl ⟨rfl, rfl⟩
theorem c_impl_ChanceAll {fu : Nat} {x0 : (List Int)} {x1 : Int} {r : (List Int) × Bool} (h : Is (p_impl_ChanceAll fu x0 x1) (some r)) :
    Scalar Try.prog 37 [.v (.arr 6 (.int .i64)) x0, .int .i64 x1] (.tup [.v (.arr 2 (.int .i64)) r.1, .bool r.2]) := by
  unfold p_impl_ChanceAll at h
  refine ac_enter ⟨23, 0⟩ Try.func37 rfl rfl rfl rfl rfl (fun Γ => ?_)
  refine aw_seq ?_
  refine aw_region ?_
  refine ao_eff trivial (e_box 0 rfl rfl rfl rfl rfl rfl) rfl ?_
  refine ao_eff trivial (e_box 1 rfl rfl rfl rfl rfl rfl) rfl ?_
  refine ao_eff trivial (e_alloc 2 (y := .v (.arr 2 (.int .i64)) ((List.replicate 2 0) : (List Int))) Try.zeroValue29 (fun ρ h M => ra_zero_arr (t := (.int .i64)) rfl) rfl rfl rfl rfl rfl) rfl ?_
  refine ao_read trivial (r_assign rfl) rfl ?_
  refine ao_nil ?_
  refine aq_then ?_
  refine aw_seq ?_
  refine aw_seq ?_
  refine aw_region ?_
  refine ao_read trivial (r_load_arr rfl Try.isAgg47 Try.sizeOf47 rfl rfl rfl) rfl ?_
  refine ao_scall trivial (scall (c_impl_IsDie (is_mk (rfl : p_impl_IsDie x0 = _))) rfl Try.func97 rfl rfl rfl rfl (fun σ => ⟨ad_ren rfl, trivial⟩)) rfl ?_
  refine ao_read trivial (r_not rfl) rfl ?_
  refine ao_read trivial (r_move rfl) rfl ?_
  refine ao_readG (x := .int .i64 x1) rfl (GV.F rfl) (fun hg1 => r_load_cell Try.isAgg3 rfl rfl rfl) rfl ?_
  refine ao_scallG (r := .bool (p_impl_isRolls x1)) rfl (GV.F rfl) (fun hg2 => SCall.strip 11 rfl (hg2) (scall (c_impl_isRolls (is_mk (rfl : p_impl_isRolls x1 = _))) rfl Try.func108 rfl rfl rfl rfl (fun σ => ⟨ad_ren rfl, trivial⟩))) rfl ?_
  refine ao_readG (x := .bool (!(p_impl_isRolls x1))) rfl (GV.F rfl) (fun hg3 => Reads.strip 12 rfl (hg3) (r_not rfl)) rfl ?_
  refine ao_read trivial (r_orB rfl rfl) rfl ?_
  refine ao_nil ?_
  refine aq_then ?_
  refine aw_cond rfl (fun hb4 => ?_) (fun hb4 => ?_)
  · replace h := is_if hb4 h
    refine aw_seq ?_
    refine aw_region ?_
    refine ao_read trivial (r_build_zero (t := (.int .i64)) Try.underlying29 Try.zeroValue29 Try.sizeOf3 rfl) rfl ?_
    refine ao_effS trivial (e_store rfl rfl rfl rfl Try.sizeOf29 rfl) ?_
    refine ao_read trivial (r_assign rfl) rfl ?_
    refine ao_nil ?_
    refine aq_then ?_
    refine aw_ret ?_
    refine aq_then_ret ?_
    refine aq_ret ?_
    obtain rfl := is_some h
    exact aq_finx (l := [.cell 4 29, .tmp 5]) (xs := [.v (.arr 2 (.int .i64)) ((List.replicate 2 0) : (List Int)), .bool false]) idn [.v (.arr 2 (.int .i64)) ((List.replicate 2 0) : (List Int)), .bool false] [] rfl (by exact ⟨⟨⟨_, _, rfl⟩, r_load_arr rfl Try.isAgg29 Try.sizeOf29 rfl rfl rfl⟩, rfl, trivial⟩) (by exact ⟨ad_ren rfl, ad_ren rfl, trivial⟩) (by exact trivial) rfl (nk rfl) rfl rfl ⟨rfl, rfl⟩
  · obtain ⟨q5, q6⟩ := or_f hb4
    replace h := is_else (ne_t hb4) h
    refine aw_skip ?_
    refine aq_then ?_
    refine aw_seq ?_
    refine aw_region ?_
    refine ao_eff trivial (e_alloc 3 (y := .int .i64 0) Try.zeroValue3 (fun ρ h M => rfl) rfl rfl rfl rfl rfl) rfl ?_
    refine ao_effS trivial (e_store rfl rfl rfl rfl Try.sizeOf3 rfl) ?_
    refine ao_nil ?_
    refine aq_then ?_
    refine aw_seq ?_
    refine aw_region ?_
    refine ao_read trivial (r_load_arr rfl Try.isAgg47 Try.sizeOf47 rfl rfl rfl) rfl ?_
    refine ao_read trivial (r_makeFunc (cs := [.tmp 6, .tmp 3]) rfl) rfl ?_
    obtain ⟨r7, r7h, h⟩ := is_bind h
    refine ao_call [3, 1] 4 trivial (c_impl_parts (is_mk r7h)) Try.func113 rfl rfl rfl rfl ⟨ad_ren rfl, ad_ren rfl, trivial⟩ ⟨⟨_, rfl, ⟨ad_ren rfl, rfl, trivial⟩⟩, ⟨_, rfl, ⟨ad_ren rfl, rfl, trivial⟩⟩, trivial⟩ rfl rfl rfl rfl rfl rfl rfl (fun r' H' hr => ?_)
    obtain ⟨rfl, rfl⟩ := hr
    refine ao_norm (y := .tup []) (H' := [(2, .var [.arr (.int .i64) 2 ((List.replicate 2 0) : (List Int))]), (0, .var [.arr (.int .i64) 6 x0]), (3, .var [.cell (.int .i64 r7)]), (1, .var [.cell (.int .i64 x1)])]) rfl rfl ?_
    refine ao_nil ?_
    refine aq_then ?_
    refine aw_seq ?_
    obtain ⟨r8, r8h, h⟩ := is_bind h
    obtain ⟨r9, r9h, h⟩ := is_bind h
    refine aw_draw 4 (by kernel_rfl) (by kernel_rfl) ?_
    refine an_read 0 (by kernel_rfl) (fun _ _ _ h => h) rfl (by kernel_rfl) trivial (r_load_cell Try.isAgg3 rfl rfl rfl) rfl ?_
    refine an_read 1 (by kernel_rfl) (fun _ _ _ h => h) rfl (by kernel_rfl) trivial (r_load_cell Try.isAgg3 rfl rfl rfl) rfl ?_
    refine an_scall 2 (by kernel_rfl) (fun _ _ _ h => h) rfl (by kernel_rfl) trivial (scall (c_impl_power (is_mk r8h)) rfl Try.func99 rfl rfl rfl rfl (fun σ => ⟨ad_ren rfl, trivial⟩)) rfl ?_
    refine an_scall 3 (by kernel_rfl) (fun _ _ _ h => h) rfl (by kernel_rfl) trivial (scall (c_impl_fraction (is_mk r9h)) rfl Try.func102 rfl rfl rfl rfl (fun σ => ⟨ad_ren rfl, ad_ren rfl, trivial⟩)) rfl ?_
    refine an_tail rfl rfl ?_
    refine ao_effS trivial (e_store rfl rfl rfl rfl Try.sizeOf29 rfl) ?_
    refine ao_read trivial (r_assign rfl) rfl ?_
    refine ao_nil ?_
    refine aq_then ?_
    refine aw_ret ?_
    refine aq_ret ?_
    obtain rfl := is_some h
    exact aq_finx (l := [.cell 4 29, .tmp 5]) (xs := [.v (.arr 2 (.int .i64)) r9, .bool true]) idn [.v (.arr 2 (.int .i64)) r9, .bool true] [] rfl (by exact ⟨⟨⟨_, _, rfl⟩, r_load_arr rfl Try.isAgg29 Try.sizeOf29 rfl rfl rfl⟩, rfl, trivial⟩) (by exact ⟨ad_ren rfl, ad_ren rfl, trivial⟩) (by exact trivial) rfl (nk rfl) rfl rfl ⟨rfl, rfl⟩
theorem c_spec_l1Put {x0 : (List Int)} {x1 : Int} {r : (List Int)} (h : Is (p_spec_l1Put x0 x1) (some r)) :
    ACalls Try.prog 174 [.os 0, .int .i64 x1] [(0, .row (.int .i64) x0)] (fun r' H' => r' = .os 1 ∧ H' = [(1, .row (.int .i64) r)]) := by
  unfold p_spec_l1Put at h
  refine ac_enter ⟨45, 1⟩ Try.func174 rfl rfl rfl rfl rfl (fun Γ => ?_)
  refine row_len_m 0 (x0.length : Int) rfl rfl (fun hr0 => ?_)
  refine aw_seq ?_
  refine aw_region ?_
  refine ao_read trivial (r_assign rfl) rfl ?_
  refine ao_nil ?_
  refine aq_then ?_
  refine aw_seq ?_
  refine aw_region ?_
  refine ao_read trivial (r_assign rfl) rfl ?_
  refine ao_nil ?_
  refine aq_then ?_
  refine aw_seq ?_
  refine aw_block ?_
  refine aw_loop (AL.sub (fr' := [(0, .os 0), (1, .int .i64 x1), (5, .int .i64 0)]) (H' := [(0, .row (.int .i64) x0)]) (sub_mk idn (by exact ⟨ai rfl, ai rfl, ai rfl, trivial⟩) (by exact ⟨⟨_, rfl, rfl⟩, trivial⟩) (by rfl) (nk1 rfl rfl)) (al_cnt (fun i2 (s1 : Unit) => [(0, .os 0), (1, .int .i64 x1), (5, .int .i64 i2)]) (fun i2 (s1 : Unit) => [(0, .row (.int .i64) x0)]) (fun d i2 (s1 : Unit) => d = Int.toNat ((x0.length : Int) - i2) ∧ 0 ≤ i2 ∧ i2 ≤ (x0.length : Int)) h ⟨rfl, (by (try simp only [List.length_set, List.length_append, List.length_cons, List.length_nil, List.length_replicate, List.length_take, List.length_drop]) <;> omega), (by (try simp only [List.length_set, List.length_append, List.length_cons, List.length_nil, List.length_replicate, List.length_take, List.length_drop]) <;> omega)⟩ (fun d3 i2 s1 hI h ih3 => ?_)))
  obtain ⟨hd, _, _⟩ := hI
  refine al_round ?_
  refine aw_seq ?_
  refine aw_seq ?_
  refine aw_region ?_
  refine ao_read trivial (r_move rfl) rfl ?_
  refine ao_read trivial (r_move rfl) rfl ?_
  refine ao_read trivial (r_len_osm (x0.length : Int) Try.underlying32 rfl rfl rfl) rfl ?_
  refine ao_read trivial (r_lss rfl rfl) rfl ?_
  refine ao_read trivial (r_move rfl) rfl ?_
  refine ao_readG (x := .os 0) rfl (GV.T rfl) (fun hg5 => by
        have q6 := d_t hg5
        exact r_move rfl) rfl ?_
  refine ao_readG (x := .int .i64 i2) rfl (GV.T rfl) (fun hg7 => by
        have q8 := d_t hg7
        exact r_move rfl) rfl ?_
  refine ao_readG (x := .elem 0 0 1 i2.toNat) rfl (GV.T rfl) (fun hg9 => by
        have q10 := d_t hg9
        exact Reads.strip 11 rfl (hg9) (Reads.strip 12 rfl (hg9) (r_idxAddr_os Try.underlying32 Try.sizeOf3 rfl rfl rfl (show 0 ≤ i2 from by omega) (show i2 < (x0.length : Int) from by omega)))) rfl ?_
  refine ao_readG (x := .int .i64 (x0.getD i2.toNat 0)) rfl (GV.T rfl) (fun hg11 => by
        have q12 := d_t hg11
        exact Reads.strip 13 rfl (hg11) (r_load_elem_int Try.isAgg3 Try.sizeOf3 rfl rfl (show i2.toNat < x0.length from by omega))) rfl ?_
  refine ao_readG (x := .int .i64 x1) rfl (GV.T rfl) (fun hg13 => by
        have q14 := d_t hg13
        exact r_move rfl) rfl ?_
  refine ao_readG (x := .bool (decide ((x0.getD i2.toNat 0) < x1))) rfl (GV.T rfl) (fun hg15 => by
        have q16 := d_t hg15
        exact Reads.strip 14 rfl (hg15) (Reads.strip 15 rfl (hg15) (r_lss rfl rfl))) rfl ?_
  refine ao_read trivial (r_andB rfl rfl) rfl ?_
  refine ao_nil ?_
  refine aq_then ?_
  refine aw_cond rfl (fun hb17 => ?_) (fun hb17 => ?_)
  · obtain ⟨q18, q19⟩ := and_t hb17
    have q20 := d_t q18
    have q21 : (x0.getD i2.toNat 0) < x1 := d_t q19
    obtain ⟨d3, rfl⟩ : ∃ e, d3 = e + 1 := ⟨d3 - 1, by omega⟩
    replace h := is_if hb17 (is_cntS h)
    refine aw_skip ?_
    refine aq_then ?_
    refine aw_block ?_
    refine aw_region ?_
    refine ao_read trivial (r_move rfl) rfl ?_
    refine ao_read trivial (r_addI rfl rfl (wrap_id (by omega) (by omega))) rfl ?_
    refine ao_read trivial (r_assign rfl) rfl ?_
    refine ao_nil ?_
    refine aq_in ?_
    exact aq_again (AL.sub (sub_mk idn (by exact ⟨ai rfl, ai rfl, ai rfl, trivial⟩) (by exact ⟨⟨_, rfl, rfl⟩, trivial⟩) (by rfl) (nk1 rfl rfl)) (ih3 d3 (i2 + 1) () (by omega) ⟨by omega, (by (try simp only [List.length_set, List.length_append, List.length_cons, List.length_nil, List.length_replicate, List.length_take, List.length_drop]) <;> omega), (by (try simp only [List.length_set, List.length_append, List.length_cons, List.length_nil, List.length_replicate, List.length_take, List.length_drop]) <;> omega)⟩ h))
  · replace h := is_cntF h (ne_t hb17) (fun _ => rfl)
    refine aw_exit ?_
    refine aq_then_exit ?_
    refine aq_then_exit ?_
    refine aq_in_exit ?_
    refine aq_then ?_
    refine aw_seq ?_
    refine aw_seq ?_
    refine aw_region ?_
    refine ao_read trivial (r_move rfl) rfl ?_
    refine ao_read trivial (r_move rfl) rfl ?_
    refine ao_read trivial (r_len_osm (x0.length : Int) Try.underlying32 rfl rfl rfl) rfl ?_
    refine ao_read trivial (r_lss rfl rfl) rfl ?_
    refine ao_read trivial (r_move rfl) rfl ?_
    refine ao_readG (x := .os 0) rfl (GV.T rfl) (fun hg22 => by
          have q23 := d_t hg22
          exact r_move rfl) rfl ?_
    refine ao_readG (x := .int .i64 i2) rfl (GV.T rfl) (fun hg24 => by
          have q25 := d_t hg24
          exact r_move rfl) rfl ?_
    refine ao_readG (x := .elem 0 0 1 i2.toNat) rfl (GV.T rfl) (fun hg26 => by
          have q27 := d_t hg26
          exact Reads.strip 25 rfl (hg26) (Reads.strip 26 rfl (hg26) (r_idxAddr_os Try.underlying32 Try.sizeOf3 rfl rfl rfl (show 0 ≤ i2 from by omega) (show i2 < (x0.length : Int) from by omega)))) rfl ?_
    refine ao_readG (x := .int .i64 (x0.getD i2.toNat 0)) rfl (GV.T rfl) (fun hg28 => by
          have q29 := d_t hg28
          exact Reads.strip 27 rfl (hg28) (r_load_elem_int Try.isAgg3 Try.sizeOf3 rfl rfl (show i2.toNat < x0.length from by omega))) rfl ?_
    refine ao_readG (x := .int .i64 x1) rfl (GV.T rfl) (fun hg30 => by
          have q31 := d_t hg30
          exact r_move rfl) rfl ?_
    refine ao_readG (x := .bool (decide ((x0.getD i2.toNat 0) = x1))) rfl (GV.T rfl) (fun hg32 => by
          have q33 := d_t hg32
          exact Reads.strip 28 rfl (hg32) (Reads.strip 29 rfl (hg32) (r_eql rfl rfl))) rfl ?_
    refine ao_read trivial (r_andB rfl rfl) rfl ?_
    refine ao_nil ?_
    refine aq_then ?_
    refine aw_cond rfl (fun hb34 => ?_) (fun hb34 => ?_)
    · obtain ⟨q35, q36⟩ := and_t hb34
      have q37 := d_t q35
      have q38 : (x0.getD i2.toNat 0) = x1 := d_t q36
      replace h := is_if hb34 h
      refine aw_seq ?_
      refine aw_region ?_
      refine ao_read trivial (r_move rfl) rfl ?_
      refine ao_read trivial (r_assign rfl) rfl ?_
      refine ao_nil ?_
      refine aq_then ?_
      refine aw_ret ?_
      refine aq_then_ret ?_
      refine aq_ret ?_
      obtain rfl := is_some h
      exact aq_finx (l := [.tmp 4]) (xs := [.os 0]) (rn [(1, 0)]) [.os 1] [(1, .row (.int .i64) x0)] rfl (by exact ⟨rfl, trivial⟩) (by exact ⟨ad_ren rfl, trivial⟩) (by exact ⟨⟨_, rfl, rfl⟩, trivial⟩) rfl (nk1 rfl rfl) rfl rfl ⟨rfl, rfl⟩
    · replace h := is_else (ne_t hb34) h
      refine aw_skip ?_
      refine aq_then ?_
      refine aw_seq ?_
      obtain ⟨g39, h⟩ := is_guard h
      obtain ⟨g40, h⟩ := is_guard h
      refine aw_draw 11 (by kernel_rfl) (by kernel_rfl) ?_
      refine an_to [(40, .os 1), (43, .view 0 0 1 i2.toNat ((x0.length : Int) - i2).toNat)] [(0, .row (.int .i64) x0), (1, .row (.int .i64) ((([] ++ ((x0.drop 0).take (i2 - 0).toNat)) ++ [x1]) : (List Int)))] ?_ (fun key => ?_)
      · refine aq_tail rfl ?_
        obtain ⟨g41, h⟩ := is_guard h
        refine ao_eff trivial (e_append (t := (.int .i64)) 2 rfl Try.underlying32 (rfl : Try.prog.info? 3 = some _) rfl rfl rfl rfl rfl rfl rfl (src_view (t := (.int .i64)) rfl (show i2.toNat + ((x0.length : Int) - i2).toNat ≤ x0.length from by omega)) (show (([] ++ ((x0.drop 0).take (i2 - 0).toNat)) ++ [x1]).length + ((x0.drop i2.toNat).take ((x0.length : Int) - i2).toNat).length ≤ 1000000000 from by (try simp only [List.length_append, List.length_cons, List.length_nil, List.length_take, List.length_drop]) <;> omega) rfl rfl) rfl ?_
        refine ao_read trivial (r_assign rfl) rfl ?_
        refine ao_nil ?_
        refine aq_then ?_
        refine aw_ret ?_
        refine aq_ret ?_
        obtain rfl := is_some h
        exact aq_finx (l := [.tmp 4]) (xs := [.os 2]) (rn [(1, 2)]) [.os 1] [(1, .row (.int .i64) (((([] ++ ((x0.drop 0).take (i2 - 0).toNat)) ++ [x1]) ++ ((x0.drop i2.toNat).take ((x0.length : Int) - i2).toNat)) : (List Int)))] rfl (by exact ⟨rfl, trivial⟩) (by exact ⟨ad_ren rfl, trivial⟩) (by exact ⟨⟨_, rfl, rfl⟩, trivial⟩) rfl (nk1 rfl rfl) rfl rfl ⟨rfl, rfl⟩
      · refine an_read 1 (by kernel_rfl) (fun _ _ _ h => h) rfl (by kernel_rfl) trivial (r_move rfl) rfl ?_
        refine an_read 2 (by kernel_rfl) (fun _ _ _ h => h) rfl (by kernel_rfl) trivial (r_move rfl) rfl ?_
        refine an_read 3 (by kernel_rfl) (fun _ _ _ h => h) rfl (by kernel_rfl) trivial (r_slice_os (t := (.int .i64)) Try.underlying32 Try.sizeOf3 rfl rfl .none (.some rfl) (show 0 ≤ 0 from by omega) (show 0 ≤ i2 from by omega) (show i2 ≤ (x0.length : Int) from by omega)) rfl ?_
        refine an_read 5 (by kernel_rfl) (fun _ _ _ h => h) rfl (by kernel_rfl) trivial (r_move rfl) rfl ?_
        refine an_read 8 (by kernel_rfl) (fun _ _ _ h => h) rfl (by kernel_rfl) trivial (r_move rfl) rfl ?_
        refine an_read 9 (by kernel_rfl) (fun _ _ _ h => h) rfl (by kernel_rfl) trivial (r_move rfl) rfl ?_
        refine an_read 10 (by kernel_rfl) (fun _ _ _ h => h) rfl (by kernel_rfl) trivial (r_slice_os (t := (.int .i64)) Try.underlying32 Try.sizeOf3 rfl rfl (.some rfl) .none (show 0 ≤ i2 from by omega) (show i2 ≤ (x0.length : Int) from by omega) (show (x0.length : Int) ≤ (x0.length : Int) from by omega)) rfl ?_
        refine an_explore 1 rfl ?_
        refine ax_all [0, 6] (by kernel_rfl) ⟨?_, ?_, trivial⟩
        · refine axo_eff 0 rfl trivial (e_buildSlice (l := []) (t := (.int .i64)) 1 ([] : (List Int)) rfl Try.underlying32 Try.zeroValue3 Try.sizeOf3 rfl rfl rfl rfl rfl rfl rfl) rfl rfl ?_
          refine ax_all [4, 6] (by kernel_rfl) ⟨?_, ?_, trivial⟩
          · refine axo_eff 4 rfl trivial (e_append (t := (.int .i64)) 2 rfl Try.underlying32 (rfl : Try.prog.info? 3 = some _) rfl rfl rfl rfl rfl rfl rfl (src_view (t := (.int .i64)) rfl (show 0 + (i2 - 0).toNat ≤ x0.length from by omega)) (show [].length + ((x0.drop 0).take (i2 - 0).toNat).length ≤ 1000000000 from by (try simp only [List.length_cons, List.length_nil, List.length_take, List.length_drop]) <;> omega) rfl rfl) rfl rfl ?_
            refine ax_all [6] (by kernel_rfl) ⟨?_, trivial⟩
            refine axo_eff 6 rfl trivial (e_buildSlice (l := [(0, .tmp 38)]) (t := (.int .i64)) 3 ([x1] : (List Int)) rfl Try.underlying32 Try.zeroValue3 Try.sizeOf3 rfl rfl rfl rfl rfl rfl rfl) rfl rfl ?_
            refine ax_all [7] (by kernel_rfl) ⟨?_, trivial⟩
            refine axo_eff 7 rfl trivial (e_append (t := (.int .i64)) 4 rfl Try.underlying32 (rfl : Try.prog.info? 3 = some _) rfl rfl rfl rfl rfl rfl rfl (src_os rfl) (show ([] ++ ((x0.drop 0).take (i2 - 0).toNat)).length + ([x1] : (List Int)).length ≤ 1000000000 from by (try simp only [List.length_append, List.length_cons, List.length_nil, List.length_take, List.length_drop]) <;> omega) rfl rfl) rfl rfl ?_
            exact ax_done rfl (AQ.sub (sub_mk (rn [(1, 4)]) (by exact ⟨ai rfl, ai rfl, trivial⟩) (by exact ⟨⟨_, rfl, rfl⟩, ⟨_, rfl, rfl⟩, trivial⟩) (by rfl) (nk1 rfl rfl)) key)
          · refine axo_eff 6 rfl trivial (e_buildSlice (l := [(0, .tmp 38)]) (t := (.int .i64)) 2 ([x1] : (List Int)) rfl Try.underlying32 Try.zeroValue3 Try.sizeOf3 rfl rfl rfl rfl rfl rfl rfl) rfl rfl ?_
            refine ax_all [4] (by kernel_rfl) ⟨?_, trivial⟩
            refine axo_eff 4 rfl trivial (e_append (t := (.int .i64)) 3 rfl Try.underlying32 (rfl : Try.prog.info? 3 = some _) rfl rfl rfl rfl rfl rfl rfl (src_view (t := (.int .i64)) rfl (show 0 + (i2 - 0).toNat ≤ x0.length from by omega)) (show [].length + ((x0.drop 0).take (i2 - 0).toNat).length ≤ 1000000000 from by (try simp only [List.length_cons, List.length_nil, List.length_take, List.length_drop]) <;> omega) rfl rfl) rfl rfl ?_
            refine ax_all [7] (by kernel_rfl) ⟨?_, trivial⟩
            refine axo_eff 7 rfl trivial (e_append (t := (.int .i64)) 4 rfl Try.underlying32 (rfl : Try.prog.info? 3 = some _) rfl rfl rfl rfl rfl rfl rfl (src_os rfl) (show ([] ++ ((x0.drop 0).take (i2 - 0).toNat)).length + ([x1] : (List Int)).length ≤ 1000000000 from by (try simp only [List.length_append, List.length_cons, List.length_nil, List.length_take, List.length_drop]) <;> omega) rfl rfl) rfl rfl ?_
            exact ax_done rfl (AQ.sub (sub_mk (rn [(1, 4)]) (by exact ⟨ai rfl, ai rfl, trivial⟩) (by exact ⟨⟨_, rfl, rfl⟩, ⟨_, rfl, rfl⟩, trivial⟩) (by rfl) (nk1 rfl rfl)) key)
        · refine axo_eff 6 rfl trivial (e_buildSlice (l := [(0, .tmp 38)]) (t := (.int .i64)) 1 ([x1] : (List Int)) rfl Try.underlying32 Try.zeroValue3 Try.sizeOf3 rfl rfl rfl rfl rfl rfl rfl) rfl rfl ?_
          refine ax_all [0] (by kernel_rfl) ⟨?_, trivial⟩
          refine axo_eff 0 rfl trivial (e_buildSlice (l := []) (t := (.int .i64)) 2 ([] : (List Int)) rfl Try.underlying32 Try.zeroValue3 Try.sizeOf3 rfl rfl rfl rfl rfl rfl rfl) rfl rfl ?_
          refine ax_all [4] (by kernel_rfl) ⟨?_, trivial⟩
          refine axo_eff 4 rfl trivial (e_append (t := (.int .i64)) 3 rfl Try.underlying32 (rfl : Try.prog.info? 3 = some _) rfl rfl rfl rfl rfl rfl rfl (src_view (t := (.int .i64)) rfl (show 0 + (i2 - 0).toNat ≤ x0.length from by omega)) (show [].length + ((x0.drop 0).take (i2 - 0).toNat).length ≤ 1000000000 from by (try simp only [List.length_cons, List.length_nil, List.length_take, List.length_drop]) <;> omega) rfl rfl) rfl rfl ?_
          refine ax_all [7] (by kernel_rfl) ⟨?_, trivial⟩
          refine axo_eff 7 rfl trivial (e_append (t := (.int .i64)) 4 rfl Try.underlying32 (rfl : Try.prog.info? 3 = some _) rfl rfl rfl rfl rfl rfl rfl (src_os rfl) (show ([] ++ ((x0.drop 0).take (i2 - 0).toNat)).length + ([x1] : (List Int)).length ≤ 1000000000 from by (try simp only [List.length_append, List.length_cons, List.length_nil, List.length_take, List.length_drop]) <;> omega) rfl rfl) rfl rfl ?_
          exact ax_done rfl (AQ.sub (sub_mk (rn [(1, 4)]) (by exact ⟨ai rfl, ai rfl, trivial⟩) (by exact ⟨⟨_, rfl, rfl⟩, ⟨_, rfl, rfl⟩, trivial⟩) (by rfl) (nk1 rfl rfl)) key)
theorem c_spec_l8Numbers {x0 : (List Int)} {r : (List Int)} (h : Is (p_spec_l8Numbers x0) (some r)) :
    ACalls Try.prog 133 [.v (.arr 6 (.int .i64)) x0] [] (fun r' H' => r' = .os 0 ∧ H' = [(0, .row (.int .i64) r)]) := by
  unfold p_spec_l8Numbers at h
  refine ac_enter ⟨16, 0⟩ Try.func133 rfl rfl rfl rfl rfl (fun Γ => ?_)
  refine aw_seq ?_
  refine aw_region ?_
  refine ao_eff trivial (e_box 0 rfl rfl rfl rfl rfl rfl) rfl ?_
  refine ao_read trivial (r_assign rfl) rfl ?_
  refine ao_nil ?_
  refine aq_then ?_
  refine aw_seq ?_
  refine aw_region ?_
  refine ao_eff trivial (e_buildSlice (l := []) (t := (.int .i64)) 1 ([] : (List Int)) rfl Try.underlying32 Try.zeroValue3 Try.sizeOf3 rfl rfl rfl rfl rfl rfl rfl) rfl ?_
  refine ao_read trivial (r_assign rfl) rfl ?_
  refine ao_nil ?_
  refine aq_then ?_
  refine aw_seq ?_
  refine aw_seq ?_
  refine aw_region ?_
  refine ao_read trivial (r_assign rfl) rfl ?_
  refine ao_nil ?_
  refine aq_then ?_
  refine aw_block ?_
  refine aw_loop (AL.sub (fr' := [(1, .ref 0 0), (3, .os 1), (4, .int .i64 0)]) (H' := [(0, .var [.arr (.int .i64) 6 x0]), (1, .row (.int .i64) ([] : (List Int)))]) (sub_mk idn (by exact ⟨ai rfl, ai rfl, ai rfl, trivial⟩) (by exact ⟨⟨_, rfl, ⟨rfl, trivial⟩⟩, ⟨_, rfl, rfl⟩, trivial⟩) (by rfl) (nk rfl)) (al_cnt (fun i2 (s1 : (List Int)) => [(1, .ref 0 0), (3, .os 1), (4, .int .i64 i2)]) (fun i2 (s1 : (List Int)) => [(0, .var [.arr (.int .i64) 6 x0]), (1, .row (.int .i64) s1)]) (fun d i2 (s1 : (List Int)) => d = Int.toNat (6 - i2) ∧ 0 ≤ i2 ∧ i2 ≤ 6) h ⟨rfl, (by (try simp only [List.length_set, List.length_append, List.length_cons, List.length_nil, List.length_replicate, List.length_take, List.length_drop]) <;> omega), (by (try simp only [List.length_set, List.length_append, List.length_cons, List.length_nil, List.length_replicate, List.length_take, List.length_drop]) <;> omega)⟩ (fun d3 i2 s1 hI h ih3 => ?_)))
  obtain ⟨hd, _, _⟩ := hI
  refine al_round ?_
  refine aw_seq ?_
  refine aw_seq ?_
  refine aw_region ?_
  refine ao_read trivial (r_move rfl) rfl ?_
  refine ao_read trivial (r_lss rfl rfl) rfl ?_
  refine ao_nil ?_
  refine aq_then ?_
  refine aw_cond rfl (fun hb5 => ?_) (fun hb5 => ?_)
  · have q6 := d_t hb5
    obtain ⟨d3, rfl⟩ : ∃ e, d3 = e + 1 := ⟨d3 - 1, by omega⟩
    replace h := is_cntS h
    refine aw_skip ?_
    refine aq_then ?_
    refine aw_seq ?_
    refine aw_block ?_
    refine aw_region ?_
    refine ao_read trivial (r_move rfl) rfl ?_
    refine ao_read trivial (r_move rfl) rfl ?_
    refine ao_read trivial (r_idxAddr_arr (i := i2) Try.underlying47 Try.sizeOf3 rfl rfl (show 0 ≤ i2 from by omega) (show i2 < (6 : Int) from by omega)) rfl ?_
    refine ao_read trivial (r_load_elema_int Try.isAgg3 Try.sizeOf3 rfl rfl rfl (show i2.toNat < 6 from by omega)) rfl ?_
    obtain ⟨r8, r8h, h⟩ := is_bind h
    refine ao_call [1] 2 trivial (c_spec_l1Put (is_mk r8h)) Try.func174 rfl rfl rfl rfl ⟨ad_ren rfl, ad_ren rfl, trivial⟩ ⟨⟨_, rfl, rfl⟩, trivial⟩ rfl rfl rfl rfl rfl rfl rfl (fun r' H' hr => ?_)
    obtain ⟨rfl, rfl⟩ := hr
    refine ao_norm (y := .os 2) (H' := [(0, .var [.arr (.int .i64) 6 x0]), (2, .row (.int .i64) r8)]) rfl rfl ?_
    refine row_len_o 2 (r8.length : Int) rfl rfl (fun hr9 => ?_)
    refine ao_read trivial (r_assign rfl) rfl ?_
    refine ao_nil ?_
    refine aq_in ?_
    refine aq_then ?_
    refine aw_region ?_
    refine ao_read trivial (r_move rfl) rfl ?_
    refine ao_read trivial (r_addI rfl rfl (wrap_id (by omega) (by omega))) rfl ?_
    refine ao_read trivial (r_assign rfl) rfl ?_
    refine ao_nil ?_
    exact aq_again (AL.sub (sub_mk (rn [(1, 2)]) (by exact ⟨ai rfl, ai rfl, ai rfl, trivial⟩) (by exact ⟨⟨_, rfl, ⟨rfl, trivial⟩⟩, ⟨_, rfl, rfl⟩, trivial⟩) (by rfl) (nk rfl)) (ih3 d3 (i2 + 1) r8 (by omega) ⟨by omega, (by (try simp only [List.length_set, List.length_append, List.length_cons, List.length_nil, List.length_replicate, List.length_take, List.length_drop]) <;> omega), (by (try simp only [List.length_set, List.length_append, List.length_cons, List.length_nil, List.length_replicate, List.length_take, List.length_drop]) <;> omega)⟩ h))
  · have q7 := d_f hb5
    obtain rfl : d3 = 0 := by omega
    replace h := is_cnt0 h
    refine aw_exit ?_
    refine aq_then_exit ?_
    refine aq_then_exit ?_
    refine aq_in_exit ?_
    refine aq_then ?_
    refine aw_seq ?_
    refine aw_region ?_
    refine ao_read trivial (r_move rfl) rfl ?_
    refine ao_read trivial (r_assign rfl) rfl ?_
    refine ao_nil ?_
    refine aq_then ?_
    refine aw_ret ?_
    refine aq_ret ?_
    obtain rfl := is_some h
    exact aq_finx (l := [.tmp 2]) (xs := [.os 1]) (rn [(0, 1)]) [.os 0] [(0, .row (.int .i64) s1)] rfl (by exact ⟨rfl, trivial⟩) (by exact ⟨ad_ren rfl, trivial⟩) (by exact ⟨⟨_, rfl, rfl⟩, trivial⟩) rfl (nk rfl) rfl rfl ⟨rfl, rfl⟩
theorem c_spec_l8Sets {fu : Nat} {x0 : (List Int)} {r : (List Int)} (h : Is (p_spec_l8Sets fu x0) (some r)) :
    ACalls Try.prog 115 [.v (.arr 6 (.int .i64)) x0] [] (fun r' H' => r' = .os 0 ∧ H' = [(0, .row (.int .i64) r)]) := by
  unfold p_spec_l8Sets at h
  refine ac_enter ⟨42, 0⟩ Try.func115 rfl rfl rfl rfl rfl (fun Γ => ?_)
  refine aw_seq ?_
  refine aw_region ?_
  refine ao_eff trivial (e_box 0 rfl rfl rfl rfl rfl rfl) rfl ?_
  refine ao_read trivial (r_assign rfl) rfl ?_
  refine ao_nil ?_
  refine aq_then ?_
  refine aw_seq ?_
  refine aw_region ?_
  refine ao_read trivial (r_load_arr rfl Try.isAgg47 Try.sizeOf47 rfl rfl rfl) rfl ?_
  obtain ⟨r1, r1h, h⟩ := is_bind h
  refine ao_call [] 1 trivial (c_spec_l8Numbers (is_mk r1h)) Try.func133 rfl rfl rfl rfl ⟨ad_ren rfl, trivial⟩ trivial rfl rfl rfl rfl rfl rfl rfl (fun r' H' hr => ?_)
  obtain ⟨rfl, rfl⟩ := hr
  refine ao_norm (y := .os 1) (H' := [(0, .var [.arr (.int .i64) 6 x0]), (1, .row (.int .i64) r1)]) rfl rfl ?_
  refine row_len_o 1 (r1.length : Int) rfl rfl (fun hr2 => ?_)
  refine ao_eff trivial (e_buildSlice (l := []) (t := (.int .i64)) 2 ([] : (List Int)) rfl Try.underlying32 Try.zeroValue3 Try.sizeOf3 rfl rfl rfl rfl rfl rfl rfl) rfl ?_
  refine ao_read trivial (r_assign rfl) rfl ?_
  refine ao_read trivial (r_assign rfl) rfl ?_
  refine ao_nil ?_
  refine aq_then ?_
  refine aw_seq ?_
  refine aw_seq ?_
  refine aw_region ?_
  refine ao_read trivial (r_assign rfl) rfl ?_
  refine ao_nil ?_
  refine aq_then ?_
  refine aw_block ?_
  refine aw_loop (AL.sub (sub_mk idn (by exact ⟨ai rfl, ai rfl, ai rfl, ai rfl, trivial⟩) (by exact ⟨⟨_, rfl, ⟨rfl, trivial⟩⟩, ⟨_, rfl, rfl⟩, ⟨_, rfl, rfl⟩, trivial⟩) (by rfl) (nk rfl)) (al_whl (fun (s3 : Int × (List Int)) => [(1, .ref 0 0), (3, .os 1), (4, .os 2), (5, .int .i64 s3.1)]) (fun (s3 : Int × (List Int)) => [(0, .var [.arr (.int .i64) 6 x0]), (1, .row (.int .i64) r1), (2, .row (.int .i64) s3.2)]) (fun (s3 : Int × (List Int)) => True) h trivial (fun d5 s3 hI h ih5 => ?_)))
  replace h := is_whlS h
  refine al_round ?_
  refine aw_seq ?_
  refine aw_seq ?_
  refine aw_region ?_
  refine ao_read trivial (r_move rfl) rfl ?_
  refine ao_read trivial (r_move rfl) rfl ?_
  refine ao_read trivial (r_len_osm (r1.length : Int) Try.underlying32 rfl rfl rfl) rfl ?_
  refine ao_read trivial (r_shl rfl rfl (by omega)) rfl ?_
  refine ao_read trivial (r_lss rfl rfl) rfl ?_
  refine ao_nil ?_
  refine aq_then ?_
  refine aw_cond rfl (fun hb7 => ?_) (fun hb7 => ?_)
  · have q8 := d_t hb7
    replace h := is_if (d_t hb7) h
    refine aw_skip ?_
    refine aq_then ?_
    refine aw_seq ?_
    refine aw_block ?_
    refine aw_seq ?_
    refine aw_region ?_
    refine ao_read trivial (r_assign rfl) rfl ?_
    refine ao_nil ?_
    refine aq_then ?_
    refine aw_seq ?_
    refine aw_seq ?_
    refine aw_region ?_
    refine ao_read trivial (r_assign rfl) rfl ?_
    refine ao_nil ?_
    refine aq_then ?_
    refine aw_block ?_
    refine aw_loop (AL.sub (fr' := [(1, .ref 0 0), (3, .os 1), (4, .os 2), (5, .int .i64 s3.1), (6, .int .i64 0), (7, .int .i64 0)]) (H' := [(0, .var [.arr (.int .i64) 6 x0]), (1, .row (.int .i64) r1), (2, .row (.int .i64) s3.2)]) (sub_mk idn (by exact ⟨ai rfl, ai rfl, ai rfl, ai rfl, ai rfl, ai rfl, trivial⟩) (by exact ⟨⟨_, rfl, ⟨rfl, trivial⟩⟩, ⟨_, rfl, rfl⟩, ⟨_, rfl, rfl⟩, trivial⟩) (by rfl) (nk rfl)) (al_cnt (fun i11 (s10 : Int) => [(1, .ref 0 0), (3, .os 1), (4, .os 2), (5, .int .i64 s3.1), (6, .int .i64 s10), (7, .int .i64 i11)]) (fun i11 (s10 : Int) => [(0, .var [.arr (.int .i64) 6 x0]), (1, .row (.int .i64) r1), (2, .row (.int .i64) s3.2)]) (fun d i11 (s10 : Int) => d = Int.toNat ((r1.length : Int) - i11) ∧ 0 ≤ i11 ∧ i11 ≤ (r1.length : Int)) h ⟨rfl, (by (try simp only [List.length_set, List.length_append, List.length_cons, List.length_nil, List.length_replicate, List.length_take, List.length_drop]) <;> omega), (by (try simp only [List.length_set, List.length_append, List.length_cons, List.length_nil, List.length_replicate, List.length_take, List.length_drop]) <;> omega)⟩ (fun d12 i11 s10 hI h ih12 => ?_)))
    obtain ⟨hd, _, _⟩ := hI
    refine al_round ?_
    refine aw_seq ?_
    refine aw_seq ?_
    refine aw_region ?_
    refine ao_read trivial (r_move rfl) rfl ?_
    refine ao_read trivial (r_move rfl) rfl ?_
    refine ao_read trivial (r_len_osm (r1.length : Int) Try.underlying32 rfl rfl rfl) rfl ?_
    refine ao_read trivial (r_lss rfl rfl) rfl ?_
    refine ao_nil ?_
    refine aq_then ?_
    refine aw_cond rfl (fun hb14 => ?_) (fun hb14 => ?_)
    · have q15 := d_t hb14
      obtain ⟨d12, rfl⟩ : ∃ e, d12 = e + 1 := ⟨d12 - 1, by omega⟩
      replace h := is_cntS h
      refine aw_skip ?_
      refine aq_then ?_
      refine aw_seq ?_
      refine aw_block ?_
      refine aw_seq ?_
      refine aw_region ?_
      refine ao_read trivial (r_move rfl) rfl ?_
      refine ao_read trivial (r_move rfl) rfl ?_
      refine ao_read trivial (r_shr rfl rfl (by omega)) rfl ?_
      refine ao_read trivial (r_and rfl rfl) rfl ?_
      refine ao_read trivial (r_eql rfl rfl) rfl ?_
      refine ao_nil ?_
      refine aq_then ?_
      refine aw_cond rfl (fun hb17 => ?_) (fun hb17 => ?_)
      · have q18 := d_t hb17
        replace h := is_if (d_t hb17) h
        refine aw_drawAll (by kernel_rfl) ?_
        refine an_read 0 (by kernel_rfl) (fun _ _ _ h => h) rfl (by kernel_rfl) trivial (r_move rfl) rfl ?_
        refine an_read 1 (by kernel_rfl) (fun _ _ _ h => h) rfl (by kernel_rfl) trivial (r_load_arr rfl Try.isAgg47 Try.sizeOf47 rfl rfl rfl) rfl ?_
        refine an_read 2 (by kernel_rfl) (fun _ _ _ h => h) rfl (by kernel_rfl) trivial (r_move rfl) rfl ?_
        refine an_read 3 (by kernel_rfl) (fun _ _ _ h => h) rfl (by kernel_rfl) trivial (r_move rfl) rfl ?_
        refine an_read 4 (by kernel_rfl) (fun _ _ _ h => h) rfl (by kernel_rfl) trivial (r_idxAddr_os Try.underlying32 Try.sizeOf3 rfl rfl rfl (show 0 ≤ i11 from by omega) (show i11 < (r1.length : Int) from by omega)) rfl ?_
        refine an_read 5 (by kernel_rfl) (fun _ _ _ h => h) rfl (by kernel_rfl) trivial (r_load_elem_int Try.isAgg3 Try.sizeOf3 rfl rfl (show i11.toNat < r1.length from by omega)) rfl ?_
        refine an_scall 6 (by kernel_rfl) (fun _ _ _ h => h) rfl (by kernel_rfl) trivial (scall (c_spec_l8Weight (is_mk (rfl : p_spec_l8Weight x0 (r1.getD i11.toNat 0) = _))) rfl Try.func105 rfl rfl rfl rfl (fun σ => ⟨ad_ren rfl, ad_ren rfl, trivial⟩)) rfl ?_
        refine an_read 7 (by kernel_rfl) (fun _ _ _ h => h) rfl (by kernel_rfl) trivial (r_add rfl rfl) rfl ?_
        refine an_read 8 (by kernel_rfl) (fun _ _ _ h => h) rfl (by kernel_rfl) trivial (r_assign rfl) rfl ?_
        refine an_done rfl ?_
        refine aq_in ?_
        refine aq_then ?_
        refine aw_region ?_
        refine ao_read trivial (r_move rfl) rfl ?_
        refine ao_read trivial (r_addI rfl rfl (wrap_id (by omega) (by omega))) rfl ?_
        refine ao_read trivial (r_assign rfl) rfl ?_
        refine ao_nil ?_
        exact aq_again (AL.sub (sub_mk idn (by exact ⟨ai rfl, ai rfl, ai rfl, ai rfl, ai rfl, ai rfl, trivial⟩) (by exact ⟨⟨_, rfl, ⟨rfl, trivial⟩⟩, ⟨_, rfl, rfl⟩, ⟨_, rfl, rfl⟩, trivial⟩) (by rfl) (nk rfl)) (ih12 d12 (i11 + 1) (IntKind.wrap .i64 (s10 + (p_spec_l8Weight x0 (r1.getD i11.toNat 0)))) (by omega) ⟨by omega, (by (try simp only [List.length_set, List.length_append, List.length_cons, List.length_nil, List.length_replicate, List.length_take, List.length_drop]) <;> omega), (by (try simp only [List.length_set, List.length_append, List.length_cons, List.length_nil, List.length_replicate, List.length_take, List.length_drop]) <;> omega)⟩ h))
      · have q19 := d_f hb17
        replace h := is_else (d_f hb17) h
        refine aw_skip ?_
        refine aq_in ?_
        refine aq_then ?_
        refine aw_region ?_
        refine ao_read trivial (r_move rfl) rfl ?_
        refine ao_read trivial (r_addI rfl rfl (wrap_id (by omega) (by omega))) rfl ?_
        refine ao_read trivial (r_assign rfl) rfl ?_
        refine ao_nil ?_
        exact aq_again (AL.sub (sub_mk idn (by exact ⟨ai rfl, ai rfl, ai rfl, ai rfl, ai rfl, ai rfl, trivial⟩) (by exact ⟨⟨_, rfl, ⟨rfl, trivial⟩⟩, ⟨_, rfl, rfl⟩, ⟨_, rfl, rfl⟩, trivial⟩) (by rfl) (nk rfl)) (ih12 d12 (i11 + 1) s10 (by omega) ⟨by omega, (by (try simp only [List.length_set, List.length_append, List.length_cons, List.length_nil, List.length_replicate, List.length_take, List.length_drop]) <;> omega), (by (try simp only [List.length_set, List.length_append, List.length_cons, List.length_nil, List.length_replicate, List.length_take, List.length_drop]) <;> omega)⟩ h))
    · have q16 := d_f hb14
      obtain rfl : d12 = 0 := by omega
      replace h := is_cnt0 h
      refine aw_exit ?_
      refine aq_then_exit ?_
      refine aq_then_exit ?_
      refine aq_in_exit ?_
      refine aq_then ?_
      refine aw_region ?_
      refine ao_read trivial (r_move rfl) rfl ?_
      refine ao_read trivial (r_move rfl) rfl ?_
      refine ao_eff trivial (e_buildSlice (l := [(0, .tmp 38)]) (t := (.int .i64)) 3 ([s10] : (List Int)) rfl Try.underlying32 Try.zeroValue3 Try.sizeOf3 rfl rfl rfl rfl rfl rfl rfl) rfl ?_
      obtain ⟨g20, h⟩ := is_guard h
      refine ao_eff trivial (e_append (t := (.int .i64)) 4 rfl Try.underlying32 (rfl : Try.prog.info? 3 = some _) rfl rfl rfl rfl rfl rfl rfl (src_os rfl) (show s3.2.length + ([s10] : (List Int)).length ≤ 1000000000 from by (try simp only [List.length_cons, List.length_nil]) <;> omega) rfl rfl) rfl ?_
      refine ao_read trivial (r_assign rfl) rfl ?_
      refine ao_nil ?_
      refine aq_in ?_
      refine aq_then ?_
      refine aw_region ?_
      refine ao_read trivial (r_move rfl) rfl ?_
      refine ao_read trivial (r_add rfl rfl) rfl ?_
      refine ao_read trivial (r_assign rfl) rfl ?_
      refine ao_nil ?_
      exact aq_again (AL.sub (sub_mk (rn [(2, 4)]) (by exact ⟨ai rfl, ai rfl, ai rfl, ai rfl, trivial⟩) (by exact ⟨⟨_, rfl, ⟨rfl, trivial⟩⟩, ⟨_, rfl, rfl⟩, ⟨_, rfl, rfl⟩, trivial⟩) (by rfl) (nk rfl)) (ih5 ((IntKind.wrap .i64 (s3.1 + 1)), (s3.2 ++ [s10])) trivial h))
  · have q9 := d_f hb7
    replace h := is_else (d_f hb7) h
    refine aw_exit ?_
    refine aq_then_exit ?_
    refine aq_then_exit ?_
    refine aq_in_exit ?_
    refine aq_then ?_
    refine aw_seq ?_
    refine aw_region ?_
    refine ao_read trivial (r_move rfl) rfl ?_
    refine ao_read trivial (r_assign rfl) rfl ?_
    refine ao_nil ?_
    refine aq_then ?_
    refine aw_ret ?_
    refine aq_ret ?_
    obtain rfl := is_some h
    exact aq_finx (l := [.tmp 2]) (xs := [.os 2]) (rn [(0, 2)]) [.os 0] [(0, .row (.int .i64) s3.2)] rfl (by exact ⟨rfl, trivial⟩) (by exact ⟨ad_ren rfl, trivial⟩) (by exact ⟨⟨_, rfl, rfl⟩, trivial⟩) rfl (nk rfl) rfl rfl ⟨rfl, rfl⟩
theorem c_spec_l8Sign {fu : Nat} {x0 : Int} {r : Int} (h : Is (p_spec_l8Sign fu x0) (some r)) :
    Scalar Try.prog 116 [.int .i64 x0] (.int .i64 r) := by
  unfold p_spec_l8Sign at h
  refine ac_enter ⟨14, 0⟩ Try.func116 rfl rfl rfl rfl rfl (fun Γ => ?_)
  refine aw_seq ?_
  refine aw_region ?_
  refine ao_read trivial (r_assign rfl) rfl ?_
  refine ao_nil ?_
  refine aq_then ?_
  refine aw_seq ?_
  refine aw_region ?_
  refine ao_read trivial (r_assign rfl) rfl ?_
  refine ao_nil ?_
  refine aq_then ?_
  refine aw_seq ?_
  refine aw_block ?_
  refine aw_loop (AL.sub (sub_mk idn (by exact ⟨ai rfl, ai rfl, trivial⟩) (by exact trivial) (by rfl) (nk rfl)) (al_whl (fun (s1 : Int × Int) => [(0, .int .i64 s1.1), (3, .int .i64 s1.2)]) (fun (s1 : Int × Int) => []) (fun (s1 : Int × Int) => True) h trivial (fun d3 s1 hI h ih3 => ?_)))
  replace h := is_whlS h
  refine al_round ?_
  refine aw_seq ?_
  refine aw_seq ?_
  refine aw_region ?_
  refine ao_read trivial (r_move rfl) rfl ?_
  refine ao_read trivial (r_gtr rfl rfl) rfl ?_
  refine ao_nil ?_
  refine aq_then ?_
  refine aw_cond rfl (fun hb5 => ?_) (fun hb5 => ?_)
  · have q6 := d_t hb5
    replace h := is_if (d_t hb5) h
    refine aw_skip ?_
    refine aq_then ?_
    refine aw_seq ?_
    refine aw_block ?_
    refine aw_seq ?_
    refine aw_region ?_
    refine ao_read trivial (r_move rfl) rfl ?_
    refine ao_read trivial (r_rem rfl rfl (by decide)) rfl ?_
    refine ao_read trivial (r_eql rfl rfl) rfl ?_
    refine ao_nil ?_
    refine aq_then ?_
    refine aw_cond rfl (fun hb8 => ?_) (fun hb8 => ?_)
    · have q9 := d_t hb8
      replace h := is_if (d_t hb8) h
      refine aw_region ?_
      refine ao_read trivial (r_move rfl) rfl ?_
      refine ao_read trivial (r_neg rfl) rfl ?_
      refine ao_read trivial (r_assign rfl) rfl ?_
      refine ao_nil ?_
      refine aq_in ?_
      refine aq_then ?_
      refine aw_region ?_
      refine ao_read trivial (r_move rfl) rfl ?_
      refine ao_read trivial (r_quo rfl rfl (by decide)) rfl ?_
      refine ao_read trivial (r_assign rfl) rfl ?_
      refine ao_nil ?_
      exact aq_again (AL.sub (sub_mk idn (by exact ⟨ai rfl, ai rfl, trivial⟩) (by exact trivial) (by rfl) (nk rfl)) (ih3 ((IntKind.wrap .i64 (s1.1.tdiv 2)), (IntKind.wrap .i64 (0 - s1.2))) trivial h))
    · have q10 := d_f hb8
      replace h := is_else (d_f hb8) h
      refine aw_skip ?_
      refine aq_in ?_
      refine aq_then ?_
      refine aw_region ?_
      refine ao_read trivial (r_move rfl) rfl ?_
      refine ao_read trivial (r_quo rfl rfl (by decide)) rfl ?_
      refine ao_read trivial (r_assign rfl) rfl ?_
      refine ao_nil ?_
      exact aq_again (AL.sub (sub_mk idn (by exact ⟨ai rfl, ai rfl, trivial⟩) (by exact trivial) (by rfl) (nk rfl)) (ih3 ((IntKind.wrap .i64 (s1.1.tdiv 2)), s1.2) trivial h))
  · have q7 := d_f hb5
    replace h := is_else (d_f hb5) h
    refine aw_exit ?_
    refine aq_then_exit ?_
    refine aq_then_exit ?_
    refine aq_in_exit ?_
    refine aq_then ?_
    refine aw_seq ?_
    refine aw_region ?_
    refine ao_read trivial (r_move rfl) rfl ?_
    refine ao_read trivial (r_assign rfl) rfl ?_
    refine ao_nil ?_
    refine aq_then ?_
    refine aw_ret ?_
    refine aq_ret ?_
    obtain rfl := is_some h
    exact aq_finx (l := [.tmp 2]) (xs := [.int .i64 s1.2]) idn [.int .i64 s1.2] [] rfl (by exact ⟨rfl, trivial⟩) (by exact ⟨ad_ren rfl, trivial⟩) (by exact trivial) rfl (nk rfl) rfl rfl ⟨rfl, rfl⟩
theorem c_spec_ChanceAll {fu : Nat} {x0 : (List Int)} {x1 : Int} {r : (List Int) × Bool} (h : Is (p_spec_ChanceAll fu x0 x1) (some r)) :
    Scalar Try.prog 38 [.v (.arr 6 (.int .i64)) x0, .int .i64 x1] (.tup [.v (.arr 2 (.int .i64)) r.1, .bool r.2]) := by
  unfold p_spec_ChanceAll at h
  refine ac_enter ⟨38, 0⟩ Try.func38 rfl rfl rfl rfl rfl (fun Γ => ?_)
  refine aw_seq ?_
  refine aw_region ?_
  refine ao_eff trivial (e_box 0 rfl rfl rfl rfl rfl rfl) rfl ?_
  refine ao_eff trivial (e_alloc 1 (y := .v (.arr 2 (.int .i64)) ((List.replicate 2 0) : (List Int))) Try.zeroValue29 (fun ρ h M => ra_zero_arr (t := (.int .i64)) rfl) rfl rfl rfl rfl rfl) rfl ?_
  refine ao_read trivial (r_assign rfl) rfl ?_
  refine ao_nil ?_
  refine aq_then ?_
  refine aw_seq ?_
  refine aw_seq ?_
  refine aw_region ?_
  refine ao_read trivial (r_load_arr rfl Try.isAgg47 Try.sizeOf47 rfl rfl rfl) rfl ?_
  refine ao_read trivial (r_move rfl) rfl ?_
  obtain ⟨r1, r1h, h⟩ := is_bind h
  refine ao_scall trivial (scall (c_spec_l8Rolls (is_mk r1h)) rfl Try.func110 rfl rfl rfl rfl (fun σ => ⟨ad_ren rfl, ad_ren rfl, trivial⟩)) rfl ?_
  refine ao_read trivial (r_not rfl) rfl ?_
  refine ao_nil ?_
  refine aq_then ?_
  refine aw_cond rfl (fun hb2 => ?_) (fun hb2 => ?_)
  · replace h := is_else (ne_t (not_t hb2)) h
    refine aw_seq ?_
    refine aw_region ?_
    refine ao_read trivial (r_build_zero (t := (.int .i64)) Try.underlying29 Try.zeroValue29 Try.sizeOf3 rfl) rfl ?_
    refine ao_effS trivial (e_store rfl rfl rfl rfl Try.sizeOf29 rfl) ?_
    refine ao_read trivial (r_assign rfl) rfl ?_
    refine ao_nil ?_
    refine aq_then ?_
    refine aw_ret ?_
    refine aq_then_ret ?_
    refine aq_ret ?_
    obtain rfl := is_some h
    exact aq_finx (l := [.cell 4 29, .tmp 5]) (xs := [.v (.arr 2 (.int .i64)) ((List.replicate 2 0) : (List Int)), .bool false]) idn [.v (.arr 2 (.int .i64)) ((List.replicate 2 0) : (List Int)), .bool false] [] rfl (by exact ⟨⟨⟨_, _, rfl⟩, r_load_arr rfl Try.isAgg29 Try.sizeOf29 rfl rfl rfl⟩, rfl, trivial⟩) (by exact ⟨ad_ren rfl, ad_ren rfl, trivial⟩) (by exact trivial) rfl (nk rfl) rfl rfl ⟨rfl, rfl⟩
  · replace h := is_if (not_f hb2) h
    refine aw_skip ?_
    refine aq_then ?_
    refine aw_seq ?_
    refine aw_region ?_
    refine ao_read trivial (r_load_arr rfl Try.isAgg47 Try.sizeOf47 rfl rfl rfl) rfl ?_
    obtain ⟨r3, r3h, h⟩ := is_bind h
    refine ao_call [] 2 trivial (c_spec_l8Sets (is_mk r3h)) Try.func115 rfl rfl rfl rfl ⟨ad_ren rfl, trivial⟩ trivial rfl rfl rfl rfl rfl rfl rfl (fun r' H' hr => ?_)
    obtain ⟨rfl, rfl⟩ := hr
    refine ao_norm (y := .os 2) (H' := [(1, .var [.arr (.int .i64) 2 ((List.replicate 2 0) : (List Int))]), (0, .var [.arr (.int .i64) 6 x0]), (2, .row (.int .i64) r3)]) rfl rfl ?_
    refine row_len_o 2 (r3.length : Int) rfl rfl (fun hr4 => ?_)
    refine ao_read trivial (r_assign rfl) rfl ?_
    refine ao_read trivial (r_assign rfl) rfl ?_
    refine ao_nil ?_
    refine aq_then ?_
    refine aw_seq ?_
    refine aw_seq ?_
    refine aw_region ?_
    refine ao_read trivial (r_assign rfl) rfl ?_
    refine ao_nil ?_
    refine aq_then ?_
    refine aw_block ?_
    refine aw_loop (AL.sub (fr' := [(1, .int .i64 x1), (4, .ref 0 0), (6, .int .i64 0), (7, .os 1), (8, .int .i64 0)]) (H' := [(0, .var [.arr (.int .i64) 2 ((List.replicate 2 0) : (List Int))]), (1, .row (.int .i64) r3)]) (sub_mk (rn [(0, 1), (1, 2)]) (by exact ⟨ai rfl, ai rfl, ai rfl, ai rfl, ai rfl, trivial⟩) (by exact ⟨⟨_, rfl, ⟨rfl, trivial⟩⟩, ⟨_, rfl, rfl⟩, trivial⟩) (by rfl) (nk rfl)) (al_cnt (fun i6 (s5 : Int) => [(1, .int .i64 x1), (4, .ref 0 0), (6, .int .i64 s5), (7, .os 1), (8, .int .i64 i6)]) (fun i6 (s5 : Int) => [(0, .var [.arr (.int .i64) 2 ((List.replicate 2 0) : (List Int))]), (1, .row (.int .i64) r3)]) (fun d i6 (s5 : Int) => d = Int.toNat ((r3.length : Int) - i6) ∧ 0 ≤ i6 ∧ i6 ≤ (r3.length : Int)) h ⟨rfl, (by (try simp only [List.length_set, List.length_append, List.length_cons, List.length_nil, List.length_replicate, List.length_take, List.length_drop]) <;> omega), (by (try simp only [List.length_set, List.length_append, List.length_cons, List.length_nil, List.length_replicate, List.length_take, List.length_drop]) <;> omega)⟩ (fun d7 i6 s5 hI h ih7 => ?_)))
    obtain ⟨hd, _, _⟩ := hI
    refine al_round ?_
    refine aw_seq ?_
    refine aw_seq ?_
    refine aw_region ?_
    refine ao_read trivial (r_move rfl) rfl ?_
    refine ao_read trivial (r_move rfl) rfl ?_
    refine ao_read trivial (r_len_osm (r3.length : Int) Try.underlying32 rfl rfl rfl) rfl ?_
    refine ao_read trivial (r_lss rfl rfl) rfl ?_
    refine ao_nil ?_
    refine aq_then ?_
    refine aw_cond rfl (fun hb9 => ?_) (fun hb9 => ?_)
    · have q10 := d_t hb9
      obtain ⟨d7, rfl⟩ : ∃ e, d7 = e + 1 := ⟨d7 - 1, by omega⟩
      replace h := is_cntS h
      refine aw_skip ?_
      refine aq_then ?_
      refine aw_seq ?_
      refine aw_block ?_
      obtain ⟨r12, r12h, h⟩ := is_bind h
      obtain ⟨r13, r13h, h⟩ := is_bind h
      refine aw_drawAll (by kernel_rfl) ?_
      refine an_read 0 (by kernel_rfl) (fun _ _ _ h => h) rfl (by kernel_rfl) trivial (r_move rfl) rfl ?_
      refine an_read 1 (by kernel_rfl) (fun _ _ _ h => h) rfl (by kernel_rfl) trivial (r_move rfl) rfl ?_
      refine an_scall 2 (by kernel_rfl) (fun _ _ _ h => h) rfl (by kernel_rfl) trivial (scall (c_spec_l8Sign (is_mk r12h)) rfl Try.func116 rfl rfl rfl rfl (fun σ => ⟨ad_ren rfl, trivial⟩)) rfl ?_
      refine an_read 3 (by kernel_rfl) (fun _ _ _ h => h) rfl (by kernel_rfl) trivial (r_move rfl) rfl ?_
      refine an_read 4 (by kernel_rfl) (fun _ _ _ h => h) rfl (by kernel_rfl) trivial (r_move rfl) rfl ?_
      refine an_read 5 (by kernel_rfl) (fun _ _ _ h => h) rfl (by kernel_rfl) trivial (r_idxAddr_os Try.underlying32 Try.sizeOf3 rfl rfl rfl (show 0 ≤ i6 from by omega) (show i6 < (r3.length : Int) from by omega)) rfl ?_
      refine an_read 6 (by kernel_rfl) (fun _ _ _ h => h) rfl (by kernel_rfl) trivial (r_load_elem_int Try.isAgg3 Try.sizeOf3 rfl rfl (show i6.toNat < r3.length from by omega)) rfl ?_
      refine an_read 7 (by kernel_rfl) (fun _ _ _ h => h) rfl (by kernel_rfl) trivial (r_sub rfl rfl) rfl ?_
      refine an_read 8 (by kernel_rfl) (fun _ _ _ h => h) rfl (by kernel_rfl) trivial (r_move rfl) rfl ?_
      refine an_scall 9 (by kernel_rfl) (fun _ _ _ h => h) rfl (by kernel_rfl) trivial (scall (c_spec_l8Power (is_mk r13h)) rfl Try.func111 rfl rfl rfl rfl (fun σ => ⟨ad_ren rfl, ad_ren rfl, trivial⟩)) rfl ?_
      refine an_read 10 (by kernel_rfl) (fun _ _ _ h => h) rfl (by kernel_rfl) trivial (r_mul rfl rfl) rfl ?_
      refine an_read 11 (by kernel_rfl) (fun _ _ _ h => h) rfl (by kernel_rfl) trivial (r_add rfl rfl) rfl ?_
      refine an_read 12 (by kernel_rfl) (fun _ _ _ h => h) rfl (by kernel_rfl) trivial (r_assign rfl) rfl ?_
      refine an_done rfl ?_
      refine aq_in ?_
      refine aq_then ?_
      refine aw_region ?_
      refine ao_read trivial (r_move rfl) rfl ?_
      refine ao_read trivial (r_addI rfl rfl (wrap_id (by omega) (by omega))) rfl ?_
      refine ao_read trivial (r_assign rfl) rfl ?_
      refine ao_nil ?_
      exact aq_again (AL.sub (sub_mk idn (by exact ⟨ai rfl, ai rfl, ai rfl, ai rfl, ai rfl, trivial⟩) (by exact ⟨⟨_, rfl, ⟨rfl, trivial⟩⟩, ⟨_, rfl, rfl⟩, trivial⟩) (by rfl) (nk rfl)) (ih7 d7 (i6 + 1) (IntKind.wrap .i64 (s5 + (IntKind.wrap .i64 (r12 * r13)))) (by omega) ⟨by omega, (by (try simp only [List.length_set, List.length_append, List.length_cons, List.length_nil, List.length_replicate, List.length_take, List.length_drop]) <;> omega), (by (try simp only [List.length_set, List.length_append, List.length_cons, List.length_nil, List.length_replicate, List.length_take, List.length_drop]) <;> omega)⟩ h))
    · have q11 := d_f hb9
      obtain rfl : d7 = 0 := by omega
      replace h := is_cnt0 h
      refine aw_exit ?_
      refine aq_then_exit ?_
      refine aq_then_exit ?_
      refine aq_in_exit ?_
      refine aq_then ?_
      refine aw_seq ?_
      refine aw_region ?_
      refine ao_read trivial (r_move rfl) rfl ?_
      refine ao_read trivial (r_move rfl) rfl ?_
      obtain ⟨r14, r14h, h⟩ := is_bind h
      refine ao_scall trivial (scall (c_spec_l2All (is_mk r14h)) rfl Try.func101 rfl rfl rfl rfl (fun σ => ⟨ad_ren rfl, trivial⟩)) rfl ?_
      obtain ⟨r15, r15h, h⟩ := is_bind h
      refine ao_scall trivial (scall (c_spec_l2Cut (is_mk r15h)) rfl Try.func79 rfl rfl rfl rfl (fun σ => ⟨ad_ren rfl, ad_ren rfl, trivial⟩)) rfl ?_
      refine ao_effS trivial (e_store rfl rfl rfl rfl Try.sizeOf29 rfl) ?_
      refine ao_read trivial (r_assign rfl) rfl ?_
      refine ao_nil ?_
      refine aq_then ?_
      refine aw_ret ?_
      refine aq_ret ?_
      obtain rfl := is_some h
      exact aq_finx (l := [.cell 4 29, .tmp 5]) (xs := [.v (.arr 2 (.int .i64)) r15, .bool true]) idn [.v (.arr 2 (.int .i64)) r15, .bool true] [] rfl (by exact ⟨⟨⟨_, _, rfl⟩, r_load_arr rfl Try.isAgg29 Try.sizeOf29 rfl rfl rfl⟩, rfl, trivial⟩) (by exact ⟨ad_ren rfl, ad_ren rfl, trivial⟩) (by exact trivial) rfl (nk rfl) rfl rfl ⟨rfl, rfl⟩
theorem c_impl_MeanAll_1 {x0 : Int} {x1 : Int} {x2 : Int} {r : Int} (h : Is (p_impl_MeanAll_1 x0 x1 x2) r) :
    ACalls Try.prog 117 [.int .i64 x0, .int .i64 x1, .ref 0 0] [(0, .var [.cell (.int .i64 x2)])] (fun r' H' => r' = .tup [] ∧ H' = [(0, .var [.cell (.int .i64 r)])]) := by
  unfold p_impl_MeanAll_1 at h
  refine ac_enter ⟨14, 1⟩ Try.func117 rfl rfl rfl rfl rfl (fun Γ => ?_)
  refine aw_seq ?_
  refine aw_region ?_
  refine ao_read trivial (r_move rfl) rfl ?_
  refine ao_read trivial (r_gtr rfl rfl) rfl ?_
  refine ao_nil ?_
  refine aq_then ?_
  refine aw_cond rfl (fun hb1 => ?_) (fun hb1 => ?_)
  · have q2 := d_t hb1
    replace h := is_if (d_t hb1) h
    refine aw_draw 7 (by kernel_rfl) (by kernel_rfl) ?_
    refine an_read 0 (by kernel_rfl) (fun _ _ _ h => h) rfl (by kernel_rfl) trivial (r_load_cell Try.isAgg3 rfl rfl rfl) rfl ?_
    refine an_read 1 (by kernel_rfl) (fun _ _ _ h => h) rfl (by kernel_rfl) trivial (r_move rfl) rfl ?_
    refine an_read 2 (by kernel_rfl) (fun _ _ _ h => h) rfl (by kernel_rfl) trivial (r_mul rfl rfl) rfl ?_
    refine an_read 3 (by kernel_rfl) (fun _ _ _ h => h) rfl (by kernel_rfl) trivial (r_move rfl) rfl ?_
    refine an_read 4 (by kernel_rfl) (fun _ _ _ h => h) rfl (by kernel_rfl) trivial (r_quo rfl rfl (by omega)) rfl ?_
    refine an_read 5 (by kernel_rfl) (fun _ _ _ h => h) rfl (by kernel_rfl) trivial (r_mul rfl rfl) rfl ?_
    refine an_read 6 (by kernel_rfl) (fun _ _ _ h => h) rfl (by kernel_rfl) trivial (r_sub rfl rfl) rfl ?_
    refine an_tail rfl rfl ?_
    refine ao_effS trivial (e_store rfl rfl rfl rfl Try.sizeOf3 rfl) ?_
    refine ao_nil ?_
    refine aq_end ?_
    obtain rfl := is_eq h
    exact aq_finx (l := []) (xs := []) idn [] [(0, .var [.cell (.int .i64 (IntKind.wrap .i64 (x2 - (IntKind.wrap .i64 ((IntKind.wrap .i64 (x1 * 6)) * (IntKind.wrap .i64 ((60 : Int).tdiv x0)))))))])] rfl (by exact trivial) (by exact trivial) (by exact ⟨⟨_, rfl, ⟨ad_ren rfl, rfl, trivial⟩⟩, trivial⟩) rfl (nk1 rfl rfl) rfl rfl ⟨rfl, rfl⟩
  · have q3 := d_f hb1
    replace h := is_else (d_f hb1) h
    refine aw_skip ?_
    refine aq_end ?_
    obtain rfl := is_eq h
    exact aq_finx (l := []) (xs := []) idn [] [(0, .var [.cell (.int .i64 x2)])] rfl (by exact trivial) (by exact trivial) (by exact ⟨⟨_, rfl, ⟨ad_ren rfl, rfl, trivial⟩⟩, trivial⟩) rfl (nk1 rfl rfl) rfl rfl ⟨rfl, rfl⟩
theorem c_impl_partsv1 {fu : Nat} {x0 : (List Int)} {x1 : Int} {r : Int} (h : Is (p_impl_partsv1 fu x0 x1) (some r)) :
    ACalls Try.prog 113 [.v (.arr 6 (.int .i64)) x0, .fn 117 [.ref 0 0]] [(0, .var [.cell (.int .i64 x1)])] (fun r' H' => r' = .tup [] ∧ H' = [(0, .var [.cell (.int .i64 r)])]) := by
  unfold p_impl_partsv1 at h
  refine ac_enter ⟨41, 1⟩ Try.func113 rfl rfl rfl rfl rfl (fun Γ => ?_)
  refine aw_seq ?_
  refine aw_region ?_
  refine ao_eff trivial (e_box 1 rfl rfl rfl rfl rfl rfl) rfl ?_
  refine ao_nil ?_
  refine aq_then ?_
  refine aw_seq ?_
  refine aw_region ?_
  refine ao_read trivial (r_load_arr rfl Try.isAgg47 Try.sizeOf47 rfl rfl rfl) rfl ?_
  obtain ⟨r1, r1h, h⟩ := is_bind h
  refine ao_call [] 2 trivial (c_impl_numbers (is_mk r1h)) Try.func134 rfl rfl rfl rfl ⟨ad_ren rfl, trivial⟩ trivial rfl rfl rfl rfl rfl rfl rfl (fun r' H' hr => ?_)
  obtain ⟨rfl, rfl⟩ := hr
  refine ao_norm (y := .os 2) (H' := [(1, .var [.arr (.int .i64) 6 x0]), (0, .var [.cell (.int .i64 x1)]), (2, .row (.int .i64) r1)]) rfl rfl ?_
  refine row_len_o 2 (r1.length : Int) rfl rfl (fun hr2 => ?_)
  refine ao_read trivial (r_assign rfl) rfl ?_
  refine ao_nil ?_
  refine aq_then ?_
  refine aw_seq ?_
  refine aw_region ?_
  refine ao_read trivial (r_move rfl) rfl ?_
  refine ao_read trivial (r_len_osm (r1.length : Int) Try.underlying32 rfl rfl rfl) rfl ?_
  refine ao_read trivial (r_shl rfl rfl (by omega)) rfl ?_
  refine ao_read trivial (r_move rfl) rfl ?_
  refine ao_nil ?_
  refine aq_then ?_
  refine aw_block ?_
  refine aw_loop (AL.sub (sub_mk idn (by exact ⟨ai rfl, ai rfl, ai rfl, ai rfl, ai rfl, trivial⟩) (by exact ⟨⟨_, rfl, ⟨ad_ren rfl, rfl, trivial⟩⟩, ⟨_, rfl, ⟨rfl, trivial⟩⟩, ⟨_, rfl, rfl⟩, trivial⟩) (by rfl) (nk1 rfl rfl)) (al_whl (fun (s3 : Int × Int) => [(1, .fn 117 [.ref 0 0]), (2, .ref 1 0), (4, .os 2), (14, .int .i64 (shlI .i64 1 (r1.length : Int))), (15, .int .i64 s3.1)]) (fun (s3 : Int × Int) => [(0, .var [.cell (.int .i64 s3.2)]), (1, .var [.arr (.int .i64) 6 x0]), (2, .row (.int .i64) r1)]) (fun (s3 : Int × Int) => True) h trivial (fun d5 s3 hI h ih5 => ?_)))
  replace h := is_whlS h
  refine al_round ?_
  refine aw_seq ?_
  refine aw_region ?_
  refine ao_read trivial (r_lss rfl rfl) rfl ?_
  refine ao_nil ?_
  refine aq_then ?_
  refine aw_seq ?_
  refine aw_cond rfl (fun hb7 => ?_) (fun hb7 => ?_)
  · have q8 := d_t hb7
    replace h := is_if (d_t hb7) h
    refine aw_skip ?_
    refine aq_then ?_
    refine aw_seq ?_
    refine aw_block ?_
    refine aw_seq ?_
    refine aw_region ?_
    refine ao_read trivial (r_move rfl) rfl ?_
    refine ao_read trivial (r_assign rfl) rfl ?_
    refine ao_nil ?_
    refine aq_then ?_
    refine aw_seq ?_
    refine aw_region ?_
    refine ao_read trivial (r_assign rfl) rfl ?_
    refine ao_read trivial (r_assign rfl) rfl ?_
    refine ao_nil ?_
    refine aq_then ?_
    refine aw_seq ?_
    refine aw_seq ?_
    refine aw_region ?_
    refine ao_read trivial (r_move rfl) rfl ?_
    refine ao_read trivial (r_len_osm (r1.length : Int) Try.underlying32 rfl rfl rfl) rfl ?_
    refine ao_read trivial (r_move rfl) rfl ?_
    refine ao_nil ?_
    refine aq_then ?_
    refine aw_block ?_
    refine aw_loop (AL.sub (fr' := [(1, .fn 117 [.ref 0 0]), (2, .ref 1 0), (4, .os 2), (5, .int .i64 s3.1), (6, .int .i64 0), (7, .int .i64 1), (14, .int .i64 (shlI .i64 1 (r1.length : Int))), (15, .int .i64 s3.1), (18, .os 2), (19, .int .i64 (r1.length : Int)), (20, .int .i64 0)]) (H' := [(0, .var [.cell (.int .i64 s3.2)]), (1, .var [.arr (.int .i64) 6 x0]), (2, .row (.int .i64) r1)]) (sub_mk idn (by exact ⟨ai rfl, ai rfl, ai rfl, ai rfl, ai rfl, ai rfl, ai rfl, ai rfl, ai rfl, ai rfl, ai rfl, trivial⟩) (by exact ⟨⟨_, rfl, ⟨ad_ren rfl, rfl, trivial⟩⟩, ⟨_, rfl, ⟨rfl, trivial⟩⟩, ⟨_, rfl, rfl⟩, trivial⟩) (by rfl) (nk1 rfl rfl)) (al_cnt (fun i11 (s10 : Int × Int) => [(1, .fn 117 [.ref 0 0]), (2, .ref 1 0), (4, .os 2), (5, .int .i64 s3.1), (6, .int .i64 s10.1), (7, .int .i64 s10.2), (14, .int .i64 (shlI .i64 1 (r1.length : Int))), (15, .int .i64 s3.1), (18, .os 2), (19, .int .i64 (r1.length : Int)), (20, .int .i64 i11)]) (fun i11 (s10 : Int × Int) => [(0, .var [.cell (.int .i64 s3.2)]), (1, .var [.arr (.int .i64) 6 x0]), (2, .row (.int .i64) r1)]) (fun d i11 (s10 : Int × Int) => d = Int.toNat ((r1.length : Int) - i11) ∧ 0 ≤ i11 ∧ i11 ≤ (r1.length : Int)) h ⟨rfl, (by (try simp only [List.length_set, List.length_append, List.length_cons, List.length_nil, List.length_replicate, List.length_take, List.length_drop]) <;> omega), (by (try simp only [List.length_set, List.length_append, List.length_cons, List.length_nil, List.length_replicate, List.length_take, List.length_drop]) <;> omega)⟩ (fun d12 i11 s10 hI h ih12 => ?_)))
    obtain ⟨hd, _, _⟩ := hI
    refine al_round ?_
    refine aw_seq ?_
    refine aw_region ?_
    refine ao_read trivial (r_lss rfl rfl) rfl ?_
    refine ao_nil ?_
    refine aq_then ?_
    refine aw_seq ?_
    refine aw_cond rfl (fun hb14 => ?_) (fun hb14 => ?_)
    · have q15 := d_t hb14
      obtain ⟨d12, rfl⟩ : ∃ e, d12 = e + 1 := ⟨d12 - 1, by omega⟩
      replace h := is_cntS h
      refine aw_skip ?_
      refine aq_then ?_
      refine aw_seq ?_
      refine aw_block ?_
      refine aw_seq ?_
      refine aw_region ?_
      refine ao_read trivial (r_move rfl) rfl ?_
      refine ao_read trivial (r_idxAddr_os Try.underlying32 Try.sizeOf3 rfl rfl rfl (show 0 ≤ i11 from by omega) (show i11 < (r1.length : Int) from by omega)) rfl ?_
      refine ao_read trivial (r_load_elem_int Try.isAgg3 Try.sizeOf3 rfl rfl (show i11.toNat < r1.length from by omega)) rfl ?_
      refine ao_read trivial (r_assign rfl) rfl ?_
      refine ao_read trivial (r_assign rfl) rfl ?_
      refine ao_nil ?_
      refine aq_then ?_
      refine aw_seq ?_
      refine aw_region ?_
      refine ao_read trivial (r_move rfl) rfl ?_
      refine ao_read trivial (r_move rfl) rfl ?_
      obtain ⟨r17, r17h, h⟩ := is_bind h
      refine ao_scall trivial (scall (c_impl_isIn (is_mk r17h)) rfl Try.func168 rfl rfl rfl rfl (fun σ => ⟨ad_ren rfl, ad_ren rfl, trivial⟩)) rfl ?_
      refine ao_nil ?_
      refine aq_then ?_
      refine aw_cond rfl (fun hb18 => ?_) (fun hb18 => ?_)
      · replace h := is_if hb18 h
        refine aw_seq ?_
        refine aw_region ?_
        refine ao_read trivial (r_move rfl) rfl ?_
        refine ao_read trivial (r_load_arr rfl Try.isAgg47 Try.sizeOf47 rfl rfl rfl) rfl ?_
        refine ao_read trivial (r_move rfl) rfl ?_
        refine ao_scall trivial (scall (c_impl_weight (is_mk (rfl : p_impl_weight x0 (r1.getD i11.toNat 0) = _))) rfl Try.func104 rfl rfl rfl rfl (fun σ => ⟨ad_ren rfl, ad_ren rfl, trivial⟩)) rfl ?_
        refine ao_read trivial (r_add rfl rfl) rfl ?_
        refine ao_read trivial (r_assign rfl) rfl ?_
        refine ao_nil ?_
        refine aq_then ?_
        refine aw_region ?_
        refine ao_read trivial (r_move rfl) rfl ?_
        refine ao_read trivial (r_neg rfl) rfl ?_
        refine ao_read trivial (r_assign rfl) rfl ?_
        refine ao_nil ?_
        refine aq_in ?_
        refine aq_then ?_
        refine aw_region ?_
        refine ao_read trivial (r_addI rfl rfl (wrap_id (by omega) (by omega))) rfl ?_
        refine ao_read trivial (r_move rfl) rfl ?_
        refine ao_nil ?_
        exact aq_again (AL.sub (sub_mk idn (by exact ⟨ai rfl, ai rfl, ai rfl, ai rfl, ai rfl, ai rfl, ai rfl, ai rfl, ai rfl, ai rfl, ai rfl, trivial⟩) (by exact ⟨⟨_, rfl, ⟨ad_ren rfl, rfl, trivial⟩⟩, ⟨_, rfl, ⟨rfl, trivial⟩⟩, ⟨_, rfl, rfl⟩, trivial⟩) (by rfl) (nk1 rfl rfl)) (ih12 d12 (i11 + 1) ((IntKind.wrap .i64 (s10.1 + (p_impl_weight x0 (r1.getD i11.toNat 0)))), (IntKind.wrap .i64 (0 - s10.2))) (by omega) ⟨by omega, (by (try simp only [List.length_set, List.length_append, List.length_cons, List.length_nil, List.length_replicate, List.length_take, List.length_drop]) <;> omega), (by (try simp only [List.length_set, List.length_append, List.length_cons, List.length_nil, List.length_replicate, List.length_take, List.length_drop]) <;> omega)⟩ h))
      · replace h := is_else (ne_t hb18) h
        refine aw_skip ?_
        refine aq_in ?_
        refine aq_then ?_
        refine aw_region ?_
        refine ao_read trivial (r_addI rfl rfl (wrap_id (by omega) (by omega))) rfl ?_
        refine ao_read trivial (r_move rfl) rfl ?_
        refine ao_nil ?_
        exact aq_again (AL.sub (sub_mk idn (by exact ⟨ai rfl, ai rfl, ai rfl, ai rfl, ai rfl, ai rfl, ai rfl, ai rfl, ai rfl, ai rfl, ai rfl, trivial⟩) (by exact ⟨⟨_, rfl, ⟨ad_ren rfl, rfl, trivial⟩⟩, ⟨_, rfl, ⟨rfl, trivial⟩⟩, ⟨_, rfl, rfl⟩, trivial⟩) (by rfl) (nk1 rfl rfl)) (ih12 d12 (i11 + 1) (s10.1, s10.2) (by omega) ⟨by omega, (by (try simp only [List.length_set, List.length_append, List.length_cons, List.length_nil, List.length_replicate, List.length_take, List.length_drop]) <;> omega), (by (try simp only [List.length_set, List.length_append, List.length_cons, List.length_nil, List.length_replicate, List.length_take, List.length_drop]) <;> omega)⟩ h))
    · have q16 := d_f hb14
      obtain rfl : d12 = 0 := by omega
      replace h := is_cnt0 h
      refine aw_exit ?_
      refine aq_then_exit ?_
      refine aq_then_exit ?_
      refine aq_in_exit ?_
      refine aq_then ?_
      refine aw_region ?_
      refine ao_read trivial (r_move rfl) rfl ?_
      refine ao_read trivial (r_move rfl) rfl ?_
      refine ao_read trivial (r_move rfl) rfl ?_
      refine ao_call [0] 3 trivial (c_impl_MeanAll_1 (is_mk (rfl : p_impl_MeanAll_1 s10.1 s10.2 s3.2 = _))) Try.func117 rfl rfl rfl rfl ⟨ad_ren rfl, ad_ren rfl, ad_ren rfl, trivial⟩ ⟨⟨_, rfl, ⟨ad_ren rfl, rfl, trivial⟩⟩, trivial⟩ rfl rfl rfl rfl rfl rfl rfl (fun r' H' hr => ?_)
      obtain ⟨rfl, rfl⟩ := hr
      refine ao_norm (y := .tup []) (H' := [(1, .var [.arr (.int .i64) 6 x0]), (2, .row (.int .i64) r1), (0, .var [.cell (.int .i64 (p_impl_MeanAll_1 s10.1 s10.2 s3.2))])]) rfl rfl ?_
      refine ao_nil ?_
      refine aq_in ?_
      refine aq_then ?_
      refine aw_region ?_
      refine ao_read trivial (r_add rfl rfl) rfl ?_
      refine ao_read trivial (r_move rfl) rfl ?_
      refine ao_nil ?_
      exact aq_again (AL.sub (sub_mk idn (by exact ⟨ai rfl, ai rfl, ai rfl, ai rfl, ai rfl, trivial⟩) (by exact ⟨⟨_, rfl, ⟨ad_ren rfl, rfl, trivial⟩⟩, ⟨_, rfl, ⟨rfl, trivial⟩⟩, ⟨_, rfl, rfl⟩, trivial⟩) (by rfl) (nk1 rfl rfl)) (ih5 ((IntKind.wrap .i64 (s3.1 + 1)), (p_impl_MeanAll_1 s10.1 s10.2 s3.2)) trivial h))
  · have q9 := d_f hb7
    replace h := is_else (d_f hb7) h
    refine aw_exit ?_
    refine aq_then_exit ?_
    refine aq_then_exit ?_
    refine aq_in_exit ?_
    refine aq_end ?_
    obtain rfl := is_some h
    exact aq_finx (l := []) (xs := []) idn [] [(0, .var [.cell (.int .i64 s3.2)])] rfl (by exact trivial) (by exact trivial) (by exact ⟨⟨_, rfl, ⟨ad_ren rfl, rfl, trivial⟩⟩, trivial⟩) rfl (nk1 rfl rfl) rfl rfl ⟨rfl, rfl⟩
theorem c_impl_MeanAll {fu : Nat} {x0 : (List Int)} {r : (List Int) × Bool} (h : Is (p_impl_MeanAll fu x0) (some r)) :
    Scalar Try.prog 39 [.v (.arr 6 (.int .i64)) x0] (.tup [.v (.arr 2 (.int .i64)) r.1, .bool r.2]) := by
  unfold p_impl_MeanAll at h
  refine ac_enter ⟨14, 0⟩ Try.func39 rfl rfl rfl rfl rfl (fun Γ => ?_)
  refine aw_seq ?_
  refine aw_region ?_
  refine ao_eff trivial (e_box 0 rfl rfl rfl rfl rfl rfl) rfl ?_
  refine ao_eff trivial (e_alloc 1 (y := .v (.arr 2 (.int .i64)) ((List.replicate 2 0) : (List Int))) Try.zeroValue29 (fun ρ h M => ra_zero_arr (t := (.int .i64)) rfl) rfl rfl rfl rfl rfl) rfl ?_
  refine ao_read trivial (r_assign rfl) rfl ?_
  refine ao_nil ?_
  refine aq_then ?_
  refine aw_seq ?_
  refine aw_seq ?_
  refine aw_region ?_
  refine ao_read trivial (r_load_arr rfl Try.isAgg47 Try.sizeOf47 rfl rfl rfl) rfl ?_
  refine ao_scall trivial (scall (c_impl_IsDie (is_mk (rfl : p_impl_IsDie x0 = _))) rfl Try.func97 rfl rfl rfl rfl (fun σ => ⟨ad_ren rfl, trivial⟩)) rfl ?_
  refine ao_read trivial (r_not rfl) rfl ?_
  refine ao_nil ?_
  refine aq_then ?_
  refine aw_cond rfl (fun hb1 => ?_) (fun hb1 => ?_)
  · replace h := is_else (ne_t (not_t hb1)) h
    refine aw_seq ?_
    refine aw_region ?_
    refine ao_read trivial (r_build_zero (t := (.int .i64)) Try.underlying29 Try.zeroValue29 Try.sizeOf3 rfl) rfl ?_
    refine ao_effS trivial (e_store rfl rfl rfl rfl Try.sizeOf29 rfl) ?_
    refine ao_read trivial (r_assign rfl) rfl ?_
    refine ao_nil ?_
    refine aq_then ?_
    refine aw_ret ?_
    refine aq_then_ret ?_
    refine aq_ret ?_
    obtain rfl := is_some h
    exact aq_finx (l := [.cell 2 29, .tmp 3]) (xs := [.v (.arr 2 (.int .i64)) ((List.replicate 2 0) : (List Int)), .bool false]) idn [.v (.arr 2 (.int .i64)) ((List.replicate 2 0) : (List Int)), .bool false] [] rfl (by exact ⟨⟨⟨_, _, rfl⟩, r_load_arr rfl Try.isAgg29 Try.sizeOf29 rfl rfl rfl⟩, rfl, trivial⟩) (by exact ⟨ad_ren rfl, ad_ren rfl, trivial⟩) (by exact trivial) rfl (nk rfl) rfl rfl ⟨rfl, rfl⟩
  · replace h := is_if (not_f hb1) h
    refine aw_skip ?_
    refine aq_then ?_
    refine aw_seq ?_
    refine aw_region ?_
    refine ao_eff trivial (e_alloc 2 (y := .int .i64 0) Try.zeroValue3 (fun ρ h M => rfl) rfl rfl rfl rfl rfl) rfl ?_
    refine ao_effS trivial (e_store rfl rfl rfl rfl Try.sizeOf3 rfl) ?_
    refine ao_nil ?_
    refine aq_then ?_
    refine aw_seq ?_
    refine aw_region ?_
    refine ao_read trivial (r_load_arr rfl Try.isAgg47 Try.sizeOf47 rfl rfl rfl) rfl ?_
    refine ao_read trivial (r_makeFunc (cs := [.tmp 4]) rfl) rfl ?_
    obtain ⟨r2, r2h, h⟩ := is_bind h
    refine ao_call [2] 3 trivial (c_impl_partsv1 (is_mk r2h)) Try.func113 rfl rfl rfl rfl ⟨ad_ren rfl, ad_ren rfl, trivial⟩ ⟨⟨_, rfl, ⟨ad_ren rfl, rfl, trivial⟩⟩, trivial⟩ rfl rfl rfl rfl rfl rfl rfl (fun r' H' hr => ?_)
    obtain ⟨rfl, rfl⟩ := hr
    refine ao_norm (y := .tup []) (H' := [(1, .var [.arr (.int .i64) 2 ((List.replicate 2 0) : (List Int))]), (0, .var [.arr (.int .i64) 6 x0]), (2, .var [.cell (.int .i64 r2)])]) rfl rfl ?_
    refine ao_nil ?_
    refine aq_then ?_
    refine aw_seq ?_
    refine aw_region ?_
    refine ao_read trivial (r_load_cell Try.isAgg3 rfl rfl rfl) rfl ?_
    obtain ⟨r3, r3h, h⟩ := is_bind h
    refine ao_scall trivial (scall (c_impl_fraction (is_mk r3h)) rfl Try.func102 rfl rfl rfl rfl (fun σ => ⟨ad_ren rfl, ad_ren rfl, trivial⟩)) rfl ?_
    refine ao_effS trivial (e_store rfl rfl rfl rfl Try.sizeOf29 rfl) ?_
    refine ao_read trivial (r_assign rfl) rfl ?_
    refine ao_nil ?_
    refine aq_then ?_
    refine aw_ret ?_
    refine aq_ret ?_
    obtain rfl := is_some h
    exact aq_finx (l := [.cell 2 29, .tmp 3]) (xs := [.v (.arr 2 (.int .i64)) r3, .bool true]) idn [.v (.arr 2 (.int .i64)) r3, .bool true] [] rfl (by exact ⟨⟨⟨_, _, rfl⟩, r_load_arr rfl Try.isAgg29 Try.sizeOf29 rfl rfl rfl⟩, rfl, trivial⟩) (by exact ⟨ad_ren rfl, ad_ren rfl, trivial⟩) (by exact trivial) rfl (nk rfl) rfl rfl ⟨rfl, rfl⟩
theorem c_spec_MeanAll {fu : Nat} {x0 : (List Int)} {r : (List Int) × Bool} (h : Is (p_spec_MeanAll fu x0) (some r)) :
    Scalar Try.prog 40 [.v (.arr 6 (.int .i64)) x0] (.tup [.v (.arr 2 (.int .i64)) r.1, .bool r.2]) := by
  unfold p_spec_MeanAll at h
  refine ac_enter ⟨31, 0⟩ Try.func40 rfl rfl rfl rfl rfl (fun Γ => ?_)
  refine aw_seq ?_
  refine aw_region ?_
  refine ao_eff trivial (e_box 0 rfl rfl rfl rfl rfl rfl) rfl ?_
  refine ao_eff trivial (e_alloc 1 (y := .v (.arr 2 (.int .i64)) ((List.replicate 2 0) : (List Int))) Try.zeroValue29 (fun ρ h M => ra_zero_arr (t := (.int .i64)) rfl) rfl rfl rfl rfl rfl) rfl ?_
  refine ao_read trivial (r_assign rfl) rfl ?_
  refine ao_nil ?_
  refine aq_then ?_
  refine aw_seq ?_
  refine aw_seq ?_
  refine aw_region ?_
  refine ao_read trivial (r_load_arr rfl Try.isAgg47 Try.sizeOf47 rfl rfl rfl) rfl ?_
  obtain ⟨r1, r1h, h⟩ := is_bind h
  refine ao_scall trivial (scall (c_spec_l2Die (is_mk r1h)) rfl Try.func100 rfl rfl rfl rfl (fun σ => ⟨ad_ren rfl, trivial⟩)) rfl ?_
  refine ao_read trivial (r_not rfl) rfl ?_
  refine ao_nil ?_
  refine aq_then ?_
  refine aw_cond rfl (fun hb2 => ?_) (fun hb2 => ?_)
  · replace h := is_else (ne_t (not_t hb2)) h
    refine aw_seq ?_
    refine aw_region ?_
    refine ao_read trivial (r_build_zero (t := (.int .i64)) Try.underlying29 Try.zeroValue29 Try.sizeOf3 rfl) rfl ?_
    refine ao_effS trivial (e_store rfl rfl rfl rfl Try.sizeOf29 rfl) ?_
    refine ao_read trivial (r_assign rfl) rfl ?_
    refine ao_nil ?_
    refine aq_then ?_
    refine aw_ret ?_
    refine aq_then_ret ?_
    refine aq_ret ?_
    obtain rfl := is_some h
    exact aq_finx (l := [.cell 2 29, .tmp 3]) (xs := [.v (.arr 2 (.int .i64)) ((List.replicate 2 0) : (List Int)), .bool false]) idn [.v (.arr 2 (.int .i64)) ((List.replicate 2 0) : (List Int)), .bool false] [] rfl (by exact ⟨⟨⟨_, _, rfl⟩, r_load_arr rfl Try.isAgg29 Try.sizeOf29 rfl rfl rfl⟩, rfl, trivial⟩) (by exact ⟨ad_ren rfl, ad_ren rfl, trivial⟩) (by exact trivial) rfl (nk rfl) rfl rfl ⟨rfl, rfl⟩
  · replace h := is_if (not_f hb2) h
    refine aw_skip ?_
    refine aq_then ?_
    refine aw_seq ?_
    refine aw_region ?_
    refine ao_read trivial (r_load_arr rfl Try.isAgg47 Try.sizeOf47 rfl rfl rfl) rfl ?_
    obtain ⟨r3, r3h, h⟩ := is_bind h
    refine ao_call [] 2 trivial (c_spec_l8Sets (is_mk r3h)) Try.func115 rfl rfl rfl rfl ⟨ad_ren rfl, trivial⟩ trivial rfl rfl rfl rfl rfl rfl rfl (fun r' H' hr => ?_)
    obtain ⟨rfl, rfl⟩ := hr
    refine ao_norm (y := .os 2) (H' := [(1, .var [.arr (.int .i64) 2 ((List.replicate 2 0) : (List Int))]), (0, .var [.arr (.int .i64) 6 x0]), (2, .row (.int .i64) r3)]) rfl rfl ?_
    refine row_len_o 2 (r3.length : Int) rfl rfl (fun hr4 => ?_)
    refine ao_read trivial (r_assign rfl) rfl ?_
    refine ao_read trivial (r_assign rfl) rfl ?_
    refine ao_nil ?_
    refine aq_then ?_
    refine aw_seq ?_
    refine aw_seq ?_
    refine aw_region ?_
    refine ao_read trivial (r_assign rfl) rfl ?_
    refine ao_nil ?_
    refine aq_then ?_
    refine aw_block ?_
    refine aw_loop (AL.sub (fr' := [(2, .ref 0 0), (4, .int .i64 0), (5, .os 1), (6, .int .i64 1)]) (H' := [(0, .var [.arr (.int .i64) 2 ((List.replicate 2 0) : (List Int))]), (1, .row (.int .i64) r3)]) (sub_mk (rn [(0, 1), (1, 2)]) (by exact ⟨ai rfl, ai rfl, ai rfl, ai rfl, trivial⟩) (by exact ⟨⟨_, rfl, ⟨rfl, trivial⟩⟩, ⟨_, rfl, rfl⟩, trivial⟩) (by rfl) (nk rfl)) (al_cnt (fun i6 (s5 : Int) => [(2, .ref 0 0), (4, .int .i64 s5), (5, .os 1), (6, .int .i64 i6)]) (fun i6 (s5 : Int) => [(0, .var [.arr (.int .i64) 2 ((List.replicate 2 0) : (List Int))]), (1, .row (.int .i64) r3)]) (fun d i6 (s5 : Int) => d = Int.toNat ((r3.length : Int) - i6) ∧ 1 ≤ i6) h ⟨rfl, (by (try simp only [List.length_set, List.length_append, List.length_cons, List.length_nil, List.length_replicate, List.length_take, List.length_drop]) <;> omega)⟩ (fun d7 i6 s5 hI h ih7 => ?_)))
    obtain ⟨hd, _⟩ := hI
    refine al_round ?_
    refine aw_seq ?_
    refine aw_seq ?_
    refine aw_region ?_
    refine ao_read trivial (r_move rfl) rfl ?_
    refine ao_read trivial (r_move rfl) rfl ?_
    refine ao_read trivial (r_len_osm (r3.length : Int) Try.underlying32 rfl rfl rfl) rfl ?_
    refine ao_read trivial (r_lss rfl rfl) rfl ?_
    refine ao_nil ?_
    refine aq_then ?_
    refine aw_cond rfl (fun hb9 => ?_) (fun hb9 => ?_)
    · have q10 := d_t hb9
      obtain ⟨d7, rfl⟩ : ∃ e, d7 = e + 1 := ⟨d7 - 1, by omega⟩
      replace h := is_cntS h
      refine aw_skip ?_
      refine aq_then ?_
      refine aw_seq ?_
      refine aw_block ?_
      obtain ⟨r12, r12h, h⟩ := is_bind h
      obtain ⟨g13, h⟩ := is_guard h
      refine aw_drawAll (by kernel_rfl) ?_
      refine an_read 0 (by kernel_rfl) (fun _ _ _ h => h) rfl (by kernel_rfl) trivial (r_move rfl) rfl ?_
      refine an_read 1 (by kernel_rfl) (fun _ _ _ h => h) rfl (by kernel_rfl) trivial (r_move rfl) rfl ?_
      refine an_scall 2 (by kernel_rfl) (fun _ _ _ h => h) rfl (by kernel_rfl) trivial (scall (c_spec_l8Sign (is_mk r12h)) rfl Try.func116 rfl rfl rfl rfl (fun σ => ⟨ad_ren rfl, trivial⟩)) rfl ?_
      refine an_read 3 (by kernel_rfl) (fun _ _ _ h => h) rfl (by kernel_rfl) trivial (r_mul rfl rfl) rfl ?_
      refine an_read 4 (by kernel_rfl) (fun _ _ _ h => h) rfl (by kernel_rfl) trivial (r_move rfl) rfl ?_
      refine an_read 5 (by kernel_rfl) (fun _ _ _ h => h) rfl (by kernel_rfl) trivial (r_move rfl) rfl ?_
      refine an_read 6 (by kernel_rfl) (fun _ _ _ h => h) rfl (by kernel_rfl) trivial (r_idxAddr_os Try.underlying32 Try.sizeOf3 rfl rfl rfl (show 0 ≤ i6 from by omega) (show i6 < (r3.length : Int) from by omega)) rfl ?_
      refine an_read 7 (by kernel_rfl) (fun _ _ _ h => h) rfl (by kernel_rfl) trivial (r_load_elem_int Try.isAgg3 Try.sizeOf3 rfl rfl (show i6.toNat < r3.length from by omega)) rfl ?_
      refine an_read 8 (by kernel_rfl) (fun _ _ _ h => h) rfl (by kernel_rfl) trivial (r_quo rfl rfl g13) rfl ?_
      refine an_read 9 (by kernel_rfl) (fun _ _ _ h => h) rfl (by kernel_rfl) trivial (r_sub rfl rfl) rfl ?_
      refine an_read 10 (by kernel_rfl) (fun _ _ _ h => h) rfl (by kernel_rfl) trivial (r_assign rfl) rfl ?_
      refine an_done rfl ?_
      refine aq_in ?_
      refine aq_then ?_
      refine aw_region ?_
      refine ao_read trivial (r_move rfl) rfl ?_
      refine ao_read trivial (r_addI rfl rfl (wrap_id (by omega) (by omega))) rfl ?_
      refine ao_read trivial (r_assign rfl) rfl ?_
      refine ao_nil ?_
      exact aq_again (AL.sub (sub_mk idn (by exact ⟨ai rfl, ai rfl, ai rfl, ai rfl, trivial⟩) (by exact ⟨⟨_, rfl, ⟨rfl, trivial⟩⟩, ⟨_, rfl, rfl⟩, trivial⟩) (by rfl) (nk rfl)) (ih7 d7 (i6 + 1) (IntKind.wrap .i64 (s5 - (IntKind.wrap .i64 ((IntKind.wrap .i64 (r12 * 360)).tdiv (r3.getD i6.toNat 0))))) (by omega) ⟨by omega, (by (try simp only [List.length_set, List.length_append, List.length_cons, List.length_nil, List.length_replicate, List.length_take, List.length_drop]) <;> omega)⟩ h))
    · have q11 := d_f hb9
      obtain rfl : d7 = 0 := by omega
      replace h := is_cnt0 h
      refine aw_exit ?_
      refine aq_then_exit ?_
      refine aq_then_exit ?_
      refine aq_in_exit ?_
      refine aq_then ?_
      refine aw_seq ?_
      refine aw_region ?_
      refine ao_read trivial (r_move rfl) rfl ?_
      obtain ⟨r14, r14h, h⟩ := is_bind h
      refine ao_scall trivial (scall (c_spec_l2Cut (is_mk r14h)) rfl Try.func79 rfl rfl rfl rfl (fun σ => ⟨ad_ren rfl, ad_ren rfl, trivial⟩)) rfl ?_
      refine ao_effS trivial (e_store rfl rfl rfl rfl Try.sizeOf29 rfl) ?_
      refine ao_read trivial (r_assign rfl) rfl ?_
      refine ao_nil ?_
      refine aq_then ?_
      refine aw_ret ?_
      refine aq_ret ?_
      obtain rfl := is_some h
      exact aq_finx (l := [.cell 2 29, .tmp 3]) (xs := [.v (.arr 2 (.int .i64)) r14, .bool true]) idn [.v (.arr 2 (.int .i64)) r14, .bool true] [] rfl (by exact ⟨⟨⟨_, _, rfl⟩, r_load_arr rfl Try.isAgg29 Try.sizeOf29 rfl rfl rfl⟩, rfl, trivial⟩) (by exact ⟨ad_ren rfl, ad_ren rfl, trivial⟩) (by exact trivial) rfl (nk rfl) rfl rfl ⟨rfl, rfl⟩
theorem c_laws_vSix {fu : Nat} {x0 : Int} {r : Int} (h : Is (p_laws_vSix fu x0) (some r)) :
    Scalar Try.prog 41 [.int .i64 x0] (.int .i64 r) := by
  unfold p_laws_vSix at h
  refine ac_enter ⟨13, 0⟩ Try.func41 rfl rfl rfl rfl rfl (fun Γ => ?_)
  refine aw_seq ?_
  refine aw_region ?_
  refine ao_read trivial (r_assign rfl) rfl ?_
  refine ao_nil ?_
  refine aq_then ?_
  refine aw_seq ?_
  refine aw_region ?_
  refine ao_read trivial (r_assign rfl) rfl ?_
  refine ao_nil ?_
  refine aq_then ?_
  refine aw_seq ?_
  refine aw_seq ?_
  refine aw_region ?_
  refine ao_read trivial (r_assign rfl) rfl ?_
  refine ao_nil ?_
  refine aq_then ?_
  refine aw_block ?_
  refine aw_loop (AL.sub (sub_mk idn (by exact ⟨ai rfl, ai rfl, ai rfl, trivial⟩) (by exact trivial) (by rfl) (nk rfl)) (al_whl (fun (s1 : Int × Int) => [(0, .int .i64 x0), (3, .int .i64 s1.1), (4, .int .i64 s1.2)]) (fun (s1 : Int × Int) => []) (fun (s1 : Int × Int) => True) h trivial (fun d3 s1 hI h ih3 => ?_)))
  replace h := is_whlS h
  refine al_round ?_
  refine aw_seq ?_
  refine aw_seq ?_
  refine aw_region ?_
  refine ao_read trivial (r_move rfl) rfl ?_
  refine ao_read trivial (r_move rfl) rfl ?_
  refine ao_read trivial (r_lss rfl rfl) rfl ?_
  refine ao_nil ?_
  refine aq_then ?_
  refine aw_cond rfl (fun hb5 => ?_) (fun hb5 => ?_)
  · have q6 := d_t hb5
    replace h := is_if (d_t hb5) h
    refine aw_skip ?_
    refine aq_then ?_
    refine aw_seq ?_
    refine aw_block ?_
    refine aw_region ?_
    refine ao_read trivial (r_move rfl) rfl ?_
    refine ao_read trivial (r_mul rfl rfl) rfl ?_
    refine ao_read trivial (r_assign rfl) rfl ?_
    refine ao_nil ?_
    refine aq_in ?_
    refine aq_then ?_
    refine aw_region ?_
    refine ao_read trivial (r_move rfl) rfl ?_
    refine ao_read trivial (r_add rfl rfl) rfl ?_
    refine ao_read trivial (r_assign rfl) rfl ?_
    refine ao_nil ?_
    exact aq_again (AL.sub (sub_mk idn (by exact ⟨ai rfl, ai rfl, ai rfl, trivial⟩) (by exact trivial) (by rfl) (nk rfl)) (ih3 ((IntKind.wrap .i64 (s1.1 * 6)), (IntKind.wrap .i64 (s1.2 + 1))) trivial h))
  · have q7 := d_f hb5
    replace h := is_else (d_f hb5) h
    refine aw_exit ?_
    refine aq_then_exit ?_
    refine aq_then_exit ?_
    refine aq_in_exit ?_
    refine aq_then ?_
    refine aw_seq ?_
    refine aw_region ?_
    refine ao_read trivial (r_move rfl) rfl ?_
    refine ao_read trivial (r_assign rfl) rfl ?_
    refine ao_nil ?_
    refine aq_then ?_
    refine aw_ret ?_
    refine aq_ret ?_
    obtain rfl := is_some h
    exact aq_finx (l := [.tmp 2]) (xs := [.int .i64 s1.1]) idn [.int .i64 s1.1] [] rfl (by exact ⟨rfl, trivial⟩) (by exact ⟨ad_ren rfl, trivial⟩) (by exact trivial) rfl (nk rfl) rfl rfl ⟨rfl, rfl⟩
theorem c_impl_areAll_6_int_1 {x0 : (List Int)} {r : Bool} (h : Is (p_impl_areAll_6_int_1 x0) r) :
    Scalar Try.prog 182 [.v (.arr 6 (.int .i64)) x0, .cav (.fn 97 [])] (.bool r) := by
  unfold p_impl_areAll_6_int_1 at h
  refine ac_enter ⟨8, 0⟩ Try.func182 rfl rfl rfl rfl rfl (fun Γ => ?_)
  refine aw_seq ?_
  refine aw_region ?_
  refine ao_eff trivial (e_box 0 rfl rfl rfl rfl rfl rfl) rfl ?_
  refine ao_read trivial (r_assign rfl) rfl ?_
  refine ao_nil ?_
  refine aq_then ?_
  refine aw_seq ?_
  refine aw_region ?_
  refine ao_read trivial (r_load_cav Try.isAgg104 rfl) rfl ?_
  refine ao_read trivial (r_load_arr rfl Try.isAgg47 Try.sizeOf47 rfl rfl rfl) rfl ?_
  refine ao_scall trivial (scall (c_impl_IsDie (is_mk (rfl : p_impl_IsDie x0 = _))) rfl Try.func97 rfl rfl rfl rfl (fun σ => ⟨ad_ren rfl, trivial⟩)) rfl ?_
  refine ao_read trivial (r_not rfl) rfl ?_
  refine ao_read trivial (r_assign rfl) rfl ?_
  refine ao_nil ?_
  refine aq_then ?_
  refine aw_ret ?_
  refine aq_ret ?_
  obtain rfl := is_eq h
  exact aq_finx (l := [.tmp 3]) (xs := [.bool (!(p_impl_IsDie x0))]) idn [.bool (!(p_impl_IsDie x0))] [] rfl (by exact ⟨rfl, trivial⟩) (by exact ⟨ad_ren rfl, trivial⟩) (by exact trivial) rfl (nk rfl) rfl rfl ⟨rfl, rfl⟩
theorem c_slices_IndexFunc_6_int_6_int {x0 : (List (List Int))} {r : Int} (h : Is (p_slices_IndexFunc_6_int_6_int x0) r) :
    Scalar Try.prog 188 [.v (.slice (.arr 6 (.int .i64))) x0, .fn 182 [.cav (.fn 97 [])]] (.int .i64 r) := by
  unfold p_slices_IndexFunc_6_int_6_int at h
  refine ac_enter ⟨19, 0⟩ Try.func188 rfl rfl rfl rfl rfl (fun Γ => ?_)
  refine sl_len_m 0 (x0.length : Int) rfl rfl (fun hl0 => ?_)
  refine aw_seq ?_
  refine aw_region ?_
  refine ao_read trivial (r_assign rfl) rfl ?_
  refine ao_nil ?_
  refine aq_then ?_
  refine aw_seq ?_
  refine aw_seq ?_
  refine aw_region ?_
  refine ao_read trivial (r_move rfl) rfl ?_
  refine ao_read trivial (r_len_vm (x0.length : Int) Try.underlying24 rfl rfl) rfl ?_
  refine ao_read trivial (r_move rfl) rfl ?_
  refine ao_nil ?_
  refine aq_then ?_
  refine aw_block ?_
  refine aw_loop (AL.sub (fr' := [(0, .v (.slice (.arr 6 (.int .i64))) x0), (1, .fn 182 [.cav (.fn 97 [])]), (7, .int .i64 (x0.length : Int)), (8, .int .i64 0)]) (H' := []) (sub_mk idn (by exact ⟨ai rfl, ai rfl, ai rfl, ai rfl, trivial⟩) (by exact trivial) (by rfl) (nk rfl)) (al_cnt (fun i2 (s1 : Unit) => [(0, .v (.slice (.arr 6 (.int .i64))) x0), (1, .fn 182 [.cav (.fn 97 [])]), (7, .int .i64 (x0.length : Int)), (8, .int .i64 i2)]) (fun i2 (s1 : Unit) => []) (fun d i2 (s1 : Unit) => d = Int.toNat ((x0.length : Int) - i2) ∧ 0 ≤ i2 ∧ i2 ≤ (x0.length : Int)) h ⟨rfl, (by (try simp only [List.length_set, List.length_append, List.length_cons, List.length_nil, List.length_replicate, List.length_take, List.length_drop]) <;> omega), (by (try simp only [List.length_set, List.length_append, List.length_cons, List.length_nil, List.length_replicate, List.length_take, List.length_drop]) <;> omega)⟩ (fun d3 i2 s1 hI h ih3 => ?_)))
  obtain ⟨hd, _, _⟩ := hI
  refine al_round ?_
  refine aw_seq ?_
  refine aw_region ?_
  refine ao_read trivial (r_lss rfl rfl) rfl ?_
  refine ao_nil ?_
  refine aq_then ?_
  refine aw_seq ?_
  refine aw_cond rfl (fun hb5 => ?_) (fun hb5 => ?_)
  · have q6 := d_t hb5
    obtain ⟨d3, rfl⟩ : ∃ e, d3 = e + 1 := ⟨d3 - 1, by omega⟩
    replace h := is_cntS h
    refine aw_skip ?_
    refine aq_then ?_
    refine aw_seq ?_
    refine aw_block ?_
    refine aw_seq ?_
    refine aw_region ?_
    refine ao_read trivial (r_move rfl) rfl ?_
    refine ao_read trivial (r_assign rfl) rfl ?_
    refine ao_nil ?_
    refine aq_then ?_
    refine aw_seq ?_
    refine aw_region ?_
    refine ao_read trivial (r_move rfl) rfl ?_
    refine ao_read trivial (r_move rfl) rfl ?_
    refine ao_read trivial (r_move rfl) rfl ?_
    refine ao_read trivial (r_idxAddr (t := (.arr 6 (.int .i64))) Try.underlying24 Try.sizeOf47 rfl rfl (show 0 ≤ i2 from by omega) (show i2 < (x0.length : Int) from by omega)) rfl ?_
    refine ao_read trivial (r_load_c (t := (.arr 6 (.int .i64))) Try.isAgg47 Try.sizeOf47 rfl) rfl ?_
    refine ao_scall trivial (scall (c_impl_areAll_6_int_1 (is_mk (rfl : p_impl_areAll_6_int_1 (x0.getD i2.toNat (List.replicate 6 0)) = _))) rfl Try.func182 rfl rfl rfl rfl (fun σ => ⟨ad_ren rfl, ad_ren rfl, trivial⟩)) rfl ?_
    refine ao_nil ?_
    refine aq_then ?_
    refine aw_cond rfl (fun hb8 => ?_) (fun hb8 => ?_)
    · replace h := is_if hb8 h
      refine aw_seq ?_
      refine aw_region ?_
      refine ao_read trivial (r_move rfl) rfl ?_
      refine ao_read trivial (r_assign rfl) rfl ?_
      refine ao_nil ?_
      refine aq_then ?_
      refine aw_ret ?_
      refine aq_in_ret ?_
      refine aq_then_ret ?_
      refine aq_then_ret ?_
      refine aq_in_ret ?_
      refine aq_then_ret ?_
      refine aq_ret ?_
      obtain rfl := is_eq h
      exact aq_finx (l := [.tmp 4]) (xs := [.int .i64 i2]) idn [.int .i64 i2] [] rfl (by exact ⟨rfl, trivial⟩) (by exact ⟨ad_ren rfl, trivial⟩) (by exact trivial) rfl (nk rfl) rfl rfl ⟨rfl, rfl⟩
    · replace h := is_else (ne_t hb8) h
      refine aw_skip ?_
      refine aq_in ?_
      refine aq_then ?_
      refine aw_region ?_
      refine ao_read trivial (r_addI rfl rfl (wrap_id (by omega) (by omega))) rfl ?_
      refine ao_read trivial (r_move rfl) rfl ?_
      refine ao_nil ?_
      exact aq_again (AL.sub (sub_mk idn (by exact ⟨ai rfl, ai rfl, ai rfl, ai rfl, trivial⟩) (by exact trivial) (by rfl) (nk rfl)) (ih3 d3 (i2 + 1) () (by omega) ⟨by omega, (by (try simp only [List.length_set, List.length_append, List.length_cons, List.length_nil, List.length_replicate, List.length_take, List.length_drop]) <;> omega), (by (try simp only [List.length_set, List.length_append, List.length_cons, List.length_nil, List.length_replicate, List.length_take, List.length_drop]) <;> omega)⟩ h))
  · have q7 := d_f hb5
    obtain rfl : d3 = 0 := by omega
    replace h := is_cnt0 h
    refine aw_exit ?_
    refine aq_then_exit ?_
    refine aq_then_exit ?_
    refine aq_in_exit ?_
    refine aq_then ?_
    refine aw_seq ?_
    refine aw_region ?_
    refine ao_read trivial (r_assign rfl) rfl ?_
    refine ao_nil ?_
    refine aq_then ?_
    refine aw_ret ?_
    refine aq_ret ?_
    obtain rfl := is_eq h
    exact aq_finx (l := [.tmp 4]) (xs := [.int .i64 (-1)]) idn [.int .i64 (-1)] [] rfl (by exact ⟨rfl, trivial⟩) (by exact ⟨ad_ren rfl, trivial⟩) (by exact trivial) rfl (nk rfl) rfl rfl ⟨rfl, rfl⟩
theorem c_slices_ContainsFunc_6_int_6_int {x0 : (List (List Int))} {r : Bool} (h : Is (p_slices_ContainsFunc_6_int_6_int x0) r) :
    Scalar Try.prog 181 [.v (.slice (.arr 6 (.int .i64))) x0, .fn 182 [.cav (.fn 97 [])]] (.bool r) := by
  unfold p_slices_ContainsFunc_6_int_6_int at h
  refine ac_enter ⟨9, 0⟩ Try.func181 rfl rfl rfl rfl rfl (fun Γ => ?_)
  refine sl_len_m 0 (x0.length : Int) rfl rfl (fun hl0 => ?_)
  refine aw_seq ?_
  refine aw_region ?_
  refine ao_read trivial (r_assign rfl) rfl ?_
  refine ao_nil ?_
  refine aq_then ?_
  refine aw_seq ?_
  refine aw_region ?_
  refine ao_read trivial (r_move rfl) rfl ?_
  refine ao_read trivial (r_move rfl) rfl ?_
  refine ao_scall trivial (scall (c_slices_IndexFunc_6_int_6_int (is_mk (rfl : p_slices_IndexFunc_6_int_6_int x0 = _))) rfl Try.func188 rfl rfl rfl rfl (fun σ => ⟨ad_ren rfl, ad_ren rfl, trivial⟩)) rfl ?_
  refine ao_read trivial (r_geq rfl rfl) rfl ?_
  refine ao_read trivial (r_assign rfl) rfl ?_
  refine ao_nil ?_
  refine aq_then ?_
  refine aw_ret ?_
  refine aq_ret ?_
  obtain rfl := is_eq h
  exact aq_finx (l := [.tmp 4]) (xs := [.bool (decide (0 ≤ (p_slices_IndexFunc_6_int_6_int x0)))]) idn [.bool (decide (0 ≤ (p_slices_IndexFunc_6_int_6_int x0)))] [] rfl (by exact ⟨rfl, trivial⟩) (by exact ⟨ad_ren rfl, trivial⟩) (by exact trivial) rfl (nk rfl) rfl rfl ⟨rfl, rfl⟩
theorem c_impl_areAll_6_int {x0 : (List (List Int))} {r : Bool} (h : Is (p_impl_areAll_6_int x0) r) :
    Scalar Try.prog 158 [.v (.slice (.arr 6 (.int .i64))) x0, .fn 97 []] (.bool r) := by
  unfold p_impl_areAll_6_int at h
  refine ac_enter ⟨9, 0⟩ Try.func158 rfl rfl rfl rfl rfl (fun Γ => ?_)
  refine sl_len_m 0 (x0.length : Int) rfl rfl (fun hl0 => ?_)
  refine aw_seq ?_
  refine aw_region ?_
  refine ao_eff trivial (e_box 0 rfl rfl rfl rfl rfl rfl) rfl ?_
  refine ao_read trivial (r_assign rfl) rfl ?_
  refine ao_nil ?_
  refine aq_then ?_
  refine aw_seq ?_
  refine aw_region ?_
  refine ao_read trivial (r_move rfl) rfl ?_
  refine ao_read trivial (r_makeFunc (cs := [.tmp 3]) rfl) rfl ?_
  refine ao_scall trivial (scall (c_slices_ContainsFunc_6_int_6_int (is_mk (rfl : p_slices_ContainsFunc_6_int_6_int x0 = _))) rfl Try.func181 rfl rfl rfl rfl (fun σ => ⟨ad_ren rfl, ad_fn ⟨ad_refc0 rfl rfl (ad_ren rfl) rfl, trivial⟩, trivial⟩)) rfl ?_
  refine ao_read trivial (r_not rfl) rfl ?_
  refine ao_read trivial (r_assign rfl) rfl ?_
  refine ao_nil ?_
  refine aq_then ?_
  refine aw_ret ?_
  refine aq_ret ?_
  obtain rfl := is_eq h
  exact aq_finx (l := [.tmp 4]) (xs := [.bool (!(p_slices_ContainsFunc_6_int_6_int x0))]) idn [.bool (!(p_slices_ContainsFunc_6_int_6_int x0))] [] rfl (by exact ⟨rfl, trivial⟩) (by exact ⟨ad_ren rfl, trivial⟩) (by exact trivial) rfl (nk rfl) rfl rfl ⟨rfl, rfl⟩
theorem c_impl_IsPool {x0 : (List (List Int))} {r : Bool} (h : Is (p_impl_IsPool x0) r) :
    Scalar Try.prog 90 [.v (.slice (.arr 6 (.int .i64))) x0] (.bool r) := by
  unfold p_impl_IsPool at h
  refine ac_enter ⟨10, 0⟩ Try.func90 rfl rfl rfl rfl rfl (fun Γ => ?_)
  refine sl_len_m 0 (x0.length : Int) rfl rfl (fun hl0 => ?_)
  refine aw_seq ?_
  refine aw_region ?_
  refine ao_read trivial (r_assign rfl) rfl ?_
  refine ao_nil ?_
  refine aq_then ?_
  refine aw_seq ?_
  refine aw_region ?_
  refine ao_read trivial (r_move rfl) rfl ?_
  refine ao_read trivial (r_len_vm (x0.length : Int) Try.underlying24 rfl rfl) rfl ?_
  refine ao_scall trivial (scall (c_impl_within (is_mk (rfl : p_impl_within (x0.length : Int) 1 4 = _))) rfl Try.func85 rfl rfl rfl rfl (fun σ => ⟨ad_ren rfl, ad_ren rfl, ad_ren rfl, trivial⟩)) rfl ?_
  refine ao_read trivial (r_move rfl) rfl ?_
  refine ao_readG (x := .v (.slice (.arr 6 (.int .i64))) x0) rfl (GV.T rfl) (fun hg1 => r_move rfl) rfl ?_
  refine ao_scallG (r := .bool (p_impl_areAll_6_int x0)) rfl (GV.T rfl) (fun hg2 => SCall.strip 7 rfl (hg2) (scall (c_impl_areAll_6_int (is_mk (rfl : p_impl_areAll_6_int x0 = _))) rfl Try.func158 rfl rfl rfl rfl (fun σ => ⟨ad_ren rfl, ad_ren rfl, trivial⟩))) rfl ?_
  refine ao_read trivial (r_andB rfl rfl) rfl ?_
  refine ao_read trivial (r_assign rfl) rfl ?_
  refine ao_nil ?_
  refine aq_then ?_
  refine aw_ret ?_
  refine aq_ret ?_
  obtain rfl := is_eq h
  exact aq_finx (l := [.tmp 2]) (xs := [.bool ((p_impl_within (x0.length : Int) 1 4) && (p_impl_areAll_6_int x0))]) idn [.bool ((p_impl_within (x0.length : Int) 1 4) && (p_impl_areAll_6_int x0))] [] rfl (by exact ⟨rfl, trivial⟩) (by exact ⟨ad_ren rfl, trivial⟩) (by exact trivial) rfl (nk rfl) rfl rfl ⟨rfl, rfl⟩
theorem c_impl_sums {x0 : (List (List Int))} {r : (List Int)} (h : Is (p_impl_sums x0) (some r)) :
    Scalar Try.prog 118 [.v (.slice (.arr 6 (.int .i64))) x0] (.v (.arr 121 (.int .i64)) r) := by
  unfold p_impl_sums at h
  refine ac_enter ⟨42, 0⟩ Try.func118 rfl rfl rfl rfl rfl (fun Γ => ?_)
  refine sl_len_m 0 (x0.length : Int) rfl rfl (fun hl0 => ?_)
  refine aw_seq ?_
  refine aw_region ?_
  refine ao_eff trivial (e_alloc 0 (y := .v (.arr 121 (.int .i64)) ((List.replicate 121 0) : (List Int))) Try.zeroValue50 (fun ρ h M => ra_zero_arr (t := (.int .i64)) rfl) rfl rfl rfl rfl rfl) rfl ?_
  refine ao_nil ?_
  refine aq_then ?_
  refine aw_seq ?_
  refine aw_region ?_
  refine ao_eff trivial (e_alloc 1 (y := .v (.arr 121 (.int .i64)) ((List.replicate 121 0) : (List Int))) Try.zeroValue50 (fun ρ h M => ra_zero_arr (t := (.int .i64)) rfl) rfl rfl rfl rfl rfl) rfl ?_
  refine ao_nil ?_
  refine aq_then ?_
  refine aw_seq ?_
  refine aw_region ?_
  refine ao_read trivial (r_idxAddr_arr (i := 0) Try.underlying50 Try.sizeOf3 rfl rfl (show 0 ≤ 0 from by omega) (show 0 < (121 : Int) from by omega)) rfl ?_
  refine ao_effS trivial (e_store_elema_int Try.sizeOf3 rfl rfl rfl rfl (show 0 < 121 from by omega) rfl) ?_
  refine ao_nil ?_
  refine aq_then ?_
  refine aw_seq ?_
  refine aw_seq ?_
  refine aw_region ?_
  refine ao_read trivial (r_move rfl) rfl ?_
  refine ao_read trivial (r_len_vm (x0.length : Int) Try.underlying24 rfl rfl) rfl ?_
  refine ao_read trivial (r_move rfl) rfl ?_
  refine ao_nil ?_
  refine aq_then ?_
  refine aw_block ?_
  refine aw_loop (AL.sub (fr' := [(2, .ref 0 0), (3, .ref 1 0), (12, .v (.slice (.arr 6 (.int .i64))) x0), (13, .int .i64 (x0.length : Int)), (14, .int .i64 0)]) (H' := [(0, .var [.arr (.int .i64) 121 ((List.replicate 121 0) : (List Int))]), (1, .var [.arr (.int .i64) 121 (((List.replicate 121 0).set 0 1) : (List Int))])]) (sub_mk idn (by exact ⟨ai rfl, ai rfl, ai rfl, ai rfl, ai rfl, trivial⟩) (by exact ⟨⟨_, rfl, ⟨rfl, trivial⟩⟩, ⟨_, rfl, ⟨rfl, trivial⟩⟩, trivial⟩) (by rfl) (nk rfl)) (al_cnt (fun i2 (s1 : (List Int)) => [(2, .ref 0 0), (3, .ref 1 0), (12, .v (.slice (.arr 6 (.int .i64))) x0), (13, .int .i64 (x0.length : Int)), (14, .int .i64 i2)]) (fun i2 (s1 : (List Int)) => [(0, .var [.arr (.int .i64) 121 ((List.replicate 121 0) : (List Int))]), (1, .var [.arr (.int .i64) 121 s1])]) (fun d i2 (s1 : (List Int)) => d = Int.toNat ((x0.length : Int) - i2) ∧ 0 ≤ i2 ∧ (s1.length : Int) = 121 ∧ i2 ≤ (x0.length : Int)) h ⟨rfl, (by (try simp only [List.length_set, List.length_append, List.length_cons, List.length_nil, List.length_replicate, List.length_take, List.length_drop]) <;> omega), (by (try simp only [List.length_set, List.length_append, List.length_cons, List.length_nil, List.length_replicate, List.length_take, List.length_drop]) <;> omega), (by (try simp only [List.length_set, List.length_append, List.length_cons, List.length_nil, List.length_replicate, List.length_take, List.length_drop]) <;> omega)⟩ (fun d3 i2 s1 hI h ih3 => ?_)))
  obtain ⟨hd, _, _, _⟩ := hI
  refine al_round ?_
  refine aw_seq ?_
  refine aw_region ?_
  refine ao_read trivial (r_lss rfl rfl) rfl ?_
  refine ao_nil ?_
  refine aq_then ?_
  refine aw_seq ?_
  refine aw_cond rfl (fun hb5 => ?_) (fun hb5 => ?_)
  · have q6 := d_t hb5
    obtain ⟨d3, rfl⟩ : ∃ e, d3 = e + 1 := ⟨d3 - 1, by omega⟩
    replace h := is_cntS h
    refine aw_skip ?_
    refine aq_then ?_
    refine aw_seq ?_
    refine aw_block ?_
    refine aw_seq ?_
    refine aw_region ?_
    refine ao_read trivial (r_idxAddr (t := (.arr 6 (.int .i64))) Try.underlying24 Try.sizeOf47 rfl rfl (show 0 ≤ i2 from by omega) (show i2 < (x0.length : Int) from by omega)) rfl ?_
    refine ao_read trivial (r_load_c (t := (.arr 6 (.int .i64))) Try.isAgg47 Try.sizeOf47 rfl) rfl ?_
    refine ao_eff trivial (e_alloc 2 (y := .v (.arr 6 (.int .i64)) ((List.replicate 6 0) : (List Int))) Try.zeroValue47 (fun ρ h M => ra_zero_arr (t := (.int .i64)) rfl) rfl rfl rfl rfl rfl) rfl ?_
    refine ao_effS trivial (e_store rfl rfl rfl rfl Try.sizeOf47 rfl) ?_
    refine ao_nil ?_
    refine aq_then ?_
    refine aw_seq ?_
    refine aw_region ?_
    refine ao_eff trivial (e_alloc 3 (y := .v (.arr 121 (.int .i64)) ((List.replicate 121 0) : (List Int))) Try.zeroValue50 (fun ρ h M => ra_zero_arr (t := (.int .i64)) rfl) rfl rfl rfl rfl rfl) rfl ?_
    refine ao_nil ?_
    refine aq_then ?_
    refine aw_seq ?_
    refine aw_seq ?_
    refine aw_region ?_
    refine ao_read trivial (r_load_arr rfl Try.isAgg50 Try.sizeOf50 rfl rfl rfl) rfl ?_
    refine ao_read trivial (r_move rfl) rfl ?_
    refine ao_nil ?_
    refine aq_then ?_
    refine aw_block ?_
    refine aw_loop (AL.sub (fr' := [(2, .ref 0 0), (3, .ref 1 0), (5, .ref 2 0), (6, .ref 3 0), (12, .v (.slice (.arr 6 (.int .i64))) x0), (13, .int .i64 (x0.length : Int)), (14, .int .i64 i2), (18, .v (.arr 121 (.int .i64)) s1), (19, .int .i64 0)]) (H' := [(0, .var [.arr (.int .i64) 121 ((List.replicate 121 0) : (List Int))]), (1, .var [.arr (.int .i64) 121 s1]), (2, .var [.arr (.int .i64) 6 ((x0.getD i2.toNat (List.replicate 6 0)) : (List Int))]), (3, .var [.arr (.int .i64) 121 ((List.replicate 121 0) : (List Int))])]) (sub_mk idn (by exact ⟨ai rfl, ai rfl, ai rfl, ai rfl, ai rfl, ai rfl, ai rfl, ai rfl, ai rfl, trivial⟩) (by exact ⟨⟨_, rfl, ⟨rfl, trivial⟩⟩, ⟨_, rfl, ⟨rfl, trivial⟩⟩, ⟨_, rfl, ⟨rfl, trivial⟩⟩, ⟨_, rfl, ⟨rfl, trivial⟩⟩, trivial⟩) (by rfl) (nk rfl)) (al_cnt (fun i9 (s8 : (List Int)) => [(2, .ref 0 0), (3, .ref 1 0), (5, .ref 2 0), (6, .ref 3 0), (12, .v (.slice (.arr 6 (.int .i64))) x0), (13, .int .i64 (x0.length : Int)), (14, .int .i64 i2), (18, .v (.arr 121 (.int .i64)) s1), (19, .int .i64 i9)]) (fun i9 (s8 : (List Int)) => [(0, .var [.arr (.int .i64) 121 ((List.replicate 121 0) : (List Int))]), (1, .var [.arr (.int .i64) 121 s1]), (2, .var [.arr (.int .i64) 6 ((x0.getD i2.toNat (List.replicate 6 0)) : (List Int))]), (3, .var [.arr (.int .i64) 121 s8])]) (fun d i9 (s8 : (List Int)) => d = Int.toNat (121 - i9) ∧ 0 ≤ i9 ∧ (s8.length : Int) = 121 ∧ i9 ≤ 121) h ⟨rfl, (by (try simp only [List.length_set, List.length_append, List.length_cons, List.length_nil, List.length_replicate, List.length_take, List.length_drop]) <;> omega), (by (try simp only [List.length_set, List.length_append, List.length_cons, List.length_nil, List.length_replicate, List.length_take, List.length_drop]) <;> omega), (by (try simp only [List.length_set, List.length_append, List.length_cons, List.length_nil, List.length_replicate, List.length_take, List.length_drop]) <;> omega)⟩ (fun d10 i9 s8 hI h ih10 => ?_)))
    obtain ⟨hd, _, _, _⟩ := hI
    refine al_round ?_
    refine aw_seq ?_
    refine aw_region ?_
    refine ao_read trivial (r_lss rfl rfl) rfl ?_
    refine ao_nil ?_
    refine aq_then ?_
    refine aw_seq ?_
    refine aw_cond rfl (fun hb12 => ?_) (fun hb12 => ?_)
    · have q13 := d_t hb12
      obtain ⟨d10, rfl⟩ : ∃ e, d10 = e + 1 := ⟨d10 - 1, by omega⟩
      replace h := is_cntS h
      refine aw_skip ?_
      refine aq_then ?_
      refine aw_seq ?_
      refine aw_block ?_
      refine aw_seq ?_
      refine aw_region ?_
      refine ao_read trivial (r_move rfl) rfl ?_
      refine ao_read trivial (r_index_a (t := (.int .i64)) Try.underlying50 Try.isAgg3 Try.sizeOf3 rfl rfl (by omega) (by omega)) rfl ?_
      refine ao_read trivial (r_assign rfl) rfl ?_
      refine ao_read trivial (r_assign rfl) rfl ?_
      refine ao_nil ?_
      refine aq_then ?_
      refine aw_seq ?_
      refine aw_seq ?_
      refine aw_region ?_
      refine ao_read trivial (r_move rfl) rfl ?_
      refine ao_read trivial (r_eql rfl rfl) rfl ?_
      refine ao_nil ?_
      refine aq_then ?_
      refine aw_cond rfl (fun hb15 => ?_) (fun hb15 => ?_)
      · have q16 : (s1.getD i9.toNat 0) = 0 := d_t hb15
        replace h := is_if (d_t hb15) h
        refine aw_exit ?_
        refine aq_then_exit ?_
        refine aq_in_exit ?_
        refine aq_then ?_
        refine aw_region ?_
        refine ao_read trivial (r_addI rfl rfl (wrap_id (by omega) (by omega))) rfl ?_
        refine ao_read trivial (r_move rfl) rfl ?_
        refine ao_nil ?_
        exact aq_again (AL.sub (sub_mk idn (by exact ⟨ai rfl, ai rfl, ai rfl, ai rfl, ai rfl, ai rfl, ai rfl, ai rfl, ai rfl, trivial⟩) (by exact ⟨⟨_, rfl, ⟨rfl, trivial⟩⟩, ⟨_, rfl, ⟨rfl, trivial⟩⟩, ⟨_, rfl, ⟨rfl, trivial⟩⟩, ⟨_, rfl, ⟨rfl, trivial⟩⟩, trivial⟩) (by rfl) (nk rfl)) (ih10 d10 (i9 + 1) s8 (by omega) ⟨by omega, (by (try simp only [List.length_set, List.length_append, List.length_cons, List.length_nil, List.length_replicate, List.length_take, List.length_drop]) <;> omega), (by (try simp only [List.length_set, List.length_append, List.length_cons, List.length_nil, List.length_replicate, List.length_take, List.length_drop]) <;> omega), (by (try simp only [List.length_set, List.length_append, List.length_cons, List.length_nil, List.length_replicate, List.length_take, List.length_drop]) <;> omega)⟩ h))
      · have q17 : ¬ ((s1.getD i9.toNat 0) = 0) := d_f hb15
        replace h := is_else (d_f hb15) h
        refine aw_skip ?_
        refine aq_then ?_
        refine aw_seq ?_
        refine aw_region ?_
        refine ao_read trivial (r_load_arr rfl Try.isAgg47 Try.sizeOf47 rfl rfl rfl) rfl ?_
        refine ao_read trivial (r_move rfl) rfl ?_
        refine ao_nil ?_
        refine aq_then ?_
        refine aw_block ?_
        refine aw_loop (AL.sub (fr' := [(2, .ref 0 0), (3, .ref 1 0), (5, .ref 2 0), (6, .ref 3 0), (7, .int .i64 i9), (8, .int .i64 (s1.getD i9.toNat 0)), (12, .v (.slice (.arr 6 (.int .i64))) x0), (13, .int .i64 (x0.length : Int)), (14, .int .i64 i2), (18, .v (.arr 121 (.int .i64)) s1), (19, .int .i64 i9), (25, .v (.arr 6 (.int .i64)) ((x0.getD i2.toNat (List.replicate 6 0)) : (List Int))), (26, .int .i64 0)]) (H' := [(0, .var [.arr (.int .i64) 121 ((List.replicate 121 0) : (List Int))]), (1, .var [.arr (.int .i64) 121 s1]), (2, .var [.arr (.int .i64) 6 ((x0.getD i2.toNat (List.replicate 6 0)) : (List Int))]), (3, .var [.arr (.int .i64) 121 s8])]) (sub_mk idn (by exact ⟨ai rfl, ai rfl, ai rfl, ai rfl, ai rfl, ai rfl, ai rfl, ai rfl, ai rfl, ai rfl, ai rfl, ai rfl, ai rfl, trivial⟩) (by exact ⟨⟨_, rfl, ⟨rfl, trivial⟩⟩, ⟨_, rfl, ⟨rfl, trivial⟩⟩, ⟨_, rfl, ⟨rfl, trivial⟩⟩, ⟨_, rfl, ⟨rfl, trivial⟩⟩, trivial⟩) (by rfl) (nk rfl)) (al_cnt (fun i19 (s18 : (List Int)) => [(2, .ref 0 0), (3, .ref 1 0), (5, .ref 2 0), (6, .ref 3 0), (7, .int .i64 i9), (8, .int .i64 (s1.getD i9.toNat 0)), (12, .v (.slice (.arr 6 (.int .i64))) x0), (13, .int .i64 (x0.length : Int)), (14, .int .i64 i2), (18, .v (.arr 121 (.int .i64)) s1), (19, .int .i64 i9), (25, .v (.arr 6 (.int .i64)) ((x0.getD i2.toNat (List.replicate 6 0)) : (List Int))), (26, .int .i64 i19)]) (fun i19 (s18 : (List Int)) => [(0, .var [.arr (.int .i64) 121 ((List.replicate 121 0) : (List Int))]), (1, .var [.arr (.int .i64) 121 s1]), (2, .var [.arr (.int .i64) 6 ((x0.getD i2.toNat (List.replicate 6 0)) : (List Int))]), (3, .var [.arr (.int .i64) 121 s18])]) (fun d i19 (s18 : (List Int)) => d = Int.toNat (6 - i19) ∧ 0 ≤ i19 ∧ (s18.length : Int) = 121 ∧ i19 ≤ 6) h ⟨rfl, (by (try simp only [List.length_set, List.length_append, List.length_cons, List.length_nil, List.length_replicate, List.length_take, List.length_drop]) <;> omega), (by (try simp only [List.length_set, List.length_append, List.length_cons, List.length_nil, List.length_replicate, List.length_take, List.length_drop]) <;> omega), (by (try simp only [List.length_set, List.length_append, List.length_cons, List.length_nil, List.length_replicate, List.length_take, List.length_drop]) <;> omega)⟩ (fun d20 i19 s18 hI h ih20 => ?_)))
        obtain ⟨hd, _, _, _⟩ := hI
        refine al_round ?_
        refine aw_seq ?_
        refine aw_region ?_
        refine ao_read trivial (r_lss rfl rfl) rfl ?_
        refine ao_nil ?_
        refine aq_then ?_
        refine aw_seq ?_
        refine aw_cond rfl (fun hb22 => ?_) (fun hb22 => ?_)
        · have q23 := d_t hb22
          obtain ⟨d20, rfl⟩ : ∃ e, d20 = e + 1 := ⟨d20 - 1, by omega⟩
          replace h := is_cntS h
          refine aw_skip ?_
          refine aq_then ?_
          refine aw_seq ?_
          refine aw_block ?_
          refine aw_seq ?_
          refine aw_region ?_
          refine ao_read trivial (r_index_a (t := (.int .i64)) Try.underlying47 Try.isAgg3 Try.sizeOf3 rfl rfl (by omega) (by omega)) rfl ?_
          refine ao_read trivial (r_assign rfl) rfl ?_
          refine ao_nil ?_
          refine aq_then ?_
          refine aw_region ?_
          refine ao_read trivial (r_move rfl) rfl ?_
          refine ao_read trivial (r_move rfl) rfl ?_
          refine ao_read trivial (r_add rfl rfl) rfl ?_
          obtain ⟨g25, h⟩ := is_guard h
          obtain ⟨g26, h⟩ := is_guard h
          refine ao_read trivial (r_idxAddr_arr (i := (IntKind.wrap .i64 (i9 + ((x0.getD i2.toNat (List.replicate 6 0)).getD i19.toNat 0)))) Try.underlying50 Try.sizeOf3 rfl rfl (show 0 ≤ (IntKind.wrap .i64 (i9 + ((x0.getD i2.toNat (List.replicate 6 0)).getD i19.toNat 0))) from by (try simp only [List.length_replicate]) <;> omega) (show (IntKind.wrap .i64 (i9 + ((x0.getD i2.toNat (List.replicate 6 0)).getD i19.toNat 0))) < (121 : Int) from by (try simp only [List.length_replicate]) <;> omega)) rfl ?_
          refine ao_read trivial (r_load_elema_int Try.isAgg3 Try.sizeOf3 rfl rfl rfl (show (IntKind.wrap .i64 (i9 + ((x0.getD i2.toNat (List.replicate 6 0)).getD i19.toNat 0))).toNat < 121 from by (try simp only [List.length_replicate]) <;> omega)) rfl ?_
          refine ao_read trivial (r_move rfl) rfl ?_
          refine ao_read trivial (r_add rfl rfl) rfl ?_
          refine ao_read trivial (r_idxAddr_arr (i := (IntKind.wrap .i64 (i9 + ((x0.getD i2.toNat (List.replicate 6 0)).getD i19.toNat 0)))) Try.underlying50 Try.sizeOf3 rfl rfl (show 0 ≤ (IntKind.wrap .i64 (i9 + ((x0.getD i2.toNat (List.replicate 6 0)).getD i19.toNat 0))) from by (try simp only [List.length_replicate]) <;> omega) (show (IntKind.wrap .i64 (i9 + ((x0.getD i2.toNat (List.replicate 6 0)).getD i19.toNat 0))) < (121 : Int) from by (try simp only [List.length_replicate]) <;> omega)) rfl ?_
          refine ao_effS trivial (e_store_elema_int Try.sizeOf3 rfl rfl rfl rfl (show (IntKind.wrap .i64 (i9 + ((x0.getD i2.toNat (List.replicate 6 0)).getD i19.toNat 0))).toNat < 121 from by (try simp only [List.length_replicate]) <;> omega) rfl) ?_
          refine ao_nil ?_
          refine aq_in ?_
          refine aq_then ?_
          refine aw_region ?_
          refine ao_read trivial (r_addI rfl rfl (wrap_id (by omega) (by omega))) rfl ?_
          refine ao_read trivial (r_move rfl) rfl ?_
          refine ao_nil ?_
          exact aq_again (AL.sub (sub_mk idn (by exact ⟨ai rfl, ai rfl, ai rfl, ai rfl, ai rfl, ai rfl, ai rfl, ai rfl, ai rfl, ai rfl, ai rfl, ai rfl, ai rfl, trivial⟩) (by exact ⟨⟨_, rfl, ⟨rfl, trivial⟩⟩, ⟨_, rfl, ⟨rfl, trivial⟩⟩, ⟨_, rfl, ⟨rfl, trivial⟩⟩, ⟨_, rfl, ⟨rfl, trivial⟩⟩, trivial⟩) (by rfl) (nk rfl)) (ih20 d20 (i19 + 1) (s18.set (IntKind.wrap .i64 (i9 + ((x0.getD i2.toNat (List.replicate 6 0)).getD i19.toNat 0))).toNat (IntKind.wrap .i64 ((s18.getD (IntKind.wrap .i64 (i9 + ((x0.getD i2.toNat (List.replicate 6 0)).getD i19.toNat 0))).toNat 0) + (s1.getD i9.toNat 0)))) (by omega) ⟨by omega, (by (try simp only [List.length_set, List.length_append, List.length_cons, List.length_nil, List.length_replicate, List.length_take, List.length_drop]) <;> omega), (by (try simp only [List.length_set, List.length_append, List.length_cons, List.length_nil, List.length_replicate, List.length_take, List.length_drop]) <;> omega), (by (try simp only [List.length_set, List.length_append, List.length_cons, List.length_nil, List.length_replicate, List.length_take, List.length_drop]) <;> omega)⟩ h))
        · have q24 := d_f hb22
          obtain rfl : d20 = 0 := by omega
          replace h := is_cnt0 h
          refine aw_exit ?_
          refine aq_then_exit ?_
          refine aq_then_exit ?_
          refine aq_in_exit ?_
          refine aq_in ?_
          refine aq_then ?_
          refine aw_region ?_
          refine ao_read trivial (r_addI rfl rfl (wrap_id (by omega) (by omega))) rfl ?_
          refine ao_read trivial (r_move rfl) rfl ?_
          refine ao_nil ?_
          exact aq_again (AL.sub (sub_mk idn (by exact ⟨ai rfl, ai rfl, ai rfl, ai rfl, ai rfl, ai rfl, ai rfl, ai rfl, ai rfl, trivial⟩) (by exact ⟨⟨_, rfl, ⟨rfl, trivial⟩⟩, ⟨_, rfl, ⟨rfl, trivial⟩⟩, ⟨_, rfl, ⟨rfl, trivial⟩⟩, ⟨_, rfl, ⟨rfl, trivial⟩⟩, trivial⟩) (by rfl) (nk rfl)) (ih10 d10 (i9 + 1) s18 (by omega) ⟨by omega, (by (try simp only [List.length_set, List.length_append, List.length_cons, List.length_nil, List.length_replicate, List.length_take, List.length_drop]) <;> omega), (by (try simp only [List.length_set, List.length_append, List.length_cons, List.length_nil, List.length_replicate, List.length_take, List.length_drop]) <;> omega), (by (try simp only [List.length_set, List.length_append, List.length_cons, List.length_nil, List.length_replicate, List.length_take, List.length_drop]) <;> omega)⟩ h))
    · have q14 := d_f hb12
      obtain rfl : d10 = 0 := by omega
      replace h := is_cnt0 h
      refine aw_exit ?_
      refine aq_then_exit ?_
      refine aq_then_exit ?_
      refine aq_in_exit ?_
      refine aq_then ?_
      refine aw_region ?_
      refine ao_read trivial (r_load_arr rfl Try.isAgg50 Try.sizeOf50 rfl rfl rfl) rfl ?_
      refine ao_effS trivial (e_store rfl rfl rfl rfl Try.sizeOf50 rfl) ?_
      refine ao_nil ?_
      refine aq_in ?_
      refine aq_then ?_
      refine aw_region ?_
      refine ao_read trivial (r_addI rfl rfl (wrap_id (by omega) (by omega))) rfl ?_
      refine ao_read trivial (r_move rfl) rfl ?_
      refine ao_nil ?_
      exact aq_again (AL.sub (sub_mk idn (by exact ⟨ai rfl, ai rfl, ai rfl, ai rfl, ai rfl, trivial⟩) (by exact ⟨⟨_, rfl, ⟨rfl, trivial⟩⟩, ⟨_, rfl, ⟨rfl, trivial⟩⟩, trivial⟩) (by rfl) (nk rfl)) (ih3 d3 (i2 + 1) s8 (by omega) ⟨by omega, (by (try simp only [List.length_set, List.length_append, List.length_cons, List.length_nil, List.length_replicate, List.length_take, List.length_drop]) <;> omega), (by (try simp only [List.length_set, List.length_append, List.length_cons, List.length_nil, List.length_replicate, List.length_take, List.length_drop]) <;> omega), (by (try simp only [List.length_set, List.length_append, List.length_cons, List.length_nil, List.length_replicate, List.length_take, List.length_drop]) <;> omega)⟩ h))
  · have q7 := d_f hb5
    obtain rfl : d3 = 0 := by omega
    replace h := is_cnt0 h
    refine aw_exit ?_
    refine aq_then_exit ?_
    refine aq_then_exit ?_
    refine aq_in_exit ?_
    refine aq_then ?_
    refine aw_seq ?_
    refine aw_region ?_
    refine ao_read trivial (r_load_arr rfl Try.isAgg50 Try.sizeOf50 rfl rfl rfl) rfl ?_
    refine ao_effS trivial (e_store rfl rfl rfl rfl Try.sizeOf50 rfl) ?_
    refine ao_nil ?_
    refine aq_then ?_
    refine aw_ret ?_
    refine aq_ret ?_
    obtain rfl := is_some h
    exact aq_finx (l := [.cell 2 50]) (xs := [.v (.arr 121 (.int .i64)) s1]) idn [.v (.arr 121 (.int .i64)) s1] [] rfl (by exact ⟨⟨⟨_, _, rfl⟩, r_load_arr rfl Try.isAgg50 Try.sizeOf50 rfl rfl rfl⟩, trivial⟩) (by exact ⟨ad_ren rfl, trivial⟩) (by exact trivial) rfl (nk rfl) rfl rfl ⟨rfl, rfl⟩
theorem c_impl_SumTable {x0 : (List (List Int))} {r : (List Int) × Bool} (h : Is (p_impl_SumTable x0) (some r)) :
    Scalar Try.prog 42 [.v (.slice (.arr 6 (.int .i64))) x0] (.tup [.v (.arr 121 (.int .i64)) r.1, .bool r.2]) := by
  unfold p_impl_SumTable at h
  refine ac_enter ⟨10, 0⟩ Try.func42 rfl rfl rfl rfl rfl (fun Γ => ?_)
  refine sl_len_m 0 (x0.length : Int) rfl rfl (fun hl0 => ?_)
  refine aw_seq ?_
  refine aw_region ?_
  refine ao_eff trivial (e_alloc 0 (y := .v (.arr 121 (.int .i64)) ((List.replicate 121 0) : (List Int))) Try.zeroValue50 (fun ρ h M => ra_zero_arr (t := (.int .i64)) rfl) rfl rfl rfl rfl rfl) rfl ?_
  refine ao_read trivial (r_assign rfl) rfl ?_
  refine ao_nil ?_
  refine aq_then ?_
  refine aw_seq ?_
  refine aw_seq ?_
  refine aw_region ?_
  refine ao_read trivial (r_move rfl) rfl ?_
  refine ao_scall trivial (scall (c_impl_IsPool (is_mk (rfl : p_impl_IsPool x0 = _))) rfl Try.func90 rfl rfl rfl rfl (fun σ => ⟨ad_ren rfl, trivial⟩)) rfl ?_
  refine ao_read trivial (r_not rfl) rfl ?_
  refine ao_nil ?_
  refine aq_then ?_
  refine aw_cond rfl (fun hb1 => ?_) (fun hb1 => ?_)
  · replace h := is_else (ne_t (not_t hb1)) h
    refine aw_seq ?_
    refine aw_region ?_
    refine ao_read trivial (r_build_zero (t := (.int .i64)) Try.underlying50 Try.zeroValue50 Try.sizeOf3 rfl) rfl ?_
    refine ao_effS trivial (e_store rfl rfl rfl rfl Try.sizeOf50 rfl) ?_
    refine ao_read trivial (r_assign rfl) rfl ?_
    refine ao_nil ?_
    refine aq_then ?_
    refine aw_ret ?_
    refine aq_then_ret ?_
    refine aq_ret ?_
    obtain rfl := is_some h
    exact aq_finx (l := [.cell 2 50, .tmp 3]) (xs := [.v (.arr 121 (.int .i64)) ((List.replicate 121 0) : (List Int)), .bool false]) idn [.v (.arr 121 (.int .i64)) ((List.replicate 121 0) : (List Int)), .bool false] [] rfl (by exact ⟨⟨⟨_, _, rfl⟩, r_load_arr rfl Try.isAgg50 Try.sizeOf50 rfl rfl rfl⟩, rfl, trivial⟩) (by exact ⟨ad_ren rfl, ad_ren rfl, trivial⟩) (by exact trivial) rfl (nk rfl) rfl rfl ⟨rfl, rfl⟩
  · replace h := is_if (not_f hb1) h
    refine aw_skip ?_
    refine aq_then ?_
    refine aw_seq ?_
    refine aw_region ?_
    refine ao_read trivial (r_move rfl) rfl ?_
    obtain ⟨r2, r2h, h⟩ := is_bind h
    refine ao_scall trivial (scall (c_impl_sums (is_mk r2h)) rfl Try.func118 rfl rfl rfl rfl (fun σ => ⟨ad_ren rfl, trivial⟩)) rfl ?_
    refine ao_effS trivial (e_store rfl rfl rfl rfl Try.sizeOf50 rfl) ?_
    refine ao_read trivial (r_assign rfl) rfl ?_
    refine ao_nil ?_
    refine aq_then ?_
    refine aw_ret ?_
    refine aq_ret ?_
    obtain rfl := is_some h
    exact aq_finx (l := [.cell 2 50, .tmp 3]) (xs := [.v (.arr 121 (.int .i64)) r2, .bool true]) idn [.v (.arr 121 (.int .i64)) r2, .bool true] [] rfl (by exact ⟨⟨⟨_, _, rfl⟩, r_load_arr rfl Try.isAgg50 Try.sizeOf50 rfl rfl rfl⟩, rfl, trivial⟩) (by exact ⟨ad_ren rfl, ad_ren rfl, trivial⟩) (by exact trivial) rfl (nk rfl) rfl rfl ⟨rfl, rfl⟩
end Go.GA
