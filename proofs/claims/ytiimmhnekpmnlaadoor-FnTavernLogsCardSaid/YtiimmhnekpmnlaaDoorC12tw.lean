/- Walks: what the Go functions compute, by the printed lines below; no further conditions. -/
import Derived.Test.YtiimmhnekpmnlaaDoorC12td
import Derived.Test.YtiimmhnekpmnlaaDoorProg
import Derived.Test.YtiimmhnekpmnlaaDoorL16
namespace Go.GA
open Go Go.Proofs
set_option maxRecDepth 100000
set_option maxHeartbeats 2000000
set_option linter.unusedVariables false
set_option linter.unusedSimpArgs false
theorem c_laws_rBig {x0 : (List Int)} {r : Bool} (h : Is (p_laws_rBig x0) r) :
    Scalar Tryd.prog 9 [.v (.slice (.int .u8)) x0] (.bool r) := by
  unfold p_laws_rBig at h
  refine ac_enter ⟨6, 0⟩ Tryd.func9 rfl rfl rfl rfl rfl (fun Γ => ?_)
  refine sl_len_m 0 (x0.length : Int) rfl rfl (fun hl0 => ?_)
  refine aw_seq ?_
  refine aw_region ?_
  refine ao_read trivial (r_assign rfl) rfl ?_
  refine ao_nil ?_
  refine aq_then ?_
  refine aw_seq ?_
  refine aw_region ?_
  refine ao_read trivial (r_move rfl) rfl ?_
  refine ao_read trivial (r_len_vm (x0.length : Int) Tryd.underlying30 rfl rfl) rfl ?_
  refine ao_read trivial (r_gtr rfl rfl) rfl ?_
  refine ao_read trivial (r_assign rfl) rfl ?_
  refine ao_nil ?_
  refine aq_then ?_
  refine aw_ret ?_
  refine aq_ret ?_
  obtain rfl := is_eq h
  exact aq_finx (l := [.tmp 2]) (xs := [.bool (decide (65536 < (x0.length : Int)))]) idn [.bool (decide (65536 < (x0.length : Int)))] [] rfl (by exact ⟨rfl, trivial⟩) (by exact ⟨ad_ren rfl, trivial⟩) (by exact trivial) rfl (nk rfl) rfl rfl ⟨rfl, rfl⟩
theorem c_spec_l1Cur_next {x0 : (List Int)} {x1 : Int} {x2 : Int} {r : Int × Int × Int} (h : Is (p_spec_l1Cur_next x0 x1 x2) (some r)) :
    ACallsV Tryd.prog 59 [.ref 0 0] [(0, .var [.cell (.v (.slice (.int .u8)) x0), .cell (.int .i64 x1), .cell (.int .u64 x2)])] (fun r' H' => r' = .int .i64 r.1 ∧ H' = [(0, .var [.cell (.v (.slice (.int .u8)) x0), .cell (.int .i64 r.2.1), .cell (.int .u64 r.2.2)])]) := by
  unfold p_spec_l1Cur_next at h
  refine ac_enterV ⟨62, 1⟩ Tryd.func59 rfl rfl rfl rfl rfl (fun Γ => ?_)
  refine aw_seq ?_
  refine aw_region ?_
  refine ao_read trivial (r_assign rfl) rfl ?_
  refine ao_nil ?_
  refine aq_then ?_
  refine aw_seq ?_
  refine aw_region ?_
  refine ao_read trivial (r_assign rfl) rfl ?_
  refine ao_nil ?_
  refine aq_then ?_
  refine aw_join (fun (s1 : Int) => [(0, .ref 0 0), (3, .int .i64 s1)]) (fun (s1 : Int) => [(0, .var [.cell (.v (.slice (.int .u8)) x0), .cell (.int .i64 x1), .cell (.int .u64 x2)])]) (fun (s1 : Int) => True) h (fun s1 hI h => ?_) (fun h j3 => ?_)
  · refine aw_seq ?_
    refine aw_region ?_
    refine ao_read trivial (r_move rfl) rfl ?_
    refine ao_read trivial (r_nilCheck rfl rfl) rfl ?_
    refine ao_read trivial (r_fieldAddr Tryd.underlying59 rfl Tryd.sizeOf3 rfl rfl rfl) rfl ?_
    refine ao_read trivial (r_load_cell Tryd.isAgg3 rfl rfl rfl) rfl ?_
    refine ao_read trivial (r_add rfl rfl) rfl ?_
    refine ao_read trivial (r_nilCheck rfl rfl) rfl ?_
    refine ao_read trivial (r_fieldAddr Tryd.underlying59 rfl Tryd.sizeOf3 rfl rfl rfl) rfl ?_
    refine ao_effS trivial (e_store rfl rfl rfl rfl Tryd.sizeOf3 rfl) ?_
    refine ao_nil ?_
    refine aq_then ?_
    refine aw_seq ?_
    refine aw_region ?_
    refine ao_read trivial (r_move rfl) rfl ?_
    refine ao_read trivial (r_move rfl) rfl ?_
    refine ao_read trivial (r_nilCheck rfl rfl) rfl ?_
    refine ao_read trivial (r_fieldAddr Tryd.underlying59 rfl Tryd.sizeOf57 rfl rfl rfl) rfl ?_
    refine ao_read trivial (r_load_cell Tryd.isAgg57 rfl rfl rfl) rfl ?_
    refine ao_read trivial (r_mul rfl rfl) rfl ?_
    refine ao_read trivial (r_move rfl) rfl ?_
    refine ao_read trivial (r_conv Tryd.underlying3 Tryd.underlying57 rfl) rfl ?_
    refine ao_read trivial (r_add rfl rfl) rfl ?_
    refine ao_read trivial (r_add rfl rfl) rfl ?_
    refine ao_read trivial (r_nilCheck rfl rfl) rfl ?_
    refine ao_read trivial (r_fieldAddr Tryd.underlying59 rfl Tryd.sizeOf57 rfl rfl rfl) rfl ?_
    refine ao_effS trivial (e_store rfl rfl rfl rfl Tryd.sizeOf57 rfl) ?_
    refine ao_nil ?_
    refine aq_then ?_
    refine aw_seq ?_
    refine aw_seq ?_
    refine aw_drawAll (by kernel_rfl) ?_
    refine an_read 0 (by kernel_rfl) (fun _ _ _ h => h) rfl (by kernel_rfl) trivial (r_move rfl) rfl ?_
    refine an_read 1 (by kernel_rfl) (fun _ _ _ h => h) rfl (by kernel_rfl) trivial (r_nilCheck rfl rfl) rfl ?_
    refine an_read 2 (by kernel_rfl) (fun _ _ _ h => h) rfl (by kernel_rfl) trivial (r_fieldAddr Tryd.underlying59 rfl Tryd.sizeOf3 rfl rfl rfl) rfl ?_
    refine an_read 3 (by kernel_rfl) (fun _ _ _ h => h) rfl (by kernel_rfl) trivial (r_load_cell Tryd.isAgg3 rfl rfl rfl) rfl ?_
    refine an_read 4 (by kernel_rfl) (fun _ _ _ h => h) rfl (by kernel_rfl) trivial (r_move rfl) rfl ?_
    refine an_read 5 (by kernel_rfl) (fun _ _ _ h => h) rfl (by kernel_rfl) trivial (r_nilCheck rfl rfl) rfl ?_
    refine an_read 6 (by kernel_rfl) (fun _ _ _ h => h) rfl (by kernel_rfl) trivial (r_fieldAddr Tryd.underlying59 rfl Tryd.sizeOf30 rfl rfl rfl) rfl ?_
    refine an_read 7 (by kernel_rfl) (fun _ _ _ h => h) rfl (by kernel_rfl) trivial (r_load_cell Tryd.isAgg30 rfl rfl rfl) rfl ?_
    refine an_read 8 (by kernel_rfl) (fun _ _ _ h => h) rfl (by kernel_rfl) trivial (r_len_vm (x0.length : Int) Tryd.underlying30 rfl rfl) rfl ?_
    refine an_read 9 (by kernel_rfl) (fun _ _ _ h => h) rfl (by kernel_rfl) trivial (r_leq rfl rfl) rfl ?_
    refine an_done rfl ?_
    refine aq_then ?_
    refine aw_cond rfl (fun hb4 => ?_) (fun hb4 => ?_)
    · have q5 := d_t hb4
      replace h := is_if (d_t hb4) h
      refine aw_seq ?_
      refine aw_region ?_
      refine ao_read trivial (r_move rfl) rfl ?_
      refine ao_read trivial (r_assign rfl) rfl ?_
      refine ao_nil ?_
      refine aq_then ?_
      refine aw_ret ?_
      refine aq_then_ret ?_
      refine aq_ret ?_
      obtain rfl := is_some h
      exact aq_finV (l := [.tmp 2]) (xs := [.int .i64 s1]) idn [.int .i64 s1] [(0, .var [.cell (.v (.slice (.int .u8)) x0), .cell (.int .i64 (IntKind.wrap .i64 (x1 + 1))), .cell (.int .u64 (IntKind.wrap .u64 ((IntKind.wrap .u64 ((IntKind.wrap .u64 (x2 * 6364136223846793005)) + (IntKind.wrap .u64 s1))) + 462197)))])] rfl (by exact ⟨rfl, trivial⟩) (by exact ⟨ad_ren rfl, trivial⟩) (by exact ⟨⟨_, rfl, ⟨ad_ren rfl, rfl, ad_ren rfl, rfl, ad_ren rfl, rfl, trivial⟩⟩, trivial⟩) rfl (nk1 rfl rfl) ⟨rfl, rfl⟩
    · have q6 := d_f hb4
      replace h := is_else (d_f hb4) h
      refine aw_skip ?_
      refine aq_then ?_
      refine aw_seq ?_
      refine aw_region ?_
      refine ao_read trivial (r_move rfl) rfl ?_
      refine ao_read trivial (r_nilCheck rfl rfl) rfl ?_
      refine ao_read trivial (r_fieldAddr Tryd.underlying59 rfl Tryd.sizeOf57 rfl rfl rfl) rfl ?_
      refine ao_read trivial (r_load_cell Tryd.isAgg57 rfl rfl rfl) rfl ?_
      refine ao_read trivial (r_shr rfl rfl (by omega)) rfl ?_
      refine ao_read trivial (r_and rfl rfl) rfl ?_
      refine ao_read trivial (r_conv Tryd.underlying57 Tryd.underlying3 rfl) rfl ?_
      refine ao_read trivial (r_assign rfl) rfl ?_
      refine ao_nil ?_
      refine aq_then ?_
      refine aw_ret ?_
      refine aq_ret ?_
      obtain rfl := is_some h
      exact aq_finV (l := [.tmp 2]) (xs := [.int .i64 (IntKind.wrap .i64 (andI .u64 (shrI .u64 (IntKind.wrap .u64 ((IntKind.wrap .u64 ((IntKind.wrap .u64 (x2 * 6364136223846793005)) + (IntKind.wrap .u64 s1))) + 462197)) 40) 255))]) idn [.int .i64 (IntKind.wrap .i64 (andI .u64 (shrI .u64 (IntKind.wrap .u64 ((IntKind.wrap .u64 ((IntKind.wrap .u64 (x2 * 6364136223846793005)) + (IntKind.wrap .u64 s1))) + 462197)) 40) 255))] [(0, .var [.cell (.v (.slice (.int .u8)) x0), .cell (.int .i64 (IntKind.wrap .i64 (x1 + 1))), .cell (.int .u64 (IntKind.wrap .u64 ((IntKind.wrap .u64 ((IntKind.wrap .u64 (x2 * 6364136223846793005)) + (IntKind.wrap .u64 s1))) + 462197)))])] rfl (by exact ⟨rfl, trivial⟩) (by exact ⟨ad_ren rfl, trivial⟩) (by exact ⟨⟨_, rfl, ⟨ad_ren rfl, rfl, ad_ren rfl, rfl, ad_ren rfl, rfl, trivial⟩⟩, trivial⟩) rfl (nk1 rfl rfl) ⟨rfl, rfl⟩
  · refine aw_seq ?_
    refine aw_drawAll (by kernel_rfl) ?_
    refine an_read 0 (by kernel_rfl) (fun _ _ _ h => h) rfl (by kernel_rfl) trivial (r_move rfl) rfl ?_
    refine an_read 1 (by kernel_rfl) (fun _ _ _ h => h) rfl (by kernel_rfl) trivial (r_nilCheck rfl rfl) rfl ?_
    refine an_read 2 (by kernel_rfl) (fun _ _ _ h => h) rfl (by kernel_rfl) trivial (r_fieldAddr Tryd.underlying59 rfl Tryd.sizeOf3 rfl rfl rfl) rfl ?_
    refine an_read 3 (by kernel_rfl) (fun _ _ _ h => h) rfl (by kernel_rfl) trivial (r_load_cell Tryd.isAgg3 rfl rfl rfl) rfl ?_
    refine an_read 4 (by kernel_rfl) (fun _ _ _ h => h) rfl (by kernel_rfl) trivial (r_move rfl) rfl ?_
    refine an_read 5 (by kernel_rfl) (fun _ _ _ h => h) rfl (by kernel_rfl) trivial (r_nilCheck rfl rfl) rfl ?_
    refine an_read 6 (by kernel_rfl) (fun _ _ _ h => h) rfl (by kernel_rfl) trivial (r_fieldAddr Tryd.underlying59 rfl Tryd.sizeOf30 rfl rfl rfl) rfl ?_
    refine an_read 7 (by kernel_rfl) (fun _ _ _ h => h) rfl (by kernel_rfl) trivial (r_load_cell Tryd.isAgg30 rfl rfl rfl) rfl ?_
    refine an_read 8 (by kernel_rfl) (fun _ _ _ h => h) rfl (by kernel_rfl) trivial (r_len_vm (x0.length : Int) Tryd.underlying30 rfl rfl) rfl ?_
    refine an_read 9 (by kernel_rfl) (fun _ _ _ h => h) rfl (by kernel_rfl) trivial (r_lss rfl rfl) rfl ?_
    refine an_done rfl ?_
    refine aq_then ?_
    refine aw_cond rfl (fun hb7 => ?_) (fun hb7 => ?_)
    · have q8 := d_t hb7
      replace h := is_if (d_t hb7) h
      obtain ⟨g10, h⟩ := is_guard h
      refine aw_drawAll (by kernel_rfl) ?_
      refine an_read 0 (by kernel_rfl) (fun _ _ _ h => h) rfl (by kernel_rfl) trivial (r_move rfl) rfl ?_
      refine an_read 1 (by kernel_rfl) (fun _ _ _ h => h) rfl (by kernel_rfl) trivial (r_nilCheck rfl rfl) rfl ?_
      refine an_read 2 (by kernel_rfl) (fun _ _ _ h => h) rfl (by kernel_rfl) trivial (r_fieldAddr Tryd.underlying59 rfl Tryd.sizeOf30 rfl rfl rfl) rfl ?_
      refine an_read 3 (by kernel_rfl) (fun _ _ _ h => h) rfl (by kernel_rfl) trivial (r_load_cell Tryd.isAgg30 rfl rfl rfl) rfl ?_
      refine an_read 4 (by kernel_rfl) (fun _ _ _ h => h) rfl (by kernel_rfl) trivial (r_move rfl) rfl ?_
      refine an_read 5 (by kernel_rfl) (fun _ _ _ h => h) rfl (by kernel_rfl) trivial (r_nilCheck rfl rfl) rfl ?_
      refine an_read 6 (by kernel_rfl) (fun _ _ _ h => h) rfl (by kernel_rfl) trivial (r_fieldAddr Tryd.underlying59 rfl Tryd.sizeOf3 rfl rfl rfl) rfl ?_
      refine an_read 7 (by kernel_rfl) (fun _ _ _ h => h) rfl (by kernel_rfl) trivial (r_load_cell Tryd.isAgg3 rfl rfl rfl) rfl ?_
      refine an_read 8 (by kernel_rfl) (fun _ _ _ h => h) rfl (by kernel_rfl) trivial (r_idxAddr_int Tryd.underlying30 Tryd.sizeOf5 rfl rfl (show 0 ≤ x1 from by omega) (show x1 < (x0.length : Int) from by omega)) rfl ?_
      refine an_read 9 (by kernel_rfl) (fun _ _ _ h => h) rfl (by kernel_rfl) trivial (r_load_c_int Tryd.isAgg5 Tryd.sizeOf5 rfl) rfl ?_
      refine an_read 10 (by kernel_rfl) (fun _ _ _ h => h) rfl (by kernel_rfl) trivial (r_conv Tryd.underlying5 Tryd.underlying3 rfl) rfl ?_
      refine an_read 11 (by kernel_rfl) (fun _ _ _ h => h) rfl (by kernel_rfl) trivial (r_assign rfl) rfl ?_
      refine an_done rfl ?_
      exact aq_then (AW.sub (sub_mk idn (by exact ⟨⟨_, rfl, ad_ren rfl⟩, ⟨_, rfl, ad_ren rfl⟩, trivial⟩) (by exact ⟨⟨_, rfl, ⟨ad_ren rfl, rfl, ad_ren rfl, rfl, ad_ren rfl, rfl, trivial⟩⟩, trivial⟩) (by rfl) (nk1 rfl rfl)) (j3 (IntKind.wrap .i64 (x0.getD x1.toNat 0)) trivial h))
    · have q9 := d_f hb7
      replace h := is_else (d_f hb7) h
      refine aw_skip ?_
      exact aq_then (AW.sub (sub_mk idn (by exact ⟨⟨_, rfl, ad_ren rfl⟩, ⟨_, rfl, ad_ren rfl⟩, trivial⟩) (by exact ⟨⟨_, rfl, ⟨ad_ren rfl, rfl, ad_ren rfl, rfl, ad_ren rfl, rfl, trivial⟩⟩, trivial⟩) (by rfl) (nk1 rfl rfl)) (j3 0 trivial h))
theorem c_spec_l1Cur_pick {x0 : Int} {x1 : (List Int)} {x2 : Int} {x3 : Int} {r : Int × Int × Int} (h : Is (p_spec_l1Cur_pick x0 x1 x2 x3) (some r)) :
    ACallsV Tryd.prog 43 [.ref 0 0, .int .i64 x0] [(0, .var [.cell (.v (.slice (.int .u8)) x1), .cell (.int .i64 x2), .cell (.int .u64 x3)])] (fun r' H' => r' = .int .i64 r.1 ∧ H' = [(0, .var [.cell (.v (.slice (.int .u8)) x1), .cell (.int .i64 r.2.1), .cell (.int .u64 r.2.2)])]) := by
  unfold p_spec_l1Cur_pick at h
  refine ac_enterV ⟨20, 1⟩ Tryd.func43 rfl rfl rfl rfl rfl (fun Γ => ?_)
  refine aw_seq ?_
  refine aw_region ?_
  refine ao_read trivial (r_assign rfl) rfl ?_
  refine ao_nil ?_
  refine aq_then ?_
  refine aw_seq ?_
  refine aw_seq ?_
  refine aw_region ?_
  refine ao_read trivial (r_move rfl) rfl ?_
  refine ao_read trivial (r_leq rfl rfl) rfl ?_
  refine ao_nil ?_
  refine aq_then ?_
  refine aw_cond rfl (fun hb1 => ?_) (fun hb1 => ?_)
  · have q2 := d_t hb1
    replace h := is_if (d_t hb1) h
    refine aw_seq ?_
    refine aw_region ?_
    refine ao_read trivial (r_assign rfl) rfl ?_
    refine ao_nil ?_
    refine aq_then ?_
    refine aw_ret ?_
    refine aq_then_ret ?_
    refine aq_ret ?_
    obtain rfl := is_some h
    exact aq_finV (l := [.tmp 4]) (xs := [.int .i64 0]) idn [.int .i64 0] [(0, .var [.cell (.v (.slice (.int .u8)) x1), .cell (.int .i64 x2), .cell (.int .u64 x3)])] rfl (by exact ⟨rfl, trivial⟩) (by exact ⟨ad_ren rfl, trivial⟩) (by exact ⟨⟨_, rfl, ⟨ad_ren rfl, rfl, ad_ren rfl, rfl, ad_ren rfl, rfl, trivial⟩⟩, trivial⟩) rfl (nk1 rfl rfl) ⟨rfl, rfl⟩
  · have q3 := d_f hb1
    replace h := is_else (d_f hb1) h
    refine aw_skip ?_
    refine aq_then ?_
    refine aw_seq ?_
    refine aw_region ?_
    refine ao_read trivial (r_move rfl) rfl ?_
    obtain ⟨r4, r4h, h⟩ := is_bind h
    refine ao_callV [0] 1 trivial (c_spec_l1Cur_next (is_mk r4h)) Tryd.func59 rfl rfl rfl rfl rfl ⟨rfl, trivial⟩ ⟨⟨_, rfl, ⟨ad_ren rfl, rfl, ad_ren rfl, rfl, ad_ren rfl, rfl, trivial⟩⟩, trivial⟩ rfl rfl rfl rfl rfl rfl rfl (fun r' H' hr => ?_)
    obtain ⟨rfl, rfl⟩ := hr
    refine ao_norm (y := .int .i64 r4.1) (H' := [(0, .var [.cell (.v (.slice (.int .u8)) x1), .cell (.int .i64 r4.2.1), .cell (.int .u64 r4.2.2)])]) rfl rfl ?_
    refine ao_read trivial (r_assign rfl) rfl ?_
    refine ao_nil ?_
    refine aq_then ?_
    refine aw_seq ?_
    refine aw_seq ?_
    refine aw_region ?_
    refine ao_read trivial (r_move rfl) rfl ?_
    refine ao_read trivial (r_gtr rfl rfl) rfl ?_
    refine ao_nil ?_
    refine aq_then ?_
    refine aw_cond rfl (fun hb5 => ?_) (fun hb5 => ?_)
    · have q6 := d_t hb5
      replace h := is_if (d_t hb5) h
      refine aw_region ?_
      refine ao_read trivial (r_move rfl) rfl ?_
      refine ao_read trivial (r_mul rfl rfl) rfl ?_
      refine ao_read trivial (r_move rfl) rfl ?_
      obtain ⟨r8, r8h, h⟩ := is_bind h
      refine ao_callV [0] 1 trivial (c_spec_l1Cur_next (is_mk r8h)) Tryd.func59 rfl rfl rfl rfl rfl ⟨rfl, trivial⟩ ⟨⟨_, rfl, ⟨ad_ren rfl, rfl, ad_ren rfl, rfl, ad_ren rfl, rfl, trivial⟩⟩, trivial⟩ rfl rfl rfl rfl rfl rfl rfl (fun r' H' hr => ?_)
      obtain ⟨rfl, rfl⟩ := hr
      refine ao_norm (y := .int .i64 r8.1) (H' := [(0, .var [.cell (.v (.slice (.int .u8)) x1), .cell (.int .i64 r8.2.1), .cell (.int .u64 r8.2.2)])]) rfl rfl ?_
      refine ao_read trivial (r_add rfl rfl) rfl ?_
      refine ao_read trivial (r_assign rfl) rfl ?_
      refine ao_nil ?_
      refine aq_then ?_
      refine aw_seq ?_
      refine aw_region ?_
      refine ao_read trivial (r_move rfl) rfl ?_
      refine ao_read trivial (r_move rfl) rfl ?_
      refine ao_read trivial (r_rem rfl rfl (by omega)) rfl ?_
      refine ao_read trivial (r_assign rfl) rfl ?_
      refine ao_nil ?_
      refine aq_then ?_
      refine aw_ret ?_
      refine aq_ret ?_
      obtain rfl := is_some h
      exact aq_finV (l := [.tmp 4]) (xs := [.int .i64 ((IntKind.wrap .i64 ((IntKind.wrap .i64 (r4.1 * 256)) + r8.1)).tmod x0)]) idn [.int .i64 ((IntKind.wrap .i64 ((IntKind.wrap .i64 (r4.1 * 256)) + r8.1)).tmod x0)] [(0, .var [.cell (.v (.slice (.int .u8)) x1), .cell (.int .i64 r8.2.1), .cell (.int .u64 r8.2.2)])] rfl (by exact ⟨rfl, trivial⟩) (by exact ⟨ad_ren rfl, trivial⟩) (by exact ⟨⟨_, rfl, ⟨ad_ren rfl, rfl, ad_ren rfl, rfl, ad_ren rfl, rfl, trivial⟩⟩, trivial⟩) rfl (nk1 rfl rfl) ⟨rfl, rfl⟩
    · have q7 := d_f hb5
      replace h := is_else (d_f hb5) h
      refine aw_skip ?_
      refine aq_then ?_
      refine aw_seq ?_
      refine aw_region ?_
      refine ao_read trivial (r_move rfl) rfl ?_
      refine ao_read trivial (r_move rfl) rfl ?_
      refine ao_read trivial (r_rem rfl rfl (by omega)) rfl ?_
      refine ao_read trivial (r_assign rfl) rfl ?_
      refine ao_nil ?_
      refine aq_then ?_
      refine aw_ret ?_
      refine aq_ret ?_
      obtain rfl := is_some h
      exact aq_finV (l := [.tmp 4]) (xs := [.int .i64 (r4.1.tmod x0)]) idn [.int .i64 (r4.1.tmod x0)] [(0, .var [.cell (.v (.slice (.int .u8)) x1), .cell (.int .i64 r4.2.1), .cell (.int .u64 r4.2.2)])] rfl (by exact ⟨rfl, trivial⟩) (by exact ⟨ad_ren rfl, trivial⟩) (by exact ⟨⟨_, rfl, ⟨ad_ren rfl, rfl, ad_ren rfl, rfl, ad_ren rfl, rfl, trivial⟩⟩, trivial⟩) rfl (nk1 rfl rfl) ⟨rfl, rfl⟩
theorem c_spec_l1Cur_of {x0 : (List ByteArray)} {x1 : (List Int)} {x2 : Int} {x3 : Int} {r : ByteArray × Int × Int} (h : Is (p_spec_l1Cur_of x0 x1 x2 x3) (some r)) :
    ACallsV Tryd.prog 49 [.ref 0 0, .v (.slice .str) x0] [(0, .var [.cell (.v (.slice (.int .u8)) x1), .cell (.int .i64 x2), .cell (.int .u64 x3)])] (fun r' H' => r' = .str r.1 ∧ H' = [(0, .var [.cell (.v (.slice (.int .u8)) x1), .cell (.int .i64 r.2.1), .cell (.int .u64 r.2.2)])]) := by
  unfold p_spec_l1Cur_of at h
  refine ac_enterV ⟨12, 1⟩ Tryd.func49 rfl rfl rfl rfl rfl (fun Γ => ?_)
  refine sl_len_m 1 (x0.length : Int) rfl rfl (fun hl1 => ?_)
  refine aw_seq ?_
  refine aw_region ?_
  refine ao_read trivial (r_assign rfl) rfl ?_
  refine ao_nil ?_
  refine aq_then ?_
  refine aw_seq ?_
  refine aw_region ?_
  refine ao_read trivial (r_move rfl) rfl ?_
  refine ao_read trivial (r_move rfl) rfl ?_
  refine ao_read trivial (r_move rfl) rfl ?_
  refine ao_read trivial (r_len_vm (x0.length : Int) Tryd.underlying76 rfl rfl) rfl ?_
  obtain ⟨r1, r1h, h⟩ := is_bind h
  refine ao_callV [0] 1 trivial (c_spec_l1Cur_pick (is_mk r1h)) Tryd.func43 rfl rfl rfl rfl rfl ⟨rfl, trivial⟩ ⟨⟨_, rfl, ⟨ad_ren rfl, rfl, ad_ren rfl, rfl, ad_ren rfl, rfl, trivial⟩⟩, trivial⟩ rfl rfl rfl rfl rfl rfl rfl (fun r' H' hr => ?_)
  obtain ⟨rfl, rfl⟩ := hr
  refine ao_norm (y := .int .i64 r1.1) (H' := [(0, .var [.cell (.v (.slice (.int .u8)) x1), .cell (.int .i64 r1.2.1), .cell (.int .u64 r1.2.2)])]) rfl rfl ?_
  obtain ⟨g2, h⟩ := is_guard h
  obtain ⟨g3, h⟩ := is_guard h
  refine ao_read trivial (r_idxAddr (t := .str) Tryd.underlying76 Tryd.sizeOf9 rfl rfl (show 0 ≤ r1.1 from by omega) (show r1.1 < (x0.length : Int) from by omega)) rfl ?_
  refine ao_read trivial (r_load_c (t := .str) Tryd.isAgg9 Tryd.sizeOf9 rfl) rfl ?_
  refine ao_read trivial (r_assign rfl) rfl ?_
  refine ao_nil ?_
  refine aq_then ?_
  refine aw_ret ?_
  refine aq_ret ?_
  obtain rfl := is_some h
  exact aq_finV (l := [.tmp 4]) (xs := [.str (x0.getD r1.1.toNat ByteArray.empty)]) idn [.str (x0.getD r1.1.toNat ByteArray.empty)] [(0, .var [.cell (.v (.slice (.int .u8)) x1), .cell (.int .i64 r1.2.1), .cell (.int .u64 r1.2.2)])] rfl (by exact ⟨rfl, trivial⟩) (by exact ⟨ad_ren rfl, trivial⟩) (by exact ⟨⟨_, rfl, ⟨ad_ren rfl, rfl, ad_ren rfl, rfl, ad_ren rfl, rfl, trivial⟩⟩, trivial⟩) rfl (nk1 rfl rfl) ⟨rfl, rfl⟩
theorem c_spec_l1Cur_logRecord {x0 : (List Int)} {x1 : Int} {x2 : Int} {r : (ByteArray × (ByteArray × Unit)) × Int × Int} (h : Is (p_spec_l1Cur_logRecord x0 x1 x2) (some r)) :
    ACallsV Tryd.prog 33 [.ref 0 0] [(0, .var [.cell (.v (.slice (.int .u8)) x0), .cell (.int .i64 x1), .cell (.int .u64 x2)])] (fun r' H' => r' = .v (.pair .str (.pair .str .unit)) r.1 ∧ H' = [(0, .var [.cell (.v (.slice (.int .u8)) x0), .cell (.int .i64 r.2.1), .cell (.int .u64 r.2.2)])]) := by
  unfold p_spec_l1Cur_logRecord at h
  refine ac_enterV ⟨28, 1⟩ Tryd.func33 rfl rfl rfl rfl rfl (fun Γ => ?_)
  refine aw_seq ?_
  refine aw_region ?_
  refine ao_eff trivial (e_alloc 1 (y := .st [.str ByteArray.empty, .str ByteArray.empty]) Tryd.zeroValue33 (fun ρ h M => ra_zero_st (t := (.pair .str (.pair .str .unit))) rfl rfl rfl) rfl rfl rfl rfl rfl) rfl ?_
  refine ao_nil ?_
  refine aq_then ?_
  refine aw_seq ?_
  refine aw_region ?_
  refine ao_read trivial (r_move rfl) rfl ?_
  refine ao_eff trivial (e_buildSlice (l := [(0, .const (.string (ByteArray.mk #[114, 111, 108, 108]))), (1, .const (.string (ByteArray.mk #[99, 104, 97, 110, 99, 101, 32, 55]))), (2, .const (.string (ByteArray.mk #[120]))), (3, .const (.string (ByteArray.mk #[97, 103, 97, 105, 110, 32, 49]))), (4, .const (.string (ByteArray.mk #[48, 32, 49])))]) (t := .str) 2 ([(ByteArray.mk #[114, 111, 108, 108]), (ByteArray.mk #[99, 104, 97, 110, 99, 101, 32, 55]), (ByteArray.mk #[120]), (ByteArray.mk #[97, 103, 97, 105, 110, 32, 49]), (ByteArray.mk #[48, 32, 49])] : (List ByteArray)) rfl Tryd.underlying76 Tryd.zeroValue9 Tryd.sizeOf9 rfl rfl rfl rfl rfl rfl rfl) rfl ?_
  obtain ⟨r1, r1h, h⟩ := is_bind h
  refine ao_frz (fr' := [(0, .ref 0 0), (2, .ref 1 0), (4, .ref 0 0), (5, .v (.slice .str) ([(ByteArray.mk #[114, 111, 108, 108]), (ByteArray.mk #[99, 104, 97, 110, 99, 101, 32, 55]), (ByteArray.mk #[120]), (ByteArray.mk #[97, 103, 97, 105, 110, 32, 49]), (ByteArray.mk #[48, 32, 49])] : (List ByteArray)))]) (H' := [(1, .var [.cell (.str ByteArray.empty), .cell (.str ByteArray.empty)]), (0, .var [.cell (.v (.slice (.int .u8)) x0), .cell (.int .i64 x1), .cell (.int .u64 x2)])]) (by exact ⟨⟨_, rfl, ad_ren rfl⟩, ⟨_, rfl, ad_ren rfl⟩, ⟨_, rfl, ad_ren rfl⟩, ⟨_, rfl, ad_osB rfl rfl⟩, trivial⟩) (by exact ⟨⟨_, rfl, ⟨ad_ren rfl, rfl, ad_ren rfl, rfl, trivial⟩⟩, ⟨_, rfl, ⟨ad_ren rfl, rfl, ad_ren rfl, rfl, ad_ren rfl, rfl, trivial⟩⟩, trivial⟩) rfl ?_
  refine ao_callV [0] 3 trivial (c_spec_l1Cur_of (is_mk r1h)) Tryd.func49 rfl rfl rfl rfl rfl ⟨rfl, trivial⟩ ⟨⟨_, rfl, ⟨ad_ren rfl, rfl, ad_ren rfl, rfl, ad_ren rfl, rfl, trivial⟩⟩, trivial⟩ rfl rfl rfl rfl rfl rfl rfl (fun r' H' hr => ?_)
  obtain ⟨rfl, rfl⟩ := hr
  refine ao_norm (y := .str r1.1) (H' := [(1, .var [.cell (.str ByteArray.empty), .cell (.str ByteArray.empty)]), (0, .var [.cell (.v (.slice (.int .u8)) x0), .cell (.int .i64 r1.2.1), .cell (.int .u64 r1.2.2)])]) rfl rfl ?_
  refine ao_read trivial (r_move rfl) rfl ?_
  refine ao_eff trivial (e_buildSlice (l := [(0, .const (.string (ByteArray.mk #[]))), (1, .const (.string (ByteArray.mk #[51]))), (2, .const (.string (ByteArray.mk #[63]))), (3, .const (.string (ByteArray.mk #[97, 64, 98]))), (4, .const (.string (ByteArray.mk #[51, 32, 49, 32, 50])))]) (t := .str) 3 ([(ByteArray.mk #[]), (ByteArray.mk #[51]), (ByteArray.mk #[63]), (ByteArray.mk #[97, 64, 98]), (ByteArray.mk #[51, 32, 49, 32, 50])] : (List ByteArray)) rfl Tryd.underlying76 Tryd.zeroValue9 Tryd.sizeOf9 rfl rfl rfl rfl rfl rfl rfl) rfl ?_
  obtain ⟨r2, r2h, h⟩ := is_bind h
  refine ao_frz (fr' := [(0, .ref 0 0), (2, .ref 1 0), (4, .ref 0 0), (5, .v (.slice .str) ([(ByteArray.mk #[114, 111, 108, 108]), (ByteArray.mk #[99, 104, 97, 110, 99, 101, 32, 55]), (ByteArray.mk #[120]), (ByteArray.mk #[97, 103, 97, 105, 110, 32, 49]), (ByteArray.mk #[48, 32, 49])] : (List ByteArray))), (6, .str r1.1), (7, .ref 0 0), (8, .v (.slice .str) ([(ByteArray.mk #[]), (ByteArray.mk #[51]), (ByteArray.mk #[63]), (ByteArray.mk #[97, 64, 98]), (ByteArray.mk #[51, 32, 49, 32, 50])] : (List ByteArray)))]) (H' := [(1, .var [.cell (.str ByteArray.empty), .cell (.str ByteArray.empty)]), (0, .var [.cell (.v (.slice (.int .u8)) x0), .cell (.int .i64 r1.2.1), .cell (.int .u64 r1.2.2)])]) (by exact ⟨⟨_, rfl, ad_ren rfl⟩, ⟨_, rfl, ad_ren rfl⟩, ⟨_, rfl, ad_ren rfl⟩, ⟨_, rfl, ad_ren rfl⟩, ⟨_, rfl, ad_ren rfl⟩, ⟨_, rfl, ad_ren rfl⟩, ⟨_, rfl, ad_osB rfl rfl⟩, trivial⟩) (by exact ⟨⟨_, rfl, ⟨ad_ren rfl, rfl, ad_ren rfl, rfl, trivial⟩⟩, ⟨_, rfl, ⟨ad_ren rfl, rfl, ad_ren rfl, rfl, ad_ren rfl, rfl, trivial⟩⟩, trivial⟩) rfl ?_
  refine ao_callV [0] 4 trivial (c_spec_l1Cur_of (is_mk r2h)) Tryd.func49 rfl rfl rfl rfl rfl ⟨rfl, trivial⟩ ⟨⟨_, rfl, ⟨ad_ren rfl, rfl, ad_ren rfl, rfl, ad_ren rfl, rfl, trivial⟩⟩, trivial⟩ rfl rfl rfl rfl rfl rfl rfl (fun r' H' hr => ?_)
  obtain ⟨rfl, rfl⟩ := hr
  refine ao_norm (y := .str r2.1) (H' := [(1, .var [.cell (.str ByteArray.empty), .cell (.str ByteArray.empty)]), (0, .var [.cell (.v (.slice (.int .u8)) x0), .cell (.int .i64 r2.2.1), .cell (.int .u64 r2.2.2)])]) rfl rfl ?_
  refine ao_read trivial (r_build_stv (l := [(0, .tmp 6), (1, .tmp 9)]) (cs := [.cell (.str r1.1), .cell (.str r2.1)]) (.pair .str (.pair .str .unit)) ((r1.1, (r2.1, ())) : (ByteArray × (ByteArray × Unit))) [(0, 1), (1, 1)] Tryd.underlying33 Tryd.zeroValue33 rfl ⟨rfl, Tryd.sizeOf9, rfl, Tryd.sizeOf9, trivial⟩ rfl rfl rfl rfl) rfl ?_
  refine ao_eff trivial (e_alloc 4 (y := .st [.str ByteArray.empty, .str ByteArray.empty]) Tryd.zeroValue33 (fun ρ h M => ra_zero_st (t := (.pair .str (.pair .str .unit))) rfl rfl rfl) rfl rfl rfl rfl rfl) rfl ?_
  refine ao_effS trivial (e_store rfl rfl rfl rfl Tryd.sizeOf33 rfl) ?_
  refine ao_nil ?_
  refine aq_then ?_
  refine aw_seq ?_
  refine aw_seq ?_
  refine aw_region ?_
  refine ao_read trivial (r_move rfl) rfl ?_
  obtain ⟨r3, r3h, h⟩ := is_bind h
  refine ao_callV [0] 5 trivial (c_spec_l1Cur_pick (is_mk r3h)) Tryd.func43 rfl rfl rfl rfl rfl ⟨rfl, trivial⟩ ⟨⟨_, rfl, ⟨ad_ren rfl, rfl, ad_ren rfl, rfl, ad_ren rfl, rfl, trivial⟩⟩, trivial⟩ rfl rfl rfl rfl rfl rfl rfl (fun r' H' hr => ?_)
  obtain ⟨rfl, rfl⟩ := hr
  refine ao_norm (y := .int .i64 r3.1) (H' := [(4, .var [.cell (.str r1.1), .cell (.str r2.1)]), (1, .var [.cell (.str ByteArray.empty), .cell (.str ByteArray.empty)]), (0, .var [.cell (.v (.slice (.int .u8)) x0), .cell (.int .i64 r3.2.1), .cell (.int .u64 r3.2.2)])]) rfl rfl ?_
  refine ao_nil ?_
  refine aq_then ?_
  refine aw_block ?_
  refine aw_seq ?_
  refine aw_region ?_
  refine ao_read trivial (r_eql rfl rfl) rfl ?_
  refine ao_read trivial (r_assign rfl) rfl ?_
  refine ao_nil ?_
  refine aq_then ?_
  refine aw_cond rfl (fun hb4 => ?_) (fun hb4 => ?_)
  · have q5 := d_t hb4
    replace h := is_if (d_t hb4) h
    refine aw_region ?_
    refine ao_read trivial (r_move rfl) rfl ?_
    refine ao_eff trivial (e_makeSlice 5 (t := (.int .u8)) Tryd.underlying30 (rfl : Tryd.prog.info? 5 = some _) rfl rfl rfl rfl rfl rfl (by omega) (by omega) rfl rfl) rfl ?_
    refine ao_read trivial (r_bytes_str Tryd.underlying30 Tryd.underlying5 Tryd.underlying9 rfl rfl) rfl ?_
    refine ao_eff trivial (e_buildSlice (l := [(0, .const (.string (ByteArray.mk #[]))), (1, .const (.string (ByteArray.mk #[97, 64, 98]))), (2, .const (.string (ByteArray.mk #[97, 35]))), (3, .const (.string (ByteArray.mk #[10]))), (4, .tmp 17)]) (t := .str) 6 ([(ByteArray.mk #[]), (ByteArray.mk #[97, 64, 98]), (ByteArray.mk #[97, 35]), (ByteArray.mk #[10]), (bytesB (List.replicate 3 0))] : (List ByteArray)) rfl Tryd.underlying76 Tryd.zeroValue9 Tryd.sizeOf9 rfl rfl rfl rfl rfl rfl rfl) rfl ?_
    obtain ⟨r7, r7h, h⟩ := is_bind h
    refine ao_frz (fr' := [(0, .ref 0 0), (2, .ref 1 0), (4, .ref 0 0), (5, .v (.slice .str) ([(ByteArray.mk #[114, 111, 108, 108]), (ByteArray.mk #[99, 104, 97, 110, 99, 101, 32, 55]), (ByteArray.mk #[120]), (ByteArray.mk #[97, 103, 97, 105, 110, 32, 49]), (ByteArray.mk #[48, 32, 49])] : (List ByteArray))), (6, .str r1.1), (7, .ref 0 0), (8, .v (.slice .str) ([(ByteArray.mk #[]), (ByteArray.mk #[51]), (ByteArray.mk #[63]), (ByteArray.mk #[97, 64, 98]), (ByteArray.mk #[51, 32, 49, 32, 50])] : (List ByteArray))), (9, .str r2.1), (10, .v (.pair .str (.pair .str .unit)) ((r1.1, (r2.1, ())) : (ByteArray × (ByteArray × Unit)))), (3, .ref 4 0), (11, .ref 0 0), (12, .int .i64 r3.1), (14, .bool (decide (r3.1 = 0))), (13, .bool (decide (r3.1 = 0))), (15, .ref 0 0), (16, .os 5), (17, .str (bytesB (List.replicate 3 0))), (18, .v (.slice .str) ([(ByteArray.mk #[]), (ByteArray.mk #[97, 64, 98]), (ByteArray.mk #[97, 35]), (ByteArray.mk #[10]), (bytesB (List.replicate 3 0))] : (List ByteArray)))]) (H' := [(5, .row (.int .u8) ((List.replicate 3 0) : (List Int))), (4, .var [.cell (.str r1.1), .cell (.str r2.1)]), (1, .var [.cell (.str ByteArray.empty), .cell (.str ByteArray.empty)]), (0, .var [.cell (.v (.slice (.int .u8)) x0), .cell (.int .i64 r3.2.1), .cell (.int .u64 r3.2.2)])]) (by exact ⟨⟨_, rfl, ad_ren rfl⟩, ⟨_, rfl, ad_ren rfl⟩, ⟨_, rfl, ad_ren rfl⟩, ⟨_, rfl, ad_ren rfl⟩, ⟨_, rfl, ad_ren rfl⟩, ⟨_, rfl, ad_ren rfl⟩, ⟨_, rfl, ad_ren rfl⟩, ⟨_, rfl, ad_ren rfl⟩, ⟨_, rfl, ad_ren rfl⟩, ⟨_, rfl, ad_ren rfl⟩, ⟨_, rfl, ad_ren rfl⟩, ⟨_, rfl, ad_ren rfl⟩, ⟨_, rfl, ad_ren rfl⟩, ⟨_, rfl, ad_ren rfl⟩, ⟨_, rfl, ad_ren rfl⟩, ⟨_, rfl, ad_ren rfl⟩, ⟨_, rfl, ad_ren rfl⟩, ⟨_, rfl, ad_osB rfl rfl⟩, trivial⟩) (by exact ⟨⟨_, rfl, rfl⟩, ⟨_, rfl, ⟨ad_ren rfl, rfl, ad_ren rfl, rfl, trivial⟩⟩, ⟨_, rfl, ⟨ad_ren rfl, rfl, ad_ren rfl, rfl, trivial⟩⟩, ⟨_, rfl, ⟨ad_ren rfl, rfl, ad_ren rfl, rfl, ad_ren rfl, rfl, trivial⟩⟩, trivial⟩) rfl ?_
    refine ao_callV [0] 7 trivial (c_spec_l1Cur_of (is_mk r7h)) Tryd.func49 rfl rfl rfl rfl rfl ⟨rfl, trivial⟩ ⟨⟨_, rfl, ⟨ad_ren rfl, rfl, ad_ren rfl, rfl, ad_ren rfl, rfl, trivial⟩⟩, trivial⟩ rfl rfl rfl rfl rfl rfl rfl (fun r' H' hr => ?_)
    obtain ⟨rfl, rfl⟩ := hr
    refine ao_norm (y := .str r7.1) (H' := [(5, .row (.int .u8) ((List.replicate 3 0) : (List Int))), (4, .var [.cell (.str r1.1), .cell (.str r2.1)]), (1, .var [.cell (.str ByteArray.empty), .cell (.str ByteArray.empty)]), (0, .var [.cell (.v (.slice (.int .u8)) x0), .cell (.int .i64 r7.2.1), .cell (.int .u64 r7.2.2)])]) rfl rfl ?_
    refine ao_read trivial (r_fieldAddr Tryd.underlying33 rfl Tryd.sizeOf9 rfl rfl rfl) rfl ?_
    refine ao_effS trivial (e_store rfl rfl rfl rfl Tryd.sizeOf9 rfl) ?_
    refine ao_nil ?_
    refine aq_in ?_
    refine aq_then ?_
    refine aw_seq ?_
    refine aw_region ?_
    refine ao_read trivial (r_load_part (τ := (.pair .str (.pair .str .unit))) (y := ((r7.1, (r2.1, ())) : (ByteArray × (ByteArray × Unit)))) [] [] rfl Tryd.isAgg33 Tryd.sizeOf33 rfl rfl rfl rfl) rfl ?_
    refine ao_effS trivial (e_store rfl rfl rfl rfl Tryd.sizeOf33 rfl) ?_
    refine ao_nil ?_
    refine aq_then ?_
    refine aw_ret ?_
    refine aq_ret ?_
    obtain rfl := is_some h
    exact aq_finV (l := [.cell 2 33]) (xs := [.st [.str r7.1, .str r2.1]]) idn [.v (.pair .str (.pair .str .unit)) ((r7.1, (r2.1, ())) : (ByteArray × (ByteArray × Unit)))] [(0, .var [.cell (.v (.slice (.int .u8)) x0), .cell (.int .i64 r7.2.1), .cell (.int .u64 r7.2.2)])] rfl (by exact ⟨⟨⟨_, _, rfl⟩, r_load_st [] [.cell (.str r7.1), .cell (.str r2.1)] [] Tryd.isAgg33 Tryd.sizeOf33 rfl rfl rfl rfl rfl rfl rfl⟩, trivial⟩) (by exact ⟨ad_st rfl rfl ⟨ad_ren rfl, ad_ren rfl, trivial⟩, trivial⟩) (by exact ⟨⟨_, rfl, ⟨ad_ren rfl, rfl, ad_ren rfl, rfl, ad_ren rfl, rfl, trivial⟩⟩, trivial⟩) rfl (nk1 rfl rfl) ⟨rfl, rfl⟩
  · have q6 := d_f hb4
    replace h := is_else (d_f hb4) h
    refine aw_seq ?_
    refine aw_region ?_
    refine ao_read trivial (r_eql rfl rfl) rfl ?_
    refine ao_read trivial (r_assign rfl) rfl ?_
    refine ao_nil ?_
    refine aq_then ?_
    refine aw_cond rfl (fun hb8 => ?_) (fun hb8 => ?_)
    · have q9 := d_t hb8
      replace h := is_if (d_t hb8) h
      refine aw_region ?_
      refine ao_read trivial (r_move rfl) rfl ?_
      refine ao_eff trivial (e_buildSlice (l := [(0, .const (.string (ByteArray.mk #[35]))), (1, .const (.string (ByteArray.mk #[10]))), (2, .const (.string (ByteArray.mk #[127])))]) (t := .str) 7 ([(ByteArray.mk #[35]), (ByteArray.mk #[10]), (ByteArray.mk #[127])] : (List ByteArray)) rfl Tryd.underlying76 Tryd.zeroValue9 Tryd.sizeOf9 rfl rfl rfl rfl rfl rfl rfl) rfl ?_
      obtain ⟨r11, r11h, h⟩ := is_bind h
      refine ao_frz (fr' := [(0, .ref 0 0), (2, .ref 1 0), (4, .ref 0 0), (5, .v (.slice .str) ([(ByteArray.mk #[114, 111, 108, 108]), (ByteArray.mk #[99, 104, 97, 110, 99, 101, 32, 55]), (ByteArray.mk #[120]), (ByteArray.mk #[97, 103, 97, 105, 110, 32, 49]), (ByteArray.mk #[48, 32, 49])] : (List ByteArray))), (6, .str r1.1), (7, .ref 0 0), (8, .v (.slice .str) ([(ByteArray.mk #[]), (ByteArray.mk #[51]), (ByteArray.mk #[63]), (ByteArray.mk #[97, 64, 98]), (ByteArray.mk #[51, 32, 49, 32, 50])] : (List ByteArray))), (9, .str r2.1), (10, .v (.pair .str (.pair .str .unit)) ((r1.1, (r2.1, ())) : (ByteArray × (ByteArray × Unit)))), (3, .ref 4 0), (11, .ref 0 0), (12, .int .i64 r3.1), (14, .bool (decide (r3.1 = 0))), (13, .bool (decide (r3.1 = 0))), (22, .bool (decide (r3.1 = 1))), (21, .bool (decide (r3.1 = 1))), (23, .ref 0 0), (24, .v (.slice .str) ([(ByteArray.mk #[35]), (ByteArray.mk #[10]), (ByteArray.mk #[127])] : (List ByteArray)))]) (H' := [(4, .var [.cell (.str r1.1), .cell (.str r2.1)]), (1, .var [.cell (.str ByteArray.empty), .cell (.str ByteArray.empty)]), (0, .var [.cell (.v (.slice (.int .u8)) x0), .cell (.int .i64 r3.2.1), .cell (.int .u64 r3.2.2)])]) (by exact ⟨⟨_, rfl, ad_ren rfl⟩, ⟨_, rfl, ad_ren rfl⟩, ⟨_, rfl, ad_ren rfl⟩, ⟨_, rfl, ad_ren rfl⟩, ⟨_, rfl, ad_ren rfl⟩, ⟨_, rfl, ad_ren rfl⟩, ⟨_, rfl, ad_ren rfl⟩, ⟨_, rfl, ad_ren rfl⟩, ⟨_, rfl, ad_ren rfl⟩, ⟨_, rfl, ad_ren rfl⟩, ⟨_, rfl, ad_ren rfl⟩, ⟨_, rfl, ad_ren rfl⟩, ⟨_, rfl, ad_ren rfl⟩, ⟨_, rfl, ad_ren rfl⟩, ⟨_, rfl, ad_ren rfl⟩, ⟨_, rfl, ad_ren rfl⟩, ⟨_, rfl, ad_ren rfl⟩, ⟨_, rfl, ad_osB rfl rfl⟩, trivial⟩) (by exact ⟨⟨_, rfl, ⟨ad_ren rfl, rfl, ad_ren rfl, rfl, trivial⟩⟩, ⟨_, rfl, ⟨ad_ren rfl, rfl, ad_ren rfl, rfl, trivial⟩⟩, ⟨_, rfl, ⟨ad_ren rfl, rfl, ad_ren rfl, rfl, ad_ren rfl, rfl, trivial⟩⟩, trivial⟩) rfl ?_
      refine ao_callV [0] 8 trivial (c_spec_l1Cur_of (is_mk r11h)) Tryd.func49 rfl rfl rfl rfl rfl ⟨rfl, trivial⟩ ⟨⟨_, rfl, ⟨ad_ren rfl, rfl, ad_ren rfl, rfl, ad_ren rfl, rfl, trivial⟩⟩, trivial⟩ rfl rfl rfl rfl rfl rfl rfl (fun r' H' hr => ?_)
      obtain ⟨rfl, rfl⟩ := hr
      refine ao_norm (y := .str r11.1) (H' := [(4, .var [.cell (.str r1.1), .cell (.str r2.1)]), (1, .var [.cell (.str ByteArray.empty), .cell (.str ByteArray.empty)]), (0, .var [.cell (.v (.slice (.int .u8)) x0), .cell (.int .i64 r11.2.1), .cell (.int .u64 r11.2.2)])]) rfl rfl ?_
      refine ao_read trivial (r_fieldAddr Tryd.underlying33 rfl Tryd.sizeOf9 rfl rfl rfl) rfl ?_
      refine ao_effS trivial (e_store rfl rfl rfl rfl Tryd.sizeOf9 rfl) ?_
      refine ao_nil ?_
      refine aq_in ?_
      refine aq_then ?_
      refine aw_seq ?_
      refine aw_region ?_
      refine ao_read trivial (r_load_part (τ := (.pair .str (.pair .str .unit))) (y := ((r1.1, (r11.1, ())) : (ByteArray × (ByteArray × Unit)))) [] [] rfl Tryd.isAgg33 Tryd.sizeOf33 rfl rfl rfl rfl) rfl ?_
      refine ao_effS trivial (e_store rfl rfl rfl rfl Tryd.sizeOf33 rfl) ?_
      refine ao_nil ?_
      refine aq_then ?_
      refine aw_ret ?_
      refine aq_ret ?_
      obtain rfl := is_some h
      exact aq_finV (l := [.cell 2 33]) (xs := [.st [.str r1.1, .str r11.1]]) idn [.v (.pair .str (.pair .str .unit)) ((r1.1, (r11.1, ())) : (ByteArray × (ByteArray × Unit)))] [(0, .var [.cell (.v (.slice (.int .u8)) x0), .cell (.int .i64 r11.2.1), .cell (.int .u64 r11.2.2)])] rfl (by exact ⟨⟨⟨_, _, rfl⟩, r_load_st [] [.cell (.str r1.1), .cell (.str r11.1)] [] Tryd.isAgg33 Tryd.sizeOf33 rfl rfl rfl rfl rfl rfl rfl⟩, trivial⟩) (by exact ⟨ad_st rfl rfl ⟨ad_ren rfl, ad_ren rfl, trivial⟩, trivial⟩) (by exact ⟨⟨_, rfl, ⟨ad_ren rfl, rfl, ad_ren rfl, rfl, ad_ren rfl, rfl, trivial⟩⟩, trivial⟩) rfl (nk1 rfl rfl) ⟨rfl, rfl⟩
    · have q10 := d_f hb8
      replace h := is_else (d_f hb8) h
      refine aw_skip ?_
      refine aq_in ?_
      refine aq_then ?_
      refine aw_seq ?_
      refine aw_region ?_
      refine ao_read trivial (r_load_part (τ := (.pair .str (.pair .str .unit))) (y := ((r1.1, (r2.1, ())) : (ByteArray × (ByteArray × Unit)))) [] [] rfl Tryd.isAgg33 Tryd.sizeOf33 rfl rfl rfl rfl) rfl ?_
      refine ao_effS trivial (e_store rfl rfl rfl rfl Tryd.sizeOf33 rfl) ?_
      refine ao_nil ?_
      refine aq_then ?_
      refine aw_ret ?_
      refine aq_ret ?_
      obtain rfl := is_some h
      exact aq_finV (l := [.cell 2 33]) (xs := [.st [.str r1.1, .str r2.1]]) idn [.v (.pair .str (.pair .str .unit)) ((r1.1, (r2.1, ())) : (ByteArray × (ByteArray × Unit)))] [(0, .var [.cell (.v (.slice (.int .u8)) x0), .cell (.int .i64 r3.2.1), .cell (.int .u64 r3.2.2)])] rfl (by exact ⟨⟨⟨_, _, rfl⟩, r_load_st [] [.cell (.str r1.1), .cell (.str r2.1)] [] Tryd.isAgg33 Tryd.sizeOf33 rfl rfl rfl rfl rfl rfl rfl⟩, trivial⟩) (by exact ⟨ad_st rfl rfl ⟨ad_ren rfl, ad_ren rfl, trivial⟩, trivial⟩) (by exact ⟨⟨_, rfl, ⟨ad_ren rfl, rfl, ad_ren rfl, rfl, ad_ren rfl, rfl, trivial⟩⟩, trivial⟩) rfl (nk1 rfl rfl) ⟨rfl, rfl⟩
theorem c_spec_DrawIsValidRecord {x0 : (List Int)} {r : (ByteArray × (ByteArray × Unit))} (h : Is (p_spec_DrawIsValidRecord x0) (some r)) :
    Scalar Tryd.prog 10 [.v (.slice (.int .u8)) x0] (.v (.pair .str (.pair .str .unit)) r) := by
  unfold p_spec_DrawIsValidRecord at h
  refine ac_enter ⟨9, 0⟩ Tryd.func10 rfl rfl rfl rfl rfl (fun Γ => ?_)
  refine sl_len_m 0 (x0.length : Int) rfl rfl (fun hl0 => ?_)
  refine aw_seq ?_
  refine aw_region ?_
  refine ao_eff trivial (e_alloc 0 (y := .st [.str ByteArray.empty, .str ByteArray.empty]) Tryd.zeroValue33 (fun ρ h M => ra_zero_st (t := (.pair .str (.pair .str .unit))) rfl rfl rfl) rfl rfl rfl rfl rfl) rfl ?_
  refine ao_nil ?_
  refine aq_then ?_
  refine aw_seq ?_
  refine aw_region ?_
  refine ao_read trivial (r_move rfl) rfl ?_
  refine ao_read trivial (r_build_st (l := [(0, .tmp 4)]) (cs := [.cell (.v (.slice (.int .u8)) x0), .cell (.int .i64 0), .cell (.int .u64 0)]) (.pair (.slice (.int .u8)) (.pair (.int .i64) (.pair (.int .u64) .unit))) [(0, 1), (1, 1), (2, 1)] Tryd.underlying59 Tryd.zeroValue59 rfl ⟨rfl, Tryd.sizeOf30, rfl, Tryd.sizeOf3, rfl, Tryd.sizeOf57, trivial⟩ rfl rfl rfl) rfl ?_
  refine ao_eff trivial (e_box 1 rfl rfl rfl rfl rfl rfl) rfl ?_
  refine ao_read trivial (r_assign rfl) rfl ?_
  refine ao_nil ?_
  refine aq_then ?_
  refine aw_seq ?_
  refine aw_region ?_
  refine ao_read trivial (r_move rfl) rfl ?_
  obtain ⟨r1, r1h, h⟩ := is_bind h
  refine ao_callV [1] 2 trivial (c_spec_l1Cur_logRecord (is_mk r1h)) Tryd.func33 rfl rfl rfl rfl rfl ⟨rfl, trivial⟩ ⟨⟨_, rfl, ⟨ad_ren rfl, rfl, ad_ren rfl, rfl, ad_ren rfl, rfl, trivial⟩⟩, trivial⟩ rfl rfl rfl rfl rfl rfl rfl (fun r' H' hr => ?_)
  obtain ⟨rfl, rfl⟩ := hr
  refine ao_norm (y := .v (.pair .str (.pair .str .unit)) r1.1) (H' := [(0, .var [.cell (.str ByteArray.empty), .cell (.str ByteArray.empty)]), (1, .var [.cell (.v (.slice (.int .u8)) x0), .cell (.int .i64 r1.2.1), .cell (.int .u64 r1.2.2)])]) rfl rfl ?_
  refine ao_effS trivial (e_store rfl rfl rfl rfl Tryd.sizeOf33 rfl) ?_
  refine ao_nil ?_
  refine aq_then ?_
  refine aw_ret ?_
  refine aq_ret ?_
  obtain rfl := is_some h
  exact aq_finx (l := [.cell 2 33]) (xs := [.st [.str r1.1.1, .str r1.1.2.1]]) idn [.v (.pair .str (.pair .str .unit)) ((r1.1.1, (r1.1.2.1, ())) : (ByteArray × (ByteArray × Unit)))] [] rfl (by exact ⟨⟨⟨_, _, rfl⟩, r_load_st [] [.cell (.str r1.1.1), .cell (.str r1.1.2.1)] [] Tryd.isAgg33 Tryd.sizeOf33 rfl rfl rfl rfl rfl rfl rfl⟩, trivial⟩) (by exact ⟨ad_st rfl rfl ⟨ad_ren rfl, ad_ren rfl, trivial⟩, trivial⟩) (by exact trivial) rfl (nk rfl) rfl rfl ⟨rfl, rfl⟩
theorem c_laws_rCut {x0 : (List Int)} {x1 : Int} {r : (List Int)} (h : Is (p_laws_rCut x0 x1) (some r)) :
    ACallsV Tryd.prog 12 [.v (.slice (.int .u8)) x0, .int .i64 x1] [] (fun r' H' => r' = .v (.slice (.int .u8)) r ∧ H' = []) := by
  unfold p_laws_rCut at h
  refine ac_enterV ⟨14, 0⟩ Tryd.func12 rfl rfl rfl rfl rfl (fun Γ => ?_)
  refine sl_len_m 0 (x0.length : Int) rfl rfl (fun hl0 => ?_)
  refine aw_seq ?_
  refine aw_region ?_
  refine ao_read trivial (r_assign rfl) rfl ?_
  refine ao_nil ?_
  refine aq_then ?_
  refine aw_seq ?_
  refine aw_seq ?_
  refine aw_region ?_
  refine ao_read trivial (r_move rfl) rfl ?_
  refine ao_read trivial (r_move rfl) rfl ?_
  refine ao_read trivial (r_len_vm (x0.length : Int) Tryd.underlying30 rfl rfl) rfl ?_
  refine ao_read trivial (r_gtr rfl rfl) rfl ?_
  refine ao_nil ?_
  refine aq_then ?_
  refine aw_cond rfl (fun hb1 => ?_) (fun hb1 => ?_)
  · have q2 := d_t hb1
    replace h := is_if (d_t hb1) h
    refine aw_region ?_
    refine ao_read trivial (r_move rfl) rfl ?_
    refine ao_read trivial (r_len_vm (x0.length : Int) Tryd.underlying30 rfl rfl) rfl ?_
    refine ao_read trivial (r_assign rfl) rfl ?_
    refine ao_nil ?_
    refine aq_then ?_
    refine aw_seq ?_
    refine aw_region ?_
    refine ao_read trivial (r_move rfl) rfl ?_
    refine ao_read trivial (r_move rfl) rfl ?_
    refine ao_read trivial (r_slice_vm (t := (.int .u8)) ((x0.drop (x0.length : Int).toNat) : (List Int)) Tryd.underlying30 Tryd.sizeOf5 rfl (.some rfl) .none (show 0 ≤ (x0.length : Int) from by omega) (show (x0.length : Int) ≤ (x0.length : Int) from by omega) (show (x0.length : Int) ≤ (x0.length : Int) from by omega) sl_hi) rfl ?_
    refine ao_read trivial (r_assign rfl) rfl ?_
    refine ao_nil ?_
    refine aq_then ?_
    refine aw_ret ?_
    refine aq_ret ?_
    obtain rfl := is_some h
    exact aq_finV (l := [.tmp 4]) (xs := [.v (.slice (.int .u8)) ((x0.drop (x0.length : Int).toNat) : (List Int))]) idn [.v (.slice (.int .u8)) ((x0.drop (x0.length : Int).toNat) : (List Int))] [] rfl (by exact ⟨rfl, trivial⟩) (by exact ⟨ad_ren rfl, trivial⟩) (by exact trivial) rfl (nk rfl) ⟨rfl, rfl⟩
  · have q3 := d_f hb1
    replace h := is_else (d_f hb1) h
    refine aw_skip ?_
    refine aq_then ?_
    refine aw_seq ?_
    refine aw_region ?_
    refine ao_read trivial (r_move rfl) rfl ?_
    refine ao_read trivial (r_move rfl) rfl ?_
    obtain ⟨g4, h⟩ := is_guard h
    refine ao_read trivial (r_slice_vm (t := (.int .u8)) ((x0.drop x1.toNat) : (List Int)) Tryd.underlying30 Tryd.sizeOf5 rfl (.some rfl) .none (show 0 ≤ x1 from by omega) (show x1 ≤ (x0.length : Int) from by omega) (show (x0.length : Int) ≤ (x0.length : Int) from by omega) sl_hi) rfl ?_
    refine ao_read trivial (r_assign rfl) rfl ?_
    refine ao_nil ?_
    refine aq_then ?_
    refine aw_ret ?_
    refine aq_ret ?_
    obtain rfl := is_some h
    exact aq_finV (l := [.tmp 4]) (xs := [.v (.slice (.int .u8)) ((x0.drop x1.toNat) : (List Int))]) idn [.v (.slice (.int .u8)) ((x0.drop x1.toNat) : (List Int))] [] rfl (by exact ⟨rfl, trivial⟩) (by exact ⟨ad_ren rfl, trivial⟩) (by exact trivial) rfl (nk rfl) ⟨rfl, rfl⟩
theorem c_spec_l1Cur_among {x0 : (List Int)} {x1 : (List Int)} {x2 : Int} {x3 : Int} {r : Int × Int × Int} (h : Is (p_spec_l1Cur_among x0 x1 x2 x3) (some r)) :
    ACallsV Tryd.prog 34 [.ref 0 0, .v (.slice (.int .i64)) x0] [(0, .var [.cell (.v (.slice (.int .u8)) x1), .cell (.int .i64 x2), .cell (.int .u64 x3)])] (fun r' H' => r' = .int .i64 r.1 ∧ H' = [(0, .var [.cell (.v (.slice (.int .u8)) x1), .cell (.int .i64 r.2.1), .cell (.int .u64 r.2.2)])]) := by
  unfold p_spec_l1Cur_among at h
  refine ac_enterV ⟨12, 1⟩ Tryd.func34 rfl rfl rfl rfl rfl (fun Γ => ?_)
  refine sl_len_m 1 (x0.length : Int) rfl rfl (fun hl1 => ?_)
  refine aw_seq ?_
  refine aw_region ?_
  refine ao_read trivial (r_assign rfl) rfl ?_
  refine ao_nil ?_
  refine aq_then ?_
  refine aw_seq ?_
  refine aw_region ?_
  refine ao_read trivial (r_move rfl) rfl ?_
  refine ao_read trivial (r_move rfl) rfl ?_
  refine ao_read trivial (r_move rfl) rfl ?_
  refine ao_read trivial (r_len_vm (x0.length : Int) Tryd.underlying62 rfl rfl) rfl ?_
  obtain ⟨r1, r1h, h⟩ := is_bind h
  refine ao_callV [0] 1 trivial (c_spec_l1Cur_pick (is_mk r1h)) Tryd.func43 rfl rfl rfl rfl rfl ⟨rfl, trivial⟩ ⟨⟨_, rfl, ⟨ad_ren rfl, rfl, ad_ren rfl, rfl, ad_ren rfl, rfl, trivial⟩⟩, trivial⟩ rfl rfl rfl rfl rfl rfl rfl (fun r' H' hr => ?_)
  obtain ⟨rfl, rfl⟩ := hr
  refine ao_norm (y := .int .i64 r1.1) (H' := [(0, .var [.cell (.v (.slice (.int .u8)) x1), .cell (.int .i64 r1.2.1), .cell (.int .u64 r1.2.2)])]) rfl rfl ?_
  obtain ⟨g2, h⟩ := is_guard h
  obtain ⟨g3, h⟩ := is_guard h
  refine ao_read trivial (r_idxAddr_int Tryd.underlying62 Tryd.sizeOf3 rfl rfl (show 0 ≤ r1.1 from by omega) (show r1.1 < (x0.length : Int) from by omega)) rfl ?_
  refine ao_read trivial (r_load_c_int Tryd.isAgg3 Tryd.sizeOf3 rfl) rfl ?_
  refine ao_read trivial (r_assign rfl) rfl ?_
  refine ao_nil ?_
  refine aq_then ?_
  refine aw_ret ?_
  refine aq_ret ?_
  obtain rfl := is_some h
  exact aq_finV (l := [.tmp 4]) (xs := [.int .i64 (x0.getD r1.1.toNat 0)]) idn [.int .i64 (x0.getD r1.1.toNat 0)] [(0, .var [.cell (.v (.slice (.int .u8)) x1), .cell (.int .i64 r1.2.1), .cell (.int .u64 r1.2.2)])] rfl (by exact ⟨rfl, trivial⟩) (by exact ⟨ad_ren rfl, trivial⟩) (by exact ⟨⟨_, rfl, ⟨ad_ren rfl, rfl, ad_ren rfl, rfl, ad_ren rfl, rfl, trivial⟩⟩, trivial⟩) rfl (nk1 rfl rfl) ⟨rfl, rfl⟩
theorem c_spec_DrawEncodeRecord {x0 : (List Int)} {r : Int × (ByteArray × (ByteArray × Unit))} (h : Is (p_spec_DrawEncodeRecord x0) (some r)) :
    Scalar Tryd.prog 11 [.v (.slice (.int .u8)) x0] (.tup [.int .i64 r.1, .v (.pair .str (.pair .str .unit)) r.2]) := by
  unfold p_spec_DrawEncodeRecord at h
  refine ac_enter ⟨15, 0⟩ Tryd.func11 rfl rfl rfl rfl rfl (fun Γ => ?_)
  refine sl_len_m 0 (x0.length : Int) rfl rfl (fun hl0 => ?_)
  refine aw_seq ?_
  refine aw_region ?_
  refine ao_read trivial (r_assign rfl) rfl ?_
  refine ao_eff trivial (e_alloc 0 (y := .st [.str ByteArray.empty, .str ByteArray.empty]) Tryd.zeroValue33 (fun ρ h M => ra_zero_st (t := (.pair .str (.pair .str .unit))) rfl rfl rfl) rfl rfl rfl rfl rfl) rfl ?_
  refine ao_nil ?_
  refine aq_then ?_
  refine aw_seq ?_
  refine aw_region ?_
  refine ao_read trivial (r_move rfl) rfl ?_
  refine ao_read trivial (r_build_st (l := [(0, .tmp 6)]) (cs := [.cell (.v (.slice (.int .u8)) x0), .cell (.int .i64 0), .cell (.int .u64 0)]) (.pair (.slice (.int .u8)) (.pair (.int .i64) (.pair (.int .u64) .unit))) [(0, 1), (1, 1), (2, 1)] Tryd.underlying59 Tryd.zeroValue59 rfl ⟨rfl, Tryd.sizeOf30, rfl, Tryd.sizeOf3, rfl, Tryd.sizeOf57, trivial⟩ rfl rfl rfl) rfl ?_
  refine ao_eff trivial (e_box 1 rfl rfl rfl rfl rfl rfl) rfl ?_
  refine ao_read trivial (r_assign rfl) rfl ?_
  refine ao_nil ?_
  refine aq_then ?_
  refine aw_seq ?_
  refine aw_region ?_
  refine ao_read trivial (r_move rfl) rfl ?_
  refine ao_eff trivial (e_buildSlice (l := [(0, .const (.int .i64 0)), (1, .const (.int .i64 1)), (2, .const (.int .i64 12)), (3, .const (.int .i64 59)), (4, .const (.int .i64 60)), (5, .const (.int .i64 (-1)))]) (t := (.int .i64)) 2 ([0, 1, 12, 59, 60, (-1)] : (List Int)) rfl Tryd.underlying62 Tryd.zeroValue3 Tryd.sizeOf3 rfl rfl rfl rfl rfl rfl rfl) rfl ?_
  obtain ⟨r1, r1h, h⟩ := is_bind h
  refine ao_frz (fr' := [(0, .v (.slice (.int .u8)) x0), (2, .int .i64 0), (3, .ref 0 0), (6, .v (.slice (.int .u8)) x0), (7, .st [.v (.slice (.int .u8)) x0, .int .i64 0, .int .u64 0]), (8, .ref 1 0), (4, .ref 1 0), (9, .ref 1 0), (10, .v (.slice (.int .i64)) ([0, 1, 12, 59, 60, (-1)] : (List Int)))]) (H' := [(1, .var [.cell (.v (.slice (.int .u8)) x0), .cell (.int .i64 0), .cell (.int .u64 0)]), (0, .var [.cell (.str ByteArray.empty), .cell (.str ByteArray.empty)])]) (by exact ⟨⟨_, rfl, ad_ren rfl⟩, ⟨_, rfl, ad_ren rfl⟩, ⟨_, rfl, ad_ren rfl⟩, ⟨_, rfl, ad_ren rfl⟩, ⟨_, rfl, ad_ren rfl⟩, ⟨_, rfl, ad_ren rfl⟩, ⟨_, rfl, ad_ren rfl⟩, ⟨_, rfl, ad_ren rfl⟩, ⟨_, rfl, ad_osB rfl rfl⟩, trivial⟩) (by exact ⟨⟨_, rfl, ⟨ad_ren rfl, rfl, ad_ren rfl, rfl, ad_ren rfl, rfl, trivial⟩⟩, ⟨_, rfl, ⟨ad_ren rfl, rfl, ad_ren rfl, rfl, trivial⟩⟩, trivial⟩) rfl ?_
  refine ao_callV [1] 3 trivial (c_spec_l1Cur_among (is_mk r1h)) Tryd.func34 rfl rfl rfl rfl rfl ⟨rfl, trivial⟩ ⟨⟨_, rfl, ⟨ad_ren rfl, rfl, ad_ren rfl, rfl, ad_ren rfl, rfl, trivial⟩⟩, trivial⟩ rfl rfl rfl rfl rfl rfl rfl (fun r' H' hr => ?_)
  obtain ⟨rfl, rfl⟩ := hr
  refine ao_norm (y := .int .i64 r1.1) (H' := [(0, .var [.cell (.str ByteArray.empty), .cell (.str ByteArray.empty)]), (1, .var [.cell (.v (.slice (.int .u8)) x0), .cell (.int .i64 r1.2.1), .cell (.int .u64 r1.2.2)])]) rfl rfl ?_
  refine ao_read trivial (r_assign rfl) rfl ?_
  refine ao_nil ?_
  refine aq_then ?_
  refine aw_seq ?_
  refine aw_region ?_
  refine ao_read trivial (r_move rfl) rfl ?_
  refine ao_read trivial (r_move rfl) rfl ?_
  obtain ⟨r2, r2h, h⟩ := is_bind h
  refine ao_callV [1] 3 trivial (c_spec_l1Cur_logRecord (is_mk r2h)) Tryd.func33 rfl rfl rfl rfl rfl ⟨rfl, trivial⟩ ⟨⟨_, rfl, ⟨ad_ren rfl, rfl, ad_ren rfl, rfl, ad_ren rfl, rfl, trivial⟩⟩, trivial⟩ rfl rfl rfl rfl rfl rfl rfl (fun r' H' hr => ?_)
  obtain ⟨rfl, rfl⟩ := hr
  refine ao_norm (y := .v (.pair .str (.pair .str .unit)) r2.1) (H' := [(0, .var [.cell (.str ByteArray.empty), .cell (.str ByteArray.empty)]), (1, .var [.cell (.v (.slice (.int .u8)) x0), .cell (.int .i64 r2.2.1), .cell (.int .u64 r2.2.2)])]) rfl rfl ?_
  refine ao_read trivial (r_assign rfl) rfl ?_
  refine ao_effS trivial (e_store rfl rfl rfl rfl Tryd.sizeOf33 rfl) ?_
  refine ao_nil ?_
  refine aq_then ?_
  refine aw_ret ?_
  refine aq_ret ?_
  obtain rfl := is_some h
  exact aq_finx (l := [.tmp 2, .cell 3 33]) (xs := [.int .i64 r1.1, .st [.str r2.1.1, .str r2.1.2.1]]) idn [.int .i64 r1.1, .v (.pair .str (.pair .str .unit)) ((r2.1.1, (r2.1.2.1, ())) : (ByteArray × (ByteArray × Unit)))] [] rfl (by exact ⟨rfl, ⟨⟨_, _, rfl⟩, r_load_st [] [.cell (.str r2.1.1), .cell (.str r2.1.2.1)] [] Tryd.isAgg33 Tryd.sizeOf33 rfl rfl rfl rfl rfl rfl rfl⟩, trivial⟩) (by exact ⟨ad_ren rfl, ad_st rfl rfl ⟨ad_ren rfl, ad_ren rfl, trivial⟩, trivial⟩) (by exact trivial) rfl (nk rfl) rfl rfl ⟨rfl, rfl⟩
theorem c_impl_within {x0 : Int} {x1 : Int} {x2 : Int} {r : Bool} (h : Is (p_impl_within x0 x1 x2) r) :
    Scalar Tryd.prog 32 [.int .i64 x0, .int .i64 x1, .int .i64 x2] (.bool r) := by
  unfold p_impl_within at h
  refine ac_enter ⟨15, 0⟩ Tryd.func32 rfl rfl rfl rfl rfl (fun Γ => ?_)
  refine aw_seq ?_
  refine aw_region ?_
  refine ao_read trivial (r_assign rfl) rfl ?_
  refine ao_nil ?_
  refine aq_then ?_
  refine aw_seq ?_
  refine aw_region ?_
  refine ao_read trivial (r_move rfl) rfl ?_
  refine ao_read trivial (r_move rfl) rfl ?_
  refine ao_read trivial (r_leq rfl rfl) rfl ?_
  refine ao_read trivial (r_move rfl) rfl ?_
  refine ao_readG (x := .int .i64 x0) rfl (GV.T rfl) (fun hg1 => by
        have q2 := d_t hg1
        exact r_move rfl) rfl ?_
  refine ao_readG (x := .int .i64 x2) rfl (GV.T rfl) (fun hg3 => by
        have q4 := d_t hg3
        exact r_move rfl) rfl ?_
  refine ao_readG (x := .bool (decide (x0 ≤ x2))) rfl (GV.T rfl) (fun hg5 => by
        have q6 := d_t hg5
        exact Reads.strip 11 rfl (hg5) (Reads.strip 12 rfl (hg5) (r_leq rfl rfl))) rfl ?_
  refine ao_read trivial (r_andB rfl rfl) rfl ?_
  refine ao_read trivial (r_assign rfl) rfl ?_
  refine ao_nil ?_
  refine aq_then ?_
  refine aw_ret ?_
  refine aq_ret ?_
  obtain rfl := is_eq h
  exact aq_finx (l := [.tmp 6]) (xs := [.bool ((decide (x1 ≤ x0)) && (decide (x0 ≤ x2)))]) idn [.bool ((decide (x1 ≤ x0)) && (decide (x0 ≤ x2)))] [] rfl (by exact ⟨rfl, trivial⟩) (by exact ⟨ad_ren rfl, trivial⟩) (by exact trivial) rfl (nk rfl) rfl rfl ⟨rfl, rfl⟩
theorem c_impl_isPrinted_1 {x0 : Int} {r : Bool} (h : Is (p_impl_isPrinted_1 x0) r) :
    Scalar Tryd.prog 58 [.int .u8 x0] (.bool r) := by
  unfold p_impl_isPrinted_1 at h
  refine ac_enter ⟨13, 0⟩ Tryd.func58 rfl rfl rfl rfl rfl (fun Γ => ?_)
  refine aw_seq ?_
  refine aw_region ?_
  refine ao_read trivial (r_assign rfl) rfl ?_
  refine ao_nil ?_
  refine aq_then ?_
  refine aw_seq ?_
  refine aw_region ?_
  refine ao_read trivial (r_move rfl) rfl ?_
  refine ao_read trivial (r_geq rfl rfl) rfl ?_
  refine ao_read trivial (r_move rfl) rfl ?_
  refine ao_readG (x := .int .u8 x0) rfl (GV.T rfl) (fun hg1 => by
        have q2 := d_t hg1
        exact r_move rfl) rfl ?_
  refine ao_readG (x := .bool (decide (x0 ≤ 126))) rfl (GV.T rfl) (fun hg3 => by
        have q4 := d_t hg3
        exact Reads.strip 6 rfl (hg3) (r_leq rfl rfl)) rfl ?_
  refine ao_read trivial (r_andB rfl rfl) rfl ?_
  refine ao_read trivial (r_move rfl) rfl ?_
  refine ao_readG (x := .int .u8 x0) rfl (GV.T rfl) (fun hg5 => by
        obtain ⟨q6, q7⟩ := and_t hg5
        have q8 := d_t q6
        have q9 := d_t q7
        exact r_move rfl) rfl ?_
  refine ao_readG (x := .bool (!(decide (x0 = 35)))) rfl (GV.T rfl) (fun hg10 => by
        obtain ⟨q11, q12⟩ := and_t hg10
        have q13 := d_t q11
        have q14 := d_t q12
        exact Reads.strip 10 rfl (hg10) (r_neq rfl rfl)) rfl ?_
  refine ao_read trivial (r_andB rfl rfl) rfl ?_
  refine ao_read trivial (r_assign rfl) rfl ?_
  refine ao_nil ?_
  refine aq_then ?_
  refine aw_ret ?_
  refine aq_ret ?_
  obtain rfl := is_eq h
  exact aq_finx (l := [.tmp 2]) (xs := [.bool (((decide (32 ≤ x0)) && (decide (x0 ≤ 126))) && (!(decide (x0 = 35))))]) idn [.bool (((decide (32 ≤ x0)) && (decide (x0 ≤ 126))) && (!(decide (x0 = 35))))] [] rfl (by exact ⟨rfl, trivial⟩) (by exact ⟨ad_ren rfl, trivial⟩) (by exact trivial) rfl (nk rfl) rfl rfl ⟨rfl, rfl⟩
theorem c_impl_areAll_byte_1 {x0 : Int} {r : Bool} (h : Is (p_impl_areAll_byte_1 x0) r) :
    Scalar Tryd.prog 69 [.int .u8 x0, .cav (.fn 58 [])] (.bool r) := by
  unfold p_impl_areAll_byte_1 at h
  refine ac_enter ⟨8, 0⟩ Tryd.func69 rfl rfl rfl rfl rfl (fun Γ => ?_)
  refine aw_seq ?_
  refine aw_region ?_
  refine ao_read trivial (r_assign rfl) rfl ?_
  refine ao_nil ?_
  refine aq_then ?_
  refine aw_seq ?_
  refine aw_region ?_
  refine ao_read trivial (r_load_cav Tryd.isAgg83 rfl) rfl ?_
  refine ao_read trivial (r_move rfl) rfl ?_
  refine ao_scall trivial (scall (c_impl_isPrinted_1 (is_mk (rfl : p_impl_isPrinted_1 x0 = _))) rfl Tryd.func58 rfl rfl rfl rfl (fun σ => ⟨ad_ren rfl, trivial⟩)) rfl ?_
  refine ao_read trivial (r_not rfl) rfl ?_
  refine ao_read trivial (r_assign rfl) rfl ?_
  refine ao_nil ?_
  refine aq_then ?_
  refine aw_ret ?_
  refine aq_ret ?_
  obtain rfl := is_eq h
  exact aq_finx (l := [.tmp 3]) (xs := [.bool (!(p_impl_isPrinted_1 x0))]) idn [.bool (!(p_impl_isPrinted_1 x0))] [] rfl (by exact ⟨rfl, trivial⟩) (by exact ⟨ad_ren rfl, trivial⟩) (by exact trivial) rfl (nk rfl) rfl rfl ⟨rfl, rfl⟩
theorem c_slices_IndexFunc_byte_byte {x0 : (List Int)} {r : Int} (h : Is (p_slices_IndexFunc_byte_byte x0) r) :
    Scalar Tryd.prog 79 [.v (.slice (.int .u8)) x0, .fn 69 [.cav (.fn 58 [])]] (.int .i64 r) := by
  unfold p_slices_IndexFunc_byte_byte at h
  refine ac_enter ⟨19, 0⟩ Tryd.func79 rfl rfl rfl rfl rfl (fun Γ => ?_)
  refine sl_len_m 0 (x0.length : Int) rfl rfl (fun hl0 => ?_)
  refine aw_seq ?_
  refine aw_region ?_
  refine ao_read trivial (r_assign rfl) rfl ?_
  refine ao_nil ?_
  refine aq_then ?_
  refine aw_seq ?_
  refine aw_seq ?_
  refine aw_region ?_
  refine ao_read trivial (r_move rfl) rfl ?_
  refine ao_read trivial (r_len_vm (x0.length : Int) Tryd.underlying30 rfl rfl) rfl ?_
  refine ao_read trivial (r_move rfl) rfl ?_
  refine ao_nil ?_
  refine aq_then ?_
  refine aw_block ?_
  refine aw_loop (AL.sub (fr' := [(0, .v (.slice (.int .u8)) x0), (1, .fn 69 [.cav (.fn 58 [])]), (7, .int .i64 (x0.length : Int)), (8, .int .i64 0)]) (H' := []) (sub_mk idn (by exact ⟨⟨_, rfl, ad_ren rfl⟩, ⟨_, rfl, ad_ren rfl⟩, ⟨_, rfl, ad_ren rfl⟩, ⟨_, rfl, ad_ren rfl⟩, trivial⟩) (by exact trivial) (by rfl) (nk rfl)) (al_cnt (fun i2 (s1 : Unit) => [(0, .v (.slice (.int .u8)) x0), (1, .fn 69 [.cav (.fn 58 [])]), (7, .int .i64 (x0.length : Int)), (8, .int .i64 i2)]) (fun i2 (s1 : Unit) => []) (fun d i2 (s1 : Unit) => d = Int.toNat ((x0.length : Int) - i2) ∧ 0 ≤ i2 ∧ i2 ≤ (x0.length : Int)) h ⟨rfl, (by (try simp only [List.length_set, List.length_append, List.length_cons, List.length_nil, List.length_replicate, List.length_take, List.length_drop]) <;> omega), (by (try simp only [List.length_set, List.length_append, List.length_cons, List.length_nil, List.length_replicate, List.length_take, List.length_drop]) <;> omega)⟩ (fun d3 i2 s1 hI h ih3 => ?_)))
  obtain ⟨hd, _, _⟩ := hI
  refine al_round ?_
  refine aw_seq ?_
  refine aw_region ?_
  refine ao_read trivial (r_lss rfl rfl) rfl ?_
  refine ao_nil ?_
  refine aq_then ?_
  refine aw_seq ?_
  refine aw_cond rfl (fun hb5 => ?_) (fun hb5 => ?_)
  · have q6 := d_t hb5
    obtain ⟨d3, rfl⟩ : ∃ e, d3 = e + 1 := ⟨d3 - 1, by omega⟩
    replace h := is_cntS h
    refine aw_skip ?_
    refine aq_then ?_
    refine aw_seq ?_
    refine aw_block ?_
    refine aw_seq ?_
    refine aw_region ?_
    refine ao_read trivial (r_move rfl) rfl ?_
    refine ao_read trivial (r_assign rfl) rfl ?_
    refine ao_nil ?_
    refine aq_then ?_
    refine aw_seq ?_
    refine aw_region ?_
    refine ao_read trivial (r_move rfl) rfl ?_
    refine ao_read trivial (r_move rfl) rfl ?_
    refine ao_read trivial (r_move rfl) rfl ?_
    refine ao_read trivial (r_idxAddr_int Tryd.underlying30 Tryd.sizeOf5 rfl rfl (show 0 ≤ i2 from by omega) (show i2 < (x0.length : Int) from by omega)) rfl ?_
    refine ao_read trivial (r_load_c_int Tryd.isAgg5 Tryd.sizeOf5 rfl) rfl ?_
    refine ao_scall trivial (scall (c_impl_areAll_byte_1 (is_mk (rfl : p_impl_areAll_byte_1 (x0.getD i2.toNat 0) = _))) rfl Tryd.func69 rfl rfl rfl rfl (fun σ => ⟨ad_ren rfl, ad_ren rfl, trivial⟩)) rfl ?_
    refine ao_nil ?_
    refine aq_then ?_
    refine aw_cond rfl (fun hb8 => ?_) (fun hb8 => ?_)
    · replace h := is_if hb8 h
      refine aw_seq ?_
      refine aw_region ?_
      refine ao_read trivial (r_move rfl) rfl ?_
      refine ao_read trivial (r_assign rfl) rfl ?_
      refine ao_nil ?_
      refine aq_then ?_
      refine aw_ret ?_
      refine aq_in_ret ?_
      refine aq_then_ret ?_
      refine aq_then_ret ?_
      refine aq_in_ret ?_
      refine aq_then_ret ?_
      refine aq_ret ?_
      obtain rfl := is_eq h
      exact aq_finx (l := [.tmp 4]) (xs := [.int .i64 i2]) idn [.int .i64 i2] [] rfl (by exact ⟨rfl, trivial⟩) (by exact ⟨ad_ren rfl, trivial⟩) (by exact trivial) rfl (nk rfl) rfl rfl ⟨rfl, rfl⟩
    · replace h := is_else (ne_t hb8) h
      refine aw_skip ?_
      refine aq_in ?_
      refine aq_then ?_
      refine aw_region ?_
      refine ao_read trivial (r_addI rfl rfl (wrap_id (by omega) (by omega))) rfl ?_
      refine ao_read trivial (r_move rfl) rfl ?_
      refine ao_nil ?_
      exact aq_again (AL.sub (sub_mk idn (by exact ⟨⟨_, rfl, ad_ren rfl⟩, ⟨_, rfl, ad_ren rfl⟩, ⟨_, rfl, ad_ren rfl⟩, ⟨_, rfl, ad_ren rfl⟩, trivial⟩) (by exact trivial) (by rfl) (nk rfl)) (ih3 d3 (i2 + 1) () (by omega) ⟨by omega, (by (try simp only [List.length_set, List.length_append, List.length_cons, List.length_nil, List.length_replicate, List.length_take, List.length_drop]) <;> omega), (by (try simp only [List.length_set, List.length_append, List.length_cons, List.length_nil, List.length_replicate, List.length_take, List.length_drop]) <;> omega)⟩ h))
  · have q7 := d_f hb5
    obtain rfl : d3 = 0 := by omega
    replace h := is_cnt0 h
    refine aw_exit ?_
    refine aq_then_exit ?_
    refine aq_then_exit ?_
    refine aq_in_exit ?_
    refine aq_then ?_
    refine aw_seq ?_
    refine aw_region ?_
    refine ao_read trivial (r_assign rfl) rfl ?_
    refine ao_nil ?_
    refine aq_then ?_
    refine aw_ret ?_
    refine aq_ret ?_
    obtain rfl := is_eq h
    exact aq_finx (l := [.tmp 4]) (xs := [.int .i64 (-1)]) idn [.int .i64 (-1)] [] rfl (by exact ⟨rfl, trivial⟩) (by exact ⟨ad_ren rfl, trivial⟩) (by exact trivial) rfl (nk rfl) rfl rfl ⟨rfl, rfl⟩
theorem c_slices_ContainsFunc_byte_byte {x0 : (List Int)} {r : Bool} (h : Is (p_slices_ContainsFunc_byte_byte x0) r) :
    Scalar Tryd.prog 68 [.v (.slice (.int .u8)) x0, .fn 69 [.cav (.fn 58 [])]] (.bool r) := by
  unfold p_slices_ContainsFunc_byte_byte at h
  refine ac_enter ⟨9, 0⟩ Tryd.func68 rfl rfl rfl rfl rfl (fun Γ => ?_)
  refine sl_len_m 0 (x0.length : Int) rfl rfl (fun hl0 => ?_)
  refine aw_seq ?_
  refine aw_region ?_
  refine ao_read trivial (r_assign rfl) rfl ?_
  refine ao_nil ?_
  refine aq_then ?_
  refine aw_seq ?_
  refine aw_region ?_
  refine ao_read trivial (r_move rfl) rfl ?_
  refine ao_read trivial (r_move rfl) rfl ?_
  refine ao_scall trivial (scall (c_slices_IndexFunc_byte_byte (is_mk (rfl : p_slices_IndexFunc_byte_byte x0 = _))) rfl Tryd.func79 rfl rfl rfl rfl (fun σ => ⟨ad_ren rfl, ad_ren rfl, trivial⟩)) rfl ?_
  refine ao_read trivial (r_geq rfl rfl) rfl ?_
  refine ao_read trivial (r_assign rfl) rfl ?_
  refine ao_nil ?_
  refine aq_then ?_
  refine aw_ret ?_
  refine aq_ret ?_
  obtain rfl := is_eq h
  exact aq_finx (l := [.tmp 4]) (xs := [.bool (decide (0 ≤ (p_slices_IndexFunc_byte_byte x0)))]) idn [.bool (decide (0 ≤ (p_slices_IndexFunc_byte_byte x0)))] [] rfl (by exact ⟨rfl, trivial⟩) (by exact ⟨ad_ren rfl, trivial⟩) (by exact trivial) rfl (nk rfl) rfl rfl ⟨rfl, rfl⟩
theorem c_impl_areAll_byte {x0 : (List Int)} {r : Bool} (h : Is (p_impl_areAll_byte x0) r) :
    Scalar Tryd.prog 57 [.v (.slice (.int .u8)) x0, .fn 58 []] (.bool r) := by
  unfold p_impl_areAll_byte at h
  refine ac_enter ⟨9, 0⟩ Tryd.func57 rfl rfl rfl rfl rfl (fun Γ => ?_)
  refine sl_len_m 0 (x0.length : Int) rfl rfl (fun hl0 => ?_)
  refine aw_seq ?_
  refine aw_region ?_
  refine ao_eff trivial (e_box 0 rfl rfl rfl rfl rfl rfl) rfl ?_
  refine ao_read trivial (r_assign rfl) rfl ?_
  refine ao_nil ?_
  refine aq_then ?_
  refine aw_seq ?_
  refine aw_region ?_
  refine ao_read trivial (r_move rfl) rfl ?_
  refine ao_read trivial (r_makeFunc (cs := [.tmp 3]) rfl) rfl ?_
  refine ao_scall trivial (scall (c_slices_ContainsFunc_byte_byte (is_mk (rfl : p_slices_ContainsFunc_byte_byte x0 = _))) rfl Tryd.func68 rfl rfl rfl rfl (fun σ => ⟨ad_ren rfl, ad_fn ⟨ad_refc0 rfl rfl (ad_ren rfl) rfl, trivial⟩, trivial⟩)) rfl ?_
  refine ao_read trivial (r_not rfl) rfl ?_
  refine ao_read trivial (r_assign rfl) rfl ?_
  refine ao_nil ?_
  refine aq_then ?_
  refine aw_ret ?_
  refine aq_ret ?_
  obtain rfl := is_eq h
  exact aq_finx (l := [.tmp 4]) (xs := [.bool (!(p_slices_ContainsFunc_byte_byte x0))]) idn [.bool (!(p_slices_ContainsFunc_byte_byte x0))] [] rfl (by exact ⟨rfl, trivial⟩) (by exact ⟨ad_ren rfl, trivial⟩) (by exact trivial) rfl (nk rfl) rfl rfl ⟨rfl, rfl⟩
theorem c_impl_isPrinted {x0 : ByteArray} {r : Bool} (h : Is (p_impl_isPrinted x0) (some r)) :
    Scalar Tryd.prog 40 [.str x0] (.bool r) := by
  unfold p_impl_isPrinted at h
  refine ac_enter ⟨6, 0⟩ Tryd.func40 rfl rfl rfl rfl rfl (fun Γ => ?_)
  obtain ⟨gs0, h⟩ := is_guard h
  refine aw_seq ?_
  refine aw_region ?_
  refine ao_read trivial (r_assign rfl) rfl ?_
  refine ao_nil ?_
  refine aq_then ?_
  refine aw_seq ?_
  refine aw_region ?_
  refine ao_read trivial (r_move rfl) rfl ?_
  refine ao_eff trivial (e_bytes Tryd.underlying9 Tryd.underlying30 Tryd.underlying5 rfl (by omega)) rfl ?_
  refine ao_scall trivial (scall (c_impl_areAll_byte (is_mk (rfl : p_impl_areAll_byte (bytesI x0) = _))) rfl Tryd.func57 rfl rfl rfl rfl (fun σ => ⟨ad_ren rfl, ad_ren rfl, trivial⟩)) rfl ?_
  refine ao_read trivial (r_assign rfl) rfl ?_
  refine ao_nil ?_
  refine aq_then ?_
  refine aw_ret ?_
  refine aq_ret ?_
  obtain rfl := is_some h
  exact aq_finx (l := [.tmp 2]) (xs := [.bool (p_impl_areAll_byte (bytesI x0))]) idn [.bool (p_impl_areAll_byte (bytesI x0))] [] rfl (by exact ⟨rfl, trivial⟩) (by exact ⟨ad_ren rfl, trivial⟩) (by exact trivial) rfl (nk rfl) rfl rfl ⟨rfl, rfl⟩
theorem c_internal_stringslite_IndexByte {x0 : ByteArray} {x1 : Int} {r : Int} (h : Is (p_internal_stringslite_IndexByte x0 x1) r) :
    Scalar Tryd.prog 80 [.str x0, .int .u8 x1] (.int .i64 r) := by
  unfold p_internal_stringslite_IndexByte at h
  refine ac_enter ⟨8, 0⟩ Tryd.func80 rfl rfl rfl rfl rfl (fun Γ => ?_)
  refine aw_seq ?_
  refine aw_region ?_
  refine ao_read trivial (r_assign rfl) rfl ?_
  refine ao_nil ?_
  refine aq_then ?_
  refine aw_seq ?_
  refine aw_region ?_
  refine ao_read trivial (r_move rfl) rfl ?_
  refine ao_read trivial (r_move rfl) rfl ?_
  refine ao_read trivial (r_indexByte Tryd.func90 rfl rfl rfl rfl rfl rfl rfl) rfl ?_
  refine ao_read trivial (r_assign rfl) rfl ?_
  refine ao_nil ?_
  refine aq_then ?_
  refine aw_ret ?_
  refine aq_ret ?_
  obtain rfl := is_eq h
  exact aq_finx (l := [.tmp 4]) (xs := [.int .i64 (Lib.indexByte x0.data.toList x1.toNat.toUInt8)]) idn [.int .i64 (Lib.indexByte x0.data.toList x1.toNat.toUInt8)] [] rfl (by exact ⟨rfl, trivial⟩) (by exact ⟨ad_ren rfl, trivial⟩) (by exact trivial) rfl (nk rfl) rfl rfl ⟨rfl, rfl⟩
theorem c_internal_stringslite_Index {x0 : ByteArray} {r : Int} (h : Is (p_internal_stringslite_Index x0) r) :
    Scalar Tryd.prog 74 [.str x0, .str (ByteArray.mk #[64])] (.int .i64 r) := by
  unfold p_internal_stringslite_Index at h
  refine ac_enter ⟨143, 0⟩ Tryd.func74 rfl rfl rfl rfl rfl (fun Γ => ?_)
  refine aw_seq ?_
  refine aw_region ?_
  refine ao_read trivial (r_assign rfl) rfl ?_
  refine ao_nil ?_
  refine aq_then ?_
  refine aw_seq ?_
  refine aw_region ?_
  refine ao_read trivial (r_move rfl) rfl ?_
  refine ao_read trivial (r_len_str Tryd.underlying9 rfl) rfl ?_
  refine ao_read trivial (r_assign rfl) rfl ?_
  refine ao_nil ?_
  refine aq_then ?_
  refine aw_seq ?_
  refine aw_block ?_
  refine aw_seq ?_
  refine aw_region ?_
  refine ao_read trivial (r_move rfl) rfl ?_
  refine ao_read trivial (r_eql rfl rfl) rfl ?_
  refine ao_read trivial (r_move rfl) rfl ?_
  refine ao_readG (x := .str (ByteArray.mk #[64])) rfl (GV.F rfl) (fun hg1 => by
        have q2 := d_f (not_t hg1)
        exact r_move rfl) rfl ?_
  refine ao_readG (x := .str x0) rfl (GV.F rfl) (fun hg3 => by
        have q4 := d_f (not_t hg3)
        exact r_move rfl) rfl ?_
  refine ao_readG (x := .bool (eqS (ByteArray.mk #[64]) x0)) rfl (GV.F rfl) (fun hg5 => by
        have q6 := d_f (not_t hg5)
        exact Reads.strip 20 rfl (hg5) (Reads.strip 21 rfl (hg5) (r_eql_str rfl rfl))) rfl ?_
  refine ao_read trivial (r_orB rfl rfl) rfl ?_
  refine ao_read trivial (r_assign rfl) rfl ?_
  refine ao_nil ?_
  refine aq_then ?_
  refine aw_cond rfl (fun hb7 => ?_) (fun hb7 => ?_)
  · replace h := is_if hb7 h
    refine aw_seq ?_
    refine aw_region ?_
    refine ao_read trivial (r_assign rfl) rfl ?_
    refine ao_nil ?_
    refine aq_then ?_
    refine aw_ret ?_
    refine aq_in_ret ?_
    refine aq_then_ret ?_
    refine aq_ret ?_
    obtain rfl := is_eq h
    exact aq_finx (l := [.tmp 4]) (xs := [.int .i64 0]) idn [.int .i64 0] [] rfl (by exact ⟨rfl, trivial⟩) (by exact ⟨ad_ren rfl, trivial⟩) (by exact trivial) rfl (nk rfl) rfl rfl ⟨rfl, rfl⟩
  · obtain ⟨q8, q9⟩ := or_f hb7
    have q10 := d_f q8
    replace h := is_else (ne_t hb7) h
    refine aw_seq ?_
    refine aw_region ?_
    refine ao_read trivial (r_move rfl) rfl ?_
    refine ao_read trivial (r_eql rfl rfl) rfl ?_
    refine ao_read trivial (r_assign rfl) rfl ?_
    refine ao_nil ?_
    refine aq_then ?_
    refine aw_cond rfl (fun _ => ?_) (fun hb => absurd hb (by decide))
    refine aw_seq ?_
    refine aw_region ?_
    refine ao_read trivial (r_move rfl) rfl ?_
    refine ao_read trivial (r_move rfl) rfl ?_
    refine ao_read trivial (r_index_str Tryd.underlying9 rfl rfl (by decide) (by decide)) rfl ?_
    refine ao_scall trivial (scall (c_internal_stringslite_IndexByte (is_mk (rfl : p_internal_stringslite_IndexByte x0 (((ByteArray.mk #[64]).data.toList.getD 0 0).toNat : Int) = _))) rfl Tryd.func80 rfl rfl rfl rfl (fun σ => ⟨ad_ren rfl, ad_ren rfl, trivial⟩)) rfl ?_
    refine ao_read trivial (r_assign rfl) rfl ?_
    refine ao_nil ?_
    refine aq_then ?_
    refine aw_ret ?_
    refine aq_in_ret ?_
    refine aq_then_ret ?_
    refine aq_ret ?_
    obtain rfl := is_eq h
    exact aq_finx (l := [.tmp 4]) (xs := [.int .i64 (p_internal_stringslite_IndexByte x0 (((ByteArray.mk #[64]).data.toList.getD 0 0).toNat : Int))]) idn [.int .i64 (p_internal_stringslite_IndexByte x0 (((ByteArray.mk #[64]).data.toList.getD 0 0).toNat : Int))] [] rfl (by exact ⟨rfl, trivial⟩) (by exact ⟨ad_ren rfl, trivial⟩) (by exact trivial) rfl (nk rfl) rfl rfl ⟨rfl, rfl⟩
theorem c_strings_Index {x0 : ByteArray} {r : Int} (h : Is (p_strings_Index x0) r) :
    Scalar Tryd.prog 65 [.str x0, .str (ByteArray.mk #[64])] (.int .i64 r) := by
  unfold p_strings_Index at h
  refine ac_enter ⟨8, 0⟩ Tryd.func65 rfl rfl rfl rfl rfl (fun Γ => ?_)
  refine aw_seq ?_
  refine aw_region ?_
  refine ao_read trivial (r_assign rfl) rfl ?_
  refine ao_nil ?_
  refine aq_then ?_
  refine aw_seq ?_
  refine aw_region ?_
  refine ao_read trivial (r_move rfl) rfl ?_
  refine ao_read trivial (r_move rfl) rfl ?_
  refine ao_scall trivial (scall (c_internal_stringslite_Index (is_mk (rfl : p_internal_stringslite_Index x0 = _))) rfl Tryd.func74 rfl rfl rfl rfl (fun σ => ⟨ad_ren rfl, ad_ren rfl, trivial⟩)) rfl ?_
  refine ao_read trivial (r_assign rfl) rfl ?_
  refine ao_nil ?_
  refine aq_then ?_
  refine aw_ret ?_
  refine aq_ret ?_
  obtain rfl := is_eq h
  exact aq_finx (l := [.tmp 4]) (xs := [.int .i64 (p_internal_stringslite_Index x0)]) idn [.int .i64 (p_internal_stringslite_Index x0)] [] rfl (by exact ⟨rfl, trivial⟩) (by exact ⟨ad_ren rfl, trivial⟩) (by exact trivial) rfl (nk rfl) rfl rfl ⟨rfl, rfl⟩
theorem c_strings_Contains {x0 : ByteArray} {r : Bool} (h : Is (p_strings_Contains x0) r) :
    Scalar Tryd.prog 50 [.str x0, .str (ByteArray.mk #[64])] (.bool r) := by
  unfold p_strings_Contains at h
  refine ac_enter ⟨9, 0⟩ Tryd.func50 rfl rfl rfl rfl rfl (fun Γ => ?_)
  refine aw_seq ?_
  refine aw_region ?_
  refine ao_read trivial (r_assign rfl) rfl ?_
  refine ao_nil ?_
  refine aq_then ?_
  refine aw_seq ?_
  refine aw_region ?_
  refine ao_read trivial (r_move rfl) rfl ?_
  refine ao_read trivial (r_move rfl) rfl ?_
  refine ao_scall trivial (scall (c_strings_Index (is_mk (rfl : p_strings_Index x0 = _))) rfl Tryd.func65 rfl rfl rfl rfl (fun σ => ⟨ad_ren rfl, ad_ren rfl, trivial⟩)) rfl ?_
  refine ao_read trivial (r_geq rfl rfl) rfl ?_
  refine ao_read trivial (r_assign rfl) rfl ?_
  refine ao_nil ?_
  refine aq_then ?_
  refine aw_ret ?_
  refine aq_ret ?_
  obtain rfl := is_eq h
  exact aq_finx (l := [.tmp 4]) (xs := [.bool (decide (0 ≤ (p_strings_Index x0)))]) idn [.bool (decide (0 ≤ (p_strings_Index x0)))] [] rfl (by exact ⟨rfl, trivial⟩) (by exact ⟨ad_ren rfl, trivial⟩) (by exact trivial) rfl (nk rfl) rfl rfl ⟨rfl, rfl⟩
theorem c_impl_isCommand {x0 : ByteArray} {r : Bool} (h : Is (p_impl_isCommand x0) (some r)) :
    Scalar Tryd.prog 39 [.str x0] (.bool r) := by
  unfold p_impl_isCommand at h
  refine ac_enter ⟨15, 0⟩ Tryd.func39 rfl rfl rfl rfl rfl (fun Γ => ?_)
  obtain ⟨gs0, h⟩ := is_guard h
  refine aw_seq ?_
  refine aw_region ?_
  refine ao_read trivial (r_assign rfl) rfl ?_
  refine ao_nil ?_
  refine aq_then ?_
  refine aw_seq ?_
  refine aw_region ?_
  refine ao_read trivial (r_move rfl) rfl ?_
  refine ao_read trivial (r_len_str Tryd.underlying9 rfl) rfl ?_
  refine ao_scall trivial (scall (c_impl_within (is_mk (rfl : p_impl_within (x0.size : Int) 1 160 = _))) rfl Tryd.func32 rfl rfl rfl rfl (fun σ => ⟨ad_ren rfl, ad_ren rfl, ad_ren rfl, trivial⟩)) rfl ?_
  refine ao_read trivial (r_move rfl) rfl ?_
  refine ao_readG (x := .str x0) rfl (GV.T rfl) (fun hg1 => r_move rfl) rfl ?_
  obtain ⟨g3, h⟩ := is_guard h
  refine ao_scallG (r := .bool ((p_impl_isPrinted x0).getD false)) rfl (GV.T rfl) (fun hg2 => SCall.strip 7 rfl (hg2) (scall (c_impl_isPrinted (is_mk (isSome_getD (g3 hg2)))) rfl Tryd.func40 rfl rfl rfl rfl (fun σ => ⟨ad_ren rfl, trivial⟩))) rfl ?_
  refine ao_read trivial (r_andB rfl rfl) rfl ?_
  refine ao_read trivial (r_move rfl) rfl ?_
  refine ao_readG (x := .str x0) rfl (GV.T rfl) (fun hg4 => by
        obtain ⟨q5, q6⟩ := and_t hg4
        exact r_move rfl) rfl ?_
  refine ao_scallG (r := .bool (p_strings_Contains x0)) rfl (GV.T rfl) (fun hg7 => by
        obtain ⟨q8, q9⟩ := and_t hg7
        exact SCall.strip 11 rfl (hg7) (scall (c_strings_Contains (is_mk (rfl : p_strings_Contains x0 = _))) rfl Tryd.func50 rfl rfl rfl rfl (fun σ => ⟨ad_ren rfl, ad_ren rfl, trivial⟩))) rfl ?_
  refine ao_readG (x := .bool (!(p_strings_Contains x0))) rfl (GV.T rfl) (fun hg10 => by
        obtain ⟨q11, q12⟩ := and_t hg10
        exact Reads.strip 12 rfl (hg10) (r_not rfl)) rfl ?_
  refine ao_read trivial (r_andB rfl rfl) rfl ?_
  refine ao_read trivial (r_assign rfl) rfl ?_
  refine ao_nil ?_
  refine aq_then ?_
  refine aw_ret ?_
  refine aq_ret ?_
  obtain rfl := is_some h
  exact aq_finx (l := [.tmp 2]) (xs := [.bool (((p_impl_within (x0.size : Int) 1 160) && ((p_impl_isPrinted x0).getD false)) && (!(p_strings_Contains x0)))]) idn [.bool (((p_impl_within (x0.size : Int) 1 160) && ((p_impl_isPrinted x0).getD false)) && (!(p_strings_Contains x0)))] [] rfl (by exact ⟨rfl, trivial⟩) (by exact ⟨ad_ren rfl, trivial⟩) (by exact trivial) rfl (nk rfl) rfl rfl ⟨rfl, rfl⟩
theorem c_impl_IsValidRecord {x0 : (ByteArray × (ByteArray × Unit))} {r : Bool} (h : Is (p_impl_IsValidRecord x0) (some r)) :
    Scalar Tryd.prog 15 [.v (.pair .str (.pair .str .unit)) x0] (.bool r) := by
  unfold p_impl_IsValidRecord at h
  refine ac_enter ⟨17, 0⟩ Tryd.func15 rfl rfl rfl rfl rfl (fun Γ => ?_)
  refine aw_seq ?_
  refine aw_region ?_
  refine ao_eff trivial (e_box 0 rfl rfl rfl rfl rfl rfl) rfl ?_
  refine ao_read trivial (r_assign rfl) rfl ?_
  refine ao_nil ?_
  refine aq_then ?_
  refine aw_seq ?_
  refine aw_region ?_
  refine ao_read trivial (r_fieldAddr Tryd.underlying33 rfl Tryd.sizeOf9 rfl rfl rfl) rfl ?_
  refine ao_read trivial (r_load_cell Tryd.isAgg9 rfl rfl rfl) rfl ?_
  obtain ⟨r1, r1h, h⟩ := is_bind h
  refine ao_scall trivial (scall (c_impl_isCommand (is_mk r1h)) rfl Tryd.func39 rfl rfl rfl rfl (fun σ => ⟨ad_ren rfl, trivial⟩)) rfl ?_
  refine ao_read trivial (r_move rfl) rfl ?_
  refine ao_readG (x := .ref 0 1) rfl (GV.T rfl) (fun hg2 => r_fieldAddr Tryd.underlying33 rfl Tryd.sizeOf9 rfl rfl rfl) rfl ?_
  refine ao_readG (x := .str x0.2.1) rfl (GV.T rfl) (fun hg3 => Reads.strip 7 rfl (hg3) (r_load_cell Tryd.isAgg9 rfl rfl rfl)) rfl ?_
  refine ao_readG (x := .int .i64 (x0.2.1.size : Int)) rfl (GV.T rfl) (fun hg4 => Reads.strip 8 rfl (hg4) (r_len_str Tryd.underlying9 rfl)) rfl ?_
  refine ao_readG (x := .bool (decide ((x0.2.1.size : Int) ≤ 250))) rfl (GV.T rfl) (fun hg5 => Reads.strip 9 rfl (hg5) (r_leq rfl rfl)) rfl ?_
  refine ao_read trivial (r_andB rfl rfl) rfl ?_
  refine ao_read trivial (r_move rfl) rfl ?_
  refine ao_readG (x := .ref 0 1) rfl (GV.T rfl) (fun hg6 => by
        obtain ⟨q7, q8⟩ := and_t hg6
        have q9 := d_t q8
        exact r_fieldAddr Tryd.underlying33 rfl Tryd.sizeOf9 rfl rfl rfl) rfl ?_
  refine ao_readG (x := .str x0.2.1) rfl (GV.T rfl) (fun hg10 => by
        obtain ⟨q11, q12⟩ := and_t hg10
        have q13 := d_t q12
        exact Reads.strip 13 rfl (hg10) (r_load_cell Tryd.isAgg9 rfl rfl rfl)) rfl ?_
  obtain ⟨g18, h⟩ := is_guard h
  refine ao_scallG (r := .bool ((p_impl_isPrinted x0.2.1).getD false)) rfl (GV.T rfl) (fun hg14 => by
        obtain ⟨q15, q16⟩ := and_t hg14
        have q17 := d_t q16
        exact SCall.strip 14 rfl (hg14) (scall (c_impl_isPrinted (is_mk (isSome_getD (g18 hg14)))) rfl Tryd.func40 rfl rfl rfl rfl (fun σ => ⟨ad_ren rfl, trivial⟩))) rfl ?_
  refine ao_read trivial (r_andB rfl rfl) rfl ?_
  refine ao_read trivial (r_assign rfl) rfl ?_
  refine ao_nil ?_
  refine aq_then ?_
  refine aw_ret ?_
  refine aq_ret ?_
  obtain rfl := is_some h
  exact aq_finx (l := [.tmp 2]) (xs := [.bool ((r1 && (decide ((x0.2.1.size : Int) ≤ 250))) && ((p_impl_isPrinted x0.2.1).getD false))]) idn [.bool ((r1 && (decide ((x0.2.1.size : Int) ≤ 250))) && ((p_impl_isPrinted x0.2.1).getD false))] [] rfl (by exact ⟨rfl, trivial⟩) (by exact ⟨ad_ren rfl, trivial⟩) (by exact trivial) rfl (nk rfl) rfl rfl ⟨rfl, rfl⟩
theorem c_internal_stringslite_Indexv1 {x0 : ByteArray} {r : Int} (h : Is (p_internal_stringslite_Indexv1 x0) r) :
    Scalar Tryd.prog 74 [.str x0, .str (ByteArray.mk #[35])] (.int .i64 r) := by
  unfold p_internal_stringslite_Indexv1 at h
  refine ac_enter ⟨143, 0⟩ Tryd.func74 rfl rfl rfl rfl rfl (fun Γ => ?_)
  refine aw_seq ?_
  refine aw_region ?_
  refine ao_read trivial (r_assign rfl) rfl ?_
  refine ao_nil ?_
  refine aq_then ?_
  refine aw_seq ?_
  refine aw_region ?_
  refine ao_read trivial (r_move rfl) rfl ?_
  refine ao_read trivial (r_len_str Tryd.underlying9 rfl) rfl ?_
  refine ao_read trivial (r_assign rfl) rfl ?_
  refine ao_nil ?_
  refine aq_then ?_
  refine aw_seq ?_
  refine aw_block ?_
  refine aw_seq ?_
  refine aw_region ?_
  refine ao_read trivial (r_move rfl) rfl ?_
  refine ao_read trivial (r_eql rfl rfl) rfl ?_
  refine ao_read trivial (r_move rfl) rfl ?_
  refine ao_readG (x := .str (ByteArray.mk #[35])) rfl (GV.F rfl) (fun hg1 => by
        have q2 := d_f (not_t hg1)
        exact r_move rfl) rfl ?_
  refine ao_readG (x := .str x0) rfl (GV.F rfl) (fun hg3 => by
        have q4 := d_f (not_t hg3)
        exact r_move rfl) rfl ?_
  refine ao_readG (x := .bool (eqS (ByteArray.mk #[35]) x0)) rfl (GV.F rfl) (fun hg5 => by
        have q6 := d_f (not_t hg5)
        exact Reads.strip 20 rfl (hg5) (Reads.strip 21 rfl (hg5) (r_eql_str rfl rfl))) rfl ?_
  refine ao_read trivial (r_orB rfl rfl) rfl ?_
  refine ao_read trivial (r_assign rfl) rfl ?_
  refine ao_nil ?_
  refine aq_then ?_
  refine aw_cond rfl (fun hb7 => ?_) (fun hb7 => ?_)
  · replace h := is_if hb7 h
    refine aw_seq ?_
    refine aw_region ?_
    refine ao_read trivial (r_assign rfl) rfl ?_
    refine ao_nil ?_
    refine aq_then ?_
    refine aw_ret ?_
    refine aq_in_ret ?_
    refine aq_then_ret ?_
    refine aq_ret ?_
    obtain rfl := is_eq h
    exact aq_finx (l := [.tmp 4]) (xs := [.int .i64 0]) idn [.int .i64 0] [] rfl (by exact ⟨rfl, trivial⟩) (by exact ⟨ad_ren rfl, trivial⟩) (by exact trivial) rfl (nk rfl) rfl rfl ⟨rfl, rfl⟩
  · obtain ⟨q8, q9⟩ := or_f hb7
    have q10 := d_f q8
    replace h := is_else (ne_t hb7) h
    refine aw_seq ?_
    refine aw_region ?_
    refine ao_read trivial (r_move rfl) rfl ?_
    refine ao_read trivial (r_eql rfl rfl) rfl ?_
    refine ao_read trivial (r_assign rfl) rfl ?_
    refine ao_nil ?_
    refine aq_then ?_
    refine aw_cond rfl (fun _ => ?_) (fun hb => absurd hb (by decide))
    refine aw_seq ?_
    refine aw_region ?_
    refine ao_read trivial (r_move rfl) rfl ?_
    refine ao_read trivial (r_move rfl) rfl ?_
    refine ao_read trivial (r_index_str Tryd.underlying9 rfl rfl (by decide) (by decide)) rfl ?_
    refine ao_scall trivial (scall (c_internal_stringslite_IndexByte (is_mk (rfl : p_internal_stringslite_IndexByte x0 (((ByteArray.mk #[35]).data.toList.getD 0 0).toNat : Int) = _))) rfl Tryd.func80 rfl rfl rfl rfl (fun σ => ⟨ad_ren rfl, ad_ren rfl, trivial⟩)) rfl ?_
    refine ao_read trivial (r_assign rfl) rfl ?_
    refine ao_nil ?_
    refine aq_then ?_
    refine aw_ret ?_
    refine aq_in_ret ?_
    refine aq_then_ret ?_
    refine aq_ret ?_
    obtain rfl := is_eq h
    exact aq_finx (l := [.tmp 4]) (xs := [.int .i64 (p_internal_stringslite_IndexByte x0 (((ByteArray.mk #[35]).data.toList.getD 0 0).toNat : Int))]) idn [.int .i64 (p_internal_stringslite_IndexByte x0 (((ByteArray.mk #[35]).data.toList.getD 0 0).toNat : Int))] [] rfl (by exact ⟨rfl, trivial⟩) (by exact ⟨ad_ren rfl, trivial⟩) (by exact trivial) rfl (nk rfl) rfl rfl ⟨rfl, rfl⟩
theorem c_strings_Indexv1 {x0 : ByteArray} {r : Int} (h : Is (p_strings_Indexv1 x0) r) :
    Scalar Tryd.prog 65 [.str x0, .str (ByteArray.mk #[35])] (.int .i64 r) := by
  unfold p_strings_Indexv1 at h
  refine ac_enter ⟨8, 0⟩ Tryd.func65 rfl rfl rfl rfl rfl (fun Γ => ?_)
  refine aw_seq ?_
  refine aw_region ?_
  refine ao_read trivial (r_assign rfl) rfl ?_
  refine ao_nil ?_
  refine aq_then ?_
  refine aw_seq ?_
  refine aw_region ?_
  refine ao_read trivial (r_move rfl) rfl ?_
  refine ao_read trivial (r_move rfl) rfl ?_
  refine ao_scall trivial (scall (c_internal_stringslite_Indexv1 (is_mk (rfl : p_internal_stringslite_Indexv1 x0 = _))) rfl Tryd.func74 rfl rfl rfl rfl (fun σ => ⟨ad_ren rfl, ad_ren rfl, trivial⟩)) rfl ?_
  refine ao_read trivial (r_assign rfl) rfl ?_
  refine ao_nil ?_
  refine aq_then ?_
  refine aw_ret ?_
  refine aq_ret ?_
  obtain rfl := is_eq h
  exact aq_finx (l := [.tmp 4]) (xs := [.int .i64 (p_internal_stringslite_Indexv1 x0)]) idn [.int .i64 (p_internal_stringslite_Indexv1 x0)] [] rfl (by exact ⟨rfl, trivial⟩) (by exact ⟨ad_ren rfl, trivial⟩) (by exact trivial) rfl (nk rfl) rfl rfl ⟨rfl, rfl⟩
theorem c_strings_Containsv1 {x0 : ByteArray} {r : Bool} (h : Is (p_strings_Containsv1 x0) r) :
    Scalar Tryd.prog 50 [.str x0, .str (ByteArray.mk #[35])] (.bool r) := by
  unfold p_strings_Containsv1 at h
  refine ac_enter ⟨9, 0⟩ Tryd.func50 rfl rfl rfl rfl rfl (fun Γ => ?_)
  refine aw_seq ?_
  refine aw_region ?_
  refine ao_read trivial (r_assign rfl) rfl ?_
  refine ao_nil ?_
  refine aq_then ?_
  refine aw_seq ?_
  refine aw_region ?_
  refine ao_read trivial (r_move rfl) rfl ?_
  refine ao_read trivial (r_move rfl) rfl ?_
  refine ao_scall trivial (scall (c_strings_Indexv1 (is_mk (rfl : p_strings_Indexv1 x0 = _))) rfl Tryd.func65 rfl rfl rfl rfl (fun σ => ⟨ad_ren rfl, ad_ren rfl, trivial⟩)) rfl ?_
  refine ao_read trivial (r_geq rfl rfl) rfl ?_
  refine ao_read trivial (r_assign rfl) rfl ?_
  refine ao_nil ?_
  refine aq_then ?_
  refine aw_ret ?_
  refine aq_ret ?_
  obtain rfl := is_eq h
  exact aq_finx (l := [.tmp 4]) (xs := [.bool (decide (0 ≤ (p_strings_Indexv1 x0)))]) idn [.bool (decide (0 ≤ (p_strings_Indexv1 x0)))] [] rfl (by exact ⟨rfl, trivial⟩) (by exact ⟨ad_ren rfl, trivial⟩) (by exact trivial) rfl (nk rfl) rfl rfl ⟨rfl, rfl⟩
theorem c_impl_checksum {x0 : ByteArray} {r : Int} (h : Is (p_impl_checksum x0) (some r)) :
    Scalar Tryd.prog 51 [.str x0] (.int .i64 r) := by
  unfold p_impl_checksum at h
  refine ac_enter ⟨21, 0⟩ Tryd.func51 rfl rfl rfl rfl rfl (fun Γ => ?_)
  obtain ⟨gs0, h⟩ := is_guard h
  refine aw_seq ?_
  refine aw_region ?_
  refine ao_read trivial (r_assign rfl) rfl ?_
  refine ao_nil ?_
  refine aq_then ?_
  refine aw_seq ?_
  refine aw_region ?_
  refine ao_read trivial (r_assign rfl) rfl ?_
  refine ao_nil ?_
  refine aq_then ?_
  refine aw_seq ?_
  refine aw_seq ?_
  refine aw_region ?_
  refine ao_read trivial (r_move rfl) rfl ?_
  refine ao_read trivial (r_len_str Tryd.underlying9 rfl) rfl ?_
  refine ao_read trivial (r_move rfl) rfl ?_
  refine ao_nil ?_
  refine aq_then ?_
  refine aw_block ?_
  refine aw_loop (AL.sub (fr' := [(0, .str x0), (3, .int .i64 7), (6, .int .i64 (x0.size : Int)), (7, .int .i64 0)]) (H' := []) (sub_mk idn (by exact ⟨⟨_, rfl, ad_ren rfl⟩, ⟨_, rfl, ad_ren rfl⟩, ⟨_, rfl, ad_ren rfl⟩, ⟨_, rfl, ad_ren rfl⟩, trivial⟩) (by exact trivial) (by rfl) (nk rfl)) (al_cnt (fun i2 (s1 : Int) => [(0, .str x0), (3, .int .i64 s1), (6, .int .i64 (x0.size : Int)), (7, .int .i64 i2)]) (fun i2 (s1 : Int) => []) (fun d i2 (s1 : Int) => d = Int.toNat ((x0.size : Int) - i2) ∧ 0 ≤ i2 ∧ i2 ≤ (x0.size : Int)) h ⟨rfl, (by (try simp only [List.length_set, List.length_append, List.length_cons, List.length_nil, List.length_replicate, List.length_take, List.length_drop]) <;> omega), (by (try simp only [List.length_set, List.length_append, List.length_cons, List.length_nil, List.length_replicate, List.length_take, List.length_drop]) <;> omega)⟩ (fun d3 i2 s1 hI h ih3 => ?_)))
  obtain ⟨hd, _, _⟩ := hI
  refine al_round ?_
  refine aw_seq ?_
  refine aw_region ?_
  refine ao_read trivial (r_lss rfl rfl) rfl ?_
  refine ao_nil ?_
  refine aq_then ?_
  refine aw_seq ?_
  refine aw_cond rfl (fun hb5 => ?_) (fun hb5 => ?_)
  · have q6 := d_t hb5
    obtain ⟨d3, rfl⟩ : ∃ e, d3 = e + 1 := ⟨d3 - 1, by omega⟩
    replace h := is_cntS h
    refine aw_skip ?_
    refine aq_then ?_
    refine aw_seq ?_
    refine aw_block ?_
    refine aw_seq ?_
    refine aw_region ?_
    refine ao_read trivial (r_move rfl) rfl ?_
    refine ao_read trivial (r_assign rfl) rfl ?_
    refine ao_nil ?_
    refine aq_then ?_
    refine aw_region ?_
    refine ao_read trivial (r_move rfl) rfl ?_
    refine ao_read trivial (r_mul rfl rfl) rfl ?_
    refine ao_read trivial (r_move rfl) rfl ?_
    refine ao_read trivial (r_move rfl) rfl ?_
    refine ao_read trivial (r_index_str Tryd.underlying9 rfl rfl (by omega) (by omega)) rfl ?_
    refine ao_read trivial (r_convI Tryd.underlying5 Tryd.underlying3 rfl (byte_wrap _)) rfl ?_
    refine ao_read trivial (r_add rfl rfl) rfl ?_
    refine ao_read trivial (r_add rfl rfl) rfl ?_
    refine ao_read trivial (r_rem rfl rfl (by decide)) rfl ?_
    refine ao_read trivial (r_assign rfl) rfl ?_
    refine ao_nil ?_
    refine aq_in ?_
    refine aq_then ?_
    refine aw_region ?_
    refine ao_read trivial (r_addI rfl rfl (wrap_id (by omega) (by omega))) rfl ?_
    refine ao_read trivial (r_move rfl) rfl ?_
    refine ao_nil ?_
    exact aq_again (AL.sub (sub_mk idn (by exact ⟨⟨_, rfl, ad_ren rfl⟩, ⟨_, rfl, ad_ren rfl⟩, ⟨_, rfl, ad_ren rfl⟩, ⟨_, rfl, ad_ren rfl⟩, trivial⟩) (by exact trivial) (by rfl) (nk rfl)) (ih3 d3 (i2 + 1) ((IntKind.wrap .i64 ((IntKind.wrap .i64 ((IntKind.wrap .i64 (41 * s1)) + ((x0.data.toList.getD i2.toNat 0).toNat : Int))) + 1)).tmod 999979) (by omega) ⟨by omega, (by (try simp only [List.length_set, List.length_append, List.length_cons, List.length_nil, List.length_replicate, List.length_take, List.length_drop]) <;> omega), (by (try simp only [List.length_set, List.length_append, List.length_cons, List.length_nil, List.length_replicate, List.length_take, List.length_drop]) <;> omega)⟩ h))
  · have q7 := d_f hb5
    obtain rfl : d3 = 0 := by omega
    replace h := is_cnt0 h
    refine aw_exit ?_
    refine aq_then_exit ?_
    refine aq_then_exit ?_
    refine aq_in_exit ?_
    refine aq_then ?_
    refine aw_seq ?_
    refine aw_region ?_
    refine ao_read trivial (r_move rfl) rfl ?_
    refine ao_read trivial (r_assign rfl) rfl ?_
    refine ao_nil ?_
    refine aq_then ?_
    refine aw_ret ?_
    refine aq_ret ?_
    obtain rfl := is_some h
    exact aq_finx (l := [.tmp 2]) (xs := [.int .i64 s1]) idn [.int .i64 s1] [] rfl (by exact ⟨rfl, trivial⟩) (by exact ⟨ad_ren rfl, trivial⟩) (by exact trivial) rfl (nk rfl) rfl rfl ⟨rfl, rfl⟩
theorem c_impl_AppendChecksum {x0 : ByteArray} {r : ByteArray × Bool} (h : Is (p_impl_AppendChecksum x0) (some r)) :
    Scalar Tryd.prog 35 [.str x0] (.tup [.str r.1, .bool r.2]) := by
  unfold p_impl_AppendChecksum at h
  refine ac_enter ⟨22, 0⟩ Tryd.func35 rfl rfl rfl rfl rfl (fun Γ => ?_)
  obtain ⟨gs0, h⟩ := is_guard h
  refine aw_seq ?_
  refine aw_region ?_
  refine ao_read trivial (r_assign rfl) rfl ?_
  refine ao_read trivial (r_assign rfl) rfl ?_
  refine ao_nil ?_
  refine aq_then ?_
  refine aw_seq ?_
  refine aw_seq ?_
  refine aw_region ?_
  refine ao_read trivial (r_move rfl) rfl ?_
  refine ao_read trivial (r_len_str Tryd.underlying9 rfl) rfl ?_
  refine ao_read trivial (r_gtr rfl rfl) rfl ?_
  refine ao_read trivial (r_move rfl) rfl ?_
  refine ao_readG (x := .str x0) rfl (GV.F rfl) (fun hg1 => by
        have q2 := d_f (not_t hg1)
        exact r_move rfl) rfl ?_
  refine ao_scallG (r := .bool (p_strings_Containsv1 x0)) rfl (GV.F rfl) (fun hg3 => by
        have q4 := d_f (not_t hg3)
        exact SCall.strip 9 rfl (hg3) (scall (c_strings_Containsv1 (is_mk (rfl : p_strings_Containsv1 x0 = _))) rfl Tryd.func50 rfl rfl rfl rfl (fun σ => ⟨ad_ren rfl, ad_ren rfl, trivial⟩))) rfl ?_
  refine ao_read trivial (r_orB rfl rfl) rfl ?_
  refine ao_nil ?_
  refine aq_then ?_
  refine aw_cond rfl (fun hb5 => ?_) (fun hb5 => ?_)
  · replace h := is_if hb5 h
    refine aw_seq ?_
    refine aw_region ?_
    refine ao_read trivial (r_assign rfl) rfl ?_
    refine ao_read trivial (r_assign rfl) rfl ?_
    refine ao_nil ?_
    refine aq_then ?_
    refine aw_ret ?_
    refine aq_then_ret ?_
    refine aq_ret ?_
    obtain rfl := is_some h
    exact aq_finx (l := [.tmp 2, .tmp 3]) (xs := [.str (ByteArray.mk #[]), .bool false]) idn [.str (ByteArray.mk #[]), .bool false] [] rfl (by exact ⟨rfl, rfl, trivial⟩) (by exact ⟨ad_ren rfl, ad_ren rfl, trivial⟩) (by exact trivial) rfl (nk rfl) rfl rfl ⟨rfl, rfl⟩
  · obtain ⟨q6, q7⟩ := or_f hb5
    have q8 := d_f q6
    replace h := is_else (ne_t hb5) h
    refine aw_skip ?_
    refine aq_then ?_
    refine aw_seq ?_
    refine aw_region ?_
    refine ao_read trivial (r_move rfl) rfl ?_
    obtain ⟨g9, h⟩ := is_guard h
    refine ao_read trivial (r_add_str (a := x0) (b := (ByteArray.mk #[35])) rfl rfl (by omega)) rfl ?_
    refine ao_read trivial (r_move rfl) rfl ?_
    obtain ⟨r10, r10h, h⟩ := is_bind h
    refine ao_scall trivial (scall (c_impl_checksum (is_mk r10h)) rfl Tryd.func51 rfl rfl rfl rfl (fun σ => ⟨ad_ren rfl, trivial⟩)) rfl ?_
    obtain ⟨r11, r11h, h⟩ := is_bind h
    refine ao_scall trivial (scall (c_strconv_Itoa (is_mk r11h)) rfl Tryd.func36 rfl rfl rfl rfl (fun σ => ⟨ad_ren rfl, trivial⟩)) rfl ?_
    obtain ⟨g12, h⟩ := is_guard h
    refine ao_read trivial (r_add_str (a := (x0 ++ (ByteArray.mk #[35]))) (b := r11) rfl rfl (by omega)) rfl ?_
    refine ao_read trivial (r_assign rfl) rfl ?_
    refine ao_nil ?_
    refine aq_then ?_
    refine aw_seq ?_
    refine aw_seq ?_
    refine aw_region ?_
    refine ao_read trivial (r_move rfl) rfl ?_
    refine ao_read trivial (r_len_str Tryd.underlying9 rfl) rfl ?_
    refine ao_read trivial (r_gtr rfl rfl) rfl ?_
    refine ao_nil ?_
    refine aq_then ?_
    refine aw_cond rfl (fun hb13 => ?_) (fun hb13 => ?_)
    · have q14 := d_t hb13
      replace h := is_if (d_t hb13) h
      refine aw_seq ?_
      refine aw_region ?_
      refine ao_read trivial (r_assign rfl) rfl ?_
      refine ao_read trivial (r_assign rfl) rfl ?_
      refine ao_nil ?_
      refine aq_then ?_
      refine aw_ret ?_
      refine aq_then_ret ?_
      refine aq_ret ?_
      obtain rfl := is_some h
      exact aq_finx (l := [.tmp 2, .tmp 3]) (xs := [.str (ByteArray.mk #[]), .bool false]) idn [.str (ByteArray.mk #[]), .bool false] [] rfl (by exact ⟨rfl, rfl, trivial⟩) (by exact ⟨ad_ren rfl, ad_ren rfl, trivial⟩) (by exact trivial) rfl (nk rfl) rfl rfl ⟨rfl, rfl⟩
    · have q15 := d_f hb13
      replace h := is_else (d_f hb13) h
      refine aw_skip ?_
      refine aq_then ?_
      refine aw_seq ?_
      refine aw_region ?_
      refine ao_read trivial (r_move rfl) rfl ?_
      refine ao_read trivial (r_assign rfl) rfl ?_
      refine ao_read trivial (r_assign rfl) rfl ?_
      refine ao_nil ?_
      refine aq_then ?_
      refine aw_ret ?_
      refine aq_ret ?_
      obtain rfl := is_some h
      exact aq_finx (l := [.tmp 2, .tmp 3]) (xs := [.str ((x0 ++ (ByteArray.mk #[35])) ++ r11), .bool true]) idn [.str ((x0 ++ (ByteArray.mk #[35])) ++ r11), .bool true] [] rfl (by exact ⟨rfl, rfl, trivial⟩) (by exact ⟨ad_ren rfl, ad_ren rfl, trivial⟩) (by exact trivial) rfl (nk rfl) rfl rfl ⟨rfl, rfl⟩
theorem c_impl_EncodeRecord {x0 : Int} {x1 : (ByteArray × (ByteArray × Unit))} {r : ByteArray × Bool} (h : Is (p_impl_EncodeRecord x0 x1) (some r)) :
    Scalar Tryd.prog 13 [.int .i64 x0, .v (.pair .str (.pair .str .unit)) x1] (.tup [.str r.1, .bool r.2]) := by
  unfold p_impl_EncodeRecord at h
  refine ac_enter ⟨34, 0⟩ Tryd.func13 rfl rfl rfl rfl rfl (fun Γ => ?_)
  refine aw_seq ?_
  refine aw_region ?_
  refine ao_eff trivial (e_box 0 rfl rfl rfl rfl rfl rfl) rfl ?_
  refine ao_read trivial (r_assign rfl) rfl ?_
  refine ao_read trivial (r_assign rfl) rfl ?_
  refine ao_nil ?_
  refine aq_then ?_
  refine aw_seq ?_
  refine aw_seq ?_
  refine aw_region ?_
  refine ao_read trivial (r_move rfl) rfl ?_
  refine ao_scall trivial (scall (c_impl_within (is_mk (rfl : p_impl_within x0 0 59 = _))) rfl Tryd.func32 rfl rfl rfl rfl (fun σ => ⟨ad_ren rfl, ad_ren rfl, ad_ren rfl, trivial⟩)) rfl ?_
  refine ao_read trivial (r_not rfl) rfl ?_
  refine ao_read trivial (r_move rfl) rfl ?_
  refine ao_readG (x := .v (.pair .str (.pair .str .unit)) ((x1.1, (x1.2.1, ())) : (ByteArray × (ByteArray × Unit)))) rfl (GV.F rfl) (fun hg1 => r_load_part (τ := (.pair .str (.pair .str .unit))) (y := ((x1.1, (x1.2.1, ())) : (ByteArray × (ByteArray × Unit)))) [] [] rfl Tryd.isAgg33 Tryd.sizeOf33 rfl rfl rfl rfl) rfl ?_
  obtain ⟨g3, h⟩ := is_guard h
  refine ao_scallG (r := .bool ((p_impl_IsValidRecord (x1.1, (x1.2.1, ()))).getD false)) rfl (GV.F rfl) (fun hg2 => SCall.strip 12 rfl (hg2) (scall (c_impl_IsValidRecord (is_mk (isSome_getD (g3 hg2)))) rfl Tryd.func15 rfl rfl rfl rfl (fun σ => ⟨ad_ren rfl, trivial⟩))) rfl ?_
  refine ao_readG (x := .bool (!((p_impl_IsValidRecord (x1.1, (x1.2.1, ()))).getD false))) rfl (GV.F rfl) (fun hg4 => Reads.strip 13 rfl (hg4) (r_not rfl)) rfl ?_
  refine ao_read trivial (r_orB rfl rfl) rfl ?_
  refine ao_nil ?_
  refine aq_then ?_
  refine aw_cond rfl (fun hb5 => ?_) (fun hb5 => ?_)
  · replace h := is_if hb5 h
    refine aw_seq ?_
    refine aw_region ?_
    refine ao_read trivial (r_assign rfl) rfl ?_
    refine ao_read trivial (r_assign rfl) rfl ?_
    refine ao_nil ?_
    refine aq_then ?_
    refine aw_ret ?_
    refine aq_then_ret ?_
    refine aq_ret ?_
    obtain rfl := is_some h
    exact aq_finx (l := [.tmp 4, .tmp 5]) (xs := [.str (ByteArray.mk #[]), .bool false]) idn [.str (ByteArray.mk #[]), .bool false] [] rfl (by exact ⟨rfl, rfl, trivial⟩) (by exact ⟨ad_ren rfl, ad_ren rfl, trivial⟩) (by exact trivial) rfl (nk rfl) rfl rfl ⟨rfl, rfl⟩
  · obtain ⟨q6, q7⟩ := or_f hb5
    replace h := is_else (ne_t hb5) h
    refine aw_skip ?_
    refine aq_then ?_
    refine aw_seq ?_
    obtain ⟨r8, r8h, h⟩ := is_bind h
    obtain ⟨g9, h⟩ := is_guard h
    obtain ⟨g10, h⟩ := is_guard h
    obtain ⟨g11, h⟩ := is_guard h
    obtain ⟨g12, h⟩ := is_guard h
    obtain ⟨r13, r13h, h⟩ := is_bind h
    refine aw_drawAll (by kernel_rfl) ?_
    refine an_read 0 (by kernel_rfl) (fun _ _ _ h => h) rfl (by kernel_rfl) trivial (r_move rfl) rfl ?_
    refine an_scall 1 (by kernel_rfl) (fun _ _ _ h => h) rfl (by kernel_rfl) trivial (scall (c_strconv_Itoa (is_mk r8h)) rfl Tryd.func36 rfl rfl rfl rfl (fun σ => ⟨ad_ren rfl, trivial⟩)) rfl ?_
    refine an_read 2 (by kernel_rfl) (fun _ _ _ h => h) rfl (by kernel_rfl) trivial (r_add_str (a := r8) (b := (ByteArray.mk #[32])) rfl rfl (by omega)) rfl ?_
    refine an_read 3 (by kernel_rfl) (fun _ _ _ h => h) rfl (by kernel_rfl) trivial (r_fieldAddr Tryd.underlying33 rfl Tryd.sizeOf9 rfl rfl rfl) rfl ?_
    refine an_read 4 (by kernel_rfl) (fun _ _ _ h => h) rfl (by kernel_rfl) trivial (r_load_cell Tryd.isAgg9 rfl rfl rfl) rfl ?_
    refine an_read 5 (by kernel_rfl) (fun _ _ _ h => h) rfl (by kernel_rfl) trivial (r_add_str (a := (r8 ++ (ByteArray.mk #[32]))) (b := x1.1) rfl rfl (by omega)) rfl ?_
    refine an_read 6 (by kernel_rfl) (fun _ _ _ h => h) rfl (by kernel_rfl) trivial (r_add_str (a := ((r8 ++ (ByteArray.mk #[32])) ++ x1.1)) (b := (ByteArray.mk #[64])) rfl rfl (by omega)) rfl ?_
    refine an_read 7 (by kernel_rfl) (fun _ _ _ h => h) rfl (by kernel_rfl) trivial (r_fieldAddr Tryd.underlying33 rfl Tryd.sizeOf9 rfl rfl rfl) rfl ?_
    refine an_read 8 (by kernel_rfl) (fun _ _ _ h => h) rfl (by kernel_rfl) trivial (r_load_cell Tryd.isAgg9 rfl rfl rfl) rfl ?_
    refine an_read 9 (by kernel_rfl) (fun _ _ _ h => h) rfl (by kernel_rfl) trivial (r_add_str (a := (((r8 ++ (ByteArray.mk #[32])) ++ x1.1) ++ (ByteArray.mk #[64]))) (b := x1.2.1) rfl rfl (by omega)) rfl ?_
    refine an_scall 10 (by kernel_rfl) (fun _ _ _ h => h) rfl (by kernel_rfl) trivial (scall (c_impl_AppendChecksum (is_mk r13h)) rfl Tryd.func35 rfl rfl rfl rfl (fun σ => ⟨ad_ren rfl, trivial⟩)) rfl ?_
    refine an_read 11 (by kernel_rfl) (fun _ _ _ h => h) rfl (by kernel_rfl) trivial (r_move rfl) rfl ?_
    refine an_read 12 (by kernel_rfl) (fun _ _ _ h => h) rfl (by kernel_rfl) trivial (r_extract rfl rfl) rfl ?_
    refine an_read 13 (by kernel_rfl) (fun _ _ _ h => h) rfl (by kernel_rfl) trivial (r_extract rfl rfl) rfl ?_
    refine an_read 14 (by kernel_rfl) (fun _ _ _ h => h) rfl (by kernel_rfl) trivial (r_assign rfl) rfl ?_
    refine an_read 15 (by kernel_rfl) (fun _ _ _ h => h) rfl (by kernel_rfl) trivial (r_assign rfl) rfl ?_
    refine an_done rfl ?_
    refine aq_then ?_
    refine aw_seq ?_
    refine aw_seq ?_
    refine aw_region ?_
    refine ao_read trivial (r_move rfl) rfl ?_
    refine ao_read trivial (r_not rfl) rfl ?_
    refine ao_nil ?_
    refine aq_then ?_
    refine aw_cond rfl (fun hb14 => ?_) (fun hb14 => ?_)
    · replace h := is_else (ne_t (not_t hb14)) h
      refine aw_seq ?_
      refine aw_region ?_
      refine ao_read trivial (r_assign rfl) rfl ?_
      refine ao_read trivial (r_assign rfl) rfl ?_
      refine ao_nil ?_
      refine aq_then ?_
      refine aw_ret ?_
      refine aq_then_ret ?_
      refine aq_ret ?_
      obtain rfl := is_some h
      exact aq_finx (l := [.tmp 4, .tmp 5]) (xs := [.str (ByteArray.mk #[]), .bool false]) idn [.str (ByteArray.mk #[]), .bool false] [] rfl (by exact ⟨rfl, rfl, trivial⟩) (by exact ⟨ad_ren rfl, ad_ren rfl, trivial⟩) (by exact trivial) rfl (nk rfl) rfl rfl ⟨rfl, rfl⟩
    · replace h := is_if (not_f hb14) h
      refine aw_skip ?_
      refine aq_then ?_
      refine aw_seq ?_
      refine aw_region ?_
      refine ao_read trivial (r_move rfl) rfl ?_
      obtain ⟨g15, h⟩ := is_guard h
      refine ao_read trivial (r_add_str (a := r13.1) (b := (ByteArray.mk #[10])) rfl rfl (by omega)) rfl ?_
      refine ao_read trivial (r_assign rfl) rfl ?_
      refine ao_read trivial (r_assign rfl) rfl ?_
      refine ao_nil ?_
      refine aq_then ?_
      refine aw_ret ?_
      refine aq_ret ?_
      obtain rfl := is_some h
      exact aq_finx (l := [.tmp 4, .tmp 5]) (xs := [.str (r13.1 ++ (ByteArray.mk #[10])), .bool true]) idn [.str (r13.1 ++ (ByteArray.mk #[10])), .bool true] [] rfl (by exact ⟨rfl, rfl, trivial⟩) (by exact ⟨ad_ren rfl, ad_ren rfl, trivial⟩) (by exact trivial) rfl (nk rfl) rfl rfl ⟨rfl, rfl⟩
theorem c_spec_l1In {x0 : Int} {x1 : Int} {x2 : Int} {r : Bool} (h : Is (p_spec_l1In x0 x1 x2) r) :
    Scalar Tryd.prog 31 [.int .i64 x0, .int .i64 x1, .int .i64 x2] (.bool r) := by
  unfold p_spec_l1In at h
  refine ac_enter ⟨15, 0⟩ Tryd.func31 rfl rfl rfl rfl rfl (fun Γ => ?_)
  refine aw_seq ?_
  refine aw_region ?_
  refine ao_read trivial (r_assign rfl) rfl ?_
  refine ao_nil ?_
  refine aq_then ?_
  refine aw_seq ?_
  refine aw_region ?_
  refine ao_read trivial (r_move rfl) rfl ?_
  refine ao_read trivial (r_move rfl) rfl ?_
  refine ao_read trivial (r_geq rfl rfl) rfl ?_
  refine ao_read trivial (r_move rfl) rfl ?_
  refine ao_readG (x := .int .i64 x0) rfl (GV.T rfl) (fun hg1 => by
        have q2 := d_t hg1
        exact r_move rfl) rfl ?_
  refine ao_readG (x := .int .i64 x2) rfl (GV.T rfl) (fun hg3 => by
        have q4 := d_t hg3
        exact r_move rfl) rfl ?_
  refine ao_readG (x := .bool (decide (x0 ≤ x2))) rfl (GV.T rfl) (fun hg5 => by
        have q6 := d_t hg5
        exact Reads.strip 11 rfl (hg5) (Reads.strip 12 rfl (hg5) (r_leq rfl rfl))) rfl ?_
  refine ao_read trivial (r_andB rfl rfl) rfl ?_
  refine ao_read trivial (r_assign rfl) rfl ?_
  refine ao_nil ?_
  refine aq_then ?_
  refine aw_ret ?_
  refine aq_ret ?_
  obtain rfl := is_eq h
  exact aq_finx (l := [.tmp 6]) (xs := [.bool ((decide (x1 ≤ x0)) && (decide (x0 ≤ x2)))]) idn [.bool ((decide (x1 ≤ x0)) && (decide (x0 ≤ x2)))] [] rfl (by exact ⟨rfl, trivial⟩) (by exact ⟨ad_ren rfl, trivial⟩) (by exact trivial) rfl (nk rfl) rfl rfl ⟨rfl, rfl⟩
theorem c_spec_l12Bytes {x0 : ByteArray} {x1 : Int} {r : Bool} (h : Is (p_spec_l12Bytes x0 x1) (some r)) :
    Scalar Tryd.prog 53 [.str x0, .int .i64 x1] (.bool r) := by
  unfold p_spec_l12Bytes at h
  refine ac_enter ⟨28, 0⟩ Tryd.func53 rfl rfl rfl rfl rfl (fun Γ => ?_)
  obtain ⟨gs0, h⟩ := is_guard h
  refine aw_seq ?_
  refine aw_region ?_
  refine ao_read trivial (r_assign rfl) rfl ?_
  refine ao_nil ?_
  refine aq_then ?_
  refine aw_seq ?_
  refine aw_seq ?_
  refine aw_region ?_
  refine ao_read trivial (r_assign rfl) rfl ?_
  refine ao_nil ?_
  refine aq_then ?_
  refine aw_block ?_
  refine aw_loop (AL.sub (fr' := [(0, .str x0), (1, .int .i64 x1), (5, .int .i64 0)]) (H' := []) (sub_mk idn (by exact ⟨⟨_, rfl, ad_ren rfl⟩, ⟨_, rfl, ad_ren rfl⟩, ⟨_, rfl, ad_ren rfl⟩, trivial⟩) (by exact trivial) (by rfl) (nk rfl)) (al_cnt (fun i2 (s1 : Unit) => [(0, .str x0), (1, .int .i64 x1), (5, .int .i64 i2)]) (fun i2 (s1 : Unit) => []) (fun d i2 (s1 : Unit) => d = Int.toNat ((x0.size : Int) - i2) ∧ 0 ≤ i2 ∧ i2 ≤ (x0.size : Int)) h ⟨rfl, (by (try simp only [List.length_set, List.length_append, List.length_cons, List.length_nil, List.length_replicate, List.length_take, List.length_drop]) <;> omega), (by (try simp only [List.length_set, List.length_append, List.length_cons, List.length_nil, List.length_replicate, List.length_take, List.length_drop]) <;> omega)⟩ (fun d3 i2 s1 hI h ih3 => ?_)))
  obtain ⟨hd, _, _⟩ := hI
  refine al_round ?_
  refine aw_seq ?_
  refine aw_seq ?_
  refine aw_region ?_
  refine ao_read trivial (r_move rfl) rfl ?_
  refine ao_read trivial (r_move rfl) rfl ?_
  refine ao_read trivial (r_len_str Tryd.underlying9 rfl) rfl ?_
  refine ao_read trivial (r_lss rfl rfl) rfl ?_
  refine ao_nil ?_
  refine aq_then ?_
  refine aw_cond rfl (fun hb5 => ?_) (fun hb5 => ?_)
  · have q6 := d_t hb5
    obtain ⟨d3, rfl⟩ : ∃ e, d3 = e + 1 := ⟨d3 - 1, by omega⟩
    replace h := is_cntS h
    refine aw_skip ?_
    refine aq_then ?_
    refine aw_seq ?_
    refine aw_block ?_
    refine aw_seq ?_
    refine aw_region ?_
    refine ao_read trivial (r_move rfl) rfl ?_
    refine ao_read trivial (r_move rfl) rfl ?_
    refine ao_read trivial (r_index_str Tryd.underlying9 rfl rfl (by omega) (by omega)) rfl ?_
    refine ao_read trivial (r_convI Tryd.underlying5 Tryd.underlying3 rfl (byte_wrap _)) rfl ?_
    refine ao_scall trivial (scall (c_spec_l1In (is_mk (rfl : p_spec_l1In ((x0.data.toList.getD i2.toNat 0).toNat : Int) 32 126 = _))) rfl Tryd.func31 rfl rfl rfl rfl (fun σ => ⟨ad_ren rfl, ad_ren rfl, ad_ren rfl, trivial⟩)) rfl ?_
    refine ao_read trivial (r_not rfl) rfl ?_
    refine ao_read trivial (r_move rfl) rfl ?_
    refine ao_readG (x := .str x0) rfl (GV.F rfl) (fun hg8 => r_move rfl) rfl ?_
    refine ao_readG (x := .int .i64 i2) rfl (GV.F rfl) (fun hg9 => r_move rfl) rfl ?_
    refine ao_readG (x := .int .u8 ((x0.data.toList.getD i2.toNat 0).toNat : Int)) rfl (GV.F rfl) (fun hg10 => Reads.strip 19 rfl (hg10) (Reads.strip 20 rfl (hg10) (r_index_str Tryd.underlying9 rfl rfl (by omega) (by omega)))) rfl ?_
    refine ao_readG (x := .bool (decide (((x0.data.toList.getD i2.toNat 0).toNat : Int) = 35))) rfl (GV.F rfl) (fun hg11 => Reads.strip 21 rfl (hg11) (r_eql rfl rfl)) rfl ?_
    refine ao_read trivial (r_orB rfl rfl) rfl ?_
    refine ao_nil ?_
    refine aq_then ?_
    refine aw_cond rfl (fun hb12 => ?_) (fun hb12 => ?_)
    · replace h := is_if hb12 h
      refine aw_seq ?_
      refine aw_region ?_
      refine ao_read trivial (r_assign rfl) rfl ?_
      refine ao_nil ?_
      refine aq_then ?_
      refine aw_ret ?_
      refine aq_in_ret ?_
      refine aq_then_ret ?_
      refine aq_then_ret ?_
      refine aq_in_ret ?_
      refine aq_then_ret ?_
      refine aq_ret ?_
      obtain rfl := is_some h
      exact aq_finx (l := [.tmp 4]) (xs := [.bool false]) idn [.bool false] [] rfl (by exact ⟨rfl, trivial⟩) (by exact ⟨ad_ren rfl, trivial⟩) (by exact trivial) rfl (nk rfl) rfl rfl ⟨rfl, rfl⟩
    · obtain ⟨q13, q14⟩ := or_f hb12
      have q15 : ¬ (((x0.data.toList.getD i2.toNat 0).toNat : Int) = 35) := d_f q14
      replace h := is_else (ne_t hb12) h
      refine aw_skip ?_
      refine aq_in ?_
      refine aq_then ?_
      refine aw_region ?_
      refine ao_read trivial (r_move rfl) rfl ?_
      refine ao_read trivial (r_addI rfl rfl (wrap_id (by omega) (by omega))) rfl ?_
      refine ao_read trivial (r_assign rfl) rfl ?_
      refine ao_nil ?_
      exact aq_again (AL.sub (sub_mk idn (by exact ⟨⟨_, rfl, ad_ren rfl⟩, ⟨_, rfl, ad_ren rfl⟩, ⟨_, rfl, ad_ren rfl⟩, trivial⟩) (by exact trivial) (by rfl) (nk rfl)) (ih3 d3 (i2 + 1) () (by omega) ⟨by omega, (by (try simp only [List.length_set, List.length_append, List.length_cons, List.length_nil, List.length_replicate, List.length_take, List.length_drop]) <;> omega), (by (try simp only [List.length_set, List.length_append, List.length_cons, List.length_nil, List.length_replicate, List.length_take, List.length_drop]) <;> omega)⟩ h))
  · have q7 := d_f hb5
    obtain rfl : d3 = 0 := by omega
    replace h := is_cnt0 h
    refine aw_exit ?_
    refine aq_then_exit ?_
    refine aq_then_exit ?_
    refine aq_in_exit ?_
    refine aq_then ?_
    refine aw_seq ?_
    refine aw_region ?_
    refine ao_read trivial (r_move rfl) rfl ?_
    refine ao_read trivial (r_len_str Tryd.underlying9 rfl) rfl ?_
    refine ao_read trivial (r_move rfl) rfl ?_
    refine ao_read trivial (r_leq rfl rfl) rfl ?_
    refine ao_read trivial (r_assign rfl) rfl ?_
    refine ao_nil ?_
    refine aq_then ?_
    refine aw_ret ?_
    refine aq_ret ?_
    obtain rfl := is_some h
    exact aq_finx (l := [.tmp 4]) (xs := [.bool (decide ((x0.size : Int) ≤ x1))]) idn [.bool (decide ((x0.size : Int) ≤ x1))] [] rfl (by exact ⟨rfl, trivial⟩) (by exact ⟨ad_ren rfl, trivial⟩) (by exact trivial) rfl (nk rfl) rfl rfl ⟨rfl, rfl⟩
theorem c_spec_l1Stands {x0 : ByteArray} {x1 : Int} {r : Bool} (h : Is (p_spec_l1Stands x0 x1) (some r)) :
    Scalar Tryd.prog 54 [.str x0, .int .u8 x1] (.bool r) := by
  unfold p_spec_l1Stands at h
  refine ac_enter ⟨17, 0⟩ Tryd.func54 rfl rfl rfl rfl rfl (fun Γ => ?_)
  obtain ⟨gs0, h⟩ := is_guard h
  refine aw_seq ?_
  refine aw_region ?_
  refine ao_read trivial (r_assign rfl) rfl ?_
  refine ao_nil ?_
  refine aq_then ?_
  refine aw_seq ?_
  refine aw_seq ?_
  refine aw_region ?_
  refine ao_read trivial (r_assign rfl) rfl ?_
  refine ao_nil ?_
  refine aq_then ?_
  refine aw_block ?_
  refine aw_loop (AL.sub (fr' := [(0, .str x0), (1, .int .u8 x1), (5, .int .i64 0)]) (H' := []) (sub_mk idn (by exact ⟨⟨_, rfl, ad_ren rfl⟩, ⟨_, rfl, ad_ren rfl⟩, ⟨_, rfl, ad_ren rfl⟩, trivial⟩) (by exact trivial) (by rfl) (nk rfl)) (al_cnt (fun i2 (s1 : Unit) => [(0, .str x0), (1, .int .u8 x1), (5, .int .i64 i2)]) (fun i2 (s1 : Unit) => []) (fun d i2 (s1 : Unit) => d = Int.toNat ((x0.size : Int) - i2) ∧ 0 ≤ i2 ∧ i2 ≤ (x0.size : Int)) h ⟨rfl, (by (try simp only [List.length_set, List.length_append, List.length_cons, List.length_nil, List.length_replicate, List.length_take, List.length_drop]) <;> omega), (by (try simp only [List.length_set, List.length_append, List.length_cons, List.length_nil, List.length_replicate, List.length_take, List.length_drop]) <;> omega)⟩ (fun d3 i2 s1 hI h ih3 => ?_)))
  obtain ⟨hd, _, _⟩ := hI
  refine al_round ?_
  refine aw_seq ?_
  refine aw_seq ?_
  refine aw_region ?_
  refine ao_read trivial (r_move rfl) rfl ?_
  refine ao_read trivial (r_move rfl) rfl ?_
  refine ao_read trivial (r_len_str Tryd.underlying9 rfl) rfl ?_
  refine ao_read trivial (r_lss rfl rfl) rfl ?_
  refine ao_nil ?_
  refine aq_then ?_
  refine aw_cond rfl (fun hb5 => ?_) (fun hb5 => ?_)
  · have q6 := d_t hb5
    obtain ⟨d3, rfl⟩ : ∃ e, d3 = e + 1 := ⟨d3 - 1, by omega⟩
    replace h := is_cntS h
    refine aw_skip ?_
    refine aq_then ?_
    refine aw_seq ?_
    refine aw_block ?_
    refine aw_seq ?_
    refine aw_region ?_
    refine ao_read trivial (r_move rfl) rfl ?_
    refine ao_read trivial (r_move rfl) rfl ?_
    refine ao_read trivial (r_index_str Tryd.underlying9 rfl rfl (by omega) (by omega)) rfl ?_
    refine ao_read trivial (r_move rfl) rfl ?_
    refine ao_read trivial (r_eql rfl rfl) rfl ?_
    refine ao_nil ?_
    refine aq_then ?_
    refine aw_cond rfl (fun hb8 => ?_) (fun hb8 => ?_)
    · have q9 : ((x0.data.toList.getD i2.toNat 0).toNat : Int) = x1 := d_t hb8
      replace h := is_if (d_t hb8) h
      refine aw_seq ?_
      refine aw_region ?_
      refine ao_read trivial (r_assign rfl) rfl ?_
      refine ao_nil ?_
      refine aq_then ?_
      refine aw_ret ?_
      refine aq_in_ret ?_
      refine aq_then_ret ?_
      refine aq_then_ret ?_
      refine aq_in_ret ?_
      refine aq_then_ret ?_
      refine aq_ret ?_
      obtain rfl := is_some h
      exact aq_finx (l := [.tmp 4]) (xs := [.bool true]) idn [.bool true] [] rfl (by exact ⟨rfl, trivial⟩) (by exact ⟨ad_ren rfl, trivial⟩) (by exact trivial) rfl (nk rfl) rfl rfl ⟨rfl, rfl⟩
    · have q10 : ¬ (((x0.data.toList.getD i2.toNat 0).toNat : Int) = x1) := d_f hb8
      replace h := is_else (d_f hb8) h
      refine aw_skip ?_
      refine aq_in ?_
      refine aq_then ?_
      refine aw_region ?_
      refine ao_read trivial (r_move rfl) rfl ?_
      refine ao_read trivial (r_addI rfl rfl (wrap_id (by omega) (by omega))) rfl ?_
      refine ao_read trivial (r_assign rfl) rfl ?_
      refine ao_nil ?_
      exact aq_again (AL.sub (sub_mk idn (by exact ⟨⟨_, rfl, ad_ren rfl⟩, ⟨_, rfl, ad_ren rfl⟩, ⟨_, rfl, ad_ren rfl⟩, trivial⟩) (by exact trivial) (by rfl) (nk rfl)) (ih3 d3 (i2 + 1) () (by omega) ⟨by omega, (by (try simp only [List.length_set, List.length_append, List.length_cons, List.length_nil, List.length_replicate, List.length_take, List.length_drop]) <;> omega), (by (try simp only [List.length_set, List.length_append, List.length_cons, List.length_nil, List.length_replicate, List.length_take, List.length_drop]) <;> omega)⟩ h))
  · have q7 := d_f hb5
    obtain rfl : d3 = 0 := by omega
    replace h := is_cnt0 h
    refine aw_exit ?_
    refine aq_then_exit ?_
    refine aq_then_exit ?_
    refine aq_in_exit ?_
    refine aq_then ?_
    refine aw_seq ?_
    refine aw_region ?_
    refine ao_read trivial (r_assign rfl) rfl ?_
    refine ao_nil ?_
    refine aq_then ?_
    refine aw_ret ?_
    refine aq_ret ?_
    obtain rfl := is_some h
    exact aq_finx (l := [.tmp 4]) (xs := [.bool false]) idn [.bool false] [] rfl (by exact ⟨rfl, trivial⟩) (by exact ⟨ad_ren rfl, trivial⟩) (by exact trivial) rfl (nk rfl) rfl rfl ⟨rfl, rfl⟩
theorem c_spec_l12Record {x0 : (ByteArray × (ByteArray × Unit))} {r : Bool} (h : Is (p_spec_l12Record x0) (some r)) :
    Scalar Tryd.prog 37 [.v (.pair .str (.pair .str .unit)) x0] (.bool r) := by
  unfold p_spec_l12Record at h
  refine ac_enter ⟨22, 0⟩ Tryd.func37 rfl rfl rfl rfl rfl (fun Γ => ?_)
  refine aw_seq ?_
  refine aw_region ?_
  refine ao_eff trivial (e_box 0 rfl rfl rfl rfl rfl rfl) rfl ?_
  refine ao_read trivial (r_assign rfl) rfl ?_
  refine ao_nil ?_
  refine aq_then ?_
  refine aw_seq ?_
  refine aw_region ?_
  refine ao_read trivial (r_fieldAddr Tryd.underlying33 rfl Tryd.sizeOf9 rfl rfl rfl) rfl ?_
  refine ao_read trivial (r_load_cell Tryd.isAgg9 rfl rfl rfl) rfl ?_
  refine ao_read trivial (r_neq_str rfl rfl) rfl ?_
  refine ao_read trivial (r_move rfl) rfl ?_
  refine ao_readG (x := .ref 0 0) rfl (GV.T rfl) (fun hg1 => r_fieldAddr Tryd.underlying33 rfl Tryd.sizeOf9 rfl rfl rfl) rfl ?_
  refine ao_readG (x := .str x0.1) rfl (GV.T rfl) (fun hg2 => Reads.strip 7 rfl (hg2) (r_load_cell Tryd.isAgg9 rfl rfl rfl)) rfl ?_
  obtain ⟨g4, h⟩ := is_guard h
  refine ao_scallG (r := .bool ((p_spec_l12Bytes x0.1 160).getD false)) rfl (GV.T rfl) (fun hg3 => SCall.strip 8 rfl (hg3) (scall (c_spec_l12Bytes (is_mk (isSome_getD (g4 hg3)))) rfl Tryd.func53 rfl rfl rfl rfl (fun σ => ⟨ad_ren rfl, ad_ren rfl, trivial⟩))) rfl ?_
  refine ao_read trivial (r_andB rfl rfl) rfl ?_
  refine ao_read trivial (r_move rfl) rfl ?_
  refine ao_readG (x := .ref 0 0) rfl (GV.T rfl) (fun hg5 => by
        obtain ⟨q6, q7⟩ := and_t hg5
        exact r_fieldAddr Tryd.underlying33 rfl Tryd.sizeOf9 rfl rfl rfl) rfl ?_
  refine ao_readG (x := .str x0.1) rfl (GV.T rfl) (fun hg8 => by
        obtain ⟨q9, q10⟩ := and_t hg8
        exact Reads.strip 12 rfl (hg8) (r_load_cell Tryd.isAgg9 rfl rfl rfl)) rfl ?_
  obtain ⟨g14, h⟩ := is_guard h
  refine ao_scallG (r := .bool ((p_spec_l1Stands x0.1 64).getD false)) rfl (GV.T rfl) (fun hg11 => by
        obtain ⟨q12, q13⟩ := and_t hg11
        exact SCall.strip 13 rfl (hg11) (scall (c_spec_l1Stands (is_mk (isSome_getD (g14 hg11)))) rfl Tryd.func54 rfl rfl rfl rfl (fun σ => ⟨ad_ren rfl, ad_ren rfl, trivial⟩))) rfl ?_
  refine ao_readG (x := .bool (!((p_spec_l1Stands x0.1 64).getD false))) rfl (GV.T rfl) (fun hg15 => by
        obtain ⟨q16, q17⟩ := and_t hg15
        exact Reads.strip 14 rfl (hg15) (r_not rfl)) rfl ?_
  refine ao_read trivial (r_andB rfl rfl) rfl ?_
  refine ao_read trivial (r_move rfl) rfl ?_
  refine ao_readG (x := .ref 0 1) rfl (GV.T rfl) (fun hg18 => by
        obtain ⟨q19, q20⟩ := and_t hg18
        obtain ⟨q21, q22⟩ := and_t q19
        exact r_fieldAddr Tryd.underlying33 rfl Tryd.sizeOf9 rfl rfl rfl) rfl ?_
  refine ao_readG (x := .str x0.2.1) rfl (GV.T rfl) (fun hg23 => by
        obtain ⟨q24, q25⟩ := and_t hg23
        obtain ⟨q26, q27⟩ := and_t q24
        exact Reads.strip 18 rfl (hg23) (r_load_cell Tryd.isAgg9 rfl rfl rfl)) rfl ?_
  obtain ⟨g33, h⟩ := is_guard h
  refine ao_scallG (r := .bool ((p_spec_l12Bytes x0.2.1 250).getD false)) rfl (GV.T rfl) (fun hg28 => by
        obtain ⟨q29, q30⟩ := and_t hg28
        obtain ⟨q31, q32⟩ := and_t q29
        exact SCall.strip 19 rfl (hg28) (scall (c_spec_l12Bytes (is_mk (isSome_getD (g33 hg28)))) rfl Tryd.func53 rfl rfl rfl rfl (fun σ => ⟨ad_ren rfl, ad_ren rfl, trivial⟩))) rfl ?_
  refine ao_read trivial (r_andB rfl rfl) rfl ?_
  refine ao_read trivial (r_assign rfl) rfl ?_
  refine ao_nil ?_
  refine aq_then ?_
  refine aw_ret ?_
  refine aq_ret ?_
  obtain rfl := is_some h
  exact aq_finx (l := [.tmp 2]) (xs := [.bool ((((!(eqS x0.1 (ByteArray.mk #[]))) && ((p_spec_l12Bytes x0.1 160).getD false)) && (!((p_spec_l1Stands x0.1 64).getD false))) && ((p_spec_l12Bytes x0.2.1 250).getD false))]) idn [.bool ((((!(eqS x0.1 (ByteArray.mk #[]))) && ((p_spec_l12Bytes x0.1 160).getD false)) && (!((p_spec_l1Stands x0.1 64).getD false))) && ((p_spec_l12Bytes x0.2.1 250).getD false))] [] rfl (by exact ⟨rfl, trivial⟩) (by exact ⟨ad_ren rfl, trivial⟩) (by exact trivial) rfl (nk rfl) rfl rfl ⟨rfl, rfl⟩
theorem c_spec_l1Num {fu : Nat} {x0 : Int} {r : ByteArray} (h : Is (p_spec_l1Num fu x0) (some r)) :
    Scalar Tryd.prog 56 [.int .i64 x0] (.str r) := by
  induction fu generalizing x0 r with
  | zero => exact nomatch (h : none = some r)
  | succ fu ih =>
    rw [p_spec_l1Num.eq_2] at h
    refine ac_enter ⟨35, 0⟩ Tryd.func56 rfl rfl rfl rfl rfl (fun Γ => ?_)
    refine aw_seq ?_
    refine aw_region ?_
    refine ao_read trivial (r_assign rfl) rfl ?_
    refine ao_nil ?_
    refine aq_then ?_
    refine aw_seq ?_
    refine aw_seq ?_
    refine aw_region ?_
    refine ao_read trivial (r_move rfl) rfl ?_
    refine ao_read trivial (r_lss rfl rfl) rfl ?_
    refine ao_nil ?_
    refine aq_then ?_
    refine aw_cond rfl (fun hb1 => ?_) (fun hb1 => ?_)
    · have q2 := d_t hb1
      replace h := is_if (d_t hb1) h
      refine aw_seq ?_
      refine aw_seq ?_
      refine aw_region ?_
      refine ao_read trivial (r_move rfl) rfl ?_
      refine ao_read trivial (r_gtr rfl rfl) rfl ?_
      refine ao_nil ?_
      refine aq_then ?_
      refine aw_cond rfl (fun hb4 => ?_) (fun hb4 => ?_)
      · have q5 := d_t hb4
        replace h := is_if (d_t hb4) h
        refine aw_seq ?_
        refine aw_region ?_
        refine ao_read trivial (r_move rfl) rfl ?_
        refine ao_read trivial (r_neg rfl) rfl ?_
        obtain ⟨r7, r7h, h⟩ := is_bind h
        refine ao_scall trivial (scall (ih (is_mk r7h)) rfl Tryd.func56 rfl rfl rfl rfl (fun σ => ⟨ad_ren rfl, trivial⟩)) rfl ?_
        obtain ⟨g8, h⟩ := is_guard h
        refine ao_read trivial (r_add_str (a := (ByteArray.mk #[45])) (b := r7) rfl rfl (by omega)) rfl ?_
        refine ao_read trivial (r_assign rfl) rfl ?_
        refine ao_nil ?_
        refine aq_then ?_
        refine aw_ret ?_
        refine aq_then_ret ?_
        refine aq_then_ret ?_
        refine aq_ret ?_
        obtain rfl := is_some h
        exact aq_finx (l := [.tmp 2]) (xs := [.str ((ByteArray.mk #[45]) ++ r7)]) idn [.str ((ByteArray.mk #[45]) ++ r7)] [] rfl (by exact ⟨rfl, trivial⟩) (by exact ⟨ad_ren rfl, trivial⟩) (by exact trivial) rfl (nk rfl) rfl rfl ⟨rfl, rfl⟩
      · have q6 := d_f hb4
        replace h := is_else (d_f hb4) h
        refine aw_skip ?_
        refine aq_then ?_
        refine aw_seq ?_
        refine aw_region ?_
        refine ao_read trivial (r_move rfl) rfl ?_
        refine ao_read trivial (r_quo rfl rfl (by decide)) rfl ?_
        obtain ⟨r9, r9h, h⟩ := is_bind h
        refine ao_scall trivial (scall (ih (is_mk r9h)) rfl Tryd.func56 rfl rfl rfl rfl (fun σ => ⟨ad_ren rfl, trivial⟩)) rfl ?_
        refine ao_read trivial (r_move rfl) rfl ?_
        refine ao_read trivial (r_rem rfl rfl (by decide)) rfl ?_
        refine ao_read trivial (r_neg rfl) rfl ?_
        obtain ⟨r10, r10h, h⟩ := is_bind h
        refine ao_scall trivial (scall (ih (is_mk r10h)) rfl Tryd.func56 rfl rfl rfl rfl (fun σ => ⟨ad_ren rfl, trivial⟩)) rfl ?_
        obtain ⟨g11, h⟩ := is_guard h
        refine ao_read trivial (r_add_str (a := r9) (b := r10) rfl rfl (by omega)) rfl ?_
        refine ao_read trivial (r_assign rfl) rfl ?_
        refine ao_nil ?_
        refine aq_then ?_
        refine aw_ret ?_
        refine aq_then_ret ?_
        refine aq_ret ?_
        obtain rfl := is_some h
        exact aq_finx (l := [.tmp 2]) (xs := [.str (r9 ++ r10)]) idn [.str (r9 ++ r10)] [] rfl (by exact ⟨rfl, trivial⟩) (by exact ⟨ad_ren rfl, trivial⟩) (by exact trivial) rfl (nk rfl) rfl rfl ⟨rfl, rfl⟩
    · have q3 := d_f hb1
      replace h := is_else (d_f hb1) h
      refine aw_skip ?_
      refine aq_then ?_
      refine aw_seq ?_
      refine aw_seq ?_
      refine aw_region ?_
      refine ao_read trivial (r_move rfl) rfl ?_
      refine ao_read trivial (r_lss rfl rfl) rfl ?_
      refine ao_nil ?_
      refine aq_then ?_
      refine aw_cond rfl (fun hb12 => ?_) (fun hb12 => ?_)
      · have q13 := d_t hb12
        replace h := is_if (d_t hb12) h
        refine aw_seq ?_
        refine aw_region ?_
        refine ao_read trivial (r_move rfl) rfl ?_
        refine ao_read trivial (r_move rfl) rfl ?_
        refine ao_read trivial (r_addI rfl rfl (wrap_id (by omega) (by omega))) rfl ?_
        obtain ⟨g15, h⟩ := is_guard h
        refine ao_read trivial (r_slice_str Tryd.underlying9 rfl (.some rfl) (.some rfl) (show 0 ≤ x0 from by omega) (show x0 ≤ (x0 + 1) from by omega) (show (x0 + 1) ≤ ((ByteArray.mk #[48, 49, 50, 51, 52, 53, 54, 55, 56, 57]).size : Int) from by (try simp only [List.length_cons, List.length_nil]) <;> omega)) rfl ?_
        refine ao_read trivial (r_assign rfl) rfl ?_
        refine ao_nil ?_
        refine aq_then ?_
        refine aw_ret ?_
        refine aq_then_ret ?_
        refine aq_ret ?_
        obtain rfl := is_some h
        exact aq_finx (l := [.tmp 2]) (xs := [.str ((ByteArray.mk #[48, 49, 50, 51, 52, 53, 54, 55, 56, 57]).extract x0.toNat (x0 + 1).toNat)]) idn [.str ((ByteArray.mk #[48, 49, 50, 51, 52, 53, 54, 55, 56, 57]).extract x0.toNat (x0 + 1).toNat)] [] rfl (by exact ⟨rfl, trivial⟩) (by exact ⟨ad_ren rfl, trivial⟩) (by exact trivial) rfl (nk rfl) rfl rfl ⟨rfl, rfl⟩
      · have q14 := d_f hb12
        replace h := is_else (d_f hb12) h
        refine aw_skip ?_
        refine aq_then ?_
        refine aw_seq ?_
        obtain ⟨r16, r16h, h⟩ := is_bind h
        obtain ⟨g17, h⟩ := is_guard h
        obtain ⟨g18, h⟩ := is_guard h
        obtain ⟨g19, h⟩ := is_guard h
        obtain ⟨g20, h⟩ := is_guard h
        refine aw_drawAll (by kernel_rfl) ?_
        refine an_read 0 (by kernel_rfl) (fun _ _ _ h => h) rfl (by kernel_rfl) trivial (r_move rfl) rfl ?_
        refine an_read 1 (by kernel_rfl) (fun _ _ _ h => h) rfl (by kernel_rfl) trivial (r_quo rfl rfl (by decide)) rfl ?_
        refine an_scall 2 (by kernel_rfl) (fun _ _ _ h => h) rfl (by kernel_rfl) trivial (scall (ih (is_mk r16h)) rfl Tryd.func56 rfl rfl rfl rfl (fun σ => ⟨ad_ren rfl, trivial⟩)) rfl ?_
        refine an_read 3 (by kernel_rfl) (fun _ _ _ h => h) rfl (by kernel_rfl) trivial (r_move rfl) rfl ?_
        refine an_read 4 (by kernel_rfl) (fun _ _ _ h => h) rfl (by kernel_rfl) trivial (r_rem rfl rfl (by decide)) rfl ?_
        refine an_read 5 (by kernel_rfl) (fun _ _ _ h => h) rfl (by kernel_rfl) trivial (r_move rfl) rfl ?_
        refine an_read 6 (by kernel_rfl) (fun _ _ _ h => h) rfl (by kernel_rfl) trivial (r_rem rfl rfl (by decide)) rfl ?_
        refine an_read 7 (by kernel_rfl) (fun _ _ _ h => h) rfl (by kernel_rfl) trivial (r_add rfl rfl) rfl ?_
        refine an_read 8 (by kernel_rfl) (fun _ _ _ h => h) rfl (by kernel_rfl) trivial (r_slice_str Tryd.underlying9 rfl (.some rfl) (.some rfl) (show 0 ≤ (x0.tmod 10) from by omega) (show (x0.tmod 10) ≤ (IntKind.wrap .i64 ((x0.tmod 10) + 1)) from by omega) (show (IntKind.wrap .i64 ((x0.tmod 10) + 1)) ≤ ((ByteArray.mk #[48, 49, 50, 51, 52, 53, 54, 55, 56, 57]).size : Int) from by (try simp only [List.length_cons, List.length_nil]) <;> omega)) rfl ?_
        refine an_read 9 (by kernel_rfl) (fun _ _ _ h => h) rfl (by kernel_rfl) trivial (r_add_str (a := r16) (b := ((ByteArray.mk #[48, 49, 50, 51, 52, 53, 54, 55, 56, 57]).extract (x0.tmod 10).toNat (IntKind.wrap .i64 ((x0.tmod 10) + 1)).toNat)) rfl rfl (by omega)) rfl ?_
        refine an_read 10 (by kernel_rfl) (fun _ _ _ h => h) rfl (by kernel_rfl) trivial (r_assign rfl) rfl ?_
        refine an_done rfl ?_
        refine aq_then ?_
        refine aw_ret ?_
        refine aq_ret ?_
        obtain rfl := is_some h
        exact aq_finx (l := [.tmp 2]) (xs := [.str (r16 ++ ((ByteArray.mk #[48, 49, 50, 51, 52, 53, 54, 55, 56, 57]).extract (x0.tmod 10).toNat (IntKind.wrap .i64 ((x0.tmod 10) + 1)).toNat))]) idn [.str (r16 ++ ((ByteArray.mk #[48, 49, 50, 51, 52, 53, 54, 55, 56, 57]).extract (x0.tmod 10).toNat (IntKind.wrap .i64 ((x0.tmod 10) + 1)).toNat))] [] rfl (by exact ⟨rfl, trivial⟩) (by exact ⟨ad_ren rfl, trivial⟩) (by exact trivial) rfl (nk rfl) rfl rfl ⟨rfl, rfl⟩
theorem c_spec_l1Sum {x0 : ByteArray} {r : Int} (h : Is (p_spec_l1Sum x0) (some r)) :
    Scalar Tryd.prog 67 [.str x0] (.int .i64 r) := by
  unfold p_spec_l1Sum at h
  refine ac_enter ⟨21, 0⟩ Tryd.func67 rfl rfl rfl rfl rfl (fun Γ => ?_)
  obtain ⟨gs0, h⟩ := is_guard h
  refine aw_seq ?_
  refine aw_region ?_
  refine ao_read trivial (r_assign rfl) rfl ?_
  refine ao_nil ?_
  refine aq_then ?_
  refine aw_seq ?_
  refine aw_region ?_
  refine ao_read trivial (r_assign rfl) rfl ?_
  refine ao_nil ?_
  refine aq_then ?_
  refine aw_seq ?_
  refine aw_seq ?_
  refine aw_region ?_
  refine ao_read trivial (r_assign rfl) rfl ?_
  refine ao_nil ?_
  refine aq_then ?_
  refine aw_block ?_
  refine aw_loop (AL.sub (fr' := [(0, .str x0), (3, .int .i64 7), (4, .int .i64 0)]) (H' := []) (sub_mk idn (by exact ⟨⟨_, rfl, ad_ren rfl⟩, ⟨_, rfl, ad_ren rfl⟩, ⟨_, rfl, ad_ren rfl⟩, trivial⟩) (by exact trivial) (by rfl) (nk rfl)) (al_cnt (fun i2 (s1 : Int) => [(0, .str x0), (3, .int .i64 s1), (4, .int .i64 i2)]) (fun i2 (s1 : Int) => []) (fun d i2 (s1 : Int) => d = Int.toNat ((x0.size : Int) - i2) ∧ 0 ≤ i2 ∧ i2 ≤ (x0.size : Int)) h ⟨rfl, (by (try simp only [List.length_set, List.length_append, List.length_cons, List.length_nil, List.length_replicate, List.length_take, List.length_drop]) <;> omega), (by (try simp only [List.length_set, List.length_append, List.length_cons, List.length_nil, List.length_replicate, List.length_take, List.length_drop]) <;> omega)⟩ (fun d3 i2 s1 hI h ih3 => ?_)))
  obtain ⟨hd, _, _⟩ := hI
  refine al_round ?_
  refine aw_seq ?_
  refine aw_seq ?_
  refine aw_region ?_
  refine ao_read trivial (r_move rfl) rfl ?_
  refine ao_read trivial (r_move rfl) rfl ?_
  refine ao_read trivial (r_len_str Tryd.underlying9 rfl) rfl ?_
  refine ao_read trivial (r_lss rfl rfl) rfl ?_
  refine ao_nil ?_
  refine aq_then ?_
  refine aw_cond rfl (fun hb5 => ?_) (fun hb5 => ?_)
  · have q6 := d_t hb5
    obtain ⟨d3, rfl⟩ : ∃ e, d3 = e + 1 := ⟨d3 - 1, by omega⟩
    replace h := is_cntS h
    refine aw_skip ?_
    refine aq_then ?_
    refine aw_seq ?_
    refine aw_block ?_
    refine aw_region ?_
    refine ao_read trivial (r_move rfl) rfl ?_
    refine ao_read trivial (r_mul rfl rfl) rfl ?_
    refine ao_read trivial (r_move rfl) rfl ?_
    refine ao_read trivial (r_move rfl) rfl ?_
    refine ao_read trivial (r_index_str Tryd.underlying9 rfl rfl (by omega) (by omega)) rfl ?_
    refine ao_read trivial (r_convI Tryd.underlying5 Tryd.underlying3 rfl (byte_wrap _)) rfl ?_
    refine ao_read trivial (r_add rfl rfl) rfl ?_
    refine ao_read trivial (r_add rfl rfl) rfl ?_
    refine ao_read trivial (r_rem rfl rfl (by decide)) rfl ?_
    refine ao_read trivial (r_assign rfl) rfl ?_
    refine ao_nil ?_
    refine aq_in ?_
    refine aq_then ?_
    refine aw_region ?_
    refine ao_read trivial (r_move rfl) rfl ?_
    refine ao_read trivial (r_addI rfl rfl (wrap_id (by omega) (by omega))) rfl ?_
    refine ao_read trivial (r_assign rfl) rfl ?_
    refine ao_nil ?_
    exact aq_again (AL.sub (sub_mk idn (by exact ⟨⟨_, rfl, ad_ren rfl⟩, ⟨_, rfl, ad_ren rfl⟩, ⟨_, rfl, ad_ren rfl⟩, trivial⟩) (by exact trivial) (by rfl) (nk rfl)) (ih3 d3 (i2 + 1) ((IntKind.wrap .i64 ((IntKind.wrap .i64 ((IntKind.wrap .i64 (41 * s1)) + ((x0.data.toList.getD i2.toNat 0).toNat : Int))) + 1)).tmod 999979) (by omega) ⟨by omega, (by (try simp only [List.length_set, List.length_append, List.length_cons, List.length_nil, List.length_replicate, List.length_take, List.length_drop]) <;> omega), (by (try simp only [List.length_set, List.length_append, List.length_cons, List.length_nil, List.length_replicate, List.length_take, List.length_drop]) <;> omega)⟩ h))
  · have q7 := d_f hb5
    obtain rfl : d3 = 0 := by omega
    replace h := is_cnt0 h
    refine aw_exit ?_
    refine aq_then_exit ?_
    refine aq_then_exit ?_
    refine aq_in_exit ?_
    refine aq_then ?_
    refine aw_seq ?_
    refine aw_region ?_
    refine ao_read trivial (r_move rfl) rfl ?_
    refine ao_read trivial (r_assign rfl) rfl ?_
    refine ao_nil ?_
    refine aq_then ?_
    refine aw_ret ?_
    refine aq_ret ?_
    obtain rfl := is_some h
    exact aq_finx (l := [.tmp 2]) (xs := [.int .i64 s1]) idn [.int .i64 s1] [] rfl (by exact ⟨rfl, trivial⟩) (by exact ⟨ad_ren rfl, trivial⟩) (by exact trivial) rfl (nk rfl) rfl rfl ⟨rfl, rfl⟩
theorem c_spec_l1Seal {fu : Nat} {x0 : ByteArray} {r : ByteArray} (h : Is (p_spec_l1Seal fu x0) (some r)) :
    Scalar Tryd.prog 55 [.str x0] (.str r) := by
  unfold p_spec_l1Seal at h
  refine ac_enter ⟨9, 0⟩ Tryd.func55 rfl rfl rfl rfl rfl (fun Γ => ?_)
  obtain ⟨gs0, h⟩ := is_guard h
  refine aw_seq ?_
  refine aw_region ?_
  refine ao_read trivial (r_assign rfl) rfl ?_
  refine ao_nil ?_
  refine aq_then ?_
  refine aw_seq ?_
  refine aw_region ?_
  refine ao_read trivial (r_move rfl) rfl ?_
  obtain ⟨g1, h⟩ := is_guard h
  refine ao_read trivial (r_add_str (a := x0) (b := (ByteArray.mk #[35])) rfl rfl (by omega)) rfl ?_
  refine ao_read trivial (r_move rfl) rfl ?_
  obtain ⟨r2, r2h, h⟩ := is_bind h
  refine ao_scall trivial (scall (c_spec_l1Sum (is_mk r2h)) rfl Tryd.func67 rfl rfl rfl rfl (fun σ => ⟨ad_ren rfl, trivial⟩)) rfl ?_
  obtain ⟨r3, r3h, h⟩ := is_bind h
  refine ao_scall trivial (scall (c_spec_l1Num (is_mk r3h)) rfl Tryd.func56 rfl rfl rfl rfl (fun σ => ⟨ad_ren rfl, trivial⟩)) rfl ?_
  obtain ⟨g4, h⟩ := is_guard h
  refine ao_read trivial (r_add_str (a := (x0 ++ (ByteArray.mk #[35]))) (b := r3) rfl rfl (by omega)) rfl ?_
  refine ao_read trivial (r_assign rfl) rfl ?_
  refine ao_nil ?_
  refine aq_then ?_
  refine aw_ret ?_
  refine aq_ret ?_
  obtain rfl := is_some h
  exact aq_finx (l := [.tmp 2]) (xs := [.str ((x0 ++ (ByteArray.mk #[35])) ++ r3)]) idn [.str ((x0 ++ (ByteArray.mk #[35])) ++ r3)] [] rfl (by exact ⟨rfl, trivial⟩) (by exact ⟨ad_ren rfl, trivial⟩) (by exact trivial) rfl (nk rfl) rfl rfl ⟨rfl, rfl⟩
theorem c_spec_l12Line {fu : Nat} {x0 : Int} {x1 : (ByteArray × (ByteArray × Unit))} {r : ByteArray} (h : Is (p_spec_l12Line fu x0 x1) (some r)) :
    Scalar Tryd.prog 38 [.int .i64 x0, .v (.pair .str (.pair .str .unit)) x1] (.str r) := by
  unfold p_spec_l12Line at h
  refine ac_enter ⟨17, 0⟩ Tryd.func38 rfl rfl rfl rfl rfl (fun Γ => ?_)
  refine aw_seq ?_
  refine aw_region ?_
  refine ao_eff trivial (e_box 0 rfl rfl rfl rfl rfl rfl) rfl ?_
  refine ao_read trivial (r_assign rfl) rfl ?_
  refine ao_nil ?_
  refine aq_then ?_
  refine aw_seq ?_
  obtain ⟨r1, r1h, h⟩ := is_bind h
  obtain ⟨g2, h⟩ := is_guard h
  obtain ⟨g3, h⟩ := is_guard h
  obtain ⟨g4, h⟩ := is_guard h
  obtain ⟨g5, h⟩ := is_guard h
  obtain ⟨r6, r6h, h⟩ := is_bind h
  obtain ⟨g7, h⟩ := is_guard h
  refine aw_drawAll (by kernel_rfl) ?_
  refine an_read 0 (by kernel_rfl) (fun _ _ _ h => h) rfl (by kernel_rfl) trivial (r_move rfl) rfl ?_
  refine an_scall 1 (by kernel_rfl) (fun _ _ _ h => h) rfl (by kernel_rfl) trivial (scall (c_spec_l1Num (is_mk r1h)) rfl Tryd.func56 rfl rfl rfl rfl (fun σ => ⟨ad_ren rfl, trivial⟩)) rfl ?_
  refine an_read 2 (by kernel_rfl) (fun _ _ _ h => h) rfl (by kernel_rfl) trivial (r_add_str (a := r1) (b := (ByteArray.mk #[32])) rfl rfl (by omega)) rfl ?_
  refine an_read 3 (by kernel_rfl) (fun _ _ _ h => h) rfl (by kernel_rfl) trivial (r_fieldAddr Tryd.underlying33 rfl Tryd.sizeOf9 rfl rfl rfl) rfl ?_
  refine an_read 4 (by kernel_rfl) (fun _ _ _ h => h) rfl (by kernel_rfl) trivial (r_load_cell Tryd.isAgg9 rfl rfl rfl) rfl ?_
  refine an_read 5 (by kernel_rfl) (fun _ _ _ h => h) rfl (by kernel_rfl) trivial (r_add_str (a := (r1 ++ (ByteArray.mk #[32]))) (b := x1.1) rfl rfl (by omega)) rfl ?_
  refine an_read 6 (by kernel_rfl) (fun _ _ _ h => h) rfl (by kernel_rfl) trivial (r_add_str (a := ((r1 ++ (ByteArray.mk #[32])) ++ x1.1)) (b := (ByteArray.mk #[64])) rfl rfl (by omega)) rfl ?_
  refine an_read 7 (by kernel_rfl) (fun _ _ _ h => h) rfl (by kernel_rfl) trivial (r_fieldAddr Tryd.underlying33 rfl Tryd.sizeOf9 rfl rfl rfl) rfl ?_
  refine an_read 8 (by kernel_rfl) (fun _ _ _ h => h) rfl (by kernel_rfl) trivial (r_load_cell Tryd.isAgg9 rfl rfl rfl) rfl ?_
  refine an_read 9 (by kernel_rfl) (fun _ _ _ h => h) rfl (by kernel_rfl) trivial (r_add_str (a := (((r1 ++ (ByteArray.mk #[32])) ++ x1.1) ++ (ByteArray.mk #[64]))) (b := x1.2.1) rfl rfl (by omega)) rfl ?_
  refine an_scall 10 (by kernel_rfl) (fun _ _ _ h => h) rfl (by kernel_rfl) trivial (scall (c_spec_l1Seal (is_mk r6h)) rfl Tryd.func55 rfl rfl rfl rfl (fun σ => ⟨ad_ren rfl, trivial⟩)) rfl ?_
  refine an_read 11 (by kernel_rfl) (fun _ _ _ h => h) rfl (by kernel_rfl) trivial (r_add_str (a := r6) (b := (ByteArray.mk #[10])) rfl rfl (by omega)) rfl ?_
  refine an_read 12 (by kernel_rfl) (fun _ _ _ h => h) rfl (by kernel_rfl) trivial (r_assign rfl) rfl ?_
  refine an_done rfl ?_
  refine aq_then ?_
  refine aw_ret ?_
  refine aq_ret ?_
  obtain rfl := is_some h
  exact aq_finx (l := [.tmp 4]) (xs := [.str (r6 ++ (ByteArray.mk #[10]))]) idn [.str (r6 ++ (ByteArray.mk #[10]))] [] rfl (by exact ⟨rfl, trivial⟩) (by exact ⟨ad_ren rfl, trivial⟩) (by exact trivial) rfl (nk rfl) rfl rfl ⟨rfl, rfl⟩
theorem c_spec_EncodeRecord {fu : Nat} {x0 : Int} {x1 : (ByteArray × (ByteArray × Unit))} {r : ByteArray × Bool} (h : Is (p_spec_EncodeRecord fu x0 x1) (some r)) :
    Scalar Tryd.prog 14 [.int .i64 x0, .v (.pair .str (.pair .str .unit)) x1] (.tup [.str r.1, .bool r.2]) := by
  unfold p_spec_EncodeRecord at h
  refine ac_enter ⟨17, 0⟩ Tryd.func14 rfl rfl rfl rfl rfl (fun Γ => ?_)
  refine aw_seq ?_
  refine aw_region ?_
  refine ao_eff trivial (e_box 0 rfl rfl rfl rfl rfl rfl) rfl ?_
  refine ao_read trivial (r_assign rfl) rfl ?_
  refine ao_read trivial (r_assign rfl) rfl ?_
  refine ao_nil ?_
  refine aq_then ?_
  refine aw_seq ?_
  refine aw_seq ?_
  refine aw_region ?_
  refine ao_read trivial (r_move rfl) rfl ?_
  refine ao_scall trivial (scall (c_spec_l1In (is_mk (rfl : p_spec_l1In x0 0 59 = _))) rfl Tryd.func31 rfl rfl rfl rfl (fun σ => ⟨ad_ren rfl, ad_ren rfl, ad_ren rfl, trivial⟩)) rfl ?_
  refine ao_read trivial (r_not rfl) rfl ?_
  refine ao_read trivial (r_move rfl) rfl ?_
  refine ao_readG (x := .v (.pair .str (.pair .str .unit)) ((x1.1, (x1.2.1, ())) : (ByteArray × (ByteArray × Unit)))) rfl (GV.F rfl) (fun hg1 => r_load_part (τ := (.pair .str (.pair .str .unit))) (y := ((x1.1, (x1.2.1, ())) : (ByteArray × (ByteArray × Unit)))) [] [] rfl Tryd.isAgg33 Tryd.sizeOf33 rfl rfl rfl rfl) rfl ?_
  obtain ⟨g3, h⟩ := is_guard h
  refine ao_scallG (r := .bool ((p_spec_l12Record (x1.1, (x1.2.1, ()))).getD false)) rfl (GV.F rfl) (fun hg2 => SCall.strip 10 rfl (hg2) (scall (c_spec_l12Record (is_mk (isSome_getD (g3 hg2)))) rfl Tryd.func37 rfl rfl rfl rfl (fun σ => ⟨ad_ren rfl, trivial⟩))) rfl ?_
  refine ao_readG (x := .bool (!((p_spec_l12Record (x1.1, (x1.2.1, ()))).getD false))) rfl (GV.F rfl) (fun hg4 => Reads.strip 11 rfl (hg4) (r_not rfl)) rfl ?_
  refine ao_read trivial (r_orB rfl rfl) rfl ?_
  refine ao_nil ?_
  refine aq_then ?_
  refine aw_cond rfl (fun hb5 => ?_) (fun hb5 => ?_)
  · replace h := is_if hb5 h
    refine aw_seq ?_
    refine aw_region ?_
    refine ao_read trivial (r_assign rfl) rfl ?_
    refine ao_read trivial (r_assign rfl) rfl ?_
    refine ao_nil ?_
    refine aq_then ?_
    refine aw_ret ?_
    refine aq_then_ret ?_
    refine aq_ret ?_
    obtain rfl := is_some h
    exact aq_finx (l := [.tmp 4, .tmp 5]) (xs := [.str (ByteArray.mk #[]), .bool false]) idn [.str (ByteArray.mk #[]), .bool false] [] rfl (by exact ⟨rfl, rfl, trivial⟩) (by exact ⟨ad_ren rfl, ad_ren rfl, trivial⟩) (by exact trivial) rfl (nk rfl) rfl rfl ⟨rfl, rfl⟩
  · obtain ⟨q6, q7⟩ := or_f hb5
    replace h := is_else (ne_t hb5) h
    refine aw_skip ?_
    refine aq_then ?_
    refine aw_seq ?_
    refine aw_region ?_
    refine ao_read trivial (r_move rfl) rfl ?_
    refine ao_read trivial (r_load_part (τ := (.pair .str (.pair .str .unit))) (y := ((x1.1, (x1.2.1, ())) : (ByteArray × (ByteArray × Unit)))) [] [] rfl Tryd.isAgg33 Tryd.sizeOf33 rfl rfl rfl rfl) rfl ?_
    obtain ⟨r8, r8h, h⟩ := is_bind h
    refine ao_scall trivial (scall (c_spec_l12Line (is_mk r8h)) rfl Tryd.func38 rfl rfl rfl rfl (fun σ => ⟨ad_ren rfl, ad_ren rfl, trivial⟩)) rfl ?_
    refine ao_read trivial (r_assign rfl) rfl ?_
    refine ao_read trivial (r_assign rfl) rfl ?_
    refine ao_nil ?_
    refine aq_then ?_
    refine aw_ret ?_
    refine aq_ret ?_
    obtain rfl := is_some h
    exact aq_finx (l := [.tmp 4, .tmp 5]) (xs := [.str r8, .bool true]) idn [.str r8, .bool true] [] rfl (by exact ⟨rfl, rfl, trivial⟩) (by exact ⟨ad_ren rfl, ad_ren rfl, trivial⟩) (by exact trivial) rfl (nk rfl) rfl rfl ⟨rfl, rfl⟩
theorem c_spec_IsValidRecord {x0 : (ByteArray × (ByteArray × Unit))} {r : Bool} (h : Is (p_spec_IsValidRecord x0) (some r)) :
    Scalar Tryd.prog 16 [.v (.pair .str (.pair .str .unit)) x0] (.bool r) := by
  unfold p_spec_IsValidRecord at h
  refine ac_enter ⟨5, 0⟩ Tryd.func16 rfl rfl rfl rfl rfl (fun Γ => ?_)
  refine aw_seq ?_
  refine aw_region ?_
  refine ao_eff trivial (e_box 0 rfl rfl rfl rfl rfl rfl) rfl ?_
  refine ao_read trivial (r_assign rfl) rfl ?_
  refine ao_nil ?_
  refine aq_then ?_
  refine aw_seq ?_
  refine aw_region ?_
  refine ao_read trivial (r_load_part (τ := (.pair .str (.pair .str .unit))) (y := ((x0.1, (x0.2.1, ())) : (ByteArray × (ByteArray × Unit)))) [] [] rfl Tryd.isAgg33 Tryd.sizeOf33 rfl rfl rfl rfl) rfl ?_
  obtain ⟨r1, r1h, h⟩ := is_bind h
  refine ao_scall trivial (scall (c_spec_l12Record (is_mk r1h)) rfl Tryd.func37 rfl rfl rfl rfl (fun σ => ⟨ad_ren rfl, trivial⟩)) rfl ?_
  refine ao_read trivial (r_assign rfl) rfl ?_
  refine ao_nil ?_
  refine aq_then ?_
  refine aw_ret ?_
  refine aq_ret ?_
  obtain rfl := is_some h
  exact aq_finx (l := [.tmp 2]) (xs := [.bool r1]) idn [.bool r1] [] rfl (by exact ⟨rfl, trivial⟩) (by exact ⟨ad_ren rfl, trivial⟩) (by exact trivial) rfl (nk rfl) rfl rfl ⟨rfl, rfl⟩
theorem c_spec_l1Split {x0 : ByteArray} {x1 : Int} {r : (List ByteArray)} (h : Is (p_spec_l1Split x0 x1) (some r)) :
    ACalls Tryd.prog 61 [.str x0, .int .u8 x1] [] (fun r' H' => r' = .os 0 ∧ H' = [(0, .row .str r)]) := by
  unfold p_spec_l1Split at h
  refine ac_enter ⟨35, 0⟩ Tryd.func61 rfl rfl rfl rfl rfl (fun Γ => ?_)
  obtain ⟨gs0, h⟩ := is_guard h
  refine aw_seq ?_
  refine aw_region ?_
  refine ao_read trivial (r_assign rfl) rfl ?_
  refine ao_nil ?_
  refine aq_then ?_
  refine aw_seq ?_
  refine aw_region ?_
  refine ao_eff trivial (e_buildSlice (l := []) (t := .str) 0 ([] : (List ByteArray)) rfl Tryd.underlying76 Tryd.zeroValue9 Tryd.sizeOf9 rfl rfl rfl rfl rfl rfl rfl) rfl ?_
  refine ao_read trivial (r_assign rfl) rfl ?_
  refine ao_nil ?_
  refine aq_then ?_
  refine aw_seq ?_
  refine aw_region ?_
  refine ao_read trivial (r_assign rfl) rfl ?_
  refine ao_nil ?_
  refine aq_then ?_
  refine aw_seq ?_
  refine aw_seq ?_
  refine aw_region ?_
  refine ao_read trivial (r_assign rfl) rfl ?_
  refine ao_nil ?_
  refine aq_then ?_
  refine aw_block ?_
  refine aw_loop (AL.sub (fr' := [(0, .str x0), (1, .int .u8 x1), (5, .os 0), (6, .int .i64 0), (7, .int .i64 0)]) (H' := [(0, .row .str ([] : (List ByteArray)))]) (sub_mk idn (by exact ⟨⟨_, rfl, ad_ren rfl⟩, ⟨_, rfl, ad_ren rfl⟩, ⟨_, rfl, ad_ren rfl⟩, ⟨_, rfl, ad_ren rfl⟩, ⟨_, rfl, ad_ren rfl⟩, trivial⟩) (by exact ⟨⟨_, rfl, rfl⟩, trivial⟩) (by rfl) (nk rfl)) (al_cnt (fun i2 (s1 : Int × (List ByteArray)) => [(0, .str x0), (1, .int .u8 x1), (5, .os 0), (6, .int .i64 s1.1), (7, .int .i64 i2)]) (fun i2 (s1 : Int × (List ByteArray)) => [(0, .row .str s1.2)]) (fun d i2 (s1 : Int × (List ByteArray)) => d = Int.toNat ((x0.size : Int) - i2) ∧ 0 ≤ s1.1 ∧ 0 ≤ i2 ∧ i2 ≤ (x0.size : Int)) h ⟨rfl, (by (try simp only [List.length_set, List.length_append, List.length_cons, List.length_nil, List.length_replicate, List.length_take, List.length_drop]) <;> omega), (by (try simp only [List.length_set, List.length_append, List.length_cons, List.length_nil, List.length_replicate, List.length_take, List.length_drop]) <;> omega), (by (try simp only [List.length_set, List.length_append, List.length_cons, List.length_nil, List.length_replicate, List.length_take, List.length_drop]) <;> omega)⟩ (fun d3 i2 s1 hI h ih3 => ?_)))
  obtain ⟨hd, _, _, _⟩ := hI
  refine al_round ?_
  refine aw_seq ?_
  refine aw_seq ?_
  refine aw_region ?_
  refine ao_read trivial (r_move rfl) rfl ?_
  refine ao_read trivial (r_move rfl) rfl ?_
  refine ao_read trivial (r_len_str Tryd.underlying9 rfl) rfl ?_
  refine ao_read trivial (r_lss rfl rfl) rfl ?_
  refine ao_nil ?_
  refine aq_then ?_
  refine aw_cond rfl (fun hb5 => ?_) (fun hb5 => ?_)
  · have q6 := d_t hb5
    obtain ⟨d3, rfl⟩ : ∃ e, d3 = e + 1 := ⟨d3 - 1, by omega⟩
    replace h := is_cntS h
    refine aw_skip ?_
    refine aq_then ?_
    refine aw_seq ?_
    refine aw_block ?_
    refine aw_seq ?_
    refine aw_region ?_
    refine ao_read trivial (r_move rfl) rfl ?_
    refine ao_read trivial (r_move rfl) rfl ?_
    refine ao_read trivial (r_index_str Tryd.underlying9 rfl rfl (by omega) (by omega)) rfl ?_
    refine ao_read trivial (r_move rfl) rfl ?_
    refine ao_read trivial (r_eql rfl rfl) rfl ?_
    refine ao_nil ?_
    refine aq_then ?_
    refine aw_cond rfl (fun hb8 => ?_) (fun hb8 => ?_)
    · have q9 : ((x0.data.toList.getD i2.toNat 0).toNat : Int) = x1 := d_t hb8
      replace h := is_if (d_t hb8) h
      refine aw_seq ?_
      refine aw_region ?_
      refine ao_read trivial (r_move rfl) rfl ?_
      refine ao_read trivial (r_move rfl) rfl ?_
      refine ao_read trivial (r_move rfl) rfl ?_
      refine ao_read trivial (r_move rfl) rfl ?_
      obtain ⟨g11, h⟩ := is_guard h
      refine ao_read trivial (r_slice_str Tryd.underlying9 rfl (.some rfl) (.some rfl) (show 0 ≤ s1.1 from by omega) (show s1.1 ≤ i2 from by omega) (show i2 ≤ (x0.size : Int) from by omega)) rfl ?_
      refine ao_eff trivial (e_buildSlice (l := [(0, .tmp 24)]) (t := .str) 1 ([(x0.extract s1.1.toNat i2.toNat)] : (List ByteArray)) rfl Tryd.underlying76 Tryd.zeroValue9 Tryd.sizeOf9 rfl rfl rfl rfl rfl rfl rfl) rfl ?_
      obtain ⟨g12, h⟩ := is_guard h
      refine ao_eff trivial (e_append (t := .str) 2 rfl Tryd.underlying76 (rfl : Tryd.prog.info? 9 = some _) rfl rfl rfl rfl rfl rfl rfl (src_os rfl) (show s1.2.length + ([(x0.extract s1.1.toNat i2.toNat)] : (List ByteArray)).length ≤ 1000000000 from by (try simp only [List.length_cons, List.length_nil]) <;> omega) rfl rfl) rfl ?_
      refine ao_read trivial (r_assign rfl) rfl ?_
      refine ao_nil ?_
      refine aq_then ?_
      refine aw_region ?_
      refine ao_read trivial (r_move rfl) rfl ?_
      refine ao_read trivial (r_addI rfl rfl (wrap_id (by omega) (by omega))) rfl ?_
      refine ao_read trivial (r_assign rfl) rfl ?_
      refine ao_nil ?_
      refine aq_in ?_
      refine aq_then ?_
      refine aw_region ?_
      refine ao_read trivial (r_move rfl) rfl ?_
      refine ao_read trivial (r_addI rfl rfl (wrap_id (by omega) (by omega))) rfl ?_
      refine ao_read trivial (r_assign rfl) rfl ?_
      refine ao_nil ?_
      exact aq_again (AL.sub (sub_mk (rn [(0, 2)]) (by exact ⟨⟨_, rfl, ad_ren rfl⟩, ⟨_, rfl, ad_ren rfl⟩, ⟨_, rfl, ad_ren rfl⟩, ⟨_, rfl, ad_ren rfl⟩, ⟨_, rfl, ad_ren rfl⟩, trivial⟩) (by exact ⟨⟨_, rfl, rfl⟩, trivial⟩) (by rfl) (nk rfl)) (ih3 d3 (i2 + 1) ((i2 + 1), (s1.2 ++ [(x0.extract s1.1.toNat i2.toNat)])) (by omega) ⟨by omega, (by (try simp only [List.length_set, List.length_append, List.length_cons, List.length_nil, List.length_replicate, List.length_take, List.length_drop]) <;> omega), (by (try simp only [List.length_set, List.length_append, List.length_cons, List.length_nil, List.length_replicate, List.length_take, List.length_drop]) <;> omega), (by (try simp only [List.length_set, List.length_append, List.length_cons, List.length_nil, List.length_replicate, List.length_take, List.length_drop]) <;> omega)⟩ h))
    · have q10 : ¬ (((x0.data.toList.getD i2.toNat 0).toNat : Int) = x1) := d_f hb8
      replace h := is_else (d_f hb8) h
      refine aw_skip ?_
      refine aq_in ?_
      refine aq_then ?_
      refine aw_region ?_
      refine ao_read trivial (r_move rfl) rfl ?_
      refine ao_read trivial (r_addI rfl rfl (wrap_id (by omega) (by omega))) rfl ?_
      refine ao_read trivial (r_assign rfl) rfl ?_
      refine ao_nil ?_
      exact aq_again (AL.sub (sub_mk idn (by exact ⟨⟨_, rfl, ad_ren rfl⟩, ⟨_, rfl, ad_ren rfl⟩, ⟨_, rfl, ad_ren rfl⟩, ⟨_, rfl, ad_ren rfl⟩, ⟨_, rfl, ad_ren rfl⟩, trivial⟩) (by exact ⟨⟨_, rfl, rfl⟩, trivial⟩) (by rfl) (nk rfl)) (ih3 d3 (i2 + 1) (s1.1, s1.2) (by omega) ⟨by omega, (by (try simp only [List.length_set, List.length_append, List.length_cons, List.length_nil, List.length_replicate, List.length_take, List.length_drop]) <;> omega), (by (try simp only [List.length_set, List.length_append, List.length_cons, List.length_nil, List.length_replicate, List.length_take, List.length_drop]) <;> omega), (by (try simp only [List.length_set, List.length_append, List.length_cons, List.length_nil, List.length_replicate, List.length_take, List.length_drop]) <;> omega)⟩ h))
  · have q7 := d_f hb5
    obtain rfl : d3 = 0 := by omega
    replace h := is_cnt0 h
    refine aw_exit ?_
    refine aq_then_exit ?_
    refine aq_then_exit ?_
    refine aq_in_exit ?_
    refine aq_then ?_
    refine aw_seq ?_
    refine aw_region ?_
    refine ao_read trivial (r_move rfl) rfl ?_
    refine ao_read trivial (r_move rfl) rfl ?_
    refine ao_read trivial (r_move rfl) rfl ?_
    obtain ⟨g13, h⟩ := is_guard h
    refine ao_read trivial (r_slice_str Tryd.underlying9 rfl (.some rfl) .none (show 0 ≤ s1.1 from by omega) (show s1.1 ≤ (x0.size : Int) from by omega) (show (x0.size : Int) ≤ (x0.size : Int) from by omega)) rfl ?_
    refine ao_eff trivial (e_buildSlice (l := [(0, .tmp 32)]) (t := .str) 3 ([(x0.extract s1.1.toNat ((x0.size : Int)).toNat)] : (List ByteArray)) rfl Tryd.underlying76 Tryd.zeroValue9 Tryd.sizeOf9 rfl rfl rfl rfl rfl rfl rfl) rfl ?_
    obtain ⟨g14, h⟩ := is_guard h
    refine ao_eff trivial (e_append (t := .str) 4 rfl Tryd.underlying76 (rfl : Tryd.prog.info? 9 = some _) rfl rfl rfl rfl rfl rfl rfl (src_os rfl) (show s1.2.length + ([(x0.extract s1.1.toNat ((x0.size : Int)).toNat)] : (List ByteArray)).length ≤ 1000000000 from by (try simp only [List.length_cons, List.length_nil]) <;> omega) rfl rfl) rfl ?_
    refine ao_read trivial (r_assign rfl) rfl ?_
    refine ao_nil ?_
    refine aq_then ?_
    refine aw_ret ?_
    refine aq_ret ?_
    obtain rfl := is_some h
    exact aq_finx (l := [.tmp 4]) (xs := [.os 4]) (rn [(0, 4)]) [.os 0] [(0, .row .str ((s1.2 ++ [(x0.extract s1.1.toNat ((x0.size : Int)).toNat)]) : (List ByteArray)))] rfl (by exact ⟨rfl, trivial⟩) (by exact ⟨ad_ren rfl, trivial⟩) (by exact ⟨⟨_, rfl, rfl⟩, trivial⟩) rfl (nk rfl) rfl rfl ⟨rfl, rfl⟩
theorem c_spec_l12Decode {fu : Nat} {x0 : ByteArray} {x1 : Int} {r : (ByteArray × (ByteArray × Unit)) × Bool} (h : Is (p_spec_l12Decode fu x0 x1) (some r)) :
    Scalar Tryd.prog 62 [.str x0, .int .i64 x1] (.tup [.v (.pair .str (.pair .str .unit)) r.1, .bool r.2]) := by
  unfold p_spec_l12Decode at h
  refine ac_enter ⟨64, 0⟩ Tryd.func62 rfl rfl rfl rfl rfl (fun Γ => ?_)
  obtain ⟨gs0, h⟩ := is_guard h
  refine aw_seq ?_
  refine aw_region ?_
  refine ao_eff trivial (e_alloc 0 (y := .st [.str ByteArray.empty, .str ByteArray.empty]) Tryd.zeroValue33 (fun ρ h M => ra_zero_st (t := (.pair .str (.pair .str .unit))) rfl rfl rfl) rfl rfl rfl rfl rfl) rfl ?_
  refine ao_read trivial (r_assign rfl) rfl ?_
  refine ao_nil ?_
  refine aq_then ?_
  refine aw_seq ?_
  refine aw_region ?_
  refine ao_read trivial (r_move rfl) rfl ?_
  obtain ⟨r1, r1h, h⟩ := is_bind h
  refine ao_scall trivial (scall (c_spec_l1Num (is_mk r1h)) rfl Tryd.func56 rfl rfl rfl rfl (fun σ => ⟨ad_ren rfl, trivial⟩)) rfl ?_
  obtain ⟨g2, h⟩ := is_guard h
  refine ao_read trivial (r_add_str (a := r1) (b := (ByteArray.mk #[32])) rfl rfl (by omega)) rfl ?_
  refine ao_read trivial (r_assign rfl) rfl ?_
  refine ao_nil ?_
  refine aq_then ?_
  refine aw_seq ?_
  refine aw_region ?_
  refine ao_read trivial (r_move rfl) rfl ?_
  obtain ⟨r3, r3h, h⟩ := is_bind h
  refine ao_call [] 1 trivial (c_spec_l1Split (is_mk r3h)) Tryd.func61 rfl rfl rfl rfl ⟨ad_ren rfl, ad_ren rfl, trivial⟩ trivial rfl rfl rfl rfl rfl rfl rfl (fun r' H' hr => ?_)
  obtain ⟨rfl, rfl⟩ := hr
  refine ao_norm (y := .os 1) (H' := [(0, .var [.cell (.str ByteArray.empty), .cell (.str ByteArray.empty)]), (1, .row .str r3)]) rfl rfl ?_
  refine row_len_o 1 (r3.length : Int) rfl rfl (fun hr4 => ?_)
  obtain ⟨g5, h⟩ := is_guard h
  refine ao_read trivial (r_idxAddr_os Tryd.underlying76 Tryd.sizeOf9 rfl rfl rfl (show 0 ≤ 0 from by omega) (show 0 < (r3.length : Int) from by omega)) rfl ?_
  refine ao_read trivial (r_load_elemv (t := .str) Tryd.isAgg9 Tryd.sizeOf9 rfl rfl (show 0 < r3.length from by omega)) rfl ?_
  refine ao_read trivial (r_assign rfl) rfl ?_
  refine ao_nil ?_
  refine aq_then ?_
  refine aw_seq ?_
  refine aw_seq ?_
  refine aw_region ?_
  refine ao_read trivial (r_move rfl) rfl ?_
  refine ao_read trivial (r_len_str Tryd.underlying9 rfl) rfl ?_
  refine ao_read trivial (r_move rfl) rfl ?_
  refine ao_read trivial (r_len_str Tryd.underlying9 rfl) rfl ?_
  refine ao_read trivial (r_lss rfl rfl) rfl ?_
  refine ao_read trivial (r_move rfl) rfl ?_
  refine ao_readG (x := .str (r3.getD 0 ByteArray.empty)) rfl (GV.F rfl) (fun hg6 => by
        have q7 : ¬ (((r3.getD 0 ByteArray.empty).size : Int) < ((r1 ++ (ByteArray.mk #[32])).size : Int)) := d_f (not_t hg6)
        exact r_move rfl) rfl ?_
  refine ao_readG (x := .str (r1 ++ (ByteArray.mk #[32]))) rfl (GV.F rfl) (fun hg8 => by
        have q9 : ¬ (((r3.getD 0 ByteArray.empty).size : Int) < ((r1 ++ (ByteArray.mk #[32])).size : Int)) := d_f (not_t hg8)
        exact r_move rfl) rfl ?_
  refine ao_readG (x := .int .i64 ((r1 ++ (ByteArray.mk #[32])).size : Int)) rfl (GV.F rfl) (fun hg10 => by
        have q11 : ¬ (((r3.getD 0 ByteArray.empty).size : Int) < ((r1 ++ (ByteArray.mk #[32])).size : Int)) := d_f (not_t hg10)
        exact Reads.strip 25 rfl (hg10) (r_len_str Tryd.underlying9 rfl)) rfl ?_
  refine ao_readG (x := .str ((r3.getD 0 ByteArray.empty).extract 0 ((r1 ++ (ByteArray.mk #[32])).size : Int).toNat)) rfl (GV.F rfl) (fun hg12 => by
        have q13 : ¬ (((r3.getD 0 ByteArray.empty).size : Int) < ((r1 ++ (ByteArray.mk #[32])).size : Int)) := d_f (not_t hg12)
        exact Reads.strip 24 rfl (hg12) (Reads.strip 26 rfl (hg12) (r_slice_str Tryd.underlying9 rfl .none (.some rfl) (show 0 ≤ 0 from by omega) (show 0 ≤ ((r1 ++ (ByteArray.mk #[32])).size : Int) from by (try simp only [List.length_append, List.length_cons, List.length_nil]) <;> omega) (show ((r1 ++ (ByteArray.mk #[32])).size : Int) ≤ ((r3.getD 0 ByteArray.empty).size : Int) from by (try simp only [List.length_append, List.length_cons, List.length_nil]) <;> omega)))) rfl ?_
  refine ao_readG (x := .str (r1 ++ (ByteArray.mk #[32]))) rfl (GV.F rfl) (fun hg14 => by
        have q15 : ¬ (((r3.getD 0 ByteArray.empty).size : Int) < ((r1 ++ (ByteArray.mk #[32])).size : Int)) := d_f (not_t hg14)
        exact r_move rfl) rfl ?_
  refine ao_readG (x := .bool (!(eqS ((r3.getD 0 ByteArray.empty).extract 0 ((r1 ++ (ByteArray.mk #[32])).size : Int).toNat) (r1 ++ (ByteArray.mk #[32]))))) rfl (GV.F rfl) (fun hg16 => by
        have q17 : ¬ (((r3.getD 0 ByteArray.empty).size : Int) < ((r1 ++ (ByteArray.mk #[32])).size : Int)) := d_f (not_t hg16)
        exact Reads.strip 27 rfl (hg16) (Reads.strip 28 rfl (hg16) (r_neq_str rfl rfl))) rfl ?_
  refine ao_read trivial (r_orB rfl rfl) rfl ?_
  refine ao_nil ?_
  refine aq_then ?_
  refine aw_cond rfl (fun hb18 => ?_) (fun hb18 => ?_)
  · replace h := is_if hb18 h
    refine aw_seq ?_
    refine aw_region ?_
    refine ao_read trivial (r_build_stv (l := []) (cs := [.cell (.str ByteArray.empty), .cell (.str ByteArray.empty)]) (.pair .str (.pair .str .unit)) ((ByteArray.empty, (ByteArray.empty, ())) : (ByteArray × (ByteArray × Unit))) [(0, 1), (1, 1)] Tryd.underlying33 Tryd.zeroValue33 rfl ⟨rfl, Tryd.sizeOf9, rfl, Tryd.sizeOf9, trivial⟩ rfl rfl rfl rfl) rfl ?_
    refine ao_effS trivial (e_store rfl rfl rfl rfl Tryd.sizeOf33 rfl) ?_
    refine ao_read trivial (r_assign rfl) rfl ?_
    refine ao_nil ?_
    refine aq_then ?_
    refine aw_ret ?_
    refine aq_then_ret ?_
    refine aq_ret ?_
    obtain rfl := is_some h
    exact aq_finx (l := [.cell 4 33, .tmp 5]) (xs := [.st [.str ByteArray.empty, .str ByteArray.empty], .bool false]) idn [.v (.pair .str (.pair .str .unit)) ((ByteArray.empty, (ByteArray.empty, ())) : (ByteArray × (ByteArray × Unit))), .bool false] [] rfl (by exact ⟨⟨⟨_, _, rfl⟩, r_load_st [] [.cell (.str ByteArray.empty), .cell (.str ByteArray.empty)] [] Tryd.isAgg33 Tryd.sizeOf33 rfl rfl rfl rfl rfl rfl rfl⟩, rfl, trivial⟩) (by exact ⟨ad_st rfl rfl ⟨ad_ren rfl, ad_ren rfl, trivial⟩, ad_ren rfl, trivial⟩) (by exact trivial) rfl (nk rfl) rfl rfl ⟨rfl, rfl⟩
  · obtain ⟨q19, q20⟩ := or_f hb18
    have q21 : ¬ (((r3.getD 0 ByteArray.empty).size : Int) < ((r1 ++ (ByteArray.mk #[32])).size : Int)) := d_f q19
    replace h := is_else (ne_t hb18) h
    refine aw_skip ?_
    refine aq_then ?_
    refine aw_seq ?_
    refine aw_region ?_
    refine ao_read trivial (r_move rfl) rfl ?_
    refine ao_read trivial (r_move rfl) rfl ?_
    refine ao_read trivial (r_len_str Tryd.underlying9 rfl) rfl ?_
    refine ao_read trivial (r_slice_str Tryd.underlying9 rfl (.some rfl) .none (show 0 ≤ ((r1 ++ (ByteArray.mk #[32])).size : Int) from by (try simp only [List.length_append, List.length_cons, List.length_nil]) <;> omega) (show ((r1 ++ (ByteArray.mk #[32])).size : Int) ≤ ((r3.getD 0 ByteArray.empty).size : Int) from by (try simp only [List.length_append, List.length_cons, List.length_nil]) <;> omega) (show ((r3.getD 0 ByteArray.empty).size : Int) ≤ ((r3.getD 0 ByteArray.empty).size : Int) from by omega)) rfl ?_
    refine ao_read trivial (r_assign rfl) rfl ?_
    refine ao_nil ?_
    refine aq_then ?_
    refine aw_seq ?_
    refine aw_region ?_
    refine ao_read trivial (r_move rfl) rfl ?_
    obtain ⟨r22, r22h, h⟩ := is_bind h
    refine ao_call [] 2 trivial (c_spec_l1Split (is_mk r22h)) Tryd.func61 rfl rfl rfl rfl ⟨ad_ren rfl, ad_ren rfl, trivial⟩ trivial rfl rfl rfl rfl rfl rfl rfl (fun r' H' hr => ?_)
    obtain ⟨rfl, rfl⟩ := hr
    refine ao_norm (y := .os 2) (H' := [(0, .var [.cell (.str ByteArray.empty), .cell (.str ByteArray.empty)]), (1, .row .str r3), (2, .row .str r22)]) rfl rfl ?_
    refine row_len_o 2 (r22.length : Int) rfl rfl (fun hr23 => ?_)
    obtain ⟨g24, h⟩ := is_guard h
    refine ao_read trivial (r_idxAddr_os Tryd.underlying76 Tryd.sizeOf9 rfl rfl rfl (show 0 ≤ 0 from by omega) (show 0 < (r22.length : Int) from by omega)) rfl ?_
    refine ao_read trivial (r_load_elemv (t := .str) Tryd.isAgg9 Tryd.sizeOf9 rfl rfl (show 0 < r22.length from by omega)) rfl ?_
    refine ao_read trivial (r_assign rfl) rfl ?_
    refine ao_nil ?_
    refine aq_then ?_
    refine aw_seq ?_
    refine aw_seq ?_
    refine aw_region ?_
    refine ao_read trivial (r_move rfl) rfl ?_
    refine ao_read trivial (r_len_str Tryd.underlying9 rfl) rfl ?_
    refine ao_read trivial (r_move rfl) rfl ?_
    refine ao_read trivial (r_len_str Tryd.underlying9 rfl) rfl ?_
    refine ao_read trivial (r_eql rfl rfl) rfl ?_
    refine ao_nil ?_
    refine aq_then ?_
    refine aw_cond rfl (fun hb25 => ?_) (fun hb25 => ?_)
    · have q26 : ((r22.getD 0 ByteArray.empty).size : Int) = (((r3.getD 0 ByteArray.empty).extract ((r1 ++ (ByteArray.mk #[32])).size : Int).toNat (((r3.getD 0 ByteArray.empty).size : Int)).toNat).size : Int) := d_t hb25
      replace h := is_if (d_t hb25) h
      refine aw_seq ?_
      refine aw_region ?_
      refine ao_read trivial (r_build_stv (l := []) (cs := [.cell (.str ByteArray.empty), .cell (.str ByteArray.empty)]) (.pair .str (.pair .str .unit)) ((ByteArray.empty, (ByteArray.empty, ())) : (ByteArray × (ByteArray × Unit))) [(0, 1), (1, 1)] Tryd.underlying33 Tryd.zeroValue33 rfl ⟨rfl, Tryd.sizeOf9, rfl, Tryd.sizeOf9, trivial⟩ rfl rfl rfl rfl) rfl ?_
      refine ao_effS trivial (e_store rfl rfl rfl rfl Tryd.sizeOf33 rfl) ?_
      refine ao_read trivial (r_assign rfl) rfl ?_
      refine ao_nil ?_
      refine aq_then ?_
      refine aw_ret ?_
      refine aq_then_ret ?_
      refine aq_ret ?_
      obtain rfl := is_some h
      exact aq_finx (l := [.cell 4 33, .tmp 5]) (xs := [.st [.str ByteArray.empty, .str ByteArray.empty], .bool false]) idn [.v (.pair .str (.pair .str .unit)) ((ByteArray.empty, (ByteArray.empty, ())) : (ByteArray × (ByteArray × Unit))), .bool false] [] rfl (by exact ⟨⟨⟨_, _, rfl⟩, r_load_st [] [.cell (.str ByteArray.empty), .cell (.str ByteArray.empty)] [] Tryd.isAgg33 Tryd.sizeOf33 rfl rfl rfl rfl rfl rfl rfl⟩, rfl, trivial⟩) (by exact ⟨ad_st rfl rfl ⟨ad_ren rfl, ad_ren rfl, trivial⟩, ad_ren rfl, trivial⟩) (by exact trivial) rfl (nk rfl) rfl rfl ⟨rfl, rfl⟩
    · have q27 : ¬ (((r22.getD 0 ByteArray.empty).size : Int) = (((r3.getD 0 ByteArray.empty).extract ((r1 ++ (ByteArray.mk #[32])).size : Int).toNat (((r3.getD 0 ByteArray.empty).size : Int)).toNat).size : Int)) := d_f hb25
      replace h := is_else (d_f hb25) h
      refine aw_skip ?_
      refine aq_then ?_
      refine aw_seq ?_
      refine aw_region ?_
      refine ao_read trivial (r_move rfl) rfl ?_
      refine ao_read trivial (r_move rfl) rfl ?_
      refine ao_read trivial (r_move rfl) rfl ?_
      refine ao_read trivial (r_len_str Tryd.underlying9 rfl) rfl ?_
      refine ao_read trivial (r_add rfl rfl) rfl ?_
      obtain ⟨g28, h⟩ := is_guard h
      obtain ⟨g29, h⟩ := is_guard h
      refine ao_read trivial (r_slice_str Tryd.underlying9 rfl (.some rfl) .none (show 0 ≤ (IntKind.wrap .i64 (((r22.getD 0 ByteArray.empty).size : Int) + 1)) from by omega) (show (IntKind.wrap .i64 (((r22.getD 0 ByteArray.empty).size : Int) + 1)) ≤ (((r3.getD 0 ByteArray.empty).extract ((r1 ++ (ByteArray.mk #[32])).size : Int).toNat (((r3.getD 0 ByteArray.empty).size : Int)).toNat).size : Int) from by (try simp only [List.length_append, List.length_cons, List.length_nil]) <;> omega) (show (((r3.getD 0 ByteArray.empty).extract ((r1 ++ (ByteArray.mk #[32])).size : Int).toNat (((r3.getD 0 ByteArray.empty).size : Int)).toNat).size : Int) ≤ (((r3.getD 0 ByteArray.empty).extract ((r1 ++ (ByteArray.mk #[32])).size : Int).toNat (((r3.getD 0 ByteArray.empty).size : Int)).toNat).size : Int) from by (try simp only [List.length_append, List.length_cons, List.length_nil]) <;> omega)) rfl ?_
      refine ao_read trivial (r_build_stv (l := [(0, .tmp 46), (1, .tmp 51)]) (cs := [.cell (.str (r22.getD 0 ByteArray.empty)), .cell (.str (((r3.getD 0 ByteArray.empty).extract ((r1 ++ (ByteArray.mk #[32])).size : Int).toNat (((r3.getD 0 ByteArray.empty).size : Int)).toNat).extract (IntKind.wrap .i64 (((r22.getD 0 ByteArray.empty).size : Int) + 1)).toNat ((((r3.getD 0 ByteArray.empty).extract ((r1 ++ (ByteArray.mk #[32])).size : Int).toNat (((r3.getD 0 ByteArray.empty).size : Int)).toNat).size : Int)).toNat))]) (.pair .str (.pair .str .unit)) (((r22.getD 0 ByteArray.empty), ((((r3.getD 0 ByteArray.empty).extract ((r1 ++ (ByteArray.mk #[32])).size : Int).toNat (((r3.getD 0 ByteArray.empty).size : Int)).toNat).extract (IntKind.wrap .i64 (((r22.getD 0 ByteArray.empty).size : Int) + 1)).toNat ((((r3.getD 0 ByteArray.empty).extract ((r1 ++ (ByteArray.mk #[32])).size : Int).toNat (((r3.getD 0 ByteArray.empty).size : Int)).toNat).size : Int)).toNat), ())) : (ByteArray × (ByteArray × Unit))) [(0, 1), (1, 1)] Tryd.underlying33 Tryd.zeroValue33 rfl ⟨rfl, Tryd.sizeOf9, rfl, Tryd.sizeOf9, trivial⟩ rfl rfl rfl rfl) rfl ?_
      refine ao_eff trivial (e_alloc 3 (y := .st [.str ByteArray.empty, .str ByteArray.empty]) Tryd.zeroValue33 (fun ρ h M => ra_zero_st (t := (.pair .str (.pair .str .unit))) rfl rfl rfl) rfl rfl rfl rfl rfl) rfl ?_
      refine ao_effS trivial (e_store rfl rfl rfl rfl Tryd.sizeOf33 rfl) ?_
      refine ao_nil ?_
      refine aq_then ?_
      refine aw_seq ?_
      obtain ⟨r30, r30h, h⟩ := is_bind h
      obtain ⟨g34, h⟩ := is_guard h
      obtain ⟨g37, h⟩ := is_guard h
      refine aw_drawP 13 rfl (by kernel_rfl) ?_
      refine ap_to [(4, .ref 0 0), (5, .bool (r30 && (eqS ((p_spec_l12Line fu x1 ((r22.getD 0 ByteArray.empty), ((((r3.getD 0 ByteArray.empty).extract ((r1 ++ (ByteArray.mk #[32])).size : Int).toNat (((r3.getD 0 ByteArray.empty).size : Int)).toNat).extract (IntKind.wrap .i64 (((r22.getD 0 ByteArray.empty).size : Int) + 1)).toNat ((((r3.getD 0 ByteArray.empty).extract ((r1 ++ (ByteArray.mk #[32])).size : Int).toNat (((r3.getD 0 ByteArray.empty).size : Int)).toNat).size : Int)).toNat), ()))).getD ByteArray.empty) (x0 ++ (ByteArray.mk #[10])))))] [(0, .var [.cell (.str (r22.getD 0 ByteArray.empty)), .cell (.str (((r3.getD 0 ByteArray.empty).extract ((r1 ++ (ByteArray.mk #[32])).size : Int).toNat (((r3.getD 0 ByteArray.empty).size : Int)).toNat).extract (IntKind.wrap .i64 (((r22.getD 0 ByteArray.empty).size : Int) + 1)).toNat ((((r3.getD 0 ByteArray.empty).extract ((r1 ++ (ByteArray.mk #[32])).size : Int).toNat (((r3.getD 0 ByteArray.empty).size : Int)).toNat).size : Int)).toNat))])] ?_ (fun key => ?_)
      · refine aq_then ?_
        refine aw_ret ?_
        refine aq_ret ?_
        obtain rfl := is_some h
        exact aq_finx (l := [.cell 4 33, .tmp 5]) (xs := [.st [.str (r22.getD 0 ByteArray.empty), .str (((r3.getD 0 ByteArray.empty).extract ((r1 ++ (ByteArray.mk #[32])).size : Int).toNat (((r3.getD 0 ByteArray.empty).size : Int)).toNat).extract (IntKind.wrap .i64 (((r22.getD 0 ByteArray.empty).size : Int) + 1)).toNat ((((r3.getD 0 ByteArray.empty).extract ((r1 ++ (ByteArray.mk #[32])).size : Int).toNat (((r3.getD 0 ByteArray.empty).size : Int)).toNat).size : Int)).toNat)], .bool (r30 && (eqS ((p_spec_l12Line fu x1 ((r22.getD 0 ByteArray.empty), ((((r3.getD 0 ByteArray.empty).extract ((r1 ++ (ByteArray.mk #[32])).size : Int).toNat (((r3.getD 0 ByteArray.empty).size : Int)).toNat).extract (IntKind.wrap .i64 (((r22.getD 0 ByteArray.empty).size : Int) + 1)).toNat ((((r3.getD 0 ByteArray.empty).extract ((r1 ++ (ByteArray.mk #[32])).size : Int).toNat (((r3.getD 0 ByteArray.empty).size : Int)).toNat).size : Int)).toNat), ()))).getD ByteArray.empty) (x0 ++ (ByteArray.mk #[10]))))]) idn [.v (.pair .str (.pair .str .unit)) (((r22.getD 0 ByteArray.empty), ((((r3.getD 0 ByteArray.empty).extract ((r1 ++ (ByteArray.mk #[32])).size : Int).toNat (((r3.getD 0 ByteArray.empty).size : Int)).toNat).extract (IntKind.wrap .i64 (((r22.getD 0 ByteArray.empty).size : Int) + 1)).toNat ((((r3.getD 0 ByteArray.empty).extract ((r1 ++ (ByteArray.mk #[32])).size : Int).toNat (((r3.getD 0 ByteArray.empty).size : Int)).toNat).size : Int)).toNat), ())) : (ByteArray × (ByteArray × Unit))), .bool (r30 && (eqS ((p_spec_l12Line fu x1 ((r22.getD 0 ByteArray.empty), ((((r3.getD 0 ByteArray.empty).extract ((r1 ++ (ByteArray.mk #[32])).size : Int).toNat (((r3.getD 0 ByteArray.empty).size : Int)).toNat).extract (IntKind.wrap .i64 (((r22.getD 0 ByteArray.empty).size : Int) + 1)).toNat ((((r3.getD 0 ByteArray.empty).extract ((r1 ++ (ByteArray.mk #[32])).size : Int).toNat (((r3.getD 0 ByteArray.empty).size : Int)).toNat).size : Int)).toNat), ()))).getD ByteArray.empty) (x0 ++ (ByteArray.mk #[10]))))] [] rfl (by exact ⟨⟨⟨_, _, rfl⟩, r_load_st [] [.cell (.str (r22.getD 0 ByteArray.empty)), .cell (.str (((r3.getD 0 ByteArray.empty).extract ((r1 ++ (ByteArray.mk #[32])).size : Int).toNat (((r3.getD 0 ByteArray.empty).size : Int)).toNat).extract (IntKind.wrap .i64 (((r22.getD 0 ByteArray.empty).size : Int) + 1)).toNat ((((r3.getD 0 ByteArray.empty).extract ((r1 ++ (ByteArray.mk #[32])).size : Int).toNat (((r3.getD 0 ByteArray.empty).size : Int)).toNat).size : Int)).toNat))] [] Tryd.isAgg33 Tryd.sizeOf33 rfl rfl rfl rfl rfl rfl rfl⟩, rfl, trivial⟩) (by exact ⟨ad_st rfl rfl ⟨ad_ren rfl, ad_ren rfl, trivial⟩, ad_ren rfl, trivial⟩) (by exact trivial) rfl (nk rfl) rfl rfl ⟨rfl, rfl⟩
      refine ap_let (g := 2) (listed := #[true, true, true, true, true, true, true, true, true, true, true, false, false]) [(4, .ref 0 0), (5, .bool false), (53, .v (.pair .str (.pair .str .unit)) (((r22.getD 0 ByteArray.empty), ((((r3.getD 0 ByteArray.empty).extract ((r1 ++ (ByteArray.mk #[32])).size : Int).toNat (((r3.getD 0 ByteArray.empty).size : Int)).toNat).extract (IntKind.wrap .i64 (((r22.getD 0 ByteArray.empty).size : Int) + 1)).toNat ((((r3.getD 0 ByteArray.empty).extract ((r1 ++ (ByteArray.mk #[32])).size : Int).toNat (((r3.getD 0 ByteArray.empty).size : Int)).toNat).size : Int)).toNat), ())) : (ByteArray × (ByteArray × Unit)))), (63, .bool (r30 && (eqS ((p_spec_l12Line fu x1 ((r22.getD 0 ByteArray.empty), ((((r3.getD 0 ByteArray.empty).extract ((r1 ++ (ByteArray.mk #[32])).size : Int).toNat (((r3.getD 0 ByteArray.empty).size : Int)).toNat).extract (IntKind.wrap .i64 (((r22.getD 0 ByteArray.empty).size : Int) + 1)).toNat ((((r3.getD 0 ByteArray.empty).extract ((r1 ++ (ByteArray.mk #[32])).size : Int).toNat (((r3.getD 0 ByteArray.empty).size : Int)).toNat).size : Int)).toNat), ()))).getD ByteArray.empty) (x0 ++ (ByteArray.mk #[10])))))] [(0, .var [.cell (.str ByteArray.empty), .cell (.str ByteArray.empty)])] ?_ (fun k45 => ?_)
      · refine ap_all [11] (by kernel_rfl) ⟨?_, trivial⟩
        refine apo_ao rfl ?_
        refine ao_effS trivial (e_store rfl rfl rfl rfl Tryd.sizeOf33 rfl) ?_
        refine ao_nil ?_
        refine ap_in ?_
        refine ap_pure 12 (by kernel_rfl) (fun _ _ _ h => h) rfl (by kernel_rfl) trivial (rp_assign rfl) rfl ?_
        exact ap_end (by kernel_rfl) (AQ.sub (sub_mk idn (by exact ⟨⟨_, rfl, ad_ren rfl⟩, ⟨_, rfl, ad_ren rfl⟩, trivial⟩) (by exact ⟨⟨_, rfl, ⟨ad_ren rfl, rfl, ad_ren rfl, rfl, trivial⟩⟩, trivial⟩) (by rfl) (nk rfl)) key)
      refine ap_let (g := 3) (listed := #[false, true, true, true, true, true, true, true, true, true, true, false, false]) [(4, .ref 0 0), (5, .bool false), (10, .ref 1 0), (63, .bool (r30 && (eqS ((p_spec_l12Line fu x1 ((r22.getD 0 ByteArray.empty), ((((r3.getD 0 ByteArray.empty).extract ((r1 ++ (ByteArray.mk #[32])).size : Int).toNat (((r3.getD 0 ByteArray.empty).size : Int)).toNat).extract (IntKind.wrap .i64 (((r22.getD 0 ByteArray.empty).size : Int) + 1)).toNat ((((r3.getD 0 ByteArray.empty).extract ((r1 ++ (ByteArray.mk #[32])).size : Int).toNat (((r3.getD 0 ByteArray.empty).size : Int)).toNat).size : Int)).toNat), ()))).getD ByteArray.empty) (x0 ++ (ByteArray.mk #[10])))))] [(0, .var [.cell (.str ByteArray.empty), .cell (.str ByteArray.empty)]), (1, .var [.cell (.str (r22.getD 0 ByteArray.empty)), .cell (.str (((r3.getD 0 ByteArray.empty).extract ((r1 ++ (ByteArray.mk #[32])).size : Int).toNat (((r3.getD 0 ByteArray.empty).size : Int)).toNat).extract (IntKind.wrap .i64 (((r22.getD 0 ByteArray.empty).size : Int) + 1)).toNat ((((r3.getD 0 ByteArray.empty).extract ((r1 ++ (ByteArray.mk #[32])).size : Int).toNat (((r3.getD 0 ByteArray.empty).size : Int)).toNat).size : Int)).toNat))])] ?_ (fun k49 => ?_)
      · refine ap_all [0] (by kernel_rfl) ⟨?_, trivial⟩
        refine apo_ao rfl ?_
        refine ao_read trivial (r_load_part (τ := (.pair .str (.pair .str .unit))) (y := (((r22.getD 0 ByteArray.empty), ((((r3.getD 0 ByteArray.empty).extract ((r1 ++ (ByteArray.mk #[32])).size : Int).toNat (((r3.getD 0 ByteArray.empty).size : Int)).toNat).extract (IntKind.wrap .i64 (((r22.getD 0 ByteArray.empty).size : Int) + 1)).toNat ((((r3.getD 0 ByteArray.empty).extract ((r1 ++ (ByteArray.mk #[32])).size : Int).toNat (((r3.getD 0 ByteArray.empty).size : Int)).toNat).size : Int)).toNat), ())) : (ByteArray × (ByteArray × Unit)))) [] [] rfl Tryd.isAgg33 Tryd.sizeOf33 rfl rfl rfl rfl) rfl ?_
        refine ao_nil ?_
        refine ap_in ?_
        exact ap_go (by kernel_rfl) (sub_mk idn (by exact ⟨⟨_, rfl, ad_ren rfl⟩, ⟨_, rfl, ad_ren rfl⟩, ⟨_, rfl, ad_ren rfl⟩, ⟨_, rfl, ad_ren rfl⟩, trivial⟩) (by exact ⟨⟨_, rfl, ⟨ad_ren rfl, rfl, ad_ren rfl, rfl, trivial⟩⟩, trivial⟩) (by rfl) (nk rfl)) k45
      refine ap_let (g := 5) (listed := #[true, true, true, true, true, true, false, true, true, false, false, false, false]) [(4, .ref 0 0), (5, .bool false), (53, .v (.pair .str (.pair .str .unit)) (((r22.getD 0 ByteArray.empty), ((((r3.getD 0 ByteArray.empty).extract ((r1 ++ (ByteArray.mk #[32])).size : Int).toNat (((r3.getD 0 ByteArray.empty).size : Int)).toNat).extract (IntKind.wrap .i64 (((r22.getD 0 ByteArray.empty).size : Int) + 1)).toNat ((((r3.getD 0 ByteArray.empty).extract ((r1 ++ (ByteArray.mk #[32])).size : Int).toNat (((r3.getD 0 ByteArray.empty).size : Int)).toNat).size : Int)).toNat), ())) : (ByteArray × (ByteArray × Unit)))), (56, .bool r30), (57, .gd r30 (.int .i64 x1)), (58, .gd r30 (.v (.pair .str (.pair .str .unit)) (((r22.getD 0 ByteArray.empty), ((((r3.getD 0 ByteArray.empty).extract ((r1 ++ (ByteArray.mk #[32])).size : Int).toNat (((r3.getD 0 ByteArray.empty).size : Int)).toNat).extract (IntKind.wrap .i64 (((r22.getD 0 ByteArray.empty).size : Int) + 1)).toNat ((((r3.getD 0 ByteArray.empty).extract ((r1 ++ (ByteArray.mk #[32])).size : Int).toNat (((r3.getD 0 ByteArray.empty).size : Int)).toNat).size : Int)).toNat), ())) : (ByteArray × (ByteArray × Unit))))), (61, .gd r30 (.str (x0 ++ (ByteArray.mk #[10]))))] [(0, .var [.cell (.str ByteArray.empty), .cell (.str ByteArray.empty)])] ?_ (fun k44 => ?_)
      · refine ap_all [6] (by kernel_rfl) ⟨?_, trivial⟩
        refine apo_ao rfl ?_
        refine ao_scallG (r := .str ((p_spec_l12Line fu x1 ((r22.getD 0 ByteArray.empty), ((((r3.getD 0 ByteArray.empty).extract ((r1 ++ (ByteArray.mk #[32])).size : Int).toNat (((r3.getD 0 ByteArray.empty).size : Int)).toNat).extract (IntKind.wrap .i64 (((r22.getD 0 ByteArray.empty).size : Int) + 1)).toNat ((((r3.getD 0 ByteArray.empty).extract ((r1 ++ (ByteArray.mk #[32])).size : Int).toNat (((r3.getD 0 ByteArray.empty).size : Int)).toNat).size : Int)).toNat), ()))).getD ByteArray.empty)) rfl (GV.T rfl) (fun hg33 => by
              have w34 := g37 (hg33)
              exact SCall.strip 57 rfl (hg33) (SCall.strip 58 rfl (hg33) (scall (c_spec_l12Line (is_mk (isSome_getD (g34 hg33)))) rfl Tryd.func38 rfl rfl rfl rfl (fun σ => ⟨ad_ren rfl, ad_ren rfl, trivial⟩)))) rfl ?_
        refine ao_nil ?_
        refine ap_in ?_
        refine ap_pureG 9 (x := .bool (eqS ((p_spec_l12Line fu x1 ((r22.getD 0 ByteArray.empty), ((((r3.getD 0 ByteArray.empty).extract ((r1 ++ (ByteArray.mk #[32])).size : Int).toNat (((r3.getD 0 ByteArray.empty).size : Int)).toNat).extract (IntKind.wrap .i64 (((r22.getD 0 ByteArray.empty).size : Int) + 1)).toNat ((((r3.getD 0 ByteArray.empty).extract ((r1 ++ (ByteArray.mk #[32])).size : Int).toNat (((r3.getD 0 ByteArray.empty).size : Int)).toNat).size : Int)).toNat), ()))).getD ByteArray.empty) (x0 ++ (ByteArray.mk #[10])))) (by kernel_rfl) (fun _ _ _ h => h) rfl (by kernel_rfl) rfl (GV.T rfl) (fun hg38 => by
              have w39 := g37 (hg38)
              exact rp_strip 59 rfl (hg38) (rp_strip 61 rfl (hg38) (rp_eql_str rfl rfl))) rfl ?_
        refine ap_pure 10 (by kernel_rfl) (fun _ _ _ h => h) rfl (by kernel_rfl) trivial (rp_andB rfl rfl) rfl ?_
        exact ap_go (by kernel_rfl) (sub_mk idn (by exact ⟨⟨_, rfl, ad_ren rfl⟩, ⟨_, rfl, ad_ren rfl⟩, ⟨_, rfl, ad_ren rfl⟩, ⟨_, rfl, ad_ren rfl⟩, trivial⟩) (by exact ⟨⟨_, rfl, ⟨ad_ren rfl, rfl, ad_ren rfl, rfl, trivial⟩⟩, trivial⟩) (by rfl) (nk rfl)) k45
      refine ap_let (g := 6) (listed := #[true, true, true, true, true, false, false, true, true, false, false, false, false]) [(4, .ref 0 0), (5, .bool false), (10, .ref 1 0), (53, .v (.pair .str (.pair .str .unit)) (((r22.getD 0 ByteArray.empty), ((((r3.getD 0 ByteArray.empty).extract ((r1 ++ (ByteArray.mk #[32])).size : Int).toNat (((r3.getD 0 ByteArray.empty).size : Int)).toNat).extract (IntKind.wrap .i64 (((r22.getD 0 ByteArray.empty).size : Int) + 1)).toNat ((((r3.getD 0 ByteArray.empty).extract ((r1 ++ (ByteArray.mk #[32])).size : Int).toNat (((r3.getD 0 ByteArray.empty).size : Int)).toNat).size : Int)).toNat), ())) : (ByteArray × (ByteArray × Unit)))), (56, .bool r30), (57, .gd r30 (.int .i64 x1)), (61, .gd r30 (.str (x0 ++ (ByteArray.mk #[10]))))] [(0, .var [.cell (.str ByteArray.empty), .cell (.str ByteArray.empty)]), (1, .var [.cell (.str (r22.getD 0 ByteArray.empty)), .cell (.str (((r3.getD 0 ByteArray.empty).extract ((r1 ++ (ByteArray.mk #[32])).size : Int).toNat (((r3.getD 0 ByteArray.empty).size : Int)).toNat).extract (IntKind.wrap .i64 (((r22.getD 0 ByteArray.empty).size : Int) + 1)).toNat ((((r3.getD 0 ByteArray.empty).extract ((r1 ++ (ByteArray.mk #[32])).size : Int).toNat (((r3.getD 0 ByteArray.empty).size : Int)).toNat).size : Int)).toNat))])] ?_ (fun k43 => ?_)
      · refine ap_all [5] (by kernel_rfl) ⟨?_, trivial⟩
        refine apo_ao rfl ?_
        refine ao_readG (x := .v (.pair .str (.pair .str .unit)) (((r22.getD 0 ByteArray.empty), ((((r3.getD 0 ByteArray.empty).extract ((r1 ++ (ByteArray.mk #[32])).size : Int).toNat (((r3.getD 0 ByteArray.empty).size : Int)).toNat).extract (IntKind.wrap .i64 (((r22.getD 0 ByteArray.empty).size : Int) + 1)).toNat ((((r3.getD 0 ByteArray.empty).extract ((r1 ++ (ByteArray.mk #[32])).size : Int).toNat (((r3.getD 0 ByteArray.empty).size : Int)).toNat).size : Int)).toNat), ())) : (ByteArray × (ByteArray × Unit)))) rfl (GV.T rfl) (fun hg32 => by
              have w33 := g37 (hg32)
              exact r_load_part (τ := (.pair .str (.pair .str .unit))) (y := (((r22.getD 0 ByteArray.empty), ((((r3.getD 0 ByteArray.empty).extract ((r1 ++ (ByteArray.mk #[32])).size : Int).toNat (((r3.getD 0 ByteArray.empty).size : Int)).toNat).extract (IntKind.wrap .i64 (((r22.getD 0 ByteArray.empty).size : Int) + 1)).toNat ((((r3.getD 0 ByteArray.empty).extract ((r1 ++ (ByteArray.mk #[32])).size : Int).toNat (((r3.getD 0 ByteArray.empty).size : Int)).toNat).size : Int)).toNat), ())) : (ByteArray × (ByteArray × Unit)))) [] [] rfl Tryd.isAgg33 Tryd.sizeOf33 rfl rfl rfl rfl) rfl ?_
        refine ao_nil ?_
        refine ap_in ?_
        exact ap_go (by kernel_rfl) (sub_mk idn (by exact ⟨⟨_, rfl, ad_ren rfl⟩, ⟨_, rfl, ad_ren rfl⟩, ⟨_, rfl, ad_ren rfl⟩, ⟨_, rfl, ad_ren rfl⟩, ⟨_, rfl, ad_ren rfl⟩, ⟨_, rfl, ad_ren rfl⟩, ⟨_, rfl, ad_ren rfl⟩, trivial⟩) (by exact ⟨⟨_, rfl, ⟨ad_ren rfl, rfl, ad_ren rfl, rfl, trivial⟩⟩, trivial⟩) (by rfl) (nk rfl)) k44
      refine ap_let (g := 6) (listed := #[false, true, true, true, true, true, false, true, true, false, false, false, false]) [(4, .ref 0 0), (5, .bool false), (10, .ref 1 0), (56, .bool r30), (57, .gd r30 (.int .i64 x1)), (58, .gd r30 (.v (.pair .str (.pair .str .unit)) (((r22.getD 0 ByteArray.empty), ((((r3.getD 0 ByteArray.empty).extract ((r1 ++ (ByteArray.mk #[32])).size : Int).toNat (((r3.getD 0 ByteArray.empty).size : Int)).toNat).extract (IntKind.wrap .i64 (((r22.getD 0 ByteArray.empty).size : Int) + 1)).toNat ((((r3.getD 0 ByteArray.empty).extract ((r1 ++ (ByteArray.mk #[32])).size : Int).toNat (((r3.getD 0 ByteArray.empty).size : Int)).toNat).size : Int)).toNat), ())) : (ByteArray × (ByteArray × Unit))))), (61, .gd r30 (.str (x0 ++ (ByteArray.mk #[10]))))] [(0, .var [.cell (.str ByteArray.empty), .cell (.str ByteArray.empty)]), (1, .var [.cell (.str (r22.getD 0 ByteArray.empty)), .cell (.str (((r3.getD 0 ByteArray.empty).extract ((r1 ++ (ByteArray.mk #[32])).size : Int).toNat (((r3.getD 0 ByteArray.empty).size : Int)).toNat).extract (IntKind.wrap .i64 (((r22.getD 0 ByteArray.empty).size : Int) + 1)).toNat ((((r3.getD 0 ByteArray.empty).extract ((r1 ++ (ByteArray.mk #[32])).size : Int).toNat (((r3.getD 0 ByteArray.empty).size : Int)).toNat).size : Int)).toNat))])] ?_ (fun k48 => ?_)
      · refine ap_all [0, 6] (by kernel_rfl) ⟨?_, ?_, trivial⟩
        · refine apo_ao rfl ?_
          refine ao_read trivial (r_load_part (τ := (.pair .str (.pair .str .unit))) (y := (((r22.getD 0 ByteArray.empty), ((((r3.getD 0 ByteArray.empty).extract ((r1 ++ (ByteArray.mk #[32])).size : Int).toNat (((r3.getD 0 ByteArray.empty).size : Int)).toNat).extract (IntKind.wrap .i64 (((r22.getD 0 ByteArray.empty).size : Int) + 1)).toNat ((((r3.getD 0 ByteArray.empty).extract ((r1 ++ (ByteArray.mk #[32])).size : Int).toNat (((r3.getD 0 ByteArray.empty).size : Int)).toNat).size : Int)).toNat), ())) : (ByteArray × (ByteArray × Unit)))) [] [] rfl Tryd.isAgg33 Tryd.sizeOf33 rfl rfl rfl rfl) rfl ?_
          refine ao_nil ?_
          refine ap_in ?_
          exact ap_go (by kernel_rfl) (sub_mk idn (by exact ⟨⟨_, rfl, ad_ren rfl⟩, ⟨_, rfl, ad_ren rfl⟩, ⟨_, rfl, ad_ren rfl⟩, ⟨_, rfl, ad_ren rfl⟩, ⟨_, rfl, ad_ren rfl⟩, ⟨_, rfl, ad_ren rfl⟩, ⟨_, rfl, ad_ren rfl⟩, trivial⟩) (by exact ⟨⟨_, rfl, ⟨ad_ren rfl, rfl, ad_ren rfl, rfl, trivial⟩⟩, trivial⟩) (by rfl) (nk rfl)) k44
        · refine apo_ao rfl ?_
          refine ao_scallG (r := .str ((p_spec_l12Line fu x1 ((r22.getD 0 ByteArray.empty), ((((r3.getD 0 ByteArray.empty).extract ((r1 ++ (ByteArray.mk #[32])).size : Int).toNat (((r3.getD 0 ByteArray.empty).size : Int)).toNat).extract (IntKind.wrap .i64 (((r22.getD 0 ByteArray.empty).size : Int) + 1)).toNat ((((r3.getD 0 ByteArray.empty).extract ((r1 ++ (ByteArray.mk #[32])).size : Int).toNat (((r3.getD 0 ByteArray.empty).size : Int)).toNat).size : Int)).toNat), ()))).getD ByteArray.empty)) rfl (GV.T rfl) (fun hg33 => by
                have w34 := g37 (hg33)
                exact SCall.strip 57 rfl (hg33) (SCall.strip 58 rfl (hg33) (scall (c_spec_l12Line (is_mk (isSome_getD (g34 hg33)))) rfl Tryd.func38 rfl rfl rfl rfl (fun σ => ⟨ad_ren rfl, ad_ren rfl, trivial⟩)))) rfl ?_
          refine ao_nil ?_
          refine ap_in ?_
          refine ap_pureG 9 (x := .bool (eqS ((p_spec_l12Line fu x1 ((r22.getD 0 ByteArray.empty), ((((r3.getD 0 ByteArray.empty).extract ((r1 ++ (ByteArray.mk #[32])).size : Int).toNat (((r3.getD 0 ByteArray.empty).size : Int)).toNat).extract (IntKind.wrap .i64 (((r22.getD 0 ByteArray.empty).size : Int) + 1)).toNat ((((r3.getD 0 ByteArray.empty).extract ((r1 ++ (ByteArray.mk #[32])).size : Int).toNat (((r3.getD 0 ByteArray.empty).size : Int)).toNat).size : Int)).toNat), ()))).getD ByteArray.empty) (x0 ++ (ByteArray.mk #[10])))) (by kernel_rfl) (fun _ _ _ h => h) rfl (by kernel_rfl) rfl (GV.T rfl) (fun hg38 => by
                have w39 := g37 (hg38)
                exact rp_strip 59 rfl (hg38) (rp_strip 61 rfl (hg38) (rp_eql_str rfl rfl))) rfl ?_
          refine ap_pure 10 (by kernel_rfl) (fun _ _ _ h => h) rfl (by kernel_rfl) trivial (rp_andB rfl rfl) rfl ?_
          exact ap_go (by kernel_rfl) (sub_mk idn (by exact ⟨⟨_, rfl, ad_ren rfl⟩, ⟨_, rfl, ad_ren rfl⟩, ⟨_, rfl, ad_ren rfl⟩, ⟨_, rfl, ad_ren rfl⟩, trivial⟩) (by exact ⟨⟨_, rfl, ⟨ad_ren rfl, rfl, ad_ren rfl, rfl, trivial⟩⟩, ⟨_, rfl, ⟨ad_ren rfl, rfl, ad_ren rfl, rfl, trivial⟩⟩, trivial⟩) (by rfl) (nk rfl)) k49
      refine ap_let (g := 7) (listed := #[false, true, true, true, true, false, false, true, true, false, false, false, false]) [(4, .ref 0 0), (5, .bool false), (10, .ref 1 0), (56, .bool r30), (57, .gd r30 (.int .i64 x1)), (61, .gd r30 (.str (x0 ++ (ByteArray.mk #[10]))))] [(0, .var [.cell (.str ByteArray.empty), .cell (.str ByteArray.empty)]), (1, .var [.cell (.str (r22.getD 0 ByteArray.empty)), .cell (.str (((r3.getD 0 ByteArray.empty).extract ((r1 ++ (ByteArray.mk #[32])).size : Int).toNat (((r3.getD 0 ByteArray.empty).size : Int)).toNat).extract (IntKind.wrap .i64 (((r22.getD 0 ByteArray.empty).size : Int) + 1)).toNat ((((r3.getD 0 ByteArray.empty).extract ((r1 ++ (ByteArray.mk #[32])).size : Int).toNat (((r3.getD 0 ByteArray.empty).size : Int)).toNat).size : Int)).toNat))])] ?_ (fun k47 => ?_)
      · refine ap_all [0, 5] (by kernel_rfl) ⟨?_, ?_, trivial⟩
        · refine apo_ao rfl ?_
          refine ao_read trivial (r_load_part (τ := (.pair .str (.pair .str .unit))) (y := (((r22.getD 0 ByteArray.empty), ((((r3.getD 0 ByteArray.empty).extract ((r1 ++ (ByteArray.mk #[32])).size : Int).toNat (((r3.getD 0 ByteArray.empty).size : Int)).toNat).extract (IntKind.wrap .i64 (((r22.getD 0 ByteArray.empty).size : Int) + 1)).toNat ((((r3.getD 0 ByteArray.empty).extract ((r1 ++ (ByteArray.mk #[32])).size : Int).toNat (((r3.getD 0 ByteArray.empty).size : Int)).toNat).size : Int)).toNat), ())) : (ByteArray × (ByteArray × Unit)))) [] [] rfl Tryd.isAgg33 Tryd.sizeOf33 rfl rfl rfl rfl) rfl ?_
          refine ao_nil ?_
          refine ap_in ?_
          exact ap_go (by kernel_rfl) (sub_mk idn (by exact ⟨⟨_, rfl, ad_ren rfl⟩, ⟨_, rfl, ad_ren rfl⟩, ⟨_, rfl, ad_ren rfl⟩, ⟨_, rfl, ad_ren rfl⟩, ⟨_, rfl, ad_ren rfl⟩, ⟨_, rfl, ad_ren rfl⟩, ⟨_, rfl, ad_ren rfl⟩, trivial⟩) (by exact ⟨⟨_, rfl, ⟨ad_ren rfl, rfl, ad_ren rfl, rfl, trivial⟩⟩, ⟨_, rfl, ⟨ad_ren rfl, rfl, ad_ren rfl, rfl, trivial⟩⟩, trivial⟩) (by rfl) (nk rfl)) k43
        · refine apo_ao rfl ?_
          refine ao_readG (x := .v (.pair .str (.pair .str .unit)) (((r22.getD 0 ByteArray.empty), ((((r3.getD 0 ByteArray.empty).extract ((r1 ++ (ByteArray.mk #[32])).size : Int).toNat (((r3.getD 0 ByteArray.empty).size : Int)).toNat).extract (IntKind.wrap .i64 (((r22.getD 0 ByteArray.empty).size : Int) + 1)).toNat ((((r3.getD 0 ByteArray.empty).extract ((r1 ++ (ByteArray.mk #[32])).size : Int).toNat (((r3.getD 0 ByteArray.empty).size : Int)).toNat).size : Int)).toNat), ())) : (ByteArray × (ByteArray × Unit)))) rfl (GV.T rfl) (fun hg32 => by
                have w33 := g37 (hg32)
                exact r_load_part (τ := (.pair .str (.pair .str .unit))) (y := (((r22.getD 0 ByteArray.empty), ((((r3.getD 0 ByteArray.empty).extract ((r1 ++ (ByteArray.mk #[32])).size : Int).toNat (((r3.getD 0 ByteArray.empty).size : Int)).toNat).extract (IntKind.wrap .i64 (((r22.getD 0 ByteArray.empty).size : Int) + 1)).toNat ((((r3.getD 0 ByteArray.empty).extract ((r1 ++ (ByteArray.mk #[32])).size : Int).toNat (((r3.getD 0 ByteArray.empty).size : Int)).toNat).size : Int)).toNat), ())) : (ByteArray × (ByteArray × Unit)))) [] [] rfl Tryd.isAgg33 Tryd.sizeOf33 rfl rfl rfl rfl) rfl ?_
          refine ao_nil ?_
          refine ap_in ?_
          exact ap_go (by kernel_rfl) (sub_mk idn (by exact ⟨⟨_, rfl, ad_ren rfl⟩, ⟨_, rfl, ad_ren rfl⟩, ⟨_, rfl, ad_ren rfl⟩, ⟨_, rfl, ad_ren rfl⟩, ⟨_, rfl, ad_ren rfl⟩, ⟨_, rfl, ad_ren rfl⟩, ⟨_, rfl, ad_ren rfl⟩, trivial⟩) (by exact ⟨⟨_, rfl, ⟨ad_ren rfl, rfl, ad_ren rfl, rfl, trivial⟩⟩, ⟨_, rfl, ⟨ad_ren rfl, rfl, ad_ren rfl, rfl, trivial⟩⟩, trivial⟩) (by rfl) (nk rfl)) k48
      refine ap_let (g := 11) (listed := #[true, true, false, false, false, false, false, false, false, false, false, false, false]) [(0, .str x0), (1, .int .i64 x1), (4, .ref 0 0), (5, .bool false), (10, .ref 1 0), (53, .v (.pair .str (.pair .str .unit)) (((r22.getD 0 ByteArray.empty), ((((r3.getD 0 ByteArray.empty).extract ((r1 ++ (ByteArray.mk #[32])).size : Int).toNat (((r3.getD 0 ByteArray.empty).size : Int)).toNat).extract (IntKind.wrap .i64 (((r22.getD 0 ByteArray.empty).size : Int) + 1)).toNat ((((r3.getD 0 ByteArray.empty).extract ((r1 ++ (ByteArray.mk #[32])).size : Int).toNat (((r3.getD 0 ByteArray.empty).size : Int)).toNat).size : Int)).toNat), ())) : (ByteArray × (ByteArray × Unit)))), (54, .v (.pair .str (.pair .str .unit)) (((r22.getD 0 ByteArray.empty), ((((r3.getD 0 ByteArray.empty).extract ((r1 ++ (ByteArray.mk #[32])).size : Int).toNat (((r3.getD 0 ByteArray.empty).size : Int)).toNat).extract (IntKind.wrap .i64 (((r22.getD 0 ByteArray.empty).size : Int) + 1)).toNat ((((r3.getD 0 ByteArray.empty).extract ((r1 ++ (ByteArray.mk #[32])).size : Int).toNat (((r3.getD 0 ByteArray.empty).size : Int)).toNat).size : Int)).toNat), ())) : (ByteArray × (ByteArray × Unit))))] [(0, .var [.cell (.str ByteArray.empty), .cell (.str ByteArray.empty)]), (1, .var [.cell (.str (r22.getD 0 ByteArray.empty)), .cell (.str (((r3.getD 0 ByteArray.empty).extract ((r1 ++ (ByteArray.mk #[32])).size : Int).toNat (((r3.getD 0 ByteArray.empty).size : Int)).toNat).extract (IntKind.wrap .i64 (((r22.getD 0 ByteArray.empty).size : Int) + 1)).toNat ((((r3.getD 0 ByteArray.empty).extract ((r1 ++ (ByteArray.mk #[32])).size : Int).toNat (((r3.getD 0 ByteArray.empty).size : Int)).toNat).size : Int)).toNat))])] ?_ (fun k42 => ?_)
      · refine ap_all [2] (by kernel_rfl) ⟨?_, trivial⟩
        refine apo_ao rfl ?_
        refine ao_scall trivial (scall (c_spec_l12Record (is_mk r30h)) rfl Tryd.func37 rfl rfl rfl rfl (fun σ => ⟨ad_ren rfl, trivial⟩)) rfl ?_
        refine ao_nil ?_
        refine ap_in ?_
        refine ap_pure 3 (by kernel_rfl) (fun _ _ _ h => h) rfl (by kernel_rfl) trivial (rp_move rfl) rfl ?_
        refine ap_pureG 4 (x := .int .i64 x1) (by kernel_rfl) (fun _ _ _ h => h) rfl (by kernel_rfl) rfl (GV.T rfl) (fun hg31 => rp_move rfl) rfl ?_
        refine ap_pureG 7 (x := .str x0) (by kernel_rfl) (fun _ _ _ h => h) rfl (by kernel_rfl) rfl (GV.T rfl) (fun hg35 => rp_move rfl) rfl ?_
        refine ap_pureG 8 (x := .str (x0 ++ (ByteArray.mk #[10]))) (by kernel_rfl) (fun _ _ _ h => h) rfl (by kernel_rfl) rfl (GV.T rfl) (fun hg36 => by
              have g37a := g37 hg36
              exact rp_strip 60 rfl (hg36) (rp_add_str (a := x0) (b := (ByteArray.mk #[10])) rfl rfl (by omega))) rfl ?_
        exact ap_go (by kernel_rfl) (sub_mk idn (by exact ⟨⟨_, rfl, ad_ren rfl⟩, ⟨_, rfl, ad_ren rfl⟩, ⟨_, rfl, ad_ren rfl⟩, ⟨_, rfl, ad_ren rfl⟩, ⟨_, rfl, ad_ren rfl⟩, ⟨_, rfl, ad_ren rfl⟩, ⟨_, rfl, ad_ren rfl⟩, trivial⟩) (by exact ⟨⟨_, rfl, ⟨ad_ren rfl, rfl, ad_ren rfl, rfl, trivial⟩⟩, ⟨_, rfl, ⟨ad_ren rfl, rfl, ad_ren rfl, rfl, trivial⟩⟩, trivial⟩) (by rfl) (nk rfl)) k43
      refine ap_let (g := 12) (listed := #[true, false, false, false, false, false, false, false, false, false, false, false, false]) [(0, .str x0), (1, .int .i64 x1), (4, .ref 0 0), (5, .bool false), (10, .ref 1 0), (53, .v (.pair .str (.pair .str .unit)) (((r22.getD 0 ByteArray.empty), ((((r3.getD 0 ByteArray.empty).extract ((r1 ++ (ByteArray.mk #[32])).size : Int).toNat (((r3.getD 0 ByteArray.empty).size : Int)).toNat).extract (IntKind.wrap .i64 (((r22.getD 0 ByteArray.empty).size : Int) + 1)).toNat ((((r3.getD 0 ByteArray.empty).extract ((r1 ++ (ByteArray.mk #[32])).size : Int).toNat (((r3.getD 0 ByteArray.empty).size : Int)).toNat).size : Int)).toNat), ())) : (ByteArray × (ByteArray × Unit))))] [(0, .var [.cell (.str ByteArray.empty), .cell (.str ByteArray.empty)]), (1, .var [.cell (.str (r22.getD 0 ByteArray.empty)), .cell (.str (((r3.getD 0 ByteArray.empty).extract ((r1 ++ (ByteArray.mk #[32])).size : Int).toNat (((r3.getD 0 ByteArray.empty).size : Int)).toNat).extract (IntKind.wrap .i64 (((r22.getD 0 ByteArray.empty).size : Int) + 1)).toNat ((((r3.getD 0 ByteArray.empty).extract ((r1 ++ (ByteArray.mk #[32])).size : Int).toNat (((r3.getD 0 ByteArray.empty).size : Int)).toNat).size : Int)).toNat))])] ?_ (fun k41 => ?_)
      · refine ap_all [1] (by kernel_rfl) ⟨?_, trivial⟩
        refine apo_ao rfl ?_
        refine ao_read trivial (r_load_part (τ := (.pair .str (.pair .str .unit))) (y := (((r22.getD 0 ByteArray.empty), ((((r3.getD 0 ByteArray.empty).extract ((r1 ++ (ByteArray.mk #[32])).size : Int).toNat (((r3.getD 0 ByteArray.empty).size : Int)).toNat).extract (IntKind.wrap .i64 (((r22.getD 0 ByteArray.empty).size : Int) + 1)).toNat ((((r3.getD 0 ByteArray.empty).extract ((r1 ++ (ByteArray.mk #[32])).size : Int).toNat (((r3.getD 0 ByteArray.empty).size : Int)).toNat).size : Int)).toNat), ())) : (ByteArray × (ByteArray × Unit)))) [] [] rfl Tryd.isAgg33 Tryd.sizeOf33 rfl rfl rfl rfl) rfl ?_
        refine ao_nil ?_
        refine ap_in ?_
        exact ap_go (by kernel_rfl) (sub_mk idn (by exact ⟨⟨_, rfl, ad_ren rfl⟩, ⟨_, rfl, ad_ren rfl⟩, ⟨_, rfl, ad_ren rfl⟩, ⟨_, rfl, ad_ren rfl⟩, ⟨_, rfl, ad_ren rfl⟩, ⟨_, rfl, ad_ren rfl⟩, ⟨_, rfl, ad_ren rfl⟩, trivial⟩) (by exact ⟨⟨_, rfl, ⟨ad_ren rfl, rfl, ad_ren rfl, rfl, trivial⟩⟩, ⟨_, rfl, ⟨ad_ren rfl, rfl, ad_ren rfl, rfl, trivial⟩⟩, trivial⟩) (by rfl) (nk rfl)) k42
      refine ap_let (g := 12) (listed := #[false, true, false, false, false, false, false, false, false, false, false, false, false]) [(0, .str x0), (1, .int .i64 x1), (4, .ref 0 0), (5, .bool false), (10, .ref 1 0), (54, .v (.pair .str (.pair .str .unit)) (((r22.getD 0 ByteArray.empty), ((((r3.getD 0 ByteArray.empty).extract ((r1 ++ (ByteArray.mk #[32])).size : Int).toNat (((r3.getD 0 ByteArray.empty).size : Int)).toNat).extract (IntKind.wrap .i64 (((r22.getD 0 ByteArray.empty).size : Int) + 1)).toNat ((((r3.getD 0 ByteArray.empty).extract ((r1 ++ (ByteArray.mk #[32])).size : Int).toNat (((r3.getD 0 ByteArray.empty).size : Int)).toNat).size : Int)).toNat), ())) : (ByteArray × (ByteArray × Unit))))] [(0, .var [.cell (.str ByteArray.empty), .cell (.str ByteArray.empty)]), (1, .var [.cell (.str (r22.getD 0 ByteArray.empty)), .cell (.str (((r3.getD 0 ByteArray.empty).extract ((r1 ++ (ByteArray.mk #[32])).size : Int).toNat (((r3.getD 0 ByteArray.empty).size : Int)).toNat).extract (IntKind.wrap .i64 (((r22.getD 0 ByteArray.empty).size : Int) + 1)).toNat ((((r3.getD 0 ByteArray.empty).extract ((r1 ++ (ByteArray.mk #[32])).size : Int).toNat (((r3.getD 0 ByteArray.empty).size : Int)).toNat).size : Int)).toNat))])] ?_ (fun k46 => ?_)
      · refine ap_all [0, 2] (by kernel_rfl) ⟨?_, ?_, trivial⟩
        · refine apo_ao rfl ?_
          refine ao_read trivial (r_load_part (τ := (.pair .str (.pair .str .unit))) (y := (((r22.getD 0 ByteArray.empty), ((((r3.getD 0 ByteArray.empty).extract ((r1 ++ (ByteArray.mk #[32])).size : Int).toNat (((r3.getD 0 ByteArray.empty).size : Int)).toNat).extract (IntKind.wrap .i64 (((r22.getD 0 ByteArray.empty).size : Int) + 1)).toNat ((((r3.getD 0 ByteArray.empty).extract ((r1 ++ (ByteArray.mk #[32])).size : Int).toNat (((r3.getD 0 ByteArray.empty).size : Int)).toNat).size : Int)).toNat), ())) : (ByteArray × (ByteArray × Unit)))) [] [] rfl Tryd.isAgg33 Tryd.sizeOf33 rfl rfl rfl rfl) rfl ?_
          refine ao_nil ?_
          refine ap_in ?_
          exact ap_go (by kernel_rfl) (sub_mk idn (by exact ⟨⟨_, rfl, ad_ren rfl⟩, ⟨_, rfl, ad_ren rfl⟩, ⟨_, rfl, ad_ren rfl⟩, ⟨_, rfl, ad_ren rfl⟩, ⟨_, rfl, ad_ren rfl⟩, ⟨_, rfl, ad_ren rfl⟩, ⟨_, rfl, ad_ren rfl⟩, trivial⟩) (by exact ⟨⟨_, rfl, ⟨ad_ren rfl, rfl, ad_ren rfl, rfl, trivial⟩⟩, ⟨_, rfl, ⟨ad_ren rfl, rfl, ad_ren rfl, rfl, trivial⟩⟩, trivial⟩) (by rfl) (nk rfl)) k42
        · refine apo_ao rfl ?_
          refine ao_scall trivial (scall (c_spec_l12Record (is_mk r30h)) rfl Tryd.func37 rfl rfl rfl rfl (fun σ => ⟨ad_ren rfl, trivial⟩)) rfl ?_
          refine ao_nil ?_
          refine ap_in ?_
          refine ap_pure 3 (by kernel_rfl) (fun _ _ _ h => h) rfl (by kernel_rfl) trivial (rp_move rfl) rfl ?_
          refine ap_pureG 4 (x := .int .i64 x1) (by kernel_rfl) (fun _ _ _ h => h) rfl (by kernel_rfl) rfl (GV.T rfl) (fun hg31 => rp_move rfl) rfl ?_
          refine ap_pureG 7 (x := .str x0) (by kernel_rfl) (fun _ _ _ h => h) rfl (by kernel_rfl) rfl (GV.T rfl) (fun hg35 => rp_move rfl) rfl ?_
          refine ap_pureG 8 (x := .str (x0 ++ (ByteArray.mk #[10]))) (by kernel_rfl) (fun _ _ _ h => h) rfl (by kernel_rfl) rfl (GV.T rfl) (fun hg36 => by
                have g37a := g37 hg36
                exact rp_strip 60 rfl (hg36) (rp_add_str (a := x0) (b := (ByteArray.mk #[10])) rfl rfl (by omega))) rfl ?_
          exact ap_go (by kernel_rfl) (sub_mk idn (by exact ⟨⟨_, rfl, ad_ren rfl⟩, ⟨_, rfl, ad_ren rfl⟩, ⟨_, rfl, ad_ren rfl⟩, ⟨_, rfl, ad_ren rfl⟩, ⟨_, rfl, ad_ren rfl⟩, ⟨_, rfl, ad_ren rfl⟩, trivial⟩) (by exact ⟨⟨_, rfl, ⟨ad_ren rfl, rfl, ad_ren rfl, rfl, trivial⟩⟩, ⟨_, rfl, ⟨ad_ren rfl, rfl, ad_ren rfl, rfl, trivial⟩⟩, trivial⟩) (by rfl) (nk rfl)) k47
      refine ap_let (g := 13) (listed := #[false, false, false, false, false, false, false, false, false, false, false, false, false]) [(0, .str x0), (1, .int .i64 x1), (4, .ref 0 0), (5, .bool false), (10, .ref 1 0)] [(0, .var [.cell (.str ByteArray.empty), .cell (.str ByteArray.empty)]), (1, .var [.cell (.str (r22.getD 0 ByteArray.empty)), .cell (.str (((r3.getD 0 ByteArray.empty).extract ((r1 ++ (ByteArray.mk #[32])).size : Int).toNat (((r3.getD 0 ByteArray.empty).size : Int)).toNat).extract (IntKind.wrap .i64 (((r22.getD 0 ByteArray.empty).size : Int) + 1)).toNat ((((r3.getD 0 ByteArray.empty).extract ((r1 ++ (ByteArray.mk #[32])).size : Int).toNat (((r3.getD 0 ByteArray.empty).size : Int)).toNat).size : Int)).toNat))])] ?_ (fun k40 => ?_)
      · refine ap_all [0, 1] (by kernel_rfl) ⟨?_, ?_, trivial⟩
        · refine apo_ao rfl ?_
          refine ao_read trivial (r_load_part (τ := (.pair .str (.pair .str .unit))) (y := (((r22.getD 0 ByteArray.empty), ((((r3.getD 0 ByteArray.empty).extract ((r1 ++ (ByteArray.mk #[32])).size : Int).toNat (((r3.getD 0 ByteArray.empty).size : Int)).toNat).extract (IntKind.wrap .i64 (((r22.getD 0 ByteArray.empty).size : Int) + 1)).toNat ((((r3.getD 0 ByteArray.empty).extract ((r1 ++ (ByteArray.mk #[32])).size : Int).toNat (((r3.getD 0 ByteArray.empty).size : Int)).toNat).size : Int)).toNat), ())) : (ByteArray × (ByteArray × Unit)))) [] [] rfl Tryd.isAgg33 Tryd.sizeOf33 rfl rfl rfl rfl) rfl ?_
          refine ao_nil ?_
          refine ap_in ?_
          exact ap_go (by kernel_rfl) (sub_mk idn (by exact ⟨⟨_, rfl, ad_ren rfl⟩, ⟨_, rfl, ad_ren rfl⟩, ⟨_, rfl, ad_ren rfl⟩, ⟨_, rfl, ad_ren rfl⟩, ⟨_, rfl, ad_ren rfl⟩, ⟨_, rfl, ad_ren rfl⟩, trivial⟩) (by exact ⟨⟨_, rfl, ⟨ad_ren rfl, rfl, ad_ren rfl, rfl, trivial⟩⟩, ⟨_, rfl, ⟨ad_ren rfl, rfl, ad_ren rfl, rfl, trivial⟩⟩, trivial⟩) (by rfl) (nk rfl)) k41
        · refine apo_ao rfl ?_
          refine ao_read trivial (r_load_part (τ := (.pair .str (.pair .str .unit))) (y := (((r22.getD 0 ByteArray.empty), ((((r3.getD 0 ByteArray.empty).extract ((r1 ++ (ByteArray.mk #[32])).size : Int).toNat (((r3.getD 0 ByteArray.empty).size : Int)).toNat).extract (IntKind.wrap .i64 (((r22.getD 0 ByteArray.empty).size : Int) + 1)).toNat ((((r3.getD 0 ByteArray.empty).extract ((r1 ++ (ByteArray.mk #[32])).size : Int).toNat (((r3.getD 0 ByteArray.empty).size : Int)).toNat).size : Int)).toNat), ())) : (ByteArray × (ByteArray × Unit)))) [] [] rfl Tryd.isAgg33 Tryd.sizeOf33 rfl rfl rfl rfl) rfl ?_
          refine ao_nil ?_
          refine ap_in ?_
          exact ap_go (by kernel_rfl) (sub_mk idn (by exact ⟨⟨_, rfl, ad_ren rfl⟩, ⟨_, rfl, ad_ren rfl⟩, ⟨_, rfl, ad_ren rfl⟩, ⟨_, rfl, ad_ren rfl⟩, ⟨_, rfl, ad_ren rfl⟩, ⟨_, rfl, ad_ren rfl⟩, trivial⟩) (by exact ⟨⟨_, rfl, ⟨ad_ren rfl, rfl, ad_ren rfl, rfl, trivial⟩⟩, ⟨_, rfl, ⟨ad_ren rfl, rfl, ad_ren rfl, rfl, trivial⟩⟩, trivial⟩) (by rfl) (nk rfl)) k46
      exact ap_go (by kernel_rfl) (sub_mk (rn [(1, 3)]) (by exact ⟨⟨_, rfl, ad_ren rfl⟩, ⟨_, rfl, ad_ren rfl⟩, ⟨_, rfl, ad_ren rfl⟩, ⟨_, rfl, ad_ren rfl⟩, ⟨_, rfl, ad_ren rfl⟩, trivial⟩) (by exact ⟨⟨_, rfl, ⟨ad_ren rfl, rfl, ad_ren rfl, rfl, trivial⟩⟩, ⟨_, rfl, ⟨ad_ren rfl, rfl, ad_ren rfl, rfl, trivial⟩⟩, trivial⟩) (by rfl) (nk rfl)) k40
end Go.GA
