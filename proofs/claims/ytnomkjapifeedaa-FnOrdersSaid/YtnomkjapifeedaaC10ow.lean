/- Walks: what the Go functions compute, by the printed lines below; no further conditions. -/
import Derived.Test.YtnomkjapifeedaaC10od
import Derived.Test.YtnomkjapifeedaaProg
namespace Go.GA
open Go Go.Proofs
set_option maxRecDepth 100000
set_option maxHeartbeats 2000000
set_option linter.unusedVariables false
set_option linter.unusedSimpArgs false
theorem c_laws_vBig {x0 : (List Int)} {r : Bool} (h : Is (p_laws_vBig x0) r) :
    Scalar Try.prog 5 [.v (.slice (.int .u8)) x0] (.bool r) := by
  unfold p_laws_vBig at h
  refine ac_enter ⟨6, 0⟩ Try.func5 rfl rfl rfl rfl rfl (fun Γ => ?_)
  refine sl_len_m 0 (x0.length : Int) rfl rfl (fun hl0 => ?_)
  refine aw_seq ?_
  refine aw_region ?_
  refine ao_read trivial (r_assign rfl) rfl ?_
  refine ao_nil ?_
  refine aq_then ?_
  refine aw_seq ?_
  refine aw_region ?_
  refine ao_read trivial (r_move rfl) rfl ?_
  refine ao_read trivial (r_len_vm (x0.length : Int) Try.underlying22 rfl rfl) rfl ?_
  refine ao_read trivial (r_gtr rfl rfl) rfl ?_
  refine ao_read trivial (r_assign rfl) rfl ?_
  refine ao_nil ?_
  refine aq_then ?_
  refine aw_ret ?_
  refine aq_ret ?_
  obtain rfl := is_eq h
  exact aq_finx (l := [.tmp 2]) (xs := [.bool (decide (65536 < (x0.length : Int)))]) idn [.bool (decide (65536 < (x0.length : Int)))] [] rfl (by exact ⟨rfl, trivial⟩) (by exact ⟨ad_ren rfl, trivial⟩) (by exact trivial) rfl (nk rfl) rfl rfl ⟨rfl, rfl⟩
theorem c_spec_l1Cur_next {x0 : (List Int)} {x1 : Int} {x2 : Int} {r : Int × Int × Int} (h : Is (p_spec_l1Cur_next x0 x1 x2) (some r)) :
    ACallsV Try.prog 101 [.ref 0 0] [(0, .var [.cell (.v (.slice (.int .u8)) x0), .cell (.int .i64 x1), .cell (.int .u64 x2)])] (fun r' H' => r' = .int .i64 r.1 ∧ H' = [(0, .var [.cell (.v (.slice (.int .u8)) x0), .cell (.int .i64 r.2.1), .cell (.int .u64 r.2.2)])]) := by
  unfold p_spec_l1Cur_next at h
  refine ac_enterV ⟨62, 1⟩ Try.func101 rfl rfl rfl rfl rfl (fun Γ => ?_)
  refine aw_seq ?_
  refine aw_region ?_
  refine ao_read trivial (r_assign rfl) rfl ?_
  refine ao_nil ?_
  refine aq_then ?_
  refine aw_seq ?_
  refine aw_region ?_
  refine ao_read trivial (r_assign rfl) rfl ?_
  refine ao_nil ?_
  refine aq_then ?_
  refine aw_join (fun (s1 : Int) => [(0, .ref 0 0), (3, .int .i64 s1)]) (fun (s1 : Int) => [(0, .var [.cell (.v (.slice (.int .u8)) x0), .cell (.int .i64 x1), .cell (.int .u64 x2)])]) (fun (s1 : Int) => True) h (fun s1 hI h => ?_) (fun h j3 => ?_)
  · refine aw_seq ?_
    refine aw_region ?_
    refine ao_read trivial (r_move rfl) rfl ?_
    refine ao_read trivial (r_nilCheck rfl rfl) rfl ?_
    refine ao_read trivial (r_fieldAddr Try.underlying63 rfl Try.sizeOf3 rfl rfl rfl) rfl ?_
    refine ao_read trivial (r_load_cell Try.isAgg3 rfl rfl rfl) rfl ?_
    refine ao_read trivial (r_add rfl rfl) rfl ?_
    refine ao_read trivial (r_nilCheck rfl rfl) rfl ?_
    refine ao_read trivial (r_fieldAddr Try.underlying63 rfl Try.sizeOf3 rfl rfl rfl) rfl ?_
    refine ao_effS trivial (e_store rfl rfl rfl rfl Try.sizeOf3 rfl) ?_
    refine ao_nil ?_
    refine aq_then ?_
    refine aw_seq ?_
    refine aw_region ?_
    refine ao_read trivial (r_move rfl) rfl ?_
    refine ao_read trivial (r_move rfl) rfl ?_
    refine ao_read trivial (r_nilCheck rfl rfl) rfl ?_
    refine ao_read trivial (r_fieldAddr Try.underlying63 rfl Try.sizeOf61 rfl rfl rfl) rfl ?_
    refine ao_read trivial (r_load_cell Try.isAgg61 rfl rfl rfl) rfl ?_
    refine ao_read trivial (r_mul rfl rfl) rfl ?_
    refine ao_read trivial (r_move rfl) rfl ?_
    refine ao_read trivial (r_conv Try.underlying3 Try.underlying61 rfl) rfl ?_
    refine ao_read trivial (r_add rfl rfl) rfl ?_
    refine ao_read trivial (r_add rfl rfl) rfl ?_
    refine ao_read trivial (r_nilCheck rfl rfl) rfl ?_
    refine ao_read trivial (r_fieldAddr Try.underlying63 rfl Try.sizeOf61 rfl rfl rfl) rfl ?_
    refine ao_effS trivial (e_store rfl rfl rfl rfl Try.sizeOf61 rfl) ?_
    refine ao_nil ?_
    refine aq_then ?_
    refine aw_seq ?_
    refine aw_seq ?_
    refine aw_drawAll (by kernel_rfl) ?_
    refine an_read 0 (by kernel_rfl) (fun _ _ _ h => h) rfl (by kernel_rfl) trivial (r_move rfl) rfl ?_
    refine an_read 1 (by kernel_rfl) (fun _ _ _ h => h) rfl (by kernel_rfl) trivial (r_nilCheck rfl rfl) rfl ?_
    refine an_read 2 (by kernel_rfl) (fun _ _ _ h => h) rfl (by kernel_rfl) trivial (r_fieldAddr Try.underlying63 rfl Try.sizeOf3 rfl rfl rfl) rfl ?_
    refine an_read 3 (by kernel_rfl) (fun _ _ _ h => h) rfl (by kernel_rfl) trivial (r_load_cell Try.isAgg3 rfl rfl rfl) rfl ?_
    refine an_read 4 (by kernel_rfl) (fun _ _ _ h => h) rfl (by kernel_rfl) trivial (r_move rfl) rfl ?_
    refine an_read 5 (by kernel_rfl) (fun _ _ _ h => h) rfl (by kernel_rfl) trivial (r_nilCheck rfl rfl) rfl ?_
    refine an_read 6 (by kernel_rfl) (fun _ _ _ h => h) rfl (by kernel_rfl) trivial (r_fieldAddr Try.underlying63 rfl Try.sizeOf22 rfl rfl rfl) rfl ?_
    refine an_read 7 (by kernel_rfl) (fun _ _ _ h => h) rfl (by kernel_rfl) trivial (r_load_cell Try.isAgg22 rfl rfl rfl) rfl ?_
    refine an_read 8 (by kernel_rfl) (fun _ _ _ h => h) rfl (by kernel_rfl) trivial (r_len_vm (x0.length : Int) Try.underlying22 rfl rfl) rfl ?_
    refine an_read 9 (by kernel_rfl) (fun _ _ _ h => h) rfl (by kernel_rfl) trivial (r_leq rfl rfl) rfl ?_
    refine an_done rfl ?_
    refine aq_then ?_
    refine aw_cond rfl (fun hb4 => ?_) (fun hb4 => ?_)
    · have q5 := d_t hb4
      replace h := is_if (d_t hb4) h
      refine aw_seq ?_
      refine aw_region ?_
      refine ao_read trivial (r_move rfl) rfl ?_
      refine ao_read trivial (r_assign rfl) rfl ?_
      refine ao_nil ?_
      refine aq_then ?_
      refine aw_ret ?_
      refine aq_then_ret ?_
      refine aq_ret ?_
      obtain rfl := is_some h
      exact aq_finV (l := [.tmp 2]) (xs := [.int .i64 s1]) idn [.int .i64 s1] [(0, .var [.cell (.v (.slice (.int .u8)) x0), .cell (.int .i64 (IntKind.wrap .i64 (x1 + 1))), .cell (.int .u64 (IntKind.wrap .u64 ((IntKind.wrap .u64 ((IntKind.wrap .u64 (x2 * 6364136223846793005)) + (IntKind.wrap .u64 s1))) + 462197)))])] rfl (by exact ⟨rfl, trivial⟩) (by exact ⟨ad_ren rfl, trivial⟩) (by exact ⟨⟨_, rfl, ⟨ad_ren rfl, rfl, ad_ren rfl, rfl, ad_ren rfl, rfl, trivial⟩⟩, trivial⟩) rfl (nk1 rfl rfl) ⟨rfl, rfl⟩
    · have q6 := d_f hb4
      replace h := is_else (d_f hb4) h
      refine aw_skip ?_
      refine aq_then ?_
      refine aw_seq ?_
      refine aw_region ?_
      refine ao_read trivial (r_move rfl) rfl ?_
      refine ao_read trivial (r_nilCheck rfl rfl) rfl ?_
      refine ao_read trivial (r_fieldAddr Try.underlying63 rfl Try.sizeOf61 rfl rfl rfl) rfl ?_
      refine ao_read trivial (r_load_cell Try.isAgg61 rfl rfl rfl) rfl ?_
      refine ao_read trivial (r_shr rfl rfl (by omega)) rfl ?_
      refine ao_read trivial (r_and rfl rfl) rfl ?_
      refine ao_read trivial (r_conv Try.underlying61 Try.underlying3 rfl) rfl ?_
      refine ao_read trivial (r_assign rfl) rfl ?_
      refine ao_nil ?_
      refine aq_then ?_
      refine aw_ret ?_
      refine aq_ret ?_
      obtain rfl := is_some h
      exact aq_finV (l := [.tmp 2]) (xs := [.int .i64 (IntKind.wrap .i64 (andI .u64 (shrI .u64 (IntKind.wrap .u64 ((IntKind.wrap .u64 ((IntKind.wrap .u64 (x2 * 6364136223846793005)) + (IntKind.wrap .u64 s1))) + 462197)) 40) 255))]) idn [.int .i64 (IntKind.wrap .i64 (andI .u64 (shrI .u64 (IntKind.wrap .u64 ((IntKind.wrap .u64 ((IntKind.wrap .u64 (x2 * 6364136223846793005)) + (IntKind.wrap .u64 s1))) + 462197)) 40) 255))] [(0, .var [.cell (.v (.slice (.int .u8)) x0), .cell (.int .i64 (IntKind.wrap .i64 (x1 + 1))), .cell (.int .u64 (IntKind.wrap .u64 ((IntKind.wrap .u64 ((IntKind.wrap .u64 (x2 * 6364136223846793005)) + (IntKind.wrap .u64 s1))) + 462197)))])] rfl (by exact ⟨rfl, trivial⟩) (by exact ⟨ad_ren rfl, trivial⟩) (by exact ⟨⟨_, rfl, ⟨ad_ren rfl, rfl, ad_ren rfl, rfl, ad_ren rfl, rfl, trivial⟩⟩, trivial⟩) rfl (nk1 rfl rfl) ⟨rfl, rfl⟩
  · refine aw_seq ?_
    refine aw_drawAll (by kernel_rfl) ?_
    refine an_read 0 (by kernel_rfl) (fun _ _ _ h => h) rfl (by kernel_rfl) trivial (r_move rfl) rfl ?_
    refine an_read 1 (by kernel_rfl) (fun _ _ _ h => h) rfl (by kernel_rfl) trivial (r_nilCheck rfl rfl) rfl ?_
    refine an_read 2 (by kernel_rfl) (fun _ _ _ h => h) rfl (by kernel_rfl) trivial (r_fieldAddr Try.underlying63 rfl Try.sizeOf3 rfl rfl rfl) rfl ?_
    refine an_read 3 (by kernel_rfl) (fun _ _ _ h => h) rfl (by kernel_rfl) trivial (r_load_cell Try.isAgg3 rfl rfl rfl) rfl ?_
    refine an_read 4 (by kernel_rfl) (fun _ _ _ h => h) rfl (by kernel_rfl) trivial (r_move rfl) rfl ?_
    refine an_read 5 (by kernel_rfl) (fun _ _ _ h => h) rfl (by kernel_rfl) trivial (r_nilCheck rfl rfl) rfl ?_
    refine an_read 6 (by kernel_rfl) (fun _ _ _ h => h) rfl (by kernel_rfl) trivial (r_fieldAddr Try.underlying63 rfl Try.sizeOf22 rfl rfl rfl) rfl ?_
    refine an_read 7 (by kernel_rfl) (fun _ _ _ h => h) rfl (by kernel_rfl) trivial (r_load_cell Try.isAgg22 rfl rfl rfl) rfl ?_
    refine an_read 8 (by kernel_rfl) (fun _ _ _ h => h) rfl (by kernel_rfl) trivial (r_len_vm (x0.length : Int) Try.underlying22 rfl rfl) rfl ?_
    refine an_read 9 (by kernel_rfl) (fun _ _ _ h => h) rfl (by kernel_rfl) trivial (r_lss rfl rfl) rfl ?_
    refine an_done rfl ?_
    refine aq_then ?_
    refine aw_cond rfl (fun hb7 => ?_) (fun hb7 => ?_)
    · have q8 := d_t hb7
      replace h := is_if (d_t hb7) h
      obtain ⟨g10, h⟩ := is_guard h
      refine aw_drawAll (by kernel_rfl) ?_
      refine an_read 0 (by kernel_rfl) (fun _ _ _ h => h) rfl (by kernel_rfl) trivial (r_move rfl) rfl ?_
      refine an_read 1 (by kernel_rfl) (fun _ _ _ h => h) rfl (by kernel_rfl) trivial (r_nilCheck rfl rfl) rfl ?_
      refine an_read 2 (by kernel_rfl) (fun _ _ _ h => h) rfl (by kernel_rfl) trivial (r_fieldAddr Try.underlying63 rfl Try.sizeOf22 rfl rfl rfl) rfl ?_
      refine an_read 3 (by kernel_rfl) (fun _ _ _ h => h) rfl (by kernel_rfl) trivial (r_load_cell Try.isAgg22 rfl rfl rfl) rfl ?_
      refine an_read 4 (by kernel_rfl) (fun _ _ _ h => h) rfl (by kernel_rfl) trivial (r_move rfl) rfl ?_
      refine an_read 5 (by kernel_rfl) (fun _ _ _ h => h) rfl (by kernel_rfl) trivial (r_nilCheck rfl rfl) rfl ?_
      refine an_read 6 (by kernel_rfl) (fun _ _ _ h => h) rfl (by kernel_rfl) trivial (r_fieldAddr Try.underlying63 rfl Try.sizeOf3 rfl rfl rfl) rfl ?_
      refine an_read 7 (by kernel_rfl) (fun _ _ _ h => h) rfl (by kernel_rfl) trivial (r_load_cell Try.isAgg3 rfl rfl rfl) rfl ?_
      refine an_read 8 (by kernel_rfl) (fun _ _ _ h => h) rfl (by kernel_rfl) trivial (r_idxAddr_int Try.underlying22 Try.sizeOf5 rfl rfl (show 0 ≤ x1 from by omega) (show x1 < (x0.length : Int) from by omega)) rfl ?_
      refine an_read 9 (by kernel_rfl) (fun _ _ _ h => h) rfl (by kernel_rfl) trivial (r_load_c_int Try.isAgg5 Try.sizeOf5 rfl) rfl ?_
      refine an_read 10 (by kernel_rfl) (fun _ _ _ h => h) rfl (by kernel_rfl) trivial (r_conv Try.underlying5 Try.underlying3 rfl) rfl ?_
      refine an_read 11 (by kernel_rfl) (fun _ _ _ h => h) rfl (by kernel_rfl) trivial (r_assign rfl) rfl ?_
      refine an_done rfl ?_
      exact aq_then (AW.sub (sub_mk idn (by exact ⟨⟨_, rfl, ad_ren rfl⟩, ⟨_, rfl, ad_ren rfl⟩, trivial⟩) (by exact ⟨⟨_, rfl, ⟨ad_ren rfl, rfl, ad_ren rfl, rfl, ad_ren rfl, rfl, trivial⟩⟩, trivial⟩) (by rfl) (nk1 rfl rfl)) (j3 (IntKind.wrap .i64 (x0.getD x1.toNat 0)) trivial h))
    · have q9 := d_f hb7
      replace h := is_else (d_f hb7) h
      refine aw_skip ?_
      exact aq_then (AW.sub (sub_mk idn (by exact ⟨⟨_, rfl, ad_ren rfl⟩, ⟨_, rfl, ad_ren rfl⟩, trivial⟩) (by exact ⟨⟨_, rfl, ⟨ad_ren rfl, rfl, ad_ren rfl, rfl, ad_ren rfl, rfl, trivial⟩⟩, trivial⟩) (by rfl) (nk1 rfl rfl)) (j3 0 trivial h))
theorem c_spec_l1Cur_pick {x0 : Int} {x1 : (List Int)} {x2 : Int} {x3 : Int} {r : Int × Int × Int} (h : Is (p_spec_l1Cur_pick x0 x1 x2 x3) (some r)) :
    ACallsV Try.prog 60 [.ref 0 0, .int .i64 x0] [(0, .var [.cell (.v (.slice (.int .u8)) x1), .cell (.int .i64 x2), .cell (.int .u64 x3)])] (fun r' H' => r' = .int .i64 r.1 ∧ H' = [(0, .var [.cell (.v (.slice (.int .u8)) x1), .cell (.int .i64 r.2.1), .cell (.int .u64 r.2.2)])]) := by
  unfold p_spec_l1Cur_pick at h
  refine ac_enterV ⟨20, 1⟩ Try.func60 rfl rfl rfl rfl rfl (fun Γ => ?_)
  refine aw_seq ?_
  refine aw_region ?_
  refine ao_read trivial (r_assign rfl) rfl ?_
  refine ao_nil ?_
  refine aq_then ?_
  refine aw_seq ?_
  refine aw_seq ?_
  refine aw_region ?_
  refine ao_read trivial (r_move rfl) rfl ?_
  refine ao_read trivial (r_leq rfl rfl) rfl ?_
  refine ao_nil ?_
  refine aq_then ?_
  refine aw_cond rfl (fun hb1 => ?_) (fun hb1 => ?_)
  · have q2 := d_t hb1
    replace h := is_if (d_t hb1) h
    refine aw_seq ?_
    refine aw_region ?_
    refine ao_read trivial (r_assign rfl) rfl ?_
    refine ao_nil ?_
    refine aq_then ?_
    refine aw_ret ?_
    refine aq_then_ret ?_
    refine aq_ret ?_
    obtain rfl := is_some h
    exact aq_finV (l := [.tmp 4]) (xs := [.int .i64 0]) idn [.int .i64 0] [(0, .var [.cell (.v (.slice (.int .u8)) x1), .cell (.int .i64 x2), .cell (.int .u64 x3)])] rfl (by exact ⟨rfl, trivial⟩) (by exact ⟨ad_ren rfl, trivial⟩) (by exact ⟨⟨_, rfl, ⟨ad_ren rfl, rfl, ad_ren rfl, rfl, ad_ren rfl, rfl, trivial⟩⟩, trivial⟩) rfl (nk1 rfl rfl) ⟨rfl, rfl⟩
  · have q3 := d_f hb1
    replace h := is_else (d_f hb1) h
    refine aw_skip ?_
    refine aq_then ?_
    refine aw_seq ?_
    refine aw_region ?_
    refine ao_read trivial (r_move rfl) rfl ?_
    obtain ⟨r4, r4h, h⟩ := is_bind h
    refine ao_callV [0] 1 trivial (c_spec_l1Cur_next (is_mk r4h)) Try.func101 rfl rfl rfl rfl rfl ⟨rfl, trivial⟩ ⟨⟨_, rfl, ⟨ad_ren rfl, rfl, ad_ren rfl, rfl, ad_ren rfl, rfl, trivial⟩⟩, trivial⟩ rfl rfl rfl rfl rfl rfl rfl (fun r' H' hr => ?_)
    obtain ⟨rfl, rfl⟩ := hr
    refine ao_norm (y := .int .i64 r4.1) (H' := [(0, .var [.cell (.v (.slice (.int .u8)) x1), .cell (.int .i64 r4.2.1), .cell (.int .u64 r4.2.2)])]) rfl rfl ?_
    refine ao_read trivial (r_assign rfl) rfl ?_
    refine ao_nil ?_
    refine aq_then ?_
    refine aw_seq ?_
    refine aw_seq ?_
    refine aw_region ?_
    refine ao_read trivial (r_move rfl) rfl ?_
    refine ao_read trivial (r_gtr rfl rfl) rfl ?_
    refine ao_nil ?_
    refine aq_then ?_
    refine aw_cond rfl (fun hb5 => ?_) (fun hb5 => ?_)
    · have q6 := d_t hb5
      replace h := is_if (d_t hb5) h
      refine aw_region ?_
      refine ao_read trivial (r_move rfl) rfl ?_
      refine ao_read trivial (r_mul rfl rfl) rfl ?_
      refine ao_read trivial (r_move rfl) rfl ?_
      obtain ⟨r8, r8h, h⟩ := is_bind h
      refine ao_callV [0] 1 trivial (c_spec_l1Cur_next (is_mk r8h)) Try.func101 rfl rfl rfl rfl rfl ⟨rfl, trivial⟩ ⟨⟨_, rfl, ⟨ad_ren rfl, rfl, ad_ren rfl, rfl, ad_ren rfl, rfl, trivial⟩⟩, trivial⟩ rfl rfl rfl rfl rfl rfl rfl (fun r' H' hr => ?_)
      obtain ⟨rfl, rfl⟩ := hr
      refine ao_norm (y := .int .i64 r8.1) (H' := [(0, .var [.cell (.v (.slice (.int .u8)) x1), .cell (.int .i64 r8.2.1), .cell (.int .u64 r8.2.2)])]) rfl rfl ?_
      refine ao_read trivial (r_add rfl rfl) rfl ?_
      refine ao_read trivial (r_assign rfl) rfl ?_
      refine ao_nil ?_
      refine aq_then ?_
      refine aw_seq ?_
      refine aw_region ?_
      refine ao_read trivial (r_move rfl) rfl ?_
      refine ao_read trivial (r_move rfl) rfl ?_
      refine ao_read trivial (r_rem rfl rfl (by omega)) rfl ?_
      refine ao_read trivial (r_assign rfl) rfl ?_
      refine ao_nil ?_
      refine aq_then ?_
      refine aw_ret ?_
      refine aq_ret ?_
      obtain rfl := is_some h
      exact aq_finV (l := [.tmp 4]) (xs := [.int .i64 ((IntKind.wrap .i64 ((IntKind.wrap .i64 (r4.1 * 256)) + r8.1)).tmod x0)]) idn [.int .i64 ((IntKind.wrap .i64 ((IntKind.wrap .i64 (r4.1 * 256)) + r8.1)).tmod x0)] [(0, .var [.cell (.v (.slice (.int .u8)) x1), .cell (.int .i64 r8.2.1), .cell (.int .u64 r8.2.2)])] rfl (by exact ⟨rfl, trivial⟩) (by exact ⟨ad_ren rfl, trivial⟩) (by exact ⟨⟨_, rfl, ⟨ad_ren rfl, rfl, ad_ren rfl, rfl, ad_ren rfl, rfl, trivial⟩⟩, trivial⟩) rfl (nk1 rfl rfl) ⟨rfl, rfl⟩
    · have q7 := d_f hb5
      replace h := is_else (d_f hb5) h
      refine aw_skip ?_
      refine aq_then ?_
      refine aw_seq ?_
      refine aw_region ?_
      refine ao_read trivial (r_move rfl) rfl ?_
      refine ao_read trivial (r_move rfl) rfl ?_
      refine ao_read trivial (r_rem rfl rfl (by omega)) rfl ?_
      refine ao_read trivial (r_assign rfl) rfl ?_
      refine ao_nil ?_
      refine aq_then ?_
      refine aw_ret ?_
      refine aq_ret ?_
      obtain rfl := is_some h
      exact aq_finV (l := [.tmp 4]) (xs := [.int .i64 (r4.1.tmod x0)]) idn [.int .i64 (r4.1.tmod x0)] [(0, .var [.cell (.v (.slice (.int .u8)) x1), .cell (.int .i64 r4.2.1), .cell (.int .u64 r4.2.2)])] rfl (by exact ⟨rfl, trivial⟩) (by exact ⟨ad_ren rfl, trivial⟩) (by exact ⟨⟨_, rfl, ⟨ad_ren rfl, rfl, ad_ren rfl, rfl, ad_ren rfl, rfl, trivial⟩⟩, trivial⟩) rfl (nk1 rfl rfl) ⟨rfl, rfl⟩
theorem c_spec_l1Cur_one {x0 : Int} {x1 : (List Int)} {x2 : Int} {x3 : Int} {r : Bool × Int × Int} (h : Is (p_spec_l1Cur_one x0 x1 x2 x3) (some r)) :
    ACallsV Try.prog 48 [.ref 0 0, .int .i64 x0] [(0, .var [.cell (.v (.slice (.int .u8)) x1), .cell (.int .i64 x2), .cell (.int .u64 x3)])] (fun r' H' => r' = .bool r.1 ∧ H' = [(0, .var [.cell (.v (.slice (.int .u8)) x1), .cell (.int .i64 r.2.1), .cell (.int .u64 r.2.2)])]) := by
  unfold p_spec_l1Cur_one at h
  refine ac_enterV ⟨9, 1⟩ Try.func48 rfl rfl rfl rfl rfl (fun Γ => ?_)
  refine aw_seq ?_
  refine aw_region ?_
  refine ao_read trivial (r_assign rfl) rfl ?_
  refine ao_nil ?_
  refine aq_then ?_
  refine aw_seq ?_
  refine aw_region ?_
  refine ao_read trivial (r_move rfl) rfl ?_
  refine ao_read trivial (r_move rfl) rfl ?_
  obtain ⟨r1, r1h, h⟩ := is_bind h
  refine ao_callV [0] 1 trivial (c_spec_l1Cur_pick (is_mk r1h)) Try.func60 rfl rfl rfl rfl rfl ⟨rfl, trivial⟩ ⟨⟨_, rfl, ⟨ad_ren rfl, rfl, ad_ren rfl, rfl, ad_ren rfl, rfl, trivial⟩⟩, trivial⟩ rfl rfl rfl rfl rfl rfl rfl (fun r' H' hr => ?_)
  obtain ⟨rfl, rfl⟩ := hr
  refine ao_norm (y := .int .i64 r1.1) (H' := [(0, .var [.cell (.v (.slice (.int .u8)) x1), .cell (.int .i64 r1.2.1), .cell (.int .u64 r1.2.2)])]) rfl rfl ?_
  refine ao_read trivial (r_eql rfl rfl) rfl ?_
  refine ao_read trivial (r_assign rfl) rfl ?_
  refine ao_nil ?_
  refine aq_then ?_
  refine aw_ret ?_
  refine aq_ret ?_
  obtain rfl := is_some h
  exact aq_finV (l := [.tmp 4]) (xs := [.bool (decide (r1.1 = 0))]) idn [.bool (decide (r1.1 = 0))] [(0, .var [.cell (.v (.slice (.int .u8)) x1), .cell (.int .i64 r1.2.1), .cell (.int .u64 r1.2.2)])] rfl (by exact ⟨rfl, trivial⟩) (by exact ⟨ad_ren rfl, trivial⟩) (by exact ⟨⟨_, rfl, ⟨ad_ren rfl, rfl, ad_ren rfl, rfl, ad_ren rfl, rfl, trivial⟩⟩, trivial⟩) rfl (nk1 rfl rfl) ⟨rfl, rfl⟩
theorem c_spec_l1Cur_among {x0 : (List Int)} {x1 : (List Int)} {x2 : Int} {x3 : Int} {r : Int × Int × Int} (h : Is (p_spec_l1Cur_among x0 x1 x2 x3) (some r)) :
    ACallsV Try.prog 61 [.ref 0 0, .v (.slice (.int .i64)) x0] [(0, .var [.cell (.v (.slice (.int .u8)) x1), .cell (.int .i64 x2), .cell (.int .u64 x3)])] (fun r' H' => r' = .int .i64 r.1 ∧ H' = [(0, .var [.cell (.v (.slice (.int .u8)) x1), .cell (.int .i64 r.2.1), .cell (.int .u64 r.2.2)])]) := by
  unfold p_spec_l1Cur_among at h
  refine ac_enterV ⟨12, 1⟩ Try.func61 rfl rfl rfl rfl rfl (fun Γ => ?_)
  refine sl_len_m 1 (x0.length : Int) rfl rfl (fun hl1 => ?_)
  refine aw_seq ?_
  refine aw_region ?_
  refine ao_read trivial (r_assign rfl) rfl ?_
  refine ao_nil ?_
  refine aq_then ?_
  refine aw_seq ?_
  refine aw_region ?_
  refine ao_read trivial (r_move rfl) rfl ?_
  refine ao_read trivial (r_move rfl) rfl ?_
  refine ao_read trivial (r_move rfl) rfl ?_
  refine ao_read trivial (r_len_vm (x0.length : Int) Try.underlying26 rfl rfl) rfl ?_
  obtain ⟨r1, r1h, h⟩ := is_bind h
  refine ao_callV [0] 1 trivial (c_spec_l1Cur_pick (is_mk r1h)) Try.func60 rfl rfl rfl rfl rfl ⟨rfl, trivial⟩ ⟨⟨_, rfl, ⟨ad_ren rfl, rfl, ad_ren rfl, rfl, ad_ren rfl, rfl, trivial⟩⟩, trivial⟩ rfl rfl rfl rfl rfl rfl rfl (fun r' H' hr => ?_)
  obtain ⟨rfl, rfl⟩ := hr
  refine ao_norm (y := .int .i64 r1.1) (H' := [(0, .var [.cell (.v (.slice (.int .u8)) x1), .cell (.int .i64 r1.2.1), .cell (.int .u64 r1.2.2)])]) rfl rfl ?_
  obtain ⟨g2, h⟩ := is_guard h
  obtain ⟨g3, h⟩ := is_guard h
  refine ao_read trivial (r_idxAddr_int Try.underlying26 Try.sizeOf3 rfl rfl (show 0 ≤ r1.1 from by omega) (show r1.1 < (x0.length : Int) from by omega)) rfl ?_
  refine ao_read trivial (r_load_c_int Try.isAgg3 Try.sizeOf3 rfl) rfl ?_
  refine ao_read trivial (r_assign rfl) rfl ?_
  refine ao_nil ?_
  refine aq_then ?_
  refine aw_ret ?_
  refine aq_ret ?_
  obtain rfl := is_some h
  exact aq_finV (l := [.tmp 4]) (xs := [.int .i64 (x0.getD r1.1.toNat 0)]) idn [.int .i64 (x0.getD r1.1.toNat 0)] [(0, .var [.cell (.v (.slice (.int .u8)) x1), .cell (.int .i64 r1.2.1), .cell (.int .u64 r1.2.2)])] rfl (by exact ⟨rfl, trivial⟩) (by exact ⟨ad_ren rfl, trivial⟩) (by exact ⟨⟨_, rfl, ⟨ad_ren rfl, rfl, ad_ren rfl, rfl, ad_ren rfl, rfl, trivial⟩⟩, trivial⟩) rfl (nk1 rfl rfl) ⟨rfl, rfl⟩
theorem c_spec_l1Cur_letters10 {fu : Nat} {x0 : (List Int)} {x1 : Int} {x2 : Int} {r : (List Int) × Int × Int} (h : Is (p_spec_l1Cur_letters10 fu x0 x1 x2) (some r)) :
    ACallsV Try.prog 75 [.ref 0 0] [(0, .var [.cell (.v (.slice (.int .u8)) x0), .cell (.int .i64 x1), .cell (.int .u64 x2)])] (fun r' H' => r' = .os 1 ∧ H' = [(0, .var [.cell (.v (.slice (.int .u8)) x0), .cell (.int .i64 r.2.1), .cell (.int .u64 r.2.2)]), (1, .row (.int .i64) r.1)]) := by
  unfold p_spec_l1Cur_letters10 at h
  refine ac_enterV ⟨60, 1⟩ Try.func75 rfl rfl rfl rfl rfl (fun Γ => ?_)
  refine aw_seq ?_
  refine aw_region ?_
  refine ao_read trivial (r_assign rfl) rfl ?_
  refine ao_nil ?_
  refine aq_then ?_
  refine aw_seq ?_
  refine aw_region ?_
  refine ao_read trivial (r_move rfl) rfl ?_
  refine ao_eff trivial (e_buildSlice (l := [(0, .const (.int .i64 2)), (1, .const (.int .i64 3)), (2, .const (.int .i64 2)), (3, .const (.int .i64 1))]) (t := (.int .i64)) 1 ([2, 3, 2, 1] : (List Int)) rfl Try.underlying26 Try.zeroValue3 Try.sizeOf3 rfl rfl rfl rfl rfl rfl rfl) rfl ?_
  obtain ⟨r1, r1h, h⟩ := is_bind h
  refine ao_frz (fr' := [(0, .ref 0 0), (2, .nilsl), (7, .ref 0 0), (8, .v (.slice (.int .i64)) ([2, 3, 2, 1] : (List Int)))]) (H' := [(0, .var [.cell (.v (.slice (.int .u8)) x0), .cell (.int .i64 x1), .cell (.int .u64 x2)])]) (by exact ⟨⟨_, rfl, ad_ren rfl⟩, ⟨_, rfl, ad_ren rfl⟩, ⟨_, rfl, ad_ren rfl⟩, ⟨_, rfl, ad_osB rfl rfl⟩, trivial⟩) (by exact ⟨⟨_, rfl, ⟨ad_ren rfl, rfl, ad_ren rfl, rfl, ad_ren rfl, rfl, trivial⟩⟩, trivial⟩) rfl ?_
  refine ao_callV [0] 2 trivial (c_spec_l1Cur_among (is_mk r1h)) Try.func61 rfl rfl rfl rfl rfl ⟨rfl, trivial⟩ ⟨⟨_, rfl, ⟨ad_ren rfl, rfl, ad_ren rfl, rfl, ad_ren rfl, rfl, trivial⟩⟩, trivial⟩ rfl rfl rfl rfl rfl rfl rfl (fun r' H' hr => ?_)
  obtain ⟨rfl, rfl⟩ := hr
  refine ao_norm (y := .int .i64 r1.1) (H' := [(0, .var [.cell (.v (.slice (.int .u8)) x0), .cell (.int .i64 r1.2.1), .cell (.int .u64 r1.2.2)])]) rfl rfl ?_
  refine ao_eff trivial (e_buildSlice (l := []) (t := (.int .i64)) 2 ([] : (List Int)) rfl Try.underlying26 Try.zeroValue3 Try.sizeOf3 rfl rfl rfl rfl rfl rfl rfl) rfl ?_
  refine ao_read trivial (r_assign rfl) rfl ?_
  refine ao_read trivial (r_assign rfl) rfl ?_
  refine ao_nil ?_
  refine aq_then ?_
  refine aw_join (fun (s2 : Int × Int × Int) => [(0, .ref 0 0), (3, .int .i64 s2.1), (4, .os 1)]) (fun (s2 : Int × Int × Int) => [(0, .var [.cell (.v (.slice (.int .u8)) x0), .cell (.int .i64 s2.2.1), .cell (.int .u64 s2.2.2)]), (1, .row (.int .i64) ([] : (List Int)))]) (fun (s2 : Int × Int × Int) => True) h (fun s2 hI h => ?_) (fun h j4 => ?_)
  · refine aw_seq ?_
    refine aw_region ?_
    refine ao_read trivial (r_build_zero (t := (.int .i64)) Try.underlying36 Try.zeroValue36 Try.sizeOf3 rfl) rfl ?_
    refine ao_eff trivial (e_alloc 2 (y := .v (.arr 4 (.int .i64)) ((List.replicate 4 0) : (List Int))) Try.zeroValue36 (fun ρ h M => ra_zero_arr (t := (.int .i64)) rfl) rfl rfl rfl rfl rfl) rfl ?_
    refine ao_effS trivial (e_store rfl rfl rfl rfl Try.sizeOf36 rfl) ?_
    refine ao_nil ?_
    refine aq_then ?_
    refine aw_seq ?_
    refine aw_block ?_
    refine aw_loop (AL.sub (sub_mk idn (by exact ⟨⟨_, rfl, ad_ren rfl⟩, ⟨_, rfl, ad_ren rfl⟩, ⟨_, rfl, ad_ren rfl⟩, ⟨_, rfl, ad_ren rfl⟩, trivial⟩) (by exact ⟨⟨_, rfl, ⟨ad_ren rfl, rfl, ad_ren rfl, rfl, ad_ren rfl, rfl, trivial⟩⟩, ⟨_, rfl, rfl⟩, ⟨_, rfl, ⟨rfl, trivial⟩⟩, trivial⟩) (by rfl) (nk1 rfl rfl)) (al_whl (fun (s5 : Int × Int × (List Int) × (List Int)) => [(0, .ref 0 0), (3, .int .i64 s2.1), (4, .os 1), (5, .ref 2 0)]) (fun (s5 : Int × Int × (List Int) × (List Int)) => [(0, .var [.cell (.v (.slice (.int .u8)) x0), .cell (.int .i64 s5.1), .cell (.int .u64 s5.2.1)]), (1, .row (.int .i64) s5.2.2.1), (2, .var [.arr (.int .i64) 4 s5.2.2.2])]) (fun (s5 : Int × Int × (List Int) × (List Int)) => (s5.2.2.2.length : Int) = 4) h (by (try simp only [List.length_set, List.length_append, List.length_cons, List.length_nil, List.length_replicate, List.length_take, List.length_drop]) <;> omega) (fun d7 s5 hI h ih7 => ?_)))
    replace h := is_whlS h
    refine al_round ?_
    refine aw_seq ?_
    refine aw_seq ?_
    refine aw_region ?_
    refine ao_read trivial (r_move rfl) rfl ?_
    refine ao_read trivial (r_len_osm (s5.2.2.1.length : Int) Try.underlying26 rfl rfl rfl) rfl ?_
    refine ao_read trivial (r_move rfl) rfl ?_
    refine ao_read trivial (r_mul rfl rfl) rfl ?_
    refine ao_read trivial (r_lss rfl rfl) rfl ?_
    refine ao_nil ?_
    refine aq_then ?_
    refine aw_cond rfl (fun hb9 => ?_) (fun hb9 => ?_)
    · have q10 := d_t hb9
      replace h := is_if (d_t hb9) h
      refine aw_skip ?_
      refine aq_then ?_
      refine aw_block ?_
      refine aw_seq ?_
      refine aw_region ?_
      refine ao_read trivial (r_move rfl) rfl ?_
      refine ao_read trivial (r_move rfl) rfl ?_
      obtain ⟨r12, r12h, h⟩ := is_bind h
      refine ao_callV [0] 3 trivial (c_spec_l1Cur_pick (is_mk r12h)) Try.func60 rfl rfl rfl rfl rfl ⟨rfl, trivial⟩ ⟨⟨_, rfl, ⟨ad_ren rfl, rfl, ad_ren rfl, rfl, ad_ren rfl, rfl, trivial⟩⟩, trivial⟩ rfl rfl rfl rfl rfl rfl rfl (fun r' H' hr => ?_)
      obtain ⟨rfl, rfl⟩ := hr
      refine ao_norm (y := .int .i64 r12.1) (H' := [(1, .row (.int .i64) s5.2.2.1), (2, .var [.arr (.int .i64) 4 s5.2.2.2]), (0, .var [.cell (.v (.slice (.int .u8)) x0), .cell (.int .i64 r12.2.1), .cell (.int .u64 r12.2.2)])]) rfl rfl ?_
      refine ao_read trivial (r_assign rfl) rfl ?_
      refine ao_nil ?_
      refine aq_then ?_
      refine aw_seq ?_
      refine aw_region ?_
      refine ao_read trivial (r_move rfl) rfl ?_
      obtain ⟨g13, h⟩ := is_guard h
      obtain ⟨g14, h⟩ := is_guard h
      refine ao_read trivial (r_idxAddr_arr (i := r12.1) Try.underlying36 Try.sizeOf3 rfl rfl (show 0 ≤ r12.1 from by omega) (show r12.1 < (4 : Int) from by omega)) rfl ?_
      refine ao_read trivial (r_load_elema_int Try.isAgg3 Try.sizeOf3 rfl rfl rfl (show r12.1.toNat < 4 from by omega)) rfl ?_
      refine ao_read trivial (r_lss rfl rfl) rfl ?_
      refine ao_nil ?_
      refine aq_then ?_
      refine aw_cond rfl (fun hb15 => ?_) (fun hb15 => ?_)
      · have q16 : (s5.2.2.2.getD r12.1.toNat 0) < 6 := d_t hb15
        replace h := is_if (d_t hb15) h
        refine aw_seq ?_
        refine aw_region ?_
        refine ao_read trivial (r_move rfl) rfl ?_
        refine ao_read trivial (r_move rfl) rfl ?_
        refine ao_eff trivial (e_buildSlice (l := [(0, .tmp 27)]) (t := (.int .i64)) 3 ([r12.1] : (List Int)) rfl Try.underlying26 Try.zeroValue3 Try.sizeOf3 rfl rfl rfl rfl rfl rfl rfl) rfl ?_
        obtain ⟨g18, h⟩ := is_guard h
        refine ao_eff trivial (e_append (t := (.int .i64)) 4 rfl Try.underlying26 (rfl : Try.prog.info? 3 = some _) rfl rfl rfl rfl rfl rfl rfl (src_os rfl) (show s5.2.2.1.length + ([r12.1] : (List Int)).length ≤ 1000000000 from by (try simp only [List.length_cons, List.length_nil]) <;> omega) rfl rfl) rfl ?_
        refine ao_read trivial (r_assign rfl) rfl ?_
        refine ao_nil ?_
        refine aq_then ?_
        refine aw_region ?_
        refine ao_read trivial (r_move rfl) rfl ?_
        refine ao_read trivial (r_idxAddr_arr (i := r12.1) Try.underlying36 Try.sizeOf3 rfl rfl (show 0 ≤ r12.1 from by omega) (show r12.1 < (4 : Int) from by omega)) rfl ?_
        refine ao_read trivial (r_load_elema_int Try.isAgg3 Try.sizeOf3 rfl rfl rfl (show r12.1.toNat < 4 from by omega)) rfl ?_
        refine ao_read trivial (r_add rfl rfl) rfl ?_
        refine ao_read trivial (r_idxAddr_arr (i := r12.1) Try.underlying36 Try.sizeOf3 rfl rfl (show 0 ≤ r12.1 from by omega) (show r12.1 < (4 : Int) from by omega)) rfl ?_
        refine ao_effS trivial (e_store_elema_int Try.sizeOf3 rfl rfl rfl rfl (show r12.1.toNat < 4 from by omega) rfl) ?_
        refine ao_nil ?_
        refine aq_in ?_
        exact aq_again (AL.sub (sub_mk (rn [(1, 4)]) (by exact ⟨⟨_, rfl, ad_ren rfl⟩, ⟨_, rfl, ad_ren rfl⟩, ⟨_, rfl, ad_ren rfl⟩, ⟨_, rfl, ad_ren rfl⟩, trivial⟩) (by exact ⟨⟨_, rfl, ⟨ad_ren rfl, rfl, ad_ren rfl, rfl, ad_ren rfl, rfl, trivial⟩⟩, ⟨_, rfl, rfl⟩, ⟨_, rfl, ⟨rfl, trivial⟩⟩, trivial⟩) (by rfl) (nk1 rfl rfl)) (ih7 (r12.2.1, r12.2.2, (s5.2.2.1 ++ [r12.1]), (s5.2.2.2.set r12.1.toNat (IntKind.wrap .i64 ((s5.2.2.2.getD r12.1.toNat 0) + 1)))) (by (try simp only [List.length_set, List.length_append, List.length_cons, List.length_nil, List.length_replicate, List.length_take, List.length_drop]) <;> omega) h))
      · have q17 : ¬ ((s5.2.2.2.getD r12.1.toNat 0) < 6) := d_f hb15
        replace h := is_else (d_f hb15) h
        refine aw_skip ?_
        refine aq_in ?_
        exact aq_again (AL.sub (sub_mk idn (by exact ⟨⟨_, rfl, ad_ren rfl⟩, ⟨_, rfl, ad_ren rfl⟩, ⟨_, rfl, ad_ren rfl⟩, ⟨_, rfl, ad_ren rfl⟩, trivial⟩) (by exact ⟨⟨_, rfl, ⟨ad_ren rfl, rfl, ad_ren rfl, rfl, ad_ren rfl, rfl, trivial⟩⟩, ⟨_, rfl, rfl⟩, ⟨_, rfl, ⟨rfl, trivial⟩⟩, trivial⟩) (by rfl) (nk1 rfl rfl)) (ih7 (r12.2.1, r12.2.2, s5.2.2.1, s5.2.2.2) (by (try simp only [List.length_set, List.length_append, List.length_cons, List.length_nil, List.length_replicate, List.length_take, List.length_drop]) <;> omega) h))
    · have q11 := d_f hb9
      replace h := is_else (d_f hb9) h
      refine aw_exit ?_
      refine aq_then_exit ?_
      refine aq_then_exit ?_
      refine aq_in_exit ?_
      refine aq_then ?_
      refine aw_seq ?_
      refine aw_seq ?_
      refine aw_region ?_
      refine ao_read trivial (r_move rfl) rfl ?_
      obtain ⟨r19, r19h, h⟩ := is_bind h
      refine ao_callV [0] 5 trivial (c_spec_l1Cur_pick (is_mk r19h)) Try.func60 rfl rfl rfl rfl rfl ⟨rfl, trivial⟩ ⟨⟨_, rfl, ⟨ad_ren rfl, rfl, ad_ren rfl, rfl, ad_ren rfl, rfl, trivial⟩⟩, trivial⟩ rfl rfl rfl rfl rfl rfl rfl (fun r' H' hr => ?_)
      obtain ⟨rfl, rfl⟩ := hr
      refine ao_norm (y := .int .i64 r19.1) (H' := [(1, .row (.int .i64) s5.2.2.1), (2, .var [.arr (.int .i64) 4 s5.2.2.2]), (0, .var [.cell (.v (.slice (.int .u8)) x0), .cell (.int .i64 r19.2.1), .cell (.int .u64 r19.2.2)])]) rfl rfl ?_
      refine ao_nil ?_
      refine aq_then ?_
      refine aw_block ?_
      refine aw_seq ?_
      refine aw_region ?_
      refine ao_read trivial (r_eql rfl rfl) rfl ?_
      refine ao_read trivial (r_assign rfl) rfl ?_
      refine ao_nil ?_
      refine aq_then ?_
      refine aw_cond rfl (fun hb20 => ?_) (fun hb20 => ?_)
      · have q21 := d_t hb20
        replace h := is_if (d_t hb20) h
        refine aw_region ?_
        refine ao_read trivial (r_move rfl) rfl ?_
        refine ao_read trivial (r_move rfl) rfl ?_
        refine ao_read trivial (r_move rfl) rfl ?_
        refine ao_read trivial (r_len_osm (s5.2.2.1.length : Int) Try.underlying26 rfl rfl rfl) rfl ?_
        obtain ⟨r23, r23h, h⟩ := is_bind h
        refine ao_callV [0] 5 trivial (c_spec_l1Cur_pick (is_mk r23h)) Try.func60 rfl rfl rfl rfl rfl ⟨rfl, trivial⟩ ⟨⟨_, rfl, ⟨ad_ren rfl, rfl, ad_ren rfl, rfl, ad_ren rfl, rfl, trivial⟩⟩, trivial⟩ rfl rfl rfl rfl rfl rfl rfl (fun r' H' hr => ?_)
        obtain ⟨rfl, rfl⟩ := hr
        refine ao_norm (y := .int .i64 r23.1) (H' := [(1, .row (.int .i64) s5.2.2.1), (2, .var [.arr (.int .i64) 4 s5.2.2.2]), (0, .var [.cell (.v (.slice (.int .u8)) x0), .cell (.int .i64 r23.2.1), .cell (.int .u64 r23.2.2)])]) rfl rfl ?_
        refine ao_read trivial (r_move rfl) rfl ?_
        refine ao_read trivial (r_move rfl) rfl ?_
        refine ao_eff trivial (e_buildSlice (l := [(0, .const (.int .i64 (-1))), (1, .const (.int .i64 0)), (2, .tmp 45), (3, .const (.int .i64 4)), (4, .const (.int .i64 4611686018427387904))]) (t := (.int .i64)) 5 ([(-1), 0, s2.1, 4, 4611686018427387904] : (List Int)) rfl Try.underlying26 Try.zeroValue3 Try.sizeOf3 rfl rfl rfl rfl rfl rfl rfl) rfl ?_
        obtain ⟨r24, r24h, h⟩ := is_bind h
        refine ao_frz (fr' := [(0, .ref 0 0), (3, .int .i64 s2.1), (4, .os 1), (5, .ref 2 0), (14, .os 1), (15, .int .i64 (s5.2.2.1.length : Int)), (16, .int .i64 s2.1), (17, .int .i64 (IntKind.wrap .i64 (6 * s2.1))), (18, .bool (decide ((s5.2.2.1.length : Int) < (IntKind.wrap .i64 (6 * s2.1))))), (35, .ref 0 0), (36, .int .i64 r19.1), (38, .bool (decide (r19.1 = 0))), (37, .bool (decide (r19.1 = 0))), (39, .os 1), (40, .ref 0 0), (41, .os 1), (42, .int .i64 (s5.2.2.1.length : Int)), (43, .int .i64 r23.1), (44, .ref 0 0), (45, .int .i64 s2.1), (46, .v (.slice (.int .i64)) ([(-1), 0, s2.1, 4, 4611686018427387904] : (List Int)))]) (H' := [(1, .row (.int .i64) s5.2.2.1), (2, .var [.arr (.int .i64) 4 s5.2.2.2]), (0, .var [.cell (.v (.slice (.int .u8)) x0), .cell (.int .i64 r23.2.1), .cell (.int .u64 r23.2.2)])]) (by exact ⟨⟨_, rfl, ad_ren rfl⟩, ⟨_, rfl, ad_ren rfl⟩, ⟨_, rfl, ad_ren rfl⟩, ⟨_, rfl, ad_ren rfl⟩, ⟨_, rfl, ad_ren rfl⟩, ⟨_, rfl, ad_ren rfl⟩, ⟨_, rfl, ad_ren rfl⟩, ⟨_, rfl, ad_ren rfl⟩, ⟨_, rfl, ad_ren rfl⟩, ⟨_, rfl, ad_ren rfl⟩, ⟨_, rfl, ad_ren rfl⟩, ⟨_, rfl, ad_ren rfl⟩, ⟨_, rfl, ad_ren rfl⟩, ⟨_, rfl, ad_ren rfl⟩, ⟨_, rfl, ad_ren rfl⟩, ⟨_, rfl, ad_ren rfl⟩, ⟨_, rfl, ad_ren rfl⟩, ⟨_, rfl, ad_ren rfl⟩, ⟨_, rfl, ad_ren rfl⟩, ⟨_, rfl, ad_ren rfl⟩, ⟨_, rfl, ad_osB rfl rfl⟩, trivial⟩) (by exact ⟨⟨_, rfl, rfl⟩, ⟨_, rfl, ⟨rfl, trivial⟩⟩, ⟨_, rfl, ⟨ad_ren rfl, rfl, ad_ren rfl, rfl, ad_ren rfl, rfl, trivial⟩⟩, trivial⟩) rfl ?_
        refine ao_callV [0] 6 trivial (c_spec_l1Cur_among (is_mk r24h)) Try.func61 rfl rfl rfl rfl rfl ⟨rfl, trivial⟩ ⟨⟨_, rfl, ⟨ad_ren rfl, rfl, ad_ren rfl, rfl, ad_ren rfl, rfl, trivial⟩⟩, trivial⟩ rfl rfl rfl rfl rfl rfl rfl (fun r' H' hr => ?_)
        obtain ⟨rfl, rfl⟩ := hr
        refine ao_norm (y := .int .i64 r24.1) (H' := [(1, .row (.int .i64) s5.2.2.1), (2, .var [.arr (.int .i64) 4 s5.2.2.2]), (0, .var [.cell (.v (.slice (.int .u8)) x0), .cell (.int .i64 r24.2.1), .cell (.int .u64 r24.2.2)])]) rfl rfl ?_
        obtain ⟨g25, h⟩ := is_guard h
        obtain ⟨g26, h⟩ := is_guard h
        refine ao_read trivial (r_idxAddr_os Try.underlying26 Try.sizeOf3 rfl rfl rfl (show 0 ≤ r23.1 from by omega) (show r23.1 < (s5.2.2.1.length : Int) from by omega)) rfl ?_
        refine ao_effS trivial (e_store_elem_int Try.sizeOf3 rfl rfl rfl rfl (show r23.1.toNat < s5.2.2.1.length from by omega) rfl) ?_
        refine ao_nil ?_
        refine aq_in ?_
        refine aq_then ?_
        refine aw_seq ?_
        refine aw_region ?_
        refine ao_read trivial (r_move rfl) rfl ?_
        refine ao_read trivial (r_assign rfl) rfl ?_
        refine ao_nil ?_
        refine aq_then ?_
        refine aw_ret ?_
        refine aq_ret ?_
        obtain rfl := is_some h
        exact aq_finV (l := [.tmp 2]) (xs := [.os 1]) idn [.os 1] [(0, .var [.cell (.v (.slice (.int .u8)) x0), .cell (.int .i64 r24.2.1), .cell (.int .u64 r24.2.2)]), (1, .row (.int .i64) ((s5.2.2.1.set r23.1.toNat r24.1) : (List Int)))] rfl (by exact ⟨rfl, trivial⟩) (by exact ⟨ad_ren rfl, trivial⟩) (by exact ⟨⟨_, rfl, ⟨ad_ren rfl, rfl, ad_ren rfl, rfl, ad_ren rfl, rfl, trivial⟩⟩, ⟨_, rfl, rfl⟩, trivial⟩) rfl (nk1 rfl rfl) ⟨rfl, rfl⟩
      · have q22 := d_f hb20
        replace h := is_else (d_f hb20) h
        refine aw_seq ?_
        refine aw_region ?_
        refine ao_read trivial (r_eql rfl rfl) rfl ?_
        refine ao_read trivial (r_assign rfl) rfl ?_
        refine ao_nil ?_
        refine aq_then ?_
        refine aw_cond rfl (fun hb27 => ?_) (fun hb27 => ?_)
        · have q28 := d_t hb27
          replace h := is_if (d_t hb27) h
          refine aw_seq ?_
          refine aw_region ?_
          refine ao_read trivial (r_move rfl) rfl ?_
          refine ao_read trivial (r_move rfl) rfl ?_
          refine ao_read trivial (r_len_osm (s5.2.2.1.length : Int) Try.underlying26 rfl rfl rfl) rfl ?_
          refine ao_read trivial (r_sub rfl rfl) rfl ?_
          obtain ⟨g30, h⟩ := is_guard h
          obtain ⟨g31, h⟩ := is_guard h
          refine ao_eff trivial (e_shrink (t := (.int .i64)) 6 rfl Try.underlying26 Try.sizeOf3 rfl rfl (.some rfl) (by omega) (show (IntKind.wrap .i64 ((s5.2.2.1.length : Int) - 1)) ≤ (s5.2.2.1.length : Int) from by omega) rfl rfl) rfl ?_
          refine ao_read trivial (r_assign rfl) rfl ?_
          refine ao_nil ?_
          refine aq_then ?_
          refine aw_ret ?_
          refine aq_in_ret ?_
          refine aq_then_ret ?_
          refine aq_ret ?_
          obtain rfl := is_some h
          exact aq_finV (l := [.tmp 2]) (xs := [.os 6]) (rn [(1, 6)]) [.os 1] [(0, .var [.cell (.v (.slice (.int .u8)) x0), .cell (.int .i64 r19.2.1), .cell (.int .u64 r19.2.2)]), (1, .row (.int .i64) ((s5.2.2.1.take (IntKind.wrap .i64 ((s5.2.2.1.length : Int) - 1)).toNat) : (List Int)))] rfl (by exact ⟨rfl, trivial⟩) (by exact ⟨ad_ren rfl, trivial⟩) (by exact ⟨⟨_, rfl, ⟨ad_ren rfl, rfl, ad_ren rfl, rfl, ad_ren rfl, rfl, trivial⟩⟩, ⟨_, rfl, rfl⟩, trivial⟩) rfl (nk1 rfl rfl) ⟨rfl, rfl⟩
        · have q29 := d_f hb27
          replace h := is_else (d_f hb27) h
          refine aw_seq ?_
          refine aw_region ?_
          refine ao_read trivial (r_eql rfl rfl) rfl ?_
          refine ao_read trivial (r_assign rfl) rfl ?_
          refine ao_nil ?_
          refine aq_then ?_
          refine aw_cond rfl (fun hb32 => ?_) (fun hb32 => ?_)
          · have q33 := d_t hb32
            replace h := is_if (d_t hb32) h
            refine aw_seq ?_
            refine aw_region ?_
            refine ao_eff trivial (e_buildSlice (l := []) (t := (.int .i64)) 7 ([] : (List Int)) rfl Try.underlying26 Try.zeroValue3 Try.sizeOf3 rfl rfl rfl rfl rfl rfl rfl) rfl ?_
            refine ao_read trivial (r_assign rfl) rfl ?_
            refine ao_nil ?_
            refine aq_then ?_
            refine aw_ret ?_
            refine aq_in_ret ?_
            refine aq_then_ret ?_
            refine aq_ret ?_
            obtain rfl := is_some h
            exact aq_finV (l := [.tmp 2]) (xs := [.os 7]) (rn [(1, 7)]) [.os 1] [(0, .var [.cell (.v (.slice (.int .u8)) x0), .cell (.int .i64 r19.2.1), .cell (.int .u64 r19.2.2)]), (1, .row (.int .i64) ([] : (List Int)))] rfl (by exact ⟨rfl, trivial⟩) (by exact ⟨ad_ren rfl, trivial⟩) (by exact ⟨⟨_, rfl, ⟨ad_ren rfl, rfl, ad_ren rfl, rfl, ad_ren rfl, rfl, trivial⟩⟩, ⟨_, rfl, rfl⟩, trivial⟩) rfl (nk1 rfl rfl) ⟨rfl, rfl⟩
          · have q34 := d_f hb32
            replace h := is_else (d_f hb32) h
            refine aw_skip ?_
            refine aq_in ?_
            refine aq_then ?_
            refine aw_seq ?_
            refine aw_region ?_
            refine ao_read trivial (r_move rfl) rfl ?_
            refine ao_read trivial (r_assign rfl) rfl ?_
            refine ao_nil ?_
            refine aq_then ?_
            refine aw_ret ?_
            refine aq_ret ?_
            obtain rfl := is_some h
            exact aq_finV (l := [.tmp 2]) (xs := [.os 1]) idn [.os 1] [(0, .var [.cell (.v (.slice (.int .u8)) x0), .cell (.int .i64 r19.2.1), .cell (.int .u64 r19.2.2)]), (1, .row (.int .i64) s5.2.2.1)] rfl (by exact ⟨rfl, trivial⟩) (by exact ⟨ad_ren rfl, trivial⟩) (by exact ⟨⟨_, rfl, ⟨ad_ren rfl, rfl, ad_ren rfl, rfl, ad_ren rfl, rfl, trivial⟩⟩, ⟨_, rfl, rfl⟩, trivial⟩) rfl (nk1 rfl rfl) ⟨rfl, rfl⟩
  · refine aw_seq ?_
    refine aw_region ?_
    refine ao_read trivial (r_move rfl) rfl ?_
    obtain ⟨r35, r35h, h⟩ := is_bind h
    refine ao_callV [0] 3 trivial (c_spec_l1Cur_one (is_mk r35h)) Try.func48 rfl rfl rfl rfl rfl ⟨rfl, trivial⟩ ⟨⟨_, rfl, ⟨ad_ren rfl, rfl, ad_ren rfl, rfl, ad_ren rfl, rfl, trivial⟩⟩, trivial⟩ rfl rfl rfl rfl rfl rfl rfl (fun r' H' hr => ?_)
    obtain ⟨rfl, rfl⟩ := hr
    refine ao_norm (y := .bool r35.1) (H' := [(2, .row (.int .i64) ([] : (List Int))), (0, .var [.cell (.v (.slice (.int .u8)) x0), .cell (.int .i64 r35.2.1), .cell (.int .u64 r35.2.2)])]) rfl rfl ?_
    refine ao_nil ?_
    refine aq_then ?_
    refine aw_cond rfl (fun hb36 => ?_) (fun hb36 => ?_)
    · replace h := is_if hb36 h
      refine aw_region ?_
      refine ao_read trivial (r_assign rfl) rfl ?_
      refine ao_nil ?_
      exact aq_then (AW.sub (sub_mk (rn [(1, 2)]) (by exact ⟨⟨_, rfl, ad_ren rfl⟩, ⟨_, rfl, ad_ren rfl⟩, ⟨_, rfl, ad_ren rfl⟩, trivial⟩) (by exact ⟨⟨_, rfl, ⟨ad_ren rfl, rfl, ad_ren rfl, rfl, ad_ren rfl, rfl, trivial⟩⟩, ⟨_, rfl, rfl⟩, trivial⟩) (by rfl) (nk1 rfl rfl)) (j4 (4, r35.2.1, r35.2.2) trivial h))
    · replace h := is_else (ne_t hb36) h
      refine aw_skip ?_
      exact aq_then (AW.sub (sub_mk (rn [(1, 2)]) (by exact ⟨⟨_, rfl, ad_ren rfl⟩, ⟨_, rfl, ad_ren rfl⟩, ⟨_, rfl, ad_ren rfl⟩, trivial⟩) (by exact ⟨⟨_, rfl, ⟨ad_ren rfl, rfl, ad_ren rfl, rfl, ad_ren rfl, rfl, trivial⟩⟩, ⟨_, rfl, rfl⟩, trivial⟩) (by rfl) (nk1 rfl rfl)) (j4 (r1.1, r35.2.1, r35.2.2) trivial h))
theorem c_spec_l1In {x0 : Int} {x1 : Int} {x2 : Int} {r : Bool} (h : Is (p_spec_l1In x0 x1 x2) r) :
    Scalar Try.prog 71 [.int .i64 x0, .int .i64 x1, .int .i64 x2] (.bool r) := by
  unfold p_spec_l1In at h
  refine ac_enter ⟨15, 0⟩ Try.func71 rfl rfl rfl rfl rfl (fun Γ => ?_)
  refine aw_seq ?_
  refine aw_region ?_
  refine ao_read trivial (r_assign rfl) rfl ?_
  refine ao_nil ?_
  refine aq_then ?_
  refine aw_seq ?_
  refine aw_region ?_
  refine ao_read trivial (r_move rfl) rfl ?_
  refine ao_read trivial (r_move rfl) rfl ?_
  refine ao_read trivial (r_geq rfl rfl) rfl ?_
  refine ao_read trivial (r_move rfl) rfl ?_
  refine ao_readG (x := .int .i64 x0) rfl (GV.T rfl) (fun hg1 => by
        have q2 := d_t hg1
        exact r_move rfl) rfl ?_
  refine ao_readG (x := .int .i64 x2) rfl (GV.T rfl) (fun hg3 => by
        have q4 := d_t hg3
        exact r_move rfl) rfl ?_
  refine ao_readG (x := .bool (decide (x0 ≤ x2))) rfl (GV.T rfl) (fun hg5 => by
        have q6 := d_t hg5
        exact Reads.strip 11 rfl (hg5) (Reads.strip 12 rfl (hg5) (r_leq rfl rfl))) rfl ?_
  refine ao_read trivial (r_andB rfl rfl) rfl ?_
  refine ao_read trivial (r_assign rfl) rfl ?_
  refine ao_nil ?_
  refine aq_then ?_
  refine aw_ret ?_
  refine aq_ret ?_
  obtain rfl := is_eq h
  exact aq_finx (l := [.tmp 6]) (xs := [.bool ((decide (x1 ≤ x0)) && (decide (x0 ≤ x2)))]) idn [.bool ((decide (x1 ≤ x0)) && (decide (x0 ≤ x2)))] [] rfl (by exact ⟨rfl, trivial⟩) (by exact ⟨ad_ren rfl, trivial⟩) (by exact trivial) rfl (nk rfl) rfl rfl ⟨rfl, rfl⟩
theorem c_spec_l10Letters {x0 : (List Int)} {r : Bool} (h : Is (p_spec_l10Letters x0) (some r)) :
    Scalar Try.prog 77 [.v (.slice (.int .i64)) x0] (.bool r) := by
  unfold p_spec_l10Letters at h
  refine ac_enter ⟨52, 0⟩ Try.func77 rfl rfl rfl rfl rfl (fun Γ => ?_)
  refine sl_len_m 0 (x0.length : Int) rfl rfl (fun hl0 => ?_)
  refine aw_seq ?_
  refine aw_region ?_
  refine ao_read trivial (r_assign rfl) rfl ?_
  refine ao_nil ?_
  refine aq_then ?_
  refine aw_seq ?_
  refine aw_region ?_
  refine ao_read trivial (r_build_zero (t := (.int .i64)) Try.underlying36 Try.zeroValue36 Try.sizeOf3 rfl) rfl ?_
  refine ao_eff trivial (e_alloc 0 (y := .v (.arr 4 (.int .i64)) ((List.replicate 4 0) : (List Int))) Try.zeroValue36 (fun ρ h M => ra_zero_arr (t := (.int .i64)) rfl) rfl rfl rfl rfl rfl) rfl ?_
  refine ao_effS trivial (e_store rfl rfl rfl rfl Try.sizeOf36 rfl) ?_
  refine ao_nil ?_
  refine aq_then ?_
  refine aw_seq ?_
  refine aw_seq ?_
  refine aw_region ?_
  refine ao_read trivial (r_move rfl) rfl ?_
  refine ao_read trivial (r_len_vm (x0.length : Int) Try.underlying26 rfl rfl) rfl ?_
  refine ao_read trivial (r_rem rfl rfl (by decide)) rfl ?_
  refine ao_read trivial (r_neq rfl rfl) rfl ?_
  refine ao_read trivial (r_move rfl) rfl ?_
  refine ao_readG (x := .v (.slice (.int .i64)) x0) rfl (GV.F rfl) (fun hg1 => by
        have q2 := d_t (not_f (not_t hg1))
        exact r_move rfl) rfl ?_
  refine ao_readG (x := .int .i64 (x0.length : Int)) rfl (GV.F rfl) (fun hg3 => by
        have q4 := d_t (not_f (not_t hg3))
        exact Reads.strip 12 rfl (hg3) (r_len_vm (x0.length : Int) Try.underlying26 rfl rfl)) rfl ?_
  refine ao_scallG (r := .bool (p_spec_l1In (x0.length : Int) 6 24)) rfl (GV.F rfl) (fun hg5 => by
        have q6 := d_t (not_f (not_t hg5))
        exact SCall.strip 13 rfl (hg5) (scall (c_spec_l1In (is_mk (rfl : p_spec_l1In (x0.length : Int) 6 24 = _))) rfl Try.func71 rfl rfl rfl rfl (fun σ => ⟨ad_ren rfl, ad_ren rfl, ad_ren rfl, trivial⟩))) rfl ?_
  refine ao_readG (x := .bool (!(p_spec_l1In (x0.length : Int) 6 24))) rfl (GV.F rfl) (fun hg7 => by
        have q8 := d_t (not_f (not_t hg7))
        exact Reads.strip 14 rfl (hg7) (r_not rfl)) rfl ?_
  refine ao_read trivial (r_orB rfl rfl) rfl ?_
  refine ao_nil ?_
  refine aq_then ?_
  refine aw_cond rfl (fun hb9 => ?_) (fun hb9 => ?_)
  · replace h := is_if hb9 h
    refine aw_seq ?_
    refine aw_region ?_
    refine ao_read trivial (r_assign rfl) rfl ?_
    refine ao_nil ?_
    refine aq_then ?_
    refine aw_ret ?_
    refine aq_then_ret ?_
    refine aq_ret ?_
    obtain rfl := is_some h
    exact aq_finx (l := [.tmp 2]) (xs := [.bool false]) idn [.bool false] [] rfl (by exact ⟨rfl, trivial⟩) (by exact ⟨ad_ren rfl, trivial⟩) (by exact trivial) rfl (nk rfl) rfl rfl ⟨rfl, rfl⟩
  · obtain ⟨q10, q11⟩ := or_f hb9
    have q12 := d_t (not_f q10)
    replace h := is_else (ne_t hb9) h
    refine aw_skip ?_
    refine aq_then ?_
    refine aw_seq ?_
    refine aw_seq ?_
    refine aw_region ?_
    refine ao_read trivial (r_assign rfl) rfl ?_
    refine ao_nil ?_
    refine aq_then ?_
    refine aw_block ?_
    refine aw_loop (AL.sub (fr' := [(0, .v (.slice (.int .i64)) x0), (3, .ref 0 0), (4, .int .i64 0)]) (H' := [(0, .var [.arr (.int .i64) 4 ((List.replicate 4 0) : (List Int))])]) (sub_mk idn (by exact ⟨⟨_, rfl, ad_ren rfl⟩, ⟨_, rfl, ad_ren rfl⟩, ⟨_, rfl, ad_ren rfl⟩, trivial⟩) (by exact ⟨⟨_, rfl, ⟨rfl, trivial⟩⟩, trivial⟩) (by rfl) (nk rfl)) (al_cnt (fun i14 (s13 : (List Int)) => [(0, .v (.slice (.int .i64)) x0), (3, .ref 0 0), (4, .int .i64 i14)]) (fun i14 (s13 : (List Int)) => [(0, .var [.arr (.int .i64) 4 s13])]) (fun d i14 (s13 : (List Int)) => d = Int.toNat ((x0.length : Int) - i14) ∧ 0 ≤ i14 ∧ (s13.length : Int) = 4 ∧ i14 ≤ (x0.length : Int)) h ⟨rfl, (by (try simp only [List.length_set, List.length_append, List.length_cons, List.length_nil, List.length_replicate, List.length_take, List.length_drop]) <;> omega), (by (try simp only [List.length_set, List.length_append, List.length_cons, List.length_nil, List.length_replicate, List.length_take, List.length_drop]) <;> omega), (by (try simp only [List.length_set, List.length_append, List.length_cons, List.length_nil, List.length_replicate, List.length_take, List.length_drop]) <;> omega)⟩ (fun d15 i14 s13 hI h ih15 => ?_)))
    obtain ⟨hd, _, _, _⟩ := hI
    refine al_round ?_
    refine aw_seq ?_
    refine aw_seq ?_
    refine aw_region ?_
    refine ao_read trivial (r_move rfl) rfl ?_
    refine ao_read trivial (r_move rfl) rfl ?_
    refine ao_read trivial (r_len_vm (x0.length : Int) Try.underlying26 rfl rfl) rfl ?_
    refine ao_read trivial (r_lss rfl rfl) rfl ?_
    refine ao_nil ?_
    refine aq_then ?_
    refine aw_cond rfl (fun hb17 => ?_) (fun hb17 => ?_)
    · have q18 := d_t hb17
      obtain ⟨d15, rfl⟩ : ∃ e, d15 = e + 1 := ⟨d15 - 1, by omega⟩
      replace h := is_cntS h
      refine aw_skip ?_
      refine aq_then ?_
      refine aw_seq ?_
      refine aw_block ?_
      refine aw_seq ?_
      refine aw_seq ?_
      refine aw_region ?_
      refine ao_read trivial (r_move rfl) rfl ?_
      refine ao_read trivial (r_move rfl) rfl ?_
      refine ao_read trivial (r_idxAddr_int Try.underlying26 Try.sizeOf3 rfl rfl (show 0 ≤ i14 from by omega) (show i14 < (x0.length : Int) from by omega)) rfl ?_
      refine ao_read trivial (r_load_c_int Try.isAgg3 Try.sizeOf3 rfl) rfl ?_
      refine ao_read trivial (r_move rfl) rfl ?_
      refine ao_read trivial (r_len_vm (x0.length : Int) Try.underlying26 rfl rfl) rfl ?_
      refine ao_read trivial (r_quo rfl rfl (by decide)) rfl ?_
      refine ao_read trivial (r_sub rfl rfl) rfl ?_
      refine ao_scall trivial (scall (c_spec_l1In (is_mk (rfl : p_spec_l1In (x0.getD i14.toNat 0) 0 (IntKind.wrap .i64 ((IntKind.wrap .i64 ((x0.length : Int).tdiv 6)) - 1)) = _))) rfl Try.func71 rfl rfl rfl rfl (fun σ => ⟨ad_ren rfl, ad_ren rfl, ad_ren rfl, trivial⟩)) rfl ?_
      refine ao_read trivial (r_not rfl) rfl ?_
      refine ao_nil ?_
      refine aq_then ?_
      refine aw_cond rfl (fun hb20 => ?_) (fun hb20 => ?_)
      · replace h := is_else (ne_t (not_t hb20)) h
        refine aw_seq ?_
        refine aw_region ?_
        refine ao_read trivial (r_assign rfl) rfl ?_
        refine ao_nil ?_
        refine aq_then ?_
        refine aw_ret ?_
        refine aq_then_ret ?_
        refine aq_in_ret ?_
        refine aq_then_ret ?_
        refine aq_then_ret ?_
        refine aq_in_ret ?_
        refine aq_then_ret ?_
        refine aq_ret ?_
        obtain rfl := is_some h
        exact aq_finx (l := [.tmp 2]) (xs := [.bool false]) idn [.bool false] [] rfl (by exact ⟨rfl, trivial⟩) (by exact ⟨ad_ren rfl, trivial⟩) (by exact trivial) rfl (nk rfl) rfl rfl ⟨rfl, rfl⟩
      · replace h := is_if (not_f hb20) h
        refine aw_skip ?_
        refine aq_then ?_
        refine aw_region ?_
        refine ao_read trivial (r_move rfl) rfl ?_
        refine ao_read trivial (r_move rfl) rfl ?_
        refine ao_read trivial (r_idxAddr_int Try.underlying26 Try.sizeOf3 rfl rfl (show 0 ≤ i14 from by omega) (show i14 < (x0.length : Int) from by omega)) rfl ?_
        refine ao_read trivial (r_load_c_int Try.isAgg3 Try.sizeOf3 rfl) rfl ?_
        obtain ⟨g21, h⟩ := is_guard h
        obtain ⟨g22, h⟩ := is_guard h
        refine ao_read trivial (r_idxAddr_arr (i := (x0.getD i14.toNat 0)) Try.underlying36 Try.sizeOf3 rfl rfl (show 0 ≤ (x0.getD i14.toNat 0) from by omega) (show (x0.getD i14.toNat 0) < (4 : Int) from by omega)) rfl ?_
        refine ao_read trivial (r_load_elema_int Try.isAgg3 Try.sizeOf3 rfl rfl rfl (show (x0.getD i14.toNat 0).toNat < 4 from by omega)) rfl ?_
        refine ao_read trivial (r_add rfl rfl) rfl ?_
        refine ao_read trivial (r_idxAddr_arr (i := (x0.getD i14.toNat 0)) Try.underlying36 Try.sizeOf3 rfl rfl (show 0 ≤ (x0.getD i14.toNat 0) from by omega) (show (x0.getD i14.toNat 0) < (4 : Int) from by omega)) rfl ?_
        refine ao_effS trivial (e_store_elema_int Try.sizeOf3 rfl rfl rfl rfl (show (x0.getD i14.toNat 0).toNat < 4 from by omega) rfl) ?_
        refine ao_nil ?_
        refine aq_in ?_
        refine aq_then ?_
        refine aw_region ?_
        refine ao_read trivial (r_move rfl) rfl ?_
        refine ao_read trivial (r_addI rfl rfl (wrap_id (by omega) (by omega))) rfl ?_
        refine ao_read trivial (r_assign rfl) rfl ?_
        refine ao_nil ?_
        exact aq_again (AL.sub (sub_mk idn (by exact ⟨⟨_, rfl, ad_ren rfl⟩, ⟨_, rfl, ad_ren rfl⟩, ⟨_, rfl, ad_ren rfl⟩, trivial⟩) (by exact ⟨⟨_, rfl, ⟨rfl, trivial⟩⟩, trivial⟩) (by rfl) (nk rfl)) (ih15 d15 (i14 + 1) (s13.set (x0.getD i14.toNat 0).toNat (IntKind.wrap .i64 ((s13.getD (x0.getD i14.toNat 0).toNat 0) + 1))) (by omega) ⟨by omega, (by (try simp only [List.length_set, List.length_append, List.length_cons, List.length_nil, List.length_replicate, List.length_take, List.length_drop]) <;> omega), (by (try simp only [List.length_set, List.length_append, List.length_cons, List.length_nil, List.length_replicate, List.length_take, List.length_drop]) <;> omega), (by (try simp only [List.length_set, List.length_append, List.length_cons, List.length_nil, List.length_replicate, List.length_take, List.length_drop]) <;> omega)⟩ h))
    · have q19 := d_f hb17
      obtain rfl : d15 = 0 := by omega
      replace h := is_cnt0 h
      refine aw_exit ?_
      refine aq_then_exit ?_
      refine aq_then_exit ?_
      refine aq_in_exit ?_
      refine aq_then ?_
      refine aw_seq ?_
      refine aw_seq ?_
      refine aw_region ?_
      refine ao_read trivial (r_assign rfl) rfl ?_
      refine ao_nil ?_
      refine aq_then ?_
      refine aw_block ?_
      refine aw_loop (AL.sub (fr' := [(0, .v (.slice (.int .i64)) x0), (3, .ref 0 0), (5, .int .i64 0)]) (H' := [(0, .var [.arr (.int .i64) 4 s13])]) (sub_mk idn (by exact ⟨⟨_, rfl, ad_ren rfl⟩, ⟨_, rfl, ad_ren rfl⟩, ⟨_, rfl, ad_ren rfl⟩, trivial⟩) (by exact ⟨⟨_, rfl, ⟨rfl, trivial⟩⟩, trivial⟩) (by rfl) (nk rfl)) (al_cnt (fun i24 (s23 : Unit) => [(0, .v (.slice (.int .i64)) x0), (3, .ref 0 0), (5, .int .i64 i24)]) (fun i24 (s23 : Unit) => [(0, .var [.arr (.int .i64) 4 s13])]) (fun d i24 (s23 : Unit) => d = Int.toNat ((IntKind.wrap .i64 ((x0.length : Int).tdiv 6)) - i24) ∧ 0 ≤ i24) h ⟨rfl, (by (try simp only [List.length_set, List.length_append, List.length_cons, List.length_nil, List.length_replicate, List.length_take, List.length_drop]) <;> omega)⟩ (fun d25 i24 s23 hI h ih25 => ?_)))
      obtain ⟨hd, _⟩ := hI
      refine al_round ?_
      refine aw_seq ?_
      refine aw_seq ?_
      refine aw_region ?_
      refine ao_read trivial (r_move rfl) rfl ?_
      refine ao_read trivial (r_move rfl) rfl ?_
      refine ao_read trivial (r_len_vm (x0.length : Int) Try.underlying26 rfl rfl) rfl ?_
      refine ao_read trivial (r_quo rfl rfl (by decide)) rfl ?_
      refine ao_read trivial (r_lss rfl rfl) rfl ?_
      refine ao_nil ?_
      refine aq_then ?_
      refine aw_cond rfl (fun hb27 => ?_) (fun hb27 => ?_)
      · have q28 := d_t hb27
        obtain ⟨d25, rfl⟩ : ∃ e, d25 = e + 1 := ⟨d25 - 1, by omega⟩
        replace h := is_cntS h
        refine aw_skip ?_
        refine aq_then ?_
        refine aw_seq ?_
        refine aw_block ?_
        refine aw_seq ?_
        refine aw_region ?_
        refine ao_read trivial (r_move rfl) rfl ?_
        obtain ⟨g30, h⟩ := is_guard h
        refine ao_read trivial (r_idxAddr_arr (i := i24) Try.underlying36 Try.sizeOf3 rfl rfl (show 0 ≤ i24 from by omega) (show i24 < (4 : Int) from by omega)) rfl ?_
        refine ao_read trivial (r_load_elema_int Try.isAgg3 Try.sizeOf3 rfl rfl rfl (show i24.toNat < 4 from by omega)) rfl ?_
        refine ao_read trivial (r_neq rfl rfl) rfl ?_
        refine ao_nil ?_
        refine aq_then ?_
        refine aw_cond rfl (fun hb31 => ?_) (fun hb31 => ?_)
        · have q32 : ¬ ((s13.getD i24.toNat 0) = 6) := d_f (not_t hb31)
          replace h := is_else (d_f (not_t hb31)) h
          refine aw_seq ?_
          refine aw_region ?_
          refine ao_read trivial (r_assign rfl) rfl ?_
          refine ao_nil ?_
          refine aq_then ?_
          refine aw_ret ?_
          refine aq_in_ret ?_
          refine aq_then_ret ?_
          refine aq_then_ret ?_
          refine aq_in_ret ?_
          refine aq_then_ret ?_
          refine aq_ret ?_
          obtain rfl := is_some h
          exact aq_finx (l := [.tmp 2]) (xs := [.bool false]) idn [.bool false] [] rfl (by exact ⟨rfl, trivial⟩) (by exact ⟨ad_ren rfl, trivial⟩) (by exact trivial) rfl (nk rfl) rfl rfl ⟨rfl, rfl⟩
        · have q33 : (s13.getD i24.toNat 0) = 6 := d_t (not_f hb31)
          replace h := is_if (d_t (not_f hb31)) h
          refine aw_skip ?_
          refine aq_in ?_
          refine aq_then ?_
          refine aw_region ?_
          refine ao_read trivial (r_move rfl) rfl ?_
          refine ao_read trivial (r_addI rfl rfl (wrap_id (by omega) (by omega))) rfl ?_
          refine ao_read trivial (r_assign rfl) rfl ?_
          refine ao_nil ?_
          exact aq_again (AL.sub (sub_mk idn (by exact ⟨⟨_, rfl, ad_ren rfl⟩, ⟨_, rfl, ad_ren rfl⟩, ⟨_, rfl, ad_ren rfl⟩, trivial⟩) (by exact ⟨⟨_, rfl, ⟨rfl, trivial⟩⟩, trivial⟩) (by rfl) (nk rfl)) (ih25 d25 (i24 + 1) () (by omega) ⟨by omega, (by (try simp only [List.length_set, List.length_append, List.length_cons, List.length_nil, List.length_replicate, List.length_take, List.length_drop]) <;> omega)⟩ h))
      · have q29 := d_f hb27
        obtain rfl : d25 = 0 := by omega
        replace h := is_cnt0 h
        refine aw_exit ?_
        refine aq_then_exit ?_
        refine aq_then_exit ?_
        refine aq_in_exit ?_
        refine aq_then ?_
        refine aw_seq ?_
        refine aw_region ?_
        refine ao_read trivial (r_assign rfl) rfl ?_
        refine ao_nil ?_
        refine aq_then ?_
        refine aw_ret ?_
        refine aq_ret ?_
        obtain rfl := is_some h
        exact aq_finx (l := [.tmp 2]) (xs := [.bool true]) idn [.bool true] [] rfl (by exact ⟨rfl, trivial⟩) (by exact ⟨ad_ren rfl, trivial⟩) (by exact trivial) rfl (nk rfl) rfl rfl ⟨rfl, rfl⟩
theorem c_spec_l10Pool {x0 : (List Int)} {r : (List (List Int))} (h : Is (p_spec_l10Pool x0) (some r)) :
    ACalls Try.prog 78 [.v (.slice (.int .i64)) x0] [] (fun r' H' => r' = .os 0 ∧ H' = [(0, .row (.arr 6 (.int .i64)) r)]) := by
  unfold p_spec_l10Pool at h
  refine ac_enter ⟨41, 0⟩ Try.func78 rfl rfl rfl rfl rfl (fun Γ => ?_)
  refine sl_len_m 0 (x0.length : Int) rfl rfl (fun hl0 => ?_)
  refine aw_seq ?_
  refine aw_region ?_
  refine ao_read trivial (r_assign rfl) rfl ?_
  refine ao_nil ?_
  refine aq_then ?_
  refine aw_seq ?_
  refine aw_region ?_
  refine ao_read trivial (r_move rfl) rfl ?_
  refine ao_read trivial (r_len_vm (x0.length : Int) Try.underlying26 rfl rfl) rfl ?_
  refine ao_read trivial (r_quo rfl rfl (by decide)) rfl ?_
  obtain ⟨g1, h⟩ := is_guard h
  obtain ⟨g2, h⟩ := is_guard h
  refine ao_eff trivial (e_makeSlice 0 (t := (.arr 6 (.int .i64))) Try.underlying24 (rfl : Try.prog.info? 65 = some _) rfl rfl rfl rfl rfl rfl (by omega) (by omega) rfl rfl) rfl ?_
  refine ao_read trivial (r_build_zero (t := (.int .i64)) Try.underlying36 Try.zeroValue36 Try.sizeOf3 rfl) rfl ?_
  refine ao_eff trivial (e_alloc 1 (y := .v (.arr 4 (.int .i64)) ((List.replicate 4 0) : (List Int))) Try.zeroValue36 (fun ρ h M => ra_zero_arr (t := (.int .i64)) rfl) rfl rfl rfl rfl rfl) rfl ?_
  refine ao_read trivial (r_assign rfl) rfl ?_
  refine ao_effS trivial (e_store rfl rfl rfl rfl Try.sizeOf36 rfl) ?_
  refine ao_nil ?_
  refine aq_then ?_
  refine aw_seq ?_
  refine aw_seq ?_
  refine aw_region ?_
  refine ao_read trivial (r_assign rfl) rfl ?_
  refine ao_nil ?_
  refine aq_then ?_
  refine aw_block ?_
  refine aw_loop (AL.sub (fr' := [(0, .v (.slice (.int .i64)) x0), (3, .os 0), (4, .ref 1 0), (5, .int .i64 0)]) (H' := [(0, .row (.arr 6 (.int .i64)) ((List.replicate (IntKind.wrap .i64 ((x0.length : Int).tdiv 6)).toNat (List.replicate 6 0)) : (List (List Int)))), (1, .var [.arr (.int .i64) 4 ((List.replicate 4 0) : (List Int))])]) (sub_mk idn (by exact ⟨⟨_, rfl, ad_ren rfl⟩, ⟨_, rfl, ad_ren rfl⟩, ⟨_, rfl, ad_ren rfl⟩, ⟨_, rfl, ad_ren rfl⟩, trivial⟩) (by exact ⟨⟨_, rfl, rfl⟩, ⟨_, rfl, ⟨rfl, trivial⟩⟩, trivial⟩) (by rfl) (nk rfl)) (al_cnt (fun i4 (s3 : (List (List Int)) × (List Int)) => [(0, .v (.slice (.int .i64)) x0), (3, .os 0), (4, .ref 1 0), (5, .int .i64 i4)]) (fun i4 (s3 : (List (List Int)) × (List Int)) => [(0, .row (.arr 6 (.int .i64)) s3.1), (1, .var [.arr (.int .i64) 4 s3.2])]) (fun d i4 (s3 : (List (List Int)) × (List Int)) => d = Int.toNat ((x0.length : Int) - i4) ∧ 0 ≤ i4 ∧ (s3.1.length : Int) = (IntKind.wrap .i64 ((x0.length : Int).tdiv 6)) ∧ (s3.2.length : Int) = 4 ∧ i4 ≤ (x0.length : Int)) h ⟨rfl, (by (try simp only [List.length_set, List.length_append, List.length_cons, List.length_nil, List.length_replicate, List.length_take, List.length_drop]) <;> omega), (by (try simp only [List.length_set, List.length_append, List.length_cons, List.length_nil, List.length_replicate, List.length_take, List.length_drop]) <;> omega), (by (try simp only [List.length_set, List.length_append, List.length_cons, List.length_nil, List.length_replicate, List.length_take, List.length_drop]) <;> omega), (by (try simp only [List.length_set, List.length_append, List.length_cons, List.length_nil, List.length_replicate, List.length_take, List.length_drop]) <;> omega)⟩ (fun d5 i4 s3 hI h ih5 => ?_)))
  obtain ⟨hd, _, _, _, _⟩ := hI
  refine al_round ?_
  refine aw_seq ?_
  refine aw_seq ?_
  refine aw_region ?_
  refine ao_read trivial (r_move rfl) rfl ?_
  refine ao_read trivial (r_move rfl) rfl ?_
  refine ao_read trivial (r_len_vm (x0.length : Int) Try.underlying26 rfl rfl) rfl ?_
  refine ao_read trivial (r_lss rfl rfl) rfl ?_
  refine ao_nil ?_
  refine aq_then ?_
  refine aw_cond rfl (fun hb7 => ?_) (fun hb7 => ?_)
  · have q8 := d_t hb7
    obtain ⟨d5, rfl⟩ : ∃ e, d5 = e + 1 := ⟨d5 - 1, by omega⟩
    replace h := is_cntS h
    refine aw_skip ?_
    refine aq_then ?_
    refine aw_seq ?_
    refine aw_block ?_
    refine aw_seq ?_
    obtain ⟨g10, h⟩ := is_guard h
    obtain ⟨g11, h⟩ := is_guard h
    obtain ⟨g12, h⟩ := is_guard h
    obtain ⟨g13, h⟩ := is_guard h
    obtain ⟨g14, h⟩ := is_guard h
    refine aw_draw 15 (by kernel_rfl) (by kernel_rfl) ?_
    refine an_read 0 (by kernel_rfl) (fun _ _ _ h => h) rfl (by kernel_rfl) trivial (r_move rfl) rfl ?_
    refine an_read 1 (by kernel_rfl) (fun _ _ _ h => h) rfl (by kernel_rfl) trivial (r_move rfl) rfl ?_
    refine an_read 2 (by kernel_rfl) (fun _ _ _ h => h) rfl (by kernel_rfl) trivial (r_move rfl) rfl ?_
    refine an_read 3 (by kernel_rfl) (fun _ _ _ h => h) rfl (by kernel_rfl) trivial (r_idxAddr_int Try.underlying26 Try.sizeOf3 rfl rfl (show 0 ≤ i4 from by omega) (show i4 < (x0.length : Int) from by omega)) rfl ?_
    refine an_read 4 (by kernel_rfl) (fun _ _ _ h => h) rfl (by kernel_rfl) trivial (r_load_c_int Try.isAgg3 Try.sizeOf3 rfl) rfl ?_
    refine an_read 5 (by kernel_rfl) (fun _ _ _ h => h) rfl (by kernel_rfl) trivial (r_move rfl) rfl ?_
    refine an_read 6 (by kernel_rfl) (fun _ _ _ h => h) rfl (by kernel_rfl) trivial (r_move rfl) rfl ?_
    refine an_read 7 (by kernel_rfl) (fun _ _ _ h => h) rfl (by kernel_rfl) trivial (r_idxAddr_int Try.underlying26 Try.sizeOf3 rfl rfl (show 0 ≤ i4 from by omega) (show i4 < (x0.length : Int) from by omega)) rfl ?_
    refine an_read 8 (by kernel_rfl) (fun _ _ _ h => h) rfl (by kernel_rfl) trivial (r_load_c_int Try.isAgg3 Try.sizeOf3 rfl) rfl ?_
    refine an_read 9 (by kernel_rfl) (fun _ _ _ h => h) rfl (by kernel_rfl) trivial (r_idxAddr_arr (i := (x0.getD i4.toNat 0)) Try.underlying36 Try.sizeOf3 rfl rfl (show 0 ≤ (x0.getD i4.toNat 0) from by omega) (show (x0.getD i4.toNat 0) < (4 : Int) from by omega)) rfl ?_
    refine an_read 10 (by kernel_rfl) (fun _ _ _ h => h) rfl (by kernel_rfl) trivial (r_load_elema_int Try.isAgg3 Try.sizeOf3 rfl rfl rfl (show (x0.getD i4.toNat 0).toNat < 4 from by omega)) rfl ?_
    refine an_read 11 (by kernel_rfl) (fun _ _ _ h => h) rfl (by kernel_rfl) trivial (r_move rfl) rfl ?_
    refine an_read 12 (by kernel_rfl) (fun _ _ _ h => h) rfl (by kernel_rfl) trivial (r_addI rfl rfl (wrap_id (by omega) (by omega))) rfl ?_
    refine an_read 13 (by kernel_rfl) (fun _ _ _ h => h) rfl (by kernel_rfl) trivial (r_idxAddr_os Try.underlying24 Try.sizeOf65 rfl rfl rfl (show 0 ≤ (x0.getD i4.toNat 0) from by omega) (show (x0.getD i4.toNat 0) < (s3.1.length : Int) from by omega)) rfl ?_
    refine an_read 14 (by kernel_rfl) (fun _ _ _ h => h) rfl (by kernel_rfl) trivial (r_idxAddr_elem Try.underlying65 Try.sizeOf3 rfl rfl (by omega) (by omega)) rfl ?_
    refine an_tail rfl rfl ?_
    refine ao_effS trivial (e_store_elem2_int (m := 6) Try.sizeOf3 rfl rfl rfl rfl rfl (show (x0.getD i4.toNat 0).toNat < s3.1.length from by omega) rfl (by omega) rfl) ?_
    refine ao_nil ?_
    refine aq_then ?_
    refine aw_region ?_
    refine ao_read trivial (r_move rfl) rfl ?_
    refine ao_read trivial (r_move rfl) rfl ?_
    refine ao_read trivial (r_idxAddr_int Try.underlying26 Try.sizeOf3 rfl rfl (show 0 ≤ i4 from by omega) (show i4 < (x0.length : Int) from by omega)) rfl ?_
    refine ao_read trivial (r_load_c_int Try.isAgg3 Try.sizeOf3 rfl) rfl ?_
    refine ao_read trivial (r_idxAddr_arr (i := (x0.getD i4.toNat 0)) Try.underlying36 Try.sizeOf3 rfl rfl (show 0 ≤ (x0.getD i4.toNat 0) from by omega) (show (x0.getD i4.toNat 0) < (4 : Int) from by omega)) rfl ?_
    refine ao_read trivial (r_load_elema_int Try.isAgg3 Try.sizeOf3 rfl rfl rfl (show (x0.getD i4.toNat 0).toNat < 4 from by omega)) rfl ?_
    refine ao_read trivial (r_addI rfl rfl (wrap_id (by omega) (by omega))) rfl ?_
    refine ao_read trivial (r_idxAddr_arr (i := (x0.getD i4.toNat 0)) Try.underlying36 Try.sizeOf3 rfl rfl (show 0 ≤ (x0.getD i4.toNat 0) from by omega) (show (x0.getD i4.toNat 0) < (4 : Int) from by omega)) rfl ?_
    refine ao_effS trivial (e_store_elema_int Try.sizeOf3 rfl rfl rfl rfl (show (x0.getD i4.toNat 0).toNat < 4 from by omega) rfl) ?_
    refine ao_nil ?_
    refine aq_in ?_
    refine aq_then ?_
    refine aw_region ?_
    refine ao_read trivial (r_move rfl) rfl ?_
    refine ao_read trivial (r_addI rfl rfl (wrap_id (by omega) (by omega))) rfl ?_
    refine ao_read trivial (r_assign rfl) rfl ?_
    refine ao_nil ?_
    exact aq_again (AL.sub (sub_mk idn (by exact ⟨⟨_, rfl, ad_ren rfl⟩, ⟨_, rfl, ad_ren rfl⟩, ⟨_, rfl, ad_ren rfl⟩, ⟨_, rfl, ad_ren rfl⟩, trivial⟩) (by exact ⟨⟨_, rfl, rfl⟩, ⟨_, rfl, ⟨rfl, trivial⟩⟩, trivial⟩) (by rfl) (nk rfl)) (ih5 d5 (i4 + 1) ((s3.1.set (x0.getD i4.toNat 0).toNat ((s3.1.getD (x0.getD i4.toNat 0).toNat (List.replicate 6 0)).set (s3.2.getD (x0.getD i4.toNat 0).toNat 0).toNat (i4 + 1))), (s3.2.set (x0.getD i4.toNat 0).toNat ((s3.2.getD (x0.getD i4.toNat 0).toNat 0) + 1))) (by omega) ⟨by omega, (by (try simp only [List.length_set, List.length_append, List.length_cons, List.length_nil, List.length_replicate, List.length_take, List.length_drop]) <;> omega), (by (try simp only [List.length_set, List.length_append, List.length_cons, List.length_nil, List.length_replicate, List.length_take, List.length_drop]) <;> omega), (by (try simp only [List.length_set, List.length_append, List.length_cons, List.length_nil, List.length_replicate, List.length_take, List.length_drop]) <;> omega), (by (try simp only [List.length_set, List.length_append, List.length_cons, List.length_nil, List.length_replicate, List.length_take, List.length_drop]) <;> omega)⟩ h))
  · have q9 := d_f hb7
    obtain rfl : d5 = 0 := by omega
    replace h := is_cnt0 h
    refine aw_exit ?_
    refine aq_then_exit ?_
    refine aq_then_exit ?_
    refine aq_in_exit ?_
    refine aq_then ?_
    refine aw_seq ?_
    refine aw_region ?_
    refine ao_read trivial (r_move rfl) rfl ?_
    refine ao_read trivial (r_assign rfl) rfl ?_
    refine ao_nil ?_
    refine aq_then ?_
    refine aw_ret ?_
    refine aq_ret ?_
    obtain rfl := is_some h
    exact aq_finx (l := [.tmp 2]) (xs := [.os 0]) idn [.os 0] [(0, .row (.arr 6 (.int .i64)) s3.1)] rfl (by exact ⟨rfl, trivial⟩) (by exact ⟨ad_ren rfl, trivial⟩) (by exact ⟨⟨_, rfl, rfl⟩, trivial⟩) rfl (nk rfl) rfl rfl ⟨rfl, rfl⟩
theorem c_spec_l1Cur_face {x0 : (List Int)} {x1 : Int} {x2 : Int} {r : Int × Int × Int} (h : Is (p_spec_l1Cur_face x0 x1 x2) (some r)) :
    ACallsV Try.prog 123 [.ref 0 0] [(0, .var [.cell (.v (.slice (.int .u8)) x0), .cell (.int .i64 x1), .cell (.int .u64 x2)])] (fun r' H' => r' = .int .i64 r.1 ∧ H' = [(0, .var [.cell (.v (.slice (.int .u8)) x0), .cell (.int .i64 r.2.1), .cell (.int .u64 r.2.2)])]) := by
  unfold p_spec_l1Cur_face at h
  refine ac_enterV ⟨6, 1⟩ Try.func123 rfl rfl rfl rfl rfl (fun Γ => ?_)
  refine aw_seq ?_
  refine aw_region ?_
  refine ao_read trivial (r_assign rfl) rfl ?_
  refine ao_nil ?_
  refine aq_then ?_
  refine aw_seq ?_
  refine aw_region ?_
  refine ao_read trivial (r_move rfl) rfl ?_
  refine ao_eff trivial (e_buildSlice (l := [(0, .const (.int .i64 1)), (1, .const (.int .i64 2)), (2, .const (.int .i64 3)), (3, .const (.int .i64 4)), (4, .const (.int .i64 5)), (5, .const (.int .i64 6)), (6, .const (.int .i64 6)), (7, .const (.int .i64 0)), (8, .const (.int .i64 8)), (9, .const (.int .i64 9)), (10, .const (.int .i64 4)), (11, .const (.int .i64 3)), (12, .const (.int .i64 30)), (13, .const (.int .i64 12))]) (t := (.int .i64)) 1 ([1, 2, 3, 4, 5, 6, 6, 0, 8, 9, 4, 3, 30, 12] : (List Int)) rfl Try.underlying26 Try.zeroValue3 Try.sizeOf3 rfl rfl rfl rfl rfl rfl rfl) rfl ?_
  obtain ⟨r1, r1h, h⟩ := is_bind h
  refine ao_frz (fr' := [(0, .ref 0 0), (2, .int .i64 0), (3, .ref 0 0), (4, .v (.slice (.int .i64)) ([1, 2, 3, 4, 5, 6, 6, 0, 8, 9, 4, 3, 30, 12] : (List Int)))]) (H' := [(0, .var [.cell (.v (.slice (.int .u8)) x0), .cell (.int .i64 x1), .cell (.int .u64 x2)])]) (by exact ⟨⟨_, rfl, ad_ren rfl⟩, ⟨_, rfl, ad_ren rfl⟩, ⟨_, rfl, ad_ren rfl⟩, ⟨_, rfl, ad_osB rfl rfl⟩, trivial⟩) (by exact ⟨⟨_, rfl, ⟨ad_ren rfl, rfl, ad_ren rfl, rfl, ad_ren rfl, rfl, trivial⟩⟩, trivial⟩) rfl ?_
  refine ao_callV [0] 2 trivial (c_spec_l1Cur_among (is_mk r1h)) Try.func61 rfl rfl rfl rfl rfl ⟨rfl, trivial⟩ ⟨⟨_, rfl, ⟨ad_ren rfl, rfl, ad_ren rfl, rfl, ad_ren rfl, rfl, trivial⟩⟩, trivial⟩ rfl rfl rfl rfl rfl rfl rfl (fun r' H' hr => ?_)
  obtain ⟨rfl, rfl⟩ := hr
  refine ao_norm (y := .int .i64 r1.1) (H' := [(0, .var [.cell (.v (.slice (.int .u8)) x0), .cell (.int .i64 r1.2.1), .cell (.int .u64 r1.2.2)])]) rfl rfl ?_
  refine ao_read trivial (r_assign rfl) rfl ?_
  refine ao_nil ?_
  refine aq_then ?_
  refine aw_ret ?_
  refine aq_ret ?_
  obtain rfl := is_some h
  exact aq_finV (l := [.tmp 2]) (xs := [.int .i64 r1.1]) idn [.int .i64 r1.1] [(0, .var [.cell (.v (.slice (.int .u8)) x0), .cell (.int .i64 r1.2.1), .cell (.int .u64 r1.2.2)])] rfl (by exact ⟨rfl, trivial⟩) (by exact ⟨ad_ren rfl, trivial⟩) (by exact ⟨⟨_, rfl, ⟨ad_ren rfl, rfl, ad_ren rfl, rfl, ad_ren rfl, rfl, trivial⟩⟩, trivial⟩) rfl (nk1 rfl rfl) ⟨rfl, rfl⟩
theorem c_spec_l2Sorted {x0 : (List Int)} {r : (List Int)} (h : Is (p_spec_l2Sorted x0) r) :
    Scalar Try.prog 124 [.v (.arr 6 (.int .i64)) x0] (.v (.arr 6 (.int .i64)) r) := by
  unfold p_spec_l2Sorted at h
  refine ac_enter ⟨36, 0⟩ Try.func124 rfl rfl rfl rfl rfl (fun Γ => ?_)
  refine aw_seq ?_
  refine aw_region ?_
  refine ao_eff trivial (e_box 0 rfl rfl rfl rfl rfl rfl) rfl ?_
  refine ao_eff trivial (e_alloc 1 (y := .v (.arr 6 (.int .i64)) ((List.replicate 6 0) : (List Int))) Try.zeroValue65 (fun ρ h M => ra_zero_arr (t := (.int .i64)) rfl) rfl rfl rfl rfl rfl) rfl ?_
  refine ao_nil ?_
  refine aq_then ?_
  refine aw_seq ?_
  refine aw_seq ?_
  refine aw_region ?_
  refine ao_read trivial (r_assign rfl) rfl ?_
  refine ao_nil ?_
  refine aq_then ?_
  refine aw_block ?_
  refine aw_loop (AL.sub (fr' := [(1, .ref 0 0), (2, .ref 1 0), (3, .int .i64 0)]) (H' := [(0, .var [.arr (.int .i64) 6 x0]), (1, .var [.arr (.int .i64) 6 ((List.replicate 6 0) : (List Int))])]) (sub_mk idn (by exact ⟨⟨_, rfl, ad_ren rfl⟩, ⟨_, rfl, ad_ren rfl⟩, ⟨_, rfl, ad_ren rfl⟩, trivial⟩) (by exact ⟨⟨_, rfl, ⟨rfl, trivial⟩⟩, ⟨_, rfl, ⟨rfl, trivial⟩⟩, trivial⟩) (by rfl) (nk rfl)) (al_cnt (fun i2 (s1 : (List Int)) => [(1, .ref 0 0), (2, .ref 1 0), (3, .int .i64 i2)]) (fun i2 (s1 : (List Int)) => [(0, .var [.arr (.int .i64) 6 s1]), (1, .var [.arr (.int .i64) 6 ((List.replicate 6 0) : (List Int))])]) (fun d i2 (s1 : (List Int)) => d = Int.toNat (6 - i2) ∧ 0 ≤ i2 ∧ (s1.length : Int) = (x0.length : Int) ∧ i2 ≤ 6) h ⟨rfl, (by (try simp only [List.length_set, List.length_append, List.length_cons, List.length_nil, List.length_replicate, List.length_take, List.length_drop]) <;> omega), (by (try simp only [List.length_set, List.length_append, List.length_cons, List.length_nil, List.length_replicate, List.length_take, List.length_drop]) <;> omega), (by (try simp only [List.length_set, List.length_append, List.length_cons, List.length_nil, List.length_replicate, List.length_take, List.length_drop]) <;> omega)⟩ (fun d3 i2 s1 hI h ih3 => ?_)))
  obtain ⟨hd, _, _, _⟩ := hI
  refine al_round ?_
  refine aw_seq ?_
  refine aw_seq ?_
  refine aw_region ?_
  refine ao_read trivial (r_move rfl) rfl ?_
  refine ao_read trivial (r_lss rfl rfl) rfl ?_
  refine ao_nil ?_
  refine aq_then ?_
  refine aw_cond rfl (fun hb5 => ?_) (fun hb5 => ?_)
  · have q6 := d_t hb5
    obtain ⟨d3, rfl⟩ : ∃ e, d3 = e + 1 := ⟨d3 - 1, by omega⟩
    replace h := is_cntS h
    refine aw_skip ?_
    refine aq_then ?_
    refine aw_seq ?_
    refine aw_block ?_
    refine aw_seq ?_
    refine aw_region ?_
    refine ao_read trivial (r_assign rfl) rfl ?_
    refine ao_nil ?_
    refine aq_then ?_
    refine aw_block ?_
    refine aw_loop (AL.sub (fr' := [(1, .ref 0 0), (2, .ref 1 0), (3, .int .i64 i2), (4, .int .i64 0)]) (H' := [(0, .var [.arr (.int .i64) 6 s1]), (1, .var [.arr (.int .i64) 6 ((List.replicate 6 0) : (List Int))])]) (sub_mk idn (by exact ⟨⟨_, rfl, ad_ren rfl⟩, ⟨_, rfl, ad_ren rfl⟩, ⟨_, rfl, ad_ren rfl⟩, ⟨_, rfl, ad_ren rfl⟩, trivial⟩) (by exact ⟨⟨_, rfl, ⟨rfl, trivial⟩⟩, ⟨_, rfl, ⟨rfl, trivial⟩⟩, trivial⟩) (by rfl) (nk rfl)) (al_cnt (fun i9 (s8 : (List Int)) => [(1, .ref 0 0), (2, .ref 1 0), (3, .int .i64 i2), (4, .int .i64 i9)]) (fun i9 (s8 : (List Int)) => [(0, .var [.arr (.int .i64) 6 s8]), (1, .var [.arr (.int .i64) 6 ((List.replicate 6 0) : (List Int))])]) (fun d i9 (s8 : (List Int)) => d = Int.toNat (5 - i9) ∧ 0 ≤ i9 ∧ (s8.length : Int) = (x0.length : Int) ∧ i9 ≤ 5) h ⟨rfl, (by (try simp only [List.length_set, List.length_append, List.length_cons, List.length_nil, List.length_replicate, List.length_take, List.length_drop]) <;> omega), (by (try simp only [List.length_set, List.length_append, List.length_cons, List.length_nil, List.length_replicate, List.length_take, List.length_drop]) <;> omega), (by (try simp only [List.length_set, List.length_append, List.length_cons, List.length_nil, List.length_replicate, List.length_take, List.length_drop]) <;> omega)⟩ (fun d10 i9 s8 hI h ih10 => ?_)))
    obtain ⟨hd, _, _, _⟩ := hI
    refine al_round ?_
    refine aw_seq ?_
    refine aw_seq ?_
    refine aw_region ?_
    refine ao_read trivial (r_move rfl) rfl ?_
    refine ao_read trivial (r_lss rfl rfl) rfl ?_
    refine ao_nil ?_
    refine aq_then ?_
    refine aw_cond rfl (fun hb12 => ?_) (fun hb12 => ?_)
    · have q13 := d_t hb12
      obtain ⟨d10, rfl⟩ : ∃ e, d10 = e + 1 := ⟨d10 - 1, by omega⟩
      replace h := is_cntS h
      refine aw_skip ?_
      refine aq_then ?_
      refine aw_seq ?_
      refine aw_block ?_
      refine aw_seq ?_
      refine aw_drawAll (by kernel_rfl) ?_
      refine an_read 0 (by kernel_rfl) (fun _ _ _ h => h) rfl (by kernel_rfl) trivial (r_move rfl) rfl ?_
      refine an_read 1 (by kernel_rfl) (fun _ _ _ h => h) rfl (by kernel_rfl) trivial (r_idxAddr_arr (i := i9) Try.underlying65 Try.sizeOf3 rfl rfl (show 0 ≤ i9 from by omega) (show i9 < (6 : Int) from by omega)) rfl ?_
      refine an_read 2 (by kernel_rfl) (fun _ _ _ h => h) rfl (by kernel_rfl) trivial (r_load_elema_int Try.isAgg3 Try.sizeOf3 rfl rfl rfl (show i9.toNat < 6 from by omega)) rfl ?_
      refine an_read 3 (by kernel_rfl) (fun _ _ _ h => h) rfl (by kernel_rfl) trivial (r_move rfl) rfl ?_
      refine an_read 4 (by kernel_rfl) (fun _ _ _ h => h) rfl (by kernel_rfl) trivial (r_addI rfl rfl (wrap_id (by omega) (by omega))) rfl ?_
      refine an_read 5 (by kernel_rfl) (fun _ _ _ h => h) rfl (by kernel_rfl) trivial (r_idxAddr_arr (i := (i9 + 1)) Try.underlying65 Try.sizeOf3 rfl rfl (show 0 ≤ (i9 + 1) from by omega) (show (i9 + 1) < (6 : Int) from by omega)) rfl ?_
      refine an_read 6 (by kernel_rfl) (fun _ _ _ h => h) rfl (by kernel_rfl) trivial (r_load_elema_int Try.isAgg3 Try.sizeOf3 rfl rfl rfl (show (i9 + 1).toNat < 6 from by omega)) rfl ?_
      refine an_read 7 (by kernel_rfl) (fun _ _ _ h => h) rfl (by kernel_rfl) trivial (r_gtr rfl rfl) rfl ?_
      refine an_done rfl ?_
      refine aq_then ?_
      refine aw_cond rfl (fun hb15 => ?_) (fun hb15 => ?_)
      · have q16 : (s8.getD (i9 + 1).toNat 0) < (s8.getD i9.toNat 0) := d_t hb15
        replace h := is_if (d_t hb15) h
        refine aw_seq ?_
        refine aw_region ?_
        refine ao_read trivial (r_move rfl) rfl ?_
        refine ao_read trivial (r_idxAddr_arr (i := i9) Try.underlying65 Try.sizeOf3 rfl rfl (show 0 ≤ i9 from by omega) (show i9 < (6 : Int) from by omega)) rfl ?_
        refine ao_read trivial (r_load_elema_int Try.isAgg3 Try.sizeOf3 rfl rfl rfl (show i9.toNat < 6 from by omega)) rfl ?_
        refine ao_read trivial (r_assign rfl) rfl ?_
        refine ao_nil ?_
        refine aq_then ?_
        refine aw_seq ?_
        refine aw_region ?_
        refine ao_read trivial (r_move rfl) rfl ?_
        refine ao_read trivial (r_move rfl) rfl ?_
        refine ao_read trivial (r_addI rfl rfl (wrap_id (by omega) (by omega))) rfl ?_
        refine ao_read trivial (r_idxAddr_arr (i := (i9 + 1)) Try.underlying65 Try.sizeOf3 rfl rfl (show 0 ≤ (i9 + 1) from by omega) (show (i9 + 1) < (6 : Int) from by omega)) rfl ?_
        refine ao_read trivial (r_load_elema_int Try.isAgg3 Try.sizeOf3 rfl rfl rfl (show (i9 + 1).toNat < 6 from by omega)) rfl ?_
        refine ao_read trivial (r_idxAddr_arr (i := i9) Try.underlying65 Try.sizeOf3 rfl rfl (show 0 ≤ i9 from by omega) (show i9 < (6 : Int) from by omega)) rfl ?_
        refine ao_effS trivial (e_store_elema_int Try.sizeOf3 rfl rfl rfl rfl (show i9.toNat < 6 from by omega) rfl) ?_
        refine ao_nil ?_
        refine aq_then ?_
        refine aw_region ?_
        refine ao_read trivial (r_move rfl) rfl ?_
        refine ao_read trivial (r_addI rfl rfl (wrap_id (by omega) (by omega))) rfl ?_
        refine ao_read trivial (r_move rfl) rfl ?_
        refine ao_read trivial (r_idxAddr_arr (i := (i9 + 1)) Try.underlying65 Try.sizeOf3 rfl rfl (show 0 ≤ (i9 + 1) from by omega) (show (i9 + 1) < (6 : Int) from by omega)) rfl ?_
        refine ao_effS trivial (e_store_elema_int Try.sizeOf3 rfl rfl rfl rfl (show (i9 + 1).toNat < 6 from by omega) rfl) ?_
        refine ao_nil ?_
        refine aq_in ?_
        refine aq_then ?_
        refine aw_region ?_
        refine ao_read trivial (r_move rfl) rfl ?_
        refine ao_read trivial (r_addI rfl rfl (wrap_id (by omega) (by omega))) rfl ?_
        refine ao_read trivial (r_assign rfl) rfl ?_
        refine ao_nil ?_
        exact aq_again (AL.sub (sub_mk idn (by exact ⟨⟨_, rfl, ad_ren rfl⟩, ⟨_, rfl, ad_ren rfl⟩, ⟨_, rfl, ad_ren rfl⟩, ⟨_, rfl, ad_ren rfl⟩, trivial⟩) (by exact ⟨⟨_, rfl, ⟨rfl, trivial⟩⟩, ⟨_, rfl, ⟨rfl, trivial⟩⟩, trivial⟩) (by rfl) (nk rfl)) (ih10 d10 (i9 + 1) ((s8.set i9.toNat (s8.getD (i9 + 1).toNat 0)).set (i9 + 1).toNat (s8.getD i9.toNat 0)) (by omega) ⟨by omega, (by (try simp only [List.length_set, List.length_append, List.length_cons, List.length_nil, List.length_replicate, List.length_take, List.length_drop]) <;> omega), (by (try simp only [List.length_set, List.length_append, List.length_cons, List.length_nil, List.length_replicate, List.length_take, List.length_drop]) <;> omega), (by (try simp only [List.length_set, List.length_append, List.length_cons, List.length_nil, List.length_replicate, List.length_take, List.length_drop]) <;> omega)⟩ h))
      · have q17 : ¬ ((s8.getD (i9 + 1).toNat 0) < (s8.getD i9.toNat 0)) := d_f hb15
        replace h := is_else (d_f hb15) h
        refine aw_skip ?_
        refine aq_in ?_
        refine aq_then ?_
        refine aw_region ?_
        refine ao_read trivial (r_move rfl) rfl ?_
        refine ao_read trivial (r_addI rfl rfl (wrap_id (by omega) (by omega))) rfl ?_
        refine ao_read trivial (r_assign rfl) rfl ?_
        refine ao_nil ?_
        exact aq_again (AL.sub (sub_mk idn (by exact ⟨⟨_, rfl, ad_ren rfl⟩, ⟨_, rfl, ad_ren rfl⟩, ⟨_, rfl, ad_ren rfl⟩, ⟨_, rfl, ad_ren rfl⟩, trivial⟩) (by exact ⟨⟨_, rfl, ⟨rfl, trivial⟩⟩, ⟨_, rfl, ⟨rfl, trivial⟩⟩, trivial⟩) (by rfl) (nk rfl)) (ih10 d10 (i9 + 1) s8 (by omega) ⟨by omega, (by (try simp only [List.length_set, List.length_append, List.length_cons, List.length_nil, List.length_replicate, List.length_take, List.length_drop]) <;> omega), (by (try simp only [List.length_set, List.length_append, List.length_cons, List.length_nil, List.length_replicate, List.length_take, List.length_drop]) <;> omega), (by (try simp only [List.length_set, List.length_append, List.length_cons, List.length_nil, List.length_replicate, List.length_take, List.length_drop]) <;> omega)⟩ h))
    · have q14 := d_f hb12
      obtain rfl : d10 = 0 := by omega
      replace h := is_cnt0 h
      refine aw_exit ?_
      refine aq_then_exit ?_
      refine aq_then_exit ?_
      refine aq_in_exit ?_
      refine aq_in ?_
      refine aq_then ?_
      refine aw_region ?_
      refine ao_read trivial (r_move rfl) rfl ?_
      refine ao_read trivial (r_addI rfl rfl (wrap_id (by omega) (by omega))) rfl ?_
      refine ao_read trivial (r_assign rfl) rfl ?_
      refine ao_nil ?_
      exact aq_again (AL.sub (sub_mk idn (by exact ⟨⟨_, rfl, ad_ren rfl⟩, ⟨_, rfl, ad_ren rfl⟩, ⟨_, rfl, ad_ren rfl⟩, trivial⟩) (by exact ⟨⟨_, rfl, ⟨rfl, trivial⟩⟩, ⟨_, rfl, ⟨rfl, trivial⟩⟩, trivial⟩) (by rfl) (nk rfl)) (ih3 d3 (i2 + 1) s8 (by omega) ⟨by omega, (by (try simp only [List.length_set, List.length_append, List.length_cons, List.length_nil, List.length_replicate, List.length_take, List.length_drop]) <;> omega), (by (try simp only [List.length_set, List.length_append, List.length_cons, List.length_nil, List.length_replicate, List.length_take, List.length_drop]) <;> omega), (by (try simp only [List.length_set, List.length_append, List.length_cons, List.length_nil, List.length_replicate, List.length_take, List.length_drop]) <;> omega)⟩ h))
  · have q7 := d_f hb5
    obtain rfl : d3 = 0 := by omega
    replace h := is_cnt0 h
    refine aw_exit ?_
    refine aq_then_exit ?_
    refine aq_then_exit ?_
    refine aq_in_exit ?_
    refine aq_then ?_
    refine aw_seq ?_
    refine aw_region ?_
    refine ao_read trivial (r_load_arr rfl Try.isAgg65 Try.sizeOf65 rfl rfl rfl) rfl ?_
    refine ao_effS trivial (e_store rfl rfl rfl rfl Try.sizeOf65 rfl) ?_
    refine ao_nil ?_
    refine aq_then ?_
    refine aw_ret ?_
    refine aq_ret ?_
    obtain rfl := is_eq h
    exact aq_finx (l := [.cell 2 65]) (xs := [.v (.arr 6 (.int .i64)) s1]) idn [.v (.arr 6 (.int .i64)) s1] [] rfl (by exact ⟨⟨⟨_, _, rfl⟩, r_load_arr rfl Try.isAgg65 Try.sizeOf65 rfl rfl rfl⟩, trivial⟩) (by exact ⟨ad_ren rfl, trivial⟩) (by exact trivial) rfl (nk rfl) rfl rfl ⟨rfl, rfl⟩
theorem c_spec_l1Cur_die {x0 : (List Int)} {x1 : Int} {x2 : Int} {r : (List Int) × Int × Int} (h : Is (p_spec_l1Cur_die x0 x1 x2) (some r)) :
    ACallsV Try.prog 119 [.ref 0 0] [(0, .var [.cell (.v (.slice (.int .u8)) x0), .cell (.int .i64 x1), .cell (.int .u64 x2)])] (fun r' H' => r' = .v (.arr 6 (.int .i64)) r.1 ∧ H' = [(0, .var [.cell (.v (.slice (.int .u8)) x0), .cell (.int .i64 r.2.1), .cell (.int .u64 r.2.2)])]) := by
  unfold p_spec_l1Cur_die at h
  refine ac_enterV ⟨59, 1⟩ Try.func119 rfl rfl rfl rfl rfl (fun Γ => ?_)
  refine aw_seq ?_
  refine aw_region ?_
  refine ao_eff trivial (e_alloc 1 (y := .v (.arr 6 (.int .i64)) ((List.replicate 6 0) : (List Int))) Try.zeroValue65 (fun ρ h M => ra_zero_arr (t := (.int .i64)) rfl) rfl rfl rfl rfl rfl) rfl ?_
  refine ao_nil ?_
  refine aq_then ?_
  refine aw_seq ?_
  refine aw_region ?_
  refine ao_read trivial (r_build_arr (l := [(0, .const (.int .i64 1)), (1, .const (.int .i64 2)), (2, .const (.int .i64 3)), (3, .const (.int .i64 4)), (4, .const (.int .i64 5)), (5, .const (.int .i64 6))]) (t := (.int .i64)) ([1, 2, 3, 4, 5, 6] : (List Int)) rfl Try.underlying65 Try.zeroValue65 Try.sizeOf3 rfl rfl rfl rfl) rfl ?_
  refine ao_eff trivial (e_alloc 2 (y := .v (.arr 6 (.int .i64)) ((List.replicate 6 0) : (List Int))) Try.zeroValue65 (fun ρ h M => ra_zero_arr (t := (.int .i64)) rfl) rfl rfl rfl rfl rfl) rfl ?_
  refine ao_effS trivial (e_store rfl rfl rfl rfl Try.sizeOf65 rfl) ?_
  refine ao_nil ?_
  refine aq_then ?_
  refine aw_join (fun (s1 : Int × Int × (List Int)) => [(0, .ref 0 0), (2, .ref 1 0), (3, .ref 2 0)]) (fun (s1 : Int × Int × (List Int)) => [(0, .var [.cell (.v (.slice (.int .u8)) x0), .cell (.int .i64 s1.1), .cell (.int .u64 s1.2.1)]), (1, .var [.arr (.int .i64) 6 ((List.replicate 6 0) : (List Int))]), (2, .var [.arr (.int .i64) 6 s1.2.2])]) (fun (s1 : Int × Int × (List Int)) => (s1.2.2.length : Int) = 6) h (fun s1 hI h => ?_) (fun h j3 => ?_)
  · refine aw_seq ?_
    refine aw_region ?_
    refine ao_read trivial (r_load_arr rfl Try.isAgg65 Try.sizeOf65 rfl rfl rfl) rfl ?_
    refine ao_scall trivial (scall (c_spec_l2Sorted (is_mk (rfl : p_spec_l2Sorted s1.2.2 = _))) rfl Try.func124 rfl rfl rfl rfl (fun σ => ⟨ad_ren rfl, trivial⟩)) rfl ?_
    refine ao_effS trivial (e_store rfl rfl rfl rfl Try.sizeOf65 rfl) ?_
    refine ao_nil ?_
    refine aq_then ?_
    refine aw_seq ?_
    refine aw_seq ?_
    refine aw_region ?_
    refine ao_read trivial (r_move rfl) rfl ?_
    obtain ⟨r4, r4h, h⟩ := is_bind h
    refine ao_callV [0] 3 trivial (c_spec_l1Cur_pick (is_mk r4h)) Try.func60 rfl rfl rfl rfl rfl ⟨rfl, trivial⟩ ⟨⟨_, rfl, ⟨ad_ren rfl, rfl, ad_ren rfl, rfl, ad_ren rfl, rfl, trivial⟩⟩, trivial⟩ rfl rfl rfl rfl rfl rfl rfl (fun r' H' hr => ?_)
    obtain ⟨rfl, rfl⟩ := hr
    refine ao_norm (y := .int .i64 r4.1) (H' := [(1, .var [.arr (.int .i64) 6 ((List.replicate 6 0) : (List Int))]), (2, .var [.arr (.int .i64) 6 ((p_spec_l2Sorted s1.2.2) : (List Int))]), (0, .var [.cell (.v (.slice (.int .u8)) x0), .cell (.int .i64 r4.2.1), .cell (.int .u64 r4.2.2)])]) rfl rfl ?_
    refine ao_nil ?_
    refine aq_then ?_
    refine aw_block ?_
    refine aw_seq ?_
    refine aw_region ?_
    refine ao_read trivial (r_eql rfl rfl) rfl ?_
    refine ao_read trivial (r_assign rfl) rfl ?_
    refine ao_nil ?_
    refine aq_then ?_
    refine aw_cond rfl (fun hb5 => ?_) (fun hb5 => ?_)
    · have q6 := d_t hb5
      replace h := is_if (d_t hb5) h
      refine aw_region ?_
      refine ao_read trivial (r_move rfl) rfl ?_
      obtain ⟨r8, r8h, h⟩ := is_bind h
      refine ao_callV [0] 3 trivial (c_spec_l1Cur_pick (is_mk r8h)) Try.func60 rfl rfl rfl rfl rfl ⟨rfl, trivial⟩ ⟨⟨_, rfl, ⟨ad_ren rfl, rfl, ad_ren rfl, rfl, ad_ren rfl, rfl, trivial⟩⟩, trivial⟩ rfl rfl rfl rfl rfl rfl rfl (fun r' H' hr => ?_)
      obtain ⟨rfl, rfl⟩ := hr
      refine ao_norm (y := .int .i64 r8.1) (H' := [(1, .var [.arr (.int .i64) 6 ((List.replicate 6 0) : (List Int))]), (2, .var [.arr (.int .i64) 6 ((p_spec_l2Sorted s1.2.2) : (List Int))]), (0, .var [.cell (.v (.slice (.int .u8)) x0), .cell (.int .i64 r8.2.1), .cell (.int .u64 r8.2.2)])]) rfl rfl ?_
      refine ao_read trivial (r_move rfl) rfl ?_
      refine ao_eff trivial (e_buildSlice (l := [(0, .const (.int .i64 (-1))), (1, .const (.int .i64 31)), (2, .const (.int .i64 0)), (3, .const (.int .i64 4611686018427387904))]) (t := (.int .i64)) 3 ([(-1), 31, 0, 4611686018427387904] : (List Int)) rfl Try.underlying26 Try.zeroValue3 Try.sizeOf3 rfl rfl rfl rfl rfl rfl rfl) rfl ?_
      obtain ⟨r9, r9h, h⟩ := is_bind h
      refine ao_frz (fr' := [(0, .ref 0 0), (2, .ref 1 0), (3, .ref 2 0), (43, .v (.arr 6 (.int .i64)) s1.2.2), (44, .v (.arr 6 (.int .i64)) ((p_spec_l2Sorted s1.2.2) : (List Int))), (45, .ref 0 0), (46, .int .i64 r4.1), (48, .bool (decide (r4.1 = 0))), (47, .bool (decide (r4.1 = 0))), (49, .ref 0 0), (50, .int .i64 r8.1), (51, .ref 0 0), (52, .v (.slice (.int .i64)) ([(-1), 31, 0, 4611686018427387904] : (List Int)))]) (H' := [(1, .var [.arr (.int .i64) 6 ((List.replicate 6 0) : (List Int))]), (2, .var [.arr (.int .i64) 6 ((p_spec_l2Sorted s1.2.2) : (List Int))]), (0, .var [.cell (.v (.slice (.int .u8)) x0), .cell (.int .i64 r8.2.1), .cell (.int .u64 r8.2.2)])]) (by exact ⟨⟨_, rfl, ad_ren rfl⟩, ⟨_, rfl, ad_ren rfl⟩, ⟨_, rfl, ad_ren rfl⟩, ⟨_, rfl, ad_ren rfl⟩, ⟨_, rfl, ad_ren rfl⟩, ⟨_, rfl, ad_ren rfl⟩, ⟨_, rfl, ad_ren rfl⟩, ⟨_, rfl, ad_ren rfl⟩, ⟨_, rfl, ad_ren rfl⟩, ⟨_, rfl, ad_ren rfl⟩, ⟨_, rfl, ad_ren rfl⟩, ⟨_, rfl, ad_ren rfl⟩, ⟨_, rfl, ad_osB rfl rfl⟩, trivial⟩) (by exact ⟨⟨_, rfl, ⟨rfl, trivial⟩⟩, ⟨_, rfl, ⟨rfl, trivial⟩⟩, ⟨_, rfl, ⟨ad_ren rfl, rfl, ad_ren rfl, rfl, ad_ren rfl, rfl, trivial⟩⟩, trivial⟩) rfl ?_
      refine ao_callV [0] 4 trivial (c_spec_l1Cur_among (is_mk r9h)) Try.func61 rfl rfl rfl rfl rfl ⟨rfl, trivial⟩ ⟨⟨_, rfl, ⟨ad_ren rfl, rfl, ad_ren rfl, rfl, ad_ren rfl, rfl, trivial⟩⟩, trivial⟩ rfl rfl rfl rfl rfl rfl rfl (fun r' H' hr => ?_)
      obtain ⟨rfl, rfl⟩ := hr
      refine ao_norm (y := .int .i64 r9.1) (H' := [(1, .var [.arr (.int .i64) 6 ((List.replicate 6 0) : (List Int))]), (2, .var [.arr (.int .i64) 6 ((p_spec_l2Sorted s1.2.2) : (List Int))]), (0, .var [.cell (.v (.slice (.int .u8)) x0), .cell (.int .i64 r9.2.1), .cell (.int .u64 r9.2.2)])]) rfl rfl ?_
      obtain ⟨g10, h⟩ := is_guard h
      obtain ⟨g11, h⟩ := is_guard h
      refine ao_read trivial (r_idxAddr_arr (i := r8.1) Try.underlying65 Try.sizeOf3 rfl rfl (show 0 ≤ r8.1 from by omega) (show r8.1 < (6 : Int) from by omega)) rfl ?_
      refine ao_effS trivial (e_store_elema_int Try.sizeOf3 rfl rfl rfl rfl (show r8.1.toNat < 6 from by omega) rfl) ?_
      refine ao_nil ?_
      refine aq_in ?_
      refine aq_then ?_
      refine aw_seq ?_
      refine aw_region ?_
      refine ao_read trivial (r_load_arr rfl Try.isAgg65 Try.sizeOf65 rfl rfl rfl) rfl ?_
      refine ao_effS trivial (e_store rfl rfl rfl rfl Try.sizeOf65 rfl) ?_
      refine ao_nil ?_
      refine aq_then ?_
      refine aw_ret ?_
      refine aq_ret ?_
      obtain rfl := is_some h
      exact aq_finV (l := [.cell 2 65]) (xs := [.v (.arr 6 (.int .i64)) (((p_spec_l2Sorted s1.2.2).set r8.1.toNat r9.1) : (List Int))]) idn [.v (.arr 6 (.int .i64)) (((p_spec_l2Sorted s1.2.2).set r8.1.toNat r9.1) : (List Int))] [(0, .var [.cell (.v (.slice (.int .u8)) x0), .cell (.int .i64 r9.2.1), .cell (.int .u64 r9.2.2)])] rfl (by exact ⟨⟨⟨_, _, rfl⟩, r_load_arr rfl Try.isAgg65 Try.sizeOf65 rfl rfl rfl⟩, trivial⟩) (by exact ⟨ad_ren rfl, trivial⟩) (by exact ⟨⟨_, rfl, ⟨ad_ren rfl, rfl, ad_ren rfl, rfl, ad_ren rfl, rfl, trivial⟩⟩, trivial⟩) rfl (nk1 rfl rfl) ⟨rfl, rfl⟩
    · have q7 := d_f hb5
      replace h := is_else (d_f hb5) h
      refine aw_seq ?_
      refine aw_region ?_
      refine ao_read trivial (r_eql rfl rfl) rfl ?_
      refine ao_read trivial (r_assign rfl) rfl ?_
      refine ao_nil ?_
      refine aq_then ?_
      refine aw_cond rfl (fun hb12 => ?_) (fun hb12 => ?_)
      · have q13 := d_t hb12
        replace h := is_if (d_t hb12) h
        refine aw_region ?_
        refine ao_read trivial (r_idxAddr_arr (i := 0) Try.underlying65 Try.sizeOf3 rfl rfl (show 0 ≤ 0 from by omega) (show 0 < (6 : Int) from by omega)) rfl ?_
        refine ao_effS trivial (e_store_elema_int Try.sizeOf3 rfl rfl rfl rfl (show 0 < 6 from by omega) rfl) ?_
        refine ao_nil ?_
        refine aq_in ?_
        refine aq_then ?_
        refine aw_seq ?_
        refine aw_region ?_
        refine ao_read trivial (r_load_arr rfl Try.isAgg65 Try.sizeOf65 rfl rfl rfl) rfl ?_
        refine ao_effS trivial (e_store rfl rfl rfl rfl Try.sizeOf65 rfl) ?_
        refine ao_nil ?_
        refine aq_then ?_
        refine aw_ret ?_
        refine aq_ret ?_
        obtain rfl := is_some h
        exact aq_finV (l := [.cell 2 65]) (xs := [.v (.arr 6 (.int .i64)) (((p_spec_l2Sorted s1.2.2).set 0 30) : (List Int))]) idn [.v (.arr 6 (.int .i64)) (((p_spec_l2Sorted s1.2.2).set 0 30) : (List Int))] [(0, .var [.cell (.v (.slice (.int .u8)) x0), .cell (.int .i64 r4.2.1), .cell (.int .u64 r4.2.2)])] rfl (by exact ⟨⟨⟨_, _, rfl⟩, r_load_arr rfl Try.isAgg65 Try.sizeOf65 rfl rfl rfl⟩, trivial⟩) (by exact ⟨ad_ren rfl, trivial⟩) (by exact ⟨⟨_, rfl, ⟨ad_ren rfl, rfl, ad_ren rfl, rfl, ad_ren rfl, rfl, trivial⟩⟩, trivial⟩) rfl (nk1 rfl rfl) ⟨rfl, rfl⟩
      · have q14 := d_f hb12
        replace h := is_else (d_f hb12) h
        refine aw_skip ?_
        refine aq_in ?_
        refine aq_then ?_
        refine aw_seq ?_
        refine aw_region ?_
        refine ao_read trivial (r_load_arr rfl Try.isAgg65 Try.sizeOf65 rfl rfl rfl) rfl ?_
        refine ao_effS trivial (e_store rfl rfl rfl rfl Try.sizeOf65 rfl) ?_
        refine ao_nil ?_
        refine aq_then ?_
        refine aw_ret ?_
        refine aq_ret ?_
        obtain rfl := is_some h
        exact aq_finV (l := [.cell 2 65]) (xs := [.v (.arr 6 (.int .i64)) ((p_spec_l2Sorted s1.2.2) : (List Int))]) idn [.v (.arr 6 (.int .i64)) ((p_spec_l2Sorted s1.2.2) : (List Int))] [(0, .var [.cell (.v (.slice (.int .u8)) x0), .cell (.int .i64 r4.2.1), .cell (.int .u64 r4.2.2)])] rfl (by exact ⟨⟨⟨_, _, rfl⟩, r_load_arr rfl Try.isAgg65 Try.sizeOf65 rfl rfl rfl⟩, trivial⟩) (by exact ⟨ad_ren rfl, trivial⟩) (by exact ⟨⟨_, rfl, ⟨ad_ren rfl, rfl, ad_ren rfl, rfl, ad_ren rfl, rfl, trivial⟩⟩, trivial⟩) rfl (nk1 rfl rfl) ⟨rfl, rfl⟩
  · refine aw_seq ?_
    refine aw_region ?_
    refine ao_read trivial (r_move rfl) rfl ?_
    obtain ⟨r15, r15h, h⟩ := is_bind h
    refine ao_callV [0] 3 trivial (c_spec_l1Cur_pick (is_mk r15h)) Try.func60 rfl rfl rfl rfl rfl ⟨rfl, trivial⟩ ⟨⟨_, rfl, ⟨ad_ren rfl, rfl, ad_ren rfl, rfl, ad_ren rfl, rfl, trivial⟩⟩, trivial⟩ rfl rfl rfl rfl rfl rfl rfl (fun r' H' hr => ?_)
    obtain ⟨rfl, rfl⟩ := hr
    refine ao_norm (y := .int .i64 r15.1) (H' := [(2, .var [.arr (.int .i64) 6 ([1, 2, 3, 4, 5, 6] : (List Int))]), (1, .var [.arr (.int .i64) 6 ((List.replicate 6 0) : (List Int))]), (0, .var [.cell (.v (.slice (.int .u8)) x0), .cell (.int .i64 r15.2.1), .cell (.int .u64 r15.2.2)])]) rfl rfl ?_
    refine ao_nil ?_
    refine aq_then ?_
    refine aw_block ?_
    refine aw_seq ?_
    refine aw_region ?_
    refine ao_read trivial (r_eql rfl rfl) rfl ?_
    refine ao_read trivial (r_assign rfl) rfl ?_
    refine ao_nil ?_
    refine aq_then ?_
    refine aw_cond rfl (fun hb16 => ?_) (fun hb16 => ?_)
    · have q17 := d_t hb16
      replace h := is_if (d_t hb16) h
      refine aw_seq ?_
      refine aw_region ?_
      refine ao_read trivial (r_load_arr rfl Try.isAgg65 Try.sizeOf65 rfl rfl rfl) rfl ?_
      refine ao_effS trivial (e_store rfl rfl rfl rfl Try.sizeOf65 rfl) ?_
      refine ao_nil ?_
      refine aq_then ?_
      refine aw_ret ?_
      refine aq_in_ret ?_
      refine aq_then_ret ?_
      refine aq_ret ?_
      obtain rfl := is_some h
      exact aq_finV (l := [.cell 2 65]) (xs := [.v (.arr 6 (.int .i64)) ([1, 2, 3, 4, 5, 6] : (List Int))]) idn [.v (.arr 6 (.int .i64)) ([1, 2, 3, 4, 5, 6] : (List Int))] [(0, .var [.cell (.v (.slice (.int .u8)) x0), .cell (.int .i64 r15.2.1), .cell (.int .u64 r15.2.2)])] rfl (by exact ⟨⟨⟨_, _, rfl⟩, r_load_arr rfl Try.isAgg65 Try.sizeOf65 rfl rfl rfl⟩, trivial⟩) (by exact ⟨ad_ren rfl, trivial⟩) (by exact ⟨⟨_, rfl, ⟨ad_ren rfl, rfl, ad_ren rfl, rfl, ad_ren rfl, rfl, trivial⟩⟩, trivial⟩) rfl (nk1 rfl rfl) ⟨rfl, rfl⟩
    · have q18 := d_f hb16
      replace h := is_else (d_f hb16) h
      refine aw_seq ?_
      refine aw_region ?_
      refine ao_read trivial (r_eql rfl rfl) rfl ?_
      refine ao_read trivial (r_assign rfl) rfl ?_
      refine ao_nil ?_
      refine aq_then ?_
      refine aw_cond rfl (fun hb19 => ?_) (fun hb19 => ?_)
      · have q20 := d_t hb19
        replace h := is_if (d_t hb19) h
        refine aw_region ?_
        refine ao_read trivial (r_build_arr (l := [(0, .const (.int .i64 1)), (1, .const (.int .i64 2)), (2, .const (.int .i64 2)), (3, .const (.int .i64 3)), (4, .const (.int .i64 3)), (5, .const (.int .i64 4))]) (t := (.int .i64)) ([1, 2, 2, 3, 3, 4] : (List Int)) rfl Try.underlying65 Try.zeroValue65 Try.sizeOf3 rfl rfl rfl rfl) rfl ?_
        refine ao_effS trivial (e_store rfl rfl rfl rfl Try.sizeOf65 rfl) ?_
        refine ao_nil ?_
        refine aq_in ?_
        exact aq_then (AW.sub (sub_mk idn (by exact ⟨⟨_, rfl, ad_ren rfl⟩, ⟨_, rfl, ad_ren rfl⟩, ⟨_, rfl, ad_ren rfl⟩, trivial⟩) (by exact ⟨⟨_, rfl, ⟨ad_ren rfl, rfl, ad_ren rfl, rfl, ad_ren rfl, rfl, trivial⟩⟩, ⟨_, rfl, ⟨rfl, trivial⟩⟩, ⟨_, rfl, ⟨rfl, trivial⟩⟩, trivial⟩) (by rfl) (nk1 rfl rfl)) (j3 (r15.2.1, r15.2.2, [1, 2, 2, 3, 3, 4]) (by (try simp only [List.length_set, List.length_append, List.length_cons, List.length_nil, List.length_replicate, List.length_take, List.length_drop]) <;> omega) h))
      · have q21 := d_f hb19
        replace h := is_else (d_f hb19) h
        refine aw_seq ?_
        refine aw_region ?_
        refine ao_read trivial (r_eql rfl rfl) rfl ?_
        refine ao_read trivial (r_assign rfl) rfl ?_
        refine ao_nil ?_
        refine aq_then ?_
        refine aw_cond rfl (fun hb22 => ?_) (fun hb22 => ?_)
        · have q23 := d_t hb22
          replace h := is_if (d_t hb22) h
          refine aw_seq ?_
          refine aw_region ?_
          refine ao_read trivial (r_move rfl) rfl ?_
          obtain ⟨r25, r25h, h⟩ := is_bind h
          refine ao_callV [0] 3 trivial (c_spec_l1Cur_face (is_mk r25h)) Try.func123 rfl rfl rfl rfl rfl ⟨rfl, trivial⟩ ⟨⟨_, rfl, ⟨ad_ren rfl, rfl, ad_ren rfl, rfl, ad_ren rfl, rfl, trivial⟩⟩, trivial⟩ rfl rfl rfl rfl rfl rfl rfl (fun r' H' hr => ?_)
          obtain ⟨rfl, rfl⟩ := hr
          refine ao_norm (y := .int .i64 r25.1) (H' := [(2, .var [.arr (.int .i64) 6 ([1, 2, 3, 4, 5, 6] : (List Int))]), (1, .var [.arr (.int .i64) 6 ((List.replicate 6 0) : (List Int))]), (0, .var [.cell (.v (.slice (.int .u8)) x0), .cell (.int .i64 r25.2.1), .cell (.int .u64 r25.2.2)])]) rfl rfl ?_
          refine ao_read trivial (r_move rfl) rfl ?_
          obtain ⟨r26, r26h, h⟩ := is_bind h
          refine ao_callV [0] 3 trivial (c_spec_l1Cur_face (is_mk r26h)) Try.func123 rfl rfl rfl rfl rfl ⟨rfl, trivial⟩ ⟨⟨_, rfl, ⟨ad_ren rfl, rfl, ad_ren rfl, rfl, ad_ren rfl, rfl, trivial⟩⟩, trivial⟩ rfl rfl rfl rfl rfl rfl rfl (fun r' H' hr => ?_)
          obtain ⟨rfl, rfl⟩ := hr
          refine ao_norm (y := .int .i64 r26.1) (H' := [(2, .var [.arr (.int .i64) 6 ([1, 2, 3, 4, 5, 6] : (List Int))]), (1, .var [.arr (.int .i64) 6 ((List.replicate 6 0) : (List Int))]), (0, .var [.cell (.v (.slice (.int .u8)) x0), .cell (.int .i64 r26.2.1), .cell (.int .u64 r26.2.2)])]) rfl rfl ?_
          refine ao_read trivial (r_assign rfl) rfl ?_
          refine ao_read trivial (r_assign rfl) rfl ?_
          refine ao_nil ?_
          refine aq_then ?_
          refine aw_seq ?_
          refine aw_region ?_
          refine ao_read trivial (r_assign rfl) rfl ?_
          refine ao_nil ?_
          refine aq_then ?_
          refine aw_block ?_
          refine aw_loop (AL.sub (fr' := [(0, .ref 0 0), (2, .ref 1 0), (3, .ref 2 0), (4, .int .i64 r25.1), (5, .int .i64 r26.1), (6, .int .i64 0)]) (H' := [(0, .var [.cell (.v (.slice (.int .u8)) x0), .cell (.int .i64 r26.2.1), .cell (.int .u64 r26.2.2)]), (1, .var [.arr (.int .i64) 6 ((List.replicate 6 0) : (List Int))]), (2, .var [.arr (.int .i64) 6 ([1, 2, 3, 4, 5, 6] : (List Int))])]) (sub_mk idn (by exact ⟨⟨_, rfl, ad_ren rfl⟩, ⟨_, rfl, ad_ren rfl⟩, ⟨_, rfl, ad_ren rfl⟩, ⟨_, rfl, ad_ren rfl⟩, ⟨_, rfl, ad_ren rfl⟩, ⟨_, rfl, ad_ren rfl⟩, trivial⟩) (by exact ⟨⟨_, rfl, ⟨ad_ren rfl, rfl, ad_ren rfl, rfl, ad_ren rfl, rfl, trivial⟩⟩, ⟨_, rfl, ⟨rfl, trivial⟩⟩, ⟨_, rfl, ⟨rfl, trivial⟩⟩, trivial⟩) (by rfl) (nk1 rfl rfl)) (al_cnt (fun i28 (s27 : Int × Int × (List Int)) => [(0, .ref 0 0), (2, .ref 1 0), (3, .ref 2 0), (4, .int .i64 r25.1), (5, .int .i64 r26.1), (6, .int .i64 i28)]) (fun i28 (s27 : Int × Int × (List Int)) => [(0, .var [.cell (.v (.slice (.int .u8)) x0), .cell (.int .i64 s27.1), .cell (.int .u64 s27.2.1)]), (1, .var [.arr (.int .i64) 6 ((List.replicate 6 0) : (List Int))]), (2, .var [.arr (.int .i64) 6 s27.2.2])]) (fun d i28 (s27 : Int × Int × (List Int)) => d = Int.toNat (6 - i28) ∧ 0 ≤ i28 ∧ (s27.2.2.length : Int) = 6 ∧ i28 ≤ 6) h ⟨rfl, (by (try simp only [List.length_set, List.length_append, List.length_cons, List.length_nil, List.length_replicate, List.length_take, List.length_drop]) <;> omega), (by (try simp only [List.length_set, List.length_append, List.length_cons, List.length_nil, List.length_replicate, List.length_take, List.length_drop]) <;> omega), (by (try simp only [List.length_set, List.length_append, List.length_cons, List.length_nil, List.length_replicate, List.length_take, List.length_drop]) <;> omega)⟩ (fun d29 i28 s27 hI h ih29 => ?_)))
          obtain ⟨hd, _, _, _⟩ := hI
          refine al_round ?_
          refine aw_seq ?_
          refine aw_seq ?_
          refine aw_region ?_
          refine ao_read trivial (r_move rfl) rfl ?_
          refine ao_read trivial (r_lss rfl rfl) rfl ?_
          refine ao_nil ?_
          refine aq_then ?_
          refine aw_cond rfl (fun hb31 => ?_) (fun hb31 => ?_)
          · have q32 := d_t hb31
            obtain ⟨d29, rfl⟩ : ∃ e, d29 = e + 1 := ⟨d29 - 1, by omega⟩
            replace h := is_cntS h
            refine aw_skip ?_
            refine aq_then ?_
            refine aw_seq ?_
            refine aw_block ?_
            refine aw_seq ?_
            refine aw_region ?_
            refine ao_read trivial (r_move rfl) rfl ?_
            refine ao_read trivial (r_move rfl) rfl ?_
            refine ao_read trivial (r_idxAddr_arr (i := i28) Try.underlying65 Try.sizeOf3 rfl rfl (show 0 ≤ i28 from by omega) (show i28 < (6 : Int) from by omega)) rfl ?_
            refine ao_effS trivial (e_store_elema_int Try.sizeOf3 rfl rfl rfl rfl (show i28.toNat < 6 from by omega) rfl) ?_
            refine ao_nil ?_
            refine aq_then ?_
            refine aw_seq ?_
            refine aw_region ?_
            refine ao_read trivial (r_move rfl) rfl ?_
            obtain ⟨r34, r34h, h⟩ := is_bind h
            refine ao_callV [0] 3 trivial (c_spec_l1Cur_one (is_mk r34h)) Try.func48 rfl rfl rfl rfl rfl ⟨rfl, trivial⟩ ⟨⟨_, rfl, ⟨ad_ren rfl, rfl, ad_ren rfl, rfl, ad_ren rfl, rfl, trivial⟩⟩, trivial⟩ rfl rfl rfl rfl rfl rfl rfl (fun r' H' hr => ?_)
            obtain ⟨rfl, rfl⟩ := hr
            refine ao_norm (y := .bool r34.1) (H' := [(1, .var [.arr (.int .i64) 6 ((List.replicate 6 0) : (List Int))]), (2, .var [.arr (.int .i64) 6 ((s27.2.2.set i28.toNat r25.1) : (List Int))]), (0, .var [.cell (.v (.slice (.int .u8)) x0), .cell (.int .i64 r34.2.1), .cell (.int .u64 r34.2.2)])]) rfl rfl ?_
            refine ao_nil ?_
            refine aq_then ?_
            refine aw_cond rfl (fun hb35 => ?_) (fun hb35 => ?_)
            · replace h := is_if hb35 h
              refine aw_region ?_
              refine ao_read trivial (r_move rfl) rfl ?_
              refine ao_read trivial (r_move rfl) rfl ?_
              refine ao_read trivial (r_idxAddr_arr (i := i28) Try.underlying65 Try.sizeOf3 rfl rfl (show 0 ≤ i28 from by omega) (show i28 < (6 : Int) from by omega)) rfl ?_
              refine ao_effS trivial (e_store_elema_int Try.sizeOf3 rfl rfl rfl rfl (show i28.toNat < 6 from by omega) rfl) ?_
              refine ao_nil ?_
              refine aq_in ?_
              refine aq_then ?_
              refine aw_region ?_
              refine ao_read trivial (r_move rfl) rfl ?_
              refine ao_read trivial (r_addI rfl rfl (wrap_id (by omega) (by omega))) rfl ?_
              refine ao_read trivial (r_assign rfl) rfl ?_
              refine ao_nil ?_
              exact aq_again (AL.sub (sub_mk idn (by exact ⟨⟨_, rfl, ad_ren rfl⟩, ⟨_, rfl, ad_ren rfl⟩, ⟨_, rfl, ad_ren rfl⟩, ⟨_, rfl, ad_ren rfl⟩, ⟨_, rfl, ad_ren rfl⟩, ⟨_, rfl, ad_ren rfl⟩, trivial⟩) (by exact ⟨⟨_, rfl, ⟨ad_ren rfl, rfl, ad_ren rfl, rfl, ad_ren rfl, rfl, trivial⟩⟩, ⟨_, rfl, ⟨rfl, trivial⟩⟩, ⟨_, rfl, ⟨rfl, trivial⟩⟩, trivial⟩) (by rfl) (nk1 rfl rfl)) (ih29 d29 (i28 + 1) (r34.2.1, r34.2.2, ((s27.2.2.set i28.toNat r25.1).set i28.toNat r26.1)) (by omega) ⟨by omega, (by (try simp only [List.length_set, List.length_append, List.length_cons, List.length_nil, List.length_replicate, List.length_take, List.length_drop]) <;> omega), (by (try simp only [List.length_set, List.length_append, List.length_cons, List.length_nil, List.length_replicate, List.length_take, List.length_drop]) <;> omega), (by (try simp only [List.length_set, List.length_append, List.length_cons, List.length_nil, List.length_replicate, List.length_take, List.length_drop]) <;> omega)⟩ h))
            · replace h := is_else (ne_t hb35) h
              refine aw_skip ?_
              refine aq_in ?_
              refine aq_then ?_
              refine aw_region ?_
              refine ao_read trivial (r_move rfl) rfl ?_
              refine ao_read trivial (r_addI rfl rfl (wrap_id (by omega) (by omega))) rfl ?_
              refine ao_read trivial (r_assign rfl) rfl ?_
              refine ao_nil ?_
              exact aq_again (AL.sub (sub_mk idn (by exact ⟨⟨_, rfl, ad_ren rfl⟩, ⟨_, rfl, ad_ren rfl⟩, ⟨_, rfl, ad_ren rfl⟩, ⟨_, rfl, ad_ren rfl⟩, ⟨_, rfl, ad_ren rfl⟩, ⟨_, rfl, ad_ren rfl⟩, trivial⟩) (by exact ⟨⟨_, rfl, ⟨ad_ren rfl, rfl, ad_ren rfl, rfl, ad_ren rfl, rfl, trivial⟩⟩, ⟨_, rfl, ⟨rfl, trivial⟩⟩, ⟨_, rfl, ⟨rfl, trivial⟩⟩, trivial⟩) (by rfl) (nk1 rfl rfl)) (ih29 d29 (i28 + 1) (r34.2.1, r34.2.2, (s27.2.2.set i28.toNat r25.1)) (by omega) ⟨by omega, (by (try simp only [List.length_set, List.length_append, List.length_cons, List.length_nil, List.length_replicate, List.length_take, List.length_drop]) <;> omega), (by (try simp only [List.length_set, List.length_append, List.length_cons, List.length_nil, List.length_replicate, List.length_take, List.length_drop]) <;> omega), (by (try simp only [List.length_set, List.length_append, List.length_cons, List.length_nil, List.length_replicate, List.length_take, List.length_drop]) <;> omega)⟩ h))
          · have q33 := d_f hb31
            obtain rfl : d29 = 0 := by omega
            replace h := is_cnt0 h
            refine aw_exit ?_
            refine aq_then_exit ?_
            refine aq_then_exit ?_
            refine aq_in_exit ?_
            refine aq_in ?_
            exact aq_then (AW.sub (sub_mk idn (by exact ⟨⟨_, rfl, ad_ren rfl⟩, ⟨_, rfl, ad_ren rfl⟩, ⟨_, rfl, ad_ren rfl⟩, trivial⟩) (by exact ⟨⟨_, rfl, ⟨ad_ren rfl, rfl, ad_ren rfl, rfl, ad_ren rfl, rfl, trivial⟩⟩, ⟨_, rfl, ⟨rfl, trivial⟩⟩, ⟨_, rfl, ⟨rfl, trivial⟩⟩, trivial⟩) (by rfl) (nk1 rfl rfl)) (j3 (s27.1, s27.2.1, s27.2.2) (by (try simp only [List.length_set, List.length_append, List.length_cons, List.length_nil, List.length_replicate, List.length_take, List.length_drop]) <;> omega) h))
        · have q24 := d_f hb22
          replace h := is_else (d_f hb22) h
          refine aw_seq ?_
          refine aw_region ?_
          refine ao_read trivial (r_assign rfl) rfl ?_
          refine ao_nil ?_
          refine aq_then ?_
          refine aw_block ?_
          refine aw_loop (AL.sub (fr' := [(0, .ref 0 0), (2, .ref 1 0), (3, .ref 2 0), (7, .int .i64 0)]) (H' := [(0, .var [.cell (.v (.slice (.int .u8)) x0), .cell (.int .i64 r15.2.1), .cell (.int .u64 r15.2.2)]), (1, .var [.arr (.int .i64) 6 ((List.replicate 6 0) : (List Int))]), (2, .var [.arr (.int .i64) 6 ([1, 2, 3, 4, 5, 6] : (List Int))])]) (sub_mk idn (by exact ⟨⟨_, rfl, ad_ren rfl⟩, ⟨_, rfl, ad_ren rfl⟩, ⟨_, rfl, ad_ren rfl⟩, ⟨_, rfl, ad_ren rfl⟩, trivial⟩) (by exact ⟨⟨_, rfl, ⟨ad_ren rfl, rfl, ad_ren rfl, rfl, ad_ren rfl, rfl, trivial⟩⟩, ⟨_, rfl, ⟨rfl, trivial⟩⟩, ⟨_, rfl, ⟨rfl, trivial⟩⟩, trivial⟩) (by rfl) (nk1 rfl rfl)) (al_cnt (fun i37 (s36 : Int × Int × (List Int)) => [(0, .ref 0 0), (2, .ref 1 0), (3, .ref 2 0), (7, .int .i64 i37)]) (fun i37 (s36 : Int × Int × (List Int)) => [(0, .var [.cell (.v (.slice (.int .u8)) x0), .cell (.int .i64 s36.1), .cell (.int .u64 s36.2.1)]), (1, .var [.arr (.int .i64) 6 ((List.replicate 6 0) : (List Int))]), (2, .var [.arr (.int .i64) 6 s36.2.2])]) (fun d i37 (s36 : Int × Int × (List Int)) => d = Int.toNat (6 - i37) ∧ 0 ≤ i37 ∧ (s36.2.2.length : Int) = 6 ∧ i37 ≤ 6) h ⟨rfl, (by (try simp only [List.length_set, List.length_append, List.length_cons, List.length_nil, List.length_replicate, List.length_take, List.length_drop]) <;> omega), (by (try simp only [List.length_set, List.length_append, List.length_cons, List.length_nil, List.length_replicate, List.length_take, List.length_drop]) <;> omega), (by (try simp only [List.length_set, List.length_append, List.length_cons, List.length_nil, List.length_replicate, List.length_take, List.length_drop]) <;> omega)⟩ (fun d38 i37 s36 hI h ih38 => ?_)))
          obtain ⟨hd, _, _, _⟩ := hI
          refine al_round ?_
          refine aw_seq ?_
          refine aw_seq ?_
          refine aw_region ?_
          refine ao_read trivial (r_move rfl) rfl ?_
          refine ao_read trivial (r_lss rfl rfl) rfl ?_
          refine ao_nil ?_
          refine aq_then ?_
          refine aw_cond rfl (fun hb40 => ?_) (fun hb40 => ?_)
          · have q41 := d_t hb40
            obtain ⟨d38, rfl⟩ : ∃ e, d38 = e + 1 := ⟨d38 - 1, by omega⟩
            replace h := is_cntS h
            refine aw_skip ?_
            refine aq_then ?_
            refine aw_seq ?_
            refine aw_block ?_
            refine aw_region ?_
            refine ao_read trivial (r_move rfl) rfl ?_
            refine ao_read trivial (r_move rfl) rfl ?_
            obtain ⟨r43, r43h, h⟩ := is_bind h
            refine ao_callV [0] 3 trivial (c_spec_l1Cur_face (is_mk r43h)) Try.func123 rfl rfl rfl rfl rfl ⟨rfl, trivial⟩ ⟨⟨_, rfl, ⟨ad_ren rfl, rfl, ad_ren rfl, rfl, ad_ren rfl, rfl, trivial⟩⟩, trivial⟩ rfl rfl rfl rfl rfl rfl rfl (fun r' H' hr => ?_)
            obtain ⟨rfl, rfl⟩ := hr
            refine ao_norm (y := .int .i64 r43.1) (H' := [(1, .var [.arr (.int .i64) 6 ((List.replicate 6 0) : (List Int))]), (2, .var [.arr (.int .i64) 6 s36.2.2]), (0, .var [.cell (.v (.slice (.int .u8)) x0), .cell (.int .i64 r43.2.1), .cell (.int .u64 r43.2.2)])]) rfl rfl ?_
            refine ao_read trivial (r_idxAddr_arr (i := i37) Try.underlying65 Try.sizeOf3 rfl rfl (show 0 ≤ i37 from by omega) (show i37 < (6 : Int) from by omega)) rfl ?_
            refine ao_effS trivial (e_store_elema_int Try.sizeOf3 rfl rfl rfl rfl (show i37.toNat < 6 from by omega) rfl) ?_
            refine ao_nil ?_
            refine aq_in ?_
            refine aq_then ?_
            refine aw_region ?_
            refine ao_read trivial (r_move rfl) rfl ?_
            refine ao_read trivial (r_addI rfl rfl (wrap_id (by omega) (by omega))) rfl ?_
            refine ao_read trivial (r_assign rfl) rfl ?_
            refine ao_nil ?_
            exact aq_again (AL.sub (sub_mk idn (by exact ⟨⟨_, rfl, ad_ren rfl⟩, ⟨_, rfl, ad_ren rfl⟩, ⟨_, rfl, ad_ren rfl⟩, ⟨_, rfl, ad_ren rfl⟩, trivial⟩) (by exact ⟨⟨_, rfl, ⟨ad_ren rfl, rfl, ad_ren rfl, rfl, ad_ren rfl, rfl, trivial⟩⟩, ⟨_, rfl, ⟨rfl, trivial⟩⟩, ⟨_, rfl, ⟨rfl, trivial⟩⟩, trivial⟩) (by rfl) (nk1 rfl rfl)) (ih38 d38 (i37 + 1) (r43.2.1, r43.2.2, (s36.2.2.set i37.toNat r43.1)) (by omega) ⟨by omega, (by (try simp only [List.length_set, List.length_append, List.length_cons, List.length_nil, List.length_replicate, List.length_take, List.length_drop]) <;> omega), (by (try simp only [List.length_set, List.length_append, List.length_cons, List.length_nil, List.length_replicate, List.length_take, List.length_drop]) <;> omega), (by (try simp only [List.length_set, List.length_append, List.length_cons, List.length_nil, List.length_replicate, List.length_take, List.length_drop]) <;> omega)⟩ h))
          · have q42 := d_f hb40
            obtain rfl : d38 = 0 := by omega
            replace h := is_cnt0 h
            refine aw_exit ?_
            refine aq_then_exit ?_
            refine aq_then_exit ?_
            refine aq_in_exit ?_
            refine aq_in ?_
            exact aq_then (AW.sub (sub_mk idn (by exact ⟨⟨_, rfl, ad_ren rfl⟩, ⟨_, rfl, ad_ren rfl⟩, ⟨_, rfl, ad_ren rfl⟩, trivial⟩) (by exact ⟨⟨_, rfl, ⟨ad_ren rfl, rfl, ad_ren rfl, rfl, ad_ren rfl, rfl, trivial⟩⟩, ⟨_, rfl, ⟨rfl, trivial⟩⟩, ⟨_, rfl, ⟨rfl, trivial⟩⟩, trivial⟩) (by rfl) (nk1 rfl rfl)) (j3 (s36.1, s36.2.1, s36.2.2) (by (try simp only [List.length_set, List.length_append, List.length_cons, List.length_nil, List.length_replicate, List.length_take, List.length_drop]) <;> omega) h))
theorem c_spec_l1Cur_pool {fu : Nat} {x0 : (List Int)} {x1 : Int} {x2 : Int} {r : (List (List Int)) × Int × Int} (h : Is (p_spec_l1Cur_pool fu x0 x1 x2) (some r)) :
    ACallsV Try.prog 109 [.ref 0 0] [(0, .var [.cell (.v (.slice (.int .u8)) x0), .cell (.int .i64 x1), .cell (.int .u64 x2)])] (fun r' H' => r' = .os 1 ∧ H' = [(0, .var [.cell (.v (.slice (.int .u8)) x0), .cell (.int .i64 r.2.1), .cell (.int .u64 r.2.2)]), (1, .row (.arr 6 (.int .i64)) r.1)]) := by
  unfold p_spec_l1Cur_pool at h
  refine ac_enterV ⟨47, 1⟩ Try.func109 rfl rfl rfl rfl rfl (fun Γ => ?_)
  refine aw_seq ?_
  refine aw_region ?_
  refine ao_read trivial (r_assign rfl) rfl ?_
  refine ao_nil ?_
  refine aq_then ?_
  refine aw_seq ?_
  refine aw_region ?_
  refine ao_eff trivial (e_buildSlice (l := []) (t := (.arr 6 (.int .i64))) 1 ([] : (List (List Int))) rfl Try.underlying24 Try.zeroValue65 Try.sizeOf65 rfl rfl rfl rfl rfl rfl rfl) rfl ?_
  refine ao_read trivial (r_assign rfl) rfl ?_
  refine ao_nil ?_
  refine aq_then ?_
  refine aw_seq ?_
  refine aw_seq ?_
  refine aw_region ?_
  refine ao_read trivial (r_move rfl) rfl ?_
  refine ao_eff trivial (e_buildSlice (l := [(0, .const (.int .i64 2)), (1, .const (.int .i64 3)), (2, .const (.int .i64 1)), (3, .const (.int .i64 2)), (4, .const (.int .i64 4))]) (t := (.int .i64)) 2 ([2, 3, 1, 2, 4] : (List Int)) rfl Try.underlying26 Try.zeroValue3 Try.sizeOf3 rfl rfl rfl rfl rfl rfl rfl) rfl ?_
  obtain ⟨r1, r1h, h⟩ := is_bind h
  refine ao_frz (fr' := [(0, .ref 0 0), (2, .nilsl), (6, .os 1), (3, .os 1), (7, .ref 0 0), (8, .v (.slice (.int .i64)) ([2, 3, 1, 2, 4] : (List Int)))]) (H' := [(1, .row (.arr 6 (.int .i64)) ([] : (List (List Int)))), (0, .var [.cell (.v (.slice (.int .u8)) x0), .cell (.int .i64 x1), .cell (.int .u64 x2)])]) (by exact ⟨⟨_, rfl, ad_ren rfl⟩, ⟨_, rfl, ad_ren rfl⟩, ⟨_, rfl, ad_ren rfl⟩, ⟨_, rfl, ad_ren rfl⟩, ⟨_, rfl, ad_ren rfl⟩, ⟨_, rfl, ad_osB rfl rfl⟩, trivial⟩) (by exact ⟨⟨_, rfl, rfl⟩, ⟨_, rfl, ⟨ad_ren rfl, rfl, ad_ren rfl, rfl, ad_ren rfl, rfl, trivial⟩⟩, trivial⟩) rfl ?_
  refine ao_callV [0] 3 trivial (c_spec_l1Cur_among (is_mk r1h)) Try.func61 rfl rfl rfl rfl rfl ⟨rfl, trivial⟩ ⟨⟨_, rfl, ⟨ad_ren rfl, rfl, ad_ren rfl, rfl, ad_ren rfl, rfl, trivial⟩⟩, trivial⟩ rfl rfl rfl rfl rfl rfl rfl (fun r' H' hr => ?_)
  obtain ⟨rfl, rfl⟩ := hr
  refine ao_norm (y := .int .i64 r1.1) (H' := [(1, .row (.arr 6 (.int .i64)) ([] : (List (List Int)))), (0, .var [.cell (.v (.slice (.int .u8)) x0), .cell (.int .i64 r1.2.1), .cell (.int .u64 r1.2.2)])]) rfl rfl ?_
  refine ao_read trivial (r_assign rfl) rfl ?_
  refine ao_nil ?_
  refine aq_then ?_
  refine aw_block ?_
  refine aw_loop (AL.sub (sub_mk idn (by exact ⟨⟨_, rfl, ad_ren rfl⟩, ⟨_, rfl, ad_ren rfl⟩, ⟨_, rfl, ad_ren rfl⟩, trivial⟩) (by exact ⟨⟨_, rfl, ⟨ad_ren rfl, rfl, ad_ren rfl, rfl, ad_ren rfl, rfl, trivial⟩⟩, ⟨_, rfl, rfl⟩, trivial⟩) (by rfl) (nk1 rfl rfl)) (al_whl (fun (s2 : Int × Int × Int × (List (List Int))) => [(0, .ref 0 0), (3, .os 1), (4, .int .i64 s2.1)]) (fun (s2 : Int × Int × Int × (List (List Int))) => [(0, .var [.cell (.v (.slice (.int .u8)) x0), .cell (.int .i64 s2.2.1), .cell (.int .u64 s2.2.2.1)]), (1, .row (.arr 6 (.int .i64)) s2.2.2.2)]) (fun (s2 : Int × Int × Int × (List (List Int))) => True) h trivial (fun d4 s2 hI h ih4 => ?_)))
  replace h := is_whlS h
  refine al_round ?_
  refine aw_seq ?_
  refine aw_seq ?_
  refine aw_region ?_
  refine ao_read trivial (r_move rfl) rfl ?_
  refine ao_read trivial (r_gtr rfl rfl) rfl ?_
  refine ao_nil ?_
  refine aq_then ?_
  refine aw_cond rfl (fun hb6 => ?_) (fun hb6 => ?_)
  · have q7 := d_t hb6
    replace h := is_if (d_t hb6) h
    refine aw_skip ?_
    refine aq_then ?_
    refine aw_seq ?_
    refine aw_block ?_
    refine aw_seq ?_
    refine aw_region ?_
    refine ao_read trivial (r_move rfl) rfl ?_
    obtain ⟨r9, r9h, h⟩ := is_bind h
    refine ao_callV [0] 2 trivial (c_spec_l1Cur_die (is_mk r9h)) Try.func119 rfl rfl rfl rfl rfl ⟨rfl, trivial⟩ ⟨⟨_, rfl, ⟨ad_ren rfl, rfl, ad_ren rfl, rfl, ad_ren rfl, rfl, trivial⟩⟩, trivial⟩ rfl rfl rfl rfl rfl rfl rfl (fun r' H' hr => ?_)
    obtain ⟨rfl, rfl⟩ := hr
    refine ao_norm (y := .v (.arr 6 (.int .i64)) r9.1) (H' := [(1, .row (.arr 6 (.int .i64)) s2.2.2.2), (0, .var [.cell (.v (.slice (.int .u8)) x0), .cell (.int .i64 r9.2.1), .cell (.int .u64 r9.2.2)])]) rfl rfl ?_
    refine ao_eff trivial (e_alloc 2 (y := .v (.arr 6 (.int .i64)) ((List.replicate 6 0) : (List Int))) Try.zeroValue65 (fun ρ h M => ra_zero_arr (t := (.int .i64)) rfl) rfl rfl rfl rfl rfl) rfl ?_
    refine ao_effS trivial (e_store rfl rfl rfl rfl Try.sizeOf65 rfl) ?_
    refine ao_nil ?_
    refine aq_then ?_
    refine aw_seq ?_
    refine aw_seq ?_
    refine aw_region ?_
    refine ao_read trivial (r_move rfl) rfl ?_
    refine ao_read trivial (r_len_osm (s2.2.2.2.length : Int) Try.underlying24 rfl rfl rfl) rfl ?_
    refine ao_read trivial (r_gtr rfl rfl) rfl ?_
    refine ao_read trivial (r_move rfl) rfl ?_
    refine ao_split (decide (0 < (s2.2.2.2.length : Int))) (fun hb10 => ?_) (fun hb10 => ?_)
    · have q11 := d_t hb10
      replace h := is_if (d_t hb10) h
      refine ao_read (by exact ⟨_, _, rfl, rfl, hb10⟩) (r_move rfl) rfl ?_
      obtain ⟨r13, r13h, h⟩ := is_bind h
      refine ao_callV [0] 3 (by exact ⟨_, _, rfl, rfl, hb10⟩) (c_spec_l1Cur_one (is_mk r13h)) Try.func48 rfl rfl rfl rfl rfl ⟨rfl, trivial⟩ ⟨⟨_, rfl, ⟨ad_ren rfl, rfl, ad_ren rfl, rfl, ad_ren rfl, rfl, trivial⟩⟩, trivial⟩ rfl rfl rfl rfl rfl rfl rfl (fun r' H' hr => ?_)
      obtain ⟨rfl, rfl⟩ := hr
      refine ao_norm (y := .bool r13.1) (H' := [(2, .var [.arr (.int .i64) 6 r9.1]), (1, .row (.arr 6 (.int .i64)) s2.2.2.2), (0, .var [.cell (.v (.slice (.int .u8)) x0), .cell (.int .i64 r13.2.1), .cell (.int .u64 r13.2.2)])]) rfl rfl ?_
      refine ao_read trivial (r_pickT rfl hb10 rfl) rfl ?_
      refine ao_nil ?_
      refine aq_then ?_
      refine aw_cond rfl (fun hb14 => ?_) (fun hb14 => ?_)
      · replace h := is_if hb14 h
        refine aw_region ?_
        refine ao_read trivial (r_move rfl) rfl ?_
        refine ao_read trivial (r_idxAddr_os Try.underlying24 Try.sizeOf65 rfl rfl rfl (show 0 ≤ 0 from by omega) (show 0 < (s2.2.2.2.length : Int) from by omega)) rfl ?_
        refine ao_read trivial (r_load_elemv (t := (.arr 6 (.int .i64))) Try.isAgg65 Try.sizeOf65 rfl rfl (show 0 < s2.2.2.2.length from by omega)) rfl ?_
        refine ao_effS trivial (e_store rfl rfl rfl rfl Try.sizeOf65 rfl) ?_
        refine ao_nil ?_
        refine aq_then ?_
        refine aw_region ?_
        refine ao_read trivial (r_move rfl) rfl ?_
        refine ao_read trivial (r_load_arr rfl Try.isAgg65 Try.sizeOf65 rfl rfl rfl) rfl ?_
        refine ao_eff trivial (e_buildSlice (l := [(0, .tmp 27)]) (t := (.arr 6 (.int .i64))) 3 ([(s2.2.2.2.getD 0 (List.replicate 6 0))] : (List (List Int))) rfl Try.underlying24 Try.zeroValue65 Try.sizeOf65 rfl rfl rfl rfl rfl rfl rfl) rfl ?_
        obtain ⟨g15, h⟩ := is_guard h
        refine ao_eff trivial (e_append (t := (.arr 6 (.int .i64))) 4 rfl Try.underlying24 (rfl : Try.prog.info? 65 = some _) rfl rfl rfl rfl rfl rfl rfl (src_os rfl) (show s2.2.2.2.length + ([(s2.2.2.2.getD 0 (List.replicate 6 0))] : (List (List Int))).length ≤ 1000000000 from by (try simp only [List.length_cons, List.length_nil, List.length_replicate]) <;> omega) rfl rfl) rfl ?_
        refine ao_read trivial (r_assign rfl) rfl ?_
        refine ao_nil ?_
        refine aq_in ?_
        refine aq_then ?_
        refine aw_region ?_
        refine ao_read trivial (r_move rfl) rfl ?_
        refine ao_read trivial (r_sub rfl rfl) rfl ?_
        refine ao_read trivial (r_assign rfl) rfl ?_
        refine ao_nil ?_
        exact aq_again (AL.sub (sub_mk (rn [(1, 4)]) (by exact ⟨⟨_, rfl, ad_ren rfl⟩, ⟨_, rfl, ad_ren rfl⟩, ⟨_, rfl, ad_ren rfl⟩, trivial⟩) (by exact ⟨⟨_, rfl, ⟨ad_ren rfl, rfl, ad_ren rfl, rfl, ad_ren rfl, rfl, trivial⟩⟩, ⟨_, rfl, rfl⟩, trivial⟩) (by rfl) (nk1 rfl rfl)) (ih4 ((IntKind.wrap .i64 (s2.1 - 1)), r13.2.1, r13.2.2, (s2.2.2.2 ++ [(s2.2.2.2.getD 0 (List.replicate 6 0))])) trivial h))
      · replace h := is_else (ne_t hb14) h
        refine aw_skip ?_
        refine aq_then ?_
        refine aw_region ?_
        refine ao_read trivial (r_move rfl) rfl ?_
        refine ao_read trivial (r_load_arr rfl Try.isAgg65 Try.sizeOf65 rfl rfl rfl) rfl ?_
        refine ao_eff trivial (e_buildSlice (l := [(0, .tmp 27)]) (t := (.arr 6 (.int .i64))) 5 ([r9.1] : (List (List Int))) rfl Try.underlying24 Try.zeroValue65 Try.sizeOf65 rfl rfl rfl rfl rfl rfl rfl) rfl ?_
        obtain ⟨g16, h⟩ := is_guard h
        refine ao_eff trivial (e_append (t := (.arr 6 (.int .i64))) 6 rfl Try.underlying24 (rfl : Try.prog.info? 65 = some _) rfl rfl rfl rfl rfl rfl rfl (src_os rfl) (show s2.2.2.2.length + ([r9.1] : (List (List Int))).length ≤ 1000000000 from by (try simp only [List.length_cons, List.length_nil]) <;> omega) rfl rfl) rfl ?_
        refine ao_read trivial (r_assign rfl) rfl ?_
        refine ao_nil ?_
        refine aq_in ?_
        refine aq_then ?_
        refine aw_region ?_
        refine ao_read trivial (r_move rfl) rfl ?_
        refine ao_read trivial (r_sub rfl rfl) rfl ?_
        refine ao_read trivial (r_assign rfl) rfl ?_
        refine ao_nil ?_
        exact aq_again (AL.sub (sub_mk (rn [(1, 6)]) (by exact ⟨⟨_, rfl, ad_ren rfl⟩, ⟨_, rfl, ad_ren rfl⟩, ⟨_, rfl, ad_ren rfl⟩, trivial⟩) (by exact ⟨⟨_, rfl, ⟨ad_ren rfl, rfl, ad_ren rfl, rfl, ad_ren rfl, rfl, trivial⟩⟩, ⟨_, rfl, rfl⟩, trivial⟩) (by rfl) (nk1 rfl rfl)) (ih4 ((IntKind.wrap .i64 (s2.1 - 1)), r13.2.1, r13.2.2, (s2.2.2.2 ++ [r9.1])) trivial h))
    · have q12 := d_f hb10
      replace h := is_else (d_f hb10) h
      refine ao_skipT 2 3 19 rfl rfl hb10 rfl rfl rfl ?_
      refine ao_read trivial (r_pickF rfl hb10 rfl) rfl ?_
      refine ao_nil ?_
      refine aq_then ?_
      refine aw_cond rfl (fun hb => by cases hb) (fun _ => ?_)
      refine aw_skip ?_
      refine aq_then ?_
      refine aw_region ?_
      refine ao_read trivial (r_move rfl) rfl ?_
      refine ao_read trivial (r_load_arr rfl Try.isAgg65 Try.sizeOf65 rfl rfl rfl) rfl ?_
      refine ao_eff trivial (e_buildSlice (l := [(0, .tmp 27)]) (t := (.arr 6 (.int .i64))) 3 ([r9.1] : (List (List Int))) rfl Try.underlying24 Try.zeroValue65 Try.sizeOf65 rfl rfl rfl rfl rfl rfl rfl) rfl ?_
      refine ao_eff trivial (e_append (t := (.arr 6 (.int .i64))) 4 rfl Try.underlying24 (rfl : Try.prog.info? 65 = some _) rfl rfl rfl rfl rfl rfl rfl (src_os rfl) (show s2.2.2.2.length + ([r9.1] : (List (List Int))).length ≤ 1000000000 from by (try simp only [List.length_cons, List.length_nil]) <;> omega) rfl rfl) rfl ?_
      refine ao_read trivial (r_assign rfl) rfl ?_
      refine ao_nil ?_
      refine aq_in ?_
      refine aq_then ?_
      refine aw_region ?_
      refine ao_read trivial (r_move rfl) rfl ?_
      refine ao_read trivial (r_sub rfl rfl) rfl ?_
      refine ao_read trivial (r_assign rfl) rfl ?_
      refine ao_nil ?_
      exact aq_again (AL.sub (sub_mk (rn [(1, 4)]) (by exact ⟨⟨_, rfl, ad_ren rfl⟩, ⟨_, rfl, ad_ren rfl⟩, ⟨_, rfl, ad_ren rfl⟩, trivial⟩) (by exact ⟨⟨_, rfl, ⟨ad_ren rfl, rfl, ad_ren rfl, rfl, ad_ren rfl, rfl, trivial⟩⟩, ⟨_, rfl, rfl⟩, trivial⟩) (by rfl) (nk1 rfl rfl)) (ih4 ((IntKind.wrap .i64 (s2.1 - 1)), r9.2.1, r9.2.2, (s2.2.2.2 ++ [r9.1])) trivial h))
  · have q8 := d_f hb6
    replace h := is_else (d_f hb6) h
    refine aw_exit ?_
    refine aq_then_exit ?_
    refine aq_then_exit ?_
    refine aq_in_exit ?_
    refine aq_then ?_
    refine aw_seq ?_
    refine aw_seq ?_
    refine aw_region ?_
    refine ao_read trivial (r_move rfl) rfl ?_
    obtain ⟨r17, r17h, h⟩ := is_bind h
    refine ao_callV [0] 5 trivial (c_spec_l1Cur_pick (is_mk r17h)) Try.func60 rfl rfl rfl rfl rfl ⟨rfl, trivial⟩ ⟨⟨_, rfl, ⟨ad_ren rfl, rfl, ad_ren rfl, rfl, ad_ren rfl, rfl, trivial⟩⟩, trivial⟩ rfl rfl rfl rfl rfl rfl rfl (fun r' H' hr => ?_)
    obtain ⟨rfl, rfl⟩ := hr
    refine ao_norm (y := .int .i64 r17.1) (H' := [(1, .row (.arr 6 (.int .i64)) s2.2.2.2), (0, .var [.cell (.v (.slice (.int .u8)) x0), .cell (.int .i64 r17.2.1), .cell (.int .u64 r17.2.2)])]) rfl rfl ?_
    refine ao_nil ?_
    refine aq_then ?_
    refine aw_block ?_
    refine aw_seq ?_
    refine aw_region ?_
    refine ao_read trivial (r_eql rfl rfl) rfl ?_
    refine ao_read trivial (r_assign rfl) rfl ?_
    refine ao_nil ?_
    refine aq_then ?_
    refine aw_cond rfl (fun hb18 => ?_) (fun hb18 => ?_)
    · have q19 := d_t hb18
      replace h := is_if (d_t hb18) h
      refine aw_seq ?_
      refine aw_region ?_
      refine ao_eff trivial (e_buildSlice (l := []) (t := (.arr 6 (.int .i64))) 5 ([] : (List (List Int))) rfl Try.underlying24 Try.zeroValue65 Try.sizeOf65 rfl rfl rfl rfl rfl rfl rfl) rfl ?_
      refine ao_read trivial (r_assign rfl) rfl ?_
      refine ao_nil ?_
      refine aq_then ?_
      refine aw_ret ?_
      refine aq_in_ret ?_
      refine aq_then_ret ?_
      refine aq_ret ?_
      obtain rfl := is_some h
      exact aq_finV (l := [.tmp 2]) (xs := [.os 5]) (rn [(1, 5)]) [.os 1] [(0, .var [.cell (.v (.slice (.int .u8)) x0), .cell (.int .i64 r17.2.1), .cell (.int .u64 r17.2.2)]), (1, .row (.arr 6 (.int .i64)) ([] : (List (List Int))))] rfl (by exact ⟨rfl, trivial⟩) (by exact ⟨ad_ren rfl, trivial⟩) (by exact ⟨⟨_, rfl, ⟨ad_ren rfl, rfl, ad_ren rfl, rfl, ad_ren rfl, rfl, trivial⟩⟩, ⟨_, rfl, rfl⟩, trivial⟩) rfl (nk1 rfl rfl) ⟨rfl, rfl⟩
    · have q20 := d_f hb18
      replace h := is_else (d_f hb18) h
      refine aw_seq ?_
      refine aw_region ?_
      refine ao_read trivial (r_eql rfl rfl) rfl ?_
      refine ao_read trivial (r_assign rfl) rfl ?_
      refine ao_nil ?_
      refine aq_then ?_
      refine aw_cond rfl (fun hb21 => ?_) (fun hb21 => ?_)
      · have q22 := d_t hb21
        replace h := is_if (d_t hb21) h
        refine aw_block ?_
        refine aw_loop (AL.sub (sub_mk idn (by exact ⟨⟨_, rfl, ad_ren rfl⟩, trivial⟩) (by exact ⟨⟨_, rfl, ⟨ad_ren rfl, rfl, ad_ren rfl, rfl, ad_ren rfl, rfl, trivial⟩⟩, ⟨_, rfl, rfl⟩, trivial⟩) (by rfl) (nk1 rfl rfl)) (al_whl (fun (s24 : (List (List Int))) => [(3, .os 1)]) (fun (s24 : (List (List Int))) => [(0, .var [.cell (.v (.slice (.int .u8)) x0), .cell (.int .i64 r17.2.1), .cell (.int .u64 r17.2.2)]), (1, .row (.arr 6 (.int .i64)) s24)]) (fun (s24 : (List (List Int))) => True) h trivial (fun d26 s24 hI h ih26 => ?_)))
        replace h := is_whlS h
        refine al_round ?_
        refine aw_seq ?_
        refine aw_seq ?_
        refine aw_region ?_
        refine ao_read trivial (r_move rfl) rfl ?_
        refine ao_read trivial (r_len_osm (s24.length : Int) Try.underlying24 rfl rfl rfl) rfl ?_
        refine ao_read trivial (r_lss rfl rfl) rfl ?_
        refine ao_nil ?_
        refine aq_then ?_
        refine aw_cond rfl (fun hb28 => ?_) (fun hb28 => ?_)
        · have q29 := d_t hb28
          replace h := is_if (d_t hb28) h
          refine aw_skip ?_
          refine aq_then ?_
          refine aw_block ?_
          refine aw_region ?_
          refine ao_read trivial (r_move rfl) rfl ?_
          refine ao_read trivial (r_move rfl) rfl ?_
          obtain ⟨g31, h⟩ := is_guard h
          refine ao_read trivial (r_idxAddr_os Try.underlying24 Try.sizeOf65 rfl rfl rfl (show 0 ≤ 0 from by omega) (show 0 < (s24.length : Int) from by omega)) rfl ?_
          refine ao_read trivial (r_load_elemv (t := (.arr 6 (.int .i64))) Try.isAgg65 Try.sizeOf65 rfl rfl (show 0 < s24.length from by omega)) rfl ?_
          refine ao_eff trivial (e_buildSlice (l := [(0, .tmp 43)]) (t := (.arr 6 (.int .i64))) 2 ([(s24.getD 0 (List.replicate 6 0))] : (List (List Int))) rfl Try.underlying24 Try.zeroValue65 Try.sizeOf65 rfl rfl rfl rfl rfl rfl rfl) rfl ?_
          refine ao_eff trivial (e_append (t := (.arr 6 (.int .i64))) 3 rfl Try.underlying24 (rfl : Try.prog.info? 65 = some _) rfl rfl rfl rfl rfl rfl rfl (src_os rfl) (show s24.length + ([(s24.getD 0 (List.replicate 6 0))] : (List (List Int))).length ≤ 1000000000 from by (try simp only [List.length_cons, List.length_nil, List.length_replicate]) <;> omega) rfl rfl) rfl ?_
          refine ao_read trivial (r_assign rfl) rfl ?_
          refine ao_nil ?_
          refine aq_in ?_
          exact aq_again (AL.sub (sub_mk (rn [(1, 3)]) (by exact ⟨⟨_, rfl, ad_ren rfl⟩, trivial⟩) (by exact ⟨⟨_, rfl, ⟨ad_ren rfl, rfl, ad_ren rfl, rfl, ad_ren rfl, rfl, trivial⟩⟩, ⟨_, rfl, rfl⟩, trivial⟩) (by rfl) (nk1 rfl rfl)) (ih26 (s24 ++ [(s24.getD 0 (List.replicate 6 0))]) trivial h))
        · have q30 := d_f hb28
          replace h := is_else (d_f hb28) h
          refine aw_exit ?_
          refine aq_then_exit ?_
          refine aq_then_exit ?_
          refine aq_in_exit ?_
          refine aq_in ?_
          refine aq_then ?_
          refine aw_seq ?_
          refine aw_region ?_
          refine ao_read trivial (r_move rfl) rfl ?_
          refine ao_read trivial (r_assign rfl) rfl ?_
          refine ao_nil ?_
          refine aq_then ?_
          refine aw_ret ?_
          refine aq_ret ?_
          obtain rfl := is_some h
          exact aq_finV (l := [.tmp 2]) (xs := [.os 1]) idn [.os 1] [(0, .var [.cell (.v (.slice (.int .u8)) x0), .cell (.int .i64 r17.2.1), .cell (.int .u64 r17.2.2)]), (1, .row (.arr 6 (.int .i64)) s24)] rfl (by exact ⟨rfl, trivial⟩) (by exact ⟨ad_ren rfl, trivial⟩) (by exact ⟨⟨_, rfl, ⟨ad_ren rfl, rfl, ad_ren rfl, rfl, ad_ren rfl, rfl, trivial⟩⟩, ⟨_, rfl, rfl⟩, trivial⟩) rfl (nk1 rfl rfl) ⟨rfl, rfl⟩
      · have q23 := d_f hb21
        replace h := is_else (d_f hb21) h
        refine aw_skip ?_
        refine aq_in ?_
        refine aq_then ?_
        refine aw_seq ?_
        refine aw_region ?_
        refine ao_read trivial (r_move rfl) rfl ?_
        refine ao_read trivial (r_assign rfl) rfl ?_
        refine ao_nil ?_
        refine aq_then ?_
        refine aw_ret ?_
        refine aq_ret ?_
        obtain rfl := is_some h
        exact aq_finV (l := [.tmp 2]) (xs := [.os 1]) idn [.os 1] [(0, .var [.cell (.v (.slice (.int .u8)) x0), .cell (.int .i64 r17.2.1), .cell (.int .u64 r17.2.2)]), (1, .row (.arr 6 (.int .i64)) s2.2.2.2)] rfl (by exact ⟨rfl, trivial⟩) (by exact ⟨ad_ren rfl, trivial⟩) (by exact ⟨⟨_, rfl, ⟨ad_ren rfl, rfl, ad_ren rfl, rfl, ad_ren rfl, rfl, trivial⟩⟩, ⟨_, rfl, rfl⟩, trivial⟩) rfl (nk1 rfl rfl) ⟨rfl, rfl⟩
theorem c_spec_l1Cur_few {fu : Nat} {x0 : (List Int)} {x1 : Int} {x2 : Int} {r : (List (List Int)) × Int × Int} (h : Is (p_spec_l1Cur_few fu x0 x1 x2) (some r)) :
    ACallsV Try.prog 93 [.ref 0 0] [(0, .var [.cell (.v (.slice (.int .u8)) x0), .cell (.int .i64 x1), .cell (.int .u64 x2)])] (fun r' H' => r' = .os 1 ∧ H' = [(0, .var [.cell (.v (.slice (.int .u8)) x0), .cell (.int .i64 r.2.1), .cell (.int .u64 r.2.2)]), (1, .row (.arr 6 (.int .i64)) r.1)]) := by
  unfold p_spec_l1Cur_few at h
  refine ac_enterV ⟨17, 1⟩ Try.func93 rfl rfl rfl rfl rfl (fun Γ => ?_)
  refine aw_seq ?_
  refine aw_region ?_
  refine ao_read trivial (r_assign rfl) rfl ?_
  refine ao_nil ?_
  refine aq_then ?_
  refine aw_seq ?_
  refine aw_region ?_
  refine ao_read trivial (r_move rfl) rfl ?_
  obtain ⟨r1, r1h, h⟩ := is_bind h
  refine ao_callV [0] 1 trivial (c_spec_l1Cur_pool (is_mk r1h)) Try.func109 rfl rfl rfl rfl rfl ⟨rfl, trivial⟩ ⟨⟨_, rfl, ⟨ad_ren rfl, rfl, ad_ren rfl, rfl, ad_ren rfl, rfl, trivial⟩⟩, trivial⟩ rfl rfl rfl rfl rfl rfl rfl (fun r' H' hr => ?_)
  obtain ⟨rfl, rfl⟩ := hr
  refine ao_norm (y := .os 1) (H' := [(0, .var [.cell (.v (.slice (.int .u8)) x0), .cell (.int .i64 r1.2.1), .cell (.int .u64 r1.2.2)]), (1, .row (.arr 6 (.int .i64)) r1.1)]) rfl rfl ?_
  refine row_len_o 1 (r1.1.length : Int) rfl rfl (fun hr2 => ?_)
  refine ao_read trivial (r_assign rfl) rfl ?_
  refine ao_nil ?_
  refine aq_then ?_
  refine aw_seq ?_
  refine aw_seq ?_
  refine aw_region ?_
  refine ao_read trivial (r_move rfl) rfl ?_
  refine ao_read trivial (r_len_osm (r1.1.length : Int) Try.underlying24 rfl rfl rfl) rfl ?_
  refine ao_read trivial (r_eql rfl rfl) rfl ?_
  refine ao_read trivial (r_move rfl) rfl ?_
  refine ao_split (decide ((r1.1.length : Int) = 4)) (fun hb3 => ?_) (fun hb3 => ?_)
  · have q4 := d_t hb3
    replace h := is_if (d_t hb3) h
    refine ao_read (by exact ⟨_, _, rfl, rfl, hb3⟩) (r_move rfl) rfl ?_
    obtain ⟨r6, r6h, h⟩ := is_bind h
    refine ao_callV [0] 2 (by exact ⟨_, _, rfl, rfl, hb3⟩) (c_spec_l1Cur_one (is_mk r6h)) Try.func48 rfl rfl rfl rfl rfl ⟨rfl, trivial⟩ ⟨⟨_, rfl, ⟨ad_ren rfl, rfl, ad_ren rfl, rfl, ad_ren rfl, rfl, trivial⟩⟩, trivial⟩ rfl rfl rfl rfl rfl rfl rfl (fun r' H' hr => ?_)
    obtain ⟨rfl, rfl⟩ := hr
    refine ao_norm (y := .bool r6.1) (H' := [(1, .row (.arr 6 (.int .i64)) r1.1), (0, .var [.cell (.v (.slice (.int .u8)) x0), .cell (.int .i64 r6.2.1), .cell (.int .u64 r6.2.2)])]) rfl rfl ?_
    refine ao_read (by exact ⟨_, _, rfl, rfl, hb3⟩) (r_not rfl) rfl ?_
    refine ao_read trivial (r_pickT rfl hb3 rfl) rfl ?_
    refine ao_nil ?_
    refine aq_then ?_
    refine aw_cond rfl (fun hb7 => ?_) (fun hb7 => ?_)
    · replace h := is_else (ne_t (not_t hb7)) h
      refine aw_seq ?_
      refine aw_region ?_
      refine ao_read trivial (r_move rfl) rfl ?_
      refine ao_eff trivial (e_shrink (t := (.arr 6 (.int .i64))) 2 rfl Try.underlying24 Try.sizeOf65 rfl rfl (.some rfl) (by omega) (show 3 ≤ (r1.1.length : Int) from by omega) rfl rfl) rfl ?_
      refine ao_read trivial (r_assign rfl) rfl ?_
      refine ao_nil ?_
      refine aq_then ?_
      refine aw_ret ?_
      refine aq_then_ret ?_
      refine aq_ret ?_
      obtain rfl := is_some h
      exact aq_finV (l := [.tmp 2]) (xs := [.os 2]) (rn [(1, 2)]) [.os 1] [(0, .var [.cell (.v (.slice (.int .u8)) x0), .cell (.int .i64 r6.2.1), .cell (.int .u64 r6.2.2)]), (1, .row (.arr 6 (.int .i64)) ((r1.1.take 3) : (List (List Int))))] rfl (by exact ⟨rfl, trivial⟩) (by exact ⟨ad_ren rfl, trivial⟩) (by exact ⟨⟨_, rfl, ⟨ad_ren rfl, rfl, ad_ren rfl, rfl, ad_ren rfl, rfl, trivial⟩⟩, ⟨_, rfl, rfl⟩, trivial⟩) rfl (nk1 rfl rfl) ⟨rfl, rfl⟩
    · replace h := is_if (not_f hb7) h
      refine aw_skip ?_
      refine aq_then ?_
      refine aw_seq ?_
      refine aw_region ?_
      refine ao_read trivial (r_move rfl) rfl ?_
      refine ao_read trivial (r_assign rfl) rfl ?_
      refine ao_nil ?_
      refine aq_then ?_
      refine aw_ret ?_
      refine aq_ret ?_
      obtain rfl := is_some h
      exact aq_finV (l := [.tmp 2]) (xs := [.os 1]) idn [.os 1] [(0, .var [.cell (.v (.slice (.int .u8)) x0), .cell (.int .i64 r6.2.1), .cell (.int .u64 r6.2.2)]), (1, .row (.arr 6 (.int .i64)) r1.1)] rfl (by exact ⟨rfl, trivial⟩) (by exact ⟨ad_ren rfl, trivial⟩) (by exact ⟨⟨_, rfl, ⟨ad_ren rfl, rfl, ad_ren rfl, rfl, ad_ren rfl, rfl, trivial⟩⟩, ⟨_, rfl, rfl⟩, trivial⟩) rfl (nk1 rfl rfl) ⟨rfl, rfl⟩
  · have q5 := d_f hb3
    replace h := is_else (d_f hb3) h
    refine ao_skipT 3 3 9 rfl rfl hb3 rfl rfl rfl ?_
    refine ao_read trivial (r_pickF rfl hb3 rfl) rfl ?_
    refine ao_nil ?_
    refine aq_then ?_
    refine aw_cond rfl (fun hb => by cases hb) (fun _ => ?_)
    refine aw_skip ?_
    refine aq_then ?_
    refine aw_seq ?_
    refine aw_region ?_
    refine ao_read trivial (r_move rfl) rfl ?_
    refine ao_read trivial (r_assign rfl) rfl ?_
    refine ao_nil ?_
    refine aq_then ?_
    refine aw_ret ?_
    refine aq_ret ?_
    obtain rfl := is_some h
    exact aq_finV (l := [.tmp 2]) (xs := [.os 1]) idn [.os 1] [(0, .var [.cell (.v (.slice (.int .u8)) x0), .cell (.int .i64 r1.2.1), .cell (.int .u64 r1.2.2)]), (1, .row (.arr 6 (.int .i64)) r1.1)] rfl (by exact ⟨rfl, trivial⟩) (by exact ⟨ad_ren rfl, trivial⟩) (by exact ⟨⟨_, rfl, ⟨ad_ren rfl, rfl, ad_ren rfl, rfl, ad_ren rfl, rfl, trivial⟩⟩, ⟨_, rfl, rfl⟩, trivial⟩) rfl (nk1 rfl rfl) ⟨rfl, rfl⟩
theorem c_spec_l1Cur_tieless10 {fu : Nat} {x0 : (List Int)} {x1 : Int} {x2 : Int} {r : (List (List Int)) × Int × Int} (h : Is (p_spec_l1Cur_tieless10 fu x0 x1 x2) (some r)) :
    ACallsV Try.prog 49 [.ref 0 0] [(0, .var [.cell (.v (.slice (.int .u8)) x0), .cell (.int .i64 x1), .cell (.int .u64 x2)])] (fun r' H' => r' = .os 1 ∧ H' = [(0, .var [.cell (.v (.slice (.int .u8)) x0), .cell (.int .i64 r.2.1), .cell (.int .u64 r.2.2)]), (1, .row (.arr 6 (.int .i64)) r.1)]) := by
  unfold p_spec_l1Cur_tieless10 at h
  refine ac_enterV ⟨17, 1⟩ Try.func49 rfl rfl rfl rfl rfl (fun Γ => ?_)
  refine aw_seq ?_
  refine aw_region ?_
  refine ao_read trivial (r_assign rfl) rfl ?_
  refine ao_nil ?_
  refine aq_then ?_
  refine aw_seq ?_
  refine aw_seq ?_
  refine aw_region ?_
  refine ao_read trivial (r_move rfl) rfl ?_
  obtain ⟨r1, r1h, h⟩ := is_bind h
  refine ao_callV [0] 1 trivial (c_spec_l1Cur_letters10 (is_mk r1h)) Try.func75 rfl rfl rfl rfl rfl ⟨rfl, trivial⟩ ⟨⟨_, rfl, ⟨ad_ren rfl, rfl, ad_ren rfl, rfl, ad_ren rfl, rfl, trivial⟩⟩, trivial⟩ rfl rfl rfl rfl rfl rfl rfl (fun r' H' hr => ?_)
  obtain ⟨rfl, rfl⟩ := hr
  refine ao_norm (y := .os 1) (H' := [(0, .var [.cell (.v (.slice (.int .u8)) x0), .cell (.int .i64 r1.2.1), .cell (.int .u64 r1.2.2)]), (1, .row (.int .i64) r1.1)]) rfl rfl ?_
  refine row_len_o 1 (r1.1.length : Int) rfl rfl (fun hr2 => ?_)
  refine ao_read trivial (r_assign rfl) rfl ?_
  refine ao_nil ?_
  refine aq_then ?_
  refine aw_seq ?_
  refine aw_region ?_
  refine ao_read trivial (r_move rfl) rfl ?_
  obtain ⟨r3, r3h, h⟩ := is_bind h
  refine ao_scall trivial (scall (c_spec_l10Letters (is_mk r3h)) rfl Try.func77 rfl rfl rfl rfl (fun σ => ⟨ad_os0 rfl, trivial⟩)) rfl ?_
  refine ao_read trivial (r_move rfl) rfl ?_
  refine ao_split r3 (fun hb4 => ?_) (fun hb4 => ?_)
  · replace h := is_if hb4 h
    refine ao_read (by exact ⟨_, _, rfl, rfl, hb4⟩) (r_move rfl) rfl ?_
    obtain ⟨r5, r5h, h⟩ := is_bind h
    refine ao_callV [0] 2 (by exact ⟨_, _, rfl, rfl, hb4⟩) (c_spec_l1Cur_one (is_mk r5h)) Try.func48 rfl rfl rfl rfl rfl ⟨rfl, trivial⟩ ⟨⟨_, rfl, ⟨ad_ren rfl, rfl, ad_ren rfl, rfl, ad_ren rfl, rfl, trivial⟩⟩, trivial⟩ rfl rfl rfl rfl rfl rfl rfl (fun r' H' hr => ?_)
    obtain ⟨rfl, rfl⟩ := hr
    refine ao_norm (y := .bool r5.1) (H' := [(1, .row (.int .i64) r1.1), (0, .var [.cell (.v (.slice (.int .u8)) x0), .cell (.int .i64 r5.2.1), .cell (.int .u64 r5.2.2)])]) rfl rfl ?_
    refine ao_read (by exact ⟨_, _, rfl, rfl, hb4⟩) (r_not rfl) rfl ?_
    refine ao_read trivial (r_pickT rfl hb4 rfl) rfl ?_
    refine ao_nil ?_
    refine aq_then ?_
    refine aw_cond rfl (fun hb6 => ?_) (fun hb6 => ?_)
    · replace h := is_else (ne_t (not_t hb6)) h
      refine aw_seq ?_
      refine aw_region ?_
      refine ao_read trivial (r_move rfl) rfl ?_
      obtain ⟨r7, r7h, h⟩ := is_bind h
      refine ao_call [] 2 trivial (c_spec_l10Pool (is_mk r7h)) Try.func78 rfl rfl rfl rfl ⟨ad_os0 rfl, trivial⟩ trivial rfl rfl rfl rfl rfl rfl rfl (fun r' H' hr => ?_)
      obtain ⟨rfl, rfl⟩ := hr
      refine ao_norm (y := .os 2) (H' := [(1, .row (.int .i64) r1.1), (0, .var [.cell (.v (.slice (.int .u8)) x0), .cell (.int .i64 r5.2.1), .cell (.int .u64 r5.2.2)]), (2, .row (.arr 6 (.int .i64)) r7)]) rfl rfl ?_
      refine row_len_o 2 (r7.length : Int) rfl rfl (fun hr8 => ?_)
      refine ao_read trivial (r_assign rfl) rfl ?_
      refine ao_nil ?_
      refine aq_then ?_
      refine aw_ret ?_
      refine aq_then_ret ?_
      refine aq_ret ?_
      obtain rfl := is_some h
      exact aq_finV (l := [.tmp 2]) (xs := [.os 2]) (rn [(1, 2)]) [.os 1] [(0, .var [.cell (.v (.slice (.int .u8)) x0), .cell (.int .i64 r5.2.1), .cell (.int .u64 r5.2.2)]), (1, .row (.arr 6 (.int .i64)) r7)] rfl (by exact ⟨rfl, trivial⟩) (by exact ⟨ad_ren rfl, trivial⟩) (by exact ⟨⟨_, rfl, ⟨ad_ren rfl, rfl, ad_ren rfl, rfl, ad_ren rfl, rfl, trivial⟩⟩, ⟨_, rfl, rfl⟩, trivial⟩) rfl (nk1 rfl rfl) ⟨rfl, rfl⟩
    · replace h := is_if (not_f hb6) h
      refine aw_skip ?_
      refine aq_then ?_
      refine aw_seq ?_
      refine aw_region ?_
      refine ao_read trivial (r_move rfl) rfl ?_
      obtain ⟨r9, r9h, h⟩ := is_bind h
      refine ao_callV [0] 3 trivial (c_spec_l1Cur_few (is_mk r9h)) Try.func93 rfl rfl rfl rfl rfl ⟨rfl, trivial⟩ ⟨⟨_, rfl, ⟨ad_ren rfl, rfl, ad_ren rfl, rfl, ad_ren rfl, rfl, trivial⟩⟩, trivial⟩ rfl rfl rfl rfl rfl rfl rfl (fun r' H' hr => ?_)
      obtain ⟨rfl, rfl⟩ := hr
      refine ao_norm (y := .os 3) (H' := [(1, .row (.int .i64) r1.1), (0, .var [.cell (.v (.slice (.int .u8)) x0), .cell (.int .i64 r9.2.1), .cell (.int .u64 r9.2.2)]), (3, .row (.arr 6 (.int .i64)) r9.1)]) rfl rfl ?_
      refine row_len_o 3 (r9.1.length : Int) rfl rfl (fun hr10 => ?_)
      refine ao_read trivial (r_assign rfl) rfl ?_
      refine ao_nil ?_
      refine aq_then ?_
      refine aw_ret ?_
      refine aq_ret ?_
      obtain rfl := is_some h
      exact aq_finV (l := [.tmp 2]) (xs := [.os 3]) (rn [(1, 3)]) [.os 1] [(0, .var [.cell (.v (.slice (.int .u8)) x0), .cell (.int .i64 r9.2.1), .cell (.int .u64 r9.2.2)]), (1, .row (.arr 6 (.int .i64)) r9.1)] rfl (by exact ⟨rfl, trivial⟩) (by exact ⟨ad_ren rfl, trivial⟩) (by exact ⟨⟨_, rfl, ⟨ad_ren rfl, rfl, ad_ren rfl, rfl, ad_ren rfl, rfl, trivial⟩⟩, ⟨_, rfl, rfl⟩, trivial⟩) rfl (nk1 rfl rfl) ⟨rfl, rfl⟩
  · replace h := is_else (ne_t hb4) h
    refine ao_skipT 3 2 8 rfl rfl hb4 rfl rfl rfl ?_
    refine ao_read trivial (r_pickF rfl hb4 rfl) rfl ?_
    refine ao_nil ?_
    refine aq_then ?_
    refine aw_cond rfl (fun hb => by cases hb) (fun _ => ?_)
    refine aw_skip ?_
    refine aq_then ?_
    refine aw_seq ?_
    refine aw_region ?_
    refine ao_read trivial (r_move rfl) rfl ?_
    obtain ⟨r11, r11h, h⟩ := is_bind h
    refine ao_callV [0] 2 trivial (c_spec_l1Cur_few (is_mk r11h)) Try.func93 rfl rfl rfl rfl rfl ⟨rfl, trivial⟩ ⟨⟨_, rfl, ⟨ad_ren rfl, rfl, ad_ren rfl, rfl, ad_ren rfl, rfl, trivial⟩⟩, trivial⟩ rfl rfl rfl rfl rfl rfl rfl (fun r' H' hr => ?_)
    obtain ⟨rfl, rfl⟩ := hr
    refine ao_norm (y := .os 2) (H' := [(1, .row (.int .i64) r1.1), (0, .var [.cell (.v (.slice (.int .u8)) x0), .cell (.int .i64 r11.2.1), .cell (.int .u64 r11.2.2)]), (2, .row (.arr 6 (.int .i64)) r11.1)]) rfl rfl ?_
    refine row_len_o 2 (r11.1.length : Int) rfl rfl (fun hr12 => ?_)
    refine ao_read trivial (r_assign rfl) rfl ?_
    refine ao_nil ?_
    refine aq_then ?_
    refine aw_ret ?_
    refine aq_ret ?_
    obtain rfl := is_some h
    exact aq_finV (l := [.tmp 2]) (xs := [.os 2]) (rn [(1, 2)]) [.os 1] [(0, .var [.cell (.v (.slice (.int .u8)) x0), .cell (.int .i64 r11.2.1), .cell (.int .u64 r11.2.2)]), (1, .row (.arr 6 (.int .i64)) r11.1)] rfl (by exact ⟨rfl, trivial⟩) (by exact ⟨ad_ren rfl, trivial⟩) (by exact ⟨⟨_, rfl, ⟨ad_ren rfl, rfl, ad_ren rfl, rfl, ad_ren rfl, rfl, trivial⟩⟩, ⟨_, rfl, rfl⟩, trivial⟩) rfl (nk1 rfl rfl) ⟨rfl, rfl⟩
theorem c_spec_DrawIsOrderFair {fu : Nat} {x0 : (List Int)} {r : (List (List Int))} (h : Is (p_spec_DrawIsOrderFair fu x0) (some r)) :
    ACalls Try.prog 6 [.v (.slice (.int .u8)) x0] [] (fun r' H' => r' = .os 0 ∧ H' = [(0, .row (.arr 6 (.int .i64)) r)]) := by
  unfold p_spec_DrawIsOrderFair at h
  refine ac_enter ⟨14, 0⟩ Try.func6 rfl rfl rfl rfl rfl (fun Γ => ?_)
  refine sl_len_m 0 (x0.length : Int) rfl rfl (fun hl0 => ?_)
  refine aw_seq ?_
  refine aw_region ?_
  refine ao_read trivial (r_assign rfl) rfl ?_
  refine ao_nil ?_
  refine aq_then ?_
  refine aw_seq ?_
  refine aw_region ?_
  refine ao_read trivial (r_move rfl) rfl ?_
  refine ao_read trivial (r_build_st (l := [(0, .tmp 4)]) (cs := [.cell (.v (.slice (.int .u8)) x0), .cell (.int .i64 0), .cell (.int .u64 0)]) (.pair (.slice (.int .u8)) (.pair (.int .i64) (.pair (.int .u64) .unit))) [(0, 1), (1, 1), (2, 1)] Try.underlying63 Try.zeroValue63 rfl ⟨rfl, Try.sizeOf22, rfl, Try.sizeOf3, rfl, Try.sizeOf61, trivial⟩ rfl rfl rfl) rfl ?_
  refine ao_eff trivial (e_box 0 rfl rfl rfl rfl rfl rfl) rfl ?_
  refine ao_read trivial (r_assign rfl) rfl ?_
  refine ao_nil ?_
  refine aq_then ?_
  refine aw_seq ?_
  refine aw_seq ?_
  refine aw_region ?_
  refine ao_read trivial (r_move rfl) rfl ?_
  obtain ⟨r1, r1h, h⟩ := is_bind h
  refine ao_callV [0] 1 trivial (c_spec_l1Cur_one (is_mk r1h)) Try.func48 rfl rfl rfl rfl rfl ⟨rfl, trivial⟩ ⟨⟨_, rfl, ⟨ad_ren rfl, rfl, ad_ren rfl, rfl, ad_ren rfl, rfl, trivial⟩⟩, trivial⟩ rfl rfl rfl rfl rfl rfl rfl (fun r' H' hr => ?_)
  obtain ⟨rfl, rfl⟩ := hr
  refine ao_norm (y := .bool r1.1) (H' := [(0, .var [.cell (.v (.slice (.int .u8)) x0), .cell (.int .i64 r1.2.1), .cell (.int .u64 r1.2.2)])]) rfl rfl ?_
  refine ao_nil ?_
  refine aq_then ?_
  refine aw_cond rfl (fun hb2 => ?_) (fun hb2 => ?_)
  · replace h := is_if hb2 h
    refine aw_seq ?_
    refine aw_region ?_
    refine ao_read trivial (r_build_arr (l := [(0, .const (.int .i64 1)), (1, .const (.int .i64 4)), (2, .const (.int .i64 5)), (3, .const (.int .i64 8)), (4, .const (.int .i64 9)), (5, .const (.int .i64 12))]) (t := (.int .i64)) ([1, 4, 5, 8, 9, 12] : (List Int)) rfl Try.underlying65 Try.zeroValue65 Try.sizeOf3 rfl rfl rfl rfl) rfl ?_
    refine ao_read trivial (r_build_arr (l := [(0, .const (.int .i64 2)), (1, .const (.int .i64 3)), (2, .const (.int .i64 6)), (3, .const (.int .i64 7)), (4, .const (.int .i64 10)), (5, .const (.int .i64 11))]) (t := (.int .i64)) ([2, 3, 6, 7, 10, 11] : (List Int)) rfl Try.underlying65 Try.zeroValue65 Try.sizeOf3 rfl rfl rfl rfl) rfl ?_
    refine ao_eff trivial (e_buildSlice (l := [(0, .tmp 9), (1, .tmp 10)]) (t := (.arr 6 (.int .i64))) 1 ([[1, 4, 5, 8, 9, 12], [2, 3, 6, 7, 10, 11]] : (List (List Int))) rfl Try.underlying24 Try.zeroValue65 Try.sizeOf65 rfl rfl rfl rfl rfl rfl rfl) rfl ?_
    refine ao_read trivial (r_assign rfl) rfl ?_
    refine ao_nil ?_
    refine aq_then ?_
    refine aw_ret ?_
    refine aq_then_ret ?_
    refine aq_ret ?_
    obtain rfl := is_some h
    exact aq_finx (l := [.tmp 2]) (xs := [.os 1]) (rn [(0, 1)]) [.os 0] [(0, .row (.arr 6 (.int .i64)) ([[1, 4, 5, 8, 9, 12], [2, 3, 6, 7, 10, 11]] : (List (List Int))))] rfl (by exact ⟨rfl, trivial⟩) (by exact ⟨ad_ren rfl, trivial⟩) (by exact ⟨⟨_, rfl, rfl⟩, trivial⟩) rfl (nk rfl) rfl rfl ⟨rfl, rfl⟩
  · replace h := is_else (ne_t hb2) h
    refine aw_skip ?_
    refine aq_then ?_
    refine aw_seq ?_
    refine aw_region ?_
    refine ao_read trivial (r_move rfl) rfl ?_
    obtain ⟨r3, r3h, h⟩ := is_bind h
    refine ao_callV [0] 2 trivial (c_spec_l1Cur_tieless10 (is_mk r3h)) Try.func49 rfl rfl rfl rfl rfl ⟨rfl, trivial⟩ ⟨⟨_, rfl, ⟨ad_ren rfl, rfl, ad_ren rfl, rfl, ad_ren rfl, rfl, trivial⟩⟩, trivial⟩ rfl rfl rfl rfl rfl rfl rfl (fun r' H' hr => ?_)
    obtain ⟨rfl, rfl⟩ := hr
    refine ao_norm (y := .os 2) (H' := [(0, .var [.cell (.v (.slice (.int .u8)) x0), .cell (.int .i64 r3.2.1), .cell (.int .u64 r3.2.2)]), (2, .row (.arr 6 (.int .i64)) r3.1)]) rfl rfl ?_
    refine row_len_o 2 (r3.1.length : Int) rfl rfl (fun hr4 => ?_)
    refine ao_read trivial (r_assign rfl) rfl ?_
    refine ao_nil ?_
    refine aq_then ?_
    refine aw_ret ?_
    refine aq_ret ?_
    obtain rfl := is_some h
    exact aq_finx (l := [.tmp 2]) (xs := [.os 2]) (rn [(0, 2)]) [.os 0] [(0, .row (.arr 6 (.int .i64)) r3.1)] rfl (by exact ⟨rfl, trivial⟩) (by exact ⟨ad_ren rfl, trivial⟩) (by exact ⟨⟨_, rfl, rfl⟩, trivial⟩) rfl (nk rfl) rfl rfl ⟨rfl, rfl⟩
theorem c_impl_within {x0 : Int} {x1 : Int} {x2 : Int} {r : Bool} (h : Is (p_impl_within x0 x1 x2) r) :
    Scalar Try.prog 72 [.int .i64 x0, .int .i64 x1, .int .i64 x2] (.bool r) := by
  unfold p_impl_within at h
  refine ac_enter ⟨15, 0⟩ Try.func72 rfl rfl rfl rfl rfl (fun Γ => ?_)
  refine aw_seq ?_
  refine aw_region ?_
  refine ao_read trivial (r_assign rfl) rfl ?_
  refine ao_nil ?_
  refine aq_then ?_
  refine aw_seq ?_
  refine aw_region ?_
  refine ao_read trivial (r_move rfl) rfl ?_
  refine ao_read trivial (r_move rfl) rfl ?_
  refine ao_read trivial (r_leq rfl rfl) rfl ?_
  refine ao_read trivial (r_move rfl) rfl ?_
  refine ao_readG (x := .int .i64 x0) rfl (GV.T rfl) (fun hg1 => by
        have q2 := d_t hg1
        exact r_move rfl) rfl ?_
  refine ao_readG (x := .int .i64 x2) rfl (GV.T rfl) (fun hg3 => by
        have q4 := d_t hg3
        exact r_move rfl) rfl ?_
  refine ao_readG (x := .bool (decide (x0 ≤ x2))) rfl (GV.T rfl) (fun hg5 => by
        have q6 := d_t hg5
        exact Reads.strip 11 rfl (hg5) (Reads.strip 12 rfl (hg5) (r_leq rfl rfl))) rfl ?_
  refine ao_read trivial (r_andB rfl rfl) rfl ?_
  refine ao_read trivial (r_assign rfl) rfl ?_
  refine ao_nil ?_
  refine aq_then ?_
  refine aw_ret ?_
  refine aq_ret ?_
  obtain rfl := is_eq h
  exact aq_finx (l := [.tmp 6]) (xs := [.bool ((decide (x1 ≤ x0)) && (decide (x0 ≤ x2)))]) idn [.bool ((decide (x1 ≤ x0)) && (decide (x0 ≤ x2)))] [] rfl (by exact ⟨rfl, trivial⟩) (by exact ⟨ad_ren rfl, trivial⟩) (by exact trivial) rfl (nk rfl) rfl rfl ⟨rfl, rfl⟩
theorem c_impl_isFace {x0 : Int} {r : Bool} (h : Is (p_impl_isFace x0) r) :
    Scalar Try.prog 113 [.int .i64 x0] (.bool r) := by
  unfold p_impl_isFace at h
  refine ac_enter ⟨5, 0⟩ Try.func113 rfl rfl rfl rfl rfl (fun Γ => ?_)
  refine aw_seq ?_
  refine aw_region ?_
  refine ao_read trivial (r_assign rfl) rfl ?_
  refine ao_nil ?_
  refine aq_then ?_
  refine aw_seq ?_
  refine aw_region ?_
  refine ao_read trivial (r_move rfl) rfl ?_
  refine ao_scall trivial (scall (c_impl_within (is_mk (rfl : p_impl_within x0 0 30 = _))) rfl Try.func72 rfl rfl rfl rfl (fun σ => ⟨ad_ren rfl, ad_ren rfl, ad_ren rfl, trivial⟩)) rfl ?_
  refine ao_read trivial (r_assign rfl) rfl ?_
  refine ao_nil ?_
  refine aq_then ?_
  refine aw_ret ?_
  refine aq_ret ?_
  obtain rfl := is_eq h
  exact aq_finx (l := [.tmp 2]) (xs := [.bool (p_impl_within x0 0 30)]) idn [.bool (p_impl_within x0 0 30)] [] rfl (by exact ⟨rfl, trivial⟩) (by exact ⟨ad_ren rfl, trivial⟩) (by exact trivial) rfl (nk rfl) rfl rfl ⟨rfl, rfl⟩
theorem c_impl_areAll_int_1 {x0 : Int} {r : Bool} (h : Is (p_impl_areAll_int_1 x0) r) :
    Scalar Try.prog 121 [.int .i64 x0, .cav (.fn 113 [])] (.bool r) := by
  unfold p_impl_areAll_int_1 at h
  refine ac_enter ⟨8, 0⟩ Try.func121 rfl rfl rfl rfl rfl (fun Γ => ?_)
  refine aw_seq ?_
  refine aw_region ?_
  refine ao_read trivial (r_assign rfl) rfl ?_
  refine ao_nil ?_
  refine aq_then ?_
  refine aw_seq ?_
  refine aw_region ?_
  refine ao_read trivial (r_load_cav Try.isAgg64 rfl) rfl ?_
  refine ao_read trivial (r_move rfl) rfl ?_
  refine ao_scall trivial (scall (c_impl_isFace (is_mk (rfl : p_impl_isFace x0 = _))) rfl Try.func113 rfl rfl rfl rfl (fun σ => ⟨ad_ren rfl, trivial⟩)) rfl ?_
  refine ao_read trivial (r_not rfl) rfl ?_
  refine ao_read trivial (r_assign rfl) rfl ?_
  refine ao_nil ?_
  refine aq_then ?_
  refine aw_ret ?_
  refine aq_ret ?_
  obtain rfl := is_eq h
  exact aq_finx (l := [.tmp 3]) (xs := [.bool (!(p_impl_isFace x0))]) idn [.bool (!(p_impl_isFace x0))] [] rfl (by exact ⟨rfl, trivial⟩) (by exact ⟨ad_ren rfl, trivial⟩) (by exact trivial) rfl (nk rfl) rfl rfl ⟨rfl, rfl⟩
theorem c_slices_IndexFunc_int_int {x0 : (List Int)} {r : Int} (h : Is (p_slices_IndexFunc_int_int x0) r) :
    Scalar Try.prog 116 [.v (.slice (.int .i64)) x0, .fn 121 [.cav (.fn 113 [])]] (.int .i64 r) := by
  unfold p_slices_IndexFunc_int_int at h
  refine ac_enter ⟨19, 0⟩ Try.func116 rfl rfl rfl rfl rfl (fun Γ => ?_)
  refine sl_len_m 0 (x0.length : Int) rfl rfl (fun hl0 => ?_)
  refine aw_seq ?_
  refine aw_region ?_
  refine ao_read trivial (r_assign rfl) rfl ?_
  refine ao_nil ?_
  refine aq_then ?_
  refine aw_seq ?_
  refine aw_seq ?_
  refine aw_region ?_
  refine ao_read trivial (r_move rfl) rfl ?_
  refine ao_read trivial (r_len_vm (x0.length : Int) Try.underlying26 rfl rfl) rfl ?_
  refine ao_read trivial (r_move rfl) rfl ?_
  refine ao_nil ?_
  refine aq_then ?_
  refine aw_block ?_
  refine aw_loop (AL.sub (fr' := [(0, .v (.slice (.int .i64)) x0), (1, .fn 121 [.cav (.fn 113 [])]), (7, .int .i64 (x0.length : Int)), (8, .int .i64 0)]) (H' := []) (sub_mk idn (by exact ⟨⟨_, rfl, ad_ren rfl⟩, ⟨_, rfl, ad_ren rfl⟩, ⟨_, rfl, ad_ren rfl⟩, ⟨_, rfl, ad_ren rfl⟩, trivial⟩) (by exact trivial) (by rfl) (nk rfl)) (al_cnt (fun i2 (s1 : Unit) => [(0, .v (.slice (.int .i64)) x0), (1, .fn 121 [.cav (.fn 113 [])]), (7, .int .i64 (x0.length : Int)), (8, .int .i64 i2)]) (fun i2 (s1 : Unit) => []) (fun d i2 (s1 : Unit) => d = Int.toNat ((x0.length : Int) - i2) ∧ 0 ≤ i2 ∧ i2 ≤ (x0.length : Int)) h ⟨rfl, (by (try simp only [List.length_set, List.length_append, List.length_cons, List.length_nil, List.length_replicate, List.length_take, List.length_drop]) <;> omega), (by (try simp only [List.length_set, List.length_append, List.length_cons, List.length_nil, List.length_replicate, List.length_take, List.length_drop]) <;> omega)⟩ (fun d3 i2 s1 hI h ih3 => ?_)))
  obtain ⟨hd, _, _⟩ := hI
  refine al_round ?_
  refine aw_seq ?_
  refine aw_region ?_
  refine ao_read trivial (r_lss rfl rfl) rfl ?_
  refine ao_nil ?_
  refine aq_then ?_
  refine aw_seq ?_
  refine aw_cond rfl (fun hb5 => ?_) (fun hb5 => ?_)
  · have q6 := d_t hb5
    obtain ⟨d3, rfl⟩ : ∃ e, d3 = e + 1 := ⟨d3 - 1, by omega⟩
    replace h := is_cntS h
    refine aw_skip ?_
    refine aq_then ?_
    refine aw_seq ?_
    refine aw_block ?_
    refine aw_seq ?_
    refine aw_region ?_
    refine ao_read trivial (r_move rfl) rfl ?_
    refine ao_read trivial (r_assign rfl) rfl ?_
    refine ao_nil ?_
    refine aq_then ?_
    refine aw_seq ?_
    refine aw_region ?_
    refine ao_read trivial (r_move rfl) rfl ?_
    refine ao_read trivial (r_move rfl) rfl ?_
    refine ao_read trivial (r_move rfl) rfl ?_
    refine ao_read trivial (r_idxAddr_int Try.underlying26 Try.sizeOf3 rfl rfl (show 0 ≤ i2 from by omega) (show i2 < (x0.length : Int) from by omega)) rfl ?_
    refine ao_read trivial (r_load_c_int Try.isAgg3 Try.sizeOf3 rfl) rfl ?_
    refine ao_scall trivial (scall (c_impl_areAll_int_1 (is_mk (rfl : p_impl_areAll_int_1 (x0.getD i2.toNat 0) = _))) rfl Try.func121 rfl rfl rfl rfl (fun σ => ⟨ad_ren rfl, ad_ren rfl, trivial⟩)) rfl ?_
    refine ao_nil ?_
    refine aq_then ?_
    refine aw_cond rfl (fun hb8 => ?_) (fun hb8 => ?_)
    · replace h := is_if hb8 h
      refine aw_seq ?_
      refine aw_region ?_
      refine ao_read trivial (r_move rfl) rfl ?_
      refine ao_read trivial (r_assign rfl) rfl ?_
      refine ao_nil ?_
      refine aq_then ?_
      refine aw_ret ?_
      refine aq_in_ret ?_
      refine aq_then_ret ?_
      refine aq_then_ret ?_
      refine aq_in_ret ?_
      refine aq_then_ret ?_
      refine aq_ret ?_
      obtain rfl := is_eq h
      exact aq_finx (l := [.tmp 4]) (xs := [.int .i64 i2]) idn [.int .i64 i2] [] rfl (by exact ⟨rfl, trivial⟩) (by exact ⟨ad_ren rfl, trivial⟩) (by exact trivial) rfl (nk rfl) rfl rfl ⟨rfl, rfl⟩
    · replace h := is_else (ne_t hb8) h
      refine aw_skip ?_
      refine aq_in ?_
      refine aq_then ?_
      refine aw_region ?_
      refine ao_read trivial (r_addI rfl rfl (wrap_id (by omega) (by omega))) rfl ?_
      refine ao_read trivial (r_move rfl) rfl ?_
      refine ao_nil ?_
      exact aq_again (AL.sub (sub_mk idn (by exact ⟨⟨_, rfl, ad_ren rfl⟩, ⟨_, rfl, ad_ren rfl⟩, ⟨_, rfl, ad_ren rfl⟩, ⟨_, rfl, ad_ren rfl⟩, trivial⟩) (by exact trivial) (by rfl) (nk rfl)) (ih3 d3 (i2 + 1) () (by omega) ⟨by omega, (by (try simp only [List.length_set, List.length_append, List.length_cons, List.length_nil, List.length_replicate, List.length_take, List.length_drop]) <;> omega), (by (try simp only [List.length_set, List.length_append, List.length_cons, List.length_nil, List.length_replicate, List.length_take, List.length_drop]) <;> omega)⟩ h))
  · have q7 := d_f hb5
    obtain rfl : d3 = 0 := by omega
    replace h := is_cnt0 h
    refine aw_exit ?_
    refine aq_then_exit ?_
    refine aq_then_exit ?_
    refine aq_in_exit ?_
    refine aq_then ?_
    refine aw_seq ?_
    refine aw_region ?_
    refine ao_read trivial (r_assign rfl) rfl ?_
    refine ao_nil ?_
    refine aq_then ?_
    refine aw_ret ?_
    refine aq_ret ?_
    obtain rfl := is_eq h
    exact aq_finx (l := [.tmp 4]) (xs := [.int .i64 (-1)]) idn [.int .i64 (-1)] [] rfl (by exact ⟨rfl, trivial⟩) (by exact ⟨ad_ren rfl, trivial⟩) (by exact trivial) rfl (nk rfl) rfl rfl ⟨rfl, rfl⟩
theorem c_slices_ContainsFunc_int_int {x0 : (List Int)} {r : Bool} (h : Is (p_slices_ContainsFunc_int_int x0) r) :
    Scalar Try.prog 105 [.v (.slice (.int .i64)) x0, .fn 121 [.cav (.fn 113 [])]] (.bool r) := by
  unfold p_slices_ContainsFunc_int_int at h
  refine ac_enter ⟨9, 0⟩ Try.func105 rfl rfl rfl rfl rfl (fun Γ => ?_)
  refine sl_len_m 0 (x0.length : Int) rfl rfl (fun hl0 => ?_)
  refine aw_seq ?_
  refine aw_region ?_
  refine ao_read trivial (r_assign rfl) rfl ?_
  refine ao_nil ?_
  refine aq_then ?_
  refine aw_seq ?_
  refine aw_region ?_
  refine ao_read trivial (r_move rfl) rfl ?_
  refine ao_read trivial (r_move rfl) rfl ?_
  refine ao_scall trivial (scall (c_slices_IndexFunc_int_int (is_mk (rfl : p_slices_IndexFunc_int_int x0 = _))) rfl Try.func116 rfl rfl rfl rfl (fun σ => ⟨ad_ren rfl, ad_ren rfl, trivial⟩)) rfl ?_
  refine ao_read trivial (r_geq rfl rfl) rfl ?_
  refine ao_read trivial (r_assign rfl) rfl ?_
  refine ao_nil ?_
  refine aq_then ?_
  refine aw_ret ?_
  refine aq_ret ?_
  obtain rfl := is_eq h
  exact aq_finx (l := [.tmp 4]) (xs := [.bool (decide (0 ≤ (p_slices_IndexFunc_int_int x0)))]) idn [.bool (decide (0 ≤ (p_slices_IndexFunc_int_int x0)))] [] rfl (by exact ⟨rfl, trivial⟩) (by exact ⟨ad_ren rfl, trivial⟩) (by exact trivial) rfl (nk rfl) rfl rfl ⟨rfl, rfl⟩
theorem c_impl_areAll_int {x0 : (List Int)} {r : Bool} (h : Is (p_impl_areAll_int x0) r) :
    Scalar Try.prog 112 [.v (.slice (.int .i64)) x0, .fn 113 []] (.bool r) := by
  unfold p_impl_areAll_int at h
  refine ac_enter ⟨9, 0⟩ Try.func112 rfl rfl rfl rfl rfl (fun Γ => ?_)
  refine sl_len_m 0 (x0.length : Int) rfl rfl (fun hl0 => ?_)
  refine aw_seq ?_
  refine aw_region ?_
  refine ao_eff trivial (e_box 0 rfl rfl rfl rfl rfl rfl) rfl ?_
  refine ao_read trivial (r_assign rfl) rfl ?_
  refine ao_nil ?_
  refine aq_then ?_
  refine aw_seq ?_
  refine aw_region ?_
  refine ao_read trivial (r_move rfl) rfl ?_
  refine ao_read trivial (r_makeFunc (cs := [.tmp 3]) rfl) rfl ?_
  refine ao_scall trivial (scall (c_slices_ContainsFunc_int_int (is_mk (rfl : p_slices_ContainsFunc_int_int x0 = _))) rfl Try.func105 rfl rfl rfl rfl (fun σ => ⟨ad_ren rfl, ad_fn ⟨ad_refc0 rfl rfl (ad_ren rfl) rfl, trivial⟩, trivial⟩)) rfl ?_
  refine ao_read trivial (r_not rfl) rfl ?_
  refine ao_read trivial (r_assign rfl) rfl ?_
  refine ao_nil ?_
  refine aq_then ?_
  refine aw_ret ?_
  refine aq_ret ?_
  obtain rfl := is_eq h
  exact aq_finx (l := [.tmp 4]) (xs := [.bool (!(p_slices_ContainsFunc_int_int x0))]) idn [.bool (!(p_slices_ContainsFunc_int_int x0))] [] rfl (by exact ⟨rfl, trivial⟩) (by exact ⟨ad_ren rfl, trivial⟩) (by exact trivial) rfl (nk rfl) rfl rfl ⟨rfl, rfl⟩
theorem c_cmp_isNaN_int {x0 : Int} {r : Bool} (h : Is (p_cmp_isNaN_int x0) r) :
    Scalar Try.prog 125 [.int .i64 x0] (.bool r) := by
  unfold p_cmp_isNaN_int at h
  refine ac_enter ⟨6, 0⟩ Try.func125 rfl rfl rfl rfl rfl (fun Γ => ?_)
  refine aw_seq ?_
  refine aw_region ?_
  refine ao_read trivial (r_assign rfl) rfl ?_
  refine ao_nil ?_
  refine aq_then ?_
  refine aw_seq ?_
  refine aw_region ?_
  refine ao_read trivial (r_move rfl) rfl ?_
  refine ao_read trivial (r_move rfl) rfl ?_
  refine ao_read trivial (r_neq rfl rfl) rfl ?_
  refine ao_read trivial (r_assign rfl) rfl ?_
  refine ao_nil ?_
  refine aq_then ?_
  refine aw_ret ?_
  refine aq_ret ?_
  obtain rfl := is_eq h
  exact aq_finx (l := [.tmp 2]) (xs := [.bool (!(decide (x0 = x0)))]) idn [.bool (!(decide (x0 = x0)))] [] rfl (by exact ⟨rfl, trivial⟩) (by exact ⟨ad_ren rfl, trivial⟩) (by exact trivial) rfl (nk rfl) rfl rfl ⟨rfl, rfl⟩
theorem c_cmp_Less_int {x0 : Int} {x1 : Int} {r : Bool} (h : Is (p_cmp_Less_int x0 x1) r) :
    Scalar Try.prog 122 [.int .i64 x0, .int .i64 x1] (.bool r) := by
  unfold p_cmp_Less_int at h
  refine ac_enter ⟨17, 0⟩ Try.func122 rfl rfl rfl rfl rfl (fun Γ => ?_)
  refine aw_seq ?_
  refine aw_region ?_
  refine ao_read trivial (r_assign rfl) rfl ?_
  refine ao_nil ?_
  refine aq_then ?_
  refine aw_seq ?_
  refine aw_region ?_
  refine ao_read trivial (r_move rfl) rfl ?_
  refine ao_scall trivial (scall (c_cmp_isNaN_int (is_mk (rfl : p_cmp_isNaN_int x0 = _))) rfl Try.func125 rfl rfl rfl rfl (fun σ => ⟨ad_ren rfl, trivial⟩)) rfl ?_
  refine ao_read trivial (r_move rfl) rfl ?_
  refine ao_readG (x := .int .i64 x1) rfl (GV.T rfl) (fun hg1 => r_move rfl) rfl ?_
  refine ao_scallG (r := .bool (p_cmp_isNaN_int x1)) rfl (GV.T rfl) (fun hg2 => SCall.strip 8 rfl (hg2) (scall (c_cmp_isNaN_int (is_mk (rfl : p_cmp_isNaN_int x1 = _))) rfl Try.func125 rfl rfl rfl rfl (fun σ => ⟨ad_ren rfl, trivial⟩))) rfl ?_
  refine ao_readG (x := .bool (!(p_cmp_isNaN_int x1))) rfl (GV.T rfl) (fun hg3 => Reads.strip 9 rfl (hg3) (r_not rfl)) rfl ?_
  refine ao_read trivial (r_andB rfl rfl) rfl ?_
  refine ao_read trivial (r_move rfl) rfl ?_
  refine ao_readG (x := .int .i64 x0) rfl (GV.F rfl) (fun hg4 => r_move rfl) rfl ?_
  refine ao_readG (x := .int .i64 x1) rfl (GV.F rfl) (fun hg5 => r_move rfl) rfl ?_
  refine ao_readG (x := .bool (decide (x0 < x1))) rfl (GV.F rfl) (fun hg6 => Reads.strip 13 rfl (hg6) (Reads.strip 14 rfl (hg6) (r_lss rfl rfl))) rfl ?_
  refine ao_read trivial (r_orB rfl rfl) rfl ?_
  refine ao_read trivial (r_assign rfl) rfl ?_
  refine ao_nil ?_
  refine aq_then ?_
  refine aw_ret ?_
  refine aq_ret ?_
  obtain rfl := is_eq h
  exact aq_finx (l := [.tmp 4]) (xs := [.bool (((p_cmp_isNaN_int x0) && (!(p_cmp_isNaN_int x1))) || (decide (x0 < x1)))]) idn [.bool (((p_cmp_isNaN_int x0) && (!(p_cmp_isNaN_int x1))) || (decide (x0 < x1)))] [] rfl (by exact ⟨rfl, trivial⟩) (by exact ⟨ad_ren rfl, trivial⟩) (by exact trivial) rfl (nk rfl) rfl rfl ⟨rfl, rfl⟩
theorem c_slices_IsSorted_int_int {x0 : (List Int)} {r : Bool} (h : Is (p_slices_IsSorted_int_int x0) r) :
    Scalar Try.prog 114 [.v (.slice (.int .i64)) x0] (.bool r) := by
  unfold p_slices_IsSorted_int_int at h
  refine ac_enter ⟨21, 0⟩ Try.func114 rfl rfl rfl rfl rfl (fun Γ => ?_)
  refine sl_len_m 0 (x0.length : Int) rfl rfl (fun hl0 => ?_)
  refine aw_seq ?_
  refine aw_region ?_
  refine ao_read trivial (r_assign rfl) rfl ?_
  refine ao_nil ?_
  refine aq_then ?_
  refine aw_seq ?_
  refine aw_seq ?_
  refine aw_region ?_
  refine ao_read trivial (r_move rfl) rfl ?_
  refine ao_read trivial (r_len_vm (x0.length : Int) Try.underlying26 rfl rfl) rfl ?_
  refine ao_read trivial (r_subI rfl rfl (wrap_id (by omega) (by omega))) rfl ?_
  refine ao_read trivial (r_assign rfl) rfl ?_
  refine ao_nil ?_
  refine aq_then ?_
  refine aw_block ?_
  refine aw_loop (AL.sub (fr' := [(0, .v (.slice (.int .i64)) x0), (3, .int .i64 ((x0.length : Int) - 1))]) (H' := []) (sub_mk idn (by exact ⟨⟨_, rfl, ad_ren rfl⟩, ⟨_, rfl, ad_ren rfl⟩, trivial⟩) (by exact trivial) (by rfl) (nk rfl)) (al_cntd (fun i2 (s1 : Unit) => [(0, .v (.slice (.int .i64)) x0), (3, .int .i64 i2)]) (fun i2 (s1 : Unit) => []) (fun d i2 (s1 : Unit) => d = Int.toNat (i2 - 0) ∧ i2 ≤ ((x0.length : Int) - 1)) h ⟨rfl, (by (try simp only [List.length_set, List.length_append, List.length_cons, List.length_nil, List.length_replicate, List.length_take, List.length_drop]) <;> omega)⟩ (fun d3 i2 s1 hI h ih3 => ?_)))
  obtain ⟨hd, _⟩ := hI
  refine al_round ?_
  refine aw_seq ?_
  refine aw_seq ?_
  refine aw_region ?_
  refine ao_read trivial (r_move rfl) rfl ?_
  refine ao_read trivial (r_gtr rfl rfl) rfl ?_
  refine ao_nil ?_
  refine aq_then ?_
  refine aw_cond rfl (fun hb5 => ?_) (fun hb5 => ?_)
  · have q6 := d_t hb5
    obtain ⟨d3, rfl⟩ : ∃ e, d3 = e + 1 := ⟨d3 - 1, by omega⟩
    replace h := is_cntdS h
    refine aw_skip ?_
    refine aq_then ?_
    refine aw_seq ?_
    refine aw_block ?_
    refine aw_seq ?_
    refine aw_drawAll (by kernel_rfl) ?_
    refine an_read 0 (by kernel_rfl) (fun _ _ _ h => h) rfl (by kernel_rfl) trivial (r_move rfl) rfl ?_
    refine an_read 1 (by kernel_rfl) (fun _ _ _ h => h) rfl (by kernel_rfl) trivial (r_move rfl) rfl ?_
    refine an_read 2 (by kernel_rfl) (fun _ _ _ h => h) rfl (by kernel_rfl) trivial (r_idxAddr_int Try.underlying26 Try.sizeOf3 rfl rfl (show 0 ≤ i2 from by omega) (show i2 < (x0.length : Int) from by omega)) rfl ?_
    refine an_read 3 (by kernel_rfl) (fun _ _ _ h => h) rfl (by kernel_rfl) trivial (r_load_c_int Try.isAgg3 Try.sizeOf3 rfl) rfl ?_
    refine an_read 4 (by kernel_rfl) (fun _ _ _ h => h) rfl (by kernel_rfl) trivial (r_move rfl) rfl ?_
    refine an_read 5 (by kernel_rfl) (fun _ _ _ h => h) rfl (by kernel_rfl) trivial (r_move rfl) rfl ?_
    refine an_read 6 (by kernel_rfl) (fun _ _ _ h => h) rfl (by kernel_rfl) trivial (r_subI rfl rfl (wrap_id (by omega) (by omega))) rfl ?_
    refine an_read 7 (by kernel_rfl) (fun _ _ _ h => h) rfl (by kernel_rfl) trivial (r_idxAddr_int Try.underlying26 Try.sizeOf3 rfl rfl (show 0 ≤ (i2 - 1) from by omega) (show (i2 - 1) < (x0.length : Int) from by omega)) rfl ?_
    refine an_read 8 (by kernel_rfl) (fun _ _ _ h => h) rfl (by kernel_rfl) trivial (r_load_c_int Try.isAgg3 Try.sizeOf3 rfl) rfl ?_
    refine an_scall 9 (by kernel_rfl) (fun _ _ _ h => h) rfl (by kernel_rfl) trivial (scall (c_cmp_Less_int (is_mk (rfl : p_cmp_Less_int (x0.getD i2.toNat 0) (x0.getD (i2 - 1).toNat 0) = _))) rfl Try.func122 rfl rfl rfl rfl (fun σ => ⟨ad_ren rfl, ad_ren rfl, trivial⟩)) rfl ?_
    refine an_done rfl ?_
    refine aq_then ?_
    refine aw_cond rfl (fun hb8 => ?_) (fun hb8 => ?_)
    · replace h := is_if hb8 h
      refine aw_seq ?_
      refine aw_region ?_
      refine ao_read trivial (r_assign rfl) rfl ?_
      refine ao_nil ?_
      refine aq_then ?_
      refine aw_ret ?_
      refine aq_in_ret ?_
      refine aq_then_ret ?_
      refine aq_then_ret ?_
      refine aq_in_ret ?_
      refine aq_then_ret ?_
      refine aq_ret ?_
      obtain rfl := is_eq h
      exact aq_finx (l := [.tmp 2]) (xs := [.bool false]) idn [.bool false] [] rfl (by exact ⟨rfl, trivial⟩) (by exact ⟨ad_ren rfl, trivial⟩) (by exact trivial) rfl (nk rfl) rfl rfl ⟨rfl, rfl⟩
    · replace h := is_else (ne_t hb8) h
      refine aw_skip ?_
      refine aq_in ?_
      refine aq_then ?_
      refine aw_region ?_
      refine ao_read trivial (r_move rfl) rfl ?_
      refine ao_read trivial (r_subI rfl rfl (wrap_id (by omega) (by omega))) rfl ?_
      refine ao_read trivial (r_assign rfl) rfl ?_
      refine ao_nil ?_
      exact aq_again (AL.sub (sub_mk idn (by exact ⟨⟨_, rfl, ad_ren rfl⟩, ⟨_, rfl, ad_ren rfl⟩, trivial⟩) (by exact trivial) (by rfl) (nk rfl)) (ih3 d3 (i2 - 1) () (by omega) ⟨by omega, (by (try simp only [List.length_set, List.length_append, List.length_cons, List.length_nil, List.length_replicate, List.length_take, List.length_drop]) <;> omega)⟩ h))
  · have q7 := d_f hb5
    obtain rfl : d3 = 0 := by omega
    replace h := is_cntd0 h
    refine aw_exit ?_
    refine aq_then_exit ?_
    refine aq_then_exit ?_
    refine aq_in_exit ?_
    refine aq_then ?_
    refine aw_seq ?_
    refine aw_region ?_
    refine ao_read trivial (r_assign rfl) rfl ?_
    refine ao_nil ?_
    refine aq_then ?_
    refine aw_ret ?_
    refine aq_ret ?_
    obtain rfl := is_eq h
    exact aq_finx (l := [.tmp 2]) (xs := [.bool true]) idn [.bool true] [] rfl (by exact ⟨rfl, trivial⟩) (by exact ⟨ad_ren rfl, trivial⟩) (by exact trivial) rfl (nk rfl) rfl rfl ⟨rfl, rfl⟩
theorem c_impl_IsDie {x0 : (List Int)} {r : Bool} (h : Is (p_impl_IsDie x0) r) :
    Scalar Try.prog 95 [.v (.arr 6 (.int .i64)) x0] (.bool r) := by
  unfold p_impl_IsDie at h
  refine ac_enter ⟨9, 0⟩ Try.func95 rfl rfl rfl rfl rfl (fun Γ => ?_)
  refine aw_seq ?_
  refine aw_region ?_
  refine ao_eff trivial (e_box 0 rfl rfl rfl rfl rfl rfl) rfl ?_
  refine ao_read trivial (r_assign rfl) rfl ?_
  refine ao_nil ?_
  refine aq_then ?_
  refine aw_seq ?_
  refine aw_region ?_
  refine ao_read trivial (r_slice_arr Try.underlying65 Try.sizeOf3 rfl .none .none (by omega) (by omega) (by omega)) rfl ?_
  refine ao_scall trivial (scall (c_impl_areAll_int (is_mk (rfl : p_impl_areAll_int x0 = _))) rfl Try.func112 rfl rfl rfl rfl (fun σ => ⟨ad_viewf0 rfl rfl rfl rfl rfl, ad_ren rfl, trivial⟩)) rfl ?_
  refine ao_read trivial (r_move rfl) rfl ?_
  refine ao_readG (x := .view 0 0 1 0 6) rfl (GV.T rfl) (fun hg1 => r_slice_arr Try.underlying65 Try.sizeOf3 rfl .none .none (by omega) (by omega) (by omega)) rfl ?_
  refine ao_scallG (r := .bool (p_slices_IsSorted_int_int x0)) rfl (GV.T rfl) (fun hg2 => SCall.strip 6 rfl (hg2) (scall (c_slices_IsSorted_int_int (is_mk (rfl : p_slices_IsSorted_int_int x0 = _))) rfl Try.func114 rfl rfl rfl rfl (fun σ => ⟨ad_viewf0 rfl rfl rfl rfl rfl, trivial⟩))) rfl ?_
  refine ao_read trivial (r_andB rfl rfl) rfl ?_
  refine ao_read trivial (r_assign rfl) rfl ?_
  refine ao_nil ?_
  refine aq_then ?_
  refine aw_ret ?_
  refine aq_ret ?_
  obtain rfl := is_eq h
  exact aq_finx (l := [.tmp 2]) (xs := [.bool ((p_impl_areAll_int x0) && (p_slices_IsSorted_int_int x0))]) idn [.bool ((p_impl_areAll_int x0) && (p_slices_IsSorted_int_int x0))] [] rfl (by exact ⟨rfl, trivial⟩) (by exact ⟨ad_ren rfl, trivial⟩) (by exact trivial) rfl (nk rfl) rfl rfl ⟨rfl, rfl⟩
theorem c_impl_areAll_6_int_1 {x0 : (List Int)} {r : Bool} (h : Is (p_impl_areAll_6_int_1 x0) r) :
    Scalar Try.prog 111 [.v (.arr 6 (.int .i64)) x0, .cav (.fn 95 [])] (.bool r) := by
  unfold p_impl_areAll_6_int_1 at h
  refine ac_enter ⟨8, 0⟩ Try.func111 rfl rfl rfl rfl rfl (fun Γ => ?_)
  refine aw_seq ?_
  refine aw_region ?_
  refine ao_eff trivial (e_box 0 rfl rfl rfl rfl rfl rfl) rfl ?_
  refine ao_read trivial (r_assign rfl) rfl ?_
  refine ao_nil ?_
  refine aq_then ?_
  refine aw_seq ?_
  refine aw_region ?_
  refine ao_read trivial (r_load_cav Try.isAgg90 rfl) rfl ?_
  refine ao_read trivial (r_load_arr rfl Try.isAgg65 Try.sizeOf65 rfl rfl rfl) rfl ?_
  refine ao_scall trivial (scall (c_impl_IsDie (is_mk (rfl : p_impl_IsDie x0 = _))) rfl Try.func95 rfl rfl rfl rfl (fun σ => ⟨ad_ren rfl, trivial⟩)) rfl ?_
  refine ao_read trivial (r_not rfl) rfl ?_
  refine ao_read trivial (r_assign rfl) rfl ?_
  refine ao_nil ?_
  refine aq_then ?_
  refine aw_ret ?_
  refine aq_ret ?_
  obtain rfl := is_eq h
  exact aq_finx (l := [.tmp 3]) (xs := [.bool (!(p_impl_IsDie x0))]) idn [.bool (!(p_impl_IsDie x0))] [] rfl (by exact ⟨rfl, trivial⟩) (by exact ⟨ad_ren rfl, trivial⟩) (by exact trivial) rfl (nk rfl) rfl rfl ⟨rfl, rfl⟩
theorem c_slices_IndexFunc_6_int_6_int {x0 : (List (List Int))} {r : Int} (h : Is (p_slices_IndexFunc_6_int_6_int x0) r) :
    Scalar Try.prog 120 [.v (.slice (.arr 6 (.int .i64))) x0, .fn 111 [.cav (.fn 95 [])]] (.int .i64 r) := by
  unfold p_slices_IndexFunc_6_int_6_int at h
  refine ac_enter ⟨19, 0⟩ Try.func120 rfl rfl rfl rfl rfl (fun Γ => ?_)
  refine sl_len_m 0 (x0.length : Int) rfl rfl (fun hl0 => ?_)
  refine aw_seq ?_
  refine aw_region ?_
  refine ao_read trivial (r_assign rfl) rfl ?_
  refine ao_nil ?_
  refine aq_then ?_
  refine aw_seq ?_
  refine aw_seq ?_
  refine aw_region ?_
  refine ao_read trivial (r_move rfl) rfl ?_
  refine ao_read trivial (r_len_vm (x0.length : Int) Try.underlying24 rfl rfl) rfl ?_
  refine ao_read trivial (r_move rfl) rfl ?_
  refine ao_nil ?_
  refine aq_then ?_
  refine aw_block ?_
  refine aw_loop (AL.sub (fr' := [(0, .v (.slice (.arr 6 (.int .i64))) x0), (1, .fn 111 [.cav (.fn 95 [])]), (7, .int .i64 (x0.length : Int)), (8, .int .i64 0)]) (H' := []) (sub_mk idn (by exact ⟨⟨_, rfl, ad_ren rfl⟩, ⟨_, rfl, ad_ren rfl⟩, ⟨_, rfl, ad_ren rfl⟩, ⟨_, rfl, ad_ren rfl⟩, trivial⟩) (by exact trivial) (by rfl) (nk rfl)) (al_cnt (fun i2 (s1 : Unit) => [(0, .v (.slice (.arr 6 (.int .i64))) x0), (1, .fn 111 [.cav (.fn 95 [])]), (7, .int .i64 (x0.length : Int)), (8, .int .i64 i2)]) (fun i2 (s1 : Unit) => []) (fun d i2 (s1 : Unit) => d = Int.toNat ((x0.length : Int) - i2) ∧ 0 ≤ i2 ∧ i2 ≤ (x0.length : Int)) h ⟨rfl, (by (try simp only [List.length_set, List.length_append, List.length_cons, List.length_nil, List.length_replicate, List.length_take, List.length_drop]) <;> omega), (by (try simp only [List.length_set, List.length_append, List.length_cons, List.length_nil, List.length_replicate, List.length_take, List.length_drop]) <;> omega)⟩ (fun d3 i2 s1 hI h ih3 => ?_)))
  obtain ⟨hd, _, _⟩ := hI
  refine al_round ?_
  refine aw_seq ?_
  refine aw_region ?_
  refine ao_read trivial (r_lss rfl rfl) rfl ?_
  refine ao_nil ?_
  refine aq_then ?_
  refine aw_seq ?_
  refine aw_cond rfl (fun hb5 => ?_) (fun hb5 => ?_)
  · have q6 := d_t hb5
    obtain ⟨d3, rfl⟩ : ∃ e, d3 = e + 1 := ⟨d3 - 1, by omega⟩
    replace h := is_cntS h
    refine aw_skip ?_
    refine aq_then ?_
    refine aw_seq ?_
    refine aw_block ?_
    refine aw_seq ?_
    refine aw_region ?_
    refine ao_read trivial (r_move rfl) rfl ?_
    refine ao_read trivial (r_assign rfl) rfl ?_
    refine ao_nil ?_
    refine aq_then ?_
    refine aw_seq ?_
    refine aw_region ?_
    refine ao_read trivial (r_move rfl) rfl ?_
    refine ao_read trivial (r_move rfl) rfl ?_
    refine ao_read trivial (r_move rfl) rfl ?_
    refine ao_read trivial (r_idxAddr (t := (.arr 6 (.int .i64))) Try.underlying24 Try.sizeOf65 rfl rfl (show 0 ≤ i2 from by omega) (show i2 < (x0.length : Int) from by omega)) rfl ?_
    refine ao_read trivial (r_load_c (t := (.arr 6 (.int .i64))) Try.isAgg65 Try.sizeOf65 rfl) rfl ?_
    refine ao_scall trivial (scall (c_impl_areAll_6_int_1 (is_mk (rfl : p_impl_areAll_6_int_1 (x0.getD i2.toNat (List.replicate 6 0)) = _))) rfl Try.func111 rfl rfl rfl rfl (fun σ => ⟨ad_ren rfl, ad_ren rfl, trivial⟩)) rfl ?_
    refine ao_nil ?_
    refine aq_then ?_
    refine aw_cond rfl (fun hb8 => ?_) (fun hb8 => ?_)
    · replace h := is_if hb8 h
      refine aw_seq ?_
      refine aw_region ?_
      refine ao_read trivial (r_move rfl) rfl ?_
      refine ao_read trivial (r_assign rfl) rfl ?_
      refine ao_nil ?_
      refine aq_then ?_
      refine aw_ret ?_
      refine aq_in_ret ?_
      refine aq_then_ret ?_
      refine aq_then_ret ?_
      refine aq_in_ret ?_
      refine aq_then_ret ?_
      refine aq_ret ?_
      obtain rfl := is_eq h
      exact aq_finx (l := [.tmp 4]) (xs := [.int .i64 i2]) idn [.int .i64 i2] [] rfl (by exact ⟨rfl, trivial⟩) (by exact ⟨ad_ren rfl, trivial⟩) (by exact trivial) rfl (nk rfl) rfl rfl ⟨rfl, rfl⟩
    · replace h := is_else (ne_t hb8) h
      refine aw_skip ?_
      refine aq_in ?_
      refine aq_then ?_
      refine aw_region ?_
      refine ao_read trivial (r_addI rfl rfl (wrap_id (by omega) (by omega))) rfl ?_
      refine ao_read trivial (r_move rfl) rfl ?_
      refine ao_nil ?_
      exact aq_again (AL.sub (sub_mk idn (by exact ⟨⟨_, rfl, ad_ren rfl⟩, ⟨_, rfl, ad_ren rfl⟩, ⟨_, rfl, ad_ren rfl⟩, ⟨_, rfl, ad_ren rfl⟩, trivial⟩) (by exact trivial) (by rfl) (nk rfl)) (ih3 d3 (i2 + 1) () (by omega) ⟨by omega, (by (try simp only [List.length_set, List.length_append, List.length_cons, List.length_nil, List.length_replicate, List.length_take, List.length_drop]) <;> omega), (by (try simp only [List.length_set, List.length_append, List.length_cons, List.length_nil, List.length_replicate, List.length_take, List.length_drop]) <;> omega)⟩ h))
  · have q7 := d_f hb5
    obtain rfl : d3 = 0 := by omega
    replace h := is_cnt0 h
    refine aw_exit ?_
    refine aq_then_exit ?_
    refine aq_then_exit ?_
    refine aq_in_exit ?_
    refine aq_then ?_
    refine aw_seq ?_
    refine aw_region ?_
    refine ao_read trivial (r_assign rfl) rfl ?_
    refine ao_nil ?_
    refine aq_then ?_
    refine aw_ret ?_
    refine aq_ret ?_
    obtain rfl := is_eq h
    exact aq_finx (l := [.tmp 4]) (xs := [.int .i64 (-1)]) idn [.int .i64 (-1)] [] rfl (by exact ⟨rfl, trivial⟩) (by exact ⟨ad_ren rfl, trivial⟩) (by exact trivial) rfl (nk rfl) rfl rfl ⟨rfl, rfl⟩
theorem c_slices_ContainsFunc_6_int_6_int {x0 : (List (List Int))} {r : Bool} (h : Is (p_slices_ContainsFunc_6_int_6_int x0) r) :
    Scalar Try.prog 110 [.v (.slice (.arr 6 (.int .i64))) x0, .fn 111 [.cav (.fn 95 [])]] (.bool r) := by
  unfold p_slices_ContainsFunc_6_int_6_int at h
  refine ac_enter ⟨9, 0⟩ Try.func110 rfl rfl rfl rfl rfl (fun Γ => ?_)
  refine sl_len_m 0 (x0.length : Int) rfl rfl (fun hl0 => ?_)
  refine aw_seq ?_
  refine aw_region ?_
  refine ao_read trivial (r_assign rfl) rfl ?_
  refine ao_nil ?_
  refine aq_then ?_
  refine aw_seq ?_
  refine aw_region ?_
  refine ao_read trivial (r_move rfl) rfl ?_
  refine ao_read trivial (r_move rfl) rfl ?_
  refine ao_scall trivial (scall (c_slices_IndexFunc_6_int_6_int (is_mk (rfl : p_slices_IndexFunc_6_int_6_int x0 = _))) rfl Try.func120 rfl rfl rfl rfl (fun σ => ⟨ad_ren rfl, ad_ren rfl, trivial⟩)) rfl ?_
  refine ao_read trivial (r_geq rfl rfl) rfl ?_
  refine ao_read trivial (r_assign rfl) rfl ?_
  refine ao_nil ?_
  refine aq_then ?_
  refine aw_ret ?_
  refine aq_ret ?_
  obtain rfl := is_eq h
  exact aq_finx (l := [.tmp 4]) (xs := [.bool (decide (0 ≤ (p_slices_IndexFunc_6_int_6_int x0)))]) idn [.bool (decide (0 ≤ (p_slices_IndexFunc_6_int_6_int x0)))] [] rfl (by exact ⟨rfl, trivial⟩) (by exact ⟨ad_ren rfl, trivial⟩) (by exact trivial) rfl (nk rfl) rfl rfl ⟨rfl, rfl⟩
theorem c_impl_areAll_6_int {x0 : (List (List Int))} {r : Bool} (h : Is (p_impl_areAll_6_int x0) r) :
    Scalar Try.prog 94 [.v (.slice (.arr 6 (.int .i64))) x0, .fn 95 []] (.bool r) := by
  unfold p_impl_areAll_6_int at h
  refine ac_enter ⟨9, 0⟩ Try.func94 rfl rfl rfl rfl rfl (fun Γ => ?_)
  refine sl_len_m 0 (x0.length : Int) rfl rfl (fun hl0 => ?_)
  refine aw_seq ?_
  refine aw_region ?_
  refine ao_eff trivial (e_box 0 rfl rfl rfl rfl rfl rfl) rfl ?_
  refine ao_read trivial (r_assign rfl) rfl ?_
  refine ao_nil ?_
  refine aq_then ?_
  refine aw_seq ?_
  refine aw_region ?_
  refine ao_read trivial (r_move rfl) rfl ?_
  refine ao_read trivial (r_makeFunc (cs := [.tmp 3]) rfl) rfl ?_
  refine ao_scall trivial (scall (c_slices_ContainsFunc_6_int_6_int (is_mk (rfl : p_slices_ContainsFunc_6_int_6_int x0 = _))) rfl Try.func110 rfl rfl rfl rfl (fun σ => ⟨ad_ren rfl, ad_fn ⟨ad_refc0 rfl rfl (ad_ren rfl) rfl, trivial⟩, trivial⟩)) rfl ?_
  refine ao_read trivial (r_not rfl) rfl ?_
  refine ao_read trivial (r_assign rfl) rfl ?_
  refine ao_nil ?_
  refine aq_then ?_
  refine aw_ret ?_
  refine aq_ret ?_
  obtain rfl := is_eq h
  exact aq_finx (l := [.tmp 4]) (xs := [.bool (!(p_slices_ContainsFunc_6_int_6_int x0))]) idn [.bool (!(p_slices_ContainsFunc_6_int_6_int x0))] [] rfl (by exact ⟨rfl, trivial⟩) (by exact ⟨ad_ren rfl, trivial⟩) (by exact trivial) rfl (nk rfl) rfl rfl ⟨rfl, rfl⟩
theorem c_impl_IsPool {x0 : (List (List Int))} {r : Bool} (h : Is (p_impl_IsPool x0) r) :
    Scalar Try.prog 50 [.v (.slice (.arr 6 (.int .i64))) x0] (.bool r) := by
  unfold p_impl_IsPool at h
  refine ac_enter ⟨10, 0⟩ Try.func50 rfl rfl rfl rfl rfl (fun Γ => ?_)
  refine sl_len_m 0 (x0.length : Int) rfl rfl (fun hl0 => ?_)
  refine aw_seq ?_
  refine aw_region ?_
  refine ao_read trivial (r_assign rfl) rfl ?_
  refine ao_nil ?_
  refine aq_then ?_
  refine aw_seq ?_
  refine aw_region ?_
  refine ao_read trivial (r_move rfl) rfl ?_
  refine ao_read trivial (r_len_vm (x0.length : Int) Try.underlying24 rfl rfl) rfl ?_
  refine ao_scall trivial (scall (c_impl_within (is_mk (rfl : p_impl_within (x0.length : Int) 1 4 = _))) rfl Try.func72 rfl rfl rfl rfl (fun σ => ⟨ad_ren rfl, ad_ren rfl, ad_ren rfl, trivial⟩)) rfl ?_
  refine ao_read trivial (r_move rfl) rfl ?_
  refine ao_readG (x := .v (.slice (.arr 6 (.int .i64))) x0) rfl (GV.T rfl) (fun hg1 => r_move rfl) rfl ?_
  refine ao_scallG (r := .bool (p_impl_areAll_6_int x0)) rfl (GV.T rfl) (fun hg2 => SCall.strip 7 rfl (hg2) (scall (c_impl_areAll_6_int (is_mk (rfl : p_impl_areAll_6_int x0 = _))) rfl Try.func94 rfl rfl rfl rfl (fun σ => ⟨ad_ren rfl, ad_ren rfl, trivial⟩))) rfl ?_
  refine ao_read trivial (r_andB rfl rfl) rfl ?_
  refine ao_read trivial (r_assign rfl) rfl ?_
  refine ao_nil ?_
  refine aq_then ?_
  refine aw_ret ?_
  refine aq_ret ?_
  obtain rfl := is_eq h
  exact aq_finx (l := [.tmp 2]) (xs := [.bool ((p_impl_within (x0.length : Int) 1 4) && (p_impl_areAll_6_int x0))]) idn [.bool ((p_impl_within (x0.length : Int) 1 4) && (p_impl_areAll_6_int x0))] [] rfl (by exact ⟨rfl, trivial⟩) (by exact ⟨ad_ren rfl, trivial⟩) (by exact trivial) rfl (nk rfl) rfl rfl ⟨rfl, rfl⟩
theorem c_slices_Index_int_int {x0 : (List Int)} {x1 : Int} {r : Int} (h : Is (p_slices_Index_int_int x0 x1) r) :
    Scalar Try.prog 115 [.v (.slice (.int .i64)) x0, .int .i64 x1] (.int .i64 r) := by
  unfold p_slices_Index_int_int at h
  refine ac_enter ⟨19, 0⟩ Try.func115 rfl rfl rfl rfl rfl (fun Γ => ?_)
  refine sl_len_m 0 (x0.length : Int) rfl rfl (fun hl0 => ?_)
  refine aw_seq ?_
  refine aw_region ?_
  refine ao_read trivial (r_assign rfl) rfl ?_
  refine ao_nil ?_
  refine aq_then ?_
  refine aw_seq ?_
  refine aw_seq ?_
  refine aw_region ?_
  refine ao_read trivial (r_move rfl) rfl ?_
  refine ao_read trivial (r_len_vm (x0.length : Int) Try.underlying26 rfl rfl) rfl ?_
  refine ao_read trivial (r_move rfl) rfl ?_
  refine ao_nil ?_
  refine aq_then ?_
  refine aw_block ?_
  refine aw_loop (AL.sub (fr' := [(0, .v (.slice (.int .i64)) x0), (1, .int .i64 x1), (7, .int .i64 (x0.length : Int)), (8, .int .i64 0)]) (H' := []) (sub_mk idn (by exact ⟨⟨_, rfl, ad_ren rfl⟩, ⟨_, rfl, ad_ren rfl⟩, ⟨_, rfl, ad_ren rfl⟩, ⟨_, rfl, ad_ren rfl⟩, trivial⟩) (by exact trivial) (by rfl) (nk rfl)) (al_cnt (fun i2 (s1 : Unit) => [(0, .v (.slice (.int .i64)) x0), (1, .int .i64 x1), (7, .int .i64 (x0.length : Int)), (8, .int .i64 i2)]) (fun i2 (s1 : Unit) => []) (fun d i2 (s1 : Unit) => d = Int.toNat ((x0.length : Int) - i2) ∧ 0 ≤ i2 ∧ i2 ≤ (x0.length : Int)) h ⟨rfl, (by (try simp only [List.length_set, List.length_append, List.length_cons, List.length_nil, List.length_replicate, List.length_take, List.length_drop]) <;> omega), (by (try simp only [List.length_set, List.length_append, List.length_cons, List.length_nil, List.length_replicate, List.length_take, List.length_drop]) <;> omega)⟩ (fun d3 i2 s1 hI h ih3 => ?_)))
  obtain ⟨hd, _, _⟩ := hI
  refine al_round ?_
  refine aw_seq ?_
  refine aw_region ?_
  refine ao_read trivial (r_lss rfl rfl) rfl ?_
  refine ao_nil ?_
  refine aq_then ?_
  refine aw_seq ?_
  refine aw_cond rfl (fun hb5 => ?_) (fun hb5 => ?_)
  · have q6 := d_t hb5
    obtain ⟨d3, rfl⟩ : ∃ e, d3 = e + 1 := ⟨d3 - 1, by omega⟩
    replace h := is_cntS h
    refine aw_skip ?_
    refine aq_then ?_
    refine aw_seq ?_
    refine aw_block ?_
    refine aw_seq ?_
    refine aw_region ?_
    refine ao_read trivial (r_move rfl) rfl ?_
    refine ao_read trivial (r_assign rfl) rfl ?_
    refine ao_nil ?_
    refine aq_then ?_
    refine aw_seq ?_
    refine aw_region ?_
    refine ao_read trivial (r_move rfl) rfl ?_
    refine ao_read trivial (r_move rfl) rfl ?_
    refine ao_read trivial (r_move rfl) rfl ?_
    refine ao_read trivial (r_idxAddr_int Try.underlying26 Try.sizeOf3 rfl rfl (show 0 ≤ i2 from by omega) (show i2 < (x0.length : Int) from by omega)) rfl ?_
    refine ao_read trivial (r_load_c_int Try.isAgg3 Try.sizeOf3 rfl) rfl ?_
    refine ao_read trivial (r_eql rfl rfl) rfl ?_
    refine ao_nil ?_
    refine aq_then ?_
    refine aw_cond rfl (fun hb8 => ?_) (fun hb8 => ?_)
    · have q9 : x1 = (x0.getD i2.toNat 0) := d_t hb8
      replace h := is_if (d_t hb8) h
      refine aw_seq ?_
      refine aw_region ?_
      refine ao_read trivial (r_move rfl) rfl ?_
      refine ao_read trivial (r_assign rfl) rfl ?_
      refine ao_nil ?_
      refine aq_then ?_
      refine aw_ret ?_
      refine aq_in_ret ?_
      refine aq_then_ret ?_
      refine aq_then_ret ?_
      refine aq_in_ret ?_
      refine aq_then_ret ?_
      refine aq_ret ?_
      obtain rfl := is_eq h
      exact aq_finx (l := [.tmp 4]) (xs := [.int .i64 i2]) idn [.int .i64 i2] [] rfl (by exact ⟨rfl, trivial⟩) (by exact ⟨ad_ren rfl, trivial⟩) (by exact trivial) rfl (nk rfl) rfl rfl ⟨rfl, rfl⟩
    · have q10 : ¬ (x1 = (x0.getD i2.toNat 0)) := d_f hb8
      replace h := is_else (d_f hb8) h
      refine aw_skip ?_
      refine aq_in ?_
      refine aq_then ?_
      refine aw_region ?_
      refine ao_read trivial (r_addI rfl rfl (wrap_id (by omega) (by omega))) rfl ?_
      refine ao_read trivial (r_move rfl) rfl ?_
      refine ao_nil ?_
      exact aq_again (AL.sub (sub_mk idn (by exact ⟨⟨_, rfl, ad_ren rfl⟩, ⟨_, rfl, ad_ren rfl⟩, ⟨_, rfl, ad_ren rfl⟩, ⟨_, rfl, ad_ren rfl⟩, trivial⟩) (by exact trivial) (by rfl) (nk rfl)) (ih3 d3 (i2 + 1) () (by omega) ⟨by omega, (by (try simp only [List.length_set, List.length_append, List.length_cons, List.length_nil, List.length_replicate, List.length_take, List.length_drop]) <;> omega), (by (try simp only [List.length_set, List.length_append, List.length_cons, List.length_nil, List.length_replicate, List.length_take, List.length_drop]) <;> omega)⟩ h))
  · have q7 := d_f hb5
    obtain rfl : d3 = 0 := by omega
    replace h := is_cnt0 h
    refine aw_exit ?_
    refine aq_then_exit ?_
    refine aq_then_exit ?_
    refine aq_in_exit ?_
    refine aq_then ?_
    refine aw_seq ?_
    refine aw_region ?_
    refine ao_read trivial (r_assign rfl) rfl ?_
    refine ao_nil ?_
    refine aq_then ?_
    refine aw_ret ?_
    refine aq_ret ?_
    obtain rfl := is_eq h
    exact aq_finx (l := [.tmp 4]) (xs := [.int .i64 (-1)]) idn [.int .i64 (-1)] [] rfl (by exact ⟨rfl, trivial⟩) (by exact ⟨ad_ren rfl, trivial⟩) (by exact trivial) rfl (nk rfl) rfl rfl ⟨rfl, rfl⟩
theorem c_slices_Contains_int_int {x0 : (List Int)} {x1 : Int} {r : Bool} (h : Is (p_slices_Contains_int_int x0 x1) r) :
    Scalar Try.prog 103 [.v (.slice (.int .i64)) x0, .int .i64 x1] (.bool r) := by
  unfold p_slices_Contains_int_int at h
  refine ac_enter ⟨9, 0⟩ Try.func103 rfl rfl rfl rfl rfl (fun Γ => ?_)
  refine sl_len_m 0 (x0.length : Int) rfl rfl (fun hl0 => ?_)
  refine aw_seq ?_
  refine aw_region ?_
  refine ao_read trivial (r_assign rfl) rfl ?_
  refine ao_nil ?_
  refine aq_then ?_
  refine aw_seq ?_
  refine aw_region ?_
  refine ao_read trivial (r_move rfl) rfl ?_
  refine ao_read trivial (r_move rfl) rfl ?_
  refine ao_scall trivial (scall (c_slices_Index_int_int (is_mk (rfl : p_slices_Index_int_int x0 x1 = _))) rfl Try.func115 rfl rfl rfl rfl (fun σ => ⟨ad_ren rfl, ad_ren rfl, trivial⟩)) rfl ?_
  refine ao_read trivial (r_geq rfl rfl) rfl ?_
  refine ao_read trivial (r_assign rfl) rfl ?_
  refine ao_nil ?_
  refine aq_then ?_
  refine aw_ret ?_
  refine aq_ret ?_
  obtain rfl := is_eq h
  exact aq_finx (l := [.tmp 4]) (xs := [.bool (decide (0 ≤ (p_slices_Index_int_int x0 x1)))]) idn [.bool (decide (0 ≤ (p_slices_Index_int_int x0 x1)))] [] rfl (by exact ⟨rfl, trivial⟩) (by exact ⟨ad_ren rfl, trivial⟩) (by exact trivial) rfl (nk rfl) rfl rfl ⟨rfl, rfl⟩
theorem c_impl_orders_1 {fu : Nat} {x0 : Int} {x1 : Int} {x2 : (List Int)} {x3 : (List ((List Int) × Unit))} {r : (List Int) × (List ((List Int) × Unit))} (h : Is (p_impl_orders_1 fu x0 x1 x2 x3) (some r)) :
    ACalls Try.prog 102 [.int .i64 x0, .ref 0 0, .ref 1 0, .ref 2 0, .ref 3 0] [(0, .var [.cell (.int .i64 x1)]), (1, .var [.cell (.os 4)]), (2, .var [.arr (.int .i64) 4 x2]), (3, .var [.cell (.fn 102 [.ref 0 0, .ref 1 0, .ref 2 0, .ref 3 0])]), (4, .row (.pair (.arr 4 (.int .i64)) .unit) x3)] (fun r' H' => r' = .tup [] ∧ H' = [(0, .var [.cell (.int .i64 x1)]), (1, .var [.cell (.os 5)]), (2, .var [.arr (.int .i64) 4 r.1]), (3, .var [.cell (.fn 102 [.ref 0 0, .ref 1 0, .ref 2 0, .ref 3 0])]), (5, .row (.pair (.arr 4 (.int .i64)) .unit) r.2)]) := by
  induction fu generalizing x0 x1 x2 x3 r with
  | zero => exact nomatch (h : none = some r)
  | succ fu ih =>
    rw [p_impl_orders_1.eq_2] at h
    refine ac_enter ⟨36, 5⟩ Try.func102 rfl rfl rfl rfl rfl (fun Γ => ?_)
    refine AW.sub (fr' := [(0, .int .i64 x0), (1, .ref 0 0), (2, .ref 1 0), (3, .ref 2 0), (4, .ref 3 0)]) (H' := [(0, .var [.cell (.int .i64 x1)]), (1, .var [.cell (.os 5)]), (2, .var [.arr (.int .i64) 4 x2]), (3, .var [.cell (.fn 102 [.ref 0 0, .ref 1 0, .ref 2 0, .ref 3 0])]), (5, .row (.pair (.arr 4 (.int .i64)) .unit) x3)]) (sub_mk (rn [(5, 4)]) (by exact ⟨⟨_, rfl, ad_ren rfl⟩, ⟨_, rfl, ad_ren rfl⟩, ⟨_, rfl, ad_ren rfl⟩, ⟨_, rfl, ad_ren rfl⟩, ⟨_, rfl, ad_ren rfl⟩, trivial⟩) (by exact ⟨⟨_, rfl, ⟨ad_ren rfl, rfl, trivial⟩⟩, ⟨_, rfl, ⟨ad_ren rfl, rfl, trivial⟩⟩, ⟨_, rfl, ⟨rfl, trivial⟩⟩, ⟨_, rfl, ⟨ad_ren rfl, rfl, trivial⟩⟩, ⟨_, rfl, rfl⟩, trivial⟩) (by rfl) (nkL rfl)) ?_
    refine row_len_m 5 (x3.length : Int) rfl rfl (fun hr5 => ?_)
    refine aw_seq ?_
    refine aw_seq ?_
    refine aw_region ?_
    refine ao_read trivial (r_move rfl) rfl ?_
    refine ao_read trivial (r_load_cell Try.isAgg3 rfl rfl rfl) rfl ?_
    refine ao_read trivial (r_eql rfl rfl) rfl ?_
    refine ao_nil ?_
    refine aq_then ?_
    refine aw_cond rfl (fun hb1 => ?_) (fun hb1 => ?_)
    · have q2 := d_t hb1
      replace h := is_if (d_t hb1) h
      refine aw_seq ?_
      refine aw_region ?_
      refine ao_read trivial (r_load_cell Try.isAgg46 rfl rfl rfl) rfl ?_
      refine ao_read trivial (r_load_part (τ := (.pair (.arr 4 (.int .i64)) .unit)) (y := ((x2, ()) : ((List Int) × Unit))) [] [] rfl Try.isAgg38 Try.sizeOf38 rfl rfl rfl rfl) rfl ?_
      refine ao_eff trivial (e_buildSlice (l := [(0, .tmp 11)]) (t := (.pair (.arr 4 (.int .i64)) .unit)) 6 ([(x2, ())] : (List ((List Int) × Unit))) rfl Try.underlying46 Try.zeroValue38 Try.sizeOf38 rfl rfl rfl rfl rfl rfl rfl) rfl ?_
      obtain ⟨g4, h⟩ := is_guard h
      refine ao_eff trivial (e_append (t := (.pair (.arr 4 (.int .i64)) .unit)) 7 rfl Try.underlying46 (rfl : Try.prog.info? 38 = some _) rfl rfl rfl rfl rfl rfl rfl (src_os rfl) (show x3.length + ([(x2, ())] : (List ((List Int) × Unit))).length ≤ 1000000000 from by (try simp only [List.length_cons, List.length_nil]) <;> omega) rfl rfl) rfl ?_
      refine ao_effS trivial (e_store rfl rfl rfl rfl Try.sizeOf46 rfl) ?_
      refine ao_nil ?_
      refine aq_then ?_
      refine aw_ret ?_
      refine aq_then_ret ?_
      refine aq_ret ?_
      obtain rfl := is_some h
      exact aq_finx (l := []) (xs := []) (rn [(5, 7)]) [] [(0, .var [.cell (.int .i64 x1)]), (1, .var [.cell (.os 5)]), (2, .var [.arr (.int .i64) 4 x2]), (3, .var [.cell (.fn 102 [.ref 0 0, .ref 1 0, .ref 2 0, .ref 3 0])]), (5, .row (.pair (.arr 4 (.int .i64)) .unit) ((x3 ++ [(x2, ())]) : (List ((List Int) × Unit))))] rfl (by exact trivial) (by exact trivial) (by exact ⟨⟨_, rfl, ⟨ad_ren rfl, rfl, trivial⟩⟩, ⟨_, rfl, ⟨ad_ren rfl, rfl, trivial⟩⟩, ⟨_, rfl, ⟨rfl, trivial⟩⟩, ⟨_, rfl, ⟨ad_ren rfl, rfl, trivial⟩⟩, ⟨_, rfl, rfl⟩, trivial⟩) rfl (nkL rfl) rfl rfl ⟨rfl, rfl⟩
    · have q3 := d_f hb1
      replace h := is_else (d_f hb1) h
      refine aw_skip ?_
      refine aq_then ?_
      refine aw_seq ?_
      refine aw_seq ?_
      refine aw_region ?_
      refine ao_read trivial (r_load_cell Try.isAgg3 rfl rfl rfl) rfl ?_
      refine ao_read trivial (r_move rfl) rfl ?_
      refine ao_nil ?_
      refine aq_then ?_
      refine aw_block ?_
      refine aw_loop (AL.sub (sub_mk idn (by exact ⟨⟨_, rfl, ad_ren rfl⟩, ⟨_, rfl, ad_ren rfl⟩, ⟨_, rfl, ad_ren rfl⟩, ⟨_, rfl, ad_ren rfl⟩, ⟨_, rfl, ad_ren rfl⟩, trivial⟩) (by exact ⟨⟨_, rfl, ⟨ad_ren rfl, rfl, trivial⟩⟩, ⟨_, rfl, ⟨ad_ren rfl, rfl, trivial⟩⟩, ⟨_, rfl, ⟨rfl, trivial⟩⟩, ⟨_, rfl, ⟨ad_ren rfl, rfl, trivial⟩⟩, ⟨_, rfl, rfl⟩, trivial⟩) (by rfl) (nkL rfl)) (al_whl (fun (s5 : Int × (List Int) × (List ((List Int) × Unit))) => [(0, .int .i64 x0), (3, .ref 2 0), (4, .ref 3 0), (14, .int .i64 x1), (15, .int .i64 s5.1)]) (fun (s5 : Int × (List Int) × (List ((List Int) × Unit))) => [(0, .var [.cell (.int .i64 x1)]), (1, .var [.cell (.os 5)]), (2, .var [.arr (.int .i64) 4 s5.2.1]), (3, .var [.cell (.fn 102 [.ref 0 0, .ref 1 0, .ref 2 0, .ref 3 0])]), (5, .row (.pair (.arr 4 (.int .i64)) .unit) s5.2.2)]) (fun (s5 : Int × (List Int) × (List ((List Int) × Unit))) => True) h trivial (fun d7 s5 hI h ih7 => ?_)))
      replace h := is_whlS h
      refine al_round ?_
      refine aw_seq ?_
      refine aw_region ?_
      refine ao_read trivial (r_lss rfl rfl) rfl ?_
      refine ao_nil ?_
      refine aq_then ?_
      refine aw_seq ?_
      refine aw_cond rfl (fun hb9 => ?_) (fun hb9 => ?_)
      · have q10 := d_t hb9
        replace h := is_if (d_t hb9) h
        refine aw_skip ?_
        refine aq_then ?_
        refine aw_seq ?_
        refine aw_block ?_
        refine aw_seq ?_
        refine aw_region ?_
        refine ao_read trivial (r_move rfl) rfl ?_
        refine ao_read trivial (r_assign rfl) rfl ?_
        refine ao_nil ?_
        refine aq_then ?_
        refine aw_seq ?_
        refine aw_region ?_
        refine ao_read trivial (r_fieldAddr Try.underlying38 rfl Try.sizeOf36 rfl rfl rfl) rfl ?_
        refine ao_read trivial (r_move rfl) rfl ?_
        obtain ⟨g12, h⟩ := is_guard h
        obtain ⟨g13, h⟩ := is_guard h
        refine ao_read trivial (r_slice_arr Try.underlying36 Try.sizeOf3 rfl .none (.some rfl) (by omega) (by omega) (by omega)) rfl ?_
        refine ao_read trivial (r_move rfl) rfl ?_
        refine ao_scall trivial (scall (c_slices_Contains_int_int (is_mk (rfl : p_slices_Contains_int_int ((s5.2.1.drop 0).take (x0 - 0).toNat) s5.1 = _))) rfl Try.func103 rfl rfl rfl rfl (fun σ => ⟨ad_viewv0 rfl rfl rfl rfl (by omega) rfl, ad_ren rfl, trivial⟩)) rfl ?_
        refine ao_read trivial (r_not rfl) rfl ?_
        refine ao_nil ?_
        refine aq_then ?_
        refine aw_cond rfl (fun hb14 => ?_) (fun hb14 => ?_)
        · replace h := is_else (ne_t (not_t hb14)) h
          refine aw_seq ?_
          refine aw_region ?_
          refine ao_read trivial (r_move rfl) rfl ?_
          refine ao_read trivial (r_move rfl) rfl ?_
          refine ao_read trivial (r_fieldAddr Try.underlying38 rfl Try.sizeOf36 rfl rfl rfl) rfl ?_
          obtain ⟨g15, h⟩ := is_guard h
          refine ao_read trivial (r_idxAddr_arr (i := x0) Try.underlying36 Try.sizeOf3 rfl rfl (show 0 ≤ x0 from by omega) (show x0 < (4 : Int) from by omega)) rfl ?_
          refine ao_effS trivial (e_store_elema_int Try.sizeOf3 rfl rfl rfl rfl (show x0.toNat < 4 from by omega) rfl) ?_
          refine ao_nil ?_
          refine aq_then ?_
          refine aw_region ?_
          refine ao_read trivial (r_load_cell Try.isAgg93 rfl rfl rfl) rfl ?_
          refine ao_read trivial (r_move rfl) rfl ?_
          refine ao_read trivial (r_addI rfl rfl (wrap_id (by omega) (by omega))) rfl ?_
          obtain ⟨r16, r16h, h⟩ := is_bind h
          refine ao_call [0, 1, 2, 3, 5] 6 trivial (ih (is_mk r16h)) Try.func102 rfl rfl rfl rfl ⟨ad_ren rfl, ad_ren rfl, ad_ren rfl, ad_ren rfl, ad_ren rfl, trivial⟩ ⟨⟨_, rfl, ⟨ad_ren rfl, rfl, trivial⟩⟩, ⟨_, rfl, ⟨ad_ren rfl, rfl, trivial⟩⟩, ⟨_, rfl, ⟨rfl, trivial⟩⟩, ⟨_, rfl, ⟨ad_ren rfl, rfl, trivial⟩⟩, ⟨_, rfl, rfl⟩, trivial⟩ rfl rfl rfl rfl rfl rfl rfl (fun r' H' hr => ?_)
          obtain ⟨rfl, rfl⟩ := hr
          refine ao_norm (y := .tup []) (H' := [(0, .var [.cell (.int .i64 x1)]), (1, .var [.cell (.os 6)]), (2, .var [.arr (.int .i64) 4 r16.1]), (3, .var [.cell (.fn 102 [.ref 0 0, .ref 1 0, .ref 2 0, .ref 3 0])]), (6, .row (.pair (.arr 4 (.int .i64)) .unit) r16.2)]) rfl rfl ?_
          refine ao_nil ?_
          refine aq_in ?_
          refine aq_then ?_
          refine aw_region ?_
          refine ao_read trivial (r_add rfl rfl) rfl ?_
          refine ao_read trivial (r_move rfl) rfl ?_
          refine ao_nil ?_
          exact aq_again (AL.sub (sub_mk (rn [(5, 6)]) (by exact ⟨⟨_, rfl, ad_ren rfl⟩, ⟨_, rfl, ad_ren rfl⟩, ⟨_, rfl, ad_ren rfl⟩, ⟨_, rfl, ad_ren rfl⟩, ⟨_, rfl, ad_ren rfl⟩, trivial⟩) (by exact ⟨⟨_, rfl, ⟨ad_ren rfl, rfl, trivial⟩⟩, ⟨_, rfl, ⟨ad_ren rfl, rfl, trivial⟩⟩, ⟨_, rfl, ⟨rfl, trivial⟩⟩, ⟨_, rfl, ⟨ad_ren rfl, rfl, trivial⟩⟩, ⟨_, rfl, rfl⟩, trivial⟩) (by rfl) (nkL rfl)) (ih7 ((IntKind.wrap .i64 (s5.1 + 1)), r16.1, r16.2) trivial h))
        · replace h := is_if (not_f hb14) h
          refine aw_skip ?_
          refine aq_in ?_
          refine aq_then ?_
          refine aw_region ?_
          refine ao_read trivial (r_add rfl rfl) rfl ?_
          refine ao_read trivial (r_move rfl) rfl ?_
          refine ao_nil ?_
          exact aq_again (AL.sub (sub_mk idn (by exact ⟨⟨_, rfl, ad_ren rfl⟩, ⟨_, rfl, ad_ren rfl⟩, ⟨_, rfl, ad_ren rfl⟩, ⟨_, rfl, ad_ren rfl⟩, ⟨_, rfl, ad_ren rfl⟩, trivial⟩) (by exact ⟨⟨_, rfl, ⟨ad_ren rfl, rfl, trivial⟩⟩, ⟨_, rfl, ⟨ad_ren rfl, rfl, trivial⟩⟩, ⟨_, rfl, ⟨rfl, trivial⟩⟩, ⟨_, rfl, ⟨ad_ren rfl, rfl, trivial⟩⟩, ⟨_, rfl, rfl⟩, trivial⟩) (by rfl) (nkL rfl)) (ih7 ((IntKind.wrap .i64 (s5.1 + 1)), s5.2.1, s5.2.2) trivial h))
      · have q11 := d_f hb9
        replace h := is_else (d_f hb9) h
        refine aw_exit ?_
        refine aq_then_exit ?_
        refine aq_then_exit ?_
        refine aq_in_exit ?_
        refine aq_then ?_
        refine aw_region ?_
        refine ao_read trivial (r_move rfl) rfl ?_
        refine ao_read trivial (r_fieldAddr Try.underlying38 rfl Try.sizeOf36 rfl rfl rfl) rfl ?_
        obtain ⟨g17, h⟩ := is_guard h
        obtain ⟨g18, h⟩ := is_guard h
        refine ao_read trivial (r_idxAddr_arr (i := x0) Try.underlying36 Try.sizeOf3 rfl rfl (show 0 ≤ x0 from by omega) (show x0 < (4 : Int) from by omega)) rfl ?_
        refine ao_effS trivial (e_store_elema_int Try.sizeOf3 rfl rfl rfl rfl (show x0.toNat < 4 from by omega) rfl) ?_
        refine ao_nil ?_
        refine aq_end ?_
        obtain rfl := is_some h
        exact aq_finx (l := []) (xs := []) idn [] [(0, .var [.cell (.int .i64 x1)]), (1, .var [.cell (.os 5)]), (2, .var [.arr (.int .i64) 4 ((s5.2.1.set x0.toNat (-1)) : (List Int))]), (3, .var [.cell (.fn 102 [.ref 0 0, .ref 1 0, .ref 2 0, .ref 3 0])]), (5, .row (.pair (.arr 4 (.int .i64)) .unit) s5.2.2)] rfl (by exact trivial) (by exact trivial) (by exact ⟨⟨_, rfl, ⟨ad_ren rfl, rfl, trivial⟩⟩, ⟨_, rfl, ⟨ad_ren rfl, rfl, trivial⟩⟩, ⟨_, rfl, ⟨rfl, trivial⟩⟩, ⟨_, rfl, ⟨ad_ren rfl, rfl, trivial⟩⟩, ⟨_, rfl, rfl⟩, trivial⟩) rfl (nkL rfl) rfl rfl ⟨rfl, rfl⟩
end Go.GA
