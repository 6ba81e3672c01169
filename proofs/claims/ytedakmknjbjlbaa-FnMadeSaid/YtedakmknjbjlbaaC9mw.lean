/- Walks: what the Go functions compute, by the printed lines below; no further conditions. -/
import Derived.Test.YtedakmknjbjlbaaC9md
import Derived.Test.YtedakmknjbjlbaaProg
namespace Go.GA
open Go Go.Proofs
set_option maxRecDepth 100000
set_option maxHeartbeats 2000000
set_option linter.unusedVariables false
set_option linter.unusedSimpArgs false
theorem c_laws_rBig {x0 : (List Int)} {r : Bool} (h : Is (p_laws_rBig x0) r) :
    Scalar Try.prog 7 [.v (.slice (.int .u8)) x0] (.bool r) := by
  unfold p_laws_rBig at h
  refine ac_enter ⟨6, 0⟩ Try.func7 rfl rfl rfl rfl rfl (fun Γ => ?_)
  refine sl_len_m 0 (x0.length : Int) rfl rfl (fun hl0 => ?_)
  refine aw_seq ?_
  refine aw_region ?_
  refine ao_read trivial (r_assign rfl) rfl ?_
  refine ao_nil ?_
  refine aq_then ?_
  refine aw_seq ?_
  refine aw_region ?_
  refine ao_read trivial (r_move rfl) rfl ?_
  refine ao_read trivial (r_len_vm (x0.length : Int) Try.underlying22 rfl rfl) rfl ?_
  refine ao_read trivial (r_gtr rfl rfl) rfl ?_
  refine ao_read trivial (r_assign rfl) rfl ?_
  refine ao_nil ?_
  refine aq_then ?_
  refine aw_ret ?_
  refine aq_ret ?_
  obtain rfl := is_eq h
  exact aq_finx (l := [.tmp 2]) (xs := [.bool (decide (65536 < (x0.length : Int)))]) idn [.bool (decide (65536 < (x0.length : Int)))] [] rfl (by exact ⟨rfl, trivial⟩) (by exact ⟨ad_ren rfl, trivial⟩) (by exact trivial) rfl (nk rfl) rfl rfl ⟨rfl, rfl⟩
theorem c_spec_l1Cur_next {x0 : (List Int)} {x1 : Int} {x2 : Int} {r : Int × Int × Int} (h : Is (p_spec_l1Cur_next x0 x1 x2) (some r)) :
    ACallsV Try.prog 165 [.ref 0 0] [(0, .var [.cell (.v (.slice (.int .u8)) x0), .cell (.int .i64 x1), .cell (.int .u64 x2)])] (fun r' H' => r' = .int .i64 r.1 ∧ H' = [(0, .var [.cell (.v (.slice (.int .u8)) x0), .cell (.int .i64 r.2.1), .cell (.int .u64 r.2.2)])]) := by
  unfold p_spec_l1Cur_next at h
  refine ac_enterV ⟨62, 1⟩ Try.func165 rfl rfl rfl rfl rfl (fun Γ => ?_)
  refine aw_seq ?_
  refine aw_region ?_
  refine ao_read trivial (r_assign rfl) rfl ?_
  refine ao_nil ?_
  refine aq_then ?_
  refine aw_seq ?_
  refine aw_region ?_
  refine ao_read trivial (r_assign rfl) rfl ?_
  refine ao_nil ?_
  refine aq_then ?_
  refine aw_join (fun (s1 : Int) => [(0, .ref 0 0), (3, .int .i64 s1)]) (fun (s1 : Int) => [(0, .var [.cell (.v (.slice (.int .u8)) x0), .cell (.int .i64 x1), .cell (.int .u64 x2)])]) (fun (s1 : Int) => True) h (fun s1 hI h => ?_) (fun h j3 => ?_)
  · refine aw_seq ?_
    refine aw_region ?_
    refine ao_read trivial (r_move rfl) rfl ?_
    refine ao_read trivial (r_nilCheck rfl rfl) rfl ?_
    refine ao_read trivial (r_fieldAddr Try.underlying98 rfl Try.sizeOf3 rfl rfl rfl) rfl ?_
    refine ao_read trivial (r_load_cell Try.isAgg3 rfl rfl rfl) rfl ?_
    refine ao_read trivial (r_add rfl rfl) rfl ?_
    refine ao_read trivial (r_nilCheck rfl rfl) rfl ?_
    refine ao_read trivial (r_fieldAddr Try.underlying98 rfl Try.sizeOf3 rfl rfl rfl) rfl ?_
    refine ao_effS trivial (e_store rfl rfl rfl rfl Try.sizeOf3 rfl) ?_
    refine ao_nil ?_
    refine aq_then ?_
    refine aw_seq ?_
    refine aw_region ?_
    refine ao_read trivial (r_move rfl) rfl ?_
    refine ao_read trivial (r_move rfl) rfl ?_
    refine ao_read trivial (r_nilCheck rfl rfl) rfl ?_
    refine ao_read trivial (r_fieldAddr Try.underlying98 rfl Try.sizeOf96 rfl rfl rfl) rfl ?_
    refine ao_read trivial (r_load_cell Try.isAgg96 rfl rfl rfl) rfl ?_
    refine ao_read trivial (r_mul rfl rfl) rfl ?_
    refine ao_read trivial (r_move rfl) rfl ?_
    refine ao_read trivial (r_conv Try.underlying3 Try.underlying96 rfl) rfl ?_
    refine ao_read trivial (r_add rfl rfl) rfl ?_
    refine ao_read trivial (r_add rfl rfl) rfl ?_
    refine ao_read trivial (r_nilCheck rfl rfl) rfl ?_
    refine ao_read trivial (r_fieldAddr Try.underlying98 rfl Try.sizeOf96 rfl rfl rfl) rfl ?_
    refine ao_effS trivial (e_store rfl rfl rfl rfl Try.sizeOf96 rfl) ?_
    refine ao_nil ?_
    refine aq_then ?_
    refine aw_seq ?_
    refine aw_seq ?_
    refine aw_drawAll (by kernel_rfl) ?_
    refine an_read 0 (by kernel_rfl) (fun _ _ _ h => h) rfl (by kernel_rfl) trivial (r_move rfl) rfl ?_
    refine an_read 1 (by kernel_rfl) (fun _ _ _ h => h) rfl (by kernel_rfl) trivial (r_nilCheck rfl rfl) rfl ?_
    refine an_read 2 (by kernel_rfl) (fun _ _ _ h => h) rfl (by kernel_rfl) trivial (r_fieldAddr Try.underlying98 rfl Try.sizeOf3 rfl rfl rfl) rfl ?_
    refine an_read 3 (by kernel_rfl) (fun _ _ _ h => h) rfl (by kernel_rfl) trivial (r_load_cell Try.isAgg3 rfl rfl rfl) rfl ?_
    refine an_read 4 (by kernel_rfl) (fun _ _ _ h => h) rfl (by kernel_rfl) trivial (r_move rfl) rfl ?_
    refine an_read 5 (by kernel_rfl) (fun _ _ _ h => h) rfl (by kernel_rfl) trivial (r_nilCheck rfl rfl) rfl ?_
    refine an_read 6 (by kernel_rfl) (fun _ _ _ h => h) rfl (by kernel_rfl) trivial (r_fieldAddr Try.underlying98 rfl Try.sizeOf22 rfl rfl rfl) rfl ?_
    refine an_read 7 (by kernel_rfl) (fun _ _ _ h => h) rfl (by kernel_rfl) trivial (r_load_cell Try.isAgg22 rfl rfl rfl) rfl ?_
    refine an_read 8 (by kernel_rfl) (fun _ _ _ h => h) rfl (by kernel_rfl) trivial (r_len_vm (x0.length : Int) Try.underlying22 rfl rfl) rfl ?_
    refine an_read 9 (by kernel_rfl) (fun _ _ _ h => h) rfl (by kernel_rfl) trivial (r_leq rfl rfl) rfl ?_
    refine an_done rfl ?_
    refine aq_then ?_
    refine aw_cond rfl (fun hb4 => ?_) (fun hb4 => ?_)
    · have q5 := d_t hb4
      replace h := is_if (d_t hb4) h
      refine aw_seq ?_
      refine aw_region ?_
      refine ao_read trivial (r_move rfl) rfl ?_
      refine ao_read trivial (r_assign rfl) rfl ?_
      refine ao_nil ?_
      refine aq_then ?_
      refine aw_ret ?_
      refine aq_then_ret ?_
      refine aq_ret ?_
      obtain rfl := is_some h
      exact aq_finV (l := [.tmp 2]) (xs := [.int .i64 s1]) idn [.int .i64 s1] [(0, .var [.cell (.v (.slice (.int .u8)) x0), .cell (.int .i64 (IntKind.wrap .i64 (x1 + 1))), .cell (.int .u64 (IntKind.wrap .u64 ((IntKind.wrap .u64 ((IntKind.wrap .u64 (x2 * 6364136223846793005)) + (IntKind.wrap .u64 s1))) + 462197)))])] rfl (by exact ⟨rfl, trivial⟩) (by exact ⟨ad_ren rfl, trivial⟩) (by exact ⟨⟨_, rfl, ⟨ad_ren rfl, rfl, ad_ren rfl, rfl, ad_ren rfl, rfl, trivial⟩⟩, trivial⟩) rfl (nk1 rfl rfl) ⟨rfl, rfl⟩
    · have q6 := d_f hb4
      replace h := is_else (d_f hb4) h
      refine aw_skip ?_
      refine aq_then ?_
      refine aw_seq ?_
      refine aw_region ?_
      refine ao_read trivial (r_move rfl) rfl ?_
      refine ao_read trivial (r_nilCheck rfl rfl) rfl ?_
      refine ao_read trivial (r_fieldAddr Try.underlying98 rfl Try.sizeOf96 rfl rfl rfl) rfl ?_
      refine ao_read trivial (r_load_cell Try.isAgg96 rfl rfl rfl) rfl ?_
      refine ao_read trivial (r_shr rfl rfl (by omega)) rfl ?_
      refine ao_read trivial (r_and rfl rfl) rfl ?_
      refine ao_read trivial (r_conv Try.underlying96 Try.underlying3 rfl) rfl ?_
      refine ao_read trivial (r_assign rfl) rfl ?_
      refine ao_nil ?_
      refine aq_then ?_
      refine aw_ret ?_
      refine aq_ret ?_
      obtain rfl := is_some h
      exact aq_finV (l := [.tmp 2]) (xs := [.int .i64 (IntKind.wrap .i64 (andI .u64 (shrI .u64 (IntKind.wrap .u64 ((IntKind.wrap .u64 ((IntKind.wrap .u64 (x2 * 6364136223846793005)) + (IntKind.wrap .u64 s1))) + 462197)) 40) 255))]) idn [.int .i64 (IntKind.wrap .i64 (andI .u64 (shrI .u64 (IntKind.wrap .u64 ((IntKind.wrap .u64 ((IntKind.wrap .u64 (x2 * 6364136223846793005)) + (IntKind.wrap .u64 s1))) + 462197)) 40) 255))] [(0, .var [.cell (.v (.slice (.int .u8)) x0), .cell (.int .i64 (IntKind.wrap .i64 (x1 + 1))), .cell (.int .u64 (IntKind.wrap .u64 ((IntKind.wrap .u64 ((IntKind.wrap .u64 (x2 * 6364136223846793005)) + (IntKind.wrap .u64 s1))) + 462197)))])] rfl (by exact ⟨rfl, trivial⟩) (by exact ⟨ad_ren rfl, trivial⟩) (by exact ⟨⟨_, rfl, ⟨ad_ren rfl, rfl, ad_ren rfl, rfl, ad_ren rfl, rfl, trivial⟩⟩, trivial⟩) rfl (nk1 rfl rfl) ⟨rfl, rfl⟩
  · refine aw_seq ?_
    refine aw_drawAll (by kernel_rfl) ?_
    refine an_read 0 (by kernel_rfl) (fun _ _ _ h => h) rfl (by kernel_rfl) trivial (r_move rfl) rfl ?_
    refine an_read 1 (by kernel_rfl) (fun _ _ _ h => h) rfl (by kernel_rfl) trivial (r_nilCheck rfl rfl) rfl ?_
    refine an_read 2 (by kernel_rfl) (fun _ _ _ h => h) rfl (by kernel_rfl) trivial (r_fieldAddr Try.underlying98 rfl Try.sizeOf3 rfl rfl rfl) rfl ?_
    refine an_read 3 (by kernel_rfl) (fun _ _ _ h => h) rfl (by kernel_rfl) trivial (r_load_cell Try.isAgg3 rfl rfl rfl) rfl ?_
    refine an_read 4 (by kernel_rfl) (fun _ _ _ h => h) rfl (by kernel_rfl) trivial (r_move rfl) rfl ?_
    refine an_read 5 (by kernel_rfl) (fun _ _ _ h => h) rfl (by kernel_rfl) trivial (r_nilCheck rfl rfl) rfl ?_
    refine an_read 6 (by kernel_rfl) (fun _ _ _ h => h) rfl (by kernel_rfl) trivial (r_fieldAddr Try.underlying98 rfl Try.sizeOf22 rfl rfl rfl) rfl ?_
    refine an_read 7 (by kernel_rfl) (fun _ _ _ h => h) rfl (by kernel_rfl) trivial (r_load_cell Try.isAgg22 rfl rfl rfl) rfl ?_
    refine an_read 8 (by kernel_rfl) (fun _ _ _ h => h) rfl (by kernel_rfl) trivial (r_len_vm (x0.length : Int) Try.underlying22 rfl rfl) rfl ?_
    refine an_read 9 (by kernel_rfl) (fun _ _ _ h => h) rfl (by kernel_rfl) trivial (r_lss rfl rfl) rfl ?_
    refine an_done rfl ?_
    refine aq_then ?_
    refine aw_cond rfl (fun hb7 => ?_) (fun hb7 => ?_)
    · have q8 := d_t hb7
      replace h := is_if (d_t hb7) h
      obtain ⟨g10, h⟩ := is_guard h
      refine aw_drawAll (by kernel_rfl) ?_
      refine an_read 0 (by kernel_rfl) (fun _ _ _ h => h) rfl (by kernel_rfl) trivial (r_move rfl) rfl ?_
      refine an_read 1 (by kernel_rfl) (fun _ _ _ h => h) rfl (by kernel_rfl) trivial (r_nilCheck rfl rfl) rfl ?_
      refine an_read 2 (by kernel_rfl) (fun _ _ _ h => h) rfl (by kernel_rfl) trivial (r_fieldAddr Try.underlying98 rfl Try.sizeOf22 rfl rfl rfl) rfl ?_
      refine an_read 3 (by kernel_rfl) (fun _ _ _ h => h) rfl (by kernel_rfl) trivial (r_load_cell Try.isAgg22 rfl rfl rfl) rfl ?_
      refine an_read 4 (by kernel_rfl) (fun _ _ _ h => h) rfl (by kernel_rfl) trivial (r_move rfl) rfl ?_
      refine an_read 5 (by kernel_rfl) (fun _ _ _ h => h) rfl (by kernel_rfl) trivial (r_nilCheck rfl rfl) rfl ?_
      refine an_read 6 (by kernel_rfl) (fun _ _ _ h => h) rfl (by kernel_rfl) trivial (r_fieldAddr Try.underlying98 rfl Try.sizeOf3 rfl rfl rfl) rfl ?_
      refine an_read 7 (by kernel_rfl) (fun _ _ _ h => h) rfl (by kernel_rfl) trivial (r_load_cell Try.isAgg3 rfl rfl rfl) rfl ?_
      refine an_read 8 (by kernel_rfl) (fun _ _ _ h => h) rfl (by kernel_rfl) trivial (r_idxAddr_int Try.underlying22 Try.sizeOf5 rfl rfl (by omega) (show x1 < (x0.length : Int) from by omega)) rfl ?_
      refine an_read 9 (by kernel_rfl) (fun _ _ _ h => h) rfl (by kernel_rfl) trivial (r_load_c_int Try.isAgg5 Try.sizeOf5 rfl) rfl ?_
      refine an_read 10 (by kernel_rfl) (fun _ _ _ h => h) rfl (by kernel_rfl) trivial (r_conv Try.underlying5 Try.underlying3 rfl) rfl ?_
      refine an_read 11 (by kernel_rfl) (fun _ _ _ h => h) rfl (by kernel_rfl) trivial (r_assign rfl) rfl ?_
      refine an_done rfl ?_
      exact aq_then (AW.sub (sub_mk idn (by exact ⟨⟨_, rfl, ad_ren rfl⟩, ⟨_, rfl, ad_ren rfl⟩, trivial⟩) (by exact ⟨⟨_, rfl, ⟨ad_ren rfl, rfl, ad_ren rfl, rfl, ad_ren rfl, rfl, trivial⟩⟩, trivial⟩) (by rfl) (nk1 rfl rfl)) (j3 (IntKind.wrap .i64 (x0.getD x1.toNat 0)) trivial h))
    · have q9 := d_f hb7
      replace h := is_else (d_f hb7) h
      refine aw_skip ?_
      exact aq_then (AW.sub (sub_mk idn (by exact ⟨⟨_, rfl, ad_ren rfl⟩, ⟨_, rfl, ad_ren rfl⟩, trivial⟩) (by exact ⟨⟨_, rfl, ⟨ad_ren rfl, rfl, ad_ren rfl, rfl, ad_ren rfl, rfl, trivial⟩⟩, trivial⟩) (by rfl) (nk1 rfl rfl)) (j3 0 trivial h))
theorem c_spec_l1Cur_pick {x0 : Int} {x1 : (List Int)} {x2 : Int} {x3 : Int} {r : Int × Int × Int} (h : Is (p_spec_l1Cur_pick x0 x1 x2 x3) (some r)) :
    ACallsV Try.prog 103 [.ref 0 0, .int .i64 x0] [(0, .var [.cell (.v (.slice (.int .u8)) x1), .cell (.int .i64 x2), .cell (.int .u64 x3)])] (fun r' H' => r' = .int .i64 r.1 ∧ H' = [(0, .var [.cell (.v (.slice (.int .u8)) x1), .cell (.int .i64 r.2.1), .cell (.int .u64 r.2.2)])]) := by
  unfold p_spec_l1Cur_pick at h
  refine ac_enterV ⟨20, 1⟩ Try.func103 rfl rfl rfl rfl rfl (fun Γ => ?_)
  refine aw_seq ?_
  refine aw_region ?_
  refine ao_read trivial (r_assign rfl) rfl ?_
  refine ao_nil ?_
  refine aq_then ?_
  refine aw_seq ?_
  refine aw_seq ?_
  refine aw_region ?_
  refine ao_read trivial (r_move rfl) rfl ?_
  refine ao_read trivial (r_leq rfl rfl) rfl ?_
  refine ao_nil ?_
  refine aq_then ?_
  refine aw_cond rfl (fun hb1 => ?_) (fun hb1 => ?_)
  · have q2 := d_t hb1
    replace h := is_if (d_t hb1) h
    refine aw_seq ?_
    refine aw_region ?_
    refine ao_read trivial (r_assign rfl) rfl ?_
    refine ao_nil ?_
    refine aq_then ?_
    refine aw_ret ?_
    refine aq_then_ret ?_
    refine aq_ret ?_
    obtain rfl := is_some h
    exact aq_finV (l := [.tmp 4]) (xs := [.int .i64 0]) idn [.int .i64 0] [(0, .var [.cell (.v (.slice (.int .u8)) x1), .cell (.int .i64 x2), .cell (.int .u64 x3)])] rfl (by exact ⟨rfl, trivial⟩) (by exact ⟨ad_ren rfl, trivial⟩) (by exact ⟨⟨_, rfl, ⟨ad_ren rfl, rfl, ad_ren rfl, rfl, ad_ren rfl, rfl, trivial⟩⟩, trivial⟩) rfl (nk1 rfl rfl) ⟨rfl, rfl⟩
  · have q3 := d_f hb1
    replace h := is_else (d_f hb1) h
    refine aw_skip ?_
    refine aq_then ?_
    refine aw_seq ?_
    refine aw_region ?_
    refine ao_read trivial (r_move rfl) rfl ?_
    obtain ⟨r4, r4h, h⟩ := is_bind h
    refine ao_callV [0] 1 trivial (c_spec_l1Cur_next (is_mk r4h)) Try.func165 rfl rfl rfl rfl rfl ⟨rfl, trivial⟩ ⟨⟨_, rfl, ⟨ad_ren rfl, rfl, ad_ren rfl, rfl, ad_ren rfl, rfl, trivial⟩⟩, trivial⟩ rfl rfl rfl rfl rfl rfl rfl (fun r' H' hr => ?_)
    obtain ⟨rfl, rfl⟩ := hr
    refine ao_norm (y := .int .i64 r4.1) (H' := [(0, .var [.cell (.v (.slice (.int .u8)) x1), .cell (.int .i64 r4.2.1), .cell (.int .u64 r4.2.2)])]) rfl rfl ?_
    refine ao_read trivial (r_assign rfl) rfl ?_
    refine ao_nil ?_
    refine aq_then ?_
    refine aw_seq ?_
    refine aw_seq ?_
    refine aw_region ?_
    refine ao_read trivial (r_move rfl) rfl ?_
    refine ao_read trivial (r_gtr rfl rfl) rfl ?_
    refine ao_nil ?_
    refine aq_then ?_
    refine aw_cond rfl (fun hb5 => ?_) (fun hb5 => ?_)
    · have q6 := d_t hb5
      replace h := is_if (d_t hb5) h
      refine aw_region ?_
      refine ao_read trivial (r_move rfl) rfl ?_
      refine ao_read trivial (r_mul rfl rfl) rfl ?_
      refine ao_read trivial (r_move rfl) rfl ?_
      obtain ⟨r8, r8h, h⟩ := is_bind h
      refine ao_callV [0] 1 trivial (c_spec_l1Cur_next (is_mk r8h)) Try.func165 rfl rfl rfl rfl rfl ⟨rfl, trivial⟩ ⟨⟨_, rfl, ⟨ad_ren rfl, rfl, ad_ren rfl, rfl, ad_ren rfl, rfl, trivial⟩⟩, trivial⟩ rfl rfl rfl rfl rfl rfl rfl (fun r' H' hr => ?_)
      obtain ⟨rfl, rfl⟩ := hr
      refine ao_norm (y := .int .i64 r8.1) (H' := [(0, .var [.cell (.v (.slice (.int .u8)) x1), .cell (.int .i64 r8.2.1), .cell (.int .u64 r8.2.2)])]) rfl rfl ?_
      refine ao_read trivial (r_add rfl rfl) rfl ?_
      refine ao_read trivial (r_assign rfl) rfl ?_
      refine ao_nil ?_
      refine aq_then ?_
      refine aw_seq ?_
      refine aw_region ?_
      refine ao_read trivial (r_move rfl) rfl ?_
      refine ao_read trivial (r_move rfl) rfl ?_
      refine ao_read trivial (r_rem rfl rfl (by omega)) rfl ?_
      refine ao_read trivial (r_assign rfl) rfl ?_
      refine ao_nil ?_
      refine aq_then ?_
      refine aw_ret ?_
      refine aq_ret ?_
      obtain rfl := is_some h
      exact aq_finV (l := [.tmp 4]) (xs := [.int .i64 ((IntKind.wrap .i64 ((IntKind.wrap .i64 (r4.1 * 256)) + r8.1)).tmod x0)]) idn [.int .i64 ((IntKind.wrap .i64 ((IntKind.wrap .i64 (r4.1 * 256)) + r8.1)).tmod x0)] [(0, .var [.cell (.v (.slice (.int .u8)) x1), .cell (.int .i64 r8.2.1), .cell (.int .u64 r8.2.2)])] rfl (by exact ⟨rfl, trivial⟩) (by exact ⟨ad_ren rfl, trivial⟩) (by exact ⟨⟨_, rfl, ⟨ad_ren rfl, rfl, ad_ren rfl, rfl, ad_ren rfl, rfl, trivial⟩⟩, trivial⟩) rfl (nk1 rfl rfl) ⟨rfl, rfl⟩
    · have q7 := d_f hb5
      replace h := is_else (d_f hb5) h
      refine aw_skip ?_
      refine aq_then ?_
      refine aw_seq ?_
      refine aw_region ?_
      refine ao_read trivial (r_move rfl) rfl ?_
      refine ao_read trivial (r_move rfl) rfl ?_
      refine ao_read trivial (r_rem rfl rfl (by omega)) rfl ?_
      refine ao_read trivial (r_assign rfl) rfl ?_
      refine ao_nil ?_
      refine aq_then ?_
      refine aw_ret ?_
      refine aq_ret ?_
      obtain rfl := is_some h
      exact aq_finV (l := [.tmp 4]) (xs := [.int .i64 (r4.1.tmod x0)]) idn [.int .i64 (r4.1.tmod x0)] [(0, .var [.cell (.v (.slice (.int .u8)) x1), .cell (.int .i64 r4.2.1), .cell (.int .u64 r4.2.2)])] rfl (by exact ⟨rfl, trivial⟩) (by exact ⟨ad_ren rfl, trivial⟩) (by exact ⟨⟨_, rfl, ⟨ad_ren rfl, rfl, ad_ren rfl, rfl, ad_ren rfl, rfl, trivial⟩⟩, trivial⟩) rfl (nk1 rfl rfl) ⟨rfl, rfl⟩
theorem c_spec_l1Cur_among {x0 : (List Int)} {x1 : (List Int)} {x2 : Int} {x3 : Int} {r : Int × Int × Int} (h : Is (p_spec_l1Cur_among x0 x1 x2 x3) (some r)) :
    ACallsV Try.prog 97 [.ref 0 0, .v (.slice (.int .i64)) x0] [(0, .var [.cell (.v (.slice (.int .u8)) x1), .cell (.int .i64 x2), .cell (.int .u64 x3)])] (fun r' H' => r' = .int .i64 r.1 ∧ H' = [(0, .var [.cell (.v (.slice (.int .u8)) x1), .cell (.int .i64 r.2.1), .cell (.int .u64 r.2.2)])]) := by
  unfold p_spec_l1Cur_among at h
  refine ac_enterV ⟨12, 1⟩ Try.func97 rfl rfl rfl rfl rfl (fun Γ => ?_)
  refine sl_len_m 1 (x0.length : Int) rfl rfl (fun hl1 => ?_)
  refine aw_seq ?_
  refine aw_region ?_
  refine ao_read trivial (r_assign rfl) rfl ?_
  refine ao_nil ?_
  refine aq_then ?_
  refine aw_seq ?_
  refine aw_region ?_
  refine ao_read trivial (r_move rfl) rfl ?_
  refine ao_read trivial (r_move rfl) rfl ?_
  refine ao_read trivial (r_move rfl) rfl ?_
  refine ao_read trivial (r_len_vm (x0.length : Int) Try.underlying24 rfl rfl) rfl ?_
  obtain ⟨r1, r1h, h⟩ := is_bind h
  refine ao_callV [0] 1 trivial (c_spec_l1Cur_pick (is_mk r1h)) Try.func103 rfl rfl rfl rfl rfl ⟨rfl, trivial⟩ ⟨⟨_, rfl, ⟨ad_ren rfl, rfl, ad_ren rfl, rfl, ad_ren rfl, rfl, trivial⟩⟩, trivial⟩ rfl rfl rfl rfl rfl rfl rfl (fun r' H' hr => ?_)
  obtain ⟨rfl, rfl⟩ := hr
  refine ao_norm (y := .int .i64 r1.1) (H' := [(0, .var [.cell (.v (.slice (.int .u8)) x1), .cell (.int .i64 r1.2.1), .cell (.int .u64 r1.2.2)])]) rfl rfl ?_
  obtain ⟨g2, h⟩ := is_guard h
  obtain ⟨g3, h⟩ := is_guard h
  refine ao_read trivial (r_idxAddr_int Try.underlying24 Try.sizeOf3 rfl rfl (by omega) (show r1.1 < (x0.length : Int) from by omega)) rfl ?_
  refine ao_read trivial (r_load_c_int Try.isAgg3 Try.sizeOf3 rfl) rfl ?_
  refine ao_read trivial (r_assign rfl) rfl ?_
  refine ao_nil ?_
  refine aq_then ?_
  refine aw_ret ?_
  refine aq_ret ?_
  obtain rfl := is_some h
  exact aq_finV (l := [.tmp 4]) (xs := [.int .i64 (x0.getD r1.1.toNat 0)]) idn [.int .i64 (x0.getD r1.1.toNat 0)] [(0, .var [.cell (.v (.slice (.int .u8)) x1), .cell (.int .i64 r1.2.1), .cell (.int .u64 r1.2.2)])] rfl (by exact ⟨rfl, trivial⟩) (by exact ⟨ad_ren rfl, trivial⟩) (by exact ⟨⟨_, rfl, ⟨ad_ren rfl, rfl, ad_ren rfl, rfl, ad_ren rfl, rfl, trivial⟩⟩, trivial⟩) rfl (nk1 rfl rfl) ⟨rfl, rfl⟩
theorem c_spec_l1Cur_size {x0 : (List Int)} {x1 : Int} {x2 : Int} {r : Int × Int × Int} (h : Is (p_spec_l1Cur_size x0 x1 x2) (some r)) :
    ACallsV Try.prog 86 [.ref 0 0] [(0, .var [.cell (.v (.slice (.int .u8)) x0), .cell (.int .i64 x1), .cell (.int .u64 x2)])] (fun r' H' => r' = .int .i64 r.1 ∧ H' = [(0, .var [.cell (.v (.slice (.int .u8)) x0), .cell (.int .i64 r.2.1), .cell (.int .u64 r.2.2)])]) := by
  unfold p_spec_l1Cur_size at h
  refine ac_enterV ⟨6, 1⟩ Try.func86 rfl rfl rfl rfl rfl (fun Γ => ?_)
  refine aw_seq ?_
  refine aw_region ?_
  refine ao_read trivial (r_assign rfl) rfl ?_
  refine ao_nil ?_
  refine aq_then ?_
  refine aw_seq ?_
  refine aw_region ?_
  refine ao_read trivial (r_move rfl) rfl ?_
  refine ao_eff trivial (e_buildSlice (l := [(0, .const (.int .i64 4)), (1, .const (.int .i64 5)), (2, .const (.int .i64 2)), (3, .const (.int .i64 7)), (4, .const (.int .i64 10)), (5, .const (.int .i64 6)), (6, .const (.int .i64 12)), (7, .const (.int .i64 36)), (8, .const (.int .i64 35)), (9, .const (.int .i64 100)), (10, .const (.int .i64 216)), (11, .const (.int .i64 1000)), (12, .const (.int .i64 1)), (13, .const (.int .i64 0)), (14, .const (.int .i64 1001)), (15, .const (.int .i64 3))]) (t := (.int .i64)) 1 ([4, 5, 2, 7, 10, 6, 12, 36, 35, 100, 216, 1000, 1, 0, 1001, 3] : (List Int)) rfl Try.underlying24 Try.zeroValue3 Try.sizeOf3 rfl rfl rfl rfl rfl rfl rfl) rfl ?_
  obtain ⟨r1, r1h, h⟩ := is_bind h
  refine ao_frz (fr' := [(0, .ref 0 0), (2, .int .i64 0), (3, .ref 0 0), (4, .v (.slice (.int .i64)) ([4, 5, 2, 7, 10, 6, 12, 36, 35, 100, 216, 1000, 1, 0, 1001, 3] : (List Int)))]) (H' := [(0, .var [.cell (.v (.slice (.int .u8)) x0), .cell (.int .i64 x1), .cell (.int .u64 x2)])]) (by exact ⟨⟨_, rfl, ad_ren rfl⟩, ⟨_, rfl, ad_ren rfl⟩, ⟨_, rfl, ad_ren rfl⟩, ⟨_, rfl, ad_osB rfl rfl⟩, trivial⟩) (by exact ⟨⟨_, rfl, ⟨ad_ren rfl, rfl, ad_ren rfl, rfl, ad_ren rfl, rfl, trivial⟩⟩, trivial⟩) rfl ?_
  refine ao_callV [0] 2 trivial (c_spec_l1Cur_among (is_mk r1h)) Try.func97 rfl rfl rfl rfl rfl ⟨rfl, trivial⟩ ⟨⟨_, rfl, ⟨ad_ren rfl, rfl, ad_ren rfl, rfl, ad_ren rfl, rfl, trivial⟩⟩, trivial⟩ rfl rfl rfl rfl rfl rfl rfl (fun r' H' hr => ?_)
  obtain ⟨rfl, rfl⟩ := hr
  refine ao_norm (y := .int .i64 r1.1) (H' := [(0, .var [.cell (.v (.slice (.int .u8)) x0), .cell (.int .i64 r1.2.1), .cell (.int .u64 r1.2.2)])]) rfl rfl ?_
  refine ao_read trivial (r_assign rfl) rfl ?_
  refine ao_nil ?_
  refine aq_then ?_
  refine aw_ret ?_
  refine aq_ret ?_
  obtain rfl := is_some h
  exact aq_finV (l := [.tmp 2]) (xs := [.int .i64 r1.1]) idn [.int .i64 r1.1] [(0, .var [.cell (.v (.slice (.int .u8)) x0), .cell (.int .i64 r1.2.1), .cell (.int .u64 r1.2.2)])] rfl (by exact ⟨rfl, trivial⟩) (by exact ⟨ad_ren rfl, trivial⟩) (by exact ⟨⟨_, rfl, ⟨ad_ren rfl, rfl, ad_ren rfl, rfl, ad_ren rfl, rfl, trivial⟩⟩, trivial⟩) rfl (nk1 rfl rfl) ⟨rfl, rfl⟩
theorem c_spec_l1Cur_one {x0 : Int} {x1 : (List Int)} {x2 : Int} {x3 : Int} {r : Bool × Int × Int} (h : Is (p_spec_l1Cur_one x0 x1 x2 x3) (some r)) :
    ACallsV Try.prog 102 [.ref 0 0, .int .i64 x0] [(0, .var [.cell (.v (.slice (.int .u8)) x1), .cell (.int .i64 x2), .cell (.int .u64 x3)])] (fun r' H' => r' = .bool r.1 ∧ H' = [(0, .var [.cell (.v (.slice (.int .u8)) x1), .cell (.int .i64 r.2.1), .cell (.int .u64 r.2.2)])]) := by
  unfold p_spec_l1Cur_one at h
  refine ac_enterV ⟨9, 1⟩ Try.func102 rfl rfl rfl rfl rfl (fun Γ => ?_)
  refine aw_seq ?_
  refine aw_region ?_
  refine ao_read trivial (r_assign rfl) rfl ?_
  refine ao_nil ?_
  refine aq_then ?_
  refine aw_seq ?_
  refine aw_region ?_
  refine ao_read trivial (r_move rfl) rfl ?_
  refine ao_read trivial (r_move rfl) rfl ?_
  obtain ⟨r1, r1h, h⟩ := is_bind h
  refine ao_callV [0] 1 trivial (c_spec_l1Cur_pick (is_mk r1h)) Try.func103 rfl rfl rfl rfl rfl ⟨rfl, trivial⟩ ⟨⟨_, rfl, ⟨ad_ren rfl, rfl, ad_ren rfl, rfl, ad_ren rfl, rfl, trivial⟩⟩, trivial⟩ rfl rfl rfl rfl rfl rfl rfl (fun r' H' hr => ?_)
  obtain ⟨rfl, rfl⟩ := hr
  refine ao_norm (y := .int .i64 r1.1) (H' := [(0, .var [.cell (.v (.slice (.int .u8)) x1), .cell (.int .i64 r1.2.1), .cell (.int .u64 r1.2.2)])]) rfl rfl ?_
  refine ao_read trivial (r_eql rfl rfl) rfl ?_
  refine ao_read trivial (r_assign rfl) rfl ?_
  refine ao_nil ?_
  refine aq_then ?_
  refine aw_ret ?_
  refine aq_ret ?_
  obtain rfl := is_some h
  exact aq_finV (l := [.tmp 4]) (xs := [.bool (decide (r1.1 = 0))]) idn [.bool (decide (r1.1 = 0))] [(0, .var [.cell (.v (.slice (.int .u8)) x1), .cell (.int .i64 r1.2.1), .cell (.int .u64 r1.2.2)])] rfl (by exact ⟨rfl, trivial⟩) (by exact ⟨ad_ren rfl, trivial⟩) (by exact ⟨⟨_, rfl, ⟨ad_ren rfl, rfl, ad_ren rfl, rfl, ad_ren rfl, rfl, trivial⟩⟩, trivial⟩) rfl (nk1 rfl rfl) ⟨rfl, rfl⟩
theorem c_spec_l1Cur_throws {fu : Nat} {x0 : (List Int)} {x1 : (List Int)} {x2 : Int} {x3 : Int} {r : (List Int) × Int × Int} (h : Is (p_spec_l1Cur_throws fu x0 x1 x2 x3) (some r)) :
    ACallsV Try.prog 87 [.ref 0 0, .v (.slice (.int .i64)) x0] [(0, .var [.cell (.v (.slice (.int .u8)) x1), .cell (.int .i64 x2), .cell (.int .u64 x3)])] (fun r' H' => r' = .os 1 ∧ H' = [(0, .var [.cell (.v (.slice (.int .u8)) x1), .cell (.int .i64 r.2.1), .cell (.int .u64 r.2.2)]), (1, .row (.int .i64) r.1)]) := by
  unfold p_spec_l1Cur_throws at h
  refine ac_enterV ⟨37, 1⟩ Try.func87 rfl rfl rfl rfl rfl (fun Γ => ?_)
  refine sl_len_m 1 (x0.length : Int) rfl rfl (fun hl1 => ?_)
  refine aw_seq ?_
  refine aw_region ?_
  refine ao_read trivial (r_assign rfl) rfl ?_
  refine ao_nil ?_
  refine aq_then ?_
  refine aw_seq ?_
  refine aw_region ?_
  refine ao_eff trivial (e_buildSlice (l := []) (t := (.int .i64)) 1 ([] : (List Int)) rfl Try.underlying24 Try.zeroValue3 Try.sizeOf3 rfl rfl rfl rfl rfl rfl rfl) rfl ?_
  refine ao_read trivial (r_assign rfl) rfl ?_
  refine ao_nil ?_
  refine aq_then ?_
  refine aw_seq ?_
  refine aw_seq ?_
  refine aw_region ?_
  refine ao_read trivial (r_move rfl) rfl ?_
  refine ao_read trivial (r_move rfl) rfl ?_
  obtain ⟨r1, r1h, h⟩ := is_bind h
  refine ao_callV [0] 2 trivial (c_spec_l1Cur_among (is_mk r1h)) Try.func97 rfl rfl rfl rfl rfl ⟨rfl, trivial⟩ ⟨⟨_, rfl, ⟨ad_ren rfl, rfl, ad_ren rfl, rfl, ad_ren rfl, rfl, trivial⟩⟩, trivial⟩ rfl rfl rfl rfl rfl rfl rfl (fun r' H' hr => ?_)
  obtain ⟨rfl, rfl⟩ := hr
  refine ao_norm (y := .int .i64 r1.1) (H' := [(1, .row (.int .i64) ([] : (List Int))), (0, .var [.cell (.v (.slice (.int .u8)) x1), .cell (.int .i64 r1.2.1), .cell (.int .u64 r1.2.2)])]) rfl rfl ?_
  refine ao_read trivial (r_assign rfl) rfl ?_
  refine ao_nil ?_
  refine aq_then ?_
  refine aw_block ?_
  refine aw_loop (AL.sub (sub_mk idn (by exact ⟨⟨_, rfl, ad_ren rfl⟩, ⟨_, rfl, ad_ren rfl⟩, ⟨_, rfl, ad_ren rfl⟩, trivial⟩) (by exact ⟨⟨_, rfl, ⟨ad_ren rfl, rfl, ad_ren rfl, rfl, ad_ren rfl, rfl, trivial⟩⟩, ⟨_, rfl, rfl⟩, trivial⟩) (by rfl) (nk1 rfl rfl)) (al_whl (fun (s2 : Int × Int × Int × (List Int)) => [(0, .ref 0 0), (5, .os 1), (6, .int .i64 s2.1)]) (fun (s2 : Int × Int × Int × (List Int)) => [(0, .var [.cell (.v (.slice (.int .u8)) x1), .cell (.int .i64 s2.2.1), .cell (.int .u64 s2.2.2.1)]), (1, .row (.int .i64) s2.2.2.2)]) (fun (s2 : Int × Int × Int × (List Int)) => True) h trivial (fun d4 s2 hI h ih4 => ?_)))
  replace h := is_whlS h
  refine al_round ?_
  refine aw_seq ?_
  refine aw_seq ?_
  refine aw_region ?_
  refine ao_read trivial (r_move rfl) rfl ?_
  refine ao_read trivial (r_gtr rfl rfl) rfl ?_
  refine ao_nil ?_
  refine aq_then ?_
  refine aw_cond rfl (fun hb6 => ?_) (fun hb6 => ?_)
  · have q7 := d_t hb6
    replace h := is_if (d_t hb6) h
    refine aw_skip ?_
    refine aq_then ?_
    refine aw_seq ?_
    refine aw_block ?_
    refine aw_region ?_
    refine ao_read trivial (r_move rfl) rfl ?_
    refine ao_read trivial (r_move rfl) rfl ?_
    obtain ⟨r9, r9h, h⟩ := is_bind h
    refine ao_callV [0] 2 trivial (c_spec_l1Cur_pick (is_mk r9h)) Try.func103 rfl rfl rfl rfl rfl ⟨rfl, trivial⟩ ⟨⟨_, rfl, ⟨ad_ren rfl, rfl, ad_ren rfl, rfl, ad_ren rfl, rfl, trivial⟩⟩, trivial⟩ rfl rfl rfl rfl rfl rfl rfl (fun r' H' hr => ?_)
    obtain ⟨rfl, rfl⟩ := hr
    refine ao_norm (y := .int .i64 r9.1) (H' := [(1, .row (.int .i64) s2.2.2.2), (0, .var [.cell (.v (.slice (.int .u8)) x1), .cell (.int .i64 r9.2.1), .cell (.int .u64 r9.2.2)])]) rfl rfl ?_
    refine ao_eff trivial (e_buildSlice (l := [(0, .tmp 17)]) (t := (.int .i64)) 2 ([r9.1] : (List Int)) rfl Try.underlying24 Try.zeroValue3 Try.sizeOf3 rfl rfl rfl rfl rfl rfl rfl) rfl ?_
    obtain ⟨g10, h⟩ := is_guard h
    refine ao_eff trivial (e_append (t := (.int .i64)) 3 rfl Try.underlying24 (rfl : Try.prog.info? 3 = some _) rfl rfl rfl rfl rfl rfl rfl (src_os rfl) (show s2.2.2.2.length + [r9.1].length ≤ 1000000000 from by (try simp only [List.length_cons, List.length_nil]) <;> omega) rfl rfl) rfl ?_
    refine ao_read trivial (r_assign rfl) rfl ?_
    refine ao_nil ?_
    refine aq_in ?_
    refine aq_then ?_
    refine aw_region ?_
    refine ao_read trivial (r_move rfl) rfl ?_
    refine ao_read trivial (r_sub rfl rfl) rfl ?_
    refine ao_read trivial (r_assign rfl) rfl ?_
    refine ao_nil ?_
    exact aq_again (AL.sub (sub_mk (rn [(1, 3)]) (by exact ⟨⟨_, rfl, ad_ren rfl⟩, ⟨_, rfl, ad_ren rfl⟩, ⟨_, rfl, ad_ren rfl⟩, trivial⟩) (by exact ⟨⟨_, rfl, ⟨ad_ren rfl, rfl, ad_ren rfl, rfl, ad_ren rfl, rfl, trivial⟩⟩, ⟨_, rfl, rfl⟩, trivial⟩) (by rfl) (nk1 rfl rfl)) (ih4 ((IntKind.wrap .i64 (s2.1 - 1)), r9.2.1, r9.2.2, (s2.2.2.2 ++ [r9.1])) trivial h))
  · have q8 := d_f hb6
    replace h := is_else (d_f hb6) h
    refine aw_exit ?_
    refine aq_then_exit ?_
    refine aq_then_exit ?_
    refine aq_in_exit ?_
    refine aq_then ?_
    refine aw_seq ?_
    refine aw_seq ?_
    refine aw_region ?_
    refine ao_read trivial (r_move rfl) rfl ?_
    refine ao_read trivial (r_len_osm (s2.2.2.2.length : Int) Try.underlying24 rfl rfl rfl) rfl ?_
    refine ao_read trivial (r_gtr rfl rfl) rfl ?_
    refine ao_read trivial (r_move rfl) rfl ?_
    refine ao_split (decide (0 < (s2.2.2.2.length : Int))) (fun hb11 => ?_) (fun hb11 => ?_)
    · have q12 := d_t hb11
      replace h := is_if (d_t hb11) h
      refine ao_read (by exact ⟨_, _, rfl, rfl, hb11⟩) (r_move rfl) rfl ?_
      obtain ⟨r14, r14h, h⟩ := is_bind h
      refine ao_callV [0] 4 (by exact ⟨_, _, rfl, rfl, hb11⟩) (c_spec_l1Cur_one (is_mk r14h)) Try.func102 rfl rfl rfl rfl rfl ⟨rfl, trivial⟩ ⟨⟨_, rfl, ⟨ad_ren rfl, rfl, ad_ren rfl, rfl, ad_ren rfl, rfl, trivial⟩⟩, trivial⟩ rfl rfl rfl rfl rfl rfl rfl (fun r' H' hr => ?_)
      obtain ⟨rfl, rfl⟩ := hr
      refine ao_norm (y := .bool r14.1) (H' := [(1, .row (.int .i64) s2.2.2.2), (0, .var [.cell (.v (.slice (.int .u8)) x1), .cell (.int .i64 r14.2.1), .cell (.int .u64 r14.2.2)])]) rfl rfl ?_
      refine ao_read trivial (r_pickT rfl hb11 rfl) rfl ?_
      refine ao_nil ?_
      refine aq_then ?_
      refine aw_cond rfl (fun hb15 => ?_) (fun hb15 => ?_)
      · replace h := is_if hb15 h
        refine aw_region ?_
        refine ao_read trivial (r_move rfl) rfl ?_
        refine ao_read trivial (r_move rfl) rfl ?_
        refine ao_read trivial (r_move rfl) rfl ?_
        refine ao_read trivial (r_len_osm (s2.2.2.2.length : Int) Try.underlying24 rfl rfl rfl) rfl ?_
        obtain ⟨r16, r16h, h⟩ := is_bind h
        refine ao_callV [0] 4 trivial (c_spec_l1Cur_pick (is_mk r16h)) Try.func103 rfl rfl rfl rfl rfl ⟨rfl, trivial⟩ ⟨⟨_, rfl, ⟨ad_ren rfl, rfl, ad_ren rfl, rfl, ad_ren rfl, rfl, trivial⟩⟩, trivial⟩ rfl rfl rfl rfl rfl rfl rfl (fun r' H' hr => ?_)
        obtain ⟨rfl, rfl⟩ := hr
        refine ao_norm (y := .int .i64 r16.1) (H' := [(1, .row (.int .i64) s2.2.2.2), (0, .var [.cell (.v (.slice (.int .u8)) x1), .cell (.int .i64 r16.2.1), .cell (.int .u64 r16.2.2)])]) rfl rfl ?_
        refine ao_read trivial (r_move rfl) rfl ?_
        refine ao_eff trivial (e_buildSlice (l := [(0, .const (.int .i64 (-1))), (1, .const (.int .i64 6)), (2, .const (.int .i64 4611686018427387904))]) (t := (.int .i64)) 4 ([(-1), 6, 4611686018427387904] : (List Int)) rfl Try.underlying24 Try.zeroValue3 Try.sizeOf3 rfl rfl rfl rfl rfl rfl rfl) rfl ?_
        obtain ⟨r17, r17h, h⟩ := is_bind h
        refine ao_frz (fr' := [(0, .ref 0 0), (5, .os 1), (6, .int .i64 s2.1), (11, .int .i64 s2.1), (12, .bool (decide (0 < s2.1))), (20, .os 1), (21, .int .i64 (s2.2.2.2.length : Int)), (22, .bool (decide (0 < (s2.2.2.2.length : Int)))), (23, .bool (decide (0 < (s2.2.2.2.length : Int)))), (24, .ref 0 0), (25, .bool r14.1), (26, .bool r14.1), (27, .os 1), (28, .ref 0 0), (29, .os 1), (30, .int .i64 (s2.2.2.2.length : Int)), (31, .int .i64 r16.1), (32, .ref 0 0), (33, .v (.slice (.int .i64)) ([(-1), 6, 4611686018427387904] : (List Int)))]) (H' := [(1, .row (.int .i64) s2.2.2.2), (0, .var [.cell (.v (.slice (.int .u8)) x1), .cell (.int .i64 r16.2.1), .cell (.int .u64 r16.2.2)])]) (by exact ⟨⟨_, rfl, ad_ren rfl⟩, ⟨_, rfl, ad_ren rfl⟩, ⟨_, rfl, ad_ren rfl⟩, ⟨_, rfl, ad_ren rfl⟩, ⟨_, rfl, ad_ren rfl⟩, ⟨_, rfl, ad_ren rfl⟩, ⟨_, rfl, ad_ren rfl⟩, ⟨_, rfl, ad_ren rfl⟩, ⟨_, rfl, ad_ren rfl⟩, ⟨_, rfl, ad_ren rfl⟩, ⟨_, rfl, ad_ren rfl⟩, ⟨_, rfl, ad_ren rfl⟩, ⟨_, rfl, ad_ren rfl⟩, ⟨_, rfl, ad_ren rfl⟩, ⟨_, rfl, ad_ren rfl⟩, ⟨_, rfl, ad_ren rfl⟩, ⟨_, rfl, ad_ren rfl⟩, ⟨_, rfl, ad_ren rfl⟩, ⟨_, rfl, ad_osB rfl rfl⟩, trivial⟩) (by exact ⟨⟨_, rfl, rfl⟩, ⟨_, rfl, ⟨ad_ren rfl, rfl, ad_ren rfl, rfl, ad_ren rfl, rfl, trivial⟩⟩, trivial⟩) rfl ?_
        refine ao_callV [0] 5 trivial (c_spec_l1Cur_among (is_mk r17h)) Try.func97 rfl rfl rfl rfl rfl ⟨rfl, trivial⟩ ⟨⟨_, rfl, ⟨ad_ren rfl, rfl, ad_ren rfl, rfl, ad_ren rfl, rfl, trivial⟩⟩, trivial⟩ rfl rfl rfl rfl rfl rfl rfl (fun r' H' hr => ?_)
        obtain ⟨rfl, rfl⟩ := hr
        refine ao_norm (y := .int .i64 r17.1) (H' := [(1, .row (.int .i64) s2.2.2.2), (0, .var [.cell (.v (.slice (.int .u8)) x1), .cell (.int .i64 r17.2.1), .cell (.int .u64 r17.2.2)])]) rfl rfl ?_
        obtain ⟨g18, h⟩ := is_guard h
        obtain ⟨g19, h⟩ := is_guard h
        refine ao_read trivial (r_idxAddr_os Try.underlying24 Try.sizeOf3 rfl rfl rfl (by omega) (show r16.1 < (s2.2.2.2.length : Int) from by omega)) rfl ?_
        refine ao_effS trivial (e_store_elem_int Try.sizeOf3 rfl rfl rfl rfl (show r16.1.toNat < s2.2.2.2.length from by omega) rfl) ?_
        refine ao_nil ?_
        refine aq_then ?_
        refine aw_seq ?_
        refine aw_region ?_
        refine ao_read trivial (r_move rfl) rfl ?_
        refine ao_read trivial (r_assign rfl) rfl ?_
        refine ao_nil ?_
        refine aq_then ?_
        refine aw_ret ?_
        refine aq_ret ?_
        obtain rfl := is_some h
        exact aq_finV (l := [.tmp 4]) (xs := [.os 1]) idn [.os 1] [(0, .var [.cell (.v (.slice (.int .u8)) x1), .cell (.int .i64 r17.2.1), .cell (.int .u64 r17.2.2)]), (1, .row (.int .i64) ((s2.2.2.2.set r16.1.toNat r17.1) : (List Int)))] rfl (by exact ⟨rfl, trivial⟩) (by exact ⟨ad_ren rfl, trivial⟩) (by exact ⟨⟨_, rfl, ⟨ad_ren rfl, rfl, ad_ren rfl, rfl, ad_ren rfl, rfl, trivial⟩⟩, ⟨_, rfl, rfl⟩, trivial⟩) rfl (nk1 rfl rfl) ⟨rfl, rfl⟩
      · replace h := is_else (ne_t hb15) h
        refine aw_skip ?_
        refine aq_then ?_
        refine aw_seq ?_
        refine aw_region ?_
        refine ao_read trivial (r_move rfl) rfl ?_
        refine ao_read trivial (r_assign rfl) rfl ?_
        refine ao_nil ?_
        refine aq_then ?_
        refine aw_ret ?_
        refine aq_ret ?_
        obtain rfl := is_some h
        exact aq_finV (l := [.tmp 4]) (xs := [.os 1]) idn [.os 1] [(0, .var [.cell (.v (.slice (.int .u8)) x1), .cell (.int .i64 r14.2.1), .cell (.int .u64 r14.2.2)]), (1, .row (.int .i64) s2.2.2.2)] rfl (by exact ⟨rfl, trivial⟩) (by exact ⟨ad_ren rfl, trivial⟩) (by exact ⟨⟨_, rfl, ⟨ad_ren rfl, rfl, ad_ren rfl, rfl, ad_ren rfl, rfl, trivial⟩⟩, ⟨_, rfl, rfl⟩, trivial⟩) rfl (nk1 rfl rfl) ⟨rfl, rfl⟩
    · have q13 := d_f hb11
      replace h := is_else (d_f hb11) h
      refine ao_skipT 2 3 23 rfl rfl hb11 rfl rfl rfl ?_
      refine ao_read trivial (r_pickF rfl hb11 rfl) rfl ?_
      refine ao_nil ?_
      refine aq_then ?_
      refine aw_cond rfl (fun hb => by cases hb) (fun _ => ?_)
      refine aw_skip ?_
      refine aq_then ?_
      refine aw_seq ?_
      refine aw_region ?_
      refine ao_read trivial (r_move rfl) rfl ?_
      refine ao_read trivial (r_assign rfl) rfl ?_
      refine ao_nil ?_
      refine aq_then ?_
      refine aw_ret ?_
      refine aq_ret ?_
      obtain rfl := is_some h
      exact aq_finV (l := [.tmp 4]) (xs := [.os 1]) idn [.os 1] [(0, .var [.cell (.v (.slice (.int .u8)) x1), .cell (.int .i64 s2.2.1), .cell (.int .u64 s2.2.2.1)]), (1, .row (.int .i64) s2.2.2.2)] rfl (by exact ⟨rfl, trivial⟩) (by exact ⟨ad_ren rfl, trivial⟩) (by exact ⟨⟨_, rfl, ⟨ad_ren rfl, rfl, ad_ren rfl, rfl, ad_ren rfl, rfl, trivial⟩⟩, ⟨_, rfl, rfl⟩, trivial⟩) rfl (nk1 rfl rfl) ⟨rfl, rfl⟩
theorem c_spec_DrawMakeNumber {fu : Nat} {x0 : (List Int)} {r : Int × (List Int)} (h : Is (p_spec_DrawMakeNumber fu x0) (some r)) :
    ACalls Try.prog 8 [.v (.slice (.int .u8)) x0] [] (fun r' H' => r' = .tup [.int .i64 r.1, .os 0] ∧ H' = [(0, .row (.int .i64) r.2)]) := by
  unfold p_spec_DrawMakeNumber at h
  refine ac_enter ⟨15, 0⟩ Try.func8 rfl rfl rfl rfl rfl (fun Γ => ?_)
  refine sl_len_m 0 (x0.length : Int) rfl rfl (fun hl0 => ?_)
  refine aw_seq ?_
  refine aw_region ?_
  refine ao_read trivial (r_assign rfl) rfl ?_
  refine ao_read trivial (r_assign rfl) rfl ?_
  refine ao_nil ?_
  refine aq_then ?_
  refine aw_seq ?_
  refine aw_region ?_
  refine ao_read trivial (r_move rfl) rfl ?_
  refine ao_read trivial (r_build_st (l := [(0, .tmp 6)]) (cs := [.cell (.v (.slice (.int .u8)) x0), .cell (.int .i64 0), .cell (.int .u64 0)]) (.pair (.slice (.int .u8)) (.pair (.int .i64) (.pair (.int .u64) .unit))) [(0, 1), (1, 1), (2, 1)] Try.underlying98 Try.zeroValue98 rfl ⟨rfl, Try.sizeOf22, rfl, Try.sizeOf3, rfl, Try.sizeOf96, trivial⟩ rfl rfl rfl) rfl ?_
  refine ao_eff trivial (e_box 0 rfl rfl rfl rfl rfl rfl) rfl ?_
  refine ao_read trivial (r_assign rfl) rfl ?_
  refine ao_nil ?_
  refine aq_then ?_
  refine aw_seq ?_
  refine aw_region ?_
  refine ao_read trivial (r_move rfl) rfl ?_
  obtain ⟨r1, r1h, h⟩ := is_bind h
  refine ao_callV [0] 1 trivial (c_spec_l1Cur_size (is_mk r1h)) Try.func86 rfl rfl rfl rfl rfl ⟨rfl, trivial⟩ ⟨⟨_, rfl, ⟨ad_ren rfl, rfl, ad_ren rfl, rfl, ad_ren rfl, rfl, trivial⟩⟩, trivial⟩ rfl rfl rfl rfl rfl rfl rfl (fun r' H' hr => ?_)
  obtain ⟨rfl, rfl⟩ := hr
  refine ao_norm (y := .int .i64 r1.1) (H' := [(0, .var [.cell (.v (.slice (.int .u8)) x0), .cell (.int .i64 r1.2.1), .cell (.int .u64 r1.2.2)])]) rfl rfl ?_
  refine ao_read trivial (r_assign rfl) rfl ?_
  refine ao_nil ?_
  refine aq_then ?_
  refine aw_seq ?_
  refine aw_region ?_
  refine ao_read trivial (r_move rfl) rfl ?_
  refine ao_read trivial (r_move rfl) rfl ?_
  refine ao_eff trivial (e_buildSlice (l := [(0, .const (.int .i64 2)), (1, .const (.int .i64 3)), (2, .const (.int .i64 1)), (3, .const (.int .i64 4)), (4, .const (.int .i64 5)), (5, .const (.int .i64 6)), (6, .const (.int .i64 0)), (7, .const (.int .i64 7))]) (t := (.int .i64)) 1 ([2, 3, 1, 4, 5, 6, 0, 7] : (List Int)) rfl Try.underlying24 Try.zeroValue3 Try.sizeOf3 rfl rfl rfl rfl rfl rfl rfl) rfl ?_
  obtain ⟨r2, r2h, h⟩ := is_bind h
  refine ao_frz (fr' := [(0, .v (.slice (.int .u8)) x0), (2, .int .i64 0), (3, .nilsl), (6, .v (.slice (.int .u8)) x0), (7, .st [.v (.slice (.int .u8)) x0, .int .i64 0, .int .u64 0]), (8, .ref 0 0), (4, .ref 0 0), (9, .ref 0 0), (10, .int .i64 r1.1), (5, .int .i64 r1.1), (11, .int .i64 r1.1), (12, .ref 0 0), (13, .v (.slice (.int .i64)) ([2, 3, 1, 4, 5, 6, 0, 7] : (List Int)))]) (H' := [(0, .var [.cell (.v (.slice (.int .u8)) x0), .cell (.int .i64 r1.2.1), .cell (.int .u64 r1.2.2)])]) (by exact ⟨⟨_, rfl, ad_ren rfl⟩, ⟨_, rfl, ad_ren rfl⟩, ⟨_, rfl, ad_ren rfl⟩, ⟨_, rfl, ad_ren rfl⟩, ⟨_, rfl, ad_ren rfl⟩, ⟨_, rfl, ad_ren rfl⟩, ⟨_, rfl, ad_ren rfl⟩, ⟨_, rfl, ad_ren rfl⟩, ⟨_, rfl, ad_ren rfl⟩, ⟨_, rfl, ad_ren rfl⟩, ⟨_, rfl, ad_ren rfl⟩, ⟨_, rfl, ad_ren rfl⟩, ⟨_, rfl, ad_osB rfl rfl⟩, trivial⟩) (by exact ⟨⟨_, rfl, ⟨ad_ren rfl, rfl, ad_ren rfl, rfl, ad_ren rfl, rfl, trivial⟩⟩, trivial⟩) rfl ?_
  refine ao_callV [0] 2 trivial (c_spec_l1Cur_throws (is_mk r2h)) Try.func87 rfl rfl rfl rfl rfl ⟨rfl, trivial⟩ ⟨⟨_, rfl, ⟨ad_ren rfl, rfl, ad_ren rfl, rfl, ad_ren rfl, rfl, trivial⟩⟩, trivial⟩ rfl rfl rfl rfl rfl rfl rfl (fun r' H' hr => ?_)
  obtain ⟨rfl, rfl⟩ := hr
  refine ao_norm (y := .os 2) (H' := [(0, .var [.cell (.v (.slice (.int .u8)) x0), .cell (.int .i64 r2.2.1), .cell (.int .u64 r2.2.2)]), (2, .row (.int .i64) r2.1)]) rfl rfl ?_
  refine row_len_o 2 (r2.1.length : Int) rfl rfl (fun hr3 => ?_)
  refine ao_read trivial (r_assign rfl) rfl ?_
  refine ao_read trivial (r_assign rfl) rfl ?_
  refine ao_nil ?_
  refine aq_then ?_
  refine aw_ret ?_
  refine aq_ret ?_
  obtain rfl := is_some h
  exact aq_finx (l := [.tmp 2, .tmp 3]) (xs := [.int .i64 r1.1, .os 2]) (rn [(0, 2)]) [.int .i64 r1.1, .os 0] [(0, .row (.int .i64) r2.1)] rfl (by exact ⟨rfl, rfl, trivial⟩) (by exact ⟨ad_ren rfl, ad_ren rfl, trivial⟩) (by exact ⟨⟨_, rfl, rfl⟩, trivial⟩) rfl (nk rfl) rfl rfl ⟨rfl, rfl⟩
theorem c_impl_within {x0 : Int} {x1 : Int} {x2 : Int} {r : Bool} (h : Is (p_impl_within x0 x1 x2) r) :
    Scalar Try.prog 96 [.int .i64 x0, .int .i64 x1, .int .i64 x2] (.bool r) := by
  unfold p_impl_within at h
  refine ac_enter ⟨15, 0⟩ Try.func96 rfl rfl rfl rfl rfl (fun Γ => ?_)
  refine aw_seq ?_
  refine aw_region ?_
  refine ao_read trivial (r_assign rfl) rfl ?_
  refine ao_nil ?_
  refine aq_then ?_
  refine aw_seq ?_
  refine aw_region ?_
  refine ao_read trivial (r_move rfl) rfl ?_
  refine ao_read trivial (r_move rfl) rfl ?_
  refine ao_read trivial (r_leq rfl rfl) rfl ?_
  refine ao_read trivial (r_move rfl) rfl ?_
  refine ao_readG (x := .int .i64 x0) rfl (GV.T rfl) (fun hg1 => by
        have q2 := d_t hg1
        exact r_move rfl) rfl ?_
  refine ao_readG (x := .int .i64 x2) rfl (GV.T rfl) (fun hg3 => by
        have q4 := d_t hg3
        exact r_move rfl) rfl ?_
  refine ao_readG (x := .bool (decide (x0 ≤ x2))) rfl (GV.T rfl) (fun hg5 => by
        have q6 := d_t hg5
        exact Reads.strip 11 rfl (hg5) (Reads.strip 12 rfl (hg5) (r_leq rfl rfl))) rfl ?_
  refine ao_read trivial (r_andB rfl rfl) rfl ?_
  refine ao_read trivial (r_assign rfl) rfl ?_
  refine ao_nil ?_
  refine aq_then ?_
  refine aw_ret ?_
  refine aq_ret ?_
  obtain rfl := is_eq h
  exact aq_finx (l := [.tmp 6]) (xs := [.bool ((decide (x1 ≤ x0)) && (decide (x0 ≤ x2)))]) idn [.bool ((decide (x1 ≤ x0)) && (decide (x0 ≤ x2)))] [] rfl (by exact ⟨rfl, trivial⟩) (by exact ⟨ad_ren rfl, trivial⟩) (by exact trivial) rfl (nk rfl) rfl rfl ⟨rfl, rfl⟩
theorem c_impl_power {fu : Nat} {x0 : Int} {r : Int} (h : Is (p_impl_power fu x0) (some r)) :
    Scalar Try.prog 99 [.int .i64 x0] (.int .i64 r) := by
  unfold p_impl_power at h
  refine ac_enter ⟨11, 0⟩ Try.func99 rfl rfl rfl rfl rfl (fun Γ => ?_)
  refine aw_seq ?_
  refine aw_region ?_
  refine ao_read trivial (r_assign rfl) rfl ?_
  refine ao_nil ?_
  refine aq_then ?_
  refine aw_seq ?_
  refine aw_region ?_
  refine ao_read trivial (r_assign rfl) rfl ?_
  refine ao_nil ?_
  refine aq_then ?_
  refine aw_seq ?_
  refine aw_seq ?_
  refine aw_region ?_
  refine ao_read trivial (r_move rfl) rfl ?_
  refine ao_read trivial (r_move rfl) rfl ?_
  refine ao_nil ?_
  refine aq_then ?_
  refine aw_block ?_
  refine aw_loop (AL.sub (sub_mk idn (by exact ⟨⟨_, rfl, ad_ren rfl⟩, ⟨_, rfl, ad_ren rfl⟩, ⟨_, rfl, ad_ren rfl⟩, trivial⟩) (by exact trivial) (by rfl) (nk rfl)) (al_whl (fun (s1 : Int × Int) => [(3, .int .i64 s1.1), (4, .int .i64 x0), (5, .int .i64 s1.2)]) (fun (s1 : Int × Int) => []) (fun (s1 : Int × Int) => True) h trivial (fun d3 s1 hI h ih3 => ?_)))
  replace h := is_whlS h
  refine al_round ?_
  refine aw_seq ?_
  refine aw_region ?_
  refine ao_read trivial (r_lss rfl rfl) rfl ?_
  refine ao_nil ?_
  refine aq_then ?_
  refine aw_seq ?_
  refine aw_cond rfl (fun hb5 => ?_) (fun hb5 => ?_)
  · have q6 := d_t hb5
    replace h := is_if (d_t hb5) h
    refine aw_skip ?_
    refine aq_then ?_
    refine aw_seq ?_
    refine aw_block ?_
    refine aw_region ?_
    refine ao_read trivial (r_move rfl) rfl ?_
    refine ao_read trivial (r_mul rfl rfl) rfl ?_
    refine ao_read trivial (r_assign rfl) rfl ?_
    refine ao_nil ?_
    refine aq_in ?_
    refine aq_then ?_
    refine aw_region ?_
    refine ao_read trivial (r_add rfl rfl) rfl ?_
    refine ao_read trivial (r_move rfl) rfl ?_
    refine ao_nil ?_
    exact aq_again (AL.sub (sub_mk idn (by exact ⟨⟨_, rfl, ad_ren rfl⟩, ⟨_, rfl, ad_ren rfl⟩, ⟨_, rfl, ad_ren rfl⟩, trivial⟩) (by exact trivial) (by rfl) (nk rfl)) (ih3 ((IntKind.wrap .i64 (s1.1 * 6)), (IntKind.wrap .i64 (s1.2 + 1))) trivial h))
  · have q7 := d_f hb5
    replace h := is_else (d_f hb5) h
    refine aw_exit ?_
    refine aq_then_exit ?_
    refine aq_then_exit ?_
    refine aq_in_exit ?_
    refine aq_then ?_
    refine aw_seq ?_
    refine aw_region ?_
    refine ao_read trivial (r_move rfl) rfl ?_
    refine ao_read trivial (r_assign rfl) rfl ?_
    refine ao_nil ?_
    refine aq_then ?_
    refine aw_ret ?_
    refine aq_ret ?_
    obtain rfl := is_some h
    exact aq_finx (l := [.tmp 2]) (xs := [.int .i64 s1.1]) idn [.int .i64 s1.1] [] rfl (by exact ⟨rfl, trivial⟩) (by exact ⟨ad_ren rfl, trivial⟩) (by exact trivial) rfl (nk rfl) rfl rfl ⟨rfl, rfl⟩
theorem c_impl_isMade {fu : Nat} {x0 : Int} {x1 : Int} {r : Bool} (h : Is (p_impl_isMade fu x0 x1) (some r)) :
    Scalar Try.prog 88 [.int .i64 x0, .int .i64 x1] (.bool r) := by
  unfold p_impl_isMade at h
  refine ac_enter ⟨17, 0⟩ Try.func88 rfl rfl rfl rfl rfl (fun Γ => ?_)
  refine aw_seq ?_
  refine aw_region ?_
  refine ao_read trivial (r_assign rfl) rfl ?_
  refine ao_nil ?_
  refine aq_then ?_
  refine aw_seq ?_
  refine aw_region ?_
  refine ao_read trivial (r_move rfl) rfl ?_
  refine ao_scall trivial (scall (c_impl_within (is_mk (rfl : p_impl_within x0 1 1000 = _))) rfl Try.func96 rfl rfl rfl rfl (fun σ => ⟨ad_ren rfl, ad_ren rfl, ad_ren rfl, trivial⟩)) rfl ?_
  refine ao_read trivial (r_move rfl) rfl ?_
  refine ao_readG (x := .int .i64 x1) rfl (GV.T rfl) (fun hg1 => r_move rfl) rfl ?_
  refine ao_scallG (r := .bool (p_impl_within x1 1 6)) rfl (GV.T rfl) (fun hg2 => SCall.strip 8 rfl (hg2) (scall (c_impl_within (is_mk (rfl : p_impl_within x1 1 6 = _))) rfl Try.func96 rfl rfl rfl rfl (fun σ => ⟨ad_ren rfl, ad_ren rfl, ad_ren rfl, trivial⟩))) rfl ?_
  refine ao_read trivial (r_andB rfl rfl) rfl ?_
  refine ao_read trivial (r_move rfl) rfl ?_
  refine ao_readG (x := .int .i64 x1) rfl (GV.T rfl) (fun hg3 => by
        obtain ⟨q4, q5⟩ := and_t hg3
        exact r_move rfl) rfl ?_
  obtain ⟨g9, h⟩ := is_guard h
  refine ao_scallG (r := .int .i64 ((p_impl_power fu x1).getD 0)) rfl (GV.T rfl) (fun hg6 => by
        obtain ⟨q7, q8⟩ := and_t hg6
        exact SCall.strip 12 rfl (hg6) (scall (c_impl_power (is_mk (isSome_getD (g9 hg6)))) rfl Try.func99 rfl rfl rfl rfl (fun σ => ⟨ad_ren rfl, trivial⟩))) rfl ?_
  refine ao_readG (x := .int .i64 x0) rfl (GV.T rfl) (fun hg10 => by
        obtain ⟨q11, q12⟩ := and_t hg10
        exact r_move rfl) rfl ?_
  refine ao_readG (x := .bool (decide (x0 ≤ ((p_impl_power fu x1).getD 0)))) rfl (GV.T rfl) (fun hg13 => by
        obtain ⟨q14, q15⟩ := and_t hg13
        exact Reads.strip 13 rfl (hg13) (Reads.strip 14 rfl (hg13) (r_geq rfl rfl))) rfl ?_
  refine ao_read trivial (r_andB rfl rfl) rfl ?_
  refine ao_read trivial (r_assign rfl) rfl ?_
  refine ao_nil ?_
  refine aq_then ?_
  refine aw_ret ?_
  refine aq_ret ?_
  obtain rfl := is_some h
  exact aq_finx (l := [.tmp 4]) (xs := [.bool (((p_impl_within x0 1 1000) && (p_impl_within x1 1 6)) && (decide (x0 ≤ ((p_impl_power fu x1).getD 0))))]) idn [.bool (((p_impl_within x0 1 1000) && (p_impl_within x1 1 6)) && (decide (x0 ≤ ((p_impl_power fu x1).getD 0))))] [] rfl (by exact ⟨rfl, trivial⟩) (by exact ⟨ad_ren rfl, trivial⟩) (by exact trivial) rfl (nk rfl) rfl rfl ⟨rfl, rfl⟩
theorem c_impl_isSide {x0 : Int} {r : Bool} (h : Is (p_impl_isSide x0) r) :
    Scalar Try.prog 110 [.int .i64 x0] (.bool r) := by
  unfold p_impl_isSide at h
  refine ac_enter ⟨5, 0⟩ Try.func110 rfl rfl rfl rfl rfl (fun Γ => ?_)
  refine aw_seq ?_
  refine aw_region ?_
  refine ao_read trivial (r_assign rfl) rfl ?_
  refine ao_nil ?_
  refine aq_then ?_
  refine aw_seq ?_
  refine aw_region ?_
  refine ao_read trivial (r_move rfl) rfl ?_
  refine ao_scall trivial (scall (c_impl_within (is_mk (rfl : p_impl_within x0 0 5 = _))) rfl Try.func96 rfl rfl rfl rfl (fun σ => ⟨ad_ren rfl, ad_ren rfl, ad_ren rfl, trivial⟩)) rfl ?_
  refine ao_read trivial (r_assign rfl) rfl ?_
  refine ao_nil ?_
  refine aq_then ?_
  refine aw_ret ?_
  refine aq_ret ?_
  obtain rfl := is_eq h
  exact aq_finx (l := [.tmp 2]) (xs := [.bool (p_impl_within x0 0 5)]) idn [.bool (p_impl_within x0 0 5)] [] rfl (by exact ⟨rfl, trivial⟩) (by exact ⟨ad_ren rfl, trivial⟩) (by exact trivial) rfl (nk rfl) rfl rfl ⟨rfl, rfl⟩
theorem c_impl_areAll_int_1 {x0 : Int} {r : Bool} (h : Is (p_impl_areAll_int_1 x0) r) :
    Scalar Try.prog 168 [.int .i64 x0, .cav (.fn 110 [])] (.bool r) := by
  unfold p_impl_areAll_int_1 at h
  refine ac_enter ⟨8, 0⟩ Try.func168 rfl rfl rfl rfl rfl (fun Γ => ?_)
  refine aw_seq ?_
  refine aw_region ?_
  refine ao_read trivial (r_assign rfl) rfl ?_
  refine ao_nil ?_
  refine aq_then ?_
  refine aw_seq ?_
  refine aw_region ?_
  refine ao_read trivial (r_load_cav Try.isAgg109 rfl) rfl ?_
  refine ao_read trivial (r_move rfl) rfl ?_
  refine ao_scall trivial (scall (c_impl_isSide (is_mk (rfl : p_impl_isSide x0 = _))) rfl Try.func110 rfl rfl rfl rfl (fun σ => ⟨ad_ren rfl, trivial⟩)) rfl ?_
  refine ao_read trivial (r_not rfl) rfl ?_
  refine ao_read trivial (r_assign rfl) rfl ?_
  refine ao_nil ?_
  refine aq_then ?_
  refine aw_ret ?_
  refine aq_ret ?_
  obtain rfl := is_eq h
  exact aq_finx (l := [.tmp 3]) (xs := [.bool (!(p_impl_isSide x0))]) idn [.bool (!(p_impl_isSide x0))] [] rfl (by exact ⟨rfl, trivial⟩) (by exact ⟨ad_ren rfl, trivial⟩) (by exact trivial) rfl (nk rfl) rfl rfl ⟨rfl, rfl⟩
theorem c_slices_IndexFunc_int_int {x0 : (List Int)} {r : Int} (h : Is (p_slices_IndexFunc_int_int x0) r) :
    Scalar Try.prog 188 [.v (.slice (.int .i64)) x0, .fn 168 [.cav (.fn 110 [])]] (.int .i64 r) := by
  unfold p_slices_IndexFunc_int_int at h
  refine ac_enter ⟨19, 0⟩ Try.func188 rfl rfl rfl rfl rfl (fun Γ => ?_)
  refine sl_len_m 0 (x0.length : Int) rfl rfl (fun hl0 => ?_)
  refine aw_seq ?_
  refine aw_region ?_
  refine ao_read trivial (r_assign rfl) rfl ?_
  refine ao_nil ?_
  refine aq_then ?_
  refine aw_seq ?_
  refine aw_seq ?_
  refine aw_region ?_
  refine ao_read trivial (r_move rfl) rfl ?_
  refine ao_read trivial (r_len_vm (x0.length : Int) Try.underlying24 rfl rfl) rfl ?_
  refine ao_read trivial (r_move rfl) rfl ?_
  refine ao_nil ?_
  refine aq_then ?_
  refine aw_block ?_
  refine aw_loop (AL.sub (fr' := [(0, .v (.slice (.int .i64)) x0), (1, .fn 168 [.cav (.fn 110 [])]), (7, .int .i64 (x0.length : Int)), (8, .int .i64 0)]) (H' := []) (sub_mk idn (by exact ⟨⟨_, rfl, ad_ren rfl⟩, ⟨_, rfl, ad_ren rfl⟩, ⟨_, rfl, ad_ren rfl⟩, ⟨_, rfl, ad_ren rfl⟩, trivial⟩) (by exact trivial) (by rfl) (nk rfl)) (al_cnt (fun i2 (s1 : Unit) => [(0, .v (.slice (.int .i64)) x0), (1, .fn 168 [.cav (.fn 110 [])]), (7, .int .i64 (x0.length : Int)), (8, .int .i64 i2)]) (fun i2 (s1 : Unit) => []) (fun d i2 (s1 : Unit) => d = Int.toNat ((x0.length : Int) - i2) ∧ 0 ≤ i2 ∧ i2 ≤ (x0.length : Int)) h ⟨rfl, (by (try simp only [List.length_set, List.length_append, List.length_cons, List.length_nil, List.length_replicate, List.length_take, List.length_drop]) <;> omega), (by (try simp only [List.length_set, List.length_append, List.length_cons, List.length_nil, List.length_replicate, List.length_take, List.length_drop]) <;> omega)⟩ (fun d3 i2 s1 hI h ih3 => ?_)))
  obtain ⟨hd, _, _⟩ := hI
  refine al_round ?_
  refine aw_seq ?_
  refine aw_region ?_
  refine ao_read trivial (r_lss rfl rfl) rfl ?_
  refine ao_nil ?_
  refine aq_then ?_
  refine aw_seq ?_
  refine aw_cond rfl (fun hb5 => ?_) (fun hb5 => ?_)
  · have q6 := d_t hb5
    obtain ⟨d3, rfl⟩ : ∃ e, d3 = e + 1 := ⟨d3 - 1, by omega⟩
    replace h := is_cntS h
    refine aw_skip ?_
    refine aq_then ?_
    refine aw_seq ?_
    refine aw_block ?_
    refine aw_seq ?_
    refine aw_region ?_
    refine ao_read trivial (r_move rfl) rfl ?_
    refine ao_read trivial (r_assign rfl) rfl ?_
    refine ao_nil ?_
    refine aq_then ?_
    refine aw_seq ?_
    refine aw_region ?_
    refine ao_read trivial (r_move rfl) rfl ?_
    refine ao_read trivial (r_move rfl) rfl ?_
    refine ao_read trivial (r_move rfl) rfl ?_
    refine ao_read trivial (r_idxAddr_int Try.underlying24 Try.sizeOf3 rfl rfl (by omega) (show i2 < (x0.length : Int) from by omega)) rfl ?_
    refine ao_read trivial (r_load_c_int Try.isAgg3 Try.sizeOf3 rfl) rfl ?_
    refine ao_scall trivial (scall (c_impl_areAll_int_1 (is_mk (rfl : p_impl_areAll_int_1 (x0.getD i2.toNat 0) = _))) rfl Try.func168 rfl rfl rfl rfl (fun σ => ⟨ad_ren rfl, ad_ren rfl, trivial⟩)) rfl ?_
    refine ao_nil ?_
    refine aq_then ?_
    refine aw_cond rfl (fun hb8 => ?_) (fun hb8 => ?_)
    · replace h := is_if hb8 h
      refine aw_seq ?_
      refine aw_region ?_
      refine ao_read trivial (r_move rfl) rfl ?_
      refine ao_read trivial (r_assign rfl) rfl ?_
      refine ao_nil ?_
      refine aq_then ?_
      refine aw_ret ?_
      refine aq_in_ret ?_
      refine aq_then_ret ?_
      refine aq_then_ret ?_
      refine aq_in_ret ?_
      refine aq_then_ret ?_
      refine aq_ret ?_
      obtain rfl := is_eq h
      exact aq_finx (l := [.tmp 4]) (xs := [.int .i64 i2]) idn [.int .i64 i2] [] rfl (by exact ⟨rfl, trivial⟩) (by exact ⟨ad_ren rfl, trivial⟩) (by exact trivial) rfl (nk rfl) rfl rfl ⟨rfl, rfl⟩
    · replace h := is_else (ne_t hb8) h
      refine aw_skip ?_
      refine aq_in ?_
      refine aq_then ?_
      refine aw_region ?_
      refine ao_read trivial (r_addI rfl rfl (wrap_id (by omega) (by omega))) rfl ?_
      refine ao_read trivial (r_move rfl) rfl ?_
      refine ao_nil ?_
      exact aq_again (AL.sub (sub_mk idn (by exact ⟨⟨_, rfl, ad_ren rfl⟩, ⟨_, rfl, ad_ren rfl⟩, ⟨_, rfl, ad_ren rfl⟩, ⟨_, rfl, ad_ren rfl⟩, trivial⟩) (by exact trivial) (by rfl) (nk rfl)) (ih3 d3 (i2 + 1) () (by omega) ⟨by omega, (by (try simp only [List.length_set, List.length_append, List.length_cons, List.length_nil, List.length_replicate, List.length_take, List.length_drop]) <;> omega), (by (try simp only [List.length_set, List.length_append, List.length_cons, List.length_nil, List.length_replicate, List.length_take, List.length_drop]) <;> omega)⟩ h))
  · have q7 := d_f hb5
    obtain rfl : d3 = 0 := by omega
    replace h := is_cnt0 h
    refine aw_exit ?_
    refine aq_then_exit ?_
    refine aq_then_exit ?_
    refine aq_in_exit ?_
    refine aq_then ?_
    refine aw_seq ?_
    refine aw_region ?_
    refine ao_read trivial (r_assign rfl) rfl ?_
    refine ao_nil ?_
    refine aq_then ?_
    refine aw_ret ?_
    refine aq_ret ?_
    obtain rfl := is_eq h
    exact aq_finx (l := [.tmp 4]) (xs := [.int .i64 (-1)]) idn [.int .i64 (-1)] [] rfl (by exact ⟨rfl, trivial⟩) (by exact ⟨ad_ren rfl, trivial⟩) (by exact trivial) rfl (nk rfl) rfl rfl ⟨rfl, rfl⟩
theorem c_slices_ContainsFunc_int_int {x0 : (List Int)} {r : Bool} (h : Is (p_slices_ContainsFunc_int_int x0) r) :
    Scalar Try.prog 167 [.v (.slice (.int .i64)) x0, .fn 168 [.cav (.fn 110 [])]] (.bool r) := by
  unfold p_slices_ContainsFunc_int_int at h
  refine ac_enter ⟨9, 0⟩ Try.func167 rfl rfl rfl rfl rfl (fun Γ => ?_)
  refine sl_len_m 0 (x0.length : Int) rfl rfl (fun hl0 => ?_)
  refine aw_seq ?_
  refine aw_region ?_
  refine ao_read trivial (r_assign rfl) rfl ?_
  refine ao_nil ?_
  refine aq_then ?_
  refine aw_seq ?_
  refine aw_region ?_
  refine ao_read trivial (r_move rfl) rfl ?_
  refine ao_read trivial (r_move rfl) rfl ?_
  refine ao_scall trivial (scall (c_slices_IndexFunc_int_int (is_mk (rfl : p_slices_IndexFunc_int_int x0 = _))) rfl Try.func188 rfl rfl rfl rfl (fun σ => ⟨ad_ren rfl, ad_ren rfl, trivial⟩)) rfl ?_
  refine ao_read trivial (r_geq rfl rfl) rfl ?_
  refine ao_read trivial (r_assign rfl) rfl ?_
  refine ao_nil ?_
  refine aq_then ?_
  refine aw_ret ?_
  refine aq_ret ?_
  obtain rfl := is_eq h
  exact aq_finx (l := [.tmp 4]) (xs := [.bool (decide (0 ≤ (p_slices_IndexFunc_int_int x0)))]) idn [.bool (decide (0 ≤ (p_slices_IndexFunc_int_int x0)))] [] rfl (by exact ⟨rfl, trivial⟩) (by exact ⟨ad_ren rfl, trivial⟩) (by exact trivial) rfl (nk rfl) rfl rfl ⟨rfl, rfl⟩
theorem c_impl_areAll_int {x0 : (List Int)} {r : Bool} (h : Is (p_impl_areAll_int x0) r) :
    Scalar Try.prog 108 [.v (.slice (.int .i64)) x0, .fn 110 []] (.bool r) := by
  unfold p_impl_areAll_int at h
  refine ac_enter ⟨9, 0⟩ Try.func108 rfl rfl rfl rfl rfl (fun Γ => ?_)
  refine sl_len_m 0 (x0.length : Int) rfl rfl (fun hl0 => ?_)
  refine aw_seq ?_
  refine aw_region ?_
  refine ao_eff trivial (e_box 0 rfl rfl rfl rfl rfl rfl) rfl ?_
  refine ao_read trivial (r_assign rfl) rfl ?_
  refine ao_nil ?_
  refine aq_then ?_
  refine aw_seq ?_
  refine aw_region ?_
  refine ao_read trivial (r_move rfl) rfl ?_
  refine ao_read trivial (r_makeFunc (cs := [.tmp 3]) rfl) rfl ?_
  refine ao_scall trivial (scall (c_slices_ContainsFunc_int_int (is_mk (rfl : p_slices_ContainsFunc_int_int x0 = _))) rfl Try.func167 rfl rfl rfl rfl (fun σ => ⟨ad_ren rfl, ad_fn ⟨ad_refc0 rfl rfl (ad_ren rfl) rfl, trivial⟩, trivial⟩)) rfl ?_
  refine ao_read trivial (r_not rfl) rfl ?_
  refine ao_read trivial (r_assign rfl) rfl ?_
  refine ao_nil ?_
  refine aq_then ?_
  refine aw_ret ?_
  refine aq_ret ?_
  obtain rfl := is_eq h
  exact aq_finx (l := [.tmp 4]) (xs := [.bool (!(p_slices_ContainsFunc_int_int x0))]) idn [.bool (!(p_slices_ContainsFunc_int_int x0))] [] rfl (by exact ⟨rfl, trivial⟩) (by exact ⟨ad_ren rfl, trivial⟩) (by exact trivial) rfl (nk rfl) rfl rfl ⟨rfl, rfl⟩
theorem c_impl_areThrows {x0 : (List Int)} {r : Bool} (h : Is (p_impl_areThrows x0) r) :
    Scalar Try.prog 89 [.v (.slice (.int .i64)) x0] (.bool r) := by
  unfold p_impl_areThrows at h
  refine ac_enter ⟨5, 0⟩ Try.func89 rfl rfl rfl rfl rfl (fun Γ => ?_)
  refine sl_len_m 0 (x0.length : Int) rfl rfl (fun hl0 => ?_)
  refine aw_seq ?_
  refine aw_region ?_
  refine ao_read trivial (r_assign rfl) rfl ?_
  refine ao_nil ?_
  refine aq_then ?_
  refine aw_seq ?_
  refine aw_region ?_
  refine ao_read trivial (r_move rfl) rfl ?_
  refine ao_scall trivial (scall (c_impl_areAll_int (is_mk (rfl : p_impl_areAll_int x0 = _))) rfl Try.func108 rfl rfl rfl rfl (fun σ => ⟨ad_ren rfl, ad_ren rfl, trivial⟩)) rfl ?_
  refine ao_read trivial (r_assign rfl) rfl ?_
  refine ao_nil ?_
  refine aq_then ?_
  refine aw_ret ?_
  refine aq_ret ?_
  obtain rfl := is_eq h
  exact aq_finx (l := [.tmp 2]) (xs := [.bool (p_impl_areAll_int x0)]) idn [.bool (p_impl_areAll_int x0)] [] rfl (by exact ⟨rfl, trivial⟩) (by exact ⟨ad_ren rfl, trivial⟩) (by exact trivial) rfl (nk rfl) rfl rfl ⟨rfl, rfl⟩
theorem c_impl_numberOf {x0 : (List Int)} {r : Int} (h : Is (p_impl_numberOf x0) r) :
    Scalar Try.prog 90 [.v (.slice (.int .i64)) x0] (.int .i64 r) := by
  unfold p_impl_numberOf at h
  refine ac_enter ⟨18, 0⟩ Try.func90 rfl rfl rfl rfl rfl (fun Γ => ?_)
  refine sl_len_m 0 (x0.length : Int) rfl rfl (fun hl0 => ?_)
  refine aw_seq ?_
  refine aw_region ?_
  refine ao_read trivial (r_assign rfl) rfl ?_
  refine ao_nil ?_
  refine aq_then ?_
  refine aw_seq ?_
  refine aw_region ?_
  refine ao_read trivial (r_assign rfl) rfl ?_
  refine ao_nil ?_
  refine aq_then ?_
  refine aw_seq ?_
  refine aw_seq ?_
  refine aw_region ?_
  refine ao_read trivial (r_move rfl) rfl ?_
  refine ao_read trivial (r_len_vm (x0.length : Int) Try.underlying24 rfl rfl) rfl ?_
  refine ao_read trivial (r_move rfl) rfl ?_
  refine ao_nil ?_
  refine aq_then ?_
  refine aw_block ?_
  refine aw_loop (AL.sub (fr' := [(3, .int .i64 0), (6, .v (.slice (.int .i64)) x0), (7, .int .i64 (x0.length : Int)), (8, .int .i64 0)]) (H' := []) (sub_mk idn (by exact ⟨⟨_, rfl, ad_ren rfl⟩, ⟨_, rfl, ad_ren rfl⟩, ⟨_, rfl, ad_ren rfl⟩, ⟨_, rfl, ad_ren rfl⟩, trivial⟩) (by exact trivial) (by rfl) (nk rfl)) (al_cnt (fun i2 (s1 : Int) => [(3, .int .i64 s1), (6, .v (.slice (.int .i64)) x0), (7, .int .i64 (x0.length : Int)), (8, .int .i64 i2)]) (fun i2 (s1 : Int) => []) (fun d i2 (s1 : Int) => d = Int.toNat ((x0.length : Int) - i2) ∧ 0 ≤ i2 ∧ i2 ≤ (x0.length : Int)) h ⟨rfl, (by (try simp only [List.length_set, List.length_append, List.length_cons, List.length_nil, List.length_replicate, List.length_take, List.length_drop]) <;> omega), (by (try simp only [List.length_set, List.length_append, List.length_cons, List.length_nil, List.length_replicate, List.length_take, List.length_drop]) <;> omega)⟩ (fun d3 i2 s1 hI h ih3 => ?_)))
  obtain ⟨hd, _, _⟩ := hI
  refine al_round ?_
  refine aw_seq ?_
  refine aw_region ?_
  refine ao_read trivial (r_lss rfl rfl) rfl ?_
  refine ao_nil ?_
  refine aq_then ?_
  refine aw_seq ?_
  refine aw_cond rfl (fun hb5 => ?_) (fun hb5 => ?_)
  · have q6 := d_t hb5
    obtain ⟨d3, rfl⟩ : ∃ e, d3 = e + 1 := ⟨d3 - 1, by omega⟩
    replace h := is_cntS h
    refine aw_skip ?_
    refine aq_then ?_
    refine aw_seq ?_
    refine aw_block ?_
    refine aw_seq ?_
    refine aw_region ?_
    refine ao_read trivial (r_idxAddr_int Try.underlying24 Try.sizeOf3 rfl rfl (by omega) (show i2 < (x0.length : Int) from by omega)) rfl ?_
    refine ao_read trivial (r_load_c_int Try.isAgg3 Try.sizeOf3 rfl) rfl ?_
    refine ao_read trivial (r_assign rfl) rfl ?_
    refine ao_nil ?_
    refine aq_then ?_
    refine aw_region ?_
    refine ao_read trivial (r_move rfl) rfl ?_
    refine ao_read trivial (r_mul rfl rfl) rfl ?_
    refine ao_read trivial (r_move rfl) rfl ?_
    refine ao_read trivial (r_add rfl rfl) rfl ?_
    refine ao_read trivial (r_assign rfl) rfl ?_
    refine ao_nil ?_
    refine aq_in ?_
    refine aq_then ?_
    refine aw_region ?_
    refine ao_read trivial (r_addI rfl rfl (wrap_id (by omega) (by omega))) rfl ?_
    refine ao_read trivial (r_move rfl) rfl ?_
    refine ao_nil ?_
    exact aq_again (AL.sub (sub_mk idn (by exact ⟨⟨_, rfl, ad_ren rfl⟩, ⟨_, rfl, ad_ren rfl⟩, ⟨_, rfl, ad_ren rfl⟩, ⟨_, rfl, ad_ren rfl⟩, trivial⟩) (by exact trivial) (by rfl) (nk rfl)) (ih3 d3 (i2 + 1) (IntKind.wrap .i64 ((IntKind.wrap .i64 (s1 * 6)) + (x0.getD i2.toNat 0))) (by omega) ⟨by omega, (by (try simp only [List.length_set, List.length_append, List.length_cons, List.length_nil, List.length_replicate, List.length_take, List.length_drop]) <;> omega), (by (try simp only [List.length_set, List.length_append, List.length_cons, List.length_nil, List.length_replicate, List.length_take, List.length_drop]) <;> omega)⟩ h))
  · have q7 := d_f hb5
    obtain rfl : d3 = 0 := by omega
    replace h := is_cnt0 h
    refine aw_exit ?_
    refine aq_then_exit ?_
    refine aq_then_exit ?_
    refine aq_in_exit ?_
    refine aq_then ?_
    refine aw_seq ?_
    refine aw_region ?_
    refine ao_read trivial (r_move rfl) rfl ?_
    refine ao_read trivial (r_assign rfl) rfl ?_
    refine ao_nil ?_
    refine aq_then ?_
    refine aw_ret ?_
    refine aq_ret ?_
    obtain rfl := is_eq h
    exact aq_finx (l := [.tmp 2]) (xs := [.int .i64 s1]) idn [.int .i64 s1] [] rfl (by exact ⟨rfl, trivial⟩) (by exact ⟨ad_ren rfl, trivial⟩) (by exact trivial) rfl (nk rfl) rfl rfl ⟨rfl, rfl⟩
theorem c_impl_taken {fu : Nat} {x0 : Int} {x1 : Int} {r : Int} (h : Is (p_impl_taken fu x0 x1) (some r)) :
    Scalar Try.prog 91 [.int .i64 x0, .int .i64 x1] (.int .i64 r) := by
  unfold p_impl_taken at h
  refine ac_enter ⟨11, 0⟩ Try.func91 rfl rfl rfl rfl rfl (fun Γ => ?_)
  refine aw_seq ?_
  refine aw_region ?_
  refine ao_read trivial (r_assign rfl) rfl ?_
  refine ao_nil ?_
  refine aq_then ?_
  refine aw_seq ?_
  refine aw_region ?_
  refine ao_read trivial (r_move rfl) rfl ?_
  obtain ⟨r1, r1h, h⟩ := is_bind h
  refine ao_scall trivial (scall (c_impl_power (is_mk r1h)) rfl Try.func99 rfl rfl rfl rfl (fun σ => ⟨ad_ren rfl, trivial⟩)) rfl ?_
  refine ao_read trivial (r_move rfl) rfl ?_
  obtain ⟨g2, h⟩ := is_guard h
  refine ao_read trivial (r_quo rfl rfl g2) rfl ?_
  refine ao_read trivial (r_move rfl) rfl ?_
  refine ao_read trivial (r_mul rfl rfl) rfl ?_
  refine ao_read trivial (r_assign rfl) rfl ?_
  refine ao_nil ?_
  refine aq_then ?_
  refine aw_ret ?_
  refine aq_ret ?_
  obtain rfl := is_some h
  exact aq_finx (l := [.tmp 4]) (xs := [.int .i64 (IntKind.wrap .i64 ((IntKind.wrap .i64 (r1.tdiv x0)) * x0))]) idn [.int .i64 (IntKind.wrap .i64 ((IntKind.wrap .i64 (r1.tdiv x0)) * x0))] [] rfl (by exact ⟨rfl, trivial⟩) (by exact ⟨ad_ren rfl, trivial⟩) (by exact trivial) rfl (nk rfl) rfl rfl ⟨rfl, rfl⟩
theorem c_impl_MakeNumber {fu : Nat} {x0 : Int} {x1 : (List Int)} {r : Int × Bool × Bool} (h : Is (p_impl_MakeNumber fu x0 x1) (some r)) :
    Scalar Try.prog 9 [.int .i64 x0, .v (.slice (.int .i64)) x1] (.tup [.int .i64 r.1, .bool r.2.1, .bool r.2.2]) := by
  unfold p_impl_MakeNumber at h
  refine ac_enter ⟨29, 0⟩ Try.func9 rfl rfl rfl rfl rfl (fun Γ => ?_)
  refine sl_len_m 1 (x1.length : Int) rfl rfl (fun hl1 => ?_)
  refine aw_seq ?_
  refine aw_region ?_
  refine ao_read trivial (r_assign rfl) rfl ?_
  refine ao_read trivial (r_assign rfl) rfl ?_
  refine ao_read trivial (r_assign rfl) rfl ?_
  refine ao_nil ?_
  refine aq_then ?_
  refine aw_seq ?_
  refine aw_seq ?_
  refine aw_region ?_
  refine ao_read trivial (r_move rfl) rfl ?_
  refine ao_read trivial (r_move rfl) rfl ?_
  refine ao_read trivial (r_len_vm (x1.length : Int) Try.underlying24 rfl rfl) rfl ?_
  obtain ⟨r1, r1h, h⟩ := is_bind h
  refine ao_scall trivial (scall (c_impl_isMade (is_mk r1h)) rfl Try.func88 rfl rfl rfl rfl (fun σ => ⟨ad_ren rfl, ad_ren rfl, trivial⟩)) rfl ?_
  refine ao_read trivial (r_not rfl) rfl ?_
  refine ao_read trivial (r_move rfl) rfl ?_
  refine ao_readG (x := .v (.slice (.int .i64)) x1) rfl (GV.F rfl) (fun hg2 => r_move rfl) rfl ?_
  refine ao_scallG (r := .bool (p_impl_areThrows x1)) rfl (GV.F rfl) (fun hg3 => SCall.strip 14 rfl (hg3) (scall (c_impl_areThrows (is_mk (rfl : p_impl_areThrows x1 = _))) rfl Try.func89 rfl rfl rfl rfl (fun σ => ⟨ad_ren rfl, trivial⟩))) rfl ?_
  refine ao_readG (x := .bool (!(p_impl_areThrows x1))) rfl (GV.F rfl) (fun hg4 => Reads.strip 15 rfl (hg4) (r_not rfl)) rfl ?_
  refine ao_read trivial (r_orB rfl rfl) rfl ?_
  refine ao_nil ?_
  refine aq_then ?_
  refine aw_cond rfl (fun hb5 => ?_) (fun hb5 => ?_)
  · replace h := is_if hb5 h
    refine aw_seq ?_
    refine aw_region ?_
    refine ao_read trivial (r_assign rfl) rfl ?_
    refine ao_read trivial (r_assign rfl) rfl ?_
    refine ao_read trivial (r_assign rfl) rfl ?_
    refine ao_nil ?_
    refine aq_then ?_
    refine aw_ret ?_
    refine aq_then_ret ?_
    refine aq_ret ?_
    obtain rfl := is_some h
    exact aq_finx (l := [.tmp 4, .tmp 5, .tmp 6]) (xs := [.int .i64 0, .bool false, .bool false]) idn [.int .i64 0, .bool false, .bool false] [] rfl (by exact ⟨rfl, rfl, rfl, trivial⟩) (by exact ⟨ad_ren rfl, ad_ren rfl, ad_ren rfl, trivial⟩) (by exact trivial) rfl (nk rfl) rfl rfl ⟨rfl, rfl⟩
  · obtain ⟨q6, q7⟩ := or_f hb5
    replace h := is_else (ne_t hb5) h
    refine aw_skip ?_
    refine aq_then ?_
    refine aw_seq ?_
    refine aw_region ?_
    refine ao_read trivial (r_move rfl) rfl ?_
    refine ao_scall trivial (scall (c_impl_numberOf (is_mk (rfl : p_impl_numberOf x1 = _))) rfl Try.func90 rfl rfl rfl rfl (fun σ => ⟨ad_ren rfl, trivial⟩)) rfl ?_
    refine ao_read trivial (r_assign rfl) rfl ?_
    refine ao_nil ?_
    refine aq_then ?_
    refine aw_seq ?_
    refine aw_seq ?_
    refine aw_region ?_
    refine ao_read trivial (r_move rfl) rfl ?_
    refine ao_read trivial (r_move rfl) rfl ?_
    refine ao_read trivial (r_move rfl) rfl ?_
    refine ao_read trivial (r_len_vm (x1.length : Int) Try.underlying24 rfl rfl) rfl ?_
    obtain ⟨r8, r8h, h⟩ := is_bind h
    refine ao_scall trivial (scall (c_impl_taken (is_mk r8h)) rfl Try.func91 rfl rfl rfl rfl (fun σ => ⟨ad_ren rfl, ad_ren rfl, trivial⟩)) rfl ?_
    refine ao_read trivial (r_geq rfl rfl) rfl ?_
    refine ao_nil ?_
    refine aq_then ?_
    refine aw_cond rfl (fun hb9 => ?_) (fun hb9 => ?_)
    · have q10 := d_t hb9
      replace h := is_if (d_t hb9) h
      refine aw_seq ?_
      refine aw_region ?_
      refine ao_read trivial (r_assign rfl) rfl ?_
      refine ao_read trivial (r_assign rfl) rfl ?_
      refine ao_read trivial (r_assign rfl) rfl ?_
      refine ao_nil ?_
      refine aq_then ?_
      refine aw_ret ?_
      refine aq_then_ret ?_
      refine aq_ret ?_
      obtain rfl := is_some h
      exact aq_finx (l := [.tmp 4, .tmp 5, .tmp 6]) (xs := [.int .i64 0, .bool false, .bool true]) idn [.int .i64 0, .bool false, .bool true] [] rfl (by exact ⟨rfl, rfl, rfl, trivial⟩) (by exact ⟨ad_ren rfl, ad_ren rfl, ad_ren rfl, trivial⟩) (by exact trivial) rfl (nk rfl) rfl rfl ⟨rfl, rfl⟩
    · have q11 := d_f hb9
      replace h := is_else (d_f hb9) h
      refine aw_skip ?_
      refine aq_then ?_
      refine aw_seq ?_
      refine aw_region ?_
      refine ao_read trivial (r_move rfl) rfl ?_
      refine ao_read trivial (r_move rfl) rfl ?_
      obtain ⟨g12, h⟩ := is_guard h
      refine ao_read trivial (r_rem rfl rfl g12) rfl ?_
      refine ao_read trivial (r_assign rfl) rfl ?_
      refine ao_read trivial (r_assign rfl) rfl ?_
      refine ao_read trivial (r_assign rfl) rfl ?_
      refine ao_nil ?_
      refine aq_then ?_
      refine aw_ret ?_
      refine aq_ret ?_
      obtain rfl := is_some h
      exact aq_finx (l := [.tmp 4, .tmp 5, .tmp 6]) (xs := [.int .i64 ((p_impl_numberOf x1).tmod x0), .bool true, .bool true]) idn [.int .i64 ((p_impl_numberOf x1).tmod x0), .bool true, .bool true] [] rfl (by exact ⟨rfl, rfl, rfl, trivial⟩) (by exact ⟨ad_ren rfl, ad_ren rfl, ad_ren rfl, trivial⟩) (by exact trivial) rfl (nk rfl) rfl rfl ⟨rfl, rfl⟩
theorem c_spec_l1In {x0 : Int} {x1 : Int} {x2 : Int} {r : Bool} (h : Is (p_spec_l1In x0 x1 x2) r) :
    Scalar Try.prog 107 [.int .i64 x0, .int .i64 x1, .int .i64 x2] (.bool r) := by
  unfold p_spec_l1In at h
  refine ac_enter ⟨15, 0⟩ Try.func107 rfl rfl rfl rfl rfl (fun Γ => ?_)
  refine aw_seq ?_
  refine aw_region ?_
  refine ao_read trivial (r_assign rfl) rfl ?_
  refine ao_nil ?_
  refine aq_then ?_
  refine aw_seq ?_
  refine aw_region ?_
  refine ao_read trivial (r_move rfl) rfl ?_
  refine ao_read trivial (r_move rfl) rfl ?_
  refine ao_read trivial (r_geq rfl rfl) rfl ?_
  refine ao_read trivial (r_move rfl) rfl ?_
  refine ao_readG (x := .int .i64 x0) rfl (GV.T rfl) (fun hg1 => by
        have q2 := d_t hg1
        exact r_move rfl) rfl ?_
  refine ao_readG (x := .int .i64 x2) rfl (GV.T rfl) (fun hg3 => by
        have q4 := d_t hg3
        exact r_move rfl) rfl ?_
  refine ao_readG (x := .bool (decide (x0 ≤ x2))) rfl (GV.T rfl) (fun hg5 => by
        have q6 := d_t hg5
        exact Reads.strip 11 rfl (hg5) (Reads.strip 12 rfl (hg5) (r_leq rfl rfl))) rfl ?_
  refine ao_read trivial (r_andB rfl rfl) rfl ?_
  refine ao_read trivial (r_assign rfl) rfl ?_
  refine ao_nil ?_
  refine aq_then ?_
  refine aw_ret ?_
  refine aq_ret ?_
  obtain rfl := is_eq h
  exact aq_finx (l := [.tmp 6]) (xs := [.bool ((decide (x1 ≤ x0)) && (decide (x0 ≤ x2)))]) idn [.bool ((decide (x1 ≤ x0)) && (decide (x0 ≤ x2)))] [] rfl (by exact ⟨rfl, trivial⟩) (by exact ⟨ad_ren rfl, trivial⟩) (by exact trivial) rfl (nk rfl) rfl rfl ⟨rfl, rfl⟩
theorem c_spec_l9Throws {x0 : (List Int)} {x1 : Int} {r : Bool} (h : Is (p_spec_l9Throws x0 x1) r) :
    Scalar Try.prog 92 [.v (.slice (.int .i64)) x0, .int .i64 x1] (.bool r) := by
  unfold p_spec_l9Throws at h
  refine ac_enter ⟨27, 0⟩ Try.func92 rfl rfl rfl rfl rfl (fun Γ => ?_)
  refine sl_len_m 0 (x0.length : Int) rfl rfl (fun hl0 => ?_)
  refine aw_seq ?_
  refine aw_region ?_
  refine ao_read trivial (r_assign rfl) rfl ?_
  refine ao_nil ?_
  refine aq_then ?_
  refine aw_seq ?_
  refine aw_seq ?_
  refine aw_region ?_
  refine ao_read trivial (r_assign rfl) rfl ?_
  refine ao_nil ?_
  refine aq_then ?_
  refine aw_block ?_
  refine aw_loop (AL.sub (fr' := [(0, .v (.slice (.int .i64)) x0), (1, .int .i64 x1), (5, .int .i64 0)]) (H' := []) (sub_mk idn (by exact ⟨⟨_, rfl, ad_ren rfl⟩, ⟨_, rfl, ad_ren rfl⟩, ⟨_, rfl, ad_ren rfl⟩, trivial⟩) (by exact trivial) (by rfl) (nk rfl)) (al_cnt (fun i2 (s1 : Unit) => [(0, .v (.slice (.int .i64)) x0), (1, .int .i64 x1), (5, .int .i64 i2)]) (fun i2 (s1 : Unit) => []) (fun d i2 (s1 : Unit) => d = Int.toNat ((x0.length : Int) - i2) ∧ 0 ≤ i2 ∧ i2 ≤ (x0.length : Int)) h ⟨rfl, (by (try simp only [List.length_set, List.length_append, List.length_cons, List.length_nil, List.length_replicate, List.length_take, List.length_drop]) <;> omega), (by (try simp only [List.length_set, List.length_append, List.length_cons, List.length_nil, List.length_replicate, List.length_take, List.length_drop]) <;> omega)⟩ (fun d3 i2 s1 hI h ih3 => ?_)))
  obtain ⟨hd, _, _⟩ := hI
  refine al_round ?_
  refine aw_seq ?_
  refine aw_seq ?_
  refine aw_region ?_
  refine ao_read trivial (r_move rfl) rfl ?_
  refine ao_read trivial (r_move rfl) rfl ?_
  refine ao_read trivial (r_len_vm (x0.length : Int) Try.underlying24 rfl rfl) rfl ?_
  refine ao_read trivial (r_lss rfl rfl) rfl ?_
  refine ao_read trivial (r_move rfl) rfl ?_
  refine ao_readG (x := .int .i64 i2) rfl (GV.T rfl) (fun hg5 => by
        have q6 := d_t hg5
        exact r_move rfl) rfl ?_
  refine ao_readG (x := .int .i64 x1) rfl (GV.T rfl) (fun hg7 => by
        have q8 := d_t hg7
        exact r_move rfl) rfl ?_
  refine ao_readG (x := .bool (decide (i2 ≤ x1))) rfl (GV.T rfl) (fun hg9 => by
        have q10 := d_t hg9
        exact Reads.strip 11 rfl (hg9) (Reads.strip 12 rfl (hg9) (r_leq rfl rfl))) rfl ?_
  refine ao_read trivial (r_andB rfl rfl) rfl ?_
  refine ao_nil ?_
  refine aq_then ?_
  refine aw_cond rfl (fun hb11 => ?_) (fun hb11 => ?_)
  · obtain ⟨q12, q13⟩ := and_t hb11
    have q14 := d_t q12
    have q15 := d_t q13
    obtain ⟨d3, rfl⟩ : ∃ e, d3 = e + 1 := ⟨d3 - 1, by omega⟩
    replace h := is_if hb11 (is_cntS h)
    refine aw_skip ?_
    refine aq_then ?_
    refine aw_seq ?_
    refine aw_block ?_
    refine aw_seq ?_
    refine aw_region ?_
    refine ao_read trivial (r_move rfl) rfl ?_
    refine ao_read trivial (r_move rfl) rfl ?_
    refine ao_read trivial (r_idxAddr_int Try.underlying24 Try.sizeOf3 rfl rfl (by omega) (show i2 < (x0.length : Int) from by omega)) rfl ?_
    refine ao_read trivial (r_load_c_int Try.isAgg3 Try.sizeOf3 rfl) rfl ?_
    refine ao_scall trivial (scall (c_spec_l1In (is_mk (rfl : p_spec_l1In (x0.getD i2.toNat 0) 0 5 = _))) rfl Try.func107 rfl rfl rfl rfl (fun σ => ⟨ad_ren rfl, ad_ren rfl, ad_ren rfl, trivial⟩)) rfl ?_
    refine ao_read trivial (r_not rfl) rfl ?_
    refine ao_nil ?_
    refine aq_then ?_
    refine aw_cond rfl (fun hb16 => ?_) (fun hb16 => ?_)
    · replace h := is_else (ne_t (not_t hb16)) h
      refine aw_seq ?_
      refine aw_region ?_
      refine ao_read trivial (r_assign rfl) rfl ?_
      refine ao_nil ?_
      refine aq_then ?_
      refine aw_ret ?_
      refine aq_in_ret ?_
      refine aq_then_ret ?_
      refine aq_then_ret ?_
      refine aq_in_ret ?_
      refine aq_then_ret ?_
      refine aq_ret ?_
      obtain rfl := is_eq h
      exact aq_finx (l := [.tmp 4]) (xs := [.bool false]) idn [.bool false] [] rfl (by exact ⟨rfl, trivial⟩) (by exact ⟨ad_ren rfl, trivial⟩) (by exact trivial) rfl (nk rfl) rfl rfl ⟨rfl, rfl⟩
    · replace h := is_if (not_f hb16) h
      refine aw_skip ?_
      refine aq_in ?_
      refine aq_then ?_
      refine aw_region ?_
      refine ao_read trivial (r_move rfl) rfl ?_
      refine ao_read trivial (r_addI rfl rfl (wrap_id (by omega) (by omega))) rfl ?_
      refine ao_read trivial (r_assign rfl) rfl ?_
      refine ao_nil ?_
      exact aq_again (AL.sub (sub_mk idn (by exact ⟨⟨_, rfl, ad_ren rfl⟩, ⟨_, rfl, ad_ren rfl⟩, ⟨_, rfl, ad_ren rfl⟩, trivial⟩) (by exact trivial) (by rfl) (nk rfl)) (ih3 d3 (i2 + 1) () (by omega) ⟨by omega, (by (try simp only [List.length_set, List.length_append, List.length_cons, List.length_nil, List.length_replicate, List.length_take, List.length_drop]) <;> omega), (by (try simp only [List.length_set, List.length_append, List.length_cons, List.length_nil, List.length_replicate, List.length_take, List.length_drop]) <;> omega)⟩ h))
  · replace h := is_cntF h (ne_t hb11) (fun _ => rfl)
    refine aw_exit ?_
    refine aq_then_exit ?_
    refine aq_then_exit ?_
    refine aq_in_exit ?_
    refine aq_then ?_
    refine aw_seq ?_
    refine aw_region ?_
    refine ao_read trivial (r_move rfl) rfl ?_
    refine ao_read trivial (r_len_vm (x0.length : Int) Try.underlying24 rfl rfl) rfl ?_
    refine ao_read trivial (r_move rfl) rfl ?_
    refine ao_read trivial (r_leq rfl rfl) rfl ?_
    refine ao_read trivial (r_assign rfl) rfl ?_
    refine ao_nil ?_
    refine aq_then ?_
    refine aw_ret ?_
    refine aq_ret ?_
    obtain rfl := is_eq h
    exact aq_finx (l := [.tmp 4]) (xs := [.bool (decide ((x0.length : Int) ≤ x1))]) idn [.bool (decide ((x0.length : Int) ≤ x1))] [] rfl (by exact ⟨rfl, trivial⟩) (by exact ⟨ad_ren rfl, trivial⟩) (by exact trivial) rfl (nk rfl) rfl rfl ⟨rfl, rfl⟩
theorem c_spec_l2All {fu : Nat} {x0 : Int} {r : Int} (h : Is (p_spec_l2All fu x0) (some r)) :
    Scalar Try.prog 101 [.int .i64 x0] (.int .i64 r) := by
  unfold p_spec_l2All at h
  refine ac_enter ⟨13, 0⟩ Try.func101 rfl rfl rfl rfl rfl (fun Γ => ?_)
  refine aw_seq ?_
  refine aw_region ?_
  refine ao_read trivial (r_assign rfl) rfl ?_
  refine ao_nil ?_
  refine aq_then ?_
  refine aw_seq ?_
  refine aw_region ?_
  refine ao_read trivial (r_assign rfl) rfl ?_
  refine ao_nil ?_
  refine aq_then ?_
  refine aw_seq ?_
  refine aw_seq ?_
  refine aw_region ?_
  refine ao_read trivial (r_assign rfl) rfl ?_
  refine ao_nil ?_
  refine aq_then ?_
  refine aw_block ?_
  refine aw_loop (AL.sub (sub_mk idn (by exact ⟨⟨_, rfl, ad_ren rfl⟩, ⟨_, rfl, ad_ren rfl⟩, ⟨_, rfl, ad_ren rfl⟩, trivial⟩) (by exact trivial) (by rfl) (nk rfl)) (al_whl (fun (s1 : Int × Int) => [(0, .int .i64 x0), (3, .int .i64 s1.1), (4, .int .i64 s1.2)]) (fun (s1 : Int × Int) => []) (fun (s1 : Int × Int) => True) h trivial (fun d3 s1 hI h ih3 => ?_)))
  replace h := is_whlS h
  refine al_round ?_
  refine aw_seq ?_
  refine aw_seq ?_
  refine aw_region ?_
  refine ao_read trivial (r_move rfl) rfl ?_
  refine ao_read trivial (r_move rfl) rfl ?_
  refine ao_read trivial (r_lss rfl rfl) rfl ?_
  refine ao_nil ?_
  refine aq_then ?_
  refine aw_cond rfl (fun hb5 => ?_) (fun hb5 => ?_)
  · have q6 := d_t hb5
    replace h := is_if (d_t hb5) h
    refine aw_skip ?_
    refine aq_then ?_
    refine aw_seq ?_
    refine aw_block ?_
    refine aw_region ?_
    refine ao_read trivial (r_move rfl) rfl ?_
    refine ao_read trivial (r_mul rfl rfl) rfl ?_
    refine ao_read trivial (r_assign rfl) rfl ?_
    refine ao_nil ?_
    refine aq_in ?_
    refine aq_then ?_
    refine aw_region ?_
    refine ao_read trivial (r_move rfl) rfl ?_
    refine ao_read trivial (r_add rfl rfl) rfl ?_
    refine ao_read trivial (r_assign rfl) rfl ?_
    refine ao_nil ?_
    exact aq_again (AL.sub (sub_mk idn (by exact ⟨⟨_, rfl, ad_ren rfl⟩, ⟨_, rfl, ad_ren rfl⟩, ⟨_, rfl, ad_ren rfl⟩, trivial⟩) (by exact trivial) (by rfl) (nk rfl)) (ih3 ((IntKind.wrap .i64 (s1.1 * 6)), (IntKind.wrap .i64 (s1.2 + 1))) trivial h))
  · have q7 := d_f hb5
    replace h := is_else (d_f hb5) h
    refine aw_exit ?_
    refine aq_then_exit ?_
    refine aq_then_exit ?_
    refine aq_in_exit ?_
    refine aq_then ?_
    refine aw_seq ?_
    refine aw_region ?_
    refine ao_read trivial (r_move rfl) rfl ?_
    refine ao_read trivial (r_assign rfl) rfl ?_
    refine ao_nil ?_
    refine aq_then ?_
    refine aw_ret ?_
    refine aq_ret ?_
    obtain rfl := is_some h
    exact aq_finx (l := [.tmp 2]) (xs := [.int .i64 s1.1]) idn [.int .i64 s1.1] [] rfl (by exact ⟨rfl, trivial⟩) (by exact ⟨ad_ren rfl, trivial⟩) (by exact trivial) rfl (nk rfl) rfl rfl ⟨rfl, rfl⟩
theorem c_spec_l9Good {fu : Nat} {x0 : Int} {x1 : Int} {r : Bool} (h : Is (p_spec_l9Good fu x0 x1) (some r)) :
    Scalar Try.prog 93 [.int .i64 x0, .int .i64 x1] (.bool r) := by
  unfold p_spec_l9Good at h
  refine ac_enter ⟨17, 0⟩ Try.func93 rfl rfl rfl rfl rfl (fun Γ => ?_)
  refine aw_seq ?_
  refine aw_region ?_
  refine ao_read trivial (r_assign rfl) rfl ?_
  refine ao_nil ?_
  refine aq_then ?_
  refine aw_seq ?_
  refine aw_region ?_
  refine ao_read trivial (r_move rfl) rfl ?_
  refine ao_scall trivial (scall (c_spec_l1In (is_mk (rfl : p_spec_l1In x0 1 1000 = _))) rfl Try.func107 rfl rfl rfl rfl (fun σ => ⟨ad_ren rfl, ad_ren rfl, ad_ren rfl, trivial⟩)) rfl ?_
  refine ao_read trivial (r_move rfl) rfl ?_
  refine ao_readG (x := .int .i64 x1) rfl (GV.T rfl) (fun hg1 => r_move rfl) rfl ?_
  refine ao_scallG (r := .bool (p_spec_l1In x1 1 6)) rfl (GV.T rfl) (fun hg2 => SCall.strip 8 rfl (hg2) (scall (c_spec_l1In (is_mk (rfl : p_spec_l1In x1 1 6 = _))) rfl Try.func107 rfl rfl rfl rfl (fun σ => ⟨ad_ren rfl, ad_ren rfl, ad_ren rfl, trivial⟩))) rfl ?_
  refine ao_read trivial (r_andB rfl rfl) rfl ?_
  refine ao_read trivial (r_move rfl) rfl ?_
  refine ao_readG (x := .int .i64 x1) rfl (GV.T rfl) (fun hg3 => by
        obtain ⟨q4, q5⟩ := and_t hg3
        exact r_move rfl) rfl ?_
  obtain ⟨g9, h⟩ := is_guard h
  refine ao_scallG (r := .int .i64 ((p_spec_l2All fu x1).getD 0)) rfl (GV.T rfl) (fun hg6 => by
        obtain ⟨q7, q8⟩ := and_t hg6
        exact SCall.strip 12 rfl (hg6) (scall (c_spec_l2All (is_mk (isSome_getD (g9 hg6)))) rfl Try.func101 rfl rfl rfl rfl (fun σ => ⟨ad_ren rfl, trivial⟩))) rfl ?_
  refine ao_readG (x := .int .i64 x0) rfl (GV.T rfl) (fun hg10 => by
        obtain ⟨q11, q12⟩ := and_t hg10
        exact r_move rfl) rfl ?_
  refine ao_readG (x := .bool (decide (x0 ≤ ((p_spec_l2All fu x1).getD 0)))) rfl (GV.T rfl) (fun hg13 => by
        obtain ⟨q14, q15⟩ := and_t hg13
        exact Reads.strip 13 rfl (hg13) (Reads.strip 14 rfl (hg13) (r_geq rfl rfl))) rfl ?_
  refine ao_read trivial (r_andB rfl rfl) rfl ?_
  refine ao_read trivial (r_assign rfl) rfl ?_
  refine ao_nil ?_
  refine aq_then ?_
  refine aw_ret ?_
  refine aq_ret ?_
  obtain rfl := is_some h
  exact aq_finx (l := [.tmp 4]) (xs := [.bool (((p_spec_l1In x0 1 1000) && (p_spec_l1In x1 1 6)) && (decide (x0 ≤ ((p_spec_l2All fu x1).getD 0))))]) idn [.bool (((p_spec_l1In x0 1 1000) && (p_spec_l1In x1 1 6)) && (decide (x0 ≤ ((p_spec_l2All fu x1).getD 0))))] [] rfl (by exact ⟨rfl, trivial⟩) (by exact ⟨ad_ren rfl, trivial⟩) (by exact trivial) rfl (nk rfl) rfl rfl ⟨rfl, rfl⟩
theorem c_spec_l9Number {x0 : (List Int)} {r : Int} (h : Is (p_spec_l9Number x0) r) :
    Scalar Try.prog 94 [.v (.slice (.int .i64)) x0] (.int .i64 r) := by
  unfold p_spec_l9Number at h
  refine ac_enter ⟨19, 0⟩ Try.func94 rfl rfl rfl rfl rfl (fun Γ => ?_)
  refine sl_len_m 0 (x0.length : Int) rfl rfl (fun hl0 => ?_)
  refine aw_seq ?_
  refine aw_region ?_
  refine ao_read trivial (r_assign rfl) rfl ?_
  refine ao_nil ?_
  refine aq_then ?_
  refine aw_seq ?_
  refine aw_region ?_
  refine ao_read trivial (r_assign rfl) rfl ?_
  refine ao_nil ?_
  refine aq_then ?_
  refine aw_seq ?_
  refine aw_seq ?_
  refine aw_region ?_
  refine ao_read trivial (r_assign rfl) rfl ?_
  refine ao_nil ?_
  refine aq_then ?_
  refine aw_block ?_
  refine aw_loop (AL.sub (fr' := [(0, .v (.slice (.int .i64)) x0), (3, .int .i64 0), (4, .int .i64 0)]) (H' := []) (sub_mk idn (by exact ⟨⟨_, rfl, ad_ren rfl⟩, ⟨_, rfl, ad_ren rfl⟩, ⟨_, rfl, ad_ren rfl⟩, trivial⟩) (by exact trivial) (by rfl) (nk rfl)) (al_cnt (fun i2 (s1 : Int) => [(0, .v (.slice (.int .i64)) x0), (3, .int .i64 s1), (4, .int .i64 i2)]) (fun i2 (s1 : Int) => []) (fun d i2 (s1 : Int) => d = Int.toNat ((x0.length : Int) - i2) ∧ 0 ≤ i2 ∧ i2 ≤ (x0.length : Int)) h ⟨rfl, (by (try simp only [List.length_set, List.length_append, List.length_cons, List.length_nil, List.length_replicate, List.length_take, List.length_drop]) <;> omega), (by (try simp only [List.length_set, List.length_append, List.length_cons, List.length_nil, List.length_replicate, List.length_take, List.length_drop]) <;> omega)⟩ (fun d3 i2 s1 hI h ih3 => ?_)))
  obtain ⟨hd, _, _⟩ := hI
  refine al_round ?_
  refine aw_seq ?_
  refine aw_seq ?_
  refine aw_region ?_
  refine ao_read trivial (r_move rfl) rfl ?_
  refine ao_read trivial (r_move rfl) rfl ?_
  refine ao_read trivial (r_len_vm (x0.length : Int) Try.underlying24 rfl rfl) rfl ?_
  refine ao_read trivial (r_lss rfl rfl) rfl ?_
  refine ao_nil ?_
  refine aq_then ?_
  refine aw_cond rfl (fun hb5 => ?_) (fun hb5 => ?_)
  · have q6 := d_t hb5
    obtain ⟨d3, rfl⟩ : ∃ e, d3 = e + 1 := ⟨d3 - 1, by omega⟩
    replace h := is_cntS h
    refine aw_skip ?_
    refine aq_then ?_
    refine aw_seq ?_
    refine aw_block ?_
    refine aw_region ?_
    refine ao_read trivial (r_move rfl) rfl ?_
    refine ao_read trivial (r_mul rfl rfl) rfl ?_
    refine ao_read trivial (r_move rfl) rfl ?_
    refine ao_read trivial (r_move rfl) rfl ?_
    refine ao_read trivial (r_idxAddr_int Try.underlying24 Try.sizeOf3 rfl rfl (by omega) (show i2 < (x0.length : Int) from by omega)) rfl ?_
    refine ao_read trivial (r_load_c_int Try.isAgg3 Try.sizeOf3 rfl) rfl ?_
    refine ao_read trivial (r_add rfl rfl) rfl ?_
    refine ao_read trivial (r_assign rfl) rfl ?_
    refine ao_nil ?_
    refine aq_in ?_
    refine aq_then ?_
    refine aw_region ?_
    refine ao_read trivial (r_move rfl) rfl ?_
    refine ao_read trivial (r_addI rfl rfl (wrap_id (by omega) (by omega))) rfl ?_
    refine ao_read trivial (r_assign rfl) rfl ?_
    refine ao_nil ?_
    exact aq_again (AL.sub (sub_mk idn (by exact ⟨⟨_, rfl, ad_ren rfl⟩, ⟨_, rfl, ad_ren rfl⟩, ⟨_, rfl, ad_ren rfl⟩, trivial⟩) (by exact trivial) (by rfl) (nk rfl)) (ih3 d3 (i2 + 1) (IntKind.wrap .i64 ((IntKind.wrap .i64 (6 * s1)) + (x0.getD i2.toNat 0))) (by omega) ⟨by omega, (by (try simp only [List.length_set, List.length_append, List.length_cons, List.length_nil, List.length_replicate, List.length_take, List.length_drop]) <;> omega), (by (try simp only [List.length_set, List.length_append, List.length_cons, List.length_nil, List.length_replicate, List.length_take, List.length_drop]) <;> omega)⟩ h))
  · have q7 := d_f hb5
    obtain rfl : d3 = 0 := by omega
    replace h := is_cnt0 h
    refine aw_exit ?_
    refine aq_then_exit ?_
    refine aq_then_exit ?_
    refine aq_in_exit ?_
    refine aq_then ?_
    refine aw_seq ?_
    refine aw_region ?_
    refine ao_read trivial (r_move rfl) rfl ?_
    refine ao_read trivial (r_assign rfl) rfl ?_
    refine ao_nil ?_
    refine aq_then ?_
    refine aw_ret ?_
    refine aq_ret ?_
    obtain rfl := is_eq h
    exact aq_finx (l := [.tmp 2]) (xs := [.int .i64 s1]) idn [.int .i64 s1] [] rfl (by exact ⟨rfl, trivial⟩) (by exact ⟨ad_ren rfl, trivial⟩) (by exact trivial) rfl (nk rfl) rfl rfl ⟨rfl, rfl⟩
theorem c_spec_l9Taken {fu : Nat} {x0 : Int} {x1 : Int} {r : Int} (h : Is (p_spec_l9Taken fu x0 x1) (some r)) :
    Scalar Try.prog 95 [.int .i64 x0, .int .i64 x1] (.int .i64 r) := by
  unfold p_spec_l9Taken at h
  refine ac_enter ⟨11, 0⟩ Try.func95 rfl rfl rfl rfl rfl (fun Γ => ?_)
  refine aw_seq ?_
  refine aw_region ?_
  refine ao_read trivial (r_assign rfl) rfl ?_
  refine ao_nil ?_
  refine aq_then ?_
  refine aw_seq ?_
  refine aw_region ?_
  refine ao_read trivial (r_move rfl) rfl ?_
  obtain ⟨r1, r1h, h⟩ := is_bind h
  refine ao_scall trivial (scall (c_spec_l2All (is_mk r1h)) rfl Try.func101 rfl rfl rfl rfl (fun σ => ⟨ad_ren rfl, trivial⟩)) rfl ?_
  refine ao_read trivial (r_move rfl) rfl ?_
  obtain ⟨g2, h⟩ := is_guard h
  refine ao_read trivial (r_quo rfl rfl g2) rfl ?_
  refine ao_read trivial (r_move rfl) rfl ?_
  refine ao_read trivial (r_mul rfl rfl) rfl ?_
  refine ao_read trivial (r_assign rfl) rfl ?_
  refine ao_nil ?_
  refine aq_then ?_
  refine aw_ret ?_
  refine aq_ret ?_
  obtain rfl := is_some h
  exact aq_finx (l := [.tmp 4]) (xs := [.int .i64 (IntKind.wrap .i64 ((IntKind.wrap .i64 (r1.tdiv x0)) * x0))]) idn [.int .i64 (IntKind.wrap .i64 ((IntKind.wrap .i64 (r1.tdiv x0)) * x0))] [] rfl (by exact ⟨rfl, trivial⟩) (by exact ⟨ad_ren rfl, trivial⟩) (by exact trivial) rfl (nk rfl) rfl rfl ⟨rfl, rfl⟩
theorem c_spec_MakeNumber {fu : Nat} {x0 : Int} {x1 : (List Int)} {r : Int × Bool × Bool} (h : Is (p_spec_MakeNumber fu x0 x1) (some r)) :
    Scalar Try.prog 10 [.int .i64 x0, .v (.slice (.int .i64)) x1] (.tup [.int .i64 r.1, .bool r.2.1, .bool r.2.2]) := by
  unfold p_spec_MakeNumber at h
  refine ac_enter ⟨29, 0⟩ Try.func10 rfl rfl rfl rfl rfl (fun Γ => ?_)
  refine sl_len_m 1 (x1.length : Int) rfl rfl (fun hl1 => ?_)
  refine aw_seq ?_
  refine aw_region ?_
  refine ao_read trivial (r_assign rfl) rfl ?_
  refine ao_read trivial (r_assign rfl) rfl ?_
  refine ao_read trivial (r_assign rfl) rfl ?_
  refine ao_nil ?_
  refine aq_then ?_
  refine aw_seq ?_
  refine aw_seq ?_
  refine aw_region ?_
  refine ao_read trivial (r_move rfl) rfl ?_
  refine ao_scall trivial (scall (c_spec_l9Throws (is_mk (rfl : p_spec_l9Throws x1 6 = _))) rfl Try.func92 rfl rfl rfl rfl (fun σ => ⟨ad_ren rfl, ad_ren rfl, trivial⟩)) rfl ?_
  refine ao_read trivial (r_not rfl) rfl ?_
  refine ao_read trivial (r_move rfl) rfl ?_
  refine ao_readG (x := .int .i64 x0) rfl (GV.F rfl) (fun hg1 => r_move rfl) rfl ?_
  refine ao_readG (x := .v (.slice (.int .i64)) x1) rfl (GV.F rfl) (fun hg2 => r_move rfl) rfl ?_
  refine ao_readG (x := .int .i64 (x1.length : Int)) rfl (GV.F rfl) (fun hg3 => Reads.strip 13 rfl (hg3) (r_len_vm (x1.length : Int) Try.underlying24 rfl rfl)) rfl ?_
  obtain ⟨g5, h⟩ := is_guard h
  refine ao_scallG (r := .bool ((p_spec_l9Good fu x0 (x1.length : Int)).getD false)) rfl (GV.F rfl) (fun hg4 => SCall.strip 12 rfl (hg4) (SCall.strip 14 rfl (hg4) (scall (c_spec_l9Good (is_mk (isSome_getD (g5 hg4)))) rfl Try.func93 rfl rfl rfl rfl (fun σ => ⟨ad_ren rfl, ad_ren rfl, trivial⟩)))) rfl ?_
  refine ao_readG (x := .bool (!((p_spec_l9Good fu x0 (x1.length : Int)).getD false))) rfl (GV.F rfl) (fun hg6 => Reads.strip 15 rfl (hg6) (r_not rfl)) rfl ?_
  refine ao_read trivial (r_orB rfl rfl) rfl ?_
  refine ao_nil ?_
  refine aq_then ?_
  refine aw_cond rfl (fun hb7 => ?_) (fun hb7 => ?_)
  · replace h := is_if hb7 h
    refine aw_seq ?_
    refine aw_region ?_
    refine ao_read trivial (r_assign rfl) rfl ?_
    refine ao_read trivial (r_assign rfl) rfl ?_
    refine ao_read trivial (r_assign rfl) rfl ?_
    refine ao_nil ?_
    refine aq_then ?_
    refine aw_ret ?_
    refine aq_then_ret ?_
    refine aq_ret ?_
    obtain rfl := is_some h
    exact aq_finx (l := [.tmp 4, .tmp 5, .tmp 6]) (xs := [.int .i64 0, .bool false, .bool false]) idn [.int .i64 0, .bool false, .bool false] [] rfl (by exact ⟨rfl, rfl, rfl, trivial⟩) (by exact ⟨ad_ren rfl, ad_ren rfl, ad_ren rfl, trivial⟩) (by exact trivial) rfl (nk rfl) rfl rfl ⟨rfl, rfl⟩
  · obtain ⟨q8, q9⟩ := or_f hb7
    replace h := is_else (ne_t hb7) h
    refine aw_skip ?_
    refine aq_then ?_
    refine aw_seq ?_
    refine aw_region ?_
    refine ao_read trivial (r_move rfl) rfl ?_
    refine ao_scall trivial (scall (c_spec_l9Number (is_mk (rfl : p_spec_l9Number x1 = _))) rfl Try.func94 rfl rfl rfl rfl (fun σ => ⟨ad_ren rfl, trivial⟩)) rfl ?_
    refine ao_read trivial (r_assign rfl) rfl ?_
    refine ao_nil ?_
    refine aq_then ?_
    refine aw_seq ?_
    refine aw_seq ?_
    refine aw_region ?_
    refine ao_read trivial (r_move rfl) rfl ?_
    refine ao_read trivial (r_move rfl) rfl ?_
    refine ao_read trivial (r_move rfl) rfl ?_
    refine ao_read trivial (r_len_vm (x1.length : Int) Try.underlying24 rfl rfl) rfl ?_
    obtain ⟨r10, r10h, h⟩ := is_bind h
    refine ao_scall trivial (scall (c_spec_l9Taken (is_mk r10h)) rfl Try.func95 rfl rfl rfl rfl (fun σ => ⟨ad_ren rfl, ad_ren rfl, trivial⟩)) rfl ?_
    refine ao_read trivial (r_geq rfl rfl) rfl ?_
    refine ao_nil ?_
    refine aq_then ?_
    refine aw_cond rfl (fun hb11 => ?_) (fun hb11 => ?_)
    · have q12 := d_t hb11
      replace h := is_if (d_t hb11) h
      refine aw_seq ?_
      refine aw_region ?_
      refine ao_read trivial (r_assign rfl) rfl ?_
      refine ao_read trivial (r_assign rfl) rfl ?_
      refine ao_read trivial (r_assign rfl) rfl ?_
      refine ao_nil ?_
      refine aq_then ?_
      refine aw_ret ?_
      refine aq_then_ret ?_
      refine aq_ret ?_
      obtain rfl := is_some h
      exact aq_finx (l := [.tmp 4, .tmp 5, .tmp 6]) (xs := [.int .i64 0, .bool false, .bool true]) idn [.int .i64 0, .bool false, .bool true] [] rfl (by exact ⟨rfl, rfl, rfl, trivial⟩) (by exact ⟨ad_ren rfl, ad_ren rfl, ad_ren rfl, trivial⟩) (by exact trivial) rfl (nk rfl) rfl rfl ⟨rfl, rfl⟩
    · have q13 := d_f hb11
      replace h := is_else (d_f hb11) h
      refine aw_skip ?_
      refine aq_then ?_
      refine aw_seq ?_
      refine aw_region ?_
      refine ao_read trivial (r_move rfl) rfl ?_
      refine ao_read trivial (r_move rfl) rfl ?_
      obtain ⟨g14, h⟩ := is_guard h
      refine ao_read trivial (r_rem rfl rfl g14) rfl ?_
      refine ao_read trivial (r_assign rfl) rfl ?_
      refine ao_read trivial (r_assign rfl) rfl ?_
      refine ao_read trivial (r_assign rfl) rfl ?_
      refine ao_nil ?_
      refine aq_then ?_
      refine aw_ret ?_
      refine aq_ret ?_
      obtain rfl := is_some h
      exact aq_finx (l := [.tmp 4, .tmp 5, .tmp 6]) (xs := [.int .i64 ((p_spec_l9Number x1).tmod x0), .bool true, .bool true]) idn [.int .i64 ((p_spec_l9Number x1).tmod x0), .bool true, .bool true] [] rfl (by exact ⟨rfl, rfl, rfl, trivial⟩) (by exact ⟨ad_ren rfl, ad_ren rfl, ad_ren rfl, trivial⟩) (by exact trivial) rfl (nk rfl) rfl rfl ⟨rfl, rfl⟩
theorem c_spec_DrawNumberOfThrows {fu : Nat} {x0 : (List Int)} {r : (List Int)} (h : Is (p_spec_DrawNumberOfThrows fu x0) (some r)) :
    ACalls Try.prog 11 [.v (.slice (.int .u8)) x0] [] (fun r' H' => r' = .os 0 ∧ H' = [(0, .row (.int .i64) r)]) := by
  unfold p_spec_DrawNumberOfThrows at h
  refine ac_enter ⟨10, 0⟩ Try.func11 rfl rfl rfl rfl rfl (fun Γ => ?_)
  refine sl_len_m 0 (x0.length : Int) rfl rfl (fun hl0 => ?_)
  refine aw_seq ?_
  refine aw_region ?_
  refine ao_read trivial (r_assign rfl) rfl ?_
  refine ao_nil ?_
  refine aq_then ?_
  refine aw_seq ?_
  refine aw_region ?_
  refine ao_read trivial (r_move rfl) rfl ?_
  refine ao_read trivial (r_build_st (l := [(0, .tmp 4)]) (cs := [.cell (.v (.slice (.int .u8)) x0), .cell (.int .i64 0), .cell (.int .u64 0)]) (.pair (.slice (.int .u8)) (.pair (.int .i64) (.pair (.int .u64) .unit))) [(0, 1), (1, 1), (2, 1)] Try.underlying98 Try.zeroValue98 rfl ⟨rfl, Try.sizeOf22, rfl, Try.sizeOf3, rfl, Try.sizeOf96, trivial⟩ rfl rfl rfl) rfl ?_
  refine ao_eff trivial (e_box 0 rfl rfl rfl rfl rfl rfl) rfl ?_
  refine ao_read trivial (r_assign rfl) rfl ?_
  refine ao_nil ?_
  refine aq_then ?_
  refine aw_seq ?_
  refine aw_region ?_
  refine ao_read trivial (r_move rfl) rfl ?_
  refine ao_eff trivial (e_buildSlice (l := [(0, .const (.int .i64 2)), (1, .const (.int .i64 3)), (2, .const (.int .i64 1)), (3, .const (.int .i64 6)), (4, .const (.int .i64 4)), (5, .const (.int .i64 0)), (6, .const (.int .i64 7))]) (t := (.int .i64)) 1 ([2, 3, 1, 6, 4, 0, 7] : (List Int)) rfl Try.underlying24 Try.zeroValue3 Try.sizeOf3 rfl rfl rfl rfl rfl rfl rfl) rfl ?_
  obtain ⟨r1, r1h, h⟩ := is_bind h
  refine ao_frz (fr' := [(0, .v (.slice (.int .u8)) x0), (2, .nilsl), (4, .v (.slice (.int .u8)) x0), (5, .st [.v (.slice (.int .u8)) x0, .int .i64 0, .int .u64 0]), (6, .ref 0 0), (3, .ref 0 0), (7, .ref 0 0), (8, .v (.slice (.int .i64)) ([2, 3, 1, 6, 4, 0, 7] : (List Int)))]) (H' := [(0, .var [.cell (.v (.slice (.int .u8)) x0), .cell (.int .i64 0), .cell (.int .u64 0)])]) (by exact ⟨⟨_, rfl, ad_ren rfl⟩, ⟨_, rfl, ad_ren rfl⟩, ⟨_, rfl, ad_ren rfl⟩, ⟨_, rfl, ad_ren rfl⟩, ⟨_, rfl, ad_ren rfl⟩, ⟨_, rfl, ad_ren rfl⟩, ⟨_, rfl, ad_ren rfl⟩, ⟨_, rfl, ad_osB rfl rfl⟩, trivial⟩) (by exact ⟨⟨_, rfl, ⟨ad_ren rfl, rfl, ad_ren rfl, rfl, ad_ren rfl, rfl, trivial⟩⟩, trivial⟩) rfl ?_
  refine ao_callV [0] 2 trivial (c_spec_l1Cur_throws (is_mk r1h)) Try.func87 rfl rfl rfl rfl rfl ⟨rfl, trivial⟩ ⟨⟨_, rfl, ⟨ad_ren rfl, rfl, ad_ren rfl, rfl, ad_ren rfl, rfl, trivial⟩⟩, trivial⟩ rfl rfl rfl rfl rfl rfl rfl (fun r' H' hr => ?_)
  obtain ⟨rfl, rfl⟩ := hr
  refine ao_norm (y := .os 2) (H' := [(0, .var [.cell (.v (.slice (.int .u8)) x0), .cell (.int .i64 r1.2.1), .cell (.int .u64 r1.2.2)]), (2, .row (.int .i64) r1.1)]) rfl rfl ?_
  refine row_len_o 2 (r1.1.length : Int) rfl rfl (fun hr2 => ?_)
  refine ao_read trivial (r_assign rfl) rfl ?_
  refine ao_nil ?_
  refine aq_then ?_
  refine aw_ret ?_
  refine aq_ret ?_
  obtain rfl := is_some h
  exact aq_finx (l := [.tmp 2]) (xs := [.os 2]) (rn [(0, 2)]) [.os 0] [(0, .row (.int .i64) r1.1)] rfl (by exact ⟨rfl, trivial⟩) (by exact ⟨ad_ren rfl, trivial⟩) (by exact ⟨⟨_, rfl, rfl⟩, trivial⟩) rfl (nk rfl) rfl rfl ⟨rfl, rfl⟩
theorem c_impl_NumberOfThrows {x0 : (List Int)} {r : Int × Bool} (h : Is (p_impl_NumberOfThrows x0) r) :
    Scalar Try.prog 12 [.v (.slice (.int .i64)) x0] (.tup [.int .i64 r.1, .bool r.2]) := by
  unfold p_impl_NumberOfThrows at h
  refine ac_enter ⟨15, 0⟩ Try.func12 rfl rfl rfl rfl rfl (fun Γ => ?_)
  refine sl_len_m 0 (x0.length : Int) rfl rfl (fun hl0 => ?_)
  refine aw_seq ?_
  refine aw_region ?_
  refine ao_read trivial (r_assign rfl) rfl ?_
  refine ao_read trivial (r_assign rfl) rfl ?_
  refine ao_nil ?_
  refine aq_then ?_
  refine aw_seq ?_
  refine aw_seq ?_
  refine aw_region ?_
  refine ao_read trivial (r_move rfl) rfl ?_
  refine ao_read trivial (r_len_vm (x0.length : Int) Try.underlying24 rfl rfl) rfl ?_
  refine ao_scall trivial (scall (c_impl_within (is_mk (rfl : p_impl_within (x0.length : Int) 1 6 = _))) rfl Try.func96 rfl rfl rfl rfl (fun σ => ⟨ad_ren rfl, ad_ren rfl, ad_ren rfl, trivial⟩)) rfl ?_
  refine ao_read trivial (r_not rfl) rfl ?_
  refine ao_read trivial (r_move rfl) rfl ?_
  refine ao_readG (x := .v (.slice (.int .i64)) x0) rfl (GV.F rfl) (fun hg1 => r_move rfl) rfl ?_
  refine ao_scallG (r := .bool (p_impl_areThrows x0)) rfl (GV.F rfl) (fun hg2 => SCall.strip 9 rfl (hg2) (scall (c_impl_areThrows (is_mk (rfl : p_impl_areThrows x0 = _))) rfl Try.func89 rfl rfl rfl rfl (fun σ => ⟨ad_ren rfl, trivial⟩))) rfl ?_
  refine ao_readG (x := .bool (!(p_impl_areThrows x0))) rfl (GV.F rfl) (fun hg3 => Reads.strip 10 rfl (hg3) (r_not rfl)) rfl ?_
  refine ao_read trivial (r_orB rfl rfl) rfl ?_
  refine ao_nil ?_
  refine aq_then ?_
  refine aw_cond rfl (fun hb4 => ?_) (fun hb4 => ?_)
  · replace h := is_if hb4 h
    refine aw_seq ?_
    refine aw_region ?_
    refine ao_read trivial (r_assign rfl) rfl ?_
    refine ao_read trivial (r_assign rfl) rfl ?_
    refine ao_nil ?_
    refine aq_then ?_
    refine aw_ret ?_
    refine aq_then_ret ?_
    refine aq_ret ?_
    obtain rfl := is_eq h
    exact aq_finx (l := [.tmp 2, .tmp 3]) (xs := [.int .i64 0, .bool false]) idn [.int .i64 0, .bool false] [] rfl (by exact ⟨rfl, rfl, trivial⟩) (by exact ⟨ad_ren rfl, ad_ren rfl, trivial⟩) (by exact trivial) rfl (nk rfl) rfl rfl ⟨rfl, rfl⟩
  · obtain ⟨q5, q6⟩ := or_f hb4
    replace h := is_else (ne_t hb4) h
    refine aw_skip ?_
    refine aq_then ?_
    refine aw_seq ?_
    refine aw_region ?_
    refine ao_read trivial (r_move rfl) rfl ?_
    refine ao_scall trivial (scall (c_impl_numberOf (is_mk (rfl : p_impl_numberOf x0 = _))) rfl Try.func90 rfl rfl rfl rfl (fun σ => ⟨ad_ren rfl, trivial⟩)) rfl ?_
    refine ao_read trivial (r_assign rfl) rfl ?_
    refine ao_read trivial (r_assign rfl) rfl ?_
    refine ao_nil ?_
    refine aq_then ?_
    refine aw_ret ?_
    refine aq_ret ?_
    obtain rfl := is_eq h
    exact aq_finx (l := [.tmp 2, .tmp 3]) (xs := [.int .i64 (p_impl_numberOf x0), .bool true]) idn [.int .i64 (p_impl_numberOf x0), .bool true] [] rfl (by exact ⟨rfl, rfl, trivial⟩) (by exact ⟨ad_ren rfl, ad_ren rfl, trivial⟩) (by exact trivial) rfl (nk rfl) rfl rfl ⟨rfl, rfl⟩
theorem c_spec_NumberOfThrows {x0 : (List Int)} {r : Int × Bool} (h : Is (p_spec_NumberOfThrows x0) r) :
    Scalar Try.prog 13 [.v (.slice (.int .i64)) x0] (.tup [.int .i64 r.1, .bool r.2]) := by
  unfold p_spec_NumberOfThrows at h
  refine ac_enter ⟨14, 0⟩ Try.func13 rfl rfl rfl rfl rfl (fun Γ => ?_)
  refine sl_len_m 0 (x0.length : Int) rfl rfl (fun hl0 => ?_)
  refine aw_seq ?_
  refine aw_region ?_
  refine ao_read trivial (r_assign rfl) rfl ?_
  refine ao_read trivial (r_assign rfl) rfl ?_
  refine ao_nil ?_
  refine aq_then ?_
  refine aw_seq ?_
  refine aw_seq ?_
  refine aw_region ?_
  refine ao_read trivial (r_move rfl) rfl ?_
  refine ao_scall trivial (scall (c_spec_l9Throws (is_mk (rfl : p_spec_l9Throws x0 6 = _))) rfl Try.func92 rfl rfl rfl rfl (fun σ => ⟨ad_ren rfl, ad_ren rfl, trivial⟩)) rfl ?_
  refine ao_read trivial (r_not rfl) rfl ?_
  refine ao_read trivial (r_move rfl) rfl ?_
  refine ao_readG (x := .v (.slice (.int .i64)) x0) rfl (GV.F rfl) (fun hg1 => r_move rfl) rfl ?_
  refine ao_readG (x := .int .i64 (x0.length : Int)) rfl (GV.F rfl) (fun hg2 => Reads.strip 8 rfl (hg2) (r_len_vm (x0.length : Int) Try.underlying24 rfl rfl)) rfl ?_
  refine ao_readG (x := .bool (decide ((x0.length : Int) = 0))) rfl (GV.F rfl) (fun hg3 => Reads.strip 9 rfl (hg3) (r_eql rfl rfl)) rfl ?_
  refine ao_read trivial (r_orB rfl rfl) rfl ?_
  refine ao_nil ?_
  refine aq_then ?_
  refine aw_cond rfl (fun hb4 => ?_) (fun hb4 => ?_)
  · replace h := is_if hb4 h
    refine aw_seq ?_
    refine aw_region ?_
    refine ao_read trivial (r_assign rfl) rfl ?_
    refine ao_read trivial (r_assign rfl) rfl ?_
    refine ao_nil ?_
    refine aq_then ?_
    refine aw_ret ?_
    refine aq_then_ret ?_
    refine aq_ret ?_
    obtain rfl := is_eq h
    exact aq_finx (l := [.tmp 2, .tmp 3]) (xs := [.int .i64 0, .bool false]) idn [.int .i64 0, .bool false] [] rfl (by exact ⟨rfl, rfl, trivial⟩) (by exact ⟨ad_ren rfl, ad_ren rfl, trivial⟩) (by exact trivial) rfl (nk rfl) rfl rfl ⟨rfl, rfl⟩
  · obtain ⟨q5, q6⟩ := or_f hb4
    have q7 := d_f q6
    replace h := is_else (ne_t hb4) h
    refine aw_skip ?_
    refine aq_then ?_
    refine aw_seq ?_
    refine aw_region ?_
    refine ao_read trivial (r_move rfl) rfl ?_
    refine ao_scall trivial (scall (c_spec_l9Number (is_mk (rfl : p_spec_l9Number x0 = _))) rfl Try.func94 rfl rfl rfl rfl (fun σ => ⟨ad_ren rfl, trivial⟩)) rfl ?_
    refine ao_read trivial (r_assign rfl) rfl ?_
    refine ao_read trivial (r_assign rfl) rfl ?_
    refine ao_nil ?_
    refine aq_then ?_
    refine aw_ret ?_
    refine aq_ret ?_
    obtain rfl := is_eq h
    exact aq_finx (l := [.tmp 2, .tmp 3]) (xs := [.int .i64 (p_spec_l9Number x0), .bool true]) idn [.int .i64 (p_spec_l9Number x0), .bool true] [] rfl (by exact ⟨rfl, rfl, trivial⟩) (by exact ⟨ad_ren rfl, ad_ren rfl, trivial⟩) (by exact trivial) rfl (nk rfl) rfl rfl ⟨rfl, rfl⟩
theorem c_spec_DrawTakenOf {x0 : (List Int)} {r : Int × Int} (h : Is (p_spec_DrawTakenOf x0) (some r)) :
    Scalar Try.prog 14 [.v (.slice (.int .u8)) x0] (.tup [.int .i64 r.1, .int .i64 r.2]) := by
  unfold p_spec_DrawTakenOf at h
  refine ac_enter ⟨13, 0⟩ Try.func14 rfl rfl rfl rfl rfl (fun Γ => ?_)
  refine sl_len_m 0 (x0.length : Int) rfl rfl (fun hl0 => ?_)
  refine aw_seq ?_
  refine aw_region ?_
  refine ao_read trivial (r_assign rfl) rfl ?_
  refine ao_read trivial (r_assign rfl) rfl ?_
  refine ao_nil ?_
  refine aq_then ?_
  refine aw_seq ?_
  refine aw_region ?_
  refine ao_read trivial (r_move rfl) rfl ?_
  refine ao_read trivial (r_build_st (l := [(0, .tmp 5)]) (cs := [.cell (.v (.slice (.int .u8)) x0), .cell (.int .i64 0), .cell (.int .u64 0)]) (.pair (.slice (.int .u8)) (.pair (.int .i64) (.pair (.int .u64) .unit))) [(0, 1), (1, 1), (2, 1)] Try.underlying98 Try.zeroValue98 rfl ⟨rfl, Try.sizeOf22, rfl, Try.sizeOf3, rfl, Try.sizeOf96, trivial⟩ rfl rfl rfl) rfl ?_
  refine ao_eff trivial (e_box 0 rfl rfl rfl rfl rfl rfl) rfl ?_
  refine ao_read trivial (r_assign rfl) rfl ?_
  refine ao_nil ?_
  refine aq_then ?_
  refine aw_seq ?_
  refine aw_region ?_
  refine ao_read trivial (r_move rfl) rfl ?_
  obtain ⟨r1, r1h, h⟩ := is_bind h
  refine ao_callV [0] 1 trivial (c_spec_l1Cur_size (is_mk r1h)) Try.func86 rfl rfl rfl rfl rfl ⟨rfl, trivial⟩ ⟨⟨_, rfl, ⟨ad_ren rfl, rfl, ad_ren rfl, rfl, ad_ren rfl, rfl, trivial⟩⟩, trivial⟩ rfl rfl rfl rfl rfl rfl rfl (fun r' H' hr => ?_)
  obtain ⟨rfl, rfl⟩ := hr
  refine ao_norm (y := .int .i64 r1.1) (H' := [(0, .var [.cell (.v (.slice (.int .u8)) x0), .cell (.int .i64 r1.2.1), .cell (.int .u64 r1.2.2)])]) rfl rfl ?_
  refine ao_read trivial (r_move rfl) rfl ?_
  refine ao_eff trivial (e_buildSlice (l := [(0, .const (.int .i64 2)), (1, .const (.int .i64 1)), (2, .const (.int .i64 3)), (3, .const (.int .i64 4)), (4, .const (.int .i64 6)), (5, .const (.int .i64 0)), (6, .const (.int .i64 7)), (7, .const (.int .i64 5))]) (t := (.int .i64)) 1 ([2, 1, 3, 4, 6, 0, 7, 5] : (List Int)) rfl Try.underlying24 Try.zeroValue3 Try.sizeOf3 rfl rfl rfl rfl rfl rfl rfl) rfl ?_
  obtain ⟨r2, r2h, h⟩ := is_bind h
  refine ao_frz (fr' := [(0, .v (.slice (.int .u8)) x0), (2, .int .i64 0), (3, .int .i64 0), (5, .v (.slice (.int .u8)) x0), (6, .st [.v (.slice (.int .u8)) x0, .int .i64 0, .int .u64 0]), (7, .ref 0 0), (4, .ref 0 0), (8, .ref 0 0), (9, .int .i64 r1.1), (10, .ref 0 0), (11, .v (.slice (.int .i64)) ([2, 1, 3, 4, 6, 0, 7, 5] : (List Int)))]) (H' := [(0, .var [.cell (.v (.slice (.int .u8)) x0), .cell (.int .i64 r1.2.1), .cell (.int .u64 r1.2.2)])]) (by exact ⟨⟨_, rfl, ad_ren rfl⟩, ⟨_, rfl, ad_ren rfl⟩, ⟨_, rfl, ad_ren rfl⟩, ⟨_, rfl, ad_ren rfl⟩, ⟨_, rfl, ad_ren rfl⟩, ⟨_, rfl, ad_ren rfl⟩, ⟨_, rfl, ad_ren rfl⟩, ⟨_, rfl, ad_ren rfl⟩, ⟨_, rfl, ad_ren rfl⟩, ⟨_, rfl, ad_ren rfl⟩, ⟨_, rfl, ad_osB rfl rfl⟩, trivial⟩) (by exact ⟨⟨_, rfl, ⟨ad_ren rfl, rfl, ad_ren rfl, rfl, ad_ren rfl, rfl, trivial⟩⟩, trivial⟩) rfl ?_
  refine ao_callV [0] 2 trivial (c_spec_l1Cur_among (is_mk r2h)) Try.func97 rfl rfl rfl rfl rfl ⟨rfl, trivial⟩ ⟨⟨_, rfl, ⟨ad_ren rfl, rfl, ad_ren rfl, rfl, ad_ren rfl, rfl, trivial⟩⟩, trivial⟩ rfl rfl rfl rfl rfl rfl rfl (fun r' H' hr => ?_)
  obtain ⟨rfl, rfl⟩ := hr
  refine ao_norm (y := .int .i64 r2.1) (H' := [(0, .var [.cell (.v (.slice (.int .u8)) x0), .cell (.int .i64 r2.2.1), .cell (.int .u64 r2.2.2)])]) rfl rfl ?_
  refine ao_read trivial (r_assign rfl) rfl ?_
  refine ao_read trivial (r_assign rfl) rfl ?_
  refine ao_nil ?_
  refine aq_then ?_
  refine aw_ret ?_
  refine aq_ret ?_
  obtain rfl := is_some h
  exact aq_finx (l := [.tmp 2, .tmp 3]) (xs := [.int .i64 r1.1, .int .i64 r2.1]) idn [.int .i64 r1.1, .int .i64 r2.1] [] rfl (by exact ⟨rfl, rfl, trivial⟩) (by exact ⟨ad_ren rfl, ad_ren rfl, trivial⟩) (by exact trivial) rfl (nk rfl) rfl rfl ⟨rfl, rfl⟩
theorem c_impl_TakenOf {fu : Nat} {x0 : Int} {x1 : Int} {r : Int × Bool} (h : Is (p_impl_TakenOf fu x0 x1) (some r)) :
    Scalar Try.prog 15 [.int .i64 x0, .int .i64 x1] (.tup [.int .i64 r.1, .bool r.2]) := by
  unfold p_impl_TakenOf at h
  refine ac_enter ⟨13, 0⟩ Try.func15 rfl rfl rfl rfl rfl (fun Γ => ?_)
  refine aw_seq ?_
  refine aw_region ?_
  refine ao_read trivial (r_assign rfl) rfl ?_
  refine ao_read trivial (r_assign rfl) rfl ?_
  refine ao_nil ?_
  refine aq_then ?_
  refine aw_seq ?_
  refine aw_seq ?_
  refine aw_region ?_
  refine ao_read trivial (r_move rfl) rfl ?_
  refine ao_read trivial (r_move rfl) rfl ?_
  obtain ⟨r1, r1h, h⟩ := is_bind h
  refine ao_scall trivial (scall (c_impl_isMade (is_mk r1h)) rfl Try.func88 rfl rfl rfl rfl (fun σ => ⟨ad_ren rfl, ad_ren rfl, trivial⟩)) rfl ?_
  refine ao_read trivial (r_not rfl) rfl ?_
  refine ao_nil ?_
  refine aq_then ?_
  refine aw_cond rfl (fun hb2 => ?_) (fun hb2 => ?_)
  · replace h := is_else (ne_t (not_t hb2)) h
    refine aw_seq ?_
    refine aw_region ?_
    refine ao_read trivial (r_assign rfl) rfl ?_
    refine ao_read trivial (r_assign rfl) rfl ?_
    refine ao_nil ?_
    refine aq_then ?_
    refine aw_ret ?_
    refine aq_then_ret ?_
    refine aq_ret ?_
    obtain rfl := is_some h
    exact aq_finx (l := [.tmp 4, .tmp 5]) (xs := [.int .i64 0, .bool false]) idn [.int .i64 0, .bool false] [] rfl (by exact ⟨rfl, rfl, trivial⟩) (by exact ⟨ad_ren rfl, ad_ren rfl, trivial⟩) (by exact trivial) rfl (nk rfl) rfl rfl ⟨rfl, rfl⟩
  · replace h := is_if (not_f hb2) h
    refine aw_skip ?_
    refine aq_then ?_
    refine aw_seq ?_
    refine aw_region ?_
    refine ao_read trivial (r_move rfl) rfl ?_
    refine ao_read trivial (r_move rfl) rfl ?_
    obtain ⟨r3, r3h, h⟩ := is_bind h
    refine ao_scall trivial (scall (c_impl_taken (is_mk r3h)) rfl Try.func91 rfl rfl rfl rfl (fun σ => ⟨ad_ren rfl, ad_ren rfl, trivial⟩)) rfl ?_
    refine ao_read trivial (r_assign rfl) rfl ?_
    refine ao_read trivial (r_assign rfl) rfl ?_
    refine ao_nil ?_
    refine aq_then ?_
    refine aw_ret ?_
    refine aq_ret ?_
    obtain rfl := is_some h
    exact aq_finx (l := [.tmp 4, .tmp 5]) (xs := [.int .i64 r3, .bool true]) idn [.int .i64 r3, .bool true] [] rfl (by exact ⟨rfl, rfl, trivial⟩) (by exact ⟨ad_ren rfl, ad_ren rfl, trivial⟩) (by exact trivial) rfl (nk rfl) rfl rfl ⟨rfl, rfl⟩
theorem c_spec_TakenOf {fu : Nat} {x0 : Int} {x1 : Int} {r : Int × Bool} (h : Is (p_spec_TakenOf fu x0 x1) (some r)) :
    Scalar Try.prog 16 [.int .i64 x0, .int .i64 x1] (.tup [.int .i64 r.1, .bool r.2]) := by
  unfold p_spec_TakenOf at h
  refine ac_enter ⟨13, 0⟩ Try.func16 rfl rfl rfl rfl rfl (fun Γ => ?_)
  refine aw_seq ?_
  refine aw_region ?_
  refine ao_read trivial (r_assign rfl) rfl ?_
  refine ao_read trivial (r_assign rfl) rfl ?_
  refine ao_nil ?_
  refine aq_then ?_
  refine aw_seq ?_
  refine aw_seq ?_
  refine aw_region ?_
  refine ao_read trivial (r_move rfl) rfl ?_
  refine ao_read trivial (r_move rfl) rfl ?_
  obtain ⟨r1, r1h, h⟩ := is_bind h
  refine ao_scall trivial (scall (c_spec_l9Good (is_mk r1h)) rfl Try.func93 rfl rfl rfl rfl (fun σ => ⟨ad_ren rfl, ad_ren rfl, trivial⟩)) rfl ?_
  refine ao_read trivial (r_not rfl) rfl ?_
  refine ao_nil ?_
  refine aq_then ?_
  refine aw_cond rfl (fun hb2 => ?_) (fun hb2 => ?_)
  · replace h := is_else (ne_t (not_t hb2)) h
    refine aw_seq ?_
    refine aw_region ?_
    refine ao_read trivial (r_assign rfl) rfl ?_
    refine ao_read trivial (r_assign rfl) rfl ?_
    refine ao_nil ?_
    refine aq_then ?_
    refine aw_ret ?_
    refine aq_then_ret ?_
    refine aq_ret ?_
    obtain rfl := is_some h
    exact aq_finx (l := [.tmp 4, .tmp 5]) (xs := [.int .i64 0, .bool false]) idn [.int .i64 0, .bool false] [] rfl (by exact ⟨rfl, rfl, trivial⟩) (by exact ⟨ad_ren rfl, ad_ren rfl, trivial⟩) (by exact trivial) rfl (nk rfl) rfl rfl ⟨rfl, rfl⟩
  · replace h := is_if (not_f hb2) h
    refine aw_skip ?_
    refine aq_then ?_
    refine aw_seq ?_
    refine aw_region ?_
    refine ao_read trivial (r_move rfl) rfl ?_
    refine ao_read trivial (r_move rfl) rfl ?_
    obtain ⟨r3, r3h, h⟩ := is_bind h
    refine ao_scall trivial (scall (c_spec_l9Taken (is_mk r3h)) rfl Try.func95 rfl rfl rfl rfl (fun σ => ⟨ad_ren rfl, ad_ren rfl, trivial⟩)) rfl ?_
    refine ao_read trivial (r_assign rfl) rfl ?_
    refine ao_read trivial (r_assign rfl) rfl ?_
    refine ao_nil ?_
    refine aq_then ?_
    refine aw_ret ?_
    refine aq_ret ?_
    obtain rfl := is_some h
    exact aq_finx (l := [.tmp 4, .tmp 5]) (xs := [.int .i64 r3, .bool true]) idn [.int .i64 r3, .bool true] [] rfl (by exact ⟨rfl, rfl, trivial⟩) (by exact ⟨ad_ren rfl, ad_ren rfl, trivial⟩) (by exact trivial) rfl (nk rfl) rfl rfl ⟨rfl, rfl⟩
theorem c_impl_fraction {fu : Nat} {x0 : Int} {x1 : Int} {r : (List Int)} (h : Is (p_impl_fraction fu x0 x1) (some r)) :
    Scalar Try.prog 98 [.int .i64 x0, .int .i64 x1] (.v (.arr 2 (.int .i64)) r) := by
  unfold p_impl_fraction at h
  refine ac_enter ⟨22, 0⟩ Try.func98 rfl rfl rfl rfl rfl (fun Γ => ?_)
  refine aw_seq ?_
  refine aw_region ?_
  refine ao_eff trivial (e_alloc 0 (y := .v (.arr 2 (.int .i64)) ((List.replicate 2 0) : (List Int))) Try.zeroValue35 (fun ρ h M => ra_zero_arr (t := (.int .i64)) rfl) rfl rfl rfl rfl rfl) rfl ?_
  refine ao_nil ?_
  refine aq_then ?_
  refine aw_seq ?_
  refine aw_region ?_
  refine ao_read trivial (r_move rfl) rfl ?_
  refine ao_read trivial (r_move rfl) rfl ?_
  refine ao_read trivial (r_assign rfl) rfl ?_
  refine ao_read trivial (r_assign rfl) rfl ?_
  refine ao_nil ?_
  refine aq_then ?_
  refine aw_seq ?_
  refine aw_block ?_
  refine aw_loop (AL.sub (sub_mk idn (by exact ⟨⟨_, rfl, ad_ren rfl⟩, ⟨_, rfl, ad_ren rfl⟩, ⟨_, rfl, ad_ren rfl⟩, ⟨_, rfl, ad_ren rfl⟩, ⟨_, rfl, ad_ren rfl⟩, trivial⟩) (by exact ⟨⟨_, rfl, ⟨rfl, trivial⟩⟩, trivial⟩) (by rfl) (nk rfl)) (al_whl (fun (s1 : Int × Int) => [(0, .int .i64 x0), (1, .int .i64 x1), (4, .ref 0 0), (5, .int .i64 s1.1), (6, .int .i64 s1.2)]) (fun (s1 : Int × Int) => [(0, .var [.arr (.int .i64) 2 ((List.replicate 2 0) : (List Int))])]) (fun (s1 : Int × Int) => True) h trivial (fun d3 s1 hI h ih3 => ?_)))
  replace h := is_whlS h
  refine al_round ?_
  refine aw_seq ?_
  refine aw_seq ?_
  refine aw_region ?_
  refine ao_read trivial (r_move rfl) rfl ?_
  refine ao_read trivial (r_neq rfl rfl) rfl ?_
  refine ao_nil ?_
  refine aq_then ?_
  refine aw_cond rfl (fun hb5 => ?_) (fun hb5 => ?_)
  · have q6 := d_f (not_t hb5)
    replace h := is_else (d_f (not_t hb5)) h
    refine aw_skip ?_
    refine aq_then ?_
    refine aw_block ?_
    obtain ⟨g8, h⟩ := is_guard h
    refine aw_drawAll (by kernel_rfl) ?_
    refine an_read 0 (by kernel_rfl) (fun _ _ _ h => h) rfl (by kernel_rfl) trivial (r_move rfl) rfl ?_
    refine an_read 1 (by kernel_rfl) (fun _ _ _ h => h) rfl (by kernel_rfl) trivial (r_move rfl) rfl ?_
    refine an_read 2 (by kernel_rfl) (fun _ _ _ h => h) rfl (by kernel_rfl) trivial (r_move rfl) rfl ?_
    refine an_read 3 (by kernel_rfl) (fun _ _ _ h => h) rfl (by kernel_rfl) trivial (r_rem rfl rfl g8) rfl ?_
    refine an_read 4 (by kernel_rfl) (fun _ _ _ h => h) rfl (by kernel_rfl) trivial (r_assign rfl) rfl ?_
    refine an_read 5 (by kernel_rfl) (fun _ _ _ h => h) rfl (by kernel_rfl) trivial (r_assign rfl) rfl ?_
    refine an_done rfl ?_
    refine aq_in ?_
    exact aq_again (AL.sub (sub_mk idn (by exact ⟨⟨_, rfl, ad_ren rfl⟩, ⟨_, rfl, ad_ren rfl⟩, ⟨_, rfl, ad_ren rfl⟩, ⟨_, rfl, ad_ren rfl⟩, ⟨_, rfl, ad_ren rfl⟩, trivial⟩) (by exact ⟨⟨_, rfl, ⟨rfl, trivial⟩⟩, trivial⟩) (by rfl) (nk rfl)) (ih3 (s1.2, (s1.1.tmod s1.2)) trivial h))
  · have q7 := d_t (not_f hb5)
    replace h := is_if (d_t (not_f hb5)) h
    refine aw_exit ?_
    refine aq_then_exit ?_
    refine aq_then_exit ?_
    refine aq_in_exit ?_
    refine aq_then ?_
    refine aw_seq ?_
    obtain ⟨g9, h⟩ := is_guard h
    obtain ⟨g10, h⟩ := is_guard h
    refine aw_draw 7 (by kernel_rfl) (by kernel_rfl) ?_
    refine an_read 0 (by kernel_rfl) (fun _ _ _ h => h) rfl (by kernel_rfl) trivial (r_move rfl) rfl ?_
    refine an_read 1 (by kernel_rfl) (fun _ _ _ h => h) rfl (by kernel_rfl) trivial (r_move rfl) rfl ?_
    refine an_read 2 (by kernel_rfl) (fun _ _ _ h => h) rfl (by kernel_rfl) trivial (r_quo rfl rfl g9) rfl ?_
    refine an_read 3 (by kernel_rfl) (fun _ _ _ h => h) rfl (by kernel_rfl) trivial (r_move rfl) rfl ?_
    refine an_read 4 (by kernel_rfl) (fun _ _ _ h => h) rfl (by kernel_rfl) trivial (r_move rfl) rfl ?_
    refine an_read 5 (by kernel_rfl) (fun _ _ _ h => h) rfl (by kernel_rfl) trivial (r_quo rfl rfl g10) rfl ?_
    refine an_read 6 (by kernel_rfl) (fun _ _ _ h => h) rfl (by kernel_rfl) trivial (r_build_arr (l := [(0, .tmp 17), (1, .tmp 20)]) (t := (.int .i64)) ([(IntKind.wrap .i64 (x0.tdiv s1.1)), (IntKind.wrap .i64 (x1.tdiv s1.1))] : (List Int)) rfl Try.underlying35 Try.zeroValue35 Try.sizeOf3 rfl rfl rfl rfl) rfl ?_
    refine an_tail rfl rfl ?_
    refine ao_effS trivial (e_store rfl rfl rfl rfl Try.sizeOf35 rfl) ?_
    refine ao_nil ?_
    refine aq_then ?_
    refine aw_ret ?_
    refine aq_ret ?_
    obtain rfl := is_some h
    exact aq_finx (l := [.cell 4 35]) (xs := [.v (.arr 2 (.int .i64)) ([(IntKind.wrap .i64 (x0.tdiv s1.1)), (IntKind.wrap .i64 (x1.tdiv s1.1))] : (List Int))]) idn [.v (.arr 2 (.int .i64)) ([(IntKind.wrap .i64 (x0.tdiv s1.1)), (IntKind.wrap .i64 (x1.tdiv s1.1))] : (List Int))] [] rfl (by exact ⟨⟨⟨_, _, rfl⟩, r_load_arr rfl Try.isAgg35 Try.sizeOf35 rfl rfl rfl⟩, trivial⟩) (by exact ⟨ad_ren rfl, trivial⟩) (by exact trivial) rfl (nk rfl) rfl rfl ⟨rfl, rfl⟩
theorem c_impl_MeanThrows {fu : Nat} {x0 : Int} {x1 : Int} {r : (List Int) × Bool} (h : Is (p_impl_MeanThrows fu x0 x1) (some r)) :
    Scalar Try.prog 17 [.int .i64 x0, .int .i64 x1] (.tup [.v (.arr 2 (.int .i64)) r.1, .bool r.2]) := by
  unfold p_impl_MeanThrows at h
  refine ac_enter ⟨19, 0⟩ Try.func17 rfl rfl rfl rfl rfl (fun Γ => ?_)
  refine aw_seq ?_
  refine aw_region ?_
  refine ao_eff trivial (e_alloc 0 (y := .v (.arr 2 (.int .i64)) ((List.replicate 2 0) : (List Int))) Try.zeroValue35 (fun ρ h M => ra_zero_arr (t := (.int .i64)) rfl) rfl rfl rfl rfl rfl) rfl ?_
  refine ao_read trivial (r_assign rfl) rfl ?_
  refine ao_nil ?_
  refine aq_then ?_
  refine aw_seq ?_
  refine aw_seq ?_
  refine aw_region ?_
  refine ao_read trivial (r_move rfl) rfl ?_
  refine ao_read trivial (r_move rfl) rfl ?_
  obtain ⟨r1, r1h, h⟩ := is_bind h
  refine ao_scall trivial (scall (c_impl_isMade (is_mk r1h)) rfl Try.func88 rfl rfl rfl rfl (fun σ => ⟨ad_ren rfl, ad_ren rfl, trivial⟩)) rfl ?_
  refine ao_read trivial (r_not rfl) rfl ?_
  refine ao_nil ?_
  refine aq_then ?_
  refine aw_cond rfl (fun hb2 => ?_) (fun hb2 => ?_)
  · replace h := is_else (ne_t (not_t hb2)) h
    refine aw_seq ?_
    refine aw_region ?_
    refine ao_read trivial (r_build_zero (t := (.int .i64)) Try.underlying35 Try.zeroValue35 Try.sizeOf3 rfl) rfl ?_
    refine ao_effS trivial (e_store rfl rfl rfl rfl Try.sizeOf35 rfl) ?_
    refine ao_read trivial (r_assign rfl) rfl ?_
    refine ao_nil ?_
    refine aq_then ?_
    refine aw_ret ?_
    refine aq_then_ret ?_
    refine aq_ret ?_
    obtain rfl := is_some h
    exact aq_finx (l := [.cell 4 35, .tmp 5]) (xs := [.v (.arr 2 (.int .i64)) ((List.replicate 2 0) : (List Int)), .bool false]) idn [.v (.arr 2 (.int .i64)) ((List.replicate 2 0) : (List Int)), .bool false] [] rfl (by exact ⟨⟨⟨_, _, rfl⟩, r_load_arr rfl Try.isAgg35 Try.sizeOf35 rfl rfl rfl⟩, rfl, trivial⟩) (by exact ⟨ad_ren rfl, ad_ren rfl, trivial⟩) (by exact trivial) rfl (nk rfl) rfl rfl ⟨rfl, rfl⟩
  · replace h := is_if (not_f hb2) h
    refine aw_skip ?_
    refine aq_then ?_
    refine aw_seq ?_
    refine aw_region ?_
    refine ao_read trivial (r_move rfl) rfl ?_
    refine ao_read trivial (r_move rfl) rfl ?_
    obtain ⟨r3, r3h, h⟩ := is_bind h
    refine ao_scall trivial (scall (c_impl_power (is_mk r3h)) rfl Try.func99 rfl rfl rfl rfl (fun σ => ⟨ad_ren rfl, trivial⟩)) rfl ?_
    refine ao_read trivial (r_mul rfl rfl) rfl ?_
    refine ao_read trivial (r_move rfl) rfl ?_
    refine ao_read trivial (r_move rfl) rfl ?_
    obtain ⟨r4, r4h, h⟩ := is_bind h
    refine ao_scall trivial (scall (c_impl_taken (is_mk r4h)) rfl Try.func91 rfl rfl rfl rfl (fun σ => ⟨ad_ren rfl, ad_ren rfl, trivial⟩)) rfl ?_
    obtain ⟨r5, r5h, h⟩ := is_bind h
    refine ao_scall trivial (scall (c_impl_fraction (is_mk r5h)) rfl Try.func98 rfl rfl rfl rfl (fun σ => ⟨ad_ren rfl, ad_ren rfl, trivial⟩)) rfl ?_
    refine ao_effS trivial (e_store rfl rfl rfl rfl Try.sizeOf35 rfl) ?_
    refine ao_read trivial (r_assign rfl) rfl ?_
    refine ao_nil ?_
    refine aq_then ?_
    refine aw_ret ?_
    refine aq_ret ?_
    obtain rfl := is_some h
    exact aq_finx (l := [.cell 4 35, .tmp 5]) (xs := [.v (.arr 2 (.int .i64)) r5, .bool true]) idn [.v (.arr 2 (.int .i64)) r5, .bool true] [] rfl (by exact ⟨⟨⟨_, _, rfl⟩, r_load_arr rfl Try.isAgg35 Try.sizeOf35 rfl rfl rfl⟩, rfl, trivial⟩) (by exact ⟨ad_ren rfl, ad_ren rfl, trivial⟩) (by exact trivial) rfl (nk rfl) rfl rfl ⟨rfl, rfl⟩
theorem c_spec_l1Most {x0 : Int} {x1 : Int} {r : Int} (h : Is (p_spec_l1Most x0 x1) r) :
    Scalar Try.prog 164 [.int .i64 x0, .int .i64 x1] (.int .i64 r) := by
  unfold p_spec_l1Most at h
  refine ac_enter ⟨10, 0⟩ Try.func164 rfl rfl rfl rfl rfl (fun Γ => ?_)
  refine aw_seq ?_
  refine aw_region ?_
  refine ao_read trivial (r_assign rfl) rfl ?_
  refine ao_nil ?_
  refine aq_then ?_
  refine aw_seq ?_
  refine aw_seq ?_
  refine aw_region ?_
  refine ao_read trivial (r_move rfl) rfl ?_
  refine ao_read trivial (r_move rfl) rfl ?_
  refine ao_read trivial (r_gtr rfl rfl) rfl ?_
  refine ao_nil ?_
  refine aq_then ?_
  refine aw_cond rfl (fun hb1 => ?_) (fun hb1 => ?_)
  · have q2 := d_t hb1
    replace h := is_if (d_t hb1) h
    refine aw_seq ?_
    refine aw_region ?_
    refine ao_read trivial (r_move rfl) rfl ?_
    refine ao_read trivial (r_assign rfl) rfl ?_
    refine ao_nil ?_
    refine aq_then ?_
    refine aw_ret ?_
    refine aq_then_ret ?_
    refine aq_ret ?_
    obtain rfl := is_eq h
    exact aq_finx (l := [.tmp 4]) (xs := [.int .i64 x0]) idn [.int .i64 x0] [] rfl (by exact ⟨rfl, trivial⟩) (by exact ⟨ad_ren rfl, trivial⟩) (by exact trivial) rfl (nk rfl) rfl rfl ⟨rfl, rfl⟩
  · have q3 := d_f hb1
    replace h := is_else (d_f hb1) h
    refine aw_skip ?_
    refine aq_then ?_
    refine aw_seq ?_
    refine aw_region ?_
    refine ao_read trivial (r_move rfl) rfl ?_
    refine ao_read trivial (r_assign rfl) rfl ?_
    refine ao_nil ?_
    refine aq_then ?_
    refine aw_ret ?_
    refine aq_ret ?_
    obtain rfl := is_eq h
    exact aq_finx (l := [.tmp 4]) (xs := [.int .i64 x1]) idn [.int .i64 x1] [] rfl (by exact ⟨rfl, trivial⟩) (by exact ⟨ad_ren rfl, trivial⟩) (by exact trivial) rfl (nk rfl) rfl rfl ⟨rfl, rfl⟩
theorem c_spec_l2Cut {fu : Nat} {x0 : Int} {x1 : Int} {r : (List Int)} (h : Is (p_spec_l2Cut fu x0 x1) (some r)) :
    Scalar Try.prog 100 [.int .i64 x0, .int .i64 x1] (.v (.arr 2 (.int .i64)) r) := by
  unfold p_spec_l2Cut at h
  refine ac_enter ⟨24, 0⟩ Try.func100 rfl rfl rfl rfl rfl (fun Γ => ?_)
  refine aw_seq ?_
  refine aw_region ?_
  refine ao_eff trivial (e_alloc 0 (y := .v (.arr 2 (.int .i64)) ((List.replicate 2 0) : (List Int))) Try.zeroValue35 (fun ρ h M => ra_zero_arr (t := (.int .i64)) rfl) rfl rfl rfl rfl rfl) rfl ?_
  refine ao_nil ?_
  refine aq_then ?_
  refine aw_seq ?_
  refine aw_region ?_
  refine ao_read trivial (r_move rfl) rfl ?_
  refine ao_read trivial (r_move rfl) rfl ?_
  refine ao_read trivial (r_assign rfl) rfl ?_
  refine ao_read trivial (r_assign rfl) rfl ?_
  refine ao_nil ?_
  refine aq_then ?_
  refine aw_seq ?_
  refine aw_block ?_
  refine aw_loop (AL.sub (sub_mk idn (by exact ⟨⟨_, rfl, ad_ren rfl⟩, ⟨_, rfl, ad_ren rfl⟩, ⟨_, rfl, ad_ren rfl⟩, ⟨_, rfl, ad_ren rfl⟩, ⟨_, rfl, ad_ren rfl⟩, trivial⟩) (by exact ⟨⟨_, rfl, ⟨rfl, trivial⟩⟩, trivial⟩) (by rfl) (nk rfl)) (al_whl (fun (s1 : Int × Int) => [(0, .int .i64 x0), (1, .int .i64 x1), (4, .ref 0 0), (5, .int .i64 s1.1), (6, .int .i64 s1.2)]) (fun (s1 : Int × Int) => [(0, .var [.arr (.int .i64) 2 ((List.replicate 2 0) : (List Int))])]) (fun (s1 : Int × Int) => True) h trivial (fun d3 s1 hI h ih3 => ?_)))
  replace h := is_whlS h
  refine al_round ?_
  refine aw_seq ?_
  refine aw_seq ?_
  refine aw_region ?_
  refine ao_read trivial (r_move rfl) rfl ?_
  refine ao_read trivial (r_gtr rfl rfl) rfl ?_
  refine ao_nil ?_
  refine aq_then ?_
  refine aw_cond rfl (fun hb5 => ?_) (fun hb5 => ?_)
  · have q6 := d_t hb5
    replace h := is_if (d_t hb5) h
    refine aw_skip ?_
    refine aq_then ?_
    refine aw_block ?_
    refine aw_drawAll (by kernel_rfl) ?_
    refine an_read 0 (by kernel_rfl) (fun _ _ _ h => h) rfl (by kernel_rfl) trivial (r_move rfl) rfl ?_
    refine an_read 1 (by kernel_rfl) (fun _ _ _ h => h) rfl (by kernel_rfl) trivial (r_move rfl) rfl ?_
    refine an_read 2 (by kernel_rfl) (fun _ _ _ h => h) rfl (by kernel_rfl) trivial (r_move rfl) rfl ?_
    refine an_read 3 (by kernel_rfl) (fun _ _ _ h => h) rfl (by kernel_rfl) trivial (r_rem rfl rfl (by omega)) rfl ?_
    refine an_read 4 (by kernel_rfl) (fun _ _ _ h => h) rfl (by kernel_rfl) trivial (r_assign rfl) rfl ?_
    refine an_read 5 (by kernel_rfl) (fun _ _ _ h => h) rfl (by kernel_rfl) trivial (r_assign rfl) rfl ?_
    refine an_done rfl ?_
    refine aq_in ?_
    exact aq_again (AL.sub (sub_mk idn (by exact ⟨⟨_, rfl, ad_ren rfl⟩, ⟨_, rfl, ad_ren rfl⟩, ⟨_, rfl, ad_ren rfl⟩, ⟨_, rfl, ad_ren rfl⟩, ⟨_, rfl, ad_ren rfl⟩, trivial⟩) (by exact ⟨⟨_, rfl, ⟨rfl, trivial⟩⟩, trivial⟩) (by rfl) (nk rfl)) (ih3 (s1.2, (s1.1.tmod s1.2)) trivial h))
  · have q7 := d_f hb5
    replace h := is_else (d_f hb5) h
    refine aw_exit ?_
    refine aq_then_exit ?_
    refine aq_then_exit ?_
    refine aq_in_exit ?_
    refine aq_then ?_
    refine aw_seq ?_
    obtain ⟨g8, h⟩ := is_guard h
    obtain ⟨g9, h⟩ := is_guard h
    refine aw_draw 9 (by kernel_rfl) (by kernel_rfl) ?_
    refine an_read 0 (by kernel_rfl) (fun _ _ _ h => h) rfl (by kernel_rfl) trivial (r_move rfl) rfl ?_
    refine an_read 1 (by kernel_rfl) (fun _ _ _ h => h) rfl (by kernel_rfl) trivial (r_move rfl) rfl ?_
    refine an_scall 2 (by kernel_rfl) (fun _ _ _ h => h) rfl (by kernel_rfl) trivial (scall (c_spec_l1Most (is_mk (rfl : p_spec_l1Most s1.1 1 = _))) rfl Try.func164 rfl rfl rfl rfl (fun σ => ⟨ad_ren rfl, ad_ren rfl, trivial⟩)) rfl ?_
    refine an_read 3 (by kernel_rfl) (fun _ _ _ h => h) rfl (by kernel_rfl) trivial (r_quo rfl rfl g8) rfl ?_
    refine an_read 4 (by kernel_rfl) (fun _ _ _ h => h) rfl (by kernel_rfl) trivial (r_move rfl) rfl ?_
    refine an_read 5 (by kernel_rfl) (fun _ _ _ h => h) rfl (by kernel_rfl) trivial (r_move rfl) rfl ?_
    refine an_scall 6 (by kernel_rfl) (fun _ _ _ h => h) rfl (by kernel_rfl) trivial (scall (c_spec_l1Most (is_mk (rfl : p_spec_l1Most s1.1 1 = _))) rfl Try.func164 rfl rfl rfl rfl (fun σ => ⟨ad_ren rfl, ad_ren rfl, trivial⟩)) rfl ?_
    refine an_read 7 (by kernel_rfl) (fun _ _ _ h => h) rfl (by kernel_rfl) trivial (r_quo rfl rfl g9) rfl ?_
    refine an_read 8 (by kernel_rfl) (fun _ _ _ h => h) rfl (by kernel_rfl) trivial (r_build_arr (l := [(0, .tmp 18), (1, .tmp 22)]) (t := (.int .i64)) ([(IntKind.wrap .i64 (x0.tdiv (p_spec_l1Most s1.1 1))), (IntKind.wrap .i64 (x1.tdiv (p_spec_l1Most s1.1 1)))] : (List Int)) rfl Try.underlying35 Try.zeroValue35 Try.sizeOf3 rfl rfl rfl rfl) rfl ?_
    refine an_tail rfl rfl ?_
    refine ao_effS trivial (e_store rfl rfl rfl rfl Try.sizeOf35 rfl) ?_
    refine ao_nil ?_
    refine aq_then ?_
    refine aw_ret ?_
    refine aq_ret ?_
    obtain rfl := is_some h
    exact aq_finx (l := [.cell 4 35]) (xs := [.v (.arr 2 (.int .i64)) ([(IntKind.wrap .i64 (x0.tdiv (p_spec_l1Most s1.1 1))), (IntKind.wrap .i64 (x1.tdiv (p_spec_l1Most s1.1 1)))] : (List Int))]) idn [.v (.arr 2 (.int .i64)) ([(IntKind.wrap .i64 (x0.tdiv (p_spec_l1Most s1.1 1))), (IntKind.wrap .i64 (x1.tdiv (p_spec_l1Most s1.1 1)))] : (List Int))] [] rfl (by exact ⟨⟨⟨_, _, rfl⟩, r_load_arr rfl Try.isAgg35 Try.sizeOf35 rfl rfl rfl⟩, trivial⟩) (by exact ⟨ad_ren rfl, trivial⟩) (by exact trivial) rfl (nk rfl) rfl rfl ⟨rfl, rfl⟩
theorem c_spec_MeanThrows {fu : Nat} {x0 : Int} {x1 : Int} {r : (List Int) × Bool} (h : Is (p_spec_MeanThrows fu x0 x1) (some r)) :
    Scalar Try.prog 18 [.int .i64 x0, .int .i64 x1] (.tup [.v (.arr 2 (.int .i64)) r.1, .bool r.2]) := by
  unfold p_spec_MeanThrows at h
  refine ac_enter ⟨19, 0⟩ Try.func18 rfl rfl rfl rfl rfl (fun Γ => ?_)
  refine aw_seq ?_
  refine aw_region ?_
  refine ao_eff trivial (e_alloc 0 (y := .v (.arr 2 (.int .i64)) ((List.replicate 2 0) : (List Int))) Try.zeroValue35 (fun ρ h M => ra_zero_arr (t := (.int .i64)) rfl) rfl rfl rfl rfl rfl) rfl ?_
  refine ao_read trivial (r_assign rfl) rfl ?_
  refine ao_nil ?_
  refine aq_then ?_
  refine aw_seq ?_
  refine aw_seq ?_
  refine aw_region ?_
  refine ao_read trivial (r_move rfl) rfl ?_
  refine ao_read trivial (r_move rfl) rfl ?_
  obtain ⟨r1, r1h, h⟩ := is_bind h
  refine ao_scall trivial (scall (c_spec_l9Good (is_mk r1h)) rfl Try.func93 rfl rfl rfl rfl (fun σ => ⟨ad_ren rfl, ad_ren rfl, trivial⟩)) rfl ?_
  refine ao_read trivial (r_not rfl) rfl ?_
  refine ao_nil ?_
  refine aq_then ?_
  refine aw_cond rfl (fun hb2 => ?_) (fun hb2 => ?_)
  · replace h := is_else (ne_t (not_t hb2)) h
    refine aw_seq ?_
    refine aw_region ?_
    refine ao_read trivial (r_build_zero (t := (.int .i64)) Try.underlying35 Try.zeroValue35 Try.sizeOf3 rfl) rfl ?_
    refine ao_effS trivial (e_store rfl rfl rfl rfl Try.sizeOf35 rfl) ?_
    refine ao_read trivial (r_assign rfl) rfl ?_
    refine ao_nil ?_
    refine aq_then ?_
    refine aw_ret ?_
    refine aq_then_ret ?_
    refine aq_ret ?_
    obtain rfl := is_some h
    exact aq_finx (l := [.cell 4 35, .tmp 5]) (xs := [.v (.arr 2 (.int .i64)) ((List.replicate 2 0) : (List Int)), .bool false]) idn [.v (.arr 2 (.int .i64)) ((List.replicate 2 0) : (List Int)), .bool false] [] rfl (by exact ⟨⟨⟨_, _, rfl⟩, r_load_arr rfl Try.isAgg35 Try.sizeOf35 rfl rfl rfl⟩, rfl, trivial⟩) (by exact ⟨ad_ren rfl, ad_ren rfl, trivial⟩) (by exact trivial) rfl (nk rfl) rfl rfl ⟨rfl, rfl⟩
  · replace h := is_if (not_f hb2) h
    refine aw_skip ?_
    refine aq_then ?_
    refine aw_seq ?_
    refine aw_region ?_
    refine ao_read trivial (r_move rfl) rfl ?_
    refine ao_read trivial (r_move rfl) rfl ?_
    obtain ⟨r3, r3h, h⟩ := is_bind h
    refine ao_scall trivial (scall (c_spec_l2All (is_mk r3h)) rfl Try.func101 rfl rfl rfl rfl (fun σ => ⟨ad_ren rfl, trivial⟩)) rfl ?_
    refine ao_read trivial (r_mul rfl rfl) rfl ?_
    refine ao_read trivial (r_move rfl) rfl ?_
    refine ao_read trivial (r_move rfl) rfl ?_
    obtain ⟨r4, r4h, h⟩ := is_bind h
    refine ao_scall trivial (scall (c_spec_l9Taken (is_mk r4h)) rfl Try.func95 rfl rfl rfl rfl (fun σ => ⟨ad_ren rfl, ad_ren rfl, trivial⟩)) rfl ?_
    obtain ⟨r5, r5h, h⟩ := is_bind h
    refine ao_scall trivial (scall (c_spec_l2Cut (is_mk r5h)) rfl Try.func100 rfl rfl rfl rfl (fun σ => ⟨ad_ren rfl, ad_ren rfl, trivial⟩)) rfl ?_
    refine ao_effS trivial (e_store rfl rfl rfl rfl Try.sizeOf35 rfl) ?_
    refine ao_read trivial (r_assign rfl) rfl ?_
    refine ao_nil ?_
    refine aq_then ?_
    refine aw_ret ?_
    refine aq_ret ?_
    obtain rfl := is_some h
    exact aq_finx (l := [.cell 4 35, .tmp 5]) (xs := [.v (.arr 2 (.int .i64)) r5, .bool true]) idn [.v (.arr 2 (.int .i64)) r5, .bool true] [] rfl (by exact ⟨⟨⟨_, _, rfl⟩, r_load_arr rfl Try.isAgg35 Try.sizeOf35 rfl rfl rfl⟩, rfl, trivial⟩) (by exact ⟨ad_ren rfl, ad_ren rfl, trivial⟩) (by exact trivial) rfl (nk rfl) rfl rfl ⟨rfl, rfl⟩
theorem c_spec_DrawBestThrows {x0 : (List Int)} {r : Int} (h : Is (p_spec_DrawBestThrows x0) (some r)) :
    Scalar Try.prog 19 [.v (.slice (.int .u8)) x0] (.int .i64 r) := by
  unfold p_spec_DrawBestThrows at h
  refine ac_enter ⟨14, 0⟩ Try.func19 rfl rfl rfl rfl rfl (fun Γ => ?_)
  refine sl_len_m 0 (x0.length : Int) rfl rfl (fun hl0 => ?_)
  refine aw_seq ?_
  refine aw_region ?_
  refine ao_read trivial (r_assign rfl) rfl ?_
  refine ao_nil ?_
  refine aq_then ?_
  refine aw_seq ?_
  refine aw_region ?_
  refine ao_read trivial (r_move rfl) rfl ?_
  refine ao_read trivial (r_build_st (l := [(0, .tmp 4)]) (cs := [.cell (.v (.slice (.int .u8)) x0), .cell (.int .i64 0), .cell (.int .u64 0)]) (.pair (.slice (.int .u8)) (.pair (.int .i64) (.pair (.int .u64) .unit))) [(0, 1), (1, 1), (2, 1)] Try.underlying98 Try.zeroValue98 rfl ⟨rfl, Try.sizeOf22, rfl, Try.sizeOf3, rfl, Try.sizeOf96, trivial⟩ rfl rfl rfl) rfl ?_
  refine ao_eff trivial (e_box 0 rfl rfl rfl rfl rfl rfl) rfl ?_
  refine ao_read trivial (r_assign rfl) rfl ?_
  refine ao_nil ?_
  refine aq_then ?_
  refine aw_seq ?_
  refine aw_seq ?_
  refine aw_region ?_
  refine ao_read trivial (r_move rfl) rfl ?_
  obtain ⟨r1, r1h, h⟩ := is_bind h
  refine ao_callV [0] 1 trivial (c_spec_l1Cur_one (is_mk r1h)) Try.func102 rfl rfl rfl rfl rfl ⟨rfl, trivial⟩ ⟨⟨_, rfl, ⟨ad_ren rfl, rfl, ad_ren rfl, rfl, ad_ren rfl, rfl, trivial⟩⟩, trivial⟩ rfl rfl rfl rfl rfl rfl rfl (fun r' H' hr => ?_)
  obtain ⟨rfl, rfl⟩ := hr
  refine ao_norm (y := .bool r1.1) (H' := [(0, .var [.cell (.v (.slice (.int .u8)) x0), .cell (.int .i64 r1.2.1), .cell (.int .u64 r1.2.2)])]) rfl rfl ?_
  refine ao_nil ?_
  refine aq_then ?_
  refine aw_cond rfl (fun hb2 => ?_) (fun hb2 => ?_)
  · replace h := is_if hb2 h
    refine aw_seq ?_
    refine aw_region ?_
    refine ao_read trivial (r_move rfl) rfl ?_
    obtain ⟨r3, r3h, h⟩ := is_bind h
    refine ao_callV [0] 1 trivial (c_spec_l1Cur_pick (is_mk r3h)) Try.func103 rfl rfl rfl rfl rfl ⟨rfl, trivial⟩ ⟨⟨_, rfl, ⟨ad_ren rfl, rfl, ad_ren rfl, rfl, ad_ren rfl, rfl, trivial⟩⟩, trivial⟩ rfl rfl rfl rfl rfl rfl rfl (fun r' H' hr => ?_)
    obtain ⟨rfl, rfl⟩ := hr
    refine ao_norm (y := .int .i64 r3.1) (H' := [(0, .var [.cell (.v (.slice (.int .u8)) x0), .cell (.int .i64 r3.2.1), .cell (.int .u64 r3.2.2)])]) rfl rfl ?_
    refine ao_read trivial (r_add rfl rfl) rfl ?_
    refine ao_read trivial (r_assign rfl) rfl ?_
    refine ao_nil ?_
    refine aq_then ?_
    refine aw_ret ?_
    refine aq_then_ret ?_
    refine aq_ret ?_
    obtain rfl := is_some h
    exact aq_finx (l := [.tmp 2]) (xs := [.int .i64 (IntKind.wrap .i64 (1 + r3.1))]) idn [.int .i64 (IntKind.wrap .i64 (1 + r3.1))] [] rfl (by exact ⟨rfl, trivial⟩) (by exact ⟨ad_ren rfl, trivial⟩) (by exact trivial) rfl (nk rfl) rfl rfl ⟨rfl, rfl⟩
  · replace h := is_else (ne_t hb2) h
    refine aw_skip ?_
    refine aq_then ?_
    refine aw_seq ?_
    refine aw_region ?_
    refine ao_read trivial (r_move rfl) rfl ?_
    obtain ⟨r4, r4h, h⟩ := is_bind h
    refine ao_callV [0] 1 trivial (c_spec_l1Cur_size (is_mk r4h)) Try.func86 rfl rfl rfl rfl rfl ⟨rfl, trivial⟩ ⟨⟨_, rfl, ⟨ad_ren rfl, rfl, ad_ren rfl, rfl, ad_ren rfl, rfl, trivial⟩⟩, trivial⟩ rfl rfl rfl rfl rfl rfl rfl (fun r' H' hr => ?_)
    obtain ⟨rfl, rfl⟩ := hr
    refine ao_norm (y := .int .i64 r4.1) (H' := [(0, .var [.cell (.v (.slice (.int .u8)) x0), .cell (.int .i64 r4.2.1), .cell (.int .u64 r4.2.2)])]) rfl rfl ?_
    refine ao_read trivial (r_assign rfl) rfl ?_
    refine ao_nil ?_
    refine aq_then ?_
    refine aw_ret ?_
    refine aq_ret ?_
    obtain rfl := is_some h
    exact aq_finx (l := [.tmp 2]) (xs := [.int .i64 r4.1]) idn [.int .i64 r4.1] [] rfl (by exact ⟨rfl, trivial⟩) (by exact ⟨ad_ren rfl, trivial⟩) (by exact trivial) rfl (nk rfl) rfl rfl ⟨rfl, rfl⟩
theorem c_impl_BestThrows {fu : Nat} {x0 : Int} {r : Int × (List Int) × Bool} (h : Is (p_impl_BestThrows fu x0) (some r)) :
    Scalar Try.prog 20 [.int .i64 x0] (.tup [.int .i64 r.1, .v (.arr 2 (.int .i64)) r.2.1, .bool r.2.2]) := by
  unfold p_impl_BestThrows at h
  refine ac_enter ⟨44, 0⟩ Try.func20 rfl rfl rfl rfl rfl (fun Γ => ?_)
  refine aw_seq ?_
  refine aw_region ?_
  refine ao_read trivial (r_assign rfl) rfl ?_
  refine ao_eff trivial (e_alloc 0 (y := .v (.arr 2 (.int .i64)) ((List.replicate 2 0) : (List Int))) Try.zeroValue35 (fun ρ h M => ra_zero_arr (t := (.int .i64)) rfl) rfl rfl rfl rfl rfl) rfl ?_
  refine ao_read trivial (r_assign rfl) rfl ?_
  refine ao_nil ?_
  refine aq_then ?_
  refine aw_seq ?_
  refine aw_region ?_
  refine ao_read trivial (r_assign rfl) rfl ?_
  refine ao_nil ?_
  refine aq_then ?_
  refine aw_seq ?_
  refine aw_region ?_
  refine ao_eff trivial (e_alloc 1 (y := .v (.arr 2 (.int .i64)) ((List.replicate 2 0) : (List Int))) Try.zeroValue35 (fun ρ h M => ra_zero_arr (t := (.int .i64)) rfl) rfl rfl rfl rfl rfl) rfl ?_
  refine ao_nil ?_
  refine aq_then ?_
  refine aw_seq ?_
  refine aw_seq ?_
  refine aw_region ?_
  refine ao_read trivial (r_assign rfl) rfl ?_
  refine ao_nil ?_
  refine aq_then ?_
  refine aw_block ?_
  refine aw_loop (AL.sub (sub_mk idn (by exact ⟨⟨_, rfl, ad_ren rfl⟩, ⟨_, rfl, ad_ren rfl⟩, ⟨_, rfl, ad_ren rfl⟩, ⟨_, rfl, ad_ren rfl⟩, ⟨_, rfl, ad_ren rfl⟩, trivial⟩) (by exact ⟨⟨_, rfl, ⟨rfl, trivial⟩⟩, ⟨_, rfl, ⟨rfl, trivial⟩⟩, trivial⟩) (by rfl) (nk rfl)) (al_whl (fun (s1 : Int × Int × (List Int)) => [(0, .int .i64 x0), (3, .ref 0 0), (5, .int .i64 s1.1), (6, .ref 1 0), (7, .int .i64 s1.2.1)]) (fun (s1 : Int × Int × (List Int)) => [(0, .var [.arr (.int .i64) 2 ((List.replicate 2 0) : (List Int))]), (1, .var [.arr (.int .i64) 2 s1.2.2])]) (fun (s1 : Int × Int × (List Int)) => 0 ≤ s1.1 ∧ 1 ≤ s1.2.1) h ⟨(by (try simp only [List.length_set, List.length_append, List.length_cons, List.length_nil, List.length_replicate, List.length_take, List.length_drop]) <;> omega), (by (try simp only [List.length_set, List.length_append, List.length_cons, List.length_nil, List.length_replicate, List.length_take, List.length_drop]) <;> omega)⟩ (fun d3 s1 hI h ih3 => ?_)))
  obtain ⟨_, _⟩ := hI
  replace h := is_whlS h
  refine al_round ?_
  refine aw_seq ?_
  refine aw_seq ?_
  refine aw_region ?_
  refine ao_read trivial (r_move rfl) rfl ?_
  refine ao_read trivial (r_leq rfl rfl) rfl ?_
  refine ao_nil ?_
  refine aq_then ?_
  refine aw_cond rfl (fun hb5 => ?_) (fun hb5 => ?_)
  · have q6 := d_t hb5
    replace h := is_if (d_t hb5) h
    refine aw_skip ?_
    refine aq_then ?_
    refine aw_seq ?_
    refine aw_block ?_
    refine aw_seq ?_
    refine aw_region ?_
    refine ao_read trivial (r_move rfl) rfl ?_
    refine ao_read trivial (r_move rfl) rfl ?_
    obtain ⟨r8, r8h, h⟩ := is_bind h
    refine ao_scall trivial (scall (c_impl_MeanThrows (is_mk r8h)) rfl Try.func17 rfl rfl rfl rfl (fun σ => ⟨ad_ren rfl, ad_ren rfl, trivial⟩)) rfl ?_
    refine ao_read trivial (r_move rfl) rfl ?_
    refine ao_read trivial (r_extract rfl rfl) rfl ?_
    refine ao_read trivial (r_extract rfl rfl) rfl ?_
    refine ao_eff trivial (e_alloc 2 (y := .v (.arr 2 (.int .i64)) ((List.replicate 2 0) : (List Int))) Try.zeroValue35 (fun ρ h M => ra_zero_arr (t := (.int .i64)) rfl) rfl rfl rfl rfl rfl) rfl ?_
    refine ao_effS trivial (e_store rfl rfl rfl rfl Try.sizeOf35 rfl) ?_
    refine ao_read trivial (r_assign rfl) rfl ?_
    refine ao_nil ?_
    refine aq_then ?_
    refine aw_seq ?_
    refine aw_region ?_
    refine ao_read trivial (r_move rfl) rfl ?_
    refine ao_read trivial (r_move rfl) rfl ?_
    refine ao_readG (x := .int .i64 s1.1) rfl (GV.T rfl) (fun hg9 => r_move rfl) rfl ?_
    refine ao_readG (x := .bool (decide (s1.1 = 0))) rfl (GV.T rfl) (fun hg10 => Reads.strip 22 rfl (hg10) (r_eql rfl rfl)) rfl ?_
    refine ao_readG (x := .bool (decide (s1.1 = 0))) rfl (GV.T rfl) (fun hg11 => Reads.strip 23 rfl (hg11) (r_move rfl)) rfl ?_
    refine ao_readG (x := .elem 2 0 1 0) rfl (GV.gF rfl) (fun hg12 => by
          obtain ⟨q13, q14⟩ := and_t hg12
          have q15 := d_f (not_t q14)
          exact r_idxAddr_arr (i := 0) Try.underlying35 Try.sizeOf3 rfl rfl (by omega) (by omega)) rfl ?_
    refine ao_readG (x := .int .i64 (r8.1.getD 0 0)) rfl (GV.gF rfl) (fun hg16 => by
          obtain ⟨q17, q18⟩ := and_t hg16
          have q19 := d_f (not_t q18)
          exact Reads.strip 25 rfl (hg16) (r_load_elema_int Try.isAgg3 Try.sizeOf3 rfl rfl rfl (by omega))) rfl ?_
    refine ao_readG (x := .elem 1 0 1 1) rfl (GV.gF rfl) (fun hg20 => by
          obtain ⟨q21, q22⟩ := and_t hg20
          have q23 := d_f (not_t q22)
          exact r_idxAddr_arr (i := 1) Try.underlying35 Try.sizeOf3 rfl rfl (by omega) (by omega)) rfl ?_
    refine ao_readG (x := .int .i64 (s1.2.2.getD 1 0)) rfl (GV.gF rfl) (fun hg24 => by
          obtain ⟨q25, q26⟩ := and_t hg24
          have q27 := d_f (not_t q26)
          exact Reads.strip 27 rfl (hg24) (r_load_elema_int Try.isAgg3 Try.sizeOf3 rfl rfl rfl (by omega))) rfl ?_
    refine ao_readG (x := .int .i64 (IntKind.wrap .i64 ((r8.1.getD 0 0) * (s1.2.2.getD 1 0)))) rfl (GV.gF rfl) (fun hg28 => by
          obtain ⟨q29, q30⟩ := and_t hg28
          have q31 := d_f (not_t q30)
          exact Reads.strip 26 rfl (hg28) (Reads.strip 28 rfl (hg28) (r_mul rfl rfl))) rfl ?_
    refine ao_readG (x := .elem 1 0 1 0) rfl (GV.gF rfl) (fun hg32 => by
          obtain ⟨q33, q34⟩ := and_t hg32
          have q35 := d_f (not_t q34)
          exact r_idxAddr_arr (i := 0) Try.underlying35 Try.sizeOf3 rfl rfl (by omega) (by omega)) rfl ?_
    refine ao_readG (x := .int .i64 (s1.2.2.getD 0 0)) rfl (GV.gF rfl) (fun hg36 => by
          obtain ⟨q37, q38⟩ := and_t hg36
          have q39 := d_f (not_t q38)
          exact Reads.strip 30 rfl (hg36) (r_load_elema_int Try.isAgg3 Try.sizeOf3 rfl rfl rfl (by omega))) rfl ?_
    refine ao_readG (x := .elem 2 0 1 1) rfl (GV.gF rfl) (fun hg40 => by
          obtain ⟨q41, q42⟩ := and_t hg40
          have q43 := d_f (not_t q42)
          exact r_idxAddr_arr (i := 1) Try.underlying35 Try.sizeOf3 rfl rfl (by omega) (by omega)) rfl ?_
    refine ao_readG (x := .int .i64 (r8.1.getD 1 0)) rfl (GV.gF rfl) (fun hg44 => by
          obtain ⟨q45, q46⟩ := and_t hg44
          have q47 := d_f (not_t q46)
          exact Reads.strip 32 rfl (hg44) (r_load_elema_int Try.isAgg3 Try.sizeOf3 rfl rfl rfl (by omega))) rfl ?_
    refine ao_readG (x := .int .i64 (IntKind.wrap .i64 ((s1.2.2.getD 0 0) * (r8.1.getD 1 0)))) rfl (GV.gF rfl) (fun hg48 => by
          obtain ⟨q49, q50⟩ := and_t hg48
          have q51 := d_f (not_t q50)
          exact Reads.strip 31 rfl (hg48) (Reads.strip 33 rfl (hg48) (r_mul rfl rfl))) rfl ?_
    refine ao_readG (x := .bool (decide ((IntKind.wrap .i64 ((r8.1.getD 0 0) * (s1.2.2.getD 1 0))) < (IntKind.wrap .i64 ((s1.2.2.getD 0 0) * (r8.1.getD 1 0)))))) rfl (GV.gF rfl) (fun hg52 => by
          obtain ⟨q53, q54⟩ := and_t hg52
          have q55 := d_f (not_t q54)
          exact Reads.strip 29 rfl (hg52) (Reads.strip 34 rfl (hg52) (r_lss rfl rfl))) rfl ?_
    refine ao_readG (x := .bool ((decide (s1.1 = 0)) || (decide ((IntKind.wrap .i64 ((r8.1.getD 0 0) * (s1.2.2.getD 1 0))) < (IntKind.wrap .i64 ((s1.2.2.getD 0 0) * (r8.1.getD 1 0))))))) rfl (GV.T rfl) (fun hg56 => Reads.strip 24 rfl (hg56) (r_orBg rfl rfl (tr_and (hg56)))) rfl ?_
    refine ao_read trivial (r_andB rfl rfl) rfl ?_
    refine ao_nil ?_
    refine aq_then ?_
    refine aw_cond rfl (fun hb57 => ?_) (fun hb57 => ?_)
    · obtain ⟨q58, q59⟩ := and_t hb57
      replace h := is_if hb57 h
      refine aw_draw 3 (by kernel_rfl) (by kernel_rfl) ?_
      refine an_read 0 (by kernel_rfl) (fun _ _ _ h => h) rfl (by kernel_rfl) trivial (r_move rfl) rfl ?_
      refine an_read 1 (by kernel_rfl) (fun _ _ _ h => h) rfl (by kernel_rfl) trivial (r_load_arr rfl Try.isAgg35 Try.sizeOf35 rfl rfl rfl) rfl ?_
      refine an_read 2 (by kernel_rfl) (fun _ _ _ h => h) rfl (by kernel_rfl) trivial (r_assign rfl) rfl ?_
      refine an_tail rfl rfl ?_
      refine ao_effS trivial (e_store rfl rfl rfl rfl Try.sizeOf35 rfl) ?_
      refine ao_nil ?_
      refine aq_in ?_
      refine aq_then ?_
      refine aw_region ?_
      refine ao_read trivial (r_move rfl) rfl ?_
      refine ao_read trivial (r_addI rfl rfl (wrap_id (by omega) (by omega))) rfl ?_
      refine ao_read trivial (r_assign rfl) rfl ?_
      refine ao_nil ?_
      exact aq_again (AL.sub (sub_mk idn (by exact ⟨⟨_, rfl, ad_ren rfl⟩, ⟨_, rfl, ad_ren rfl⟩, ⟨_, rfl, ad_ren rfl⟩, ⟨_, rfl, ad_ren rfl⟩, ⟨_, rfl, ad_ren rfl⟩, trivial⟩) (by exact ⟨⟨_, rfl, ⟨rfl, trivial⟩⟩, ⟨_, rfl, ⟨rfl, trivial⟩⟩, trivial⟩) (by rfl) (nk rfl)) (ih3 (s1.2.1, (s1.2.1 + 1), r8.1) ⟨(by (try simp only [List.length_set, List.length_append, List.length_cons, List.length_nil, List.length_replicate, List.length_take, List.length_drop]) <;> omega), (by (try simp only [List.length_set, List.length_append, List.length_cons, List.length_nil, List.length_replicate, List.length_take, List.length_drop]) <;> omega)⟩ h))
    · replace h := is_else (ne_t hb57) h
      refine aw_skip ?_
      refine aq_in ?_
      refine aq_then ?_
      refine aw_region ?_
      refine ao_read trivial (r_move rfl) rfl ?_
      refine ao_read trivial (r_addI rfl rfl (wrap_id (by omega) (by omega))) rfl ?_
      refine ao_read trivial (r_assign rfl) rfl ?_
      refine ao_nil ?_
      exact aq_again (AL.sub (sub_mk idn (by exact ⟨⟨_, rfl, ad_ren rfl⟩, ⟨_, rfl, ad_ren rfl⟩, ⟨_, rfl, ad_ren rfl⟩, ⟨_, rfl, ad_ren rfl⟩, ⟨_, rfl, ad_ren rfl⟩, trivial⟩) (by exact ⟨⟨_, rfl, ⟨rfl, trivial⟩⟩, ⟨_, rfl, ⟨rfl, trivial⟩⟩, trivial⟩) (by rfl) (nk rfl)) (ih3 (s1.1, (s1.2.1 + 1), s1.2.2) ⟨(by (try simp only [List.length_set, List.length_append, List.length_cons, List.length_nil, List.length_replicate, List.length_take, List.length_drop]) <;> omega), (by (try simp only [List.length_set, List.length_append, List.length_cons, List.length_nil, List.length_replicate, List.length_take, List.length_drop]) <;> omega)⟩ h))
  · have q7 := d_f hb5
    replace h := is_else (d_f hb5) h
    refine aw_exit ?_
    refine aq_then_exit ?_
    refine aq_then_exit ?_
    refine aq_in_exit ?_
    refine aq_then ?_
    refine aw_seq ?_
    refine aw_drawP 7 rfl (by kernel_rfl) ?_
    refine ap_to [(2, .int .i64 s1.1), (3, .ref 0 0), (4, .bool (decide (0 < s1.1)))] [(0, .var [.arr (.int .i64) 2 s1.2.2])] ?_ (fun key => ?_)
    · refine aq_then ?_
      refine aw_ret ?_
      refine aq_ret ?_
      obtain rfl := is_some h
      exact aq_finx (l := [.tmp 2, .cell 3 35, .tmp 4]) (xs := [.int .i64 s1.1, .v (.arr 2 (.int .i64)) s1.2.2, .bool (decide (0 < s1.1))]) idn [.int .i64 s1.1, .v (.arr 2 (.int .i64)) s1.2.2, .bool (decide (0 < s1.1))] [] rfl (by exact ⟨rfl, ⟨⟨_, _, rfl⟩, r_load_arr rfl Try.isAgg35 Try.sizeOf35 rfl rfl rfl⟩, rfl, trivial⟩) (by exact ⟨ad_ren rfl, ad_ren rfl, ad_ren rfl, trivial⟩) (by exact trivial) rfl (nk rfl) rfl rfl ⟨rfl, rfl⟩
    refine ap_let (g := 2) (listed := #[true, true, true, true, true, false, false]) [(2, .int .i64 s1.1), (3, .ref 0 0), (41, .v (.arr 2 (.int .i64)) s1.2.2), (43, .bool (decide (0 < s1.1)))] [(0, .var [.arr (.int .i64) 2 ((List.replicate 2 0) : (List Int))])] ?_ (fun k61 => ?_)
    · refine ap_all [5] (by kernel_rfl) ⟨?_, trivial⟩
      refine apo_ao rfl ?_
      refine ao_effS trivial (e_store rfl rfl rfl rfl Try.sizeOf35 rfl) ?_
      refine ao_nil ?_
      refine ap_in ?_
      refine ap_pure 6 (by kernel_rfl) (fun _ _ _ h => h) rfl (by kernel_rfl) trivial (rp_assign rfl) rfl ?_
      exact ap_end (by kernel_rfl) (AQ.sub (sub_mk idn (by exact ⟨⟨_, rfl, ad_ren rfl⟩, ⟨_, rfl, ad_ren rfl⟩, ⟨_, rfl, ad_ren rfl⟩, trivial⟩) (by exact ⟨⟨_, rfl, ⟨rfl, trivial⟩⟩, trivial⟩) (by rfl) (nk rfl)) key)
    refine ap_let (g := 3) (listed := #[true, false, true, true, true, false, false]) [(2, .int .i64 s1.1), (3, .ref 0 0), (6, .ref 1 0), (43, .bool (decide (0 < s1.1)))] [(0, .var [.arr (.int .i64) 2 ((List.replicate 2 0) : (List Int))]), (1, .var [.arr (.int .i64) 2 s1.2.2])] ?_ (fun k60 => ?_)
    · refine ap_all [1] (by kernel_rfl) ⟨?_, trivial⟩
      refine apo_ao rfl ?_
      refine ao_read trivial (r_load_arr rfl Try.isAgg35 Try.sizeOf35 rfl rfl rfl) rfl ?_
      refine ao_nil ?_
      refine ap_in ?_
      exact ap_go (by kernel_rfl) (sub_mk idn (by exact ⟨⟨_, rfl, ad_ren rfl⟩, ⟨_, rfl, ad_ren rfl⟩, ⟨_, rfl, ad_ren rfl⟩, ⟨_, rfl, ad_ren rfl⟩, trivial⟩) (by exact ⟨⟨_, rfl, ⟨rfl, trivial⟩⟩, trivial⟩) (by rfl) (nk rfl)) k61
    refine ap_pure 0 (by kernel_rfl) (fun _ _ _ h => h) rfl (by kernel_rfl) trivial (rp_move rfl) rfl ?_
    refine ap_pure 2 (by kernel_rfl) (fun _ _ _ h => h) rfl (by kernel_rfl) trivial (rp_move rfl) rfl ?_
    refine ap_pure 3 (by kernel_rfl) (fun _ _ _ h => h) rfl (by kernel_rfl) trivial (rp_gtr rfl rfl) rfl ?_
    refine ap_pure 4 (by kernel_rfl) (fun _ _ _ h => h) rfl (by kernel_rfl) trivial (rp_assign rfl) rfl ?_
    exact ap_go (by kernel_rfl) (sub_mk idn (by exact ⟨⟨_, rfl, ad_ren rfl⟩, ⟨_, rfl, ad_ren rfl⟩, ⟨_, rfl, ad_ren rfl⟩, ⟨_, rfl, ad_ren rfl⟩, trivial⟩) (by exact ⟨⟨_, rfl, ⟨rfl, trivial⟩⟩, ⟨_, rfl, ⟨rfl, trivial⟩⟩, trivial⟩) (by rfl) (nk rfl)) k60
theorem c_spec_l2Less {x0 : (List Int)} {x1 : (List Int)} {r : Bool} (h : Is (p_spec_l2Less x0 x1) r) :
    Scalar Try.prog 104 [.v (.arr 2 (.int .i64)) x0, .v (.arr 2 (.int .i64)) x1] (.bool r) := by
  unfold p_spec_l2Less at h
  refine ac_enter ⟨16, 0⟩ Try.func104 rfl rfl rfl rfl rfl (fun Γ => ?_)
  refine aw_seq ?_
  refine aw_region ?_
  refine ao_eff trivial (e_box 0 rfl rfl rfl rfl rfl rfl) rfl ?_
  refine ao_eff trivial (e_box 1 rfl rfl rfl rfl rfl rfl) rfl ?_
  refine ao_read trivial (r_assign rfl) rfl ?_
  refine ao_nil ?_
  refine aq_then ?_
  refine aw_seq ?_
  refine aw_region ?_
  refine ao_read trivial (r_idxAddr_arr Try.underlying35 Try.sizeOf3 rfl rfl (by omega) (by omega)) rfl ?_
  refine ao_read trivial (r_load_elema_int Try.isAgg3 Try.sizeOf3 rfl rfl rfl (by omega)) rfl ?_
  refine ao_read trivial (r_idxAddr_arr Try.underlying35 Try.sizeOf3 rfl rfl (by omega) (by omega)) rfl ?_
  refine ao_read trivial (r_load_elema_int Try.isAgg3 Try.sizeOf3 rfl rfl rfl (by omega)) rfl ?_
  refine ao_read trivial (r_mul rfl rfl) rfl ?_
  refine ao_read trivial (r_idxAddr_arr Try.underlying35 Try.sizeOf3 rfl rfl (by omega) (by omega)) rfl ?_
  refine ao_read trivial (r_load_elema_int Try.isAgg3 Try.sizeOf3 rfl rfl rfl (by omega)) rfl ?_
  refine ao_read trivial (r_idxAddr_arr Try.underlying35 Try.sizeOf3 rfl rfl (by omega) (by omega)) rfl ?_
  refine ao_read trivial (r_load_elema_int Try.isAgg3 Try.sizeOf3 rfl rfl rfl (by omega)) rfl ?_
  refine ao_read trivial (r_mul rfl rfl) rfl ?_
  refine ao_read trivial (r_lss rfl rfl) rfl ?_
  refine ao_read trivial (r_assign rfl) rfl ?_
  refine ao_nil ?_
  refine aq_then ?_
  refine aw_ret ?_
  refine aq_ret ?_
  obtain rfl := is_eq h
  exact aq_finx (l := [.tmp 4]) (xs := [.bool (decide ((IntKind.wrap .i64 ((x0.getD 0 0) * (x1.getD 1 0))) < (IntKind.wrap .i64 ((x1.getD 0 0) * (x0.getD 1 0)))))]) idn [.bool (decide ((IntKind.wrap .i64 ((x0.getD 0 0) * (x1.getD 1 0))) < (IntKind.wrap .i64 ((x1.getD 0 0) * (x0.getD 1 0)))))] [] rfl (by exact ⟨rfl, trivial⟩) (by exact ⟨ad_ren rfl, trivial⟩) (by exact trivial) rfl (nk rfl) rfl rfl ⟨rfl, rfl⟩
theorem c_spec_BestThrows {fu : Nat} {x0 : Int} {r : Int × (List Int) × Bool} (h : Is (p_spec_BestThrows fu x0) (some r)) :
    Scalar Try.prog 21 [.int .i64 x0] (.tup [.int .i64 r.1, .v (.arr 2 (.int .i64)) r.2.1, .bool r.2.2]) := by
  unfold p_spec_BestThrows at h
  refine ac_enter ⟨37, 0⟩ Try.func21 rfl rfl rfl rfl rfl (fun Γ => ?_)
  refine aw_seq ?_
  refine aw_region ?_
  refine ao_read trivial (r_assign rfl) rfl ?_
  refine ao_eff trivial (e_alloc 0 (y := .v (.arr 2 (.int .i64)) ((List.replicate 2 0) : (List Int))) Try.zeroValue35 (fun ρ h M => ra_zero_arr (t := (.int .i64)) rfl) rfl rfl rfl rfl rfl) rfl ?_
  refine ao_read trivial (r_assign rfl) rfl ?_
  refine ao_nil ?_
  refine aq_then ?_
  refine aw_seq ?_
  refine aw_region ?_
  refine ao_read trivial (r_build_zero (t := (.int .i64)) Try.underlying35 Try.zeroValue35 Try.sizeOf3 rfl) rfl ?_
  refine ao_eff trivial (e_alloc 1 (y := .v (.arr 2 (.int .i64)) ((List.replicate 2 0) : (List Int))) Try.zeroValue35 (fun ρ h M => ra_zero_arr (t := (.int .i64)) rfl) rfl rfl rfl rfl rfl) rfl ?_
  refine ao_read trivial (r_assign rfl) rfl ?_
  refine ao_effS trivial (e_store rfl rfl rfl rfl Try.sizeOf35 rfl) ?_
  refine ao_nil ?_
  refine aq_then ?_
  refine aw_seq ?_
  refine aw_seq ?_
  refine aw_region ?_
  refine ao_read trivial (r_assign rfl) rfl ?_
  refine ao_nil ?_
  refine aq_then ?_
  refine aw_block ?_
  refine aw_loop (AL.sub (sub_mk idn (by exact ⟨⟨_, rfl, ad_ren rfl⟩, ⟨_, rfl, ad_ren rfl⟩, ⟨_, rfl, ad_ren rfl⟩, ⟨_, rfl, ad_ren rfl⟩, ⟨_, rfl, ad_ren rfl⟩, trivial⟩) (by exact ⟨⟨_, rfl, ⟨rfl, trivial⟩⟩, ⟨_, rfl, ⟨rfl, trivial⟩⟩, trivial⟩) (by rfl) (nk rfl)) (al_whl (fun (s1 : Int × Int × (List Int)) => [(0, .int .i64 x0), (3, .ref 0 0), (5, .int .i64 s1.1), (6, .ref 1 0), (7, .int .i64 s1.2.1)]) (fun (s1 : Int × Int × (List Int)) => [(0, .var [.arr (.int .i64) 2 ((List.replicate 2 0) : (List Int))]), (1, .var [.arr (.int .i64) 2 s1.2.2])]) (fun (s1 : Int × Int × (List Int)) => 0 ≤ s1.1 ∧ 1 ≤ s1.2.1) h ⟨(by (try simp only [List.length_set, List.length_append, List.length_cons, List.length_nil, List.length_replicate, List.length_take, List.length_drop]) <;> omega), (by (try simp only [List.length_set, List.length_append, List.length_cons, List.length_nil, List.length_replicate, List.length_take, List.length_drop]) <;> omega)⟩ (fun d3 s1 hI h ih3 => ?_)))
  obtain ⟨_, _⟩ := hI
  replace h := is_whlS h
  refine al_round ?_
  refine aw_seq ?_
  refine aw_seq ?_
  refine aw_region ?_
  refine ao_read trivial (r_move rfl) rfl ?_
  refine ao_read trivial (r_leq rfl rfl) rfl ?_
  refine ao_nil ?_
  refine aq_then ?_
  refine aw_cond rfl (fun hb5 => ?_) (fun hb5 => ?_)
  · have q6 := d_t hb5
    replace h := is_if (d_t hb5) h
    refine aw_skip ?_
    refine aq_then ?_
    refine aw_seq ?_
    refine aw_block ?_
    refine aw_seq ?_
    refine aw_region ?_
    refine ao_read trivial (r_move rfl) rfl ?_
    refine ao_read trivial (r_move rfl) rfl ?_
    obtain ⟨r8, r8h, h⟩ := is_bind h
    refine ao_scall trivial (scall (c_spec_MeanThrows (is_mk r8h)) rfl Try.func18 rfl rfl rfl rfl (fun σ => ⟨ad_ren rfl, ad_ren rfl, trivial⟩)) rfl ?_
    refine ao_read trivial (r_move rfl) rfl ?_
    refine ao_read trivial (r_extract rfl rfl) rfl ?_
    refine ao_read trivial (r_extract rfl rfl) rfl ?_
    refine ao_eff trivial (e_alloc 2 (y := .v (.arr 2 (.int .i64)) ((List.replicate 2 0) : (List Int))) Try.zeroValue35 (fun ρ h M => ra_zero_arr (t := (.int .i64)) rfl) rfl rfl rfl rfl rfl) rfl ?_
    refine ao_effS trivial (e_store rfl rfl rfl rfl Try.sizeOf35 rfl) ?_
    refine ao_read trivial (r_assign rfl) rfl ?_
    refine ao_nil ?_
    refine aq_then ?_
    refine aw_seq ?_
    refine aw_region ?_
    refine ao_read trivial (r_move rfl) rfl ?_
    refine ao_read trivial (r_move rfl) rfl ?_
    refine ao_readG (x := .int .i64 s1.1) rfl (GV.T rfl) (fun hg9 => r_move rfl) rfl ?_
    refine ao_readG (x := .bool (decide (s1.1 = 0))) rfl (GV.T rfl) (fun hg10 => Reads.strip 23 rfl (hg10) (r_eql rfl rfl)) rfl ?_
    refine ao_readG (x := .bool (decide (s1.1 = 0))) rfl (GV.T rfl) (fun hg11 => Reads.strip 24 rfl (hg11) (r_move rfl)) rfl ?_
    refine ao_readG (x := .v (.arr 2 (.int .i64)) r8.1) rfl (GV.gF rfl) (fun hg12 => by
          obtain ⟨q13, q14⟩ := and_t hg12
          have q15 := d_f (not_t q14)
          exact r_load_arr rfl Try.isAgg35 Try.sizeOf35 rfl rfl rfl) rfl ?_
    refine ao_readG (x := .v (.arr 2 (.int .i64)) s1.2.2) rfl (GV.gF rfl) (fun hg16 => by
          obtain ⟨q17, q18⟩ := and_t hg16
          have q19 := d_f (not_t q18)
          exact r_load_arr rfl Try.isAgg35 Try.sizeOf35 rfl rfl rfl) rfl ?_
    refine ao_scallG (r := .bool (p_spec_l2Less r8.1 s1.2.2)) rfl (GV.gF rfl) (fun hg20 => by
          obtain ⟨q21, q22⟩ := and_t hg20
          have q23 := d_f (not_t q22)
          exact SCall.strip 26 rfl (hg20) (SCall.strip 27 rfl (hg20) (scall (c_spec_l2Less (is_mk (rfl : p_spec_l2Less r8.1 s1.2.2 = _))) rfl Try.func104 rfl rfl rfl rfl (fun σ => ⟨ad_ren rfl, ad_ren rfl, trivial⟩)))) rfl ?_
    refine ao_readG (x := .bool ((decide (s1.1 = 0)) || (p_spec_l2Less r8.1 s1.2.2))) rfl (GV.T rfl) (fun hg24 => Reads.strip 25 rfl (hg24) (r_orBg rfl rfl (tr_and (hg24)))) rfl ?_
    refine ao_read trivial (r_andB rfl rfl) rfl ?_
    refine ao_nil ?_
    refine aq_then ?_
    refine aw_cond rfl (fun hb25 => ?_) (fun hb25 => ?_)
    · obtain ⟨q26, q27⟩ := and_t hb25
      replace h := is_if hb25 h
      refine aw_seq ?_
      refine aw_region ?_
      refine ao_read trivial (r_move rfl) rfl ?_
      refine ao_read trivial (r_assign rfl) rfl ?_
      refine ao_nil ?_
      refine aq_then ?_
      refine aw_region ?_
      refine ao_read trivial (r_load_arr rfl Try.isAgg35 Try.sizeOf35 rfl rfl rfl) rfl ?_
      refine ao_effS trivial (e_store rfl rfl rfl rfl Try.sizeOf35 rfl) ?_
      refine ao_nil ?_
      refine aq_in ?_
      refine aq_then ?_
      refine aw_region ?_
      refine ao_read trivial (r_move rfl) rfl ?_
      refine ao_read trivial (r_addI rfl rfl (wrap_id (by omega) (by omega))) rfl ?_
      refine ao_read trivial (r_assign rfl) rfl ?_
      refine ao_nil ?_
      exact aq_again (AL.sub (sub_mk idn (by exact ⟨⟨_, rfl, ad_ren rfl⟩, ⟨_, rfl, ad_ren rfl⟩, ⟨_, rfl, ad_ren rfl⟩, ⟨_, rfl, ad_ren rfl⟩, ⟨_, rfl, ad_ren rfl⟩, trivial⟩) (by exact ⟨⟨_, rfl, ⟨rfl, trivial⟩⟩, ⟨_, rfl, ⟨rfl, trivial⟩⟩, trivial⟩) (by rfl) (nk rfl)) (ih3 (s1.2.1, (s1.2.1 + 1), r8.1) ⟨(by (try simp only [List.length_set, List.length_append, List.length_cons, List.length_nil, List.length_replicate, List.length_take, List.length_drop]) <;> omega), (by (try simp only [List.length_set, List.length_append, List.length_cons, List.length_nil, List.length_replicate, List.length_take, List.length_drop]) <;> omega)⟩ h))
    · replace h := is_else (ne_t hb25) h
      refine aw_skip ?_
      refine aq_in ?_
      refine aq_then ?_
      refine aw_region ?_
      refine ao_read trivial (r_move rfl) rfl ?_
      refine ao_read trivial (r_addI rfl rfl (wrap_id (by omega) (by omega))) rfl ?_
      refine ao_read trivial (r_assign rfl) rfl ?_
      refine ao_nil ?_
      exact aq_again (AL.sub (sub_mk idn (by exact ⟨⟨_, rfl, ad_ren rfl⟩, ⟨_, rfl, ad_ren rfl⟩, ⟨_, rfl, ad_ren rfl⟩, ⟨_, rfl, ad_ren rfl⟩, ⟨_, rfl, ad_ren rfl⟩, trivial⟩) (by exact ⟨⟨_, rfl, ⟨rfl, trivial⟩⟩, ⟨_, rfl, ⟨rfl, trivial⟩⟩, trivial⟩) (by rfl) (nk rfl)) (ih3 (s1.1, (s1.2.1 + 1), s1.2.2) ⟨(by (try simp only [List.length_set, List.length_append, List.length_cons, List.length_nil, List.length_replicate, List.length_take, List.length_drop]) <;> omega), (by (try simp only [List.length_set, List.length_append, List.length_cons, List.length_nil, List.length_replicate, List.length_take, List.length_drop]) <;> omega)⟩ h))
  · have q7 := d_f hb5
    replace h := is_else (d_f hb5) h
    refine aw_exit ?_
    refine aq_then_exit ?_
    refine aq_then_exit ?_
    refine aq_in_exit ?_
    refine aq_then ?_
    refine aw_seq ?_
    refine aw_drawP 7 rfl (by kernel_rfl) ?_
    refine ap_to [(2, .int .i64 s1.1), (3, .ref 0 0), (4, .bool (decide (0 < s1.1)))] [(0, .var [.arr (.int .i64) 2 s1.2.2])] ?_ (fun key => ?_)
    · refine aq_then ?_
      refine aw_ret ?_
      refine aq_ret ?_
      obtain rfl := is_some h
      exact aq_finx (l := [.tmp 2, .cell 3 35, .tmp 4]) (xs := [.int .i64 s1.1, .v (.arr 2 (.int .i64)) s1.2.2, .bool (decide (0 < s1.1))]) idn [.int .i64 s1.1, .v (.arr 2 (.int .i64)) s1.2.2, .bool (decide (0 < s1.1))] [] rfl (by exact ⟨rfl, ⟨⟨_, _, rfl⟩, r_load_arr rfl Try.isAgg35 Try.sizeOf35 rfl rfl rfl⟩, rfl, trivial⟩) (by exact ⟨ad_ren rfl, ad_ren rfl, ad_ren rfl, trivial⟩) (by exact trivial) rfl (nk rfl) rfl rfl ⟨rfl, rfl⟩
    refine ap_let (g := 2) (listed := #[true, true, true, true, true, false, false]) [(2, .int .i64 s1.1), (3, .ref 0 0), (34, .v (.arr 2 (.int .i64)) s1.2.2), (36, .bool (decide (0 < s1.1)))] [(0, .var [.arr (.int .i64) 2 ((List.replicate 2 0) : (List Int))])] ?_ (fun k29 => ?_)
    · refine ap_all [5] (by kernel_rfl) ⟨?_, trivial⟩
      refine apo_ao rfl ?_
      refine ao_effS trivial (e_store rfl rfl rfl rfl Try.sizeOf35 rfl) ?_
      refine ao_nil ?_
      refine ap_in ?_
      refine ap_pure 6 (by kernel_rfl) (fun _ _ _ h => h) rfl (by kernel_rfl) trivial (rp_assign rfl) rfl ?_
      exact ap_end (by kernel_rfl) (AQ.sub (sub_mk idn (by exact ⟨⟨_, rfl, ad_ren rfl⟩, ⟨_, rfl, ad_ren rfl⟩, ⟨_, rfl, ad_ren rfl⟩, trivial⟩) (by exact ⟨⟨_, rfl, ⟨rfl, trivial⟩⟩, trivial⟩) (by rfl) (nk rfl)) key)
    refine ap_let (g := 3) (listed := #[true, false, true, true, true, false, false]) [(2, .int .i64 s1.1), (3, .ref 0 0), (6, .ref 1 0), (36, .bool (decide (0 < s1.1)))] [(0, .var [.arr (.int .i64) 2 ((List.replicate 2 0) : (List Int))]), (1, .var [.arr (.int .i64) 2 s1.2.2])] ?_ (fun k28 => ?_)
    · refine ap_all [1] (by kernel_rfl) ⟨?_, trivial⟩
      refine apo_ao rfl ?_
      refine ao_read trivial (r_load_arr rfl Try.isAgg35 Try.sizeOf35 rfl rfl rfl) rfl ?_
      refine ao_nil ?_
      refine ap_in ?_
      exact ap_go (by kernel_rfl) (sub_mk idn (by exact ⟨⟨_, rfl, ad_ren rfl⟩, ⟨_, rfl, ad_ren rfl⟩, ⟨_, rfl, ad_ren rfl⟩, ⟨_, rfl, ad_ren rfl⟩, trivial⟩) (by exact ⟨⟨_, rfl, ⟨rfl, trivial⟩⟩, trivial⟩) (by rfl) (nk rfl)) k29
    refine ap_pure 0 (by kernel_rfl) (fun _ _ _ h => h) rfl (by kernel_rfl) trivial (rp_move rfl) rfl ?_
    refine ap_pure 2 (by kernel_rfl) (fun _ _ _ h => h) rfl (by kernel_rfl) trivial (rp_move rfl) rfl ?_
    refine ap_pure 3 (by kernel_rfl) (fun _ _ _ h => h) rfl (by kernel_rfl) trivial (rp_gtr rfl rfl) rfl ?_
    refine ap_pure 4 (by kernel_rfl) (fun _ _ _ h => h) rfl (by kernel_rfl) trivial (rp_assign rfl) rfl ?_
    exact ap_go (by kernel_rfl) (sub_mk idn (by exact ⟨⟨_, rfl, ad_ren rfl⟩, ⟨_, rfl, ad_ren rfl⟩, ⟨_, rfl, ad_ren rfl⟩, ⟨_, rfl, ad_ren rfl⟩, trivial⟩) (by exact ⟨⟨_, rfl, ⟨rfl, trivial⟩⟩, ⟨_, rfl, ⟨rfl, trivial⟩⟩, trivial⟩) (by rfl) (nk rfl)) k28
theorem c_spec_DrawMakeList {fu : Nat} {x0 : (List Int)} {r : Int × Int × (List Int)} (h : Is (p_spec_DrawMakeList fu x0) (some r)) :
    ACalls Try.prog 22 [.v (.slice (.int .u8)) x0] [] (fun r' H' => r' = .tup [.int .i64 r.1, .int .i64 r.2.1, .os 0] ∧ H' = [(0, .row (.int .i64) r.2.2)]) := by
  unfold p_spec_DrawMakeList at h
  refine ac_enter ⟨21, 0⟩ Try.func22 rfl rfl rfl rfl rfl (fun Γ => ?_)
  refine sl_len_m 0 (x0.length : Int) rfl rfl (fun hl0 => ?_)
  refine aw_seq ?_
  refine aw_region ?_
  refine ao_read trivial (r_assign rfl) rfl ?_
  refine ao_read trivial (r_assign rfl) rfl ?_
  refine ao_read trivial (r_assign rfl) rfl ?_
  refine ao_nil ?_
  refine aq_then ?_
  refine aw_seq ?_
  refine aw_region ?_
  refine ao_read trivial (r_move rfl) rfl ?_
  refine ao_read trivial (r_build_st (l := [(0, .tmp 8)]) (cs := [.cell (.v (.slice (.int .u8)) x0), .cell (.int .i64 0), .cell (.int .u64 0)]) (.pair (.slice (.int .u8)) (.pair (.int .i64) (.pair (.int .u64) .unit))) [(0, 1), (1, 1), (2, 1)] Try.underlying98 Try.zeroValue98 rfl ⟨rfl, Try.sizeOf22, rfl, Try.sizeOf3, rfl, Try.sizeOf96, trivial⟩ rfl rfl rfl) rfl ?_
  refine ao_eff trivial (e_box 0 rfl rfl rfl rfl rfl rfl) rfl ?_
  refine ao_read trivial (r_assign rfl) rfl ?_
  refine ao_nil ?_
  refine aq_then ?_
  refine aw_seq ?_
  refine aw_region ?_
  refine ao_read trivial (r_move rfl) rfl ?_
  obtain ⟨r1, r1h, h⟩ := is_bind h
  refine ao_callV [0] 1 trivial (c_spec_l1Cur_size (is_mk r1h)) Try.func86 rfl rfl rfl rfl rfl ⟨rfl, trivial⟩ ⟨⟨_, rfl, ⟨ad_ren rfl, rfl, ad_ren rfl, rfl, ad_ren rfl, rfl, trivial⟩⟩, trivial⟩ rfl rfl rfl rfl rfl rfl rfl (fun r' H' hr => ?_)
  obtain ⟨rfl, rfl⟩ := hr
  refine ao_norm (y := .int .i64 r1.1) (H' := [(0, .var [.cell (.v (.slice (.int .u8)) x0), .cell (.int .i64 r1.2.1), .cell (.int .u64 r1.2.2)])]) rfl rfl ?_
  refine ao_read trivial (r_move rfl) rfl ?_
  refine ao_eff trivial (e_buildSlice (l := [(0, .const (.int .i64 1)), (1, .const (.int .i64 2)), (2, .const (.int .i64 3)), (3, .const (.int .i64 2)), (4, .const (.int .i64 4)), (5, .const (.int .i64 0))]) (t := (.int .i64)) 1 ([1, 2, 3, 2, 4, 0] : (List Int)) rfl Try.underlying24 Try.zeroValue3 Try.sizeOf3 rfl rfl rfl rfl rfl rfl rfl) rfl ?_
  obtain ⟨r2, r2h, h⟩ := is_bind h
  refine ao_frz (fr' := [(0, .v (.slice (.int .u8)) x0), (2, .int .i64 0), (3, .int .i64 0), (4, .nilsl), (8, .v (.slice (.int .u8)) x0), (9, .st [.v (.slice (.int .u8)) x0, .int .i64 0, .int .u64 0]), (10, .ref 0 0), (5, .ref 0 0), (11, .ref 0 0), (12, .int .i64 r1.1), (13, .ref 0 0), (14, .v (.slice (.int .i64)) ([1, 2, 3, 2, 4, 0] : (List Int)))]) (H' := [(0, .var [.cell (.v (.slice (.int .u8)) x0), .cell (.int .i64 r1.2.1), .cell (.int .u64 r1.2.2)])]) (by exact ⟨⟨_, rfl, ad_ren rfl⟩, ⟨_, rfl, ad_ren rfl⟩, ⟨_, rfl, ad_ren rfl⟩, ⟨_, rfl, ad_ren rfl⟩, ⟨_, rfl, ad_ren rfl⟩, ⟨_, rfl, ad_ren rfl⟩, ⟨_, rfl, ad_ren rfl⟩, ⟨_, rfl, ad_ren rfl⟩, ⟨_, rfl, ad_ren rfl⟩, ⟨_, rfl, ad_ren rfl⟩, ⟨_, rfl, ad_ren rfl⟩, ⟨_, rfl, ad_osB rfl rfl⟩, trivial⟩) (by exact ⟨⟨_, rfl, ⟨ad_ren rfl, rfl, ad_ren rfl, rfl, ad_ren rfl, rfl, trivial⟩⟩, trivial⟩) rfl ?_
  refine ao_callV [0] 2 trivial (c_spec_l1Cur_among (is_mk r2h)) Try.func97 rfl rfl rfl rfl rfl ⟨rfl, trivial⟩ ⟨⟨_, rfl, ⟨ad_ren rfl, rfl, ad_ren rfl, rfl, ad_ren rfl, rfl, trivial⟩⟩, trivial⟩ rfl rfl rfl rfl rfl rfl rfl (fun r' H' hr => ?_)
  obtain ⟨rfl, rfl⟩ := hr
  refine ao_norm (y := .int .i64 r2.1) (H' := [(0, .var [.cell (.v (.slice (.int .u8)) x0), .cell (.int .i64 r2.2.1), .cell (.int .u64 r2.2.2)])]) rfl rfl ?_
  refine ao_read trivial (r_assign rfl) rfl ?_
  refine ao_read trivial (r_assign rfl) rfl ?_
  refine ao_nil ?_
  refine aq_then ?_
  refine aw_seq ?_
  refine aw_region ?_
  refine ao_read trivial (r_move rfl) rfl ?_
  refine ao_read trivial (r_move rfl) rfl ?_
  refine ao_read trivial (r_move rfl) rfl ?_
  refine ao_eff trivial (e_buildSlice (l := [(0, .const (.int .i64 12)), (1, .const (.int .i64 20)), (2, .const (.int .i64 5)), (3, .const (.int .i64 1)), (4, .const (.int .i64 0)), (5, .const (.int .i64 40)), (6, .const (.int .i64 41))]) (t := (.int .i64)) 2 ([12, 20, 5, 1, 0, 40, 41] : (List Int)) rfl Try.underlying24 Try.zeroValue3 Try.sizeOf3 rfl rfl rfl rfl rfl rfl rfl) rfl ?_
  obtain ⟨r3, r3h, h⟩ := is_bind h
  refine ao_frz (fr' := [(0, .v (.slice (.int .u8)) x0), (2, .int .i64 0), (3, .int .i64 0), (4, .nilsl), (8, .v (.slice (.int .u8)) x0), (9, .st [.v (.slice (.int .u8)) x0, .int .i64 0, .int .u64 0]), (10, .ref 0 0), (5, .ref 0 0), (11, .ref 0 0), (12, .int .i64 r1.1), (13, .ref 0 0), (14, .v (.slice (.int .i64)) ([1, 2, 3, 2, 4, 0] : (List Int))), (15, .int .i64 r2.1), (6, .int .i64 r1.1), (7, .int .i64 r2.1), (16, .int .i64 r1.1), (17, .int .i64 r2.1), (18, .ref 0 0), (19, .v (.slice (.int .i64)) ([12, 20, 5, 1, 0, 40, 41] : (List Int)))]) (H' := [(0, .var [.cell (.v (.slice (.int .u8)) x0), .cell (.int .i64 r2.2.1), .cell (.int .u64 r2.2.2)])]) (by exact ⟨⟨_, rfl, ad_ren rfl⟩, ⟨_, rfl, ad_ren rfl⟩, ⟨_, rfl, ad_ren rfl⟩, ⟨_, rfl, ad_ren rfl⟩, ⟨_, rfl, ad_ren rfl⟩, ⟨_, rfl, ad_ren rfl⟩, ⟨_, rfl, ad_ren rfl⟩, ⟨_, rfl, ad_ren rfl⟩, ⟨_, rfl, ad_ren rfl⟩, ⟨_, rfl, ad_ren rfl⟩, ⟨_, rfl, ad_ren rfl⟩, ⟨_, rfl, ad_ren rfl⟩, ⟨_, rfl, ad_ren rfl⟩, ⟨_, rfl, ad_ren rfl⟩, ⟨_, rfl, ad_ren rfl⟩, ⟨_, rfl, ad_ren rfl⟩, ⟨_, rfl, ad_ren rfl⟩, ⟨_, rfl, ad_ren rfl⟩, ⟨_, rfl, ad_osB rfl rfl⟩, trivial⟩) (by exact ⟨⟨_, rfl, ⟨ad_ren rfl, rfl, ad_ren rfl, rfl, ad_ren rfl, rfl, trivial⟩⟩, trivial⟩) rfl ?_
  refine ao_callV [0] 3 trivial (c_spec_l1Cur_throws (is_mk r3h)) Try.func87 rfl rfl rfl rfl rfl ⟨rfl, trivial⟩ ⟨⟨_, rfl, ⟨ad_ren rfl, rfl, ad_ren rfl, rfl, ad_ren rfl, rfl, trivial⟩⟩, trivial⟩ rfl rfl rfl rfl rfl rfl rfl (fun r' H' hr => ?_)
  obtain ⟨rfl, rfl⟩ := hr
  refine ao_norm (y := .os 3) (H' := [(0, .var [.cell (.v (.slice (.int .u8)) x0), .cell (.int .i64 r3.2.1), .cell (.int .u64 r3.2.2)]), (3, .row (.int .i64) r3.1)]) rfl rfl ?_
  refine row_len_o 3 (r3.1.length : Int) rfl rfl (fun hr4 => ?_)
  refine ao_read trivial (r_assign rfl) rfl ?_
  refine ao_read trivial (r_assign rfl) rfl ?_
  refine ao_read trivial (r_assign rfl) rfl ?_
  refine ao_nil ?_
  refine aq_then ?_
  refine aw_ret ?_
  refine aq_ret ?_
  obtain rfl := is_some h
  exact aq_finx (l := [.tmp 2, .tmp 3, .tmp 4]) (xs := [.int .i64 r1.1, .int .i64 r2.1, .os 3]) (rn [(0, 3)]) [.int .i64 r1.1, .int .i64 r2.1, .os 0] [(0, .row (.int .i64) r3.1)] rfl (by exact ⟨rfl, rfl, rfl, trivial⟩) (by exact ⟨ad_ren rfl, ad_ren rfl, ad_ren rfl, trivial⟩) (by exact ⟨⟨_, rfl, rfl⟩, trivial⟩) rfl (nk rfl) rfl rfl ⟨rfl, rfl⟩
theorem c_impl_isList {x0 : (List Int)} {r : Bool} (h : Is (p_impl_isList x0) r) :
    Scalar Try.prog 105 [.v (.slice (.int .i64)) x0] (.bool r) := by
  unfold p_impl_isList at h
  refine ac_enter ⟨6, 0⟩ Try.func105 rfl rfl rfl rfl rfl (fun Γ => ?_)
  refine sl_len_m 0 (x0.length : Int) rfl rfl (fun hl0 => ?_)
  refine aw_seq ?_
  refine aw_region ?_
  refine ao_read trivial (r_assign rfl) rfl ?_
  refine ao_nil ?_
  refine aq_then ?_
  refine aw_seq ?_
  refine aw_region ?_
  refine ao_read trivial (r_move rfl) rfl ?_
  refine ao_read trivial (r_len_vm (x0.length : Int) Try.underlying24 rfl rfl) rfl ?_
  refine ao_read trivial (r_leq rfl rfl) rfl ?_
  refine ao_read trivial (r_assign rfl) rfl ?_
  refine ao_nil ?_
  refine aq_then ?_
  refine aw_ret ?_
  refine aq_ret ?_
  obtain rfl := is_eq h
  exact aq_finx (l := [.tmp 2]) (xs := [.bool (decide ((x0.length : Int) ≤ 40))]) idn [.bool (decide ((x0.length : Int) ≤ 40))] [] rfl (by exact ⟨rfl, trivial⟩) (by exact ⟨ad_ren rfl, trivial⟩) (by exact trivial) rfl (nk rfl) rfl rfl ⟨rfl, rfl⟩
theorem c_slices_Chunk_int_int {x0 : (List Int)} {x1 : Int} {r : (List Int) × Int} (h : Is (p_slices_Chunk_int_int x0 x1) (some r)) :
    ACallsV Try.prog 106 [.v (.slice (.int .i64)) x0, .int .i64 x1] [] (fun r' H' => r' = .fn 166 [.ref 0 0, .ref 1 0] ∧ H' = [(0, .var [.cell (.v (.slice (.int .i64)) r.1)]), (1, .var [.cell (.int .i64 r.2)])]) := by
  unfold p_slices_Chunk_int_int at h
  refine ac_enterV ⟨9, 0⟩ Try.func106 rfl rfl rfl rfl rfl (fun Γ => ?_)
  refine sl_len_m 0 (x0.length : Int) rfl rfl (fun hl0 => ?_)
  refine aw_seq ?_
  refine aw_region ?_
  refine ao_eff trivial (e_box 0 rfl rfl rfl rfl rfl rfl) rfl ?_
  refine ao_eff trivial (e_box 1 rfl rfl rfl rfl rfl rfl) rfl ?_
  refine ao_read trivial (r_assign rfl) rfl ?_
  refine ao_nil ?_
  refine aq_then ?_
  refine aw_seq ?_
  refine aw_seq ?_
  refine aw_region ?_
  refine ao_read trivial (r_load_cell Try.isAgg3 rfl rfl rfl) rfl ?_
  refine ao_read trivial (r_lss rfl rfl) rfl ?_
  refine ao_nil ?_
  refine aq_then ?_
  refine aw_cond rfl (fun hb1 => ?_) (fun hb1 => ?_)
  · have q2 := d_t hb1
    replace h := is_if (d_t hb1) h
    exact nomatch (show (none : Option _) = some _ from h)
  · have q3 := d_f hb1
    replace h := is_else (d_f hb1) h
    refine aw_skip ?_
    refine aq_then ?_
    refine aw_seq ?_
    refine aw_region ?_
    refine ao_read trivial (r_makeFunc (cs := [.tmp 2, .tmp 3]) rfl) rfl ?_
    refine ao_read trivial (r_assign rfl) rfl ?_
    refine ao_nil ?_
    refine aq_then ?_
    refine aw_ret ?_
    refine aq_ret ?_
    obtain rfl := is_some h
    exact aq_finV (l := [.tmp 4]) (xs := [.fn 166 [.ref 0 0, .ref 1 0]]) idn [.fn 166 [.ref 0 0, .ref 1 0]] [(0, .var [.cell (.v (.slice (.int .i64)) x0)]), (1, .var [.cell (.int .i64 x1)])] rfl (by exact ⟨rfl, trivial⟩) (by exact ⟨ad_ren rfl, trivial⟩) (by exact ⟨⟨_, rfl, ⟨ad_ren rfl, rfl, trivial⟩⟩, ⟨_, rfl, ⟨ad_ren rfl, rfl, trivial⟩⟩, trivial⟩) rfl (nk rfl) ⟨rfl, rfl⟩
theorem c_impl_MakeList {fu : Nat} {x0 : Int} {x1 : Int} {x2 : (List Int)} {r : (List Int) × Int × Bool} (h : Is (p_impl_MakeList fu x0 x1 x2) (some r)) :
    ACalls Try.prog 23 [.int .i64 x0, .int .i64 x1, .v (.slice (.int .i64)) x2] [] (fun r' H' => r' = .tup [.os 0, .int .i64 r.2.1, .bool r.2.2] ∧ H' = [(0, .row (.int .i64) r.1)]) := by
  unfold p_impl_MakeList at h
  refine ac_enterMR ⟨53, 0⟩ Try.func23 rfl rfl rfl rfl rfl rfl (fun Γ _ hΓ => ?_)
  refine sl_len_m 2 (x2.length : Int) rfl rfl (fun hl2 => ?_)
  refine aw_seq ?_
  refine aw_region ?_
  refine ao_eff trivial (e_box 0 rfl rfl rfl rfl rfl rfl) rfl ?_
  refine ao_eff trivial (e_box 1 rfl rfl rfl rfl rfl rfl) rfl ?_
  refine ao_read trivial (r_assign rfl) rfl ?_
  refine ao_read trivial (r_assign rfl) rfl ?_
  refine ao_read trivial (r_assign rfl) rfl ?_
  refine ao_nil ?_
  refine aq_then ?_
  refine aw_seq ?_
  refine aw_seq ?_
  refine aw_region ?_
  refine ao_read trivial (r_load_cell Try.isAgg3 rfl rfl rfl) rfl ?_
  refine ao_read trivial (r_load_cell Try.isAgg3 rfl rfl rfl) rfl ?_
  obtain ⟨r1, r1h, h⟩ := is_bind h
  refine ao_scall trivial (scall (c_impl_isMade (is_mk r1h)) rfl Try.func88 rfl rfl rfl rfl (fun σ => ⟨ad_ren rfl, ad_ren rfl, trivial⟩)) rfl ?_
  refine ao_read trivial (r_not rfl) rfl ?_
  refine ao_read trivial (r_move rfl) rfl ?_
  refine ao_readG (x := .v (.slice (.int .i64)) x2) rfl (GV.F rfl) (fun hg2 => r_move rfl) rfl ?_
  refine ao_scallG (r := .bool (p_impl_isList x2)) rfl (GV.F rfl) (fun hg3 => SCall.strip 20 rfl (hg3) (scall (c_impl_isList (is_mk (rfl : p_impl_isList x2 = _))) rfl Try.func105 rfl rfl rfl rfl (fun σ => ⟨ad_ren rfl, trivial⟩))) rfl ?_
  refine ao_readG (x := .bool (!(p_impl_isList x2))) rfl (GV.F rfl) (fun hg4 => Reads.strip 21 rfl (hg4) (r_not rfl)) rfl ?_
  refine ao_read trivial (r_orB rfl rfl) rfl ?_
  refine ao_read trivial (r_move rfl) rfl ?_
  refine ao_readG (x := .v (.slice (.int .i64)) x2) rfl (GV.F rfl) (fun hg5 => by
        obtain ⟨q6, q7⟩ := or_f (not_t hg5)
        exact r_move rfl) rfl ?_
  refine ao_scallG (r := .bool (p_impl_areThrows x2)) rfl (GV.F rfl) (fun hg8 => by
        obtain ⟨q9, q10⟩ := or_f (not_t hg8)
        exact SCall.strip 25 rfl (hg8) (scall (c_impl_areThrows (is_mk (rfl : p_impl_areThrows x2 = _))) rfl Try.func89 rfl rfl rfl rfl (fun σ => ⟨ad_ren rfl, trivial⟩))) rfl ?_
  refine ao_readG (x := .bool (!(p_impl_areThrows x2))) rfl (GV.F rfl) (fun hg11 => by
        obtain ⟨q12, q13⟩ := or_f (not_t hg11)
        exact Reads.strip 26 rfl (hg11) (r_not rfl)) rfl ?_
  refine ao_read trivial (r_orB rfl rfl) rfl ?_
  refine ao_nil ?_
  refine aq_then ?_
  refine aw_cond rfl (fun hb14 => ?_) (fun hb14 => ?_)
  · replace h := is_if hb14 h
    refine aw_seq ?_
    refine aw_region ?_
    refine ao_read trivial (r_assign rfl) rfl ?_
    refine ao_read trivial (r_assign rfl) rfl ?_
    refine ao_read trivial (r_assign rfl) rfl ?_
    refine ao_nil ?_
    refine aq_then ?_
    refine aw_ret ?_
    refine aq_then_ret ?_
    refine aqm_ret (RB.refl _ _ hΓ) ?_
    obtain rfl := is_some h
    refine AQ.sub (sub_nil (T := 6) (t := (.int .i64)) 2 rfl rfl rfl) ?_
    exact aq_finx (l := [.tmp 6, .tmp 7, .tmp 8]) (xs := [.os 2, .int .i64 0, .bool false]) (rn [(0, 2)]) [.os 0, .int .i64 0, .bool false] [(0, .row (.int .i64) ([] : (List Int)))] rfl (by exact ⟨rfl, rfl, rfl, trivial⟩) (by exact ⟨ad_ren rfl, ad_ren rfl, ad_ren rfl, trivial⟩) (by exact ⟨⟨_, rfl, rfl⟩, trivial⟩) rfl (nk rfl) rfl rfl ⟨rfl, rfl⟩
  · obtain ⟨q15, q16⟩ := or_f hb14
    obtain ⟨q17, q18⟩ := or_f q15
    replace h := is_else (ne_t hb14) h
    refine aw_skip ?_
    refine aq_then ?_
    refine aw_seq ?_
    refine aw_region ?_
    refine ao_eff trivial (e_alloc 3 (y := .nilsl) Try.zeroValue24 (fun ρ h M => rfl) rfl rfl rfl rfl rfl) rfl ?_
    refine ao_nil ?_
    refine aq_then ?_
    refine aw_seq ?_
    refine aw_region ?_
    refine ao_eff trivial (e_alloc 4 (y := .int .i64 0) Try.zeroValue3 (fun ρ h M => rfl) rfl rfl rfl rfl rfl) rfl ?_
    refine ao_effS trivial (e_store rfl rfl rfl rfl Try.sizeOf3 rfl) ?_
    refine ao_nil ?_
    refine aq_then ?_
    refine aw_seq ?_
    refine aw_seq ?_
    refine aw_region ?_
    refine ao_read trivial (r_move rfl) rfl ?_
    refine ao_read trivial (r_load_cell Try.isAgg3 rfl rfl rfl) rfl ?_
    obtain ⟨r19, r19h, h⟩ := is_bind h
    refine ao_callV [] 5 trivial (c_slices_Chunk_int_int (is_mk r19h)) Try.func106 rfl rfl rfl rfl rfl trivial trivial rfl rfl rfl rfl rfl rfl rfl (fun r' H' hr => ?_)
    obtain ⟨rfl, rfl⟩ := hr
    refine ao_norm (y := .fn 166 [.ref 5 0, .ref 6 0]) (H' := [(4, .var [.cell (.int .i64 0)]), (3, .var [.cell (.nilsl)]), (1, .var [.cell (.int .i64 x1)]), (0, .var [.cell (.int .i64 x0)]), (5, .var [.cell (.v (.slice (.int .i64)) r19.1)]), (6, .var [.cell (.int .i64 r19.2)])]) rfl rfl ?_
    refine ao_nil ?_
    refine aq_then ?_
    refine aw_block ?_
    refine AW.sub (fr' := [(3, .ref 0 0), (4, .ref 1 0), (9, .ref 2 0), (10, .ref 3 0), (31, .fn 166 [.ref 4 0, .ref 5 0])]) (H' := [(0, .var [.cell (.int .i64 x0)]), (1, .var [.cell (.int .i64 x1)]), (2, .var [.cell (.nilsl)]), (3, .var [.cell (.int .i64 0)]), (4, .var [.cell (.v (.slice (.int .i64)) r19.1)]), (5, .var [.cell (.int .i64 r19.2)])]) (sub_mk (rn [(2, 3), (3, 4), (4, 5), (5, 6)]) (by exact ⟨⟨_, rfl, ad_ren rfl⟩, ⟨_, rfl, ad_ren rfl⟩, ⟨_, rfl, ad_ren rfl⟩, ⟨_, rfl, ad_ren rfl⟩, ⟨_, rfl, ad_ren rfl⟩, trivial⟩) (by exact ⟨⟨_, rfl, ⟨ad_ren rfl, rfl, trivial⟩⟩, ⟨_, rfl, ⟨ad_ren rfl, rfl, trivial⟩⟩, ⟨_, rfl, ⟨ad_ren rfl, rfl, trivial⟩⟩, ⟨_, rfl, ⟨ad_ren rfl, rfl, trivial⟩⟩, ⟨_, rfl, ⟨ad_ren rfl, rfl, trivial⟩⟩, ⟨_, rfl, ⟨ad_ren rfl, rfl, trivial⟩⟩, trivial⟩) (by rfl) (nk rfl)) ?_
    refine aw_rangeFunc ⟨31, 6⟩ hΓ rfl Try.func166 rfl rfl rfl rfl rfl rfl rfl (fun E Γi _ hE hR hd => ?_)
    refine aw_seq ?_
    refine aw_region ?_
    refine ao_read trivial (r_assign rfl) rfl ?_
    refine ao_nil ?_
    refine aq_then ?_
    refine aw_block ?_
    refine AW.sub (sub_nil_cell (t := (.int .i64)) (i := 2) 9 [] [] rfl rfl rfl) ?_
    refine aw_loop (AL.sub (sub_mk (rn [(6, 9)]) (by exact ⟨⟨_, rfl, ad_ren rfl⟩, ⟨_, rfl, ad_ren rfl⟩, ⟨_, rfl, ad_ren rfl⟩, ⟨_, rfl, ad_ren rfl⟩, trivial⟩) (by exact ⟨⟨_, rfl, ⟨ad_ren rfl, rfl, trivial⟩⟩, ⟨_, rfl, ⟨ad_ren rfl, rfl, trivial⟩⟩, ⟨_, rfl, ⟨ad_ren rfl, rfl, trivial⟩⟩, ⟨_, rfl, ⟨ad_ren rfl, rfl, trivial⟩⟩, ⟨_, rfl, ⟨ad_ren rfl, rfl, trivial⟩⟩, ⟨_, rfl, ⟨ad_ren rfl, rfl, trivial⟩⟩, ⟨_, rfl, rfl⟩, trivial⟩) (by rfl) (nkL rfl)) (al_whl (fun (s20 : Int × Int × (List Int)) => [(0, .yl E.l), (1, .ref 4 0), (2, .ref 5 0), (4, .int .i64 s20.1)]) (fun (s20 : Int × Int × (List Int)) => [(0, .var [.cell (.int .i64 x0)]), (1, .var [.cell (.int .i64 x1)]), (2, .var [.cell (.os 6)]), (3, .var [.cell (.int .i64 s20.2.1)]), (4, .var [.cell (.v (.slice (.int .i64)) r19.1)]), (5, .var [.cell (.int .i64 r19.2)]), (6, .row (.int .i64) s20.2.2)]) (fun (s20 : Int × Int × (List Int)) => True) h trivial (fun d22 s20 hI h ih22 => ?_)))
    replace h := is_whlS h
    refine al_round ?_
    refine aw_seq ?_
    refine aw_seq ?_
    refine aw_region ?_
    refine ao_read trivial (r_move rfl) rfl ?_
    refine ao_read trivial (r_load_cell Try.isAgg24 rfl rfl rfl) rfl ?_
    refine ao_read trivial (r_len_vm (r19.1.length : Int) Try.underlying24 rfl rfl) rfl ?_
    refine ao_read trivial (r_lss rfl rfl) rfl ?_
    refine ao_nil ?_
    refine aq_then ?_
    refine aw_cond rfl (fun hb24 => ?_) (fun hb24 => ?_)
    · have q25 := d_t hb24
      replace h := is_if (d_t hb24) h
      refine aw_skip ?_
      refine aq_then ?_
      refine aw_seq ?_
      refine aw_block ?_
      refine aw_seq ?_
      obtain ⟨g27, h⟩ := is_guard h
      refine aw_draw 5 (by kernel_rfl) (by kernel_rfl) ?_
      refine an_read 0 (by kernel_rfl) (fun _ _ _ h => h) rfl (by kernel_rfl) trivial (r_load_cell Try.isAgg3 rfl rfl rfl) rfl ?_
      refine an_read 1 (by kernel_rfl) (fun _ _ _ h => h) rfl (by kernel_rfl) trivial (r_load_cell Try.isAgg24 rfl rfl rfl) rfl ?_
      refine an_read 2 (by kernel_rfl) (fun _ _ _ h => h) rfl (by kernel_rfl) trivial (r_move rfl) rfl ?_
      refine an_read 3 (by kernel_rfl) (fun _ _ _ h => h) rfl (by kernel_rfl) trivial (r_slice_vm (t := (.int .i64)) ((r19.1.drop s20.1.toNat) : (List Int)) Try.underlying24 Try.sizeOf3 rfl (.some rfl) .none (show 0 ≤ s20.1 from by omega) (show s20.1 ≤ (r19.1.length : Int) from by omega) (show (r19.1.length : Int) ≤ (r19.1.length : Int) from by omega) sl_hi) rfl ?_
      refine an_read 4 (by kernel_rfl) (fun _ _ _ h => h) rfl (by kernel_rfl) trivial (r_len_vm ((r19.1.length : Int) - s20.1) Try.underlying24 rfl (show ((r19.1.drop s20.1.toNat).length : Int) = ((r19.1.length : Int) - s20.1) from by (try simp only [List.length_drop]) <;> omega)) rfl ?_
      refine an_tail rfl rfl ?_
      refine ao_read trivial (r_min rfl rfl) rfl ?_
      refine ao_read trivial (r_assign rfl) rfl ?_
      refine ao_nil ?_
      refine aq_then ?_
      refine aw_seq ?_
      refine aw_regionI ?_
      refine aoi_op rfl (fun _ _ h => h) ?_
      refine ao_read trivial (r_move rfl) rfl ?_
      refine ao_nil (aoi_in ?_)
      refine aoi_op rfl (fun _ _ h => h) ?_
      refine ao_read trivial (r_load_cell Try.isAgg24 rfl rfl rfl) rfl ?_
      refine ao_nil (aoi_in ?_)
      refine aoi_op rfl (fun _ _ h => h) ?_
      refine ao_read trivial (r_move rfl) rfl ?_
      refine ao_nil (aoi_in ?_)
      refine aoi_op rfl (fun _ _ h => h) ?_
      refine ao_read trivial (r_move rfl) rfl ?_
      refine ao_nil (aoi_in ?_)
      refine aoi_op rfl (fun _ _ h => h) ?_
      refine ao_read trivial (r_move rfl) rfl ?_
      refine ao_nil (aoi_in ?_)
      refine aoi_op rfl (fun _ _ h => h) ?_
      refine ao_read trivial (r_add rfl rfl) rfl ?_
      refine ao_nil (aoi_in ?_)
      refine aoi_op rfl (fun _ _ h => h) ?_
      refine ao_read trivial (r_move rfl) rfl ?_
      refine ao_nil (aoi_in ?_)
      refine aoi_op rfl (fun _ _ h => h) ?_
      refine ao_read trivial (r_move rfl) rfl ?_
      refine ao_nil (aoi_in ?_)
      refine aoi_op rfl (fun _ _ h => h) ?_
      refine ao_read trivial (r_add rfl rfl) rfl ?_
      refine ao_nil (aoi_in ?_)
      refine aoi_op rfl (fun _ _ h => h) ?_
      obtain ⟨g28, h⟩ := is_guard h
      obtain ⟨g29, h⟩ := is_guard h
      refine ao_read trivial (r_slice_v3m (t := (.int .i64)) (((r19.1.take (IntKind.wrap .i64 (s20.1 + (if ((r19.1.length : Int) - s20.1) < r19.2 then ((r19.1.length : Int) - s20.1) else r19.2))).toNat).drop s20.1.toNat) : (List Int)) Try.underlying24 Try.sizeOf3 rfl (.some rfl) rfl rfl (show 0 ≤ s20.1 from by omega) (show s20.1 ≤ (IntKind.wrap .i64 (s20.1 + (if ((r19.1.length : Int) - s20.1) < r19.2 then ((r19.1.length : Int) - s20.1) else r19.2))) from by omega) (show (IntKind.wrap .i64 (s20.1 + (if ((r19.1.length : Int) - s20.1) < r19.2 then ((r19.1.length : Int) - s20.1) else r19.2))) ≤ (r19.1.length : Int) from by omega) rfl) rfl ?_
      refine ao_nil (aoi_in ?_)
      refine aoi_yield hE hR hd hE.K.symm (hE.fl rfl) rfl rfl rfl (fun ai Γa _ hw => ?_)
      refine awi_region rfl (fun _ _ h => h) ?_
      refine ao_read trivial (r_assign rfl) rfl ?_
      refine ao_nil ?_
      refine aq_begin hw hE.ready hR.at_l (Nat.le_of_eq hE.K.symm) (hE.fl rfl) hE.K.symm (fun Γb _ hwb => ?_)
      refine awi_block ?_
      refine awi_seq ?_
      refine awi_seq ?_
      refine awi_region rfl (fun _ _ h => h) ?_
      refine ao_read trivial (r_move rfl) rfl ?_
      refine ao_read trivial (r_len_vm ((IntKind.wrap .i64 (s20.1 + (if ((r19.1.length : Int) - s20.1) < r19.2 then ((r19.1.length : Int) - s20.1) else r19.2))) - s20.1) Try.underlying24 rfl (show (((r19.1.take (IntKind.wrap .i64 (s20.1 + (if ((r19.1.length : Int) - s20.1) < r19.2 then ((r19.1.length : Int) - s20.1) else r19.2))).toNat).drop s20.1.toNat).length : Int) = ((IntKind.wrap .i64 (s20.1 + (if ((r19.1.length : Int) - s20.1) < r19.2 then ((r19.1.length : Int) - s20.1) else r19.2))) - s20.1) from by (try simp only [List.length_take, List.length_drop]) <;> omega)) rfl ?_
      refine ao_read trivial (r_load_cell Try.isAgg3 rfl rfl rfl) rfl ?_
      refine ao_read trivial (r_lss rfl rfl) rfl ?_
      refine ao_nil ?_
      refine aqi_then ?_
      refine awi_cond rfl (fun hb30 => ?_) (fun hb30 => ?_)
      · have q31 := d_t hb30
        replace h := is_if (d_t hb30) h
        refine awi_exit ?_
        refine aq_then_exit ?_
        refine aq_in_other rfl ?_
        refine aq_stop_exit hE hR hwb rfl hE.K.symm hE.K.symm (hE.fl rfl) rfl hd (fun Γs _ hds hRs => ?_)
        refine aoi_op rfl (fun _ _ h => h) ?_
        refine ao_read trivial (r_not rfl) rfl ?_
        refine ao_nil (aoi_in ?_)
        refine aoi_nil ?_
        refine aq_then ?_
        refine aw_cond rfl (fun _ => ?_) (fun hb => absurd hb (by decide))
        refine aw_ret ?_
        refine aq_in_ret ?_
        refine aq_then_ret ?_
        refine aq_then_ret ?_
        refine aq_in_ret ?_
        refine aq_stopped hE hRs hΓ hds rfl (fun Γ2 _ hB => ?_)
        refine aw_exit ?_
        refine aq_in_exit ?_
        refine aq_then ?_
        refine aw_seq ?_
        refine aw_drawAll (by kernel_rfl) ?_
        refine an_read 0 (by kernel_rfl) (fun _ _ _ h => h) rfl (by kernel_rfl) trivial (r_load_cell Try.isAgg24 rfl rfl rfl) rfl ?_
        refine an_read 1 (by kernel_rfl) (fun _ _ _ h => h) rfl (by kernel_rfl) trivial (r_load_cell Try.isAgg3 rfl rfl rfl) rfl ?_
        refine an_read 2 (by kernel_rfl) (fun _ _ _ h => h) rfl (by kernel_rfl) trivial (r_assign rfl) rfl ?_
        refine an_read 3 (by kernel_rfl) (fun _ _ _ h => h) rfl (by kernel_rfl) trivial (r_assign rfl) rfl ?_
        refine an_read 4 (by kernel_rfl) (fun _ _ _ h => h) rfl (by kernel_rfl) trivial (r_assign rfl) rfl ?_
        refine an_done rfl ?_
        refine aq_then ?_
        refine aw_ret ?_
        refine aqm_ret hB ?_
        obtain rfl := is_some h
        exact aq_finx (l := [.tmp 6, .tmp 7, .tmp 8]) (xs := [.os 6, .int .i64 s20.2.1, .bool true]) (rn [(0, 6)]) [.os 0, .int .i64 s20.2.1, .bool true] [(0, .row (.int .i64) s20.2.2)] rfl (by exact ⟨rfl, rfl, rfl, trivial⟩) (by exact ⟨ad_ren rfl, ad_ren rfl, ad_ren rfl, trivial⟩) (by exact ⟨⟨_, rfl, rfl⟩, trivial⟩) rfl (nk rfl) rfl rfl ⟨rfl, rfl⟩
      · have q32 := d_f hb30
        replace h := is_else (d_f hb30) h
        refine awi_skip ?_
        refine aqi_then ?_
        refine awi_seq ?_
        refine awi_region rfl (fun _ _ h => h) ?_
        refine ao_read trivial (r_load_cell Try.isAgg3 rfl rfl rfl) rfl ?_
        refine ao_read trivial (r_move rfl) rfl ?_
        obtain ⟨r33, r33h, h⟩ := is_bind h
        refine ao_scall trivial (scall (c_impl_MakeNumber (is_mk r33h)) rfl Try.func9 rfl rfl rfl rfl (fun σ => ⟨ad_ren rfl, ad_ren rfl, trivial⟩)) rfl ?_
        refine ao_read trivial (r_move rfl) rfl ?_
        refine ao_read trivial (r_extract rfl rfl) rfl ?_
        refine ao_read trivial (r_extract rfl rfl) rfl ?_
        refine ao_read trivial (r_extract rfl rfl) rfl ?_
        refine ao_read trivial (r_assign rfl) rfl ?_
        refine ao_read trivial (r_assign rfl) rfl ?_
        refine ao_read trivial (r_assign rfl) rfl ?_
        refine ao_nil ?_
        refine aqi_then ?_
        refine awi_seq ?_
        refine awi_region rfl (fun _ _ h => h) ?_
        refine ao_read trivial (r_move rfl) rfl ?_
        refine ao_nil ?_
        refine aqi_then ?_
        refine awi_cond rfl (fun hb34 => ?_) (fun hb34 => ?_)
        · replace h := is_if hb34 h
          refine awi_region rfl (fun _ _ h => h) ?_
          refine ao_read trivial (r_load_cell Try.isAgg24 rfl rfl rfl) rfl ?_
          refine ao_read trivial (r_move rfl) rfl ?_
          refine ao_eff trivial (e_buildSlice (l := [(0, .tmp 46)]) (t := (.int .i64)) 7 ([r33.1] : (List Int)) rfl Try.underlying24 Try.zeroValue3 Try.sizeOf3 rfl rfl rfl rfl rfl rfl rfl) rfl ?_
          obtain ⟨g35, h⟩ := is_guard h
          refine ao_eff trivial (e_append (t := (.int .i64)) 8 rfl Try.underlying24 (rfl : Try.prog.info? 3 = some _) rfl rfl rfl rfl rfl rfl rfl (src_os rfl) (show s20.2.2.length + [r33.1].length ≤ 1000000000 from by (try simp only [List.length_cons, List.length_nil]) <;> omega) rfl rfl) rfl ?_
          refine ao_effS trivial (e_store rfl rfl rfl rfl Try.sizeOf24 rfl) ?_
          refine ao_nil ?_
          refine aq_in ?_
          refine aq_next hE hwb rfl hR.at_l hE.K.symm rfl ?_
          refine aoi_op rfl (fun _ _ h => h) ?_
          refine ao_read trivial (r_not rfl) rfl ?_
          refine ao_nil (aoi_in ?_)
          refine aoi_nil ?_
          refine aq_then ?_
          refine aw_cond rfl (fun hb => absurd hb (by decide)) (fun _ => ?_)
          refine aw_skip ?_
          refine aq_in ?_
          refine aq_then ?_
          refine aw_region ?_
          refine ao_read trivial (r_move rfl) rfl ?_
          refine ao_read trivial (r_load_cell Try.isAgg3 rfl rfl rfl) rfl ?_
          refine ao_read trivial (r_add rfl rfl) rfl ?_
          refine ao_read trivial (r_assign rfl) rfl ?_
          refine ao_nil ?_
          exact aq_again (AL.sub (sub_mk (rn [(6, 8)]) (by exact ⟨⟨_, rfl, ad_ren rfl⟩, ⟨_, rfl, ad_ren rfl⟩, ⟨_, rfl, ad_ren rfl⟩, ⟨_, rfl, ad_ren rfl⟩, trivial⟩) (by exact ⟨⟨_, rfl, ⟨ad_ren rfl, rfl, trivial⟩⟩, ⟨_, rfl, ⟨ad_ren rfl, rfl, trivial⟩⟩, ⟨_, rfl, ⟨ad_ren rfl, rfl, trivial⟩⟩, ⟨_, rfl, ⟨ad_ren rfl, rfl, trivial⟩⟩, ⟨_, rfl, ⟨ad_ren rfl, rfl, trivial⟩⟩, ⟨_, rfl, ⟨ad_ren rfl, rfl, trivial⟩⟩, ⟨_, rfl, rfl⟩, trivial⟩) (by rfl) (nkL rfl)) (ih22 ((IntKind.wrap .i64 (s20.1 + r19.2)), s20.2.1, (s20.2.2 ++ [r33.1])) trivial h))
        · replace h := is_else (ne_t hb34) h
          refine awi_region rfl (fun _ _ h => h) ?_
          refine ao_read trivial (r_load_cell Try.isAgg3 rfl rfl rfl) rfl ?_
          refine ao_read trivial (r_add rfl rfl) rfl ?_
          refine ao_effS trivial (e_store rfl rfl rfl rfl Try.sizeOf3 rfl) ?_
          refine ao_nil ?_
          refine aq_in ?_
          refine aq_next hE hwb rfl hR.at_l hE.K.symm rfl ?_
          refine aoi_op rfl (fun _ _ h => h) ?_
          refine ao_read trivial (r_not rfl) rfl ?_
          refine ao_nil (aoi_in ?_)
          refine aoi_nil ?_
          refine aq_then ?_
          refine aw_cond rfl (fun hb => absurd hb (by decide)) (fun _ => ?_)
          refine aw_skip ?_
          refine aq_in ?_
          refine aq_then ?_
          refine aw_region ?_
          refine ao_read trivial (r_move rfl) rfl ?_
          refine ao_read trivial (r_load_cell Try.isAgg3 rfl rfl rfl) rfl ?_
          refine ao_read trivial (r_add rfl rfl) rfl ?_
          refine ao_read trivial (r_assign rfl) rfl ?_
          refine ao_nil ?_
          exact aq_again (AL.sub (sub_mk idn (by exact ⟨⟨_, rfl, ad_ren rfl⟩, ⟨_, rfl, ad_ren rfl⟩, ⟨_, rfl, ad_ren rfl⟩, ⟨_, rfl, ad_ren rfl⟩, trivial⟩) (by exact ⟨⟨_, rfl, ⟨ad_ren rfl, rfl, trivial⟩⟩, ⟨_, rfl, ⟨ad_ren rfl, rfl, trivial⟩⟩, ⟨_, rfl, ⟨ad_ren rfl, rfl, trivial⟩⟩, ⟨_, rfl, ⟨ad_ren rfl, rfl, trivial⟩⟩, ⟨_, rfl, ⟨ad_ren rfl, rfl, trivial⟩⟩, ⟨_, rfl, ⟨ad_ren rfl, rfl, trivial⟩⟩, ⟨_, rfl, rfl⟩, trivial⟩) (by rfl) (nkL rfl)) (ih22 ((IntKind.wrap .i64 (s20.1 + r19.2)), (IntKind.wrap .i64 (s20.2.1 + 1)), s20.2.2) trivial h))
    · have q26 := d_f hb24
      replace h := is_else (d_f hb24) h
      refine aw_exit ?_
      refine aq_then_exit ?_
      refine aq_then_exit ?_
      refine aq_in_exit ?_
      refine aq_iter_end ?_
      refine aq_done hE hR hΓ hd rfl (fun Γ2 _ hB => ?_)
      refine aq_in ?_
      refine aq_then ?_
      refine aw_seq ?_
      refine aw_drawAll (by kernel_rfl) ?_
      refine an_read 0 (by kernel_rfl) (fun _ _ _ h => h) rfl (by kernel_rfl) trivial (r_load_cell Try.isAgg24 rfl rfl rfl) rfl ?_
      refine an_read 1 (by kernel_rfl) (fun _ _ _ h => h) rfl (by kernel_rfl) trivial (r_load_cell Try.isAgg3 rfl rfl rfl) rfl ?_
      refine an_read 2 (by kernel_rfl) (fun _ _ _ h => h) rfl (by kernel_rfl) trivial (r_assign rfl) rfl ?_
      refine an_read 3 (by kernel_rfl) (fun _ _ _ h => h) rfl (by kernel_rfl) trivial (r_assign rfl) rfl ?_
      refine an_read 4 (by kernel_rfl) (fun _ _ _ h => h) rfl (by kernel_rfl) trivial (r_assign rfl) rfl ?_
      refine an_done rfl ?_
      refine aq_then ?_
      refine aw_ret ?_
      refine aqm_ret hB ?_
      obtain rfl := is_some h
      exact aq_finx (l := [.tmp 6, .tmp 7, .tmp 8]) (xs := [.os 6, .int .i64 s20.2.1, .bool true]) (rn [(0, 6)]) [.os 0, .int .i64 s20.2.1, .bool true] [(0, .row (.int .i64) s20.2.2)] rfl (by exact ⟨rfl, rfl, rfl, trivial⟩) (by exact ⟨ad_ren rfl, ad_ren rfl, ad_ren rfl, trivial⟩) (by exact ⟨⟨_, rfl, rfl⟩, trivial⟩) rfl (nk rfl) rfl rfl ⟨rfl, rfl⟩
theorem c_spec_MakeList {fu : Nat} {x0 : Int} {x1 : Int} {x2 : (List Int)} {r : (List Int) × Int × Bool} (h : Is (p_spec_MakeList fu x0 x1 x2) (some r)) :
    ACalls Try.prog 24 [.int .i64 x0, .int .i64 x1, .v (.slice (.int .i64)) x2] [] (fun r' H' => r' = .tup [.os 0, .int .i64 r.2.1, .bool r.2.2] ∧ H' = [(0, .row (.int .i64) r.1)]) := by
  unfold p_spec_MakeList at h
  refine ac_enter ⟨55, 0⟩ Try.func24 rfl rfl rfl rfl rfl (fun Γ => ?_)
  refine sl_len_m 2 (x2.length : Int) rfl rfl (fun hl2 => ?_)
  refine aw_seq ?_
  refine aw_region ?_
  refine ao_read trivial (r_assign rfl) rfl ?_
  refine ao_read trivial (r_assign rfl) rfl ?_
  refine ao_read trivial (r_assign rfl) rfl ?_
  refine ao_nil ?_
  refine aq_then ?_
  refine aw_seq ?_
  refine aw_region ?_
  refine ao_eff trivial (e_buildSlice (l := []) (t := (.int .i64)) 0 ([] : (List Int)) rfl Try.underlying24 Try.zeroValue3 Try.sizeOf3 rfl rfl rfl rfl rfl rfl rfl) rfl ?_
  refine ao_read trivial (r_assign rfl) rfl ?_
  refine ao_read trivial (r_assign rfl) rfl ?_
  refine ao_nil ?_
  refine aq_then ?_
  refine aw_seq ?_
  refine aw_seq ?_
  refine aw_region ?_
  refine ao_read trivial (r_move rfl) rfl ?_
  refine ao_read trivial (r_move rfl) rfl ?_
  obtain ⟨r1, r1h, h⟩ := is_bind h
  refine ao_scall trivial (scall (c_spec_l9Good (is_mk r1h)) rfl Try.func93 rfl rfl rfl rfl (fun σ => ⟨ad_ren rfl, ad_ren rfl, trivial⟩)) rfl ?_
  refine ao_read trivial (r_not rfl) rfl ?_
  refine ao_read trivial (r_move rfl) rfl ?_
  refine ao_readG (x := .v (.slice (.int .i64)) x2) rfl (GV.F rfl) (fun hg2 => r_move rfl) rfl ?_
  refine ao_scallG (r := .bool (p_spec_l9Throws x2 40)) rfl (GV.F rfl) (fun hg3 => SCall.strip 19 rfl (hg3) (scall (c_spec_l9Throws (is_mk (rfl : p_spec_l9Throws x2 40 = _))) rfl Try.func92 rfl rfl rfl rfl (fun σ => ⟨ad_ren rfl, ad_ren rfl, trivial⟩))) rfl ?_
  refine ao_readG (x := .bool (!(p_spec_l9Throws x2 40))) rfl (GV.F rfl) (fun hg4 => Reads.strip 20 rfl (hg4) (r_not rfl)) rfl ?_
  refine ao_read trivial (r_orB rfl rfl) rfl ?_
  refine ao_nil ?_
  refine aq_then ?_
  refine aw_cond rfl (fun hb5 => ?_) (fun hb5 => ?_)
  · replace h := is_if hb5 h
    refine aw_seq ?_
    refine aw_region ?_
    refine ao_read trivial (r_move rfl) rfl ?_
    refine ao_read trivial (r_assign rfl) rfl ?_
    refine ao_read trivial (r_assign rfl) rfl ?_
    refine ao_read trivial (r_assign rfl) rfl ?_
    refine ao_nil ?_
    refine aq_then ?_
    refine aw_ret ?_
    refine aq_then_ret ?_
    refine aq_ret ?_
    obtain rfl := is_some h
    exact aq_finx (l := [.tmp 6, .tmp 7, .tmp 8]) (xs := [.os 0, .int .i64 0, .bool false]) idn [.os 0, .int .i64 0, .bool false] [(0, .row (.int .i64) ([] : (List Int)))] rfl (by exact ⟨rfl, rfl, rfl, trivial⟩) (by exact ⟨ad_ren rfl, ad_ren rfl, ad_ren rfl, trivial⟩) (by exact ⟨⟨_, rfl, rfl⟩, trivial⟩) rfl (nk rfl) rfl rfl ⟨rfl, rfl⟩
  · obtain ⟨q6, q7⟩ := or_f hb5
    replace h := is_else (ne_t hb5) h
    refine aw_skip ?_
    refine aq_then ?_
    refine aw_seq ?_
    refine aw_seq ?_
    refine aw_region ?_
    refine ao_read trivial (r_assign rfl) rfl ?_
    refine ao_nil ?_
    refine aq_then ?_
    refine aw_block ?_
    refine aw_loop (AL.sub (sub_mk idn (by exact ⟨⟨_, rfl, ad_ren rfl⟩, ⟨_, rfl, ad_ren rfl⟩, ⟨_, rfl, ad_ren rfl⟩, ⟨_, rfl, ad_ren rfl⟩, ⟨_, rfl, ad_ren rfl⟩, ⟨_, rfl, ad_ren rfl⟩, trivial⟩) (by exact ⟨⟨_, rfl, rfl⟩, trivial⟩) (by rfl) (nk rfl)) (al_whl (fun (s8 : Int × Int × (List Int)) => [(0, .int .i64 x0), (1, .int .i64 x1), (2, .v (.slice (.int .i64)) x2), (9, .os 0), (10, .int .i64 s8.1), (11, .int .i64 s8.2.1)]) (fun (s8 : Int × Int × (List Int)) => [(0, .row (.int .i64) s8.2.2)]) (fun (s8 : Int × Int × (List Int)) => 0 ≤ s8.2.1) h (by (try simp only [List.length_set, List.length_append, List.length_cons, List.length_nil, List.length_replicate, List.length_take, List.length_drop]) <;> omega) (fun d10 s8 hI h ih10 => ?_)))
    replace h := is_whlS h
    refine al_round ?_
    refine aw_seq ?_
    refine aw_seq ?_
    refine aw_region ?_
    refine ao_read trivial (r_move rfl) rfl ?_
    refine ao_read trivial (r_move rfl) rfl ?_
    refine ao_read trivial (r_add rfl rfl) rfl ?_
    refine ao_read trivial (r_move rfl) rfl ?_
    refine ao_read trivial (r_len_vm (x2.length : Int) Try.underlying24 rfl rfl) rfl ?_
    refine ao_read trivial (r_leq rfl rfl) rfl ?_
    refine ao_nil ?_
    refine aq_then ?_
    refine aw_cond rfl (fun hb12 => ?_) (fun hb12 => ?_)
    · have q13 := d_t hb12
      replace h := is_if (d_t hb12) h
      refine aw_skip ?_
      refine aq_then ?_
      refine aw_seq ?_
      refine aw_block ?_
      refine aw_seq ?_
      refine aw_region ?_
      refine ao_read trivial (r_move rfl) rfl ?_
      refine ao_read trivial (r_move rfl) rfl ?_
      refine ao_read trivial (r_move rfl) rfl ?_
      refine ao_read trivial (r_move rfl) rfl ?_
      refine ao_read trivial (r_add rfl rfl) rfl ?_
      obtain ⟨g15, h⟩ := is_guard h
      refine ao_read trivial (r_slice_vm (t := (.int .i64)) (((x2.take (IntKind.wrap .i64 (s8.2.1 + x1)).toNat).drop s8.2.1.toNat) : (List Int)) Try.underlying24 Try.sizeOf3 rfl (.some rfl) (.some rfl) (show 0 ≤ s8.2.1 from by omega) (show s8.2.1 ≤ (IntKind.wrap .i64 (s8.2.1 + x1)) from by omega) (show (IntKind.wrap .i64 (s8.2.1 + x1)) ≤ (x2.length : Int) from by omega) rfl) rfl ?_
      refine ao_scall trivial (scall (c_spec_l9Number (is_mk (rfl : p_spec_l9Number ((x2.take (IntKind.wrap .i64 (s8.2.1 + x1)).toNat).drop s8.2.1.toNat) = _))) rfl Try.func94 rfl rfl rfl rfl (fun σ => ⟨ad_ren rfl, trivial⟩)) rfl ?_
      refine ao_read trivial (r_assign rfl) rfl ?_
      refine ao_nil ?_
      refine aq_then ?_
      refine aw_seq ?_
      refine aw_region ?_
      refine ao_read trivial (r_move rfl) rfl ?_
      refine ao_read trivial (r_move rfl) rfl ?_
      refine ao_read trivial (r_move rfl) rfl ?_
      obtain ⟨r16, r16h, h⟩ := is_bind h
      refine ao_scall trivial (scall (c_spec_l9Taken (is_mk r16h)) rfl Try.func95 rfl rfl rfl rfl (fun σ => ⟨ad_ren rfl, ad_ren rfl, trivial⟩)) rfl ?_
      refine ao_read trivial (r_lss rfl rfl) rfl ?_
      refine ao_nil ?_
      refine aq_then ?_
      refine aw_cond rfl (fun hb17 => ?_) (fun hb17 => ?_)
      · have q18 := d_t hb17
        replace h := is_if (d_t hb17) h
        refine aw_region ?_
        refine ao_read trivial (r_move rfl) rfl ?_
        refine ao_read trivial (r_move rfl) rfl ?_
        refine ao_read trivial (r_move rfl) rfl ?_
        obtain ⟨g20, h⟩ := is_guard h
        refine ao_read trivial (r_rem rfl rfl g20) rfl ?_
        refine ao_eff trivial (e_buildSlice (l := [(0, .tmp 48)]) (t := (.int .i64)) 1 ([((p_spec_l9Number ((x2.take (IntKind.wrap .i64 (s8.2.1 + x1)).toNat).drop s8.2.1.toNat)).tmod x0)] : (List Int)) rfl Try.underlying24 Try.zeroValue3 Try.sizeOf3 rfl rfl rfl rfl rfl rfl rfl) rfl ?_
        obtain ⟨g21, h⟩ := is_guard h
        refine ao_eff trivial (e_append (t := (.int .i64)) 2 rfl Try.underlying24 (rfl : Try.prog.info? 3 = some _) rfl rfl rfl rfl rfl rfl rfl (src_os rfl) (show s8.2.2.length + [((p_spec_l9Number ((x2.take (IntKind.wrap .i64 (s8.2.1 + x1)).toNat).drop s8.2.1.toNat)).tmod x0)].length ≤ 1000000000 from by (try simp only [List.length_cons, List.length_nil, List.length_take, List.length_drop]) <;> omega) rfl rfl) rfl ?_
        refine ao_read trivial (r_assign rfl) rfl ?_
        refine ao_nil ?_
        refine aq_in ?_
        refine aq_then ?_
        refine aw_region ?_
        refine ao_read trivial (r_move rfl) rfl ?_
        refine ao_read trivial (r_move rfl) rfl ?_
        refine ao_read trivial (r_add rfl rfl) rfl ?_
        refine ao_read trivial (r_assign rfl) rfl ?_
        refine ao_nil ?_
        exact aq_again (AL.sub (sub_mk (rn [(0, 2)]) (by exact ⟨⟨_, rfl, ad_ren rfl⟩, ⟨_, rfl, ad_ren rfl⟩, ⟨_, rfl, ad_ren rfl⟩, ⟨_, rfl, ad_ren rfl⟩, ⟨_, rfl, ad_ren rfl⟩, ⟨_, rfl, ad_ren rfl⟩, trivial⟩) (by exact ⟨⟨_, rfl, rfl⟩, trivial⟩) (by rfl) (nk rfl)) (ih10 (s8.1, (IntKind.wrap .i64 (s8.2.1 + x1)), (s8.2.2 ++ [((p_spec_l9Number ((x2.take (IntKind.wrap .i64 (s8.2.1 + x1)).toNat).drop s8.2.1.toNat)).tmod x0)])) (by (try simp only [List.length_set, List.length_append, List.length_cons, List.length_nil, List.length_replicate, List.length_take, List.length_drop]) <;> omega) h))
      · have q19 := d_f hb17
        replace h := is_else (d_f hb17) h
        refine aw_region ?_
        refine ao_read trivial (r_move rfl) rfl ?_
        refine ao_read trivial (r_add rfl rfl) rfl ?_
        refine ao_read trivial (r_assign rfl) rfl ?_
        refine ao_nil ?_
        refine aq_in ?_
        refine aq_then ?_
        refine aw_region ?_
        refine ao_read trivial (r_move rfl) rfl ?_
        refine ao_read trivial (r_move rfl) rfl ?_
        refine ao_read trivial (r_add rfl rfl) rfl ?_
        refine ao_read trivial (r_assign rfl) rfl ?_
        refine ao_nil ?_
        exact aq_again (AL.sub (sub_mk idn (by exact ⟨⟨_, rfl, ad_ren rfl⟩, ⟨_, rfl, ad_ren rfl⟩, ⟨_, rfl, ad_ren rfl⟩, ⟨_, rfl, ad_ren rfl⟩, ⟨_, rfl, ad_ren rfl⟩, ⟨_, rfl, ad_ren rfl⟩, trivial⟩) (by exact ⟨⟨_, rfl, rfl⟩, trivial⟩) (by rfl) (nk rfl)) (ih10 ((IntKind.wrap .i64 (s8.1 + 1)), (IntKind.wrap .i64 (s8.2.1 + x1)), s8.2.2) (by (try simp only [List.length_set, List.length_append, List.length_cons, List.length_nil, List.length_replicate, List.length_take, List.length_drop]) <;> omega) h))
    · have q14 := d_f hb12
      replace h := is_else (d_f hb12) h
      refine aw_exit ?_
      refine aq_then_exit ?_
      refine aq_then_exit ?_
      refine aq_in_exit ?_
      refine aq_then ?_
      refine aw_seq ?_
      refine aw_region ?_
      refine ao_read trivial (r_move rfl) rfl ?_
      refine ao_read trivial (r_move rfl) rfl ?_
      refine ao_read trivial (r_assign rfl) rfl ?_
      refine ao_read trivial (r_assign rfl) rfl ?_
      refine ao_read trivial (r_assign rfl) rfl ?_
      refine ao_nil ?_
      refine aq_then ?_
      refine aw_ret ?_
      refine aq_ret ?_
      obtain rfl := is_some h
      exact aq_finx (l := [.tmp 6, .tmp 7, .tmp 8]) (xs := [.os 0, .int .i64 s8.1, .bool true]) idn [.os 0, .int .i64 s8.1, .bool true] [(0, .row (.int .i64) s8.2.2)] rfl (by exact ⟨rfl, rfl, rfl, trivial⟩) (by exact ⟨ad_ren rfl, ad_ren rfl, ad_ren rfl, trivial⟩) (by exact ⟨⟨_, rfl, rfl⟩, trivial⟩) rfl (nk rfl) rfl rfl ⟨rfl, rfl⟩
end Go.GA
