/- Walks: what the Go functions compute, by the printed lines below; no further conditions. -/
import Derived.Test.YtkjiaieabelpmaaC6aw
namespace Go.GA
open Go Go.Proofs
set_option maxRecDepth 100000
set_option maxHeartbeats 2000000
set_option linter.unusedVariables false
set_option linter.unusedSimpArgs false
theorem c_impl_Goal_score {x0 : dy5} {x1 : dy9} {r : Int} (h : Is (p_impl_Goal_score x0 x1) (some r)) :
    Scalar Try.prog 45 [.v ty1 x0, .v ty3 x1] (.int .i64 r) := by
  unfold p_impl_Goal_score at h
  refine ac_enter ⟨37, 0⟩ Try.func45 rfl rfl rfl rfl rfl (fun Γ => ?_)
  refine sl_len_m 1 (x1.length : Int) rfl rfl (fun hl1 => ?_)
  refine aw_seq ?_
  refine aw_region ?_
  refine ao_eff trivial (e_box 0 rfl rfl rfl rfl rfl rfl) rfl ?_
  refine ao_r (r_assign rfl) rfl ?_
  refine ao_nil ?_
  refine aq_then ?_
  refine aw_seq ?_
  refine aw_seq ?_
  refine aw_region ?_
  refine ao_r (r_fieldAddr Try.underlying26 rfl Try.sizeOf3 rfl rfl rfl) rfl ?_
  refine ao_r (r_load_cell Try.isAgg3 rfl rfl rfl) rfl ?_
  refine ao_nil ?_
  refine aq_then ?_
  refine aw_block ?_
  refine aw_seq ?_
  refine aw_region ?_
  refine ao_r (r_eql rfl rfl) rfl ?_
  refine ao_r (r_assign rfl) rfl ?_
  refine ao_nil ?_
  refine aq_then ?_
  refine aw_cond rfl (fun hb1 => ?_) (fun hb1 => ?_)
  have q2 := d_t hb1
  replace h := is_if (d_t hb1) h
  refine aw_seq ?_
  refine aw_drawAll (by kernel_rfl) ?_
  refine an_r 0 (fun _ _ _ h => h) rfl (by kernel_rfl) (r_move rfl) rfl ?_
  refine an_scall 1 (by kernel_rfl) (fun _ _ _ h => h) rfl (by kernel_rfl) trivial (scall (c_impl_total (is_mk (rfl : p_impl_total x1 = _))) rfl Try.func69 rfl rfl rfl rfl (fun σ => ⟨ad_ren rfl, trivial⟩)) rfl ?_
  refine an_r 2 (fun _ _ _ h => h) rfl (by kernel_rfl) (r_fieldAddr Try.underlying26 rfl Try.sizeOf3 rfl rfl rfl) rfl ?_
  refine an_r 3 (fun _ _ _ h => h) rfl (by kernel_rfl) (r_load_cell Try.isAgg3 rfl rfl rfl) rfl ?_
  refine an_r 4 (fun _ _ _ h => h) rfl (by kernel_rfl) (r_geq rfl rfl) rfl ?_
  refine an_scall 5 (by kernel_rfl) (fun _ _ _ h => h) rfl (by kernel_rfl) trivial (scall (c_impl_truth (is_mk (rfl : p_impl_truth (decide (x0.2.1 ≤ (p_impl_total x1))) = _))) rfl Try.func68 rfl rfl rfl rfl (fun σ => ⟨ad_ren rfl, trivial⟩)) rfl ?_
  refine an_r 6 (fun _ _ _ h => h) rfl (by kernel_rfl) (r_assign rfl) rfl ?_
  refine an_done rfl ?_
  refine aq_then ?_
  refine aw_ret ?_
  refine aq_in_ret ?_
  refine aq_then_ret ?_
  refine aq_ret ?_
  obtain rfl := is_some h
  exact aq_finx (l := [.tmp 4]) (xs := [.int .i64 (p_impl_truth (decide (x0.2.1 ≤ (p_impl_total x1))))]) idn [.int .i64 (p_impl_truth (decide (x0.2.1 ≤ (p_impl_total x1))))] [] rfl (by exact ⟨rfl, trivial⟩) (by exact ⟨ad_ren rfl, trivial⟩) (by exact trivial) rfl (nk rfl) rfl rfl ⟨rfl, rfl⟩
  have q3 := d_f hb1
  replace h := is_else (d_f hb1) h
  refine aw_seq ?_
  refine aw_region ?_
  refine ao_r (r_eql rfl rfl) rfl ?_
  refine ao_r (r_assign rfl) rfl ?_
  refine ao_nil ?_
  refine aq_then ?_
  refine aw_cond rfl (fun hb4 => ?_) (fun hb4 => ?_)
  have q5 := d_t hb4
  replace h := is_if (d_t hb4) h
  refine aw_seq ?_
  refine aw_drawAll (by kernel_rfl) ?_
  refine an_r 0 (fun _ _ _ h => h) rfl (by kernel_rfl) (r_move rfl) rfl ?_
  refine an_scall 1 (by kernel_rfl) (fun _ _ _ h => h) rfl (by kernel_rfl) trivial (scall (c_impl_total (is_mk (rfl : p_impl_total x1 = _))) rfl Try.func69 rfl rfl rfl rfl (fun σ => ⟨ad_ren rfl, trivial⟩)) rfl ?_
  refine an_r 2 (fun _ _ _ h => h) rfl (by kernel_rfl) (r_fieldAddr Try.underlying26 rfl Try.sizeOf3 rfl rfl rfl) rfl ?_
  refine an_r 3 (fun _ _ _ h => h) rfl (by kernel_rfl) (r_load_cell Try.isAgg3 rfl rfl rfl) rfl ?_
  refine an_r 4 (fun _ _ _ h => h) rfl (by kernel_rfl) (r_eql rfl rfl) rfl ?_
  refine an_scall 5 (by kernel_rfl) (fun _ _ _ h => h) rfl (by kernel_rfl) trivial (scall (c_impl_truth (is_mk (rfl : p_impl_truth (decide ((p_impl_total x1) = x0.2.1)) = _))) rfl Try.func68 rfl rfl rfl rfl (fun σ => ⟨ad_ren rfl, trivial⟩)) rfl ?_
  refine an_r 6 (fun _ _ _ h => h) rfl (by kernel_rfl) (r_assign rfl) rfl ?_
  refine an_done rfl ?_
  refine aq_then ?_
  refine aw_ret ?_
  refine aq_in_ret ?_
  refine aq_then_ret ?_
  refine aq_ret ?_
  obtain rfl := is_some h
  exact aq_finx (l := [.tmp 4]) (xs := [.int .i64 (p_impl_truth (decide ((p_impl_total x1) = x0.2.1)))]) idn [.int .i64 (p_impl_truth (decide ((p_impl_total x1) = x0.2.1)))] [] rfl (by exact ⟨rfl, trivial⟩) (by exact ⟨ad_ren rfl, trivial⟩) (by exact trivial) rfl (nk rfl) rfl rfl ⟨rfl, rfl⟩
  have q6 := d_f hb4
  replace h := is_else (d_f hb4) h
  refine aw_seq ?_
  refine aw_region ?_
  refine ao_r (r_eql rfl rfl) rfl ?_
  refine ao_r (r_assign rfl) rfl ?_
  refine ao_nil ?_
  refine aq_then ?_
  refine aw_cond rfl (fun hb7 => ?_) (fun hb7 => ?_)
  have q8 := d_t hb7
  replace h := is_if (d_t hb7) h
  refine aw_seq ?_
  refine aw_region ?_
  refine ao_r (r_move rfl) rfl ?_
  obtain ⟨r10, r10h, h⟩ := is_bind h
  refine ao_scall trivial (scall (c_slices_Max_int_int (is_mk r10h)) rfl Try.func70 rfl rfl rfl rfl (fun σ => ⟨ad_ren rfl, trivial⟩)) rfl ?_
  refine ao_r (r_assign rfl) rfl ?_
  refine ao_nil ?_
  refine aq_then ?_
  refine aw_ret ?_
  refine aq_in_ret ?_
  refine aq_then_ret ?_
  refine aq_ret ?_
  obtain rfl := is_some h
  exact aq_finx (l := [.tmp 4]) (xs := [.int .i64 r10]) idn [.int .i64 r10] [] rfl (by exact ⟨rfl, trivial⟩) (by exact ⟨ad_ren rfl, trivial⟩) (by exact trivial) rfl (nk rfl) rfl rfl ⟨rfl, rfl⟩
  have q9 := d_f hb7
  replace h := is_else (d_f hb7) h
  refine aw_seq ?_
  refine aw_region ?_
  refine ao_r (r_eql rfl rfl) rfl ?_
  refine ao_r (r_assign rfl) rfl ?_
  refine ao_nil ?_
  refine aq_then ?_
  refine aw_cond rfl (fun hb11 => ?_) (fun hb11 => ?_)
  have q12 := d_t hb11
  replace h := is_if (d_t hb11) h
  refine aw_seq ?_
  refine aw_region ?_
  refine ao_r (r_move rfl) rfl ?_
  obtain ⟨r14, r14h, h⟩ := is_bind h
  refine ao_scall trivial (scall (c_slices_Max_int_int (is_mk r14h)) rfl Try.func70 rfl rfl rfl rfl (fun σ => ⟨ad_ren rfl, trivial⟩)) rfl ?_
  refine ao_r (r_move rfl) rfl ?_
  obtain ⟨r15, r15h, h⟩ := is_bind h
  refine ao_scall trivial (scall (c_slices_Min_int_int (is_mk r15h)) rfl Try.func71 rfl rfl rfl rfl (fun σ => ⟨ad_ren rfl, trivial⟩)) rfl ?_
  refine ao_r (r_eql rfl rfl) rfl ?_
  refine ao_scall trivial (scall (c_impl_truth (is_mk (rfl : p_impl_truth (decide (r14 = r15)) = _))) rfl Try.func68 rfl rfl rfl rfl (fun σ => ⟨ad_ren rfl, trivial⟩)) rfl ?_
  refine ao_r (r_assign rfl) rfl ?_
  refine ao_nil ?_
  refine aq_then ?_
  refine aw_ret ?_
  refine aq_in_ret ?_
  refine aq_then_ret ?_
  refine aq_ret ?_
  obtain rfl := is_some h
  exact aq_finx (l := [.tmp 4]) (xs := [.int .i64 (p_impl_truth (decide (r14 = r15)))]) idn [.int .i64 (p_impl_truth (decide (r14 = r15)))] [] rfl (by exact ⟨rfl, trivial⟩) (by exact ⟨ad_ren rfl, trivial⟩) (by exact trivial) rfl (nk rfl) rfl rfl ⟨rfl, rfl⟩
  have q13 := d_f hb11
  replace h := is_else (d_f hb11) h
  refine aw_skip ?_
  refine aq_in ?_
  refine aq_then ?_
  refine aw_seq ?_
  refine aw_region ?_
  refine ao_r (r_move rfl) rfl ?_
  refine ao_scall trivial (scall (c_impl_total (is_mk (rfl : p_impl_total x1 = _))) rfl Try.func69 rfl rfl rfl rfl (fun σ => ⟨ad_ren rfl, trivial⟩)) rfl ?_
  refine ao_r (r_assign rfl) rfl ?_
  refine ao_nil ?_
  refine aq_then ?_
  refine aw_ret ?_
  refine aq_ret ?_
  obtain rfl := is_some h
  exact aq_finx (l := [.tmp 4]) (xs := [.int .i64 (p_impl_total x1)]) idn [.int .i64 (p_impl_total x1)] [] rfl (by exact ⟨rfl, trivial⟩) (by exact ⟨ad_ren rfl, trivial⟩) (by exact trivial) rfl (nk rfl) rfl rfl ⟨rfl, rfl⟩
theorem c_impl_again_sets {x0 : dy7} {x1 : dy7} {r : Int} (h : Is (p_impl_again_sets x0 x1) r) :
    ACallsV Try.prog 54 [.ref 0 0] [(0, .var [.cell (.v ty2 x0), .cell (.os 1)]), (1, .row ty3 x1)] (fun r' H' => r' = .int .i64 r ∧ H' = [(0, .var [.cell (.v ty2 x0), .cell (.os 1)]), (1, .row ty3 x1)]) := by
  unfold p_impl_again_sets at h
  refine ac_enterV ⟨9, 2⟩ Try.func54 rfl rfl rfl rfl rfl (fun Γ => ?_)
  refine row_len_m 1 (x1.length : Int) rfl rfl (fun hr1 => ?_)
  refine aw_seq ?_
  refine aw_region ?_
  refine ao_r (r_assign rfl) rfl ?_
  refine ao_nil ?_
  refine aq_then ?_
  refine aw_seq ?_
  refine aw_region ?_
  refine ao_r (r_move rfl) rfl ?_
  refine ao_r (r_nilCheck rfl rfl) rfl ?_
  refine ao_r (r_fieldAddr Try.underlying59 rfl Try.sizeOf24 rfl rfl rfl) rfl ?_
  refine ao_r (r_load_cell Try.isAgg24 rfl rfl rfl) rfl ?_
  refine ao_r (r_len_vm (x0.length : Int) Try.underlying24 rfl rfl) rfl ?_
  refine ao_r (r_shl rfl rfl (by omega)) rfl ?_
  refine ao_r (r_assign rfl) rfl ?_
  refine ao_nil ?_
  refine aq_then ?_
  refine aw_ret ?_
  refine aq_ret ?_
  obtain rfl := is_eq h
  exact aq_finV (l := [.tmp 2]) (xs := [.int .i64 (shlI .i64 1 (x0.length : Int))]) idn [.int .i64 (shlI .i64 1 (x0.length : Int))] [(0, .var [.cell (.v ty2 x0), .cell (.os 1)]), (1, .row ty3 x1)] rfl (by exact ⟨rfl, trivial⟩) (by exact ⟨ad_ren rfl, trivial⟩) (by exact ⟨⟨_, rfl, ⟨ad_ren rfl, rfl, ad_ren rfl, rfl, trivial⟩⟩, ⟨_, rfl, rfl⟩, trivial⟩) rfl (nk2 rfl rfl rfl) ⟨rfl, rfl⟩
theorem c_impl_isIn {x0 : Int} {x1 : Int} {r : Bool} (h : Is (p_impl_isIn x0 x1) (some r)) :
    Scalar Try.prog 75 [.int .i64 x0, .int .i64 x1] (.bool r) := by
  unfold p_impl_isIn at h
  refine ac_enter ⟨10, 0⟩ Try.func75 rfl rfl rfl rfl rfl (fun Γ => ?_)
  refine aw_seq ?_
  refine aw_region ?_
  refine ao_r (r_assign rfl) rfl ?_
  refine ao_nil ?_
  refine aq_then ?_
  refine aw_seq ?_
  refine aw_region ?_
  refine ao_r (r_move rfl) rfl ?_
  refine ao_r (r_move rfl) rfl ?_
  obtain ⟨g1, h⟩ := is_guard h
  refine ao_r (r_shr rfl rfl (by omega)) rfl ?_
  refine ao_r (r_and rfl rfl) rfl ?_
  refine ao_r (r_eql rfl rfl) rfl ?_
  refine ao_r (r_assign rfl) rfl ?_
  refine ao_nil ?_
  refine aq_then ?_
  refine aw_ret ?_
  refine aq_ret ?_
  obtain rfl := is_some h
  exact aq_finx (l := [.tmp 4]) (xs := [.bool (decide ((andI .i64 (shrI .i64 x0 x1) 1) = 1))]) idn [.bool (decide ((andI .i64 (shrI .i64 x0 x1) 1) = 1))] [] rfl (by exact ⟨rfl, trivial⟩) (by exact ⟨ad_ren rfl, trivial⟩) (by exact trivial) rfl (nk rfl) rfl rfl ⟨rfl, rfl⟩
theorem c_impl_again_merged {fu : Nat} {x0 : Int} {x1 : Int} {x2 : Int} {x3 : dy7} {x4 : dy7} {r : Int} (h : Is (p_impl_again_merged fu x0 x1 x2 x3 x4) (some r)) :
    ACallsV Try.prog 60 [.ref 0 0, .int .i64 x0, .int .i64 x1, .int .i64 x2] [(0, .var [.cell (.v ty2 x3), .cell (.os 1)]), (1, .row ty3 x4)] (fun r' H' => r' = .int .i64 r ∧ H' = [(0, .var [.cell (.v ty2 x3), .cell (.os 1)]), (1, .row ty3 x4)]) := by
  unfold p_impl_again_merged at h
  refine ac_enterV ⟨42, 2⟩ Try.func60 rfl rfl rfl rfl rfl (fun Γ => ?_)
  refine row_len_m 1 (x4.length : Int) rfl rfl (fun hr1 => ?_)
  refine aw_seq ?_
  refine aw_region ?_
  refine ao_r (r_assign rfl) rfl ?_
  refine ao_nil ?_
  refine aq_then ?_
  refine aw_seq ?_
  refine aw_region ?_
  refine ao_r (r_assign rfl) rfl ?_
  refine ao_r (r_assign rfl) rfl ?_
  refine ao_nil ?_
  refine aq_then ?_
  refine aw_seq ?_
  refine aw_seq ?_
  refine aw_region ?_
  refine ao_r (r_move rfl) rfl ?_
  refine ao_r (r_nilCheck rfl rfl) rfl ?_
  refine ao_r (r_fieldAddr Try.underlying59 rfl Try.sizeOf24 rfl rfl rfl) rfl ?_
  refine ao_r (r_load_cell Try.isAgg24 rfl rfl rfl) rfl ?_
  refine ao_r (r_len_vm (x3.length : Int) Try.underlying24 rfl rfl) rfl ?_
  refine ao_r (r_sub rfl rfl) rfl ?_
  refine ao_r (r_assign rfl) rfl ?_
  refine ao_nil ?_
  refine aq_then ?_
  refine aw_block ?_
  refine aw_loop (AL.sub (sub_r1 idn (nk2 rfl rfl rfl) (by kernel_rfl)) (al_whl (fun (s1 : Int × Int × Int × Int × Int) => [(1, .int .i64 s1.1), (2, .int .i64 x1), (3, .int .i64 s1.2.1), (9, .int .i64 s1.2.2.1), (10, .int .i64 s1.2.2.2.1), (11, .int .i64 s1.2.2.2.2)]) (fun (s1 : Int × Int × Int × Int × Int) => [(0, .var [.cell (.v ty2 x3), .cell (.os 1)]), (1, .row ty3 x4)]) (fun (s1 : Int × Int × Int × Int × Int) => True) h trivial (fun d3 s1 hI h ih3 => ?_)))
  replace h := is_whlS h
  refine al_round ?_
  refine aw_seq ?_
  refine aw_seq ?_
  refine aw_region ?_
  refine ao_r (r_move rfl) rfl ?_
  refine ao_r (r_geq rfl rfl) rfl ?_
  refine ao_nil ?_
  refine aq_then ?_
  refine aw_cond rfl (fun hb5 => ?_) (fun hb5 => ?_)
  have q6 := d_t hb5
  replace h := is_if (d_t hb5) h
  refine aw_skip ?_
  refine aq_then ?_
  refine aw_seq ?_
  refine aw_block ?_
  refine aw_seq ?_
  refine aw_region ?_
  refine ao_r (r_move rfl) rfl ?_
  refine ao_r (r_rem rfl rfl (by decide)) rfl ?_
  refine ao_r (r_assign rfl) rfl ?_
  refine ao_nil ?_
  refine aq_then ?_
  refine aw_join (fun (s8 : Int) => [(1, .int .i64 s1.1), (2, .int .i64 x1), (3, .int .i64 s1.2.1), (9, .int .i64 s1.2.2.1), (10, .int .i64 s1.2.2.2.1), (11, .int .i64 s1.2.2.2.2), (12, .int .i64 s8)]) (fun (s8 : Int) => [(0, .var [.cell (.v ty2 x3), .cell (.os 1)]), (1, .row ty3 x4)]) (fun (s8 : Int) => True) h (fun s8 hI h => ?_) (fun h j10 => ?_)
  refine aw_seq ?_
  refine aw_region ?_
  refine ao_r (r_move rfl) rfl ?_
  refine ao_r (r_move rfl) rfl ?_
  refine ao_r (r_move rfl) rfl ?_
  refine ao_r (r_mul rfl rfl) rfl ?_
  refine ao_r (r_add rfl rfl) rfl ?_
  refine ao_r (r_assign rfl) rfl ?_
  refine ao_nil ?_
  refine aq_then ?_
  refine aw_region ?_
  refine ao_r (r_move rfl) rfl ?_
  refine ao_r (r_quo rfl rfl (by decide)) rfl ?_
  refine ao_r (r_move rfl) rfl ?_
  refine ao_r (r_quo rfl rfl (by decide)) rfl ?_
  refine ao_r (r_move rfl) rfl ?_
  refine ao_r (r_mul rfl rfl) rfl ?_
  refine ao_r (r_assign rfl) rfl ?_
  refine ao_r (r_assign rfl) rfl ?_
  refine ao_r (r_assign rfl) rfl ?_
  refine ao_nil ?_
  refine aq_in ?_
  refine aq_then ?_
  refine aw_region ?_
  refine ao_r (r_move rfl) rfl ?_
  refine ao_r (r_sub rfl rfl) rfl ?_
  refine ao_r (r_assign rfl) rfl ?_
  refine ao_nil ?_
  exact aq_again (AL.sub (sub_r1 idn (nk2 rfl rfl rfl) (by kernel_rfl)) (ih3 ((IntKind.wrap .i64 (s1.1.tdiv 6)), (IntKind.wrap .i64 (s1.2.1.tdiv 6)), (IntKind.wrap .i64 (s1.2.2.1 + (IntKind.wrap .i64 (s8 * s1.2.2.2.1)))), (IntKind.wrap .i64 (s1.2.2.2.1 * 6)), (IntKind.wrap .i64 (s1.2.2.2.2 - 1))) trivial h))
  refine aw_seq ?_
  refine aw_region ?_
  refine ao_r (r_move rfl) rfl ?_
  refine ao_r (r_move rfl) rfl ?_
  obtain ⟨r11, r11h, h⟩ := is_bind h
  refine ao_scall trivial (scall (c_impl_isIn (is_mk r11h)) rfl Try.func75 rfl rfl rfl rfl (fun σ => ⟨ad_ren rfl, ad_ren rfl, trivial⟩)) rfl ?_
  refine ao_nil ?_
  refine aq_then ?_
  refine aw_cond rfl (fun hb12 => ?_) (fun hb12 => ?_)
  replace h := is_if hb12 h
  refine aw_region ?_
  refine ao_r (r_move rfl) rfl ?_
  refine ao_r (r_rem rfl rfl (by decide)) rfl ?_
  refine ao_r (r_assign rfl) rfl ?_
  refine ao_nil ?_
  exact aq_then (AW.sub (sub_r1 idn (nk2 rfl rfl rfl) (by kernel_rfl)) (j10 (s1.2.1.tmod 6) trivial h))
  replace h := is_else (ne_t hb12) h
  refine aw_skip ?_
  exact aq_then (AW.sub (sub_r1 idn (nk2 rfl rfl rfl) (by kernel_rfl)) (j10 (s1.1.tmod 6) trivial h))
  have q7 := d_f hb5
  replace h := is_else (d_f hb5) h
  refine aw_exit ?_
  refine aq_then_exit ?_
  refine aq_then_exit ?_
  refine aq_in_exit ?_
  refine aq_then ?_
  refine aw_seq ?_
  refine aw_region ?_
  refine ao_r (r_move rfl) rfl ?_
  refine ao_r (r_assign rfl) rfl ?_
  refine ao_nil ?_
  refine aq_then ?_
  refine aw_ret ?_
  refine aq_ret ?_
  obtain rfl := is_some h
  exact aq_finV (l := [.tmp 8]) (xs := [.int .i64 s1.2.2.1]) idn [.int .i64 s1.2.2.1] [(0, .var [.cell (.v ty2 x3), .cell (.os 1)]), (1, .row ty3 x4)] rfl (by exact ⟨rfl, trivial⟩) (by exact ⟨ad_ren rfl, trivial⟩) (by exact ⟨⟨_, rfl, ⟨ad_ren rfl, rfl, ad_ren rfl, rfl, trivial⟩⟩, ⟨_, rfl, rfl⟩, trivial⟩) rfl (nk2 rfl rfl rfl) ⟨rfl, rfl⟩
theorem c_impl_again_setValue {fu : Nat} {x0 : Int} {x1 : Int} {x2 : Int} {x3 : dy7} {x4 : dy7} {r : Int} (h : Is (p_impl_again_setValue fu x0 x1 x2 x3 x4) (some r)) :
    ACallsV Try.prog 37 [.ref 0 0, .int .i64 x0, .int .i64 x1, .int .i64 x2] [(0, .var [.cell (.v ty2 x3), .cell (.os 1)]), (1, .row ty3 x4)] (fun r' H' => r' = .int .i64 r ∧ H' = [(0, .var [.cell (.v ty2 x3), .cell (.os 1)]), (1, .row ty3 x4)]) := by
  unfold p_impl_again_setValue at h
  refine ac_enterV ⟨35, 2⟩ Try.func37 rfl rfl rfl rfl rfl (fun Γ => ?_)
  refine row_len_m 1 (x4.length : Int) rfl rfl (fun hr1 => ?_)
  refine aw_seq ?_
  refine aw_region ?_
  refine ao_r (r_assign rfl) rfl ?_
  refine ao_nil ?_
  refine aq_then ?_
  refine aw_seq ?_
  refine aw_region ?_
  refine ao_r (r_assign rfl) rfl ?_
  refine ao_nil ?_
  refine aq_then ?_
  refine aw_seq ?_
  refine aw_seq ?_
  refine aw_region ?_
  refine ao_r (r_move rfl) rfl ?_
  obtain ⟨r1, r1h, h⟩ := is_bind h
  refine ao_callV [0, 1] 2 trivial (c_impl_again_outcomes (is_mk r1h)) Try.func53 rfl rfl rfl rfl rfl ⟨rfl, rfl, trivial⟩ ⟨⟨_, rfl, ⟨ad_ren rfl, rfl, ad_ren rfl, rfl, trivial⟩⟩, ⟨_, rfl, rfl⟩, trivial⟩ rfl rfl rfl rfl rfl rfl rfl (fun r' H' hr => ?_)
  obtain ⟨rfl, rfl⟩ := hr
  refine ao_norm (y := .int .i64 r1) (H' := [(0, .var [.cell (.v ty2 x3), .cell (.os 1)]), (1, .row ty3 x4)]) rfl rfl ?_
  refine ao_r (r_move rfl) rfl ?_
  refine ao_nil ?_
  refine aq_then ?_
  refine aw_block ?_
  refine aw_loop (AL.sub (sub_r1 idn (nk2 rfl rfl rfl) (by kernel_rfl)) (al_whl (fun (s2 : Int × Int) => [(0, .ref 0 0), (1, .int .i64 x0), (2, .int .i64 x1), (3, .int .i64 x2), (9, .int .i64 s2.1), (12, .int .i64 r1), (13, .int .i64 s2.2)]) (fun (s2 : Int × Int) => [(0, .var [.cell (.v ty2 x3), .cell (.os 1)]), (1, .row ty3 x4)]) (fun (s2 : Int × Int) => True) h trivial (fun d4 s2 hI h ih4 => ?_)))
  replace h := is_whlS h
  refine al_round ?_
  refine aw_seq ?_
  refine aw_region ?_
  refine ao_r (r_lss rfl rfl) rfl ?_
  refine ao_nil ?_
  refine aq_then ?_
  refine aw_seq ?_
  refine aw_cond rfl (fun hb6 => ?_) (fun hb6 => ?_)
  have q7 := d_t hb6
  replace h := is_if (d_t hb6) h
  refine aw_skip ?_
  refine aq_then ?_
  refine aw_seq ?_
  refine aw_block ?_
  refine aw_seq ?_
  refine aw_region ?_
  refine ao_r (r_move rfl) rfl ?_
  refine ao_r (r_assign rfl) rfl ?_
  refine ao_nil ?_
  refine aq_then ?_
  obtain ⟨g9, h⟩ := is_guard h
  obtain ⟨g10, h⟩ := is_guard h
  obtain ⟨r11, r11h, h⟩ := is_bind h
  obtain ⟨g12, h⟩ := is_guard h
  obtain ⟨g13, h⟩ := is_guard h
  refine aw_drawP 18 rfl (by kernel_rfl) ?_
  refine ap_to [(0, .ref 0 0), (1, .int .i64 x0), (2, .int .i64 x1), (3, .int .i64 x2), (9, .int .i64 (IntKind.wrap .i64 (s2.1 + ((x4.getD (IntKind.wrap .i64 (x2 - 1)).toNat []).getD r11.toNat 0)))), (12, .int .i64 r1), (13, .int .i64 s2.2)] [(0, .var [.cell (.v ty2 x3), .cell (.os 1)]), (1, .row ty3 x4)] ?_ (fun key => ?_)
  refine aq_in ?_
  refine aq_then ?_
  refine aw_region ?_
  refine ao_r (r_add rfl rfl) rfl ?_
  refine ao_r (r_move rfl) rfl ?_
  refine ao_nil ?_
  exact aq_again (AL.sub (sub_r1 idn (nk2 rfl rfl rfl) (by kernel_rfl)) (ih4 ((IntKind.wrap .i64 (s2.1 + ((x4.getD (IntKind.wrap .i64 (x2 - 1)).toNat []).getD r11.toNat 0))), (IntKind.wrap .i64 (s2.2 + 1))) trivial h))
  refine ap_let (g := 3) (listed := #[true, true, true, true, true, true, true, true, true, true, true, true, true, true, true, false, false, false]) [(0, .ref 0 0), (1, .int .i64 x0), (2, .int .i64 x1), (3, .int .i64 x2), (9, .int .i64 s2.1), (12, .int .i64 r1), (13, .int .i64 s2.2), (16, .int .i64 s2.1), (30, .cptr ty8 (((x4.getD (IntKind.wrap .i64 (x2 - 1)).toNat []).getD r11.toNat 0) : Int))] [(0, .var [.cell (.v ty2 x3), .cell (.os 1)]), (1, .row ty3 x4)] ?_ (fun k19 => ?_)
  refine ap_all [15] (by kernel_rfl) ⟨?_, trivial⟩
  refine apo_ao rfl ?_
  refine ao_r (r_load_c_int Try.isAgg3 Try.sizeOf3 rfl) rfl ?_
  refine ap_ni ?_
  refine ap_p 16 (fun _ _ _ h => h) rfl (by kernel_rfl) (rp_add rfl rfl) rfl ?_
  refine ap_p 17 (fun _ _ _ h => h) rfl (by kernel_rfl) (rp_assign rfl) rfl ?_
  exact ap_end (by kernel_rfl) (AQ.sub (sub_r1 idn (nk2 rfl rfl rfl) (by kernel_rfl)) key)
  refine ap_let (g := 4) (listed := #[true, true, true, true, true, true, true, true, true, true, true, true, true, true, false, false, false, false]) [(0, .ref 0 0), (1, .int .i64 x0), (2, .int .i64 x1), (3, .int .i64 x2), (9, .int .i64 s2.1), (12, .int .i64 r1), (13, .int .i64 s2.2), (16, .int .i64 s2.1), (24, .v ty3 ((x4.getD (IntKind.wrap .i64 (x2 - 1)).toNat []) : dy9)), (29, .int .i64 r11)] [(0, .var [.cell (.v ty2 x3), .cell (.os 1)]), (1, .row ty3 x4)] ?_ (fun k18 => ?_)
  refine ap_all [14] (by kernel_rfl) ⟨?_, trivial⟩
  refine apo_ao rfl ?_
  refine ao_r (r_idxAddr_int Try.underlying32 Try.sizeOf3 rfl rfl (show 0 ≤ r11 from by omega) (show r11 < ((x4.getD (IntKind.wrap .i64 (x2 - 1)).toNat []).length : Int) from by (try simp only [List.length_cons, List.length_nil]) <;> omega)) rfl ?_
  refine ap_ni ?_
  exact ap_gr idn (nk2 rfl rfl rfl) k19 (by kernel_rfl)
  refine ap_let (g := 5) (listed := #[true, true, true, true, true, true, true, true, true, true, true, true, true, false, false, false, false, false]) [(0, .ref 0 0), (1, .int .i64 x0), (2, .int .i64 x1), (3, .int .i64 x2), (9, .int .i64 s2.1), (12, .int .i64 r1), (13, .int .i64 s2.2), (16, .int .i64 s2.1), (24, .v ty3 ((x4.getD (IntKind.wrap .i64 (x2 - 1)).toNat []) : dy9)), (25, .ref 0 0), (26, .int .i64 x0), (27, .int .i64 x1), (28, .int .i64 s2.2)] [(0, .var [.cell (.v ty2 x3), .cell (.os 1)]), (1, .row ty3 x4)] ?_ (fun k17 => ?_)
  refine ap_all [13] (by kernel_rfl) ⟨?_, trivial⟩
  refine apo_ao rfl ?_
  refine ao_callV [0, 1] 2 trivial (c_impl_again_merged (is_mk r11h)) Try.func60 rfl rfl rfl rfl rfl ⟨rfl, rfl, trivial⟩ ⟨⟨_, rfl, ⟨ad_ren rfl, rfl, ad_ren rfl, rfl, trivial⟩⟩, ⟨_, rfl, rfl⟩, trivial⟩ rfl rfl rfl rfl rfl rfl rfl (fun r' H' hr => ?_)
  obtain ⟨rfl, rfl⟩ := hr
  refine ao_norm (y := .int .i64 r11) (H' := [(0, .var [.cell (.v ty2 x3), .cell (.os 1)]), (1, .row ty3 x4)]) rfl rfl ?_
  refine ap_ni ?_
  exact ap_gr idn (nk2 rfl rfl rfl) k18 (by kernel_rfl)
  refine ap_let (g := 5) (listed := #[true, true, true, true, true, true, true, true, false, true, true, true, true, true, false, false, false, false]) [(0, .ref 0 0), (1, .int .i64 x0), (2, .int .i64 x1), (3, .int .i64 x2), (9, .int .i64 s2.1), (12, .int .i64 r1), (13, .int .i64 s2.2), (16, .int .i64 s2.1), (23, .elem 1 0 1 (IntKind.wrap .i64 (x2 - 1)).toNat), (29, .int .i64 r11)] [(0, .var [.cell (.v ty2 x3), .cell (.os 1)]), (1, .row ty3 x4)] ?_ (fun k20 => ?_)
  refine ap_all [8] (by kernel_rfl) ⟨?_, trivial⟩
  refine apo_ao rfl ?_
  refine ao_r (r_load_elemv (t := ty3) Try.isAgg32 Try.sizeOf32 rfl rfl (show (IntKind.wrap .i64 (x2 - 1)).toNat < x4.length from by omega)) rfl ?_
  refine ap_ni ?_
  exact ap_gr idn (nk2 rfl rfl rfl) k18 (by kernel_rfl)
  refine ap_let (g := 6) (listed := #[true, true, true, true, true, true, true, true, false, true, true, true, true, false, false, false, false, false]) [(0, .ref 0 0), (1, .int .i64 x0), (2, .int .i64 x1), (3, .int .i64 x2), (9, .int .i64 s2.1), (12, .int .i64 r1), (13, .int .i64 s2.2), (16, .int .i64 s2.1), (23, .elem 1 0 1 (IntKind.wrap .i64 (x2 - 1)).toNat), (25, .ref 0 0), (26, .int .i64 x0), (27, .int .i64 x1), (28, .int .i64 s2.2)] [(0, .var [.cell (.v ty2 x3), .cell (.os 1)]), (1, .row ty3 x4)] ?_ (fun k16 => ?_)
  refine ap_all [8, 13] (by kernel_rfl) ⟨?_, ?_, trivial⟩
  refine apo_ao rfl ?_
  refine ao_r (r_load_elemv (t := ty3) Try.isAgg32 Try.sizeOf32 rfl rfl (show (IntKind.wrap .i64 (x2 - 1)).toNat < x4.length from by omega)) rfl ?_
  refine ap_ni ?_
  exact ap_gr idn (nk2 rfl rfl rfl) k17 (by kernel_rfl)
  refine apo_ao rfl ?_
  refine ao_callV [0, 1] 2 trivial (c_impl_again_merged (is_mk r11h)) Try.func60 rfl rfl rfl rfl rfl ⟨rfl, rfl, trivial⟩ ⟨⟨_, rfl, ⟨ad_ren rfl, rfl, ad_ren rfl, rfl, trivial⟩⟩, ⟨_, rfl, rfl⟩, trivial⟩ rfl rfl rfl rfl rfl rfl rfl (fun r' H' hr => ?_)
  obtain ⟨rfl, rfl⟩ := hr
  refine ao_norm (y := .int .i64 r11) (H' := [(0, .var [.cell (.v ty2 x3), .cell (.os 1)]), (1, .row ty3 x4)]) rfl rfl ?_
  refine ap_ni ?_
  exact ap_gr idn (nk2 rfl rfl rfl) k20 (by kernel_rfl)
  refine ap_let (g := 6) (listed := #[true, true, true, true, true, true, true, false, false, true, true, true, true, true, false, false, false, false]) [(0, .ref 0 0), (1, .int .i64 x0), (2, .int .i64 x1), (3, .int .i64 x2), (9, .int .i64 s2.1), (12, .int .i64 r1), (13, .int .i64 s2.2), (16, .int .i64 s2.1), (20, .os 1), (22, .int .i64 (IntKind.wrap .i64 (x2 - 1))), (29, .int .i64 r11)] [(0, .var [.cell (.v ty2 x3), .cell (.os 1)]), (1, .row ty3 x4)] ?_ (fun k21 => ?_)
  refine ap_all [7] (by kernel_rfl) ⟨?_, trivial⟩
  refine apo_ao rfl ?_
  refine ao_r (r_idxAddr_os Try.underlying57 Try.sizeOf32 rfl rfl rfl (show 0 ≤ (IntKind.wrap .i64 (x2 - 1)) from by omega) (show (IntKind.wrap .i64 (x2 - 1)) < (x4.length : Int) from by omega)) rfl ?_
  refine ap_ni ?_
  exact ap_gr idn (nk2 rfl rfl rfl) k20 (by kernel_rfl)
  refine ap_let (g := 7) (listed := #[true, true, true, true, true, true, true, false, false, true, true, true, true, false, false, false, false, false]) [(0, .ref 0 0), (1, .int .i64 x0), (2, .int .i64 x1), (3, .int .i64 x2), (9, .int .i64 s2.1), (12, .int .i64 r1), (13, .int .i64 s2.2), (16, .int .i64 s2.1), (20, .os 1), (22, .int .i64 (IntKind.wrap .i64 (x2 - 1))), (25, .ref 0 0), (26, .int .i64 x0), (27, .int .i64 x1), (28, .int .i64 s2.2)] [(0, .var [.cell (.v ty2 x3), .cell (.os 1)]), (1, .row ty3 x4)] ?_ (fun k15 => ?_)
  refine ap_all [7, 13] (by kernel_rfl) ⟨?_, ?_, trivial⟩
  refine apo_ao rfl ?_
  refine ao_r (r_idxAddr_os Try.underlying57 Try.sizeOf32 rfl rfl rfl (show 0 ≤ (IntKind.wrap .i64 (x2 - 1)) from by omega) (show (IntKind.wrap .i64 (x2 - 1)) < (x4.length : Int) from by omega)) rfl ?_
  refine ap_ni ?_
  exact ap_gr idn (nk2 rfl rfl rfl) k16 (by kernel_rfl)
  refine apo_ao rfl ?_
  refine ao_callV [0, 1] 2 trivial (c_impl_again_merged (is_mk r11h)) Try.func60 rfl rfl rfl rfl rfl ⟨rfl, rfl, trivial⟩ ⟨⟨_, rfl, ⟨ad_ren rfl, rfl, ad_ren rfl, rfl, trivial⟩⟩, ⟨_, rfl, rfl⟩, trivial⟩ rfl rfl rfl rfl rfl rfl rfl (fun r' H' hr => ?_)
  obtain ⟨rfl, rfl⟩ := hr
  refine ao_norm (y := .int .i64 r11) (H' := [(0, .var [.cell (.v ty2 x3), .cell (.os 1)]), (1, .row ty3 x4)]) rfl rfl ?_
  refine ap_ni ?_
  exact ap_gr idn (nk2 rfl rfl rfl) k21 (by kernel_rfl)
  refine ap_let (g := 7) (listed := #[true, true, true, true, false, true, true, false, false, true, true, true, true, true, false, false, false, false]) [(0, .ref 0 0), (1, .int .i64 x0), (2, .int .i64 x1), (3, .int .i64 x2), (9, .int .i64 s2.1), (12, .int .i64 r1), (13, .int .i64 s2.2), (16, .int .i64 s2.1), (19, .ref 0 1), (22, .int .i64 (IntKind.wrap .i64 (x2 - 1))), (29, .int .i64 r11)] [(0, .var [.cell (.v ty2 x3), .cell (.os 1)]), (1, .row ty3 x4)] ?_ (fun k22 => ?_)
  refine ap_all [4] (by kernel_rfl) ⟨?_, trivial⟩
  refine apo_ao rfl ?_
  refine ao_r (r_load_cell Try.isAgg57 rfl rfl rfl) rfl ?_
  refine ap_ni ?_
  exact ap_gr idn (nk2 rfl rfl rfl) k21 (by kernel_rfl)
  refine ap_let (g := 8) (listed := #[true, true, true, true, false, true, true, false, false, true, true, true, true, false, false, false, false, false]) [(0, .ref 0 0), (1, .int .i64 x0), (2, .int .i64 x1), (3, .int .i64 x2), (9, .int .i64 s2.1), (12, .int .i64 r1), (13, .int .i64 s2.2), (16, .int .i64 s2.1), (19, .ref 0 1), (22, .int .i64 (IntKind.wrap .i64 (x2 - 1))), (25, .ref 0 0), (26, .int .i64 x0), (27, .int .i64 x1), (28, .int .i64 s2.2)] [(0, .var [.cell (.v ty2 x3), .cell (.os 1)]), (1, .row ty3 x4)] ?_ (fun k14 => ?_)
  refine ap_all [4, 13] (by kernel_rfl) ⟨?_, ?_, trivial⟩
  refine apo_ao rfl ?_
  refine ao_r (r_load_cell Try.isAgg57 rfl rfl rfl) rfl ?_
  refine ap_ni ?_
  exact ap_gr idn (nk2 rfl rfl rfl) k15 (by kernel_rfl)
  refine apo_ao rfl ?_
  refine ao_callV [0, 1] 2 trivial (c_impl_again_merged (is_mk r11h)) Try.func60 rfl rfl rfl rfl rfl ⟨rfl, rfl, trivial⟩ ⟨⟨_, rfl, ⟨ad_ren rfl, rfl, ad_ren rfl, rfl, trivial⟩⟩, ⟨_, rfl, rfl⟩, trivial⟩ rfl rfl rfl rfl rfl rfl rfl (fun r' H' hr => ?_)
  obtain ⟨rfl, rfl⟩ := hr
  refine ao_norm (y := .int .i64 r11) (H' := [(0, .var [.cell (.v ty2 x3), .cell (.os 1)]), (1, .row ty3 x4)]) rfl rfl ?_
  refine ap_ni ?_
  exact ap_gr idn (nk2 rfl rfl rfl) k22 (by kernel_rfl)
  refine ap_p 0 (fun _ _ _ h => h) rfl (by kernel_rfl) (rp_move rfl) rfl ?_
  refine ap_p 1 (fun _ _ _ h => h) rfl (by kernel_rfl) (rp_move rfl) rfl ?_
  refine ap_p 2 (fun _ _ _ h => h) rfl (by kernel_rfl) (rp_nilCheck rfl rfl) rfl ?_
  refine ap_p 3 (fun _ _ _ h => h) rfl (by kernel_rfl) (rp_fieldAddr Try.underlying59 rfl Try.sizeOf57 rfl rfl rfl) rfl ?_
  refine ap_p 5 (fun _ _ _ h => h) rfl (by kernel_rfl) (rp_move rfl) rfl ?_
  refine ap_p 6 (fun _ _ _ h => h) rfl (by kernel_rfl) (rp_sub rfl rfl) rfl ?_
  refine ap_p 9 (fun _ _ _ h => h) rfl (by kernel_rfl) (rp_move rfl) rfl ?_
  refine ap_p 10 (fun _ _ _ h => h) rfl (by kernel_rfl) (rp_move rfl) rfl ?_
  refine ap_p 11 (fun _ _ _ h => h) rfl (by kernel_rfl) (rp_move rfl) rfl ?_
  refine ap_p 12 (fun _ _ _ h => h) rfl (by kernel_rfl) (rp_move rfl) rfl ?_
  exact ap_gr idn (nk2 rfl rfl rfl) k14 (by kernel_rfl)
  have q8 := d_f hb6
  replace h := is_else (d_f hb6) h
  refine aw_exit ?_
  refine aq_then_exit ?_
  refine aq_then_exit ?_
  refine aq_in_exit ?_
  refine aq_then ?_
  refine aw_seq ?_
  refine aw_region ?_
  refine ao_r (r_move rfl) rfl ?_
  refine ao_r (r_assign rfl) rfl ?_
  refine ao_nil ?_
  refine aq_then ?_
  refine aw_ret ?_
  refine aq_ret ?_
  obtain rfl := is_some h
  exact aq_finV (l := [.tmp 8]) (xs := [.int .i64 s2.1]) idn [.int .i64 s2.1] [(0, .var [.cell (.v ty2 x3), .cell (.os 1)]), (1, .row ty3 x4)] rfl (by exact ⟨rfl, trivial⟩) (by exact ⟨ad_ren rfl, trivial⟩) (by exact ⟨⟨_, rfl, ⟨ad_ren rfl, rfl, ad_ren rfl, rfl, trivial⟩⟩, ⟨_, rfl, rfl⟩, trivial⟩) rfl (nk2 rfl rfl rfl) ⟨rfl, rfl⟩
theorem c_impl_againOf {fu : Nat} {x0 : dy7} {x1 : dy5} {x2 : Int} {r : dy7 × dy7} (h : Is (p_impl_againOf fu x0 x1 x2) (some r)) :
    ACallsV Try.prog 26 [.v ty2 x0, .v ty1 x1, .int .i64 x2] [] (fun r' H' => r' = .ref 0 0 ∧ H' = [(0, .var [.cell (.v ty2 r.1), .cell (.os 1)]), (1, .row ty3 r.2)]) := by
  unfold p_impl_againOf at h
  refine ac_enterV ⟨81, 0⟩ Try.func26 rfl rfl rfl rfl rfl (fun Γ => ?_)
  refine sl_len_m 0 (x0.length : Int) rfl rfl (fun hl0 => ?_)
  refine aw_seq ?_
  refine aw_region ?_
  refine ao_eff trivial (e_box 0 rfl rfl rfl rfl rfl rfl) rfl ?_
  refine ao_r (r_assign rfl) rfl ?_
  refine ao_nil ?_
  refine aq_then ?_
  refine aw_seq ?_
  refine aw_region ?_
  refine ao_r (r_move rfl) rfl ?_
  refine ao_r (r_build_st (l := [(0, .tmp 15)]) (cs := [.cell (.v ty2 x0), .cell (.nilsl)]) (.pair ty2 (.pair (.slice ty3) .unit)) [(0, 1), (1, 1)] Try.underlying59 Try.zeroValue59 rfl ⟨rfl, Try.sizeOf24, rfl, Try.sizeOf57, trivial⟩ rfl rfl rfl) rfl ?_
  refine ao_eff trivial (e_box 1 rfl rfl rfl rfl rfl rfl) rfl ?_
  refine ao_r (r_assign rfl) rfl ?_
  refine ao_nil ?_
  refine aq_then ?_
  refine aw_seq ?_
  refine aw_region ?_
  refine ao_r (r_assign rfl) rfl ?_
  refine ao_nil ?_
  refine aq_then ?_
  refine aw_seq ?_
  refine aw_seq ?_
  refine aw_region ?_
  refine ao_r (r_move rfl) rfl ?_
  obtain ⟨r1, r1h, h⟩ := is_bind h
  refine AO.sub (sub_nil_cell (t := ty3) (i := 1) 2 [.cell (.v ty2 x0)] [] rfl rfl rfl) ?_
  refine ao_norm0 (H' := [(2, .row ty3 ([] : dy7)), (1, .var [.cell (.v ty2 x0), .cell (.os 2)]), (0, .var [ci x1.1, ci x1.2.1])]) rfl ?_
  refine ao_callV [1, 2] 3 trivial (c_impl_again_outcomes (is_mk r1h)) Try.func53 rfl rfl rfl rfl rfl ⟨rfl, rfl, trivial⟩ ⟨⟨_, rfl, ⟨ad_ren rfl, rfl, ad_ren rfl, rfl, trivial⟩⟩, ⟨_, rfl, rfl⟩, trivial⟩ rfl rfl rfl rfl rfl rfl rfl (fun r' H' hr => ?_)
  obtain ⟨rfl, rfl⟩ := hr
  refine ao_norm (y := .int .i64 r1) (H' := [(0, .var [ci x1.1, ci x1.2.1]), (1, .var [.cell (.v ty2 x0), .cell (.os 2)]), (2, .row ty3 ([] : dy7))]) rfl rfl ?_
  refine ao_r (r_move rfl) rfl ?_
  refine ao_nil ?_
  refine aq_then ?_
  refine aw_block ?_
  refine AW.sub (sub_nil (T := 8) (t := ty8) 4 rfl rfl rfl) ?_
  refine aw_loop (AL.sub (sub_r1 (rn [(2, 4), (3, 2)]) (nk rfl) (by kernel_rfl)) (al_whl (fun (s2 : Int × dy9) => [(0, .v ty2 x0), (2, .int .i64 x2), (4, .ref 0 0), (7, .ref 1 0), (8, .os 2), (19, .int .i64 r1), (20, .int .i64 s2.1)]) (fun (s2 : Int × dy9) => [(0, .var [ci x1.1, ci x1.2.1]), (1, .var [.cell (.v ty2 x0), .cell (.os 3)]), (2, .row ty8 s2.2), (3, .row ty3 ([] : dy7))]) (fun (s2 : Int × dy9) => True) h trivial (fun d4 s2 hI h ih4 => ?_)))
  replace h := is_whlS h
  refine al_round ?_
  refine aw_seq ?_
  refine aw_region ?_
  refine ao_r (r_lss rfl rfl) rfl ?_
  refine ao_nil ?_
  refine aq_then ?_
  refine aw_seq ?_
  refine aw_cond rfl (fun hb6 => ?_) (fun hb6 => ?_)
  have q7 := d_t hb6
  replace h := is_if (d_t hb6) h
  refine aw_skip ?_
  refine aq_then ?_
  refine aw_seq ?_
  refine aw_block ?_
  refine aw_seq ?_
  refine aw_region ?_
  refine ao_r (r_move rfl) rfl ?_
  refine ao_r (r_assign rfl) rfl ?_
  refine ao_nil ?_
  refine aq_then ?_
  obtain ⟨r9, r9h, h⟩ := is_bind h
  obtain ⟨r11, r11h, h⟩ := is_bind h
  refine aw_draw 7 (by kernel_rfl) (by kernel_rfl) ?_
  refine an_to [(0, .v ty2 x0), (2, .int .i64 x2), (4, .ref 0 0), (7, .ref 1 0), (8, .os 2), (19, .int .i64 r1), (20, .int .i64 s2.1), (23, .os 2), (29, .os 3)] [(0, .var [ci x1.1, ci x1.2.1]), (1, .var [.cell (.v ty2 x0), .cell (.os 4)]), (2, .row ty8 s2.2), (3, .row ty8 ([r11] : dy9)), (4, .row ty3 ([] : dy7))] ?_ (fun key => ?_)
  refine aq_tail rfl ?_
  obtain ⟨g12, h⟩ := is_guard h
  refine ao_eff trivial (e_append (t := ty8) 5 rfl Try.underlying32 (rfl : Try.prog.info? 3 = some _) rfl rfl rfl rfl rfl rfl rfl (src_os rfl) (show s2.2.length + ([r11] : dy9).length ≤ 1000000000 from by (try simp only [List.length_cons, List.length_nil]) <;> omega) rfl rfl) rfl ?_
  refine ao_r (r_assign rfl) rfl ?_
  refine ao_nil ?_
  refine aq_in ?_
  refine aq_then ?_
  refine aw_region ?_
  refine ao_r (r_add rfl rfl) rfl ?_
  refine ao_r (r_move rfl) rfl ?_
  refine ao_nil ?_
  exact aq_again (AL.sub (sub_r1 (rn [(2, 5), (3, 4)]) (nk rfl) (by kernel_rfl)) (ih4 ((IntKind.wrap .i64 (s2.1 + 1)), (s2.2 ++ [r11])) trivial h))
  refine an_r 0 (fun _ _ _ h => h) rfl (by kernel_rfl) (r_move rfl) rfl ?_
  refine an_r 1 (fun _ _ _ h => h) rfl (by kernel_rfl) (r_load_part (τ := ty1) (y := ((x1.1, (x1.2.1, ())) : dy5)) [] [] rfl Try.isAgg26 Try.sizeOf26 rfl rfl rfl rfl) rfl ?_
  refine an_r 2 (fun _ _ _ h => h) rfl (by kernel_rfl) (r_move rfl) rfl ?_
  refine an_r 3 (fun _ _ _ h => h) rfl (by kernel_rfl) (r_move rfl) rfl ?_
  refine an_explore 4 rfl ?_
  refine ax_all [4] (by kernel_rfl) ⟨?_, trivial⟩
  refine axo_call 4 4 rfl trivial (c_impl_rollAt (is_mk r9h)) Try.func42 rfl rfl rfl rfl ⟨ad_ren rfl, ad_ren rfl, trivial⟩ rfl rfl rfl rfl (fun r' H' hr => ?_)
  obtain ⟨rfl, rfl⟩ := hr
  refine ax_all [5] (by kernel_rfl) ⟨?_, trivial⟩
  refine axo_scall 5 rfl trivial (scall (c_impl_Goal_score (is_mk r11h)) rfl Try.func45 rfl rfl rfl rfl (fun σ => ⟨ad_ren rfl, ad_os0 rfl, trivial⟩)) rfl ?_
  refine ax_all [6] (by kernel_rfl) ⟨?_, trivial⟩
  refine axo_eff 6 rfl trivial (e_buildSlice (l := [(0, .tmp 28)]) (t := ty8) 5 ([r11] : dy9) rfl Try.underlying32 Try.zeroValue3 Try.sizeOf3 rfl rfl rfl rfl rfl rfl rfl) rfl rfl ?_
  exact ax_done rfl (AQ.sub (sub_r1 (rn [(3, 5), (4, 3)]) (nk rfl) (by kernel_rfl)) key)
  have q8 := d_f hb6
  replace h := is_else (d_f hb6) h
  refine aw_exit ?_
  refine aq_then_exit ?_
  refine aq_then_exit ?_
  refine aq_in_exit ?_
  refine aq_then ?_
  refine aw_seq ?_
  refine aw_region ?_
  refine ao_r (r_move rfl) rfl ?_
  refine ao_r (r_move rfl) rfl ?_
  refine ao_r (r_nilCheck rfl rfl) rfl ?_
  refine ao_r (r_fieldAddr Try.underlying59 rfl Try.sizeOf57 rfl rfl rfl) rfl ?_
  refine ao_r (r_load_cell Try.isAgg57 rfl rfl rfl) rfl ?_
  refine ao_r (r_move rfl) rfl ?_
  refine ao_eff trivial (e_build1 (t := ty8) 4 Try.underlying57 Try.zeroValue32 Try.sizeOf32 rfl rfl rfl rfl) rfl ?_
  refine ao_eff trivial (e_append_os (t := ty3) 5 Try.underlying57 (rfl : Try.prog.info? 32 = some _) rfl rfl rfl rfl rfl rfl rfl rfl rfl (show [].length + ([s2.2] : dy7).length ≤ 1000000000 from by (try simp only [List.length_cons, List.length_nil]) <;> omega) rfl rfl) rfl ?_
  refine ao_r (r_nilCheck rfl rfl) rfl ?_
  refine ao_r (r_fieldAddr Try.underlying59 rfl Try.sizeOf57 rfl rfl rfl) rfl ?_
  refine ao_effS trivial (e_store rfl rfl rfl rfl Try.sizeOf57 rfl) ?_
  refine ao_nil ?_
  refine aq_then ?_
  refine aw_seq ?_
  refine aw_seq ?_
  refine aw_region ?_
  refine ao_r (r_assign rfl) rfl ?_
  refine ao_nil ?_
  refine aq_then ?_
  refine aw_block ?_
  refine aw_loop (AL.sub (sub_r1 (rn [(0, 1), (1, 5)]) (nk rfl) (by kernel_rfl)) (al_whl (fun (s13 : Int × dy7) => [(2, .int .i64 x2), (7, .ref 0 0), (10, .int .i64 s13.1)]) (fun (s13 : Int × dy7) => [(0, .var [.cell (.v ty2 x0), .cell (.os 1)]), (1, .row ty3 s13.2)]) (fun (s13 : Int × dy7) => True) h trivial (fun d15 s13 hI h ih15 => ?_)))
  replace h := is_whlS h
  refine al_round ?_
  refine aw_seq ?_
  refine aw_seq ?_
  refine aw_region ?_
  refine ao_r (r_move rfl) rfl ?_
  refine ao_r (r_move rfl) rfl ?_
  refine ao_r (r_leq rfl rfl) rfl ?_
  refine ao_nil ?_
  refine aq_then ?_
  refine aw_cond rfl (fun hb17 => ?_) (fun hb17 => ?_)
  have q18 := d_t hb17
  replace h := is_if (d_t hb17) h
  refine aw_skip ?_
  refine aq_then ?_
  refine aw_seq ?_
  refine aw_block ?_
  refine aw_seq ?_
  refine aw_region ?_
  refine ao_r (r_assign rfl) rfl ?_
  refine ao_nil ?_
  refine aq_then ?_
  refine aw_seq ?_
  refine aw_seq ?_
  refine aw_region ?_
  refine ao_r (r_move rfl) rfl ?_
  obtain ⟨r20, r20h, h⟩ := is_bind h
  refine ao_callV [0, 1] 2 trivial (c_impl_again_outcomes (is_mk r20h)) Try.func53 rfl rfl rfl rfl rfl ⟨rfl, rfl, trivial⟩ ⟨⟨_, rfl, ⟨ad_ren rfl, rfl, ad_ren rfl, rfl, trivial⟩⟩, ⟨_, rfl, rfl⟩, trivial⟩ rfl rfl rfl rfl rfl rfl rfl (fun r' H' hr => ?_)
  obtain ⟨rfl, rfl⟩ := hr
  refine ao_norm (y := .int .i64 r20) (H' := [(0, .var [.cell (.v ty2 x0), .cell (.os 1)]), (1, .row ty3 s13.2)]) rfl rfl ?_
  refine ao_r (r_move rfl) rfl ?_
  refine ao_nil ?_
  refine aq_then ?_
  refine aw_block ?_
  refine AW.sub (sub_nil (T := 11) (t := ty8) 3 rfl rfl rfl) ?_
  refine aw_loop (AL.sub (sub_r1 (rn [(1, 3), (2, 1)]) (nk rfl) (by kernel_rfl)) (al_whl (fun (s21 : Int × dy9) => [(2, .int .i64 x2), (7, .ref 0 0), (10, .int .i64 s13.1), (11, .os 1), (48, .int .i64 r20), (49, .int .i64 s21.1)]) (fun (s21 : Int × dy9) => [(0, .var [.cell (.v ty2 x0), .cell (.os 2)]), (1, .row ty8 s21.2), (2, .row ty3 s13.2)]) (fun (s21 : Int × dy9) => True) h trivial (fun d23 s21 hI h ih23 => ?_)))
  replace h := is_whlS h
  refine al_round ?_
  refine aw_seq ?_
  refine aw_region ?_
  refine ao_r (r_lss rfl rfl) rfl ?_
  refine ao_nil ?_
  refine aq_then ?_
  refine aw_seq ?_
  refine aw_cond rfl (fun hb25 => ?_) (fun hb25 => ?_)
  have q26 := d_t hb25
  replace h := is_if (d_t hb25) h
  refine aw_skip ?_
  refine aq_then ?_
  refine aw_seq ?_
  refine aw_block ?_
  refine aw_seq ?_
  refine aw_region ?_
  refine ao_r (r_move rfl) rfl ?_
  refine ao_r (r_assign rfl) rfl ?_
  refine ao_nil ?_
  refine aq_then ?_
  refine aw_seq ?_
  refine aw_region ?_
  refine ao_r (r_assign rfl) rfl ?_
  refine ao_nil ?_
  refine aq_then ?_
  refine aw_seq ?_
  refine aw_seq ?_
  refine aw_region ?_
  refine ao_r (r_move rfl) rfl ?_
  refine ao_callV [0, 2] 3 trivial (c_impl_again_sets (is_mk (rfl : p_impl_again_sets x0 s13.2 = _))) Try.func54 rfl rfl rfl rfl rfl ⟨rfl, rfl, trivial⟩ ⟨⟨_, rfl, ⟨ad_ren rfl, rfl, ad_ren rfl, rfl, trivial⟩⟩, ⟨_, rfl, rfl⟩, trivial⟩ rfl rfl rfl rfl rfl rfl rfl (fun r' H' hr => ?_)
  obtain ⟨rfl, rfl⟩ := hr
  refine ao_norm (y := .int .i64 (p_impl_again_sets x0 s13.2)) (H' := [(1, .row ty8 s21.2), (0, .var [.cell (.v ty2 x0), .cell (.os 2)]), (2, .row ty3 s13.2)]) rfl rfl ?_
  refine ao_r (r_move rfl) rfl ?_
  refine ao_nil ?_
  refine aq_then ?_
  refine aw_block ?_
  refine aw_loop (AL.sub (sub_r1 idn (nk rfl) (by kernel_rfl)) (al_whl (fun (s28 : Int × Int) => [(2, .int .i64 x2), (7, .ref 0 0), (10, .int .i64 s13.1), (11, .os 1), (12, .int .i64 s21.1), (13, .int .i64 s28.1), (48, .int .i64 r20), (49, .int .i64 s21.1), (53, .int .i64 (p_impl_again_sets x0 s13.2)), (54, .int .i64 s28.2)]) (fun (s28 : Int × Int) => [(0, .var [.cell (.v ty2 x0), .cell (.os 2)]), (1, .row ty8 s21.2), (2, .row ty3 s13.2)]) (fun (s28 : Int × Int) => 0 ≤ s28.1) h (by (try simp only [List.length_set, List.length_append, List.length_cons, List.length_nil, List.length_replicate, List.length_take, List.length_drop]) <;> omega) (fun d30 s28 hI h ih30 => ?_)))
  replace h := is_whlS h
  refine al_round ?_
  refine aw_seq ?_
  refine aw_region ?_
  refine ao_r (r_lss rfl rfl) rfl ?_
  refine ao_nil ?_
  refine aq_then ?_
  refine aw_seq ?_
  refine aw_cond rfl (fun hb32 => ?_) (fun hb32 => ?_)
  have q33 := d_t hb32
  replace h := is_if (d_t hb32) h
  refine aw_skip ?_
  refine aq_then ?_
  refine aw_seq ?_
  refine aw_block ?_
  refine aw_seq ?_
  refine aw_region ?_
  refine ao_r (r_move rfl) rfl ?_
  refine ao_r (r_assign rfl) rfl ?_
  refine ao_nil ?_
  refine aq_then ?_
  refine aw_region ?_
  refine ao_r (r_move rfl) rfl ?_
  refine ao_r (r_move rfl) rfl ?_
  refine ao_r (r_move rfl) rfl ?_
  refine ao_r (r_move rfl) rfl ?_
  refine ao_r (r_move rfl) rfl ?_
  obtain ⟨r35, r35h, h⟩ := is_bind h
  refine ao_callV [0, 2] 3 trivial (c_impl_again_setValue (is_mk r35h)) Try.func37 rfl rfl rfl rfl rfl ⟨rfl, rfl, trivial⟩ ⟨⟨_, rfl, ⟨ad_ren rfl, rfl, ad_ren rfl, rfl, trivial⟩⟩, ⟨_, rfl, rfl⟩, trivial⟩ rfl rfl rfl rfl rfl rfl rfl (fun r' H' hr => ?_)
  obtain ⟨rfl, rfl⟩ := hr
  refine ao_norm (y := .int .i64 r35) (H' := [(1, .row ty8 s21.2), (0, .var [.cell (.v ty2 x0), .cell (.os 2)]), (2, .row ty3 s13.2)]) rfl rfl ?_
  refine ao_r (r_max rfl rfl) rfl ?_
  refine ao_r (r_assign rfl) rfl ?_
  refine ao_nil ?_
  refine aq_in ?_
  refine aq_then ?_
  refine aw_region ?_
  refine ao_r (r_add rfl rfl) rfl ?_
  refine ao_r (r_move rfl) rfl ?_
  refine ao_nil ?_
  exact aq_again (AL.sub (sub_r1 idn (nk rfl) (by kernel_rfl)) (ih30 ((if r35 > s28.1 then r35 else s28.1), (IntKind.wrap .i64 (s28.2 + 1))) (by (try simp only [List.length_set, List.length_append, List.length_cons, List.length_nil, List.length_replicate, List.length_take, List.length_drop]) <;> omega) h))
  have q34 := d_f hb32
  replace h := is_else (d_f hb32) h
  refine aw_exit ?_
  refine aq_then_exit ?_
  refine aq_then_exit ?_
  refine aq_in_exit ?_
  refine aq_then ?_
  refine aw_region ?_
  refine ao_r (r_move rfl) rfl ?_
  refine ao_r (r_move rfl) rfl ?_
  refine ao_eff trivial (e_buildSlice (l := [(0, .tmp 66)]) (t := ty8) 3 ([s28.1] : dy9) rfl Try.underlying32 Try.zeroValue3 Try.sizeOf3 rfl rfl rfl rfl rfl rfl rfl) rfl ?_
  obtain ⟨g36, h⟩ := is_guard h
  refine ao_eff trivial (e_append (t := ty8) 4 rfl Try.underlying32 (rfl : Try.prog.info? 3 = some _) rfl rfl rfl rfl rfl rfl rfl (src_os rfl) (show s21.2.length + ([s28.1] : dy9).length ≤ 1000000000 from by (try simp only [List.length_cons, List.length_nil]) <;> omega) rfl rfl) rfl ?_
  refine ao_r (r_assign rfl) rfl ?_
  refine ao_nil ?_
  refine aq_in ?_
  refine aq_then ?_
  refine aw_region ?_
  refine ao_r (r_add rfl rfl) rfl ?_
  refine ao_r (r_move rfl) rfl ?_
  refine ao_nil ?_
  exact aq_again (AL.sub (sub_r1 (rn [(1, 4)]) (nk rfl) (by kernel_rfl)) (ih23 ((IntKind.wrap .i64 (s21.1 + 1)), (s21.2 ++ [s28.1])) trivial h))
  have q27 := d_f hb25
  replace h := is_else (d_f hb25) h
  refine aw_exit ?_
  refine aq_then_exit ?_
  refine aq_then_exit ?_
  refine aq_in_exit ?_
  refine aq_then ?_
  refine aw_region ?_
  refine ao_r (r_move rfl) rfl ?_
  refine ao_r (r_move rfl) rfl ?_
  refine ao_r (r_nilCheck rfl rfl) rfl ?_
  refine ao_r (r_fieldAddr Try.underlying59 rfl Try.sizeOf57 rfl rfl rfl) rfl ?_
  refine ao_r (r_load_cell Try.isAgg57 rfl rfl rfl) rfl ?_
  refine ao_r (r_move rfl) rfl ?_
  refine ao_eff trivial (e_build1 (t := ty8) 3 Try.underlying57 Try.zeroValue32 Try.sizeOf32 rfl rfl rfl rfl) rfl ?_
  obtain ⟨g37, h⟩ := is_guard h
  refine ao_eff trivial (e_append_os (t := ty3) 4 Try.underlying57 (rfl : Try.prog.info? 32 = some _) rfl rfl rfl rfl rfl rfl rfl rfl rfl (show s13.2.length + ([s21.2] : dy7).length ≤ 1000000000 from by (try simp only [List.length_cons, List.length_nil]) <;> omega) rfl rfl) rfl ?_
  refine ao_r (r_nilCheck rfl rfl) rfl ?_
  refine ao_r (r_fieldAddr Try.underlying59 rfl Try.sizeOf57 rfl rfl rfl) rfl ?_
  refine ao_effS trivial (e_store rfl rfl rfl rfl Try.sizeOf57 rfl) ?_
  refine ao_nil ?_
  refine aq_in ?_
  refine aq_then ?_
  refine aw_region ?_
  refine ao_r (r_move rfl) rfl ?_
  refine ao_r (r_add rfl rfl) rfl ?_
  refine ao_r (r_assign rfl) rfl ?_
  refine ao_nil ?_
  exact aq_again (AL.sub (sub_r1 (rn [(1, 4)]) (nk rfl) (by kernel_rfl)) (ih15 ((IntKind.wrap .i64 (s13.1 + 1)), (s13.2 ++ [s21.2])) trivial h))
  have q19 := d_f hb17
  replace h := is_else (d_f hb17) h
  refine aw_exit ?_
  refine aq_then_exit ?_
  refine aq_then_exit ?_
  refine aq_in_exit ?_
  refine aq_then ?_
  refine aw_seq ?_
  refine aw_region ?_
  refine ao_r (r_move rfl) rfl ?_
  refine ao_r (r_assign rfl) rfl ?_
  refine ao_nil ?_
  refine aq_then ?_
  refine aw_ret ?_
  refine aq_ret ?_
  obtain rfl := is_some h
  exact aq_finV (l := [.tmp 6]) (xs := [.ref 0 0]) idn [.ref 0 0] [(0, .var [.cell (.v ty2 x0), .cell (.os 1)]), (1, .row ty3 s13.2)] rfl (by exact ⟨rfl, trivial⟩) (by exact ⟨ad_ren rfl, trivial⟩) (by exact ⟨⟨_, rfl, ⟨ad_ren rfl, rfl, ad_ren rfl, rfl, trivial⟩⟩, ⟨_, rfl, rfl⟩, trivial⟩) rfl (nk rfl) ⟨rfl, rfl⟩
theorem c_impl_fraction {fu : Nat} {x0 : Int} {x1 : Int} {r : dy9} (h : Is (p_impl_fraction fu x0 x1) (some r)) :
    Scalar Try.prog 55 [.int .i64 x0, .int .i64 x1] (.v (.arr 2 ty8) r) := by
  unfold p_impl_fraction at h
  refine ac_enter ⟨22, 0⟩ Try.func55 rfl rfl rfl rfl rfl (fun Γ => ?_)
  refine aw_seq ?_
  refine aw_region ?_
  refine ao_eff trivial (e_alloc 0 (y := .v (.arr 2 ty8) ((List.replicate 2 0) : dy9)) Try.zeroValue29 (fun ρ h M => ra_zero_arr (t := ty8) rfl) rfl rfl rfl rfl rfl) rfl ?_
  refine ao_nil ?_
  refine aq_then ?_
  refine aw_seq ?_
  refine aw_region ?_
  refine ao_r (r_move rfl) rfl ?_
  refine ao_r (r_move rfl) rfl ?_
  refine ao_r (r_assign rfl) rfl ?_
  refine ao_r (r_assign rfl) rfl ?_
  refine ao_nil ?_
  refine aq_then ?_
  refine aw_seq ?_
  refine aw_block ?_
  refine aw_loop (AL.sub (sub_r1 idn (nk rfl) (by kernel_rfl)) (al_whl (fun (s1 : Int × Int) => [(0, .int .i64 x0), (1, .int .i64 x1), (4, .ref 0 0), (5, .int .i64 s1.1), (6, .int .i64 s1.2)]) (fun (s1 : Int × Int) => [(0, .var [.arr ty8 2 ((List.replicate 2 0) : dy9)])]) (fun (s1 : Int × Int) => True) h trivial (fun d3 s1 hI h ih3 => ?_)))
  replace h := is_whlS h
  refine al_round ?_
  refine aw_seq ?_
  refine aw_seq ?_
  refine aw_region ?_
  refine ao_r (r_move rfl) rfl ?_
  refine ao_r (r_neq rfl rfl) rfl ?_
  refine ao_nil ?_
  refine aq_then ?_
  refine aw_cond rfl (fun hb5 => ?_) (fun hb5 => ?_)
  have q6 := d_f (not_t hb5)
  replace h := is_else (d_f (not_t hb5)) h
  refine aw_skip ?_
  refine aq_then ?_
  refine aw_block ?_
  obtain ⟨g8, h⟩ := is_guard h
  refine aw_drawAll (by kernel_rfl) ?_
  refine an_r 0 (fun _ _ _ h => h) rfl (by kernel_rfl) (r_move rfl) rfl ?_
  refine an_r 1 (fun _ _ _ h => h) rfl (by kernel_rfl) (r_move rfl) rfl ?_
  refine an_r 2 (fun _ _ _ h => h) rfl (by kernel_rfl) (r_move rfl) rfl ?_
  refine an_r 3 (fun _ _ _ h => h) rfl (by kernel_rfl) (r_rem rfl rfl g8) rfl ?_
  refine an_r 4 (fun _ _ _ h => h) rfl (by kernel_rfl) (r_assign rfl) rfl ?_
  refine an_r 5 (fun _ _ _ h => h) rfl (by kernel_rfl) (r_assign rfl) rfl ?_
  refine an_done rfl ?_
  refine aq_in ?_
  exact aq_again (AL.sub (sub_r1 idn (nk rfl) (by kernel_rfl)) (ih3 (s1.2, (s1.1.tmod s1.2)) trivial h))
  have q7 := d_t (not_f hb5)
  replace h := is_if (d_t (not_f hb5)) h
  refine aw_exit ?_
  refine aq_then_exit ?_
  refine aq_then_exit ?_
  refine aq_in_exit ?_
  refine aq_then ?_
  refine aw_seq ?_
  obtain ⟨g9, h⟩ := is_guard h
  obtain ⟨g10, h⟩ := is_guard h
  refine aw_draw 7 (by kernel_rfl) (by kernel_rfl) ?_
  refine an_r 0 (fun _ _ _ h => h) rfl (by kernel_rfl) (r_move rfl) rfl ?_
  refine an_r 1 (fun _ _ _ h => h) rfl (by kernel_rfl) (r_move rfl) rfl ?_
  refine an_r 2 (fun _ _ _ h => h) rfl (by kernel_rfl) (r_quo rfl rfl g9) rfl ?_
  refine an_r 3 (fun _ _ _ h => h) rfl (by kernel_rfl) (r_move rfl) rfl ?_
  refine an_r 4 (fun _ _ _ h => h) rfl (by kernel_rfl) (r_move rfl) rfl ?_
  refine an_r 5 (fun _ _ _ h => h) rfl (by kernel_rfl) (r_quo rfl rfl g10) rfl ?_
  refine an_r 6 (fun _ _ _ h => h) rfl (by kernel_rfl) (r_build_arr (l := [(0, .tmp 17), (1, .tmp 20)]) (t := ty8) ([(IntKind.wrap .i64 (x0.tdiv s1.1)), (IntKind.wrap .i64 (x1.tdiv s1.1))] : dy9) rfl Try.underlying29 Try.zeroValue29 Try.sizeOf3 rfl rfl rfl rfl) rfl ?_
  refine an_tail rfl rfl ?_
  refine ao_effS trivial (e_store rfl rfl rfl rfl Try.sizeOf29 rfl) ?_
  refine ao_nil ?_
  refine aq_then ?_
  refine aw_ret ?_
  refine aq_ret ?_
  obtain rfl := is_some h
  exact aq_finx (l := [.cell 4 29]) (xs := [.v (.arr 2 ty8) ([(IntKind.wrap .i64 (x0.tdiv s1.1)), (IntKind.wrap .i64 (x1.tdiv s1.1))] : dy9)]) idn [.v (.arr 2 ty8) ([(IntKind.wrap .i64 (x0.tdiv s1.1)), (IntKind.wrap .i64 (x1.tdiv s1.1))] : dy9)] [] rfl (by exact ⟨⟨⟨_, _, rfl⟩, r_load_arr rfl Try.isAgg29 Try.sizeOf29 rfl rfl rfl⟩, trivial⟩) (by exact ⟨ad_ren rfl, trivial⟩) (by exact trivial) rfl (nk rfl) rfl rfl ⟨rfl, rfl⟩
theorem c_impl_again_mean {fu : Nat} {x0 : Int} {x1 : Int} {x2 : dy7} {x3 : dy7} {r : dy9} (h : Is (p_impl_again_mean fu x0 x1 x2 x3) (some r)) :
    ACallsV Try.prog 27 [.ref 0 0, .int .i64 x0, .int .i64 x1] [(0, .var [.cell (.v ty2 x2), .cell (.os 1)]), (1, .row ty3 x3)] (fun r' H' => r' = .v (.arr 2 ty8) r ∧ H' = [(0, .var [.cell (.v ty2 x2), .cell (.os 1)]), (1, .row ty3 x3)]) := by
  unfold p_impl_again_mean at h
  refine ac_enterV ⟨17, 2⟩ Try.func27 rfl rfl rfl rfl rfl (fun Γ => ?_)
  refine row_len_m 1 (x3.length : Int) rfl rfl (fun hr1 => ?_)
  refine aw_seq ?_
  refine aw_region ?_
  refine ao_eff trivial (e_alloc 2 (y := .v (.arr 2 ty8) ((List.replicate 2 0) : dy9)) Try.zeroValue29 (fun ρ h M => ra_zero_arr (t := ty8) rfl) rfl rfl rfl rfl rfl) rfl ?_
  refine ao_nil ?_
  refine aq_then ?_
  refine aw_seq ?_
  refine aw_region ?_
  refine ao_r (r_move rfl) rfl ?_
  refine ao_r (r_move rfl) rfl ?_
  refine ao_r (r_nilCheck rfl rfl) rfl ?_
  refine ao_r (r_fieldAddr Try.underlying59 rfl Try.sizeOf24 rfl rfl rfl) rfl ?_
  refine ao_r (r_load_cell Try.isAgg24 rfl rfl rfl) rfl ?_
  refine ao_r (r_len_vm (x2.length : Int) Try.underlying24 rfl rfl) rfl ?_
  refine ao_r (r_move rfl) rfl ?_
  refine ao_r (r_mul rfl rfl) rfl ?_
  obtain ⟨r1, r1h, h⟩ := is_bind h
  refine ao_scall trivial (scall (c_impl_power (is_mk r1h)) rfl Try.func52 rfl rfl rfl rfl (fun σ => ⟨ad_ren rfl, trivial⟩)) rfl ?_
  obtain ⟨r2, r2h, h⟩ := is_bind h
  refine ao_scall trivial (scall (c_impl_fraction (is_mk r2h)) rfl Try.func55 rfl rfl rfl rfl (fun σ => ⟨ad_ren rfl, ad_ren rfl, trivial⟩)) rfl ?_
  refine ao_effS trivial (e_store rfl rfl rfl rfl Try.sizeOf29 rfl) ?_
  refine ao_nil ?_
  refine aq_then ?_
  refine aw_ret ?_
  refine aq_ret ?_
  obtain rfl := is_some h
  exact aq_finV (l := [.cell 6 29]) (xs := [.v (.arr 2 ty8) r2]) idn [.v (.arr 2 ty8) r2] [(0, .var [.cell (.v ty2 x2), .cell (.os 1)]), (1, .row ty3 x3)] rfl (by exact ⟨⟨⟨_, _, rfl⟩, r_load_arr rfl Try.isAgg29 Try.sizeOf29 rfl rfl rfl⟩, trivial⟩) (by exact ⟨ad_ren rfl, trivial⟩) (by exact ⟨⟨_, rfl, ⟨ad_ren rfl, rfl, ad_ren rfl, rfl, trivial⟩⟩, ⟨_, rfl, rfl⟩, trivial⟩) rfl (nk2 rfl rfl rfl) ⟨rfl, rfl⟩
theorem c_impl_ValueOf {fu : Nat} {x0 : dy7} {x1 : dy5} {x2 : Int} {x3 : Int} {r : dy9 × Bool} (h : Is (p_impl_ValueOf fu x0 x1 x2 x3) (some r)) :
    Scalar Try.prog 6 [.v ty2 x0, .v ty1 x1, .int .i64 x2, .int .i64 x3] (.tup [.v (.arr 2 ty8) r.1, .bool r.2]) := by
  unfold p_impl_ValueOf at h
  refine ac_enter ⟨40, 0⟩ Try.func6 rfl rfl rfl rfl rfl (fun Γ => ?_)
  refine sl_len_m 0 (x0.length : Int) rfl rfl (fun hl0 => ?_)
  refine aw_seq ?_
  refine aw_region ?_
  refine ao_eff trivial (e_box 0 rfl rfl rfl rfl rfl rfl) rfl ?_
  refine ao_eff trivial (e_alloc 1 (y := .v (.arr 2 ty8) ((List.replicate 2 0) : dy9)) Try.zeroValue29 (fun ρ h M => ra_zero_arr (t := ty8) rfl) rfl rfl rfl rfl rfl) rfl ?_
  refine ao_r (r_assign rfl) rfl ?_
  refine ao_nil ?_
  refine aq_then ?_
  refine aw_seq ?_
  refine aw_seq ?_
  refine aw_region ?_
  refine ao_r (r_move rfl) rfl ?_
  refine ao_r (r_load_part (τ := ty1) (y := ((x1.1, (x1.2.1, ())) : dy5)) [] [] rfl Try.isAgg26 Try.sizeOf26 rfl rfl rfl rfl) rfl ?_
  refine ao_r (r_move rfl) rfl ?_
  refine ao_scall trivial (scall (c_impl_isAgain (is_mk (rfl : p_impl_isAgain x0 (x1.1, (x1.2.1, ())) x3 0 = _))) rfl Try.func24 rfl rfl rfl rfl (fun σ => ⟨ad_ren rfl, ad_ren rfl, ad_ren rfl, ad_ren rfl, trivial⟩)) rfl ?_
  refine ao_r (r_not rfl) rfl ?_
  refine ao_r (r_move rfl) rfl ?_
  refine ao_readG (x := .v ty2 x0) rfl (GV.F rfl) (fun hg1 => r_move rfl) rfl ?_
  refine ao_readG (x := .int .i64 x2) rfl (GV.F rfl) (fun hg2 => r_move rfl) rfl ?_
  obtain ⟨g4, h⟩ := is_guard h
  refine ao_scallG (r := .bool ((p_impl_isOutcome fu x0 x2).getD false)) rfl (GV.F rfl) (fun hg3 => SCall.strip 17 rfl (hg3) (SCall.strip 18 rfl (hg3) (scall (c_impl_isOutcome (is_mk (isSome_getD (g4 hg3)))) rfl Try.func25 rfl rfl rfl rfl (fun σ => ⟨ad_ren rfl, ad_ren rfl, trivial⟩)))) rfl ?_
  refine ao_readG (x := .bool (!((p_impl_isOutcome fu x0 x2).getD false))) rfl (GV.F rfl) (fun hg5 => Reads.strip 19 rfl (hg5) (r_not rfl)) rfl ?_
  refine ao_r (r_orB rfl rfl) rfl ?_
  refine ao_nil ?_
  refine aq_then ?_
  refine aw_cond rfl (fun hb6 => ?_) (fun hb6 => ?_)
  replace h := is_if hb6 h
  refine aw_seq ?_
  refine aw_region ?_
  refine ao_r (r_build_zero (t := ty8) Try.underlying29 Try.zeroValue29 Try.sizeOf3 rfl) rfl ?_
  refine ao_effS trivial (e_store rfl rfl rfl rfl Try.sizeOf29 rfl) ?_
  refine ao_r (r_assign rfl) rfl ?_
  refine ao_nil ?_
  refine aq_then ?_
  refine aw_ret ?_
  refine aq_then_ret ?_
  refine aq_ret ?_
  obtain rfl := is_some h
  exact aq_finx (l := [.cell 8 29, .tmp 9]) (xs := [.v (.arr 2 ty8) ((List.replicate 2 0) : dy9), .bool false]) idn [.v (.arr 2 ty8) ((List.replicate 2 0) : dy9), .bool false] [] rfl (by exact ⟨⟨⟨_, _, rfl⟩, r_load_arr rfl Try.isAgg29 Try.sizeOf29 rfl rfl rfl⟩, rfl, trivial⟩) (by exact ⟨ad_ren rfl, ad_ren rfl, trivial⟩) (by exact trivial) rfl (nk rfl) rfl rfl ⟨rfl, rfl⟩
  obtain ⟨q7, q8⟩ := or_f hb6
  replace h := is_else (ne_t hb6) h
  refine aw_skip ?_
  refine aq_then ?_
  refine aw_seq ?_
  refine aw_region ?_
  refine ao_r (r_move rfl) rfl ?_
  refine ao_r (r_load_part (τ := ty1) (y := ((x1.1, (x1.2.1, ())) : dy5)) [] [] rfl Try.isAgg26 Try.sizeOf26 rfl rfl rfl rfl) rfl ?_
  refine ao_r (r_move rfl) rfl ?_
  obtain ⟨r9, r9h, h⟩ := is_bind h
  refine ao_callV [] 2 trivial (c_impl_againOf (is_mk r9h)) Try.func26 rfl rfl rfl rfl rfl trivial trivial rfl rfl rfl rfl rfl rfl rfl (fun r' H' hr => ?_)
  obtain ⟨rfl, rfl⟩ := hr
  refine ao_norm (y := .ref 2 0) (H' := [(1, .var [.arr ty8 2 ((List.replicate 2 0) : dy9)]), (0, .var [ci x1.1, ci x1.2.1]), (2, .var [.cell (.v ty2 r9.1), .cell (.os 3)]), (3, .row ty3 r9.2)]) rfl rfl ?_
  refine ao_r (r_assign rfl) rfl ?_
  refine ao_nil ?_
  refine aq_then ?_
  refine aw_seq ?_
  refine aw_region ?_
  refine ao_r (r_move rfl) rfl ?_
  refine ao_r (r_move rfl) rfl ?_
  refine ao_r (r_nilCheck rfl rfl) rfl ?_
  refine ao_r (r_fieldAddr Try.underlying59 rfl Try.sizeOf57 rfl rfl rfl) rfl ?_
  refine ao_r (r_load_cell Try.isAgg57 rfl rfl rfl) rfl ?_
  refine ao_r (r_move rfl) rfl ?_
  obtain ⟨g10, h⟩ := is_guard h
  obtain ⟨g11, h⟩ := is_guard h
  refine ao_r (r_idxAddr_os Try.underlying57 Try.sizeOf32 rfl rfl rfl (show 0 ≤ x3 from by omega) (show x3 < (r9.2.length : Int) from by omega)) rfl ?_
  refine ao_r (r_load_elemv (t := ty3) Try.isAgg32 Try.sizeOf32 rfl rfl (show x3.toNat < r9.2.length from by omega)) rfl ?_
  refine ao_r (r_move rfl) rfl ?_
  obtain ⟨g12, h⟩ := is_guard h
  obtain ⟨g13, h⟩ := is_guard h
  refine ao_r (r_idxAddr_int Try.underlying32 Try.sizeOf3 rfl rfl (show 0 ≤ x2 from by omega) (show x2 < ((r9.2.getD x3.toNat []).length : Int) from by (try simp only [List.length_cons, List.length_nil]) <;> omega)) rfl ?_
  refine ao_r (r_load_c_int Try.isAgg3 Try.sizeOf3 rfl) rfl ?_
  refine ao_r (r_move rfl) rfl ?_
  obtain ⟨r14, r14h, h⟩ := is_bind h
  refine ao_callV [2, 3] 4 trivial (c_impl_again_mean (is_mk r14h)) Try.func27 rfl rfl rfl rfl rfl ⟨rfl, rfl, trivial⟩ ⟨⟨_, rfl, ⟨ad_ren rfl, rfl, ad_ren rfl, rfl, trivial⟩⟩, ⟨_, rfl, rfl⟩, trivial⟩ rfl rfl rfl rfl rfl rfl rfl (fun r' H' hr => ?_)
  obtain ⟨rfl, rfl⟩ := hr
  refine ao_norm (y := .v (.arr 2 ty8) r14) (H' := [(1, .var [.arr ty8 2 ((List.replicate 2 0) : dy9)]), (0, .var [ci x1.1, ci x1.2.1]), (2, .var [.cell (.v ty2 r9.1), .cell (.os 3)]), (3, .row ty3 r9.2)]) rfl rfl ?_
  refine ao_effS trivial (e_store rfl rfl rfl rfl Try.sizeOf29 rfl) ?_
  refine ao_r (r_assign rfl) rfl ?_
  refine ao_nil ?_
  refine aq_then ?_
  refine aw_ret ?_
  refine aq_ret ?_
  obtain rfl := is_some h
  exact aq_finx (l := [.cell 8 29, .tmp 9]) (xs := [.v (.arr 2 ty8) r14, .bool true]) idn [.v (.arr 2 ty8) r14, .bool true] [] rfl (by exact ⟨⟨⟨_, _, rfl⟩, r_load_arr rfl Try.isAgg29 Try.sizeOf29 rfl rfl rfl⟩, rfl, trivial⟩) (by exact ⟨ad_ren rfl, ad_ren rfl, trivial⟩) (by exact trivial) rfl (nk rfl) rfl rfl ⟨rfl, rfl⟩
theorem c_spec_l6Goal {x0 : dy5} {r : Bool} (h : Is (p_spec_l6Goal x0) r) :
    Scalar Try.prog 40 [.v ty1 x0] (.bool r) := by
  unfold p_spec_l6Goal at h
  refine ac_enter ⟨22, 0⟩ Try.func40 rfl rfl rfl rfl rfl (fun Γ => ?_)
  refine aw_seq ?_
  refine aw_region ?_
  refine ao_eff trivial (e_box 0 rfl rfl rfl rfl rfl rfl) rfl ?_
  refine ao_r (r_assign rfl) rfl ?_
  refine ao_nil ?_
  refine aq_then ?_
  refine aw_seq ?_
  refine aw_seq ?_
  refine aw_region ?_
  refine ao_r (r_fieldAddr Try.underlying26 rfl Try.sizeOf3 rfl rfl rfl) rfl ?_
  refine ao_r (r_load_cell Try.isAgg3 rfl rfl rfl) rfl ?_
  refine ao_r (r_eql rfl rfl) rfl ?_
  refine ao_r (r_move rfl) rfl ?_
  refine ao_readG (x := .ref 0 0) rfl (GV.F rfl) (fun hg1 => by
        have q2 := d_f (not_t hg1)
        exact r_fieldAddr Try.underlying26 rfl Try.sizeOf3 rfl rfl rfl) rfl ?_
  refine ao_readG (x := .int .i64 x0.1) rfl (GV.F rfl) (fun hg3 => by
        have q4 := d_f (not_t hg3)
        exact Reads.strip 7 rfl (hg3) (r_load_cell Try.isAgg3 rfl rfl rfl)) rfl ?_
  refine ao_readG (x := .bool (decide (x0.1 = 3))) rfl (GV.F rfl) (fun hg5 => by
        have q6 := d_f (not_t hg5)
        exact Reads.strip 8 rfl (hg5) (r_eql rfl rfl)) rfl ?_
  refine ao_r (r_orB rfl rfl) rfl ?_
  refine ao_nil ?_
  refine aq_then ?_
  refine aw_cond rfl (fun hb7 => ?_) (fun hb7 => ?_)
  replace h := is_if hb7 h
  refine aw_seq ?_
  refine aw_region ?_
  refine ao_r (r_fieldAddr Try.underlying26 rfl Try.sizeOf3 rfl rfl rfl) rfl ?_
  refine ao_r (r_load_cell Try.isAgg3 rfl rfl rfl) rfl ?_
  refine ao_scall trivial (scall (c_spec_l1In (is_mk (rfl : p_spec_l1In x0.2.1 0 120 = _))) rfl Try.func38 rfl rfl rfl rfl (fun σ => ⟨ad_ren rfl, ad_ren rfl, ad_ren rfl, trivial⟩)) rfl ?_
  refine ao_r (r_assign rfl) rfl ?_
  refine ao_nil ?_
  refine aq_then ?_
  refine aw_ret ?_
  refine aq_then_ret ?_
  refine aq_ret ?_
  obtain rfl := is_eq h
  exact aq_finx (l := [.tmp 2]) (xs := [.bool (p_spec_l1In x0.2.1 0 120)]) idn [.bool (p_spec_l1In x0.2.1 0 120)] [] rfl (by exact ⟨rfl, trivial⟩) (by exact ⟨ad_ren rfl, trivial⟩) (by exact trivial) rfl (nk rfl) rfl rfl ⟨rfl, rfl⟩
  obtain ⟨q8, q9⟩ := or_f hb7
  have q10 := d_f q8
  have q11 := d_f q9
  replace h := is_else (ne_t hb7) h
  refine aw_skip ?_
  refine aq_then ?_
  refine aw_seq ?_
  refine aw_region ?_
  refine ao_r (r_fieldAddr Try.underlying26 rfl Try.sizeOf3 rfl rfl rfl) rfl ?_
  refine ao_r (r_load_cell Try.isAgg3 rfl rfl rfl) rfl ?_
  refine ao_scall trivial (scall (c_spec_l1In (is_mk (rfl : p_spec_l1In x0.1 1 5 = _))) rfl Try.func38 rfl rfl rfl rfl (fun σ => ⟨ad_ren rfl, ad_ren rfl, ad_ren rfl, trivial⟩)) rfl ?_
  refine ao_r (r_move rfl) rfl ?_
  refine ao_readG (x := .ref 0 1) rfl (GV.T rfl) (fun hg12 => r_fieldAddr Try.underlying26 rfl Try.sizeOf3 rfl rfl rfl) rfl ?_
  refine ao_readG (x := .int .i64 x0.2.1) rfl (GV.T rfl) (fun hg13 => Reads.strip 18 rfl (hg13) (r_load_cell Try.isAgg3 rfl rfl rfl)) rfl ?_
  refine ao_readG (x := .bool (decide (x0.2.1 = 0))) rfl (GV.T rfl) (fun hg14 => Reads.strip 19 rfl (hg14) (r_eql rfl rfl)) rfl ?_
  refine ao_r (r_andB rfl rfl) rfl ?_
  refine ao_r (r_assign rfl) rfl ?_
  refine ao_nil ?_
  refine aq_then ?_
  refine aw_ret ?_
  refine aq_ret ?_
  obtain rfl := is_eq h
  exact aq_finx (l := [.tmp 2]) (xs := [.bool ((p_spec_l1In x0.1 1 5) && (decide (x0.2.1 = 0)))]) idn [.bool ((p_spec_l1In x0.1 1 5) && (decide (x0.2.1 = 0)))] [] rfl (by exact ⟨rfl, trivial⟩) (by exact ⟨ad_ren rfl, trivial⟩) (by exact trivial) rfl (nk rfl) rfl rfl ⟨rfl, rfl⟩
theorem c_spec_l6Good {x0 : dy7} {x1 : dy5} {x2 : Int} {r : Bool} (h : Is (p_spec_l6Good x0 x1 x2) (some r)) :
    Scalar Try.prog 28 [.v ty2 x0, .v ty1 x1, .int .i64 x2] (.bool r) := by
  unfold p_spec_l6Good at h
  refine ac_enter ⟨22, 0⟩ Try.func28 rfl rfl rfl rfl rfl (fun Γ => ?_)
  refine sl_len_m 0 (x0.length : Int) rfl rfl (fun hl0 => ?_)
  refine aw_seq ?_
  refine aw_region ?_
  refine ao_eff trivial (e_box 0 rfl rfl rfl rfl rfl rfl) rfl ?_
  refine ao_r (r_assign rfl) rfl ?_
  refine ao_nil ?_
  refine aq_then ?_
  refine aw_seq ?_
  refine aw_region ?_
  refine ao_r (r_move rfl) rfl ?_
  obtain ⟨r1, r1h, h⟩ := is_bind h
  refine ao_scall trivial (scall (c_spec_l2Pool (is_mk r1h)) rfl Try.func49 rfl rfl rfl rfl (fun σ => ⟨ad_ren rfl, trivial⟩)) rfl ?_
  refine ao_r (r_move rfl) rfl ?_
  refine ao_readG (x := .v ty2 x0) rfl (GV.T rfl) (fun hg2 => r_move rfl) rfl ?_
  refine ao_readG (x := .int .i64 (x0.length : Int)) rfl (GV.T rfl) (fun hg3 => Reads.strip 10 rfl (hg3) (r_len_vm (x0.length : Int) Try.underlying24 rfl rfl)) rfl ?_
  refine ao_readG (x := .bool (decide ((x0.length : Int) ≤ 3))) rfl (GV.T rfl) (fun hg4 => Reads.strip 11 rfl (hg4) (r_leq rfl rfl)) rfl ?_
  refine ao_r (r_andB rfl rfl) rfl ?_
  refine ao_r (r_move rfl) rfl ?_
  refine ao_readG (x := .v ty1 ((x1.1, (x1.2.1, ())) : dy5)) rfl (GV.T rfl) (fun hg5 => by
        obtain ⟨q6, q7⟩ := and_t hg5
        have q8 := d_t q7
        exact r_load_part (τ := ty1) (y := ((x1.1, (x1.2.1, ())) : dy5)) [] [] rfl Try.isAgg26 Try.sizeOf26 rfl rfl rfl rfl) rfl ?_
  refine ao_scallG (r := .bool (p_spec_l6Goal (x1.1, (x1.2.1, ())))) rfl (GV.T rfl) (fun hg9 => by
        obtain ⟨q10, q11⟩ := and_t hg9
        have q12 := d_t q11
        exact SCall.strip 15 rfl (hg9) (scall (c_spec_l6Goal (is_mk (rfl : p_spec_l6Goal (x1.1, (x1.2.1, ())) = _))) rfl Try.func40 rfl rfl rfl rfl (fun σ => ⟨ad_ren rfl, trivial⟩))) rfl ?_
  refine ao_r (r_andB rfl rfl) rfl ?_
  refine ao_r (r_move rfl) rfl ?_
  refine ao_readG (x := .int .i64 x2) rfl (GV.T rfl) (fun hg13 => by
        obtain ⟨q14, q15⟩ := and_t hg13
        obtain ⟨q16, q17⟩ := and_t q14
        have q18 := d_t q17
        exact r_move rfl) rfl ?_
  refine ao_scallG (r := .bool (p_spec_l1In x2 0 2)) rfl (GV.T rfl) (fun hg19 => by
        obtain ⟨q20, q21⟩ := and_t hg19
        obtain ⟨q22, q23⟩ := and_t q20
        have q24 := d_t q23
        exact SCall.strip 19 rfl (hg19) (scall (c_spec_l1In (is_mk (rfl : p_spec_l1In x2 0 2 = _))) rfl Try.func38 rfl rfl rfl rfl (fun σ => ⟨ad_ren rfl, ad_ren rfl, ad_ren rfl, trivial⟩))) rfl ?_
  refine ao_r (r_andB rfl rfl) rfl ?_
  refine ao_r (r_assign rfl) rfl ?_
  refine ao_nil ?_
  refine aq_then ?_
  refine aw_ret ?_
  refine aq_ret ?_
  obtain rfl := is_some h
  exact aq_finx (l := [.tmp 6]) (xs := [.bool (((r1 && (decide ((x0.length : Int) ≤ 3))) && (p_spec_l6Goal (x1.1, (x1.2.1, ())))) && (p_spec_l1In x2 0 2))]) idn [.bool (((r1 && (decide ((x0.length : Int) ≤ 3))) && (p_spec_l6Goal (x1.1, (x1.2.1, ())))) && (p_spec_l1In x2 0 2))] [] rfl (by exact ⟨rfl, trivial⟩) (by exact ⟨ad_ren rfl, trivial⟩) (by exact trivial) rfl (nk rfl) rfl rfl ⟨rfl, rfl⟩
theorem c_spec_l6Number {fu : Nat} {x0 : dy7} {x1 : Int} {r : Bool} (h : Is (p_spec_l6Number fu x0 x1) (some r)) :
    Scalar Try.prog 29 [.v ty2 x0, .int .i64 x1] (.bool r) := by
  unfold p_spec_l6Number at h
  refine ac_enter ⟨11, 0⟩ Try.func29 rfl rfl rfl rfl rfl (fun Γ => ?_)
  refine sl_len_m 0 (x0.length : Int) rfl rfl (fun hl0 => ?_)
  refine aw_seq ?_
  refine aw_region ?_
  refine ao_r (r_assign rfl) rfl ?_
  refine ao_nil ?_
  refine aq_then ?_
  refine aw_seq ?_
  refine aw_region ?_
  refine ao_r (r_move rfl) rfl ?_
  refine ao_r (r_move rfl) rfl ?_
  refine ao_r (r_len_vm (x0.length : Int) Try.underlying24 rfl rfl) rfl ?_
  obtain ⟨r1, r1h, h⟩ := is_bind h
  refine ao_scall trivial (scall (c_spec_l2All (is_mk r1h)) rfl Try.func51 rfl rfl rfl rfl (fun σ => ⟨ad_ren rfl, trivial⟩)) rfl ?_
  refine ao_r (r_sub rfl rfl) rfl ?_
  refine ao_scall trivial (scall (c_spec_l1In (is_mk (rfl : p_spec_l1In x1 0 (IntKind.wrap .i64 (r1 - 1)) = _))) rfl Try.func38 rfl rfl rfl rfl (fun σ => ⟨ad_ren rfl, ad_ren rfl, ad_ren rfl, trivial⟩)) rfl ?_
  refine ao_r (r_assign rfl) rfl ?_
  refine ao_nil ?_
  refine aq_then ?_
  refine aw_ret ?_
  refine aq_ret ?_
  obtain rfl := is_some h
  exact aq_finx (l := [.tmp 4]) (xs := [.bool (p_spec_l1In x1 0 (IntKind.wrap .i64 (r1 - 1)))]) idn [.bool (p_spec_l1In x1 0 (IntKind.wrap .i64 (r1 - 1)))] [] rfl (by exact ⟨rfl, trivial⟩) (by exact ⟨ad_ren rfl, trivial⟩) (by exact trivial) rfl (nk rfl) rfl rfl ⟨rfl, rfl⟩
theorem c_spec_l2Roll {fu : Nat} {x0 : dy7} {x1 : Int} {r : dy9} (h : Is (p_spec_l2Roll fu x0 x1) (some r)) :
    ACalls Try.prog 58 [.v ty2 x0, .int .i64 x1] [] (fun r' H' => r' = .os 0 ∧ H' = [(0, .row ty8 r)]) := by
  unfold p_spec_l2Roll at h
  refine ac_enter ⟨30, 0⟩ Try.func58 rfl rfl rfl rfl rfl (fun Γ => ?_)
  refine sl_len_m 0 (x0.length : Int) rfl rfl (fun hl0 => ?_)
  refine aw_seq ?_
  refine aw_region ?_
  refine ao_r (r_assign rfl) rfl ?_
  refine ao_nil ?_
  refine aq_then ?_
  refine aw_seq ?_
  refine aw_region ?_
  refine ao_r (r_move rfl) rfl ?_
  refine ao_r (r_len_vm (x0.length : Int) Try.underlying24 rfl rfl) rfl ?_
  obtain ⟨g1, h⟩ := is_guard h
  refine ao_eff trivial (e_makeSlice 0 (t := ty8) Try.underlying32 (rfl : Try.prog.info? 3 = some _) rfl rfl rfl rfl rfl rfl (by omega) (by omega) rfl rfl) rfl ?_
  refine ao_r (r_assign rfl) rfl ?_
  refine ao_nil ?_
  refine aq_then ?_
  refine aw_seq ?_
  refine aw_seq ?_
  refine aw_region ?_
  refine ao_r (r_move rfl) rfl ?_
  refine ao_r (r_len_vm (x0.length : Int) Try.underlying24 rfl rfl) rfl ?_
  refine ao_r (r_subI rfl rfl (wrap_id (by omega) (by omega))) rfl ?_
  refine ao_r (r_assign rfl) rfl ?_
  refine ao_nil ?_
  refine aq_then ?_
  refine aw_block ?_
  refine aw_loop (AL.sub (sub_r1 idn (nk rfl) (by kernel_rfl)) (al_whl (fun (s2 : Int × Int × dy9) => [(0, .v ty2 x0), (1, .int .i64 s2.1), (5, .os 0), (6, .int .i64 s2.2.1)]) (fun (s2 : Int × Int × dy9) => [(0, .row ty8 s2.2.2)]) (fun (s2 : Int × Int × dy9) => s2.2.1 ≤ ((x0.length : Int) - 1) ∧ (s2.2.2.length : Int) = (x0.length : Int)) h ⟨(by (try simp only [List.length_set, List.length_append, List.length_cons, List.length_nil, List.length_replicate, List.length_take, List.length_drop]) <;> omega), (by (try simp only [List.length_set, List.length_append, List.length_cons, List.length_nil, List.length_replicate, List.length_take, List.length_drop]) <;> omega)⟩ (fun d4 s2 hI h ih4 => ?_)))
  obtain ⟨_, _⟩ := hI
  replace h := is_whlS h
  refine al_round ?_
  refine aw_seq ?_
  refine aw_seq ?_
  refine aw_region ?_
  refine ao_r (r_move rfl) rfl ?_
  refine ao_r (r_geq rfl rfl) rfl ?_
  refine ao_nil ?_
  refine aq_then ?_
  refine aw_cond rfl (fun hb6 => ?_) (fun hb6 => ?_)
  have q7 := d_t hb6
  replace h := is_if (d_t hb6) h
  refine aw_skip ?_
  refine aq_then ?_
  refine aw_seq ?_
  refine aw_block ?_
  refine aw_seq ?_
  refine aw_region ?_
  refine ao_r (r_move rfl) rfl ?_
  refine ao_r (r_move rfl) rfl ?_
  refine ao_r (r_move rfl) rfl ?_
  refine ao_r (r_move rfl) rfl ?_
  refine ao_r (r_move rfl) rfl ?_
  refine ao_r (r_rem rfl rfl (by decide)) rfl ?_
  refine ao_r (r_idxAddr (t := ty4) Try.underlying24 Try.sizeOf81 rfl rfl (show 0 ≤ s2.2.1 from by omega) (show s2.2.1 < (x0.length : Int) from by omega)) rfl ?_
  obtain ⟨g9, h⟩ := is_guard h
  obtain ⟨g10, h⟩ := is_guard h
  refine ao_r (r_idxAddr_ca (t := ty8) Try.underlying81 Try.sizeOf3 rfl rfl (by omega) (by omega)) rfl ?_
  refine ao_r (r_load_c_int Try.isAgg3 Try.sizeOf3 rfl) rfl ?_
  refine ao_r (r_idxAddr_os Try.underlying32 Try.sizeOf3 rfl rfl rfl (show 0 ≤ s2.2.1 from by omega) (show s2.2.1 < (s2.2.2.length : Int) from by omega)) rfl ?_
  refine ao_effS trivial (e_store_elem_int Try.sizeOf3 rfl rfl rfl rfl (show s2.2.1.toNat < s2.2.2.length from by omega) rfl) ?_
  refine ao_nil ?_
  refine aq_then ?_
  refine aw_region ?_
  refine ao_r (r_move rfl) rfl ?_
  refine ao_r (r_quo rfl rfl (by decide)) rfl ?_
  refine ao_r (r_assign rfl) rfl ?_
  refine ao_nil ?_
  refine aq_in ?_
  refine aq_then ?_
  refine aw_region ?_
  refine ao_r (r_move rfl) rfl ?_
  refine ao_r (r_subI rfl rfl (wrap_id (by omega) (by omega))) rfl ?_
  refine ao_r (r_assign rfl) rfl ?_
  refine ao_nil ?_
  exact aq_again (AL.sub (sub_r1 idn (nk rfl) (by kernel_rfl)) (ih4 ((IntKind.wrap .i64 (s2.1.tdiv 6)), (s2.2.1 - 1), (s2.2.2.set s2.2.1.toNat ((x0.getD s2.2.1.toNat (List.replicate 6 0)).getD (s2.1.tmod 6).toNat 0))) ⟨(by (try simp only [List.length_set, List.length_append, List.length_cons, List.length_nil, List.length_replicate, List.length_take, List.length_drop]) <;> omega), (by (try simp only [List.length_set, List.length_append, List.length_cons, List.length_nil, List.length_replicate, List.length_take, List.length_drop]) <;> omega)⟩ h))
  have q8 := d_f hb6
  replace h := is_else (d_f hb6) h
  refine aw_exit ?_
  refine aq_then_exit ?_
  refine aq_then_exit ?_
  refine aq_in_exit ?_
  refine aq_then ?_
  refine aw_seq ?_
  refine aw_region ?_
  refine ao_r (r_move rfl) rfl ?_
  refine ao_r (r_assign rfl) rfl ?_
  refine ao_nil ?_
  refine aq_then ?_
  refine aw_ret ?_
  refine aq_ret ?_
  obtain rfl := is_some h
  exact aq_finx (l := [.tmp 4]) (xs := [.os 0]) idn [.os 0] [(0, .row ty8 s2.2.2)] rfl (by exact ⟨rfl, trivial⟩) (by exact ⟨ad_ren rfl, trivial⟩) (by exact ⟨⟨_, rfl, rfl⟩, trivial⟩) rfl (nk rfl) rfl rfl ⟨rfl, rfl⟩
theorem c_spec_l1Most {x0 : Int} {x1 : Int} {r : Int} (h : Is (p_spec_l1Most x0 x1) r) :
    Scalar Try.prog 56 [.int .i64 x0, .int .i64 x1] (.int .i64 r) := by
  unfold p_spec_l1Most at h
  refine ac_enter ⟨10, 0⟩ Try.func56 rfl rfl rfl rfl rfl (fun Γ => ?_)
  refine aw_seq ?_
  refine aw_region ?_
  refine ao_r (r_assign rfl) rfl ?_
  refine ao_nil ?_
  refine aq_then ?_
  refine aw_seq ?_
  refine aw_seq ?_
  refine aw_region ?_
  refine ao_r (r_move rfl) rfl ?_
  refine ao_r (r_move rfl) rfl ?_
  refine ao_r (r_gtr rfl rfl) rfl ?_
  refine ao_nil ?_
  refine aq_then ?_
  refine aw_cond rfl (fun hb1 => ?_) (fun hb1 => ?_)
  have q2 := d_t hb1
  replace h := is_if (d_t hb1) h
  refine aw_seq ?_
  refine aw_region ?_
  refine ao_r (r_move rfl) rfl ?_
  refine ao_r (r_assign rfl) rfl ?_
  refine ao_nil ?_
  refine aq_then ?_
  refine aw_ret ?_
  refine aq_then_ret ?_
  refine aq_ret ?_
  obtain rfl := is_eq h
  exact aq_finx (l := [.tmp 4]) (xs := [.int .i64 x0]) idn [.int .i64 x0] [] rfl (by exact ⟨rfl, trivial⟩) (by exact ⟨ad_ren rfl, trivial⟩) (by exact trivial) rfl (nk rfl) rfl rfl ⟨rfl, rfl⟩
  have q3 := d_f hb1
  replace h := is_else (d_f hb1) h
  refine aw_skip ?_
  refine aq_then ?_
  refine aw_seq ?_
  refine aw_region ?_
  refine ao_r (r_move rfl) rfl ?_
  refine ao_r (r_assign rfl) rfl ?_
  refine ao_nil ?_
  refine aq_then ?_
  refine aw_ret ?_
  refine aq_ret ?_
  obtain rfl := is_eq h
  exact aq_finx (l := [.tmp 4]) (xs := [.int .i64 x1]) idn [.int .i64 x1] [] rfl (by exact ⟨rfl, trivial⟩) (by exact ⟨ad_ren rfl, trivial⟩) (by exact trivial) rfl (nk rfl) rfl rfl ⟨rfl, rfl⟩
theorem c_spec_l6One {x0 : Bool} {r : Int} (h : Is (p_spec_l6One x0) r) :
    Scalar Try.prog 74 [.bool x0] (.int .i64 r) := by
  unfold p_spec_l6One at h
  refine ac_enter ⟨4, 0⟩ Try.func74 rfl rfl rfl rfl rfl (fun Γ => ?_)
  refine aw_seq ?_
  refine aw_region ?_
  refine ao_r (r_assign rfl) rfl ?_
  refine ao_nil ?_
  refine aq_then ?_
  refine aw_seq ?_
  refine aw_seq ?_
  refine aw_region ?_
  refine ao_r (r_move rfl) rfl ?_
  refine ao_nil ?_
  refine aq_then ?_
  refine aw_cond rfl (fun hb1 => ?_) (fun hb1 => ?_)
  replace h := is_if hb1 h
  refine aw_seq ?_
  refine aw_region ?_
  refine ao_r (r_assign rfl) rfl ?_
  refine ao_nil ?_
  refine aq_then ?_
  refine aw_ret ?_
  refine aq_then_ret ?_
  refine aq_ret ?_
  obtain rfl := is_eq h
  exact aq_finx (l := [.tmp 2]) (xs := [.int .i64 1]) idn [.int .i64 1] [] rfl (by exact ⟨rfl, trivial⟩) (by exact ⟨ad_ren rfl, trivial⟩) (by exact trivial) rfl (nk rfl) rfl rfl ⟨rfl, rfl⟩
  replace h := is_else (ne_t hb1) h
  refine aw_skip ?_
  refine aq_then ?_
  refine aw_seq ?_
  refine aw_region ?_
  refine ao_r (r_assign rfl) rfl ?_
  refine ao_nil ?_
  refine aq_then ?_
  refine aw_ret ?_
  refine aq_ret ?_
  obtain rfl := is_eq h
  exact aq_finx (l := [.tmp 2]) (xs := [.int .i64 0]) idn [.int .i64 0] [] rfl (by exact ⟨rfl, trivial⟩) (by exact ⟨ad_ren rfl, trivial⟩) (by exact trivial) rfl (nk rfl) rfl rfl ⟨rfl, rfl⟩
theorem c_spec_l6Score {x0 : dy5} {x1 : dy9} {r : Int} (h : Is (p_spec_l6Score x0 x1) r) :
    Scalar Try.prog 57 [.v ty1 x0, .v ty3 x1] (.int .i64 r) := by
  unfold p_spec_l6Score at h
  refine ac_enter ⟨62, 0⟩ Try.func57 rfl rfl rfl rfl rfl (fun Γ => ?_)
  refine sl_len_m 1 (x1.length : Int) rfl rfl (fun hl1 => ?_)
  refine aw_seq ?_
  refine aw_region ?_
  refine ao_eff trivial (e_box 0 rfl rfl rfl rfl rfl rfl) rfl ?_
  refine ao_r (r_assign rfl) rfl ?_
  refine ao_nil ?_
  refine aq_then ?_
  refine aw_seq ?_
  refine aw_region ?_
  refine ao_r (r_assign rfl) rfl ?_
  refine ao_r (r_assign rfl) rfl ?_
  refine ao_r (r_assign rfl) rfl ?_
  refine ao_nil ?_
  refine aq_then ?_
  refine aw_seq ?_
  refine aw_seq ?_
  refine aw_region ?_
  refine ao_r (r_assign rfl) rfl ?_
  refine ao_nil ?_
  refine aq_then ?_
  refine aw_block ?_
  refine aw_loop (AL.sub (fr' := [(1, .v ty3 x1), (2, .ref 0 0), (5, .int .i64 0), (6, .int .i64 0), (7, .bool true), (8, .int .i64 0)]) (H' := [(0, .var [ci x0.1, ci x0.2.1])]) (sub_r1 idn (nk rfl) (by kernel_rfl)) (al_cnt (fun i2 (s1 : Int × Int × Bool) => [(1, .v ty3 x1), (2, .ref 0 0), (5, .int .i64 s1.1), (6, .int .i64 s1.2.1), (7, .bool s1.2.2), (8, .int .i64 i2)]) (fun i2 (s1 : Int × Int × Bool) => [(0, .var [ci x0.1, ci x0.2.1])]) (fun d i2 (s1 : Int × Int × Bool) => d = Int.toNat ((x1.length : Int) - i2) ∧ 0 ≤ i2 ∧ i2 ≤ (x1.length : Int)) h ⟨rfl, (by (try simp only [List.length_set, List.length_append, List.length_cons, List.length_nil, List.length_replicate, List.length_take, List.length_drop]) <;> omega), (by (try simp only [List.length_set, List.length_append, List.length_cons, List.length_nil, List.length_replicate, List.length_take, List.length_drop]) <;> omega)⟩ (fun d3 i2 s1 hI h ih3 => ?_)))
  obtain ⟨hd, _, _⟩ := hI
  refine al_round ?_
  refine aw_seq ?_
  refine aw_seq ?_
  refine aw_region ?_
  refine ao_r (r_move rfl) rfl ?_
  refine ao_r (r_move rfl) rfl ?_
  refine ao_r (r_len_vm (x1.length : Int) Try.underlying32 rfl rfl) rfl ?_
  refine ao_r (r_lss rfl rfl) rfl ?_
  refine ao_nil ?_
  refine aq_then ?_
  refine aw_cond rfl (fun hb5 => ?_) (fun hb5 => ?_)
  have q6 := d_t hb5
  obtain ⟨d3, rfl⟩ : ∃ e, d3 = e + 1 := ⟨d3 - 1, by omega⟩
  replace h := is_cntS h
  refine aw_skip ?_
  refine aq_then ?_
  refine aw_seq ?_
  refine aw_block ?_
  refine aw_seq ?_
  refine aw_region ?_
  refine ao_r (r_move rfl) rfl ?_
  refine ao_r (r_move rfl) rfl ?_
  refine ao_r (r_move rfl) rfl ?_
  refine ao_r (r_idxAddr_int Try.underlying32 Try.sizeOf3 rfl rfl (show 0 ≤ i2 from by omega) (show i2 < (x1.length : Int) from by omega)) rfl ?_
  refine ao_r (r_load_c_int Try.isAgg3 Try.sizeOf3 rfl) rfl ?_
  refine ao_r (r_add rfl rfl) rfl ?_
  refine ao_r (r_assign rfl) rfl ?_
  refine ao_nil ?_
  refine aq_then ?_
  refine aw_seq ?_
  refine aw_region ?_
  refine ao_r (r_move rfl) rfl ?_
  refine ao_r (r_move rfl) rfl ?_
  refine ao_r (r_move rfl) rfl ?_
  refine ao_r (r_idxAddr_int Try.underlying32 Try.sizeOf3 rfl rfl (show 0 ≤ i2 from by omega) (show i2 < (x1.length : Int) from by omega)) rfl ?_
  refine ao_r (r_load_c_int Try.isAgg3 Try.sizeOf3 rfl) rfl ?_
  refine ao_scall trivial (scall (c_spec_l1Most (is_mk (rfl : p_spec_l1Most s1.2.1 (x1.getD i2.toNat 0) = _))) rfl Try.func56 rfl rfl rfl rfl (fun σ => ⟨ad_ren rfl, ad_ren rfl, trivial⟩)) rfl ?_
  refine ao_r (r_assign rfl) rfl ?_
  refine ao_nil ?_
  refine aq_then ?_
  refine aw_drawAll (by kernel_rfl) ?_
  refine an_r 0 (fun _ _ _ h => h) rfl (by kernel_rfl) (r_move rfl) rfl ?_
  refine an_r 1 (fun _ _ _ h => h) rfl (by kernel_rfl) (r_move rfl) rfl ?_
  refine an_readG 2 (x := .v ty3 x1) (by kernel_rfl) (fun _ _ _ h => h) rfl (by kernel_rfl) rfl (GV.T rfl) (fun hg8 => r_move rfl) rfl ?_
  refine an_readG 3 (x := .int .i64 i2) (by kernel_rfl) (fun _ _ _ h => h) rfl (by kernel_rfl) rfl (GV.T rfl) (fun hg9 => r_move rfl) rfl ?_
  refine an_readG 4 (x := .cptr ty8 ((x1.getD i2.toNat 0) : Int)) (by kernel_rfl) (fun _ _ _ h => h) rfl (by kernel_rfl) rfl (GV.T rfl) (fun hg10 => Reads.strip 29 rfl (hg10) (Reads.strip 30 rfl (hg10) (r_idxAddr_int Try.underlying32 Try.sizeOf3 rfl rfl (show 0 ≤ i2 from by omega) (show i2 < (x1.length : Int) from by omega)))) rfl ?_
  refine an_readG 5 (x := .int .i64 (x1.getD i2.toNat 0)) (by kernel_rfl) (fun _ _ _ h => h) rfl (by kernel_rfl) rfl (GV.T rfl) (fun hg11 => Reads.strip 31 rfl (hg11) (r_load_c_int Try.isAgg3 Try.sizeOf3 rfl)) rfl ?_
  refine an_readG 6 (x := .v ty3 x1) (by kernel_rfl) (fun _ _ _ h => h) rfl (by kernel_rfl) rfl (GV.T rfl) (fun hg12 => r_move rfl) rfl ?_
  refine an_readG 7 (x := .cptr ty8 ((x1.getD 0 0) : Int)) (by kernel_rfl) (fun _ _ _ h => h) rfl (by kernel_rfl) rfl (GV.T rfl) (fun hg13 => Reads.strip 33 rfl (hg13) (r_idxAddr_int Try.underlying32 Try.sizeOf3 rfl rfl (show 0 ≤ 0 from by omega) (show 0 < (x1.length : Int) from by omega))) rfl ?_
  refine an_readG 8 (x := .int .i64 (x1.getD 0 0)) (by kernel_rfl) (fun _ _ _ h => h) rfl (by kernel_rfl) rfl (GV.T rfl) (fun hg14 => Reads.strip 34 rfl (hg14) (r_load_c_int Try.isAgg3 Try.sizeOf3 rfl)) rfl ?_
  refine an_readG 9 (x := .bool (decide ((x1.getD i2.toNat 0) = (x1.getD 0 0)))) (by kernel_rfl) (fun _ _ _ h => h) rfl (by kernel_rfl) rfl (GV.T rfl) (fun hg15 => Reads.strip 32 rfl (hg15) (Reads.strip 35 rfl (hg15) (r_eql rfl rfl))) rfl ?_
  refine an_r 10 (fun _ _ _ h => h) rfl (by kernel_rfl) (r_andB rfl rfl) rfl ?_
  refine an_r 11 (fun _ _ _ h => h) rfl (by kernel_rfl) (r_assign rfl) rfl ?_
  refine an_done rfl ?_
  refine aq_in ?_
  refine aq_then ?_
  refine aw_region ?_
  refine ao_r (r_move rfl) rfl ?_
  refine ao_r (r_addI rfl rfl (wrap_id (by omega) (by omega))) rfl ?_
  refine ao_r (r_assign rfl) rfl ?_
  refine ao_nil ?_
  exact aq_again (AL.sub (sub_r1 idn (nk rfl) (by kernel_rfl)) (ih3 d3 (i2 + 1) ((IntKind.wrap .i64 (s1.1 + (x1.getD i2.toNat 0))), (p_spec_l1Most s1.2.1 (x1.getD i2.toNat 0)), (s1.2.2 && (decide ((x1.getD i2.toNat 0) = (x1.getD 0 0))))) (by omega) ⟨by omega, (by (try simp only [List.length_set, List.length_append, List.length_cons, List.length_nil, List.length_replicate, List.length_take, List.length_drop]) <;> omega), (by (try simp only [List.length_set, List.length_append, List.length_cons, List.length_nil, List.length_replicate, List.length_take, List.length_drop]) <;> omega)⟩ h))
  have q7 := d_f hb5
  obtain rfl : d3 = 0 := by omega
  replace h := is_cnt0 h
  refine aw_exit ?_
  refine aq_then_exit ?_
  refine aq_then_exit ?_
  refine aq_in_exit ?_
  refine aq_then ?_
  refine aw_seq ?_
  refine aw_seq ?_
  refine aw_region ?_
  refine ao_r (r_fieldAddr Try.underlying26 rfl Try.sizeOf3 rfl rfl rfl) rfl ?_
  refine ao_r (r_load_cell Try.isAgg3 rfl rfl rfl) rfl ?_
  refine ao_nil ?_
  refine aq_then ?_
  refine aw_block ?_
  refine aw_seq ?_
  refine aw_region ?_
  refine ao_r (r_eql rfl rfl) rfl ?_
  refine ao_r (r_assign rfl) rfl ?_
  refine ao_nil ?_
  refine aq_then ?_
  refine aw_cond rfl (fun hb16 => ?_) (fun hb16 => ?_)
  have q17 := d_t hb16
  replace h := is_if (d_t hb16) h
  refine aw_seq ?_
  refine aw_region ?_
  refine ao_r (r_move rfl) rfl ?_
  refine ao_r (r_assign rfl) rfl ?_
  refine ao_nil ?_
  refine aq_then ?_
  refine aw_ret ?_
  refine aq_in_ret ?_
  refine aq_then_ret ?_
  refine aq_ret ?_
  obtain rfl := is_eq h
  exact aq_finx (l := [.tmp 4]) (xs := [.int .i64 s1.1]) idn [.int .i64 s1.1] [] rfl (by exact ⟨rfl, trivial⟩) (by exact ⟨ad_ren rfl, trivial⟩) (by exact trivial) rfl (nk rfl) rfl rfl ⟨rfl, rfl⟩
  have q18 := d_f hb16
  replace h := is_else (d_f hb16) h
  refine aw_seq ?_
  refine aw_region ?_
  refine ao_r (r_eql rfl rfl) rfl ?_
  refine ao_r (r_assign rfl) rfl ?_
  refine ao_nil ?_
  refine aq_then ?_
  refine aw_cond rfl (fun hb19 => ?_) (fun hb19 => ?_)
  have q20 := d_t hb19
  replace h := is_if (d_t hb19) h
  refine aw_seq ?_
  refine aw_region ?_
  refine ao_r (r_move rfl) rfl ?_
  refine ao_r (r_fieldAddr Try.underlying26 rfl Try.sizeOf3 rfl rfl rfl) rfl ?_
  refine ao_r (r_load_cell Try.isAgg3 rfl rfl rfl) rfl ?_
  refine ao_r (r_geq rfl rfl) rfl ?_
  refine ao_scall trivial (scall (c_spec_l6One (is_mk (rfl : p_spec_l6One (decide (x0.2.1 ≤ s1.1)) = _))) rfl Try.func74 rfl rfl rfl rfl (fun σ => ⟨ad_ren rfl, trivial⟩)) rfl ?_
  refine ao_r (r_assign rfl) rfl ?_
  refine ao_nil ?_
  refine aq_then ?_
  refine aw_ret ?_
  refine aq_in_ret ?_
  refine aq_then_ret ?_
  refine aq_ret ?_
  obtain rfl := is_eq h
  exact aq_finx (l := [.tmp 4]) (xs := [.int .i64 (p_spec_l6One (decide (x0.2.1 ≤ s1.1)))]) idn [.int .i64 (p_spec_l6One (decide (x0.2.1 ≤ s1.1)))] [] rfl (by exact ⟨rfl, trivial⟩) (by exact ⟨ad_ren rfl, trivial⟩) (by exact trivial) rfl (nk rfl) rfl rfl ⟨rfl, rfl⟩
  have q21 := d_f hb19
  replace h := is_else (d_f hb19) h
  refine aw_seq ?_
  refine aw_region ?_
  refine ao_r (r_eql rfl rfl) rfl ?_
  refine ao_r (r_assign rfl) rfl ?_
  refine ao_nil ?_
  refine aq_then ?_
  refine aw_cond rfl (fun hb22 => ?_) (fun hb22 => ?_)
  have q23 := d_t hb22
  replace h := is_if (d_t hb22) h
  refine aw_seq ?_
  refine aw_region ?_
  refine ao_r (r_move rfl) rfl ?_
  refine ao_r (r_fieldAddr Try.underlying26 rfl Try.sizeOf3 rfl rfl rfl) rfl ?_
  refine ao_r (r_load_cell Try.isAgg3 rfl rfl rfl) rfl ?_
  refine ao_r (r_eql rfl rfl) rfl ?_
  refine ao_scall trivial (scall (c_spec_l6One (is_mk (rfl : p_spec_l6One (decide (s1.1 = x0.2.1)) = _))) rfl Try.func74 rfl rfl rfl rfl (fun σ => ⟨ad_ren rfl, trivial⟩)) rfl ?_
  refine ao_r (r_assign rfl) rfl ?_
  refine ao_nil ?_
  refine aq_then ?_
  refine aw_ret ?_
  refine aq_in_ret ?_
  refine aq_then_ret ?_
  refine aq_ret ?_
  obtain rfl := is_eq h
  exact aq_finx (l := [.tmp 4]) (xs := [.int .i64 (p_spec_l6One (decide (s1.1 = x0.2.1)))]) idn [.int .i64 (p_spec_l6One (decide (s1.1 = x0.2.1)))] [] rfl (by exact ⟨rfl, trivial⟩) (by exact ⟨ad_ren rfl, trivial⟩) (by exact trivial) rfl (nk rfl) rfl rfl ⟨rfl, rfl⟩
  have q24 := d_f hb22
  replace h := is_else (d_f hb22) h
  refine aw_seq ?_
  refine aw_region ?_
  refine ao_r (r_eql rfl rfl) rfl ?_
  refine ao_r (r_assign rfl) rfl ?_
  refine ao_nil ?_
  refine aq_then ?_
  refine aw_cond rfl (fun hb25 => ?_) (fun hb25 => ?_)
  have q26 := d_t hb25
  replace h := is_if (d_t hb25) h
  refine aw_seq ?_
  refine aw_region ?_
  refine ao_r (r_move rfl) rfl ?_
  refine ao_r (r_assign rfl) rfl ?_
  refine ao_nil ?_
  refine aq_then ?_
  refine aw_ret ?_
  refine aq_in_ret ?_
  refine aq_then_ret ?_
  refine aq_ret ?_
  obtain rfl := is_eq h
  exact aq_finx (l := [.tmp 4]) (xs := [.int .i64 s1.2.1]) idn [.int .i64 s1.2.1] [] rfl (by exact ⟨rfl, trivial⟩) (by exact ⟨ad_ren rfl, trivial⟩) (by exact trivial) rfl (nk rfl) rfl rfl ⟨rfl, rfl⟩
  have q27 := d_f hb25
  replace h := is_else (d_f hb25) h
  refine aw_skip ?_
  refine aq_in ?_
  refine aq_then ?_
  refine aw_seq ?_
  refine aw_region ?_
  refine ao_r (r_move rfl) rfl ?_
  refine ao_scall trivial (scall (c_spec_l6One (is_mk (rfl : p_spec_l6One s1.2.2 = _))) rfl Try.func74 rfl rfl rfl rfl (fun σ => ⟨ad_ren rfl, trivial⟩)) rfl ?_
  refine ao_r (r_assign rfl) rfl ?_
  refine ao_nil ?_
  refine aq_then ?_
  refine aw_ret ?_
  refine aq_ret ?_
  obtain rfl := is_eq h
  exact aq_finx (l := [.tmp 4]) (xs := [.int .i64 (p_spec_l6One s1.2.2)]) idn [.int .i64 (p_spec_l6One s1.2.2)] [] rfl (by exact ⟨rfl, trivial⟩) (by exact ⟨ad_ren rfl, trivial⟩) (by exact trivial) rfl (nk rfl) rfl rfl ⟨rfl, rfl⟩
theorem c_spec_l1Own {x0 : dy9} {r : dy9} (h : Is (p_spec_l1Own x0) (some r)) :
    ACalls Try.prog 61 [.v ty3 x0] [] (fun r' H' => r' = .os 0 ∧ H' = [(0, .row ty8 r)]) := by
  unfold p_spec_l1Own at h
  refine ac_enter ⟨6, 0⟩ Try.func61 rfl rfl rfl rfl rfl (fun Γ => ?_)
  refine sl_len_m 0 (x0.length : Int) rfl rfl (fun hl0 => ?_)
  refine aw_seq ?_
  refine aw_region ?_
  refine ao_r (r_assign rfl) rfl ?_
  refine ao_nil ?_
  refine aq_then ?_
  refine aw_seq ?_
  refine aw_region ?_
  refine ao_eff trivial (e_buildSlice (l := []) (t := ty8) 0 ([] : dy9) rfl Try.underlying32 Try.zeroValue3 Try.sizeOf3 rfl rfl rfl rfl rfl rfl rfl) rfl ?_
  refine ao_r (r_move rfl) rfl ?_
  obtain ⟨g1, h⟩ := is_guard h
  refine ao_eff trivial (e_append (t := ty8) 1 rfl Try.underlying32 (rfl : Try.prog.info? 3 = some _) rfl rfl rfl rfl rfl rfl rfl src_v (show [].length + x0.length ≤ 1000000000 from by (try simp only [List.length_cons, List.length_nil]) <;> omega) rfl rfl) rfl ?_
  refine ao_r (r_assign rfl) rfl ?_
  refine ao_nil ?_
  refine aq_then ?_
  refine aw_ret ?_
  refine aq_ret ?_
  obtain rfl := is_some h
  exact aq_finx (l := [.tmp 2]) (xs := [.os 1]) (rn [(0, 1)]) [.os 0] [(0, .row ty8 (([] ++ x0) : dy9))] rfl (by exact ⟨rfl, trivial⟩) (by exact ⟨ad_ren rfl, trivial⟩) (by exact ⟨⟨_, rfl, rfl⟩, trivial⟩) rfl (nk rfl) rfl rfl ⟨rfl, rfl⟩
theorem c_spec_l6Power {fu : Nat} {x0 : Int} {x1 : Int} {r : Int} (h : Is (p_spec_l6Power fu x0 x1) (some r)) :
    Scalar Try.prog 62 [.int .i64 x0, .int .i64 x1] (.int .i64 r) := by
  unfold p_spec_l6Power at h
  refine ac_enter ⟨10, 0⟩ Try.func62 rfl rfl rfl rfl rfl (fun Γ => ?_)
  refine aw_seq ?_
  refine aw_region ?_
  refine ao_r (r_assign rfl) rfl ?_
  refine ao_nil ?_
  refine aq_then ?_
  refine aw_seq ?_
  refine aw_region ?_
  refine ao_r (r_move rfl) rfl ?_
  refine ao_r (r_sub rfl rfl) rfl ?_
  refine ao_r (r_move rfl) rfl ?_
  refine ao_r (r_sub rfl rfl) rfl ?_
  obtain ⟨r1, r1h, h⟩ := is_bind h
  refine ao_scall trivial (scall (c_spec_l2All (is_mk r1h)) rfl Try.func51 rfl rfl rfl rfl (fun σ => ⟨ad_ren rfl, trivial⟩)) rfl ?_
  refine ao_r (r_assign rfl) rfl ?_
  refine ao_nil ?_
  refine aq_then ?_
  refine aw_ret ?_
  refine aq_ret ?_
  obtain rfl := is_some h
  exact aq_finx (l := [.tmp 4]) (xs := [.int .i64 r1]) idn [.int .i64 r1] [] rfl (by exact ⟨rfl, trivial⟩) (by exact ⟨ad_ren rfl, trivial⟩) (by exact trivial) rfl (nk rfl) rfl rfl ⟨rfl, rfl⟩
theorem c_spec_l6Digit {fu : Nat} {x0 : Int} {x1 : Int} {x2 : Int} {r : Int} (h : Is (p_spec_l6Digit fu x0 x1 x2) (some r)) :
    Scalar Try.prog 63 [.int .i64 x0, .int .i64 x1, .int .i64 x2] (.int .i64 r) := by
  unfold p_spec_l6Digit at h
  refine ac_enter ⟨13, 0⟩ Try.func63 rfl rfl rfl rfl rfl (fun Γ => ?_)
  refine aw_seq ?_
  refine aw_region ?_
  refine ao_r (r_assign rfl) rfl ?_
  refine ao_nil ?_
  refine aq_then ?_
  refine aw_seq ?_
  refine aw_region ?_
  refine ao_r (r_move rfl) rfl ?_
  refine ao_r (r_move rfl) rfl ?_
  refine ao_r (r_move rfl) rfl ?_
  obtain ⟨r1, r1h, h⟩ := is_bind h
  refine ao_scall trivial (scall (c_spec_l6Power (is_mk r1h)) rfl Try.func62 rfl rfl rfl rfl (fun σ => ⟨ad_ren rfl, ad_ren rfl, trivial⟩)) rfl ?_
  obtain ⟨g2, h⟩ := is_guard h
  refine ao_r (r_quo rfl rfl g2) rfl ?_
  refine ao_r (r_rem rfl rfl (by decide)) rfl ?_
  refine ao_r (r_assign rfl) rfl ?_
  refine ao_nil ?_
  refine aq_then ?_
  refine aw_ret ?_
  refine aq_ret ?_
  obtain rfl := is_some h
  exact aq_finx (l := [.tmp 6]) (xs := [.int .i64 ((IntKind.wrap .i64 (x1.tdiv r1)).tmod 6)]) idn [.int .i64 ((IntKind.wrap .i64 (x1.tdiv r1)).tmod 6)] [] rfl (by exact ⟨rfl, trivial⟩) (by exact ⟨ad_ren rfl, trivial⟩) (by exact trivial) rfl (nk rfl) rfl rfl ⟨rfl, rfl⟩
theorem c_spec_l6Sums {fu : Nat} {x0 : Int} {x1 : dy9} {x2 : Int} {r : dy9} (h : Is (p_spec_l6Sums fu x0 x1 x2) (some r)) :
    ACalls Try.prog 39 [.int .i64 x0, .v ty3 x1, .int .i64 x2] [] (fun r' H' => r' = .os 0 ∧ H' = [(0, .row ty8 r)]) := by
  unfold p_spec_l6Sums at h
  refine ac_enter ⟨76, 0⟩ Try.func39 rfl rfl rfl rfl rfl (fun Γ => ?_)
  refine sl_len_m 1 (x1.length : Int) rfl rfl (fun hl1 => ?_)
  refine aw_seq ?_
  refine aw_region ?_
  refine ao_r (r_assign rfl) rfl ?_
  refine ao_nil ?_
  refine aq_then ?_
  refine aw_seq ?_
  refine aw_region ?_
  refine ao_r (r_move rfl) rfl ?_
  obtain ⟨r1, r1h, h⟩ := is_bind h
  refine ao_call [] 0 trivial (c_spec_l1Own (is_mk r1h)) Try.func61 rfl rfl rfl rfl ⟨ad_ren rfl, trivial⟩ trivial rfl rfl rfl rfl rfl rfl rfl (fun r' H' hr => ?_)
  obtain ⟨rfl, rfl⟩ := hr
  refine ao_norm (y := .os 0) (H' := [(0, .row ty8 r1)]) rfl rfl ?_
  refine row_len_o 0 (r1.length : Int) rfl rfl (fun hr2 => ?_)
  refine ao_r (r_assign rfl) rfl ?_
  refine ao_nil ?_
  refine aq_then ?_
  refine aw_seq ?_
  refine aw_seq ?_
  refine aw_region ?_
  refine ao_r (r_assign rfl) rfl ?_
  refine ao_nil ?_
  refine aq_then ?_
  refine aw_block ?_
  refine aw_loop (AL.sub (sub_r1 idn (nk rfl) (by kernel_rfl)) (al_whl (fun (s3 : Int × dy9) => [(0, .int .i64 x0), (2, .int .i64 x2), (7, .os 0), (8, .int .i64 s3.1)]) (fun (s3 : Int × dy9) => [(0, .row ty8 s3.2)]) (fun (s3 : Int × dy9) => (s3.2.length : Int) = (r1.length : Int)) h (by (try simp only [List.length_set, List.length_append, List.length_cons, List.length_nil, List.length_replicate, List.length_take, List.length_drop]) <;> omega) (fun d5 s3 hI h ih5 => ?_)))
  replace h := is_whlS h
  refine al_round ?_
  refine aw_seq ?_
  refine aw_seq ?_
  refine aw_region ?_
  refine ao_r (r_move rfl) rfl ?_
  refine ao_r (r_move rfl) rfl ?_
  refine ao_r (r_lss rfl rfl) rfl ?_
  refine ao_nil ?_
  refine aq_then ?_
  refine aw_cond rfl (fun hb7 => ?_) (fun hb7 => ?_)
  have q8 := d_t hb7
  replace h := is_if (d_t hb7) h
  refine aw_skip ?_
  refine aq_then ?_
  refine aw_seq ?_
  refine aw_block ?_
  refine aw_seq ?_
  obtain ⟨g10, h⟩ := is_guard h
  obtain ⟨r11, r11h, h⟩ := is_bind h
  refine aw_drawAll (by kernel_rfl) ?_
  refine an_to [(0, .int .i64 x0), (2, .int .i64 x2), (7, .os 0), (8, .int .i64 s3.1), (9, .os 1), (10, .int .i64 r11)] [(0, .row ty8 s3.2), (1, .row ty8 ((List.replicate (r1.length : Int).toNat 0) : dy9))] ?_ (fun key => ?_)
  refine aq_then ?_
  refine aw_seq ?_
  refine aw_seq ?_
  refine aw_region ?_
  refine ao_r (r_assign rfl) rfl ?_
  refine ao_nil ?_
  refine aq_then ?_
  refine aw_block ?_
  refine aw_loop (AL.sub (fr' := [(0, .int .i64 x0), (2, .int .i64 x2), (7, .os 0), (8, .int .i64 s3.1), (9, .os 1), (10, .int .i64 r11), (11, .int .i64 0)]) (H' := [(0, .row ty8 s3.2), (1, .row ty8 ((List.replicate (r1.length : Int).toNat 0) : dy9))]) (sub_r1 idn (nk rfl) (by kernel_rfl)) (al_cnt (fun i13 (s12 : dy9) => [(0, .int .i64 x0), (2, .int .i64 x2), (7, .os 0), (8, .int .i64 s3.1), (9, .os 1), (10, .int .i64 r11), (11, .int .i64 i13)]) (fun i13 (s12 : dy9) => [(0, .row ty8 s3.2), (1, .row ty8 s12)]) (fun d i13 (s12 : dy9) => d = Int.toNat ((r1.length : Int) - i13) ∧ 0 ≤ i13 ∧ (s12.length : Int) = (r1.length : Int) ∧ i13 ≤ (r1.length : Int)) h ⟨rfl, (by (try simp only [List.length_set, List.length_append, List.length_cons, List.length_nil, List.length_replicate, List.length_take, List.length_drop]) <;> omega), (by (try simp only [List.length_set, List.length_append, List.length_cons, List.length_nil, List.length_replicate, List.length_take, List.length_drop]) <;> omega), (by (try simp only [List.length_set, List.length_append, List.length_cons, List.length_nil, List.length_replicate, List.length_take, List.length_drop]) <;> omega)⟩ (fun d14 i13 s12 hI h ih14 => ?_)))
  obtain ⟨hd, _, _, _⟩ := hI
  refine al_round ?_
  refine aw_seq ?_
  refine aw_seq ?_
  refine aw_region ?_
  refine ao_r (r_move rfl) rfl ?_
  refine ao_r (r_move rfl) rfl ?_
  refine ao_r (r_len_osm (r1.length : Int) Try.underlying32 rfl rfl (show (s3.2.length : Int) = (r1.length : Int) from by omega)) rfl ?_
  refine ao_r (r_lss rfl rfl) rfl ?_
  refine ao_nil ?_
  refine aq_then ?_
  refine aw_cond rfl (fun hb16 => ?_) (fun hb16 => ?_)
  have q17 := d_t hb16
  obtain ⟨d14, rfl⟩ : ∃ e, d14 = e + 1 := ⟨d14 - 1, by omega⟩
  replace h := is_cntS h
  refine aw_skip ?_
  refine aq_then ?_
  refine aw_seq ?_
  refine aw_block ?_
  refine aw_seq ?_
  refine aw_seq ?_
  refine aw_region ?_
  refine ao_r (r_move rfl) rfl ?_
  refine ao_r (r_move rfl) rfl ?_
  obtain ⟨g19, h⟩ := is_guard h
  refine ao_r (r_shr rfl rfl (by omega)) rfl ?_
  refine ao_r (r_and rfl rfl) rfl ?_
  refine ao_r (r_eql rfl rfl) rfl ?_
  refine ao_nil ?_
  refine aq_then ?_
  refine aw_cond rfl (fun hb20 => ?_) (fun hb20 => ?_)
  have q21 := d_t hb20
  replace h := is_if (d_t hb20) h
  refine aw_seq ?_
  refine aw_region ?_
  refine ao_r (r_move rfl) rfl ?_
  refine ao_r (r_move rfl) rfl ?_
  refine ao_r (r_move rfl) rfl ?_
  refine ao_r (r_move rfl) rfl ?_
  refine ao_r (r_idxAddr_os Try.underlying32 Try.sizeOf3 rfl rfl rfl (show 0 ≤ i13 from by omega) (show i13 < (s3.2.length : Int) from by omega)) rfl ?_
  refine ao_r (r_load_elem_int Try.isAgg3 Try.sizeOf3 rfl rfl (show i13.toNat < s3.2.length from by omega)) rfl ?_
  refine ao_r (r_mul rfl rfl) rfl ?_
  refine ao_r (r_idxAddr_os Try.underlying32 Try.sizeOf3 rfl rfl rfl (show 0 ≤ i13 from by omega) (show i13 < (s12.length : Int) from by omega)) rfl ?_
  refine ao_effS trivial (e_store_elem_int Try.sizeOf3 rfl rfl rfl rfl (show i13.toNat < s12.length from by omega) rfl) ?_
  refine ao_nil ?_
  refine aq_then ?_
  refine aw_exit ?_
  refine aq_then_exit ?_
  refine aq_in_exit ?_
  refine aq_then ?_
  refine aw_region ?_
  refine ao_r (r_move rfl) rfl ?_
  refine ao_r (r_addI rfl rfl (wrap_id (by omega) (by omega))) rfl ?_
  refine ao_r (r_assign rfl) rfl ?_
  refine ao_nil ?_
  exact aq_again (AL.sub (sub_r1 idn (nk rfl) (by kernel_rfl)) (ih14 d14 (i13 + 1) (s12.set i13.toNat (IntKind.wrap .i64 (6 * (s3.2.getD i13.toNat 0)))) (by omega) ⟨by omega, (by (try simp only [List.length_set, List.length_append, List.length_cons, List.length_nil, List.length_replicate, List.length_take, List.length_drop]) <;> omega), (by (try simp only [List.length_set, List.length_append, List.length_cons, List.length_nil, List.length_replicate, List.length_take, List.length_drop]) <;> omega), (by (try simp only [List.length_set, List.length_append, List.length_cons, List.length_nil, List.length_replicate, List.length_take, List.length_drop]) <;> omega)⟩ h))
  have q22 := d_f hb20
  replace h := is_else (d_f hb20) h
  refine aw_skip ?_
  refine aq_then ?_
  refine aw_seq ?_
  refine aw_region ?_
  refine ao_r (r_move rfl) rfl ?_
  refine ao_r (r_move rfl) rfl ?_
  refine ao_r (r_move rfl) rfl ?_
  refine ao_r (r_move rfl) rfl ?_
  obtain ⟨r23, r23h, h⟩ := is_bind h
  refine ao_scall trivial (scall (c_spec_l6Digit (is_mk r23h)) rfl Try.func63 rfl rfl rfl rfl (fun σ => ⟨ad_ren rfl, ad_ren rfl, ad_ren rfl, trivial⟩)) rfl ?_
  refine ao_r (r_move rfl) rfl ?_
  refine ao_r (r_mul rfl rfl) rfl ?_
  refine ao_r (r_sub rfl rfl) rfl ?_
  refine ao_r (r_assign rfl) rfl ?_
  refine ao_nil ?_
  refine aq_then ?_
  refine aw_seq ?_
  refine aw_region ?_
  refine ao_r (r_assign rfl) rfl ?_
  refine ao_nil ?_
  refine aq_then ?_
  refine aw_block ?_
  refine aw_loop (AL.sub (fr' := [(0, .int .i64 x0), (2, .int .i64 x2), (7, .os 0), (8, .int .i64 s3.1), (9, .os 1), (10, .int .i64 r11), (11, .int .i64 i13), (12, .int .i64 (IntKind.wrap .i64 (i13 - (IntKind.wrap .i64 (r23 * r11))))), (13, .int .i64 0)]) (H' := [(0, .row ty8 s3.2), (1, .row ty8 s12)]) (sub_r1 idn (nk rfl) (by kernel_rfl)) (al_cnt (fun i25 (s24 : dy9) => [(0, .int .i64 x0), (2, .int .i64 x2), (7, .os 0), (8, .int .i64 s3.1), (9, .os 1), (10, .int .i64 r11), (11, .int .i64 i13), (12, .int .i64 (IntKind.wrap .i64 (i13 - (IntKind.wrap .i64 (r23 * r11))))), (13, .int .i64 i25)]) (fun i25 (s24 : dy9) => [(0, .row ty8 s3.2), (1, .row ty8 s24)]) (fun d i25 (s24 : dy9) => d = Int.toNat (6 - i25) ∧ 0 ≤ i25 ∧ (s24.length : Int) = (r1.length : Int) ∧ i25 ≤ 6) h ⟨rfl, (by (try simp only [List.length_set, List.length_append, List.length_cons, List.length_nil, List.length_replicate, List.length_take, List.length_drop]) <;> omega), (by (try simp only [List.length_set, List.length_append, List.length_cons, List.length_nil, List.length_replicate, List.length_take, List.length_drop]) <;> omega), (by (try simp only [List.length_set, List.length_append, List.length_cons, List.length_nil, List.length_replicate, List.length_take, List.length_drop]) <;> omega)⟩ (fun d26 i25 s24 hI h ih26 => ?_)))
  obtain ⟨hd, _, _, _⟩ := hI
  refine al_round ?_
  refine aw_seq ?_
  refine aw_seq ?_
  refine aw_region ?_
  refine ao_r (r_move rfl) rfl ?_
  refine ao_r (r_lss rfl rfl) rfl ?_
  refine ao_nil ?_
  refine aq_then ?_
  refine aw_cond rfl (fun hb28 => ?_) (fun hb28 => ?_)
  have q29 := d_t hb28
  obtain ⟨d26, rfl⟩ : ∃ e, d26 = e + 1 := ⟨d26 - 1, by omega⟩
  replace h := is_cntS h
  refine aw_skip ?_
  refine aq_then ?_
  refine aw_seq ?_
  refine aw_block ?_
  obtain ⟨g31, h⟩ := is_guard h
  obtain ⟨g32, h⟩ := is_guard h
  refine aw_draw 16 (by kernel_rfl) (by kernel_rfl) ?_
  refine an_r 0 (fun _ _ _ h => h) rfl (by kernel_rfl) (r_move rfl) rfl ?_
  refine an_r 1 (fun _ _ _ h => h) rfl (by kernel_rfl) (r_move rfl) rfl ?_
  refine an_r 2 (fun _ _ _ h => h) rfl (by kernel_rfl) (r_move rfl) rfl ?_
  refine an_r 3 (fun _ _ _ h => h) rfl (by kernel_rfl) (r_move rfl) rfl ?_
  refine an_r 4 (fun _ _ _ h => h) rfl (by kernel_rfl) (r_idxAddr_os Try.underlying32 Try.sizeOf3 rfl rfl rfl (show 0 ≤ i13 from by omega) (show i13 < (s24.length : Int) from by omega)) rfl ?_
  refine an_r 5 (fun _ _ _ h => h) rfl (by kernel_rfl) (r_load_elem_int Try.isAgg3 Try.sizeOf3 rfl rfl (show i13.toNat < s24.length from by omega)) rfl ?_
  refine an_r 6 (fun _ _ _ h => h) rfl (by kernel_rfl) (r_move rfl) rfl ?_
  refine an_r 7 (fun _ _ _ h => h) rfl (by kernel_rfl) (r_move rfl) rfl ?_
  refine an_r 8 (fun _ _ _ h => h) rfl (by kernel_rfl) (r_move rfl) rfl ?_
  refine an_r 9 (fun _ _ _ h => h) rfl (by kernel_rfl) (r_move rfl) rfl ?_
  refine an_r 10 (fun _ _ _ h => h) rfl (by kernel_rfl) (r_mul rfl rfl) rfl ?_
  refine an_r 11 (fun _ _ _ h => h) rfl (by kernel_rfl) (r_add rfl rfl) rfl ?_
  refine an_r 12 (fun _ _ _ h => h) rfl (by kernel_rfl) (r_idxAddr_os Try.underlying32 Try.sizeOf3 rfl rfl rfl (show 0 ≤ (IntKind.wrap .i64 ((IntKind.wrap .i64 (i13 - (IntKind.wrap .i64 (r23 * r11)))) + (IntKind.wrap .i64 (i25 * r11)))) from by omega) (show (IntKind.wrap .i64 ((IntKind.wrap .i64 (i13 - (IntKind.wrap .i64 (r23 * r11)))) + (IntKind.wrap .i64 (i25 * r11)))) < (s3.2.length : Int) from by omega)) rfl ?_
  refine an_r 13 (fun _ _ _ h => h) rfl (by kernel_rfl) (r_load_elem_int Try.isAgg3 Try.sizeOf3 rfl rfl (show (IntKind.wrap .i64 ((IntKind.wrap .i64 (i13 - (IntKind.wrap .i64 (r23 * r11)))) + (IntKind.wrap .i64 (i25 * r11)))).toNat < s3.2.length from by omega)) rfl ?_
  refine an_r 14 (fun _ _ _ h => h) rfl (by kernel_rfl) (r_add rfl rfl) rfl ?_
  refine an_r 15 (fun _ _ _ h => h) rfl (by kernel_rfl) (r_idxAddr_os Try.underlying32 Try.sizeOf3 rfl rfl rfl (show 0 ≤ i13 from by omega) (show i13 < (s24.length : Int) from by omega)) rfl ?_
  refine an_tail rfl rfl ?_
  refine ao_effS trivial (e_store_elem_int Try.sizeOf3 rfl rfl rfl rfl (show i13.toNat < s24.length from by omega) rfl) ?_
  refine ao_nil ?_
  refine aq_in ?_
  refine aq_then ?_
  refine aw_region ?_
  refine ao_r (r_move rfl) rfl ?_
  refine ao_r (r_addI rfl rfl (wrap_id (by omega) (by omega))) rfl ?_
  refine ao_r (r_assign rfl) rfl ?_
  refine ao_nil ?_
  exact aq_again (AL.sub (sub_r1 idn (nk rfl) (by kernel_rfl)) (ih26 d26 (i25 + 1) (s24.set i13.toNat (IntKind.wrap .i64 ((s24.getD i13.toNat 0) + (s3.2.getD (IntKind.wrap .i64 ((IntKind.wrap .i64 (i13 - (IntKind.wrap .i64 (r23 * r11)))) + (IntKind.wrap .i64 (i25 * r11)))).toNat 0)))) (by omega) ⟨by omega, (by (try simp only [List.length_set, List.length_append, List.length_cons, List.length_nil, List.length_replicate, List.length_take, List.length_drop]) <;> omega), (by (try simp only [List.length_set, List.length_append, List.length_cons, List.length_nil, List.length_replicate, List.length_take, List.length_drop]) <;> omega), (by (try simp only [List.length_set, List.length_append, List.length_cons, List.length_nil, List.length_replicate, List.length_take, List.length_drop]) <;> omega)⟩ h))
  have q30 := d_f hb28
  obtain rfl : d26 = 0 := by omega
  replace h := is_cnt0 h
  refine aw_exit ?_
  refine aq_then_exit ?_
  refine aq_then_exit ?_
  refine aq_in_exit ?_
  refine aq_in ?_
  refine aq_then ?_
  refine aw_region ?_
  refine ao_r (r_move rfl) rfl ?_
  refine ao_r (r_addI rfl rfl (wrap_id (by omega) (by omega))) rfl ?_
  refine ao_r (r_assign rfl) rfl ?_
  refine ao_nil ?_
  exact aq_again (AL.sub (sub_r1 idn (nk rfl) (by kernel_rfl)) (ih14 d14 (i13 + 1) s24 (by omega) ⟨by omega, (by (try simp only [List.length_set, List.length_append, List.length_cons, List.length_nil, List.length_replicate, List.length_take, List.length_drop]) <;> omega), (by (try simp only [List.length_set, List.length_append, List.length_cons, List.length_nil, List.length_replicate, List.length_take, List.length_drop]) <;> omega), (by (try simp only [List.length_set, List.length_append, List.length_cons, List.length_nil, List.length_replicate, List.length_take, List.length_drop]) <;> omega)⟩ h))
  have q18 := d_f hb16
  obtain rfl : d14 = 0 := by omega
  replace h := is_cnt0 h
  refine aw_exit ?_
  refine aq_then_exit ?_
  refine aq_then_exit ?_
  refine aq_in_exit ?_
  refine aq_then ?_
  refine aw_region ?_
  refine ao_r (r_move rfl) rfl ?_
  refine ao_r (r_assign rfl) rfl ?_
  refine ao_nil ?_
  refine aq_in ?_
  refine aq_then ?_
  refine aw_region ?_
  refine ao_r (r_move rfl) rfl ?_
  refine ao_r (r_add rfl rfl) rfl ?_
  refine ao_r (r_assign rfl) rfl ?_
  refine ao_nil ?_
  exact aq_again (AL.sub (sub_r1 (rn [(0, 1)]) (nk rfl) (by kernel_rfl)) (ih5 ((IntKind.wrap .i64 (s3.1 + 1)), s12) (by (try simp only [List.length_set, List.length_append, List.length_cons, List.length_nil, List.length_replicate, List.length_take, List.length_drop]) <;> omega) h))
  refine an_r 0 (fun _ _ _ h => h) rfl (by kernel_rfl) (r_move rfl) rfl ?_
  refine an_r 1 (fun _ _ _ h => h) rfl (by kernel_rfl) (r_len_osm (r1.length : Int) Try.underlying32 rfl rfl (show (s3.2.length : Int) = (r1.length : Int) from by omega)) rfl ?_
  refine an_r 3 (fun _ _ _ h => h) rfl (by kernel_rfl) (r_move rfl) rfl ?_
  refine an_r 4 (fun _ _ _ h => h) rfl (by kernel_rfl) (r_move rfl) rfl ?_
  refine an_scall 5 (by kernel_rfl) (fun _ _ _ h => h) rfl (by kernel_rfl) trivial (scall (c_spec_l6Power (is_mk r11h)) rfl Try.func62 rfl rfl rfl rfl (fun σ => ⟨ad_ren rfl, ad_ren rfl, trivial⟩)) rfl ?_
  refine an_explore 1 rfl ?_
  refine ax_all [2] (by kernel_rfl) ⟨?_, trivial⟩
  refine axo_eff 2 rfl trivial (e_makeSlice 1 (t := ty8) Try.underlying32 (rfl : Try.prog.info? 3 = some _) rfl rfl rfl rfl rfl rfl (by omega) (by omega) rfl rfl) rfl rfl ?_
  refine ax_all [6] (by kernel_rfl) ⟨?_, trivial⟩
  refine axo_read 6 rfl trivial (r_assign rfl) rfl ?_
  refine ax_all [7] (by kernel_rfl) ⟨?_, trivial⟩
  refine axo_read 7 rfl trivial (r_assign rfl) rfl ?_
  exact ax_done rfl (AQ.sub (sub_r1 idn (nk rfl) (by kernel_rfl)) key)
  have q9 := d_f hb7
  replace h := is_else (d_f hb7) h
  refine aw_exit ?_
  refine aq_then_exit ?_
  refine aq_then_exit ?_
  refine aq_in_exit ?_
  refine aq_then ?_
  refine aw_seq ?_
  refine aw_region ?_
  refine ao_r (r_move rfl) rfl ?_
  refine ao_r (r_assign rfl) rfl ?_
  refine ao_nil ?_
  refine aq_then ?_
  refine aw_ret ?_
  refine aq_ret ?_
  obtain rfl := is_some h
  exact aq_finx (l := [.tmp 6]) (xs := [.os 0]) idn [.os 0] [(0, .row ty8 s3.2)] rfl (by exact ⟨rfl, trivial⟩) (by exact ⟨ad_ren rfl, trivial⟩) (by exact ⟨⟨_, rfl, rfl⟩, trivial⟩) rfl (nk rfl) rfl rfl ⟨rfl, rfl⟩
theorem c_spec_l6Values {fu : Nat} {x0 : dy7} {x1 : dy5} {x2 : Int} {r : dy9} (h : Is (p_spec_l6Values fu x0 x1 x2) (some r)) :
    ACalls Try.prog 31 [.v ty2 x0, .v ty1 x1, .int .i64 x2] [] (fun r' H' => r' = .os 0 ∧ H' = [(0, .row ty8 r)]) := by
  unfold p_spec_l6Values at h
  refine ac_enter ⟨71, 0⟩ Try.func31 rfl rfl rfl rfl rfl (fun Γ => ?_)
  refine sl_len_m 0 (x0.length : Int) rfl rfl (fun hl0 => ?_)
  refine aw_seq ?_
  refine aw_region ?_
  refine ao_eff trivial (e_box 0 rfl rfl rfl rfl rfl rfl) rfl ?_
  refine ao_r (r_assign rfl) rfl ?_
  refine ao_nil ?_
  refine aq_then ?_
  refine aw_seq ?_
  refine aw_region ?_
  refine ao_eff trivial (e_buildSlice (l := []) (t := ty8) 1 ([] : dy9) rfl Try.underlying32 Try.zeroValue3 Try.sizeOf3 rfl rfl rfl rfl rfl rfl rfl) rfl ?_
  refine ao_r (r_assign rfl) rfl ?_
  refine ao_nil ?_
  refine aq_then ?_
  refine aw_seq ?_
  refine aw_seq ?_
  refine aw_region ?_
  refine ao_r (r_assign rfl) rfl ?_
  refine ao_nil ?_
  refine aq_then ?_
  refine aw_block ?_
  refine aw_loop (AL.sub (sub_r1 idn (nk rfl) (by kernel_rfl)) (al_whl (fun (s1 : Int × dy9) => [(0, .v ty2 x0), (2, .int .i64 x2), (4, .ref 0 0), (7, .os 1), (8, .int .i64 s1.1)]) (fun (s1 : Int × dy9) => [(0, .var [ci x1.1, ci x1.2.1]), (1, .row ty8 s1.2)]) (fun (s1 : Int × dy9) => True) h trivial (fun d3 s1 hI h ih3 => ?_)))
  replace h := is_whlS h
  refine al_round ?_
  refine aw_seq ?_
  refine aw_seq ?_
  refine aw_region ?_
  refine ao_r (r_move rfl) rfl ?_
  refine ao_r (r_move rfl) rfl ?_
  refine ao_r (r_len_vm (x0.length : Int) Try.underlying24 rfl rfl) rfl ?_
  obtain ⟨r5, r5h, h⟩ := is_bind h
  refine ao_scall trivial (scall (c_spec_l2All (is_mk r5h)) rfl Try.func51 rfl rfl rfl rfl (fun σ => ⟨ad_ren rfl, trivial⟩)) rfl ?_
  refine ao_r (r_lss rfl rfl) rfl ?_
  refine ao_nil ?_
  refine aq_then ?_
  refine aw_cond rfl (fun hb6 => ?_) (fun hb6 => ?_)
  have q7 := d_t hb6
  replace h := is_if (d_t hb6) h
  refine aw_skip ?_
  refine aq_then ?_
  refine aw_seq ?_
  refine aw_block ?_
  obtain ⟨r9, r9h, h⟩ := is_bind h
  refine aw_draw 7 (by kernel_rfl) (by kernel_rfl) ?_
  refine an_to [(0, .v ty2 x0), (2, .int .i64 x2), (4, .ref 0 0), (7, .os 1), (8, .int .i64 s1.1), (22, .os 1), (28, .os 2)] [(0, .var [ci x1.1, ci x1.2.1]), (1, .row ty8 s1.2), (2, .row ty8 ([(p_spec_l6Score (x1.1, (x1.2.1, ())) r9)] : dy9))] ?_ (fun key => ?_)
  refine aq_tail rfl ?_
  obtain ⟨g11, h⟩ := is_guard h
  refine ao_eff trivial (e_append (t := ty8) 3 rfl Try.underlying32 (rfl : Try.prog.info? 3 = some _) rfl rfl rfl rfl rfl rfl rfl (src_os rfl) (show s1.2.length + ([(p_spec_l6Score (x1.1, (x1.2.1, ())) r9)] : dy9).length ≤ 1000000000 from by (try simp only [List.length_cons, List.length_nil]) <;> omega) rfl rfl) rfl ?_
  refine ao_r (r_assign rfl) rfl ?_
  refine ao_nil ?_
  refine aq_in ?_
  refine aq_then ?_
  refine aw_region ?_
  refine ao_r (r_move rfl) rfl ?_
  refine ao_r (r_add rfl rfl) rfl ?_
  refine ao_r (r_assign rfl) rfl ?_
  refine ao_nil ?_
  exact aq_again (AL.sub (sub_r1 (rn [(1, 3)]) (nk rfl) (by kernel_rfl)) (ih3 ((IntKind.wrap .i64 (s1.1 + 1)), (s1.2 ++ [(p_spec_l6Score (x1.1, (x1.2.1, ())) r9)])) trivial h))
  refine an_r 0 (fun _ _ _ h => h) rfl (by kernel_rfl) (r_move rfl) rfl ?_
  refine an_r 1 (fun _ _ _ h => h) rfl (by kernel_rfl) (r_load_part (τ := ty1) (y := ((x1.1, (x1.2.1, ())) : dy5)) [] [] rfl Try.isAgg26 Try.sizeOf26 rfl rfl rfl rfl) rfl ?_
  refine an_r 2 (fun _ _ _ h => h) rfl (by kernel_rfl) (r_move rfl) rfl ?_
  refine an_r 3 (fun _ _ _ h => h) rfl (by kernel_rfl) (r_move rfl) rfl ?_
  refine an_explore 2 rfl ?_
  refine ax_all [4] (by kernel_rfl) ⟨?_, trivial⟩
  refine axo_call 4 2 rfl trivial (c_spec_l2Roll (is_mk r9h)) Try.func58 rfl rfl rfl rfl ⟨ad_ren rfl, ad_ren rfl, trivial⟩ rfl rfl rfl rfl (fun r' H' hr => ?_)
  obtain ⟨rfl, rfl⟩ := hr
  refine ax_all [5] (by kernel_rfl) ⟨?_, trivial⟩
  refine axo_scall 5 rfl trivial (scall (c_spec_l6Score (is_mk (rfl : p_spec_l6Score (x1.1, (x1.2.1, ())) r9 = _))) rfl Try.func57 rfl rfl rfl rfl (fun σ => ⟨ad_ren rfl, ad_os0 rfl, trivial⟩)) rfl ?_
  refine ax_all [6] (by kernel_rfl) ⟨?_, trivial⟩
  refine axo_eff 6 rfl trivial (e_buildSlice (l := [(0, .tmp 27)]) (t := ty8) 3 ([(p_spec_l6Score (x1.1, (x1.2.1, ())) r9)] : dy9) rfl Try.underlying32 Try.zeroValue3 Try.sizeOf3 rfl rfl rfl rfl rfl rfl rfl) rfl rfl ?_
  exact ax_done rfl (AQ.sub (sub_r1 (rn [(2, 3)]) (nk rfl) (by kernel_rfl)) key)
  have q8 := d_f hb6
  replace h := is_else (d_f hb6) h
  refine aw_exit ?_
  refine aq_then_exit ?_
  refine aq_then_exit ?_
  refine aq_in_exit ?_
  refine aq_then ?_
  refine aw_seq ?_
  refine aw_seq ?_
  refine aw_region ?_
  refine ao_r (r_assign rfl) rfl ?_
  refine ao_nil ?_
  refine aq_then ?_
  refine aw_block ?_
  refine aw_loop (AL.sub (sub_r1 (rn [(0, 1)]) (nk rfl) (by kernel_rfl)) (al_whl (fun (s12 : Int × dy9) => [(0, .v ty2 x0), (2, .int .i64 x2), (7, .os 0), (9, .int .i64 s12.1)]) (fun (s12 : Int × dy9) => [(0, .row ty8 s12.2)]) (fun (s12 : Int × dy9) => True) h trivial (fun d14 s12 hI h ih14 => ?_)))
  replace h := is_whlS h
  refine al_round ?_
  refine aw_seq ?_
  refine aw_seq ?_
  refine aw_region ?_
  refine ao_r (r_move rfl) rfl ?_
  refine ao_r (r_move rfl) rfl ?_
  refine ao_r (r_lss rfl rfl) rfl ?_
  refine ao_nil ?_
  refine aq_then ?_
  refine aw_cond rfl (fun hb16 => ?_) (fun hb16 => ?_)
  have q17 := d_t hb16
  replace h := is_if (d_t hb16) h
  refine aw_skip ?_
  refine aq_then ?_
  refine aw_seq ?_
  refine aw_block ?_
  refine aw_seq ?_
  refine aw_region ?_
  refine ao_r (r_move rfl) rfl ?_
  refine ao_r (r_len_vm (x0.length : Int) Try.underlying24 rfl rfl) rfl ?_
  refine ao_r (r_move rfl) rfl ?_
  obtain ⟨r19, r19h, h⟩ := is_bind h
  refine ao_call [] 1 trivial (c_spec_l6Sums (is_mk r19h)) Try.func39 rfl rfl rfl rfl ⟨ad_ren rfl, ad_os0 rfl, ad_ren rfl, trivial⟩ trivial rfl rfl rfl rfl rfl rfl rfl (fun r' H' hr => ?_)
  obtain ⟨rfl, rfl⟩ := hr
  refine ao_norm (y := .os 1) (H' := [(0, .row ty8 s12.2), (1, .row ty8 r19)]) rfl rfl ?_
  refine row_len_o 1 (r19.length : Int) rfl rfl (fun hr20 => ?_)
  refine ao_r (r_assign rfl) rfl ?_
  refine ao_nil ?_
  refine aq_then ?_
  refine aw_seq ?_
  refine aw_seq ?_
  refine aw_region ?_
  refine ao_r (r_assign rfl) rfl ?_
  refine ao_nil ?_
  refine aq_then ?_
  refine aw_block ?_
  refine aw_loop (AL.sub (sub_r1 idn (nk rfl) (by kernel_rfl)) (al_whl (fun (s21 : Int × dy9) => [(0, .v ty2 x0), (2, .int .i64 x2), (7, .os 0), (9, .int .i64 s12.1), (10, .os 1), (11, .int .i64 s21.1)]) (fun (s21 : Int × dy9) => [(0, .row ty8 s12.2), (1, .row ty8 s21.2)]) (fun (s21 : Int × dy9) => (s21.2.length : Int) = (r19.length : Int)) h (by (try simp only [List.length_set, List.length_append, List.length_cons, List.length_nil, List.length_replicate, List.length_take, List.length_drop]) <;> omega) (fun d23 s21 hI h ih23 => ?_)))
  replace h := is_whlS h
  refine al_round ?_
  refine aw_seq ?_
  refine aw_seq ?_
  refine aw_region ?_
  refine ao_r (r_move rfl) rfl ?_
  refine ao_r (r_move rfl) rfl ?_
  refine ao_r (r_len_vm (x0.length : Int) Try.underlying24 rfl rfl) rfl ?_
  refine ao_r (r_shl rfl rfl (by omega)) rfl ?_
  refine ao_r (r_lss rfl rfl) rfl ?_
  refine ao_nil ?_
  refine aq_then ?_
  refine aw_cond rfl (fun hb25 => ?_) (fun hb25 => ?_)
  have q26 := d_t hb25
  replace h := is_if (d_t hb25) h
  refine aw_skip ?_
  refine aq_then ?_
  refine aw_seq ?_
  refine aw_block ?_
  refine aw_seq ?_
  refine aw_region ?_
  refine ao_r (r_move rfl) rfl ?_
  refine ao_r (r_len_vm (x0.length : Int) Try.underlying24 rfl rfl) rfl ?_
  refine ao_r (r_move rfl) rfl ?_
  refine ao_r (r_move rfl) rfl ?_
  obtain ⟨r28, r28h, h⟩ := is_bind h
  refine ao_call [] 2 trivial (c_spec_l6Sums (is_mk r28h)) Try.func39 rfl rfl rfl rfl ⟨ad_ren rfl, ad_os0 rfl, ad_ren rfl, trivial⟩ trivial rfl rfl rfl rfl rfl rfl rfl (fun r' H' hr => ?_)
  obtain ⟨rfl, rfl⟩ := hr
  refine ao_norm (y := .os 2) (H' := [(0, .row ty8 s12.2), (1, .row ty8 s21.2), (2, .row ty8 r28)]) rfl rfl ?_
  refine row_len_o 2 (r28.length : Int) rfl rfl (fun hr29 => ?_)
  refine ao_r (r_assign rfl) rfl ?_
  refine ao_nil ?_
  refine aq_then ?_
  refine aw_seq ?_
  refine aw_region ?_
  refine ao_r (r_assign rfl) rfl ?_
  refine ao_nil ?_
  refine aq_then ?_
  refine aw_block ?_
  refine aw_loop (AL.sub (fr' := [(0, .v ty2 x0), (2, .int .i64 x2), (7, .os 0), (9, .int .i64 s12.1), (10, .os 1), (11, .int .i64 s21.1), (12, .os 2), (13, .int .i64 0)]) (H' := [(0, .row ty8 s12.2), (1, .row ty8 s21.2), (2, .row ty8 r28)]) (sub_r1 idn (nk rfl) (by kernel_rfl)) (al_cnt (fun i31 (s30 : dy9) => [(0, .v ty2 x0), (2, .int .i64 x2), (7, .os 0), (9, .int .i64 s12.1), (10, .os 1), (11, .int .i64 s21.1), (12, .os 2), (13, .int .i64 i31)]) (fun i31 (s30 : dy9) => [(0, .row ty8 s12.2), (1, .row ty8 s30), (2, .row ty8 r28)]) (fun d i31 (s30 : dy9) => d = Int.toNat ((r19.length : Int) - i31) ∧ 0 ≤ i31 ∧ (s30.length : Int) = (r19.length : Int) ∧ i31 ≤ (r19.length : Int)) h ⟨rfl, (by (try simp only [List.length_set, List.length_append, List.length_cons, List.length_nil, List.length_replicate, List.length_take, List.length_drop]) <;> omega), (by (try simp only [List.length_set, List.length_append, List.length_cons, List.length_nil, List.length_replicate, List.length_take, List.length_drop]) <;> omega), (by (try simp only [List.length_set, List.length_append, List.length_cons, List.length_nil, List.length_replicate, List.length_take, List.length_drop]) <;> omega)⟩ (fun d32 i31 s30 hI h ih32 => ?_)))
  obtain ⟨hd, _, _, _⟩ := hI
  refine al_round ?_
  refine aw_seq ?_
  refine aw_seq ?_
  refine aw_region ?_
  refine ao_r (r_move rfl) rfl ?_
  refine ao_r (r_move rfl) rfl ?_
  refine ao_r (r_len_osm (r19.length : Int) Try.underlying32 rfl rfl (show (s30.length : Int) = (r19.length : Int) from by omega)) rfl ?_
  refine ao_r (r_lss rfl rfl) rfl ?_
  refine ao_nil ?_
  refine aq_then ?_
  refine aw_cond rfl (fun hb34 => ?_) (fun hb34 => ?_)
  have q35 := d_t hb34
  obtain ⟨d32, rfl⟩ : ∃ e, d32 = e + 1 := ⟨d32 - 1, by omega⟩
  replace h := is_cntS h
  refine aw_skip ?_
  refine aq_then ?_
  refine aw_seq ?_
  refine aw_block ?_
  obtain ⟨g37, h⟩ := is_guard h
  refine aw_draw 12 (by kernel_rfl) (by kernel_rfl) ?_
  refine an_r 0 (fun _ _ _ h => h) rfl (by kernel_rfl) (r_move rfl) rfl ?_
  refine an_r 1 (fun _ _ _ h => h) rfl (by kernel_rfl) (r_move rfl) rfl ?_
  refine an_r 2 (fun _ _ _ h => h) rfl (by kernel_rfl) (r_move rfl) rfl ?_
  refine an_r 3 (fun _ _ _ h => h) rfl (by kernel_rfl) (r_move rfl) rfl ?_
  refine an_r 4 (fun _ _ _ h => h) rfl (by kernel_rfl) (r_idxAddr_os Try.underlying32 Try.sizeOf3 rfl rfl rfl (show 0 ≤ i31 from by omega) (show i31 < (s30.length : Int) from by omega)) rfl ?_
  refine an_r 5 (fun _ _ _ h => h) rfl (by kernel_rfl) (r_load_elem_int Try.isAgg3 Try.sizeOf3 rfl rfl (show i31.toNat < s30.length from by omega)) rfl ?_
  refine an_r 6 (fun _ _ _ h => h) rfl (by kernel_rfl) (r_move rfl) rfl ?_
  refine an_r 7 (fun _ _ _ h => h) rfl (by kernel_rfl) (r_move rfl) rfl ?_
  refine an_r 8 (fun _ _ _ h => h) rfl (by kernel_rfl) (r_idxAddr_os Try.underlying32 Try.sizeOf3 rfl rfl rfl (show 0 ≤ i31 from by omega) (show i31 < (r28.length : Int) from by omega)) rfl ?_
  refine an_r 9 (fun _ _ _ h => h) rfl (by kernel_rfl) (r_load_elem_int Try.isAgg3 Try.sizeOf3 rfl rfl (show i31.toNat < r28.length from by omega)) rfl ?_
  refine an_scall 10 (by kernel_rfl) (fun _ _ _ h => h) rfl (by kernel_rfl) trivial (scall (c_spec_l1Most (is_mk (rfl : p_spec_l1Most (s30.getD i31.toNat 0) (r28.getD i31.toNat 0) = _))) rfl Try.func56 rfl rfl rfl rfl (fun σ => ⟨ad_ren rfl, ad_ren rfl, trivial⟩)) rfl ?_
  refine an_r 11 (fun _ _ _ h => h) rfl (by kernel_rfl) (r_idxAddr_os Try.underlying32 Try.sizeOf3 rfl rfl rfl (show 0 ≤ i31 from by omega) (show i31 < (s30.length : Int) from by omega)) rfl ?_
  refine an_tail rfl rfl ?_
  refine ao_effS trivial (e_store_elem_int Try.sizeOf3 rfl rfl rfl rfl (show i31.toNat < s30.length from by omega) rfl) ?_
  refine ao_nil ?_
  refine aq_in ?_
  refine aq_then ?_
  refine aw_region ?_
  refine ao_r (r_move rfl) rfl ?_
  refine ao_r (r_addI rfl rfl (wrap_id (by omega) (by omega))) rfl ?_
  refine ao_r (r_assign rfl) rfl ?_
  refine ao_nil ?_
  exact aq_again (AL.sub (sub_r1 idn (nk rfl) (by kernel_rfl)) (ih32 d32 (i31 + 1) (s30.set i31.toNat (p_spec_l1Most (s30.getD i31.toNat 0) (r28.getD i31.toNat 0))) (by omega) ⟨by omega, (by (try simp only [List.length_set, List.length_append, List.length_cons, List.length_nil, List.length_replicate, List.length_take, List.length_drop]) <;> omega), (by (try simp only [List.length_set, List.length_append, List.length_cons, List.length_nil, List.length_replicate, List.length_take, List.length_drop]) <;> omega), (by (try simp only [List.length_set, List.length_append, List.length_cons, List.length_nil, List.length_replicate, List.length_take, List.length_drop]) <;> omega)⟩ h))
  have q36 := d_f hb34
  obtain rfl : d32 = 0 := by omega
  replace h := is_cnt0 h
  refine aw_exit ?_
  refine aq_then_exit ?_
  refine aq_then_exit ?_
  refine aq_in_exit ?_
  refine aq_in ?_
  refine aq_then ?_
  refine aw_region ?_
  refine ao_r (r_move rfl) rfl ?_
  refine ao_r (r_add rfl rfl) rfl ?_
  refine ao_r (r_assign rfl) rfl ?_
  refine ao_nil ?_
  exact aq_again (AL.sub (sub_r1 idn (nk rfl) (by kernel_rfl)) (ih23 ((IntKind.wrap .i64 (s21.1 + 1)), s30) (by (try simp only [List.length_set, List.length_append, List.length_cons, List.length_nil, List.length_replicate, List.length_take, List.length_drop]) <;> omega) h))
  have q27 := d_f hb25
  replace h := is_else (d_f hb25) h
  refine aw_exit ?_
  refine aq_then_exit ?_
  refine aq_then_exit ?_
  refine aq_in_exit ?_
  refine aq_then ?_
  refine aw_region ?_
  refine ao_r (r_move rfl) rfl ?_
  refine ao_r (r_assign rfl) rfl ?_
  refine ao_nil ?_
  refine aq_in ?_
  refine aq_then ?_
  refine aw_region ?_
  refine ao_r (r_move rfl) rfl ?_
  refine ao_r (r_add rfl rfl) rfl ?_
  refine ao_r (r_assign rfl) rfl ?_
  refine ao_nil ?_
  exact aq_again (AL.sub (sub_r1 (rn [(0, 1)]) (nk rfl) (by kernel_rfl)) (ih14 ((IntKind.wrap .i64 (s12.1 + 1)), s21.2) trivial h))
  have q18 := d_f hb16
  replace h := is_else (d_f hb16) h
  refine aw_exit ?_
  refine aq_then_exit ?_
  refine aq_then_exit ?_
  refine aq_in_exit ?_
  refine aq_then ?_
  refine aw_seq ?_
  refine aw_region ?_
  refine ao_r (r_move rfl) rfl ?_
  refine ao_r (r_assign rfl) rfl ?_
  refine ao_nil ?_
  refine aq_then ?_
  refine aw_ret ?_
  refine aq_ret ?_
  obtain rfl := is_some h
  exact aq_finx (l := [.tmp 6]) (xs := [.os 0]) idn [.os 0] [(0, .row ty8 s12.2)] rfl (by exact ⟨rfl, trivial⟩) (by exact ⟨ad_ren rfl, trivial⟩) (by exact ⟨⟨_, rfl, rfl⟩, trivial⟩) rfl (nk rfl) rfl rfl ⟨rfl, rfl⟩
theorem c_spec_l6Parts {fu : Nat} {x0 : dy7} {x1 : Int} {r : Int} (h : Is (p_spec_l6Parts fu x0 x1) (some r)) :
    Scalar Try.prog 32 [.v ty2 x0, .int .i64 x1] (.int .i64 r) := by
  unfold p_spec_l6Parts at h
  refine ac_enter ⟨10, 0⟩ Try.func32 rfl rfl rfl rfl rfl (fun Γ => ?_)
  refine sl_len_m 0 (x0.length : Int) rfl rfl (fun hl0 => ?_)
  refine aw_seq ?_
  refine aw_region ?_
  refine ao_r (r_assign rfl) rfl ?_
  refine ao_nil ?_
  refine aq_then ?_
  refine aw_seq ?_
  refine aw_region ?_
  refine ao_r (r_move rfl) rfl ?_
  refine ao_r (r_len_vm (x0.length : Int) Try.underlying24 rfl rfl) rfl ?_
  refine ao_r (r_move rfl) rfl ?_
  refine ao_r (r_mul rfl rfl) rfl ?_
  obtain ⟨r1, r1h, h⟩ := is_bind h
  refine ao_scall trivial (scall (c_spec_l2All (is_mk r1h)) rfl Try.func51 rfl rfl rfl rfl (fun σ => ⟨ad_ren rfl, trivial⟩)) rfl ?_
  refine ao_r (r_assign rfl) rfl ?_
  refine ao_nil ?_
  refine aq_then ?_
  refine aw_ret ?_
  refine aq_ret ?_
  obtain rfl := is_some h
  exact aq_finx (l := [.tmp 4]) (xs := [.int .i64 r1]) idn [.int .i64 r1] [] rfl (by exact ⟨rfl, trivial⟩) (by exact ⟨ad_ren rfl, trivial⟩) (by exact trivial) rfl (nk rfl) rfl rfl ⟨rfl, rfl⟩
theorem c_spec_l2Cut {fu : Nat} {x0 : Int} {x1 : Int} {r : dy9} (h : Is (p_spec_l2Cut fu x0 x1) (some r)) :
    Scalar Try.prog 30 [.int .i64 x0, .int .i64 x1] (.v (.arr 2 ty8) r) := by
  unfold p_spec_l2Cut at h
  refine ac_enter ⟨24, 0⟩ Try.func30 rfl rfl rfl rfl rfl (fun Γ => ?_)
  refine aw_seq ?_
  refine aw_region ?_
  refine ao_eff trivial (e_alloc 0 (y := .v (.arr 2 ty8) ((List.replicate 2 0) : dy9)) Try.zeroValue29 (fun ρ h M => ra_zero_arr (t := ty8) rfl) rfl rfl rfl rfl rfl) rfl ?_
  refine ao_nil ?_
  refine aq_then ?_
  refine aw_seq ?_
  refine aw_region ?_
  refine ao_r (r_move rfl) rfl ?_
  refine ao_r (r_move rfl) rfl ?_
  refine ao_r (r_assign rfl) rfl ?_
  refine ao_r (r_assign rfl) rfl ?_
  refine ao_nil ?_
  refine aq_then ?_
  refine aw_seq ?_
  refine aw_block ?_
  refine aw_loop (AL.sub (sub_r1 idn (nk rfl) (by kernel_rfl)) (al_whl (fun (s1 : Int × Int) => [(0, .int .i64 x0), (1, .int .i64 x1), (4, .ref 0 0), (5, .int .i64 s1.1), (6, .int .i64 s1.2)]) (fun (s1 : Int × Int) => [(0, .var [.arr ty8 2 ((List.replicate 2 0) : dy9)])]) (fun (s1 : Int × Int) => True) h trivial (fun d3 s1 hI h ih3 => ?_)))
  replace h := is_whlS h
  refine al_round ?_
  refine aw_seq ?_
  refine aw_seq ?_
  refine aw_region ?_
  refine ao_r (r_move rfl) rfl ?_
  refine ao_r (r_gtr rfl rfl) rfl ?_
  refine ao_nil ?_
  refine aq_then ?_
  refine aw_cond rfl (fun hb5 => ?_) (fun hb5 => ?_)
  have q6 := d_t hb5
  replace h := is_if (d_t hb5) h
  refine aw_skip ?_
  refine aq_then ?_
  refine aw_block ?_
  refine aw_drawAll (by kernel_rfl) ?_
  refine an_r 0 (fun _ _ _ h => h) rfl (by kernel_rfl) (r_move rfl) rfl ?_
  refine an_r 1 (fun _ _ _ h => h) rfl (by kernel_rfl) (r_move rfl) rfl ?_
  refine an_r 2 (fun _ _ _ h => h) rfl (by kernel_rfl) (r_move rfl) rfl ?_
  refine an_r 3 (fun _ _ _ h => h) rfl (by kernel_rfl) (r_rem rfl rfl (by omega)) rfl ?_
  refine an_r 4 (fun _ _ _ h => h) rfl (by kernel_rfl) (r_assign rfl) rfl ?_
  refine an_r 5 (fun _ _ _ h => h) rfl (by kernel_rfl) (r_assign rfl) rfl ?_
  refine an_done rfl ?_
  refine aq_in ?_
  exact aq_again (AL.sub (sub_r1 idn (nk rfl) (by kernel_rfl)) (ih3 (s1.2, (s1.1.tmod s1.2)) trivial h))
  have q7 := d_f hb5
  replace h := is_else (d_f hb5) h
  refine aw_exit ?_
  refine aq_then_exit ?_
  refine aq_then_exit ?_
  refine aq_in_exit ?_
  refine aq_then ?_
  refine aw_seq ?_
  obtain ⟨g8, h⟩ := is_guard h
  obtain ⟨g9, h⟩ := is_guard h
  refine aw_draw 9 (by kernel_rfl) (by kernel_rfl) ?_
  refine an_r 0 (fun _ _ _ h => h) rfl (by kernel_rfl) (r_move rfl) rfl ?_
  refine an_r 1 (fun _ _ _ h => h) rfl (by kernel_rfl) (r_move rfl) rfl ?_
  refine an_scall 2 (by kernel_rfl) (fun _ _ _ h => h) rfl (by kernel_rfl) trivial (scall (c_spec_l1Most (is_mk (rfl : p_spec_l1Most s1.1 1 = _))) rfl Try.func56 rfl rfl rfl rfl (fun σ => ⟨ad_ren rfl, ad_ren rfl, trivial⟩)) rfl ?_
  refine an_r 3 (fun _ _ _ h => h) rfl (by kernel_rfl) (r_quo rfl rfl g8) rfl ?_
  refine an_r 4 (fun _ _ _ h => h) rfl (by kernel_rfl) (r_move rfl) rfl ?_
  refine an_r 5 (fun _ _ _ h => h) rfl (by kernel_rfl) (r_move rfl) rfl ?_
  refine an_scall 6 (by kernel_rfl) (fun _ _ _ h => h) rfl (by kernel_rfl) trivial (scall (c_spec_l1Most (is_mk (rfl : p_spec_l1Most s1.1 1 = _))) rfl Try.func56 rfl rfl rfl rfl (fun σ => ⟨ad_ren rfl, ad_ren rfl, trivial⟩)) rfl ?_
  refine an_r 7 (fun _ _ _ h => h) rfl (by kernel_rfl) (r_quo rfl rfl g9) rfl ?_
  refine an_r 8 (fun _ _ _ h => h) rfl (by kernel_rfl) (r_build_arr (l := [(0, .tmp 18), (1, .tmp 22)]) (t := ty8) ([(IntKind.wrap .i64 (x0.tdiv (p_spec_l1Most s1.1 1))), (IntKind.wrap .i64 (x1.tdiv (p_spec_l1Most s1.1 1)))] : dy9) rfl Try.underlying29 Try.zeroValue29 Try.sizeOf3 rfl rfl rfl rfl) rfl ?_
  refine an_tail rfl rfl ?_
  refine ao_effS trivial (e_store rfl rfl rfl rfl Try.sizeOf29 rfl) ?_
  refine ao_nil ?_
  refine aq_then ?_
  refine aw_ret ?_
  refine aq_ret ?_
  obtain rfl := is_some h
  exact aq_finx (l := [.cell 4 29]) (xs := [.v (.arr 2 ty8) ([(IntKind.wrap .i64 (x0.tdiv (p_spec_l1Most s1.1 1))), (IntKind.wrap .i64 (x1.tdiv (p_spec_l1Most s1.1 1)))] : dy9)]) idn [.v (.arr 2 ty8) ([(IntKind.wrap .i64 (x0.tdiv (p_spec_l1Most s1.1 1))), (IntKind.wrap .i64 (x1.tdiv (p_spec_l1Most s1.1 1)))] : dy9)] [] rfl (by exact ⟨⟨⟨_, _, rfl⟩, r_load_arr rfl Try.isAgg29 Try.sizeOf29 rfl rfl rfl⟩, trivial⟩) (by exact ⟨ad_ren rfl, trivial⟩) (by exact trivial) rfl (nk rfl) rfl rfl ⟨rfl, rfl⟩
theorem c_spec_ValueOf {fu : Nat} {x0 : dy7} {x1 : dy5} {x2 : Int} {x3 : Int} {r : dy9 × Bool} (h : Is (p_spec_ValueOf fu x0 x1 x2 x3) (some r)) :
    Scalar Try.prog 7 [.v ty2 x0, .v ty1 x1, .int .i64 x2, .int .i64 x3] (.tup [.v (.arr 2 ty8) r.1, .bool r.2]) := by
  unfold p_spec_ValueOf at h
  refine ac_enter ⟨33, 0⟩ Try.func7 rfl rfl rfl rfl rfl (fun Γ => ?_)
  refine sl_len_m 0 (x0.length : Int) rfl rfl (fun hl0 => ?_)
  refine aw_seq ?_
  refine aw_region ?_
  refine ao_eff trivial (e_box 0 rfl rfl rfl rfl rfl rfl) rfl ?_
  refine ao_eff trivial (e_alloc 1 (y := .v (.arr 2 ty8) ((List.replicate 2 0) : dy9)) Try.zeroValue29 (fun ρ h M => ra_zero_arr (t := ty8) rfl) rfl rfl rfl rfl rfl) rfl ?_
  refine ao_r (r_assign rfl) rfl ?_
  refine ao_nil ?_
  refine aq_then ?_
  refine aw_seq ?_
  refine aw_seq ?_
  refine aw_region ?_
  refine ao_r (r_move rfl) rfl ?_
  refine ao_r (r_load_part (τ := ty1) (y := ((x1.1, (x1.2.1, ())) : dy5)) [] [] rfl Try.isAgg26 Try.sizeOf26 rfl rfl rfl rfl) rfl ?_
  refine ao_r (r_move rfl) rfl ?_
  obtain ⟨r1, r1h, h⟩ := is_bind h
  refine ao_scall trivial (scall (c_spec_l6Good (is_mk r1h)) rfl Try.func28 rfl rfl rfl rfl (fun σ => ⟨ad_ren rfl, ad_ren rfl, ad_ren rfl, trivial⟩)) rfl ?_
  refine ao_r (r_not rfl) rfl ?_
  refine ao_r (r_move rfl) rfl ?_
  refine ao_readG (x := .v ty2 x0) rfl (GV.F rfl) (fun hg2 => r_move rfl) rfl ?_
  refine ao_readG (x := .int .i64 x2) rfl (GV.F rfl) (fun hg3 => r_move rfl) rfl ?_
  obtain ⟨g5, h⟩ := is_guard h
  refine ao_scallG (r := .bool ((p_spec_l6Number fu x0 x2).getD false)) rfl (GV.F rfl) (fun hg4 => SCall.strip 16 rfl (hg4) (SCall.strip 17 rfl (hg4) (scall (c_spec_l6Number (is_mk (isSome_getD (g5 hg4)))) rfl Try.func29 rfl rfl rfl rfl (fun σ => ⟨ad_ren rfl, ad_ren rfl, trivial⟩)))) rfl ?_
  refine ao_readG (x := .bool (!((p_spec_l6Number fu x0 x2).getD false))) rfl (GV.F rfl) (fun hg6 => Reads.strip 18 rfl (hg6) (r_not rfl)) rfl ?_
  refine ao_r (r_orB rfl rfl) rfl ?_
  refine ao_nil ?_
  refine aq_then ?_
  refine aw_cond rfl (fun hb7 => ?_) (fun hb7 => ?_)
  replace h := is_if hb7 h
  refine aw_seq ?_
  refine aw_region ?_
  refine ao_r (r_build_zero (t := ty8) Try.underlying29 Try.zeroValue29 Try.sizeOf3 rfl) rfl ?_
  refine ao_effS trivial (e_store rfl rfl rfl rfl Try.sizeOf29 rfl) ?_
  refine ao_r (r_assign rfl) rfl ?_
  refine ao_nil ?_
  refine aq_then ?_
  refine aw_ret ?_
  refine aq_then_ret ?_
  refine aq_ret ?_
  obtain rfl := is_some h
  exact aq_finx (l := [.cell 8 29, .tmp 9]) (xs := [.v (.arr 2 ty8) ((List.replicate 2 0) : dy9), .bool false]) idn [.v (.arr 2 ty8) ((List.replicate 2 0) : dy9), .bool false] [] rfl (by exact ⟨⟨⟨_, _, rfl⟩, r_load_arr rfl Try.isAgg29 Try.sizeOf29 rfl rfl rfl⟩, rfl, trivial⟩) (by exact ⟨ad_ren rfl, ad_ren rfl, trivial⟩) (by exact trivial) rfl (nk rfl) rfl rfl ⟨rfl, rfl⟩
  obtain ⟨q8, q9⟩ := or_f hb7
  replace h := is_else (ne_t hb7) h
  refine aw_skip ?_
  refine aq_then ?_
  refine aw_seq ?_
  obtain ⟨r10, r10h, h⟩ := is_bind h
  obtain ⟨g12, h⟩ := is_guard h
  obtain ⟨g13, h⟩ := is_guard h
  obtain ⟨r14, r14h, h⟩ := is_bind h
  obtain ⟨r15, r15h, h⟩ := is_bind h
  refine aw_draw 11 (by kernel_rfl) (by kernel_rfl) ?_
  refine an_to [(8, .ref 0 0), (9, .bool false), (32, .v (.arr 2 ty8) r15)] [(0, .var [.arr ty8 2 ((List.replicate 2 0) : dy9)])] ?_ (fun key => ?_)
  refine aq_tail rfl ?_
  refine ao_effS trivial (e_store rfl rfl rfl rfl Try.sizeOf29 rfl) ?_
  refine ao_r (r_assign rfl) rfl ?_
  refine ao_nil ?_
  refine aq_then ?_
  refine aw_ret ?_
  refine aq_ret ?_
  obtain rfl := is_some h
  exact aq_finx (l := [.cell 8 29, .tmp 9]) (xs := [.v (.arr 2 ty8) r15, .bool true]) idn [.v (.arr 2 ty8) r15, .bool true] [] rfl (by exact ⟨⟨⟨_, _, rfl⟩, r_load_arr rfl Try.isAgg29 Try.sizeOf29 rfl rfl rfl⟩, rfl, trivial⟩) (by exact ⟨ad_ren rfl, ad_ren rfl, trivial⟩) (by exact trivial) rfl (nk rfl) rfl rfl ⟨rfl, rfl⟩
  refine an_r 0 (fun _ _ _ h => h) rfl (by kernel_rfl) (r_move rfl) rfl ?_
  refine an_r 1 (fun _ _ _ h => h) rfl (by kernel_rfl) (r_load_part (τ := ty1) (y := ((x1.1, (x1.2.1, ())) : dy5)) [] [] rfl Try.isAgg26 Try.sizeOf26 rfl rfl rfl rfl) rfl ?_
  refine an_r 2 (fun _ _ _ h => h) rfl (by kernel_rfl) (r_move rfl) rfl ?_
  refine an_r 4 (fun _ _ _ h => h) rfl (by kernel_rfl) (r_move rfl) rfl ?_
  refine an_r 7 (fun _ _ _ h => h) rfl (by kernel_rfl) (r_move rfl) rfl ?_
  refine an_r 8 (fun _ _ _ h => h) rfl (by kernel_rfl) (r_move rfl) rfl ?_
  refine an_explore 2 rfl ?_
  refine ax_all [3] (by kernel_rfl) ⟨?_, trivial⟩
  refine axo_call 3 2 rfl trivial (c_spec_l6Values (is_mk r10h)) Try.func31 rfl rfl rfl rfl ⟨ad_ren rfl, ad_ren rfl, ad_ren rfl, trivial⟩ rfl rfl rfl rfl (fun r' H' hr => ?_)
  obtain ⟨rfl, rfl⟩ := hr
  refine ax_all [5, 9] (by kernel_rfl) ⟨?_, ?_, trivial⟩
  refine axo_read 5 rfl trivial (r_idxAddr_os Try.underlying32 Try.sizeOf3 rfl rfl rfl (show 0 ≤ x2 from by omega) (show x2 < (r10.length : Int) from by omega)) rfl ?_
  refine ax_all [6, 9] (by kernel_rfl) ⟨?_, ?_, trivial⟩
  refine axo_read 6 rfl trivial (r_load_elem_int Try.isAgg3 Try.sizeOf3 rfl rfl (show x2.toNat < r10.length from by omega)) rfl ?_
  refine ax_all [9] (by kernel_rfl) ⟨?_, trivial⟩
  refine axo_scall 9 rfl trivial (scall (c_spec_l6Parts (is_mk r14h)) rfl Try.func32 rfl rfl rfl rfl (fun σ => ⟨ad_ren rfl, ad_ren rfl, trivial⟩)) rfl ?_
  refine ax_all [10] (by kernel_rfl) ⟨?_, trivial⟩
  refine axo_scall 10 rfl trivial (scall (c_spec_l2Cut (is_mk r15h)) rfl Try.func30 rfl rfl rfl rfl (fun σ => ⟨ad_ren rfl, ad_ren rfl, trivial⟩)) rfl ?_
  exact ax_done rfl (AQ.sub (sub_r1 (rn [(0, 1)]) (nk rfl) (by kernel_rfl)) key)
  refine axo_scall 9 rfl trivial (scall (c_spec_l6Parts (is_mk r14h)) rfl Try.func32 rfl rfl rfl rfl (fun σ => ⟨ad_ren rfl, ad_ren rfl, trivial⟩)) rfl ?_
  refine ax_all [6] (by kernel_rfl) ⟨?_, trivial⟩
  refine axo_read 6 rfl trivial (r_load_elem_int Try.isAgg3 Try.sizeOf3 rfl rfl (show x2.toNat < r10.length from by omega)) rfl ?_
  refine ax_all [10] (by kernel_rfl) ⟨?_, trivial⟩
  refine axo_scall 10 rfl trivial (scall (c_spec_l2Cut (is_mk r15h)) rfl Try.func30 rfl rfl rfl rfl (fun σ => ⟨ad_ren rfl, ad_ren rfl, trivial⟩)) rfl ?_
  exact ax_done rfl (AQ.sub (sub_r1 (rn [(0, 1)]) (nk rfl) (by kernel_rfl)) key)
  refine axo_scall 9 rfl trivial (scall (c_spec_l6Parts (is_mk r14h)) rfl Try.func32 rfl rfl rfl rfl (fun σ => ⟨ad_ren rfl, ad_ren rfl, trivial⟩)) rfl ?_
  refine ax_all [5] (by kernel_rfl) ⟨?_, trivial⟩
  refine axo_read 5 rfl trivial (r_idxAddr_os Try.underlying32 Try.sizeOf3 rfl rfl rfl (show 0 ≤ x2 from by omega) (show x2 < (r10.length : Int) from by omega)) rfl ?_
  refine ax_all [6] (by kernel_rfl) ⟨?_, trivial⟩
  refine axo_read 6 rfl trivial (r_load_elem_int Try.isAgg3 Try.sizeOf3 rfl rfl (show x2.toNat < r10.length from by omega)) rfl ?_
  refine ax_all [10] (by kernel_rfl) ⟨?_, trivial⟩
  refine axo_scall 10 rfl trivial (scall (c_spec_l2Cut (is_mk r15h)) rfl Try.func30 rfl rfl rfl rfl (fun σ => ⟨ad_ren rfl, ad_ren rfl, trivial⟩)) rfl ?_
  exact ax_done rfl (AQ.sub (sub_r1 (rn [(0, 1)]) (nk rfl) (by kernel_rfl)) key)
theorem c_impl_again_bestSets {fu : Nat} {x0 : Int} {x1 : Int} {x2 : dy7} {x3 : dy7} {r : dy9} (h : Is (p_impl_again_bestSets fu x0 x1 x2 x3) (some r)) :
    ACallsV Try.prog 33 [.ref 0 0, .int .i64 x0, .int .i64 x1] [(0, .var [.cell (.v ty2 x2), .cell (.os 1)]), (1, .row ty3 x3)] (fun r' H' => r' = .os 2 ∧ H' = [(0, .var [.cell (.v ty2 x2), .cell (.os 1)]), (1, .row ty3 x3), (2, .row ty8 r)]) := by
  unfold p_impl_again_bestSets at h
  refine ac_enterV ⟨36, 2⟩ Try.func33 rfl rfl rfl rfl rfl (fun Γ => ?_)
  refine row_len_m 1 (x3.length : Int) rfl rfl (fun hr1 => ?_)
  refine aw_seq ?_
  refine aw_region ?_
  refine ao_r (r_assign rfl) rfl ?_
  refine ao_nil ?_
  refine aq_then ?_
  refine aw_seq ?_
  refine aw_region ?_
  refine ao_r (r_assign rfl) rfl ?_
  refine ao_nil ?_
  refine aq_then ?_
  refine aw_seq ?_
  refine aw_seq ?_
  refine aw_region ?_
  refine ao_r (r_move rfl) rfl ?_
  refine ao_callV [0, 1] 2 trivial (c_impl_again_sets (is_mk (rfl : p_impl_again_sets x2 x3 = _))) Try.func54 rfl rfl rfl rfl rfl ⟨rfl, rfl, trivial⟩ ⟨⟨_, rfl, ⟨ad_ren rfl, rfl, ad_ren rfl, rfl, trivial⟩⟩, ⟨_, rfl, rfl⟩, trivial⟩ rfl rfl rfl rfl rfl rfl rfl (fun r' H' hr => ?_)
  obtain ⟨rfl, rfl⟩ := hr
  refine ao_norm (y := .int .i64 (p_impl_again_sets x2 x3)) (H' := [(0, .var [.cell (.v ty2 x2), .cell (.os 1)]), (1, .row ty3 x3)]) rfl rfl ?_
  refine ao_r (r_move rfl) rfl ?_
  refine ao_nil ?_
  refine aq_then ?_
  refine aw_block ?_
  refine AW.sub (sub_nil (T := 7) (t := ty8) 3 rfl rfl rfl) ?_
  refine aw_loop (AL.sub (sub_r1 (rn [(2, 3)]) (nk2 rfl rfl rfl) (by kernel_rfl)) (al_whl (fun (s1 : Int × dy9) => [(0, .ref 0 0), (1, .int .i64 x0), (2, .int .i64 x1), (7, .os 2), (10, .int .i64 (p_impl_again_sets x2 x3)), (11, .int .i64 s1.1)]) (fun (s1 : Int × dy9) => [(0, .var [.cell (.v ty2 x2), .cell (.os 1)]), (1, .row ty3 x3), (2, .row ty8 s1.2)]) (fun (s1 : Int × dy9) => True) h trivial (fun d3 s1 hI h ih3 => ?_)))
  replace h := is_whlS h
  refine al_round ?_
  refine aw_seq ?_
  refine aw_region ?_
  refine ao_r (r_lss rfl rfl) rfl ?_
  refine ao_nil ?_
  refine aq_then ?_
  refine aw_seq ?_
  refine aw_cond rfl (fun hb5 => ?_) (fun hb5 => ?_)
  have q6 := d_t hb5
  replace h := is_if (d_t hb5) h
  refine aw_skip ?_
  refine aq_then ?_
  refine aw_seq ?_
  refine aw_block ?_
  refine aw_seq ?_
  refine aw_region ?_
  refine ao_r (r_move rfl) rfl ?_
  refine ao_r (r_assign rfl) rfl ?_
  refine ao_nil ?_
  refine aq_then ?_
  refine aw_seq ?_
  obtain ⟨r8, r8h, h⟩ := is_bind h
  obtain ⟨g9, h⟩ := is_guard h
  obtain ⟨g10, h⟩ := is_guard h
  obtain ⟨g11, h⟩ := is_guard h
  obtain ⟨g12, h⟩ := is_guard h
  refine aw_drawP 16 rfl (by kernel_rfl) ?_
  refine ap_to [(0, .ref 0 0), (1, .int .i64 x0), (2, .int .i64 x1), (7, .os 2), (8, .int .i64 s1.1), (10, .int .i64 (p_impl_again_sets x2 x3)), (11, .int .i64 s1.1), (29, .bool (decide (r8 = ((x3.getD x1.toNat []).getD x0.toNat 0))))] [(0, .var [.cell (.v ty2 x2), .cell (.os 1)]), (1, .row ty3 x3), (2, .row ty8 s1.2)] ?_ (fun key => ?_)
  refine aq_then ?_
  refine aw_cond rfl (fun hb24 => ?_) (fun hb24 => ?_)
  have q25 : r8 = ((x3.getD x1.toNat []).getD x0.toNat 0) := d_t hb24
  replace h := is_if (d_t hb24) h
  refine aw_region ?_
  refine ao_r (r_move rfl) rfl ?_
  refine ao_r (r_move rfl) rfl ?_
  refine ao_eff trivial (e_buildSlice (l := [(0, .tmp 31)]) (t := ty8) 3 ([s1.1] : dy9) rfl Try.underlying32 Try.zeroValue3 Try.sizeOf3 rfl rfl rfl rfl rfl rfl rfl) rfl ?_
  obtain ⟨g27, h⟩ := is_guard h
  refine ao_eff trivial (e_append (t := ty8) 4 rfl Try.underlying32 (rfl : Try.prog.info? 3 = some _) rfl rfl rfl rfl rfl rfl rfl (src_os rfl) (show s1.2.length + ([s1.1] : dy9).length ≤ 1000000000 from by (try simp only [List.length_cons, List.length_nil]) <;> omega) rfl rfl) rfl ?_
  refine ao_r (r_assign rfl) rfl ?_
  refine ao_nil ?_
  refine aq_in ?_
  refine aq_then ?_
  refine aw_region ?_
  refine ao_r (r_add rfl rfl) rfl ?_
  refine ao_r (r_move rfl) rfl ?_
  refine ao_nil ?_
  exact aq_again (AL.sub (sub_r1 (rn [(2, 4)]) (nk2 rfl rfl rfl) (by kernel_rfl)) (ih3 ((IntKind.wrap .i64 (s1.1 + 1)), (s1.2 ++ [s1.1])) trivial h))
  have q26 : ¬ (r8 = ((x3.getD x1.toNat []).getD x0.toNat 0)) := d_f hb24
  replace h := is_else (d_f hb24) h
  refine aw_skip ?_
  refine aq_in ?_
  refine aq_then ?_
  refine aw_region ?_
  refine ao_r (r_add rfl rfl) rfl ?_
  refine ao_r (r_move rfl) rfl ?_
  refine ao_nil ?_
  exact aq_again (AL.sub (sub_r1 idn (nk2 rfl rfl rfl) (by kernel_rfl)) (ih3 ((IntKind.wrap .i64 (s1.1 + 1)), s1.2) trivial h))
  refine ap_let (g := 2) (listed := #[true, true, true, true, true, true, true, true, true, true, true, true, true, true, false, false]) [(0, .ref 0 0), (1, .int .i64 x0), (2, .int .i64 x1), (7, .os 2), (8, .int .i64 s1.1), (10, .int .i64 (p_impl_again_sets x2 x3)), (11, .int .i64 s1.1), (18, .int .i64 r8), (27, .cptr ty8 (((x3.getD x1.toNat []).getD x0.toNat 0) : Int))] [(0, .var [.cell (.v ty2 x2), .cell (.os 1)]), (1, .row ty3 x3), (2, .row ty8 s1.2)] ?_ (fun k18 => ?_)
  refine ap_all [14] (by kernel_rfl) ⟨?_, trivial⟩
  refine apo_ao rfl ?_
  refine ao_r (r_load_c_int Try.isAgg3 Try.sizeOf3 rfl) rfl ?_
  refine ap_ni ?_
  refine ap_p 15 (fun _ _ _ h => h) rfl (by kernel_rfl) (rp_eql rfl rfl) rfl ?_
  exact ap_end (by kernel_rfl) (AQ.sub (sub_r1 idn (nk2 rfl rfl rfl) (by kernel_rfl)) key)
  refine ap_let (g := 2) (listed := #[true, true, true, true, false, true, true, true, true, true, true, true, true, true, true, false]) [(0, .ref 0 0), (1, .int .i64 x0), (2, .int .i64 x1), (7, .os 2), (8, .int .i64 s1.1), (10, .int .i64 (p_impl_again_sets x2 x3)), (11, .int .i64 s1.1), (14, .ref 0 0), (15, .int .i64 x0), (16, .int .i64 s1.1), (17, .int .i64 x1), (28, .int .i64 ((x3.getD x1.toNat []).getD x0.toNat 0))] [(0, .var [.cell (.v ty2 x2), .cell (.os 1)]), (1, .row ty3 x3), (2, .row ty8 s1.2)] ?_ (fun k23 => ?_)
  refine ap_all [4] (by kernel_rfl) ⟨?_, trivial⟩
  refine apo_ao rfl ?_
  refine ao_callV [0, 1] 3 trivial (c_impl_again_setValue (is_mk r8h)) Try.func37 rfl rfl rfl rfl rfl ⟨rfl, rfl, trivial⟩ ⟨⟨_, rfl, ⟨ad_ren rfl, rfl, ad_ren rfl, rfl, trivial⟩⟩, ⟨_, rfl, rfl⟩, trivial⟩ rfl rfl rfl rfl rfl rfl rfl (fun r' H' hr => ?_)
  obtain ⟨rfl, rfl⟩ := hr
  refine ao_norm (y := .int .i64 r8) (H' := [(2, .row ty8 s1.2), (0, .var [.cell (.v ty2 x2), .cell (.os 1)]), (1, .row ty3 x3)]) rfl rfl ?_
  refine ap_ni ?_
  refine ap_p 15 (fun _ _ _ h => h) rfl (by kernel_rfl) (rp_eql rfl rfl) rfl ?_
  exact ap_end (by kernel_rfl) (AQ.sub (sub_r1 idn (nk2 rfl rfl rfl) (by kernel_rfl)) key)
  refine ap_let (g := 3) (listed := #[true, true, true, true, true, true, true, true, true, true, true, true, true, false, false, false]) [(0, .ref 0 0), (1, .int .i64 x0), (2, .int .i64 x1), (7, .os 2), (8, .int .i64 s1.1), (10, .int .i64 (p_impl_again_sets x2 x3)), (11, .int .i64 s1.1), (18, .int .i64 r8), (25, .v ty3 ((x3.getD x1.toNat []) : dy9)), (26, .int .i64 x0)] [(0, .var [.cell (.v ty2 x2), .cell (.os 1)]), (1, .row ty3 x3), (2, .row ty8 s1.2)] ?_ (fun k17 => ?_)
  refine ap_all [13] (by kernel_rfl) ⟨?_, trivial⟩
  refine apo_ao rfl ?_
  refine ao_r (r_idxAddr_int Try.underlying32 Try.sizeOf3 rfl rfl (show 0 ≤ x0 from by omega) (show x0 < ((x3.getD x1.toNat []).length : Int) from by (try simp only [List.length_cons, List.length_nil]) <;> omega)) rfl ?_
  refine ap_ni ?_
  exact ap_gr idn (nk2 rfl rfl rfl) k18 (by kernel_rfl)
  refine ap_let (g := 3) (listed := #[true, true, true, true, false, true, true, true, true, true, true, true, true, true, false, false]) [(0, .ref 0 0), (1, .int .i64 x0), (2, .int .i64 x1), (7, .os 2), (8, .int .i64 s1.1), (10, .int .i64 (p_impl_again_sets x2 x3)), (11, .int .i64 s1.1), (14, .ref 0 0), (15, .int .i64 x0), (16, .int .i64 s1.1), (17, .int .i64 x1), (27, .cptr ty8 (((x3.getD x1.toNat []).getD x0.toNat 0) : Int))] [(0, .var [.cell (.v ty2 x2), .cell (.os 1)]), (1, .row ty3 x3), (2, .row ty8 s1.2)] ?_ (fun k22 => ?_)
  refine ap_all [4, 14] (by kernel_rfl) ⟨?_, ?_, trivial⟩
  refine apo_ao rfl ?_
  refine ao_callV [0, 1] 3 trivial (c_impl_again_setValue (is_mk r8h)) Try.func37 rfl rfl rfl rfl rfl ⟨rfl, rfl, trivial⟩ ⟨⟨_, rfl, ⟨ad_ren rfl, rfl, ad_ren rfl, rfl, trivial⟩⟩, ⟨_, rfl, rfl⟩, trivial⟩ rfl rfl rfl rfl rfl rfl rfl (fun r' H' hr => ?_)
  obtain ⟨rfl, rfl⟩ := hr
  refine ao_norm (y := .int .i64 r8) (H' := [(2, .row ty8 s1.2), (0, .var [.cell (.v ty2 x2), .cell (.os 1)]), (1, .row ty3 x3)]) rfl rfl ?_
  refine ap_ni ?_
  exact ap_gr idn (nk2 rfl rfl rfl) k18 (by kernel_rfl)
  refine apo_ao rfl ?_
  refine ao_r (r_load_c_int Try.isAgg3 Try.sizeOf3 rfl) rfl ?_
  refine ap_ni ?_
  exact ap_gr idn (nk2 rfl rfl rfl) k23 (by kernel_rfl)
  refine ap_let (g := 4) (listed := #[true, true, true, true, true, true, true, true, true, true, true, false, true, false, false, false]) [(0, .ref 0 0), (1, .int .i64 x0), (2, .int .i64 x1), (7, .os 2), (8, .int .i64 s1.1), (10, .int .i64 (p_impl_again_sets x2 x3)), (11, .int .i64 s1.1), (18, .int .i64 r8), (24, .elem 1 0 1 x1.toNat), (26, .int .i64 x0)] [(0, .var [.cell (.v ty2 x2), .cell (.os 1)]), (1, .row ty3 x3), (2, .row ty8 s1.2)] ?_ (fun k16 => ?_)
  refine ap_all [11] (by kernel_rfl) ⟨?_, trivial⟩
  refine apo_ao rfl ?_
  refine ao_r (r_load_elemv (t := ty3) Try.isAgg32 Try.sizeOf32 rfl rfl (show x1.toNat < x3.length from by omega)) rfl ?_
  refine ap_ni ?_
  exact ap_gr idn (nk2 rfl rfl rfl) k17 (by kernel_rfl)
  refine ap_let (g := 4) (listed := #[true, true, true, true, false, true, true, true, true, true, true, true, true, false, false, false]) [(0, .ref 0 0), (1, .int .i64 x0), (2, .int .i64 x1), (7, .os 2), (8, .int .i64 s1.1), (10, .int .i64 (p_impl_again_sets x2 x3)), (11, .int .i64 s1.1), (14, .ref 0 0), (15, .int .i64 x0), (16, .int .i64 s1.1), (17, .int .i64 x1), (25, .v ty3 ((x3.getD x1.toNat []) : dy9)), (26, .int .i64 x0)] [(0, .var [.cell (.v ty2 x2), .cell (.os 1)]), (1, .row ty3 x3), (2, .row ty8 s1.2)] ?_ (fun k21 => ?_)
  refine ap_all [4, 13] (by kernel_rfl) ⟨?_, ?_, trivial⟩
  refine apo_ao rfl ?_
  refine ao_callV [0, 1] 3 trivial (c_impl_again_setValue (is_mk r8h)) Try.func37 rfl rfl rfl rfl rfl ⟨rfl, rfl, trivial⟩ ⟨⟨_, rfl, ⟨ad_ren rfl, rfl, ad_ren rfl, rfl, trivial⟩⟩, ⟨_, rfl, rfl⟩, trivial⟩ rfl rfl rfl rfl rfl rfl rfl (fun r' H' hr => ?_)
  obtain ⟨rfl, rfl⟩ := hr
  refine ao_norm (y := .int .i64 r8) (H' := [(2, .row ty8 s1.2), (0, .var [.cell (.v ty2 x2), .cell (.os 1)]), (1, .row ty3 x3)]) rfl rfl ?_
  refine ap_ni ?_
  exact ap_gr idn (nk2 rfl rfl rfl) k17 (by kernel_rfl)
  refine apo_ao rfl ?_
  refine ao_r (r_idxAddr_int Try.underlying32 Try.sizeOf3 rfl rfl (show 0 ≤ x0 from by omega) (show x0 < ((x3.getD x1.toNat []).length : Int) from by (try simp only [List.length_cons, List.length_nil]) <;> omega)) rfl ?_
  refine ap_ni ?_
  exact ap_gr idn (nk2 rfl rfl rfl) k22 (by kernel_rfl)
  refine ap_let (g := 5) (listed := #[true, true, true, true, true, true, true, true, true, true, false, false, true, false, false, false]) [(0, .ref 0 0), (1, .int .i64 x0), (2, .int .i64 x1), (7, .os 2), (8, .int .i64 s1.1), (10, .int .i64 (p_impl_again_sets x2 x3)), (11, .int .i64 s1.1), (18, .int .i64 r8), (22, .os 1), (23, .int .i64 x1), (26, .int .i64 x0)] [(0, .var [.cell (.v ty2 x2), .cell (.os 1)]), (1, .row ty3 x3), (2, .row ty8 s1.2)] ?_ (fun k15 => ?_)
  refine ap_all [10] (by kernel_rfl) ⟨?_, trivial⟩
  refine apo_ao rfl ?_
  refine ao_r (r_idxAddr_os Try.underlying57 Try.sizeOf32 rfl rfl rfl (show 0 ≤ x1 from by omega) (show x1 < (x3.length : Int) from by omega)) rfl ?_
  refine ap_ni ?_
  exact ap_gr idn (nk2 rfl rfl rfl) k16 (by kernel_rfl)
  refine ap_let (g := 5) (listed := #[true, true, true, true, false, true, true, true, true, true, true, false, true, false, false, false]) [(0, .ref 0 0), (1, .int .i64 x0), (2, .int .i64 x1), (7, .os 2), (8, .int .i64 s1.1), (10, .int .i64 (p_impl_again_sets x2 x3)), (11, .int .i64 s1.1), (14, .ref 0 0), (15, .int .i64 x0), (16, .int .i64 s1.1), (17, .int .i64 x1), (24, .elem 1 0 1 x1.toNat), (26, .int .i64 x0)] [(0, .var [.cell (.v ty2 x2), .cell (.os 1)]), (1, .row ty3 x3), (2, .row ty8 s1.2)] ?_ (fun k20 => ?_)
  refine ap_all [4, 11] (by kernel_rfl) ⟨?_, ?_, trivial⟩
  refine apo_ao rfl ?_
  refine ao_callV [0, 1] 3 trivial (c_impl_again_setValue (is_mk r8h)) Try.func37 rfl rfl rfl rfl rfl ⟨rfl, rfl, trivial⟩ ⟨⟨_, rfl, ⟨ad_ren rfl, rfl, ad_ren rfl, rfl, trivial⟩⟩, ⟨_, rfl, rfl⟩, trivial⟩ rfl rfl rfl rfl rfl rfl rfl (fun r' H' hr => ?_)
  obtain ⟨rfl, rfl⟩ := hr
  refine ao_norm (y := .int .i64 r8) (H' := [(2, .row ty8 s1.2), (0, .var [.cell (.v ty2 x2), .cell (.os 1)]), (1, .row ty3 x3)]) rfl rfl ?_
  refine ap_ni ?_
  exact ap_gr idn (nk2 rfl rfl rfl) k16 (by kernel_rfl)
  refine apo_ao rfl ?_
  refine ao_r (r_load_elemv (t := ty3) Try.isAgg32 Try.sizeOf32 rfl rfl (show x1.toNat < x3.length from by omega)) rfl ?_
  refine ap_ni ?_
  exact ap_gr idn (nk2 rfl rfl rfl) k21 (by kernel_rfl)
  refine ap_let (g := 6) (listed := #[true, true, true, true, true, true, true, true, false, true, false, false, true, false, false, false]) [(0, .ref 0 0), (1, .int .i64 x0), (2, .int .i64 x1), (7, .os 2), (8, .int .i64 s1.1), (10, .int .i64 (p_impl_again_sets x2 x3)), (11, .int .i64 s1.1), (18, .int .i64 r8), (21, .ref 0 1), (23, .int .i64 x1), (26, .int .i64 x0)] [(0, .var [.cell (.v ty2 x2), .cell (.os 1)]), (1, .row ty3 x3), (2, .row ty8 s1.2)] ?_ (fun k14 => ?_)
  refine ap_all [8] (by kernel_rfl) ⟨?_, trivial⟩
  refine apo_ao rfl ?_
  refine ao_r (r_load_cell Try.isAgg57 rfl rfl rfl) rfl ?_
  refine ap_ni ?_
  exact ap_gr idn (nk2 rfl rfl rfl) k15 (by kernel_rfl)
  refine ap_let (g := 6) (listed := #[true, true, true, true, false, true, true, true, true, true, false, false, true, false, false, false]) [(0, .ref 0 0), (1, .int .i64 x0), (2, .int .i64 x1), (7, .os 2), (8, .int .i64 s1.1), (10, .int .i64 (p_impl_again_sets x2 x3)), (11, .int .i64 s1.1), (14, .ref 0 0), (15, .int .i64 x0), (16, .int .i64 s1.1), (17, .int .i64 x1), (22, .os 1), (23, .int .i64 x1), (26, .int .i64 x0)] [(0, .var [.cell (.v ty2 x2), .cell (.os 1)]), (1, .row ty3 x3), (2, .row ty8 s1.2)] ?_ (fun k19 => ?_)
  refine ap_all [4, 10] (by kernel_rfl) ⟨?_, ?_, trivial⟩
  refine apo_ao rfl ?_
  refine ao_callV [0, 1] 3 trivial (c_impl_again_setValue (is_mk r8h)) Try.func37 rfl rfl rfl rfl rfl ⟨rfl, rfl, trivial⟩ ⟨⟨_, rfl, ⟨ad_ren rfl, rfl, ad_ren rfl, rfl, trivial⟩⟩, ⟨_, rfl, rfl⟩, trivial⟩ rfl rfl rfl rfl rfl rfl rfl (fun r' H' hr => ?_)
  obtain ⟨rfl, rfl⟩ := hr
  refine ao_norm (y := .int .i64 r8) (H' := [(2, .row ty8 s1.2), (0, .var [.cell (.v ty2 x2), .cell (.os 1)]), (1, .row ty3 x3)]) rfl rfl ?_
  refine ap_ni ?_
  exact ap_gr idn (nk2 rfl rfl rfl) k15 (by kernel_rfl)
  refine apo_ao rfl ?_
  refine ao_r (r_idxAddr_os Try.underlying57 Try.sizeOf32 rfl rfl rfl (show 0 ≤ x1 from by omega) (show x1 < (x3.length : Int) from by omega)) rfl ?_
  refine ap_ni ?_
  exact ap_gr idn (nk2 rfl rfl rfl) k20 (by kernel_rfl)
  refine ap_let (g := 7) (listed := #[true, true, true, true, false, true, true, true, false, true, false, false, true, false, false, false]) [(0, .ref 0 0), (1, .int .i64 x0), (2, .int .i64 x1), (7, .os 2), (8, .int .i64 s1.1), (10, .int .i64 (p_impl_again_sets x2 x3)), (11, .int .i64 s1.1), (14, .ref 0 0), (15, .int .i64 x0), (16, .int .i64 s1.1), (17, .int .i64 x1), (21, .ref 0 1), (23, .int .i64 x1), (26, .int .i64 x0)] [(0, .var [.cell (.v ty2 x2), .cell (.os 1)]), (1, .row ty3 x3), (2, .row ty8 s1.2)] ?_ (fun k13 => ?_)
  refine ap_all [4, 8] (by kernel_rfl) ⟨?_, ?_, trivial⟩
  refine apo_ao rfl ?_
  refine ao_callV [0, 1] 3 trivial (c_impl_again_setValue (is_mk r8h)) Try.func37 rfl rfl rfl rfl rfl ⟨rfl, rfl, trivial⟩ ⟨⟨_, rfl, ⟨ad_ren rfl, rfl, ad_ren rfl, rfl, trivial⟩⟩, ⟨_, rfl, rfl⟩, trivial⟩ rfl rfl rfl rfl rfl rfl rfl (fun r' H' hr => ?_)
  obtain ⟨rfl, rfl⟩ := hr
  refine ao_norm (y := .int .i64 r8) (H' := [(2, .row ty8 s1.2), (0, .var [.cell (.v ty2 x2), .cell (.os 1)]), (1, .row ty3 x3)]) rfl rfl ?_
  refine ap_ni ?_
  exact ap_gr idn (nk2 rfl rfl rfl) k14 (by kernel_rfl)
  refine apo_ao rfl ?_
  refine ao_r (r_load_cell Try.isAgg57 rfl rfl rfl) rfl ?_
  refine ap_ni ?_
  exact ap_gr idn (nk2 rfl rfl rfl) k19 (by kernel_rfl)
  refine ap_p 0 (fun _ _ _ h => h) rfl (by kernel_rfl) (rp_move rfl) rfl ?_
  refine ap_p 1 (fun _ _ _ h => h) rfl (by kernel_rfl) (rp_move rfl) rfl ?_
  refine ap_p 2 (fun _ _ _ h => h) rfl (by kernel_rfl) (rp_move rfl) rfl ?_
  refine ap_p 3 (fun _ _ _ h => h) rfl (by kernel_rfl) (rp_move rfl) rfl ?_
  refine ap_p 5 (fun _ _ _ h => h) rfl (by kernel_rfl) (rp_move rfl) rfl ?_
  refine ap_p 6 (fun _ _ _ h => h) rfl (by kernel_rfl) (rp_nilCheck rfl rfl) rfl ?_
  refine ap_p 7 (fun _ _ _ h => h) rfl (by kernel_rfl) (rp_fieldAddr Try.underlying59 rfl Try.sizeOf57 rfl rfl rfl) rfl ?_
  refine ap_p 9 (fun _ _ _ h => h) rfl (by kernel_rfl) (rp_move rfl) rfl ?_
  refine ap_p 12 (fun _ _ _ h => h) rfl (by kernel_rfl) (rp_move rfl) rfl ?_
  exact ap_gr idn (nk2 rfl rfl rfl) k13 (by kernel_rfl)
  have q7 := d_f hb5
  replace h := is_else (d_f hb5) h
  refine aw_exit ?_
  refine aq_then_exit ?_
  refine aq_then_exit ?_
  refine aq_in_exit ?_
  refine aq_then ?_
  refine aw_seq ?_
  refine aw_region ?_
  refine ao_r (r_move rfl) rfl ?_
  refine ao_r (r_assign rfl) rfl ?_
  refine ao_nil ?_
  refine aq_then ?_
  refine aw_ret ?_
  refine aq_ret ?_
  obtain rfl := is_some h
  exact aq_finV (l := [.tmp 6]) (xs := [.os 2]) idn [.os 2] [(0, .var [.cell (.v ty2 x2), .cell (.os 1)]), (1, .row ty3 x3), (2, .row ty8 s1.2)] rfl (by exact ⟨rfl, trivial⟩) (by exact ⟨ad_ren rfl, trivial⟩) (by exact ⟨⟨_, rfl, ⟨ad_ren rfl, rfl, ad_ren rfl, rfl, trivial⟩⟩, ⟨_, rfl, rfl⟩, ⟨_, rfl, rfl⟩, trivial⟩) rfl (nk2 rfl rfl rfl) ⟨rfl, rfl⟩
theorem c_impl_BestSets {fu : Nat} {x0 : dy7} {x1 : dy5} {x2 : Int} {x3 : Int} {r : dy9 × Bool} (h : Is (p_impl_BestSets fu x0 x1 x2 x3) (some r)) :
    ACalls Try.prog 8 [.v ty2 x0, .v ty1 x1, .int .i64 x2, .int .i64 x3] [] (fun r' H' => r' = .tup [.os 0, .bool r.2] ∧ H' = [(0, .row ty8 r.1)]) := by
  unfold p_impl_BestSets at h
  refine ac_enter ⟨28, 0⟩ Try.func8 rfl rfl rfl rfl rfl (fun Γ => ?_)
  refine sl_len_m 0 (x0.length : Int) rfl rfl (fun hl0 => ?_)
  refine aw_seq ?_
  refine aw_region ?_
  refine ao_eff trivial (e_box 0 rfl rfl rfl rfl rfl rfl) rfl ?_
  refine ao_r (r_assign rfl) rfl ?_
  refine ao_r (r_assign rfl) rfl ?_
  refine ao_nil ?_
  refine aq_then ?_
  refine aw_seq ?_
  refine aw_seq ?_
  refine aw_region ?_
  refine ao_r (r_move rfl) rfl ?_
  refine ao_r (r_load_part (τ := ty1) (y := ((x1.1, (x1.2.1, ())) : dy5)) [] [] rfl Try.isAgg26 Try.sizeOf26 rfl rfl rfl rfl) rfl ?_
  refine ao_r (r_move rfl) rfl ?_
  refine ao_scall trivial (scall (c_impl_isAgain (is_mk (rfl : p_impl_isAgain x0 (x1.1, (x1.2.1, ())) x3 1 = _))) rfl Try.func24 rfl rfl rfl rfl (fun σ => ⟨ad_ren rfl, ad_ren rfl, ad_ren rfl, ad_ren rfl, trivial⟩)) rfl ?_
  refine ao_r (r_not rfl) rfl ?_
  refine ao_r (r_move rfl) rfl ?_
  refine ao_readG (x := .v ty2 x0) rfl (GV.F rfl) (fun hg1 => r_move rfl) rfl ?_
  refine ao_readG (x := .int .i64 x2) rfl (GV.F rfl) (fun hg2 => r_move rfl) rfl ?_
  obtain ⟨g4, h⟩ := is_guard h
  refine ao_scallG (r := .bool ((p_impl_isOutcome fu x0 x2).getD false)) rfl (GV.F rfl) (fun hg3 => SCall.strip 16 rfl (hg3) (SCall.strip 17 rfl (hg3) (scall (c_impl_isOutcome (is_mk (isSome_getD (g4 hg3)))) rfl Try.func25 rfl rfl rfl rfl (fun σ => ⟨ad_ren rfl, ad_ren rfl, trivial⟩)))) rfl ?_
  refine ao_readG (x := .bool (!((p_impl_isOutcome fu x0 x2).getD false))) rfl (GV.F rfl) (fun hg5 => Reads.strip 18 rfl (hg5) (r_not rfl)) rfl ?_
  refine ao_r (r_orB rfl rfl) rfl ?_
  refine ao_nil ?_
  refine aq_then ?_
  refine aw_cond rfl (fun hb6 => ?_) (fun hb6 => ?_)
  replace h := is_if hb6 h
  refine aw_seq ?_
  refine aw_region ?_
  refine ao_r (r_assign rfl) rfl ?_
  refine ao_r (r_assign rfl) rfl ?_
  refine ao_nil ?_
  refine aq_then ?_
  refine aw_ret ?_
  refine aq_then_ret ?_
  refine aq_ret ?_
  obtain rfl := is_some h
  refine AQ.sub (sub_nil (T := 8) (t := ty8) 1 rfl rfl rfl) ?_
  exact aq_finx (l := [.tmp 8, .tmp 9]) (xs := [.os 1, .bool false]) (rn [(0, 1)]) [.os 0, .bool false] [(0, .row ty8 ([] : dy9))] rfl (by exact ⟨rfl, rfl, trivial⟩) (by exact ⟨ad_ren rfl, ad_ren rfl, trivial⟩) (by exact ⟨⟨_, rfl, rfl⟩, trivial⟩) rfl (nk rfl) rfl rfl ⟨rfl, rfl⟩
  obtain ⟨q7, q8⟩ := or_f hb6
  replace h := is_else (ne_t hb6) h
  refine aw_skip ?_
  refine aq_then ?_
  refine aw_seq ?_
  refine aw_region ?_
  refine ao_r (r_move rfl) rfl ?_
  refine ao_r (r_load_part (τ := ty1) (y := ((x1.1, (x1.2.1, ())) : dy5)) [] [] rfl Try.isAgg26 Try.sizeOf26 rfl rfl rfl rfl) rfl ?_
  refine ao_r (r_move rfl) rfl ?_
  obtain ⟨r9, r9h, h⟩ := is_bind h
  refine ao_callV [] 1 trivial (c_impl_againOf (is_mk r9h)) Try.func26 rfl rfl rfl rfl rfl trivial trivial rfl rfl rfl rfl rfl rfl rfl (fun r' H' hr => ?_)
  obtain ⟨rfl, rfl⟩ := hr
  refine ao_norm (y := .ref 1 0) (H' := [(0, .var [ci x1.1, ci x1.2.1]), (1, .var [.cell (.v ty2 r9.1), .cell (.os 2)]), (2, .row ty3 r9.2)]) rfl rfl ?_
  refine ao_r (r_move rfl) rfl ?_
  refine ao_r (r_move rfl) rfl ?_
  obtain ⟨r10, r10h, h⟩ := is_bind h
  refine ao_callV [1, 2] 3 trivial (c_impl_again_bestSets (is_mk r10h)) Try.func33 rfl rfl rfl rfl rfl ⟨rfl, rfl, trivial⟩ ⟨⟨_, rfl, ⟨ad_ren rfl, rfl, ad_ren rfl, rfl, trivial⟩⟩, ⟨_, rfl, rfl⟩, trivial⟩ rfl rfl rfl rfl rfl rfl rfl (fun r' H' hr => ?_)
  obtain ⟨rfl, rfl⟩ := hr
  refine ao_norm (y := .os 3) (H' := [(0, .var [ci x1.1, ci x1.2.1]), (1, .var [.cell (.v ty2 r9.1), .cell (.os 2)]), (2, .row ty3 r9.2), (3, .row ty8 r10)]) rfl rfl ?_
  refine row_len_o 3 (r10.length : Int) rfl rfl (fun hr11 => ?_)
  refine ao_r (r_assign rfl) rfl ?_
  refine ao_r (r_assign rfl) rfl ?_
  refine ao_nil ?_
  refine aq_then ?_
  refine aw_ret ?_
  refine aq_ret ?_
  obtain rfl := is_some h
  exact aq_finx (l := [.tmp 8, .tmp 9]) (xs := [.os 3, .bool true]) (rn [(0, 3)]) [.os 0, .bool true] [(0, .row ty8 r10)] rfl (by exact ⟨rfl, rfl, trivial⟩) (by exact ⟨ad_ren rfl, ad_ren rfl, trivial⟩) (by exact ⟨⟨_, rfl, rfl⟩, trivial⟩) rfl (nk rfl) rfl rfl ⟨rfl, rfl⟩
theorem c_spec_l6Best {fu : Nat} {x0 : dy7} {x1 : dy5} {x2 : Int} {x3 : Int} {r : dy9} (h : Is (p_spec_l6Best fu x0 x1 x2 x3) (some r)) :
    ACalls Try.prog 34 [.v ty2 x0, .v ty1 x1, .int .i64 x2, .int .i64 x3] [] (fun r' H' => r' = .os 0 ∧ H' = [(0, .row ty8 r)]) := by
  unfold p_spec_l6Best at h
  refine ac_enter ⟨48, 0⟩ Try.func34 rfl rfl rfl rfl rfl (fun Γ => ?_)
  refine sl_len_m 0 (x0.length : Int) rfl rfl (fun hl0 => ?_)
  refine aw_seq ?_
  refine aw_region ?_
  refine ao_eff trivial (e_box 0 rfl rfl rfl rfl rfl rfl) rfl ?_
  refine ao_r (r_assign rfl) rfl ?_
  refine ao_nil ?_
  refine aq_then ?_
  refine aw_seq ?_
  refine aw_region ?_
  refine ao_r (r_move rfl) rfl ?_
  refine ao_r (r_load_part (τ := ty1) (y := ((x1.1, (x1.2.1, ())) : dy5)) [] [] rfl Try.isAgg26 Try.sizeOf26 rfl rfl rfl rfl) rfl ?_
  refine ao_r (r_move rfl) rfl ?_
  refine ao_r (r_sub rfl rfl) rfl ?_
  obtain ⟨r1, r1h, h⟩ := is_bind h
  refine ao_call [] 1 trivial (c_spec_l6Values (is_mk r1h)) Try.func31 rfl rfl rfl rfl ⟨ad_ren rfl, ad_ren rfl, ad_ren rfl, trivial⟩ trivial rfl rfl rfl rfl rfl rfl rfl (fun r' H' hr => ?_)
  obtain ⟨rfl, rfl⟩ := hr
  refine ao_norm (y := .os 1) (H' := [(0, .var [ci x1.1, ci x1.2.1]), (1, .row ty8 r1)]) rfl rfl ?_
  refine row_len_o 1 (r1.length : Int) rfl rfl (fun hr2 => ?_)
  refine ao_eff trivial (e_buildSlice (l := []) (t := ty8) 2 ([] : dy9) rfl Try.underlying32 Try.zeroValue3 Try.sizeOf3 rfl rfl rfl rfl rfl rfl rfl) rfl ?_
  refine ao_r (r_assign rfl) rfl ?_
  refine ao_r (r_assign rfl) rfl ?_
  refine ao_r (r_assign rfl) rfl ?_
  refine ao_nil ?_
  refine aq_then ?_
  refine aw_seq ?_
  refine aw_seq ?_
  refine aw_region ?_
  refine ao_r (r_assign rfl) rfl ?_
  refine ao_nil ?_
  refine aq_then ?_
  refine aw_block ?_
  refine aw_loop (AL.sub (sub_r1 (rn [(0, 1), (1, 2)]) (nk rfl) (by kernel_rfl)) (al_whl (fun (s3 : Int × Int × dy9) => [(0, .v ty2 x0), (2, .int .i64 x2), (9, .os 0), (10, .os 1), (11, .int .i64 s3.1), (12, .int .i64 s3.2.1)]) (fun (s3 : Int × Int × dy9) => [(0, .row ty8 r1), (1, .row ty8 s3.2.2)]) (fun (s3 : Int × Int × dy9) => True) h trivial (fun d5 s3 hI h ih5 => ?_)))
  replace h := is_whlS h
  refine al_round ?_
  refine aw_seq ?_
  refine aw_seq ?_
  refine aw_region ?_
  refine ao_r (r_move rfl) rfl ?_
  refine ao_r (r_move rfl) rfl ?_
  refine ao_r (r_len_vm (x0.length : Int) Try.underlying24 rfl rfl) rfl ?_
  refine ao_r (r_shl rfl rfl (by omega)) rfl ?_
  refine ao_r (r_lss rfl rfl) rfl ?_
  refine ao_nil ?_
  refine aq_then ?_
  refine aw_cond rfl (fun hb7 => ?_) (fun hb7 => ?_)
  have q8 := d_t hb7
  replace h := is_if (d_t hb7) h
  refine aw_skip ?_
  refine aq_then ?_
  refine aw_seq ?_
  refine aw_block ?_
  refine aw_seq ?_
  refine aw_region ?_
  refine ao_r (r_move rfl) rfl ?_
  refine ao_r (r_len_vm (x0.length : Int) Try.underlying24 rfl rfl) rfl ?_
  refine ao_r (r_move rfl) rfl ?_
  refine ao_r (r_move rfl) rfl ?_
  obtain ⟨r10, r10h, h⟩ := is_bind h
  refine ao_call [] 2 trivial (c_spec_l6Sums (is_mk r10h)) Try.func39 rfl rfl rfl rfl ⟨ad_ren rfl, ad_os0 rfl, ad_ren rfl, trivial⟩ trivial rfl rfl rfl rfl rfl rfl rfl (fun r' H' hr => ?_)
  obtain ⟨rfl, rfl⟩ := hr
  refine ao_norm (y := .os 2) (H' := [(0, .row ty8 r1), (1, .row ty8 s3.2.2), (2, .row ty8 r10)]) rfl rfl ?_
  refine row_len_o 2 (r10.length : Int) rfl rfl (fun hr11 => ?_)
  refine ao_r (r_move rfl) rfl ?_
  obtain ⟨g12, h⟩ := is_guard h
  obtain ⟨g13, h⟩ := is_guard h
  refine ao_r (r_idxAddr_os Try.underlying32 Try.sizeOf3 rfl rfl rfl (show 0 ≤ x2 from by omega) (show x2 < (r10.length : Int) from by omega)) rfl ?_
  refine ao_r (r_load_elem_int Try.isAgg3 Try.sizeOf3 rfl rfl (show x2.toNat < r10.length from by omega)) rfl ?_
  refine ao_r (r_assign rfl) rfl ?_
  refine ao_nil ?_
  refine aq_then ?_
  refine aw_join (fun (s14 : Int × dy9) => [(0, .v ty2 x0), (2, .int .i64 x2), (9, .os 0), (10, .os 1), (11, .int .i64 s14.1), (12, .int .i64 s3.2.1), (13, .int .i64 (r10.getD x2.toNat 0))]) (fun (s14 : Int × dy9) => [(0, .row ty8 r1), (1, .row ty8 s14.2)]) (fun (s14 : Int × dy9) => True) h (fun s14 hI h => ?_) (fun h j16 => ?_)
  refine aw_seq ?_
  refine aw_region ?_
  refine ao_r (r_move rfl) rfl ?_
  refine ao_r (r_move rfl) rfl ?_
  refine ao_r (r_eql rfl rfl) rfl ?_
  refine ao_nil ?_
  refine aq_then ?_
  refine aw_cond rfl (fun hb17 => ?_) (fun hb17 => ?_)
  have q18 : (r10.getD x2.toNat 0) = s14.1 := d_t hb17
  replace h := is_if (d_t hb17) h
  refine aw_region ?_
  refine ao_r (r_move rfl) rfl ?_
  refine ao_r (r_move rfl) rfl ?_
  refine ao_eff trivial (e_buildSlice (l := [(0, .tmp 44)]) (t := ty8) 2 ([s3.2.1] : dy9) rfl Try.underlying32 Try.zeroValue3 Try.sizeOf3 rfl rfl rfl rfl rfl rfl rfl) rfl ?_
  obtain ⟨g20, h⟩ := is_guard h
  refine ao_eff trivial (e_append (t := ty8) 3 rfl Try.underlying32 (rfl : Try.prog.info? 3 = some _) rfl rfl rfl rfl rfl rfl rfl (src_os rfl) (show s14.2.length + ([s3.2.1] : dy9).length ≤ 1000000000 from by (try simp only [List.length_cons, List.length_nil]) <;> omega) rfl rfl) rfl ?_
  refine ao_r (r_assign rfl) rfl ?_
  refine ao_nil ?_
  refine aq_in ?_
  refine aq_then ?_
  refine aw_region ?_
  refine ao_r (r_move rfl) rfl ?_
  refine ao_r (r_add rfl rfl) rfl ?_
  refine ao_r (r_assign rfl) rfl ?_
  refine ao_nil ?_
  exact aq_again (AL.sub (sub_r1 (rn [(1, 3)]) (nk rfl) (by kernel_rfl)) (ih5 (s14.1, (IntKind.wrap .i64 (s3.2.1 + 1)), (s14.2 ++ [s3.2.1])) trivial h))
  have q19 : ¬ ((r10.getD x2.toNat 0) = s14.1) := d_f hb17
  replace h := is_else (d_f hb17) h
  refine aw_skip ?_
  refine aq_in ?_
  refine aq_then ?_
  refine aw_region ?_
  refine ao_r (r_move rfl) rfl ?_
  refine ao_r (r_add rfl rfl) rfl ?_
  refine ao_r (r_assign rfl) rfl ?_
  refine ao_nil ?_
  exact aq_again (AL.sub (sub_r1 idn (nk rfl) (by kernel_rfl)) (ih5 (s14.1, (IntKind.wrap .i64 (s3.2.1 + 1)), s14.2) trivial h))
  refine aw_seq ?_
  refine aw_region ?_
  refine ao_r (r_move rfl) rfl ?_
  refine ao_r (r_move rfl) rfl ?_
  refine ao_r (r_gtr rfl rfl) rfl ?_
  refine ao_nil ?_
  refine aq_then ?_
  refine aw_cond rfl (fun hb21 => ?_) (fun hb21 => ?_)
  have q22 : s3.1 < (r10.getD x2.toNat 0) := d_t hb21
  replace h := is_if (d_t hb21) h
  refine aw_seq ?_
  refine aw_region ?_
  refine ao_r (r_move rfl) rfl ?_
  refine ao_r (r_assign rfl) rfl ?_
  refine ao_nil ?_
  refine aq_then ?_
  refine aw_region ?_
  refine ao_eff trivial (e_buildSlice (l := []) (t := ty8) 3 ([] : dy9) rfl Try.underlying32 Try.zeroValue3 Try.sizeOf3 rfl rfl rfl rfl rfl rfl rfl) rfl ?_
  refine ao_r (r_assign rfl) rfl ?_
  refine ao_nil ?_
  exact aq_then (AW.sub (sub_r1 (rn [(1, 3)]) (nk rfl) (by kernel_rfl)) (j16 ((r10.getD x2.toNat 0), []) trivial h))
  have q23 : ¬ (s3.1 < (r10.getD x2.toNat 0)) := d_f hb21
  replace h := is_else (d_f hb21) h
  refine aw_skip ?_
  exact aq_then (AW.sub (sub_r1 idn (nk rfl) (by kernel_rfl)) (j16 (s3.1, s3.2.2) trivial h))
  have q9 := d_f hb7
  replace h := is_else (d_f hb7) h
  refine aw_exit ?_
  refine aq_then_exit ?_
  refine aq_then_exit ?_
  refine aq_in_exit ?_
  refine aq_then ?_
  refine aw_seq ?_
  refine aw_region ?_
  refine ao_r (r_move rfl) rfl ?_
  refine ao_r (r_assign rfl) rfl ?_
  refine ao_nil ?_
  refine aq_then ?_
  refine aw_ret ?_
  refine aq_ret ?_
  obtain rfl := is_some h
  exact aq_finx (l := [.tmp 8]) (xs := [.os 1]) (rn [(0, 1)]) [.os 0] [(0, .row ty8 s3.2.2)] rfl (by exact ⟨rfl, trivial⟩) (by exact ⟨ad_ren rfl, trivial⟩) (by exact ⟨⟨_, rfl, rfl⟩, trivial⟩) rfl (nk rfl) rfl rfl ⟨rfl, rfl⟩
theorem c_spec_BestSets {fu : Nat} {x0 : dy7} {x1 : dy5} {x2 : Int} {x3 : Int} {r : dy9 × Bool} (h : Is (p_spec_BestSets fu x0 x1 x2 x3) (some r)) :
    ACalls Try.prog 9 [.v ty2 x0, .v ty1 x1, .int .i64 x2, .int .i64 x3] [] (fun r' H' => r' = .tup [.os 0, .bool r.2] ∧ H' = [(0, .row ty8 r.1)]) := by
  unfold p_spec_BestSets at h
  refine ac_enter ⟨31, 0⟩ Try.func9 rfl rfl rfl rfl rfl (fun Γ => ?_)
  refine sl_len_m 0 (x0.length : Int) rfl rfl (fun hl0 => ?_)
  refine aw_seq ?_
  refine aw_region ?_
  refine ao_eff trivial (e_box 0 rfl rfl rfl rfl rfl rfl) rfl ?_
  refine ao_r (r_assign rfl) rfl ?_
  refine ao_r (r_assign rfl) rfl ?_
  refine ao_nil ?_
  refine aq_then ?_
  refine aw_seq ?_
  refine aw_seq ?_
  refine aw_region ?_
  refine ao_r (r_move rfl) rfl ?_
  refine ao_r (r_load_part (τ := ty1) (y := ((x1.1, (x1.2.1, ())) : dy5)) [] [] rfl Try.isAgg26 Try.sizeOf26 rfl rfl rfl rfl) rfl ?_
  refine ao_r (r_move rfl) rfl ?_
  obtain ⟨r1, r1h, h⟩ := is_bind h
  refine ao_scall trivial (scall (c_spec_l6Good (is_mk r1h)) rfl Try.func28 rfl rfl rfl rfl (fun σ => ⟨ad_ren rfl, ad_ren rfl, ad_ren rfl, trivial⟩)) rfl ?_
  refine ao_r (r_not rfl) rfl ?_
  refine ao_r (r_move rfl) rfl ?_
  refine ao_readG (x := .int .i64 x3) rfl (GV.F rfl) (fun hg2 => r_move rfl) rfl ?_
  refine ao_readG (x := .bool (decide (x3 < 1))) rfl (GV.F rfl) (fun hg3 => Reads.strip 16 rfl (hg3) (r_lss rfl rfl)) rfl ?_
  refine ao_r (r_orB rfl rfl) rfl ?_
  refine ao_r (r_move rfl) rfl ?_
  refine ao_readG (x := .v ty2 x0) rfl (GV.F rfl) (fun hg4 => by
        obtain ⟨q5, q6⟩ := or_f (not_t hg4)
        have q7 := d_f q6
        exact r_move rfl) rfl ?_
  refine ao_readG (x := .int .i64 x2) rfl (GV.F rfl) (fun hg8 => by
        obtain ⟨q9, q10⟩ := or_f (not_t hg8)
        have q11 := d_f q10
        exact r_move rfl) rfl ?_
  obtain ⟨g16, h⟩ := is_guard h
  refine ao_scallG (r := .bool ((p_spec_l6Number fu x0 x2).getD false)) rfl (GV.F rfl) (fun hg12 => by
        obtain ⟨q13, q14⟩ := or_f (not_t hg12)
        have q15 := d_f q14
        exact SCall.strip 20 rfl (hg12) (SCall.strip 21 rfl (hg12) (scall (c_spec_l6Number (is_mk (isSome_getD (g16 hg12)))) rfl Try.func29 rfl rfl rfl rfl (fun σ => ⟨ad_ren rfl, ad_ren rfl, trivial⟩)))) rfl ?_
  refine ao_readG (x := .bool (!((p_spec_l6Number fu x0 x2).getD false))) rfl (GV.F rfl) (fun hg17 => by
        obtain ⟨q18, q19⟩ := or_f (not_t hg17)
        have q20 := d_f q19
        exact Reads.strip 22 rfl (hg17) (r_not rfl)) rfl ?_
  refine ao_r (r_orB rfl rfl) rfl ?_
  refine ao_nil ?_
  refine aq_then ?_
  refine aw_cond rfl (fun hb21 => ?_) (fun hb21 => ?_)
  replace h := is_if hb21 h
  refine aw_seq ?_
  refine aw_region ?_
  refine ao_eff trivial (e_buildSlice (l := []) (t := ty8) 1 ([] : dy9) rfl Try.underlying32 Try.zeroValue3 Try.sizeOf3 rfl rfl rfl rfl rfl rfl rfl) rfl ?_
  refine ao_r (r_assign rfl) rfl ?_
  refine ao_r (r_assign rfl) rfl ?_
  refine ao_nil ?_
  refine aq_then ?_
  refine aw_ret ?_
  refine aq_then_ret ?_
  refine aq_ret ?_
  obtain rfl := is_some h
  exact aq_finx (l := [.tmp 8, .tmp 9]) (xs := [.os 1, .bool false]) (rn [(0, 1)]) [.os 0, .bool false] [(0, .row ty8 ([] : dy9))] rfl (by exact ⟨rfl, rfl, trivial⟩) (by exact ⟨ad_ren rfl, ad_ren rfl, trivial⟩) (by exact ⟨⟨_, rfl, rfl⟩, trivial⟩) rfl (nk rfl) rfl rfl ⟨rfl, rfl⟩
  obtain ⟨q22, q23⟩ := or_f hb21
  obtain ⟨q24, q25⟩ := or_f q22
  have q26 := d_f q25
  replace h := is_else (ne_t hb21) h
  refine aw_skip ?_
  refine aq_then ?_
  refine aw_seq ?_
  refine aw_region ?_
  refine ao_r (r_move rfl) rfl ?_
  refine ao_r (r_load_part (τ := ty1) (y := ((x1.1, (x1.2.1, ())) : dy5)) [] [] rfl Try.isAgg26 Try.sizeOf26 rfl rfl rfl rfl) rfl ?_
  refine ao_r (r_move rfl) rfl ?_
  refine ao_r (r_move rfl) rfl ?_
  obtain ⟨r27, r27h, h⟩ := is_bind h
  refine ao_call [] 1 trivial (c_spec_l6Best (is_mk r27h)) Try.func34 rfl rfl rfl rfl ⟨ad_ren rfl, ad_ren rfl, ad_ren rfl, ad_ren rfl, trivial⟩ trivial rfl rfl rfl rfl rfl rfl rfl (fun r' H' hr => ?_)
  obtain ⟨rfl, rfl⟩ := hr
  refine ao_norm (y := .os 1) (H' := [(0, .var [ci x1.1, ci x1.2.1]), (1, .row ty8 r27)]) rfl rfl ?_
  refine row_len_o 1 (r27.length : Int) rfl rfl (fun hr28 => ?_)
  refine ao_r (r_assign rfl) rfl ?_
  refine ao_r (r_assign rfl) rfl ?_
  refine ao_nil ?_
  refine aq_then ?_
  refine aw_ret ?_
  refine aq_ret ?_
  obtain rfl := is_some h
  exact aq_finx (l := [.tmp 8, .tmp 9]) (xs := [.os 1, .bool true]) (rn [(0, 1)]) [.os 0, .bool true] [(0, .row ty8 r27)] rfl (by exact ⟨rfl, rfl, trivial⟩) (by exact ⟨ad_ren rfl, ad_ren rfl, trivial⟩) (by exact ⟨⟨_, rfl, rfl⟩, trivial⟩) rfl (nk rfl) rfl rfl ⟨rfl, rfl⟩
theorem c_impl_BestSet {fu : Nat} {x0 : dy7} {x1 : dy5} {x2 : Int} {x3 : Int} {r : Int × Bool} (h : Is (p_impl_BestSet fu x0 x1 x2 x3) (some r)) :
    Scalar Try.prog 10 [.v ty2 x0, .v ty1 x1, .int .i64 x2, .int .i64 x3] (.tup [.int .i64 r.1, .bool r.2]) := by
  unfold p_impl_BestSet at h
  refine ac_enter ⟨25, 0⟩ Try.func10 rfl rfl rfl rfl rfl (fun Γ => ?_)
  refine sl_len_m 0 (x0.length : Int) rfl rfl (fun hl0 => ?_)
  refine aw_seq ?_
  refine aw_region ?_
  refine ao_eff trivial (e_box 0 rfl rfl rfl rfl rfl rfl) rfl ?_
  refine ao_r (r_assign rfl) rfl ?_
  refine ao_r (r_assign rfl) rfl ?_
  refine ao_nil ?_
  refine aq_then ?_
  refine aw_seq ?_
  refine aw_region ?_
  refine ao_r (r_move rfl) rfl ?_
  refine ao_r (r_load_part (τ := ty1) (y := ((x1.1, (x1.2.1, ())) : dy5)) [] [] rfl Try.isAgg26 Try.sizeOf26 rfl rfl rfl rfl) rfl ?_
  refine ao_r (r_move rfl) rfl ?_
  refine ao_r (r_move rfl) rfl ?_
  obtain ⟨r1, r1h, h⟩ := is_bind h
  refine ao_call [] 1 trivial (c_impl_BestSets (is_mk r1h)) Try.func8 rfl rfl rfl rfl ⟨ad_ren rfl, ad_ren rfl, ad_ren rfl, ad_ren rfl, trivial⟩ trivial rfl rfl rfl rfl rfl rfl rfl (fun r' H' hr => ?_)
  obtain ⟨rfl, rfl⟩ := hr
  refine ao_norm (y := .tup [.os 1, .bool r1.2]) (H' := [(0, .var [ci x1.1, ci x1.2.1]), (1, .row ty8 r1.1)]) rfl rfl ?_
  refine row_len_o 1 (r1.1.length : Int) rfl rfl (fun hr2 => ?_)
  refine ao_r (r_move rfl) rfl ?_
  refine ao_r (r_extract rfl rfl) rfl ?_
  refine ao_r (r_extract rfl rfl) rfl ?_
  refine ao_r (r_assign rfl) rfl ?_
  refine ao_r (r_assign rfl) rfl ?_
  refine ao_nil ?_
  refine aq_then ?_
  refine aw_seq ?_
  refine aw_seq ?_
  refine aw_region ?_
  refine ao_r (r_move rfl) rfl ?_
  refine ao_r (r_not rfl) rfl ?_
  refine ao_nil ?_
  refine aq_then ?_
  refine aw_cond rfl (fun hb3 => ?_) (fun hb3 => ?_)
  replace h := is_else (ne_t (not_t hb3)) h
  refine aw_seq ?_
  refine aw_region ?_
  refine ao_r (r_assign rfl) rfl ?_
  refine ao_r (r_assign rfl) rfl ?_
  refine ao_nil ?_
  refine aq_then ?_
  refine aw_ret ?_
  refine aq_then_ret ?_
  refine aq_ret ?_
  obtain rfl := is_some h
  exact aq_finx (l := [.tmp 8, .tmp 9]) (xs := [.int .i64 0, .bool false]) idn [.int .i64 0, .bool false] [] rfl (by exact ⟨rfl, rfl, trivial⟩) (by exact ⟨ad_ren rfl, ad_ren rfl, trivial⟩) (by exact trivial) rfl (nk rfl) rfl rfl ⟨rfl, rfl⟩
  replace h := is_if (not_f hb3) h
  refine aw_skip ?_
  refine aq_then ?_
  refine aw_seq ?_
  refine aw_region ?_
  refine ao_r (r_move rfl) rfl ?_
  obtain ⟨g4, h⟩ := is_guard h
  refine ao_r (r_idxAddr_os Try.underlying32 Try.sizeOf3 rfl rfl rfl (show 0 ≤ 0 from by omega) (show 0 < (r1.1.length : Int) from by omega)) rfl ?_
  refine ao_r (r_load_elem_int Try.isAgg3 Try.sizeOf3 rfl rfl (show 0 < r1.1.length from by omega)) rfl ?_
  refine ao_r (r_assign rfl) rfl ?_
  refine ao_r (r_assign rfl) rfl ?_
  refine ao_nil ?_
  refine aq_then ?_
  refine aw_ret ?_
  refine aq_ret ?_
  obtain rfl := is_some h
  exact aq_finx (l := [.tmp 8, .tmp 9]) (xs := [.int .i64 (r1.1.getD 0 0), .bool true]) idn [.int .i64 (r1.1.getD 0 0), .bool true] [] rfl (by exact ⟨rfl, rfl, trivial⟩) (by exact ⟨ad_ren rfl, ad_ren rfl, trivial⟩) (by exact trivial) rfl (nk rfl) rfl rfl ⟨rfl, rfl⟩
theorem c_spec_BestSet {fu : Nat} {x0 : dy7} {x1 : dy5} {x2 : Int} {x3 : Int} {r : Int × Bool} (h : Is (p_spec_BestSet fu x0 x1 x2 x3) (some r)) :
    Scalar Try.prog 11 [.v ty2 x0, .v ty1 x1, .int .i64 x2, .int .i64 x3] (.tup [.int .i64 r.1, .bool r.2]) := by
  unfold p_spec_BestSet at h
  refine ac_enter ⟨25, 0⟩ Try.func11 rfl rfl rfl rfl rfl (fun Γ => ?_)
  refine sl_len_m 0 (x0.length : Int) rfl rfl (fun hl0 => ?_)
  refine aw_seq ?_
  refine aw_region ?_
  refine ao_eff trivial (e_box 0 rfl rfl rfl rfl rfl rfl) rfl ?_
  refine ao_r (r_assign rfl) rfl ?_
  refine ao_r (r_assign rfl) rfl ?_
  refine ao_nil ?_
  refine aq_then ?_
  refine aw_seq ?_
  refine aw_region ?_
  refine ao_r (r_move rfl) rfl ?_
  refine ao_r (r_load_part (τ := ty1) (y := ((x1.1, (x1.2.1, ())) : dy5)) [] [] rfl Try.isAgg26 Try.sizeOf26 rfl rfl rfl rfl) rfl ?_
  refine ao_r (r_move rfl) rfl ?_
  refine ao_r (r_move rfl) rfl ?_
  obtain ⟨r1, r1h, h⟩ := is_bind h
  refine ao_call [] 1 trivial (c_spec_BestSets (is_mk r1h)) Try.func9 rfl rfl rfl rfl ⟨ad_ren rfl, ad_ren rfl, ad_ren rfl, ad_ren rfl, trivial⟩ trivial rfl rfl rfl rfl rfl rfl rfl (fun r' H' hr => ?_)
  obtain ⟨rfl, rfl⟩ := hr
  refine ao_norm (y := .tup [.os 1, .bool r1.2]) (H' := [(0, .var [ci x1.1, ci x1.2.1]), (1, .row ty8 r1.1)]) rfl rfl ?_
  refine row_len_o 1 (r1.1.length : Int) rfl rfl (fun hr2 => ?_)
  refine ao_r (r_move rfl) rfl ?_
  refine ao_r (r_extract rfl rfl) rfl ?_
  refine ao_r (r_extract rfl rfl) rfl ?_
  refine ao_r (r_assign rfl) rfl ?_
  refine ao_r (r_assign rfl) rfl ?_
  refine ao_nil ?_
  refine aq_then ?_
  refine aw_seq ?_
  refine aw_seq ?_
  refine aw_region ?_
  refine ao_r (r_move rfl) rfl ?_
  refine ao_r (r_not rfl) rfl ?_
  refine ao_nil ?_
  refine aq_then ?_
  refine aw_cond rfl (fun hb3 => ?_) (fun hb3 => ?_)
  replace h := is_else (ne_t (not_t hb3)) h
  refine aw_seq ?_
  refine aw_region ?_
  refine ao_r (r_assign rfl) rfl ?_
  refine ao_r (r_assign rfl) rfl ?_
  refine ao_nil ?_
  refine aq_then ?_
  refine aw_ret ?_
  refine aq_then_ret ?_
  refine aq_ret ?_
  obtain rfl := is_some h
  exact aq_finx (l := [.tmp 8, .tmp 9]) (xs := [.int .i64 0, .bool false]) idn [.int .i64 0, .bool false] [] rfl (by exact ⟨rfl, rfl, trivial⟩) (by exact ⟨ad_ren rfl, ad_ren rfl, trivial⟩) (by exact trivial) rfl (nk rfl) rfl rfl ⟨rfl, rfl⟩
  replace h := is_if (not_f hb3) h
  refine aw_skip ?_
  refine aq_then ?_
  refine aw_seq ?_
  refine aw_region ?_
  refine ao_r (r_move rfl) rfl ?_
  obtain ⟨g4, h⟩ := is_guard h
  refine ao_r (r_idxAddr_os Try.underlying32 Try.sizeOf3 rfl rfl rfl (show 0 ≤ 0 from by omega) (show 0 < (r1.1.length : Int) from by omega)) rfl ?_
  refine ao_r (r_load_elem_int Try.isAgg3 Try.sizeOf3 rfl rfl (show 0 < r1.1.length from by omega)) rfl ?_
  refine ao_r (r_assign rfl) rfl ?_
  refine ao_r (r_assign rfl) rfl ?_
  refine ao_nil ?_
  refine aq_then ?_
  refine aw_ret ?_
  refine aq_ret ?_
  obtain rfl := is_some h
  exact aq_finx (l := [.tmp 8, .tmp 9]) (xs := [.int .i64 (r1.1.getD 0 0), .bool true]) idn [.int .i64 (r1.1.getD 0 0), .bool true] [] rfl (by exact ⟨rfl, rfl, trivial⟩) (by exact ⟨ad_ren rfl, ad_ren rfl, trivial⟩) (by exact trivial) rfl (nk rfl) rfl rfl ⟨rfl, rfl⟩
theorem c_laws_vCut {x0 : dy9} {x1 : Int} {r : dy9} (h : Is (p_laws_vCut x0 x1) (some r)) :
    ACalls Try.prog 13 [.v ty6 x0, .int .i64 x1] [] (fun r' H' => r' = .os 0 ∧ H' = [(0, .row (.int .u8) r)]) := by
  unfold p_laws_vCut at h
  refine ac_enter ⟨20, 0⟩ Try.func13 rfl rfl rfl rfl rfl (fun Γ => ?_)
  refine sl_len_m 0 (x0.length : Int) rfl rfl (fun hl0 => ?_)
  refine aw_seq ?_
  refine aw_region ?_
  refine ao_r (r_assign rfl) rfl ?_
  refine ao_nil ?_
  refine aq_then ?_
  refine aw_join (fun (s1 : Int) => [(0, .v ty6 x0), (1, .int .i64 s1)]) (fun (s1 : Int) => []) (fun (s1 : Int) => True) h (fun s1 hI h => ?_) (fun h j3 => ?_)
  refine aw_seq ?_
  refine aw_region ?_
  refine ao_eff trivial (e_buildSlice (l := []) (t := (.int .u8)) 0 ([] : dy9) rfl Try.underlying22 Try.zeroValue5 Try.sizeOf5 rfl rfl rfl rfl rfl rfl rfl) rfl ?_
  refine ao_r (r_move rfl) rfl ?_
  refine ao_r (r_move rfl) rfl ?_
  obtain ⟨g4, h⟩ := is_guard h
  obtain ⟨g5, h⟩ := is_guard h
  refine ao_r (r_slice_vm (t := (.int .u8)) ((x0.drop s1.toNat) : dy9) Try.underlying22 Try.sizeOf5 rfl (.some rfl) .none (show 0 ≤ s1 from by omega) (show s1 ≤ (x0.length : Int) from by omega) (show (x0.length : Int) ≤ (x0.length : Int) from by omega) sl_hi) rfl ?_
  obtain ⟨g6, h⟩ := is_guard h
  refine ao_eff trivial (e_append (t := (.int .u8)) 1 rfl Try.underlying22 (rfl : Try.prog.info? 5 = some _) rfl rfl rfl rfl rfl rfl rfl src_v (show [].length + (x0.drop s1.toNat).length ≤ 1000000000 from by (try simp only [List.length_cons, List.length_nil, List.length_drop]) <;> omega) rfl rfl) rfl ?_
  refine ao_r (r_move rfl) rfl ?_
  refine ao_r (r_conv Try.underlying3 Try.underlying5 rfl) rfl ?_
  refine ao_eff trivial (e_buildSlice (l := [(0, .tmp 17)]) (t := (.int .u8)) 2 ([(IntKind.wrap .u8 s1)] : dy9) rfl Try.underlying22 Try.zeroValue5 Try.sizeOf5 rfl rfl rfl rfl rfl rfl rfl) rfl ?_
  obtain ⟨g7, h⟩ := is_guard h
  refine ao_eff trivial (e_append (t := (.int .u8)) 3 rfl Try.underlying22 (rfl : Try.prog.info? 5 = some _) rfl rfl rfl rfl rfl rfl rfl (src_os rfl) (show ([] ++ (x0.drop s1.toNat)).length + ([(IntKind.wrap .u8 s1)] : dy9).length ≤ 1000000000 from by (try simp only [List.length_append, List.length_cons, List.length_nil, List.length_drop]) <;> omega) rfl rfl) rfl ?_
  refine ao_r (r_assign rfl) rfl ?_
  refine ao_nil ?_
  refine aq_then ?_
  refine aw_ret ?_
  refine aq_ret ?_
  obtain rfl := is_some h
  exact aq_finx (l := [.tmp 4]) (xs := [.os 3]) (rn [(0, 3)]) [.os 0] [(0, .row (.int .u8) ((([] ++ (x0.drop s1.toNat)) ++ [(IntKind.wrap .u8 s1)]) : dy9))] rfl (by exact ⟨rfl, trivial⟩) (by exact ⟨ad_ren rfl, trivial⟩) (by exact ⟨⟨_, rfl, rfl⟩, trivial⟩) rfl (nk rfl) rfl rfl ⟨rfl, rfl⟩
  refine aw_seq ?_
  refine aw_region ?_
  refine ao_r (r_move rfl) rfl ?_
  refine ao_r (r_move rfl) rfl ?_
  refine ao_r (r_len_vm (x0.length : Int) Try.underlying22 rfl rfl) rfl ?_
  refine ao_r (r_gtr rfl rfl) rfl ?_
  refine ao_nil ?_
  refine aq_then ?_
  refine aw_cond rfl (fun hb8 => ?_) (fun hb8 => ?_)
  have q9 := d_t hb8
  replace h := is_if (d_t hb8) h
  refine aw_region ?_
  refine ao_r (r_move rfl) rfl ?_
  refine ao_r (r_len_vm (x0.length : Int) Try.underlying22 rfl rfl) rfl ?_
  refine ao_r (r_assign rfl) rfl ?_
  refine ao_nil ?_
  exact aq_then (AW.sub (sub_r1 idn (nk rfl) (by kernel_rfl)) (j3 (x0.length : Int) trivial h))
  have q10 := d_f hb8
  replace h := is_else (d_f hb8) h
  refine aw_skip ?_
  exact aq_then (AW.sub (sub_r1 idn (nk rfl) (by kernel_rfl)) (j3 x1 trivial h))
theorem c_spec_DrawSetValue {fu : Nat} {x0 : dy9} {r : dy7 × dy5 × Int × Int × Int} (h : Is (p_spec_DrawSetValue fu x0) (some r)) :
    ACalls Try.prog 12 [.v ty6 x0] [] (fun r' H' => r' = .tup [.os 0, .v ty1 r.2.1, .int .i64 r.2.2.1, .int .i64 r.2.2.2.1, .int .i64 r.2.2.2.2] ∧ H' = [(0, .row ty4 r.1)]) := by
  unfold p_spec_DrawSetValue at h
  refine ac_enter ⟨32, 0⟩ Try.func12 rfl rfl rfl rfl rfl (fun Γ => ?_)
  refine sl_len_m 0 (x0.length : Int) rfl rfl (fun hl0 => ?_)
  refine aw_seq ?_
  refine aw_region ?_
  refine ao_r (r_assign rfl) rfl ?_
  refine ao_eff trivial (e_alloc 0 (y := .st [.int .i64 0, .int .i64 0]) Try.zeroValue26 (fun ρ h M => ra_zero_st (t := ty1) rfl rfl rfl) rfl rfl rfl rfl rfl) rfl ?_
  refine ao_r (r_assign rfl) rfl ?_
  refine ao_r (r_assign rfl) rfl ?_
  refine ao_r (r_assign rfl) rfl ?_
  refine ao_nil ?_
  refine aq_then ?_
  refine aw_seq ?_
  refine aw_region ?_
  refine ao_r (r_move rfl) rfl ?_
  refine ao_r (r_build_st (l := [(0, .tmp 12)]) (cs := [.cell (.v ty6 x0), ci 0, .cell (.int .u64 0)]) (.pair ty6 (.pair ty8 (.pair (.int .u64) .unit))) [(0, 1), (1, 1), (2, 1)] Try.underlying50 Try.zeroValue50 rfl ⟨rfl, Try.sizeOf22, rfl, Try.sizeOf3, rfl, Try.sizeOf48, trivial⟩ rfl rfl rfl) rfl ?_
  refine ao_eff trivial (e_box 1 rfl rfl rfl rfl rfl rfl) rfl ?_
  refine ao_r (r_assign rfl) rfl ?_
  refine ao_nil ?_
  refine aq_then ?_
  refine aw_seq ?_
  refine aw_region ?_
  refine ao_r (r_move rfl) rfl ?_
  obtain ⟨r1, r1h, h⟩ := is_bind h
  refine ao_callV [1] 2 trivial (c_spec_l1Cur_again6 (is_mk r1h)) Try.func23 rfl rfl rfl rfl rfl ⟨rfl, trivial⟩ ⟨⟨_, rfl, ⟨ad_ren rfl, rfl, ad_ren rfl, rfl, ad_ren rfl, rfl, trivial⟩⟩, trivial⟩ rfl rfl rfl rfl rfl rfl rfl (fun r' H' hr => ?_)
  obtain ⟨rfl, rfl⟩ := hr
  refine ao_norm (y := .tup [.os 2, .v ty1 r1.2.1, .int .i64 r1.2.2.1, .int .i64 r1.2.2.2.1]) (H' := [(0, .var [ci 0, ci 0]), (1, .var [.cell (.v ty6 x0), ci r1.2.2.2.2.1, .cell (.int .u64 r1.2.2.2.2.2)]), (2, .row ty4 r1.1)]) rfl rfl ?_
  refine row_len_o 2 (r1.1.length : Int) rfl rfl (fun hr2 => ?_)
  refine ao_r (r_move rfl) rfl ?_
  refine ao_r (r_extract rfl rfl) rfl ?_
  refine ao_r (r_extract rfl rfl) rfl ?_
  refine ao_r (r_extract rfl rfl) rfl ?_
  refine ao_r (r_extract rfl rfl) rfl ?_
  refine ao_eff trivial (e_alloc 3 (y := .st [.int .i64 0, .int .i64 0]) Try.zeroValue26 (fun ρ h M => ra_zero_st (t := ty1) rfl rfl rfl) rfl rfl rfl rfl rfl) rfl ?_
  refine ao_r (r_assign rfl) rfl ?_
  refine ao_effS trivial (e_store rfl rfl rfl rfl Try.sizeOf26 rfl) ?_
  refine ao_r (r_assign rfl) rfl ?_
  refine ao_r (r_assign rfl) rfl ?_
  refine ao_nil ?_
  refine aq_then ?_
  refine aw_seq ?_
  obtain ⟨r3, r3h, h⟩ := is_bind h
  obtain ⟨r4, r4h, h⟩ := is_bind h
  refine aw_drawP 15 rfl (by kernel_rfl) ?_
  refine ap_to [(2, .os 0), (3, .ref 1 0), (4, .int .i64 r1.2.2.1), (5, .int .i64 (IntKind.wrap .i64 (r3.1 - (IntKind.wrap .i64 (r4.1.tdiv 23))))), (6, .int .i64 r1.2.2.2.1)] [(0, .row ty4 r1.1), (1, .var [ci r1.2.1.1, ci r1.2.1.2.1])] ?_ (fun key => ?_)
  refine aq_then ?_
  refine aw_ret ?_
  refine aq_ret ?_
  obtain rfl := is_some h
  exact aq_finx (l := [.tmp 2, .cell 3 26, .tmp 4, .tmp 5, .tmp 6]) (xs := [.os 0, .st [.int .i64 r1.2.1.1, .int .i64 r1.2.1.2.1], .int .i64 r1.2.2.1, .int .i64 (IntKind.wrap .i64 (r3.1 - (IntKind.wrap .i64 (r4.1.tdiv 23)))), .int .i64 r1.2.2.2.1]) idn [.os 0, .v ty1 ((r1.2.1.1, (r1.2.1.2.1, ())) : dy5), .int .i64 r1.2.2.1, .int .i64 (IntKind.wrap .i64 (r3.1 - (IntKind.wrap .i64 (r4.1.tdiv 23)))), .int .i64 r1.2.2.2.1] [(0, .row ty4 r1.1)] rfl (by exact ⟨rfl, ⟨⟨_, _, rfl⟩, r_load_st [] [ci r1.2.1.1, ci r1.2.1.2.1] [] Try.isAgg26 Try.sizeOf26 rfl rfl rfl rfl rfl rfl rfl⟩, rfl, rfl, rfl, trivial⟩) (by exact ⟨ad_ren rfl, ad_st rfl rfl ⟨ad_ren rfl, ad_ren rfl, trivial⟩, ad_ren rfl, ad_ren rfl, ad_ren rfl, trivial⟩) (by exact ⟨⟨_, rfl, rfl⟩, trivial⟩) rfl (nk rfl) rfl rfl ⟨rfl, rfl⟩
  refine ap_let (g := 4) (listed := #[true, true, true, true, true, true, true, true, true, true, true, false, false, false, false]) [(2, .os 0), (3, .ref 1 0), (4, .int .i64 0), (5, .int .i64 0), (6, .int .i64 0), (23, .v ty1 ((r1.2.1.1, (r1.2.1.2.1, ())) : dy5)), (24, .int .i64 r1.2.2.1), (30, .int .i64 (IntKind.wrap .i64 (r3.1 - (IntKind.wrap .i64 (r4.1.tdiv 23))))), (31, .int .i64 r1.2.2.2.1)] [(0, .row ty4 r1.1), (1, .var [ci 0, ci 0])] ?_ (fun k8 => ?_)
  refine ap_all [11] (by kernel_rfl) ⟨?_, trivial⟩
  refine apo_ao rfl ?_
  refine ao_effS trivial (e_store rfl rfl rfl rfl Try.sizeOf26 rfl) ?_
  refine ap_ni ?_
  refine ap_p 12 (fun _ _ _ h => h) rfl (by kernel_rfl) (rp_assign rfl) rfl ?_
  refine ap_p 13 (fun _ _ _ h => h) rfl (by kernel_rfl) (rp_assign rfl) rfl ?_
  refine ap_p 14 (fun _ _ _ h => h) rfl (by kernel_rfl) (rp_assign rfl) rfl ?_
  exact ap_end (by kernel_rfl) (AQ.sub (sub_r1 idn (nk rfl) (by kernel_rfl)) key)
  refine ap_let (g := 5) (listed := #[true, false, true, true, true, true, true, true, true, true, true, false, false, false, false]) [(2, .os 0), (3, .ref 1 0), (4, .int .i64 0), (5, .int .i64 0), (6, .int .i64 0), (9, .ref 2 0), (24, .int .i64 r1.2.2.1), (30, .int .i64 (IntKind.wrap .i64 (r3.1 - (IntKind.wrap .i64 (r4.1.tdiv 23))))), (31, .int .i64 r1.2.2.2.1)] [(0, .row ty4 r1.1), (1, .var [ci 0, ci 0]), (2, .var [ci r1.2.1.1, ci r1.2.1.2.1])] ?_ (fun k10 => ?_)
  refine ap_all [1] (by kernel_rfl) ⟨?_, trivial⟩
  refine apo_ao rfl ?_
  refine ao_r (r_load_part (τ := ty1) (y := ((r1.2.1.1, (r1.2.1.2.1, ())) : dy5)) [] [] rfl Try.isAgg26 Try.sizeOf26 rfl rfl rfl rfl) rfl ?_
  refine ap_ni ?_
  exact ap_gr idn (nk rfl) k8 (by kernel_rfl)
  refine ap_let (g := 8) (listed := #[true, true, true, true, true, true, false, false, false, true, false, false, false, false, false]) [(2, .nilsl), (3, .ref 0 0), (4, .int .i64 0), (5, .int .i64 0), (6, .int .i64 0), (22, .os 1), (23, .v ty1 ((r1.2.1.1, (r1.2.1.2.1, ())) : dy5)), (24, .int .i64 r1.2.2.1), (26, .int .i64 r3.1), (27, .ref 2 0), (31, .int .i64 r1.2.2.2.1)] [(0, .var [ci 0, ci 0]), (1, .row ty4 r1.1), (2, .var [.cell (.v ty6 x0), ci r3.2.1, .cell (.int .u64 r3.2.2)])] ?_ (fun k7 => ?_)
  refine ap_all [6] (by kernel_rfl) ⟨?_, trivial⟩
  refine apo_ao rfl ?_
  refine ao_callV [2] 3 trivial (c_spec_l1Cur_pick (is_mk r4h)) Try.func35 rfl rfl rfl rfl rfl ⟨rfl, trivial⟩ ⟨⟨_, rfl, ⟨ad_ren rfl, rfl, ad_ren rfl, rfl, ad_ren rfl, rfl, trivial⟩⟩, trivial⟩ rfl rfl rfl rfl rfl rfl rfl (fun r' H' hr => ?_)
  obtain ⟨rfl, rfl⟩ := hr
  refine ao_norm (y := .int .i64 r4.1) (H' := [(0, .var [ci 0, ci 0]), (1, .row ty4 r1.1), (2, .var [.cell (.v ty6 x0), ci r4.2.1, .cell (.int .u64 r4.2.2)])]) rfl rfl ?_
  refine ap_ni ?_
  refine ap_p 7 (fun _ _ _ h => h) rfl (by kernel_rfl) (rp_quo rfl rfl (by decide)) rfl ?_
  refine ap_p 8 (fun _ _ _ h => h) rfl (by kernel_rfl) (rp_sub rfl rfl) rfl ?_
  refine ap_p 10 (fun _ _ _ h => h) rfl (by kernel_rfl) (rp_assign rfl) rfl ?_
  exact ap_gr (rn [(0, 1), (1, 0)]) (nk rfl) k8 (by kernel_rfl)
  refine ap_let (g := 9) (listed := #[true, true, true, true, false, true, false, false, false, true, false, false, false, false, false]) [(2, .nilsl), (3, .ref 0 0), (4, .int .i64 0), (5, .int .i64 0), (6, .int .i64 0), (22, .os 1), (23, .v ty1 ((r1.2.1.1, (r1.2.1.2.1, ())) : dy5)), (24, .int .i64 r1.2.2.1), (25, .ref 2 0), (27, .ref 2 0), (31, .int .i64 r1.2.2.2.1)] [(0, .var [ci 0, ci 0]), (1, .row ty4 r1.1), (2, .var [.cell (.v ty6 x0), ci r1.2.2.2.2.1, .cell (.int .u64 r1.2.2.2.2.2)])] ?_ (fun k6 => ?_)
  refine ap_all [4] (by kernel_rfl) ⟨?_, trivial⟩
  refine apo_ao rfl ?_
  refine ao_callV [2] 3 trivial (c_spec_l1Cur_pick (is_mk r3h)) Try.func35 rfl rfl rfl rfl rfl ⟨rfl, trivial⟩ ⟨⟨_, rfl, ⟨ad_ren rfl, rfl, ad_ren rfl, rfl, ad_ren rfl, rfl, trivial⟩⟩, trivial⟩ rfl rfl rfl rfl rfl rfl rfl (fun r' H' hr => ?_)
  obtain ⟨rfl, rfl⟩ := hr
  refine ao_norm (y := .int .i64 r3.1) (H' := [(0, .var [ci 0, ci 0]), (1, .row ty4 r1.1), (2, .var [.cell (.v ty6 x0), ci r3.2.1, .cell (.int .u64 r3.2.2)])]) rfl rfl ?_
  refine ap_ni ?_
  exact ap_gr idn (nk rfl) k7 (by kernel_rfl)
  refine ap_let (g := 9) (listed := #[true, false, true, true, true, true, false, false, false, true, false, false, false, false, false]) [(2, .nilsl), (3, .ref 0 0), (4, .int .i64 0), (5, .int .i64 0), (6, .int .i64 0), (9, .ref 1 0), (22, .os 2), (24, .int .i64 r1.2.2.1), (26, .int .i64 r3.1), (27, .ref 3 0), (31, .int .i64 r1.2.2.2.1)] [(0, .var [ci 0, ci 0]), (1, .var [ci r1.2.1.1, ci r1.2.1.2.1]), (2, .row ty4 r1.1), (3, .var [.cell (.v ty6 x0), ci r3.2.1, .cell (.int .u64 r3.2.2)])] ?_ (fun k9 => ?_)
  refine ap_all [1, 6] (by kernel_rfl) ⟨?_, ?_, trivial⟩
  refine apo_ao rfl ?_
  refine ao_r (r_load_part (τ := ty1) (y := ((r1.2.1.1, (r1.2.1.2.1, ())) : dy5)) [] [] rfl Try.isAgg26 Try.sizeOf26 rfl rfl rfl rfl) rfl ?_
  refine ap_ni ?_
  exact ap_gr (rn [(1, 2), (2, 3)]) (nk rfl) k7 (by kernel_rfl)
  refine apo_ao rfl ?_
  refine ao_callV [3] 4 trivial (c_spec_l1Cur_pick (is_mk r4h)) Try.func35 rfl rfl rfl rfl rfl ⟨rfl, trivial⟩ ⟨⟨_, rfl, ⟨ad_ren rfl, rfl, ad_ren rfl, rfl, ad_ren rfl, rfl, trivial⟩⟩, trivial⟩ rfl rfl rfl rfl rfl rfl rfl (fun r' H' hr => ?_)
  obtain ⟨rfl, rfl⟩ := hr
  refine ao_norm (y := .int .i64 r4.1) (H' := [(0, .var [ci 0, ci 0]), (1, .var [ci r1.2.1.1, ci r1.2.1.2.1]), (2, .row ty4 r1.1), (3, .var [.cell (.v ty6 x0), ci r4.2.1, .cell (.int .u64 r4.2.2)])]) rfl rfl ?_
  refine ap_ni ?_
  refine ap_p 7 (fun _ _ _ h => h) rfl (by kernel_rfl) (rp_quo rfl rfl (by decide)) rfl ?_
  refine ap_p 8 (fun _ _ _ h => h) rfl (by kernel_rfl) (rp_sub rfl rfl) rfl ?_
  refine ap_p 10 (fun _ _ _ h => h) rfl (by kernel_rfl) (rp_assign rfl) rfl ?_
  exact ap_gr (rn [(0, 2), (1, 0), (2, 1)]) (nk rfl) k10 (by kernel_rfl)
  refine ap_let (g := 10) (listed := #[true, false, true, true, false, true, false, false, false, true, false, false, false, false, false]) [(2, .nilsl), (3, .ref 0 0), (4, .int .i64 0), (5, .int .i64 0), (6, .int .i64 0), (9, .ref 1 0), (22, .os 2), (24, .int .i64 r1.2.2.1), (25, .ref 3 0), (27, .ref 3 0), (31, .int .i64 r1.2.2.2.1)] [(0, .var [ci 0, ci 0]), (1, .var [ci r1.2.1.1, ci r1.2.1.2.1]), (2, .row ty4 r1.1), (3, .var [.cell (.v ty6 x0), ci r1.2.2.2.2.1, .cell (.int .u64 r1.2.2.2.2.2)])] ?_ (fun k5 => ?_)
  refine ap_all [1, 4] (by kernel_rfl) ⟨?_, ?_, trivial⟩
  refine apo_ao rfl ?_
  refine ao_r (r_load_part (τ := ty1) (y := ((r1.2.1.1, (r1.2.1.2.1, ())) : dy5)) [] [] rfl Try.isAgg26 Try.sizeOf26 rfl rfl rfl rfl) rfl ?_
  refine ap_ni ?_
  exact ap_gr (rn [(1, 2), (2, 3)]) (nk rfl) k6 (by kernel_rfl)
  refine apo_ao rfl ?_
  refine ao_callV [3] 4 trivial (c_spec_l1Cur_pick (is_mk r3h)) Try.func35 rfl rfl rfl rfl rfl ⟨rfl, trivial⟩ ⟨⟨_, rfl, ⟨ad_ren rfl, rfl, ad_ren rfl, rfl, ad_ren rfl, rfl, trivial⟩⟩, trivial⟩ rfl rfl rfl rfl rfl rfl rfl (fun r' H' hr => ?_)
  obtain ⟨rfl, rfl⟩ := hr
  refine ao_norm (y := .int .i64 r3.1) (H' := [(0, .var [ci 0, ci 0]), (1, .var [ci r1.2.1.1, ci r1.2.1.2.1]), (2, .row ty4 r1.1), (3, .var [.cell (.v ty6 x0), ci r3.2.1, .cell (.int .u64 r3.2.2)])]) rfl rfl ?_
  refine ap_ni ?_
  exact ap_gr idn (nk rfl) k9 (by kernel_rfl)
  refine ap_p 0 (fun _ _ _ h => h) rfl (by kernel_rfl) (rp_move rfl) rfl ?_
  refine ap_p 2 (fun _ _ _ h => h) rfl (by kernel_rfl) (rp_move rfl) rfl ?_
  refine ap_p 3 (fun _ _ _ h => h) rfl (by kernel_rfl) (rp_move rfl) rfl ?_
  refine ap_p 5 (fun _ _ _ h => h) rfl (by kernel_rfl) (rp_move rfl) rfl ?_
  refine ap_p 9 (fun _ _ _ h => h) rfl (by kernel_rfl) (rp_move rfl) rfl ?_
  exact ap_gr (rn [(1, 3), (3, 1)]) (nk rfl) k5 (by kernel_rfl)
theorem c_impl_SetValue {fu : Nat} {x0 : dy7} {x1 : dy5} {x2 : Int} {x3 : Int} {x4 : Int} {r : dy9 × Bool} (h : Is (p_impl_SetValue fu x0 x1 x2 x3 x4) (some r)) :
    Scalar Try.prog 14 [.v ty2 x0, .v ty1 x1, .int .i64 x2, .int .i64 x3, .int .i64 x4] (.tup [.v (.arr 2 ty8) r.1, .bool r.2]) := by
  unfold p_impl_SetValue at h
  refine ac_enter ⟨47, 0⟩ Try.func14 rfl rfl rfl rfl rfl (fun Γ => ?_)
  refine sl_len_m 0 (x0.length : Int) rfl rfl (fun hl0 => ?_)
  refine aw_seq ?_
  refine aw_region ?_
  refine ao_eff trivial (e_box 0 rfl rfl rfl rfl rfl rfl) rfl ?_
  refine ao_eff trivial (e_alloc 1 (y := .v (.arr 2 ty8) ((List.replicate 2 0) : dy9)) Try.zeroValue29 (fun ρ h M => ra_zero_arr (t := ty8) rfl) rfl rfl rfl rfl rfl) rfl ?_
  refine ao_r (r_assign rfl) rfl ?_
  refine ao_nil ?_
  refine aq_then ?_
  refine aw_seq ?_
  refine aw_seq ?_
  refine aw_region ?_
  refine ao_r (r_move rfl) rfl ?_
  refine ao_r (r_load_part (τ := ty1) (y := ((x1.1, (x1.2.1, ())) : dy5)) [] [] rfl Try.isAgg26 Try.sizeOf26 rfl rfl rfl rfl) rfl ?_
  refine ao_r (r_move rfl) rfl ?_
  refine ao_scall trivial (scall (c_impl_isAgain (is_mk (rfl : p_impl_isAgain x0 (x1.1, (x1.2.1, ())) x4 1 = _))) rfl Try.func24 rfl rfl rfl rfl (fun σ => ⟨ad_ren rfl, ad_ren rfl, ad_ren rfl, ad_ren rfl, trivial⟩)) rfl ?_
  refine ao_r (r_not rfl) rfl ?_
  refine ao_r (r_move rfl) rfl ?_
  refine ao_readG (x := .v ty2 x0) rfl (GV.F rfl) (fun hg1 => r_move rfl) rfl ?_
  refine ao_readG (x := .int .i64 x2) rfl (GV.F rfl) (fun hg2 => r_move rfl) rfl ?_
  obtain ⟨g4, h⟩ := is_guard h
  refine ao_scallG (r := .bool ((p_impl_isOutcome fu x0 x2).getD false)) rfl (GV.F rfl) (fun hg3 => SCall.strip 19 rfl (hg3) (SCall.strip 20 rfl (hg3) (scall (c_impl_isOutcome (is_mk (isSome_getD (g4 hg3)))) rfl Try.func25 rfl rfl rfl rfl (fun σ => ⟨ad_ren rfl, ad_ren rfl, trivial⟩)))) rfl ?_
  refine ao_readG (x := .bool (!((p_impl_isOutcome fu x0 x2).getD false))) rfl (GV.F rfl) (fun hg5 => Reads.strip 21 rfl (hg5) (r_not rfl)) rfl ?_
  refine ao_r (r_orB rfl rfl) rfl ?_
  refine ao_r (r_move rfl) rfl ?_
  refine ao_readG (x := .int .i64 x3) rfl (GV.F rfl) (fun hg6 => by
        obtain ⟨q7, q8⟩ := or_f (not_t hg6)
        exact r_move rfl) rfl ?_
  refine ao_readG (x := .v ty2 x0) rfl (GV.F rfl) (fun hg9 => by
        obtain ⟨q10, q11⟩ := or_f (not_t hg9)
        exact r_move rfl) rfl ?_
  refine ao_readG (x := .int .i64 (x0.length : Int)) rfl (GV.F rfl) (fun hg12 => by
        obtain ⟨q13, q14⟩ := or_f (not_t hg12)
        exact Reads.strip 26 rfl (hg12) (r_len_vm (x0.length : Int) Try.underlying24 rfl rfl)) rfl ?_
  refine ao_readG (x := .int .i64 (shlI .i64 1 (x0.length : Int))) rfl (GV.F rfl) (fun hg15 => by
        obtain ⟨q16, q17⟩ := or_f (not_t hg15)
        exact Reads.strip 27 rfl (hg15) (r_shl rfl rfl (by omega))) rfl ?_
  refine ao_readG (x := .int .i64 (IntKind.wrap .i64 ((shlI .i64 1 (x0.length : Int)) - 1))) rfl (GV.F rfl) (fun hg18 => by
        obtain ⟨q19, q20⟩ := or_f (not_t hg18)
        exact Reads.strip 28 rfl (hg18) (r_sub rfl rfl)) rfl ?_
  refine ao_scallG (r := .bool (p_impl_within x3 0 (IntKind.wrap .i64 ((shlI .i64 1 (x0.length : Int)) - 1)))) rfl (GV.F rfl) (fun hg21 => by
        obtain ⟨q22, q23⟩ := or_f (not_t hg21)
        exact SCall.strip 25 rfl (hg21) (SCall.strip 29 rfl (hg21) (scall (c_impl_within (is_mk (rfl : p_impl_within x3 0 (IntKind.wrap .i64 ((shlI .i64 1 (x0.length : Int)) - 1)) = _))) rfl Try.func36 rfl rfl rfl rfl (fun σ => ⟨ad_ren rfl, ad_ren rfl, ad_ren rfl, trivial⟩)))) rfl ?_
  refine ao_readG (x := .bool (!(p_impl_within x3 0 (IntKind.wrap .i64 ((shlI .i64 1 (x0.length : Int)) - 1))))) rfl (GV.F rfl) (fun hg24 => by
        obtain ⟨q25, q26⟩ := or_f (not_t hg24)
        exact Reads.strip 30 rfl (hg24) (r_not rfl)) rfl ?_
  refine ao_r (r_orB rfl rfl) rfl ?_
  refine ao_nil ?_
  refine aq_then ?_
  refine aw_cond rfl (fun hb27 => ?_) (fun hb27 => ?_)
  replace h := is_if hb27 h
  refine aw_seq ?_
  refine aw_region ?_
  refine ao_r (r_build_zero (t := ty8) Try.underlying29 Try.zeroValue29 Try.sizeOf3 rfl) rfl ?_
  refine ao_effS trivial (e_store rfl rfl rfl rfl Try.sizeOf29 rfl) ?_
  refine ao_r (r_assign rfl) rfl ?_
  refine ao_nil ?_
  refine aq_then ?_
  refine aw_ret ?_
  refine aq_then_ret ?_
  refine aq_ret ?_
  obtain rfl := is_some h
  exact aq_finx (l := [.cell 10 29, .tmp 11]) (xs := [.v (.arr 2 ty8) ((List.replicate 2 0) : dy9), .bool false]) idn [.v (.arr 2 ty8) ((List.replicate 2 0) : dy9), .bool false] [] rfl (by exact ⟨⟨⟨_, _, rfl⟩, r_load_arr rfl Try.isAgg29 Try.sizeOf29 rfl rfl rfl⟩, rfl, trivial⟩) (by exact ⟨ad_ren rfl, ad_ren rfl, trivial⟩) (by exact trivial) rfl (nk rfl) rfl rfl ⟨rfl, rfl⟩
  obtain ⟨q28, q29⟩ := or_f hb27
  obtain ⟨q30, q31⟩ := or_f q28
  replace h := is_else (ne_t hb27) h
  refine aw_skip ?_
  refine aq_then ?_
  refine aw_seq ?_
  refine aw_region ?_
  refine ao_r (r_move rfl) rfl ?_
  refine ao_r (r_load_part (τ := ty1) (y := ((x1.1, (x1.2.1, ())) : dy5)) [] [] rfl Try.isAgg26 Try.sizeOf26 rfl rfl rfl rfl) rfl ?_
  refine ao_r (r_move rfl) rfl ?_
  refine ao_r (r_sub rfl rfl) rfl ?_
  obtain ⟨r32, r32h, h⟩ := is_bind h
  refine ao_callV [] 2 trivial (c_impl_againOf (is_mk r32h)) Try.func26 rfl rfl rfl rfl rfl trivial trivial rfl rfl rfl rfl rfl rfl rfl (fun r' H' hr => ?_)
  obtain ⟨rfl, rfl⟩ := hr
  refine ao_norm (y := .ref 2 0) (H' := [(1, .var [.arr ty8 2 ((List.replicate 2 0) : dy9)]), (0, .var [ci x1.1, ci x1.2.1]), (2, .var [.cell (.v ty2 r32.1), .cell (.os 3)]), (3, .row ty3 r32.2)]) rfl rfl ?_
  refine ao_r (r_assign rfl) rfl ?_
  refine ao_nil ?_
  refine aq_then ?_
  refine aw_seq ?_
  refine aw_region ?_
  refine ao_r (r_move rfl) rfl ?_
  refine ao_r (r_move rfl) rfl ?_
  refine ao_r (r_move rfl) rfl ?_
  refine ao_r (r_move rfl) rfl ?_
  refine ao_r (r_move rfl) rfl ?_
  obtain ⟨r33, r33h, h⟩ := is_bind h
  refine ao_callV [2, 3] 4 trivial (c_impl_again_setValue (is_mk r33h)) Try.func37 rfl rfl rfl rfl rfl ⟨rfl, rfl, trivial⟩ ⟨⟨_, rfl, ⟨ad_ren rfl, rfl, ad_ren rfl, rfl, trivial⟩⟩, ⟨_, rfl, rfl⟩, trivial⟩ rfl rfl rfl rfl rfl rfl rfl (fun r' H' hr => ?_)
  obtain ⟨rfl, rfl⟩ := hr
  refine ao_norm (y := .int .i64 r33) (H' := [(1, .var [.arr ty8 2 ((List.replicate 2 0) : dy9)]), (0, .var [ci x1.1, ci x1.2.1]), (2, .var [.cell (.v ty2 r32.1), .cell (.os 3)]), (3, .row ty3 r32.2)]) rfl rfl ?_
  refine ao_r (r_move rfl) rfl ?_
  obtain ⟨r34, r34h, h⟩ := is_bind h
  refine ao_callV [2, 3] 4 trivial (c_impl_again_mean (is_mk r34h)) Try.func27 rfl rfl rfl rfl rfl ⟨rfl, rfl, trivial⟩ ⟨⟨_, rfl, ⟨ad_ren rfl, rfl, ad_ren rfl, rfl, trivial⟩⟩, ⟨_, rfl, rfl⟩, trivial⟩ rfl rfl rfl rfl rfl rfl rfl (fun r' H' hr => ?_)
  obtain ⟨rfl, rfl⟩ := hr
  refine ao_norm (y := .v (.arr 2 ty8) r34) (H' := [(1, .var [.arr ty8 2 ((List.replicate 2 0) : dy9)]), (0, .var [ci x1.1, ci x1.2.1]), (2, .var [.cell (.v ty2 r32.1), .cell (.os 3)]), (3, .row ty3 r32.2)]) rfl rfl ?_
  refine ao_effS trivial (e_store rfl rfl rfl rfl Try.sizeOf29 rfl) ?_
  refine ao_r (r_assign rfl) rfl ?_
  refine ao_nil ?_
  refine aq_then ?_
  refine aw_ret ?_
  refine aq_ret ?_
  obtain rfl := is_some h
  exact aq_finx (l := [.cell 10 29, .tmp 11]) (xs := [.v (.arr 2 ty8) r34, .bool true]) idn [.v (.arr 2 ty8) r34, .bool true] [] rfl (by exact ⟨⟨⟨_, _, rfl⟩, r_load_arr rfl Try.isAgg29 Try.sizeOf29 rfl rfl rfl⟩, rfl, trivial⟩) (by exact ⟨ad_ren rfl, ad_ren rfl, trivial⟩) (by exact trivial) rfl (nk rfl) rfl rfl ⟨rfl, rfl⟩
end Go.GA
