/- Walks: what the Go functions compute, by the printed lines below; no further conditions. -/
import Derived.Test.YtddljmnmkiofmaaC4kwb
namespace Go.GA
open Go Go.Proofs
set_option maxRecDepth 100000
set_option maxHeartbeats 2000000
set_option linter.unusedVariables false
set_option linter.unusedSimpArgs false
theorem c_spec_l1Cur_poolv1 {fu : Nat} {x0 : Int} {x1 : Int} {x2 : (List Int)} {r : (List (List Int)) × Int × Int} (h : Is (p_spec_l1Cur_poolv1 fu x0 x1 x2) (some r)) :
    ACalls Try.prog 136 [.ref 0 0] [(0, .var [.cell (.os 1), .cell (.int .i64 x0), .cell (.int .u64 x1)]), (1, .row (.int .u8) x2)] (fun r' H' => r' = .os 2 ∧ H' = [(0, .var [.cell (.os 1), .cell (.int .i64 r.2.1), .cell (.int .u64 r.2.2)]), (1, .row (.int .u8) x2), (2, .row (.arr 6 (.int .i64)) r.1)]) := by
  unfold p_spec_l1Cur_poolv1 at h
  refine ac_enter ⟨47, 2⟩ Try.func136 rfl rfl rfl rfl rfl (fun Γ => ?_)
  refine row_len_m 1 (x2.length : Int) rfl rfl (fun hr1 => ?_)
  refine aw_seq ?_
  refine aw_region ?_
  refine ao_read trivial (r_assign rfl) rfl ?_
  refine ao_nil ?_
  refine aq_then ?_
  refine aw_seq ?_
  refine aw_region ?_
  refine ao_eff trivial (e_buildSlice (l := []) (t := (.arr 6 (.int .i64))) 2 ([] : (List (List Int))) rfl Try.underlying24 Try.zeroValue47 Try.sizeOf47 rfl rfl rfl rfl rfl rfl rfl) rfl ?_
  refine ao_read trivial (r_assign rfl) rfl ?_
  refine ao_nil ?_
  refine aq_then ?_
  refine aw_seq ?_
  refine aw_seq ?_
  refine aw_region ?_
  refine ao_read trivial (r_move rfl) rfl ?_
  refine ao_eff trivial (e_buildSlice (l := [(0, .const (.int .i64 2)), (1, .const (.int .i64 3)), (2, .const (.int .i64 1)), (3, .const (.int .i64 2)), (4, .const (.int .i64 4))]) (t := (.int .i64)) 3 ([2, 3, 1, 2, 4] : (List Int)) rfl Try.underlying32 Try.zeroValue3 Try.sizeOf3 rfl rfl rfl rfl rfl rfl rfl) rfl ?_
  obtain ⟨r1, r1h, h⟩ := is_bind h
  refine ao_call [0, 1] 4 trivial (c_spec_l1Cur_amongv1 (is_mk r1h)) Try.func96 rfl rfl rfl rfl ⟨ad_ren rfl, ad_osB rfl rfl, trivial⟩ ⟨⟨_, rfl, ⟨ad_ren rfl, rfl, ad_ren rfl, rfl, ad_ren rfl, rfl, trivial⟩⟩, ⟨_, rfl, rfl⟩, trivial⟩ rfl rfl rfl rfl rfl rfl rfl (fun r' H' hr => ?_)
  obtain ⟨rfl, rfl⟩ := hr
  refine ao_norm (y := .int .i64 r1.1) (H' := [(3, .row (.int .i64) ([2, 3, 1, 2, 4] : (List Int))), (2, .row (.arr 6 (.int .i64)) ([] : (List (List Int)))), (0, .var [.cell (.os 1), .cell (.int .i64 r1.2.1), .cell (.int .u64 r1.2.2)]), (1, .row (.int .u8) x2)]) rfl rfl ?_
  refine ao_read trivial (r_assign rfl) rfl ?_
  refine ao_nil ?_
  refine aq_then ?_
  refine aw_block ?_
  refine aw_loop (AL.sub (sub_mk idn (by exact ⟨⟨_, rfl, ad_ren rfl⟩, ⟨_, rfl, ad_ren rfl⟩, ⟨_, rfl, ad_ren rfl⟩, trivial⟩) (by exact ⟨⟨_, rfl, ⟨ad_ren rfl, rfl, ad_ren rfl, rfl, ad_ren rfl, rfl, trivial⟩⟩, ⟨_, rfl, rfl⟩, ⟨_, rfl, rfl⟩, trivial⟩) (by rfl) (nk2 rfl rfl rfl)) (al_whl (fun (s2 : Int × Int × Int × (List (List Int))) => [(0, .ref 0 0), (3, .os 2), (4, .int .i64 s2.1)]) (fun (s2 : Int × Int × Int × (List (List Int))) => [(0, .var [.cell (.os 1), .cell (.int .i64 s2.2.1), .cell (.int .u64 s2.2.2.1)]), (1, .row (.int .u8) x2), (2, .row (.arr 6 (.int .i64)) s2.2.2.2)]) (fun (s2 : Int × Int × Int × (List (List Int))) => True) h trivial (fun d4 s2 hI h ih4 => ?_)))
  replace h := is_whlS h
  refine al_round ?_
  refine aw_seq ?_
  refine aw_seq ?_
  refine aw_region ?_
  refine ao_read trivial (r_move rfl) rfl ?_
  refine ao_read trivial (r_gtr rfl rfl) rfl ?_
  refine ao_nil ?_
  refine aq_then ?_
  refine aw_cond rfl (fun hb6 => ?_) (fun hb6 => ?_)
  · have q7 := d_t hb6
    replace h := is_if (d_t hb6) h
    refine aw_skip ?_
    refine aq_then ?_
    refine aw_seq ?_
    refine aw_block ?_
    refine aw_seq ?_
    refine aw_region ?_
    refine ao_read trivial (r_move rfl) rfl ?_
    obtain ⟨r9, r9h, h⟩ := is_bind h
    refine ao_call [0, 1] 3 trivial (c_spec_l1Cur_diev1 (is_mk r9h)) Try.func95 rfl rfl rfl rfl ⟨ad_ren rfl, trivial⟩ ⟨⟨_, rfl, ⟨ad_ren rfl, rfl, ad_ren rfl, rfl, ad_ren rfl, rfl, trivial⟩⟩, ⟨_, rfl, rfl⟩, trivial⟩ rfl rfl rfl rfl rfl rfl rfl (fun r' H' hr => ?_)
    obtain ⟨rfl, rfl⟩ := hr
    refine ao_norm (y := .v (.arr 6 (.int .i64)) r9.1) (H' := [(2, .row (.arr 6 (.int .i64)) s2.2.2.2), (0, .var [.cell (.os 1), .cell (.int .i64 r9.2.1), .cell (.int .u64 r9.2.2)]), (1, .row (.int .u8) x2)]) rfl rfl ?_
    refine ao_eff trivial (e_alloc 3 (y := .v (.arr 6 (.int .i64)) ((List.replicate 6 0) : (List Int))) Try.zeroValue47 (fun ρ h M => ra_zero_arr (t := (.int .i64)) rfl) rfl rfl rfl rfl rfl) rfl ?_
    refine ao_effS trivial (e_store rfl rfl rfl rfl Try.sizeOf47 rfl) ?_
    refine ao_nil ?_
    refine aq_then ?_
    refine aw_seq ?_
    refine aw_seq ?_
    refine aw_region ?_
    refine ao_read trivial (r_move rfl) rfl ?_
    refine ao_read trivial (r_len_osm (s2.2.2.2.length : Int) Try.underlying24 rfl rfl rfl) rfl ?_
    refine ao_read trivial (r_gtr rfl rfl) rfl ?_
    refine ao_read trivial (r_move rfl) rfl ?_
    refine ao_split (decide (0 < (s2.2.2.2.length : Int))) (fun hb10 => ?_) (fun hb10 => ?_)
    · have q11 := d_t hb10
      replace h := is_if (d_t hb10) h
      refine ao_read (by exact ⟨_, _, rfl, rfl, hb10⟩) (r_move rfl) rfl ?_
      obtain ⟨r13, r13h, h⟩ := is_bind h
      refine ao_call [0, 1] 4 (by exact ⟨_, _, rfl, rfl, hb10⟩) (c_spec_l1Cur_onev1 (is_mk r13h)) Try.func148 rfl rfl rfl rfl ⟨ad_ren rfl, ad_ren rfl, trivial⟩ ⟨⟨_, rfl, ⟨ad_ren rfl, rfl, ad_ren rfl, rfl, ad_ren rfl, rfl, trivial⟩⟩, ⟨_, rfl, rfl⟩, trivial⟩ rfl rfl rfl rfl rfl rfl rfl (fun r' H' hr => ?_)
      obtain ⟨rfl, rfl⟩ := hr
      refine ao_norm (y := .bool r13.1) (H' := [(3, .var [.arr (.int .i64) 6 r9.1]), (2, .row (.arr 6 (.int .i64)) s2.2.2.2), (0, .var [.cell (.os 1), .cell (.int .i64 r13.2.1), .cell (.int .u64 r13.2.2)]), (1, .row (.int .u8) x2)]) rfl rfl ?_
      refine ao_read trivial (r_pickT rfl hb10 rfl) rfl ?_
      refine ao_nil ?_
      refine aq_then ?_
      refine aw_cond rfl (fun hb14 => ?_) (fun hb14 => ?_)
      · replace h := is_if hb14 h
        refine aw_region ?_
        refine ao_read trivial (r_move rfl) rfl ?_
        refine ao_read trivial (r_idxAddr_os Try.underlying24 Try.sizeOf47 rfl rfl rfl (show 0 ≤ 0 from by omega) (show 0 < (s2.2.2.2.length : Int) from by omega)) rfl ?_
        refine ao_read trivial (r_load_elemv (t := (.arr 6 (.int .i64))) Try.isAgg47 Try.sizeOf47 rfl rfl (show 0 < s2.2.2.2.length from by omega)) rfl ?_
        refine ao_effS trivial (e_store rfl rfl rfl rfl Try.sizeOf47 rfl) ?_
        refine ao_nil ?_
        refine aq_then ?_
        refine aw_region ?_
        refine ao_read trivial (r_move rfl) rfl ?_
        refine ao_read trivial (r_load_arr rfl Try.isAgg47 Try.sizeOf47 rfl rfl rfl) rfl ?_
        refine ao_eff trivial (e_buildSlice (l := [(0, .tmp 27)]) (t := (.arr 6 (.int .i64))) 4 ([(s2.2.2.2.getD 0 (List.replicate 6 0))] : (List (List Int))) rfl Try.underlying24 Try.zeroValue47 Try.sizeOf47 rfl rfl rfl rfl rfl rfl rfl) rfl ?_
        obtain ⟨g15, h⟩ := is_guard h
        refine ao_eff trivial (e_append (t := (.arr 6 (.int .i64))) 5 rfl Try.underlying24 (rfl : Try.prog.info? 47 = some _) rfl rfl rfl rfl rfl rfl rfl (src_os rfl) (show s2.2.2.2.length + ([(s2.2.2.2.getD 0 (List.replicate 6 0))] : (List (List Int))).length ≤ 1000000000 from by (try simp only [List.length_cons, List.length_nil, List.length_replicate]) <;> omega) rfl rfl) rfl ?_
        refine ao_read trivial (r_assign rfl) rfl ?_
        refine ao_nil ?_
        refine aq_in ?_
        refine aq_then ?_
        refine aw_region ?_
        refine ao_read trivial (r_move rfl) rfl ?_
        refine ao_read trivial (r_sub rfl rfl) rfl ?_
        refine ao_read trivial (r_assign rfl) rfl ?_
        refine ao_nil ?_
        exact aq_again (AL.sub (sub_mk (rn [(2, 5)]) (by exact ⟨⟨_, rfl, ad_ren rfl⟩, ⟨_, rfl, ad_ren rfl⟩, ⟨_, rfl, ad_ren rfl⟩, trivial⟩) (by exact ⟨⟨_, rfl, ⟨ad_ren rfl, rfl, ad_ren rfl, rfl, ad_ren rfl, rfl, trivial⟩⟩, ⟨_, rfl, rfl⟩, ⟨_, rfl, rfl⟩, trivial⟩) (by rfl) (nk2 rfl rfl rfl)) (ih4 ((IntKind.wrap .i64 (s2.1 - 1)), r13.2.1, r13.2.2, (s2.2.2.2 ++ [(s2.2.2.2.getD 0 (List.replicate 6 0))])) trivial h))
      · replace h := is_else (ne_t hb14) h
        refine aw_skip ?_
        refine aq_then ?_
        refine aw_region ?_
        refine ao_read trivial (r_move rfl) rfl ?_
        refine ao_read trivial (r_load_arr rfl Try.isAgg47 Try.sizeOf47 rfl rfl rfl) rfl ?_
        refine ao_eff trivial (e_buildSlice (l := [(0, .tmp 27)]) (t := (.arr 6 (.int .i64))) 6 ([r9.1] : (List (List Int))) rfl Try.underlying24 Try.zeroValue47 Try.sizeOf47 rfl rfl rfl rfl rfl rfl rfl) rfl ?_
        obtain ⟨g16, h⟩ := is_guard h
        refine ao_eff trivial (e_append (t := (.arr 6 (.int .i64))) 7 rfl Try.underlying24 (rfl : Try.prog.info? 47 = some _) rfl rfl rfl rfl rfl rfl rfl (src_os rfl) (show s2.2.2.2.length + ([r9.1] : (List (List Int))).length ≤ 1000000000 from by (try simp only [List.length_cons, List.length_nil]) <;> omega) rfl rfl) rfl ?_
        refine ao_read trivial (r_assign rfl) rfl ?_
        refine ao_nil ?_
        refine aq_in ?_
        refine aq_then ?_
        refine aw_region ?_
        refine ao_read trivial (r_move rfl) rfl ?_
        refine ao_read trivial (r_sub rfl rfl) rfl ?_
        refine ao_read trivial (r_assign rfl) rfl ?_
        refine ao_nil ?_
        exact aq_again (AL.sub (sub_mk (rn [(2, 7)]) (by exact ⟨⟨_, rfl, ad_ren rfl⟩, ⟨_, rfl, ad_ren rfl⟩, ⟨_, rfl, ad_ren rfl⟩, trivial⟩) (by exact ⟨⟨_, rfl, ⟨ad_ren rfl, rfl, ad_ren rfl, rfl, ad_ren rfl, rfl, trivial⟩⟩, ⟨_, rfl, rfl⟩, ⟨_, rfl, rfl⟩, trivial⟩) (by rfl) (nk2 rfl rfl rfl)) (ih4 ((IntKind.wrap .i64 (s2.1 - 1)), r13.2.1, r13.2.2, (s2.2.2.2 ++ [r9.1])) trivial h))
    · have q12 := d_f hb10
      replace h := is_else (d_f hb10) h
      refine ao_skipT 2 3 19 rfl rfl hb10 rfl rfl rfl ?_
      refine ao_read trivial (r_pickF rfl hb10 rfl) rfl ?_
      refine ao_nil ?_
      refine aq_then ?_
      refine aw_cond rfl (fun hb => by cases hb) (fun _ => ?_)
      refine aw_skip ?_
      refine aq_then ?_
      refine aw_region ?_
      refine ao_read trivial (r_move rfl) rfl ?_
      refine ao_read trivial (r_load_arr rfl Try.isAgg47 Try.sizeOf47 rfl rfl rfl) rfl ?_
      refine ao_eff trivial (e_buildSlice (l := [(0, .tmp 27)]) (t := (.arr 6 (.int .i64))) 4 ([r9.1] : (List (List Int))) rfl Try.underlying24 Try.zeroValue47 Try.sizeOf47 rfl rfl rfl rfl rfl rfl rfl) rfl ?_
      refine ao_eff trivial (e_append (t := (.arr 6 (.int .i64))) 5 rfl Try.underlying24 (rfl : Try.prog.info? 47 = some _) rfl rfl rfl rfl rfl rfl rfl (src_os rfl) (show s2.2.2.2.length + ([r9.1] : (List (List Int))).length ≤ 1000000000 from by (try simp only [List.length_cons, List.length_nil]) <;> omega) rfl rfl) rfl ?_
      refine ao_read trivial (r_assign rfl) rfl ?_
      refine ao_nil ?_
      refine aq_in ?_
      refine aq_then ?_
      refine aw_region ?_
      refine ao_read trivial (r_move rfl) rfl ?_
      refine ao_read trivial (r_sub rfl rfl) rfl ?_
      refine ao_read trivial (r_assign rfl) rfl ?_
      refine ao_nil ?_
      exact aq_again (AL.sub (sub_mk (rn [(2, 5)]) (by exact ⟨⟨_, rfl, ad_ren rfl⟩, ⟨_, rfl, ad_ren rfl⟩, ⟨_, rfl, ad_ren rfl⟩, trivial⟩) (by exact ⟨⟨_, rfl, ⟨ad_ren rfl, rfl, ad_ren rfl, rfl, ad_ren rfl, rfl, trivial⟩⟩, ⟨_, rfl, rfl⟩, ⟨_, rfl, rfl⟩, trivial⟩) (by rfl) (nk2 rfl rfl rfl)) (ih4 ((IntKind.wrap .i64 (s2.1 - 1)), r9.2.1, r9.2.2, (s2.2.2.2 ++ [r9.1])) trivial h))
  · have q8 := d_f hb6
    replace h := is_else (d_f hb6) h
    refine aw_exit ?_
    refine aq_then_exit ?_
    refine aq_then_exit ?_
    refine aq_in_exit ?_
    refine aq_then ?_
    refine aw_seq ?_
    refine aw_seq ?_
    refine aw_region ?_
    refine ao_read trivial (r_move rfl) rfl ?_
    obtain ⟨r17, r17h, h⟩ := is_bind h
    refine ao_call [0, 1] 6 trivial (c_spec_l1Cur_pickv1 (is_mk r17h)) Try.func84 rfl rfl rfl rfl ⟨ad_ren rfl, ad_ren rfl, trivial⟩ ⟨⟨_, rfl, ⟨ad_ren rfl, rfl, ad_ren rfl, rfl, ad_ren rfl, rfl, trivial⟩⟩, ⟨_, rfl, rfl⟩, trivial⟩ rfl rfl rfl rfl rfl rfl rfl (fun r' H' hr => ?_)
    obtain ⟨rfl, rfl⟩ := hr
    refine ao_norm (y := .int .i64 r17.1) (H' := [(2, .row (.arr 6 (.int .i64)) s2.2.2.2), (0, .var [.cell (.os 1), .cell (.int .i64 r17.2.1), .cell (.int .u64 r17.2.2)]), (1, .row (.int .u8) x2)]) rfl rfl ?_
    refine ao_nil ?_
    refine aq_then ?_
    refine aw_block ?_
    refine aw_seq ?_
    refine aw_region ?_
    refine ao_read trivial (r_eql rfl rfl) rfl ?_
    refine ao_read trivial (r_assign rfl) rfl ?_
    refine ao_nil ?_
    refine aq_then ?_
    refine aw_cond rfl (fun hb18 => ?_) (fun hb18 => ?_)
    · have q19 := d_t hb18
      replace h := is_if (d_t hb18) h
      refine aw_seq ?_
      refine aw_region ?_
      refine ao_eff trivial (e_buildSlice (l := []) (t := (.arr 6 (.int .i64))) 6 ([] : (List (List Int))) rfl Try.underlying24 Try.zeroValue47 Try.sizeOf47 rfl rfl rfl rfl rfl rfl rfl) rfl ?_
      refine ao_read trivial (r_assign rfl) rfl ?_
      refine ao_nil ?_
      refine aq_then ?_
      refine aw_ret ?_
      refine aq_in_ret ?_
      refine aq_then_ret ?_
      refine aq_ret ?_
      obtain rfl := is_some h
      exact aq_finx (l := [.tmp 2]) (xs := [.os 6]) (rn [(2, 6)]) [.os 2] [(0, .var [.cell (.os 1), .cell (.int .i64 r17.2.1), .cell (.int .u64 r17.2.2)]), (1, .row (.int .u8) x2), (2, .row (.arr 6 (.int .i64)) ([] : (List (List Int))))] rfl (by exact ⟨rfl, trivial⟩) (by exact ⟨ad_ren rfl, trivial⟩) (by exact ⟨⟨_, rfl, ⟨ad_ren rfl, rfl, ad_ren rfl, rfl, ad_ren rfl, rfl, trivial⟩⟩, ⟨_, rfl, rfl⟩, ⟨_, rfl, rfl⟩, trivial⟩) rfl (nk2 rfl rfl rfl) rfl rfl ⟨rfl, rfl⟩
    · have q20 := d_f hb18
      replace h := is_else (d_f hb18) h
      refine aw_seq ?_
      refine aw_region ?_
      refine ao_read trivial (r_eql rfl rfl) rfl ?_
      refine ao_read trivial (r_assign rfl) rfl ?_
      refine ao_nil ?_
      refine aq_then ?_
      refine aw_cond rfl (fun hb21 => ?_) (fun hb21 => ?_)
      · have q22 := d_t hb21
        replace h := is_if (d_t hb21) h
        refine aw_block ?_
        refine aw_loop (AL.sub (sub_mk idn (by exact ⟨⟨_, rfl, ad_ren rfl⟩, trivial⟩) (by exact ⟨⟨_, rfl, ⟨ad_ren rfl, rfl, ad_ren rfl, rfl, ad_ren rfl, rfl, trivial⟩⟩, ⟨_, rfl, rfl⟩, ⟨_, rfl, rfl⟩, trivial⟩) (by rfl) (nk2 rfl rfl rfl)) (al_whl (fun (s24 : (List (List Int))) => [(3, .os 2)]) (fun (s24 : (List (List Int))) => [(0, .var [.cell (.os 1), .cell (.int .i64 r17.2.1), .cell (.int .u64 r17.2.2)]), (1, .row (.int .u8) x2), (2, .row (.arr 6 (.int .i64)) s24)]) (fun (s24 : (List (List Int))) => True) h trivial (fun d26 s24 hI h ih26 => ?_)))
        replace h := is_whlS h
        refine al_round ?_
        refine aw_seq ?_
        refine aw_seq ?_
        refine aw_region ?_
        refine ao_read trivial (r_move rfl) rfl ?_
        refine ao_read trivial (r_len_osm (s24.length : Int) Try.underlying24 rfl rfl rfl) rfl ?_
        refine ao_read trivial (r_lss rfl rfl) rfl ?_
        refine ao_nil ?_
        refine aq_then ?_
        refine aw_cond rfl (fun hb28 => ?_) (fun hb28 => ?_)
        · have q29 := d_t hb28
          replace h := is_if (d_t hb28) h
          refine aw_skip ?_
          refine aq_then ?_
          refine aw_block ?_
          refine aw_region ?_
          refine ao_read trivial (r_move rfl) rfl ?_
          refine ao_read trivial (r_move rfl) rfl ?_
          obtain ⟨g31, h⟩ := is_guard h
          refine ao_read trivial (r_idxAddr_os Try.underlying24 Try.sizeOf47 rfl rfl rfl (show 0 ≤ 0 from by omega) (show 0 < (s24.length : Int) from by omega)) rfl ?_
          refine ao_read trivial (r_load_elemv (t := (.arr 6 (.int .i64))) Try.isAgg47 Try.sizeOf47 rfl rfl (show 0 < s24.length from by omega)) rfl ?_
          refine ao_eff trivial (e_buildSlice (l := [(0, .tmp 43)]) (t := (.arr 6 (.int .i64))) 3 ([(s24.getD 0 (List.replicate 6 0))] : (List (List Int))) rfl Try.underlying24 Try.zeroValue47 Try.sizeOf47 rfl rfl rfl rfl rfl rfl rfl) rfl ?_
          refine ao_eff trivial (e_append (t := (.arr 6 (.int .i64))) 4 rfl Try.underlying24 (rfl : Try.prog.info? 47 = some _) rfl rfl rfl rfl rfl rfl rfl (src_os rfl) (show s24.length + ([(s24.getD 0 (List.replicate 6 0))] : (List (List Int))).length ≤ 1000000000 from by (try simp only [List.length_cons, List.length_nil, List.length_replicate]) <;> omega) rfl rfl) rfl ?_
          refine ao_read trivial (r_assign rfl) rfl ?_
          refine ao_nil ?_
          refine aq_in ?_
          exact aq_again (AL.sub (sub_mk (rn [(2, 4)]) (by exact ⟨⟨_, rfl, ad_ren rfl⟩, trivial⟩) (by exact ⟨⟨_, rfl, ⟨ad_ren rfl, rfl, ad_ren rfl, rfl, ad_ren rfl, rfl, trivial⟩⟩, ⟨_, rfl, rfl⟩, ⟨_, rfl, rfl⟩, trivial⟩) (by rfl) (nk2 rfl rfl rfl)) (ih26 (s24 ++ [(s24.getD 0 (List.replicate 6 0))]) trivial h))
        · have q30 := d_f hb28
          replace h := is_else (d_f hb28) h
          refine aw_exit ?_
          refine aq_then_exit ?_
          refine aq_then_exit ?_
          refine aq_in_exit ?_
          refine aq_in ?_
          refine aq_then ?_
          refine aw_seq ?_
          refine aw_region ?_
          refine ao_read trivial (r_move rfl) rfl ?_
          refine ao_read trivial (r_assign rfl) rfl ?_
          refine ao_nil ?_
          refine aq_then ?_
          refine aw_ret ?_
          refine aq_ret ?_
          obtain rfl := is_some h
          exact aq_finx (l := [.tmp 2]) (xs := [.os 2]) idn [.os 2] [(0, .var [.cell (.os 1), .cell (.int .i64 r17.2.1), .cell (.int .u64 r17.2.2)]), (1, .row (.int .u8) x2), (2, .row (.arr 6 (.int .i64)) s24)] rfl (by exact ⟨rfl, trivial⟩) (by exact ⟨ad_ren rfl, trivial⟩) (by exact ⟨⟨_, rfl, ⟨ad_ren rfl, rfl, ad_ren rfl, rfl, ad_ren rfl, rfl, trivial⟩⟩, ⟨_, rfl, rfl⟩, ⟨_, rfl, rfl⟩, trivial⟩) rfl (nk2 rfl rfl rfl) rfl rfl ⟨rfl, rfl⟩
      · have q23 := d_f hb21
        replace h := is_else (d_f hb21) h
        refine aw_skip ?_
        refine aq_in ?_
        refine aq_then ?_
        refine aw_seq ?_
        refine aw_region ?_
        refine ao_read trivial (r_move rfl) rfl ?_
        refine ao_read trivial (r_assign rfl) rfl ?_
        refine ao_nil ?_
        refine aq_then ?_
        refine aw_ret ?_
        refine aq_ret ?_
        obtain rfl := is_some h
        exact aq_finx (l := [.tmp 2]) (xs := [.os 2]) idn [.os 2] [(0, .var [.cell (.os 1), .cell (.int .i64 r17.2.1), .cell (.int .u64 r17.2.2)]), (1, .row (.int .u8) x2), (2, .row (.arr 6 (.int .i64)) s2.2.2.2)] rfl (by exact ⟨rfl, trivial⟩) (by exact ⟨ad_ren rfl, trivial⟩) (by exact ⟨⟨_, rfl, ⟨ad_ren rfl, rfl, ad_ren rfl, rfl, ad_ren rfl, rfl, trivial⟩⟩, ⟨_, rfl, rfl⟩, ⟨_, rfl, rfl⟩, trivial⟩) rfl (nk2 rfl rfl rfl) rfl rfl ⟨rfl, rfl⟩
theorem c_spec_l1Cur_place4v1 {x0 : (List (List Int))} {x1 : Int} {x2 : Int} {x3 : (List Int)} {r : Int × Int × Int} (h : Is (p_spec_l1Cur_place4v1 x0 x1 x2 x3) (some r)) :
    ACalls Try.prog 137 [.ref 0 0, .v (.slice (.arr 6 (.int .i64))) x0] [(0, .var [.cell (.os 1), .cell (.int .i64 x1), .cell (.int .u64 x2)]), (1, .row (.int .u8) x3)] (fun r' H' => r' = .int .i64 r.1 ∧ H' = [(0, .var [.cell (.os 1), .cell (.int .i64 r.2.1), .cell (.int .u64 r.2.2)]), (1, .row (.int .u8) x3)]) := by
  unfold p_spec_l1Cur_place4v1 at h
  refine ac_enter ⟨17, 2⟩ Try.func137 rfl rfl rfl rfl rfl (fun Γ => ?_)
  refine sl_len_m 1 (x0.length : Int) rfl rfl (fun hl1 => ?_)
  refine row_len_m 1 (x3.length : Int) rfl rfl (fun hr1 => ?_)
  refine aw_seq ?_
  refine aw_region ?_
  refine ao_read trivial (r_assign rfl) rfl ?_
  refine ao_nil ?_
  refine aq_then ?_
  refine aw_seq ?_
  refine aw_seq ?_
  refine aw_region ?_
  refine ao_read trivial (r_move rfl) rfl ?_
  obtain ⟨r1, r1h, h⟩ := is_bind h
  refine ao_call [0, 1] 2 trivial (c_spec_l1Cur_onev1 (is_mk r1h)) Try.func148 rfl rfl rfl rfl ⟨ad_ren rfl, ad_ren rfl, trivial⟩ ⟨⟨_, rfl, ⟨ad_ren rfl, rfl, ad_ren rfl, rfl, ad_ren rfl, rfl, trivial⟩⟩, ⟨_, rfl, rfl⟩, trivial⟩ rfl rfl rfl rfl rfl rfl rfl (fun r' H' hr => ?_)
  obtain ⟨rfl, rfl⟩ := hr
  refine ao_norm (y := .bool r1.1) (H' := [(0, .var [.cell (.os 1), .cell (.int .i64 r1.2.1), .cell (.int .u64 r1.2.2)]), (1, .row (.int .u8) x3)]) rfl rfl ?_
  refine ao_nil ?_
  refine aq_then ?_
  refine aw_cond rfl (fun hb2 => ?_) (fun hb2 => ?_)
  · replace h := is_if hb2 h
    refine aw_seq ?_
    refine aw_region ?_
    refine ao_read trivial (r_move rfl) rfl ?_
    refine ao_eff trivial (e_buildSlice (l := [(0, .const (.int .i64 0)), (1, .const (.int .i64 (-1))), (2, .const (.int .i64 5)), (3, .const (.int .i64 4611686018427387904))]) (t := (.int .i64)) 2 ([0, (-1), 5, 4611686018427387904] : (List Int)) rfl Try.underlying32 Try.zeroValue3 Try.sizeOf3 rfl rfl rfl rfl rfl rfl rfl) rfl ?_
    obtain ⟨r3, r3h, h⟩ := is_bind h
    refine ao_call [0, 1] 3 trivial (c_spec_l1Cur_amongv1 (is_mk r3h)) Try.func96 rfl rfl rfl rfl ⟨ad_ren rfl, ad_osB rfl rfl, trivial⟩ ⟨⟨_, rfl, ⟨ad_ren rfl, rfl, ad_ren rfl, rfl, ad_ren rfl, rfl, trivial⟩⟩, ⟨_, rfl, rfl⟩, trivial⟩ rfl rfl rfl rfl rfl rfl rfl (fun r' H' hr => ?_)
    obtain ⟨rfl, rfl⟩ := hr
    refine ao_norm (y := .int .i64 r3.1) (H' := [(2, .row (.int .i64) ([0, (-1), 5, 4611686018427387904] : (List Int))), (0, .var [.cell (.os 1), .cell (.int .i64 r3.2.1), .cell (.int .u64 r3.2.2)]), (1, .row (.int .u8) x3)]) rfl rfl ?_
    refine ao_read trivial (r_assign rfl) rfl ?_
    refine ao_nil ?_
    refine aq_then ?_
    refine aw_ret ?_
    refine aq_then_ret ?_
    refine aq_ret ?_
    obtain rfl := is_some h
    exact aq_finx (l := [.tmp 4]) (xs := [.int .i64 r3.1]) idn [.int .i64 r3.1] [(0, .var [.cell (.os 1), .cell (.int .i64 r3.2.1), .cell (.int .u64 r3.2.2)]), (1, .row (.int .u8) x3)] rfl (by exact ⟨rfl, trivial⟩) (by exact ⟨ad_ren rfl, trivial⟩) (by exact ⟨⟨_, rfl, ⟨ad_ren rfl, rfl, ad_ren rfl, rfl, ad_ren rfl, rfl, trivial⟩⟩, ⟨_, rfl, rfl⟩, trivial⟩) rfl (nk2 rfl rfl rfl) rfl rfl ⟨rfl, rfl⟩
  · replace h := is_else (ne_t hb2) h
    refine aw_skip ?_
    refine aq_then ?_
    refine aw_seq ?_
    refine aw_region ?_
    refine ao_read trivial (r_move rfl) rfl ?_
    refine ao_read trivial (r_move rfl) rfl ?_
    refine ao_read trivial (r_len_vm (x0.length : Int) Try.underlying24 rfl rfl) rfl ?_
    refine ao_scall trivial (scall (c_spec_l1Least (is_mk (rfl : p_spec_l1Least (x0.length : Int) 4 = _))) rfl Try.func173 rfl rfl rfl rfl (fun σ => ⟨ad_ren rfl, ad_ren rfl, trivial⟩)) rfl ?_
    refine ao_scall trivial (scall (c_spec_l1Most (is_mk (rfl : p_spec_l1Most 1 (p_spec_l1Least (x0.length : Int) 4) = _))) rfl Try.func151 rfl rfl rfl rfl (fun σ => ⟨ad_ren rfl, ad_ren rfl, trivial⟩)) rfl ?_
    obtain ⟨r4, r4h, h⟩ := is_bind h
    refine ao_call [0, 1] 3 trivial (c_spec_l1Cur_pickv1 (is_mk r4h)) Try.func84 rfl rfl rfl rfl ⟨ad_ren rfl, ad_ren rfl, trivial⟩ ⟨⟨_, rfl, ⟨ad_ren rfl, rfl, ad_ren rfl, rfl, ad_ren rfl, rfl, trivial⟩⟩, ⟨_, rfl, rfl⟩, trivial⟩ rfl rfl rfl rfl rfl rfl rfl (fun r' H' hr => ?_)
    obtain ⟨rfl, rfl⟩ := hr
    refine ao_norm (y := .int .i64 r4.1) (H' := [(0, .var [.cell (.os 1), .cell (.int .i64 r4.2.1), .cell (.int .u64 r4.2.2)]), (1, .row (.int .u8) x3)]) rfl rfl ?_
    refine ao_read trivial (r_add rfl rfl) rfl ?_
    refine ao_read trivial (r_assign rfl) rfl ?_
    refine ao_nil ?_
    refine aq_then ?_
    refine aw_ret ?_
    refine aq_ret ?_
    obtain rfl := is_some h
    exact aq_finx (l := [.tmp 4]) (xs := [.int .i64 (IntKind.wrap .i64 (1 + r4.1))]) idn [.int .i64 (IntKind.wrap .i64 (1 + r4.1))] [(0, .var [.cell (.os 1), .cell (.int .i64 r4.2.1), .cell (.int .u64 r4.2.2)]), (1, .row (.int .u8) x3)] rfl (by exact ⟨rfl, trivial⟩) (by exact ⟨ad_ren rfl, trivial⟩) (by exact ⟨⟨_, rfl, ⟨ad_ren rfl, rfl, ad_ren rfl, rfl, ad_ren rfl, rfl, trivial⟩⟩, ⟨_, rfl, rfl⟩, trivial⟩) rfl (nk2 rfl rfl rfl) rfl rfl ⟨rfl, rfl⟩
theorem c_spec_DrawDropTable {fu : Nat} {x0 : (List Int)} {r : (List (List Int)) × Int} (h : Is (p_spec_DrawDropTable fu x0) (some r)) :
    ACalls Try.prog 69 [.os 0] [(0, .row (.int .u8) x0)] (fun r' H' => r' = .tup [.os 1, .int .i64 r.2] ∧ H' = [(1, .row (.arr 6 (.int .i64)) r.1)]) := by
  unfold p_spec_DrawDropTable at h
  refine ac_enter ⟨16, 1⟩ Try.func69 rfl rfl rfl rfl rfl (fun Γ => ?_)
  refine row_len_m 0 (x0.length : Int) rfl rfl (fun hr0 => ?_)
  refine aw_seq ?_
  refine aw_region ?_
  refine ao_read trivial (r_assign rfl) rfl ?_
  refine ao_read trivial (r_assign rfl) rfl ?_
  refine ao_nil ?_
  refine aq_then ?_
  refine aw_seq ?_
  refine aw_region ?_
  refine ao_read trivial (r_move rfl) rfl ?_
  refine ao_read trivial (r_build_st (l := [(0, .tmp 6)]) (cs := [.cell (.os 0), .cell (.int .i64 0), .cell (.int .u64 0)]) (.pair (.slice (.int .u8)) (.pair (.int .i64) (.pair (.int .u64) .unit))) [(0, 1), (1, 1), (2, 1)] Try.underlying81 Try.zeroValue81 rfl ⟨rfl, Try.sizeOf22, rfl, Try.sizeOf3, rfl, Try.sizeOf79, trivial⟩ rfl rfl rfl) rfl ?_
  refine ao_eff trivial (e_box 1 rfl rfl rfl rfl rfl rfl) rfl ?_
  refine ao_read trivial (r_assign rfl) rfl ?_
  refine ao_nil ?_
  refine aq_then ?_
  refine aw_seq ?_
  refine aw_region ?_
  refine ao_read trivial (r_move rfl) rfl ?_
  obtain ⟨r1, r1h, h⟩ := is_bind h
  refine ao_call [1, 0] 2 trivial (c_spec_l1Cur_poolv1 (is_mk r1h)) Try.func136 rfl rfl rfl rfl ⟨ad_ren rfl, trivial⟩ ⟨⟨_, rfl, ⟨ad_ren rfl, rfl, ad_ren rfl, rfl, ad_ren rfl, rfl, trivial⟩⟩, ⟨_, rfl, rfl⟩, trivial⟩ rfl rfl rfl rfl rfl rfl rfl (fun r' H' hr => ?_)
  obtain ⟨rfl, rfl⟩ := hr
  refine ao_norm (y := .os 2) (H' := [(1, .var [.cell (.os 0), .cell (.int .i64 r1.2.1), .cell (.int .u64 r1.2.2)]), (0, .row (.int .u8) x0), (2, .row (.arr 6 (.int .i64)) r1.1)]) rfl rfl ?_
  refine row_len_o 2 (r1.1.length : Int) rfl rfl (fun hr2 => ?_)
  refine ao_read trivial (r_assign rfl) rfl ?_
  refine ao_nil ?_
  refine aq_then ?_
  refine aw_seq ?_
  refine aw_region ?_
  refine ao_read trivial (r_move rfl) rfl ?_
  refine ao_read trivial (r_move rfl) rfl ?_
  refine ao_read trivial (r_move rfl) rfl ?_
  obtain ⟨r3, r3h, h⟩ := is_bind h
  refine ao_call [1, 0] 3 trivial (c_spec_l1Cur_place4v1 (is_mk r3h)) Try.func137 rfl rfl rfl rfl ⟨ad_ren rfl, ad_osB rfl rfl, trivial⟩ ⟨⟨_, rfl, ⟨ad_ren rfl, rfl, ad_ren rfl, rfl, ad_ren rfl, rfl, trivial⟩⟩, ⟨_, rfl, rfl⟩, trivial⟩ rfl rfl rfl rfl rfl rfl rfl (fun r' H' hr => ?_)
  obtain ⟨rfl, rfl⟩ := hr
  refine ao_norm (y := .int .i64 r3.1) (H' := [(2, .row (.arr 6 (.int .i64)) r1.1), (1, .var [.cell (.os 0), .cell (.int .i64 r3.2.1), .cell (.int .u64 r3.2.2)]), (0, .row (.int .u8) x0)]) rfl rfl ?_
  refine ao_read trivial (r_sub rfl rfl) rfl ?_
  refine ao_read trivial (r_assign rfl) rfl ?_
  refine ao_read trivial (r_assign rfl) rfl ?_
  refine ao_nil ?_
  refine aq_then ?_
  refine aw_ret ?_
  refine aq_ret ?_
  obtain rfl := is_some h
  exact aq_finx (l := [.tmp 2, .tmp 3]) (xs := [.os 2, .int .i64 (IntKind.wrap .i64 (r3.1 - 1))]) (rn [(1, 2)]) [.os 1, .int .i64 (IntKind.wrap .i64 (r3.1 - 1))] [(1, .row (.arr 6 (.int .i64)) r1.1)] rfl (by exact ⟨rfl, rfl, trivial⟩) (by exact ⟨ad_ren rfl, ad_ren rfl, trivial⟩) (by exact ⟨⟨_, rfl, rfl⟩, trivial⟩) rfl (nk1 rfl rfl) rfl rfl ⟨rfl, rfl⟩
theorem c_impl_DropTable {fu : Nat} {x0 : (List (List Int))} {x1 : Int} {r : (List Int) × Bool} (h : Is (p_impl_DropTable fu x0 x1) (some r)) :
    Scalar Try.prog 70 [.v (.slice (.arr 6 (.int .i64))) x0, .int .i64 x1] (.tup [.v (.arr 121 (.int .i64)) r.1, .bool r.2]) := by
  unfold p_impl_DropTable at h
  refine ac_enter ⟨24, 0⟩ Try.func70 rfl rfl rfl rfl rfl (fun Γ => ?_)
  refine sl_len_m 0 (x0.length : Int) rfl rfl (fun hl0 => ?_)
  refine aw_seq ?_
  refine aw_region ?_
  refine ao_eff trivial (e_alloc 0 (y := .v (.arr 121 (.int .i64)) ((List.replicate 121 0) : (List Int))) Try.zeroValue50 (fun ρ h M => ra_zero_arr (t := (.int .i64)) rfl) rfl rfl rfl rfl rfl) rfl ?_
  refine ao_read trivial (r_assign rfl) rfl ?_
  refine ao_nil ?_
  refine aq_then ?_
  refine aw_seq ?_
  refine aw_seq ?_
  refine aw_region ?_
  refine ao_read trivial (r_move rfl) rfl ?_
  refine ao_scall trivial (scall (c_impl_IsPool (is_mk (rfl : p_impl_IsPool x0 = _))) rfl Try.func90 rfl rfl rfl rfl (fun σ => ⟨ad_ren rfl, trivial⟩)) rfl ?_
  refine ao_read trivial (r_not rfl) rfl ?_
  refine ao_read trivial (r_move rfl) rfl ?_
  refine ao_readG (x := .int .i64 x1) rfl (GV.F rfl) (fun hg1 => r_move rfl) rfl ?_
  refine ao_readG (x := .v (.slice (.arr 6 (.int .i64))) x0) rfl (GV.F rfl) (fun hg2 => r_move rfl) rfl ?_
  refine ao_readG (x := .int .i64 (x0.length : Int)) rfl (GV.F rfl) (fun hg3 => Reads.strip 11 rfl (hg3) (r_len_vm (x0.length : Int) Try.underlying24 rfl rfl)) rfl ?_
  refine ao_readG (x := .int .i64 ((x0.length : Int) - 1)) rfl (GV.F rfl) (fun hg4 => Reads.strip 12 rfl (hg4) (r_subI rfl rfl (wrap_id (by omega) (by omega)))) rfl ?_
  refine ao_scallG (r := .bool (p_impl_within x1 0 ((x0.length : Int) - 1))) rfl (GV.F rfl) (fun hg5 => SCall.strip 10 rfl (hg5) (SCall.strip 13 rfl (hg5) (scall (c_impl_within (is_mk (rfl : p_impl_within x1 0 ((x0.length : Int) - 1) = _))) rfl Try.func85 rfl rfl rfl rfl (fun σ => ⟨ad_ren rfl, ad_ren rfl, ad_ren rfl, trivial⟩)))) rfl ?_
  refine ao_readG (x := .bool (!(p_impl_within x1 0 ((x0.length : Int) - 1)))) rfl (GV.F rfl) (fun hg6 => Reads.strip 14 rfl (hg6) (r_not rfl)) rfl ?_
  refine ao_read trivial (r_orB rfl rfl) rfl ?_
  refine ao_nil ?_
  refine aq_then ?_
  refine aw_cond rfl (fun hb7 => ?_) (fun hb7 => ?_)
  · replace h := is_if hb7 h
    refine aw_seq ?_
    refine aw_region ?_
    refine ao_read trivial (r_build_zero (t := (.int .i64)) Try.underlying50 Try.zeroValue50 Try.sizeOf3 rfl) rfl ?_
    refine ao_effS trivial (e_store rfl rfl rfl rfl Try.sizeOf50 rfl) ?_
    refine ao_read trivial (r_assign rfl) rfl ?_
    refine ao_nil ?_
    refine aq_then ?_
    refine aw_ret ?_
    refine aq_then_ret ?_
    refine aq_ret ?_
    obtain rfl := is_some h
    exact aq_finx (l := [.cell 4 50, .tmp 5]) (xs := [.v (.arr 121 (.int .i64)) ((List.replicate 121 0) : (List Int)), .bool false]) idn [.v (.arr 121 (.int .i64)) ((List.replicate 121 0) : (List Int)), .bool false] [] rfl (by exact ⟨⟨⟨_, _, rfl⟩, r_load_arr rfl Try.isAgg50 Try.sizeOf50 rfl rfl rfl⟩, rfl, trivial⟩) (by exact ⟨ad_ren rfl, ad_ren rfl, trivial⟩) (by exact trivial) rfl (nk rfl) rfl rfl ⟨rfl, rfl⟩
  · obtain ⟨q8, q9⟩ := or_f hb7
    replace h := is_else (ne_t hb7) h
    refine aw_skip ?_
    refine aq_then ?_
    refine aw_seq ?_
    refine aw_region ?_
    refine ao_read trivial (r_move rfl) rfl ?_
    refine ao_read trivial (r_move rfl) rfl ?_
    refine ao_read trivial (r_len_vm (x0.length : Int) Try.underlying24 rfl rfl) rfl ?_
    refine ao_read trivial (r_move rfl) rfl ?_
    refine ao_read trivial (r_sub rfl rfl) rfl ?_
    obtain ⟨r10, r10h, h⟩ := is_bind h
    refine ao_scall trivial (scall (c_impl_kept (is_mk r10h)) rfl Try.func139 rfl rfl rfl rfl (fun σ => ⟨ad_ren rfl, ad_ren rfl, trivial⟩)) rfl ?_
    refine ao_effS trivial (e_store rfl rfl rfl rfl Try.sizeOf50 rfl) ?_
    refine ao_read trivial (r_assign rfl) rfl ?_
    refine ao_nil ?_
    refine aq_then ?_
    refine aw_ret ?_
    refine aq_ret ?_
    obtain rfl := is_some h
    exact aq_finx (l := [.cell 4 50, .tmp 5]) (xs := [.v (.arr 121 (.int .i64)) r10, .bool true]) idn [.v (.arr 121 (.int .i64)) r10, .bool true] [] rfl (by exact ⟨⟨⟨_, _, rfl⟩, r_load_arr rfl Try.isAgg50 Try.sizeOf50 rfl rfl rfl⟩, rfl, trivial⟩) (by exact ⟨ad_ren rfl, ad_ren rfl, trivial⟩) (by exact trivial) rfl (nk rfl) rfl rfl ⟨rfl, rfl⟩
theorem c_spec_DropTable {fu : Nat} {x0 : (List (List Int))} {x1 : Int} {r : (List Int) × Bool} (h : Is (p_spec_DropTable fu x0 x1) (some r)) :
    Scalar Try.prog 71 [.v (.slice (.arr 6 (.int .i64))) x0, .int .i64 x1] (.tup [.v (.arr 121 (.int .i64)) r.1, .bool r.2]) := by
  unfold p_spec_DropTable at h
  refine ac_enter ⟨24, 0⟩ Try.func71 rfl rfl rfl rfl rfl (fun Γ => ?_)
  refine sl_len_m 0 (x0.length : Int) rfl rfl (fun hl0 => ?_)
  refine aw_seq ?_
  refine aw_region ?_
  refine ao_eff trivial (e_alloc 0 (y := .v (.arr 121 (.int .i64)) ((List.replicate 121 0) : (List Int))) Try.zeroValue50 (fun ρ h M => ra_zero_arr (t := (.int .i64)) rfl) rfl rfl rfl rfl rfl) rfl ?_
  refine ao_read trivial (r_assign rfl) rfl ?_
  refine ao_nil ?_
  refine aq_then ?_
  refine aw_seq ?_
  refine aw_seq ?_
  refine aw_region ?_
  refine ao_read trivial (r_move rfl) rfl ?_
  obtain ⟨r1, r1h, h⟩ := is_bind h
  refine ao_scall trivial (scall (c_spec_l2Pool (is_mk r1h)) rfl Try.func145 rfl rfl rfl rfl (fun σ => ⟨ad_ren rfl, trivial⟩)) rfl ?_
  refine ao_read trivial (r_not rfl) rfl ?_
  refine ao_read trivial (r_move rfl) rfl ?_
  refine ao_readG (x := .int .i64 x1) rfl (GV.F rfl) (fun hg2 => r_move rfl) rfl ?_
  refine ao_readG (x := .v (.slice (.arr 6 (.int .i64))) x0) rfl (GV.F rfl) (fun hg3 => r_move rfl) rfl ?_
  refine ao_readG (x := .int .i64 (x0.length : Int)) rfl (GV.F rfl) (fun hg4 => Reads.strip 11 rfl (hg4) (r_len_vm (x0.length : Int) Try.underlying24 rfl rfl)) rfl ?_
  refine ao_readG (x := .int .i64 ((x0.length : Int) - 1)) rfl (GV.F rfl) (fun hg5 => Reads.strip 12 rfl (hg5) (r_subI rfl rfl (wrap_id (by omega) (by omega)))) rfl ?_
  refine ao_scallG (r := .bool (p_spec_l1In x1 0 ((x0.length : Int) - 1))) rfl (GV.F rfl) (fun hg6 => SCall.strip 10 rfl (hg6) (SCall.strip 13 rfl (hg6) (scall (c_spec_l1In (is_mk (rfl : p_spec_l1In x1 0 ((x0.length : Int) - 1) = _))) rfl Try.func87 rfl rfl rfl rfl (fun σ => ⟨ad_ren rfl, ad_ren rfl, ad_ren rfl, trivial⟩)))) rfl ?_
  refine ao_readG (x := .bool (!(p_spec_l1In x1 0 ((x0.length : Int) - 1)))) rfl (GV.F rfl) (fun hg7 => Reads.strip 14 rfl (hg7) (r_not rfl)) rfl ?_
  refine ao_read trivial (r_orB rfl rfl) rfl ?_
  refine ao_nil ?_
  refine aq_then ?_
  refine aw_cond rfl (fun hb8 => ?_) (fun hb8 => ?_)
  · replace h := is_if hb8 h
    refine aw_seq ?_
    refine aw_region ?_
    refine ao_read trivial (r_build_zero (t := (.int .i64)) Try.underlying50 Try.zeroValue50 Try.sizeOf3 rfl) rfl ?_
    refine ao_effS trivial (e_store rfl rfl rfl rfl Try.sizeOf50 rfl) ?_
    refine ao_read trivial (r_assign rfl) rfl ?_
    refine ao_nil ?_
    refine aq_then ?_
    refine aw_ret ?_
    refine aq_then_ret ?_
    refine aq_ret ?_
    obtain rfl := is_some h
    exact aq_finx (l := [.cell 4 50, .tmp 5]) (xs := [.v (.arr 121 (.int .i64)) ((List.replicate 121 0) : (List Int)), .bool false]) idn [.v (.arr 121 (.int .i64)) ((List.replicate 121 0) : (List Int)), .bool false] [] rfl (by exact ⟨⟨⟨_, _, rfl⟩, r_load_arr rfl Try.isAgg50 Try.sizeOf50 rfl rfl rfl⟩, rfl, trivial⟩) (by exact ⟨ad_ren rfl, ad_ren rfl, trivial⟩) (by exact trivial) rfl (nk rfl) rfl rfl ⟨rfl, rfl⟩
  · obtain ⟨q9, q10⟩ := or_f hb8
    replace h := is_else (ne_t hb8) h
    refine aw_skip ?_
    refine aq_then ?_
    refine aw_seq ?_
    refine aw_region ?_
    refine ao_read trivial (r_move rfl) rfl ?_
    refine ao_read trivial (r_move rfl) rfl ?_
    refine ao_read trivial (r_len_vm (x0.length : Int) Try.underlying24 rfl rfl) rfl ?_
    refine ao_read trivial (r_move rfl) rfl ?_
    refine ao_read trivial (r_sub rfl rfl) rfl ?_
    obtain ⟨r11, r11h, h⟩ := is_bind h
    refine ao_scall trivial (scall (c_spec_l4Kept (is_mk r11h)) rfl Try.func141 rfl rfl rfl rfl (fun σ => ⟨ad_ren rfl, ad_ren rfl, trivial⟩)) rfl ?_
    refine ao_effS trivial (e_store rfl rfl rfl rfl Try.sizeOf50 rfl) ?_
    refine ao_read trivial (r_assign rfl) rfl ?_
    refine ao_nil ?_
    refine aq_then ?_
    refine aw_ret ?_
    refine aq_ret ?_
    obtain rfl := is_some h
    exact aq_finx (l := [.cell 4 50, .tmp 5]) (xs := [.v (.arr 121 (.int .i64)) r11, .bool true]) idn [.v (.arr 121 (.int .i64)) r11, .bool true] [] rfl (by exact ⟨⟨⟨_, _, rfl⟩, r_load_arr rfl Try.isAgg50 Try.sizeOf50 rfl rfl rfl⟩, rfl, trivial⟩) (by exact ⟨ad_ren rfl, ad_ren rfl, trivial⟩) (by exact trivial) rfl (nk rfl) rfl rfl ⟨rfl, rfl⟩
theorem c_laws_vSix {fu : Nat} {x0 : Int} {r : Int} (h : Is (p_laws_vSix fu x0) (some r)) :
    Scalar Try.prog 41 [.int .i64 x0] (.int .i64 r) := by
  unfold p_laws_vSix at h
  refine ac_enter ⟨13, 0⟩ Try.func41 rfl rfl rfl rfl rfl (fun Γ => ?_)
  refine aw_seq ?_
  refine aw_region ?_
  refine ao_read trivial (r_assign rfl) rfl ?_
  refine ao_nil ?_
  refine aq_then ?_
  refine aw_seq ?_
  refine aw_region ?_
  refine ao_read trivial (r_assign rfl) rfl ?_
  refine ao_nil ?_
  refine aq_then ?_
  refine aw_seq ?_
  refine aw_seq ?_
  refine aw_region ?_
  refine ao_read trivial (r_assign rfl) rfl ?_
  refine ao_nil ?_
  refine aq_then ?_
  refine aw_block ?_
  refine aw_loop (AL.sub (sub_mk idn (by exact ⟨⟨_, rfl, ad_ren rfl⟩, ⟨_, rfl, ad_ren rfl⟩, ⟨_, rfl, ad_ren rfl⟩, trivial⟩) (by exact trivial) (by rfl) (nk rfl)) (al_whl (fun (s1 : Int × Int) => [(0, .int .i64 x0), (3, .int .i64 s1.1), (4, .int .i64 s1.2)]) (fun (s1 : Int × Int) => []) (fun (s1 : Int × Int) => True) h trivial (fun d3 s1 hI h ih3 => ?_)))
  replace h := is_whlS h
  refine al_round ?_
  refine aw_seq ?_
  refine aw_seq ?_
  refine aw_region ?_
  refine ao_read trivial (r_move rfl) rfl ?_
  refine ao_read trivial (r_move rfl) rfl ?_
  refine ao_read trivial (r_lss rfl rfl) rfl ?_
  refine ao_nil ?_
  refine aq_then ?_
  refine aw_cond rfl (fun hb5 => ?_) (fun hb5 => ?_)
  · have q6 := d_t hb5
    replace h := is_if (d_t hb5) h
    refine aw_skip ?_
    refine aq_then ?_
    refine aw_seq ?_
    refine aw_block ?_
    refine aw_region ?_
    refine ao_read trivial (r_move rfl) rfl ?_
    refine ao_read trivial (r_mul rfl rfl) rfl ?_
    refine ao_read trivial (r_assign rfl) rfl ?_
    refine ao_nil ?_
    refine aq_in ?_
    refine aq_then ?_
    refine aw_region ?_
    refine ao_read trivial (r_move rfl) rfl ?_
    refine ao_read trivial (r_add rfl rfl) rfl ?_
    refine ao_read trivial (r_assign rfl) rfl ?_
    refine ao_nil ?_
    exact aq_again (AL.sub (sub_mk idn (by exact ⟨⟨_, rfl, ad_ren rfl⟩, ⟨_, rfl, ad_ren rfl⟩, ⟨_, rfl, ad_ren rfl⟩, trivial⟩) (by exact trivial) (by rfl) (nk rfl)) (ih3 ((IntKind.wrap .i64 (s1.1 * 6)), (IntKind.wrap .i64 (s1.2 + 1))) trivial h))
  · have q7 := d_f hb5
    replace h := is_else (d_f hb5) h
    refine aw_exit ?_
    refine aq_then_exit ?_
    refine aq_then_exit ?_
    refine aq_in_exit ?_
    refine aq_then ?_
    refine aw_seq ?_
    refine aw_region ?_
    refine ao_read trivial (r_move rfl) rfl ?_
    refine ao_read trivial (r_assign rfl) rfl ?_
    refine ao_nil ?_
    refine aq_then ?_
    refine aw_ret ?_
    refine aq_ret ?_
    obtain rfl := is_some h
    exact aq_finx (l := [.tmp 2]) (xs := [.int .i64 s1.1]) idn [.int .i64 s1.1] [] rfl (by exact ⟨rfl, trivial⟩) (by exact ⟨ad_ren rfl, trivial⟩) (by exact trivial) rfl (nk rfl) rfl rfl ⟨rfl, rfl⟩
theorem c_impl_sums {x0 : (List (List Int))} {r : (List Int)} (h : Is (p_impl_sums x0) (some r)) :
    Scalar Try.prog 118 [.v (.slice (.arr 6 (.int .i64))) x0] (.v (.arr 121 (.int .i64)) r) := by
  unfold p_impl_sums at h
  refine ac_enter ⟨42, 0⟩ Try.func118 rfl rfl rfl rfl rfl (fun Γ => ?_)
  refine sl_len_m 0 (x0.length : Int) rfl rfl (fun hl0 => ?_)
  refine aw_seq ?_
  refine aw_region ?_
  refine ao_eff trivial (e_alloc 0 (y := .v (.arr 121 (.int .i64)) ((List.replicate 121 0) : (List Int))) Try.zeroValue50 (fun ρ h M => ra_zero_arr (t := (.int .i64)) rfl) rfl rfl rfl rfl rfl) rfl ?_
  refine ao_nil ?_
  refine aq_then ?_
  refine aw_seq ?_
  refine aw_region ?_
  refine ao_eff trivial (e_alloc 1 (y := .v (.arr 121 (.int .i64)) ((List.replicate 121 0) : (List Int))) Try.zeroValue50 (fun ρ h M => ra_zero_arr (t := (.int .i64)) rfl) rfl rfl rfl rfl rfl) rfl ?_
  refine ao_nil ?_
  refine aq_then ?_
  refine aw_seq ?_
  refine aw_region ?_
  refine ao_read trivial (r_idxAddr_arr (i := 0) Try.underlying50 Try.sizeOf3 rfl rfl (show 0 ≤ 0 from by omega) (show 0 < (121 : Int) from by omega)) rfl ?_
  refine ao_effS trivial (e_store_elema_int Try.sizeOf3 rfl rfl rfl rfl (show 0 < 121 from by omega) rfl) ?_
  refine ao_nil ?_
  refine aq_then ?_
  refine aw_seq ?_
  refine aw_seq ?_
  refine aw_region ?_
  refine ao_read trivial (r_move rfl) rfl ?_
  refine ao_read trivial (r_len_vm (x0.length : Int) Try.underlying24 rfl rfl) rfl ?_
  refine ao_read trivial (r_move rfl) rfl ?_
  refine ao_nil ?_
  refine aq_then ?_
  refine aw_block ?_
  refine aw_loop (AL.sub (fr' := [(2, .ref 0 0), (3, .ref 1 0), (12, .v (.slice (.arr 6 (.int .i64))) x0), (13, .int .i64 (x0.length : Int)), (14, .int .i64 0)]) (H' := [(0, .var [.arr (.int .i64) 121 ((List.replicate 121 0) : (List Int))]), (1, .var [.arr (.int .i64) 121 (((List.replicate 121 0).set 0 1) : (List Int))])]) (sub_mk idn (by exact ⟨⟨_, rfl, ad_ren rfl⟩, ⟨_, rfl, ad_ren rfl⟩, ⟨_, rfl, ad_ren rfl⟩, ⟨_, rfl, ad_ren rfl⟩, ⟨_, rfl, ad_ren rfl⟩, trivial⟩) (by exact ⟨⟨_, rfl, ⟨rfl, trivial⟩⟩, ⟨_, rfl, ⟨rfl, trivial⟩⟩, trivial⟩) (by rfl) (nk rfl)) (al_cnt (fun i2 (s1 : (List Int)) => [(2, .ref 0 0), (3, .ref 1 0), (12, .v (.slice (.arr 6 (.int .i64))) x0), (13, .int .i64 (x0.length : Int)), (14, .int .i64 i2)]) (fun i2 (s1 : (List Int)) => [(0, .var [.arr (.int .i64) 121 ((List.replicate 121 0) : (List Int))]), (1, .var [.arr (.int .i64) 121 s1])]) (fun d i2 (s1 : (List Int)) => d = Int.toNat ((x0.length : Int) - i2) ∧ 0 ≤ i2 ∧ (s1.length : Int) = 121 ∧ i2 ≤ (x0.length : Int)) h ⟨rfl, (by (try simp only [List.length_set, List.length_append, List.length_cons, List.length_nil, List.length_replicate, List.length_take, List.length_drop]) <;> omega), (by (try simp only [List.length_set, List.length_append, List.length_cons, List.length_nil, List.length_replicate, List.length_take, List.length_drop]) <;> omega), (by (try simp only [List.length_set, List.length_append, List.length_cons, List.length_nil, List.length_replicate, List.length_take, List.length_drop]) <;> omega)⟩ (fun d3 i2 s1 hI h ih3 => ?_)))
  obtain ⟨hd, _, _, _⟩ := hI
  refine al_round ?_
  refine aw_seq ?_
  refine aw_region ?_
  refine ao_read trivial (r_lss rfl rfl) rfl ?_
  refine ao_nil ?_
  refine aq_then ?_
  refine aw_seq ?_
  refine aw_cond rfl (fun hb5 => ?_) (fun hb5 => ?_)
  · have q6 := d_t hb5
    obtain ⟨d3, rfl⟩ : ∃ e, d3 = e + 1 := ⟨d3 - 1, by omega⟩
    replace h := is_cntS h
    refine aw_skip ?_
    refine aq_then ?_
    refine aw_seq ?_
    refine aw_block ?_
    refine aw_seq ?_
    refine aw_region ?_
    refine ao_read trivial (r_idxAddr (t := (.arr 6 (.int .i64))) Try.underlying24 Try.sizeOf47 rfl rfl (show 0 ≤ i2 from by omega) (show i2 < (x0.length : Int) from by omega)) rfl ?_
    refine ao_read trivial (r_load_c (t := (.arr 6 (.int .i64))) Try.isAgg47 Try.sizeOf47 rfl) rfl ?_
    refine ao_eff trivial (e_alloc 2 (y := .v (.arr 6 (.int .i64)) ((List.replicate 6 0) : (List Int))) Try.zeroValue47 (fun ρ h M => ra_zero_arr (t := (.int .i64)) rfl) rfl rfl rfl rfl rfl) rfl ?_
    refine ao_effS trivial (e_store rfl rfl rfl rfl Try.sizeOf47 rfl) ?_
    refine ao_nil ?_
    refine aq_then ?_
    refine aw_seq ?_
    refine aw_region ?_
    refine ao_eff trivial (e_alloc 3 (y := .v (.arr 121 (.int .i64)) ((List.replicate 121 0) : (List Int))) Try.zeroValue50 (fun ρ h M => ra_zero_arr (t := (.int .i64)) rfl) rfl rfl rfl rfl rfl) rfl ?_
    refine ao_nil ?_
    refine aq_then ?_
    refine aw_seq ?_
    refine aw_seq ?_
    refine aw_region ?_
    refine ao_read trivial (r_load_arr rfl Try.isAgg50 Try.sizeOf50 rfl rfl rfl) rfl ?_
    refine ao_read trivial (r_move rfl) rfl ?_
    refine ao_nil ?_
    refine aq_then ?_
    refine aw_block ?_
    refine aw_loop (AL.sub (fr' := [(2, .ref 0 0), (3, .ref 1 0), (5, .ref 2 0), (6, .ref 3 0), (12, .v (.slice (.arr 6 (.int .i64))) x0), (13, .int .i64 (x0.length : Int)), (14, .int .i64 i2), (18, .v (.arr 121 (.int .i64)) s1), (19, .int .i64 0)]) (H' := [(0, .var [.arr (.int .i64) 121 ((List.replicate 121 0) : (List Int))]), (1, .var [.arr (.int .i64) 121 s1]), (2, .var [.arr (.int .i64) 6 ((x0.getD i2.toNat (List.replicate 6 0)) : (List Int))]), (3, .var [.arr (.int .i64) 121 ((List.replicate 121 0) : (List Int))])]) (sub_mk idn (by exact ⟨⟨_, rfl, ad_ren rfl⟩, ⟨_, rfl, ad_ren rfl⟩, ⟨_, rfl, ad_ren rfl⟩, ⟨_, rfl, ad_ren rfl⟩, ⟨_, rfl, ad_ren rfl⟩, ⟨_, rfl, ad_ren rfl⟩, ⟨_, rfl, ad_ren rfl⟩, ⟨_, rfl, ad_ren rfl⟩, ⟨_, rfl, ad_ren rfl⟩, trivial⟩) (by exact ⟨⟨_, rfl, ⟨rfl, trivial⟩⟩, ⟨_, rfl, ⟨rfl, trivial⟩⟩, ⟨_, rfl, ⟨rfl, trivial⟩⟩, ⟨_, rfl, ⟨rfl, trivial⟩⟩, trivial⟩) (by rfl) (nk rfl)) (al_cnt (fun i9 (s8 : (List Int)) => [(2, .ref 0 0), (3, .ref 1 0), (5, .ref 2 0), (6, .ref 3 0), (12, .v (.slice (.arr 6 (.int .i64))) x0), (13, .int .i64 (x0.length : Int)), (14, .int .i64 i2), (18, .v (.arr 121 (.int .i64)) s1), (19, .int .i64 i9)]) (fun i9 (s8 : (List Int)) => [(0, .var [.arr (.int .i64) 121 ((List.replicate 121 0) : (List Int))]), (1, .var [.arr (.int .i64) 121 s1]), (2, .var [.arr (.int .i64) 6 ((x0.getD i2.toNat (List.replicate 6 0)) : (List Int))]), (3, .var [.arr (.int .i64) 121 s8])]) (fun d i9 (s8 : (List Int)) => d = Int.toNat (121 - i9) ∧ 0 ≤ i9 ∧ (s8.length : Int) = 121 ∧ i9 ≤ 121) h ⟨rfl, (by (try simp only [List.length_set, List.length_append, List.length_cons, List.length_nil, List.length_replicate, List.length_take, List.length_drop]) <;> omega), (by (try simp only [List.length_set, List.length_append, List.length_cons, List.length_nil, List.length_replicate, List.length_take, List.length_drop]) <;> omega), (by (try simp only [List.length_set, List.length_append, List.length_cons, List.length_nil, List.length_replicate, List.length_take, List.length_drop]) <;> omega)⟩ (fun d10 i9 s8 hI h ih10 => ?_)))
    obtain ⟨hd, _, _, _⟩ := hI
    refine al_round ?_
    refine aw_seq ?_
    refine aw_region ?_
    refine ao_read trivial (r_lss rfl rfl) rfl ?_
    refine ao_nil ?_
    refine aq_then ?_
    refine aw_seq ?_
    refine aw_cond rfl (fun hb12 => ?_) (fun hb12 => ?_)
    · have q13 := d_t hb12
      obtain ⟨d10, rfl⟩ : ∃ e, d10 = e + 1 := ⟨d10 - 1, by omega⟩
      replace h := is_cntS h
      refine aw_skip ?_
      refine aq_then ?_
      refine aw_seq ?_
      refine aw_block ?_
      refine aw_seq ?_
      refine aw_region ?_
      refine ao_read trivial (r_move rfl) rfl ?_
      refine ao_read trivial (r_index_a (t := (.int .i64)) Try.underlying50 Try.isAgg3 Try.sizeOf3 rfl rfl (by omega) (by omega)) rfl ?_
      refine ao_read trivial (r_assign rfl) rfl ?_
      refine ao_read trivial (r_assign rfl) rfl ?_
      refine ao_nil ?_
      refine aq_then ?_
      refine aw_seq ?_
      refine aw_seq ?_
      refine aw_region ?_
      refine ao_read trivial (r_move rfl) rfl ?_
      refine ao_read trivial (r_eql rfl rfl) rfl ?_
      refine ao_nil ?_
      refine aq_then ?_
      refine aw_cond rfl (fun hb15 => ?_) (fun hb15 => ?_)
      · have q16 : (s1.getD i9.toNat 0) = 0 := d_t hb15
        replace h := is_if (d_t hb15) h
        refine aw_exit ?_
        refine aq_then_exit ?_
        refine aq_in_exit ?_
        refine aq_then ?_
        refine aw_region ?_
        refine ao_read trivial (r_addI rfl rfl (wrap_id (by omega) (by omega))) rfl ?_
        refine ao_read trivial (r_move rfl) rfl ?_
        refine ao_nil ?_
        exact aq_again (AL.sub (sub_mk idn (by exact ⟨⟨_, rfl, ad_ren rfl⟩, ⟨_, rfl, ad_ren rfl⟩, ⟨_, rfl, ad_ren rfl⟩, ⟨_, rfl, ad_ren rfl⟩, ⟨_, rfl, ad_ren rfl⟩, ⟨_, rfl, ad_ren rfl⟩, ⟨_, rfl, ad_ren rfl⟩, ⟨_, rfl, ad_ren rfl⟩, ⟨_, rfl, ad_ren rfl⟩, trivial⟩) (by exact ⟨⟨_, rfl, ⟨rfl, trivial⟩⟩, ⟨_, rfl, ⟨rfl, trivial⟩⟩, ⟨_, rfl, ⟨rfl, trivial⟩⟩, ⟨_, rfl, ⟨rfl, trivial⟩⟩, trivial⟩) (by rfl) (nk rfl)) (ih10 d10 (i9 + 1) s8 (by omega) ⟨by omega, (by (try simp only [List.length_set, List.length_append, List.length_cons, List.length_nil, List.length_replicate, List.length_take, List.length_drop]) <;> omega), (by (try simp only [List.length_set, List.length_append, List.length_cons, List.length_nil, List.length_replicate, List.length_take, List.length_drop]) <;> omega), (by (try simp only [List.length_set, List.length_append, List.length_cons, List.length_nil, List.length_replicate, List.length_take, List.length_drop]) <;> omega)⟩ h))
      · have q17 : ¬ ((s1.getD i9.toNat 0) = 0) := d_f hb15
        replace h := is_else (d_f hb15) h
        refine aw_skip ?_
        refine aq_then ?_
        refine aw_seq ?_
        refine aw_region ?_
        refine ao_read trivial (r_load_arr rfl Try.isAgg47 Try.sizeOf47 rfl rfl rfl) rfl ?_
        refine ao_read trivial (r_move rfl) rfl ?_
        refine ao_nil ?_
        refine aq_then ?_
        refine aw_block ?_
        refine aw_loop (AL.sub (fr' := [(2, .ref 0 0), (3, .ref 1 0), (5, .ref 2 0), (6, .ref 3 0), (7, .int .i64 i9), (8, .int .i64 (s1.getD i9.toNat 0)), (12, .v (.slice (.arr 6 (.int .i64))) x0), (13, .int .i64 (x0.length : Int)), (14, .int .i64 i2), (18, .v (.arr 121 (.int .i64)) s1), (19, .int .i64 i9), (25, .v (.arr 6 (.int .i64)) ((x0.getD i2.toNat (List.replicate 6 0)) : (List Int))), (26, .int .i64 0)]) (H' := [(0, .var [.arr (.int .i64) 121 ((List.replicate 121 0) : (List Int))]), (1, .var [.arr (.int .i64) 121 s1]), (2, .var [.arr (.int .i64) 6 ((x0.getD i2.toNat (List.replicate 6 0)) : (List Int))]), (3, .var [.arr (.int .i64) 121 s8])]) (sub_mk idn (by exact ⟨⟨_, rfl, ad_ren rfl⟩, ⟨_, rfl, ad_ren rfl⟩, ⟨_, rfl, ad_ren rfl⟩, ⟨_, rfl, ad_ren rfl⟩, ⟨_, rfl, ad_ren rfl⟩, ⟨_, rfl, ad_ren rfl⟩, ⟨_, rfl, ad_ren rfl⟩, ⟨_, rfl, ad_ren rfl⟩, ⟨_, rfl, ad_ren rfl⟩, ⟨_, rfl, ad_ren rfl⟩, ⟨_, rfl, ad_ren rfl⟩, ⟨_, rfl, ad_ren rfl⟩, ⟨_, rfl, ad_ren rfl⟩, trivial⟩) (by exact ⟨⟨_, rfl, ⟨rfl, trivial⟩⟩, ⟨_, rfl, ⟨rfl, trivial⟩⟩, ⟨_, rfl, ⟨rfl, trivial⟩⟩, ⟨_, rfl, ⟨rfl, trivial⟩⟩, trivial⟩) (by rfl) (nk rfl)) (al_cnt (fun i19 (s18 : (List Int)) => [(2, .ref 0 0), (3, .ref 1 0), (5, .ref 2 0), (6, .ref 3 0), (7, .int .i64 i9), (8, .int .i64 (s1.getD i9.toNat 0)), (12, .v (.slice (.arr 6 (.int .i64))) x0), (13, .int .i64 (x0.length : Int)), (14, .int .i64 i2), (18, .v (.arr 121 (.int .i64)) s1), (19, .int .i64 i9), (25, .v (.arr 6 (.int .i64)) ((x0.getD i2.toNat (List.replicate 6 0)) : (List Int))), (26, .int .i64 i19)]) (fun i19 (s18 : (List Int)) => [(0, .var [.arr (.int .i64) 121 ((List.replicate 121 0) : (List Int))]), (1, .var [.arr (.int .i64) 121 s1]), (2, .var [.arr (.int .i64) 6 ((x0.getD i2.toNat (List.replicate 6 0)) : (List Int))]), (3, .var [.arr (.int .i64) 121 s18])]) (fun d i19 (s18 : (List Int)) => d = Int.toNat (6 - i19) ∧ 0 ≤ i19 ∧ (s18.length : Int) = 121 ∧ i19 ≤ 6) h ⟨rfl, (by (try simp only [List.length_set, List.length_append, List.length_cons, List.length_nil, List.length_replicate, List.length_take, List.length_drop]) <;> omega), (by (try simp only [List.length_set, List.length_append, List.length_cons, List.length_nil, List.length_replicate, List.length_take, List.length_drop]) <;> omega), (by (try simp only [List.length_set, List.length_append, List.length_cons, List.length_nil, List.length_replicate, List.length_take, List.length_drop]) <;> omega)⟩ (fun d20 i19 s18 hI h ih20 => ?_)))
        obtain ⟨hd, _, _, _⟩ := hI
        refine al_round ?_
        refine aw_seq ?_
        refine aw_region ?_
        refine ao_read trivial (r_lss rfl rfl) rfl ?_
        refine ao_nil ?_
        refine aq_then ?_
        refine aw_seq ?_
        refine aw_cond rfl (fun hb22 => ?_) (fun hb22 => ?_)
        · have q23 := d_t hb22
          obtain ⟨d20, rfl⟩ : ∃ e, d20 = e + 1 := ⟨d20 - 1, by omega⟩
          replace h := is_cntS h
          refine aw_skip ?_
          refine aq_then ?_
          refine aw_seq ?_
          refine aw_block ?_
          refine aw_seq ?_
          refine aw_region ?_
          refine ao_read trivial (r_index_a (t := (.int .i64)) Try.underlying47 Try.isAgg3 Try.sizeOf3 rfl rfl (by omega) (by omega)) rfl ?_
          refine ao_read trivial (r_assign rfl) rfl ?_
          refine ao_nil ?_
          refine aq_then ?_
          refine aw_region ?_
          refine ao_read trivial (r_move rfl) rfl ?_
          refine ao_read trivial (r_move rfl) rfl ?_
          refine ao_read trivial (r_add rfl rfl) rfl ?_
          obtain ⟨g25, h⟩ := is_guard h
          obtain ⟨g26, h⟩ := is_guard h
          refine ao_read trivial (r_idxAddr_arr (i := (IntKind.wrap .i64 (i9 + ((x0.getD i2.toNat (List.replicate 6 0)).getD i19.toNat 0)))) Try.underlying50 Try.sizeOf3 rfl rfl (show 0 ≤ (IntKind.wrap .i64 (i9 + ((x0.getD i2.toNat (List.replicate 6 0)).getD i19.toNat 0))) from by (try simp only [List.length_replicate]) <;> omega) (show (IntKind.wrap .i64 (i9 + ((x0.getD i2.toNat (List.replicate 6 0)).getD i19.toNat 0))) < (121 : Int) from by (try simp only [List.length_replicate]) <;> omega)) rfl ?_
          refine ao_read trivial (r_load_elema_int Try.isAgg3 Try.sizeOf3 rfl rfl rfl (show (IntKind.wrap .i64 (i9 + ((x0.getD i2.toNat (List.replicate 6 0)).getD i19.toNat 0))).toNat < 121 from by (try simp only [List.length_replicate]) <;> omega)) rfl ?_
          refine ao_read trivial (r_move rfl) rfl ?_
          refine ao_read trivial (r_add rfl rfl) rfl ?_
          refine ao_read trivial (r_idxAddr_arr (i := (IntKind.wrap .i64 (i9 + ((x0.getD i2.toNat (List.replicate 6 0)).getD i19.toNat 0)))) Try.underlying50 Try.sizeOf3 rfl rfl (show 0 ≤ (IntKind.wrap .i64 (i9 + ((x0.getD i2.toNat (List.replicate 6 0)).getD i19.toNat 0))) from by (try simp only [List.length_replicate]) <;> omega) (show (IntKind.wrap .i64 (i9 + ((x0.getD i2.toNat (List.replicate 6 0)).getD i19.toNat 0))) < (121 : Int) from by (try simp only [List.length_replicate]) <;> omega)) rfl ?_
          refine ao_effS trivial (e_store_elema_int Try.sizeOf3 rfl rfl rfl rfl (show (IntKind.wrap .i64 (i9 + ((x0.getD i2.toNat (List.replicate 6 0)).getD i19.toNat 0))).toNat < 121 from by (try simp only [List.length_replicate]) <;> omega) rfl) ?_
          refine ao_nil ?_
          refine aq_in ?_
          refine aq_then ?_
          refine aw_region ?_
          refine ao_read trivial (r_addI rfl rfl (wrap_id (by omega) (by omega))) rfl ?_
          refine ao_read trivial (r_move rfl) rfl ?_
          refine ao_nil ?_
          exact aq_again (AL.sub (sub_mk idn (by exact ⟨⟨_, rfl, ad_ren rfl⟩, ⟨_, rfl, ad_ren rfl⟩, ⟨_, rfl, ad_ren rfl⟩, ⟨_, rfl, ad_ren rfl⟩, ⟨_, rfl, ad_ren rfl⟩, ⟨_, rfl, ad_ren rfl⟩, ⟨_, rfl, ad_ren rfl⟩, ⟨_, rfl, ad_ren rfl⟩, ⟨_, rfl, ad_ren rfl⟩, ⟨_, rfl, ad_ren rfl⟩, ⟨_, rfl, ad_ren rfl⟩, ⟨_, rfl, ad_ren rfl⟩, ⟨_, rfl, ad_ren rfl⟩, trivial⟩) (by exact ⟨⟨_, rfl, ⟨rfl, trivial⟩⟩, ⟨_, rfl, ⟨rfl, trivial⟩⟩, ⟨_, rfl, ⟨rfl, trivial⟩⟩, ⟨_, rfl, ⟨rfl, trivial⟩⟩, trivial⟩) (by rfl) (nk rfl)) (ih20 d20 (i19 + 1) (s18.set (IntKind.wrap .i64 (i9 + ((x0.getD i2.toNat (List.replicate 6 0)).getD i19.toNat 0))).toNat (IntKind.wrap .i64 ((s18.getD (IntKind.wrap .i64 (i9 + ((x0.getD i2.toNat (List.replicate 6 0)).getD i19.toNat 0))).toNat 0) + (s1.getD i9.toNat 0)))) (by omega) ⟨by omega, (by (try simp only [List.length_set, List.length_append, List.length_cons, List.length_nil, List.length_replicate, List.length_take, List.length_drop]) <;> omega), (by (try simp only [List.length_set, List.length_append, List.length_cons, List.length_nil, List.length_replicate, List.length_take, List.length_drop]) <;> omega), (by (try simp only [List.length_set, List.length_append, List.length_cons, List.length_nil, List.length_replicate, List.length_take, List.length_drop]) <;> omega)⟩ h))
        · have q24 := d_f hb22
          obtain rfl : d20 = 0 := by omega
          replace h := is_cnt0 h
          refine aw_exit ?_
          refine aq_then_exit ?_
          refine aq_then_exit ?_
          refine aq_in_exit ?_
          refine aq_in ?_
          refine aq_then ?_
          refine aw_region ?_
          refine ao_read trivial (r_addI rfl rfl (wrap_id (by omega) (by omega))) rfl ?_
          refine ao_read trivial (r_move rfl) rfl ?_
          refine ao_nil ?_
          exact aq_again (AL.sub (sub_mk idn (by exact ⟨⟨_, rfl, ad_ren rfl⟩, ⟨_, rfl, ad_ren rfl⟩, ⟨_, rfl, ad_ren rfl⟩, ⟨_, rfl, ad_ren rfl⟩, ⟨_, rfl, ad_ren rfl⟩, ⟨_, rfl, ad_ren rfl⟩, ⟨_, rfl, ad_ren rfl⟩, ⟨_, rfl, ad_ren rfl⟩, ⟨_, rfl, ad_ren rfl⟩, trivial⟩) (by exact ⟨⟨_, rfl, ⟨rfl, trivial⟩⟩, ⟨_, rfl, ⟨rfl, trivial⟩⟩, ⟨_, rfl, ⟨rfl, trivial⟩⟩, ⟨_, rfl, ⟨rfl, trivial⟩⟩, trivial⟩) (by rfl) (nk rfl)) (ih10 d10 (i9 + 1) s18 (by omega) ⟨by omega, (by (try simp only [List.length_set, List.length_append, List.length_cons, List.length_nil, List.length_replicate, List.length_take, List.length_drop]) <;> omega), (by (try simp only [List.length_set, List.length_append, List.length_cons, List.length_nil, List.length_replicate, List.length_take, List.length_drop]) <;> omega), (by (try simp only [List.length_set, List.length_append, List.length_cons, List.length_nil, List.length_replicate, List.length_take, List.length_drop]) <;> omega)⟩ h))
    · have q14 := d_f hb12
      obtain rfl : d10 = 0 := by omega
      replace h := is_cnt0 h
      refine aw_exit ?_
      refine aq_then_exit ?_
      refine aq_then_exit ?_
      refine aq_in_exit ?_
      refine aq_then ?_
      refine aw_region ?_
      refine ao_read trivial (r_load_arr rfl Try.isAgg50 Try.sizeOf50 rfl rfl rfl) rfl ?_
      refine ao_effS trivial (e_store rfl rfl rfl rfl Try.sizeOf50 rfl) ?_
      refine ao_nil ?_
      refine aq_in ?_
      refine aq_then ?_
      refine aw_region ?_
      refine ao_read trivial (r_addI rfl rfl (wrap_id (by omega) (by omega))) rfl ?_
      refine ao_read trivial (r_move rfl) rfl ?_
      refine ao_nil ?_
      exact aq_again (AL.sub (sub_mk idn (by exact ⟨⟨_, rfl, ad_ren rfl⟩, ⟨_, rfl, ad_ren rfl⟩, ⟨_, rfl, ad_ren rfl⟩, ⟨_, rfl, ad_ren rfl⟩, ⟨_, rfl, ad_ren rfl⟩, trivial⟩) (by exact ⟨⟨_, rfl, ⟨rfl, trivial⟩⟩, ⟨_, rfl, ⟨rfl, trivial⟩⟩, trivial⟩) (by rfl) (nk rfl)) (ih3 d3 (i2 + 1) s8 (by omega) ⟨by omega, (by (try simp only [List.length_set, List.length_append, List.length_cons, List.length_nil, List.length_replicate, List.length_take, List.length_drop]) <;> omega), (by (try simp only [List.length_set, List.length_append, List.length_cons, List.length_nil, List.length_replicate, List.length_take, List.length_drop]) <;> omega), (by (try simp only [List.length_set, List.length_append, List.length_cons, List.length_nil, List.length_replicate, List.length_take, List.length_drop]) <;> omega)⟩ h))
  · have q7 := d_f hb5
    obtain rfl : d3 = 0 := by omega
    replace h := is_cnt0 h
    refine aw_exit ?_
    refine aq_then_exit ?_
    refine aq_then_exit ?_
    refine aq_in_exit ?_
    refine aq_then ?_
    refine aw_seq ?_
    refine aw_region ?_
    refine ao_read trivial (r_load_arr rfl Try.isAgg50 Try.sizeOf50 rfl rfl rfl) rfl ?_
    refine ao_effS trivial (e_store rfl rfl rfl rfl Try.sizeOf50 rfl) ?_
    refine ao_nil ?_
    refine aq_then ?_
    refine aw_ret ?_
    refine aq_ret ?_
    obtain rfl := is_some h
    exact aq_finx (l := [.cell 2 50]) (xs := [.v (.arr 121 (.int .i64)) s1]) idn [.v (.arr 121 (.int .i64)) s1] [] rfl (by exact ⟨⟨⟨_, _, rfl⟩, r_load_arr rfl Try.isAgg50 Try.sizeOf50 rfl rfl rfl⟩, trivial⟩) (by exact ⟨ad_ren rfl, trivial⟩) (by exact trivial) rfl (nk rfl) rfl rfl ⟨rfl, rfl⟩
theorem c_impl_SumTable {x0 : (List (List Int))} {r : (List Int) × Bool} (h : Is (p_impl_SumTable x0) (some r)) :
    Scalar Try.prog 42 [.v (.slice (.arr 6 (.int .i64))) x0] (.tup [.v (.arr 121 (.int .i64)) r.1, .bool r.2]) := by
  unfold p_impl_SumTable at h
  refine ac_enter ⟨10, 0⟩ Try.func42 rfl rfl rfl rfl rfl (fun Γ => ?_)
  refine sl_len_m 0 (x0.length : Int) rfl rfl (fun hl0 => ?_)
  refine aw_seq ?_
  refine aw_region ?_
  refine ao_eff trivial (e_alloc 0 (y := .v (.arr 121 (.int .i64)) ((List.replicate 121 0) : (List Int))) Try.zeroValue50 (fun ρ h M => ra_zero_arr (t := (.int .i64)) rfl) rfl rfl rfl rfl rfl) rfl ?_
  refine ao_read trivial (r_assign rfl) rfl ?_
  refine ao_nil ?_
  refine aq_then ?_
  refine aw_seq ?_
  refine aw_seq ?_
  refine aw_region ?_
  refine ao_read trivial (r_move rfl) rfl ?_
  refine ao_scall trivial (scall (c_impl_IsPool (is_mk (rfl : p_impl_IsPool x0 = _))) rfl Try.func90 rfl rfl rfl rfl (fun σ => ⟨ad_ren rfl, trivial⟩)) rfl ?_
  refine ao_read trivial (r_not rfl) rfl ?_
  refine ao_nil ?_
  refine aq_then ?_
  refine aw_cond rfl (fun hb1 => ?_) (fun hb1 => ?_)
  · replace h := is_else (ne_t (not_t hb1)) h
    refine aw_seq ?_
    refine aw_region ?_
    refine ao_read trivial (r_build_zero (t := (.int .i64)) Try.underlying50 Try.zeroValue50 Try.sizeOf3 rfl) rfl ?_
    refine ao_effS trivial (e_store rfl rfl rfl rfl Try.sizeOf50 rfl) ?_
    refine ao_read trivial (r_assign rfl) rfl ?_
    refine ao_nil ?_
    refine aq_then ?_
    refine aw_ret ?_
    refine aq_then_ret ?_
    refine aq_ret ?_
    obtain rfl := is_some h
    exact aq_finx (l := [.cell 2 50, .tmp 3]) (xs := [.v (.arr 121 (.int .i64)) ((List.replicate 121 0) : (List Int)), .bool false]) idn [.v (.arr 121 (.int .i64)) ((List.replicate 121 0) : (List Int)), .bool false] [] rfl (by exact ⟨⟨⟨_, _, rfl⟩, r_load_arr rfl Try.isAgg50 Try.sizeOf50 rfl rfl rfl⟩, rfl, trivial⟩) (by exact ⟨ad_ren rfl, ad_ren rfl, trivial⟩) (by exact trivial) rfl (nk rfl) rfl rfl ⟨rfl, rfl⟩
  · replace h := is_if (not_f hb1) h
    refine aw_skip ?_
    refine aq_then ?_
    refine aw_seq ?_
    refine aw_region ?_
    refine ao_read trivial (r_move rfl) rfl ?_
    obtain ⟨r2, r2h, h⟩ := is_bind h
    refine ao_scall trivial (scall (c_impl_sums (is_mk r2h)) rfl Try.func118 rfl rfl rfl rfl (fun σ => ⟨ad_ren rfl, trivial⟩)) rfl ?_
    refine ao_effS trivial (e_store rfl rfl rfl rfl Try.sizeOf50 rfl) ?_
    refine ao_read trivial (r_assign rfl) rfl ?_
    refine ao_nil ?_
    refine aq_then ?_
    refine aw_ret ?_
    refine aq_ret ?_
    obtain rfl := is_some h
    exact aq_finx (l := [.cell 2 50, .tmp 3]) (xs := [.v (.arr 121 (.int .i64)) r2, .bool true]) idn [.v (.arr 121 (.int .i64)) r2, .bool true] [] rfl (by exact ⟨⟨⟨_, _, rfl⟩, r_load_arr rfl Try.isAgg50 Try.sizeOf50 rfl rfl rfl⟩, rfl, trivial⟩) (by exact ⟨ad_ren rfl, ad_ren rfl, trivial⟩) (by exact trivial) rfl (nk rfl) rfl rfl ⟨rfl, rfl⟩
theorem c_laws_vLess {x0 : (List Int)} {x1 : (List Int)} {r : Bool} (h : Is (p_laws_vLess x0 x1) r) :
    Scalar Try.prog 22 [.v (.arr 2 (.int .i64)) x0, .v (.arr 2 (.int .i64)) x1] (.bool r) := by
  unfold p_laws_vLess at h
  refine ac_enter ⟨16, 0⟩ Try.func22 rfl rfl rfl rfl rfl (fun Γ => ?_)
  refine aw_seq ?_
  refine aw_region ?_
  refine ao_eff trivial (e_box 0 rfl rfl rfl rfl rfl rfl) rfl ?_
  refine ao_eff trivial (e_box 1 rfl rfl rfl rfl rfl rfl) rfl ?_
  refine ao_read trivial (r_assign rfl) rfl ?_
  refine ao_nil ?_
  refine aq_then ?_
  refine aw_seq ?_
  refine aw_region ?_
  refine ao_read trivial (r_idxAddr_arr (i := 0) Try.underlying29 Try.sizeOf3 rfl rfl (show 0 ≤ 0 from by omega) (show 0 < (2 : Int) from by omega)) rfl ?_
  refine ao_read trivial (r_load_elema_int Try.isAgg3 Try.sizeOf3 rfl rfl rfl (show 0 < 2 from by omega)) rfl ?_
  refine ao_read trivial (r_idxAddr_arr (i := 1) Try.underlying29 Try.sizeOf3 rfl rfl (show 0 ≤ 1 from by omega) (show 1 < (2 : Int) from by omega)) rfl ?_
  refine ao_read trivial (r_load_elema_int Try.isAgg3 Try.sizeOf3 rfl rfl rfl (show 1 < 2 from by omega)) rfl ?_
  refine ao_read trivial (r_mul rfl rfl) rfl ?_
  refine ao_read trivial (r_idxAddr_arr (i := 0) Try.underlying29 Try.sizeOf3 rfl rfl (show 0 ≤ 0 from by omega) (show 0 < (2 : Int) from by omega)) rfl ?_
  refine ao_read trivial (r_load_elema_int Try.isAgg3 Try.sizeOf3 rfl rfl rfl (show 0 < 2 from by omega)) rfl ?_
  refine ao_read trivial (r_idxAddr_arr (i := 1) Try.underlying29 Try.sizeOf3 rfl rfl (show 0 ≤ 1 from by omega) (show 1 < (2 : Int) from by omega)) rfl ?_
  refine ao_read trivial (r_load_elema_int Try.isAgg3 Try.sizeOf3 rfl rfl rfl (show 1 < 2 from by omega)) rfl ?_
  refine ao_read trivial (r_mul rfl rfl) rfl ?_
  refine ao_read trivial (r_lss rfl rfl) rfl ?_
  refine ao_read trivial (r_assign rfl) rfl ?_
  refine ao_nil ?_
  refine aq_then ?_
  refine aw_ret ?_
  refine aq_ret ?_
  obtain rfl := is_eq h
  exact aq_finx (l := [.tmp 4]) (xs := [.bool (decide ((IntKind.wrap .i64 ((x0.getD 0 0) * (x1.getD 1 0))) < (IntKind.wrap .i64 ((x1.getD 0 0) * (x0.getD 1 0)))))]) idn [.bool (decide ((IntKind.wrap .i64 ((x0.getD 0 0) * (x1.getD 1 0))) < (IntKind.wrap .i64 ((x1.getD 0 0) * (x0.getD 1 0)))))] [] rfl (by exact ⟨rfl, trivial⟩) (by exact ⟨ad_ren rfl, trivial⟩) (by exact trivial) rfl (nk rfl) rfl rfl ⟨rfl, rfl⟩
theorem c_laws_FnKept {fu : Nat} {x0 : (List Int)} {r : Bool} (h : Is (p_laws_FnKept fu x0) (some r)) :
    Scalar Try.prog 6 [.v (.slice (.int .u8)) x0] (.bool r) := by
  unfold p_laws_FnKept at h
  refine ac_enter ⟨311, 0⟩ Try.func6 rfl rfl rfl rfl rfl (fun Γ => ?_)
  refine sl_len_m 0 (x0.length : Int) rfl rfl (fun hl0 => ?_)
  refine aw_seq ?_
  refine aw_region ?_
  refine ao_read trivial (r_assign rfl) rfl ?_
  refine ao_nil ?_
  refine aq_then ?_
  refine aw_seq ?_
  refine aw_seq ?_
  refine aw_region ?_
  refine ao_read trivial (r_move rfl) rfl ?_
  refine ao_scall trivial (scall (c_laws_vBig (is_mk (rfl : p_laws_vBig x0 = _))) rfl Try.func7 rfl rfl rfl rfl (fun σ => ⟨ad_ren rfl, trivial⟩)) rfl ?_
  refine ao_nil ?_
  refine aq_then ?_
  refine aw_cond rfl (fun hb1 => ?_) (fun hb1 => ?_)
  · replace h := is_if hb1 h
    refine aw_seq ?_
    refine aw_region ?_
    refine ao_read trivial (r_assign rfl) rfl ?_
    refine ao_nil ?_
    refine aq_then ?_
    refine aw_ret ?_
    refine aq_then_ret ?_
    refine aq_ret ?_
    obtain rfl := is_some h
    exact aq_finx (l := [.tmp 2]) (xs := [.bool true]) idn [.bool true] [] rfl (by exact ⟨rfl, trivial⟩) (by exact ⟨ad_ren rfl, trivial⟩) (by exact trivial) rfl (nk rfl) rfl rfl ⟨rfl, rfl⟩
  · replace h := is_else (ne_t hb1) h
    refine aw_skip ?_
    refine aq_then ?_
    refine aw_seq ?_
    refine aw_region ?_
    refine ao_read trivial (r_move rfl) rfl ?_
    obtain ⟨r2, r2h, h⟩ := is_bind h
    refine ao_callV [] 0 trivial (c_spec_DrawKeepTable (is_mk r2h)) Try.func60 rfl rfl rfl rfl rfl trivial trivial rfl rfl rfl rfl rfl rfl rfl (fun r' H' hr => ?_)
    obtain ⟨rfl, rfl⟩ := hr
    refine ao_norm (y := .tup [.v (.slice (.arr 6 (.int .i64))) r2.1, .int .i64 r2.2]) (H' := []) rfl rfl ?_
    refine ao_read trivial (r_move rfl) rfl ?_
    refine ao_read trivial (r_extract rfl rfl) rfl ?_
    refine ao_read trivial (r_extract rfl rfl) rfl ?_
    refine ao_read trivial (r_assign rfl) rfl ?_
    refine ao_read trivial (r_assign rfl) rfl ?_
    refine ao_nil ?_
    refine aq_then ?_
    refine aw_seq ?_
    refine aw_region ?_
    refine ao_read trivial (r_move rfl) rfl ?_
    refine ao_read trivial (r_move rfl) rfl ?_
    obtain ⟨r3, r3h, h⟩ := is_bind h
    refine ao_scall trivial (scall (c_impl_KeepTable (is_mk r3h)) rfl Try.func61 rfl rfl rfl rfl (fun σ => ⟨ad_ren rfl, ad_ren rfl, trivial⟩)) rfl ?_
    refine ao_read trivial (r_move rfl) rfl ?_
    refine ao_read trivial (r_extract rfl rfl) rfl ?_
    refine ao_read trivial (r_extract rfl rfl) rfl ?_
    refine ao_eff trivial (e_alloc 0 (y := .v (.arr 121 (.int .i64)) ((List.replicate 121 0) : (List Int))) Try.zeroValue50 (fun ρ h M => ra_zero_arr (t := (.int .i64)) rfl) rfl rfl rfl rfl rfl) rfl ?_
    refine ao_effS trivial (e_store rfl rfl rfl rfl Try.sizeOf50 rfl) ?_
    refine ao_read trivial (r_assign rfl) rfl ?_
    refine ao_nil ?_
    refine aq_then ?_
    refine aw_seq ?_
    refine aw_region ?_
    refine ao_read trivial (r_move rfl) rfl ?_
    refine ao_read trivial (r_move rfl) rfl ?_
    obtain ⟨r4, r4h, h⟩ := is_bind h
    refine ao_scall trivial (scall (c_spec_KeepTable (is_mk r4h)) rfl Try.func62 rfl rfl rfl rfl (fun σ => ⟨ad_ren rfl, ad_ren rfl, trivial⟩)) rfl ?_
    refine ao_read trivial (r_move rfl) rfl ?_
    refine ao_read trivial (r_extract rfl rfl) rfl ?_
    refine ao_read trivial (r_extract rfl rfl) rfl ?_
    refine ao_eff trivial (e_alloc 1 (y := .v (.arr 121 (.int .i64)) ((List.replicate 121 0) : (List Int))) Try.zeroValue50 (fun ρ h M => ra_zero_arr (t := (.int .i64)) rfl) rfl rfl rfl rfl rfl) rfl ?_
    refine ao_effS trivial (e_store rfl rfl rfl rfl Try.sizeOf50 rfl) ?_
    refine ao_read trivial (r_assign rfl) rfl ?_
    refine ao_nil ?_
    refine aq_then ?_
    refine aw_seq ?_
    refine aw_region ?_
    refine ao_read trivial (r_move rfl) rfl ?_
    refine ao_read trivial (r_move rfl) rfl ?_
    obtain ⟨r5, r5h, h⟩ := is_bind h
    refine ao_scall trivial (scall (c_impl_MeanKept (is_mk r5h)) rfl Try.func63 rfl rfl rfl rfl (fun σ => ⟨ad_ren rfl, ad_ren rfl, trivial⟩)) rfl ?_
    refine ao_read trivial (r_move rfl) rfl ?_
    refine ao_read trivial (r_extract rfl rfl) rfl ?_
    refine ao_read trivial (r_extract rfl rfl) rfl ?_
    refine ao_eff trivial (e_alloc 2 (y := .v (.arr 2 (.int .i64)) ((List.replicate 2 0) : (List Int))) Try.zeroValue29 (fun ρ h M => ra_zero_arr (t := (.int .i64)) rfl) rfl rfl rfl rfl rfl) rfl ?_
    refine ao_effS trivial (e_store rfl rfl rfl rfl Try.sizeOf29 rfl) ?_
    refine ao_read trivial (r_assign rfl) rfl ?_
    refine ao_nil ?_
    refine aq_then ?_
    refine aw_seq ?_
    refine aw_region ?_
    refine ao_read trivial (r_move rfl) rfl ?_
    refine ao_read trivial (r_move rfl) rfl ?_
    obtain ⟨r6, r6h, h⟩ := is_bind h
    refine ao_scall trivial (scall (c_spec_MeanKept (is_mk r6h)) rfl Try.func64 rfl rfl rfl rfl (fun σ => ⟨ad_ren rfl, ad_ren rfl, trivial⟩)) rfl ?_
    refine ao_read trivial (r_move rfl) rfl ?_
    refine ao_read trivial (r_extract rfl rfl) rfl ?_
    refine ao_read trivial (r_extract rfl rfl) rfl ?_
    refine ao_eff trivial (e_alloc 3 (y := .v (.arr 2 (.int .i64)) ((List.replicate 2 0) : (List Int))) Try.zeroValue29 (fun ρ h M => ra_zero_arr (t := (.int .i64)) rfl) rfl rfl rfl rfl rfl) rfl ?_
    refine ao_effS trivial (e_store rfl rfl rfl rfl Try.sizeOf29 rfl) ?_
    refine ao_read trivial (r_assign rfl) rfl ?_
    refine ao_nil ?_
    refine aq_then ?_
    refine aw_seq ?_
    refine aw_region ?_
    refine ao_read trivial (r_move rfl) rfl ?_
    refine ao_read trivial (r_move rfl) rfl ?_
    obtain ⟨r7, r7h, h⟩ := is_bind h
    refine ao_scall trivial (scall (c_impl_PlaceTable (is_mk r7h)) rfl Try.func65 rfl rfl rfl rfl (fun σ => ⟨ad_ren rfl, ad_ren rfl, trivial⟩)) rfl ?_
    refine ao_read trivial (r_move rfl) rfl ?_
    refine ao_read trivial (r_extract rfl rfl) rfl ?_
    refine ao_read trivial (r_extract rfl rfl) rfl ?_
    refine ao_eff trivial (e_alloc 4 (y := .v (.arr 31 (.int .i64)) ((List.replicate 31 0) : (List Int))) Try.zeroValue62 (fun ρ h M => ra_zero_arr (t := (.int .i64)) rfl) rfl rfl rfl rfl rfl) rfl ?_
    refine ao_effS trivial (e_store rfl rfl rfl rfl Try.sizeOf62 rfl) ?_
    refine ao_read trivial (r_assign rfl) rfl ?_
    refine ao_nil ?_
    refine aq_then ?_
    refine aw_seq ?_
    refine aw_region ?_
    refine ao_read trivial (r_move rfl) rfl ?_
    refine ao_read trivial (r_move rfl) rfl ?_
    obtain ⟨r8, r8h, h⟩ := is_bind h
    refine ao_scall trivial (scall (c_spec_PlaceTable (is_mk r8h)) rfl Try.func66 rfl rfl rfl rfl (fun σ => ⟨ad_ren rfl, ad_ren rfl, trivial⟩)) rfl ?_
    refine ao_read trivial (r_move rfl) rfl ?_
    refine ao_read trivial (r_extract rfl rfl) rfl ?_
    refine ao_read trivial (r_extract rfl rfl) rfl ?_
    refine ao_eff trivial (e_alloc 5 (y := .v (.arr 31 (.int .i64)) ((List.replicate 31 0) : (List Int))) Try.zeroValue62 (fun ρ h M => ra_zero_arr (t := (.int .i64)) rfl) rfl rfl rfl rfl rfl) rfl ?_
    refine ao_effS trivial (e_store rfl rfl rfl rfl Try.sizeOf62 rfl) ?_
    refine ao_read trivial (r_assign rfl) rfl ?_
    refine ao_nil ?_
    refine aq_then ?_
    refine aw_seq ?_
    refine aw_region ?_
    refine ao_read trivial (r_move rfl) rfl ?_
    refine ao_read trivial (r_move rfl) rfl ?_
    obtain ⟨r9, r9h, h⟩ := is_bind h
    refine ao_scall trivial (scall (c_impl_MeanPlace (is_mk r9h)) rfl Try.func67 rfl rfl rfl rfl (fun σ => ⟨ad_ren rfl, ad_ren rfl, trivial⟩)) rfl ?_
    refine ao_read trivial (r_move rfl) rfl ?_
    refine ao_read trivial (r_extract rfl rfl) rfl ?_
    refine ao_read trivial (r_extract rfl rfl) rfl ?_
    refine ao_eff trivial (e_alloc 6 (y := .v (.arr 2 (.int .i64)) ((List.replicate 2 0) : (List Int))) Try.zeroValue29 (fun ρ h M => ra_zero_arr (t := (.int .i64)) rfl) rfl rfl rfl rfl rfl) rfl ?_
    refine ao_effS trivial (e_store rfl rfl rfl rfl Try.sizeOf29 rfl) ?_
    refine ao_read trivial (r_assign rfl) rfl ?_
    refine ao_nil ?_
    refine aq_then ?_
    refine aw_seq ?_
    refine aw_region ?_
    refine ao_read trivial (r_move rfl) rfl ?_
    refine ao_read trivial (r_move rfl) rfl ?_
    obtain ⟨r10, r10h, h⟩ := is_bind h
    refine ao_scall trivial (scall (c_spec_MeanPlace (is_mk r10h)) rfl Try.func68 rfl rfl rfl rfl (fun σ => ⟨ad_ren rfl, ad_ren rfl, trivial⟩)) rfl ?_
    refine ao_read trivial (r_move rfl) rfl ?_
    refine ao_read trivial (r_extract rfl rfl) rfl ?_
    refine ao_read trivial (r_extract rfl rfl) rfl ?_
    refine ao_eff trivial (e_alloc 7 (y := .v (.arr 2 (.int .i64)) ((List.replicate 2 0) : (List Int))) Try.zeroValue29 (fun ρ h M => ra_zero_arr (t := (.int .i64)) rfl) rfl rfl rfl rfl rfl) rfl ?_
    refine ao_effS trivial (e_store rfl rfl rfl rfl Try.sizeOf29 rfl) ?_
    refine ao_read trivial (r_assign rfl) rfl ?_
    refine ao_nil ?_
    refine aq_then ?_
    refine aw_seq ?_
    refine aw_region ?_
    refine ao_read trivial (r_move rfl) rfl ?_
    obtain ⟨r11, r11h, h⟩ := is_bind h
    refine ao_call [] 8 trivial (c_laws_vCut (is_mk r11h)) Try.func16 rfl rfl rfl rfl ⟨ad_ren rfl, ad_ren rfl, trivial⟩ trivial rfl rfl rfl rfl rfl rfl rfl (fun r' H' hr => ?_)
    obtain ⟨rfl, rfl⟩ := hr
    refine ao_norm (y := .os 8) (H' := [(7, .var [.arr (.int .i64) 2 r10.1]), (6, .var [.arr (.int .i64) 2 r9.1]), (5, .var [.arr (.int .i64) 31 r8.1]), (4, .var [.arr (.int .i64) 31 r7.1]), (3, .var [.arr (.int .i64) 2 r6.1]), (2, .var [.arr (.int .i64) 2 r5.1]), (1, .var [.arr (.int .i64) 121 r4.1]), (0, .var [.arr (.int .i64) 121 r3.1]), (8, .row (.int .u8) r11)]) rfl rfl ?_
    refine row_len_o 8 (r11.length : Int) rfl rfl (fun hr12 => ?_)
    obtain ⟨r13, r13h, h⟩ := is_bind h
    refine ao_call [8] 9 trivial (c_spec_DrawDropTable (is_mk r13h)) Try.func69 rfl rfl rfl rfl ⟨ad_ren rfl, trivial⟩ ⟨⟨_, rfl, rfl⟩, trivial⟩ rfl rfl rfl rfl rfl rfl rfl (fun r' H' hr => ?_)
    obtain ⟨rfl, rfl⟩ := hr
    refine ao_norm (y := .tup [.os 9, .int .i64 r13.2]) (H' := [(7, .var [.arr (.int .i64) 2 r10.1]), (6, .var [.arr (.int .i64) 2 r9.1]), (5, .var [.arr (.int .i64) 31 r8.1]), (4, .var [.arr (.int .i64) 31 r7.1]), (3, .var [.arr (.int .i64) 2 r6.1]), (2, .var [.arr (.int .i64) 2 r5.1]), (1, .var [.arr (.int .i64) 121 r4.1]), (0, .var [.arr (.int .i64) 121 r3.1]), (9, .row (.arr 6 (.int .i64)) r13.1)]) rfl rfl ?_
    refine row_len_o 9 (r13.1.length : Int) rfl rfl (fun hr14 => ?_)
    refine ao_read trivial (r_move rfl) rfl ?_
    refine ao_read trivial (r_extract rfl rfl) rfl ?_
    refine ao_read trivial (r_extract rfl rfl) rfl ?_
    refine ao_read trivial (r_assign rfl) rfl ?_
    refine ao_read trivial (r_assign rfl) rfl ?_
    refine ao_nil ?_
    refine aq_then ?_
    refine aw_seq ?_
    refine aw_region ?_
    refine ao_read trivial (r_move rfl) rfl ?_
    refine ao_read trivial (r_move rfl) rfl ?_
    obtain ⟨r15, r15h, h⟩ := is_bind h
    refine ao_scall trivial (scall (c_impl_DropTable (is_mk r15h)) rfl Try.func70 rfl rfl rfl rfl (fun σ => ⟨ad_os0 rfl, ad_ren rfl, trivial⟩)) rfl ?_
    refine ao_read trivial (r_move rfl) rfl ?_
    refine ao_read trivial (r_extract rfl rfl) rfl ?_
    refine ao_read trivial (r_extract rfl rfl) rfl ?_
    refine ao_eff trivial (e_alloc 10 (y := .v (.arr 121 (.int .i64)) ((List.replicate 121 0) : (List Int))) Try.zeroValue50 (fun ρ h M => ra_zero_arr (t := (.int .i64)) rfl) rfl rfl rfl rfl rfl) rfl ?_
    refine ao_effS trivial (e_store rfl rfl rfl rfl Try.sizeOf50 rfl) ?_
    refine ao_read trivial (r_assign rfl) rfl ?_
    refine ao_nil ?_
    refine aq_then ?_
    refine aw_seq ?_
    refine aw_region ?_
    refine ao_read trivial (r_move rfl) rfl ?_
    refine ao_read trivial (r_move rfl) rfl ?_
    obtain ⟨r16, r16h, h⟩ := is_bind h
    refine ao_scall trivial (scall (c_spec_DropTable (is_mk r16h)) rfl Try.func71 rfl rfl rfl rfl (fun σ => ⟨ad_os0 rfl, ad_ren rfl, trivial⟩)) rfl ?_
    refine ao_read trivial (r_move rfl) rfl ?_
    refine ao_read trivial (r_extract rfl rfl) rfl ?_
    refine ao_read trivial (r_extract rfl rfl) rfl ?_
    refine ao_eff trivial (e_alloc 11 (y := .v (.arr 121 (.int .i64)) ((List.replicate 121 0) : (List Int))) Try.zeroValue50 (fun ρ h M => ra_zero_arr (t := (.int .i64)) rfl) rfl rfl rfl rfl rfl) rfl ?_
    refine ao_effS trivial (e_store rfl rfl rfl rfl Try.sizeOf50 rfl) ?_
    refine ao_read trivial (r_assign rfl) rfl ?_
    refine ao_nil ?_
    refine aq_then ?_
    refine aw_seq ?_
    refine aw_seq ?_
    refine aw_region ?_
    refine ao_read trivial (r_load_arr rfl Try.isAgg50 Try.sizeOf50 rfl rfl rfl) rfl ?_
    refine ao_read trivial (r_load_arr rfl Try.isAgg50 Try.sizeOf50 rfl rfl rfl) rfl ?_
    refine ao_read trivial (r_eq_ints Try.underlying50 Try.underlying3 Try.isAgg3 (info_size Try.sizeOf3) (by kernel_rfl) rfl rfl rfl) rfl ?_
    refine ao_read trivial (r_move rfl) rfl ?_
    refine ao_readG (x := .bool r3.2) rfl (GV.F rfl) (fun hg17 => r_move rfl) rfl ?_
    refine ao_readG (x := .bool r4.2) rfl (GV.F rfl) (fun hg18 => r_move rfl) rfl ?_
    refine ao_readG (x := .bool (r3.2 != r4.2)) rfl (GV.F rfl) (fun hg19 => Reads.strip 117 rfl (hg19) (Reads.strip 118 rfl (hg19) (r_neq_bool Try.underlying4 rfl rfl))) rfl ?_
    refine ao_read trivial (r_orB rfl rfl) rfl ?_
    refine ao_read trivial (r_move rfl) rfl ?_
    refine ao_readG (x := .v (.arr 2 (.int .i64)) r5.1) rfl (GV.F rfl) (fun hg20 => by
          obtain ⟨q21, q22⟩ := or_f (not_t hg20)
          exact r_load_arr rfl Try.isAgg29 Try.sizeOf29 rfl rfl rfl) rfl ?_
    refine ao_readG (x := .v (.arr 2 (.int .i64)) r6.1) rfl (GV.F rfl) (fun hg23 => by
          obtain ⟨q24, q25⟩ := or_f (not_t hg23)
          exact r_load_arr rfl Try.isAgg29 Try.sizeOf29 rfl rfl rfl) rfl ?_
    refine ao_readG (x := .bool (!(decide (r5.1 = r6.1)))) rfl (GV.F rfl) (fun hg26 => by
          obtain ⟨q27, q28⟩ := or_f (not_t hg26)
          exact Reads.strip 122 rfl (hg26) (Reads.strip 123 rfl (hg26) (r_eq_ints Try.underlying29 Try.underlying3 Try.isAgg3 (info_size Try.sizeOf3) (by kernel_rfl) rfl rfl rfl))) rfl ?_
    refine ao_read trivial (r_orB rfl rfl) rfl ?_
    refine ao_read trivial (r_move rfl) rfl ?_
    refine ao_readG (x := .bool r5.2) rfl (GV.F rfl) (fun hg29 => by
          obtain ⟨q30, q31⟩ := or_f (not_t hg29)
          obtain ⟨q32, q33⟩ := or_f q30
          exact r_move rfl) rfl ?_
    refine ao_readG (x := .bool r6.2) rfl (GV.F rfl) (fun hg34 => by
          obtain ⟨q35, q36⟩ := or_f (not_t hg34)
          obtain ⟨q37, q38⟩ := or_f q35
          exact r_move rfl) rfl ?_
    refine ao_readG (x := .bool (r5.2 != r6.2)) rfl (GV.F rfl) (fun hg39 => by
          obtain ⟨q40, q41⟩ := or_f (not_t hg39)
          obtain ⟨q42, q43⟩ := or_f q40
          exact Reads.strip 127 rfl (hg39) (Reads.strip 128 rfl (hg39) (r_neq_bool Try.underlying4 rfl rfl))) rfl ?_
    refine ao_read trivial (r_orB rfl rfl) rfl ?_
    refine ao_read trivial (r_move rfl) rfl ?_
    refine ao_readG (x := .v (.arr 31 (.int .i64)) r7.1) rfl (GV.F rfl) (fun hg44 => by
          obtain ⟨q45, q46⟩ := or_f (not_t hg44)
          obtain ⟨q47, q48⟩ := or_f q45
          obtain ⟨q49, q50⟩ := or_f q47
          exact r_load_arr rfl Try.isAgg62 Try.sizeOf62 rfl rfl rfl) rfl ?_
    refine ao_readG (x := .v (.arr 31 (.int .i64)) r8.1) rfl (GV.F rfl) (fun hg51 => by
          obtain ⟨q52, q53⟩ := or_f (not_t hg51)
          obtain ⟨q54, q55⟩ := or_f q52
          obtain ⟨q56, q57⟩ := or_f q54
          exact r_load_arr rfl Try.isAgg62 Try.sizeOf62 rfl rfl rfl) rfl ?_
    refine ao_readG (x := .bool (!(decide (r7.1 = r8.1)))) rfl (GV.F rfl) (fun hg58 => by
          obtain ⟨q59, q60⟩ := or_f (not_t hg58)
          obtain ⟨q61, q62⟩ := or_f q59
          obtain ⟨q63, q64⟩ := or_f q61
          exact Reads.strip 132 rfl (hg58) (Reads.strip 133 rfl (hg58) (r_eq_ints Try.underlying62 Try.underlying3 Try.isAgg3 (info_size Try.sizeOf3) (by kernel_rfl) rfl rfl rfl))) rfl ?_
    refine ao_read trivial (r_orB rfl rfl) rfl ?_
    refine ao_read trivial (r_move rfl) rfl ?_
    refine ao_readG (x := .bool r7.2) rfl (GV.F rfl) (fun hg65 => by
          obtain ⟨q66, q67⟩ := or_f (not_t hg65)
          obtain ⟨q68, q69⟩ := or_f q66
          obtain ⟨q70, q71⟩ := or_f q68
          obtain ⟨q72, q73⟩ := or_f q70
          exact r_move rfl) rfl ?_
    refine ao_readG (x := .bool r8.2) rfl (GV.F rfl) (fun hg74 => by
          obtain ⟨q75, q76⟩ := or_f (not_t hg74)
          obtain ⟨q77, q78⟩ := or_f q75
          obtain ⟨q79, q80⟩ := or_f q77
          obtain ⟨q81, q82⟩ := or_f q79
          exact r_move rfl) rfl ?_
    refine ao_readG (x := .bool (r7.2 != r8.2)) rfl (GV.F rfl) (fun hg83 => by
          obtain ⟨q84, q85⟩ := or_f (not_t hg83)
          obtain ⟨q86, q87⟩ := or_f q84
          obtain ⟨q88, q89⟩ := or_f q86
          obtain ⟨q90, q91⟩ := or_f q88
          exact Reads.strip 137 rfl (hg83) (Reads.strip 138 rfl (hg83) (r_neq_bool Try.underlying4 rfl rfl))) rfl ?_
    refine ao_read trivial (r_orB rfl rfl) rfl ?_
    refine ao_read trivial (r_move rfl) rfl ?_
    refine ao_readG (x := .v (.arr 2 (.int .i64)) r9.1) rfl (GV.F rfl) (fun hg92 => by
          obtain ⟨q93, q94⟩ := or_f (not_t hg92)
          obtain ⟨q95, q96⟩ := or_f q93
          obtain ⟨q97, q98⟩ := or_f q95
          obtain ⟨q99, q100⟩ := or_f q97
          obtain ⟨q101, q102⟩ := or_f q99
          exact r_load_arr rfl Try.isAgg29 Try.sizeOf29 rfl rfl rfl) rfl ?_
    refine ao_readG (x := .v (.arr 2 (.int .i64)) r10.1) rfl (GV.F rfl) (fun hg103 => by
          obtain ⟨q104, q105⟩ := or_f (not_t hg103)
          obtain ⟨q106, q107⟩ := or_f q104
          obtain ⟨q108, q109⟩ := or_f q106
          obtain ⟨q110, q111⟩ := or_f q108
          obtain ⟨q112, q113⟩ := or_f q110
          exact r_load_arr rfl Try.isAgg29 Try.sizeOf29 rfl rfl rfl) rfl ?_
    refine ao_readG (x := .bool (!(decide (r9.1 = r10.1)))) rfl (GV.F rfl) (fun hg114 => by
          obtain ⟨q115, q116⟩ := or_f (not_t hg114)
          obtain ⟨q117, q118⟩ := or_f q115
          obtain ⟨q119, q120⟩ := or_f q117
          obtain ⟨q121, q122⟩ := or_f q119
          obtain ⟨q123, q124⟩ := or_f q121
          exact Reads.strip 142 rfl (hg114) (Reads.strip 143 rfl (hg114) (r_eq_ints Try.underlying29 Try.underlying3 Try.isAgg3 (info_size Try.sizeOf3) (by kernel_rfl) rfl rfl rfl))) rfl ?_
    refine ao_read trivial (r_orB rfl rfl) rfl ?_
    refine ao_read trivial (r_move rfl) rfl ?_
    refine ao_readG (x := .bool r9.2) rfl (GV.F rfl) (fun hg125 => by
          obtain ⟨q126, q127⟩ := or_f (not_t hg125)
          obtain ⟨q128, q129⟩ := or_f q126
          obtain ⟨q130, q131⟩ := or_f q128
          obtain ⟨q132, q133⟩ := or_f q130
          obtain ⟨q134, q135⟩ := or_f q132
          obtain ⟨q136, q137⟩ := or_f q134
          exact r_move rfl) rfl ?_
    refine ao_readG (x := .bool r10.2) rfl (GV.F rfl) (fun hg138 => by
          obtain ⟨q139, q140⟩ := or_f (not_t hg138)
          obtain ⟨q141, q142⟩ := or_f q139
          obtain ⟨q143, q144⟩ := or_f q141
          obtain ⟨q145, q146⟩ := or_f q143
          obtain ⟨q147, q148⟩ := or_f q145
          obtain ⟨q149, q150⟩ := or_f q147
          exact r_move rfl) rfl ?_
    refine ao_readG (x := .bool (r9.2 != r10.2)) rfl (GV.F rfl) (fun hg151 => by
          obtain ⟨q152, q153⟩ := or_f (not_t hg151)
          obtain ⟨q154, q155⟩ := or_f q152
          obtain ⟨q156, q157⟩ := or_f q154
          obtain ⟨q158, q159⟩ := or_f q156
          obtain ⟨q160, q161⟩ := or_f q158
          obtain ⟨q162, q163⟩ := or_f q160
          exact Reads.strip 147 rfl (hg151) (Reads.strip 148 rfl (hg151) (r_neq_bool Try.underlying4 rfl rfl))) rfl ?_
    refine ao_read trivial (r_orB rfl rfl) rfl ?_
    refine ao_read trivial (r_move rfl) rfl ?_
    refine ao_readG (x := .v (.arr 121 (.int .i64)) r15.1) rfl (GV.F rfl) (fun hg164 => by
          obtain ⟨q165, q166⟩ := or_f (not_t hg164)
          obtain ⟨q167, q168⟩ := or_f q165
          obtain ⟨q169, q170⟩ := or_f q167
          obtain ⟨q171, q172⟩ := or_f q169
          obtain ⟨q173, q174⟩ := or_f q171
          obtain ⟨q175, q176⟩ := or_f q173
          obtain ⟨q177, q178⟩ := or_f q175
          exact r_load_arr rfl Try.isAgg50 Try.sizeOf50 rfl rfl rfl) rfl ?_
    refine ao_readG (x := .v (.arr 121 (.int .i64)) r16.1) rfl (GV.F rfl) (fun hg179 => by
          obtain ⟨q180, q181⟩ := or_f (not_t hg179)
          obtain ⟨q182, q183⟩ := or_f q180
          obtain ⟨q184, q185⟩ := or_f q182
          obtain ⟨q186, q187⟩ := or_f q184
          obtain ⟨q188, q189⟩ := or_f q186
          obtain ⟨q190, q191⟩ := or_f q188
          obtain ⟨q192, q193⟩ := or_f q190
          exact r_load_arr rfl Try.isAgg50 Try.sizeOf50 rfl rfl rfl) rfl ?_
    refine ao_readG (x := .bool (!(decide (r15.1 = r16.1)))) rfl (GV.F rfl) (fun hg194 => by
          obtain ⟨q195, q196⟩ := or_f (not_t hg194)
          obtain ⟨q197, q198⟩ := or_f q195
          obtain ⟨q199, q200⟩ := or_f q197
          obtain ⟨q201, q202⟩ := or_f q199
          obtain ⟨q203, q204⟩ := or_f q201
          obtain ⟨q205, q206⟩ := or_f q203
          obtain ⟨q207, q208⟩ := or_f q205
          exact Reads.strip 152 rfl (hg194) (Reads.strip 153 rfl (hg194) (r_eq_ints Try.underlying50 Try.underlying3 Try.isAgg3 (info_size Try.sizeOf3) (by kernel_rfl) rfl rfl rfl))) rfl ?_
    refine ao_read trivial (r_orB rfl rfl) rfl ?_
    refine ao_read trivial (r_move rfl) rfl ?_
    refine ao_readG (x := .bool r15.2) rfl (GV.F rfl) (fun hg209 => by
          obtain ⟨q210, q211⟩ := or_f (not_t hg209)
          obtain ⟨q212, q213⟩ := or_f q210
          obtain ⟨q214, q215⟩ := or_f q212
          obtain ⟨q216, q217⟩ := or_f q214
          obtain ⟨q218, q219⟩ := or_f q216
          obtain ⟨q220, q221⟩ := or_f q218
          obtain ⟨q222, q223⟩ := or_f q220
          obtain ⟨q224, q225⟩ := or_f q222
          exact r_move rfl) rfl ?_
    refine ao_readG (x := .bool r16.2) rfl (GV.F rfl) (fun hg226 => by
          obtain ⟨q227, q228⟩ := or_f (not_t hg226)
          obtain ⟨q229, q230⟩ := or_f q227
          obtain ⟨q231, q232⟩ := or_f q229
          obtain ⟨q233, q234⟩ := or_f q231
          obtain ⟨q235, q236⟩ := or_f q233
          obtain ⟨q237, q238⟩ := or_f q235
          obtain ⟨q239, q240⟩ := or_f q237
          obtain ⟨q241, q242⟩ := or_f q239
          exact r_move rfl) rfl ?_
    refine ao_readG (x := .bool (r15.2 != r16.2)) rfl (GV.F rfl) (fun hg243 => by
          obtain ⟨q244, q245⟩ := or_f (not_t hg243)
          obtain ⟨q246, q247⟩ := or_f q244
          obtain ⟨q248, q249⟩ := or_f q246
          obtain ⟨q250, q251⟩ := or_f q248
          obtain ⟨q252, q253⟩ := or_f q250
          obtain ⟨q254, q255⟩ := or_f q252
          obtain ⟨q256, q257⟩ := or_f q254
          obtain ⟨q258, q259⟩ := or_f q256
          exact Reads.strip 157 rfl (hg243) (Reads.strip 158 rfl (hg243) (r_neq_bool Try.underlying4 rfl rfl))) rfl ?_
    refine ao_read trivial (r_orB rfl rfl) rfl ?_
    refine ao_read trivial (r_move rfl) rfl ?_
    refine ao_readG (x := .bool r3.2) rfl (GV.F rfl) (fun hg260 => by
          obtain ⟨q261, q262⟩ := or_f (not_t hg260)
          obtain ⟨q263, q264⟩ := or_f q261
          obtain ⟨q265, q266⟩ := or_f q263
          obtain ⟨q267, q268⟩ := or_f q265
          obtain ⟨q269, q270⟩ := or_f q267
          obtain ⟨q271, q272⟩ := or_f q269
          obtain ⟨q273, q274⟩ := or_f q271
          obtain ⟨q275, q276⟩ := or_f q273
          obtain ⟨q277, q278⟩ := or_f q275
          exact r_move rfl) rfl ?_
    refine ao_readG (x := .bool r5.2) rfl (GV.F rfl) (fun hg279 => by
          obtain ⟨q280, q281⟩ := or_f (not_t hg279)
          obtain ⟨q282, q283⟩ := or_f q280
          obtain ⟨q284, q285⟩ := or_f q282
          obtain ⟨q286, q287⟩ := or_f q284
          obtain ⟨q288, q289⟩ := or_f q286
          obtain ⟨q290, q291⟩ := or_f q288
          obtain ⟨q292, q293⟩ := or_f q290
          obtain ⟨q294, q295⟩ := or_f q292
          obtain ⟨q296, q297⟩ := or_f q294
          exact r_move rfl) rfl ?_
    refine ao_readG (x := .bool (r3.2 != r5.2)) rfl (GV.F rfl) (fun hg298 => by
          obtain ⟨q299, q300⟩ := or_f (not_t hg298)
          obtain ⟨q301, q302⟩ := or_f q299
          obtain ⟨q303, q304⟩ := or_f q301
          obtain ⟨q305, q306⟩ := or_f q303
          obtain ⟨q307, q308⟩ := or_f q305
          obtain ⟨q309, q310⟩ := or_f q307
          obtain ⟨q311, q312⟩ := or_f q309
          obtain ⟨q313, q314⟩ := or_f q311
          obtain ⟨q315, q316⟩ := or_f q313
          exact Reads.strip 162 rfl (hg298) (Reads.strip 163 rfl (hg298) (r_neq_bool Try.underlying4 rfl rfl))) rfl ?_
    refine ao_read trivial (r_orB rfl rfl) rfl ?_
    refine ao_read trivial (r_move rfl) rfl ?_
    refine ao_readG (x := .bool r3.2) rfl (GV.F rfl) (fun hg317 => by
          obtain ⟨q318, q319⟩ := or_f (not_t hg317)
          obtain ⟨q320, q321⟩ := or_f q318
          obtain ⟨q322, q323⟩ := or_f q320
          obtain ⟨q324, q325⟩ := or_f q322
          obtain ⟨q326, q327⟩ := or_f q324
          obtain ⟨q328, q329⟩ := or_f q326
          obtain ⟨q330, q331⟩ := or_f q328
          obtain ⟨q332, q333⟩ := or_f q330
          obtain ⟨q334, q335⟩ := or_f q332
          obtain ⟨q336, q337⟩ := or_f q334
          exact r_move rfl) rfl ?_
    refine ao_readG (x := .bool r7.2) rfl (GV.F rfl) (fun hg338 => by
          obtain ⟨q339, q340⟩ := or_f (not_t hg338)
          obtain ⟨q341, q342⟩ := or_f q339
          obtain ⟨q343, q344⟩ := or_f q341
          obtain ⟨q345, q346⟩ := or_f q343
          obtain ⟨q347, q348⟩ := or_f q345
          obtain ⟨q349, q350⟩ := or_f q347
          obtain ⟨q351, q352⟩ := or_f q349
          obtain ⟨q353, q354⟩ := or_f q351
          obtain ⟨q355, q356⟩ := or_f q353
          obtain ⟨q357, q358⟩ := or_f q355
          exact r_move rfl) rfl ?_
    refine ao_readG (x := .bool (r3.2 != r7.2)) rfl (GV.F rfl) (fun hg359 => by
          obtain ⟨q360, q361⟩ := or_f (not_t hg359)
          obtain ⟨q362, q363⟩ := or_f q360
          obtain ⟨q364, q365⟩ := or_f q362
          obtain ⟨q366, q367⟩ := or_f q364
          obtain ⟨q368, q369⟩ := or_f q366
          obtain ⟨q370, q371⟩ := or_f q368
          obtain ⟨q372, q373⟩ := or_f q370
          obtain ⟨q374, q375⟩ := or_f q372
          obtain ⟨q376, q377⟩ := or_f q374
          obtain ⟨q378, q379⟩ := or_f q376
          exact Reads.strip 167 rfl (hg359) (Reads.strip 168 rfl (hg359) (r_neq_bool Try.underlying4 rfl rfl))) rfl ?_
    refine ao_read trivial (r_orB rfl rfl) rfl ?_
    refine ao_read trivial (r_move rfl) rfl ?_
    refine ao_readG (x := .bool r3.2) rfl (GV.F rfl) (fun hg380 => by
          obtain ⟨q381, q382⟩ := or_f (not_t hg380)
          obtain ⟨q383, q384⟩ := or_f q381
          obtain ⟨q385, q386⟩ := or_f q383
          obtain ⟨q387, q388⟩ := or_f q385
          obtain ⟨q389, q390⟩ := or_f q387
          obtain ⟨q391, q392⟩ := or_f q389
          obtain ⟨q393, q394⟩ := or_f q391
          obtain ⟨q395, q396⟩ := or_f q393
          obtain ⟨q397, q398⟩ := or_f q395
          obtain ⟨q399, q400⟩ := or_f q397
          obtain ⟨q401, q402⟩ := or_f q399
          exact r_move rfl) rfl ?_
    refine ao_readG (x := .bool r9.2) rfl (GV.F rfl) (fun hg403 => by
          obtain ⟨q404, q405⟩ := or_f (not_t hg403)
          obtain ⟨q406, q407⟩ := or_f q404
          obtain ⟨q408, q409⟩ := or_f q406
          obtain ⟨q410, q411⟩ := or_f q408
          obtain ⟨q412, q413⟩ := or_f q410
          obtain ⟨q414, q415⟩ := or_f q412
          obtain ⟨q416, q417⟩ := or_f q414
          obtain ⟨q418, q419⟩ := or_f q416
          obtain ⟨q420, q421⟩ := or_f q418
          obtain ⟨q422, q423⟩ := or_f q420
          obtain ⟨q424, q425⟩ := or_f q422
          exact r_move rfl) rfl ?_
    refine ao_readG (x := .bool (r3.2 != r9.2)) rfl (GV.F rfl) (fun hg426 => by
          obtain ⟨q427, q428⟩ := or_f (not_t hg426)
          obtain ⟨q429, q430⟩ := or_f q427
          obtain ⟨q431, q432⟩ := or_f q429
          obtain ⟨q433, q434⟩ := or_f q431
          obtain ⟨q435, q436⟩ := or_f q433
          obtain ⟨q437, q438⟩ := or_f q435
          obtain ⟨q439, q440⟩ := or_f q437
          obtain ⟨q441, q442⟩ := or_f q439
          obtain ⟨q443, q444⟩ := or_f q441
          obtain ⟨q445, q446⟩ := or_f q443
          obtain ⟨q447, q448⟩ := or_f q445
          exact Reads.strip 172 rfl (hg426) (Reads.strip 173 rfl (hg426) (r_neq_bool Try.underlying4 rfl rfl))) rfl ?_
    refine ao_read trivial (r_orB rfl rfl) rfl ?_
    refine ao_nil ?_
    refine aq_then ?_
    refine aw_cond rfl (fun hb449 => ?_) (fun hb449 => ?_)
    · replace h := is_if hb449 h
      refine aw_seq ?_
      refine aw_region ?_
      refine ao_read trivial (r_assign rfl) rfl ?_
      refine ao_nil ?_
      refine aq_then ?_
      refine aw_ret ?_
      refine aq_then_ret ?_
      refine aq_ret ?_
      obtain rfl := is_some h
      exact aq_finx (l := [.tmp 2]) (xs := [.bool false]) idn [.bool false] [] rfl (by exact ⟨rfl, trivial⟩) (by exact ⟨ad_ren rfl, trivial⟩) (by exact trivial) rfl (nk rfl) rfl rfl ⟨rfl, rfl⟩
    · obtain ⟨q450, q451⟩ := or_f hb449
      obtain ⟨q452, q453⟩ := or_f q450
      obtain ⟨q454, q455⟩ := or_f q452
      obtain ⟨q456, q457⟩ := or_f q454
      obtain ⟨q458, q459⟩ := or_f q456
      obtain ⟨q460, q461⟩ := or_f q458
      obtain ⟨q462, q463⟩ := or_f q460
      obtain ⟨q464, q465⟩ := or_f q462
      obtain ⟨q466, q467⟩ := or_f q464
      obtain ⟨q468, q469⟩ := or_f q466
      obtain ⟨q470, q471⟩ := or_f q468
      obtain ⟨q472, q473⟩ := or_f q470
      replace h := is_else (ne_t hb449) h
      refine aw_skip ?_
      refine aq_then ?_
      refine aw_join (fun (s474 : Unit) => [(3, .v (.slice (.arr 6 (.int .i64))) r2.1), (4, .int .i64 r2.2), (5, .ref 0 0), (6, .bool r3.2), (9, .ref 1 0), (13, .ref 2 0), (17, .ref 3 0)]) (fun (s474 : Unit) => [(0, .var [.arr (.int .i64) 121 r3.1]), (1, .var [.arr (.int .i64) 2 r5.1]), (2, .var [.arr (.int .i64) 31 r7.1]), (3, .var [.arr (.int .i64) 2 r9.1])]) (fun (s474 : Unit) => True) h (fun s474 hI h => ?_) (fun h j476 => ?_)
      · refine aw_seq ?_
        refine aw_seq ?_
        refine aw_region ?_
        refine ao_read trivial (r_move rfl) rfl ?_
        refine ao_read trivial (r_not rfl) rfl ?_
        refine ao_nil ?_
        refine aq_then ?_
        refine aw_cond rfl (fun hb477 => ?_) (fun hb477 => ?_)
        · replace h := is_else (ne_t (not_t hb477)) h
          refine aw_seq ?_
          refine aw_region ?_
          refine ao_read trivial (r_assign rfl) rfl ?_
          refine ao_nil ?_
          refine aq_then ?_
          refine aw_ret ?_
          refine aq_then_ret ?_
          refine aq_ret ?_
          obtain rfl := is_some h
          exact aq_finx (l := [.tmp 2]) (xs := [.bool true]) idn [.bool true] [] rfl (by exact ⟨rfl, trivial⟩) (by exact ⟨ad_ren rfl, trivial⟩) (by exact trivial) rfl (nk rfl) rfl rfl ⟨rfl, rfl⟩
        · replace h := is_if (not_f hb477) h
          refine aw_skip ?_
          refine aq_then ?_
          refine aw_seq ?_
          refine aw_region ?_
          refine ao_read trivial (r_assign rfl) rfl ?_
          refine ao_read trivial (r_assign rfl) rfl ?_
          refine ao_read trivial (r_assign rfl) rfl ?_
          refine ao_nil ?_
          refine aq_then ?_
          refine aw_seq ?_
          refine aw_seq ?_
          refine aw_region ?_
          refine ao_read trivial (r_assign rfl) rfl ?_
          refine ao_nil ?_
          refine aq_then ?_
          refine aw_block ?_
          refine aw_loop (AL.sub (fr' := [(3, .v (.slice (.arr 6 (.int .i64))) r2.1), (4, .int .i64 r2.2), (5, .ref 0 0), (9, .ref 1 0), (13, .ref 2 0), (17, .ref 3 0), (29, .int .i64 0), (30, .int .i64 0), (31, .int .i64 0), (32, .int .i64 0)]) (H' := [(0, .var [.arr (.int .i64) 121 r3.1]), (1, .var [.arr (.int .i64) 2 r5.1]), (2, .var [.arr (.int .i64) 31 r7.1]), (3, .var [.arr (.int .i64) 2 r9.1])]) (sub_mk idn (by exact ⟨⟨_, rfl, ad_ren rfl⟩, ⟨_, rfl, ad_ren rfl⟩, ⟨_, rfl, ad_ren rfl⟩, ⟨_, rfl, ad_ren rfl⟩, ⟨_, rfl, ad_ren rfl⟩, ⟨_, rfl, ad_ren rfl⟩, ⟨_, rfl, ad_ren rfl⟩, ⟨_, rfl, ad_ren rfl⟩, ⟨_, rfl, ad_ren rfl⟩, ⟨_, rfl, ad_ren rfl⟩, trivial⟩) (by exact ⟨⟨_, rfl, ⟨rfl, trivial⟩⟩, ⟨_, rfl, ⟨rfl, trivial⟩⟩, ⟨_, rfl, ⟨rfl, trivial⟩⟩, ⟨_, rfl, ⟨rfl, trivial⟩⟩, trivial⟩) (by rfl) (nk rfl)) (al_cnt (fun i479 (s478 : Int × Int) => [(3, .v (.slice (.arr 6 (.int .i64))) r2.1), (4, .int .i64 r2.2), (5, .ref 0 0), (9, .ref 1 0), (13, .ref 2 0), (17, .ref 3 0), (29, .int .i64 s478.1), (30, .int .i64 s478.2), (31, .int .i64 0), (32, .int .i64 i479)]) (fun i479 (s478 : Int × Int) => [(0, .var [.arr (.int .i64) 121 r3.1]), (1, .var [.arr (.int .i64) 2 r5.1]), (2, .var [.arr (.int .i64) 31 r7.1]), (3, .var [.arr (.int .i64) 2 r9.1])]) (fun d i479 (s478 : Int × Int) => d = Int.toNat (121 - i479) ∧ 0 ≤ i479 ∧ i479 ≤ 121) h ⟨rfl, (by (try simp only [List.length_set, List.length_append, List.length_cons, List.length_nil, List.length_replicate, List.length_take, List.length_drop]) <;> omega), (by (try simp only [List.length_set, List.length_append, List.length_cons, List.length_nil, List.length_replicate, List.length_take, List.length_drop]) <;> omega)⟩ (fun d480 i479 s478 hI h ih480 => ?_)))
          obtain ⟨hd, _, _⟩ := hI
          refine al_round ?_
          refine aw_seq ?_
          refine aw_seq ?_
          refine aw_region ?_
          refine ao_read trivial (r_move rfl) rfl ?_
          refine ao_read trivial (r_lss rfl rfl) rfl ?_
          refine ao_nil ?_
          refine aq_then ?_
          refine aw_cond rfl (fun hb482 => ?_) (fun hb482 => ?_)
          · have q483 := d_t hb482
            obtain ⟨d480, rfl⟩ : ∃ e, d480 = e + 1 := ⟨d480 - 1, by omega⟩
            replace h := is_cntS h
            refine aw_skip ?_
            refine aq_then ?_
            refine aw_seq ?_
            refine aw_block ?_
            refine aw_seq ?_
            refine aw_region ?_
            refine ao_read trivial (r_move rfl) rfl ?_
            refine ao_read trivial (r_move rfl) rfl ?_
            refine ao_read trivial (r_idxAddr_arr (i := i479) Try.underlying50 Try.sizeOf3 rfl rfl (show 0 ≤ i479 from by omega) (show i479 < (121 : Int) from by omega)) rfl ?_
            refine ao_read trivial (r_load_elema_int Try.isAgg3 Try.sizeOf3 rfl rfl rfl (show i479.toNat < 121 from by omega)) rfl ?_
            refine ao_read trivial (r_add rfl rfl) rfl ?_
            refine ao_read trivial (r_assign rfl) rfl ?_
            refine ao_nil ?_
            refine aq_then ?_
            refine aw_region ?_
            refine ao_read trivial (r_move rfl) rfl ?_
            refine ao_read trivial (r_move rfl) rfl ?_
            refine ao_read trivial (r_move rfl) rfl ?_
            refine ao_read trivial (r_idxAddr_arr (i := i479) Try.underlying50 Try.sizeOf3 rfl rfl (show 0 ≤ i479 from by omega) (show i479 < (121 : Int) from by omega)) rfl ?_
            refine ao_read trivial (r_load_elema_int Try.isAgg3 Try.sizeOf3 rfl rfl rfl (show i479.toNat < 121 from by omega)) rfl ?_
            refine ao_read trivial (r_mul rfl rfl) rfl ?_
            refine ao_read trivial (r_add rfl rfl) rfl ?_
            refine ao_read trivial (r_assign rfl) rfl ?_
            refine ao_nil ?_
            refine aq_in ?_
            refine aq_then ?_
            refine aw_region ?_
            refine ao_read trivial (r_move rfl) rfl ?_
            refine ao_read trivial (r_addI rfl rfl (wrap_id (by omega) (by omega))) rfl ?_
            refine ao_read trivial (r_assign rfl) rfl ?_
            refine ao_nil ?_
            exact aq_again (AL.sub (sub_mk idn (by exact ⟨⟨_, rfl, ad_ren rfl⟩, ⟨_, rfl, ad_ren rfl⟩, ⟨_, rfl, ad_ren rfl⟩, ⟨_, rfl, ad_ren rfl⟩, ⟨_, rfl, ad_ren rfl⟩, ⟨_, rfl, ad_ren rfl⟩, ⟨_, rfl, ad_ren rfl⟩, ⟨_, rfl, ad_ren rfl⟩, ⟨_, rfl, ad_ren rfl⟩, ⟨_, rfl, ad_ren rfl⟩, trivial⟩) (by exact ⟨⟨_, rfl, ⟨rfl, trivial⟩⟩, ⟨_, rfl, ⟨rfl, trivial⟩⟩, ⟨_, rfl, ⟨rfl, trivial⟩⟩, ⟨_, rfl, ⟨rfl, trivial⟩⟩, trivial⟩) (by rfl) (nk rfl)) (ih480 d480 (i479 + 1) ((IntKind.wrap .i64 (s478.1 + (r3.1.getD i479.toNat 0))), (IntKind.wrap .i64 (s478.2 + (IntKind.wrap .i64 (i479 * (r3.1.getD i479.toNat 0)))))) (by omega) ⟨by omega, (by (try simp only [List.length_set, List.length_append, List.length_cons, List.length_nil, List.length_replicate, List.length_take, List.length_drop]) <;> omega), (by (try simp only [List.length_set, List.length_append, List.length_cons, List.length_nil, List.length_replicate, List.length_take, List.length_drop]) <;> omega)⟩ h))
          · have q484 := d_f hb482
            obtain rfl : d480 = 0 := by omega
            replace h := is_cnt0 h
            refine aw_exit ?_
            refine aq_then_exit ?_
            refine aq_then_exit ?_
            refine aq_in_exit ?_
            refine aq_then ?_
            refine aw_seq ?_
            refine aw_seq ?_
            refine aw_region ?_
            refine ao_read trivial (r_assign rfl) rfl ?_
            refine ao_nil ?_
            refine aq_then ?_
            refine aw_block ?_
            refine aw_loop (AL.sub (fr' := [(3, .v (.slice (.arr 6 (.int .i64))) r2.1), (4, .int .i64 r2.2), (5, .ref 0 0), (9, .ref 1 0), (13, .ref 2 0), (17, .ref 3 0), (29, .int .i64 s478.1), (30, .int .i64 s478.2), (31, .int .i64 0), (33, .int .i64 0)]) (H' := [(0, .var [.arr (.int .i64) 121 r3.1]), (1, .var [.arr (.int .i64) 2 r5.1]), (2, .var [.arr (.int .i64) 31 r7.1]), (3, .var [.arr (.int .i64) 2 r9.1])]) (sub_mk idn (by exact ⟨⟨_, rfl, ad_ren rfl⟩, ⟨_, rfl, ad_ren rfl⟩, ⟨_, rfl, ad_ren rfl⟩, ⟨_, rfl, ad_ren rfl⟩, ⟨_, rfl, ad_ren rfl⟩, ⟨_, rfl, ad_ren rfl⟩, ⟨_, rfl, ad_ren rfl⟩, ⟨_, rfl, ad_ren rfl⟩, ⟨_, rfl, ad_ren rfl⟩, ⟨_, rfl, ad_ren rfl⟩, trivial⟩) (by exact ⟨⟨_, rfl, ⟨rfl, trivial⟩⟩, ⟨_, rfl, ⟨rfl, trivial⟩⟩, ⟨_, rfl, ⟨rfl, trivial⟩⟩, ⟨_, rfl, ⟨rfl, trivial⟩⟩, trivial⟩) (by rfl) (nk rfl)) (al_cnt (fun i486 (s485 : Int) => [(3, .v (.slice (.arr 6 (.int .i64))) r2.1), (4, .int .i64 r2.2), (5, .ref 0 0), (9, .ref 1 0), (13, .ref 2 0), (17, .ref 3 0), (29, .int .i64 s478.1), (30, .int .i64 s478.2), (31, .int .i64 s485), (33, .int .i64 i486)]) (fun i486 (s485 : Int) => [(0, .var [.arr (.int .i64) 121 r3.1]), (1, .var [.arr (.int .i64) 2 r5.1]), (2, .var [.arr (.int .i64) 31 r7.1]), (3, .var [.arr (.int .i64) 2 r9.1])]) (fun d i486 (s485 : Int) => d = Int.toNat (31 - i486) ∧ 0 ≤ i486 ∧ i486 ≤ 31) h ⟨rfl, (by (try simp only [List.length_set, List.length_append, List.length_cons, List.length_nil, List.length_replicate, List.length_take, List.length_drop]) <;> omega), (by (try simp only [List.length_set, List.length_append, List.length_cons, List.length_nil, List.length_replicate, List.length_take, List.length_drop]) <;> omega)⟩ (fun d487 i486 s485 hI h ih487 => ?_)))
            obtain ⟨hd, _, _⟩ := hI
            refine al_round ?_
            refine aw_seq ?_
            refine aw_seq ?_
            refine aw_region ?_
            refine ao_read trivial (r_move rfl) rfl ?_
            refine ao_read trivial (r_lss rfl rfl) rfl ?_
            refine ao_nil ?_
            refine aq_then ?_
            refine aw_cond rfl (fun hb489 => ?_) (fun hb489 => ?_)
            · have q490 := d_t hb489
              obtain ⟨d487, rfl⟩ : ∃ e, d487 = e + 1 := ⟨d487 - 1, by omega⟩
              replace h := is_cntS h
              refine aw_skip ?_
              refine aq_then ?_
              refine aw_seq ?_
              refine aw_block ?_
              refine aw_region ?_
              refine ao_read trivial (r_move rfl) rfl ?_
              refine ao_read trivial (r_move rfl) rfl ?_
              refine ao_read trivial (r_idxAddr_arr (i := i486) Try.underlying62 Try.sizeOf3 rfl rfl (show 0 ≤ i486 from by omega) (show i486 < (31 : Int) from by omega)) rfl ?_
              refine ao_read trivial (r_load_elema_int Try.isAgg3 Try.sizeOf3 rfl rfl rfl (show i486.toNat < 31 from by omega)) rfl ?_
              refine ao_read trivial (r_add rfl rfl) rfl ?_
              refine ao_read trivial (r_assign rfl) rfl ?_
              refine ao_nil ?_
              refine aq_in ?_
              refine aq_then ?_
              refine aw_region ?_
              refine ao_read trivial (r_move rfl) rfl ?_
              refine ao_read trivial (r_addI rfl rfl (wrap_id (by omega) (by omega))) rfl ?_
              refine ao_read trivial (r_assign rfl) rfl ?_
              refine ao_nil ?_
              exact aq_again (AL.sub (sub_mk idn (by exact ⟨⟨_, rfl, ad_ren rfl⟩, ⟨_, rfl, ad_ren rfl⟩, ⟨_, rfl, ad_ren rfl⟩, ⟨_, rfl, ad_ren rfl⟩, ⟨_, rfl, ad_ren rfl⟩, ⟨_, rfl, ad_ren rfl⟩, ⟨_, rfl, ad_ren rfl⟩, ⟨_, rfl, ad_ren rfl⟩, ⟨_, rfl, ad_ren rfl⟩, ⟨_, rfl, ad_ren rfl⟩, trivial⟩) (by exact ⟨⟨_, rfl, ⟨rfl, trivial⟩⟩, ⟨_, rfl, ⟨rfl, trivial⟩⟩, ⟨_, rfl, ⟨rfl, trivial⟩⟩, ⟨_, rfl, ⟨rfl, trivial⟩⟩, trivial⟩) (by rfl) (nk rfl)) (ih487 d487 (i486 + 1) (IntKind.wrap .i64 (s485 + (r7.1.getD i486.toNat 0))) (by omega) ⟨by omega, (by (try simp only [List.length_set, List.length_append, List.length_cons, List.length_nil, List.length_replicate, List.length_take, List.length_drop]) <;> omega), (by (try simp only [List.length_set, List.length_append, List.length_cons, List.length_nil, List.length_replicate, List.length_take, List.length_drop]) <;> omega)⟩ h))
            · have q491 := d_f hb489
              obtain rfl : d487 = 0 := by omega
              replace h := is_cnt0 h
              refine aw_exit ?_
              refine aq_then_exit ?_
              refine aq_then_exit ?_
              refine aq_in_exit ?_
              refine aq_then ?_
              refine aw_seq ?_
              refine aw_seq ?_
              refine aw_region ?_
              refine ao_read trivial (r_move rfl) rfl ?_
              refine ao_read trivial (r_move rfl) rfl ?_
              refine ao_read trivial (r_len_vm (r2.1.length : Int) Try.underlying24 rfl rfl) rfl ?_
              obtain ⟨r492, r492h, h⟩ := is_bind h
              refine ao_scall trivial (scall (c_laws_vSix (is_mk r492h)) rfl Try.func41 rfl rfl rfl rfl (fun σ => ⟨ad_ren rfl, trivial⟩)) rfl ?_
              refine ao_read trivial (r_neq rfl rfl) rfl ?_
              refine ao_read trivial (r_move rfl) rfl ?_
              refine ao_readG (x := .int .i64 s485) rfl (GV.F rfl) (fun hg493 => by
                    have q494 := d_t (not_f (not_t hg493))
                    exact r_move rfl) rfl ?_
              refine ao_readG (x := .int .i64 s478.1) rfl (GV.F rfl) (fun hg495 => by
                    have q496 := d_t (not_f (not_t hg495))
                    exact r_move rfl) rfl ?_
              refine ao_readG (x := .bool (!(decide (s485 = s478.1)))) rfl (GV.F rfl) (fun hg497 => by
                    have q498 := d_t (not_f (not_t hg497))
                    exact Reads.strip 226 rfl (hg497) (Reads.strip 227 rfl (hg497) (r_neq rfl rfl))) rfl ?_
              refine ao_read trivial (r_orB rfl rfl) rfl ?_
              refine ao_read trivial (r_move rfl) rfl ?_
              refine ao_readG (x := .int .i64 s478.2) rfl (GV.F rfl) (fun hg499 => by
                    obtain ⟨q500, q501⟩ := or_f (not_t hg499)
                    have q502 := d_t (not_f q500)
                    have q503 := d_t (not_f q501)
                    exact r_move rfl) rfl ?_
              refine ao_readG (x := .elem 1 0 1 1) rfl (GV.F rfl) (fun hg504 => by
                    obtain ⟨q505, q506⟩ := or_f (not_t hg504)
                    have q507 := d_t (not_f q505)
                    have q508 := d_t (not_f q506)
                    exact r_idxAddr_arr (i := 1) Try.underlying29 Try.sizeOf3 rfl rfl (show 0 ≤ 1 from by omega) (show 1 < (2 : Int) from by omega)) rfl ?_
              refine ao_readG (x := .int .i64 (r5.1.getD 1 0)) rfl (GV.F rfl) (fun hg509 => by
                    obtain ⟨q510, q511⟩ := or_f (not_t hg509)
                    have q512 := d_t (not_f q510)
                    have q513 := d_t (not_f q511)
                    exact Reads.strip 232 rfl (hg509) (r_load_elema_int Try.isAgg3 Try.sizeOf3 rfl rfl rfl (show 1 < 2 from by omega))) rfl ?_
              refine ao_readG (x := .int .i64 (IntKind.wrap .i64 (s478.2 * (r5.1.getD 1 0)))) rfl (GV.F rfl) (fun hg514 => by
                    obtain ⟨q515, q516⟩ := or_f (not_t hg514)
                    have q517 := d_t (not_f q515)
                    have q518 := d_t (not_f q516)
                    exact Reads.strip 231 rfl (hg514) (Reads.strip 233 rfl (hg514) (r_mul rfl rfl))) rfl ?_
              refine ao_readG (x := .elem 1 0 1 0) rfl (GV.F rfl) (fun hg519 => by
                    obtain ⟨q520, q521⟩ := or_f (not_t hg519)
                    have q522 := d_t (not_f q520)
                    have q523 := d_t (not_f q521)
                    exact r_idxAddr_arr (i := 0) Try.underlying29 Try.sizeOf3 rfl rfl (show 0 ≤ 0 from by omega) (show 0 < (2 : Int) from by omega)) rfl ?_
              refine ao_readG (x := .int .i64 (r5.1.getD 0 0)) rfl (GV.F rfl) (fun hg524 => by
                    obtain ⟨q525, q526⟩ := or_f (not_t hg524)
                    have q527 := d_t (not_f q525)
                    have q528 := d_t (not_f q526)
                    exact Reads.strip 235 rfl (hg524) (r_load_elema_int Try.isAgg3 Try.sizeOf3 rfl rfl rfl (show 0 < 2 from by omega))) rfl ?_
              refine ao_readG (x := .int .i64 s478.1) rfl (GV.F rfl) (fun hg529 => by
                    obtain ⟨q530, q531⟩ := or_f (not_t hg529)
                    have q532 := d_t (not_f q530)
                    have q533 := d_t (not_f q531)
                    exact r_move rfl) rfl ?_
              refine ao_readG (x := .int .i64 (IntKind.wrap .i64 ((r5.1.getD 0 0) * s478.1))) rfl (GV.F rfl) (fun hg534 => by
                    obtain ⟨q535, q536⟩ := or_f (not_t hg534)
                    have q537 := d_t (not_f q535)
                    have q538 := d_t (not_f q536)
                    exact Reads.strip 236 rfl (hg534) (Reads.strip 237 rfl (hg534) (r_mul rfl rfl))) rfl ?_
              refine ao_readG (x := .bool (!(decide ((IntKind.wrap .i64 (s478.2 * (r5.1.getD 1 0))) = (IntKind.wrap .i64 ((r5.1.getD 0 0) * s478.1)))))) rfl (GV.F rfl) (fun hg539 => by
                    obtain ⟨q540, q541⟩ := or_f (not_t hg539)
                    have q542 := d_t (not_f q540)
                    have q543 := d_t (not_f q541)
                    exact Reads.strip 234 rfl (hg539) (Reads.strip 238 rfl (hg539) (r_neq rfl rfl))) rfl ?_
              refine ao_read trivial (r_orB rfl rfl) rfl ?_
              refine ao_nil ?_
              refine aq_then ?_
              refine aw_cond rfl (fun hb544 => ?_) (fun hb544 => ?_)
              · replace h := is_if hb544 h
                refine aw_seq ?_
                refine aw_region ?_
                refine ao_read trivial (r_assign rfl) rfl ?_
                refine ao_nil ?_
                refine aq_then ?_
                refine aw_ret ?_
                refine aq_then_ret ?_
                refine aq_ret ?_
                obtain rfl := is_some h
                exact aq_finx (l := [.tmp 2]) (xs := [.bool false]) idn [.bool false] [] rfl (by exact ⟨rfl, trivial⟩) (by exact ⟨ad_ren rfl, trivial⟩) (by exact trivial) rfl (nk rfl) rfl rfl ⟨rfl, rfl⟩
              · obtain ⟨q545, q546⟩ := or_f hb544
                obtain ⟨q547, q548⟩ := or_f q545
                have q549 := d_t (not_f q547)
                have q550 := d_t (not_f q548)
                have q551 : (IntKind.wrap .i64 (s478.2 * (r5.1.getD 1 0))) = (IntKind.wrap .i64 ((r5.1.getD 0 0) * s478.1)) := d_t (not_f q546)
                replace h := is_else (ne_t hb544) h
                refine aw_skip ?_
                refine aq_then ?_
                refine aw_join (fun (s552 : Unit) => [(3, .v (.slice (.arr 6 (.int .i64))) r2.1), (4, .int .i64 r2.2), (9, .ref 0 0), (17, .ref 1 0)]) (fun (s552 : Unit) => [(0, .var [.arr (.int .i64) 2 r5.1]), (1, .var [.arr (.int .i64) 2 r9.1])]) (fun (s552 : Unit) => True) h (fun s552 hI h => ?_) (fun h j554 => ?_)
                · refine aw_seq ?_
                  refine aw_seq ?_
                  refine aw_region ?_
                  refine ao_read trivial (r_move rfl) rfl ?_
                  refine ao_read trivial (r_gtr rfl rfl) rfl ?_
                  refine ao_nil ?_
                  refine aq_then ?_
                  refine aw_cond rfl (fun hb555 => ?_) (fun hb555 => ?_)
                  · have q556 := d_t hb555
                    replace h := is_if (d_t hb555) h
                    refine aw_seq ?_
                    refine aw_region ?_
                    refine ao_read trivial (r_move rfl) rfl ?_
                    refine ao_read trivial (r_move rfl) rfl ?_
                    refine ao_read trivial (r_sub rfl rfl) rfl ?_
                    obtain ⟨r558, r558h, h⟩ := is_bind h
                    refine ao_scall trivial (scall (c_impl_MeanKept (is_mk r558h)) rfl Try.func63 rfl rfl rfl rfl (fun σ => ⟨ad_ren rfl, ad_ren rfl, trivial⟩)) rfl ?_
                    refine ao_read trivial (r_move rfl) rfl ?_
                    refine ao_read trivial (r_extract rfl rfl) rfl ?_
                    refine ao_read trivial (r_extract rfl rfl) rfl ?_
                    refine ao_eff trivial (e_alloc 2 (y := .v (.arr 2 (.int .i64)) ((List.replicate 2 0) : (List Int))) Try.zeroValue29 (fun ρ h M => ra_zero_arr (t := (.int .i64)) rfl) rfl rfl rfl rfl rfl) rfl ?_
                    refine ao_effS trivial (e_store rfl rfl rfl rfl Try.sizeOf29 rfl) ?_
                    refine ao_read trivial (r_assign rfl) rfl ?_
                    refine ao_nil ?_
                    refine aq_then ?_
                    refine aw_seq ?_
                    refine aw_region ?_
                    refine ao_read trivial (r_move rfl) rfl ?_
                    refine ao_read trivial (r_move rfl) rfl ?_
                    refine ao_read trivial (r_sub rfl rfl) rfl ?_
                    obtain ⟨r559, r559h, h⟩ := is_bind h
                    refine ao_scall trivial (scall (c_impl_MeanPlace (is_mk r559h)) rfl Try.func67 rfl rfl rfl rfl (fun σ => ⟨ad_ren rfl, ad_ren rfl, trivial⟩)) rfl ?_
                    refine ao_read trivial (r_move rfl) rfl ?_
                    refine ao_read trivial (r_extract rfl rfl) rfl ?_
                    refine ao_read trivial (r_extract rfl rfl) rfl ?_
                    refine ao_eff trivial (e_alloc 3 (y := .v (.arr 2 (.int .i64)) ((List.replicate 2 0) : (List Int))) Try.zeroValue29 (fun ρ h M => ra_zero_arr (t := (.int .i64)) rfl) rfl rfl rfl rfl rfl) rfl ?_
                    refine ao_effS trivial (e_store rfl rfl rfl rfl Try.sizeOf29 rfl) ?_
                    refine ao_read trivial (r_assign rfl) rfl ?_
                    refine ao_nil ?_
                    refine aq_then ?_
                    refine aw_seq ?_
                    refine aw_region ?_
                    refine ao_read trivial (r_move rfl) rfl ?_
                    refine ao_read trivial (r_move rfl) rfl ?_
                    refine ao_readG (x := .bool r559.2) rfl (GV.T rfl) (fun hg560 => r_move rfl) rfl ?_
                    refine ao_read trivial (r_andB rfl rfl) rfl ?_
                    refine ao_read trivial (r_move rfl) rfl ?_
                    refine ao_readG (x := .elem 0 0 1 0) rfl (GV.T rfl) (fun hg561 => by
                          obtain ⟨q562, q563⟩ := and_t hg561
                          exact r_idxAddr_arr (i := 0) Try.underlying29 Try.sizeOf3 rfl rfl (show 0 ≤ 0 from by omega) (show 0 < (2 : Int) from by omega)) rfl ?_
                    refine ao_readG (x := .int .i64 (r5.1.getD 0 0)) rfl (GV.T rfl) (fun hg564 => by
                          obtain ⟨q565, q566⟩ := and_t hg564
                          exact Reads.strip 278 rfl (hg564) (r_load_elema_int Try.isAgg3 Try.sizeOf3 rfl rfl rfl (show 0 < 2 from by omega))) rfl ?_
                    refine ao_readG (x := .elem 2 0 1 1) rfl (GV.T rfl) (fun hg567 => by
                          obtain ⟨q568, q569⟩ := and_t hg567
                          exact r_idxAddr_arr (i := 1) Try.underlying29 Try.sizeOf3 rfl rfl (show 0 ≤ 1 from by omega) (show 1 < (2 : Int) from by omega)) rfl ?_
                    refine ao_readG (x := .int .i64 (r558.1.getD 1 0)) rfl (GV.T rfl) (fun hg570 => by
                          obtain ⟨q571, q572⟩ := and_t hg570
                          exact Reads.strip 280 rfl (hg570) (r_load_elema_int Try.isAgg3 Try.sizeOf3 rfl rfl rfl (show 1 < 2 from by omega))) rfl ?_
                    refine ao_readG (x := .int .i64 (IntKind.wrap .i64 ((r5.1.getD 0 0) * (r558.1.getD 1 0)))) rfl (GV.T rfl) (fun hg573 => by
                          obtain ⟨q574, q575⟩ := and_t hg573
                          exact Reads.strip 279 rfl (hg573) (Reads.strip 281 rfl (hg573) (r_mul rfl rfl))) rfl ?_
                    refine ao_readG (x := .elem 1 0 1 1) rfl (GV.T rfl) (fun hg576 => by
                          obtain ⟨q577, q578⟩ := and_t hg576
                          exact r_idxAddr_arr (i := 1) Try.underlying29 Try.sizeOf3 rfl rfl (show 0 ≤ 1 from by omega) (show 1 < (2 : Int) from by omega)) rfl ?_
                    refine ao_readG (x := .int .i64 (r9.1.getD 1 0)) rfl (GV.T rfl) (fun hg579 => by
                          obtain ⟨q580, q581⟩ := and_t hg579
                          exact Reads.strip 283 rfl (hg579) (r_load_elema_int Try.isAgg3 Try.sizeOf3 rfl rfl rfl (show 1 < 2 from by omega))) rfl ?_
                    refine ao_readG (x := .int .i64 (IntKind.wrap .i64 ((IntKind.wrap .i64 ((r5.1.getD 0 0) * (r558.1.getD 1 0))) * (r9.1.getD 1 0)))) rfl (GV.T rfl) (fun hg582 => by
                          obtain ⟨q583, q584⟩ := and_t hg582
                          exact Reads.strip 282 rfl (hg582) (Reads.strip 284 rfl (hg582) (r_mul rfl rfl))) rfl ?_
                    refine ao_readG (x := .elem 2 0 1 0) rfl (GV.T rfl) (fun hg585 => by
                          obtain ⟨q586, q587⟩ := and_t hg585
                          exact r_idxAddr_arr (i := 0) Try.underlying29 Try.sizeOf3 rfl rfl (show 0 ≤ 0 from by omega) (show 0 < (2 : Int) from by omega)) rfl ?_
                    refine ao_readG (x := .int .i64 (r558.1.getD 0 0)) rfl (GV.T rfl) (fun hg588 => by
                          obtain ⟨q589, q590⟩ := and_t hg588
                          exact Reads.strip 286 rfl (hg588) (r_load_elema_int Try.isAgg3 Try.sizeOf3 rfl rfl rfl (show 0 < 2 from by omega))) rfl ?_
                    refine ao_readG (x := .elem 1 0 1 1) rfl (GV.T rfl) (fun hg591 => by
                          obtain ⟨q592, q593⟩ := and_t hg591
                          exact r_idxAddr_arr (i := 1) Try.underlying29 Try.sizeOf3 rfl rfl (show 0 ≤ 1 from by omega) (show 1 < (2 : Int) from by omega)) rfl ?_
                    refine ao_readG (x := .int .i64 (r9.1.getD 1 0)) rfl (GV.T rfl) (fun hg594 => by
                          obtain ⟨q595, q596⟩ := and_t hg594
                          exact Reads.strip 288 rfl (hg594) (r_load_elema_int Try.isAgg3 Try.sizeOf3 rfl rfl rfl (show 1 < 2 from by omega))) rfl ?_
                    refine ao_readG (x := .int .i64 (IntKind.wrap .i64 ((r558.1.getD 0 0) * (r9.1.getD 1 0)))) rfl (GV.T rfl) (fun hg597 => by
                          obtain ⟨q598, q599⟩ := and_t hg597
                          exact Reads.strip 287 rfl (hg597) (Reads.strip 289 rfl (hg597) (r_mul rfl rfl))) rfl ?_
                    refine ao_readG (x := .elem 1 0 1 0) rfl (GV.T rfl) (fun hg600 => by
                          obtain ⟨q601, q602⟩ := and_t hg600
                          exact r_idxAddr_arr (i := 0) Try.underlying29 Try.sizeOf3 rfl rfl (show 0 ≤ 0 from by omega) (show 0 < (2 : Int) from by omega)) rfl ?_
                    refine ao_readG (x := .int .i64 (r9.1.getD 0 0)) rfl (GV.T rfl) (fun hg603 => by
                          obtain ⟨q604, q605⟩ := and_t hg603
                          exact Reads.strip 291 rfl (hg603) (r_load_elema_int Try.isAgg3 Try.sizeOf3 rfl rfl rfl (show 0 < 2 from by omega))) rfl ?_
                    refine ao_readG (x := .elem 2 0 1 1) rfl (GV.T rfl) (fun hg606 => by
                          obtain ⟨q607, q608⟩ := and_t hg606
                          exact r_idxAddr_arr (i := 1) Try.underlying29 Try.sizeOf3 rfl rfl (show 0 ≤ 1 from by omega) (show 1 < (2 : Int) from by omega)) rfl ?_
                    refine ao_readG (x := .int .i64 (r558.1.getD 1 0)) rfl (GV.T rfl) (fun hg609 => by
                          obtain ⟨q610, q611⟩ := and_t hg609
                          exact Reads.strip 293 rfl (hg609) (r_load_elema_int Try.isAgg3 Try.sizeOf3 rfl rfl rfl (show 1 < 2 from by omega))) rfl ?_
                    refine ao_readG (x := .int .i64 (IntKind.wrap .i64 ((r9.1.getD 0 0) * (r558.1.getD 1 0)))) rfl (GV.T rfl) (fun hg612 => by
                          obtain ⟨q613, q614⟩ := and_t hg612
                          exact Reads.strip 292 rfl (hg612) (Reads.strip 294 rfl (hg612) (r_mul rfl rfl))) rfl ?_
                    refine ao_readG (x := .int .i64 (IntKind.wrap .i64 ((IntKind.wrap .i64 ((r558.1.getD 0 0) * (r9.1.getD 1 0))) + (IntKind.wrap .i64 ((r9.1.getD 0 0) * (r558.1.getD 1 0)))))) rfl (GV.T rfl) (fun hg615 => by
                          obtain ⟨q616, q617⟩ := and_t hg615
                          exact Reads.strip 290 rfl (hg615) (Reads.strip 295 rfl (hg615) (r_add rfl rfl))) rfl ?_
                    refine ao_readG (x := .elem 0 0 1 1) rfl (GV.T rfl) (fun hg618 => by
                          obtain ⟨q619, q620⟩ := and_t hg618
                          exact r_idxAddr_arr (i := 1) Try.underlying29 Try.sizeOf3 rfl rfl (show 0 ≤ 1 from by omega) (show 1 < (2 : Int) from by omega)) rfl ?_
                    refine ao_readG (x := .int .i64 (r5.1.getD 1 0)) rfl (GV.T rfl) (fun hg621 => by
                          obtain ⟨q622, q623⟩ := and_t hg621
                          exact Reads.strip 297 rfl (hg621) (r_load_elema_int Try.isAgg3 Try.sizeOf3 rfl rfl rfl (show 1 < 2 from by omega))) rfl ?_
                    refine ao_readG (x := .int .i64 (IntKind.wrap .i64 ((IntKind.wrap .i64 ((IntKind.wrap .i64 ((r558.1.getD 0 0) * (r9.1.getD 1 0))) + (IntKind.wrap .i64 ((r9.1.getD 0 0) * (r558.1.getD 1 0))))) * (r5.1.getD 1 0)))) rfl (GV.T rfl) (fun hg624 => by
                          obtain ⟨q625, q626⟩ := and_t hg624
                          exact Reads.strip 296 rfl (hg624) (Reads.strip 298 rfl (hg624) (r_mul rfl rfl))) rfl ?_
                    refine ao_readG (x := .bool (decide ((IntKind.wrap .i64 ((IntKind.wrap .i64 ((r5.1.getD 0 0) * (r558.1.getD 1 0))) * (r9.1.getD 1 0))) = (IntKind.wrap .i64 ((IntKind.wrap .i64 ((IntKind.wrap .i64 ((r558.1.getD 0 0) * (r9.1.getD 1 0))) + (IntKind.wrap .i64 ((r9.1.getD 0 0) * (r558.1.getD 1 0))))) * (r5.1.getD 1 0)))))) rfl (GV.T rfl) (fun hg627 => by
                          obtain ⟨q628, q629⟩ := and_t hg627
                          exact Reads.strip 285 rfl (hg627) (Reads.strip 299 rfl (hg627) (r_eql rfl rfl))) rfl ?_
                    refine ao_read trivial (r_andB rfl rfl) rfl ?_
                    refine ao_read trivial (r_move rfl) rfl ?_
                    refine ao_readG (x := .v (.arr 2 (.int .i64)) r559.1) rfl (GV.T rfl) (fun hg630 => by
                          obtain ⟨q631, q632⟩ := and_t hg630
                          obtain ⟨q633, q634⟩ := and_t q631
                          have q635 : (IntKind.wrap .i64 ((IntKind.wrap .i64 ((r5.1.getD 0 0) * (r558.1.getD 1 0))) * (r9.1.getD 1 0))) = (IntKind.wrap .i64 ((IntKind.wrap .i64 ((IntKind.wrap .i64 ((r558.1.getD 0 0) * (r9.1.getD 1 0))) + (IntKind.wrap .i64 ((r9.1.getD 0 0) * (r558.1.getD 1 0))))) * (r5.1.getD 1 0))) := d_t q632
                          exact r_load_arr rfl Try.isAgg29 Try.sizeOf29 rfl rfl rfl) rfl ?_
                    refine ao_readG (x := .v (.arr 2 (.int .i64)) r9.1) rfl (GV.T rfl) (fun hg636 => by
                          obtain ⟨q637, q638⟩ := and_t hg636
                          obtain ⟨q639, q640⟩ := and_t q637
                          have q641 : (IntKind.wrap .i64 ((IntKind.wrap .i64 ((r5.1.getD 0 0) * (r558.1.getD 1 0))) * (r9.1.getD 1 0))) = (IntKind.wrap .i64 ((IntKind.wrap .i64 ((IntKind.wrap .i64 ((r558.1.getD 0 0) * (r9.1.getD 1 0))) + (IntKind.wrap .i64 ((r9.1.getD 0 0) * (r558.1.getD 1 0))))) * (r5.1.getD 1 0))) := d_t q638
                          exact r_load_arr rfl Try.isAgg29 Try.sizeOf29 rfl rfl rfl) rfl ?_
                    refine ao_scallG (r := .bool (p_laws_vLess r559.1 r9.1)) rfl (GV.T rfl) (fun hg642 => by
                          obtain ⟨q643, q644⟩ := and_t hg642
                          obtain ⟨q645, q646⟩ := and_t q643
                          have q647 : (IntKind.wrap .i64 ((IntKind.wrap .i64 ((r5.1.getD 0 0) * (r558.1.getD 1 0))) * (r9.1.getD 1 0))) = (IntKind.wrap .i64 ((IntKind.wrap .i64 ((IntKind.wrap .i64 ((r558.1.getD 0 0) * (r9.1.getD 1 0))) + (IntKind.wrap .i64 ((r9.1.getD 0 0) * (r558.1.getD 1 0))))) * (r5.1.getD 1 0))) := d_t q644
                          exact SCall.strip 303 rfl (hg642) (SCall.strip 304 rfl (hg642) (scall (c_laws_vLess (is_mk (rfl : p_laws_vLess r559.1 r9.1 = _))) rfl Try.func22 rfl rfl rfl rfl (fun σ => ⟨ad_ren rfl, ad_ren rfl, trivial⟩)))) rfl ?_
                    refine ao_readG (x := .bool (!(p_laws_vLess r559.1 r9.1))) rfl (GV.T rfl) (fun hg648 => by
                          obtain ⟨q649, q650⟩ := and_t hg648
                          obtain ⟨q651, q652⟩ := and_t q649
                          have q653 : (IntKind.wrap .i64 ((IntKind.wrap .i64 ((r5.1.getD 0 0) * (r558.1.getD 1 0))) * (r9.1.getD 1 0))) = (IntKind.wrap .i64 ((IntKind.wrap .i64 ((IntKind.wrap .i64 ((r558.1.getD 0 0) * (r9.1.getD 1 0))) + (IntKind.wrap .i64 ((r9.1.getD 0 0) * (r558.1.getD 1 0))))) * (r5.1.getD 1 0))) := d_t q650
                          exact Reads.strip 305 rfl (hg648) (r_not rfl)) rfl ?_
                    refine ao_read trivial (r_andB rfl rfl) rfl ?_
                    refine ao_read trivial (r_assign rfl) rfl ?_
                    refine ao_nil ?_
                    refine aq_then ?_
                    refine aw_ret ?_
                    refine aq_then_ret ?_
                    refine aq_ret ?_
                    obtain rfl := is_some h
                    exact aq_finx (l := [.tmp 2]) (xs := [.bool (((r558.2 && r559.2) && (decide ((IntKind.wrap .i64 ((IntKind.wrap .i64 ((r5.1.getD 0 0) * (r558.1.getD 1 0))) * (r9.1.getD 1 0))) = (IntKind.wrap .i64 ((IntKind.wrap .i64 ((IntKind.wrap .i64 ((r558.1.getD 0 0) * (r9.1.getD 1 0))) + (IntKind.wrap .i64 ((r9.1.getD 0 0) * (r558.1.getD 1 0))))) * (r5.1.getD 1 0)))))) && (!(p_laws_vLess r559.1 r9.1)))]) idn [.bool (((r558.2 && r559.2) && (decide ((IntKind.wrap .i64 ((IntKind.wrap .i64 ((r5.1.getD 0 0) * (r558.1.getD 1 0))) * (r9.1.getD 1 0))) = (IntKind.wrap .i64 ((IntKind.wrap .i64 ((IntKind.wrap .i64 ((r558.1.getD 0 0) * (r9.1.getD 1 0))) + (IntKind.wrap .i64 ((r9.1.getD 0 0) * (r558.1.getD 1 0))))) * (r5.1.getD 1 0)))))) && (!(p_laws_vLess r559.1 r9.1)))] [] rfl (by exact ⟨rfl, trivial⟩) (by exact ⟨ad_ren rfl, trivial⟩) (by exact trivial) rfl (nk rfl) rfl rfl ⟨rfl, rfl⟩
                  · have q557 := d_f hb555
                    replace h := is_else (d_f hb555) h
                    refine aw_skip ?_
                    refine aq_then ?_
                    refine aw_seq ?_
                    refine aw_region ?_
                    refine ao_read trivial (r_load_arr rfl Try.isAgg29 Try.sizeOf29 rfl rfl rfl) rfl ?_
                    refine ao_read trivial (r_load_arr rfl Try.isAgg29 Try.sizeOf29 rfl rfl rfl) rfl ?_
                    refine ao_read trivial (r_eq_ints Try.underlying29 Try.underlying3 Try.isAgg3 (info_size Try.sizeOf3) (by kernel_rfl) rfl rfl rfl) rfl ?_
                    refine ao_read trivial (r_assign rfl) rfl ?_
                    refine ao_nil ?_
                    refine aq_then ?_
                    refine aw_ret ?_
                    refine aq_ret ?_
                    obtain rfl := is_some h
                    exact aq_finx (l := [.tmp 2]) (xs := [.bool (decide (r5.1 = r9.1))]) idn [.bool (decide (r5.1 = r9.1))] [] rfl (by exact ⟨rfl, trivial⟩) (by exact ⟨ad_ren rfl, trivial⟩) (by exact trivial) rfl (nk rfl) rfl rfl ⟨rfl, rfl⟩
                · refine aw_seq ?_
                  refine aw_region ?_
                  refine ao_read trivial (r_move rfl) rfl ?_
                  refine ao_read trivial (r_move rfl) rfl ?_
                  refine ao_read trivial (r_len_vm (r2.1.length : Int) Try.underlying24 rfl rfl) rfl ?_
                  refine ao_read trivial (r_eql rfl rfl) rfl ?_
                  refine ao_nil ?_
                  refine aq_then ?_
                  refine aw_cond rfl (fun hb654 => ?_) (fun hb654 => ?_)
                  · have q655 := d_t hb654
                    replace h := is_if (d_t hb654) h
                    refine aw_seq ?_
                    refine aw_region ?_
                    refine ao_read trivial (r_move rfl) rfl ?_
                    obtain ⟨r657, r657h, h⟩ := is_bind h
                    refine ao_scall trivial (scall (c_impl_SumTable (is_mk r657h)) rfl Try.func42 rfl rfl rfl rfl (fun σ => ⟨ad_ren rfl, trivial⟩)) rfl ?_
                    refine ao_read trivial (r_move rfl) rfl ?_
                    refine ao_read trivial (r_extract rfl rfl) rfl ?_
                    refine ao_read trivial (r_extract rfl rfl) rfl ?_
                    refine ao_eff trivial (e_alloc 4 (y := .v (.arr 121 (.int .i64)) ((List.replicate 121 0) : (List Int))) Try.zeroValue50 (fun ρ h M => ra_zero_arr (t := (.int .i64)) rfl) rfl rfl rfl rfl rfl) rfl ?_
                    refine ao_effS trivial (e_store rfl rfl rfl rfl Try.sizeOf50 rfl) ?_
                    refine ao_read trivial (r_assign rfl) rfl ?_
                    refine ao_nil ?_
                    refine aq_then ?_
                    refine aw_seq ?_
                    refine aw_region ?_
                    refine ao_read trivial (r_move rfl) rfl ?_
                    refine ao_read trivial (r_not rfl) rfl ?_
                    refine ao_read trivial (r_move rfl) rfl ?_
                    refine ao_readG (x := .v (.arr 121 (.int .i64)) r657.1) rfl (GV.F rfl) (fun hg658 => r_load_arr rfl Try.isAgg50 Try.sizeOf50 rfl rfl rfl) rfl ?_
                    refine ao_readG (x := .v (.arr 121 (.int .i64)) r3.1) rfl (GV.F rfl) (fun hg659 => r_load_arr rfl Try.isAgg50 Try.sizeOf50 rfl rfl rfl) rfl ?_
                    refine ao_readG (x := .bool (!(decide (r657.1 = r3.1)))) rfl (GV.F rfl) (fun hg660 => Reads.strip 253 rfl (hg660) (Reads.strip 254 rfl (hg660) (r_eq_ints Try.underlying50 Try.underlying3 Try.isAgg3 (info_size Try.sizeOf3) (by kernel_rfl) rfl rfl rfl))) rfl ?_
                    refine ao_read trivial (r_orB rfl rfl) rfl ?_
                    refine ao_nil ?_
                    refine aq_then ?_
                    refine aw_cond rfl (fun hb661 => ?_) (fun hb661 => ?_)
                    · replace h := is_if hb661 h
                      refine aw_seq ?_
                      refine aw_region ?_
                      refine ao_read trivial (r_assign rfl) rfl ?_
                      refine ao_nil ?_
                      refine aq_then ?_
                      refine aw_ret ?_
                      refine aq_then_ret ?_
                      refine aq_ret ?_
                      obtain rfl := is_some h
                      exact aq_finx (l := [.tmp 2]) (xs := [.bool false]) idn [.bool false] [] rfl (by exact ⟨rfl, trivial⟩) (by exact ⟨ad_ren rfl, trivial⟩) (by exact trivial) rfl (nk rfl) rfl rfl ⟨rfl, rfl⟩
                    · obtain ⟨q662, q663⟩ := or_f hb661
                      replace h := is_else (ne_t hb661) h
                      refine aw_skip ?_
                      exact aq_then (AW.sub (sub_mk (rn [(0, 1), (1, 3)]) (by exact ⟨⟨_, rfl, ad_ren rfl⟩, ⟨_, rfl, ad_ren rfl⟩, ⟨_, rfl, ad_ren rfl⟩, ⟨_, rfl, ad_ren rfl⟩, trivial⟩) (by exact ⟨⟨_, rfl, ⟨rfl, trivial⟩⟩, ⟨_, rfl, ⟨rfl, trivial⟩⟩, trivial⟩) (by rfl) (nk rfl)) (j554 () trivial h))
                  · have q656 := d_f hb654
                    replace h := is_else (d_f hb654) h
                    refine aw_skip ?_
                    exact aq_then (AW.sub (sub_mk (rn [(0, 1), (1, 3)]) (by exact ⟨⟨_, rfl, ad_ren rfl⟩, ⟨_, rfl, ad_ren rfl⟩, ⟨_, rfl, ad_ren rfl⟩, ⟨_, rfl, ad_ren rfl⟩, trivial⟩) (by exact ⟨⟨_, rfl, ⟨rfl, trivial⟩⟩, ⟨_, rfl, ⟨rfl, trivial⟩⟩, trivial⟩) (by rfl) (nk rfl)) (j554 () trivial h))
      · refine aw_seq ?_
        refine aw_region ?_
        refine ao_read trivial (r_move rfl) rfl ?_
        refine ao_nil ?_
        refine aq_then ?_
        refine aw_cond rfl (fun hb664 => ?_) (fun hb664 => ?_)
        · replace h := is_if hb664 h
          refine aw_seq ?_
          refine aw_region ?_
          refine ao_read trivial (r_move rfl) rfl ?_
          refine ao_read trivial (r_move rfl) rfl ?_
          refine ao_read trivial (r_len_osm (r13.1.length : Int) Try.underlying24 rfl rfl rfl) rfl ?_
          refine ao_read trivial (r_move rfl) rfl ?_
          refine ao_read trivial (r_sub rfl rfl) rfl ?_
          obtain ⟨r665, r665h, h⟩ := is_bind h
          refine ao_scall trivial (scall (c_impl_KeepTable (is_mk r665h)) rfl Try.func61 rfl rfl rfl rfl (fun σ => ⟨ad_os0 rfl, ad_ren rfl, trivial⟩)) rfl ?_
          refine ao_read trivial (r_move rfl) rfl ?_
          refine ao_read trivial (r_extract rfl rfl) rfl ?_
          refine ao_read trivial (r_extract rfl rfl) rfl ?_
          refine ao_eff trivial (e_alloc 12 (y := .v (.arr 121 (.int .i64)) ((List.replicate 121 0) : (List Int))) Try.zeroValue50 (fun ρ h M => ra_zero_arr (t := (.int .i64)) rfl) rfl rfl rfl rfl rfl) rfl ?_
          refine ao_effS trivial (e_store rfl rfl rfl rfl Try.sizeOf50 rfl) ?_
          refine ao_read trivial (r_assign rfl) rfl ?_
          refine ao_nil ?_
          refine aq_then ?_
          refine aw_seq ?_
          refine aw_region ?_
          refine ao_read trivial (r_move rfl) rfl ?_
          refine ao_read trivial (r_not rfl) rfl ?_
          refine ao_read trivial (r_move rfl) rfl ?_
          refine ao_readG (x := .v (.arr 121 (.int .i64)) r665.1) rfl (GV.F rfl) (fun hg666 => r_load_arr rfl Try.isAgg50 Try.sizeOf50 rfl rfl rfl) rfl ?_
          refine ao_readG (x := .v (.arr 121 (.int .i64)) r15.1) rfl (GV.F rfl) (fun hg667 => r_load_arr rfl Try.isAgg50 Try.sizeOf50 rfl rfl rfl) rfl ?_
          refine ao_readG (x := .bool (!(decide (r665.1 = r15.1)))) rfl (GV.F rfl) (fun hg668 => Reads.strip 189 rfl (hg668) (Reads.strip 190 rfl (hg668) (r_eq_ints Try.underlying50 Try.underlying3 Try.isAgg3 (info_size Try.sizeOf3) (by kernel_rfl) rfl rfl rfl))) rfl ?_
          refine ao_read trivial (r_orB rfl rfl) rfl ?_
          refine ao_nil ?_
          refine aq_then ?_
          refine aw_cond rfl (fun hb669 => ?_) (fun hb669 => ?_)
          · replace h := is_if hb669 h
            refine aw_seq ?_
            refine aw_region ?_
            refine ao_read trivial (r_assign rfl) rfl ?_
            refine ao_nil ?_
            refine aq_then ?_
            refine aw_ret ?_
            refine aq_then_ret ?_
            refine aq_ret ?_
            obtain rfl := is_some h
            exact aq_finx (l := [.tmp 2]) (xs := [.bool false]) idn [.bool false] [] rfl (by exact ⟨rfl, trivial⟩) (by exact ⟨ad_ren rfl, trivial⟩) (by exact trivial) rfl (nk rfl) rfl rfl ⟨rfl, rfl⟩
          · obtain ⟨q670, q671⟩ := or_f hb669
            replace h := is_else (ne_t hb669) h
            refine aw_skip ?_
            exact aq_then (AW.sub (sub_mk (rn [(1, 2), (2, 4), (3, 6)]) (by exact ⟨⟨_, rfl, ad_ren rfl⟩, ⟨_, rfl, ad_ren rfl⟩, ⟨_, rfl, ad_ren rfl⟩, ⟨_, rfl, ad_ren rfl⟩, ⟨_, rfl, ad_ren rfl⟩, ⟨_, rfl, ad_ren rfl⟩, ⟨_, rfl, ad_ren rfl⟩, trivial⟩) (by exact ⟨⟨_, rfl, ⟨rfl, trivial⟩⟩, ⟨_, rfl, ⟨rfl, trivial⟩⟩, ⟨_, rfl, ⟨rfl, trivial⟩⟩, ⟨_, rfl, ⟨rfl, trivial⟩⟩, trivial⟩) (by rfl) (nk rfl)) (j476 () trivial h))
        · replace h := is_else (ne_t hb664) h
          refine aw_skip ?_
          exact aq_then (AW.sub (sub_mk (rn [(1, 2), (2, 4), (3, 6)]) (by exact ⟨⟨_, rfl, ad_ren rfl⟩, ⟨_, rfl, ad_ren rfl⟩, ⟨_, rfl, ad_ren rfl⟩, ⟨_, rfl, ad_ren rfl⟩, ⟨_, rfl, ad_ren rfl⟩, ⟨_, rfl, ad_ren rfl⟩, ⟨_, rfl, ad_ren rfl⟩, trivial⟩) (by exact ⟨⟨_, rfl, ⟨rfl, trivial⟩⟩, ⟨_, rfl, ⟨rfl, trivial⟩⟩, ⟨_, rfl, ⟨rfl, trivial⟩⟩, ⟨_, rfl, ⟨rfl, trivial⟩⟩, trivial⟩) (by rfl) (nk rfl)) (j476 () trivial h))
end Go.GA
