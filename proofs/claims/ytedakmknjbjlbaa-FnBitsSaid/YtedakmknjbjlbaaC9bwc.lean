/- Walks: what the Go functions compute, by the printed lines below; no further conditions. -/
import Derived.Test.YtedakmknjbjlbaaC9bwb
namespace Go.GA
open Go Go.Proofs
set_option maxRecDepth 100000
set_option maxHeartbeats 2000000
set_option linter.unusedVariables false
set_option linter.unusedSimpArgs false
theorem c_spec_l1Cur_two {fu : Nat} {x0 : (List Int)} {x1 : Int} {x2 : Int} {r : (List (List Int)) × Int × Int} (h : Is (p_spec_l1Cur_two fu x0 x1 x2) (some r)) :
    ACallsV Try.prog 118 [.ref 0 0] [(0, .var [.cell (.v (.slice (.int .u8)) x0), .cell (.int .i64 x1), .cell (.int .u64 x2)])] (fun r' H' => r' = .os 1 ∧ H' = [(0, .var [.cell (.v (.slice (.int .u8)) x0), .cell (.int .i64 r.2.1), .cell (.int .u64 r.2.2)]), (1, .row (.arr 6 (.int .i64)) r.1)]) := by
  unfold p_spec_l1Cur_two at h
  refine ac_enterV ⟨70, 1⟩ Try.func118 rfl rfl rfl rfl rfl (fun Γ => ?_)
  refine aw_seq ?_
  refine aw_region ?_
  refine ao_read trivial (r_assign rfl) rfl ?_
  refine ao_nil ?_
  refine aq_then ?_
  refine aw_seq ?_
  refine aw_seq ?_
  refine aw_region ?_
  refine ao_read trivial (r_move rfl) rfl ?_
  obtain ⟨r1, r1h, h⟩ := is_bind h
  refine ao_callV [0] 1 trivial (c_spec_l1Cur_pick (is_mk r1h)) Try.func103 rfl rfl rfl rfl rfl ⟨rfl, trivial⟩ ⟨⟨_, rfl, ⟨ad_ren rfl, rfl, ad_ren rfl, rfl, ad_ren rfl, rfl, trivial⟩⟩, trivial⟩ rfl rfl rfl rfl rfl rfl rfl (fun r' H' hr => ?_)
  obtain ⟨rfl, rfl⟩ := hr
  refine ao_norm (y := .int .i64 r1.1) (H' := [(0, .var [.cell (.v (.slice (.int .u8)) x0), .cell (.int .i64 r1.2.1), .cell (.int .u64 r1.2.2)])]) rfl rfl ?_
  refine ao_nil ?_
  refine aq_then ?_
  refine aw_block ?_
  refine aw_seq ?_
  refine aw_region ?_
  refine ao_read trivial (r_eql rfl rfl) rfl ?_
  refine ao_read trivial (r_assign rfl) rfl ?_
  refine ao_nil ?_
  refine aq_then ?_
  refine aw_cond rfl (fun hb2 => ?_) (fun hb2 => ?_)
  · have q3 := d_t hb2
    replace h := is_if (d_t hb2) h
    refine aw_seq ?_
    refine aw_region ?_
    refine ao_read trivial (r_build_arr (l := [(0, .const (.int .i64 1)), (1, .const (.int .i64 2)), (2, .const (.int .i64 3)), (3, .const (.int .i64 4)), (4, .const (.int .i64 5)), (5, .const (.int .i64 6))]) (t := (.int .i64)) ([1, 2, 3, 4, 5, 6] : (List Int)) rfl Try.underlying60 Try.zeroValue60 Try.sizeOf3 rfl rfl rfl rfl) rfl ?_
    refine ao_read trivial (r_build_arr (l := [(0, .const (.int .i64 1)), (1, .const (.int .i64 2)), (2, .const (.int .i64 3)), (3, .const (.int .i64 4)), (4, .const (.int .i64 5)), (5, .const (.int .i64 6))]) (t := (.int .i64)) ([1, 2, 3, 4, 5, 6] : (List Int)) rfl Try.underlying60 Try.zeroValue60 Try.sizeOf3 rfl rfl rfl rfl) rfl ?_
    refine ao_eff trivial (e_buildSlice (l := [(0, .tmp 12), (1, .tmp 13)]) (t := (.arr 6 (.int .i64))) 1 ([[1, 2, 3, 4, 5, 6], [1, 2, 3, 4, 5, 6]] : (List (List Int))) rfl Try.underlying54 Try.zeroValue60 Try.sizeOf60 rfl rfl rfl rfl rfl rfl rfl) rfl ?_
    refine ao_read trivial (r_assign rfl) rfl ?_
    refine ao_nil ?_
    refine aq_then ?_
    refine aw_ret ?_
    refine aq_in_ret ?_
    refine aq_then_ret ?_
    refine aq_ret ?_
    obtain rfl := is_some h
    exact aq_finV (l := [.tmp 2]) (xs := [.os 1]) idn [.os 1] [(0, .var [.cell (.v (.slice (.int .u8)) x0), .cell (.int .i64 r1.2.1), .cell (.int .u64 r1.2.2)]), (1, .row (.arr 6 (.int .i64)) ([[1, 2, 3, 4, 5, 6], [1, 2, 3, 4, 5, 6]] : (List (List Int))))] rfl (by exact ⟨rfl, trivial⟩) (by exact ⟨ad_ren rfl, trivial⟩) (by exact ⟨⟨_, rfl, ⟨ad_ren rfl, rfl, ad_ren rfl, rfl, ad_ren rfl, rfl, trivial⟩⟩, ⟨_, rfl, rfl⟩, trivial⟩) rfl (nk1 rfl rfl) ⟨rfl, rfl⟩
  · have q4 := d_f hb2
    replace h := is_else (d_f hb2) h
    refine aw_seq ?_
    refine aw_region ?_
    refine ao_read trivial (r_eql rfl rfl) rfl ?_
    refine ao_read trivial (r_assign rfl) rfl ?_
    refine ao_nil ?_
    refine aq_then ?_
    refine aw_cond rfl (fun hb5 => ?_) (fun hb5 => ?_)
    · have q6 := d_t hb5
      replace h := is_if (d_t hb5) h
      refine aw_seq ?_
      refine aw_region ?_
      refine ao_read trivial (r_build_arr (l := [(0, .const (.int .i64 1)), (1, .const (.int .i64 3)), (2, .const (.int .i64 4)), (3, .const (.int .i64 5)), (4, .const (.int .i64 6)), (5, .const (.int .i64 8))]) (t := (.int .i64)) ([1, 3, 4, 5, 6, 8] : (List Int)) rfl Try.underlying60 Try.zeroValue60 Try.sizeOf3 rfl rfl rfl rfl) rfl ?_
      refine ao_read trivial (r_build_arr (l := [(0, .const (.int .i64 1)), (1, .const (.int .i64 2)), (2, .const (.int .i64 2)), (3, .const (.int .i64 3)), (4, .const (.int .i64 3)), (5, .const (.int .i64 4))]) (t := (.int .i64)) ([1, 2, 2, 3, 3, 4] : (List Int)) rfl Try.underlying60 Try.zeroValue60 Try.sizeOf3 rfl rfl rfl rfl) rfl ?_
      refine ao_eff trivial (e_buildSlice (l := [(0, .tmp 17), (1, .tmp 18)]) (t := (.arr 6 (.int .i64))) 2 ([[1, 3, 4, 5, 6, 8], [1, 2, 2, 3, 3, 4]] : (List (List Int))) rfl Try.underlying54 Try.zeroValue60 Try.sizeOf60 rfl rfl rfl rfl rfl rfl rfl) rfl ?_
      refine ao_read trivial (r_assign rfl) rfl ?_
      refine ao_nil ?_
      refine aq_then ?_
      refine aw_ret ?_
      refine aq_in_ret ?_
      refine aq_then_ret ?_
      refine aq_ret ?_
      obtain rfl := is_some h
      exact aq_finV (l := [.tmp 2]) (xs := [.os 2]) (rn [(1, 2)]) [.os 1] [(0, .var [.cell (.v (.slice (.int .u8)) x0), .cell (.int .i64 r1.2.1), .cell (.int .u64 r1.2.2)]), (1, .row (.arr 6 (.int .i64)) ([[1, 3, 4, 5, 6, 8], [1, 2, 2, 3, 3, 4]] : (List (List Int))))] rfl (by exact ⟨rfl, trivial⟩) (by exact ⟨ad_ren rfl, trivial⟩) (by exact ⟨⟨_, rfl, ⟨ad_ren rfl, rfl, ad_ren rfl, rfl, ad_ren rfl, rfl, trivial⟩⟩, ⟨_, rfl, rfl⟩, trivial⟩) rfl (nk1 rfl rfl) ⟨rfl, rfl⟩
    · have q7 := d_f hb5
      replace h := is_else (d_f hb5) h
      refine aw_seq ?_
      refine aw_region ?_
      refine ao_read trivial (r_eql rfl rfl) rfl ?_
      refine ao_read trivial (r_assign rfl) rfl ?_
      refine ao_nil ?_
      refine aq_then ?_
      refine aw_cond rfl (fun hb8 => ?_) (fun hb8 => ?_)
      · have q9 := d_t hb8
        replace h := is_if (d_t hb8) h
        refine aw_seq ?_
        refine aw_region ?_
        refine ao_read trivial (r_build_zero (t := (.int .i64)) Try.underlying60 Try.zeroValue60 Try.sizeOf3 rfl) rfl ?_
        refine ao_read trivial (r_build_zero (t := (.int .i64)) Try.underlying60 Try.zeroValue60 Try.sizeOf3 rfl) rfl ?_
        refine ao_read trivial (r_move rfl) rfl ?_
        obtain ⟨r11, r11h, h⟩ := is_bind h
        refine ao_callV [0] 3 trivial (c_spec_l1Cur_pick (is_mk r11h)) Try.func103 rfl rfl rfl rfl rfl ⟨rfl, trivial⟩ ⟨⟨_, rfl, ⟨ad_ren rfl, rfl, ad_ren rfl, rfl, ad_ren rfl, rfl, trivial⟩⟩, trivial⟩ rfl rfl rfl rfl rfl rfl rfl (fun r' H' hr => ?_)
        obtain ⟨rfl, rfl⟩ := hr
        refine ao_norm (y := .int .i64 r11.1) (H' := [(0, .var [.cell (.v (.slice (.int .u8)) x0), .cell (.int .i64 r11.2.1), .cell (.int .u64 r11.2.2)])]) rfl rfl ?_
        refine ao_read trivial (r_add rfl rfl) rfl ?_
        refine ao_read trivial (r_move rfl) rfl ?_
        obtain ⟨r12, r12h, h⟩ := is_bind h
        refine ao_callV [0] 3 trivial (c_spec_l1Cur_pick (is_mk r12h)) Try.func103 rfl rfl rfl rfl rfl ⟨rfl, trivial⟩ ⟨⟨_, rfl, ⟨ad_ren rfl, rfl, ad_ren rfl, rfl, ad_ren rfl, rfl, trivial⟩⟩, trivial⟩ rfl rfl rfl rfl rfl rfl rfl (fun r' H' hr => ?_)
        obtain ⟨rfl, rfl⟩ := hr
        refine ao_norm (y := .int .i64 r12.1) (H' := [(0, .var [.cell (.v (.slice (.int .u8)) x0), .cell (.int .i64 r12.2.1), .cell (.int .u64 r12.2.2)])]) rfl rfl ?_
        refine ao_read trivial (r_add rfl rfl) rfl ?_
        refine ao_eff trivial (e_alloc 3 (y := .v (.arr 6 (.int .i64)) ((List.replicate 6 0) : (List Int))) Try.zeroValue60 (fun ρ h M => ra_zero_arr (t := (.int .i64)) rfl) rfl rfl rfl rfl rfl) rfl ?_
        refine ao_eff trivial (e_alloc 4 (y := .v (.arr 6 (.int .i64)) ((List.replicate 6 0) : (List Int))) Try.zeroValue60 (fun ρ h M => ra_zero_arr (t := (.int .i64)) rfl) rfl rfl rfl rfl rfl) rfl ?_
        refine ao_effS trivial (e_store rfl rfl rfl rfl Try.sizeOf60 rfl) ?_
        refine ao_effS trivial (e_store rfl rfl rfl rfl Try.sizeOf60 rfl) ?_
        refine ao_read trivial (r_assign rfl) rfl ?_
        refine ao_read trivial (r_assign rfl) rfl ?_
        refine ao_nil ?_
        refine aq_then ?_
        refine aw_seq ?_
        refine aw_seq ?_
        refine aw_region ?_
        refine ao_read trivial (r_assign rfl) rfl ?_
        refine ao_nil ?_
        refine aq_then ?_
        refine aw_block ?_
        refine aw_loop (AL.sub (fr' := [(3, .ref 1 0), (4, .ref 2 0), (5, .int .i64 (IntKind.wrap .i64 (1 + r11.1))), (6, .int .i64 (IntKind.wrap .i64 (1 + r12.1))), (7, .int .i64 0)]) (H' := [(0, .var [.cell (.v (.slice (.int .u8)) x0), .cell (.int .i64 r12.2.1), .cell (.int .u64 r12.2.2)]), (1, .var [.arr (.int .i64) 6 ((List.replicate 6 0) : (List Int))]), (2, .var [.arr (.int .i64) 6 ((List.replicate 6 0) : (List Int))])]) (sub_mk (rn [(1, 3), (2, 4)]) (by exact ⟨⟨_, rfl, ad_ren rfl⟩, ⟨_, rfl, ad_ren rfl⟩, ⟨_, rfl, ad_ren rfl⟩, ⟨_, rfl, ad_ren rfl⟩, ⟨_, rfl, ad_ren rfl⟩, trivial⟩) (by exact ⟨⟨_, rfl, ⟨ad_ren rfl, rfl, ad_ren rfl, rfl, ad_ren rfl, rfl, trivial⟩⟩, ⟨_, rfl, ⟨rfl, trivial⟩⟩, ⟨_, rfl, ⟨rfl, trivial⟩⟩, trivial⟩) (by rfl) (nk1 rfl rfl)) (al_cnt (fun i14 (s13 : (List Int) × (List Int)) => [(3, .ref 1 0), (4, .ref 2 0), (5, .int .i64 (IntKind.wrap .i64 (1 + r11.1))), (6, .int .i64 (IntKind.wrap .i64 (1 + r12.1))), (7, .int .i64 i14)]) (fun i14 (s13 : (List Int) × (List Int)) => [(0, .var [.cell (.v (.slice (.int .u8)) x0), .cell (.int .i64 r12.2.1), .cell (.int .u64 r12.2.2)]), (1, .var [.arr (.int .i64) 6 s13.1]), (2, .var [.arr (.int .i64) 6 s13.2])]) (fun d i14 (s13 : (List Int) × (List Int)) => d = Int.toNat (6 - i14) ∧ 0 ≤ i14 ∧ (s13.1.length : Int) = 6 ∧ (s13.2.length : Int) = 6 ∧ i14 ≤ 6) h ⟨rfl, (by (try simp only [List.length_set, List.length_append, List.length_cons, List.length_nil, List.length_replicate, List.length_take, List.length_drop]) <;> omega), (by (try simp only [List.length_set, List.length_append, List.length_cons, List.length_nil, List.length_replicate, List.length_take, List.length_drop]) <;> omega), (by (try simp only [List.length_set, List.length_append, List.length_cons, List.length_nil, List.length_replicate, List.length_take, List.length_drop]) <;> omega), (by (try simp only [List.length_set, List.length_append, List.length_cons, List.length_nil, List.length_replicate, List.length_take, List.length_drop]) <;> omega)⟩ (fun d15 i14 s13 hI h ih15 => ?_)))
        obtain ⟨hd, _, _, _, _⟩ := hI
        refine al_round ?_
        refine aw_seq ?_
        refine aw_seq ?_
        refine aw_region ?_
        refine ao_read trivial (r_move rfl) rfl ?_
        refine ao_read trivial (r_lss rfl rfl) rfl ?_
        refine ao_nil ?_
        refine aq_then ?_
        refine aw_cond rfl (fun hb17 => ?_) (fun hb17 => ?_)
        · have q18 := d_t hb17
          obtain ⟨d15, rfl⟩ : ∃ e, d15 = e + 1 := ⟨d15 - 1, by omega⟩
          replace h := is_cntS h
          refine aw_skip ?_
          refine aq_then ?_
          refine aw_seq ?_
          refine aw_block ?_
          refine aw_seq ?_
          refine aw_region ?_
          refine ao_read trivial (r_move rfl) rfl ?_
          refine ao_read trivial (r_move rfl) rfl ?_
          refine ao_read trivial (r_rem rfl rfl (by decide)) rfl ?_
          refine ao_read trivial (r_move rfl) rfl ?_
          refine ao_read trivial (r_mul rfl rfl) rfl ?_
          refine ao_read trivial (r_move rfl) rfl ?_
          refine ao_read trivial (r_quo rfl rfl (by decide)) rfl ?_
          refine ao_read trivial (r_move rfl) rfl ?_
          refine ao_read trivial (r_mul rfl rfl) rfl ?_
          refine ao_read trivial (r_add rfl rfl) rfl ?_
          refine ao_read trivial (r_idxAddr_arr (i := i14) Try.underlying60 Try.sizeOf3 rfl rfl (show 0 ≤ i14 from by omega) (show i14 < (6 : Int) from by omega)) rfl ?_
          refine ao_effS trivial (e_store_elema_int Try.sizeOf3 rfl rfl rfl rfl (show i14.toNat < 6 from by omega) rfl) ?_
          refine ao_nil ?_
          refine aq_then ?_
          refine aw_region ?_
          refine ao_read trivial (r_move rfl) rfl ?_
          refine ao_read trivial (r_move rfl) rfl ?_
          refine ao_read trivial (r_rem rfl rfl (by decide)) rfl ?_
          refine ao_read trivial (r_move rfl) rfl ?_
          refine ao_read trivial (r_mul rfl rfl) rfl ?_
          refine ao_read trivial (r_move rfl) rfl ?_
          refine ao_read trivial (r_quo rfl rfl (by decide)) rfl ?_
          refine ao_read trivial (r_move rfl) rfl ?_
          refine ao_read trivial (r_mul rfl rfl) rfl ?_
          refine ao_read trivial (r_add rfl rfl) rfl ?_
          refine ao_read trivial (r_idxAddr_arr (i := i14) Try.underlying60 Try.sizeOf3 rfl rfl (show 0 ≤ i14 from by omega) (show i14 < (6 : Int) from by omega)) rfl ?_
          refine ao_effS trivial (e_store_elema_int Try.sizeOf3 rfl rfl rfl rfl (show i14.toNat < 6 from by omega) rfl) ?_
          refine ao_nil ?_
          refine aq_in ?_
          refine aq_then ?_
          refine aw_region ?_
          refine ao_read trivial (r_move rfl) rfl ?_
          refine ao_read trivial (r_addI rfl rfl (wrap_id (by omega) (by omega))) rfl ?_
          refine ao_read trivial (r_assign rfl) rfl ?_
          refine ao_nil ?_
          exact aq_again (AL.sub (sub_mk idn (by exact ⟨⟨_, rfl, ad_ren rfl⟩, ⟨_, rfl, ad_ren rfl⟩, ⟨_, rfl, ad_ren rfl⟩, ⟨_, rfl, ad_ren rfl⟩, ⟨_, rfl, ad_ren rfl⟩, trivial⟩) (by exact ⟨⟨_, rfl, ⟨ad_ren rfl, rfl, ad_ren rfl, rfl, ad_ren rfl, rfl, trivial⟩⟩, ⟨_, rfl, ⟨rfl, trivial⟩⟩, ⟨_, rfl, ⟨rfl, trivial⟩⟩, trivial⟩) (by rfl) (nk1 rfl rfl)) (ih15 d15 (i14 + 1) ((s13.1.set i14.toNat (IntKind.wrap .i64 ((IntKind.wrap .i64 ((i14.tmod 3) * (IntKind.wrap .i64 (1 + r11.1)))) + (IntKind.wrap .i64 ((IntKind.wrap .i64 (i14.tdiv 3)) * (IntKind.wrap .i64 (1 + r12.1))))))), (s13.2.set i14.toNat (IntKind.wrap .i64 ((IntKind.wrap .i64 ((i14.tmod 2) * (IntKind.wrap .i64 (1 + r11.1)))) + (IntKind.wrap .i64 ((IntKind.wrap .i64 (i14.tdiv 2)) * (IntKind.wrap .i64 (1 + r12.1)))))))) (by omega) ⟨by omega, (by (try simp only [List.length_set, List.length_append, List.length_cons, List.length_nil, List.length_replicate, List.length_take, List.length_drop]) <;> omega), (by (try simp only [List.length_set, List.length_append, List.length_cons, List.length_nil, List.length_replicate, List.length_take, List.length_drop]) <;> omega), (by (try simp only [List.length_set, List.length_append, List.length_cons, List.length_nil, List.length_replicate, List.length_take, List.length_drop]) <;> omega), (by (try simp only [List.length_set, List.length_append, List.length_cons, List.length_nil, List.length_replicate, List.length_take, List.length_drop]) <;> omega)⟩ h))
        · have q19 := d_f hb17
          obtain rfl : d15 = 0 := by omega
          replace h := is_cnt0 h
          refine aw_exit ?_
          refine aq_then_exit ?_
          refine aq_then_exit ?_
          refine aq_in_exit ?_
          refine aq_then ?_
          refine aw_seq ?_
          refine aw_draw 3 (by kernel_rfl) (by kernel_rfl) ?_
          refine an_read 0 (by kernel_rfl) (fun _ _ _ h => h) rfl (by kernel_rfl) trivial (r_load_arr rfl Try.isAgg60 Try.sizeOf60 rfl rfl rfl) rfl ?_
          refine an_scall 1 (by kernel_rfl) (fun _ _ _ h => h) rfl (by kernel_rfl) trivial (scall (c_spec_l2Sorted (is_mk (rfl : p_spec_l2Sorted s13.1 = _))) rfl Try.func170 rfl rfl rfl rfl (fun σ => ⟨ad_ren rfl, trivial⟩)) rfl ?_
          refine an_read 2 (by kernel_rfl) (fun _ _ _ h => h) rfl (by kernel_rfl) trivial (r_load_arr rfl Try.isAgg60 Try.sizeOf60 rfl rfl rfl) rfl ?_
          refine an_tail rfl rfl ?_
          refine ao_scall trivial (scall (c_spec_l2Sorted (is_mk (rfl : p_spec_l2Sorted s13.2 = _))) rfl Try.func170 rfl rfl rfl rfl (fun σ => ⟨ad_ren rfl, trivial⟩)) rfl ?_
          refine ao_eff trivial (e_buildSlice (l := [(0, .tmp 57), (1, .tmp 59)]) (t := (.arr 6 (.int .i64))) 3 ([(p_spec_l2Sorted s13.1), (p_spec_l2Sorted s13.2)] : (List (List Int))) rfl Try.underlying54 Try.zeroValue60 Try.sizeOf60 rfl rfl rfl rfl rfl rfl rfl) rfl ?_
          refine ao_read trivial (r_assign rfl) rfl ?_
          refine ao_nil ?_
          refine aq_then ?_
          refine aw_ret ?_
          refine aq_in_ret ?_
          refine aq_then_ret ?_
          refine aq_ret ?_
          obtain rfl := is_some h
          exact aq_finV (l := [.tmp 2]) (xs := [.os 3]) (rn [(1, 3)]) [.os 1] [(0, .var [.cell (.v (.slice (.int .u8)) x0), .cell (.int .i64 r12.2.1), .cell (.int .u64 r12.2.2)]), (1, .row (.arr 6 (.int .i64)) ([(p_spec_l2Sorted s13.1), (p_spec_l2Sorted s13.2)] : (List (List Int))))] rfl (by exact ⟨rfl, trivial⟩) (by exact ⟨ad_ren rfl, trivial⟩) (by exact ⟨⟨_, rfl, ⟨ad_ren rfl, rfl, ad_ren rfl, rfl, ad_ren rfl, rfl, trivial⟩⟩, ⟨_, rfl, rfl⟩, trivial⟩) rfl (nk1 rfl rfl) ⟨rfl, rfl⟩
      · have q10 := d_f hb8
        replace h := is_else (d_f hb8) h
        refine aw_seq ?_
        refine aw_region ?_
        refine ao_read trivial (r_eql rfl rfl) rfl ?_
        refine ao_read trivial (r_assign rfl) rfl ?_
        refine ao_nil ?_
        refine aq_then ?_
        refine aw_cond rfl (fun hb20 => ?_) (fun hb20 => ?_)
        · have q21 := d_t hb20
          replace h := is_if (d_t hb20) h
          refine aw_seq ?_
          refine aw_region ?_
          refine ao_read trivial (r_move rfl) rfl ?_
          obtain ⟨r23, r23h, h⟩ := is_bind h
          refine ao_callV [0] 5 trivial (c_spec_l1Cur_pool (is_mk r23h)) Try.func113 rfl rfl rfl rfl rfl ⟨rfl, trivial⟩ ⟨⟨_, rfl, ⟨ad_ren rfl, rfl, ad_ren rfl, rfl, ad_ren rfl, rfl, trivial⟩⟩, trivial⟩ rfl rfl rfl rfl rfl rfl rfl (fun r' H' hr => ?_)
          obtain ⟨rfl, rfl⟩ := hr
          refine ao_norm (y := .os 5) (H' := [(0, .var [.cell (.v (.slice (.int .u8)) x0), .cell (.int .i64 r23.2.1), .cell (.int .u64 r23.2.2)]), (5, .row (.arr 6 (.int .i64)) r23.1)]) rfl rfl ?_
          refine row_len_o 5 (r23.1.length : Int) rfl rfl (fun hr24 => ?_)
          refine ao_read trivial (r_assign rfl) rfl ?_
          refine ao_nil ?_
          refine aq_then ?_
          refine aw_ret ?_
          refine aq_in_ret ?_
          refine aq_then_ret ?_
          refine aq_ret ?_
          obtain rfl := is_some h
          exact aq_finV (l := [.tmp 2]) (xs := [.os 5]) (rn [(1, 5)]) [.os 1] [(0, .var [.cell (.v (.slice (.int .u8)) x0), .cell (.int .i64 r23.2.1), .cell (.int .u64 r23.2.2)]), (1, .row (.arr 6 (.int .i64)) r23.1)] rfl (by exact ⟨rfl, trivial⟩) (by exact ⟨ad_ren rfl, trivial⟩) (by exact ⟨⟨_, rfl, ⟨ad_ren rfl, rfl, ad_ren rfl, rfl, ad_ren rfl, rfl, trivial⟩⟩, ⟨_, rfl, rfl⟩, trivial⟩) rfl (nk1 rfl rfl) ⟨rfl, rfl⟩
        · have q22 := d_f hb20
          replace h := is_else (d_f hb20) h
          refine aw_skip ?_
          refine aq_in ?_
          refine aq_then ?_
          refine aw_seq ?_
          refine aw_region ?_
          refine ao_read trivial (r_move rfl) rfl ?_
          obtain ⟨r25, r25h, h⟩ := is_bind h
          refine ao_callV [0] 6 trivial (c_spec_l1Cur_die (is_mk r25h)) Try.func121 rfl rfl rfl rfl rfl ⟨rfl, trivial⟩ ⟨⟨_, rfl, ⟨ad_ren rfl, rfl, ad_ren rfl, rfl, ad_ren rfl, rfl, trivial⟩⟩, trivial⟩ rfl rfl rfl rfl rfl rfl rfl (fun r' H' hr => ?_)
          obtain ⟨rfl, rfl⟩ := hr
          refine ao_norm (y := .v (.arr 6 (.int .i64)) r25.1) (H' := [(0, .var [.cell (.v (.slice (.int .u8)) x0), .cell (.int .i64 r25.2.1), .cell (.int .u64 r25.2.2)])]) rfl rfl ?_
          refine ao_read trivial (r_move rfl) rfl ?_
          obtain ⟨r26, r26h, h⟩ := is_bind h
          refine ao_callV [0] 6 trivial (c_spec_l1Cur_die (is_mk r26h)) Try.func121 rfl rfl rfl rfl rfl ⟨rfl, trivial⟩ ⟨⟨_, rfl, ⟨ad_ren rfl, rfl, ad_ren rfl, rfl, ad_ren rfl, rfl, trivial⟩⟩, trivial⟩ rfl rfl rfl rfl rfl rfl rfl (fun r' H' hr => ?_)
          obtain ⟨rfl, rfl⟩ := hr
          refine ao_norm (y := .v (.arr 6 (.int .i64)) r26.1) (H' := [(0, .var [.cell (.v (.slice (.int .u8)) x0), .cell (.int .i64 r26.2.1), .cell (.int .u64 r26.2.2)])]) rfl rfl ?_
          refine ao_eff trivial (e_buildSlice (l := [(0, .tmp 66), (1, .tmp 68)]) (t := (.arr 6 (.int .i64))) 6 ([r25.1, r26.1] : (List (List Int))) rfl Try.underlying54 Try.zeroValue60 Try.sizeOf60 rfl rfl rfl rfl rfl rfl rfl) rfl ?_
          refine ao_read trivial (r_assign rfl) rfl ?_
          refine ao_nil ?_
          refine aq_then ?_
          refine aw_ret ?_
          refine aq_ret ?_
          obtain rfl := is_some h
          exact aq_finV (l := [.tmp 2]) (xs := [.os 6]) (rn [(1, 6)]) [.os 1] [(0, .var [.cell (.v (.slice (.int .u8)) x0), .cell (.int .i64 r26.2.1), .cell (.int .u64 r26.2.2)]), (1, .row (.arr 6 (.int .i64)) ([r25.1, r26.1] : (List (List Int))))] rfl (by exact ⟨rfl, trivial⟩) (by exact ⟨ad_ren rfl, trivial⟩) (by exact ⟨⟨_, rfl, ⟨ad_ren rfl, rfl, ad_ren rfl, rfl, ad_ren rfl, rfl, trivial⟩⟩, ⟨_, rfl, rfl⟩, trivial⟩) rfl (nk1 rfl rfl) ⟨rfl, rfl⟩
theorem c_spec_DrawFairSizes {fu : Nat} {x0 : (List Int)} {r : (List (List Int))} (h : Is (p_spec_DrawFairSizes fu x0) (some r)) :
    ACalls Try.prog 44 [.v (.slice (.int .u8)) x0] [] (fun r' H' => r' = .os 0 ∧ H' = [(0, .row (.arr 6 (.int .i64)) r)]) := by
  unfold p_spec_DrawFairSizes at h
  refine ac_enter ⟨13, 0⟩ Try.func44 rfl rfl rfl rfl rfl (fun Γ => ?_)
  refine sl_len_m 0 (x0.length : Int) rfl rfl (fun hl0 => ?_)
  refine aw_seq ?_
  refine aw_region ?_
  refine ao_read trivial (r_assign rfl) rfl ?_
  refine ao_nil ?_
  refine aq_then ?_
  refine aw_seq ?_
  refine aw_region ?_
  refine ao_read trivial (r_move rfl) rfl ?_
  refine ao_read trivial (r_build_st (l := [(0, .tmp 4)]) (cs := [.cell (.v (.slice (.int .u8)) x0), .cell (.int .i64 0), .cell (.int .u64 0)]) (.pair (.slice (.int .u8)) (.pair (.int .i64) (.pair (.int .u64) .unit))) [(0, 1), (1, 1), (2, 1)] Try.underlying98 Try.zeroValue98 rfl ⟨rfl, Try.sizeOf22, rfl, Try.sizeOf3, rfl, Try.sizeOf96, trivial⟩ rfl rfl rfl) rfl ?_
  refine ao_eff trivial (e_box 0 rfl rfl rfl rfl rfl rfl) rfl ?_
  refine ao_read trivial (r_assign rfl) rfl ?_
  refine ao_nil ?_
  refine aq_then ?_
  refine aw_seq ?_
  refine aw_seq ?_
  refine aw_region ?_
  refine ao_read trivial (r_move rfl) rfl ?_
  obtain ⟨r1, r1h, h⟩ := is_bind h
  refine ao_callV [0] 1 trivial (c_spec_l1Cur_one (is_mk r1h)) Try.func102 rfl rfl rfl rfl rfl ⟨rfl, trivial⟩ ⟨⟨_, rfl, ⟨ad_ren rfl, rfl, ad_ren rfl, rfl, ad_ren rfl, rfl, trivial⟩⟩, trivial⟩ rfl rfl rfl rfl rfl rfl rfl (fun r' H' hr => ?_)
  obtain ⟨rfl, rfl⟩ := hr
  refine ao_norm (y := .bool r1.1) (H' := [(0, .var [.cell (.v (.slice (.int .u8)) x0), .cell (.int .i64 r1.2.1), .cell (.int .u64 r1.2.2)])]) rfl rfl ?_
  refine ao_nil ?_
  refine aq_then ?_
  refine aw_cond rfl (fun hb2 => ?_) (fun hb2 => ?_)
  · replace h := is_if hb2 h
    refine aw_seq ?_
    refine aw_region ?_
    refine ao_read trivial (r_move rfl) rfl ?_
    obtain ⟨r3, r3h, h⟩ := is_bind h
    refine ao_callV [0] 1 trivial (c_spec_l1Cur_two (is_mk r3h)) Try.func118 rfl rfl rfl rfl rfl ⟨rfl, trivial⟩ ⟨⟨_, rfl, ⟨ad_ren rfl, rfl, ad_ren rfl, rfl, ad_ren rfl, rfl, trivial⟩⟩, trivial⟩ rfl rfl rfl rfl rfl rfl rfl (fun r' H' hr => ?_)
    obtain ⟨rfl, rfl⟩ := hr
    refine ao_norm (y := .os 1) (H' := [(0, .var [.cell (.v (.slice (.int .u8)) x0), .cell (.int .i64 r3.2.1), .cell (.int .u64 r3.2.2)]), (1, .row (.arr 6 (.int .i64)) r3.1)]) rfl rfl ?_
    refine row_len_o 1 (r3.1.length : Int) rfl rfl (fun hr4 => ?_)
    refine ao_read trivial (r_assign rfl) rfl ?_
    refine ao_nil ?_
    refine aq_then ?_
    refine aw_ret ?_
    refine aq_then_ret ?_
    refine aq_ret ?_
    obtain rfl := is_some h
    exact aq_finx (l := [.tmp 2]) (xs := [.os 1]) (rn [(0, 1)]) [.os 0] [(0, .row (.arr 6 (.int .i64)) r3.1)] rfl (by exact ⟨rfl, trivial⟩) (by exact ⟨ad_ren rfl, trivial⟩) (by exact ⟨⟨_, rfl, rfl⟩, trivial⟩) rfl (nk rfl) rfl rfl ⟨rfl, rfl⟩
  · replace h := is_else (ne_t hb2) h
    refine aw_skip ?_
    refine aq_then ?_
    refine aw_seq ?_
    refine aw_region ?_
    refine ao_read trivial (r_move rfl) rfl ?_
    obtain ⟨r5, r5h, h⟩ := is_bind h
    refine ao_callV [0] 2 trivial (c_spec_l1Cur_pool (is_mk r5h)) Try.func113 rfl rfl rfl rfl rfl ⟨rfl, trivial⟩ ⟨⟨_, rfl, ⟨ad_ren rfl, rfl, ad_ren rfl, rfl, ad_ren rfl, rfl, trivial⟩⟩, trivial⟩ rfl rfl rfl rfl rfl rfl rfl (fun r' H' hr => ?_)
    obtain ⟨rfl, rfl⟩ := hr
    refine ao_norm (y := .os 2) (H' := [(0, .var [.cell (.v (.slice (.int .u8)) x0), .cell (.int .i64 r5.2.1), .cell (.int .u64 r5.2.2)]), (2, .row (.arr 6 (.int .i64)) r5.1)]) rfl rfl ?_
    refine row_len_o 2 (r5.1.length : Int) rfl rfl (fun hr6 => ?_)
    refine ao_read trivial (r_assign rfl) rfl ?_
    refine ao_nil ?_
    refine aq_then ?_
    refine aw_ret ?_
    refine aq_ret ?_
    obtain rfl := is_some h
    exact aq_finx (l := [.tmp 2]) (xs := [.os 2]) (rn [(0, 2)]) [.os 0] [(0, .row (.arr 6 (.int .i64)) r5.1)] rfl (by exact ⟨rfl, trivial⟩) (by exact ⟨ad_ren rfl, trivial⟩) (by exact ⟨⟨_, rfl, rfl⟩, trivial⟩) rfl (nk rfl) rfl rfl ⟨rfl, rfl⟩
theorem c_slices_Max_int_int {x0 : (List Int)} {r : Int} (h : Is (p_slices_Max_int_int x0) (some r)) :
    Scalar Try.prog 119 [.v (.slice (.int .i64)) x0] (.int .i64 r) := by
  unfold p_slices_Max_int_int at h
  refine ac_enter ⟨25, 0⟩ Try.func119 rfl rfl rfl rfl rfl (fun Γ => ?_)
  refine sl_len_m 0 (x0.length : Int) rfl rfl (fun hl0 => ?_)
  refine aw_seq ?_
  refine aw_region ?_
  refine ao_read trivial (r_assign rfl) rfl ?_
  refine ao_nil ?_
  refine aq_then ?_
  refine aw_seq ?_
  refine aw_seq ?_
  refine aw_region ?_
  refine ao_read trivial (r_move rfl) rfl ?_
  refine ao_read trivial (r_len_vm (x0.length : Int) Try.underlying24 rfl rfl) rfl ?_
  refine ao_read trivial (r_lss rfl rfl) rfl ?_
  refine ao_nil ?_
  refine aq_then ?_
  refine aw_cond rfl (fun hb1 => ?_) (fun hb1 => ?_)
  · have q2 := d_t hb1
    replace h := is_if (d_t hb1) h
    exact nomatch (show (none : Option _) = some _ from h)
  · have q3 := d_f hb1
    replace h := is_else (d_f hb1) h
    refine aw_skip ?_
    refine aq_then ?_
    refine aw_seq ?_
    refine aw_region ?_
    refine ao_read trivial (r_move rfl) rfl ?_
    refine ao_read trivial (r_idxAddr_int Try.underlying24 Try.sizeOf3 rfl rfl (show 0 ≤ 0 from by omega) (show 0 < (x0.length : Int) from by omega)) rfl ?_
    refine ao_read trivial (r_load_c_int Try.isAgg3 Try.sizeOf3 rfl) rfl ?_
    refine ao_read trivial (r_assign rfl) rfl ?_
    refine ao_nil ?_
    refine aq_then ?_
    refine aw_seq ?_
    refine aw_seq ?_
    refine aw_region ?_
    refine ao_read trivial (r_assign rfl) rfl ?_
    refine ao_nil ?_
    refine aq_then ?_
    refine aw_block ?_
    refine aw_loop (AL.sub (fr' := [(0, .v (.slice (.int .i64)) x0), (3, .int .i64 (x0.getD 0 0)), (4, .int .i64 1)]) (H' := []) (sub_mk idn (by exact ⟨⟨_, rfl, ad_ren rfl⟩, ⟨_, rfl, ad_ren rfl⟩, ⟨_, rfl, ad_ren rfl⟩, trivial⟩) (by exact trivial) (by rfl) (nk rfl)) (al_cnt (fun i5 (s4 : Int) => [(0, .v (.slice (.int .i64)) x0), (3, .int .i64 s4), (4, .int .i64 i5)]) (fun i5 (s4 : Int) => []) (fun d i5 (s4 : Int) => d = Int.toNat ((x0.length : Int) - i5) ∧ (x0.getD 0 0) ≤ s4 ∧ 1 ≤ i5 ∧ i5 ≤ (x0.length : Int)) h ⟨rfl, (by (try simp only [List.length_set, List.length_append, List.length_cons, List.length_nil, List.length_replicate, List.length_take, List.length_drop]) <;> omega), (by (try simp only [List.length_set, List.length_append, List.length_cons, List.length_nil, List.length_replicate, List.length_take, List.length_drop]) <;> omega), (by (try simp only [List.length_set, List.length_append, List.length_cons, List.length_nil, List.length_replicate, List.length_take, List.length_drop]) <;> omega)⟩ (fun d6 i5 s4 hI h ih6 => ?_)))
    obtain ⟨hd, _, _, _⟩ := hI
    refine al_round ?_
    refine aw_seq ?_
    refine aw_seq ?_
    refine aw_region ?_
    refine ao_read trivial (r_move rfl) rfl ?_
    refine ao_read trivial (r_move rfl) rfl ?_
    refine ao_read trivial (r_len_vm (x0.length : Int) Try.underlying24 rfl rfl) rfl ?_
    refine ao_read trivial (r_lss rfl rfl) rfl ?_
    refine ao_nil ?_
    refine aq_then ?_
    refine aw_cond rfl (fun hb8 => ?_) (fun hb8 => ?_)
    · have q9 := d_t hb8
      obtain ⟨d6, rfl⟩ : ∃ e, d6 = e + 1 := ⟨d6 - 1, by omega⟩
      replace h := is_cntS h
      refine aw_skip ?_
      refine aq_then ?_
      refine aw_seq ?_
      refine aw_block ?_
      refine aw_region ?_
      refine ao_read trivial (r_move rfl) rfl ?_
      refine ao_read trivial (r_move rfl) rfl ?_
      refine ao_read trivial (r_move rfl) rfl ?_
      refine ao_read trivial (r_idxAddr_int Try.underlying24 Try.sizeOf3 rfl rfl (show 0 ≤ i5 from by omega) (show i5 < (x0.length : Int) from by omega)) rfl ?_
      refine ao_read trivial (r_load_c_int Try.isAgg3 Try.sizeOf3 rfl) rfl ?_
      refine ao_read trivial (r_max rfl rfl) rfl ?_
      refine ao_read trivial (r_assign rfl) rfl ?_
      refine ao_nil ?_
      refine aq_in ?_
      refine aq_then ?_
      refine aw_region ?_
      refine ao_read trivial (r_move rfl) rfl ?_
      refine ao_read trivial (r_addI rfl rfl (wrap_id (by omega) (by omega))) rfl ?_
      refine ao_read trivial (r_assign rfl) rfl ?_
      refine ao_nil ?_
      exact aq_again (AL.sub (sub_mk idn (by exact ⟨⟨_, rfl, ad_ren rfl⟩, ⟨_, rfl, ad_ren rfl⟩, ⟨_, rfl, ad_ren rfl⟩, trivial⟩) (by exact trivial) (by rfl) (nk rfl)) (ih6 d6 (i5 + 1) (if (x0.getD i5.toNat 0) > s4 then (x0.getD i5.toNat 0) else s4) (by omega) ⟨by omega, (by (try simp only [List.length_set, List.length_append, List.length_cons, List.length_nil, List.length_replicate, List.length_take, List.length_drop]) <;> omega), (by (try simp only [List.length_set, List.length_append, List.length_cons, List.length_nil, List.length_replicate, List.length_take, List.length_drop]) <;> omega), (by (try simp only [List.length_set, List.length_append, List.length_cons, List.length_nil, List.length_replicate, List.length_take, List.length_drop]) <;> omega)⟩ h))
    · have q10 := d_f hb8
      obtain rfl : d6 = 0 := by omega
      replace h := is_cnt0 h
      refine aw_exit ?_
      refine aq_then_exit ?_
      refine aq_then_exit ?_
      refine aq_in_exit ?_
      refine aq_then ?_
      refine aw_seq ?_
      refine aw_region ?_
      refine ao_read trivial (r_move rfl) rfl ?_
      refine ao_read trivial (r_assign rfl) rfl ?_
      refine ao_nil ?_
      refine aq_then ?_
      refine aw_ret ?_
      refine aq_ret ?_
      obtain rfl := is_some h
      exact aq_finx (l := [.tmp 2]) (xs := [.int .i64 s4]) idn [.int .i64 s4] [] rfl (by exact ⟨rfl, trivial⟩) (by exact ⟨ad_ren rfl, trivial⟩) (by exact trivial) rfl (nk rfl) rfl rfl ⟨rfl, rfl⟩
theorem c_slices_Min_int_int {x0 : (List Int)} {r : Int} (h : Is (p_slices_Min_int_int x0) (some r)) :
    Scalar Try.prog 120 [.v (.slice (.int .i64)) x0] (.int .i64 r) := by
  unfold p_slices_Min_int_int at h
  refine ac_enter ⟨25, 0⟩ Try.func120 rfl rfl rfl rfl rfl (fun Γ => ?_)
  refine sl_len_m 0 (x0.length : Int) rfl rfl (fun hl0 => ?_)
  refine aw_seq ?_
  refine aw_region ?_
  refine ao_read trivial (r_assign rfl) rfl ?_
  refine ao_nil ?_
  refine aq_then ?_
  refine aw_seq ?_
  refine aw_seq ?_
  refine aw_region ?_
  refine ao_read trivial (r_move rfl) rfl ?_
  refine ao_read trivial (r_len_vm (x0.length : Int) Try.underlying24 rfl rfl) rfl ?_
  refine ao_read trivial (r_lss rfl rfl) rfl ?_
  refine ao_nil ?_
  refine aq_then ?_
  refine aw_cond rfl (fun hb1 => ?_) (fun hb1 => ?_)
  · have q2 := d_t hb1
    replace h := is_if (d_t hb1) h
    exact nomatch (show (none : Option _) = some _ from h)
  · have q3 := d_f hb1
    replace h := is_else (d_f hb1) h
    refine aw_skip ?_
    refine aq_then ?_
    refine aw_seq ?_
    refine aw_region ?_
    refine ao_read trivial (r_move rfl) rfl ?_
    refine ao_read trivial (r_idxAddr_int Try.underlying24 Try.sizeOf3 rfl rfl (show 0 ≤ 0 from by omega) (show 0 < (x0.length : Int) from by omega)) rfl ?_
    refine ao_read trivial (r_load_c_int Try.isAgg3 Try.sizeOf3 rfl) rfl ?_
    refine ao_read trivial (r_assign rfl) rfl ?_
    refine ao_nil ?_
    refine aq_then ?_
    refine aw_seq ?_
    refine aw_seq ?_
    refine aw_region ?_
    refine ao_read trivial (r_assign rfl) rfl ?_
    refine ao_nil ?_
    refine aq_then ?_
    refine aw_block ?_
    refine aw_loop (AL.sub (fr' := [(0, .v (.slice (.int .i64)) x0), (3, .int .i64 (x0.getD 0 0)), (4, .int .i64 1)]) (H' := []) (sub_mk idn (by exact ⟨⟨_, rfl, ad_ren rfl⟩, ⟨_, rfl, ad_ren rfl⟩, ⟨_, rfl, ad_ren rfl⟩, trivial⟩) (by exact trivial) (by rfl) (nk rfl)) (al_cnt (fun i5 (s4 : Int) => [(0, .v (.slice (.int .i64)) x0), (3, .int .i64 s4), (4, .int .i64 i5)]) (fun i5 (s4 : Int) => []) (fun d i5 (s4 : Int) => d = Int.toNat ((x0.length : Int) - i5) ∧ s4 ≤ (x0.getD 0 0) ∧ 1 ≤ i5 ∧ i5 ≤ (x0.length : Int)) h ⟨rfl, (by (try simp only [List.length_set, List.length_append, List.length_cons, List.length_nil, List.length_replicate, List.length_take, List.length_drop]) <;> omega), (by (try simp only [List.length_set, List.length_append, List.length_cons, List.length_nil, List.length_replicate, List.length_take, List.length_drop]) <;> omega), (by (try simp only [List.length_set, List.length_append, List.length_cons, List.length_nil, List.length_replicate, List.length_take, List.length_drop]) <;> omega)⟩ (fun d6 i5 s4 hI h ih6 => ?_)))
    obtain ⟨hd, _, _, _⟩ := hI
    refine al_round ?_
    refine aw_seq ?_
    refine aw_seq ?_
    refine aw_region ?_
    refine ao_read trivial (r_move rfl) rfl ?_
    refine ao_read trivial (r_move rfl) rfl ?_
    refine ao_read trivial (r_len_vm (x0.length : Int) Try.underlying24 rfl rfl) rfl ?_
    refine ao_read trivial (r_lss rfl rfl) rfl ?_
    refine ao_nil ?_
    refine aq_then ?_
    refine aw_cond rfl (fun hb8 => ?_) (fun hb8 => ?_)
    · have q9 := d_t hb8
      obtain ⟨d6, rfl⟩ : ∃ e, d6 = e + 1 := ⟨d6 - 1, by omega⟩
      replace h := is_cntS h
      refine aw_skip ?_
      refine aq_then ?_
      refine aw_seq ?_
      refine aw_block ?_
      refine aw_region ?_
      refine ao_read trivial (r_move rfl) rfl ?_
      refine ao_read trivial (r_move rfl) rfl ?_
      refine ao_read trivial (r_move rfl) rfl ?_
      refine ao_read trivial (r_idxAddr_int Try.underlying24 Try.sizeOf3 rfl rfl (show 0 ≤ i5 from by omega) (show i5 < (x0.length : Int) from by omega)) rfl ?_
      refine ao_read trivial (r_load_c_int Try.isAgg3 Try.sizeOf3 rfl) rfl ?_
      refine ao_read trivial (r_min rfl rfl) rfl ?_
      refine ao_read trivial (r_assign rfl) rfl ?_
      refine ao_nil ?_
      refine aq_in ?_
      refine aq_then ?_
      refine aw_region ?_
      refine ao_read trivial (r_move rfl) rfl ?_
      refine ao_read trivial (r_addI rfl rfl (wrap_id (by omega) (by omega))) rfl ?_
      refine ao_read trivial (r_assign rfl) rfl ?_
      refine ao_nil ?_
      exact aq_again (AL.sub (sub_mk idn (by exact ⟨⟨_, rfl, ad_ren rfl⟩, ⟨_, rfl, ad_ren rfl⟩, ⟨_, rfl, ad_ren rfl⟩, trivial⟩) (by exact trivial) (by rfl) (nk rfl)) (ih6 d6 (i5 + 1) (if (x0.getD i5.toNat 0) < s4 then (x0.getD i5.toNat 0) else s4) (by omega) ⟨by omega, (by (try simp only [List.length_set, List.length_append, List.length_cons, List.length_nil, List.length_replicate, List.length_take, List.length_drop]) <;> omega), (by (try simp only [List.length_set, List.length_append, List.length_cons, List.length_nil, List.length_replicate, List.length_take, List.length_drop]) <;> omega), (by (try simp only [List.length_set, List.length_append, List.length_cons, List.length_nil, List.length_replicate, List.length_take, List.length_drop]) <;> omega)⟩ h))
    · have q10 := d_f hb8
      obtain rfl : d6 = 0 := by omega
      replace h := is_cnt0 h
      refine aw_exit ?_
      refine aq_then_exit ?_
      refine aq_then_exit ?_
      refine aq_in_exit ?_
      refine aq_then ?_
      refine aw_seq ?_
      refine aw_region ?_
      refine ao_read trivial (r_move rfl) rfl ?_
      refine ao_read trivial (r_assign rfl) rfl ?_
      refine ao_nil ?_
      refine aq_then ?_
      refine aw_ret ?_
      refine aq_ret ?_
      obtain rfl := is_some h
      exact aq_finx (l := [.tmp 2]) (xs := [.int .i64 s4]) idn [.int .i64 s4] [] rfl (by exact ⟨rfl, trivial⟩) (by exact ⟨ad_ren rfl, trivial⟩) (by exact trivial) rfl (nk rfl) rfl rfl ⟨rfl, rfl⟩
theorem c_impl_FairSizes {fu : Nat} {x0 : (List (List Int))} {r : (List Int) × Bool} (h : Is (p_impl_FairSizes fu x0) (some r)) :
    ACalls Try.prog 45 [.v (.slice (.arr 6 (.int .i64))) x0] [] (fun r' H' => r' = .tup [.os 0, .bool r.2] ∧ H' = [(0, .row (.int .i64) r.1)]) := by
  unfold p_impl_FairSizes at h
  refine ac_enter ⟨27, 0⟩ Try.func45 rfl rfl rfl rfl rfl (fun Γ => ?_)
  refine sl_len_m 0 (x0.length : Int) rfl rfl (fun hl0 => ?_)
  refine aw_seq ?_
  refine aw_region ?_
  refine ao_read trivial (r_assign rfl) rfl ?_
  refine ao_read trivial (r_assign rfl) rfl ?_
  refine ao_nil ?_
  refine aq_then ?_
  refine aw_seq ?_
  refine aw_seq ?_
  refine aw_region ?_
  refine ao_read trivial (r_move rfl) rfl ?_
  refine ao_scall trivial (scall (c_impl_IsPool (is_mk (rfl : p_impl_IsPool x0 = _))) rfl Try.func60 rfl rfl rfl rfl (fun σ => ⟨ad_ren rfl, trivial⟩)) rfl ?_
  refine ao_read trivial (r_not rfl) rfl ?_
  refine ao_nil ?_
  refine aq_then ?_
  refine aw_cond rfl (fun hb1 => ?_) (fun hb1 => ?_)
  · replace h := is_else (ne_t (not_t hb1)) h
    refine aw_seq ?_
    refine aw_region ?_
    refine ao_read trivial (r_assign rfl) rfl ?_
    refine ao_read trivial (r_assign rfl) rfl ?_
    refine ao_nil ?_
    refine aq_then ?_
    refine aw_ret ?_
    refine aq_then_ret ?_
    refine aq_ret ?_
    obtain rfl := is_some h
    refine AQ.sub (sub_nil (T := 2) (t := (.int .i64)) 0 rfl rfl rfl) ?_
    exact aq_finx (l := [.tmp 2, .tmp 3]) (xs := [.os 0, .bool false]) idn [.os 0, .bool false] [(0, .row (.int .i64) ([] : (List Int)))] rfl (by exact ⟨rfl, rfl, trivial⟩) (by exact ⟨ad_ren rfl, ad_ren rfl, trivial⟩) (by exact ⟨⟨_, rfl, rfl⟩, trivial⟩) rfl (nk rfl) rfl rfl ⟨rfl, rfl⟩
  · replace h := is_if (not_f hb1) h
    refine aw_skip ?_
    refine aq_then ?_
    refine aw_seq ?_
    refine aw_region ?_
    refine ao_read trivial (r_assign rfl) rfl ?_
    refine ao_nil ?_
    refine aq_then ?_
    refine aw_seq ?_
    refine aw_seq ?_
    refine aw_region ?_
    refine ao_read trivial (r_assign rfl) rfl ?_
    refine ao_nil ?_
    refine aq_then ?_
    refine aw_block ?_
    refine AW.sub (sub_nil (T := 4) (t := (.int .i64)) 4 rfl rfl rfl) ?_
    refine aw_loop (AL.sub (sub_mk (rn [(0, 4)]) (by exact ⟨⟨_, rfl, ad_ren rfl⟩, ⟨_, rfl, ad_ren rfl⟩, ⟨_, rfl, ad_ren rfl⟩, trivial⟩) (by exact ⟨⟨_, rfl, rfl⟩, trivial⟩) (by rfl) (nk rfl)) (al_whl (fun (s2 : Int × (List Int)) => [(0, .v (.slice (.arr 6 (.int .i64))) x0), (4, .os 0), (5, .int .i64 s2.1)]) (fun (s2 : Int × (List Int)) => [(0, .row (.int .i64) s2.2)]) (fun (s2 : Int × (List Int)) => 1 ≤ s2.1) h (by (try simp only [List.length_set, List.length_append, List.length_cons, List.length_nil, List.length_replicate, List.length_take, List.length_drop]) <;> omega) (fun d4 s2 hI h ih4 => ?_)))
    replace h := is_whlS h
    refine al_round ?_
    refine aw_seq ?_
    refine aw_seq ?_
    refine aw_region ?_
    refine ao_read trivial (r_move rfl) rfl ?_
    refine ao_read trivial (r_leq rfl rfl) rfl ?_
    refine ao_nil ?_
    refine aq_then ?_
    refine aw_cond rfl (fun hb6 => ?_) (fun hb6 => ?_)
    · have q7 := d_t hb6
      replace h := is_if (d_t hb6) h
      refine aw_skip ?_
      refine aq_then ?_
      refine aw_seq ?_
      refine aw_block ?_
      refine aw_seq ?_
      refine aw_region ?_
      refine ao_read trivial (r_move rfl) rfl ?_
      refine ao_read trivial (r_move rfl) rfl ?_
      obtain ⟨r9, r9h, h⟩ := is_bind h
      refine ao_call [] 1 trivial (c_impl_remainders (is_mk r9h)) Try.func115 rfl rfl rfl rfl ⟨ad_ren rfl, ad_ren rfl, trivial⟩ trivial rfl rfl rfl rfl rfl rfl rfl (fun r' H' hr => ?_)
      obtain ⟨rfl, rfl⟩ := hr
      refine ao_norm (y := .os 1) (H' := [(0, .row (.int .i64) s2.2), (1, .row (.int .i64) r9)]) rfl rfl ?_
      refine row_len_o 1 (r9.length : Int) rfl rfl (fun hr10 => ?_)
      refine ao_read trivial (r_assign rfl) rfl ?_
      refine ao_nil ?_
      refine aq_then ?_
      refine aw_seq ?_
      refine aw_region ?_
      refine ao_read trivial (r_move rfl) rfl ?_
      obtain ⟨r11, r11h, h⟩ := is_bind h
      refine ao_scall trivial (scall (c_slices_Max_int_int (is_mk r11h)) rfl Try.func119 rfl rfl rfl rfl (fun σ => ⟨ad_os0 rfl, trivial⟩)) rfl ?_
      refine ao_read trivial (r_move rfl) rfl ?_
      obtain ⟨r12, r12h, h⟩ := is_bind h
      refine ao_scall trivial (scall (c_slices_Min_int_int (is_mk r12h)) rfl Try.func120 rfl rfl rfl rfl (fun σ => ⟨ad_os0 rfl, trivial⟩)) rfl ?_
      refine ao_read trivial (r_eql rfl rfl) rfl ?_
      refine ao_nil ?_
      refine aq_then ?_
      refine aw_cond rfl (fun hb13 => ?_) (fun hb13 => ?_)
      · have q14 := d_t hb13
        replace h := is_if (d_t hb13) h
        refine aw_region ?_
        refine ao_read trivial (r_move rfl) rfl ?_
        refine ao_read trivial (r_move rfl) rfl ?_
        refine ao_eff trivial (e_buildSlice (l := [(0, .tmp 23)]) (t := (.int .i64)) 2 ([s2.1] : (List Int)) rfl Try.underlying24 Try.zeroValue3 Try.sizeOf3 rfl rfl rfl rfl rfl rfl rfl) rfl ?_
        obtain ⟨g16, h⟩ := is_guard h
        refine ao_eff trivial (e_append (t := (.int .i64)) 3 rfl Try.underlying24 (rfl : Try.prog.info? 3 = some _) rfl rfl rfl rfl rfl rfl rfl (src_os rfl) (show s2.2.length + ([s2.1] : (List Int)).length ≤ 1000000000 from by (try simp only [List.length_cons, List.length_nil]) <;> omega) rfl rfl) rfl ?_
        refine ao_read trivial (r_assign rfl) rfl ?_
        refine ao_nil ?_
        refine aq_in ?_
        refine aq_then ?_
        refine aw_region ?_
        refine ao_read trivial (r_move rfl) rfl ?_
        refine ao_read trivial (r_addI rfl rfl (wrap_id (by omega) (by omega))) rfl ?_
        refine ao_read trivial (r_assign rfl) rfl ?_
        refine ao_nil ?_
        exact aq_again (AL.sub (sub_mk (rn [(0, 3)]) (by exact ⟨⟨_, rfl, ad_ren rfl⟩, ⟨_, rfl, ad_ren rfl⟩, ⟨_, rfl, ad_ren rfl⟩, trivial⟩) (by exact ⟨⟨_, rfl, rfl⟩, trivial⟩) (by rfl) (nk rfl)) (ih4 ((s2.1 + 1), (s2.2 ++ [s2.1])) (by (try simp only [List.length_set, List.length_append, List.length_cons, List.length_nil, List.length_replicate, List.length_take, List.length_drop]) <;> omega) h))
      · have q15 := d_f hb13
        replace h := is_else (d_f hb13) h
        refine aw_skip ?_
        refine aq_in ?_
        refine aq_then ?_
        refine aw_region ?_
        refine ao_read trivial (r_move rfl) rfl ?_
        refine ao_read trivial (r_addI rfl rfl (wrap_id (by omega) (by omega))) rfl ?_
        refine ao_read trivial (r_assign rfl) rfl ?_
        refine ao_nil ?_
        exact aq_again (AL.sub (sub_mk idn (by exact ⟨⟨_, rfl, ad_ren rfl⟩, ⟨_, rfl, ad_ren rfl⟩, ⟨_, rfl, ad_ren rfl⟩, trivial⟩) (by exact ⟨⟨_, rfl, rfl⟩, trivial⟩) (by rfl) (nk rfl)) (ih4 ((s2.1 + 1), s2.2) (by (try simp only [List.length_set, List.length_append, List.length_cons, List.length_nil, List.length_replicate, List.length_take, List.length_drop]) <;> omega) h))
    · have q8 := d_f hb6
      replace h := is_else (d_f hb6) h
      refine aw_exit ?_
      refine aq_then_exit ?_
      refine aq_then_exit ?_
      refine aq_in_exit ?_
      refine aq_then ?_
      refine aw_seq ?_
      refine aw_region ?_
      refine ao_read trivial (r_move rfl) rfl ?_
      refine ao_read trivial (r_assign rfl) rfl ?_
      refine ao_read trivial (r_assign rfl) rfl ?_
      refine ao_nil ?_
      refine aq_then ?_
      refine aw_ret ?_
      refine aq_ret ?_
      obtain rfl := is_some h
      exact aq_finx (l := [.tmp 2, .tmp 3]) (xs := [.os 0, .bool true]) idn [.os 0, .bool true] [(0, .row (.int .i64) s2.2)] rfl (by exact ⟨rfl, rfl, trivial⟩) (by exact ⟨ad_ren rfl, ad_ren rfl, trivial⟩) (by exact ⟨⟨_, rfl, rfl⟩, trivial⟩) rfl (nk rfl) rfl rfl ⟨rfl, rfl⟩
theorem c_spec_FairSizes {fu : Nat} {x0 : (List (List Int))} {r : (List Int) × Bool} (h : Is (p_spec_FairSizes fu x0) (some r)) :
    ACalls Try.prog 46 [.v (.slice (.arr 6 (.int .i64))) x0] [] (fun r' H' => r' = .tup [.os 0, .bool r.2] ∧ H' = [(0, .row (.int .i64) r.1)]) := by
  unfold p_spec_FairSizes at h
  refine ac_enter ⟨43, 0⟩ Try.func46 rfl rfl rfl rfl rfl (fun Γ => ?_)
  refine sl_len_m 0 (x0.length : Int) rfl rfl (fun hl0 => ?_)
  refine aw_seq ?_
  refine aw_region ?_
  refine ao_read trivial (r_assign rfl) rfl ?_
  refine ao_read trivial (r_assign rfl) rfl ?_
  refine ao_nil ?_
  refine aq_then ?_
  refine aw_seq ?_
  refine aw_region ?_
  refine ao_eff trivial (e_buildSlice (l := []) (t := (.int .i64)) 0 ([] : (List Int)) rfl Try.underlying24 Try.zeroValue3 Try.sizeOf3 rfl rfl rfl rfl rfl rfl rfl) rfl ?_
  refine ao_read trivial (r_assign rfl) rfl ?_
  refine ao_nil ?_
  refine aq_then ?_
  refine aw_seq ?_
  refine aw_seq ?_
  refine aw_region ?_
  refine ao_read trivial (r_move rfl) rfl ?_
  obtain ⟨r1, r1h, h⟩ := is_bind h
  refine ao_scall trivial (scall (c_spec_l2Pool (is_mk r1h)) rfl Try.func116 rfl rfl rfl rfl (fun σ => ⟨ad_ren rfl, trivial⟩)) rfl ?_
  refine ao_read trivial (r_not rfl) rfl ?_
  refine ao_nil ?_
  refine aq_then ?_
  refine aw_cond rfl (fun hb2 => ?_) (fun hb2 => ?_)
  · replace h := is_else (ne_t (not_t hb2)) h
    refine aw_seq ?_
    refine aw_region ?_
    refine ao_read trivial (r_move rfl) rfl ?_
    refine ao_read trivial (r_assign rfl) rfl ?_
    refine ao_read trivial (r_assign rfl) rfl ?_
    refine ao_nil ?_
    refine aq_then ?_
    refine aw_ret ?_
    refine aq_then_ret ?_
    refine aq_ret ?_
    obtain rfl := is_some h
    exact aq_finx (l := [.tmp 2, .tmp 3]) (xs := [.os 0, .bool false]) idn [.os 0, .bool false] [(0, .row (.int .i64) ([] : (List Int)))] rfl (by exact ⟨rfl, rfl, trivial⟩) (by exact ⟨ad_ren rfl, ad_ren rfl, trivial⟩) (by exact ⟨⟨_, rfl, rfl⟩, trivial⟩) rfl (nk rfl) rfl rfl ⟨rfl, rfl⟩
  · replace h := is_if (not_f hb2) h
    refine aw_skip ?_
    refine aq_then ?_
    refine aw_seq ?_
    refine aw_seq ?_
    refine aw_region ?_
    refine ao_read trivial (r_assign rfl) rfl ?_
    refine ao_nil ?_
    refine aq_then ?_
    refine aw_block ?_
    refine aw_loop (AL.sub (sub_mk idn (by exact ⟨⟨_, rfl, ad_ren rfl⟩, ⟨_, rfl, ad_ren rfl⟩, ⟨_, rfl, ad_ren rfl⟩, trivial⟩) (by exact ⟨⟨_, rfl, rfl⟩, trivial⟩) (by rfl) (nk rfl)) (al_whl (fun (s3 : Int × (List Int)) => [(0, .v (.slice (.arr 6 (.int .i64))) x0), (4, .os 0), (5, .int .i64 s3.1)]) (fun (s3 : Int × (List Int)) => [(0, .row (.int .i64) s3.2)]) (fun (s3 : Int × (List Int)) => 1 ≤ s3.1) h (by (try simp only [List.length_set, List.length_append, List.length_cons, List.length_nil, List.length_replicate, List.length_take, List.length_drop]) <;> omega) (fun d5 s3 hI h ih5 => ?_)))
    replace h := is_whlS h
    refine al_round ?_
    refine aw_seq ?_
    refine aw_seq ?_
    refine aw_region ?_
    refine ao_read trivial (r_move rfl) rfl ?_
    refine ao_read trivial (r_leq rfl rfl) rfl ?_
    refine ao_nil ?_
    refine aq_then ?_
    refine aw_cond rfl (fun hb7 => ?_) (fun hb7 => ?_)
    · have q8 := d_t hb7
      replace h := is_if (d_t hb7) h
      refine aw_skip ?_
      refine aq_then ?_
      refine aw_seq ?_
      refine aw_block ?_
      refine aw_seq ?_
      refine aw_region ?_
      refine ao_read trivial (r_move rfl) rfl ?_
      refine ao_read trivial (r_move rfl) rfl ?_
      obtain ⟨r10, r10h, h⟩ := is_bind h
      refine ao_call [] 1 trivial (c_spec_l9Mod (is_mk r10h)) Try.func117 rfl rfl rfl rfl ⟨ad_ren rfl, ad_ren rfl, trivial⟩ trivial rfl rfl rfl rfl rfl rfl rfl (fun r' H' hr => ?_)
      obtain ⟨rfl, rfl⟩ := hr
      refine ao_norm (y := .os 1) (H' := [(0, .row (.int .i64) s3.2), (1, .row (.int .i64) r10)]) rfl rfl ?_
      refine row_len_o 1 (r10.length : Int) rfl rfl (fun hr11 => ?_)
      refine ao_read trivial (r_assign rfl) rfl ?_
      refine ao_read trivial (r_assign rfl) rfl ?_
      refine ao_nil ?_
      refine aq_then ?_
      refine aw_seq ?_
      refine aw_seq ?_
      refine aw_region ?_
      refine ao_read trivial (r_assign rfl) rfl ?_
      refine ao_nil ?_
      refine aq_then ?_
      refine aw_block ?_
      refine aw_loop (AL.sub (fr' := [(0, .v (.slice (.arr 6 (.int .i64))) x0), (4, .os 0), (5, .int .i64 s3.1), (6, .os 1), (7, .bool true), (8, .int .i64 1)]) (H' := [(0, .row (.int .i64) s3.2), (1, .row (.int .i64) r10)]) (sub_mk idn (by exact ⟨⟨_, rfl, ad_ren rfl⟩, ⟨_, rfl, ad_ren rfl⟩, ⟨_, rfl, ad_ren rfl⟩, ⟨_, rfl, ad_ren rfl⟩, ⟨_, rfl, ad_ren rfl⟩, ⟨_, rfl, ad_ren rfl⟩, trivial⟩) (by exact ⟨⟨_, rfl, rfl⟩, ⟨_, rfl, rfl⟩, trivial⟩) (by rfl) (nk rfl)) (al_cnt (fun i13 (s12 : Bool) => [(0, .v (.slice (.arr 6 (.int .i64))) x0), (4, .os 0), (5, .int .i64 s3.1), (6, .os 1), (7, .bool s12), (8, .int .i64 i13)]) (fun i13 (s12 : Bool) => [(0, .row (.int .i64) s3.2), (1, .row (.int .i64) r10)]) (fun d i13 (s12 : Bool) => d = Int.toNat (s3.1 - i13) ∧ 1 ≤ i13 ∧ i13 ≤ s3.1) h ⟨rfl, (by (try simp only [List.length_set, List.length_append, List.length_cons, List.length_nil, List.length_replicate, List.length_take, List.length_drop]) <;> omega), (by (try simp only [List.length_set, List.length_append, List.length_cons, List.length_nil, List.length_replicate, List.length_take, List.length_drop]) <;> omega)⟩ (fun d14 i13 s12 hI h ih14 => ?_)))
      obtain ⟨hd, _, _⟩ := hI
      refine al_round ?_
      refine aw_seq ?_
      refine aw_seq ?_
      refine aw_region ?_
      refine ao_read trivial (r_move rfl) rfl ?_
      refine ao_read trivial (r_move rfl) rfl ?_
      refine ao_read trivial (r_lss rfl rfl) rfl ?_
      refine ao_nil ?_
      refine aq_then ?_
      refine aw_cond rfl (fun hb16 => ?_) (fun hb16 => ?_)
      · have q17 := d_t hb16
        obtain ⟨d14, rfl⟩ : ∃ e, d14 = e + 1 := ⟨d14 - 1, by omega⟩
        replace h := is_cntS h
        refine aw_skip ?_
        refine aq_then ?_
        refine aw_seq ?_
        refine aw_block ?_
        obtain ⟨g22, h⟩ := is_guard h
        refine aw_drawAll (by kernel_rfl) ?_
        refine an_read 0 (by kernel_rfl) (fun _ _ _ h => h) rfl (by kernel_rfl) trivial (r_move rfl) rfl ?_
        refine an_read 1 (by kernel_rfl) (fun _ _ _ h => h) rfl (by kernel_rfl) trivial (r_move rfl) rfl ?_
        refine an_readG 2 (x := .os 1) (by kernel_rfl) (fun _ _ _ h => h) rfl (by kernel_rfl) rfl (GV.T rfl) (fun hg19 => r_move rfl) rfl ?_
        refine an_readG 3 (x := .int .i64 i13) (by kernel_rfl) (fun _ _ _ h => h) rfl (by kernel_rfl) rfl (GV.T rfl) (fun hg20 => r_move rfl) rfl ?_
        refine an_readG 4 (x := .elem 1 0 1 i13.toNat) (by kernel_rfl) (fun _ _ _ h => h) rfl (by kernel_rfl) rfl (GV.T rfl) (fun hg21 => by
              have g22a := g22 hg21
              exact Reads.strip 28 rfl (hg21) (Reads.strip 29 rfl (hg21) (r_idxAddr_os Try.underlying24 Try.sizeOf3 rfl rfl rfl (show 0 ≤ i13 from by omega) (show i13 < (r10.length : Int) from by omega)))) rfl ?_
        refine an_readG 5 (x := .int .i64 (r10.getD i13.toNat 0)) (by kernel_rfl) (fun _ _ _ h => h) rfl (by kernel_rfl) rfl (GV.T rfl) (fun hg23 => by
              have w24 := g22 (hg23)
              exact Reads.strip 30 rfl (hg23) (r_load_elem_int Try.isAgg3 Try.sizeOf3 rfl rfl (show i13.toNat < r10.length from by omega))) rfl ?_
        refine an_readG 6 (x := .os 1) (by kernel_rfl) (fun _ _ _ h => h) rfl (by kernel_rfl) rfl (GV.T rfl) (fun hg25 => by
              have w26 := g22 (hg25)
              exact r_move rfl) rfl ?_
        refine an_readG 7 (x := .elem 1 0 1 0) (by kernel_rfl) (fun _ _ _ h => h) rfl (by kernel_rfl) rfl (GV.T rfl) (fun hg27 => by
              have w28 := g22 (hg27)
              exact Reads.strip 32 rfl (hg27) (r_idxAddr_os Try.underlying24 Try.sizeOf3 rfl rfl rfl (show 0 ≤ 0 from by omega) (show 0 < (r10.length : Int) from by omega))) rfl ?_
        refine an_readG 8 (x := .int .i64 (r10.getD 0 0)) (by kernel_rfl) (fun _ _ _ h => h) rfl (by kernel_rfl) rfl (GV.T rfl) (fun hg29 => by
              have w30 := g22 (hg29)
              exact Reads.strip 33 rfl (hg29) (r_load_elem_int Try.isAgg3 Try.sizeOf3 rfl rfl (show 0 < r10.length from by omega))) rfl ?_
        refine an_readG 9 (x := .bool (decide ((r10.getD i13.toNat 0) = (r10.getD 0 0)))) (by kernel_rfl) (fun _ _ _ h => h) rfl (by kernel_rfl) rfl (GV.T rfl) (fun hg31 => by
              have w32 := g22 (hg31)
              exact Reads.strip 31 rfl (hg31) (Reads.strip 34 rfl (hg31) (r_eql rfl rfl))) rfl ?_
        refine an_read 10 (by kernel_rfl) (fun _ _ _ h => h) rfl (by kernel_rfl) trivial (r_andB rfl rfl) rfl ?_
        refine an_read 11 (by kernel_rfl) (fun _ _ _ h => h) rfl (by kernel_rfl) trivial (r_assign rfl) rfl ?_
        refine an_done rfl ?_
        refine aq_in ?_
        refine aq_then ?_
        refine aw_region ?_
        refine ao_read trivial (r_move rfl) rfl ?_
        refine ao_read trivial (r_addI rfl rfl (wrap_id (by omega) (by omega))) rfl ?_
        refine ao_read trivial (r_assign rfl) rfl ?_
        refine ao_nil ?_
        exact aq_again (AL.sub (sub_mk idn (by exact ⟨⟨_, rfl, ad_ren rfl⟩, ⟨_, rfl, ad_ren rfl⟩, ⟨_, rfl, ad_ren rfl⟩, ⟨_, rfl, ad_ren rfl⟩, ⟨_, rfl, ad_ren rfl⟩, ⟨_, rfl, ad_ren rfl⟩, trivial⟩) (by exact ⟨⟨_, rfl, rfl⟩, ⟨_, rfl, rfl⟩, trivial⟩) (by rfl) (nk rfl)) (ih14 d14 (i13 + 1) (s12 && (decide ((r10.getD i13.toNat 0) = (r10.getD 0 0)))) (by omega) ⟨by omega, (by (try simp only [List.length_set, List.length_append, List.length_cons, List.length_nil, List.length_replicate, List.length_take, List.length_drop]) <;> omega), (by (try simp only [List.length_set, List.length_append, List.length_cons, List.length_nil, List.length_replicate, List.length_take, List.length_drop]) <;> omega)⟩ h))
      · have q18 := d_f hb16
        obtain rfl : d14 = 0 := by omega
        replace h := is_cnt0 h
        refine aw_exit ?_
        refine aq_then_exit ?_
        refine aq_then_exit ?_
        refine aq_in_exit ?_
        refine aq_then ?_
        refine aw_seq ?_
        refine aw_region ?_
        refine ao_read trivial (r_move rfl) rfl ?_
        refine ao_nil ?_
        refine aq_then ?_
        refine aw_cond rfl (fun hb33 => ?_) (fun hb33 => ?_)
        · replace h := is_if hb33 h
          refine aw_region ?_
          refine ao_read trivial (r_move rfl) rfl ?_
          refine ao_read trivial (r_move rfl) rfl ?_
          refine ao_eff trivial (e_buildSlice (l := [(0, .tmp 39)]) (t := (.int .i64)) 2 ([s3.1] : (List Int)) rfl Try.underlying24 Try.zeroValue3 Try.sizeOf3 rfl rfl rfl rfl rfl rfl rfl) rfl ?_
          obtain ⟨g34, h⟩ := is_guard h
          refine ao_eff trivial (e_append (t := (.int .i64)) 3 rfl Try.underlying24 (rfl : Try.prog.info? 3 = some _) rfl rfl rfl rfl rfl rfl rfl (src_os rfl) (show s3.2.length + ([s3.1] : (List Int)).length ≤ 1000000000 from by (try simp only [List.length_cons, List.length_nil]) <;> omega) rfl rfl) rfl ?_
          refine ao_read trivial (r_assign rfl) rfl ?_
          refine ao_nil ?_
          refine aq_in ?_
          refine aq_then ?_
          refine aw_region ?_
          refine ao_read trivial (r_move rfl) rfl ?_
          refine ao_read trivial (r_addI rfl rfl (wrap_id (by omega) (by omega))) rfl ?_
          refine ao_read trivial (r_assign rfl) rfl ?_
          refine ao_nil ?_
          exact aq_again (AL.sub (sub_mk (rn [(0, 3)]) (by exact ⟨⟨_, rfl, ad_ren rfl⟩, ⟨_, rfl, ad_ren rfl⟩, ⟨_, rfl, ad_ren rfl⟩, trivial⟩) (by exact ⟨⟨_, rfl, rfl⟩, trivial⟩) (by rfl) (nk rfl)) (ih5 ((s3.1 + 1), (s3.2 ++ [s3.1])) (by (try simp only [List.length_set, List.length_append, List.length_cons, List.length_nil, List.length_replicate, List.length_take, List.length_drop]) <;> omega) h))
        · replace h := is_else (ne_t hb33) h
          refine aw_skip ?_
          refine aq_in ?_
          refine aq_then ?_
          refine aw_region ?_
          refine ao_read trivial (r_move rfl) rfl ?_
          refine ao_read trivial (r_addI rfl rfl (wrap_id (by omega) (by omega))) rfl ?_
          refine ao_read trivial (r_assign rfl) rfl ?_
          refine ao_nil ?_
          exact aq_again (AL.sub (sub_mk idn (by exact ⟨⟨_, rfl, ad_ren rfl⟩, ⟨_, rfl, ad_ren rfl⟩, ⟨_, rfl, ad_ren rfl⟩, trivial⟩) (by exact ⟨⟨_, rfl, rfl⟩, trivial⟩) (by rfl) (nk rfl)) (ih5 ((s3.1 + 1), s3.2) (by (try simp only [List.length_set, List.length_append, List.length_cons, List.length_nil, List.length_replicate, List.length_take, List.length_drop]) <;> omega) h))
    · have q9 := d_f hb7
      replace h := is_else (d_f hb7) h
      refine aw_exit ?_
      refine aq_then_exit ?_
      refine aq_then_exit ?_
      refine aq_in_exit ?_
      refine aq_then ?_
      refine aw_seq ?_
      refine aw_region ?_
      refine ao_read trivial (r_move rfl) rfl ?_
      refine ao_read trivial (r_assign rfl) rfl ?_
      refine ao_read trivial (r_assign rfl) rfl ?_
      refine ao_nil ?_
      refine aq_then ?_
      refine aw_ret ?_
      refine aq_ret ?_
      obtain rfl := is_some h
      exact aq_finx (l := [.tmp 2, .tmp 3]) (xs := [.os 0, .bool true]) idn [.os 0, .bool true] [(0, .row (.int .i64) s3.2)] rfl (by exact ⟨rfl, rfl, trivial⟩) (by exact ⟨ad_ren rfl, ad_ren rfl, trivial⟩) (by exact ⟨⟨_, rfl, rfl⟩, trivial⟩) rfl (nk rfl) rfl rfl ⟨rfl, rfl⟩
theorem c_laws_FnBits {fu : Nat} {x0 : (List Int)} {r : Bool} (h : Is (p_laws_FnBits fu x0) (some r)) :
    Scalar Try.prog 4 [.v (.slice (.int .u8)) x0] (.bool r) := by
  unfold p_laws_FnBits at h
  refine ac_enter ⟨389, 0⟩ Try.func4 rfl rfl rfl rfl rfl (fun Γ => ?_)
  refine sl_len_m 0 (x0.length : Int) rfl rfl (fun hl0 => ?_)
  refine aw_seq ?_
  refine aw_region ?_
  refine ao_read trivial (r_assign rfl) rfl ?_
  refine ao_nil ?_
  refine aq_then ?_
  refine aw_seq ?_
  refine aw_seq ?_
  refine aw_region ?_
  refine ao_read trivial (r_move rfl) rfl ?_
  refine ao_scall trivial (scall (c_laws_rBig (is_mk (rfl : p_laws_rBig x0 = _))) rfl Try.func7 rfl rfl rfl rfl (fun σ => ⟨ad_ren rfl, trivial⟩)) rfl ?_
  refine ao_nil ?_
  refine aq_then ?_
  refine aw_cond rfl (fun hb1 => ?_) (fun hb1 => ?_)
  · replace h := is_if hb1 h
    refine aw_seq ?_
    refine aw_region ?_
    refine ao_read trivial (r_assign rfl) rfl ?_
    refine ao_nil ?_
    refine aq_then ?_
    refine aw_ret ?_
    refine aq_then_ret ?_
    refine aq_ret ?_
    obtain rfl := is_some h
    exact aq_finx (l := [.tmp 2]) (xs := [.bool true]) idn [.bool true] [] rfl (by exact ⟨rfl, trivial⟩) (by exact ⟨ad_ren rfl, trivial⟩) (by exact trivial) rfl (nk rfl) rfl rfl ⟨rfl, rfl⟩
  · replace h := is_else (ne_t hb1) h
    refine aw_skip ?_
    refine aq_then ?_
    refine aw_seq ?_
    refine aw_region ?_
    refine ao_read trivial (r_move rfl) rfl ?_
    obtain ⟨r2, r2h, h⟩ := is_bind h
    refine ao_call [] 0 trivial (c_spec_DrawBitsOf (is_mk r2h)) Try.func29 rfl rfl rfl rfl ⟨ad_ren rfl, trivial⟩ trivial rfl rfl rfl rfl rfl rfl rfl (fun r' H' hr => ?_)
    obtain ⟨rfl, rfl⟩ := hr
    refine ao_norm (y := .os 0) (H' := [(0, .row (.int .i64) r2)]) rfl rfl ?_
    refine row_len_o 0 (r2.length : Int) rfl rfl (fun hr3 => ?_)
    refine ao_read trivial (r_assign rfl) rfl ?_
    refine ao_nil ?_
    refine aq_then ?_
    refine aw_seq ?_
    refine aw_region ?_
    refine ao_read trivial (r_move rfl) rfl ?_
    obtain ⟨r4, r4h, h⟩ := is_bind h
    refine ao_call [] 1 trivial (c_impl_BitsOf (is_mk r4h)) Try.func30 rfl rfl rfl rfl ⟨ad_os0 rfl, trivial⟩ trivial rfl rfl rfl rfl rfl rfl rfl (fun r' H' hr => ?_)
    obtain ⟨rfl, rfl⟩ := hr
    refine ao_norm (y := .tup [.os 1, .bool r4.2]) (H' := [(0, .row (.int .i64) r2), (1, .row (.int .i64) r4.1)]) rfl rfl ?_
    refine row_len_o 1 (r4.1.length : Int) rfl rfl (fun hr5 => ?_)
    refine ao_read trivial (r_move rfl) rfl ?_
    refine ao_read trivial (r_extract rfl rfl) rfl ?_
    refine ao_read trivial (r_extract rfl rfl) rfl ?_
    refine ao_read trivial (r_assign rfl) rfl ?_
    refine ao_read trivial (r_assign rfl) rfl ?_
    refine ao_nil ?_
    refine aq_then ?_
    refine aw_seq ?_
    refine aw_seq ?_
    refine aw_region ?_
    refine ao_read trivial (r_move rfl) rfl ?_
    obtain ⟨r6, r6h, h⟩ := is_bind h
    refine ao_call [] 2 trivial (c_spec_BitsOf (is_mk r6h)) Try.func31 rfl rfl rfl rfl ⟨ad_os0 rfl, trivial⟩ trivial rfl rfl rfl rfl rfl rfl rfl (fun r' H' hr => ?_)
    obtain ⟨rfl, rfl⟩ := hr
    refine ao_norm (y := .tup [.os 2, .bool r6.2]) (H' := [(0, .row (.int .i64) r2), (1, .row (.int .i64) r4.1), (2, .row (.int .i64) r6.1)]) rfl rfl ?_
    refine row_len_o 2 (r6.1.length : Int) rfl rfl (fun hr7 => ?_)
    refine ao_read trivial (r_move rfl) rfl ?_
    refine ao_read trivial (r_extract rfl rfl) rfl ?_
    refine ao_read trivial (r_extract rfl rfl) rfl ?_
    refine ao_read trivial (r_assign rfl) rfl ?_
    refine ao_read trivial (r_assign rfl) rfl ?_
    refine ao_nil ?_
    refine aq_then ?_
    refine aw_seq ?_
    refine aw_region ?_
    refine ao_read trivial (r_move rfl) rfl ?_
    refine ao_read trivial (r_move rfl) rfl ?_
    refine ao_read trivial (r_neq_bool Try.underlying4 rfl rfl) rfl ?_
    refine ao_read trivial (r_move rfl) rfl ?_
    refine ao_readG (x := .os 1) rfl (GV.F rfl) (fun hg8 => r_move rfl) rfl ?_
    refine ao_readG (x := .os 2) rfl (GV.F rfl) (fun hg9 => r_move rfl) rfl ?_
    refine ao_scallG (r := .bool (p_laws_rInts r4.1 r6.1)) rfl (GV.F rfl) (fun hg10 => SCall.strip 71 rfl (hg10) (SCall.strip 72 rfl (hg10) (scall (c_laws_rInts (is_mk (rfl : p_laws_rInts r4.1 r6.1 = _))) rfl Try.func25 rfl rfl rfl rfl (fun σ => ⟨ad_os0 rfl, ad_os0 rfl, trivial⟩)))) rfl ?_
    refine ao_readG (x := .bool (!(p_laws_rInts r4.1 r6.1))) rfl (GV.F rfl) (fun hg11 => Reads.strip 73 rfl (hg11) (r_not rfl)) rfl ?_
    refine ao_read trivial (r_orB rfl rfl) rfl ?_
    refine ao_read trivial (r_move rfl) rfl ?_
    refine ao_readG (x := .bool r4.2) rfl (GV.F rfl) (fun hg12 => by
          obtain ⟨q13, q14⟩ := or_f (not_t hg12)
          exact r_move rfl) rfl ?_
    refine ao_readG (x := .bool r4.2) rfl (GV.F rfl) (fun hg15 => by
          obtain ⟨q16, q17⟩ := or_f (not_t hg15)
          exact Reads.strip 77 rfl (hg15) (r_move rfl)) rfl ?_
    refine ao_readG (x := .os 1) rfl (GV.gT rfl) (fun hg18 => by
          obtain ⟨q19, q20⟩ := and_t hg18
          obtain ⟨q21, q22⟩ := or_f (not_t q19)
          exact r_move rfl) rfl ?_
    refine ao_readG (x := .int .i64 (r4.1.length : Int)) rfl (GV.gT rfl) (fun hg23 => by
          obtain ⟨q24, q25⟩ := and_t hg23
          obtain ⟨q26, q27⟩ := or_f (not_t q24)
          exact Reads.strip 79 rfl (hg23) (r_len_osm (r4.1.length : Int) Try.underlying24 rfl rfl rfl)) rfl ?_
    refine ao_readG (x := .os 0) rfl (GV.gT rfl) (fun hg28 => by
          obtain ⟨q29, q30⟩ := and_t hg28
          obtain ⟨q31, q32⟩ := or_f (not_t q29)
          exact r_move rfl) rfl ?_
    refine ao_readG (x := .int .i64 (r2.length : Int)) rfl (GV.gT rfl) (fun hg33 => by
          obtain ⟨q34, q35⟩ := and_t hg33
          obtain ⟨q36, q37⟩ := or_f (not_t q34)
          exact Reads.strip 81 rfl (hg33) (r_len_osm (r2.length : Int) Try.underlying24 rfl rfl rfl)) rfl ?_
    refine ao_readG (x := .bool (decide ((r4.1.length : Int) < (r2.length : Int)))) rfl (GV.gT rfl) (fun hg38 => by
          obtain ⟨q39, q40⟩ := and_t hg38
          obtain ⟨q41, q42⟩ := or_f (not_t q39)
          exact Reads.strip 80 rfl (hg38) (Reads.strip 82 rfl (hg38) (r_lss rfl rfl))) rfl ?_
    refine ao_readG (x := .bool (decide ((r4.1.length : Int) < (r2.length : Int)))) rfl (GV.gT rfl) (fun hg43 => by
          obtain ⟨q44, q45⟩ := and_t hg43
          obtain ⟨q46, q47⟩ := or_f (not_t q44)
          exact Reads.strip 83 rfl (hg43) (r_move rfl)) rfl ?_
    refine ao_readG (x := .os 1) rfl (GV.gF rfl) (fun hg48 => by
          obtain ⟨q49, q50⟩ := and_t hg48
          obtain ⟨q51, q52⟩ := and_t q49
          obtain ⟨q53, q54⟩ := or_f (not_t q51)
          have q55 := d_f (not_t q50)
          exact r_move rfl) rfl ?_
    refine ao_readG (x := .int .i64 (r4.1.length : Int)) rfl (GV.gF rfl) (fun hg56 => by
          obtain ⟨q57, q58⟩ := and_t hg56
          obtain ⟨q59, q60⟩ := and_t q57
          obtain ⟨q61, q62⟩ := or_f (not_t q59)
          have q63 := d_f (not_t q58)
          exact Reads.strip 85 rfl (hg56) (r_len_osm (r4.1.length : Int) Try.underlying24 rfl rfl rfl)) rfl ?_
    refine ao_readG (x := .os 0) rfl (GV.gF rfl) (fun hg64 => by
          obtain ⟨q65, q66⟩ := and_t hg64
          obtain ⟨q67, q68⟩ := and_t q65
          obtain ⟨q69, q70⟩ := or_f (not_t q67)
          have q71 := d_f (not_t q66)
          exact r_move rfl) rfl ?_
    refine ao_readG (x := .int .i64 (r2.length : Int)) rfl (GV.gF rfl) (fun hg72 => by
          obtain ⟨q73, q74⟩ := and_t hg72
          obtain ⟨q75, q76⟩ := and_t q73
          obtain ⟨q77, q78⟩ := or_f (not_t q75)
          have q79 := d_f (not_t q74)
          exact Reads.strip 87 rfl (hg72) (r_len_osm (r2.length : Int) Try.underlying24 rfl rfl rfl)) rfl ?_
    refine ao_readG (x := .int .i64 (IntKind.wrap .i64 (2 * (r2.length : Int)))) rfl (GV.gF rfl) (fun hg80 => by
          obtain ⟨q81, q82⟩ := and_t hg80
          obtain ⟨q83, q84⟩ := and_t q81
          obtain ⟨q85, q86⟩ := or_f (not_t q83)
          have q87 := d_f (not_t q82)
          exact Reads.strip 88 rfl (hg80) (r_mul rfl rfl)) rfl ?_
    refine ao_readG (x := .bool (decide ((IntKind.wrap .i64 (2 * (r2.length : Int))) < (r4.1.length : Int)))) rfl (GV.gF rfl) (fun hg88 => by
          obtain ⟨q89, q90⟩ := and_t hg88
          obtain ⟨q91, q92⟩ := and_t q89
          obtain ⟨q93, q94⟩ := or_f (not_t q91)
          have q95 := d_f (not_t q90)
          exact Reads.strip 86 rfl (hg88) (Reads.strip 89 rfl (hg88) (r_gtr rfl rfl))) rfl ?_
    refine ao_readG (x := .bool ((decide ((r4.1.length : Int) < (r2.length : Int))) || (decide ((IntKind.wrap .i64 (2 * (r2.length : Int))) < (r4.1.length : Int))))) rfl (GV.gT rfl) (fun hg96 => by
          obtain ⟨q97, q98⟩ := and_t hg96
          obtain ⟨q99, q100⟩ := or_f (not_t q97)
          exact Reads.strip 84 rfl (hg96) (r_orBg rfl rfl (tr_and (hg96)))) rfl ?_
    refine ao_readG (x := .bool (r4.2 && ((decide ((r4.1.length : Int) < (r2.length : Int))) || (decide ((IntKind.wrap .i64 (2 * (r2.length : Int))) < (r4.1.length : Int)))))) rfl (GV.F rfl) (fun hg101 => by
          obtain ⟨q102, q103⟩ := or_f (not_t hg101)
          exact Reads.strip 78 rfl (hg101) (r_andBg rfl rfl (tr_and (hg101)))) rfl ?_
    refine ao_read trivial (r_orB rfl rfl) rfl ?_
    refine ao_nil ?_
    refine aq_then ?_
    refine aw_cond rfl (fun hb104 => ?_) (fun hb104 => ?_)
    · replace h := is_if hb104 h
      refine aw_seq ?_
      refine aw_region ?_
      refine ao_read trivial (r_assign rfl) rfl ?_
      refine ao_nil ?_
      refine aq_then ?_
      refine aw_ret ?_
      refine aq_then_ret ?_
      refine aq_ret ?_
      obtain rfl := is_some h
      exact aq_finx (l := [.tmp 2]) (xs := [.bool false]) idn [.bool false] [] rfl (by exact ⟨rfl, trivial⟩) (by exact ⟨ad_ren rfl, trivial⟩) (by exact trivial) rfl (nk rfl) rfl rfl ⟨rfl, rfl⟩
    · obtain ⟨q105, q106⟩ := or_f hb104
      obtain ⟨q107, q108⟩ := or_f q105
      replace h := is_else (ne_t hb104) h
      refine aw_skip ?_
      refine aq_then ?_
      refine aw_seq ?_
      refine aw_region ?_
      refine ao_read trivial (r_move rfl) rfl ?_
      obtain ⟨r109, r109h, h⟩ := is_bind h
      refine ao_call [] 3 trivial (c_spec_DrawThrowsOf (is_mk r109h)) Try.func32 rfl rfl rfl rfl ⟨ad_ren rfl, trivial⟩ trivial rfl rfl rfl rfl rfl rfl rfl (fun r' H' hr => ?_)
      obtain ⟨rfl, rfl⟩ := hr
      refine ao_norm (y := .os 3) (H' := [(0, .row (.int .i64) r2), (1, .row (.int .i64) r4.1), (2, .row (.int .i64) r6.1), (3, .row (.int .i64) r109)]) rfl rfl ?_
      refine row_len_o 3 (r109.length : Int) rfl rfl (fun hr110 => ?_)
      refine ao_read trivial (r_assign rfl) rfl ?_
      refine ao_nil ?_
      refine aq_then ?_
      refine aw_seq ?_
      refine aw_region ?_
      refine ao_read trivial (r_move rfl) rfl ?_
      obtain ⟨r111, r111h, h⟩ := is_bind h
      refine ao_call [] 4 trivial (c_impl_ThrowsOf (is_mk r111h)) Try.func33 rfl rfl rfl rfl ⟨ad_os0 rfl, trivial⟩ trivial rfl rfl rfl rfl rfl rfl rfl (fun r' H' hr => ?_)
      obtain ⟨rfl, rfl⟩ := hr
      refine ao_norm (y := .tup [.os 4, .int .i64 r111.2.1, .bool r111.2.2]) (H' := [(0, .row (.int .i64) r2), (1, .row (.int .i64) r4.1), (2, .row (.int .i64) r6.1), (3, .row (.int .i64) r109), (4, .row (.int .i64) r111.1)]) rfl rfl ?_
      refine row_len_o 4 (r111.1.length : Int) rfl rfl (fun hr112 => ?_)
      refine ao_read trivial (r_move rfl) rfl ?_
      refine ao_read trivial (r_extract rfl rfl) rfl ?_
      refine ao_read trivial (r_extract rfl rfl) rfl ?_
      refine ao_read trivial (r_extract rfl rfl) rfl ?_
      refine ao_read trivial (r_assign rfl) rfl ?_
      refine ao_read trivial (r_assign rfl) rfl ?_
      refine ao_read trivial (r_assign rfl) rfl ?_
      refine ao_nil ?_
      refine aq_then ?_
      refine aw_seq ?_
      refine aw_seq ?_
      refine aw_region ?_
      refine ao_read trivial (r_move rfl) rfl ?_
      obtain ⟨r113, r113h, h⟩ := is_bind h
      refine ao_call [] 5 trivial (c_spec_ThrowsOf (is_mk r113h)) Try.func34 rfl rfl rfl rfl ⟨ad_os0 rfl, trivial⟩ trivial rfl rfl rfl rfl rfl rfl rfl (fun r' H' hr => ?_)
      obtain ⟨rfl, rfl⟩ := hr
      refine ao_norm (y := .tup [.os 5, .int .i64 r113.2.1, .bool r113.2.2]) (H' := [(0, .row (.int .i64) r2), (1, .row (.int .i64) r4.1), (2, .row (.int .i64) r6.1), (3, .row (.int .i64) r109), (4, .row (.int .i64) r111.1), (5, .row (.int .i64) r113.1)]) rfl rfl ?_
      refine row_len_o 5 (r113.1.length : Int) rfl rfl (fun hr114 => ?_)
      refine ao_read trivial (r_move rfl) rfl ?_
      refine ao_read trivial (r_extract rfl rfl) rfl ?_
      refine ao_read trivial (r_extract rfl rfl) rfl ?_
      refine ao_read trivial (r_extract rfl rfl) rfl ?_
      refine ao_read trivial (r_assign rfl) rfl ?_
      refine ao_read trivial (r_assign rfl) rfl ?_
      refine ao_read trivial (r_assign rfl) rfl ?_
      refine ao_nil ?_
      refine aq_then ?_
      refine aw_seq ?_
      refine aw_region ?_
      refine ao_read trivial (r_move rfl) rfl ?_
      refine ao_read trivial (r_move rfl) rfl ?_
      refine ao_read trivial (r_neq rfl rfl) rfl ?_
      refine ao_read trivial (r_move rfl) rfl ?_
      refine ao_readG (x := .bool r111.2.2) rfl (GV.F rfl) (fun hg115 => by
            have q116 := d_t (not_f (not_t hg115))
            exact r_move rfl) rfl ?_
      refine ao_readG (x := .bool r113.2.2) rfl (GV.F rfl) (fun hg117 => by
            have q118 := d_t (not_f (not_t hg117))
            exact r_move rfl) rfl ?_
      refine ao_readG (x := .bool (r111.2.2 != r113.2.2)) rfl (GV.F rfl) (fun hg119 => by
            have q120 := d_t (not_f (not_t hg119))
            exact Reads.strip 112 rfl (hg119) (Reads.strip 113 rfl (hg119) (r_neq_bool Try.underlying4 rfl rfl))) rfl ?_
      refine ao_read trivial (r_orB rfl rfl) rfl ?_
      refine ao_read trivial (r_move rfl) rfl ?_
      refine ao_readG (x := .os 4) rfl (GV.F rfl) (fun hg121 => by
            obtain ⟨q122, q123⟩ := or_f (not_t hg121)
            have q124 := d_t (not_f q122)
            exact r_move rfl) rfl ?_
      refine ao_readG (x := .os 5) rfl (GV.F rfl) (fun hg125 => by
            obtain ⟨q126, q127⟩ := or_f (not_t hg125)
            have q128 := d_t (not_f q126)
            exact r_move rfl) rfl ?_
      refine ao_scallG (r := .bool (p_laws_rInts r111.1 r113.1)) rfl (GV.F rfl) (fun hg129 => by
            obtain ⟨q130, q131⟩ := or_f (not_t hg129)
            have q132 := d_t (not_f q130)
            exact SCall.strip 117 rfl (hg129) (SCall.strip 118 rfl (hg129) (scall (c_laws_rInts (is_mk (rfl : p_laws_rInts r111.1 r113.1 = _))) rfl Try.func25 rfl rfl rfl rfl (fun σ => ⟨ad_os0 rfl, ad_os0 rfl, trivial⟩)))) rfl ?_
      refine ao_readG (x := .bool (!(p_laws_rInts r111.1 r113.1))) rfl (GV.F rfl) (fun hg133 => by
            obtain ⟨q134, q135⟩ := or_f (not_t hg133)
            have q136 := d_t (not_f q134)
            exact Reads.strip 119 rfl (hg133) (r_not rfl)) rfl ?_
      refine ao_read trivial (r_orB rfl rfl) rfl ?_
      refine ao_read trivial (r_move rfl) rfl ?_
      refine ao_readG (x := .bool r111.2.2) rfl (GV.F rfl) (fun hg137 => by
            obtain ⟨q138, q139⟩ := or_f (not_t hg137)
            obtain ⟨q140, q141⟩ := or_f q138
            have q142 := d_t (not_f q140)
            exact r_move rfl) rfl ?_
      refine ao_readG (x := .bool r111.2.2) rfl (GV.F rfl) (fun hg143 => by
            obtain ⟨q144, q145⟩ := or_f (not_t hg143)
            obtain ⟨q146, q147⟩ := or_f q144
            have q148 := d_t (not_f q146)
            exact Reads.strip 123 rfl (hg143) (r_move rfl)) rfl ?_
      refine ao_readG (x := .int .i64 r111.2.1) rfl (GV.gT rfl) (fun hg149 => by
            obtain ⟨q150, q151⟩ := and_t hg149
            obtain ⟨q152, q153⟩ := or_f (not_t q150)
            obtain ⟨q154, q155⟩ := or_f q152
            have q156 := d_t (not_f q154)
            exact r_move rfl) rfl ?_
      refine ao_readG (x := .bool (decide (r111.2.1 < 0))) rfl (GV.gT rfl) (fun hg157 => by
            obtain ⟨q158, q159⟩ := and_t hg157
            obtain ⟨q160, q161⟩ := or_f (not_t q158)
            obtain ⟨q162, q163⟩ := or_f q160
            have q164 := d_t (not_f q162)
            exact Reads.strip 125 rfl (hg157) (r_lss rfl rfl)) rfl ?_
      refine ao_readG (x := .bool (decide (r111.2.1 < 0))) rfl (GV.gT rfl) (fun hg165 => by
            obtain ⟨q166, q167⟩ := and_t hg165
            obtain ⟨q168, q169⟩ := or_f (not_t q166)
            obtain ⟨q170, q171⟩ := or_f q168
            have q172 := d_t (not_f q170)
            exact Reads.strip 126 rfl (hg165) (r_move rfl)) rfl ?_
      refine ao_readG (x := .int .i64 r111.2.1) rfl (GV.gF rfl) (fun hg173 => by
            obtain ⟨q174, q175⟩ := and_t hg173
            obtain ⟨q176, q177⟩ := and_t q174
            obtain ⟨q178, q179⟩ := or_f (not_t q176)
            obtain ⟨q180, q181⟩ := or_f q178
            have q182 := d_t (not_f q180)
            have q183 := d_f (not_t q175)
            exact r_move rfl) rfl ?_
      refine ao_readG (x := .bool (decide (2 < r111.2.1))) rfl (GV.gF rfl) (fun hg184 => by
            obtain ⟨q185, q186⟩ := and_t hg184
            obtain ⟨q187, q188⟩ := and_t q185
            obtain ⟨q189, q190⟩ := or_f (not_t q187)
            obtain ⟨q191, q192⟩ := or_f q189
            have q193 := d_t (not_f q191)
            have q194 := d_f (not_t q186)
            exact Reads.strip 128 rfl (hg184) (r_gtr rfl rfl)) rfl ?_
      refine ao_readG (x := .bool ((decide (r111.2.1 < 0)) || (decide (2 < r111.2.1)))) rfl (GV.gT rfl) (fun hg195 => by
            obtain ⟨q196, q197⟩ := and_t hg195
            obtain ⟨q198, q199⟩ := or_f (not_t q196)
            obtain ⟨q200, q201⟩ := or_f q198
            have q202 := d_t (not_f q200)
            exact Reads.strip 127 rfl (hg195) (r_orBg rfl rfl (tr_and (hg195)))) rfl ?_
      refine ao_readG (x := .bool ((decide (r111.2.1 < 0)) || (decide (2 < r111.2.1)))) rfl (GV.gT rfl) (fun hg203 => by
            obtain ⟨q204, q205⟩ := and_t hg203
            obtain ⟨q206, q207⟩ := or_f (not_t q204)
            obtain ⟨q208, q209⟩ := or_f q206
            have q210 := d_t (not_f q208)
            exact Reads.strip 130 rfl (hg203) (r_move rfl)) rfl ?_
      refine ao_readG (x := .os 4) rfl (GV.gF rfl) (fun hg211 => by
            obtain ⟨q212, q213⟩ := and_t hg211
            obtain ⟨q214, q215⟩ := and_t q212
            obtain ⟨q216, q217⟩ := or_f (not_t q214)
            obtain ⟨q218, q219⟩ := or_f q216
            have q220 := d_t (not_f q218)
            obtain ⟨q221, q222⟩ := or_f (not_t q213)
            have q223 := d_f q221
            have q224 := d_f q222
            exact r_move rfl) rfl ?_
      refine ao_readG (x := .int .i64 (r111.1.length : Int)) rfl (GV.gF rfl) (fun hg225 => by
            obtain ⟨q226, q227⟩ := and_t hg225
            obtain ⟨q228, q229⟩ := and_t q226
            obtain ⟨q230, q231⟩ := or_f (not_t q228)
            obtain ⟨q232, q233⟩ := or_f q230
            have q234 := d_t (not_f q232)
            obtain ⟨q235, q236⟩ := or_f (not_t q227)
            have q237 := d_f q235
            have q238 := d_f q236
            exact Reads.strip 132 rfl (hg225) (r_len_osm (r111.1.length : Int) Try.underlying24 rfl rfl rfl)) rfl ?_
      refine ao_readG (x := .int .i64 (IntKind.wrap .i64 (3 * (r111.1.length : Int)))) rfl (GV.gF rfl) (fun hg239 => by
            obtain ⟨q240, q241⟩ := and_t hg239
            obtain ⟨q242, q243⟩ := and_t q240
            obtain ⟨q244, q245⟩ := or_f (not_t q242)
            obtain ⟨q246, q247⟩ := or_f q244
            have q248 := d_t (not_f q246)
            obtain ⟨q249, q250⟩ := or_f (not_t q241)
            have q251 := d_f q249
            have q252 := d_f q250
            exact Reads.strip 133 rfl (hg239) (r_mul rfl rfl)) rfl ?_
      refine ao_readG (x := .os 3) rfl (GV.gF rfl) (fun hg253 => by
            obtain ⟨q254, q255⟩ := and_t hg253
            obtain ⟨q256, q257⟩ := and_t q254
            obtain ⟨q258, q259⟩ := or_f (not_t q256)
            obtain ⟨q260, q261⟩ := or_f q258
            have q262 := d_t (not_f q260)
            obtain ⟨q263, q264⟩ := or_f (not_t q255)
            have q265 := d_f q263
            have q266 := d_f q264
            exact r_move rfl) rfl ?_
      refine ao_readG (x := .int .i64 (r109.length : Int)) rfl (GV.gF rfl) (fun hg267 => by
            obtain ⟨q268, q269⟩ := and_t hg267
            obtain ⟨q270, q271⟩ := and_t q268
            obtain ⟨q272, q273⟩ := or_f (not_t q270)
            obtain ⟨q274, q275⟩ := or_f q272
            have q276 := d_t (not_f q274)
            obtain ⟨q277, q278⟩ := or_f (not_t q269)
            have q279 := d_f q277
            have q280 := d_f q278
            exact Reads.strip 135 rfl (hg267) (r_len_osm (r109.length : Int) Try.underlying24 rfl rfl rfl)) rfl ?_
      refine ao_readG (x := .bool (decide ((r109.length : Int) < (IntKind.wrap .i64 (3 * (r111.1.length : Int)))))) rfl (GV.gF rfl) (fun hg281 => by
            obtain ⟨q282, q283⟩ := and_t hg281
            obtain ⟨q284, q285⟩ := and_t q282
            obtain ⟨q286, q287⟩ := or_f (not_t q284)
            obtain ⟨q288, q289⟩ := or_f q286
            have q290 := d_t (not_f q288)
            obtain ⟨q291, q292⟩ := or_f (not_t q283)
            have q293 := d_f q291
            have q294 := d_f q292
            exact Reads.strip 134 rfl (hg281) (Reads.strip 136 rfl (hg281) (r_gtr rfl rfl))) rfl ?_
      refine ao_readG (x := .bool (((decide (r111.2.1 < 0)) || (decide (2 < r111.2.1))) || (decide ((r109.length : Int) < (IntKind.wrap .i64 (3 * (r111.1.length : Int))))))) rfl (GV.gT rfl) (fun hg295 => by
            obtain ⟨q296, q297⟩ := and_t hg295
            obtain ⟨q298, q299⟩ := or_f (not_t q296)
            obtain ⟨q300, q301⟩ := or_f q298
            have q302 := d_t (not_f q300)
            exact Reads.strip 131 rfl (hg295) (r_orBg rfl rfl (tr_and (hg295)))) rfl ?_
      refine ao_readG (x := .bool (r111.2.2 && (((decide (r111.2.1 < 0)) || (decide (2 < r111.2.1))) || (decide ((r109.length : Int) < (IntKind.wrap .i64 (3 * (r111.1.length : Int)))))))) rfl (GV.F rfl) (fun hg303 => by
            obtain ⟨q304, q305⟩ := or_f (not_t hg303)
            obtain ⟨q306, q307⟩ := or_f q304
            have q308 := d_t (not_f q306)
            exact Reads.strip 124 rfl (hg303) (r_andBg rfl rfl (tr_and (hg303)))) rfl ?_
      refine ao_read trivial (r_orB rfl rfl) rfl ?_
      refine ao_nil ?_
      refine aq_then ?_
      refine aw_cond rfl (fun hb309 => ?_) (fun hb309 => ?_)
      · replace h := is_if hb309 h
        refine aw_seq ?_
        refine aw_region ?_
        refine ao_read trivial (r_assign rfl) rfl ?_
        refine ao_nil ?_
        refine aq_then ?_
        refine aw_ret ?_
        refine aq_then_ret ?_
        refine aq_ret ?_
        obtain rfl := is_some h
        exact aq_finx (l := [.tmp 2]) (xs := [.bool false]) idn [.bool false] [] rfl (by exact ⟨rfl, trivial⟩) (by exact ⟨ad_ren rfl, trivial⟩) (by exact trivial) rfl (nk rfl) rfl rfl ⟨rfl, rfl⟩
      · obtain ⟨q310, q311⟩ := or_f hb309
        obtain ⟨q312, q313⟩ := or_f q310
        obtain ⟨q314, q315⟩ := or_f q312
        have q316 := d_t (not_f q314)
        replace h := is_else (ne_t hb309) h
        refine aw_skip ?_
        refine aq_then ?_
        refine aw_seq ?_
        refine aw_region ?_
        refine ao_read trivial (r_move rfl) rfl ?_
        obtain ⟨r317, r317h, h⟩ := is_bind h
        refine ao_call [] 6 trivial (c_spec_DrawEvenCoin (is_mk r317h)) Try.func35 rfl rfl rfl rfl ⟨ad_ren rfl, trivial⟩ trivial rfl rfl rfl rfl rfl rfl rfl (fun r' H' hr => ?_)
        obtain ⟨rfl, rfl⟩ := hr
        refine ao_norm (y := .tup [.os 6, .int .i64 r317.2]) (H' := [(0, .row (.int .i64) r2), (1, .row (.int .i64) r4.1), (2, .row (.int .i64) r6.1), (3, .row (.int .i64) r109), (4, .row (.int .i64) r111.1), (5, .row (.int .i64) r113.1), (6, .row (.int .i64) r317.1)]) rfl rfl ?_
        refine row_len_o 6 (r317.1.length : Int) rfl rfl (fun hr318 => ?_)
        refine ao_read trivial (r_move rfl) rfl ?_
        refine ao_read trivial (r_extract rfl rfl) rfl ?_
        refine ao_read trivial (r_extract rfl rfl) rfl ?_
        refine ao_read trivial (r_assign rfl) rfl ?_
        refine ao_read trivial (r_assign rfl) rfl ?_
        refine ao_nil ?_
        refine aq_then ?_
        refine aw_seq ?_
        refine aw_region ?_
        refine ao_read trivial (r_move rfl) rfl ?_
        refine ao_read trivial (r_move rfl) rfl ?_
        obtain ⟨r319, r319h, h⟩ := is_bind h
        refine ao_call [] 7 trivial (c_impl_EvenCoin (is_mk r319h)) Try.func36 rfl rfl rfl rfl ⟨ad_os0 rfl, ad_ren rfl, trivial⟩ trivial rfl rfl rfl rfl rfl rfl rfl (fun r' H' hr => ?_)
        obtain ⟨rfl, rfl⟩ := hr
        refine ao_norm (y := .tup [.os 7, .int .i64 r319.2.1, .bool r319.2.2]) (H' := [(0, .row (.int .i64) r2), (1, .row (.int .i64) r4.1), (2, .row (.int .i64) r6.1), (3, .row (.int .i64) r109), (4, .row (.int .i64) r111.1), (5, .row (.int .i64) r113.1), (6, .row (.int .i64) r317.1), (7, .row (.int .i64) r319.1)]) rfl rfl ?_
        refine row_len_o 7 (r319.1.length : Int) rfl rfl (fun hr320 => ?_)
        refine ao_read trivial (r_move rfl) rfl ?_
        refine ao_read trivial (r_extract rfl rfl) rfl ?_
        refine ao_read trivial (r_extract rfl rfl) rfl ?_
        refine ao_read trivial (r_extract rfl rfl) rfl ?_
        refine ao_read trivial (r_assign rfl) rfl ?_
        refine ao_read trivial (r_assign rfl) rfl ?_
        refine ao_read trivial (r_assign rfl) rfl ?_
        refine ao_nil ?_
        refine aq_then ?_
        refine aw_seq ?_
        refine aw_seq ?_
        refine aw_region ?_
        refine ao_read trivial (r_move rfl) rfl ?_
        refine ao_read trivial (r_move rfl) rfl ?_
        obtain ⟨r321, r321h, h⟩ := is_bind h
        refine ao_call [] 8 trivial (c_spec_EvenCoin (is_mk r321h)) Try.func37 rfl rfl rfl rfl ⟨ad_os0 rfl, ad_ren rfl, trivial⟩ trivial rfl rfl rfl rfl rfl rfl rfl (fun r' H' hr => ?_)
        obtain ⟨rfl, rfl⟩ := hr
        refine ao_norm (y := .tup [.os 8, .int .i64 r321.2.1, .bool r321.2.2]) (H' := [(0, .row (.int .i64) r2), (1, .row (.int .i64) r4.1), (2, .row (.int .i64) r6.1), (3, .row (.int .i64) r109), (4, .row (.int .i64) r111.1), (5, .row (.int .i64) r113.1), (6, .row (.int .i64) r317.1), (7, .row (.int .i64) r319.1), (8, .row (.int .i64) r321.1)]) rfl rfl ?_
        refine row_len_o 8 (r321.1.length : Int) rfl rfl (fun hr322 => ?_)
        refine ao_read trivial (r_move rfl) rfl ?_
        refine ao_read trivial (r_extract rfl rfl) rfl ?_
        refine ao_read trivial (r_extract rfl rfl) rfl ?_
        refine ao_read trivial (r_extract rfl rfl) rfl ?_
        refine ao_read trivial (r_assign rfl) rfl ?_
        refine ao_read trivial (r_assign rfl) rfl ?_
        refine ao_read trivial (r_assign rfl) rfl ?_
        refine ao_nil ?_
        refine aq_then ?_
        refine aw_seq ?_
        refine aw_region ?_
        refine ao_read trivial (r_move rfl) rfl ?_
        refine ao_read trivial (r_move rfl) rfl ?_
        refine ao_read trivial (r_neq rfl rfl) rfl ?_
        refine ao_read trivial (r_move rfl) rfl ?_
        refine ao_readG (x := .bool r319.2.2) rfl (GV.F rfl) (fun hg323 => by
              have q324 := d_t (not_f (not_t hg323))
              exact r_move rfl) rfl ?_
        refine ao_readG (x := .bool r321.2.2) rfl (GV.F rfl) (fun hg325 => by
              have q326 := d_t (not_f (not_t hg325))
              exact r_move rfl) rfl ?_
        refine ao_readG (x := .bool (r319.2.2 != r321.2.2)) rfl (GV.F rfl) (fun hg327 => by
              have q328 := d_t (not_f (not_t hg327))
              exact Reads.strip 164 rfl (hg327) (Reads.strip 165 rfl (hg327) (r_neq_bool Try.underlying4 rfl rfl))) rfl ?_
        refine ao_read trivial (r_orB rfl rfl) rfl ?_
        refine ao_read trivial (r_move rfl) rfl ?_
        refine ao_readG (x := .os 7) rfl (GV.F rfl) (fun hg329 => by
              obtain ⟨q330, q331⟩ := or_f (not_t hg329)
              have q332 := d_t (not_f q330)
              exact r_move rfl) rfl ?_
        refine ao_readG (x := .os 8) rfl (GV.F rfl) (fun hg333 => by
              obtain ⟨q334, q335⟩ := or_f (not_t hg333)
              have q336 := d_t (not_f q334)
              exact r_move rfl) rfl ?_
        refine ao_scallG (r := .bool (p_laws_rInts r319.1 r321.1)) rfl (GV.F rfl) (fun hg337 => by
              obtain ⟨q338, q339⟩ := or_f (not_t hg337)
              have q340 := d_t (not_f q338)
              exact SCall.strip 169 rfl (hg337) (SCall.strip 170 rfl (hg337) (scall (c_laws_rInts (is_mk (rfl : p_laws_rInts r319.1 r321.1 = _))) rfl Try.func25 rfl rfl rfl rfl (fun σ => ⟨ad_os0 rfl, ad_os0 rfl, trivial⟩)))) rfl ?_
        refine ao_readG (x := .bool (!(p_laws_rInts r319.1 r321.1))) rfl (GV.F rfl) (fun hg341 => by
              obtain ⟨q342, q343⟩ := or_f (not_t hg341)
              have q344 := d_t (not_f q342)
              exact Reads.strip 171 rfl (hg341) (r_not rfl)) rfl ?_
        refine ao_read trivial (r_orB rfl rfl) rfl ?_
        refine ao_read trivial (r_move rfl) rfl ?_
        refine ao_readG (x := .bool r319.2.2) rfl (GV.F rfl) (fun hg345 => by
              obtain ⟨q346, q347⟩ := or_f (not_t hg345)
              obtain ⟨q348, q349⟩ := or_f q346
              have q350 := d_t (not_f q348)
              exact r_move rfl) rfl ?_
        refine ao_readG (x := .bool r319.2.2) rfl (GV.F rfl) (fun hg351 => by
              obtain ⟨q352, q353⟩ := or_f (not_t hg351)
              obtain ⟨q354, q355⟩ := or_f q352
              have q356 := d_t (not_f q354)
              exact Reads.strip 175 rfl (hg351) (r_move rfl)) rfl ?_
        refine ao_readG (x := .os 7) rfl (GV.gT rfl) (fun hg357 => by
              obtain ⟨q358, q359⟩ := and_t hg357
              obtain ⟨q360, q361⟩ := or_f (not_t q358)
              obtain ⟨q362, q363⟩ := or_f q360
              have q364 := d_t (not_f q362)
              exact r_move rfl) rfl ?_
        refine ao_readG (x := .int .i64 (r319.1.length : Int)) rfl (GV.gT rfl) (fun hg365 => by
              obtain ⟨q366, q367⟩ := and_t hg365
              obtain ⟨q368, q369⟩ := or_f (not_t q366)
              obtain ⟨q370, q371⟩ := or_f q368
              have q372 := d_t (not_f q370)
              exact Reads.strip 177 rfl (hg365) (r_len_osm (r319.1.length : Int) Try.underlying24 rfl rfl rfl)) rfl ?_
        refine ao_readG (x := .int .i64 r319.2.1) rfl (GV.gT rfl) (fun hg373 => by
              obtain ⟨q374, q375⟩ := and_t hg373
              obtain ⟨q376, q377⟩ := or_f (not_t q374)
              obtain ⟨q378, q379⟩ := or_f q376
              have q380 := d_t (not_f q378)
              exact r_move rfl) rfl ?_
        refine ao_readG (x := .int .i64 (IntKind.wrap .i64 ((r319.1.length : Int) + r319.2.1))) rfl (GV.gT rfl) (fun hg381 => by
              obtain ⟨q382, q383⟩ := and_t hg381
              obtain ⟨q384, q385⟩ := or_f (not_t q382)
              obtain ⟨q386, q387⟩ := or_f q384
              have q388 := d_t (not_f q386)
              exact Reads.strip 178 rfl (hg381) (Reads.strip 179 rfl (hg381) (r_add rfl rfl))) rfl ?_
        refine ao_readG (x := .os 6) rfl (GV.gT rfl) (fun hg389 => by
              obtain ⟨q390, q391⟩ := and_t hg389
              obtain ⟨q392, q393⟩ := or_f (not_t q390)
              obtain ⟨q394, q395⟩ := or_f q392
              have q396 := d_t (not_f q394)
              exact r_move rfl) rfl ?_
        refine ao_readG (x := .int .i64 (r317.1.length : Int)) rfl (GV.gT rfl) (fun hg397 => by
              obtain ⟨q398, q399⟩ := and_t hg397
              obtain ⟨q400, q401⟩ := or_f (not_t q398)
              obtain ⟨q402, q403⟩ := or_f q400
              have q404 := d_t (not_f q402)
              exact Reads.strip 181 rfl (hg397) (r_len_osm (r317.1.length : Int) Try.underlying24 rfl rfl rfl)) rfl ?_
        refine ao_readG (x := .int .i64 (IntKind.wrap .i64 ((r317.1.length : Int).tdiv 2))) rfl (GV.gT rfl) (fun hg405 => by
              obtain ⟨q406, q407⟩ := and_t hg405
              obtain ⟨q408, q409⟩ := or_f (not_t q406)
              obtain ⟨q410, q411⟩ := or_f q408
              have q412 := d_t (not_f q410)
              exact Reads.strip 182 rfl (hg405) (r_quo rfl rfl (by decide))) rfl ?_
        refine ao_readG (x := .bool (!(decide ((IntKind.wrap .i64 ((r319.1.length : Int) + r319.2.1)) = (IntKind.wrap .i64 ((r317.1.length : Int).tdiv 2)))))) rfl (GV.gT rfl) (fun hg413 => by
              obtain ⟨q414, q415⟩ := and_t hg413
              obtain ⟨q416, q417⟩ := or_f (not_t q414)
              obtain ⟨q418, q419⟩ := or_f q416
              have q420 := d_t (not_f q418)
              exact Reads.strip 180 rfl (hg413) (Reads.strip 183 rfl (hg413) (r_neq rfl rfl))) rfl ?_
        refine ao_readG (x := .bool (r319.2.2 && (!(decide ((IntKind.wrap .i64 ((r319.1.length : Int) + r319.2.1)) = (IntKind.wrap .i64 ((r317.1.length : Int).tdiv 2))))))) rfl (GV.F rfl) (fun hg421 => by
              obtain ⟨q422, q423⟩ := or_f (not_t hg421)
              obtain ⟨q424, q425⟩ := or_f q422
              have q426 := d_t (not_f q424)
              exact Reads.strip 176 rfl (hg421) (r_andBg rfl rfl (tr_and (hg421)))) rfl ?_
        refine ao_read trivial (r_orB rfl rfl) rfl ?_
        refine ao_nil ?_
        refine aq_then ?_
        refine aw_cond rfl (fun hb427 => ?_) (fun hb427 => ?_)
        · replace h := is_if hb427 h
          refine aw_seq ?_
          refine aw_region ?_
          refine ao_read trivial (r_assign rfl) rfl ?_
          refine ao_nil ?_
          refine aq_then ?_
          refine aw_ret ?_
          refine aq_then_ret ?_
          refine aq_ret ?_
          obtain rfl := is_some h
          exact aq_finx (l := [.tmp 2]) (xs := [.bool false]) idn [.bool false] [] rfl (by exact ⟨rfl, trivial⟩) (by exact ⟨ad_ren rfl, trivial⟩) (by exact trivial) rfl (nk rfl) rfl rfl ⟨rfl, rfl⟩
        · obtain ⟨q428, q429⟩ := or_f hb427
          obtain ⟨q430, q431⟩ := or_f q428
          obtain ⟨q432, q433⟩ := or_f q430
          have q434 := d_t (not_f q432)
          replace h := is_else (ne_t hb427) h
          refine aw_skip ?_
          refine aq_then ?_
          refine aw_seq ?_
          refine aw_region ?_
          refine ao_read trivial (r_move rfl) rfl ?_
          obtain ⟨r435, r435h, h⟩ := is_bind h
          refine ao_scall trivial (scall (c_spec_DrawPairsForCoin (is_mk r435h)) rfl Try.func38 rfl rfl rfl rfl (fun σ => ⟨ad_ren rfl, trivial⟩)) rfl ?_
          refine ao_read trivial (r_assign rfl) rfl ?_
          refine ao_nil ?_
          refine aq_then ?_
          refine aw_seq ?_
          refine aw_region ?_
          refine ao_read trivial (r_move rfl) rfl ?_
          obtain ⟨r436, r436h, h⟩ := is_bind h
          refine ao_scall trivial (scall (c_impl_PairsForCoin (is_mk r436h)) rfl Try.func39 rfl rfl rfl rfl (fun σ => ⟨ad_ren rfl, trivial⟩)) rfl ?_
          refine ao_read trivial (r_move rfl) rfl ?_
          refine ao_read trivial (r_extract rfl rfl) rfl ?_
          refine ao_read trivial (r_extract rfl rfl) rfl ?_
          refine ao_eff trivial (e_alloc 9 (y := .v (.arr 2 (.int .i64)) ((List.replicate 2 0) : (List Int))) Try.zeroValue35 (fun ρ h M => ra_zero_arr (t := (.int .i64)) rfl) rfl rfl rfl rfl rfl) rfl ?_
          refine ao_effS trivial (e_store rfl rfl rfl rfl Try.sizeOf35 rfl) ?_
          refine ao_read trivial (r_assign rfl) rfl ?_
          refine ao_nil ?_
          refine aq_then ?_
          refine aw_seq ?_
          refine aw_seq ?_
          refine aw_region ?_
          refine ao_read trivial (r_move rfl) rfl ?_
          obtain ⟨r437, r437h, h⟩ := is_bind h
          refine ao_scall trivial (scall (c_spec_PairsForCoin (is_mk r437h)) rfl Try.func40 rfl rfl rfl rfl (fun σ => ⟨ad_ren rfl, trivial⟩)) rfl ?_
          refine ao_read trivial (r_move rfl) rfl ?_
          refine ao_read trivial (r_extract rfl rfl) rfl ?_
          refine ao_read trivial (r_extract rfl rfl) rfl ?_
          refine ao_eff trivial (e_alloc 10 (y := .v (.arr 2 (.int .i64)) ((List.replicate 2 0) : (List Int))) Try.zeroValue35 (fun ρ h M => ra_zero_arr (t := (.int .i64)) rfl) rfl rfl rfl rfl rfl) rfl ?_
          refine ao_effS trivial (e_store rfl rfl rfl rfl Try.sizeOf35 rfl) ?_
          refine ao_read trivial (r_assign rfl) rfl ?_
          refine ao_nil ?_
          refine aq_then ?_
          refine aw_seq ?_
          refine aw_region ?_
          refine ao_read trivial (r_load_arr rfl Try.isAgg35 Try.sizeOf35 rfl rfl rfl) rfl ?_
          refine ao_read trivial (r_load_arr rfl Try.isAgg35 Try.sizeOf35 rfl rfl rfl) rfl ?_
          refine ao_read trivial (r_eq_ints Try.underlying35 Try.underlying3 Try.isAgg3 (info_size Try.sizeOf3) (by kernel_rfl) rfl rfl rfl) rfl ?_
          refine ao_read trivial (r_move rfl) rfl ?_
          refine ao_readG (x := .bool r436.2) rfl (GV.F rfl) (fun hg438 => r_move rfl) rfl ?_
          refine ao_readG (x := .bool r437.2) rfl (GV.F rfl) (fun hg439 => r_move rfl) rfl ?_
          refine ao_readG (x := .bool (r436.2 != r437.2)) rfl (GV.F rfl) (fun hg440 => Reads.strip 203 rfl (hg440) (Reads.strip 204 rfl (hg440) (r_neq_bool Try.underlying4 rfl rfl))) rfl ?_
          refine ao_read trivial (r_orB rfl rfl) rfl ?_
          refine ao_nil ?_
          refine aq_then ?_
          refine aw_cond rfl (fun hb441 => ?_) (fun hb441 => ?_)
          · replace h := is_if hb441 h
            refine aw_seq ?_
            refine aw_region ?_
            refine ao_read trivial (r_assign rfl) rfl ?_
            refine ao_nil ?_
            refine aq_then ?_
            refine aw_ret ?_
            refine aq_then_ret ?_
            refine aq_ret ?_
            obtain rfl := is_some h
            exact aq_finx (l := [.tmp 2]) (xs := [.bool false]) idn [.bool false] [] rfl (by exact ⟨rfl, trivial⟩) (by exact ⟨ad_ren rfl, trivial⟩) (by exact trivial) rfl (nk rfl) rfl rfl ⟨rfl, rfl⟩
          · obtain ⟨q442, q443⟩ := or_f hb441
            replace h := is_else (ne_t hb441) h
            refine aw_skip ?_
            refine aq_then ?_
            refine aw_seq ?_
            refine aw_region ?_
            refine ao_read trivial (r_move rfl) rfl ?_
            obtain ⟨r444, r444h, h⟩ := is_bind h
            refine ao_call [] 11 trivial (c_spec_DrawModTable (is_mk r444h)) Try.func41 rfl rfl rfl rfl ⟨ad_ren rfl, trivial⟩ trivial rfl rfl rfl rfl rfl rfl rfl (fun r' H' hr => ?_)
            obtain ⟨rfl, rfl⟩ := hr
            refine ao_norm (y := .tup [.os 11, .int .i64 r444.2]) (H' := [(10, .var [.arr (.int .i64) 2 r437.1]), (9, .var [.arr (.int .i64) 2 r436.1]), (0, .row (.int .i64) r2), (1, .row (.int .i64) r4.1), (2, .row (.int .i64) r6.1), (3, .row (.int .i64) r109), (4, .row (.int .i64) r111.1), (5, .row (.int .i64) r113.1), (6, .row (.int .i64) r317.1), (7, .row (.int .i64) r319.1), (8, .row (.int .i64) r321.1), (11, .row (.arr 6 (.int .i64)) r444.1)]) rfl rfl ?_
            refine row_len_o 11 (r444.1.length : Int) rfl rfl (fun hr445 => ?_)
            refine ao_read trivial (r_move rfl) rfl ?_
            refine ao_read trivial (r_extract rfl rfl) rfl ?_
            refine ao_read trivial (r_extract rfl rfl) rfl ?_
            refine ao_read trivial (r_assign rfl) rfl ?_
            refine ao_read trivial (r_assign rfl) rfl ?_
            refine ao_nil ?_
            refine aq_then ?_
            refine aw_seq ?_
            refine aw_region ?_
            refine ao_read trivial (r_move rfl) rfl ?_
            refine ao_read trivial (r_move rfl) rfl ?_
            obtain ⟨r446, r446h, h⟩ := is_bind h
            refine ao_call [] 12 trivial (c_impl_ModTable (is_mk r446h)) Try.func42 rfl rfl rfl rfl ⟨ad_os0 rfl, ad_ren rfl, trivial⟩ trivial rfl rfl rfl rfl rfl rfl rfl (fun r' H' hr => ?_)
            obtain ⟨rfl, rfl⟩ := hr
            refine ao_norm (y := .tup [.os 12, .bool r446.2]) (H' := [(10, .var [.arr (.int .i64) 2 r437.1]), (9, .var [.arr (.int .i64) 2 r436.1]), (0, .row (.int .i64) r2), (1, .row (.int .i64) r4.1), (2, .row (.int .i64) r6.1), (3, .row (.int .i64) r109), (4, .row (.int .i64) r111.1), (5, .row (.int .i64) r113.1), (6, .row (.int .i64) r317.1), (7, .row (.int .i64) r319.1), (8, .row (.int .i64) r321.1), (11, .row (.arr 6 (.int .i64)) r444.1), (12, .row (.int .i64) r446.1)]) rfl rfl ?_
            refine row_len_o 12 (r446.1.length : Int) rfl rfl (fun hr447 => ?_)
            refine ao_read trivial (r_move rfl) rfl ?_
            refine ao_read trivial (r_extract rfl rfl) rfl ?_
            refine ao_read trivial (r_extract rfl rfl) rfl ?_
            refine ao_read trivial (r_assign rfl) rfl ?_
            refine ao_read trivial (r_assign rfl) rfl ?_
            refine ao_nil ?_
            refine aq_then ?_
            refine aw_seq ?_
            refine aw_seq ?_
            refine aw_region ?_
            refine ao_read trivial (r_move rfl) rfl ?_
            refine ao_read trivial (r_move rfl) rfl ?_
            obtain ⟨r448, r448h, h⟩ := is_bind h
            refine ao_call [] 13 trivial (c_spec_ModTable (is_mk r448h)) Try.func43 rfl rfl rfl rfl ⟨ad_os0 rfl, ad_ren rfl, trivial⟩ trivial rfl rfl rfl rfl rfl rfl rfl (fun r' H' hr => ?_)
            obtain ⟨rfl, rfl⟩ := hr
            refine ao_norm (y := .tup [.os 13, .bool r448.2]) (H' := [(10, .var [.arr (.int .i64) 2 r437.1]), (9, .var [.arr (.int .i64) 2 r436.1]), (0, .row (.int .i64) r2), (1, .row (.int .i64) r4.1), (2, .row (.int .i64) r6.1), (3, .row (.int .i64) r109), (4, .row (.int .i64) r111.1), (5, .row (.int .i64) r113.1), (6, .row (.int .i64) r317.1), (7, .row (.int .i64) r319.1), (8, .row (.int .i64) r321.1), (11, .row (.arr 6 (.int .i64)) r444.1), (12, .row (.int .i64) r446.1), (13, .row (.int .i64) r448.1)]) rfl rfl ?_
            refine row_len_o 13 (r448.1.length : Int) rfl rfl (fun hr449 => ?_)
            refine ao_read trivial (r_move rfl) rfl ?_
            refine ao_read trivial (r_extract rfl rfl) rfl ?_
            refine ao_read trivial (r_extract rfl rfl) rfl ?_
            refine ao_read trivial (r_assign rfl) rfl ?_
            refine ao_read trivial (r_assign rfl) rfl ?_
            refine ao_nil ?_
            refine aq_then ?_
            refine aw_seq ?_
            refine aw_region ?_
            refine ao_read trivial (r_move rfl) rfl ?_
            refine ao_read trivial (r_move rfl) rfl ?_
            refine ao_read trivial (r_neq_bool Try.underlying4 rfl rfl) rfl ?_
            refine ao_read trivial (r_move rfl) rfl ?_
            refine ao_readG (x := .os 12) rfl (GV.F rfl) (fun hg450 => r_move rfl) rfl ?_
            refine ao_readG (x := .os 13) rfl (GV.F rfl) (fun hg451 => r_move rfl) rfl ?_
            refine ao_scallG (r := .bool (p_laws_rInts r446.1 r448.1)) rfl (GV.F rfl) (fun hg452 => SCall.strip 228 rfl (hg452) (SCall.strip 229 rfl (hg452) (scall (c_laws_rInts (is_mk (rfl : p_laws_rInts r446.1 r448.1 = _))) rfl Try.func25 rfl rfl rfl rfl (fun σ => ⟨ad_os0 rfl, ad_os0 rfl, trivial⟩)))) rfl ?_
            refine ao_readG (x := .bool (!(p_laws_rInts r446.1 r448.1))) rfl (GV.F rfl) (fun hg453 => Reads.strip 230 rfl (hg453) (r_not rfl)) rfl ?_
            refine ao_read trivial (r_orB rfl rfl) rfl ?_
            refine ao_nil ?_
            refine aq_then ?_
            refine aw_cond rfl (fun hb454 => ?_) (fun hb454 => ?_)
            · replace h := is_if hb454 h
              refine aw_seq ?_
              refine aw_region ?_
              refine ao_read trivial (r_assign rfl) rfl ?_
              refine ao_nil ?_
              refine aq_then ?_
              refine aw_ret ?_
              refine aq_then_ret ?_
              refine aq_ret ?_
              obtain rfl := is_some h
              exact aq_finx (l := [.tmp 2]) (xs := [.bool false]) idn [.bool false] [] rfl (by exact ⟨rfl, trivial⟩) (by exact ⟨ad_ren rfl, trivial⟩) (by exact trivial) rfl (nk rfl) rfl rfl ⟨rfl, rfl⟩
            · obtain ⟨q455, q456⟩ := or_f hb454
              replace h := is_else (ne_t hb454) h
              refine aw_skip ?_
              refine aq_then ?_
              refine aw_seq ?_
              refine aw_region ?_
              refine ao_read trivial (r_move rfl) rfl ?_
              obtain ⟨r457, r457h, h⟩ := is_bind h
              refine ao_call [] 14 trivial (c_spec_DrawFairSizes (is_mk r457h)) Try.func44 rfl rfl rfl rfl ⟨ad_ren rfl, trivial⟩ trivial rfl rfl rfl rfl rfl rfl rfl (fun r' H' hr => ?_)
              obtain ⟨rfl, rfl⟩ := hr
              refine ao_norm (y := .os 14) (H' := [(10, .var [.arr (.int .i64) 2 r437.1]), (9, .var [.arr (.int .i64) 2 r436.1]), (0, .row (.int .i64) r2), (1, .row (.int .i64) r4.1), (2, .row (.int .i64) r6.1), (3, .row (.int .i64) r109), (4, .row (.int .i64) r111.1), (5, .row (.int .i64) r113.1), (6, .row (.int .i64) r317.1), (7, .row (.int .i64) r319.1), (8, .row (.int .i64) r321.1), (11, .row (.arr 6 (.int .i64)) r444.1), (12, .row (.int .i64) r446.1), (13, .row (.int .i64) r448.1), (14, .row (.arr 6 (.int .i64)) r457)]) rfl rfl ?_
              refine row_len_o 14 (r457.length : Int) rfl rfl (fun hr458 => ?_)
              refine ao_read trivial (r_assign rfl) rfl ?_
              refine ao_nil ?_
              refine aq_then ?_
              refine aw_seq ?_
              refine aw_region ?_
              refine ao_read trivial (r_move rfl) rfl ?_
              obtain ⟨r459, r459h, h⟩ := is_bind h
              refine ao_call [] 15 trivial (c_impl_FairSizes (is_mk r459h)) Try.func45 rfl rfl rfl rfl ⟨ad_os0 rfl, trivial⟩ trivial rfl rfl rfl rfl rfl rfl rfl (fun r' H' hr => ?_)
              obtain ⟨rfl, rfl⟩ := hr
              refine ao_norm (y := .tup [.os 15, .bool r459.2]) (H' := [(10, .var [.arr (.int .i64) 2 r437.1]), (9, .var [.arr (.int .i64) 2 r436.1]), (0, .row (.int .i64) r2), (1, .row (.int .i64) r4.1), (2, .row (.int .i64) r6.1), (3, .row (.int .i64) r109), (4, .row (.int .i64) r111.1), (5, .row (.int .i64) r113.1), (6, .row (.int .i64) r317.1), (7, .row (.int .i64) r319.1), (8, .row (.int .i64) r321.1), (11, .row (.arr 6 (.int .i64)) r444.1), (12, .row (.int .i64) r446.1), (13, .row (.int .i64) r448.1), (14, .row (.arr 6 (.int .i64)) r457), (15, .row (.int .i64) r459.1)]) rfl rfl ?_
              refine row_len_o 15 (r459.1.length : Int) rfl rfl (fun hr460 => ?_)
              refine ao_read trivial (r_move rfl) rfl ?_
              refine ao_read trivial (r_extract rfl rfl) rfl ?_
              refine ao_read trivial (r_extract rfl rfl) rfl ?_
              refine ao_read trivial (r_assign rfl) rfl ?_
              refine ao_read trivial (r_assign rfl) rfl ?_
              refine ao_nil ?_
              refine aq_then ?_
              refine aw_seq ?_
              refine aw_seq ?_
              refine aw_region ?_
              refine ao_read trivial (r_move rfl) rfl ?_
              obtain ⟨r461, r461h, h⟩ := is_bind h
              refine ao_call [] 16 trivial (c_spec_FairSizes (is_mk r461h)) Try.func46 rfl rfl rfl rfl ⟨ad_os0 rfl, trivial⟩ trivial rfl rfl rfl rfl rfl rfl rfl (fun r' H' hr => ?_)
              obtain ⟨rfl, rfl⟩ := hr
              refine ao_norm (y := .tup [.os 16, .bool r461.2]) (H' := [(10, .var [.arr (.int .i64) 2 r437.1]), (9, .var [.arr (.int .i64) 2 r436.1]), (0, .row (.int .i64) r2), (1, .row (.int .i64) r4.1), (2, .row (.int .i64) r6.1), (3, .row (.int .i64) r109), (4, .row (.int .i64) r111.1), (5, .row (.int .i64) r113.1), (6, .row (.int .i64) r317.1), (7, .row (.int .i64) r319.1), (8, .row (.int .i64) r321.1), (11, .row (.arr 6 (.int .i64)) r444.1), (12, .row (.int .i64) r446.1), (13, .row (.int .i64) r448.1), (14, .row (.arr 6 (.int .i64)) r457), (15, .row (.int .i64) r459.1), (16, .row (.int .i64) r461.1)]) rfl rfl ?_
              refine row_len_o 16 (r461.1.length : Int) rfl rfl (fun hr462 => ?_)
              refine ao_read trivial (r_move rfl) rfl ?_
              refine ao_read trivial (r_extract rfl rfl) rfl ?_
              refine ao_read trivial (r_extract rfl rfl) rfl ?_
              refine ao_read trivial (r_assign rfl) rfl ?_
              refine ao_read trivial (r_assign rfl) rfl ?_
              refine ao_nil ?_
              refine aq_then ?_
              refine aw_seq ?_
              refine aw_region ?_
              refine ao_read trivial (r_move rfl) rfl ?_
              refine ao_read trivial (r_move rfl) rfl ?_
              refine ao_read trivial (r_neq_bool Try.underlying4 rfl rfl) rfl ?_
              refine ao_read trivial (r_move rfl) rfl ?_
              refine ao_readG (x := .os 15) rfl (GV.F rfl) (fun hg463 => r_move rfl) rfl ?_
              refine ao_readG (x := .os 16) rfl (GV.F rfl) (fun hg464 => r_move rfl) rfl ?_
              refine ao_scallG (r := .bool (p_laws_rInts r459.1 r461.1)) rfl (GV.F rfl) (fun hg465 => SCall.strip 249 rfl (hg465) (SCall.strip 250 rfl (hg465) (scall (c_laws_rInts (is_mk (rfl : p_laws_rInts r459.1 r461.1 = _))) rfl Try.func25 rfl rfl rfl rfl (fun σ => ⟨ad_os0 rfl, ad_os0 rfl, trivial⟩)))) rfl ?_
              refine ao_readG (x := .bool (!(p_laws_rInts r459.1 r461.1))) rfl (GV.F rfl) (fun hg466 => Reads.strip 251 rfl (hg466) (r_not rfl)) rfl ?_
              refine ao_read trivial (r_orB rfl rfl) rfl ?_
              refine ao_read trivial (r_move rfl) rfl ?_
              refine ao_readG (x := .bool r459.2) rfl (GV.F rfl) (fun hg467 => by
                    obtain ⟨q468, q469⟩ := or_f (not_t hg467)
                    exact r_move rfl) rfl ?_
              refine ao_readG (x := .bool r459.2) rfl (GV.F rfl) (fun hg470 => by
                    obtain ⟨q471, q472⟩ := or_f (not_t hg470)
                    exact Reads.strip 255 rfl (hg470) (r_move rfl)) rfl ?_
              refine ao_readG (x := .os 15) rfl (GV.gT rfl) (fun hg473 => by
                    obtain ⟨q474, q475⟩ := and_t hg473
                    obtain ⟨q476, q477⟩ := or_f (not_t q474)
                    exact r_move rfl) rfl ?_
              refine ao_readG (x := .int .i64 (r459.1.length : Int)) rfl (GV.gT rfl) (fun hg478 => by
                    obtain ⟨q479, q480⟩ := and_t hg478
                    obtain ⟨q481, q482⟩ := or_f (not_t q479)
                    exact Reads.strip 257 rfl (hg478) (r_len_osm (r459.1.length : Int) Try.underlying24 rfl rfl rfl)) rfl ?_
              refine ao_readG (x := .bool (decide ((r459.1.length : Int) = 0))) rfl (GV.gT rfl) (fun hg483 => by
                    obtain ⟨q484, q485⟩ := and_t hg483
                    obtain ⟨q486, q487⟩ := or_f (not_t q484)
                    exact Reads.strip 258 rfl (hg483) (r_eql rfl rfl)) rfl ?_
              refine ao_readG (x := .bool (decide ((r459.1.length : Int) = 0))) rfl (GV.gT rfl) (fun hg488 => by
                    obtain ⟨q489, q490⟩ := and_t hg488
                    obtain ⟨q491, q492⟩ := or_f (not_t q489)
                    exact Reads.strip 259 rfl (hg488) (r_move rfl)) rfl ?_
              refine ao_readG (x := .os 15) rfl (GV.gF rfl) (fun hg493 => by
                    obtain ⟨q494, q495⟩ := and_t hg493
                    obtain ⟨q496, q497⟩ := and_t q494
                    obtain ⟨q498, q499⟩ := or_f (not_t q496)
                    have q500 := d_f (not_t q495)
                    exact r_move rfl) rfl ?_
              obtain ⟨g509, h⟩ := is_guard h
              refine ao_readG (x := .elem 15 0 1 0) rfl (GV.gF rfl) (fun hg501 => by
                    have g509a := g509 hg501
                    obtain ⟨q502, q503⟩ := and_t hg501
                    obtain ⟨q504, q505⟩ := and_t q502
                    obtain ⟨q506, q507⟩ := or_f (not_t q504)
                    have q508 := d_f (not_t q503)
                    exact Reads.strip 261 rfl (hg501) (r_idxAddr_os Try.underlying24 Try.sizeOf3 rfl rfl rfl (show 0 ≤ 0 from by omega) (show 0 < (r459.1.length : Int) from by omega))) rfl ?_
              refine ao_readG (x := .int .i64 (r459.1.getD 0 0)) rfl (GV.gF rfl) (fun hg510 => by
                    obtain ⟨q511, q512⟩ := and_t hg510
                    obtain ⟨q513, q514⟩ := and_t q511
                    obtain ⟨q515, q516⟩ := or_f (not_t q513)
                    have q517 := d_f (not_t q512)
                    have w518 := g509 (hg510)
                    exact Reads.strip 262 rfl (hg510) (r_load_elem_int Try.isAgg3 Try.sizeOf3 rfl rfl (show 0 < r459.1.length from by omega))) rfl ?_
              refine ao_readG (x := .bool (!(decide ((r459.1.getD 0 0) = 1)))) rfl (GV.gF rfl) (fun hg519 => by
                    obtain ⟨q520, q521⟩ := and_t hg519
                    obtain ⟨q522, q523⟩ := and_t q520
                    obtain ⟨q524, q525⟩ := or_f (not_t q522)
                    have q526 := d_f (not_t q521)
                    have w527 := g509 (hg519)
                    exact Reads.strip 263 rfl (hg519) (r_neq rfl rfl)) rfl ?_
              refine ao_readG (x := .bool ((decide ((r459.1.length : Int) = 0)) || (!(decide ((r459.1.getD 0 0) = 1))))) rfl (GV.gT rfl) (fun hg528 => by
                    obtain ⟨q529, q530⟩ := and_t hg528
                    obtain ⟨q531, q532⟩ := or_f (not_t q529)
                    exact Reads.strip 260 rfl (hg528) (r_orBg rfl rfl (tr_and (hg528)))) rfl ?_
              refine ao_readG (x := .bool (r459.2 && ((decide ((r459.1.length : Int) = 0)) || (!(decide ((r459.1.getD 0 0) = 1)))))) rfl (GV.F rfl) (fun hg533 => by
                    obtain ⟨q534, q535⟩ := or_f (not_t hg533)
                    exact Reads.strip 256 rfl (hg533) (r_andBg rfl rfl (tr_and (hg533)))) rfl ?_
              refine ao_read trivial (r_orB rfl rfl) rfl ?_
              refine ao_nil ?_
              refine aq_then ?_
              refine aw_cond rfl (fun hb536 => ?_) (fun hb536 => ?_)
              · replace h := is_if hb536 h
                refine aw_seq ?_
                refine aw_region ?_
                refine ao_read trivial (r_assign rfl) rfl ?_
                refine ao_nil ?_
                refine aq_then ?_
                refine aw_ret ?_
                refine aq_then_ret ?_
                refine aq_ret ?_
                obtain rfl := is_some h
                exact aq_finx (l := [.tmp 2]) (xs := [.bool false]) idn [.bool false] [] rfl (by exact ⟨rfl, trivial⟩) (by exact ⟨ad_ren rfl, trivial⟩) (by exact trivial) rfl (nk rfl) rfl rfl ⟨rfl, rfl⟩
              · obtain ⟨q537, q538⟩ := or_f hb536
                obtain ⟨q539, q540⟩ := or_f q537
                replace h := is_else (ne_t hb536) h
                refine aw_skip ?_
                refine aq_then ?_
                refine aw_join (fun (s541 : Unit) => [(15, .os 0), (16, .int .i64 r317.2), (17, .os 1), (19, .bool r319.2.2), (34, .os 2), (35, .os 3)]) (fun (s541 : Unit) => [(0, .row (.int .i64) r317.1), (1, .row (.int .i64) r319.1), (2, .row (.arr 6 (.int .i64)) r457), (3, .row (.int .i64) r459.1)]) (fun (s541 : Unit) => True) h (fun s541 hI h => ?_) (fun h j543 => ?_)
                · refine aw_seq ?_
                  refine aw_seq ?_
                  refine aw_region ?_
                  refine ao_read trivial (r_assign rfl) rfl ?_
                  refine ao_nil ?_
                  refine aq_then ?_
                  refine aw_block ?_
                  refine aw_loop (AL.sub (fr' := [(15, .os 0), (16, .int .i64 r317.2), (17, .os 1), (19, .bool r319.2.2), (34, .os 2), (35, .os 3), (43, .int .i64 0)]) (H' := [(0, .row (.int .i64) r317.1), (1, .row (.int .i64) r319.1), (2, .row (.arr 6 (.int .i64)) r457), (3, .row (.int .i64) r459.1)]) (sub_mk idn (by exact ⟨⟨_, rfl, ad_ren rfl⟩, ⟨_, rfl, ad_ren rfl⟩, ⟨_, rfl, ad_ren rfl⟩, ⟨_, rfl, ad_ren rfl⟩, ⟨_, rfl, ad_ren rfl⟩, ⟨_, rfl, ad_ren rfl⟩, ⟨_, rfl, ad_ren rfl⟩, trivial⟩) (by exact ⟨⟨_, rfl, rfl⟩, ⟨_, rfl, rfl⟩, ⟨_, rfl, rfl⟩, ⟨_, rfl, rfl⟩, trivial⟩) (by rfl) (nk rfl)) (al_cnt (fun i545 (s544 : Unit) => [(15, .os 0), (16, .int .i64 r317.2), (17, .os 1), (19, .bool r319.2.2), (34, .os 2), (35, .os 3), (43, .int .i64 i545)]) (fun i545 (s544 : Unit) => [(0, .row (.int .i64) r317.1), (1, .row (.int .i64) r319.1), (2, .row (.arr 6 (.int .i64)) r457), (3, .row (.int .i64) r459.1)]) (fun d i545 (s544 : Unit) => d = Int.toNat ((r459.1.length : Int) - i545) ∧ 0 ≤ i545 ∧ i545 ≤ (r459.1.length : Int)) h ⟨rfl, (by (try simp only [List.length_set, List.length_append, List.length_cons, List.length_nil, List.length_replicate, List.length_take, List.length_drop]) <;> omega), (by (try simp only [List.length_set, List.length_append, List.length_cons, List.length_nil, List.length_replicate, List.length_take, List.length_drop]) <;> omega)⟩ (fun d546 i545 s544 hI h ih546 => ?_)))
                  obtain ⟨hd, _, _⟩ := hI
                  refine al_round ?_
                  refine aw_seq ?_
                  refine aw_seq ?_
                  refine aw_region ?_
                  refine ao_read trivial (r_move rfl) rfl ?_
                  refine ao_read trivial (r_move rfl) rfl ?_
                  refine ao_read trivial (r_len_osm (r459.1.length : Int) Try.underlying24 rfl rfl rfl) rfl ?_
                  refine ao_read trivial (r_lss rfl rfl) rfl ?_
                  refine ao_nil ?_
                  refine aq_then ?_
                  refine aw_cond rfl (fun hb548 => ?_) (fun hb548 => ?_)
                  · have q549 := d_t hb548
                    obtain ⟨d546, rfl⟩ : ∃ e, d546 = e + 1 := ⟨d546 - 1, by omega⟩
                    replace h := is_cntS h
                    refine aw_skip ?_
                    refine aq_then ?_
                    refine aw_seq ?_
                    refine aw_block ?_
                    refine aw_seq ?_
                    refine aw_region ?_
                    refine ao_read trivial (r_move rfl) rfl ?_
                    refine ao_read trivial (r_move rfl) rfl ?_
                    refine ao_read trivial (r_move rfl) rfl ?_
                    refine ao_read trivial (r_idxAddr_os Try.underlying24 Try.sizeOf3 rfl rfl rfl (show 0 ≤ i545 from by omega) (show i545 < (r459.1.length : Int) from by omega)) rfl ?_
                    refine ao_read trivial (r_load_elem_int Try.isAgg3 Try.sizeOf3 rfl rfl (show i545.toNat < r459.1.length from by omega)) rfl ?_
                    obtain ⟨r551, r551h, h⟩ := is_bind h
                    refine ao_call [] 4 trivial (c_impl_ModTable (is_mk r551h)) Try.func42 rfl rfl rfl rfl ⟨ad_os0 rfl, ad_ren rfl, trivial⟩ trivial rfl rfl rfl rfl rfl rfl rfl (fun r' H' hr => ?_)
                    obtain ⟨rfl, rfl⟩ := hr
                    refine ao_norm (y := .tup [.os 4, .bool r551.2]) (H' := [(0, .row (.int .i64) r317.1), (1, .row (.int .i64) r319.1), (2, .row (.arr 6 (.int .i64)) r457), (3, .row (.int .i64) r459.1), (4, .row (.int .i64) r551.1)]) rfl rfl ?_
                    refine row_len_o 4 (r551.1.length : Int) rfl rfl (fun hr552 => ?_)
                    refine ao_read trivial (r_move rfl) rfl ?_
                    refine ao_read trivial (r_extract rfl rfl) rfl ?_
                    refine ao_read trivial (r_extract rfl rfl) rfl ?_
                    refine ao_read trivial (r_assign rfl) rfl ?_
                    refine ao_read trivial (r_assign rfl) rfl ?_
                    refine ao_nil ?_
                    refine aq_then ?_
                    refine aw_seq ?_
                    refine aw_seq ?_
                    refine aw_region ?_
                    refine ao_read trivial (r_move rfl) rfl ?_
                    refine ao_read trivial (r_not rfl) rfl ?_
                    refine ao_nil ?_
                    refine aq_then ?_
                    refine aw_cond rfl (fun hb553 => ?_) (fun hb553 => ?_)
                    · replace h := is_else (ne_t (not_t hb553)) h
                      refine aw_seq ?_
                      refine aw_region ?_
                      refine ao_read trivial (r_assign rfl) rfl ?_
                      refine ao_nil ?_
                      refine aq_then ?_
                      refine aw_ret ?_
                      refine aq_then_ret ?_
                      refine aq_in_ret ?_
                      refine aq_then_ret ?_
                      refine aq_then_ret ?_
                      refine aq_in_ret ?_
                      refine aq_then_ret ?_
                      refine aq_ret ?_
                      obtain rfl := is_some h
                      exact aq_finx (l := [.tmp 2]) (xs := [.bool false]) idn [.bool false] [] rfl (by exact ⟨rfl, trivial⟩) (by exact ⟨ad_ren rfl, trivial⟩) (by exact trivial) rfl (nk rfl) rfl rfl ⟨rfl, rfl⟩
                    · replace h := is_if (not_f hb553) h
                      refine aw_skip ?_
                      refine aq_then ?_
                      refine aw_seq ?_
                      refine aw_region ?_
                      refine ao_read trivial (r_assign rfl) rfl ?_
                      refine ao_nil ?_
                      refine aq_then ?_
                      refine aw_block ?_
                      refine aw_loop (AL.sub (fr' := [(15, .os 0), (16, .int .i64 r317.2), (17, .os 1), (19, .bool r319.2.2), (34, .os 2), (35, .os 3), (43, .int .i64 i545), (44, .os 4), (46, .int .i64 1)]) (H' := [(0, .row (.int .i64) r317.1), (1, .row (.int .i64) r319.1), (2, .row (.arr 6 (.int .i64)) r457), (3, .row (.int .i64) r459.1), (4, .row (.int .i64) r551.1)]) (sub_mk idn (by exact ⟨⟨_, rfl, ad_ren rfl⟩, ⟨_, rfl, ad_ren rfl⟩, ⟨_, rfl, ad_ren rfl⟩, ⟨_, rfl, ad_ren rfl⟩, ⟨_, rfl, ad_ren rfl⟩, ⟨_, rfl, ad_ren rfl⟩, ⟨_, rfl, ad_ren rfl⟩, ⟨_, rfl, ad_ren rfl⟩, ⟨_, rfl, ad_ren rfl⟩, trivial⟩) (by exact ⟨⟨_, rfl, rfl⟩, ⟨_, rfl, rfl⟩, ⟨_, rfl, rfl⟩, ⟨_, rfl, rfl⟩, ⟨_, rfl, rfl⟩, trivial⟩) (by rfl) (nk rfl)) (al_cnt (fun i555 (s554 : Unit) => [(15, .os 0), (16, .int .i64 r317.2), (17, .os 1), (19, .bool r319.2.2), (34, .os 2), (35, .os 3), (43, .int .i64 i545), (44, .os 4), (46, .int .i64 i555)]) (fun i555 (s554 : Unit) => [(0, .row (.int .i64) r317.1), (1, .row (.int .i64) r319.1), (2, .row (.arr 6 (.int .i64)) r457), (3, .row (.int .i64) r459.1), (4, .row (.int .i64) r551.1)]) (fun d i555 (s554 : Unit) => d = Int.toNat ((r551.1.length : Int) - i555) ∧ 1 ≤ i555) h ⟨rfl, (by (try simp only [List.length_set, List.length_append, List.length_cons, List.length_nil, List.length_replicate, List.length_take, List.length_drop]) <;> omega)⟩ (fun d556 i555 s554 hI h ih556 => ?_)))
                      obtain ⟨hd, _⟩ := hI
                      refine al_round ?_
                      refine aw_seq ?_
                      refine aw_seq ?_
                      refine aw_region ?_
                      refine ao_read trivial (r_move rfl) rfl ?_
                      refine ao_read trivial (r_move rfl) rfl ?_
                      refine ao_read trivial (r_len_osm (r551.1.length : Int) Try.underlying24 rfl rfl rfl) rfl ?_
                      refine ao_read trivial (r_lss rfl rfl) rfl ?_
                      refine ao_nil ?_
                      refine aq_then ?_
                      refine aw_cond rfl (fun hb558 => ?_) (fun hb558 => ?_)
                      · have q559 := d_t hb558
                        obtain ⟨d556, rfl⟩ : ∃ e, d556 = e + 1 := ⟨d556 - 1, by omega⟩
                        replace h := is_cntS h
                        refine aw_skip ?_
                        refine aq_then ?_
                        refine aw_seq ?_
                        refine aw_block ?_
                        refine aw_seq ?_
                        refine aw_drawAll (by kernel_rfl) ?_
                        refine an_read 0 (by kernel_rfl) (fun _ _ _ h => h) rfl (by kernel_rfl) trivial (r_move rfl) rfl ?_
                        refine an_read 1 (by kernel_rfl) (fun _ _ _ h => h) rfl (by kernel_rfl) trivial (r_move rfl) rfl ?_
                        refine an_read 2 (by kernel_rfl) (fun _ _ _ h => h) rfl (by kernel_rfl) trivial (r_idxAddr_os Try.underlying24 Try.sizeOf3 rfl rfl rfl (show 0 ≤ i555 from by omega) (show i555 < (r551.1.length : Int) from by omega)) rfl ?_
                        refine an_read 3 (by kernel_rfl) (fun _ _ _ h => h) rfl (by kernel_rfl) trivial (r_load_elem_int Try.isAgg3 Try.sizeOf3 rfl rfl (show i555.toNat < r551.1.length from by omega)) rfl ?_
                        refine an_read 4 (by kernel_rfl) (fun _ _ _ h => h) rfl (by kernel_rfl) trivial (r_move rfl) rfl ?_
                        refine an_read 5 (by kernel_rfl) (fun _ _ _ h => h) rfl (by kernel_rfl) trivial (r_idxAddr_os Try.underlying24 Try.sizeOf3 rfl rfl rfl (show 0 ≤ 0 from by omega) (show 0 < (r551.1.length : Int) from by omega)) rfl ?_
                        refine an_read 6 (by kernel_rfl) (fun _ _ _ h => h) rfl (by kernel_rfl) trivial (r_load_elem_int Try.isAgg3 Try.sizeOf3 rfl rfl (show 0 < r551.1.length from by omega)) rfl ?_
                        refine an_read 7 (by kernel_rfl) (fun _ _ _ h => h) rfl (by kernel_rfl) trivial (r_neq rfl rfl) rfl ?_
                        refine an_done rfl ?_
                        refine aq_then ?_
                        refine aw_cond rfl (fun hb561 => ?_) (fun hb561 => ?_)
                        · have q562 : ¬ ((r551.1.getD i555.toNat 0) = (r551.1.getD 0 0)) := d_f (not_t hb561)
                          replace h := is_else (d_f (not_t hb561)) h
                          refine aw_seq ?_
                          refine aw_region ?_
                          refine ao_read trivial (r_assign rfl) rfl ?_
                          refine ao_nil ?_
                          refine aq_then ?_
                          refine aw_ret ?_
                          refine aq_in_ret ?_
                          refine aq_then_ret ?_
                          refine aq_then_ret ?_
                          refine aq_in_ret ?_
                          refine aq_in_ret ?_
                          refine aq_then_ret ?_
                          refine aq_then_ret ?_
                          refine aq_in_ret ?_
                          refine aq_then_ret ?_
                          refine aq_ret ?_
                          obtain rfl := is_some h
                          exact aq_finx (l := [.tmp 2]) (xs := [.bool false]) idn [.bool false] [] rfl (by exact ⟨rfl, trivial⟩) (by exact ⟨ad_ren rfl, trivial⟩) (by exact trivial) rfl (nk rfl) rfl rfl ⟨rfl, rfl⟩
                        · have q563 : (r551.1.getD i555.toNat 0) = (r551.1.getD 0 0) := d_t (not_f hb561)
                          replace h := is_if (d_t (not_f hb561)) h
                          refine aw_skip ?_
                          refine aq_in ?_
                          refine aq_then ?_
                          refine aw_region ?_
                          refine ao_read trivial (r_move rfl) rfl ?_
                          refine ao_read trivial (r_addI rfl rfl (wrap_id (by omega) (by omega))) rfl ?_
                          refine ao_read trivial (r_assign rfl) rfl ?_
                          refine ao_nil ?_
                          exact aq_again (AL.sub (sub_mk idn (by exact ⟨⟨_, rfl, ad_ren rfl⟩, ⟨_, rfl, ad_ren rfl⟩, ⟨_, rfl, ad_ren rfl⟩, ⟨_, rfl, ad_ren rfl⟩, ⟨_, rfl, ad_ren rfl⟩, ⟨_, rfl, ad_ren rfl⟩, ⟨_, rfl, ad_ren rfl⟩, ⟨_, rfl, ad_ren rfl⟩, ⟨_, rfl, ad_ren rfl⟩, trivial⟩) (by exact ⟨⟨_, rfl, rfl⟩, ⟨_, rfl, rfl⟩, ⟨_, rfl, rfl⟩, ⟨_, rfl, rfl⟩, ⟨_, rfl, rfl⟩, trivial⟩) (by rfl) (nk rfl)) (ih556 d556 (i555 + 1) () (by omega) ⟨by omega, (by (try simp only [List.length_set, List.length_append, List.length_cons, List.length_nil, List.length_replicate, List.length_take, List.length_drop]) <;> omega)⟩ h))
                      · have q560 := d_f hb558
                        obtain rfl : d556 = 0 := by omega
                        replace h := is_cnt0 h
                        refine aw_exit ?_
                        refine aq_then_exit ?_
                        refine aq_then_exit ?_
                        refine aq_in_exit ?_
                        refine aq_in ?_
                        refine aq_then ?_
                        refine aw_region ?_
                        refine ao_read trivial (r_move rfl) rfl ?_
                        refine ao_read trivial (r_addI rfl rfl (wrap_id (by omega) (by omega))) rfl ?_
                        refine ao_read trivial (r_assign rfl) rfl ?_
                        refine ao_nil ?_
                        exact aq_again (AL.sub (sub_mk idn (by exact ⟨⟨_, rfl, ad_ren rfl⟩, ⟨_, rfl, ad_ren rfl⟩, ⟨_, rfl, ad_ren rfl⟩, ⟨_, rfl, ad_ren rfl⟩, ⟨_, rfl, ad_ren rfl⟩, ⟨_, rfl, ad_ren rfl⟩, ⟨_, rfl, ad_ren rfl⟩, trivial⟩) (by exact ⟨⟨_, rfl, rfl⟩, ⟨_, rfl, rfl⟩, ⟨_, rfl, rfl⟩, ⟨_, rfl, rfl⟩, trivial⟩) (by rfl) (nk rfl)) (ih546 d546 (i545 + 1) () (by omega) ⟨by omega, (by (try simp only [List.length_set, List.length_append, List.length_cons, List.length_nil, List.length_replicate, List.length_take, List.length_drop]) <;> omega), (by (try simp only [List.length_set, List.length_append, List.length_cons, List.length_nil, List.length_replicate, List.length_take, List.length_drop]) <;> omega)⟩ h))
                  · have q550 := d_f hb548
                    obtain rfl : d546 = 0 := by omega
                    replace h := is_cnt0 h
                    refine aw_exit ?_
                    refine aq_then_exit ?_
                    refine aq_then_exit ?_
                    refine aq_in_exit ?_
                    refine aq_then ?_
                    refine aw_seq ?_
                    refine aw_seq ?_
                    refine aw_region ?_
                    refine ao_read trivial (r_move rfl) rfl ?_
                    refine ao_read trivial (r_move rfl) rfl ?_
                    refine ao_readG (x := .int .i64 r317.2) rfl (GV.T rfl) (fun hg564 => r_move rfl) rfl ?_
                    refine ao_readG (x := .bool (decide (1 ≤ r317.2))) rfl (GV.T rfl) (fun hg565 => Reads.strip 331 rfl (hg565) (r_geq rfl rfl)) rfl ?_
                    refine ao_read trivial (r_andB rfl rfl) rfl ?_
                    refine ao_read trivial (r_move rfl) rfl ?_
                    refine ao_readG (x := .int .i64 r317.2) rfl (GV.T rfl) (fun hg566 => by
                          obtain ⟨q567, q568⟩ := and_t hg566
                          have q569 := d_t q568
                          exact r_move rfl) rfl ?_
                    refine ao_readG (x := .bool (decide (r317.2 ≤ 5))) rfl (GV.T rfl) (fun hg570 => by
                          obtain ⟨q571, q572⟩ := and_t hg570
                          have q573 := d_t q572
                          exact Reads.strip 335 rfl (hg570) (r_leq rfl rfl)) rfl ?_
                    refine ao_read trivial (r_andB rfl rfl) rfl ?_
                    refine ao_nil ?_
                    refine aq_then ?_
                    refine aw_cond rfl (fun hb574 => ?_) (fun hb574 => ?_)
                    · obtain ⟨q575, q576⟩ := and_t hb574
                      obtain ⟨q577, q578⟩ := and_t q575
                      have q579 := d_t q578
                      have q580 := d_t q576
                      replace h := is_if hb574 h
                      refine aw_seq ?_
                      refine aw_region ?_
                      refine ao_eff trivial (e_buildSlice (l := []) (t := (.int .i64)) 5 ([] : (List Int)) rfl Try.underlying24 Try.zeroValue3 Try.sizeOf3 rfl rfl rfl rfl rfl rfl rfl) rfl ?_
                      refine ao_read trivial (r_assign rfl) rfl ?_
                      refine ao_nil ?_
                      refine aq_then ?_
                      refine aw_seq ?_
                      refine aw_seq ?_
                      refine aw_region ?_
                      refine ao_read trivial (r_assign rfl) rfl ?_
                      refine ao_nil ?_
                      refine aq_then ?_
                      refine aw_block ?_
                      refine aw_loop (AL.sub (sub_mk (rn [(2, 5)]) (by exact ⟨⟨_, rfl, ad_ren rfl⟩, ⟨_, rfl, ad_ren rfl⟩, ⟨_, rfl, ad_ren rfl⟩, ⟨_, rfl, ad_ren rfl⟩, ⟨_, rfl, ad_ren rfl⟩, trivial⟩) (by exact ⟨⟨_, rfl, rfl⟩, ⟨_, rfl, rfl⟩, ⟨_, rfl, rfl⟩, trivial⟩) (by rfl) (nk rfl)) (al_whl (fun (s581 : Int × (List Int)) => [(15, .os 0), (16, .int .i64 r317.2), (17, .os 1), (47, .os 2), (48, .int .i64 s581.1)]) (fun (s581 : Int × (List Int)) => [(0, .row (.int .i64) r317.1), (1, .row (.int .i64) r319.1), (2, .row (.int .i64) s581.2)]) (fun (s581 : Int × (List Int)) => True) h trivial (fun d583 s581 hI h ih583 => ?_)))
                      replace h := is_whlS h
                      refine al_round ?_
                      refine aw_seq ?_
                      refine aw_seq ?_
                      refine aw_region ?_
                      refine ao_read trivial (r_move rfl) rfl ?_
                      refine ao_read trivial (r_add rfl rfl) rfl ?_
                      refine ao_read trivial (r_move rfl) rfl ?_
                      refine ao_read trivial (r_len_osm (r317.1.length : Int) Try.underlying24 rfl rfl rfl) rfl ?_
                      refine ao_read trivial (r_lss rfl rfl) rfl ?_
                      refine ao_nil ?_
                      refine aq_then ?_
                      refine aw_cond rfl (fun hb585 => ?_) (fun hb585 => ?_)
                      · have q586 := d_t hb585
                        replace h := is_if (d_t hb585) h
                        refine aw_skip ?_
                        refine aq_then ?_
                        refine aw_seq ?_
                        refine aw_block ?_
                        obtain ⟨g588, h⟩ := is_guard h
                        obtain ⟨g589, h⟩ := is_guard h
                        obtain ⟨g590, h⟩ := is_guard h
                        refine aw_draw 11 (by kernel_rfl) (by kernel_rfl) ?_
                        refine an_to [(15, .os 0), (16, .int .i64 r317.2), (17, .os 1), (47, .os 2), (48, .int .i64 s581.1), (346, .os 2), (356, .os 3)] [(0, .row (.int .i64) r317.1), (1, .row (.int .i64) r319.1), (2, .row (.int .i64) s581.2), (3, .row (.int .i64) ([(r317.1.getD (IntKind.wrap .i64 (s581.1 + 1)).toNat 0), (r317.1.getD s581.1.toNat 0)] : (List Int)))] ?_ (fun key => ?_)
                        · refine aq_tail rfl ?_
                          obtain ⟨g591, h⟩ := is_guard h
                          refine ao_eff trivial (e_append (t := (.int .i64)) 4 rfl Try.underlying24 (rfl : Try.prog.info? 3 = some _) rfl rfl rfl rfl rfl rfl rfl (src_os rfl) (show s581.2.length + ([(r317.1.getD (IntKind.wrap .i64 (s581.1 + 1)).toNat 0), (r317.1.getD s581.1.toNat 0)] : (List Int)).length ≤ 1000000000 from by (try simp only [List.length_cons, List.length_nil]) <;> omega) rfl rfl) rfl ?_
                          refine ao_read trivial (r_assign rfl) rfl ?_
                          refine ao_nil ?_
                          refine aq_in ?_
                          refine aq_then ?_
                          refine aw_region ?_
                          refine ao_read trivial (r_move rfl) rfl ?_
                          refine ao_read trivial (r_add rfl rfl) rfl ?_
                          refine ao_read trivial (r_assign rfl) rfl ?_
                          refine ao_nil ?_
                          exact aq_again (AL.sub (sub_mk (rn [(2, 4)]) (by exact ⟨⟨_, rfl, ad_ren rfl⟩, ⟨_, rfl, ad_ren rfl⟩, ⟨_, rfl, ad_ren rfl⟩, ⟨_, rfl, ad_ren rfl⟩, ⟨_, rfl, ad_ren rfl⟩, trivial⟩) (by exact ⟨⟨_, rfl, rfl⟩, ⟨_, rfl, rfl⟩, ⟨_, rfl, rfl⟩, trivial⟩) (by rfl) (nk rfl)) (ih583 ((IntKind.wrap .i64 (s581.1 + 2)), (s581.2 ++ [(r317.1.getD (IntKind.wrap .i64 (s581.1 + 1)).toNat 0), (r317.1.getD s581.1.toNat 0)])) trivial h))
                        · refine an_read 0 (by kernel_rfl) (fun _ _ _ h => h) rfl (by kernel_rfl) trivial (r_move rfl) rfl ?_
                          refine an_read 1 (by kernel_rfl) (fun _ _ _ h => h) rfl (by kernel_rfl) trivial (r_move rfl) rfl ?_
                          refine an_read 2 (by kernel_rfl) (fun _ _ _ h => h) rfl (by kernel_rfl) trivial (r_move rfl) rfl ?_
                          refine an_read 3 (by kernel_rfl) (fun _ _ _ h => h) rfl (by kernel_rfl) trivial (r_add rfl rfl) rfl ?_
                          refine an_read 4 (by kernel_rfl) (fun _ _ _ h => h) rfl (by kernel_rfl) trivial (r_idxAddr_os Try.underlying24 Try.sizeOf3 rfl rfl rfl (show 0 ≤ (IntKind.wrap .i64 (s581.1 + 1)) from by omega) (show (IntKind.wrap .i64 (s581.1 + 1)) < (r317.1.length : Int) from by omega)) rfl ?_
                          refine an_read 5 (by kernel_rfl) (fun _ _ _ h => h) rfl (by kernel_rfl) trivial (r_load_elem_int Try.isAgg3 Try.sizeOf3 rfl rfl (show (IntKind.wrap .i64 (s581.1 + 1)).toNat < r317.1.length from by omega)) rfl ?_
                          refine an_read 6 (by kernel_rfl) (fun _ _ _ h => h) rfl (by kernel_rfl) trivial (r_move rfl) rfl ?_
                          refine an_read 7 (by kernel_rfl) (fun _ _ _ h => h) rfl (by kernel_rfl) trivial (r_move rfl) rfl ?_
                          refine an_read 8 (by kernel_rfl) (fun _ _ _ h => h) rfl (by kernel_rfl) trivial (r_idxAddr_os Try.underlying24 Try.sizeOf3 rfl rfl rfl (show 0 ≤ s581.1 from by omega) (show s581.1 < (r317.1.length : Int) from by omega)) rfl ?_
                          refine an_read 9 (by kernel_rfl) (fun _ _ _ h => h) rfl (by kernel_rfl) trivial (r_load_elem_int Try.isAgg3 Try.sizeOf3 rfl rfl (show s581.1.toNat < r317.1.length from by omega)) rfl ?_
                          refine an_explore 3 rfl ?_
                          refine ax_all [10] (by kernel_rfl) ⟨?_, trivial⟩
                          refine axo_eff 10 rfl trivial (e_buildSlice (l := [(0, .tmp 351), (1, .tmp 355)]) (t := (.int .i64)) 3 ([(r317.1.getD (IntKind.wrap .i64 (s581.1 + 1)).toNat 0), (r317.1.getD s581.1.toNat 0)] : (List Int)) rfl Try.underlying24 Try.zeroValue3 Try.sizeOf3 rfl rfl rfl rfl rfl rfl rfl) rfl rfl ?_
                          exact ax_done rfl (AQ.sub (sub_mk idn (by exact ⟨⟨_, rfl, ad_ren rfl⟩, ⟨_, rfl, ad_ren rfl⟩, ⟨_, rfl, ad_ren rfl⟩, ⟨_, rfl, ad_ren rfl⟩, ⟨_, rfl, ad_ren rfl⟩, ⟨_, rfl, ad_ren rfl⟩, ⟨_, rfl, ad_ren rfl⟩, trivial⟩) (by exact ⟨⟨_, rfl, rfl⟩, ⟨_, rfl, rfl⟩, ⟨_, rfl, rfl⟩, ⟨_, rfl, rfl⟩, trivial⟩) (by rfl) (nk rfl)) key)
                      · have q587 := d_f hb585
                        replace h := is_else (d_f hb585) h
                        refine aw_exit ?_
                        refine aq_then_exit ?_
                        refine aq_then_exit ?_
                        refine aq_in_exit ?_
                        refine aq_then ?_
                        refine aw_seq ?_
                        refine aw_region ?_
                        refine ao_read trivial (r_move rfl) rfl ?_
                        refine ao_read trivial (r_move rfl) rfl ?_
                        obtain ⟨r592, r592h, h⟩ := is_bind h
                        refine ao_call [] 5 trivial (c_impl_EvenCoin (is_mk r592h)) Try.func36 rfl rfl rfl rfl ⟨ad_os0 rfl, ad_ren rfl, trivial⟩ trivial rfl rfl rfl rfl rfl rfl rfl (fun r' H' hr => ?_)
                        obtain ⟨rfl, rfl⟩ := hr
                        refine ao_norm (y := .tup [.os 5, .int .i64 r592.2.1, .bool r592.2.2]) (H' := [(0, .row (.int .i64) r317.1), (1, .row (.int .i64) r319.1), (2, .row (.int .i64) s581.2), (5, .row (.int .i64) r592.1)]) rfl rfl ?_
                        refine row_len_o 5 (r592.1.length : Int) rfl rfl (fun hr593 => ?_)
                        refine ao_read trivial (r_move rfl) rfl ?_
                        refine ao_read trivial (r_extract rfl rfl) rfl ?_
                        refine ao_read trivial (r_extract rfl rfl) rfl ?_
                        refine ao_read trivial (r_extract rfl rfl) rfl ?_
                        refine ao_read trivial (r_assign rfl) rfl ?_
                        refine ao_read trivial (r_assign rfl) rfl ?_
                        refine ao_read trivial (r_assign rfl) rfl ?_
                        refine ao_nil ?_
                        refine aq_then ?_
                        refine aw_seq ?_
                        refine aw_seq ?_
                        refine aw_region ?_
                        refine ao_read trivial (r_move rfl) rfl ?_
                        refine ao_read trivial (r_not rfl) rfl ?_
                        refine ao_read trivial (r_move rfl) rfl ?_
                        refine ao_readG (x := .os 5) rfl (GV.F rfl) (fun hg594 => r_move rfl) rfl ?_
                        refine ao_readG (x := .int .i64 (r592.1.length : Int)) rfl (GV.F rfl) (fun hg595 => Reads.strip 368 rfl (hg595) (r_len_osm (r592.1.length : Int) Try.underlying24 rfl rfl rfl)) rfl ?_
                        refine ao_readG (x := .os 1) rfl (GV.F rfl) (fun hg596 => r_move rfl) rfl ?_
                        refine ao_readG (x := .int .i64 (r319.1.length : Int)) rfl (GV.F rfl) (fun hg597 => Reads.strip 370 rfl (hg597) (r_len_osm (r319.1.length : Int) Try.underlying24 rfl rfl rfl)) rfl ?_
                        refine ao_readG (x := .bool (!(decide ((r592.1.length : Int) = (r319.1.length : Int))))) rfl (GV.F rfl) (fun hg598 => Reads.strip 369 rfl (hg598) (Reads.strip 371 rfl (hg598) (r_neq rfl rfl))) rfl ?_
                        refine ao_read trivial (r_orB rfl rfl) rfl ?_
                        refine ao_nil ?_
                        refine aq_then ?_
                        refine aw_cond rfl (fun hb599 => ?_) (fun hb599 => ?_)
                        · replace h := is_if hb599 h
                          refine aw_seq ?_
                          refine aw_region ?_
                          refine ao_read trivial (r_assign rfl) rfl ?_
                          refine ao_nil ?_
                          refine aq_then ?_
                          refine aw_ret ?_
                          refine aq_then_ret ?_
                          refine aq_then_ret ?_
                          refine aq_ret ?_
                          obtain rfl := is_some h
                          exact aq_finx (l := [.tmp 2]) (xs := [.bool false]) idn [.bool false] [] rfl (by exact ⟨rfl, trivial⟩) (by exact ⟨ad_ren rfl, trivial⟩) (by exact trivial) rfl (nk rfl) rfl rfl ⟨rfl, rfl⟩
                        · obtain ⟨q600, q601⟩ := or_f hb599
                          have q602 := d_t (not_f q601)
                          replace h := is_else (ne_t hb599) h
                          refine aw_skip ?_
                          refine aq_then ?_
                          refine aw_seq ?_
                          refine aw_region ?_
                          refine ao_read trivial (r_assign rfl) rfl ?_
                          refine ao_nil ?_
                          refine aq_then ?_
                          refine aw_block ?_
                          refine aw_loop (AL.sub (fr' := [(17, .os 0), (49, .os 1), (52, .int .i64 0)]) (H' := [(0, .row (.int .i64) r319.1), (1, .row (.int .i64) r592.1)]) (sub_mk (rn [(0, 1), (1, 5)]) (by exact ⟨⟨_, rfl, ad_ren rfl⟩, ⟨_, rfl, ad_ren rfl⟩, ⟨_, rfl, ad_ren rfl⟩, trivial⟩) (by exact ⟨⟨_, rfl, rfl⟩, ⟨_, rfl, rfl⟩, trivial⟩) (by rfl) (nk rfl)) (al_cnt (fun i604 (s603 : Unit) => [(17, .os 0), (49, .os 1), (52, .int .i64 i604)]) (fun i604 (s603 : Unit) => [(0, .row (.int .i64) r319.1), (1, .row (.int .i64) r592.1)]) (fun d i604 (s603 : Unit) => d = Int.toNat ((r319.1.length : Int) - i604) ∧ 0 ≤ i604 ∧ i604 ≤ (r319.1.length : Int)) h ⟨rfl, (by (try simp only [List.length_set, List.length_append, List.length_cons, List.length_nil, List.length_replicate, List.length_take, List.length_drop]) <;> omega), (by (try simp only [List.length_set, List.length_append, List.length_cons, List.length_nil, List.length_replicate, List.length_take, List.length_drop]) <;> omega)⟩ (fun d605 i604 s603 hI h ih605 => ?_)))
                          obtain ⟨hd, _, _⟩ := hI
                          refine al_round ?_
                          refine aw_seq ?_
                          refine aw_seq ?_
                          refine aw_region ?_
                          refine ao_read trivial (r_move rfl) rfl ?_
                          refine ao_read trivial (r_move rfl) rfl ?_
                          refine ao_read trivial (r_len_osm (r319.1.length : Int) Try.underlying24 rfl rfl rfl) rfl ?_
                          refine ao_read trivial (r_lss rfl rfl) rfl ?_
                          refine ao_nil ?_
                          refine aq_then ?_
                          refine aw_cond rfl (fun hb607 => ?_) (fun hb607 => ?_)
                          · have q608 := d_t hb607
                            obtain ⟨d605, rfl⟩ : ∃ e, d605 = e + 1 := ⟨d605 - 1, by omega⟩
                            replace h := is_cntS h
                            refine aw_skip ?_
                            refine aq_then ?_
                            refine aw_seq ?_
                            refine aw_block ?_
                            refine aw_seq ?_
                            refine aw_drawAll (by kernel_rfl) ?_
                            refine an_read 0 (by kernel_rfl) (fun _ _ _ h => h) rfl (by kernel_rfl) trivial (r_move rfl) rfl ?_
                            refine an_read 1 (by kernel_rfl) (fun _ _ _ h => h) rfl (by kernel_rfl) trivial (r_move rfl) rfl ?_
                            refine an_read 2 (by kernel_rfl) (fun _ _ _ h => h) rfl (by kernel_rfl) trivial (r_idxAddr_os Try.underlying24 Try.sizeOf3 rfl rfl rfl (show 0 ≤ i604 from by omega) (show i604 < (r592.1.length : Int) from by omega)) rfl ?_
                            refine an_read 3 (by kernel_rfl) (fun _ _ _ h => h) rfl (by kernel_rfl) trivial (r_load_elem_int Try.isAgg3 Try.sizeOf3 rfl rfl (show i604.toNat < r592.1.length from by omega)) rfl ?_
                            refine an_read 4 (by kernel_rfl) (fun _ _ _ h => h) rfl (by kernel_rfl) trivial (r_move rfl) rfl ?_
                            refine an_read 5 (by kernel_rfl) (fun _ _ _ h => h) rfl (by kernel_rfl) trivial (r_move rfl) rfl ?_
                            refine an_read 6 (by kernel_rfl) (fun _ _ _ h => h) rfl (by kernel_rfl) trivial (r_idxAddr_os Try.underlying24 Try.sizeOf3 rfl rfl rfl (show 0 ≤ i604 from by omega) (show i604 < (r319.1.length : Int) from by omega)) rfl ?_
                            refine an_read 7 (by kernel_rfl) (fun _ _ _ h => h) rfl (by kernel_rfl) trivial (r_load_elem_int Try.isAgg3 Try.sizeOf3 rfl rfl (show i604.toNat < r319.1.length from by omega)) rfl ?_
                            refine an_read 8 (by kernel_rfl) (fun _ _ _ h => h) rfl (by kernel_rfl) trivial (r_eql rfl rfl) rfl ?_
                            refine an_done rfl ?_
                            refine aq_then ?_
                            refine aw_cond rfl (fun hb610 => ?_) (fun hb610 => ?_)
                            · have q611 : (r592.1.getD i604.toNat 0) = (r319.1.getD i604.toNat 0) := d_t hb610
                              replace h := is_if (d_t hb610) h
                              refine aw_seq ?_
                              refine aw_region ?_
                              refine ao_read trivial (r_assign rfl) rfl ?_
                              refine ao_nil ?_
                              refine aq_then ?_
                              refine aw_ret ?_
                              refine aq_in_ret ?_
                              refine aq_then_ret ?_
                              refine aq_then_ret ?_
                              refine aq_in_ret ?_
                              refine aq_then_ret ?_
                              refine aq_ret ?_
                              obtain rfl := is_some h
                              exact aq_finx (l := [.tmp 2]) (xs := [.bool false]) idn [.bool false] [] rfl (by exact ⟨rfl, trivial⟩) (by exact ⟨ad_ren rfl, trivial⟩) (by exact trivial) rfl (nk rfl) rfl rfl ⟨rfl, rfl⟩
                            · have q612 : ¬ ((r592.1.getD i604.toNat 0) = (r319.1.getD i604.toNat 0)) := d_f hb610
                              replace h := is_else (d_f hb610) h
                              refine aw_skip ?_
                              refine aq_in ?_
                              refine aq_then ?_
                              refine aw_region ?_
                              refine ao_read trivial (r_move rfl) rfl ?_
                              refine ao_read trivial (r_addI rfl rfl (wrap_id (by omega) (by omega))) rfl ?_
                              refine ao_read trivial (r_assign rfl) rfl ?_
                              refine ao_nil ?_
                              exact aq_again (AL.sub (sub_mk idn (by exact ⟨⟨_, rfl, ad_ren rfl⟩, ⟨_, rfl, ad_ren rfl⟩, ⟨_, rfl, ad_ren rfl⟩, trivial⟩) (by exact ⟨⟨_, rfl, rfl⟩, ⟨_, rfl, rfl⟩, trivial⟩) (by rfl) (nk rfl)) (ih605 d605 (i604 + 1) () (by omega) ⟨by omega, (by (try simp only [List.length_set, List.length_append, List.length_cons, List.length_nil, List.length_replicate, List.length_take, List.length_drop]) <;> omega), (by (try simp only [List.length_set, List.length_append, List.length_cons, List.length_nil, List.length_replicate, List.length_take, List.length_drop]) <;> omega)⟩ h))
                          · have q609 := d_f hb607
                            obtain rfl : d605 = 0 := by omega
                            replace h := is_cnt0 h
                            refine aw_exit ?_
                            refine aq_then_exit ?_
                            refine aq_then_exit ?_
                            refine aq_in_exit ?_
                            refine aq_then ?_
                            refine aw_seq ?_
                            refine aw_region ?_
                            refine ao_read trivial (r_assign rfl) rfl ?_
                            refine ao_nil ?_
                            refine aq_then ?_
                            refine aw_ret ?_
                            refine aq_ret ?_
                            obtain rfl := is_some h
                            exact aq_finx (l := [.tmp 2]) (xs := [.bool true]) idn [.bool true] [] rfl (by exact ⟨rfl, trivial⟩) (by exact ⟨ad_ren rfl, trivial⟩) (by exact trivial) rfl (nk rfl) rfl rfl ⟨rfl, rfl⟩
                    · replace h := is_else (ne_t hb574) h
                      refine aw_skip ?_
                      refine aq_then ?_
                      refine aw_seq ?_
                      refine aw_region ?_
                      refine ao_read trivial (r_assign rfl) rfl ?_
                      refine ao_nil ?_
                      refine aq_then ?_
                      refine aw_ret ?_
                      refine aq_ret ?_
                      obtain rfl := is_some h
                      exact aq_finx (l := [.tmp 2]) (xs := [.bool true]) idn [.bool true] [] rfl (by exact ⟨rfl, trivial⟩) (by exact ⟨ad_ren rfl, trivial⟩) (by exact trivial) rfl (nk rfl) rfl rfl ⟨rfl, rfl⟩
                · refine aw_seq ?_
                  refine aw_region ?_
                  refine ao_read trivial (r_move rfl) rfl ?_
                  refine ao_nil ?_
                  refine aq_then ?_
                  refine aw_cond rfl (fun hb613 => ?_) (fun hb613 => ?_)
                  · replace h := is_if hb613 h
                    refine aw_seq ?_
                    refine aw_region ?_
                    refine ao_read trivial (r_assign rfl) rfl ?_
                    refine ao_read trivial (r_assign rfl) rfl ?_
                    refine ao_nil ?_
                    refine aq_then ?_
                    refine aw_seq ?_
                    refine aw_seq ?_
                    refine aw_region ?_
                    refine ao_read trivial (r_assign rfl) rfl ?_
                    refine ao_nil ?_
                    refine aq_then ?_
                    refine aw_block ?_
                    refine aw_loop (AL.sub (fr' := [(15, .os 0), (16, .int .i64 r317.2), (17, .os 1), (19, .bool r319.2.2), (28, .os 2), (29, .int .i64 r444.2), (30, .os 3), (34, .os 4), (35, .os 5), (39, .int .i64 0), (40, .int .i64 1), (41, .int .i64 0)]) (H' := [(0, .row (.int .i64) r317.1), (1, .row (.int .i64) r319.1), (2, .row (.arr 6 (.int .i64)) r444.1), (3, .row (.int .i64) r446.1), (4, .row (.arr 6 (.int .i64)) r457), (5, .row (.int .i64) r459.1)]) (sub_mk (rn [(0, 6), (1, 7), (2, 11), (3, 12), (4, 14), (5, 15)]) (by exact ⟨⟨_, rfl, ad_ren rfl⟩, ⟨_, rfl, ad_ren rfl⟩, ⟨_, rfl, ad_ren rfl⟩, ⟨_, rfl, ad_ren rfl⟩, ⟨_, rfl, ad_ren rfl⟩, ⟨_, rfl, ad_ren rfl⟩, ⟨_, rfl, ad_ren rfl⟩, ⟨_, rfl, ad_ren rfl⟩, ⟨_, rfl, ad_ren rfl⟩, ⟨_, rfl, ad_ren rfl⟩, ⟨_, rfl, ad_ren rfl⟩, ⟨_, rfl, ad_ren rfl⟩, trivial⟩) (by exact ⟨⟨_, rfl, rfl⟩, ⟨_, rfl, rfl⟩, ⟨_, rfl, rfl⟩, ⟨_, rfl, rfl⟩, ⟨_, rfl, rfl⟩, ⟨_, rfl, rfl⟩, trivial⟩) (by rfl) (nk rfl)) (al_cnt (fun i615 (s614 : Int) => [(15, .os 0), (16, .int .i64 r317.2), (17, .os 1), (19, .bool r319.2.2), (28, .os 2), (29, .int .i64 r444.2), (30, .os 3), (34, .os 4), (35, .os 5), (39, .int .i64 s614), (40, .int .i64 1), (41, .int .i64 i615)]) (fun i615 (s614 : Int) => [(0, .row (.int .i64) r317.1), (1, .row (.int .i64) r319.1), (2, .row (.arr 6 (.int .i64)) r444.1), (3, .row (.int .i64) r446.1), (4, .row (.arr 6 (.int .i64)) r457), (5, .row (.int .i64) r459.1)]) (fun d i615 (s614 : Int) => d = Int.toNat ((r446.1.length : Int) - i615) ∧ 0 ≤ i615 ∧ i615 ≤ (r446.1.length : Int)) h ⟨rfl, (by (try simp only [List.length_set, List.length_append, List.length_cons, List.length_nil, List.length_replicate, List.length_take, List.length_drop]) <;> omega), (by (try simp only [List.length_set, List.length_append, List.length_cons, List.length_nil, List.length_replicate, List.length_take, List.length_drop]) <;> omega)⟩ (fun d616 i615 s614 hI h ih616 => ?_)))
                    obtain ⟨hd, _, _⟩ := hI
                    refine al_round ?_
                    refine aw_seq ?_
                    refine aw_seq ?_
                    refine aw_region ?_
                    refine ao_read trivial (r_move rfl) rfl ?_
                    refine ao_read trivial (r_move rfl) rfl ?_
                    refine ao_read trivial (r_len_osm (r446.1.length : Int) Try.underlying24 rfl rfl rfl) rfl ?_
                    refine ao_read trivial (r_lss rfl rfl) rfl ?_
                    refine ao_nil ?_
                    refine aq_then ?_
                    refine aw_cond rfl (fun hb618 => ?_) (fun hb618 => ?_)
                    · have q619 := d_t hb618
                      obtain ⟨d616, rfl⟩ : ∃ e, d616 = e + 1 := ⟨d616 - 1, by omega⟩
                      replace h := is_cntS h
                      refine aw_skip ?_
                      refine aq_then ?_
                      refine aw_seq ?_
                      refine aw_block ?_
                      refine aw_region ?_
                      refine ao_read trivial (r_move rfl) rfl ?_
                      refine ao_read trivial (r_move rfl) rfl ?_
                      refine ao_read trivial (r_move rfl) rfl ?_
                      refine ao_read trivial (r_idxAddr_os Try.underlying24 Try.sizeOf3 rfl rfl rfl (show 0 ≤ i615 from by omega) (show i615 < (r446.1.length : Int) from by omega)) rfl ?_
                      refine ao_read trivial (r_load_elem_int Try.isAgg3 Try.sizeOf3 rfl rfl (show i615.toNat < r446.1.length from by omega)) rfl ?_
                      refine ao_read trivial (r_add rfl rfl) rfl ?_
                      refine ao_read trivial (r_assign rfl) rfl ?_
                      refine ao_nil ?_
                      refine aq_in ?_
                      refine aq_then ?_
                      refine aw_region ?_
                      refine ao_read trivial (r_move rfl) rfl ?_
                      refine ao_read trivial (r_addI rfl rfl (wrap_id (by omega) (by omega))) rfl ?_
                      refine ao_read trivial (r_assign rfl) rfl ?_
                      refine ao_nil ?_
                      exact aq_again (AL.sub (sub_mk idn (by exact ⟨⟨_, rfl, ad_ren rfl⟩, ⟨_, rfl, ad_ren rfl⟩, ⟨_, rfl, ad_ren rfl⟩, ⟨_, rfl, ad_ren rfl⟩, ⟨_, rfl, ad_ren rfl⟩, ⟨_, rfl, ad_ren rfl⟩, ⟨_, rfl, ad_ren rfl⟩, ⟨_, rfl, ad_ren rfl⟩, ⟨_, rfl, ad_ren rfl⟩, ⟨_, rfl, ad_ren rfl⟩, ⟨_, rfl, ad_ren rfl⟩, ⟨_, rfl, ad_ren rfl⟩, trivial⟩) (by exact ⟨⟨_, rfl, rfl⟩, ⟨_, rfl, rfl⟩, ⟨_, rfl, rfl⟩, ⟨_, rfl, rfl⟩, ⟨_, rfl, rfl⟩, ⟨_, rfl, rfl⟩, trivial⟩) (by rfl) (nk rfl)) (ih616 d616 (i615 + 1) (IntKind.wrap .i64 (s614 + (r446.1.getD i615.toNat 0))) (by omega) ⟨by omega, (by (try simp only [List.length_set, List.length_append, List.length_cons, List.length_nil, List.length_replicate, List.length_take, List.length_drop]) <;> omega), (by (try simp only [List.length_set, List.length_append, List.length_cons, List.length_nil, List.length_replicate, List.length_take, List.length_drop]) <;> omega)⟩ h))
                    · have q620 := d_f hb618
                      obtain rfl : d616 = 0 := by omega
                      replace h := is_cnt0 h
                      refine aw_exit ?_
                      refine aq_then_exit ?_
                      refine aq_then_exit ?_
                      refine aq_in_exit ?_
                      refine aq_then ?_
                      refine aw_seq ?_
                      refine aw_seq ?_
                      refine aw_region ?_
                      refine ao_read trivial (r_assign rfl) rfl ?_
                      refine ao_nil ?_
                      refine aq_then ?_
                      refine aw_block ?_
                      refine aw_loop (AL.sub (fr' := [(15, .os 0), (16, .int .i64 r317.2), (17, .os 1), (19, .bool r319.2.2), (28, .os 2), (29, .int .i64 r444.2), (30, .os 3), (34, .os 4), (35, .os 5), (39, .int .i64 s614), (40, .int .i64 1), (42, .int .i64 0)]) (H' := [(0, .row (.int .i64) r317.1), (1, .row (.int .i64) r319.1), (2, .row (.arr 6 (.int .i64)) r444.1), (3, .row (.int .i64) r446.1), (4, .row (.arr 6 (.int .i64)) r457), (5, .row (.int .i64) r459.1)]) (sub_mk idn (by exact ⟨⟨_, rfl, ad_ren rfl⟩, ⟨_, rfl, ad_ren rfl⟩, ⟨_, rfl, ad_ren rfl⟩, ⟨_, rfl, ad_ren rfl⟩, ⟨_, rfl, ad_ren rfl⟩, ⟨_, rfl, ad_ren rfl⟩, ⟨_, rfl, ad_ren rfl⟩, ⟨_, rfl, ad_ren rfl⟩, ⟨_, rfl, ad_ren rfl⟩, ⟨_, rfl, ad_ren rfl⟩, ⟨_, rfl, ad_ren rfl⟩, ⟨_, rfl, ad_ren rfl⟩, trivial⟩) (by exact ⟨⟨_, rfl, rfl⟩, ⟨_, rfl, rfl⟩, ⟨_, rfl, rfl⟩, ⟨_, rfl, rfl⟩, ⟨_, rfl, rfl⟩, ⟨_, rfl, rfl⟩, trivial⟩) (by rfl) (nk rfl)) (al_cnt (fun i622 (s621 : Int) => [(15, .os 0), (16, .int .i64 r317.2), (17, .os 1), (19, .bool r319.2.2), (28, .os 2), (29, .int .i64 r444.2), (30, .os 3), (34, .os 4), (35, .os 5), (39, .int .i64 s614), (40, .int .i64 s621), (42, .int .i64 i622)]) (fun i622 (s621 : Int) => [(0, .row (.int .i64) r317.1), (1, .row (.int .i64) r319.1), (2, .row (.arr 6 (.int .i64)) r444.1), (3, .row (.int .i64) r446.1), (4, .row (.arr 6 (.int .i64)) r457), (5, .row (.int .i64) r459.1)]) (fun d i622 (s621 : Int) => d = Int.toNat ((r444.1.length : Int) - i622) ∧ 0 ≤ i622 ∧ i622 ≤ (r444.1.length : Int)) h ⟨rfl, (by (try simp only [List.length_set, List.length_append, List.length_cons, List.length_nil, List.length_replicate, List.length_take, List.length_drop]) <;> omega), (by (try simp only [List.length_set, List.length_append, List.length_cons, List.length_nil, List.length_replicate, List.length_take, List.length_drop]) <;> omega)⟩ (fun d623 i622 s621 hI h ih623 => ?_)))
                      obtain ⟨hd, _, _⟩ := hI
                      refine al_round ?_
                      refine aw_seq ?_
                      refine aw_seq ?_
                      refine aw_region ?_
                      refine ao_read trivial (r_move rfl) rfl ?_
                      refine ao_read trivial (r_move rfl) rfl ?_
                      refine ao_read trivial (r_len_osm (r444.1.length : Int) Try.underlying54 rfl rfl rfl) rfl ?_
                      refine ao_read trivial (r_lss rfl rfl) rfl ?_
                      refine ao_nil ?_
                      refine aq_then ?_
                      refine aw_cond rfl (fun hb625 => ?_) (fun hb625 => ?_)
                      · have q626 := d_t hb625
                        obtain ⟨d623, rfl⟩ : ∃ e, d623 = e + 1 := ⟨d623 - 1, by omega⟩
                        replace h := is_cntS h
                        refine aw_skip ?_
                        refine aq_then ?_
                        refine aw_seq ?_
                        refine aw_block ?_
                        refine aw_region ?_
                        refine ao_read trivial (r_move rfl) rfl ?_
                        refine ao_read trivial (r_mul rfl rfl) rfl ?_
                        refine ao_read trivial (r_assign rfl) rfl ?_
                        refine ao_nil ?_
                        refine aq_in ?_
                        refine aq_then ?_
                        refine aw_region ?_
                        refine ao_read trivial (r_move rfl) rfl ?_
                        refine ao_read trivial (r_addI rfl rfl (wrap_id (by omega) (by omega))) rfl ?_
                        refine ao_read trivial (r_assign rfl) rfl ?_
                        refine ao_nil ?_
                        exact aq_again (AL.sub (sub_mk idn (by exact ⟨⟨_, rfl, ad_ren rfl⟩, ⟨_, rfl, ad_ren rfl⟩, ⟨_, rfl, ad_ren rfl⟩, ⟨_, rfl, ad_ren rfl⟩, ⟨_, rfl, ad_ren rfl⟩, ⟨_, rfl, ad_ren rfl⟩, ⟨_, rfl, ad_ren rfl⟩, ⟨_, rfl, ad_ren rfl⟩, ⟨_, rfl, ad_ren rfl⟩, ⟨_, rfl, ad_ren rfl⟩, ⟨_, rfl, ad_ren rfl⟩, ⟨_, rfl, ad_ren rfl⟩, trivial⟩) (by exact ⟨⟨_, rfl, rfl⟩, ⟨_, rfl, rfl⟩, ⟨_, rfl, rfl⟩, ⟨_, rfl, rfl⟩, ⟨_, rfl, rfl⟩, ⟨_, rfl, rfl⟩, trivial⟩) (by rfl) (nk rfl)) (ih623 d623 (i622 + 1) (IntKind.wrap .i64 (6 * s621)) (by omega) ⟨by omega, (by (try simp only [List.length_set, List.length_append, List.length_cons, List.length_nil, List.length_replicate, List.length_take, List.length_drop]) <;> omega), (by (try simp only [List.length_set, List.length_append, List.length_cons, List.length_nil, List.length_replicate, List.length_take, List.length_drop]) <;> omega)⟩ h))
                      · have q627 := d_f hb625
                        obtain rfl : d623 = 0 := by omega
                        replace h := is_cnt0 h
                        refine aw_exit ?_
                        refine aq_then_exit ?_
                        refine aq_then_exit ?_
                        refine aq_in_exit ?_
                        refine aq_then ?_
                        refine aw_seq ?_
                        refine aw_region ?_
                        refine ao_read trivial (r_move rfl) rfl ?_
                        refine ao_read trivial (r_move rfl) rfl ?_
                        refine ao_read trivial (r_neq rfl rfl) rfl ?_
                        refine ao_read trivial (r_move rfl) rfl ?_
                        refine ao_readG (x := .os 3) rfl (GV.F rfl) (fun hg628 => by
                              have q629 := d_t (not_f (not_t hg628))
                              exact r_move rfl) rfl ?_
                        refine ao_readG (x := .int .i64 (r446.1.length : Int)) rfl (GV.F rfl) (fun hg630 => by
                              have q631 := d_t (not_f (not_t hg630))
                              exact Reads.strip 293 rfl (hg630) (r_len_osm (r446.1.length : Int) Try.underlying24 rfl rfl rfl)) rfl ?_
                        refine ao_readG (x := .int .i64 r444.2) rfl (GV.F rfl) (fun hg632 => by
                              have q633 := d_t (not_f (not_t hg632))
                              exact r_move rfl) rfl ?_
                        refine ao_readG (x := .bool (!(decide ((r446.1.length : Int) = r444.2)))) rfl (GV.F rfl) (fun hg634 => by
                              have q635 := d_t (not_f (not_t hg634))
                              exact Reads.strip 294 rfl (hg634) (Reads.strip 295 rfl (hg634) (r_neq rfl rfl))) rfl ?_
                        refine ao_read trivial (r_orB rfl rfl) rfl ?_
                        refine ao_nil ?_
                        refine aq_then ?_
                        refine aw_cond rfl (fun hb636 => ?_) (fun hb636 => ?_)
                        · replace h := is_if hb636 h
                          refine aw_seq ?_
                          refine aw_region ?_
                          refine ao_read trivial (r_assign rfl) rfl ?_
                          refine ao_nil ?_
                          refine aq_then ?_
                          refine aw_ret ?_
                          refine aq_then_ret ?_
                          refine aq_ret ?_
                          obtain rfl := is_some h
                          exact aq_finx (l := [.tmp 2]) (xs := [.bool false]) idn [.bool false] [] rfl (by exact ⟨rfl, trivial⟩) (by exact ⟨ad_ren rfl, trivial⟩) (by exact trivial) rfl (nk rfl) rfl rfl ⟨rfl, rfl⟩
                        · obtain ⟨q637, q638⟩ := or_f hb636
                          have q639 := d_t (not_f q637)
                          have q640 := d_t (not_f q638)
                          replace h := is_else (ne_t hb636) h
                          refine aw_skip ?_
                          exact aq_then (AW.sub (sub_mk (rn [(2, 4), (3, 5)]) (by exact ⟨⟨_, rfl, ad_ren rfl⟩, ⟨_, rfl, ad_ren rfl⟩, ⟨_, rfl, ad_ren rfl⟩, ⟨_, rfl, ad_ren rfl⟩, ⟨_, rfl, ad_ren rfl⟩, ⟨_, rfl, ad_ren rfl⟩, trivial⟩) (by exact ⟨⟨_, rfl, rfl⟩, ⟨_, rfl, rfl⟩, ⟨_, rfl, rfl⟩, ⟨_, rfl, rfl⟩, trivial⟩) (by rfl) (nk rfl)) (j543 () trivial h))
                  · replace h := is_else (ne_t hb613) h
                    refine aw_skip ?_
                    exact aq_then (AW.sub (sub_mk (rn [(0, 6), (1, 7), (2, 14), (3, 15)]) (by exact ⟨⟨_, rfl, ad_ren rfl⟩, ⟨_, rfl, ad_ren rfl⟩, ⟨_, rfl, ad_ren rfl⟩, ⟨_, rfl, ad_ren rfl⟩, ⟨_, rfl, ad_ren rfl⟩, ⟨_, rfl, ad_ren rfl⟩, trivial⟩) (by exact ⟨⟨_, rfl, rfl⟩, ⟨_, rfl, rfl⟩, ⟨_, rfl, rfl⟩, ⟨_, rfl, rfl⟩, trivial⟩) (by rfl) (nk rfl)) (j543 () trivial h))
end Go.GA
