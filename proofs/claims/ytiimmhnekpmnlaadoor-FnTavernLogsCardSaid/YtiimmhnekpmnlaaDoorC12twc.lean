/- Walks: what the Go functions compute, by the printed lines below; no further conditions. -/
import Derived.Test.YtiimmhnekpmnlaaDoorC12twb
namespace Go.GA
open Go Go.Proofs
set_option maxRecDepth 100000
set_option maxHeartbeats 2000000
set_option linter.unusedVariables false
set_option linter.unusedSimpArgs false
theorem c_laws_rRecords {x0 : (List (ByteArray × (ByteArray × Unit)))} {x1 : (List (ByteArray × (ByteArray × Unit)))} {r : Bool} (h : Is (p_laws_rRecords x0 x1) r) :
    Scalar Tryd.prog 25 [.v (.slice (.pair .str (.pair .str .unit))) x0, .v (.slice (.pair .str (.pair .str .unit))) x1] (.bool r) := by
  unfold p_laws_rRecords at h
  refine ac_enter ⟨26, 0⟩ Tryd.func25 rfl rfl rfl rfl rfl (fun Γ => ?_)
  refine sl_len_m 0 (x0.length : Int) rfl rfl (fun hl0 => ?_)
  refine sl_len_m 1 (x1.length : Int) rfl rfl (fun hl1 => ?_)
  refine aw_seq ?_
  refine aw_region ?_
  refine ao_read trivial (r_assign rfl) rfl ?_
  refine ao_nil ?_
  refine aq_then ?_
  refine aw_seq ?_
  refine aw_seq ?_
  refine aw_region ?_
  refine ao_read trivial (r_move rfl) rfl ?_
  refine ao_read trivial (r_len_vm (x0.length : Int) Tryd.underlying47 rfl rfl) rfl ?_
  refine ao_read trivial (r_move rfl) rfl ?_
  refine ao_read trivial (r_len_vm (x1.length : Int) Tryd.underlying47 rfl rfl) rfl ?_
  refine ao_read trivial (r_neq rfl rfl) rfl ?_
  refine ao_nil ?_
  refine aq_then ?_
  refine aw_cond rfl (fun hb1 => ?_) (fun hb1 => ?_)
  · have q2 := d_f (not_t hb1)
    replace h := is_else (d_f (not_t hb1)) h
    refine aw_seq ?_
    refine aw_region ?_
    refine ao_read trivial (r_assign rfl) rfl ?_
    refine ao_nil ?_
    refine aq_then ?_
    refine aw_ret ?_
    refine aq_then_ret ?_
    refine aq_ret ?_
    obtain rfl := is_eq h
    exact aq_finx (l := [.tmp 4]) (xs := [.bool false]) idn [.bool false] [] rfl (by exact ⟨rfl, trivial⟩) (by exact ⟨ad_ren rfl, trivial⟩) (by exact trivial) rfl (nk rfl) rfl rfl ⟨rfl, rfl⟩
  · have q3 := d_t (not_f hb1)
    replace h := is_if (d_t (not_f hb1)) h
    refine aw_skip ?_
    refine aq_then ?_
    refine aw_seq ?_
    refine aw_seq ?_
    refine aw_region ?_
    refine ao_read trivial (r_assign rfl) rfl ?_
    refine ao_nil ?_
    refine aq_then ?_
    refine aw_block ?_
    refine aw_loop (AL.sub (fr' := [(0, .v (.slice (.pair .str (.pair .str .unit))) x0), (1, .v (.slice (.pair .str (.pair .str .unit))) x1), (5, .int .i64 0)]) (H' := []) (sub_mk idn (by exact ⟨⟨_, rfl, ad_ren rfl⟩, ⟨_, rfl, ad_ren rfl⟩, ⟨_, rfl, ad_ren rfl⟩, trivial⟩) (by exact trivial) (by rfl) (nk rfl)) (al_cnt (fun i5 (s4 : Unit) => [(0, .v (.slice (.pair .str (.pair .str .unit))) x0), (1, .v (.slice (.pair .str (.pair .str .unit))) x1), (5, .int .i64 i5)]) (fun i5 (s4 : Unit) => []) (fun d i5 (s4 : Unit) => d = Int.toNat ((x0.length : Int) - i5) ∧ 0 ≤ i5 ∧ i5 ≤ (x0.length : Int)) h ⟨rfl, (by (try simp only [List.length_set, List.length_append, List.length_cons, List.length_nil, List.length_replicate, List.length_take, List.length_drop]) <;> omega), (by (try simp only [List.length_set, List.length_append, List.length_cons, List.length_nil, List.length_replicate, List.length_take, List.length_drop]) <;> omega)⟩ (fun d6 i5 s4 hI h ih6 => ?_)))
    obtain ⟨hd, _, _⟩ := hI
    refine al_round ?_
    refine aw_seq ?_
    refine aw_seq ?_
    refine aw_region ?_
    refine ao_read trivial (r_move rfl) rfl ?_
    refine ao_read trivial (r_move rfl) rfl ?_
    refine ao_read trivial (r_len_vm (x0.length : Int) Tryd.underlying47 rfl rfl) rfl ?_
    refine ao_read trivial (r_lss rfl rfl) rfl ?_
    refine ao_nil ?_
    refine aq_then ?_
    refine aw_cond rfl (fun hb8 => ?_) (fun hb8 => ?_)
    · have q9 := d_t hb8
      obtain ⟨d6, rfl⟩ : ∃ e, d6 = e + 1 := ⟨d6 - 1, by omega⟩
      replace h := is_cntS h
      refine aw_skip ?_
      refine aq_then ?_
      refine aw_seq ?_
      refine aw_block ?_
      refine aw_seq ?_
      refine aw_drawAll (by kernel_rfl) ?_
      refine an_read 0 (by kernel_rfl) (fun _ _ _ h => h) rfl (by kernel_rfl) trivial (r_move rfl) rfl ?_
      refine an_read 1 (by kernel_rfl) (fun _ _ _ h => h) rfl (by kernel_rfl) trivial (r_move rfl) rfl ?_
      refine an_read 2 (by kernel_rfl) (fun _ _ _ h => h) rfl (by kernel_rfl) trivial (r_idxAddr (t := (.pair .str (.pair .str .unit))) Tryd.underlying47 Tryd.sizeOf33 rfl rfl (show 0 ≤ i5 from by omega) (show i5 < (x0.length : Int) from by omega)) rfl ?_
      refine an_read 3 (by kernel_rfl) (fun _ _ _ h => h) rfl (by kernel_rfl) trivial (r_load_c (t := (.pair .str (.pair .str .unit))) Tryd.isAgg33 Tryd.sizeOf33 rfl) rfl ?_
      refine an_read 4 (by kernel_rfl) (fun _ _ _ h => h) rfl (by kernel_rfl) trivial (r_move rfl) rfl ?_
      refine an_read 5 (by kernel_rfl) (fun _ _ _ h => h) rfl (by kernel_rfl) trivial (r_move rfl) rfl ?_
      refine an_read 6 (by kernel_rfl) (fun _ _ _ h => h) rfl (by kernel_rfl) trivial (r_idxAddr (t := (.pair .str (.pair .str .unit))) Tryd.underlying47 Tryd.sizeOf33 rfl rfl (show 0 ≤ i5 from by omega) (show i5 < (x1.length : Int) from by omega)) rfl ?_
      refine an_read 7 (by kernel_rfl) (fun _ _ _ h => h) rfl (by kernel_rfl) trivial (r_load_c (t := (.pair .str (.pair .str .unit))) Tryd.isAgg33 Tryd.sizeOf33 rfl) rfl ?_
      refine an_read 8 (by kernel_rfl) (fun _ _ _ h => h) rfl (by kernel_rfl) trivial (r_eq_data (.pair .str (.pair .str .unit)) 3 Tryd.underlying33 (by kernel_rfl) (by kernel_rfl) ⟨rfl, rfl, Tryd.isAgg9, Tryd.sizeOf9, (TEq.mono (n := 1) rfl (teq_str Tryd.underlying9)), ⟨rfl, rfl, Tryd.isAgg9, Tryd.sizeOf9, (TEq.mono (n := 1) rfl (teq_str Tryd.underlying9)), trivial⟩⟩ rfl rfl rfl rfl rfl) rfl ?_
      refine an_done rfl ?_
      refine aq_then ?_
      refine aw_cond rfl (fun hb11 => ?_) (fun hb11 => ?_)
      · replace h := is_else (ne_t (not_t hb11)) h
        refine aw_seq ?_
        refine aw_region ?_
        refine ao_read trivial (r_assign rfl) rfl ?_
        refine ao_nil ?_
        refine aq_then ?_
        refine aw_ret ?_
        refine aq_in_ret ?_
        refine aq_then_ret ?_
        refine aq_then_ret ?_
        refine aq_in_ret ?_
        refine aq_then_ret ?_
        refine aq_ret ?_
        obtain rfl := is_eq h
        exact aq_finx (l := [.tmp 4]) (xs := [.bool false]) idn [.bool false] [] rfl (by exact ⟨rfl, trivial⟩) (by exact ⟨ad_ren rfl, trivial⟩) (by exact trivial) rfl (nk rfl) rfl rfl ⟨rfl, rfl⟩
      · replace h := is_if (not_f hb11) h
        refine aw_skip ?_
        refine aq_in ?_
        refine aq_then ?_
        refine aw_region ?_
        refine ao_read trivial (r_move rfl) rfl ?_
        refine ao_read trivial (r_addI rfl rfl (wrap_id (by omega) (by omega))) rfl ?_
        refine ao_read trivial (r_assign rfl) rfl ?_
        refine ao_nil ?_
        exact aq_again (AL.sub (sub_mk idn (by exact ⟨⟨_, rfl, ad_ren rfl⟩, ⟨_, rfl, ad_ren rfl⟩, ⟨_, rfl, ad_ren rfl⟩, trivial⟩) (by exact trivial) (by rfl) (nk rfl)) (ih6 d6 (i5 + 1) () (by omega) ⟨by omega, (by (try simp only [List.length_set, List.length_append, List.length_cons, List.length_nil, List.length_replicate, List.length_take, List.length_drop]) <;> omega), (by (try simp only [List.length_set, List.length_append, List.length_cons, List.length_nil, List.length_replicate, List.length_take, List.length_drop]) <;> omega)⟩ h))
    · have q10 := d_f hb8
      obtain rfl : d6 = 0 := by omega
      replace h := is_cnt0 h
      refine aw_exit ?_
      refine aq_then_exit ?_
      refine aq_then_exit ?_
      refine aq_in_exit ?_
      refine aq_then ?_
      refine aw_seq ?_
      refine aw_region ?_
      refine ao_read trivial (r_assign rfl) rfl ?_
      refine ao_nil ?_
      refine aq_then ?_
      refine aw_ret ?_
      refine aq_ret ?_
      obtain rfl := is_eq h
      exact aq_finx (l := [.tmp 4]) (xs := [.bool true]) idn [.bool true] [] rfl (by exact ⟨rfl, trivial⟩) (by exact ⟨ad_ren rfl, trivial⟩) (by exact trivial) rfl (nk rfl) rfl rfl ⟨rfl, rfl⟩
theorem c_spec_DrawCrashLog {fu : Nat} {x0 : (List Int)} {r : (ByteArray × (ByteArray × (Int × Unit))) × Int × Bool} (h : Is (p_spec_DrawCrashLog fu x0) (some r)) :
    Scalar Tryd.prog 26 [.v (.slice (.int .u8)) x0] (.tup [.v (.pair .str (.pair .str (.pair (.int .i64) .unit))) r.1, .int .i64 r.2.1, .bool r.2.2]) := by
  unfold p_spec_DrawCrashLog at h
  refine ac_enter ⟨24, 0⟩ Tryd.func26 rfl rfl rfl rfl rfl (fun Γ => ?_)
  refine sl_len_m 0 (x0.length : Int) rfl rfl (fun hl0 => ?_)
  refine aw_seq ?_
  refine aw_region ?_
  refine ao_eff trivial (e_alloc 0 (y := .st [.str ByteArray.empty, .str ByteArray.empty, .int .i64 0]) Tryd.zeroValue27 (fun ρ h M => ra_zero_st (t := (.pair .str (.pair .str (.pair (.int .i64) .unit)))) rfl rfl rfl) rfl rfl rfl rfl rfl) rfl ?_
  refine ao_read trivial (r_assign rfl) rfl ?_
  refine ao_read trivial (r_assign rfl) rfl ?_
  refine ao_nil ?_
  refine aq_then ?_
  refine aw_seq ?_
  refine aw_region ?_
  refine ao_read trivial (r_move rfl) rfl ?_
  refine ao_read trivial (r_build_st (l := [(0, .tmp 8)]) (cs := [.cell (.v (.slice (.int .u8)) x0), .cell (.int .i64 0), .cell (.int .u64 0)]) (.pair (.slice (.int .u8)) (.pair (.int .i64) (.pair (.int .u64) .unit))) [(0, 1), (1, 1), (2, 1)] Tryd.underlying59 Tryd.zeroValue59 rfl ⟨rfl, Tryd.sizeOf30, rfl, Tryd.sizeOf3, rfl, Tryd.sizeOf57, trivial⟩ rfl rfl rfl) rfl ?_
  refine ao_eff trivial (e_box 1 rfl rfl rfl rfl rfl rfl) rfl ?_
  refine ao_read trivial (r_assign rfl) rfl ?_
  refine ao_nil ?_
  refine aq_then ?_
  refine aw_seq ?_
  refine aw_region ?_
  refine ao_read trivial (r_move rfl) rfl ?_
  obtain ⟨r1, r1h, h⟩ := is_bind h
  refine ao_callV [1] 2 trivial (c_spec_l1Cur_anyLog (is_mk r1h)) Tryd.func41 rfl rfl rfl rfl rfl ⟨rfl, trivial⟩ ⟨⟨_, rfl, ⟨ad_ren rfl, rfl, ad_ren rfl, rfl, ad_ren rfl, rfl, trivial⟩⟩, trivial⟩ rfl rfl rfl rfl rfl rfl rfl (fun r' H' hr => ?_)
  obtain ⟨rfl, rfl⟩ := hr
  refine ao_norm (y := .v (.pair .str (.pair .str (.pair (.int .i64) .unit))) r1.1) (H' := [(0, .var [.cell (.str ByteArray.empty), .cell (.str ByteArray.empty), .cell (.int .i64 0)]), (1, .var [.cell (.v (.slice (.int .u8)) x0), .cell (.int .i64 r1.2.1), .cell (.int .u64 r1.2.2)])]) rfl rfl ?_
  refine ao_eff trivial (e_alloc 2 (y := .st [.str ByteArray.empty, .str ByteArray.empty, .int .i64 0]) Tryd.zeroValue27 (fun ρ h M => ra_zero_st (t := (.pair .str (.pair .str (.pair (.int .i64) .unit)))) rfl rfl rfl) rfl rfl rfl rfl rfl) rfl ?_
  refine ao_effS trivial (e_store rfl rfl rfl rfl Tryd.sizeOf27 rfl) ?_
  refine ao_nil ?_
  refine aq_then ?_
  refine aw_seq ?_
  refine aw_region ?_
  refine ao_read trivial (r_move rfl) rfl ?_
  refine ao_read trivial (r_fieldAddr Tryd.underlying27 rfl Tryd.sizeOf9 rfl rfl rfl) rfl ?_
  refine ao_read trivial (r_load_cell Tryd.isAgg9 rfl rfl rfl) rfl ?_
  refine ao_read trivial (r_len_str Tryd.underlying9 rfl) rfl ?_
  refine ao_read trivial (r_add rfl rfl) rfl ?_
  obtain ⟨r2, r2h, h⟩ := is_bind h
  refine ao_callV [1] 3 trivial (c_spec_l1Cur_pick (is_mk r2h)) Tryd.func43 rfl rfl rfl rfl rfl ⟨rfl, trivial⟩ ⟨⟨_, rfl, ⟨ad_ren rfl, rfl, ad_ren rfl, rfl, ad_ren rfl, rfl, trivial⟩⟩, trivial⟩ rfl rfl rfl rfl rfl rfl rfl (fun r' H' hr => ?_)
  obtain ⟨rfl, rfl⟩ := hr
  refine ao_norm (y := .int .i64 r2.1) (H' := [(2, .var [.cell (.str r1.1.1), .cell (.str r1.1.2.1), .cell (.int .i64 r1.1.2.2.1)]), (0, .var [.cell (.str ByteArray.empty), .cell (.str ByteArray.empty), .cell (.int .i64 0)]), (1, .var [.cell (.v (.slice (.int .u8)) x0), .cell (.int .i64 r2.2.1), .cell (.int .u64 r2.2.2)])]) rfl rfl ?_
  refine ao_read trivial (r_sub rfl rfl) rfl ?_
  refine ao_read trivial (r_assign rfl) rfl ?_
  refine ao_nil ?_
  refine aq_then ?_
  refine aw_seq ?_
  obtain ⟨r3, r3h, h⟩ := is_bind h
  refine aw_drawP 7 rfl (by kernel_rfl) ?_
  refine ap_to [(2, .ref 0 0), (3, .int .i64 (IntKind.wrap .i64 (r2.1 - 1))), (4, .bool r3.1)] [(0, .var [.cell (.str r1.1.1), .cell (.str r1.1.2.1), .cell (.int .i64 r1.1.2.2.1)])] ?_ (fun key => ?_)
  · refine aq_then ?_
    refine aw_ret ?_
    refine aq_ret ?_
    obtain rfl := is_some h
    exact aq_finx (l := [.cell 2 27, .tmp 3, .tmp 4]) (xs := [.st [.str r1.1.1, .str r1.1.2.1, .int .i64 r1.1.2.2.1], .int .i64 (IntKind.wrap .i64 (r2.1 - 1)), .bool r3.1]) idn [.v (.pair .str (.pair .str (.pair (.int .i64) .unit))) ((r1.1.1, (r1.1.2.1, (r1.1.2.2.1, ()))) : (ByteArray × (ByteArray × (Int × Unit)))), .int .i64 (IntKind.wrap .i64 (r2.1 - 1)), .bool r3.1] [] rfl (by exact ⟨⟨⟨_, _, rfl⟩, r_load_st [] [.cell (.str r1.1.1), .cell (.str r1.1.2.1), .cell (.int .i64 r1.1.2.2.1)] [] Tryd.isAgg27 Tryd.sizeOf27 rfl rfl rfl rfl rfl rfl rfl⟩, rfl, rfl, trivial⟩) (by exact ⟨ad_st rfl rfl ⟨ad_ren rfl, ad_ren rfl, ad_ren rfl, trivial⟩, ad_ren rfl, ad_ren rfl, trivial⟩) (by exact trivial) rfl (nk rfl) rfl rfl ⟨rfl, rfl⟩
  refine ap_let (g := 3) (listed := #[true, true, true, true, false, false, false]) [(2, .ref 0 0), (3, .int .i64 0), (4, .bool false), (20, .v (.pair .str (.pair .str (.pair (.int .i64) .unit))) ((r1.1.1, (r1.1.2.1, (r1.1.2.2.1, ()))) : (ByteArray × (ByteArray × (Int × Unit))))), (21, .int .i64 (IntKind.wrap .i64 (r2.1 - 1))), (23, .bool r3.1)] [(0, .var [.cell (.str ByteArray.empty), .cell (.str ByteArray.empty), .cell (.int .i64 0)])] ?_ (fun k6 => ?_)
  · refine ap_all [4] (by kernel_rfl) ⟨?_, trivial⟩
    refine apo_ao rfl ?_
    refine ao_effS trivial (e_store rfl rfl rfl rfl Tryd.sizeOf27 rfl) ?_
    refine ao_nil ?_
    refine ap_in ?_
    refine ap_pure 5 (by kernel_rfl) (fun _ _ _ h => h) rfl (by kernel_rfl) trivial (rp_assign rfl) rfl ?_
    refine ap_pure 6 (by kernel_rfl) (fun _ _ _ h => h) rfl (by kernel_rfl) trivial (rp_assign rfl) rfl ?_
    exact ap_end (by kernel_rfl) (AQ.sub (sub_mk idn (by exact ⟨⟨_, rfl, ad_ren rfl⟩, ⟨_, rfl, ad_ren rfl⟩, ⟨_, rfl, ad_ren rfl⟩, trivial⟩) (by exact ⟨⟨_, rfl, ⟨ad_ren rfl, rfl, ad_ren rfl, rfl, ad_ren rfl, rfl, trivial⟩⟩, trivial⟩) (by rfl) (nk rfl)) key)
  refine ap_let (g := 4) (listed := #[true, true, true, false, false, false, false]) [(2, .ref 0 0), (3, .int .i64 0), (4, .bool false), (20, .v (.pair .str (.pair .str (.pair (.int .i64) .unit))) ((r1.1.1, (r1.1.2.1, (r1.1.2.2.1, ()))) : (ByteArray × (ByteArray × (Int × Unit))))), (21, .int .i64 (IntKind.wrap .i64 (r2.1 - 1))), (22, .ref 1 0)] [(0, .var [.cell (.str ByteArray.empty), .cell (.str ByteArray.empty), .cell (.int .i64 0)]), (1, .var [.cell (.v (.slice (.int .u8)) x0), .cell (.int .i64 r2.2.1), .cell (.int .u64 r2.2.2)])] ?_ (fun k5 => ?_)
  · refine ap_all [3] (by kernel_rfl) ⟨?_, trivial⟩
    refine apo_ao rfl ?_
    refine ao_callV [1] 2 trivial (c_spec_l1Cur_one (is_mk r3h)) Tryd.func42 rfl rfl rfl rfl rfl ⟨rfl, trivial⟩ ⟨⟨_, rfl, ⟨ad_ren rfl, rfl, ad_ren rfl, rfl, ad_ren rfl, rfl, trivial⟩⟩, trivial⟩ rfl rfl rfl rfl rfl rfl rfl (fun r' H' hr => ?_)
    obtain ⟨rfl, rfl⟩ := hr
    refine ao_norm (y := .bool r3.1) (H' := [(0, .var [.cell (.str ByteArray.empty), .cell (.str ByteArray.empty), .cell (.int .i64 0)]), (1, .var [.cell (.v (.slice (.int .u8)) x0), .cell (.int .i64 r3.2.1), .cell (.int .u64 r3.2.2)])]) rfl rfl ?_
    refine ao_nil ?_
    refine ap_in ?_
    exact ap_go (by kernel_rfl) (sub_mk idn (by exact ⟨⟨_, rfl, ad_ren rfl⟩, ⟨_, rfl, ad_ren rfl⟩, ⟨_, rfl, ad_ren rfl⟩, ⟨_, rfl, ad_ren rfl⟩, ⟨_, rfl, ad_ren rfl⟩, ⟨_, rfl, ad_ren rfl⟩, trivial⟩) (by exact ⟨⟨_, rfl, ⟨ad_ren rfl, rfl, ad_ren rfl, rfl, ad_ren rfl, rfl, trivial⟩⟩, trivial⟩) (by rfl) (nk rfl)) k6
  refine ap_let (g := 4) (listed := #[false, true, true, true, false, false, false]) [(2, .ref 0 0), (3, .int .i64 0), (4, .bool false), (6, .ref 1 0), (21, .int .i64 (IntKind.wrap .i64 (r2.1 - 1))), (23, .bool r3.1)] [(0, .var [.cell (.str ByteArray.empty), .cell (.str ByteArray.empty), .cell (.int .i64 0)]), (1, .var [.cell (.str r1.1.1), .cell (.str r1.1.2.1), .cell (.int .i64 r1.1.2.2.1)])] ?_ (fun k7 => ?_)
  · refine ap_all [0] (by kernel_rfl) ⟨?_, trivial⟩
    refine apo_ao rfl ?_
    refine ao_read trivial (r_load_part (τ := (.pair .str (.pair .str (.pair (.int .i64) .unit)))) (y := ((r1.1.1, (r1.1.2.1, (r1.1.2.2.1, ()))) : (ByteArray × (ByteArray × (Int × Unit))))) [] [] rfl Tryd.isAgg27 Tryd.sizeOf27 rfl rfl rfl rfl) rfl ?_
    refine ao_nil ?_
    refine ap_in ?_
    exact ap_go (by kernel_rfl) (sub_mk idn (by exact ⟨⟨_, rfl, ad_ren rfl⟩, ⟨_, rfl, ad_ren rfl⟩, ⟨_, rfl, ad_ren rfl⟩, ⟨_, rfl, ad_ren rfl⟩, ⟨_, rfl, ad_ren rfl⟩, ⟨_, rfl, ad_ren rfl⟩, trivial⟩) (by exact ⟨⟨_, rfl, ⟨ad_ren rfl, rfl, ad_ren rfl, rfl, ad_ren rfl, rfl, trivial⟩⟩, trivial⟩) (by rfl) (nk rfl)) k6
  refine ap_let (g := 5) (listed := #[false, true, true, false, false, false, false]) [(2, .ref 0 0), (3, .int .i64 0), (4, .bool false), (6, .ref 1 0), (21, .int .i64 (IntKind.wrap .i64 (r2.1 - 1))), (22, .ref 2 0)] [(0, .var [.cell (.str ByteArray.empty), .cell (.str ByteArray.empty), .cell (.int .i64 0)]), (1, .var [.cell (.str r1.1.1), .cell (.str r1.1.2.1), .cell (.int .i64 r1.1.2.2.1)]), (2, .var [.cell (.v (.slice (.int .u8)) x0), .cell (.int .i64 r2.2.1), .cell (.int .u64 r2.2.2)])] ?_ (fun k4 => ?_)
  · refine ap_all [0, 3] (by kernel_rfl) ⟨?_, ?_, trivial⟩
    · refine apo_ao rfl ?_
      refine ao_read trivial (r_load_part (τ := (.pair .str (.pair .str (.pair (.int .i64) .unit)))) (y := ((r1.1.1, (r1.1.2.1, (r1.1.2.2.1, ()))) : (ByteArray × (ByteArray × (Int × Unit))))) [] [] rfl Tryd.isAgg27 Tryd.sizeOf27 rfl rfl rfl rfl) rfl ?_
      refine ao_nil ?_
      refine ap_in ?_
      exact ap_go (by kernel_rfl) (sub_mk (rn [(1, 2)]) (by exact ⟨⟨_, rfl, ad_ren rfl⟩, ⟨_, rfl, ad_ren rfl⟩, ⟨_, rfl, ad_ren rfl⟩, ⟨_, rfl, ad_ren rfl⟩, ⟨_, rfl, ad_ren rfl⟩, ⟨_, rfl, ad_ren rfl⟩, trivial⟩) (by exact ⟨⟨_, rfl, ⟨ad_ren rfl, rfl, ad_ren rfl, rfl, ad_ren rfl, rfl, trivial⟩⟩, ⟨_, rfl, ⟨ad_ren rfl, rfl, ad_ren rfl, rfl, ad_ren rfl, rfl, trivial⟩⟩, trivial⟩) (by rfl) (nk rfl)) k5
    · refine apo_ao rfl ?_
      refine ao_callV [2] 3 trivial (c_spec_l1Cur_one (is_mk r3h)) Tryd.func42 rfl rfl rfl rfl rfl ⟨rfl, trivial⟩ ⟨⟨_, rfl, ⟨ad_ren rfl, rfl, ad_ren rfl, rfl, ad_ren rfl, rfl, trivial⟩⟩, trivial⟩ rfl rfl rfl rfl rfl rfl rfl (fun r' H' hr => ?_)
      obtain ⟨rfl, rfl⟩ := hr
      refine ao_norm (y := .bool r3.1) (H' := [(0, .var [.cell (.str ByteArray.empty), .cell (.str ByteArray.empty), .cell (.int .i64 0)]), (1, .var [.cell (.str r1.1.1), .cell (.str r1.1.2.1), .cell (.int .i64 r1.1.2.2.1)]), (2, .var [.cell (.v (.slice (.int .u8)) x0), .cell (.int .i64 r3.2.1), .cell (.int .u64 r3.2.2)])]) rfl rfl ?_
      refine ao_nil ?_
      refine ap_in ?_
      exact ap_go (by kernel_rfl) (sub_mk idn (by exact ⟨⟨_, rfl, ad_ren rfl⟩, ⟨_, rfl, ad_ren rfl⟩, ⟨_, rfl, ad_ren rfl⟩, ⟨_, rfl, ad_ren rfl⟩, ⟨_, rfl, ad_ren rfl⟩, ⟨_, rfl, ad_ren rfl⟩, trivial⟩) (by exact ⟨⟨_, rfl, ⟨ad_ren rfl, rfl, ad_ren rfl, rfl, ad_ren rfl, rfl, trivial⟩⟩, ⟨_, rfl, ⟨ad_ren rfl, rfl, ad_ren rfl, rfl, ad_ren rfl, rfl, trivial⟩⟩, trivial⟩) (by rfl) (nk rfl)) k7
  refine ap_pure 1 (by kernel_rfl) (fun _ _ _ h => h) rfl (by kernel_rfl) trivial (rp_move rfl) rfl ?_
  refine ap_pure 2 (by kernel_rfl) (fun _ _ _ h => h) rfl (by kernel_rfl) trivial (rp_move rfl) rfl ?_
  exact ap_go (by kernel_rfl) (sub_mk (rn [(1, 2), (2, 1)]) (by exact ⟨⟨_, rfl, ad_ren rfl⟩, ⟨_, rfl, ad_ren rfl⟩, ⟨_, rfl, ad_ren rfl⟩, ⟨_, rfl, ad_ren rfl⟩, ⟨_, rfl, ad_ren rfl⟩, ⟨_, rfl, ad_ren rfl⟩, trivial⟩) (by exact ⟨⟨_, rfl, ⟨ad_ren rfl, rfl, ad_ren rfl, rfl, ad_ren rfl, rfl, trivial⟩⟩, ⟨_, rfl, ⟨ad_ren rfl, rfl, ad_ren rfl, rfl, ad_ren rfl, rfl, trivial⟩⟩, ⟨_, rfl, ⟨ad_ren rfl, rfl, ad_ren rfl, rfl, ad_ren rfl, rfl, trivial⟩⟩, trivial⟩) (by rfl) (nk rfl)) k4
theorem c_impl_CrashLog {fu : Nat} {x0 : (ByteArray × (ByteArray × (Int × Unit)))} {x1 : Int} {x2 : Bool} {r : ByteArray × Bool} (h : Is (p_impl_CrashLog fu x0 x1 x2) (some r)) :
    Scalar Tryd.prog 8 [.v (.pair .str (.pair .str (.pair (.int .i64) .unit))) x0, .int .i64 x1, .bool x2] (.tup [.str r.1, .bool r.2]) := by
  unfold p_impl_CrashLog at h
  refine ac_enter ⟨47, 0⟩ Tryd.func8 rfl rfl rfl rfl rfl (fun Γ => ?_)
  refine aw_seq ?_
  refine aw_region ?_
  refine ao_eff trivial (e_box 0 rfl rfl rfl rfl rfl rfl) rfl ?_
  refine ao_read trivial (r_assign rfl) rfl ?_
  refine ao_read trivial (r_assign rfl) rfl ?_
  refine ao_nil ?_
  refine aq_then ?_
  refine aw_seq ?_
  refine aw_seq ?_
  refine aw_region ?_
  refine ao_read trivial (r_load_part (τ := (.pair .str (.pair .str (.pair (.int .i64) .unit)))) (y := ((x0.1, (x0.2.1, (x0.2.2.1, ()))) : (ByteArray × (ByteArray × (Int × Unit))))) [] [] rfl Tryd.isAgg27 Tryd.sizeOf27 rfl rfl rfl rfl) rfl ?_
  obtain ⟨r1, r1h, h⟩ := is_bind h
  refine ao_scall trivial (scall (c_impl_IsValidLog (is_mk r1h)) rfl Tryd.func22 rfl rfl rfl rfl (fun σ => ⟨ad_ren rfl, trivial⟩)) rfl ?_
  refine ao_read trivial (r_not rfl) rfl ?_
  refine ao_read trivial (r_move rfl) rfl ?_
  refine ao_readG (x := .int .i64 x1) rfl (GV.F rfl) (fun hg2 => r_move rfl) rfl ?_
  refine ao_readG (x := .ref 0 1) rfl (GV.F rfl) (fun hg3 => r_fieldAddr Tryd.underlying27 rfl Tryd.sizeOf9 rfl rfl rfl) rfl ?_
  refine ao_readG (x := .str x0.2.1) rfl (GV.F rfl) (fun hg4 => Reads.strip 14 rfl (hg4) (r_load_cell Tryd.isAgg9 rfl rfl rfl)) rfl ?_
  refine ao_readG (x := .int .i64 (x0.2.1.size : Int)) rfl (GV.F rfl) (fun hg5 => Reads.strip 15 rfl (hg5) (r_len_str Tryd.underlying9 rfl)) rfl ?_
  refine ao_scallG (r := .bool (p_impl_within x1 0 (x0.2.1.size : Int))) rfl (GV.F rfl) (fun hg6 => SCall.strip 13 rfl (hg6) (SCall.strip 16 rfl (hg6) (scall (c_impl_within (is_mk (rfl : p_impl_within x1 0 (x0.2.1.size : Int) = _))) rfl Tryd.func32 rfl rfl rfl rfl (fun σ => ⟨ad_ren rfl, ad_ren rfl, ad_ren rfl, trivial⟩)))) rfl ?_
  refine ao_readG (x := .bool (!(p_impl_within x1 0 (x0.2.1.size : Int)))) rfl (GV.F rfl) (fun hg7 => Reads.strip 17 rfl (hg7) (r_not rfl)) rfl ?_
  refine ao_read trivial (r_orB rfl rfl) rfl ?_
  refine ao_nil ?_
  refine aq_then ?_
  refine aw_cond rfl (fun hb8 => ?_) (fun hb8 => ?_)
  · replace h := is_if hb8 h
    refine aw_seq ?_
    refine aw_region ?_
    refine ao_read trivial (r_assign rfl) rfl ?_
    refine ao_read trivial (r_assign rfl) rfl ?_
    refine ao_nil ?_
    refine aq_then ?_
    refine aw_ret ?_
    refine aq_then_ret ?_
    refine aq_ret ?_
    obtain rfl := is_some h
    exact aq_finx (l := [.tmp 6, .tmp 7]) (xs := [.str (ByteArray.mk #[]), .bool false]) idn [.str (ByteArray.mk #[]), .bool false] [] rfl (by exact ⟨rfl, rfl, trivial⟩) (by exact ⟨ad_ren rfl, ad_ren rfl, trivial⟩) (by exact trivial) rfl (nk rfl) rfl rfl ⟨rfl, rfl⟩
  · obtain ⟨q9, q10⟩ := or_f hb8
    replace h := is_else (ne_t hb8) h
    refine aw_skip ?_
    refine aq_then ?_
    refine aw_seq ?_
    obtain ⟨g11, h⟩ := is_guard h
    obtain ⟨g12, h⟩ := is_guard h
    obtain ⟨g13, h⟩ := is_guard h
    obtain ⟨g14, h⟩ := is_guard h
    refine aw_drawAll (by kernel_rfl) ?_
    refine an_to [(1, .int .i64 x1), (2, .bool x2), (8, .os 0)] [(0, .brow ((bytesI (x0.1 ++ (x0.2.1.extract 0 x1.toNat))) : (List Int)))] ?_ (fun key => ?_)
    · refine aq_then ?_
      refine aw_seq ?_
      refine aw_seq ?_
      refine aw_region ?_
      refine ao_read trivial (r_move rfl) rfl ?_
      refine ao_read trivial (r_move rfl) rfl ?_
      refine ao_readG (x := .int .i64 x1) rfl (GV.T rfl) (fun hg15 => r_move rfl) rfl ?_
      refine ao_readG (x := .bool (decide (0 < x1))) rfl (GV.T rfl) (fun hg16 => Reads.strip 30 rfl (hg16) (r_gtr rfl rfl)) rfl ?_
      refine ao_read trivial (r_andB rfl rfl) rfl ?_
      refine ao_nil ?_
      refine aq_then ?_
      refine aw_cond rfl (fun hb17 => ?_) (fun hb17 => ?_)
      · obtain ⟨q18, q19⟩ := and_t hb17
        have q20 := d_t q19
        replace h := is_if hb17 h
        refine aw_region ?_
        refine ao_read trivial (r_move rfl) rfl ?_
        refine ao_read trivial (r_move rfl) rfl ?_
        refine ao_read trivial (r_len_brow ((bytesI (x0.1 ++ (x0.2.1.extract 0 x1.toNat))).length : Int) Tryd.underlying30 rfl rfl rfl) rfl ?_
        refine ao_read trivial (r_sub rfl rfl) rfl ?_
        refine ao_read trivial (r_move rfl) rfl ?_
        refine ao_read trivial (r_move rfl) rfl ?_
        refine ao_read trivial (r_len_brow ((bytesI (x0.1 ++ (x0.2.1.extract 0 x1.toNat))).length : Int) Tryd.underlying30 rfl rfl rfl) rfl ?_
        refine ao_read trivial (r_sub rfl rfl) rfl ?_
        obtain ⟨g21, h⟩ := is_guard h
        obtain ⟨g22, h⟩ := is_guard h
        refine ao_read trivial (r_idxAddr_brow Tryd.underlying30 Tryd.sizeOf5 rfl rfl rfl (show 0 ≤ (IntKind.wrap .i64 (((bytesI (x0.1 ++ (x0.2.1.extract 0 x1.toNat))).length : Int) - 1)) from by (try simp only [List.length_append]) <;> omega) (show (IntKind.wrap .i64 (((bytesI (x0.1 ++ (x0.2.1.extract 0 x1.toNat))).length : Int) - 1)) < ((bytesI (x0.1 ++ (x0.2.1.extract 0 x1.toNat))).length : Int) from by (try simp only [List.length_append]) <;> omega)) rfl ?_
        refine ao_read trivial (r_load_brow Tryd.isAgg5 rfl rfl (show (IntKind.wrap .i64 (((bytesI (x0.1 ++ (x0.2.1.extract 0 x1.toNat))).length : Int) - 1)).toNat < (bytesI (x0.1 ++ (x0.2.1.extract 0 x1.toNat))).length from by (try simp only [List.length_append]) <;> omega)) rfl ?_
        refine ao_read trivial (r_sub rfl rfl) rfl ?_
        refine ao_read trivial (r_idxAddr_brow Tryd.underlying30 Tryd.sizeOf5 rfl rfl rfl (show 0 ≤ (IntKind.wrap .i64 (((bytesI (x0.1 ++ (x0.2.1.extract 0 x1.toNat))).length : Int) - 1)) from by (try simp only [List.length_append]) <;> omega) (show (IntKind.wrap .i64 (((bytesI (x0.1 ++ (x0.2.1.extract 0 x1.toNat))).length : Int) - 1)) < ((bytesI (x0.1 ++ (x0.2.1.extract 0 x1.toNat))).length : Int) from by (try simp only [List.length_append]) <;> omega)) rfl ?_
        refine ao_effS trivial (e_store_brow Tryd.sizeOf5 rfl rfl rfl (show (IntKind.wrap .i64 (((bytesI (x0.1 ++ (x0.2.1.extract 0 x1.toNat))).length : Int) - 1)).toNat < (bytesI (x0.1 ++ (x0.2.1.extract 0 x1.toNat))).length from by (try simp only [List.length_append]) <;> omega)) ?_
        refine ao_nil ?_
        refine aq_then ?_
        refine aw_seq ?_
        refine aw_region ?_
        refine ao_read trivial (r_move rfl) rfl ?_
        refine ao_read trivial (r_brow_str Tryd.underlying30 Tryd.underlying5 Tryd.underlying9 rfl rfl) rfl ?_
        refine ao_read trivial (r_assign rfl) rfl ?_
        refine ao_read trivial (r_assign rfl) rfl ?_
        refine ao_nil ?_
        refine aq_then ?_
        refine aw_ret ?_
        refine aq_ret ?_
        obtain rfl := is_some h
        exact aq_finx (l := [.tmp 6, .tmp 7]) (xs := [.str (bytesB ((bytesI (x0.1 ++ (x0.2.1.extract 0 x1.toNat))).set (IntKind.wrap .i64 (((bytesI (x0.1 ++ (x0.2.1.extract 0 x1.toNat))).length : Int) - 1)).toNat (IntKind.wrap .u8 (255 - ((bytesI (x0.1 ++ (x0.2.1.extract 0 x1.toNat))).getD (IntKind.wrap .i64 (((bytesI (x0.1 ++ (x0.2.1.extract 0 x1.toNat))).length : Int) - 1)).toNat 0))))), .bool true]) idn [.str (bytesB ((bytesI (x0.1 ++ (x0.2.1.extract 0 x1.toNat))).set (IntKind.wrap .i64 (((bytesI (x0.1 ++ (x0.2.1.extract 0 x1.toNat))).length : Int) - 1)).toNat (IntKind.wrap .u8 (255 - ((bytesI (x0.1 ++ (x0.2.1.extract 0 x1.toNat))).getD (IntKind.wrap .i64 (((bytesI (x0.1 ++ (x0.2.1.extract 0 x1.toNat))).length : Int) - 1)).toNat 0))))), .bool true] [] rfl (by exact ⟨rfl, rfl, trivial⟩) (by exact ⟨ad_ren rfl, ad_ren rfl, trivial⟩) (by exact trivial) rfl (nk rfl) rfl rfl ⟨rfl, rfl⟩
      · replace h := is_else (ne_t hb17) h
        refine aw_skip ?_
        refine aq_then ?_
        refine aw_seq ?_
        refine aw_region ?_
        refine ao_read trivial (r_move rfl) rfl ?_
        refine ao_read trivial (r_brow_str Tryd.underlying30 Tryd.underlying5 Tryd.underlying9 rfl rfl) rfl ?_
        refine ao_read trivial (r_assign rfl) rfl ?_
        refine ao_read trivial (r_assign rfl) rfl ?_
        refine ao_nil ?_
        refine aq_then ?_
        refine aw_ret ?_
        refine aq_ret ?_
        obtain rfl := is_some h
        exact aq_finx (l := [.tmp 6, .tmp 7]) (xs := [.str (bytesB (bytesI (x0.1 ++ (x0.2.1.extract 0 x1.toNat)))), .bool true]) idn [.str (bytesB (bytesI (x0.1 ++ (x0.2.1.extract 0 x1.toNat)))), .bool true] [] rfl (by exact ⟨rfl, rfl, trivial⟩) (by exact ⟨ad_ren rfl, ad_ren rfl, trivial⟩) (by exact trivial) rfl (nk rfl) rfl rfl ⟨rfl, rfl⟩
    · refine an_read 0 (by kernel_rfl) (fun _ _ _ h => h) rfl (by kernel_rfl) trivial (r_fieldAddr Tryd.underlying27 rfl Tryd.sizeOf9 rfl rfl rfl) rfl ?_
      refine an_read 1 (by kernel_rfl) (fun _ _ _ h => h) rfl (by kernel_rfl) trivial (r_load_cell Tryd.isAgg9 rfl rfl rfl) rfl ?_
      refine an_read 2 (by kernel_rfl) (fun _ _ _ h => h) rfl (by kernel_rfl) trivial (r_fieldAddr Tryd.underlying27 rfl Tryd.sizeOf9 rfl rfl rfl) rfl ?_
      refine an_read 3 (by kernel_rfl) (fun _ _ _ h => h) rfl (by kernel_rfl) trivial (r_load_cell Tryd.isAgg9 rfl rfl rfl) rfl ?_
      refine an_read 4 (by kernel_rfl) (fun _ _ _ h => h) rfl (by kernel_rfl) trivial (r_move rfl) rfl ?_
      refine an_read 5 (by kernel_rfl) (fun _ _ _ h => h) rfl (by kernel_rfl) trivial (r_slice_str Tryd.underlying9 rfl .none (.some rfl) (show 0 ≤ 0 from by omega) (show 0 ≤ x1 from by omega) (show x1 ≤ (x0.2.1.size : Int) from by omega)) rfl ?_
      refine an_read 6 (by kernel_rfl) (fun _ _ _ h => h) rfl (by kernel_rfl) trivial (r_add_str (a := x0.1) (b := (x0.2.1.extract 0 x1.toNat)) rfl rfl (by omega)) rfl ?_
      refine an_explore 1 rfl ?_
      refine ax_all [7] (by kernel_rfl) ⟨?_, trivial⟩
      refine axo_eff 7 rfl trivial (e_conv_row (b := (x0.1 ++ (x0.2.1.extract 0 x1.toNat))) 1 Tryd.underlying9 Tryd.underlying30 Tryd.underlying5 rfl (by omega) rfl rfl) rfl rfl ?_
      refine ax_all [8] (by kernel_rfl) ⟨?_, trivial⟩
      refine axo_read 8 rfl trivial (r_assign rfl) rfl ?_
      exact ax_done rfl (AQ.sub (sub_mk (rn [(0, 1)]) (by exact ⟨⟨_, rfl, ad_ren rfl⟩, ⟨_, rfl, ad_ren rfl⟩, ⟨_, rfl, ad_ren rfl⟩, trivial⟩) (by exact ⟨⟨_, rfl, rfl⟩, trivial⟩) (by rfl) (nk rfl)) key)
theorem c_spec_CrashLog {fu : Nat} {x0 : (ByteArray × (ByteArray × (Int × Unit)))} {x1 : Int} {x2 : Bool} {r : ByteArray × Bool} (h : Is (p_spec_CrashLog fu x0 x1 x2) (some r)) :
    Scalar Tryd.prog 6 [.v (.pair .str (.pair .str (.pair (.int .i64) .unit))) x0, .int .i64 x1, .bool x2] (.tup [.str r.1, .bool r.2]) := by
  unfold p_spec_CrashLog at h
  refine ac_enter ⟨45, 0⟩ Tryd.func6 rfl rfl rfl rfl rfl (fun Γ => ?_)
  refine aw_seq ?_
  refine aw_region ?_
  refine ao_eff trivial (e_box 0 rfl rfl rfl rfl rfl rfl) rfl ?_
  refine ao_read trivial (r_assign rfl) rfl ?_
  refine ao_read trivial (r_assign rfl) rfl ?_
  refine ao_nil ?_
  refine aq_then ?_
  refine aw_seq ?_
  refine aw_seq ?_
  refine aw_region ?_
  refine ao_read trivial (r_load_part (τ := (.pair .str (.pair .str (.pair (.int .i64) .unit)))) (y := ((x0.1, (x0.2.1, (x0.2.2.1, ()))) : (ByteArray × (ByteArray × (Int × Unit))))) [] [] rfl Tryd.isAgg27 Tryd.sizeOf27 rfl rfl rfl rfl) rfl ?_
  obtain ⟨r1, r1h, h⟩ := is_bind h
  refine ao_scall trivial (scall (c_spec_l12Valid (is_mk r1h)) rfl Tryd.func30 rfl rfl rfl rfl (fun σ => ⟨ad_ren rfl, trivial⟩)) rfl ?_
  refine ao_read trivial (r_not rfl) rfl ?_
  refine ao_read trivial (r_move rfl) rfl ?_
  refine ao_readG (x := .int .i64 x1) rfl (GV.F rfl) (fun hg2 => r_move rfl) rfl ?_
  refine ao_readG (x := .ref 0 1) rfl (GV.F rfl) (fun hg3 => r_fieldAddr Tryd.underlying27 rfl Tryd.sizeOf9 rfl rfl rfl) rfl ?_
  refine ao_readG (x := .str x0.2.1) rfl (GV.F rfl) (fun hg4 => Reads.strip 14 rfl (hg4) (r_load_cell Tryd.isAgg9 rfl rfl rfl)) rfl ?_
  refine ao_readG (x := .int .i64 (x0.2.1.size : Int)) rfl (GV.F rfl) (fun hg5 => Reads.strip 15 rfl (hg5) (r_len_str Tryd.underlying9 rfl)) rfl ?_
  refine ao_scallG (r := .bool (p_spec_l1In x1 0 (x0.2.1.size : Int))) rfl (GV.F rfl) (fun hg6 => SCall.strip 13 rfl (hg6) (SCall.strip 16 rfl (hg6) (scall (c_spec_l1In (is_mk (rfl : p_spec_l1In x1 0 (x0.2.1.size : Int) = _))) rfl Tryd.func31 rfl rfl rfl rfl (fun σ => ⟨ad_ren rfl, ad_ren rfl, ad_ren rfl, trivial⟩)))) rfl ?_
  refine ao_readG (x := .bool (!(p_spec_l1In x1 0 (x0.2.1.size : Int)))) rfl (GV.F rfl) (fun hg7 => Reads.strip 17 rfl (hg7) (r_not rfl)) rfl ?_
  refine ao_read trivial (r_orB rfl rfl) rfl ?_
  refine ao_nil ?_
  refine aq_then ?_
  refine aw_cond rfl (fun hb8 => ?_) (fun hb8 => ?_)
  · replace h := is_if hb8 h
    refine aw_seq ?_
    refine aw_region ?_
    refine ao_read trivial (r_assign rfl) rfl ?_
    refine ao_read trivial (r_assign rfl) rfl ?_
    refine ao_nil ?_
    refine aq_then ?_
    refine aw_ret ?_
    refine aq_then_ret ?_
    refine aq_ret ?_
    obtain rfl := is_some h
    exact aq_finx (l := [.tmp 6, .tmp 7]) (xs := [.str (ByteArray.mk #[]), .bool false]) idn [.str (ByteArray.mk #[]), .bool false] [] rfl (by exact ⟨rfl, rfl, trivial⟩) (by exact ⟨ad_ren rfl, ad_ren rfl, trivial⟩) (by exact trivial) rfl (nk rfl) rfl rfl ⟨rfl, rfl⟩
  · obtain ⟨q9, q10⟩ := or_f hb8
    replace h := is_else (ne_t hb8) h
    refine aw_skip ?_
    refine aq_then ?_
    refine aw_seq ?_
    refine aw_region ?_
    refine ao_read trivial (r_fieldAddr Tryd.underlying27 rfl Tryd.sizeOf9 rfl rfl rfl) rfl ?_
    refine ao_read trivial (r_load_cell Tryd.isAgg9 rfl rfl rfl) rfl ?_
    refine ao_read trivial (r_move rfl) rfl ?_
    obtain ⟨g11, h⟩ := is_guard h
    obtain ⟨g12, h⟩ := is_guard h
    refine ao_read trivial (r_slice_str Tryd.underlying9 rfl .none (.some rfl) (show 0 ≤ 0 from by omega) (show 0 ≤ x1 from by omega) (show x1 ≤ (x0.2.1.size : Int) from by omega)) rfl ?_
    obtain ⟨g13, h⟩ := is_guard h
    refine ao_eff trivial (e_conv_row (b := (x0.2.1.extract 0 x1.toNat)) 1 Tryd.underlying9 Tryd.underlying30 Tryd.underlying5 rfl (by omega) rfl rfl) rfl ?_
    refine ao_read trivial (r_assign rfl) rfl ?_
    refine ao_nil ?_
    refine aq_then ?_
    refine aw_join (fun (s14 : (List Int)) => [(3, .ref 0 0), (8, .os 1)]) (fun (s14 : (List Int)) => [(0, .var [.cell (.str x0.1), .cell (.str x0.2.1), .cell (.int .i64 x0.2.2.1)]), (1, .brow s14)]) (fun (s14 : (List Int)) => (s14.length : Int) = ((bytesI (x0.2.1.extract 0 x1.toNat)).length : Int)) h (fun s14 hI h => ?_) (fun h j16 => ?_)
    · refine aw_seq ?_
      refine aw_region ?_
      refine ao_read trivial (r_fieldAddr Tryd.underlying27 rfl Tryd.sizeOf9 rfl rfl rfl) rfl ?_
      refine ao_read trivial (r_load_cell Tryd.isAgg9 rfl rfl rfl) rfl ?_
      refine ao_read trivial (r_move rfl) rfl ?_
      refine ao_read trivial (r_brow_str Tryd.underlying30 Tryd.underlying5 Tryd.underlying9 rfl rfl) rfl ?_
      obtain ⟨g17, h⟩ := is_guard h
      refine ao_read trivial (r_add_str (a := x0.1) (b := (bytesB s14)) rfl rfl (by omega)) rfl ?_
      refine ao_read trivial (r_assign rfl) rfl ?_
      refine ao_read trivial (r_assign rfl) rfl ?_
      refine ao_nil ?_
      refine aq_then ?_
      refine aw_ret ?_
      refine aq_ret ?_
      obtain rfl := is_some h
      exact aq_finx (l := [.tmp 6, .tmp 7]) (xs := [.str (x0.1 ++ (bytesB s14)), .bool true]) idn [.str (x0.1 ++ (bytesB s14)), .bool true] [] rfl (by exact ⟨rfl, rfl, trivial⟩) (by exact ⟨ad_ren rfl, ad_ren rfl, trivial⟩) (by exact trivial) rfl (nk rfl) rfl rfl ⟨rfl, rfl⟩
    · refine aw_seq ?_
      refine aw_region ?_
      refine ao_read trivial (r_move rfl) rfl ?_
      refine ao_read trivial (r_move rfl) rfl ?_
      refine ao_readG (x := .int .i64 x1) rfl (GV.T rfl) (fun hg18 => r_move rfl) rfl ?_
      refine ao_readG (x := .bool (decide (0 < x1))) rfl (GV.T rfl) (fun hg19 => Reads.strip 27 rfl (hg19) (r_gtr rfl rfl)) rfl ?_
      refine ao_read trivial (r_andB rfl rfl) rfl ?_
      refine ao_nil ?_
      refine aq_then ?_
      refine aw_cond rfl (fun hb20 => ?_) (fun hb20 => ?_)
      · obtain ⟨q21, q22⟩ := and_t hb20
        have q23 := d_t q22
        replace h := is_if hb20 h
        refine aw_region ?_
        refine ao_read trivial (r_move rfl) rfl ?_
        refine ao_read trivial (r_move rfl) rfl ?_
        refine ao_read trivial (r_sub rfl rfl) rfl ?_
        refine ao_read trivial (r_move rfl) rfl ?_
        refine ao_read trivial (r_move rfl) rfl ?_
        refine ao_read trivial (r_sub rfl rfl) rfl ?_
        obtain ⟨g24, h⟩ := is_guard h
        obtain ⟨g25, h⟩ := is_guard h
        refine ao_read trivial (r_idxAddr_brow Tryd.underlying30 Tryd.sizeOf5 rfl rfl rfl (show 0 ≤ (IntKind.wrap .i64 (x1 - 1)) from by omega) (show (IntKind.wrap .i64 (x1 - 1)) < ((bytesI (x0.2.1.extract 0 x1.toNat)).length : Int) from by omega)) rfl ?_
        refine ao_read trivial (r_load_brow Tryd.isAgg5 rfl rfl (show (IntKind.wrap .i64 (x1 - 1)).toNat < (bytesI (x0.2.1.extract 0 x1.toNat)).length from by omega)) rfl ?_
        refine ao_read trivial (r_sub rfl rfl) rfl ?_
        refine ao_read trivial (r_idxAddr_brow Tryd.underlying30 Tryd.sizeOf5 rfl rfl rfl (show 0 ≤ (IntKind.wrap .i64 (x1 - 1)) from by omega) (show (IntKind.wrap .i64 (x1 - 1)) < ((bytesI (x0.2.1.extract 0 x1.toNat)).length : Int) from by omega)) rfl ?_
        refine ao_effS trivial (e_store_brow Tryd.sizeOf5 rfl rfl rfl (show (IntKind.wrap .i64 (x1 - 1)).toNat < (bytesI (x0.2.1.extract 0 x1.toNat)).length from by omega)) ?_
        refine ao_nil ?_
        exact aq_then (AW.sub (sub_mk idn (by exact ⟨⟨_, rfl, ad_ren rfl⟩, ⟨_, rfl, ad_ren rfl⟩, trivial⟩) (by exact ⟨⟨_, rfl, ⟨ad_ren rfl, rfl, ad_ren rfl, rfl, ad_ren rfl, rfl, trivial⟩⟩, ⟨_, rfl, rfl⟩, trivial⟩) (by rfl) (nk rfl)) (j16 ((bytesI (x0.2.1.extract 0 x1.toNat)).set (IntKind.wrap .i64 (x1 - 1)).toNat (IntKind.wrap .u8 (255 - ((bytesI (x0.2.1.extract 0 x1.toNat)).getD (IntKind.wrap .i64 (x1 - 1)).toNat 0)))) (by (try simp only [List.length_set, List.length_append, List.length_cons, List.length_nil, List.length_replicate, List.length_take, List.length_drop]) <;> omega) h))
      · replace h := is_else (ne_t hb20) h
        refine aw_skip ?_
        exact aq_then (AW.sub (sub_mk idn (by exact ⟨⟨_, rfl, ad_ren rfl⟩, ⟨_, rfl, ad_ren rfl⟩, trivial⟩) (by exact ⟨⟨_, rfl, ⟨ad_ren rfl, rfl, ad_ren rfl, rfl, ad_ren rfl, rfl, trivial⟩⟩, ⟨_, rfl, rfl⟩, trivial⟩) (by rfl) (nk rfl)) (j16 (bytesI (x0.2.1.extract 0 x1.toNat)) (by (try simp only [List.length_set, List.length_append, List.length_cons, List.length_nil, List.length_replicate, List.length_take, List.length_drop]) <;> omega) h))
theorem c_spec_DrawRecoverLog {fu : Nat} {x0 : (List Int)} {r : ByteArray} (h : Is (p_spec_DrawRecoverLog fu x0) (some r)) :
    Scalar Tryd.prog 27 [.v (.slice (.int .u8)) x0] (.str r) := by
  unfold p_spec_DrawRecoverLog at h
  refine ac_enter ⟨49, 0⟩ Tryd.func27 rfl rfl rfl rfl rfl (fun Γ => ?_)
  refine sl_len_m 0 (x0.length : Int) rfl rfl (fun hl0 => ?_)
  refine aw_seq ?_
  refine aw_region ?_
  refine ao_read trivial (r_assign rfl) rfl ?_
  refine ao_nil ?_
  refine aq_then ?_
  refine aw_seq ?_
  refine aw_region ?_
  refine ao_read trivial (r_move rfl) rfl ?_
  refine ao_read trivial (r_build_st (l := [(0, .tmp 6)]) (cs := [.cell (.v (.slice (.int .u8)) x0), .cell (.int .i64 0), .cell (.int .u64 0)]) (.pair (.slice (.int .u8)) (.pair (.int .i64) (.pair (.int .u64) .unit))) [(0, 1), (1, 1), (2, 1)] Tryd.underlying59 Tryd.zeroValue59 rfl ⟨rfl, Tryd.sizeOf30, rfl, Tryd.sizeOf3, rfl, Tryd.sizeOf57, trivial⟩ rfl rfl rfl) rfl ?_
  refine ao_eff trivial (e_box 0 rfl rfl rfl rfl rfl rfl) rfl ?_
  refine ao_read trivial (r_assign rfl) rfl ?_
  refine ao_nil ?_
  refine aq_then ?_
  refine aw_seq ?_
  refine aw_region ?_
  refine ao_read trivial (r_move rfl) rfl ?_
  obtain ⟨r1, r1h, h⟩ := is_bind h
  refine ao_callV [0] 1 trivial (c_spec_l1Cur_log12 (is_mk r1h)) Tryd.func46 rfl rfl rfl rfl rfl ⟨rfl, trivial⟩ ⟨⟨_, rfl, ⟨ad_ren rfl, rfl, ad_ren rfl, rfl, ad_ren rfl, rfl, trivial⟩⟩, trivial⟩ rfl rfl rfl rfl rfl rfl rfl (fun r' H' hr => ?_)
  obtain ⟨rfl, rfl⟩ := hr
  refine ao_norm (y := .v (.pair .str (.pair .str (.pair (.int .i64) .unit))) r1.1) (H' := [(0, .var [.cell (.v (.slice (.int .u8)) x0), .cell (.int .i64 r1.2.1), .cell (.int .u64 r1.2.2)])]) rfl rfl ?_
  refine ao_eff trivial (e_alloc 1 (y := .st [.str ByteArray.empty, .str ByteArray.empty, .int .i64 0]) Tryd.zeroValue27 (fun ρ h M => ra_zero_st (t := (.pair .str (.pair .str (.pair (.int .i64) .unit)))) rfl rfl rfl) rfl rfl rfl rfl rfl) rfl ?_
  refine ao_effS trivial (e_store rfl rfl rfl rfl Tryd.sizeOf27 rfl) ?_
  refine ao_nil ?_
  refine aq_then ?_
  refine aw_seq ?_
  refine aw_region ?_
  refine ao_read trivial (r_fieldAddr Tryd.underlying27 rfl Tryd.sizeOf9 rfl rfl rfl) rfl ?_
  refine ao_read trivial (r_load_cell Tryd.isAgg9 rfl rfl rfl) rfl ?_
  refine ao_read trivial (r_fieldAddr Tryd.underlying27 rfl Tryd.sizeOf9 rfl rfl rfl) rfl ?_
  refine ao_read trivial (r_load_cell Tryd.isAgg9 rfl rfl rfl) rfl ?_
  obtain ⟨g2, h⟩ := is_guard h
  refine ao_read trivial (r_add_str (a := r1.1.1) (b := r1.1.2.1) rfl rfl (by omega)) rfl ?_
  refine ao_read trivial (r_assign rfl) rfl ?_
  refine ao_nil ?_
  refine aq_then ?_
  refine aw_join (fun (s3 : ByteArray × Int × Int) => [(3, .ref 0 0), (5, .str s3.1)]) (fun (s3 : ByteArray × Int × Int) => [(0, .var [.cell (.v (.slice (.int .u8)) x0), .cell (.int .i64 s3.2.1), .cell (.int .u64 s3.2.2)])]) (fun (s3 : ByteArray × Int × Int) => True) h (fun s3 hI h => ?_) (fun h j5 => ?_)
  · refine aw_seq ?_
    refine aw_seq ?_
    refine aw_region ?_
    refine ao_read trivial (r_move rfl) rfl ?_
    obtain ⟨r6, r6h, h⟩ := is_bind h
    refine ao_callV [0] 1 trivial (c_spec_l1Cur_one (is_mk r6h)) Tryd.func42 rfl rfl rfl rfl rfl ⟨rfl, trivial⟩ ⟨⟨_, rfl, ⟨ad_ren rfl, rfl, ad_ren rfl, rfl, ad_ren rfl, rfl, trivial⟩⟩, trivial⟩ rfl rfl rfl rfl rfl rfl rfl (fun r' H' hr => ?_)
    obtain ⟨rfl, rfl⟩ := hr
    refine ao_norm (y := .bool r6.1) (H' := [(0, .var [.cell (.v (.slice (.int .u8)) x0), .cell (.int .i64 r6.2.1), .cell (.int .u64 r6.2.2)])]) rfl rfl ?_
    refine ao_nil ?_
    refine aq_then ?_
    refine aw_cond rfl (fun hb7 => ?_) (fun hb7 => ?_)
    · replace h := is_if hb7 h
      refine aw_region ?_
      refine ao_read trivial (r_move rfl) rfl ?_
      obtain ⟨r8, r8h, h⟩ := is_bind h
      refine ao_callV [0] 1 trivial (c_spec_l1Cur_pick (is_mk r8h)) Tryd.func43 rfl rfl rfl rfl rfl ⟨rfl, trivial⟩ ⟨⟨_, rfl, ⟨ad_ren rfl, rfl, ad_ren rfl, rfl, ad_ren rfl, rfl, trivial⟩⟩, trivial⟩ rfl rfl rfl rfl rfl rfl rfl (fun r' H' hr => ?_)
      obtain ⟨rfl, rfl⟩ := hr
      refine ao_norm (y := .int .i64 r8.1) (H' := [(0, .var [.cell (.v (.slice (.int .u8)) x0), .cell (.int .i64 r8.2.1), .cell (.int .u64 r8.2.2)])]) rfl rfl ?_
      refine ao_read trivial (r_add rfl rfl) rfl ?_
      obtain ⟨g9, h⟩ := is_guard h
      obtain ⟨g10, h⟩ := is_guard h
      refine ao_eff trivial (e_makeSlice 1 (t := (.int .u8)) Tryd.underlying30 (rfl : Tryd.prog.info? 5 = some _) rfl rfl rfl rfl rfl rfl (by omega) (by omega) rfl rfl) rfl ?_
      refine ao_read trivial (r_bytes_str Tryd.underlying30 Tryd.underlying5 Tryd.underlying9 rfl rfl) rfl ?_
      refine ao_read trivial (r_assign rfl) rfl ?_
      refine ao_nil ?_
      refine aq_then ?_
      refine aw_seq ?_
      refine aw_region ?_
      refine ao_read trivial (r_move rfl) rfl ?_
      refine ao_read trivial (r_assign rfl) rfl ?_
      refine ao_nil ?_
      refine aq_then ?_
      refine aw_ret ?_
      refine aq_ret ?_
      obtain rfl := is_some h
      exact aq_finx (l := [.tmp 2]) (xs := [.str (bytesB (List.replicate (IntKind.wrap .i64 (30000 + r8.1)).toNat 0))]) idn [.str (bytesB (List.replicate (IntKind.wrap .i64 (30000 + r8.1)).toNat 0))] [] rfl (by exact ⟨rfl, trivial⟩) (by exact ⟨ad_ren rfl, trivial⟩) (by exact trivial) rfl (nk rfl) rfl rfl ⟨rfl, rfl⟩
    · replace h := is_else (ne_t hb7) h
      refine aw_skip ?_
      refine aq_then ?_
      refine aw_seq ?_
      refine aw_region ?_
      refine ao_read trivial (r_move rfl) rfl ?_
      refine ao_read trivial (r_assign rfl) rfl ?_
      refine ao_nil ?_
      refine aq_then ?_
      refine aw_ret ?_
      refine aq_ret ?_
      obtain rfl := is_some h
      exact aq_finx (l := [.tmp 2]) (xs := [.str s3.1]) idn [.str s3.1] [] rfl (by exact ⟨rfl, trivial⟩) (by exact ⟨ad_ren rfl, trivial⟩) (by exact trivial) rfl (nk rfl) rfl rfl ⟨rfl, rfl⟩
  · refine aw_seq ?_
    refine aw_region ?_
    refine ao_read trivial (r_move rfl) rfl ?_
    obtain ⟨r11, r11h, h⟩ := is_bind h
    refine ao_callV [0] 2 trivial (c_spec_l1Cur_pick (is_mk r11h)) Tryd.func43 rfl rfl rfl rfl rfl ⟨rfl, trivial⟩ ⟨⟨_, rfl, ⟨ad_ren rfl, rfl, ad_ren rfl, rfl, ad_ren rfl, rfl, trivial⟩⟩, trivial⟩ rfl rfl rfl rfl rfl rfl rfl (fun r' H' hr => ?_)
    obtain ⟨rfl, rfl⟩ := hr
    refine ao_norm (y := .int .i64 r11.1) (H' := [(1, .var [.cell (.str r1.1.1), .cell (.str r1.1.2.1), .cell (.int .i64 r1.1.2.2.1)]), (0, .var [.cell (.v (.slice (.int .u8)) x0), .cell (.int .i64 r11.2.1), .cell (.int .u64 r11.2.2)])]) rfl rfl ?_
    refine ao_nil ?_
    refine aq_then ?_
    refine aw_block ?_
    refine aw_seq ?_
    refine aw_region ?_
    refine ao_read trivial (r_eql rfl rfl) rfl ?_
    refine ao_read trivial (r_assign rfl) rfl ?_
    refine ao_nil ?_
    refine aq_then ?_
    refine aw_cond rfl (fun hb12 => ?_) (fun hb12 => ?_)
    · have q13 := d_t hb12
      replace h := is_if (d_t hb12) h
      refine aw_region ?_
      refine ao_read trivial (r_move rfl) rfl ?_
      refine ao_read trivial (r_move rfl) rfl ?_
      obtain ⟨r15, r15h, h⟩ := is_bind h
      refine ao_callV [0] 2 trivial (c_spec_l1Cur_spoilt (is_mk r15h)) Tryd.func47 rfl rfl rfl rfl rfl ⟨rfl, trivial⟩ ⟨⟨_, rfl, ⟨ad_ren rfl, rfl, ad_ren rfl, rfl, ad_ren rfl, rfl, trivial⟩⟩, trivial⟩ rfl rfl rfl rfl rfl rfl rfl (fun r' H' hr => ?_)
      obtain ⟨rfl, rfl⟩ := hr
      refine ao_norm (y := .str r15.1) (H' := [(1, .var [.cell (.str r1.1.1), .cell (.str r1.1.2.1), .cell (.int .i64 r1.1.2.2.1)]), (0, .var [.cell (.v (.slice (.int .u8)) x0), .cell (.int .i64 r15.2.1), .cell (.int .u64 r15.2.2)])]) rfl rfl ?_
      refine ao_read trivial (r_assign rfl) rfl ?_
      refine ao_nil ?_
      refine aq_in ?_
      exact aq_then (AW.sub (sub_mk idn (by exact ⟨⟨_, rfl, ad_ren rfl⟩, ⟨_, rfl, ad_ren rfl⟩, trivial⟩) (by exact ⟨⟨_, rfl, ⟨ad_ren rfl, rfl, ad_ren rfl, rfl, ad_ren rfl, rfl, trivial⟩⟩, trivial⟩) (by rfl) (nk rfl)) (j5 (r15.1, r15.2.1, r15.2.2) trivial h))
    · have q14 := d_f hb12
      replace h := is_else (d_f hb12) h
      refine aw_seq ?_
      refine aw_region ?_
      refine ao_read trivial (r_eql rfl rfl) rfl ?_
      refine ao_read trivial (r_assign rfl) rfl ?_
      refine ao_nil ?_
      refine aq_then ?_
      refine aw_cond rfl (fun hb16 => ?_) (fun hb16 => ?_)
      · have q17 := d_t hb16
        replace h := is_if (d_t hb16) h
        refine aw_region ?_
        refine ao_read trivial (r_move rfl) rfl ?_
        refine ao_read trivial (r_move rfl) rfl ?_
        refine ao_read trivial (r_move rfl) rfl ?_
        refine ao_read trivial (r_len_str Tryd.underlying9 rfl) rfl ?_
        refine ao_read trivial (r_add rfl rfl) rfl ?_
        obtain ⟨r19, r19h, h⟩ := is_bind h
        refine ao_callV [0] 2 trivial (c_spec_l1Cur_pick (is_mk r19h)) Tryd.func43 rfl rfl rfl rfl rfl ⟨rfl, trivial⟩ ⟨⟨_, rfl, ⟨ad_ren rfl, rfl, ad_ren rfl, rfl, ad_ren rfl, rfl, trivial⟩⟩, trivial⟩ rfl rfl rfl rfl rfl rfl rfl (fun r' H' hr => ?_)
        obtain ⟨rfl, rfl⟩ := hr
        refine ao_norm (y := .int .i64 r19.1) (H' := [(1, .var [.cell (.str r1.1.1), .cell (.str r1.1.2.1), .cell (.int .i64 r1.1.2.2.1)]), (0, .var [.cell (.v (.slice (.int .u8)) x0), .cell (.int .i64 r19.2.1), .cell (.int .u64 r19.2.2)])]) rfl rfl ?_
        obtain ⟨g20, h⟩ := is_guard h
        obtain ⟨g21, h⟩ := is_guard h
        refine ao_read trivial (r_slice_str Tryd.underlying9 rfl .none (.some rfl) (show 0 ≤ 0 from by omega) (show 0 ≤ r19.1 from by omega) (show r19.1 ≤ ((r1.1.1 ++ r1.1.2.1).size : Int) from by (try simp only [List.length_append]) <;> omega)) rfl ?_
        refine ao_read trivial (r_assign rfl) rfl ?_
        refine ao_nil ?_
        refine aq_in ?_
        exact aq_then (AW.sub (sub_mk idn (by exact ⟨⟨_, rfl, ad_ren rfl⟩, ⟨_, rfl, ad_ren rfl⟩, trivial⟩) (by exact ⟨⟨_, rfl, ⟨ad_ren rfl, rfl, ad_ren rfl, rfl, ad_ren rfl, rfl, trivial⟩⟩, trivial⟩) (by rfl) (nk rfl)) (j5 (((r1.1.1 ++ r1.1.2.1).extract 0 r19.1.toNat), r19.2.1, r19.2.2) trivial h))
      · have q18 := d_f hb16
        replace h := is_else (d_f hb16) h
        refine aw_seq ?_
        refine aw_region ?_
        refine ao_read trivial (r_eql rfl rfl) rfl ?_
        refine ao_read trivial (r_assign rfl) rfl ?_
        refine ao_nil ?_
        refine aq_then ?_
        refine aw_cond rfl (fun hb22 => ?_) (fun hb22 => ?_)
        · have q23 := d_t hb22
          replace h := is_if (d_t hb22) h
          refine aw_region ?_
          refine ao_read trivial (r_move rfl) rfl ?_
          refine ao_read trivial (r_move rfl) rfl ?_
          obtain ⟨r25, r25h, h⟩ := is_bind h
          refine ao_callV [0] 2 trivial (c_spec_l1Cur_pick (is_mk r25h)) Tryd.func43 rfl rfl rfl rfl rfl ⟨rfl, trivial⟩ ⟨⟨_, rfl, ⟨ad_ren rfl, rfl, ad_ren rfl, rfl, ad_ren rfl, rfl, trivial⟩⟩, trivial⟩ rfl rfl rfl rfl rfl rfl rfl (fun r' H' hr => ?_)
          obtain ⟨rfl, rfl⟩ := hr
          refine ao_norm (y := .int .i64 r25.1) (H' := [(1, .var [.cell (.str r1.1.1), .cell (.str r1.1.2.1), .cell (.int .i64 r1.1.2.2.1)]), (0, .var [.cell (.v (.slice (.int .u8)) x0), .cell (.int .i64 r25.2.1), .cell (.int .u64 r25.2.2)])]) rfl rfl ?_
          refine ao_read trivial (r_move rfl) rfl ?_
          obtain ⟨r26, r26h, h⟩ := is_bind h
          refine ao_callV [0] 2 trivial (c_spec_l1Cur_logRecord (is_mk r26h)) Tryd.func33 rfl rfl rfl rfl rfl ⟨rfl, trivial⟩ ⟨⟨_, rfl, ⟨ad_ren rfl, rfl, ad_ren rfl, rfl, ad_ren rfl, rfl, trivial⟩⟩, trivial⟩ rfl rfl rfl rfl rfl rfl rfl (fun r' H' hr => ?_)
          obtain ⟨rfl, rfl⟩ := hr
          refine ao_norm (y := .v (.pair .str (.pair .str .unit)) r26.1) (H' := [(1, .var [.cell (.str r1.1.1), .cell (.str r1.1.2.1), .cell (.int .i64 r1.1.2.2.1)]), (0, .var [.cell (.v (.slice (.int .u8)) x0), .cell (.int .i64 r26.2.1), .cell (.int .u64 r26.2.2)])]) rfl rfl ?_
          obtain ⟨r27, r27h, h⟩ := is_bind h
          refine ao_scall trivial (scall (c_spec_l12Line (is_mk r27h)) rfl Tryd.func38 rfl rfl rfl rfl (fun σ => ⟨ad_ren rfl, ad_ren rfl, trivial⟩)) rfl ?_
          obtain ⟨g28, h⟩ := is_guard h
          refine ao_read trivial (r_add_str (a := (r1.1.1 ++ r1.1.2.1)) (b := r27) rfl rfl (by omega)) rfl ?_
          refine ao_read trivial (r_assign rfl) rfl ?_
          refine ao_nil ?_
          refine aq_in ?_
          exact aq_then (AW.sub (sub_mk idn (by exact ⟨⟨_, rfl, ad_ren rfl⟩, ⟨_, rfl, ad_ren rfl⟩, trivial⟩) (by exact ⟨⟨_, rfl, ⟨ad_ren rfl, rfl, ad_ren rfl, rfl, ad_ren rfl, rfl, trivial⟩⟩, trivial⟩) (by rfl) (nk rfl)) (j5 (((r1.1.1 ++ r1.1.2.1) ++ r27), r26.2.1, r26.2.2) trivial h))
        · have q24 := d_f hb22
          replace h := is_else (d_f hb22) h
          refine aw_skip ?_
          refine aq_in ?_
          exact aq_then (AW.sub (sub_mk idn (by exact ⟨⟨_, rfl, ad_ren rfl⟩, ⟨_, rfl, ad_ren rfl⟩, trivial⟩) (by exact ⟨⟨_, rfl, ⟨ad_ren rfl, rfl, ad_ren rfl, rfl, ad_ren rfl, rfl, trivial⟩⟩, trivial⟩) (by rfl) (nk rfl)) (j5 ((r1.1.1 ++ r1.1.2.1), r11.2.1, r11.2.2) trivial h))
theorem c_impl_RecoverLog {fu : Nat} {x0 : ByteArray} {r : (ByteArray × (ByteArray × (Int × Unit))) × Int × Bool} (h : Is (p_impl_RecoverLog fu x0) (some r)) :
    Scalar Tryd.prog 28 [.str x0] (.tup [.v (.pair .str (.pair .str (.pair (.int .i64) .unit))) r.1, .int .i64 r.2.1, .bool r.2.2]) := by
  unfold p_impl_RecoverLog at h
  refine ac_enter ⟨29, 0⟩ Tryd.func28 rfl rfl rfl rfl rfl (fun Γ => ?_)
  obtain ⟨gs0, h⟩ := is_guard h
  refine aw_seq ?_
  refine aw_region ?_
  refine ao_eff trivial (e_alloc 0 (y := .st [.str ByteArray.empty, .str ByteArray.empty, .int .i64 0]) Tryd.zeroValue27 (fun ρ h M => ra_zero_st (t := (.pair .str (.pair .str (.pair (.int .i64) .unit)))) rfl rfl rfl) rfl rfl rfl rfl rfl) rfl ?_
  refine ao_read trivial (r_assign rfl) rfl ?_
  refine ao_read trivial (r_assign rfl) rfl ?_
  refine ao_nil ?_
  refine aq_then ?_
  refine aw_seq ?_
  refine aw_seq ?_
  refine aw_region ?_
  refine ao_read trivial (r_move rfl) rfl ?_
  refine ao_read trivial (r_len_str Tryd.underlying9 rfl) rfl ?_
  refine ao_read trivial (r_gtr rfl rfl) rfl ?_
  refine ao_nil ?_
  refine aq_then ?_
  refine aw_cond rfl (fun hb1 => ?_) (fun hb1 => ?_)
  · have q2 := d_t hb1
    replace h := is_if (d_t hb1) h
    refine aw_seq ?_
    refine aw_region ?_
    refine ao_read trivial (r_build_stv (l := []) (cs := [.cell (.str ByteArray.empty), .cell (.str ByteArray.empty), .cell (.int .i64 0)]) (.pair .str (.pair .str (.pair (.int .i64) .unit))) ((ByteArray.empty, (ByteArray.empty, (0, ()))) : (ByteArray × (ByteArray × (Int × Unit)))) [(0, 1), (1, 1), (2, 1)] Tryd.underlying27 Tryd.zeroValue27 rfl ⟨rfl, Tryd.sizeOf9, rfl, Tryd.sizeOf9, rfl, Tryd.sizeOf3, trivial⟩ rfl rfl rfl rfl) rfl ?_
    refine ao_effS trivial (e_store rfl rfl rfl rfl Tryd.sizeOf27 rfl) ?_
    refine ao_read trivial (r_assign rfl) rfl ?_
    refine ao_read trivial (r_assign rfl) rfl ?_
    refine ao_nil ?_
    refine aq_then ?_
    refine aw_ret ?_
    refine aq_then_ret ?_
    refine aq_ret ?_
    obtain rfl := is_some h
    exact aq_finx (l := [.cell 2 27, .tmp 3, .tmp 4]) (xs := [.st [.str ByteArray.empty, .str ByteArray.empty, .int .i64 0], .int .i64 0, .bool false]) idn [.v (.pair .str (.pair .str (.pair (.int .i64) .unit))) ((ByteArray.empty, (ByteArray.empty, (0, ()))) : (ByteArray × (ByteArray × (Int × Unit)))), .int .i64 0, .bool false] [] rfl (by exact ⟨⟨⟨_, _, rfl⟩, r_load_st [] [.cell (.str ByteArray.empty), .cell (.str ByteArray.empty), .cell (.int .i64 0)] [] Tryd.isAgg27 Tryd.sizeOf27 rfl rfl rfl rfl rfl rfl rfl⟩, rfl, rfl, trivial⟩) (by exact ⟨ad_st rfl rfl ⟨ad_ren rfl, ad_ren rfl, ad_ren rfl, trivial⟩, ad_ren rfl, ad_ren rfl, trivial⟩) (by exact trivial) rfl (nk rfl) rfl rfl ⟨rfl, rfl⟩
  · have q3 := d_f hb1
    replace h := is_else (d_f hb1) h
    refine aw_skip ?_
    refine aq_then ?_
    refine aw_seq ?_
    refine aw_region ?_
    refine ao_read trivial (r_move rfl) rfl ?_
    obtain ⟨r4, r4h, h⟩ := is_bind h
    refine ao_call [] 1 trivial (c_impl_decodeAll (is_mk r4h)) Tryd.func48 rfl rfl rfl rfl ⟨ad_ren rfl, trivial⟩ trivial rfl rfl rfl rfl rfl rfl rfl (fun r' H' hr => ?_)
    obtain ⟨rfl, rfl⟩ := hr
    refine ao_norm (y := .tup [.os 1, .os 2]) (H' := [(0, .var [.cell (.str ByteArray.empty), .cell (.str ByteArray.empty), .cell (.int .i64 0)]), (1, .row (.pair .str (.pair .str .unit)) r4.1), (2, .row (.int .i64) r4.2)]) rfl rfl ?_
    refine row_len_o 1 (r4.1.length : Int) rfl rfl (fun hr5 => ?_)
    refine row_len_o 2 (r4.2.length : Int) rfl rfl (fun hr6 => ?_)
    refine ao_read trivial (r_move rfl) rfl ?_
    refine ao_read trivial (r_extract rfl rfl) rfl ?_
    refine ao_read trivial (r_extract rfl rfl) rfl ?_
    refine ao_read trivial (r_assign rfl) rfl ?_
    refine ao_read trivial (r_assign rfl) rfl ?_
    refine ao_nil ?_
    refine aq_then ?_
    refine aw_seq ?_
    refine aw_region ?_
    refine ao_read trivial (r_move rfl) rfl ?_
    refine ao_read trivial (r_move rfl) rfl ?_
    refine ao_read trivial (r_len_osm (r4.1.length : Int) Tryd.underlying47 rfl rfl rfl) rfl ?_
    obtain ⟨g7, h⟩ := is_guard h
    refine ao_read trivial (r_idxAddr_os Tryd.underlying62 Tryd.sizeOf3 rfl rfl rfl (show 0 ≤ (r4.1.length : Int) from by omega) (show (r4.1.length : Int) < (r4.2.length : Int) from by omega)) rfl ?_
    refine ao_read trivial (r_load_elem_int Tryd.isAgg3 Tryd.sizeOf3 rfl rfl (show (r4.1.length : Int).toNat < r4.2.length from by omega)) rfl ?_
    refine ao_read trivial (r_assign rfl) rfl ?_
    refine ao_nil ?_
    refine aq_then ?_
    refine aw_seq ?_
    refine aw_region ?_
    refine ao_read trivial (r_move rfl) rfl ?_
    refine ao_read trivial (r_move rfl) rfl ?_
    obtain ⟨g8, h⟩ := is_guard h
    obtain ⟨g9, h⟩ := is_guard h
    refine ao_read trivial (r_slice_str Tryd.underlying9 rfl .none (.some rfl) (show 0 ≤ 0 from by omega) (show 0 ≤ (r4.2.getD (r4.1.length : Int).toNat 0) from by omega) (show (r4.2.getD (r4.1.length : Int).toNat 0) ≤ (x0.size : Int) from by omega)) rfl ?_
    refine ao_read trivial (r_move rfl) rfl ?_
    refine ao_read trivial (r_len_osm (r4.1.length : Int) Tryd.underlying47 rfl rfl rfl) rfl ?_
    refine ao_read trivial (r_build_stv (l := [(0, .tmp 24), (2, .tmp 26)]) (cs := [.cell (.str (x0.extract 0 (r4.2.getD (r4.1.length : Int).toNat 0).toNat)), .cell (.str ByteArray.empty), .cell (.int .i64 (r4.1.length : Int))]) (.pair .str (.pair .str (.pair (.int .i64) .unit))) (((x0.extract 0 (r4.2.getD (r4.1.length : Int).toNat 0).toNat), (ByteArray.empty, ((r4.1.length : Int), ()))) : (ByteArray × (ByteArray × (Int × Unit)))) [(0, 1), (1, 1), (2, 1)] Tryd.underlying27 Tryd.zeroValue27 rfl ⟨rfl, Tryd.sizeOf9, rfl, Tryd.sizeOf9, rfl, Tryd.sizeOf3, trivial⟩ rfl rfl rfl rfl) rfl ?_
    refine ao_read trivial (r_move rfl) rfl ?_
    refine ao_effS trivial (e_store rfl rfl rfl rfl Tryd.sizeOf27 rfl) ?_
    refine ao_read trivial (r_assign rfl) rfl ?_
    refine ao_read trivial (r_assign rfl) rfl ?_
    refine ao_nil ?_
    refine aq_then ?_
    refine aw_ret ?_
    refine aq_ret ?_
    obtain rfl := is_some h
    exact aq_finx (l := [.cell 2 27, .tmp 3, .tmp 4]) (xs := [.st [.str (x0.extract 0 (r4.2.getD (r4.1.length : Int).toNat 0).toNat), .str ByteArray.empty, .int .i64 (r4.1.length : Int)], .int .i64 (r4.2.getD (r4.1.length : Int).toNat 0), .bool true]) idn [.v (.pair .str (.pair .str (.pair (.int .i64) .unit))) (((x0.extract 0 (r4.2.getD (r4.1.length : Int).toNat 0).toNat), (ByteArray.empty, ((r4.1.length : Int), ()))) : (ByteArray × (ByteArray × (Int × Unit)))), .int .i64 (r4.2.getD (r4.1.length : Int).toNat 0), .bool true] [] rfl (by exact ⟨⟨⟨_, _, rfl⟩, r_load_st [] [.cell (.str (x0.extract 0 (r4.2.getD (r4.1.length : Int).toNat 0).toNat)), .cell (.str ByteArray.empty), .cell (.int .i64 (r4.1.length : Int))] [] Tryd.isAgg27 Tryd.sizeOf27 rfl rfl rfl rfl rfl rfl rfl⟩, rfl, rfl, trivial⟩) (by exact ⟨ad_st rfl rfl ⟨ad_ren rfl, ad_ren rfl, ad_ren rfl, trivial⟩, ad_ren rfl, ad_ren rfl, trivial⟩) (by exact trivial) rfl (nk rfl) rfl rfl ⟨rfl, rfl⟩
theorem c_spec_RecoverLog {fu : Nat} {x0 : ByteArray} {r : (ByteArray × (ByteArray × (Int × Unit))) × Int × Bool} (h : Is (p_spec_RecoverLog fu x0) (some r)) :
    Scalar Tryd.prog 29 [.str x0] (.tup [.v (.pair .str (.pair .str (.pair (.int .i64) .unit))) r.1, .int .i64 r.2.1, .bool r.2.2]) := by
  unfold p_spec_RecoverLog at h
  refine ac_enter ⟨23, 0⟩ Tryd.func29 rfl rfl rfl rfl rfl (fun Γ => ?_)
  obtain ⟨gs0, h⟩ := is_guard h
  refine aw_seq ?_
  refine aw_region ?_
  refine ao_eff trivial (e_alloc 0 (y := .st [.str ByteArray.empty, .str ByteArray.empty, .int .i64 0]) Tryd.zeroValue27 (fun ρ h M => ra_zero_st (t := (.pair .str (.pair .str (.pair (.int .i64) .unit)))) rfl rfl rfl) rfl rfl rfl rfl rfl) rfl ?_
  refine ao_read trivial (r_assign rfl) rfl ?_
  refine ao_read trivial (r_assign rfl) rfl ?_
  refine ao_nil ?_
  refine aq_then ?_
  refine aw_seq ?_
  refine aw_seq ?_
  refine aw_region ?_
  refine ao_read trivial (r_move rfl) rfl ?_
  refine ao_read trivial (r_len_str Tryd.underlying9 rfl) rfl ?_
  refine ao_read trivial (r_gtr rfl rfl) rfl ?_
  refine ao_nil ?_
  refine aq_then ?_
  refine aw_cond rfl (fun hb1 => ?_) (fun hb1 => ?_)
  · have q2 := d_t hb1
    replace h := is_if (d_t hb1) h
    refine aw_seq ?_
    refine aw_region ?_
    refine ao_read trivial (r_build_stv (l := []) (cs := [.cell (.str ByteArray.empty), .cell (.str ByteArray.empty), .cell (.int .i64 0)]) (.pair .str (.pair .str (.pair (.int .i64) .unit))) ((ByteArray.empty, (ByteArray.empty, (0, ()))) : (ByteArray × (ByteArray × (Int × Unit)))) [(0, 1), (1, 1), (2, 1)] Tryd.underlying27 Tryd.zeroValue27 rfl ⟨rfl, Tryd.sizeOf9, rfl, Tryd.sizeOf9, rfl, Tryd.sizeOf3, trivial⟩ rfl rfl rfl rfl) rfl ?_
    refine ao_effS trivial (e_store rfl rfl rfl rfl Tryd.sizeOf27 rfl) ?_
    refine ao_read trivial (r_assign rfl) rfl ?_
    refine ao_read trivial (r_assign rfl) rfl ?_
    refine ao_nil ?_
    refine aq_then ?_
    refine aw_ret ?_
    refine aq_then_ret ?_
    refine aq_ret ?_
    obtain rfl := is_some h
    exact aq_finx (l := [.cell 2 27, .tmp 3, .tmp 4]) (xs := [.st [.str ByteArray.empty, .str ByteArray.empty, .int .i64 0], .int .i64 0, .bool false]) idn [.v (.pair .str (.pair .str (.pair (.int .i64) .unit))) ((ByteArray.empty, (ByteArray.empty, (0, ()))) : (ByteArray × (ByteArray × (Int × Unit)))), .int .i64 0, .bool false] [] rfl (by exact ⟨⟨⟨_, _, rfl⟩, r_load_st [] [.cell (.str ByteArray.empty), .cell (.str ByteArray.empty), .cell (.int .i64 0)] [] Tryd.isAgg27 Tryd.sizeOf27 rfl rfl rfl rfl rfl rfl rfl⟩, rfl, rfl, trivial⟩) (by exact ⟨ad_st rfl rfl ⟨ad_ren rfl, ad_ren rfl, ad_ren rfl, trivial⟩, ad_ren rfl, ad_ren rfl, trivial⟩) (by exact trivial) rfl (nk rfl) rfl rfl ⟨rfl, rfl⟩
  · have q3 := d_f hb1
    replace h := is_else (d_f hb1) h
    refine aw_skip ?_
    refine aq_then ?_
    refine aw_seq ?_
    refine aw_region ?_
    refine ao_read trivial (r_move rfl) rfl ?_
    obtain ⟨r4, r4h, h⟩ := is_bind h
    refine ao_call [] 1 trivial (c_spec_l12Open (is_mk r4h)) Tryd.func45 rfl rfl rfl rfl ⟨ad_ren rfl, trivial⟩ trivial rfl rfl rfl rfl rfl rfl rfl (fun r' H' hr => ?_)
    obtain ⟨rfl, rfl⟩ := hr
    refine ao_norm (y := .tup [.os 1, .int .i64 r4.2]) (H' := [(0, .var [.cell (.str ByteArray.empty), .cell (.str ByteArray.empty), .cell (.int .i64 0)]), (1, .row (.pair .str (.pair .str .unit)) r4.1)]) rfl rfl ?_
    refine row_len_o 1 (r4.1.length : Int) rfl rfl (fun hr5 => ?_)
    refine ao_read trivial (r_move rfl) rfl ?_
    refine ao_read trivial (r_extract rfl rfl) rfl ?_
    refine ao_read trivial (r_extract rfl rfl) rfl ?_
    refine ao_read trivial (r_assign rfl) rfl ?_
    refine ao_read trivial (r_assign rfl) rfl ?_
    refine ao_nil ?_
    refine aq_then ?_
    refine aw_seq ?_
    refine aw_region ?_
    refine ao_read trivial (r_move rfl) rfl ?_
    refine ao_read trivial (r_move rfl) rfl ?_
    obtain ⟨g6, h⟩ := is_guard h
    obtain ⟨g7, h⟩ := is_guard h
    refine ao_read trivial (r_slice_str Tryd.underlying9 rfl .none (.some rfl) (show 0 ≤ 0 from by omega) (show 0 ≤ r4.2 from by omega) (show r4.2 ≤ (x0.size : Int) from by omega)) rfl ?_
    refine ao_read trivial (r_move rfl) rfl ?_
    refine ao_read trivial (r_len_osm (r4.1.length : Int) Tryd.underlying47 rfl rfl rfl) rfl ?_
    refine ao_read trivial (r_build_stv (l := [(0, .tmp 18), (2, .tmp 20)]) (cs := [.cell (.str (x0.extract 0 r4.2.toNat)), .cell (.str ByteArray.empty), .cell (.int .i64 (r4.1.length : Int))]) (.pair .str (.pair .str (.pair (.int .i64) .unit))) (((x0.extract 0 r4.2.toNat), (ByteArray.empty, ((r4.1.length : Int), ()))) : (ByteArray × (ByteArray × (Int × Unit)))) [(0, 1), (1, 1), (2, 1)] Tryd.underlying27 Tryd.zeroValue27 rfl ⟨rfl, Tryd.sizeOf9, rfl, Tryd.sizeOf9, rfl, Tryd.sizeOf3, trivial⟩ rfl rfl rfl rfl) rfl ?_
    refine ao_read trivial (r_move rfl) rfl ?_
    refine ao_effS trivial (e_store rfl rfl rfl rfl Tryd.sizeOf27 rfl) ?_
    refine ao_read trivial (r_assign rfl) rfl ?_
    refine ao_read trivial (r_assign rfl) rfl ?_
    refine ao_nil ?_
    refine aq_then ?_
    refine aw_ret ?_
    refine aq_ret ?_
    obtain rfl := is_some h
    exact aq_finx (l := [.cell 2 27, .tmp 3, .tmp 4]) (xs := [.st [.str (x0.extract 0 r4.2.toNat), .str ByteArray.empty, .int .i64 (r4.1.length : Int)], .int .i64 r4.2, .bool true]) idn [.v (.pair .str (.pair .str (.pair (.int .i64) .unit))) (((x0.extract 0 r4.2.toNat), (ByteArray.empty, ((r4.1.length : Int), ()))) : (ByteArray × (ByteArray × (Int × Unit)))), .int .i64 r4.2, .bool true] [] rfl (by exact ⟨⟨⟨_, _, rfl⟩, r_load_st [] [.cell (.str (x0.extract 0 r4.2.toNat)), .cell (.str ByteArray.empty), .cell (.int .i64 (r4.1.length : Int))] [] Tryd.isAgg27 Tryd.sizeOf27 rfl rfl rfl rfl rfl rfl rfl⟩, rfl, rfl, trivial⟩) (by exact ⟨ad_st rfl rfl ⟨ad_ren rfl, ad_ren rfl, ad_ren rfl, trivial⟩, ad_ren rfl, ad_ren rfl, trivial⟩) (by exact trivial) rfl (nk rfl) rfl rfl ⟨rfl, rfl⟩
theorem c_laws_FnTavernLogs {fu : Nat} {x0 : (List Int)} {r : Bool} (h : Is (p_laws_FnTavernLogs fu x0) (some r)) :
    Scalar Tryd.prog 4 [.v (.slice (.int .u8)) x0] (.bool r) := by
  unfold p_laws_FnTavernLogs at h
  refine ac_enter ⟨347, 0⟩ Tryd.func4 rfl rfl rfl rfl rfl (fun Γ => ?_)
  refine sl_len_m 0 (x0.length : Int) rfl rfl (fun hl0 => ?_)
  refine aw_seq ?_
  refine aw_region ?_
  refine ao_read trivial (r_assign rfl) rfl ?_
  refine ao_nil ?_
  refine aq_then ?_
  refine aw_seq ?_
  refine aw_seq ?_
  refine aw_region ?_
  refine ao_read trivial (r_move rfl) rfl ?_
  refine ao_scall trivial (scall (c_laws_rBig (is_mk (rfl : p_laws_rBig x0 = _))) rfl Tryd.func9 rfl rfl rfl rfl (fun σ => ⟨ad_ren rfl, trivial⟩)) rfl ?_
  refine ao_nil ?_
  refine aq_then ?_
  refine aw_cond rfl (fun hb1 => ?_) (fun hb1 => ?_)
  · replace h := is_if hb1 h
    refine aw_seq ?_
    refine aw_region ?_
    refine ao_read trivial (r_assign rfl) rfl ?_
    refine ao_nil ?_
    refine aq_then ?_
    refine aw_ret ?_
    refine aq_then_ret ?_
    refine aq_ret ?_
    obtain rfl := is_some h
    exact aq_finx (l := [.tmp 2]) (xs := [.bool true]) idn [.bool true] [] rfl (by exact ⟨rfl, trivial⟩) (by exact ⟨ad_ren rfl, trivial⟩) (by exact trivial) rfl (nk rfl) rfl rfl ⟨rfl, rfl⟩
  · replace h := is_else (ne_t hb1) h
    refine aw_skip ?_
    refine aq_then ?_
    refine aw_seq ?_
    refine aw_region ?_
    refine ao_read trivial (r_move rfl) rfl ?_
    obtain ⟨r2, r2h, h⟩ := is_bind h
    refine ao_scall trivial (scall (c_spec_DrawIsValidRecord (is_mk r2h)) rfl Tryd.func10 rfl rfl rfl rfl (fun σ => ⟨ad_ren rfl, trivial⟩)) rfl ?_
    refine ao_eff trivial (e_alloc 0 (y := .st [.str ByteArray.empty, .str ByteArray.empty]) Tryd.zeroValue33 (fun ρ h M => ra_zero_st (t := (.pair .str (.pair .str .unit))) rfl rfl rfl) rfl rfl rfl rfl rfl) rfl ?_
    refine ao_effS trivial (e_store rfl rfl rfl rfl Tryd.sizeOf33 rfl) ?_
    refine ao_nil ?_
    refine aq_then ?_
    refine aw_seq ?_
    refine aw_region ?_
    refine ao_read trivial (r_move rfl) rfl ?_
    obtain ⟨r3, r3h, h⟩ := is_bind h
    refine ao_callV [] 1 trivial (c_laws_rCut (is_mk r3h)) Tryd.func12 rfl rfl rfl rfl rfl trivial trivial rfl rfl rfl rfl rfl rfl rfl (fun r' H' hr => ?_)
    obtain ⟨rfl, rfl⟩ := hr
    refine ao_norm (y := .v (.slice (.int .u8)) r3) (H' := [(0, .var [.cell (.str r2.1), .cell (.str r2.2.1)])]) rfl rfl ?_
    obtain ⟨r4, r4h, h⟩ := is_bind h
    refine ao_scall trivial (scall (c_spec_DrawEncodeRecord (is_mk r4h)) rfl Tryd.func11 rfl rfl rfl rfl (fun σ => ⟨ad_ren rfl, trivial⟩)) rfl ?_
    refine ao_read trivial (r_move rfl) rfl ?_
    refine ao_read trivial (r_extract rfl rfl) rfl ?_
    refine ao_read trivial (r_extract rfl rfl) rfl ?_
    refine ao_eff trivial (e_alloc 1 (y := .st [.str ByteArray.empty, .str ByteArray.empty]) Tryd.zeroValue33 (fun ρ h M => ra_zero_st (t := (.pair .str (.pair .str .unit))) rfl rfl rfl) rfl rfl rfl rfl rfl) rfl ?_
    refine ao_read trivial (r_assign rfl) rfl ?_
    refine ao_effS trivial (e_store rfl rfl rfl rfl Tryd.sizeOf33 rfl) ?_
    refine ao_nil ?_
    refine aq_then ?_
    refine aw_seq ?_
    refine aw_region ?_
    refine ao_read trivial (r_move rfl) rfl ?_
    refine ao_read trivial (r_load_part (τ := (.pair .str (.pair .str .unit))) (y := ((r4.2.1, (r4.2.2.1, ())) : (ByteArray × (ByteArray × Unit)))) [] [] rfl Tryd.isAgg33 Tryd.sizeOf33 rfl rfl rfl rfl) rfl ?_
    obtain ⟨r5, r5h, h⟩ := is_bind h
    refine ao_scall trivial (scall (c_impl_EncodeRecord (is_mk r5h)) rfl Tryd.func13 rfl rfl rfl rfl (fun σ => ⟨ad_ren rfl, ad_ren rfl, trivial⟩)) rfl ?_
    refine ao_read trivial (r_move rfl) rfl ?_
    refine ao_read trivial (r_extract rfl rfl) rfl ?_
    refine ao_read trivial (r_extract rfl rfl) rfl ?_
    refine ao_read trivial (r_assign rfl) rfl ?_
    refine ao_read trivial (r_assign rfl) rfl ?_
    refine ao_nil ?_
    refine aq_then ?_
    refine aw_seq ?_
    refine aw_seq ?_
    refine aw_region ?_
    refine ao_read trivial (r_move rfl) rfl ?_
    refine ao_read trivial (r_load_part (τ := (.pair .str (.pair .str .unit))) (y := ((r4.2.1, (r4.2.2.1, ())) : (ByteArray × (ByteArray × Unit)))) [] [] rfl Tryd.isAgg33 Tryd.sizeOf33 rfl rfl rfl rfl) rfl ?_
    obtain ⟨r6, r6h, h⟩ := is_bind h
    refine ao_scall trivial (scall (c_spec_EncodeRecord (is_mk r6h)) rfl Tryd.func14 rfl rfl rfl rfl (fun σ => ⟨ad_ren rfl, ad_ren rfl, trivial⟩)) rfl ?_
    refine ao_read trivial (r_move rfl) rfl ?_
    refine ao_read trivial (r_extract rfl rfl) rfl ?_
    refine ao_read trivial (r_extract rfl rfl) rfl ?_
    refine ao_read trivial (r_assign rfl) rfl ?_
    refine ao_read trivial (r_assign rfl) rfl ?_
    refine ao_nil ?_
    refine aq_then ?_
    refine aw_seq ?_
    obtain ⟨g16, h⟩ := is_guard h
    obtain ⟨g23, h⟩ := is_guard h
    refine aw_drawAll (by kernel_rfl) ?_
    refine an_read 0 (by kernel_rfl) (fun _ _ _ h => h) rfl (by kernel_rfl) trivial (r_move rfl) rfl ?_
    refine an_read 1 (by kernel_rfl) (fun _ _ _ h => h) rfl (by kernel_rfl) trivial (r_move rfl) rfl ?_
    refine an_read 2 (by kernel_rfl) (fun _ _ _ h => h) rfl (by kernel_rfl) trivial (r_neq_str rfl rfl) rfl ?_
    refine an_read 3 (by kernel_rfl) (fun _ _ _ h => h) rfl (by kernel_rfl) trivial (r_move rfl) rfl ?_
    refine an_readG 4 (x := .bool r5.2) (by kernel_rfl) (fun _ _ _ h => h) rfl (by kernel_rfl) rfl (GV.F rfl) (fun hg7 => r_move rfl) rfl ?_
    refine an_readG 5 (x := .bool r6.2) (by kernel_rfl) (fun _ _ _ h => h) rfl (by kernel_rfl) rfl (GV.F rfl) (fun hg8 => r_move rfl) rfl ?_
    refine an_readG 6 (x := .bool (r5.2 != r6.2)) (by kernel_rfl) (fun _ _ _ h => h) rfl (by kernel_rfl) rfl (GV.F rfl) (fun hg9 => Reads.strip 75 rfl (hg9) (Reads.strip 76 rfl (hg9) (r_neq_bool Tryd.underlying4 rfl rfl))) rfl ?_
    refine an_read 7 (by kernel_rfl) (fun _ _ _ h => h) rfl (by kernel_rfl) trivial (r_orB rfl rfl) rfl ?_
    refine an_read 8 (by kernel_rfl) (fun _ _ _ h => h) rfl (by kernel_rfl) trivial (r_move rfl) rfl ?_
    refine an_readG 9 (x := .v (.pair .str (.pair .str .unit)) ((r2.1, (r2.2.1, ())) : (ByteArray × (ByteArray × Unit)))) (by kernel_rfl) (fun _ _ _ h => h) rfl (by kernel_rfl) rfl (GV.F rfl) (fun hg10 => by
          obtain ⟨q11, q12⟩ := or_f (not_t hg10)
          exact r_load_part (τ := (.pair .str (.pair .str .unit))) (y := ((r2.1, (r2.2.1, ())) : (ByteArray × (ByteArray × Unit)))) [] [] rfl Tryd.isAgg33 Tryd.sizeOf33 rfl rfl rfl rfl) rfl ?_
    refine an_scallG 10 (x := .bool ((p_impl_IsValidRecord (r2.1, (r2.2.1, ()))).getD false)) (by kernel_rfl) (fun _ _ _ h => h) rfl (by kernel_rfl) rfl (GV.F rfl) (fun hg13 => by
          obtain ⟨q14, q15⟩ := or_f (not_t hg13)
          exact SCall.strip 80 rfl (hg13) (scall (c_impl_IsValidRecord (is_mk (isSome_getD (g16 hg13)))) rfl Tryd.func15 rfl rfl rfl rfl (fun σ => ⟨ad_ren rfl, trivial⟩))) rfl ?_
    refine an_readG 11 (x := .v (.pair .str (.pair .str .unit)) ((r2.1, (r2.2.1, ())) : (ByteArray × (ByteArray × Unit)))) (by kernel_rfl) (fun _ _ _ h => h) rfl (by kernel_rfl) rfl (GV.F rfl) (fun hg17 => by
          obtain ⟨q18, q19⟩ := or_f (not_t hg17)
          exact r_load_part (τ := (.pair .str (.pair .str .unit))) (y := ((r2.1, (r2.2.1, ())) : (ByteArray × (ByteArray × Unit)))) [] [] rfl Tryd.isAgg33 Tryd.sizeOf33 rfl rfl rfl rfl) rfl ?_
    refine an_scallG 12 (x := .bool ((p_spec_IsValidRecord (r2.1, (r2.2.1, ()))).getD false)) (by kernel_rfl) (fun _ _ _ h => h) rfl (by kernel_rfl) rfl (GV.F rfl) (fun hg20 => by
          obtain ⟨q21, q22⟩ := or_f (not_t hg20)
          exact SCall.strip 82 rfl (hg20) (scall (c_spec_IsValidRecord (is_mk (isSome_getD (g23 hg20)))) rfl Tryd.func16 rfl rfl rfl rfl (fun σ => ⟨ad_ren rfl, trivial⟩))) rfl ?_
    refine an_readG 13 (x := .bool (((p_impl_IsValidRecord (r2.1, (r2.2.1, ()))).getD false) != ((p_spec_IsValidRecord (r2.1, (r2.2.1, ()))).getD false))) (by kernel_rfl) (fun _ _ _ h => h) rfl (by kernel_rfl) rfl (GV.F rfl) (fun hg24 => by
          obtain ⟨q25, q26⟩ := or_f (not_t hg24)
          exact Reads.strip 81 rfl (hg24) (Reads.strip 83 rfl (hg24) (r_neq_bool Tryd.underlying4 rfl rfl))) rfl ?_
    refine an_read 14 (by kernel_rfl) (fun _ _ _ h => h) rfl (by kernel_rfl) trivial (r_orB rfl rfl) rfl ?_
    refine an_done rfl ?_
    refine aq_then ?_
    refine aw_cond rfl (fun hb27 => ?_) (fun hb27 => ?_)
    · replace h := is_if hb27 h
      refine aw_seq ?_
      refine aw_region ?_
      refine ao_read trivial (r_assign rfl) rfl ?_
      refine ao_nil ?_
      refine aq_then ?_
      refine aw_ret ?_
      refine aq_then_ret ?_
      refine aq_ret ?_
      obtain rfl := is_some h
      exact aq_finx (l := [.tmp 2]) (xs := [.bool false]) idn [.bool false] [] rfl (by exact ⟨rfl, trivial⟩) (by exact ⟨ad_ren rfl, trivial⟩) (by exact trivial) rfl (nk rfl) rfl rfl ⟨rfl, rfl⟩
    · obtain ⟨q28, q29⟩ := or_f hb27
      obtain ⟨q30, q31⟩ := or_f q28
      replace h := is_else (ne_t hb27) h
      refine aw_skip ?_
      refine aq_then ?_
      refine aw_seq ?_
      refine aw_region ?_
      refine ao_read trivial (r_move rfl) rfl ?_
      obtain ⟨r32, r32h, h⟩ := is_bind h
      refine ao_callV [] 2 trivial (c_laws_rCut (is_mk r32h)) Tryd.func12 rfl rfl rfl rfl rfl trivial trivial rfl rfl rfl rfl rfl rfl rfl (fun r' H' hr => ?_)
      obtain ⟨rfl, rfl⟩ := hr
      refine ao_norm (y := .v (.slice (.int .u8)) r32) (H' := [(1, .var [.cell (.str r4.2.1), .cell (.str r4.2.2.1)]), (0, .var [.cell (.str r2.1), .cell (.str r2.2.1)])]) rfl rfl ?_
      obtain ⟨r33, r33h, h⟩ := is_bind h
      refine ao_scall trivial (scall (c_spec_DrawAppendRecord (is_mk r33h)) rfl Tryd.func17 rfl rfl rfl rfl (fun σ => ⟨ad_ren rfl, trivial⟩)) rfl ?_
      refine ao_read trivial (r_move rfl) rfl ?_
      refine ao_read trivial (r_extract rfl rfl) rfl ?_
      refine ao_read trivial (r_extract rfl rfl) rfl ?_
      refine ao_eff trivial (e_alloc 2 (y := .st [.str ByteArray.empty, .str ByteArray.empty, .int .i64 0]) Tryd.zeroValue27 (fun ρ h M => ra_zero_st (t := (.pair .str (.pair .str (.pair (.int .i64) .unit)))) rfl rfl rfl) rfl rfl rfl rfl rfl) rfl ?_
      refine ao_eff trivial (e_alloc 3 (y := .st [.str ByteArray.empty, .str ByteArray.empty]) Tryd.zeroValue33 (fun ρ h M => ra_zero_st (t := (.pair .str (.pair .str .unit))) rfl rfl rfl) rfl rfl rfl rfl rfl) rfl ?_
      refine ao_effS trivial (e_store rfl rfl rfl rfl Tryd.sizeOf27 rfl) ?_
      refine ao_effS trivial (e_store rfl rfl rfl rfl Tryd.sizeOf33 rfl) ?_
      refine ao_nil ?_
      refine aq_then ?_
      refine aw_seq ?_
      refine aw_region ?_
      refine ao_read trivial (r_load_part (τ := (.pair .str (.pair .str (.pair (.int .i64) .unit)))) (y := ((r33.1.1, (r33.1.2.1, (r33.1.2.2.1, ()))) : (ByteArray × (ByteArray × (Int × Unit))))) [] [] rfl Tryd.isAgg27 Tryd.sizeOf27 rfl rfl rfl rfl) rfl ?_
      refine ao_read trivial (r_load_part (τ := (.pair .str (.pair .str .unit))) (y := ((r33.2.1, (r33.2.2.1, ())) : (ByteArray × (ByteArray × Unit)))) [] [] rfl Tryd.isAgg33 Tryd.sizeOf33 rfl rfl rfl rfl) rfl ?_
      obtain ⟨r34, r34h, h⟩ := is_bind h
      refine ao_scall trivial (scall (c_impl_AppendRecord (is_mk r34h)) rfl Tryd.func18 rfl rfl rfl rfl (fun σ => ⟨ad_ren rfl, ad_ren rfl, trivial⟩)) rfl ?_
      refine ao_read trivial (r_move rfl) rfl ?_
      refine ao_read trivial (r_extract rfl rfl) rfl ?_
      refine ao_read trivial (r_extract rfl rfl) rfl ?_
      refine ao_eff trivial (e_alloc 4 (y := .st [.str ByteArray.empty, .str ByteArray.empty, .int .i64 0]) Tryd.zeroValue27 (fun ρ h M => ra_zero_st (t := (.pair .str (.pair .str (.pair (.int .i64) .unit)))) rfl rfl rfl) rfl rfl rfl rfl rfl) rfl ?_
      refine ao_effS trivial (e_store rfl rfl rfl rfl Tryd.sizeOf27 rfl) ?_
      refine ao_read trivial (r_assign rfl) rfl ?_
      refine ao_nil ?_
      refine aq_then ?_
      refine aw_seq ?_
      refine aw_seq ?_
      refine aw_region ?_
      refine ao_read trivial (r_load_part (τ := (.pair .str (.pair .str (.pair (.int .i64) .unit)))) (y := ((r33.1.1, (r33.1.2.1, (r33.1.2.2.1, ()))) : (ByteArray × (ByteArray × (Int × Unit))))) [] [] rfl Tryd.isAgg27 Tryd.sizeOf27 rfl rfl rfl rfl) rfl ?_
      refine ao_read trivial (r_load_part (τ := (.pair .str (.pair .str .unit))) (y := ((r33.2.1, (r33.2.2.1, ())) : (ByteArray × (ByteArray × Unit)))) [] [] rfl Tryd.isAgg33 Tryd.sizeOf33 rfl rfl rfl rfl) rfl ?_
      obtain ⟨r35, r35h, h⟩ := is_bind h
      refine ao_scall trivial (scall (c_spec_AppendRecord (is_mk r35h)) rfl Tryd.func19 rfl rfl rfl rfl (fun σ => ⟨ad_ren rfl, ad_ren rfl, trivial⟩)) rfl ?_
      refine ao_read trivial (r_move rfl) rfl ?_
      refine ao_read trivial (r_extract rfl rfl) rfl ?_
      refine ao_read trivial (r_extract rfl rfl) rfl ?_
      refine ao_eff trivial (e_alloc 5 (y := .st [.str ByteArray.empty, .str ByteArray.empty, .int .i64 0]) Tryd.zeroValue27 (fun ρ h M => ra_zero_st (t := (.pair .str (.pair .str (.pair (.int .i64) .unit)))) rfl rfl rfl) rfl rfl rfl rfl rfl) rfl ?_
      refine ao_effS trivial (e_store rfl rfl rfl rfl Tryd.sizeOf27 rfl) ?_
      refine ao_read trivial (r_assign rfl) rfl ?_
      refine ao_nil ?_
      refine aq_then ?_
      refine aw_seq ?_
      refine aw_region ?_
      refine ao_read trivial (r_load_part (τ := (.pair .str (.pair .str (.pair (.int .i64) .unit)))) (y := ((r34.1.1, (r34.1.2.1, (r34.1.2.2.1, ()))) : (ByteArray × (ByteArray × (Int × Unit))))) [] [] rfl Tryd.isAgg27 Tryd.sizeOf27 rfl rfl rfl rfl) rfl ?_
      refine ao_read trivial (r_load_part (τ := (.pair .str (.pair .str (.pair (.int .i64) .unit)))) (y := ((r35.1.1, (r35.1.2.1, (r35.1.2.2.1, ()))) : (ByteArray × (ByteArray × (Int × Unit))))) [] [] rfl Tryd.isAgg27 Tryd.sizeOf27 rfl rfl rfl rfl) rfl ?_
      refine ao_read trivial (r_eq_data (.pair .str (.pair .str (.pair (.int .i64) .unit))) 3 Tryd.underlying27 (by kernel_rfl) (by kernel_rfl) ⟨rfl, rfl, Tryd.isAgg9, Tryd.sizeOf9, (TEq.mono (n := 1) rfl (teq_str Tryd.underlying9)), ⟨rfl, rfl, Tryd.isAgg9, Tryd.sizeOf9, (TEq.mono (n := 1) rfl (teq_str Tryd.underlying9)), ⟨rfl, rfl, Tryd.isAgg3, Tryd.sizeOf3, (TEq.mono (n := 1) rfl (teq_int Tryd.underlying3)), trivial⟩⟩⟩ rfl rfl rfl rfl rfl) rfl ?_
      refine ao_read trivial (r_move rfl) rfl ?_
      refine ao_readG (x := .int .i64 r34.2) rfl (GV.F rfl) (fun hg36 => r_move rfl) rfl ?_
      refine ao_readG (x := .int .i64 r35.2) rfl (GV.F rfl) (fun hg37 => r_move rfl) rfl ?_
      refine ao_readG (x := .bool (!(decide (r34.2 = r35.2)))) rfl (GV.F rfl) (fun hg38 => Reads.strip 108 rfl (hg38) (Reads.strip 109 rfl (hg38) (r_neq rfl rfl))) rfl ?_
      refine ao_read trivial (r_orB rfl rfl) rfl ?_
      refine ao_nil ?_
      refine aq_then ?_
      refine aw_cond rfl (fun hb39 => ?_) (fun hb39 => ?_)
      · replace h := is_if hb39 h
        refine aw_seq ?_
        refine aw_region ?_
        refine ao_read trivial (r_assign rfl) rfl ?_
        refine ao_nil ?_
        refine aq_then ?_
        refine aw_ret ?_
        refine aq_then_ret ?_
        refine aq_ret ?_
        obtain rfl := is_some h
        exact aq_finx (l := [.tmp 2]) (xs := [.bool false]) idn [.bool false] [] rfl (by exact ⟨rfl, trivial⟩) (by exact ⟨ad_ren rfl, trivial⟩) (by exact trivial) rfl (nk rfl) rfl rfl ⟨rfl, rfl⟩
      · obtain ⟨q40, q41⟩ := or_f hb39
        have q42 := d_t (not_f q41)
        replace h := is_else (ne_t hb39) h
        refine aw_skip ?_
        refine aq_then ?_
        refine aw_seq ?_
        refine aw_region ?_
        refine ao_read trivial (r_load_part (τ := (.pair .str (.pair .str (.pair (.int .i64) .unit)))) (y := ((r33.1.1, (r33.1.2.1, (r33.1.2.2.1, ()))) : (ByteArray × (ByteArray × (Int × Unit))))) [] [] rfl Tryd.isAgg27 Tryd.sizeOf27 rfl rfl rfl rfl) rfl ?_
        obtain ⟨r43, r43h, h⟩ := is_bind h
        refine ao_scall trivial (scall (c_impl_SyncLog (is_mk r43h)) rfl Tryd.func20 rfl rfl rfl rfl (fun σ => ⟨ad_ren rfl, trivial⟩)) rfl ?_
        refine ao_read trivial (r_move rfl) rfl ?_
        refine ao_read trivial (r_extract rfl rfl) rfl ?_
        refine ao_read trivial (r_extract rfl rfl) rfl ?_
        refine ao_eff trivial (e_alloc 6 (y := .st [.str ByteArray.empty, .str ByteArray.empty, .int .i64 0]) Tryd.zeroValue27 (fun ρ h M => ra_zero_st (t := (.pair .str (.pair .str (.pair (.int .i64) .unit)))) rfl rfl rfl) rfl rfl rfl rfl rfl) rfl ?_
        refine ao_effS trivial (e_store rfl rfl rfl rfl Tryd.sizeOf27 rfl) ?_
        refine ao_read trivial (r_assign rfl) rfl ?_
        refine ao_nil ?_
        refine aq_then ?_
        refine aw_seq ?_
        refine aw_seq ?_
        refine aw_region ?_
        refine ao_read trivial (r_load_part (τ := (.pair .str (.pair .str (.pair (.int .i64) .unit)))) (y := ((r33.1.1, (r33.1.2.1, (r33.1.2.2.1, ()))) : (ByteArray × (ByteArray × (Int × Unit))))) [] [] rfl Tryd.isAgg27 Tryd.sizeOf27 rfl rfl rfl rfl) rfl ?_
        obtain ⟨r44, r44h, h⟩ := is_bind h
        refine ao_scall trivial (scall (c_spec_SyncLog (is_mk r44h)) rfl Tryd.func21 rfl rfl rfl rfl (fun σ => ⟨ad_ren rfl, trivial⟩)) rfl ?_
        refine ao_read trivial (r_move rfl) rfl ?_
        refine ao_read trivial (r_extract rfl rfl) rfl ?_
        refine ao_read trivial (r_extract rfl rfl) rfl ?_
        refine ao_eff trivial (e_alloc 7 (y := .st [.str ByteArray.empty, .str ByteArray.empty, .int .i64 0]) Tryd.zeroValue27 (fun ρ h M => ra_zero_st (t := (.pair .str (.pair .str (.pair (.int .i64) .unit)))) rfl rfl rfl) rfl rfl rfl rfl rfl) rfl ?_
        refine ao_effS trivial (e_store rfl rfl rfl rfl Tryd.sizeOf27 rfl) ?_
        refine ao_read trivial (r_assign rfl) rfl ?_
        refine ao_nil ?_
        refine aq_then ?_
        refine aw_seq ?_
        refine aw_region ?_
        refine ao_read trivial (r_load_part (τ := (.pair .str (.pair .str (.pair (.int .i64) .unit)))) (y := ((r43.1.1, (r43.1.2.1, (r43.1.2.2.1, ()))) : (ByteArray × (ByteArray × (Int × Unit))))) [] [] rfl Tryd.isAgg27 Tryd.sizeOf27 rfl rfl rfl rfl) rfl ?_
        refine ao_read trivial (r_load_part (τ := (.pair .str (.pair .str (.pair (.int .i64) .unit)))) (y := ((r44.1.1, (r44.1.2.1, (r44.1.2.2.1, ()))) : (ByteArray × (ByteArray × (Int × Unit))))) [] [] rfl Tryd.isAgg27 Tryd.sizeOf27 rfl rfl rfl rfl) rfl ?_
        refine ao_read trivial (r_eq_data (.pair .str (.pair .str (.pair (.int .i64) .unit))) 3 Tryd.underlying27 (by kernel_rfl) (by kernel_rfl) ⟨rfl, rfl, Tryd.isAgg9, Tryd.sizeOf9, (TEq.mono (n := 1) rfl (teq_str Tryd.underlying9)), ⟨rfl, rfl, Tryd.isAgg9, Tryd.sizeOf9, (TEq.mono (n := 1) rfl (teq_str Tryd.underlying9)), ⟨rfl, rfl, Tryd.isAgg3, Tryd.sizeOf3, (TEq.mono (n := 1) rfl (teq_int Tryd.underlying3)), trivial⟩⟩⟩ rfl rfl rfl rfl rfl) rfl ?_
        refine ao_read trivial (r_move rfl) rfl ?_
        refine ao_readG (x := .bool r43.2) rfl (GV.F rfl) (fun hg45 => r_move rfl) rfl ?_
        refine ao_readG (x := .bool r44.2) rfl (GV.F rfl) (fun hg46 => r_move rfl) rfl ?_
        refine ao_readG (x := .bool (r43.2 != r44.2)) rfl (GV.F rfl) (fun hg47 => Reads.strip 126 rfl (hg47) (Reads.strip 127 rfl (hg47) (r_neq_bool Tryd.underlying4 rfl rfl))) rfl ?_
        refine ao_read trivial (r_orB rfl rfl) rfl ?_
        refine ao_read trivial (r_move rfl) rfl ?_
        refine ao_readG (x := .bool r43.2) rfl (GV.F rfl) (fun hg48 => by
              obtain ⟨q49, q50⟩ := or_f (not_t hg48)
              exact r_move rfl) rfl ?_
        refine ao_readG (x := .v (.pair .str (.pair .str (.pair (.int .i64) .unit))) ((r33.1.1, (r33.1.2.1, (r33.1.2.2.1, ()))) : (ByteArray × (ByteArray × (Int × Unit))))) rfl (GV.F rfl) (fun hg51 => by
              obtain ⟨q52, q53⟩ := or_f (not_t hg51)
              exact r_load_part (τ := (.pair .str (.pair .str (.pair (.int .i64) .unit)))) (y := ((r33.1.1, (r33.1.2.1, (r33.1.2.2.1, ()))) : (ByteArray × (ByteArray × (Int × Unit))))) [] [] rfl Tryd.isAgg27 Tryd.sizeOf27 rfl rfl rfl rfl) rfl ?_
        obtain ⟨g57, h⟩ := is_guard h
        refine ao_scallG (r := .bool ((p_impl_IsValidLog fu (r33.1.1, (r33.1.2.1, (r33.1.2.2.1, ())))).getD false)) rfl (GV.F rfl) (fun hg54 => by
              obtain ⟨q55, q56⟩ := or_f (not_t hg54)
              exact SCall.strip 132 rfl (hg54) (scall (c_impl_IsValidLog (is_mk (isSome_getD (g57 hg54)))) rfl Tryd.func22 rfl rfl rfl rfl (fun σ => ⟨ad_ren rfl, trivial⟩))) rfl ?_
        refine ao_readG (x := .bool (r43.2 != ((p_impl_IsValidLog fu (r33.1.1, (r33.1.2.1, (r33.1.2.2.1, ())))).getD false))) rfl (GV.F rfl) (fun hg58 => by
              obtain ⟨q59, q60⟩ := or_f (not_t hg58)
              exact Reads.strip 131 rfl (hg58) (Reads.strip 133 rfl (hg58) (r_neq_bool Tryd.underlying4 rfl rfl))) rfl ?_
        refine ao_read trivial (r_orB rfl rfl) rfl ?_
        refine ao_nil ?_
        refine aq_then ?_
        refine aw_cond rfl (fun hb61 => ?_) (fun hb61 => ?_)
        · replace h := is_if hb61 h
          refine aw_seq ?_
          refine aw_region ?_
          refine ao_read trivial (r_assign rfl) rfl ?_
          refine ao_nil ?_
          refine aq_then ?_
          refine aw_ret ?_
          refine aq_then_ret ?_
          refine aq_ret ?_
          obtain rfl := is_some h
          exact aq_finx (l := [.tmp 2]) (xs := [.bool false]) idn [.bool false] [] rfl (by exact ⟨rfl, trivial⟩) (by exact ⟨ad_ren rfl, trivial⟩) (by exact trivial) rfl (nk rfl) rfl rfl ⟨rfl, rfl⟩
        · obtain ⟨q62, q63⟩ := or_f hb61
          obtain ⟨q64, q65⟩ := or_f q62
          replace h := is_else (ne_t hb61) h
          refine aw_skip ?_
          refine aq_then ?_
          refine aw_seq ?_
          refine aw_region ?_
          refine ao_read trivial (r_load_part (τ := (.pair .str (.pair .str (.pair (.int .i64) .unit)))) (y := ((r33.1.1, (r33.1.2.1, (r33.1.2.2.1, ()))) : (ByteArray × (ByteArray × (Int × Unit))))) [] [] rfl Tryd.isAgg27 Tryd.sizeOf27 rfl rfl rfl rfl) rfl ?_
          obtain ⟨r66, r66h, h⟩ := is_bind h
          refine ao_call [] 8 trivial (c_impl_LogRecords (is_mk r66h)) Tryd.func23 rfl rfl rfl rfl ⟨ad_ren rfl, trivial⟩ trivial rfl rfl rfl rfl rfl rfl rfl (fun r' H' hr => ?_)
          obtain ⟨rfl, rfl⟩ := hr
          refine ao_norm (y := .tup [.os 8, .bool r66.2]) (H' := [(7, .var [.cell (.str r44.1.1), .cell (.str r44.1.2.1), .cell (.int .i64 r44.1.2.2.1)]), (6, .var [.cell (.str r43.1.1), .cell (.str r43.1.2.1), .cell (.int .i64 r43.1.2.2.1)]), (5, .var [.cell (.str r35.1.1), .cell (.str r35.1.2.1), .cell (.int .i64 r35.1.2.2.1)]), (4, .var [.cell (.str r34.1.1), .cell (.str r34.1.2.1), .cell (.int .i64 r34.1.2.2.1)]), (3, .var [.cell (.str r33.2.1), .cell (.str r33.2.2.1)]), (2, .var [.cell (.str r33.1.1), .cell (.str r33.1.2.1), .cell (.int .i64 r33.1.2.2.1)]), (1, .var [.cell (.str r4.2.1), .cell (.str r4.2.2.1)]), (0, .var [.cell (.str r2.1), .cell (.str r2.2.1)]), (8, .row (.pair .str (.pair .str .unit)) r66.1)]) rfl rfl ?_
          refine row_len_o 8 (r66.1.length : Int) rfl rfl (fun hr67 => ?_)
          refine ao_read trivial (r_move rfl) rfl ?_
          refine ao_read trivial (r_extract rfl rfl) rfl ?_
          refine ao_read trivial (r_extract rfl rfl) rfl ?_
          refine ao_read trivial (r_assign rfl) rfl ?_
          refine ao_read trivial (r_assign rfl) rfl ?_
          refine ao_nil ?_
          refine aq_then ?_
          refine aw_seq ?_
          refine aw_seq ?_
          refine aw_region ?_
          refine ao_read trivial (r_load_part (τ := (.pair .str (.pair .str (.pair (.int .i64) .unit)))) (y := ((r33.1.1, (r33.1.2.1, (r33.1.2.2.1, ()))) : (ByteArray × (ByteArray × (Int × Unit))))) [] [] rfl Tryd.isAgg27 Tryd.sizeOf27 rfl rfl rfl rfl) rfl ?_
          obtain ⟨r68, r68h, h⟩ := is_bind h
          refine ao_call [] 9 trivial (c_spec_LogRecords (is_mk r68h)) Tryd.func24 rfl rfl rfl rfl ⟨ad_ren rfl, trivial⟩ trivial rfl rfl rfl rfl rfl rfl rfl (fun r' H' hr => ?_)
          obtain ⟨rfl, rfl⟩ := hr
          refine ao_norm (y := .tup [.os 9, .bool r68.2]) (H' := [(7, .var [.cell (.str r44.1.1), .cell (.str r44.1.2.1), .cell (.int .i64 r44.1.2.2.1)]), (6, .var [.cell (.str r43.1.1), .cell (.str r43.1.2.1), .cell (.int .i64 r43.1.2.2.1)]), (5, .var [.cell (.str r35.1.1), .cell (.str r35.1.2.1), .cell (.int .i64 r35.1.2.2.1)]), (4, .var [.cell (.str r34.1.1), .cell (.str r34.1.2.1), .cell (.int .i64 r34.1.2.2.1)]), (3, .var [.cell (.str r33.2.1), .cell (.str r33.2.2.1)]), (2, .var [.cell (.str r33.1.1), .cell (.str r33.1.2.1), .cell (.int .i64 r33.1.2.2.1)]), (1, .var [.cell (.str r4.2.1), .cell (.str r4.2.2.1)]), (0, .var [.cell (.str r2.1), .cell (.str r2.2.1)]), (8, .row (.pair .str (.pair .str .unit)) r66.1), (9, .row (.pair .str (.pair .str .unit)) r68.1)]) rfl rfl ?_
          refine row_len_o 9 (r68.1.length : Int) rfl rfl (fun hr69 => ?_)
          refine ao_read trivial (r_move rfl) rfl ?_
          refine ao_read trivial (r_extract rfl rfl) rfl ?_
          refine ao_read trivial (r_extract rfl rfl) rfl ?_
          refine ao_read trivial (r_assign rfl) rfl ?_
          refine ao_read trivial (r_assign rfl) rfl ?_
          refine ao_nil ?_
          refine aq_then ?_
          refine aw_seq ?_
          refine aw_region ?_
          refine ao_read trivial (r_move rfl) rfl ?_
          refine ao_read trivial (r_move rfl) rfl ?_
          refine ao_read trivial (r_neq_bool Tryd.underlying4 rfl rfl) rfl ?_
          refine ao_read trivial (r_move rfl) rfl ?_
          refine ao_readG (x := .bool r66.2) rfl (GV.F rfl) (fun hg70 => r_move rfl) rfl ?_
          refine ao_readG (x := .bool r43.2) rfl (GV.F rfl) (fun hg71 => r_move rfl) rfl ?_
          refine ao_readG (x := .bool (r66.2 != r43.2)) rfl (GV.F rfl) (fun hg72 => Reads.strip 150 rfl (hg72) (Reads.strip 151 rfl (hg72) (r_neq_bool Tryd.underlying4 rfl rfl))) rfl ?_
          refine ao_read trivial (r_orB rfl rfl) rfl ?_
          refine ao_read trivial (r_move rfl) rfl ?_
          refine ao_readG (x := .os 8) rfl (GV.F rfl) (fun hg73 => by
                obtain ⟨q74, q75⟩ := or_f (not_t hg73)
                exact r_move rfl) rfl ?_
          refine ao_readG (x := .os 9) rfl (GV.F rfl) (fun hg76 => by
                obtain ⟨q77, q78⟩ := or_f (not_t hg76)
                exact r_move rfl) rfl ?_
          refine ao_scallG (r := .bool (p_laws_rRecords r66.1 r68.1)) rfl (GV.F rfl) (fun hg79 => by
                obtain ⟨q80, q81⟩ := or_f (not_t hg79)
                exact SCall.strip 155 rfl (hg79) (SCall.strip 156 rfl (hg79) (scall (c_laws_rRecords (is_mk (rfl : p_laws_rRecords r66.1 r68.1 = _))) rfl Tryd.func25 rfl rfl rfl rfl (fun σ => ⟨ad_os0 rfl, ad_os0 rfl, trivial⟩)))) rfl ?_
          refine ao_readG (x := .bool (!(p_laws_rRecords r66.1 r68.1))) rfl (GV.F rfl) (fun hg82 => by
                obtain ⟨q83, q84⟩ := or_f (not_t hg82)
                exact Reads.strip 157 rfl (hg82) (r_not rfl)) rfl ?_
          refine ao_read trivial (r_orB rfl rfl) rfl ?_
          refine ao_nil ?_
          refine aq_then ?_
          refine aw_cond rfl (fun hb85 => ?_) (fun hb85 => ?_)
          · replace h := is_if hb85 h
            refine aw_seq ?_
            refine aw_region ?_
            refine ao_read trivial (r_assign rfl) rfl ?_
            refine ao_nil ?_
            refine aq_then ?_
            refine aw_ret ?_
            refine aq_then_ret ?_
            refine aq_ret ?_
            obtain rfl := is_some h
            exact aq_finx (l := [.tmp 2]) (xs := [.bool false]) idn [.bool false] [] rfl (by exact ⟨rfl, trivial⟩) (by exact ⟨ad_ren rfl, trivial⟩) (by exact trivial) rfl (nk rfl) rfl rfl ⟨rfl, rfl⟩
          · obtain ⟨q86, q87⟩ := or_f hb85
            obtain ⟨q88, q89⟩ := or_f q86
            replace h := is_else (ne_t hb85) h
            refine aw_skip ?_
            refine aq_then ?_
            refine aw_seq ?_
            refine aw_region ?_
            refine ao_read trivial (r_move rfl) rfl ?_
            obtain ⟨r90, r90h, h⟩ := is_bind h
            refine ao_callV [] 10 trivial (c_laws_rCut (is_mk r90h)) Tryd.func12 rfl rfl rfl rfl rfl trivial trivial rfl rfl rfl rfl rfl rfl rfl (fun r' H' hr => ?_)
            obtain ⟨rfl, rfl⟩ := hr
            refine ao_norm (y := .v (.slice (.int .u8)) r90) (H' := [(7, .var [.cell (.str r44.1.1), .cell (.str r44.1.2.1), .cell (.int .i64 r44.1.2.2.1)]), (6, .var [.cell (.str r43.1.1), .cell (.str r43.1.2.1), .cell (.int .i64 r43.1.2.2.1)]), (5, .var [.cell (.str r35.1.1), .cell (.str r35.1.2.1), .cell (.int .i64 r35.1.2.2.1)]), (4, .var [.cell (.str r34.1.1), .cell (.str r34.1.2.1), .cell (.int .i64 r34.1.2.2.1)]), (3, .var [.cell (.str r33.2.1), .cell (.str r33.2.2.1)]), (2, .var [.cell (.str r33.1.1), .cell (.str r33.1.2.1), .cell (.int .i64 r33.1.2.2.1)]), (1, .var [.cell (.str r4.2.1), .cell (.str r4.2.2.1)]), (0, .var [.cell (.str r2.1), .cell (.str r2.2.1)]), (8, .row (.pair .str (.pair .str .unit)) r66.1), (9, .row (.pair .str (.pair .str .unit)) r68.1)]) rfl rfl ?_
            obtain ⟨r91, r91h, h⟩ := is_bind h
            refine ao_scall trivial (scall (c_spec_DrawCrashLog (is_mk r91h)) rfl Tryd.func26 rfl rfl rfl rfl (fun σ => ⟨ad_ren rfl, trivial⟩)) rfl ?_
            refine ao_read trivial (r_move rfl) rfl ?_
            refine ao_read trivial (r_extract rfl rfl) rfl ?_
            refine ao_read trivial (r_extract rfl rfl) rfl ?_
            refine ao_read trivial (r_extract rfl rfl) rfl ?_
            refine ao_eff trivial (e_alloc 10 (y := .st [.str ByteArray.empty, .str ByteArray.empty, .int .i64 0]) Tryd.zeroValue27 (fun ρ h M => ra_zero_st (t := (.pair .str (.pair .str (.pair (.int .i64) .unit)))) rfl rfl rfl) rfl rfl rfl rfl rfl) rfl ?_
            refine ao_effS trivial (e_store rfl rfl rfl rfl Tryd.sizeOf27 rfl) ?_
            refine ao_read trivial (r_assign rfl) rfl ?_
            refine ao_read trivial (r_assign rfl) rfl ?_
            refine ao_nil ?_
            refine aq_then ?_
            refine aw_seq ?_
            refine aw_region ?_
            refine ao_read trivial (r_load_part (τ := (.pair .str (.pair .str (.pair (.int .i64) .unit)))) (y := ((r91.1.1, (r91.1.2.1, (r91.1.2.2.1, ()))) : (ByteArray × (ByteArray × (Int × Unit))))) [] [] rfl Tryd.isAgg27 Tryd.sizeOf27 rfl rfl rfl rfl) rfl ?_
            refine ao_read trivial (r_move rfl) rfl ?_
            refine ao_read trivial (r_move rfl) rfl ?_
            obtain ⟨r92, r92h, h⟩ := is_bind h
            refine ao_scall trivial (scall (c_impl_CrashLog (is_mk r92h)) rfl Tryd.func8 rfl rfl rfl rfl (fun σ => ⟨ad_ren rfl, ad_ren rfl, ad_ren rfl, trivial⟩)) rfl ?_
            refine ao_read trivial (r_move rfl) rfl ?_
            refine ao_read trivial (r_extract rfl rfl) rfl ?_
            refine ao_read trivial (r_extract rfl rfl) rfl ?_
            refine ao_read trivial (r_assign rfl) rfl ?_
            refine ao_read trivial (r_assign rfl) rfl ?_
            refine ao_nil ?_
            refine aq_then ?_
            refine aw_seq ?_
            refine aw_seq ?_
            refine aw_region ?_
            refine ao_read trivial (r_load_part (τ := (.pair .str (.pair .str (.pair (.int .i64) .unit)))) (y := ((r91.1.1, (r91.1.2.1, (r91.1.2.2.1, ()))) : (ByteArray × (ByteArray × (Int × Unit))))) [] [] rfl Tryd.isAgg27 Tryd.sizeOf27 rfl rfl rfl rfl) rfl ?_
            refine ao_read trivial (r_move rfl) rfl ?_
            refine ao_read trivial (r_move rfl) rfl ?_
            obtain ⟨r93, r93h, h⟩ := is_bind h
            refine ao_scall trivial (scall (c_spec_CrashLog (is_mk r93h)) rfl Tryd.func6 rfl rfl rfl rfl (fun σ => ⟨ad_ren rfl, ad_ren rfl, ad_ren rfl, trivial⟩)) rfl ?_
            refine ao_read trivial (r_move rfl) rfl ?_
            refine ao_read trivial (r_extract rfl rfl) rfl ?_
            refine ao_read trivial (r_extract rfl rfl) rfl ?_
            refine ao_read trivial (r_assign rfl) rfl ?_
            refine ao_read trivial (r_assign rfl) rfl ?_
            refine ao_nil ?_
            refine aq_then ?_
            refine aw_seq ?_
            refine aw_region ?_
            refine ao_read trivial (r_move rfl) rfl ?_
            refine ao_read trivial (r_move rfl) rfl ?_
            refine ao_read trivial (r_neq_str rfl rfl) rfl ?_
            refine ao_read trivial (r_move rfl) rfl ?_
            refine ao_readG (x := .bool r92.2) rfl (GV.F rfl) (fun hg94 => r_move rfl) rfl ?_
            refine ao_readG (x := .bool r93.2) rfl (GV.F rfl) (fun hg95 => r_move rfl) rfl ?_
            refine ao_readG (x := .bool (r92.2 != r93.2)) rfl (GV.F rfl) (fun hg96 => Reads.strip 185 rfl (hg96) (Reads.strip 186 rfl (hg96) (r_neq_bool Tryd.underlying4 rfl rfl))) rfl ?_
            refine ao_read trivial (r_orB rfl rfl) rfl ?_
            refine ao_nil ?_
            refine aq_then ?_
            refine aw_cond rfl (fun hb97 => ?_) (fun hb97 => ?_)
            · replace h := is_if hb97 h
              refine aw_seq ?_
              refine aw_region ?_
              refine ao_read trivial (r_assign rfl) rfl ?_
              refine ao_nil ?_
              refine aq_then ?_
              refine aw_ret ?_
              refine aq_then_ret ?_
              refine aq_ret ?_
              obtain rfl := is_some h
              exact aq_finx (l := [.tmp 2]) (xs := [.bool false]) idn [.bool false] [] rfl (by exact ⟨rfl, trivial⟩) (by exact ⟨ad_ren rfl, trivial⟩) (by exact trivial) rfl (nk rfl) rfl rfl ⟨rfl, rfl⟩
            · obtain ⟨q98, q99⟩ := or_f hb97
              replace h := is_else (ne_t hb97) h
              refine aw_skip ?_
              refine aq_then ?_
              refine aw_seq ?_
              refine aw_region ?_
              refine ao_read trivial (r_move rfl) rfl ?_
              obtain ⟨r100, r100h, h⟩ := is_bind h
              refine ao_callV [] 11 trivial (c_laws_rCut (is_mk r100h)) Tryd.func12 rfl rfl rfl rfl rfl trivial trivial rfl rfl rfl rfl rfl rfl rfl (fun r' H' hr => ?_)
              obtain ⟨rfl, rfl⟩ := hr
              refine ao_norm (y := .v (.slice (.int .u8)) r100) (H' := [(10, .var [.cell (.str r91.1.1), .cell (.str r91.1.2.1), .cell (.int .i64 r91.1.2.2.1)]), (7, .var [.cell (.str r44.1.1), .cell (.str r44.1.2.1), .cell (.int .i64 r44.1.2.2.1)]), (6, .var [.cell (.str r43.1.1), .cell (.str r43.1.2.1), .cell (.int .i64 r43.1.2.2.1)]), (5, .var [.cell (.str r35.1.1), .cell (.str r35.1.2.1), .cell (.int .i64 r35.1.2.2.1)]), (4, .var [.cell (.str r34.1.1), .cell (.str r34.1.2.1), .cell (.int .i64 r34.1.2.2.1)]), (3, .var [.cell (.str r33.2.1), .cell (.str r33.2.2.1)]), (2, .var [.cell (.str r33.1.1), .cell (.str r33.1.2.1), .cell (.int .i64 r33.1.2.2.1)]), (1, .var [.cell (.str r4.2.1), .cell (.str r4.2.2.1)]), (0, .var [.cell (.str r2.1), .cell (.str r2.2.1)]), (8, .row (.pair .str (.pair .str .unit)) r66.1), (9, .row (.pair .str (.pair .str .unit)) r68.1)]) rfl rfl ?_
              obtain ⟨r101, r101h, h⟩ := is_bind h
              refine ao_scall trivial (scall (c_spec_DrawRecoverLog (is_mk r101h)) rfl Tryd.func27 rfl rfl rfl rfl (fun σ => ⟨ad_ren rfl, trivial⟩)) rfl ?_
              refine ao_read trivial (r_assign rfl) rfl ?_
              refine ao_nil ?_
              refine aq_then ?_
              refine aw_seq ?_
              refine aw_region ?_
              refine ao_read trivial (r_move rfl) rfl ?_
              obtain ⟨r102, r102h, h⟩ := is_bind h
              refine ao_scall trivial (scall (c_impl_RecoverLog (is_mk r102h)) rfl Tryd.func28 rfl rfl rfl rfl (fun σ => ⟨ad_ren rfl, trivial⟩)) rfl ?_
              refine ao_read trivial (r_move rfl) rfl ?_
              refine ao_read trivial (r_extract rfl rfl) rfl ?_
              refine ao_read trivial (r_extract rfl rfl) rfl ?_
              refine ao_read trivial (r_extract rfl rfl) rfl ?_
              refine ao_eff trivial (e_alloc 11 (y := .st [.str ByteArray.empty, .str ByteArray.empty, .int .i64 0]) Tryd.zeroValue27 (fun ρ h M => ra_zero_st (t := (.pair .str (.pair .str (.pair (.int .i64) .unit)))) rfl rfl rfl) rfl rfl rfl rfl rfl) rfl ?_
              refine ao_effS trivial (e_store rfl rfl rfl rfl Tryd.sizeOf27 rfl) ?_
              refine ao_read trivial (r_assign rfl) rfl ?_
              refine ao_read trivial (r_assign rfl) rfl ?_
              refine ao_nil ?_
              refine aq_then ?_
              refine aw_seq ?_
              refine aw_seq ?_
              refine aw_region ?_
              refine ao_read trivial (r_move rfl) rfl ?_
              obtain ⟨r103, r103h, h⟩ := is_bind h
              refine ao_scall trivial (scall (c_spec_RecoverLog (is_mk r103h)) rfl Tryd.func29 rfl rfl rfl rfl (fun σ => ⟨ad_ren rfl, trivial⟩)) rfl ?_
              refine ao_read trivial (r_move rfl) rfl ?_
              refine ao_read trivial (r_extract rfl rfl) rfl ?_
              refine ao_read trivial (r_extract rfl rfl) rfl ?_
              refine ao_read trivial (r_extract rfl rfl) rfl ?_
              refine ao_eff trivial (e_alloc 12 (y := .st [.str ByteArray.empty, .str ByteArray.empty, .int .i64 0]) Tryd.zeroValue27 (fun ρ h M => ra_zero_st (t := (.pair .str (.pair .str (.pair (.int .i64) .unit)))) rfl rfl rfl) rfl rfl rfl rfl rfl) rfl ?_
              refine ao_effS trivial (e_store rfl rfl rfl rfl Tryd.sizeOf27 rfl) ?_
              refine ao_read trivial (r_assign rfl) rfl ?_
              refine ao_read trivial (r_assign rfl) rfl ?_
              refine ao_nil ?_
              refine aq_then ?_
              refine aw_seq ?_
              refine aw_region ?_
              refine ao_read trivial (r_load_part (τ := (.pair .str (.pair .str (.pair (.int .i64) .unit)))) (y := ((r102.1.1, (r102.1.2.1, (r102.1.2.2.1, ()))) : (ByteArray × (ByteArray × (Int × Unit))))) [] [] rfl Tryd.isAgg27 Tryd.sizeOf27 rfl rfl rfl rfl) rfl ?_
              refine ao_read trivial (r_load_part (τ := (.pair .str (.pair .str (.pair (.int .i64) .unit)))) (y := ((r103.1.1, (r103.1.2.1, (r103.1.2.2.1, ()))) : (ByteArray × (ByteArray × (Int × Unit))))) [] [] rfl Tryd.isAgg27 Tryd.sizeOf27 rfl rfl rfl rfl) rfl ?_
              refine ao_read trivial (r_eq_data (.pair .str (.pair .str (.pair (.int .i64) .unit))) 3 Tryd.underlying27 (by kernel_rfl) (by kernel_rfl) ⟨rfl, rfl, Tryd.isAgg9, Tryd.sizeOf9, (TEq.mono (n := 1) rfl (teq_str Tryd.underlying9)), ⟨rfl, rfl, Tryd.isAgg9, Tryd.sizeOf9, (TEq.mono (n := 1) rfl (teq_str Tryd.underlying9)), ⟨rfl, rfl, Tryd.isAgg3, Tryd.sizeOf3, (TEq.mono (n := 1) rfl (teq_int Tryd.underlying3)), trivial⟩⟩⟩ rfl rfl rfl rfl rfl) rfl ?_
              refine ao_read trivial (r_move rfl) rfl ?_
              refine ao_readG (x := .int .i64 r102.2.1) rfl (GV.F rfl) (fun hg104 => r_move rfl) rfl ?_
              refine ao_readG (x := .int .i64 r103.2.1) rfl (GV.F rfl) (fun hg105 => r_move rfl) rfl ?_
              refine ao_readG (x := .bool (!(decide (r102.2.1 = r103.2.1)))) rfl (GV.F rfl) (fun hg106 => Reads.strip 208 rfl (hg106) (Reads.strip 209 rfl (hg106) (r_neq rfl rfl))) rfl ?_
              refine ao_read trivial (r_orB rfl rfl) rfl ?_
              refine ao_read trivial (r_move rfl) rfl ?_
              refine ao_readG (x := .bool r102.2.2) rfl (GV.F rfl) (fun hg107 => by
                    obtain ⟨q108, q109⟩ := or_f (not_t hg107)
                    have q110 := d_t (not_f q109)
                    exact r_move rfl) rfl ?_
              refine ao_readG (x := .bool r103.2.2) rfl (GV.F rfl) (fun hg111 => by
                    obtain ⟨q112, q113⟩ := or_f (not_t hg111)
                    have q114 := d_t (not_f q113)
                    exact r_move rfl) rfl ?_
              refine ao_readG (x := .bool (r102.2.2 != r103.2.2)) rfl (GV.F rfl) (fun hg115 => by
                    obtain ⟨q116, q117⟩ := or_f (not_t hg115)
                    have q118 := d_t (not_f q117)
                    exact Reads.strip 213 rfl (hg115) (Reads.strip 214 rfl (hg115) (r_neq_bool Tryd.underlying4 rfl rfl))) rfl ?_
              refine ao_read trivial (r_orB rfl rfl) rfl ?_
              refine ao_nil ?_
              refine aq_then ?_
              refine aw_cond rfl (fun hb119 => ?_) (fun hb119 => ?_)
              · replace h := is_if hb119 h
                refine aw_seq ?_
                refine aw_region ?_
                refine ao_read trivial (r_assign rfl) rfl ?_
                refine ao_nil ?_
                refine aq_then ?_
                refine aw_ret ?_
                refine aq_then_ret ?_
                refine aq_ret ?_
                obtain rfl := is_some h
                exact aq_finx (l := [.tmp 2]) (xs := [.bool false]) idn [.bool false] [] rfl (by exact ⟨rfl, trivial⟩) (by exact ⟨ad_ren rfl, trivial⟩) (by exact trivial) rfl (nk rfl) rfl rfl ⟨rfl, rfl⟩
              · obtain ⟨q120, q121⟩ := or_f hb119
                obtain ⟨q122, q123⟩ := or_f q120
                have q124 := d_t (not_f q123)
                replace h := is_else (ne_t hb119) h
                refine aw_skip ?_
                refine aq_then ?_
                refine aw_seq ?_
                refine aw_seq ?_
                obtain ⟨g127, h⟩ := is_guard h
                obtain ⟨g139, h⟩ := is_guard h
                obtain ⟨g140, h⟩ := is_guard h
                refine aw_drawAll (by kernel_rfl) ?_
                refine an_read 0 (by kernel_rfl) (fun _ _ _ h => h) rfl (by kernel_rfl) trivial (r_move rfl) rfl ?_
                refine an_read 1 (by kernel_rfl) (fun _ _ _ h => h) rfl (by kernel_rfl) trivial (r_move rfl) rfl ?_
                refine an_readG 2 (x := .v (.pair .str (.pair .str (.pair (.int .i64) .unit))) ((r102.1.1, (r102.1.2.1, (r102.1.2.2.1, ()))) : (ByteArray × (ByteArray × (Int × Unit))))) (by kernel_rfl) (fun _ _ _ h => h) rfl (by kernel_rfl) rfl (GV.T rfl) (fun hg125 => r_load_part (τ := (.pair .str (.pair .str (.pair (.int .i64) .unit)))) (y := ((r102.1.1, (r102.1.2.1, (r102.1.2.2.1, ()))) : (ByteArray × (ByteArray × (Int × Unit))))) [] [] rfl Tryd.isAgg27 Tryd.sizeOf27 rfl rfl rfl rfl) rfl ?_
                refine an_scallG 3 (x := .bool ((p_impl_IsValidLog fu (r102.1.1, (r102.1.2.1, (r102.1.2.2.1, ())))).getD false)) (by kernel_rfl) (fun _ _ _ h => h) rfl (by kernel_rfl) rfl (GV.T rfl) (fun hg126 => SCall.strip 219 rfl (hg126) (scall (c_impl_IsValidLog (is_mk (isSome_getD (g127 hg126)))) rfl Tryd.func22 rfl rfl rfl rfl (fun σ => ⟨ad_ren rfl, trivial⟩))) rfl ?_
                refine an_readG 4 (x := .bool (!((p_impl_IsValidLog fu (r102.1.1, (r102.1.2.1, (r102.1.2.2.1, ())))).getD false))) (by kernel_rfl) (fun _ _ _ h => h) rfl (by kernel_rfl) rfl (GV.T rfl) (fun hg128 => Reads.strip 220 rfl (hg128) (r_not rfl)) rfl ?_
                refine an_readG 5 (x := .bool (!((p_impl_IsValidLog fu (r102.1.1, (r102.1.2.1, (r102.1.2.2.1, ())))).getD false))) (by kernel_rfl) (fun _ _ _ h => h) rfl (by kernel_rfl) rfl (GV.T rfl) (fun hg129 => Reads.strip 221 rfl (hg129) (r_move rfl)) rfl ?_
                refine an_readG 6 (x := .str r101) (by kernel_rfl) (fun _ _ _ h => h) rfl (by kernel_rfl) rfl (GV.gF rfl) (fun hg130 => by
                      obtain ⟨q131, q132⟩ := and_t hg130
                      exact r_move rfl) rfl ?_
                refine an_readG 7 (x := .int .i64 r102.2.1) (by kernel_rfl) (fun _ _ _ h => h) rfl (by kernel_rfl) rfl (GV.gF rfl) (fun hg133 => by
                      obtain ⟨q134, q135⟩ := and_t hg133
                      exact r_move rfl) rfl ?_
                refine an_readG 8 (x := .str (r101.extract 0 r102.2.1.toNat)) (by kernel_rfl) (fun _ _ _ h => h) rfl (by kernel_rfl) rfl (GV.gF rfl) (fun hg136 => by
                      have g139a := g139 hg136
                      have g140a := g140 hg136
                      obtain ⟨q137, q138⟩ := and_t hg136
                      exact Reads.strip 223 rfl (hg136) (Reads.strip 224 rfl (hg136) (r_slice_str Tryd.underlying9 rfl .none (.some rfl) (show 0 ≤ 0 from by omega) (show 0 ≤ r102.2.1 from by omega) (show r102.2.1 ≤ (r101.size : Int) from by omega)))) rfl ?_
                refine an_readG 9 (x := .ref 11 0) (by kernel_rfl) (fun _ _ _ h => h) rfl (by kernel_rfl) rfl (GV.gF rfl) (fun hg141 => by
                      obtain ⟨q142, q143⟩ := and_t hg141
                      have w144 := g139 (hg141)
                      have w145 := g140 (hg141)
                      exact r_fieldAddr Tryd.underlying27 rfl Tryd.sizeOf9 rfl rfl rfl) rfl ?_
                refine an_readG 10 (x := .str r102.1.1) (by kernel_rfl) (fun _ _ _ h => h) rfl (by kernel_rfl) rfl (GV.gF rfl) (fun hg146 => by
                      obtain ⟨q147, q148⟩ := and_t hg146
                      have w149 := g139 (hg146)
                      have w150 := g140 (hg146)
                      exact Reads.strip 226 rfl (hg146) (r_load_cell Tryd.isAgg9 rfl rfl rfl)) rfl ?_
                refine an_readG 11 (x := .bool (!(eqS (r101.extract 0 r102.2.1.toNat) r102.1.1))) (by kernel_rfl) (fun _ _ _ h => h) rfl (by kernel_rfl) rfl (GV.gF rfl) (fun hg151 => by
                      obtain ⟨q152, q153⟩ := and_t hg151
                      have w154 := g139 (hg151)
                      have w155 := g140 (hg151)
                      exact Reads.strip 225 rfl (hg151) (Reads.strip 227 rfl (hg151) (r_neq_str rfl rfl))) rfl ?_
                refine an_readG 12 (x := .bool ((!((p_impl_IsValidLog fu (r102.1.1, (r102.1.2.1, (r102.1.2.2.1, ())))).getD false)) || (!(eqS (r101.extract 0 r102.2.1.toNat) r102.1.1)))) (by kernel_rfl) (fun _ _ _ h => h) rfl (by kernel_rfl) rfl (GV.T rfl) (fun hg156 => Reads.strip 222 rfl (hg156) (r_orBg rfl rfl (tr_and (hg156)))) rfl ?_
                refine an_readG 13 (x := .bool ((!((p_impl_IsValidLog fu (r102.1.1, (r102.1.2.1, (r102.1.2.2.1, ())))).getD false)) || (!(eqS (r101.extract 0 r102.2.1.toNat) r102.1.1)))) (by kernel_rfl) (fun _ _ _ h => h) rfl (by kernel_rfl) rfl (GV.T rfl) (fun hg157 => Reads.strip 229 rfl (hg157) (r_move rfl)) rfl ?_
                refine an_readG 14 (x := .ref 11 1) (by kernel_rfl) (fun _ _ _ h => h) rfl (by kernel_rfl) rfl (GV.gF rfl) (fun hg158 => by
                      obtain ⟨q159, q160⟩ := and_t hg158
                      obtain ⟨q161, q162⟩ := or_f (not_t q160)
                      exact r_fieldAddr Tryd.underlying27 rfl Tryd.sizeOf9 rfl rfl rfl) rfl ?_
                refine an_readG 15 (x := .str r102.1.2.1) (by kernel_rfl) (fun _ _ _ h => h) rfl (by kernel_rfl) rfl (GV.gF rfl) (fun hg163 => by
                      obtain ⟨q164, q165⟩ := and_t hg163
                      obtain ⟨q166, q167⟩ := or_f (not_t q165)
                      exact Reads.strip 231 rfl (hg163) (r_load_cell Tryd.isAgg9 rfl rfl rfl)) rfl ?_
                refine an_readG 16 (x := .bool (!(eqS r102.1.2.1 (ByteArray.mk #[])))) (by kernel_rfl) (fun _ _ _ h => h) rfl (by kernel_rfl) rfl (GV.gF rfl) (fun hg168 => by
                      obtain ⟨q169, q170⟩ := and_t hg168
                      obtain ⟨q171, q172⟩ := or_f (not_t q170)
                      exact Reads.strip 232 rfl (hg168) (r_neq_str rfl rfl)) rfl ?_
                refine an_readG 17 (x := .bool (((!((p_impl_IsValidLog fu (r102.1.1, (r102.1.2.1, (r102.1.2.2.1, ())))).getD false)) || (!(eqS (r101.extract 0 r102.2.1.toNat) r102.1.1))) || (!(eqS r102.1.2.1 (ByteArray.mk #[]))))) (by kernel_rfl) (fun _ _ _ h => h) rfl (by kernel_rfl) rfl (GV.T rfl) (fun hg173 => Reads.strip 230 rfl (hg173) (r_orBg rfl rfl (tr_and (hg173)))) rfl ?_
                refine an_read 18 (by kernel_rfl) (fun _ _ _ h => h) rfl (by kernel_rfl) trivial (r_andB rfl rfl) rfl ?_
                refine an_done rfl ?_
                refine aq_then ?_
                refine aw_cond rfl (fun hb174 => ?_) (fun hb174 => ?_)
                · obtain ⟨q175, q176⟩ := and_t hb174
                  replace h := is_if hb174 h
                  refine aw_seq ?_
                  refine aw_region ?_
                  refine ao_read trivial (r_assign rfl) rfl ?_
                  refine ao_nil ?_
                  refine aq_then ?_
                  refine aw_ret ?_
                  refine aq_then_ret ?_
                  refine aq_ret ?_
                  obtain rfl := is_some h
                  exact aq_finx (l := [.tmp 2]) (xs := [.bool false]) idn [.bool false] [] rfl (by exact ⟨rfl, trivial⟩) (by exact ⟨ad_ren rfl, trivial⟩) (by exact trivial) rfl (nk rfl) rfl rfl ⟨rfl, rfl⟩
                · replace h := is_else (ne_t hb174) h
                  refine aw_skip ?_
                  refine aq_then ?_
                  refine aw_join (fun (s177 : Unit) => [(10, .ref 0 0), (11, .ref 1 0), (12, .ref 2 0), (13, .int .i64 r34.2), (16, .ref 3 0), (17, .bool r43.2), (20, .os 4)]) (fun (s177 : Unit) => [(0, .var [.cell (.str r33.1.1), .cell (.str r33.1.2.1), .cell (.int .i64 r33.1.2.2.1)]), (1, .var [.cell (.str r33.2.1), .cell (.str r33.2.2.1)]), (2, .var [.cell (.str r34.1.1), .cell (.str r34.1.2.1), .cell (.int .i64 r34.1.2.2.1)]), (3, .var [.cell (.str r43.1.1), .cell (.str r43.1.2.1), .cell (.int .i64 r43.1.2.2.1)]), (4, .row (.pair .str (.pair .str .unit)) r66.1)]) (fun (s177 : Unit) => True) h (fun s177 hI h => ?_) (fun h j179 => ?_)
                  · refine aw_join (fun (s180 : Unit) => [(10, .ref 0 0), (11, .ref 1 0), (12, .ref 2 0), (13, .int .i64 r34.2), (20, .os 3)]) (fun (s180 : Unit) => [(0, .var [.cell (.str r33.1.1), .cell (.str r33.1.2.1), .cell (.int .i64 r33.1.2.2.1)]), (1, .var [.cell (.str r33.2.1), .cell (.str r33.2.2.1)]), (2, .var [.cell (.str r34.1.1), .cell (.str r34.1.2.1), .cell (.int .i64 r34.1.2.2.1)]), (3, .row (.pair .str (.pair .str .unit)) r66.1)]) (fun (s180 : Unit) => True) h (fun s180 hI h => ?_) (fun h j182 => ?_)
                    · refine aw_seq ?_
                      refine aw_seq ?_
                      refine aw_region ?_
                      refine ao_read trivial (r_move rfl) rfl ?_
                      refine ao_read trivial (r_neq rfl rfl) rfl ?_
                      refine ao_nil ?_
                      refine aq_then ?_
                      refine aw_cond rfl (fun hb183 => ?_) (fun hb183 => ?_)
                      · have q184 := d_f (not_t hb183)
                        replace h := is_else (d_f (not_t hb183)) h
                        refine aw_seq ?_
                        refine aw_region ?_
                        refine ao_read trivial (r_load_part (τ := (.pair .str (.pair .str (.pair (.int .i64) .unit)))) (y := ((r34.1.1, (r34.1.2.1, (r34.1.2.2.1, ()))) : (ByteArray × (ByteArray × (Int × Unit))))) [] [] rfl Tryd.isAgg27 Tryd.sizeOf27 rfl rfl rfl rfl) rfl ?_
                        refine ao_read trivial (r_load_part (τ := (.pair .str (.pair .str (.pair (.int .i64) .unit)))) (y := ((r33.1.1, (r33.1.2.1, (r33.1.2.2.1, ()))) : (ByteArray × (ByteArray × (Int × Unit))))) [] [] rfl Tryd.isAgg27 Tryd.sizeOf27 rfl rfl rfl rfl) rfl ?_
                        refine ao_read trivial (r_eq_data (.pair .str (.pair .str (.pair (.int .i64) .unit))) 3 Tryd.underlying27 (by kernel_rfl) (by kernel_rfl) ⟨rfl, rfl, Tryd.isAgg9, Tryd.sizeOf9, (TEq.mono (n := 1) rfl (teq_str Tryd.underlying9)), ⟨rfl, rfl, Tryd.isAgg9, Tryd.sizeOf9, (TEq.mono (n := 1) rfl (teq_str Tryd.underlying9)), ⟨rfl, rfl, Tryd.isAgg3, Tryd.sizeOf3, (TEq.mono (n := 1) rfl (teq_int Tryd.underlying3)), trivial⟩⟩⟩ rfl rfl rfl rfl rfl) rfl ?_
                        refine ao_read trivial (r_assign rfl) rfl ?_
                        refine ao_nil ?_
                        refine aq_then ?_
                        refine aw_ret ?_
                        refine aq_then_ret ?_
                        refine aq_ret ?_
                        obtain rfl := is_some h
                        exact aq_finx (l := [.tmp 2]) (xs := [.bool (eqT (.pair .str (.pair .str (.pair (.int .i64) .unit))) ((r34.1.1, (r34.1.2.1, (r34.1.2.2.1, ()))) : (ByteArray × (ByteArray × (Int × Unit)))) ((r33.1.1, (r33.1.2.1, (r33.1.2.2.1, ()))) : (ByteArray × (ByteArray × (Int × Unit)))))]) idn [.bool (eqT (.pair .str (.pair .str (.pair (.int .i64) .unit))) ((r34.1.1, (r34.1.2.1, (r34.1.2.2.1, ()))) : (ByteArray × (ByteArray × (Int × Unit)))) ((r33.1.1, (r33.1.2.1, (r33.1.2.2.1, ()))) : (ByteArray × (ByteArray × (Int × Unit)))))] [] rfl (by exact ⟨rfl, trivial⟩) (by exact ⟨ad_ren rfl, trivial⟩) (by exact trivial) rfl (nk rfl) rfl rfl ⟨rfl, rfl⟩
                      · have q185 := d_t (not_f hb183)
                        replace h := is_if (d_t (not_f hb183)) h
                        refine aw_skip ?_
                        refine aq_then ?_
                        refine aw_seq ?_
                        refine aw_region ?_
                        refine ao_read trivial (r_load_part (τ := (.pair .str (.pair .str (.pair (.int .i64) .unit)))) (y := ((r34.1.1, (r34.1.2.1, (r34.1.2.2.1, ()))) : (ByteArray × (ByteArray × (Int × Unit))))) [] [] rfl Tryd.isAgg27 Tryd.sizeOf27 rfl rfl rfl rfl) rfl ?_
                        obtain ⟨r186, r186h, h⟩ := is_bind h
                        refine ao_call [] 4 trivial (c_impl_LogRecords (is_mk r186h)) Tryd.func23 rfl rfl rfl rfl ⟨ad_ren rfl, trivial⟩ trivial rfl rfl rfl rfl rfl rfl rfl (fun r' H' hr => ?_)
                        obtain ⟨rfl, rfl⟩ := hr
                        refine ao_norm (y := .tup [.os 4, .bool r186.2]) (H' := [(0, .var [.cell (.str r33.1.1), .cell (.str r33.1.2.1), .cell (.int .i64 r33.1.2.2.1)]), (1, .var [.cell (.str r33.2.1), .cell (.str r33.2.2.1)]), (2, .var [.cell (.str r34.1.1), .cell (.str r34.1.2.1), .cell (.int .i64 r34.1.2.2.1)]), (3, .row (.pair .str (.pair .str .unit)) r66.1), (4, .row (.pair .str (.pair .str .unit)) r186.1)]) rfl rfl ?_
                        refine row_len_o 4 (r186.1.length : Int) rfl rfl (fun hr187 => ?_)
                        refine ao_read trivial (r_move rfl) rfl ?_
                        refine ao_read trivial (r_extract rfl rfl) rfl ?_
                        refine ao_read trivial (r_extract rfl rfl) rfl ?_
                        refine ao_read trivial (r_assign rfl) rfl ?_
                        refine ao_read trivial (r_assign rfl) rfl ?_
                        refine ao_nil ?_
                        refine aq_then ?_
                        refine aw_seq ?_
                        obtain ⟨g190, h⟩ := is_guard h
                        obtain ⟨g233, h⟩ := is_guard h
                        obtain ⟨g284, h⟩ := is_guard h
                        refine aw_drawAll (by kernel_rfl) ?_
                        refine an_read 0 (by kernel_rfl) (fun _ _ _ h => h) rfl (by kernel_rfl) trivial (r_move rfl) rfl ?_
                        refine an_read 1 (by kernel_rfl) (fun _ _ _ h => h) rfl (by kernel_rfl) trivial (r_move rfl) rfl ?_
                        refine an_readG 2 (x := .v (.pair .str (.pair .str (.pair (.int .i64) .unit))) ((r34.1.1, (r34.1.2.1, (r34.1.2.2.1, ()))) : (ByteArray × (ByteArray × (Int × Unit))))) (by kernel_rfl) (fun _ _ _ h => h) rfl (by kernel_rfl) rfl (GV.T rfl) (fun hg188 => r_load_part (τ := (.pair .str (.pair .str (.pair (.int .i64) .unit)))) (y := ((r34.1.1, (r34.1.2.1, (r34.1.2.2.1, ()))) : (ByteArray × (ByteArray × (Int × Unit))))) [] [] rfl Tryd.isAgg27 Tryd.sizeOf27 rfl rfl rfl rfl) rfl ?_
                        refine an_scallG 3 (x := .bool ((p_impl_IsValidLog fu (r34.1.1, (r34.1.2.1, (r34.1.2.2.1, ())))).getD false)) (by kernel_rfl) (fun _ _ _ h => h) rfl (by kernel_rfl) rfl (GV.T rfl) (fun hg189 => SCall.strip 319 rfl (hg189) (scall (c_impl_IsValidLog (is_mk (isSome_getD (g190 hg189)))) rfl Tryd.func22 rfl rfl rfl rfl (fun σ => ⟨ad_ren rfl, trivial⟩))) rfl ?_
                        refine an_read 4 (by kernel_rfl) (fun _ _ _ h => h) rfl (by kernel_rfl) trivial (r_andB rfl rfl) rfl ?_
                        refine an_read 5 (by kernel_rfl) (fun _ _ _ h => h) rfl (by kernel_rfl) trivial (r_move rfl) rfl ?_
                        refine an_readG 6 (x := .os 4) (by kernel_rfl) (fun _ _ _ h => h) rfl (by kernel_rfl) rfl (GV.T rfl) (fun hg191 => by
                              obtain ⟨q192, q193⟩ := and_t hg191
                              exact r_move rfl) rfl ?_
                        refine an_readG 7 (x := .int .i64 (r186.1.length : Int)) (by kernel_rfl) (fun _ _ _ h => h) rfl (by kernel_rfl) rfl (GV.T rfl) (fun hg194 => by
                              obtain ⟨q195, q196⟩ := and_t hg194
                              exact Reads.strip 323 rfl (hg194) (r_len_osm (r186.1.length : Int) Tryd.underlying47 rfl rfl rfl)) rfl ?_
                        refine an_readG 8 (x := .os 3) (by kernel_rfl) (fun _ _ _ h => h) rfl (by kernel_rfl) rfl (GV.T rfl) (fun hg197 => by
                              obtain ⟨q198, q199⟩ := and_t hg197
                              exact r_move rfl) rfl ?_
                        refine an_readG 9 (x := .int .i64 (r66.1.length : Int)) (by kernel_rfl) (fun _ _ _ h => h) rfl (by kernel_rfl) rfl (GV.T rfl) (fun hg200 => by
                              obtain ⟨q201, q202⟩ := and_t hg200
                              exact Reads.strip 325 rfl (hg200) (r_len_osm (r66.1.length : Int) Tryd.underlying47 rfl rfl rfl)) rfl ?_
                        refine an_readG 10 (x := .int .i64 (IntKind.wrap .i64 ((r66.1.length : Int) + 1))) (by kernel_rfl) (fun _ _ _ h => h) rfl (by kernel_rfl) rfl (GV.T rfl) (fun hg203 => by
                              obtain ⟨q204, q205⟩ := and_t hg203
                              exact Reads.strip 326 rfl (hg203) (r_add rfl rfl)) rfl ?_
                        refine an_readG 11 (x := .bool (decide ((r186.1.length : Int) = (IntKind.wrap .i64 ((r66.1.length : Int) + 1))))) (by kernel_rfl) (fun _ _ _ h => h) rfl (by kernel_rfl) rfl (GV.T rfl) (fun hg206 => by
                              obtain ⟨q207, q208⟩ := and_t hg206
                              exact Reads.strip 324 rfl (hg206) (Reads.strip 327 rfl (hg206) (r_eql rfl rfl))) rfl ?_
                        refine an_read 12 (by kernel_rfl) (fun _ _ _ h => h) rfl (by kernel_rfl) trivial (r_andB rfl rfl) rfl ?_
                        refine an_read 13 (by kernel_rfl) (fun _ _ _ h => h) rfl (by kernel_rfl) trivial (r_move rfl) rfl ?_
                        refine an_readG 14 (x := .os 4) (by kernel_rfl) (fun _ _ _ h => h) rfl (by kernel_rfl) rfl (GV.T rfl) (fun hg209 => by
                              obtain ⟨q210, q211⟩ := and_t hg209
                              obtain ⟨q212, q213⟩ := and_t q210
                              have q214 := d_t q211
                              exact r_move rfl) rfl ?_
                        refine an_readG 15 (x := .os 3) (by kernel_rfl) (fun _ _ _ h => h) rfl (by kernel_rfl) rfl (GV.T rfl) (fun hg215 => by
                              obtain ⟨q216, q217⟩ := and_t hg215
                              obtain ⟨q218, q219⟩ := and_t q216
                              have q220 := d_t q217
                              exact r_move rfl) rfl ?_
                        refine an_readG 16 (x := .int .i64 (r66.1.length : Int)) (by kernel_rfl) (fun _ _ _ h => h) rfl (by kernel_rfl) rfl (GV.T rfl) (fun hg221 => by
                              obtain ⟨q222, q223⟩ := and_t hg221
                              obtain ⟨q224, q225⟩ := and_t q222
                              have q226 := d_t q223
                              exact Reads.strip 332 rfl (hg221) (r_len_osm (r66.1.length : Int) Tryd.underlying47 rfl rfl rfl)) rfl ?_
                        refine an_readG 17 (x := .view 4 0 2 0 ((r66.1.length : Int) - 0).toNat) (by kernel_rfl) (fun _ _ _ h => h) rfl (by kernel_rfl) rfl (GV.T rfl) (fun hg227 => by
                              have g233a := g233 hg227
                              obtain ⟨q228, q229⟩ := and_t hg227
                              obtain ⟨q230, q231⟩ := and_t q228
                              have q232 := d_t q229
                              exact Reads.strip 331 rfl (hg227) (Reads.strip 333 rfl (hg227) (r_slice_os (t := (.pair .str (.pair .str .unit))) Tryd.underlying47 Tryd.sizeOf33 rfl rfl .none (.some rfl) (show 0 ≤ 0 from by omega) (show 0 ≤ (r66.1.length : Int) from by omega) (show (r66.1.length : Int) ≤ (r186.1.length : Int) from by omega)))) rfl ?_
                        refine an_readG 18 (x := .os 3) (by kernel_rfl) (fun _ _ _ h => h) rfl (by kernel_rfl) rfl (GV.T rfl) (fun hg234 => by
                              obtain ⟨q235, q236⟩ := and_t hg234
                              obtain ⟨q237, q238⟩ := and_t q235
                              have q239 := d_t q236
                              have w240 := g233 (hg234)
                              exact r_move rfl) rfl ?_
                        refine an_scallG 19 (x := .bool (p_laws_rRecords ((r186.1.drop 0).take ((r66.1.length : Int) - 0).toNat) r66.1)) (by kernel_rfl) (fun _ _ _ h => h) rfl (by kernel_rfl) rfl (GV.T rfl) (fun hg241 => by
                              obtain ⟨q242, q243⟩ := and_t hg241
                              obtain ⟨q244, q245⟩ := and_t q242
                              have q246 := d_t q243
                              have w247 := g233 (hg241)
                              exact SCall.strip 334 rfl (hg241) (SCall.strip 335 rfl (hg241) (scall (c_laws_rRecords (is_mk (rfl : p_laws_rRecords ((r186.1.drop 0).take ((r66.1.length : Int) - 0).toNat) r66.1 = _))) rfl Tryd.func25 rfl rfl rfl rfl (fun σ => ⟨ad_viewr0 rfl rfl rfl (show 0 + ((r66.1.length : Int) - 0).toNat ≤ r186.1.length from by omega), ad_os0 rfl, trivial⟩)))) rfl ?_
                        refine an_read 20 (by kernel_rfl) (fun _ _ _ h => h) rfl (by kernel_rfl) trivial (r_andB rfl rfl) rfl ?_
                        refine an_read 21 (by kernel_rfl) (fun _ _ _ h => h) rfl (by kernel_rfl) trivial (r_move rfl) rfl ?_
                        refine an_readG 22 (x := .os 4) (by kernel_rfl) (fun _ _ _ h => h) rfl (by kernel_rfl) rfl (GV.T rfl) (fun hg248 => by
                              obtain ⟨q249, q250⟩ := and_t hg248
                              obtain ⟨q251, q252⟩ := and_t q249
                              obtain ⟨q253, q254⟩ := and_t q251
                              have q255 := d_t q252
                              have w256 := g233 ((and_t hg248).1)
                              exact r_move rfl) rfl ?_
                        refine an_readG 23 (x := .os 3) (by kernel_rfl) (fun _ _ _ h => h) rfl (by kernel_rfl) rfl (GV.T rfl) (fun hg257 => by
                              obtain ⟨q258, q259⟩ := and_t hg257
                              obtain ⟨q260, q261⟩ := and_t q258
                              obtain ⟨q262, q263⟩ := and_t q260
                              have q264 := d_t q261
                              have w265 := g233 ((and_t hg257).1)
                              exact r_move rfl) rfl ?_
                        refine an_readG 24 (x := .int .i64 (r66.1.length : Int)) (by kernel_rfl) (fun _ _ _ h => h) rfl (by kernel_rfl) rfl (GV.T rfl) (fun hg266 => by
                              obtain ⟨q267, q268⟩ := and_t hg266
                              obtain ⟨q269, q270⟩ := and_t q267
                              obtain ⟨q271, q272⟩ := and_t q269
                              have q273 := d_t q270
                              have w274 := g233 ((and_t hg266).1)
                              exact Reads.strip 340 rfl (hg266) (r_len_osm (r66.1.length : Int) Tryd.underlying47 rfl rfl rfl)) rfl ?_
                        refine an_readG 25 (x := .elem 4 0 2 (r66.1.length : Int).toNat) (by kernel_rfl) (fun _ _ _ h => h) rfl (by kernel_rfl) rfl (GV.T rfl) (fun hg275 => by
                              have g284a := g284 hg275
                              obtain ⟨q276, q277⟩ := and_t hg275
                              obtain ⟨q278, q279⟩ := and_t q276
                              obtain ⟨q280, q281⟩ := and_t q278
                              have q282 := d_t q279
                              have w283 := g233 ((and_t hg275).1)
                              exact Reads.strip 339 rfl (hg275) (Reads.strip 341 rfl (hg275) (r_idxAddr_os Tryd.underlying47 Tryd.sizeOf33 rfl rfl rfl (show 0 ≤ (r66.1.length : Int) from by omega) (show (r66.1.length : Int) < (r186.1.length : Int) from by omega)))) rfl ?_
                        refine an_readG 26 (x := .v (.pair .str (.pair .str .unit)) ((r186.1.getD (r66.1.length : Int).toNat (ByteArray.empty, (ByteArray.empty, ()))) : (ByteArray × (ByteArray × Unit)))) (by kernel_rfl) (fun _ _ _ h => h) rfl (by kernel_rfl) rfl (GV.T rfl) (fun hg285 => by
                              obtain ⟨q286, q287⟩ := and_t hg285
                              obtain ⟨q288, q289⟩ := and_t q286
                              obtain ⟨q290, q291⟩ := and_t q288
                              have q292 := d_t q289
                              have w293 := g233 ((and_t hg285).1)
                              have w294 := g284 (hg285)
                              exact Reads.strip 342 rfl (hg285) (r_load_elemv (t := (.pair .str (.pair .str .unit))) Tryd.isAgg33 Tryd.sizeOf33 rfl rfl (show (r66.1.length : Int).toNat < r186.1.length from by omega))) rfl ?_
                        refine an_readG 27 (x := .v (.pair .str (.pair .str .unit)) ((r33.2.1, (r33.2.2.1, ())) : (ByteArray × (ByteArray × Unit)))) (by kernel_rfl) (fun _ _ _ h => h) rfl (by kernel_rfl) rfl (GV.T rfl) (fun hg295 => by
                              obtain ⟨q296, q297⟩ := and_t hg295
                              obtain ⟨q298, q299⟩ := and_t q296
                              obtain ⟨q300, q301⟩ := and_t q298
                              have q302 := d_t q299
                              have w303 := g233 ((and_t hg295).1)
                              have w304 := g284 (hg295)
                              exact r_load_part (τ := (.pair .str (.pair .str .unit))) (y := ((r33.2.1, (r33.2.2.1, ())) : (ByteArray × (ByteArray × Unit)))) [] [] rfl Tryd.isAgg33 Tryd.sizeOf33 rfl rfl rfl rfl) rfl ?_
                        refine an_readG 28 (x := .bool (eqT (.pair .str (.pair .str .unit)) ((r186.1.getD (r66.1.length : Int).toNat (ByteArray.empty, (ByteArray.empty, ()))) : (ByteArray × (ByteArray × Unit))) ((r33.2.1, (r33.2.2.1, ())) : (ByteArray × (ByteArray × Unit))))) (by kernel_rfl) (fun _ _ _ h => h) rfl (by kernel_rfl) rfl (GV.T rfl) (fun hg305 => by
                              obtain ⟨q306, q307⟩ := and_t hg305
                              obtain ⟨q308, q309⟩ := and_t q306
                              obtain ⟨q310, q311⟩ := and_t q308
                              have q312 := d_t q309
                              have w313 := g233 ((and_t hg305).1)
                              have w314 := g284 (hg305)
                              exact Reads.strip 343 rfl (hg305) (Reads.strip 344 rfl (hg305) (r_eq_data (.pair .str (.pair .str .unit)) 3 Tryd.underlying33 (by kernel_rfl) (by kernel_rfl) ⟨rfl, rfl, Tryd.isAgg9, Tryd.sizeOf9, (TEq.mono (n := 1) rfl (teq_str Tryd.underlying9)), ⟨rfl, rfl, Tryd.isAgg9, Tryd.sizeOf9, (TEq.mono (n := 1) rfl (teq_str Tryd.underlying9)), trivial⟩⟩ rfl rfl rfl rfl rfl))) rfl ?_
                        refine an_read 29 (by kernel_rfl) (fun _ _ _ h => h) rfl (by kernel_rfl) trivial (r_andB rfl rfl) rfl ?_
                        refine an_read 30 (by kernel_rfl) (fun _ _ _ h => h) rfl (by kernel_rfl) trivial (r_assign rfl) rfl ?_
                        refine an_done rfl ?_
                        refine aq_then ?_
                        refine aw_ret ?_
                        refine aq_ret ?_
                        obtain rfl := is_some h
                        exact aq_finx (l := [.tmp 2]) (xs := [.bool ((((r186.2 && ((p_impl_IsValidLog fu (r34.1.1, (r34.1.2.1, (r34.1.2.2.1, ())))).getD false)) && (decide ((r186.1.length : Int) = (IntKind.wrap .i64 ((r66.1.length : Int) + 1))))) && (p_laws_rRecords ((r186.1.drop 0).take ((r66.1.length : Int) - 0).toNat) r66.1)) && (eqT (.pair .str (.pair .str .unit)) ((r186.1.getD (r66.1.length : Int).toNat (ByteArray.empty, (ByteArray.empty, ()))) : (ByteArray × (ByteArray × Unit))) ((r33.2.1, (r33.2.2.1, ())) : (ByteArray × (ByteArray × Unit)))))]) idn [.bool ((((r186.2 && ((p_impl_IsValidLog fu (r34.1.1, (r34.1.2.1, (r34.1.2.2.1, ())))).getD false)) && (decide ((r186.1.length : Int) = (IntKind.wrap .i64 ((r66.1.length : Int) + 1))))) && (p_laws_rRecords ((r186.1.drop 0).take ((r66.1.length : Int) - 0).toNat) r66.1)) && (eqT (.pair .str (.pair .str .unit)) ((r186.1.getD (r66.1.length : Int).toNat (ByteArray.empty, (ByteArray.empty, ()))) : (ByteArray × (ByteArray × Unit))) ((r33.2.1, (r33.2.2.1, ())) : (ByteArray × (ByteArray × Unit)))))] [] rfl (by exact ⟨rfl, trivial⟩) (by exact ⟨ad_ren rfl, trivial⟩) (by exact trivial) rfl (nk rfl) rfl rfl ⟨rfl, rfl⟩
                    · refine aw_seq ?_
                      refine aw_region ?_
                      refine ao_read trivial (r_move rfl) rfl ?_
                      refine ao_nil ?_
                      refine aq_then ?_
                      refine aw_cond rfl (fun hb315 => ?_) (fun hb315 => ?_)
                      · replace h := is_if hb315 h
                        refine aw_seq ?_
                        refine aw_region ?_
                        refine ao_read trivial (r_load_part (τ := (.pair .str (.pair .str (.pair (.int .i64) .unit)))) (y := ((r43.1.1, (r43.1.2.1, (r43.1.2.2.1, ()))) : (ByteArray × (ByteArray × (Int × Unit))))) [] [] rfl Tryd.isAgg27 Tryd.sizeOf27 rfl rfl rfl rfl) rfl ?_
                        obtain ⟨r316, r316h, h⟩ := is_bind h
                        refine ao_call [] 5 trivial (c_impl_LogRecords (is_mk r316h)) Tryd.func23 rfl rfl rfl rfl ⟨ad_ren rfl, trivial⟩ trivial rfl rfl rfl rfl rfl rfl rfl (fun r' H' hr => ?_)
                        obtain ⟨rfl, rfl⟩ := hr
                        refine ao_norm (y := .tup [.os 5, .bool r316.2]) (H' := [(0, .var [.cell (.str r33.1.1), .cell (.str r33.1.2.1), .cell (.int .i64 r33.1.2.2.1)]), (1, .var [.cell (.str r33.2.1), .cell (.str r33.2.2.1)]), (2, .var [.cell (.str r34.1.1), .cell (.str r34.1.2.1), .cell (.int .i64 r34.1.2.2.1)]), (3, .var [.cell (.str r43.1.1), .cell (.str r43.1.2.1), .cell (.int .i64 r43.1.2.2.1)]), (4, .row (.pair .str (.pair .str .unit)) r66.1), (5, .row (.pair .str (.pair .str .unit)) r316.1)]) rfl rfl ?_
                        refine row_len_o 5 (r316.1.length : Int) rfl rfl (fun hr317 => ?_)
                        refine ao_read trivial (r_move rfl) rfl ?_
                        refine ao_read trivial (r_extract rfl rfl) rfl ?_
                        refine ao_read trivial (r_extract rfl rfl) rfl ?_
                        refine ao_read trivial (r_assign rfl) rfl ?_
                        refine ao_read trivial (r_assign rfl) rfl ?_
                        refine ao_nil ?_
                        refine aq_then ?_
                        refine aw_seq ?_
                        refine aw_region ?_
                        refine ao_read trivial (r_move rfl) rfl ?_
                        refine ao_read trivial (r_not rfl) rfl ?_
                        refine ao_read trivial (r_move rfl) rfl ?_
                        refine ao_readG (x := .os 5) rfl (GV.F rfl) (fun hg318 => r_move rfl) rfl ?_
                        refine ao_readG (x := .os 4) rfl (GV.F rfl) (fun hg319 => r_move rfl) rfl ?_
                        refine ao_scallG (r := .bool (p_laws_rRecords r316.1 r66.1)) rfl (GV.F rfl) (fun hg320 => SCall.strip 297 rfl (hg320) (SCall.strip 298 rfl (hg320) (scall (c_laws_rRecords (is_mk (rfl : p_laws_rRecords r316.1 r66.1 = _))) rfl Tryd.func25 rfl rfl rfl rfl (fun σ => ⟨ad_os0 rfl, ad_os0 rfl, trivial⟩)))) rfl ?_
                        refine ao_readG (x := .bool (!(p_laws_rRecords r316.1 r66.1))) rfl (GV.F rfl) (fun hg321 => Reads.strip 299 rfl (hg321) (r_not rfl)) rfl ?_
                        refine ao_read trivial (r_orB rfl rfl) rfl ?_
                        refine ao_read trivial (r_move rfl) rfl ?_
                        refine ao_readG (x := .ref 3 1) rfl (GV.F rfl) (fun hg322 => by
                              obtain ⟨q323, q324⟩ := or_f (not_t hg322)
                              exact r_fieldAddr Tryd.underlying27 rfl Tryd.sizeOf9 rfl rfl rfl) rfl ?_
                        refine ao_readG (x := .str r43.1.2.1) rfl (GV.F rfl) (fun hg325 => by
                              obtain ⟨q326, q327⟩ := or_f (not_t hg325)
                              exact Reads.strip 303 rfl (hg325) (r_load_cell Tryd.isAgg9 rfl rfl rfl)) rfl ?_
                        refine ao_readG (x := .bool (!(eqS r43.1.2.1 (ByteArray.mk #[])))) rfl (GV.F rfl) (fun hg328 => by
                              obtain ⟨q329, q330⟩ := or_f (not_t hg328)
                              exact Reads.strip 304 rfl (hg328) (r_neq_str rfl rfl)) rfl ?_
                        refine ao_read trivial (r_orB rfl rfl) rfl ?_
                        refine ao_nil ?_
                        refine aq_then ?_
                        refine aw_cond rfl (fun hb331 => ?_) (fun hb331 => ?_)
                        · replace h := is_if hb331 h
                          refine aw_seq ?_
                          refine aw_region ?_
                          refine ao_read trivial (r_assign rfl) rfl ?_
                          refine ao_nil ?_
                          refine aq_then ?_
                          refine aw_ret ?_
                          refine aq_then_ret ?_
                          refine aq_ret ?_
                          obtain rfl := is_some h
                          exact aq_finx (l := [.tmp 2]) (xs := [.bool false]) idn [.bool false] [] rfl (by exact ⟨rfl, trivial⟩) (by exact ⟨ad_ren rfl, trivial⟩) (by exact trivial) rfl (nk rfl) rfl rfl ⟨rfl, rfl⟩
                        · obtain ⟨q332, q333⟩ := or_f hb331
                          obtain ⟨q334, q335⟩ := or_f q332
                          replace h := is_else (ne_t hb331) h
                          refine aw_skip ?_
                          exact aq_then (AW.sub (sub_mk (rn [(3, 4)]) (by exact ⟨⟨_, rfl, ad_ren rfl⟩, ⟨_, rfl, ad_ren rfl⟩, ⟨_, rfl, ad_ren rfl⟩, ⟨_, rfl, ad_ren rfl⟩, ⟨_, rfl, ad_ren rfl⟩, trivial⟩) (by exact ⟨⟨_, rfl, ⟨ad_ren rfl, rfl, ad_ren rfl, rfl, ad_ren rfl, rfl, trivial⟩⟩, ⟨_, rfl, ⟨ad_ren rfl, rfl, ad_ren rfl, rfl, trivial⟩⟩, ⟨_, rfl, ⟨ad_ren rfl, rfl, ad_ren rfl, rfl, ad_ren rfl, rfl, trivial⟩⟩, ⟨_, rfl, rfl⟩, trivial⟩) (by rfl) (nk rfl)) (j182 () trivial h))
                      · replace h := is_else (ne_t hb315) h
                        refine aw_skip ?_
                        exact aq_then (AW.sub (sub_mk (rn [(3, 4)]) (by exact ⟨⟨_, rfl, ad_ren rfl⟩, ⟨_, rfl, ad_ren rfl⟩, ⟨_, rfl, ad_ren rfl⟩, ⟨_, rfl, ad_ren rfl⟩, ⟨_, rfl, ad_ren rfl⟩, trivial⟩) (by exact ⟨⟨_, rfl, ⟨ad_ren rfl, rfl, ad_ren rfl, rfl, ad_ren rfl, rfl, trivial⟩⟩, ⟨_, rfl, ⟨ad_ren rfl, rfl, ad_ren rfl, rfl, trivial⟩⟩, ⟨_, rfl, ⟨ad_ren rfl, rfl, ad_ren rfl, rfl, ad_ren rfl, rfl, trivial⟩⟩, ⟨_, rfl, rfl⟩, trivial⟩) (by rfl) (nk rfl)) (j182 () trivial h))
                  · refine aw_seq ?_
                    refine aw_region ?_
                    refine ao_read trivial (r_move rfl) rfl ?_
                    refine ao_nil ?_
                    refine aq_then ?_
                    refine aw_cond rfl (fun hb336 => ?_) (fun hb336 => ?_)
                    · replace h := is_if hb336 h
                      refine aw_seq ?_
                      refine aw_region ?_
                      refine ao_read trivial (r_move rfl) rfl ?_
                      obtain ⟨r337, r337h, h⟩ := is_bind h
                      refine ao_scall trivial (scall (c_impl_RecoverLog (is_mk r337h)) rfl Tryd.func28 rfl rfl rfl rfl (fun σ => ⟨ad_ren rfl, trivial⟩)) rfl ?_
                      refine ao_read trivial (r_move rfl) rfl ?_
                      refine ao_read trivial (r_extract rfl rfl) rfl ?_
                      refine ao_read trivial (r_extract rfl rfl) rfl ?_
                      refine ao_read trivial (r_extract rfl rfl) rfl ?_
                      refine ao_eff trivial (e_alloc 13 (y := .st [.str ByteArray.empty, .str ByteArray.empty, .int .i64 0]) Tryd.zeroValue27 (fun ρ h M => ra_zero_st (t := (.pair .str (.pair .str (.pair (.int .i64) .unit)))) rfl rfl rfl) rfl rfl rfl rfl rfl) rfl ?_
                      refine ao_effS trivial (e_store rfl rfl rfl rfl Tryd.sizeOf27 rfl) ?_
                      refine ao_read trivial (r_assign rfl) rfl ?_
                      refine ao_read trivial (r_assign rfl) rfl ?_
                      refine ao_nil ?_
                      refine aq_then ?_
                      refine aw_seq ?_
                      refine aw_region ?_
                      refine ao_read trivial (r_load_part (τ := (.pair .str (.pair .str (.pair (.int .i64) .unit)))) (y := ((r337.1.1, (r337.1.2.1, (r337.1.2.2.1, ()))) : (ByteArray × (ByteArray × (Int × Unit))))) [] [] rfl Tryd.isAgg27 Tryd.sizeOf27 rfl rfl rfl rfl) rfl ?_
                      obtain ⟨r338, r338h, h⟩ := is_bind h
                      refine ao_call [] 14 trivial (c_impl_LogRecords (is_mk r338h)) Tryd.func23 rfl rfl rfl rfl ⟨ad_ren rfl, trivial⟩ trivial rfl rfl rfl rfl rfl rfl rfl (fun r' H' hr => ?_)
                      obtain ⟨rfl, rfl⟩ := hr
                      refine ao_norm (y := .tup [.os 14, .bool r338.2]) (H' := [(13, .var [.cell (.str r337.1.1), .cell (.str r337.1.2.1), .cell (.int .i64 r337.1.2.2.1)]), (12, .var [.cell (.str r103.1.1), .cell (.str r103.1.2.1), .cell (.int .i64 r103.1.2.2.1)]), (11, .var [.cell (.str r102.1.1), .cell (.str r102.1.2.1), .cell (.int .i64 r102.1.2.2.1)]), (10, .var [.cell (.str r91.1.1), .cell (.str r91.1.2.1), .cell (.int .i64 r91.1.2.2.1)]), (7, .var [.cell (.str r44.1.1), .cell (.str r44.1.2.1), .cell (.int .i64 r44.1.2.2.1)]), (6, .var [.cell (.str r43.1.1), .cell (.str r43.1.2.1), .cell (.int .i64 r43.1.2.2.1)]), (5, .var [.cell (.str r35.1.1), .cell (.str r35.1.2.1), .cell (.int .i64 r35.1.2.2.1)]), (4, .var [.cell (.str r34.1.1), .cell (.str r34.1.2.1), .cell (.int .i64 r34.1.2.2.1)]), (3, .var [.cell (.str r33.2.1), .cell (.str r33.2.2.1)]), (2, .var [.cell (.str r33.1.1), .cell (.str r33.1.2.1), .cell (.int .i64 r33.1.2.2.1)]), (1, .var [.cell (.str r4.2.1), .cell (.str r4.2.2.1)]), (0, .var [.cell (.str r2.1), .cell (.str r2.2.1)]), (8, .row (.pair .str (.pair .str .unit)) r66.1), (9, .row (.pair .str (.pair .str .unit)) r68.1), (14, .row (.pair .str (.pair .str .unit)) r338.1)]) rfl rfl ?_
                      refine row_len_o 14 (r338.1.length : Int) rfl rfl (fun hr339 => ?_)
                      refine ao_read trivial (r_move rfl) rfl ?_
                      refine ao_read trivial (r_extract rfl rfl) rfl ?_
                      refine ao_read trivial (r_extract rfl rfl) rfl ?_
                      refine ao_read trivial (r_assign rfl) rfl ?_
                      refine ao_read trivial (r_assign rfl) rfl ?_
                      refine ao_nil ?_
                      refine aq_then ?_
                      refine aw_seq ?_
                      refine aw_region ?_
                      refine ao_read trivial (r_load_part (τ := (.pair .str (.pair .str (.pair (.int .i64) .unit)))) (y := ((r91.1.1, (r91.1.2.1, (r91.1.2.2.1, ()))) : (ByteArray × (ByteArray × (Int × Unit))))) [] [] rfl Tryd.isAgg27 Tryd.sizeOf27 rfl rfl rfl rfl) rfl ?_
                      obtain ⟨r340, r340h, h⟩ := is_bind h
                      refine ao_call [] 15 trivial (c_impl_LogRecords (is_mk r340h)) Tryd.func23 rfl rfl rfl rfl ⟨ad_ren rfl, trivial⟩ trivial rfl rfl rfl rfl rfl rfl rfl (fun r' H' hr => ?_)
                      obtain ⟨rfl, rfl⟩ := hr
                      refine ao_norm (y := .tup [.os 15, .bool r340.2]) (H' := [(13, .var [.cell (.str r337.1.1), .cell (.str r337.1.2.1), .cell (.int .i64 r337.1.2.2.1)]), (12, .var [.cell (.str r103.1.1), .cell (.str r103.1.2.1), .cell (.int .i64 r103.1.2.2.1)]), (11, .var [.cell (.str r102.1.1), .cell (.str r102.1.2.1), .cell (.int .i64 r102.1.2.2.1)]), (10, .var [.cell (.str r91.1.1), .cell (.str r91.1.2.1), .cell (.int .i64 r91.1.2.2.1)]), (7, .var [.cell (.str r44.1.1), .cell (.str r44.1.2.1), .cell (.int .i64 r44.1.2.2.1)]), (6, .var [.cell (.str r43.1.1), .cell (.str r43.1.2.1), .cell (.int .i64 r43.1.2.2.1)]), (5, .var [.cell (.str r35.1.1), .cell (.str r35.1.2.1), .cell (.int .i64 r35.1.2.2.1)]), (4, .var [.cell (.str r34.1.1), .cell (.str r34.1.2.1), .cell (.int .i64 r34.1.2.2.1)]), (3, .var [.cell (.str r33.2.1), .cell (.str r33.2.2.1)]), (2, .var [.cell (.str r33.1.1), .cell (.str r33.1.2.1), .cell (.int .i64 r33.1.2.2.1)]), (1, .var [.cell (.str r4.2.1), .cell (.str r4.2.2.1)]), (0, .var [.cell (.str r2.1), .cell (.str r2.2.1)]), (8, .row (.pair .str (.pair .str .unit)) r66.1), (9, .row (.pair .str (.pair .str .unit)) r68.1), (14, .row (.pair .str (.pair .str .unit)) r338.1), (15, .row (.pair .str (.pair .str .unit)) r340.1)]) rfl rfl ?_
                      refine row_len_o 15 (r340.1.length : Int) rfl rfl (fun hr341 => ?_)
                      refine ao_read trivial (r_move rfl) rfl ?_
                      refine ao_read trivial (r_extract rfl rfl) rfl ?_
                      refine ao_read trivial (r_extract rfl rfl) rfl ?_
                      refine ao_read trivial (r_assign rfl) rfl ?_
                      refine ao_read trivial (r_assign rfl) rfl ?_
                      refine ao_nil ?_
                      refine aq_then ?_
                      refine aw_seq ?_
                      refine aw_region ?_
                      refine ao_read trivial (r_move rfl) rfl ?_
                      refine ao_read trivial (r_not rfl) rfl ?_
                      refine ao_read trivial (r_move rfl) rfl ?_
                      refine ao_readG (x := .bool r338.2) rfl (GV.F rfl) (fun hg342 => r_move rfl) rfl ?_
                      refine ao_readG (x := .bool (!r338.2)) rfl (GV.F rfl) (fun hg343 => Reads.strip 256 rfl (hg343) (r_not rfl)) rfl ?_
                      refine ao_read trivial (r_orB rfl rfl) rfl ?_
                      refine ao_read trivial (r_move rfl) rfl ?_
                      refine ao_readG (x := .bool r340.2) rfl (GV.F rfl) (fun hg344 => by
                            obtain ⟨q345, q346⟩ := or_f (not_t hg344)
                            exact r_move rfl) rfl ?_
                      refine ao_readG (x := .bool (!r340.2)) rfl (GV.F rfl) (fun hg347 => by
                            obtain ⟨q348, q349⟩ := or_f (not_t hg347)
                            exact Reads.strip 260 rfl (hg347) (r_not rfl)) rfl ?_
                      refine ao_read trivial (r_orB rfl rfl) rfl ?_
                      refine ao_read trivial (r_move rfl) rfl ?_
                      refine ao_readG (x := .os 14) rfl (GV.F rfl) (fun hg350 => by
                            obtain ⟨q351, q352⟩ := or_f (not_t hg350)
                            obtain ⟨q353, q354⟩ := or_f q351
                            exact r_move rfl) rfl ?_
                      refine ao_readG (x := .int .i64 (r338.1.length : Int)) rfl (GV.F rfl) (fun hg355 => by
                            obtain ⟨q356, q357⟩ := or_f (not_t hg355)
                            obtain ⟨q358, q359⟩ := or_f q356
                            exact Reads.strip 264 rfl (hg355) (r_len_osm (r338.1.length : Int) Tryd.underlying47 rfl rfl rfl)) rfl ?_
                      refine ao_readG (x := .os 15) rfl (GV.F rfl) (fun hg360 => by
                            obtain ⟨q361, q362⟩ := or_f (not_t hg360)
                            obtain ⟨q363, q364⟩ := or_f q361
                            exact r_move rfl) rfl ?_
                      refine ao_readG (x := .int .i64 (r340.1.length : Int)) rfl (GV.F rfl) (fun hg365 => by
                            obtain ⟨q366, q367⟩ := or_f (not_t hg365)
                            obtain ⟨q368, q369⟩ := or_f q366
                            exact Reads.strip 266 rfl (hg365) (r_len_osm (r340.1.length : Int) Tryd.underlying47 rfl rfl rfl)) rfl ?_
                      refine ao_readG (x := .bool (decide ((r340.1.length : Int) < (r338.1.length : Int)))) rfl (GV.F rfl) (fun hg370 => by
                            obtain ⟨q371, q372⟩ := or_f (not_t hg370)
                            obtain ⟨q373, q374⟩ := or_f q371
                            exact Reads.strip 265 rfl (hg370) (Reads.strip 267 rfl (hg370) (r_gtr rfl rfl))) rfl ?_
                      refine ao_read trivial (r_orB rfl rfl) rfl ?_
                      refine ao_read trivial (r_move rfl) rfl ?_
                      refine ao_readG (x := .os 14) rfl (GV.F rfl) (fun hg375 => by
                            obtain ⟨q376, q377⟩ := or_f (not_t hg375)
                            obtain ⟨q378, q379⟩ := or_f q376
                            obtain ⟨q380, q381⟩ := or_f q378
                            have q382 := d_f q377
                            exact r_move rfl) rfl ?_
                      refine ao_readG (x := .os 15) rfl (GV.F rfl) (fun hg383 => by
                            obtain ⟨q384, q385⟩ := or_f (not_t hg383)
                            obtain ⟨q386, q387⟩ := or_f q384
                            obtain ⟨q388, q389⟩ := or_f q386
                            have q390 := d_f q385
                            exact r_move rfl) rfl ?_
                      refine ao_readG (x := .os 14) rfl (GV.F rfl) (fun hg391 => by
                            obtain ⟨q392, q393⟩ := or_f (not_t hg391)
                            obtain ⟨q394, q395⟩ := or_f q392
                            obtain ⟨q396, q397⟩ := or_f q394
                            have q398 := d_f q393
                            exact r_move rfl) rfl ?_
                      refine ao_readG (x := .int .i64 (r338.1.length : Int)) rfl (GV.F rfl) (fun hg399 => by
                            obtain ⟨q400, q401⟩ := or_f (not_t hg399)
                            obtain ⟨q402, q403⟩ := or_f q400
                            obtain ⟨q404, q405⟩ := or_f q402
                            have q406 := d_f q401
                            exact Reads.strip 273 rfl (hg399) (r_len_osm (r338.1.length : Int) Tryd.underlying47 rfl rfl rfl)) rfl ?_
                      refine ao_readG (x := .view 15 0 2 0 ((r338.1.length : Int) - 0).toNat) rfl (GV.F rfl) (fun hg407 => by
                            obtain ⟨q408, q409⟩ := or_f (not_t hg407)
                            obtain ⟨q410, q411⟩ := or_f q408
                            obtain ⟨q412, q413⟩ := or_f q410
                            have q414 := d_f q409
                            exact Reads.strip 272 rfl (hg407) (Reads.strip 274 rfl (hg407) (r_slice_os (t := (.pair .str (.pair .str .unit))) Tryd.underlying47 Tryd.sizeOf33 rfl rfl .none (.some rfl) (show 0 ≤ 0 from by omega) (show 0 ≤ (r338.1.length : Int) from by omega) (show (r338.1.length : Int) ≤ (r340.1.length : Int) from by omega)))) rfl ?_
                      refine ao_scallG (r := .bool (p_laws_rRecords r338.1 ((r340.1.drop 0).take ((r338.1.length : Int) - 0).toNat))) rfl (GV.F rfl) (fun hg415 => by
                            obtain ⟨q416, q417⟩ := or_f (not_t hg415)
                            obtain ⟨q418, q419⟩ := or_f q416
                            obtain ⟨q420, q421⟩ := or_f q418
                            have q422 := d_f q417
                            exact SCall.strip 271 rfl (hg415) (SCall.strip 275 rfl (hg415) (scall (c_laws_rRecords (is_mk (rfl : p_laws_rRecords r338.1 ((r340.1.drop 0).take ((r338.1.length : Int) - 0).toNat) = _))) rfl Tryd.func25 rfl rfl rfl rfl (fun σ => ⟨ad_os0 rfl, ad_viewr0 rfl rfl rfl (show 0 + ((r338.1.length : Int) - 0).toNat ≤ r340.1.length from by omega), trivial⟩)))) rfl ?_
                      refine ao_readG (x := .bool (!(p_laws_rRecords r338.1 ((r340.1.drop 0).take ((r338.1.length : Int) - 0).toNat)))) rfl (GV.F rfl) (fun hg423 => by
                            obtain ⟨q424, q425⟩ := or_f (not_t hg423)
                            obtain ⟨q426, q427⟩ := or_f q424
                            obtain ⟨q428, q429⟩ := or_f q426
                            have q430 := d_f q425
                            exact Reads.strip 276 rfl (hg423) (r_not rfl)) rfl ?_
                      refine ao_read trivial (r_orB rfl rfl) rfl ?_
                      refine ao_read trivial (r_move rfl) rfl ?_
                      refine ao_readG (x := .ref 13 0) rfl (GV.F rfl) (fun hg431 => by
                            obtain ⟨q432, q433⟩ := or_f (not_t hg431)
                            obtain ⟨q434, q435⟩ := or_f q432
                            obtain ⟨q436, q437⟩ := or_f q434
                            obtain ⟨q438, q439⟩ := or_f q436
                            have q440 := d_f q435
                            exact r_fieldAddr Tryd.underlying27 rfl Tryd.sizeOf9 rfl rfl rfl) rfl ?_
                      refine ao_readG (x := .str r337.1.1) rfl (GV.F rfl) (fun hg441 => by
                            obtain ⟨q442, q443⟩ := or_f (not_t hg441)
                            obtain ⟨q444, q445⟩ := or_f q442
                            obtain ⟨q446, q447⟩ := or_f q444
                            obtain ⟨q448, q449⟩ := or_f q446
                            have q450 := d_f q445
                            exact Reads.strip 280 rfl (hg441) (r_load_cell Tryd.isAgg9 rfl rfl rfl)) rfl ?_
                      refine ao_readG (x := .int .i64 (r337.1.1.size : Int)) rfl (GV.F rfl) (fun hg451 => by
                            obtain ⟨q452, q453⟩ := or_f (not_t hg451)
                            obtain ⟨q454, q455⟩ := or_f q452
                            obtain ⟨q456, q457⟩ := or_f q454
                            obtain ⟨q458, q459⟩ := or_f q456
                            have q460 := d_f q455
                            exact Reads.strip 281 rfl (hg451) (r_len_str Tryd.underlying9 rfl)) rfl ?_
                      refine ao_readG (x := .ref 10 0) rfl (GV.F rfl) (fun hg461 => by
                            obtain ⟨q462, q463⟩ := or_f (not_t hg461)
                            obtain ⟨q464, q465⟩ := or_f q462
                            obtain ⟨q466, q467⟩ := or_f q464
                            obtain ⟨q468, q469⟩ := or_f q466
                            have q470 := d_f q465
                            exact r_fieldAddr Tryd.underlying27 rfl Tryd.sizeOf9 rfl rfl rfl) rfl ?_
                      refine ao_readG (x := .str r91.1.1) rfl (GV.F rfl) (fun hg471 => by
                            obtain ⟨q472, q473⟩ := or_f (not_t hg471)
                            obtain ⟨q474, q475⟩ := or_f q472
                            obtain ⟨q476, q477⟩ := or_f q474
                            obtain ⟨q478, q479⟩ := or_f q476
                            have q480 := d_f q475
                            exact Reads.strip 283 rfl (hg471) (r_load_cell Tryd.isAgg9 rfl rfl rfl)) rfl ?_
                      refine ao_readG (x := .int .i64 (r91.1.1.size : Int)) rfl (GV.F rfl) (fun hg481 => by
                            obtain ⟨q482, q483⟩ := or_f (not_t hg481)
                            obtain ⟨q484, q485⟩ := or_f q482
                            obtain ⟨q486, q487⟩ := or_f q484
                            obtain ⟨q488, q489⟩ := or_f q486
                            have q490 := d_f q485
                            exact Reads.strip 284 rfl (hg481) (r_len_str Tryd.underlying9 rfl)) rfl ?_
                      refine ao_readG (x := .bool (decide ((r337.1.1.size : Int) < (r91.1.1.size : Int)))) rfl (GV.F rfl) (fun hg491 => by
                            obtain ⟨q492, q493⟩ := or_f (not_t hg491)
                            obtain ⟨q494, q495⟩ := or_f q492
                            obtain ⟨q496, q497⟩ := or_f q494
                            obtain ⟨q498, q499⟩ := or_f q496
                            have q500 := d_f q495
                            exact Reads.strip 282 rfl (hg491) (Reads.strip 285 rfl (hg491) (r_lss rfl rfl))) rfl ?_
                      refine ao_read trivial (r_orB rfl rfl) rfl ?_
                      refine ao_nil ?_
                      refine aq_then ?_
                      refine aw_cond rfl (fun hb501 => ?_) (fun hb501 => ?_)
                      · replace h := is_if hb501 h
                        refine aw_seq ?_
                        refine aw_region ?_
                        refine ao_read trivial (r_assign rfl) rfl ?_
                        refine ao_nil ?_
                        refine aq_then ?_
                        refine aw_ret ?_
                        refine aq_then_ret ?_
                        refine aq_ret ?_
                        obtain rfl := is_some h
                        exact aq_finx (l := [.tmp 2]) (xs := [.bool false]) idn [.bool false] [] rfl (by exact ⟨rfl, trivial⟩) (by exact ⟨ad_ren rfl, trivial⟩) (by exact trivial) rfl (nk rfl) rfl rfl ⟨rfl, rfl⟩
                      · obtain ⟨q502, q503⟩ := or_f hb501
                        obtain ⟨q504, q505⟩ := or_f q502
                        obtain ⟨q506, q507⟩ := or_f q504
                        obtain ⟨q508, q509⟩ := or_f q506
                        obtain ⟨q510, q511⟩ := or_f q508
                        have q512 := d_f q507
                        have q513 := d_f q503
                        replace h := is_else (ne_t hb501) h
                        refine aw_skip ?_
                        exact aq_then (AW.sub (sub_mk (rn [(0, 2), (1, 3), (2, 4), (3, 6), (4, 8)]) (by exact ⟨⟨_, rfl, ad_ren rfl⟩, ⟨_, rfl, ad_ren rfl⟩, ⟨_, rfl, ad_ren rfl⟩, ⟨_, rfl, ad_ren rfl⟩, ⟨_, rfl, ad_ren rfl⟩, ⟨_, rfl, ad_ren rfl⟩, ⟨_, rfl, ad_ren rfl⟩, trivial⟩) (by exact ⟨⟨_, rfl, ⟨ad_ren rfl, rfl, ad_ren rfl, rfl, ad_ren rfl, rfl, trivial⟩⟩, ⟨_, rfl, ⟨ad_ren rfl, rfl, ad_ren rfl, rfl, trivial⟩⟩, ⟨_, rfl, ⟨ad_ren rfl, rfl, ad_ren rfl, rfl, ad_ren rfl, rfl, trivial⟩⟩, ⟨_, rfl, ⟨ad_ren rfl, rfl, ad_ren rfl, rfl, ad_ren rfl, rfl, trivial⟩⟩, ⟨_, rfl, rfl⟩, trivial⟩) (by rfl) (nk rfl)) (j179 () trivial h))
                    · replace h := is_else (ne_t hb336) h
                      refine aw_skip ?_
                      exact aq_then (AW.sub (sub_mk (rn [(0, 2), (1, 3), (2, 4), (3, 6), (4, 8)]) (by exact ⟨⟨_, rfl, ad_ren rfl⟩, ⟨_, rfl, ad_ren rfl⟩, ⟨_, rfl, ad_ren rfl⟩, ⟨_, rfl, ad_ren rfl⟩, ⟨_, rfl, ad_ren rfl⟩, ⟨_, rfl, ad_ren rfl⟩, ⟨_, rfl, ad_ren rfl⟩, trivial⟩) (by exact ⟨⟨_, rfl, ⟨ad_ren rfl, rfl, ad_ren rfl, rfl, ad_ren rfl, rfl, trivial⟩⟩, ⟨_, rfl, ⟨ad_ren rfl, rfl, ad_ren rfl, rfl, trivial⟩⟩, ⟨_, rfl, ⟨ad_ren rfl, rfl, ad_ren rfl, rfl, ad_ren rfl, rfl, trivial⟩⟩, ⟨_, rfl, ⟨ad_ren rfl, rfl, ad_ren rfl, rfl, ad_ren rfl, rfl, trivial⟩⟩, ⟨_, rfl, rfl⟩, trivial⟩) (by rfl) (nk rfl)) (j179 () trivial h))
end Go.GA
