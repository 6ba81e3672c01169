/- Walks: what the Go functions compute, by the printed lines below; no further conditions. -/
import Derived.Test.YtheplbbbfbbjcaaC7hw
namespace Go.GA
open Go Go.Proofs
set_option maxRecDepth 100000
set_option maxHeartbeats 2000000
set_option linter.unusedVariables false
set_option linter.unusedSimpArgs false
theorem c_spec_l7Ends {fu : Nat} {x0 : (List Int)} {x1 : Int} {x2 : Int} {r : (List Int)} (h : Is (p_spec_l7Ends fu x0 x1 x2) (some r)) :
    Scalar Try.prog 117 [.v (.arr 6 (.int .i64)) x0, .int .i64 x1, .int .i64 x2] (.v (.arr 41 (.int .i64)) r) := by
  unfold p_spec_l7Ends at h
  refine ac_enter ⟨106, 0⟩ Try.func117 rfl rfl rfl rfl rfl (fun Γ => ?_)
  refine aw_seq ?_
  refine aw_region ?_
  refine ao_eff trivial (e_box 0 rfl rfl rfl rfl rfl rfl) rfl ?_
  refine ao_eff trivial (e_alloc 1 (y := .v (.arr 41 (.int .i64)) ((List.replicate 41 0) : (List Int))) Try.zeroValue120 (fun ρ h M => ra_zero_arr (t := (.int .i64)) rfl) rfl rfl rfl rfl rfl) rfl ?_
  refine ao_nil ?_
  refine aq_then ?_
  refine aw_seq ?_
  obtain ⟨g1, h⟩ := is_guard h
  obtain ⟨g2, h⟩ := is_guard h
  refine aw_drawP 6 rfl (by kernel_rfl) ?_
  refine ap_to [(1, .int .i64 x1), (2, .int .i64 x2), (3, .ref 0 0), (6, .ref 1 0), (7, .ref 2 0), (8, .os 3)] [(0, .var [.arr (.int .i64) 6 x0]), (1, .var [.arr (.int .i64) 41 ((List.replicate 41 0) : (List Int))]), (2, .var [.arr (.int .i64) 41 ((List.replicate 41 0) : (List Int))]), (3, .row (.int .i64) ((List.replicate x2.toNat 0) : (List Int)))] ?_ (fun key => ?_)
  · refine aq_then ?_
    refine aw_seq ?_
    refine aw_region ?_
    refine ao_read trivial (r_move rfl) rfl ?_
    obtain ⟨g12, h⟩ := is_guard h
    refine ao_read trivial (r_idxAddr_os Try.underlying36 Try.sizeOf3 rfl rfl rfl (show 0 ≤ 0 from by omega) (show 0 < ((List.replicate x2.toNat (0 : Int)).length : Int) from by (try simp only [List.length_replicate]) <;> omega)) rfl ?_
    refine ao_effS trivial (e_store_elem_int Try.sizeOf3 rfl rfl rfl rfl (show 0 < (List.replicate x2.toNat (0 : Int)).length from by (try simp only [List.length_replicate]) <;> omega) rfl) ?_
    refine ao_nil ?_
    refine aq_then ?_
    refine aw_seq ?_
    refine aw_seq ?_
    refine aw_region ?_
    refine ao_read trivial (r_assign rfl) rfl ?_
    refine ao_nil ?_
    refine aq_then ?_
    refine aw_block ?_
    refine aw_loop (AL.sub (sub_mk idn (by exact ⟨⟨_, rfl, ad_ren rfl⟩, ⟨_, rfl, ad_ren rfl⟩, ⟨_, rfl, ad_ren rfl⟩, ⟨_, rfl, ad_ren rfl⟩, ⟨_, rfl, ad_ren rfl⟩, ⟨_, rfl, ad_ren rfl⟩, ⟨_, rfl, ad_ren rfl⟩, trivial⟩) (by exact ⟨⟨_, rfl, ⟨rfl, trivial⟩⟩, ⟨_, rfl, ⟨rfl, trivial⟩⟩, ⟨_, rfl, ⟨rfl, trivial⟩⟩, ⟨_, rfl, rfl⟩, trivial⟩) (by rfl) (nk rfl)) (al_whl (fun (s13 : Int × (List Int) × (List Int)) => [(1, .int .i64 x1), (2, .int .i64 x2), (3, .ref 0 0), (6, .ref 1 0), (7, .ref 2 0), (8, .os 3), (9, .int .i64 s13.1)]) (fun (s13 : Int × (List Int) × (List Int)) => [(0, .var [.arr (.int .i64) 6 x0]), (1, .var [.arr (.int .i64) 41 ((List.replicate 41 0) : (List Int))]), (2, .var [.arr (.int .i64) 41 s13.2.1]), (3, .row (.int .i64) s13.2.2)]) (fun (s13 : Int × (List Int) × (List Int)) => 1 ≤ s13.1 ∧ (s13.2.1.length : Int) = 41 ∧ (s13.2.2.length : Int) = x2) h ⟨(by (try simp only [List.length_set, List.length_append, List.length_cons, List.length_nil, List.length_replicate, List.length_take, List.length_drop]) <;> omega), (by (try simp only [List.length_set, List.length_append, List.length_cons, List.length_nil, List.length_replicate, List.length_take, List.length_drop]) <;> omega), (by (try simp only [List.length_set, List.length_append, List.length_cons, List.length_nil, List.length_replicate, List.length_take, List.length_drop]) <;> omega)⟩ (fun d15 s13 hI h ih15 => ?_)))
    obtain ⟨_, _, _⟩ := hI
    replace h := is_whlS h
    refine al_round ?_
    refine aw_seq ?_
    refine aw_seq ?_
    refine aw_region ?_
    refine ao_read trivial (r_move rfl) rfl ?_
    refine ao_read trivial (r_move rfl) rfl ?_
    refine ao_read trivial (r_leq rfl rfl) rfl ?_
    refine ao_nil ?_
    refine aq_then ?_
    refine aw_cond rfl (fun hb17 => ?_) (fun hb17 => ?_)
    · have q18 := d_t hb17
      replace h := is_if (d_t hb17) h
      refine aw_skip ?_
      refine aq_then ?_
      refine aw_seq ?_
      refine aw_block ?_
      refine aw_seq ?_
      refine aw_region ?_
      refine ao_read trivial (r_move rfl) rfl ?_
      refine ao_eff trivial (e_makeSlice 4 (t := (.int .i64)) Try.underlying36 (rfl : Try.prog.info? 3 = some _) rfl rfl rfl rfl rfl rfl (by omega) (by omega) rfl rfl) rfl ?_
      refine ao_read trivial (r_assign rfl) rfl ?_
      refine ao_nil ?_
      refine aq_then ?_
      refine aw_seq ?_
      refine aw_seq ?_
      refine aw_region ?_
      refine ao_read trivial (r_assign rfl) rfl ?_
      refine ao_nil ?_
      refine aq_then ?_
      refine aw_block ?_
      refine aw_loop (AL.sub (fr' := [(1, .int .i64 x1), (2, .int .i64 x2), (3, .ref 0 0), (6, .ref 1 0), (7, .ref 2 0), (8, .os 3), (9, .int .i64 s13.1), (10, .os 4), (11, .int .i64 0)]) (H' := [(0, .var [.arr (.int .i64) 6 x0]), (1, .var [.arr (.int .i64) 41 ((List.replicate 41 0) : (List Int))]), (2, .var [.arr (.int .i64) 41 s13.2.1]), (3, .row (.int .i64) s13.2.2), (4, .row (.int .i64) ((List.replicate x2.toNat 0) : (List Int)))]) (sub_mk idn (by exact ⟨⟨_, rfl, ad_ren rfl⟩, ⟨_, rfl, ad_ren rfl⟩, ⟨_, rfl, ad_ren rfl⟩, ⟨_, rfl, ad_ren rfl⟩, ⟨_, rfl, ad_ren rfl⟩, ⟨_, rfl, ad_ren rfl⟩, ⟨_, rfl, ad_ren rfl⟩, ⟨_, rfl, ad_ren rfl⟩, ⟨_, rfl, ad_ren rfl⟩, trivial⟩) (by exact ⟨⟨_, rfl, ⟨rfl, trivial⟩⟩, ⟨_, rfl, ⟨rfl, trivial⟩⟩, ⟨_, rfl, ⟨rfl, trivial⟩⟩, ⟨_, rfl, rfl⟩, ⟨_, rfl, rfl⟩, trivial⟩) (by rfl) (nk rfl)) (al_cnt (fun i21 (s20 : (List Int) × (List Int)) => [(1, .int .i64 x1), (2, .int .i64 x2), (3, .ref 0 0), (6, .ref 1 0), (7, .ref 2 0), (8, .os 3), (9, .int .i64 s13.1), (10, .os 4), (11, .int .i64 i21)]) (fun i21 (s20 : (List Int) × (List Int)) => [(0, .var [.arr (.int .i64) 6 x0]), (1, .var [.arr (.int .i64) 41 ((List.replicate 41 0) : (List Int))]), (2, .var [.arr (.int .i64) 41 s20.1]), (3, .row (.int .i64) s13.2.2), (4, .row (.int .i64) s20.2)]) (fun d i21 (s20 : (List Int) × (List Int)) => d = Int.toNat (x2 - i21) ∧ 0 ≤ i21 ∧ (s20.1.length : Int) = 41 ∧ (s20.2.length : Int) = x2 ∧ i21 ≤ x2) h ⟨rfl, (by (try simp only [List.length_set, List.length_append, List.length_cons, List.length_nil, List.length_replicate, List.length_take, List.length_drop]) <;> omega), (by (try simp only [List.length_set, List.length_append, List.length_cons, List.length_nil, List.length_replicate, List.length_take, List.length_drop]) <;> omega), (by (try simp only [List.length_set, List.length_append, List.length_cons, List.length_nil, List.length_replicate, List.length_take, List.length_drop]) <;> omega), (by (try simp only [List.length_set, List.length_append, List.length_cons, List.length_nil, List.length_replicate, List.length_take, List.length_drop]) <;> omega)⟩ (fun d22 i21 s20 hI h ih22 => ?_)))
      obtain ⟨hd, _, _, _, _⟩ := hI
      refine al_round ?_
      refine aw_seq ?_
      refine aw_seq ?_
      refine aw_region ?_
      refine ao_read trivial (r_move rfl) rfl ?_
      refine ao_read trivial (r_move rfl) rfl ?_
      refine ao_read trivial (r_lss rfl rfl) rfl ?_
      refine ao_nil ?_
      refine aq_then ?_
      refine aw_cond rfl (fun hb24 => ?_) (fun hb24 => ?_)
      · have q25 := d_t hb24
        obtain ⟨d22, rfl⟩ : ∃ e, d22 = e + 1 := ⟨d22 - 1, by omega⟩
        replace h := is_cntS h
        refine aw_skip ?_
        refine aq_then ?_
        refine aw_seq ?_
        refine aw_block ?_
        refine aw_seq ?_
        refine aw_region ?_
        refine ao_read trivial (r_assign rfl) rfl ?_
        refine ao_nil ?_
        refine aq_then ?_
        refine aw_block ?_
        refine aw_loop (AL.sub (fr' := [(1, .int .i64 x1), (2, .int .i64 x2), (3, .ref 0 0), (6, .ref 1 0), (7, .ref 2 0), (8, .os 3), (9, .int .i64 s13.1), (10, .os 4), (11, .int .i64 i21), (12, .int .i64 0)]) (H' := [(0, .var [.arr (.int .i64) 6 x0]), (1, .var [.arr (.int .i64) 41 ((List.replicate 41 0) : (List Int))]), (2, .var [.arr (.int .i64) 41 s20.1]), (3, .row (.int .i64) s13.2.2), (4, .row (.int .i64) s20.2)]) (sub_mk idn (by exact ⟨⟨_, rfl, ad_ren rfl⟩, ⟨_, rfl, ad_ren rfl⟩, ⟨_, rfl, ad_ren rfl⟩, ⟨_, rfl, ad_ren rfl⟩, ⟨_, rfl, ad_ren rfl⟩, ⟨_, rfl, ad_ren rfl⟩, ⟨_, rfl, ad_ren rfl⟩, ⟨_, rfl, ad_ren rfl⟩, ⟨_, rfl, ad_ren rfl⟩, ⟨_, rfl, ad_ren rfl⟩, trivial⟩) (by exact ⟨⟨_, rfl, ⟨rfl, trivial⟩⟩, ⟨_, rfl, ⟨rfl, trivial⟩⟩, ⟨_, rfl, ⟨rfl, trivial⟩⟩, ⟨_, rfl, rfl⟩, ⟨_, rfl, rfl⟩, trivial⟩) (by rfl) (nk rfl)) (al_cnt (fun i28 (s27 : (List Int) × (List Int)) => [(1, .int .i64 x1), (2, .int .i64 x2), (3, .ref 0 0), (6, .ref 1 0), (7, .ref 2 0), (8, .os 3), (9, .int .i64 s13.1), (10, .os 4), (11, .int .i64 i21), (12, .int .i64 i28)]) (fun i28 (s27 : (List Int) × (List Int)) => [(0, .var [.arr (.int .i64) 6 x0]), (1, .var [.arr (.int .i64) 41 ((List.replicate 41 0) : (List Int))]), (2, .var [.arr (.int .i64) 41 s27.1]), (3, .row (.int .i64) s13.2.2), (4, .row (.int .i64) s27.2)]) (fun d i28 (s27 : (List Int) × (List Int)) => d = Int.toNat (6 - i28) ∧ 0 ≤ i28 ∧ (s27.1.length : Int) = 41 ∧ (s27.2.length : Int) = x2 ∧ i28 ≤ 6) h ⟨rfl, (by (try simp only [List.length_set, List.length_append, List.length_cons, List.length_nil, List.length_replicate, List.length_take, List.length_drop]) <;> omega), (by (try simp only [List.length_set, List.length_append, List.length_cons, List.length_nil, List.length_replicate, List.length_take, List.length_drop]) <;> omega), (by (try simp only [List.length_set, List.length_append, List.length_cons, List.length_nil, List.length_replicate, List.length_take, List.length_drop]) <;> omega), (by (try simp only [List.length_set, List.length_append, List.length_cons, List.length_nil, List.length_replicate, List.length_take, List.length_drop]) <;> omega)⟩ (fun d29 i28 s27 hI h ih29 => ?_)))
        obtain ⟨hd, _, _, _, _⟩ := hI
        refine al_round ?_
        refine aw_seq ?_
        refine aw_seq ?_
        refine aw_region ?_
        refine ao_read trivial (r_move rfl) rfl ?_
        refine ao_read trivial (r_lss rfl rfl) rfl ?_
        refine ao_nil ?_
        refine aq_then ?_
        refine aw_cond rfl (fun hb31 => ?_) (fun hb31 => ?_)
        · have q32 := d_t hb31
          obtain ⟨d29, rfl⟩ : ∃ e, d29 = e + 1 := ⟨d29 - 1, by omega⟩
          replace h := is_cntS h
          refine aw_skip ?_
          refine aq_then ?_
          refine aw_seq ?_
          refine aw_block ?_
          refine aw_block ?_
          refine aw_seq ?_
          refine aw_region ?_
          refine ao_read trivial (r_move rfl) rfl ?_
          refine ao_read trivial (r_idxAddr_arr (i := i28) Try.underlying43 Try.sizeOf3 rfl rfl (show 0 ≤ i28 from by omega) (show i28 < (6 : Int) from by omega)) rfl ?_
          refine ao_read trivial (r_load_elema_int Try.isAgg3 Try.sizeOf3 rfl rfl rfl (show i28.toNat < 6 from by omega)) rfl ?_
          refine ao_read trivial (r_move rfl) rfl ?_
          refine ao_read trivial (r_eql rfl rfl) rfl ?_
          refine ao_read trivial (r_assign rfl) rfl ?_
          refine ao_nil ?_
          refine aq_then ?_
          refine aw_cond rfl (fun hb34 => ?_) (fun hb34 => ?_)
          · have q35 : (x0.getD i28.toNat 0) = x1 := d_t hb34
            replace h := is_if (d_t hb34) h
            obtain ⟨r37, r37h, h⟩ := is_bind h
            refine aw_draw 13 (by kernel_rfl) (by kernel_rfl) ?_
            refine an_read 0 (by kernel_rfl) (fun _ _ _ h => h) rfl (by kernel_rfl) trivial (r_idxAddr_arr (i := 0) Try.underlying120 Try.sizeOf3 rfl rfl (show 0 ≤ 0 from by omega) (show 0 < (41 : Int) from by omega)) rfl ?_
            refine an_read 1 (by kernel_rfl) (fun _ _ _ h => h) rfl (by kernel_rfl) trivial (r_load_elema_int Try.isAgg3 Try.sizeOf3 rfl rfl rfl (show 0 < 41 from by omega)) rfl ?_
            refine an_read 2 (by kernel_rfl) (fun _ _ _ h => h) rfl (by kernel_rfl) trivial (r_move rfl) rfl ?_
            refine an_read 3 (by kernel_rfl) (fun _ _ _ h => h) rfl (by kernel_rfl) trivial (r_move rfl) rfl ?_
            refine an_read 4 (by kernel_rfl) (fun _ _ _ h => h) rfl (by kernel_rfl) trivial (r_idxAddr_os Try.underlying36 Try.sizeOf3 rfl rfl rfl (show 0 ≤ i21 from by omega) (show i21 < (s13.2.2.length : Int) from by omega)) rfl ?_
            refine an_read 5 (by kernel_rfl) (fun _ _ _ h => h) rfl (by kernel_rfl) trivial (r_load_elem_int Try.isAgg3 Try.sizeOf3 rfl rfl (show i21.toNat < s13.2.2.length from by omega)) rfl ?_
            refine an_read 6 (by kernel_rfl) (fun _ _ _ h => h) rfl (by kernel_rfl) trivial (r_move rfl) rfl ?_
            refine an_read 7 (by kernel_rfl) (fun _ _ _ h => h) rfl (by kernel_rfl) trivial (r_move rfl) rfl ?_
            refine an_read 8 (by kernel_rfl) (fun _ _ _ h => h) rfl (by kernel_rfl) trivial (r_subI rfl rfl (wrap_id (by omega) (by omega))) rfl ?_
            refine an_scall 9 (by kernel_rfl) (fun _ _ _ h => h) rfl (by kernel_rfl) trivial (scall (c_spec_l2All (is_mk r37h)) rfl Try.func106 rfl rfl rfl rfl (fun σ => ⟨ad_ren rfl, trivial⟩)) rfl ?_
            refine an_read 10 (by kernel_rfl) (fun _ _ _ h => h) rfl (by kernel_rfl) trivial (r_mul rfl rfl) rfl ?_
            refine an_read 11 (by kernel_rfl) (fun _ _ _ h => h) rfl (by kernel_rfl) trivial (r_add rfl rfl) rfl ?_
            refine an_read 12 (by kernel_rfl) (fun _ _ _ h => h) rfl (by kernel_rfl) trivial (r_idxAddr_arr (i := 0) Try.underlying120 Try.sizeOf3 rfl rfl (show 0 ≤ 0 from by omega) (show 0 < (41 : Int) from by omega)) rfl ?_
            refine an_tail rfl rfl ?_
            refine ao_effS trivial (e_store_elema_int Try.sizeOf3 rfl rfl rfl rfl (show 0 < 41 from by omega) rfl) ?_
            refine ao_nil ?_
            refine aq_in ?_
            refine aq_in ?_
            refine aq_then ?_
            refine aw_region ?_
            refine ao_read trivial (r_move rfl) rfl ?_
            refine ao_read trivial (r_addI rfl rfl (wrap_id (by omega) (by omega))) rfl ?_
            refine ao_read trivial (r_assign rfl) rfl ?_
            refine ao_nil ?_
            exact aq_again (AL.sub (sub_mk idn (by exact ⟨⟨_, rfl, ad_ren rfl⟩, ⟨_, rfl, ad_ren rfl⟩, ⟨_, rfl, ad_ren rfl⟩, ⟨_, rfl, ad_ren rfl⟩, ⟨_, rfl, ad_ren rfl⟩, ⟨_, rfl, ad_ren rfl⟩, ⟨_, rfl, ad_ren rfl⟩, ⟨_, rfl, ad_ren rfl⟩, ⟨_, rfl, ad_ren rfl⟩, ⟨_, rfl, ad_ren rfl⟩, trivial⟩) (by exact ⟨⟨_, rfl, ⟨rfl, trivial⟩⟩, ⟨_, rfl, ⟨rfl, trivial⟩⟩, ⟨_, rfl, ⟨rfl, trivial⟩⟩, ⟨_, rfl, rfl⟩, ⟨_, rfl, rfl⟩, trivial⟩) (by rfl) (nk rfl)) (ih29 d29 (i28 + 1) ((s27.1.set 0 (IntKind.wrap .i64 ((s27.1.getD 0 0) + (IntKind.wrap .i64 ((s13.2.2.getD i21.toNat 0) * r37))))), s27.2) (by omega) ⟨by omega, (by (try simp only [List.length_set, List.length_append, List.length_cons, List.length_nil, List.length_replicate, List.length_take, List.length_drop]) <;> omega), (by (try simp only [List.length_set, List.length_append, List.length_cons, List.length_nil, List.length_replicate, List.length_take, List.length_drop]) <;> omega), (by (try simp only [List.length_set, List.length_append, List.length_cons, List.length_nil, List.length_replicate, List.length_take, List.length_drop]) <;> omega), (by (try simp only [List.length_set, List.length_append, List.length_cons, List.length_nil, List.length_replicate, List.length_take, List.length_drop]) <;> omega)⟩ h))
          · have q36 : ¬ ((x0.getD i28.toNat 0) = x1) := d_f hb34
            replace h := is_else (d_f hb34) h
            refine aw_seq ?_
            refine aw_region ?_
            refine ao_read trivial (r_move rfl) rfl ?_
            refine ao_read trivial (r_move rfl) rfl ?_
            refine ao_read trivial (r_idxAddr_arr (i := i28) Try.underlying43 Try.sizeOf3 rfl rfl (show 0 ≤ i28 from by omega) (show i28 < (6 : Int) from by omega)) rfl ?_
            refine ao_read trivial (r_load_elema_int Try.isAgg3 Try.sizeOf3 rfl rfl rfl (show i28.toNat < 6 from by omega)) rfl ?_
            refine ao_read trivial (r_add rfl rfl) rfl ?_
            refine ao_read trivial (r_move rfl) rfl ?_
            refine ao_read trivial (r_geq rfl rfl) rfl ?_
            refine ao_read trivial (r_assign rfl) rfl ?_
            refine ao_nil ?_
            refine aq_then ?_
            refine aw_cond rfl (fun hb38 => ?_) (fun hb38 => ?_)
            · have q39 : x2 ≤ (IntKind.wrap .i64 (i21 + (x0.getD i28.toNat 0))) := d_t hb38
              replace h := is_if (d_t hb38) h
              obtain ⟨g41, h⟩ := is_guard h
              obtain ⟨r42, r42h, h⟩ := is_bind h
              refine aw_draw 23 (by kernel_rfl) (by kernel_rfl) ?_
              refine an_read 0 (by kernel_rfl) (fun _ _ _ h => h) rfl (by kernel_rfl) trivial (r_move rfl) rfl ?_
              refine an_read 1 (by kernel_rfl) (fun _ _ _ h => h) rfl (by kernel_rfl) trivial (r_move rfl) rfl ?_
              refine an_read 2 (by kernel_rfl) (fun _ _ _ h => h) rfl (by kernel_rfl) trivial (r_idxAddr_arr (i := i28) Try.underlying43 Try.sizeOf3 rfl rfl (show 0 ≤ i28 from by omega) (show i28 < (6 : Int) from by omega)) rfl ?_
              refine an_read 3 (by kernel_rfl) (fun _ _ _ h => h) rfl (by kernel_rfl) trivial (r_load_elema_int Try.isAgg3 Try.sizeOf3 rfl rfl rfl (show i28.toNat < 6 from by omega)) rfl ?_
              refine an_read 4 (by kernel_rfl) (fun _ _ _ h => h) rfl (by kernel_rfl) trivial (r_add rfl rfl) rfl ?_
              refine an_read 5 (by kernel_rfl) (fun _ _ _ h => h) rfl (by kernel_rfl) trivial (r_move rfl) rfl ?_
              refine an_read 6 (by kernel_rfl) (fun _ _ _ h => h) rfl (by kernel_rfl) trivial (r_move rfl) rfl ?_
              refine an_read 7 (by kernel_rfl) (fun _ _ _ h => h) rfl (by kernel_rfl) trivial (r_idxAddr_arr (i := i28) Try.underlying43 Try.sizeOf3 rfl rfl (show 0 ≤ i28 from by omega) (show i28 < (6 : Int) from by omega)) rfl ?_
              refine an_read 8 (by kernel_rfl) (fun _ _ _ h => h) rfl (by kernel_rfl) trivial (r_load_elema_int Try.isAgg3 Try.sizeOf3 rfl rfl rfl (show i28.toNat < 6 from by omega)) rfl ?_
              refine an_read 9 (by kernel_rfl) (fun _ _ _ h => h) rfl (by kernel_rfl) trivial (r_add rfl rfl) rfl ?_
              refine an_read 10 (by kernel_rfl) (fun _ _ _ h => h) rfl (by kernel_rfl) trivial (r_idxAddr_arr (i := (IntKind.wrap .i64 (i21 + (x0.getD i28.toNat 0)))) Try.underlying120 Try.sizeOf3 rfl rfl (show 0 ≤ (IntKind.wrap .i64 (i21 + (x0.getD i28.toNat 0))) from by omega) (show (IntKind.wrap .i64 (i21 + (x0.getD i28.toNat 0))) < (41 : Int) from by omega)) rfl ?_
              refine an_read 11 (by kernel_rfl) (fun _ _ _ h => h) rfl (by kernel_rfl) trivial (r_load_elema_int Try.isAgg3 Try.sizeOf3 rfl rfl rfl (show (IntKind.wrap .i64 (i21 + (x0.getD i28.toNat 0))).toNat < 41 from by omega)) rfl ?_
              refine an_read 12 (by kernel_rfl) (fun _ _ _ h => h) rfl (by kernel_rfl) trivial (r_move rfl) rfl ?_
              refine an_read 13 (by kernel_rfl) (fun _ _ _ h => h) rfl (by kernel_rfl) trivial (r_move rfl) rfl ?_
              refine an_read 14 (by kernel_rfl) (fun _ _ _ h => h) rfl (by kernel_rfl) trivial (r_idxAddr_os Try.underlying36 Try.sizeOf3 rfl rfl rfl (show 0 ≤ i21 from by omega) (show i21 < (s13.2.2.length : Int) from by omega)) rfl ?_
              refine an_read 15 (by kernel_rfl) (fun _ _ _ h => h) rfl (by kernel_rfl) trivial (r_load_elem_int Try.isAgg3 Try.sizeOf3 rfl rfl (show i21.toNat < s13.2.2.length from by omega)) rfl ?_
              refine an_read 16 (by kernel_rfl) (fun _ _ _ h => h) rfl (by kernel_rfl) trivial (r_move rfl) rfl ?_
              refine an_read 17 (by kernel_rfl) (fun _ _ _ h => h) rfl (by kernel_rfl) trivial (r_move rfl) rfl ?_
              refine an_read 18 (by kernel_rfl) (fun _ _ _ h => h) rfl (by kernel_rfl) trivial (r_subI rfl rfl (wrap_id (by omega) (by omega))) rfl ?_
              refine an_scall 19 (by kernel_rfl) (fun _ _ _ h => h) rfl (by kernel_rfl) trivial (scall (c_spec_l2All (is_mk r42h)) rfl Try.func106 rfl rfl rfl rfl (fun σ => ⟨ad_ren rfl, trivial⟩)) rfl ?_
              refine an_read 20 (by kernel_rfl) (fun _ _ _ h => h) rfl (by kernel_rfl) trivial (r_mul rfl rfl) rfl ?_
              refine an_read 21 (by kernel_rfl) (fun _ _ _ h => h) rfl (by kernel_rfl) trivial (r_add rfl rfl) rfl ?_
              refine an_read 22 (by kernel_rfl) (fun _ _ _ h => h) rfl (by kernel_rfl) trivial (r_idxAddr_arr (i := (IntKind.wrap .i64 (i21 + (x0.getD i28.toNat 0)))) Try.underlying120 Try.sizeOf3 rfl rfl (show 0 ≤ (IntKind.wrap .i64 (i21 + (x0.getD i28.toNat 0))) from by omega) (show (IntKind.wrap .i64 (i21 + (x0.getD i28.toNat 0))) < (41 : Int) from by omega)) rfl ?_
              refine an_tail rfl rfl ?_
              refine ao_effS trivial (e_store_elema_int Try.sizeOf3 rfl rfl rfl rfl (show (IntKind.wrap .i64 (i21 + (x0.getD i28.toNat 0))).toNat < 41 from by omega) rfl) ?_
              refine ao_nil ?_
              refine aq_in ?_
              refine aq_in ?_
              refine aq_then ?_
              refine aw_region ?_
              refine ao_read trivial (r_move rfl) rfl ?_
              refine ao_read trivial (r_addI rfl rfl (wrap_id (by omega) (by omega))) rfl ?_
              refine ao_read trivial (r_assign rfl) rfl ?_
              refine ao_nil ?_
              exact aq_again (AL.sub (sub_mk idn (by exact ⟨⟨_, rfl, ad_ren rfl⟩, ⟨_, rfl, ad_ren rfl⟩, ⟨_, rfl, ad_ren rfl⟩, ⟨_, rfl, ad_ren rfl⟩, ⟨_, rfl, ad_ren rfl⟩, ⟨_, rfl, ad_ren rfl⟩, ⟨_, rfl, ad_ren rfl⟩, ⟨_, rfl, ad_ren rfl⟩, ⟨_, rfl, ad_ren rfl⟩, ⟨_, rfl, ad_ren rfl⟩, trivial⟩) (by exact ⟨⟨_, rfl, ⟨rfl, trivial⟩⟩, ⟨_, rfl, ⟨rfl, trivial⟩⟩, ⟨_, rfl, ⟨rfl, trivial⟩⟩, ⟨_, rfl, rfl⟩, ⟨_, rfl, rfl⟩, trivial⟩) (by rfl) (nk rfl)) (ih29 d29 (i28 + 1) ((s27.1.set (IntKind.wrap .i64 (i21 + (x0.getD i28.toNat 0))).toNat (IntKind.wrap .i64 ((s27.1.getD (IntKind.wrap .i64 (i21 + (x0.getD i28.toNat 0))).toNat 0) + (IntKind.wrap .i64 ((s13.2.2.getD i21.toNat 0) * r42))))), s27.2) (by omega) ⟨by omega, (by (try simp only [List.length_set, List.length_append, List.length_cons, List.length_nil, List.length_replicate, List.length_take, List.length_drop]) <;> omega), (by (try simp only [List.length_set, List.length_append, List.length_cons, List.length_nil, List.length_replicate, List.length_take, List.length_drop]) <;> omega), (by (try simp only [List.length_set, List.length_append, List.length_cons, List.length_nil, List.length_replicate, List.length_take, List.length_drop]) <;> omega), (by (try simp only [List.length_set, List.length_append, List.length_cons, List.length_nil, List.length_replicate, List.length_take, List.length_drop]) <;> omega)⟩ h))
            · have q40 : ¬ (x2 ≤ (IntKind.wrap .i64 (i21 + (x0.getD i28.toNat 0)))) := d_f hb38
              replace h := is_else (d_f hb38) h
              obtain ⟨g43, h⟩ := is_guard h
              refine aw_draw 20 (by kernel_rfl) (by kernel_rfl) ?_
              refine an_read 0 (by kernel_rfl) (fun _ _ _ h => h) rfl (by kernel_rfl) trivial (r_move rfl) rfl ?_
              refine an_read 1 (by kernel_rfl) (fun _ _ _ h => h) rfl (by kernel_rfl) trivial (r_move rfl) rfl ?_
              refine an_read 2 (by kernel_rfl) (fun _ _ _ h => h) rfl (by kernel_rfl) trivial (r_move rfl) rfl ?_
              refine an_read 3 (by kernel_rfl) (fun _ _ _ h => h) rfl (by kernel_rfl) trivial (r_idxAddr_arr (i := i28) Try.underlying43 Try.sizeOf3 rfl rfl (show 0 ≤ i28 from by omega) (show i28 < (6 : Int) from by omega)) rfl ?_
              refine an_read 4 (by kernel_rfl) (fun _ _ _ h => h) rfl (by kernel_rfl) trivial (r_load_elema_int Try.isAgg3 Try.sizeOf3 rfl rfl rfl (show i28.toNat < 6 from by omega)) rfl ?_
              refine an_read 5 (by kernel_rfl) (fun _ _ _ h => h) rfl (by kernel_rfl) trivial (r_add rfl rfl) rfl ?_
              refine an_read 6 (by kernel_rfl) (fun _ _ _ h => h) rfl (by kernel_rfl) trivial (r_move rfl) rfl ?_
              refine an_read 7 (by kernel_rfl) (fun _ _ _ h => h) rfl (by kernel_rfl) trivial (r_move rfl) rfl ?_
              refine an_read 8 (by kernel_rfl) (fun _ _ _ h => h) rfl (by kernel_rfl) trivial (r_move rfl) rfl ?_
              refine an_read 9 (by kernel_rfl) (fun _ _ _ h => h) rfl (by kernel_rfl) trivial (r_idxAddr_arr (i := i28) Try.underlying43 Try.sizeOf3 rfl rfl (show 0 ≤ i28 from by omega) (show i28 < (6 : Int) from by omega)) rfl ?_
              refine an_read 10 (by kernel_rfl) (fun _ _ _ h => h) rfl (by kernel_rfl) trivial (r_load_elema_int Try.isAgg3 Try.sizeOf3 rfl rfl rfl (show i28.toNat < 6 from by omega)) rfl ?_
              refine an_read 11 (by kernel_rfl) (fun _ _ _ h => h) rfl (by kernel_rfl) trivial (r_add rfl rfl) rfl ?_
              refine an_read 12 (by kernel_rfl) (fun _ _ _ h => h) rfl (by kernel_rfl) trivial (r_idxAddr_os Try.underlying36 Try.sizeOf3 rfl rfl rfl (show 0 ≤ (IntKind.wrap .i64 (i21 + (x0.getD i28.toNat 0))) from by omega) (show (IntKind.wrap .i64 (i21 + (x0.getD i28.toNat 0))) < (s27.2.length : Int) from by omega)) rfl ?_
              refine an_read 13 (by kernel_rfl) (fun _ _ _ h => h) rfl (by kernel_rfl) trivial (r_load_elem_int Try.isAgg3 Try.sizeOf3 rfl rfl (show (IntKind.wrap .i64 (i21 + (x0.getD i28.toNat 0))).toNat < s27.2.length from by omega)) rfl ?_
              refine an_read 14 (by kernel_rfl) (fun _ _ _ h => h) rfl (by kernel_rfl) trivial (r_move rfl) rfl ?_
              refine an_read 15 (by kernel_rfl) (fun _ _ _ h => h) rfl (by kernel_rfl) trivial (r_move rfl) rfl ?_
              refine an_read 16 (by kernel_rfl) (fun _ _ _ h => h) rfl (by kernel_rfl) trivial (r_idxAddr_os Try.underlying36 Try.sizeOf3 rfl rfl rfl (show 0 ≤ i21 from by omega) (show i21 < (s13.2.2.length : Int) from by omega)) rfl ?_
              refine an_read 17 (by kernel_rfl) (fun _ _ _ h => h) rfl (by kernel_rfl) trivial (r_load_elem_int Try.isAgg3 Try.sizeOf3 rfl rfl (show i21.toNat < s13.2.2.length from by omega)) rfl ?_
              refine an_read 18 (by kernel_rfl) (fun _ _ _ h => h) rfl (by kernel_rfl) trivial (r_add rfl rfl) rfl ?_
              refine an_read 19 (by kernel_rfl) (fun _ _ _ h => h) rfl (by kernel_rfl) trivial (r_idxAddr_os Try.underlying36 Try.sizeOf3 rfl rfl rfl (show 0 ≤ (IntKind.wrap .i64 (i21 + (x0.getD i28.toNat 0))) from by omega) (show (IntKind.wrap .i64 (i21 + (x0.getD i28.toNat 0))) < (s27.2.length : Int) from by omega)) rfl ?_
              refine an_tail rfl rfl ?_
              refine ao_effS trivial (e_store_elem_int Try.sizeOf3 rfl rfl rfl rfl (show (IntKind.wrap .i64 (i21 + (x0.getD i28.toNat 0))).toNat < s27.2.length from by omega) rfl) ?_
              refine ao_nil ?_
              refine aq_in ?_
              refine aq_in ?_
              refine aq_then ?_
              refine aw_region ?_
              refine ao_read trivial (r_move rfl) rfl ?_
              refine ao_read trivial (r_addI rfl rfl (wrap_id (by omega) (by omega))) rfl ?_
              refine ao_read trivial (r_assign rfl) rfl ?_
              refine ao_nil ?_
              exact aq_again (AL.sub (sub_mk idn (by exact ⟨⟨_, rfl, ad_ren rfl⟩, ⟨_, rfl, ad_ren rfl⟩, ⟨_, rfl, ad_ren rfl⟩, ⟨_, rfl, ad_ren rfl⟩, ⟨_, rfl, ad_ren rfl⟩, ⟨_, rfl, ad_ren rfl⟩, ⟨_, rfl, ad_ren rfl⟩, ⟨_, rfl, ad_ren rfl⟩, ⟨_, rfl, ad_ren rfl⟩, ⟨_, rfl, ad_ren rfl⟩, trivial⟩) (by exact ⟨⟨_, rfl, ⟨rfl, trivial⟩⟩, ⟨_, rfl, ⟨rfl, trivial⟩⟩, ⟨_, rfl, ⟨rfl, trivial⟩⟩, ⟨_, rfl, rfl⟩, ⟨_, rfl, rfl⟩, trivial⟩) (by rfl) (nk rfl)) (ih29 d29 (i28 + 1) (s27.1, (s27.2.set (IntKind.wrap .i64 (i21 + (x0.getD i28.toNat 0))).toNat (IntKind.wrap .i64 ((s27.2.getD (IntKind.wrap .i64 (i21 + (x0.getD i28.toNat 0))).toNat 0) + (s13.2.2.getD i21.toNat 0))))) (by omega) ⟨by omega, (by (try simp only [List.length_set, List.length_append, List.length_cons, List.length_nil, List.length_replicate, List.length_take, List.length_drop]) <;> omega), (by (try simp only [List.length_set, List.length_append, List.length_cons, List.length_nil, List.length_replicate, List.length_take, List.length_drop]) <;> omega), (by (try simp only [List.length_set, List.length_append, List.length_cons, List.length_nil, List.length_replicate, List.length_take, List.length_drop]) <;> omega), (by (try simp only [List.length_set, List.length_append, List.length_cons, List.length_nil, List.length_replicate, List.length_take, List.length_drop]) <;> omega)⟩ h))
        · have q33 := d_f hb31
          obtain rfl : d29 = 0 := by omega
          replace h := is_cnt0 h
          refine aw_exit ?_
          refine aq_then_exit ?_
          refine aq_then_exit ?_
          refine aq_in_exit ?_
          refine aq_in ?_
          refine aq_then ?_
          refine aw_region ?_
          refine ao_read trivial (r_move rfl) rfl ?_
          refine ao_read trivial (r_addI rfl rfl (wrap_id (by omega) (by omega))) rfl ?_
          refine ao_read trivial (r_assign rfl) rfl ?_
          refine ao_nil ?_
          exact aq_again (AL.sub (sub_mk idn (by exact ⟨⟨_, rfl, ad_ren rfl⟩, ⟨_, rfl, ad_ren rfl⟩, ⟨_, rfl, ad_ren rfl⟩, ⟨_, rfl, ad_ren rfl⟩, ⟨_, rfl, ad_ren rfl⟩, ⟨_, rfl, ad_ren rfl⟩, ⟨_, rfl, ad_ren rfl⟩, ⟨_, rfl, ad_ren rfl⟩, ⟨_, rfl, ad_ren rfl⟩, trivial⟩) (by exact ⟨⟨_, rfl, ⟨rfl, trivial⟩⟩, ⟨_, rfl, ⟨rfl, trivial⟩⟩, ⟨_, rfl, ⟨rfl, trivial⟩⟩, ⟨_, rfl, rfl⟩, ⟨_, rfl, rfl⟩, trivial⟩) (by rfl) (nk rfl)) (ih22 d22 (i21 + 1) (s27.1, s27.2) (by omega) ⟨by omega, (by (try simp only [List.length_set, List.length_append, List.length_cons, List.length_nil, List.length_replicate, List.length_take, List.length_drop]) <;> omega), (by (try simp only [List.length_set, List.length_append, List.length_cons, List.length_nil, List.length_replicate, List.length_take, List.length_drop]) <;> omega), (by (try simp only [List.length_set, List.length_append, List.length_cons, List.length_nil, List.length_replicate, List.length_take, List.length_drop]) <;> omega), (by (try simp only [List.length_set, List.length_append, List.length_cons, List.length_nil, List.length_replicate, List.length_take, List.length_drop]) <;> omega)⟩ h))
      · have q26 := d_f hb24
        obtain rfl : d22 = 0 := by omega
        replace h := is_cnt0 h
        refine aw_exit ?_
        refine aq_then_exit ?_
        refine aq_then_exit ?_
        refine aq_in_exit ?_
        refine aq_then ?_
        refine aw_region ?_
        refine ao_read trivial (r_move rfl) rfl ?_
        refine ao_read trivial (r_assign rfl) rfl ?_
        refine ao_nil ?_
        refine aq_in ?_
        refine aq_then ?_
        refine aw_region ?_
        refine ao_read trivial (r_move rfl) rfl ?_
        refine ao_read trivial (r_addI rfl rfl (wrap_id (by omega) (by omega))) rfl ?_
        refine ao_read trivial (r_assign rfl) rfl ?_
        refine ao_nil ?_
        exact aq_again (AL.sub (sub_mk (rn [(3, 4)]) (by exact ⟨⟨_, rfl, ad_ren rfl⟩, ⟨_, rfl, ad_ren rfl⟩, ⟨_, rfl, ad_ren rfl⟩, ⟨_, rfl, ad_ren rfl⟩, ⟨_, rfl, ad_ren rfl⟩, ⟨_, rfl, ad_ren rfl⟩, ⟨_, rfl, ad_ren rfl⟩, trivial⟩) (by exact ⟨⟨_, rfl, ⟨rfl, trivial⟩⟩, ⟨_, rfl, ⟨rfl, trivial⟩⟩, ⟨_, rfl, ⟨rfl, trivial⟩⟩, ⟨_, rfl, rfl⟩, trivial⟩) (by rfl) (nk rfl)) (ih15 ((s13.1 + 1), s20.1, s20.2) ⟨(by (try simp only [List.length_set, List.length_append, List.length_cons, List.length_nil, List.length_replicate, List.length_take, List.length_drop]) <;> omega), (by (try simp only [List.length_set, List.length_append, List.length_cons, List.length_nil, List.length_replicate, List.length_take, List.length_drop]) <;> omega), (by (try simp only [List.length_set, List.length_append, List.length_cons, List.length_nil, List.length_replicate, List.length_take, List.length_drop]) <;> omega)⟩ h))
    · have q19 := d_f hb17
      replace h := is_else (d_f hb17) h
      refine aw_exit ?_
      refine aq_then_exit ?_
      refine aq_then_exit ?_
      refine aq_in_exit ?_
      refine aq_then ?_
      refine aw_seq ?_
      refine aw_region ?_
      refine ao_read trivial (r_load_arr rfl Try.isAgg120 Try.sizeOf120 rfl rfl rfl) rfl ?_
      refine ao_effS trivial (e_store rfl rfl rfl rfl Try.sizeOf120 rfl) ?_
      refine ao_nil ?_
      refine aq_then ?_
      refine aw_ret ?_
      refine aq_ret ?_
      obtain rfl := is_some h
      exact aq_finx (l := [.cell 6 120]) (xs := [.v (.arr 41 (.int .i64)) s13.2.1]) idn [.v (.arr 41 (.int .i64)) s13.2.1] [] rfl (by exact ⟨⟨⟨_, _, rfl⟩, r_load_arr rfl Try.isAgg120 Try.sizeOf120 rfl rfl rfl⟩, trivial⟩) (by exact ⟨ad_ren rfl, trivial⟩) (by exact trivial) rfl (nk rfl) rfl rfl ⟨rfl, rfl⟩
  refine ap_let (g := 2) (listed := #[true, true, true, true, false, false]) [(1, .int .i64 x1), (2, .int .i64 x2), (3, .ref 0 0), (6, .ref 1 0), (7, .ref 2 0), (13, .v (.arr 41 (.int .i64)) ((List.replicate 41 0) : (List Int))), (15, .os 3)] [(0, .var [.arr (.int .i64) 6 x0]), (1, .var [.arr (.int .i64) 41 ((List.replicate 41 0) : (List Int))]), (2, .var [.arr (.int .i64) 41 ((List.replicate 41 0) : (List Int))]), (3, .row (.int .i64) ((List.replicate x2.toNat 0) : (List Int)))] ?_ (fun k6 => ?_)
  · refine ap_all [4] (by kernel_rfl) ⟨?_, trivial⟩
    refine apo_ao rfl ?_
    refine ao_effS trivial (e_store rfl rfl rfl rfl Try.sizeOf120 rfl) ?_
    refine ao_nil ?_
    refine ap_in ?_
    refine ap_pure 5 (by kernel_rfl) (fun _ _ _ h => h) rfl (by kernel_rfl) trivial (rp_assign rfl) rfl ?_
    exact ap_end (by kernel_rfl) (AQ.sub (sub_mk idn (by exact ⟨⟨_, rfl, ad_ren rfl⟩, ⟨_, rfl, ad_ren rfl⟩, ⟨_, rfl, ad_ren rfl⟩, ⟨_, rfl, ad_ren rfl⟩, ⟨_, rfl, ad_ren rfl⟩, ⟨_, rfl, ad_ren rfl⟩, trivial⟩) (by exact ⟨⟨_, rfl, ⟨rfl, trivial⟩⟩, ⟨_, rfl, ⟨rfl, trivial⟩⟩, ⟨_, rfl, ⟨rfl, trivial⟩⟩, ⟨_, rfl, rfl⟩, trivial⟩) (by rfl) (nk rfl)) key)
  refine ap_let (g := 2) (listed := #[true, true, false, true, true, false]) [(1, .int .i64 x1), (2, .int .i64 x2), (3, .ref 0 0), (6, .ref 1 0), (7, .ref 2 0), (14, .int .i64 x2)] [(0, .var [.arr (.int .i64) 6 x0]), (1, .var [.arr (.int .i64) 41 ((List.replicate 41 0) : (List Int))]), (2, .var [.arr (.int .i64) 41 ((List.replicate 41 0) : (List Int))])] ?_ (fun k8 => ?_)
  · refine ap_all [2] (by kernel_rfl) ⟨?_, trivial⟩
    refine apo_ao rfl ?_
    refine ao_eff trivial (e_makeSlice 3 (t := (.int .i64)) Try.underlying36 (rfl : Try.prog.info? 3 = some _) rfl rfl rfl rfl rfl rfl (by omega) (by omega) rfl rfl) rfl ?_
    refine ao_nil ?_
    refine ap_in ?_
    refine ap_pure 5 (by kernel_rfl) (fun _ _ _ h => h) rfl (by kernel_rfl) trivial (rp_assign rfl) rfl ?_
    exact ap_end (by kernel_rfl) (AQ.sub (sub_mk idn (by exact ⟨⟨_, rfl, ad_ren rfl⟩, ⟨_, rfl, ad_ren rfl⟩, ⟨_, rfl, ad_ren rfl⟩, ⟨_, rfl, ad_ren rfl⟩, ⟨_, rfl, ad_ren rfl⟩, ⟨_, rfl, ad_ren rfl⟩, trivial⟩) (by exact ⟨⟨_, rfl, ⟨rfl, trivial⟩⟩, ⟨_, rfl, ⟨rfl, trivial⟩⟩, ⟨_, rfl, ⟨rfl, trivial⟩⟩, ⟨_, rfl, rfl⟩, trivial⟩) (by rfl) (nk rfl)) key)
  refine ap_let (g := 3) (listed := #[true, true, true, false, false, false]) [(1, .int .i64 x1), (2, .int .i64 x2), (3, .ref 0 0), (6, .ref 1 0), (13, .v (.arr 41 (.int .i64)) ((List.replicate 41 0) : (List Int))), (15, .os 2)] [(0, .var [.arr (.int .i64) 6 x0]), (1, .var [.arr (.int .i64) 41 ((List.replicate 41 0) : (List Int))]), (2, .row (.int .i64) ((List.replicate x2.toNat 0) : (List Int)))] ?_ (fun k5 => ?_)
  · refine ap_all [3] (by kernel_rfl) ⟨?_, trivial⟩
    refine apo_ao rfl ?_
    refine ao_eff trivial (e_alloc 3 (y := .v (.arr 41 (.int .i64)) ((List.replicate 41 0) : (List Int))) Try.zeroValue120 (fun ρ h M => ra_zero_arr (t := (.int .i64)) rfl) rfl rfl rfl rfl rfl) rfl ?_
    refine ao_nil ?_
    refine ap_in ?_
    exact ap_go (by kernel_rfl) (sub_mk (rn [(2, 3), (3, 2)]) (by exact ⟨⟨_, rfl, ad_ren rfl⟩, ⟨_, rfl, ad_ren rfl⟩, ⟨_, rfl, ad_ren rfl⟩, ⟨_, rfl, ad_ren rfl⟩, ⟨_, rfl, ad_ren rfl⟩, ⟨_, rfl, ad_ren rfl⟩, ⟨_, rfl, ad_ren rfl⟩, trivial⟩) (by exact ⟨⟨_, rfl, ⟨rfl, trivial⟩⟩, ⟨_, rfl, ⟨rfl, trivial⟩⟩, ⟨_, rfl, ⟨rfl, trivial⟩⟩, ⟨_, rfl, rfl⟩, trivial⟩) (by rfl) (nk rfl)) k6
  refine ap_let (g := 3) (listed := #[true, true, false, true, false, false]) [(1, .int .i64 x1), (2, .int .i64 x2), (3, .ref 0 0), (6, .ref 1 0), (7, .ref 2 0), (13, .v (.arr 41 (.int .i64)) ((List.replicate 41 0) : (List Int))), (14, .int .i64 x2)] [(0, .var [.arr (.int .i64) 6 x0]), (1, .var [.arr (.int .i64) 41 ((List.replicate 41 0) : (List Int))]), (2, .var [.arr (.int .i64) 41 ((List.replicate 41 0) : (List Int))])] ?_ (fun k7 => ?_)
  · refine ap_all [2, 4] (by kernel_rfl) ⟨?_, ?_, trivial⟩
    · refine apo_ao rfl ?_
      refine ao_eff trivial (e_makeSlice 3 (t := (.int .i64)) Try.underlying36 (rfl : Try.prog.info? 3 = some _) rfl rfl rfl rfl rfl rfl (by omega) (by omega) rfl rfl) rfl ?_
      refine ao_nil ?_
      refine ap_in ?_
      exact ap_go (by kernel_rfl) (sub_mk idn (by exact ⟨⟨_, rfl, ad_ren rfl⟩, ⟨_, rfl, ad_ren rfl⟩, ⟨_, rfl, ad_ren rfl⟩, ⟨_, rfl, ad_ren rfl⟩, ⟨_, rfl, ad_ren rfl⟩, ⟨_, rfl, ad_ren rfl⟩, ⟨_, rfl, ad_ren rfl⟩, trivial⟩) (by exact ⟨⟨_, rfl, ⟨rfl, trivial⟩⟩, ⟨_, rfl, ⟨rfl, trivial⟩⟩, ⟨_, rfl, ⟨rfl, trivial⟩⟩, ⟨_, rfl, rfl⟩, trivial⟩) (by rfl) (nk rfl)) k6
    · refine apo_ao rfl ?_
      refine ao_effS trivial (e_store rfl rfl rfl rfl Try.sizeOf120 rfl) ?_
      refine ao_nil ?_
      refine ap_in ?_
      exact ap_go (by kernel_rfl) (sub_mk idn (by exact ⟨⟨_, rfl, ad_ren rfl⟩, ⟨_, rfl, ad_ren rfl⟩, ⟨_, rfl, ad_ren rfl⟩, ⟨_, rfl, ad_ren rfl⟩, ⟨_, rfl, ad_ren rfl⟩, ⟨_, rfl, ad_ren rfl⟩, trivial⟩) (by exact ⟨⟨_, rfl, ⟨rfl, trivial⟩⟩, ⟨_, rfl, ⟨rfl, trivial⟩⟩, ⟨_, rfl, ⟨rfl, trivial⟩⟩, trivial⟩) (by rfl) (nk rfl)) k8
  refine ap_let (g := 3) (listed := #[false, true, true, true, false, false]) [(1, .int .i64 x1), (2, .int .i64 x2), (3, .ref 0 0), (6, .ref 1 0), (7, .ref 2 0), (15, .os 3)] [(0, .var [.arr (.int .i64) 6 x0]), (1, .var [.arr (.int .i64) 41 ((List.replicate 41 0) : (List Int))]), (2, .var [.arr (.int .i64) 41 ((List.replicate 41 0) : (List Int))]), (3, .row (.int .i64) ((List.replicate x2.toNat 0) : (List Int)))] ?_ (fun k10 => ?_)
  · refine ap_all [0] (by kernel_rfl) ⟨?_, trivial⟩
    refine apo_ao rfl ?_
    refine ao_read trivial (r_build_zero (t := (.int .i64)) Try.underlying120 Try.zeroValue120 Try.sizeOf3 rfl) rfl ?_
    refine ao_nil ?_
    refine ap_in ?_
    exact ap_go (by kernel_rfl) (sub_mk idn (by exact ⟨⟨_, rfl, ad_ren rfl⟩, ⟨_, rfl, ad_ren rfl⟩, ⟨_, rfl, ad_ren rfl⟩, ⟨_, rfl, ad_ren rfl⟩, ⟨_, rfl, ad_ren rfl⟩, ⟨_, rfl, ad_ren rfl⟩, ⟨_, rfl, ad_ren rfl⟩, trivial⟩) (by exact ⟨⟨_, rfl, ⟨rfl, trivial⟩⟩, ⟨_, rfl, ⟨rfl, trivial⟩⟩, ⟨_, rfl, ⟨rfl, trivial⟩⟩, ⟨_, rfl, rfl⟩, trivial⟩) (by rfl) (nk rfl)) k6
  refine ap_let (g := 4) (listed := #[true, true, false, false, false, false]) [(1, .int .i64 x1), (2, .int .i64 x2), (3, .ref 0 0), (6, .ref 1 0), (13, .v (.arr 41 (.int .i64)) ((List.replicate 41 0) : (List Int))), (14, .int .i64 x2)] [(0, .var [.arr (.int .i64) 6 x0]), (1, .var [.arr (.int .i64) 41 ((List.replicate 41 0) : (List Int))])] ?_ (fun k4 => ?_)
  · refine ap_all [2, 3] (by kernel_rfl) ⟨?_, ?_, trivial⟩
    · refine apo_ao rfl ?_
      refine ao_eff trivial (e_makeSlice 2 (t := (.int .i64)) Try.underlying36 (rfl : Try.prog.info? 3 = some _) rfl rfl rfl rfl rfl rfl (by omega) (by omega) rfl rfl) rfl ?_
      refine ao_nil ?_
      refine ap_in ?_
      exact ap_go (by kernel_rfl) (sub_mk idn (by exact ⟨⟨_, rfl, ad_ren rfl⟩, ⟨_, rfl, ad_ren rfl⟩, ⟨_, rfl, ad_ren rfl⟩, ⟨_, rfl, ad_ren rfl⟩, ⟨_, rfl, ad_ren rfl⟩, ⟨_, rfl, ad_ren rfl⟩, trivial⟩) (by exact ⟨⟨_, rfl, ⟨rfl, trivial⟩⟩, ⟨_, rfl, ⟨rfl, trivial⟩⟩, ⟨_, rfl, rfl⟩, trivial⟩) (by rfl) (nk rfl)) k5
    · refine apo_ao rfl ?_
      refine ao_eff trivial (e_alloc 2 (y := .v (.arr 41 (.int .i64)) ((List.replicate 41 0) : (List Int))) Try.zeroValue120 (fun ρ h M => ra_zero_arr (t := (.int .i64)) rfl) rfl rfl rfl rfl rfl) rfl ?_
      refine ao_nil ?_
      refine ap_in ?_
      exact ap_go (by kernel_rfl) (sub_mk idn (by exact ⟨⟨_, rfl, ad_ren rfl⟩, ⟨_, rfl, ad_ren rfl⟩, ⟨_, rfl, ad_ren rfl⟩, ⟨_, rfl, ad_ren rfl⟩, ⟨_, rfl, ad_ren rfl⟩, ⟨_, rfl, ad_ren rfl⟩, ⟨_, rfl, ad_ren rfl⟩, trivial⟩) (by exact ⟨⟨_, rfl, ⟨rfl, trivial⟩⟩, ⟨_, rfl, ⟨rfl, trivial⟩⟩, ⟨_, rfl, ⟨rfl, trivial⟩⟩, trivial⟩) (by rfl) (nk rfl)) k7
  refine ap_let (g := 4) (listed := #[false, true, true, false, false, false]) [(1, .int .i64 x1), (2, .int .i64 x2), (3, .ref 0 0), (6, .ref 1 0), (15, .os 2)] [(0, .var [.arr (.int .i64) 6 x0]), (1, .var [.arr (.int .i64) 41 ((List.replicate 41 0) : (List Int))]), (2, .row (.int .i64) ((List.replicate x2.toNat 0) : (List Int)))] ?_ (fun k9 => ?_)
  · refine ap_all [0, 3] (by kernel_rfl) ⟨?_, ?_, trivial⟩
    · refine apo_ao rfl ?_
      refine ao_read trivial (r_build_zero (t := (.int .i64)) Try.underlying120 Try.zeroValue120 Try.sizeOf3 rfl) rfl ?_
      refine ao_nil ?_
      refine ap_in ?_
      exact ap_go (by kernel_rfl) (sub_mk idn (by exact ⟨⟨_, rfl, ad_ren rfl⟩, ⟨_, rfl, ad_ren rfl⟩, ⟨_, rfl, ad_ren rfl⟩, ⟨_, rfl, ad_ren rfl⟩, ⟨_, rfl, ad_ren rfl⟩, ⟨_, rfl, ad_ren rfl⟩, trivial⟩) (by exact ⟨⟨_, rfl, ⟨rfl, trivial⟩⟩, ⟨_, rfl, ⟨rfl, trivial⟩⟩, ⟨_, rfl, rfl⟩, trivial⟩) (by rfl) (nk rfl)) k5
    · refine apo_ao rfl ?_
      refine ao_eff trivial (e_alloc 3 (y := .v (.arr 41 (.int .i64)) ((List.replicate 41 0) : (List Int))) Try.zeroValue120 (fun ρ h M => ra_zero_arr (t := (.int .i64)) rfl) rfl rfl rfl rfl rfl) rfl ?_
      refine ao_nil ?_
      refine ap_in ?_
      exact ap_go (by kernel_rfl) (sub_mk (rn [(2, 3), (3, 2)]) (by exact ⟨⟨_, rfl, ad_ren rfl⟩, ⟨_, rfl, ad_ren rfl⟩, ⟨_, rfl, ad_ren rfl⟩, ⟨_, rfl, ad_ren rfl⟩, ⟨_, rfl, ad_ren rfl⟩, ⟨_, rfl, ad_ren rfl⟩, trivial⟩) (by exact ⟨⟨_, rfl, ⟨rfl, trivial⟩⟩, ⟨_, rfl, ⟨rfl, trivial⟩⟩, ⟨_, rfl, ⟨rfl, trivial⟩⟩, ⟨_, rfl, rfl⟩, trivial⟩) (by rfl) (nk rfl)) k10
  refine ap_let (g := 4) (listed := #[false, true, false, true, false, false]) [(1, .int .i64 x1), (2, .int .i64 x2), (3, .ref 0 0), (6, .ref 1 0), (7, .ref 2 0), (14, .int .i64 x2)] [(0, .var [.arr (.int .i64) 6 x0]), (1, .var [.arr (.int .i64) 41 ((List.replicate 41 0) : (List Int))]), (2, .var [.arr (.int .i64) 41 ((List.replicate 41 0) : (List Int))])] ?_ (fun k11 => ?_)
  · refine ap_all [0, 2] (by kernel_rfl) ⟨?_, ?_, trivial⟩
    · refine apo_ao rfl ?_
      refine ao_read trivial (r_build_zero (t := (.int .i64)) Try.underlying120 Try.zeroValue120 Try.sizeOf3 rfl) rfl ?_
      refine ao_nil ?_
      refine ap_in ?_
      exact ap_go (by kernel_rfl) (sub_mk idn (by exact ⟨⟨_, rfl, ad_ren rfl⟩, ⟨_, rfl, ad_ren rfl⟩, ⟨_, rfl, ad_ren rfl⟩, ⟨_, rfl, ad_ren rfl⟩, ⟨_, rfl, ad_ren rfl⟩, ⟨_, rfl, ad_ren rfl⟩, ⟨_, rfl, ad_ren rfl⟩, trivial⟩) (by exact ⟨⟨_, rfl, ⟨rfl, trivial⟩⟩, ⟨_, rfl, ⟨rfl, trivial⟩⟩, ⟨_, rfl, ⟨rfl, trivial⟩⟩, trivial⟩) (by rfl) (nk rfl)) k7
    · refine apo_ao rfl ?_
      refine ao_eff trivial (e_makeSlice 3 (t := (.int .i64)) Try.underlying36 (rfl : Try.prog.info? 3 = some _) rfl rfl rfl rfl rfl rfl (by omega) (by omega) rfl rfl) rfl ?_
      refine ao_nil ?_
      refine ap_in ?_
      exact ap_go (by kernel_rfl) (sub_mk idn (by exact ⟨⟨_, rfl, ad_ren rfl⟩, ⟨_, rfl, ad_ren rfl⟩, ⟨_, rfl, ad_ren rfl⟩, ⟨_, rfl, ad_ren rfl⟩, ⟨_, rfl, ad_ren rfl⟩, ⟨_, rfl, ad_ren rfl⟩, trivial⟩) (by exact ⟨⟨_, rfl, ⟨rfl, trivial⟩⟩, ⟨_, rfl, ⟨rfl, trivial⟩⟩, ⟨_, rfl, ⟨rfl, trivial⟩⟩, ⟨_, rfl, rfl⟩, trivial⟩) (by rfl) (nk rfl)) k10
  refine ap_let (g := 5) (listed := #[false, true, false, false, false, false]) [(1, .int .i64 x1), (2, .int .i64 x2), (3, .ref 0 0), (6, .ref 1 0), (14, .int .i64 x2)] [(0, .var [.arr (.int .i64) 6 x0]), (1, .var [.arr (.int .i64) 41 ((List.replicate 41 0) : (List Int))])] ?_ (fun k3 => ?_)
  · refine ap_all [0, 2, 3] (by kernel_rfl) ⟨?_, ?_, ?_, trivial⟩
    · refine apo_ao rfl ?_
      refine ao_read trivial (r_build_zero (t := (.int .i64)) Try.underlying120 Try.zeroValue120 Try.sizeOf3 rfl) rfl ?_
      refine ao_nil ?_
      refine ap_in ?_
      exact ap_go (by kernel_rfl) (sub_mk idn (by exact ⟨⟨_, rfl, ad_ren rfl⟩, ⟨_, rfl, ad_ren rfl⟩, ⟨_, rfl, ad_ren rfl⟩, ⟨_, rfl, ad_ren rfl⟩, ⟨_, rfl, ad_ren rfl⟩, ⟨_, rfl, ad_ren rfl⟩, trivial⟩) (by exact ⟨⟨_, rfl, ⟨rfl, trivial⟩⟩, ⟨_, rfl, ⟨rfl, trivial⟩⟩, trivial⟩) (by rfl) (nk rfl)) k4
    · refine apo_ao rfl ?_
      refine ao_eff trivial (e_makeSlice 2 (t := (.int .i64)) Try.underlying36 (rfl : Try.prog.info? 3 = some _) rfl rfl rfl rfl rfl rfl (by omega) (by omega) rfl rfl) rfl ?_
      refine ao_nil ?_
      refine ap_in ?_
      exact ap_go (by kernel_rfl) (sub_mk idn (by exact ⟨⟨_, rfl, ad_ren rfl⟩, ⟨_, rfl, ad_ren rfl⟩, ⟨_, rfl, ad_ren rfl⟩, ⟨_, rfl, ad_ren rfl⟩, ⟨_, rfl, ad_ren rfl⟩, trivial⟩) (by exact ⟨⟨_, rfl, ⟨rfl, trivial⟩⟩, ⟨_, rfl, ⟨rfl, trivial⟩⟩, ⟨_, rfl, rfl⟩, trivial⟩) (by rfl) (nk rfl)) k9
    · refine apo_ao rfl ?_
      refine ao_eff trivial (e_alloc 2 (y := .v (.arr 41 (.int .i64)) ((List.replicate 41 0) : (List Int))) Try.zeroValue120 (fun ρ h M => ra_zero_arr (t := (.int .i64)) rfl) rfl rfl rfl rfl rfl) rfl ?_
      refine ao_nil ?_
      refine ap_in ?_
      exact ap_go (by kernel_rfl) (sub_mk idn (by exact ⟨⟨_, rfl, ad_ren rfl⟩, ⟨_, rfl, ad_ren rfl⟩, ⟨_, rfl, ad_ren rfl⟩, ⟨_, rfl, ad_ren rfl⟩, ⟨_, rfl, ad_ren rfl⟩, ⟨_, rfl, ad_ren rfl⟩, trivial⟩) (by exact ⟨⟨_, rfl, ⟨rfl, trivial⟩⟩, ⟨_, rfl, ⟨rfl, trivial⟩⟩, ⟨_, rfl, ⟨rfl, trivial⟩⟩, trivial⟩) (by rfl) (nk rfl)) k11
  refine ap_pure 1 (by kernel_rfl) (fun _ _ _ h => h) rfl (by kernel_rfl) trivial (rp_move rfl) rfl ?_
  exact ap_go (by kernel_rfl) (sub_mk idn (by exact ⟨⟨_, rfl, ad_ren rfl⟩, ⟨_, rfl, ad_ren rfl⟩, ⟨_, rfl, ad_ren rfl⟩, ⟨_, rfl, ad_ren rfl⟩, ⟨_, rfl, ad_ren rfl⟩, trivial⟩) (by exact ⟨⟨_, rfl, ⟨rfl, trivial⟩⟩, ⟨_, rfl, ⟨rfl, trivial⟩⟩, trivial⟩) (by rfl) (nk rfl)) k3
theorem c_spec_l1Most {x0 : Int} {x1 : Int} {r : Int} (h : Is (p_spec_l1Most x0 x1) r) :
    Scalar Try.prog 145 [.int .i64 x0, .int .i64 x1] (.int .i64 r) := by
  unfold p_spec_l1Most at h
  refine ac_enter ⟨10, 0⟩ Try.func145 rfl rfl rfl rfl rfl (fun Γ => ?_)
  refine aw_seq ?_
  refine aw_region ?_
  refine ao_read trivial (r_assign rfl) rfl ?_
  refine ao_nil ?_
  refine aq_then ?_
  refine aw_seq ?_
  refine aw_seq ?_
  refine aw_region ?_
  refine ao_read trivial (r_move rfl) rfl ?_
  refine ao_read trivial (r_move rfl) rfl ?_
  refine ao_read trivial (r_gtr rfl rfl) rfl ?_
  refine ao_nil ?_
  refine aq_then ?_
  refine aw_cond rfl (fun hb1 => ?_) (fun hb1 => ?_)
  · have q2 := d_t hb1
    replace h := is_if (d_t hb1) h
    refine aw_seq ?_
    refine aw_region ?_
    refine ao_read trivial (r_move rfl) rfl ?_
    refine ao_read trivial (r_assign rfl) rfl ?_
    refine ao_nil ?_
    refine aq_then ?_
    refine aw_ret ?_
    refine aq_then_ret ?_
    refine aq_ret ?_
    obtain rfl := is_eq h
    exact aq_finx (l := [.tmp 4]) (xs := [.int .i64 x0]) idn [.int .i64 x0] [] rfl (by exact ⟨rfl, trivial⟩) (by exact ⟨ad_ren rfl, trivial⟩) (by exact trivial) rfl (nk rfl) rfl rfl ⟨rfl, rfl⟩
  · have q3 := d_f hb1
    replace h := is_else (d_f hb1) h
    refine aw_skip ?_
    refine aq_then ?_
    refine aw_seq ?_
    refine aw_region ?_
    refine ao_read trivial (r_move rfl) rfl ?_
    refine ao_read trivial (r_assign rfl) rfl ?_
    refine ao_nil ?_
    refine aq_then ?_
    refine aw_ret ?_
    refine aq_ret ?_
    obtain rfl := is_eq h
    exact aq_finx (l := [.tmp 4]) (xs := [.int .i64 x1]) idn [.int .i64 x1] [] rfl (by exact ⟨rfl, trivial⟩) (by exact ⟨ad_ren rfl, trivial⟩) (by exact trivial) rfl (nk rfl) rfl rfl ⟨rfl, rfl⟩
theorem c_spec_l2Cut {fu : Nat} {x0 : Int} {x1 : Int} {r : (List Int)} (h : Is (p_spec_l2Cut fu x0 x1) (some r)) :
    Scalar Try.prog 105 [.int .i64 x0, .int .i64 x1] (.v (.arr 2 (.int .i64)) r) := by
  unfold p_spec_l2Cut at h
  refine ac_enter ⟨24, 0⟩ Try.func105 rfl rfl rfl rfl rfl (fun Γ => ?_)
  refine aw_seq ?_
  refine aw_region ?_
  refine ao_eff trivial (e_alloc 0 (y := .v (.arr 2 (.int .i64)) ((List.replicate 2 0) : (List Int))) Try.zeroValue30 (fun ρ h M => ra_zero_arr (t := (.int .i64)) rfl) rfl rfl rfl rfl rfl) rfl ?_
  refine ao_nil ?_
  refine aq_then ?_
  refine aw_seq ?_
  refine aw_region ?_
  refine ao_read trivial (r_move rfl) rfl ?_
  refine ao_read trivial (r_move rfl) rfl ?_
  refine ao_read trivial (r_assign rfl) rfl ?_
  refine ao_read trivial (r_assign rfl) rfl ?_
  refine ao_nil ?_
  refine aq_then ?_
  refine aw_seq ?_
  refine aw_block ?_
  refine aw_loop (AL.sub (sub_mk idn (by exact ⟨⟨_, rfl, ad_ren rfl⟩, ⟨_, rfl, ad_ren rfl⟩, ⟨_, rfl, ad_ren rfl⟩, ⟨_, rfl, ad_ren rfl⟩, ⟨_, rfl, ad_ren rfl⟩, trivial⟩) (by exact ⟨⟨_, rfl, ⟨rfl, trivial⟩⟩, trivial⟩) (by rfl) (nk rfl)) (al_whl (fun (s1 : Int × Int) => [(0, .int .i64 x0), (1, .int .i64 x1), (4, .ref 0 0), (5, .int .i64 s1.1), (6, .int .i64 s1.2)]) (fun (s1 : Int × Int) => [(0, .var [.arr (.int .i64) 2 ((List.replicate 2 0) : (List Int))])]) (fun (s1 : Int × Int) => True) h trivial (fun d3 s1 hI h ih3 => ?_)))
  replace h := is_whlS h
  refine al_round ?_
  refine aw_seq ?_
  refine aw_seq ?_
  refine aw_region ?_
  refine ao_read trivial (r_move rfl) rfl ?_
  refine ao_read trivial (r_gtr rfl rfl) rfl ?_
  refine ao_nil ?_
  refine aq_then ?_
  refine aw_cond rfl (fun hb5 => ?_) (fun hb5 => ?_)
  · have q6 := d_t hb5
    replace h := is_if (d_t hb5) h
    refine aw_skip ?_
    refine aq_then ?_
    refine aw_block ?_
    refine aw_drawAll (by kernel_rfl) ?_
    refine an_read 0 (by kernel_rfl) (fun _ _ _ h => h) rfl (by kernel_rfl) trivial (r_move rfl) rfl ?_
    refine an_read 1 (by kernel_rfl) (fun _ _ _ h => h) rfl (by kernel_rfl) trivial (r_move rfl) rfl ?_
    refine an_read 2 (by kernel_rfl) (fun _ _ _ h => h) rfl (by kernel_rfl) trivial (r_move rfl) rfl ?_
    refine an_read 3 (by kernel_rfl) (fun _ _ _ h => h) rfl (by kernel_rfl) trivial (r_rem rfl rfl (by omega)) rfl ?_
    refine an_read 4 (by kernel_rfl) (fun _ _ _ h => h) rfl (by kernel_rfl) trivial (r_assign rfl) rfl ?_
    refine an_read 5 (by kernel_rfl) (fun _ _ _ h => h) rfl (by kernel_rfl) trivial (r_assign rfl) rfl ?_
    refine an_done rfl ?_
    refine aq_in ?_
    exact aq_again (AL.sub (sub_mk idn (by exact ⟨⟨_, rfl, ad_ren rfl⟩, ⟨_, rfl, ad_ren rfl⟩, ⟨_, rfl, ad_ren rfl⟩, ⟨_, rfl, ad_ren rfl⟩, ⟨_, rfl, ad_ren rfl⟩, trivial⟩) (by exact ⟨⟨_, rfl, ⟨rfl, trivial⟩⟩, trivial⟩) (by rfl) (nk rfl)) (ih3 (s1.2, (s1.1.tmod s1.2)) trivial h))
  · have q7 := d_f hb5
    replace h := is_else (d_f hb5) h
    refine aw_exit ?_
    refine aq_then_exit ?_
    refine aq_then_exit ?_
    refine aq_in_exit ?_
    refine aq_then ?_
    refine aw_seq ?_
    obtain ⟨g8, h⟩ := is_guard h
    obtain ⟨g9, h⟩ := is_guard h
    refine aw_draw 9 (by kernel_rfl) (by kernel_rfl) ?_
    refine an_read 0 (by kernel_rfl) (fun _ _ _ h => h) rfl (by kernel_rfl) trivial (r_move rfl) rfl ?_
    refine an_read 1 (by kernel_rfl) (fun _ _ _ h => h) rfl (by kernel_rfl) trivial (r_move rfl) rfl ?_
    refine an_scall 2 (by kernel_rfl) (fun _ _ _ h => h) rfl (by kernel_rfl) trivial (scall (c_spec_l1Most (is_mk (rfl : p_spec_l1Most s1.1 1 = _))) rfl Try.func145 rfl rfl rfl rfl (fun σ => ⟨ad_ren rfl, ad_ren rfl, trivial⟩)) rfl ?_
    refine an_read 3 (by kernel_rfl) (fun _ _ _ h => h) rfl (by kernel_rfl) trivial (r_quo rfl rfl g8) rfl ?_
    refine an_read 4 (by kernel_rfl) (fun _ _ _ h => h) rfl (by kernel_rfl) trivial (r_move rfl) rfl ?_
    refine an_read 5 (by kernel_rfl) (fun _ _ _ h => h) rfl (by kernel_rfl) trivial (r_move rfl) rfl ?_
    refine an_scall 6 (by kernel_rfl) (fun _ _ _ h => h) rfl (by kernel_rfl) trivial (scall (c_spec_l1Most (is_mk (rfl : p_spec_l1Most s1.1 1 = _))) rfl Try.func145 rfl rfl rfl rfl (fun σ => ⟨ad_ren rfl, ad_ren rfl, trivial⟩)) rfl ?_
    refine an_read 7 (by kernel_rfl) (fun _ _ _ h => h) rfl (by kernel_rfl) trivial (r_quo rfl rfl g9) rfl ?_
    refine an_read 8 (by kernel_rfl) (fun _ _ _ h => h) rfl (by kernel_rfl) trivial (r_build_arr (l := [(0, .tmp 18), (1, .tmp 22)]) (t := (.int .i64)) ([(IntKind.wrap .i64 (x0.tdiv (p_spec_l1Most s1.1 1))), (IntKind.wrap .i64 (x1.tdiv (p_spec_l1Most s1.1 1)))] : (List Int)) rfl Try.underlying30 Try.zeroValue30 Try.sizeOf3 rfl rfl rfl rfl) rfl ?_
    refine an_tail rfl rfl ?_
    refine ao_effS trivial (e_store rfl rfl rfl rfl Try.sizeOf30 rfl) ?_
    refine ao_nil ?_
    refine aq_then ?_
    refine aw_ret ?_
    refine aq_ret ?_
    obtain rfl := is_some h
    exact aq_finx (l := [.cell 4 30]) (xs := [.v (.arr 2 (.int .i64)) ([(IntKind.wrap .i64 (x0.tdiv (p_spec_l1Most s1.1 1))), (IntKind.wrap .i64 (x1.tdiv (p_spec_l1Most s1.1 1)))] : (List Int))]) idn [.v (.arr 2 (.int .i64)) ([(IntKind.wrap .i64 (x0.tdiv (p_spec_l1Most s1.1 1))), (IntKind.wrap .i64 (x1.tdiv (p_spec_l1Most s1.1 1)))] : (List Int))] [] rfl (by exact ⟨⟨⟨_, _, rfl⟩, r_load_arr rfl Try.isAgg30 Try.sizeOf30 rfl rfl rfl⟩, trivial⟩) (by exact ⟨ad_ren rfl, trivial⟩) (by exact trivial) rfl (nk rfl) rfl rfl ⟨rfl, rfl⟩
theorem c_spec_HoldEnds {fu : Nat} {x0 : (List Int)} {x1 : Int} {x2 : Int} {r : (List (Int × ((List Int) × Unit))) × Bool} (h : Is (p_spec_HoldEnds fu x0 x1 x2) (some r)) :
    ACalls Try.prog 32 [.v (.arr 6 (.int .i64)) x0, .int .i64 x1, .int .i64 x2] [] (fun r' H' => r' = .tup [.os 0, .bool r.2] ∧ H' = [(0, .row (.pair (.int .i64) (.pair (.arr 2 (.int .i64)) .unit)) r.1)]) := by
  unfold p_spec_HoldEnds at h
  refine ac_enter ⟨42, 0⟩ Try.func32 rfl rfl rfl rfl rfl (fun Γ => ?_)
  refine aw_seq ?_
  refine aw_region ?_
  refine ao_eff trivial (e_box 0 rfl rfl rfl rfl rfl rfl) rfl ?_
  refine ao_read trivial (r_assign rfl) rfl ?_
  refine ao_read trivial (r_assign rfl) rfl ?_
  refine ao_nil ?_
  refine aq_then ?_
  refine aw_seq ?_
  refine aw_region ?_
  refine ao_eff trivial (e_buildSlice (l := []) (t := (.pair (.int .i64) (.pair (.arr 2 (.int .i64)) .unit))) 1 ([] : (List (Int × ((List Int) × Unit)))) rfl Try.underlying46 Try.zeroValue62 Try.sizeOf62 rfl rfl rfl rfl rfl rfl rfl) rfl ?_
  refine ao_read trivial (r_assign rfl) rfl ?_
  refine ao_nil ?_
  refine aq_then ?_
  refine aw_seq ?_
  refine aw_seq ?_
  refine aw_region ?_
  refine ao_read trivial (r_load_arr rfl Try.isAgg43 Try.sizeOf43 rfl rfl rfl) rfl ?_
  refine ao_read trivial (r_move rfl) rfl ?_
  refine ao_read trivial (r_move rfl) rfl ?_
  obtain ⟨r1, r1h, h⟩ := is_bind h
  refine ao_scall trivial (scall (c_spec_l7Turn (is_mk r1h)) rfl Try.func116 rfl rfl rfl rfl (fun σ => ⟨ad_ren rfl, ad_ren rfl, ad_ren rfl, trivial⟩)) rfl ?_
  refine ao_read trivial (r_not rfl) rfl ?_
  refine ao_nil ?_
  refine aq_then ?_
  refine aw_cond rfl (fun hb2 => ?_) (fun hb2 => ?_)
  · replace h := is_else (ne_t (not_t hb2)) h
    refine aw_seq ?_
    refine aw_region ?_
    refine ao_read trivial (r_move rfl) rfl ?_
    refine ao_read trivial (r_assign rfl) rfl ?_
    refine ao_read trivial (r_assign rfl) rfl ?_
    refine ao_nil ?_
    refine aq_then ?_
    refine aw_ret ?_
    refine aq_then_ret ?_
    refine aq_ret ?_
    obtain rfl := is_some h
    exact aq_finx (l := [.tmp 6, .tmp 7]) (xs := [.os 1, .bool false]) (rn [(0, 1)]) [.os 0, .bool false] [(0, .row (.pair (.int .i64) (.pair (.arr 2 (.int .i64)) .unit)) ([] : (List (Int × ((List Int) × Unit)))))] rfl (by exact ⟨rfl, rfl, trivial⟩) (by exact ⟨ad_ren rfl, ad_ren rfl, trivial⟩) (by exact ⟨⟨_, rfl, rfl⟩, trivial⟩) rfl (nk rfl) rfl rfl ⟨rfl, rfl⟩
  · replace h := is_if (not_f hb2) h
    refine aw_skip ?_
    refine aq_then ?_
    refine aw_seq ?_
    refine aw_region ?_
    refine ao_read trivial (r_load_arr rfl Try.isAgg43 Try.sizeOf43 rfl rfl rfl) rfl ?_
    refine ao_read trivial (r_move rfl) rfl ?_
    refine ao_read trivial (r_move rfl) rfl ?_
    obtain ⟨r3, r3h, h⟩ := is_bind h
    refine ao_scall trivial (scall (c_spec_l7Ends (is_mk r3h)) rfl Try.func117 rfl rfl rfl rfl (fun σ => ⟨ad_ren rfl, ad_ren rfl, ad_ren rfl, trivial⟩)) rfl ?_
    refine ao_eff trivial (e_alloc 2 (y := .v (.arr 41 (.int .i64)) ((List.replicate 41 0) : (List Int))) Try.zeroValue120 (fun ρ h M => ra_zero_arr (t := (.int .i64)) rfl) rfl rfl rfl rfl rfl) rfl ?_
    refine ao_effS trivial (e_store rfl rfl rfl rfl Try.sizeOf120 rfl) ?_
    refine ao_nil ?_
    refine aq_then ?_
    refine aw_seq ?_
    refine aw_seq ?_
    refine aw_region ?_
    refine ao_read trivial (r_assign rfl) rfl ?_
    refine ao_nil ?_
    refine aq_then ?_
    refine aw_block ?_
    refine aw_loop (AL.sub (fr' := [(2, .int .i64 x2), (8, .os 0), (9, .ref 1 0), (10, .int .i64 0)]) (H' := [(0, .row (.pair (.int .i64) (.pair (.arr 2 (.int .i64)) .unit)) ([] : (List (Int × ((List Int) × Unit))))), (1, .var [.arr (.int .i64) 41 r3])]) (sub_mk (rn [(0, 1), (1, 2)]) (by exact ⟨⟨_, rfl, ad_ren rfl⟩, ⟨_, rfl, ad_ren rfl⟩, ⟨_, rfl, ad_ren rfl⟩, ⟨_, rfl, ad_ren rfl⟩, trivial⟩) (by exact ⟨⟨_, rfl, rfl⟩, ⟨_, rfl, ⟨rfl, trivial⟩⟩, trivial⟩) (by rfl) (nk rfl)) (al_cnt (fun i5 (s4 : (List (Int × ((List Int) × Unit)))) => [(2, .int .i64 x2), (8, .os 0), (9, .ref 1 0), (10, .int .i64 i5)]) (fun i5 (s4 : (List (Int × ((List Int) × Unit)))) => [(0, .row (.pair (.int .i64) (.pair (.arr 2 (.int .i64)) .unit)) s4), (1, .var [.arr (.int .i64) 41 r3])]) (fun d i5 (s4 : (List (Int × ((List Int) × Unit)))) => d = Int.toNat (41 - i5) ∧ 0 ≤ i5 ∧ i5 ≤ 41) h ⟨rfl, (by (try simp only [List.length_set, List.length_append, List.length_cons, List.length_nil, List.length_replicate, List.length_take, List.length_drop]) <;> omega), (by (try simp only [List.length_set, List.length_append, List.length_cons, List.length_nil, List.length_replicate, List.length_take, List.length_drop]) <;> omega)⟩ (fun d6 i5 s4 hI h ih6 => ?_)))
    obtain ⟨hd, _, _⟩ := hI
    refine al_round ?_
    refine aw_seq ?_
    refine aw_seq ?_
    refine aw_region ?_
    refine ao_read trivial (r_move rfl) rfl ?_
    refine ao_read trivial (r_lss rfl rfl) rfl ?_
    refine ao_nil ?_
    refine aq_then ?_
    refine aw_cond rfl (fun hb8 => ?_) (fun hb8 => ?_)
    · have q9 := d_t hb8
      obtain ⟨d6, rfl⟩ : ∃ e, d6 = e + 1 := ⟨d6 - 1, by omega⟩
      replace h := is_cntS h
      refine aw_skip ?_
      refine aq_then ?_
      refine aw_seq ?_
      refine aw_block ?_
      refine aw_seq ?_
      refine aw_region ?_
      refine ao_read trivial (r_move rfl) rfl ?_
      refine ao_read trivial (r_idxAddr_arr (i := i5) Try.underlying120 Try.sizeOf3 rfl rfl (show 0 ≤ i5 from by omega) (show i5 < (41 : Int) from by omega)) rfl ?_
      refine ao_read trivial (r_load_elema_int Try.isAgg3 Try.sizeOf3 rfl rfl rfl (show i5.toNat < 41 from by omega)) rfl ?_
      refine ao_read trivial (r_gtr rfl rfl) rfl ?_
      refine ao_nil ?_
      refine aq_then ?_
      refine aw_cond rfl (fun hb11 => ?_) (fun hb11 => ?_)
      · have q12 : 0 < (r3.getD i5.toNat 0) := d_t hb11
        replace h := is_if (d_t hb11) h
        obtain ⟨r14, r14h, h⟩ := is_bind h
        obtain ⟨r15, r15h, h⟩ := is_bind h
        refine aw_draw 10 (by kernel_rfl) (by kernel_rfl) ?_
        refine an_to [(2, .int .i64 x2), (8, .os 0), (9, .ref 1 0), (10, .int .i64 i5), (30, .os 0), (39, .os 2)] [(0, .row (.pair (.int .i64) (.pair (.arr 2 (.int .i64)) .unit)) s4), (1, .var [.arr (.int .i64) 41 r3]), (2, .row (.pair (.int .i64) (.pair (.arr 2 (.int .i64)) .unit)) ([(i5, (r15, ()))] : (List (Int × ((List Int) × Unit)))))] ?_ (fun key => ?_)
        · refine aq_tail rfl ?_
          obtain ⟨g16, h⟩ := is_guard h
          refine ao_eff trivial (e_append (t := (.pair (.int .i64) (.pair (.arr 2 (.int .i64)) .unit))) 3 rfl Try.underlying46 (rfl : Try.prog.info? 62 = some _) rfl rfl rfl rfl rfl rfl rfl (src_os rfl) (show s4.length + ([(i5, (r15, ()))] : (List (Int × ((List Int) × Unit)))).length ≤ 1000000000 from by (try simp only [List.length_cons, List.length_nil]) <;> omega) rfl rfl) rfl ?_
          refine ao_read trivial (r_assign rfl) rfl ?_
          refine ao_nil ?_
          refine aq_in ?_
          refine aq_then ?_
          refine aw_region ?_
          refine ao_read trivial (r_move rfl) rfl ?_
          refine ao_read trivial (r_addI rfl rfl (wrap_id (by omega) (by omega))) rfl ?_
          refine ao_read trivial (r_assign rfl) rfl ?_
          refine ao_nil ?_
          exact aq_again (AL.sub (sub_mk (rn [(0, 3)]) (by exact ⟨⟨_, rfl, ad_ren rfl⟩, ⟨_, rfl, ad_ren rfl⟩, ⟨_, rfl, ad_ren rfl⟩, ⟨_, rfl, ad_ren rfl⟩, trivial⟩) (by exact ⟨⟨_, rfl, rfl⟩, ⟨_, rfl, ⟨rfl, trivial⟩⟩, trivial⟩) (by rfl) (nk rfl)) (ih6 d6 (i5 + 1) (s4 ++ [(i5, (r15, ()))]) (by omega) ⟨by omega, (by (try simp only [List.length_set, List.length_append, List.length_cons, List.length_nil, List.length_replicate, List.length_take, List.length_drop]) <;> omega), (by (try simp only [List.length_set, List.length_append, List.length_cons, List.length_nil, List.length_replicate, List.length_take, List.length_drop]) <;> omega)⟩ h))
        · refine an_read 0 (by kernel_rfl) (fun _ _ _ h => h) rfl (by kernel_rfl) trivial (r_move rfl) rfl ?_
          refine an_read 1 (by kernel_rfl) (fun _ _ _ h => h) rfl (by kernel_rfl) trivial (r_move rfl) rfl ?_
          refine an_read 2 (by kernel_rfl) (fun _ _ _ h => h) rfl (by kernel_rfl) trivial (r_move rfl) rfl ?_
          refine an_read 3 (by kernel_rfl) (fun _ _ _ h => h) rfl (by kernel_rfl) trivial (r_idxAddr_arr (i := i5) Try.underlying120 Try.sizeOf3 rfl rfl (show 0 ≤ i5 from by omega) (show i5 < (41 : Int) from by omega)) rfl ?_
          refine an_read 4 (by kernel_rfl) (fun _ _ _ h => h) rfl (by kernel_rfl) trivial (r_load_elema_int Try.isAgg3 Try.sizeOf3 rfl rfl rfl (show i5.toNat < 41 from by omega)) rfl ?_
          refine an_read 5 (by kernel_rfl) (fun _ _ _ h => h) rfl (by kernel_rfl) trivial (r_move rfl) rfl ?_
          refine an_scall 6 (by kernel_rfl) (fun _ _ _ h => h) rfl (by kernel_rfl) trivial (scall (c_spec_l2All (is_mk r14h)) rfl Try.func106 rfl rfl rfl rfl (fun σ => ⟨ad_ren rfl, trivial⟩)) rfl ?_
          refine an_scall 7 (by kernel_rfl) (fun _ _ _ h => h) rfl (by kernel_rfl) trivial (scall (c_spec_l2Cut (is_mk r15h)) rfl Try.func105 rfl rfl rfl rfl (fun σ => ⟨ad_ren rfl, ad_ren rfl, trivial⟩)) rfl ?_
          refine an_read 8 (by kernel_rfl) (fun _ _ _ h => h) rfl (by kernel_rfl) trivial (r_build_stv (l := [(0, .tmp 31), (1, .tmp 37)]) (cs := [.cell (.int .i64 i5), .arr (.int .i64) 2 r15]) (.pair (.int .i64) (.pair (.arr 2 (.int .i64)) .unit)) ((i5, (r15, ())) : (Int × ((List Int) × Unit))) [(0, 1), (1, 2)] Try.underlying62 Try.zeroValue62 rfl ⟨rfl, Try.sizeOf3, rfl, Try.sizeOf30, trivial⟩ rfl rfl rfl rfl) rfl ?_
          refine an_explore 2 rfl ?_
          refine ax_all [9] (by kernel_rfl) ⟨?_, trivial⟩
          refine axo_eff 9 rfl trivial (e_buildSlice (l := [(0, .tmp 38)]) (t := (.pair (.int .i64) (.pair (.arr 2 (.int .i64)) .unit))) 2 ([(i5, (r15, ()))] : (List (Int × ((List Int) × Unit)))) rfl Try.underlying46 Try.zeroValue62 Try.sizeOf62 rfl rfl rfl rfl rfl rfl rfl) rfl rfl ?_
          exact ax_done rfl (AQ.sub (sub_mk idn (by exact ⟨⟨_, rfl, ad_ren rfl⟩, ⟨_, rfl, ad_ren rfl⟩, ⟨_, rfl, ad_ren rfl⟩, ⟨_, rfl, ad_ren rfl⟩, ⟨_, rfl, ad_ren rfl⟩, ⟨_, rfl, ad_ren rfl⟩, trivial⟩) (by exact ⟨⟨_, rfl, rfl⟩, ⟨_, rfl, ⟨rfl, trivial⟩⟩, ⟨_, rfl, rfl⟩, trivial⟩) (by rfl) (nk rfl)) key)
      · have q13 : ¬ (0 < (r3.getD i5.toNat 0)) := d_f hb11
        replace h := is_else (d_f hb11) h
        refine aw_skip ?_
        refine aq_in ?_
        refine aq_then ?_
        refine aw_region ?_
        refine ao_read trivial (r_move rfl) rfl ?_
        refine ao_read trivial (r_addI rfl rfl (wrap_id (by omega) (by omega))) rfl ?_
        refine ao_read trivial (r_assign rfl) rfl ?_
        refine ao_nil ?_
        exact aq_again (AL.sub (sub_mk idn (by exact ⟨⟨_, rfl, ad_ren rfl⟩, ⟨_, rfl, ad_ren rfl⟩, ⟨_, rfl, ad_ren rfl⟩, ⟨_, rfl, ad_ren rfl⟩, trivial⟩) (by exact ⟨⟨_, rfl, rfl⟩, ⟨_, rfl, ⟨rfl, trivial⟩⟩, trivial⟩) (by rfl) (nk rfl)) (ih6 d6 (i5 + 1) s4 (by omega) ⟨by omega, (by (try simp only [List.length_set, List.length_append, List.length_cons, List.length_nil, List.length_replicate, List.length_take, List.length_drop]) <;> omega), (by (try simp only [List.length_set, List.length_append, List.length_cons, List.length_nil, List.length_replicate, List.length_take, List.length_drop]) <;> omega)⟩ h))
    · have q10 := d_f hb8
      obtain rfl : d6 = 0 := by omega
      replace h := is_cnt0 h
      refine aw_exit ?_
      refine aq_then_exit ?_
      refine aq_then_exit ?_
      refine aq_in_exit ?_
      refine aq_then ?_
      refine aw_seq ?_
      refine aw_region ?_
      refine ao_read trivial (r_move rfl) rfl ?_
      refine ao_read trivial (r_assign rfl) rfl ?_
      refine ao_read trivial (r_assign rfl) rfl ?_
      refine ao_nil ?_
      refine aq_then ?_
      refine aw_ret ?_
      refine aq_ret ?_
      obtain rfl := is_some h
      exact aq_finx (l := [.tmp 6, .tmp 7]) (xs := [.os 0, .bool true]) idn [.os 0, .bool true] [(0, .row (.pair (.int .i64) (.pair (.arr 2 (.int .i64)) .unit)) s4)] rfl (by exact ⟨rfl, rfl, trivial⟩) (by exact ⟨ad_ren rfl, ad_ren rfl, trivial⟩) (by exact ⟨⟨_, rfl, rfl⟩, trivial⟩) rfl (nk rfl) rfl rfl ⟨rfl, rfl⟩
theorem c_impl_holdMean {fu : Nat} {x0 : (List Int)} {x1 : Int} {x2 : Int} {r : Int} (h : Is (p_impl_holdMean fu x0 x1 x2) (some r)) :
    Scalar Try.prog 118 [.v (.arr 6 (.int .i64)) x0, .int .i64 x1, .int .i64 x2] (.int .i64 r) := by
  unfold p_impl_holdMean at h
  refine ac_enter ⟨27, 0⟩ Try.func118 rfl rfl rfl rfl rfl (fun Γ => ?_)
  refine aw_seq ?_
  refine aw_region ?_
  refine ao_eff trivial (e_box 0 rfl rfl rfl rfl rfl rfl) rfl ?_
  refine ao_read trivial (r_assign rfl) rfl ?_
  refine ao_nil ?_
  refine aq_then ?_
  refine aw_seq ?_
  refine aw_region ?_
  refine ao_read trivial (r_assign rfl) rfl ?_
  refine ao_nil ?_
  refine aq_then ?_
  refine aw_seq ?_
  refine aw_seq ?_
  refine aw_region ?_
  refine ao_read trivial (r_load_arr rfl Try.isAgg43 Try.sizeOf43 rfl rfl rfl) rfl ?_
  refine ao_read trivial (r_move rfl) rfl ?_
  refine ao_read trivial (r_move rfl) rfl ?_
  obtain ⟨r1, r1h, h⟩ := is_bind h
  refine ao_call [] 1 trivial (c_impl_ends (is_mk r1h)) Try.func115 rfl rfl rfl rfl ⟨ad_ren rfl, ad_ren rfl, ad_ren rfl, trivial⟩ trivial rfl rfl rfl rfl rfl rfl rfl (fun r' H' hr => ?_)
  obtain ⟨rfl, rfl⟩ := hr
  refine ao_norm (y := .os 1) (H' := [(0, .var [.arr (.int .i64) 6 x0]), (1, .row (.int .i64) r1)]) rfl rfl ?_
  refine row_len_o 1 (r1.length : Int) rfl rfl (fun hr2 => ?_)
  refine ao_read trivial (r_len_osm (r1.length : Int) Try.underlying36 rfl rfl rfl) rfl ?_
  refine ao_read trivial (r_move rfl) rfl ?_
  refine ao_nil ?_
  refine aq_then ?_
  refine aw_block ?_
  refine aw_loop (AL.sub (fr' := [(7, .int .i64 0), (13, .os 0), (14, .int .i64 (r1.length : Int)), (15, .int .i64 0)]) (H' := [(0, .row (.int .i64) r1)]) (sub_mk (rn [(0, 1)]) (by exact ⟨⟨_, rfl, ad_ren rfl⟩, ⟨_, rfl, ad_ren rfl⟩, ⟨_, rfl, ad_ren rfl⟩, ⟨_, rfl, ad_ren rfl⟩, trivial⟩) (by exact ⟨⟨_, rfl, rfl⟩, trivial⟩) (by rfl) (nk rfl)) (al_cnt (fun i4 (s3 : Int) => [(7, .int .i64 s3), (13, .os 0), (14, .int .i64 (r1.length : Int)), (15, .int .i64 i4)]) (fun i4 (s3 : Int) => [(0, .row (.int .i64) r1)]) (fun d i4 (s3 : Int) => d = Int.toNat ((r1.length : Int) - i4) ∧ 0 ≤ i4 ∧ i4 ≤ (r1.length : Int)) h ⟨rfl, (by (try simp only [List.length_set, List.length_append, List.length_cons, List.length_nil, List.length_replicate, List.length_take, List.length_drop]) <;> omega), (by (try simp only [List.length_set, List.length_append, List.length_cons, List.length_nil, List.length_replicate, List.length_take, List.length_drop]) <;> omega)⟩ (fun d5 i4 s3 hI h ih5 => ?_)))
  obtain ⟨hd, _, _⟩ := hI
  refine al_round ?_
  refine aw_seq ?_
  refine aw_region ?_
  refine ao_read trivial (r_lss rfl rfl) rfl ?_
  refine ao_nil ?_
  refine aq_then ?_
  refine aw_seq ?_
  refine aw_cond rfl (fun hb7 => ?_) (fun hb7 => ?_)
  · have q8 := d_t hb7
    obtain ⟨d5, rfl⟩ : ∃ e, d5 = e + 1 := ⟨d5 - 1, by omega⟩
    replace h := is_cntS h
    refine aw_skip ?_
    refine aq_then ?_
    refine aw_seq ?_
    refine aw_block ?_
    refine aw_seq ?_
    refine aw_region ?_
    refine ao_read trivial (r_move rfl) rfl ?_
    refine ao_read trivial (r_idxAddr_os Try.underlying36 Try.sizeOf3 rfl rfl rfl (show 0 ≤ i4 from by omega) (show i4 < (r1.length : Int) from by omega)) rfl ?_
    refine ao_read trivial (r_load_elem_int Try.isAgg3 Try.sizeOf3 rfl rfl (show i4.toNat < r1.length from by omega)) rfl ?_
    refine ao_read trivial (r_assign rfl) rfl ?_
    refine ao_read trivial (r_assign rfl) rfl ?_
    refine ao_nil ?_
    refine aq_then ?_
    refine aw_region ?_
    refine ao_read trivial (r_move rfl) rfl ?_
    refine ao_read trivial (r_move rfl) rfl ?_
    refine ao_read trivial (r_move rfl) rfl ?_
    refine ao_read trivial (r_mul rfl rfl) rfl ?_
    refine ao_read trivial (r_add rfl rfl) rfl ?_
    refine ao_read trivial (r_assign rfl) rfl ?_
    refine ao_nil ?_
    refine aq_in ?_
    refine aq_then ?_
    refine aw_region ?_
    refine ao_read trivial (r_addI rfl rfl (wrap_id (by omega) (by omega))) rfl ?_
    refine ao_read trivial (r_move rfl) rfl ?_
    refine ao_nil ?_
    exact aq_again (AL.sub (sub_mk idn (by exact ⟨⟨_, rfl, ad_ren rfl⟩, ⟨_, rfl, ad_ren rfl⟩, ⟨_, rfl, ad_ren rfl⟩, ⟨_, rfl, ad_ren rfl⟩, trivial⟩) (by exact ⟨⟨_, rfl, rfl⟩, trivial⟩) (by rfl) (nk rfl)) (ih5 d5 (i4 + 1) (IntKind.wrap .i64 (s3 + (IntKind.wrap .i64 (i4 * (r1.getD i4.toNat 0))))) (by omega) ⟨by omega, (by (try simp only [List.length_set, List.length_append, List.length_cons, List.length_nil, List.length_replicate, List.length_take, List.length_drop]) <;> omega), (by (try simp only [List.length_set, List.length_append, List.length_cons, List.length_nil, List.length_replicate, List.length_take, List.length_drop]) <;> omega)⟩ h))
  · have q9 := d_f hb7
    obtain rfl : d5 = 0 := by omega
    replace h := is_cnt0 h
    refine aw_exit ?_
    refine aq_then_exit ?_
    refine aq_then_exit ?_
    refine aq_in_exit ?_
    refine aq_then ?_
    refine aw_seq ?_
    refine aw_region ?_
    refine ao_read trivial (r_move rfl) rfl ?_
    refine ao_read trivial (r_assign rfl) rfl ?_
    refine ao_nil ?_
    refine aq_then ?_
    refine aw_ret ?_
    refine aq_ret ?_
    obtain rfl := is_some h
    exact aq_finx (l := [.tmp 6]) (xs := [.int .i64 s3]) idn [.int .i64 s3] [] rfl (by exact ⟨rfl, trivial⟩) (by exact ⟨ad_ren rfl, trivial⟩) (by exact trivial) rfl (nk rfl) rfl rfl ⟨rfl, rfl⟩
theorem c_impl_HoldMean {fu : Nat} {x0 : (List Int)} {x1 : Int} {x2 : Int} {r : (List Int) × Bool} (h : Is (p_impl_HoldMean fu x0 x1 x2) (some r)) :
    Scalar Try.prog 33 [.v (.arr 6 (.int .i64)) x0, .int .i64 x1, .int .i64 x2] (.tup [.v (.arr 2 (.int .i64)) r.1, .bool r.2]) := by
  unfold p_impl_HoldMean at h
  refine ac_enter ⟨21, 0⟩ Try.func33 rfl rfl rfl rfl rfl (fun Γ => ?_)
  refine aw_seq ?_
  refine aw_region ?_
  refine ao_eff trivial (e_box 0 rfl rfl rfl rfl rfl rfl) rfl ?_
  refine ao_eff trivial (e_alloc 1 (y := .v (.arr 2 (.int .i64)) ((List.replicate 2 0) : (List Int))) Try.zeroValue30 (fun ρ h M => ra_zero_arr (t := (.int .i64)) rfl) rfl rfl rfl rfl rfl) rfl ?_
  refine ao_read trivial (r_assign rfl) rfl ?_
  refine ao_nil ?_
  refine aq_then ?_
  refine aw_seq ?_
  refine aw_seq ?_
  refine aw_region ?_
  refine ao_read trivial (r_load_arr rfl Try.isAgg43 Try.sizeOf43 rfl rfl rfl) rfl ?_
  refine ao_read trivial (r_move rfl) rfl ?_
  refine ao_read trivial (r_move rfl) rfl ?_
  refine ao_scall trivial (scall (c_impl_isTurn (is_mk (rfl : p_impl_isTurn x0 x1 x2 = _))) rfl Try.func114 rfl rfl rfl rfl (fun σ => ⟨ad_ren rfl, ad_ren rfl, ad_ren rfl, trivial⟩)) rfl ?_
  refine ao_read trivial (r_not rfl) rfl ?_
  refine ao_nil ?_
  refine aq_then ?_
  refine aw_cond rfl (fun hb1 => ?_) (fun hb1 => ?_)
  · replace h := is_else (ne_t (not_t hb1)) h
    refine aw_seq ?_
    refine aw_region ?_
    refine ao_read trivial (r_build_zero (t := (.int .i64)) Try.underlying30 Try.zeroValue30 Try.sizeOf3 rfl) rfl ?_
    refine ao_effS trivial (e_store rfl rfl rfl rfl Try.sizeOf30 rfl) ?_
    refine ao_read trivial (r_assign rfl) rfl ?_
    refine ao_nil ?_
    refine aq_then ?_
    refine aw_ret ?_
    refine aq_then_ret ?_
    refine aq_ret ?_
    obtain rfl := is_some h
    exact aq_finx (l := [.cell 6 30, .tmp 7]) (xs := [.v (.arr 2 (.int .i64)) ((List.replicate 2 0) : (List Int)), .bool false]) idn [.v (.arr 2 (.int .i64)) ((List.replicate 2 0) : (List Int)), .bool false] [] rfl (by exact ⟨⟨⟨_, _, rfl⟩, r_load_arr rfl Try.isAgg30 Try.sizeOf30 rfl rfl rfl⟩, rfl, trivial⟩) (by exact ⟨ad_ren rfl, ad_ren rfl, trivial⟩) (by exact trivial) rfl (nk rfl) rfl rfl ⟨rfl, rfl⟩
  · replace h := is_if (not_f hb1) h
    refine aw_skip ?_
    refine aq_then ?_
    refine aw_seq ?_
    refine aw_region ?_
    refine ao_read trivial (r_load_arr rfl Try.isAgg43 Try.sizeOf43 rfl rfl rfl) rfl ?_
    refine ao_read trivial (r_move rfl) rfl ?_
    refine ao_read trivial (r_move rfl) rfl ?_
    obtain ⟨r2, r2h, h⟩ := is_bind h
    refine ao_scall trivial (scall (c_impl_holdMean (is_mk r2h)) rfl Try.func118 rfl rfl rfl rfl (fun σ => ⟨ad_ren rfl, ad_ren rfl, ad_ren rfl, trivial⟩)) rfl ?_
    refine ao_read trivial (r_move rfl) rfl ?_
    obtain ⟨r3, r3h, h⟩ := is_bind h
    refine ao_scall trivial (scall (c_impl_power (is_mk r3h)) rfl Try.func103 rfl rfl rfl rfl (fun σ => ⟨ad_ren rfl, trivial⟩)) rfl ?_
    obtain ⟨r4, r4h, h⟩ := is_bind h
    refine ao_scall trivial (scall (c_impl_fraction (is_mk r4h)) rfl Try.func102 rfl rfl rfl rfl (fun σ => ⟨ad_ren rfl, ad_ren rfl, trivial⟩)) rfl ?_
    refine ao_effS trivial (e_store rfl rfl rfl rfl Try.sizeOf30 rfl) ?_
    refine ao_read trivial (r_assign rfl) rfl ?_
    refine ao_nil ?_
    refine aq_then ?_
    refine aw_ret ?_
    refine aq_ret ?_
    obtain rfl := is_some h
    exact aq_finx (l := [.cell 6 30, .tmp 7]) (xs := [.v (.arr 2 (.int .i64)) r4, .bool true]) idn [.v (.arr 2 (.int .i64)) r4, .bool true] [] rfl (by exact ⟨⟨⟨_, _, rfl⟩, r_load_arr rfl Try.isAgg30 Try.sizeOf30 rfl rfl rfl⟩, rfl, trivial⟩) (by exact ⟨ad_ren rfl, ad_ren rfl, trivial⟩) (by exact trivial) rfl (nk rfl) rfl rfl ⟨rfl, rfl⟩
theorem c_spec_l7HoldMean {fu : Nat} {x0 : (List Int)} {x1 : Int} {x2 : Int} {r : (List Int)} (h : Is (p_spec_l7HoldMean fu x0 x1 x2) (some r)) :
    Scalar Try.prog 119 [.v (.arr 6 (.int .i64)) x0, .int .i64 x1, .int .i64 x2] (.v (.arr 2 (.int .i64)) r) := by
  unfold p_spec_l7HoldMean at h
  refine ac_enter ⟨29, 0⟩ Try.func119 rfl rfl rfl rfl rfl (fun Γ => ?_)
  refine aw_seq ?_
  refine aw_region ?_
  refine ao_eff trivial (e_box 0 rfl rfl rfl rfl rfl rfl) rfl ?_
  refine ao_eff trivial (e_alloc 1 (y := .v (.arr 2 (.int .i64)) ((List.replicate 2 0) : (List Int))) Try.zeroValue30 (fun ρ h M => ra_zero_arr (t := (.int .i64)) rfl) rfl rfl rfl rfl rfl) rfl ?_
  refine ao_nil ?_
  refine aq_then ?_
  refine aw_seq ?_
  refine aw_region ?_
  refine ao_read trivial (r_load_arr rfl Try.isAgg43 Try.sizeOf43 rfl rfl rfl) rfl ?_
  refine ao_read trivial (r_move rfl) rfl ?_
  refine ao_read trivial (r_move rfl) rfl ?_
  obtain ⟨r1, r1h, h⟩ := is_bind h
  refine ao_scall trivial (scall (c_spec_l7Ends (is_mk r1h)) rfl Try.func117 rfl rfl rfl rfl (fun σ => ⟨ad_ren rfl, ad_ren rfl, ad_ren rfl, trivial⟩)) rfl ?_
  refine ao_eff trivial (e_alloc 2 (y := .v (.arr 41 (.int .i64)) ((List.replicate 41 0) : (List Int))) Try.zeroValue120 (fun ρ h M => ra_zero_arr (t := (.int .i64)) rfl) rfl rfl rfl rfl rfl) rfl ?_
  refine ao_read trivial (r_assign rfl) rfl ?_
  refine ao_effS trivial (e_store rfl rfl rfl rfl Try.sizeOf120 rfl) ?_
  refine ao_nil ?_
  refine aq_then ?_
  refine aw_seq ?_
  refine aw_seq ?_
  refine aw_region ?_
  refine ao_read trivial (r_assign rfl) rfl ?_
  refine ao_nil ?_
  refine aq_then ?_
  refine aw_block ?_
  refine aw_loop (AL.sub (fr' := [(2, .int .i64 x2), (6, .ref 0 0), (7, .int .i64 0), (8, .ref 1 0), (9, .int .i64 0)]) (H' := [(0, .var [.arr (.int .i64) 2 ((List.replicate 2 0) : (List Int))]), (1, .var [.arr (.int .i64) 41 r1])]) (sub_mk (rn [(0, 1), (1, 2)]) (by exact ⟨⟨_, rfl, ad_ren rfl⟩, ⟨_, rfl, ad_ren rfl⟩, ⟨_, rfl, ad_ren rfl⟩, ⟨_, rfl, ad_ren rfl⟩, ⟨_, rfl, ad_ren rfl⟩, trivial⟩) (by exact ⟨⟨_, rfl, ⟨rfl, trivial⟩⟩, ⟨_, rfl, ⟨rfl, trivial⟩⟩, trivial⟩) (by rfl) (nk rfl)) (al_cnt (fun i3 (s2 : Int) => [(2, .int .i64 x2), (6, .ref 0 0), (7, .int .i64 s2), (8, .ref 1 0), (9, .int .i64 i3)]) (fun i3 (s2 : Int) => [(0, .var [.arr (.int .i64) 2 ((List.replicate 2 0) : (List Int))]), (1, .var [.arr (.int .i64) 41 r1])]) (fun d i3 (s2 : Int) => d = Int.toNat (41 - i3) ∧ 0 ≤ i3 ∧ i3 ≤ 41) h ⟨rfl, (by (try simp only [List.length_set, List.length_append, List.length_cons, List.length_nil, List.length_replicate, List.length_take, List.length_drop]) <;> omega), (by (try simp only [List.length_set, List.length_append, List.length_cons, List.length_nil, List.length_replicate, List.length_take, List.length_drop]) <;> omega)⟩ (fun d4 i3 s2 hI h ih4 => ?_)))
  obtain ⟨hd, _, _⟩ := hI
  refine al_round ?_
  refine aw_seq ?_
  refine aw_seq ?_
  refine aw_region ?_
  refine ao_read trivial (r_move rfl) rfl ?_
  refine ao_read trivial (r_lss rfl rfl) rfl ?_
  refine ao_nil ?_
  refine aq_then ?_
  refine aw_cond rfl (fun hb6 => ?_) (fun hb6 => ?_)
  · have q7 := d_t hb6
    obtain ⟨d4, rfl⟩ : ∃ e, d4 = e + 1 := ⟨d4 - 1, by omega⟩
    replace h := is_cntS h
    refine aw_skip ?_
    refine aq_then ?_
    refine aw_seq ?_
    refine aw_block ?_
    refine aw_region ?_
    refine ao_read trivial (r_move rfl) rfl ?_
    refine ao_read trivial (r_move rfl) rfl ?_
    refine ao_read trivial (r_move rfl) rfl ?_
    refine ao_read trivial (r_idxAddr_arr (i := i3) Try.underlying120 Try.sizeOf3 rfl rfl (show 0 ≤ i3 from by omega) (show i3 < (41 : Int) from by omega)) rfl ?_
    refine ao_read trivial (r_load_elema_int Try.isAgg3 Try.sizeOf3 rfl rfl rfl (show i3.toNat < 41 from by omega)) rfl ?_
    refine ao_read trivial (r_mul rfl rfl) rfl ?_
    refine ao_read trivial (r_add rfl rfl) rfl ?_
    refine ao_read trivial (r_assign rfl) rfl ?_
    refine ao_nil ?_
    refine aq_in ?_
    refine aq_then ?_
    refine aw_region ?_
    refine ao_read trivial (r_move rfl) rfl ?_
    refine ao_read trivial (r_addI rfl rfl (wrap_id (by omega) (by omega))) rfl ?_
    refine ao_read trivial (r_assign rfl) rfl ?_
    refine ao_nil ?_
    exact aq_again (AL.sub (sub_mk idn (by exact ⟨⟨_, rfl, ad_ren rfl⟩, ⟨_, rfl, ad_ren rfl⟩, ⟨_, rfl, ad_ren rfl⟩, ⟨_, rfl, ad_ren rfl⟩, ⟨_, rfl, ad_ren rfl⟩, trivial⟩) (by exact ⟨⟨_, rfl, ⟨rfl, trivial⟩⟩, ⟨_, rfl, ⟨rfl, trivial⟩⟩, trivial⟩) (by rfl) (nk rfl)) (ih4 d4 (i3 + 1) (IntKind.wrap .i64 (s2 + (IntKind.wrap .i64 (i3 * (r1.getD i3.toNat 0))))) (by omega) ⟨by omega, (by (try simp only [List.length_set, List.length_append, List.length_cons, List.length_nil, List.length_replicate, List.length_take, List.length_drop]) <;> omega), (by (try simp only [List.length_set, List.length_append, List.length_cons, List.length_nil, List.length_replicate, List.length_take, List.length_drop]) <;> omega)⟩ h))
  · have q8 := d_f hb6
    obtain rfl : d4 = 0 := by omega
    replace h := is_cnt0 h
    refine aw_exit ?_
    refine aq_then_exit ?_
    refine aq_then_exit ?_
    refine aq_in_exit ?_
    refine aq_then ?_
    refine aw_seq ?_
    refine aw_region ?_
    refine ao_read trivial (r_move rfl) rfl ?_
    refine ao_read trivial (r_move rfl) rfl ?_
    obtain ⟨r9, r9h, h⟩ := is_bind h
    refine ao_scall trivial (scall (c_spec_l2All (is_mk r9h)) rfl Try.func106 rfl rfl rfl rfl (fun σ => ⟨ad_ren rfl, trivial⟩)) rfl ?_
    obtain ⟨r10, r10h, h⟩ := is_bind h
    refine ao_scall trivial (scall (c_spec_l2Cut (is_mk r10h)) rfl Try.func105 rfl rfl rfl rfl (fun σ => ⟨ad_ren rfl, ad_ren rfl, trivial⟩)) rfl ?_
    refine ao_effS trivial (e_store rfl rfl rfl rfl Try.sizeOf30 rfl) ?_
    refine ao_nil ?_
    refine aq_then ?_
    refine aw_ret ?_
    refine aq_ret ?_
    obtain rfl := is_some h
    exact aq_finx (l := [.cell 6 30]) (xs := [.v (.arr 2 (.int .i64)) r10]) idn [.v (.arr 2 (.int .i64)) r10] [] rfl (by exact ⟨⟨⟨_, _, rfl⟩, r_load_arr rfl Try.isAgg30 Try.sizeOf30 rfl rfl rfl⟩, trivial⟩) (by exact ⟨ad_ren rfl, trivial⟩) (by exact trivial) rfl (nk rfl) rfl rfl ⟨rfl, rfl⟩
theorem c_spec_HoldMean {fu : Nat} {x0 : (List Int)} {x1 : Int} {x2 : Int} {r : (List Int) × Bool} (h : Is (p_spec_HoldMean fu x0 x1 x2) (some r)) :
    Scalar Try.prog 34 [.v (.arr 6 (.int .i64)) x0, .int .i64 x1, .int .i64 x2] (.tup [.v (.arr 2 (.int .i64)) r.1, .bool r.2]) := by
  unfold p_spec_HoldMean at h
  refine ac_enter ⟨18, 0⟩ Try.func34 rfl rfl rfl rfl rfl (fun Γ => ?_)
  refine aw_seq ?_
  refine aw_region ?_
  refine ao_eff trivial (e_box 0 rfl rfl rfl rfl rfl rfl) rfl ?_
  refine ao_eff trivial (e_alloc 1 (y := .v (.arr 2 (.int .i64)) ((List.replicate 2 0) : (List Int))) Try.zeroValue30 (fun ρ h M => ra_zero_arr (t := (.int .i64)) rfl) rfl rfl rfl rfl rfl) rfl ?_
  refine ao_read trivial (r_assign rfl) rfl ?_
  refine ao_nil ?_
  refine aq_then ?_
  refine aw_seq ?_
  refine aw_seq ?_
  refine aw_region ?_
  refine ao_read trivial (r_load_arr rfl Try.isAgg43 Try.sizeOf43 rfl rfl rfl) rfl ?_
  refine ao_read trivial (r_move rfl) rfl ?_
  refine ao_read trivial (r_move rfl) rfl ?_
  obtain ⟨r1, r1h, h⟩ := is_bind h
  refine ao_scall trivial (scall (c_spec_l7Turn (is_mk r1h)) rfl Try.func116 rfl rfl rfl rfl (fun σ => ⟨ad_ren rfl, ad_ren rfl, ad_ren rfl, trivial⟩)) rfl ?_
  refine ao_read trivial (r_not rfl) rfl ?_
  refine ao_nil ?_
  refine aq_then ?_
  refine aw_cond rfl (fun hb2 => ?_) (fun hb2 => ?_)
  · replace h := is_else (ne_t (not_t hb2)) h
    refine aw_seq ?_
    refine aw_region ?_
    refine ao_read trivial (r_build_zero (t := (.int .i64)) Try.underlying30 Try.zeroValue30 Try.sizeOf3 rfl) rfl ?_
    refine ao_effS trivial (e_store rfl rfl rfl rfl Try.sizeOf30 rfl) ?_
    refine ao_read trivial (r_assign rfl) rfl ?_
    refine ao_nil ?_
    refine aq_then ?_
    refine aw_ret ?_
    refine aq_then_ret ?_
    refine aq_ret ?_
    obtain rfl := is_some h
    exact aq_finx (l := [.cell 6 30, .tmp 7]) (xs := [.v (.arr 2 (.int .i64)) ((List.replicate 2 0) : (List Int)), .bool false]) idn [.v (.arr 2 (.int .i64)) ((List.replicate 2 0) : (List Int)), .bool false] [] rfl (by exact ⟨⟨⟨_, _, rfl⟩, r_load_arr rfl Try.isAgg30 Try.sizeOf30 rfl rfl rfl⟩, rfl, trivial⟩) (by exact ⟨ad_ren rfl, ad_ren rfl, trivial⟩) (by exact trivial) rfl (nk rfl) rfl rfl ⟨rfl, rfl⟩
  · replace h := is_if (not_f hb2) h
    refine aw_skip ?_
    refine aq_then ?_
    refine aw_seq ?_
    refine aw_region ?_
    refine ao_read trivial (r_load_arr rfl Try.isAgg43 Try.sizeOf43 rfl rfl rfl) rfl ?_
    refine ao_read trivial (r_move rfl) rfl ?_
    refine ao_read trivial (r_move rfl) rfl ?_
    obtain ⟨r3, r3h, h⟩ := is_bind h
    refine ao_scall trivial (scall (c_spec_l7HoldMean (is_mk r3h)) rfl Try.func119 rfl rfl rfl rfl (fun σ => ⟨ad_ren rfl, ad_ren rfl, ad_ren rfl, trivial⟩)) rfl ?_
    refine ao_effS trivial (e_store rfl rfl rfl rfl Try.sizeOf30 rfl) ?_
    refine ao_read trivial (r_assign rfl) rfl ?_
    refine ao_nil ?_
    refine aq_then ?_
    refine aw_ret ?_
    refine aq_ret ?_
    obtain rfl := is_some h
    exact aq_finx (l := [.cell 6 30, .tmp 7]) (xs := [.v (.arr 2 (.int .i64)) r3, .bool true]) idn [.v (.arr 2 (.int .i64)) r3, .bool true] [] rfl (by exact ⟨⟨⟨_, _, rfl⟩, r_load_arr rfl Try.isAgg30 Try.sizeOf30 rfl rfl rfl⟩, rfl, trivial⟩) (by exact ⟨ad_ren rfl, ad_ren rfl, trivial⟩) (by exact trivial) rfl (nk rfl) rfl rfl ⟨rfl, rfl⟩
theorem c_impl_BustChance {fu : Nat} {x0 : (List Int)} {x1 : Int} {x2 : Int} {r : (List Int) × Bool} (h : Is (p_impl_BustChance fu x0 x1 x2) (some r)) :
    Scalar Try.prog 35 [.v (.arr 6 (.int .i64)) x0, .int .i64 x1, .int .i64 x2] (.tup [.v (.arr 2 (.int .i64)) r.1, .bool r.2]) := by
  unfold p_impl_BustChance at h
  refine ac_enter ⟨23, 0⟩ Try.func35 rfl rfl rfl rfl rfl (fun Γ => ?_)
  refine aw_seq ?_
  refine aw_region ?_
  refine ao_eff trivial (e_box 0 rfl rfl rfl rfl rfl rfl) rfl ?_
  refine ao_eff trivial (e_alloc 1 (y := .v (.arr 2 (.int .i64)) ((List.replicate 2 0) : (List Int))) Try.zeroValue30 (fun ρ h M => ra_zero_arr (t := (.int .i64)) rfl) rfl rfl rfl rfl rfl) rfl ?_
  refine ao_read trivial (r_assign rfl) rfl ?_
  refine ao_nil ?_
  refine aq_then ?_
  refine aw_seq ?_
  refine aw_seq ?_
  refine aw_region ?_
  refine ao_read trivial (r_load_arr rfl Try.isAgg43 Try.sizeOf43 rfl rfl rfl) rfl ?_
  refine ao_read trivial (r_move rfl) rfl ?_
  refine ao_read trivial (r_move rfl) rfl ?_
  refine ao_scall trivial (scall (c_impl_isTurn (is_mk (rfl : p_impl_isTurn x0 x1 x2 = _))) rfl Try.func114 rfl rfl rfl rfl (fun σ => ⟨ad_ren rfl, ad_ren rfl, ad_ren rfl, trivial⟩)) rfl ?_
  refine ao_read trivial (r_not rfl) rfl ?_
  refine ao_nil ?_
  refine aq_then ?_
  refine aw_cond rfl (fun hb1 => ?_) (fun hb1 => ?_)
  · replace h := is_else (ne_t (not_t hb1)) h
    refine aw_seq ?_
    refine aw_region ?_
    refine ao_read trivial (r_build_zero (t := (.int .i64)) Try.underlying30 Try.zeroValue30 Try.sizeOf3 rfl) rfl ?_
    refine ao_effS trivial (e_store rfl rfl rfl rfl Try.sizeOf30 rfl) ?_
    refine ao_read trivial (r_assign rfl) rfl ?_
    refine ao_nil ?_
    refine aq_then ?_
    refine aw_ret ?_
    refine aq_then_ret ?_
    refine aq_ret ?_
    obtain rfl := is_some h
    exact aq_finx (l := [.cell 6 30, .tmp 7]) (xs := [.v (.arr 2 (.int .i64)) ((List.replicate 2 0) : (List Int)), .bool false]) idn [.v (.arr 2 (.int .i64)) ((List.replicate 2 0) : (List Int)), .bool false] [] rfl (by exact ⟨⟨⟨_, _, rfl⟩, r_load_arr rfl Try.isAgg30 Try.sizeOf30 rfl rfl rfl⟩, rfl, trivial⟩) (by exact ⟨ad_ren rfl, ad_ren rfl, trivial⟩) (by exact trivial) rfl (nk rfl) rfl rfl ⟨rfl, rfl⟩
  · replace h := is_if (not_f hb1) h
    refine aw_skip ?_
    refine aq_then ?_
    refine aw_seq ?_
    obtain ⟨r2, r2h, h⟩ := is_bind h
    obtain ⟨g4, h⟩ := is_guard h
    obtain ⟨r5, r5h, h⟩ := is_bind h
    obtain ⟨r6, r6h, h⟩ := is_bind h
    refine aw_draw 9 (by kernel_rfl) (by kernel_rfl) ?_
    refine an_to [(6, .ref 0 0), (7, .bool false), (22, .v (.arr 2 (.int .i64)) r6)] [(0, .var [.arr (.int .i64) 2 ((List.replicate 2 0) : (List Int))])] ?_ (fun key => ?_)
    · refine aq_tail rfl ?_
      refine ao_effS trivial (e_store rfl rfl rfl rfl Try.sizeOf30 rfl) ?_
      refine ao_read trivial (r_assign rfl) rfl ?_
      refine ao_nil ?_
      refine aq_then ?_
      refine aw_ret ?_
      refine aq_ret ?_
      obtain rfl := is_some h
      exact aq_finx (l := [.cell 6 30, .tmp 7]) (xs := [.v (.arr 2 (.int .i64)) r6, .bool true]) idn [.v (.arr 2 (.int .i64)) r6, .bool true] [] rfl (by exact ⟨⟨⟨_, _, rfl⟩, r_load_arr rfl Try.isAgg30 Try.sizeOf30 rfl rfl rfl⟩, rfl, trivial⟩) (by exact ⟨ad_ren rfl, ad_ren rfl, trivial⟩) (by exact trivial) rfl (nk rfl) rfl rfl ⟨rfl, rfl⟩
    · refine an_read 0 (by kernel_rfl) (fun _ _ _ h => h) rfl (by kernel_rfl) trivial (r_load_arr rfl Try.isAgg43 Try.sizeOf43 rfl rfl rfl) rfl ?_
      refine an_read 1 (by kernel_rfl) (fun _ _ _ h => h) rfl (by kernel_rfl) trivial (r_move rfl) rfl ?_
      refine an_read 2 (by kernel_rfl) (fun _ _ _ h => h) rfl (by kernel_rfl) trivial (r_move rfl) rfl ?_
      refine an_read 6 (by kernel_rfl) (fun _ _ _ h => h) rfl (by kernel_rfl) trivial (r_move rfl) rfl ?_
      refine an_explore 2 rfl ?_
      refine ax_all [3] (by kernel_rfl) ⟨?_, trivial⟩
      refine axo_call 3 2 rfl trivial (c_impl_ends (is_mk r2h)) Try.func115 rfl rfl rfl rfl ⟨ad_ren rfl, ad_ren rfl, ad_ren rfl, trivial⟩ rfl rfl rfl rfl (fun r' H' hr => ?_)
      obtain ⟨rfl, rfl⟩ := hr
      refine ax_all [4, 7] (by kernel_rfl) ⟨?_, ?_, trivial⟩
      · refine axo_read 4 rfl trivial (r_idxAddr_os Try.underlying36 Try.sizeOf3 rfl rfl rfl (show 0 ≤ 0 from by omega) (show 0 < (r2.length : Int) from by omega)) rfl ?_
        refine ax_all [5, 7] (by kernel_rfl) ⟨?_, ?_, trivial⟩
        · refine axo_read 5 rfl trivial (r_load_elem_int Try.isAgg3 Try.sizeOf3 rfl rfl (show 0 < r2.length from by omega)) rfl ?_
          refine ax_all [7] (by kernel_rfl) ⟨?_, trivial⟩
          refine axo_scall 7 rfl trivial (scall (c_impl_power (is_mk r5h)) rfl Try.func103 rfl rfl rfl rfl (fun σ => ⟨ad_ren rfl, trivial⟩)) rfl ?_
          refine ax_all [8] (by kernel_rfl) ⟨?_, trivial⟩
          refine axo_scall 8 rfl trivial (scall (c_impl_fraction (is_mk r6h)) rfl Try.func102 rfl rfl rfl rfl (fun σ => ⟨ad_ren rfl, ad_ren rfl, trivial⟩)) rfl ?_
          exact ax_done rfl (AQ.sub (sub_mk (rn [(0, 1)]) (by exact ⟨⟨_, rfl, ad_ren rfl⟩, ⟨_, rfl, ad_ren rfl⟩, ⟨_, rfl, ad_ren rfl⟩, trivial⟩) (by exact ⟨⟨_, rfl, ⟨rfl, trivial⟩⟩, trivial⟩) (by rfl) (nk rfl)) key)
        · refine axo_scall 7 rfl trivial (scall (c_impl_power (is_mk r5h)) rfl Try.func103 rfl rfl rfl rfl (fun σ => ⟨ad_ren rfl, trivial⟩)) rfl ?_
          refine ax_all [5] (by kernel_rfl) ⟨?_, trivial⟩
          refine axo_read 5 rfl trivial (r_load_elem_int Try.isAgg3 Try.sizeOf3 rfl rfl (show 0 < r2.length from by omega)) rfl ?_
          refine ax_all [8] (by kernel_rfl) ⟨?_, trivial⟩
          refine axo_scall 8 rfl trivial (scall (c_impl_fraction (is_mk r6h)) rfl Try.func102 rfl rfl rfl rfl (fun σ => ⟨ad_ren rfl, ad_ren rfl, trivial⟩)) rfl ?_
          exact ax_done rfl (AQ.sub (sub_mk (rn [(0, 1)]) (by exact ⟨⟨_, rfl, ad_ren rfl⟩, ⟨_, rfl, ad_ren rfl⟩, ⟨_, rfl, ad_ren rfl⟩, trivial⟩) (by exact ⟨⟨_, rfl, ⟨rfl, trivial⟩⟩, trivial⟩) (by rfl) (nk rfl)) key)
      · refine axo_scall 7 rfl trivial (scall (c_impl_power (is_mk r5h)) rfl Try.func103 rfl rfl rfl rfl (fun σ => ⟨ad_ren rfl, trivial⟩)) rfl ?_
        refine ax_all [4] (by kernel_rfl) ⟨?_, trivial⟩
        refine axo_read 4 rfl trivial (r_idxAddr_os Try.underlying36 Try.sizeOf3 rfl rfl rfl (show 0 ≤ 0 from by omega) (show 0 < (r2.length : Int) from by omega)) rfl ?_
        refine ax_all [5] (by kernel_rfl) ⟨?_, trivial⟩
        refine axo_read 5 rfl trivial (r_load_elem_int Try.isAgg3 Try.sizeOf3 rfl rfl (show 0 < r2.length from by omega)) rfl ?_
        refine ax_all [8] (by kernel_rfl) ⟨?_, trivial⟩
        refine axo_scall 8 rfl trivial (scall (c_impl_fraction (is_mk r6h)) rfl Try.func102 rfl rfl rfl rfl (fun σ => ⟨ad_ren rfl, ad_ren rfl, trivial⟩)) rfl ?_
        exact ax_done rfl (AQ.sub (sub_mk (rn [(0, 1)]) (by exact ⟨⟨_, rfl, ad_ren rfl⟩, ⟨_, rfl, ad_ren rfl⟩, ⟨_, rfl, ad_ren rfl⟩, trivial⟩) (by exact ⟨⟨_, rfl, ⟨rfl, trivial⟩⟩, trivial⟩) (by rfl) (nk rfl)) key)
theorem c_spec_BustChance {fu : Nat} {x0 : (List Int)} {x1 : Int} {x2 : Int} {r : (List Int) × Bool} (h : Is (p_spec_BustChance fu x0 x1 x2) (some r)) :
    Scalar Try.prog 36 [.v (.arr 6 (.int .i64)) x0, .int .i64 x1, .int .i64 x2] (.tup [.v (.arr 2 (.int .i64)) r.1, .bool r.2]) := by
  unfold p_spec_BustChance at h
  refine ac_enter ⟨22, 0⟩ Try.func36 rfl rfl rfl rfl rfl (fun Γ => ?_)
  refine aw_seq ?_
  refine aw_region ?_
  refine ao_eff trivial (e_box 0 rfl rfl rfl rfl rfl rfl) rfl ?_
  refine ao_eff trivial (e_alloc 1 (y := .v (.arr 2 (.int .i64)) ((List.replicate 2 0) : (List Int))) Try.zeroValue30 (fun ρ h M => ra_zero_arr (t := (.int .i64)) rfl) rfl rfl rfl rfl rfl) rfl ?_
  refine ao_read trivial (r_assign rfl) rfl ?_
  refine ao_nil ?_
  refine aq_then ?_
  refine aw_seq ?_
  refine aw_seq ?_
  refine aw_region ?_
  refine ao_read trivial (r_load_arr rfl Try.isAgg43 Try.sizeOf43 rfl rfl rfl) rfl ?_
  refine ao_read trivial (r_move rfl) rfl ?_
  refine ao_read trivial (r_move rfl) rfl ?_
  obtain ⟨r1, r1h, h⟩ := is_bind h
  refine ao_scall trivial (scall (c_spec_l7Turn (is_mk r1h)) rfl Try.func116 rfl rfl rfl rfl (fun σ => ⟨ad_ren rfl, ad_ren rfl, ad_ren rfl, trivial⟩)) rfl ?_
  refine ao_read trivial (r_not rfl) rfl ?_
  refine ao_nil ?_
  refine aq_then ?_
  refine aw_cond rfl (fun hb2 => ?_) (fun hb2 => ?_)
  · replace h := is_else (ne_t (not_t hb2)) h
    refine aw_seq ?_
    refine aw_region ?_
    refine ao_read trivial (r_build_zero (t := (.int .i64)) Try.underlying30 Try.zeroValue30 Try.sizeOf3 rfl) rfl ?_
    refine ao_effS trivial (e_store rfl rfl rfl rfl Try.sizeOf30 rfl) ?_
    refine ao_read trivial (r_assign rfl) rfl ?_
    refine ao_nil ?_
    refine aq_then ?_
    refine aw_ret ?_
    refine aq_then_ret ?_
    refine aq_ret ?_
    obtain rfl := is_some h
    exact aq_finx (l := [.cell 6 30, .tmp 7]) (xs := [.v (.arr 2 (.int .i64)) ((List.replicate 2 0) : (List Int)), .bool false]) idn [.v (.arr 2 (.int .i64)) ((List.replicate 2 0) : (List Int)), .bool false] [] rfl (by exact ⟨⟨⟨_, _, rfl⟩, r_load_arr rfl Try.isAgg30 Try.sizeOf30 rfl rfl rfl⟩, rfl, trivial⟩) (by exact ⟨ad_ren rfl, ad_ren rfl, trivial⟩) (by exact trivial) rfl (nk rfl) rfl rfl ⟨rfl, rfl⟩
  · replace h := is_if (not_f hb2) h
    refine aw_skip ?_
    refine aq_then ?_
    refine aw_seq ?_
    refine aw_region ?_
    refine ao_read trivial (r_load_arr rfl Try.isAgg43 Try.sizeOf43 rfl rfl rfl) rfl ?_
    refine ao_read trivial (r_move rfl) rfl ?_
    refine ao_read trivial (r_move rfl) rfl ?_
    obtain ⟨r3, r3h, h⟩ := is_bind h
    refine ao_scall trivial (scall (c_spec_l7Ends (is_mk r3h)) rfl Try.func117 rfl rfl rfl rfl (fun σ => ⟨ad_ren rfl, ad_ren rfl, ad_ren rfl, trivial⟩)) rfl ?_
    refine ao_read trivial (r_index_a (t := (.int .i64)) Try.underlying120 Try.isAgg3 Try.sizeOf3 rfl rfl (by omega) (by omega)) rfl ?_
    refine ao_read trivial (r_move rfl) rfl ?_
    obtain ⟨r4, r4h, h⟩ := is_bind h
    refine ao_scall trivial (scall (c_spec_l2All (is_mk r4h)) rfl Try.func106 rfl rfl rfl rfl (fun σ => ⟨ad_ren rfl, trivial⟩)) rfl ?_
    obtain ⟨r5, r5h, h⟩ := is_bind h
    refine ao_scall trivial (scall (c_spec_l2Cut (is_mk r5h)) rfl Try.func105 rfl rfl rfl rfl (fun σ => ⟨ad_ren rfl, ad_ren rfl, trivial⟩)) rfl ?_
    refine ao_effS trivial (e_store rfl rfl rfl rfl Try.sizeOf30 rfl) ?_
    refine ao_read trivial (r_assign rfl) rfl ?_
    refine ao_nil ?_
    refine aq_then ?_
    refine aw_ret ?_
    refine aq_ret ?_
    obtain rfl := is_some h
    exact aq_finx (l := [.cell 6 30, .tmp 7]) (xs := [.v (.arr 2 (.int .i64)) r5, .bool true]) idn [.v (.arr 2 (.int .i64)) r5, .bool true] [] rfl (by exact ⟨⟨⟨_, _, rfl⟩, r_load_arr rfl Try.isAgg30 Try.sizeOf30 rfl rfl rfl⟩, rfl, trivial⟩) (by exact ⟨ad_ren rfl, ad_ren rfl, trivial⟩) (by exact trivial) rfl (nk rfl) rfl rfl ⟨rfl, rfl⟩
theorem c_spec_DrawBestHold {x0 : (List Int)} {r : (List Int) × Int} (h : Is (p_spec_DrawBestHold x0) (some r)) :
    Scalar Try.prog 37 [.v (.slice (.int .u8)) x0] (.tup [.v (.arr 6 (.int .i64)) r.1, .int .i64 r.2]) := by
  unfold p_spec_DrawBestHold at h
  refine ac_enter ⟨15, 0⟩ Try.func37 rfl rfl rfl rfl rfl (fun Γ => ?_)
  refine sl_len_m 0 (x0.length : Int) rfl rfl (fun hl0 => ?_)
  refine aw_seq ?_
  refine aw_region ?_
  refine ao_eff trivial (e_alloc 0 (y := .v (.arr 6 (.int .i64)) ((List.replicate 6 0) : (List Int))) Try.zeroValue43 (fun ρ h M => ra_zero_arr (t := (.int .i64)) rfl) rfl rfl rfl rfl rfl) rfl ?_
  refine ao_read trivial (r_assign rfl) rfl ?_
  refine ao_nil ?_
  refine aq_then ?_
  refine aw_seq ?_
  refine aw_region ?_
  refine ao_read trivial (r_move rfl) rfl ?_
  obtain ⟨r1, r1h, h⟩ := is_bind h
  refine ao_scall trivial (scall (c_spec_DrawHoldEnds (is_mk r1h)) rfl Try.func30 rfl rfl rfl rfl (fun σ => ⟨ad_ren rfl, trivial⟩)) rfl ?_
  refine ao_read trivial (r_move rfl) rfl ?_
  refine ao_read trivial (r_extract rfl rfl) rfl ?_
  refine ao_read trivial (r_extract rfl rfl) rfl ?_
  refine ao_read trivial (r_extract rfl rfl) rfl ?_
  refine ao_eff trivial (e_alloc 1 (y := .v (.arr 6 (.int .i64)) ((List.replicate 6 0) : (List Int))) Try.zeroValue43 (fun ρ h M => ra_zero_arr (t := (.int .i64)) rfl) rfl rfl rfl rfl rfl) rfl ?_
  refine ao_effS trivial (e_store rfl rfl rfl rfl Try.sizeOf43 rfl) ?_
  refine ao_read trivial (r_assign rfl) rfl ?_
  refine ao_read trivial (r_assign rfl) rfl ?_
  refine ao_nil ?_
  refine aq_then ?_
  refine aw_seq ?_
  refine aw_region ?_
  refine ao_read trivial (r_load_arr rfl Try.isAgg43 Try.sizeOf43 rfl rfl rfl) rfl ?_
  refine ao_read trivial (r_move rfl) rfl ?_
  refine ao_effS trivial (e_store rfl rfl rfl rfl Try.sizeOf43 rfl) ?_
  refine ao_read trivial (r_assign rfl) rfl ?_
  refine ao_nil ?_
  refine aq_then ?_
  refine aw_ret ?_
  refine aq_ret ?_
  obtain rfl := is_some h
  exact aq_finx (l := [.cell 2 43, .tmp 3]) (xs := [.v (.arr 6 (.int .i64)) r1.1, .int .i64 r1.2.1]) idn [.v (.arr 6 (.int .i64)) r1.1, .int .i64 r1.2.1] [] rfl (by exact ⟨⟨⟨_, _, rfl⟩, r_load_arr rfl Try.isAgg43 Try.sizeOf43 rfl rfl rfl⟩, rfl, trivial⟩) (by exact ⟨ad_ren rfl, ad_ren rfl, trivial⟩) (by exact trivial) rfl (nk rfl) rfl rfl ⟨rfl, rfl⟩
theorem c_impl_BestHold {fu : Nat} {x0 : (List Int)} {x1 : Int} {r : Int × (List Int) × Bool} (h : Is (p_impl_BestHold fu x0 x1) (some r)) :
    Scalar Try.prog 38 [.v (.arr 6 (.int .i64)) x0, .int .i64 x1] (.tup [.int .i64 r.1, .v (.arr 2 (.int .i64)) r.2.1, .bool r.2.2]) := by
  unfold p_impl_BestHold at h
  refine ac_enter ⟨37, 0⟩ Try.func38 rfl rfl rfl rfl rfl (fun Γ => ?_)
  refine aw_seq ?_
  refine aw_region ?_
  refine ao_eff trivial (e_box 0 rfl rfl rfl rfl rfl rfl) rfl ?_
  refine ao_read trivial (r_assign rfl) rfl ?_
  refine ao_eff trivial (e_alloc 1 (y := .v (.arr 2 (.int .i64)) ((List.replicate 2 0) : (List Int))) Try.zeroValue30 (fun ρ h M => ra_zero_arr (t := (.int .i64)) rfl) rfl rfl rfl rfl rfl) rfl ?_
  refine ao_read trivial (r_assign rfl) rfl ?_
  refine ao_nil ?_
  refine aq_then ?_
  refine aw_seq ?_
  refine aw_seq ?_
  refine aw_region ?_
  refine ao_read trivial (r_load_arr rfl Try.isAgg43 Try.sizeOf43 rfl rfl rfl) rfl ?_
  refine ao_read trivial (r_move rfl) rfl ?_
  refine ao_scall trivial (scall (c_impl_isTurn (is_mk (rfl : p_impl_isTurn x0 x1 1 = _))) rfl Try.func114 rfl rfl rfl rfl (fun σ => ⟨ad_ren rfl, ad_ren rfl, ad_ren rfl, trivial⟩)) rfl ?_
  refine ao_read trivial (r_not rfl) rfl ?_
  refine ao_nil ?_
  refine aq_then ?_
  refine aw_cond rfl (fun hb1 => ?_) (fun hb1 => ?_)
  · replace h := is_else (ne_t (not_t hb1)) h
    refine aw_seq ?_
    refine aw_region ?_
    refine ao_read trivial (r_build_zero (t := (.int .i64)) Try.underlying30 Try.zeroValue30 Try.sizeOf3 rfl) rfl ?_
    refine ao_read trivial (r_assign rfl) rfl ?_
    refine ao_effS trivial (e_store rfl rfl rfl rfl Try.sizeOf30 rfl) ?_
    refine ao_read trivial (r_assign rfl) rfl ?_
    refine ao_nil ?_
    refine aq_then ?_
    refine aw_ret ?_
    refine aq_then_ret ?_
    refine aq_ret ?_
    obtain rfl := is_some h
    exact aq_finx (l := [.tmp 4, .cell 5 30, .tmp 6]) (xs := [.int .i64 0, .v (.arr 2 (.int .i64)) ((List.replicate 2 0) : (List Int)), .bool false]) idn [.int .i64 0, .v (.arr 2 (.int .i64)) ((List.replicate 2 0) : (List Int)), .bool false] [] rfl (by exact ⟨rfl, ⟨⟨_, _, rfl⟩, r_load_arr rfl Try.isAgg30 Try.sizeOf30 rfl rfl rfl⟩, rfl, trivial⟩) (by exact ⟨ad_ren rfl, ad_ren rfl, ad_ren rfl, trivial⟩) (by exact trivial) rfl (nk rfl) rfl rfl ⟨rfl, rfl⟩
  · replace h := is_if (not_f hb1) h
    refine aw_skip ?_
    refine aq_then ?_
    refine aw_seq ?_
    refine aw_region ?_
    refine ao_read trivial (r_assign rfl) rfl ?_
    refine ao_read trivial (r_assign rfl) rfl ?_
    refine ao_nil ?_
    refine aq_then ?_
    refine aw_seq ?_
    refine aw_seq ?_
    refine aw_region ?_
    refine ao_read trivial (r_assign rfl) rfl ?_
    refine ao_nil ?_
    refine aq_then ?_
    refine aw_block ?_
    refine aw_loop (AL.sub (sub_mk idn (by exact ⟨⟨_, rfl, ad_ren rfl⟩, ⟨_, rfl, ad_ren rfl⟩, ⟨_, rfl, ad_ren rfl⟩, ⟨_, rfl, ad_ren rfl⟩, ⟨_, rfl, ad_ren rfl⟩, ⟨_, rfl, ad_ren rfl⟩, trivial⟩) (by exact ⟨⟨_, rfl, ⟨rfl, trivial⟩⟩, ⟨_, rfl, ⟨rfl, trivial⟩⟩, trivial⟩) (by rfl) (nk rfl)) (al_whl (fun (s2 : Int × Int × Int) => [(1, .int .i64 x1), (2, .ref 0 0), (5, .ref 1 0), (7, .int .i64 s2.1), (8, .int .i64 s2.2.1), (9, .int .i64 s2.2.2)]) (fun (s2 : Int × Int × Int) => [(0, .var [.arr (.int .i64) 6 x0]), (1, .var [.arr (.int .i64) 2 ((List.replicate 2 0) : (List Int))])]) (fun (s2 : Int × Int × Int) => 1 ≤ s2.1 ∧ (-1) ≤ s2.2.1 ∧ 1 ≤ s2.2.2) h ⟨(by (try simp only [List.length_set, List.length_append, List.length_cons, List.length_nil, List.length_replicate, List.length_take, List.length_drop]) <;> omega), (by (try simp only [List.length_set, List.length_append, List.length_cons, List.length_nil, List.length_replicate, List.length_take, List.length_drop]) <;> omega), (by (try simp only [List.length_set, List.length_append, List.length_cons, List.length_nil, List.length_replicate, List.length_take, List.length_drop]) <;> omega)⟩ (fun d4 s2 hI h ih4 => ?_)))
    obtain ⟨_, _, _⟩ := hI
    replace h := is_whlS h
    refine al_round ?_
    refine aw_seq ?_
    refine aw_seq ?_
    refine aw_region ?_
    refine ao_read trivial (r_move rfl) rfl ?_
    refine ao_read trivial (r_leq rfl rfl) rfl ?_
    refine ao_nil ?_
    refine aq_then ?_
    refine aw_cond rfl (fun hb6 => ?_) (fun hb6 => ?_)
    · have q7 := d_t hb6
      replace h := is_if (d_t hb6) h
      refine aw_skip ?_
      refine aq_then ?_
      refine aw_seq ?_
      refine aw_block ?_
      refine aw_seq ?_
      refine aw_region ?_
      refine ao_read trivial (r_load_arr rfl Try.isAgg43 Try.sizeOf43 rfl rfl rfl) rfl ?_
      refine ao_read trivial (r_move rfl) rfl ?_
      refine ao_read trivial (r_move rfl) rfl ?_
      obtain ⟨r9, r9h, h⟩ := is_bind h
      refine ao_scall trivial (scall (c_impl_holdMean (is_mk r9h)) rfl Try.func118 rfl rfl rfl rfl (fun σ => ⟨ad_ren rfl, ad_ren rfl, ad_ren rfl, trivial⟩)) rfl ?_
      refine ao_read trivial (r_move rfl) rfl ?_
      refine ao_read trivial (r_subI rfl rfl (wrap_id (by omega) (by omega))) rfl ?_
      obtain ⟨r10, r10h, h⟩ := is_bind h
      refine ao_scall trivial (scall (c_impl_power (is_mk r10h)) rfl Try.func103 rfl rfl rfl rfl (fun σ => ⟨ad_ren rfl, trivial⟩)) rfl ?_
      refine ao_read trivial (r_mul rfl rfl) rfl ?_
      refine ao_read trivial (r_assign rfl) rfl ?_
      refine ao_nil ?_
      refine aq_then ?_
      refine aw_seq ?_
      refine aw_region ?_
      refine ao_read trivial (r_move rfl) rfl ?_
      refine ao_read trivial (r_move rfl) rfl ?_
      refine ao_read trivial (r_gtr rfl rfl) rfl ?_
      refine ao_nil ?_
      refine aq_then ?_
      refine aw_cond rfl (fun hb11 => ?_) (fun hb11 => ?_)
      · have q12 := d_t hb11
        replace h := is_if (d_t hb11) h
        refine aw_region ?_
        refine ao_read trivial (r_move rfl) rfl ?_
        refine ao_read trivial (r_move rfl) rfl ?_
        refine ao_read trivial (r_assign rfl) rfl ?_
        refine ao_read trivial (r_assign rfl) rfl ?_
        refine ao_nil ?_
        refine aq_in ?_
        refine aq_then ?_
        refine aw_region ?_
        refine ao_read trivial (r_move rfl) rfl ?_
        refine ao_read trivial (r_addI rfl rfl (wrap_id (by omega) (by omega))) rfl ?_
        refine ao_read trivial (r_assign rfl) rfl ?_
        refine ao_nil ?_
        exact aq_again (AL.sub (sub_mk idn (by exact ⟨⟨_, rfl, ad_ren rfl⟩, ⟨_, rfl, ad_ren rfl⟩, ⟨_, rfl, ad_ren rfl⟩, ⟨_, rfl, ad_ren rfl⟩, ⟨_, rfl, ad_ren rfl⟩, ⟨_, rfl, ad_ren rfl⟩, trivial⟩) (by exact ⟨⟨_, rfl, ⟨rfl, trivial⟩⟩, ⟨_, rfl, ⟨rfl, trivial⟩⟩, trivial⟩) (by rfl) (nk rfl)) (ih4 (s2.2.2, (IntKind.wrap .i64 (r9 * r10)), (s2.2.2 + 1)) ⟨(by (try simp only [List.length_set, List.length_append, List.length_cons, List.length_nil, List.length_replicate, List.length_take, List.length_drop]) <;> omega), (by (try simp only [List.length_set, List.length_append, List.length_cons, List.length_nil, List.length_replicate, List.length_take, List.length_drop]) <;> omega), (by (try simp only [List.length_set, List.length_append, List.length_cons, List.length_nil, List.length_replicate, List.length_take, List.length_drop]) <;> omega)⟩ h))
      · have q13 := d_f hb11
        replace h := is_else (d_f hb11) h
        refine aw_skip ?_
        refine aq_in ?_
        refine aq_then ?_
        refine aw_region ?_
        refine ao_read trivial (r_move rfl) rfl ?_
        refine ao_read trivial (r_addI rfl rfl (wrap_id (by omega) (by omega))) rfl ?_
        refine ao_read trivial (r_assign rfl) rfl ?_
        refine ao_nil ?_
        exact aq_again (AL.sub (sub_mk idn (by exact ⟨⟨_, rfl, ad_ren rfl⟩, ⟨_, rfl, ad_ren rfl⟩, ⟨_, rfl, ad_ren rfl⟩, ⟨_, rfl, ad_ren rfl⟩, ⟨_, rfl, ad_ren rfl⟩, ⟨_, rfl, ad_ren rfl⟩, trivial⟩) (by exact ⟨⟨_, rfl, ⟨rfl, trivial⟩⟩, ⟨_, rfl, ⟨rfl, trivial⟩⟩, trivial⟩) (by rfl) (nk rfl)) (ih4 (s2.1, s2.2.1, (s2.2.2 + 1)) ⟨(by (try simp only [List.length_set, List.length_append, List.length_cons, List.length_nil, List.length_replicate, List.length_take, List.length_drop]) <;> omega), (by (try simp only [List.length_set, List.length_append, List.length_cons, List.length_nil, List.length_replicate, List.length_take, List.length_drop]) <;> omega), (by (try simp only [List.length_set, List.length_append, List.length_cons, List.length_nil, List.length_replicate, List.length_take, List.length_drop]) <;> omega)⟩ h))
    · have q8 := d_f hb6
      replace h := is_else (d_f hb6) h
      refine aw_exit ?_
      refine aq_then_exit ?_
      refine aq_then_exit ?_
      refine aq_in_exit ?_
      refine aq_then ?_
      refine aw_seq ?_
      refine aw_region ?_
      refine ao_read trivial (r_move rfl) rfl ?_
      refine ao_read trivial (r_move rfl) rfl ?_
      obtain ⟨r14, r14h, h⟩ := is_bind h
      refine ao_scall trivial (scall (c_impl_power (is_mk r14h)) rfl Try.func103 rfl rfl rfl rfl (fun σ => ⟨ad_ren rfl, trivial⟩)) rfl ?_
      obtain ⟨r15, r15h, h⟩ := is_bind h
      refine ao_scall trivial (scall (c_impl_fraction (is_mk r15h)) rfl Try.func102 rfl rfl rfl rfl (fun σ => ⟨ad_ren rfl, ad_ren rfl, trivial⟩)) rfl ?_
      refine ao_read trivial (r_assign rfl) rfl ?_
      refine ao_effS trivial (e_store rfl rfl rfl rfl Try.sizeOf30 rfl) ?_
      refine ao_read trivial (r_assign rfl) rfl ?_
      refine ao_nil ?_
      refine aq_then ?_
      refine aw_ret ?_
      refine aq_ret ?_
      obtain rfl := is_some h
      exact aq_finx (l := [.tmp 4, .cell 5 30, .tmp 6]) (xs := [.int .i64 s2.1, .v (.arr 2 (.int .i64)) r15, .bool true]) idn [.int .i64 s2.1, .v (.arr 2 (.int .i64)) r15, .bool true] [] rfl (by exact ⟨rfl, ⟨⟨_, _, rfl⟩, r_load_arr rfl Try.isAgg30 Try.sizeOf30 rfl rfl rfl⟩, rfl, trivial⟩) (by exact ⟨ad_ren rfl, ad_ren rfl, ad_ren rfl, trivial⟩) (by exact trivial) rfl (nk rfl) rfl rfl ⟨rfl, rfl⟩
theorem c_spec_l2Less {x0 : (List Int)} {x1 : (List Int)} {r : Bool} (h : Is (p_spec_l2Less x0 x1) r) :
    Scalar Try.prog 120 [.v (.arr 2 (.int .i64)) x0, .v (.arr 2 (.int .i64)) x1] (.bool r) := by
  unfold p_spec_l2Less at h
  refine ac_enter ⟨16, 0⟩ Try.func120 rfl rfl rfl rfl rfl (fun Γ => ?_)
  refine aw_seq ?_
  refine aw_region ?_
  refine ao_eff trivial (e_box 0 rfl rfl rfl rfl rfl rfl) rfl ?_
  refine ao_eff trivial (e_box 1 rfl rfl rfl rfl rfl rfl) rfl ?_
  refine ao_read trivial (r_assign rfl) rfl ?_
  refine ao_nil ?_
  refine aq_then ?_
  refine aw_seq ?_
  refine aw_region ?_
  refine ao_read trivial (r_idxAddr_arr (i := 0) Try.underlying30 Try.sizeOf3 rfl rfl (show 0 ≤ 0 from by omega) (show 0 < (2 : Int) from by omega)) rfl ?_
  refine ao_read trivial (r_load_elema_int Try.isAgg3 Try.sizeOf3 rfl rfl rfl (show 0 < 2 from by omega)) rfl ?_
  refine ao_read trivial (r_idxAddr_arr (i := 1) Try.underlying30 Try.sizeOf3 rfl rfl (show 0 ≤ 1 from by omega) (show 1 < (2 : Int) from by omega)) rfl ?_
  refine ao_read trivial (r_load_elema_int Try.isAgg3 Try.sizeOf3 rfl rfl rfl (show 1 < 2 from by omega)) rfl ?_
  refine ao_read trivial (r_mul rfl rfl) rfl ?_
  refine ao_read trivial (r_idxAddr_arr (i := 0) Try.underlying30 Try.sizeOf3 rfl rfl (show 0 ≤ 0 from by omega) (show 0 < (2 : Int) from by omega)) rfl ?_
  refine ao_read trivial (r_load_elema_int Try.isAgg3 Try.sizeOf3 rfl rfl rfl (show 0 < 2 from by omega)) rfl ?_
  refine ao_read trivial (r_idxAddr_arr (i := 1) Try.underlying30 Try.sizeOf3 rfl rfl (show 0 ≤ 1 from by omega) (show 1 < (2 : Int) from by omega)) rfl ?_
  refine ao_read trivial (r_load_elema_int Try.isAgg3 Try.sizeOf3 rfl rfl rfl (show 1 < 2 from by omega)) rfl ?_
  refine ao_read trivial (r_mul rfl rfl) rfl ?_
  refine ao_read trivial (r_lss rfl rfl) rfl ?_
  refine ao_read trivial (r_assign rfl) rfl ?_
  refine ao_nil ?_
  refine aq_then ?_
  refine aw_ret ?_
  refine aq_ret ?_
  obtain rfl := is_eq h
  exact aq_finx (l := [.tmp 4]) (xs := [.bool (decide ((IntKind.wrap .i64 ((x0.getD 0 0) * (x1.getD 1 0))) < (IntKind.wrap .i64 ((x1.getD 0 0) * (x0.getD 1 0)))))]) idn [.bool (decide ((IntKind.wrap .i64 ((x0.getD 0 0) * (x1.getD 1 0))) < (IntKind.wrap .i64 ((x1.getD 0 0) * (x0.getD 1 0)))))] [] rfl (by exact ⟨rfl, trivial⟩) (by exact ⟨ad_ren rfl, trivial⟩) (by exact trivial) rfl (nk rfl) rfl rfl ⟨rfl, rfl⟩
theorem c_spec_BestHold {fu : Nat} {x0 : (List Int)} {x1 : Int} {r : Int × (List Int) × Bool} (h : Is (p_spec_BestHold fu x0 x1) (some r)) :
    Scalar Try.prog 39 [.v (.arr 6 (.int .i64)) x0, .int .i64 x1] (.tup [.int .i64 r.1, .v (.arr 2 (.int .i64)) r.2.1, .bool r.2.2]) := by
  unfold p_spec_BestHold at h
  refine ac_enter ⟨34, 0⟩ Try.func39 rfl rfl rfl rfl rfl (fun Γ => ?_)
  refine aw_seq ?_
  refine aw_region ?_
  refine ao_eff trivial (e_box 0 rfl rfl rfl rfl rfl rfl) rfl ?_
  refine ao_read trivial (r_assign rfl) rfl ?_
  refine ao_eff trivial (e_alloc 1 (y := .v (.arr 2 (.int .i64)) ((List.replicate 2 0) : (List Int))) Try.zeroValue30 (fun ρ h M => ra_zero_arr (t := (.int .i64)) rfl) rfl rfl rfl rfl rfl) rfl ?_
  refine ao_read trivial (r_assign rfl) rfl ?_
  refine ao_nil ?_
  refine aq_then ?_
  refine aw_seq ?_
  refine aw_seq ?_
  refine aw_region ?_
  refine ao_read trivial (r_load_arr rfl Try.isAgg43 Try.sizeOf43 rfl rfl rfl) rfl ?_
  refine ao_read trivial (r_move rfl) rfl ?_
  obtain ⟨r1, r1h, h⟩ := is_bind h
  refine ao_scall trivial (scall (c_spec_l7Turn (is_mk r1h)) rfl Try.func116 rfl rfl rfl rfl (fun σ => ⟨ad_ren rfl, ad_ren rfl, ad_ren rfl, trivial⟩)) rfl ?_
  refine ao_read trivial (r_not rfl) rfl ?_
  refine ao_nil ?_
  refine aq_then ?_
  refine aw_cond rfl (fun hb2 => ?_) (fun hb2 => ?_)
  · replace h := is_else (ne_t (not_t hb2)) h
    refine aw_seq ?_
    refine aw_region ?_
    refine ao_read trivial (r_build_zero (t := (.int .i64)) Try.underlying30 Try.zeroValue30 Try.sizeOf3 rfl) rfl ?_
    refine ao_read trivial (r_assign rfl) rfl ?_
    refine ao_effS trivial (e_store rfl rfl rfl rfl Try.sizeOf30 rfl) ?_
    refine ao_read trivial (r_assign rfl) rfl ?_
    refine ao_nil ?_
    refine aq_then ?_
    refine aw_ret ?_
    refine aq_then_ret ?_
    refine aq_ret ?_
    obtain rfl := is_some h
    exact aq_finx (l := [.tmp 4, .cell 5 30, .tmp 6]) (xs := [.int .i64 0, .v (.arr 2 (.int .i64)) ((List.replicate 2 0) : (List Int)), .bool false]) idn [.int .i64 0, .v (.arr 2 (.int .i64)) ((List.replicate 2 0) : (List Int)), .bool false] [] rfl (by exact ⟨rfl, ⟨⟨_, _, rfl⟩, r_load_arr rfl Try.isAgg30 Try.sizeOf30 rfl rfl rfl⟩, rfl, trivial⟩) (by exact ⟨ad_ren rfl, ad_ren rfl, ad_ren rfl, trivial⟩) (by exact trivial) rfl (nk rfl) rfl rfl ⟨rfl, rfl⟩
  · replace h := is_if (not_f hb2) h
    refine aw_skip ?_
    refine aq_then ?_
    refine aw_seq ?_
    refine aw_region ?_
    refine ao_read trivial (r_load_arr rfl Try.isAgg43 Try.sizeOf43 rfl rfl rfl) rfl ?_
    refine ao_read trivial (r_move rfl) rfl ?_
    obtain ⟨r3, r3h, h⟩ := is_bind h
    refine ao_scall trivial (scall (c_spec_l7HoldMean (is_mk r3h)) rfl Try.func119 rfl rfl rfl rfl (fun σ => ⟨ad_ren rfl, ad_ren rfl, ad_ren rfl, trivial⟩)) rfl ?_
    refine ao_eff trivial (e_alloc 2 (y := .v (.arr 2 (.int .i64)) ((List.replicate 2 0) : (List Int))) Try.zeroValue30 (fun ρ h M => ra_zero_arr (t := (.int .i64)) rfl) rfl rfl rfl rfl rfl) rfl ?_
    refine ao_read trivial (r_assign rfl) rfl ?_
    refine ao_effS trivial (e_store rfl rfl rfl rfl Try.sizeOf30 rfl) ?_
    refine ao_nil ?_
    refine aq_then ?_
    refine aw_seq ?_
    refine aw_seq ?_
    refine aw_region ?_
    refine ao_read trivial (r_assign rfl) rfl ?_
    refine ao_nil ?_
    refine aq_then ?_
    refine aw_block ?_
    refine aw_loop (AL.sub (sub_mk idn (by exact ⟨⟨_, rfl, ad_ren rfl⟩, ⟨_, rfl, ad_ren rfl⟩, ⟨_, rfl, ad_ren rfl⟩, ⟨_, rfl, ad_ren rfl⟩, ⟨_, rfl, ad_ren rfl⟩, ⟨_, rfl, ad_ren rfl⟩, trivial⟩) (by exact ⟨⟨_, rfl, ⟨rfl, trivial⟩⟩, ⟨_, rfl, ⟨rfl, trivial⟩⟩, ⟨_, rfl, ⟨rfl, trivial⟩⟩, trivial⟩) (by rfl) (nk rfl)) (al_whl (fun (s4 : Int × Int × (List Int)) => [(1, .int .i64 x1), (2, .ref 0 0), (5, .ref 1 0), (7, .int .i64 s4.1), (8, .ref 2 0), (9, .int .i64 s4.2.1)]) (fun (s4 : Int × Int × (List Int)) => [(0, .var [.arr (.int .i64) 6 x0]), (1, .var [.arr (.int .i64) 2 ((List.replicate 2 0) : (List Int))]), (2, .var [.arr (.int .i64) 2 s4.2.2])]) (fun (s4 : Int × Int × (List Int)) => 1 ≤ s4.1 ∧ 2 ≤ s4.2.1) h ⟨(by (try simp only [List.length_set, List.length_append, List.length_cons, List.length_nil, List.length_replicate, List.length_take, List.length_drop]) <;> omega), (by (try simp only [List.length_set, List.length_append, List.length_cons, List.length_nil, List.length_replicate, List.length_take, List.length_drop]) <;> omega)⟩ (fun d6 s4 hI h ih6 => ?_)))
    obtain ⟨_, _⟩ := hI
    replace h := is_whlS h
    refine al_round ?_
    refine aw_seq ?_
    refine aw_seq ?_
    refine aw_region ?_
    refine ao_read trivial (r_move rfl) rfl ?_
    refine ao_read trivial (r_leq rfl rfl) rfl ?_
    refine ao_nil ?_
    refine aq_then ?_
    refine aw_cond rfl (fun hb8 => ?_) (fun hb8 => ?_)
    · have q9 := d_t hb8
      replace h := is_if (d_t hb8) h
      refine aw_skip ?_
      refine aq_then ?_
      refine aw_seq ?_
      refine aw_block ?_
      refine aw_seq ?_
      refine aw_region ?_
      refine ao_read trivial (r_load_arr rfl Try.isAgg43 Try.sizeOf43 rfl rfl rfl) rfl ?_
      refine ao_read trivial (r_move rfl) rfl ?_
      refine ao_read trivial (r_move rfl) rfl ?_
      obtain ⟨r11, r11h, h⟩ := is_bind h
      refine ao_scall trivial (scall (c_spec_l7HoldMean (is_mk r11h)) rfl Try.func119 rfl rfl rfl rfl (fun σ => ⟨ad_ren rfl, ad_ren rfl, ad_ren rfl, trivial⟩)) rfl ?_
      refine ao_eff trivial (e_alloc 3 (y := .v (.arr 2 (.int .i64)) ((List.replicate 2 0) : (List Int))) Try.zeroValue30 (fun ρ h M => ra_zero_arr (t := (.int .i64)) rfl) rfl rfl rfl rfl rfl) rfl ?_
      refine ao_effS trivial (e_store rfl rfl rfl rfl Try.sizeOf30 rfl) ?_
      refine ao_nil ?_
      refine aq_then ?_
      refine aw_seq ?_
      refine aw_region ?_
      refine ao_read trivial (r_load_arr rfl Try.isAgg30 Try.sizeOf30 rfl rfl rfl) rfl ?_
      refine ao_read trivial (r_load_arr rfl Try.isAgg30 Try.sizeOf30 rfl rfl rfl) rfl ?_
      refine ao_scall trivial (scall (c_spec_l2Less (is_mk (rfl : p_spec_l2Less s4.2.2 r11 = _))) rfl Try.func120 rfl rfl rfl rfl (fun σ => ⟨ad_ren rfl, ad_ren rfl, trivial⟩)) rfl ?_
      refine ao_nil ?_
      refine aq_then ?_
      refine aw_cond rfl (fun hb12 => ?_) (fun hb12 => ?_)
      · replace h := is_if hb12 h
        refine aw_seq ?_
        refine aw_region ?_
        refine ao_read trivial (r_move rfl) rfl ?_
        refine ao_read trivial (r_assign rfl) rfl ?_
        refine ao_nil ?_
        refine aq_then ?_
        refine aw_region ?_
        refine ao_read trivial (r_load_arr rfl Try.isAgg30 Try.sizeOf30 rfl rfl rfl) rfl ?_
        refine ao_effS trivial (e_store rfl rfl rfl rfl Try.sizeOf30 rfl) ?_
        refine ao_nil ?_
        refine aq_in ?_
        refine aq_then ?_
        refine aw_region ?_
        refine ao_read trivial (r_move rfl) rfl ?_
        refine ao_read trivial (r_addI rfl rfl (wrap_id (by omega) (by omega))) rfl ?_
        refine ao_read trivial (r_assign rfl) rfl ?_
        refine ao_nil ?_
        exact aq_again (AL.sub (sub_mk idn (by exact ⟨⟨_, rfl, ad_ren rfl⟩, ⟨_, rfl, ad_ren rfl⟩, ⟨_, rfl, ad_ren rfl⟩, ⟨_, rfl, ad_ren rfl⟩, ⟨_, rfl, ad_ren rfl⟩, ⟨_, rfl, ad_ren rfl⟩, trivial⟩) (by exact ⟨⟨_, rfl, ⟨rfl, trivial⟩⟩, ⟨_, rfl, ⟨rfl, trivial⟩⟩, ⟨_, rfl, ⟨rfl, trivial⟩⟩, trivial⟩) (by rfl) (nk rfl)) (ih6 (s4.2.1, (s4.2.1 + 1), r11) ⟨(by (try simp only [List.length_set, List.length_append, List.length_cons, List.length_nil, List.length_replicate, List.length_take, List.length_drop]) <;> omega), (by (try simp only [List.length_set, List.length_append, List.length_cons, List.length_nil, List.length_replicate, List.length_take, List.length_drop]) <;> omega)⟩ h))
      · replace h := is_else (ne_t hb12) h
        refine aw_skip ?_
        refine aq_in ?_
        refine aq_then ?_
        refine aw_region ?_
        refine ao_read trivial (r_move rfl) rfl ?_
        refine ao_read trivial (r_addI rfl rfl (wrap_id (by omega) (by omega))) rfl ?_
        refine ao_read trivial (r_assign rfl) rfl ?_
        refine ao_nil ?_
        exact aq_again (AL.sub (sub_mk idn (by exact ⟨⟨_, rfl, ad_ren rfl⟩, ⟨_, rfl, ad_ren rfl⟩, ⟨_, rfl, ad_ren rfl⟩, ⟨_, rfl, ad_ren rfl⟩, ⟨_, rfl, ad_ren rfl⟩, ⟨_, rfl, ad_ren rfl⟩, trivial⟩) (by exact ⟨⟨_, rfl, ⟨rfl, trivial⟩⟩, ⟨_, rfl, ⟨rfl, trivial⟩⟩, ⟨_, rfl, ⟨rfl, trivial⟩⟩, trivial⟩) (by rfl) (nk rfl)) (ih6 (s4.1, (s4.2.1 + 1), s4.2.2) ⟨(by (try simp only [List.length_set, List.length_append, List.length_cons, List.length_nil, List.length_replicate, List.length_take, List.length_drop]) <;> omega), (by (try simp only [List.length_set, List.length_append, List.length_cons, List.length_nil, List.length_replicate, List.length_take, List.length_drop]) <;> omega)⟩ h))
    · have q10 := d_f hb8
      replace h := is_else (d_f hb8) h
      refine aw_exit ?_
      refine aq_then_exit ?_
      refine aq_then_exit ?_
      refine aq_in_exit ?_
      refine aq_then ?_
      refine aw_seq ?_
      refine aw_draw 3 (by kernel_rfl) (by kernel_rfl) ?_
      refine an_read 0 (by kernel_rfl) (fun _ _ _ h => h) rfl (by kernel_rfl) trivial (r_move rfl) rfl ?_
      refine an_read 1 (by kernel_rfl) (fun _ _ _ h => h) rfl (by kernel_rfl) trivial (r_load_arr rfl Try.isAgg30 Try.sizeOf30 rfl rfl rfl) rfl ?_
      refine an_read 2 (by kernel_rfl) (fun _ _ _ h => h) rfl (by kernel_rfl) trivial (r_assign rfl) rfl ?_
      refine an_tail rfl rfl ?_
      refine ao_effS trivial (e_store rfl rfl rfl rfl Try.sizeOf30 rfl) ?_
      refine ao_read trivial (r_assign rfl) rfl ?_
      refine ao_nil ?_
      refine aq_then ?_
      refine aw_ret ?_
      refine aq_ret ?_
      obtain rfl := is_some h
      exact aq_finx (l := [.tmp 4, .cell 5 30, .tmp 6]) (xs := [.int .i64 s4.1, .v (.arr 2 (.int .i64)) s4.2.2, .bool true]) idn [.int .i64 s4.1, .v (.arr 2 (.int .i64)) s4.2.2, .bool true] [] rfl (by exact ⟨rfl, ⟨⟨_, _, rfl⟩, r_load_arr rfl Try.isAgg30 Try.sizeOf30 rfl rfl rfl⟩, rfl, trivial⟩) (by exact ⟨ad_ren rfl, ad_ren rfl, ad_ren rfl, trivial⟩) (by exact trivial) rfl (nk rfl) rfl rfl ⟨rfl, rfl⟩
theorem c_spec_l1Cur_places {fu : Nat} {x0 : (List Int)} {x1 : Int} {x2 : Int} {r : (List Int) × Int × Int} (h : Is (p_spec_l1Cur_places fu x0 x1 x2) (some r)) :
    ACallsV Try.prog 121 [.ref 0 0] [(0, .var [.cell (.v (.slice (.int .u8)) x0), .cell (.int .i64 x1), .cell (.int .u64 x2)])] (fun r' H' => r' = .os 1 ∧ H' = [(0, .var [.cell (.v (.slice (.int .u8)) x0), .cell (.int .i64 r.2.1), .cell (.int .u64 r.2.2)]), (1, .row (.int .i64) r.1)]) := by
  unfold p_spec_l1Cur_places at h
  refine ac_enterV ⟨35, 1⟩ Try.func121 rfl rfl rfl rfl rfl (fun Γ => ?_)
  refine aw_seq ?_
  refine aw_region ?_
  refine ao_read trivial (r_assign rfl) rfl ?_
  refine ao_nil ?_
  refine aq_then ?_
  refine aw_seq ?_
  refine aw_region ?_
  refine ao_eff trivial (e_buildSlice (l := []) (t := (.int .i64)) 1 ([] : (List Int)) rfl Try.underlying36 Try.zeroValue3 Try.sizeOf3 rfl rfl rfl rfl rfl rfl rfl) rfl ?_
  refine ao_read trivial (r_assign rfl) rfl ?_
  refine ao_nil ?_
  refine aq_then ?_
  refine aw_seq ?_
  refine aw_seq ?_
  refine aw_region ?_
  refine ao_read trivial (r_move rfl) rfl ?_
  refine ao_eff trivial (e_buildSlice (l := [(0, .const (.int .i64 4)), (1, .const (.int .i64 8)), (2, .const (.int .i64 2)), (3, .const (.int .i64 1)), (4, .const (.int .i64 0)), (5, .const (.int .i64 12))]) (t := (.int .i64)) 2 ([4, 8, 2, 1, 0, 12] : (List Int)) rfl Try.underlying36 Try.zeroValue3 Try.sizeOf3 rfl rfl rfl rfl rfl rfl rfl) rfl ?_
  obtain ⟨r1, r1h, h⟩ := is_bind h
  refine ao_frz (fr' := [(0, .ref 0 0), (2, .nilsl), (5, .os 1), (3, .os 1), (6, .ref 0 0), (7, .v (.slice (.int .i64)) ([4, 8, 2, 1, 0, 12] : (List Int)))]) (H' := [(1, .row (.int .i64) ([] : (List Int))), (0, .var [.cell (.v (.slice (.int .u8)) x0), .cell (.int .i64 x1), .cell (.int .u64 x2)])]) (by exact ⟨⟨_, rfl, ad_ren rfl⟩, ⟨_, rfl, ad_ren rfl⟩, ⟨_, rfl, ad_ren rfl⟩, ⟨_, rfl, ad_ren rfl⟩, ⟨_, rfl, ad_ren rfl⟩, ⟨_, rfl, ad_osB rfl rfl⟩, trivial⟩) (by exact ⟨⟨_, rfl, rfl⟩, ⟨_, rfl, ⟨ad_ren rfl, rfl, ad_ren rfl, rfl, ad_ren rfl, rfl, trivial⟩⟩, trivial⟩) rfl ?_
  refine ao_callV [0] 3 trivial (c_spec_l1Cur_among (is_mk r1h)) Try.func112 rfl rfl rfl rfl rfl ⟨rfl, trivial⟩ ⟨⟨_, rfl, ⟨ad_ren rfl, rfl, ad_ren rfl, rfl, ad_ren rfl, rfl, trivial⟩⟩, trivial⟩ rfl rfl rfl rfl rfl rfl rfl (fun r' H' hr => ?_)
  obtain ⟨rfl, rfl⟩ := hr
  refine ao_norm (y := .int .i64 r1.1) (H' := [(1, .row (.int .i64) ([] : (List Int))), (0, .var [.cell (.v (.slice (.int .u8)) x0), .cell (.int .i64 r1.2.1), .cell (.int .u64 r1.2.2)])]) rfl rfl ?_
  refine ao_read trivial (r_assign rfl) rfl ?_
  refine ao_nil ?_
  refine aq_then ?_
  refine aw_block ?_
  refine aw_loop (AL.sub (sub_mk idn (by exact ⟨⟨_, rfl, ad_ren rfl⟩, ⟨_, rfl, ad_ren rfl⟩, ⟨_, rfl, ad_ren rfl⟩, trivial⟩) (by exact ⟨⟨_, rfl, ⟨ad_ren rfl, rfl, ad_ren rfl, rfl, ad_ren rfl, rfl, trivial⟩⟩, ⟨_, rfl, rfl⟩, trivial⟩) (by rfl) (nk1 rfl rfl)) (al_whl (fun (s2 : Int × Int × Int × (List Int)) => [(0, .ref 0 0), (3, .os 1), (4, .int .i64 s2.1)]) (fun (s2 : Int × Int × Int × (List Int)) => [(0, .var [.cell (.v (.slice (.int .u8)) x0), .cell (.int .i64 s2.2.1), .cell (.int .u64 s2.2.2.1)]), (1, .row (.int .i64) s2.2.2.2)]) (fun (s2 : Int × Int × Int × (List Int)) => True) h trivial (fun d4 s2 hI h ih4 => ?_)))
  replace h := is_whlS h
  refine al_round ?_
  refine aw_seq ?_
  refine aw_seq ?_
  refine aw_region ?_
  refine ao_read trivial (r_move rfl) rfl ?_
  refine ao_read trivial (r_gtr rfl rfl) rfl ?_
  refine ao_nil ?_
  refine aq_then ?_
  refine aw_cond rfl (fun hb6 => ?_) (fun hb6 => ?_)
  · have q7 := d_t hb6
    replace h := is_if (d_t hb6) h
    refine aw_skip ?_
    refine aq_then ?_
    refine aw_seq ?_
    refine aw_block ?_
    refine aw_region ?_
    refine ao_read trivial (r_move rfl) rfl ?_
    refine ao_read trivial (r_move rfl) rfl ?_
    obtain ⟨r9, r9h, h⟩ := is_bind h
    refine ao_callV [0] 2 trivial (c_spec_l1Cur_pick (is_mk r9h)) Try.func138 rfl rfl rfl rfl rfl ⟨rfl, trivial⟩ ⟨⟨_, rfl, ⟨ad_ren rfl, rfl, ad_ren rfl, rfl, ad_ren rfl, rfl, trivial⟩⟩, trivial⟩ rfl rfl rfl rfl rfl rfl rfl (fun r' H' hr => ?_)
    obtain ⟨rfl, rfl⟩ := hr
    refine ao_norm (y := .int .i64 r9.1) (H' := [(1, .row (.int .i64) s2.2.2.2), (0, .var [.cell (.v (.slice (.int .u8)) x0), .cell (.int .i64 r9.2.1), .cell (.int .u64 r9.2.2)])]) rfl rfl ?_
    refine ao_eff trivial (e_buildSlice (l := [(0, .tmp 15)]) (t := (.int .i64)) 2 ([r9.1] : (List Int)) rfl Try.underlying36 Try.zeroValue3 Try.sizeOf3 rfl rfl rfl rfl rfl rfl rfl) rfl ?_
    obtain ⟨g10, h⟩ := is_guard h
    refine ao_eff trivial (e_append (t := (.int .i64)) 3 rfl Try.underlying36 (rfl : Try.prog.info? 3 = some _) rfl rfl rfl rfl rfl rfl rfl (src_os rfl) (show s2.2.2.2.length + ([r9.1] : (List Int)).length ≤ 1000000000 from by (try simp only [List.length_cons, List.length_nil]) <;> omega) rfl rfl) rfl ?_
    refine ao_read trivial (r_assign rfl) rfl ?_
    refine ao_nil ?_
    refine aq_in ?_
    refine aq_then ?_
    refine aw_region ?_
    refine ao_read trivial (r_move rfl) rfl ?_
    refine ao_read trivial (r_sub rfl rfl) rfl ?_
    refine ao_read trivial (r_assign rfl) rfl ?_
    refine ao_nil ?_
    exact aq_again (AL.sub (sub_mk (rn [(1, 3)]) (by exact ⟨⟨_, rfl, ad_ren rfl⟩, ⟨_, rfl, ad_ren rfl⟩, ⟨_, rfl, ad_ren rfl⟩, trivial⟩) (by exact ⟨⟨_, rfl, ⟨ad_ren rfl, rfl, ad_ren rfl, rfl, ad_ren rfl, rfl, trivial⟩⟩, ⟨_, rfl, rfl⟩, trivial⟩) (by rfl) (nk1 rfl rfl)) (ih4 ((IntKind.wrap .i64 (s2.1 - 1)), r9.2.1, r9.2.2, (s2.2.2.2 ++ [r9.1])) trivial h))
  · have q8 := d_f hb6
    replace h := is_else (d_f hb6) h
    refine aw_exit ?_
    refine aq_then_exit ?_
    refine aq_then_exit ?_
    refine aq_in_exit ?_
    refine aq_then ?_
    refine aw_seq ?_
    refine aw_seq ?_
    refine aw_region ?_
    refine ao_read trivial (r_move rfl) rfl ?_
    refine ao_read trivial (r_len_osm (s2.2.2.2.length : Int) Try.underlying36 rfl rfl rfl) rfl ?_
    refine ao_read trivial (r_gtr rfl rfl) rfl ?_
    refine ao_read trivial (r_move rfl) rfl ?_
    refine ao_split (decide (0 < (s2.2.2.2.length : Int))) (fun hb11 => ?_) (fun hb11 => ?_)
    · have q12 := d_t hb11
      replace h := is_if (d_t hb11) h
      refine ao_read (by exact ⟨_, _, rfl, rfl, hb11⟩) (r_move rfl) rfl ?_
      obtain ⟨r14, r14h, h⟩ := is_bind h
      refine ao_callV [0] 4 (by exact ⟨_, _, rfl, rfl, hb11⟩) (c_spec_l1Cur_one (is_mk r14h)) Try.func133 rfl rfl rfl rfl rfl ⟨rfl, trivial⟩ ⟨⟨_, rfl, ⟨ad_ren rfl, rfl, ad_ren rfl, rfl, ad_ren rfl, rfl, trivial⟩⟩, trivial⟩ rfl rfl rfl rfl rfl rfl rfl (fun r' H' hr => ?_)
      obtain ⟨rfl, rfl⟩ := hr
      refine ao_norm (y := .bool r14.1) (H' := [(1, .row (.int .i64) s2.2.2.2), (0, .var [.cell (.v (.slice (.int .u8)) x0), .cell (.int .i64 r14.2.1), .cell (.int .u64 r14.2.2)])]) rfl rfl ?_
      refine ao_read trivial (r_pickT rfl hb11 rfl) rfl ?_
      refine ao_nil ?_
      refine aq_then ?_
      refine aw_cond rfl (fun hb15 => ?_) (fun hb15 => ?_)
      · replace h := is_if hb15 h
        refine aw_region ?_
        refine ao_read trivial (r_move rfl) rfl ?_
        refine ao_read trivial (r_move rfl) rfl ?_
        refine ao_read trivial (r_move rfl) rfl ?_
        refine ao_read trivial (r_len_osm (s2.2.2.2.length : Int) Try.underlying36 rfl rfl rfl) rfl ?_
        obtain ⟨r16, r16h, h⟩ := is_bind h
        refine ao_callV [0] 4 trivial (c_spec_l1Cur_pick (is_mk r16h)) Try.func138 rfl rfl rfl rfl rfl ⟨rfl, trivial⟩ ⟨⟨_, rfl, ⟨ad_ren rfl, rfl, ad_ren rfl, rfl, ad_ren rfl, rfl, trivial⟩⟩, trivial⟩ rfl rfl rfl rfl rfl rfl rfl (fun r' H' hr => ?_)
        obtain ⟨rfl, rfl⟩ := hr
        refine ao_norm (y := .int .i64 r16.1) (H' := [(1, .row (.int .i64) s2.2.2.2), (0, .var [.cell (.v (.slice (.int .u8)) x0), .cell (.int .i64 r16.2.1), .cell (.int .u64 r16.2.2)])]) rfl rfl ?_
        refine ao_read trivial (r_move rfl) rfl ?_
        refine ao_eff trivial (e_buildSlice (l := [(0, .const (.int .i64 (-1))), (1, .const (.int .i64 6)), (2, .const (.int .i64 4611686018427387904))]) (t := (.int .i64)) 4 ([(-1), 6, 4611686018427387904] : (List Int)) rfl Try.underlying36 Try.zeroValue3 Try.sizeOf3 rfl rfl rfl rfl rfl rfl rfl) rfl ?_
        obtain ⟨r17, r17h, h⟩ := is_bind h
        refine ao_frz (fr' := [(0, .ref 0 0), (3, .os 1), (4, .int .i64 s2.1), (9, .int .i64 s2.1), (10, .bool (decide (0 < s2.1))), (18, .os 1), (19, .int .i64 (s2.2.2.2.length : Int)), (20, .bool (decide (0 < (s2.2.2.2.length : Int)))), (21, .bool (decide (0 < (s2.2.2.2.length : Int)))), (22, .ref 0 0), (23, .bool r14.1), (24, .bool r14.1), (25, .os 1), (26, .ref 0 0), (27, .os 1), (28, .int .i64 (s2.2.2.2.length : Int)), (29, .int .i64 r16.1), (30, .ref 0 0), (31, .v (.slice (.int .i64)) ([(-1), 6, 4611686018427387904] : (List Int)))]) (H' := [(1, .row (.int .i64) s2.2.2.2), (0, .var [.cell (.v (.slice (.int .u8)) x0), .cell (.int .i64 r16.2.1), .cell (.int .u64 r16.2.2)])]) (by exact ⟨⟨_, rfl, ad_ren rfl⟩, ⟨_, rfl, ad_ren rfl⟩, ⟨_, rfl, ad_ren rfl⟩, ⟨_, rfl, ad_ren rfl⟩, ⟨_, rfl, ad_ren rfl⟩, ⟨_, rfl, ad_ren rfl⟩, ⟨_, rfl, ad_ren rfl⟩, ⟨_, rfl, ad_ren rfl⟩, ⟨_, rfl, ad_ren rfl⟩, ⟨_, rfl, ad_ren rfl⟩, ⟨_, rfl, ad_ren rfl⟩, ⟨_, rfl, ad_ren rfl⟩, ⟨_, rfl, ad_ren rfl⟩, ⟨_, rfl, ad_ren rfl⟩, ⟨_, rfl, ad_ren rfl⟩, ⟨_, rfl, ad_ren rfl⟩, ⟨_, rfl, ad_ren rfl⟩, ⟨_, rfl, ad_ren rfl⟩, ⟨_, rfl, ad_osB rfl rfl⟩, trivial⟩) (by exact ⟨⟨_, rfl, rfl⟩, ⟨_, rfl, ⟨ad_ren rfl, rfl, ad_ren rfl, rfl, ad_ren rfl, rfl, trivial⟩⟩, trivial⟩) rfl ?_
        refine ao_callV [0] 5 trivial (c_spec_l1Cur_among (is_mk r17h)) Try.func112 rfl rfl rfl rfl rfl ⟨rfl, trivial⟩ ⟨⟨_, rfl, ⟨ad_ren rfl, rfl, ad_ren rfl, rfl, ad_ren rfl, rfl, trivial⟩⟩, trivial⟩ rfl rfl rfl rfl rfl rfl rfl (fun r' H' hr => ?_)
        obtain ⟨rfl, rfl⟩ := hr
        refine ao_norm (y := .int .i64 r17.1) (H' := [(1, .row (.int .i64) s2.2.2.2), (0, .var [.cell (.v (.slice (.int .u8)) x0), .cell (.int .i64 r17.2.1), .cell (.int .u64 r17.2.2)])]) rfl rfl ?_
        obtain ⟨g18, h⟩ := is_guard h
        obtain ⟨g19, h⟩ := is_guard h
        refine ao_read trivial (r_idxAddr_os Try.underlying36 Try.sizeOf3 rfl rfl rfl (show 0 ≤ r16.1 from by omega) (show r16.1 < (s2.2.2.2.length : Int) from by omega)) rfl ?_
        refine ao_effS trivial (e_store_elem_int Try.sizeOf3 rfl rfl rfl rfl (show r16.1.toNat < s2.2.2.2.length from by omega) rfl) ?_
        refine ao_nil ?_
        refine aq_then ?_
        refine aw_seq ?_
        refine aw_region ?_
        refine ao_read trivial (r_move rfl) rfl ?_
        refine ao_read trivial (r_assign rfl) rfl ?_
        refine ao_nil ?_
        refine aq_then ?_
        refine aw_ret ?_
        refine aq_ret ?_
        obtain rfl := is_some h
        exact aq_finV (l := [.tmp 2]) (xs := [.os 1]) idn [.os 1] [(0, .var [.cell (.v (.slice (.int .u8)) x0), .cell (.int .i64 r17.2.1), .cell (.int .u64 r17.2.2)]), (1, .row (.int .i64) ((s2.2.2.2.set r16.1.toNat r17.1) : (List Int)))] rfl (by exact ⟨rfl, trivial⟩) (by exact ⟨ad_ren rfl, trivial⟩) (by exact ⟨⟨_, rfl, ⟨ad_ren rfl, rfl, ad_ren rfl, rfl, ad_ren rfl, rfl, trivial⟩⟩, ⟨_, rfl, rfl⟩, trivial⟩) rfl (nk1 rfl rfl) ⟨rfl, rfl⟩
      · replace h := is_else (ne_t hb15) h
        refine aw_skip ?_
        refine aq_then ?_
        refine aw_seq ?_
        refine aw_region ?_
        refine ao_read trivial (r_move rfl) rfl ?_
        refine ao_read trivial (r_assign rfl) rfl ?_
        refine ao_nil ?_
        refine aq_then ?_
        refine aw_ret ?_
        refine aq_ret ?_
        obtain rfl := is_some h
        exact aq_finV (l := [.tmp 2]) (xs := [.os 1]) idn [.os 1] [(0, .var [.cell (.v (.slice (.int .u8)) x0), .cell (.int .i64 r14.2.1), .cell (.int .u64 r14.2.2)]), (1, .row (.int .i64) s2.2.2.2)] rfl (by exact ⟨rfl, trivial⟩) (by exact ⟨ad_ren rfl, trivial⟩) (by exact ⟨⟨_, rfl, ⟨ad_ren rfl, rfl, ad_ren rfl, rfl, ad_ren rfl, rfl, trivial⟩⟩, ⟨_, rfl, rfl⟩, trivial⟩) rfl (nk1 rfl rfl) ⟨rfl, rfl⟩
    · have q13 := d_f hb11
      replace h := is_else (d_f hb11) h
      refine ao_skipT 2 3 21 rfl rfl hb11 rfl rfl rfl ?_
      refine ao_read trivial (r_pickF rfl hb11 rfl) rfl ?_
      refine ao_nil ?_
      refine aq_then ?_
      refine aw_cond rfl (fun hb => by cases hb) (fun _ => ?_)
      refine aw_skip ?_
      refine aq_then ?_
      refine aw_seq ?_
      refine aw_region ?_
      refine ao_read trivial (r_move rfl) rfl ?_
      refine ao_read trivial (r_assign rfl) rfl ?_
      refine ao_nil ?_
      refine aq_then ?_
      refine aw_ret ?_
      refine aq_ret ?_
      obtain rfl := is_some h
      exact aq_finV (l := [.tmp 2]) (xs := [.os 1]) idn [.os 1] [(0, .var [.cell (.v (.slice (.int .u8)) x0), .cell (.int .i64 s2.2.1), .cell (.int .u64 s2.2.2.1)]), (1, .row (.int .i64) s2.2.2.2)] rfl (by exact ⟨rfl, trivial⟩) (by exact ⟨ad_ren rfl, trivial⟩) (by exact ⟨⟨_, rfl, ⟨ad_ren rfl, rfl, ad_ren rfl, rfl, ad_ren rfl, rfl, trivial⟩⟩, ⟨_, rfl, rfl⟩, trivial⟩) rfl (nk1 rfl rfl) ⟨rfl, rfl⟩
theorem c_spec_DrawPlayTurn {fu : Nat} {x0 : (List Int)} {r : (List Int) × Int × Int × (List Int)} (h : Is (p_spec_DrawPlayTurn fu x0) (some r)) :
    ACalls Try.prog 40 [.v (.slice (.int .u8)) x0] [] (fun r' H' => r' = .tup [.v (.arr 6 (.int .i64)) r.1, .int .i64 r.2.1, .int .i64 r.2.2.1, .os 0] ∧ H' = [(0, .row (.int .i64) r.2.2.2)]) := by
  unfold p_spec_DrawPlayTurn at h
  refine ac_enter ⟨26, 0⟩ Try.func40 rfl rfl rfl rfl rfl (fun Γ => ?_)
  refine sl_len_m 0 (x0.length : Int) rfl rfl (fun hl0 => ?_)
  refine aw_seq ?_
  refine aw_region ?_
  refine ao_eff trivial (e_alloc 0 (y := .v (.arr 6 (.int .i64)) ((List.replicate 6 0) : (List Int))) Try.zeroValue43 (fun ρ h M => ra_zero_arr (t := (.int .i64)) rfl) rfl rfl rfl rfl rfl) rfl ?_
  refine ao_read trivial (r_assign rfl) rfl ?_
  refine ao_read trivial (r_assign rfl) rfl ?_
  refine ao_read trivial (r_assign rfl) rfl ?_
  refine ao_nil ?_
  refine aq_then ?_
  refine aw_seq ?_
  refine aw_region ?_
  refine ao_read trivial (r_move rfl) rfl ?_
  refine ao_read trivial (r_build_st (l := [(0, .tmp 11)]) (cs := [.cell (.v (.slice (.int .u8)) x0), .cell (.int .i64 0), .cell (.int .u64 0)]) (.pair (.slice (.int .u8)) (.pair (.int .i64) (.pair (.int .u64) .unit))) [(0, 1), (1, 1), (2, 1)] Try.underlying105 Try.zeroValue105 rfl ⟨rfl, Try.sizeOf22, rfl, Try.sizeOf3, rfl, Try.sizeOf103, trivial⟩ rfl rfl rfl) rfl ?_
  refine ao_eff trivial (e_box 1 rfl rfl rfl rfl rfl rfl) rfl ?_
  refine ao_read trivial (r_assign rfl) rfl ?_
  refine ao_nil ?_
  refine aq_then ?_
  refine aw_seq ?_
  refine aw_region ?_
  refine ao_read trivial (r_move rfl) rfl ?_
  obtain ⟨r1, r1h, h⟩ := is_bind h
  refine ao_callV [1] 2 trivial (c_spec_l1Cur_places (is_mk r1h)) Try.func121 rfl rfl rfl rfl rfl ⟨rfl, trivial⟩ ⟨⟨_, rfl, ⟨ad_ren rfl, rfl, ad_ren rfl, rfl, ad_ren rfl, rfl, trivial⟩⟩, trivial⟩ rfl rfl rfl rfl rfl rfl rfl (fun r' H' hr => ?_)
  obtain ⟨rfl, rfl⟩ := hr
  refine ao_norm (y := .os 2) (H' := [(0, .var [.arr (.int .i64) 6 ((List.replicate 6 0) : (List Int))]), (1, .var [.cell (.v (.slice (.int .u8)) x0), .cell (.int .i64 r1.2.1), .cell (.int .u64 r1.2.2)]), (2, .row (.int .i64) r1.1)]) rfl rfl ?_
  refine row_len_o 2 (r1.1.length : Int) rfl rfl (fun hr2 => ?_)
  refine ao_read trivial (r_assign rfl) rfl ?_
  refine ao_nil ?_
  refine aq_then ?_
  refine aw_seq ?_
  refine aw_region ?_
  refine ao_read trivial (r_move rfl) rfl ?_
  obtain ⟨r3, r3h, h⟩ := is_bind h
  refine ao_scall trivial (scall (c_spec_DrawHoldEnds (is_mk r3h)) rfl Try.func30 rfl rfl rfl rfl (fun σ => ⟨ad_ren rfl, trivial⟩)) rfl ?_
  refine ao_read trivial (r_move rfl) rfl ?_
  refine ao_read trivial (r_extract rfl rfl) rfl ?_
  refine ao_read trivial (r_extract rfl rfl) rfl ?_
  refine ao_read trivial (r_extract rfl rfl) rfl ?_
  refine ao_eff trivial (e_alloc 3 (y := .v (.arr 6 (.int .i64)) ((List.replicate 6 0) : (List Int))) Try.zeroValue43 (fun ρ h M => ra_zero_arr (t := (.int .i64)) rfl) rfl rfl rfl rfl rfl) rfl ?_
  refine ao_effS trivial (e_store rfl rfl rfl rfl Try.sizeOf43 rfl) ?_
  refine ao_read trivial (r_assign rfl) rfl ?_
  refine ao_read trivial (r_assign rfl) rfl ?_
  refine ao_nil ?_
  refine aq_then ?_
  refine aw_seq ?_
  refine aw_region ?_
  refine ao_read trivial (r_load_arr rfl Try.isAgg43 Try.sizeOf43 rfl rfl rfl) rfl ?_
  refine ao_read trivial (r_move rfl) rfl ?_
  refine ao_read trivial (r_move rfl) rfl ?_
  refine ao_read trivial (r_move rfl) rfl ?_
  refine ao_effS trivial (e_store rfl rfl rfl rfl Try.sizeOf43 rfl) ?_
  refine ao_read trivial (r_assign rfl) rfl ?_
  refine ao_read trivial (r_assign rfl) rfl ?_
  refine ao_read trivial (r_assign rfl) rfl ?_
  refine ao_nil ?_
  refine aq_then ?_
  refine aw_ret ?_
  refine aq_ret ?_
  obtain rfl := is_some h
  exact aq_finx (l := [.cell 2 43, .tmp 3, .tmp 4, .tmp 5]) (xs := [.v (.arr 6 (.int .i64)) r3.1, .int .i64 r3.2.1, .int .i64 r3.2.2, .os 2]) (rn [(0, 2)]) [.v (.arr 6 (.int .i64)) r3.1, .int .i64 r3.2.1, .int .i64 r3.2.2, .os 0] [(0, .row (.int .i64) r1.1)] rfl (by exact ⟨⟨⟨_, _, rfl⟩, r_load_arr rfl Try.isAgg43 Try.sizeOf43 rfl rfl rfl⟩, rfl, rfl, rfl, trivial⟩) (by exact ⟨ad_ren rfl, ad_ren rfl, ad_ren rfl, ad_ren rfl, trivial⟩) (by exact ⟨⟨_, rfl, rfl⟩, trivial⟩) rfl (nk rfl) rfl rfl ⟨rfl, rfl⟩
theorem c_impl_isSide {x0 : Int} {r : Bool} (h : Is (p_impl_isSide x0) r) :
    Scalar Try.prog 122 [.int .i64 x0] (.bool r) := by
  unfold p_impl_isSide at h
  refine ac_enter ⟨5, 0⟩ Try.func122 rfl rfl rfl rfl rfl (fun Γ => ?_)
  refine aw_seq ?_
  refine aw_region ?_
  refine ao_read trivial (r_assign rfl) rfl ?_
  refine ao_nil ?_
  refine aq_then ?_
  refine aw_seq ?_
  refine aw_region ?_
  refine ao_read trivial (r_move rfl) rfl ?_
  refine ao_scall trivial (scall (c_impl_within (is_mk (rfl : p_impl_within x0 0 5 = _))) rfl Try.func101 rfl rfl rfl rfl (fun σ => ⟨ad_ren rfl, ad_ren rfl, ad_ren rfl, trivial⟩)) rfl ?_
  refine ao_read trivial (r_assign rfl) rfl ?_
  refine ao_nil ?_
  refine aq_then ?_
  refine aw_ret ?_
  refine aq_ret ?_
  obtain rfl := is_eq h
  exact aq_finx (l := [.tmp 2]) (xs := [.bool (p_impl_within x0 0 5)]) idn [.bool (p_impl_within x0 0 5)] [] rfl (by exact ⟨rfl, trivial⟩) (by exact ⟨ad_ren rfl, trivial⟩) (by exact trivial) rfl (nk rfl) rfl rfl ⟨rfl, rfl⟩
theorem c_impl_PlayTurn {x0 : (List Int)} {x1 : Int} {x2 : Int} {x3 : (List Int)} {r : Int × Int × Bool × Bool} (h : Is (p_impl_PlayTurn x0 x1 x2 x3) (some r)) :
    Scalar Try.prog 41 [.v (.arr 6 (.int .i64)) x0, .int .i64 x1, .int .i64 x2, .v (.slice (.int .i64)) x3] (.tup [.int .i64 r.1, .int .i64 r.2.1, .bool r.2.2.1, .bool r.2.2.2]) := by
  unfold p_impl_PlayTurn at h
  refine ac_enter ⟨52, 0⟩ Try.func41 rfl rfl rfl rfl rfl (fun Γ => ?_)
  refine sl_len_m 3 (x3.length : Int) rfl rfl (fun hl3 => ?_)
  refine aw_seq ?_
  refine aw_region ?_
  refine ao_eff trivial (e_box 0 rfl rfl rfl rfl rfl rfl) rfl ?_
  refine ao_read trivial (r_assign rfl) rfl ?_
  refine ao_read trivial (r_assign rfl) rfl ?_
  refine ao_read trivial (r_assign rfl) rfl ?_
  refine ao_read trivial (r_assign rfl) rfl ?_
  refine ao_nil ?_
  refine aq_then ?_
  refine aw_seq ?_
  refine aw_seq ?_
  refine aw_region ?_
  refine ao_read trivial (r_load_arr rfl Try.isAgg43 Try.sizeOf43 rfl rfl rfl) rfl ?_
  refine ao_read trivial (r_move rfl) rfl ?_
  refine ao_read trivial (r_move rfl) rfl ?_
  refine ao_scall trivial (scall (c_impl_isTurn (is_mk (rfl : p_impl_isTurn x0 x1 x2 = _))) rfl Try.func114 rfl rfl rfl rfl (fun σ => ⟨ad_ren rfl, ad_ren rfl, ad_ren rfl, trivial⟩)) rfl ?_
  refine ao_read trivial (r_not rfl) rfl ?_
  refine ao_nil ?_
  refine aq_then ?_
  refine aw_cond rfl (fun hb1 => ?_) (fun hb1 => ?_)
  · replace h := is_else (ne_t (not_t hb1)) h
    refine aw_seq ?_
    refine aw_region ?_
    refine ao_read trivial (r_assign rfl) rfl ?_
    refine ao_read trivial (r_assign rfl) rfl ?_
    refine ao_read trivial (r_assign rfl) rfl ?_
    refine ao_read trivial (r_assign rfl) rfl ?_
    refine ao_nil ?_
    refine aq_then ?_
    refine aw_ret ?_
    refine aq_then_ret ?_
    refine aq_ret ?_
    obtain rfl := is_some h
    exact aq_finx (l := [.tmp 8, .tmp 9, .tmp 10, .tmp 11]) (xs := [.int .i64 0, .int .i64 0, .bool false, .bool false]) idn [.int .i64 0, .int .i64 0, .bool false, .bool false] [] rfl (by exact ⟨rfl, rfl, rfl, rfl, trivial⟩) (by exact ⟨ad_ren rfl, ad_ren rfl, ad_ren rfl, ad_ren rfl, trivial⟩) (by exact trivial) rfl (nk rfl) rfl rfl ⟨rfl, rfl⟩
  · replace h := is_if (not_f hb1) h
    refine aw_skip ?_
    refine aq_then ?_
    refine aw_seq ?_
    refine aw_region ?_
    refine ao_read trivial (r_assign rfl) rfl ?_
    refine ao_nil ?_
    refine aq_then ?_
    refine aw_seq ?_
    refine aw_seq ?_
    refine aw_region ?_
    refine ao_read trivial (r_move rfl) rfl ?_
    refine ao_read trivial (r_len_vm (x3.length : Int) Try.underlying36 rfl rfl) rfl ?_
    refine ao_read trivial (r_move rfl) rfl ?_
    refine ao_nil ?_
    refine aq_then ?_
    refine aw_block ?_
    refine aw_loop (AL.sub (fr' := [(1, .int .i64 x1), (2, .int .i64 x2), (3, .v (.slice (.int .i64)) x3), (4, .ref 0 0), (12, .int .i64 0), (20, .v (.slice (.int .i64)) x3), (21, .int .i64 (x3.length : Int)), (22, .int .i64 0)]) (H' := [(0, .var [.arr (.int .i64) 6 x0])]) (sub_mk idn (by exact ⟨⟨_, rfl, ad_ren rfl⟩, ⟨_, rfl, ad_ren rfl⟩, ⟨_, rfl, ad_ren rfl⟩, ⟨_, rfl, ad_ren rfl⟩, ⟨_, rfl, ad_ren rfl⟩, ⟨_, rfl, ad_ren rfl⟩, ⟨_, rfl, ad_ren rfl⟩, ⟨_, rfl, ad_ren rfl⟩, trivial⟩) (by exact ⟨⟨_, rfl, ⟨rfl, trivial⟩⟩, trivial⟩) (by rfl) (nk rfl)) (al_cnt (fun i3 (s2 : Int) => [(1, .int .i64 x1), (2, .int .i64 x2), (3, .v (.slice (.int .i64)) x3), (4, .ref 0 0), (12, .int .i64 s2), (20, .v (.slice (.int .i64)) x3), (21, .int .i64 (x3.length : Int)), (22, .int .i64 i3)]) (fun i3 (s2 : Int) => [(0, .var [.arr (.int .i64) 6 x0])]) (fun d i3 (s2 : Int) => d = Int.toNat ((x3.length : Int) - i3) ∧ 0 ≤ i3 ∧ i3 ≤ (x3.length : Int)) h ⟨rfl, (by (try simp only [List.length_set, List.length_append, List.length_cons, List.length_nil, List.length_replicate, List.length_take, List.length_drop]) <;> omega), (by (try simp only [List.length_set, List.length_append, List.length_cons, List.length_nil, List.length_replicate, List.length_take, List.length_drop]) <;> omega)⟩ (fun d4 i3 s2 hI h ih4 => ?_)))
    obtain ⟨hd, _, _⟩ := hI
    refine al_round ?_
    refine aw_seq ?_
    refine aw_region ?_
    refine ao_read trivial (r_lss rfl rfl) rfl ?_
    refine ao_nil ?_
    refine aq_then ?_
    refine aw_seq ?_
    refine aw_cond rfl (fun hb6 => ?_) (fun hb6 => ?_)
    · have q7 := d_t hb6
      obtain ⟨d4, rfl⟩ : ∃ e, d4 = e + 1 := ⟨d4 - 1, by omega⟩
      replace h := is_cntS h
      refine aw_skip ?_
      refine aq_then ?_
      refine aw_seq ?_
      refine aw_block ?_
      refine aw_seq ?_
      refine aw_region ?_
      refine ao_read trivial (r_move rfl) rfl ?_
      refine ao_read trivial (r_idxAddr_int Try.underlying36 Try.sizeOf3 rfl rfl (show 0 ≤ i3 from by omega) (show i3 < (x3.length : Int) from by omega)) rfl ?_
      refine ao_read trivial (r_load_c_int Try.isAgg3 Try.sizeOf3 rfl) rfl ?_
      refine ao_read trivial (r_assign rfl) rfl ?_
      refine ao_read trivial (r_assign rfl) rfl ?_
      refine ao_nil ?_
      refine aq_then ?_
      refine aw_seq ?_
      refine aw_seq ?_
      refine aw_region ?_
      refine ao_read trivial (r_move rfl) rfl ?_
      refine ao_scall trivial (scall (c_impl_isSide (is_mk (rfl : p_impl_isSide (x3.getD i3.toNat 0) = _))) rfl Try.func122 rfl rfl rfl rfl (fun σ => ⟨ad_ren rfl, trivial⟩)) rfl ?_
      refine ao_read trivial (r_not rfl) rfl ?_
      refine ao_nil ?_
      refine aq_then ?_
      refine aw_cond rfl (fun hb9 => ?_) (fun hb9 => ?_)
      · replace h := is_else (ne_t (not_t hb9)) h
        refine aw_seq ?_
        refine aw_region ?_
        refine ao_read trivial (r_assign rfl) rfl ?_
        refine ao_read trivial (r_assign rfl) rfl ?_
        refine ao_read trivial (r_assign rfl) rfl ?_
        refine ao_read trivial (r_assign rfl) rfl ?_
        refine ao_nil ?_
        refine aq_then ?_
        refine aw_ret ?_
        refine aq_then_ret ?_
        refine aq_in_ret ?_
        refine aq_then_ret ?_
        refine aq_then_ret ?_
        refine aq_in_ret ?_
        refine aq_then_ret ?_
        refine aq_ret ?_
        obtain rfl := is_some h
        exact aq_finx (l := [.tmp 8, .tmp 9, .tmp 10, .tmp 11]) (xs := [.int .i64 0, .int .i64 0, .bool false, .bool false]) idn [.int .i64 0, .int .i64 0, .bool false, .bool false] [] rfl (by exact ⟨rfl, rfl, rfl, rfl, trivial⟩) (by exact ⟨ad_ren rfl, ad_ren rfl, ad_ren rfl, ad_ren rfl, trivial⟩) (by exact trivial) rfl (nk rfl) rfl rfl ⟨rfl, rfl⟩
      · replace h := is_if (not_f hb9) h
        refine aw_skip ?_
        refine aq_then ?_
        refine aw_seq ?_
        refine aw_seq ?_
        refine aw_region ?_
        refine ao_read trivial (r_move rfl) rfl ?_
        obtain ⟨g10, h⟩ := is_guard h
        obtain ⟨g11, h⟩ := is_guard h
        refine ao_read trivial (r_idxAddr_arr (i := (x3.getD i3.toNat 0)) Try.underlying43 Try.sizeOf3 rfl rfl (show 0 ≤ (x3.getD i3.toNat 0) from by omega) (show (x3.getD i3.toNat 0) < (6 : Int) from by omega)) rfl ?_
        refine ao_read trivial (r_load_elema_int Try.isAgg3 Try.sizeOf3 rfl rfl rfl (show (x3.getD i3.toNat 0).toNat < 6 from by omega)) rfl ?_
        refine ao_read trivial (r_move rfl) rfl ?_
        refine ao_read trivial (r_eql rfl rfl) rfl ?_
        refine ao_nil ?_
        refine aq_then ?_
        refine aw_cond rfl (fun hb12 => ?_) (fun hb12 => ?_)
        · have q13 : (x0.getD (x3.getD i3.toNat 0).toNat 0) = x1 := d_t hb12
          replace h := is_if (d_t hb12) h
          refine aw_seq ?_
          refine aw_region ?_
          refine ao_read trivial (r_move rfl) rfl ?_
          refine ao_read trivial (r_addI rfl rfl (wrap_id (by omega) (by omega))) rfl ?_
          refine ao_read trivial (r_assign rfl) rfl ?_
          refine ao_read trivial (r_assign rfl) rfl ?_
          refine ao_read trivial (r_assign rfl) rfl ?_
          refine ao_read trivial (r_assign rfl) rfl ?_
          refine ao_nil ?_
          refine aq_then ?_
          refine aw_ret ?_
          refine aq_then_ret ?_
          refine aq_in_ret ?_
          refine aq_then_ret ?_
          refine aq_then_ret ?_
          refine aq_in_ret ?_
          refine aq_then_ret ?_
          refine aq_ret ?_
          obtain rfl := is_some h
          exact aq_finx (l := [.tmp 8, .tmp 9, .tmp 10, .tmp 11]) (xs := [.int .i64 0, .int .i64 (i3 + 1), .bool true, .bool true]) idn [.int .i64 0, .int .i64 (i3 + 1), .bool true, .bool true] [] rfl (by exact ⟨rfl, rfl, rfl, rfl, trivial⟩) (by exact ⟨ad_ren rfl, ad_ren rfl, ad_ren rfl, ad_ren rfl, trivial⟩) (by exact trivial) rfl (nk rfl) rfl rfl ⟨rfl, rfl⟩
        · have q14 : ¬ ((x0.getD (x3.getD i3.toNat 0).toNat 0) = x1) := d_f hb12
          replace h := is_else (d_f hb12) h
          refine aw_skip ?_
          refine aq_then ?_
          refine aw_seq ?_
          refine aw_region ?_
          refine ao_read trivial (r_move rfl) rfl ?_
          refine ao_read trivial (r_move rfl) rfl ?_
          refine ao_read trivial (r_idxAddr_arr (i := (x3.getD i3.toNat 0)) Try.underlying43 Try.sizeOf3 rfl rfl (show 0 ≤ (x3.getD i3.toNat 0) from by omega) (show (x3.getD i3.toNat 0) < (6 : Int) from by omega)) rfl ?_
          refine ao_read trivial (r_load_elema_int Try.isAgg3 Try.sizeOf3 rfl rfl rfl (show (x3.getD i3.toNat 0).toNat < 6 from by omega)) rfl ?_
          refine ao_read trivial (r_add rfl rfl) rfl ?_
          refine ao_read trivial (r_assign rfl) rfl ?_
          refine ao_nil ?_
          refine aq_then ?_
          refine aw_seq ?_
          refine aw_region ?_
          refine ao_read trivial (r_move rfl) rfl ?_
          refine ao_read trivial (r_move rfl) rfl ?_
          refine ao_read trivial (r_geq rfl rfl) rfl ?_
          refine ao_nil ?_
          refine aq_then ?_
          refine aw_cond rfl (fun hb15 => ?_) (fun hb15 => ?_)
          · have q16 : x2 ≤ (IntKind.wrap .i64 (s2 + (x0.getD (x3.getD i3.toNat 0).toNat 0))) := d_t hb15
            replace h := is_if (d_t hb15) h
            refine aw_seq ?_
            refine aw_region ?_
            refine ao_read trivial (r_move rfl) rfl ?_
            refine ao_read trivial (r_move rfl) rfl ?_
            refine ao_read trivial (r_addI rfl rfl (wrap_id (by omega) (by omega))) rfl ?_
            refine ao_read trivial (r_assign rfl) rfl ?_
            refine ao_read trivial (r_assign rfl) rfl ?_
            refine ao_read trivial (r_assign rfl) rfl ?_
            refine ao_read trivial (r_assign rfl) rfl ?_
            refine ao_nil ?_
            refine aq_then ?_
            refine aw_ret ?_
            refine aq_in_ret ?_
            refine aq_then_ret ?_
            refine aq_then_ret ?_
            refine aq_in_ret ?_
            refine aq_then_ret ?_
            refine aq_ret ?_
            obtain rfl := is_some h
            exact aq_finx (l := [.tmp 8, .tmp 9, .tmp 10, .tmp 11]) (xs := [.int .i64 (IntKind.wrap .i64 (s2 + (x0.getD (x3.getD i3.toNat 0).toNat 0))), .int .i64 (i3 + 1), .bool true, .bool true]) idn [.int .i64 (IntKind.wrap .i64 (s2 + (x0.getD (x3.getD i3.toNat 0).toNat 0))), .int .i64 (i3 + 1), .bool true, .bool true] [] rfl (by exact ⟨rfl, rfl, rfl, rfl, trivial⟩) (by exact ⟨ad_ren rfl, ad_ren rfl, ad_ren rfl, ad_ren rfl, trivial⟩) (by exact trivial) rfl (nk rfl) rfl rfl ⟨rfl, rfl⟩
          · have q17 : ¬ (x2 ≤ (IntKind.wrap .i64 (s2 + (x0.getD (x3.getD i3.toNat 0).toNat 0)))) := d_f hb15
            replace h := is_else (d_f hb15) h
            refine aw_skip ?_
            refine aq_in ?_
            refine aq_then ?_
            refine aw_region ?_
            refine ao_read trivial (r_addI rfl rfl (wrap_id (by omega) (by omega))) rfl ?_
            refine ao_read trivial (r_move rfl) rfl ?_
            refine ao_nil ?_
            exact aq_again (AL.sub (sub_mk idn (by exact ⟨⟨_, rfl, ad_ren rfl⟩, ⟨_, rfl, ad_ren rfl⟩, ⟨_, rfl, ad_ren rfl⟩, ⟨_, rfl, ad_ren rfl⟩, ⟨_, rfl, ad_ren rfl⟩, ⟨_, rfl, ad_ren rfl⟩, ⟨_, rfl, ad_ren rfl⟩, ⟨_, rfl, ad_ren rfl⟩, trivial⟩) (by exact ⟨⟨_, rfl, ⟨rfl, trivial⟩⟩, trivial⟩) (by rfl) (nk rfl)) (ih4 d4 (i3 + 1) (IntKind.wrap .i64 (s2 + (x0.getD (x3.getD i3.toNat 0).toNat 0))) (by omega) ⟨by omega, (by (try simp only [List.length_set, List.length_append, List.length_cons, List.length_nil, List.length_replicate, List.length_take, List.length_drop]) <;> omega), (by (try simp only [List.length_set, List.length_append, List.length_cons, List.length_nil, List.length_replicate, List.length_take, List.length_drop]) <;> omega)⟩ h))
    · have q8 := d_f hb6
      obtain rfl : d4 = 0 := by omega
      replace h := is_cnt0 h
      refine aw_exit ?_
      refine aq_then_exit ?_
      refine aq_then_exit ?_
      refine aq_in_exit ?_
      refine aq_then ?_
      refine aw_seq ?_
      refine aw_region ?_
      refine ao_read trivial (r_move rfl) rfl ?_
      refine ao_read trivial (r_move rfl) rfl ?_
      refine ao_read trivial (r_len_vm (x3.length : Int) Try.underlying36 rfl rfl) rfl ?_
      refine ao_read trivial (r_assign rfl) rfl ?_
      refine ao_read trivial (r_assign rfl) rfl ?_
      refine ao_read trivial (r_assign rfl) rfl ?_
      refine ao_read trivial (r_assign rfl) rfl ?_
      refine ao_nil ?_
      refine aq_then ?_
      refine aw_ret ?_
      refine aq_ret ?_
      obtain rfl := is_some h
      exact aq_finx (l := [.tmp 8, .tmp 9, .tmp 10, .tmp 11]) (xs := [.int .i64 s2, .int .i64 (x3.length : Int), .bool false, .bool true]) idn [.int .i64 s2, .int .i64 (x3.length : Int), .bool false, .bool true] [] rfl (by exact ⟨rfl, rfl, rfl, rfl, trivial⟩) (by exact ⟨ad_ren rfl, ad_ren rfl, ad_ren rfl, ad_ren rfl, trivial⟩) (by exact trivial) rfl (nk rfl) rfl rfl ⟨rfl, rfl⟩
theorem c_spec_PlayTurn {x0 : (List Int)} {x1 : Int} {x2 : Int} {x3 : (List Int)} {r : Int × Int × Bool × Bool} (h : Is (p_spec_PlayTurn x0 x1 x2 x3) (some r)) :
    Scalar Try.prog 42 [.v (.arr 6 (.int .i64)) x0, .int .i64 x1, .int .i64 x2, .v (.slice (.int .i64)) x3] (.tup [.int .i64 r.1, .int .i64 r.2.1, .bool r.2.2.1, .bool r.2.2.2]) := by
  unfold p_spec_PlayTurn at h
  refine ac_enter ⟨58, 0⟩ Try.func42 rfl rfl rfl rfl rfl (fun Γ => ?_)
  refine sl_len_m 3 (x3.length : Int) rfl rfl (fun hl3 => ?_)
  refine aw_seq ?_
  refine aw_region ?_
  refine ao_eff trivial (e_box 0 rfl rfl rfl rfl rfl rfl) rfl ?_
  refine ao_read trivial (r_assign rfl) rfl ?_
  refine ao_read trivial (r_assign rfl) rfl ?_
  refine ao_read trivial (r_assign rfl) rfl ?_
  refine ao_read trivial (r_assign rfl) rfl ?_
  refine ao_nil ?_
  refine aq_then ?_
  refine aw_seq ?_
  refine aw_seq ?_
  refine aw_region ?_
  refine ao_read trivial (r_load_arr rfl Try.isAgg43 Try.sizeOf43 rfl rfl rfl) rfl ?_
  refine ao_read trivial (r_move rfl) rfl ?_
  refine ao_read trivial (r_move rfl) rfl ?_
  obtain ⟨r1, r1h, h⟩ := is_bind h
  refine ao_scall trivial (scall (c_spec_l7Turn (is_mk r1h)) rfl Try.func116 rfl rfl rfl rfl (fun σ => ⟨ad_ren rfl, ad_ren rfl, ad_ren rfl, trivial⟩)) rfl ?_
  refine ao_read trivial (r_not rfl) rfl ?_
  refine ao_nil ?_
  refine aq_then ?_
  refine aw_cond rfl (fun hb2 => ?_) (fun hb2 => ?_)
  · replace h := is_else (ne_t (not_t hb2)) h
    refine aw_seq ?_
    refine aw_region ?_
    refine ao_read trivial (r_assign rfl) rfl ?_
    refine ao_read trivial (r_assign rfl) rfl ?_
    refine ao_read trivial (r_assign rfl) rfl ?_
    refine ao_read trivial (r_assign rfl) rfl ?_
    refine ao_nil ?_
    refine aq_then ?_
    refine aw_ret ?_
    refine aq_then_ret ?_
    refine aq_ret ?_
    obtain rfl := is_some h
    exact aq_finx (l := [.tmp 8, .tmp 9, .tmp 10, .tmp 11]) (xs := [.int .i64 0, .int .i64 0, .bool false, .bool false]) idn [.int .i64 0, .int .i64 0, .bool false, .bool false] [] rfl (by exact ⟨rfl, rfl, rfl, rfl, trivial⟩) (by exact ⟨ad_ren rfl, ad_ren rfl, ad_ren rfl, ad_ren rfl, trivial⟩) (by exact trivial) rfl (nk rfl) rfl rfl ⟨rfl, rfl⟩
  · replace h := is_if (not_f hb2) h
    refine aw_skip ?_
    refine aq_then ?_
    refine aw_seq ?_
    refine aw_region ?_
    refine ao_read trivial (r_assign rfl) rfl ?_
    refine ao_nil ?_
    refine aq_then ?_
    refine aw_seq ?_
    refine aw_seq ?_
    refine aw_region ?_
    refine ao_read trivial (r_assign rfl) rfl ?_
    refine ao_nil ?_
    refine aq_then ?_
    refine aw_block ?_
    refine aw_loop (AL.sub (fr' := [(1, .int .i64 x1), (2, .int .i64 x2), (3, .v (.slice (.int .i64)) x3), (4, .ref 0 0), (12, .int .i64 0), (13, .int .i64 0)]) (H' := [(0, .var [.arr (.int .i64) 6 x0])]) (sub_mk idn (by exact ⟨⟨_, rfl, ad_ren rfl⟩, ⟨_, rfl, ad_ren rfl⟩, ⟨_, rfl, ad_ren rfl⟩, ⟨_, rfl, ad_ren rfl⟩, ⟨_, rfl, ad_ren rfl⟩, ⟨_, rfl, ad_ren rfl⟩, trivial⟩) (by exact ⟨⟨_, rfl, ⟨rfl, trivial⟩⟩, trivial⟩) (by rfl) (nk rfl)) (al_cnt (fun i4 (s3 : Int) => [(1, .int .i64 x1), (2, .int .i64 x2), (3, .v (.slice (.int .i64)) x3), (4, .ref 0 0), (12, .int .i64 s3), (13, .int .i64 i4)]) (fun i4 (s3 : Int) => [(0, .var [.arr (.int .i64) 6 x0])]) (fun d i4 (s3 : Int) => d = Int.toNat ((x3.length : Int) - i4) ∧ 0 ≤ i4 ∧ i4 ≤ (x3.length : Int)) h ⟨rfl, (by (try simp only [List.length_set, List.length_append, List.length_cons, List.length_nil, List.length_replicate, List.length_take, List.length_drop]) <;> omega), (by (try simp only [List.length_set, List.length_append, List.length_cons, List.length_nil, List.length_replicate, List.length_take, List.length_drop]) <;> omega)⟩ (fun d5 i4 s3 hI h ih5 => ?_)))
    obtain ⟨hd, _, _⟩ := hI
    refine al_round ?_
    refine aw_seq ?_
    refine aw_seq ?_
    refine aw_region ?_
    refine ao_read trivial (r_move rfl) rfl ?_
    refine ao_read trivial (r_move rfl) rfl ?_
    refine ao_read trivial (r_len_vm (x3.length : Int) Try.underlying36 rfl rfl) rfl ?_
    refine ao_read trivial (r_lss rfl rfl) rfl ?_
    refine ao_nil ?_
    refine aq_then ?_
    refine aw_cond rfl (fun hb7 => ?_) (fun hb7 => ?_)
    · have q8 := d_t hb7
      obtain ⟨d5, rfl⟩ : ∃ e, d5 = e + 1 := ⟨d5 - 1, by omega⟩
      replace h := is_cntS h
      refine aw_skip ?_
      refine aq_then ?_
      refine aw_seq ?_
      refine aw_block ?_
      refine aw_seq ?_
      refine aw_seq ?_
      refine aw_region ?_
      refine ao_read trivial (r_move rfl) rfl ?_
      refine ao_read trivial (r_move rfl) rfl ?_
      refine ao_read trivial (r_idxAddr_int Try.underlying36 Try.sizeOf3 rfl rfl (show 0 ≤ i4 from by omega) (show i4 < (x3.length : Int) from by omega)) rfl ?_
      refine ao_read trivial (r_load_c_int Try.isAgg3 Try.sizeOf3 rfl) rfl ?_
      refine ao_scall trivial (scall (c_spec_l1In (is_mk (rfl : p_spec_l1In (x3.getD i4.toNat 0) 0 5 = _))) rfl Try.func123 rfl rfl rfl rfl (fun σ => ⟨ad_ren rfl, ad_ren rfl, ad_ren rfl, trivial⟩)) rfl ?_
      refine ao_read trivial (r_not rfl) rfl ?_
      refine ao_nil ?_
      refine aq_then ?_
      refine aw_cond rfl (fun hb10 => ?_) (fun hb10 => ?_)
      · replace h := is_else (ne_t (not_t hb10)) h
        refine aw_seq ?_
        refine aw_region ?_
        refine ao_read trivial (r_assign rfl) rfl ?_
        refine ao_read trivial (r_assign rfl) rfl ?_
        refine ao_read trivial (r_assign rfl) rfl ?_
        refine ao_read trivial (r_assign rfl) rfl ?_
        refine ao_nil ?_
        refine aq_then ?_
        refine aw_ret ?_
        refine aq_then_ret ?_
        refine aq_in_ret ?_
        refine aq_then_ret ?_
        refine aq_then_ret ?_
        refine aq_in_ret ?_
        refine aq_then_ret ?_
        refine aq_ret ?_
        obtain rfl := is_some h
        exact aq_finx (l := [.tmp 8, .tmp 9, .tmp 10, .tmp 11]) (xs := [.int .i64 0, .int .i64 0, .bool false, .bool false]) idn [.int .i64 0, .int .i64 0, .bool false, .bool false] [] rfl (by exact ⟨rfl, rfl, rfl, rfl, trivial⟩) (by exact ⟨ad_ren rfl, ad_ren rfl, ad_ren rfl, ad_ren rfl, trivial⟩) (by exact trivial) rfl (nk rfl) rfl rfl ⟨rfl, rfl⟩
      · replace h := is_if (not_f hb10) h
        refine aw_skip ?_
        refine aq_then ?_
        refine aw_seq ?_
        refine aw_seq ?_
        refine aw_region ?_
        refine ao_read trivial (r_move rfl) rfl ?_
        refine ao_read trivial (r_move rfl) rfl ?_
        refine ao_read trivial (r_idxAddr_int Try.underlying36 Try.sizeOf3 rfl rfl (show 0 ≤ i4 from by omega) (show i4 < (x3.length : Int) from by omega)) rfl ?_
        refine ao_read trivial (r_load_c_int Try.isAgg3 Try.sizeOf3 rfl) rfl ?_
        obtain ⟨g11, h⟩ := is_guard h
        obtain ⟨g12, h⟩ := is_guard h
        refine ao_read trivial (r_idxAddr_arr (i := (x3.getD i4.toNat 0)) Try.underlying43 Try.sizeOf3 rfl rfl (show 0 ≤ (x3.getD i4.toNat 0) from by omega) (show (x3.getD i4.toNat 0) < (6 : Int) from by omega)) rfl ?_
        refine ao_read trivial (r_load_elema_int Try.isAgg3 Try.sizeOf3 rfl rfl rfl (show (x3.getD i4.toNat 0).toNat < 6 from by omega)) rfl ?_
        refine ao_read trivial (r_move rfl) rfl ?_
        refine ao_read trivial (r_eql rfl rfl) rfl ?_
        refine ao_nil ?_
        refine aq_then ?_
        refine aw_cond rfl (fun hb13 => ?_) (fun hb13 => ?_)
        · have q14 : (x0.getD (x3.getD i4.toNat 0).toNat 0) = x1 := d_t hb13
          replace h := is_if (d_t hb13) h
          refine aw_seq ?_
          refine aw_region ?_
          refine ao_read trivial (r_move rfl) rfl ?_
          refine ao_read trivial (r_addI rfl rfl (wrap_id (by omega) (by omega))) rfl ?_
          refine ao_read trivial (r_assign rfl) rfl ?_
          refine ao_read trivial (r_assign rfl) rfl ?_
          refine ao_read trivial (r_assign rfl) rfl ?_
          refine ao_read trivial (r_assign rfl) rfl ?_
          refine ao_nil ?_
          refine aq_then ?_
          refine aw_ret ?_
          refine aq_then_ret ?_
          refine aq_in_ret ?_
          refine aq_then_ret ?_
          refine aq_then_ret ?_
          refine aq_in_ret ?_
          refine aq_then_ret ?_
          refine aq_ret ?_
          obtain rfl := is_some h
          exact aq_finx (l := [.tmp 8, .tmp 9, .tmp 10, .tmp 11]) (xs := [.int .i64 0, .int .i64 (i4 + 1), .bool true, .bool true]) idn [.int .i64 0, .int .i64 (i4 + 1), .bool true, .bool true] [] rfl (by exact ⟨rfl, rfl, rfl, rfl, trivial⟩) (by exact ⟨ad_ren rfl, ad_ren rfl, ad_ren rfl, ad_ren rfl, trivial⟩) (by exact trivial) rfl (nk rfl) rfl rfl ⟨rfl, rfl⟩
        · have q15 : ¬ ((x0.getD (x3.getD i4.toNat 0).toNat 0) = x1) := d_f hb13
          replace h := is_else (d_f hb13) h
          refine aw_skip ?_
          refine aq_then ?_
          refine aw_seq ?_
          refine aw_region ?_
          refine ao_read trivial (r_move rfl) rfl ?_
          refine ao_read trivial (r_move rfl) rfl ?_
          refine ao_read trivial (r_move rfl) rfl ?_
          refine ao_read trivial (r_idxAddr_int Try.underlying36 Try.sizeOf3 rfl rfl (show 0 ≤ i4 from by omega) (show i4 < (x3.length : Int) from by omega)) rfl ?_
          refine ao_read trivial (r_load_c_int Try.isAgg3 Try.sizeOf3 rfl) rfl ?_
          refine ao_read trivial (r_idxAddr_arr (i := (x3.getD i4.toNat 0)) Try.underlying43 Try.sizeOf3 rfl rfl (show 0 ≤ (x3.getD i4.toNat 0) from by omega) (show (x3.getD i4.toNat 0) < (6 : Int) from by omega)) rfl ?_
          refine ao_read trivial (r_load_elema_int Try.isAgg3 Try.sizeOf3 rfl rfl rfl (show (x3.getD i4.toNat 0).toNat < 6 from by omega)) rfl ?_
          refine ao_read trivial (r_add rfl rfl) rfl ?_
          refine ao_read trivial (r_assign rfl) rfl ?_
          refine ao_nil ?_
          refine aq_then ?_
          refine aw_seq ?_
          refine aw_region ?_
          refine ao_read trivial (r_move rfl) rfl ?_
          refine ao_read trivial (r_move rfl) rfl ?_
          refine ao_read trivial (r_geq rfl rfl) rfl ?_
          refine ao_nil ?_
          refine aq_then ?_
          refine aw_cond rfl (fun hb16 => ?_) (fun hb16 => ?_)
          · have q17 : x2 ≤ (IntKind.wrap .i64 (s3 + (x0.getD (x3.getD i4.toNat 0).toNat 0))) := d_t hb16
            replace h := is_if (d_t hb16) h
            refine aw_seq ?_
            refine aw_region ?_
            refine ao_read trivial (r_move rfl) rfl ?_
            refine ao_read trivial (r_move rfl) rfl ?_
            refine ao_read trivial (r_addI rfl rfl (wrap_id (by omega) (by omega))) rfl ?_
            refine ao_read trivial (r_assign rfl) rfl ?_
            refine ao_read trivial (r_assign rfl) rfl ?_
            refine ao_read trivial (r_assign rfl) rfl ?_
            refine ao_read trivial (r_assign rfl) rfl ?_
            refine ao_nil ?_
            refine aq_then ?_
            refine aw_ret ?_
            refine aq_in_ret ?_
            refine aq_then_ret ?_
            refine aq_then_ret ?_
            refine aq_in_ret ?_
            refine aq_then_ret ?_
            refine aq_ret ?_
            obtain rfl := is_some h
            exact aq_finx (l := [.tmp 8, .tmp 9, .tmp 10, .tmp 11]) (xs := [.int .i64 (IntKind.wrap .i64 (s3 + (x0.getD (x3.getD i4.toNat 0).toNat 0))), .int .i64 (i4 + 1), .bool true, .bool true]) idn [.int .i64 (IntKind.wrap .i64 (s3 + (x0.getD (x3.getD i4.toNat 0).toNat 0))), .int .i64 (i4 + 1), .bool true, .bool true] [] rfl (by exact ⟨rfl, rfl, rfl, rfl, trivial⟩) (by exact ⟨ad_ren rfl, ad_ren rfl, ad_ren rfl, ad_ren rfl, trivial⟩) (by exact trivial) rfl (nk rfl) rfl rfl ⟨rfl, rfl⟩
          · have q18 : ¬ (x2 ≤ (IntKind.wrap .i64 (s3 + (x0.getD (x3.getD i4.toNat 0).toNat 0)))) := d_f hb16
            replace h := is_else (d_f hb16) h
            refine aw_skip ?_
            refine aq_in ?_
            refine aq_then ?_
            refine aw_region ?_
            refine ao_read trivial (r_move rfl) rfl ?_
            refine ao_read trivial (r_addI rfl rfl (wrap_id (by omega) (by omega))) rfl ?_
            refine ao_read trivial (r_assign rfl) rfl ?_
            refine ao_nil ?_
            exact aq_again (AL.sub (sub_mk idn (by exact ⟨⟨_, rfl, ad_ren rfl⟩, ⟨_, rfl, ad_ren rfl⟩, ⟨_, rfl, ad_ren rfl⟩, ⟨_, rfl, ad_ren rfl⟩, ⟨_, rfl, ad_ren rfl⟩, ⟨_, rfl, ad_ren rfl⟩, trivial⟩) (by exact ⟨⟨_, rfl, ⟨rfl, trivial⟩⟩, trivial⟩) (by rfl) (nk rfl)) (ih5 d5 (i4 + 1) (IntKind.wrap .i64 (s3 + (x0.getD (x3.getD i4.toNat 0).toNat 0))) (by omega) ⟨by omega, (by (try simp only [List.length_set, List.length_append, List.length_cons, List.length_nil, List.length_replicate, List.length_take, List.length_drop]) <;> omega), (by (try simp only [List.length_set, List.length_append, List.length_cons, List.length_nil, List.length_replicate, List.length_take, List.length_drop]) <;> omega)⟩ h))
    · have q9 := d_f hb7
      obtain rfl : d5 = 0 := by omega
      replace h := is_cnt0 h
      refine aw_exit ?_
      refine aq_then_exit ?_
      refine aq_then_exit ?_
      refine aq_in_exit ?_
      refine aq_then ?_
      refine aw_seq ?_
      refine aw_region ?_
      refine ao_read trivial (r_move rfl) rfl ?_
      refine ao_read trivial (r_move rfl) rfl ?_
      refine ao_read trivial (r_len_vm (x3.length : Int) Try.underlying36 rfl rfl) rfl ?_
      refine ao_read trivial (r_assign rfl) rfl ?_
      refine ao_read trivial (r_assign rfl) rfl ?_
      refine ao_read trivial (r_assign rfl) rfl ?_
      refine ao_read trivial (r_assign rfl) rfl ?_
      refine ao_nil ?_
      refine aq_then ?_
      refine aw_ret ?_
      refine aq_ret ?_
      obtain rfl := is_some h
      exact aq_finx (l := [.tmp 8, .tmp 9, .tmp 10, .tmp 11]) (xs := [.int .i64 s3, .int .i64 (x3.length : Int), .bool false, .bool true]) idn [.int .i64 s3, .int .i64 (x3.length : Int), .bool false, .bool true] [] rfl (by exact ⟨rfl, rfl, rfl, rfl, trivial⟩) (by exact ⟨ad_ren rfl, ad_ren rfl, ad_ren rfl, ad_ren rfl, trivial⟩) (by exact trivial) rfl (nk rfl) rfl rfl ⟨rfl, rfl⟩
theorem c_spec_l1Cur_goal {x0 : (List Int)} {x1 : Int} {x2 : Int} {r : Int × Int × Int} (h : Is (p_spec_l1Cur_goal x0 x1 x2) (some r)) :
    ACallsV Try.prog 128 [.ref 0 0] [(0, .var [.cell (.v (.slice (.int .u8)) x0), .cell (.int .i64 x1), .cell (.int .u64 x2)])] (fun r' H' => r' = .int .i64 r.1 ∧ H' = [(0, .var [.cell (.v (.slice (.int .u8)) x0), .cell (.int .i64 r.2.1), .cell (.int .u64 r.2.2)])]) := by
  unfold p_spec_l1Cur_goal at h
  refine ac_enterV ⟨6, 1⟩ Try.func128 rfl rfl rfl rfl rfl (fun Γ => ?_)
  refine aw_seq ?_
  refine aw_region ?_
  refine ao_read trivial (r_assign rfl) rfl ?_
  refine ao_nil ?_
  refine aq_then ?_
  refine aw_seq ?_
  refine aw_region ?_
  refine ao_read trivial (r_move rfl) rfl ?_
  refine ao_eff trivial (e_buildSlice (l := [(0, .const (.int .i64 3)), (1, .const (.int .i64 5)), (2, .const (.int .i64 8)), (3, .const (.int .i64 1)), (4, .const (.int .i64 6)), (5, .const (.int .i64 2)), (6, .const (.int .i64 4)), (7, .const (.int .i64 7)), (8, .const (.int .i64 0)), (9, .const (.int .i64 9))]) (t := (.int .i64)) 1 ([3, 5, 8, 1, 6, 2, 4, 7, 0, 9] : (List Int)) rfl Try.underlying36 Try.zeroValue3 Try.sizeOf3 rfl rfl rfl rfl rfl rfl rfl) rfl ?_
  obtain ⟨r1, r1h, h⟩ := is_bind h
  refine ao_frz (fr' := [(0, .ref 0 0), (2, .int .i64 0), (3, .ref 0 0), (4, .v (.slice (.int .i64)) ([3, 5, 8, 1, 6, 2, 4, 7, 0, 9] : (List Int)))]) (H' := [(0, .var [.cell (.v (.slice (.int .u8)) x0), .cell (.int .i64 x1), .cell (.int .u64 x2)])]) (by exact ⟨⟨_, rfl, ad_ren rfl⟩, ⟨_, rfl, ad_ren rfl⟩, ⟨_, rfl, ad_ren rfl⟩, ⟨_, rfl, ad_osB rfl rfl⟩, trivial⟩) (by exact ⟨⟨_, rfl, ⟨ad_ren rfl, rfl, ad_ren rfl, rfl, ad_ren rfl, rfl, trivial⟩⟩, trivial⟩) rfl ?_
  refine ao_callV [0] 2 trivial (c_spec_l1Cur_among (is_mk r1h)) Try.func112 rfl rfl rfl rfl rfl ⟨rfl, trivial⟩ ⟨⟨_, rfl, ⟨ad_ren rfl, rfl, ad_ren rfl, rfl, ad_ren rfl, rfl, trivial⟩⟩, trivial⟩ rfl rfl rfl rfl rfl rfl rfl (fun r' H' hr => ?_)
  obtain ⟨rfl, rfl⟩ := hr
  refine ao_norm (y := .int .i64 r1.1) (H' := [(0, .var [.cell (.v (.slice (.int .u8)) x0), .cell (.int .i64 r1.2.1), .cell (.int .u64 r1.2.2)])]) rfl rfl ?_
  refine ao_read trivial (r_assign rfl) rfl ?_
  refine ao_nil ?_
  refine aq_then ?_
  refine aw_ret ?_
  refine aq_ret ?_
  obtain rfl := is_some h
  exact aq_finV (l := [.tmp 2]) (xs := [.int .i64 r1.1]) idn [.int .i64 r1.1] [(0, .var [.cell (.v (.slice (.int .u8)) x0), .cell (.int .i64 r1.2.1), .cell (.int .u64 r1.2.2)])] rfl (by exact ⟨rfl, trivial⟩) (by exact ⟨ad_ren rfl, trivial⟩) (by exact ⟨⟨_, rfl, ⟨ad_ren rfl, rfl, ad_ren rfl, rfl, ad_ren rfl, rfl, trivial⟩⟩, trivial⟩) rfl (nk1 rfl rfl) ⟨rfl, rfl⟩
theorem c_spec_DrawFirstWins {x0 : (List Int)} {r : (List Int) × (List Int) × Int} (h : Is (p_spec_DrawFirstWins x0) (some r)) :
    Scalar Try.prog 56 [.v (.slice (.int .u8)) x0] (.tup [.v (.arr 6 (.int .i64)) r.1, .v (.arr 6 (.int .i64)) r.2.1, .int .i64 r.2.2]) := by
  unfold p_spec_DrawFirstWins at h
  refine ac_enter ⟨24, 0⟩ Try.func56 rfl rfl rfl rfl rfl (fun Γ => ?_)
  refine sl_len_m 0 (x0.length : Int) rfl rfl (fun hl0 => ?_)
  refine aw_seq ?_
  refine aw_region ?_
  refine ao_eff trivial (e_alloc 0 (y := .v (.arr 6 (.int .i64)) ((List.replicate 6 0) : (List Int))) Try.zeroValue43 (fun ρ h M => ra_zero_arr (t := (.int .i64)) rfl) rfl rfl rfl rfl rfl) rfl ?_
  refine ao_eff trivial (e_alloc 1 (y := .v (.arr 6 (.int .i64)) ((List.replicate 6 0) : (List Int))) Try.zeroValue43 (fun ρ h M => ra_zero_arr (t := (.int .i64)) rfl) rfl rfl rfl rfl rfl) rfl ?_
  refine ao_read trivial (r_assign rfl) rfl ?_
  refine ao_nil ?_
  refine aq_then ?_
  refine aw_seq ?_
  refine aw_region ?_
  refine ao_read trivial (r_move rfl) rfl ?_
  refine ao_read trivial (r_build_st (l := [(0, .tmp 8)]) (cs := [.cell (.v (.slice (.int .u8)) x0), .cell (.int .i64 0), .cell (.int .u64 0)]) (.pair (.slice (.int .u8)) (.pair (.int .i64) (.pair (.int .u64) .unit))) [(0, 1), (1, 1), (2, 1)] Try.underlying105 Try.zeroValue105 rfl ⟨rfl, Try.sizeOf22, rfl, Try.sizeOf3, rfl, Try.sizeOf103, trivial⟩ rfl rfl rfl) rfl ?_
  refine ao_eff trivial (e_box 2 rfl rfl rfl rfl rfl rfl) rfl ?_
  refine ao_read trivial (r_assign rfl) rfl ?_
  refine ao_nil ?_
  refine aq_then ?_
  refine aw_seq ?_
  refine aw_region ?_
  refine ao_read trivial (r_move rfl) rfl ?_
  obtain ⟨r1, r1h, h⟩ := is_bind h
  refine ao_callV [2] 3 trivial (c_spec_l1Cur_goal (is_mk r1h)) Try.func128 rfl rfl rfl rfl rfl ⟨rfl, trivial⟩ ⟨⟨_, rfl, ⟨ad_ren rfl, rfl, ad_ren rfl, rfl, ad_ren rfl, rfl, trivial⟩⟩, trivial⟩ rfl rfl rfl rfl rfl rfl rfl (fun r' H' hr => ?_)
  obtain ⟨rfl, rfl⟩ := hr
  refine ao_norm (y := .int .i64 r1.1) (H' := [(1, .var [.arr (.int .i64) 6 ((List.replicate 6 0) : (List Int))]), (0, .var [.arr (.int .i64) 6 ((List.replicate 6 0) : (List Int))]), (2, .var [.cell (.v (.slice (.int .u8)) x0), .cell (.int .i64 r1.2.1), .cell (.int .u64 r1.2.2)])]) rfl rfl ?_
  refine ao_read trivial (r_assign rfl) rfl ?_
  refine ao_nil ?_
  refine aq_then ?_
  refine aw_seq ?_
  refine aw_region ?_
  refine ao_read trivial (r_move rfl) rfl ?_
  obtain ⟨r2, r2h, h⟩ := is_bind h
  refine ao_callV [2] 3 trivial (c_spec_l1Cur_little (is_mk r2h)) Try.func113 rfl rfl rfl rfl rfl ⟨rfl, trivial⟩ ⟨⟨_, rfl, ⟨ad_ren rfl, rfl, ad_ren rfl, rfl, ad_ren rfl, rfl, trivial⟩⟩, trivial⟩ rfl rfl rfl rfl rfl rfl rfl (fun r' H' hr => ?_)
  obtain ⟨rfl, rfl⟩ := hr
  refine ao_norm (y := .v (.arr 6 (.int .i64)) r2.1) (H' := [(1, .var [.arr (.int .i64) 6 ((List.replicate 6 0) : (List Int))]), (0, .var [.arr (.int .i64) 6 ((List.replicate 6 0) : (List Int))]), (2, .var [.cell (.v (.slice (.int .u8)) x0), .cell (.int .i64 r2.2.1), .cell (.int .u64 r2.2.2)])]) rfl rfl ?_
  refine ao_eff trivial (e_alloc 3 (y := .v (.arr 6 (.int .i64)) ((List.replicate 6 0) : (List Int))) Try.zeroValue43 (fun ρ h M => ra_zero_arr (t := (.int .i64)) rfl) rfl rfl rfl rfl rfl) rfl ?_
  refine ao_effS trivial (e_store rfl rfl rfl rfl Try.sizeOf43 rfl) ?_
  refine ao_nil ?_
  refine aq_then ?_
  refine aw_seq ?_
  refine aw_seq ?_
  refine aw_region ?_
  refine ao_read trivial (r_move rfl) rfl ?_
  obtain ⟨r3, r3h, h⟩ := is_bind h
  refine ao_callV [2] 4 trivial (c_spec_l1Cur_one (is_mk r3h)) Try.func133 rfl rfl rfl rfl rfl ⟨rfl, trivial⟩ ⟨⟨_, rfl, ⟨ad_ren rfl, rfl, ad_ren rfl, rfl, ad_ren rfl, rfl, trivial⟩⟩, trivial⟩ rfl rfl rfl rfl rfl rfl rfl (fun r' H' hr => ?_)
  obtain ⟨rfl, rfl⟩ := hr
  refine ao_norm (y := .bool r3.1) (H' := [(3, .var [.arr (.int .i64) 6 r2.1]), (1, .var [.arr (.int .i64) 6 ((List.replicate 6 0) : (List Int))]), (0, .var [.arr (.int .i64) 6 ((List.replicate 6 0) : (List Int))]), (2, .var [.cell (.v (.slice (.int .u8)) x0), .cell (.int .i64 r3.2.1), .cell (.int .u64 r3.2.2)])]) rfl rfl ?_
  refine ao_nil ?_
  refine aq_then ?_
  refine aw_cond rfl (fun hb4 => ?_) (fun hb4 => ?_)
  · replace h := is_if hb4 h
    refine aw_seq ?_
    refine aw_drawP 6 rfl (by kernel_rfl) ?_
    refine ap_to [(2, .ref 0 0), (3, .ref 1 0), (4, .int .i64 r1.1)] [(0, .var [.arr (.int .i64) 6 r2.1]), (1, .var [.arr (.int .i64) 6 r2.1])] ?_ (fun key => ?_)
    · refine aq_then ?_
      refine aw_ret ?_
      refine aq_then_ret ?_
      refine aq_ret ?_
      obtain rfl := is_some h
      exact aq_finx (l := [.cell 2 43, .cell 3 43, .tmp 4]) (xs := [.v (.arr 6 (.int .i64)) r2.1, .v (.arr 6 (.int .i64)) r2.1, .int .i64 r1.1]) idn [.v (.arr 6 (.int .i64)) r2.1, .v (.arr 6 (.int .i64)) r2.1, .int .i64 r1.1] [] rfl (by exact ⟨⟨⟨_, _, rfl⟩, r_load_arr rfl Try.isAgg43 Try.sizeOf43 rfl rfl rfl⟩, ⟨⟨_, _, rfl⟩, r_load_arr rfl Try.isAgg43 Try.sizeOf43 rfl rfl rfl⟩, rfl, trivial⟩) (by exact ⟨ad_ren rfl, ad_ren rfl, ad_ren rfl, trivial⟩) (by exact trivial) rfl (nk rfl) rfl rfl ⟨rfl, rfl⟩
    refine ap_let (g := 2) (listed := #[true, true, true, true, false, false]) [(2, .ref 0 0), (3, .ref 1 0), (4, .int .i64 0), (18, .v (.arr 6 (.int .i64)) r2.1), (19, .int .i64 r1.1)] [(0, .var [.arr (.int .i64) 6 r2.1]), (1, .var [.arr (.int .i64) 6 ((List.replicate 6 0) : (List Int))])] ?_ (fun k8 => ?_)
    · refine ap_all [4] (by kernel_rfl) ⟨?_, trivial⟩
      refine apo_ao rfl ?_
      refine ao_effS trivial (e_store rfl rfl rfl rfl Try.sizeOf43 rfl) ?_
      refine ao_nil ?_
      refine ap_in ?_
      refine ap_pure 5 (by kernel_rfl) (fun _ _ _ h => h) rfl (by kernel_rfl) trivial (rp_assign rfl) rfl ?_
      exact ap_end (by kernel_rfl) (AQ.sub (sub_mk idn (by exact ⟨⟨_, rfl, ad_ren rfl⟩, ⟨_, rfl, ad_ren rfl⟩, ⟨_, rfl, ad_ren rfl⟩, trivial⟩) (by exact ⟨⟨_, rfl, ⟨rfl, trivial⟩⟩, ⟨_, rfl, ⟨rfl, trivial⟩⟩, trivial⟩) (by rfl) (nk rfl)) key)
    refine ap_let (g := 3) (listed := #[true, true, true, false, false, false]) [(2, .ref 0 0), (3, .ref 1 0), (4, .int .i64 0), (17, .v (.arr 6 (.int .i64)) r2.1), (18, .v (.arr 6 (.int .i64)) r2.1), (19, .int .i64 r1.1)] [(0, .var [.arr (.int .i64) 6 ((List.replicate 6 0) : (List Int))]), (1, .var [.arr (.int .i64) 6 ((List.replicate 6 0) : (List Int))])] ?_ (fun k7 => ?_)
    · refine ap_all [3] (by kernel_rfl) ⟨?_, trivial⟩
      refine apo_ao rfl ?_
      refine ao_effS trivial (e_store rfl rfl rfl rfl Try.sizeOf43 rfl) ?_
      refine ao_nil ?_
      refine ap_in ?_
      exact ap_go (by kernel_rfl) (sub_mk idn (by exact ⟨⟨_, rfl, ad_ren rfl⟩, ⟨_, rfl, ad_ren rfl⟩, ⟨_, rfl, ad_ren rfl⟩, ⟨_, rfl, ad_ren rfl⟩, ⟨_, rfl, ad_ren rfl⟩, trivial⟩) (by exact ⟨⟨_, rfl, ⟨rfl, trivial⟩⟩, ⟨_, rfl, ⟨rfl, trivial⟩⟩, trivial⟩) (by rfl) (nk rfl)) k8
    refine ap_let (g := 3) (listed := #[true, false, true, true, false, false]) [(2, .ref 0 0), (3, .ref 1 0), (4, .int .i64 0), (7, .ref 2 0), (19, .int .i64 r1.1)] [(0, .var [.arr (.int .i64) 6 r2.1]), (1, .var [.arr (.int .i64) 6 ((List.replicate 6 0) : (List Int))]), (2, .var [.arr (.int .i64) 6 r2.1])] ?_ (fun k9 => ?_)
    · refine ap_all [1] (by kernel_rfl) ⟨?_, trivial⟩
      refine apo_ao rfl ?_
      refine ao_read trivial (r_load_arr rfl Try.isAgg43 Try.sizeOf43 rfl rfl rfl) rfl ?_
      refine ao_nil ?_
      refine ap_in ?_
      exact ap_go (by kernel_rfl) (sub_mk idn (by exact ⟨⟨_, rfl, ad_ren rfl⟩, ⟨_, rfl, ad_ren rfl⟩, ⟨_, rfl, ad_ren rfl⟩, ⟨_, rfl, ad_ren rfl⟩, ⟨_, rfl, ad_ren rfl⟩, trivial⟩) (by exact ⟨⟨_, rfl, ⟨rfl, trivial⟩⟩, ⟨_, rfl, ⟨rfl, trivial⟩⟩, trivial⟩) (by rfl) (nk rfl)) k8
    refine ap_let (g := 4) (listed := #[true, false, true, false, false, false]) [(2, .ref 0 0), (3, .ref 1 0), (4, .int .i64 0), (7, .ref 2 0), (17, .v (.arr 6 (.int .i64)) r2.1), (19, .int .i64 r1.1)] [(0, .var [.arr (.int .i64) 6 ((List.replicate 6 0) : (List Int))]), (1, .var [.arr (.int .i64) 6 ((List.replicate 6 0) : (List Int))]), (2, .var [.arr (.int .i64) 6 r2.1])] ?_ (fun k6 => ?_)
    · refine ap_all [1, 3] (by kernel_rfl) ⟨?_, ?_, trivial⟩
      · refine apo_ao rfl ?_
        refine ao_read trivial (r_load_arr rfl Try.isAgg43 Try.sizeOf43 rfl rfl rfl) rfl ?_
        refine ao_nil ?_
        refine ap_in ?_
        exact ap_go (by kernel_rfl) (sub_mk idn (by exact ⟨⟨_, rfl, ad_ren rfl⟩, ⟨_, rfl, ad_ren rfl⟩, ⟨_, rfl, ad_ren rfl⟩, ⟨_, rfl, ad_ren rfl⟩, ⟨_, rfl, ad_ren rfl⟩, ⟨_, rfl, ad_ren rfl⟩, trivial⟩) (by exact ⟨⟨_, rfl, ⟨rfl, trivial⟩⟩, ⟨_, rfl, ⟨rfl, trivial⟩⟩, trivial⟩) (by rfl) (nk rfl)) k7
      · refine apo_ao rfl ?_
        refine ao_effS trivial (e_store rfl rfl rfl rfl Try.sizeOf43 rfl) ?_
        refine ao_nil ?_
        refine ap_in ?_
        exact ap_go (by kernel_rfl) (sub_mk idn (by exact ⟨⟨_, rfl, ad_ren rfl⟩, ⟨_, rfl, ad_ren rfl⟩, ⟨_, rfl, ad_ren rfl⟩, ⟨_, rfl, ad_ren rfl⟩, ⟨_, rfl, ad_ren rfl⟩, trivial⟩) (by exact ⟨⟨_, rfl, ⟨rfl, trivial⟩⟩, ⟨_, rfl, ⟨rfl, trivial⟩⟩, ⟨_, rfl, ⟨rfl, trivial⟩⟩, trivial⟩) (by rfl) (nk rfl)) k9
    refine ap_let (g := 4) (listed := #[false, true, true, false, false, false]) [(2, .ref 0 0), (3, .ref 1 0), (4, .int .i64 0), (7, .ref 2 0), (18, .v (.arr 6 (.int .i64)) r2.1), (19, .int .i64 r1.1)] [(0, .var [.arr (.int .i64) 6 ((List.replicate 6 0) : (List Int))]), (1, .var [.arr (.int .i64) 6 ((List.replicate 6 0) : (List Int))]), (2, .var [.arr (.int .i64) 6 r2.1])] ?_ (fun k10 => ?_)
    · refine ap_all [0] (by kernel_rfl) ⟨?_, trivial⟩
      refine apo_ao rfl ?_
      refine ao_read trivial (r_load_arr rfl Try.isAgg43 Try.sizeOf43 rfl rfl rfl) rfl ?_
      refine ao_nil ?_
      refine ap_in ?_
      exact ap_go (by kernel_rfl) (sub_mk idn (by exact ⟨⟨_, rfl, ad_ren rfl⟩, ⟨_, rfl, ad_ren rfl⟩, ⟨_, rfl, ad_ren rfl⟩, ⟨_, rfl, ad_ren rfl⟩, ⟨_, rfl, ad_ren rfl⟩, ⟨_, rfl, ad_ren rfl⟩, trivial⟩) (by exact ⟨⟨_, rfl, ⟨rfl, trivial⟩⟩, ⟨_, rfl, ⟨rfl, trivial⟩⟩, trivial⟩) (by rfl) (nk rfl)) k7
    refine ap_let (g := 5) (listed := #[false, false, true, false, false, false]) [(2, .ref 0 0), (3, .ref 1 0), (4, .int .i64 0), (7, .ref 2 0), (19, .int .i64 r1.1)] [(0, .var [.arr (.int .i64) 6 ((List.replicate 6 0) : (List Int))]), (1, .var [.arr (.int .i64) 6 ((List.replicate 6 0) : (List Int))]), (2, .var [.arr (.int .i64) 6 r2.1])] ?_ (fun k5 => ?_)
    · refine ap_all [0, 1] (by kernel_rfl) ⟨?_, ?_, trivial⟩
      · refine apo_ao rfl ?_
        refine ao_read trivial (r_load_arr rfl Try.isAgg43 Try.sizeOf43 rfl rfl rfl) rfl ?_
        refine ao_nil ?_
        refine ap_in ?_
        exact ap_go (by kernel_rfl) (sub_mk idn (by exact ⟨⟨_, rfl, ad_ren rfl⟩, ⟨_, rfl, ad_ren rfl⟩, ⟨_, rfl, ad_ren rfl⟩, ⟨_, rfl, ad_ren rfl⟩, ⟨_, rfl, ad_ren rfl⟩, ⟨_, rfl, ad_ren rfl⟩, trivial⟩) (by exact ⟨⟨_, rfl, ⟨rfl, trivial⟩⟩, ⟨_, rfl, ⟨rfl, trivial⟩⟩, ⟨_, rfl, ⟨rfl, trivial⟩⟩, trivial⟩) (by rfl) (nk rfl)) k6
      · refine apo_ao rfl ?_
        refine ao_read trivial (r_load_arr rfl Try.isAgg43 Try.sizeOf43 rfl rfl rfl) rfl ?_
        refine ao_nil ?_
        refine ap_in ?_
        exact ap_go (by kernel_rfl) (sub_mk idn (by exact ⟨⟨_, rfl, ad_ren rfl⟩, ⟨_, rfl, ad_ren rfl⟩, ⟨_, rfl, ad_ren rfl⟩, ⟨_, rfl, ad_ren rfl⟩, ⟨_, rfl, ad_ren rfl⟩, ⟨_, rfl, ad_ren rfl⟩, trivial⟩) (by exact ⟨⟨_, rfl, ⟨rfl, trivial⟩⟩, ⟨_, rfl, ⟨rfl, trivial⟩⟩, ⟨_, rfl, ⟨rfl, trivial⟩⟩, trivial⟩) (by rfl) (nk rfl)) k10
    refine ap_pure 2 (by kernel_rfl) (fun _ _ _ h => h) rfl (by kernel_rfl) trivial (rp_move rfl) rfl ?_
    exact ap_go (by kernel_rfl) (sub_mk (rn [(2, 3)]) (by exact ⟨⟨_, rfl, ad_ren rfl⟩, ⟨_, rfl, ad_ren rfl⟩, ⟨_, rfl, ad_ren rfl⟩, ⟨_, rfl, ad_ren rfl⟩, ⟨_, rfl, ad_ren rfl⟩, trivial⟩) (by exact ⟨⟨_, rfl, ⟨rfl, trivial⟩⟩, ⟨_, rfl, ⟨rfl, trivial⟩⟩, ⟨_, rfl, ⟨rfl, trivial⟩⟩, trivial⟩) (by rfl) (nk rfl)) k5
  · replace h := is_else (ne_t hb4) h
    refine aw_skip ?_
    refine aq_then ?_
    refine aw_seq ?_
    obtain ⟨r11, r11h, h⟩ := is_bind h
    refine aw_drawP 7 rfl (by kernel_rfl) ?_
    refine ap_to [(2, .ref 0 0), (3, .ref 1 0), (4, .int .i64 r1.1)] [(0, .var [.arr (.int .i64) 6 r2.1]), (1, .var [.arr (.int .i64) 6 r11.1])] ?_ (fun key => ?_)
    · refine aq_then ?_
      refine aw_ret ?_
      refine aq_ret ?_
      obtain rfl := is_some h
      exact aq_finx (l := [.cell 2 43, .cell 3 43, .tmp 4]) (xs := [.v (.arr 6 (.int .i64)) r2.1, .v (.arr 6 (.int .i64)) r11.1, .int .i64 r1.1]) idn [.v (.arr 6 (.int .i64)) r2.1, .v (.arr 6 (.int .i64)) r11.1, .int .i64 r1.1] [] rfl (by exact ⟨⟨⟨_, _, rfl⟩, r_load_arr rfl Try.isAgg43 Try.sizeOf43 rfl rfl rfl⟩, ⟨⟨_, _, rfl⟩, r_load_arr rfl Try.isAgg43 Try.sizeOf43 rfl rfl rfl⟩, rfl, trivial⟩) (by exact ⟨ad_ren rfl, ad_ren rfl, ad_ren rfl, trivial⟩) (by exact trivial) rfl (nk rfl) rfl rfl ⟨rfl, rfl⟩
    refine ap_let (g := 2) (listed := #[true, true, true, true, true, false, false]) [(2, .ref 0 0), (3, .ref 1 0), (4, .int .i64 0), (22, .v (.arr 6 (.int .i64)) r11.1), (23, .int .i64 r1.1)] [(0, .var [.arr (.int .i64) 6 r2.1]), (1, .var [.arr (.int .i64) 6 ((List.replicate 6 0) : (List Int))])] ?_ (fun k15 => ?_)
    · refine ap_all [5] (by kernel_rfl) ⟨?_, trivial⟩
      refine apo_ao rfl ?_
      refine ao_effS trivial (e_store rfl rfl rfl rfl Try.sizeOf43 rfl) ?_
      refine ao_nil ?_
      refine ap_in ?_
      refine ap_pure 6 (by kernel_rfl) (fun _ _ _ h => h) rfl (by kernel_rfl) trivial (rp_assign rfl) rfl ?_
      exact ap_end (by kernel_rfl) (AQ.sub (sub_mk idn (by exact ⟨⟨_, rfl, ad_ren rfl⟩, ⟨_, rfl, ad_ren rfl⟩, ⟨_, rfl, ad_ren rfl⟩, trivial⟩) (by exact ⟨⟨_, rfl, ⟨rfl, trivial⟩⟩, ⟨_, rfl, ⟨rfl, trivial⟩⟩, trivial⟩) (by rfl) (nk rfl)) key)
    refine ap_let (g := 3) (listed := #[true, true, true, true, false, false, false]) [(2, .ref 0 0), (3, .ref 1 0), (4, .int .i64 0), (20, .v (.arr 6 (.int .i64)) r2.1), (22, .v (.arr 6 (.int .i64)) r11.1), (23, .int .i64 r1.1)] [(0, .var [.arr (.int .i64) 6 ((List.replicate 6 0) : (List Int))]), (1, .var [.arr (.int .i64) 6 ((List.replicate 6 0) : (List Int))])] ?_ (fun k14 => ?_)
    · refine ap_all [4] (by kernel_rfl) ⟨?_, trivial⟩
      refine apo_ao rfl ?_
      refine ao_effS trivial (e_store rfl rfl rfl rfl Try.sizeOf43 rfl) ?_
      refine ao_nil ?_
      refine ap_in ?_
      exact ap_go (by kernel_rfl) (sub_mk idn (by exact ⟨⟨_, rfl, ad_ren rfl⟩, ⟨_, rfl, ad_ren rfl⟩, ⟨_, rfl, ad_ren rfl⟩, ⟨_, rfl, ad_ren rfl⟩, ⟨_, rfl, ad_ren rfl⟩, trivial⟩) (by exact ⟨⟨_, rfl, ⟨rfl, trivial⟩⟩, ⟨_, rfl, ⟨rfl, trivial⟩⟩, trivial⟩) (by rfl) (nk rfl)) k15
    refine ap_let (g := 4) (listed := #[true, true, false, true, false, false, false]) [(2, .ref 0 0), (3, .ref 1 0), (4, .int .i64 0), (20, .v (.arr 6 (.int .i64)) r2.1), (21, .ref 2 0), (23, .int .i64 r1.1)] [(0, .var [.arr (.int .i64) 6 ((List.replicate 6 0) : (List Int))]), (1, .var [.arr (.int .i64) 6 ((List.replicate 6 0) : (List Int))]), (2, .var [.cell (.v (.slice (.int .u8)) x0), .cell (.int .i64 r3.2.1), .cell (.int .u64 r3.2.2)])] ?_ (fun k13 => ?_)
    · refine ap_all [2] (by kernel_rfl) ⟨?_, trivial⟩
      refine apo_ao rfl ?_
      refine ao_callV [2] 3 trivial (c_spec_l1Cur_little (is_mk r11h)) Try.func113 rfl rfl rfl rfl rfl ⟨rfl, trivial⟩ ⟨⟨_, rfl, ⟨ad_ren rfl, rfl, ad_ren rfl, rfl, ad_ren rfl, rfl, trivial⟩⟩, trivial⟩ rfl rfl rfl rfl rfl rfl rfl (fun r' H' hr => ?_)
      obtain ⟨rfl, rfl⟩ := hr
      refine ao_norm (y := .v (.arr 6 (.int .i64)) r11.1) (H' := [(0, .var [.arr (.int .i64) 6 ((List.replicate 6 0) : (List Int))]), (1, .var [.arr (.int .i64) 6 ((List.replicate 6 0) : (List Int))]), (2, .var [.cell (.v (.slice (.int .u8)) x0), .cell (.int .i64 r11.2.1), .cell (.int .u64 r11.2.2)])]) rfl rfl ?_
      refine ao_nil ?_
      refine ap_in ?_
      exact ap_go (by kernel_rfl) (sub_mk idn (by exact ⟨⟨_, rfl, ad_ren rfl⟩, ⟨_, rfl, ad_ren rfl⟩, ⟨_, rfl, ad_ren rfl⟩, ⟨_, rfl, ad_ren rfl⟩, ⟨_, rfl, ad_ren rfl⟩, ⟨_, rfl, ad_ren rfl⟩, trivial⟩) (by exact ⟨⟨_, rfl, ⟨rfl, trivial⟩⟩, ⟨_, rfl, ⟨rfl, trivial⟩⟩, trivial⟩) (by rfl) (nk rfl)) k14
    refine ap_let (g := 4) (listed := #[false, true, true, true, false, false, false]) [(2, .ref 0 0), (3, .ref 1 0), (4, .int .i64 0), (7, .ref 2 0), (22, .v (.arr 6 (.int .i64)) r11.1), (23, .int .i64 r1.1)] [(0, .var [.arr (.int .i64) 6 ((List.replicate 6 0) : (List Int))]), (1, .var [.arr (.int .i64) 6 ((List.replicate 6 0) : (List Int))]), (2, .var [.arr (.int .i64) 6 r2.1])] ?_ (fun k16 => ?_)
    · refine ap_all [0] (by kernel_rfl) ⟨?_, trivial⟩
      refine apo_ao rfl ?_
      refine ao_read trivial (r_load_arr rfl Try.isAgg43 Try.sizeOf43 rfl rfl rfl) rfl ?_
      refine ao_nil ?_
      refine ap_in ?_
      exact ap_go (by kernel_rfl) (sub_mk idn (by exact ⟨⟨_, rfl, ad_ren rfl⟩, ⟨_, rfl, ad_ren rfl⟩, ⟨_, rfl, ad_ren rfl⟩, ⟨_, rfl, ad_ren rfl⟩, ⟨_, rfl, ad_ren rfl⟩, ⟨_, rfl, ad_ren rfl⟩, trivial⟩) (by exact ⟨⟨_, rfl, ⟨rfl, trivial⟩⟩, ⟨_, rfl, ⟨rfl, trivial⟩⟩, trivial⟩) (by rfl) (nk rfl)) k14
    refine ap_let (g := 5) (listed := #[false, true, false, true, false, false, false]) [(2, .ref 0 0), (3, .ref 1 0), (4, .int .i64 0), (7, .ref 2 0), (21, .ref 3 0), (23, .int .i64 r1.1)] [(0, .var [.arr (.int .i64) 6 ((List.replicate 6 0) : (List Int))]), (1, .var [.arr (.int .i64) 6 ((List.replicate 6 0) : (List Int))]), (2, .var [.arr (.int .i64) 6 r2.1]), (3, .var [.cell (.v (.slice (.int .u8)) x0), .cell (.int .i64 r3.2.1), .cell (.int .u64 r3.2.2)])] ?_ (fun k12 => ?_)
    · refine ap_all [0, 2] (by kernel_rfl) ⟨?_, ?_, trivial⟩
      · refine apo_ao rfl ?_
        refine ao_read trivial (r_load_arr rfl Try.isAgg43 Try.sizeOf43 rfl rfl rfl) rfl ?_
        refine ao_nil ?_
        refine ap_in ?_
        exact ap_go (by kernel_rfl) (sub_mk (rn [(2, 3)]) (by exact ⟨⟨_, rfl, ad_ren rfl⟩, ⟨_, rfl, ad_ren rfl⟩, ⟨_, rfl, ad_ren rfl⟩, ⟨_, rfl, ad_ren rfl⟩, ⟨_, rfl, ad_ren rfl⟩, ⟨_, rfl, ad_ren rfl⟩, trivial⟩) (by exact ⟨⟨_, rfl, ⟨rfl, trivial⟩⟩, ⟨_, rfl, ⟨rfl, trivial⟩⟩, ⟨_, rfl, ⟨ad_ren rfl, rfl, ad_ren rfl, rfl, ad_ren rfl, rfl, trivial⟩⟩, trivial⟩) (by rfl) (nk rfl)) k13
      · refine apo_ao rfl ?_
        refine ao_callV [3] 4 trivial (c_spec_l1Cur_little (is_mk r11h)) Try.func113 rfl rfl rfl rfl rfl ⟨rfl, trivial⟩ ⟨⟨_, rfl, ⟨ad_ren rfl, rfl, ad_ren rfl, rfl, ad_ren rfl, rfl, trivial⟩⟩, trivial⟩ rfl rfl rfl rfl rfl rfl rfl (fun r' H' hr => ?_)
        obtain ⟨rfl, rfl⟩ := hr
        refine ao_norm (y := .v (.arr 6 (.int .i64)) r11.1) (H' := [(0, .var [.arr (.int .i64) 6 ((List.replicate 6 0) : (List Int))]), (1, .var [.arr (.int .i64) 6 ((List.replicate 6 0) : (List Int))]), (2, .var [.arr (.int .i64) 6 r2.1]), (3, .var [.cell (.v (.slice (.int .u8)) x0), .cell (.int .i64 r11.2.1), .cell (.int .u64 r11.2.2)])]) rfl rfl ?_
        refine ao_nil ?_
        refine ap_in ?_
        exact ap_go (by kernel_rfl) (sub_mk idn (by exact ⟨⟨_, rfl, ad_ren rfl⟩, ⟨_, rfl, ad_ren rfl⟩, ⟨_, rfl, ad_ren rfl⟩, ⟨_, rfl, ad_ren rfl⟩, ⟨_, rfl, ad_ren rfl⟩, ⟨_, rfl, ad_ren rfl⟩, trivial⟩) (by exact ⟨⟨_, rfl, ⟨rfl, trivial⟩⟩, ⟨_, rfl, ⟨rfl, trivial⟩⟩, ⟨_, rfl, ⟨rfl, trivial⟩⟩, trivial⟩) (by rfl) (nk rfl)) k16
    refine ap_pure 1 (by kernel_rfl) (fun _ _ _ h => h) rfl (by kernel_rfl) trivial (rp_move rfl) rfl ?_
    refine ap_pure 3 (by kernel_rfl) (fun _ _ _ h => h) rfl (by kernel_rfl) trivial (rp_move rfl) rfl ?_
    exact ap_go (by kernel_rfl) (sub_mk (rn [(2, 3), (3, 2)]) (by exact ⟨⟨_, rfl, ad_ren rfl⟩, ⟨_, rfl, ad_ren rfl⟩, ⟨_, rfl, ad_ren rfl⟩, ⟨_, rfl, ad_ren rfl⟩, ⟨_, rfl, ad_ren rfl⟩, ⟨_, rfl, ad_ren rfl⟩, trivial⟩) (by exact ⟨⟨_, rfl, ⟨rfl, trivial⟩⟩, ⟨_, rfl, ⟨rfl, trivial⟩⟩, ⟨_, rfl, ⟨rfl, trivial⟩⟩, ⟨_, rfl, ⟨ad_ren rfl, rfl, ad_ren rfl, rfl, ad_ren rfl, rfl, trivial⟩⟩, trivial⟩) (by rfl) (nk rfl)) k12
theorem c_spec_DrawPlayRace {fu : Nat} {x0 : (List Int)} {r : (List Int) × (List Int) × Int × (List Int)} (h : Is (p_spec_DrawPlayRace fu x0) (some r)) :
    ACalls Try.prog 43 [.v (.slice (.int .u8)) x0] [] (fun r' H' => r' = .tup [.v (.arr 6 (.int .i64)) r.1, .v (.arr 6 (.int .i64)) r.2.1, .int .i64 r.2.2.1, .os 0] ∧ H' = [(0, .row (.int .i64) r.2.2.2)]) := by
  unfold p_spec_DrawPlayRace at h
  refine ac_enter ⟨26, 0⟩ Try.func43 rfl rfl rfl rfl rfl (fun Γ => ?_)
  refine sl_len_m 0 (x0.length : Int) rfl rfl (fun hl0 => ?_)
  refine aw_seq ?_
  refine aw_region ?_
  refine ao_eff trivial (e_alloc 0 (y := .v (.arr 6 (.int .i64)) ((List.replicate 6 0) : (List Int))) Try.zeroValue43 (fun ρ h M => ra_zero_arr (t := (.int .i64)) rfl) rfl rfl rfl rfl rfl) rfl ?_
  refine ao_eff trivial (e_alloc 1 (y := .v (.arr 6 (.int .i64)) ((List.replicate 6 0) : (List Int))) Try.zeroValue43 (fun ρ h M => ra_zero_arr (t := (.int .i64)) rfl) rfl rfl rfl rfl rfl) rfl ?_
  refine ao_read trivial (r_assign rfl) rfl ?_
  refine ao_read trivial (r_assign rfl) rfl ?_
  refine ao_nil ?_
  refine aq_then ?_
  refine aw_seq ?_
  refine aw_region ?_
  refine ao_read trivial (r_move rfl) rfl ?_
  refine ao_read trivial (r_build_st (l := [(0, .tmp 11)]) (cs := [.cell (.v (.slice (.int .u8)) x0), .cell (.int .i64 0), .cell (.int .u64 0)]) (.pair (.slice (.int .u8)) (.pair (.int .i64) (.pair (.int .u64) .unit))) [(0, 1), (1, 1), (2, 1)] Try.underlying105 Try.zeroValue105 rfl ⟨rfl, Try.sizeOf22, rfl, Try.sizeOf3, rfl, Try.sizeOf103, trivial⟩ rfl rfl rfl) rfl ?_
  refine ao_eff trivial (e_box 2 rfl rfl rfl rfl rfl rfl) rfl ?_
  refine ao_read trivial (r_assign rfl) rfl ?_
  refine ao_nil ?_
  refine aq_then ?_
  refine aw_seq ?_
  refine aw_region ?_
  refine ao_read trivial (r_move rfl) rfl ?_
  obtain ⟨r1, r1h, h⟩ := is_bind h
  refine ao_callV [2] 3 trivial (c_spec_l1Cur_places (is_mk r1h)) Try.func121 rfl rfl rfl rfl rfl ⟨rfl, trivial⟩ ⟨⟨_, rfl, ⟨ad_ren rfl, rfl, ad_ren rfl, rfl, ad_ren rfl, rfl, trivial⟩⟩, trivial⟩ rfl rfl rfl rfl rfl rfl rfl (fun r' H' hr => ?_)
  obtain ⟨rfl, rfl⟩ := hr
  refine ao_norm (y := .os 3) (H' := [(1, .var [.arr (.int .i64) 6 ((List.replicate 6 0) : (List Int))]), (0, .var [.arr (.int .i64) 6 ((List.replicate 6 0) : (List Int))]), (2, .var [.cell (.v (.slice (.int .u8)) x0), .cell (.int .i64 r1.2.1), .cell (.int .u64 r1.2.2)]), (3, .row (.int .i64) r1.1)]) rfl rfl ?_
  refine row_len_o 3 (r1.1.length : Int) rfl rfl (fun hr2 => ?_)
  refine ao_read trivial (r_assign rfl) rfl ?_
  refine ao_nil ?_
  refine aq_then ?_
  refine aw_seq ?_
  refine aw_region ?_
  refine ao_read trivial (r_move rfl) rfl ?_
  obtain ⟨r3, r3h, h⟩ := is_bind h
  refine ao_scall trivial (scall (c_spec_DrawFirstWins (is_mk r3h)) rfl Try.func56 rfl rfl rfl rfl (fun σ => ⟨ad_ren rfl, trivial⟩)) rfl ?_
  refine ao_read trivial (r_move rfl) rfl ?_
  refine ao_read trivial (r_extract rfl rfl) rfl ?_
  refine ao_read trivial (r_extract rfl rfl) rfl ?_
  refine ao_read trivial (r_extract rfl rfl) rfl ?_
  refine ao_eff trivial (e_alloc 4 (y := .v (.arr 6 (.int .i64)) ((List.replicate 6 0) : (List Int))) Try.zeroValue43 (fun ρ h M => ra_zero_arr (t := (.int .i64)) rfl) rfl rfl rfl rfl rfl) rfl ?_
  refine ao_eff trivial (e_alloc 5 (y := .v (.arr 6 (.int .i64)) ((List.replicate 6 0) : (List Int))) Try.zeroValue43 (fun ρ h M => ra_zero_arr (t := (.int .i64)) rfl) rfl rfl rfl rfl rfl) rfl ?_
  refine ao_effS trivial (e_store rfl rfl rfl rfl Try.sizeOf43 rfl) ?_
  refine ao_effS trivial (e_store rfl rfl rfl rfl Try.sizeOf43 rfl) ?_
  refine ao_read trivial (r_assign rfl) rfl ?_
  refine ao_nil ?_
  refine aq_then ?_
  refine aw_seq ?_
  refine aw_drawP 8 rfl (by kernel_rfl) ?_
  refine ap_to [(2, .ref 0 0), (3, .ref 1 0), (4, .int .i64 r3.2.2), (5, .os 2)] [(0, .var [.arr (.int .i64) 6 r3.1]), (1, .var [.arr (.int .i64) 6 r3.2.1]), (2, .row (.int .i64) r1.1)] ?_ (fun key => ?_)
  · refine aq_then ?_
    refine aw_ret ?_
    refine aq_ret ?_
    obtain rfl := is_some h
    exact aq_finx (l := [.cell 2 43, .cell 3 43, .tmp 4, .tmp 5]) (xs := [.v (.arr 6 (.int .i64)) r3.1, .v (.arr 6 (.int .i64)) r3.2.1, .int .i64 r3.2.2, .os 2]) (rn [(0, 2)]) [.v (.arr 6 (.int .i64)) r3.1, .v (.arr 6 (.int .i64)) r3.2.1, .int .i64 r3.2.2, .os 0] [(0, .row (.int .i64) r1.1)] rfl (by exact ⟨⟨⟨_, _, rfl⟩, r_load_arr rfl Try.isAgg43 Try.sizeOf43 rfl rfl rfl⟩, ⟨⟨_, _, rfl⟩, r_load_arr rfl Try.isAgg43 Try.sizeOf43 rfl rfl rfl⟩, rfl, rfl, trivial⟩) (by exact ⟨ad_ren rfl, ad_ren rfl, ad_ren rfl, ad_ren rfl, trivial⟩) (by exact ⟨⟨_, rfl, rfl⟩, trivial⟩) rfl (nk rfl) rfl rfl ⟨rfl, rfl⟩
  refine ap_let (g := 3) (listed := #[true, true, true, true, true, false, false, false]) [(2, .ref 0 0), (3, .ref 1 0), (4, .int .i64 0), (5, .nilsl), (23, .v (.arr 6 (.int .i64)) r3.2.1), (24, .int .i64 r3.2.2), (25, .os 2)] [(0, .var [.arr (.int .i64) 6 r3.1]), (1, .var [.arr (.int .i64) 6 ((List.replicate 6 0) : (List Int))]), (2, .row (.int .i64) r1.1)] ?_ (fun k7 => ?_)
  · refine ap_all [5] (by kernel_rfl) ⟨?_, trivial⟩
    refine apo_ao rfl ?_
    refine ao_effS trivial (e_store rfl rfl rfl rfl Try.sizeOf43 rfl) ?_
    refine ao_nil ?_
    refine ap_in ?_
    refine ap_pure 6 (by kernel_rfl) (fun _ _ _ h => h) rfl (by kernel_rfl) trivial (rp_assign rfl) rfl ?_
    refine ap_pure 7 (by kernel_rfl) (fun _ _ _ h => h) rfl (by kernel_rfl) trivial (rp_assign rfl) rfl ?_
    exact ap_end (by kernel_rfl) (AQ.sub (sub_mk idn (by exact ⟨⟨_, rfl, ad_ren rfl⟩, ⟨_, rfl, ad_ren rfl⟩, ⟨_, rfl, ad_ren rfl⟩, ⟨_, rfl, ad_ren rfl⟩, trivial⟩) (by exact ⟨⟨_, rfl, ⟨rfl, trivial⟩⟩, ⟨_, rfl, ⟨rfl, trivial⟩⟩, ⟨_, rfl, rfl⟩, trivial⟩) (by rfl) (nk rfl)) key)
  refine ap_let (g := 4) (listed := #[true, true, true, true, false, false, false, false]) [(2, .ref 0 0), (3, .ref 1 0), (4, .int .i64 0), (5, .nilsl), (22, .v (.arr 6 (.int .i64)) r3.1), (23, .v (.arr 6 (.int .i64)) r3.2.1), (24, .int .i64 r3.2.2), (25, .os 2)] [(0, .var [.arr (.int .i64) 6 ((List.replicate 6 0) : (List Int))]), (1, .var [.arr (.int .i64) 6 ((List.replicate 6 0) : (List Int))]), (2, .row (.int .i64) r1.1)] ?_ (fun k6 => ?_)
  · refine ap_all [4] (by kernel_rfl) ⟨?_, trivial⟩
    refine apo_ao rfl ?_
    refine ao_effS trivial (e_store rfl rfl rfl rfl Try.sizeOf43 rfl) ?_
    refine ao_nil ?_
    refine ap_in ?_
    exact ap_go (by kernel_rfl) (sub_mk idn (by exact ⟨⟨_, rfl, ad_ren rfl⟩, ⟨_, rfl, ad_ren rfl⟩, ⟨_, rfl, ad_ren rfl⟩, ⟨_, rfl, ad_ren rfl⟩, ⟨_, rfl, ad_ren rfl⟩, ⟨_, rfl, ad_ren rfl⟩, ⟨_, rfl, ad_ren rfl⟩, trivial⟩) (by exact ⟨⟨_, rfl, ⟨rfl, trivial⟩⟩, ⟨_, rfl, ⟨rfl, trivial⟩⟩, ⟨_, rfl, rfl⟩, trivial⟩) (by rfl) (nk rfl)) k7
  refine ap_let (g := 4) (listed := #[true, false, true, true, true, false, false, false]) [(2, .ref 0 0), (3, .ref 1 0), (4, .int .i64 0), (5, .nilsl), (9, .ref 2 0), (24, .int .i64 r3.2.2), (25, .os 3)] [(0, .var [.arr (.int .i64) 6 r3.1]), (1, .var [.arr (.int .i64) 6 ((List.replicate 6 0) : (List Int))]), (2, .var [.arr (.int .i64) 6 r3.2.1]), (3, .row (.int .i64) r1.1)] ?_ (fun k8 => ?_)
  · refine ap_all [1] (by kernel_rfl) ⟨?_, trivial⟩
    refine apo_ao rfl ?_
    refine ao_read trivial (r_load_arr rfl Try.isAgg43 Try.sizeOf43 rfl rfl rfl) rfl ?_
    refine ao_nil ?_
    refine ap_in ?_
    exact ap_go (by kernel_rfl) (sub_mk (rn [(2, 3)]) (by exact ⟨⟨_, rfl, ad_ren rfl⟩, ⟨_, rfl, ad_ren rfl⟩, ⟨_, rfl, ad_ren rfl⟩, ⟨_, rfl, ad_ren rfl⟩, ⟨_, rfl, ad_ren rfl⟩, ⟨_, rfl, ad_ren rfl⟩, ⟨_, rfl, ad_ren rfl⟩, trivial⟩) (by exact ⟨⟨_, rfl, ⟨rfl, trivial⟩⟩, ⟨_, rfl, ⟨rfl, trivial⟩⟩, ⟨_, rfl, rfl⟩, trivial⟩) (by rfl) (nk rfl)) k7
  refine ap_let (g := 5) (listed := #[true, false, true, true, false, false, false, false]) [(2, .ref 0 0), (3, .ref 1 0), (4, .int .i64 0), (5, .nilsl), (9, .ref 2 0), (22, .v (.arr 6 (.int .i64)) r3.1), (24, .int .i64 r3.2.2), (25, .os 3)] [(0, .var [.arr (.int .i64) 6 ((List.replicate 6 0) : (List Int))]), (1, .var [.arr (.int .i64) 6 ((List.replicate 6 0) : (List Int))]), (2, .var [.arr (.int .i64) 6 r3.2.1]), (3, .row (.int .i64) r1.1)] ?_ (fun k5 => ?_)
  · refine ap_all [1, 4] (by kernel_rfl) ⟨?_, ?_, trivial⟩
    · refine apo_ao rfl ?_
      refine ao_read trivial (r_load_arr rfl Try.isAgg43 Try.sizeOf43 rfl rfl rfl) rfl ?_
      refine ao_nil ?_
      refine ap_in ?_
      exact ap_go (by kernel_rfl) (sub_mk (rn [(2, 3)]) (by exact ⟨⟨_, rfl, ad_ren rfl⟩, ⟨_, rfl, ad_ren rfl⟩, ⟨_, rfl, ad_ren rfl⟩, ⟨_, rfl, ad_ren rfl⟩, ⟨_, rfl, ad_ren rfl⟩, ⟨_, rfl, ad_ren rfl⟩, ⟨_, rfl, ad_ren rfl⟩, ⟨_, rfl, ad_ren rfl⟩, trivial⟩) (by exact ⟨⟨_, rfl, ⟨rfl, trivial⟩⟩, ⟨_, rfl, ⟨rfl, trivial⟩⟩, ⟨_, rfl, rfl⟩, trivial⟩) (by rfl) (nk rfl)) k6
    · refine apo_ao rfl ?_
      refine ao_effS trivial (e_store rfl rfl rfl rfl Try.sizeOf43 rfl) ?_
      refine ao_nil ?_
      refine ap_in ?_
      exact ap_go (by kernel_rfl) (sub_mk idn (by exact ⟨⟨_, rfl, ad_ren rfl⟩, ⟨_, rfl, ad_ren rfl⟩, ⟨_, rfl, ad_ren rfl⟩, ⟨_, rfl, ad_ren rfl⟩, ⟨_, rfl, ad_ren rfl⟩, ⟨_, rfl, ad_ren rfl⟩, ⟨_, rfl, ad_ren rfl⟩, trivial⟩) (by exact ⟨⟨_, rfl, ⟨rfl, trivial⟩⟩, ⟨_, rfl, ⟨rfl, trivial⟩⟩, ⟨_, rfl, ⟨rfl, trivial⟩⟩, ⟨_, rfl, rfl⟩, trivial⟩) (by rfl) (nk rfl)) k8
  refine ap_let (g := 5) (listed := #[false, true, true, true, false, false, false, false]) [(2, .ref 0 0), (3, .ref 1 0), (4, .int .i64 0), (5, .nilsl), (8, .ref 2 0), (23, .v (.arr 6 (.int .i64)) r3.2.1), (24, .int .i64 r3.2.2), (25, .os 3)] [(0, .var [.arr (.int .i64) 6 ((List.replicate 6 0) : (List Int))]), (1, .var [.arr (.int .i64) 6 ((List.replicate 6 0) : (List Int))]), (2, .var [.arr (.int .i64) 6 r3.1]), (3, .row (.int .i64) r1.1)] ?_ (fun k9 => ?_)
  · refine ap_all [0] (by kernel_rfl) ⟨?_, trivial⟩
    refine apo_ao rfl ?_
    refine ao_read trivial (r_load_arr rfl Try.isAgg43 Try.sizeOf43 rfl rfl rfl) rfl ?_
    refine ao_nil ?_
    refine ap_in ?_
    exact ap_go (by kernel_rfl) (sub_mk (rn [(2, 3)]) (by exact ⟨⟨_, rfl, ad_ren rfl⟩, ⟨_, rfl, ad_ren rfl⟩, ⟨_, rfl, ad_ren rfl⟩, ⟨_, rfl, ad_ren rfl⟩, ⟨_, rfl, ad_ren rfl⟩, ⟨_, rfl, ad_ren rfl⟩, ⟨_, rfl, ad_ren rfl⟩, ⟨_, rfl, ad_ren rfl⟩, trivial⟩) (by exact ⟨⟨_, rfl, ⟨rfl, trivial⟩⟩, ⟨_, rfl, ⟨rfl, trivial⟩⟩, ⟨_, rfl, rfl⟩, trivial⟩) (by rfl) (nk rfl)) k6
  refine ap_let (g := 6) (listed := #[false, false, true, true, false, false, false, false]) [(2, .ref 0 0), (3, .ref 1 0), (4, .int .i64 0), (5, .nilsl), (8, .ref 2 0), (9, .ref 3 0), (24, .int .i64 r3.2.2), (25, .os 4)] [(0, .var [.arr (.int .i64) 6 ((List.replicate 6 0) : (List Int))]), (1, .var [.arr (.int .i64) 6 ((List.replicate 6 0) : (List Int))]), (2, .var [.arr (.int .i64) 6 r3.1]), (3, .var [.arr (.int .i64) 6 r3.2.1]), (4, .row (.int .i64) r1.1)] ?_ (fun k4 => ?_)
  · refine ap_all [0, 1] (by kernel_rfl) ⟨?_, ?_, trivial⟩
    · refine apo_ao rfl ?_
      refine ao_read trivial (r_load_arr rfl Try.isAgg43 Try.sizeOf43 rfl rfl rfl) rfl ?_
      refine ao_nil ?_
      refine ap_in ?_
      exact ap_go (by kernel_rfl) (sub_mk (rn [(2, 3), (3, 4)]) (by exact ⟨⟨_, rfl, ad_ren rfl⟩, ⟨_, rfl, ad_ren rfl⟩, ⟨_, rfl, ad_ren rfl⟩, ⟨_, rfl, ad_ren rfl⟩, ⟨_, rfl, ad_ren rfl⟩, ⟨_, rfl, ad_ren rfl⟩, ⟨_, rfl, ad_ren rfl⟩, ⟨_, rfl, ad_ren rfl⟩, trivial⟩) (by exact ⟨⟨_, rfl, ⟨rfl, trivial⟩⟩, ⟨_, rfl, ⟨rfl, trivial⟩⟩, ⟨_, rfl, ⟨rfl, trivial⟩⟩, ⟨_, rfl, rfl⟩, trivial⟩) (by rfl) (nk rfl)) k5
    · refine apo_ao rfl ?_
      refine ao_read trivial (r_load_arr rfl Try.isAgg43 Try.sizeOf43 rfl rfl rfl) rfl ?_
      refine ao_nil ?_
      refine ap_in ?_
      exact ap_go (by kernel_rfl) (sub_mk (rn [(3, 4)]) (by exact ⟨⟨_, rfl, ad_ren rfl⟩, ⟨_, rfl, ad_ren rfl⟩, ⟨_, rfl, ad_ren rfl⟩, ⟨_, rfl, ad_ren rfl⟩, ⟨_, rfl, ad_ren rfl⟩, ⟨_, rfl, ad_ren rfl⟩, ⟨_, rfl, ad_ren rfl⟩, ⟨_, rfl, ad_ren rfl⟩, trivial⟩) (by exact ⟨⟨_, rfl, ⟨rfl, trivial⟩⟩, ⟨_, rfl, ⟨rfl, trivial⟩⟩, ⟨_, rfl, ⟨rfl, trivial⟩⟩, ⟨_, rfl, rfl⟩, trivial⟩) (by rfl) (nk rfl)) k9
  refine ap_pure 2 (by kernel_rfl) (fun _ _ _ h => h) rfl (by kernel_rfl) trivial (rp_move rfl) rfl ?_
  refine ap_pure 3 (by kernel_rfl) (fun _ _ _ h => h) rfl (by kernel_rfl) trivial (rp_move rfl) rfl ?_
  exact ap_go (by kernel_rfl) (sub_mk (rn [(2, 4), (3, 5), (4, 3)]) (by exact ⟨⟨_, rfl, ad_ren rfl⟩, ⟨_, rfl, ad_ren rfl⟩, ⟨_, rfl, ad_ren rfl⟩, ⟨_, rfl, ad_ren rfl⟩, ⟨_, rfl, ad_ren rfl⟩, ⟨_, rfl, ad_ren rfl⟩, ⟨_, rfl, ad_ren rfl⟩, ⟨_, rfl, ad_ren rfl⟩, trivial⟩) (by exact ⟨⟨_, rfl, ⟨rfl, trivial⟩⟩, ⟨_, rfl, ⟨rfl, trivial⟩⟩, ⟨_, rfl, ⟨rfl, trivial⟩⟩, ⟨_, rfl, ⟨rfl, trivial⟩⟩, ⟨_, rfl, rfl⟩, trivial⟩) (by rfl) (nk rfl)) k4
theorem c_impl_isGoal {x0 : Int} {r : Bool} (h : Is (p_impl_isGoal x0) r) :
    Scalar Try.prog 125 [.int .i64 x0] (.bool r) := by
  unfold p_impl_isGoal at h
  refine ac_enter ⟨5, 0⟩ Try.func125 rfl rfl rfl rfl rfl (fun Γ => ?_)
  refine aw_seq ?_
  refine aw_region ?_
  refine ao_read trivial (r_assign rfl) rfl ?_
  refine ao_nil ?_
  refine aq_then ?_
  refine aw_seq ?_
  refine aw_region ?_
  refine ao_read trivial (r_move rfl) rfl ?_
  refine ao_scall trivial (scall (c_impl_within (is_mk (rfl : p_impl_within x0 1 8 = _))) rfl Try.func101 rfl rfl rfl rfl (fun σ => ⟨ad_ren rfl, ad_ren rfl, ad_ren rfl, trivial⟩)) rfl ?_
  refine ao_read trivial (r_assign rfl) rfl ?_
  refine ao_nil ?_
  refine aq_then ?_
  refine aw_ret ?_
  refine aq_ret ?_
  obtain rfl := is_eq h
  exact aq_finx (l := [.tmp 2]) (xs := [.bool (p_impl_within x0 1 8)]) idn [.bool (p_impl_within x0 1 8)] [] rfl (by exact ⟨rfl, trivial⟩) (by exact ⟨ad_ren rfl, trivial⟩) (by exact trivial) rfl (nk rfl) rfl rfl ⟨rfl, rfl⟩
end Go.GA
