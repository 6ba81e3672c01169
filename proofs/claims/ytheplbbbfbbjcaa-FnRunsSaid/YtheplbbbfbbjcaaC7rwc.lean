/- Walks: what the Go functions compute, by the printed lines below; no further conditions. -/
import Derived.Test.YtheplbbbfbbjcaaC7rwb
namespace Go.GA
open Go Go.Proofs
set_option maxRecDepth 100000
set_option maxHeartbeats 2000000
set_option linter.unusedVariables false
set_option linter.unusedSimpArgs false
theorem c_spec_BestRunner {fu : Nat} {x0 : (List (List Int))} {x1 : Int} {r : Int × (List Int) × Bool} (h : Is (p_spec_BestRunner fu x0 x1) (some r)) :
    Scalar Try.prog 63 [.v (.slice (.arr 6 (.int .i64))) x0, .int .i64 x1] (.tup [.int .i64 r.1, .v (.arr 2 (.int .i64)) r.2.1, .bool r.2.2]) := by
  unfold p_spec_BestRunner at h
  refine ac_enter ⟨51, 0⟩ Try.func63 rfl rfl rfl rfl rfl (fun Γ => ?_)
  refine sl_len_m 0 (x0.length : Int) rfl rfl (fun hl0 => ?_)
  refine aw_seq ?_
  refine aw_region ?_
  refine ao_read trivial (r_assign rfl) rfl ?_
  refine ao_eff trivial (e_alloc 0 (y := .v (.arr 2 (.int .i64)) ((List.replicate 2 0) : (List Int))) Try.zeroValue30 (fun ρ h M => ra_zero_arr (t := (.int .i64)) rfl) rfl rfl rfl rfl rfl) rfl ?_
  refine ao_read trivial (r_assign rfl) rfl ?_
  refine ao_nil ?_
  refine aq_then ?_
  refine aw_seq ?_
  refine aw_seq ?_
  refine aw_region ?_
  refine ao_read trivial (r_move rfl) rfl ?_
  obtain ⟨r1, r1h, h⟩ := is_bind h
  refine ao_scall trivial (scall (c_spec_l3Row (is_mk r1h)) rfl Try.func136 rfl rfl rfl rfl (fun σ => ⟨ad_ren rfl, trivial⟩)) rfl ?_
  refine ao_read trivial (r_not rfl) rfl ?_
  refine ao_read trivial (r_move rfl) rfl ?_
  refine ao_readG (x := .int .i64 x1) rfl (GV.F rfl) (fun hg2 => r_move rfl) rfl ?_
  refine ao_scallG (r := .bool (p_spec_l7Goal x1)) rfl (GV.F rfl) (fun hg3 => SCall.strip 15 rfl (hg3) (scall (c_spec_l7Goal (is_mk (rfl : p_spec_l7Goal x1 = _))) rfl Try.func127 rfl rfl rfl rfl (fun σ => ⟨ad_ren rfl, trivial⟩))) rfl ?_
  refine ao_readG (x := .bool (!(p_spec_l7Goal x1))) rfl (GV.F rfl) (fun hg4 => Reads.strip 16 rfl (hg4) (r_not rfl)) rfl ?_
  refine ao_read trivial (r_orB rfl rfl) rfl ?_
  refine ao_nil ?_
  refine aq_then ?_
  refine aw_cond rfl (fun hb5 => ?_) (fun hb5 => ?_)
  · replace h := is_if hb5 h
    refine aw_seq ?_
    refine aw_region ?_
    refine ao_read trivial (r_build_zero (t := (.int .i64)) Try.underlying30 Try.zeroValue30 Try.sizeOf3 rfl) rfl ?_
    refine ao_read trivial (r_assign rfl) rfl ?_
    refine ao_effS trivial (e_store rfl rfl rfl rfl Try.sizeOf30 rfl) ?_
    refine ao_read trivial (r_assign rfl) rfl ?_
    refine ao_nil ?_
    refine aq_then ?_
    refine aw_ret ?_
    refine aq_then_ret ?_
    refine aq_ret ?_
    obtain rfl := is_some h
    exact aq_finx (l := [.tmp 4, .cell 5 30, .tmp 6]) (xs := [.int .i64 0, .v (.arr 2 (.int .i64)) ((List.replicate 2 0) : (List Int)), .bool false]) idn [.int .i64 0, .v (.arr 2 (.int .i64)) ((List.replicate 2 0) : (List Int)), .bool false] [] rfl (by exact ⟨rfl, ⟨⟨_, _, rfl⟩, r_load_arr rfl Try.isAgg30 Try.sizeOf30 rfl rfl rfl⟩, rfl, trivial⟩) (by exact ⟨ad_ren rfl, ad_ren rfl, ad_ren rfl, trivial⟩) (by exact trivial) rfl (nk rfl) rfl rfl ⟨rfl, rfl⟩
  · obtain ⟨q6, q7⟩ := or_f hb5
    replace h := is_else (ne_t hb5) h
    refine aw_skip ?_
    refine aq_then ?_
    refine aw_seq ?_
    refine aw_region ?_
    refine ao_read trivial (r_build_zero (t := (.int .i64)) Try.underlying30 Try.zeroValue30 Try.sizeOf3 rfl) rfl ?_
    refine ao_eff trivial (e_alloc 1 (y := .v (.arr 2 (.int .i64)) ((List.replicate 2 0) : (List Int))) Try.zeroValue30 (fun ρ h M => ra_zero_arr (t := (.int .i64)) rfl) rfl rfl rfl rfl rfl) rfl ?_
    refine ao_read trivial (r_assign rfl) rfl ?_
    refine ao_effS trivial (e_store rfl rfl rfl rfl Try.sizeOf30 rfl) ?_
    refine ao_nil ?_
    refine aq_then ?_
    refine aw_seq ?_
    refine aw_seq ?_
    refine aw_region ?_
    refine ao_read trivial (r_assign rfl) rfl ?_
    refine ao_nil ?_
    refine aq_then ?_
    refine aw_block ?_
    refine aw_loop (AL.sub (fr' := [(0, .v (.slice (.arr 6 (.int .i64))) x0), (1, .int .i64 x1), (5, .ref 0 0), (7, .int .i64 0), (8, .ref 1 0), (9, .int .i64 0)]) (H' := [(0, .var [.arr (.int .i64) 2 ((List.replicate 2 0) : (List Int))]), (1, .var [.arr (.int .i64) 2 ((List.replicate 2 0) : (List Int))])]) (sub_mk idn (by exact ⟨⟨_, rfl, ad_ren rfl⟩, ⟨_, rfl, ad_ren rfl⟩, ⟨_, rfl, ad_ren rfl⟩, ⟨_, rfl, ad_ren rfl⟩, ⟨_, rfl, ad_ren rfl⟩, ⟨_, rfl, ad_ren rfl⟩, trivial⟩) (by exact ⟨⟨_, rfl, ⟨rfl, trivial⟩⟩, ⟨_, rfl, ⟨rfl, trivial⟩⟩, trivial⟩) (by rfl) (nk rfl)) (al_cnt (fun i9 (s8 : Int × (List Int)) => [(0, .v (.slice (.arr 6 (.int .i64))) x0), (1, .int .i64 x1), (5, .ref 0 0), (7, .int .i64 s8.1), (8, .ref 1 0), (9, .int .i64 i9)]) (fun i9 (s8 : Int × (List Int)) => [(0, .var [.arr (.int .i64) 2 ((List.replicate 2 0) : (List Int))]), (1, .var [.arr (.int .i64) 2 s8.2])]) (fun d i9 (s8 : Int × (List Int)) => d = Int.toNat ((x0.length : Int) - i9) ∧ 0 ≤ s8.1 ∧ 0 ≤ i9 ∧ i9 ≤ (x0.length : Int)) h ⟨rfl, (by (try simp only [List.length_set, List.length_append, List.length_cons, List.length_nil, List.length_replicate, List.length_take, List.length_drop]) <;> omega), (by (try simp only [List.length_set, List.length_append, List.length_cons, List.length_nil, List.length_replicate, List.length_take, List.length_drop]) <;> omega), (by (try simp only [List.length_set, List.length_append, List.length_cons, List.length_nil, List.length_replicate, List.length_take, List.length_drop]) <;> omega)⟩ (fun d10 i9 s8 hI h ih10 => ?_)))
    obtain ⟨hd, _, _, _⟩ := hI
    refine al_round ?_
    refine aw_seq ?_
    refine aw_seq ?_
    refine aw_region ?_
    refine ao_read trivial (r_move rfl) rfl ?_
    refine ao_read trivial (r_move rfl) rfl ?_
    refine ao_read trivial (r_len_vm (x0.length : Int) Try.underlying24 rfl rfl) rfl ?_
    refine ao_read trivial (r_lss rfl rfl) rfl ?_
    refine ao_nil ?_
    refine aq_then ?_
    refine aw_cond rfl (fun hb12 => ?_) (fun hb12 => ?_)
    · have q13 := d_t hb12
      obtain ⟨d10, rfl⟩ : ∃ e, d10 = e + 1 := ⟨d10 - 1, by omega⟩
      replace h := is_cntS h
      refine aw_skip ?_
      refine aq_then ?_
      refine aw_seq ?_
      refine aw_block ?_
      refine aw_seq ?_
      refine aw_seq ?_
      refine aw_region ?_
      refine ao_read trivial (r_move rfl) rfl ?_
      refine ao_read trivial (r_move rfl) rfl ?_
      refine ao_read trivial (r_idxAddr (t := (.arr 6 (.int .i64))) Try.underlying24 Try.sizeOf43 rfl rfl (show 0 ≤ i9 from by omega) (show i9 < (x0.length : Int) from by omega)) rfl ?_
      refine ao_read trivial (r_load_c (t := (.arr 6 (.int .i64))) Try.isAgg43 Try.sizeOf43 rfl) rfl ?_
      obtain ⟨r15, r15h, h⟩ := is_bind h
      refine ao_scall trivial (scall (c_spec_l7Die (is_mk r15h)) rfl Try.func126 rfl rfl rfl rfl (fun σ => ⟨ad_ren rfl, trivial⟩)) rfl ?_
      refine ao_read trivial (r_not rfl) rfl ?_
      refine ao_nil ?_
      refine aq_then ?_
      refine aw_cond rfl (fun hb16 => ?_) (fun hb16 => ?_)
      · replace h := is_else (ne_t (not_t hb16)) h
        refine aw_seq ?_
        refine aw_region ?_
        refine ao_read trivial (r_build_zero (t := (.int .i64)) Try.underlying30 Try.zeroValue30 Try.sizeOf3 rfl) rfl ?_
        refine ao_read trivial (r_assign rfl) rfl ?_
        refine ao_effS trivial (e_store rfl rfl rfl rfl Try.sizeOf30 rfl) ?_
        refine ao_read trivial (r_assign rfl) rfl ?_
        refine ao_nil ?_
        refine aq_then ?_
        refine aw_ret ?_
        refine aq_then_ret ?_
        refine aq_in_ret ?_
        refine aq_then_ret ?_
        refine aq_then_ret ?_
        refine aq_in_ret ?_
        refine aq_then_ret ?_
        refine aq_ret ?_
        obtain rfl := is_some h
        exact aq_finx (l := [.tmp 4, .cell 5 30, .tmp 6]) (xs := [.int .i64 0, .v (.arr 2 (.int .i64)) ((List.replicate 2 0) : (List Int)), .bool false]) idn [.int .i64 0, .v (.arr 2 (.int .i64)) ((List.replicate 2 0) : (List Int)), .bool false] [] rfl (by exact ⟨rfl, ⟨⟨_, _, rfl⟩, r_load_arr rfl Try.isAgg30 Try.sizeOf30 rfl rfl rfl⟩, rfl, trivial⟩) (by exact ⟨ad_ren rfl, ad_ren rfl, ad_ren rfl, trivial⟩) (by exact trivial) rfl (nk rfl) rfl rfl ⟨rfl, rfl⟩
      · replace h := is_if (not_f hb16) h
        refine aw_skip ?_
        refine aq_then ?_
        refine aw_seq ?_
        refine aw_region ?_
        refine ao_read trivial (r_move rfl) rfl ?_
        refine ao_read trivial (r_move rfl) rfl ?_
        refine ao_read trivial (r_idxAddr (t := (.arr 6 (.int .i64))) Try.underlying24 Try.sizeOf43 rfl rfl (show 0 ≤ i9 from by omega) (show i9 < (x0.length : Int) from by omega)) rfl ?_
        refine ao_read trivial (r_load_c (t := (.arr 6 (.int .i64))) Try.isAgg43 Try.sizeOf43 rfl) rfl ?_
        refine ao_read trivial (r_move rfl) rfl ?_
        obtain ⟨r17, r17h, h⟩ := is_bind h
        refine ao_scall trivial (scall (c_spec_l7Mean (is_mk r17h)) rfl Try.func132 rfl rfl rfl rfl (fun σ => ⟨ad_ren rfl, ad_ren rfl, trivial⟩)) rfl ?_
        refine ao_eff trivial (e_alloc 2 (y := .v (.arr 2 (.int .i64)) ((List.replicate 2 0) : (List Int))) Try.zeroValue30 (fun ρ h M => ra_zero_arr (t := (.int .i64)) rfl) rfl rfl rfl rfl rfl) rfl ?_
        refine ao_effS trivial (e_store rfl rfl rfl rfl Try.sizeOf30 rfl) ?_
        refine ao_nil ?_
        refine aq_then ?_
        refine aw_seq ?_
        refine aw_region ?_
        refine ao_read trivial (r_move rfl) rfl ?_
        refine ao_read trivial (r_eql rfl rfl) rfl ?_
        refine ao_read trivial (r_move rfl) rfl ?_
        refine ao_readG (x := .v (.arr 2 (.int .i64)) r17) rfl (GV.F rfl) (fun hg18 => by
              have q19 := d_f (not_t hg18)
              exact r_load_arr rfl Try.isAgg30 Try.sizeOf30 rfl rfl rfl) rfl ?_
        refine ao_readG (x := .v (.arr 2 (.int .i64)) s8.2) rfl (GV.F rfl) (fun hg20 => by
              have q21 := d_f (not_t hg20)
              exact r_load_arr rfl Try.isAgg30 Try.sizeOf30 rfl rfl rfl) rfl ?_
        refine ao_scallG (r := .bool (p_spec_l2Less r17 s8.2)) rfl (GV.F rfl) (fun hg22 => by
              have q23 := d_f (not_t hg22)
              exact SCall.strip 43 rfl (hg22) (SCall.strip 44 rfl (hg22) (scall (c_spec_l2Less (is_mk (rfl : p_spec_l2Less r17 s8.2 = _))) rfl Try.func120 rfl rfl rfl rfl (fun σ => ⟨ad_ren rfl, ad_ren rfl, trivial⟩)))) rfl ?_
        refine ao_read trivial (r_orB rfl rfl) rfl ?_
        refine ao_nil ?_
        refine aq_then ?_
        refine aw_cond rfl (fun hb24 => ?_) (fun hb24 => ?_)
        · replace h := is_if hb24 h
          refine aw_seq ?_
          refine aw_region ?_
          refine ao_read trivial (r_move rfl) rfl ?_
          refine ao_read trivial (r_assign rfl) rfl ?_
          refine ao_nil ?_
          refine aq_then ?_
          refine aw_region ?_
          refine ao_read trivial (r_load_arr rfl Try.isAgg30 Try.sizeOf30 rfl rfl rfl) rfl ?_
          refine ao_effS trivial (e_store rfl rfl rfl rfl Try.sizeOf30 rfl) ?_
          refine ao_nil ?_
          refine aq_in ?_
          refine aq_then ?_
          refine aw_region ?_
          refine ao_read trivial (r_move rfl) rfl ?_
          refine ao_read trivial (r_addI rfl rfl (wrap_id (by omega) (by omega))) rfl ?_
          refine ao_read trivial (r_assign rfl) rfl ?_
          refine ao_nil ?_
          exact aq_again (AL.sub (sub_mk idn (by exact ⟨⟨_, rfl, ad_ren rfl⟩, ⟨_, rfl, ad_ren rfl⟩, ⟨_, rfl, ad_ren rfl⟩, ⟨_, rfl, ad_ren rfl⟩, ⟨_, rfl, ad_ren rfl⟩, ⟨_, rfl, ad_ren rfl⟩, trivial⟩) (by exact ⟨⟨_, rfl, ⟨rfl, trivial⟩⟩, ⟨_, rfl, ⟨rfl, trivial⟩⟩, trivial⟩) (by rfl) (nk rfl)) (ih10 d10 (i9 + 1) (i9, r17) (by omega) ⟨by omega, (by (try simp only [List.length_set, List.length_append, List.length_cons, List.length_nil, List.length_replicate, List.length_take, List.length_drop]) <;> omega), (by (try simp only [List.length_set, List.length_append, List.length_cons, List.length_nil, List.length_replicate, List.length_take, List.length_drop]) <;> omega), (by (try simp only [List.length_set, List.length_append, List.length_cons, List.length_nil, List.length_replicate, List.length_take, List.length_drop]) <;> omega)⟩ h))
        · obtain ⟨q25, q26⟩ := or_f hb24
          have q27 := d_f q25
          replace h := is_else (ne_t hb24) h
          refine aw_skip ?_
          refine aq_in ?_
          refine aq_then ?_
          refine aw_region ?_
          refine ao_read trivial (r_move rfl) rfl ?_
          refine ao_read trivial (r_addI rfl rfl (wrap_id (by omega) (by omega))) rfl ?_
          refine ao_read trivial (r_assign rfl) rfl ?_
          refine ao_nil ?_
          exact aq_again (AL.sub (sub_mk idn (by exact ⟨⟨_, rfl, ad_ren rfl⟩, ⟨_, rfl, ad_ren rfl⟩, ⟨_, rfl, ad_ren rfl⟩, ⟨_, rfl, ad_ren rfl⟩, ⟨_, rfl, ad_ren rfl⟩, ⟨_, rfl, ad_ren rfl⟩, trivial⟩) (by exact ⟨⟨_, rfl, ⟨rfl, trivial⟩⟩, ⟨_, rfl, ⟨rfl, trivial⟩⟩, trivial⟩) (by rfl) (nk rfl)) (ih10 d10 (i9 + 1) (s8.1, s8.2) (by omega) ⟨by omega, (by (try simp only [List.length_set, List.length_append, List.length_cons, List.length_nil, List.length_replicate, List.length_take, List.length_drop]) <;> omega), (by (try simp only [List.length_set, List.length_append, List.length_cons, List.length_nil, List.length_replicate, List.length_take, List.length_drop]) <;> omega), (by (try simp only [List.length_set, List.length_append, List.length_cons, List.length_nil, List.length_replicate, List.length_take, List.length_drop]) <;> omega)⟩ h))
    · have q14 := d_f hb12
      obtain rfl : d10 = 0 := by omega
      replace h := is_cnt0 h
      refine aw_exit ?_
      refine aq_then_exit ?_
      refine aq_then_exit ?_
      refine aq_in_exit ?_
      refine aq_then ?_
      refine aw_seq ?_
      refine aw_draw 3 (by kernel_rfl) (by kernel_rfl) ?_
      refine an_read 0 (by kernel_rfl) (fun _ _ _ h => h) rfl (by kernel_rfl) trivial (r_move rfl) rfl ?_
      refine an_read 1 (by kernel_rfl) (fun _ _ _ h => h) rfl (by kernel_rfl) trivial (r_load_arr rfl Try.isAgg30 Try.sizeOf30 rfl rfl rfl) rfl ?_
      refine an_read 2 (by kernel_rfl) (fun _ _ _ h => h) rfl (by kernel_rfl) trivial (r_assign rfl) rfl ?_
      refine an_tail rfl rfl ?_
      refine ao_effS trivial (e_store rfl rfl rfl rfl Try.sizeOf30 rfl) ?_
      refine ao_read trivial (r_assign rfl) rfl ?_
      refine ao_nil ?_
      refine aq_then ?_
      refine aw_ret ?_
      refine aq_ret ?_
      obtain rfl := is_some h
      exact aq_finx (l := [.tmp 4, .cell 5 30, .tmp 6]) (xs := [.int .i64 s8.1, .v (.arr 2 (.int .i64)) s8.2, .bool true]) idn [.int .i64 s8.1, .v (.arr 2 (.int .i64)) s8.2, .bool true] [] rfl (by exact ⟨rfl, ⟨⟨_, _, rfl⟩, r_load_arr rfl Try.isAgg30 Try.sizeOf30 rfl rfl rfl⟩, rfl, trivial⟩) (by exact ⟨ad_ren rfl, ad_ren rfl, ad_ren rfl, trivial⟩) (by exact trivial) rfl (nk rfl) rfl rfl ⟨rfl, rfl⟩
theorem c_laws_rParts {x0 : (List Int)} {x1 : Int} {r : Int} (h : Is (p_laws_rParts x0 x1) r) :
    Scalar Try.prog 64 [.v (.arr 2 (.int .i64)) x0, .int .i64 x1] (.int .i64 r) := by
  unfold p_laws_rParts at h
  refine ac_enter ⟨15, 0⟩ Try.func64 rfl rfl rfl rfl rfl (fun Γ => ?_)
  refine aw_seq ?_
  refine aw_region ?_
  refine ao_eff trivial (e_box 0 rfl rfl rfl rfl rfl rfl) rfl ?_
  refine ao_read trivial (r_assign rfl) rfl ?_
  refine ao_nil ?_
  refine aq_then ?_
  refine aw_seq ?_
  refine aw_seq ?_
  refine aw_region ?_
  refine ao_read trivial (r_idxAddr_arr (i := 1) Try.underlying30 Try.sizeOf3 rfl rfl (show 0 ≤ 1 from by omega) (show 1 < (2 : Int) from by omega)) rfl ?_
  refine ao_read trivial (r_load_elema_int Try.isAgg3 Try.sizeOf3 rfl rfl rfl (show 1 < 2 from by omega)) rfl ?_
  refine ao_read trivial (r_lss rfl rfl) rfl ?_
  refine ao_nil ?_
  refine aq_then ?_
  refine aw_cond rfl (fun hb1 => ?_) (fun hb1 => ?_)
  · have q2 : (x0.getD 1 0) < 1 := d_t hb1
    replace h := is_if (d_t hb1) h
    refine aw_seq ?_
    refine aw_region ?_
    refine ao_read trivial (r_assign rfl) rfl ?_
    refine ao_nil ?_
    refine aq_then ?_
    refine aw_ret ?_
    refine aq_then_ret ?_
    refine aq_ret ?_
    obtain rfl := is_eq h
    exact aq_finx (l := [.tmp 4]) (xs := [.int .i64 (-1)]) idn [.int .i64 (-1)] [] rfl (by exact ⟨rfl, trivial⟩) (by exact ⟨ad_ren rfl, trivial⟩) (by exact trivial) rfl (nk rfl) rfl rfl ⟨rfl, rfl⟩
  · have q3 : ¬ ((x0.getD 1 0) < 1) := d_f hb1
    replace h := is_else (d_f hb1) h
    refine aw_skip ?_
    refine aq_then ?_
    refine aw_seq ?_
    refine aw_drawAll (by kernel_rfl) ?_
    refine an_read 0 (by kernel_rfl) (fun _ _ _ h => h) rfl (by kernel_rfl) trivial (r_idxAddr_arr (i := 0) Try.underlying30 Try.sizeOf3 rfl rfl (show 0 ≤ 0 from by omega) (show 0 < (2 : Int) from by omega)) rfl ?_
    refine an_read 1 (by kernel_rfl) (fun _ _ _ h => h) rfl (by kernel_rfl) trivial (r_load_elema_int Try.isAgg3 Try.sizeOf3 rfl rfl rfl (show 0 < 2 from by omega)) rfl ?_
    refine an_read 2 (by kernel_rfl) (fun _ _ _ h => h) rfl (by kernel_rfl) trivial (r_move rfl) rfl ?_
    refine an_read 3 (by kernel_rfl) (fun _ _ _ h => h) rfl (by kernel_rfl) trivial (r_idxAddr_arr (i := 1) Try.underlying30 Try.sizeOf3 rfl rfl (show 0 ≤ 1 from by omega) (show 1 < (2 : Int) from by omega)) rfl ?_
    refine an_read 4 (by kernel_rfl) (fun _ _ _ h => h) rfl (by kernel_rfl) trivial (r_load_elema_int Try.isAgg3 Try.sizeOf3 rfl rfl rfl (show 1 < 2 from by omega)) rfl ?_
    refine an_read 5 (by kernel_rfl) (fun _ _ _ h => h) rfl (by kernel_rfl) trivial (r_quo rfl rfl (show (x0.getD 1 0) ≠ 0 from by omega)) rfl ?_
    refine an_read 6 (by kernel_rfl) (fun _ _ _ h => h) rfl (by kernel_rfl) trivial (r_mul rfl rfl) rfl ?_
    refine an_read 7 (by kernel_rfl) (fun _ _ _ h => h) rfl (by kernel_rfl) trivial (r_assign rfl) rfl ?_
    refine an_done rfl ?_
    refine aq_then ?_
    refine aw_ret ?_
    refine aq_ret ?_
    obtain rfl := is_eq h
    exact aq_finx (l := [.tmp 4]) (xs := [.int .i64 (IntKind.wrap .i64 ((x0.getD 0 0) * (IntKind.wrap .i64 (x1.tdiv (x0.getD 1 0)))))]) idn [.int .i64 (IntKind.wrap .i64 ((x0.getD 0 0) * (IntKind.wrap .i64 (x1.tdiv (x0.getD 1 0)))))] [] rfl (by exact ⟨rfl, trivial⟩) (by exact ⟨ad_ren rfl, trivial⟩) (by exact trivial) rfl (nk rfl) rfl rfl ⟨rfl, rfl⟩
theorem c_laws_rPlus {fu : Nat} {x0 : (List Int)} {x1 : (List Int)} {r : (List Int)} (h : Is (p_laws_rPlus fu x0 x1) (some r)) :
    Scalar Try.prog 46 [.v (.arr 2 (.int .i64)) x0, .v (.arr 2 (.int .i64)) x1] (.v (.arr 2 (.int .i64)) r) := by
  unfold p_laws_rPlus at h
  refine ac_enter ⟨42, 0⟩ Try.func46 rfl rfl rfl rfl rfl (fun Γ => ?_)
  refine aw_seq ?_
  refine aw_region ?_
  refine ao_eff trivial (e_box 0 rfl rfl rfl rfl rfl rfl) rfl ?_
  refine ao_eff trivial (e_box 1 rfl rfl rfl rfl rfl rfl) rfl ?_
  refine ao_eff trivial (e_alloc 2 (y := .v (.arr 2 (.int .i64)) ((List.replicate 2 0) : (List Int))) Try.zeroValue30 (fun ρ h M => ra_zero_arr (t := (.int .i64)) rfl) rfl rfl rfl rfl rfl) rfl ?_
  refine ao_nil ?_
  refine aq_then ?_
  refine aw_seq ?_
  refine aw_drawAll (by kernel_rfl) ?_
  refine an_read 0 (by kernel_rfl) (fun _ _ _ h => h) rfl (by kernel_rfl) trivial (r_idxAddr_arr (i := 0) Try.underlying30 Try.sizeOf3 rfl rfl (show 0 ≤ 0 from by omega) (show 0 < (2 : Int) from by omega)) rfl ?_
  refine an_read 1 (by kernel_rfl) (fun _ _ _ h => h) rfl (by kernel_rfl) trivial (r_load_elema_int Try.isAgg3 Try.sizeOf3 rfl rfl rfl (show 0 < 2 from by omega)) rfl ?_
  refine an_read 2 (by kernel_rfl) (fun _ _ _ h => h) rfl (by kernel_rfl) trivial (r_idxAddr_arr (i := 1) Try.underlying30 Try.sizeOf3 rfl rfl (show 0 ≤ 1 from by omega) (show 1 < (2 : Int) from by omega)) rfl ?_
  refine an_read 3 (by kernel_rfl) (fun _ _ _ h => h) rfl (by kernel_rfl) trivial (r_load_elema_int Try.isAgg3 Try.sizeOf3 rfl rfl rfl (show 1 < 2 from by omega)) rfl ?_
  refine an_read 4 (by kernel_rfl) (fun _ _ _ h => h) rfl (by kernel_rfl) trivial (r_mul rfl rfl) rfl ?_
  refine an_read 5 (by kernel_rfl) (fun _ _ _ h => h) rfl (by kernel_rfl) trivial (r_idxAddr_arr (i := 0) Try.underlying30 Try.sizeOf3 rfl rfl (show 0 ≤ 0 from by omega) (show 0 < (2 : Int) from by omega)) rfl ?_
  refine an_read 6 (by kernel_rfl) (fun _ _ _ h => h) rfl (by kernel_rfl) trivial (r_load_elema_int Try.isAgg3 Try.sizeOf3 rfl rfl rfl (show 0 < 2 from by omega)) rfl ?_
  refine an_read 7 (by kernel_rfl) (fun _ _ _ h => h) rfl (by kernel_rfl) trivial (r_idxAddr_arr (i := 1) Try.underlying30 Try.sizeOf3 rfl rfl (show 0 ≤ 1 from by omega) (show 1 < (2 : Int) from by omega)) rfl ?_
  refine an_read 8 (by kernel_rfl) (fun _ _ _ h => h) rfl (by kernel_rfl) trivial (r_load_elema_int Try.isAgg3 Try.sizeOf3 rfl rfl rfl (show 1 < 2 from by omega)) rfl ?_
  refine an_read 9 (by kernel_rfl) (fun _ _ _ h => h) rfl (by kernel_rfl) trivial (r_mul rfl rfl) rfl ?_
  refine an_read 10 (by kernel_rfl) (fun _ _ _ h => h) rfl (by kernel_rfl) trivial (r_add rfl rfl) rfl ?_
  refine an_read 11 (by kernel_rfl) (fun _ _ _ h => h) rfl (by kernel_rfl) trivial (r_idxAddr_arr (i := 1) Try.underlying30 Try.sizeOf3 rfl rfl (show 0 ≤ 1 from by omega) (show 1 < (2 : Int) from by omega)) rfl ?_
  refine an_read 12 (by kernel_rfl) (fun _ _ _ h => h) rfl (by kernel_rfl) trivial (r_load_elema_int Try.isAgg3 Try.sizeOf3 rfl rfl rfl (show 1 < 2 from by omega)) rfl ?_
  refine an_read 13 (by kernel_rfl) (fun _ _ _ h => h) rfl (by kernel_rfl) trivial (r_idxAddr_arr (i := 1) Try.underlying30 Try.sizeOf3 rfl rfl (show 0 ≤ 1 from by omega) (show 1 < (2 : Int) from by omega)) rfl ?_
  refine an_read 14 (by kernel_rfl) (fun _ _ _ h => h) rfl (by kernel_rfl) trivial (r_load_elema_int Try.isAgg3 Try.sizeOf3 rfl rfl rfl (show 1 < 2 from by omega)) rfl ?_
  refine an_read 15 (by kernel_rfl) (fun _ _ _ h => h) rfl (by kernel_rfl) trivial (r_mul rfl rfl) rfl ?_
  refine an_read 16 (by kernel_rfl) (fun _ _ _ h => h) rfl (by kernel_rfl) trivial (r_assign rfl) rfl ?_
  refine an_read 17 (by kernel_rfl) (fun _ _ _ h => h) rfl (by kernel_rfl) trivial (r_assign rfl) rfl ?_
  refine an_done rfl ?_
  refine aq_then ?_
  refine aw_seq ?_
  refine aw_region ?_
  refine ao_read trivial (r_move rfl) rfl ?_
  refine ao_read trivial (r_move rfl) rfl ?_
  refine ao_read trivial (r_assign rfl) rfl ?_
  refine ao_read trivial (r_assign rfl) rfl ?_
  refine ao_nil ?_
  refine aq_then ?_
  refine aw_seq ?_
  refine aw_block ?_
  refine aw_loop (AL.sub (sub_mk (rn [(0, 2)]) (by exact ⟨⟨_, rfl, ad_ren rfl⟩, ⟨_, rfl, ad_ren rfl⟩, ⟨_, rfl, ad_ren rfl⟩, ⟨_, rfl, ad_ren rfl⟩, ⟨_, rfl, ad_ren rfl⟩, trivial⟩) (by exact ⟨⟨_, rfl, ⟨rfl, trivial⟩⟩, trivial⟩) (by rfl) (nk rfl)) (al_whl (fun (s1 : Int × Int) => [(4, .ref 0 0), (5, .int .i64 (IntKind.wrap .i64 ((IntKind.wrap .i64 ((x0.getD 0 0) * (x1.getD 1 0))) + (IntKind.wrap .i64 ((x1.getD 0 0) * (x0.getD 1 0)))))), (6, .int .i64 (IntKind.wrap .i64 ((x0.getD 1 0) * (x1.getD 1 0)))), (7, .int .i64 s1.1), (8, .int .i64 s1.2)]) (fun (s1 : Int × Int) => [(0, .var [.arr (.int .i64) 2 ((List.replicate 2 0) : (List Int))])]) (fun (s1 : Int × Int) => True) h trivial (fun d3 s1 hI h ih3 => ?_)))
  replace h := is_whlS h
  refine al_round ?_
  refine aw_seq ?_
  refine aw_seq ?_
  refine aw_region ?_
  refine ao_read trivial (r_move rfl) rfl ?_
  refine ao_read trivial (r_gtr rfl rfl) rfl ?_
  refine ao_nil ?_
  refine aq_then ?_
  refine aw_cond rfl (fun hb5 => ?_) (fun hb5 => ?_)
  · have q6 := d_t hb5
    replace h := is_if (d_t hb5) h
    refine aw_skip ?_
    refine aq_then ?_
    refine aw_block ?_
    refine aw_drawAll (by kernel_rfl) ?_
    refine an_read 0 (by kernel_rfl) (fun _ _ _ h => h) rfl (by kernel_rfl) trivial (r_move rfl) rfl ?_
    refine an_read 1 (by kernel_rfl) (fun _ _ _ h => h) rfl (by kernel_rfl) trivial (r_move rfl) rfl ?_
    refine an_read 2 (by kernel_rfl) (fun _ _ _ h => h) rfl (by kernel_rfl) trivial (r_move rfl) rfl ?_
    refine an_read 3 (by kernel_rfl) (fun _ _ _ h => h) rfl (by kernel_rfl) trivial (r_rem rfl rfl (by omega)) rfl ?_
    refine an_read 4 (by kernel_rfl) (fun _ _ _ h => h) rfl (by kernel_rfl) trivial (r_assign rfl) rfl ?_
    refine an_read 5 (by kernel_rfl) (fun _ _ _ h => h) rfl (by kernel_rfl) trivial (r_assign rfl) rfl ?_
    refine an_done rfl ?_
    refine aq_in ?_
    exact aq_again (AL.sub (sub_mk idn (by exact ⟨⟨_, rfl, ad_ren rfl⟩, ⟨_, rfl, ad_ren rfl⟩, ⟨_, rfl, ad_ren rfl⟩, ⟨_, rfl, ad_ren rfl⟩, ⟨_, rfl, ad_ren rfl⟩, trivial⟩) (by exact ⟨⟨_, rfl, ⟨rfl, trivial⟩⟩, trivial⟩) (by rfl) (nk rfl)) (ih3 (s1.2, (s1.1.tmod s1.2)) trivial h))
  · have q7 := d_f hb5
    replace h := is_else (d_f hb5) h
    refine aw_exit ?_
    refine aq_then_exit ?_
    refine aq_then_exit ?_
    refine aq_in_exit ?_
    refine aq_then ?_
    refine aw_join (fun (s8 : Int) => [(4, .ref 0 0), (5, .int .i64 (IntKind.wrap .i64 ((IntKind.wrap .i64 ((x0.getD 0 0) * (x1.getD 1 0))) + (IntKind.wrap .i64 ((x1.getD 0 0) * (x0.getD 1 0)))))), (6, .int .i64 (IntKind.wrap .i64 ((x0.getD 1 0) * (x1.getD 1 0)))), (7, .int .i64 s8)]) (fun (s8 : Int) => [(0, .var [.arr (.int .i64) 2 ((List.replicate 2 0) : (List Int))])]) (fun (s8 : Int) => 0 ≤ s8) h (fun s8 hI h => ?_) (fun h j10 => ?_)
    · refine aw_seq ?_
      obtain ⟨g11, h⟩ := is_guard h
      obtain ⟨g12, h⟩ := is_guard h
      refine aw_draw 7 (by kernel_rfl) (by kernel_rfl) ?_
      refine an_read 0 (by kernel_rfl) (fun _ _ _ h => h) rfl (by kernel_rfl) trivial (r_move rfl) rfl ?_
      refine an_read 1 (by kernel_rfl) (fun _ _ _ h => h) rfl (by kernel_rfl) trivial (r_move rfl) rfl ?_
      refine an_read 2 (by kernel_rfl) (fun _ _ _ h => h) rfl (by kernel_rfl) trivial (r_quo rfl rfl g11) rfl ?_
      refine an_read 3 (by kernel_rfl) (fun _ _ _ h => h) rfl (by kernel_rfl) trivial (r_move rfl) rfl ?_
      refine an_read 4 (by kernel_rfl) (fun _ _ _ h => h) rfl (by kernel_rfl) trivial (r_move rfl) rfl ?_
      refine an_read 5 (by kernel_rfl) (fun _ _ _ h => h) rfl (by kernel_rfl) trivial (r_quo rfl rfl g12) rfl ?_
      refine an_read 6 (by kernel_rfl) (fun _ _ _ h => h) rfl (by kernel_rfl) trivial (r_build_arr (l := [(0, .tmp 37), (1, .tmp 40)]) (t := (.int .i64)) ([(IntKind.wrap .i64 ((IntKind.wrap .i64 ((IntKind.wrap .i64 ((x0.getD 0 0) * (x1.getD 1 0))) + (IntKind.wrap .i64 ((x1.getD 0 0) * (x0.getD 1 0))))).tdiv s8)), (IntKind.wrap .i64 ((IntKind.wrap .i64 ((x0.getD 1 0) * (x1.getD 1 0))).tdiv s8))] : (List Int)) rfl Try.underlying30 Try.zeroValue30 Try.sizeOf3 rfl rfl rfl rfl) rfl ?_
      refine an_tail rfl rfl ?_
      refine ao_effS trivial (e_store rfl rfl rfl rfl Try.sizeOf30 rfl) ?_
      refine ao_nil ?_
      refine aq_then ?_
      refine aw_ret ?_
      refine aq_ret ?_
      obtain rfl := is_some h
      exact aq_finx (l := [.cell 4 30]) (xs := [.v (.arr 2 (.int .i64)) ([(IntKind.wrap .i64 ((IntKind.wrap .i64 ((IntKind.wrap .i64 ((x0.getD 0 0) * (x1.getD 1 0))) + (IntKind.wrap .i64 ((x1.getD 0 0) * (x0.getD 1 0))))).tdiv s8)), (IntKind.wrap .i64 ((IntKind.wrap .i64 ((x0.getD 1 0) * (x1.getD 1 0))).tdiv s8))] : (List Int))]) idn [.v (.arr 2 (.int .i64)) ([(IntKind.wrap .i64 ((IntKind.wrap .i64 ((IntKind.wrap .i64 ((x0.getD 0 0) * (x1.getD 1 0))) + (IntKind.wrap .i64 ((x1.getD 0 0) * (x0.getD 1 0))))).tdiv s8)), (IntKind.wrap .i64 ((IntKind.wrap .i64 ((x0.getD 1 0) * (x1.getD 1 0))).tdiv s8))] : (List Int))] [] rfl (by exact ⟨⟨⟨_, _, rfl⟩, r_load_arr rfl Try.isAgg30 Try.sizeOf30 rfl rfl rfl⟩, trivial⟩) (by exact ⟨ad_ren rfl, trivial⟩) (by exact trivial) rfl (nk rfl) rfl rfl ⟨rfl, rfl⟩
    · refine aw_seq ?_
      refine aw_region ?_
      refine ao_read trivial (r_move rfl) rfl ?_
      refine ao_read trivial (r_lss rfl rfl) rfl ?_
      refine ao_nil ?_
      refine aq_then ?_
      refine aw_cond rfl (fun hb13 => ?_) (fun hb13 => ?_)
      · have q14 := d_t hb13
        replace h := is_if (d_t hb13) h
        refine aw_region ?_
        refine ao_read trivial (r_assign rfl) rfl ?_
        refine ao_nil ?_
        exact aq_then (AW.sub (sub_mk idn (by exact ⟨⟨_, rfl, ad_ren rfl⟩, ⟨_, rfl, ad_ren rfl⟩, ⟨_, rfl, ad_ren rfl⟩, ⟨_, rfl, ad_ren rfl⟩, trivial⟩) (by exact ⟨⟨_, rfl, ⟨rfl, trivial⟩⟩, trivial⟩) (by rfl) (nk rfl)) (j10 1 (by (try simp only [List.length_set, List.length_append, List.length_cons, List.length_nil, List.length_replicate, List.length_take, List.length_drop]) <;> omega) h))
      · have q15 := d_f hb13
        replace h := is_else (d_f hb13) h
        refine aw_skip ?_
        exact aq_then (AW.sub (sub_mk idn (by exact ⟨⟨_, rfl, ad_ren rfl⟩, ⟨_, rfl, ad_ren rfl⟩, ⟨_, rfl, ad_ren rfl⟩, ⟨_, rfl, ad_ren rfl⟩, trivial⟩) (by exact ⟨⟨_, rfl, ⟨rfl, trivial⟩⟩, trivial⟩) (by rfl) (nk rfl)) (j10 s1.1 (by (try simp only [List.length_set, List.length_append, List.length_cons, List.length_nil, List.length_replicate, List.length_take, List.length_drop]) <;> omega) h))
theorem c_laws_FnRuns {fu : Nat} {x0 : (List Int)} {r : Bool} (h : Is (p_laws_FnRuns fu x0) (some r)) :
    Scalar Try.prog 5 [.v (.slice (.int .u8)) x0] (.bool r) := by
  unfold p_laws_FnRuns at h
  refine ac_enter ⟨379, 0⟩ Try.func5 rfl rfl rfl rfl rfl (fun Γ => ?_)
  refine sl_len_m 0 (x0.length : Int) rfl rfl (fun hl0 => ?_)
  refine aw_seq ?_
  refine aw_region ?_
  refine ao_read trivial (r_assign rfl) rfl ?_
  refine ao_nil ?_
  refine aq_then ?_
  refine aw_seq ?_
  refine aw_seq ?_
  refine aw_region ?_
  refine ao_read trivial (r_move rfl) rfl ?_
  refine ao_scall trivial (scall (c_laws_rBig (is_mk (rfl : p_laws_rBig x0 = _))) rfl Try.func29 rfl rfl rfl rfl (fun σ => ⟨ad_ren rfl, trivial⟩)) rfl ?_
  refine ao_nil ?_
  refine aq_then ?_
  refine aw_cond rfl (fun hb1 => ?_) (fun hb1 => ?_)
  · replace h := is_if hb1 h
    refine aw_seq ?_
    refine aw_region ?_
    refine ao_read trivial (r_assign rfl) rfl ?_
    refine ao_nil ?_
    refine aq_then ?_
    refine aw_ret ?_
    refine aq_then_ret ?_
    refine aq_ret ?_
    obtain rfl := is_some h
    exact aq_finx (l := [.tmp 2]) (xs := [.bool true]) idn [.bool true] [] rfl (by exact ⟨rfl, trivial⟩) (by exact ⟨ad_ren rfl, trivial⟩) (by exact trivial) rfl (nk rfl) rfl rfl ⟨rfl, rfl⟩
  · replace h := is_else (ne_t hb1) h
    refine aw_skip ?_
    refine aq_then ?_
    refine aw_seq ?_
    refine aw_region ?_
    refine ao_read trivial (r_move rfl) rfl ?_
    obtain ⟨r2, r2h, h⟩ := is_bind h
    refine ao_scall trivial (scall (c_spec_DrawRunTable (is_mk r2h)) rfl Try.func47 rfl rfl rfl rfl (fun σ => ⟨ad_ren rfl, trivial⟩)) rfl ?_
    refine ao_read trivial (r_move rfl) rfl ?_
    refine ao_read trivial (r_extract rfl rfl) rfl ?_
    refine ao_read trivial (r_extract rfl rfl) rfl ?_
    refine ao_eff trivial (e_alloc 0 (y := .v (.arr 6 (.int .i64)) ((List.replicate 6 0) : (List Int))) Try.zeroValue43 (fun ρ h M => ra_zero_arr (t := (.int .i64)) rfl) rfl rfl rfl rfl rfl) rfl ?_
    refine ao_effS trivial (e_store rfl rfl rfl rfl Try.sizeOf43 rfl) ?_
    refine ao_read trivial (r_assign rfl) rfl ?_
    refine ao_nil ?_
    refine aq_then ?_
    refine aw_seq ?_
    refine aw_region ?_
    refine ao_read trivial (r_load_arr rfl Try.isAgg43 Try.sizeOf43 rfl rfl rfl) rfl ?_
    refine ao_read trivial (r_move rfl) rfl ?_
    obtain ⟨r3, r3h, h⟩ := is_bind h
    refine ao_call [] 1 trivial (c_impl_RunTable (is_mk r3h)) Try.func48 rfl rfl rfl rfl ⟨ad_ren rfl, ad_ren rfl, trivial⟩ trivial rfl rfl rfl rfl rfl rfl rfl (fun r' H' hr => ?_)
    obtain ⟨rfl, rfl⟩ := hr
    refine ao_norm (y := .tup [.os 1, .bool r3.2]) (H' := [(0, .var [.arr (.int .i64) 6 r2.1]), (1, .row (.arr 2 (.int .i64)) r3.1)]) rfl rfl ?_
    refine row_len_o 1 (r3.1.length : Int) rfl rfl (fun hr4 => ?_)
    refine ao_read trivial (r_move rfl) rfl ?_
    refine ao_read trivial (r_extract rfl rfl) rfl ?_
    refine ao_read trivial (r_extract rfl rfl) rfl ?_
    refine ao_read trivial (r_assign rfl) rfl ?_
    refine ao_read trivial (r_assign rfl) rfl ?_
    refine ao_nil ?_
    refine aq_then ?_
    refine aw_seq ?_
    refine aw_seq ?_
    refine aw_region ?_
    refine ao_read trivial (r_load_arr rfl Try.isAgg43 Try.sizeOf43 rfl rfl rfl) rfl ?_
    refine ao_read trivial (r_move rfl) rfl ?_
    obtain ⟨r5, r5h, h⟩ := is_bind h
    refine ao_call [] 2 trivial (c_spec_RunTable (is_mk r5h)) Try.func49 rfl rfl rfl rfl ⟨ad_ren rfl, ad_ren rfl, trivial⟩ trivial rfl rfl rfl rfl rfl rfl rfl (fun r' H' hr => ?_)
    obtain ⟨rfl, rfl⟩ := hr
    refine ao_norm (y := .tup [.os 2, .bool r5.2]) (H' := [(0, .var [.arr (.int .i64) 6 r2.1]), (1, .row (.arr 2 (.int .i64)) r3.1), (2, .row (.arr 2 (.int .i64)) r5.1)]) rfl rfl ?_
    refine row_len_o 2 (r5.1.length : Int) rfl rfl (fun hr6 => ?_)
    refine ao_read trivial (r_move rfl) rfl ?_
    refine ao_read trivial (r_extract rfl rfl) rfl ?_
    refine ao_read trivial (r_extract rfl rfl) rfl ?_
    refine ao_read trivial (r_assign rfl) rfl ?_
    refine ao_read trivial (r_assign rfl) rfl ?_
    refine ao_nil ?_
    refine aq_then ?_
    refine aw_seq ?_
    refine aw_region ?_
    refine ao_read trivial (r_move rfl) rfl ?_
    refine ao_read trivial (r_move rfl) rfl ?_
    refine ao_read trivial (r_neq_bool Try.underlying4 rfl rfl) rfl ?_
    refine ao_read trivial (r_move rfl) rfl ?_
    refine ao_readG (x := .os 1) rfl (GV.F rfl) (fun hg7 => r_move rfl) rfl ?_
    refine ao_readG (x := .os 2) rfl (GV.F rfl) (fun hg8 => r_move rfl) rfl ?_
    refine ao_scallG (r := .bool (p_laws_rPairs r3.1 r5.1)) rfl (GV.F rfl) (fun hg9 => SCall.strip 75 rfl (hg9) (SCall.strip 76 rfl (hg9) (scall (c_laws_rPairs (is_mk (rfl : p_laws_rPairs r3.1 r5.1 = _))) rfl Try.func50 rfl rfl rfl rfl (fun σ => ⟨ad_os0 rfl, ad_os0 rfl, trivial⟩)))) rfl ?_
    refine ao_readG (x := .bool (!(p_laws_rPairs r3.1 r5.1))) rfl (GV.F rfl) (fun hg10 => Reads.strip 77 rfl (hg10) (r_not rfl)) rfl ?_
    refine ao_read trivial (r_orB rfl rfl) rfl ?_
    refine ao_nil ?_
    refine aq_then ?_
    refine aw_cond rfl (fun hb11 => ?_) (fun hb11 => ?_)
    · replace h := is_if hb11 h
      refine aw_seq ?_
      refine aw_region ?_
      refine ao_read trivial (r_assign rfl) rfl ?_
      refine ao_nil ?_
      refine aq_then ?_
      refine aw_ret ?_
      refine aq_then_ret ?_
      refine aq_ret ?_
      obtain rfl := is_some h
      exact aq_finx (l := [.tmp 2]) (xs := [.bool false]) idn [.bool false] [] rfl (by exact ⟨rfl, trivial⟩) (by exact ⟨ad_ren rfl, trivial⟩) (by exact trivial) rfl (nk rfl) rfl rfl ⟨rfl, rfl⟩
    · obtain ⟨q12, q13⟩ := or_f hb11
      replace h := is_else (ne_t hb11) h
      refine aw_skip ?_
      refine aq_then ?_
      refine aw_seq ?_
      refine aw_region ?_
      refine ao_read trivial (r_load_arr rfl Try.isAgg43 Try.sizeOf43 rfl rfl rfl) rfl ?_
      refine ao_read trivial (r_move rfl) rfl ?_
      obtain ⟨r14, r14h, h⟩ := is_bind h
      refine ao_scall trivial (scall (c_impl_MeanRun (is_mk r14h)) rfl Try.func51 rfl rfl rfl rfl (fun σ => ⟨ad_ren rfl, ad_ren rfl, trivial⟩)) rfl ?_
      refine ao_read trivial (r_move rfl) rfl ?_
      refine ao_read trivial (r_extract rfl rfl) rfl ?_
      refine ao_read trivial (r_extract rfl rfl) rfl ?_
      refine ao_eff trivial (e_alloc 3 (y := .v (.arr 2 (.int .i64)) ((List.replicate 2 0) : (List Int))) Try.zeroValue30 (fun ρ h M => ra_zero_arr (t := (.int .i64)) rfl) rfl rfl rfl rfl rfl) rfl ?_
      refine ao_effS trivial (e_store rfl rfl rfl rfl Try.sizeOf30 rfl) ?_
      refine ao_read trivial (r_assign rfl) rfl ?_
      refine ao_nil ?_
      refine aq_then ?_
      refine aw_seq ?_
      refine aw_seq ?_
      refine aw_region ?_
      refine ao_read trivial (r_load_arr rfl Try.isAgg43 Try.sizeOf43 rfl rfl rfl) rfl ?_
      refine ao_read trivial (r_move rfl) rfl ?_
      obtain ⟨r15, r15h, h⟩ := is_bind h
      refine ao_scall trivial (scall (c_spec_MeanRun (is_mk r15h)) rfl Try.func52 rfl rfl rfl rfl (fun σ => ⟨ad_ren rfl, ad_ren rfl, trivial⟩)) rfl ?_
      refine ao_read trivial (r_move rfl) rfl ?_
      refine ao_read trivial (r_extract rfl rfl) rfl ?_
      refine ao_read trivial (r_extract rfl rfl) rfl ?_
      refine ao_eff trivial (e_alloc 4 (y := .v (.arr 2 (.int .i64)) ((List.replicate 2 0) : (List Int))) Try.zeroValue30 (fun ρ h M => ra_zero_arr (t := (.int .i64)) rfl) rfl rfl rfl rfl rfl) rfl ?_
      refine ao_effS trivial (e_store rfl rfl rfl rfl Try.sizeOf30 rfl) ?_
      refine ao_read trivial (r_assign rfl) rfl ?_
      refine ao_nil ?_
      refine aq_then ?_
      refine aw_seq ?_
      refine aw_region ?_
      refine ao_read trivial (r_load_arr rfl Try.isAgg30 Try.sizeOf30 rfl rfl rfl) rfl ?_
      refine ao_read trivial (r_load_arr rfl Try.isAgg30 Try.sizeOf30 rfl rfl rfl) rfl ?_
      refine ao_read trivial (r_eq_ints Try.underlying30 Try.underlying3 Try.isAgg3 (info_size Try.sizeOf3) (by kernel_rfl) rfl rfl rfl) rfl ?_
      refine ao_read trivial (r_move rfl) rfl ?_
      refine ao_readG (x := .bool r14.2) rfl (GV.F rfl) (fun hg16 => r_move rfl) rfl ?_
      refine ao_readG (x := .bool r15.2) rfl (GV.F rfl) (fun hg17 => r_move rfl) rfl ?_
      refine ao_readG (x := .bool (r14.2 != r15.2)) rfl (GV.F rfl) (fun hg18 => Reads.strip 96 rfl (hg18) (Reads.strip 97 rfl (hg18) (r_neq_bool Try.underlying4 rfl rfl))) rfl ?_
      refine ao_read trivial (r_orB rfl rfl) rfl ?_
      refine ao_read trivial (r_move rfl) rfl ?_
      refine ao_readG (x := .bool r14.2) rfl (GV.F rfl) (fun hg19 => by
            obtain ⟨q20, q21⟩ := or_f (not_t hg19)
            exact r_move rfl) rfl ?_
      refine ao_readG (x := .bool r3.2) rfl (GV.F rfl) (fun hg22 => by
            obtain ⟨q23, q24⟩ := or_f (not_t hg22)
            exact r_move rfl) rfl ?_
      refine ao_readG (x := .bool (r14.2 != r3.2)) rfl (GV.F rfl) (fun hg25 => by
            obtain ⟨q26, q27⟩ := or_f (not_t hg25)
            exact Reads.strip 101 rfl (hg25) (Reads.strip 102 rfl (hg25) (r_neq_bool Try.underlying4 rfl rfl))) rfl ?_
      refine ao_read trivial (r_orB rfl rfl) rfl ?_
      refine ao_nil ?_
      refine aq_then ?_
      refine aw_cond rfl (fun hb28 => ?_) (fun hb28 => ?_)
      · replace h := is_if hb28 h
        refine aw_seq ?_
        refine aw_region ?_
        refine ao_read trivial (r_assign rfl) rfl ?_
        refine ao_nil ?_
        refine aq_then ?_
        refine aw_ret ?_
        refine aq_then_ret ?_
        refine aq_ret ?_
        obtain rfl := is_some h
        exact aq_finx (l := [.tmp 2]) (xs := [.bool false]) idn [.bool false] [] rfl (by exact ⟨rfl, trivial⟩) (by exact ⟨ad_ren rfl, trivial⟩) (by exact trivial) rfl (nk rfl) rfl rfl ⟨rfl, rfl⟩
      · obtain ⟨q29, q30⟩ := or_f hb28
        obtain ⟨q31, q32⟩ := or_f q29
        replace h := is_else (ne_t hb28) h
        refine aw_skip ?_
        refine aq_then ?_
        refine aw_seq ?_
        refine aw_region ?_
        refine ao_read trivial (r_move rfl) rfl ?_
        obtain ⟨r33, r33h, h⟩ := is_bind h
        refine ao_scall trivial (scall (c_spec_DrawLandChance (is_mk r33h)) rfl Try.func53 rfl rfl rfl rfl (fun σ => ⟨ad_ren rfl, trivial⟩)) rfl ?_
        refine ao_read trivial (r_move rfl) rfl ?_
        refine ao_read trivial (r_extract rfl rfl) rfl ?_
        refine ao_read trivial (r_extract rfl rfl) rfl ?_
        refine ao_eff trivial (e_alloc 5 (y := .v (.arr 6 (.int .i64)) ((List.replicate 6 0) : (List Int))) Try.zeroValue43 (fun ρ h M => ra_zero_arr (t := (.int .i64)) rfl) rfl rfl rfl rfl rfl) rfl ?_
        refine ao_effS trivial (e_store rfl rfl rfl rfl Try.sizeOf43 rfl) ?_
        refine ao_read trivial (r_assign rfl) rfl ?_
        refine ao_nil ?_
        refine aq_then ?_
        refine aw_seq ?_
        refine aw_region ?_
        refine ao_read trivial (r_load_arr rfl Try.isAgg43 Try.sizeOf43 rfl rfl rfl) rfl ?_
        refine ao_read trivial (r_move rfl) rfl ?_
        obtain ⟨r34, r34h, h⟩ := is_bind h
        refine ao_scall trivial (scall (c_impl_LandChance (is_mk r34h)) rfl Try.func54 rfl rfl rfl rfl (fun σ => ⟨ad_ren rfl, ad_ren rfl, trivial⟩)) rfl ?_
        refine ao_read trivial (r_move rfl) rfl ?_
        refine ao_read trivial (r_extract rfl rfl) rfl ?_
        refine ao_read trivial (r_extract rfl rfl) rfl ?_
        refine ao_eff trivial (e_alloc 6 (y := .v (.arr 2 (.int .i64)) ((List.replicate 2 0) : (List Int))) Try.zeroValue30 (fun ρ h M => ra_zero_arr (t := (.int .i64)) rfl) rfl rfl rfl rfl rfl) rfl ?_
        refine ao_effS trivial (e_store rfl rfl rfl rfl Try.sizeOf30 rfl) ?_
        refine ao_read trivial (r_assign rfl) rfl ?_
        refine ao_nil ?_
        refine aq_then ?_
        refine aw_seq ?_
        refine aw_seq ?_
        refine aw_region ?_
        refine ao_read trivial (r_load_arr rfl Try.isAgg43 Try.sizeOf43 rfl rfl rfl) rfl ?_
        refine ao_read trivial (r_move rfl) rfl ?_
        obtain ⟨r35, r35h, h⟩ := is_bind h
        refine ao_scall trivial (scall (c_spec_LandChance (is_mk r35h)) rfl Try.func55 rfl rfl rfl rfl (fun σ => ⟨ad_ren rfl, ad_ren rfl, trivial⟩)) rfl ?_
        refine ao_read trivial (r_move rfl) rfl ?_
        refine ao_read trivial (r_extract rfl rfl) rfl ?_
        refine ao_read trivial (r_extract rfl rfl) rfl ?_
        refine ao_eff trivial (e_alloc 7 (y := .v (.arr 2 (.int .i64)) ((List.replicate 2 0) : (List Int))) Try.zeroValue30 (fun ρ h M => ra_zero_arr (t := (.int .i64)) rfl) rfl rfl rfl rfl rfl) rfl ?_
        refine ao_effS trivial (e_store rfl rfl rfl rfl Try.sizeOf30 rfl) ?_
        refine ao_read trivial (r_assign rfl) rfl ?_
        refine ao_nil ?_
        refine aq_then ?_
        refine aw_seq ?_
        refine aw_region ?_
        refine ao_read trivial (r_load_arr rfl Try.isAgg30 Try.sizeOf30 rfl rfl rfl) rfl ?_
        refine ao_read trivial (r_load_arr rfl Try.isAgg30 Try.sizeOf30 rfl rfl rfl) rfl ?_
        refine ao_read trivial (r_eq_ints Try.underlying30 Try.underlying3 Try.isAgg3 (info_size Try.sizeOf3) (by kernel_rfl) rfl rfl rfl) rfl ?_
        refine ao_read trivial (r_move rfl) rfl ?_
        refine ao_readG (x := .bool r34.2) rfl (GV.F rfl) (fun hg36 => r_move rfl) rfl ?_
        refine ao_readG (x := .bool r35.2) rfl (GV.F rfl) (fun hg37 => r_move rfl) rfl ?_
        refine ao_readG (x := .bool (r34.2 != r35.2)) rfl (GV.F rfl) (fun hg38 => Reads.strip 126 rfl (hg38) (Reads.strip 127 rfl (hg38) (r_neq_bool Try.underlying4 rfl rfl))) rfl ?_
        refine ao_read trivial (r_orB rfl rfl) rfl ?_
        refine ao_read trivial (r_move rfl) rfl ?_
        refine ao_readG (x := .bool r34.2) rfl (GV.F rfl) (fun hg39 => by
              obtain ⟨q40, q41⟩ := or_f (not_t hg39)
              exact r_move rfl) rfl ?_
        refine ao_readG (x := .bool r34.2) rfl (GV.F rfl) (fun hg42 => by
              obtain ⟨q43, q44⟩ := or_f (not_t hg42)
              exact Reads.strip 131 rfl (hg42) (r_move rfl)) rfl ?_
        refine ao_readG (x := .elem 6 0 1 0) rfl (GV.gT rfl) (fun hg45 => by
              obtain ⟨q46, q47⟩ := and_t hg45
              obtain ⟨q48, q49⟩ := or_f (not_t q46)
              exact r_idxAddr_arr (i := 0) Try.underlying30 Try.sizeOf3 rfl rfl (show 0 ≤ 0 from by omega) (show 0 < (2 : Int) from by omega)) rfl ?_
        refine ao_readG (x := .int .i64 (r34.1.getD 0 0)) rfl (GV.gT rfl) (fun hg50 => by
              obtain ⟨q51, q52⟩ := and_t hg50
              obtain ⟨q53, q54⟩ := or_f (not_t q51)
              exact Reads.strip 133 rfl (hg50) (r_load_elema_int Try.isAgg3 Try.sizeOf3 rfl rfl rfl (show 0 < 2 from by omega))) rfl ?_
        refine ao_readG (x := .elem 6 0 1 1) rfl (GV.gT rfl) (fun hg55 => by
              obtain ⟨q56, q57⟩ := and_t hg55
              obtain ⟨q58, q59⟩ := or_f (not_t q56)
              exact r_idxAddr_arr (i := 1) Try.underlying30 Try.sizeOf3 rfl rfl (show 0 ≤ 1 from by omega) (show 1 < (2 : Int) from by omega)) rfl ?_
        refine ao_readG (x := .int .i64 (r34.1.getD 1 0)) rfl (GV.gT rfl) (fun hg60 => by
              obtain ⟨q61, q62⟩ := and_t hg60
              obtain ⟨q63, q64⟩ := or_f (not_t q61)
              exact Reads.strip 135 rfl (hg60) (r_load_elema_int Try.isAgg3 Try.sizeOf3 rfl rfl rfl (show 1 < 2 from by omega))) rfl ?_
        refine ao_readG (x := .bool (decide ((r34.1.getD 1 0) < (r34.1.getD 0 0)))) rfl (GV.gT rfl) (fun hg65 => by
              obtain ⟨q66, q67⟩ := and_t hg65
              obtain ⟨q68, q69⟩ := or_f (not_t q66)
              exact Reads.strip 134 rfl (hg65) (Reads.strip 136 rfl (hg65) (r_gtr rfl rfl))) rfl ?_
        refine ao_readG (x := .bool (r34.2 && (decide ((r34.1.getD 1 0) < (r34.1.getD 0 0))))) rfl (GV.F rfl) (fun hg70 => by
              obtain ⟨q71, q72⟩ := or_f (not_t hg70)
              exact Reads.strip 132 rfl (hg70) (r_andBg rfl rfl (tr_and (hg70)))) rfl ?_
        refine ao_read trivial (r_orB rfl rfl) rfl ?_
        refine ao_nil ?_
        refine aq_then ?_
        refine aw_cond rfl (fun hb73 => ?_) (fun hb73 => ?_)
        · replace h := is_if hb73 h
          refine aw_seq ?_
          refine aw_region ?_
          refine ao_read trivial (r_assign rfl) rfl ?_
          refine ao_nil ?_
          refine aq_then ?_
          refine aw_ret ?_
          refine aq_then_ret ?_
          refine aq_ret ?_
          obtain rfl := is_some h
          exact aq_finx (l := [.tmp 2]) (xs := [.bool false]) idn [.bool false] [] rfl (by exact ⟨rfl, trivial⟩) (by exact ⟨ad_ren rfl, trivial⟩) (by exact trivial) rfl (nk rfl) rfl rfl ⟨rfl, rfl⟩
        · obtain ⟨q74, q75⟩ := or_f hb73
          obtain ⟨q76, q77⟩ := or_f q74
          replace h := is_else (ne_t hb73) h
          refine aw_skip ?_
          refine aq_then ?_
          refine aw_seq ?_
          refine aw_region ?_
          refine ao_read trivial (r_move rfl) rfl ?_
          obtain ⟨r78, r78h, h⟩ := is_bind h
          refine ao_scall trivial (scall (c_spec_DrawFirstWins (is_mk r78h)) rfl Try.func56 rfl rfl rfl rfl (fun σ => ⟨ad_ren rfl, trivial⟩)) rfl ?_
          refine ao_read trivial (r_move rfl) rfl ?_
          refine ao_read trivial (r_extract rfl rfl) rfl ?_
          refine ao_read trivial (r_extract rfl rfl) rfl ?_
          refine ao_read trivial (r_extract rfl rfl) rfl ?_
          refine ao_eff trivial (e_alloc 8 (y := .v (.arr 6 (.int .i64)) ((List.replicate 6 0) : (List Int))) Try.zeroValue43 (fun ρ h M => ra_zero_arr (t := (.int .i64)) rfl) rfl rfl rfl rfl rfl) rfl ?_
          refine ao_eff trivial (e_alloc 9 (y := .v (.arr 6 (.int .i64)) ((List.replicate 6 0) : (List Int))) Try.zeroValue43 (fun ρ h M => ra_zero_arr (t := (.int .i64)) rfl) rfl rfl rfl rfl rfl) rfl ?_
          refine ao_effS trivial (e_store rfl rfl rfl rfl Try.sizeOf43 rfl) ?_
          refine ao_effS trivial (e_store rfl rfl rfl rfl Try.sizeOf43 rfl) ?_
          refine ao_read trivial (r_assign rfl) rfl ?_
          refine ao_nil ?_
          refine aq_then ?_
          refine aw_seq ?_
          refine aw_region ?_
          refine ao_read trivial (r_load_arr rfl Try.isAgg43 Try.sizeOf43 rfl rfl rfl) rfl ?_
          refine ao_read trivial (r_load_arr rfl Try.isAgg43 Try.sizeOf43 rfl rfl rfl) rfl ?_
          refine ao_read trivial (r_move rfl) rfl ?_
          obtain ⟨r79, r79h, h⟩ := is_bind h
          refine ao_scall trivial (scall (c_impl_FirstWins (is_mk r79h)) rfl Try.func57 rfl rfl rfl rfl (fun σ => ⟨ad_ren rfl, ad_ren rfl, ad_ren rfl, trivial⟩)) rfl ?_
          refine ao_read trivial (r_move rfl) rfl ?_
          refine ao_read trivial (r_extract rfl rfl) rfl ?_
          refine ao_read trivial (r_extract rfl rfl) rfl ?_
          refine ao_eff trivial (e_alloc 10 (y := .v (.arr 2 (.int .i64)) ((List.replicate 2 0) : (List Int))) Try.zeroValue30 (fun ρ h M => ra_zero_arr (t := (.int .i64)) rfl) rfl rfl rfl rfl rfl) rfl ?_
          refine ao_effS trivial (e_store rfl rfl rfl rfl Try.sizeOf30 rfl) ?_
          refine ao_read trivial (r_assign rfl) rfl ?_
          refine ao_nil ?_
          refine aq_then ?_
          refine aw_seq ?_
          refine aw_seq ?_
          refine aw_region ?_
          refine ao_read trivial (r_load_arr rfl Try.isAgg43 Try.sizeOf43 rfl rfl rfl) rfl ?_
          refine ao_read trivial (r_load_arr rfl Try.isAgg43 Try.sizeOf43 rfl rfl rfl) rfl ?_
          refine ao_read trivial (r_move rfl) rfl ?_
          obtain ⟨r80, r80h, h⟩ := is_bind h
          refine ao_scall trivial (scall (c_spec_FirstWins (is_mk r80h)) rfl Try.func58 rfl rfl rfl rfl (fun σ => ⟨ad_ren rfl, ad_ren rfl, ad_ren rfl, trivial⟩)) rfl ?_
          refine ao_read trivial (r_move rfl) rfl ?_
          refine ao_read trivial (r_extract rfl rfl) rfl ?_
          refine ao_read trivial (r_extract rfl rfl) rfl ?_
          refine ao_eff trivial (e_alloc 11 (y := .v (.arr 2 (.int .i64)) ((List.replicate 2 0) : (List Int))) Try.zeroValue30 (fun ρ h M => ra_zero_arr (t := (.int .i64)) rfl) rfl rfl rfl rfl rfl) rfl ?_
          refine ao_effS trivial (e_store rfl rfl rfl rfl Try.sizeOf30 rfl) ?_
          refine ao_read trivial (r_assign rfl) rfl ?_
          refine ao_nil ?_
          refine aq_then ?_
          refine aw_seq ?_
          refine aw_region ?_
          refine ao_read trivial (r_load_arr rfl Try.isAgg30 Try.sizeOf30 rfl rfl rfl) rfl ?_
          refine ao_read trivial (r_load_arr rfl Try.isAgg30 Try.sizeOf30 rfl rfl rfl) rfl ?_
          refine ao_read trivial (r_eq_ints Try.underlying30 Try.underlying3 Try.isAgg3 (info_size Try.sizeOf3) (by kernel_rfl) rfl rfl rfl) rfl ?_
          refine ao_read trivial (r_move rfl) rfl ?_
          refine ao_readG (x := .bool r79.2) rfl (GV.F rfl) (fun hg81 => r_move rfl) rfl ?_
          refine ao_readG (x := .bool r80.2) rfl (GV.F rfl) (fun hg82 => r_move rfl) rfl ?_
          refine ao_readG (x := .bool (r79.2 != r80.2)) rfl (GV.F rfl) (fun hg83 => Reads.strip 164 rfl (hg83) (Reads.strip 165 rfl (hg83) (r_neq_bool Try.underlying4 rfl rfl))) rfl ?_
          refine ao_read trivial (r_orB rfl rfl) rfl ?_
          refine ao_nil ?_
          refine aq_then ?_
          refine aw_cond rfl (fun hb84 => ?_) (fun hb84 => ?_)
          · replace h := is_if hb84 h
            refine aw_seq ?_
            refine aw_region ?_
            refine ao_read trivial (r_assign rfl) rfl ?_
            refine ao_nil ?_
            refine aq_then ?_
            refine aw_ret ?_
            refine aq_then_ret ?_
            refine aq_ret ?_
            obtain rfl := is_some h
            exact aq_finx (l := [.tmp 2]) (xs := [.bool false]) idn [.bool false] [] rfl (by exact ⟨rfl, trivial⟩) (by exact ⟨ad_ren rfl, trivial⟩) (by exact trivial) rfl (nk rfl) rfl rfl ⟨rfl, rfl⟩
          · obtain ⟨q85, q86⟩ := or_f hb84
            replace h := is_else (ne_t hb84) h
            refine aw_skip ?_
            refine aq_then ?_
            refine aw_seq ?_
            refine aw_region ?_
            refine ao_read trivial (r_load_arr rfl Try.isAgg43 Try.sizeOf43 rfl rfl rfl) rfl ?_
            refine ao_read trivial (r_load_arr rfl Try.isAgg43 Try.sizeOf43 rfl rfl rfl) rfl ?_
            refine ao_read trivial (r_move rfl) rfl ?_
            obtain ⟨r87, r87h, h⟩ := is_bind h
            refine ao_scall trivial (scall (c_impl_SameRound (is_mk r87h)) rfl Try.func59 rfl rfl rfl rfl (fun σ => ⟨ad_ren rfl, ad_ren rfl, ad_ren rfl, trivial⟩)) rfl ?_
            refine ao_read trivial (r_move rfl) rfl ?_
            refine ao_read trivial (r_extract rfl rfl) rfl ?_
            refine ao_read trivial (r_extract rfl rfl) rfl ?_
            refine ao_eff trivial (e_alloc 12 (y := .v (.arr 2 (.int .i64)) ((List.replicate 2 0) : (List Int))) Try.zeroValue30 (fun ρ h M => ra_zero_arr (t := (.int .i64)) rfl) rfl rfl rfl rfl rfl) rfl ?_
            refine ao_effS trivial (e_store rfl rfl rfl rfl Try.sizeOf30 rfl) ?_
            refine ao_read trivial (r_assign rfl) rfl ?_
            refine ao_nil ?_
            refine aq_then ?_
            refine aw_seq ?_
            refine aw_seq ?_
            refine aw_region ?_
            refine ao_read trivial (r_load_arr rfl Try.isAgg43 Try.sizeOf43 rfl rfl rfl) rfl ?_
            refine ao_read trivial (r_load_arr rfl Try.isAgg43 Try.sizeOf43 rfl rfl rfl) rfl ?_
            refine ao_read trivial (r_move rfl) rfl ?_
            obtain ⟨r88, r88h, h⟩ := is_bind h
            refine ao_scall trivial (scall (c_spec_SameRound (is_mk r88h)) rfl Try.func60 rfl rfl rfl rfl (fun σ => ⟨ad_ren rfl, ad_ren rfl, ad_ren rfl, trivial⟩)) rfl ?_
            refine ao_read trivial (r_move rfl) rfl ?_
            refine ao_read trivial (r_extract rfl rfl) rfl ?_
            refine ao_read trivial (r_extract rfl rfl) rfl ?_
            refine ao_eff trivial (e_alloc 13 (y := .v (.arr 2 (.int .i64)) ((List.replicate 2 0) : (List Int))) Try.zeroValue30 (fun ρ h M => ra_zero_arr (t := (.int .i64)) rfl) rfl rfl rfl rfl rfl) rfl ?_
            refine ao_effS trivial (e_store rfl rfl rfl rfl Try.sizeOf30 rfl) ?_
            refine ao_read trivial (r_assign rfl) rfl ?_
            refine ao_nil ?_
            refine aq_then ?_
            refine aw_seq ?_
            refine aw_region ?_
            refine ao_read trivial (r_load_arr rfl Try.isAgg30 Try.sizeOf30 rfl rfl rfl) rfl ?_
            refine ao_read trivial (r_load_arr rfl Try.isAgg30 Try.sizeOf30 rfl rfl rfl) rfl ?_
            refine ao_read trivial (r_eq_ints Try.underlying30 Try.underlying3 Try.isAgg3 (info_size Try.sizeOf3) (by kernel_rfl) rfl rfl rfl) rfl ?_
            refine ao_read trivial (r_move rfl) rfl ?_
            refine ao_readG (x := .bool r87.2) rfl (GV.F rfl) (fun hg89 => r_move rfl) rfl ?_
            refine ao_readG (x := .bool r88.2) rfl (GV.F rfl) (fun hg90 => r_move rfl) rfl ?_
            refine ao_readG (x := .bool (r87.2 != r88.2)) rfl (GV.F rfl) (fun hg91 => Reads.strip 186 rfl (hg91) (Reads.strip 187 rfl (hg91) (r_neq_bool Try.underlying4 rfl rfl))) rfl ?_
            refine ao_read trivial (r_orB rfl rfl) rfl ?_
            refine ao_read trivial (r_move rfl) rfl ?_
            refine ao_readG (x := .bool r87.2) rfl (GV.F rfl) (fun hg92 => by
                  obtain ⟨q93, q94⟩ := or_f (not_t hg92)
                  exact r_move rfl) rfl ?_
            refine ao_readG (x := .bool r79.2) rfl (GV.F rfl) (fun hg95 => by
                  obtain ⟨q96, q97⟩ := or_f (not_t hg95)
                  exact r_move rfl) rfl ?_
            refine ao_readG (x := .bool (r87.2 != r79.2)) rfl (GV.F rfl) (fun hg98 => by
                  obtain ⟨q99, q100⟩ := or_f (not_t hg98)
                  exact Reads.strip 191 rfl (hg98) (Reads.strip 192 rfl (hg98) (r_neq_bool Try.underlying4 rfl rfl))) rfl ?_
            refine ao_read trivial (r_orB rfl rfl) rfl ?_
            refine ao_nil ?_
            refine aq_then ?_
            refine aw_cond rfl (fun hb101 => ?_) (fun hb101 => ?_)
            · replace h := is_if hb101 h
              refine aw_seq ?_
              refine aw_region ?_
              refine ao_read trivial (r_assign rfl) rfl ?_
              refine ao_nil ?_
              refine aq_then ?_
              refine aw_ret ?_
              refine aq_then_ret ?_
              refine aq_ret ?_
              obtain rfl := is_some h
              exact aq_finx (l := [.tmp 2]) (xs := [.bool false]) idn [.bool false] [] rfl (by exact ⟨rfl, trivial⟩) (by exact ⟨ad_ren rfl, trivial⟩) (by exact trivial) rfl (nk rfl) rfl rfl ⟨rfl, rfl⟩
            · obtain ⟨q102, q103⟩ := or_f hb101
              obtain ⟨q104, q105⟩ := or_f q102
              replace h := is_else (ne_t hb101) h
              refine aw_skip ?_
              refine aq_then ?_
              refine aw_seq ?_
              refine aw_region ?_
              refine ao_read trivial (r_move rfl) rfl ?_
              obtain ⟨r106, r106h, h⟩ := is_bind h
              refine ao_call [] 14 trivial (c_spec_DrawBestRunner (is_mk r106h)) Try.func61 rfl rfl rfl rfl ⟨ad_ren rfl, trivial⟩ trivial rfl rfl rfl rfl rfl rfl rfl (fun r' H' hr => ?_)
              obtain ⟨rfl, rfl⟩ := hr
              refine ao_norm (y := .tup [.os 14, .int .i64 r106.2]) (H' := [(13, .var [.arr (.int .i64) 2 r88.1]), (12, .var [.arr (.int .i64) 2 r87.1]), (11, .var [.arr (.int .i64) 2 r80.1]), (10, .var [.arr (.int .i64) 2 r79.1]), (9, .var [.arr (.int .i64) 6 r78.2.1]), (8, .var [.arr (.int .i64) 6 r78.1]), (7, .var [.arr (.int .i64) 2 r35.1]), (6, .var [.arr (.int .i64) 2 r34.1]), (5, .var [.arr (.int .i64) 6 r33.1]), (4, .var [.arr (.int .i64) 2 r15.1]), (3, .var [.arr (.int .i64) 2 r14.1]), (0, .var [.arr (.int .i64) 6 r2.1]), (1, .row (.arr 2 (.int .i64)) r3.1), (2, .row (.arr 2 (.int .i64)) r5.1), (14, .row (.arr 6 (.int .i64)) r106.1)]) rfl rfl ?_
              refine row_len_o 14 (r106.1.length : Int) rfl rfl (fun hr107 => ?_)
              refine ao_read trivial (r_move rfl) rfl ?_
              refine ao_read trivial (r_extract rfl rfl) rfl ?_
              refine ao_read trivial (r_extract rfl rfl) rfl ?_
              refine ao_read trivial (r_assign rfl) rfl ?_
              refine ao_read trivial (r_assign rfl) rfl ?_
              refine ao_nil ?_
              refine aq_then ?_
              refine aw_seq ?_
              refine aw_region ?_
              refine ao_read trivial (r_move rfl) rfl ?_
              refine ao_read trivial (r_move rfl) rfl ?_
              obtain ⟨r108, r108h, h⟩ := is_bind h
              refine ao_scall trivial (scall (c_impl_BestRunner (is_mk r108h)) rfl Try.func62 rfl rfl rfl rfl (fun σ => ⟨ad_os0 rfl, ad_ren rfl, trivial⟩)) rfl ?_
              refine ao_read trivial (r_move rfl) rfl ?_
              refine ao_read trivial (r_extract rfl rfl) rfl ?_
              refine ao_read trivial (r_extract rfl rfl) rfl ?_
              refine ao_read trivial (r_extract rfl rfl) rfl ?_
              refine ao_eff trivial (e_alloc 15 (y := .v (.arr 2 (.int .i64)) ((List.replicate 2 0) : (List Int))) Try.zeroValue30 (fun ρ h M => ra_zero_arr (t := (.int .i64)) rfl) rfl rfl rfl rfl rfl) rfl ?_
              refine ao_read trivial (r_assign rfl) rfl ?_
              refine ao_effS trivial (e_store rfl rfl rfl rfl Try.sizeOf30 rfl) ?_
              refine ao_read trivial (r_assign rfl) rfl ?_
              refine ao_nil ?_
              refine aq_then ?_
              refine aw_seq ?_
              refine aw_seq ?_
              refine aw_region ?_
              refine ao_read trivial (r_move rfl) rfl ?_
              refine ao_read trivial (r_move rfl) rfl ?_
              obtain ⟨r109, r109h, h⟩ := is_bind h
              refine ao_scall trivial (scall (c_spec_BestRunner (is_mk r109h)) rfl Try.func63 rfl rfl rfl rfl (fun σ => ⟨ad_os0 rfl, ad_ren rfl, trivial⟩)) rfl ?_
              refine ao_read trivial (r_move rfl) rfl ?_
              refine ao_read trivial (r_extract rfl rfl) rfl ?_
              refine ao_read trivial (r_extract rfl rfl) rfl ?_
              refine ao_read trivial (r_extract rfl rfl) rfl ?_
              refine ao_eff trivial (e_alloc 16 (y := .v (.arr 2 (.int .i64)) ((List.replicate 2 0) : (List Int))) Try.zeroValue30 (fun ρ h M => ra_zero_arr (t := (.int .i64)) rfl) rfl rfl rfl rfl rfl) rfl ?_
              refine ao_read trivial (r_assign rfl) rfl ?_
              refine ao_effS trivial (e_store rfl rfl rfl rfl Try.sizeOf30 rfl) ?_
              refine ao_read trivial (r_assign rfl) rfl ?_
              refine ao_nil ?_
              refine aq_then ?_
              refine aw_seq ?_
              refine aw_region ?_
              refine ao_read trivial (r_move rfl) rfl ?_
              refine ao_read trivial (r_move rfl) rfl ?_
              refine ao_read trivial (r_neq rfl rfl) rfl ?_
              refine ao_read trivial (r_move rfl) rfl ?_
              refine ao_readG (x := .v (.arr 2 (.int .i64)) r108.2.1) rfl (GV.F rfl) (fun hg110 => by
                    have q111 := d_t (not_f (not_t hg110))
                    exact r_load_arr rfl Try.isAgg30 Try.sizeOf30 rfl rfl rfl) rfl ?_
              refine ao_readG (x := .v (.arr 2 (.int .i64)) r109.2.1) rfl (GV.F rfl) (fun hg112 => by
                    have q113 := d_t (not_f (not_t hg112))
                    exact r_load_arr rfl Try.isAgg30 Try.sizeOf30 rfl rfl rfl) rfl ?_
              refine ao_readG (x := .bool (!(decide (r108.2.1 = r109.2.1)))) rfl (GV.F rfl) (fun hg114 => by
                    have q115 := d_t (not_f (not_t hg114))
                    exact Reads.strip 218 rfl (hg114) (Reads.strip 219 rfl (hg114) (r_eq_ints Try.underlying30 Try.underlying3 Try.isAgg3 (info_size Try.sizeOf3) (by kernel_rfl) rfl rfl rfl))) rfl ?_
              refine ao_read trivial (r_orB rfl rfl) rfl ?_
              refine ao_read trivial (r_move rfl) rfl ?_
              refine ao_readG (x := .bool r108.2.2) rfl (GV.F rfl) (fun hg116 => by
                    obtain ⟨q117, q118⟩ := or_f (not_t hg116)
                    have q119 := d_t (not_f q117)
                    exact r_move rfl) rfl ?_
              refine ao_readG (x := .bool r109.2.2) rfl (GV.F rfl) (fun hg120 => by
                    obtain ⟨q121, q122⟩ := or_f (not_t hg120)
                    have q123 := d_t (not_f q121)
                    exact r_move rfl) rfl ?_
              refine ao_readG (x := .bool (r108.2.2 != r109.2.2)) rfl (GV.F rfl) (fun hg124 => by
                    obtain ⟨q125, q126⟩ := or_f (not_t hg124)
                    have q127 := d_t (not_f q125)
                    exact Reads.strip 223 rfl (hg124) (Reads.strip 224 rfl (hg124) (r_neq_bool Try.underlying4 rfl rfl))) rfl ?_
              refine ao_read trivial (r_orB rfl rfl) rfl ?_
              refine ao_nil ?_
              refine aq_then ?_
              refine aw_cond rfl (fun hb128 => ?_) (fun hb128 => ?_)
              · replace h := is_if hb128 h
                refine aw_seq ?_
                refine aw_region ?_
                refine ao_read trivial (r_assign rfl) rfl ?_
                refine ao_nil ?_
                refine aq_then ?_
                refine aw_ret ?_
                refine aq_then_ret ?_
                refine aq_ret ?_
                obtain rfl := is_some h
                exact aq_finx (l := [.tmp 2]) (xs := [.bool false]) idn [.bool false] [] rfl (by exact ⟨rfl, trivial⟩) (by exact ⟨ad_ren rfl, trivial⟩) (by exact trivial) rfl (nk rfl) rfl rfl ⟨rfl, rfl⟩
              · obtain ⟨q129, q130⟩ := or_f hb128
                obtain ⟨q131, q132⟩ := or_f q129
                have q133 := d_t (not_f q131)
                replace h := is_else (ne_t hb128) h
                refine aw_skip ?_
                refine aq_then ?_
                refine aw_join (fun (s134 : Unit) => [(4, .int .i64 r2.2), (5, .os 0), (6, .bool r3.2), (9, .ref 1 0), (19, .ref 2 0), (20, .ref 3 0), (21, .int .i64 r78.2.2), (22, .ref 4 0), (23, .bool r79.2), (26, .ref 5 0)]) (fun (s134 : Unit) => [(0, .row (.arr 2 (.int .i64)) r3.1), (1, .var [.arr (.int .i64) 2 r14.1]), (2, .var [.arr (.int .i64) 6 r78.1]), (3, .var [.arr (.int .i64) 6 r78.2.1]), (4, .var [.arr (.int .i64) 2 r79.1]), (5, .var [.arr (.int .i64) 2 r87.1])]) (fun (s134 : Unit) => True) h (fun s134 hI h => ?_) (fun h j136 => ?_)
                · refine aw_join (fun (s137 : Unit) => [(4, .int .i64 r2.2), (5, .os 0), (6, .bool r3.2), (9, .ref 1 0)]) (fun (s137 : Unit) => [(0, .row (.arr 2 (.int .i64)) r3.1), (1, .var [.arr (.int .i64) 2 r14.1])]) (fun (s137 : Unit) => True) h (fun s137 hI h => ?_) (fun h j139 => ?_)
                  · refine aw_seq ?_
                    refine aw_seq ?_
                    refine aw_region ?_
                    refine ao_read trivial (r_move rfl) rfl ?_
                    refine ao_read trivial (r_not rfl) rfl ?_
                    refine ao_nil ?_
                    refine aq_then ?_
                    refine aw_cond rfl (fun hb140 => ?_) (fun hb140 => ?_)
                    · replace h := is_else (ne_t (not_t hb140)) h
                      refine aw_seq ?_
                      refine aw_region ?_
                      refine ao_read trivial (r_assign rfl) rfl ?_
                      refine ao_nil ?_
                      refine aq_then ?_
                      refine aw_ret ?_
                      refine aq_then_ret ?_
                      refine aq_ret ?_
                      obtain rfl := is_some h
                      exact aq_finx (l := [.tmp 2]) (xs := [.bool true]) idn [.bool true] [] rfl (by exact ⟨rfl, trivial⟩) (by exact ⟨ad_ren rfl, trivial⟩) (by exact trivial) rfl (nk rfl) rfl rfl ⟨rfl, rfl⟩
                    · replace h := is_if (not_f hb140) h
                      refine aw_skip ?_
                      refine aq_then ?_
                      refine aw_seq ?_
                      refine aw_region ?_
                      refine ao_read trivial (r_build_arr (l := [(0, .const (.int .i64 0)), (1, .const (.int .i64 1))]) (t := (.int .i64)) ([0, 1] : (List Int)) rfl Try.underlying30 Try.zeroValue30 Try.sizeOf3 rfl rfl rfl rfl) rfl ?_
                      refine ao_read trivial (r_build_arr (l := [(0, .const (.int .i64 0)), (1, .const (.int .i64 1))]) (t := (.int .i64)) ([0, 1] : (List Int)) rfl Try.underlying30 Try.zeroValue30 Try.sizeOf3 rfl rfl rfl rfl) rfl ?_
                      refine ao_eff trivial (e_alloc 2 (y := .v (.arr 2 (.int .i64)) ((List.replicate 2 0) : (List Int))) Try.zeroValue30 (fun ρ h M => ra_zero_arr (t := (.int .i64)) rfl) rfl rfl rfl rfl rfl) rfl ?_
                      refine ao_eff trivial (e_alloc 3 (y := .v (.arr 2 (.int .i64)) ((List.replicate 2 0) : (List Int))) Try.zeroValue30 (fun ρ h M => ra_zero_arr (t := (.int .i64)) rfl) rfl rfl rfl rfl rfl) rfl ?_
                      refine ao_effS trivial (e_store rfl rfl rfl rfl Try.sizeOf30 rfl) ?_
                      refine ao_effS trivial (e_store rfl rfl rfl rfl Try.sizeOf30 rfl) ?_
                      refine ao_nil ?_
                      refine aq_then ?_
                      refine aw_seq ?_
                      refine aw_seq ?_
                      refine aw_region ?_
                      refine ao_read trivial (r_assign rfl) rfl ?_
                      refine ao_nil ?_
                      refine aq_then ?_
                      refine aw_block ?_
                      refine aw_loop (AL.sub (fr' := [(4, .int .i64 r2.2), (5, .os 0), (9, .ref 1 0), (49, .ref 2 0), (50, .ref 3 0), (51, .int .i64 0)]) (H' := [(0, .row (.arr 2 (.int .i64)) r3.1), (1, .var [.arr (.int .i64) 2 r14.1]), (2, .var [.arr (.int .i64) 2 ([0, 1] : (List Int))]), (3, .var [.arr (.int .i64) 2 ([0, 1] : (List Int))])]) (sub_mk idn (by exact ⟨⟨_, rfl, ad_ren rfl⟩, ⟨_, rfl, ad_ren rfl⟩, ⟨_, rfl, ad_ren rfl⟩, ⟨_, rfl, ad_ren rfl⟩, ⟨_, rfl, ad_ren rfl⟩, ⟨_, rfl, ad_ren rfl⟩, trivial⟩) (by exact ⟨⟨_, rfl, rfl⟩, ⟨_, rfl, ⟨rfl, trivial⟩⟩, ⟨_, rfl, ⟨rfl, trivial⟩⟩, ⟨_, rfl, ⟨rfl, trivial⟩⟩, trivial⟩) (by rfl) (nk rfl)) (al_cnt (fun i142 (s141 : (List Int) × (List Int)) => [(4, .int .i64 r2.2), (5, .os 0), (9, .ref 1 0), (49, .ref 2 0), (50, .ref 3 0), (51, .int .i64 i142)]) (fun i142 (s141 : (List Int) × (List Int)) => [(0, .row (.arr 2 (.int .i64)) r3.1), (1, .var [.arr (.int .i64) 2 r14.1]), (2, .var [.arr (.int .i64) 2 s141.1]), (3, .var [.arr (.int .i64) 2 s141.2])]) (fun d i142 (s141 : (List Int) × (List Int)) => d = Int.toNat ((r3.1.length : Int) - i142) ∧ 0 ≤ i142 ∧ i142 ≤ (r3.1.length : Int)) h ⟨rfl, (by (try simp only [List.length_set, List.length_append, List.length_cons, List.length_nil, List.length_replicate, List.length_take, List.length_drop]) <;> omega), (by (try simp only [List.length_set, List.length_append, List.length_cons, List.length_nil, List.length_replicate, List.length_take, List.length_drop]) <;> omega)⟩ (fun d143 i142 s141 hI h ih143 => ?_)))
                      obtain ⟨hd, _, _⟩ := hI
                      refine al_round ?_
                      refine aw_seq ?_
                      refine aw_seq ?_
                      refine aw_region ?_
                      refine ao_read trivial (r_move rfl) rfl ?_
                      refine ao_read trivial (r_move rfl) rfl ?_
                      refine ao_read trivial (r_len_osm (r3.1.length : Int) Try.underlying64 rfl rfl rfl) rfl ?_
                      refine ao_read trivial (r_lss rfl rfl) rfl ?_
                      refine ao_nil ?_
                      refine aq_then ?_
                      refine aw_cond rfl (fun hb145 => ?_) (fun hb145 => ?_)
                      · have q146 := d_t hb145
                        obtain ⟨d143, rfl⟩ : ∃ e, d143 = e + 1 := ⟨d143 - 1, by omega⟩
                        replace h := is_cntS h
                        refine aw_skip ?_
                        refine aq_then ?_
                        refine aw_seq ?_
                        refine aw_block ?_
                        refine aw_seq ?_
                        obtain ⟨r148, r148h, h⟩ := is_bind h
                        refine aw_draw 6 (by kernel_rfl) (by kernel_rfl) ?_
                        refine an_read 0 (by kernel_rfl) (fun _ _ _ h => h) rfl (by kernel_rfl) trivial (r_load_arr rfl Try.isAgg30 Try.sizeOf30 rfl rfl rfl) rfl ?_
                        refine an_read 1 (by kernel_rfl) (fun _ _ _ h => h) rfl (by kernel_rfl) trivial (r_move rfl) rfl ?_
                        refine an_read 2 (by kernel_rfl) (fun _ _ _ h => h) rfl (by kernel_rfl) trivial (r_move rfl) rfl ?_
                        refine an_read 3 (by kernel_rfl) (fun _ _ _ h => h) rfl (by kernel_rfl) trivial (r_idxAddr_os Try.underlying64 Try.sizeOf30 rfl rfl rfl (show 0 ≤ i142 from by omega) (show i142 < (r3.1.length : Int) from by omega)) rfl ?_
                        refine an_read 4 (by kernel_rfl) (fun _ _ _ h => h) rfl (by kernel_rfl) trivial (r_load_elemv (t := (.arr 2 (.int .i64))) Try.isAgg30 Try.sizeOf30 rfl rfl (show i142.toNat < r3.1.length from by omega)) rfl ?_
                        refine an_scall 5 (by kernel_rfl) (fun _ _ _ h => h) rfl (by kernel_rfl) trivial (scall (c_laws_rPlus (is_mk r148h)) rfl Try.func46 rfl rfl rfl rfl (fun σ => ⟨ad_ren rfl, ad_ren rfl, trivial⟩)) rfl ?_
                        refine an_tail rfl rfl ?_
                        refine ao_effS trivial (e_store rfl rfl rfl rfl Try.sizeOf30 rfl) ?_
                        refine ao_nil ?_
                        refine aq_then ?_
                        obtain ⟨r149, r149h, h⟩ := is_bind h
                        refine aw_draw 16 (by kernel_rfl) (by kernel_rfl) ?_
                        refine an_read 0 (by kernel_rfl) (fun _ _ _ h => h) rfl (by kernel_rfl) trivial (r_load_arr rfl Try.isAgg30 Try.sizeOf30 rfl rfl rfl) rfl ?_
                        refine an_read 1 (by kernel_rfl) (fun _ _ _ h => h) rfl (by kernel_rfl) trivial (r_move rfl) rfl ?_
                        refine an_read 2 (by kernel_rfl) (fun _ _ _ h => h) rfl (by kernel_rfl) trivial (r_move rfl) rfl ?_
                        refine an_read 3 (by kernel_rfl) (fun _ _ _ h => h) rfl (by kernel_rfl) trivial (r_idxAddr_os Try.underlying64 Try.sizeOf30 rfl rfl rfl (show 0 ≤ i142 from by omega) (show i142 < (r3.1.length : Int) from by omega)) rfl ?_
                        refine an_read 4 (by kernel_rfl) (fun _ _ _ h => h) rfl (by kernel_rfl) trivial (r_idxAddr_elem Try.underlying30 Try.sizeOf3 rfl rfl (by omega) (by omega)) rfl ?_
                        refine an_read 5 (by kernel_rfl) (fun _ _ _ h => h) rfl (by kernel_rfl) trivial (r_load_elem2_int (m := 2) Try.isAgg3 Try.sizeOf3 rfl rfl rfl (show i142.toNat < r3.1.length from by omega) rfl (by omega) rfl) rfl ?_
                        refine an_read 6 (by kernel_rfl) (fun _ _ _ h => h) rfl (by kernel_rfl) trivial (r_move rfl) rfl ?_
                        refine an_read 7 (by kernel_rfl) (fun _ _ _ h => h) rfl (by kernel_rfl) trivial (r_addI rfl rfl (wrap_id (by omega) (by omega))) rfl ?_
                        refine an_read 8 (by kernel_rfl) (fun _ _ _ h => h) rfl (by kernel_rfl) trivial (r_mul rfl rfl) rfl ?_
                        refine an_read 9 (by kernel_rfl) (fun _ _ _ h => h) rfl (by kernel_rfl) trivial (r_move rfl) rfl ?_
                        refine an_read 10 (by kernel_rfl) (fun _ _ _ h => h) rfl (by kernel_rfl) trivial (r_move rfl) rfl ?_
                        refine an_read 11 (by kernel_rfl) (fun _ _ _ h => h) rfl (by kernel_rfl) trivial (r_idxAddr_os Try.underlying64 Try.sizeOf30 rfl rfl rfl (show 0 ≤ i142 from by omega) (show i142 < (r3.1.length : Int) from by omega)) rfl ?_
                        refine an_read 12 (by kernel_rfl) (fun _ _ _ h => h) rfl (by kernel_rfl) trivial (r_idxAddr_elem Try.underlying30 Try.sizeOf3 rfl rfl (by omega) (by omega)) rfl ?_
                        refine an_read 13 (by kernel_rfl) (fun _ _ _ h => h) rfl (by kernel_rfl) trivial (r_load_elem2_int (m := 2) Try.isAgg3 Try.sizeOf3 rfl rfl rfl (show i142.toNat < r3.1.length from by omega) rfl (by omega) rfl) rfl ?_
                        refine an_read 14 (by kernel_rfl) (fun _ _ _ h => h) rfl (by kernel_rfl) trivial (r_build_arr (l := [(0, .tmp 357), (1, .tmp 362)]) (t := (.int .i64)) ([(IntKind.wrap .i64 (((r3.1.getD i142.toNat (List.replicate 2 0)).getD 0 0) * (i142 + 1))), ((r3.1.getD i142.toNat (List.replicate 2 0)).getD 1 0)] : (List Int)) rfl Try.underlying30 Try.zeroValue30 Try.sizeOf3 rfl rfl rfl rfl) rfl ?_
                        refine an_scall 15 (by kernel_rfl) (fun _ _ _ h => h) rfl (by kernel_rfl) trivial (scall (c_laws_rPlus (is_mk r149h)) rfl Try.func46 rfl rfl rfl rfl (fun σ => ⟨ad_ren rfl, ad_ren rfl, trivial⟩)) rfl ?_
                        refine an_tail rfl rfl ?_
                        refine ao_effS trivial (e_store rfl rfl rfl rfl Try.sizeOf30 rfl) ?_
                        refine ao_nil ?_
                        refine aq_in ?_
                        refine aq_then ?_
                        refine aw_region ?_
                        refine ao_read trivial (r_move rfl) rfl ?_
                        refine ao_read trivial (r_addI rfl rfl (wrap_id (by omega) (by omega))) rfl ?_
                        refine ao_read trivial (r_assign rfl) rfl ?_
                        refine ao_nil ?_
                        exact aq_again (AL.sub (sub_mk idn (by exact ⟨⟨_, rfl, ad_ren rfl⟩, ⟨_, rfl, ad_ren rfl⟩, ⟨_, rfl, ad_ren rfl⟩, ⟨_, rfl, ad_ren rfl⟩, ⟨_, rfl, ad_ren rfl⟩, ⟨_, rfl, ad_ren rfl⟩, trivial⟩) (by exact ⟨⟨_, rfl, rfl⟩, ⟨_, rfl, ⟨rfl, trivial⟩⟩, ⟨_, rfl, ⟨rfl, trivial⟩⟩, ⟨_, rfl, ⟨rfl, trivial⟩⟩, trivial⟩) (by rfl) (nk rfl)) (ih143 d143 (i142 + 1) (r148, r149) (by omega) ⟨by omega, (by (try simp only [List.length_set, List.length_append, List.length_cons, List.length_nil, List.length_replicate, List.length_take, List.length_drop]) <;> omega), (by (try simp only [List.length_set, List.length_append, List.length_cons, List.length_nil, List.length_replicate, List.length_take, List.length_drop]) <;> omega)⟩ h))
                      · have q147 := d_f hb145
                        obtain rfl : d143 = 0 := by omega
                        replace h := is_cnt0 h
                        refine aw_exit ?_
                        refine aq_then_exit ?_
                        refine aq_then_exit ?_
                        refine aq_in_exit ?_
                        refine aq_then ?_
                        refine aw_seq ?_
                        refine aw_region ?_
                        refine ao_read trivial (r_move rfl) rfl ?_
                        refine ao_read trivial (r_len_osm (r3.1.length : Int) Try.underlying64 rfl rfl rfl) rfl ?_
                        refine ao_read trivial (r_move rfl) rfl ?_
                        refine ao_read trivial (r_eql rfl rfl) rfl ?_
                        refine ao_read trivial (r_move rfl) rfl ?_
                        refine ao_readG (x := .v (.arr 2 (.int .i64)) s141.1) rfl (GV.T rfl) (fun hg150 => by
                              have q151 := d_t hg150
                              exact r_load_arr rfl Try.isAgg30 Try.sizeOf30 rfl rfl rfl) rfl ?_
                        refine ao_readG (x := .v (.arr 2 (.int .i64)) ([1, 1] : (List Int))) rfl (GV.T rfl) (fun hg152 => by
                              have q153 := d_t hg152
                              exact r_build_arr (l := [(0, .const (.int .i64 1)), (1, .const (.int .i64 1))]) (t := (.int .i64)) ([1, 1] : (List Int)) rfl Try.underlying30 Try.zeroValue30 Try.sizeOf3 rfl rfl rfl rfl) rfl ?_
                        refine ao_readG (x := .bool (decide (s141.1 = [1, 1]))) rfl (GV.T rfl) (fun hg154 => by
                              have q155 := d_t hg154
                              exact Reads.strip 370 rfl (hg154) (Reads.strip 371 rfl (hg154) (r_eq_ints Try.underlying30 Try.underlying3 Try.isAgg3 (info_size Try.sizeOf3) (by kernel_rfl) rfl rfl rfl))) rfl ?_
                        refine ao_read trivial (r_andB rfl rfl) rfl ?_
                        refine ao_read trivial (r_move rfl) rfl ?_
                        refine ao_readG (x := .v (.arr 2 (.int .i64)) s141.2) rfl (GV.T rfl) (fun hg156 => by
                              obtain ⟨q157, q158⟩ := and_t hg156
                              have q159 := d_t q157
                              exact r_load_arr rfl Try.isAgg30 Try.sizeOf30 rfl rfl rfl) rfl ?_
                        refine ao_readG (x := .v (.arr 2 (.int .i64)) r14.1) rfl (GV.T rfl) (fun hg160 => by
                              obtain ⟨q161, q162⟩ := and_t hg160
                              have q163 := d_t q161
                              exact r_load_arr rfl Try.isAgg30 Try.sizeOf30 rfl rfl rfl) rfl ?_
                        refine ao_readG (x := .bool (decide (s141.2 = r14.1))) rfl (GV.T rfl) (fun hg164 => by
                              obtain ⟨q165, q166⟩ := and_t hg164
                              have q167 := d_t q165
                              exact Reads.strip 375 rfl (hg164) (Reads.strip 376 rfl (hg164) (r_eq_ints Try.underlying30 Try.underlying3 Try.isAgg3 (info_size Try.sizeOf3) (by kernel_rfl) rfl rfl rfl))) rfl ?_
                        refine ao_read trivial (r_andB rfl rfl) rfl ?_
                        refine ao_read trivial (r_assign rfl) rfl ?_
                        refine ao_nil ?_
                        refine aq_then ?_
                        refine aw_ret ?_
                        refine aq_ret ?_
                        obtain rfl := is_some h
                        exact aq_finx (l := [.tmp 2]) (xs := [.bool (((decide ((r3.1.length : Int) = r2.2)) && (decide (s141.1 = [1, 1]))) && (decide (s141.2 = r14.1)))]) idn [.bool (((decide ((r3.1.length : Int) = r2.2)) && (decide (s141.1 = [1, 1]))) && (decide (s141.2 = r14.1)))] [] rfl (by exact ⟨rfl, trivial⟩) (by exact ⟨ad_ren rfl, trivial⟩) (by exact trivial) rfl (nk rfl) rfl rfl ⟨rfl, rfl⟩
                  · refine aw_seq ?_
                    refine aw_region ?_
                    refine ao_read trivial (r_move rfl) rfl ?_
                    refine ao_nil ?_
                    refine aq_then ?_
                    refine aw_cond rfl (fun hb168 => ?_) (fun hb168 => ?_)
                    · replace h := is_if hb168 h
                      refine aw_seq ?_
                      refine aw_region ?_
                      refine ao_read trivial (r_load_arr rfl Try.isAgg43 Try.sizeOf43 rfl rfl rfl) rfl ?_
                      refine ao_read trivial (r_load_arr rfl Try.isAgg43 Try.sizeOf43 rfl rfl rfl) rfl ?_
                      refine ao_read trivial (r_move rfl) rfl ?_
                      obtain ⟨r169, r169h, h⟩ := is_bind h
                      refine ao_scall trivial (scall (c_impl_FirstWins (is_mk r169h)) rfl Try.func57 rfl rfl rfl rfl (fun σ => ⟨ad_ren rfl, ad_ren rfl, ad_ren rfl, trivial⟩)) rfl ?_
                      refine ao_read trivial (r_move rfl) rfl ?_
                      refine ao_read trivial (r_extract rfl rfl) rfl ?_
                      refine ao_read trivial (r_extract rfl rfl) rfl ?_
                      refine ao_eff trivial (e_alloc 6 (y := .v (.arr 2 (.int .i64)) ((List.replicate 2 0) : (List Int))) Try.zeroValue30 (fun ρ h M => ra_zero_arr (t := (.int .i64)) rfl) rfl rfl rfl rfl rfl) rfl ?_
                      refine ao_effS trivial (e_store rfl rfl rfl rfl Try.sizeOf30 rfl) ?_
                      refine ao_read trivial (r_assign rfl) rfl ?_
                      refine ao_nil ?_
                      refine aq_then ?_
                      refine aw_seq ?_
                      refine aw_region ?_
                      refine ao_read trivial (r_load_arr rfl Try.isAgg43 Try.sizeOf43 rfl rfl rfl) rfl ?_
                      refine ao_read trivial (r_load_arr rfl Try.isAgg43 Try.sizeOf43 rfl rfl rfl) rfl ?_
                      refine ao_read trivial (r_move rfl) rfl ?_
                      obtain ⟨r170, r170h, h⟩ := is_bind h
                      refine ao_scall trivial (scall (c_impl_SameRound (is_mk r170h)) rfl Try.func59 rfl rfl rfl rfl (fun σ => ⟨ad_ren rfl, ad_ren rfl, ad_ren rfl, trivial⟩)) rfl ?_
                      refine ao_read trivial (r_move rfl) rfl ?_
                      refine ao_read trivial (r_extract rfl rfl) rfl ?_
                      refine ao_read trivial (r_extract rfl rfl) rfl ?_
                      refine ao_eff trivial (e_alloc 7 (y := .v (.arr 2 (.int .i64)) ((List.replicate 2 0) : (List Int))) Try.zeroValue30 (fun ρ h M => ra_zero_arr (t := (.int .i64)) rfl) rfl rfl rfl rfl rfl) rfl ?_
                      refine ao_effS trivial (e_store rfl rfl rfl rfl Try.sizeOf30 rfl) ?_
                      refine ao_read trivial (r_assign rfl) rfl ?_
                      refine ao_nil ?_
                      refine aq_then ?_
                      refine aw_seq ?_
                      refine aw_region ?_
                      refine ao_read trivial (r_load_arr rfl Try.isAgg43 Try.sizeOf43 rfl rfl rfl) rfl ?_
                      refine ao_read trivial (r_load_arr rfl Try.isAgg43 Try.sizeOf43 rfl rfl rfl) rfl ?_
                      refine ao_read trivial (r_move rfl) rfl ?_
                      obtain ⟨r171, r171h, h⟩ := is_bind h
                      refine ao_scall trivial (scall (c_impl_FirstWins (is_mk r171h)) rfl Try.func57 rfl rfl rfl rfl (fun σ => ⟨ad_ren rfl, ad_ren rfl, ad_ren rfl, trivial⟩)) rfl ?_
                      refine ao_read trivial (r_move rfl) rfl ?_
                      refine ao_read trivial (r_extract rfl rfl) rfl ?_
                      refine ao_read trivial (r_extract rfl rfl) rfl ?_
                      refine ao_eff trivial (e_alloc 8 (y := .v (.arr 2 (.int .i64)) ((List.replicate 2 0) : (List Int))) Try.zeroValue30 (fun ρ h M => ra_zero_arr (t := (.int .i64)) rfl) rfl rfl rfl rfl rfl) rfl ?_
                      refine ao_effS trivial (e_store rfl rfl rfl rfl Try.sizeOf30 rfl) ?_
                      refine ao_read trivial (r_assign rfl) rfl ?_
                      refine ao_nil ?_
                      refine aq_then ?_
                      refine aw_seq ?_
                      refine aw_seq ?_
                      refine aw_region ?_
                      refine ao_read trivial (r_move rfl) rfl ?_
                      refine ao_read trivial (r_not rfl) rfl ?_
                      refine ao_read trivial (r_move rfl) rfl ?_
                      refine ao_readG (x := .bool r170.2) rfl (GV.F rfl) (fun hg172 => r_move rfl) rfl ?_
                      refine ao_readG (x := .bool (!r170.2)) rfl (GV.F rfl) (fun hg173 => Reads.strip 293 rfl (hg173) (r_not rfl)) rfl ?_
                      refine ao_read trivial (r_orB rfl rfl) rfl ?_
                      refine ao_read trivial (r_move rfl) rfl ?_
                      refine ao_readG (x := .bool r171.2) rfl (GV.F rfl) (fun hg174 => by
                            obtain ⟨q175, q176⟩ := or_f (not_t hg174)
                            exact r_move rfl) rfl ?_
                      refine ao_readG (x := .bool (!r171.2)) rfl (GV.F rfl) (fun hg177 => by
                            obtain ⟨q178, q179⟩ := or_f (not_t hg177)
                            exact Reads.strip 297 rfl (hg177) (r_not rfl)) rfl ?_
                      refine ao_read trivial (r_orB rfl rfl) rfl ?_
                      refine ao_nil ?_
                      refine aq_then ?_
                      refine aw_cond rfl (fun hb180 => ?_) (fun hb180 => ?_)
                      · replace h := is_if hb180 h
                        refine aw_seq ?_
                        refine aw_region ?_
                        refine ao_read trivial (r_assign rfl) rfl ?_
                        refine ao_nil ?_
                        refine aq_then ?_
                        refine aw_ret ?_
                        refine aq_then_ret ?_
                        refine aq_then_ret ?_
                        refine aq_ret ?_
                        obtain rfl := is_some h
                        exact aq_finx (l := [.tmp 2]) (xs := [.bool false]) idn [.bool false] [] rfl (by exact ⟨rfl, trivial⟩) (by exact ⟨ad_ren rfl, trivial⟩) (by exact trivial) rfl (nk rfl) rfl rfl ⟨rfl, rfl⟩
                      · obtain ⟨q181, q182⟩ := or_f hb180
                        obtain ⟨q183, q184⟩ := or_f q181
                        replace h := is_else (ne_t hb180) h
                        refine aw_skip ?_
                        refine aq_then ?_
                        refine aw_seq ?_
                        refine aw_region ?_
                        refine ao_read trivial (r_assign rfl) rfl ?_
                        refine ao_nil ?_
                        refine aq_then ?_
                        refine aw_seq ?_
                        refine aw_seq ?_
                        refine aw_region ?_
                        refine ao_read trivial (r_assign rfl) rfl ?_
                        refine ao_nil ?_
                        refine aq_then ?_
                        refine aw_block ?_
                        refine aw_loop (AL.sub (sub_mk (rn [(2, 4), (3, 5), (4, 6), (5, 7), (6, 8)]) (by exact ⟨⟨_, rfl, ad_ren rfl⟩, ⟨_, rfl, ad_ren rfl⟩, ⟨_, rfl, ad_ren rfl⟩, ⟨_, rfl, ad_ren rfl⟩, ⟨_, rfl, ad_ren rfl⟩, ⟨_, rfl, ad_ren rfl⟩, ⟨_, rfl, ad_ren rfl⟩, ⟨_, rfl, ad_ren rfl⟩, ⟨_, rfl, ad_ren rfl⟩, ⟨_, rfl, ad_ren rfl⟩, ⟨_, rfl, ad_ren rfl⟩, ⟨_, rfl, ad_ren rfl⟩, trivial⟩) (by exact ⟨⟨_, rfl, rfl⟩, ⟨_, rfl, ⟨rfl, trivial⟩⟩, ⟨_, rfl, ⟨rfl, trivial⟩⟩, ⟨_, rfl, ⟨rfl, trivial⟩⟩, ⟨_, rfl, ⟨rfl, trivial⟩⟩, ⟨_, rfl, ⟨rfl, trivial⟩⟩, ⟨_, rfl, ⟨rfl, trivial⟩⟩, trivial⟩) (by rfl) (nk rfl)) (al_whl (fun (s185 : Int × Int) => [(4, .int .i64 r2.2), (5, .os 0), (6, .bool r3.2), (9, .ref 1 0), (21, .int .i64 r78.2.2), (22, .ref 2 0), (26, .ref 3 0), (41, .ref 4 0), (43, .ref 5 0), (45, .ref 6 0), (47, .int .i64 s185.1), (48, .int .i64 s185.2)]) (fun (s185 : Int × Int) => [(0, .row (.arr 2 (.int .i64)) r3.1), (1, .var [.arr (.int .i64) 2 r14.1]), (2, .var [.arr (.int .i64) 2 r79.1]), (3, .var [.arr (.int .i64) 2 r87.1]), (4, .var [.arr (.int .i64) 2 r169.1]), (5, .var [.arr (.int .i64) 2 r170.1]), (6, .var [.arr (.int .i64) 2 r171.1])]) (fun (s185 : Int × Int) => True) h trivial (fun d187 s185 hI h ih187 => ?_)))
                        replace h := is_whlS h
                        refine al_round ?_
                        refine aw_seq ?_
                        refine aw_seq ?_
                        refine aw_region ?_
                        refine ao_read trivial (r_move rfl) rfl ?_
                        refine ao_read trivial (r_move rfl) rfl ?_
                        refine ao_read trivial (r_mul rfl rfl) rfl ?_
                        refine ao_read trivial (r_lss rfl rfl) rfl ?_
                        refine ao_nil ?_
                        refine aq_then ?_
                        refine aw_cond rfl (fun hb189 => ?_) (fun hb189 => ?_)
                        · have q190 := d_t hb189
                          replace h := is_if (d_t hb189) h
                          refine aw_skip ?_
                          refine aq_then ?_
                          refine aw_seq ?_
                          refine aw_block ?_
                          refine aw_region ?_
                          refine ao_read trivial (r_move rfl) rfl ?_
                          refine ao_read trivial (r_mul rfl rfl) rfl ?_
                          refine ao_read trivial (r_assign rfl) rfl ?_
                          refine ao_nil ?_
                          refine aq_in ?_
                          refine aq_then ?_
                          refine aw_region ?_
                          refine ao_read trivial (r_move rfl) rfl ?_
                          refine ao_read trivial (r_add rfl rfl) rfl ?_
                          refine ao_read trivial (r_assign rfl) rfl ?_
                          refine ao_nil ?_
                          exact aq_again (AL.sub (sub_mk idn (by exact ⟨⟨_, rfl, ad_ren rfl⟩, ⟨_, rfl, ad_ren rfl⟩, ⟨_, rfl, ad_ren rfl⟩, ⟨_, rfl, ad_ren rfl⟩, ⟨_, rfl, ad_ren rfl⟩, ⟨_, rfl, ad_ren rfl⟩, ⟨_, rfl, ad_ren rfl⟩, ⟨_, rfl, ad_ren rfl⟩, ⟨_, rfl, ad_ren rfl⟩, ⟨_, rfl, ad_ren rfl⟩, ⟨_, rfl, ad_ren rfl⟩, ⟨_, rfl, ad_ren rfl⟩, trivial⟩) (by exact ⟨⟨_, rfl, rfl⟩, ⟨_, rfl, ⟨rfl, trivial⟩⟩, ⟨_, rfl, ⟨rfl, trivial⟩⟩, ⟨_, rfl, ⟨rfl, trivial⟩⟩, ⟨_, rfl, ⟨rfl, trivial⟩⟩, ⟨_, rfl, ⟨rfl, trivial⟩⟩, ⟨_, rfl, ⟨rfl, trivial⟩⟩, trivial⟩) (by rfl) (nk rfl)) (ih187 ((IntKind.wrap .i64 (6 * s185.1)), (IntKind.wrap .i64 (s185.2 + 1))) trivial h))
                        · have q191 := d_f hb189
                          replace h := is_else (d_f hb189) h
                          refine aw_exit ?_
                          refine aq_then_exit ?_
                          refine aq_then_exit ?_
                          refine aq_in_exit ?_
                          refine aq_then ?_
                          refine aw_seq ?_
                          refine aw_drawAll (by kernel_rfl) ?_
                          refine an_read 0 (by kernel_rfl) (fun _ _ _ h => h) rfl (by kernel_rfl) trivial (r_load_arr rfl Try.isAgg30 Try.sizeOf30 rfl rfl rfl) rfl ?_
                          refine an_read 1 (by kernel_rfl) (fun _ _ _ h => h) rfl (by kernel_rfl) trivial (r_move rfl) rfl ?_
                          refine an_scall 2 (by kernel_rfl) (fun _ _ _ h => h) rfl (by kernel_rfl) trivial (scall (c_laws_rParts (is_mk (rfl : p_laws_rParts r169.1 s185.1 = _))) rfl Try.func64 rfl rfl rfl rfl (fun σ => ⟨ad_ren rfl, ad_ren rfl, trivial⟩)) rfl ?_
                          refine an_read 3 (by kernel_rfl) (fun _ _ _ h => h) rfl (by kernel_rfl) trivial (r_mul rfl rfl) rfl ?_
                          refine an_read 4 (by kernel_rfl) (fun _ _ _ h => h) rfl (by kernel_rfl) trivial (r_move rfl) rfl ?_
                          refine an_read 5 (by kernel_rfl) (fun _ _ _ h => h) rfl (by kernel_rfl) trivial (r_load_arr rfl Try.isAgg30 Try.sizeOf30 rfl rfl rfl) rfl ?_
                          refine an_read 6 (by kernel_rfl) (fun _ _ _ h => h) rfl (by kernel_rfl) trivial (r_move rfl) rfl ?_
                          refine an_scall 7 (by kernel_rfl) (fun _ _ _ h => h) rfl (by kernel_rfl) trivial (scall (c_laws_rParts (is_mk (rfl : p_laws_rParts r170.1 s185.1 = _))) rfl Try.func64 rfl rfl rfl rfl (fun σ => ⟨ad_ren rfl, ad_ren rfl, trivial⟩)) rfl ?_
                          refine an_read 8 (by kernel_rfl) (fun _ _ _ h => h) rfl (by kernel_rfl) trivial (r_add rfl rfl) rfl ?_
                          refine an_read 9 (by kernel_rfl) (fun _ _ _ h => h) rfl (by kernel_rfl) trivial (r_neq rfl rfl) rfl ?_
                          refine an_read 10 (by kernel_rfl) (fun _ _ _ h => h) rfl (by kernel_rfl) trivial (r_move rfl) rfl ?_
                          refine an_readG 11 (x := .v (.arr 2 (.int .i64)) r79.1) (by kernel_rfl) (fun _ _ _ h => h) rfl (by kernel_rfl) rfl (GV.F rfl) (fun hg192 => by
                                have q193 := d_t (not_f (not_t hg192))
                                exact r_load_arr rfl Try.isAgg30 Try.sizeOf30 rfl rfl rfl) rfl ?_
                          refine an_readG 12 (x := .int .i64 s185.1) (by kernel_rfl) (fun _ _ _ h => h) rfl (by kernel_rfl) rfl (GV.F rfl) (fun hg194 => by
                                have q195 := d_t (not_f (not_t hg194))
                                exact r_move rfl) rfl ?_
                          refine an_scallG 13 (x := .int .i64 (p_laws_rParts r79.1 s185.1)) (by kernel_rfl) (fun _ _ _ h => h) rfl (by kernel_rfl) rfl (GV.F rfl) (fun hg196 => by
                                have q197 := d_t (not_f (not_t hg196))
                                exact SCall.strip 319 rfl (hg196) (SCall.strip 320 rfl (hg196) (scall (c_laws_rParts (is_mk (rfl : p_laws_rParts r79.1 s185.1 = _))) rfl Try.func64 rfl rfl rfl rfl (fun σ => ⟨ad_ren rfl, ad_ren rfl, trivial⟩)))) rfl ?_
                          refine an_readG 14 (x := .v (.arr 2 (.int .i64)) r171.1) (by kernel_rfl) (fun _ _ _ h => h) rfl (by kernel_rfl) rfl (GV.F rfl) (fun hg198 => by
                                have q199 := d_t (not_f (not_t hg198))
                                exact r_load_arr rfl Try.isAgg30 Try.sizeOf30 rfl rfl rfl) rfl ?_
                          refine an_readG 15 (x := .int .i64 s185.1) (by kernel_rfl) (fun _ _ _ h => h) rfl (by kernel_rfl) rfl (GV.F rfl) (fun hg200 => by
                                have q201 := d_t (not_f (not_t hg200))
                                exact r_move rfl) rfl ?_
                          refine an_scallG 16 (x := .int .i64 (p_laws_rParts r171.1 s185.1)) (by kernel_rfl) (fun _ _ _ h => h) rfl (by kernel_rfl) rfl (GV.F rfl) (fun hg202 => by
                                have q203 := d_t (not_f (not_t hg202))
                                exact SCall.strip 322 rfl (hg202) (SCall.strip 323 rfl (hg202) (scall (c_laws_rParts (is_mk (rfl : p_laws_rParts r171.1 s185.1 = _))) rfl Try.func64 rfl rfl rfl rfl (fun σ => ⟨ad_ren rfl, ad_ren rfl, trivial⟩)))) rfl ?_
                          refine an_readG 17 (x := .int .i64 (IntKind.wrap .i64 ((p_laws_rParts r79.1 s185.1) + (p_laws_rParts r171.1 s185.1)))) (by kernel_rfl) (fun _ _ _ h => h) rfl (by kernel_rfl) rfl (GV.F rfl) (fun hg204 => by
                                have q205 := d_t (not_f (not_t hg204))
                                exact Reads.strip 321 rfl (hg204) (Reads.strip 324 rfl (hg204) (r_add rfl rfl))) rfl ?_
                          refine an_readG 18 (x := .int .i64 s185.1) (by kernel_rfl) (fun _ _ _ h => h) rfl (by kernel_rfl) rfl (GV.F rfl) (fun hg206 => by
                                have q207 := d_t (not_f (not_t hg206))
                                exact r_move rfl) rfl ?_
                          refine an_readG 19 (x := .v (.arr 2 (.int .i64)) r87.1) (by kernel_rfl) (fun _ _ _ h => h) rfl (by kernel_rfl) rfl (GV.F rfl) (fun hg208 => by
                                have q209 := d_t (not_f (not_t hg208))
                                exact r_load_arr rfl Try.isAgg30 Try.sizeOf30 rfl rfl rfl) rfl ?_
                          refine an_readG 20 (x := .int .i64 s185.1) (by kernel_rfl) (fun _ _ _ h => h) rfl (by kernel_rfl) rfl (GV.F rfl) (fun hg210 => by
                                have q211 := d_t (not_f (not_t hg210))
                                exact r_move rfl) rfl ?_
                          refine an_scallG 21 (x := .int .i64 (p_laws_rParts r87.1 s185.1)) (by kernel_rfl) (fun _ _ _ h => h) rfl (by kernel_rfl) rfl (GV.F rfl) (fun hg212 => by
                                have q213 := d_t (not_f (not_t hg212))
                                exact SCall.strip 327 rfl (hg212) (SCall.strip 328 rfl (hg212) (scall (c_laws_rParts (is_mk (rfl : p_laws_rParts r87.1 s185.1 = _))) rfl Try.func64 rfl rfl rfl rfl (fun σ => ⟨ad_ren rfl, ad_ren rfl, trivial⟩)))) rfl ?_
                          refine an_readG 22 (x := .int .i64 (IntKind.wrap .i64 (s185.1 + (p_laws_rParts r87.1 s185.1)))) (by kernel_rfl) (fun _ _ _ h => h) rfl (by kernel_rfl) rfl (GV.F rfl) (fun hg214 => by
                                have q215 := d_t (not_f (not_t hg214))
                                exact Reads.strip 326 rfl (hg214) (Reads.strip 329 rfl (hg214) (r_add rfl rfl))) rfl ?_
                          refine an_readG 23 (x := .bool (!(decide ((IntKind.wrap .i64 ((p_laws_rParts r79.1 s185.1) + (p_laws_rParts r171.1 s185.1))) = (IntKind.wrap .i64 (s185.1 + (p_laws_rParts r87.1 s185.1))))))) (by kernel_rfl) (fun _ _ _ h => h) rfl (by kernel_rfl) rfl (GV.F rfl) (fun hg216 => by
                                have q217 := d_t (not_f (not_t hg216))
                                exact Reads.strip 325 rfl (hg216) (Reads.strip 330 rfl (hg216) (r_neq rfl rfl))) rfl ?_
                          refine an_read 24 (by kernel_rfl) (fun _ _ _ h => h) rfl (by kernel_rfl) trivial (r_orB rfl rfl) rfl ?_
                          refine an_done rfl ?_
                          refine aq_then ?_
                          refine aw_cond rfl (fun hb218 => ?_) (fun hb218 => ?_)
                          · replace h := is_if hb218 h
                            refine aw_seq ?_
                            refine aw_region ?_
                            refine ao_read trivial (r_assign rfl) rfl ?_
                            refine ao_nil ?_
                            refine aq_then ?_
                            refine aw_ret ?_
                            refine aq_then_ret ?_
                            refine aq_ret ?_
                            obtain rfl := is_some h
                            exact aq_finx (l := [.tmp 2]) (xs := [.bool false]) idn [.bool false] [] rfl (by exact ⟨rfl, trivial⟩) (by exact ⟨ad_ren rfl, trivial⟩) (by exact trivial) rfl (nk rfl) rfl rfl ⟨rfl, rfl⟩
                          · obtain ⟨q219, q220⟩ := or_f hb218
                            have q221 := d_t (not_f q219)
                            have q222 := d_t (not_f q220)
                            replace h := is_else (ne_t hb218) h
                            refine aw_skip ?_
                            exact aq_then (AW.sub (sub_mk idn (by exact ⟨⟨_, rfl, ad_ren rfl⟩, ⟨_, rfl, ad_ren rfl⟩, ⟨_, rfl, ad_ren rfl⟩, ⟨_, rfl, ad_ren rfl⟩, trivial⟩) (by exact ⟨⟨_, rfl, rfl⟩, ⟨_, rfl, ⟨rfl, trivial⟩⟩, trivial⟩) (by rfl) (nk rfl)) (j139 () trivial h))
                    · replace h := is_else (ne_t hb168) h
                      refine aw_skip ?_
                      exact aq_then (AW.sub (sub_mk idn (by exact ⟨⟨_, rfl, ad_ren rfl⟩, ⟨_, rfl, ad_ren rfl⟩, ⟨_, rfl, ad_ren rfl⟩, ⟨_, rfl, ad_ren rfl⟩, trivial⟩) (by exact ⟨⟨_, rfl, rfl⟩, ⟨_, rfl, ⟨rfl, trivial⟩⟩, trivial⟩) (by rfl) (nk rfl)) (j139 () trivial h))
                · refine aw_seq ?_
                  refine aw_region ?_
                  refine ao_read trivial (r_move rfl) rfl ?_
                  refine ao_nil ?_
                  refine aq_then ?_
                  refine aw_cond rfl (fun hb223 => ?_) (fun hb223 => ?_)
                  · replace h := is_if hb223 h
                    refine aw_seq ?_
                    refine aw_region ?_
                    refine ao_read trivial (r_assign rfl) rfl ?_
                    refine ao_nil ?_
                    refine aq_then ?_
                    refine aw_block ?_
                    refine aw_loop (AL.sub (fr' := [(4, .int .i64 r2.2), (5, .os 0), (6, .bool r3.2), (9, .ref 1 0), (19, .ref 2 0), (20, .ref 3 0), (21, .int .i64 r78.2.2), (22, .ref 4 0), (23, .bool r79.2), (26, .ref 5 0), (30, .os 6), (31, .int .i64 r106.2), (32, .int .i64 r108.1), (33, .ref 7 0), (38, .int .i64 0)]) (H' := [(0, .row (.arr 2 (.int .i64)) r3.1), (1, .var [.arr (.int .i64) 2 r14.1]), (2, .var [.arr (.int .i64) 6 r78.1]), (3, .var [.arr (.int .i64) 6 r78.2.1]), (4, .var [.arr (.int .i64) 2 r79.1]), (5, .var [.arr (.int .i64) 2 r87.1]), (6, .row (.arr 6 (.int .i64)) r106.1), (7, .var [.arr (.int .i64) 2 r108.2.1])]) (sub_mk (rn [(0, 1), (1, 3), (2, 8), (3, 9), (4, 10), (5, 12), (6, 14), (7, 15)]) (by exact ⟨⟨_, rfl, ad_ren rfl⟩, ⟨_, rfl, ad_ren rfl⟩, ⟨_, rfl, ad_ren rfl⟩, ⟨_, rfl, ad_ren rfl⟩, ⟨_, rfl, ad_ren rfl⟩, ⟨_, rfl, ad_ren rfl⟩, ⟨_, rfl, ad_ren rfl⟩, ⟨_, rfl, ad_ren rfl⟩, ⟨_, rfl, ad_ren rfl⟩, ⟨_, rfl, ad_ren rfl⟩, ⟨_, rfl, ad_ren rfl⟩, ⟨_, rfl, ad_ren rfl⟩, ⟨_, rfl, ad_ren rfl⟩, ⟨_, rfl, ad_ren rfl⟩, ⟨_, rfl, ad_ren rfl⟩, trivial⟩) (by exact ⟨⟨_, rfl, rfl⟩, ⟨_, rfl, ⟨rfl, trivial⟩⟩, ⟨_, rfl, ⟨rfl, trivial⟩⟩, ⟨_, rfl, ⟨rfl, trivial⟩⟩, ⟨_, rfl, ⟨rfl, trivial⟩⟩, ⟨_, rfl, ⟨rfl, trivial⟩⟩, ⟨_, rfl, rfl⟩, ⟨_, rfl, ⟨rfl, trivial⟩⟩, trivial⟩) (by rfl) (nk rfl)) (al_cnt (fun i225 (s224 : Unit) => [(4, .int .i64 r2.2), (5, .os 0), (6, .bool r3.2), (9, .ref 1 0), (19, .ref 2 0), (20, .ref 3 0), (21, .int .i64 r78.2.2), (22, .ref 4 0), (23, .bool r79.2), (26, .ref 5 0), (30, .os 6), (31, .int .i64 r106.2), (32, .int .i64 r108.1), (33, .ref 7 0), (38, .int .i64 i225)]) (fun i225 (s224 : Unit) => [(0, .row (.arr 2 (.int .i64)) r3.1), (1, .var [.arr (.int .i64) 2 r14.1]), (2, .var [.arr (.int .i64) 6 r78.1]), (3, .var [.arr (.int .i64) 6 r78.2.1]), (4, .var [.arr (.int .i64) 2 r79.1]), (5, .var [.arr (.int .i64) 2 r87.1]), (6, .row (.arr 6 (.int .i64)) r106.1), (7, .var [.arr (.int .i64) 2 r108.2.1])]) (fun d i225 (s224 : Unit) => d = Int.toNat ((r106.1.length : Int) - i225) ∧ 0 ≤ i225 ∧ i225 ≤ (r106.1.length : Int)) h ⟨rfl, (by (try simp only [List.length_set, List.length_append, List.length_cons, List.length_nil, List.length_replicate, List.length_take, List.length_drop]) <;> omega), (by (try simp only [List.length_set, List.length_append, List.length_cons, List.length_nil, List.length_replicate, List.length_take, List.length_drop]) <;> omega)⟩ (fun d226 i225 s224 hI h ih226 => ?_)))
                    obtain ⟨hd, _, _⟩ := hI
                    refine al_round ?_
                    refine aw_seq ?_
                    refine aw_seq ?_
                    refine aw_region ?_
                    refine ao_read trivial (r_move rfl) rfl ?_
                    refine ao_read trivial (r_move rfl) rfl ?_
                    refine ao_read trivial (r_len_osm (r106.1.length : Int) Try.underlying24 rfl rfl rfl) rfl ?_
                    refine ao_read trivial (r_lss rfl rfl) rfl ?_
                    refine ao_nil ?_
                    refine aq_then ?_
                    refine aw_cond rfl (fun hb228 => ?_) (fun hb228 => ?_)
                    · have q229 := d_t hb228
                      obtain ⟨d226, rfl⟩ : ∃ e, d226 = e + 1 := ⟨d226 - 1, by omega⟩
                      replace h := is_cntS h
                      refine aw_skip ?_
                      refine aq_then ?_
                      refine aw_seq ?_
                      refine aw_block ?_
                      refine aw_seq ?_
                      refine aw_region ?_
                      refine ao_read trivial (r_move rfl) rfl ?_
                      refine ao_read trivial (r_move rfl) rfl ?_
                      refine ao_read trivial (r_idxAddr_os Try.underlying24 Try.sizeOf43 rfl rfl rfl (show 0 ≤ i225 from by omega) (show i225 < (r106.1.length : Int) from by omega)) rfl ?_
                      refine ao_read trivial (r_load_elemv (t := (.arr 6 (.int .i64))) Try.isAgg43 Try.sizeOf43 rfl rfl (show i225.toNat < r106.1.length from by omega)) rfl ?_
                      refine ao_read trivial (r_move rfl) rfl ?_
                      obtain ⟨r231, r231h, h⟩ := is_bind h
                      refine ao_scall trivial (scall (c_impl_MeanRun (is_mk r231h)) rfl Try.func51 rfl rfl rfl rfl (fun σ => ⟨ad_ren rfl, ad_ren rfl, trivial⟩)) rfl ?_
                      refine ao_read trivial (r_move rfl) rfl ?_
                      refine ao_read trivial (r_extract rfl rfl) rfl ?_
                      refine ao_read trivial (r_extract rfl rfl) rfl ?_
                      refine ao_eff trivial (e_alloc 8 (y := .v (.arr 2 (.int .i64)) ((List.replicate 2 0) : (List Int))) Try.zeroValue30 (fun ρ h M => ra_zero_arr (t := (.int .i64)) rfl) rfl rfl rfl rfl rfl) rfl ?_
                      refine ao_effS trivial (e_store rfl rfl rfl rfl Try.sizeOf30 rfl) ?_
                      refine ao_read trivial (r_assign rfl) rfl ?_
                      refine ao_nil ?_
                      refine aq_then ?_
                      refine aw_seq ?_
                      refine aw_region ?_
                      refine ao_read trivial (r_move rfl) rfl ?_
                      refine ao_read trivial (r_not rfl) rfl ?_
                      refine ao_read trivial (r_move rfl) rfl ?_
                      refine ao_readG (x := .elem 8 0 1 0) rfl (GV.F rfl) (fun hg232 => r_idxAddr_arr (i := 0) Try.underlying30 Try.sizeOf3 rfl rfl (show 0 ≤ 0 from by omega) (show 0 < (2 : Int) from by omega)) rfl ?_
                      refine ao_readG (x := .int .i64 (r231.1.getD 0 0)) rfl (GV.F rfl) (fun hg233 => Reads.strip 246 rfl (hg233) (r_load_elema_int Try.isAgg3 Try.sizeOf3 rfl rfl rfl (show 0 < 2 from by omega))) rfl ?_
                      refine ao_readG (x := .elem 7 0 1 1) rfl (GV.F rfl) (fun hg234 => r_idxAddr_arr (i := 1) Try.underlying30 Try.sizeOf3 rfl rfl (show 0 ≤ 1 from by omega) (show 1 < (2 : Int) from by omega)) rfl ?_
                      refine ao_readG (x := .int .i64 (r108.2.1.getD 1 0)) rfl (GV.F rfl) (fun hg235 => Reads.strip 248 rfl (hg235) (r_load_elema_int Try.isAgg3 Try.sizeOf3 rfl rfl rfl (show 1 < 2 from by omega))) rfl ?_
                      refine ao_readG (x := .int .i64 (IntKind.wrap .i64 ((r231.1.getD 0 0) * (r108.2.1.getD 1 0)))) rfl (GV.F rfl) (fun hg236 => Reads.strip 247 rfl (hg236) (Reads.strip 249 rfl (hg236) (r_mul rfl rfl))) rfl ?_
                      refine ao_readG (x := .elem 7 0 1 0) rfl (GV.F rfl) (fun hg237 => r_idxAddr_arr (i := 0) Try.underlying30 Try.sizeOf3 rfl rfl (show 0 ≤ 0 from by omega) (show 0 < (2 : Int) from by omega)) rfl ?_
                      refine ao_readG (x := .int .i64 (r108.2.1.getD 0 0)) rfl (GV.F rfl) (fun hg238 => Reads.strip 251 rfl (hg238) (r_load_elema_int Try.isAgg3 Try.sizeOf3 rfl rfl rfl (show 0 < 2 from by omega))) rfl ?_
                      refine ao_readG (x := .elem 8 0 1 1) rfl (GV.F rfl) (fun hg239 => r_idxAddr_arr (i := 1) Try.underlying30 Try.sizeOf3 rfl rfl (show 0 ≤ 1 from by omega) (show 1 < (2 : Int) from by omega)) rfl ?_
                      refine ao_readG (x := .int .i64 (r231.1.getD 1 0)) rfl (GV.F rfl) (fun hg240 => Reads.strip 253 rfl (hg240) (r_load_elema_int Try.isAgg3 Try.sizeOf3 rfl rfl rfl (show 1 < 2 from by omega))) rfl ?_
                      refine ao_readG (x := .int .i64 (IntKind.wrap .i64 ((r108.2.1.getD 0 0) * (r231.1.getD 1 0)))) rfl (GV.F rfl) (fun hg241 => Reads.strip 252 rfl (hg241) (Reads.strip 254 rfl (hg241) (r_mul rfl rfl))) rfl ?_
                      refine ao_readG (x := .bool (decide ((IntKind.wrap .i64 ((r231.1.getD 0 0) * (r108.2.1.getD 1 0))) < (IntKind.wrap .i64 ((r108.2.1.getD 0 0) * (r231.1.getD 1 0)))))) rfl (GV.F rfl) (fun hg242 => Reads.strip 250 rfl (hg242) (Reads.strip 255 rfl (hg242) (r_lss rfl rfl))) rfl ?_
                      refine ao_read trivial (r_orB rfl rfl) rfl ?_
                      refine ao_read trivial (r_move rfl) rfl ?_
                      refine ao_readG (x := .int .i64 i225) rfl (GV.F rfl) (fun hg243 => by
                            obtain ⟨q244, q245⟩ := or_f (not_t hg243)
                            have q246 : ¬ ((IntKind.wrap .i64 ((r231.1.getD 0 0) * (r108.2.1.getD 1 0))) < (IntKind.wrap .i64 ((r108.2.1.getD 0 0) * (r231.1.getD 1 0)))) := d_f q245
                            exact r_move rfl) rfl ?_
                      refine ao_readG (x := .int .i64 r108.1) rfl (GV.F rfl) (fun hg247 => by
                            obtain ⟨q248, q249⟩ := or_f (not_t hg247)
                            have q250 : ¬ ((IntKind.wrap .i64 ((r231.1.getD 0 0) * (r108.2.1.getD 1 0))) < (IntKind.wrap .i64 ((r108.2.1.getD 0 0) * (r231.1.getD 1 0)))) := d_f q249
                            exact r_move rfl) rfl ?_
                      refine ao_readG (x := .bool (decide (i225 = r108.1))) rfl (GV.F rfl) (fun hg251 => by
                            obtain ⟨q252, q253⟩ := or_f (not_t hg251)
                            have q254 : ¬ ((IntKind.wrap .i64 ((r231.1.getD 0 0) * (r108.2.1.getD 1 0))) < (IntKind.wrap .i64 ((r108.2.1.getD 0 0) * (r231.1.getD 1 0)))) := d_f q253
                            exact Reads.strip 259 rfl (hg251) (Reads.strip 260 rfl (hg251) (r_eql rfl rfl))) rfl ?_
                      refine ao_readG (x := .bool (decide (i225 = r108.1))) rfl (GV.F rfl) (fun hg255 => by
                            obtain ⟨q256, q257⟩ := or_f (not_t hg255)
                            have q258 : ¬ ((IntKind.wrap .i64 ((r231.1.getD 0 0) * (r108.2.1.getD 1 0))) < (IntKind.wrap .i64 ((r108.2.1.getD 0 0) * (r231.1.getD 1 0)))) := d_f q257
                            exact Reads.strip 261 rfl (hg255) (r_move rfl)) rfl ?_
                      refine ao_readG (x := .v (.arr 2 (.int .i64)) r231.1) rfl (GV.gT rfl) (fun hg259 => by
                            obtain ⟨q260, q261⟩ := and_t hg259
                            obtain ⟨q262, q263⟩ := or_f (not_t q260)
                            have q264 : ¬ ((IntKind.wrap .i64 ((r231.1.getD 0 0) * (r108.2.1.getD 1 0))) < (IntKind.wrap .i64 ((r108.2.1.getD 0 0) * (r231.1.getD 1 0)))) := d_f q263
                            have q265 := d_t q261
                            exact r_load_arr rfl Try.isAgg30 Try.sizeOf30 rfl rfl rfl) rfl ?_
                      refine ao_readG (x := .v (.arr 2 (.int .i64)) r108.2.1) rfl (GV.gT rfl) (fun hg266 => by
                            obtain ⟨q267, q268⟩ := and_t hg266
                            obtain ⟨q269, q270⟩ := or_f (not_t q267)
                            have q271 : ¬ ((IntKind.wrap .i64 ((r231.1.getD 0 0) * (r108.2.1.getD 1 0))) < (IntKind.wrap .i64 ((r108.2.1.getD 0 0) * (r231.1.getD 1 0)))) := d_f q270
                            have q272 := d_t q268
                            exact r_load_arr rfl Try.isAgg30 Try.sizeOf30 rfl rfl rfl) rfl ?_
                      refine ao_readG (x := .bool (!(decide (r231.1 = r108.2.1)))) rfl (GV.gT rfl) (fun hg273 => by
                            obtain ⟨q274, q275⟩ := and_t hg273
                            obtain ⟨q276, q277⟩ := or_f (not_t q274)
                            have q278 : ¬ ((IntKind.wrap .i64 ((r231.1.getD 0 0) * (r108.2.1.getD 1 0))) < (IntKind.wrap .i64 ((r108.2.1.getD 0 0) * (r231.1.getD 1 0)))) := d_f q277
                            have q279 := d_t q275
                            exact Reads.strip 263 rfl (hg273) (Reads.strip 264 rfl (hg273) (r_eq_ints Try.underlying30 Try.underlying3 Try.isAgg3 (info_size Try.sizeOf3) (by kernel_rfl) rfl rfl rfl))) rfl ?_
                      refine ao_readG (x := .bool ((decide (i225 = r108.1)) && (!(decide (r231.1 = r108.2.1))))) rfl (GV.F rfl) (fun hg280 => by
                            obtain ⟨q281, q282⟩ := or_f (not_t hg280)
                            have q283 : ¬ ((IntKind.wrap .i64 ((r231.1.getD 0 0) * (r108.2.1.getD 1 0))) < (IntKind.wrap .i64 ((r108.2.1.getD 0 0) * (r231.1.getD 1 0)))) := d_f q282
                            exact Reads.strip 262 rfl (hg280) (r_andBg rfl rfl (tr_and (hg280)))) rfl ?_
                      refine ao_read trivial (r_orB rfl rfl) rfl ?_
                      refine ao_nil ?_
                      refine aq_then ?_
                      refine aw_cond rfl (fun hb284 => ?_) (fun hb284 => ?_)
                      · replace h := is_if hb284 h
                        refine aw_seq ?_
                        refine aw_region ?_
                        refine ao_read trivial (r_assign rfl) rfl ?_
                        refine ao_nil ?_
                        refine aq_then ?_
                        refine aw_ret ?_
                        refine aq_in_ret ?_
                        refine aq_then_ret ?_
                        refine aq_then_ret ?_
                        refine aq_in_ret ?_
                        refine aq_then_ret ?_
                        refine aq_ret ?_
                        obtain rfl := is_some h
                        exact aq_finx (l := [.tmp 2]) (xs := [.bool false]) idn [.bool false] [] rfl (by exact ⟨rfl, trivial⟩) (by exact ⟨ad_ren rfl, trivial⟩) (by exact trivial) rfl (nk rfl) rfl rfl ⟨rfl, rfl⟩
                      · obtain ⟨q285, q286⟩ := or_f hb284
                        obtain ⟨q287, q288⟩ := or_f q285
                        have q289 : ¬ ((IntKind.wrap .i64 ((r231.1.getD 0 0) * (r108.2.1.getD 1 0))) < (IntKind.wrap .i64 ((r108.2.1.getD 0 0) * (r231.1.getD 1 0)))) := d_f q288
                        replace h := is_else (ne_t hb284) h
                        refine aw_skip ?_
                        refine aq_in ?_
                        refine aq_then ?_
                        refine aw_region ?_
                        refine ao_read trivial (r_move rfl) rfl ?_
                        refine ao_read trivial (r_addI rfl rfl (wrap_id (by omega) (by omega))) rfl ?_
                        refine ao_read trivial (r_assign rfl) rfl ?_
                        refine ao_nil ?_
                        exact aq_again (AL.sub (sub_mk idn (by exact ⟨⟨_, rfl, ad_ren rfl⟩, ⟨_, rfl, ad_ren rfl⟩, ⟨_, rfl, ad_ren rfl⟩, ⟨_, rfl, ad_ren rfl⟩, ⟨_, rfl, ad_ren rfl⟩, ⟨_, rfl, ad_ren rfl⟩, ⟨_, rfl, ad_ren rfl⟩, ⟨_, rfl, ad_ren rfl⟩, ⟨_, rfl, ad_ren rfl⟩, ⟨_, rfl, ad_ren rfl⟩, ⟨_, rfl, ad_ren rfl⟩, ⟨_, rfl, ad_ren rfl⟩, ⟨_, rfl, ad_ren rfl⟩, ⟨_, rfl, ad_ren rfl⟩, ⟨_, rfl, ad_ren rfl⟩, trivial⟩) (by exact ⟨⟨_, rfl, rfl⟩, ⟨_, rfl, ⟨rfl, trivial⟩⟩, ⟨_, rfl, ⟨rfl, trivial⟩⟩, ⟨_, rfl, ⟨rfl, trivial⟩⟩, ⟨_, rfl, ⟨rfl, trivial⟩⟩, ⟨_, rfl, ⟨rfl, trivial⟩⟩, ⟨_, rfl, rfl⟩, ⟨_, rfl, ⟨rfl, trivial⟩⟩, trivial⟩) (by rfl) (nk rfl)) (ih226 d226 (i225 + 1) () (by omega) ⟨by omega, (by (try simp only [List.length_set, List.length_append, List.length_cons, List.length_nil, List.length_replicate, List.length_take, List.length_drop]) <;> omega), (by (try simp only [List.length_set, List.length_append, List.length_cons, List.length_nil, List.length_replicate, List.length_take, List.length_drop]) <;> omega)⟩ h))
                    · have q230 := d_f hb228
                      obtain rfl : d226 = 0 := by omega
                      replace h := is_cnt0 h
                      refine aw_exit ?_
                      refine aq_then_exit ?_
                      refine aq_then_exit ?_
                      refine aq_in_exit ?_
                      exact aq_then (AW.sub (sub_mk idn (by exact ⟨⟨_, rfl, ad_ren rfl⟩, ⟨_, rfl, ad_ren rfl⟩, ⟨_, rfl, ad_ren rfl⟩, ⟨_, rfl, ad_ren rfl⟩, ⟨_, rfl, ad_ren rfl⟩, ⟨_, rfl, ad_ren rfl⟩, ⟨_, rfl, ad_ren rfl⟩, ⟨_, rfl, ad_ren rfl⟩, ⟨_, rfl, ad_ren rfl⟩, ⟨_, rfl, ad_ren rfl⟩, trivial⟩) (by exact ⟨⟨_, rfl, rfl⟩, ⟨_, rfl, ⟨rfl, trivial⟩⟩, ⟨_, rfl, ⟨rfl, trivial⟩⟩, ⟨_, rfl, ⟨rfl, trivial⟩⟩, ⟨_, rfl, ⟨rfl, trivial⟩⟩, ⟨_, rfl, ⟨rfl, trivial⟩⟩, trivial⟩) (by rfl) (nk rfl)) (j136 () trivial h))
                  · replace h := is_else (ne_t hb223) h
                    refine aw_skip ?_
                    exact aq_then (AW.sub (sub_mk (rn [(0, 1), (1, 3), (2, 8), (3, 9), (4, 10), (5, 12)]) (by exact ⟨⟨_, rfl, ad_ren rfl⟩, ⟨_, rfl, ad_ren rfl⟩, ⟨_, rfl, ad_ren rfl⟩, ⟨_, rfl, ad_ren rfl⟩, ⟨_, rfl, ad_ren rfl⟩, ⟨_, rfl, ad_ren rfl⟩, ⟨_, rfl, ad_ren rfl⟩, ⟨_, rfl, ad_ren rfl⟩, ⟨_, rfl, ad_ren rfl⟩, ⟨_, rfl, ad_ren rfl⟩, trivial⟩) (by exact ⟨⟨_, rfl, rfl⟩, ⟨_, rfl, ⟨rfl, trivial⟩⟩, ⟨_, rfl, ⟨rfl, trivial⟩⟩, ⟨_, rfl, ⟨rfl, trivial⟩⟩, ⟨_, rfl, ⟨rfl, trivial⟩⟩, ⟨_, rfl, ⟨rfl, trivial⟩⟩, trivial⟩) (by rfl) (nk rfl)) (j136 () trivial h))
end Go.GA
