/- Walks: what the Go functions compute, by the printed lines below. -/
import Derived.Test.YtkgfflnngmmniaaC11wb
namespace Go.GA
open Go Go.Proofs
set_option maxRecDepth 100000
set_option linter.unusedVariables false
theorem c_spec_l2Less {x0 : (List Int)} {x1 : (List Int)} {r : Bool} (h : Is (p_spec_l2Less x0 x1) r) :
    Scalar Try.prog 89 [.v (.arr 2 (.int .i64)) x0, .v (.arr 2 (.int .i64)) x1] (.bool r) := by
  unfold p_spec_l2Less at h
  refine ac_enter ⟨16, 0⟩ Try.func89 rfl rfl rfl rfl rfl (fun Γ => ?_)
  refine aw_seq ?_
  refine aw_region ?_
  refine ao_eff trivial (e_box 0 rfl rfl rfl rfl rfl rfl) rfl ?_
  refine ao_eff trivial (e_box 1 rfl rfl rfl rfl rfl rfl) rfl ?_
  refine ao_read trivial (r_assign rfl) rfl ?_
  refine ao_nil ?_
  refine aq_then ?_
  refine aw_seq ?_
  refine aw_region ?_
  refine ao_read trivial (r_idxAddr_arr Try.underlying37 Try.sizeOf3 rfl rfl (by omega) (by omega)) rfl ?_
  refine ao_read trivial (r_load_elema_int Try.isAgg3 Try.sizeOf3 rfl rfl rfl (by omega)) rfl ?_
  refine ao_read trivial (r_idxAddr_arr Try.underlying37 Try.sizeOf3 rfl rfl (by omega) (by omega)) rfl ?_
  refine ao_read trivial (r_load_elema_int Try.isAgg3 Try.sizeOf3 rfl rfl rfl (by omega)) rfl ?_
  refine ao_read trivial (r_mul rfl rfl) rfl ?_
  refine ao_read trivial (r_idxAddr_arr Try.underlying37 Try.sizeOf3 rfl rfl (by omega) (by omega)) rfl ?_
  refine ao_read trivial (r_load_elema_int Try.isAgg3 Try.sizeOf3 rfl rfl rfl (by omega)) rfl ?_
  refine ao_read trivial (r_idxAddr_arr Try.underlying37 Try.sizeOf3 rfl rfl (by omega) (by omega)) rfl ?_
  refine ao_read trivial (r_load_elema_int Try.isAgg3 Try.sizeOf3 rfl rfl rfl (by omega)) rfl ?_
  refine ao_read trivial (r_mul rfl rfl) rfl ?_
  refine ao_read trivial (r_lss rfl rfl) rfl ?_
  refine ao_read trivial (r_assign rfl) rfl ?_
  refine ao_nil ?_
  refine aq_then ?_
  refine aw_ret ?_
  refine aq_ret ?_
  obtain rfl := is_eq h
  exact aq_finx (l := [.tmp 4]) (xs := [.bool (decide ((IntKind.wrap .i64 ((x0.getD 0 0) * (x1.getD 1 0))) < (IntKind.wrap .i64 ((x1.getD 0 0) * (x0.getD 1 0)))))]) idn [.bool (decide ((IntKind.wrap .i64 ((x0.getD 0 0) * (x1.getD 1 0))) < (IntKind.wrap .i64 ((x1.getD 0 0) * (x0.getD 1 0)))))] [] rfl (by exact ⟨rfl, trivial⟩) (by exact ⟨ad_ren rfl, trivial⟩) (by exact trivial) rfl (nk rfl) rfl rfl ⟨rfl, rfl⟩
theorem c_spec_ChanceAsFar {fu : Nat} {x0 : (List Int)} {x1 : (List Int)} {r : (List Int) × Bool} (h : Is (p_spec_ChanceAsFar fu x0 x1) (some r)) :
    Scalar Try.prog 47 [.v (.arr 6 (.int .i64)) x0, .v (.slice (.int .i64)) x1] (.tup [.v (.arr 2 (.int .i64)) r.1, .bool r.2]) := by
  unfold p_spec_ChanceAsFar at h
  refine ac_enter ⟨56, 0⟩ Try.func47 rfl rfl rfl rfl rfl (fun Γ => ?_)
  refine sl_len_m 1 (x1.length : Int) rfl rfl (fun hl1 => ?_)
  refine aw_seq ?_
  refine aw_region ?_
  refine ao_eff trivial (e_box 0 rfl rfl rfl rfl rfl rfl) rfl ?_
  refine ao_eff trivial (e_alloc 1 (y := .v (.arr 2 (.int .i64)) ((List.replicate 2 0) : (List Int))) Try.zeroValue37 (fun ρ h M => ra_zero_arr (t := (.int .i64)) rfl) rfl rfl rfl rfl rfl) rfl ?_
  refine ao_read trivial (r_assign rfl) rfl ?_
  refine ao_nil ?_
  refine aq_then ?_
  refine aw_seq ?_
  refine aw_seq ?_
  refine aw_region ?_
  refine ao_read trivial (r_load_arr rfl Try.isAgg22 Try.sizeOf22 rfl rfl rfl) rfl ?_
  refine ao_read trivial (r_move rfl) rfl ?_
  obtain ⟨r1, r1h, h⟩ := is_bind h
  refine ao_scall trivial (scall (c_spec_l11Counts (is_mk r1h)) rfl Try.func62 rfl rfl rfl rfl (fun σ => ⟨ad_ren rfl, ad_ren rfl, trivial⟩)) rfl ?_
  refine ao_read trivial (r_not rfl) rfl ?_
  refine ao_read trivial (r_move rfl) rfl ?_
  refine ao_readG (x := .v (.slice (.int .i64)) x1) rfl (GV.F rfl) (fun hg2 => r_move rfl) rfl ?_
  refine ao_scallG (r := .int .i64 (p_spec_l11Sum x1)) rfl (GV.F rfl) (fun hg3 => SCall.strip 15 rfl (hg3) (scall (c_spec_l11Sum (is_mk (rfl : p_spec_l11Sum x1 = _))) rfl Try.func73 rfl rfl rfl rfl (fun σ => ⟨ad_ren rfl, trivial⟩))) rfl ?_
  refine ao_readG (x := .bool (decide (8 < (p_spec_l11Sum x1)))) rfl (GV.F rfl) (fun hg4 => Reads.strip 16 rfl (hg4) (r_gtr rfl rfl)) rfl ?_
  refine ao_read trivial (r_orB rfl rfl) rfl ?_
  refine ao_nil ?_
  refine aq_then ?_
  refine aw_cond rfl (fun hb5 => ?_) (fun hb5 => ?_)
  · replace h := is_if hb5 h
    refine aw_seq ?_
    refine aw_region ?_
    refine ao_read trivial (r_build_zero (t := (.int .i64)) Try.underlying37 Try.zeroValue37 Try.sizeOf3 rfl) rfl ?_
    refine ao_effS trivial (e_store rfl rfl rfl rfl Try.sizeOf37 rfl) ?_
    refine ao_read trivial (r_assign rfl) rfl ?_
    refine ao_nil ?_
    refine aq_then ?_
    refine aw_ret ?_
    refine aq_then_ret ?_
    refine aq_ret ?_
    obtain rfl := is_some h
    exact aq_finx (l := [.cell 4 37, .tmp 5]) (xs := [.v (.arr 2 (.int .i64)) ((List.replicate 2 0) : (List Int)), .bool false]) idn [.v (.arr 2 (.int .i64)) ((List.replicate 2 0) : (List Int)), .bool false] [] rfl (by exact ⟨⟨⟨_, _, rfl⟩, r_load_arr rfl Try.isAgg37 Try.sizeOf37 rfl rfl rfl⟩, rfl, trivial⟩) (by exact ⟨ad_ren rfl, ad_ren rfl, trivial⟩) (by exact trivial) rfl (nk rfl) rfl rfl ⟨rfl, rfl⟩
  · obtain ⟨q6, q7⟩ := or_f hb5
    have q8 := d_f q7
    replace h := is_else (ne_t hb5) h
    refine aw_skip ?_
    refine aq_then ?_
    refine aw_seq ?_
    refine aw_region ?_
    refine ao_read trivial (r_load_arr rfl Try.isAgg22 Try.sizeOf22 rfl rfl rfl) rfl ?_
    refine ao_read trivial (r_move rfl) rfl ?_
    obtain ⟨r9, r9h, h⟩ := is_bind h
    refine ao_scall trivial (scall (c_spec_l11Distance (is_mk r9h)) rfl Try.func63 rfl rfl rfl rfl (fun σ => ⟨ad_ren rfl, ad_ren rfl, trivial⟩)) rfl ?_
    refine ao_read trivial (r_move rfl) rfl ?_
    refine ao_read trivial (r_len_vm (x1.length : Int) Try.underlying23 rfl rfl) rfl ?_
    refine ao_read trivial (r_move rfl) rfl ?_
    refine ao_scall trivial (scall (c_spec_l11Sum (is_mk (rfl : p_spec_l11Sum x1 = _))) rfl Try.func73 rfl rfl rfl rfl (fun σ => ⟨ad_ren rfl, trivial⟩)) rfl ?_
    obtain ⟨r10, r10h, h⟩ := is_bind h
    refine ao_call [] 2 trivial (c_spec_l11Vectors (is_mk r10h)) Try.func59 rfl rfl rfl rfl ⟨ad_ren rfl, ad_ren rfl, trivial⟩ trivial rfl rfl rfl rfl rfl rfl rfl (fun r' H' hr => ?_)
    obtain ⟨rfl, rfl⟩ := hr
    refine ao_norm (y := .os 2) (H' := [(1, .var [.arr (.int .i64) 2 ((List.replicate 2 0) : (List Int))]), (0, .var [.arr (.int .i64) 6 x0]), (2, .row (.slice (.int .i64)) r10)]) rfl rfl ?_
    refine row_len_o 2 (r10.length : Int) rfl rfl (fun hr11 => ?_)
    refine ao_eff trivial (e_alloc 3 (y := .v (.arr 2 (.int .i64)) ((List.replicate 2 0) : (List Int))) Try.zeroValue37 (fun ρ h M => ra_zero_arr (t := (.int .i64)) rfl) rfl rfl rfl rfl rfl) rfl ?_
    refine ao_read trivial (r_assign rfl) rfl ?_
    refine ao_effS trivial (e_store rfl rfl rfl rfl Try.sizeOf37 rfl) ?_
    refine ao_read trivial (r_assign rfl) rfl ?_
    refine ao_nil ?_
    refine aq_then ?_
    refine aw_seq ?_
    refine aw_seq ?_
    refine aw_region ?_
    refine ao_read trivial (r_assign rfl) rfl ?_
    refine ao_nil ?_
    refine aq_then ?_
    refine aw_block ?_
    refine aw_loop (AL.sub (fr' := [(1, .v (.slice (.int .i64)) x1), (2, .ref 0 0), (4, .ref 1 0), (6, .int .i64 0), (7, .ref 2 0), (8, .os 3), (9, .int .i64 0)]) (H' := [(0, .var [.arr (.int .i64) 6 x0]), (1, .var [.arr (.int .i64) 2 ((List.replicate 2 0) : (List Int))]), (2, .var [.arr (.int .i64) 2 r9]), (3, .row (.slice (.int .i64)) r10)]) (sub_mk (rn [(2, 3), (3, 2)]) (by exact ⟨⟨_, rfl, ad_ren rfl⟩, ⟨_, rfl, ad_ren rfl⟩, ⟨_, rfl, ad_ren rfl⟩, ⟨_, rfl, ad_ren rfl⟩, ⟨_, rfl, ad_ren rfl⟩, ⟨_, rfl, ad_ren rfl⟩, ⟨_, rfl, ad_ren rfl⟩, trivial⟩) (by exact ⟨⟨_, rfl, ⟨rfl, trivial⟩⟩, ⟨_, rfl, ⟨rfl, trivial⟩⟩, ⟨_, rfl, ⟨rfl, trivial⟩⟩, ⟨_, rfl, rfl⟩, trivial⟩) (by rfl) (nk rfl)) (al_cnt (fun i13 (s12 : Int) => [(1, .v (.slice (.int .i64)) x1), (2, .ref 0 0), (4, .ref 1 0), (6, .int .i64 s12), (7, .ref 2 0), (8, .os 3), (9, .int .i64 i13)]) (fun i13 (s12 : Int) => [(0, .var [.arr (.int .i64) 6 x0]), (1, .var [.arr (.int .i64) 2 ((List.replicate 2 0) : (List Int))]), (2, .var [.arr (.int .i64) 2 r9]), (3, .row (.slice (.int .i64)) r10)]) (fun d i13 (s12 : Int) => d = Int.toNat ((r10.length : Int) - i13) ∧ 0 ≤ i13 ∧ i13 ≤ (r10.length : Int)) h ⟨rfl, (by (try simp only [List.length_set, List.length_append, List.length_cons, List.length_nil, List.length_replicate, List.length_take, List.length_drop]) <;> omega), (by (try simp only [List.length_set, List.length_append, List.length_cons, List.length_nil, List.length_replicate, List.length_take, List.length_drop]) <;> omega)⟩ (fun d14 i13 s12 hI h ih14 => ?_)))
    obtain ⟨hd, _, _⟩ := hI
    refine al_round ?_
    refine aw_seq ?_
    refine aw_seq ?_
    refine aw_region ?_
    refine ao_read trivial (r_move rfl) rfl ?_
    refine ao_read trivial (r_move rfl) rfl ?_
    refine ao_read trivial (r_len_osm (r10.length : Int) Try.underlying31 rfl rfl rfl) rfl ?_
    refine ao_read trivial (r_lss rfl rfl) rfl ?_
    refine ao_nil ?_
    refine aq_then ?_
    refine aw_cond rfl (fun hb16 => ?_) (fun hb16 => ?_)
    · have q17 := d_t hb16
      obtain ⟨d14, rfl⟩ : ∃ e, d14 = e + 1 := ⟨d14 - 1, by omega⟩
      replace h := is_cntS h
      refine aw_skip ?_
      refine aq_then ?_
      refine aw_seq ?_
      refine aw_block ?_
      refine aw_seq ?_
      obtain ⟨r19, r19h, h⟩ := is_bind h
      refine aw_drawAll (by kernel_rfl) ?_
      refine an_read 0 (by kernel_rfl) (fun _ _ _ h => h) rfl (by kernel_rfl) trivial (r_load_arr rfl Try.isAgg22 Try.sizeOf22 rfl rfl rfl) rfl ?_
      refine an_read 1 (by kernel_rfl) (fun _ _ _ h => h) rfl (by kernel_rfl) trivial (r_move rfl) rfl ?_
      refine an_read 2 (by kernel_rfl) (fun _ _ _ h => h) rfl (by kernel_rfl) trivial (r_move rfl) rfl ?_
      refine an_read 3 (by kernel_rfl) (fun _ _ _ h => h) rfl (by kernel_rfl) trivial (r_idxAddr_os Try.underlying31 Try.sizeOf23 rfl rfl rfl (by omega) (show i13 < (r10.length : Int) from by omega)) rfl ?_
      refine an_read 4 (by kernel_rfl) (fun _ _ _ h => h) rfl (by kernel_rfl) trivial (r_load_elemv (t := (.slice (.int .i64))) Try.isAgg23 Try.sizeOf23 rfl rfl (show i13.toNat < r10.length from by omega)) rfl ?_
      refine an_scall 5 (by kernel_rfl) (fun _ _ _ h => h) rfl (by kernel_rfl) trivial (scall (c_spec_l11Distance (is_mk r19h)) rfl Try.func63 rfl rfl rfl rfl (fun σ => ⟨ad_ren rfl, ad_ren rfl, trivial⟩)) rfl ?_
      refine an_read 6 (by kernel_rfl) (fun _ _ _ h => h) rfl (by kernel_rfl) trivial (r_load_arr rfl Try.isAgg37 Try.sizeOf37 rfl rfl rfl) rfl ?_
      refine an_scall 7 (by kernel_rfl) (fun _ _ _ h => h) rfl (by kernel_rfl) trivial (scall (c_spec_l2Less (is_mk (rfl : p_spec_l2Less r19 r9 = _))) rfl Try.func89 rfl rfl rfl rfl (fun σ => ⟨ad_ren rfl, ad_ren rfl, trivial⟩)) rfl ?_
      refine an_read 8 (by kernel_rfl) (fun _ _ _ h => h) rfl (by kernel_rfl) trivial (r_not rfl) rfl ?_
      refine an_done rfl ?_
      refine aq_then ?_
      refine aw_cond rfl (fun hb20 => ?_) (fun hb20 => ?_)
      · replace h := is_else (ne_t (not_t hb20)) h
        obtain ⟨r21, r21h, h⟩ := is_bind h
        refine aw_drawAll (by kernel_rfl) ?_
        refine an_read 0 (by kernel_rfl) (fun _ _ _ h => h) rfl (by kernel_rfl) trivial (r_move rfl) rfl ?_
        refine an_read 1 (by kernel_rfl) (fun _ _ _ h => h) rfl (by kernel_rfl) trivial (r_load_arr rfl Try.isAgg22 Try.sizeOf22 rfl rfl rfl) rfl ?_
        refine an_read 2 (by kernel_rfl) (fun _ _ _ h => h) rfl (by kernel_rfl) trivial (r_move rfl) rfl ?_
        refine an_read 3 (by kernel_rfl) (fun _ _ _ h => h) rfl (by kernel_rfl) trivial (r_move rfl) rfl ?_
        refine an_read 4 (by kernel_rfl) (fun _ _ _ h => h) rfl (by kernel_rfl) trivial (r_idxAddr_os Try.underlying31 Try.sizeOf23 rfl rfl rfl (by omega) (show i13 < (r10.length : Int) from by omega)) rfl ?_
        refine an_read 5 (by kernel_rfl) (fun _ _ _ h => h) rfl (by kernel_rfl) trivial (r_load_elemv (t := (.slice (.int .i64))) Try.isAgg23 Try.sizeOf23 rfl rfl (show i13.toNat < r10.length from by omega)) rfl ?_
        refine an_scall 6 (by kernel_rfl) (fun _ _ _ h => h) rfl (by kernel_rfl) trivial (scall (c_spec_l11Chance (is_mk r21h)) rfl Try.func68 rfl rfl rfl rfl (fun σ => ⟨ad_ren rfl, ad_ren rfl, trivial⟩)) rfl ?_
        refine an_read 7 (by kernel_rfl) (fun _ _ _ h => h) rfl (by kernel_rfl) trivial (r_add rfl rfl) rfl ?_
        refine an_read 8 (by kernel_rfl) (fun _ _ _ h => h) rfl (by kernel_rfl) trivial (r_assign rfl) rfl ?_
        refine an_done rfl ?_
        refine aq_in ?_
        refine aq_then ?_
        refine aw_region ?_
        refine ao_read trivial (r_move rfl) rfl ?_
        refine ao_read trivial (r_addI rfl rfl (wrap_id (by omega) (by omega))) rfl ?_
        refine ao_read trivial (r_assign rfl) rfl ?_
        refine ao_nil ?_
        exact aq_again (AL.sub (sub_mk idn (by exact ⟨⟨_, rfl, ad_ren rfl⟩, ⟨_, rfl, ad_ren rfl⟩, ⟨_, rfl, ad_ren rfl⟩, ⟨_, rfl, ad_ren rfl⟩, ⟨_, rfl, ad_ren rfl⟩, ⟨_, rfl, ad_ren rfl⟩, ⟨_, rfl, ad_ren rfl⟩, trivial⟩) (by exact ⟨⟨_, rfl, ⟨rfl, trivial⟩⟩, ⟨_, rfl, ⟨rfl, trivial⟩⟩, ⟨_, rfl, ⟨rfl, trivial⟩⟩, ⟨_, rfl, rfl⟩, trivial⟩) (by rfl) (nk rfl)) (ih14 d14 (i13 + 1) (IntKind.wrap .i64 (s12 + r21)) (by omega) ⟨by omega, (by (try simp only [List.length_set, List.length_append, List.length_cons, List.length_nil, List.length_replicate, List.length_take, List.length_drop]) <;> omega), (by (try simp only [List.length_set, List.length_append, List.length_cons, List.length_nil, List.length_replicate, List.length_take, List.length_drop]) <;> omega)⟩ h))
      · replace h := is_if (not_f hb20) h
        refine aw_skip ?_
        refine aq_in ?_
        refine aq_then ?_
        refine aw_region ?_
        refine ao_read trivial (r_move rfl) rfl ?_
        refine ao_read trivial (r_addI rfl rfl (wrap_id (by omega) (by omega))) rfl ?_
        refine ao_read trivial (r_assign rfl) rfl ?_
        refine ao_nil ?_
        exact aq_again (AL.sub (sub_mk idn (by exact ⟨⟨_, rfl, ad_ren rfl⟩, ⟨_, rfl, ad_ren rfl⟩, ⟨_, rfl, ad_ren rfl⟩, ⟨_, rfl, ad_ren rfl⟩, ⟨_, rfl, ad_ren rfl⟩, ⟨_, rfl, ad_ren rfl⟩, ⟨_, rfl, ad_ren rfl⟩, trivial⟩) (by exact ⟨⟨_, rfl, ⟨rfl, trivial⟩⟩, ⟨_, rfl, ⟨rfl, trivial⟩⟩, ⟨_, rfl, ⟨rfl, trivial⟩⟩, ⟨_, rfl, rfl⟩, trivial⟩) (by rfl) (nk rfl)) (ih14 d14 (i13 + 1) s12 (by omega) ⟨by omega, (by (try simp only [List.length_set, List.length_append, List.length_cons, List.length_nil, List.length_replicate, List.length_take, List.length_drop]) <;> omega), (by (try simp only [List.length_set, List.length_append, List.length_cons, List.length_nil, List.length_replicate, List.length_take, List.length_drop]) <;> omega)⟩ h))
    · have q18 := d_f hb16
      obtain rfl : d14 = 0 := by omega
      replace h := is_cnt0 h
      refine aw_exit ?_
      refine aq_then_exit ?_
      refine aq_then_exit ?_
      refine aq_in_exit ?_
      refine aq_then ?_
      refine aw_seq ?_
      refine aw_region ?_
      refine ao_read trivial (r_move rfl) rfl ?_
      refine ao_read trivial (r_move rfl) rfl ?_
      refine ao_scall trivial (scall (c_spec_l11Sum (is_mk (rfl : p_spec_l11Sum x1 = _))) rfl Try.func73 rfl rfl rfl rfl (fun σ => ⟨ad_ren rfl, trivial⟩)) rfl ?_
      obtain ⟨r22, r22h, h⟩ := is_bind h
      refine ao_scall trivial (scall (c_spec_l2All (is_mk r22h)) rfl Try.func72 rfl rfl rfl rfl (fun σ => ⟨ad_ren rfl, trivial⟩)) rfl ?_
      obtain ⟨r23, r23h, h⟩ := is_bind h
      refine ao_scall trivial (scall (c_spec_l2Cut (is_mk r23h)) rfl Try.func70 rfl rfl rfl rfl (fun σ => ⟨ad_ren rfl, ad_ren rfl, trivial⟩)) rfl ?_
      refine ao_effS trivial (e_store rfl rfl rfl rfl Try.sizeOf37 rfl) ?_
      refine ao_read trivial (r_assign rfl) rfl ?_
      refine ao_nil ?_
      refine aq_then ?_
      refine aw_ret ?_
      refine aq_ret ?_
      obtain rfl := is_some h
      exact aq_finx (l := [.cell 4 37, .tmp 5]) (xs := [.v (.arr 2 (.int .i64)) r23, .bool true]) idn [.v (.arr 2 (.int .i64)) r23, .bool true] [] rfl (by exact ⟨⟨⟨_, _, rfl⟩, r_load_arr rfl Try.isAgg37 Try.sizeOf37 rfl rfl rfl⟩, rfl, trivial⟩) (by exact ⟨ad_ren rfl, ad_ren rfl, trivial⟩) (by exact trivial) rfl (nk rfl) rfl rfl ⟨rfl, rfl⟩
theorem c_impl_ChanceAsFar_1 {x0 : (List Int)} {x1 : (List Int)} {x2 : Int} {r : Bool} (h : Is (p_impl_ChanceAsFar_1 x0 x1 x2) (some r)) :
    Scalar Try.prog 90 [.v (.slice (.int .i64)) x0, .cptr (.arr 6 (.int .i64)) x1, .cptr (.int .i64) x2] (.bool r) := by
  unfold p_impl_ChanceAsFar_1 at h
  refine ac_enter ⟨10, 0⟩ Try.func90 rfl rfl rfl rfl rfl (fun Γ => ?_)
  refine sl_len_m 0 (x0.length : Int) rfl rfl (fun hl0 => ?_)
  refine aw_seq ?_
  refine aw_region ?_
  refine ao_read trivial (r_assign rfl) rfl ?_
  refine ao_nil ?_
  refine aq_then ?_
  refine aw_seq ?_
  obtain ⟨r1, r1h, h⟩ := is_bind h
  refine aw_drawAll (by kernel_rfl) ?_
  refine an_read 0 (by kernel_rfl) (fun _ _ _ h => h) rfl (by kernel_rfl) trivial (r_load_c (t := (.arr 6 (.int .i64))) Try.isAgg22 Try.sizeOf22 rfl) rfl ?_
  refine an_read 1 (by kernel_rfl) (fun _ _ _ h => h) rfl (by kernel_rfl) trivial (r_move rfl) rfl ?_
  refine an_scall 2 (by kernel_rfl) (fun _ _ _ h => h) rfl (by kernel_rfl) trivial (scall (c_impl_distance (is_mk r1h)) rfl Try.func66 rfl rfl rfl rfl (fun σ => ⟨ad_ren rfl, ad_ren rfl, trivial⟩)) rfl ?_
  refine an_read 3 (by kernel_rfl) (fun _ _ _ h => h) rfl (by kernel_rfl) trivial (r_load_c_int Try.isAgg3 Try.sizeOf3 rfl) rfl ?_
  refine an_read 4 (by kernel_rfl) (fun _ _ _ h => h) rfl (by kernel_rfl) trivial (r_geq rfl rfl) rfl ?_
  refine an_read 5 (by kernel_rfl) (fun _ _ _ h => h) rfl (by kernel_rfl) trivial (r_assign rfl) rfl ?_
  refine an_done rfl ?_
  refine aq_then ?_
  refine aw_ret ?_
  refine aq_ret ?_
  obtain rfl := is_some h
  exact aq_finx (l := [.tmp 4]) (xs := [.bool (decide (x2 ≤ r1))]) idn [.bool (decide (x2 ≤ r1))] [] rfl (by exact ⟨rfl, trivial⟩) (by exact ⟨ad_ren rfl, trivial⟩) (by exact trivial) rfl (nk rfl) rfl rfl ⟨rfl, rfl⟩
theorem c_impl_chanceOfv2 {fu : Nat} {x0 : (List Int)} {x1 : Int} {x2 : (List Int)} {x3 : Int} {r : (List Int)} (h : Is (p_impl_chanceOfv2 fu x0 x1 x2 x3) (some r)) :
    Scalar Try.prog 85 [.v (.arr 6 (.int .i64)) x0, .int .i64 x1, .fn 90 [.cptr (.arr 6 (.int .i64)) x2, .cptr (.int .i64) x3]] (.v (.arr 2 (.int .i64)) r) := by
  unfold p_impl_chanceOfv2 at h
  refine ac_enter ⟨33, 0⟩ Try.func85 rfl rfl rfl rfl rfl (fun Γ => ?_)
  refine aw_seq ?_
  refine aw_region ?_
  refine ao_eff trivial (e_box 0 rfl rfl rfl rfl rfl rfl) rfl ?_
  refine ao_eff trivial (e_alloc 1 (y := .v (.arr 2 (.int .i64)) ((List.replicate 2 0) : (List Int))) Try.zeroValue37 (fun ρ h M => ra_zero_arr (t := (.int .i64)) rfl) rfl rfl rfl rfl rfl) rfl ?_
  refine ao_nil ?_
  refine aq_then ?_
  refine aw_seq ?_
  refine aw_region ?_
  refine ao_read trivial (r_assign rfl) rfl ?_
  refine ao_nil ?_
  refine aq_then ?_
  refine aw_seq ?_
  refine aw_seq ?_
  refine aw_region ?_
  refine ao_read trivial (r_load_arr rfl Try.isAgg22 Try.sizeOf22 rfl rfl rfl) rfl ?_
  obtain ⟨r1, r1h, h⟩ := is_bind h
  refine ao_call [] 2 trivial (c_impl_numbers (is_mk r1h)) Try.func56 rfl rfl rfl rfl ⟨ad_ren rfl, trivial⟩ trivial rfl rfl rfl rfl rfl rfl rfl (fun r' H' hr => ?_)
  obtain ⟨rfl, rfl⟩ := hr
  refine ao_norm (y := .os 2) (H' := [(1, .var [.arr (.int .i64) 2 ((List.replicate 2 0) : (List Int))]), (0, .var [.arr (.int .i64) 6 x0]), (2, .row (.int .i64) r1)]) rfl rfl ?_
  refine row_len_o 2 (r1.length : Int) rfl rfl (fun hr2 => ?_)
  refine ao_read trivial (r_len_osm (r1.length : Int) Try.underlying23 rfl rfl rfl) rfl ?_
  refine ao_read trivial (r_move rfl) rfl ?_
  obtain ⟨r3, r3h, h⟩ := is_bind h
  refine ao_call [] 3 trivial (c_impl_vectors (is_mk r3h)) Try.func61 rfl rfl rfl rfl ⟨ad_ren rfl, ad_ren rfl, trivial⟩ trivial rfl rfl rfl rfl rfl rfl rfl (fun r' H' hr => ?_)
  obtain ⟨rfl, rfl⟩ := hr
  refine ao_norm (y := .os 3) (H' := [(1, .var [.arr (.int .i64) 2 ((List.replicate 2 0) : (List Int))]), (0, .var [.arr (.int .i64) 6 x0]), (2, .row (.int .i64) r1), (3, .row (.slice (.int .i64)) r3)]) rfl rfl ?_
  refine row_len_o 3 (r3.length : Int) rfl rfl (fun hr4 => ?_)
  refine ao_read trivial (r_len_osm (r3.length : Int) Try.underlying31 rfl rfl rfl) rfl ?_
  refine ao_read trivial (r_move rfl) rfl ?_
  refine ao_nil ?_
  refine aq_then ?_
  refine aw_block ?_
  refine aw_loop (AL.sub (fr' := [(1, .int .i64 x1), (2, .fn 90 [.cptr (.arr 6 (.int .i64)) x2, .cptr (.int .i64) x3]), (3, .ref 0 0), (6, .ref 1 0), (7, .int .i64 0), (14, .os 2), (15, .int .i64 (r3.length : Int)), (16, .int .i64 0)]) (H' := [(0, .var [.arr (.int .i64) 6 x0]), (1, .var [.arr (.int .i64) 2 ((List.replicate 2 0) : (List Int))]), (2, .row (.slice (.int .i64)) r3)]) (sub_mk (rn [(2, 3)]) (by exact ⟨⟨_, rfl, ad_ren rfl⟩, ⟨_, rfl, ad_ren rfl⟩, ⟨_, rfl, ad_ren rfl⟩, ⟨_, rfl, ad_ren rfl⟩, ⟨_, rfl, ad_ren rfl⟩, ⟨_, rfl, ad_ren rfl⟩, ⟨_, rfl, ad_ren rfl⟩, ⟨_, rfl, ad_ren rfl⟩, trivial⟩) (by exact ⟨⟨_, rfl, ⟨rfl, trivial⟩⟩, ⟨_, rfl, ⟨rfl, trivial⟩⟩, ⟨_, rfl, rfl⟩, trivial⟩) (by rfl) (nk rfl)) (al_cnt (fun i6 (s5 : Int) => [(1, .int .i64 x1), (2, .fn 90 [.cptr (.arr 6 (.int .i64)) x2, .cptr (.int .i64) x3]), (3, .ref 0 0), (6, .ref 1 0), (7, .int .i64 s5), (14, .os 2), (15, .int .i64 (r3.length : Int)), (16, .int .i64 i6)]) (fun i6 (s5 : Int) => [(0, .var [.arr (.int .i64) 6 x0]), (1, .var [.arr (.int .i64) 2 ((List.replicate 2 0) : (List Int))]), (2, .row (.slice (.int .i64)) r3)]) (fun d i6 (s5 : Int) => d = Int.toNat ((r3.length : Int) - i6) ∧ 0 ≤ i6 ∧ i6 ≤ (r3.length : Int)) h ⟨rfl, (by (try simp only [List.length_set, List.length_append, List.length_cons, List.length_nil, List.length_replicate, List.length_take, List.length_drop]) <;> omega), (by (try simp only [List.length_set, List.length_append, List.length_cons, List.length_nil, List.length_replicate, List.length_take, List.length_drop]) <;> omega)⟩ (fun d7 i6 s5 hI h ih7 => ?_)))
  obtain ⟨hd, _, _⟩ := hI
  refine al_round ?_
  refine aw_seq ?_
  refine aw_region ?_
  refine ao_read trivial (r_lss rfl rfl) rfl ?_
  refine ao_nil ?_
  refine aq_then ?_
  refine aw_seq ?_
  refine aw_cond rfl (fun hb9 => ?_) (fun hb9 => ?_)
  · have q10 := d_t hb9
    obtain ⟨d7, rfl⟩ : ∃ e, d7 = e + 1 := ⟨d7 - 1, by omega⟩
    replace h := is_cntS h
    refine aw_skip ?_
    refine aq_then ?_
    refine aw_seq ?_
    refine aw_block ?_
    refine aw_seq ?_
    refine aw_region ?_
    refine ao_read trivial (r_idxAddr_os Try.underlying31 Try.sizeOf23 rfl rfl rfl (by omega) (show i6 < (r3.length : Int) from by omega)) rfl ?_
    refine ao_read trivial (r_load_elemv (t := (.slice (.int .i64))) Try.isAgg23 Try.sizeOf23 rfl rfl (show i6.toNat < r3.length from by omega)) rfl ?_
    refine ao_read trivial (r_assign rfl) rfl ?_
    refine ao_nil ?_
    refine aq_then ?_
    refine aw_seq ?_
    refine aw_region ?_
    refine ao_read trivial (r_move rfl) rfl ?_
    refine ao_read trivial (r_move rfl) rfl ?_
    obtain ⟨r12, r12h, h⟩ := is_bind h
    refine ao_scall trivial (scall (c_impl_ChanceAsFar_1 (is_mk r12h)) rfl Try.func90 rfl rfl rfl rfl (fun σ => ⟨ad_ren rfl, ad_ren rfl, ad_ren rfl, trivial⟩)) rfl ?_
    refine ao_nil ?_
    refine aq_then ?_
    refine aw_cond rfl (fun hb13 => ?_) (fun hb13 => ?_)
    · replace h := is_if hb13 h
      refine aw_region ?_
      refine ao_read trivial (r_move rfl) rfl ?_
      refine ao_read trivial (r_load_arr rfl Try.isAgg22 Try.sizeOf22 rfl rfl rfl) rfl ?_
      refine ao_read trivial (r_move rfl) rfl ?_
      obtain ⟨r14, r14h, h⟩ := is_bind h
      refine ao_scall trivial (scall (c_impl_chance (is_mk r14h)) rfl Try.func69 rfl rfl rfl rfl (fun σ => ⟨ad_ren rfl, ad_ren rfl, trivial⟩)) rfl ?_
      refine ao_read trivial (r_add rfl rfl) rfl ?_
      refine ao_read trivial (r_assign rfl) rfl ?_
      refine ao_nil ?_
      refine aq_in ?_
      refine aq_then ?_
      refine aw_region ?_
      refine ao_read trivial (r_addI rfl rfl (wrap_id (by omega) (by omega))) rfl ?_
      refine ao_read trivial (r_move rfl) rfl ?_
      refine ao_nil ?_
      exact aq_again (AL.sub (sub_mk idn (by exact ⟨⟨_, rfl, ad_ren rfl⟩, ⟨_, rfl, ad_ren rfl⟩, ⟨_, rfl, ad_ren rfl⟩, ⟨_, rfl, ad_ren rfl⟩, ⟨_, rfl, ad_ren rfl⟩, ⟨_, rfl, ad_ren rfl⟩, ⟨_, rfl, ad_ren rfl⟩, ⟨_, rfl, ad_ren rfl⟩, trivial⟩) (by exact ⟨⟨_, rfl, ⟨rfl, trivial⟩⟩, ⟨_, rfl, ⟨rfl, trivial⟩⟩, ⟨_, rfl, rfl⟩, trivial⟩) (by rfl) (nk rfl)) (ih7 d7 (i6 + 1) (IntKind.wrap .i64 (s5 + r14)) (by omega) ⟨by omega, (by (try simp only [List.length_set, List.length_append, List.length_cons, List.length_nil, List.length_replicate, List.length_take, List.length_drop]) <;> omega), (by (try simp only [List.length_set, List.length_append, List.length_cons, List.length_nil, List.length_replicate, List.length_take, List.length_drop]) <;> omega)⟩ h))
    · replace h := is_else (ne_t hb13) h
      refine aw_skip ?_
      refine aq_in ?_
      refine aq_then ?_
      refine aw_region ?_
      refine ao_read trivial (r_addI rfl rfl (wrap_id (by omega) (by omega))) rfl ?_
      refine ao_read trivial (r_move rfl) rfl ?_
      refine ao_nil ?_
      exact aq_again (AL.sub (sub_mk idn (by exact ⟨⟨_, rfl, ad_ren rfl⟩, ⟨_, rfl, ad_ren rfl⟩, ⟨_, rfl, ad_ren rfl⟩, ⟨_, rfl, ad_ren rfl⟩, ⟨_, rfl, ad_ren rfl⟩, ⟨_, rfl, ad_ren rfl⟩, ⟨_, rfl, ad_ren rfl⟩, ⟨_, rfl, ad_ren rfl⟩, trivial⟩) (by exact ⟨⟨_, rfl, ⟨rfl, trivial⟩⟩, ⟨_, rfl, ⟨rfl, trivial⟩⟩, ⟨_, rfl, rfl⟩, trivial⟩) (by rfl) (nk rfl)) (ih7 d7 (i6 + 1) s5 (by omega) ⟨by omega, (by (try simp only [List.length_set, List.length_append, List.length_cons, List.length_nil, List.length_replicate, List.length_take, List.length_drop]) <;> omega), (by (try simp only [List.length_set, List.length_append, List.length_cons, List.length_nil, List.length_replicate, List.length_take, List.length_drop]) <;> omega)⟩ h))
  · have q11 := d_f hb9
    obtain rfl : d7 = 0 := by omega
    replace h := is_cnt0 h
    refine aw_exit ?_
    refine aq_then_exit ?_
    refine aq_then_exit ?_
    refine aq_in_exit ?_
    refine aq_then ?_
    refine aw_seq ?_
    refine aw_region ?_
    refine ao_read trivial (r_move rfl) rfl ?_
    refine ao_read trivial (r_move rfl) rfl ?_
    obtain ⟨r15, r15h, h⟩ := is_bind h
    refine ao_scall trivial (scall (c_impl_power (is_mk r15h)) rfl Try.func75 rfl rfl rfl rfl (fun σ => ⟨ad_ren rfl, trivial⟩)) rfl ?_
    obtain ⟨r16, r16h, h⟩ := is_bind h
    refine ao_scall trivial (scall (c_impl_fraction (is_mk r16h)) rfl Try.func65 rfl rfl rfl rfl (fun σ => ⟨ad_ren rfl, ad_ren rfl, trivial⟩)) rfl ?_
    refine ao_effS trivial (e_store rfl rfl rfl rfl Try.sizeOf37 rfl) ?_
    refine ao_nil ?_
    refine aq_then ?_
    refine aw_ret ?_
    refine aq_ret ?_
    obtain rfl := is_some h
    exact aq_finx (l := [.cell 6 37]) (xs := [.v (.arr 2 (.int .i64)) r16]) idn [.v (.arr 2 (.int .i64)) r16] [] rfl (by exact ⟨⟨⟨_, _, rfl⟩, r_load_arr rfl Try.isAgg37 Try.sizeOf37 rfl rfl rfl⟩, trivial⟩) (by exact ⟨ad_ren rfl, trivial⟩) (by exact trivial) rfl (nk rfl) rfl rfl ⟨rfl, rfl⟩
theorem c_impl_ChanceAsFar {fu : Nat} {x0 : (List Int)} {x1 : (List Int)} {r : (List Int) × Bool} (h : Is (p_impl_ChanceAsFar fu x0 x1) (some r)) :
    Scalar Try.prog 48 [.v (.arr 6 (.int .i64)) x0, .v (.slice (.int .i64)) x1] (.tup [.v (.arr 2 (.int .i64)) r.1, .bool r.2]) := by
  unfold p_impl_ChanceAsFar at h
  refine ac_enter ⟨26, 0⟩ Try.func48 rfl rfl rfl rfl rfl (fun Γ => ?_)
  refine sl_len_m 1 (x1.length : Int) rfl rfl (fun hl1 => ?_)
  refine aw_seq ?_
  refine aw_region ?_
  refine ao_eff trivial (e_box 0 rfl rfl rfl rfl rfl rfl) rfl ?_
  refine ao_eff trivial (e_alloc 1 (y := .v (.arr 2 (.int .i64)) ((List.replicate 2 0) : (List Int))) Try.zeroValue37 (fun ρ h M => ra_zero_arr (t := (.int .i64)) rfl) rfl rfl rfl rfl rfl) rfl ?_
  refine ao_read trivial (r_assign rfl) rfl ?_
  refine ao_nil ?_
  refine aq_then ?_
  refine aw_seq ?_
  refine aw_seq ?_
  refine aw_region ?_
  refine ao_read trivial (r_load_arr rfl Try.isAgg22 Try.sizeOf22 rfl rfl rfl) rfl ?_
  refine ao_read trivial (r_move rfl) rfl ?_
  obtain ⟨r1, r1h, h⟩ := is_bind h
  refine ao_scall trivial (scall (c_impl_areCounts (is_mk r1h)) rfl Try.func64 rfl rfl rfl rfl (fun σ => ⟨ad_ren rfl, ad_ren rfl, trivial⟩)) rfl ?_
  refine ao_read trivial (r_not rfl) rfl ?_
  refine ao_read trivial (r_move rfl) rfl ?_
  refine ao_readG (x := .v (.slice (.int .i64)) x1) rfl (GV.F rfl) (fun hg2 => r_move rfl) rfl ?_
  refine ao_scallG (r := .int .i64 (p_impl_total x1)) rfl (GV.F rfl) (fun hg3 => SCall.strip 12 rfl (hg3) (scall (c_impl_total (is_mk (rfl : p_impl_total x1 = _))) rfl Try.func67 rfl rfl rfl rfl (fun σ => ⟨ad_ren rfl, trivial⟩))) rfl ?_
  refine ao_scallG (r := .bool (p_impl_isTested (p_impl_total x1))) rfl (GV.F rfl) (fun hg4 => SCall.strip 13 rfl (hg4) (scall (c_impl_isTested (is_mk (rfl : p_impl_isTested (p_impl_total x1) = _))) rfl Try.func60 rfl rfl rfl rfl (fun σ => ⟨ad_ren rfl, trivial⟩))) rfl ?_
  refine ao_readG (x := .bool (!(p_impl_isTested (p_impl_total x1)))) rfl (GV.F rfl) (fun hg5 => Reads.strip 14 rfl (hg5) (r_not rfl)) rfl ?_
  refine ao_read trivial (r_orB rfl rfl) rfl ?_
  refine ao_nil ?_
  refine aq_then ?_
  refine aw_cond rfl (fun hb6 => ?_) (fun hb6 => ?_)
  · replace h := is_if hb6 h
    refine aw_seq ?_
    refine aw_region ?_
    refine ao_read trivial (r_build_zero (t := (.int .i64)) Try.underlying37 Try.zeroValue37 Try.sizeOf3 rfl) rfl ?_
    refine ao_effS trivial (e_store rfl rfl rfl rfl Try.sizeOf37 rfl) ?_
    refine ao_read trivial (r_assign rfl) rfl ?_
    refine ao_nil ?_
    refine aq_then ?_
    refine aw_ret ?_
    refine aq_then_ret ?_
    refine aq_ret ?_
    obtain rfl := is_some h
    exact aq_finx (l := [.cell 4 37, .tmp 5]) (xs := [.v (.arr 2 (.int .i64)) ((List.replicate 2 0) : (List Int)), .bool false]) idn [.v (.arr 2 (.int .i64)) ((List.replicate 2 0) : (List Int)), .bool false] [] rfl (by exact ⟨⟨⟨_, _, rfl⟩, r_load_arr rfl Try.isAgg37 Try.sizeOf37 rfl rfl rfl⟩, rfl, trivial⟩) (by exact ⟨ad_ren rfl, ad_ren rfl, trivial⟩) (by exact trivial) rfl (nk rfl) rfl rfl ⟨rfl, rfl⟩
  · obtain ⟨q7, q8⟩ := or_f hb6
    replace h := is_else (ne_t hb6) h
    refine aw_skip ?_
    refine aq_then ?_
    refine aw_seq ?_
    refine aw_region ?_
    refine ao_read trivial (r_load_arr rfl Try.isAgg22 Try.sizeOf22 rfl rfl rfl) rfl ?_
    refine ao_read trivial (r_move rfl) rfl ?_
    obtain ⟨r9, r9h, h⟩ := is_bind h
    refine ao_scall trivial (scall (c_impl_distance (is_mk r9h)) rfl Try.func66 rfl rfl rfl rfl (fun σ => ⟨ad_ren rfl, ad_ren rfl, trivial⟩)) rfl ?_
    refine ao_eff trivial (e_alloc 2 (y := .int .i64 0) Try.zeroValue3 (fun ρ h M => rfl) rfl rfl rfl rfl rfl) rfl ?_
    refine ao_effS trivial (e_store rfl rfl rfl rfl Try.sizeOf3 rfl) ?_
    refine ao_nil ?_
    refine aq_then ?_
    refine aw_seq ?_
    obtain ⟨r10, r10h, h⟩ := is_bind h
    refine aw_draw 5 (by kernel_rfl) (by kernel_rfl) ?_
    refine an_read 0 (by kernel_rfl) (fun _ _ _ h => h) rfl (by kernel_rfl) trivial (r_load_arr rfl Try.isAgg22 Try.sizeOf22 rfl rfl rfl) rfl ?_
    refine an_read 1 (by kernel_rfl) (fun _ _ _ h => h) rfl (by kernel_rfl) trivial (r_move rfl) rfl ?_
    refine an_scall 2 (by kernel_rfl) (fun _ _ _ h => h) rfl (by kernel_rfl) trivial (scall (c_impl_total (is_mk (rfl : p_impl_total x1 = _))) rfl Try.func67 rfl rfl rfl rfl (fun σ => ⟨ad_ren rfl, trivial⟩)) rfl ?_
    refine an_read 3 (by kernel_rfl) (fun _ _ _ h => h) rfl (by kernel_rfl) trivial (r_makeFunc (cs := [.tmp 2, .tmp 6]) rfl) rfl ?_
    refine an_scall 4 (by kernel_rfl) (fun _ _ _ h => h) rfl (by kernel_rfl) trivial (scall (c_impl_chanceOfv2 (is_mk r10h)) rfl Try.func85 rfl rfl rfl rfl (fun σ => ⟨ad_ren rfl, ad_ren rfl, ad_fn ⟨ad_ref0a rfl rfl rfl, ad_ref0 rfl rfl rfl, trivial⟩, trivial⟩)) rfl ?_
    refine an_tail rfl rfl ?_
    refine ao_effS trivial (e_store rfl rfl rfl rfl Try.sizeOf37 rfl) ?_
    refine ao_read trivial (r_assign rfl) rfl ?_
    refine ao_nil ?_
    refine aq_then ?_
    refine aw_ret ?_
    refine aq_ret ?_
    obtain rfl := is_some h
    exact aq_finx (l := [.cell 4 37, .tmp 5]) (xs := [.v (.arr 2 (.int .i64)) r10, .bool true]) idn [.v (.arr 2 (.int .i64)) r10, .bool true] [] rfl (by exact ⟨⟨⟨_, _, rfl⟩, r_load_arr rfl Try.isAgg37 Try.sizeOf37 rfl rfl rfl⟩, rfl, trivial⟩) (by exact ⟨ad_ren rfl, ad_ren rfl, trivial⟩) (by exact trivial) rfl (nk rfl) rfl rfl ⟨rfl, rfl⟩
theorem c_laws_FnExactChanceAsFar {fu : Nat} {x0 : (List Int)} {x1 : (List Int)} {r : Bool} (h : Is (p_laws_FnExactChanceAsFar fu x0 x1) (some r)) :
    Scalar Try.prog 12 [.v (.arr 6 (.int .i64)) x0, .v (.slice (.int .i64)) x1] (.bool r) := by
  unfold p_laws_FnExactChanceAsFar at h
  refine ac_enter ⟨44, 0⟩ Try.func12 rfl rfl rfl rfl rfl (fun Γ => ?_)
  refine sl_len_m 1 (x1.length : Int) rfl rfl (fun hl1 => ?_)
  refine aw_seq ?_
  refine aw_region ?_
  refine ao_eff trivial (e_box 0 rfl rfl rfl rfl rfl rfl) rfl ?_
  refine ao_read trivial (r_assign rfl) rfl ?_
  refine ao_nil ?_
  refine aq_then ?_
  refine aw_seq ?_
  refine aw_seq ?_
  refine aw_region ?_
  refine ao_read trivial (r_move rfl) rfl ?_
  refine ao_read trivial (r_len_vm (x1.length : Int) Try.underlying23 rfl rfl) rfl ?_
  refine ao_read trivial (r_gtr rfl rfl) rfl ?_
  refine ao_nil ?_
  refine aq_then ?_
  refine aw_cond rfl (fun hb1 => ?_) (fun hb1 => ?_)
  · have q2 := d_t hb1
    replace h := is_if (d_t hb1) h
    refine aw_seq ?_
    refine aw_region ?_
    refine ao_read trivial (r_assign rfl) rfl ?_
    refine ao_nil ?_
    refine aq_then ?_
    refine aw_ret ?_
    refine aq_then_ret ?_
    refine aq_ret ?_
    obtain rfl := is_some h
    exact aq_finx (l := [.tmp 4]) (xs := [.bool true]) idn [.bool true] [] rfl (by exact ⟨rfl, trivial⟩) (by exact ⟨ad_ren rfl, trivial⟩) (by exact trivial) rfl (nk rfl) rfl rfl ⟨rfl, rfl⟩
  · have q3 := d_f hb1
    replace h := is_else (d_f hb1) h
    refine aw_skip ?_
    refine aq_then ?_
    refine aw_seq ?_
    refine aw_region ?_
    refine ao_read trivial (r_load_arr rfl Try.isAgg22 Try.sizeOf22 rfl rfl rfl) rfl ?_
    refine ao_scall trivial (scall (c_laws_toIntA6 (is_mk (rfl : p_laws_toIntA6 x0 = _))) rfl Try.func14 rfl rfl rfl rfl (fun σ => ⟨ad_ren rfl, trivial⟩)) rfl ?_
    refine ao_read trivial (r_move rfl) rfl ?_
    obtain ⟨r4, r4h, h⟩ := is_bind h
    refine ao_call [] 1 trivial (c_laws_toIntS (is_mk r4h)) Try.func15 rfl rfl rfl rfl ⟨ad_ren rfl, trivial⟩ trivial rfl rfl rfl rfl rfl rfl rfl (fun r' H' hr => ?_)
    obtain ⟨rfl, rfl⟩ := hr
    refine ao_norm (y := .os 1) (H' := [(0, .var [.arr (.int .i64) 6 x0]), (1, .row (.int .i64) r4)]) rfl rfl ?_
    refine row_len_o 1 (r4.length : Int) rfl rfl (fun hr5 => ?_)
    obtain ⟨r6, r6h, h⟩ := is_bind h
    refine ao_scall trivial (scall (c_spec_ChanceAsFar (is_mk r6h)) rfl Try.func47 rfl rfl rfl rfl (fun σ => ⟨ad_ren rfl, ad_os0 rfl, trivial⟩)) rfl ?_
    refine ao_read trivial (r_move rfl) rfl ?_
    refine ao_read trivial (r_extract rfl rfl) rfl ?_
    refine ao_read trivial (r_extract rfl rfl) rfl ?_
    refine ao_eff trivial (e_alloc 2 (y := .v (.arr 2 (.int .i64)) ((List.replicate 2 0) : (List Int))) Try.zeroValue37 (fun ρ h M => ra_zero_arr (t := (.int .i64)) rfl) rfl rfl rfl rfl rfl) rfl ?_
    refine ao_effS trivial (e_store rfl rfl rfl rfl Try.sizeOf37 rfl) ?_
    refine ao_read trivial (r_assign rfl) rfl ?_
    refine ao_nil ?_
    refine aq_then ?_
    refine aw_seq ?_
    refine aw_region ?_
    refine ao_read trivial (r_move rfl) rfl ?_
    obtain ⟨r7, r7h, h⟩ := is_bind h
    refine ao_call [] 3 trivial (c_laws_toIntS (is_mk r7h)) Try.func15 rfl rfl rfl rfl ⟨ad_ren rfl, trivial⟩ trivial rfl rfl rfl rfl rfl rfl rfl (fun r' H' hr => ?_)
    obtain ⟨rfl, rfl⟩ := hr
    refine ao_norm (y := .os 3) (H' := [(2, .var [.arr (.int .i64) 2 r6.1]), (0, .var [.arr (.int .i64) 6 x0]), (1, .row (.int .i64) r4), (3, .row (.int .i64) r7)]) rfl rfl ?_
    refine row_len_o 3 (r7.length : Int) rfl rfl (fun hr8 => ?_)
    refine ao_read trivial (r_assign rfl) rfl ?_
    refine ao_nil ?_
    refine aq_then ?_
    refine aw_seq ?_
    refine aw_region ?_
    refine ao_read trivial (r_load_arr rfl Try.isAgg22 Try.sizeOf22 rfl rfl rfl) rfl ?_
    refine ao_scall trivial (scall (c_laws_toIntA6 (is_mk (rfl : p_laws_toIntA6 x0 = _))) rfl Try.func14 rfl rfl rfl rfl (fun σ => ⟨ad_ren rfl, trivial⟩)) rfl ?_
    refine ao_read trivial (r_move rfl) rfl ?_
    obtain ⟨r9, r9h, h⟩ := is_bind h
    refine ao_scall trivial (scall (c_impl_ChanceAsFar (is_mk r9h)) rfl Try.func48 rfl rfl rfl rfl (fun σ => ⟨ad_ren rfl, ad_os0 rfl, trivial⟩)) rfl ?_
    refine ao_read trivial (r_move rfl) rfl ?_
    refine ao_read trivial (r_extract rfl rfl) rfl ?_
    refine ao_read trivial (r_extract rfl rfl) rfl ?_
    refine ao_eff trivial (e_alloc 4 (y := .v (.arr 2 (.int .i64)) ((List.replicate 2 0) : (List Int))) Try.zeroValue37 (fun ρ h M => ra_zero_arr (t := (.int .i64)) rfl) rfl rfl rfl rfl rfl) rfl ?_
    refine ao_effS trivial (e_store rfl rfl rfl rfl Try.sizeOf37 rfl) ?_
    refine ao_read trivial (r_assign rfl) rfl ?_
    refine ao_nil ?_
    refine aq_then ?_
    refine aw_seq ?_
    refine aw_seq ?_
    refine aw_region ?_
    refine ao_read trivial (r_load_arr rfl Try.isAgg37 Try.sizeOf37 rfl rfl rfl) rfl ?_
    refine ao_read trivial (r_load_arr rfl Try.isAgg37 Try.sizeOf37 rfl rfl rfl) rfl ?_
    refine ao_scall trivial (scall (c_laws_eqIntA2 (is_mk (rfl : p_laws_eqIntA2 r9.1 r6.1 = _))) rfl Try.func27 rfl rfl rfl rfl (fun σ => ⟨ad_ren rfl, ad_ren rfl, trivial⟩)) rfl ?_
    refine ao_read trivial (r_not rfl) rfl ?_
    refine ao_read trivial (r_move rfl) rfl ?_
    refine ao_readG (x := .bool r9.2) rfl (GV.F rfl) (fun hg10 => r_move rfl) rfl ?_
    refine ao_readG (x := .bool r6.2) rfl (GV.F rfl) (fun hg11 => r_move rfl) rfl ?_
    refine ao_readG (x := .bool (r9.2 != r6.2)) rfl (GV.F rfl) (fun hg12 => Reads.strip 35 rfl (hg12) (Reads.strip 36 rfl (hg12) (r_neq_bool Try.underlying4 rfl rfl))) rfl ?_
    refine ao_read trivial (r_orB rfl rfl) rfl ?_
    refine ao_nil ?_
    refine aq_then ?_
    refine aw_cond rfl (fun hb13 => ?_) (fun hb13 => ?_)
    · replace h := is_if hb13 h
      refine aw_seq ?_
      refine aw_region ?_
      refine ao_read trivial (r_assign rfl) rfl ?_
      refine ao_nil ?_
      refine aq_then ?_
      refine aw_ret ?_
      refine aq_then_ret ?_
      refine aq_ret ?_
      obtain rfl := is_some h
      exact aq_finx (l := [.tmp 4]) (xs := [.bool false]) idn [.bool false] [] rfl (by exact ⟨rfl, trivial⟩) (by exact ⟨ad_ren rfl, trivial⟩) (by exact trivial) rfl (nk rfl) rfl rfl ⟨rfl, rfl⟩
    · obtain ⟨q14, q15⟩ := or_f hb13
      replace h := is_else (ne_t hb13) h
      refine aw_skip ?_
      refine aq_then ?_
      refine aw_seq ?_
      refine aw_seq ?_
      refine aw_region ?_
      refine ao_read trivial (r_move rfl) rfl ?_
      refine ao_read trivial (r_move rfl) rfl ?_
      obtain ⟨r16, r16h, h⟩ := is_bind h
      refine ao_call [] 5 trivial (c_laws_toIntS (is_mk r16h)) Try.func15 rfl rfl rfl rfl ⟨ad_ren rfl, trivial⟩ trivial rfl rfl rfl rfl rfl rfl rfl (fun r' H' hr => ?_)
      obtain ⟨rfl, rfl⟩ := hr
      refine ao_norm (y := .os 5) (H' := [(4, .var [.arr (.int .i64) 2 r9.1]), (2, .var [.arr (.int .i64) 2 r6.1]), (0, .var [.arr (.int .i64) 6 x0]), (1, .row (.int .i64) r4), (3, .row (.int .i64) r7), (5, .row (.int .i64) r16)]) rfl rfl ?_
      refine row_len_o 5 (r16.length : Int) rfl rfl (fun hr17 => ?_)
      refine ao_scall trivial (scall (c_laws_eqIntS (is_mk (rfl : p_laws_eqIntS r7 r16 = _))) rfl Try.func17 rfl rfl rfl rfl (fun σ => ⟨ad_os0 rfl, ad_os0 rfl, trivial⟩)) rfl ?_
      refine ao_read trivial (r_not rfl) rfl ?_
      refine ao_nil ?_
      refine aq_then ?_
      refine aw_cond rfl (fun hb18 => ?_) (fun hb18 => ?_)
      · replace h := is_else (ne_t (not_t hb18)) h
        refine aw_seq ?_
        refine aw_region ?_
        refine ao_read trivial (r_assign rfl) rfl ?_
        refine ao_nil ?_
        refine aq_then ?_
        refine aw_ret ?_
        refine aq_then_ret ?_
        refine aq_ret ?_
        obtain rfl := is_some h
        exact aq_finx (l := [.tmp 4]) (xs := [.bool false]) idn [.bool false] [] rfl (by exact ⟨rfl, trivial⟩) (by exact ⟨ad_ren rfl, trivial⟩) (by exact trivial) rfl (nk rfl) rfl rfl ⟨rfl, rfl⟩
      · replace h := is_if (not_f hb18) h
        refine aw_skip ?_
        refine aq_then ?_
        refine aw_seq ?_
        refine aw_region ?_
        refine ao_read trivial (r_assign rfl) rfl ?_
        refine ao_nil ?_
        refine aq_then ?_
        refine aw_ret ?_
        refine aq_ret ?_
        obtain rfl := is_some h
        exact aq_finx (l := [.tmp 4]) (xs := [.bool true]) idn [.bool true] [] rfl (by exact ⟨rfl, trivial⟩) (by exact ⟨ad_ren rfl, trivial⟩) (by exact trivial) rfl (nk rfl) rfl rfl ⟨rfl, rfl⟩
end Go.GA
