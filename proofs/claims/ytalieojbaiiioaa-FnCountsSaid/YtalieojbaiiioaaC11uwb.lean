/- Walks: what the Go functions compute, by the printed lines below; no further conditions. -/
import Derived.Test.YtalieojbaiiioaaC11uw
namespace Go.GA
open Go Go.Proofs
set_option maxRecDepth 100000
set_option maxHeartbeats 2000000
set_option linter.unusedVariables false
set_option linter.unusedSimpArgs false
theorem c_impl_fraction {fu : Nat} {x0 : Int} {x1 : Int} {r : (List Int)} (h : Is (p_impl_fraction fu x0 x1) (some r)) :
    Scalar Try.prog 46 [.int .i64 x0, .int .i64 x1] (.v (.arr 2 (.int .i64)) r) := by
  unfold p_impl_fraction at h
  refine ac_enter ⟨22, 0⟩ Try.func46 rfl rfl rfl rfl rfl (fun Γ => ?_)
  refine aw_seq ?_
  refine aw_region ?_
  refine ao_eff trivial (e_alloc 0 (y := .v (.arr 2 (.int .i64)) ((List.replicate 2 0) : (List Int))) Try.zeroValue39 (fun ρ h M => ra_zero_arr (t := (.int .i64)) rfl) rfl rfl rfl rfl rfl) rfl ?_
  refine ao_nil ?_
  refine aq_then ?_
  refine aw_seq ?_
  refine aw_region ?_
  refine ao_read trivial (r_move rfl) rfl ?_
  refine ao_read trivial (r_move rfl) rfl ?_
  refine ao_read trivial (r_assign rfl) rfl ?_
  refine ao_read trivial (r_assign rfl) rfl ?_
  refine ao_nil ?_
  refine aq_then ?_
  refine aw_seq ?_
  refine aw_block ?_
  refine aw_loop (AL.sub (sub_mk idn (by exact ⟨⟨_, rfl, ad_ren rfl⟩, ⟨_, rfl, ad_ren rfl⟩, ⟨_, rfl, ad_ren rfl⟩, ⟨_, rfl, ad_ren rfl⟩, ⟨_, rfl, ad_ren rfl⟩, trivial⟩) (by exact ⟨⟨_, rfl, ⟨rfl, trivial⟩⟩, trivial⟩) (by rfl) (nk rfl)) (al_whl (fun (s1 : Int × Int) => [(0, .int .i64 x0), (1, .int .i64 x1), (4, .ref 0 0), (5, .int .i64 s1.1), (6, .int .i64 s1.2)]) (fun (s1 : Int × Int) => [(0, .var [.arr (.int .i64) 2 ((List.replicate 2 0) : (List Int))])]) (fun (s1 : Int × Int) => True) h trivial (fun d3 s1 hI h ih3 => ?_)))
  replace h := is_whlS h
  refine al_round ?_
  refine aw_seq ?_
  refine aw_seq ?_
  refine aw_region ?_
  refine ao_read trivial (r_move rfl) rfl ?_
  refine ao_read trivial (r_neq rfl rfl) rfl ?_
  refine ao_nil ?_
  refine aq_then ?_
  refine aw_cond rfl (fun hb5 => ?_) (fun hb5 => ?_)
  · have q6 := d_f (not_t hb5)
    replace h := is_else (d_f (not_t hb5)) h
    refine aw_skip ?_
    refine aq_then ?_
    refine aw_block ?_
    obtain ⟨g8, h⟩ := is_guard h
    refine aw_drawAll (by kernel_rfl) ?_
    refine an_read 0 (by kernel_rfl) (fun _ _ _ h => h) rfl (by kernel_rfl) trivial (r_move rfl) rfl ?_
    refine an_read 1 (by kernel_rfl) (fun _ _ _ h => h) rfl (by kernel_rfl) trivial (r_move rfl) rfl ?_
    refine an_read 2 (by kernel_rfl) (fun _ _ _ h => h) rfl (by kernel_rfl) trivial (r_move rfl) rfl ?_
    refine an_read 3 (by kernel_rfl) (fun _ _ _ h => h) rfl (by kernel_rfl) trivial (r_rem rfl rfl g8) rfl ?_
    refine an_read 4 (by kernel_rfl) (fun _ _ _ h => h) rfl (by kernel_rfl) trivial (r_assign rfl) rfl ?_
    refine an_read 5 (by kernel_rfl) (fun _ _ _ h => h) rfl (by kernel_rfl) trivial (r_assign rfl) rfl ?_
    refine an_done rfl ?_
    refine aq_in ?_
    exact aq_again (AL.sub (sub_mk idn (by exact ⟨⟨_, rfl, ad_ren rfl⟩, ⟨_, rfl, ad_ren rfl⟩, ⟨_, rfl, ad_ren rfl⟩, ⟨_, rfl, ad_ren rfl⟩, ⟨_, rfl, ad_ren rfl⟩, trivial⟩) (by exact ⟨⟨_, rfl, ⟨rfl, trivial⟩⟩, trivial⟩) (by rfl) (nk rfl)) (ih3 (s1.2, (s1.1.tmod s1.2)) trivial h))
  · have q7 := d_t (not_f hb5)
    replace h := is_if (d_t (not_f hb5)) h
    refine aw_exit ?_
    refine aq_then_exit ?_
    refine aq_then_exit ?_
    refine aq_in_exit ?_
    refine aq_then ?_
    refine aw_seq ?_
    obtain ⟨g9, h⟩ := is_guard h
    obtain ⟨g10, h⟩ := is_guard h
    refine aw_draw 7 (by kernel_rfl) (by kernel_rfl) ?_
    refine an_read 0 (by kernel_rfl) (fun _ _ _ h => h) rfl (by kernel_rfl) trivial (r_move rfl) rfl ?_
    refine an_read 1 (by kernel_rfl) (fun _ _ _ h => h) rfl (by kernel_rfl) trivial (r_move rfl) rfl ?_
    refine an_read 2 (by kernel_rfl) (fun _ _ _ h => h) rfl (by kernel_rfl) trivial (r_quo rfl rfl g9) rfl ?_
    refine an_read 3 (by kernel_rfl) (fun _ _ _ h => h) rfl (by kernel_rfl) trivial (r_move rfl) rfl ?_
    refine an_read 4 (by kernel_rfl) (fun _ _ _ h => h) rfl (by kernel_rfl) trivial (r_move rfl) rfl ?_
    refine an_read 5 (by kernel_rfl) (fun _ _ _ h => h) rfl (by kernel_rfl) trivial (r_quo rfl rfl g10) rfl ?_
    refine an_read 6 (by kernel_rfl) (fun _ _ _ h => h) rfl (by kernel_rfl) trivial (r_build_arr (l := [(0, .tmp 17), (1, .tmp 20)]) (t := (.int .i64)) ([(IntKind.wrap .i64 (x0.tdiv s1.1)), (IntKind.wrap .i64 (x1.tdiv s1.1))] : (List Int)) rfl Try.underlying39 Try.zeroValue39 Try.sizeOf3 rfl rfl rfl rfl) rfl ?_
    refine an_tail rfl rfl ?_
    refine ao_effS trivial (e_store rfl rfl rfl rfl Try.sizeOf39 rfl) ?_
    refine ao_nil ?_
    refine aq_then ?_
    refine aw_ret ?_
    refine aq_ret ?_
    obtain rfl := is_some h
    exact aq_finx (l := [.cell 4 39]) (xs := [.v (.arr 2 (.int .i64)) ([(IntKind.wrap .i64 (x0.tdiv s1.1)), (IntKind.wrap .i64 (x1.tdiv s1.1))] : (List Int))]) idn [.v (.arr 2 (.int .i64)) ([(IntKind.wrap .i64 (x0.tdiv s1.1)), (IntKind.wrap .i64 (x1.tdiv s1.1))] : (List Int))] [] rfl (by exact ⟨⟨⟨_, _, rfl⟩, r_load_arr rfl Try.isAgg39 Try.sizeOf39 rfl rfl rfl⟩, trivial⟩) (by exact ⟨ad_ren rfl, trivial⟩) (by exact trivial) rfl (nk rfl) rfl rfl ⟨rfl, rfl⟩
theorem c_impl_LikelihoodOf {fu : Nat} {x0 : (List Int)} {x1 : (List Int)} {r : (List Int) × Bool} (h : Is (p_impl_LikelihoodOf fu x0 x1) (some r)) :
    Scalar Try.prog 19 [.v (.arr 6 (.int .i64)) x0, .v (.slice (.int .i64)) x1] (.tup [.v (.arr 2 (.int .i64)) r.1, .bool r.2]) := by
  unfold p_impl_LikelihoodOf at h
  refine ac_enter ⟨18, 0⟩ Try.func19 rfl rfl rfl rfl rfl (fun Γ => ?_)
  refine sl_len_m 1 (x1.length : Int) rfl rfl (fun hl1 => ?_)
  refine aw_seq ?_
  refine aw_region ?_
  refine ao_eff trivial (e_box 0 rfl rfl rfl rfl rfl rfl) rfl ?_
  refine ao_eff trivial (e_alloc 1 (y := .v (.arr 2 (.int .i64)) ((List.replicate 2 0) : (List Int))) Try.zeroValue39 (fun ρ h M => ra_zero_arr (t := (.int .i64)) rfl) rfl rfl rfl rfl rfl) rfl ?_
  refine ao_read trivial (r_assign rfl) rfl ?_
  refine ao_nil ?_
  refine aq_then ?_
  refine aw_seq ?_
  refine aw_seq ?_
  refine aw_region ?_
  refine ao_read trivial (r_load_arr rfl Try.isAgg22 Try.sizeOf22 rfl rfl rfl) rfl ?_
  refine ao_read trivial (r_move rfl) rfl ?_
  obtain ⟨r1, r1h, h⟩ := is_bind h
  refine ao_scall trivial (scall (c_impl_areCounts (is_mk r1h)) rfl Try.func45 rfl rfl rfl rfl (fun σ => ⟨ad_ren rfl, ad_ren rfl, trivial⟩)) rfl ?_
  refine ao_read trivial (r_not rfl) rfl ?_
  refine ao_nil ?_
  refine aq_then ?_
  refine aw_cond rfl (fun hb2 => ?_) (fun hb2 => ?_)
  · replace h := is_else (ne_t (not_t hb2)) h
    refine aw_seq ?_
    refine aw_region ?_
    refine ao_read trivial (r_build_zero (t := (.int .i64)) Try.underlying39 Try.zeroValue39 Try.sizeOf3 rfl) rfl ?_
    refine ao_effS trivial (e_store rfl rfl rfl rfl Try.sizeOf39 rfl) ?_
    refine ao_read trivial (r_assign rfl) rfl ?_
    refine ao_nil ?_
    refine aq_then ?_
    refine aw_ret ?_
    refine aq_then_ret ?_
    refine aq_ret ?_
    obtain rfl := is_some h
    exact aq_finx (l := [.cell 4 39, .tmp 5]) (xs := [.v (.arr 2 (.int .i64)) ((List.replicate 2 0) : (List Int)), .bool false]) idn [.v (.arr 2 (.int .i64)) ((List.replicate 2 0) : (List Int)), .bool false] [] rfl (by exact ⟨⟨⟨_, _, rfl⟩, r_load_arr rfl Try.isAgg39 Try.sizeOf39 rfl rfl rfl⟩, rfl, trivial⟩) (by exact ⟨ad_ren rfl, ad_ren rfl, trivial⟩) (by exact trivial) rfl (nk rfl) rfl rfl ⟨rfl, rfl⟩
  · replace h := is_if (not_f hb2) h
    refine aw_skip ?_
    refine aq_then ?_
    refine aw_seq ?_
    refine aw_region ?_
    refine ao_read trivial (r_load_arr rfl Try.isAgg22 Try.sizeOf22 rfl rfl rfl) rfl ?_
    refine ao_read trivial (r_move rfl) rfl ?_
    obtain ⟨r3, r3h, h⟩ := is_bind h
    refine ao_scall trivial (scall (c_impl_likelihood (is_mk r3h)) rfl Try.func47 rfl rfl rfl rfl (fun σ => ⟨ad_ren rfl, ad_ren rfl, trivial⟩)) rfl ?_
    refine ao_read trivial (r_move rfl) rfl ?_
    refine ao_scall trivial (scall (c_impl_total (is_mk (rfl : p_impl_total x1 = _))) rfl Try.func49 rfl rfl rfl rfl (fun σ => ⟨ad_ren rfl, trivial⟩)) rfl ?_
    obtain ⟨r4, r4h, h⟩ := is_bind h
    refine ao_scall trivial (scall (c_impl_power (is_mk r4h)) rfl Try.func48 rfl rfl rfl rfl (fun σ => ⟨ad_ren rfl, trivial⟩)) rfl ?_
    obtain ⟨r5, r5h, h⟩ := is_bind h
    refine ao_scall trivial (scall (c_impl_fraction (is_mk r5h)) rfl Try.func46 rfl rfl rfl rfl (fun σ => ⟨ad_ren rfl, ad_ren rfl, trivial⟩)) rfl ?_
    refine ao_effS trivial (e_store rfl rfl rfl rfl Try.sizeOf39 rfl) ?_
    refine ao_read trivial (r_assign rfl) rfl ?_
    refine ao_nil ?_
    refine aq_then ?_
    refine aw_ret ?_
    refine aq_ret ?_
    obtain rfl := is_some h
    exact aq_finx (l := [.cell 4 39, .tmp 5]) (xs := [.v (.arr 2 (.int .i64)) r5, .bool true]) idn [.v (.arr 2 (.int .i64)) r5, .bool true] [] rfl (by exact ⟨⟨⟨_, _, rfl⟩, r_load_arr rfl Try.isAgg39 Try.sizeOf39 rfl rfl rfl⟩, rfl, trivial⟩) (by exact ⟨ad_ren rfl, ad_ren rfl, trivial⟩) (by exact trivial) rfl (nk rfl) rfl rfl ⟨rfl, rfl⟩
theorem c_spec_l1In {x0 : Int} {x1 : Int} {x2 : Int} {r : Bool} (h : Is (p_spec_l1In x0 x1 x2) r) :
    Scalar Try.prog 67 [.int .i64 x0, .int .i64 x1, .int .i64 x2] (.bool r) := by
  unfold p_spec_l1In at h
  refine ac_enter ⟨15, 0⟩ Try.func67 rfl rfl rfl rfl rfl (fun Γ => ?_)
  refine aw_seq ?_
  refine aw_region ?_
  refine ao_read trivial (r_assign rfl) rfl ?_
  refine ao_nil ?_
  refine aq_then ?_
  refine aw_seq ?_
  refine aw_region ?_
  refine ao_read trivial (r_move rfl) rfl ?_
  refine ao_read trivial (r_move rfl) rfl ?_
  refine ao_read trivial (r_geq rfl rfl) rfl ?_
  refine ao_read trivial (r_move rfl) rfl ?_
  refine ao_readG (x := .int .i64 x0) rfl (GV.T rfl) (fun hg1 => by
        have q2 := d_t hg1
        exact r_move rfl) rfl ?_
  refine ao_readG (x := .int .i64 x2) rfl (GV.T rfl) (fun hg3 => by
        have q4 := d_t hg3
        exact r_move rfl) rfl ?_
  refine ao_readG (x := .bool (decide (x0 ≤ x2))) rfl (GV.T rfl) (fun hg5 => by
        have q6 := d_t hg5
        exact Reads.strip 11 rfl (hg5) (Reads.strip 12 rfl (hg5) (r_leq rfl rfl))) rfl ?_
  refine ao_read trivial (r_andB rfl rfl) rfl ?_
  refine ao_read trivial (r_assign rfl) rfl ?_
  refine ao_nil ?_
  refine aq_then ?_
  refine aw_ret ?_
  refine aq_ret ?_
  obtain rfl := is_eq h
  exact aq_finx (l := [.tmp 6]) (xs := [.bool ((decide (x1 ≤ x0)) && (decide (x0 ≤ x2)))]) idn [.bool ((decide (x1 ≤ x0)) && (decide (x0 ≤ x2)))] [] rfl (by exact ⟨rfl, trivial⟩) (by exact ⟨ad_ren rfl, trivial⟩) (by exact trivial) rfl (nk rfl) rfl rfl ⟨rfl, rfl⟩
theorem c_spec_l2Die {x0 : (List Int)} {r : Bool} (h : Is (p_spec_l2Die x0) (some r)) :
    Scalar Try.prog 63 [.v (.arr 6 (.int .i64)) x0] (.bool r) := by
  unfold p_spec_l2Die at h
  refine ac_enter ⟨27, 0⟩ Try.func63 rfl rfl rfl rfl rfl (fun Γ => ?_)
  refine aw_seq ?_
  refine aw_region ?_
  refine ao_eff trivial (e_box 0 rfl rfl rfl rfl rfl rfl) rfl ?_
  refine ao_read trivial (r_assign rfl) rfl ?_
  refine ao_nil ?_
  refine aq_then ?_
  refine aw_seq ?_
  refine aw_seq ?_
  refine aw_region ?_
  refine ao_read trivial (r_assign rfl) rfl ?_
  refine ao_nil ?_
  refine aq_then ?_
  refine aw_block ?_
  refine aw_loop (AL.sub (fr' := [(1, .ref 0 0), (3, .int .i64 0)]) (H' := [(0, .var [.arr (.int .i64) 6 x0])]) (sub_mk idn (by exact ⟨⟨_, rfl, ad_ren rfl⟩, ⟨_, rfl, ad_ren rfl⟩, trivial⟩) (by exact ⟨⟨_, rfl, ⟨rfl, trivial⟩⟩, trivial⟩) (by rfl) (nk rfl)) (al_cnt (fun i2 (s1 : Unit) => [(1, .ref 0 0), (3, .int .i64 i2)]) (fun i2 (s1 : Unit) => [(0, .var [.arr (.int .i64) 6 x0])]) (fun d i2 (s1 : Unit) => d = Int.toNat (6 - i2) ∧ 0 ≤ i2 ∧ i2 ≤ 6) h ⟨rfl, (by (try simp only [List.length_set, List.length_append, List.length_cons, List.length_nil, List.length_replicate, List.length_take, List.length_drop]) <;> omega), (by (try simp only [List.length_set, List.length_append, List.length_cons, List.length_nil, List.length_replicate, List.length_take, List.length_drop]) <;> omega)⟩ (fun d3 i2 s1 hI h ih3 => ?_)))
  obtain ⟨hd, _, _⟩ := hI
  refine al_round ?_
  refine aw_seq ?_
  refine aw_seq ?_
  refine aw_region ?_
  refine ao_read trivial (r_move rfl) rfl ?_
  refine ao_read trivial (r_lss rfl rfl) rfl ?_
  refine ao_nil ?_
  refine aq_then ?_
  refine aw_cond rfl (fun hb5 => ?_) (fun hb5 => ?_)
  · have q6 := d_t hb5
    obtain ⟨d3, rfl⟩ : ∃ e, d3 = e + 1 := ⟨d3 - 1, by omega⟩
    replace h := is_cntS h
    refine aw_skip ?_
    refine aq_then ?_
    refine aw_seq ?_
    refine aw_block ?_
    refine aw_seq ?_
    refine aw_drawAll (by kernel_rfl) ?_
    refine an_read 0 (by kernel_rfl) (fun _ _ _ h => h) rfl (by kernel_rfl) trivial (r_move rfl) rfl ?_
    refine an_read 1 (by kernel_rfl) (fun _ _ _ h => h) rfl (by kernel_rfl) trivial (r_idxAddr_arr (i := i2) Try.underlying22 Try.sizeOf3 rfl rfl (show 0 ≤ i2 from by omega) (show i2 < (6 : Int) from by omega)) rfl ?_
    refine an_read 2 (by kernel_rfl) (fun _ _ _ h => h) rfl (by kernel_rfl) trivial (r_load_elema_int Try.isAgg3 Try.sizeOf3 rfl rfl rfl (show i2.toNat < 6 from by omega)) rfl ?_
    refine an_scall 3 (by kernel_rfl) (fun _ _ _ h => h) rfl (by kernel_rfl) trivial (scall (c_spec_l1In (is_mk (rfl : p_spec_l1In (x0.getD i2.toNat 0) 0 30 = _))) rfl Try.func67 rfl rfl rfl rfl (fun σ => ⟨ad_ren rfl, ad_ren rfl, ad_ren rfl, trivial⟩)) rfl ?_
    refine an_read 4 (by kernel_rfl) (fun _ _ _ h => h) rfl (by kernel_rfl) trivial (r_not rfl) rfl ?_
    refine an_read 5 (by kernel_rfl) (fun _ _ _ h => h) rfl (by kernel_rfl) trivial (r_move rfl) rfl ?_
    refine an_readG 6 (x := .int .i64 i2) (by kernel_rfl) (fun _ _ _ h => h) rfl (by kernel_rfl) rfl (GV.F rfl) (fun hg8 => r_move rfl) rfl ?_
    refine an_readG 7 (x := .bool (decide (0 < i2))) (by kernel_rfl) (fun _ _ _ h => h) rfl (by kernel_rfl) rfl (GV.F rfl) (fun hg9 => Reads.strip 14 rfl (hg9) (r_gtr rfl rfl)) rfl ?_
    refine an_readG 8 (x := .bool (decide (0 < i2))) (by kernel_rfl) (fun _ _ _ h => h) rfl (by kernel_rfl) rfl (GV.F rfl) (fun hg10 => Reads.strip 15 rfl (hg10) (r_move rfl)) rfl ?_
    refine an_readG 9 (x := .int .i64 i2) (by kernel_rfl) (fun _ _ _ h => h) rfl (by kernel_rfl) rfl (GV.gT rfl) (fun hg11 => by
          obtain ⟨q12, q13⟩ := and_t hg11
          have q14 := d_t q13
          exact r_move rfl) rfl ?_
    refine an_readG 10 (x := .elem 0 0 1 i2.toNat) (by kernel_rfl) (fun _ _ _ h => h) rfl (by kernel_rfl) rfl (GV.gT rfl) (fun hg15 => by
          obtain ⟨q16, q17⟩ := and_t hg15
          have q18 := d_t q17
          exact Reads.strip 17 rfl (hg15) (r_idxAddr_arr (i := i2) Try.underlying22 Try.sizeOf3 rfl rfl (show 0 ≤ i2 from by omega) (show i2 < (6 : Int) from by omega))) rfl ?_
    refine an_readG 11 (x := .int .i64 (x0.getD i2.toNat 0)) (by kernel_rfl) (fun _ _ _ h => h) rfl (by kernel_rfl) rfl (GV.gT rfl) (fun hg19 => by
          obtain ⟨q20, q21⟩ := and_t hg19
          have q22 := d_t q21
          exact Reads.strip 18 rfl (hg19) (r_load_elema_int Try.isAgg3 Try.sizeOf3 rfl rfl rfl (show i2.toNat < 6 from by omega))) rfl ?_
    refine an_readG 12 (x := .int .i64 i2) (by kernel_rfl) (fun _ _ _ h => h) rfl (by kernel_rfl) rfl (GV.gT rfl) (fun hg23 => by
          obtain ⟨q24, q25⟩ := and_t hg23
          have q26 := d_t q25
          exact r_move rfl) rfl ?_
    refine an_readG 13 (x := .int .i64 (i2 - 1)) (by kernel_rfl) (fun _ _ _ h => h) rfl (by kernel_rfl) rfl (GV.gT rfl) (fun hg27 => by
          obtain ⟨q28, q29⟩ := and_t hg27
          have q30 := d_t q29
          exact Reads.strip 20 rfl (hg27) (r_subI rfl rfl (wrap_id (by omega) (by omega)))) rfl ?_
    refine an_readG 14 (x := .elem 0 0 1 (i2 - 1).toNat) (by kernel_rfl) (fun _ _ _ h => h) rfl (by kernel_rfl) rfl (GV.gT rfl) (fun hg31 => by
          obtain ⟨q32, q33⟩ := and_t hg31
          have q34 := d_t q33
          exact Reads.strip 21 rfl (hg31) (r_idxAddr_arr (i := (i2 - 1)) Try.underlying22 Try.sizeOf3 rfl rfl (show 0 ≤ (i2 - 1) from by omega) (show (i2 - 1) < (6 : Int) from by omega))) rfl ?_
    refine an_readG 15 (x := .int .i64 (x0.getD (i2 - 1).toNat 0)) (by kernel_rfl) (fun _ _ _ h => h) rfl (by kernel_rfl) rfl (GV.gT rfl) (fun hg35 => by
          obtain ⟨q36, q37⟩ := and_t hg35
          have q38 := d_t q37
          exact Reads.strip 22 rfl (hg35) (r_load_elema_int Try.isAgg3 Try.sizeOf3 rfl rfl rfl (show (i2 - 1).toNat < 6 from by omega))) rfl ?_
    refine an_readG 16 (x := .bool (decide ((x0.getD i2.toNat 0) < (x0.getD (i2 - 1).toNat 0)))) (by kernel_rfl) (fun _ _ _ h => h) rfl (by kernel_rfl) rfl (GV.gT rfl) (fun hg39 => by
          obtain ⟨q40, q41⟩ := and_t hg39
          have q42 := d_t q41
          exact Reads.strip 19 rfl (hg39) (Reads.strip 23 rfl (hg39) (r_lss rfl rfl))) rfl ?_
    refine an_readG 17 (x := .bool ((decide (0 < i2)) && (decide ((x0.getD i2.toNat 0) < (x0.getD (i2 - 1).toNat 0))))) (by kernel_rfl) (fun _ _ _ h => h) rfl (by kernel_rfl) rfl (GV.F rfl) (fun hg43 => Reads.strip 16 rfl (hg43) (r_andBg rfl rfl (tr_and (hg43)))) rfl ?_
    refine an_read 18 (by kernel_rfl) (fun _ _ _ h => h) rfl (by kernel_rfl) trivial (r_orB rfl rfl) rfl ?_
    refine an_done rfl ?_
    refine aq_then ?_
    refine aw_cond rfl (fun hb44 => ?_) (fun hb44 => ?_)
    · replace h := is_if hb44 h
      refine aw_seq ?_
      refine aw_region ?_
      refine ao_read trivial (r_assign rfl) rfl ?_
      refine ao_nil ?_
      refine aq_then ?_
      refine aw_ret ?_
      refine aq_in_ret ?_
      refine aq_then_ret ?_
      refine aq_then_ret ?_
      refine aq_in_ret ?_
      refine aq_then_ret ?_
      refine aq_ret ?_
      obtain rfl := is_some h
      exact aq_finx (l := [.tmp 2]) (xs := [.bool false]) idn [.bool false] [] rfl (by exact ⟨rfl, trivial⟩) (by exact ⟨ad_ren rfl, trivial⟩) (by exact trivial) rfl (nk rfl) rfl rfl ⟨rfl, rfl⟩
    · obtain ⟨q45, q46⟩ := or_f hb44
      replace h := is_else (ne_t hb44) h
      refine aw_skip ?_
      refine aq_in ?_
      refine aq_then ?_
      refine aw_region ?_
      refine ao_read trivial (r_move rfl) rfl ?_
      refine ao_read trivial (r_addI rfl rfl (wrap_id (by omega) (by omega))) rfl ?_
      refine ao_read trivial (r_assign rfl) rfl ?_
      refine ao_nil ?_
      exact aq_again (AL.sub (sub_mk idn (by exact ⟨⟨_, rfl, ad_ren rfl⟩, ⟨_, rfl, ad_ren rfl⟩, trivial⟩) (by exact ⟨⟨_, rfl, ⟨rfl, trivial⟩⟩, trivial⟩) (by rfl) (nk rfl)) (ih3 d3 (i2 + 1) () (by omega) ⟨by omega, (by (try simp only [List.length_set, List.length_append, List.length_cons, List.length_nil, List.length_replicate, List.length_take, List.length_drop]) <;> omega), (by (try simp only [List.length_set, List.length_append, List.length_cons, List.length_nil, List.length_replicate, List.length_take, List.length_drop]) <;> omega)⟩ h))
  · have q7 := d_f hb5
    obtain rfl : d3 = 0 := by omega
    replace h := is_cnt0 h
    refine aw_exit ?_
    refine aq_then_exit ?_
    refine aq_then_exit ?_
    refine aq_in_exit ?_
    refine aq_then ?_
    refine aw_seq ?_
    refine aw_region ?_
    refine ao_read trivial (r_assign rfl) rfl ?_
    refine ao_nil ?_
    refine aq_then ?_
    refine aw_ret ?_
    refine aq_ret ?_
    obtain rfl := is_some h
    exact aq_finx (l := [.tmp 2]) (xs := [.bool true]) idn [.bool true] [] rfl (by exact ⟨rfl, trivial⟩) (by exact ⟨ad_ren rfl, trivial⟩) (by exact trivial) rfl (nk rfl) rfl rfl ⟨rfl, rfl⟩
theorem c_spec_l11Counts {x0 : (List Int)} {x1 : (List Int)} {r : Bool} (h : Is (p_spec_l11Counts x0 x1) (some r)) :
    Scalar Try.prog 50 [.v (.arr 6 (.int .i64)) x0, .v (.slice (.int .i64)) x1] (.bool r) := by
  unfold p_spec_l11Counts at h
  refine ac_enter ⟨38, 0⟩ Try.func50 rfl rfl rfl rfl rfl (fun Γ => ?_)
  refine sl_len_m 1 (x1.length : Int) rfl rfl (fun hl1 => ?_)
  refine aw_seq ?_
  refine aw_region ?_
  refine ao_eff trivial (e_box 0 rfl rfl rfl rfl rfl rfl) rfl ?_
  refine ao_read trivial (r_assign rfl) rfl ?_
  refine ao_nil ?_
  refine aq_then ?_
  refine aw_seq ?_
  refine aw_seq ?_
  refine aw_region ?_
  refine ao_read trivial (r_load_arr rfl Try.isAgg22 Try.sizeOf22 rfl rfl rfl) rfl ?_
  obtain ⟨r1, r1h, h⟩ := is_bind h
  refine ao_scall trivial (scall (c_spec_l2Die (is_mk r1h)) rfl Try.func63 rfl rfl rfl rfl (fun σ => ⟨ad_ren rfl, trivial⟩)) rfl ?_
  refine ao_read trivial (r_not rfl) rfl ?_
  refine ao_read trivial (r_move rfl) rfl ?_
  refine ao_split (!r1) (fun hb2 => ?_) (fun hb2 => ?_)
  · replace h := is_else (ne_t (not_t hb2)) h
    refine ao_skipF 6 3 10 rfl rfl hb2 rfl rfl rfl ?_
    refine ao_read trivial (r_pickT rfl hb2 rfl) rfl ?_
    refine ao_nil ?_
    refine aq_then ?_
    refine aw_cond rfl (fun _ => ?_) (fun hb => by cases hb)
    refine aw_seq ?_
    refine aw_region ?_
    refine ao_read trivial (r_assign rfl) rfl ?_
    refine ao_nil ?_
    refine aq_then ?_
    refine aw_ret ?_
    refine aq_then_ret ?_
    refine aq_ret ?_
    obtain rfl := is_some h
    exact aq_finx (l := [.tmp 4]) (xs := [.bool false]) idn [.bool false] [] rfl (by exact ⟨rfl, trivial⟩) (by exact ⟨ad_ren rfl, trivial⟩) (by exact trivial) rfl (nk rfl) rfl rfl ⟨rfl, rfl⟩
  · replace h := is_if (not_f hb2) h
    refine ao_read (by exact ⟨_, _, rfl, rfl, hb2⟩) (r_move rfl) rfl ?_
    refine ao_read (by exact ⟨_, _, rfl, rfl, hb2⟩) (r_len_vm (x1.length : Int) Try.underlying30 rfl rfl) rfl ?_
    refine ao_read (by exact ⟨_, _, rfl, rfl, hb2⟩) (r_load_arr rfl Try.isAgg22 Try.sizeOf22 rfl rfl rfl) rfl ?_
    obtain ⟨r3, r3h, h⟩ := is_bind h
    refine ao_call [] 1 (by exact ⟨_, _, rfl, rfl, hb2⟩) (c_spec_l8Numbers (is_mk r3h)) Try.func37 rfl rfl rfl rfl ⟨ad_ren rfl, trivial⟩ trivial rfl rfl rfl rfl rfl rfl rfl (fun r' H' hr => ?_)
    obtain ⟨rfl, rfl⟩ := hr
    refine ao_norm (y := .os 1) (H' := [(0, .var [.arr (.int .i64) 6 x0]), (1, .row (.int .i64) r3)]) rfl rfl ?_
    refine row_len_o 1 (r3.length : Int) rfl rfl (fun hr4 => ?_)
    refine ao_read (by exact ⟨_, _, rfl, rfl, hb2⟩) (r_len_osm (r3.length : Int) Try.underlying30 rfl rfl rfl) rfl ?_
    refine ao_read (by exact ⟨_, _, rfl, rfl, hb2⟩) (r_neq rfl rfl) rfl ?_
    refine ao_read trivial (r_pickF rfl hb2 rfl) rfl ?_
    refine ao_nil ?_
    refine aq_then ?_
    refine aw_cond rfl (fun hb5 => ?_) (fun hb5 => ?_)
    · have q6 := d_f (not_t hb5)
      replace h := is_else (d_f (not_t hb5)) h
      refine aw_seq ?_
      refine aw_region ?_
      refine ao_read trivial (r_assign rfl) rfl ?_
      refine ao_nil ?_
      refine aq_then ?_
      refine aw_ret ?_
      refine aq_then_ret ?_
      refine aq_ret ?_
      obtain rfl := is_some h
      exact aq_finx (l := [.tmp 4]) (xs := [.bool false]) idn [.bool false] [] rfl (by exact ⟨rfl, trivial⟩) (by exact ⟨ad_ren rfl, trivial⟩) (by exact trivial) rfl (nk rfl) rfl rfl ⟨rfl, rfl⟩
    · have q7 := d_t (not_f hb5)
      replace h := is_if (d_t (not_f hb5)) h
      refine aw_skip ?_
      refine aq_then ?_
      refine aw_seq ?_
      refine aw_region ?_
      refine ao_read trivial (r_assign rfl) rfl ?_
      refine ao_nil ?_
      refine aq_then ?_
      refine aw_seq ?_
      refine aw_seq ?_
      refine aw_region ?_
      refine ao_read trivial (r_assign rfl) rfl ?_
      refine ao_nil ?_
      refine aq_then ?_
      refine aw_block ?_
      refine aw_loop (AL.sub (fr' := [(1, .v (.slice (.int .i64)) x1), (5, .int .i64 0), (6, .int .i64 0)]) (H' := []) (sub_mk idn (by exact ⟨⟨_, rfl, ad_ren rfl⟩, ⟨_, rfl, ad_ren rfl⟩, ⟨_, rfl, ad_ren rfl⟩, trivial⟩) (by exact trivial) (by rfl) (nk rfl)) (al_cnt (fun i9 (s8 : Int) => [(1, .v (.slice (.int .i64)) x1), (5, .int .i64 s8), (6, .int .i64 i9)]) (fun i9 (s8 : Int) => []) (fun d i9 (s8 : Int) => d = Int.toNat ((x1.length : Int) - i9) ∧ 0 ≤ i9 ∧ i9 ≤ (x1.length : Int)) h ⟨rfl, (by (try simp only [List.length_set, List.length_append, List.length_cons, List.length_nil, List.length_replicate, List.length_take, List.length_drop]) <;> omega), (by (try simp only [List.length_set, List.length_append, List.length_cons, List.length_nil, List.length_replicate, List.length_take, List.length_drop]) <;> omega)⟩ (fun d10 i9 s8 hI h ih10 => ?_)))
      obtain ⟨hd, _, _⟩ := hI
      refine al_round ?_
      refine aw_seq ?_
      refine aw_seq ?_
      refine aw_region ?_
      refine ao_read trivial (r_move rfl) rfl ?_
      refine ao_read trivial (r_move rfl) rfl ?_
      refine ao_read trivial (r_len_vm (x1.length : Int) Try.underlying30 rfl rfl) rfl ?_
      refine ao_read trivial (r_lss rfl rfl) rfl ?_
      refine ao_nil ?_
      refine aq_then ?_
      refine aw_cond rfl (fun hb12 => ?_) (fun hb12 => ?_)
      · have q13 := d_t hb12
        obtain ⟨d10, rfl⟩ : ∃ e, d10 = e + 1 := ⟨d10 - 1, by omega⟩
        replace h := is_cntS h
        refine aw_skip ?_
        refine aq_then ?_
        refine aw_seq ?_
        refine aw_block ?_
        refine aw_seq ?_
        refine aw_seq ?_
        refine aw_region ?_
        refine ao_read trivial (r_move rfl) rfl ?_
        refine ao_read trivial (r_move rfl) rfl ?_
        refine ao_read trivial (r_idxAddr_int Try.underlying30 Try.sizeOf3 rfl rfl (show 0 ≤ i9 from by omega) (show i9 < (x1.length : Int) from by omega)) rfl ?_
        refine ao_read trivial (r_load_c_int Try.isAgg3 Try.sizeOf3 rfl) rfl ?_
        refine ao_scall trivial (scall (c_spec_l1In (is_mk (rfl : p_spec_l1In (x1.getD i9.toNat 0) 0 12 = _))) rfl Try.func67 rfl rfl rfl rfl (fun σ => ⟨ad_ren rfl, ad_ren rfl, ad_ren rfl, trivial⟩)) rfl ?_
        refine ao_read trivial (r_not rfl) rfl ?_
        refine ao_nil ?_
        refine aq_then ?_
        refine aw_cond rfl (fun hb15 => ?_) (fun hb15 => ?_)
        · replace h := is_else (ne_t (not_t hb15)) h
          refine aw_seq ?_
          refine aw_region ?_
          refine ao_read trivial (r_assign rfl) rfl ?_
          refine ao_nil ?_
          refine aq_then ?_
          refine aw_ret ?_
          refine aq_then_ret ?_
          refine aq_in_ret ?_
          refine aq_then_ret ?_
          refine aq_then_ret ?_
          refine aq_in_ret ?_
          refine aq_then_ret ?_
          refine aq_ret ?_
          obtain rfl := is_some h
          exact aq_finx (l := [.tmp 4]) (xs := [.bool false]) idn [.bool false] [] rfl (by exact ⟨rfl, trivial⟩) (by exact ⟨ad_ren rfl, trivial⟩) (by exact trivial) rfl (nk rfl) rfl rfl ⟨rfl, rfl⟩
        · replace h := is_if (not_f hb15) h
          refine aw_skip ?_
          refine aq_then ?_
          refine aw_region ?_
          refine ao_read trivial (r_move rfl) rfl ?_
          refine ao_read trivial (r_move rfl) rfl ?_
          refine ao_read trivial (r_move rfl) rfl ?_
          refine ao_read trivial (r_idxAddr_int Try.underlying30 Try.sizeOf3 rfl rfl (show 0 ≤ i9 from by omega) (show i9 < (x1.length : Int) from by omega)) rfl ?_
          refine ao_read trivial (r_load_c_int Try.isAgg3 Try.sizeOf3 rfl) rfl ?_
          refine ao_read trivial (r_add rfl rfl) rfl ?_
          refine ao_read trivial (r_assign rfl) rfl ?_
          refine ao_nil ?_
          refine aq_in ?_
          refine aq_then ?_
          refine aw_region ?_
          refine ao_read trivial (r_move rfl) rfl ?_
          refine ao_read trivial (r_addI rfl rfl (wrap_id (by omega) (by omega))) rfl ?_
          refine ao_read trivial (r_assign rfl) rfl ?_
          refine ao_nil ?_
          exact aq_again (AL.sub (sub_mk idn (by exact ⟨⟨_, rfl, ad_ren rfl⟩, ⟨_, rfl, ad_ren rfl⟩, ⟨_, rfl, ad_ren rfl⟩, trivial⟩) (by exact trivial) (by rfl) (nk rfl)) (ih10 d10 (i9 + 1) (IntKind.wrap .i64 (s8 + (x1.getD i9.toNat 0))) (by omega) ⟨by omega, (by (try simp only [List.length_set, List.length_append, List.length_cons, List.length_nil, List.length_replicate, List.length_take, List.length_drop]) <;> omega), (by (try simp only [List.length_set, List.length_append, List.length_cons, List.length_nil, List.length_replicate, List.length_take, List.length_drop]) <;> omega)⟩ h))
      · have q14 := d_f hb12
        obtain rfl : d10 = 0 := by omega
        replace h := is_cnt0 h
        refine aw_exit ?_
        refine aq_then_exit ?_
        refine aq_then_exit ?_
        refine aq_in_exit ?_
        refine aq_then ?_
        refine aw_seq ?_
        refine aw_region ?_
        refine ao_read trivial (r_move rfl) rfl ?_
        refine ao_read trivial (r_leq rfl rfl) rfl ?_
        refine ao_read trivial (r_assign rfl) rfl ?_
        refine ao_nil ?_
        refine aq_then ?_
        refine aw_ret ?_
        refine aq_ret ?_
        obtain rfl := is_some h
        exact aq_finx (l := [.tmp 4]) (xs := [.bool (decide (s8 ≤ 12))]) idn [.bool (decide (s8 ≤ 12))] [] rfl (by exact ⟨rfl, trivial⟩) (by exact ⟨ad_ren rfl, trivial⟩) (by exact trivial) rfl (nk rfl) rfl rfl ⟨rfl, rfl⟩
theorem c_spec_l8Weight {x0 : (List Int)} {x1 : Int} {r : Int} (h : Is (p_spec_l8Weight x0 x1) r) :
    Scalar Try.prog 81 [.v (.arr 6 (.int .i64)) x0, .int .i64 x1] (.int .i64 r) := by
  unfold p_spec_l8Weight at h
  refine ac_enter ⟨19, 0⟩ Try.func81 rfl rfl rfl rfl rfl (fun Γ => ?_)
  refine aw_seq ?_
  refine aw_region ?_
  refine ao_eff trivial (e_box 0 rfl rfl rfl rfl rfl rfl) rfl ?_
  refine ao_read trivial (r_assign rfl) rfl ?_
  refine ao_nil ?_
  refine aq_then ?_
  refine aw_seq ?_
  refine aw_region ?_
  refine ao_read trivial (r_assign rfl) rfl ?_
  refine ao_nil ?_
  refine aq_then ?_
  refine aw_seq ?_
  refine aw_seq ?_
  refine aw_region ?_
  refine ao_read trivial (r_assign rfl) rfl ?_
  refine ao_nil ?_
  refine aq_then ?_
  refine aw_block ?_
  refine aw_loop (AL.sub (fr' := [(1, .int .i64 x1), (2, .ref 0 0), (5, .int .i64 0), (6, .int .i64 0)]) (H' := [(0, .var [.arr (.int .i64) 6 x0])]) (sub_mk idn (by exact ⟨⟨_, rfl, ad_ren rfl⟩, ⟨_, rfl, ad_ren rfl⟩, ⟨_, rfl, ad_ren rfl⟩, ⟨_, rfl, ad_ren rfl⟩, trivial⟩) (by exact ⟨⟨_, rfl, ⟨rfl, trivial⟩⟩, trivial⟩) (by rfl) (nk rfl)) (al_cnt (fun i2 (s1 : Int) => [(1, .int .i64 x1), (2, .ref 0 0), (5, .int .i64 s1), (6, .int .i64 i2)]) (fun i2 (s1 : Int) => [(0, .var [.arr (.int .i64) 6 x0])]) (fun d i2 (s1 : Int) => d = Int.toNat (6 - i2) ∧ 0 ≤ i2 ∧ i2 ≤ 6) h ⟨rfl, (by (try simp only [List.length_set, List.length_append, List.length_cons, List.length_nil, List.length_replicate, List.length_take, List.length_drop]) <;> omega), (by (try simp only [List.length_set, List.length_append, List.length_cons, List.length_nil, List.length_replicate, List.length_take, List.length_drop]) <;> omega)⟩ (fun d3 i2 s1 hI h ih3 => ?_)))
  obtain ⟨hd, _, _⟩ := hI
  refine al_round ?_
  refine aw_seq ?_
  refine aw_seq ?_
  refine aw_region ?_
  refine ao_read trivial (r_move rfl) rfl ?_
  refine ao_read trivial (r_lss rfl rfl) rfl ?_
  refine ao_nil ?_
  refine aq_then ?_
  refine aw_cond rfl (fun hb5 => ?_) (fun hb5 => ?_)
  · have q6 := d_t hb5
    obtain ⟨d3, rfl⟩ : ∃ e, d3 = e + 1 := ⟨d3 - 1, by omega⟩
    replace h := is_cntS h
    refine aw_skip ?_
    refine aq_then ?_
    refine aw_seq ?_
    refine aw_block ?_
    refine aw_seq ?_
    refine aw_region ?_
    refine ao_read trivial (r_move rfl) rfl ?_
    refine ao_read trivial (r_idxAddr_arr (i := i2) Try.underlying22 Try.sizeOf3 rfl rfl (show 0 ≤ i2 from by omega) (show i2 < (6 : Int) from by omega)) rfl ?_
    refine ao_read trivial (r_load_elema_int Try.isAgg3 Try.sizeOf3 rfl rfl rfl (show i2.toNat < 6 from by omega)) rfl ?_
    refine ao_read trivial (r_move rfl) rfl ?_
    refine ao_read trivial (r_eql rfl rfl) rfl ?_
    refine ao_nil ?_
    refine aq_then ?_
    refine aw_cond rfl (fun hb8 => ?_) (fun hb8 => ?_)
    · have q9 : (x0.getD i2.toNat 0) = x1 := d_t hb8
      replace h := is_if (d_t hb8) h
      refine aw_region ?_
      refine ao_read trivial (r_move rfl) rfl ?_
      refine ao_read trivial (r_add rfl rfl) rfl ?_
      refine ao_read trivial (r_assign rfl) rfl ?_
      refine ao_nil ?_
      refine aq_in ?_
      refine aq_then ?_
      refine aw_region ?_
      refine ao_read trivial (r_move rfl) rfl ?_
      refine ao_read trivial (r_addI rfl rfl (wrap_id (by omega) (by omega))) rfl ?_
      refine ao_read trivial (r_assign rfl) rfl ?_
      refine ao_nil ?_
      exact aq_again (AL.sub (sub_mk idn (by exact ⟨⟨_, rfl, ad_ren rfl⟩, ⟨_, rfl, ad_ren rfl⟩, ⟨_, rfl, ad_ren rfl⟩, ⟨_, rfl, ad_ren rfl⟩, trivial⟩) (by exact ⟨⟨_, rfl, ⟨rfl, trivial⟩⟩, trivial⟩) (by rfl) (nk rfl)) (ih3 d3 (i2 + 1) (IntKind.wrap .i64 (s1 + 1)) (by omega) ⟨by omega, (by (try simp only [List.length_set, List.length_append, List.length_cons, List.length_nil, List.length_replicate, List.length_take, List.length_drop]) <;> omega), (by (try simp only [List.length_set, List.length_append, List.length_cons, List.length_nil, List.length_replicate, List.length_take, List.length_drop]) <;> omega)⟩ h))
    · have q10 : ¬ ((x0.getD i2.toNat 0) = x1) := d_f hb8
      replace h := is_else (d_f hb8) h
      refine aw_skip ?_
      refine aq_in ?_
      refine aq_then ?_
      refine aw_region ?_
      refine ao_read trivial (r_move rfl) rfl ?_
      refine ao_read trivial (r_addI rfl rfl (wrap_id (by omega) (by omega))) rfl ?_
      refine ao_read trivial (r_assign rfl) rfl ?_
      refine ao_nil ?_
      exact aq_again (AL.sub (sub_mk idn (by exact ⟨⟨_, rfl, ad_ren rfl⟩, ⟨_, rfl, ad_ren rfl⟩, ⟨_, rfl, ad_ren rfl⟩, ⟨_, rfl, ad_ren rfl⟩, trivial⟩) (by exact ⟨⟨_, rfl, ⟨rfl, trivial⟩⟩, trivial⟩) (by rfl) (nk rfl)) (ih3 d3 (i2 + 1) s1 (by omega) ⟨by omega, (by (try simp only [List.length_set, List.length_append, List.length_cons, List.length_nil, List.length_replicate, List.length_take, List.length_drop]) <;> omega), (by (try simp only [List.length_set, List.length_append, List.length_cons, List.length_nil, List.length_replicate, List.length_take, List.length_drop]) <;> omega)⟩ h))
  · have q7 := d_f hb5
    obtain rfl : d3 = 0 := by omega
    replace h := is_cnt0 h
    refine aw_exit ?_
    refine aq_then_exit ?_
    refine aq_then_exit ?_
    refine aq_in_exit ?_
    refine aq_then ?_
    refine aw_seq ?_
    refine aw_region ?_
    refine ao_read trivial (r_move rfl) rfl ?_
    refine ao_read trivial (r_assign rfl) rfl ?_
    refine ao_nil ?_
    refine aq_then ?_
    refine aw_ret ?_
    refine aq_ret ?_
    obtain rfl := is_eq h
    exact aq_finx (l := [.tmp 4]) (xs := [.int .i64 s1]) idn [.int .i64 s1] [] rfl (by exact ⟨rfl, trivial⟩) (by exact ⟨ad_ren rfl, trivial⟩) (by exact trivial) rfl (nk rfl) rfl rfl ⟨rfl, rfl⟩
theorem c_spec_l8Power {fu : Nat} {x0 : Int} {x1 : Int} {r : Int} (h : Is (p_spec_l8Power fu x0 x1) (some r)) :
    Scalar Try.prog 80 [.int .i64 x0, .int .i64 x1] (.int .i64 r) := by
  unfold p_spec_l8Power at h
  refine ac_enter ⟨16, 0⟩ Try.func80 rfl rfl rfl rfl rfl (fun Γ => ?_)
  refine aw_seq ?_
  refine aw_region ?_
  refine ao_read trivial (r_assign rfl) rfl ?_
  refine ao_nil ?_
  refine aq_then ?_
  refine aw_seq ?_
  refine aw_region ?_
  refine ao_read trivial (r_assign rfl) rfl ?_
  refine ao_nil ?_
  refine aq_then ?_
  refine aw_seq ?_
  refine aw_seq ?_
  refine aw_region ?_
  refine ao_read trivial (r_assign rfl) rfl ?_
  refine ao_nil ?_
  refine aq_then ?_
  refine aw_block ?_
  refine aw_loop (AL.sub (sub_mk idn (by exact ⟨⟨_, rfl, ad_ren rfl⟩, ⟨_, rfl, ad_ren rfl⟩, ⟨_, rfl, ad_ren rfl⟩, ⟨_, rfl, ad_ren rfl⟩, trivial⟩) (by exact trivial) (by rfl) (nk rfl)) (al_whl (fun (s1 : Int × Int) => [(0, .int .i64 x0), (1, .int .i64 x1), (5, .int .i64 s1.1), (6, .int .i64 s1.2)]) (fun (s1 : Int × Int) => []) (fun (s1 : Int × Int) => True) h trivial (fun d3 s1 hI h ih3 => ?_)))
  replace h := is_whlS h
  refine al_round ?_
  refine aw_seq ?_
  refine aw_seq ?_
  refine aw_region ?_
  refine ao_read trivial (r_move rfl) rfl ?_
  refine ao_read trivial (r_move rfl) rfl ?_
  refine ao_read trivial (r_lss rfl rfl) rfl ?_
  refine ao_nil ?_
  refine aq_then ?_
  refine aw_cond rfl (fun hb5 => ?_) (fun hb5 => ?_)
  · have q6 := d_t hb5
    replace h := is_if (d_t hb5) h
    refine aw_skip ?_
    refine aq_then ?_
    refine aw_seq ?_
    refine aw_block ?_
    refine aw_region ?_
    refine ao_read trivial (r_move rfl) rfl ?_
    refine ao_read trivial (r_move rfl) rfl ?_
    refine ao_read trivial (r_mul rfl rfl) rfl ?_
    refine ao_read trivial (r_assign rfl) rfl ?_
    refine ao_nil ?_
    refine aq_in ?_
    refine aq_then ?_
    refine aw_region ?_
    refine ao_read trivial (r_move rfl) rfl ?_
    refine ao_read trivial (r_add rfl rfl) rfl ?_
    refine ao_read trivial (r_assign rfl) rfl ?_
    refine ao_nil ?_
    exact aq_again (AL.sub (sub_mk idn (by exact ⟨⟨_, rfl, ad_ren rfl⟩, ⟨_, rfl, ad_ren rfl⟩, ⟨_, rfl, ad_ren rfl⟩, ⟨_, rfl, ad_ren rfl⟩, trivial⟩) (by exact trivial) (by rfl) (nk rfl)) (ih3 ((IntKind.wrap .i64 (s1.1 * x0)), (IntKind.wrap .i64 (s1.2 + 1))) trivial h))
  · have q7 := d_f hb5
    replace h := is_else (d_f hb5) h
    refine aw_exit ?_
    refine aq_then_exit ?_
    refine aq_then_exit ?_
    refine aq_in_exit ?_
    refine aq_then ?_
    refine aw_seq ?_
    refine aw_region ?_
    refine ao_read trivial (r_move rfl) rfl ?_
    refine ao_read trivial (r_assign rfl) rfl ?_
    refine ao_nil ?_
    refine aq_then ?_
    refine aw_ret ?_
    refine aq_ret ?_
    obtain rfl := is_some h
    exact aq_finx (l := [.tmp 4]) (xs := [.int .i64 s1.1]) idn [.int .i64 s1.1] [] rfl (by exact ⟨rfl, trivial⟩) (by exact ⟨ad_ren rfl, trivial⟩) (by exact trivial) rfl (nk rfl) rfl rfl ⟨rfl, rfl⟩
theorem c_spec_l11Ways {fu : Nat} {x0 : (List Int)} {x1 : (List Int)} {r : Int} (h : Is (p_spec_l11Ways fu x0 x1) (some r)) :
    Scalar Try.prog 52 [.v (.arr 6 (.int .i64)) x0, .v (.slice (.int .i64)) x1] (.int .i64 r) := by
  unfold p_spec_l11Ways at h
  refine ac_enter ⟨30, 0⟩ Try.func52 rfl rfl rfl rfl rfl (fun Γ => ?_)
  refine sl_len_m 1 (x1.length : Int) rfl rfl (fun hl1 => ?_)
  refine aw_seq ?_
  refine aw_region ?_
  refine ao_eff trivial (e_box 0 rfl rfl rfl rfl rfl rfl) rfl ?_
  refine ao_read trivial (r_assign rfl) rfl ?_
  refine ao_nil ?_
  refine aq_then ?_
  refine aw_seq ?_
  refine aw_region ?_
  refine ao_read trivial (r_load_arr rfl Try.isAgg22 Try.sizeOf22 rfl rfl rfl) rfl ?_
  obtain ⟨r1, r1h, h⟩ := is_bind h
  refine ao_call [] 1 trivial (c_spec_l8Numbers (is_mk r1h)) Try.func37 rfl rfl rfl rfl ⟨ad_ren rfl, trivial⟩ trivial rfl rfl rfl rfl rfl rfl rfl (fun r' H' hr => ?_)
  obtain ⟨rfl, rfl⟩ := hr
  refine ao_norm (y := .os 1) (H' := [(0, .var [.arr (.int .i64) 6 x0]), (1, .row (.int .i64) r1)]) rfl rfl ?_
  refine row_len_o 1 (r1.length : Int) rfl rfl (fun hr2 => ?_)
  refine ao_read trivial (r_assign rfl) rfl ?_
  refine ao_read trivial (r_assign rfl) rfl ?_
  refine ao_nil ?_
  refine aq_then ?_
  refine aw_seq ?_
  refine aw_seq ?_
  refine aw_region ?_
  refine ao_read trivial (r_assign rfl) rfl ?_
  refine ao_nil ?_
  refine aq_then ?_
  refine aw_block ?_
  refine aw_loop (AL.sub (fr' := [(1, .v (.slice (.int .i64)) x1), (2, .ref 0 0), (5, .int .i64 1), (6, .os 1), (7, .int .i64 0)]) (H' := [(0, .var [.arr (.int .i64) 6 x0]), (1, .row (.int .i64) r1)]) (sub_mk idn (by exact ⟨⟨_, rfl, ad_ren rfl⟩, ⟨_, rfl, ad_ren rfl⟩, ⟨_, rfl, ad_ren rfl⟩, ⟨_, rfl, ad_ren rfl⟩, ⟨_, rfl, ad_ren rfl⟩, trivial⟩) (by exact ⟨⟨_, rfl, ⟨rfl, trivial⟩⟩, ⟨_, rfl, rfl⟩, trivial⟩) (by rfl) (nk rfl)) (al_cnt (fun i4 (s3 : Int) => [(1, .v (.slice (.int .i64)) x1), (2, .ref 0 0), (5, .int .i64 s3), (6, .os 1), (7, .int .i64 i4)]) (fun i4 (s3 : Int) => [(0, .var [.arr (.int .i64) 6 x0]), (1, .row (.int .i64) r1)]) (fun d i4 (s3 : Int) => d = Int.toNat ((x1.length : Int) - i4) ∧ 0 ≤ i4 ∧ i4 ≤ (x1.length : Int)) h ⟨rfl, (by (try simp only [List.length_set, List.length_append, List.length_cons, List.length_nil, List.length_replicate, List.length_take, List.length_drop]) <;> omega), (by (try simp only [List.length_set, List.length_append, List.length_cons, List.length_nil, List.length_replicate, List.length_take, List.length_drop]) <;> omega)⟩ (fun d5 i4 s3 hI h ih5 => ?_)))
  obtain ⟨hd, _, _⟩ := hI
  refine al_round ?_
  refine aw_seq ?_
  refine aw_seq ?_
  refine aw_region ?_
  refine ao_read trivial (r_move rfl) rfl ?_
  refine ao_read trivial (r_move rfl) rfl ?_
  refine ao_read trivial (r_len_vm (x1.length : Int) Try.underlying30 rfl rfl) rfl ?_
  refine ao_read trivial (r_lss rfl rfl) rfl ?_
  refine ao_nil ?_
  refine aq_then ?_
  refine aw_cond rfl (fun hb7 => ?_) (fun hb7 => ?_)
  · have q8 := d_t hb7
    obtain ⟨d5, rfl⟩ : ∃ e, d5 = e + 1 := ⟨d5 - 1, by omega⟩
    replace h := is_cntS h
    refine aw_skip ?_
    refine aq_then ?_
    refine aw_seq ?_
    refine aw_block ?_
    obtain ⟨g10, h⟩ := is_guard h
    obtain ⟨r11, r11h, h⟩ := is_bind h
    refine aw_drawAll (by kernel_rfl) ?_
    refine an_read 0 (by kernel_rfl) (fun _ _ _ h => h) rfl (by kernel_rfl) trivial (r_move rfl) rfl ?_
    refine an_read 1 (by kernel_rfl) (fun _ _ _ h => h) rfl (by kernel_rfl) trivial (r_load_arr rfl Try.isAgg22 Try.sizeOf22 rfl rfl rfl) rfl ?_
    refine an_read 2 (by kernel_rfl) (fun _ _ _ h => h) rfl (by kernel_rfl) trivial (r_move rfl) rfl ?_
    refine an_read 3 (by kernel_rfl) (fun _ _ _ h => h) rfl (by kernel_rfl) trivial (r_move rfl) rfl ?_
    refine an_read 4 (by kernel_rfl) (fun _ _ _ h => h) rfl (by kernel_rfl) trivial (r_idxAddr_os Try.underlying30 Try.sizeOf3 rfl rfl rfl (show 0 ≤ i4 from by omega) (show i4 < (r1.length : Int) from by omega)) rfl ?_
    refine an_read 5 (by kernel_rfl) (fun _ _ _ h => h) rfl (by kernel_rfl) trivial (r_load_elem_int Try.isAgg3 Try.sizeOf3 rfl rfl (show i4.toNat < r1.length from by omega)) rfl ?_
    refine an_scall 6 (by kernel_rfl) (fun _ _ _ h => h) rfl (by kernel_rfl) trivial (scall (c_spec_l8Weight (is_mk (rfl : p_spec_l8Weight x0 (r1.getD i4.toNat 0) = _))) rfl Try.func81 rfl rfl rfl rfl (fun σ => ⟨ad_ren rfl, ad_ren rfl, trivial⟩)) rfl ?_
    refine an_read 7 (by kernel_rfl) (fun _ _ _ h => h) rfl (by kernel_rfl) trivial (r_move rfl) rfl ?_
    refine an_read 8 (by kernel_rfl) (fun _ _ _ h => h) rfl (by kernel_rfl) trivial (r_move rfl) rfl ?_
    refine an_read 9 (by kernel_rfl) (fun _ _ _ h => h) rfl (by kernel_rfl) trivial (r_idxAddr_int Try.underlying30 Try.sizeOf3 rfl rfl (show 0 ≤ i4 from by omega) (show i4 < (x1.length : Int) from by omega)) rfl ?_
    refine an_read 10 (by kernel_rfl) (fun _ _ _ h => h) rfl (by kernel_rfl) trivial (r_load_c_int Try.isAgg3 Try.sizeOf3 rfl) rfl ?_
    refine an_scall 11 (by kernel_rfl) (fun _ _ _ h => h) rfl (by kernel_rfl) trivial (scall (c_spec_l8Power (is_mk r11h)) rfl Try.func80 rfl rfl rfl rfl (fun σ => ⟨ad_ren rfl, ad_ren rfl, trivial⟩)) rfl ?_
    refine an_read 12 (by kernel_rfl) (fun _ _ _ h => h) rfl (by kernel_rfl) trivial (r_mul rfl rfl) rfl ?_
    refine an_read 13 (by kernel_rfl) (fun _ _ _ h => h) rfl (by kernel_rfl) trivial (r_assign rfl) rfl ?_
    refine an_done rfl ?_
    refine aq_in ?_
    refine aq_then ?_
    refine aw_region ?_
    refine ao_read trivial (r_move rfl) rfl ?_
    refine ao_read trivial (r_addI rfl rfl (wrap_id (by omega) (by omega))) rfl ?_
    refine ao_read trivial (r_assign rfl) rfl ?_
    refine ao_nil ?_
    exact aq_again (AL.sub (sub_mk idn (by exact ⟨⟨_, rfl, ad_ren rfl⟩, ⟨_, rfl, ad_ren rfl⟩, ⟨_, rfl, ad_ren rfl⟩, ⟨_, rfl, ad_ren rfl⟩, ⟨_, rfl, ad_ren rfl⟩, trivial⟩) (by exact ⟨⟨_, rfl, ⟨rfl, trivial⟩⟩, ⟨_, rfl, rfl⟩, trivial⟩) (by rfl) (nk rfl)) (ih5 d5 (i4 + 1) (IntKind.wrap .i64 (s3 * r11)) (by omega) ⟨by omega, (by (try simp only [List.length_set, List.length_append, List.length_cons, List.length_nil, List.length_replicate, List.length_take, List.length_drop]) <;> omega), (by (try simp only [List.length_set, List.length_append, List.length_cons, List.length_nil, List.length_replicate, List.length_take, List.length_drop]) <;> omega)⟩ h))
  · have q9 := d_f hb7
    obtain rfl : d5 = 0 := by omega
    replace h := is_cnt0 h
    refine aw_exit ?_
    refine aq_then_exit ?_
    refine aq_then_exit ?_
    refine aq_in_exit ?_
    refine aq_then ?_
    refine aw_seq ?_
    refine aw_region ?_
    refine ao_read trivial (r_move rfl) rfl ?_
    refine ao_read trivial (r_assign rfl) rfl ?_
    refine ao_nil ?_
    refine aq_then ?_
    refine aw_ret ?_
    refine aq_ret ?_
    obtain rfl := is_some h
    exact aq_finx (l := [.tmp 4]) (xs := [.int .i64 s3]) idn [.int .i64 s3] [] rfl (by exact ⟨rfl, trivial⟩) (by exact ⟨ad_ren rfl, trivial⟩) (by exact trivial) rfl (nk rfl) rfl rfl ⟨rfl, rfl⟩
theorem c_spec_l11Sum {x0 : (List Int)} {r : Int} (h : Is (p_spec_l11Sum x0) r) :
    Scalar Try.prog 54 [.v (.slice (.int .i64)) x0] (.int .i64 r) := by
  unfold p_spec_l11Sum at h
  refine ac_enter ⟨18, 0⟩ Try.func54 rfl rfl rfl rfl rfl (fun Γ => ?_)
  refine sl_len_m 0 (x0.length : Int) rfl rfl (fun hl0 => ?_)
  refine aw_seq ?_
  refine aw_region ?_
  refine ao_read trivial (r_assign rfl) rfl ?_
  refine ao_nil ?_
  refine aq_then ?_
  refine aw_seq ?_
  refine aw_region ?_
  refine ao_read trivial (r_assign rfl) rfl ?_
  refine ao_nil ?_
  refine aq_then ?_
  refine aw_seq ?_
  refine aw_seq ?_
  refine aw_region ?_
  refine ao_read trivial (r_assign rfl) rfl ?_
  refine ao_nil ?_
  refine aq_then ?_
  refine aw_block ?_
  refine aw_loop (AL.sub (fr' := [(0, .v (.slice (.int .i64)) x0), (3, .int .i64 0), (4, .int .i64 0)]) (H' := []) (sub_mk idn (by exact ⟨⟨_, rfl, ad_ren rfl⟩, ⟨_, rfl, ad_ren rfl⟩, ⟨_, rfl, ad_ren rfl⟩, trivial⟩) (by exact trivial) (by rfl) (nk rfl)) (al_cnt (fun i2 (s1 : Int) => [(0, .v (.slice (.int .i64)) x0), (3, .int .i64 s1), (4, .int .i64 i2)]) (fun i2 (s1 : Int) => []) (fun d i2 (s1 : Int) => d = Int.toNat ((x0.length : Int) - i2) ∧ 0 ≤ i2 ∧ i2 ≤ (x0.length : Int)) h ⟨rfl, (by (try simp only [List.length_set, List.length_append, List.length_cons, List.length_nil, List.length_replicate, List.length_take, List.length_drop]) <;> omega), (by (try simp only [List.length_set, List.length_append, List.length_cons, List.length_nil, List.length_replicate, List.length_take, List.length_drop]) <;> omega)⟩ (fun d3 i2 s1 hI h ih3 => ?_)))
  obtain ⟨hd, _, _⟩ := hI
  refine al_round ?_
  refine aw_seq ?_
  refine aw_seq ?_
  refine aw_region ?_
  refine ao_read trivial (r_move rfl) rfl ?_
  refine ao_read trivial (r_move rfl) rfl ?_
  refine ao_read trivial (r_len_vm (x0.length : Int) Try.underlying30 rfl rfl) rfl ?_
  refine ao_read trivial (r_lss rfl rfl) rfl ?_
  refine ao_nil ?_
  refine aq_then ?_
  refine aw_cond rfl (fun hb5 => ?_) (fun hb5 => ?_)
  · have q6 := d_t hb5
    obtain ⟨d3, rfl⟩ : ∃ e, d3 = e + 1 := ⟨d3 - 1, by omega⟩
    replace h := is_cntS h
    refine aw_skip ?_
    refine aq_then ?_
    refine aw_seq ?_
    refine aw_block ?_
    refine aw_region ?_
    refine ao_read trivial (r_move rfl) rfl ?_
    refine ao_read trivial (r_move rfl) rfl ?_
    refine ao_read trivial (r_move rfl) rfl ?_
    refine ao_read trivial (r_idxAddr_int Try.underlying30 Try.sizeOf3 rfl rfl (show 0 ≤ i2 from by omega) (show i2 < (x0.length : Int) from by omega)) rfl ?_
    refine ao_read trivial (r_load_c_int Try.isAgg3 Try.sizeOf3 rfl) rfl ?_
    refine ao_read trivial (r_add rfl rfl) rfl ?_
    refine ao_read trivial (r_assign rfl) rfl ?_
    refine ao_nil ?_
    refine aq_in ?_
    refine aq_then ?_
    refine aw_region ?_
    refine ao_read trivial (r_move rfl) rfl ?_
    refine ao_read trivial (r_addI rfl rfl (wrap_id (by omega) (by omega))) rfl ?_
    refine ao_read trivial (r_assign rfl) rfl ?_
    refine ao_nil ?_
    exact aq_again (AL.sub (sub_mk idn (by exact ⟨⟨_, rfl, ad_ren rfl⟩, ⟨_, rfl, ad_ren rfl⟩, ⟨_, rfl, ad_ren rfl⟩, trivial⟩) (by exact trivial) (by rfl) (nk rfl)) (ih3 d3 (i2 + 1) (IntKind.wrap .i64 (s1 + (x0.getD i2.toNat 0))) (by omega) ⟨by omega, (by (try simp only [List.length_set, List.length_append, List.length_cons, List.length_nil, List.length_replicate, List.length_take, List.length_drop]) <;> omega), (by (try simp only [List.length_set, List.length_append, List.length_cons, List.length_nil, List.length_replicate, List.length_take, List.length_drop]) <;> omega)⟩ h))
  · have q7 := d_f hb5
    obtain rfl : d3 = 0 := by omega
    replace h := is_cnt0 h
    refine aw_exit ?_
    refine aq_then_exit ?_
    refine aq_then_exit ?_
    refine aq_in_exit ?_
    refine aq_then ?_
    refine aw_seq ?_
    refine aw_region ?_
    refine ao_read trivial (r_move rfl) rfl ?_
    refine ao_read trivial (r_assign rfl) rfl ?_
    refine ao_nil ?_
    refine aq_then ?_
    refine aw_ret ?_
    refine aq_ret ?_
    obtain rfl := is_eq h
    exact aq_finx (l := [.tmp 2]) (xs := [.int .i64 s1]) idn [.int .i64 s1] [] rfl (by exact ⟨rfl, trivial⟩) (by exact ⟨ad_ren rfl, trivial⟩) (by exact trivial) rfl (nk rfl) rfl rfl ⟨rfl, rfl⟩
theorem c_spec_l2All {fu : Nat} {x0 : Int} {r : Int} (h : Is (p_spec_l2All fu x0) (some r)) :
    Scalar Try.prog 53 [.int .i64 x0] (.int .i64 r) := by
  unfold p_spec_l2All at h
  refine ac_enter ⟨13, 0⟩ Try.func53 rfl rfl rfl rfl rfl (fun Γ => ?_)
  refine aw_seq ?_
  refine aw_region ?_
  refine ao_read trivial (r_assign rfl) rfl ?_
  refine ao_nil ?_
  refine aq_then ?_
  refine aw_seq ?_
  refine aw_region ?_
  refine ao_read trivial (r_assign rfl) rfl ?_
  refine ao_nil ?_
  refine aq_then ?_
  refine aw_seq ?_
  refine aw_seq ?_
  refine aw_region ?_
  refine ao_read trivial (r_assign rfl) rfl ?_
  refine ao_nil ?_
  refine aq_then ?_
  refine aw_block ?_
  refine aw_loop (AL.sub (sub_mk idn (by exact ⟨⟨_, rfl, ad_ren rfl⟩, ⟨_, rfl, ad_ren rfl⟩, ⟨_, rfl, ad_ren rfl⟩, trivial⟩) (by exact trivial) (by rfl) (nk rfl)) (al_whl (fun (s1 : Int × Int) => [(0, .int .i64 x0), (3, .int .i64 s1.1), (4, .int .i64 s1.2)]) (fun (s1 : Int × Int) => []) (fun (s1 : Int × Int) => True) h trivial (fun d3 s1 hI h ih3 => ?_)))
  replace h := is_whlS h
  refine al_round ?_
  refine aw_seq ?_
  refine aw_seq ?_
  refine aw_region ?_
  refine ao_read trivial (r_move rfl) rfl ?_
  refine ao_read trivial (r_move rfl) rfl ?_
  refine ao_read trivial (r_lss rfl rfl) rfl ?_
  refine ao_nil ?_
  refine aq_then ?_
  refine aw_cond rfl (fun hb5 => ?_) (fun hb5 => ?_)
  · have q6 := d_t hb5
    replace h := is_if (d_t hb5) h
    refine aw_skip ?_
    refine aq_then ?_
    refine aw_seq ?_
    refine aw_block ?_
    refine aw_region ?_
    refine ao_read trivial (r_move rfl) rfl ?_
    refine ao_read trivial (r_mul rfl rfl) rfl ?_
    refine ao_read trivial (r_assign rfl) rfl ?_
    refine ao_nil ?_
    refine aq_in ?_
    refine aq_then ?_
    refine aw_region ?_
    refine ao_read trivial (r_move rfl) rfl ?_
    refine ao_read trivial (r_add rfl rfl) rfl ?_
    refine ao_read trivial (r_assign rfl) rfl ?_
    refine ao_nil ?_
    exact aq_again (AL.sub (sub_mk idn (by exact ⟨⟨_, rfl, ad_ren rfl⟩, ⟨_, rfl, ad_ren rfl⟩, ⟨_, rfl, ad_ren rfl⟩, trivial⟩) (by exact trivial) (by rfl) (nk rfl)) (ih3 ((IntKind.wrap .i64 (s1.1 * 6)), (IntKind.wrap .i64 (s1.2 + 1))) trivial h))
  · have q7 := d_f hb5
    replace h := is_else (d_f hb5) h
    refine aw_exit ?_
    refine aq_then_exit ?_
    refine aq_then_exit ?_
    refine aq_in_exit ?_
    refine aq_then ?_
    refine aw_seq ?_
    refine aw_region ?_
    refine ao_read trivial (r_move rfl) rfl ?_
    refine ao_read trivial (r_assign rfl) rfl ?_
    refine ao_nil ?_
    refine aq_then ?_
    refine aw_ret ?_
    refine aq_ret ?_
    obtain rfl := is_some h
    exact aq_finx (l := [.tmp 2]) (xs := [.int .i64 s1.1]) idn [.int .i64 s1.1] [] rfl (by exact ⟨rfl, trivial⟩) (by exact ⟨ad_ren rfl, trivial⟩) (by exact trivial) rfl (nk rfl) rfl rfl ⟨rfl, rfl⟩
theorem c_spec_l1Most {x0 : Int} {x1 : Int} {r : Int} (h : Is (p_spec_l1Most x0 x1) r) :
    Scalar Try.prog 79 [.int .i64 x0, .int .i64 x1] (.int .i64 r) := by
  unfold p_spec_l1Most at h
  refine ac_enter ⟨10, 0⟩ Try.func79 rfl rfl rfl rfl rfl (fun Γ => ?_)
  refine aw_seq ?_
  refine aw_region ?_
  refine ao_read trivial (r_assign rfl) rfl ?_
  refine ao_nil ?_
  refine aq_then ?_
  refine aw_seq ?_
  refine aw_seq ?_
  refine aw_region ?_
  refine ao_read trivial (r_move rfl) rfl ?_
  refine ao_read trivial (r_move rfl) rfl ?_
  refine ao_read trivial (r_gtr rfl rfl) rfl ?_
  refine ao_nil ?_
  refine aq_then ?_
  refine aw_cond rfl (fun hb1 => ?_) (fun hb1 => ?_)
  · have q2 := d_t hb1
    replace h := is_if (d_t hb1) h
    refine aw_seq ?_
    refine aw_region ?_
    refine ao_read trivial (r_move rfl) rfl ?_
    refine ao_read trivial (r_assign rfl) rfl ?_
    refine ao_nil ?_
    refine aq_then ?_
    refine aw_ret ?_
    refine aq_then_ret ?_
    refine aq_ret ?_
    obtain rfl := is_eq h
    exact aq_finx (l := [.tmp 4]) (xs := [.int .i64 x0]) idn [.int .i64 x0] [] rfl (by exact ⟨rfl, trivial⟩) (by exact ⟨ad_ren rfl, trivial⟩) (by exact trivial) rfl (nk rfl) rfl rfl ⟨rfl, rfl⟩
  · have q3 := d_f hb1
    replace h := is_else (d_f hb1) h
    refine aw_skip ?_
    refine aq_then ?_
    refine aw_seq ?_
    refine aw_region ?_
    refine ao_read trivial (r_move rfl) rfl ?_
    refine ao_read trivial (r_assign rfl) rfl ?_
    refine ao_nil ?_
    refine aq_then ?_
    refine aw_ret ?_
    refine aq_ret ?_
    obtain rfl := is_eq h
    exact aq_finx (l := [.tmp 4]) (xs := [.int .i64 x1]) idn [.int .i64 x1] [] rfl (by exact ⟨rfl, trivial⟩) (by exact ⟨ad_ren rfl, trivial⟩) (by exact trivial) rfl (nk rfl) rfl rfl ⟨rfl, rfl⟩
theorem c_spec_l2Cut {fu : Nat} {x0 : Int} {x1 : Int} {r : (List Int)} (h : Is (p_spec_l2Cut fu x0 x1) (some r)) :
    Scalar Try.prog 51 [.int .i64 x0, .int .i64 x1] (.v (.arr 2 (.int .i64)) r) := by
  unfold p_spec_l2Cut at h
  refine ac_enter ⟨24, 0⟩ Try.func51 rfl rfl rfl rfl rfl (fun Γ => ?_)
  refine aw_seq ?_
  refine aw_region ?_
  refine ao_eff trivial (e_alloc 0 (y := .v (.arr 2 (.int .i64)) ((List.replicate 2 0) : (List Int))) Try.zeroValue39 (fun ρ h M => ra_zero_arr (t := (.int .i64)) rfl) rfl rfl rfl rfl rfl) rfl ?_
  refine ao_nil ?_
  refine aq_then ?_
  refine aw_seq ?_
  refine aw_region ?_
  refine ao_read trivial (r_move rfl) rfl ?_
  refine ao_read trivial (r_move rfl) rfl ?_
  refine ao_read trivial (r_assign rfl) rfl ?_
  refine ao_read trivial (r_assign rfl) rfl ?_
  refine ao_nil ?_
  refine aq_then ?_
  refine aw_seq ?_
  refine aw_block ?_
  refine aw_loop (AL.sub (sub_mk idn (by exact ⟨⟨_, rfl, ad_ren rfl⟩, ⟨_, rfl, ad_ren rfl⟩, ⟨_, rfl, ad_ren rfl⟩, ⟨_, rfl, ad_ren rfl⟩, ⟨_, rfl, ad_ren rfl⟩, trivial⟩) (by exact ⟨⟨_, rfl, ⟨rfl, trivial⟩⟩, trivial⟩) (by rfl) (nk rfl)) (al_whl (fun (s1 : Int × Int) => [(0, .int .i64 x0), (1, .int .i64 x1), (4, .ref 0 0), (5, .int .i64 s1.1), (6, .int .i64 s1.2)]) (fun (s1 : Int × Int) => [(0, .var [.arr (.int .i64) 2 ((List.replicate 2 0) : (List Int))])]) (fun (s1 : Int × Int) => True) h trivial (fun d3 s1 hI h ih3 => ?_)))
  replace h := is_whlS h
  refine al_round ?_
  refine aw_seq ?_
  refine aw_seq ?_
  refine aw_region ?_
  refine ao_read trivial (r_move rfl) rfl ?_
  refine ao_read trivial (r_gtr rfl rfl) rfl ?_
  refine ao_nil ?_
  refine aq_then ?_
  refine aw_cond rfl (fun hb5 => ?_) (fun hb5 => ?_)
  · have q6 := d_t hb5
    replace h := is_if (d_t hb5) h
    refine aw_skip ?_
    refine aq_then ?_
    refine aw_block ?_
    refine aw_drawAll (by kernel_rfl) ?_
    refine an_read 0 (by kernel_rfl) (fun _ _ _ h => h) rfl (by kernel_rfl) trivial (r_move rfl) rfl ?_
    refine an_read 1 (by kernel_rfl) (fun _ _ _ h => h) rfl (by kernel_rfl) trivial (r_move rfl) rfl ?_
    refine an_read 2 (by kernel_rfl) (fun _ _ _ h => h) rfl (by kernel_rfl) trivial (r_move rfl) rfl ?_
    refine an_read 3 (by kernel_rfl) (fun _ _ _ h => h) rfl (by kernel_rfl) trivial (r_rem rfl rfl (by omega)) rfl ?_
    refine an_read 4 (by kernel_rfl) (fun _ _ _ h => h) rfl (by kernel_rfl) trivial (r_assign rfl) rfl ?_
    refine an_read 5 (by kernel_rfl) (fun _ _ _ h => h) rfl (by kernel_rfl) trivial (r_assign rfl) rfl ?_
    refine an_done rfl ?_
    refine aq_in ?_
    exact aq_again (AL.sub (sub_mk idn (by exact ⟨⟨_, rfl, ad_ren rfl⟩, ⟨_, rfl, ad_ren rfl⟩, ⟨_, rfl, ad_ren rfl⟩, ⟨_, rfl, ad_ren rfl⟩, ⟨_, rfl, ad_ren rfl⟩, trivial⟩) (by exact ⟨⟨_, rfl, ⟨rfl, trivial⟩⟩, trivial⟩) (by rfl) (nk rfl)) (ih3 (s1.2, (s1.1.tmod s1.2)) trivial h))
  · have q7 := d_f hb5
    replace h := is_else (d_f hb5) h
    refine aw_exit ?_
    refine aq_then_exit ?_
    refine aq_then_exit ?_
    refine aq_in_exit ?_
    refine aq_then ?_
    refine aw_seq ?_
    obtain ⟨g8, h⟩ := is_guard h
    obtain ⟨g9, h⟩ := is_guard h
    refine aw_draw 9 (by kernel_rfl) (by kernel_rfl) ?_
    refine an_read 0 (by kernel_rfl) (fun _ _ _ h => h) rfl (by kernel_rfl) trivial (r_move rfl) rfl ?_
    refine an_read 1 (by kernel_rfl) (fun _ _ _ h => h) rfl (by kernel_rfl) trivial (r_move rfl) rfl ?_
    refine an_scall 2 (by kernel_rfl) (fun _ _ _ h => h) rfl (by kernel_rfl) trivial (scall (c_spec_l1Most (is_mk (rfl : p_spec_l1Most s1.1 1 = _))) rfl Try.func79 rfl rfl rfl rfl (fun σ => ⟨ad_ren rfl, ad_ren rfl, trivial⟩)) rfl ?_
    refine an_read 3 (by kernel_rfl) (fun _ _ _ h => h) rfl (by kernel_rfl) trivial (r_quo rfl rfl g8) rfl ?_
    refine an_read 4 (by kernel_rfl) (fun _ _ _ h => h) rfl (by kernel_rfl) trivial (r_move rfl) rfl ?_
    refine an_read 5 (by kernel_rfl) (fun _ _ _ h => h) rfl (by kernel_rfl) trivial (r_move rfl) rfl ?_
    refine an_scall 6 (by kernel_rfl) (fun _ _ _ h => h) rfl (by kernel_rfl) trivial (scall (c_spec_l1Most (is_mk (rfl : p_spec_l1Most s1.1 1 = _))) rfl Try.func79 rfl rfl rfl rfl (fun σ => ⟨ad_ren rfl, ad_ren rfl, trivial⟩)) rfl ?_
    refine an_read 7 (by kernel_rfl) (fun _ _ _ h => h) rfl (by kernel_rfl) trivial (r_quo rfl rfl g9) rfl ?_
    refine an_read 8 (by kernel_rfl) (fun _ _ _ h => h) rfl (by kernel_rfl) trivial (r_build_arr (l := [(0, .tmp 18), (1, .tmp 22)]) (t := (.int .i64)) ([(IntKind.wrap .i64 (x0.tdiv (p_spec_l1Most s1.1 1))), (IntKind.wrap .i64 (x1.tdiv (p_spec_l1Most s1.1 1)))] : (List Int)) rfl Try.underlying39 Try.zeroValue39 Try.sizeOf3 rfl rfl rfl rfl) rfl ?_
    refine an_tail rfl rfl ?_
    refine ao_effS trivial (e_store rfl rfl rfl rfl Try.sizeOf39 rfl) ?_
    refine ao_nil ?_
    refine aq_then ?_
    refine aw_ret ?_
    refine aq_ret ?_
    obtain rfl := is_some h
    exact aq_finx (l := [.cell 4 39]) (xs := [.v (.arr 2 (.int .i64)) ([(IntKind.wrap .i64 (x0.tdiv (p_spec_l1Most s1.1 1))), (IntKind.wrap .i64 (x1.tdiv (p_spec_l1Most s1.1 1)))] : (List Int))]) idn [.v (.arr 2 (.int .i64)) ([(IntKind.wrap .i64 (x0.tdiv (p_spec_l1Most s1.1 1))), (IntKind.wrap .i64 (x1.tdiv (p_spec_l1Most s1.1 1)))] : (List Int))] [] rfl (by exact ⟨⟨⟨_, _, rfl⟩, r_load_arr rfl Try.isAgg39 Try.sizeOf39 rfl rfl rfl⟩, trivial⟩) (by exact ⟨ad_ren rfl, trivial⟩) (by exact trivial) rfl (nk rfl) rfl rfl ⟨rfl, rfl⟩
theorem c_spec_LikelihoodOf {fu : Nat} {x0 : (List Int)} {x1 : (List Int)} {r : (List Int) × Bool} (h : Is (p_spec_LikelihoodOf fu x0 x1) (some r)) :
    Scalar Try.prog 20 [.v (.arr 6 (.int .i64)) x0, .v (.slice (.int .i64)) x1] (.tup [.v (.arr 2 (.int .i64)) r.1, .bool r.2]) := by
  unfold p_spec_LikelihoodOf at h
  refine ac_enter ⟨18, 0⟩ Try.func20 rfl rfl rfl rfl rfl (fun Γ => ?_)
  refine sl_len_m 1 (x1.length : Int) rfl rfl (fun hl1 => ?_)
  refine aw_seq ?_
  refine aw_region ?_
  refine ao_eff trivial (e_box 0 rfl rfl rfl rfl rfl rfl) rfl ?_
  refine ao_eff trivial (e_alloc 1 (y := .v (.arr 2 (.int .i64)) ((List.replicate 2 0) : (List Int))) Try.zeroValue39 (fun ρ h M => ra_zero_arr (t := (.int .i64)) rfl) rfl rfl rfl rfl rfl) rfl ?_
  refine ao_read trivial (r_assign rfl) rfl ?_
  refine ao_nil ?_
  refine aq_then ?_
  refine aw_seq ?_
  refine aw_seq ?_
  refine aw_region ?_
  refine ao_read trivial (r_load_arr rfl Try.isAgg22 Try.sizeOf22 rfl rfl rfl) rfl ?_
  refine ao_read trivial (r_move rfl) rfl ?_
  obtain ⟨r1, r1h, h⟩ := is_bind h
  refine ao_scall trivial (scall (c_spec_l11Counts (is_mk r1h)) rfl Try.func50 rfl rfl rfl rfl (fun σ => ⟨ad_ren rfl, ad_ren rfl, trivial⟩)) rfl ?_
  refine ao_read trivial (r_not rfl) rfl ?_
  refine ao_nil ?_
  refine aq_then ?_
  refine aw_cond rfl (fun hb2 => ?_) (fun hb2 => ?_)
  · replace h := is_else (ne_t (not_t hb2)) h
    refine aw_seq ?_
    refine aw_region ?_
    refine ao_read trivial (r_build_zero (t := (.int .i64)) Try.underlying39 Try.zeroValue39 Try.sizeOf3 rfl) rfl ?_
    refine ao_effS trivial (e_store rfl rfl rfl rfl Try.sizeOf39 rfl) ?_
    refine ao_read trivial (r_assign rfl) rfl ?_
    refine ao_nil ?_
    refine aq_then ?_
    refine aw_ret ?_
    refine aq_then_ret ?_
    refine aq_ret ?_
    obtain rfl := is_some h
    exact aq_finx (l := [.cell 4 39, .tmp 5]) (xs := [.v (.arr 2 (.int .i64)) ((List.replicate 2 0) : (List Int)), .bool false]) idn [.v (.arr 2 (.int .i64)) ((List.replicate 2 0) : (List Int)), .bool false] [] rfl (by exact ⟨⟨⟨_, _, rfl⟩, r_load_arr rfl Try.isAgg39 Try.sizeOf39 rfl rfl rfl⟩, rfl, trivial⟩) (by exact ⟨ad_ren rfl, ad_ren rfl, trivial⟩) (by exact trivial) rfl (nk rfl) rfl rfl ⟨rfl, rfl⟩
  · replace h := is_if (not_f hb2) h
    refine aw_skip ?_
    refine aq_then ?_
    refine aw_seq ?_
    refine aw_region ?_
    refine ao_read trivial (r_load_arr rfl Try.isAgg22 Try.sizeOf22 rfl rfl rfl) rfl ?_
    refine ao_read trivial (r_move rfl) rfl ?_
    obtain ⟨r3, r3h, h⟩ := is_bind h
    refine ao_scall trivial (scall (c_spec_l11Ways (is_mk r3h)) rfl Try.func52 rfl rfl rfl rfl (fun σ => ⟨ad_ren rfl, ad_ren rfl, trivial⟩)) rfl ?_
    refine ao_read trivial (r_move rfl) rfl ?_
    refine ao_scall trivial (scall (c_spec_l11Sum (is_mk (rfl : p_spec_l11Sum x1 = _))) rfl Try.func54 rfl rfl rfl rfl (fun σ => ⟨ad_ren rfl, trivial⟩)) rfl ?_
    obtain ⟨r4, r4h, h⟩ := is_bind h
    refine ao_scall trivial (scall (c_spec_l2All (is_mk r4h)) rfl Try.func53 rfl rfl rfl rfl (fun σ => ⟨ad_ren rfl, trivial⟩)) rfl ?_
    obtain ⟨r5, r5h, h⟩ := is_bind h
    refine ao_scall trivial (scall (c_spec_l2Cut (is_mk r5h)) rfl Try.func51 rfl rfl rfl rfl (fun σ => ⟨ad_ren rfl, ad_ren rfl, trivial⟩)) rfl ?_
    refine ao_effS trivial (e_store rfl rfl rfl rfl Try.sizeOf39 rfl) ?_
    refine ao_read trivial (r_assign rfl) rfl ?_
    refine ao_nil ?_
    refine aq_then ?_
    refine aw_ret ?_
    refine aq_ret ?_
    obtain rfl := is_some h
    exact aq_finx (l := [.cell 4 39, .tmp 5]) (xs := [.v (.arr 2 (.int .i64)) r5, .bool true]) idn [.v (.arr 2 (.int .i64)) r5, .bool true] [] rfl (by exact ⟨⟨⟨_, _, rfl⟩, r_load_arr rfl Try.isAgg39 Try.sizeOf39 rfl rfl rfl⟩, rfl, trivial⟩) (by exact ⟨ad_ren rfl, ad_ren rfl, trivial⟩) (by exact trivial) rfl (nk rfl) rfl rfl ⟨rfl, rfl⟩
theorem c_impl_arrangements {fu : Nat} {x0 : (List Int)} {r : Int} (h : Is (p_impl_arrangements fu x0) (some r)) :
    Scalar Try.prog 74 [.v (.slice (.int .i64)) x0] (.int .i64 r) := by
  unfold p_impl_arrangements at h
  refine ac_enter ⟨28, 0⟩ Try.func74 rfl rfl rfl rfl rfl (fun Γ => ?_)
  refine sl_len_m 0 (x0.length : Int) rfl rfl (fun hl0 => ?_)
  refine aw_seq ?_
  refine aw_region ?_
  refine ao_read trivial (r_assign rfl) rfl ?_
  refine ao_nil ?_
  refine aq_then ?_
  refine aw_seq ?_
  refine aw_region ?_
  refine ao_read trivial (r_assign rfl) rfl ?_
  refine ao_read trivial (r_assign rfl) rfl ?_
  refine ao_nil ?_
  refine aq_then ?_
  refine aw_seq ?_
  refine aw_seq ?_
  refine aw_region ?_
  refine ao_read trivial (r_move rfl) rfl ?_
  refine ao_read trivial (r_len_vm (x0.length : Int) Try.underlying30 rfl rfl) rfl ?_
  refine ao_read trivial (r_move rfl) rfl ?_
  refine ao_nil ?_
  refine aq_then ?_
  refine aw_block ?_
  refine aw_loop (AL.sub (fr' := [(3, .int .i64 1), (4, .int .i64 0), (8, .v (.slice (.int .i64)) x0), (9, .int .i64 (x0.length : Int)), (10, .int .i64 0)]) (H' := []) (sub_mk idn (by exact ⟨⟨_, rfl, ad_ren rfl⟩, ⟨_, rfl, ad_ren rfl⟩, ⟨_, rfl, ad_ren rfl⟩, ⟨_, rfl, ad_ren rfl⟩, ⟨_, rfl, ad_ren rfl⟩, trivial⟩) (by exact trivial) (by rfl) (nk rfl)) (al_cnt (fun i2 (s1 : Int × Int) => [(3, .int .i64 s1.1), (4, .int .i64 s1.2), (8, .v (.slice (.int .i64)) x0), (9, .int .i64 (x0.length : Int)), (10, .int .i64 i2)]) (fun i2 (s1 : Int × Int) => []) (fun d i2 (s1 : Int × Int) => d = Int.toNat ((x0.length : Int) - i2) ∧ 0 ≤ i2 ∧ i2 ≤ (x0.length : Int)) h ⟨rfl, (by (try simp only [List.length_set, List.length_append, List.length_cons, List.length_nil, List.length_replicate, List.length_take, List.length_drop]) <;> omega), (by (try simp only [List.length_set, List.length_append, List.length_cons, List.length_nil, List.length_replicate, List.length_take, List.length_drop]) <;> omega)⟩ (fun d3 i2 s1 hI h ih3 => ?_)))
  obtain ⟨hd, _, _⟩ := hI
  refine al_round ?_
  refine aw_seq ?_
  refine aw_region ?_
  refine ao_read trivial (r_lss rfl rfl) rfl ?_
  refine ao_nil ?_
  refine aq_then ?_
  refine aw_seq ?_
  refine aw_cond rfl (fun hb5 => ?_) (fun hb5 => ?_)
  · have q6 := d_t hb5
    obtain ⟨d3, rfl⟩ : ∃ e, d3 = e + 1 := ⟨d3 - 1, by omega⟩
    replace h := is_cntS h
    refine aw_skip ?_
    refine aq_then ?_
    refine aw_seq ?_
    refine aw_block ?_
    refine aw_seq ?_
    refine aw_region ?_
    refine ao_read trivial (r_idxAddr_int Try.underlying30 Try.sizeOf3 rfl rfl (show 0 ≤ i2 from by omega) (show i2 < (x0.length : Int) from by omega)) rfl ?_
    refine ao_read trivial (r_load_c_int Try.isAgg3 Try.sizeOf3 rfl) rfl ?_
    refine ao_read trivial (r_assign rfl) rfl ?_
    refine ao_nil ?_
    refine aq_then ?_
    refine aw_seq ?_
    refine aw_region ?_
    refine ao_read trivial (r_assign rfl) rfl ?_
    refine ao_nil ?_
    refine aq_then ?_
    refine aw_block ?_
    refine aw_loop (AL.sub (sub_mk idn (by exact ⟨⟨_, rfl, ad_ren rfl⟩, ⟨_, rfl, ad_ren rfl⟩, ⟨_, rfl, ad_ren rfl⟩, ⟨_, rfl, ad_ren rfl⟩, ⟨_, rfl, ad_ren rfl⟩, ⟨_, rfl, ad_ren rfl⟩, ⟨_, rfl, ad_ren rfl⟩, trivial⟩) (by exact trivial) (by rfl) (nk rfl)) (al_whl (fun (s8 : Int × Int × Int) => [(3, .int .i64 s8.1), (4, .int .i64 s8.2.1), (6, .int .i64 (x0.getD i2.toNat 0)), (7, .int .i64 s8.2.2), (8, .v (.slice (.int .i64)) x0), (9, .int .i64 (x0.length : Int)), (10, .int .i64 i2)]) (fun (s8 : Int × Int × Int) => []) (fun (s8 : Int × Int × Int) => True) h trivial (fun d10 s8 hI h ih10 => ?_)))
    replace h := is_whlS h
    refine al_round ?_
    refine aw_seq ?_
    refine aw_seq ?_
    refine aw_region ?_
    refine ao_read trivial (r_move rfl) rfl ?_
    refine ao_read trivial (r_move rfl) rfl ?_
    refine ao_read trivial (r_leq rfl rfl) rfl ?_
    refine ao_nil ?_
    refine aq_then ?_
    refine aw_cond rfl (fun hb12 => ?_) (fun hb12 => ?_)
    · have q13 : s8.2.2 ≤ (x0.getD i2.toNat 0) := d_t hb12
      replace h := is_if (d_t hb12) h
      refine aw_skip ?_
      refine aq_then ?_
      refine aw_seq ?_
      refine aw_block ?_
      refine aw_seq ?_
      refine aw_region ?_
      refine ao_read trivial (r_move rfl) rfl ?_
      refine ao_read trivial (r_add rfl rfl) rfl ?_
      refine ao_read trivial (r_assign rfl) rfl ?_
      refine ao_nil ?_
      refine aq_then ?_
      refine aw_region ?_
      refine ao_read trivial (r_move rfl) rfl ?_
      refine ao_read trivial (r_move rfl) rfl ?_
      refine ao_read trivial (r_mul rfl rfl) rfl ?_
      refine ao_read trivial (r_move rfl) rfl ?_
      obtain ⟨g15, h⟩ := is_guard h
      refine ao_read trivial (r_quo rfl rfl g15) rfl ?_
      refine ao_read trivial (r_assign rfl) rfl ?_
      refine ao_nil ?_
      refine aq_in ?_
      refine aq_then ?_
      refine aw_region ?_
      refine ao_read trivial (r_move rfl) rfl ?_
      refine ao_read trivial (r_add rfl rfl) rfl ?_
      refine ao_read trivial (r_assign rfl) rfl ?_
      refine ao_nil ?_
      exact aq_again (AL.sub (sub_mk idn (by exact ⟨⟨_, rfl, ad_ren rfl⟩, ⟨_, rfl, ad_ren rfl⟩, ⟨_, rfl, ad_ren rfl⟩, ⟨_, rfl, ad_ren rfl⟩, ⟨_, rfl, ad_ren rfl⟩, ⟨_, rfl, ad_ren rfl⟩, ⟨_, rfl, ad_ren rfl⟩, trivial⟩) (by exact trivial) (by rfl) (nk rfl)) (ih10 ((IntKind.wrap .i64 ((IntKind.wrap .i64 (s8.1 * (IntKind.wrap .i64 (s8.2.1 + 1)))).tdiv s8.2.2)), (IntKind.wrap .i64 (s8.2.1 + 1)), (IntKind.wrap .i64 (s8.2.2 + 1))) trivial h))
    · have q14 : ¬ (s8.2.2 ≤ (x0.getD i2.toNat 0)) := d_f hb12
      replace h := is_else (d_f hb12) h
      refine aw_exit ?_
      refine aq_then_exit ?_
      refine aq_then_exit ?_
      refine aq_in_exit ?_
      refine aq_in ?_
      refine aq_then ?_
      refine aw_region ?_
      refine ao_read trivial (r_addI rfl rfl (wrap_id (by omega) (by omega))) rfl ?_
      refine ao_read trivial (r_move rfl) rfl ?_
      refine ao_nil ?_
      exact aq_again (AL.sub (sub_mk idn (by exact ⟨⟨_, rfl, ad_ren rfl⟩, ⟨_, rfl, ad_ren rfl⟩, ⟨_, rfl, ad_ren rfl⟩, ⟨_, rfl, ad_ren rfl⟩, ⟨_, rfl, ad_ren rfl⟩, trivial⟩) (by exact trivial) (by rfl) (nk rfl)) (ih3 d3 (i2 + 1) (s8.1, s8.2.1) (by omega) ⟨by omega, (by (try simp only [List.length_set, List.length_append, List.length_cons, List.length_nil, List.length_replicate, List.length_take, List.length_drop]) <;> omega), (by (try simp only [List.length_set, List.length_append, List.length_cons, List.length_nil, List.length_replicate, List.length_take, List.length_drop]) <;> omega)⟩ h))
  · have q7 := d_f hb5
    obtain rfl : d3 = 0 := by omega
    replace h := is_cnt0 h
    refine aw_exit ?_
    refine aq_then_exit ?_
    refine aq_then_exit ?_
    refine aq_in_exit ?_
    refine aq_then ?_
    refine aw_seq ?_
    refine aw_region ?_
    refine ao_read trivial (r_move rfl) rfl ?_
    refine ao_read trivial (r_assign rfl) rfl ?_
    refine ao_nil ?_
    refine aq_then ?_
    refine aw_ret ?_
    refine aq_ret ?_
    obtain rfl := is_some h
    exact aq_finx (l := [.tmp 2]) (xs := [.int .i64 s1.1]) idn [.int .i64 s1.1] [] rfl (by exact ⟨rfl, trivial⟩) (by exact ⟨ad_ren rfl, trivial⟩) (by exact trivial) rfl (nk rfl) rfl rfl ⟨rfl, rfl⟩
theorem c_impl_chance {fu : Nat} {x0 : (List Int)} {x1 : (List Int)} {r : Int} (h : Is (p_impl_chance fu x0 x1) (some r)) :
    Scalar Try.prog 43 [.v (.arr 6 (.int .i64)) x0, .v (.slice (.int .i64)) x1] (.int .i64 r) := by
  unfold p_impl_chance at h
  refine ac_enter ⟨11, 0⟩ Try.func43 rfl rfl rfl rfl rfl (fun Γ => ?_)
  refine sl_len_m 1 (x1.length : Int) rfl rfl (fun hl1 => ?_)
  refine aw_seq ?_
  refine aw_region ?_
  refine ao_eff trivial (e_box 0 rfl rfl rfl rfl rfl rfl) rfl ?_
  refine ao_read trivial (r_assign rfl) rfl ?_
  refine ao_nil ?_
  refine aq_then ?_
  refine aw_seq ?_
  obtain ⟨r1, r1h, h⟩ := is_bind h
  obtain ⟨r2, r2h, h⟩ := is_bind h
  refine aw_drawAll (by kernel_rfl) ?_
  refine an_read 0 (by kernel_rfl) (fun _ _ _ h => h) rfl (by kernel_rfl) trivial (r_move rfl) rfl ?_
  refine an_scall 1 (by kernel_rfl) (fun _ _ _ h => h) rfl (by kernel_rfl) trivial (scall (c_impl_arrangements (is_mk r1h)) rfl Try.func74 rfl rfl rfl rfl (fun σ => ⟨ad_ren rfl, trivial⟩)) rfl ?_
  refine an_read 2 (by kernel_rfl) (fun _ _ _ h => h) rfl (by kernel_rfl) trivial (r_load_arr rfl Try.isAgg22 Try.sizeOf22 rfl rfl rfl) rfl ?_
  refine an_read 3 (by kernel_rfl) (fun _ _ _ h => h) rfl (by kernel_rfl) trivial (r_move rfl) rfl ?_
  refine an_scall 4 (by kernel_rfl) (fun _ _ _ h => h) rfl (by kernel_rfl) trivial (scall (c_impl_likelihood (is_mk r2h)) rfl Try.func47 rfl rfl rfl rfl (fun σ => ⟨ad_ren rfl, ad_ren rfl, trivial⟩)) rfl ?_
  refine an_read 5 (by kernel_rfl) (fun _ _ _ h => h) rfl (by kernel_rfl) trivial (r_mul rfl rfl) rfl ?_
  refine an_read 6 (by kernel_rfl) (fun _ _ _ h => h) rfl (by kernel_rfl) trivial (r_assign rfl) rfl ?_
  refine an_done rfl ?_
  refine aq_then ?_
  refine aw_ret ?_
  refine aq_ret ?_
  obtain rfl := is_some h
  exact aq_finx (l := [.tmp 4]) (xs := [.int .i64 (IntKind.wrap .i64 (r1 * r2))]) idn [.int .i64 (IntKind.wrap .i64 (r1 * r2))] [] rfl (by exact ⟨rfl, trivial⟩) (by exact ⟨ad_ren rfl, trivial⟩) (by exact trivial) rfl (nk rfl) rfl rfl ⟨rfl, rfl⟩
theorem c_impl_ChanceOfCounts {fu : Nat} {x0 : (List Int)} {x1 : (List Int)} {r : (List Int) × Bool} (h : Is (p_impl_ChanceOfCounts fu x0 x1) (some r)) :
    Scalar Try.prog 21 [.v (.arr 6 (.int .i64)) x0, .v (.slice (.int .i64)) x1] (.tup [.v (.arr 2 (.int .i64)) r.1, .bool r.2]) := by
  unfold p_impl_ChanceOfCounts at h
  refine ac_enter ⟨18, 0⟩ Try.func21 rfl rfl rfl rfl rfl (fun Γ => ?_)
  refine sl_len_m 1 (x1.length : Int) rfl rfl (fun hl1 => ?_)
  refine aw_seq ?_
  refine aw_region ?_
  refine ao_eff trivial (e_box 0 rfl rfl rfl rfl rfl rfl) rfl ?_
  refine ao_eff trivial (e_alloc 1 (y := .v (.arr 2 (.int .i64)) ((List.replicate 2 0) : (List Int))) Try.zeroValue39 (fun ρ h M => ra_zero_arr (t := (.int .i64)) rfl) rfl rfl rfl rfl rfl) rfl ?_
  refine ao_read trivial (r_assign rfl) rfl ?_
  refine ao_nil ?_
  refine aq_then ?_
  refine aw_seq ?_
  refine aw_seq ?_
  refine aw_region ?_
  refine ao_read trivial (r_load_arr rfl Try.isAgg22 Try.sizeOf22 rfl rfl rfl) rfl ?_
  refine ao_read trivial (r_move rfl) rfl ?_
  obtain ⟨r1, r1h, h⟩ := is_bind h
  refine ao_scall trivial (scall (c_impl_areCounts (is_mk r1h)) rfl Try.func45 rfl rfl rfl rfl (fun σ => ⟨ad_ren rfl, ad_ren rfl, trivial⟩)) rfl ?_
  refine ao_read trivial (r_not rfl) rfl ?_
  refine ao_nil ?_
  refine aq_then ?_
  refine aw_cond rfl (fun hb2 => ?_) (fun hb2 => ?_)
  · replace h := is_else (ne_t (not_t hb2)) h
    refine aw_seq ?_
    refine aw_region ?_
    refine ao_read trivial (r_build_zero (t := (.int .i64)) Try.underlying39 Try.zeroValue39 Try.sizeOf3 rfl) rfl ?_
    refine ao_effS trivial (e_store rfl rfl rfl rfl Try.sizeOf39 rfl) ?_
    refine ao_read trivial (r_assign rfl) rfl ?_
    refine ao_nil ?_
    refine aq_then ?_
    refine aw_ret ?_
    refine aq_then_ret ?_
    refine aq_ret ?_
    obtain rfl := is_some h
    exact aq_finx (l := [.cell 4 39, .tmp 5]) (xs := [.v (.arr 2 (.int .i64)) ((List.replicate 2 0) : (List Int)), .bool false]) idn [.v (.arr 2 (.int .i64)) ((List.replicate 2 0) : (List Int)), .bool false] [] rfl (by exact ⟨⟨⟨_, _, rfl⟩, r_load_arr rfl Try.isAgg39 Try.sizeOf39 rfl rfl rfl⟩, rfl, trivial⟩) (by exact ⟨ad_ren rfl, ad_ren rfl, trivial⟩) (by exact trivial) rfl (nk rfl) rfl rfl ⟨rfl, rfl⟩
  · replace h := is_if (not_f hb2) h
    refine aw_skip ?_
    refine aq_then ?_
    refine aw_seq ?_
    refine aw_region ?_
    refine ao_read trivial (r_load_arr rfl Try.isAgg22 Try.sizeOf22 rfl rfl rfl) rfl ?_
    refine ao_read trivial (r_move rfl) rfl ?_
    obtain ⟨r3, r3h, h⟩ := is_bind h
    refine ao_scall trivial (scall (c_impl_chance (is_mk r3h)) rfl Try.func43 rfl rfl rfl rfl (fun σ => ⟨ad_ren rfl, ad_ren rfl, trivial⟩)) rfl ?_
    refine ao_read trivial (r_move rfl) rfl ?_
    refine ao_scall trivial (scall (c_impl_total (is_mk (rfl : p_impl_total x1 = _))) rfl Try.func49 rfl rfl rfl rfl (fun σ => ⟨ad_ren rfl, trivial⟩)) rfl ?_
    obtain ⟨r4, r4h, h⟩ := is_bind h
    refine ao_scall trivial (scall (c_impl_power (is_mk r4h)) rfl Try.func48 rfl rfl rfl rfl (fun σ => ⟨ad_ren rfl, trivial⟩)) rfl ?_
    obtain ⟨r5, r5h, h⟩ := is_bind h
    refine ao_scall trivial (scall (c_impl_fraction (is_mk r5h)) rfl Try.func46 rfl rfl rfl rfl (fun σ => ⟨ad_ren rfl, ad_ren rfl, trivial⟩)) rfl ?_
    refine ao_effS trivial (e_store rfl rfl rfl rfl Try.sizeOf39 rfl) ?_
    refine ao_read trivial (r_assign rfl) rfl ?_
    refine ao_nil ?_
    refine aq_then ?_
    refine aw_ret ?_
    refine aq_ret ?_
    obtain rfl := is_some h
    exact aq_finx (l := [.cell 4 39, .tmp 5]) (xs := [.v (.arr 2 (.int .i64)) r5, .bool true]) idn [.v (.arr 2 (.int .i64)) r5, .bool true] [] rfl (by exact ⟨⟨⟨_, _, rfl⟩, r_load_arr rfl Try.isAgg39 Try.sizeOf39 rfl rfl rfl⟩, rfl, trivial⟩) (by exact ⟨ad_ren rfl, ad_ren rfl, trivial⟩) (by exact trivial) rfl (nk rfl) rfl rfl ⟨rfl, rfl⟩
theorem c_spec_l11Orders {fu : Nat} {x0 : (List Int)} {r : Int} (h : Is (p_spec_l11Orders fu x0) (some r)) :
    Scalar Try.prog 73 [.v (.slice (.int .i64)) x0] (.int .i64 r) := by
  unfold p_spec_l11Orders at h
  refine ac_enter ⟨29, 0⟩ Try.func73 rfl rfl rfl rfl rfl (fun Γ => ?_)
  refine sl_len_m 0 (x0.length : Int) rfl rfl (fun hl0 => ?_)
  refine aw_seq ?_
  refine aw_region ?_
  refine ao_read trivial (r_assign rfl) rfl ?_
  refine ao_nil ?_
  refine aq_then ?_
  refine aw_seq ?_
  refine aw_region ?_
  refine ao_read trivial (r_assign rfl) rfl ?_
  refine ao_read trivial (r_assign rfl) rfl ?_
  refine ao_nil ?_
  refine aq_then ?_
  refine aw_seq ?_
  refine aw_seq ?_
  refine aw_region ?_
  refine ao_read trivial (r_assign rfl) rfl ?_
  refine ao_nil ?_
  refine aq_then ?_
  refine aw_block ?_
  refine aw_loop (AL.sub (fr' := [(0, .v (.slice (.int .i64)) x0), (3, .int .i64 1), (4, .int .i64 0), (5, .int .i64 0)]) (H' := []) (sub_mk idn (by exact ⟨⟨_, rfl, ad_ren rfl⟩, ⟨_, rfl, ad_ren rfl⟩, ⟨_, rfl, ad_ren rfl⟩, ⟨_, rfl, ad_ren rfl⟩, trivial⟩) (by exact trivial) (by rfl) (nk rfl)) (al_cnt (fun i2 (s1 : Int × Int) => [(0, .v (.slice (.int .i64)) x0), (3, .int .i64 s1.1), (4, .int .i64 s1.2), (5, .int .i64 i2)]) (fun i2 (s1 : Int × Int) => []) (fun d i2 (s1 : Int × Int) => d = Int.toNat ((x0.length : Int) - i2) ∧ 0 ≤ i2 ∧ i2 ≤ (x0.length : Int)) h ⟨rfl, (by (try simp only [List.length_set, List.length_append, List.length_cons, List.length_nil, List.length_replicate, List.length_take, List.length_drop]) <;> omega), (by (try simp only [List.length_set, List.length_append, List.length_cons, List.length_nil, List.length_replicate, List.length_take, List.length_drop]) <;> omega)⟩ (fun d3 i2 s1 hI h ih3 => ?_)))
  obtain ⟨hd, _, _⟩ := hI
  refine al_round ?_
  refine aw_seq ?_
  refine aw_seq ?_
  refine aw_region ?_
  refine ao_read trivial (r_move rfl) rfl ?_
  refine ao_read trivial (r_move rfl) rfl ?_
  refine ao_read trivial (r_len_vm (x0.length : Int) Try.underlying30 rfl rfl) rfl ?_
  refine ao_read trivial (r_lss rfl rfl) rfl ?_
  refine ao_nil ?_
  refine aq_then ?_
  refine aw_cond rfl (fun hb5 => ?_) (fun hb5 => ?_)
  · have q6 := d_t hb5
    obtain ⟨d3, rfl⟩ : ∃ e, d3 = e + 1 := ⟨d3 - 1, by omega⟩
    replace h := is_cntS h
    refine aw_skip ?_
    refine aq_then ?_
    refine aw_seq ?_
    refine aw_block ?_
    refine aw_seq ?_
    refine aw_region ?_
    refine ao_read trivial (r_assign rfl) rfl ?_
    refine ao_nil ?_
    refine aq_then ?_
    refine aw_block ?_
    refine aw_loop (AL.sub (sub_mk idn (by exact ⟨⟨_, rfl, ad_ren rfl⟩, ⟨_, rfl, ad_ren rfl⟩, ⟨_, rfl, ad_ren rfl⟩, ⟨_, rfl, ad_ren rfl⟩, ⟨_, rfl, ad_ren rfl⟩, trivial⟩) (by exact trivial) (by rfl) (nk rfl)) (al_whl (fun (s8 : Int × Int × Int) => [(0, .v (.slice (.int .i64)) x0), (3, .int .i64 s8.1), (4, .int .i64 s8.2.1), (5, .int .i64 i2), (6, .int .i64 s8.2.2)]) (fun (s8 : Int × Int × Int) => []) (fun (s8 : Int × Int × Int) => True) h trivial (fun d10 s8 hI h ih10 => ?_)))
    replace h := is_whlS h
    refine al_round ?_
    refine aw_seq ?_
    refine aw_seq ?_
    refine aw_region ?_
    refine ao_read trivial (r_move rfl) rfl ?_
    refine ao_read trivial (r_move rfl) rfl ?_
    refine ao_read trivial (r_move rfl) rfl ?_
    refine ao_read trivial (r_idxAddr_int Try.underlying30 Try.sizeOf3 rfl rfl (show 0 ≤ i2 from by omega) (show i2 < (x0.length : Int) from by omega)) rfl ?_
    refine ao_read trivial (r_load_c_int Try.isAgg3 Try.sizeOf3 rfl) rfl ?_
    refine ao_read trivial (r_leq rfl rfl) rfl ?_
    refine ao_nil ?_
    refine aq_then ?_
    refine aw_cond rfl (fun hb12 => ?_) (fun hb12 => ?_)
    · have q13 : s8.2.2 ≤ (x0.getD i2.toNat 0) := d_t hb12
      replace h := is_if (d_t hb12) h
      refine aw_skip ?_
      refine aq_then ?_
      refine aw_seq ?_
      refine aw_block ?_
      refine aw_seq ?_
      refine aw_region ?_
      refine ao_read trivial (r_move rfl) rfl ?_
      refine ao_read trivial (r_add rfl rfl) rfl ?_
      refine ao_read trivial (r_assign rfl) rfl ?_
      refine ao_nil ?_
      refine aq_then ?_
      refine aw_region ?_
      refine ao_read trivial (r_move rfl) rfl ?_
      refine ao_read trivial (r_move rfl) rfl ?_
      refine ao_read trivial (r_mul rfl rfl) rfl ?_
      refine ao_read trivial (r_move rfl) rfl ?_
      obtain ⟨g15, h⟩ := is_guard h
      refine ao_read trivial (r_quo rfl rfl g15) rfl ?_
      refine ao_read trivial (r_assign rfl) rfl ?_
      refine ao_nil ?_
      refine aq_in ?_
      refine aq_then ?_
      refine aw_region ?_
      refine ao_read trivial (r_move rfl) rfl ?_
      refine ao_read trivial (r_add rfl rfl) rfl ?_
      refine ao_read trivial (r_assign rfl) rfl ?_
      refine ao_nil ?_
      exact aq_again (AL.sub (sub_mk idn (by exact ⟨⟨_, rfl, ad_ren rfl⟩, ⟨_, rfl, ad_ren rfl⟩, ⟨_, rfl, ad_ren rfl⟩, ⟨_, rfl, ad_ren rfl⟩, ⟨_, rfl, ad_ren rfl⟩, trivial⟩) (by exact trivial) (by rfl) (nk rfl)) (ih10 ((IntKind.wrap .i64 ((IntKind.wrap .i64 (s8.1 * (IntKind.wrap .i64 (s8.2.1 + 1)))).tdiv s8.2.2)), (IntKind.wrap .i64 (s8.2.1 + 1)), (IntKind.wrap .i64 (s8.2.2 + 1))) trivial h))
    · have q14 : ¬ (s8.2.2 ≤ (x0.getD i2.toNat 0)) := d_f hb12
      replace h := is_else (d_f hb12) h
      refine aw_exit ?_
      refine aq_then_exit ?_
      refine aq_then_exit ?_
      refine aq_in_exit ?_
      refine aq_in ?_
      refine aq_then ?_
      refine aw_region ?_
      refine ao_read trivial (r_move rfl) rfl ?_
      refine ao_read trivial (r_addI rfl rfl (wrap_id (by omega) (by omega))) rfl ?_
      refine ao_read trivial (r_assign rfl) rfl ?_
      refine ao_nil ?_
      exact aq_again (AL.sub (sub_mk idn (by exact ⟨⟨_, rfl, ad_ren rfl⟩, ⟨_, rfl, ad_ren rfl⟩, ⟨_, rfl, ad_ren rfl⟩, ⟨_, rfl, ad_ren rfl⟩, trivial⟩) (by exact trivial) (by rfl) (nk rfl)) (ih3 d3 (i2 + 1) (s8.1, s8.2.1) (by omega) ⟨by omega, (by (try simp only [List.length_set, List.length_append, List.length_cons, List.length_nil, List.length_replicate, List.length_take, List.length_drop]) <;> omega), (by (try simp only [List.length_set, List.length_append, List.length_cons, List.length_nil, List.length_replicate, List.length_take, List.length_drop]) <;> omega)⟩ h))
  · have q7 := d_f hb5
    obtain rfl : d3 = 0 := by omega
    replace h := is_cnt0 h
    refine aw_exit ?_
    refine aq_then_exit ?_
    refine aq_then_exit ?_
    refine aq_in_exit ?_
    refine aq_then ?_
    refine aw_seq ?_
    refine aw_region ?_
    refine ao_read trivial (r_move rfl) rfl ?_
    refine ao_read trivial (r_assign rfl) rfl ?_
    refine ao_nil ?_
    refine aq_then ?_
    refine aw_ret ?_
    refine aq_ret ?_
    obtain rfl := is_some h
    exact aq_finx (l := [.tmp 2]) (xs := [.int .i64 s1.1]) idn [.int .i64 s1.1] [] rfl (by exact ⟨rfl, trivial⟩) (by exact ⟨ad_ren rfl, trivial⟩) (by exact trivial) rfl (nk rfl) rfl rfl ⟨rfl, rfl⟩
theorem c_spec_l11Chance {fu : Nat} {x0 : (List Int)} {x1 : (List Int)} {r : Int} (h : Is (p_spec_l11Chance fu x0 x1) (some r)) :
    Scalar Try.prog 42 [.v (.arr 6 (.int .i64)) x0, .v (.slice (.int .i64)) x1] (.int .i64 r) := by
  unfold p_spec_l11Chance at h
  refine ac_enter ⟨11, 0⟩ Try.func42 rfl rfl rfl rfl rfl (fun Γ => ?_)
  refine sl_len_m 1 (x1.length : Int) rfl rfl (fun hl1 => ?_)
  refine aw_seq ?_
  refine aw_region ?_
  refine ao_eff trivial (e_box 0 rfl rfl rfl rfl rfl rfl) rfl ?_
  refine ao_read trivial (r_assign rfl) rfl ?_
  refine ao_nil ?_
  refine aq_then ?_
  refine aw_seq ?_
  refine aw_region ?_
  refine ao_read trivial (r_load_arr rfl Try.isAgg22 Try.sizeOf22 rfl rfl rfl) rfl ?_
  refine ao_read trivial (r_move rfl) rfl ?_
  obtain ⟨r1, r1h, h⟩ := is_bind h
  refine ao_scall trivial (scall (c_spec_l11Ways (is_mk r1h)) rfl Try.func52 rfl rfl rfl rfl (fun σ => ⟨ad_ren rfl, ad_ren rfl, trivial⟩)) rfl ?_
  refine ao_read trivial (r_move rfl) rfl ?_
  obtain ⟨r2, r2h, h⟩ := is_bind h
  refine ao_scall trivial (scall (c_spec_l11Orders (is_mk r2h)) rfl Try.func73 rfl rfl rfl rfl (fun σ => ⟨ad_ren rfl, trivial⟩)) rfl ?_
  refine ao_read trivial (r_mul rfl rfl) rfl ?_
  refine ao_read trivial (r_assign rfl) rfl ?_
  refine ao_nil ?_
  refine aq_then ?_
  refine aw_ret ?_
  refine aq_ret ?_
  obtain rfl := is_some h
  exact aq_finx (l := [.tmp 4]) (xs := [.int .i64 (IntKind.wrap .i64 (r1 * r2))]) idn [.int .i64 (IntKind.wrap .i64 (r1 * r2))] [] rfl (by exact ⟨rfl, trivial⟩) (by exact ⟨ad_ren rfl, trivial⟩) (by exact trivial) rfl (nk rfl) rfl rfl ⟨rfl, rfl⟩
theorem c_spec_ChanceOfCounts {fu : Nat} {x0 : (List Int)} {x1 : (List Int)} {r : (List Int) × Bool} (h : Is (p_spec_ChanceOfCounts fu x0 x1) (some r)) :
    Scalar Try.prog 22 [.v (.arr 6 (.int .i64)) x0, .v (.slice (.int .i64)) x1] (.tup [.v (.arr 2 (.int .i64)) r.1, .bool r.2]) := by
  unfold p_spec_ChanceOfCounts at h
  refine ac_enter ⟨18, 0⟩ Try.func22 rfl rfl rfl rfl rfl (fun Γ => ?_)
  refine sl_len_m 1 (x1.length : Int) rfl rfl (fun hl1 => ?_)
  refine aw_seq ?_
  refine aw_region ?_
  refine ao_eff trivial (e_box 0 rfl rfl rfl rfl rfl rfl) rfl ?_
  refine ao_eff trivial (e_alloc 1 (y := .v (.arr 2 (.int .i64)) ((List.replicate 2 0) : (List Int))) Try.zeroValue39 (fun ρ h M => ra_zero_arr (t := (.int .i64)) rfl) rfl rfl rfl rfl rfl) rfl ?_
  refine ao_read trivial (r_assign rfl) rfl ?_
  refine ao_nil ?_
  refine aq_then ?_
  refine aw_seq ?_
  refine aw_seq ?_
  refine aw_region ?_
  refine ao_read trivial (r_load_arr rfl Try.isAgg22 Try.sizeOf22 rfl rfl rfl) rfl ?_
  refine ao_read trivial (r_move rfl) rfl ?_
  obtain ⟨r1, r1h, h⟩ := is_bind h
  refine ao_scall trivial (scall (c_spec_l11Counts (is_mk r1h)) rfl Try.func50 rfl rfl rfl rfl (fun σ => ⟨ad_ren rfl, ad_ren rfl, trivial⟩)) rfl ?_
  refine ao_read trivial (r_not rfl) rfl ?_
  refine ao_nil ?_
  refine aq_then ?_
  refine aw_cond rfl (fun hb2 => ?_) (fun hb2 => ?_)
  · replace h := is_else (ne_t (not_t hb2)) h
    refine aw_seq ?_
    refine aw_region ?_
    refine ao_read trivial (r_build_zero (t := (.int .i64)) Try.underlying39 Try.zeroValue39 Try.sizeOf3 rfl) rfl ?_
    refine ao_effS trivial (e_store rfl rfl rfl rfl Try.sizeOf39 rfl) ?_
    refine ao_read trivial (r_assign rfl) rfl ?_
    refine ao_nil ?_
    refine aq_then ?_
    refine aw_ret ?_
    refine aq_then_ret ?_
    refine aq_ret ?_
    obtain rfl := is_some h
    exact aq_finx (l := [.cell 4 39, .tmp 5]) (xs := [.v (.arr 2 (.int .i64)) ((List.replicate 2 0) : (List Int)), .bool false]) idn [.v (.arr 2 (.int .i64)) ((List.replicate 2 0) : (List Int)), .bool false] [] rfl (by exact ⟨⟨⟨_, _, rfl⟩, r_load_arr rfl Try.isAgg39 Try.sizeOf39 rfl rfl rfl⟩, rfl, trivial⟩) (by exact ⟨ad_ren rfl, ad_ren rfl, trivial⟩) (by exact trivial) rfl (nk rfl) rfl rfl ⟨rfl, rfl⟩
  · replace h := is_if (not_f hb2) h
    refine aw_skip ?_
    refine aq_then ?_
    refine aw_seq ?_
    refine aw_region ?_
    refine ao_read trivial (r_load_arr rfl Try.isAgg22 Try.sizeOf22 rfl rfl rfl) rfl ?_
    refine ao_read trivial (r_move rfl) rfl ?_
    obtain ⟨r3, r3h, h⟩ := is_bind h
    refine ao_scall trivial (scall (c_spec_l11Chance (is_mk r3h)) rfl Try.func42 rfl rfl rfl rfl (fun σ => ⟨ad_ren rfl, ad_ren rfl, trivial⟩)) rfl ?_
    refine ao_read trivial (r_move rfl) rfl ?_
    refine ao_scall trivial (scall (c_spec_l11Sum (is_mk (rfl : p_spec_l11Sum x1 = _))) rfl Try.func54 rfl rfl rfl rfl (fun σ => ⟨ad_ren rfl, trivial⟩)) rfl ?_
    obtain ⟨r4, r4h, h⟩ := is_bind h
    refine ao_scall trivial (scall (c_spec_l2All (is_mk r4h)) rfl Try.func53 rfl rfl rfl rfl (fun σ => ⟨ad_ren rfl, trivial⟩)) rfl ?_
    obtain ⟨r5, r5h, h⟩ := is_bind h
    refine ao_scall trivial (scall (c_spec_l2Cut (is_mk r5h)) rfl Try.func51 rfl rfl rfl rfl (fun σ => ⟨ad_ren rfl, ad_ren rfl, trivial⟩)) rfl ?_
    refine ao_effS trivial (e_store rfl rfl rfl rfl Try.sizeOf39 rfl) ?_
    refine ao_read trivial (r_assign rfl) rfl ?_
    refine ao_nil ?_
    refine aq_then ?_
    refine aw_ret ?_
    refine aq_ret ?_
    obtain rfl := is_some h
    exact aq_finx (l := [.cell 4 39, .tmp 5]) (xs := [.v (.arr 2 (.int .i64)) r5, .bool true]) idn [.v (.arr 2 (.int .i64)) r5, .bool true] [] rfl (by exact ⟨⟨⟨_, _, rfl⟩, r_load_arr rfl Try.isAgg39 Try.sizeOf39 rfl rfl rfl⟩, rfl, trivial⟩) (by exact ⟨ad_ren rfl, ad_ren rfl, trivial⟩) (by exact trivial) rfl (nk rfl) rfl rfl ⟨rfl, rfl⟩
theorem c_impl_distance {x0 : (List Int)} {x1 : (List Int)} {r : Int} (h : Is (p_impl_distance x0 x1) (some r)) :
    Scalar Try.prog 55 [.v (.arr 6 (.int .i64)) x0, .v (.slice (.int .i64)) x1] (.int .i64 r) := by
  unfold p_impl_distance at h
  refine ac_enter ⟨43, 0⟩ Try.func55 rfl rfl rfl rfl rfl (fun Γ => ?_)
  refine sl_len_m 1 (x1.length : Int) rfl rfl (fun hl1 => ?_)
  refine aw_seq ?_
  refine aw_region ?_
  refine ao_eff trivial (e_box 0 rfl rfl rfl rfl rfl rfl) rfl ?_
  refine ao_read trivial (r_assign rfl) rfl ?_
  refine ao_nil ?_
  refine aq_then ?_
  refine aw_seq ?_
  refine aw_region ?_
  refine ao_read trivial (r_move rfl) rfl ?_
  refine ao_scall trivial (scall (c_impl_total (is_mk (rfl : p_impl_total x1 = _))) rfl Try.func49 rfl rfl rfl rfl (fun σ => ⟨ad_ren rfl, trivial⟩)) rfl ?_
  refine ao_read trivial (r_assign rfl) rfl ?_
  refine ao_read trivial (r_assign rfl) rfl ?_
  refine ao_nil ?_
  refine aq_then ?_
  refine aw_seq ?_
  refine aw_seq ?_
  refine aw_region ?_
  refine ao_read trivial (r_load_arr rfl Try.isAgg22 Try.sizeOf22 rfl rfl rfl) rfl ?_
  obtain ⟨r1, r1h, h⟩ := is_bind h
  refine ao_call [] 1 trivial (c_impl_numbers (is_mk r1h)) Try.func41 rfl rfl rfl rfl ⟨ad_ren rfl, trivial⟩ trivial rfl rfl rfl rfl rfl rfl rfl (fun r' H' hr => ?_)
  obtain ⟨rfl, rfl⟩ := hr
  refine ao_norm (y := .os 1) (H' := [(0, .var [.arr (.int .i64) 6 x0]), (1, .row (.int .i64) r1)]) rfl rfl ?_
  refine row_len_o 1 (r1.length : Int) rfl rfl (fun hr2 => ?_)
  refine ao_read trivial (r_len_osm (r1.length : Int) Try.underlying30 rfl rfl rfl) rfl ?_
  refine ao_read trivial (r_move rfl) rfl ?_
  refine ao_nil ?_
  refine aq_then ?_
  refine aw_block ?_
  refine aw_loop (AL.sub (fr' := [(1, .v (.slice (.int .i64)) x1), (2, .ref 0 0), (5, .int .i64 (p_impl_total x1)), (6, .int .i64 0), (14, .os 1), (15, .int .i64 (r1.length : Int)), (16, .int .i64 0)]) (H' := [(0, .var [.arr (.int .i64) 6 x0]), (1, .row (.int .i64) r1)]) (sub_mk idn (by exact ⟨⟨_, rfl, ad_ren rfl⟩, ⟨_, rfl, ad_ren rfl⟩, ⟨_, rfl, ad_ren rfl⟩, ⟨_, rfl, ad_ren rfl⟩, ⟨_, rfl, ad_ren rfl⟩, ⟨_, rfl, ad_ren rfl⟩, ⟨_, rfl, ad_ren rfl⟩, trivial⟩) (by exact ⟨⟨_, rfl, ⟨rfl, trivial⟩⟩, ⟨_, rfl, rfl⟩, trivial⟩) (by rfl) (nk rfl)) (al_cnt (fun i4 (s3 : Int) => [(1, .v (.slice (.int .i64)) x1), (2, .ref 0 0), (5, .int .i64 (p_impl_total x1)), (6, .int .i64 s3), (14, .os 1), (15, .int .i64 (r1.length : Int)), (16, .int .i64 i4)]) (fun i4 (s3 : Int) => [(0, .var [.arr (.int .i64) 6 x0]), (1, .row (.int .i64) r1)]) (fun d i4 (s3 : Int) => d = Int.toNat ((r1.length : Int) - i4) ∧ 0 ≤ i4 ∧ i4 ≤ (r1.length : Int)) h ⟨rfl, (by (try simp only [List.length_set, List.length_append, List.length_cons, List.length_nil, List.length_replicate, List.length_take, List.length_drop]) <;> omega), (by (try simp only [List.length_set, List.length_append, List.length_cons, List.length_nil, List.length_replicate, List.length_take, List.length_drop]) <;> omega)⟩ (fun d5 i4 s3 hI h ih5 => ?_)))
  obtain ⟨hd, _, _⟩ := hI
  refine al_round ?_
  refine aw_seq ?_
  refine aw_region ?_
  refine ao_read trivial (r_lss rfl rfl) rfl ?_
  refine ao_nil ?_
  refine aq_then ?_
  refine aw_seq ?_
  refine aw_cond rfl (fun hb7 => ?_) (fun hb7 => ?_)
  · have q8 := d_t hb7
    obtain ⟨d5, rfl⟩ : ∃ e, d5 = e + 1 := ⟨d5 - 1, by omega⟩
    replace h := is_cntS h
    refine aw_skip ?_
    refine aq_then ?_
    refine aw_seq ?_
    refine aw_block ?_
    refine aw_seq ?_
    refine aw_region ?_
    refine ao_read trivial (r_move rfl) rfl ?_
    refine ao_read trivial (r_idxAddr_os Try.underlying30 Try.sizeOf3 rfl rfl rfl (show 0 ≤ i4 from by omega) (show i4 < (r1.length : Int) from by omega)) rfl ?_
    refine ao_read trivial (r_load_elem_int Try.isAgg3 Try.sizeOf3 rfl rfl (show i4.toNat < r1.length from by omega)) rfl ?_
    refine ao_read trivial (r_assign rfl) rfl ?_
    refine ao_read trivial (r_assign rfl) rfl ?_
    refine ao_nil ?_
    refine aq_then ?_
    refine aw_seq ?_
    refine aw_region ?_
    refine ao_read trivial (r_load_arr rfl Try.isAgg22 Try.sizeOf22 rfl rfl rfl) rfl ?_
    refine ao_read trivial (r_move rfl) rfl ?_
    refine ao_scall trivial (scall (c_impl_weight (is_mk (rfl : p_impl_weight x0 (r1.getD i4.toNat 0) = _))) rfl Try.func78 rfl rfl rfl rfl (fun σ => ⟨ad_ren rfl, ad_ren rfl, trivial⟩)) rfl ?_
    refine ao_read trivial (r_assign rfl) rfl ?_
    refine ao_nil ?_
    refine aq_then ?_
    refine aw_seq ?_
    refine aw_region ?_
    refine ao_read trivial (r_move rfl) rfl ?_
    refine ao_read trivial (r_move rfl) rfl ?_
    obtain ⟨g10, h⟩ := is_guard h
    refine ao_read trivial (r_idxAddr_int Try.underlying30 Try.sizeOf3 rfl rfl (show 0 ≤ i4 from by omega) (show i4 < (x1.length : Int) from by omega)) rfl ?_
    refine ao_read trivial (r_load_c_int Try.isAgg3 Try.sizeOf3 rfl) rfl ?_
    refine ao_read trivial (r_mul rfl rfl) rfl ?_
    refine ao_read trivial (r_move rfl) rfl ?_
    refine ao_read trivial (r_move rfl) rfl ?_
    refine ao_read trivial (r_mul rfl rfl) rfl ?_
    refine ao_read trivial (r_sub rfl rfl) rfl ?_
    refine ao_read trivial (r_assign rfl) rfl ?_
    refine ao_nil ?_
    refine aq_then ?_
    refine aw_region ?_
    refine ao_read trivial (r_move rfl) rfl ?_
    refine ao_read trivial (r_move rfl) rfl ?_
    refine ao_read trivial (r_move rfl) rfl ?_
    refine ao_read trivial (r_mul rfl rfl) rfl ?_
    refine ao_read trivial (r_move rfl) rfl ?_
    obtain ⟨g11, h⟩ := is_guard h
    refine ao_read trivial (r_quo rfl rfl g11) rfl ?_
    refine ao_read trivial (r_mul rfl rfl) rfl ?_
    refine ao_read trivial (r_add rfl rfl) rfl ?_
    refine ao_read trivial (r_assign rfl) rfl ?_
    refine ao_nil ?_
    refine aq_in ?_
    refine aq_then ?_
    refine aw_region ?_
    refine ao_read trivial (r_addI rfl rfl (wrap_id (by omega) (by omega))) rfl ?_
    refine ao_read trivial (r_move rfl) rfl ?_
    refine ao_nil ?_
    exact aq_again (AL.sub (sub_mk idn (by exact ⟨⟨_, rfl, ad_ren rfl⟩, ⟨_, rfl, ad_ren rfl⟩, ⟨_, rfl, ad_ren rfl⟩, ⟨_, rfl, ad_ren rfl⟩, ⟨_, rfl, ad_ren rfl⟩, ⟨_, rfl, ad_ren rfl⟩, ⟨_, rfl, ad_ren rfl⟩, trivial⟩) (by exact ⟨⟨_, rfl, ⟨rfl, trivial⟩⟩, ⟨_, rfl, rfl⟩, trivial⟩) (by rfl) (nk rfl)) (ih5 d5 (i4 + 1) (IntKind.wrap .i64 (s3 + (IntKind.wrap .i64 ((IntKind.wrap .i64 ((IntKind.wrap .i64 ((IntKind.wrap .i64 (6 * (x1.getD i4.toNat 0))) - (IntKind.wrap .i64 ((p_impl_total x1) * (p_impl_weight x0 (r1.getD i4.toNat 0)))))) * (IntKind.wrap .i64 ((IntKind.wrap .i64 (6 * (x1.getD i4.toNat 0))) - (IntKind.wrap .i64 ((p_impl_total x1) * (p_impl_weight x0 (r1.getD i4.toNat 0)))))))) * (IntKind.wrap .i64 ((60 : Int).tdiv (p_impl_weight x0 (r1.getD i4.toNat 0)))))))) (by omega) ⟨by omega, (by (try simp only [List.length_set, List.length_append, List.length_cons, List.length_nil, List.length_replicate, List.length_take, List.length_drop]) <;> omega), (by (try simp only [List.length_set, List.length_append, List.length_cons, List.length_nil, List.length_replicate, List.length_take, List.length_drop]) <;> omega)⟩ h))
  · have q9 := d_f hb7
    obtain rfl : d5 = 0 := by omega
    replace h := is_cnt0 h
    refine aw_exit ?_
    refine aq_then_exit ?_
    refine aq_then_exit ?_
    refine aq_in_exit ?_
    refine aq_then ?_
    refine aw_seq ?_
    refine aw_region ?_
    refine ao_read trivial (r_move rfl) rfl ?_
    refine ao_read trivial (r_assign rfl) rfl ?_
    refine ao_nil ?_
    refine aq_then ?_
    refine aw_ret ?_
    refine aq_ret ?_
    obtain rfl := is_some h
    exact aq_finx (l := [.tmp 4]) (xs := [.int .i64 s3]) idn [.int .i64 s3] [] rfl (by exact ⟨rfl, trivial⟩) (by exact ⟨ad_ren rfl, trivial⟩) (by exact trivial) rfl (nk rfl) rfl rfl ⟨rfl, rfl⟩
theorem c_impl_DistanceOf {fu : Nat} {x0 : (List Int)} {x1 : (List Int)} {r : (List Int) × Bool} (h : Is (p_impl_DistanceOf fu x0 x1) (some r)) :
    Scalar Try.prog 23 [.v (.arr 6 (.int .i64)) x0, .v (.slice (.int .i64)) x1] (.tup [.v (.arr 2 (.int .i64)) r.1, .bool r.2]) := by
  unfold p_impl_DistanceOf at h
  refine ac_enter ⟨19, 0⟩ Try.func23 rfl rfl rfl rfl rfl (fun Γ => ?_)
  refine sl_len_m 1 (x1.length : Int) rfl rfl (fun hl1 => ?_)
  refine aw_seq ?_
  refine aw_region ?_
  refine ao_eff trivial (e_box 0 rfl rfl rfl rfl rfl rfl) rfl ?_
  refine ao_eff trivial (e_alloc 1 (y := .v (.arr 2 (.int .i64)) ((List.replicate 2 0) : (List Int))) Try.zeroValue39 (fun ρ h M => ra_zero_arr (t := (.int .i64)) rfl) rfl rfl rfl rfl rfl) rfl ?_
  refine ao_read trivial (r_assign rfl) rfl ?_
  refine ao_nil ?_
  refine aq_then ?_
  refine aw_seq ?_
  refine aw_seq ?_
  refine aw_region ?_
  refine ao_read trivial (r_load_arr rfl Try.isAgg22 Try.sizeOf22 rfl rfl rfl) rfl ?_
  refine ao_read trivial (r_move rfl) rfl ?_
  obtain ⟨r1, r1h, h⟩ := is_bind h
  refine ao_scall trivial (scall (c_impl_areCounts (is_mk r1h)) rfl Try.func45 rfl rfl rfl rfl (fun σ => ⟨ad_ren rfl, ad_ren rfl, trivial⟩)) rfl ?_
  refine ao_read trivial (r_not rfl) rfl ?_
  refine ao_nil ?_
  refine aq_then ?_
  refine aw_cond rfl (fun hb2 => ?_) (fun hb2 => ?_)
  · replace h := is_else (ne_t (not_t hb2)) h
    refine aw_seq ?_
    refine aw_region ?_
    refine ao_read trivial (r_build_zero (t := (.int .i64)) Try.underlying39 Try.zeroValue39 Try.sizeOf3 rfl) rfl ?_
    refine ao_effS trivial (e_store rfl rfl rfl rfl Try.sizeOf39 rfl) ?_
    refine ao_read trivial (r_assign rfl) rfl ?_
    refine ao_nil ?_
    refine aq_then ?_
    refine aw_ret ?_
    refine aq_then_ret ?_
    refine aq_ret ?_
    obtain rfl := is_some h
    exact aq_finx (l := [.cell 4 39, .tmp 5]) (xs := [.v (.arr 2 (.int .i64)) ((List.replicate 2 0) : (List Int)), .bool false]) idn [.v (.arr 2 (.int .i64)) ((List.replicate 2 0) : (List Int)), .bool false] [] rfl (by exact ⟨⟨⟨_, _, rfl⟩, r_load_arr rfl Try.isAgg39 Try.sizeOf39 rfl rfl rfl⟩, rfl, trivial⟩) (by exact ⟨ad_ren rfl, ad_ren rfl, trivial⟩) (by exact trivial) rfl (nk rfl) rfl rfl ⟨rfl, rfl⟩
  · replace h := is_if (not_f hb2) h
    refine aw_skip ?_
    refine aq_then ?_
    refine aw_seq ?_
    refine aw_region ?_
    refine ao_read trivial (r_load_arr rfl Try.isAgg22 Try.sizeOf22 rfl rfl rfl) rfl ?_
    refine ao_read trivial (r_move rfl) rfl ?_
    obtain ⟨r3, r3h, h⟩ := is_bind h
    refine ao_scall trivial (scall (c_impl_distance (is_mk r3h)) rfl Try.func55 rfl rfl rfl rfl (fun σ => ⟨ad_ren rfl, ad_ren rfl, trivial⟩)) rfl ?_
    refine ao_read trivial (r_move rfl) rfl ?_
    refine ao_scall trivial (scall (c_impl_total (is_mk (rfl : p_impl_total x1 = _))) rfl Try.func49 rfl rfl rfl rfl (fun σ => ⟨ad_ren rfl, trivial⟩)) rfl ?_
    refine ao_read trivial (r_max rfl rfl) rfl ?_
    refine ao_read trivial (r_mul rfl rfl) rfl ?_
    obtain ⟨r4, r4h, h⟩ := is_bind h
    refine ao_scall trivial (scall (c_impl_fraction (is_mk r4h)) rfl Try.func46 rfl rfl rfl rfl (fun σ => ⟨ad_ren rfl, ad_ren rfl, trivial⟩)) rfl ?_
    refine ao_effS trivial (e_store rfl rfl rfl rfl Try.sizeOf39 rfl) ?_
    refine ao_read trivial (r_assign rfl) rfl ?_
    refine ao_nil ?_
    refine aq_then ?_
    refine aw_ret ?_
    refine aq_ret ?_
    obtain rfl := is_some h
    exact aq_finx (l := [.cell 4 39, .tmp 5]) (xs := [.v (.arr 2 (.int .i64)) r4, .bool true]) idn [.v (.arr 2 (.int .i64)) r4, .bool true] [] rfl (by exact ⟨⟨⟨_, _, rfl⟩, r_load_arr rfl Try.isAgg39 Try.sizeOf39 rfl rfl rfl⟩, rfl, trivial⟩) (by exact ⟨ad_ren rfl, ad_ren rfl, trivial⟩) (by exact trivial) rfl (nk rfl) rfl rfl ⟨rfl, rfl⟩
theorem c_spec_l2Plus {fu : Nat} {x0 : (List Int)} {x1 : (List Int)} {r : (List Int)} (h : Is (p_spec_l2Plus fu x0 x1) (some r)) :
    Scalar Try.prog 82 [.v (.arr 2 (.int .i64)) x0, .v (.arr 2 (.int .i64)) x1] (.v (.arr 2 (.int .i64)) r) := by
  unfold p_spec_l2Plus at h
  refine ac_enter ⟨22, 0⟩ Try.func82 rfl rfl rfl rfl rfl (fun Γ => ?_)
  refine aw_seq ?_
  refine aw_region ?_
  refine ao_eff trivial (e_box 0 rfl rfl rfl rfl rfl rfl) rfl ?_
  refine ao_eff trivial (e_box 1 rfl rfl rfl rfl rfl rfl) rfl ?_
  refine ao_eff trivial (e_alloc 2 (y := .v (.arr 2 (.int .i64)) ((List.replicate 2 0) : (List Int))) Try.zeroValue39 (fun ρ h M => ra_zero_arr (t := (.int .i64)) rfl) rfl rfl rfl rfl rfl) rfl ?_
  refine ao_nil ?_
  refine aq_then ?_
  refine aw_seq ?_
  refine aw_region ?_
  refine ao_read trivial (r_idxAddr_arr (i := 0) Try.underlying39 Try.sizeOf3 rfl rfl (show 0 ≤ 0 from by omega) (show 0 < (2 : Int) from by omega)) rfl ?_
  refine ao_read trivial (r_load_elema_int Try.isAgg3 Try.sizeOf3 rfl rfl rfl (show 0 < 2 from by omega)) rfl ?_
  refine ao_read trivial (r_idxAddr_arr (i := 1) Try.underlying39 Try.sizeOf3 rfl rfl (show 0 ≤ 1 from by omega) (show 1 < (2 : Int) from by omega)) rfl ?_
  refine ao_read trivial (r_load_elema_int Try.isAgg3 Try.sizeOf3 rfl rfl rfl (show 1 < 2 from by omega)) rfl ?_
  refine ao_read trivial (r_mul rfl rfl) rfl ?_
  refine ao_read trivial (r_idxAddr_arr (i := 0) Try.underlying39 Try.sizeOf3 rfl rfl (show 0 ≤ 0 from by omega) (show 0 < (2 : Int) from by omega)) rfl ?_
  refine ao_read trivial (r_load_elema_int Try.isAgg3 Try.sizeOf3 rfl rfl rfl (show 0 < 2 from by omega)) rfl ?_
  refine ao_read trivial (r_idxAddr_arr (i := 1) Try.underlying39 Try.sizeOf3 rfl rfl (show 0 ≤ 1 from by omega) (show 1 < (2 : Int) from by omega)) rfl ?_
  refine ao_read trivial (r_load_elema_int Try.isAgg3 Try.sizeOf3 rfl rfl rfl (show 1 < 2 from by omega)) rfl ?_
  refine ao_read trivial (r_mul rfl rfl) rfl ?_
  refine ao_read trivial (r_add rfl rfl) rfl ?_
  refine ao_read trivial (r_idxAddr_arr (i := 1) Try.underlying39 Try.sizeOf3 rfl rfl (show 0 ≤ 1 from by omega) (show 1 < (2 : Int) from by omega)) rfl ?_
  refine ao_read trivial (r_load_elema_int Try.isAgg3 Try.sizeOf3 rfl rfl rfl (show 1 < 2 from by omega)) rfl ?_
  refine ao_read trivial (r_idxAddr_arr (i := 1) Try.underlying39 Try.sizeOf3 rfl rfl (show 0 ≤ 1 from by omega) (show 1 < (2 : Int) from by omega)) rfl ?_
  refine ao_read trivial (r_load_elema_int Try.isAgg3 Try.sizeOf3 rfl rfl rfl (show 1 < 2 from by omega)) rfl ?_
  refine ao_read trivial (r_mul rfl rfl) rfl ?_
  obtain ⟨r1, r1h, h⟩ := is_bind h
  refine ao_scall trivial (scall (c_spec_l2Cut (is_mk r1h)) rfl Try.func51 rfl rfl rfl rfl (fun σ => ⟨ad_ren rfl, ad_ren rfl, trivial⟩)) rfl ?_
  refine ao_effS trivial (e_store rfl rfl rfl rfl Try.sizeOf39 rfl) ?_
  refine ao_nil ?_
  refine aq_then ?_
  refine aw_ret ?_
  refine aq_ret ?_
  obtain rfl := is_some h
  exact aq_finx (l := [.cell 4 39]) (xs := [.v (.arr 2 (.int .i64)) r1]) idn [.v (.arr 2 (.int .i64)) r1] [] rfl (by exact ⟨⟨⟨_, _, rfl⟩, r_load_arr rfl Try.isAgg39 Try.sizeOf39 rfl rfl rfl⟩, trivial⟩) (by exact ⟨ad_ren rfl, trivial⟩) (by exact trivial) rfl (nk rfl) rfl rfl ⟨rfl, rfl⟩
theorem c_spec_l11Distance {fu : Nat} {x0 : (List Int)} {x1 : (List Int)} {r : (List Int)} (h : Is (p_spec_l11Distance fu x0 x1) (some r)) :
    Scalar Try.prog 56 [.v (.arr 6 (.int .i64)) x0, .v (.slice (.int .i64)) x1] (.v (.arr 2 (.int .i64)) r) := by
  unfold p_spec_l11Distance at h
  refine ac_enter ⟨52, 0⟩ Try.func56 rfl rfl rfl rfl rfl (fun Γ => ?_)
  refine sl_len_m 1 (x1.length : Int) rfl rfl (fun hl1 => ?_)
  refine aw_seq ?_
  refine aw_region ?_
  refine ao_eff trivial (e_box 0 rfl rfl rfl rfl rfl rfl) rfl ?_
  refine ao_eff trivial (e_alloc 1 (y := .v (.arr 2 (.int .i64)) ((List.replicate 2 0) : (List Int))) Try.zeroValue39 (fun ρ h M => ra_zero_arr (t := (.int .i64)) rfl) rfl rfl rfl rfl rfl) rfl ?_
  refine ao_nil ?_
  refine aq_then ?_
  refine aw_seq ?_
  obtain ⟨r1, r1h, h⟩ := is_bind h
  refine aw_draw 6 (by kernel_rfl) (by kernel_rfl) ?_
  refine an_to [(1, .v (.slice (.int .i64)) x1), (2, .ref 0 0), (4, .ref 1 0), (5, .ref 2 0), (11, .v (.arr 2 (.int .i64)) ([0, 1] : (List Int))), (13, .int .i64 (p_spec_l11Sum x1)), (15, .os 3)] [(0, .var [.arr (.int .i64) 6 x0]), (1, .var [.arr (.int .i64) 2 ((List.replicate 2 0) : (List Int))]), (2, .var [.arr (.int .i64) 2 ((List.replicate 2 0) : (List Int))]), (3, .row (.int .i64) r1)] ?_ (fun key => ?_)
  · refine row_len_q 3 (r1.length : Int) rfl rfl (fun hr3 => ?_)
    refine aq_tail rfl ?_
    refine ao_effS trivial (e_store rfl rfl rfl rfl Try.sizeOf39 rfl) ?_
    refine ao_read trivial (r_assign rfl) rfl ?_
    refine ao_read trivial (r_assign rfl) rfl ?_
    refine ao_nil ?_
    refine aq_then ?_
    refine aw_seq ?_
    refine aw_seq ?_
    refine aw_region ?_
    refine ao_read trivial (r_assign rfl) rfl ?_
    refine ao_nil ?_
    refine aq_then ?_
    refine aw_block ?_
    refine aw_loop (AL.sub (fr' := [(1, .v (.slice (.int .i64)) x1), (2, .ref 0 0), (4, .ref 1 0), (5, .ref 2 0), (6, .int .i64 (p_spec_l11Sum x1)), (7, .os 3), (8, .int .i64 0)]) (H' := [(0, .var [.arr (.int .i64) 6 x0]), (1, .var [.arr (.int .i64) 2 ((List.replicate 2 0) : (List Int))]), (2, .var [.arr (.int .i64) 2 ([0, 1] : (List Int))]), (3, .row (.int .i64) r1)]) (sub_mk idn (by exact ⟨⟨_, rfl, ad_ren rfl⟩, ⟨_, rfl, ad_ren rfl⟩, ⟨_, rfl, ad_ren rfl⟩, ⟨_, rfl, ad_ren rfl⟩, ⟨_, rfl, ad_ren rfl⟩, ⟨_, rfl, ad_ren rfl⟩, ⟨_, rfl, ad_ren rfl⟩, trivial⟩) (by exact ⟨⟨_, rfl, ⟨rfl, trivial⟩⟩, ⟨_, rfl, ⟨rfl, trivial⟩⟩, ⟨_, rfl, ⟨rfl, trivial⟩⟩, ⟨_, rfl, rfl⟩, trivial⟩) (by rfl) (nk rfl)) (al_cnt (fun i5 (s4 : (List Int)) => [(1, .v (.slice (.int .i64)) x1), (2, .ref 0 0), (4, .ref 1 0), (5, .ref 2 0), (6, .int .i64 (p_spec_l11Sum x1)), (7, .os 3), (8, .int .i64 i5)]) (fun i5 (s4 : (List Int)) => [(0, .var [.arr (.int .i64) 6 x0]), (1, .var [.arr (.int .i64) 2 ((List.replicate 2 0) : (List Int))]), (2, .var [.arr (.int .i64) 2 s4]), (3, .row (.int .i64) r1)]) (fun d i5 (s4 : (List Int)) => d = Int.toNat ((x1.length : Int) - i5) ∧ 0 ≤ i5 ∧ i5 ≤ (x1.length : Int)) h ⟨rfl, (by (try simp only [List.length_set, List.length_append, List.length_cons, List.length_nil, List.length_replicate, List.length_take, List.length_drop]) <;> omega), (by (try simp only [List.length_set, List.length_append, List.length_cons, List.length_nil, List.length_replicate, List.length_take, List.length_drop]) <;> omega)⟩ (fun d6 i5 s4 hI h ih6 => ?_)))
    obtain ⟨hd, _, _⟩ := hI
    refine al_round ?_
    refine aw_seq ?_
    refine aw_seq ?_
    refine aw_region ?_
    refine ao_read trivial (r_move rfl) rfl ?_
    refine ao_read trivial (r_move rfl) rfl ?_
    refine ao_read trivial (r_len_vm (x1.length : Int) Try.underlying30 rfl rfl) rfl ?_
    refine ao_read trivial (r_lss rfl rfl) rfl ?_
    refine ao_read trivial (r_move rfl) rfl ?_
    refine ao_readG (x := .int .i64 (p_spec_l11Sum x1)) rfl (GV.T rfl) (fun hg8 => by
          have q9 := d_t hg8
          exact r_move rfl) rfl ?_
    refine ao_readG (x := .bool (decide (0 < (p_spec_l11Sum x1)))) rfl (GV.T rfl) (fun hg10 => by
          have q11 := d_t hg10
          exact Reads.strip 21 rfl (hg10) (r_gtr rfl rfl)) rfl ?_
    refine ao_read trivial (r_andB rfl rfl) rfl ?_
    refine ao_nil ?_
    refine aq_then ?_
    refine aw_cond rfl (fun hb12 => ?_) (fun hb12 => ?_)
    · obtain ⟨q13, q14⟩ := and_t hb12
      have q15 := d_t q13
      have q16 := d_t q14
      obtain ⟨d6, rfl⟩ : ∃ e, d6 = e + 1 := ⟨d6 - 1, by omega⟩
      replace h := is_if hb12 (is_cntS h)
      refine aw_skip ?_
      refine aq_then ?_
      refine aw_seq ?_
      refine aw_block ?_
      refine aw_seq ?_
      obtain ⟨g17, h⟩ := is_guard h
      refine aw_drawAll (by kernel_rfl) ?_
      refine an_read 0 (by kernel_rfl) (fun _ _ _ h => h) rfl (by kernel_rfl) trivial (r_load_arr rfl Try.isAgg22 Try.sizeOf22 rfl rfl rfl) rfl ?_
      refine an_read 1 (by kernel_rfl) (fun _ _ _ h => h) rfl (by kernel_rfl) trivial (r_move rfl) rfl ?_
      refine an_read 2 (by kernel_rfl) (fun _ _ _ h => h) rfl (by kernel_rfl) trivial (r_move rfl) rfl ?_
      refine an_read 3 (by kernel_rfl) (fun _ _ _ h => h) rfl (by kernel_rfl) trivial (r_idxAddr_os Try.underlying30 Try.sizeOf3 rfl rfl rfl (show 0 ≤ i5 from by omega) (show i5 < (r1.length : Int) from by omega)) rfl ?_
      refine an_read 4 (by kernel_rfl) (fun _ _ _ h => h) rfl (by kernel_rfl) trivial (r_load_elem_int Try.isAgg3 Try.sizeOf3 rfl rfl (show i5.toNat < r1.length from by omega)) rfl ?_
      refine an_scall 5 (by kernel_rfl) (fun _ _ _ h => h) rfl (by kernel_rfl) trivial (scall (c_spec_l8Weight (is_mk (rfl : p_spec_l8Weight x0 (r1.getD i5.toNat 0) = _))) rfl Try.func81 rfl rfl rfl rfl (fun σ => ⟨ad_ren rfl, ad_ren rfl, trivial⟩)) rfl ?_
      refine an_read 6 (by kernel_rfl) (fun _ _ _ h => h) rfl (by kernel_rfl) trivial (r_assign rfl) rfl ?_
      refine an_done rfl ?_
      refine aq_then ?_
      refine aw_seq ?_
      refine aw_region ?_
      refine ao_read trivial (r_move rfl) rfl ?_
      refine ao_read trivial (r_move rfl) rfl ?_
      refine ao_read trivial (r_idxAddr_int Try.underlying30 Try.sizeOf3 rfl rfl (show 0 ≤ i5 from by omega) (show i5 < (x1.length : Int) from by omega)) rfl ?_
      refine ao_read trivial (r_load_c_int Try.isAgg3 Try.sizeOf3 rfl) rfl ?_
      refine ao_read trivial (r_mul rfl rfl) rfl ?_
      refine ao_read trivial (r_move rfl) rfl ?_
      refine ao_read trivial (r_move rfl) rfl ?_
      refine ao_read trivial (r_mul rfl rfl) rfl ?_
      refine ao_read trivial (r_sub rfl rfl) rfl ?_
      refine ao_read trivial (r_assign rfl) rfl ?_
      refine ao_nil ?_
      refine aq_then ?_
      obtain ⟨r18, r18h, h⟩ := is_bind h
      obtain ⟨r19, r19h, h⟩ := is_bind h
      refine aw_draw 10 (by kernel_rfl) (by kernel_rfl) ?_
      refine an_read 0 (by kernel_rfl) (fun _ _ _ h => h) rfl (by kernel_rfl) trivial (r_load_arr rfl Try.isAgg39 Try.sizeOf39 rfl rfl rfl) rfl ?_
      refine an_read 1 (by kernel_rfl) (fun _ _ _ h => h) rfl (by kernel_rfl) trivial (r_move rfl) rfl ?_
      refine an_read 2 (by kernel_rfl) (fun _ _ _ h => h) rfl (by kernel_rfl) trivial (r_move rfl) rfl ?_
      refine an_read 3 (by kernel_rfl) (fun _ _ _ h => h) rfl (by kernel_rfl) trivial (r_mul rfl rfl) rfl ?_
      refine an_read 4 (by kernel_rfl) (fun _ _ _ h => h) rfl (by kernel_rfl) trivial (r_move rfl) rfl ?_
      refine an_read 5 (by kernel_rfl) (fun _ _ _ h => h) rfl (by kernel_rfl) trivial (r_mul rfl rfl) rfl ?_
      refine an_read 6 (by kernel_rfl) (fun _ _ _ h => h) rfl (by kernel_rfl) trivial (r_move rfl) rfl ?_
      refine an_read 7 (by kernel_rfl) (fun _ _ _ h => h) rfl (by kernel_rfl) trivial (r_mul rfl rfl) rfl ?_
      refine an_scall 8 (by kernel_rfl) (fun _ _ _ h => h) rfl (by kernel_rfl) trivial (scall (c_spec_l2Cut (is_mk r18h)) rfl Try.func51 rfl rfl rfl rfl (fun σ => ⟨ad_ren rfl, ad_ren rfl, trivial⟩)) rfl ?_
      refine an_scall 9 (by kernel_rfl) (fun _ _ _ h => h) rfl (by kernel_rfl) trivial (scall (c_spec_l2Plus (is_mk r19h)) rfl Try.func82 rfl rfl rfl rfl (fun σ => ⟨ad_ren rfl, ad_ren rfl, trivial⟩)) rfl ?_
      refine an_tail rfl rfl ?_
      refine ao_effS trivial (e_store rfl rfl rfl rfl Try.sizeOf39 rfl) ?_
      refine ao_nil ?_
      refine aq_in ?_
      refine aq_then ?_
      refine aw_region ?_
      refine ao_read trivial (r_move rfl) rfl ?_
      refine ao_read trivial (r_addI rfl rfl (wrap_id (by omega) (by omega))) rfl ?_
      refine ao_read trivial (r_assign rfl) rfl ?_
      refine ao_nil ?_
      exact aq_again (AL.sub (sub_mk idn (by exact ⟨⟨_, rfl, ad_ren rfl⟩, ⟨_, rfl, ad_ren rfl⟩, ⟨_, rfl, ad_ren rfl⟩, ⟨_, rfl, ad_ren rfl⟩, ⟨_, rfl, ad_ren rfl⟩, ⟨_, rfl, ad_ren rfl⟩, ⟨_, rfl, ad_ren rfl⟩, trivial⟩) (by exact ⟨⟨_, rfl, ⟨rfl, trivial⟩⟩, ⟨_, rfl, ⟨rfl, trivial⟩⟩, ⟨_, rfl, ⟨rfl, trivial⟩⟩, ⟨_, rfl, rfl⟩, trivial⟩) (by rfl) (nk rfl)) (ih6 d6 (i5 + 1) r19 (by omega) ⟨by omega, (by (try simp only [List.length_set, List.length_append, List.length_cons, List.length_nil, List.length_replicate, List.length_take, List.length_drop]) <;> omega), (by (try simp only [List.length_set, List.length_append, List.length_cons, List.length_nil, List.length_replicate, List.length_take, List.length_drop]) <;> omega)⟩ h))
    · replace h := is_cntF h (ne_t hb12) (fun _ => rfl)
      refine aw_exit ?_
      refine aq_then_exit ?_
      refine aq_then_exit ?_
      refine aq_in_exit ?_
      refine aq_then ?_
      refine aw_seq ?_
      refine aw_region ?_
      refine ao_read trivial (r_load_arr rfl Try.isAgg39 Try.sizeOf39 rfl rfl rfl) rfl ?_
      refine ao_effS trivial (e_store rfl rfl rfl rfl Try.sizeOf39 rfl) ?_
      refine ao_nil ?_
      refine aq_then ?_
      refine aw_ret ?_
      refine aq_ret ?_
      obtain rfl := is_some h
      exact aq_finx (l := [.cell 4 39]) (xs := [.v (.arr 2 (.int .i64)) s4]) idn [.v (.arr 2 (.int .i64)) s4] [] rfl (by exact ⟨⟨⟨_, _, rfl⟩, r_load_arr rfl Try.isAgg39 Try.sizeOf39 rfl rfl rfl⟩, trivial⟩) (by exact ⟨ad_ren rfl, trivial⟩) (by exact trivial) rfl (nk rfl) rfl rfl ⟨rfl, rfl⟩
  · refine an_read 0 (by kernel_rfl) (fun _ _ _ h => h) rfl (by kernel_rfl) trivial (r_build_arr (l := [(0, .const (.int .i64 0)), (1, .const (.int .i64 1))]) (t := (.int .i64)) ([0, 1] : (List Int)) rfl Try.underlying39 Try.zeroValue39 Try.sizeOf3 rfl rfl rfl rfl) rfl ?_
    refine an_read 1 (by kernel_rfl) (fun _ _ _ h => h) rfl (by kernel_rfl) trivial (r_move rfl) rfl ?_
    refine an_scall 2 (by kernel_rfl) (fun _ _ _ h => h) rfl (by kernel_rfl) trivial (scall (c_spec_l11Sum (is_mk (rfl : p_spec_l11Sum x1 = _))) rfl Try.func54 rfl rfl rfl rfl (fun σ => ⟨ad_ren rfl, trivial⟩)) rfl ?_
    refine an_read 3 (by kernel_rfl) (fun _ _ _ h => h) rfl (by kernel_rfl) trivial (r_load_arr rfl Try.isAgg22 Try.sizeOf22 rfl rfl rfl) rfl ?_
    refine an_explore 2 rfl ?_
    refine ax_all [4, 5] (by kernel_rfl) ⟨?_, ?_, trivial⟩
    · refine axo_call 4 2 rfl trivial (c_spec_l8Numbers (is_mk r1h)) Try.func37 rfl rfl rfl rfl ⟨ad_ren rfl, trivial⟩ rfl rfl rfl rfl (fun r' H' hr => ?_)
      obtain ⟨rfl, rfl⟩ := hr
      refine ax_all [5] (by kernel_rfl) ⟨?_, trivial⟩
      refine axo_eff 5 rfl trivial (e_alloc 3 (y := .v (.arr 2 (.int .i64)) ((List.replicate 2 0) : (List Int))) Try.zeroValue39 (fun ρ h M => ra_zero_arr (t := (.int .i64)) rfl) rfl rfl rfl rfl rfl) rfl rfl ?_
      exact ax_done rfl (AQ.sub (sub_mk (rn [(2, 3), (3, 2)]) (by exact ⟨⟨_, rfl, ad_ren rfl⟩, ⟨_, rfl, ad_ren rfl⟩, ⟨_, rfl, ad_ren rfl⟩, ⟨_, rfl, ad_ren rfl⟩, ⟨_, rfl, ad_ren rfl⟩, ⟨_, rfl, ad_ren rfl⟩, ⟨_, rfl, ad_ren rfl⟩, trivial⟩) (by exact ⟨⟨_, rfl, ⟨rfl, trivial⟩⟩, ⟨_, rfl, ⟨rfl, trivial⟩⟩, ⟨_, rfl, ⟨rfl, trivial⟩⟩, ⟨_, rfl, rfl⟩, trivial⟩) (by rfl) (nk rfl)) key)
    · refine axo_eff 5 rfl trivial (e_alloc 2 (y := .v (.arr 2 (.int .i64)) ((List.replicate 2 0) : (List Int))) Try.zeroValue39 (fun ρ h M => ra_zero_arr (t := (.int .i64)) rfl) rfl rfl rfl rfl rfl) rfl rfl ?_
      refine ax_all [4] (by kernel_rfl) ⟨?_, trivial⟩
      refine axo_call 4 3 rfl trivial (c_spec_l8Numbers (is_mk r1h)) Try.func37 rfl rfl rfl rfl ⟨ad_ren rfl, trivial⟩ rfl rfl rfl rfl (fun r' H' hr => ?_)
      obtain ⟨rfl, rfl⟩ := hr
      exact ax_done rfl (AQ.sub (sub_mk idn (by exact ⟨⟨_, rfl, ad_ren rfl⟩, ⟨_, rfl, ad_ren rfl⟩, ⟨_, rfl, ad_ren rfl⟩, ⟨_, rfl, ad_ren rfl⟩, ⟨_, rfl, ad_ren rfl⟩, ⟨_, rfl, ad_ren rfl⟩, ⟨_, rfl, ad_ren rfl⟩, trivial⟩) (by exact ⟨⟨_, rfl, ⟨rfl, trivial⟩⟩, ⟨_, rfl, ⟨rfl, trivial⟩⟩, ⟨_, rfl, ⟨rfl, trivial⟩⟩, ⟨_, rfl, rfl⟩, trivial⟩) (by rfl) (nk rfl)) key)
theorem c_spec_DistanceOf {fu : Nat} {x0 : (List Int)} {x1 : (List Int)} {r : (List Int) × Bool} (h : Is (p_spec_DistanceOf fu x0 x1) (some r)) :
    Scalar Try.prog 24 [.v (.arr 6 (.int .i64)) x0, .v (.slice (.int .i64)) x1] (.tup [.v (.arr 2 (.int .i64)) r.1, .bool r.2]) := by
  unfold p_spec_DistanceOf at h
  refine ac_enter ⟨14, 0⟩ Try.func24 rfl rfl rfl rfl rfl (fun Γ => ?_)
  refine sl_len_m 1 (x1.length : Int) rfl rfl (fun hl1 => ?_)
  refine aw_seq ?_
  refine aw_region ?_
  refine ao_eff trivial (e_box 0 rfl rfl rfl rfl rfl rfl) rfl ?_
  refine ao_eff trivial (e_alloc 1 (y := .v (.arr 2 (.int .i64)) ((List.replicate 2 0) : (List Int))) Try.zeroValue39 (fun ρ h M => ra_zero_arr (t := (.int .i64)) rfl) rfl rfl rfl rfl rfl) rfl ?_
  refine ao_read trivial (r_assign rfl) rfl ?_
  refine ao_nil ?_
  refine aq_then ?_
  refine aw_seq ?_
  refine aw_seq ?_
  refine aw_region ?_
  refine ao_read trivial (r_load_arr rfl Try.isAgg22 Try.sizeOf22 rfl rfl rfl) rfl ?_
  refine ao_read trivial (r_move rfl) rfl ?_
  obtain ⟨r1, r1h, h⟩ := is_bind h
  refine ao_scall trivial (scall (c_spec_l11Counts (is_mk r1h)) rfl Try.func50 rfl rfl rfl rfl (fun σ => ⟨ad_ren rfl, ad_ren rfl, trivial⟩)) rfl ?_
  refine ao_read trivial (r_not rfl) rfl ?_
  refine ao_nil ?_
  refine aq_then ?_
  refine aw_cond rfl (fun hb2 => ?_) (fun hb2 => ?_)
  · replace h := is_else (ne_t (not_t hb2)) h
    refine aw_seq ?_
    refine aw_region ?_
    refine ao_read trivial (r_build_zero (t := (.int .i64)) Try.underlying39 Try.zeroValue39 Try.sizeOf3 rfl) rfl ?_
    refine ao_effS trivial (e_store rfl rfl rfl rfl Try.sizeOf39 rfl) ?_
    refine ao_read trivial (r_assign rfl) rfl ?_
    refine ao_nil ?_
    refine aq_then ?_
    refine aw_ret ?_
    refine aq_then_ret ?_
    refine aq_ret ?_
    obtain rfl := is_some h
    exact aq_finx (l := [.cell 4 39, .tmp 5]) (xs := [.v (.arr 2 (.int .i64)) ((List.replicate 2 0) : (List Int)), .bool false]) idn [.v (.arr 2 (.int .i64)) ((List.replicate 2 0) : (List Int)), .bool false] [] rfl (by exact ⟨⟨⟨_, _, rfl⟩, r_load_arr rfl Try.isAgg39 Try.sizeOf39 rfl rfl rfl⟩, rfl, trivial⟩) (by exact ⟨ad_ren rfl, ad_ren rfl, trivial⟩) (by exact trivial) rfl (nk rfl) rfl rfl ⟨rfl, rfl⟩
  · replace h := is_if (not_f hb2) h
    refine aw_skip ?_
    refine aq_then ?_
    refine aw_seq ?_
    refine aw_region ?_
    refine ao_read trivial (r_load_arr rfl Try.isAgg22 Try.sizeOf22 rfl rfl rfl) rfl ?_
    refine ao_read trivial (r_move rfl) rfl ?_
    obtain ⟨r3, r3h, h⟩ := is_bind h
    refine ao_scall trivial (scall (c_spec_l11Distance (is_mk r3h)) rfl Try.func56 rfl rfl rfl rfl (fun σ => ⟨ad_ren rfl, ad_ren rfl, trivial⟩)) rfl ?_
    refine ao_effS trivial (e_store rfl rfl rfl rfl Try.sizeOf39 rfl) ?_
    refine ao_read trivial (r_assign rfl) rfl ?_
    refine ao_nil ?_
    refine aq_then ?_
    refine aw_ret ?_
    refine aq_ret ?_
    obtain rfl := is_some h
    exact aq_finx (l := [.cell 4 39, .tmp 5]) (xs := [.v (.arr 2 (.int .i64)) r3, .bool true]) idn [.v (.arr 2 (.int .i64)) r3, .bool true] [] rfl (by exact ⟨⟨⟨_, _, rfl⟩, r_load_arr rfl Try.isAgg39 Try.sizeOf39 rfl rfl rfl⟩, rfl, trivial⟩) (by exact ⟨ad_ren rfl, ad_ren rfl, trivial⟩) (by exact trivial) rfl (nk rfl) rfl rfl ⟨rfl, rfl⟩
theorem c_laws_vCut {x0 : (List Int)} {x1 : Int} {r : (List Int)} (h : Is (p_laws_vCut x0 x1) (some r)) :
    ACalls Try.prog 26 [.v (.slice (.int .u8)) x0, .int .i64 x1] [] (fun r' H' => r' = .os 0 ∧ H' = [(0, .row (.int .u8) r)]) := by
  unfold p_laws_vCut at h
  refine ac_enter ⟨20, 0⟩ Try.func26 rfl rfl rfl rfl rfl (fun Γ => ?_)
  refine sl_len_m 0 (x0.length : Int) rfl rfl (fun hl0 => ?_)
  refine aw_seq ?_
  refine aw_region ?_
  refine ao_read trivial (r_assign rfl) rfl ?_
  refine ao_nil ?_
  refine aq_then ?_
  refine aw_join (fun (s1 : Int) => [(0, .v (.slice (.int .u8)) x0), (1, .int .i64 s1)]) (fun (s1 : Int) => []) (fun (s1 : Int) => True) h (fun s1 hI h => ?_) (fun h j3 => ?_)
  · refine aw_seq ?_
    refine aw_region ?_
    refine ao_eff trivial (e_buildSlice (l := []) (t := (.int .u8)) 0 ([] : (List Int)) rfl Try.underlying35 Try.zeroValue5 Try.sizeOf5 rfl rfl rfl rfl rfl rfl rfl) rfl ?_
    refine ao_read trivial (r_move rfl) rfl ?_
    refine ao_read trivial (r_move rfl) rfl ?_
    obtain ⟨g4, h⟩ := is_guard h
    obtain ⟨g5, h⟩ := is_guard h
    refine ao_read trivial (r_slice_vm (t := (.int .u8)) ((x0.drop s1.toNat) : (List Int)) Try.underlying35 Try.sizeOf5 rfl (.some rfl) .none (show 0 ≤ s1 from by omega) (show s1 ≤ (x0.length : Int) from by omega) (show (x0.length : Int) ≤ (x0.length : Int) from by omega) sl_hi) rfl ?_
    obtain ⟨g6, h⟩ := is_guard h
    refine ao_eff trivial (e_append (t := (.int .u8)) 1 rfl Try.underlying35 (rfl : Try.prog.info? 5 = some _) rfl rfl rfl rfl rfl rfl rfl src_v (show [].length + (x0.drop s1.toNat).length ≤ 1000000000 from by (try simp only [List.length_cons, List.length_nil, List.length_drop]) <;> omega) rfl rfl) rfl ?_
    refine ao_read trivial (r_move rfl) rfl ?_
    refine ao_read trivial (r_conv Try.underlying3 Try.underlying5 rfl) rfl ?_
    refine ao_eff trivial (e_buildSlice (l := [(0, .tmp 17)]) (t := (.int .u8)) 2 ([(IntKind.wrap .u8 s1)] : (List Int)) rfl Try.underlying35 Try.zeroValue5 Try.sizeOf5 rfl rfl rfl rfl rfl rfl rfl) rfl ?_
    obtain ⟨g7, h⟩ := is_guard h
    refine ao_eff trivial (e_append (t := (.int .u8)) 3 rfl Try.underlying35 (rfl : Try.prog.info? 5 = some _) rfl rfl rfl rfl rfl rfl rfl (src_os rfl) (show ([] ++ (x0.drop s1.toNat)).length + ([(IntKind.wrap .u8 s1)] : (List Int)).length ≤ 1000000000 from by (try simp only [List.length_append, List.length_cons, List.length_nil, List.length_drop]) <;> omega) rfl rfl) rfl ?_
    refine ao_read trivial (r_assign rfl) rfl ?_
    refine ao_nil ?_
    refine aq_then ?_
    refine aw_ret ?_
    refine aq_ret ?_
    obtain rfl := is_some h
    exact aq_finx (l := [.tmp 4]) (xs := [.os 3]) (rn [(0, 3)]) [.os 0] [(0, .row (.int .u8) ((([] ++ (x0.drop s1.toNat)) ++ [(IntKind.wrap .u8 s1)]) : (List Int)))] rfl (by exact ⟨rfl, trivial⟩) (by exact ⟨ad_ren rfl, trivial⟩) (by exact ⟨⟨_, rfl, rfl⟩, trivial⟩) rfl (nk rfl) rfl rfl ⟨rfl, rfl⟩
  · refine aw_seq ?_
    refine aw_region ?_
    refine ao_read trivial (r_move rfl) rfl ?_
    refine ao_read trivial (r_move rfl) rfl ?_
    refine ao_read trivial (r_len_vm (x0.length : Int) Try.underlying35 rfl rfl) rfl ?_
    refine ao_read trivial (r_gtr rfl rfl) rfl ?_
    refine ao_nil ?_
    refine aq_then ?_
    refine aw_cond rfl (fun hb8 => ?_) (fun hb8 => ?_)
    · have q9 := d_t hb8
      replace h := is_if (d_t hb8) h
      refine aw_region ?_
      refine ao_read trivial (r_move rfl) rfl ?_
      refine ao_read trivial (r_len_vm (x0.length : Int) Try.underlying35 rfl rfl) rfl ?_
      refine ao_read trivial (r_assign rfl) rfl ?_
      refine ao_nil ?_
      exact aq_then (AW.sub (sub_mk idn (by exact ⟨⟨_, rfl, ad_ren rfl⟩, ⟨_, rfl, ad_ren rfl⟩, trivial⟩) (by exact trivial) (by rfl) (nk rfl)) (j3 (x0.length : Int) trivial h))
    · have q10 := d_f hb8
      replace h := is_else (d_f hb8) h
      refine aw_skip ?_
      exact aq_then (AW.sub (sub_mk idn (by exact ⟨⟨_, rfl, ad_ren rfl⟩, ⟨_, rfl, ad_ren rfl⟩, trivial⟩) (by exact trivial) (by rfl) (nk rfl)) (j3 x1 trivial h))
theorem c_spec_l1Cur_rolls11 {fu : Nat} {x0 : (List Int)} {x1 : (List Int)} {x2 : Int} {x3 : Int} {r : (List Int) × Int × Int} (h : Is (p_spec_l1Cur_rolls11 fu x0 x1 x2 x3) (some r)) :
    ACallsV Try.prog 58 [.ref 0 0, .v (.arr 6 (.int .i64)) x0] [(0, .var [.cell (.v (.slice (.int .u8)) x1), .cell (.int .i64 x2), .cell (.int .u64 x3)])] (fun r' H' => r' = .os 1 ∧ H' = [(0, .var [.cell (.v (.slice (.int .u8)) x1), .cell (.int .i64 r.2.1), .cell (.int .u64 r.2.2)]), (1, .row (.int .i64) r.1)]) := by
  unfold p_spec_l1Cur_rolls11 at h
  refine ac_enterV ⟨43, 1⟩ Try.func58 rfl rfl rfl rfl rfl (fun Γ => ?_)
  refine aw_seq ?_
  refine aw_region ?_
  refine ao_eff trivial (e_box 1 rfl rfl rfl rfl rfl rfl) rfl ?_
  refine ao_read trivial (r_assign rfl) rfl ?_
  refine ao_nil ?_
  refine aq_then ?_
  refine aw_seq ?_
  refine aw_region ?_
  refine ao_eff trivial (e_buildSlice (l := []) (t := (.int .i64)) 2 ([] : (List Int)) rfl Try.underlying30 Try.zeroValue3 Try.sizeOf3 rfl rfl rfl rfl rfl rfl rfl) rfl ?_
  refine ao_read trivial (r_assign rfl) rfl ?_
  refine ao_nil ?_
  refine aq_then ?_
  refine aw_seq ?_
  refine aw_seq ?_
  refine aw_region ?_
  refine ao_read trivial (r_move rfl) rfl ?_
  refine ao_eff trivial (e_buildSlice (l := [(0, .const (.int .i64 3)), (1, .const (.int .i64 4)), (2, .const (.int .i64 2)), (3, .const (.int .i64 1)), (4, .const (.int .i64 0)), (5, .const (.int .i64 6)), (6, .const (.int .i64 12))]) (t := (.int .i64)) 3 ([3, 4, 2, 1, 0, 6, 12] : (List Int)) rfl Try.underlying30 Try.zeroValue3 Try.sizeOf3 rfl rfl rfl rfl rfl rfl rfl) rfl ?_
  obtain ⟨r1, r1h, h⟩ := is_bind h
  refine ao_frz (fr' := [(0, .ref 0 0), (1, .v (.arr 6 (.int .i64)) x0), (3, .ref 1 0), (4, .nilsl), (7, .os 2), (5, .os 2), (8, .ref 0 0), (9, .v (.slice (.int .i64)) ([3, 4, 2, 1, 0, 6, 12] : (List Int)))]) (H' := [(2, .row (.int .i64) ([] : (List Int))), (1, .var [.arr (.int .i64) 6 x0]), (0, .var [.cell (.v (.slice (.int .u8)) x1), .cell (.int .i64 x2), .cell (.int .u64 x3)])]) (by exact ⟨⟨_, rfl, ad_ren rfl⟩, ⟨_, rfl, ad_ren rfl⟩, ⟨_, rfl, ad_ren rfl⟩, ⟨_, rfl, ad_ren rfl⟩, ⟨_, rfl, ad_ren rfl⟩, ⟨_, rfl, ad_ren rfl⟩, ⟨_, rfl, ad_ren rfl⟩, ⟨_, rfl, ad_osB rfl rfl⟩, trivial⟩) (by exact ⟨⟨_, rfl, rfl⟩, ⟨_, rfl, ⟨rfl, trivial⟩⟩, ⟨_, rfl, ⟨ad_ren rfl, rfl, ad_ren rfl, rfl, ad_ren rfl, rfl, trivial⟩⟩, trivial⟩) rfl ?_
  refine ao_callV [0] 4 trivial (c_spec_l1Cur_among (is_mk r1h)) Try.func87 rfl rfl rfl rfl rfl ⟨rfl, trivial⟩ ⟨⟨_, rfl, ⟨ad_ren rfl, rfl, ad_ren rfl, rfl, ad_ren rfl, rfl, trivial⟩⟩, trivial⟩ rfl rfl rfl rfl rfl rfl rfl (fun r' H' hr => ?_)
  obtain ⟨rfl, rfl⟩ := hr
  refine ao_norm (y := .int .i64 r1.1) (H' := [(2, .row (.int .i64) ([] : (List Int))), (1, .var [.arr (.int .i64) 6 x0]), (0, .var [.cell (.v (.slice (.int .u8)) x1), .cell (.int .i64 r1.2.1), .cell (.int .u64 r1.2.2)])]) rfl rfl ?_
  refine ao_read trivial (r_assign rfl) rfl ?_
  refine ao_nil ?_
  refine aq_then ?_
  refine aw_block ?_
  refine aw_loop (AL.sub (sub_mk idn (by exact ⟨⟨_, rfl, ad_ren rfl⟩, ⟨_, rfl, ad_ren rfl⟩, ⟨_, rfl, ad_ren rfl⟩, ⟨_, rfl, ad_ren rfl⟩, trivial⟩) (by exact ⟨⟨_, rfl, ⟨ad_ren rfl, rfl, ad_ren rfl, rfl, ad_ren rfl, rfl, trivial⟩⟩, ⟨_, rfl, ⟨rfl, trivial⟩⟩, ⟨_, rfl, rfl⟩, trivial⟩) (by rfl) (nk1 rfl rfl)) (al_whl (fun (s2 : Int × Int × Int × (List Int)) => [(0, .ref 0 0), (3, .ref 1 0), (5, .os 2), (6, .int .i64 s2.1)]) (fun (s2 : Int × Int × Int × (List Int)) => [(0, .var [.cell (.v (.slice (.int .u8)) x1), .cell (.int .i64 s2.2.1), .cell (.int .u64 s2.2.2.1)]), (1, .var [.arr (.int .i64) 6 x0]), (2, .row (.int .i64) s2.2.2.2)]) (fun (s2 : Int × Int × Int × (List Int)) => True) h trivial (fun d4 s2 hI h ih4 => ?_)))
  replace h := is_whlS h
  refine al_round ?_
  refine aw_seq ?_
  refine aw_seq ?_
  refine aw_region ?_
  refine ao_read trivial (r_move rfl) rfl ?_
  refine ao_read trivial (r_gtr rfl rfl) rfl ?_
  refine ao_nil ?_
  refine aq_then ?_
  refine aw_cond rfl (fun hb6 => ?_) (fun hb6 => ?_)
  · have q7 := d_t hb6
    replace h := is_if (d_t hb6) h
    refine aw_skip ?_
    refine aq_then ?_
    refine aw_seq ?_
    refine aw_block ?_
    refine aw_region ?_
    refine ao_read trivial (r_move rfl) rfl ?_
    refine ao_read trivial (r_move rfl) rfl ?_
    obtain ⟨r9, r9h, h⟩ := is_bind h
    refine ao_callV [0] 3 trivial (c_spec_l1Cur_pick (is_mk r9h)) Try.func83 rfl rfl rfl rfl rfl ⟨rfl, trivial⟩ ⟨⟨_, rfl, ⟨ad_ren rfl, rfl, ad_ren rfl, rfl, ad_ren rfl, rfl, trivial⟩⟩, trivial⟩ rfl rfl rfl rfl rfl rfl rfl (fun r' H' hr => ?_)
    obtain ⟨rfl, rfl⟩ := hr
    refine ao_norm (y := .int .i64 r9.1) (H' := [(1, .var [.arr (.int .i64) 6 x0]), (2, .row (.int .i64) s2.2.2.2), (0, .var [.cell (.v (.slice (.int .u8)) x1), .cell (.int .i64 r9.2.1), .cell (.int .u64 r9.2.2)])]) rfl rfl ?_
    obtain ⟨g10, h⟩ := is_guard h
    obtain ⟨g11, h⟩ := is_guard h
    refine ao_read trivial (r_idxAddr_arr (i := r9.1) Try.underlying22 Try.sizeOf3 rfl rfl (show 0 ≤ r9.1 from by omega) (show r9.1 < (6 : Int) from by omega)) rfl ?_
    refine ao_read trivial (r_load_elema_int Try.isAgg3 Try.sizeOf3 rfl rfl rfl (show r9.1.toNat < 6 from by omega)) rfl ?_
    refine ao_eff trivial (e_buildSlice (l := [(0, .tmp 19)]) (t := (.int .i64)) 3 ([(x0.getD r9.1.toNat 0)] : (List Int)) rfl Try.underlying30 Try.zeroValue3 Try.sizeOf3 rfl rfl rfl rfl rfl rfl rfl) rfl ?_
    obtain ⟨g12, h⟩ := is_guard h
    refine ao_eff trivial (e_append (t := (.int .i64)) 4 rfl Try.underlying30 (rfl : Try.prog.info? 3 = some _) rfl rfl rfl rfl rfl rfl rfl (src_os rfl) (show s2.2.2.2.length + ([(x0.getD r9.1.toNat 0)] : (List Int)).length ≤ 1000000000 from by (try simp only [List.length_cons, List.length_nil]) <;> omega) rfl rfl) rfl ?_
    refine ao_read trivial (r_assign rfl) rfl ?_
    refine ao_nil ?_
    refine aq_in ?_
    refine aq_then ?_
    refine aw_region ?_
    refine ao_read trivial (r_move rfl) rfl ?_
    refine ao_read trivial (r_sub rfl rfl) rfl ?_
    refine ao_read trivial (r_assign rfl) rfl ?_
    refine ao_nil ?_
    exact aq_again (AL.sub (sub_mk (rn [(2, 4)]) (by exact ⟨⟨_, rfl, ad_ren rfl⟩, ⟨_, rfl, ad_ren rfl⟩, ⟨_, rfl, ad_ren rfl⟩, ⟨_, rfl, ad_ren rfl⟩, trivial⟩) (by exact ⟨⟨_, rfl, ⟨ad_ren rfl, rfl, ad_ren rfl, rfl, ad_ren rfl, rfl, trivial⟩⟩, ⟨_, rfl, ⟨rfl, trivial⟩⟩, ⟨_, rfl, rfl⟩, trivial⟩) (by rfl) (nk1 rfl rfl)) (ih4 ((IntKind.wrap .i64 (s2.1 - 1)), r9.2.1, r9.2.2, (s2.2.2.2 ++ [(x0.getD r9.1.toNat 0)])) trivial h))
  · have q8 := d_f hb6
    replace h := is_else (d_f hb6) h
    refine aw_exit ?_
    refine aq_then_exit ?_
    refine aq_then_exit ?_
    refine aq_in_exit ?_
    refine aq_then ?_
    refine aw_seq ?_
    refine aw_seq ?_
    refine aw_region ?_
    refine ao_read trivial (r_move rfl) rfl ?_
    obtain ⟨r13, r13h, h⟩ := is_bind h
    refine ao_callV [0] 5 trivial (c_spec_l1Cur_pick (is_mk r13h)) Try.func83 rfl rfl rfl rfl rfl ⟨rfl, trivial⟩ ⟨⟨_, rfl, ⟨ad_ren rfl, rfl, ad_ren rfl, rfl, ad_ren rfl, rfl, trivial⟩⟩, trivial⟩ rfl rfl rfl rfl rfl rfl rfl (fun r' H' hr => ?_)
    obtain ⟨rfl, rfl⟩ := hr
    refine ao_norm (y := .int .i64 r13.1) (H' := [(1, .var [.arr (.int .i64) 6 x0]), (2, .row (.int .i64) s2.2.2.2), (0, .var [.cell (.v (.slice (.int .u8)) x1), .cell (.int .i64 r13.2.1), .cell (.int .u64 r13.2.2)])]) rfl rfl ?_
    refine ao_nil ?_
    refine aq_then ?_
    refine aw_block ?_
    refine aw_seq ?_
    refine aw_region ?_
    refine ao_read trivial (r_eql rfl rfl) rfl ?_
    refine ao_read trivial (r_assign rfl) rfl ?_
    refine ao_nil ?_
    refine aq_then ?_
    refine aw_cond rfl (fun hb14 => ?_) (fun hb14 => ?_)
    · have q15 := d_t hb14
      replace h := is_if (d_t hb14) h
      refine aw_region ?_
      refine ao_read trivial (r_move rfl) rfl ?_
      refine ao_read trivial (r_move rfl) rfl ?_
      refine ao_eff trivial (e_buildSlice (l := [(0, .const (.int .i64 (-1))), (1, .const (.int .i64 31)), (2, .const (.int .i64 7)), (3, .const (.int .i64 4611686018427387904))]) (t := (.int .i64)) 5 ([(-1), 31, 7, 4611686018427387904] : (List Int)) rfl Try.underlying30 Try.zeroValue3 Try.sizeOf3 rfl rfl rfl rfl rfl rfl rfl) rfl ?_
      obtain ⟨r17, r17h, h⟩ := is_bind h
      refine ao_frz (fr' := [(0, .ref 0 0), (3, .ref 1 0), (5, .os 2), (6, .int .i64 s2.1), (11, .int .i64 s2.1), (12, .bool (decide (0 < s2.1))), (22, .ref 0 0), (23, .int .i64 r13.1), (25, .bool (decide (r13.1 = 0))), (24, .bool (decide (r13.1 = 0))), (26, .os 2), (27, .ref 0 0), (28, .v (.slice (.int .i64)) ([(-1), 31, 7, 4611686018427387904] : (List Int)))]) (H' := [(1, .var [.arr (.int .i64) 6 x0]), (2, .row (.int .i64) s2.2.2.2), (0, .var [.cell (.v (.slice (.int .u8)) x1), .cell (.int .i64 r13.2.1), .cell (.int .u64 r13.2.2)])]) (by exact ⟨⟨_, rfl, ad_ren rfl⟩, ⟨_, rfl, ad_ren rfl⟩, ⟨_, rfl, ad_ren rfl⟩, ⟨_, rfl, ad_ren rfl⟩, ⟨_, rfl, ad_ren rfl⟩, ⟨_, rfl, ad_ren rfl⟩, ⟨_, rfl, ad_ren rfl⟩, ⟨_, rfl, ad_ren rfl⟩, ⟨_, rfl, ad_ren rfl⟩, ⟨_, rfl, ad_ren rfl⟩, ⟨_, rfl, ad_ren rfl⟩, ⟨_, rfl, ad_ren rfl⟩, ⟨_, rfl, ad_osB rfl rfl⟩, trivial⟩) (by exact ⟨⟨_, rfl, ⟨rfl, trivial⟩⟩, ⟨_, rfl, rfl⟩, ⟨_, rfl, ⟨ad_ren rfl, rfl, ad_ren rfl, rfl, ad_ren rfl, rfl, trivial⟩⟩, trivial⟩) rfl ?_
      refine ao_callV [0] 6 trivial (c_spec_l1Cur_among (is_mk r17h)) Try.func87 rfl rfl rfl rfl rfl ⟨rfl, trivial⟩ ⟨⟨_, rfl, ⟨ad_ren rfl, rfl, ad_ren rfl, rfl, ad_ren rfl, rfl, trivial⟩⟩, trivial⟩ rfl rfl rfl rfl rfl rfl rfl (fun r' H' hr => ?_)
      obtain ⟨rfl, rfl⟩ := hr
      refine ao_norm (y := .int .i64 r17.1) (H' := [(1, .var [.arr (.int .i64) 6 x0]), (2, .row (.int .i64) s2.2.2.2), (0, .var [.cell (.v (.slice (.int .u8)) x1), .cell (.int .i64 r17.2.1), .cell (.int .u64 r17.2.2)])]) rfl rfl ?_
      refine ao_eff trivial (e_buildSlice (l := [(0, .tmp 29)]) (t := (.int .i64)) 6 ([r17.1] : (List Int)) rfl Try.underlying30 Try.zeroValue3 Try.sizeOf3 rfl rfl rfl rfl rfl rfl rfl) rfl ?_
      obtain ⟨g18, h⟩ := is_guard h
      refine ao_eff trivial (e_append (t := (.int .i64)) 7 rfl Try.underlying30 (rfl : Try.prog.info? 3 = some _) rfl rfl rfl rfl rfl rfl rfl (src_os rfl) (show s2.2.2.2.length + ([r17.1] : (List Int)).length ≤ 1000000000 from by (try simp only [List.length_cons, List.length_nil]) <;> omega) rfl rfl) rfl ?_
      refine ao_read trivial (r_assign rfl) rfl ?_
      refine ao_nil ?_
      refine aq_in ?_
      refine aq_then ?_
      refine aw_seq ?_
      refine aw_region ?_
      refine ao_read trivial (r_move rfl) rfl ?_
      refine ao_read trivial (r_assign rfl) rfl ?_
      refine ao_nil ?_
      refine aq_then ?_
      refine aw_ret ?_
      refine aq_ret ?_
      obtain rfl := is_some h
      exact aq_finV (l := [.tmp 4]) (xs := [.os 7]) (rn [(1, 7)]) [.os 1] [(0, .var [.cell (.v (.slice (.int .u8)) x1), .cell (.int .i64 r17.2.1), .cell (.int .u64 r17.2.2)]), (1, .row (.int .i64) ((s2.2.2.2 ++ [r17.1]) : (List Int)))] rfl (by exact ⟨rfl, trivial⟩) (by exact ⟨ad_ren rfl, trivial⟩) (by exact ⟨⟨_, rfl, ⟨ad_ren rfl, rfl, ad_ren rfl, rfl, ad_ren rfl, rfl, trivial⟩⟩, ⟨_, rfl, rfl⟩, trivial⟩) rfl (nk1 rfl rfl) ⟨rfl, rfl⟩
    · have q16 := d_f hb14
      replace h := is_else (d_f hb14) h
      refine aw_seq ?_
      refine aw_region ?_
      refine ao_read trivial (r_eql rfl rfl) rfl ?_
      refine ao_read trivial (r_assign rfl) rfl ?_
      refine ao_nil ?_
      refine aq_then ?_
      refine aw_cond rfl (fun hb19 => ?_) (fun hb19 => ?_)
      · have q20 := d_t hb19
        replace h := is_if (d_t hb19) h
        refine aw_block ?_
        refine aw_loop (AL.sub (sub_mk idn (by exact ⟨⟨_, rfl, ad_ren rfl⟩, ⟨_, rfl, ad_ren rfl⟩, trivial⟩) (by exact ⟨⟨_, rfl, ⟨ad_ren rfl, rfl, ad_ren rfl, rfl, ad_ren rfl, rfl, trivial⟩⟩, ⟨_, rfl, ⟨rfl, trivial⟩⟩, ⟨_, rfl, rfl⟩, trivial⟩) (by rfl) (nk1 rfl rfl)) (al_whl (fun (s22 : (List Int)) => [(3, .ref 1 0), (5, .os 2)]) (fun (s22 : (List Int)) => [(0, .var [.cell (.v (.slice (.int .u8)) x1), .cell (.int .i64 r13.2.1), .cell (.int .u64 r13.2.2)]), (1, .var [.arr (.int .i64) 6 x0]), (2, .row (.int .i64) s22)]) (fun (s22 : (List Int)) => True) h trivial (fun d24 s22 hI h ih24 => ?_)))
        replace h := is_whlS h
        refine al_round ?_
        refine aw_seq ?_
        refine aw_seq ?_
        refine aw_region ?_
        refine ao_read trivial (r_move rfl) rfl ?_
        refine ao_read trivial (r_len_osm (s22.length : Int) Try.underlying30 rfl rfl rfl) rfl ?_
        refine ao_read trivial (r_lss rfl rfl) rfl ?_
        refine ao_nil ?_
        refine aq_then ?_
        refine aw_cond rfl (fun hb26 => ?_) (fun hb26 => ?_)
        · have q27 := d_t hb26
          replace h := is_if (d_t hb26) h
          refine aw_skip ?_
          refine aq_then ?_
          refine aw_block ?_
          refine aw_region ?_
          refine ao_read trivial (r_move rfl) rfl ?_
          refine ao_read trivial (r_idxAddr_arr (i := 0) Try.underlying22 Try.sizeOf3 rfl rfl (show 0 ≤ 0 from by omega) (show 0 < (6 : Int) from by omega)) rfl ?_
          refine ao_read trivial (r_load_elema_int Try.isAgg3 Try.sizeOf3 rfl rfl rfl (show 0 < 6 from by omega)) rfl ?_
          refine ao_eff trivial (e_buildSlice (l := [(0, .tmp 39)]) (t := (.int .i64)) 3 ([(x0.getD 0 0)] : (List Int)) rfl Try.underlying30 Try.zeroValue3 Try.sizeOf3 rfl rfl rfl rfl rfl rfl rfl) rfl ?_
          refine ao_eff trivial (e_append (t := (.int .i64)) 4 rfl Try.underlying30 (rfl : Try.prog.info? 3 = some _) rfl rfl rfl rfl rfl rfl rfl (src_os rfl) (show s22.length + ([(x0.getD 0 0)] : (List Int)).length ≤ 1000000000 from by (try simp only [List.length_cons, List.length_nil]) <;> omega) rfl rfl) rfl ?_
          refine ao_read trivial (r_assign rfl) rfl ?_
          refine ao_nil ?_
          refine aq_in ?_
          exact aq_again (AL.sub (sub_mk (rn [(2, 4)]) (by exact ⟨⟨_, rfl, ad_ren rfl⟩, ⟨_, rfl, ad_ren rfl⟩, trivial⟩) (by exact ⟨⟨_, rfl, ⟨ad_ren rfl, rfl, ad_ren rfl, rfl, ad_ren rfl, rfl, trivial⟩⟩, ⟨_, rfl, ⟨rfl, trivial⟩⟩, ⟨_, rfl, rfl⟩, trivial⟩) (by rfl) (nk1 rfl rfl)) (ih24 (s22 ++ [(x0.getD 0 0)]) trivial h))
        · have q28 := d_f hb26
          replace h := is_else (d_f hb26) h
          refine aw_exit ?_
          refine aq_then_exit ?_
          refine aq_then_exit ?_
          refine aq_in_exit ?_
          refine aq_in ?_
          refine aq_then ?_
          refine aw_seq ?_
          refine aw_region ?_
          refine ao_read trivial (r_move rfl) rfl ?_
          refine ao_read trivial (r_assign rfl) rfl ?_
          refine ao_nil ?_
          refine aq_then ?_
          refine aw_ret ?_
          refine aq_ret ?_
          obtain rfl := is_some h
          exact aq_finV (l := [.tmp 4]) (xs := [.os 2]) (rn [(1, 2)]) [.os 1] [(0, .var [.cell (.v (.slice (.int .u8)) x1), .cell (.int .i64 r13.2.1), .cell (.int .u64 r13.2.2)]), (1, .row (.int .i64) s22)] rfl (by exact ⟨rfl, trivial⟩) (by exact ⟨ad_ren rfl, trivial⟩) (by exact ⟨⟨_, rfl, ⟨ad_ren rfl, rfl, ad_ren rfl, rfl, ad_ren rfl, rfl, trivial⟩⟩, ⟨_, rfl, rfl⟩, trivial⟩) rfl (nk1 rfl rfl) ⟨rfl, rfl⟩
      · have q21 := d_f hb19
        replace h := is_else (d_f hb19) h
        refine aw_skip ?_
        refine aq_in ?_
        refine aq_then ?_
        refine aw_seq ?_
        refine aw_region ?_
        refine ao_read trivial (r_move rfl) rfl ?_
        refine ao_read trivial (r_assign rfl) rfl ?_
        refine ao_nil ?_
        refine aq_then ?_
        refine aw_ret ?_
        refine aq_ret ?_
        obtain rfl := is_some h
        exact aq_finV (l := [.tmp 4]) (xs := [.os 2]) (rn [(1, 2)]) [.os 1] [(0, .var [.cell (.v (.slice (.int .u8)) x1), .cell (.int .i64 r13.2.1), .cell (.int .u64 r13.2.2)]), (1, .row (.int .i64) s2.2.2.2)] rfl (by exact ⟨rfl, trivial⟩) (by exact ⟨ad_ren rfl, trivial⟩) (by exact ⟨⟨_, rfl, ⟨ad_ren rfl, rfl, ad_ren rfl, rfl, ad_ren rfl, rfl, trivial⟩⟩, ⟨_, rfl, rfl⟩, trivial⟩) rfl (nk1 rfl rfl) ⟨rfl, rfl⟩
theorem c_spec_DrawCountRolls {fu : Nat} {x0 : (List Int)} {r : (List Int) × (List Int)} (h : Is (p_spec_DrawCountRolls fu x0) (some r)) :
    ACalls Try.prog 25 [.v (.slice (.int .u8)) x0] [] (fun r' H' => r' = .tup [.v (.arr 6 (.int .i64)) r.1, .os 0] ∧ H' = [(0, .row (.int .i64) r.2)]) := by
  unfold p_spec_DrawCountRolls at h
  refine ac_enter ⟨15, 0⟩ Try.func25 rfl rfl rfl rfl rfl (fun Γ => ?_)
  refine sl_len_m 0 (x0.length : Int) rfl rfl (fun hl0 => ?_)
  refine aw_seq ?_
  refine aw_region ?_
  refine ao_eff trivial (e_alloc 0 (y := .v (.arr 6 (.int .i64)) ((List.replicate 6 0) : (List Int))) Try.zeroValue22 (fun ρ h M => ra_zero_arr (t := (.int .i64)) rfl) rfl rfl rfl rfl rfl) rfl ?_
  refine ao_read trivial (r_assign rfl) rfl ?_
  refine ao_nil ?_
  refine aq_then ?_
  refine aw_seq ?_
  refine aw_region ?_
  refine ao_read trivial (r_move rfl) rfl ?_
  refine ao_read trivial (r_build_st (l := [(0, .tmp 6)]) (cs := [.cell (.v (.slice (.int .u8)) x0), .cell (.int .i64 0), .cell (.int .u64 0)]) (.pair (.slice (.int .u8)) (.pair (.int .i64) (.pair (.int .u64) .unit))) [(0, 1), (1, 1), (2, 1)] Try.underlying61 Try.zeroValue61 rfl ⟨rfl, Try.sizeOf35, rfl, Try.sizeOf3, rfl, Try.sizeOf59, trivial⟩ rfl rfl rfl) rfl ?_
  refine ao_eff trivial (e_box 1 rfl rfl rfl rfl rfl rfl) rfl ?_
  refine ao_read trivial (r_assign rfl) rfl ?_
  refine ao_nil ?_
  refine aq_then ?_
  refine aw_seq ?_
  refine aw_region ?_
  refine ao_read trivial (r_move rfl) rfl ?_
  obtain ⟨r1, r1h, h⟩ := is_bind h
  refine ao_callV [1] 2 trivial (c_spec_l1Cur_die (is_mk r1h)) Try.func57 rfl rfl rfl rfl rfl ⟨rfl, trivial⟩ ⟨⟨_, rfl, ⟨ad_ren rfl, rfl, ad_ren rfl, rfl, ad_ren rfl, rfl, trivial⟩⟩, trivial⟩ rfl rfl rfl rfl rfl rfl rfl (fun r' H' hr => ?_)
  obtain ⟨rfl, rfl⟩ := hr
  refine ao_norm (y := .v (.arr 6 (.int .i64)) r1.1) (H' := [(0, .var [.arr (.int .i64) 6 ((List.replicate 6 0) : (List Int))]), (1, .var [.cell (.v (.slice (.int .u8)) x0), .cell (.int .i64 r1.2.1), .cell (.int .u64 r1.2.2)])]) rfl rfl ?_
  refine ao_eff trivial (e_alloc 2 (y := .v (.arr 6 (.int .i64)) ((List.replicate 6 0) : (List Int))) Try.zeroValue22 (fun ρ h M => ra_zero_arr (t := (.int .i64)) rfl) rfl rfl rfl rfl rfl) rfl ?_
  refine ao_effS trivial (e_store rfl rfl rfl rfl Try.sizeOf22 rfl) ?_
  refine ao_nil ?_
  refine aq_then ?_
  refine aw_seq ?_
  obtain ⟨r2, r2h, h⟩ := is_bind h
  refine aw_drawP 6 rfl (by kernel_rfl) ?_
  refine ap_to [(2, .ref 0 0), (3, .os 1)] [(0, .var [.arr (.int .i64) 6 r1.1]), (1, .row (.int .i64) r2.1)] ?_ (fun key => ?_)
  · refine row_len_q 1 (r2.1.length : Int) rfl rfl (fun hr10 => ?_)
    refine aq_then ?_
    refine aw_ret ?_
    refine aq_ret ?_
    obtain rfl := is_some h
    exact aq_finx (l := [.cell 2 22, .tmp 3]) (xs := [.v (.arr 6 (.int .i64)) r1.1, .os 1]) (rn [(0, 1)]) [.v (.arr 6 (.int .i64)) r1.1, .os 0] [(0, .row (.int .i64) r2.1)] rfl (by exact ⟨⟨⟨_, _, rfl⟩, r_load_arr rfl Try.isAgg22 Try.sizeOf22 rfl rfl rfl⟩, rfl, trivial⟩) (by exact ⟨ad_ren rfl, ad_ren rfl, trivial⟩) (by exact ⟨⟨_, rfl, rfl⟩, trivial⟩) rfl (nk rfl) rfl rfl ⟨rfl, rfl⟩
  refine ap_let (g := 2) (listed := #[true, true, true, true, false, false]) [(2, .ref 0 0), (3, .nilsl), (11, .v (.arr 6 (.int .i64)) r1.1), (14, .os 1)] [(0, .var [.arr (.int .i64) 6 ((List.replicate 6 0) : (List Int))]), (1, .row (.int .i64) r2.1)] ?_ (fun k7 => ?_)
  · refine ap_all [4] (by kernel_rfl) ⟨?_, trivial⟩
    refine apo_ao rfl ?_
    refine ao_effS trivial (e_store rfl rfl rfl rfl Try.sizeOf22 rfl) ?_
    refine ao_nil ?_
    refine ap_in ?_
    refine ap_pure 5 (by kernel_rfl) (fun _ _ _ h => h) rfl (by kernel_rfl) trivial (rp_assign rfl) rfl ?_
    exact ap_end (by kernel_rfl) (AQ.sub (sub_mk idn (by exact ⟨⟨_, rfl, ad_ren rfl⟩, ⟨_, rfl, ad_ren rfl⟩, trivial⟩) (by exact ⟨⟨_, rfl, ⟨rfl, trivial⟩⟩, ⟨_, rfl, rfl⟩, trivial⟩) (by rfl) (nk rfl)) key)
  refine ap_let (g := 3) (listed := #[true, true, true, false, false, false]) [(2, .ref 0 0), (3, .nilsl), (11, .v (.arr 6 (.int .i64)) r1.1), (12, .ref 1 0), (13, .v (.arr 6 (.int .i64)) r1.1)] [(0, .var [.arr (.int .i64) 6 ((List.replicate 6 0) : (List Int))]), (1, .var [.cell (.v (.slice (.int .u8)) x0), .cell (.int .i64 r1.2.1), .cell (.int .u64 r1.2.2)])] ?_ (fun k6 => ?_)
  · refine ap_all [3] (by kernel_rfl) ⟨?_, trivial⟩
    refine apo_ao rfl ?_
    refine ao_callV [1] 2 trivial (c_spec_l1Cur_rolls11 (is_mk r2h)) Try.func58 rfl rfl rfl rfl rfl ⟨rfl, trivial⟩ ⟨⟨_, rfl, ⟨ad_ren rfl, rfl, ad_ren rfl, rfl, ad_ren rfl, rfl, trivial⟩⟩, trivial⟩ rfl rfl rfl rfl rfl rfl rfl (fun r' H' hr => ?_)
    obtain ⟨rfl, rfl⟩ := hr
    refine ao_norm (y := .os 2) (H' := [(0, .var [.arr (.int .i64) 6 ((List.replicate 6 0) : (List Int))]), (1, .var [.cell (.v (.slice (.int .u8)) x0), .cell (.int .i64 r2.2.1), .cell (.int .u64 r2.2.2)]), (2, .row (.int .i64) r2.1)]) rfl rfl ?_
    refine row_len_o 2 (r2.1.length : Int) rfl rfl (fun hr3 => ?_)
    refine ao_nil ?_
    refine ap_in ?_
    exact ap_go (by kernel_rfl) (sub_mk (rn [(1, 2)]) (by exact ⟨⟨_, rfl, ad_ren rfl⟩, ⟨_, rfl, ad_ren rfl⟩, ⟨_, rfl, ad_ren rfl⟩, ⟨_, rfl, ad_ren rfl⟩, trivial⟩) (by exact ⟨⟨_, rfl, ⟨rfl, trivial⟩⟩, ⟨_, rfl, rfl⟩, trivial⟩) (by rfl) (nk rfl)) k7
  refine ap_let (g := 3) (listed := #[false, true, true, true, false, false]) [(2, .ref 0 0), (3, .nilsl), (5, .ref 1 0), (14, .os 2)] [(0, .var [.arr (.int .i64) 6 ((List.replicate 6 0) : (List Int))]), (1, .var [.arr (.int .i64) 6 r1.1]), (2, .row (.int .i64) r2.1)] ?_ (fun k9 => ?_)
  · refine ap_all [0] (by kernel_rfl) ⟨?_, trivial⟩
    refine apo_ao rfl ?_
    refine ao_read trivial (r_load_arr rfl Try.isAgg22 Try.sizeOf22 rfl rfl rfl) rfl ?_
    refine ao_nil ?_
    refine ap_in ?_
    exact ap_go (by kernel_rfl) (sub_mk (rn [(1, 2)]) (by exact ⟨⟨_, rfl, ad_ren rfl⟩, ⟨_, rfl, ad_ren rfl⟩, ⟨_, rfl, ad_ren rfl⟩, ⟨_, rfl, ad_ren rfl⟩, trivial⟩) (by exact ⟨⟨_, rfl, ⟨rfl, trivial⟩⟩, ⟨_, rfl, rfl⟩, trivial⟩) (by rfl) (nk rfl)) k7
  refine ap_let (g := 4) (listed := #[true, true, false, false, false, false]) [(2, .ref 0 0), (3, .nilsl), (5, .ref 1 0), (11, .v (.arr 6 (.int .i64)) r1.1), (12, .ref 2 0)] [(0, .var [.arr (.int .i64) 6 ((List.replicate 6 0) : (List Int))]), (1, .var [.arr (.int .i64) 6 r1.1]), (2, .var [.cell (.v (.slice (.int .u8)) x0), .cell (.int .i64 r1.2.1), .cell (.int .u64 r1.2.2)])] ?_ (fun k5 => ?_)
  · refine ap_all [2] (by kernel_rfl) ⟨?_, trivial⟩
    refine apo_ao rfl ?_
    refine ao_read trivial (r_load_arr rfl Try.isAgg22 Try.sizeOf22 rfl rfl rfl) rfl ?_
    refine ao_nil ?_
    refine ap_in ?_
    exact ap_go (by kernel_rfl) (sub_mk (rn [(1, 2)]) (by exact ⟨⟨_, rfl, ad_ren rfl⟩, ⟨_, rfl, ad_ren rfl⟩, ⟨_, rfl, ad_ren rfl⟩, ⟨_, rfl, ad_ren rfl⟩, ⟨_, rfl, ad_ren rfl⟩, trivial⟩) (by exact ⟨⟨_, rfl, ⟨rfl, trivial⟩⟩, ⟨_, rfl, ⟨ad_ren rfl, rfl, ad_ren rfl, rfl, ad_ren rfl, rfl, trivial⟩⟩, trivial⟩) (by rfl) (nk rfl)) k6
  refine ap_let (g := 4) (listed := #[false, true, true, false, false, false]) [(2, .ref 0 0), (3, .nilsl), (5, .ref 1 0), (12, .ref 2 0), (13, .v (.arr 6 (.int .i64)) r1.1)] [(0, .var [.arr (.int .i64) 6 ((List.replicate 6 0) : (List Int))]), (1, .var [.arr (.int .i64) 6 r1.1]), (2, .var [.cell (.v (.slice (.int .u8)) x0), .cell (.int .i64 r1.2.1), .cell (.int .u64 r1.2.2)])] ?_ (fun k8 => ?_)
  · refine ap_all [0, 3] (by kernel_rfl) ⟨?_, ?_, trivial⟩
    · refine apo_ao rfl ?_
      refine ao_read trivial (r_load_arr rfl Try.isAgg22 Try.sizeOf22 rfl rfl rfl) rfl ?_
      refine ao_nil ?_
      refine ap_in ?_
      exact ap_go (by kernel_rfl) (sub_mk (rn [(1, 2)]) (by exact ⟨⟨_, rfl, ad_ren rfl⟩, ⟨_, rfl, ad_ren rfl⟩, ⟨_, rfl, ad_ren rfl⟩, ⟨_, rfl, ad_ren rfl⟩, ⟨_, rfl, ad_ren rfl⟩, trivial⟩) (by exact ⟨⟨_, rfl, ⟨rfl, trivial⟩⟩, ⟨_, rfl, ⟨ad_ren rfl, rfl, ad_ren rfl, rfl, ad_ren rfl, rfl, trivial⟩⟩, trivial⟩) (by rfl) (nk rfl)) k6
    · refine apo_ao rfl ?_
      refine ao_callV [2] 3 trivial (c_spec_l1Cur_rolls11 (is_mk r2h)) Try.func58 rfl rfl rfl rfl rfl ⟨rfl, trivial⟩ ⟨⟨_, rfl, ⟨ad_ren rfl, rfl, ad_ren rfl, rfl, ad_ren rfl, rfl, trivial⟩⟩, trivial⟩ rfl rfl rfl rfl rfl rfl rfl (fun r' H' hr => ?_)
      obtain ⟨rfl, rfl⟩ := hr
      refine ao_norm (y := .os 3) (H' := [(0, .var [.arr (.int .i64) 6 ((List.replicate 6 0) : (List Int))]), (1, .var [.arr (.int .i64) 6 r1.1]), (2, .var [.cell (.v (.slice (.int .u8)) x0), .cell (.int .i64 r2.2.1), .cell (.int .u64 r2.2.2)]), (3, .row (.int .i64) r2.1)]) rfl rfl ?_
      refine row_len_o 3 (r2.1.length : Int) rfl rfl (fun hr3 => ?_)
      refine ao_nil ?_
      refine ap_in ?_
      exact ap_go (by kernel_rfl) (sub_mk (rn [(2, 3)]) (by exact ⟨⟨_, rfl, ad_ren rfl⟩, ⟨_, rfl, ad_ren rfl⟩, ⟨_, rfl, ad_ren rfl⟩, ⟨_, rfl, ad_ren rfl⟩, trivial⟩) (by exact ⟨⟨_, rfl, ⟨rfl, trivial⟩⟩, ⟨_, rfl, ⟨rfl, trivial⟩⟩, ⟨_, rfl, rfl⟩, trivial⟩) (by rfl) (nk rfl)) k9
  refine ap_let (g := 5) (listed := #[false, true, false, false, false, false]) [(2, .ref 0 0), (3, .nilsl), (5, .ref 1 0), (12, .ref 2 0)] [(0, .var [.arr (.int .i64) 6 ((List.replicate 6 0) : (List Int))]), (1, .var [.arr (.int .i64) 6 r1.1]), (2, .var [.cell (.v (.slice (.int .u8)) x0), .cell (.int .i64 r1.2.1), .cell (.int .u64 r1.2.2)])] ?_ (fun k4 => ?_)
  · refine ap_all [0, 2] (by kernel_rfl) ⟨?_, ?_, trivial⟩
    · refine apo_ao rfl ?_
      refine ao_read trivial (r_load_arr rfl Try.isAgg22 Try.sizeOf22 rfl rfl rfl) rfl ?_
      refine ao_nil ?_
      refine ap_in ?_
      exact ap_go (by kernel_rfl) (sub_mk idn (by exact ⟨⟨_, rfl, ad_ren rfl⟩, ⟨_, rfl, ad_ren rfl⟩, ⟨_, rfl, ad_ren rfl⟩, ⟨_, rfl, ad_ren rfl⟩, ⟨_, rfl, ad_ren rfl⟩, trivial⟩) (by exact ⟨⟨_, rfl, ⟨rfl, trivial⟩⟩, ⟨_, rfl, ⟨rfl, trivial⟩⟩, ⟨_, rfl, ⟨ad_ren rfl, rfl, ad_ren rfl, rfl, ad_ren rfl, rfl, trivial⟩⟩, trivial⟩) (by rfl) (nk rfl)) k5
    · refine apo_ao rfl ?_
      refine ao_read trivial (r_load_arr rfl Try.isAgg22 Try.sizeOf22 rfl rfl rfl) rfl ?_
      refine ao_nil ?_
      refine ap_in ?_
      exact ap_go (by kernel_rfl) (sub_mk idn (by exact ⟨⟨_, rfl, ad_ren rfl⟩, ⟨_, rfl, ad_ren rfl⟩, ⟨_, rfl, ad_ren rfl⟩, ⟨_, rfl, ad_ren rfl⟩, ⟨_, rfl, ad_ren rfl⟩, trivial⟩) (by exact ⟨⟨_, rfl, ⟨rfl, trivial⟩⟩, ⟨_, rfl, ⟨rfl, trivial⟩⟩, ⟨_, rfl, ⟨ad_ren rfl, rfl, ad_ren rfl, rfl, ad_ren rfl, rfl, trivial⟩⟩, trivial⟩) (by rfl) (nk rfl)) k8
  refine ap_pure 1 (by kernel_rfl) (fun _ _ _ h => h) rfl (by kernel_rfl) trivial (rp_move rfl) rfl ?_
  exact ap_go (by kernel_rfl) (sub_mk (rn [(1, 2), (2, 1)]) (by exact ⟨⟨_, rfl, ad_ren rfl⟩, ⟨_, rfl, ad_ren rfl⟩, ⟨_, rfl, ad_ren rfl⟩, ⟨_, rfl, ad_ren rfl⟩, trivial⟩) (by exact ⟨⟨_, rfl, ⟨rfl, trivial⟩⟩, ⟨_, rfl, ⟨rfl, trivial⟩⟩, ⟨_, rfl, ⟨ad_ren rfl, rfl, ad_ren rfl, rfl, ad_ren rfl, rfl, trivial⟩⟩, trivial⟩) (by rfl) (nk rfl)) k4
theorem c_slices_Index_int_int {x0 : (List Int)} {x1 : Int} {r : Int} (h : Is (p_slices_Index_int_int x0 x1) r) :
    Scalar Try.prog 62 [.v (.slice (.int .i64)) x0, .int .i64 x1] (.int .i64 r) := by
  unfold p_slices_Index_int_int at h
  refine ac_enter ⟨19, 0⟩ Try.func62 rfl rfl rfl rfl rfl (fun Γ => ?_)
  refine sl_len_m 0 (x0.length : Int) rfl rfl (fun hl0 => ?_)
  refine aw_seq ?_
  refine aw_region ?_
  refine ao_read trivial (r_assign rfl) rfl ?_
  refine ao_nil ?_
  refine aq_then ?_
  refine aw_seq ?_
  refine aw_seq ?_
  refine aw_region ?_
  refine ao_read trivial (r_move rfl) rfl ?_
  refine ao_read trivial (r_len_vm (x0.length : Int) Try.underlying30 rfl rfl) rfl ?_
  refine ao_read trivial (r_move rfl) rfl ?_
  refine ao_nil ?_
  refine aq_then ?_
  refine aw_block ?_
  refine aw_loop (AL.sub (fr' := [(0, .v (.slice (.int .i64)) x0), (1, .int .i64 x1), (7, .int .i64 (x0.length : Int)), (8, .int .i64 0)]) (H' := []) (sub_mk idn (by exact ⟨⟨_, rfl, ad_ren rfl⟩, ⟨_, rfl, ad_ren rfl⟩, ⟨_, rfl, ad_ren rfl⟩, ⟨_, rfl, ad_ren rfl⟩, trivial⟩) (by exact trivial) (by rfl) (nk rfl)) (al_cnt (fun i2 (s1 : Unit) => [(0, .v (.slice (.int .i64)) x0), (1, .int .i64 x1), (7, .int .i64 (x0.length : Int)), (8, .int .i64 i2)]) (fun i2 (s1 : Unit) => []) (fun d i2 (s1 : Unit) => d = Int.toNat ((x0.length : Int) - i2) ∧ 0 ≤ i2 ∧ i2 ≤ (x0.length : Int)) h ⟨rfl, (by (try simp only [List.length_set, List.length_append, List.length_cons, List.length_nil, List.length_replicate, List.length_take, List.length_drop]) <;> omega), (by (try simp only [List.length_set, List.length_append, List.length_cons, List.length_nil, List.length_replicate, List.length_take, List.length_drop]) <;> omega)⟩ (fun d3 i2 s1 hI h ih3 => ?_)))
  obtain ⟨hd, _, _⟩ := hI
  refine al_round ?_
  refine aw_seq ?_
  refine aw_region ?_
  refine ao_read trivial (r_lss rfl rfl) rfl ?_
  refine ao_nil ?_
  refine aq_then ?_
  refine aw_seq ?_
  refine aw_cond rfl (fun hb5 => ?_) (fun hb5 => ?_)
  · have q6 := d_t hb5
    obtain ⟨d3, rfl⟩ : ∃ e, d3 = e + 1 := ⟨d3 - 1, by omega⟩
    replace h := is_cntS h
    refine aw_skip ?_
    refine aq_then ?_
    refine aw_seq ?_
    refine aw_block ?_
    refine aw_seq ?_
    refine aw_region ?_
    refine ao_read trivial (r_move rfl) rfl ?_
    refine ao_read trivial (r_assign rfl) rfl ?_
    refine ao_nil ?_
    refine aq_then ?_
    refine aw_seq ?_
    refine aw_region ?_
    refine ao_read trivial (r_move rfl) rfl ?_
    refine ao_read trivial (r_move rfl) rfl ?_
    refine ao_read trivial (r_move rfl) rfl ?_
    refine ao_read trivial (r_idxAddr_int Try.underlying30 Try.sizeOf3 rfl rfl (show 0 ≤ i2 from by omega) (show i2 < (x0.length : Int) from by omega)) rfl ?_
    refine ao_read trivial (r_load_c_int Try.isAgg3 Try.sizeOf3 rfl) rfl ?_
    refine ao_read trivial (r_eql rfl rfl) rfl ?_
    refine ao_nil ?_
    refine aq_then ?_
    refine aw_cond rfl (fun hb8 => ?_) (fun hb8 => ?_)
    · have q9 : x1 = (x0.getD i2.toNat 0) := d_t hb8
      replace h := is_if (d_t hb8) h
      refine aw_seq ?_
      refine aw_region ?_
      refine ao_read trivial (r_move rfl) rfl ?_
      refine ao_read trivial (r_assign rfl) rfl ?_
      refine ao_nil ?_
      refine aq_then ?_
      refine aw_ret ?_
      refine aq_in_ret ?_
      refine aq_then_ret ?_
      refine aq_then_ret ?_
      refine aq_in_ret ?_
      refine aq_then_ret ?_
      refine aq_ret ?_
      obtain rfl := is_eq h
      exact aq_finx (l := [.tmp 4]) (xs := [.int .i64 i2]) idn [.int .i64 i2] [] rfl (by exact ⟨rfl, trivial⟩) (by exact ⟨ad_ren rfl, trivial⟩) (by exact trivial) rfl (nk rfl) rfl rfl ⟨rfl, rfl⟩
    · have q10 : ¬ (x1 = (x0.getD i2.toNat 0)) := d_f hb8
      replace h := is_else (d_f hb8) h
      refine aw_skip ?_
      refine aq_in ?_
      refine aq_then ?_
      refine aw_region ?_
      refine ao_read trivial (r_addI rfl rfl (wrap_id (by omega) (by omega))) rfl ?_
      refine ao_read trivial (r_move rfl) rfl ?_
      refine ao_nil ?_
      exact aq_again (AL.sub (sub_mk idn (by exact ⟨⟨_, rfl, ad_ren rfl⟩, ⟨_, rfl, ad_ren rfl⟩, ⟨_, rfl, ad_ren rfl⟩, ⟨_, rfl, ad_ren rfl⟩, trivial⟩) (by exact trivial) (by rfl) (nk rfl)) (ih3 d3 (i2 + 1) () (by omega) ⟨by omega, (by (try simp only [List.length_set, List.length_append, List.length_cons, List.length_nil, List.length_replicate, List.length_take, List.length_drop]) <;> omega), (by (try simp only [List.length_set, List.length_append, List.length_cons, List.length_nil, List.length_replicate, List.length_take, List.length_drop]) <;> omega)⟩ h))
  · have q7 := d_f hb5
    obtain rfl : d3 = 0 := by omega
    replace h := is_cnt0 h
    refine aw_exit ?_
    refine aq_then_exit ?_
    refine aq_then_exit ?_
    refine aq_in_exit ?_
    refine aq_then ?_
    refine aw_seq ?_
    refine aw_region ?_
    refine ao_read trivial (r_assign rfl) rfl ?_
    refine ao_nil ?_
    refine aq_then ?_
    refine aw_ret ?_
    refine aq_ret ?_
    obtain rfl := is_eq h
    exact aq_finx (l := [.tmp 4]) (xs := [.int .i64 (-1)]) idn [.int .i64 (-1)] [] rfl (by exact ⟨rfl, trivial⟩) (by exact ⟨ad_ren rfl, trivial⟩) (by exact trivial) rfl (nk rfl) rfl rfl ⟨rfl, rfl⟩
theorem c_slices_Contains_int_int {x0 : (List Int)} {x1 : Int} {r : Bool} (h : Is (p_slices_Contains_int_int x0 x1) r) :
    Scalar Try.prog 90 [.v (.slice (.int .i64)) x0, .int .i64 x1] (.bool r) := by
  unfold p_slices_Contains_int_int at h
  refine ac_enter ⟨9, 0⟩ Try.func90 rfl rfl rfl rfl rfl (fun Γ => ?_)
  refine sl_len_m 0 (x0.length : Int) rfl rfl (fun hl0 => ?_)
  refine aw_seq ?_
  refine aw_region ?_
  refine ao_read trivial (r_assign rfl) rfl ?_
  refine ao_nil ?_
  refine aq_then ?_
  refine aw_seq ?_
  refine aw_region ?_
  refine ao_read trivial (r_move rfl) rfl ?_
  refine ao_read trivial (r_move rfl) rfl ?_
  refine ao_scall trivial (scall (c_slices_Index_int_int (is_mk (rfl : p_slices_Index_int_int x0 x1 = _))) rfl Try.func62 rfl rfl rfl rfl (fun σ => ⟨ad_ren rfl, ad_ren rfl, trivial⟩)) rfl ?_
  refine ao_read trivial (r_geq rfl rfl) rfl ?_
  refine ao_read trivial (r_assign rfl) rfl ?_
  refine ao_nil ?_
  refine aq_then ?_
  refine aw_ret ?_
  refine aq_ret ?_
  obtain rfl := is_eq h
  exact aq_finx (l := [.tmp 4]) (xs := [.bool (decide (0 ≤ (p_slices_Index_int_int x0 x1)))]) idn [.bool (decide (0 ≤ (p_slices_Index_int_int x0 x1)))] [] rfl (by exact ⟨rfl, trivial⟩) (by exact ⟨ad_ren rfl, trivial⟩) (by exact trivial) rfl (nk rfl) rfl rfl ⟨rfl, rfl⟩
theorem c_impl_has {x0 : (List Int)} {x1 : Int} {r : Bool} (h : Is (p_impl_has x0 x1) r) :
    Scalar Try.prog 61 [.v (.arr 6 (.int .i64)) x0, .int .i64 x1] (.bool r) := by
  unfold p_impl_has at h
  refine ac_enter ⟨8, 0⟩ Try.func61 rfl rfl rfl rfl rfl (fun Γ => ?_)
  refine aw_seq ?_
  refine aw_region ?_
  refine ao_eff trivial (e_box 0 rfl rfl rfl rfl rfl rfl) rfl ?_
  refine ao_read trivial (r_assign rfl) rfl ?_
  refine ao_nil ?_
  refine aq_then ?_
  refine aw_seq ?_
  refine aw_region ?_
  refine ao_read trivial (r_slice_arr Try.underlying22 Try.sizeOf3 rfl .none .none (by omega) (by omega) (by omega)) rfl ?_
  refine ao_read trivial (r_move rfl) rfl ?_
  refine ao_scall trivial (scall (c_slices_Contains_int_int (is_mk (rfl : p_slices_Contains_int_int x0 x1 = _))) rfl Try.func90 rfl rfl rfl rfl (fun σ => ⟨ad_viewf0 rfl rfl rfl rfl rfl, ad_ren rfl, trivial⟩)) rfl ?_
  refine ao_read trivial (r_assign rfl) rfl ?_
  refine ao_nil ?_
  refine aq_then ?_
  refine aw_ret ?_
  refine aq_ret ?_
  obtain rfl := is_eq h
  exact aq_finx (l := [.tmp 4]) (xs := [.bool (p_slices_Contains_int_int x0 x1)]) idn [.bool (p_slices_Contains_int_int x0 x1)] [] rfl (by exact ⟨rfl, trivial⟩) (by exact ⟨ad_ren rfl, trivial⟩) (by exact trivial) rfl (nk rfl) rfl rfl ⟨rfl, rfl⟩
theorem c_impl_CountRolls_1 {x0 : Int} {x1 : (List Int)} {r : Bool} (h : Is (p_impl_CountRolls_1 x0 x1) r) :
    Scalar Try.prog 60 [.int .i64 x0, .cptr (.arr 6 (.int .i64)) x1] (.bool r) := by
  unfold p_impl_CountRolls_1 at h
  refine ac_enter ⟨7, 0⟩ Try.func60 rfl rfl rfl rfl rfl (fun Γ => ?_)
  refine aw_seq ?_
  refine aw_region ?_
  refine ao_read trivial (r_assign rfl) rfl ?_
  refine ao_nil ?_
  refine aq_then ?_
  refine aw_seq ?_
  refine aw_region ?_
  refine ao_read trivial (r_load_c (t := (.arr 6 (.int .i64))) Try.isAgg22 Try.sizeOf22 rfl) rfl ?_
  refine ao_read trivial (r_move rfl) rfl ?_
  refine ao_scall trivial (scall (c_impl_has (is_mk (rfl : p_impl_has x1 x0 = _))) rfl Try.func61 rfl rfl rfl rfl (fun σ => ⟨ad_ren rfl, ad_ren rfl, trivial⟩)) rfl ?_
  refine ao_read trivial (r_assign rfl) rfl ?_
  refine ao_nil ?_
  refine aq_then ?_
  refine aw_ret ?_
  refine aq_ret ?_
  obtain rfl := is_eq h
  exact aq_finx (l := [.tmp 3]) (xs := [.bool (p_impl_has x1 x0)]) idn [.bool (p_impl_has x1 x0)] [] rfl (by exact ⟨rfl, trivial⟩) (by exact ⟨ad_ren rfl, trivial⟩) (by exact trivial) rfl (nk rfl) rfl rfl ⟨rfl, rfl⟩
theorem c_impl_areAll_int_1v2 {x0 : Int} {x1 : (List Int)} {r : Bool} (h : Is (p_impl_areAll_int_1v2 x0 x1) r) :
    Scalar Try.prog 89 [.int .i64 x0, .cav (.fn 60 [.cptr (.arr 6 (.int .i64)) x1])] (.bool r) := by
  unfold p_impl_areAll_int_1v2 at h
  refine ac_enter ⟨8, 0⟩ Try.func89 rfl rfl rfl rfl rfl (fun Γ => ?_)
  refine aw_seq ?_
  refine aw_region ?_
  refine ao_read trivial (r_assign rfl) rfl ?_
  refine ao_nil ?_
  refine aq_then ?_
  refine aw_seq ?_
  refine aw_region ?_
  refine ao_read trivial (r_load_cav Try.isAgg52 rfl) rfl ?_
  refine ao_read trivial (r_move rfl) rfl ?_
  refine ao_scall trivial (scall (c_impl_CountRolls_1 (is_mk (rfl : p_impl_CountRolls_1 x0 x1 = _))) rfl Try.func60 rfl rfl rfl rfl (fun σ => ⟨ad_ren rfl, ad_ren rfl, trivial⟩)) rfl ?_
  refine ao_read trivial (r_not rfl) rfl ?_
  refine ao_read trivial (r_assign rfl) rfl ?_
  refine ao_nil ?_
  refine aq_then ?_
  refine aw_ret ?_
  refine aq_ret ?_
  obtain rfl := is_eq h
  exact aq_finx (l := [.tmp 3]) (xs := [.bool (!(p_impl_CountRolls_1 x0 x1))]) idn [.bool (!(p_impl_CountRolls_1 x0 x1))] [] rfl (by exact ⟨rfl, trivial⟩) (by exact ⟨ad_ren rfl, trivial⟩) (by exact trivial) rfl (nk rfl) rfl rfl ⟨rfl, rfl⟩
theorem c_slices_IndexFunc_int_intv2 {x0 : (List Int)} {x1 : (List Int)} {r : Int} (h : Is (p_slices_IndexFunc_int_intv2 x0 x1) r) :
    Scalar Try.prog 94 [.v (.slice (.int .i64)) x0, .fn 89 [.cav (.fn 60 [.cptr (.arr 6 (.int .i64)) x1])]] (.int .i64 r) := by
  unfold p_slices_IndexFunc_int_intv2 at h
  refine ac_enter ⟨19, 0⟩ Try.func94 rfl rfl rfl rfl rfl (fun Γ => ?_)
  refine sl_len_m 0 (x0.length : Int) rfl rfl (fun hl0 => ?_)
  refine aw_seq ?_
  refine aw_region ?_
  refine ao_read trivial (r_assign rfl) rfl ?_
  refine ao_nil ?_
  refine aq_then ?_
  refine aw_seq ?_
  refine aw_seq ?_
  refine aw_region ?_
  refine ao_read trivial (r_move rfl) rfl ?_
  refine ao_read trivial (r_len_vm (x0.length : Int) Try.underlying30 rfl rfl) rfl ?_
  refine ao_read trivial (r_move rfl) rfl ?_
  refine ao_nil ?_
  refine aq_then ?_
  refine aw_block ?_
  refine aw_loop (AL.sub (fr' := [(0, .v (.slice (.int .i64)) x0), (1, .fn 89 [.cav (.fn 60 [.cptr (.arr 6 (.int .i64)) x1])]), (7, .int .i64 (x0.length : Int)), (8, .int .i64 0)]) (H' := []) (sub_mk idn (by exact ⟨⟨_, rfl, ad_ren rfl⟩, ⟨_, rfl, ad_ren rfl⟩, ⟨_, rfl, ad_ren rfl⟩, ⟨_, rfl, ad_ren rfl⟩, trivial⟩) (by exact trivial) (by rfl) (nk rfl)) (al_cnt (fun i2 (s1 : Unit) => [(0, .v (.slice (.int .i64)) x0), (1, .fn 89 [.cav (.fn 60 [.cptr (.arr 6 (.int .i64)) x1])]), (7, .int .i64 (x0.length : Int)), (8, .int .i64 i2)]) (fun i2 (s1 : Unit) => []) (fun d i2 (s1 : Unit) => d = Int.toNat ((x0.length : Int) - i2) ∧ 0 ≤ i2 ∧ i2 ≤ (x0.length : Int)) h ⟨rfl, (by (try simp only [List.length_set, List.length_append, List.length_cons, List.length_nil, List.length_replicate, List.length_take, List.length_drop]) <;> omega), (by (try simp only [List.length_set, List.length_append, List.length_cons, List.length_nil, List.length_replicate, List.length_take, List.length_drop]) <;> omega)⟩ (fun d3 i2 s1 hI h ih3 => ?_)))
  obtain ⟨hd, _, _⟩ := hI
  refine al_round ?_
  refine aw_seq ?_
  refine aw_region ?_
  refine ao_read trivial (r_lss rfl rfl) rfl ?_
  refine ao_nil ?_
  refine aq_then ?_
  refine aw_seq ?_
  refine aw_cond rfl (fun hb5 => ?_) (fun hb5 => ?_)
  · have q6 := d_t hb5
    obtain ⟨d3, rfl⟩ : ∃ e, d3 = e + 1 := ⟨d3 - 1, by omega⟩
    replace h := is_cntS h
    refine aw_skip ?_
    refine aq_then ?_
    refine aw_seq ?_
    refine aw_block ?_
    refine aw_seq ?_
    refine aw_region ?_
    refine ao_read trivial (r_move rfl) rfl ?_
    refine ao_read trivial (r_assign rfl) rfl ?_
    refine ao_nil ?_
    refine aq_then ?_
    refine aw_seq ?_
    refine aw_region ?_
    refine ao_read trivial (r_move rfl) rfl ?_
    refine ao_read trivial (r_move rfl) rfl ?_
    refine ao_read trivial (r_move rfl) rfl ?_
    refine ao_read trivial (r_idxAddr_int Try.underlying30 Try.sizeOf3 rfl rfl (show 0 ≤ i2 from by omega) (show i2 < (x0.length : Int) from by omega)) rfl ?_
    refine ao_read trivial (r_load_c_int Try.isAgg3 Try.sizeOf3 rfl) rfl ?_
    refine ao_scall trivial (scall (c_impl_areAll_int_1v2 (is_mk (rfl : p_impl_areAll_int_1v2 (x0.getD i2.toNat 0) x1 = _))) rfl Try.func89 rfl rfl rfl rfl (fun σ => ⟨ad_ren rfl, ad_ren rfl, trivial⟩)) rfl ?_
    refine ao_nil ?_
    refine aq_then ?_
    refine aw_cond rfl (fun hb8 => ?_) (fun hb8 => ?_)
    · replace h := is_if hb8 h
      refine aw_seq ?_
      refine aw_region ?_
      refine ao_read trivial (r_move rfl) rfl ?_
      refine ao_read trivial (r_assign rfl) rfl ?_
      refine ao_nil ?_
      refine aq_then ?_
      refine aw_ret ?_
      refine aq_in_ret ?_
      refine aq_then_ret ?_
      refine aq_then_ret ?_
      refine aq_in_ret ?_
      refine aq_then_ret ?_
      refine aq_ret ?_
      obtain rfl := is_eq h
      exact aq_finx (l := [.tmp 4]) (xs := [.int .i64 i2]) idn [.int .i64 i2] [] rfl (by exact ⟨rfl, trivial⟩) (by exact ⟨ad_ren rfl, trivial⟩) (by exact trivial) rfl (nk rfl) rfl rfl ⟨rfl, rfl⟩
    · replace h := is_else (ne_t hb8) h
      refine aw_skip ?_
      refine aq_in ?_
      refine aq_then ?_
      refine aw_region ?_
      refine ao_read trivial (r_addI rfl rfl (wrap_id (by omega) (by omega))) rfl ?_
      refine ao_read trivial (r_move rfl) rfl ?_
      refine ao_nil ?_
      exact aq_again (AL.sub (sub_mk idn (by exact ⟨⟨_, rfl, ad_ren rfl⟩, ⟨_, rfl, ad_ren rfl⟩, ⟨_, rfl, ad_ren rfl⟩, ⟨_, rfl, ad_ren rfl⟩, trivial⟩) (by exact trivial) (by rfl) (nk rfl)) (ih3 d3 (i2 + 1) () (by omega) ⟨by omega, (by (try simp only [List.length_set, List.length_append, List.length_cons, List.length_nil, List.length_replicate, List.length_take, List.length_drop]) <;> omega), (by (try simp only [List.length_set, List.length_append, List.length_cons, List.length_nil, List.length_replicate, List.length_take, List.length_drop]) <;> omega)⟩ h))
  · have q7 := d_f hb5
    obtain rfl : d3 = 0 := by omega
    replace h := is_cnt0 h
    refine aw_exit ?_
    refine aq_then_exit ?_
    refine aq_then_exit ?_
    refine aq_in_exit ?_
    refine aq_then ?_
    refine aw_seq ?_
    refine aw_region ?_
    refine ao_read trivial (r_assign rfl) rfl ?_
    refine ao_nil ?_
    refine aq_then ?_
    refine aw_ret ?_
    refine aq_ret ?_
    obtain rfl := is_eq h
    exact aq_finx (l := [.tmp 4]) (xs := [.int .i64 (-1)]) idn [.int .i64 (-1)] [] rfl (by exact ⟨rfl, trivial⟩) (by exact ⟨ad_ren rfl, trivial⟩) (by exact trivial) rfl (nk rfl) rfl rfl ⟨rfl, rfl⟩
theorem c_slices_ContainsFunc_int_intv2 {x0 : (List Int)} {x1 : (List Int)} {r : Bool} (h : Is (p_slices_ContainsFunc_int_intv2 x0 x1) r) :
    Scalar Try.prog 88 [.v (.slice (.int .i64)) x0, .fn 89 [.cav (.fn 60 [.cptr (.arr 6 (.int .i64)) x1])]] (.bool r) := by
  unfold p_slices_ContainsFunc_int_intv2 at h
  refine ac_enter ⟨9, 0⟩ Try.func88 rfl rfl rfl rfl rfl (fun Γ => ?_)
  refine sl_len_m 0 (x0.length : Int) rfl rfl (fun hl0 => ?_)
  refine aw_seq ?_
  refine aw_region ?_
  refine ao_read trivial (r_assign rfl) rfl ?_
  refine ao_nil ?_
  refine aq_then ?_
  refine aw_seq ?_
  refine aw_region ?_
  refine ao_read trivial (r_move rfl) rfl ?_
  refine ao_read trivial (r_move rfl) rfl ?_
  refine ao_scall trivial (scall (c_slices_IndexFunc_int_intv2 (is_mk (rfl : p_slices_IndexFunc_int_intv2 x0 x1 = _))) rfl Try.func94 rfl rfl rfl rfl (fun σ => ⟨ad_ren rfl, ad_ren rfl, trivial⟩)) rfl ?_
  refine ao_read trivial (r_geq rfl rfl) rfl ?_
  refine ao_read trivial (r_assign rfl) rfl ?_
  refine ao_nil ?_
  refine aq_then ?_
  refine aw_ret ?_
  refine aq_ret ?_
  obtain rfl := is_eq h
  exact aq_finx (l := [.tmp 4]) (xs := [.bool (decide (0 ≤ (p_slices_IndexFunc_int_intv2 x0 x1)))]) idn [.bool (decide (0 ≤ (p_slices_IndexFunc_int_intv2 x0 x1)))] [] rfl (by exact ⟨rfl, trivial⟩) (by exact ⟨ad_ren rfl, trivial⟩) (by exact trivial) rfl (nk rfl) rfl rfl ⟨rfl, rfl⟩
theorem c_impl_areAll_intv2 {x0 : (List Int)} {x1 : (List Int)} {r : Bool} (h : Is (p_impl_areAll_intv2 x0 x1) r) :
    Scalar Try.prog 59 [.v (.slice (.int .i64)) x0, .fn 60 [.cptr (.arr 6 (.int .i64)) x1]] (.bool r) := by
  unfold p_impl_areAll_intv2 at h
  refine ac_enter ⟨9, 0⟩ Try.func59 rfl rfl rfl rfl rfl (fun Γ => ?_)
  refine sl_len_m 0 (x0.length : Int) rfl rfl (fun hl0 => ?_)
  refine aw_seq ?_
  refine aw_region ?_
  refine ao_eff trivial (e_box 0 rfl rfl rfl rfl rfl rfl) rfl ?_
  refine ao_read trivial (r_assign rfl) rfl ?_
  refine ao_nil ?_
  refine aq_then ?_
  refine aw_seq ?_
  refine aw_region ?_
  refine ao_read trivial (r_move rfl) rfl ?_
  refine ao_read trivial (r_makeFunc (cs := [.tmp 3]) rfl) rfl ?_
  refine ao_scall trivial (scall (c_slices_ContainsFunc_int_intv2 (is_mk (rfl : p_slices_ContainsFunc_int_intv2 x0 x1 = _))) rfl Try.func88 rfl rfl rfl rfl (fun σ => ⟨ad_ren rfl, ad_fn ⟨ad_refc0 rfl rfl (ad_ren rfl) rfl, trivial⟩, trivial⟩)) rfl ?_
  refine ao_read trivial (r_not rfl) rfl ?_
  refine ao_read trivial (r_assign rfl) rfl ?_
  refine ao_nil ?_
  refine aq_then ?_
  refine aw_ret ?_
  refine aq_ret ?_
  obtain rfl := is_eq h
  exact aq_finx (l := [.tmp 4]) (xs := [.bool (!(p_slices_ContainsFunc_int_intv2 x0 x1))]) idn [.bool (!(p_slices_ContainsFunc_int_intv2 x0 x1))] [] rfl (by exact ⟨rfl, trivial⟩) (by exact ⟨ad_ren rfl, trivial⟩) (by exact trivial) rfl (nk rfl) rfl rfl ⟨rfl, rfl⟩
theorem c_impl_CountRolls {x0 : (List Int)} {x1 : (List Int)} {r : (List Int) × Bool} (h : Is (p_impl_CountRolls x0 x1) (some r)) :
    ACalls Try.prog 27 [.v (.arr 6 (.int .i64)) x0, .v (.slice (.int .i64)) x1] [] (fun r' H' => r' = .tup [.os 0, .bool r.2] ∧ H' = [(0, .row (.int .i64) r.1)]) := by
  unfold p_impl_CountRolls at h
  refine ac_enter ⟨45, 0⟩ Try.func27 rfl rfl rfl rfl rfl (fun Γ => ?_)
  refine sl_len_m 1 (x1.length : Int) rfl rfl (fun hl1 => ?_)
  refine aw_seq ?_
  refine aw_region ?_
  refine ao_eff trivial (e_box 0 rfl rfl rfl rfl rfl rfl) rfl ?_
  refine ao_read trivial (r_assign rfl) rfl ?_
  refine ao_read trivial (r_assign rfl) rfl ?_
  refine ao_nil ?_
  refine aq_then ?_
  refine aw_seq ?_
  refine aw_seq ?_
  refine aw_region ?_
  refine ao_read trivial (r_load_arr rfl Try.isAgg22 Try.sizeOf22 rfl rfl rfl) rfl ?_
  refine ao_scall trivial (scall (c_impl_IsDie (is_mk (rfl : p_impl_IsDie x0 = _))) rfl Try.func38 rfl rfl rfl rfl (fun σ => ⟨ad_ren rfl, trivial⟩)) rfl ?_
  refine ao_read trivial (r_not rfl) rfl ?_
  refine ao_read trivial (r_move rfl) rfl ?_
  refine ao_readG (x := .v (.slice (.int .i64)) x1) rfl (GV.F rfl) (fun hg1 => r_move rfl) rfl ?_
  refine ao_readG (x := .int .i64 (x1.length : Int)) rfl (GV.F rfl) (fun hg2 => Reads.strip 14 rfl (hg2) (r_len_vm (x1.length : Int) Try.underlying30 rfl rfl)) rfl ?_
  refine ao_readG (x := .bool (decide (12 < (x1.length : Int)))) rfl (GV.F rfl) (fun hg3 => Reads.strip 15 rfl (hg3) (r_gtr rfl rfl)) rfl ?_
  refine ao_read trivial (r_orB rfl rfl) rfl ?_
  refine ao_read trivial (r_move rfl) rfl ?_
  refine ao_readG (x := .v (.slice (.int .i64)) x1) rfl (GV.F rfl) (fun hg4 => by
        obtain ⟨q5, q6⟩ := or_f (not_t hg4)
        have q7 := d_f q6
        exact r_move rfl) rfl ?_
  refine ao_readG (x := .fn 60 [.ref 0 0]) rfl (GV.F rfl) (fun hg8 => by
        obtain ⟨q9, q10⟩ := or_f (not_t hg8)
        have q11 := d_f q10
        exact r_makeFunc (cs := [.tmp 2]) rfl) rfl ?_
  refine ao_scallG (r := .bool (p_impl_areAll_intv2 x1 x0)) rfl (GV.F rfl) (fun hg12 => by
        obtain ⟨q13, q14⟩ := or_f (not_t hg12)
        have q15 := d_f q14
        exact SCall.strip 19 rfl (hg12) (SCall.strip 20 rfl (hg12) (scall (c_impl_areAll_intv2 (is_mk (rfl : p_impl_areAll_intv2 x1 x0 = _))) rfl Try.func59 rfl rfl rfl rfl (fun σ => ⟨ad_ren rfl, ad_fn ⟨ad_ref0a rfl rfl rfl, trivial⟩, trivial⟩)))) rfl ?_
  refine ao_readG (x := .bool (!(p_impl_areAll_intv2 x1 x0))) rfl (GV.F rfl) (fun hg16 => by
        obtain ⟨q17, q18⟩ := or_f (not_t hg16)
        have q19 := d_f q18
        exact Reads.strip 21 rfl (hg16) (r_not rfl)) rfl ?_
  refine ao_read trivial (r_orB rfl rfl) rfl ?_
  refine ao_nil ?_
  refine aq_then ?_
  refine aw_cond rfl (fun hb20 => ?_) (fun hb20 => ?_)
  · replace h := is_if hb20 h
    refine aw_seq ?_
    refine aw_region ?_
    refine ao_read trivial (r_assign rfl) rfl ?_
    refine ao_read trivial (r_assign rfl) rfl ?_
    refine ao_nil ?_
    refine aq_then ?_
    refine aw_ret ?_
    refine aq_then_ret ?_
    refine aq_ret ?_
    obtain rfl := is_some h
    refine AQ.sub (sub_nil (T := 4) (t := (.int .i64)) 1 rfl rfl rfl) ?_
    exact aq_finx (l := [.tmp 4, .tmp 5]) (xs := [.os 1, .bool false]) (rn [(0, 1)]) [.os 0, .bool false] [(0, .row (.int .i64) ([] : (List Int)))] rfl (by exact ⟨rfl, rfl, trivial⟩) (by exact ⟨ad_ren rfl, ad_ren rfl, trivial⟩) (by exact ⟨⟨_, rfl, rfl⟩, trivial⟩) rfl (nk rfl) rfl rfl ⟨rfl, rfl⟩
  · obtain ⟨q21, q22⟩ := or_f hb20
    obtain ⟨q23, q24⟩ := or_f q21
    have q25 := d_f q24
    replace h := is_else (ne_t hb20) h
    refine aw_skip ?_
    refine aq_then ?_
    refine aw_seq ?_
    refine aw_region ?_
    refine ao_read trivial (r_load_arr rfl Try.isAgg22 Try.sizeOf22 rfl rfl rfl) rfl ?_
    obtain ⟨r26, r26h, h⟩ := is_bind h
    refine ao_call [] 2 trivial (c_impl_numbers (is_mk r26h)) Try.func41 rfl rfl rfl rfl ⟨ad_ren rfl, trivial⟩ trivial rfl rfl rfl rfl rfl rfl rfl (fun r' H' hr => ?_)
    obtain ⟨rfl, rfl⟩ := hr
    refine ao_norm (y := .os 2) (H' := [(0, .var [.arr (.int .i64) 6 x0]), (2, .row (.int .i64) r26)]) rfl rfl ?_
    refine row_len_o 2 (r26.length : Int) rfl rfl (fun hr27 => ?_)
    refine ao_read trivial (r_assign rfl) rfl ?_
    refine ao_nil ?_
    refine aq_then ?_
    refine aw_seq ?_
    refine aw_region ?_
    refine ao_read trivial (r_move rfl) rfl ?_
    refine ao_read trivial (r_len_osm (r26.length : Int) Try.underlying30 rfl rfl rfl) rfl ?_
    obtain ⟨g28, h⟩ := is_guard h
    refine ao_eff trivial (e_makeSlice 3 (t := (.int .i64)) Try.underlying30 (rfl : Try.prog.info? 3 = some _) rfl rfl rfl rfl rfl rfl (by omega) (by omega) rfl rfl) rfl ?_
    refine ao_read trivial (r_assign rfl) rfl ?_
    refine ao_nil ?_
    refine aq_then ?_
    refine aw_seq ?_
    refine aw_seq ?_
    refine aw_region ?_
    refine ao_read trivial (r_move rfl) rfl ?_
    refine ao_read trivial (r_len_vm (x1.length : Int) Try.underlying30 rfl rfl) rfl ?_
    refine ao_read trivial (r_move rfl) rfl ?_
    refine ao_nil ?_
    refine aq_then ?_
    refine aw_block ?_
    refine aw_loop (AL.sub (fr' := [(6, .os 0), (7, .os 1), (29, .v (.slice (.int .i64)) x1), (30, .int .i64 (x1.length : Int)), (31, .int .i64 0)]) (H' := [(0, .row (.int .i64) r26), (1, .row (.int .i64) ((List.replicate (r26.length : Int).toNat 0) : (List Int)))]) (sub_mk (rn [(0, 2), (1, 3)]) (by exact ⟨⟨_, rfl, ad_ren rfl⟩, ⟨_, rfl, ad_ren rfl⟩, ⟨_, rfl, ad_ren rfl⟩, ⟨_, rfl, ad_ren rfl⟩, ⟨_, rfl, ad_ren rfl⟩, trivial⟩) (by exact ⟨⟨_, rfl, rfl⟩, ⟨_, rfl, rfl⟩, trivial⟩) (by rfl) (nk rfl)) (al_cnt (fun i30 (s29 : (List Int)) => [(6, .os 0), (7, .os 1), (29, .v (.slice (.int .i64)) x1), (30, .int .i64 (x1.length : Int)), (31, .int .i64 i30)]) (fun i30 (s29 : (List Int)) => [(0, .row (.int .i64) r26), (1, .row (.int .i64) s29)]) (fun d i30 (s29 : (List Int)) => d = Int.toNat ((x1.length : Int) - i30) ∧ 0 ≤ i30 ∧ (s29.length : Int) = (r26.length : Int) ∧ i30 ≤ (x1.length : Int)) h ⟨rfl, (by (try simp only [List.length_set, List.length_append, List.length_cons, List.length_nil, List.length_replicate, List.length_take, List.length_drop]) <;> omega), (by (try simp only [List.length_set, List.length_append, List.length_cons, List.length_nil, List.length_replicate, List.length_take, List.length_drop]) <;> omega), (by (try simp only [List.length_set, List.length_append, List.length_cons, List.length_nil, List.length_replicate, List.length_take, List.length_drop]) <;> omega)⟩ (fun d31 i30 s29 hI h ih31 => ?_)))
    obtain ⟨hd, _, _, _⟩ := hI
    refine al_round ?_
    refine aw_seq ?_
    refine aw_region ?_
    refine ao_read trivial (r_lss rfl rfl) rfl ?_
    refine ao_nil ?_
    refine aq_then ?_
    refine aw_seq ?_
    refine aw_cond rfl (fun hb33 => ?_) (fun hb33 => ?_)
    · have q34 := d_t hb33
      obtain ⟨d31, rfl⟩ : ∃ e, d31 = e + 1 := ⟨d31 - 1, by omega⟩
      replace h := is_cntS h
      refine aw_skip ?_
      refine aq_then ?_
      refine aw_seq ?_
      refine aw_block ?_
      refine aw_seq ?_
      refine aw_region ?_
      refine ao_read trivial (r_idxAddr_int Try.underlying30 Try.sizeOf3 rfl rfl (show 0 ≤ i30 from by omega) (show i30 < (x1.length : Int) from by omega)) rfl ?_
      refine ao_read trivial (r_load_c_int Try.isAgg3 Try.sizeOf3 rfl) rfl ?_
      refine ao_read trivial (r_assign rfl) rfl ?_
      refine ao_nil ?_
      refine aq_then ?_
      refine aw_region ?_
      refine ao_read trivial (r_move rfl) rfl ?_
      refine ao_read trivial (r_move rfl) rfl ?_
      refine ao_read trivial (r_move rfl) rfl ?_
      refine ao_scall trivial (scall (c_slices_Index_int_int (is_mk (rfl : p_slices_Index_int_int r26 (x1.getD i30.toNat 0) = _))) rfl Try.func62 rfl rfl rfl rfl (fun σ => ⟨ad_os0 rfl, ad_ren rfl, trivial⟩)) rfl ?_
      obtain ⟨g36, h⟩ := is_guard h
      obtain ⟨g37, h⟩ := is_guard h
      refine ao_read trivial (r_idxAddr_os Try.underlying30 Try.sizeOf3 rfl rfl rfl (show 0 ≤ (p_slices_Index_int_int r26 (x1.getD i30.toNat 0)) from by omega) (show (p_slices_Index_int_int r26 (x1.getD i30.toNat 0)) < (s29.length : Int) from by omega)) rfl ?_
      refine ao_read trivial (r_load_elem_int Try.isAgg3 Try.sizeOf3 rfl rfl (show (p_slices_Index_int_int r26 (x1.getD i30.toNat 0)).toNat < s29.length from by omega)) rfl ?_
      refine ao_read trivial (r_add rfl rfl) rfl ?_
      refine ao_read trivial (r_idxAddr_os Try.underlying30 Try.sizeOf3 rfl rfl rfl (show 0 ≤ (p_slices_Index_int_int r26 (x1.getD i30.toNat 0)) from by omega) (show (p_slices_Index_int_int r26 (x1.getD i30.toNat 0)) < (s29.length : Int) from by omega)) rfl ?_
      refine ao_effS trivial (e_store_elem_int Try.sizeOf3 rfl rfl rfl rfl (show (p_slices_Index_int_int r26 (x1.getD i30.toNat 0)).toNat < s29.length from by omega) rfl) ?_
      refine ao_nil ?_
      refine aq_in ?_
      refine aq_then ?_
      refine aw_region ?_
      refine ao_read trivial (r_addI rfl rfl (wrap_id (by omega) (by omega))) rfl ?_
      refine ao_read trivial (r_move rfl) rfl ?_
      refine ao_nil ?_
      exact aq_again (AL.sub (sub_mk idn (by exact ⟨⟨_, rfl, ad_ren rfl⟩, ⟨_, rfl, ad_ren rfl⟩, ⟨_, rfl, ad_ren rfl⟩, ⟨_, rfl, ad_ren rfl⟩, ⟨_, rfl, ad_ren rfl⟩, trivial⟩) (by exact ⟨⟨_, rfl, rfl⟩, ⟨_, rfl, rfl⟩, trivial⟩) (by rfl) (nk rfl)) (ih31 d31 (i30 + 1) (s29.set (p_slices_Index_int_int r26 (x1.getD i30.toNat 0)).toNat (IntKind.wrap .i64 ((s29.getD (p_slices_Index_int_int r26 (x1.getD i30.toNat 0)).toNat 0) + 1))) (by omega) ⟨by omega, (by (try simp only [List.length_set, List.length_append, List.length_cons, List.length_nil, List.length_replicate, List.length_take, List.length_drop]) <;> omega), (by (try simp only [List.length_set, List.length_append, List.length_cons, List.length_nil, List.length_replicate, List.length_take, List.length_drop]) <;> omega), (by (try simp only [List.length_set, List.length_append, List.length_cons, List.length_nil, List.length_replicate, List.length_take, List.length_drop]) <;> omega)⟩ h))
    · have q35 := d_f hb33
      obtain rfl : d31 = 0 := by omega
      replace h := is_cnt0 h
      refine aw_exit ?_
      refine aq_then_exit ?_
      refine aq_then_exit ?_
      refine aq_in_exit ?_
      refine aq_then ?_
      refine aw_seq ?_
      refine aw_region ?_
      refine ao_read trivial (r_move rfl) rfl ?_
      refine ao_read trivial (r_assign rfl) rfl ?_
      refine ao_read trivial (r_assign rfl) rfl ?_
      refine ao_nil ?_
      refine aq_then ?_
      refine aw_ret ?_
      refine aq_ret ?_
      obtain rfl := is_some h
      exact aq_finx (l := [.tmp 4, .tmp 5]) (xs := [.os 1, .bool true]) (rn [(0, 1)]) [.os 0, .bool true] [(0, .row (.int .i64) s29)] rfl (by exact ⟨rfl, rfl, trivial⟩) (by exact ⟨ad_ren rfl, ad_ren rfl, trivial⟩) (by exact ⟨⟨_, rfl, rfl⟩, trivial⟩) rfl (nk rfl) rfl rfl ⟨rfl, rfl⟩
theorem c_spec_l11Rolls {x0 : (List Int)} {r : Bool} (h : Is (p_spec_l11Rolls x0) r) :
    Scalar Try.prog 64 [.v (.slice (.int .i64)) x0] (.bool r) := by
  unfold p_spec_l11Rolls at h
  refine ac_enter ⟨23, 0⟩ Try.func64 rfl rfl rfl rfl rfl (fun Γ => ?_)
  refine sl_len_m 0 (x0.length : Int) rfl rfl (fun hl0 => ?_)
  refine aw_seq ?_
  refine aw_region ?_
  refine ao_read trivial (r_assign rfl) rfl ?_
  refine ao_nil ?_
  refine aq_then ?_
  refine aw_seq ?_
  refine aw_seq ?_
  refine aw_region ?_
  refine ao_read trivial (r_assign rfl) rfl ?_
  refine ao_nil ?_
  refine aq_then ?_
  refine aw_block ?_
  refine aw_loop (AL.sub (fr' := [(0, .v (.slice (.int .i64)) x0), (3, .int .i64 0)]) (H' := []) (sub_mk idn (by exact ⟨⟨_, rfl, ad_ren rfl⟩, ⟨_, rfl, ad_ren rfl⟩, trivial⟩) (by exact trivial) (by rfl) (nk rfl)) (al_cnt (fun i2 (s1 : Unit) => [(0, .v (.slice (.int .i64)) x0), (3, .int .i64 i2)]) (fun i2 (s1 : Unit) => []) (fun d i2 (s1 : Unit) => d = Int.toNat ((x0.length : Int) - i2) ∧ 0 ≤ i2 ∧ i2 ≤ (x0.length : Int)) h ⟨rfl, (by (try simp only [List.length_set, List.length_append, List.length_cons, List.length_nil, List.length_replicate, List.length_take, List.length_drop]) <;> omega), (by (try simp only [List.length_set, List.length_append, List.length_cons, List.length_nil, List.length_replicate, List.length_take, List.length_drop]) <;> omega)⟩ (fun d3 i2 s1 hI h ih3 => ?_)))
  obtain ⟨hd, _, _⟩ := hI
  refine al_round ?_
  refine aw_seq ?_
  refine aw_seq ?_
  refine aw_region ?_
  refine ao_read trivial (r_move rfl) rfl ?_
  refine ao_read trivial (r_move rfl) rfl ?_
  refine ao_read trivial (r_len_vm (x0.length : Int) Try.underlying30 rfl rfl) rfl ?_
  refine ao_read trivial (r_lss rfl rfl) rfl ?_
  refine ao_read trivial (r_move rfl) rfl ?_
  refine ao_readG (x := .int .i64 i2) rfl (GV.T rfl) (fun hg5 => by
        have q6 := d_t hg5
        exact r_move rfl) rfl ?_
  refine ao_readG (x := .bool (decide (i2 ≤ 12))) rfl (GV.T rfl) (fun hg7 => by
        have q8 := d_t hg7
        exact Reads.strip 9 rfl (hg7) (r_leq rfl rfl)) rfl ?_
  refine ao_read trivial (r_andB rfl rfl) rfl ?_
  refine ao_nil ?_
  refine aq_then ?_
  refine aw_cond rfl (fun hb9 => ?_) (fun hb9 => ?_)
  · obtain ⟨q10, q11⟩ := and_t hb9
    have q12 := d_t q10
    have q13 := d_t q11
    obtain ⟨d3, rfl⟩ : ∃ e, d3 = e + 1 := ⟨d3 - 1, by omega⟩
    replace h := is_if hb9 (is_cntS h)
    refine aw_skip ?_
    refine aq_then ?_
    refine aw_seq ?_
    refine aw_block ?_
    refine aw_seq ?_
    refine aw_region ?_
    refine ao_read trivial (r_move rfl) rfl ?_
    refine ao_read trivial (r_move rfl) rfl ?_
    refine ao_read trivial (r_idxAddr_int Try.underlying30 Try.sizeOf3 rfl rfl (show 0 ≤ i2 from by omega) (show i2 < (x0.length : Int) from by omega)) rfl ?_
    refine ao_read trivial (r_load_c_int Try.isAgg3 Try.sizeOf3 rfl) rfl ?_
    refine ao_scall trivial (scall (c_spec_l1In (is_mk (rfl : p_spec_l1In (x0.getD i2.toNat 0) 0 30 = _))) rfl Try.func67 rfl rfl rfl rfl (fun σ => ⟨ad_ren rfl, ad_ren rfl, ad_ren rfl, trivial⟩)) rfl ?_
    refine ao_read trivial (r_not rfl) rfl ?_
    refine ao_nil ?_
    refine aq_then ?_
    refine aw_cond rfl (fun hb14 => ?_) (fun hb14 => ?_)
    · replace h := is_else (ne_t (not_t hb14)) h
      refine aw_seq ?_
      refine aw_region ?_
      refine ao_read trivial (r_assign rfl) rfl ?_
      refine ao_nil ?_
      refine aq_then ?_
      refine aw_ret ?_
      refine aq_in_ret ?_
      refine aq_then_ret ?_
      refine aq_then_ret ?_
      refine aq_in_ret ?_
      refine aq_then_ret ?_
      refine aq_ret ?_
      obtain rfl := is_eq h
      exact aq_finx (l := [.tmp 2]) (xs := [.bool false]) idn [.bool false] [] rfl (by exact ⟨rfl, trivial⟩) (by exact ⟨ad_ren rfl, trivial⟩) (by exact trivial) rfl (nk rfl) rfl rfl ⟨rfl, rfl⟩
    · replace h := is_if (not_f hb14) h
      refine aw_skip ?_
      refine aq_in ?_
      refine aq_then ?_
      refine aw_region ?_
      refine ao_read trivial (r_move rfl) rfl ?_
      refine ao_read trivial (r_addI rfl rfl (wrap_id (by omega) (by omega))) rfl ?_
      refine ao_read trivial (r_assign rfl) rfl ?_
      refine ao_nil ?_
      exact aq_again (AL.sub (sub_mk idn (by exact ⟨⟨_, rfl, ad_ren rfl⟩, ⟨_, rfl, ad_ren rfl⟩, trivial⟩) (by exact trivial) (by rfl) (nk rfl)) (ih3 d3 (i2 + 1) () (by omega) ⟨by omega, (by (try simp only [List.length_set, List.length_append, List.length_cons, List.length_nil, List.length_replicate, List.length_take, List.length_drop]) <;> omega), (by (try simp only [List.length_set, List.length_append, List.length_cons, List.length_nil, List.length_replicate, List.length_take, List.length_drop]) <;> omega)⟩ h))
  · replace h := is_cntF h (ne_t hb9) (fun _ => rfl)
    refine aw_exit ?_
    refine aq_then_exit ?_
    refine aq_then_exit ?_
    refine aq_in_exit ?_
    refine aq_then ?_
    refine aw_seq ?_
    refine aw_region ?_
    refine ao_read trivial (r_move rfl) rfl ?_
    refine ao_read trivial (r_len_vm (x0.length : Int) Try.underlying30 rfl rfl) rfl ?_
    refine ao_read trivial (r_leq rfl rfl) rfl ?_
    refine ao_read trivial (r_assign rfl) rfl ?_
    refine ao_nil ?_
    refine aq_then ?_
    refine aw_ret ?_
    refine aq_ret ?_
    obtain rfl := is_eq h
    exact aq_finx (l := [.tmp 2]) (xs := [.bool (decide ((x0.length : Int) ≤ 12))]) idn [.bool (decide ((x0.length : Int) ≤ 12))] [] rfl (by exact ⟨rfl, trivial⟩) (by exact ⟨ad_ren rfl, trivial⟩) (by exact trivial) rfl (nk rfl) rfl rfl ⟨rfl, rfl⟩
theorem c_spec_CountRolls {x0 : (List Int)} {x1 : (List Int)} {r : (List Int) × Bool} (h : Is (p_spec_CountRolls x0 x1) (some r)) :
    ACalls Try.prog 28 [.v (.arr 6 (.int .i64)) x0, .v (.slice (.int .i64)) x1] [] (fun r' H' => r' = .tup [.os 0, .bool r.2] ∧ H' = [(0, .row (.int .i64) r.1)]) := by
  unfold p_spec_CountRolls at h
  refine ac_enter ⟨59, 0⟩ Try.func28 rfl rfl rfl rfl rfl (fun Γ => ?_)
  refine sl_len_m 1 (x1.length : Int) rfl rfl (fun hl1 => ?_)
  refine aw_seq ?_
  refine aw_region ?_
  refine ao_eff trivial (e_box 0 rfl rfl rfl rfl rfl rfl) rfl ?_
  refine ao_read trivial (r_assign rfl) rfl ?_
  refine ao_read trivial (r_assign rfl) rfl ?_
  refine ao_nil ?_
  refine aq_then ?_
  refine aw_seq ?_
  refine aw_seq ?_
  refine aw_region ?_
  refine ao_read trivial (r_load_arr rfl Try.isAgg22 Try.sizeOf22 rfl rfl rfl) rfl ?_
  obtain ⟨r1, r1h, h⟩ := is_bind h
  refine ao_scall trivial (scall (c_spec_l2Die (is_mk r1h)) rfl Try.func63 rfl rfl rfl rfl (fun σ => ⟨ad_ren rfl, trivial⟩)) rfl ?_
  refine ao_read trivial (r_not rfl) rfl ?_
  refine ao_read trivial (r_move rfl) rfl ?_
  refine ao_readG (x := .v (.slice (.int .i64)) x1) rfl (GV.F rfl) (fun hg2 => r_move rfl) rfl ?_
  refine ao_scallG (r := .bool (p_spec_l11Rolls x1)) rfl (GV.F rfl) (fun hg3 => SCall.strip 14 rfl (hg3) (scall (c_spec_l11Rolls (is_mk (rfl : p_spec_l11Rolls x1 = _))) rfl Try.func64 rfl rfl rfl rfl (fun σ => ⟨ad_ren rfl, trivial⟩))) rfl ?_
  refine ao_readG (x := .bool (!(p_spec_l11Rolls x1))) rfl (GV.F rfl) (fun hg4 => Reads.strip 15 rfl (hg4) (r_not rfl)) rfl ?_
  refine ao_read trivial (r_orB rfl rfl) rfl ?_
  refine ao_nil ?_
  refine aq_then ?_
  refine aw_cond rfl (fun hb5 => ?_) (fun hb5 => ?_)
  · replace h := is_if hb5 h
    refine aw_seq ?_
    refine aw_region ?_
    refine ao_eff trivial (e_buildSlice (l := []) (t := (.int .i64)) 1 ([] : (List Int)) rfl Try.underlying30 Try.zeroValue3 Try.sizeOf3 rfl rfl rfl rfl rfl rfl rfl) rfl ?_
    refine ao_read trivial (r_assign rfl) rfl ?_
    refine ao_read trivial (r_assign rfl) rfl ?_
    refine ao_nil ?_
    refine aq_then ?_
    refine aw_ret ?_
    refine aq_then_ret ?_
    refine aq_ret ?_
    obtain rfl := is_some h
    exact aq_finx (l := [.tmp 4, .tmp 5]) (xs := [.os 1, .bool false]) (rn [(0, 1)]) [.os 0, .bool false] [(0, .row (.int .i64) ([] : (List Int)))] rfl (by exact ⟨rfl, rfl, trivial⟩) (by exact ⟨ad_ren rfl, ad_ren rfl, trivial⟩) (by exact ⟨⟨_, rfl, rfl⟩, trivial⟩) rfl (nk rfl) rfl rfl ⟨rfl, rfl⟩
  · obtain ⟨q6, q7⟩ := or_f hb5
    replace h := is_else (ne_t hb5) h
    refine aw_skip ?_
    refine aq_then ?_
    refine aw_seq ?_
    refine aw_region ?_
    refine ao_read trivial (r_load_arr rfl Try.isAgg22 Try.sizeOf22 rfl rfl rfl) rfl ?_
    obtain ⟨r8, r8h, h⟩ := is_bind h
    refine ao_call [] 2 trivial (c_spec_l8Numbers (is_mk r8h)) Try.func37 rfl rfl rfl rfl ⟨ad_ren rfl, trivial⟩ trivial rfl rfl rfl rfl rfl rfl rfl (fun r' H' hr => ?_)
    obtain ⟨rfl, rfl⟩ := hr
    refine ao_norm (y := .os 2) (H' := [(0, .var [.arr (.int .i64) 6 x0]), (2, .row (.int .i64) r8)]) rfl rfl ?_
    refine row_len_o 2 (r8.length : Int) rfl rfl (fun hr9 => ?_)
    refine ao_read trivial (r_assign rfl) rfl ?_
    refine ao_nil ?_
    refine aq_then ?_
    refine aw_seq ?_
    refine aw_region ?_
    refine ao_read trivial (r_move rfl) rfl ?_
    refine ao_read trivial (r_len_osm (r8.length : Int) Try.underlying30 rfl rfl rfl) rfl ?_
    obtain ⟨g10, h⟩ := is_guard h
    refine ao_eff trivial (e_makeSlice 3 (t := (.int .i64)) Try.underlying30 (rfl : Try.prog.info? 3 = some _) rfl rfl rfl rfl rfl rfl (by omega) (by omega) rfl rfl) rfl ?_
    refine ao_read trivial (r_assign rfl) rfl ?_
    refine ao_nil ?_
    refine aq_then ?_
    refine aw_seq ?_
    refine aw_seq ?_
    refine aw_region ?_
    refine ao_read trivial (r_assign rfl) rfl ?_
    refine ao_nil ?_
    refine aq_then ?_
    refine aw_block ?_
    refine aw_loop (AL.sub (fr' := [(1, .v (.slice (.int .i64)) x1), (6, .os 0), (7, .os 1), (8, .int .i64 0)]) (H' := [(0, .row (.int .i64) r8), (1, .row (.int .i64) ((List.replicate (r8.length : Int).toNat 0) : (List Int)))]) (sub_mk (rn [(0, 2), (1, 3)]) (by exact ⟨⟨_, rfl, ad_ren rfl⟩, ⟨_, rfl, ad_ren rfl⟩, ⟨_, rfl, ad_ren rfl⟩, ⟨_, rfl, ad_ren rfl⟩, trivial⟩) (by exact ⟨⟨_, rfl, rfl⟩, ⟨_, rfl, rfl⟩, trivial⟩) (by rfl) (nk rfl)) (al_cnt (fun i12 (s11 : (List Int)) => [(1, .v (.slice (.int .i64)) x1), (6, .os 0), (7, .os 1), (8, .int .i64 i12)]) (fun i12 (s11 : (List Int)) => [(0, .row (.int .i64) r8), (1, .row (.int .i64) s11)]) (fun d i12 (s11 : (List Int)) => d = Int.toNat ((x1.length : Int) - i12) ∧ 0 ≤ i12 ∧ (s11.length : Int) = (r8.length : Int) ∧ i12 ≤ (x1.length : Int)) h ⟨rfl, (by (try simp only [List.length_set, List.length_append, List.length_cons, List.length_nil, List.length_replicate, List.length_take, List.length_drop]) <;> omega), (by (try simp only [List.length_set, List.length_append, List.length_cons, List.length_nil, List.length_replicate, List.length_take, List.length_drop]) <;> omega), (by (try simp only [List.length_set, List.length_append, List.length_cons, List.length_nil, List.length_replicate, List.length_take, List.length_drop]) <;> omega)⟩ (fun d13 i12 s11 hI h ih13 => ?_)))
    obtain ⟨hd, _, _, _⟩ := hI
    refine al_round ?_
    refine aw_seq ?_
    refine aw_seq ?_
    refine aw_region ?_
    refine ao_read trivial (r_move rfl) rfl ?_
    refine ao_read trivial (r_move rfl) rfl ?_
    refine ao_read trivial (r_len_vm (x1.length : Int) Try.underlying30 rfl rfl) rfl ?_
    refine ao_read trivial (r_lss rfl rfl) rfl ?_
    refine ao_nil ?_
    refine aq_then ?_
    refine aw_cond rfl (fun hb15 => ?_) (fun hb15 => ?_)
    · have q16 := d_t hb15
      obtain ⟨d13, rfl⟩ : ∃ e, d13 = e + 1 := ⟨d13 - 1, by omega⟩
      replace h := is_cntS h
      refine aw_skip ?_
      refine aq_then ?_
      refine aw_seq ?_
      refine aw_block ?_
      refine aw_seq ?_
      refine aw_region ?_
      refine ao_read trivial (r_assign rfl) rfl ?_
      refine ao_nil ?_
      refine aq_then ?_
      refine aw_seq ?_
      refine aw_block ?_
      refine aw_loop (AL.sub (fr' := [(1, .v (.slice (.int .i64)) x1), (6, .os 0), (7, .os 1), (8, .int .i64 i12), (9, .int .i64 0)]) (H' := [(0, .row (.int .i64) r8), (1, .row (.int .i64) s11)]) (sub_mk idn (by exact ⟨⟨_, rfl, ad_ren rfl⟩, ⟨_, rfl, ad_ren rfl⟩, ⟨_, rfl, ad_ren rfl⟩, ⟨_, rfl, ad_ren rfl⟩, ⟨_, rfl, ad_ren rfl⟩, trivial⟩) (by exact ⟨⟨_, rfl, rfl⟩, ⟨_, rfl, rfl⟩, trivial⟩) (by rfl) (nk rfl)) (al_cnt (fun i19 (s18 : Unit) => [(1, .v (.slice (.int .i64)) x1), (6, .os 0), (7, .os 1), (8, .int .i64 i12), (9, .int .i64 i19)]) (fun i19 (s18 : Unit) => [(0, .row (.int .i64) r8), (1, .row (.int .i64) s11)]) (fun d i19 (s18 : Unit) => d = Int.toNat ((r8.length : Int) - i19) ∧ 0 ≤ i19 ∧ i19 ≤ (r8.length : Int)) h ⟨rfl, (by (try simp only [List.length_set, List.length_append, List.length_cons, List.length_nil, List.length_replicate, List.length_take, List.length_drop]) <;> omega), (by (try simp only [List.length_set, List.length_append, List.length_cons, List.length_nil, List.length_replicate, List.length_take, List.length_drop]) <;> omega)⟩ (fun d20 i19 s18 hI h ih20 => ?_)))
      obtain ⟨hd, _, _⟩ := hI
      refine al_round ?_
      refine aw_seq ?_
      refine aw_seq ?_
      refine aw_drawAll (by kernel_rfl) ?_
      refine an_read 0 (by kernel_rfl) (fun _ _ _ h => h) rfl (by kernel_rfl) trivial (r_move rfl) rfl ?_
      refine an_read 1 (by kernel_rfl) (fun _ _ _ h => h) rfl (by kernel_rfl) trivial (r_move rfl) rfl ?_
      refine an_read 2 (by kernel_rfl) (fun _ _ _ h => h) rfl (by kernel_rfl) trivial (r_len_osm (r8.length : Int) Try.underlying30 rfl rfl rfl) rfl ?_
      refine an_read 3 (by kernel_rfl) (fun _ _ _ h => h) rfl (by kernel_rfl) trivial (r_lss rfl rfl) rfl ?_
      refine an_read 4 (by kernel_rfl) (fun _ _ _ h => h) rfl (by kernel_rfl) trivial (r_move rfl) rfl ?_
      refine an_readG 5 (x := .os 0) (by kernel_rfl) (fun _ _ _ h => h) rfl (by kernel_rfl) rfl (GV.T rfl) (fun hg22 => by
            have q23 := d_t hg22
            exact r_move rfl) rfl ?_
      refine an_readG 6 (x := .int .i64 i19) (by kernel_rfl) (fun _ _ _ h => h) rfl (by kernel_rfl) rfl (GV.T rfl) (fun hg24 => by
            have q25 := d_t hg24
            exact r_move rfl) rfl ?_
      refine an_readG 7 (x := .elem 0 0 1 i19.toNat) (by kernel_rfl) (fun _ _ _ h => h) rfl (by kernel_rfl) rfl (GV.T rfl) (fun hg26 => by
            have q27 := d_t hg26
            exact Reads.strip 35 rfl (hg26) (Reads.strip 36 rfl (hg26) (r_idxAddr_os Try.underlying30 Try.sizeOf3 rfl rfl rfl (show 0 ≤ i19 from by omega) (show i19 < (r8.length : Int) from by omega)))) rfl ?_
      refine an_readG 8 (x := .int .i64 (r8.getD i19.toNat 0)) (by kernel_rfl) (fun _ _ _ h => h) rfl (by kernel_rfl) rfl (GV.T rfl) (fun hg28 => by
            have q29 := d_t hg28
            exact Reads.strip 37 rfl (hg28) (r_load_elem_int Try.isAgg3 Try.sizeOf3 rfl rfl (show i19.toNat < r8.length from by omega))) rfl ?_
      refine an_readG 9 (x := .v (.slice (.int .i64)) x1) (by kernel_rfl) (fun _ _ _ h => h) rfl (by kernel_rfl) rfl (GV.T rfl) (fun hg30 => by
            have q31 := d_t hg30
            exact r_move rfl) rfl ?_
      refine an_readG 10 (x := .int .i64 i12) (by kernel_rfl) (fun _ _ _ h => h) rfl (by kernel_rfl) rfl (GV.T rfl) (fun hg32 => by
            have q33 := d_t hg32
            exact r_move rfl) rfl ?_
      refine an_readG 11 (x := .cptr (.int .i64) ((x1.getD i12.toNat 0) : Int)) (by kernel_rfl) (fun _ _ _ h => h) rfl (by kernel_rfl) rfl (GV.T rfl) (fun hg34 => by
            have q35 := d_t hg34
            exact Reads.strip 39 rfl (hg34) (Reads.strip 40 rfl (hg34) (r_idxAddr_int Try.underlying30 Try.sizeOf3 rfl rfl (show 0 ≤ i12 from by omega) (show i12 < (x1.length : Int) from by omega)))) rfl ?_
      refine an_readG 12 (x := .int .i64 (x1.getD i12.toNat 0)) (by kernel_rfl) (fun _ _ _ h => h) rfl (by kernel_rfl) rfl (GV.T rfl) (fun hg36 => by
            have q37 := d_t hg36
            exact Reads.strip 41 rfl (hg36) (r_load_c_int Try.isAgg3 Try.sizeOf3 rfl)) rfl ?_
      refine an_readG 13 (x := .bool (!(decide ((r8.getD i19.toNat 0) = (x1.getD i12.toNat 0))))) (by kernel_rfl) (fun _ _ _ h => h) rfl (by kernel_rfl) rfl (GV.T rfl) (fun hg38 => by
            have q39 := d_t hg38
            exact Reads.strip 38 rfl (hg38) (Reads.strip 42 rfl (hg38) (r_neq rfl rfl))) rfl ?_
      refine an_read 14 (by kernel_rfl) (fun _ _ _ h => h) rfl (by kernel_rfl) trivial (r_andB rfl rfl) rfl ?_
      refine an_done rfl ?_
      refine aq_then ?_
      refine aw_cond rfl (fun hb40 => ?_) (fun hb40 => ?_)
      · obtain ⟨q41, q42⟩ := and_t hb40
        have q43 := d_t q41
        have q44 : ¬ ((r8.getD i19.toNat 0) = (x1.getD i12.toNat 0)) := d_f (not_t q42)
        obtain ⟨d20, rfl⟩ : ∃ e, d20 = e + 1 := ⟨d20 - 1, by omega⟩
        replace h := is_if hb40 (is_cntS h)
        refine aw_skip ?_
        refine aq_then ?_
        refine aw_block ?_
        refine aw_region ?_
        refine ao_read trivial (r_move rfl) rfl ?_
        refine ao_read trivial (r_addI rfl rfl (wrap_id (by omega) (by omega))) rfl ?_
        refine ao_read trivial (r_assign rfl) rfl ?_
        refine ao_nil ?_
        refine aq_in ?_
        exact aq_again (AL.sub (sub_mk idn (by exact ⟨⟨_, rfl, ad_ren rfl⟩, ⟨_, rfl, ad_ren rfl⟩, ⟨_, rfl, ad_ren rfl⟩, ⟨_, rfl, ad_ren rfl⟩, ⟨_, rfl, ad_ren rfl⟩, trivial⟩) (by exact ⟨⟨_, rfl, rfl⟩, ⟨_, rfl, rfl⟩, trivial⟩) (by rfl) (nk rfl)) (ih20 d20 (i19 + 1) () (by omega) ⟨by omega, (by (try simp only [List.length_set, List.length_append, List.length_cons, List.length_nil, List.length_replicate, List.length_take, List.length_drop]) <;> omega), (by (try simp only [List.length_set, List.length_append, List.length_cons, List.length_nil, List.length_replicate, List.length_take, List.length_drop]) <;> omega)⟩ h))
      · replace h := is_cntF h (ne_t hb40) (fun _ => rfl)
        refine aw_exit ?_
        refine aq_then_exit ?_
        refine aq_then_exit ?_
        refine aq_in_exit ?_
        refine aq_then ?_
        refine aw_seq ?_
        refine aw_seq ?_
        refine aw_region ?_
        refine ao_read trivial (r_move rfl) rfl ?_
        refine ao_read trivial (r_move rfl) rfl ?_
        refine ao_read trivial (r_len_osm (r8.length : Int) Try.underlying30 rfl rfl rfl) rfl ?_
        refine ao_read trivial (r_eql rfl rfl) rfl ?_
        refine ao_nil ?_
        refine aq_then ?_
        refine aw_cond rfl (fun hb45 => ?_) (fun hb45 => ?_)
        · have q46 := d_t hb45
          replace h := is_if (d_t hb45) h
          refine aw_seq ?_
          refine aw_region ?_
          refine ao_eff trivial (e_buildSlice (l := []) (t := (.int .i64)) 2 ([] : (List Int)) rfl Try.underlying30 Try.zeroValue3 Try.sizeOf3 rfl rfl rfl rfl rfl rfl rfl) rfl ?_
          refine ao_read trivial (r_assign rfl) rfl ?_
          refine ao_read trivial (r_assign rfl) rfl ?_
          refine ao_nil ?_
          refine aq_then ?_
          refine aw_ret ?_
          refine aq_then_ret ?_
          refine aq_in_ret ?_
          refine aq_then_ret ?_
          refine aq_then_ret ?_
          refine aq_in_ret ?_
          refine aq_then_ret ?_
          refine aq_ret ?_
          obtain rfl := is_some h
          exact aq_finx (l := [.tmp 4, .tmp 5]) (xs := [.os 2, .bool false]) (rn [(0, 2)]) [.os 0, .bool false] [(0, .row (.int .i64) ([] : (List Int)))] rfl (by exact ⟨rfl, rfl, trivial⟩) (by exact ⟨ad_ren rfl, ad_ren rfl, trivial⟩) (by exact ⟨⟨_, rfl, rfl⟩, trivial⟩) rfl (nk rfl) rfl rfl ⟨rfl, rfl⟩
        · have q47 := d_f hb45
          replace h := is_else (d_f hb45) h
          refine aw_skip ?_
          refine aq_then ?_
          refine aw_region ?_
          refine ao_read trivial (r_move rfl) rfl ?_
          refine ao_read trivial (r_move rfl) rfl ?_
          obtain ⟨g48, h⟩ := is_guard h
          refine ao_read trivial (r_idxAddr_os Try.underlying30 Try.sizeOf3 rfl rfl rfl (show 0 ≤ i19 from by omega) (show i19 < (s11.length : Int) from by omega)) rfl ?_
          refine ao_read trivial (r_load_elem_int Try.isAgg3 Try.sizeOf3 rfl rfl (show i19.toNat < s11.length from by omega)) rfl ?_
          refine ao_read trivial (r_add rfl rfl) rfl ?_
          refine ao_read trivial (r_idxAddr_os Try.underlying30 Try.sizeOf3 rfl rfl rfl (show 0 ≤ i19 from by omega) (show i19 < (s11.length : Int) from by omega)) rfl ?_
          refine ao_effS trivial (e_store_elem_int Try.sizeOf3 rfl rfl rfl rfl (show i19.toNat < s11.length from by omega) rfl) ?_
          refine ao_nil ?_
          refine aq_in ?_
          refine aq_then ?_
          refine aw_region ?_
          refine ao_read trivial (r_move rfl) rfl ?_
          refine ao_read trivial (r_addI rfl rfl (wrap_id (by omega) (by omega))) rfl ?_
          refine ao_read trivial (r_assign rfl) rfl ?_
          refine ao_nil ?_
          exact aq_again (AL.sub (sub_mk idn (by exact ⟨⟨_, rfl, ad_ren rfl⟩, ⟨_, rfl, ad_ren rfl⟩, ⟨_, rfl, ad_ren rfl⟩, ⟨_, rfl, ad_ren rfl⟩, trivial⟩) (by exact ⟨⟨_, rfl, rfl⟩, ⟨_, rfl, rfl⟩, trivial⟩) (by rfl) (nk rfl)) (ih13 d13 (i12 + 1) (s11.set i19.toNat (IntKind.wrap .i64 ((s11.getD i19.toNat 0) + 1))) (by omega) ⟨by omega, (by (try simp only [List.length_set, List.length_append, List.length_cons, List.length_nil, List.length_replicate, List.length_take, List.length_drop]) <;> omega), (by (try simp only [List.length_set, List.length_append, List.length_cons, List.length_nil, List.length_replicate, List.length_take, List.length_drop]) <;> omega), (by (try simp only [List.length_set, List.length_append, List.length_cons, List.length_nil, List.length_replicate, List.length_take, List.length_drop]) <;> omega)⟩ h))
    · have q17 := d_f hb15
      obtain rfl : d13 = 0 := by omega
      replace h := is_cnt0 h
      refine aw_exit ?_
      refine aq_then_exit ?_
      refine aq_then_exit ?_
      refine aq_in_exit ?_
      refine aq_then ?_
      refine aw_seq ?_
      refine aw_region ?_
      refine ao_read trivial (r_move rfl) rfl ?_
      refine ao_read trivial (r_assign rfl) rfl ?_
      refine ao_read trivial (r_assign rfl) rfl ?_
      refine ao_nil ?_
      refine aq_then ?_
      refine aw_ret ?_
      refine aq_ret ?_
      obtain rfl := is_some h
      exact aq_finx (l := [.tmp 4, .tmp 5]) (xs := [.os 1, .bool true]) (rn [(0, 1)]) [.os 0, .bool true] [(0, .row (.int .i64) s11)] rfl (by exact ⟨rfl, rfl, trivial⟩) (by exact ⟨ad_ren rfl, ad_ren rfl, trivial⟩) (by exact ⟨⟨_, rfl, rfl⟩, trivial⟩) rfl (nk rfl) rfl rfl ⟨rfl, rfl⟩
end Go.GA
