/- Walks: what the Go functions compute, by the printed lines below; no further conditions. -/
import Derived.Test.YtedakmknjbjlbaaC9kw
namespace Go.GA
open Go Go.Proofs
set_option maxRecDepth 100000
set_option maxHeartbeats 2000000
set_option linter.unusedVariables false
set_option linter.unusedSimpArgs false
theorem c_impl_shifted {x0 : (List Int)} {x1 : Int} {r : (List Int)} (h : Is (p_impl_shifted x0 x1) r) :
    Scalar Try.prog 130 [.v (.arr 6 (.int .i64)) x0, .int .i64 x1] (.v (.arr 6 (.int .i64)) r) := by
  unfold p_impl_shifted at h
  refine ac_enter ⟨17, 0⟩ Try.func130 rfl rfl rfl rfl rfl (fun Γ => ?_)
  refine aw_seq ?_
  refine aw_region ?_
  refine ao_eff trivial (e_box 0 rfl rfl rfl rfl rfl rfl) rfl ?_
  refine ao_eff trivial (e_alloc 1 (y := .v (.arr 6 (.int .i64)) ((List.replicate 6 0) : (List Int))) Try.zeroValue60 (fun ρ h M => ra_zero_arr (t := (.int .i64)) rfl) rfl rfl rfl rfl rfl) rfl ?_
  refine ao_nil ?_
  refine aq_then ?_
  refine aw_seq ?_
  refine aw_seq ?_
  refine aw_region ?_
  refine ao_read trivial (r_move rfl) rfl ?_
  refine ao_nil ?_
  refine aq_then ?_
  refine aw_block ?_
  refine aw_loop (AL.sub (fr' := [(1, .int .i64 x1), (2, .ref 0 0), (4, .ref 1 0), (6, .int .i64 0)]) (H' := [(0, .var [.arr (.int .i64) 6 x0]), (1, .var [.arr (.int .i64) 6 ((List.replicate 6 0) : (List Int))])]) (sub_mk idn (by exact ⟨⟨_, rfl, ad_ren rfl⟩, ⟨_, rfl, ad_ren rfl⟩, ⟨_, rfl, ad_ren rfl⟩, ⟨_, rfl, ad_ren rfl⟩, trivial⟩) (by exact ⟨⟨_, rfl, ⟨rfl, trivial⟩⟩, ⟨_, rfl, ⟨rfl, trivial⟩⟩, trivial⟩) (by rfl) (nk rfl)) (al_cnt (fun i2 (s1 : (List Int)) => [(1, .int .i64 x1), (2, .ref 0 0), (4, .ref 1 0), (6, .int .i64 i2)]) (fun i2 (s1 : (List Int)) => [(0, .var [.arr (.int .i64) 6 s1]), (1, .var [.arr (.int .i64) 6 ((List.replicate 6 0) : (List Int))])]) (fun d i2 (s1 : (List Int)) => d = Int.toNat (6 - i2) ∧ 0 ≤ i2 ∧ (s1.length : Int) = (x0.length : Int) ∧ i2 ≤ 6) h ⟨rfl, (by (try simp only [List.length_set, List.length_append, List.length_cons, List.length_nil, List.length_replicate, List.length_take, List.length_drop]) <;> omega), (by (try simp only [List.length_set, List.length_append, List.length_cons, List.length_nil, List.length_replicate, List.length_take, List.length_drop]) <;> omega), (by (try simp only [List.length_set, List.length_append, List.length_cons, List.length_nil, List.length_replicate, List.length_take, List.length_drop]) <;> omega)⟩ (fun d3 i2 s1 hI h ih3 => ?_)))
  obtain ⟨hd, _, _, _⟩ := hI
  refine al_round ?_
  refine aw_seq ?_
  refine aw_region ?_
  refine ao_read trivial (r_lss rfl rfl) rfl ?_
  refine ao_nil ?_
  refine aq_then ?_
  refine aw_seq ?_
  refine aw_cond rfl (fun hb5 => ?_) (fun hb5 => ?_)
  · have q6 := d_t hb5
    obtain ⟨d3, rfl⟩ : ∃ e, d3 = e + 1 := ⟨d3 - 1, by omega⟩
    replace h := is_cntS h
    refine aw_skip ?_
    refine aq_then ?_
    refine aw_seq ?_
    refine aw_block ?_
    refine aw_seq ?_
    refine aw_region ?_
    refine ao_read trivial (r_move rfl) rfl ?_
    refine ao_read trivial (r_assign rfl) rfl ?_
    refine ao_nil ?_
    refine aq_then ?_
    refine aw_region ?_
    refine ao_read trivial (r_move rfl) rfl ?_
    refine ao_read trivial (r_idxAddr_arr (i := i2) Try.underlying60 Try.sizeOf3 rfl rfl (show 0 ≤ i2 from by omega) (show i2 < (6 : Int) from by omega)) rfl ?_
    refine ao_read trivial (r_load_elema_int Try.isAgg3 Try.sizeOf3 rfl rfl rfl (show i2.toNat < 6 from by omega)) rfl ?_
    refine ao_read trivial (r_move rfl) rfl ?_
    refine ao_read trivial (r_add rfl rfl) rfl ?_
    refine ao_read trivial (r_idxAddr_arr (i := i2) Try.underlying60 Try.sizeOf3 rfl rfl (show 0 ≤ i2 from by omega) (show i2 < (6 : Int) from by omega)) rfl ?_
    refine ao_effS trivial (e_store_elema_int Try.sizeOf3 rfl rfl rfl rfl (show i2.toNat < 6 from by omega) rfl) ?_
    refine ao_nil ?_
    refine aq_in ?_
    refine aq_then ?_
    refine aw_region ?_
    refine ao_read trivial (r_addI rfl rfl (wrap_id (by omega) (by omega))) rfl ?_
    refine ao_read trivial (r_move rfl) rfl ?_
    refine ao_nil ?_
    exact aq_again (AL.sub (sub_mk idn (by exact ⟨⟨_, rfl, ad_ren rfl⟩, ⟨_, rfl, ad_ren rfl⟩, ⟨_, rfl, ad_ren rfl⟩, ⟨_, rfl, ad_ren rfl⟩, trivial⟩) (by exact ⟨⟨_, rfl, ⟨rfl, trivial⟩⟩, ⟨_, rfl, ⟨rfl, trivial⟩⟩, trivial⟩) (by rfl) (nk rfl)) (ih3 d3 (i2 + 1) (s1.set i2.toNat (IntKind.wrap .i64 ((s1.getD i2.toNat 0) + x1))) (by omega) ⟨by omega, (by (try simp only [List.length_set, List.length_append, List.length_cons, List.length_nil, List.length_replicate, List.length_take, List.length_drop]) <;> omega), (by (try simp only [List.length_set, List.length_append, List.length_cons, List.length_nil, List.length_replicate, List.length_take, List.length_drop]) <;> omega), (by (try simp only [List.length_set, List.length_append, List.length_cons, List.length_nil, List.length_replicate, List.length_take, List.length_drop]) <;> omega)⟩ h))
  · have q7 := d_f hb5
    obtain rfl : d3 = 0 := by omega
    replace h := is_cnt0 h
    refine aw_exit ?_
    refine aq_then_exit ?_
    refine aq_then_exit ?_
    refine aq_in_exit ?_
    refine aq_then ?_
    refine aw_seq ?_
    refine aw_region ?_
    refine ao_read trivial (r_load_arr rfl Try.isAgg60 Try.sizeOf60 rfl rfl rfl) rfl ?_
    refine ao_effS trivial (e_store rfl rfl rfl rfl Try.sizeOf60 rfl) ?_
    refine ao_nil ?_
    refine aq_then ?_
    refine aw_ret ?_
    refine aq_ret ?_
    obtain rfl := is_eq h
    exact aq_finx (l := [.cell 4 60]) (xs := [.v (.arr 6 (.int .i64)) s1]) idn [.v (.arr 6 (.int .i64)) s1] [] rfl (by exact ⟨⟨⟨_, _, rfl⟩, r_load_arr rfl Try.isAgg60 Try.sizeOf60 rfl rfl rfl⟩, trivial⟩) (by exact ⟨ad_ren rfl, trivial⟩) (by exact trivial) rfl (nk rfl) rfl rfl ⟨rfl, rfl⟩
theorem c_impl_LeastShift {fu : Nat} {x0 : (List Int)} {x1 : (List Int)} {r : Int × Bool} (h : Is (p_impl_LeastShift fu x0 x1) (some r)) :
    Scalar Try.prog 55 [.v (.arr 6 (.int .i64)) x0, .v (.arr 6 (.int .i64)) x1] (.tup [.int .i64 r.1, .bool r.2]) := by
  unfold p_impl_LeastShift at h
  refine ac_enter ⟨28, 0⟩ Try.func55 rfl rfl rfl rfl rfl (fun Γ => ?_)
  refine aw_seq ?_
  refine aw_region ?_
  refine ao_eff trivial (e_box 0 rfl rfl rfl rfl rfl rfl) rfl ?_
  refine ao_eff trivial (e_box 1 rfl rfl rfl rfl rfl rfl) rfl ?_
  refine ao_read trivial (r_assign rfl) rfl ?_
  refine ao_read trivial (r_assign rfl) rfl ?_
  refine ao_nil ?_
  refine aq_then ?_
  refine aw_seq ?_
  refine aw_seq ?_
  refine aw_region ?_
  refine ao_read trivial (r_load_arr rfl Try.isAgg60 Try.sizeOf60 rfl rfl rfl) rfl ?_
  refine ao_scall trivial (scall (c_impl_IsDie (is_mk (rfl : p_impl_IsDie x0 = _))) rfl Try.func50 rfl rfl rfl rfl (fun σ => ⟨ad_ren rfl, trivial⟩)) rfl ?_
  refine ao_read trivial (r_not rfl) rfl ?_
  refine ao_read trivial (r_move rfl) rfl ?_
  refine ao_readG (x := .v (.arr 6 (.int .i64)) x1) rfl (GV.F rfl) (fun hg1 => r_load_arr rfl Try.isAgg60 Try.sizeOf60 rfl rfl rfl) rfl ?_
  refine ao_scallG (r := .bool (p_impl_IsDie x1)) rfl (GV.F rfl) (fun hg2 => SCall.strip 11 rfl (hg2) (scall (c_impl_IsDie (is_mk (rfl : p_impl_IsDie x1 = _))) rfl Try.func50 rfl rfl rfl rfl (fun σ => ⟨ad_ren rfl, trivial⟩))) rfl ?_
  refine ao_readG (x := .bool (!(p_impl_IsDie x1))) rfl (GV.F rfl) (fun hg3 => Reads.strip 12 rfl (hg3) (r_not rfl)) rfl ?_
  refine ao_read trivial (r_orB rfl rfl) rfl ?_
  refine ao_nil ?_
  refine aq_then ?_
  refine aw_cond rfl (fun hb4 => ?_) (fun hb4 => ?_)
  · replace h := is_if hb4 h
    refine aw_seq ?_
    refine aw_region ?_
    refine ao_read trivial (r_assign rfl) rfl ?_
    refine ao_read trivial (r_assign rfl) rfl ?_
    refine ao_nil ?_
    refine aq_then ?_
    refine aw_ret ?_
    refine aq_then_ret ?_
    refine aq_ret ?_
    obtain rfl := is_some h
    exact aq_finx (l := [.tmp 4, .tmp 5]) (xs := [.int .i64 0, .bool false]) idn [.int .i64 0, .bool false] [] rfl (by exact ⟨rfl, rfl, trivial⟩) (by exact ⟨ad_ren rfl, ad_ren rfl, trivial⟩) (by exact trivial) rfl (nk rfl) rfl rfl ⟨rfl, rfl⟩
  · obtain ⟨q5, q6⟩ := or_f hb4
    replace h := is_else (ne_t hb4) h
    refine aw_skip ?_
    refine aq_then ?_
    refine aw_seq ?_
    refine aw_seq ?_
    refine aw_region ?_
    refine ao_read trivial (r_assign rfl) rfl ?_
    refine ao_nil ?_
    refine aq_then ?_
    refine aw_block ?_
    refine aw_loop (AL.sub (sub_mk idn (by exact ⟨⟨_, rfl, ad_ren rfl⟩, ⟨_, rfl, ad_ren rfl⟩, ⟨_, rfl, ad_ren rfl⟩, trivial⟩) (by exact ⟨⟨_, rfl, ⟨rfl, trivial⟩⟩, ⟨_, rfl, ⟨rfl, trivial⟩⟩, trivial⟩) (by rfl) (nk rfl)) (al_whl (fun (s7 : Int) => [(2, .ref 0 0), (3, .ref 1 0), (6, .int .i64 s7)]) (fun (s7 : Int) => [(0, .var [.arr (.int .i64) 6 x0]), (1, .var [.arr (.int .i64) 6 x1])]) (fun (s7 : Int) => True) h trivial (fun d9 s7 hI h ih9 => ?_)))
    replace h := is_whlS h
    refine al_round ?_
    refine aw_seq ?_
    refine aw_seq ?_
    refine aw_region ?_
    refine ao_read trivial (r_load_arr rfl Try.isAgg60 Try.sizeOf60 rfl rfl rfl) rfl ?_
    refine ao_read trivial (r_move rfl) rfl ?_
    refine ao_scall trivial (scall (c_impl_shifted (is_mk (rfl : p_impl_shifted x0 s7 = _))) rfl Try.func130 rfl rfl rfl rfl (fun σ => ⟨ad_ren rfl, ad_ren rfl, trivial⟩)) rfl ?_
    refine ao_scall trivial (scall (c_impl_IsDie (is_mk (rfl : p_impl_IsDie (p_impl_shifted x0 s7) = _))) rfl Try.func50 rfl rfl rfl rfl (fun σ => ⟨ad_ren rfl, trivial⟩)) rfl ?_
    refine ao_nil ?_
    refine aq_then ?_
    refine aw_cond rfl (fun hb11 => ?_) (fun hb11 => ?_)
    · replace h := is_if hb11 h
      refine aw_skip ?_
      refine aq_then ?_
      refine aw_seq ?_
      refine aw_block ?_
      refine aw_seq ?_
      obtain ⟨r12, r12h, h⟩ := is_bind h
      refine aw_drawAll (by kernel_rfl) ?_
      refine an_read 0 (by kernel_rfl) (fun _ _ _ h => h) rfl (by kernel_rfl) trivial (r_load_arr rfl Try.isAgg60 Try.sizeOf60 rfl rfl rfl) rfl ?_
      refine an_read 1 (by kernel_rfl) (fun _ _ _ h => h) rfl (by kernel_rfl) trivial (r_move rfl) rfl ?_
      refine an_scall 2 (by kernel_rfl) (fun _ _ _ h => h) rfl (by kernel_rfl) trivial (scall (c_impl_shifted (is_mk (rfl : p_impl_shifted x0 s7 = _))) rfl Try.func130 rfl rfl rfl rfl (fun σ => ⟨ad_ren rfl, ad_ren rfl, trivial⟩)) rfl ?_
      refine an_read 3 (by kernel_rfl) (fun _ _ _ h => h) rfl (by kernel_rfl) trivial (r_load_arr rfl Try.isAgg60 Try.sizeOf60 rfl rfl rfl) rfl ?_
      refine an_scall 4 (by kernel_rfl) (fun _ _ _ h => h) rfl (by kernel_rfl) trivial (scall (c_impl_beats (is_mk r12h)) rfl Try.func128 rfl rfl rfl rfl (fun σ => ⟨ad_ren rfl, ad_ren rfl, trivial⟩)) rfl ?_
      refine an_read 5 (by kernel_rfl) (fun _ _ _ h => h) rfl (by kernel_rfl) trivial (r_gtr rfl rfl) rfl ?_
      refine an_done rfl ?_
      refine aq_then ?_
      refine aw_cond rfl (fun hb13 => ?_) (fun hb13 => ?_)
      · have q14 := d_t hb13
        replace h := is_if (d_t hb13) h
        refine aw_seq ?_
        refine aw_region ?_
        refine ao_read trivial (r_move rfl) rfl ?_
        refine ao_read trivial (r_assign rfl) rfl ?_
        refine ao_read trivial (r_assign rfl) rfl ?_
        refine ao_nil ?_
        refine aq_then ?_
        refine aw_ret ?_
        refine aq_in_ret ?_
        refine aq_then_ret ?_
        refine aq_then_ret ?_
        refine aq_in_ret ?_
        refine aq_then_ret ?_
        refine aq_ret ?_
        obtain rfl := is_some h
        exact aq_finx (l := [.tmp 4, .tmp 5]) (xs := [.int .i64 s7, .bool true]) idn [.int .i64 s7, .bool true] [] rfl (by exact ⟨rfl, rfl, trivial⟩) (by exact ⟨ad_ren rfl, ad_ren rfl, trivial⟩) (by exact trivial) rfl (nk rfl) rfl rfl ⟨rfl, rfl⟩
      · have q15 := d_f hb13
        replace h := is_else (d_f hb13) h
        refine aw_skip ?_
        refine aq_in ?_
        refine aq_then ?_
        refine aw_region ?_
        refine ao_read trivial (r_move rfl) rfl ?_
        refine ao_read trivial (r_add rfl rfl) rfl ?_
        refine ao_read trivial (r_assign rfl) rfl ?_
        refine ao_nil ?_
        exact aq_again (AL.sub (sub_mk idn (by exact ⟨⟨_, rfl, ad_ren rfl⟩, ⟨_, rfl, ad_ren rfl⟩, ⟨_, rfl, ad_ren rfl⟩, trivial⟩) (by exact ⟨⟨_, rfl, ⟨rfl, trivial⟩⟩, ⟨_, rfl, ⟨rfl, trivial⟩⟩, trivial⟩) (by rfl) (nk rfl)) (ih9 (IntKind.wrap .i64 (s7 + 1)) trivial h))
    · replace h := is_else (ne_t hb11) h
      refine aw_exit ?_
      refine aq_then_exit ?_
      refine aq_then_exit ?_
      refine aq_in_exit ?_
      refine aq_then ?_
      refine aw_seq ?_
      refine aw_region ?_
      refine ao_read trivial (r_assign rfl) rfl ?_
      refine ao_read trivial (r_assign rfl) rfl ?_
      refine ao_nil ?_
      refine aq_then ?_
      refine aw_ret ?_
      refine aq_ret ?_
      obtain rfl := is_some h
      exact aq_finx (l := [.tmp 4, .tmp 5]) (xs := [.int .i64 0, .bool false]) idn [.int .i64 0, .bool false] [] rfl (by exact ⟨rfl, rfl, trivial⟩) (by exact ⟨ad_ren rfl, ad_ren rfl, trivial⟩) (by exact trivial) rfl (nk rfl) rfl rfl ⟨rfl, rfl⟩
theorem c_spec_LeastShift {fu : Nat} {x0 : (List Int)} {x1 : (List Int)} {r : Int × Bool} (h : Is (p_spec_LeastShift fu x0 x1) (some r)) :
    Scalar Try.prog 56 [.v (.arr 6 (.int .i64)) x0, .v (.arr 6 (.int .i64)) x1] (.tup [.int .i64 r.1, .bool r.2]) := by
  unfold p_spec_LeastShift at h
  refine ac_enter ⟨40, 0⟩ Try.func56 rfl rfl rfl rfl rfl (fun Γ => ?_)
  refine aw_seq ?_
  refine aw_region ?_
  refine ao_eff trivial (e_box 0 rfl rfl rfl rfl rfl rfl) rfl ?_
  refine ao_eff trivial (e_box 1 rfl rfl rfl rfl rfl rfl) rfl ?_
  refine ao_read trivial (r_assign rfl) rfl ?_
  refine ao_read trivial (r_assign rfl) rfl ?_
  refine ao_nil ?_
  refine aq_then ?_
  refine aw_seq ?_
  refine aw_seq ?_
  refine aw_region ?_
  refine ao_read trivial (r_load_arr rfl Try.isAgg60 Try.sizeOf60 rfl rfl rfl) rfl ?_
  obtain ⟨r1, r1h, h⟩ := is_bind h
  refine ao_scall trivial (scall (c_spec_l2Die (is_mk r1h)) rfl Try.func124 rfl rfl rfl rfl (fun σ => ⟨ad_ren rfl, trivial⟩)) rfl ?_
  refine ao_read trivial (r_not rfl) rfl ?_
  refine ao_read trivial (r_move rfl) rfl ?_
  refine ao_readG (x := .v (.arr 6 (.int .i64)) x1) rfl (GV.F rfl) (fun hg2 => r_load_arr rfl Try.isAgg60 Try.sizeOf60 rfl rfl rfl) rfl ?_
  obtain ⟨g4, h⟩ := is_guard h
  refine ao_scallG (r := .bool ((p_spec_l2Die x1).getD false)) rfl (GV.F rfl) (fun hg3 => SCall.strip 13 rfl (hg3) (scall (c_spec_l2Die (is_mk (isSome_getD (g4 hg3)))) rfl Try.func124 rfl rfl rfl rfl (fun σ => ⟨ad_ren rfl, trivial⟩))) rfl ?_
  refine ao_readG (x := .bool (!((p_spec_l2Die x1).getD false))) rfl (GV.F rfl) (fun hg5 => Reads.strip 14 rfl (hg5) (r_not rfl)) rfl ?_
  refine ao_read trivial (r_orB rfl rfl) rfl ?_
  refine ao_nil ?_
  refine aq_then ?_
  refine aw_cond rfl (fun hb6 => ?_) (fun hb6 => ?_)
  · replace h := is_if hb6 h
    refine aw_seq ?_
    refine aw_region ?_
    refine ao_read trivial (r_assign rfl) rfl ?_
    refine ao_read trivial (r_assign rfl) rfl ?_
    refine ao_nil ?_
    refine aq_then ?_
    refine aw_ret ?_
    refine aq_then_ret ?_
    refine aq_ret ?_
    obtain rfl := is_some h
    exact aq_finx (l := [.tmp 4, .tmp 5]) (xs := [.int .i64 0, .bool false]) idn [.int .i64 0, .bool false] [] rfl (by exact ⟨rfl, rfl, trivial⟩) (by exact ⟨ad_ren rfl, ad_ren rfl, trivial⟩) (by exact trivial) rfl (nk rfl) rfl rfl ⟨rfl, rfl⟩
  · obtain ⟨q7, q8⟩ := or_f hb6
    replace h := is_else (ne_t hb6) h
    refine aw_skip ?_
    refine aq_then ?_
    refine aw_seq ?_
    refine aw_seq ?_
    refine aw_region ?_
    refine ao_read trivial (r_assign rfl) rfl ?_
    refine ao_nil ?_
    refine aq_then ?_
    refine aw_block ?_
    refine aw_loop (AL.sub (sub_mk idn (by exact ⟨⟨_, rfl, ad_ren rfl⟩, ⟨_, rfl, ad_ren rfl⟩, ⟨_, rfl, ad_ren rfl⟩, trivial⟩) (by exact ⟨⟨_, rfl, ⟨rfl, trivial⟩⟩, ⟨_, rfl, ⟨rfl, trivial⟩⟩, trivial⟩) (by rfl) (nk rfl)) (al_whl (fun (s9 : Int) => [(2, .ref 0 0), (3, .ref 1 0), (6, .int .i64 s9)]) (fun (s9 : Int) => [(0, .var [.arr (.int .i64) 6 x0]), (1, .var [.arr (.int .i64) 6 x1])]) (fun (s9 : Int) => True) h trivial (fun d11 s9 hI h ih11 => ?_)))
    replace h := is_whlS h
    refine al_round ?_
    refine aw_seq ?_
    refine aw_seq ?_
    refine aw_region ?_
    refine ao_read trivial (r_idxAddr_arr (i := 5) Try.underlying60 Try.sizeOf3 rfl rfl (show 0 ≤ 5 from by omega) (show 5 < (6 : Int) from by omega)) rfl ?_
    refine ao_read trivial (r_load_elema_int Try.isAgg3 Try.sizeOf3 rfl rfl rfl (show 5 < 6 from by omega)) rfl ?_
    refine ao_read trivial (r_move rfl) rfl ?_
    refine ao_read trivial (r_add rfl rfl) rfl ?_
    refine ao_read trivial (r_leq rfl rfl) rfl ?_
    refine ao_nil ?_
    refine aq_then ?_
    refine aw_cond rfl (fun hb13 => ?_) (fun hb13 => ?_)
    · have q14 : (IntKind.wrap .i64 ((x0.getD 5 0) + s9)) ≤ 30 := d_t hb13
      replace h := is_if (d_t hb13) h
      refine aw_skip ?_
      refine aq_then ?_
      refine aw_seq ?_
      refine aw_block ?_
      refine aw_seq ?_
      refine aw_region ?_
      refine ao_read trivial (r_load_arr rfl Try.isAgg60 Try.sizeOf60 rfl rfl rfl) rfl ?_
      refine ao_eff trivial (e_alloc 2 (y := .v (.arr 6 (.int .i64)) ((List.replicate 6 0) : (List Int))) Try.zeroValue60 (fun ρ h M => ra_zero_arr (t := (.int .i64)) rfl) rfl rfl rfl rfl rfl) rfl ?_
      refine ao_effS trivial (e_store rfl rfl rfl rfl Try.sizeOf60 rfl) ?_
      refine ao_nil ?_
      refine aq_then ?_
      refine aw_seq ?_
      refine aw_seq ?_
      refine aw_region ?_
      refine ao_read trivial (r_assign rfl) rfl ?_
      refine ao_nil ?_
      refine aq_then ?_
      refine aw_block ?_
      refine aw_loop (AL.sub (fr' := [(2, .ref 0 0), (3, .ref 1 0), (6, .int .i64 s9), (7, .ref 2 0), (8, .int .i64 0)]) (H' := [(0, .var [.arr (.int .i64) 6 x0]), (1, .var [.arr (.int .i64) 6 x1]), (2, .var [.arr (.int .i64) 6 x0])]) (sub_mk idn (by exact ⟨⟨_, rfl, ad_ren rfl⟩, ⟨_, rfl, ad_ren rfl⟩, ⟨_, rfl, ad_ren rfl⟩, ⟨_, rfl, ad_ren rfl⟩, ⟨_, rfl, ad_ren rfl⟩, trivial⟩) (by exact ⟨⟨_, rfl, ⟨rfl, trivial⟩⟩, ⟨_, rfl, ⟨rfl, trivial⟩⟩, ⟨_, rfl, ⟨rfl, trivial⟩⟩, trivial⟩) (by rfl) (nk rfl)) (al_cnt (fun i17 (s16 : (List Int)) => [(2, .ref 0 0), (3, .ref 1 0), (6, .int .i64 s9), (7, .ref 2 0), (8, .int .i64 i17)]) (fun i17 (s16 : (List Int)) => [(0, .var [.arr (.int .i64) 6 x0]), (1, .var [.arr (.int .i64) 6 x1]), (2, .var [.arr (.int .i64) 6 s16])]) (fun d i17 (s16 : (List Int)) => d = Int.toNat (6 - i17) ∧ 0 ≤ i17 ∧ (s16.length : Int) = (x0.length : Int) ∧ i17 ≤ 6) h ⟨rfl, (by (try simp only [List.length_set, List.length_append, List.length_cons, List.length_nil, List.length_replicate, List.length_take, List.length_drop]) <;> omega), (by (try simp only [List.length_set, List.length_append, List.length_cons, List.length_nil, List.length_replicate, List.length_take, List.length_drop]) <;> omega), (by (try simp only [List.length_set, List.length_append, List.length_cons, List.length_nil, List.length_replicate, List.length_take, List.length_drop]) <;> omega)⟩ (fun d18 i17 s16 hI h ih18 => ?_)))
      obtain ⟨hd, _, _, _⟩ := hI
      refine al_round ?_
      refine aw_seq ?_
      refine aw_seq ?_
      refine aw_region ?_
      refine ao_read trivial (r_move rfl) rfl ?_
      refine ao_read trivial (r_lss rfl rfl) rfl ?_
      refine ao_nil ?_
      refine aq_then ?_
      refine aw_cond rfl (fun hb20 => ?_) (fun hb20 => ?_)
      · have q21 := d_t hb20
        obtain ⟨d18, rfl⟩ : ∃ e, d18 = e + 1 := ⟨d18 - 1, by omega⟩
        replace h := is_cntS h
        refine aw_skip ?_
        refine aq_then ?_
        refine aw_seq ?_
        refine aw_block ?_
        refine aw_region ?_
        refine ao_read trivial (r_move rfl) rfl ?_
        refine ao_read trivial (r_move rfl) rfl ?_
        refine ao_read trivial (r_idxAddr_arr (i := i17) Try.underlying60 Try.sizeOf3 rfl rfl (show 0 ≤ i17 from by omega) (show i17 < (6 : Int) from by omega)) rfl ?_
        refine ao_read trivial (r_load_elema_int Try.isAgg3 Try.sizeOf3 rfl rfl rfl (show i17.toNat < 6 from by omega)) rfl ?_
        refine ao_read trivial (r_move rfl) rfl ?_
        refine ao_read trivial (r_add rfl rfl) rfl ?_
        refine ao_read trivial (r_idxAddr_arr (i := i17) Try.underlying60 Try.sizeOf3 rfl rfl (show 0 ≤ i17 from by omega) (show i17 < (6 : Int) from by omega)) rfl ?_
        refine ao_effS trivial (e_store_elema_int Try.sizeOf3 rfl rfl rfl rfl (show i17.toNat < 6 from by omega) rfl) ?_
        refine ao_nil ?_
        refine aq_in ?_
        refine aq_then ?_
        refine aw_region ?_
        refine ao_read trivial (r_move rfl) rfl ?_
        refine ao_read trivial (r_addI rfl rfl (wrap_id (by omega) (by omega))) rfl ?_
        refine ao_read trivial (r_assign rfl) rfl ?_
        refine ao_nil ?_
        exact aq_again (AL.sub (sub_mk idn (by exact ⟨⟨_, rfl, ad_ren rfl⟩, ⟨_, rfl, ad_ren rfl⟩, ⟨_, rfl, ad_ren rfl⟩, ⟨_, rfl, ad_ren rfl⟩, ⟨_, rfl, ad_ren rfl⟩, trivial⟩) (by exact ⟨⟨_, rfl, ⟨rfl, trivial⟩⟩, ⟨_, rfl, ⟨rfl, trivial⟩⟩, ⟨_, rfl, ⟨rfl, trivial⟩⟩, trivial⟩) (by rfl) (nk rfl)) (ih18 d18 (i17 + 1) (s16.set i17.toNat (IntKind.wrap .i64 ((x0.getD i17.toNat 0) + s9))) (by omega) ⟨by omega, (by (try simp only [List.length_set, List.length_append, List.length_cons, List.length_nil, List.length_replicate, List.length_take, List.length_drop]) <;> omega), (by (try simp only [List.length_set, List.length_append, List.length_cons, List.length_nil, List.length_replicate, List.length_take, List.length_drop]) <;> omega), (by (try simp only [List.length_set, List.length_append, List.length_cons, List.length_nil, List.length_replicate, List.length_take, List.length_drop]) <;> omega)⟩ h))
      · have q22 := d_f hb20
        obtain rfl : d18 = 0 := by omega
        replace h := is_cnt0 h
        refine aw_exit ?_
        refine aq_then_exit ?_
        refine aq_then_exit ?_
        refine aq_in_exit ?_
        refine aq_then ?_
        refine aw_seq ?_
        refine aw_region ?_
        refine ao_read trivial (r_load_arr rfl Try.isAgg60 Try.sizeOf60 rfl rfl rfl) rfl ?_
        refine ao_read trivial (r_load_arr rfl Try.isAgg60 Try.sizeOf60 rfl rfl rfl) rfl ?_
        refine ao_scall trivial (scall (c_spec_l3Beats (is_mk (rfl : p_spec_l3Beats s16 x1 = _))) rfl Try.func129 rfl rfl rfl rfl (fun σ => ⟨ad_ren rfl, ad_ren rfl, trivial⟩)) rfl ?_
        refine ao_nil ?_
        refine aq_then ?_
        refine aw_cond rfl (fun hb23 => ?_) (fun hb23 => ?_)
        · replace h := is_if hb23 h
          refine aw_seq ?_
          refine aw_region ?_
          refine ao_read trivial (r_move rfl) rfl ?_
          refine ao_read trivial (r_assign rfl) rfl ?_
          refine ao_read trivial (r_assign rfl) rfl ?_
          refine ao_nil ?_
          refine aq_then ?_
          refine aw_ret ?_
          refine aq_in_ret ?_
          refine aq_then_ret ?_
          refine aq_then_ret ?_
          refine aq_in_ret ?_
          refine aq_then_ret ?_
          refine aq_ret ?_
          obtain rfl := is_some h
          exact aq_finx (l := [.tmp 4, .tmp 5]) (xs := [.int .i64 s9, .bool true]) idn [.int .i64 s9, .bool true] [] rfl (by exact ⟨rfl, rfl, trivial⟩) (by exact ⟨ad_ren rfl, ad_ren rfl, trivial⟩) (by exact trivial) rfl (nk rfl) rfl rfl ⟨rfl, rfl⟩
        · replace h := is_else (ne_t hb23) h
          refine aw_skip ?_
          refine aq_in ?_
          refine aq_then ?_
          refine aw_region ?_
          refine ao_read trivial (r_move rfl) rfl ?_
          refine ao_read trivial (r_add rfl rfl) rfl ?_
          refine ao_read trivial (r_assign rfl) rfl ?_
          refine ao_nil ?_
          exact aq_again (AL.sub (sub_mk idn (by exact ⟨⟨_, rfl, ad_ren rfl⟩, ⟨_, rfl, ad_ren rfl⟩, ⟨_, rfl, ad_ren rfl⟩, trivial⟩) (by exact ⟨⟨_, rfl, ⟨rfl, trivial⟩⟩, ⟨_, rfl, ⟨rfl, trivial⟩⟩, trivial⟩) (by rfl) (nk rfl)) (ih11 (IntKind.wrap .i64 (s9 + 1)) trivial h))
    · have q15 : ¬ ((IntKind.wrap .i64 ((x0.getD 5 0) + s9)) ≤ 30) := d_f hb13
      replace h := is_else (d_f hb13) h
      refine aw_exit ?_
      refine aq_then_exit ?_
      refine aq_then_exit ?_
      refine aq_in_exit ?_
      refine aq_then ?_
      refine aw_seq ?_
      refine aw_region ?_
      refine ao_read trivial (r_assign rfl) rfl ?_
      refine ao_read trivial (r_assign rfl) rfl ?_
      refine ao_nil ?_
      refine aq_then ?_
      refine aw_ret ?_
      refine aq_ret ?_
      obtain rfl := is_some h
      exact aq_finx (l := [.tmp 4, .tmp 5]) (xs := [.int .i64 0, .bool false]) idn [.int .i64 0, .bool false] [] rfl (by exact ⟨rfl, rfl, trivial⟩) (by exact ⟨ad_ren rfl, ad_ren rfl, trivial⟩) (by exact trivial) rfl (nk rfl) rfl rfl ⟨rfl, rfl⟩
theorem c_spec_l1Cur_pool {fu : Nat} {x0 : (List Int)} {x1 : Int} {x2 : Int} {r : (List (List Int)) × Int × Int} (h : Is (p_spec_l1Cur_pool fu x0 x1 x2) (some r)) :
    ACallsV Try.prog 113 [.ref 0 0] [(0, .var [.cell (.v (.slice (.int .u8)) x0), .cell (.int .i64 x1), .cell (.int .u64 x2)])] (fun r' H' => r' = .os 1 ∧ H' = [(0, .var [.cell (.v (.slice (.int .u8)) x0), .cell (.int .i64 r.2.1), .cell (.int .u64 r.2.2)]), (1, .row (.arr 6 (.int .i64)) r.1)]) := by
  unfold p_spec_l1Cur_pool at h
  refine ac_enterV ⟨47, 1⟩ Try.func113 rfl rfl rfl rfl rfl (fun Γ => ?_)
  refine aw_seq ?_
  refine aw_region ?_
  refine ao_read trivial (r_assign rfl) rfl ?_
  refine ao_nil ?_
  refine aq_then ?_
  refine aw_seq ?_
  refine aw_region ?_
  refine ao_eff trivial (e_buildSlice (l := []) (t := (.arr 6 (.int .i64))) 1 ([] : (List (List Int))) rfl Try.underlying54 Try.zeroValue60 Try.sizeOf60 rfl rfl rfl rfl rfl rfl rfl) rfl ?_
  refine ao_read trivial (r_assign rfl) rfl ?_
  refine ao_nil ?_
  refine aq_then ?_
  refine aw_seq ?_
  refine aw_seq ?_
  refine aw_region ?_
  refine ao_read trivial (r_move rfl) rfl ?_
  refine ao_eff trivial (e_buildSlice (l := [(0, .const (.int .i64 2)), (1, .const (.int .i64 3)), (2, .const (.int .i64 1)), (3, .const (.int .i64 2)), (4, .const (.int .i64 4))]) (t := (.int .i64)) 2 ([2, 3, 1, 2, 4] : (List Int)) rfl Try.underlying24 Try.zeroValue3 Try.sizeOf3 rfl rfl rfl rfl rfl rfl rfl) rfl ?_
  obtain ⟨r1, r1h, h⟩ := is_bind h
  refine ao_frz (fr' := [(0, .ref 0 0), (2, .nilsl), (6, .os 1), (3, .os 1), (7, .ref 0 0), (8, .v (.slice (.int .i64)) ([2, 3, 1, 2, 4] : (List Int)))]) (H' := [(1, .row (.arr 6 (.int .i64)) ([] : (List (List Int)))), (0, .var [.cell (.v (.slice (.int .u8)) x0), .cell (.int .i64 x1), .cell (.int .u64 x2)])]) (by exact ⟨⟨_, rfl, ad_ren rfl⟩, ⟨_, rfl, ad_ren rfl⟩, ⟨_, rfl, ad_ren rfl⟩, ⟨_, rfl, ad_ren rfl⟩, ⟨_, rfl, ad_ren rfl⟩, ⟨_, rfl, ad_osB rfl rfl⟩, trivial⟩) (by exact ⟨⟨_, rfl, rfl⟩, ⟨_, rfl, ⟨ad_ren rfl, rfl, ad_ren rfl, rfl, ad_ren rfl, rfl, trivial⟩⟩, trivial⟩) rfl ?_
  refine ao_callV [0] 3 trivial (c_spec_l1Cur_among (is_mk r1h)) Try.func97 rfl rfl rfl rfl rfl ⟨rfl, trivial⟩ ⟨⟨_, rfl, ⟨ad_ren rfl, rfl, ad_ren rfl, rfl, ad_ren rfl, rfl, trivial⟩⟩, trivial⟩ rfl rfl rfl rfl rfl rfl rfl (fun r' H' hr => ?_)
  obtain ⟨rfl, rfl⟩ := hr
  refine ao_norm (y := .int .i64 r1.1) (H' := [(1, .row (.arr 6 (.int .i64)) ([] : (List (List Int)))), (0, .var [.cell (.v (.slice (.int .u8)) x0), .cell (.int .i64 r1.2.1), .cell (.int .u64 r1.2.2)])]) rfl rfl ?_
  refine ao_read trivial (r_assign rfl) rfl ?_
  refine ao_nil ?_
  refine aq_then ?_
  refine aw_block ?_
  refine aw_loop (AL.sub (sub_mk idn (by exact ⟨⟨_, rfl, ad_ren rfl⟩, ⟨_, rfl, ad_ren rfl⟩, ⟨_, rfl, ad_ren rfl⟩, trivial⟩) (by exact ⟨⟨_, rfl, ⟨ad_ren rfl, rfl, ad_ren rfl, rfl, ad_ren rfl, rfl, trivial⟩⟩, ⟨_, rfl, rfl⟩, trivial⟩) (by rfl) (nk1 rfl rfl)) (al_whl (fun (s2 : Int × Int × Int × (List (List Int))) => [(0, .ref 0 0), (3, .os 1), (4, .int .i64 s2.1)]) (fun (s2 : Int × Int × Int × (List (List Int))) => [(0, .var [.cell (.v (.slice (.int .u8)) x0), .cell (.int .i64 s2.2.1), .cell (.int .u64 s2.2.2.1)]), (1, .row (.arr 6 (.int .i64)) s2.2.2.2)]) (fun (s2 : Int × Int × Int × (List (List Int))) => True) h trivial (fun d4 s2 hI h ih4 => ?_)))
  replace h := is_whlS h
  refine al_round ?_
  refine aw_seq ?_
  refine aw_seq ?_
  refine aw_region ?_
  refine ao_read trivial (r_move rfl) rfl ?_
  refine ao_read trivial (r_gtr rfl rfl) rfl ?_
  refine ao_nil ?_
  refine aq_then ?_
  refine aw_cond rfl (fun hb6 => ?_) (fun hb6 => ?_)
  · have q7 := d_t hb6
    replace h := is_if (d_t hb6) h
    refine aw_skip ?_
    refine aq_then ?_
    refine aw_seq ?_
    refine aw_block ?_
    refine aw_seq ?_
    refine aw_region ?_
    refine ao_read trivial (r_move rfl) rfl ?_
    obtain ⟨r9, r9h, h⟩ := is_bind h
    refine ao_callV [0] 2 trivial (c_spec_l1Cur_die (is_mk r9h)) Try.func121 rfl rfl rfl rfl rfl ⟨rfl, trivial⟩ ⟨⟨_, rfl, ⟨ad_ren rfl, rfl, ad_ren rfl, rfl, ad_ren rfl, rfl, trivial⟩⟩, trivial⟩ rfl rfl rfl rfl rfl rfl rfl (fun r' H' hr => ?_)
    obtain ⟨rfl, rfl⟩ := hr
    refine ao_norm (y := .v (.arr 6 (.int .i64)) r9.1) (H' := [(1, .row (.arr 6 (.int .i64)) s2.2.2.2), (0, .var [.cell (.v (.slice (.int .u8)) x0), .cell (.int .i64 r9.2.1), .cell (.int .u64 r9.2.2)])]) rfl rfl ?_
    refine ao_eff trivial (e_alloc 2 (y := .v (.arr 6 (.int .i64)) ((List.replicate 6 0) : (List Int))) Try.zeroValue60 (fun ρ h M => ra_zero_arr (t := (.int .i64)) rfl) rfl rfl rfl rfl rfl) rfl ?_
    refine ao_effS trivial (e_store rfl rfl rfl rfl Try.sizeOf60 rfl) ?_
    refine ao_nil ?_
    refine aq_then ?_
    refine aw_seq ?_
    refine aw_seq ?_
    refine aw_region ?_
    refine ao_read trivial (r_move rfl) rfl ?_
    refine ao_read trivial (r_len_osm (s2.2.2.2.length : Int) Try.underlying54 rfl rfl rfl) rfl ?_
    refine ao_read trivial (r_gtr rfl rfl) rfl ?_
    refine ao_read trivial (r_move rfl) rfl ?_
    refine ao_split (decide (0 < (s2.2.2.2.length : Int))) (fun hb10 => ?_) (fun hb10 => ?_)
    · have q11 := d_t hb10
      replace h := is_if (d_t hb10) h
      refine ao_read (by exact ⟨_, _, rfl, rfl, hb10⟩) (r_move rfl) rfl ?_
      obtain ⟨r13, r13h, h⟩ := is_bind h
      refine ao_callV [0] 3 (by exact ⟨_, _, rfl, rfl, hb10⟩) (c_spec_l1Cur_one (is_mk r13h)) Try.func102 rfl rfl rfl rfl rfl ⟨rfl, trivial⟩ ⟨⟨_, rfl, ⟨ad_ren rfl, rfl, ad_ren rfl, rfl, ad_ren rfl, rfl, trivial⟩⟩, trivial⟩ rfl rfl rfl rfl rfl rfl rfl (fun r' H' hr => ?_)
      obtain ⟨rfl, rfl⟩ := hr
      refine ao_norm (y := .bool r13.1) (H' := [(2, .var [.arr (.int .i64) 6 r9.1]), (1, .row (.arr 6 (.int .i64)) s2.2.2.2), (0, .var [.cell (.v (.slice (.int .u8)) x0), .cell (.int .i64 r13.2.1), .cell (.int .u64 r13.2.2)])]) rfl rfl ?_
      refine ao_read trivial (r_pickT rfl hb10 rfl) rfl ?_
      refine ao_nil ?_
      refine aq_then ?_
      refine aw_cond rfl (fun hb14 => ?_) (fun hb14 => ?_)
      · replace h := is_if hb14 h
        refine aw_region ?_
        refine ao_read trivial (r_move rfl) rfl ?_
        refine ao_read trivial (r_idxAddr_os Try.underlying54 Try.sizeOf60 rfl rfl rfl (show 0 ≤ 0 from by omega) (show 0 < (s2.2.2.2.length : Int) from by omega)) rfl ?_
        refine ao_read trivial (r_load_elemv (t := (.arr 6 (.int .i64))) Try.isAgg60 Try.sizeOf60 rfl rfl (show 0 < s2.2.2.2.length from by omega)) rfl ?_
        refine ao_effS trivial (e_store rfl rfl rfl rfl Try.sizeOf60 rfl) ?_
        refine ao_nil ?_
        refine aq_then ?_
        refine aw_region ?_
        refine ao_read trivial (r_move rfl) rfl ?_
        refine ao_read trivial (r_load_arr rfl Try.isAgg60 Try.sizeOf60 rfl rfl rfl) rfl ?_
        refine ao_eff trivial (e_buildSlice (l := [(0, .tmp 27)]) (t := (.arr 6 (.int .i64))) 3 ([(s2.2.2.2.getD 0 (List.replicate 6 0))] : (List (List Int))) rfl Try.underlying54 Try.zeroValue60 Try.sizeOf60 rfl rfl rfl rfl rfl rfl rfl) rfl ?_
        obtain ⟨g15, h⟩ := is_guard h
        refine ao_eff trivial (e_append (t := (.arr 6 (.int .i64))) 4 rfl Try.underlying54 (rfl : Try.prog.info? 60 = some _) rfl rfl rfl rfl rfl rfl rfl (src_os rfl) (show s2.2.2.2.length + ([(s2.2.2.2.getD 0 (List.replicate 6 0))] : (List (List Int))).length ≤ 1000000000 from by (try simp only [List.length_cons, List.length_nil, List.length_replicate]) <;> omega) rfl rfl) rfl ?_
        refine ao_read trivial (r_assign rfl) rfl ?_
        refine ao_nil ?_
        refine aq_in ?_
        refine aq_then ?_
        refine aw_region ?_
        refine ao_read trivial (r_move rfl) rfl ?_
        refine ao_read trivial (r_sub rfl rfl) rfl ?_
        refine ao_read trivial (r_assign rfl) rfl ?_
        refine ao_nil ?_
        exact aq_again (AL.sub (sub_mk (rn [(1, 4)]) (by exact ⟨⟨_, rfl, ad_ren rfl⟩, ⟨_, rfl, ad_ren rfl⟩, ⟨_, rfl, ad_ren rfl⟩, trivial⟩) (by exact ⟨⟨_, rfl, ⟨ad_ren rfl, rfl, ad_ren rfl, rfl, ad_ren rfl, rfl, trivial⟩⟩, ⟨_, rfl, rfl⟩, trivial⟩) (by rfl) (nk1 rfl rfl)) (ih4 ((IntKind.wrap .i64 (s2.1 - 1)), r13.2.1, r13.2.2, (s2.2.2.2 ++ [(s2.2.2.2.getD 0 (List.replicate 6 0))])) trivial h))
      · replace h := is_else (ne_t hb14) h
        refine aw_skip ?_
        refine aq_then ?_
        refine aw_region ?_
        refine ao_read trivial (r_move rfl) rfl ?_
        refine ao_read trivial (r_load_arr rfl Try.isAgg60 Try.sizeOf60 rfl rfl rfl) rfl ?_
        refine ao_eff trivial (e_buildSlice (l := [(0, .tmp 27)]) (t := (.arr 6 (.int .i64))) 5 ([r9.1] : (List (List Int))) rfl Try.underlying54 Try.zeroValue60 Try.sizeOf60 rfl rfl rfl rfl rfl rfl rfl) rfl ?_
        obtain ⟨g16, h⟩ := is_guard h
        refine ao_eff trivial (e_append (t := (.arr 6 (.int .i64))) 6 rfl Try.underlying54 (rfl : Try.prog.info? 60 = some _) rfl rfl rfl rfl rfl rfl rfl (src_os rfl) (show s2.2.2.2.length + ([r9.1] : (List (List Int))).length ≤ 1000000000 from by (try simp only [List.length_cons, List.length_nil]) <;> omega) rfl rfl) rfl ?_
        refine ao_read trivial (r_assign rfl) rfl ?_
        refine ao_nil ?_
        refine aq_in ?_
        refine aq_then ?_
        refine aw_region ?_
        refine ao_read trivial (r_move rfl) rfl ?_
        refine ao_read trivial (r_sub rfl rfl) rfl ?_
        refine ao_read trivial (r_assign rfl) rfl ?_
        refine ao_nil ?_
        exact aq_again (AL.sub (sub_mk (rn [(1, 6)]) (by exact ⟨⟨_, rfl, ad_ren rfl⟩, ⟨_, rfl, ad_ren rfl⟩, ⟨_, rfl, ad_ren rfl⟩, trivial⟩) (by exact ⟨⟨_, rfl, ⟨ad_ren rfl, rfl, ad_ren rfl, rfl, ad_ren rfl, rfl, trivial⟩⟩, ⟨_, rfl, rfl⟩, trivial⟩) (by rfl) (nk1 rfl rfl)) (ih4 ((IntKind.wrap .i64 (s2.1 - 1)), r13.2.1, r13.2.2, (s2.2.2.2 ++ [r9.1])) trivial h))
    · have q12 := d_f hb10
      replace h := is_else (d_f hb10) h
      refine ao_skipT 2 3 19 rfl rfl hb10 rfl rfl rfl ?_
      refine ao_read trivial (r_pickF rfl hb10 rfl) rfl ?_
      refine ao_nil ?_
      refine aq_then ?_
      refine aw_cond rfl (fun hb => by cases hb) (fun _ => ?_)
      refine aw_skip ?_
      refine aq_then ?_
      refine aw_region ?_
      refine ao_read trivial (r_move rfl) rfl ?_
      refine ao_read trivial (r_load_arr rfl Try.isAgg60 Try.sizeOf60 rfl rfl rfl) rfl ?_
      refine ao_eff trivial (e_buildSlice (l := [(0, .tmp 27)]) (t := (.arr 6 (.int .i64))) 3 ([r9.1] : (List (List Int))) rfl Try.underlying54 Try.zeroValue60 Try.sizeOf60 rfl rfl rfl rfl rfl rfl rfl) rfl ?_
      refine ao_eff trivial (e_append (t := (.arr 6 (.int .i64))) 4 rfl Try.underlying54 (rfl : Try.prog.info? 60 = some _) rfl rfl rfl rfl rfl rfl rfl (src_os rfl) (show s2.2.2.2.length + ([r9.1] : (List (List Int))).length ≤ 1000000000 from by (try simp only [List.length_cons, List.length_nil]) <;> omega) rfl rfl) rfl ?_
      refine ao_read trivial (r_assign rfl) rfl ?_
      refine ao_nil ?_
      refine aq_in ?_
      refine aq_then ?_
      refine aw_region ?_
      refine ao_read trivial (r_move rfl) rfl ?_
      refine ao_read trivial (r_sub rfl rfl) rfl ?_
      refine ao_read trivial (r_assign rfl) rfl ?_
      refine ao_nil ?_
      exact aq_again (AL.sub (sub_mk (rn [(1, 4)]) (by exact ⟨⟨_, rfl, ad_ren rfl⟩, ⟨_, rfl, ad_ren rfl⟩, ⟨_, rfl, ad_ren rfl⟩, trivial⟩) (by exact ⟨⟨_, rfl, ⟨ad_ren rfl, rfl, ad_ren rfl, rfl, ad_ren rfl, rfl, trivial⟩⟩, ⟨_, rfl, rfl⟩, trivial⟩) (by rfl) (nk1 rfl rfl)) (ih4 ((IntKind.wrap .i64 (s2.1 - 1)), r9.2.1, r9.2.2, (s2.2.2.2 ++ [r9.1])) trivial h))
  · have q8 := d_f hb6
    replace h := is_else (d_f hb6) h
    refine aw_exit ?_
    refine aq_then_exit ?_
    refine aq_then_exit ?_
    refine aq_in_exit ?_
    refine aq_then ?_
    refine aw_seq ?_
    refine aw_seq ?_
    refine aw_region ?_
    refine ao_read trivial (r_move rfl) rfl ?_
    obtain ⟨r17, r17h, h⟩ := is_bind h
    refine ao_callV [0] 5 trivial (c_spec_l1Cur_pick (is_mk r17h)) Try.func103 rfl rfl rfl rfl rfl ⟨rfl, trivial⟩ ⟨⟨_, rfl, ⟨ad_ren rfl, rfl, ad_ren rfl, rfl, ad_ren rfl, rfl, trivial⟩⟩, trivial⟩ rfl rfl rfl rfl rfl rfl rfl (fun r' H' hr => ?_)
    obtain ⟨rfl, rfl⟩ := hr
    refine ao_norm (y := .int .i64 r17.1) (H' := [(1, .row (.arr 6 (.int .i64)) s2.2.2.2), (0, .var [.cell (.v (.slice (.int .u8)) x0), .cell (.int .i64 r17.2.1), .cell (.int .u64 r17.2.2)])]) rfl rfl ?_
    refine ao_nil ?_
    refine aq_then ?_
    refine aw_block ?_
    refine aw_seq ?_
    refine aw_region ?_
    refine ao_read trivial (r_eql rfl rfl) rfl ?_
    refine ao_read trivial (r_assign rfl) rfl ?_
    refine ao_nil ?_
    refine aq_then ?_
    refine aw_cond rfl (fun hb18 => ?_) (fun hb18 => ?_)
    · have q19 := d_t hb18
      replace h := is_if (d_t hb18) h
      refine aw_seq ?_
      refine aw_region ?_
      refine ao_eff trivial (e_buildSlice (l := []) (t := (.arr 6 (.int .i64))) 5 ([] : (List (List Int))) rfl Try.underlying54 Try.zeroValue60 Try.sizeOf60 rfl rfl rfl rfl rfl rfl rfl) rfl ?_
      refine ao_read trivial (r_assign rfl) rfl ?_
      refine ao_nil ?_
      refine aq_then ?_
      refine aw_ret ?_
      refine aq_in_ret ?_
      refine aq_then_ret ?_
      refine aq_ret ?_
      obtain rfl := is_some h
      exact aq_finV (l := [.tmp 2]) (xs := [.os 5]) (rn [(1, 5)]) [.os 1] [(0, .var [.cell (.v (.slice (.int .u8)) x0), .cell (.int .i64 r17.2.1), .cell (.int .u64 r17.2.2)]), (1, .row (.arr 6 (.int .i64)) ([] : (List (List Int))))] rfl (by exact ⟨rfl, trivial⟩) (by exact ⟨ad_ren rfl, trivial⟩) (by exact ⟨⟨_, rfl, ⟨ad_ren rfl, rfl, ad_ren rfl, rfl, ad_ren rfl, rfl, trivial⟩⟩, ⟨_, rfl, rfl⟩, trivial⟩) rfl (nk1 rfl rfl) ⟨rfl, rfl⟩
    · have q20 := d_f hb18
      replace h := is_else (d_f hb18) h
      refine aw_seq ?_
      refine aw_region ?_
      refine ao_read trivial (r_eql rfl rfl) rfl ?_
      refine ao_read trivial (r_assign rfl) rfl ?_
      refine ao_nil ?_
      refine aq_then ?_
      refine aw_cond rfl (fun hb21 => ?_) (fun hb21 => ?_)
      · have q22 := d_t hb21
        replace h := is_if (d_t hb21) h
        refine aw_block ?_
        refine aw_loop (AL.sub (sub_mk idn (by exact ⟨⟨_, rfl, ad_ren rfl⟩, trivial⟩) (by exact ⟨⟨_, rfl, ⟨ad_ren rfl, rfl, ad_ren rfl, rfl, ad_ren rfl, rfl, trivial⟩⟩, ⟨_, rfl, rfl⟩, trivial⟩) (by rfl) (nk1 rfl rfl)) (al_whl (fun (s24 : (List (List Int))) => [(3, .os 1)]) (fun (s24 : (List (List Int))) => [(0, .var [.cell (.v (.slice (.int .u8)) x0), .cell (.int .i64 r17.2.1), .cell (.int .u64 r17.2.2)]), (1, .row (.arr 6 (.int .i64)) s24)]) (fun (s24 : (List (List Int))) => True) h trivial (fun d26 s24 hI h ih26 => ?_)))
        replace h := is_whlS h
        refine al_round ?_
        refine aw_seq ?_
        refine aw_seq ?_
        refine aw_region ?_
        refine ao_read trivial (r_move rfl) rfl ?_
        refine ao_read trivial (r_len_osm (s24.length : Int) Try.underlying54 rfl rfl rfl) rfl ?_
        refine ao_read trivial (r_lss rfl rfl) rfl ?_
        refine ao_nil ?_
        refine aq_then ?_
        refine aw_cond rfl (fun hb28 => ?_) (fun hb28 => ?_)
        · have q29 := d_t hb28
          replace h := is_if (d_t hb28) h
          refine aw_skip ?_
          refine aq_then ?_
          refine aw_block ?_
          refine aw_region ?_
          refine ao_read trivial (r_move rfl) rfl ?_
          refine ao_read trivial (r_move rfl) rfl ?_
          obtain ⟨g31, h⟩ := is_guard h
          refine ao_read trivial (r_idxAddr_os Try.underlying54 Try.sizeOf60 rfl rfl rfl (show 0 ≤ 0 from by omega) (show 0 < (s24.length : Int) from by omega)) rfl ?_
          refine ao_read trivial (r_load_elemv (t := (.arr 6 (.int .i64))) Try.isAgg60 Try.sizeOf60 rfl rfl (show 0 < s24.length from by omega)) rfl ?_
          refine ao_eff trivial (e_buildSlice (l := [(0, .tmp 43)]) (t := (.arr 6 (.int .i64))) 2 ([(s24.getD 0 (List.replicate 6 0))] : (List (List Int))) rfl Try.underlying54 Try.zeroValue60 Try.sizeOf60 rfl rfl rfl rfl rfl rfl rfl) rfl ?_
          refine ao_eff trivial (e_append (t := (.arr 6 (.int .i64))) 3 rfl Try.underlying54 (rfl : Try.prog.info? 60 = some _) rfl rfl rfl rfl rfl rfl rfl (src_os rfl) (show s24.length + ([(s24.getD 0 (List.replicate 6 0))] : (List (List Int))).length ≤ 1000000000 from by (try simp only [List.length_cons, List.length_nil, List.length_replicate]) <;> omega) rfl rfl) rfl ?_
          refine ao_read trivial (r_assign rfl) rfl ?_
          refine ao_nil ?_
          refine aq_in ?_
          exact aq_again (AL.sub (sub_mk (rn [(1, 3)]) (by exact ⟨⟨_, rfl, ad_ren rfl⟩, trivial⟩) (by exact ⟨⟨_, rfl, ⟨ad_ren rfl, rfl, ad_ren rfl, rfl, ad_ren rfl, rfl, trivial⟩⟩, ⟨_, rfl, rfl⟩, trivial⟩) (by rfl) (nk1 rfl rfl)) (ih26 (s24 ++ [(s24.getD 0 (List.replicate 6 0))]) trivial h))
        · have q30 := d_f hb28
          replace h := is_else (d_f hb28) h
          refine aw_exit ?_
          refine aq_then_exit ?_
          refine aq_then_exit ?_
          refine aq_in_exit ?_
          refine aq_in ?_
          refine aq_then ?_
          refine aw_seq ?_
          refine aw_region ?_
          refine ao_read trivial (r_move rfl) rfl ?_
          refine ao_read trivial (r_assign rfl) rfl ?_
          refine ao_nil ?_
          refine aq_then ?_
          refine aw_ret ?_
          refine aq_ret ?_
          obtain rfl := is_some h
          exact aq_finV (l := [.tmp 2]) (xs := [.os 1]) idn [.os 1] [(0, .var [.cell (.v (.slice (.int .u8)) x0), .cell (.int .i64 r17.2.1), .cell (.int .u64 r17.2.2)]), (1, .row (.arr 6 (.int .i64)) s24)] rfl (by exact ⟨rfl, trivial⟩) (by exact ⟨ad_ren rfl, trivial⟩) (by exact ⟨⟨_, rfl, ⟨ad_ren rfl, rfl, ad_ren rfl, rfl, ad_ren rfl, rfl, trivial⟩⟩, ⟨_, rfl, rfl⟩, trivial⟩) rfl (nk1 rfl rfl) ⟨rfl, rfl⟩
      · have q23 := d_f hb21
        replace h := is_else (d_f hb21) h
        refine aw_skip ?_
        refine aq_in ?_
        refine aq_then ?_
        refine aw_seq ?_
        refine aw_region ?_
        refine ao_read trivial (r_move rfl) rfl ?_
        refine ao_read trivial (r_assign rfl) rfl ?_
        refine ao_nil ?_
        refine aq_then ?_
        refine aw_ret ?_
        refine aq_ret ?_
        obtain rfl := is_some h
        exact aq_finV (l := [.tmp 2]) (xs := [.os 1]) idn [.os 1] [(0, .var [.cell (.v (.slice (.int .u8)) x0), .cell (.int .i64 r17.2.1), .cell (.int .u64 r17.2.2)]), (1, .row (.arr 6 (.int .i64)) s2.2.2.2)] rfl (by exact ⟨rfl, trivial⟩) (by exact ⟨ad_ren rfl, trivial⟩) (by exact ⟨⟨_, rfl, ⟨ad_ren rfl, rfl, ad_ren rfl, rfl, ad_ren rfl, rfl, trivial⟩⟩, ⟨_, rfl, rfl⟩, trivial⟩) rfl (nk1 rfl rfl) ⟨rfl, rfl⟩
theorem c_spec_l2Own {x0 : (List (List Int))} {r : (List (List Int))} (h : Is (p_spec_l2Own x0) (some r)) :
    ACalls Try.prog 131 [.v (.slice (.arr 6 (.int .i64))) x0] [] (fun r' H' => r' = .os 0 ∧ H' = [(0, .row (.arr 6 (.int .i64)) r)]) := by
  unfold p_spec_l2Own at h
  refine ac_enter ⟨6, 0⟩ Try.func131 rfl rfl rfl rfl rfl (fun Γ => ?_)
  refine sl_len_m 0 (x0.length : Int) rfl rfl (fun hl0 => ?_)
  refine aw_seq ?_
  refine aw_region ?_
  refine ao_read trivial (r_assign rfl) rfl ?_
  refine ao_nil ?_
  refine aq_then ?_
  refine aw_seq ?_
  refine aw_region ?_
  refine ao_eff trivial (e_buildSlice (l := []) (t := (.arr 6 (.int .i64))) 0 ([] : (List (List Int))) rfl Try.underlying54 Try.zeroValue60 Try.sizeOf60 rfl rfl rfl rfl rfl rfl rfl) rfl ?_
  refine ao_read trivial (r_move rfl) rfl ?_
  obtain ⟨g1, h⟩ := is_guard h
  refine ao_eff trivial (e_append (t := (.arr 6 (.int .i64))) 1 rfl Try.underlying54 (rfl : Try.prog.info? 60 = some _) rfl rfl rfl rfl rfl rfl rfl src_v (show [].length + x0.length ≤ 1000000000 from by (try simp only [List.length_cons, List.length_nil]) <;> omega) rfl rfl) rfl ?_
  refine ao_read trivial (r_assign rfl) rfl ?_
  refine ao_nil ?_
  refine aq_then ?_
  refine aw_ret ?_
  refine aq_ret ?_
  obtain rfl := is_some h
  exact aq_finx (l := [.tmp 2]) (xs := [.os 1]) (rn [(0, 1)]) [.os 0] [(0, .row (.arr 6 (.int .i64)) (([] ++ x0) : (List (List Int))))] rfl (by exact ⟨rfl, trivial⟩) (by exact ⟨ad_ren rfl, trivial⟩) (by exact ⟨⟨_, rfl, rfl⟩, trivial⟩) rfl (nk rfl) rfl rfl ⟨rfl, rfl⟩
theorem c_spec_DrawChanceToBeat {fu : Nat} {x0 : (List Int)} {r : (List (List Int)) × (List (List Int))} (h : Is (p_spec_DrawChanceToBeat fu x0) (some r)) :
    ACalls Try.prog 57 [.v (.slice (.int .u8)) x0] [] (fun r' H' => r' = .tup [.os 0, .os 1] ∧ H' = [(0, .row (.arr 6 (.int .i64)) r.1), (1, .row (.arr 6 (.int .i64)) r.2)]) := by
  unfold p_spec_DrawChanceToBeat at h
  refine ac_enter ⟨19, 0⟩ Try.func57 rfl rfl rfl rfl rfl (fun Γ => ?_)
  refine sl_len_m 0 (x0.length : Int) rfl rfl (fun hl0 => ?_)
  refine aw_seq ?_
  refine aw_region ?_
  refine ao_read trivial (r_assign rfl) rfl ?_
  refine ao_read trivial (r_assign rfl) rfl ?_
  refine ao_nil ?_
  refine aq_then ?_
  refine aw_seq ?_
  refine aw_region ?_
  refine ao_read trivial (r_move rfl) rfl ?_
  refine ao_read trivial (r_build_st (l := [(0, .tmp 6)]) (cs := [.cell (.v (.slice (.int .u8)) x0), .cell (.int .i64 0), .cell (.int .u64 0)]) (.pair (.slice (.int .u8)) (.pair (.int .i64) (.pair (.int .u64) .unit))) [(0, 1), (1, 1), (2, 1)] Try.underlying98 Try.zeroValue98 rfl ⟨rfl, Try.sizeOf22, rfl, Try.sizeOf3, rfl, Try.sizeOf96, trivial⟩ rfl rfl rfl) rfl ?_
  refine ao_eff trivial (e_box 0 rfl rfl rfl rfl rfl rfl) rfl ?_
  refine ao_read trivial (r_assign rfl) rfl ?_
  refine ao_nil ?_
  refine aq_then ?_
  refine aw_seq ?_
  refine aw_region ?_
  refine ao_read trivial (r_move rfl) rfl ?_
  obtain ⟨r1, r1h, h⟩ := is_bind h
  refine ao_callV [0] 1 trivial (c_spec_l1Cur_pool (is_mk r1h)) Try.func113 rfl rfl rfl rfl rfl ⟨rfl, trivial⟩ ⟨⟨_, rfl, ⟨ad_ren rfl, rfl, ad_ren rfl, rfl, ad_ren rfl, rfl, trivial⟩⟩, trivial⟩ rfl rfl rfl rfl rfl rfl rfl (fun r' H' hr => ?_)
  obtain ⟨rfl, rfl⟩ := hr
  refine ao_norm (y := .os 1) (H' := [(0, .var [.cell (.v (.slice (.int .u8)) x0), .cell (.int .i64 r1.2.1), .cell (.int .u64 r1.2.2)]), (1, .row (.arr 6 (.int .i64)) r1.1)]) rfl rfl ?_
  refine row_len_o 1 (r1.1.length : Int) rfl rfl (fun hr2 => ?_)
  refine ao_read trivial (r_assign rfl) rfl ?_
  refine ao_nil ?_
  refine aq_then ?_
  refine aw_seq ?_
  refine aw_seq ?_
  refine aw_region ?_
  refine ao_read trivial (r_move rfl) rfl ?_
  obtain ⟨r3, r3h, h⟩ := is_bind h
  refine ao_callV [0] 2 trivial (c_spec_l1Cur_one (is_mk r3h)) Try.func102 rfl rfl rfl rfl rfl ⟨rfl, trivial⟩ ⟨⟨_, rfl, ⟨ad_ren rfl, rfl, ad_ren rfl, rfl, ad_ren rfl, rfl, trivial⟩⟩, trivial⟩ rfl rfl rfl rfl rfl rfl rfl (fun r' H' hr => ?_)
  obtain ⟨rfl, rfl⟩ := hr
  refine ao_norm (y := .bool r3.1) (H' := [(1, .row (.arr 6 (.int .i64)) r1.1), (0, .var [.cell (.v (.slice (.int .u8)) x0), .cell (.int .i64 r3.2.1), .cell (.int .u64 r3.2.2)])]) rfl rfl ?_
  refine ao_nil ?_
  refine aq_then ?_
  refine aw_cond rfl (fun hb4 => ?_) (fun hb4 => ?_)
  · replace h := is_if hb4 h
    refine aw_seq ?_
    refine aw_region ?_
    refine ao_read trivial (r_move rfl) rfl ?_
    refine ao_read trivial (r_move rfl) rfl ?_
    obtain ⟨r5, r5h, h⟩ := is_bind h
    refine ao_call [] 2 trivial (c_spec_l2Own (is_mk r5h)) Try.func131 rfl rfl rfl rfl ⟨ad_os0 rfl, trivial⟩ trivial rfl rfl rfl rfl rfl rfl rfl (fun r' H' hr => ?_)
    obtain ⟨rfl, rfl⟩ := hr
    refine ao_norm (y := .os 2) (H' := [(1, .row (.arr 6 (.int .i64)) r1.1), (0, .var [.cell (.v (.slice (.int .u8)) x0), .cell (.int .i64 r3.2.1), .cell (.int .u64 r3.2.2)]), (2, .row (.arr 6 (.int .i64)) r5)]) rfl rfl ?_
    refine row_len_o 2 (r5.length : Int) rfl rfl (fun hr6 => ?_)
    refine ao_read trivial (r_assign rfl) rfl ?_
    refine ao_read trivial (r_assign rfl) rfl ?_
    refine ao_nil ?_
    refine aq_then ?_
    refine aw_ret ?_
    refine aq_then_ret ?_
    refine aq_ret ?_
    obtain rfl := is_some h
    exact aq_finx (l := [.tmp 2, .tmp 3]) (xs := [.os 1, .os 2]) (rn [(0, 1), (1, 2)]) [.os 0, .os 1] [(0, .row (.arr 6 (.int .i64)) r1.1), (1, .row (.arr 6 (.int .i64)) r5)] rfl (by exact ⟨rfl, rfl, trivial⟩) (by exact ⟨ad_ren rfl, ad_ren rfl, trivial⟩) (by exact ⟨⟨_, rfl, rfl⟩, ⟨_, rfl, rfl⟩, trivial⟩) rfl (nk rfl) rfl rfl ⟨rfl, rfl⟩
  · replace h := is_else (ne_t hb4) h
    refine aw_skip ?_
    refine aq_then ?_
    refine aw_seq ?_
    refine aw_region ?_
    refine ao_read trivial (r_move rfl) rfl ?_
    refine ao_read trivial (r_move rfl) rfl ?_
    obtain ⟨r7, r7h, h⟩ := is_bind h
    refine ao_callV [0] 3 trivial (c_spec_l1Cur_pool (is_mk r7h)) Try.func113 rfl rfl rfl rfl rfl ⟨rfl, trivial⟩ ⟨⟨_, rfl, ⟨ad_ren rfl, rfl, ad_ren rfl, rfl, ad_ren rfl, rfl, trivial⟩⟩, trivial⟩ rfl rfl rfl rfl rfl rfl rfl (fun r' H' hr => ?_)
    obtain ⟨rfl, rfl⟩ := hr
    refine ao_norm (y := .os 3) (H' := [(1, .row (.arr 6 (.int .i64)) r1.1), (0, .var [.cell (.v (.slice (.int .u8)) x0), .cell (.int .i64 r7.2.1), .cell (.int .u64 r7.2.2)]), (3, .row (.arr 6 (.int .i64)) r7.1)]) rfl rfl ?_
    refine row_len_o 3 (r7.1.length : Int) rfl rfl (fun hr8 => ?_)
    refine ao_read trivial (r_assign rfl) rfl ?_
    refine ao_read trivial (r_assign rfl) rfl ?_
    refine ao_nil ?_
    refine aq_then ?_
    refine aw_ret ?_
    refine aq_ret ?_
    obtain rfl := is_some h
    exact aq_finx (l := [.tmp 2, .tmp 3]) (xs := [.os 1, .os 3]) (rn [(0, 1), (1, 3)]) [.os 0, .os 1] [(0, .row (.arr 6 (.int .i64)) r1.1), (1, .row (.arr 6 (.int .i64)) r7.1)] rfl (by exact ⟨rfl, rfl, trivial⟩) (by exact ⟨ad_ren rfl, ad_ren rfl, trivial⟩) (by exact ⟨⟨_, rfl, rfl⟩, ⟨_, rfl, rfl⟩, trivial⟩) rfl (nk rfl) rfl rfl ⟨rfl, rfl⟩
theorem c_impl_areAll_6_int_1 {x0 : (List Int)} {r : Bool} (h : Is (p_impl_areAll_6_int_1 x0) r) :
    Scalar Try.prog 174 [.v (.arr 6 (.int .i64)) x0, .cav (.fn 50 [])] (.bool r) := by
  unfold p_impl_areAll_6_int_1 at h
  refine ac_enter ⟨8, 0⟩ Try.func174 rfl rfl rfl rfl rfl (fun Γ => ?_)
  refine aw_seq ?_
  refine aw_region ?_
  refine ao_eff trivial (e_box 0 rfl rfl rfl rfl rfl rfl) rfl ?_
  refine ao_read trivial (r_assign rfl) rfl ?_
  refine ao_nil ?_
  refine aq_then ?_
  refine aw_seq ?_
  refine aw_region ?_
  refine ao_read trivial (r_load_cav Try.isAgg66 rfl) rfl ?_
  refine ao_read trivial (r_load_arr rfl Try.isAgg60 Try.sizeOf60 rfl rfl rfl) rfl ?_
  refine ao_scall trivial (scall (c_impl_IsDie (is_mk (rfl : p_impl_IsDie x0 = _))) rfl Try.func50 rfl rfl rfl rfl (fun σ => ⟨ad_ren rfl, trivial⟩)) rfl ?_
  refine ao_read trivial (r_not rfl) rfl ?_
  refine ao_read trivial (r_assign rfl) rfl ?_
  refine ao_nil ?_
  refine aq_then ?_
  refine aw_ret ?_
  refine aq_ret ?_
  obtain rfl := is_eq h
  exact aq_finx (l := [.tmp 3]) (xs := [.bool (!(p_impl_IsDie x0))]) idn [.bool (!(p_impl_IsDie x0))] [] rfl (by exact ⟨rfl, trivial⟩) (by exact ⟨ad_ren rfl, trivial⟩) (by exact trivial) rfl (nk rfl) rfl rfl ⟨rfl, rfl⟩
theorem c_slices_IndexFunc_6_int_6_int {x0 : (List (List Int))} {r : Int} (h : Is (p_slices_IndexFunc_6_int_6_int x0) r) :
    Scalar Try.prog 189 [.v (.slice (.arr 6 (.int .i64))) x0, .fn 174 [.cav (.fn 50 [])]] (.int .i64 r) := by
  unfold p_slices_IndexFunc_6_int_6_int at h
  refine ac_enter ⟨19, 0⟩ Try.func189 rfl rfl rfl rfl rfl (fun Γ => ?_)
  refine sl_len_m 0 (x0.length : Int) rfl rfl (fun hl0 => ?_)
  refine aw_seq ?_
  refine aw_region ?_
  refine ao_read trivial (r_assign rfl) rfl ?_
  refine ao_nil ?_
  refine aq_then ?_
  refine aw_seq ?_
  refine aw_seq ?_
  refine aw_region ?_
  refine ao_read trivial (r_move rfl) rfl ?_
  refine ao_read trivial (r_len_vm (x0.length : Int) Try.underlying54 rfl rfl) rfl ?_
  refine ao_read trivial (r_move rfl) rfl ?_
  refine ao_nil ?_
  refine aq_then ?_
  refine aw_block ?_
  refine aw_loop (AL.sub (fr' := [(0, .v (.slice (.arr 6 (.int .i64))) x0), (1, .fn 174 [.cav (.fn 50 [])]), (7, .int .i64 (x0.length : Int)), (8, .int .i64 0)]) (H' := []) (sub_mk idn (by exact ⟨⟨_, rfl, ad_ren rfl⟩, ⟨_, rfl, ad_ren rfl⟩, ⟨_, rfl, ad_ren rfl⟩, ⟨_, rfl, ad_ren rfl⟩, trivial⟩) (by exact trivial) (by rfl) (nk rfl)) (al_cnt (fun i2 (s1 : Unit) => [(0, .v (.slice (.arr 6 (.int .i64))) x0), (1, .fn 174 [.cav (.fn 50 [])]), (7, .int .i64 (x0.length : Int)), (8, .int .i64 i2)]) (fun i2 (s1 : Unit) => []) (fun d i2 (s1 : Unit) => d = Int.toNat ((x0.length : Int) - i2) ∧ 0 ≤ i2 ∧ i2 ≤ (x0.length : Int)) h ⟨rfl, (by (try simp only [List.length_set, List.length_append, List.length_cons, List.length_nil, List.length_replicate, List.length_take, List.length_drop]) <;> omega), (by (try simp only [List.length_set, List.length_append, List.length_cons, List.length_nil, List.length_replicate, List.length_take, List.length_drop]) <;> omega)⟩ (fun d3 i2 s1 hI h ih3 => ?_)))
  obtain ⟨hd, _, _⟩ := hI
  refine al_round ?_
  refine aw_seq ?_
  refine aw_region ?_
  refine ao_read trivial (r_lss rfl rfl) rfl ?_
  refine ao_nil ?_
  refine aq_then ?_
  refine aw_seq ?_
  refine aw_cond rfl (fun hb5 => ?_) (fun hb5 => ?_)
  · have q6 := d_t hb5
    obtain ⟨d3, rfl⟩ : ∃ e, d3 = e + 1 := ⟨d3 - 1, by omega⟩
    replace h := is_cntS h
    refine aw_skip ?_
    refine aq_then ?_
    refine aw_seq ?_
    refine aw_block ?_
    refine aw_seq ?_
    refine aw_region ?_
    refine ao_read trivial (r_move rfl) rfl ?_
    refine ao_read trivial (r_assign rfl) rfl ?_
    refine ao_nil ?_
    refine aq_then ?_
    refine aw_seq ?_
    refine aw_region ?_
    refine ao_read trivial (r_move rfl) rfl ?_
    refine ao_read trivial (r_move rfl) rfl ?_
    refine ao_read trivial (r_move rfl) rfl ?_
    refine ao_read trivial (r_idxAddr (t := (.arr 6 (.int .i64))) Try.underlying54 Try.sizeOf60 rfl rfl (show 0 ≤ i2 from by omega) (show i2 < (x0.length : Int) from by omega)) rfl ?_
    refine ao_read trivial (r_load_c (t := (.arr 6 (.int .i64))) Try.isAgg60 Try.sizeOf60 rfl) rfl ?_
    refine ao_scall trivial (scall (c_impl_areAll_6_int_1 (is_mk (rfl : p_impl_areAll_6_int_1 (x0.getD i2.toNat (List.replicate 6 0)) = _))) rfl Try.func174 rfl rfl rfl rfl (fun σ => ⟨ad_ren rfl, ad_ren rfl, trivial⟩)) rfl ?_
    refine ao_nil ?_
    refine aq_then ?_
    refine aw_cond rfl (fun hb8 => ?_) (fun hb8 => ?_)
    · replace h := is_if hb8 h
      refine aw_seq ?_
      refine aw_region ?_
      refine ao_read trivial (r_move rfl) rfl ?_
      refine ao_read trivial (r_assign rfl) rfl ?_
      refine ao_nil ?_
      refine aq_then ?_
      refine aw_ret ?_
      refine aq_in_ret ?_
      refine aq_then_ret ?_
      refine aq_then_ret ?_
      refine aq_in_ret ?_
      refine aq_then_ret ?_
      refine aq_ret ?_
      obtain rfl := is_eq h
      exact aq_finx (l := [.tmp 4]) (xs := [.int .i64 i2]) idn [.int .i64 i2] [] rfl (by exact ⟨rfl, trivial⟩) (by exact ⟨ad_ren rfl, trivial⟩) (by exact trivial) rfl (nk rfl) rfl rfl ⟨rfl, rfl⟩
    · replace h := is_else (ne_t hb8) h
      refine aw_skip ?_
      refine aq_in ?_
      refine aq_then ?_
      refine aw_region ?_
      refine ao_read trivial (r_addI rfl rfl (wrap_id (by omega) (by omega))) rfl ?_
      refine ao_read trivial (r_move rfl) rfl ?_
      refine ao_nil ?_
      exact aq_again (AL.sub (sub_mk idn (by exact ⟨⟨_, rfl, ad_ren rfl⟩, ⟨_, rfl, ad_ren rfl⟩, ⟨_, rfl, ad_ren rfl⟩, ⟨_, rfl, ad_ren rfl⟩, trivial⟩) (by exact trivial) (by rfl) (nk rfl)) (ih3 d3 (i2 + 1) () (by omega) ⟨by omega, (by (try simp only [List.length_set, List.length_append, List.length_cons, List.length_nil, List.length_replicate, List.length_take, List.length_drop]) <;> omega), (by (try simp only [List.length_set, List.length_append, List.length_cons, List.length_nil, List.length_replicate, List.length_take, List.length_drop]) <;> omega)⟩ h))
  · have q7 := d_f hb5
    obtain rfl : d3 = 0 := by omega
    replace h := is_cnt0 h
    refine aw_exit ?_
    refine aq_then_exit ?_
    refine aq_then_exit ?_
    refine aq_in_exit ?_
    refine aq_then ?_
    refine aw_seq ?_
    refine aw_region ?_
    refine ao_read trivial (r_assign rfl) rfl ?_
    refine ao_nil ?_
    refine aq_then ?_
    refine aw_ret ?_
    refine aq_ret ?_
    obtain rfl := is_eq h
    exact aq_finx (l := [.tmp 4]) (xs := [.int .i64 (-1)]) idn [.int .i64 (-1)] [] rfl (by exact ⟨rfl, trivial⟩) (by exact ⟨ad_ren rfl, trivial⟩) (by exact trivial) rfl (nk rfl) rfl rfl ⟨rfl, rfl⟩
theorem c_slices_ContainsFunc_6_int_6_int {x0 : (List (List Int))} {r : Bool} (h : Is (p_slices_ContainsFunc_6_int_6_int x0) r) :
    Scalar Try.prog 173 [.v (.slice (.arr 6 (.int .i64))) x0, .fn 174 [.cav (.fn 50 [])]] (.bool r) := by
  unfold p_slices_ContainsFunc_6_int_6_int at h
  refine ac_enter ⟨9, 0⟩ Try.func173 rfl rfl rfl rfl rfl (fun Γ => ?_)
  refine sl_len_m 0 (x0.length : Int) rfl rfl (fun hl0 => ?_)
  refine aw_seq ?_
  refine aw_region ?_
  refine ao_read trivial (r_assign rfl) rfl ?_
  refine ao_nil ?_
  refine aq_then ?_
  refine aw_seq ?_
  refine aw_region ?_
  refine ao_read trivial (r_move rfl) rfl ?_
  refine ao_read trivial (r_move rfl) rfl ?_
  refine ao_scall trivial (scall (c_slices_IndexFunc_6_int_6_int (is_mk (rfl : p_slices_IndexFunc_6_int_6_int x0 = _))) rfl Try.func189 rfl rfl rfl rfl (fun σ => ⟨ad_ren rfl, ad_ren rfl, trivial⟩)) rfl ?_
  refine ao_read trivial (r_geq rfl rfl) rfl ?_
  refine ao_read trivial (r_assign rfl) rfl ?_
  refine ao_nil ?_
  refine aq_then ?_
  refine aw_ret ?_
  refine aq_ret ?_
  obtain rfl := is_eq h
  exact aq_finx (l := [.tmp 4]) (xs := [.bool (decide (0 ≤ (p_slices_IndexFunc_6_int_6_int x0)))]) idn [.bool (decide (0 ≤ (p_slices_IndexFunc_6_int_6_int x0)))] [] rfl (by exact ⟨rfl, trivial⟩) (by exact ⟨ad_ren rfl, trivial⟩) (by exact trivial) rfl (nk rfl) rfl rfl ⟨rfl, rfl⟩
theorem c_impl_areAll_6_int {x0 : (List (List Int))} {r : Bool} (h : Is (p_impl_areAll_6_int x0) r) :
    Scalar Try.prog 134 [.v (.slice (.arr 6 (.int .i64))) x0, .fn 50 []] (.bool r) := by
  unfold p_impl_areAll_6_int at h
  refine ac_enter ⟨9, 0⟩ Try.func134 rfl rfl rfl rfl rfl (fun Γ => ?_)
  refine sl_len_m 0 (x0.length : Int) rfl rfl (fun hl0 => ?_)
  refine aw_seq ?_
  refine aw_region ?_
  refine ao_eff trivial (e_box 0 rfl rfl rfl rfl rfl rfl) rfl ?_
  refine ao_read trivial (r_assign rfl) rfl ?_
  refine ao_nil ?_
  refine aq_then ?_
  refine aw_seq ?_
  refine aw_region ?_
  refine ao_read trivial (r_move rfl) rfl ?_
  refine ao_read trivial (r_makeFunc (cs := [.tmp 3]) rfl) rfl ?_
  refine ao_scall trivial (scall (c_slices_ContainsFunc_6_int_6_int (is_mk (rfl : p_slices_ContainsFunc_6_int_6_int x0 = _))) rfl Try.func173 rfl rfl rfl rfl (fun σ => ⟨ad_ren rfl, ad_fn ⟨ad_refc0 rfl rfl (ad_ren rfl) rfl, trivial⟩, trivial⟩)) rfl ?_
  refine ao_read trivial (r_not rfl) rfl ?_
  refine ao_read trivial (r_assign rfl) rfl ?_
  refine ao_nil ?_
  refine aq_then ?_
  refine aw_ret ?_
  refine aq_ret ?_
  obtain rfl := is_eq h
  exact aq_finx (l := [.tmp 4]) (xs := [.bool (!(p_slices_ContainsFunc_6_int_6_int x0))]) idn [.bool (!(p_slices_ContainsFunc_6_int_6_int x0))] [] rfl (by exact ⟨rfl, trivial⟩) (by exact ⟨ad_ren rfl, trivial⟩) (by exact trivial) rfl (nk rfl) rfl rfl ⟨rfl, rfl⟩
theorem c_impl_IsPool {x0 : (List (List Int))} {r : Bool} (h : Is (p_impl_IsPool x0) r) :
    Scalar Try.prog 60 [.v (.slice (.arr 6 (.int .i64))) x0] (.bool r) := by
  unfold p_impl_IsPool at h
  refine ac_enter ⟨10, 0⟩ Try.func60 rfl rfl rfl rfl rfl (fun Γ => ?_)
  refine sl_len_m 0 (x0.length : Int) rfl rfl (fun hl0 => ?_)
  refine aw_seq ?_
  refine aw_region ?_
  refine ao_read trivial (r_assign rfl) rfl ?_
  refine ao_nil ?_
  refine aq_then ?_
  refine aw_seq ?_
  refine aw_region ?_
  refine ao_read trivial (r_move rfl) rfl ?_
  refine ao_read trivial (r_len_vm (x0.length : Int) Try.underlying54 rfl rfl) rfl ?_
  refine ao_scall trivial (scall (c_impl_within (is_mk (rfl : p_impl_within (x0.length : Int) 1 4 = _))) rfl Try.func96 rfl rfl rfl rfl (fun σ => ⟨ad_ren rfl, ad_ren rfl, ad_ren rfl, trivial⟩)) rfl ?_
  refine ao_read trivial (r_move rfl) rfl ?_
  refine ao_readG (x := .v (.slice (.arr 6 (.int .i64))) x0) rfl (GV.T rfl) (fun hg1 => r_move rfl) rfl ?_
  refine ao_scallG (r := .bool (p_impl_areAll_6_int x0)) rfl (GV.T rfl) (fun hg2 => SCall.strip 7 rfl (hg2) (scall (c_impl_areAll_6_int (is_mk (rfl : p_impl_areAll_6_int x0 = _))) rfl Try.func134 rfl rfl rfl rfl (fun σ => ⟨ad_ren rfl, ad_ren rfl, trivial⟩))) rfl ?_
  refine ao_read trivial (r_andB rfl rfl) rfl ?_
  refine ao_read trivial (r_assign rfl) rfl ?_
  refine ao_nil ?_
  refine aq_then ?_
  refine aw_ret ?_
  refine aq_ret ?_
  obtain rfl := is_eq h
  exact aq_finx (l := [.tmp 2]) (xs := [.bool ((p_impl_within (x0.length : Int) 1 4) && (p_impl_areAll_6_int x0))]) idn [.bool ((p_impl_within (x0.length : Int) 1 4) && (p_impl_areAll_6_int x0))] [] rfl (by exact ⟨rfl, trivial⟩) (by exact ⟨ad_ren rfl, trivial⟩) (by exact trivial) rfl (nk rfl) rfl rfl ⟨rfl, rfl⟩
theorem c_impl_sums {x0 : (List (List Int))} {r : (List Int)} (h : Is (p_impl_sums x0) (some r)) :
    Scalar Try.prog 132 [.v (.slice (.arr 6 (.int .i64))) x0] (.v (.arr 121 (.int .i64)) r) := by
  unfold p_impl_sums at h
  refine ac_enter ⟨42, 0⟩ Try.func132 rfl rfl rfl rfl rfl (fun Γ => ?_)
  refine sl_len_m 0 (x0.length : Int) rfl rfl (fun hl0 => ?_)
  refine aw_seq ?_
  refine aw_region ?_
  refine ao_eff trivial (e_alloc 0 (y := .v (.arr 121 (.int .i64)) ((List.replicate 121 0) : (List Int))) Try.zeroValue124 (fun ρ h M => ra_zero_arr (t := (.int .i64)) rfl) rfl rfl rfl rfl rfl) rfl ?_
  refine ao_nil ?_
  refine aq_then ?_
  refine aw_seq ?_
  refine aw_region ?_
  refine ao_eff trivial (e_alloc 1 (y := .v (.arr 121 (.int .i64)) ((List.replicate 121 0) : (List Int))) Try.zeroValue124 (fun ρ h M => ra_zero_arr (t := (.int .i64)) rfl) rfl rfl rfl rfl rfl) rfl ?_
  refine ao_nil ?_
  refine aq_then ?_
  refine aw_seq ?_
  refine aw_region ?_
  refine ao_read trivial (r_idxAddr_arr (i := 0) Try.underlying124 Try.sizeOf3 rfl rfl (show 0 ≤ 0 from by omega) (show 0 < (121 : Int) from by omega)) rfl ?_
  refine ao_effS trivial (e_store_elema_int Try.sizeOf3 rfl rfl rfl rfl (show 0 < 121 from by omega) rfl) ?_
  refine ao_nil ?_
  refine aq_then ?_
  refine aw_seq ?_
  refine aw_seq ?_
  refine aw_region ?_
  refine ao_read trivial (r_move rfl) rfl ?_
  refine ao_read trivial (r_len_vm (x0.length : Int) Try.underlying54 rfl rfl) rfl ?_
  refine ao_read trivial (r_move rfl) rfl ?_
  refine ao_nil ?_
  refine aq_then ?_
  refine aw_block ?_
  refine aw_loop (AL.sub (fr' := [(2, .ref 0 0), (3, .ref 1 0), (12, .v (.slice (.arr 6 (.int .i64))) x0), (13, .int .i64 (x0.length : Int)), (14, .int .i64 0)]) (H' := [(0, .var [.arr (.int .i64) 121 ((List.replicate 121 0) : (List Int))]), (1, .var [.arr (.int .i64) 121 (((List.replicate 121 0).set 0 1) : (List Int))])]) (sub_mk idn (by exact ⟨⟨_, rfl, ad_ren rfl⟩, ⟨_, rfl, ad_ren rfl⟩, ⟨_, rfl, ad_ren rfl⟩, ⟨_, rfl, ad_ren rfl⟩, ⟨_, rfl, ad_ren rfl⟩, trivial⟩) (by exact ⟨⟨_, rfl, ⟨rfl, trivial⟩⟩, ⟨_, rfl, ⟨rfl, trivial⟩⟩, trivial⟩) (by rfl) (nk rfl)) (al_cnt (fun i2 (s1 : (List Int)) => [(2, .ref 0 0), (3, .ref 1 0), (12, .v (.slice (.arr 6 (.int .i64))) x0), (13, .int .i64 (x0.length : Int)), (14, .int .i64 i2)]) (fun i2 (s1 : (List Int)) => [(0, .var [.arr (.int .i64) 121 ((List.replicate 121 0) : (List Int))]), (1, .var [.arr (.int .i64) 121 s1])]) (fun d i2 (s1 : (List Int)) => d = Int.toNat ((x0.length : Int) - i2) ∧ 0 ≤ i2 ∧ (s1.length : Int) = 121 ∧ i2 ≤ (x0.length : Int)) h ⟨rfl, (by (try simp only [List.length_set, List.length_append, List.length_cons, List.length_nil, List.length_replicate, List.length_take, List.length_drop]) <;> omega), (by (try simp only [List.length_set, List.length_append, List.length_cons, List.length_nil, List.length_replicate, List.length_take, List.length_drop]) <;> omega), (by (try simp only [List.length_set, List.length_append, List.length_cons, List.length_nil, List.length_replicate, List.length_take, List.length_drop]) <;> omega)⟩ (fun d3 i2 s1 hI h ih3 => ?_)))
  obtain ⟨hd, _, _, _⟩ := hI
  refine al_round ?_
  refine aw_seq ?_
  refine aw_region ?_
  refine ao_read trivial (r_lss rfl rfl) rfl ?_
  refine ao_nil ?_
  refine aq_then ?_
  refine aw_seq ?_
  refine aw_cond rfl (fun hb5 => ?_) (fun hb5 => ?_)
  · have q6 := d_t hb5
    obtain ⟨d3, rfl⟩ : ∃ e, d3 = e + 1 := ⟨d3 - 1, by omega⟩
    replace h := is_cntS h
    refine aw_skip ?_
    refine aq_then ?_
    refine aw_seq ?_
    refine aw_block ?_
    refine aw_seq ?_
    refine aw_region ?_
    refine ao_read trivial (r_idxAddr (t := (.arr 6 (.int .i64))) Try.underlying54 Try.sizeOf60 rfl rfl (show 0 ≤ i2 from by omega) (show i2 < (x0.length : Int) from by omega)) rfl ?_
    refine ao_read trivial (r_load_c (t := (.arr 6 (.int .i64))) Try.isAgg60 Try.sizeOf60 rfl) rfl ?_
    refine ao_eff trivial (e_alloc 2 (y := .v (.arr 6 (.int .i64)) ((List.replicate 6 0) : (List Int))) Try.zeroValue60 (fun ρ h M => ra_zero_arr (t := (.int .i64)) rfl) rfl rfl rfl rfl rfl) rfl ?_
    refine ao_effS trivial (e_store rfl rfl rfl rfl Try.sizeOf60 rfl) ?_
    refine ao_nil ?_
    refine aq_then ?_
    refine aw_seq ?_
    refine aw_region ?_
    refine ao_eff trivial (e_alloc 3 (y := .v (.arr 121 (.int .i64)) ((List.replicate 121 0) : (List Int))) Try.zeroValue124 (fun ρ h M => ra_zero_arr (t := (.int .i64)) rfl) rfl rfl rfl rfl rfl) rfl ?_
    refine ao_nil ?_
    refine aq_then ?_
    refine aw_seq ?_
    refine aw_seq ?_
    refine aw_region ?_
    refine ao_read trivial (r_load_arr rfl Try.isAgg124 Try.sizeOf124 rfl rfl rfl) rfl ?_
    refine ao_read trivial (r_move rfl) rfl ?_
    refine ao_nil ?_
    refine aq_then ?_
    refine aw_block ?_
    refine aw_loop (AL.sub (fr' := [(2, .ref 0 0), (3, .ref 1 0), (5, .ref 2 0), (6, .ref 3 0), (12, .v (.slice (.arr 6 (.int .i64))) x0), (13, .int .i64 (x0.length : Int)), (14, .int .i64 i2), (18, .v (.arr 121 (.int .i64)) s1), (19, .int .i64 0)]) (H' := [(0, .var [.arr (.int .i64) 121 ((List.replicate 121 0) : (List Int))]), (1, .var [.arr (.int .i64) 121 s1]), (2, .var [.arr (.int .i64) 6 ((x0.getD i2.toNat (List.replicate 6 0)) : (List Int))]), (3, .var [.arr (.int .i64) 121 ((List.replicate 121 0) : (List Int))])]) (sub_mk idn (by exact ⟨⟨_, rfl, ad_ren rfl⟩, ⟨_, rfl, ad_ren rfl⟩, ⟨_, rfl, ad_ren rfl⟩, ⟨_, rfl, ad_ren rfl⟩, ⟨_, rfl, ad_ren rfl⟩, ⟨_, rfl, ad_ren rfl⟩, ⟨_, rfl, ad_ren rfl⟩, ⟨_, rfl, ad_ren rfl⟩, ⟨_, rfl, ad_ren rfl⟩, trivial⟩) (by exact ⟨⟨_, rfl, ⟨rfl, trivial⟩⟩, ⟨_, rfl, ⟨rfl, trivial⟩⟩, ⟨_, rfl, ⟨rfl, trivial⟩⟩, ⟨_, rfl, ⟨rfl, trivial⟩⟩, trivial⟩) (by rfl) (nk rfl)) (al_cnt (fun i9 (s8 : (List Int)) => [(2, .ref 0 0), (3, .ref 1 0), (5, .ref 2 0), (6, .ref 3 0), (12, .v (.slice (.arr 6 (.int .i64))) x0), (13, .int .i64 (x0.length : Int)), (14, .int .i64 i2), (18, .v (.arr 121 (.int .i64)) s1), (19, .int .i64 i9)]) (fun i9 (s8 : (List Int)) => [(0, .var [.arr (.int .i64) 121 ((List.replicate 121 0) : (List Int))]), (1, .var [.arr (.int .i64) 121 s1]), (2, .var [.arr (.int .i64) 6 ((x0.getD i2.toNat (List.replicate 6 0)) : (List Int))]), (3, .var [.arr (.int .i64) 121 s8])]) (fun d i9 (s8 : (List Int)) => d = Int.toNat (121 - i9) ∧ 0 ≤ i9 ∧ (s8.length : Int) = 121 ∧ i9 ≤ 121) h ⟨rfl, (by (try simp only [List.length_set, List.length_append, List.length_cons, List.length_nil, List.length_replicate, List.length_take, List.length_drop]) <;> omega), (by (try simp only [List.length_set, List.length_append, List.length_cons, List.length_nil, List.length_replicate, List.length_take, List.length_drop]) <;> omega), (by (try simp only [List.length_set, List.length_append, List.length_cons, List.length_nil, List.length_replicate, List.length_take, List.length_drop]) <;> omega)⟩ (fun d10 i9 s8 hI h ih10 => ?_)))
    obtain ⟨hd, _, _, _⟩ := hI
    refine al_round ?_
    refine aw_seq ?_
    refine aw_region ?_
    refine ao_read trivial (r_lss rfl rfl) rfl ?_
    refine ao_nil ?_
    refine aq_then ?_
    refine aw_seq ?_
    refine aw_cond rfl (fun hb12 => ?_) (fun hb12 => ?_)
    · have q13 := d_t hb12
      obtain ⟨d10, rfl⟩ : ∃ e, d10 = e + 1 := ⟨d10 - 1, by omega⟩
      replace h := is_cntS h
      refine aw_skip ?_
      refine aq_then ?_
      refine aw_seq ?_
      refine aw_block ?_
      refine aw_seq ?_
      refine aw_region ?_
      refine ao_read trivial (r_move rfl) rfl ?_
      refine ao_read trivial (r_index_a (t := (.int .i64)) Try.underlying124 Try.isAgg3 Try.sizeOf3 rfl rfl (by omega) (by omega)) rfl ?_
      refine ao_read trivial (r_assign rfl) rfl ?_
      refine ao_read trivial (r_assign rfl) rfl ?_
      refine ao_nil ?_
      refine aq_then ?_
      refine aw_seq ?_
      refine aw_seq ?_
      refine aw_region ?_
      refine ao_read trivial (r_move rfl) rfl ?_
      refine ao_read trivial (r_eql rfl rfl) rfl ?_
      refine ao_nil ?_
      refine aq_then ?_
      refine aw_cond rfl (fun hb15 => ?_) (fun hb15 => ?_)
      · have q16 : (s1.getD i9.toNat 0) = 0 := d_t hb15
        replace h := is_if (d_t hb15) h
        refine aw_exit ?_
        refine aq_then_exit ?_
        refine aq_in_exit ?_
        refine aq_then ?_
        refine aw_region ?_
        refine ao_read trivial (r_addI rfl rfl (wrap_id (by omega) (by omega))) rfl ?_
        refine ao_read trivial (r_move rfl) rfl ?_
        refine ao_nil ?_
        exact aq_again (AL.sub (sub_mk idn (by exact ⟨⟨_, rfl, ad_ren rfl⟩, ⟨_, rfl, ad_ren rfl⟩, ⟨_, rfl, ad_ren rfl⟩, ⟨_, rfl, ad_ren rfl⟩, ⟨_, rfl, ad_ren rfl⟩, ⟨_, rfl, ad_ren rfl⟩, ⟨_, rfl, ad_ren rfl⟩, ⟨_, rfl, ad_ren rfl⟩, ⟨_, rfl, ad_ren rfl⟩, trivial⟩) (by exact ⟨⟨_, rfl, ⟨rfl, trivial⟩⟩, ⟨_, rfl, ⟨rfl, trivial⟩⟩, ⟨_, rfl, ⟨rfl, trivial⟩⟩, ⟨_, rfl, ⟨rfl, trivial⟩⟩, trivial⟩) (by rfl) (nk rfl)) (ih10 d10 (i9 + 1) s8 (by omega) ⟨by omega, (by (try simp only [List.length_set, List.length_append, List.length_cons, List.length_nil, List.length_replicate, List.length_take, List.length_drop]) <;> omega), (by (try simp only [List.length_set, List.length_append, List.length_cons, List.length_nil, List.length_replicate, List.length_take, List.length_drop]) <;> omega), (by (try simp only [List.length_set, List.length_append, List.length_cons, List.length_nil, List.length_replicate, List.length_take, List.length_drop]) <;> omega)⟩ h))
      · have q17 : ¬ ((s1.getD i9.toNat 0) = 0) := d_f hb15
        replace h := is_else (d_f hb15) h
        refine aw_skip ?_
        refine aq_then ?_
        refine aw_seq ?_
        refine aw_region ?_
        refine ao_read trivial (r_load_arr rfl Try.isAgg60 Try.sizeOf60 rfl rfl rfl) rfl ?_
        refine ao_read trivial (r_move rfl) rfl ?_
        refine ao_nil ?_
        refine aq_then ?_
        refine aw_block ?_
        refine aw_loop (AL.sub (fr' := [(2, .ref 0 0), (3, .ref 1 0), (5, .ref 2 0), (6, .ref 3 0), (7, .int .i64 i9), (8, .int .i64 (s1.getD i9.toNat 0)), (12, .v (.slice (.arr 6 (.int .i64))) x0), (13, .int .i64 (x0.length : Int)), (14, .int .i64 i2), (18, .v (.arr 121 (.int .i64)) s1), (19, .int .i64 i9), (25, .v (.arr 6 (.int .i64)) ((x0.getD i2.toNat (List.replicate 6 0)) : (List Int))), (26, .int .i64 0)]) (H' := [(0, .var [.arr (.int .i64) 121 ((List.replicate 121 0) : (List Int))]), (1, .var [.arr (.int .i64) 121 s1]), (2, .var [.arr (.int .i64) 6 ((x0.getD i2.toNat (List.replicate 6 0)) : (List Int))]), (3, .var [.arr (.int .i64) 121 s8])]) (sub_mk idn (by exact ⟨⟨_, rfl, ad_ren rfl⟩, ⟨_, rfl, ad_ren rfl⟩, ⟨_, rfl, ad_ren rfl⟩, ⟨_, rfl, ad_ren rfl⟩, ⟨_, rfl, ad_ren rfl⟩, ⟨_, rfl, ad_ren rfl⟩, ⟨_, rfl, ad_ren rfl⟩, ⟨_, rfl, ad_ren rfl⟩, ⟨_, rfl, ad_ren rfl⟩, ⟨_, rfl, ad_ren rfl⟩, ⟨_, rfl, ad_ren rfl⟩, ⟨_, rfl, ad_ren rfl⟩, ⟨_, rfl, ad_ren rfl⟩, trivial⟩) (by exact ⟨⟨_, rfl, ⟨rfl, trivial⟩⟩, ⟨_, rfl, ⟨rfl, trivial⟩⟩, ⟨_, rfl, ⟨rfl, trivial⟩⟩, ⟨_, rfl, ⟨rfl, trivial⟩⟩, trivial⟩) (by rfl) (nk rfl)) (al_cnt (fun i19 (s18 : (List Int)) => [(2, .ref 0 0), (3, .ref 1 0), (5, .ref 2 0), (6, .ref 3 0), (7, .int .i64 i9), (8, .int .i64 (s1.getD i9.toNat 0)), (12, .v (.slice (.arr 6 (.int .i64))) x0), (13, .int .i64 (x0.length : Int)), (14, .int .i64 i2), (18, .v (.arr 121 (.int .i64)) s1), (19, .int .i64 i9), (25, .v (.arr 6 (.int .i64)) ((x0.getD i2.toNat (List.replicate 6 0)) : (List Int))), (26, .int .i64 i19)]) (fun i19 (s18 : (List Int)) => [(0, .var [.arr (.int .i64) 121 ((List.replicate 121 0) : (List Int))]), (1, .var [.arr (.int .i64) 121 s1]), (2, .var [.arr (.int .i64) 6 ((x0.getD i2.toNat (List.replicate 6 0)) : (List Int))]), (3, .var [.arr (.int .i64) 121 s18])]) (fun d i19 (s18 : (List Int)) => d = Int.toNat (6 - i19) ∧ 0 ≤ i19 ∧ (s18.length : Int) = 121 ∧ i19 ≤ 6) h ⟨rfl, (by (try simp only [List.length_set, List.length_append, List.length_cons, List.length_nil, List.length_replicate, List.length_take, List.length_drop]) <;> omega), (by (try simp only [List.length_set, List.length_append, List.length_cons, List.length_nil, List.length_replicate, List.length_take, List.length_drop]) <;> omega), (by (try simp only [List.length_set, List.length_append, List.length_cons, List.length_nil, List.length_replicate, List.length_take, List.length_drop]) <;> omega)⟩ (fun d20 i19 s18 hI h ih20 => ?_)))
        obtain ⟨hd, _, _, _⟩ := hI
        refine al_round ?_
        refine aw_seq ?_
        refine aw_region ?_
        refine ao_read trivial (r_lss rfl rfl) rfl ?_
        refine ao_nil ?_
        refine aq_then ?_
        refine aw_seq ?_
        refine aw_cond rfl (fun hb22 => ?_) (fun hb22 => ?_)
        · have q23 := d_t hb22
          obtain ⟨d20, rfl⟩ : ∃ e, d20 = e + 1 := ⟨d20 - 1, by omega⟩
          replace h := is_cntS h
          refine aw_skip ?_
          refine aq_then ?_
          refine aw_seq ?_
          refine aw_block ?_
          refine aw_seq ?_
          refine aw_region ?_
          refine ao_read trivial (r_index_a (t := (.int .i64)) Try.underlying60 Try.isAgg3 Try.sizeOf3 rfl rfl (by omega) (by omega)) rfl ?_
          refine ao_read trivial (r_assign rfl) rfl ?_
          refine ao_nil ?_
          refine aq_then ?_
          refine aw_region ?_
          refine ao_read trivial (r_move rfl) rfl ?_
          refine ao_read trivial (r_move rfl) rfl ?_
          refine ao_read trivial (r_add rfl rfl) rfl ?_
          obtain ⟨g25, h⟩ := is_guard h
          obtain ⟨g26, h⟩ := is_guard h
          refine ao_read trivial (r_idxAddr_arr (i := (IntKind.wrap .i64 (i9 + ((x0.getD i2.toNat (List.replicate 6 0)).getD i19.toNat 0)))) Try.underlying124 Try.sizeOf3 rfl rfl (show 0 ≤ (IntKind.wrap .i64 (i9 + ((x0.getD i2.toNat (List.replicate 6 0)).getD i19.toNat 0))) from by (try simp only [List.length_replicate]) <;> omega) (show (IntKind.wrap .i64 (i9 + ((x0.getD i2.toNat (List.replicate 6 0)).getD i19.toNat 0))) < (121 : Int) from by (try simp only [List.length_replicate]) <;> omega)) rfl ?_
          refine ao_read trivial (r_load_elema_int Try.isAgg3 Try.sizeOf3 rfl rfl rfl (show (IntKind.wrap .i64 (i9 + ((x0.getD i2.toNat (List.replicate 6 0)).getD i19.toNat 0))).toNat < 121 from by (try simp only [List.length_replicate]) <;> omega)) rfl ?_
          refine ao_read trivial (r_move rfl) rfl ?_
          refine ao_read trivial (r_add rfl rfl) rfl ?_
          refine ao_read trivial (r_idxAddr_arr (i := (IntKind.wrap .i64 (i9 + ((x0.getD i2.toNat (List.replicate 6 0)).getD i19.toNat 0)))) Try.underlying124 Try.sizeOf3 rfl rfl (show 0 ≤ (IntKind.wrap .i64 (i9 + ((x0.getD i2.toNat (List.replicate 6 0)).getD i19.toNat 0))) from by (try simp only [List.length_replicate]) <;> omega) (show (IntKind.wrap .i64 (i9 + ((x0.getD i2.toNat (List.replicate 6 0)).getD i19.toNat 0))) < (121 : Int) from by (try simp only [List.length_replicate]) <;> omega)) rfl ?_
          refine ao_effS trivial (e_store_elema_int Try.sizeOf3 rfl rfl rfl rfl (show (IntKind.wrap .i64 (i9 + ((x0.getD i2.toNat (List.replicate 6 0)).getD i19.toNat 0))).toNat < 121 from by (try simp only [List.length_replicate]) <;> omega) rfl) ?_
          refine ao_nil ?_
          refine aq_in ?_
          refine aq_then ?_
          refine aw_region ?_
          refine ao_read trivial (r_addI rfl rfl (wrap_id (by omega) (by omega))) rfl ?_
          refine ao_read trivial (r_move rfl) rfl ?_
          refine ao_nil ?_
          exact aq_again (AL.sub (sub_mk idn (by exact ⟨⟨_, rfl, ad_ren rfl⟩, ⟨_, rfl, ad_ren rfl⟩, ⟨_, rfl, ad_ren rfl⟩, ⟨_, rfl, ad_ren rfl⟩, ⟨_, rfl, ad_ren rfl⟩, ⟨_, rfl, ad_ren rfl⟩, ⟨_, rfl, ad_ren rfl⟩, ⟨_, rfl, ad_ren rfl⟩, ⟨_, rfl, ad_ren rfl⟩, ⟨_, rfl, ad_ren rfl⟩, ⟨_, rfl, ad_ren rfl⟩, ⟨_, rfl, ad_ren rfl⟩, ⟨_, rfl, ad_ren rfl⟩, trivial⟩) (by exact ⟨⟨_, rfl, ⟨rfl, trivial⟩⟩, ⟨_, rfl, ⟨rfl, trivial⟩⟩, ⟨_, rfl, ⟨rfl, trivial⟩⟩, ⟨_, rfl, ⟨rfl, trivial⟩⟩, trivial⟩) (by rfl) (nk rfl)) (ih20 d20 (i19 + 1) (s18.set (IntKind.wrap .i64 (i9 + ((x0.getD i2.toNat (List.replicate 6 0)).getD i19.toNat 0))).toNat (IntKind.wrap .i64 ((s18.getD (IntKind.wrap .i64 (i9 + ((x0.getD i2.toNat (List.replicate 6 0)).getD i19.toNat 0))).toNat 0) + (s1.getD i9.toNat 0)))) (by omega) ⟨by omega, (by (try simp only [List.length_set, List.length_append, List.length_cons, List.length_nil, List.length_replicate, List.length_take, List.length_drop]) <;> omega), (by (try simp only [List.length_set, List.length_append, List.length_cons, List.length_nil, List.length_replicate, List.length_take, List.length_drop]) <;> omega), (by (try simp only [List.length_set, List.length_append, List.length_cons, List.length_nil, List.length_replicate, List.length_take, List.length_drop]) <;> omega)⟩ h))
        · have q24 := d_f hb22
          obtain rfl : d20 = 0 := by omega
          replace h := is_cnt0 h
          refine aw_exit ?_
          refine aq_then_exit ?_
          refine aq_then_exit ?_
          refine aq_in_exit ?_
          refine aq_in ?_
          refine aq_then ?_
          refine aw_region ?_
          refine ao_read trivial (r_addI rfl rfl (wrap_id (by omega) (by omega))) rfl ?_
          refine ao_read trivial (r_move rfl) rfl ?_
          refine ao_nil ?_
          exact aq_again (AL.sub (sub_mk idn (by exact ⟨⟨_, rfl, ad_ren rfl⟩, ⟨_, rfl, ad_ren rfl⟩, ⟨_, rfl, ad_ren rfl⟩, ⟨_, rfl, ad_ren rfl⟩, ⟨_, rfl, ad_ren rfl⟩, ⟨_, rfl, ad_ren rfl⟩, ⟨_, rfl, ad_ren rfl⟩, ⟨_, rfl, ad_ren rfl⟩, ⟨_, rfl, ad_ren rfl⟩, trivial⟩) (by exact ⟨⟨_, rfl, ⟨rfl, trivial⟩⟩, ⟨_, rfl, ⟨rfl, trivial⟩⟩, ⟨_, rfl, ⟨rfl, trivial⟩⟩, ⟨_, rfl, ⟨rfl, trivial⟩⟩, trivial⟩) (by rfl) (nk rfl)) (ih10 d10 (i9 + 1) s18 (by omega) ⟨by omega, (by (try simp only [List.length_set, List.length_append, List.length_cons, List.length_nil, List.length_replicate, List.length_take, List.length_drop]) <;> omega), (by (try simp only [List.length_set, List.length_append, List.length_cons, List.length_nil, List.length_replicate, List.length_take, List.length_drop]) <;> omega), (by (try simp only [List.length_set, List.length_append, List.length_cons, List.length_nil, List.length_replicate, List.length_take, List.length_drop]) <;> omega)⟩ h))
    · have q14 := d_f hb12
      obtain rfl : d10 = 0 := by omega
      replace h := is_cnt0 h
      refine aw_exit ?_
      refine aq_then_exit ?_
      refine aq_then_exit ?_
      refine aq_in_exit ?_
      refine aq_then ?_
      refine aw_region ?_
      refine ao_read trivial (r_load_arr rfl Try.isAgg124 Try.sizeOf124 rfl rfl rfl) rfl ?_
      refine ao_effS trivial (e_store rfl rfl rfl rfl Try.sizeOf124 rfl) ?_
      refine ao_nil ?_
      refine aq_in ?_
      refine aq_then ?_
      refine aw_region ?_
      refine ao_read trivial (r_addI rfl rfl (wrap_id (by omega) (by omega))) rfl ?_
      refine ao_read trivial (r_move rfl) rfl ?_
      refine ao_nil ?_
      exact aq_again (AL.sub (sub_mk idn (by exact ⟨⟨_, rfl, ad_ren rfl⟩, ⟨_, rfl, ad_ren rfl⟩, ⟨_, rfl, ad_ren rfl⟩, ⟨_, rfl, ad_ren rfl⟩, ⟨_, rfl, ad_ren rfl⟩, trivial⟩) (by exact ⟨⟨_, rfl, ⟨rfl, trivial⟩⟩, ⟨_, rfl, ⟨rfl, trivial⟩⟩, trivial⟩) (by rfl) (nk rfl)) (ih3 d3 (i2 + 1) s8 (by omega) ⟨by omega, (by (try simp only [List.length_set, List.length_append, List.length_cons, List.length_nil, List.length_replicate, List.length_take, List.length_drop]) <;> omega), (by (try simp only [List.length_set, List.length_append, List.length_cons, List.length_nil, List.length_replicate, List.length_take, List.length_drop]) <;> omega), (by (try simp only [List.length_set, List.length_append, List.length_cons, List.length_nil, List.length_replicate, List.length_take, List.length_drop]) <;> omega)⟩ h))
  · have q7 := d_f hb5
    obtain rfl : d3 = 0 := by omega
    replace h := is_cnt0 h
    refine aw_exit ?_
    refine aq_then_exit ?_
    refine aq_then_exit ?_
    refine aq_in_exit ?_
    refine aq_then ?_
    refine aw_seq ?_
    refine aw_region ?_
    refine ao_read trivial (r_load_arr rfl Try.isAgg124 Try.sizeOf124 rfl rfl rfl) rfl ?_
    refine ao_effS trivial (e_store rfl rfl rfl rfl Try.sizeOf124 rfl) ?_
    refine ao_nil ?_
    refine aq_then ?_
    refine aw_ret ?_
    refine aq_ret ?_
    obtain rfl := is_some h
    exact aq_finx (l := [.cell 2 124]) (xs := [.v (.arr 121 (.int .i64)) s1]) idn [.v (.arr 121 (.int .i64)) s1] [] rfl (by exact ⟨⟨⟨_, _, rfl⟩, r_load_arr rfl Try.isAgg124 Try.sizeOf124 rfl rfl rfl⟩, trivial⟩) (by exact ⟨ad_ren rfl, trivial⟩) (by exact trivial) rfl (nk rfl) rfl rfl ⟨rfl, rfl⟩
theorem c_impl_power {fu : Nat} {x0 : Int} {r : Int} (h : Is (p_impl_power fu x0) (some r)) :
    Scalar Try.prog 99 [.int .i64 x0] (.int .i64 r) := by
  unfold p_impl_power at h
  refine ac_enter ⟨11, 0⟩ Try.func99 rfl rfl rfl rfl rfl (fun Γ => ?_)
  refine aw_seq ?_
  refine aw_region ?_
  refine ao_read trivial (r_assign rfl) rfl ?_
  refine ao_nil ?_
  refine aq_then ?_
  refine aw_seq ?_
  refine aw_region ?_
  refine ao_read trivial (r_assign rfl) rfl ?_
  refine ao_nil ?_
  refine aq_then ?_
  refine aw_seq ?_
  refine aw_seq ?_
  refine aw_region ?_
  refine ao_read trivial (r_move rfl) rfl ?_
  refine ao_read trivial (r_move rfl) rfl ?_
  refine ao_nil ?_
  refine aq_then ?_
  refine aw_block ?_
  refine aw_loop (AL.sub (sub_mk idn (by exact ⟨⟨_, rfl, ad_ren rfl⟩, ⟨_, rfl, ad_ren rfl⟩, ⟨_, rfl, ad_ren rfl⟩, trivial⟩) (by exact trivial) (by rfl) (nk rfl)) (al_whl (fun (s1 : Int × Int) => [(3, .int .i64 s1.1), (4, .int .i64 x0), (5, .int .i64 s1.2)]) (fun (s1 : Int × Int) => []) (fun (s1 : Int × Int) => True) h trivial (fun d3 s1 hI h ih3 => ?_)))
  replace h := is_whlS h
  refine al_round ?_
  refine aw_seq ?_
  refine aw_region ?_
  refine ao_read trivial (r_lss rfl rfl) rfl ?_
  refine ao_nil ?_
  refine aq_then ?_
  refine aw_seq ?_
  refine aw_cond rfl (fun hb5 => ?_) (fun hb5 => ?_)
  · have q6 := d_t hb5
    replace h := is_if (d_t hb5) h
    refine aw_skip ?_
    refine aq_then ?_
    refine aw_seq ?_
    refine aw_block ?_
    refine aw_region ?_
    refine ao_read trivial (r_move rfl) rfl ?_
    refine ao_read trivial (r_mul rfl rfl) rfl ?_
    refine ao_read trivial (r_assign rfl) rfl ?_
    refine ao_nil ?_
    refine aq_in ?_
    refine aq_then ?_
    refine aw_region ?_
    refine ao_read trivial (r_add rfl rfl) rfl ?_
    refine ao_read trivial (r_move rfl) rfl ?_
    refine ao_nil ?_
    exact aq_again (AL.sub (sub_mk idn (by exact ⟨⟨_, rfl, ad_ren rfl⟩, ⟨_, rfl, ad_ren rfl⟩, ⟨_, rfl, ad_ren rfl⟩, trivial⟩) (by exact trivial) (by rfl) (nk rfl)) (ih3 ((IntKind.wrap .i64 (s1.1 * 6)), (IntKind.wrap .i64 (s1.2 + 1))) trivial h))
  · have q7 := d_f hb5
    replace h := is_else (d_f hb5) h
    refine aw_exit ?_
    refine aq_then_exit ?_
    refine aq_then_exit ?_
    refine aq_in_exit ?_
    refine aq_then ?_
    refine aw_seq ?_
    refine aw_region ?_
    refine ao_read trivial (r_move rfl) rfl ?_
    refine ao_read trivial (r_assign rfl) rfl ?_
    refine ao_nil ?_
    refine aq_then ?_
    refine aw_ret ?_
    refine aq_ret ?_
    obtain rfl := is_some h
    exact aq_finx (l := [.tmp 2]) (xs := [.int .i64 s1.1]) idn [.int .i64 s1.1] [] rfl (by exact ⟨rfl, trivial⟩) (by exact ⟨ad_ren rfl, trivial⟩) (by exact trivial) rfl (nk rfl) rfl rfl ⟨rfl, rfl⟩
theorem c_impl_fraction {fu : Nat} {x0 : Int} {x1 : Int} {r : (List Int)} (h : Is (p_impl_fraction fu x0 x1) (some r)) :
    Scalar Try.prog 98 [.int .i64 x0, .int .i64 x1] (.v (.arr 2 (.int .i64)) r) := by
  unfold p_impl_fraction at h
  refine ac_enter ⟨22, 0⟩ Try.func98 rfl rfl rfl rfl rfl (fun Γ => ?_)
  refine aw_seq ?_
  refine aw_region ?_
  refine ao_eff trivial (e_alloc 0 (y := .v (.arr 2 (.int .i64)) ((List.replicate 2 0) : (List Int))) Try.zeroValue35 (fun ρ h M => ra_zero_arr (t := (.int .i64)) rfl) rfl rfl rfl rfl rfl) rfl ?_
  refine ao_nil ?_
  refine aq_then ?_
  refine aw_seq ?_
  refine aw_region ?_
  refine ao_read trivial (r_move rfl) rfl ?_
  refine ao_read trivial (r_move rfl) rfl ?_
  refine ao_read trivial (r_assign rfl) rfl ?_
  refine ao_read trivial (r_assign rfl) rfl ?_
  refine ao_nil ?_
  refine aq_then ?_
  refine aw_seq ?_
  refine aw_block ?_
  refine aw_loop (AL.sub (sub_mk idn (by exact ⟨⟨_, rfl, ad_ren rfl⟩, ⟨_, rfl, ad_ren rfl⟩, ⟨_, rfl, ad_ren rfl⟩, ⟨_, rfl, ad_ren rfl⟩, ⟨_, rfl, ad_ren rfl⟩, trivial⟩) (by exact ⟨⟨_, rfl, ⟨rfl, trivial⟩⟩, trivial⟩) (by rfl) (nk rfl)) (al_whl (fun (s1 : Int × Int) => [(0, .int .i64 x0), (1, .int .i64 x1), (4, .ref 0 0), (5, .int .i64 s1.1), (6, .int .i64 s1.2)]) (fun (s1 : Int × Int) => [(0, .var [.arr (.int .i64) 2 ((List.replicate 2 0) : (List Int))])]) (fun (s1 : Int × Int) => True) h trivial (fun d3 s1 hI h ih3 => ?_)))
  replace h := is_whlS h
  refine al_round ?_
  refine aw_seq ?_
  refine aw_seq ?_
  refine aw_region ?_
  refine ao_read trivial (r_move rfl) rfl ?_
  refine ao_read trivial (r_neq rfl rfl) rfl ?_
  refine ao_nil ?_
  refine aq_then ?_
  refine aw_cond rfl (fun hb5 => ?_) (fun hb5 => ?_)
  · have q6 := d_f (not_t hb5)
    replace h := is_else (d_f (not_t hb5)) h
    refine aw_skip ?_
    refine aq_then ?_
    refine aw_block ?_
    obtain ⟨g8, h⟩ := is_guard h
    refine aw_drawAll (by kernel_rfl) ?_
    refine an_read 0 (by kernel_rfl) (fun _ _ _ h => h) rfl (by kernel_rfl) trivial (r_move rfl) rfl ?_
    refine an_read 1 (by kernel_rfl) (fun _ _ _ h => h) rfl (by kernel_rfl) trivial (r_move rfl) rfl ?_
    refine an_read 2 (by kernel_rfl) (fun _ _ _ h => h) rfl (by kernel_rfl) trivial (r_move rfl) rfl ?_
    refine an_read 3 (by kernel_rfl) (fun _ _ _ h => h) rfl (by kernel_rfl) trivial (r_rem rfl rfl g8) rfl ?_
    refine an_read 4 (by kernel_rfl) (fun _ _ _ h => h) rfl (by kernel_rfl) trivial (r_assign rfl) rfl ?_
    refine an_read 5 (by kernel_rfl) (fun _ _ _ h => h) rfl (by kernel_rfl) trivial (r_assign rfl) rfl ?_
    refine an_done rfl ?_
    refine aq_in ?_
    exact aq_again (AL.sub (sub_mk idn (by exact ⟨⟨_, rfl, ad_ren rfl⟩, ⟨_, rfl, ad_ren rfl⟩, ⟨_, rfl, ad_ren rfl⟩, ⟨_, rfl, ad_ren rfl⟩, ⟨_, rfl, ad_ren rfl⟩, trivial⟩) (by exact ⟨⟨_, rfl, ⟨rfl, trivial⟩⟩, trivial⟩) (by rfl) (nk rfl)) (ih3 (s1.2, (s1.1.tmod s1.2)) trivial h))
  · have q7 := d_t (not_f hb5)
    replace h := is_if (d_t (not_f hb5)) h
    refine aw_exit ?_
    refine aq_then_exit ?_
    refine aq_then_exit ?_
    refine aq_in_exit ?_
    refine aq_then ?_
    refine aw_seq ?_
    obtain ⟨g9, h⟩ := is_guard h
    obtain ⟨g10, h⟩ := is_guard h
    refine aw_draw 7 (by kernel_rfl) (by kernel_rfl) ?_
    refine an_read 0 (by kernel_rfl) (fun _ _ _ h => h) rfl (by kernel_rfl) trivial (r_move rfl) rfl ?_
    refine an_read 1 (by kernel_rfl) (fun _ _ _ h => h) rfl (by kernel_rfl) trivial (r_move rfl) rfl ?_
    refine an_read 2 (by kernel_rfl) (fun _ _ _ h => h) rfl (by kernel_rfl) trivial (r_quo rfl rfl g9) rfl ?_
    refine an_read 3 (by kernel_rfl) (fun _ _ _ h => h) rfl (by kernel_rfl) trivial (r_move rfl) rfl ?_
    refine an_read 4 (by kernel_rfl) (fun _ _ _ h => h) rfl (by kernel_rfl) trivial (r_move rfl) rfl ?_
    refine an_read 5 (by kernel_rfl) (fun _ _ _ h => h) rfl (by kernel_rfl) trivial (r_quo rfl rfl g10) rfl ?_
    refine an_read 6 (by kernel_rfl) (fun _ _ _ h => h) rfl (by kernel_rfl) trivial (r_build_arr (l := [(0, .tmp 17), (1, .tmp 20)]) (t := (.int .i64)) ([(IntKind.wrap .i64 (x0.tdiv s1.1)), (IntKind.wrap .i64 (x1.tdiv s1.1))] : (List Int)) rfl Try.underlying35 Try.zeroValue35 Try.sizeOf3 rfl rfl rfl rfl) rfl ?_
    refine an_tail rfl rfl ?_
    refine ao_effS trivial (e_store rfl rfl rfl rfl Try.sizeOf35 rfl) ?_
    refine ao_nil ?_
    refine aq_then ?_
    refine aw_ret ?_
    refine aq_ret ?_
    obtain rfl := is_some h
    exact aq_finx (l := [.cell 4 35]) (xs := [.v (.arr 2 (.int .i64)) ([(IntKind.wrap .i64 (x0.tdiv s1.1)), (IntKind.wrap .i64 (x1.tdiv s1.1))] : (List Int))]) idn [.v (.arr 2 (.int .i64)) ([(IntKind.wrap .i64 (x0.tdiv s1.1)), (IntKind.wrap .i64 (x1.tdiv s1.1))] : (List Int))] [] rfl (by exact ⟨⟨⟨_, _, rfl⟩, r_load_arr rfl Try.isAgg35 Try.sizeOf35 rfl rfl rfl⟩, trivial⟩) (by exact ⟨ad_ren rfl, trivial⟩) (by exact trivial) rfl (nk rfl) rfl rfl ⟨rfl, rfl⟩
theorem c_impl_ChanceToBeat {fu : Nat} {x0 : (List (List Int))} {x1 : (List (List Int))} {r : (List Int) × Bool} (h : Is (p_impl_ChanceToBeat fu x0 x1) (some r)) :
    Scalar Try.prog 58 [.v (.slice (.arr 6 (.int .i64))) x0, .v (.slice (.arr 6 (.int .i64))) x1] (.tup [.v (.arr 2 (.int .i64)) r.1, .bool r.2]) := by
  unfold p_impl_ChanceToBeat at h
  refine ac_enter ⟨48, 0⟩ Try.func58 rfl rfl rfl rfl rfl (fun Γ => ?_)
  refine sl_len_m 0 (x0.length : Int) rfl rfl (fun hl0 => ?_)
  refine sl_len_m 1 (x1.length : Int) rfl rfl (fun hl1 => ?_)
  refine aw_seq ?_
  refine aw_region ?_
  refine ao_eff trivial (e_alloc 0 (y := .v (.arr 2 (.int .i64)) ((List.replicate 2 0) : (List Int))) Try.zeroValue35 (fun ρ h M => ra_zero_arr (t := (.int .i64)) rfl) rfl rfl rfl rfl rfl) rfl ?_
  refine ao_read trivial (r_assign rfl) rfl ?_
  refine ao_nil ?_
  refine aq_then ?_
  refine aw_seq ?_
  refine aw_seq ?_
  refine aw_region ?_
  refine ao_read trivial (r_move rfl) rfl ?_
  refine ao_scall trivial (scall (c_impl_IsPool (is_mk (rfl : p_impl_IsPool x0 = _))) rfl Try.func60 rfl rfl rfl rfl (fun σ => ⟨ad_ren rfl, trivial⟩)) rfl ?_
  refine ao_read trivial (r_not rfl) rfl ?_
  refine ao_read trivial (r_move rfl) rfl ?_
  refine ao_readG (x := .v (.slice (.arr 6 (.int .i64))) x1) rfl (GV.F rfl) (fun hg1 => r_move rfl) rfl ?_
  refine ao_scallG (r := .bool (p_impl_IsPool x1)) rfl (GV.F rfl) (fun hg2 => SCall.strip 15 rfl (hg2) (scall (c_impl_IsPool (is_mk (rfl : p_impl_IsPool x1 = _))) rfl Try.func60 rfl rfl rfl rfl (fun σ => ⟨ad_ren rfl, trivial⟩))) rfl ?_
  refine ao_readG (x := .bool (!(p_impl_IsPool x1))) rfl (GV.F rfl) (fun hg3 => Reads.strip 16 rfl (hg3) (r_not rfl)) rfl ?_
  refine ao_read trivial (r_orB rfl rfl) rfl ?_
  refine ao_nil ?_
  refine aq_then ?_
  refine aw_cond rfl (fun hb4 => ?_) (fun hb4 => ?_)
  · replace h := is_if hb4 h
    refine aw_seq ?_
    refine aw_region ?_
    refine ao_read trivial (r_build_zero (t := (.int .i64)) Try.underlying35 Try.zeroValue35 Try.sizeOf3 rfl) rfl ?_
    refine ao_effS trivial (e_store rfl rfl rfl rfl Try.sizeOf35 rfl) ?_
    refine ao_read trivial (r_assign rfl) rfl ?_
    refine ao_nil ?_
    refine aq_then ?_
    refine aw_ret ?_
    refine aq_then_ret ?_
    refine aq_ret ?_
    obtain rfl := is_some h
    exact aq_finx (l := [.cell 4 35, .tmp 5]) (xs := [.v (.arr 2 (.int .i64)) ((List.replicate 2 0) : (List Int)), .bool false]) idn [.v (.arr 2 (.int .i64)) ((List.replicate 2 0) : (List Int)), .bool false] [] rfl (by exact ⟨⟨⟨_, _, rfl⟩, r_load_arr rfl Try.isAgg35 Try.sizeOf35 rfl rfl rfl⟩, rfl, trivial⟩) (by exact ⟨ad_ren rfl, ad_ren rfl, trivial⟩) (by exact trivial) rfl (nk rfl) rfl rfl ⟨rfl, rfl⟩
  · obtain ⟨q5, q6⟩ := or_f hb4
    replace h := is_else (ne_t hb4) h
    refine aw_skip ?_
    refine aq_then ?_
    refine aw_seq ?_
    refine aw_region ?_
    refine ao_read trivial (r_move rfl) rfl ?_
    obtain ⟨r7, r7h, h⟩ := is_bind h
    refine ao_scall trivial (scall (c_impl_sums (is_mk r7h)) rfl Try.func132 rfl rfl rfl rfl (fun σ => ⟨ad_ren rfl, trivial⟩)) rfl ?_
    refine ao_read trivial (r_move rfl) rfl ?_
    obtain ⟨r8, r8h, h⟩ := is_bind h
    refine ao_scall trivial (scall (c_impl_sums (is_mk r8h)) rfl Try.func132 rfl rfl rfl rfl (fun σ => ⟨ad_ren rfl, trivial⟩)) rfl ?_
    refine ao_eff trivial (e_alloc 1 (y := .v (.arr 121 (.int .i64)) ((List.replicate 121 0) : (List Int))) Try.zeroValue124 (fun ρ h M => ra_zero_arr (t := (.int .i64)) rfl) rfl rfl rfl rfl rfl) rfl ?_
    refine ao_eff trivial (e_alloc 2 (y := .v (.arr 121 (.int .i64)) ((List.replicate 121 0) : (List Int))) Try.zeroValue124 (fun ρ h M => ra_zero_arr (t := (.int .i64)) rfl) rfl rfl rfl rfl rfl) rfl ?_
    refine ao_effS trivial (e_store rfl rfl rfl rfl Try.sizeOf124 rfl) ?_
    refine ao_effS trivial (e_store rfl rfl rfl rfl Try.sizeOf124 rfl) ?_
    refine ao_nil ?_
    refine aq_then ?_
    refine aw_seq ?_
    refine aw_region ?_
    refine ao_read trivial (r_assign rfl) rfl ?_
    refine ao_read trivial (r_assign rfl) rfl ?_
    refine ao_nil ?_
    refine aq_then ?_
    refine aw_seq ?_
    refine aw_seq ?_
    refine aw_region ?_
    refine ao_read trivial (r_move rfl) rfl ?_
    refine ao_nil ?_
    refine aq_then ?_
    refine aw_block ?_
    refine aw_loop (AL.sub (fr' := [(0, .v (.slice (.arr 6 (.int .i64))) x0), (1, .v (.slice (.arr 6 (.int .i64))) x1), (4, .ref 0 0), (6, .ref 1 0), (7, .ref 2 0), (8, .int .i64 0), (9, .int .i64 0), (24, .int .i64 0)]) (H' := [(0, .var [.arr (.int .i64) 2 ((List.replicate 2 0) : (List Int))]), (1, .var [.arr (.int .i64) 121 r7]), (2, .var [.arr (.int .i64) 121 r8])]) (sub_mk idn (by exact ⟨⟨_, rfl, ad_ren rfl⟩, ⟨_, rfl, ad_ren rfl⟩, ⟨_, rfl, ad_ren rfl⟩, ⟨_, rfl, ad_ren rfl⟩, ⟨_, rfl, ad_ren rfl⟩, ⟨_, rfl, ad_ren rfl⟩, ⟨_, rfl, ad_ren rfl⟩, ⟨_, rfl, ad_ren rfl⟩, trivial⟩) (by exact ⟨⟨_, rfl, ⟨rfl, trivial⟩⟩, ⟨_, rfl, ⟨rfl, trivial⟩⟩, ⟨_, rfl, ⟨rfl, trivial⟩⟩, trivial⟩) (by rfl) (nk rfl)) (al_cnt (fun i10 (s9 : Int × Int) => [(0, .v (.slice (.arr 6 (.int .i64))) x0), (1, .v (.slice (.arr 6 (.int .i64))) x1), (4, .ref 0 0), (6, .ref 1 0), (7, .ref 2 0), (8, .int .i64 s9.1), (9, .int .i64 s9.2), (24, .int .i64 i10)]) (fun i10 (s9 : Int × Int) => [(0, .var [.arr (.int .i64) 2 ((List.replicate 2 0) : (List Int))]), (1, .var [.arr (.int .i64) 121 r7]), (2, .var [.arr (.int .i64) 121 r8])]) (fun d i10 (s9 : Int × Int) => d = Int.toNat (121 - i10) ∧ 0 ≤ i10 ∧ i10 ≤ 121) h ⟨rfl, (by (try simp only [List.length_set, List.length_append, List.length_cons, List.length_nil, List.length_replicate, List.length_take, List.length_drop]) <;> omega), (by (try simp only [List.length_set, List.length_append, List.length_cons, List.length_nil, List.length_replicate, List.length_take, List.length_drop]) <;> omega)⟩ (fun d11 i10 s9 hI h ih11 => ?_)))
    obtain ⟨hd, _, _⟩ := hI
    refine al_round ?_
    refine aw_seq ?_
    refine aw_region ?_
    refine ao_read trivial (r_lss rfl rfl) rfl ?_
    refine ao_nil ?_
    refine aq_then ?_
    refine aw_seq ?_
    refine aw_cond rfl (fun hb13 => ?_) (fun hb13 => ?_)
    · have q14 := d_t hb13
      obtain ⟨d11, rfl⟩ : ∃ e, d11 = e + 1 := ⟨d11 - 1, by omega⟩
      replace h := is_cntS h
      refine aw_skip ?_
      refine aq_then ?_
      refine aw_seq ?_
      refine aw_block ?_
      refine aw_seq ?_
      refine aw_region ?_
      refine ao_read trivial (r_move rfl) rfl ?_
      refine ao_read trivial (r_assign rfl) rfl ?_
      refine ao_nil ?_
      refine aq_then ?_
      refine aw_seq ?_
      refine aw_region ?_
      refine ao_read trivial (r_move rfl) rfl ?_
      refine ao_read trivial (r_move rfl) rfl ?_
      refine ao_read trivial (r_idxAddr_arr (i := i10) Try.underlying124 Try.sizeOf3 rfl rfl (show 0 ≤ i10 from by omega) (show i10 < (121 : Int) from by omega)) rfl ?_
      refine ao_read trivial (r_load_elema_int Try.isAgg3 Try.sizeOf3 rfl rfl rfl (show i10.toNat < 121 from by omega)) rfl ?_
      refine ao_read trivial (r_move rfl) rfl ?_
      refine ao_read trivial (r_mul rfl rfl) rfl ?_
      refine ao_read trivial (r_add rfl rfl) rfl ?_
      refine ao_read trivial (r_assign rfl) rfl ?_
      refine ao_nil ?_
      refine aq_then ?_
      refine aw_region ?_
      refine ao_read trivial (r_move rfl) rfl ?_
      refine ao_read trivial (r_move rfl) rfl ?_
      refine ao_read trivial (r_idxAddr_arr (i := i10) Try.underlying124 Try.sizeOf3 rfl rfl (show 0 ≤ i10 from by omega) (show i10 < (121 : Int) from by omega)) rfl ?_
      refine ao_read trivial (r_load_elema_int Try.isAgg3 Try.sizeOf3 rfl rfl rfl (show i10.toNat < 121 from by omega)) rfl ?_
      refine ao_read trivial (r_add rfl rfl) rfl ?_
      refine ao_read trivial (r_assign rfl) rfl ?_
      refine ao_nil ?_
      refine aq_in ?_
      refine aq_then ?_
      refine aw_region ?_
      refine ao_read trivial (r_addI rfl rfl (wrap_id (by omega) (by omega))) rfl ?_
      refine ao_read trivial (r_move rfl) rfl ?_
      refine ao_nil ?_
      exact aq_again (AL.sub (sub_mk idn (by exact ⟨⟨_, rfl, ad_ren rfl⟩, ⟨_, rfl, ad_ren rfl⟩, ⟨_, rfl, ad_ren rfl⟩, ⟨_, rfl, ad_ren rfl⟩, ⟨_, rfl, ad_ren rfl⟩, ⟨_, rfl, ad_ren rfl⟩, ⟨_, rfl, ad_ren rfl⟩, ⟨_, rfl, ad_ren rfl⟩, trivial⟩) (by exact ⟨⟨_, rfl, ⟨rfl, trivial⟩⟩, ⟨_, rfl, ⟨rfl, trivial⟩⟩, ⟨_, rfl, ⟨rfl, trivial⟩⟩, trivial⟩) (by rfl) (nk rfl)) (ih11 d11 (i10 + 1) ((IntKind.wrap .i64 (s9.1 + (IntKind.wrap .i64 ((r7.getD i10.toNat 0) * s9.2)))), (IntKind.wrap .i64 (s9.2 + (r8.getD i10.toNat 0)))) (by omega) ⟨by omega, (by (try simp only [List.length_set, List.length_append, List.length_cons, List.length_nil, List.length_replicate, List.length_take, List.length_drop]) <;> omega), (by (try simp only [List.length_set, List.length_append, List.length_cons, List.length_nil, List.length_replicate, List.length_take, List.length_drop]) <;> omega)⟩ h))
    · have q15 := d_f hb13
      obtain rfl : d11 = 0 := by omega
      replace h := is_cnt0 h
      refine aw_exit ?_
      refine aq_then_exit ?_
      refine aq_then_exit ?_
      refine aq_in_exit ?_
      refine aq_then ?_
      refine aw_seq ?_
      refine aw_region ?_
      refine ao_read trivial (r_move rfl) rfl ?_
      refine ao_read trivial (r_move rfl) rfl ?_
      refine ao_read trivial (r_len_vm (x0.length : Int) Try.underlying54 rfl rfl) rfl ?_
      refine ao_read trivial (r_move rfl) rfl ?_
      refine ao_read trivial (r_len_vm (x1.length : Int) Try.underlying54 rfl rfl) rfl ?_
      refine ao_read trivial (r_add rfl rfl) rfl ?_
      obtain ⟨r16, r16h, h⟩ := is_bind h
      refine ao_scall trivial (scall (c_impl_power (is_mk r16h)) rfl Try.func99 rfl rfl rfl rfl (fun σ => ⟨ad_ren rfl, trivial⟩)) rfl ?_
      obtain ⟨r17, r17h, h⟩ := is_bind h
      refine ao_scall trivial (scall (c_impl_fraction (is_mk r17h)) rfl Try.func98 rfl rfl rfl rfl (fun σ => ⟨ad_ren rfl, ad_ren rfl, trivial⟩)) rfl ?_
      refine ao_effS trivial (e_store rfl rfl rfl rfl Try.sizeOf35 rfl) ?_
      refine ao_read trivial (r_assign rfl) rfl ?_
      refine ao_nil ?_
      refine aq_then ?_
      refine aw_ret ?_
      refine aq_ret ?_
      obtain rfl := is_some h
      exact aq_finx (l := [.cell 4 35, .tmp 5]) (xs := [.v (.arr 2 (.int .i64)) r17, .bool true]) idn [.v (.arr 2 (.int .i64)) r17, .bool true] [] rfl (by exact ⟨⟨⟨_, _, rfl⟩, r_load_arr rfl Try.isAgg35 Try.sizeOf35 rfl rfl rfl⟩, rfl, trivial⟩) (by exact ⟨ad_ren rfl, ad_ren rfl, trivial⟩) (by exact trivial) rfl (nk rfl) rfl rfl ⟨rfl, rfl⟩
theorem c_spec_l2Pool {x0 : (List (List Int))} {r : Bool} (h : Is (p_spec_l2Pool x0) (some r)) :
    Scalar Try.prog 116 [.v (.slice (.arr 6 (.int .i64))) x0] (.bool r) := by
  unfold p_spec_l2Pool at h
  refine ac_enter ⟨23, 0⟩ Try.func116 rfl rfl rfl rfl rfl (fun Γ => ?_)
  refine sl_len_m 0 (x0.length : Int) rfl rfl (fun hl0 => ?_)
  refine aw_seq ?_
  refine aw_region ?_
  refine ao_read trivial (r_assign rfl) rfl ?_
  refine ao_nil ?_
  refine aq_then ?_
  refine aw_seq ?_
  refine aw_seq ?_
  refine aw_region ?_
  refine ao_read trivial (r_assign rfl) rfl ?_
  refine ao_nil ?_
  refine aq_then ?_
  refine aw_block ?_
  refine aw_loop (AL.sub (fr' := [(0, .v (.slice (.arr 6 (.int .i64))) x0), (3, .int .i64 0)]) (H' := []) (sub_mk idn (by exact ⟨⟨_, rfl, ad_ren rfl⟩, ⟨_, rfl, ad_ren rfl⟩, trivial⟩) (by exact trivial) (by rfl) (nk rfl)) (al_cnt (fun i2 (s1 : Unit) => [(0, .v (.slice (.arr 6 (.int .i64))) x0), (3, .int .i64 i2)]) (fun i2 (s1 : Unit) => []) (fun d i2 (s1 : Unit) => d = Int.toNat ((x0.length : Int) - i2) ∧ 0 ≤ i2 ∧ i2 ≤ (x0.length : Int)) h ⟨rfl, (by (try simp only [List.length_set, List.length_append, List.length_cons, List.length_nil, List.length_replicate, List.length_take, List.length_drop]) <;> omega), (by (try simp only [List.length_set, List.length_append, List.length_cons, List.length_nil, List.length_replicate, List.length_take, List.length_drop]) <;> omega)⟩ (fun d3 i2 s1 hI h ih3 => ?_)))
  obtain ⟨hd, _, _⟩ := hI
  refine al_round ?_
  refine aw_seq ?_
  refine aw_seq ?_
  refine aw_region ?_
  refine ao_read trivial (r_move rfl) rfl ?_
  refine ao_read trivial (r_move rfl) rfl ?_
  refine ao_read trivial (r_len_vm (x0.length : Int) Try.underlying54 rfl rfl) rfl ?_
  refine ao_read trivial (r_lss rfl rfl) rfl ?_
  refine ao_read trivial (r_move rfl) rfl ?_
  refine ao_readG (x := .int .i64 i2) rfl (GV.T rfl) (fun hg5 => by
        have q6 := d_t hg5
        exact r_move rfl) rfl ?_
  refine ao_readG (x := .bool (decide (i2 ≤ 4))) rfl (GV.T rfl) (fun hg7 => by
        have q8 := d_t hg7
        exact Reads.strip 9 rfl (hg7) (r_leq rfl rfl)) rfl ?_
  refine ao_read trivial (r_andB rfl rfl) rfl ?_
  refine ao_nil ?_
  refine aq_then ?_
  refine aw_cond rfl (fun hb9 => ?_) (fun hb9 => ?_)
  · obtain ⟨q10, q11⟩ := and_t hb9
    have q12 := d_t q10
    have q13 := d_t q11
    obtain ⟨d3, rfl⟩ : ∃ e, d3 = e + 1 := ⟨d3 - 1, by omega⟩
    replace h := is_if hb9 (is_cntS h)
    refine aw_skip ?_
    refine aq_then ?_
    refine aw_seq ?_
    refine aw_block ?_
    refine aw_seq ?_
    refine aw_region ?_
    refine ao_read trivial (r_move rfl) rfl ?_
    refine ao_read trivial (r_move rfl) rfl ?_
    refine ao_read trivial (r_idxAddr (t := (.arr 6 (.int .i64))) Try.underlying54 Try.sizeOf60 rfl rfl (show 0 ≤ i2 from by omega) (show i2 < (x0.length : Int) from by omega)) rfl ?_
    refine ao_read trivial (r_load_c (t := (.arr 6 (.int .i64))) Try.isAgg60 Try.sizeOf60 rfl) rfl ?_
    obtain ⟨r14, r14h, h⟩ := is_bind h
    refine ao_scall trivial (scall (c_spec_l2Die (is_mk r14h)) rfl Try.func124 rfl rfl rfl rfl (fun σ => ⟨ad_ren rfl, trivial⟩)) rfl ?_
    refine ao_read trivial (r_not rfl) rfl ?_
    refine ao_nil ?_
    refine aq_then ?_
    refine aw_cond rfl (fun hb15 => ?_) (fun hb15 => ?_)
    · replace h := is_else (ne_t (not_t hb15)) h
      refine aw_seq ?_
      refine aw_region ?_
      refine ao_read trivial (r_assign rfl) rfl ?_
      refine ao_nil ?_
      refine aq_then ?_
      refine aw_ret ?_
      refine aq_in_ret ?_
      refine aq_then_ret ?_
      refine aq_then_ret ?_
      refine aq_in_ret ?_
      refine aq_then_ret ?_
      refine aq_ret ?_
      obtain rfl := is_some h
      exact aq_finx (l := [.tmp 2]) (xs := [.bool false]) idn [.bool false] [] rfl (by exact ⟨rfl, trivial⟩) (by exact ⟨ad_ren rfl, trivial⟩) (by exact trivial) rfl (nk rfl) rfl rfl ⟨rfl, rfl⟩
    · replace h := is_if (not_f hb15) h
      refine aw_skip ?_
      refine aq_in ?_
      refine aq_then ?_
      refine aw_region ?_
      refine ao_read trivial (r_move rfl) rfl ?_
      refine ao_read trivial (r_addI rfl rfl (wrap_id (by omega) (by omega))) rfl ?_
      refine ao_read trivial (r_assign rfl) rfl ?_
      refine ao_nil ?_
      exact aq_again (AL.sub (sub_mk idn (by exact ⟨⟨_, rfl, ad_ren rfl⟩, ⟨_, rfl, ad_ren rfl⟩, trivial⟩) (by exact trivial) (by rfl) (nk rfl)) (ih3 d3 (i2 + 1) () (by omega) ⟨by omega, (by (try simp only [List.length_set, List.length_append, List.length_cons, List.length_nil, List.length_replicate, List.length_take, List.length_drop]) <;> omega), (by (try simp only [List.length_set, List.length_append, List.length_cons, List.length_nil, List.length_replicate, List.length_take, List.length_drop]) <;> omega)⟩ h))
  · replace h := is_cntF h (ne_t hb9) (fun _ => rfl)
    refine aw_exit ?_
    refine aq_then_exit ?_
    refine aq_then_exit ?_
    refine aq_in_exit ?_
    refine aq_then ?_
    refine aw_seq ?_
    refine aw_region ?_
    refine ao_read trivial (r_move rfl) rfl ?_
    refine ao_read trivial (r_len_vm (x0.length : Int) Try.underlying54 rfl rfl) rfl ?_
    refine ao_scall trivial (scall (c_spec_l1In (is_mk (rfl : p_spec_l1In (x0.length : Int) 1 4 = _))) rfl Try.func107 rfl rfl rfl rfl (fun σ => ⟨ad_ren rfl, ad_ren rfl, ad_ren rfl, trivial⟩)) rfl ?_
    refine ao_read trivial (r_assign rfl) rfl ?_
    refine ao_nil ?_
    refine aq_then ?_
    refine aw_ret ?_
    refine aq_ret ?_
    obtain rfl := is_some h
    exact aq_finx (l := [.tmp 2]) (xs := [.bool (p_spec_l1In (x0.length : Int) 1 4)]) idn [.bool (p_spec_l1In (x0.length : Int) 1 4)] [] rfl (by exact ⟨rfl, trivial⟩) (by exact ⟨ad_ren rfl, trivial⟩) (by exact trivial) rfl (nk rfl) rfl rfl ⟨rfl, rfl⟩
theorem c_spec_l2Table {x0 : (List (List Int))} {r : (List Int)} (h : Is (p_spec_l2Table x0) (some r)) :
    Scalar Try.prog 169 [.v (.slice (.arr 6 (.int .i64))) x0] (.v (.arr 121 (.int .i64)) r) := by
  unfold p_spec_l2Table at h
  refine ac_enter ⟨53, 0⟩ Try.func169 rfl rfl rfl rfl rfl (fun Γ => ?_)
  refine sl_len_m 0 (x0.length : Int) rfl rfl (fun hl0 => ?_)
  refine aw_seq ?_
  refine aw_region ?_
  refine ao_eff trivial (e_alloc 0 (y := .v (.arr 121 (.int .i64)) ((List.replicate 121 0) : (List Int))) Try.zeroValue124 (fun ρ h M => ra_zero_arr (t := (.int .i64)) rfl) rfl rfl rfl rfl rfl) rfl ?_
  refine ao_nil ?_
  refine aq_then ?_
  refine aw_seq ?_
  refine aw_region ?_
  refine ao_read trivial (r_build_one (i := 0) (by decide) Try.underlying124 Try.zeroValue124 Try.sizeOf3 rfl rfl) rfl ?_
  refine ao_eff trivial (e_alloc 1 (y := .v (.arr 121 (.int .i64)) ((List.replicate 121 0) : (List Int))) Try.zeroValue124 (fun ρ h M => ra_zero_arr (t := (.int .i64)) rfl) rfl rfl rfl rfl rfl) rfl ?_
  refine ao_effS trivial (e_store rfl rfl rfl rfl Try.sizeOf124 rfl) ?_
  refine ao_nil ?_
  refine aq_then ?_
  refine aw_seq ?_
  refine aw_seq ?_
  refine aw_region ?_
  refine ao_read trivial (r_assign rfl) rfl ?_
  refine ao_nil ?_
  refine aq_then ?_
  refine aw_block ?_
  refine aw_loop (AL.sub (fr' := [(0, .v (.slice (.arr 6 (.int .i64))) x0), (2, .ref 0 0), (3, .ref 1 0), (4, .int .i64 0)]) (H' := [(0, .var [.arr (.int .i64) 121 ((List.replicate 121 0) : (List Int))]), (1, .var [.arr (.int .i64) 121 (((List.replicate 121 0).set 0 1) : (List Int))])]) (sub_mk idn (by exact ⟨⟨_, rfl, ad_ren rfl⟩, ⟨_, rfl, ad_ren rfl⟩, ⟨_, rfl, ad_ren rfl⟩, ⟨_, rfl, ad_ren rfl⟩, trivial⟩) (by exact ⟨⟨_, rfl, ⟨rfl, trivial⟩⟩, ⟨_, rfl, ⟨rfl, trivial⟩⟩, trivial⟩) (by rfl) (nk rfl)) (al_cnt (fun i2 (s1 : (List Int)) => [(0, .v (.slice (.arr 6 (.int .i64))) x0), (2, .ref 0 0), (3, .ref 1 0), (4, .int .i64 i2)]) (fun i2 (s1 : (List Int)) => [(0, .var [.arr (.int .i64) 121 ((List.replicate 121 0) : (List Int))]), (1, .var [.arr (.int .i64) 121 s1])]) (fun d i2 (s1 : (List Int)) => d = Int.toNat ((x0.length : Int) - i2) ∧ 0 ≤ i2 ∧ (s1.length : Int) = 121 ∧ i2 ≤ (x0.length : Int)) h ⟨rfl, (by (try simp only [List.length_set, List.length_append, List.length_cons, List.length_nil, List.length_replicate, List.length_take, List.length_drop]) <;> omega), (by (try simp only [List.length_set, List.length_append, List.length_cons, List.length_nil, List.length_replicate, List.length_take, List.length_drop]) <;> omega), (by (try simp only [List.length_set, List.length_append, List.length_cons, List.length_nil, List.length_replicate, List.length_take, List.length_drop]) <;> omega)⟩ (fun d3 i2 s1 hI h ih3 => ?_)))
  obtain ⟨hd, _, _, _⟩ := hI
  refine al_round ?_
  refine aw_seq ?_
  refine aw_seq ?_
  refine aw_region ?_
  refine ao_read trivial (r_move rfl) rfl ?_
  refine ao_read trivial (r_move rfl) rfl ?_
  refine ao_read trivial (r_len_vm (x0.length : Int) Try.underlying54 rfl rfl) rfl ?_
  refine ao_read trivial (r_lss rfl rfl) rfl ?_
  refine ao_nil ?_
  refine aq_then ?_
  refine aw_cond rfl (fun hb5 => ?_) (fun hb5 => ?_)
  · have q6 := d_t hb5
    obtain ⟨d3, rfl⟩ : ∃ e, d3 = e + 1 := ⟨d3 - 1, by omega⟩
    replace h := is_cntS h
    refine aw_skip ?_
    refine aq_then ?_
    refine aw_seq ?_
    refine aw_block ?_
    refine aw_seq ?_
    refine aw_region ?_
    refine ao_read trivial (r_build_zero (t := (.int .i64)) Try.underlying124 Try.zeroValue124 Try.sizeOf3 rfl) rfl ?_
    refine ao_eff trivial (e_alloc 2 (y := .v (.arr 121 (.int .i64)) ((List.replicate 121 0) : (List Int))) Try.zeroValue124 (fun ρ h M => ra_zero_arr (t := (.int .i64)) rfl) rfl rfl rfl rfl rfl) rfl ?_
    refine ao_effS trivial (e_store rfl rfl rfl rfl Try.sizeOf124 rfl) ?_
    refine ao_nil ?_
    refine aq_then ?_
    refine aw_seq ?_
    refine aw_seq ?_
    refine aw_region ?_
    refine ao_read trivial (r_assign rfl) rfl ?_
    refine ao_nil ?_
    refine aq_then ?_
    refine aw_block ?_
    refine aw_loop (AL.sub (fr' := [(0, .v (.slice (.arr 6 (.int .i64))) x0), (2, .ref 0 0), (3, .ref 1 0), (4, .int .i64 i2), (5, .ref 2 0), (6, .int .i64 0)]) (H' := [(0, .var [.arr (.int .i64) 121 ((List.replicate 121 0) : (List Int))]), (1, .var [.arr (.int .i64) 121 s1]), (2, .var [.arr (.int .i64) 121 ((List.replicate 121 0) : (List Int))])]) (sub_mk idn (by exact ⟨⟨_, rfl, ad_ren rfl⟩, ⟨_, rfl, ad_ren rfl⟩, ⟨_, rfl, ad_ren rfl⟩, ⟨_, rfl, ad_ren rfl⟩, ⟨_, rfl, ad_ren rfl⟩, ⟨_, rfl, ad_ren rfl⟩, trivial⟩) (by exact ⟨⟨_, rfl, ⟨rfl, trivial⟩⟩, ⟨_, rfl, ⟨rfl, trivial⟩⟩, ⟨_, rfl, ⟨rfl, trivial⟩⟩, trivial⟩) (by rfl) (nk rfl)) (al_cnt (fun i9 (s8 : (List Int)) => [(0, .v (.slice (.arr 6 (.int .i64))) x0), (2, .ref 0 0), (3, .ref 1 0), (4, .int .i64 i2), (5, .ref 2 0), (6, .int .i64 i9)]) (fun i9 (s8 : (List Int)) => [(0, .var [.arr (.int .i64) 121 ((List.replicate 121 0) : (List Int))]), (1, .var [.arr (.int .i64) 121 s1]), (2, .var [.arr (.int .i64) 121 s8])]) (fun d i9 (s8 : (List Int)) => d = Int.toNat (121 - i9) ∧ 0 ≤ i9 ∧ (s8.length : Int) = 121 ∧ i9 ≤ 121) h ⟨rfl, (by (try simp only [List.length_set, List.length_append, List.length_cons, List.length_nil, List.length_replicate, List.length_take, List.length_drop]) <;> omega), (by (try simp only [List.length_set, List.length_append, List.length_cons, List.length_nil, List.length_replicate, List.length_take, List.length_drop]) <;> omega), (by (try simp only [List.length_set, List.length_append, List.length_cons, List.length_nil, List.length_replicate, List.length_take, List.length_drop]) <;> omega)⟩ (fun d10 i9 s8 hI h ih10 => ?_)))
    obtain ⟨hd, _, _, _⟩ := hI
    refine al_round ?_
    refine aw_seq ?_
    refine aw_seq ?_
    refine aw_region ?_
    refine ao_read trivial (r_move rfl) rfl ?_
    refine ao_read trivial (r_lss rfl rfl) rfl ?_
    refine ao_nil ?_
    refine aq_then ?_
    refine aw_cond rfl (fun hb12 => ?_) (fun hb12 => ?_)
    · have q13 := d_t hb12
      obtain ⟨d10, rfl⟩ : ∃ e, d10 = e + 1 := ⟨d10 - 1, by omega⟩
      replace h := is_cntS h
      refine aw_skip ?_
      refine aq_then ?_
      refine aw_seq ?_
      refine aw_block ?_
      refine aw_seq ?_
      refine aw_region ?_
      refine ao_read trivial (r_assign rfl) rfl ?_
      refine ao_nil ?_
      refine aq_then ?_
      refine aw_block ?_
      refine aw_loop (AL.sub (fr' := [(0, .v (.slice (.arr 6 (.int .i64))) x0), (2, .ref 0 0), (3, .ref 1 0), (4, .int .i64 i2), (5, .ref 2 0), (6, .int .i64 i9), (7, .int .i64 0)]) (H' := [(0, .var [.arr (.int .i64) 121 ((List.replicate 121 0) : (List Int))]), (1, .var [.arr (.int .i64) 121 s1]), (2, .var [.arr (.int .i64) 121 s8])]) (sub_mk idn (by exact ⟨⟨_, rfl, ad_ren rfl⟩, ⟨_, rfl, ad_ren rfl⟩, ⟨_, rfl, ad_ren rfl⟩, ⟨_, rfl, ad_ren rfl⟩, ⟨_, rfl, ad_ren rfl⟩, ⟨_, rfl, ad_ren rfl⟩, ⟨_, rfl, ad_ren rfl⟩, trivial⟩) (by exact ⟨⟨_, rfl, ⟨rfl, trivial⟩⟩, ⟨_, rfl, ⟨rfl, trivial⟩⟩, ⟨_, rfl, ⟨rfl, trivial⟩⟩, trivial⟩) (by rfl) (nk rfl)) (al_cnt (fun i16 (s15 : (List Int)) => [(0, .v (.slice (.arr 6 (.int .i64))) x0), (2, .ref 0 0), (3, .ref 1 0), (4, .int .i64 i2), (5, .ref 2 0), (6, .int .i64 i9), (7, .int .i64 i16)]) (fun i16 (s15 : (List Int)) => [(0, .var [.arr (.int .i64) 121 ((List.replicate 121 0) : (List Int))]), (1, .var [.arr (.int .i64) 121 s1]), (2, .var [.arr (.int .i64) 121 s15])]) (fun d i16 (s15 : (List Int)) => d = Int.toNat (6 - i16) ∧ 0 ≤ i16 ∧ (s15.length : Int) = 121 ∧ i16 ≤ 6) h ⟨rfl, (by (try simp only [List.length_set, List.length_append, List.length_cons, List.length_nil, List.length_replicate, List.length_take, List.length_drop]) <;> omega), (by (try simp only [List.length_set, List.length_append, List.length_cons, List.length_nil, List.length_replicate, List.length_take, List.length_drop]) <;> omega), (by (try simp only [List.length_set, List.length_append, List.length_cons, List.length_nil, List.length_replicate, List.length_take, List.length_drop]) <;> omega)⟩ (fun d17 i16 s15 hI h ih17 => ?_)))
      obtain ⟨hd, _, _, _⟩ := hI
      refine al_round ?_
      refine aw_seq ?_
      refine aw_seq ?_
      refine aw_region ?_
      refine ao_read trivial (r_move rfl) rfl ?_
      refine ao_read trivial (r_lss rfl rfl) rfl ?_
      refine ao_nil ?_
      refine aq_then ?_
      refine aw_cond rfl (fun hb19 => ?_) (fun hb19 => ?_)
      · have q20 := d_t hb19
        obtain ⟨d17, rfl⟩ : ∃ e, d17 = e + 1 := ⟨d17 - 1, by omega⟩
        replace h := is_cntS h
        refine aw_skip ?_
        refine aq_then ?_
        refine aw_seq ?_
        refine aw_block ?_
        refine aw_seq ?_
        refine aw_region ?_
        refine ao_read trivial (r_move rfl) rfl ?_
        refine ao_read trivial (r_idxAddr_arr (i := i9) Try.underlying124 Try.sizeOf3 rfl rfl (show 0 ≤ i9 from by omega) (show i9 < (121 : Int) from by omega)) rfl ?_
        refine ao_read trivial (r_load_elema_int Try.isAgg3 Try.sizeOf3 rfl rfl rfl (show i9.toNat < 121 from by omega)) rfl ?_
        refine ao_read trivial (r_gtr rfl rfl) rfl ?_
        refine ao_nil ?_
        refine aq_then ?_
        refine aw_cond rfl (fun hb22 => ?_) (fun hb22 => ?_)
        · have q23 : 0 < (s1.getD i9.toNat 0) := d_t hb22
          replace h := is_if (d_t hb22) h
          obtain ⟨g25, h⟩ := is_guard h
          obtain ⟨g26, h⟩ := is_guard h
          refine aw_draw 23 (by kernel_rfl) (by kernel_rfl) ?_
          refine an_read 0 (by kernel_rfl) (fun _ _ _ h => h) rfl (by kernel_rfl) trivial (r_move rfl) rfl ?_
          refine an_read 1 (by kernel_rfl) (fun _ _ _ h => h) rfl (by kernel_rfl) trivial (r_move rfl) rfl ?_
          refine an_read 2 (by kernel_rfl) (fun _ _ _ h => h) rfl (by kernel_rfl) trivial (r_move rfl) rfl ?_
          refine an_read 3 (by kernel_rfl) (fun _ _ _ h => h) rfl (by kernel_rfl) trivial (r_move rfl) rfl ?_
          refine an_read 4 (by kernel_rfl) (fun _ _ _ h => h) rfl (by kernel_rfl) trivial (r_idxAddr (t := (.arr 6 (.int .i64))) Try.underlying54 Try.sizeOf60 rfl rfl (show 0 ≤ i2 from by omega) (show i2 < (x0.length : Int) from by omega)) rfl ?_
          refine an_read 5 (by kernel_rfl) (fun _ _ _ h => h) rfl (by kernel_rfl) trivial (r_idxAddr_ca (t := (.int .i64)) Try.underlying60 Try.sizeOf3 rfl rfl (by omega) (by omega)) rfl ?_
          refine an_read 6 (by kernel_rfl) (fun _ _ _ h => h) rfl (by kernel_rfl) trivial (r_load_c_int Try.isAgg3 Try.sizeOf3 rfl) rfl ?_
          refine an_read 7 (by kernel_rfl) (fun _ _ _ h => h) rfl (by kernel_rfl) trivial (r_add rfl rfl) rfl ?_
          refine an_read 8 (by kernel_rfl) (fun _ _ _ h => h) rfl (by kernel_rfl) trivial (r_move rfl) rfl ?_
          refine an_read 9 (by kernel_rfl) (fun _ _ _ h => h) rfl (by kernel_rfl) trivial (r_move rfl) rfl ?_
          refine an_read 10 (by kernel_rfl) (fun _ _ _ h => h) rfl (by kernel_rfl) trivial (r_move rfl) rfl ?_
          refine an_read 11 (by kernel_rfl) (fun _ _ _ h => h) rfl (by kernel_rfl) trivial (r_move rfl) rfl ?_
          refine an_read 12 (by kernel_rfl) (fun _ _ _ h => h) rfl (by kernel_rfl) trivial (r_idxAddr (t := (.arr 6 (.int .i64))) Try.underlying54 Try.sizeOf60 rfl rfl (show 0 ≤ i2 from by omega) (show i2 < (x0.length : Int) from by omega)) rfl ?_
          refine an_read 13 (by kernel_rfl) (fun _ _ _ h => h) rfl (by kernel_rfl) trivial (r_idxAddr_ca (t := (.int .i64)) Try.underlying60 Try.sizeOf3 rfl rfl (by omega) (by omega)) rfl ?_
          refine an_read 14 (by kernel_rfl) (fun _ _ _ h => h) rfl (by kernel_rfl) trivial (r_load_c_int Try.isAgg3 Try.sizeOf3 rfl) rfl ?_
          refine an_read 15 (by kernel_rfl) (fun _ _ _ h => h) rfl (by kernel_rfl) trivial (r_add rfl rfl) rfl ?_
          refine an_read 16 (by kernel_rfl) (fun _ _ _ h => h) rfl (by kernel_rfl) trivial (r_idxAddr_arr (i := (IntKind.wrap .i64 (i9 + ((x0.getD i2.toNat (List.replicate 6 0)).getD i16.toNat 0)))) Try.underlying124 Try.sizeOf3 rfl rfl (show 0 ≤ (IntKind.wrap .i64 (i9 + ((x0.getD i2.toNat (List.replicate 6 0)).getD i16.toNat 0))) from by (try simp only [List.length_replicate]) <;> omega) (show (IntKind.wrap .i64 (i9 + ((x0.getD i2.toNat (List.replicate 6 0)).getD i16.toNat 0))) < (121 : Int) from by (try simp only [List.length_replicate]) <;> omega)) rfl ?_
          refine an_read 17 (by kernel_rfl) (fun _ _ _ h => h) rfl (by kernel_rfl) trivial (r_load_elema_int Try.isAgg3 Try.sizeOf3 rfl rfl rfl (show (IntKind.wrap .i64 (i9 + ((x0.getD i2.toNat (List.replicate 6 0)).getD i16.toNat 0))).toNat < 121 from by (try simp only [List.length_replicate]) <;> omega)) rfl ?_
          refine an_read 18 (by kernel_rfl) (fun _ _ _ h => h) rfl (by kernel_rfl) trivial (r_move rfl) rfl ?_
          refine an_read 19 (by kernel_rfl) (fun _ _ _ h => h) rfl (by kernel_rfl) trivial (r_idxAddr_arr (i := i9) Try.underlying124 Try.sizeOf3 rfl rfl (show 0 ≤ i9 from by omega) (show i9 < (121 : Int) from by omega)) rfl ?_
          refine an_read 20 (by kernel_rfl) (fun _ _ _ h => h) rfl (by kernel_rfl) trivial (r_load_elema_int Try.isAgg3 Try.sizeOf3 rfl rfl rfl (show i9.toNat < 121 from by omega)) rfl ?_
          refine an_read 21 (by kernel_rfl) (fun _ _ _ h => h) rfl (by kernel_rfl) trivial (r_add rfl rfl) rfl ?_
          refine an_read 22 (by kernel_rfl) (fun _ _ _ h => h) rfl (by kernel_rfl) trivial (r_idxAddr_arr (i := (IntKind.wrap .i64 (i9 + ((x0.getD i2.toNat (List.replicate 6 0)).getD i16.toNat 0)))) Try.underlying124 Try.sizeOf3 rfl rfl (show 0 ≤ (IntKind.wrap .i64 (i9 + ((x0.getD i2.toNat (List.replicate 6 0)).getD i16.toNat 0))) from by (try simp only [List.length_replicate]) <;> omega) (show (IntKind.wrap .i64 (i9 + ((x0.getD i2.toNat (List.replicate 6 0)).getD i16.toNat 0))) < (121 : Int) from by (try simp only [List.length_replicate]) <;> omega)) rfl ?_
          refine an_tail rfl rfl ?_
          refine ao_effS trivial (e_store_elema_int Try.sizeOf3 rfl rfl rfl rfl (show (IntKind.wrap .i64 (i9 + ((x0.getD i2.toNat (List.replicate 6 0)).getD i16.toNat 0))).toNat < 121 from by (try simp only [List.length_replicate]) <;> omega) rfl) ?_
          refine ao_nil ?_
          refine aq_in ?_
          refine aq_then ?_
          refine aw_region ?_
          refine ao_read trivial (r_move rfl) rfl ?_
          refine ao_read trivial (r_addI rfl rfl (wrap_id (by omega) (by omega))) rfl ?_
          refine ao_read trivial (r_assign rfl) rfl ?_
          refine ao_nil ?_
          exact aq_again (AL.sub (sub_mk idn (by exact ⟨⟨_, rfl, ad_ren rfl⟩, ⟨_, rfl, ad_ren rfl⟩, ⟨_, rfl, ad_ren rfl⟩, ⟨_, rfl, ad_ren rfl⟩, ⟨_, rfl, ad_ren rfl⟩, ⟨_, rfl, ad_ren rfl⟩, ⟨_, rfl, ad_ren rfl⟩, trivial⟩) (by exact ⟨⟨_, rfl, ⟨rfl, trivial⟩⟩, ⟨_, rfl, ⟨rfl, trivial⟩⟩, ⟨_, rfl, ⟨rfl, trivial⟩⟩, trivial⟩) (by rfl) (nk rfl)) (ih17 d17 (i16 + 1) (s15.set (IntKind.wrap .i64 (i9 + ((x0.getD i2.toNat (List.replicate 6 0)).getD i16.toNat 0))).toNat (IntKind.wrap .i64 ((s15.getD (IntKind.wrap .i64 (i9 + ((x0.getD i2.toNat (List.replicate 6 0)).getD i16.toNat 0))).toNat 0) + (s1.getD i9.toNat 0)))) (by omega) ⟨by omega, (by (try simp only [List.length_set, List.length_append, List.length_cons, List.length_nil, List.length_replicate, List.length_take, List.length_drop]) <;> omega), (by (try simp only [List.length_set, List.length_append, List.length_cons, List.length_nil, List.length_replicate, List.length_take, List.length_drop]) <;> omega), (by (try simp only [List.length_set, List.length_append, List.length_cons, List.length_nil, List.length_replicate, List.length_take, List.length_drop]) <;> omega)⟩ h))
        · have q24 : ¬ (0 < (s1.getD i9.toNat 0)) := d_f hb22
          replace h := is_else (d_f hb22) h
          refine aw_skip ?_
          refine aq_in ?_
          refine aq_then ?_
          refine aw_region ?_
          refine ao_read trivial (r_move rfl) rfl ?_
          refine ao_read trivial (r_addI rfl rfl (wrap_id (by omega) (by omega))) rfl ?_
          refine ao_read trivial (r_assign rfl) rfl ?_
          refine ao_nil ?_
          exact aq_again (AL.sub (sub_mk idn (by exact ⟨⟨_, rfl, ad_ren rfl⟩, ⟨_, rfl, ad_ren rfl⟩, ⟨_, rfl, ad_ren rfl⟩, ⟨_, rfl, ad_ren rfl⟩, ⟨_, rfl, ad_ren rfl⟩, ⟨_, rfl, ad_ren rfl⟩, ⟨_, rfl, ad_ren rfl⟩, trivial⟩) (by exact ⟨⟨_, rfl, ⟨rfl, trivial⟩⟩, ⟨_, rfl, ⟨rfl, trivial⟩⟩, ⟨_, rfl, ⟨rfl, trivial⟩⟩, trivial⟩) (by rfl) (nk rfl)) (ih17 d17 (i16 + 1) s15 (by omega) ⟨by omega, (by (try simp only [List.length_set, List.length_append, List.length_cons, List.length_nil, List.length_replicate, List.length_take, List.length_drop]) <;> omega), (by (try simp only [List.length_set, List.length_append, List.length_cons, List.length_nil, List.length_replicate, List.length_take, List.length_drop]) <;> omega), (by (try simp only [List.length_set, List.length_append, List.length_cons, List.length_nil, List.length_replicate, List.length_take, List.length_drop]) <;> omega)⟩ h))
      · have q21 := d_f hb19
        obtain rfl : d17 = 0 := by omega
        replace h := is_cnt0 h
        refine aw_exit ?_
        refine aq_then_exit ?_
        refine aq_then_exit ?_
        refine aq_in_exit ?_
        refine aq_in ?_
        refine aq_then ?_
        refine aw_region ?_
        refine ao_read trivial (r_move rfl) rfl ?_
        refine ao_read trivial (r_addI rfl rfl (wrap_id (by omega) (by omega))) rfl ?_
        refine ao_read trivial (r_assign rfl) rfl ?_
        refine ao_nil ?_
        exact aq_again (AL.sub (sub_mk idn (by exact ⟨⟨_, rfl, ad_ren rfl⟩, ⟨_, rfl, ad_ren rfl⟩, ⟨_, rfl, ad_ren rfl⟩, ⟨_, rfl, ad_ren rfl⟩, ⟨_, rfl, ad_ren rfl⟩, ⟨_, rfl, ad_ren rfl⟩, trivial⟩) (by exact ⟨⟨_, rfl, ⟨rfl, trivial⟩⟩, ⟨_, rfl, ⟨rfl, trivial⟩⟩, ⟨_, rfl, ⟨rfl, trivial⟩⟩, trivial⟩) (by rfl) (nk rfl)) (ih10 d10 (i9 + 1) s15 (by omega) ⟨by omega, (by (try simp only [List.length_set, List.length_append, List.length_cons, List.length_nil, List.length_replicate, List.length_take, List.length_drop]) <;> omega), (by (try simp only [List.length_set, List.length_append, List.length_cons, List.length_nil, List.length_replicate, List.length_take, List.length_drop]) <;> omega), (by (try simp only [List.length_set, List.length_append, List.length_cons, List.length_nil, List.length_replicate, List.length_take, List.length_drop]) <;> omega)⟩ h))
    · have q14 := d_f hb12
      obtain rfl : d10 = 0 := by omega
      replace h := is_cnt0 h
      refine aw_exit ?_
      refine aq_then_exit ?_
      refine aq_then_exit ?_
      refine aq_in_exit ?_
      refine aq_then ?_
      refine aw_region ?_
      refine ao_read trivial (r_load_arr rfl Try.isAgg124 Try.sizeOf124 rfl rfl rfl) rfl ?_
      refine ao_effS trivial (e_store rfl rfl rfl rfl Try.sizeOf124 rfl) ?_
      refine ao_nil ?_
      refine aq_in ?_
      refine aq_then ?_
      refine aw_region ?_
      refine ao_read trivial (r_move rfl) rfl ?_
      refine ao_read trivial (r_addI rfl rfl (wrap_id (by omega) (by omega))) rfl ?_
      refine ao_read trivial (r_assign rfl) rfl ?_
      refine ao_nil ?_
      exact aq_again (AL.sub (sub_mk idn (by exact ⟨⟨_, rfl, ad_ren rfl⟩, ⟨_, rfl, ad_ren rfl⟩, ⟨_, rfl, ad_ren rfl⟩, ⟨_, rfl, ad_ren rfl⟩, trivial⟩) (by exact ⟨⟨_, rfl, ⟨rfl, trivial⟩⟩, ⟨_, rfl, ⟨rfl, trivial⟩⟩, trivial⟩) (by rfl) (nk rfl)) (ih3 d3 (i2 + 1) s8 (by omega) ⟨by omega, (by (try simp only [List.length_set, List.length_append, List.length_cons, List.length_nil, List.length_replicate, List.length_take, List.length_drop]) <;> omega), (by (try simp only [List.length_set, List.length_append, List.length_cons, List.length_nil, List.length_replicate, List.length_take, List.length_drop]) <;> omega), (by (try simp only [List.length_set, List.length_append, List.length_cons, List.length_nil, List.length_replicate, List.length_take, List.length_drop]) <;> omega)⟩ h))
  · have q7 := d_f hb5
    obtain rfl : d3 = 0 := by omega
    replace h := is_cnt0 h
    refine aw_exit ?_
    refine aq_then_exit ?_
    refine aq_then_exit ?_
    refine aq_in_exit ?_
    refine aq_then ?_
    refine aw_seq ?_
    refine aw_region ?_
    refine ao_read trivial (r_load_arr rfl Try.isAgg124 Try.sizeOf124 rfl rfl rfl) rfl ?_
    refine ao_effS trivial (e_store rfl rfl rfl rfl Try.sizeOf124 rfl) ?_
    refine ao_nil ?_
    refine aq_then ?_
    refine aw_ret ?_
    refine aq_ret ?_
    obtain rfl := is_some h
    exact aq_finx (l := [.cell 2 124]) (xs := [.v (.arr 121 (.int .i64)) s1]) idn [.v (.arr 121 (.int .i64)) s1] [] rfl (by exact ⟨⟨⟨_, _, rfl⟩, r_load_arr rfl Try.isAgg124 Try.sizeOf124 rfl rfl rfl⟩, trivial⟩) (by exact ⟨ad_ren rfl, trivial⟩) (by exact trivial) rfl (nk rfl) rfl rfl ⟨rfl, rfl⟩
theorem c_spec_l2All {fu : Nat} {x0 : Int} {r : Int} (h : Is (p_spec_l2All fu x0) (some r)) :
    Scalar Try.prog 101 [.int .i64 x0] (.int .i64 r) := by
  unfold p_spec_l2All at h
  refine ac_enter ⟨13, 0⟩ Try.func101 rfl rfl rfl rfl rfl (fun Γ => ?_)
  refine aw_seq ?_
  refine aw_region ?_
  refine ao_read trivial (r_assign rfl) rfl ?_
  refine ao_nil ?_
  refine aq_then ?_
  refine aw_seq ?_
  refine aw_region ?_
  refine ao_read trivial (r_assign rfl) rfl ?_
  refine ao_nil ?_
  refine aq_then ?_
  refine aw_seq ?_
  refine aw_seq ?_
  refine aw_region ?_
  refine ao_read trivial (r_assign rfl) rfl ?_
  refine ao_nil ?_
  refine aq_then ?_
  refine aw_block ?_
  refine aw_loop (AL.sub (sub_mk idn (by exact ⟨⟨_, rfl, ad_ren rfl⟩, ⟨_, rfl, ad_ren rfl⟩, ⟨_, rfl, ad_ren rfl⟩, trivial⟩) (by exact trivial) (by rfl) (nk rfl)) (al_whl (fun (s1 : Int × Int) => [(0, .int .i64 x0), (3, .int .i64 s1.1), (4, .int .i64 s1.2)]) (fun (s1 : Int × Int) => []) (fun (s1 : Int × Int) => True) h trivial (fun d3 s1 hI h ih3 => ?_)))
  replace h := is_whlS h
  refine al_round ?_
  refine aw_seq ?_
  refine aw_seq ?_
  refine aw_region ?_
  refine ao_read trivial (r_move rfl) rfl ?_
  refine ao_read trivial (r_move rfl) rfl ?_
  refine ao_read trivial (r_lss rfl rfl) rfl ?_
  refine ao_nil ?_
  refine aq_then ?_
  refine aw_cond rfl (fun hb5 => ?_) (fun hb5 => ?_)
  · have q6 := d_t hb5
    replace h := is_if (d_t hb5) h
    refine aw_skip ?_
    refine aq_then ?_
    refine aw_seq ?_
    refine aw_block ?_
    refine aw_region ?_
    refine ao_read trivial (r_move rfl) rfl ?_
    refine ao_read trivial (r_mul rfl rfl) rfl ?_
    refine ao_read trivial (r_assign rfl) rfl ?_
    refine ao_nil ?_
    refine aq_in ?_
    refine aq_then ?_
    refine aw_region ?_
    refine ao_read trivial (r_move rfl) rfl ?_
    refine ao_read trivial (r_add rfl rfl) rfl ?_
    refine ao_read trivial (r_assign rfl) rfl ?_
    refine ao_nil ?_
    exact aq_again (AL.sub (sub_mk idn (by exact ⟨⟨_, rfl, ad_ren rfl⟩, ⟨_, rfl, ad_ren rfl⟩, ⟨_, rfl, ad_ren rfl⟩, trivial⟩) (by exact trivial) (by rfl) (nk rfl)) (ih3 ((IntKind.wrap .i64 (s1.1 * 6)), (IntKind.wrap .i64 (s1.2 + 1))) trivial h))
  · have q7 := d_f hb5
    replace h := is_else (d_f hb5) h
    refine aw_exit ?_
    refine aq_then_exit ?_
    refine aq_then_exit ?_
    refine aq_in_exit ?_
    refine aq_then ?_
    refine aw_seq ?_
    refine aw_region ?_
    refine ao_read trivial (r_move rfl) rfl ?_
    refine ao_read trivial (r_assign rfl) rfl ?_
    refine ao_nil ?_
    refine aq_then ?_
    refine aw_ret ?_
    refine aq_ret ?_
    obtain rfl := is_some h
    exact aq_finx (l := [.tmp 2]) (xs := [.int .i64 s1.1]) idn [.int .i64 s1.1] [] rfl (by exact ⟨rfl, trivial⟩) (by exact ⟨ad_ren rfl, trivial⟩) (by exact trivial) rfl (nk rfl) rfl rfl ⟨rfl, rfl⟩
theorem c_spec_l1Most {x0 : Int} {x1 : Int} {r : Int} (h : Is (p_spec_l1Most x0 x1) r) :
    Scalar Try.prog 164 [.int .i64 x0, .int .i64 x1] (.int .i64 r) := by
  unfold p_spec_l1Most at h
  refine ac_enter ⟨10, 0⟩ Try.func164 rfl rfl rfl rfl rfl (fun Γ => ?_)
  refine aw_seq ?_
  refine aw_region ?_
  refine ao_read trivial (r_assign rfl) rfl ?_
  refine ao_nil ?_
  refine aq_then ?_
  refine aw_seq ?_
  refine aw_seq ?_
  refine aw_region ?_
  refine ao_read trivial (r_move rfl) rfl ?_
  refine ao_read trivial (r_move rfl) rfl ?_
  refine ao_read trivial (r_gtr rfl rfl) rfl ?_
  refine ao_nil ?_
  refine aq_then ?_
  refine aw_cond rfl (fun hb1 => ?_) (fun hb1 => ?_)
  · have q2 := d_t hb1
    replace h := is_if (d_t hb1) h
    refine aw_seq ?_
    refine aw_region ?_
    refine ao_read trivial (r_move rfl) rfl ?_
    refine ao_read trivial (r_assign rfl) rfl ?_
    refine ao_nil ?_
    refine aq_then ?_
    refine aw_ret ?_
    refine aq_then_ret ?_
    refine aq_ret ?_
    obtain rfl := is_eq h
    exact aq_finx (l := [.tmp 4]) (xs := [.int .i64 x0]) idn [.int .i64 x0] [] rfl (by exact ⟨rfl, trivial⟩) (by exact ⟨ad_ren rfl, trivial⟩) (by exact trivial) rfl (nk rfl) rfl rfl ⟨rfl, rfl⟩
  · have q3 := d_f hb1
    replace h := is_else (d_f hb1) h
    refine aw_skip ?_
    refine aq_then ?_
    refine aw_seq ?_
    refine aw_region ?_
    refine ao_read trivial (r_move rfl) rfl ?_
    refine ao_read trivial (r_assign rfl) rfl ?_
    refine ao_nil ?_
    refine aq_then ?_
    refine aw_ret ?_
    refine aq_ret ?_
    obtain rfl := is_eq h
    exact aq_finx (l := [.tmp 4]) (xs := [.int .i64 x1]) idn [.int .i64 x1] [] rfl (by exact ⟨rfl, trivial⟩) (by exact ⟨ad_ren rfl, trivial⟩) (by exact trivial) rfl (nk rfl) rfl rfl ⟨rfl, rfl⟩
theorem c_spec_l2Cut {fu : Nat} {x0 : Int} {x1 : Int} {r : (List Int)} (h : Is (p_spec_l2Cut fu x0 x1) (some r)) :
    Scalar Try.prog 100 [.int .i64 x0, .int .i64 x1] (.v (.arr 2 (.int .i64)) r) := by
  unfold p_spec_l2Cut at h
  refine ac_enter ⟨24, 0⟩ Try.func100 rfl rfl rfl rfl rfl (fun Γ => ?_)
  refine aw_seq ?_
  refine aw_region ?_
  refine ao_eff trivial (e_alloc 0 (y := .v (.arr 2 (.int .i64)) ((List.replicate 2 0) : (List Int))) Try.zeroValue35 (fun ρ h M => ra_zero_arr (t := (.int .i64)) rfl) rfl rfl rfl rfl rfl) rfl ?_
  refine ao_nil ?_
  refine aq_then ?_
  refine aw_seq ?_
  refine aw_region ?_
  refine ao_read trivial (r_move rfl) rfl ?_
  refine ao_read trivial (r_move rfl) rfl ?_
  refine ao_read trivial (r_assign rfl) rfl ?_
  refine ao_read trivial (r_assign rfl) rfl ?_
  refine ao_nil ?_
  refine aq_then ?_
  refine aw_seq ?_
  refine aw_block ?_
  refine aw_loop (AL.sub (sub_mk idn (by exact ⟨⟨_, rfl, ad_ren rfl⟩, ⟨_, rfl, ad_ren rfl⟩, ⟨_, rfl, ad_ren rfl⟩, ⟨_, rfl, ad_ren rfl⟩, ⟨_, rfl, ad_ren rfl⟩, trivial⟩) (by exact ⟨⟨_, rfl, ⟨rfl, trivial⟩⟩, trivial⟩) (by rfl) (nk rfl)) (al_whl (fun (s1 : Int × Int) => [(0, .int .i64 x0), (1, .int .i64 x1), (4, .ref 0 0), (5, .int .i64 s1.1), (6, .int .i64 s1.2)]) (fun (s1 : Int × Int) => [(0, .var [.arr (.int .i64) 2 ((List.replicate 2 0) : (List Int))])]) (fun (s1 : Int × Int) => True) h trivial (fun d3 s1 hI h ih3 => ?_)))
  replace h := is_whlS h
  refine al_round ?_
  refine aw_seq ?_
  refine aw_seq ?_
  refine aw_region ?_
  refine ao_read trivial (r_move rfl) rfl ?_
  refine ao_read trivial (r_gtr rfl rfl) rfl ?_
  refine ao_nil ?_
  refine aq_then ?_
  refine aw_cond rfl (fun hb5 => ?_) (fun hb5 => ?_)
  · have q6 := d_t hb5
    replace h := is_if (d_t hb5) h
    refine aw_skip ?_
    refine aq_then ?_
    refine aw_block ?_
    refine aw_drawAll (by kernel_rfl) ?_
    refine an_read 0 (by kernel_rfl) (fun _ _ _ h => h) rfl (by kernel_rfl) trivial (r_move rfl) rfl ?_
    refine an_read 1 (by kernel_rfl) (fun _ _ _ h => h) rfl (by kernel_rfl) trivial (r_move rfl) rfl ?_
    refine an_read 2 (by kernel_rfl) (fun _ _ _ h => h) rfl (by kernel_rfl) trivial (r_move rfl) rfl ?_
    refine an_read 3 (by kernel_rfl) (fun _ _ _ h => h) rfl (by kernel_rfl) trivial (r_rem rfl rfl (by omega)) rfl ?_
    refine an_read 4 (by kernel_rfl) (fun _ _ _ h => h) rfl (by kernel_rfl) trivial (r_assign rfl) rfl ?_
    refine an_read 5 (by kernel_rfl) (fun _ _ _ h => h) rfl (by kernel_rfl) trivial (r_assign rfl) rfl ?_
    refine an_done rfl ?_
    refine aq_in ?_
    exact aq_again (AL.sub (sub_mk idn (by exact ⟨⟨_, rfl, ad_ren rfl⟩, ⟨_, rfl, ad_ren rfl⟩, ⟨_, rfl, ad_ren rfl⟩, ⟨_, rfl, ad_ren rfl⟩, ⟨_, rfl, ad_ren rfl⟩, trivial⟩) (by exact ⟨⟨_, rfl, ⟨rfl, trivial⟩⟩, trivial⟩) (by rfl) (nk rfl)) (ih3 (s1.2, (s1.1.tmod s1.2)) trivial h))
  · have q7 := d_f hb5
    replace h := is_else (d_f hb5) h
    refine aw_exit ?_
    refine aq_then_exit ?_
    refine aq_then_exit ?_
    refine aq_in_exit ?_
    refine aq_then ?_
    refine aw_seq ?_
    obtain ⟨g8, h⟩ := is_guard h
    obtain ⟨g9, h⟩ := is_guard h
    refine aw_draw 9 (by kernel_rfl) (by kernel_rfl) ?_
    refine an_read 0 (by kernel_rfl) (fun _ _ _ h => h) rfl (by kernel_rfl) trivial (r_move rfl) rfl ?_
    refine an_read 1 (by kernel_rfl) (fun _ _ _ h => h) rfl (by kernel_rfl) trivial (r_move rfl) rfl ?_
    refine an_scall 2 (by kernel_rfl) (fun _ _ _ h => h) rfl (by kernel_rfl) trivial (scall (c_spec_l1Most (is_mk (rfl : p_spec_l1Most s1.1 1 = _))) rfl Try.func164 rfl rfl rfl rfl (fun σ => ⟨ad_ren rfl, ad_ren rfl, trivial⟩)) rfl ?_
    refine an_read 3 (by kernel_rfl) (fun _ _ _ h => h) rfl (by kernel_rfl) trivial (r_quo rfl rfl g8) rfl ?_
    refine an_read 4 (by kernel_rfl) (fun _ _ _ h => h) rfl (by kernel_rfl) trivial (r_move rfl) rfl ?_
    refine an_read 5 (by kernel_rfl) (fun _ _ _ h => h) rfl (by kernel_rfl) trivial (r_move rfl) rfl ?_
    refine an_scall 6 (by kernel_rfl) (fun _ _ _ h => h) rfl (by kernel_rfl) trivial (scall (c_spec_l1Most (is_mk (rfl : p_spec_l1Most s1.1 1 = _))) rfl Try.func164 rfl rfl rfl rfl (fun σ => ⟨ad_ren rfl, ad_ren rfl, trivial⟩)) rfl ?_
    refine an_read 7 (by kernel_rfl) (fun _ _ _ h => h) rfl (by kernel_rfl) trivial (r_quo rfl rfl g9) rfl ?_
    refine an_read 8 (by kernel_rfl) (fun _ _ _ h => h) rfl (by kernel_rfl) trivial (r_build_arr (l := [(0, .tmp 18), (1, .tmp 22)]) (t := (.int .i64)) ([(IntKind.wrap .i64 (x0.tdiv (p_spec_l1Most s1.1 1))), (IntKind.wrap .i64 (x1.tdiv (p_spec_l1Most s1.1 1)))] : (List Int)) rfl Try.underlying35 Try.zeroValue35 Try.sizeOf3 rfl rfl rfl rfl) rfl ?_
    refine an_tail rfl rfl ?_
    refine ao_effS trivial (e_store rfl rfl rfl rfl Try.sizeOf35 rfl) ?_
    refine ao_nil ?_
    refine aq_then ?_
    refine aw_ret ?_
    refine aq_ret ?_
    obtain rfl := is_some h
    exact aq_finx (l := [.cell 4 35]) (xs := [.v (.arr 2 (.int .i64)) ([(IntKind.wrap .i64 (x0.tdiv (p_spec_l1Most s1.1 1))), (IntKind.wrap .i64 (x1.tdiv (p_spec_l1Most s1.1 1)))] : (List Int))]) idn [.v (.arr 2 (.int .i64)) ([(IntKind.wrap .i64 (x0.tdiv (p_spec_l1Most s1.1 1))), (IntKind.wrap .i64 (x1.tdiv (p_spec_l1Most s1.1 1)))] : (List Int))] [] rfl (by exact ⟨⟨⟨_, _, rfl⟩, r_load_arr rfl Try.isAgg35 Try.sizeOf35 rfl rfl rfl⟩, trivial⟩) (by exact ⟨ad_ren rfl, trivial⟩) (by exact trivial) rfl (nk rfl) rfl rfl ⟨rfl, rfl⟩
theorem c_spec_l3Chance {fu : Nat} {x0 : (List (List Int))} {x1 : (List (List Int))} {x2 : Bool} {r : (List Int)} (h : Is (p_spec_l3Chance fu x0 x1 x2) (some r)) :
    Scalar Try.prog 133 [.v (.slice (.arr 6 (.int .i64))) x0, .v (.slice (.arr 6 (.int .i64))) x1, .bool x2] (.v (.arr 2 (.int .i64)) r) := by
  unfold p_spec_l3Chance at h
  refine ac_enter ⟨57, 0⟩ Try.func133 rfl rfl rfl rfl rfl (fun Γ => ?_)
  refine sl_len_m 0 (x0.length : Int) rfl rfl (fun hl0 => ?_)
  refine sl_len_m 1 (x1.length : Int) rfl rfl (fun hl1 => ?_)
  refine aw_seq ?_
  refine aw_region ?_
  refine ao_eff trivial (e_alloc 0 (y := .v (.arr 2 (.int .i64)) ((List.replicate 2 0) : (List Int))) Try.zeroValue35 (fun ρ h M => ra_zero_arr (t := (.int .i64)) rfl) rfl rfl rfl rfl rfl) rfl ?_
  refine ao_nil ?_
  refine aq_then ?_
  refine aw_seq ?_
  refine aw_region ?_
  refine ao_read trivial (r_move rfl) rfl ?_
  obtain ⟨r1, r1h, h⟩ := is_bind h
  refine ao_scall trivial (scall (c_spec_l2Table (is_mk r1h)) rfl Try.func169 rfl rfl rfl rfl (fun σ => ⟨ad_ren rfl, trivial⟩)) rfl ?_
  refine ao_read trivial (r_move rfl) rfl ?_
  obtain ⟨r2, r2h, h⟩ := is_bind h
  refine ao_scall trivial (scall (c_spec_l2Table (is_mk r2h)) rfl Try.func169 rfl rfl rfl rfl (fun σ => ⟨ad_ren rfl, trivial⟩)) rfl ?_
  refine ao_eff trivial (e_alloc 1 (y := .v (.arr 121 (.int .i64)) ((List.replicate 121 0) : (List Int))) Try.zeroValue124 (fun ρ h M => ra_zero_arr (t := (.int .i64)) rfl) rfl rfl rfl rfl rfl) rfl ?_
  refine ao_eff trivial (e_alloc 2 (y := .v (.arr 121 (.int .i64)) ((List.replicate 121 0) : (List Int))) Try.zeroValue124 (fun ρ h M => ra_zero_arr (t := (.int .i64)) rfl) rfl rfl rfl rfl rfl) rfl ?_
  refine ao_effS trivial (e_store rfl rfl rfl rfl Try.sizeOf124 rfl) ?_
  refine ao_effS trivial (e_store rfl rfl rfl rfl Try.sizeOf124 rfl) ?_
  refine ao_read trivial (r_assign rfl) rfl ?_
  refine ao_nil ?_
  refine aq_then ?_
  refine aw_seq ?_
  refine aw_seq ?_
  refine aw_region ?_
  refine ao_read trivial (r_assign rfl) rfl ?_
  refine ao_nil ?_
  refine aq_then ?_
  refine aw_block ?_
  refine aw_loop (AL.sub (fr' := [(0, .v (.slice (.arr 6 (.int .i64))) x0), (1, .v (.slice (.arr 6 (.int .i64))) x1), (2, .bool x2), (6, .ref 0 0), (7, .ref 1 0), (8, .ref 2 0), (9, .int .i64 0), (10, .int .i64 0)]) (H' := [(0, .var [.arr (.int .i64) 2 ((List.replicate 2 0) : (List Int))]), (1, .var [.arr (.int .i64) 121 r1]), (2, .var [.arr (.int .i64) 121 r2])]) (sub_mk idn (by exact ⟨⟨_, rfl, ad_ren rfl⟩, ⟨_, rfl, ad_ren rfl⟩, ⟨_, rfl, ad_ren rfl⟩, ⟨_, rfl, ad_ren rfl⟩, ⟨_, rfl, ad_ren rfl⟩, ⟨_, rfl, ad_ren rfl⟩, ⟨_, rfl, ad_ren rfl⟩, ⟨_, rfl, ad_ren rfl⟩, trivial⟩) (by exact ⟨⟨_, rfl, ⟨rfl, trivial⟩⟩, ⟨_, rfl, ⟨rfl, trivial⟩⟩, ⟨_, rfl, ⟨rfl, trivial⟩⟩, trivial⟩) (by rfl) (nk rfl)) (al_cnt (fun i4 (s3 : Int) => [(0, .v (.slice (.arr 6 (.int .i64))) x0), (1, .v (.slice (.arr 6 (.int .i64))) x1), (2, .bool x2), (6, .ref 0 0), (7, .ref 1 0), (8, .ref 2 0), (9, .int .i64 s3), (10, .int .i64 i4)]) (fun i4 (s3 : Int) => [(0, .var [.arr (.int .i64) 2 ((List.replicate 2 0) : (List Int))]), (1, .var [.arr (.int .i64) 121 r1]), (2, .var [.arr (.int .i64) 121 r2])]) (fun d i4 (s3 : Int) => d = Int.toNat (121 - i4) ∧ 0 ≤ i4 ∧ i4 ≤ 121) h ⟨rfl, (by (try simp only [List.length_set, List.length_append, List.length_cons, List.length_nil, List.length_replicate, List.length_take, List.length_drop]) <;> omega), (by (try simp only [List.length_set, List.length_append, List.length_cons, List.length_nil, List.length_replicate, List.length_take, List.length_drop]) <;> omega)⟩ (fun d5 i4 s3 hI h ih5 => ?_)))
  obtain ⟨hd, _, _⟩ := hI
  refine al_round ?_
  refine aw_seq ?_
  refine aw_seq ?_
  refine aw_region ?_
  refine ao_read trivial (r_move rfl) rfl ?_
  refine ao_read trivial (r_lss rfl rfl) rfl ?_
  refine ao_nil ?_
  refine aq_then ?_
  refine aw_cond rfl (fun hb7 => ?_) (fun hb7 => ?_)
  · have q8 := d_t hb7
    obtain ⟨d5, rfl⟩ : ∃ e, d5 = e + 1 := ⟨d5 - 1, by omega⟩
    replace h := is_cntS h
    refine aw_skip ?_
    refine aq_then ?_
    refine aw_seq ?_
    refine aw_block ?_
    refine aw_seq ?_
    refine aw_region ?_
    refine ao_read trivial (r_assign rfl) rfl ?_
    refine ao_nil ?_
    refine aq_then ?_
    refine aw_block ?_
    refine aw_loop (AL.sub (fr' := [(0, .v (.slice (.arr 6 (.int .i64))) x0), (1, .v (.slice (.arr 6 (.int .i64))) x1), (2, .bool x2), (6, .ref 0 0), (7, .ref 1 0), (8, .ref 2 0), (9, .int .i64 s3), (10, .int .i64 i4), (11, .int .i64 0)]) (H' := [(0, .var [.arr (.int .i64) 2 ((List.replicate 2 0) : (List Int))]), (1, .var [.arr (.int .i64) 121 r1]), (2, .var [.arr (.int .i64) 121 r2])]) (sub_mk idn (by exact ⟨⟨_, rfl, ad_ren rfl⟩, ⟨_, rfl, ad_ren rfl⟩, ⟨_, rfl, ad_ren rfl⟩, ⟨_, rfl, ad_ren rfl⟩, ⟨_, rfl, ad_ren rfl⟩, ⟨_, rfl, ad_ren rfl⟩, ⟨_, rfl, ad_ren rfl⟩, ⟨_, rfl, ad_ren rfl⟩, ⟨_, rfl, ad_ren rfl⟩, trivial⟩) (by exact ⟨⟨_, rfl, ⟨rfl, trivial⟩⟩, ⟨_, rfl, ⟨rfl, trivial⟩⟩, ⟨_, rfl, ⟨rfl, trivial⟩⟩, trivial⟩) (by rfl) (nk rfl)) (al_cnt (fun i11 (s10 : Int) => [(0, .v (.slice (.arr 6 (.int .i64))) x0), (1, .v (.slice (.arr 6 (.int .i64))) x1), (2, .bool x2), (6, .ref 0 0), (7, .ref 1 0), (8, .ref 2 0), (9, .int .i64 s10), (10, .int .i64 i4), (11, .int .i64 i11)]) (fun i11 (s10 : Int) => [(0, .var [.arr (.int .i64) 2 ((List.replicate 2 0) : (List Int))]), (1, .var [.arr (.int .i64) 121 r1]), (2, .var [.arr (.int .i64) 121 r2])]) (fun d i11 (s10 : Int) => d = Int.toNat (121 - i11) ∧ 0 ≤ i11 ∧ i11 ≤ 121) h ⟨rfl, (by (try simp only [List.length_set, List.length_append, List.length_cons, List.length_nil, List.length_replicate, List.length_take, List.length_drop]) <;> omega), (by (try simp only [List.length_set, List.length_append, List.length_cons, List.length_nil, List.length_replicate, List.length_take, List.length_drop]) <;> omega)⟩ (fun d12 i11 s10 hI h ih12 => ?_)))
    obtain ⟨hd, _, _⟩ := hI
    refine al_round ?_
    refine aw_seq ?_
    refine aw_seq ?_
    refine aw_region ?_
    refine ao_read trivial (r_move rfl) rfl ?_
    refine ao_read trivial (r_lss rfl rfl) rfl ?_
    refine ao_nil ?_
    refine aq_then ?_
    refine aw_cond rfl (fun hb14 => ?_) (fun hb14 => ?_)
    · have q15 := d_t hb14
      obtain ⟨d12, rfl⟩ : ∃ e, d12 = e + 1 := ⟨d12 - 1, by omega⟩
      replace h := is_cntS h
      refine aw_skip ?_
      refine aq_then ?_
      refine aw_seq ?_
      refine aw_block ?_
      refine aw_seq ?_
      refine aw_region ?_
      refine ao_read trivial (r_move rfl) rfl ?_
      refine ao_read trivial (r_not rfl) rfl ?_
      refine ao_read trivial (r_move rfl) rfl ?_
      refine ao_readG (x := .int .i64 i4) rfl (GV.T rfl) (fun hg17 => r_move rfl) rfl ?_
      refine ao_readG (x := .int .i64 i11) rfl (GV.T rfl) (fun hg18 => r_move rfl) rfl ?_
      refine ao_readG (x := .bool (decide (i11 < i4))) rfl (GV.T rfl) (fun hg19 => Reads.strip 27 rfl (hg19) (Reads.strip 28 rfl (hg19) (r_gtr rfl rfl))) rfl ?_
      refine ao_read trivial (r_andB rfl rfl) rfl ?_
      refine ao_read trivial (r_move rfl) rfl ?_
      refine ao_readG (x := .bool x2) rfl (GV.F rfl) (fun hg20 => r_move rfl) rfl ?_
      refine ao_readG (x := .bool x2) rfl (GV.F rfl) (fun hg21 => Reads.strip 32 rfl (hg21) (r_move rfl)) rfl ?_
      refine ao_readG (x := .int .i64 i4) rfl (GV.gT rfl) (fun hg22 => by
            obtain ⟨q23, q24⟩ := and_t hg22
            exact r_move rfl) rfl ?_
      refine ao_readG (x := .int .i64 i11) rfl (GV.gT rfl) (fun hg25 => by
            obtain ⟨q26, q27⟩ := and_t hg25
            exact r_move rfl) rfl ?_
      refine ao_readG (x := .bool (decide (i4 = i11))) rfl (GV.gT rfl) (fun hg28 => by
            obtain ⟨q29, q30⟩ := and_t hg28
            exact Reads.strip 34 rfl (hg28) (Reads.strip 35 rfl (hg28) (r_eql rfl rfl))) rfl ?_
      refine ao_readG (x := .bool (x2 && (decide (i4 = i11)))) rfl (GV.F rfl) (fun hg31 => Reads.strip 33 rfl (hg31) (r_andBg rfl rfl (tr_and (hg31)))) rfl ?_
      refine ao_read trivial (r_orB rfl rfl) rfl ?_
      refine ao_nil ?_
      refine aq_then ?_
      refine aw_cond rfl (fun hb32 => ?_) (fun hb32 => ?_)
      · replace h := is_if hb32 h
        refine aw_drawAll (by kernel_rfl) ?_
        refine an_read 0 (by kernel_rfl) (fun _ _ _ h => h) rfl (by kernel_rfl) trivial (r_move rfl) rfl ?_
        refine an_read 1 (by kernel_rfl) (fun _ _ _ h => h) rfl (by kernel_rfl) trivial (r_move rfl) rfl ?_
        refine an_read 2 (by kernel_rfl) (fun _ _ _ h => h) rfl (by kernel_rfl) trivial (r_idxAddr_arr (i := i4) Try.underlying124 Try.sizeOf3 rfl rfl (show 0 ≤ i4 from by omega) (show i4 < (121 : Int) from by omega)) rfl ?_
        refine an_read 3 (by kernel_rfl) (fun _ _ _ h => h) rfl (by kernel_rfl) trivial (r_load_elema_int Try.isAgg3 Try.sizeOf3 rfl rfl rfl (show i4.toNat < 121 from by omega)) rfl ?_
        refine an_read 4 (by kernel_rfl) (fun _ _ _ h => h) rfl (by kernel_rfl) trivial (r_move rfl) rfl ?_
        refine an_read 5 (by kernel_rfl) (fun _ _ _ h => h) rfl (by kernel_rfl) trivial (r_idxAddr_arr (i := i11) Try.underlying124 Try.sizeOf3 rfl rfl (show 0 ≤ i11 from by omega) (show i11 < (121 : Int) from by omega)) rfl ?_
        refine an_read 6 (by kernel_rfl) (fun _ _ _ h => h) rfl (by kernel_rfl) trivial (r_load_elema_int Try.isAgg3 Try.sizeOf3 rfl rfl rfl (show i11.toNat < 121 from by omega)) rfl ?_
        refine an_read 7 (by kernel_rfl) (fun _ _ _ h => h) rfl (by kernel_rfl) trivial (r_mul rfl rfl) rfl ?_
        refine an_read 8 (by kernel_rfl) (fun _ _ _ h => h) rfl (by kernel_rfl) trivial (r_add rfl rfl) rfl ?_
        refine an_read 9 (by kernel_rfl) (fun _ _ _ h => h) rfl (by kernel_rfl) trivial (r_assign rfl) rfl ?_
        refine an_done rfl ?_
        refine aq_in ?_
        refine aq_then ?_
        refine aw_region ?_
        refine ao_read trivial (r_move rfl) rfl ?_
        refine ao_read trivial (r_addI rfl rfl (wrap_id (by omega) (by omega))) rfl ?_
        refine ao_read trivial (r_assign rfl) rfl ?_
        refine ao_nil ?_
        exact aq_again (AL.sub (sub_mk idn (by exact ⟨⟨_, rfl, ad_ren rfl⟩, ⟨_, rfl, ad_ren rfl⟩, ⟨_, rfl, ad_ren rfl⟩, ⟨_, rfl, ad_ren rfl⟩, ⟨_, rfl, ad_ren rfl⟩, ⟨_, rfl, ad_ren rfl⟩, ⟨_, rfl, ad_ren rfl⟩, ⟨_, rfl, ad_ren rfl⟩, ⟨_, rfl, ad_ren rfl⟩, trivial⟩) (by exact ⟨⟨_, rfl, ⟨rfl, trivial⟩⟩, ⟨_, rfl, ⟨rfl, trivial⟩⟩, ⟨_, rfl, ⟨rfl, trivial⟩⟩, trivial⟩) (by rfl) (nk rfl)) (ih12 d12 (i11 + 1) (IntKind.wrap .i64 (s10 + (IntKind.wrap .i64 ((r1.getD i4.toNat 0) * (r2.getD i11.toNat 0))))) (by omega) ⟨by omega, (by (try simp only [List.length_set, List.length_append, List.length_cons, List.length_nil, List.length_replicate, List.length_take, List.length_drop]) <;> omega), (by (try simp only [List.length_set, List.length_append, List.length_cons, List.length_nil, List.length_replicate, List.length_take, List.length_drop]) <;> omega)⟩ h))
      · obtain ⟨q33, q34⟩ := or_f hb32
        replace h := is_else (ne_t hb32) h
        refine aw_skip ?_
        refine aq_in ?_
        refine aq_then ?_
        refine aw_region ?_
        refine ao_read trivial (r_move rfl) rfl ?_
        refine ao_read trivial (r_addI rfl rfl (wrap_id (by omega) (by omega))) rfl ?_
        refine ao_read trivial (r_assign rfl) rfl ?_
        refine ao_nil ?_
        exact aq_again (AL.sub (sub_mk idn (by exact ⟨⟨_, rfl, ad_ren rfl⟩, ⟨_, rfl, ad_ren rfl⟩, ⟨_, rfl, ad_ren rfl⟩, ⟨_, rfl, ad_ren rfl⟩, ⟨_, rfl, ad_ren rfl⟩, ⟨_, rfl, ad_ren rfl⟩, ⟨_, rfl, ad_ren rfl⟩, ⟨_, rfl, ad_ren rfl⟩, ⟨_, rfl, ad_ren rfl⟩, trivial⟩) (by exact ⟨⟨_, rfl, ⟨rfl, trivial⟩⟩, ⟨_, rfl, ⟨rfl, trivial⟩⟩, ⟨_, rfl, ⟨rfl, trivial⟩⟩, trivial⟩) (by rfl) (nk rfl)) (ih12 d12 (i11 + 1) s10 (by omega) ⟨by omega, (by (try simp only [List.length_set, List.length_append, List.length_cons, List.length_nil, List.length_replicate, List.length_take, List.length_drop]) <;> omega), (by (try simp only [List.length_set, List.length_append, List.length_cons, List.length_nil, List.length_replicate, List.length_take, List.length_drop]) <;> omega)⟩ h))
    · have q16 := d_f hb14
      obtain rfl : d12 = 0 := by omega
      replace h := is_cnt0 h
      refine aw_exit ?_
      refine aq_then_exit ?_
      refine aq_then_exit ?_
      refine aq_in_exit ?_
      refine aq_in ?_
      refine aq_then ?_
      refine aw_region ?_
      refine ao_read trivial (r_move rfl) rfl ?_
      refine ao_read trivial (r_addI rfl rfl (wrap_id (by omega) (by omega))) rfl ?_
      refine ao_read trivial (r_assign rfl) rfl ?_
      refine ao_nil ?_
      exact aq_again (AL.sub (sub_mk idn (by exact ⟨⟨_, rfl, ad_ren rfl⟩, ⟨_, rfl, ad_ren rfl⟩, ⟨_, rfl, ad_ren rfl⟩, ⟨_, rfl, ad_ren rfl⟩, ⟨_, rfl, ad_ren rfl⟩, ⟨_, rfl, ad_ren rfl⟩, ⟨_, rfl, ad_ren rfl⟩, ⟨_, rfl, ad_ren rfl⟩, trivial⟩) (by exact ⟨⟨_, rfl, ⟨rfl, trivial⟩⟩, ⟨_, rfl, ⟨rfl, trivial⟩⟩, ⟨_, rfl, ⟨rfl, trivial⟩⟩, trivial⟩) (by rfl) (nk rfl)) (ih5 d5 (i4 + 1) s10 (by omega) ⟨by omega, (by (try simp only [List.length_set, List.length_append, List.length_cons, List.length_nil, List.length_replicate, List.length_take, List.length_drop]) <;> omega), (by (try simp only [List.length_set, List.length_append, List.length_cons, List.length_nil, List.length_replicate, List.length_take, List.length_drop]) <;> omega)⟩ h))
  · have q9 := d_f hb7
    obtain rfl : d5 = 0 := by omega
    replace h := is_cnt0 h
    refine aw_exit ?_
    refine aq_then_exit ?_
    refine aq_then_exit ?_
    refine aq_in_exit ?_
    refine aq_then ?_
    refine aw_seq ?_
    refine aw_region ?_
    refine ao_read trivial (r_move rfl) rfl ?_
    refine ao_read trivial (r_move rfl) rfl ?_
    refine ao_read trivial (r_len_vm (x0.length : Int) Try.underlying54 rfl rfl) rfl ?_
    obtain ⟨r35, r35h, h⟩ := is_bind h
    refine ao_scall trivial (scall (c_spec_l2All (is_mk r35h)) rfl Try.func101 rfl rfl rfl rfl (fun σ => ⟨ad_ren rfl, trivial⟩)) rfl ?_
    refine ao_read trivial (r_move rfl) rfl ?_
    refine ao_read trivial (r_len_vm (x1.length : Int) Try.underlying54 rfl rfl) rfl ?_
    obtain ⟨r36, r36h, h⟩ := is_bind h
    refine ao_scall trivial (scall (c_spec_l2All (is_mk r36h)) rfl Try.func101 rfl rfl rfl rfl (fun σ => ⟨ad_ren rfl, trivial⟩)) rfl ?_
    refine ao_read trivial (r_mul rfl rfl) rfl ?_
    obtain ⟨r37, r37h, h⟩ := is_bind h
    refine ao_scall trivial (scall (c_spec_l2Cut (is_mk r37h)) rfl Try.func100 rfl rfl rfl rfl (fun σ => ⟨ad_ren rfl, ad_ren rfl, trivial⟩)) rfl ?_
    refine ao_effS trivial (e_store rfl rfl rfl rfl Try.sizeOf35 rfl) ?_
    refine ao_nil ?_
    refine aq_then ?_
    refine aw_ret ?_
    refine aq_ret ?_
    obtain rfl := is_some h
    exact aq_finx (l := [.cell 6 35]) (xs := [.v (.arr 2 (.int .i64)) r37]) idn [.v (.arr 2 (.int .i64)) r37] [] rfl (by exact ⟨⟨⟨_, _, rfl⟩, r_load_arr rfl Try.isAgg35 Try.sizeOf35 rfl rfl rfl⟩, trivial⟩) (by exact ⟨ad_ren rfl, trivial⟩) (by exact trivial) rfl (nk rfl) rfl rfl ⟨rfl, rfl⟩
theorem c_spec_ChanceToBeat {fu : Nat} {x0 : (List (List Int))} {x1 : (List (List Int))} {r : (List Int) × Bool} (h : Is (p_spec_ChanceToBeat fu x0 x1) (some r)) :
    Scalar Try.prog 59 [.v (.slice (.arr 6 (.int .i64))) x0, .v (.slice (.arr 6 (.int .i64))) x1] (.tup [.v (.arr 2 (.int .i64)) r.1, .bool r.2]) := by
  unfold p_spec_ChanceToBeat at h
  refine ac_enter ⟨18, 0⟩ Try.func59 rfl rfl rfl rfl rfl (fun Γ => ?_)
  refine sl_len_m 0 (x0.length : Int) rfl rfl (fun hl0 => ?_)
  refine sl_len_m 1 (x1.length : Int) rfl rfl (fun hl1 => ?_)
  refine aw_seq ?_
  refine aw_region ?_
  refine ao_eff trivial (e_alloc 0 (y := .v (.arr 2 (.int .i64)) ((List.replicate 2 0) : (List Int))) Try.zeroValue35 (fun ρ h M => ra_zero_arr (t := (.int .i64)) rfl) rfl rfl rfl rfl rfl) rfl ?_
  refine ao_read trivial (r_assign rfl) rfl ?_
  refine ao_nil ?_
  refine aq_then ?_
  refine aw_seq ?_
  refine aw_seq ?_
  refine aw_region ?_
  refine ao_read trivial (r_move rfl) rfl ?_
  obtain ⟨r1, r1h, h⟩ := is_bind h
  refine ao_scall trivial (scall (c_spec_l2Pool (is_mk r1h)) rfl Try.func116 rfl rfl rfl rfl (fun σ => ⟨ad_ren rfl, trivial⟩)) rfl ?_
  refine ao_read trivial (r_not rfl) rfl ?_
  refine ao_read trivial (r_move rfl) rfl ?_
  refine ao_readG (x := .v (.slice (.arr 6 (.int .i64))) x1) rfl (GV.F rfl) (fun hg2 => r_move rfl) rfl ?_
  obtain ⟨g4, h⟩ := is_guard h
  refine ao_scallG (r := .bool ((p_spec_l2Pool x1).getD false)) rfl (GV.F rfl) (fun hg3 => SCall.strip 10 rfl (hg3) (scall (c_spec_l2Pool (is_mk (isSome_getD (g4 hg3)))) rfl Try.func116 rfl rfl rfl rfl (fun σ => ⟨ad_ren rfl, trivial⟩))) rfl ?_
  refine ao_readG (x := .bool (!((p_spec_l2Pool x1).getD false))) rfl (GV.F rfl) (fun hg5 => Reads.strip 11 rfl (hg5) (r_not rfl)) rfl ?_
  refine ao_read trivial (r_orB rfl rfl) rfl ?_
  refine ao_nil ?_
  refine aq_then ?_
  refine aw_cond rfl (fun hb6 => ?_) (fun hb6 => ?_)
  · replace h := is_if hb6 h
    refine aw_seq ?_
    refine aw_region ?_
    refine ao_read trivial (r_build_zero (t := (.int .i64)) Try.underlying35 Try.zeroValue35 Try.sizeOf3 rfl) rfl ?_
    refine ao_effS trivial (e_store rfl rfl rfl rfl Try.sizeOf35 rfl) ?_
    refine ao_read trivial (r_assign rfl) rfl ?_
    refine ao_nil ?_
    refine aq_then ?_
    refine aw_ret ?_
    refine aq_then_ret ?_
    refine aq_ret ?_
    obtain rfl := is_some h
    exact aq_finx (l := [.cell 4 35, .tmp 5]) (xs := [.v (.arr 2 (.int .i64)) ((List.replicate 2 0) : (List Int)), .bool false]) idn [.v (.arr 2 (.int .i64)) ((List.replicate 2 0) : (List Int)), .bool false] [] rfl (by exact ⟨⟨⟨_, _, rfl⟩, r_load_arr rfl Try.isAgg35 Try.sizeOf35 rfl rfl rfl⟩, rfl, trivial⟩) (by exact ⟨ad_ren rfl, ad_ren rfl, trivial⟩) (by exact trivial) rfl (nk rfl) rfl rfl ⟨rfl, rfl⟩
  · obtain ⟨q7, q8⟩ := or_f hb6
    replace h := is_else (ne_t hb6) h
    refine aw_skip ?_
    refine aq_then ?_
    refine aw_seq ?_
    refine aw_region ?_
    refine ao_read trivial (r_move rfl) rfl ?_
    refine ao_read trivial (r_move rfl) rfl ?_
    obtain ⟨r9, r9h, h⟩ := is_bind h
    refine ao_scall trivial (scall (c_spec_l3Chance (is_mk r9h)) rfl Try.func133 rfl rfl rfl rfl (fun σ => ⟨ad_ren rfl, ad_ren rfl, ad_ren rfl, trivial⟩)) rfl ?_
    refine ao_effS trivial (e_store rfl rfl rfl rfl Try.sizeOf35 rfl) ?_
    refine ao_read trivial (r_assign rfl) rfl ?_
    refine ao_nil ?_
    refine aq_then ?_
    refine aw_ret ?_
    refine aq_ret ?_
    obtain rfl := is_some h
    exact aq_finx (l := [.cell 4 35, .tmp 5]) (xs := [.v (.arr 2 (.int .i64)) r9, .bool true]) idn [.v (.arr 2 (.int .i64)) r9, .bool true] [] rfl (by exact ⟨⟨⟨_, _, rfl⟩, r_load_arr rfl Try.isAgg35 Try.sizeOf35 rfl rfl rfl⟩, rfl, trivial⟩) (by exact ⟨ad_ren rfl, ad_ren rfl, trivial⟩) (by exact trivial) rfl (nk rfl) rfl rfl ⟨rfl, rfl⟩
theorem c_impl_ChanceLevel {fu : Nat} {x0 : (List (List Int))} {x1 : (List (List Int))} {r : (List Int) × Bool} (h : Is (p_impl_ChanceLevel fu x0 x1) (some r)) :
    Scalar Try.prog 61 [.v (.slice (.arr 6 (.int .i64))) x0, .v (.slice (.arr 6 (.int .i64))) x1] (.tup [.v (.arr 2 (.int .i64)) r.1, .bool r.2]) := by
  unfold p_impl_ChanceLevel at h
  refine ac_enter ⟨44, 0⟩ Try.func61 rfl rfl rfl rfl rfl (fun Γ => ?_)
  refine sl_len_m 0 (x0.length : Int) rfl rfl (fun hl0 => ?_)
  refine sl_len_m 1 (x1.length : Int) rfl rfl (fun hl1 => ?_)
  refine aw_seq ?_
  refine aw_region ?_
  refine ao_eff trivial (e_alloc 0 (y := .v (.arr 2 (.int .i64)) ((List.replicate 2 0) : (List Int))) Try.zeroValue35 (fun ρ h M => ra_zero_arr (t := (.int .i64)) rfl) rfl rfl rfl rfl rfl) rfl ?_
  refine ao_read trivial (r_assign rfl) rfl ?_
  refine ao_nil ?_
  refine aq_then ?_
  refine aw_seq ?_
  refine aw_seq ?_
  refine aw_region ?_
  refine ao_read trivial (r_move rfl) rfl ?_
  refine ao_scall trivial (scall (c_impl_IsPool (is_mk (rfl : p_impl_IsPool x0 = _))) rfl Try.func60 rfl rfl rfl rfl (fun σ => ⟨ad_ren rfl, trivial⟩)) rfl ?_
  refine ao_read trivial (r_not rfl) rfl ?_
  refine ao_read trivial (r_move rfl) rfl ?_
  refine ao_readG (x := .v (.slice (.arr 6 (.int .i64))) x1) rfl (GV.F rfl) (fun hg1 => r_move rfl) rfl ?_
  refine ao_scallG (r := .bool (p_impl_IsPool x1)) rfl (GV.F rfl) (fun hg2 => SCall.strip 14 rfl (hg2) (scall (c_impl_IsPool (is_mk (rfl : p_impl_IsPool x1 = _))) rfl Try.func60 rfl rfl rfl rfl (fun σ => ⟨ad_ren rfl, trivial⟩))) rfl ?_
  refine ao_readG (x := .bool (!(p_impl_IsPool x1))) rfl (GV.F rfl) (fun hg3 => Reads.strip 15 rfl (hg3) (r_not rfl)) rfl ?_
  refine ao_read trivial (r_orB rfl rfl) rfl ?_
  refine ao_nil ?_
  refine aq_then ?_
  refine aw_cond rfl (fun hb4 => ?_) (fun hb4 => ?_)
  · replace h := is_if hb4 h
    refine aw_seq ?_
    refine aw_region ?_
    refine ao_read trivial (r_build_zero (t := (.int .i64)) Try.underlying35 Try.zeroValue35 Try.sizeOf3 rfl) rfl ?_
    refine ao_effS trivial (e_store rfl rfl rfl rfl Try.sizeOf35 rfl) ?_
    refine ao_read trivial (r_assign rfl) rfl ?_
    refine ao_nil ?_
    refine aq_then ?_
    refine aw_ret ?_
    refine aq_then_ret ?_
    refine aq_ret ?_
    obtain rfl := is_some h
    exact aq_finx (l := [.cell 4 35, .tmp 5]) (xs := [.v (.arr 2 (.int .i64)) ((List.replicate 2 0) : (List Int)), .bool false]) idn [.v (.arr 2 (.int .i64)) ((List.replicate 2 0) : (List Int)), .bool false] [] rfl (by exact ⟨⟨⟨_, _, rfl⟩, r_load_arr rfl Try.isAgg35 Try.sizeOf35 rfl rfl rfl⟩, rfl, trivial⟩) (by exact ⟨ad_ren rfl, ad_ren rfl, trivial⟩) (by exact trivial) rfl (nk rfl) rfl rfl ⟨rfl, rfl⟩
  · obtain ⟨q5, q6⟩ := or_f hb4
    replace h := is_else (ne_t hb4) h
    refine aw_skip ?_
    refine aq_then ?_
    refine aw_seq ?_
    refine aw_region ?_
    refine ao_read trivial (r_move rfl) rfl ?_
    obtain ⟨r7, r7h, h⟩ := is_bind h
    refine ao_scall trivial (scall (c_impl_sums (is_mk r7h)) rfl Try.func132 rfl rfl rfl rfl (fun σ => ⟨ad_ren rfl, trivial⟩)) rfl ?_
    refine ao_read trivial (r_move rfl) rfl ?_
    obtain ⟨r8, r8h, h⟩ := is_bind h
    refine ao_scall trivial (scall (c_impl_sums (is_mk r8h)) rfl Try.func132 rfl rfl rfl rfl (fun σ => ⟨ad_ren rfl, trivial⟩)) rfl ?_
    refine ao_eff trivial (e_alloc 1 (y := .v (.arr 121 (.int .i64)) ((List.replicate 121 0) : (List Int))) Try.zeroValue124 (fun ρ h M => ra_zero_arr (t := (.int .i64)) rfl) rfl rfl rfl rfl rfl) rfl ?_
    refine ao_eff trivial (e_alloc 2 (y := .v (.arr 121 (.int .i64)) ((List.replicate 121 0) : (List Int))) Try.zeroValue124 (fun ρ h M => ra_zero_arr (t := (.int .i64)) rfl) rfl rfl rfl rfl rfl) rfl ?_
    refine ao_effS trivial (e_store rfl rfl rfl rfl Try.sizeOf124 rfl) ?_
    refine ao_effS trivial (e_store rfl rfl rfl rfl Try.sizeOf124 rfl) ?_
    refine ao_nil ?_
    refine aq_then ?_
    refine aw_seq ?_
    refine aw_region ?_
    refine ao_read trivial (r_assign rfl) rfl ?_
    refine ao_nil ?_
    refine aq_then ?_
    refine aw_seq ?_
    refine aw_seq ?_
    refine aw_region ?_
    refine ao_read trivial (r_move rfl) rfl ?_
    refine ao_nil ?_
    refine aq_then ?_
    refine aw_block ?_
    refine aw_loop (AL.sub (fr' := [(0, .v (.slice (.arr 6 (.int .i64))) x0), (1, .v (.slice (.arr 6 (.int .i64))) x1), (4, .ref 0 0), (6, .ref 1 0), (7, .ref 2 0), (8, .int .i64 0), (23, .int .i64 0)]) (H' := [(0, .var [.arr (.int .i64) 2 ((List.replicate 2 0) : (List Int))]), (1, .var [.arr (.int .i64) 121 r7]), (2, .var [.arr (.int .i64) 121 r8])]) (sub_mk idn (by exact ⟨⟨_, rfl, ad_ren rfl⟩, ⟨_, rfl, ad_ren rfl⟩, ⟨_, rfl, ad_ren rfl⟩, ⟨_, rfl, ad_ren rfl⟩, ⟨_, rfl, ad_ren rfl⟩, ⟨_, rfl, ad_ren rfl⟩, ⟨_, rfl, ad_ren rfl⟩, trivial⟩) (by exact ⟨⟨_, rfl, ⟨rfl, trivial⟩⟩, ⟨_, rfl, ⟨rfl, trivial⟩⟩, ⟨_, rfl, ⟨rfl, trivial⟩⟩, trivial⟩) (by rfl) (nk rfl)) (al_cnt (fun i10 (s9 : Int) => [(0, .v (.slice (.arr 6 (.int .i64))) x0), (1, .v (.slice (.arr 6 (.int .i64))) x1), (4, .ref 0 0), (6, .ref 1 0), (7, .ref 2 0), (8, .int .i64 s9), (23, .int .i64 i10)]) (fun i10 (s9 : Int) => [(0, .var [.arr (.int .i64) 2 ((List.replicate 2 0) : (List Int))]), (1, .var [.arr (.int .i64) 121 r7]), (2, .var [.arr (.int .i64) 121 r8])]) (fun d i10 (s9 : Int) => d = Int.toNat (121 - i10) ∧ 0 ≤ i10 ∧ i10 ≤ 121) h ⟨rfl, (by (try simp only [List.length_set, List.length_append, List.length_cons, List.length_nil, List.length_replicate, List.length_take, List.length_drop]) <;> omega), (by (try simp only [List.length_set, List.length_append, List.length_cons, List.length_nil, List.length_replicate, List.length_take, List.length_drop]) <;> omega)⟩ (fun d11 i10 s9 hI h ih11 => ?_)))
    obtain ⟨hd, _, _⟩ := hI
    refine al_round ?_
    refine aw_seq ?_
    refine aw_region ?_
    refine ao_read trivial (r_lss rfl rfl) rfl ?_
    refine ao_nil ?_
    refine aq_then ?_
    refine aw_seq ?_
    refine aw_cond rfl (fun hb13 => ?_) (fun hb13 => ?_)
    · have q14 := d_t hb13
      obtain ⟨d11, rfl⟩ : ∃ e, d11 = e + 1 := ⟨d11 - 1, by omega⟩
      replace h := is_cntS h
      refine aw_skip ?_
      refine aq_then ?_
      refine aw_seq ?_
      refine aw_block ?_
      refine aw_seq ?_
      refine aw_region ?_
      refine ao_read trivial (r_move rfl) rfl ?_
      refine ao_read trivial (r_assign rfl) rfl ?_
      refine ao_nil ?_
      refine aq_then ?_
      refine aw_drawAll (by kernel_rfl) ?_
      refine an_read 0 (by kernel_rfl) (fun _ _ _ h => h) rfl (by kernel_rfl) trivial (r_move rfl) rfl ?_
      refine an_read 1 (by kernel_rfl) (fun _ _ _ h => h) rfl (by kernel_rfl) trivial (r_move rfl) rfl ?_
      refine an_read 2 (by kernel_rfl) (fun _ _ _ h => h) rfl (by kernel_rfl) trivial (r_idxAddr_arr (i := i10) Try.underlying124 Try.sizeOf3 rfl rfl (show 0 ≤ i10 from by omega) (show i10 < (121 : Int) from by omega)) rfl ?_
      refine an_read 3 (by kernel_rfl) (fun _ _ _ h => h) rfl (by kernel_rfl) trivial (r_load_elema_int Try.isAgg3 Try.sizeOf3 rfl rfl rfl (show i10.toNat < 121 from by omega)) rfl ?_
      refine an_read 4 (by kernel_rfl) (fun _ _ _ h => h) rfl (by kernel_rfl) trivial (r_move rfl) rfl ?_
      refine an_read 5 (by kernel_rfl) (fun _ _ _ h => h) rfl (by kernel_rfl) trivial (r_idxAddr_arr (i := i10) Try.underlying124 Try.sizeOf3 rfl rfl (show 0 ≤ i10 from by omega) (show i10 < (121 : Int) from by omega)) rfl ?_
      refine an_read 6 (by kernel_rfl) (fun _ _ _ h => h) rfl (by kernel_rfl) trivial (r_load_elema_int Try.isAgg3 Try.sizeOf3 rfl rfl rfl (show i10.toNat < 121 from by omega)) rfl ?_
      refine an_read 7 (by kernel_rfl) (fun _ _ _ h => h) rfl (by kernel_rfl) trivial (r_mul rfl rfl) rfl ?_
      refine an_read 8 (by kernel_rfl) (fun _ _ _ h => h) rfl (by kernel_rfl) trivial (r_add rfl rfl) rfl ?_
      refine an_read 9 (by kernel_rfl) (fun _ _ _ h => h) rfl (by kernel_rfl) trivial (r_assign rfl) rfl ?_
      refine an_done rfl ?_
      refine aq_in ?_
      refine aq_then ?_
      refine aw_region ?_
      refine ao_read trivial (r_addI rfl rfl (wrap_id (by omega) (by omega))) rfl ?_
      refine ao_read trivial (r_move rfl) rfl ?_
      refine ao_nil ?_
      exact aq_again (AL.sub (sub_mk idn (by exact ⟨⟨_, rfl, ad_ren rfl⟩, ⟨_, rfl, ad_ren rfl⟩, ⟨_, rfl, ad_ren rfl⟩, ⟨_, rfl, ad_ren rfl⟩, ⟨_, rfl, ad_ren rfl⟩, ⟨_, rfl, ad_ren rfl⟩, ⟨_, rfl, ad_ren rfl⟩, trivial⟩) (by exact ⟨⟨_, rfl, ⟨rfl, trivial⟩⟩, ⟨_, rfl, ⟨rfl, trivial⟩⟩, ⟨_, rfl, ⟨rfl, trivial⟩⟩, trivial⟩) (by rfl) (nk rfl)) (ih11 d11 (i10 + 1) (IntKind.wrap .i64 (s9 + (IntKind.wrap .i64 ((r7.getD i10.toNat 0) * (r8.getD i10.toNat 0))))) (by omega) ⟨by omega, (by (try simp only [List.length_set, List.length_append, List.length_cons, List.length_nil, List.length_replicate, List.length_take, List.length_drop]) <;> omega), (by (try simp only [List.length_set, List.length_append, List.length_cons, List.length_nil, List.length_replicate, List.length_take, List.length_drop]) <;> omega)⟩ h))
    · have q15 := d_f hb13
      obtain rfl : d11 = 0 := by omega
      replace h := is_cnt0 h
      refine aw_exit ?_
      refine aq_then_exit ?_
      refine aq_then_exit ?_
      refine aq_in_exit ?_
      refine aq_then ?_
      refine aw_seq ?_
      refine aw_region ?_
      refine ao_read trivial (r_move rfl) rfl ?_
      refine ao_read trivial (r_move rfl) rfl ?_
      refine ao_read trivial (r_len_vm (x0.length : Int) Try.underlying54 rfl rfl) rfl ?_
      refine ao_read trivial (r_move rfl) rfl ?_
      refine ao_read trivial (r_len_vm (x1.length : Int) Try.underlying54 rfl rfl) rfl ?_
      refine ao_read trivial (r_add rfl rfl) rfl ?_
      obtain ⟨r16, r16h, h⟩ := is_bind h
      refine ao_scall trivial (scall (c_impl_power (is_mk r16h)) rfl Try.func99 rfl rfl rfl rfl (fun σ => ⟨ad_ren rfl, trivial⟩)) rfl ?_
      obtain ⟨r17, r17h, h⟩ := is_bind h
      refine ao_scall trivial (scall (c_impl_fraction (is_mk r17h)) rfl Try.func98 rfl rfl rfl rfl (fun σ => ⟨ad_ren rfl, ad_ren rfl, trivial⟩)) rfl ?_
      refine ao_effS trivial (e_store rfl rfl rfl rfl Try.sizeOf35 rfl) ?_
      refine ao_read trivial (r_assign rfl) rfl ?_
      refine ao_nil ?_
      refine aq_then ?_
      refine aw_ret ?_
      refine aq_ret ?_
      obtain rfl := is_some h
      exact aq_finx (l := [.cell 4 35, .tmp 5]) (xs := [.v (.arr 2 (.int .i64)) r17, .bool true]) idn [.v (.arr 2 (.int .i64)) r17, .bool true] [] rfl (by exact ⟨⟨⟨_, _, rfl⟩, r_load_arr rfl Try.isAgg35 Try.sizeOf35 rfl rfl rfl⟩, rfl, trivial⟩) (by exact ⟨ad_ren rfl, ad_ren rfl, trivial⟩) (by exact trivial) rfl (nk rfl) rfl rfl ⟨rfl, rfl⟩
theorem c_spec_ChanceLevel {fu : Nat} {x0 : (List (List Int))} {x1 : (List (List Int))} {r : (List Int) × Bool} (h : Is (p_spec_ChanceLevel fu x0 x1) (some r)) :
    Scalar Try.prog 62 [.v (.slice (.arr 6 (.int .i64))) x0, .v (.slice (.arr 6 (.int .i64))) x1] (.tup [.v (.arr 2 (.int .i64)) r.1, .bool r.2]) := by
  unfold p_spec_ChanceLevel at h
  refine ac_enter ⟨18, 0⟩ Try.func62 rfl rfl rfl rfl rfl (fun Γ => ?_)
  refine sl_len_m 0 (x0.length : Int) rfl rfl (fun hl0 => ?_)
  refine sl_len_m 1 (x1.length : Int) rfl rfl (fun hl1 => ?_)
  refine aw_seq ?_
  refine aw_region ?_
  refine ao_eff trivial (e_alloc 0 (y := .v (.arr 2 (.int .i64)) ((List.replicate 2 0) : (List Int))) Try.zeroValue35 (fun ρ h M => ra_zero_arr (t := (.int .i64)) rfl) rfl rfl rfl rfl rfl) rfl ?_
  refine ao_read trivial (r_assign rfl) rfl ?_
  refine ao_nil ?_
  refine aq_then ?_
  refine aw_seq ?_
  refine aw_seq ?_
  refine aw_region ?_
  refine ao_read trivial (r_move rfl) rfl ?_
  obtain ⟨r1, r1h, h⟩ := is_bind h
  refine ao_scall trivial (scall (c_spec_l2Pool (is_mk r1h)) rfl Try.func116 rfl rfl rfl rfl (fun σ => ⟨ad_ren rfl, trivial⟩)) rfl ?_
  refine ao_read trivial (r_not rfl) rfl ?_
  refine ao_read trivial (r_move rfl) rfl ?_
  refine ao_readG (x := .v (.slice (.arr 6 (.int .i64))) x1) rfl (GV.F rfl) (fun hg2 => r_move rfl) rfl ?_
  obtain ⟨g4, h⟩ := is_guard h
  refine ao_scallG (r := .bool ((p_spec_l2Pool x1).getD false)) rfl (GV.F rfl) (fun hg3 => SCall.strip 10 rfl (hg3) (scall (c_spec_l2Pool (is_mk (isSome_getD (g4 hg3)))) rfl Try.func116 rfl rfl rfl rfl (fun σ => ⟨ad_ren rfl, trivial⟩))) rfl ?_
  refine ao_readG (x := .bool (!((p_spec_l2Pool x1).getD false))) rfl (GV.F rfl) (fun hg5 => Reads.strip 11 rfl (hg5) (r_not rfl)) rfl ?_
  refine ao_read trivial (r_orB rfl rfl) rfl ?_
  refine ao_nil ?_
  refine aq_then ?_
  refine aw_cond rfl (fun hb6 => ?_) (fun hb6 => ?_)
  · replace h := is_if hb6 h
    refine aw_seq ?_
    refine aw_region ?_
    refine ao_read trivial (r_build_zero (t := (.int .i64)) Try.underlying35 Try.zeroValue35 Try.sizeOf3 rfl) rfl ?_
    refine ao_effS trivial (e_store rfl rfl rfl rfl Try.sizeOf35 rfl) ?_
    refine ao_read trivial (r_assign rfl) rfl ?_
    refine ao_nil ?_
    refine aq_then ?_
    refine aw_ret ?_
    refine aq_then_ret ?_
    refine aq_ret ?_
    obtain rfl := is_some h
    exact aq_finx (l := [.cell 4 35, .tmp 5]) (xs := [.v (.arr 2 (.int .i64)) ((List.replicate 2 0) : (List Int)), .bool false]) idn [.v (.arr 2 (.int .i64)) ((List.replicate 2 0) : (List Int)), .bool false] [] rfl (by exact ⟨⟨⟨_, _, rfl⟩, r_load_arr rfl Try.isAgg35 Try.sizeOf35 rfl rfl rfl⟩, rfl, trivial⟩) (by exact ⟨ad_ren rfl, ad_ren rfl, trivial⟩) (by exact trivial) rfl (nk rfl) rfl rfl ⟨rfl, rfl⟩
  · obtain ⟨q7, q8⟩ := or_f hb6
    replace h := is_else (ne_t hb6) h
    refine aw_skip ?_
    refine aq_then ?_
    refine aw_seq ?_
    refine aw_region ?_
    refine ao_read trivial (r_move rfl) rfl ?_
    refine ao_read trivial (r_move rfl) rfl ?_
    obtain ⟨r9, r9h, h⟩ := is_bind h
    refine ao_scall trivial (scall (c_spec_l3Chance (is_mk r9h)) rfl Try.func133 rfl rfl rfl rfl (fun σ => ⟨ad_ren rfl, ad_ren rfl, ad_ren rfl, trivial⟩)) rfl ?_
    refine ao_effS trivial (e_store rfl rfl rfl rfl Try.sizeOf35 rfl) ?_
    refine ao_read trivial (r_assign rfl) rfl ?_
    refine ao_nil ?_
    refine aq_then ?_
    refine aw_ret ?_
    refine aq_ret ?_
    obtain rfl := is_some h
    exact aq_finx (l := [.cell 4 35, .tmp 5]) (xs := [.v (.arr 2 (.int .i64)) r9, .bool true]) idn [.v (.arr 2 (.int .i64)) r9, .bool true] [] rfl (by exact ⟨⟨⟨_, _, rfl⟩, r_load_arr rfl Try.isAgg35 Try.sizeOf35 rfl rfl rfl⟩, rfl, trivial⟩) (by exact ⟨ad_ren rfl, ad_ren rfl, trivial⟩) (by exact trivial) rfl (nk rfl) rfl rfl ⟨rfl, rfl⟩
theorem c_laws_rPlus {fu : Nat} {x0 : (List Int)} {x1 : (List Int)} {r : (List Int)} (h : Is (p_laws_rPlus fu x0 x1) (some r)) :
    Scalar Try.prog 63 [.v (.arr 2 (.int .i64)) x0, .v (.arr 2 (.int .i64)) x1] (.v (.arr 2 (.int .i64)) r) := by
  unfold p_laws_rPlus at h
  refine ac_enter ⟨42, 0⟩ Try.func63 rfl rfl rfl rfl rfl (fun Γ => ?_)
  refine aw_seq ?_
  refine aw_region ?_
  refine ao_eff trivial (e_box 0 rfl rfl rfl rfl rfl rfl) rfl ?_
  refine ao_eff trivial (e_box 1 rfl rfl rfl rfl rfl rfl) rfl ?_
  refine ao_eff trivial (e_alloc 2 (y := .v (.arr 2 (.int .i64)) ((List.replicate 2 0) : (List Int))) Try.zeroValue35 (fun ρ h M => ra_zero_arr (t := (.int .i64)) rfl) rfl rfl rfl rfl rfl) rfl ?_
  refine ao_nil ?_
  refine aq_then ?_
  refine aw_seq ?_
  refine aw_drawAll (by kernel_rfl) ?_
  refine an_read 0 (by kernel_rfl) (fun _ _ _ h => h) rfl (by kernel_rfl) trivial (r_idxAddr_arr (i := 0) Try.underlying35 Try.sizeOf3 rfl rfl (show 0 ≤ 0 from by omega) (show 0 < (2 : Int) from by omega)) rfl ?_
  refine an_read 1 (by kernel_rfl) (fun _ _ _ h => h) rfl (by kernel_rfl) trivial (r_load_elema_int Try.isAgg3 Try.sizeOf3 rfl rfl rfl (show 0 < 2 from by omega)) rfl ?_
  refine an_read 2 (by kernel_rfl) (fun _ _ _ h => h) rfl (by kernel_rfl) trivial (r_idxAddr_arr (i := 1) Try.underlying35 Try.sizeOf3 rfl rfl (show 0 ≤ 1 from by omega) (show 1 < (2 : Int) from by omega)) rfl ?_
  refine an_read 3 (by kernel_rfl) (fun _ _ _ h => h) rfl (by kernel_rfl) trivial (r_load_elema_int Try.isAgg3 Try.sizeOf3 rfl rfl rfl (show 1 < 2 from by omega)) rfl ?_
  refine an_read 4 (by kernel_rfl) (fun _ _ _ h => h) rfl (by kernel_rfl) trivial (r_mul rfl rfl) rfl ?_
  refine an_read 5 (by kernel_rfl) (fun _ _ _ h => h) rfl (by kernel_rfl) trivial (r_idxAddr_arr (i := 0) Try.underlying35 Try.sizeOf3 rfl rfl (show 0 ≤ 0 from by omega) (show 0 < (2 : Int) from by omega)) rfl ?_
  refine an_read 6 (by kernel_rfl) (fun _ _ _ h => h) rfl (by kernel_rfl) trivial (r_load_elema_int Try.isAgg3 Try.sizeOf3 rfl rfl rfl (show 0 < 2 from by omega)) rfl ?_
  refine an_read 7 (by kernel_rfl) (fun _ _ _ h => h) rfl (by kernel_rfl) trivial (r_idxAddr_arr (i := 1) Try.underlying35 Try.sizeOf3 rfl rfl (show 0 ≤ 1 from by omega) (show 1 < (2 : Int) from by omega)) rfl ?_
  refine an_read 8 (by kernel_rfl) (fun _ _ _ h => h) rfl (by kernel_rfl) trivial (r_load_elema_int Try.isAgg3 Try.sizeOf3 rfl rfl rfl (show 1 < 2 from by omega)) rfl ?_
  refine an_read 9 (by kernel_rfl) (fun _ _ _ h => h) rfl (by kernel_rfl) trivial (r_mul rfl rfl) rfl ?_
  refine an_read 10 (by kernel_rfl) (fun _ _ _ h => h) rfl (by kernel_rfl) trivial (r_add rfl rfl) rfl ?_
  refine an_read 11 (by kernel_rfl) (fun _ _ _ h => h) rfl (by kernel_rfl) trivial (r_idxAddr_arr (i := 1) Try.underlying35 Try.sizeOf3 rfl rfl (show 0 ≤ 1 from by omega) (show 1 < (2 : Int) from by omega)) rfl ?_
  refine an_read 12 (by kernel_rfl) (fun _ _ _ h => h) rfl (by kernel_rfl) trivial (r_load_elema_int Try.isAgg3 Try.sizeOf3 rfl rfl rfl (show 1 < 2 from by omega)) rfl ?_
  refine an_read 13 (by kernel_rfl) (fun _ _ _ h => h) rfl (by kernel_rfl) trivial (r_idxAddr_arr (i := 1) Try.underlying35 Try.sizeOf3 rfl rfl (show 0 ≤ 1 from by omega) (show 1 < (2 : Int) from by omega)) rfl ?_
  refine an_read 14 (by kernel_rfl) (fun _ _ _ h => h) rfl (by kernel_rfl) trivial (r_load_elema_int Try.isAgg3 Try.sizeOf3 rfl rfl rfl (show 1 < 2 from by omega)) rfl ?_
  refine an_read 15 (by kernel_rfl) (fun _ _ _ h => h) rfl (by kernel_rfl) trivial (r_mul rfl rfl) rfl ?_
  refine an_read 16 (by kernel_rfl) (fun _ _ _ h => h) rfl (by kernel_rfl) trivial (r_assign rfl) rfl ?_
  refine an_read 17 (by kernel_rfl) (fun _ _ _ h => h) rfl (by kernel_rfl) trivial (r_assign rfl) rfl ?_
  refine an_done rfl ?_
  refine aq_then ?_
  refine aw_seq ?_
  refine aw_region ?_
  refine ao_read trivial (r_move rfl) rfl ?_
  refine ao_read trivial (r_move rfl) rfl ?_
  refine ao_read trivial (r_assign rfl) rfl ?_
  refine ao_read trivial (r_assign rfl) rfl ?_
  refine ao_nil ?_
  refine aq_then ?_
  refine aw_seq ?_
  refine aw_block ?_
  refine aw_loop (AL.sub (sub_mk (rn [(0, 2)]) (by exact ⟨⟨_, rfl, ad_ren rfl⟩, ⟨_, rfl, ad_ren rfl⟩, ⟨_, rfl, ad_ren rfl⟩, ⟨_, rfl, ad_ren rfl⟩, ⟨_, rfl, ad_ren rfl⟩, trivial⟩) (by exact ⟨⟨_, rfl, ⟨rfl, trivial⟩⟩, trivial⟩) (by rfl) (nk rfl)) (al_whl (fun (s1 : Int × Int) => [(4, .ref 0 0), (5, .int .i64 (IntKind.wrap .i64 ((IntKind.wrap .i64 ((x0.getD 0 0) * (x1.getD 1 0))) + (IntKind.wrap .i64 ((x1.getD 0 0) * (x0.getD 1 0)))))), (6, .int .i64 (IntKind.wrap .i64 ((x0.getD 1 0) * (x1.getD 1 0)))), (7, .int .i64 s1.1), (8, .int .i64 s1.2)]) (fun (s1 : Int × Int) => [(0, .var [.arr (.int .i64) 2 ((List.replicate 2 0) : (List Int))])]) (fun (s1 : Int × Int) => True) h trivial (fun d3 s1 hI h ih3 => ?_)))
  replace h := is_whlS h
  refine al_round ?_
  refine aw_seq ?_
  refine aw_seq ?_
  refine aw_region ?_
  refine ao_read trivial (r_move rfl) rfl ?_
  refine ao_read trivial (r_gtr rfl rfl) rfl ?_
  refine ao_nil ?_
  refine aq_then ?_
  refine aw_cond rfl (fun hb5 => ?_) (fun hb5 => ?_)
  · have q6 := d_t hb5
    replace h := is_if (d_t hb5) h
    refine aw_skip ?_
    refine aq_then ?_
    refine aw_block ?_
    refine aw_drawAll (by kernel_rfl) ?_
    refine an_read 0 (by kernel_rfl) (fun _ _ _ h => h) rfl (by kernel_rfl) trivial (r_move rfl) rfl ?_
    refine an_read 1 (by kernel_rfl) (fun _ _ _ h => h) rfl (by kernel_rfl) trivial (r_move rfl) rfl ?_
    refine an_read 2 (by kernel_rfl) (fun _ _ _ h => h) rfl (by kernel_rfl) trivial (r_move rfl) rfl ?_
    refine an_read 3 (by kernel_rfl) (fun _ _ _ h => h) rfl (by kernel_rfl) trivial (r_rem rfl rfl (by omega)) rfl ?_
    refine an_read 4 (by kernel_rfl) (fun _ _ _ h => h) rfl (by kernel_rfl) trivial (r_assign rfl) rfl ?_
    refine an_read 5 (by kernel_rfl) (fun _ _ _ h => h) rfl (by kernel_rfl) trivial (r_assign rfl) rfl ?_
    refine an_done rfl ?_
    refine aq_in ?_
    exact aq_again (AL.sub (sub_mk idn (by exact ⟨⟨_, rfl, ad_ren rfl⟩, ⟨_, rfl, ad_ren rfl⟩, ⟨_, rfl, ad_ren rfl⟩, ⟨_, rfl, ad_ren rfl⟩, ⟨_, rfl, ad_ren rfl⟩, trivial⟩) (by exact ⟨⟨_, rfl, ⟨rfl, trivial⟩⟩, trivial⟩) (by rfl) (nk rfl)) (ih3 (s1.2, (s1.1.tmod s1.2)) trivial h))
  · have q7 := d_f hb5
    replace h := is_else (d_f hb5) h
    refine aw_exit ?_
    refine aq_then_exit ?_
    refine aq_then_exit ?_
    refine aq_in_exit ?_
    refine aq_then ?_
    refine aw_join (fun (s8 : Int) => [(4, .ref 0 0), (5, .int .i64 (IntKind.wrap .i64 ((IntKind.wrap .i64 ((x0.getD 0 0) * (x1.getD 1 0))) + (IntKind.wrap .i64 ((x1.getD 0 0) * (x0.getD 1 0)))))), (6, .int .i64 (IntKind.wrap .i64 ((x0.getD 1 0) * (x1.getD 1 0)))), (7, .int .i64 s8)]) (fun (s8 : Int) => [(0, .var [.arr (.int .i64) 2 ((List.replicate 2 0) : (List Int))])]) (fun (s8 : Int) => 0 ≤ s8) h (fun s8 hI h => ?_) (fun h j10 => ?_)
    · refine aw_seq ?_
      obtain ⟨g11, h⟩ := is_guard h
      obtain ⟨g12, h⟩ := is_guard h
      refine aw_draw 7 (by kernel_rfl) (by kernel_rfl) ?_
      refine an_read 0 (by kernel_rfl) (fun _ _ _ h => h) rfl (by kernel_rfl) trivial (r_move rfl) rfl ?_
      refine an_read 1 (by kernel_rfl) (fun _ _ _ h => h) rfl (by kernel_rfl) trivial (r_move rfl) rfl ?_
      refine an_read 2 (by kernel_rfl) (fun _ _ _ h => h) rfl (by kernel_rfl) trivial (r_quo rfl rfl g11) rfl ?_
      refine an_read 3 (by kernel_rfl) (fun _ _ _ h => h) rfl (by kernel_rfl) trivial (r_move rfl) rfl ?_
      refine an_read 4 (by kernel_rfl) (fun _ _ _ h => h) rfl (by kernel_rfl) trivial (r_move rfl) rfl ?_
      refine an_read 5 (by kernel_rfl) (fun _ _ _ h => h) rfl (by kernel_rfl) trivial (r_quo rfl rfl g12) rfl ?_
      refine an_read 6 (by kernel_rfl) (fun _ _ _ h => h) rfl (by kernel_rfl) trivial (r_build_arr (l := [(0, .tmp 37), (1, .tmp 40)]) (t := (.int .i64)) ([(IntKind.wrap .i64 ((IntKind.wrap .i64 ((IntKind.wrap .i64 ((x0.getD 0 0) * (x1.getD 1 0))) + (IntKind.wrap .i64 ((x1.getD 0 0) * (x0.getD 1 0))))).tdiv s8)), (IntKind.wrap .i64 ((IntKind.wrap .i64 ((x0.getD 1 0) * (x1.getD 1 0))).tdiv s8))] : (List Int)) rfl Try.underlying35 Try.zeroValue35 Try.sizeOf3 rfl rfl rfl rfl) rfl ?_
      refine an_tail rfl rfl ?_
      refine ao_effS trivial (e_store rfl rfl rfl rfl Try.sizeOf35 rfl) ?_
      refine ao_nil ?_
      refine aq_then ?_
      refine aw_ret ?_
      refine aq_ret ?_
      obtain rfl := is_some h
      exact aq_finx (l := [.cell 4 35]) (xs := [.v (.arr 2 (.int .i64)) ([(IntKind.wrap .i64 ((IntKind.wrap .i64 ((IntKind.wrap .i64 ((x0.getD 0 0) * (x1.getD 1 0))) + (IntKind.wrap .i64 ((x1.getD 0 0) * (x0.getD 1 0))))).tdiv s8)), (IntKind.wrap .i64 ((IntKind.wrap .i64 ((x0.getD 1 0) * (x1.getD 1 0))).tdiv s8))] : (List Int))]) idn [.v (.arr 2 (.int .i64)) ([(IntKind.wrap .i64 ((IntKind.wrap .i64 ((IntKind.wrap .i64 ((x0.getD 0 0) * (x1.getD 1 0))) + (IntKind.wrap .i64 ((x1.getD 0 0) * (x0.getD 1 0))))).tdiv s8)), (IntKind.wrap .i64 ((IntKind.wrap .i64 ((x0.getD 1 0) * (x1.getD 1 0))).tdiv s8))] : (List Int))] [] rfl (by exact ⟨⟨⟨_, _, rfl⟩, r_load_arr rfl Try.isAgg35 Try.sizeOf35 rfl rfl rfl⟩, trivial⟩) (by exact ⟨ad_ren rfl, trivial⟩) (by exact trivial) rfl (nk rfl) rfl rfl ⟨rfl, rfl⟩
    · refine aw_seq ?_
      refine aw_region ?_
      refine ao_read trivial (r_move rfl) rfl ?_
      refine ao_read trivial (r_lss rfl rfl) rfl ?_
      refine ao_nil ?_
      refine aq_then ?_
      refine aw_cond rfl (fun hb13 => ?_) (fun hb13 => ?_)
      · have q14 := d_t hb13
        replace h := is_if (d_t hb13) h
        refine aw_region ?_
        refine ao_read trivial (r_assign rfl) rfl ?_
        refine ao_nil ?_
        exact aq_then (AW.sub (sub_mk idn (by exact ⟨⟨_, rfl, ad_ren rfl⟩, ⟨_, rfl, ad_ren rfl⟩, ⟨_, rfl, ad_ren rfl⟩, ⟨_, rfl, ad_ren rfl⟩, trivial⟩) (by exact ⟨⟨_, rfl, ⟨rfl, trivial⟩⟩, trivial⟩) (by rfl) (nk rfl)) (j10 1 (by (try simp only [List.length_set, List.length_append, List.length_cons, List.length_nil, List.length_replicate, List.length_take, List.length_drop]) <;> omega) h))
      · have q15 := d_f hb13
        replace h := is_else (d_f hb13) h
        refine aw_skip ?_
        exact aq_then (AW.sub (sub_mk idn (by exact ⟨⟨_, rfl, ad_ren rfl⟩, ⟨_, rfl, ad_ren rfl⟩, ⟨_, rfl, ad_ren rfl⟩, ⟨_, rfl, ad_ren rfl⟩, trivial⟩) (by exact ⟨⟨_, rfl, ⟨rfl, trivial⟩⟩, trivial⟩) (by rfl) (nk rfl)) (j10 s1.1 (by (try simp only [List.length_set, List.length_append, List.length_cons, List.length_nil, List.length_replicate, List.length_take, List.length_drop]) <;> omega) h))
theorem c_impl_ShiftDie {x0 : (List Int)} {x1 : Int} {r : (List Int) × Bool} (h : Is (p_impl_ShiftDie x0 x1) r) :
    Scalar Try.prog 64 [.v (.arr 6 (.int .i64)) x0, .int .i64 x1] (.tup [.v (.arr 6 (.int .i64)) r.1, .bool r.2]) := by
  unfold p_impl_ShiftDie at h
  refine ac_enter ⟨25, 0⟩ Try.func64 rfl rfl rfl rfl rfl (fun Γ => ?_)
  refine aw_seq ?_
  refine aw_region ?_
  refine ao_eff trivial (e_box 0 rfl rfl rfl rfl rfl rfl) rfl ?_
  refine ao_eff trivial (e_alloc 1 (y := .v (.arr 6 (.int .i64)) ((List.replicate 6 0) : (List Int))) Try.zeroValue60 (fun ρ h M => ra_zero_arr (t := (.int .i64)) rfl) rfl rfl rfl rfl rfl) rfl ?_
  refine ao_read trivial (r_assign rfl) rfl ?_
  refine ao_nil ?_
  refine aq_then ?_
  refine aw_seq ?_
  refine aw_seq ?_
  refine aw_region ?_
  refine ao_read trivial (r_load_arr rfl Try.isAgg60 Try.sizeOf60 rfl rfl rfl) rfl ?_
  refine ao_scall trivial (scall (c_impl_IsDie (is_mk (rfl : p_impl_IsDie x0 = _))) rfl Try.func50 rfl rfl rfl rfl (fun σ => ⟨ad_ren rfl, trivial⟩)) rfl ?_
  refine ao_read trivial (r_not rfl) rfl ?_
  refine ao_read trivial (r_move rfl) rfl ?_
  refine ao_readG (x := .int .i64 x1) rfl (GV.F rfl) (fun hg1 => r_move rfl) rfl ?_
  refine ao_scallG (r := .bool (p_impl_within x1 (-30) 30)) rfl (GV.F rfl) (fun hg2 => SCall.strip 10 rfl (hg2) (scall (c_impl_within (is_mk (rfl : p_impl_within x1 (-30) 30 = _))) rfl Try.func96 rfl rfl rfl rfl (fun σ => ⟨ad_ren rfl, ad_ren rfl, ad_ren rfl, trivial⟩))) rfl ?_
  refine ao_readG (x := .bool (!(p_impl_within x1 (-30) 30))) rfl (GV.F rfl) (fun hg3 => Reads.strip 11 rfl (hg3) (r_not rfl)) rfl ?_
  refine ao_read trivial (r_orB rfl rfl) rfl ?_
  refine ao_read trivial (r_move rfl) rfl ?_
  refine ao_readG (x := .v (.arr 6 (.int .i64)) x0) rfl (GV.F rfl) (fun hg4 => by
        obtain ⟨q5, q6⟩ := or_f (not_t hg4)
        exact r_load_arr rfl Try.isAgg60 Try.sizeOf60 rfl rfl rfl) rfl ?_
  refine ao_readG (x := .int .i64 x1) rfl (GV.F rfl) (fun hg7 => by
        obtain ⟨q8, q9⟩ := or_f (not_t hg7)
        exact r_move rfl) rfl ?_
  refine ao_scallG (r := .v (.arr 6 (.int .i64)) ((p_impl_shifted x0 x1) : (List Int))) rfl (GV.F rfl) (fun hg10 => by
        obtain ⟨q11, q12⟩ := or_f (not_t hg10)
        exact SCall.strip 15 rfl (hg10) (SCall.strip 16 rfl (hg10) (scall (c_impl_shifted (is_mk (rfl : p_impl_shifted x0 x1 = _))) rfl Try.func130 rfl rfl rfl rfl (fun σ => ⟨ad_ren rfl, ad_ren rfl, trivial⟩)))) rfl ?_
  refine ao_scallG (r := .bool (p_impl_IsDie (p_impl_shifted x0 x1))) rfl (GV.F rfl) (fun hg13 => by
        obtain ⟨q14, q15⟩ := or_f (not_t hg13)
        exact SCall.strip 17 rfl (hg13) (scall (c_impl_IsDie (is_mk (rfl : p_impl_IsDie (p_impl_shifted x0 x1) = _))) rfl Try.func50 rfl rfl rfl rfl (fun σ => ⟨ad_ren rfl, trivial⟩))) rfl ?_
  refine ao_readG (x := .bool (!(p_impl_IsDie (p_impl_shifted x0 x1)))) rfl (GV.F rfl) (fun hg16 => by
        obtain ⟨q17, q18⟩ := or_f (not_t hg16)
        exact Reads.strip 18 rfl (hg16) (r_not rfl)) rfl ?_
  refine ao_read trivial (r_orB rfl rfl) rfl ?_
  refine ao_nil ?_
  refine aq_then ?_
  refine aw_cond rfl (fun hb19 => ?_) (fun hb19 => ?_)
  · replace h := is_if hb19 h
    refine aw_seq ?_
    refine aw_region ?_
    refine ao_read trivial (r_build_zero (t := (.int .i64)) Try.underlying60 Try.zeroValue60 Try.sizeOf3 rfl) rfl ?_
    refine ao_effS trivial (e_store rfl rfl rfl rfl Try.sizeOf60 rfl) ?_
    refine ao_read trivial (r_assign rfl) rfl ?_
    refine ao_nil ?_
    refine aq_then ?_
    refine aw_ret ?_
    refine aq_then_ret ?_
    refine aq_ret ?_
    obtain rfl := is_eq h
    exact aq_finx (l := [.cell 4 60, .tmp 5]) (xs := [.v (.arr 6 (.int .i64)) ((List.replicate 6 0) : (List Int)), .bool false]) idn [.v (.arr 6 (.int .i64)) ((List.replicate 6 0) : (List Int)), .bool false] [] rfl (by exact ⟨⟨⟨_, _, rfl⟩, r_load_arr rfl Try.isAgg60 Try.sizeOf60 rfl rfl rfl⟩, rfl, trivial⟩) (by exact ⟨ad_ren rfl, ad_ren rfl, trivial⟩) (by exact trivial) rfl (nk rfl) rfl rfl ⟨rfl, rfl⟩
  · obtain ⟨q20, q21⟩ := or_f hb19
    obtain ⟨q22, q23⟩ := or_f q20
    replace h := is_else (ne_t hb19) h
    refine aw_skip ?_
    refine aq_then ?_
    refine aw_seq ?_
    refine aw_region ?_
    refine ao_read trivial (r_load_arr rfl Try.isAgg60 Try.sizeOf60 rfl rfl rfl) rfl ?_
    refine ao_read trivial (r_move rfl) rfl ?_
    refine ao_scall trivial (scall (c_impl_shifted (is_mk (rfl : p_impl_shifted x0 x1 = _))) rfl Try.func130 rfl rfl rfl rfl (fun σ => ⟨ad_ren rfl, ad_ren rfl, trivial⟩)) rfl ?_
    refine ao_effS trivial (e_store rfl rfl rfl rfl Try.sizeOf60 rfl) ?_
    refine ao_read trivial (r_assign rfl) rfl ?_
    refine ao_nil ?_
    refine aq_then ?_
    refine aw_ret ?_
    refine aq_ret ?_
    obtain rfl := is_eq h
    exact aq_finx (l := [.cell 4 60, .tmp 5]) (xs := [.v (.arr 6 (.int .i64)) ((p_impl_shifted x0 x1) : (List Int)), .bool true]) idn [.v (.arr 6 (.int .i64)) ((p_impl_shifted x0 x1) : (List Int)), .bool true] [] rfl (by exact ⟨⟨⟨_, _, rfl⟩, r_load_arr rfl Try.isAgg60 Try.sizeOf60 rfl rfl rfl⟩, rfl, trivial⟩) (by exact ⟨ad_ren rfl, ad_ren rfl, trivial⟩) (by exact trivial) rfl (nk rfl) rfl rfl ⟨rfl, rfl⟩
end Go.GA
