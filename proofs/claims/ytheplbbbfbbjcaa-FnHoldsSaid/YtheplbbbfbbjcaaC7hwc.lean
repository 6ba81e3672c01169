/- Walks: what the Go functions compute, by the printed lines below; no further conditions. -/
import Derived.Test.YtheplbbbfbbjcaaC7hwb
namespace Go.GA
open Go Go.Proofs
set_option maxRecDepth 100000
set_option maxHeartbeats 2000000
set_option linter.unusedVariables false
set_option linter.unusedSimpArgs false
theorem c_impl_PlayRace {x0 : (List Int)} {x1 : (List Int)} {x2 : Int} {x3 : (List Int)} {r : Int × Int × Bool} (h : Is (p_impl_PlayRace x0 x1 x2 x3) (some r)) :
    Scalar Try.prog 44 [.v (.arr 6 (.int .i64)) x0, .v (.arr 6 (.int .i64)) x1, .int .i64 x2, .v (.slice (.int .i64)) x3] (.tup [.int .i64 r.1, .int .i64 r.2.1, .bool r.2.2]) := by
  unfold p_impl_PlayRace at h
  refine ac_enter ⟨66, 0⟩ Try.func44 rfl rfl rfl rfl rfl (fun Γ => ?_)
  refine sl_len_m 3 (x3.length : Int) rfl rfl (fun hl3 => ?_)
  refine aw_seq ?_
  refine aw_region ?_
  refine ao_eff trivial (e_box 0 rfl rfl rfl rfl rfl rfl) rfl ?_
  refine ao_eff trivial (e_box 1 rfl rfl rfl rfl rfl rfl) rfl ?_
  refine ao_read trivial (r_assign rfl) rfl ?_
  refine ao_read trivial (r_assign rfl) rfl ?_
  refine ao_read trivial (r_assign rfl) rfl ?_
  refine ao_nil ?_
  refine aq_then ?_
  refine aw_seq ?_
  refine aw_seq ?_
  refine aw_region ?_
  refine ao_read trivial (r_load_arr rfl Try.isAgg43 Try.sizeOf43 rfl rfl rfl) rfl ?_
  refine ao_scall trivial (scall (c_impl_isRunner (is_mk (rfl : p_impl_isRunner x0 = _))) rfl Try.func124 rfl rfl rfl rfl (fun σ => ⟨ad_ren rfl, trivial⟩)) rfl ?_
  refine ao_read trivial (r_not rfl) rfl ?_
  refine ao_read trivial (r_move rfl) rfl ?_
  refine ao_readG (x := .v (.arr 6 (.int .i64)) x1) rfl (GV.F rfl) (fun hg1 => r_load_arr rfl Try.isAgg43 Try.sizeOf43 rfl rfl rfl) rfl ?_
  refine ao_scallG (r := .bool (p_impl_isRunner x1)) rfl (GV.F rfl) (fun hg2 => SCall.strip 19 rfl (hg2) (scall (c_impl_isRunner (is_mk (rfl : p_impl_isRunner x1 = _))) rfl Try.func124 rfl rfl rfl rfl (fun σ => ⟨ad_ren rfl, trivial⟩))) rfl ?_
  refine ao_readG (x := .bool (!(p_impl_isRunner x1))) rfl (GV.F rfl) (fun hg3 => Reads.strip 20 rfl (hg3) (r_not rfl)) rfl ?_
  refine ao_read trivial (r_orB rfl rfl) rfl ?_
  refine ao_read trivial (r_move rfl) rfl ?_
  refine ao_readG (x := .int .i64 x2) rfl (GV.F rfl) (fun hg4 => by
        obtain ⟨q5, q6⟩ := or_f (not_t hg4)
        exact r_move rfl) rfl ?_
  refine ao_scallG (r := .bool (p_impl_isGoal x2)) rfl (GV.F rfl) (fun hg7 => by
        obtain ⟨q8, q9⟩ := or_f (not_t hg7)
        exact SCall.strip 24 rfl (hg7) (scall (c_impl_isGoal (is_mk (rfl : p_impl_isGoal x2 = _))) rfl Try.func125 rfl rfl rfl rfl (fun σ => ⟨ad_ren rfl, trivial⟩))) rfl ?_
  refine ao_readG (x := .bool (!(p_impl_isGoal x2))) rfl (GV.F rfl) (fun hg10 => by
        obtain ⟨q11, q12⟩ := or_f (not_t hg10)
        exact Reads.strip 25 rfl (hg10) (r_not rfl)) rfl ?_
  refine ao_read trivial (r_orB rfl rfl) rfl ?_
  refine ao_nil ?_
  refine aq_then ?_
  refine aw_cond rfl (fun hb13 => ?_) (fun hb13 => ?_)
  · replace h := is_if hb13 h
    refine aw_seq ?_
    refine aw_region ?_
    refine ao_read trivial (r_assign rfl) rfl ?_
    refine ao_read trivial (r_assign rfl) rfl ?_
    refine ao_read trivial (r_assign rfl) rfl ?_
    refine ao_nil ?_
    refine aq_then ?_
    refine aw_ret ?_
    refine aq_then_ret ?_
    refine aq_ret ?_
    obtain rfl := is_some h
    exact aq_finx (l := [.tmp 8, .tmp 9, .tmp 10]) (xs := [.int .i64 0, .int .i64 0, .bool false]) idn [.int .i64 0, .int .i64 0, .bool false] [] rfl (by exact ⟨rfl, rfl, rfl, trivial⟩) (by exact ⟨ad_ren rfl, ad_ren rfl, ad_ren rfl, trivial⟩) (by exact trivial) rfl (nk rfl) rfl rfl ⟨rfl, rfl⟩
  · obtain ⟨q14, q15⟩ := or_f hb13
    obtain ⟨q16, q17⟩ := or_f q14
    replace h := is_else (ne_t hb13) h
    refine aw_skip ?_
    refine aq_then ?_
    refine aw_seq ?_
    refine aw_region ?_
    refine ao_eff trivial (e_alloc 2 (y := .v (.arr 2 (.int .i64)) ((List.replicate 2 0) : (List Int))) Try.zeroValue30 (fun ρ h M => ra_zero_arr (t := (.int .i64)) rfl) rfl rfl rfl rfl rfl) rfl ?_
    refine ao_nil ?_
    refine aq_then ?_
    refine aw_seq ?_
    refine aw_seq ?_
    refine aw_region ?_
    refine ao_read trivial (r_move rfl) rfl ?_
    refine ao_read trivial (r_len_vm (x3.length : Int) Try.underlying36 rfl rfl) rfl ?_
    refine ao_read trivial (r_move rfl) rfl ?_
    refine ao_nil ?_
    refine aq_then ?_
    refine aw_block ?_
    refine aw_loop (AL.sub (fr' := [(2, .int .i64 x2), (3, .v (.slice (.int .i64)) x3), (4, .ref 0 0), (5, .ref 1 0), (11, .ref 2 0), (28, .v (.slice (.int .i64)) x3), (29, .int .i64 (x3.length : Int)), (30, .int .i64 0)]) (H' := [(0, .var [.arr (.int .i64) 6 x0]), (1, .var [.arr (.int .i64) 6 x1]), (2, .var [.arr (.int .i64) 2 ((List.replicate 2 0) : (List Int))])]) (sub_mk idn (by exact ⟨⟨_, rfl, ad_ren rfl⟩, ⟨_, rfl, ad_ren rfl⟩, ⟨_, rfl, ad_ren rfl⟩, ⟨_, rfl, ad_ren rfl⟩, ⟨_, rfl, ad_ren rfl⟩, ⟨_, rfl, ad_ren rfl⟩, ⟨_, rfl, ad_ren rfl⟩, ⟨_, rfl, ad_ren rfl⟩, trivial⟩) (by exact ⟨⟨_, rfl, ⟨rfl, trivial⟩⟩, ⟨_, rfl, ⟨rfl, trivial⟩⟩, ⟨_, rfl, ⟨rfl, trivial⟩⟩, trivial⟩) (by rfl) (nk rfl)) (al_cnt (fun i19 (s18 : (List Int)) => [(2, .int .i64 x2), (3, .v (.slice (.int .i64)) x3), (4, .ref 0 0), (5, .ref 1 0), (11, .ref 2 0), (28, .v (.slice (.int .i64)) x3), (29, .int .i64 (x3.length : Int)), (30, .int .i64 i19)]) (fun i19 (s18 : (List Int)) => [(0, .var [.arr (.int .i64) 6 x0]), (1, .var [.arr (.int .i64) 6 x1]), (2, .var [.arr (.int .i64) 2 s18])]) (fun d i19 (s18 : (List Int)) => d = Int.toNat ((x3.length : Int) - i19) ∧ 0 ≤ i19 ∧ (s18.length : Int) = 2 ∧ i19 ≤ (x3.length : Int)) h ⟨rfl, (by (try simp only [List.length_set, List.length_append, List.length_cons, List.length_nil, List.length_replicate, List.length_take, List.length_drop]) <;> omega), (by (try simp only [List.length_set, List.length_append, List.length_cons, List.length_nil, List.length_replicate, List.length_take, List.length_drop]) <;> omega), (by (try simp only [List.length_set, List.length_append, List.length_cons, List.length_nil, List.length_replicate, List.length_take, List.length_drop]) <;> omega)⟩ (fun d20 i19 s18 hI h ih20 => ?_)))
    obtain ⟨hd, _, _, _⟩ := hI
    refine al_round ?_
    refine aw_seq ?_
    refine aw_region ?_
    refine ao_read trivial (r_lss rfl rfl) rfl ?_
    refine ao_nil ?_
    refine aq_then ?_
    refine aw_seq ?_
    refine aw_cond rfl (fun hb22 => ?_) (fun hb22 => ?_)
    · have q23 := d_t hb22
      obtain ⟨d20, rfl⟩ : ∃ e, d20 = e + 1 := ⟨d20 - 1, by omega⟩
      replace h := is_cntS h
      refine aw_skip ?_
      refine aq_then ?_
      refine aw_seq ?_
      refine aw_block ?_
      refine aw_seq ?_
      refine aw_region ?_
      refine ao_read trivial (r_move rfl) rfl ?_
      refine ao_read trivial (r_idxAddr_int Try.underlying36 Try.sizeOf3 rfl rfl (show 0 ≤ i19 from by omega) (show i19 < (x3.length : Int) from by omega)) rfl ?_
      refine ao_read trivial (r_load_c_int Try.isAgg3 Try.sizeOf3 rfl) rfl ?_
      refine ao_read trivial (r_assign rfl) rfl ?_
      refine ao_read trivial (r_assign rfl) rfl ?_
      refine ao_nil ?_
      refine aq_then ?_
      refine aw_seq ?_
      refine aw_seq ?_
      refine aw_region ?_
      refine ao_read trivial (r_move rfl) rfl ?_
      refine ao_scall trivial (scall (c_impl_isSide (is_mk (rfl : p_impl_isSide (x3.getD i19.toNat 0) = _))) rfl Try.func122 rfl rfl rfl rfl (fun σ => ⟨ad_ren rfl, trivial⟩)) rfl ?_
      refine ao_read trivial (r_not rfl) rfl ?_
      refine ao_nil ?_
      refine aq_then ?_
      refine aw_cond rfl (fun hb25 => ?_) (fun hb25 => ?_)
      · replace h := is_else (ne_t (not_t hb25)) h
        refine aw_seq ?_
        refine aw_region ?_
        refine ao_read trivial (r_assign rfl) rfl ?_
        refine ao_read trivial (r_assign rfl) rfl ?_
        refine ao_read trivial (r_assign rfl) rfl ?_
        refine ao_nil ?_
        refine aq_then ?_
        refine aw_ret ?_
        refine aq_then_ret ?_
        refine aq_in_ret ?_
        refine aq_then_ret ?_
        refine aq_then_ret ?_
        refine aq_in_ret ?_
        refine aq_then_ret ?_
        refine aq_ret ?_
        obtain rfl := is_some h
        exact aq_finx (l := [.tmp 8, .tmp 9, .tmp 10]) (xs := [.int .i64 0, .int .i64 0, .bool false]) idn [.int .i64 0, .int .i64 0, .bool false] [] rfl (by exact ⟨rfl, rfl, rfl, trivial⟩) (by exact ⟨ad_ren rfl, ad_ren rfl, ad_ren rfl, trivial⟩) (by exact trivial) rfl (nk rfl) rfl rfl ⟨rfl, rfl⟩
      · replace h := is_if (not_f hb25) h
        refine aw_skip ?_
        refine aq_then ?_
        refine aw_seq ?_
        refine aw_region ?_
        refine ao_read trivial (r_load_arr rfl Try.isAgg43 Try.sizeOf43 rfl rfl rfl) rfl ?_
        refine ao_eff trivial (e_alloc 3 (y := .v (.arr 6 (.int .i64)) ((List.replicate 6 0) : (List Int))) Try.zeroValue43 (fun ρ h M => ra_zero_arr (t := (.int .i64)) rfl) rfl rfl rfl rfl rfl) rfl ?_
        refine ao_effS trivial (e_store rfl rfl rfl rfl Try.sizeOf43 rfl) ?_
        refine ao_nil ?_
        refine aq_then ?_
        refine aw_join (fun (s26 : (List Int)) => [(2, .int .i64 x2), (3, .v (.slice (.int .i64)) x3), (4, .ref 0 0), (5, .ref 1 0), (11, .ref 2 0), (12, .int .i64 i19), (13, .int .i64 (x3.getD i19.toNat 0)), (14, .ref 3 0), (28, .v (.slice (.int .i64)) x3), (29, .int .i64 (x3.length : Int)), (30, .int .i64 i19)]) (fun (s26 : (List Int)) => [(0, .var [.arr (.int .i64) 6 x0]), (1, .var [.arr (.int .i64) 6 x1]), (2, .var [.arr (.int .i64) 2 s18]), (3, .var [.arr (.int .i64) 6 s26])]) (fun (s26 : (List Int)) => True) h (fun s26 hI h => ?_) (fun h j28 => ?_)
        · refine aw_seq ?_
          obtain ⟨g29, h⟩ := is_guard h
          obtain ⟨g30, h⟩ := is_guard h
          obtain ⟨g31, h⟩ := is_guard h
          obtain ⟨g32, h⟩ := is_guard h
          refine aw_draw 9 (by kernel_rfl) (by kernel_rfl) ?_
          refine an_read 0 (by kernel_rfl) (fun _ _ _ h => h) rfl (by kernel_rfl) trivial (r_move rfl) rfl ?_
          refine an_read 1 (by kernel_rfl) (fun _ _ _ h => h) rfl (by kernel_rfl) trivial (r_rem rfl rfl (by decide)) rfl ?_
          refine an_read 2 (by kernel_rfl) (fun _ _ _ h => h) rfl (by kernel_rfl) trivial (r_idxAddr_arr (i := (i19.tmod 2)) Try.underlying30 Try.sizeOf3 rfl rfl (show 0 ≤ (i19.tmod 2) from by omega) (show (i19.tmod 2) < (2 : Int) from by omega)) rfl ?_
          refine an_read 3 (by kernel_rfl) (fun _ _ _ h => h) rfl (by kernel_rfl) trivial (r_load_elema_int Try.isAgg3 Try.sizeOf3 rfl rfl rfl (show (i19.tmod 2).toNat < 2 from by omega)) rfl ?_
          refine an_read 4 (by kernel_rfl) (fun _ _ _ h => h) rfl (by kernel_rfl) trivial (r_move rfl) rfl ?_
          refine an_read 5 (by kernel_rfl) (fun _ _ _ h => h) rfl (by kernel_rfl) trivial (r_idxAddr_arr (i := (x3.getD i19.toNat 0)) Try.underlying43 Try.sizeOf3 rfl rfl (show 0 ≤ (x3.getD i19.toNat 0) from by omega) (show (x3.getD i19.toNat 0) < (6 : Int) from by omega)) rfl ?_
          refine an_read 6 (by kernel_rfl) (fun _ _ _ h => h) rfl (by kernel_rfl) trivial (r_load_elema_int Try.isAgg3 Try.sizeOf3 rfl rfl rfl (show (x3.getD i19.toNat 0).toNat < 6 from by omega)) rfl ?_
          refine an_read 7 (by kernel_rfl) (fun _ _ _ h => h) rfl (by kernel_rfl) trivial (r_add rfl rfl) rfl ?_
          refine an_read 8 (by kernel_rfl) (fun _ _ _ h => h) rfl (by kernel_rfl) trivial (r_idxAddr_arr (i := (i19.tmod 2)) Try.underlying30 Try.sizeOf3 rfl rfl (show 0 ≤ (i19.tmod 2) from by omega) (show (i19.tmod 2) < (2 : Int) from by omega)) rfl ?_
          refine an_tail rfl rfl ?_
          refine ao_effS trivial (e_store_elema_int Try.sizeOf3 rfl rfl rfl rfl (show (i19.tmod 2).toNat < 2 from by omega) rfl) ?_
          refine ao_nil ?_
          refine aq_then ?_
          refine aw_seq ?_
          refine aw_region ?_
          refine ao_read trivial (r_move rfl) rfl ?_
          refine ao_read trivial (r_rem rfl rfl (by decide)) rfl ?_
          refine ao_read trivial (r_idxAddr_arr (i := (i19.tmod 2)) Try.underlying30 Try.sizeOf3 rfl rfl (show 0 ≤ (i19.tmod 2) from by omega) (show (i19.tmod 2) < (2 : Int) from by omega)) rfl ?_
          refine ao_read trivial (r_load_elema_int Try.isAgg3 Try.sizeOf3 rfl rfl rfl (show (i19.tmod 2).toNat < 2 from by omega)) rfl ?_
          refine ao_read trivial (r_move rfl) rfl ?_
          refine ao_read trivial (r_geq rfl rfl) rfl ?_
          refine ao_nil ?_
          refine aq_then ?_
          refine aw_cond rfl (fun hb33 => ?_) (fun hb33 => ?_)
          · have q34 : x2 ≤ ((s18.set (i19.tmod 2).toNat (IntKind.wrap .i64 ((s18.getD (i19.tmod 2).toNat 0) + (s26.getD (x3.getD i19.toNat 0).toNat 0)))).getD (i19.tmod 2).toNat 0) := d_t hb33
            replace h := is_if (d_t hb33) h
            refine aw_seq ?_
            refine aw_region ?_
            refine ao_read trivial (r_move rfl) rfl ?_
            refine ao_read trivial (r_rem rfl rfl (by decide)) rfl ?_
            refine ao_read trivial (r_addI rfl rfl (wrap_id (by omega) (by omega))) rfl ?_
            refine ao_read trivial (r_move rfl) rfl ?_
            refine ao_read trivial (r_addI rfl rfl (wrap_id (by omega) (by omega))) rfl ?_
            refine ao_read trivial (r_assign rfl) rfl ?_
            refine ao_read trivial (r_assign rfl) rfl ?_
            refine ao_read trivial (r_assign rfl) rfl ?_
            refine ao_nil ?_
            refine aq_then ?_
            refine aw_ret ?_
            refine aq_in_ret ?_
            refine aq_then_ret ?_
            refine aq_then_ret ?_
            refine aq_in_ret ?_
            refine aq_then_ret ?_
            refine aq_ret ?_
            obtain rfl := is_some h
            exact aq_finx (l := [.tmp 8, .tmp 9, .tmp 10]) (xs := [.int .i64 ((i19.tmod 2) + 1), .int .i64 (i19 + 1), .bool true]) idn [.int .i64 ((i19.tmod 2) + 1), .int .i64 (i19 + 1), .bool true] [] rfl (by exact ⟨rfl, rfl, rfl, trivial⟩) (by exact ⟨ad_ren rfl, ad_ren rfl, ad_ren rfl, trivial⟩) (by exact trivial) rfl (nk rfl) rfl rfl ⟨rfl, rfl⟩
          · have q35 : ¬ (x2 ≤ ((s18.set (i19.tmod 2).toNat (IntKind.wrap .i64 ((s18.getD (i19.tmod 2).toNat 0) + (s26.getD (x3.getD i19.toNat 0).toNat 0)))).getD (i19.tmod 2).toNat 0)) := d_f hb33
            replace h := is_else (d_f hb33) h
            refine aw_skip ?_
            refine aq_in ?_
            refine aq_then ?_
            refine aw_region ?_
            refine ao_read trivial (r_addI rfl rfl (wrap_id (by omega) (by omega))) rfl ?_
            refine ao_read trivial (r_move rfl) rfl ?_
            refine ao_nil ?_
            exact aq_again (AL.sub (sub_mk idn (by exact ⟨⟨_, rfl, ad_ren rfl⟩, ⟨_, rfl, ad_ren rfl⟩, ⟨_, rfl, ad_ren rfl⟩, ⟨_, rfl, ad_ren rfl⟩, ⟨_, rfl, ad_ren rfl⟩, ⟨_, rfl, ad_ren rfl⟩, ⟨_, rfl, ad_ren rfl⟩, ⟨_, rfl, ad_ren rfl⟩, trivial⟩) (by exact ⟨⟨_, rfl, ⟨rfl, trivial⟩⟩, ⟨_, rfl, ⟨rfl, trivial⟩⟩, ⟨_, rfl, ⟨rfl, trivial⟩⟩, trivial⟩) (by rfl) (nk rfl)) (ih20 d20 (i19 + 1) (s18.set (i19.tmod 2).toNat (IntKind.wrap .i64 ((s18.getD (i19.tmod 2).toNat 0) + (s26.getD (x3.getD i19.toNat 0).toNat 0)))) (by omega) ⟨by omega, (by (try simp only [List.length_set, List.length_append, List.length_cons, List.length_nil, List.length_replicate, List.length_take, List.length_drop]) <;> omega), (by (try simp only [List.length_set, List.length_append, List.length_cons, List.length_nil, List.length_replicate, List.length_take, List.length_drop]) <;> omega), (by (try simp only [List.length_set, List.length_append, List.length_cons, List.length_nil, List.length_replicate, List.length_take, List.length_drop]) <;> omega)⟩ h))
        · refine aw_seq ?_
          refine aw_region ?_
          refine ao_read trivial (r_move rfl) rfl ?_
          refine ao_read trivial (r_rem rfl rfl (by decide)) rfl ?_
          refine ao_read trivial (r_eql rfl rfl) rfl ?_
          refine ao_nil ?_
          refine aq_then ?_
          refine aw_cond rfl (fun hb36 => ?_) (fun hb36 => ?_)
          · have q37 := d_t hb36
            replace h := is_if (d_t hb36) h
            refine aw_region ?_
            refine ao_read trivial (r_load_arr rfl Try.isAgg43 Try.sizeOf43 rfl rfl rfl) rfl ?_
            refine ao_effS trivial (e_store rfl rfl rfl rfl Try.sizeOf43 rfl) ?_
            refine ao_nil ?_
            exact aq_then (AW.sub (sub_mk idn (by exact ⟨⟨_, rfl, ad_ren rfl⟩, ⟨_, rfl, ad_ren rfl⟩, ⟨_, rfl, ad_ren rfl⟩, ⟨_, rfl, ad_ren rfl⟩, ⟨_, rfl, ad_ren rfl⟩, ⟨_, rfl, ad_ren rfl⟩, ⟨_, rfl, ad_ren rfl⟩, ⟨_, rfl, ad_ren rfl⟩, ⟨_, rfl, ad_ren rfl⟩, ⟨_, rfl, ad_ren rfl⟩, ⟨_, rfl, ad_ren rfl⟩, trivial⟩) (by exact ⟨⟨_, rfl, ⟨rfl, trivial⟩⟩, ⟨_, rfl, ⟨rfl, trivial⟩⟩, ⟨_, rfl, ⟨rfl, trivial⟩⟩, ⟨_, rfl, ⟨rfl, trivial⟩⟩, trivial⟩) (by rfl) (nk rfl)) (j28 x1 trivial h))
          · have q38 := d_f hb36
            replace h := is_else (d_f hb36) h
            refine aw_skip ?_
            exact aq_then (AW.sub (sub_mk idn (by exact ⟨⟨_, rfl, ad_ren rfl⟩, ⟨_, rfl, ad_ren rfl⟩, ⟨_, rfl, ad_ren rfl⟩, ⟨_, rfl, ad_ren rfl⟩, ⟨_, rfl, ad_ren rfl⟩, ⟨_, rfl, ad_ren rfl⟩, ⟨_, rfl, ad_ren rfl⟩, ⟨_, rfl, ad_ren rfl⟩, ⟨_, rfl, ad_ren rfl⟩, ⟨_, rfl, ad_ren rfl⟩, ⟨_, rfl, ad_ren rfl⟩, trivial⟩) (by exact ⟨⟨_, rfl, ⟨rfl, trivial⟩⟩, ⟨_, rfl, ⟨rfl, trivial⟩⟩, ⟨_, rfl, ⟨rfl, trivial⟩⟩, ⟨_, rfl, ⟨rfl, trivial⟩⟩, trivial⟩) (by rfl) (nk rfl)) (j28 x0 trivial h))
    · have q24 := d_f hb22
      obtain rfl : d20 = 0 := by omega
      replace h := is_cnt0 h
      refine aw_exit ?_
      refine aq_then_exit ?_
      refine aq_then_exit ?_
      refine aq_in_exit ?_
      refine aq_then ?_
      refine aw_seq ?_
      refine aw_region ?_
      refine ao_read trivial (r_move rfl) rfl ?_
      refine ao_read trivial (r_len_vm (x3.length : Int) Try.underlying36 rfl rfl) rfl ?_
      refine ao_read trivial (r_assign rfl) rfl ?_
      refine ao_read trivial (r_assign rfl) rfl ?_
      refine ao_read trivial (r_assign rfl) rfl ?_
      refine ao_nil ?_
      refine aq_then ?_
      refine aw_ret ?_
      refine aq_ret ?_
      obtain rfl := is_some h
      exact aq_finx (l := [.tmp 8, .tmp 9, .tmp 10]) (xs := [.int .i64 0, .int .i64 (x3.length : Int), .bool true]) idn [.int .i64 0, .int .i64 (x3.length : Int), .bool true] [] rfl (by exact ⟨rfl, rfl, rfl, trivial⟩) (by exact ⟨ad_ren rfl, ad_ren rfl, ad_ren rfl, trivial⟩) (by exact trivial) rfl (nk rfl) rfl rfl ⟨rfl, rfl⟩
theorem c_spec_l7Goal {x0 : Int} {r : Bool} (h : Is (p_spec_l7Goal x0) r) :
    Scalar Try.prog 127 [.int .i64 x0] (.bool r) := by
  unfold p_spec_l7Goal at h
  refine ac_enter ⟨5, 0⟩ Try.func127 rfl rfl rfl rfl rfl (fun Γ => ?_)
  refine aw_seq ?_
  refine aw_region ?_
  refine ao_read trivial (r_assign rfl) rfl ?_
  refine ao_nil ?_
  refine aq_then ?_
  refine aw_seq ?_
  refine aw_region ?_
  refine ao_read trivial (r_move rfl) rfl ?_
  refine ao_scall trivial (scall (c_spec_l1In (is_mk (rfl : p_spec_l1In x0 1 8 = _))) rfl Try.func123 rfl rfl rfl rfl (fun σ => ⟨ad_ren rfl, ad_ren rfl, ad_ren rfl, trivial⟩)) rfl ?_
  refine ao_read trivial (r_assign rfl) rfl ?_
  refine ao_nil ?_
  refine aq_then ?_
  refine aw_ret ?_
  refine aq_ret ?_
  obtain rfl := is_eq h
  exact aq_finx (l := [.tmp 2]) (xs := [.bool (p_spec_l1In x0 1 8)]) idn [.bool (p_spec_l1In x0 1 8)] [] rfl (by exact ⟨rfl, trivial⟩) (by exact ⟨ad_ren rfl, trivial⟩) (by exact trivial) rfl (nk rfl) rfl rfl ⟨rfl, rfl⟩
theorem c_spec_PlayRace {x0 : (List Int)} {x1 : (List Int)} {x2 : Int} {x3 : (List Int)} {r : Int × Int × Bool} (h : Is (p_spec_PlayRace x0 x1 x2 x3) (some r)) :
    Scalar Try.prog 45 [.v (.arr 6 (.int .i64)) x0, .v (.arr 6 (.int .i64)) x1, .int .i64 x2, .v (.slice (.int .i64)) x3] (.tup [.int .i64 r.1, .int .i64 r.2.1, .bool r.2.2]) := by
  unfold p_spec_PlayRace at h
  refine ac_enter ⟨77, 0⟩ Try.func45 rfl rfl rfl rfl rfl (fun Γ => ?_)
  refine sl_len_m 3 (x3.length : Int) rfl rfl (fun hl3 => ?_)
  refine aw_seq ?_
  refine aw_region ?_
  refine ao_eff trivial (e_box 0 rfl rfl rfl rfl rfl rfl) rfl ?_
  refine ao_eff trivial (e_box 1 rfl rfl rfl rfl rfl rfl) rfl ?_
  refine ao_read trivial (r_assign rfl) rfl ?_
  refine ao_read trivial (r_assign rfl) rfl ?_
  refine ao_read trivial (r_assign rfl) rfl ?_
  refine ao_nil ?_
  refine aq_then ?_
  refine aw_seq ?_
  refine aw_seq ?_
  refine aw_region ?_
  refine ao_read trivial (r_load_arr rfl Try.isAgg43 Try.sizeOf43 rfl rfl rfl) rfl ?_
  obtain ⟨r1, r1h, h⟩ := is_bind h
  refine ao_scall trivial (scall (c_spec_l7Die (is_mk r1h)) rfl Try.func126 rfl rfl rfl rfl (fun σ => ⟨ad_ren rfl, trivial⟩)) rfl ?_
  refine ao_read trivial (r_not rfl) rfl ?_
  refine ao_read trivial (r_move rfl) rfl ?_
  refine ao_readG (x := .v (.arr 6 (.int .i64)) x1) rfl (GV.F rfl) (fun hg2 => r_load_arr rfl Try.isAgg43 Try.sizeOf43 rfl rfl rfl) rfl ?_
  obtain ⟨g4, h⟩ := is_guard h
  refine ao_scallG (r := .bool ((p_spec_l7Die x1).getD false)) rfl (GV.F rfl) (fun hg3 => SCall.strip 18 rfl (hg3) (scall (c_spec_l7Die (is_mk (isSome_getD (g4 hg3)))) rfl Try.func126 rfl rfl rfl rfl (fun σ => ⟨ad_ren rfl, trivial⟩))) rfl ?_
  refine ao_readG (x := .bool (!((p_spec_l7Die x1).getD false))) rfl (GV.F rfl) (fun hg5 => Reads.strip 19 rfl (hg5) (r_not rfl)) rfl ?_
  refine ao_read trivial (r_orB rfl rfl) rfl ?_
  refine ao_read trivial (r_move rfl) rfl ?_
  refine ao_readG (x := .int .i64 x2) rfl (GV.F rfl) (fun hg6 => by
        obtain ⟨q7, q8⟩ := or_f (not_t hg6)
        exact r_move rfl) rfl ?_
  refine ao_scallG (r := .bool (p_spec_l7Goal x2)) rfl (GV.F rfl) (fun hg9 => by
        obtain ⟨q10, q11⟩ := or_f (not_t hg9)
        exact SCall.strip 23 rfl (hg9) (scall (c_spec_l7Goal (is_mk (rfl : p_spec_l7Goal x2 = _))) rfl Try.func127 rfl rfl rfl rfl (fun σ => ⟨ad_ren rfl, trivial⟩))) rfl ?_
  refine ao_readG (x := .bool (!(p_spec_l7Goal x2))) rfl (GV.F rfl) (fun hg12 => by
        obtain ⟨q13, q14⟩ := or_f (not_t hg12)
        exact Reads.strip 24 rfl (hg12) (r_not rfl)) rfl ?_
  refine ao_read trivial (r_orB rfl rfl) rfl ?_
  refine ao_nil ?_
  refine aq_then ?_
  refine aw_cond rfl (fun hb15 => ?_) (fun hb15 => ?_)
  · replace h := is_if hb15 h
    refine aw_seq ?_
    refine aw_region ?_
    refine ao_read trivial (r_assign rfl) rfl ?_
    refine ao_read trivial (r_assign rfl) rfl ?_
    refine ao_read trivial (r_assign rfl) rfl ?_
    refine ao_nil ?_
    refine aq_then ?_
    refine aw_ret ?_
    refine aq_then_ret ?_
    refine aq_ret ?_
    obtain rfl := is_some h
    exact aq_finx (l := [.tmp 8, .tmp 9, .tmp 10]) (xs := [.int .i64 0, .int .i64 0, .bool false]) idn [.int .i64 0, .int .i64 0, .bool false] [] rfl (by exact ⟨rfl, rfl, rfl, trivial⟩) (by exact ⟨ad_ren rfl, ad_ren rfl, ad_ren rfl, trivial⟩) (by exact trivial) rfl (nk rfl) rfl rfl ⟨rfl, rfl⟩
  · obtain ⟨q16, q17⟩ := or_f hb15
    obtain ⟨q18, q19⟩ := or_f q16
    replace h := is_else (ne_t hb15) h
    refine aw_skip ?_
    refine aq_then ?_
    refine aw_seq ?_
    refine aw_region ?_
    refine ao_read trivial (r_build_zero (t := (.int .i64)) Try.underlying30 Try.zeroValue30 Try.sizeOf3 rfl) rfl ?_
    refine ao_eff trivial (e_alloc 2 (y := .v (.arr 2 (.int .i64)) ((List.replicate 2 0) : (List Int))) Try.zeroValue30 (fun ρ h M => ra_zero_arr (t := (.int .i64)) rfl) rfl rfl rfl rfl rfl) rfl ?_
    refine ao_effS trivial (e_store rfl rfl rfl rfl Try.sizeOf30 rfl) ?_
    refine ao_nil ?_
    refine aq_then ?_
    refine aw_seq ?_
    refine aw_seq ?_
    refine aw_region ?_
    refine ao_read trivial (r_assign rfl) rfl ?_
    refine ao_nil ?_
    refine aq_then ?_
    refine aw_block ?_
    refine aw_loop (AL.sub (fr' := [(2, .int .i64 x2), (3, .v (.slice (.int .i64)) x3), (4, .ref 0 0), (5, .ref 1 0), (11, .ref 2 0), (12, .int .i64 0)]) (H' := [(0, .var [.arr (.int .i64) 6 x0]), (1, .var [.arr (.int .i64) 6 x1]), (2, .var [.arr (.int .i64) 2 ((List.replicate 2 0) : (List Int))])]) (sub_mk idn (by exact ⟨⟨_, rfl, ad_ren rfl⟩, ⟨_, rfl, ad_ren rfl⟩, ⟨_, rfl, ad_ren rfl⟩, ⟨_, rfl, ad_ren rfl⟩, ⟨_, rfl, ad_ren rfl⟩, ⟨_, rfl, ad_ren rfl⟩, trivial⟩) (by exact ⟨⟨_, rfl, ⟨rfl, trivial⟩⟩, ⟨_, rfl, ⟨rfl, trivial⟩⟩, ⟨_, rfl, ⟨rfl, trivial⟩⟩, trivial⟩) (by rfl) (nk rfl)) (al_cnt (fun i21 (s20 : (List Int)) => [(2, .int .i64 x2), (3, .v (.slice (.int .i64)) x3), (4, .ref 0 0), (5, .ref 1 0), (11, .ref 2 0), (12, .int .i64 i21)]) (fun i21 (s20 : (List Int)) => [(0, .var [.arr (.int .i64) 6 x0]), (1, .var [.arr (.int .i64) 6 x1]), (2, .var [.arr (.int .i64) 2 s20])]) (fun d i21 (s20 : (List Int)) => d = Int.toNat ((x3.length : Int) - i21) ∧ 0 ≤ i21 ∧ (s20.length : Int) = 2 ∧ i21 ≤ (x3.length : Int)) h ⟨rfl, (by (try simp only [List.length_set, List.length_append, List.length_cons, List.length_nil, List.length_replicate, List.length_take, List.length_drop]) <;> omega), (by (try simp only [List.length_set, List.length_append, List.length_cons, List.length_nil, List.length_replicate, List.length_take, List.length_drop]) <;> omega), (by (try simp only [List.length_set, List.length_append, List.length_cons, List.length_nil, List.length_replicate, List.length_take, List.length_drop]) <;> omega)⟩ (fun d22 i21 s20 hI h ih22 => ?_)))
    obtain ⟨hd, _, _, _⟩ := hI
    refine al_round ?_
    refine aw_seq ?_
    refine aw_seq ?_
    refine aw_region ?_
    refine ao_read trivial (r_move rfl) rfl ?_
    refine ao_read trivial (r_move rfl) rfl ?_
    refine ao_read trivial (r_len_vm (x3.length : Int) Try.underlying36 rfl rfl) rfl ?_
    refine ao_read trivial (r_lss rfl rfl) rfl ?_
    refine ao_nil ?_
    refine aq_then ?_
    refine aw_cond rfl (fun hb24 => ?_) (fun hb24 => ?_)
    · have q25 := d_t hb24
      obtain ⟨d22, rfl⟩ : ∃ e, d22 = e + 1 := ⟨d22 - 1, by omega⟩
      replace h := is_cntS h
      refine aw_skip ?_
      refine aq_then ?_
      refine aw_seq ?_
      refine aw_block ?_
      refine aw_seq ?_
      refine aw_seq ?_
      refine aw_region ?_
      refine ao_read trivial (r_move rfl) rfl ?_
      refine ao_read trivial (r_move rfl) rfl ?_
      refine ao_read trivial (r_idxAddr_int Try.underlying36 Try.sizeOf3 rfl rfl (show 0 ≤ i21 from by omega) (show i21 < (x3.length : Int) from by omega)) rfl ?_
      refine ao_read trivial (r_load_c_int Try.isAgg3 Try.sizeOf3 rfl) rfl ?_
      refine ao_scall trivial (scall (c_spec_l1In (is_mk (rfl : p_spec_l1In (x3.getD i21.toNat 0) 0 5 = _))) rfl Try.func123 rfl rfl rfl rfl (fun σ => ⟨ad_ren rfl, ad_ren rfl, ad_ren rfl, trivial⟩)) rfl ?_
      refine ao_read trivial (r_not rfl) rfl ?_
      refine ao_nil ?_
      refine aq_then ?_
      refine aw_cond rfl (fun hb27 => ?_) (fun hb27 => ?_)
      · replace h := is_else (ne_t (not_t hb27)) h
        refine aw_seq ?_
        refine aw_region ?_
        refine ao_read trivial (r_assign rfl) rfl ?_
        refine ao_read trivial (r_assign rfl) rfl ?_
        refine ao_read trivial (r_assign rfl) rfl ?_
        refine ao_nil ?_
        refine aq_then ?_
        refine aw_ret ?_
        refine aq_then_ret ?_
        refine aq_in_ret ?_
        refine aq_then_ret ?_
        refine aq_then_ret ?_
        refine aq_in_ret ?_
        refine aq_then_ret ?_
        refine aq_ret ?_
        obtain rfl := is_some h
        exact aq_finx (l := [.tmp 8, .tmp 9, .tmp 10]) (xs := [.int .i64 0, .int .i64 0, .bool false]) idn [.int .i64 0, .int .i64 0, .bool false] [] rfl (by exact ⟨rfl, rfl, rfl, trivial⟩) (by exact ⟨ad_ren rfl, ad_ren rfl, ad_ren rfl, trivial⟩) (by exact trivial) rfl (nk rfl) rfl rfl ⟨rfl, rfl⟩
      · replace h := is_if (not_f hb27) h
        refine aw_skip ?_
        refine aq_then ?_
        refine aw_seq ?_
        refine aw_region ?_
        refine ao_read trivial (r_move rfl) rfl ?_
        refine ao_read trivial (r_move rfl) rfl ?_
        refine ao_read trivial (r_idxAddr_int Try.underlying36 Try.sizeOf3 rfl rfl (show 0 ≤ i21 from by omega) (show i21 < (x3.length : Int) from by omega)) rfl ?_
        refine ao_read trivial (r_load_c_int Try.isAgg3 Try.sizeOf3 rfl) rfl ?_
        obtain ⟨g28, h⟩ := is_guard h
        obtain ⟨g29, h⟩ := is_guard h
        refine ao_read trivial (r_idxAddr_arr (i := (x3.getD i21.toNat 0)) Try.underlying43 Try.sizeOf3 rfl rfl (show 0 ≤ (x3.getD i21.toNat 0) from by omega) (show (x3.getD i21.toNat 0) < (6 : Int) from by omega)) rfl ?_
        refine ao_read trivial (r_load_elema_int Try.isAgg3 Try.sizeOf3 rfl rfl rfl (show (x3.getD i21.toNat 0).toNat < 6 from by omega)) rfl ?_
        refine ao_read trivial (r_assign rfl) rfl ?_
        refine ao_nil ?_
        refine aq_then ?_
        refine aw_join (fun (s30 : Int) => [(2, .int .i64 x2), (3, .v (.slice (.int .i64)) x3), (4, .ref 0 0), (5, .ref 1 0), (11, .ref 2 0), (12, .int .i64 i21), (13, .int .i64 s30)]) (fun (s30 : Int) => [(0, .var [.arr (.int .i64) 6 x0]), (1, .var [.arr (.int .i64) 6 x1]), (2, .var [.arr (.int .i64) 2 s20])]) (fun (s30 : Int) => True) h (fun s30 hI h => ?_) (fun h j32 => ?_)
        · refine aw_seq ?_
          refine aw_region ?_
          refine ao_read trivial (r_move rfl) rfl ?_
          refine ao_read trivial (r_rem rfl rfl (by decide)) rfl ?_
          refine ao_read trivial (r_move rfl) rfl ?_
          refine ao_read trivial (r_rem rfl rfl (by decide)) rfl ?_
          obtain ⟨g33, h⟩ := is_guard h
          obtain ⟨g34, h⟩ := is_guard h
          refine ao_read trivial (r_idxAddr_arr (i := (i21.tmod 2)) Try.underlying30 Try.sizeOf3 rfl rfl (show 0 ≤ (i21.tmod 2) from by omega) (show (i21.tmod 2) < (2 : Int) from by omega)) rfl ?_
          refine ao_read trivial (r_load_elema_int Try.isAgg3 Try.sizeOf3 rfl rfl rfl (show (i21.tmod 2).toNat < 2 from by omega)) rfl ?_
          refine ao_read trivial (r_move rfl) rfl ?_
          refine ao_read trivial (r_add rfl rfl) rfl ?_
          refine ao_read trivial (r_idxAddr_arr (i := (i21.tmod 2)) Try.underlying30 Try.sizeOf3 rfl rfl (show 0 ≤ (i21.tmod 2) from by omega) (show (i21.tmod 2) < (2 : Int) from by omega)) rfl ?_
          refine ao_effS trivial (e_store_elema_int Try.sizeOf3 rfl rfl rfl rfl (show (i21.tmod 2).toNat < 2 from by omega) rfl) ?_
          refine ao_nil ?_
          refine aq_then ?_
          refine aw_seq ?_
          refine aw_region ?_
          refine ao_read trivial (r_move rfl) rfl ?_
          refine ao_read trivial (r_rem rfl rfl (by decide)) rfl ?_
          refine ao_read trivial (r_idxAddr_arr (i := (i21.tmod 2)) Try.underlying30 Try.sizeOf3 rfl rfl (show 0 ≤ (i21.tmod 2) from by omega) (show (i21.tmod 2) < (2 : Int) from by omega)) rfl ?_
          refine ao_read trivial (r_load_elema_int Try.isAgg3 Try.sizeOf3 rfl rfl rfl (show (i21.tmod 2).toNat < 2 from by omega)) rfl ?_
          refine ao_read trivial (r_move rfl) rfl ?_
          refine ao_read trivial (r_geq rfl rfl) rfl ?_
          refine ao_nil ?_
          refine aq_then ?_
          refine aw_cond rfl (fun hb35 => ?_) (fun hb35 => ?_)
          · have q36 : x2 ≤ ((s20.set (i21.tmod 2).toNat (IntKind.wrap .i64 ((s20.getD (i21.tmod 2).toNat 0) + s30))).getD (i21.tmod 2).toNat 0) := d_t hb35
            replace h := is_if (d_t hb35) h
            refine aw_seq ?_
            refine aw_region ?_
            refine ao_read trivial (r_move rfl) rfl ?_
            refine ao_read trivial (r_rem rfl rfl (by decide)) rfl ?_
            refine ao_read trivial (r_addI rfl rfl (wrap_id (by omega) (by omega))) rfl ?_
            refine ao_read trivial (r_move rfl) rfl ?_
            refine ao_read trivial (r_addI rfl rfl (wrap_id (by omega) (by omega))) rfl ?_
            refine ao_read trivial (r_assign rfl) rfl ?_
            refine ao_read trivial (r_assign rfl) rfl ?_
            refine ao_read trivial (r_assign rfl) rfl ?_
            refine ao_nil ?_
            refine aq_then ?_
            refine aw_ret ?_
            refine aq_in_ret ?_
            refine aq_then_ret ?_
            refine aq_then_ret ?_
            refine aq_in_ret ?_
            refine aq_then_ret ?_
            refine aq_ret ?_
            obtain rfl := is_some h
            exact aq_finx (l := [.tmp 8, .tmp 9, .tmp 10]) (xs := [.int .i64 ((i21.tmod 2) + 1), .int .i64 (i21 + 1), .bool true]) idn [.int .i64 ((i21.tmod 2) + 1), .int .i64 (i21 + 1), .bool true] [] rfl (by exact ⟨rfl, rfl, rfl, trivial⟩) (by exact ⟨ad_ren rfl, ad_ren rfl, ad_ren rfl, trivial⟩) (by exact trivial) rfl (nk rfl) rfl rfl ⟨rfl, rfl⟩
          · have q37 : ¬ (x2 ≤ ((s20.set (i21.tmod 2).toNat (IntKind.wrap .i64 ((s20.getD (i21.tmod 2).toNat 0) + s30))).getD (i21.tmod 2).toNat 0)) := d_f hb35
            replace h := is_else (d_f hb35) h
            refine aw_skip ?_
            refine aq_in ?_
            refine aq_then ?_
            refine aw_region ?_
            refine ao_read trivial (r_move rfl) rfl ?_
            refine ao_read trivial (r_addI rfl rfl (wrap_id (by omega) (by omega))) rfl ?_
            refine ao_read trivial (r_assign rfl) rfl ?_
            refine ao_nil ?_
            exact aq_again (AL.sub (sub_mk idn (by exact ⟨⟨_, rfl, ad_ren rfl⟩, ⟨_, rfl, ad_ren rfl⟩, ⟨_, rfl, ad_ren rfl⟩, ⟨_, rfl, ad_ren rfl⟩, ⟨_, rfl, ad_ren rfl⟩, ⟨_, rfl, ad_ren rfl⟩, trivial⟩) (by exact ⟨⟨_, rfl, ⟨rfl, trivial⟩⟩, ⟨_, rfl, ⟨rfl, trivial⟩⟩, ⟨_, rfl, ⟨rfl, trivial⟩⟩, trivial⟩) (by rfl) (nk rfl)) (ih22 d22 (i21 + 1) (s20.set (i21.tmod 2).toNat (IntKind.wrap .i64 ((s20.getD (i21.tmod 2).toNat 0) + s30))) (by omega) ⟨by omega, (by (try simp only [List.length_set, List.length_append, List.length_cons, List.length_nil, List.length_replicate, List.length_take, List.length_drop]) <;> omega), (by (try simp only [List.length_set, List.length_append, List.length_cons, List.length_nil, List.length_replicate, List.length_take, List.length_drop]) <;> omega), (by (try simp only [List.length_set, List.length_append, List.length_cons, List.length_nil, List.length_replicate, List.length_take, List.length_drop]) <;> omega)⟩ h))
        · refine aw_seq ?_
          refine aw_region ?_
          refine ao_read trivial (r_move rfl) rfl ?_
          refine ao_read trivial (r_rem rfl rfl (by decide)) rfl ?_
          refine ao_read trivial (r_eql rfl rfl) rfl ?_
          refine ao_nil ?_
          refine aq_then ?_
          refine aw_cond rfl (fun hb38 => ?_) (fun hb38 => ?_)
          · have q39 := d_t hb38
            replace h := is_if (d_t hb38) h
            refine aw_region ?_
            refine ao_read trivial (r_move rfl) rfl ?_
            refine ao_read trivial (r_move rfl) rfl ?_
            refine ao_read trivial (r_idxAddr_int Try.underlying36 Try.sizeOf3 rfl rfl (show 0 ≤ i21 from by omega) (show i21 < (x3.length : Int) from by omega)) rfl ?_
            refine ao_read trivial (r_load_c_int Try.isAgg3 Try.sizeOf3 rfl) rfl ?_
            refine ao_read trivial (r_idxAddr_arr (i := (x3.getD i21.toNat 0)) Try.underlying43 Try.sizeOf3 rfl rfl (show 0 ≤ (x3.getD i21.toNat 0) from by omega) (show (x3.getD i21.toNat 0) < (6 : Int) from by omega)) rfl ?_
            refine ao_read trivial (r_load_elema_int Try.isAgg3 Try.sizeOf3 rfl rfl rfl (show (x3.getD i21.toNat 0).toNat < 6 from by omega)) rfl ?_
            refine ao_read trivial (r_assign rfl) rfl ?_
            refine ao_nil ?_
            exact aq_then (AW.sub (sub_mk idn (by exact ⟨⟨_, rfl, ad_ren rfl⟩, ⟨_, rfl, ad_ren rfl⟩, ⟨_, rfl, ad_ren rfl⟩, ⟨_, rfl, ad_ren rfl⟩, ⟨_, rfl, ad_ren rfl⟩, ⟨_, rfl, ad_ren rfl⟩, ⟨_, rfl, ad_ren rfl⟩, trivial⟩) (by exact ⟨⟨_, rfl, ⟨rfl, trivial⟩⟩, ⟨_, rfl, ⟨rfl, trivial⟩⟩, ⟨_, rfl, ⟨rfl, trivial⟩⟩, trivial⟩) (by rfl) (nk rfl)) (j32 (x1.getD (x3.getD i21.toNat 0).toNat 0) trivial h))
          · have q40 := d_f hb38
            replace h := is_else (d_f hb38) h
            refine aw_skip ?_
            exact aq_then (AW.sub (sub_mk idn (by exact ⟨⟨_, rfl, ad_ren rfl⟩, ⟨_, rfl, ad_ren rfl⟩, ⟨_, rfl, ad_ren rfl⟩, ⟨_, rfl, ad_ren rfl⟩, ⟨_, rfl, ad_ren rfl⟩, ⟨_, rfl, ad_ren rfl⟩, ⟨_, rfl, ad_ren rfl⟩, trivial⟩) (by exact ⟨⟨_, rfl, ⟨rfl, trivial⟩⟩, ⟨_, rfl, ⟨rfl, trivial⟩⟩, ⟨_, rfl, ⟨rfl, trivial⟩⟩, trivial⟩) (by rfl) (nk rfl)) (j32 (x0.getD (x3.getD i21.toNat 0).toNat 0) trivial h))
    · have q26 := d_f hb24
      obtain rfl : d22 = 0 := by omega
      replace h := is_cnt0 h
      refine aw_exit ?_
      refine aq_then_exit ?_
      refine aq_then_exit ?_
      refine aq_in_exit ?_
      refine aq_then ?_
      refine aw_seq ?_
      refine aw_region ?_
      refine ao_read trivial (r_move rfl) rfl ?_
      refine ao_read trivial (r_len_vm (x3.length : Int) Try.underlying36 rfl rfl) rfl ?_
      refine ao_read trivial (r_assign rfl) rfl ?_
      refine ao_read trivial (r_assign rfl) rfl ?_
      refine ao_read trivial (r_assign rfl) rfl ?_
      refine ao_nil ?_
      refine aq_then ?_
      refine aw_ret ?_
      refine aq_ret ?_
      obtain rfl := is_some h
      exact aq_finx (l := [.tmp 8, .tmp 9, .tmp 10]) (xs := [.int .i64 0, .int .i64 (x3.length : Int), .bool true]) idn [.int .i64 0, .int .i64 (x3.length : Int), .bool true] [] rfl (by exact ⟨rfl, rfl, rfl, trivial⟩) (by exact ⟨ad_ren rfl, ad_ren rfl, ad_ren rfl, trivial⟩) (by exact trivial) rfl (nk rfl) rfl rfl ⟨rfl, rfl⟩
theorem c_laws_rPlus {fu : Nat} {x0 : (List Int)} {x1 : (List Int)} {r : (List Int)} (h : Is (p_laws_rPlus fu x0 x1) (some r)) :
    Scalar Try.prog 46 [.v (.arr 2 (.int .i64)) x0, .v (.arr 2 (.int .i64)) x1] (.v (.arr 2 (.int .i64)) r) := by
  unfold p_laws_rPlus at h
  refine ac_enter ⟨42, 0⟩ Try.func46 rfl rfl rfl rfl rfl (fun Γ => ?_)
  refine aw_seq ?_
  refine aw_region ?_
  refine ao_eff trivial (e_box 0 rfl rfl rfl rfl rfl rfl) rfl ?_
  refine ao_eff trivial (e_box 1 rfl rfl rfl rfl rfl rfl) rfl ?_
  refine ao_eff trivial (e_alloc 2 (y := .v (.arr 2 (.int .i64)) ((List.replicate 2 0) : (List Int))) Try.zeroValue30 (fun ρ h M => ra_zero_arr (t := (.int .i64)) rfl) rfl rfl rfl rfl rfl) rfl ?_
  refine ao_nil ?_
  refine aq_then ?_
  refine aw_seq ?_
  refine aw_drawAll (by kernel_rfl) ?_
  refine an_read 0 (by kernel_rfl) (fun _ _ _ h => h) rfl (by kernel_rfl) trivial (r_idxAddr_arr (i := 0) Try.underlying30 Try.sizeOf3 rfl rfl (show 0 ≤ 0 from by omega) (show 0 < (2 : Int) from by omega)) rfl ?_
  refine an_read 1 (by kernel_rfl) (fun _ _ _ h => h) rfl (by kernel_rfl) trivial (r_load_elema_int Try.isAgg3 Try.sizeOf3 rfl rfl rfl (show 0 < 2 from by omega)) rfl ?_
  refine an_read 2 (by kernel_rfl) (fun _ _ _ h => h) rfl (by kernel_rfl) trivial (r_idxAddr_arr (i := 1) Try.underlying30 Try.sizeOf3 rfl rfl (show 0 ≤ 1 from by omega) (show 1 < (2 : Int) from by omega)) rfl ?_
  refine an_read 3 (by kernel_rfl) (fun _ _ _ h => h) rfl (by kernel_rfl) trivial (r_load_elema_int Try.isAgg3 Try.sizeOf3 rfl rfl rfl (show 1 < 2 from by omega)) rfl ?_
  refine an_read 4 (by kernel_rfl) (fun _ _ _ h => h) rfl (by kernel_rfl) trivial (r_mul rfl rfl) rfl ?_
  refine an_read 5 (by kernel_rfl) (fun _ _ _ h => h) rfl (by kernel_rfl) trivial (r_idxAddr_arr (i := 0) Try.underlying30 Try.sizeOf3 rfl rfl (show 0 ≤ 0 from by omega) (show 0 < (2 : Int) from by omega)) rfl ?_
  refine an_read 6 (by kernel_rfl) (fun _ _ _ h => h) rfl (by kernel_rfl) trivial (r_load_elema_int Try.isAgg3 Try.sizeOf3 rfl rfl rfl (show 0 < 2 from by omega)) rfl ?_
  refine an_read 7 (by kernel_rfl) (fun _ _ _ h => h) rfl (by kernel_rfl) trivial (r_idxAddr_arr (i := 1) Try.underlying30 Try.sizeOf3 rfl rfl (show 0 ≤ 1 from by omega) (show 1 < (2 : Int) from by omega)) rfl ?_
  refine an_read 8 (by kernel_rfl) (fun _ _ _ h => h) rfl (by kernel_rfl) trivial (r_load_elema_int Try.isAgg3 Try.sizeOf3 rfl rfl rfl (show 1 < 2 from by omega)) rfl ?_
  refine an_read 9 (by kernel_rfl) (fun _ _ _ h => h) rfl (by kernel_rfl) trivial (r_mul rfl rfl) rfl ?_
  refine an_read 10 (by kernel_rfl) (fun _ _ _ h => h) rfl (by kernel_rfl) trivial (r_add rfl rfl) rfl ?_
  refine an_read 11 (by kernel_rfl) (fun _ _ _ h => h) rfl (by kernel_rfl) trivial (r_idxAddr_arr (i := 1) Try.underlying30 Try.sizeOf3 rfl rfl (show 0 ≤ 1 from by omega) (show 1 < (2 : Int) from by omega)) rfl ?_
  refine an_read 12 (by kernel_rfl) (fun _ _ _ h => h) rfl (by kernel_rfl) trivial (r_load_elema_int Try.isAgg3 Try.sizeOf3 rfl rfl rfl (show 1 < 2 from by omega)) rfl ?_
  refine an_read 13 (by kernel_rfl) (fun _ _ _ h => h) rfl (by kernel_rfl) trivial (r_idxAddr_arr (i := 1) Try.underlying30 Try.sizeOf3 rfl rfl (show 0 ≤ 1 from by omega) (show 1 < (2 : Int) from by omega)) rfl ?_
  refine an_read 14 (by kernel_rfl) (fun _ _ _ h => h) rfl (by kernel_rfl) trivial (r_load_elema_int Try.isAgg3 Try.sizeOf3 rfl rfl rfl (show 1 < 2 from by omega)) rfl ?_
  refine an_read 15 (by kernel_rfl) (fun _ _ _ h => h) rfl (by kernel_rfl) trivial (r_mul rfl rfl) rfl ?_
  refine an_read 16 (by kernel_rfl) (fun _ _ _ h => h) rfl (by kernel_rfl) trivial (r_assign rfl) rfl ?_
  refine an_read 17 (by kernel_rfl) (fun _ _ _ h => h) rfl (by kernel_rfl) trivial (r_assign rfl) rfl ?_
  refine an_done rfl ?_
  refine aq_then ?_
  refine aw_seq ?_
  refine aw_region ?_
  refine ao_read trivial (r_move rfl) rfl ?_
  refine ao_read trivial (r_move rfl) rfl ?_
  refine ao_read trivial (r_assign rfl) rfl ?_
  refine ao_read trivial (r_assign rfl) rfl ?_
  refine ao_nil ?_
  refine aq_then ?_
  refine aw_seq ?_
  refine aw_block ?_
  refine aw_loop (AL.sub (sub_mk (rn [(0, 2)]) (by exact ⟨⟨_, rfl, ad_ren rfl⟩, ⟨_, rfl, ad_ren rfl⟩, ⟨_, rfl, ad_ren rfl⟩, ⟨_, rfl, ad_ren rfl⟩, ⟨_, rfl, ad_ren rfl⟩, trivial⟩) (by exact ⟨⟨_, rfl, ⟨rfl, trivial⟩⟩, trivial⟩) (by rfl) (nk rfl)) (al_whl (fun (s1 : Int × Int) => [(4, .ref 0 0), (5, .int .i64 (IntKind.wrap .i64 ((IntKind.wrap .i64 ((x0.getD 0 0) * (x1.getD 1 0))) + (IntKind.wrap .i64 ((x1.getD 0 0) * (x0.getD 1 0)))))), (6, .int .i64 (IntKind.wrap .i64 ((x0.getD 1 0) * (x1.getD 1 0)))), (7, .int .i64 s1.1), (8, .int .i64 s1.2)]) (fun (s1 : Int × Int) => [(0, .var [.arr (.int .i64) 2 ((List.replicate 2 0) : (List Int))])]) (fun (s1 : Int × Int) => True) h trivial (fun d3 s1 hI h ih3 => ?_)))
  replace h := is_whlS h
  refine al_round ?_
  refine aw_seq ?_
  refine aw_seq ?_
  refine aw_region ?_
  refine ao_read trivial (r_move rfl) rfl ?_
  refine ao_read trivial (r_gtr rfl rfl) rfl ?_
  refine ao_nil ?_
  refine aq_then ?_
  refine aw_cond rfl (fun hb5 => ?_) (fun hb5 => ?_)
  · have q6 := d_t hb5
    replace h := is_if (d_t hb5) h
    refine aw_skip ?_
    refine aq_then ?_
    refine aw_block ?_
    refine aw_drawAll (by kernel_rfl) ?_
    refine an_read 0 (by kernel_rfl) (fun _ _ _ h => h) rfl (by kernel_rfl) trivial (r_move rfl) rfl ?_
    refine an_read 1 (by kernel_rfl) (fun _ _ _ h => h) rfl (by kernel_rfl) trivial (r_move rfl) rfl ?_
    refine an_read 2 (by kernel_rfl) (fun _ _ _ h => h) rfl (by kernel_rfl) trivial (r_move rfl) rfl ?_
    refine an_read 3 (by kernel_rfl) (fun _ _ _ h => h) rfl (by kernel_rfl) trivial (r_rem rfl rfl (by omega)) rfl ?_
    refine an_read 4 (by kernel_rfl) (fun _ _ _ h => h) rfl (by kernel_rfl) trivial (r_assign rfl) rfl ?_
    refine an_read 5 (by kernel_rfl) (fun _ _ _ h => h) rfl (by kernel_rfl) trivial (r_assign rfl) rfl ?_
    refine an_done rfl ?_
    refine aq_in ?_
    exact aq_again (AL.sub (sub_mk idn (by exact ⟨⟨_, rfl, ad_ren rfl⟩, ⟨_, rfl, ad_ren rfl⟩, ⟨_, rfl, ad_ren rfl⟩, ⟨_, rfl, ad_ren rfl⟩, ⟨_, rfl, ad_ren rfl⟩, trivial⟩) (by exact ⟨⟨_, rfl, ⟨rfl, trivial⟩⟩, trivial⟩) (by rfl) (nk rfl)) (ih3 (s1.2, (s1.1.tmod s1.2)) trivial h))
  · have q7 := d_f hb5
    replace h := is_else (d_f hb5) h
    refine aw_exit ?_
    refine aq_then_exit ?_
    refine aq_then_exit ?_
    refine aq_in_exit ?_
    refine aq_then ?_
    refine aw_join (fun (s8 : Int) => [(4, .ref 0 0), (5, .int .i64 (IntKind.wrap .i64 ((IntKind.wrap .i64 ((x0.getD 0 0) * (x1.getD 1 0))) + (IntKind.wrap .i64 ((x1.getD 0 0) * (x0.getD 1 0)))))), (6, .int .i64 (IntKind.wrap .i64 ((x0.getD 1 0) * (x1.getD 1 0)))), (7, .int .i64 s8)]) (fun (s8 : Int) => [(0, .var [.arr (.int .i64) 2 ((List.replicate 2 0) : (List Int))])]) (fun (s8 : Int) => 0 ≤ s8) h (fun s8 hI h => ?_) (fun h j10 => ?_)
    · refine aw_seq ?_
      obtain ⟨g11, h⟩ := is_guard h
      obtain ⟨g12, h⟩ := is_guard h
      refine aw_draw 7 (by kernel_rfl) (by kernel_rfl) ?_
      refine an_read 0 (by kernel_rfl) (fun _ _ _ h => h) rfl (by kernel_rfl) trivial (r_move rfl) rfl ?_
      refine an_read 1 (by kernel_rfl) (fun _ _ _ h => h) rfl (by kernel_rfl) trivial (r_move rfl) rfl ?_
      refine an_read 2 (by kernel_rfl) (fun _ _ _ h => h) rfl (by kernel_rfl) trivial (r_quo rfl rfl g11) rfl ?_
      refine an_read 3 (by kernel_rfl) (fun _ _ _ h => h) rfl (by kernel_rfl) trivial (r_move rfl) rfl ?_
      refine an_read 4 (by kernel_rfl) (fun _ _ _ h => h) rfl (by kernel_rfl) trivial (r_move rfl) rfl ?_
      refine an_read 5 (by kernel_rfl) (fun _ _ _ h => h) rfl (by kernel_rfl) trivial (r_quo rfl rfl g12) rfl ?_
      refine an_read 6 (by kernel_rfl) (fun _ _ _ h => h) rfl (by kernel_rfl) trivial (r_build_arr (l := [(0, .tmp 37), (1, .tmp 40)]) (t := (.int .i64)) ([(IntKind.wrap .i64 ((IntKind.wrap .i64 ((IntKind.wrap .i64 ((x0.getD 0 0) * (x1.getD 1 0))) + (IntKind.wrap .i64 ((x1.getD 0 0) * (x0.getD 1 0))))).tdiv s8)), (IntKind.wrap .i64 ((IntKind.wrap .i64 ((x0.getD 1 0) * (x1.getD 1 0))).tdiv s8))] : (List Int)) rfl Try.underlying30 Try.zeroValue30 Try.sizeOf3 rfl rfl rfl rfl) rfl ?_
      refine an_tail rfl rfl ?_
      refine ao_effS trivial (e_store rfl rfl rfl rfl Try.sizeOf30 rfl) ?_
      refine ao_nil ?_
      refine aq_then ?_
      refine aw_ret ?_
      refine aq_ret ?_
      obtain rfl := is_some h
      exact aq_finx (l := [.cell 4 30]) (xs := [.v (.arr 2 (.int .i64)) ([(IntKind.wrap .i64 ((IntKind.wrap .i64 ((IntKind.wrap .i64 ((x0.getD 0 0) * (x1.getD 1 0))) + (IntKind.wrap .i64 ((x1.getD 0 0) * (x0.getD 1 0))))).tdiv s8)), (IntKind.wrap .i64 ((IntKind.wrap .i64 ((x0.getD 1 0) * (x1.getD 1 0))).tdiv s8))] : (List Int))]) idn [.v (.arr 2 (.int .i64)) ([(IntKind.wrap .i64 ((IntKind.wrap .i64 ((IntKind.wrap .i64 ((x0.getD 0 0) * (x1.getD 1 0))) + (IntKind.wrap .i64 ((x1.getD 0 0) * (x0.getD 1 0))))).tdiv s8)), (IntKind.wrap .i64 ((IntKind.wrap .i64 ((x0.getD 1 0) * (x1.getD 1 0))).tdiv s8))] : (List Int))] [] rfl (by exact ⟨⟨⟨_, _, rfl⟩, r_load_arr rfl Try.isAgg30 Try.sizeOf30 rfl rfl rfl⟩, trivial⟩) (by exact ⟨ad_ren rfl, trivial⟩) (by exact trivial) rfl (nk rfl) rfl rfl ⟨rfl, rfl⟩
    · refine aw_seq ?_
      refine aw_region ?_
      refine ao_read trivial (r_move rfl) rfl ?_
      refine ao_read trivial (r_lss rfl rfl) rfl ?_
      refine ao_nil ?_
      refine aq_then ?_
      refine aw_cond rfl (fun hb13 => ?_) (fun hb13 => ?_)
      · have q14 := d_t hb13
        replace h := is_if (d_t hb13) h
        refine aw_region ?_
        refine ao_read trivial (r_assign rfl) rfl ?_
        refine ao_nil ?_
        exact aq_then (AW.sub (sub_mk idn (by exact ⟨⟨_, rfl, ad_ren rfl⟩, ⟨_, rfl, ad_ren rfl⟩, ⟨_, rfl, ad_ren rfl⟩, ⟨_, rfl, ad_ren rfl⟩, trivial⟩) (by exact ⟨⟨_, rfl, ⟨rfl, trivial⟩⟩, trivial⟩) (by rfl) (nk rfl)) (j10 1 (by (try simp only [List.length_set, List.length_append, List.length_cons, List.length_nil, List.length_replicate, List.length_take, List.length_drop]) <;> omega) h))
      · have q15 := d_f hb13
        replace h := is_else (d_f hb13) h
        refine aw_skip ?_
        exact aq_then (AW.sub (sub_mk idn (by exact ⟨⟨_, rfl, ad_ren rfl⟩, ⟨_, rfl, ad_ren rfl⟩, ⟨_, rfl, ad_ren rfl⟩, ⟨_, rfl, ad_ren rfl⟩, trivial⟩) (by exact ⟨⟨_, rfl, ⟨rfl, trivial⟩⟩, trivial⟩) (by rfl) (nk rfl)) (j10 s1.1 (by (try simp only [List.length_set, List.length_append, List.length_cons, List.length_nil, List.length_replicate, List.length_take, List.length_drop]) <;> omega) h))
theorem c_laws_FnHolds {fu : Nat} {x0 : (List Int)} {r : Bool} (h : Is (p_laws_FnHolds fu x0) (some r)) :
    Scalar Try.prog 4 [.v (.slice (.int .u8)) x0] (.bool r) := by
  unfold p_laws_FnHolds at h
  refine ac_enter ⟨451, 0⟩ Try.func4 rfl rfl rfl rfl rfl (fun Γ => ?_)
  refine sl_len_m 0 (x0.length : Int) rfl rfl (fun hl0 => ?_)
  refine aw_seq ?_
  refine aw_region ?_
  refine ao_read trivial (r_assign rfl) rfl ?_
  refine ao_nil ?_
  refine aq_then ?_
  refine aw_seq ?_
  refine aw_seq ?_
  refine aw_region ?_
  refine ao_read trivial (r_move rfl) rfl ?_
  refine ao_scall trivial (scall (c_laws_rBig (is_mk (rfl : p_laws_rBig x0 = _))) rfl Try.func29 rfl rfl rfl rfl (fun σ => ⟨ad_ren rfl, trivial⟩)) rfl ?_
  refine ao_nil ?_
  refine aq_then ?_
  refine aw_cond rfl (fun hb1 => ?_) (fun hb1 => ?_)
  · replace h := is_if hb1 h
    refine aw_seq ?_
    refine aw_region ?_
    refine ao_read trivial (r_assign rfl) rfl ?_
    refine ao_nil ?_
    refine aq_then ?_
    refine aw_ret ?_
    refine aq_then_ret ?_
    refine aq_ret ?_
    obtain rfl := is_some h
    exact aq_finx (l := [.tmp 2]) (xs := [.bool true]) idn [.bool true] [] rfl (by exact ⟨rfl, trivial⟩) (by exact ⟨ad_ren rfl, trivial⟩) (by exact trivial) rfl (nk rfl) rfl rfl ⟨rfl, rfl⟩
  · replace h := is_else (ne_t hb1) h
    refine aw_skip ?_
    refine aq_then ?_
    refine aw_seq ?_
    refine aw_region ?_
    refine ao_read trivial (r_move rfl) rfl ?_
    obtain ⟨r2, r2h, h⟩ := is_bind h
    refine ao_scall trivial (scall (c_spec_DrawHoldEnds (is_mk r2h)) rfl Try.func30 rfl rfl rfl rfl (fun σ => ⟨ad_ren rfl, trivial⟩)) rfl ?_
    refine ao_read trivial (r_move rfl) rfl ?_
    refine ao_read trivial (r_extract rfl rfl) rfl ?_
    refine ao_read trivial (r_extract rfl rfl) rfl ?_
    refine ao_read trivial (r_extract rfl rfl) rfl ?_
    refine ao_eff trivial (e_alloc 0 (y := .v (.arr 6 (.int .i64)) ((List.replicate 6 0) : (List Int))) Try.zeroValue43 (fun ρ h M => ra_zero_arr (t := (.int .i64)) rfl) rfl rfl rfl rfl rfl) rfl ?_
    refine ao_effS trivial (e_store rfl rfl rfl rfl Try.sizeOf43 rfl) ?_
    refine ao_read trivial (r_assign rfl) rfl ?_
    refine ao_read trivial (r_assign rfl) rfl ?_
    refine ao_nil ?_
    refine aq_then ?_
    refine aw_seq ?_
    refine aw_region ?_
    refine ao_read trivial (r_load_arr rfl Try.isAgg43 Try.sizeOf43 rfl rfl rfl) rfl ?_
    refine ao_read trivial (r_move rfl) rfl ?_
    refine ao_read trivial (r_move rfl) rfl ?_
    obtain ⟨r3, r3h, h⟩ := is_bind h
    refine ao_call [] 1 trivial (c_impl_HoldEnds (is_mk r3h)) Try.func31 rfl rfl rfl rfl ⟨ad_ren rfl, ad_ren rfl, ad_ren rfl, trivial⟩ trivial rfl rfl rfl rfl rfl rfl rfl (fun r' H' hr => ?_)
    obtain ⟨rfl, rfl⟩ := hr
    refine ao_norm (y := .tup [.os 1, .bool r3.2]) (H' := [(0, .var [.arr (.int .i64) 6 r2.1]), (1, .row (.pair (.int .i64) (.pair (.arr 2 (.int .i64)) .unit)) r3.1)]) rfl rfl ?_
    refine row_len_o 1 (r3.1.length : Int) rfl rfl (fun hr4 => ?_)
    refine ao_read trivial (r_move rfl) rfl ?_
    refine ao_read trivial (r_extract rfl rfl) rfl ?_
    refine ao_read trivial (r_extract rfl rfl) rfl ?_
    refine ao_read trivial (r_assign rfl) rfl ?_
    refine ao_read trivial (r_assign rfl) rfl ?_
    refine ao_nil ?_
    refine aq_then ?_
    refine aw_seq ?_
    refine aw_region ?_
    refine ao_read trivial (r_load_arr rfl Try.isAgg43 Try.sizeOf43 rfl rfl rfl) rfl ?_
    refine ao_read trivial (r_move rfl) rfl ?_
    refine ao_read trivial (r_move rfl) rfl ?_
    obtain ⟨r5, r5h, h⟩ := is_bind h
    refine ao_call [] 2 trivial (c_spec_HoldEnds (is_mk r5h)) Try.func32 rfl rfl rfl rfl ⟨ad_ren rfl, ad_ren rfl, ad_ren rfl, trivial⟩ trivial rfl rfl rfl rfl rfl rfl rfl (fun r' H' hr => ?_)
    obtain ⟨rfl, rfl⟩ := hr
    refine ao_norm (y := .tup [.os 2, .bool r5.2]) (H' := [(0, .var [.arr (.int .i64) 6 r2.1]), (1, .row (.pair (.int .i64) (.pair (.arr 2 (.int .i64)) .unit)) r3.1), (2, .row (.pair (.int .i64) (.pair (.arr 2 (.int .i64)) .unit)) r5.1)]) rfl rfl ?_
    refine row_len_o 2 (r5.1.length : Int) rfl rfl (fun hr6 => ?_)
    refine ao_read trivial (r_move rfl) rfl ?_
    refine ao_read trivial (r_extract rfl rfl) rfl ?_
    refine ao_read trivial (r_extract rfl rfl) rfl ?_
    refine ao_read trivial (r_assign rfl) rfl ?_
    refine ao_read trivial (r_assign rfl) rfl ?_
    refine ao_nil ?_
    refine aq_then ?_
    refine aw_seq ?_
    refine aw_seq ?_
    refine aw_region ?_
    refine ao_read trivial (r_move rfl) rfl ?_
    refine ao_read trivial (r_move rfl) rfl ?_
    refine ao_read trivial (r_neq_bool Try.underlying4 rfl rfl) rfl ?_
    refine ao_read trivial (r_move rfl) rfl ?_
    refine ao_readG (x := .os 1) rfl (GV.F rfl) (fun hg7 => r_move rfl) rfl ?_
    refine ao_readG (x := .int .i64 (r3.1.length : Int)) rfl (GV.F rfl) (fun hg8 => Reads.strip 85 rfl (hg8) (r_len_osm (r3.1.length : Int) Try.underlying46 rfl rfl rfl)) rfl ?_
    refine ao_readG (x := .os 2) rfl (GV.F rfl) (fun hg9 => r_move rfl) rfl ?_
    refine ao_readG (x := .int .i64 (r5.1.length : Int)) rfl (GV.F rfl) (fun hg10 => Reads.strip 87 rfl (hg10) (r_len_osm (r5.1.length : Int) Try.underlying46 rfl rfl rfl)) rfl ?_
    refine ao_readG (x := .bool (!(decide ((r3.1.length : Int) = (r5.1.length : Int))))) rfl (GV.F rfl) (fun hg11 => Reads.strip 86 rfl (hg11) (Reads.strip 88 rfl (hg11) (r_neq rfl rfl))) rfl ?_
    refine ao_read trivial (r_orB rfl rfl) rfl ?_
    refine ao_nil ?_
    refine aq_then ?_
    refine aw_cond rfl (fun hb12 => ?_) (fun hb12 => ?_)
    · replace h := is_if hb12 h
      refine aw_seq ?_
      refine aw_region ?_
      refine ao_read trivial (r_assign rfl) rfl ?_
      refine ao_nil ?_
      refine aq_then ?_
      refine aw_ret ?_
      refine aq_then_ret ?_
      refine aq_ret ?_
      obtain rfl := is_some h
      exact aq_finx (l := [.tmp 2]) (xs := [.bool false]) idn [.bool false] [] rfl (by exact ⟨rfl, trivial⟩) (by exact ⟨ad_ren rfl, trivial⟩) (by exact trivial) rfl (nk rfl) rfl rfl ⟨rfl, rfl⟩
    · obtain ⟨q13, q14⟩ := or_f hb12
      have q15 := d_t (not_f q14)
      replace h := is_else (ne_t hb12) h
      refine aw_skip ?_
      refine aq_then ?_
      refine aw_seq ?_
      refine aw_region ?_
      refine ao_read trivial (r_load_arr rfl Try.isAgg43 Try.sizeOf43 rfl rfl rfl) rfl ?_
      refine ao_read trivial (r_move rfl) rfl ?_
      refine ao_read trivial (r_move rfl) rfl ?_
      obtain ⟨r16, r16h, h⟩ := is_bind h
      refine ao_scall trivial (scall (c_impl_HoldMean (is_mk r16h)) rfl Try.func33 rfl rfl rfl rfl (fun σ => ⟨ad_ren rfl, ad_ren rfl, ad_ren rfl, trivial⟩)) rfl ?_
      refine ao_read trivial (r_move rfl) rfl ?_
      refine ao_read trivial (r_extract rfl rfl) rfl ?_
      refine ao_read trivial (r_extract rfl rfl) rfl ?_
      refine ao_eff trivial (e_alloc 3 (y := .v (.arr 2 (.int .i64)) ((List.replicate 2 0) : (List Int))) Try.zeroValue30 (fun ρ h M => ra_zero_arr (t := (.int .i64)) rfl) rfl rfl rfl rfl rfl) rfl ?_
      refine ao_effS trivial (e_store rfl rfl rfl rfl Try.sizeOf30 rfl) ?_
      refine ao_read trivial (r_assign rfl) rfl ?_
      refine ao_nil ?_
      refine aq_then ?_
      refine aw_seq ?_
      refine aw_seq ?_
      refine aw_region ?_
      refine ao_read trivial (r_load_arr rfl Try.isAgg43 Try.sizeOf43 rfl rfl rfl) rfl ?_
      refine ao_read trivial (r_move rfl) rfl ?_
      refine ao_read trivial (r_move rfl) rfl ?_
      obtain ⟨r17, r17h, h⟩ := is_bind h
      refine ao_scall trivial (scall (c_spec_HoldMean (is_mk r17h)) rfl Try.func34 rfl rfl rfl rfl (fun σ => ⟨ad_ren rfl, ad_ren rfl, ad_ren rfl, trivial⟩)) rfl ?_
      refine ao_read trivial (r_move rfl) rfl ?_
      refine ao_read trivial (r_extract rfl rfl) rfl ?_
      refine ao_read trivial (r_extract rfl rfl) rfl ?_
      refine ao_eff trivial (e_alloc 4 (y := .v (.arr 2 (.int .i64)) ((List.replicate 2 0) : (List Int))) Try.zeroValue30 (fun ρ h M => ra_zero_arr (t := (.int .i64)) rfl) rfl rfl rfl rfl rfl) rfl ?_
      refine ao_effS trivial (e_store rfl rfl rfl rfl Try.sizeOf30 rfl) ?_
      refine ao_read trivial (r_assign rfl) rfl ?_
      refine ao_nil ?_
      refine aq_then ?_
      refine aw_seq ?_
      refine aw_region ?_
      refine ao_read trivial (r_load_arr rfl Try.isAgg30 Try.sizeOf30 rfl rfl rfl) rfl ?_
      refine ao_read trivial (r_load_arr rfl Try.isAgg30 Try.sizeOf30 rfl rfl rfl) rfl ?_
      refine ao_read trivial (r_eq_ints Try.underlying30 Try.underlying3 Try.isAgg3 (info_size Try.sizeOf3) (by kernel_rfl) rfl rfl rfl) rfl ?_
      refine ao_read trivial (r_move rfl) rfl ?_
      refine ao_readG (x := .bool r16.2) rfl (GV.F rfl) (fun hg18 => r_move rfl) rfl ?_
      refine ao_readG (x := .bool r17.2) rfl (GV.F rfl) (fun hg19 => r_move rfl) rfl ?_
      refine ao_readG (x := .bool (r16.2 != r17.2)) rfl (GV.F rfl) (fun hg20 => Reads.strip 109 rfl (hg20) (Reads.strip 110 rfl (hg20) (r_neq_bool Try.underlying4 rfl rfl))) rfl ?_
      refine ao_read trivial (r_orB rfl rfl) rfl ?_
      refine ao_read trivial (r_move rfl) rfl ?_
      refine ao_readG (x := .bool r16.2) rfl (GV.F rfl) (fun hg21 => by
            obtain ⟨q22, q23⟩ := or_f (not_t hg21)
            exact r_move rfl) rfl ?_
      refine ao_readG (x := .bool r3.2) rfl (GV.F rfl) (fun hg24 => by
            obtain ⟨q25, q26⟩ := or_f (not_t hg24)
            exact r_move rfl) rfl ?_
      refine ao_readG (x := .bool (r16.2 != r3.2)) rfl (GV.F rfl) (fun hg27 => by
            obtain ⟨q28, q29⟩ := or_f (not_t hg27)
            exact Reads.strip 114 rfl (hg27) (Reads.strip 115 rfl (hg27) (r_neq_bool Try.underlying4 rfl rfl))) rfl ?_
      refine ao_read trivial (r_orB rfl rfl) rfl ?_
      refine ao_nil ?_
      refine aq_then ?_
      refine aw_cond rfl (fun hb30 => ?_) (fun hb30 => ?_)
      · replace h := is_if hb30 h
        refine aw_seq ?_
        refine aw_region ?_
        refine ao_read trivial (r_assign rfl) rfl ?_
        refine ao_nil ?_
        refine aq_then ?_
        refine aw_ret ?_
        refine aq_then_ret ?_
        refine aq_ret ?_
        obtain rfl := is_some h
        exact aq_finx (l := [.tmp 2]) (xs := [.bool false]) idn [.bool false] [] rfl (by exact ⟨rfl, trivial⟩) (by exact ⟨ad_ren rfl, trivial⟩) (by exact trivial) rfl (nk rfl) rfl rfl ⟨rfl, rfl⟩
      · obtain ⟨q31, q32⟩ := or_f hb30
        obtain ⟨q33, q34⟩ := or_f q31
        replace h := is_else (ne_t hb30) h
        refine aw_skip ?_
        refine aq_then ?_
        refine aw_seq ?_
        refine aw_region ?_
        refine ao_read trivial (r_load_arr rfl Try.isAgg43 Try.sizeOf43 rfl rfl rfl) rfl ?_
        refine ao_read trivial (r_move rfl) rfl ?_
        refine ao_read trivial (r_move rfl) rfl ?_
        obtain ⟨r35, r35h, h⟩ := is_bind h
        refine ao_scall trivial (scall (c_impl_BustChance (is_mk r35h)) rfl Try.func35 rfl rfl rfl rfl (fun σ => ⟨ad_ren rfl, ad_ren rfl, ad_ren rfl, trivial⟩)) rfl ?_
        refine ao_read trivial (r_move rfl) rfl ?_
        refine ao_read trivial (r_extract rfl rfl) rfl ?_
        refine ao_read trivial (r_extract rfl rfl) rfl ?_
        refine ao_eff trivial (e_alloc 5 (y := .v (.arr 2 (.int .i64)) ((List.replicate 2 0) : (List Int))) Try.zeroValue30 (fun ρ h M => ra_zero_arr (t := (.int .i64)) rfl) rfl rfl rfl rfl rfl) rfl ?_
        refine ao_effS trivial (e_store rfl rfl rfl rfl Try.sizeOf30 rfl) ?_
        refine ao_read trivial (r_assign rfl) rfl ?_
        refine ao_nil ?_
        refine aq_then ?_
        refine aw_seq ?_
        refine aw_seq ?_
        refine aw_region ?_
        refine ao_read trivial (r_load_arr rfl Try.isAgg43 Try.sizeOf43 rfl rfl rfl) rfl ?_
        refine ao_read trivial (r_move rfl) rfl ?_
        refine ao_read trivial (r_move rfl) rfl ?_
        obtain ⟨r36, r36h, h⟩ := is_bind h
        refine ao_scall trivial (scall (c_spec_BustChance (is_mk r36h)) rfl Try.func36 rfl rfl rfl rfl (fun σ => ⟨ad_ren rfl, ad_ren rfl, ad_ren rfl, trivial⟩)) rfl ?_
        refine ao_read trivial (r_move rfl) rfl ?_
        refine ao_read trivial (r_extract rfl rfl) rfl ?_
        refine ao_read trivial (r_extract rfl rfl) rfl ?_
        refine ao_eff trivial (e_alloc 6 (y := .v (.arr 2 (.int .i64)) ((List.replicate 2 0) : (List Int))) Try.zeroValue30 (fun ρ h M => ra_zero_arr (t := (.int .i64)) rfl) rfl rfl rfl rfl rfl) rfl ?_
        refine ao_effS trivial (e_store rfl rfl rfl rfl Try.sizeOf30 rfl) ?_
        refine ao_read trivial (r_assign rfl) rfl ?_
        refine ao_nil ?_
        refine aq_then ?_
        refine aw_seq ?_
        refine aw_region ?_
        refine ao_read trivial (r_load_arr rfl Try.isAgg30 Try.sizeOf30 rfl rfl rfl) rfl ?_
        refine ao_read trivial (r_load_arr rfl Try.isAgg30 Try.sizeOf30 rfl rfl rfl) rfl ?_
        refine ao_read trivial (r_eq_ints Try.underlying30 Try.underlying3 Try.isAgg3 (info_size Try.sizeOf3) (by kernel_rfl) rfl rfl rfl) rfl ?_
        refine ao_read trivial (r_move rfl) rfl ?_
        refine ao_readG (x := .bool r35.2) rfl (GV.F rfl) (fun hg37 => r_move rfl) rfl ?_
        refine ao_readG (x := .bool r36.2) rfl (GV.F rfl) (fun hg38 => r_move rfl) rfl ?_
        refine ao_readG (x := .bool (r35.2 != r36.2)) rfl (GV.F rfl) (fun hg39 => Reads.strip 136 rfl (hg39) (Reads.strip 137 rfl (hg39) (r_neq_bool Try.underlying4 rfl rfl))) rfl ?_
        refine ao_read trivial (r_orB rfl rfl) rfl ?_
        refine ao_read trivial (r_move rfl) rfl ?_
        refine ao_readG (x := .bool r35.2) rfl (GV.F rfl) (fun hg40 => by
              obtain ⟨q41, q42⟩ := or_f (not_t hg40)
              exact r_move rfl) rfl ?_
        refine ao_readG (x := .bool r3.2) rfl (GV.F rfl) (fun hg43 => by
              obtain ⟨q44, q45⟩ := or_f (not_t hg43)
              exact r_move rfl) rfl ?_
        refine ao_readG (x := .bool (r35.2 != r3.2)) rfl (GV.F rfl) (fun hg46 => by
              obtain ⟨q47, q48⟩ := or_f (not_t hg46)
              exact Reads.strip 141 rfl (hg46) (Reads.strip 142 rfl (hg46) (r_neq_bool Try.underlying4 rfl rfl))) rfl ?_
        refine ao_read trivial (r_orB rfl rfl) rfl ?_
        refine ao_nil ?_
        refine aq_then ?_
        refine aw_cond rfl (fun hb49 => ?_) (fun hb49 => ?_)
        · replace h := is_if hb49 h
          refine aw_seq ?_
          refine aw_region ?_
          refine ao_read trivial (r_assign rfl) rfl ?_
          refine ao_nil ?_
          refine aq_then ?_
          refine aw_ret ?_
          refine aq_then_ret ?_
          refine aq_ret ?_
          obtain rfl := is_some h
          exact aq_finx (l := [.tmp 2]) (xs := [.bool false]) idn [.bool false] [] rfl (by exact ⟨rfl, trivial⟩) (by exact ⟨ad_ren rfl, trivial⟩) (by exact trivial) rfl (nk rfl) rfl rfl ⟨rfl, rfl⟩
        · obtain ⟨q50, q51⟩ := or_f hb49
          obtain ⟨q52, q53⟩ := or_f q50
          replace h := is_else (ne_t hb49) h
          refine aw_skip ?_
          refine aq_then ?_
          refine aw_seq ?_
          refine aw_region ?_
          refine ao_read trivial (r_move rfl) rfl ?_
          obtain ⟨r54, r54h, h⟩ := is_bind h
          refine ao_scall trivial (scall (c_spec_DrawBestHold (is_mk r54h)) rfl Try.func37 rfl rfl rfl rfl (fun σ => ⟨ad_ren rfl, trivial⟩)) rfl ?_
          refine ao_read trivial (r_move rfl) rfl ?_
          refine ao_read trivial (r_extract rfl rfl) rfl ?_
          refine ao_read trivial (r_extract rfl rfl) rfl ?_
          refine ao_eff trivial (e_alloc 7 (y := .v (.arr 6 (.int .i64)) ((List.replicate 6 0) : (List Int))) Try.zeroValue43 (fun ρ h M => ra_zero_arr (t := (.int .i64)) rfl) rfl rfl rfl rfl rfl) rfl ?_
          refine ao_effS trivial (e_store rfl rfl rfl rfl Try.sizeOf43 rfl) ?_
          refine ao_read trivial (r_assign rfl) rfl ?_
          refine ao_nil ?_
          refine aq_then ?_
          refine aw_seq ?_
          refine aw_region ?_
          refine ao_read trivial (r_load_arr rfl Try.isAgg43 Try.sizeOf43 rfl rfl rfl) rfl ?_
          refine ao_read trivial (r_move rfl) rfl ?_
          obtain ⟨r55, r55h, h⟩ := is_bind h
          refine ao_scall trivial (scall (c_impl_BestHold (is_mk r55h)) rfl Try.func38 rfl rfl rfl rfl (fun σ => ⟨ad_ren rfl, ad_ren rfl, trivial⟩)) rfl ?_
          refine ao_read trivial (r_move rfl) rfl ?_
          refine ao_read trivial (r_extract rfl rfl) rfl ?_
          refine ao_read trivial (r_extract rfl rfl) rfl ?_
          refine ao_read trivial (r_extract rfl rfl) rfl ?_
          refine ao_eff trivial (e_alloc 8 (y := .v (.arr 2 (.int .i64)) ((List.replicate 2 0) : (List Int))) Try.zeroValue30 (fun ρ h M => ra_zero_arr (t := (.int .i64)) rfl) rfl rfl rfl rfl rfl) rfl ?_
          refine ao_read trivial (r_assign rfl) rfl ?_
          refine ao_effS trivial (e_store rfl rfl rfl rfl Try.sizeOf30 rfl) ?_
          refine ao_read trivial (r_assign rfl) rfl ?_
          refine ao_nil ?_
          refine aq_then ?_
          refine aw_seq ?_
          refine aw_seq ?_
          refine aw_region ?_
          refine ao_read trivial (r_load_arr rfl Try.isAgg43 Try.sizeOf43 rfl rfl rfl) rfl ?_
          refine ao_read trivial (r_move rfl) rfl ?_
          obtain ⟨r56, r56h, h⟩ := is_bind h
          refine ao_scall trivial (scall (c_spec_BestHold (is_mk r56h)) rfl Try.func39 rfl rfl rfl rfl (fun σ => ⟨ad_ren rfl, ad_ren rfl, trivial⟩)) rfl ?_
          refine ao_read trivial (r_move rfl) rfl ?_
          refine ao_read trivial (r_extract rfl rfl) rfl ?_
          refine ao_read trivial (r_extract rfl rfl) rfl ?_
          refine ao_read trivial (r_extract rfl rfl) rfl ?_
          refine ao_eff trivial (e_alloc 9 (y := .v (.arr 2 (.int .i64)) ((List.replicate 2 0) : (List Int))) Try.zeroValue30 (fun ρ h M => ra_zero_arr (t := (.int .i64)) rfl) rfl rfl rfl rfl rfl) rfl ?_
          refine ao_read trivial (r_assign rfl) rfl ?_
          refine ao_effS trivial (e_store rfl rfl rfl rfl Try.sizeOf30 rfl) ?_
          refine ao_read trivial (r_assign rfl) rfl ?_
          refine ao_nil ?_
          refine aq_then ?_
          refine aw_seq ?_
          refine aw_region ?_
          refine ao_read trivial (r_move rfl) rfl ?_
          refine ao_read trivial (r_move rfl) rfl ?_
          refine ao_read trivial (r_neq rfl rfl) rfl ?_
          refine ao_read trivial (r_move rfl) rfl ?_
          refine ao_readG (x := .v (.arr 2 (.int .i64)) r55.2.1) rfl (GV.F rfl) (fun hg57 => by
                have q58 := d_t (not_f (not_t hg57))
                exact r_load_arr rfl Try.isAgg30 Try.sizeOf30 rfl rfl rfl) rfl ?_
          refine ao_readG (x := .v (.arr 2 (.int .i64)) r56.2.1) rfl (GV.F rfl) (fun hg59 => by
                have q60 := d_t (not_f (not_t hg59))
                exact r_load_arr rfl Try.isAgg30 Try.sizeOf30 rfl rfl rfl) rfl ?_
          refine ao_readG (x := .bool (!(decide (r55.2.1 = r56.2.1)))) rfl (GV.F rfl) (fun hg61 => by
                have q62 := d_t (not_f (not_t hg61))
                exact Reads.strip 168 rfl (hg61) (Reads.strip 169 rfl (hg61) (r_eq_ints Try.underlying30 Try.underlying3 Try.isAgg3 (info_size Try.sizeOf3) (by kernel_rfl) rfl rfl rfl))) rfl ?_
          refine ao_read trivial (r_orB rfl rfl) rfl ?_
          refine ao_read trivial (r_move rfl) rfl ?_
          refine ao_readG (x := .bool r55.2.2) rfl (GV.F rfl) (fun hg63 => by
                obtain ⟨q64, q65⟩ := or_f (not_t hg63)
                have q66 := d_t (not_f q64)
                exact r_move rfl) rfl ?_
          refine ao_readG (x := .bool r56.2.2) rfl (GV.F rfl) (fun hg67 => by
                obtain ⟨q68, q69⟩ := or_f (not_t hg67)
                have q70 := d_t (not_f q68)
                exact r_move rfl) rfl ?_
          refine ao_readG (x := .bool (r55.2.2 != r56.2.2)) rfl (GV.F rfl) (fun hg71 => by
                obtain ⟨q72, q73⟩ := or_f (not_t hg71)
                have q74 := d_t (not_f q72)
                exact Reads.strip 173 rfl (hg71) (Reads.strip 174 rfl (hg71) (r_neq_bool Try.underlying4 rfl rfl))) rfl ?_
          refine ao_read trivial (r_orB rfl rfl) rfl ?_
          refine ao_nil ?_
          refine aq_then ?_
          refine aw_cond rfl (fun hb75 => ?_) (fun hb75 => ?_)
          · replace h := is_if hb75 h
            refine aw_seq ?_
            refine aw_region ?_
            refine ao_read trivial (r_assign rfl) rfl ?_
            refine ao_nil ?_
            refine aq_then ?_
            refine aw_ret ?_
            refine aq_then_ret ?_
            refine aq_ret ?_
            obtain rfl := is_some h
            exact aq_finx (l := [.tmp 2]) (xs := [.bool false]) idn [.bool false] [] rfl (by exact ⟨rfl, trivial⟩) (by exact ⟨ad_ren rfl, trivial⟩) (by exact trivial) rfl (nk rfl) rfl rfl ⟨rfl, rfl⟩
          · obtain ⟨q76, q77⟩ := or_f hb75
            obtain ⟨q78, q79⟩ := or_f q76
            have q80 := d_t (not_f q78)
            replace h := is_else (ne_t hb75) h
            refine aw_skip ?_
            refine aq_then ?_
            refine aw_seq ?_
            refine aw_region ?_
            refine ao_read trivial (r_move rfl) rfl ?_
            obtain ⟨r81, r81h, h⟩ := is_bind h
            refine ao_call [] 10 trivial (c_spec_DrawPlayTurn (is_mk r81h)) Try.func40 rfl rfl rfl rfl ⟨ad_ren rfl, trivial⟩ trivial rfl rfl rfl rfl rfl rfl rfl (fun r' H' hr => ?_)
            obtain ⟨rfl, rfl⟩ := hr
            refine ao_norm (y := .tup [.v (.arr 6 (.int .i64)) r81.1, .int .i64 r81.2.1, .int .i64 r81.2.2.1, .os 10]) (H' := [(9, .var [.arr (.int .i64) 2 r56.2.1]), (8, .var [.arr (.int .i64) 2 r55.2.1]), (7, .var [.arr (.int .i64) 6 r54.1]), (6, .var [.arr (.int .i64) 2 r36.1]), (5, .var [.arr (.int .i64) 2 r35.1]), (4, .var [.arr (.int .i64) 2 r17.1]), (3, .var [.arr (.int .i64) 2 r16.1]), (0, .var [.arr (.int .i64) 6 r2.1]), (1, .row (.pair (.int .i64) (.pair (.arr 2 (.int .i64)) .unit)) r3.1), (2, .row (.pair (.int .i64) (.pair (.arr 2 (.int .i64)) .unit)) r5.1), (10, .row (.int .i64) r81.2.2.2)]) rfl rfl ?_
            refine row_len_o 10 (r81.2.2.2.length : Int) rfl rfl (fun hr82 => ?_)
            refine ao_read trivial (r_move rfl) rfl ?_
            refine ao_read trivial (r_extract rfl rfl) rfl ?_
            refine ao_read trivial (r_extract rfl rfl) rfl ?_
            refine ao_read trivial (r_extract rfl rfl) rfl ?_
            refine ao_read trivial (r_extract rfl rfl) rfl ?_
            refine ao_eff trivial (e_alloc 11 (y := .v (.arr 6 (.int .i64)) ((List.replicate 6 0) : (List Int))) Try.zeroValue43 (fun ρ h M => ra_zero_arr (t := (.int .i64)) rfl) rfl rfl rfl rfl rfl) rfl ?_
            refine ao_effS trivial (e_store rfl rfl rfl rfl Try.sizeOf43 rfl) ?_
            refine ao_read trivial (r_assign rfl) rfl ?_
            refine ao_read trivial (r_assign rfl) rfl ?_
            refine ao_read trivial (r_assign rfl) rfl ?_
            refine ao_nil ?_
            refine aq_then ?_
            refine aw_seq ?_
            refine aw_region ?_
            refine ao_read trivial (r_load_arr rfl Try.isAgg43 Try.sizeOf43 rfl rfl rfl) rfl ?_
            refine ao_read trivial (r_move rfl) rfl ?_
            refine ao_read trivial (r_move rfl) rfl ?_
            refine ao_read trivial (r_move rfl) rfl ?_
            obtain ⟨r83, r83h, h⟩ := is_bind h
            refine ao_scall trivial (scall (c_impl_PlayTurn (is_mk r83h)) rfl Try.func41 rfl rfl rfl rfl (fun σ => ⟨ad_ren rfl, ad_ren rfl, ad_ren rfl, ad_os0 rfl, trivial⟩)) rfl ?_
            refine ao_read trivial (r_move rfl) rfl ?_
            refine ao_read trivial (r_extract rfl rfl) rfl ?_
            refine ao_read trivial (r_extract rfl rfl) rfl ?_
            refine ao_read trivial (r_extract rfl rfl) rfl ?_
            refine ao_read trivial (r_extract rfl rfl) rfl ?_
            refine ao_read trivial (r_assign rfl) rfl ?_
            refine ao_read trivial (r_assign rfl) rfl ?_
            refine ao_read trivial (r_assign rfl) rfl ?_
            refine ao_read trivial (r_assign rfl) rfl ?_
            refine ao_nil ?_
            refine aq_then ?_
            refine aw_seq ?_
            refine aw_seq ?_
            refine aw_region ?_
            refine ao_read trivial (r_load_arr rfl Try.isAgg43 Try.sizeOf43 rfl rfl rfl) rfl ?_
            refine ao_read trivial (r_move rfl) rfl ?_
            refine ao_read trivial (r_move rfl) rfl ?_
            refine ao_read trivial (r_move rfl) rfl ?_
            obtain ⟨r84, r84h, h⟩ := is_bind h
            refine ao_scall trivial (scall (c_spec_PlayTurn (is_mk r84h)) rfl Try.func42 rfl rfl rfl rfl (fun σ => ⟨ad_ren rfl, ad_ren rfl, ad_ren rfl, ad_os0 rfl, trivial⟩)) rfl ?_
            refine ao_read trivial (r_move rfl) rfl ?_
            refine ao_read trivial (r_extract rfl rfl) rfl ?_
            refine ao_read trivial (r_extract rfl rfl) rfl ?_
            refine ao_read trivial (r_extract rfl rfl) rfl ?_
            refine ao_read trivial (r_extract rfl rfl) rfl ?_
            refine ao_read trivial (r_assign rfl) rfl ?_
            refine ao_read trivial (r_assign rfl) rfl ?_
            refine ao_read trivial (r_assign rfl) rfl ?_
            refine ao_read trivial (r_assign rfl) rfl ?_
            refine ao_nil ?_
            refine aq_then ?_
            refine aw_seq ?_
            refine aw_region ?_
            refine ao_read trivial (r_move rfl) rfl ?_
            refine ao_read trivial (r_move rfl) rfl ?_
            refine ao_read trivial (r_neq rfl rfl) rfl ?_
            refine ao_read trivial (r_move rfl) rfl ?_
            refine ao_readG (x := .int .i64 r83.2.1) rfl (GV.F rfl) (fun hg85 => by
                  have q86 := d_t (not_f (not_t hg85))
                  exact r_move rfl) rfl ?_
            refine ao_readG (x := .int .i64 r84.2.1) rfl (GV.F rfl) (fun hg87 => by
                  have q88 := d_t (not_f (not_t hg87))
                  exact r_move rfl) rfl ?_
            refine ao_readG (x := .bool (!(decide (r83.2.1 = r84.2.1)))) rfl (GV.F rfl) (fun hg89 => by
                  have q90 := d_t (not_f (not_t hg89))
                  exact Reads.strip 208 rfl (hg89) (Reads.strip 209 rfl (hg89) (r_neq rfl rfl))) rfl ?_
            refine ao_read trivial (r_orB rfl rfl) rfl ?_
            refine ao_read trivial (r_move rfl) rfl ?_
            refine ao_readG (x := .bool r83.2.2.1) rfl (GV.F rfl) (fun hg91 => by
                  obtain ⟨q92, q93⟩ := or_f (not_t hg91)
                  have q94 := d_t (not_f q92)
                  have q95 := d_t (not_f q93)
                  exact r_move rfl) rfl ?_
            refine ao_readG (x := .bool r84.2.2.1) rfl (GV.F rfl) (fun hg96 => by
                  obtain ⟨q97, q98⟩ := or_f (not_t hg96)
                  have q99 := d_t (not_f q97)
                  have q100 := d_t (not_f q98)
                  exact r_move rfl) rfl ?_
            refine ao_readG (x := .bool (r83.2.2.1 != r84.2.2.1)) rfl (GV.F rfl) (fun hg101 => by
                  obtain ⟨q102, q103⟩ := or_f (not_t hg101)
                  have q104 := d_t (not_f q102)
                  have q105 := d_t (not_f q103)
                  exact Reads.strip 213 rfl (hg101) (Reads.strip 214 rfl (hg101) (r_neq_bool Try.underlying4 rfl rfl))) rfl ?_
            refine ao_read trivial (r_orB rfl rfl) rfl ?_
            refine ao_read trivial (r_move rfl) rfl ?_
            refine ao_readG (x := .bool r83.2.2.2) rfl (GV.F rfl) (fun hg106 => by
                  obtain ⟨q107, q108⟩ := or_f (not_t hg106)
                  obtain ⟨q109, q110⟩ := or_f q107
                  have q111 := d_t (not_f q109)
                  have q112 := d_t (not_f q110)
                  exact r_move rfl) rfl ?_
            refine ao_readG (x := .bool r84.2.2.2) rfl (GV.F rfl) (fun hg113 => by
                  obtain ⟨q114, q115⟩ := or_f (not_t hg113)
                  obtain ⟨q116, q117⟩ := or_f q114
                  have q118 := d_t (not_f q116)
                  have q119 := d_t (not_f q117)
                  exact r_move rfl) rfl ?_
            refine ao_readG (x := .bool (r83.2.2.2 != r84.2.2.2)) rfl (GV.F rfl) (fun hg120 => by
                  obtain ⟨q121, q122⟩ := or_f (not_t hg120)
                  obtain ⟨q123, q124⟩ := or_f q121
                  have q125 := d_t (not_f q123)
                  have q126 := d_t (not_f q124)
                  exact Reads.strip 218 rfl (hg120) (Reads.strip 219 rfl (hg120) (r_neq_bool Try.underlying4 rfl rfl))) rfl ?_
            refine ao_read trivial (r_orB rfl rfl) rfl ?_
            refine ao_nil ?_
            refine aq_then ?_
            refine aw_cond rfl (fun hb127 => ?_) (fun hb127 => ?_)
            · replace h := is_if hb127 h
              refine aw_seq ?_
              refine aw_region ?_
              refine ao_read trivial (r_assign rfl) rfl ?_
              refine ao_nil ?_
              refine aq_then ?_
              refine aw_ret ?_
              refine aq_then_ret ?_
              refine aq_ret ?_
              obtain rfl := is_some h
              exact aq_finx (l := [.tmp 2]) (xs := [.bool false]) idn [.bool false] [] rfl (by exact ⟨rfl, trivial⟩) (by exact ⟨ad_ren rfl, trivial⟩) (by exact trivial) rfl (nk rfl) rfl rfl ⟨rfl, rfl⟩
            · obtain ⟨q128, q129⟩ := or_f hb127
              obtain ⟨q130, q131⟩ := or_f q128
              obtain ⟨q132, q133⟩ := or_f q130
              have q134 := d_t (not_f q132)
              have q135 := d_t (not_f q133)
              replace h := is_else (ne_t hb127) h
              refine aw_skip ?_
              refine aq_then ?_
              refine aw_seq ?_
              refine aw_region ?_
              refine ao_read trivial (r_move rfl) rfl ?_
              obtain ⟨r136, r136h, h⟩ := is_bind h
              refine ao_call [] 12 trivial (c_spec_DrawPlayRace (is_mk r136h)) Try.func43 rfl rfl rfl rfl ⟨ad_ren rfl, trivial⟩ trivial rfl rfl rfl rfl rfl rfl rfl (fun r' H' hr => ?_)
              obtain ⟨rfl, rfl⟩ := hr
              refine ao_norm (y := .tup [.v (.arr 6 (.int .i64)) r136.1, .v (.arr 6 (.int .i64)) r136.2.1, .int .i64 r136.2.2.1, .os 12]) (H' := [(11, .var [.arr (.int .i64) 6 r81.1]), (9, .var [.arr (.int .i64) 2 r56.2.1]), (8, .var [.arr (.int .i64) 2 r55.2.1]), (7, .var [.arr (.int .i64) 6 r54.1]), (6, .var [.arr (.int .i64) 2 r36.1]), (5, .var [.arr (.int .i64) 2 r35.1]), (4, .var [.arr (.int .i64) 2 r17.1]), (3, .var [.arr (.int .i64) 2 r16.1]), (0, .var [.arr (.int .i64) 6 r2.1]), (1, .row (.pair (.int .i64) (.pair (.arr 2 (.int .i64)) .unit)) r3.1), (2, .row (.pair (.int .i64) (.pair (.arr 2 (.int .i64)) .unit)) r5.1), (10, .row (.int .i64) r81.2.2.2), (12, .row (.int .i64) r136.2.2.2)]) rfl rfl ?_
              refine row_len_o 12 (r136.2.2.2.length : Int) rfl rfl (fun hr137 => ?_)
              refine ao_read trivial (r_move rfl) rfl ?_
              refine ao_read trivial (r_extract rfl rfl) rfl ?_
              refine ao_read trivial (r_extract rfl rfl) rfl ?_
              refine ao_read trivial (r_extract rfl rfl) rfl ?_
              refine ao_read trivial (r_extract rfl rfl) rfl ?_
              refine ao_eff trivial (e_alloc 13 (y := .v (.arr 6 (.int .i64)) ((List.replicate 6 0) : (List Int))) Try.zeroValue43 (fun ρ h M => ra_zero_arr (t := (.int .i64)) rfl) rfl rfl rfl rfl rfl) rfl ?_
              refine ao_eff trivial (e_alloc 14 (y := .v (.arr 6 (.int .i64)) ((List.replicate 6 0) : (List Int))) Try.zeroValue43 (fun ρ h M => ra_zero_arr (t := (.int .i64)) rfl) rfl rfl rfl rfl rfl) rfl ?_
              refine ao_effS trivial (e_store rfl rfl rfl rfl Try.sizeOf43 rfl) ?_
              refine ao_effS trivial (e_store rfl rfl rfl rfl Try.sizeOf43 rfl) ?_
              refine ao_read trivial (r_assign rfl) rfl ?_
              refine ao_read trivial (r_assign rfl) rfl ?_
              refine ao_nil ?_
              refine aq_then ?_
              refine aw_seq ?_
              refine aw_region ?_
              refine ao_read trivial (r_load_arr rfl Try.isAgg43 Try.sizeOf43 rfl rfl rfl) rfl ?_
              refine ao_read trivial (r_load_arr rfl Try.isAgg43 Try.sizeOf43 rfl rfl rfl) rfl ?_
              refine ao_read trivial (r_move rfl) rfl ?_
              refine ao_read trivial (r_move rfl) rfl ?_
              obtain ⟨r138, r138h, h⟩ := is_bind h
              refine ao_scall trivial (scall (c_impl_PlayRace (is_mk r138h)) rfl Try.func44 rfl rfl rfl rfl (fun σ => ⟨ad_ren rfl, ad_ren rfl, ad_ren rfl, ad_os0 rfl, trivial⟩)) rfl ?_
              refine ao_read trivial (r_move rfl) rfl ?_
              refine ao_read trivial (r_extract rfl rfl) rfl ?_
              refine ao_read trivial (r_extract rfl rfl) rfl ?_
              refine ao_read trivial (r_extract rfl rfl) rfl ?_
              refine ao_read trivial (r_assign rfl) rfl ?_
              refine ao_read trivial (r_assign rfl) rfl ?_
              refine ao_read trivial (r_assign rfl) rfl ?_
              refine ao_nil ?_
              refine aq_then ?_
              refine aw_seq ?_
              refine aw_seq ?_
              refine aw_region ?_
              refine ao_read trivial (r_load_arr rfl Try.isAgg43 Try.sizeOf43 rfl rfl rfl) rfl ?_
              refine ao_read trivial (r_load_arr rfl Try.isAgg43 Try.sizeOf43 rfl rfl rfl) rfl ?_
              refine ao_read trivial (r_move rfl) rfl ?_
              refine ao_read trivial (r_move rfl) rfl ?_
              obtain ⟨r139, r139h, h⟩ := is_bind h
              refine ao_scall trivial (scall (c_spec_PlayRace (is_mk r139h)) rfl Try.func45 rfl rfl rfl rfl (fun σ => ⟨ad_ren rfl, ad_ren rfl, ad_ren rfl, ad_os0 rfl, trivial⟩)) rfl ?_
              refine ao_read trivial (r_move rfl) rfl ?_
              refine ao_read trivial (r_extract rfl rfl) rfl ?_
              refine ao_read trivial (r_extract rfl rfl) rfl ?_
              refine ao_read trivial (r_extract rfl rfl) rfl ?_
              refine ao_read trivial (r_assign rfl) rfl ?_
              refine ao_read trivial (r_assign rfl) rfl ?_
              refine ao_read trivial (r_assign rfl) rfl ?_
              refine ao_nil ?_
              refine aq_then ?_
              refine aw_seq ?_
              refine aw_region ?_
              refine ao_read trivial (r_move rfl) rfl ?_
              refine ao_read trivial (r_move rfl) rfl ?_
              refine ao_read trivial (r_neq rfl rfl) rfl ?_
              refine ao_read trivial (r_move rfl) rfl ?_
              refine ao_readG (x := .int .i64 r138.2.1) rfl (GV.F rfl) (fun hg140 => by
                    have q141 := d_t (not_f (not_t hg140))
                    exact r_move rfl) rfl ?_
              refine ao_readG (x := .int .i64 r139.2.1) rfl (GV.F rfl) (fun hg142 => by
                    have q143 := d_t (not_f (not_t hg142))
                    exact r_move rfl) rfl ?_
              refine ao_readG (x := .bool (!(decide (r138.2.1 = r139.2.1)))) rfl (GV.F rfl) (fun hg144 => by
                    have q145 := d_t (not_f (not_t hg144))
                    exact Reads.strip 251 rfl (hg144) (Reads.strip 252 rfl (hg144) (r_neq rfl rfl))) rfl ?_
              refine ao_read trivial (r_orB rfl rfl) rfl ?_
              refine ao_read trivial (r_move rfl) rfl ?_
              refine ao_readG (x := .bool r138.2.2) rfl (GV.F rfl) (fun hg146 => by
                    obtain ⟨q147, q148⟩ := or_f (not_t hg146)
                    have q149 := d_t (not_f q147)
                    have q150 := d_t (not_f q148)
                    exact r_move rfl) rfl ?_
              refine ao_readG (x := .bool r139.2.2) rfl (GV.F rfl) (fun hg151 => by
                    obtain ⟨q152, q153⟩ := or_f (not_t hg151)
                    have q154 := d_t (not_f q152)
                    have q155 := d_t (not_f q153)
                    exact r_move rfl) rfl ?_
              refine ao_readG (x := .bool (r138.2.2 != r139.2.2)) rfl (GV.F rfl) (fun hg156 => by
                    obtain ⟨q157, q158⟩ := or_f (not_t hg156)
                    have q159 := d_t (not_f q157)
                    have q160 := d_t (not_f q158)
                    exact Reads.strip 256 rfl (hg156) (Reads.strip 257 rfl (hg156) (r_neq_bool Try.underlying4 rfl rfl))) rfl ?_
              refine ao_read trivial (r_orB rfl rfl) rfl ?_
              refine ao_read trivial (r_move rfl) rfl ?_
              refine ao_readG (x := .bool r138.2.2) rfl (GV.F rfl) (fun hg161 => by
                    obtain ⟨q162, q163⟩ := or_f (not_t hg161)
                    obtain ⟨q164, q165⟩ := or_f q162
                    have q166 := d_t (not_f q164)
                    have q167 := d_t (not_f q165)
                    exact r_move rfl) rfl ?_
              refine ao_readG (x := .bool r138.2.2) rfl (GV.F rfl) (fun hg168 => by
                    obtain ⟨q169, q170⟩ := or_f (not_t hg168)
                    obtain ⟨q171, q172⟩ := or_f q169
                    have q173 := d_t (not_f q171)
                    have q174 := d_t (not_f q172)
                    exact Reads.strip 261 rfl (hg168) (r_move rfl)) rfl ?_
              refine ao_readG (x := .int .i64 r138.1) rfl (GV.gT rfl) (fun hg175 => by
                    obtain ⟨q176, q177⟩ := and_t hg175
                    obtain ⟨q178, q179⟩ := or_f (not_t q176)
                    obtain ⟨q180, q181⟩ := or_f q178
                    have q182 := d_t (not_f q180)
                    have q183 := d_t (not_f q181)
                    exact r_move rfl) rfl ?_
              refine ao_readG (x := .bool (decide (0 < r138.1))) rfl (GV.gT rfl) (fun hg184 => by
                    obtain ⟨q185, q186⟩ := and_t hg184
                    obtain ⟨q187, q188⟩ := or_f (not_t q185)
                    obtain ⟨q189, q190⟩ := or_f q187
                    have q191 := d_t (not_f q189)
                    have q192 := d_t (not_f q190)
                    exact Reads.strip 263 rfl (hg184) (r_gtr rfl rfl)) rfl ?_
              refine ao_readG (x := .bool (r138.2.2 && (decide (0 < r138.1)))) rfl (GV.F rfl) (fun hg193 => by
                    obtain ⟨q194, q195⟩ := or_f (not_t hg193)
                    obtain ⟨q196, q197⟩ := or_f q194
                    have q198 := d_t (not_f q196)
                    have q199 := d_t (not_f q197)
                    exact Reads.strip 262 rfl (hg193) (r_andBg rfl rfl (tr_and (hg193)))) rfl ?_
              refine ao_readG (x := .bool (r138.2.2 && (decide (0 < r138.1)))) rfl (GV.F rfl) (fun hg200 => by
                    obtain ⟨q201, q202⟩ := or_f (not_t hg200)
                    obtain ⟨q203, q204⟩ := or_f q201
                    have q205 := d_t (not_f q203)
                    have q206 := d_t (not_f q204)
                    exact Reads.strip 265 rfl (hg200) (r_move rfl)) rfl ?_
              refine ao_readG (x := .int .i64 r138.2.1) rfl (GV.gT rfl) (fun hg207 => by
                    obtain ⟨q208, q209⟩ := and_t hg207
                    obtain ⟨q210, q211⟩ := or_f (not_t q208)
                    obtain ⟨q212, q213⟩ := or_f q210
                    have q214 := d_t (not_f q212)
                    have q215 := d_t (not_f q213)
                    obtain ⟨q216, q217⟩ := and_t q209
                    have q218 := d_t q217
                    exact r_move rfl) rfl ?_
              refine ao_readG (x := .int .i64 (r138.2.1.tmod 2)) rfl (GV.gT rfl) (fun hg219 => by
                    obtain ⟨q220, q221⟩ := and_t hg219
                    obtain ⟨q222, q223⟩ := or_f (not_t q220)
                    obtain ⟨q224, q225⟩ := or_f q222
                    have q226 := d_t (not_f q224)
                    have q227 := d_t (not_f q225)
                    obtain ⟨q228, q229⟩ := and_t q221
                    have q230 := d_t q229
                    exact Reads.strip 267 rfl (hg219) (r_rem rfl rfl (by decide))) rfl ?_
              refine ao_readG (x := .int .i64 r138.1) rfl (GV.gT rfl) (fun hg231 => by
                    obtain ⟨q232, q233⟩ := and_t hg231
                    obtain ⟨q234, q235⟩ := or_f (not_t q232)
                    obtain ⟨q236, q237⟩ := or_f q234
                    have q238 := d_t (not_f q236)
                    have q239 := d_t (not_f q237)
                    obtain ⟨q240, q241⟩ := and_t q233
                    have q242 := d_t q241
                    exact r_move rfl) rfl ?_
              refine ao_readG (x := .int .i64 (r138.1.tmod 2)) rfl (GV.gT rfl) (fun hg243 => by
                    obtain ⟨q244, q245⟩ := and_t hg243
                    obtain ⟨q246, q247⟩ := or_f (not_t q244)
                    obtain ⟨q248, q249⟩ := or_f q246
                    have q250 := d_t (not_f q248)
                    have q251 := d_t (not_f q249)
                    obtain ⟨q252, q253⟩ := and_t q245
                    have q254 := d_t q253
                    exact Reads.strip 269 rfl (hg243) (r_rem rfl rfl (by decide))) rfl ?_
              refine ao_readG (x := .bool (!(decide ((r138.2.1.tmod 2) = (r138.1.tmod 2))))) rfl (GV.gT rfl) (fun hg255 => by
                    obtain ⟨q256, q257⟩ := and_t hg255
                    obtain ⟨q258, q259⟩ := or_f (not_t q256)
                    obtain ⟨q260, q261⟩ := or_f q258
                    have q262 := d_t (not_f q260)
                    have q263 := d_t (not_f q261)
                    obtain ⟨q264, q265⟩ := and_t q257
                    have q266 := d_t q265
                    exact Reads.strip 268 rfl (hg255) (Reads.strip 270 rfl (hg255) (r_neq rfl rfl))) rfl ?_
              refine ao_readG (x := .bool ((r138.2.2 && (decide (0 < r138.1))) && (!(decide ((r138.2.1.tmod 2) = (r138.1.tmod 2)))))) rfl (GV.F rfl) (fun hg267 => by
                    obtain ⟨q268, q269⟩ := or_f (not_t hg267)
                    obtain ⟨q270, q271⟩ := or_f q268
                    have q272 := d_t (not_f q270)
                    have q273 := d_t (not_f q271)
                    exact Reads.strip 266 rfl (hg267) (r_andBg rfl rfl (tr_and (hg267)))) rfl ?_
              refine ao_read trivial (r_orB rfl rfl) rfl ?_
              refine ao_nil ?_
              refine aq_then ?_
              refine aw_cond rfl (fun hb274 => ?_) (fun hb274 => ?_)
              · replace h := is_if hb274 h
                refine aw_seq ?_
                refine aw_region ?_
                refine ao_read trivial (r_assign rfl) rfl ?_
                refine ao_nil ?_
                refine aq_then ?_
                refine aw_ret ?_
                refine aq_then_ret ?_
                refine aq_ret ?_
                obtain rfl := is_some h
                exact aq_finx (l := [.tmp 2]) (xs := [.bool false]) idn [.bool false] [] rfl (by exact ⟨rfl, trivial⟩) (by exact ⟨ad_ren rfl, trivial⟩) (by exact trivial) rfl (nk rfl) rfl rfl ⟨rfl, rfl⟩
              · obtain ⟨q275, q276⟩ := or_f hb274
                obtain ⟨q277, q278⟩ := or_f q275
                obtain ⟨q279, q280⟩ := or_f q277
                have q281 := d_t (not_f q279)
                have q282 := d_t (not_f q280)
                replace h := is_else (ne_t hb274) h
                refine aw_skip ?_
                refine aq_then ?_
                refine aw_join (fun (s283 : Unit) => [(5, .int .i64 r2.2.2), (6, .os 0), (7, .bool r3.2), (8, .os 1), (10, .ref 2 0), (14, .ref 3 0), (18, .ref 4 0), (19, .int .i64 r54.2), (20, .int .i64 r55.1), (21, .ref 5 0), (22, .bool r55.2.2)]) (fun (s283 : Unit) => [(0, .row (.pair (.int .i64) (.pair (.arr 2 (.int .i64)) .unit)) r3.1), (1, .row (.pair (.int .i64) (.pair (.arr 2 (.int .i64)) .unit)) r5.1), (2, .var [.arr (.int .i64) 2 r16.1]), (3, .var [.arr (.int .i64) 2 r35.1]), (4, .var [.arr (.int .i64) 6 r54.1]), (5, .var [.arr (.int .i64) 2 r55.2.1])]) (fun (s283 : Unit) => True) h (fun s283 hI h => ?_) (fun h j285 => ?_)
                · refine aw_join (fun (s286 : Unit) => [(5, .int .i64 r2.2.2), (6, .os 0), (7, .bool r3.2), (8, .os 1), (10, .ref 2 0), (14, .ref 3 0)]) (fun (s286 : Unit) => [(0, .row (.pair (.int .i64) (.pair (.arr 2 (.int .i64)) .unit)) r3.1), (1, .row (.pair (.int .i64) (.pair (.arr 2 (.int .i64)) .unit)) r5.1), (2, .var [.arr (.int .i64) 2 r16.1]), (3, .var [.arr (.int .i64) 2 r35.1])]) (fun (s286 : Unit) => True) h (fun s286 hI h => ?_) (fun h j288 => ?_)
                  · refine aw_seq ?_
                    refine aw_seq ?_
                    refine aw_region ?_
                    refine ao_read trivial (r_move rfl) rfl ?_
                    refine ao_read trivial (r_not rfl) rfl ?_
                    refine ao_nil ?_
                    refine aq_then ?_
                    refine aw_cond rfl (fun hb289 => ?_) (fun hb289 => ?_)
                    · replace h := is_else (ne_t (not_t hb289)) h
                      refine aw_seq ?_
                      refine aw_region ?_
                      refine ao_read trivial (r_assign rfl) rfl ?_
                      refine ao_nil ?_
                      refine aq_then ?_
                      refine aw_ret ?_
                      refine aq_then_ret ?_
                      refine aq_ret ?_
                      obtain rfl := is_some h
                      exact aq_finx (l := [.tmp 2]) (xs := [.bool true]) idn [.bool true] [] rfl (by exact ⟨rfl, trivial⟩) (by exact ⟨ad_ren rfl, trivial⟩) (by exact trivial) rfl (nk rfl) rfl rfl ⟨rfl, rfl⟩
                    · replace h := is_if (not_f hb289) h
                      refine aw_skip ?_
                      refine aq_then ?_
                      refine aw_seq ?_
                      refine aw_region ?_
                      refine ao_read trivial (r_build_arr (l := [(0, .const (.int .i64 0)), (1, .const (.int .i64 1))]) (t := (.int .i64)) ([0, 1] : (List Int)) rfl Try.underlying30 Try.zeroValue30 Try.sizeOf3 rfl rfl rfl rfl) rfl ?_
                      refine ao_read trivial (r_build_arr (l := [(0, .const (.int .i64 0)), (1, .const (.int .i64 1))]) (t := (.int .i64)) ([0, 1] : (List Int)) rfl Try.underlying30 Try.zeroValue30 Try.sizeOf3 rfl rfl rfl rfl) rfl ?_
                      refine ao_read trivial (r_build_arr (l := [(0, .const (.int .i64 0)), (1, .const (.int .i64 1))]) (t := (.int .i64)) ([0, 1] : (List Int)) rfl Try.underlying30 Try.zeroValue30 Try.sizeOf3 rfl rfl rfl rfl) rfl ?_
                      refine ao_eff trivial (e_alloc 4 (y := .v (.arr 2 (.int .i64)) ((List.replicate 2 0) : (List Int))) Try.zeroValue30 (fun ρ h M => ra_zero_arr (t := (.int .i64)) rfl) rfl rfl rfl rfl rfl) rfl ?_
                      refine ao_eff trivial (e_alloc 5 (y := .v (.arr 2 (.int .i64)) ((List.replicate 2 0) : (List Int))) Try.zeroValue30 (fun ρ h M => ra_zero_arr (t := (.int .i64)) rfl) rfl rfl rfl rfl rfl) rfl ?_
                      refine ao_eff trivial (e_alloc 6 (y := .v (.arr 2 (.int .i64)) ((List.replicate 2 0) : (List Int))) Try.zeroValue30 (fun ρ h M => ra_zero_arr (t := (.int .i64)) rfl) rfl rfl rfl rfl rfl) rfl ?_
                      refine ao_effS trivial (e_store rfl rfl rfl rfl Try.sizeOf30 rfl) ?_
                      refine ao_effS trivial (e_store rfl rfl rfl rfl Try.sizeOf30 rfl) ?_
                      refine ao_effS trivial (e_store rfl rfl rfl rfl Try.sizeOf30 rfl) ?_
                      refine ao_nil ?_
                      refine aq_then ?_
                      refine aw_seq ?_
                      refine aw_seq ?_
                      refine aw_region ?_
                      refine ao_read trivial (r_assign rfl) rfl ?_
                      refine ao_nil ?_
                      refine aq_then ?_
                      refine aw_block ?_
                      refine aw_loop (AL.sub (fr' := [(5, .int .i64 r2.2.2), (6, .os 0), (8, .os 1), (10, .ref 2 0), (14, .ref 3 0), (55, .ref 4 0), (56, .ref 5 0), (57, .ref 6 0), (58, .int .i64 0)]) (H' := [(0, .row (.pair (.int .i64) (.pair (.arr 2 (.int .i64)) .unit)) r3.1), (1, .row (.pair (.int .i64) (.pair (.arr 2 (.int .i64)) .unit)) r5.1), (2, .var [.arr (.int .i64) 2 r16.1]), (3, .var [.arr (.int .i64) 2 r35.1]), (4, .var [.arr (.int .i64) 2 ([0, 1] : (List Int))]), (5, .var [.arr (.int .i64) 2 ([0, 1] : (List Int))]), (6, .var [.arr (.int .i64) 2 ([0, 1] : (List Int))])]) (sub_mk idn (by exact ⟨⟨_, rfl, ad_ren rfl⟩, ⟨_, rfl, ad_ren rfl⟩, ⟨_, rfl, ad_ren rfl⟩, ⟨_, rfl, ad_ren rfl⟩, ⟨_, rfl, ad_ren rfl⟩, ⟨_, rfl, ad_ren rfl⟩, ⟨_, rfl, ad_ren rfl⟩, ⟨_, rfl, ad_ren rfl⟩, ⟨_, rfl, ad_ren rfl⟩, trivial⟩) (by exact ⟨⟨_, rfl, rfl⟩, ⟨_, rfl, rfl⟩, ⟨_, rfl, ⟨rfl, trivial⟩⟩, ⟨_, rfl, ⟨rfl, trivial⟩⟩, ⟨_, rfl, ⟨rfl, trivial⟩⟩, ⟨_, rfl, ⟨rfl, trivial⟩⟩, ⟨_, rfl, ⟨rfl, trivial⟩⟩, trivial⟩) (by rfl) (nk rfl)) (al_cnt (fun i291 (s290 : (List Int) × (List Int) × (List Int)) => [(5, .int .i64 r2.2.2), (6, .os 0), (8, .os 1), (10, .ref 2 0), (14, .ref 3 0), (55, .ref 4 0), (56, .ref 5 0), (57, .ref 6 0), (58, .int .i64 i291)]) (fun i291 (s290 : (List Int) × (List Int) × (List Int)) => [(0, .row (.pair (.int .i64) (.pair (.arr 2 (.int .i64)) .unit)) r3.1), (1, .row (.pair (.int .i64) (.pair (.arr 2 (.int .i64)) .unit)) r5.1), (2, .var [.arr (.int .i64) 2 r16.1]), (3, .var [.arr (.int .i64) 2 r35.1]), (4, .var [.arr (.int .i64) 2 s290.1]), (5, .var [.arr (.int .i64) 2 s290.2.1]), (6, .var [.arr (.int .i64) 2 s290.2.2])]) (fun d i291 (s290 : (List Int) × (List Int) × (List Int)) => d = Int.toNat ((r3.1.length : Int) - i291) ∧ 0 ≤ i291 ∧ i291 ≤ (r3.1.length : Int)) h ⟨rfl, (by (try simp only [List.length_set, List.length_append, List.length_cons, List.length_nil, List.length_replicate, List.length_take, List.length_drop]) <;> omega), (by (try simp only [List.length_set, List.length_append, List.length_cons, List.length_nil, List.length_replicate, List.length_take, List.length_drop]) <;> omega)⟩ (fun d292 i291 s290 hI h ih292 => ?_)))
                      obtain ⟨hd, _, _⟩ := hI
                      refine al_round ?_
                      refine aw_seq ?_
                      refine aw_seq ?_
                      refine aw_region ?_
                      refine ao_read trivial (r_move rfl) rfl ?_
                      refine ao_read trivial (r_move rfl) rfl ?_
                      refine ao_read trivial (r_len_osm (r3.1.length : Int) Try.underlying46 rfl rfl rfl) rfl ?_
                      refine ao_read trivial (r_lss rfl rfl) rfl ?_
                      refine ao_nil ?_
                      refine aq_then ?_
                      refine aw_cond rfl (fun hb294 => ?_) (fun hb294 => ?_)
                      · have q295 := d_t hb294
                        obtain ⟨d292, rfl⟩ : ∃ e, d292 = e + 1 := ⟨d292 - 1, by omega⟩
                        replace h := is_cntS h
                        refine aw_skip ?_
                        refine aq_then ?_
                        refine aw_seq ?_
                        refine aw_block ?_
                        refine aw_seq ?_
                        refine aw_seq ?_
                        refine aw_drawAll (by kernel_rfl) ?_
                        refine an_read 0 (by kernel_rfl) (fun _ _ _ h => h) rfl (by kernel_rfl) trivial (r_move rfl) rfl ?_
                        refine an_read 1 (by kernel_rfl) (fun _ _ _ h => h) rfl (by kernel_rfl) trivial (r_move rfl) rfl ?_
                        refine an_read 2 (by kernel_rfl) (fun _ _ _ h => h) rfl (by kernel_rfl) trivial (r_idxAddr_os Try.underlying46 Try.sizeOf62 rfl rfl rfl (show 0 ≤ i291 from by omega) (show i291 < (r3.1.length : Int) from by omega)) rfl ?_
                        refine an_read 3 (by kernel_rfl) (fun _ _ _ h => h) rfl (by kernel_rfl) trivial (r_load_elemv (t := (.pair (.int .i64) (.pair (.arr 2 (.int .i64)) .unit))) Try.isAgg62 Try.sizeOf62 rfl rfl (show i291.toNat < r3.1.length from by omega)) rfl ?_
                        refine an_read 4 (by kernel_rfl) (fun _ _ _ h => h) rfl (by kernel_rfl) trivial (r_move rfl) rfl ?_
                        refine an_read 5 (by kernel_rfl) (fun _ _ _ h => h) rfl (by kernel_rfl) trivial (r_move rfl) rfl ?_
                        refine an_read 6 (by kernel_rfl) (fun _ _ _ h => h) rfl (by kernel_rfl) trivial (r_idxAddr_os Try.underlying46 Try.sizeOf62 rfl rfl rfl (show 0 ≤ i291 from by omega) (show i291 < (r5.1.length : Int) from by omega)) rfl ?_
                        refine an_read 7 (by kernel_rfl) (fun _ _ _ h => h) rfl (by kernel_rfl) trivial (r_load_elemv (t := (.pair (.int .i64) (.pair (.arr 2 (.int .i64)) .unit))) Try.isAgg62 Try.sizeOf62 rfl rfl (show i291.toNat < r5.1.length from by omega)) rfl ?_
                        refine an_read 8 (by kernel_rfl) (fun _ _ _ h => h) rfl (by kernel_rfl) trivial (r_eq_data (.pair (.int .i64) (.pair (.arr 2 (.int .i64)) .unit)) 3 Try.underlying62 (by kernel_rfl) (by kernel_rfl) ⟨rfl, rfl, Try.isAgg3, Try.sizeOf3, (TEq.mono (n := 1) rfl (teq_int Try.underlying3)), ⟨rfl, rfl, Try.isAgg30, Try.sizeOf30, (teq_ints Try.underlying30 Try.underlying3 Try.isAgg3 (info_size Try.sizeOf3)), trivial⟩⟩ rfl rfl rfl rfl rfl) rfl ?_
                        refine an_read 9 (by kernel_rfl) (fun _ _ _ h => h) rfl (by kernel_rfl) trivial (r_move rfl) rfl ?_
                        refine an_readG 10 (x := .int .i64 i291) (by kernel_rfl) (fun _ _ _ h => h) rfl (by kernel_rfl) rfl (GV.F rfl) (fun hg297 => r_move rfl) rfl ?_
                        refine an_readG 11 (x := .bool (decide (0 < i291))) (by kernel_rfl) (fun _ _ _ h => h) rfl (by kernel_rfl) rfl (GV.F rfl) (fun hg298 => Reads.strip 365 rfl (hg298) (r_gtr rfl rfl)) rfl ?_
                        refine an_readG 12 (x := .bool (decide (0 < i291))) (by kernel_rfl) (fun _ _ _ h => h) rfl (by kernel_rfl) rfl (GV.F rfl) (fun hg299 => Reads.strip 366 rfl (hg299) (r_move rfl)) rfl ?_
                        refine an_readG 13 (x := .os 0) (by kernel_rfl) (fun _ _ _ h => h) rfl (by kernel_rfl) rfl (GV.gT rfl) (fun hg300 => by
                              obtain ⟨q301, q302⟩ := and_t hg300
                              have q303 := d_t q302
                              exact r_move rfl) rfl ?_
                        refine an_readG 14 (x := .int .i64 i291) (by kernel_rfl) (fun _ _ _ h => h) rfl (by kernel_rfl) rfl (GV.gT rfl) (fun hg304 => by
                              obtain ⟨q305, q306⟩ := and_t hg304
                              have q307 := d_t q306
                              exact r_move rfl) rfl ?_
                        refine an_readG 15 (x := .elem 0 0 3 i291.toNat) (by kernel_rfl) (fun _ _ _ h => h) rfl (by kernel_rfl) rfl (GV.gT rfl) (fun hg308 => by
                              obtain ⟨q309, q310⟩ := and_t hg308
                              have q311 := d_t q310
                              exact Reads.strip 368 rfl (hg308) (Reads.strip 369 rfl (hg308) (r_idxAddr_os Try.underlying46 Try.sizeOf62 rfl rfl rfl (show 0 ≤ i291 from by omega) (show i291 < (r3.1.length : Int) from by omega)))) rfl ?_
                        refine an_readG 16 (x := .elem2 0 0 3 i291.toNat 1 0) (by kernel_rfl) (fun _ _ _ h => h) rfl (by kernel_rfl) rfl (GV.gT rfl) (fun hg312 => by
                              obtain ⟨q313, q314⟩ := and_t hg312
                              have q315 := d_t q314
                              exact Reads.strip 370 rfl (hg312) (r_fieldAddr_eleme Try.underlying62 rfl Try.sizeOf3 rfl rfl rfl)) rfl ?_
                        refine an_readG 17 (x := .int .i64 ((r3.1.getD i291.toNat (0, ((List.replicate 2 0), ()))).1)) (by kernel_rfl) (fun _ _ _ h => h) rfl (by kernel_rfl) rfl (GV.gT rfl) (fun hg316 => by
                              obtain ⟨q317, q318⟩ := and_t hg316
                              have q319 := d_t q318
                              exact Reads.strip 371 rfl (hg316) (r_load_fld (t := (.pair (.int .i64) (.pair (.arr 2 (.int .i64)) .unit))) (u := (.int .i64)) (fun (x : (Int × ((List Int) × Unit))) => x.1) Try.isAgg3 Try.sizeOf3 rfl fld_fst rfl rfl (show i291.toNat < r3.1.length from by omega) rfl rfl)) rfl ?_
                        refine an_readG 18 (x := .os 0) (by kernel_rfl) (fun _ _ _ h => h) rfl (by kernel_rfl) rfl (GV.gT rfl) (fun hg320 => by
                              obtain ⟨q321, q322⟩ := and_t hg320
                              have q323 := d_t q322
                              exact r_move rfl) rfl ?_
                        refine an_readG 19 (x := .int .i64 i291) (by kernel_rfl) (fun _ _ _ h => h) rfl (by kernel_rfl) rfl (GV.gT rfl) (fun hg324 => by
                              obtain ⟨q325, q326⟩ := and_t hg324
                              have q327 := d_t q326
                              exact r_move rfl) rfl ?_
                        refine an_readG 20 (x := .int .i64 (i291 - 1)) (by kernel_rfl) (fun _ _ _ h => h) rfl (by kernel_rfl) rfl (GV.gT rfl) (fun hg328 => by
                              obtain ⟨q329, q330⟩ := and_t hg328
                              have q331 := d_t q330
                              exact Reads.strip 374 rfl (hg328) (r_subI rfl rfl (wrap_id (by omega) (by omega)))) rfl ?_
                        refine an_readG 21 (x := .elem 0 0 3 (i291 - 1).toNat) (by kernel_rfl) (fun _ _ _ h => h) rfl (by kernel_rfl) rfl (GV.gT rfl) (fun hg332 => by
                              obtain ⟨q333, q334⟩ := and_t hg332
                              have q335 := d_t q334
                              exact Reads.strip 373 rfl (hg332) (Reads.strip 375 rfl (hg332) (r_idxAddr_os Try.underlying46 Try.sizeOf62 rfl rfl rfl (show 0 ≤ (i291 - 1) from by omega) (show (i291 - 1) < (r3.1.length : Int) from by omega)))) rfl ?_
                        refine an_readG 22 (x := .elem2 0 0 3 (i291 - 1).toNat 1 0) (by kernel_rfl) (fun _ _ _ h => h) rfl (by kernel_rfl) rfl (GV.gT rfl) (fun hg336 => by
                              obtain ⟨q337, q338⟩ := and_t hg336
                              have q339 := d_t q338
                              exact Reads.strip 376 rfl (hg336) (r_fieldAddr_eleme Try.underlying62 rfl Try.sizeOf3 rfl rfl rfl)) rfl ?_
                        refine an_readG 23 (x := .int .i64 ((r3.1.getD (i291 - 1).toNat (0, ((List.replicate 2 0), ()))).1)) (by kernel_rfl) (fun _ _ _ h => h) rfl (by kernel_rfl) rfl (GV.gT rfl) (fun hg340 => by
                              obtain ⟨q341, q342⟩ := and_t hg340
                              have q343 := d_t q342
                              exact Reads.strip 377 rfl (hg340) (r_load_fld (t := (.pair (.int .i64) (.pair (.arr 2 (.int .i64)) .unit))) (u := (.int .i64)) (fun (x : (Int × ((List Int) × Unit))) => x.1) Try.isAgg3 Try.sizeOf3 rfl fld_fst rfl rfl (show (i291 - 1).toNat < r3.1.length from by omega) rfl rfl)) rfl ?_
                        refine an_readG 24 (x := .bool (decide ((r3.1.getD i291.toNat (0, ((List.replicate 2 0), ()))).1 ≤ (r3.1.getD (i291 - 1).toNat (0, ((List.replicate 2 0), ()))).1))) (by kernel_rfl) (fun _ _ _ h => h) rfl (by kernel_rfl) rfl (GV.gT rfl) (fun hg344 => by
                              obtain ⟨q345, q346⟩ := and_t hg344
                              have q347 := d_t q346
                              exact Reads.strip 372 rfl (hg344) (Reads.strip 378 rfl (hg344) (r_leq rfl rfl))) rfl ?_
                        refine an_readG 25 (x := .bool ((decide (0 < i291)) && (decide ((r3.1.getD i291.toNat (0, ((List.replicate 2 0), ()))).1 ≤ (r3.1.getD (i291 - 1).toNat (0, ((List.replicate 2 0), ()))).1)))) (by kernel_rfl) (fun _ _ _ h => h) rfl (by kernel_rfl) rfl (GV.F rfl) (fun hg348 => Reads.strip 367 rfl (hg348) (r_andBg rfl rfl (tr_and (hg348)))) rfl ?_
                        refine an_read 26 (by kernel_rfl) (fun _ _ _ h => h) rfl (by kernel_rfl) trivial (r_orB rfl rfl) rfl ?_
                        refine an_read 27 (by kernel_rfl) (fun _ _ _ h => h) rfl (by kernel_rfl) trivial (r_move rfl) rfl ?_
                        refine an_readG 28 (x := .os 0) (by kernel_rfl) (fun _ _ _ h => h) rfl (by kernel_rfl) rfl (GV.F rfl) (fun hg349 => by
                              obtain ⟨q350, q351⟩ := or_f (not_t hg349)
                              exact r_move rfl) rfl ?_
                        refine an_readG 29 (x := .int .i64 i291) (by kernel_rfl) (fun _ _ _ h => h) rfl (by kernel_rfl) rfl (GV.F rfl) (fun hg352 => by
                              obtain ⟨q353, q354⟩ := or_f (not_t hg352)
                              exact r_move rfl) rfl ?_
                        refine an_readG 30 (x := .elem 0 0 3 i291.toNat) (by kernel_rfl) (fun _ _ _ h => h) rfl (by kernel_rfl) rfl (GV.F rfl) (fun hg355 => by
                              obtain ⟨q356, q357⟩ := or_f (not_t hg355)
                              exact Reads.strip 383 rfl (hg355) (Reads.strip 384 rfl (hg355) (r_idxAddr_os Try.underlying46 Try.sizeOf62 rfl rfl rfl (show 0 ≤ i291 from by omega) (show i291 < (r3.1.length : Int) from by omega)))) rfl ?_
                        refine an_readG 31 (x := .elem2 0 0 3 i291.toNat 1 0) (by kernel_rfl) (fun _ _ _ h => h) rfl (by kernel_rfl) rfl (GV.F rfl) (fun hg358 => by
                              obtain ⟨q359, q360⟩ := or_f (not_t hg358)
                              exact Reads.strip 385 rfl (hg358) (r_fieldAddr_eleme Try.underlying62 rfl Try.sizeOf3 rfl rfl rfl)) rfl ?_
                        refine an_readG 32 (x := .int .i64 ((r3.1.getD i291.toNat (0, ((List.replicate 2 0), ()))).1)) (by kernel_rfl) (fun _ _ _ h => h) rfl (by kernel_rfl) rfl (GV.F rfl) (fun hg361 => by
                              obtain ⟨q362, q363⟩ := or_f (not_t hg361)
                              exact Reads.strip 386 rfl (hg361) (r_load_fld (t := (.pair (.int .i64) (.pair (.arr 2 (.int .i64)) .unit))) (u := (.int .i64)) (fun (x : (Int × ((List Int) × Unit))) => x.1) Try.isAgg3 Try.sizeOf3 rfl fld_fst rfl rfl (show i291.toNat < r3.1.length from by omega) rfl rfl)) rfl ?_
                        refine an_readG 33 (x := .bool (decide (0 < (r3.1.getD i291.toNat (0, ((List.replicate 2 0), ()))).1))) (by kernel_rfl) (fun _ _ _ h => h) rfl (by kernel_rfl) rfl (GV.F rfl) (fun hg364 => by
                              obtain ⟨q365, q366⟩ := or_f (not_t hg364)
                              exact Reads.strip 387 rfl (hg364) (r_gtr rfl rfl)) rfl ?_
                        refine an_readG 34 (x := .bool (decide (0 < (r3.1.getD i291.toNat (0, ((List.replicate 2 0), ()))).1))) (by kernel_rfl) (fun _ _ _ h => h) rfl (by kernel_rfl) rfl (GV.F rfl) (fun hg367 => by
                              obtain ⟨q368, q369⟩ := or_f (not_t hg367)
                              exact Reads.strip 388 rfl (hg367) (r_move rfl)) rfl ?_
                        refine an_readG 35 (x := .os 0) (by kernel_rfl) (fun _ _ _ h => h) rfl (by kernel_rfl) rfl (GV.gT rfl) (fun hg370 => by
                              obtain ⟨q371, q372⟩ := and_t hg370
                              obtain ⟨q373, q374⟩ := or_f (not_t q371)
                              have q375 : 0 < (r3.1.getD i291.toNat (0, ((List.replicate 2 0), ()))).1 := d_t q372
                              exact r_move rfl) rfl ?_
                        refine an_readG 36 (x := .int .i64 i291) (by kernel_rfl) (fun _ _ _ h => h) rfl (by kernel_rfl) rfl (GV.gT rfl) (fun hg376 => by
                              obtain ⟨q377, q378⟩ := and_t hg376
                              obtain ⟨q379, q380⟩ := or_f (not_t q377)
                              have q381 : 0 < (r3.1.getD i291.toNat (0, ((List.replicate 2 0), ()))).1 := d_t q378
                              exact r_move rfl) rfl ?_
                        refine an_readG 37 (x := .elem 0 0 3 i291.toNat) (by kernel_rfl) (fun _ _ _ h => h) rfl (by kernel_rfl) rfl (GV.gT rfl) (fun hg382 => by
                              obtain ⟨q383, q384⟩ := and_t hg382
                              obtain ⟨q385, q386⟩ := or_f (not_t q383)
                              have q387 : 0 < (r3.1.getD i291.toNat (0, ((List.replicate 2 0), ()))).1 := d_t q384
                              exact Reads.strip 390 rfl (hg382) (Reads.strip 391 rfl (hg382) (r_idxAddr_os Try.underlying46 Try.sizeOf62 rfl rfl rfl (show 0 ≤ i291 from by omega) (show i291 < (r3.1.length : Int) from by omega)))) rfl ?_
                        refine an_readG 38 (x := .elem2 0 0 3 i291.toNat 1 0) (by kernel_rfl) (fun _ _ _ h => h) rfl (by kernel_rfl) rfl (GV.gT rfl) (fun hg388 => by
                              obtain ⟨q389, q390⟩ := and_t hg388
                              obtain ⟨q391, q392⟩ := or_f (not_t q389)
                              have q393 : 0 < (r3.1.getD i291.toNat (0, ((List.replicate 2 0), ()))).1 := d_t q390
                              exact Reads.strip 392 rfl (hg388) (r_fieldAddr_eleme Try.underlying62 rfl Try.sizeOf3 rfl rfl rfl)) rfl ?_
                        refine an_readG 39 (x := .int .i64 ((r3.1.getD i291.toNat (0, ((List.replicate 2 0), ()))).1)) (by kernel_rfl) (fun _ _ _ h => h) rfl (by kernel_rfl) rfl (GV.gT rfl) (fun hg394 => by
                              obtain ⟨q395, q396⟩ := and_t hg394
                              obtain ⟨q397, q398⟩ := or_f (not_t q395)
                              have q399 : 0 < (r3.1.getD i291.toNat (0, ((List.replicate 2 0), ()))).1 := d_t q396
                              exact Reads.strip 393 rfl (hg394) (r_load_fld (t := (.pair (.int .i64) (.pair (.arr 2 (.int .i64)) .unit))) (u := (.int .i64)) (fun (x : (Int × ((List Int) × Unit))) => x.1) Try.isAgg3 Try.sizeOf3 rfl fld_fst rfl rfl (show i291.toNat < r3.1.length from by omega) rfl rfl)) rfl ?_
                        refine an_readG 40 (x := .int .i64 r2.2.2) (by kernel_rfl) (fun _ _ _ h => h) rfl (by kernel_rfl) rfl (GV.gT rfl) (fun hg400 => by
                              obtain ⟨q401, q402⟩ := and_t hg400
                              obtain ⟨q403, q404⟩ := or_f (not_t q401)
                              have q405 : 0 < (r3.1.getD i291.toNat (0, ((List.replicate 2 0), ()))).1 := d_t q402
                              exact r_move rfl) rfl ?_
                        refine an_readG 41 (x := .bool (decide ((r3.1.getD i291.toNat (0, ((List.replicate 2 0), ()))).1 < r2.2.2))) (by kernel_rfl) (fun _ _ _ h => h) rfl (by kernel_rfl) rfl (GV.gT rfl) (fun hg406 => by
                              obtain ⟨q407, q408⟩ := and_t hg406
                              obtain ⟨q409, q410⟩ := or_f (not_t q407)
                              have q411 : 0 < (r3.1.getD i291.toNat (0, ((List.replicate 2 0), ()))).1 := d_t q408
                              exact Reads.strip 394 rfl (hg406) (Reads.strip 395 rfl (hg406) (r_lss rfl rfl))) rfl ?_
                        refine an_readG 42 (x := .bool ((decide (0 < (r3.1.getD i291.toNat (0, ((List.replicate 2 0), ()))).1)) && (decide ((r3.1.getD i291.toNat (0, ((List.replicate 2 0), ()))).1 < r2.2.2)))) (by kernel_rfl) (fun _ _ _ h => h) rfl (by kernel_rfl) rfl (GV.F rfl) (fun hg412 => by
                              obtain ⟨q413, q414⟩ := or_f (not_t hg412)
                              exact Reads.strip 389 rfl (hg412) (r_andBg rfl rfl (tr_and (hg412)))) rfl ?_
                        refine an_read 43 (by kernel_rfl) (fun _ _ _ h => h) rfl (by kernel_rfl) trivial (r_orB rfl rfl) rfl ?_
                        refine an_done rfl ?_
                        refine aq_then ?_
                        refine aw_cond rfl (fun hb415 => ?_) (fun hb415 => ?_)
                        · replace h := is_if hb415 h
                          refine aw_seq ?_
                          refine aw_region ?_
                          refine ao_read trivial (r_assign rfl) rfl ?_
                          refine ao_nil ?_
                          refine aq_then ?_
                          refine aw_ret ?_
                          refine aq_then_ret ?_
                          refine aq_in_ret ?_
                          refine aq_then_ret ?_
                          refine aq_then_ret ?_
                          refine aq_in_ret ?_
                          refine aq_then_ret ?_
                          refine aq_ret ?_
                          obtain rfl := is_some h
                          exact aq_finx (l := [.tmp 2]) (xs := [.bool false]) idn [.bool false] [] rfl (by exact ⟨rfl, trivial⟩) (by exact ⟨ad_ren rfl, trivial⟩) (by exact trivial) rfl (nk rfl) rfl rfl ⟨rfl, rfl⟩
                        · obtain ⟨q416, q417⟩ := or_f hb415
                          obtain ⟨q418, q419⟩ := or_f q416
                          replace h := is_else (ne_t hb415) h
                          refine aw_skip ?_
                          refine aq_then ?_
                          refine aw_seq ?_
                          obtain ⟨r420, r420h, h⟩ := is_bind h
                          refine aw_draw 7 (by kernel_rfl) (by kernel_rfl) ?_
                          refine an_read 0 (by kernel_rfl) (fun _ _ _ h => h) rfl (by kernel_rfl) trivial (r_load_arr rfl Try.isAgg30 Try.sizeOf30 rfl rfl rfl) rfl ?_
                          refine an_read 1 (by kernel_rfl) (fun _ _ _ h => h) rfl (by kernel_rfl) trivial (r_move rfl) rfl ?_
                          refine an_read 2 (by kernel_rfl) (fun _ _ _ h => h) rfl (by kernel_rfl) trivial (r_move rfl) rfl ?_
                          refine an_read 3 (by kernel_rfl) (fun _ _ _ h => h) rfl (by kernel_rfl) trivial (r_idxAddr_os Try.underlying46 Try.sizeOf62 rfl rfl rfl (show 0 ≤ i291 from by omega) (show i291 < (r3.1.length : Int) from by omega)) rfl ?_
                          refine an_read 4 (by kernel_rfl) (fun _ _ _ h => h) rfl (by kernel_rfl) trivial (r_fieldAddr_eleme Try.underlying62 rfl Try.sizeOf30 rfl rfl rfl) rfl ?_
                          refine an_read 5 (by kernel_rfl) (fun _ _ _ h => h) rfl (by kernel_rfl) trivial (r_load_fld (t := (.pair (.int .i64) (.pair (.arr 2 (.int .i64)) .unit))) (u := (.arr 2 (.int .i64))) (fun (x : (Int × ((List Int) × Unit))) => x.2.1) Try.isAgg30 Try.sizeOf30 rfl (fld_snd (w := (.int .i64)) (v := (.pair (.arr 2 (.int .i64)) .unit)) (u := (.arr 2 (.int .i64))) (f := fun (x : ((List Int) × Unit)) => x.1) rfl fld_fst) rfl rfl (show i291.toNat < r3.1.length from by omega) rfl rfl) rfl ?_
                          refine an_scall 6 (by kernel_rfl) (fun _ _ _ h => h) rfl (by kernel_rfl) trivial (scall (c_laws_rPlus (is_mk r420h)) rfl Try.func46 rfl rfl rfl rfl (fun σ => ⟨ad_ren rfl, ad_ren rfl, trivial⟩)) rfl ?_
                          refine an_tail rfl rfl ?_
                          refine ao_effS trivial (e_store rfl rfl rfl rfl Try.sizeOf30 rfl) ?_
                          refine ao_nil ?_
                          refine aq_then ?_
                          refine aw_seq ?_
                          obtain ⟨r421, r421h, h⟩ := is_bind h
                          refine aw_draw 21 (by kernel_rfl) (by kernel_rfl) ?_
                          refine an_read 0 (by kernel_rfl) (fun _ _ _ h => h) rfl (by kernel_rfl) trivial (r_load_arr rfl Try.isAgg30 Try.sizeOf30 rfl rfl rfl) rfl ?_
                          refine an_read 1 (by kernel_rfl) (fun _ _ _ h => h) rfl (by kernel_rfl) trivial (r_move rfl) rfl ?_
                          refine an_read 2 (by kernel_rfl) (fun _ _ _ h => h) rfl (by kernel_rfl) trivial (r_move rfl) rfl ?_
                          refine an_read 3 (by kernel_rfl) (fun _ _ _ h => h) rfl (by kernel_rfl) trivial (r_idxAddr_os Try.underlying46 Try.sizeOf62 rfl rfl rfl (show 0 ≤ i291 from by omega) (show i291 < (r3.1.length : Int) from by omega)) rfl ?_
                          refine an_read 4 (by kernel_rfl) (fun _ _ _ h => h) rfl (by kernel_rfl) trivial (r_fieldAddr_eleme Try.underlying62 rfl Try.sizeOf3 rfl rfl rfl) rfl ?_
                          refine an_read 5 (by kernel_rfl) (fun _ _ _ h => h) rfl (by kernel_rfl) trivial (r_load_fld (t := (.pair (.int .i64) (.pair (.arr 2 (.int .i64)) .unit))) (u := (.int .i64)) (fun (x : (Int × ((List Int) × Unit))) => x.1) Try.isAgg3 Try.sizeOf3 rfl fld_fst rfl rfl (show i291.toNat < r3.1.length from by omega) rfl rfl) rfl ?_
                          refine an_read 6 (by kernel_rfl) (fun _ _ _ h => h) rfl (by kernel_rfl) trivial (r_move rfl) rfl ?_
                          refine an_read 7 (by kernel_rfl) (fun _ _ _ h => h) rfl (by kernel_rfl) trivial (r_move rfl) rfl ?_
                          refine an_read 8 (by kernel_rfl) (fun _ _ _ h => h) rfl (by kernel_rfl) trivial (r_idxAddr_os Try.underlying46 Try.sizeOf62 rfl rfl rfl (show 0 ≤ i291 from by omega) (show i291 < (r3.1.length : Int) from by omega)) rfl ?_
                          refine an_read 9 (by kernel_rfl) (fun _ _ _ h => h) rfl (by kernel_rfl) trivial (r_fieldAddr_eleme Try.underlying62 rfl Try.sizeOf30 rfl rfl rfl) rfl ?_
                          refine an_read 10 (by kernel_rfl) (fun _ _ _ h => h) rfl (by kernel_rfl) trivial (r_idxAddr_fld Try.underlying30 Try.sizeOf3 rfl rfl (by omega) (by omega) rfl) rfl ?_
                          refine an_read 11 (by kernel_rfl) (fun _ _ _ h => h) rfl (by kernel_rfl) trivial (r_load_fld (t := (.pair (.int .i64) (.pair (.arr 2 (.int .i64)) .unit))) (u := (.int .i64)) (fun (x : (Int × ((List Int) × Unit))) => List.getD (α := Int) x.2.1 0 0) Try.isAgg3 Try.sizeOf3 rfl (fld_snd (w := (.int .i64)) (v := (.pair (.arr 2 (.int .i64)) .unit)) (u := (.int .i64)) (f := fun (x : ((List Int) × Unit)) => List.getD (α := Int) x.1 0 0) rfl (fld_fst_arr (m := 2) (t := (.int .i64)) 0 rfl rfl)) rfl rfl (show i291.toNat < r3.1.length from by omega) rfl rfl) rfl ?_
                          refine an_read 12 (by kernel_rfl) (fun _ _ _ h => h) rfl (by kernel_rfl) trivial (r_mul rfl rfl) rfl ?_
                          refine an_read 13 (by kernel_rfl) (fun _ _ _ h => h) rfl (by kernel_rfl) trivial (r_move rfl) rfl ?_
                          refine an_read 14 (by kernel_rfl) (fun _ _ _ h => h) rfl (by kernel_rfl) trivial (r_move rfl) rfl ?_
                          refine an_read 15 (by kernel_rfl) (fun _ _ _ h => h) rfl (by kernel_rfl) trivial (r_idxAddr_os Try.underlying46 Try.sizeOf62 rfl rfl rfl (show 0 ≤ i291 from by omega) (show i291 < (r3.1.length : Int) from by omega)) rfl ?_
                          refine an_read 16 (by kernel_rfl) (fun _ _ _ h => h) rfl (by kernel_rfl) trivial (r_fieldAddr_eleme Try.underlying62 rfl Try.sizeOf30 rfl rfl rfl) rfl ?_
                          refine an_read 17 (by kernel_rfl) (fun _ _ _ h => h) rfl (by kernel_rfl) trivial (r_idxAddr_fld Try.underlying30 Try.sizeOf3 rfl rfl (by omega) (by omega) rfl) rfl ?_
                          refine an_read 18 (by kernel_rfl) (fun _ _ _ h => h) rfl (by kernel_rfl) trivial (r_load_fld (t := (.pair (.int .i64) (.pair (.arr 2 (.int .i64)) .unit))) (u := (.int .i64)) (fun (x : (Int × ((List Int) × Unit))) => List.getD (α := Int) x.2.1 1 0) Try.isAgg3 Try.sizeOf3 rfl (fld_snd (w := (.int .i64)) (v := (.pair (.arr 2 (.int .i64)) .unit)) (u := (.int .i64)) (f := fun (x : ((List Int) × Unit)) => List.getD (α := Int) x.1 1 0) rfl (fld_fst_arr (m := 2) (t := (.int .i64)) 1 rfl rfl)) rfl rfl (show i291.toNat < r3.1.length from by omega) rfl rfl) rfl ?_
                          refine an_read 19 (by kernel_rfl) (fun _ _ _ h => h) rfl (by kernel_rfl) trivial (r_build_arr (l := [(0, .tmp 418), (1, .tmp 424)]) (t := (.int .i64)) ([(IntKind.wrap .i64 (((r3.1.getD i291.toNat (0, ((List.replicate 2 0), ()))).1) * ((r3.1.getD i291.toNat (0, ((List.replicate 2 0), ()))).2.1.getD 0 0))), ((r3.1.getD i291.toNat (0, ((List.replicate 2 0), ()))).2.1.getD 1 0)] : (List Int)) rfl Try.underlying30 Try.zeroValue30 Try.sizeOf3 rfl rfl rfl rfl) rfl ?_
                          refine an_scall 20 (by kernel_rfl) (fun _ _ _ h => h) rfl (by kernel_rfl) trivial (scall (c_laws_rPlus (is_mk r421h)) rfl Try.func46 rfl rfl rfl rfl (fun σ => ⟨ad_ren rfl, ad_ren rfl, trivial⟩)) rfl ?_
                          refine an_tail rfl rfl ?_
                          refine ao_effS trivial (e_store rfl rfl rfl rfl Try.sizeOf30 rfl) ?_
                          refine ao_nil ?_
                          refine aq_then ?_
                          refine aw_seq ?_
                          refine aw_region ?_
                          refine ao_read trivial (r_move rfl) rfl ?_
                          refine ao_read trivial (r_move rfl) rfl ?_
                          refine ao_read trivial (r_idxAddr_os Try.underlying46 Try.sizeOf62 rfl rfl rfl (show 0 ≤ i291 from by omega) (show i291 < (r3.1.length : Int) from by omega)) rfl ?_
                          refine ao_read trivial (r_fieldAddr_eleme Try.underlying62 rfl Try.sizeOf3 rfl rfl rfl) rfl ?_
                          refine ao_read trivial (r_load_fld (t := (.pair (.int .i64) (.pair (.arr 2 (.int .i64)) .unit))) (u := (.int .i64)) (fun (x : (Int × ((List Int) × Unit))) => x.1) Try.isAgg3 Try.sizeOf3 rfl fld_fst rfl rfl (show i291.toNat < r3.1.length from by omega) rfl rfl) rfl ?_
                          refine ao_read trivial (r_eql rfl rfl) rfl ?_
                          refine ao_nil ?_
                          refine aq_then ?_
                          refine aw_cond rfl (fun hb422 => ?_) (fun hb422 => ?_)
                          · have q423 : (r3.1.getD i291.toNat (0, ((List.replicate 2 0), ()))).1 = 0 := d_t hb422
                            replace h := is_if (d_t hb422) h
                            refine aw_region ?_
                            refine ao_read trivial (r_move rfl) rfl ?_
                            refine ao_read trivial (r_move rfl) rfl ?_
                            refine ao_read trivial (r_idxAddr_os Try.underlying46 Try.sizeOf62 rfl rfl rfl (show 0 ≤ i291 from by omega) (show i291 < (r3.1.length : Int) from by omega)) rfl ?_
                            refine ao_read trivial (r_fieldAddr_eleme Try.underlying62 rfl Try.sizeOf30 rfl rfl rfl) rfl ?_
                            refine ao_read trivial (r_load_fld (t := (.pair (.int .i64) (.pair (.arr 2 (.int .i64)) .unit))) (u := (.arr 2 (.int .i64))) (fun (x : (Int × ((List Int) × Unit))) => x.2.1) Try.isAgg30 Try.sizeOf30 rfl (fld_snd (w := (.int .i64)) (v := (.pair (.arr 2 (.int .i64)) .unit)) (u := (.arr 2 (.int .i64))) (f := fun (x : ((List Int) × Unit)) => x.1) rfl fld_fst) rfl rfl (show i291.toNat < r3.1.length from by omega) rfl rfl) rfl ?_
                            refine ao_effS trivial (e_store rfl rfl rfl rfl Try.sizeOf30 rfl) ?_
                            refine ao_nil ?_
                            refine aq_in ?_
                            refine aq_then ?_
                            refine aw_region ?_
                            refine ao_read trivial (r_move rfl) rfl ?_
                            refine ao_read trivial (r_addI rfl rfl (wrap_id (by omega) (by omega))) rfl ?_
                            refine ao_read trivial (r_assign rfl) rfl ?_
                            refine ao_nil ?_
                            exact aq_again (AL.sub (sub_mk idn (by exact ⟨⟨_, rfl, ad_ren rfl⟩, ⟨_, rfl, ad_ren rfl⟩, ⟨_, rfl, ad_ren rfl⟩, ⟨_, rfl, ad_ren rfl⟩, ⟨_, rfl, ad_ren rfl⟩, ⟨_, rfl, ad_ren rfl⟩, ⟨_, rfl, ad_ren rfl⟩, ⟨_, rfl, ad_ren rfl⟩, ⟨_, rfl, ad_ren rfl⟩, trivial⟩) (by exact ⟨⟨_, rfl, rfl⟩, ⟨_, rfl, rfl⟩, ⟨_, rfl, ⟨rfl, trivial⟩⟩, ⟨_, rfl, ⟨rfl, trivial⟩⟩, ⟨_, rfl, ⟨rfl, trivial⟩⟩, ⟨_, rfl, ⟨rfl, trivial⟩⟩, ⟨_, rfl, ⟨rfl, trivial⟩⟩, trivial⟩) (by rfl) (nk rfl)) (ih292 d292 (i291 + 1) (r420, r421, (r3.1.getD i291.toNat (0, ((List.replicate 2 0), ()))).2.1) (by omega) ⟨by omega, (by (try simp only [List.length_set, List.length_append, List.length_cons, List.length_nil, List.length_replicate, List.length_take, List.length_drop]) <;> omega), (by (try simp only [List.length_set, List.length_append, List.length_cons, List.length_nil, List.length_replicate, List.length_take, List.length_drop]) <;> omega)⟩ h))
                          · have q424 : ¬ ((r3.1.getD i291.toNat (0, ((List.replicate 2 0), ()))).1 = 0) := d_f hb422
                            replace h := is_else (d_f hb422) h
                            refine aw_skip ?_
                            refine aq_in ?_
                            refine aq_then ?_
                            refine aw_region ?_
                            refine ao_read trivial (r_move rfl) rfl ?_
                            refine ao_read trivial (r_addI rfl rfl (wrap_id (by omega) (by omega))) rfl ?_
                            refine ao_read trivial (r_assign rfl) rfl ?_
                            refine ao_nil ?_
                            exact aq_again (AL.sub (sub_mk idn (by exact ⟨⟨_, rfl, ad_ren rfl⟩, ⟨_, rfl, ad_ren rfl⟩, ⟨_, rfl, ad_ren rfl⟩, ⟨_, rfl, ad_ren rfl⟩, ⟨_, rfl, ad_ren rfl⟩, ⟨_, rfl, ad_ren rfl⟩, ⟨_, rfl, ad_ren rfl⟩, ⟨_, rfl, ad_ren rfl⟩, ⟨_, rfl, ad_ren rfl⟩, trivial⟩) (by exact ⟨⟨_, rfl, rfl⟩, ⟨_, rfl, rfl⟩, ⟨_, rfl, ⟨rfl, trivial⟩⟩, ⟨_, rfl, ⟨rfl, trivial⟩⟩, ⟨_, rfl, ⟨rfl, trivial⟩⟩, ⟨_, rfl, ⟨rfl, trivial⟩⟩, ⟨_, rfl, ⟨rfl, trivial⟩⟩, trivial⟩) (by rfl) (nk rfl)) (ih292 d292 (i291 + 1) (r420, r421, s290.2.2) (by omega) ⟨by omega, (by (try simp only [List.length_set, List.length_append, List.length_cons, List.length_nil, List.length_replicate, List.length_take, List.length_drop]) <;> omega), (by (try simp only [List.length_set, List.length_append, List.length_cons, List.length_nil, List.length_replicate, List.length_take, List.length_drop]) <;> omega)⟩ h))
                      · have q296 := d_f hb294
                        obtain rfl : d292 = 0 := by omega
                        replace h := is_cnt0 h
                        refine aw_exit ?_
                        refine aq_then_exit ?_
                        refine aq_then_exit ?_
                        refine aq_in_exit ?_
                        refine aq_then ?_
                        refine aw_seq ?_
                        refine aw_region ?_
                        refine ao_read trivial (r_load_arr rfl Try.isAgg30 Try.sizeOf30 rfl rfl rfl) rfl ?_
                        refine ao_read trivial (r_build_arr (l := [(0, .const (.int .i64 1)), (1, .const (.int .i64 1))]) (t := (.int .i64)) ([1, 1] : (List Int)) rfl Try.underlying30 Try.zeroValue30 Try.sizeOf3 rfl rfl rfl rfl) rfl ?_
                        refine ao_read trivial (r_eq_ints Try.underlying30 Try.underlying3 Try.isAgg3 (info_size Try.sizeOf3) (by kernel_rfl) rfl rfl rfl) rfl ?_
                        refine ao_read trivial (r_move rfl) rfl ?_
                        refine ao_readG (x := .v (.arr 2 (.int .i64)) s290.2.1) rfl (GV.T rfl) (fun hg425 => r_load_arr rfl Try.isAgg30 Try.sizeOf30 rfl rfl rfl) rfl ?_
                        refine ao_readG (x := .v (.arr 2 (.int .i64)) r16.1) rfl (GV.T rfl) (fun hg426 => r_load_arr rfl Try.isAgg30 Try.sizeOf30 rfl rfl rfl) rfl ?_
                        refine ao_readG (x := .bool (decide (s290.2.1 = r16.1))) rfl (GV.T rfl) (fun hg427 => Reads.strip 442 rfl (hg427) (Reads.strip 443 rfl (hg427) (r_eq_ints Try.underlying30 Try.underlying3 Try.isAgg3 (info_size Try.sizeOf3) (by kernel_rfl) rfl rfl rfl))) rfl ?_
                        refine ao_read trivial (r_andB rfl rfl) rfl ?_
                        refine ao_read trivial (r_move rfl) rfl ?_
                        refine ao_readG (x := .v (.arr 2 (.int .i64)) s290.2.2) rfl (GV.T rfl) (fun hg428 => by
                              obtain ⟨q429, q430⟩ := and_t hg428
                              exact r_load_arr rfl Try.isAgg30 Try.sizeOf30 rfl rfl rfl) rfl ?_
                        refine ao_readG (x := .v (.arr 2 (.int .i64)) r35.1) rfl (GV.T rfl) (fun hg431 => by
                              obtain ⟨q432, q433⟩ := and_t hg431
                              exact r_load_arr rfl Try.isAgg30 Try.sizeOf30 rfl rfl rfl) rfl ?_
                        refine ao_readG (x := .bool (decide (s290.2.2 = r35.1))) rfl (GV.T rfl) (fun hg434 => by
                              obtain ⟨q435, q436⟩ := and_t hg434
                              exact Reads.strip 447 rfl (hg434) (Reads.strip 448 rfl (hg434) (r_eq_ints Try.underlying30 Try.underlying3 Try.isAgg3 (info_size Try.sizeOf3) (by kernel_rfl) rfl rfl rfl))) rfl ?_
                        refine ao_read trivial (r_andB rfl rfl) rfl ?_
                        refine ao_read trivial (r_assign rfl) rfl ?_
                        refine ao_nil ?_
                        refine aq_then ?_
                        refine aw_ret ?_
                        refine aq_ret ?_
                        obtain rfl := is_some h
                        exact aq_finx (l := [.tmp 2]) (xs := [.bool (((decide (s290.1 = [1, 1])) && (decide (s290.2.1 = r16.1))) && (decide (s290.2.2 = r35.1)))]) idn [.bool (((decide (s290.1 = [1, 1])) && (decide (s290.2.1 = r16.1))) && (decide (s290.2.2 = r35.1)))] [] rfl (by exact ⟨rfl, trivial⟩) (by exact ⟨ad_ren rfl, trivial⟩) (by exact trivial) rfl (nk rfl) rfl rfl ⟨rfl, rfl⟩
                  · refine aw_seq ?_
                    refine aw_region ?_
                    refine ao_read trivial (r_move rfl) rfl ?_
                    refine ao_nil ?_
                    refine aq_then ?_
                    refine aw_cond rfl (fun hb437 => ?_) (fun hb437 => ?_)
                    · replace h := is_if hb437 h
                      refine aw_seq ?_
                      refine aw_region ?_
                      refine ao_read trivial (r_assign rfl) rfl ?_
                      refine ao_nil ?_
                      refine aq_then ?_
                      refine aw_block ?_
                      refine aw_loop (AL.sub (sub_mk idn (by exact ⟨⟨_, rfl, ad_ren rfl⟩, ⟨_, rfl, ad_ren rfl⟩, ⟨_, rfl, ad_ren rfl⟩, ⟨_, rfl, ad_ren rfl⟩, ⟨_, rfl, ad_ren rfl⟩, ⟨_, rfl, ad_ren rfl⟩, ⟨_, rfl, ad_ren rfl⟩, ⟨_, rfl, ad_ren rfl⟩, ⟨_, rfl, ad_ren rfl⟩, ⟨_, rfl, ad_ren rfl⟩, ⟨_, rfl, ad_ren rfl⟩, trivial⟩) (by exact ⟨⟨_, rfl, rfl⟩, ⟨_, rfl, rfl⟩, ⟨_, rfl, ⟨rfl, trivial⟩⟩, ⟨_, rfl, ⟨rfl, trivial⟩⟩, ⟨_, rfl, ⟨rfl, trivial⟩⟩, ⟨_, rfl, ⟨rfl, trivial⟩⟩, trivial⟩) (by rfl) (nk rfl)) (al_whl (fun (s438 : Int) => [(5, .int .i64 r2.2.2), (6, .os 0), (7, .bool r3.2), (8, .os 1), (10, .ref 2 0), (14, .ref 3 0), (18, .ref 4 0), (19, .int .i64 r54.2), (20, .int .i64 r55.1), (21, .ref 5 0), (52, .int .i64 s438)]) (fun (s438 : Int) => [(0, .row (.pair (.int .i64) (.pair (.arr 2 (.int .i64)) .unit)) r3.1), (1, .row (.pair (.int .i64) (.pair (.arr 2 (.int .i64)) .unit)) r5.1), (2, .var [.arr (.int .i64) 2 r16.1]), (3, .var [.arr (.int .i64) 2 r35.1]), (4, .var [.arr (.int .i64) 6 r54.1]), (5, .var [.arr (.int .i64) 2 r55.2.1])]) (fun (s438 : Int) => 1 ≤ s438) h (by (try simp only [List.length_set, List.length_append, List.length_cons, List.length_nil, List.length_replicate, List.length_take, List.length_drop]) <;> omega) (fun d440 s438 hI h ih440 => ?_)))
                      replace h := is_whlS h
                      refine al_round ?_
                      refine aw_seq ?_
                      refine aw_seq ?_
                      refine aw_region ?_
                      refine ao_read trivial (r_move rfl) rfl ?_
                      refine ao_read trivial (r_leq rfl rfl) rfl ?_
                      refine ao_nil ?_
                      refine aq_then ?_
                      refine aw_cond rfl (fun hb442 => ?_) (fun hb442 => ?_)
                      · have q443 := d_t hb442
                        replace h := is_if (d_t hb442) h
                        refine aw_skip ?_
                        refine aq_then ?_
                        refine aw_seq ?_
                        refine aw_block ?_
                        refine aw_seq ?_
                        refine aw_region ?_
                        refine ao_read trivial (r_load_arr rfl Try.isAgg43 Try.sizeOf43 rfl rfl rfl) rfl ?_
                        refine ao_read trivial (r_move rfl) rfl ?_
                        refine ao_read trivial (r_move rfl) rfl ?_
                        obtain ⟨r445, r445h, h⟩ := is_bind h
                        refine ao_scall trivial (scall (c_impl_HoldMean (is_mk r445h)) rfl Try.func33 rfl rfl rfl rfl (fun σ => ⟨ad_ren rfl, ad_ren rfl, ad_ren rfl, trivial⟩)) rfl ?_
                        refine ao_read trivial (r_move rfl) rfl ?_
                        refine ao_read trivial (r_extract rfl rfl) rfl ?_
                        refine ao_read trivial (r_extract rfl rfl) rfl ?_
                        refine ao_eff trivial (e_alloc 6 (y := .v (.arr 2 (.int .i64)) ((List.replicate 2 0) : (List Int))) Try.zeroValue30 (fun ρ h M => ra_zero_arr (t := (.int .i64)) rfl) rfl rfl rfl rfl rfl) rfl ?_
                        refine ao_effS trivial (e_store rfl rfl rfl rfl Try.sizeOf30 rfl) ?_
                        refine ao_read trivial (r_assign rfl) rfl ?_
                        refine ao_nil ?_
                        refine aq_then ?_
                        refine aw_seq ?_
                        refine aw_region ?_
                        refine ao_read trivial (r_move rfl) rfl ?_
                        refine ao_read trivial (r_not rfl) rfl ?_
                        refine ao_read trivial (r_move rfl) rfl ?_
                        refine ao_readG (x := .elem 6 0 1 0) rfl (GV.F rfl) (fun hg446 => r_idxAddr_arr (i := 0) Try.underlying30 Try.sizeOf3 rfl rfl (show 0 ≤ 0 from by omega) (show 0 < (2 : Int) from by omega)) rfl ?_
                        refine ao_readG (x := .int .i64 (r445.1.getD 0 0)) rfl (GV.F rfl) (fun hg447 => Reads.strip 322 rfl (hg447) (r_load_elema_int Try.isAgg3 Try.sizeOf3 rfl rfl rfl (show 0 < 2 from by omega))) rfl ?_
                        refine ao_readG (x := .elem 5 0 1 1) rfl (GV.F rfl) (fun hg448 => r_idxAddr_arr (i := 1) Try.underlying30 Try.sizeOf3 rfl rfl (show 0 ≤ 1 from by omega) (show 1 < (2 : Int) from by omega)) rfl ?_
                        refine ao_readG (x := .int .i64 (r55.2.1.getD 1 0)) rfl (GV.F rfl) (fun hg449 => Reads.strip 324 rfl (hg449) (r_load_elema_int Try.isAgg3 Try.sizeOf3 rfl rfl rfl (show 1 < 2 from by omega))) rfl ?_
                        refine ao_readG (x := .int .i64 (IntKind.wrap .i64 ((r445.1.getD 0 0) * (r55.2.1.getD 1 0)))) rfl (GV.F rfl) (fun hg450 => Reads.strip 323 rfl (hg450) (Reads.strip 325 rfl (hg450) (r_mul rfl rfl))) rfl ?_
                        refine ao_readG (x := .elem 5 0 1 0) rfl (GV.F rfl) (fun hg451 => r_idxAddr_arr (i := 0) Try.underlying30 Try.sizeOf3 rfl rfl (show 0 ≤ 0 from by omega) (show 0 < (2 : Int) from by omega)) rfl ?_
                        refine ao_readG (x := .int .i64 (r55.2.1.getD 0 0)) rfl (GV.F rfl) (fun hg452 => Reads.strip 327 rfl (hg452) (r_load_elema_int Try.isAgg3 Try.sizeOf3 rfl rfl rfl (show 0 < 2 from by omega))) rfl ?_
                        refine ao_readG (x := .elem 6 0 1 1) rfl (GV.F rfl) (fun hg453 => r_idxAddr_arr (i := 1) Try.underlying30 Try.sizeOf3 rfl rfl (show 0 ≤ 1 from by omega) (show 1 < (2 : Int) from by omega)) rfl ?_
                        refine ao_readG (x := .int .i64 (r445.1.getD 1 0)) rfl (GV.F rfl) (fun hg454 => Reads.strip 329 rfl (hg454) (r_load_elema_int Try.isAgg3 Try.sizeOf3 rfl rfl rfl (show 1 < 2 from by omega))) rfl ?_
                        refine ao_readG (x := .int .i64 (IntKind.wrap .i64 ((r55.2.1.getD 0 0) * (r445.1.getD 1 0)))) rfl (GV.F rfl) (fun hg455 => Reads.strip 328 rfl (hg455) (Reads.strip 330 rfl (hg455) (r_mul rfl rfl))) rfl ?_
                        refine ao_readG (x := .bool (decide ((IntKind.wrap .i64 ((r55.2.1.getD 0 0) * (r445.1.getD 1 0))) < (IntKind.wrap .i64 ((r445.1.getD 0 0) * (r55.2.1.getD 1 0)))))) rfl (GV.F rfl) (fun hg456 => Reads.strip 326 rfl (hg456) (Reads.strip 331 rfl (hg456) (r_gtr rfl rfl))) rfl ?_
                        refine ao_read trivial (r_orB rfl rfl) rfl ?_
                        refine ao_read trivial (r_move rfl) rfl ?_
                        refine ao_readG (x := .int .i64 s438) rfl (GV.F rfl) (fun hg457 => by
                              obtain ⟨q458, q459⟩ := or_f (not_t hg457)
                              have q460 : ¬ ((IntKind.wrap .i64 ((r55.2.1.getD 0 0) * (r445.1.getD 1 0))) < (IntKind.wrap .i64 ((r445.1.getD 0 0) * (r55.2.1.getD 1 0)))) := d_f q459
                              exact r_move rfl) rfl ?_
                        refine ao_readG (x := .int .i64 r55.1) rfl (GV.F rfl) (fun hg461 => by
                              obtain ⟨q462, q463⟩ := or_f (not_t hg461)
                              have q464 : ¬ ((IntKind.wrap .i64 ((r55.2.1.getD 0 0) * (r445.1.getD 1 0))) < (IntKind.wrap .i64 ((r445.1.getD 0 0) * (r55.2.1.getD 1 0)))) := d_f q463
                              exact r_move rfl) rfl ?_
                        refine ao_readG (x := .bool (decide (s438 = r55.1))) rfl (GV.F rfl) (fun hg465 => by
                              obtain ⟨q466, q467⟩ := or_f (not_t hg465)
                              have q468 : ¬ ((IntKind.wrap .i64 ((r55.2.1.getD 0 0) * (r445.1.getD 1 0))) < (IntKind.wrap .i64 ((r445.1.getD 0 0) * (r55.2.1.getD 1 0)))) := d_f q467
                              exact Reads.strip 335 rfl (hg465) (Reads.strip 336 rfl (hg465) (r_eql rfl rfl))) rfl ?_
                        refine ao_readG (x := .bool (decide (s438 = r55.1))) rfl (GV.F rfl) (fun hg469 => by
                              obtain ⟨q470, q471⟩ := or_f (not_t hg469)
                              have q472 : ¬ ((IntKind.wrap .i64 ((r55.2.1.getD 0 0) * (r445.1.getD 1 0))) < (IntKind.wrap .i64 ((r445.1.getD 0 0) * (r55.2.1.getD 1 0)))) := d_f q471
                              exact Reads.strip 337 rfl (hg469) (r_move rfl)) rfl ?_
                        refine ao_readG (x := .v (.arr 2 (.int .i64)) r445.1) rfl (GV.gT rfl) (fun hg473 => by
                              obtain ⟨q474, q475⟩ := and_t hg473
                              obtain ⟨q476, q477⟩ := or_f (not_t q474)
                              have q478 : ¬ ((IntKind.wrap .i64 ((r55.2.1.getD 0 0) * (r445.1.getD 1 0))) < (IntKind.wrap .i64 ((r445.1.getD 0 0) * (r55.2.1.getD 1 0)))) := d_f q477
                              have q479 := d_t q475
                              exact r_load_arr rfl Try.isAgg30 Try.sizeOf30 rfl rfl rfl) rfl ?_
                        refine ao_readG (x := .v (.arr 2 (.int .i64)) r55.2.1) rfl (GV.gT rfl) (fun hg480 => by
                              obtain ⟨q481, q482⟩ := and_t hg480
                              obtain ⟨q483, q484⟩ := or_f (not_t q481)
                              have q485 : ¬ ((IntKind.wrap .i64 ((r55.2.1.getD 0 0) * (r445.1.getD 1 0))) < (IntKind.wrap .i64 ((r445.1.getD 0 0) * (r55.2.1.getD 1 0)))) := d_f q484
                              have q486 := d_t q482
                              exact r_load_arr rfl Try.isAgg30 Try.sizeOf30 rfl rfl rfl) rfl ?_
                        refine ao_readG (x := .bool (!(decide (r445.1 = r55.2.1)))) rfl (GV.gT rfl) (fun hg487 => by
                              obtain ⟨q488, q489⟩ := and_t hg487
                              obtain ⟨q490, q491⟩ := or_f (not_t q488)
                              have q492 : ¬ ((IntKind.wrap .i64 ((r55.2.1.getD 0 0) * (r445.1.getD 1 0))) < (IntKind.wrap .i64 ((r445.1.getD 0 0) * (r55.2.1.getD 1 0)))) := d_f q491
                              have q493 := d_t q489
                              exact Reads.strip 339 rfl (hg487) (Reads.strip 340 rfl (hg487) (r_eq_ints Try.underlying30 Try.underlying3 Try.isAgg3 (info_size Try.sizeOf3) (by kernel_rfl) rfl rfl rfl))) rfl ?_
                        refine ao_readG (x := .bool ((decide (s438 = r55.1)) && (!(decide (r445.1 = r55.2.1))))) rfl (GV.F rfl) (fun hg494 => by
                              obtain ⟨q495, q496⟩ := or_f (not_t hg494)
                              have q497 : ¬ ((IntKind.wrap .i64 ((r55.2.1.getD 0 0) * (r445.1.getD 1 0))) < (IntKind.wrap .i64 ((r445.1.getD 0 0) * (r55.2.1.getD 1 0)))) := d_f q496
                              exact Reads.strip 338 rfl (hg494) (r_andBg rfl rfl (tr_and (hg494)))) rfl ?_
                        refine ao_read trivial (r_orB rfl rfl) rfl ?_
                        refine ao_nil ?_
                        refine aq_then ?_
                        refine aw_cond rfl (fun hb498 => ?_) (fun hb498 => ?_)
                        · replace h := is_if hb498 h
                          refine aw_seq ?_
                          refine aw_region ?_
                          refine ao_read trivial (r_assign rfl) rfl ?_
                          refine ao_nil ?_
                          refine aq_then ?_
                          refine aw_ret ?_
                          refine aq_in_ret ?_
                          refine aq_then_ret ?_
                          refine aq_then_ret ?_
                          refine aq_in_ret ?_
                          refine aq_then_ret ?_
                          refine aq_ret ?_
                          obtain rfl := is_some h
                          exact aq_finx (l := [.tmp 2]) (xs := [.bool false]) idn [.bool false] [] rfl (by exact ⟨rfl, trivial⟩) (by exact ⟨ad_ren rfl, trivial⟩) (by exact trivial) rfl (nk rfl) rfl rfl ⟨rfl, rfl⟩
                        · obtain ⟨q499, q500⟩ := or_f hb498
                          obtain ⟨q501, q502⟩ := or_f q499
                          have q503 : ¬ ((IntKind.wrap .i64 ((r55.2.1.getD 0 0) * (r445.1.getD 1 0))) < (IntKind.wrap .i64 ((r445.1.getD 0 0) * (r55.2.1.getD 1 0)))) := d_f q502
                          replace h := is_else (ne_t hb498) h
                          refine aw_skip ?_
                          refine aq_in ?_
                          refine aq_then ?_
                          refine aw_region ?_
                          refine ao_read trivial (r_move rfl) rfl ?_
                          refine ao_read trivial (r_addI rfl rfl (wrap_id (by omega) (by omega))) rfl ?_
                          refine ao_read trivial (r_assign rfl) rfl ?_
                          refine ao_nil ?_
                          exact aq_again (AL.sub (sub_mk idn (by exact ⟨⟨_, rfl, ad_ren rfl⟩, ⟨_, rfl, ad_ren rfl⟩, ⟨_, rfl, ad_ren rfl⟩, ⟨_, rfl, ad_ren rfl⟩, ⟨_, rfl, ad_ren rfl⟩, ⟨_, rfl, ad_ren rfl⟩, ⟨_, rfl, ad_ren rfl⟩, ⟨_, rfl, ad_ren rfl⟩, ⟨_, rfl, ad_ren rfl⟩, ⟨_, rfl, ad_ren rfl⟩, ⟨_, rfl, ad_ren rfl⟩, trivial⟩) (by exact ⟨⟨_, rfl, rfl⟩, ⟨_, rfl, rfl⟩, ⟨_, rfl, ⟨rfl, trivial⟩⟩, ⟨_, rfl, ⟨rfl, trivial⟩⟩, ⟨_, rfl, ⟨rfl, trivial⟩⟩, ⟨_, rfl, ⟨rfl, trivial⟩⟩, trivial⟩) (by rfl) (nk rfl)) (ih440 (s438 + 1) (by (try simp only [List.length_set, List.length_append, List.length_cons, List.length_nil, List.length_replicate, List.length_take, List.length_drop]) <;> omega) h))
                      · have q444 := d_f hb442
                        replace h := is_else (d_f hb442) h
                        refine aw_exit ?_
                        refine aq_then_exit ?_
                        refine aq_then_exit ?_
                        refine aq_in_exit ?_
                        exact aq_then (AW.sub (sub_mk idn (by exact ⟨⟨_, rfl, ad_ren rfl⟩, ⟨_, rfl, ad_ren rfl⟩, ⟨_, rfl, ad_ren rfl⟩, ⟨_, rfl, ad_ren rfl⟩, ⟨_, rfl, ad_ren rfl⟩, ⟨_, rfl, ad_ren rfl⟩, trivial⟩) (by exact ⟨⟨_, rfl, rfl⟩, ⟨_, rfl, rfl⟩, ⟨_, rfl, ⟨rfl, trivial⟩⟩, ⟨_, rfl, ⟨rfl, trivial⟩⟩, trivial⟩) (by rfl) (nk rfl)) (j288 () trivial h))
                    · replace h := is_else (ne_t hb437) h
                      refine aw_skip ?_
                      exact aq_then (AW.sub (sub_mk idn (by exact ⟨⟨_, rfl, ad_ren rfl⟩, ⟨_, rfl, ad_ren rfl⟩, ⟨_, rfl, ad_ren rfl⟩, ⟨_, rfl, ad_ren rfl⟩, ⟨_, rfl, ad_ren rfl⟩, ⟨_, rfl, ad_ren rfl⟩, trivial⟩) (by exact ⟨⟨_, rfl, rfl⟩, ⟨_, rfl, rfl⟩, ⟨_, rfl, ⟨rfl, trivial⟩⟩, ⟨_, rfl, ⟨rfl, trivial⟩⟩, trivial⟩) (by rfl) (nk rfl)) (j288 () trivial h))
                · refine aw_seq ?_
                  refine aw_region ?_
                  refine ao_read trivial (r_move rfl) rfl ?_
                  refine ao_read trivial (r_move rfl) rfl ?_
                  refine ao_readG (x := .bool r83.2.2.1) rfl (GV.T rfl) (fun hg504 => r_move rfl) rfl ?_
                  refine ao_read trivial (r_andB rfl rfl) rfl ?_
                  refine ao_nil ?_
                  refine aq_then ?_
                  refine aw_cond rfl (fun hb505 => ?_) (fun hb505 => ?_)
                  · obtain ⟨q506, q507⟩ := and_t hb505
                    replace h := is_if hb505 h
                    refine aw_seq ?_
                    refine aw_region ?_
                    refine ao_read trivial (r_load_arr rfl Try.isAgg43 Try.sizeOf43 rfl rfl rfl) rfl ?_
                    refine ao_read trivial (r_move rfl) rfl ?_
                    refine ao_read trivial (r_move rfl) rfl ?_
                    obtain ⟨r508, r508h, h⟩ := is_bind h
                    refine ao_call [] 15 trivial (c_impl_HoldEnds (is_mk r508h)) Try.func31 rfl rfl rfl rfl ⟨ad_ren rfl, ad_ren rfl, ad_ren rfl, trivial⟩ trivial rfl rfl rfl rfl rfl rfl rfl (fun r' H' hr => ?_)
                    obtain ⟨rfl, rfl⟩ := hr
                    refine ao_norm (y := .tup [.os 15, .bool r508.2]) (H' := [(14, .var [.arr (.int .i64) 6 r136.2.1]), (13, .var [.arr (.int .i64) 6 r136.1]), (11, .var [.arr (.int .i64) 6 r81.1]), (9, .var [.arr (.int .i64) 2 r56.2.1]), (8, .var [.arr (.int .i64) 2 r55.2.1]), (7, .var [.arr (.int .i64) 6 r54.1]), (6, .var [.arr (.int .i64) 2 r36.1]), (5, .var [.arr (.int .i64) 2 r35.1]), (4, .var [.arr (.int .i64) 2 r17.1]), (3, .var [.arr (.int .i64) 2 r16.1]), (0, .var [.arr (.int .i64) 6 r2.1]), (1, .row (.pair (.int .i64) (.pair (.arr 2 (.int .i64)) .unit)) r3.1), (2, .row (.pair (.int .i64) (.pair (.arr 2 (.int .i64)) .unit)) r5.1), (10, .row (.int .i64) r81.2.2.2), (12, .row (.int .i64) r136.2.2.2), (15, .row (.pair (.int .i64) (.pair (.arr 2 (.int .i64)) .unit)) r508.1)]) rfl rfl ?_
                    refine row_len_o 15 (r508.1.length : Int) rfl rfl (fun hr509 => ?_)
                    refine ao_read trivial (r_move rfl) rfl ?_
                    refine ao_read trivial (r_extract rfl rfl) rfl ?_
                    refine ao_read trivial (r_extract rfl rfl) rfl ?_
                    refine ao_read trivial (r_assign rfl) rfl ?_
                    refine ao_read trivial (r_assign rfl) rfl ?_
                    refine ao_nil ?_
                    refine aq_then ?_
                    refine aw_seq ?_
                    refine aw_region ?_
                    refine ao_read trivial (r_assign rfl) rfl ?_
                    refine ao_nil ?_
                    refine aq_then ?_
                    refine aw_seq ?_
                    refine aw_seq ?_
                    refine aw_region ?_
                    refine ao_read trivial (r_assign rfl) rfl ?_
                    refine ao_nil ?_
                    refine aq_then ?_
                    refine aw_block ?_
                    refine aw_loop (AL.sub (fr' := [(5, .int .i64 r2.2.2), (6, .os 0), (7, .bool r3.2), (8, .os 1), (10, .ref 2 0), (14, .ref 3 0), (18, .ref 4 0), (19, .int .i64 r54.2), (20, .int .i64 r55.1), (21, .ref 5 0), (22, .bool r55.2.2), (30, .int .i64 r83.1), (48, .os 6), (49, .bool r508.2), (50, .bool false), (51, .int .i64 0)]) (H' := [(0, .row (.pair (.int .i64) (.pair (.arr 2 (.int .i64)) .unit)) r3.1), (1, .row (.pair (.int .i64) (.pair (.arr 2 (.int .i64)) .unit)) r5.1), (2, .var [.arr (.int .i64) 2 r16.1]), (3, .var [.arr (.int .i64) 2 r35.1]), (4, .var [.arr (.int .i64) 6 r54.1]), (5, .var [.arr (.int .i64) 2 r55.2.1]), (6, .row (.pair (.int .i64) (.pair (.arr 2 (.int .i64)) .unit)) r508.1)]) (sub_mk (rn [(0, 1), (1, 2), (2, 3), (3, 5), (4, 7), (5, 8), (6, 15)]) (by exact ⟨⟨_, rfl, ad_ren rfl⟩, ⟨_, rfl, ad_ren rfl⟩, ⟨_, rfl, ad_ren rfl⟩, ⟨_, rfl, ad_ren rfl⟩, ⟨_, rfl, ad_ren rfl⟩, ⟨_, rfl, ad_ren rfl⟩, ⟨_, rfl, ad_ren rfl⟩, ⟨_, rfl, ad_ren rfl⟩, ⟨_, rfl, ad_ren rfl⟩, ⟨_, rfl, ad_ren rfl⟩, ⟨_, rfl, ad_ren rfl⟩, ⟨_, rfl, ad_ren rfl⟩, ⟨_, rfl, ad_ren rfl⟩, ⟨_, rfl, ad_ren rfl⟩, ⟨_, rfl, ad_ren rfl⟩, ⟨_, rfl, ad_ren rfl⟩, trivial⟩) (by exact ⟨⟨_, rfl, rfl⟩, ⟨_, rfl, rfl⟩, ⟨_, rfl, ⟨rfl, trivial⟩⟩, ⟨_, rfl, ⟨rfl, trivial⟩⟩, ⟨_, rfl, ⟨rfl, trivial⟩⟩, ⟨_, rfl, ⟨rfl, trivial⟩⟩, ⟨_, rfl, rfl⟩, trivial⟩) (by rfl) (nk rfl)) (al_cnt (fun i511 (s510 : Bool) => [(5, .int .i64 r2.2.2), (6, .os 0), (7, .bool r3.2), (8, .os 1), (10, .ref 2 0), (14, .ref 3 0), (18, .ref 4 0), (19, .int .i64 r54.2), (20, .int .i64 r55.1), (21, .ref 5 0), (22, .bool r55.2.2), (30, .int .i64 r83.1), (48, .os 6), (49, .bool r508.2), (50, .bool s510), (51, .int .i64 i511)]) (fun i511 (s510 : Bool) => [(0, .row (.pair (.int .i64) (.pair (.arr 2 (.int .i64)) .unit)) r3.1), (1, .row (.pair (.int .i64) (.pair (.arr 2 (.int .i64)) .unit)) r5.1), (2, .var [.arr (.int .i64) 2 r16.1]), (3, .var [.arr (.int .i64) 2 r35.1]), (4, .var [.arr (.int .i64) 6 r54.1]), (5, .var [.arr (.int .i64) 2 r55.2.1]), (6, .row (.pair (.int .i64) (.pair (.arr 2 (.int .i64)) .unit)) r508.1)]) (fun d i511 (s510 : Bool) => d = Int.toNat ((r508.1.length : Int) - i511) ∧ 0 ≤ i511 ∧ i511 ≤ (r508.1.length : Int)) h ⟨rfl, (by (try simp only [List.length_set, List.length_append, List.length_cons, List.length_nil, List.length_replicate, List.length_take, List.length_drop]) <;> omega), (by (try simp only [List.length_set, List.length_append, List.length_cons, List.length_nil, List.length_replicate, List.length_take, List.length_drop]) <;> omega)⟩ (fun d512 i511 s510 hI h ih512 => ?_)))
                    obtain ⟨hd, _, _⟩ := hI
                    refine al_round ?_
                    refine aw_seq ?_
                    refine aw_seq ?_
                    refine aw_region ?_
                    refine ao_read trivial (r_move rfl) rfl ?_
                    refine ao_read trivial (r_move rfl) rfl ?_
                    refine ao_read trivial (r_len_osm (r508.1.length : Int) Try.underlying46 rfl rfl rfl) rfl ?_
                    refine ao_read trivial (r_lss rfl rfl) rfl ?_
                    refine ao_nil ?_
                    refine aq_then ?_
                    refine aw_cond rfl (fun hb514 => ?_) (fun hb514 => ?_)
                    · have q515 := d_t hb514
                      obtain ⟨d512, rfl⟩ : ∃ e, d512 = e + 1 := ⟨d512 - 1, by omega⟩
                      replace h := is_cntS h
                      refine aw_skip ?_
                      refine aq_then ?_
                      refine aw_seq ?_
                      refine aw_block ?_
                      refine aw_region ?_
                      refine ao_read trivial (r_move rfl) rfl ?_
                      refine ao_read trivial (r_move rfl) rfl ?_
                      refine ao_readG (x := .os 6) rfl (GV.F rfl) (fun hg517 => r_move rfl) rfl ?_
                      refine ao_readG (x := .int .i64 i511) rfl (GV.F rfl) (fun hg518 => r_move rfl) rfl ?_
                      refine ao_readG (x := .elem 6 0 3 i511.toNat) rfl (GV.F rfl) (fun hg519 => Reads.strip 293 rfl (hg519) (Reads.strip 294 rfl (hg519) (r_idxAddr_os Try.underlying46 Try.sizeOf62 rfl rfl rfl (show 0 ≤ i511 from by omega) (show i511 < (r508.1.length : Int) from by omega)))) rfl ?_
                      refine ao_readG (x := .elem2 6 0 3 i511.toNat 1 0) rfl (GV.F rfl) (fun hg520 => Reads.strip 295 rfl (hg520) (r_fieldAddr_eleme Try.underlying62 rfl Try.sizeOf3 rfl rfl rfl)) rfl ?_
                      refine ao_readG (x := .int .i64 ((r508.1.getD i511.toNat (0, ((List.replicate 2 0), ()))).1)) rfl (GV.F rfl) (fun hg521 => Reads.strip 296 rfl (hg521) (r_load_fld (t := (.pair (.int .i64) (.pair (.arr 2 (.int .i64)) .unit))) (u := (.int .i64)) (fun (x : (Int × ((List Int) × Unit))) => x.1) Try.isAgg3 Try.sizeOf3 rfl fld_fst rfl rfl (show i511.toNat < r508.1.length from by omega) rfl rfl)) rfl ?_
                      refine ao_readG (x := .int .i64 r83.1) rfl (GV.F rfl) (fun hg522 => r_move rfl) rfl ?_
                      refine ao_readG (x := .bool (decide ((r508.1.getD i511.toNat (0, ((List.replicate 2 0), ()))).1 = r83.1))) rfl (GV.F rfl) (fun hg523 => Reads.strip 297 rfl (hg523) (Reads.strip 298 rfl (hg523) (r_eql rfl rfl))) rfl ?_
                      refine ao_read trivial (r_orB rfl rfl) rfl ?_
                      refine ao_read trivial (r_assign rfl) rfl ?_
                      refine ao_nil ?_
                      refine aq_in ?_
                      refine aq_then ?_
                      refine aw_region ?_
                      refine ao_read trivial (r_move rfl) rfl ?_
                      refine ao_read trivial (r_addI rfl rfl (wrap_id (by omega) (by omega))) rfl ?_
                      refine ao_read trivial (r_assign rfl) rfl ?_
                      refine ao_nil ?_
                      exact aq_again (AL.sub (sub_mk idn (by exact ⟨⟨_, rfl, ad_ren rfl⟩, ⟨_, rfl, ad_ren rfl⟩, ⟨_, rfl, ad_ren rfl⟩, ⟨_, rfl, ad_ren rfl⟩, ⟨_, rfl, ad_ren rfl⟩, ⟨_, rfl, ad_ren rfl⟩, ⟨_, rfl, ad_ren rfl⟩, ⟨_, rfl, ad_ren rfl⟩, ⟨_, rfl, ad_ren rfl⟩, ⟨_, rfl, ad_ren rfl⟩, ⟨_, rfl, ad_ren rfl⟩, ⟨_, rfl, ad_ren rfl⟩, ⟨_, rfl, ad_ren rfl⟩, ⟨_, rfl, ad_ren rfl⟩, ⟨_, rfl, ad_ren rfl⟩, ⟨_, rfl, ad_ren rfl⟩, trivial⟩) (by exact ⟨⟨_, rfl, rfl⟩, ⟨_, rfl, rfl⟩, ⟨_, rfl, ⟨rfl, trivial⟩⟩, ⟨_, rfl, ⟨rfl, trivial⟩⟩, ⟨_, rfl, ⟨rfl, trivial⟩⟩, ⟨_, rfl, ⟨rfl, trivial⟩⟩, ⟨_, rfl, rfl⟩, trivial⟩) (by rfl) (nk rfl)) (ih512 d512 (i511 + 1) (s510 || (decide ((r508.1.getD i511.toNat (0, ((List.replicate 2 0), ()))).1 = r83.1))) (by omega) ⟨by omega, (by (try simp only [List.length_set, List.length_append, List.length_cons, List.length_nil, List.length_replicate, List.length_take, List.length_drop]) <;> omega), (by (try simp only [List.length_set, List.length_append, List.length_cons, List.length_nil, List.length_replicate, List.length_take, List.length_drop]) <;> omega)⟩ h))
                    · have q516 := d_f hb514
                      obtain rfl : d512 = 0 := by omega
                      replace h := is_cnt0 h
                      refine aw_exit ?_
                      refine aq_then_exit ?_
                      refine aq_then_exit ?_
                      refine aq_in_exit ?_
                      refine aq_then ?_
                      refine aw_seq ?_
                      refine aw_region ?_
                      refine ao_read trivial (r_move rfl) rfl ?_
                      refine ao_read trivial (r_not rfl) rfl ?_
                      refine ao_read trivial (r_move rfl) rfl ?_
                      refine ao_readG (x := .bool s510) rfl (GV.F rfl) (fun hg524 => r_move rfl) rfl ?_
                      refine ao_readG (x := .bool (!s510)) rfl (GV.F rfl) (fun hg525 => Reads.strip 304 rfl (hg525) (r_not rfl)) rfl ?_
                      refine ao_read trivial (r_orB rfl rfl) rfl ?_
                      refine ao_nil ?_
                      refine aq_then ?_
                      refine aw_cond rfl (fun hb526 => ?_) (fun hb526 => ?_)
                      · replace h := is_if hb526 h
                        refine aw_seq ?_
                        refine aw_region ?_
                        refine ao_read trivial (r_assign rfl) rfl ?_
                        refine ao_nil ?_
                        refine aq_then ?_
                        refine aw_ret ?_
                        refine aq_then_ret ?_
                        refine aq_ret ?_
                        obtain rfl := is_some h
                        exact aq_finx (l := [.tmp 2]) (xs := [.bool false]) idn [.bool false] [] rfl (by exact ⟨rfl, trivial⟩) (by exact ⟨ad_ren rfl, trivial⟩) (by exact trivial) rfl (nk rfl) rfl rfl ⟨rfl, rfl⟩
                      · obtain ⟨q527, q528⟩ := or_f hb526
                        replace h := is_else (ne_t hb526) h
                        refine aw_skip ?_
                        exact aq_then (AW.sub (sub_mk idn (by exact ⟨⟨_, rfl, ad_ren rfl⟩, ⟨_, rfl, ad_ren rfl⟩, ⟨_, rfl, ad_ren rfl⟩, ⟨_, rfl, ad_ren rfl⟩, ⟨_, rfl, ad_ren rfl⟩, ⟨_, rfl, ad_ren rfl⟩, ⟨_, rfl, ad_ren rfl⟩, ⟨_, rfl, ad_ren rfl⟩, ⟨_, rfl, ad_ren rfl⟩, ⟨_, rfl, ad_ren rfl⟩, ⟨_, rfl, ad_ren rfl⟩, trivial⟩) (by exact ⟨⟨_, rfl, rfl⟩, ⟨_, rfl, rfl⟩, ⟨_, rfl, ⟨rfl, trivial⟩⟩, ⟨_, rfl, ⟨rfl, trivial⟩⟩, ⟨_, rfl, ⟨rfl, trivial⟩⟩, ⟨_, rfl, ⟨rfl, trivial⟩⟩, trivial⟩) (by rfl) (nk rfl)) (j285 () trivial h))
                  · replace h := is_else (ne_t hb505) h
                    refine aw_skip ?_
                    exact aq_then (AW.sub (sub_mk (rn [(0, 1), (1, 2), (2, 3), (3, 5), (4, 7), (5, 8)]) (by exact ⟨⟨_, rfl, ad_ren rfl⟩, ⟨_, rfl, ad_ren rfl⟩, ⟨_, rfl, ad_ren rfl⟩, ⟨_, rfl, ad_ren rfl⟩, ⟨_, rfl, ad_ren rfl⟩, ⟨_, rfl, ad_ren rfl⟩, ⟨_, rfl, ad_ren rfl⟩, ⟨_, rfl, ad_ren rfl⟩, ⟨_, rfl, ad_ren rfl⟩, ⟨_, rfl, ad_ren rfl⟩, ⟨_, rfl, ad_ren rfl⟩, trivial⟩) (by exact ⟨⟨_, rfl, rfl⟩, ⟨_, rfl, rfl⟩, ⟨_, rfl, ⟨rfl, trivial⟩⟩, ⟨_, rfl, ⟨rfl, trivial⟩⟩, ⟨_, rfl, ⟨rfl, trivial⟩⟩, ⟨_, rfl, ⟨rfl, trivial⟩⟩, trivial⟩) (by rfl) (nk rfl)) (j285 () trivial h))
end Go.GA
