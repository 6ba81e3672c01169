/- Walks: what the Go functions compute, by the printed lines below. -/
import Derived.Test.YtbaeipeeacpobaaC10wb
namespace Go.GA
open Go Go.Proofs
set_option maxRecDepth 100000
set_option maxHeartbeats 2000000
set_option linter.unusedVariables false
set_option linter.unusedSimpArgs false
theorem c_laws_toIntS {x0 : (List Int)} {r : (List Int)} (h : Is (p_laws_toIntS x0) (some r)) :
    ACalls Try.prog 25 [.v (.slice (.int .i64)) x0] [] (fun r' H' => r' = .os 0 ∧ H' = [(0, .row (.int .i64) r)]) := by
  unfold p_laws_toIntS at h
  refine ac_enter ⟨22, 0⟩ Try.func25 rfl rfl rfl rfl rfl (fun Γ => ?_)
  refine sl_len_m 0 (x0.length : Int) rfl rfl (fun hl0 => ?_)
  refine aw_seq ?_
  refine aw_region ?_
  refine ao_read trivial (r_assign rfl) rfl ?_
  refine ao_nil ?_
  refine aq_then ?_
  refine aw_seq ?_
  refine aw_region ?_
  refine ao_read trivial (r_move rfl) rfl ?_
  refine ao_read trivial (r_len_vm (x0.length : Int) Try.underlying29 rfl rfl) rfl ?_
  obtain ⟨g1, h⟩ := is_guard h
  refine ao_eff trivial (e_makeSlice 0 (t := (.int .i64)) Try.underlying29 (rfl : Try.prog.info? 3 = some _) rfl rfl rfl rfl rfl rfl (by omega) (by omega) rfl rfl) rfl ?_
  refine ao_read trivial (r_assign rfl) rfl ?_
  refine ao_nil ?_
  refine aq_then ?_
  refine aw_seq ?_
  refine aw_seq ?_
  refine aw_region ?_
  refine ao_read trivial (r_assign rfl) rfl ?_
  refine ao_nil ?_
  refine aq_then ?_
  refine aw_block ?_
  refine aw_loop (AL.sub (fr' := [(0, .v (.slice (.int .i64)) x0), (3, .os 0), (4, .int .i64 0)]) (H' := [(0, .row (.int .i64) ((List.replicate (x0.length : Int).toNat 0) : (List Int)))]) (sub_mk idn (by exact ⟨⟨_, rfl, ad_ren rfl⟩, ⟨_, rfl, ad_ren rfl⟩, ⟨_, rfl, ad_ren rfl⟩, trivial⟩) (by exact ⟨⟨_, rfl, rfl⟩, trivial⟩) (by rfl) (nk rfl)) (al_cnt (fun i3 (s2 : (List Int)) => [(0, .v (.slice (.int .i64)) x0), (3, .os 0), (4, .int .i64 i3)]) (fun i3 (s2 : (List Int)) => [(0, .row (.int .i64) s2)]) (fun d i3 (s2 : (List Int)) => d = Int.toNat ((x0.length : Int) - i3) ∧ 0 ≤ i3 ∧ (s2.length : Int) = (x0.length : Int) ∧ i3 ≤ (x0.length : Int)) h ⟨rfl, (by (try simp only [List.length_set, List.length_append, List.length_cons, List.length_nil, List.length_replicate, List.length_take, List.length_drop]) <;> omega), (by (try simp only [List.length_set, List.length_append, List.length_cons, List.length_nil, List.length_replicate, List.length_take, List.length_drop]) <;> omega), (by (try simp only [List.length_set, List.length_append, List.length_cons, List.length_nil, List.length_replicate, List.length_take, List.length_drop]) <;> omega)⟩ (fun d4 i3 s2 hI h ih4 => ?_)))
  obtain ⟨hd, _, _, _⟩ := hI
  refine al_round ?_
  refine aw_seq ?_
  refine aw_seq ?_
  refine aw_region ?_
  refine ao_read trivial (r_move rfl) rfl ?_
  refine ao_read trivial (r_move rfl) rfl ?_
  refine ao_read trivial (r_len_vm (x0.length : Int) Try.underlying29 rfl rfl) rfl ?_
  refine ao_read trivial (r_lss rfl rfl) rfl ?_
  refine ao_nil ?_
  refine aq_then ?_
  refine aw_cond rfl (fun hb6 => ?_) (fun hb6 => ?_)
  · have q7 := d_t hb6
    obtain ⟨d4, rfl⟩ : ∃ e, d4 = e + 1 := ⟨d4 - 1, by omega⟩
    replace h := is_cntS h
    refine aw_skip ?_
    refine aq_then ?_
    refine aw_seq ?_
    refine aw_block ?_
    refine aw_region ?_
    refine ao_read trivial (r_move rfl) rfl ?_
    refine ao_read trivial (r_move rfl) rfl ?_
    refine ao_read trivial (r_move rfl) rfl ?_
    refine ao_read trivial (r_move rfl) rfl ?_
    refine ao_read trivial (r_idxAddr_int Try.underlying29 Try.sizeOf3 rfl rfl (by omega) (show i3 < (x0.length : Int) from by omega)) rfl ?_
    refine ao_read trivial (r_load_c_int Try.isAgg3 Try.sizeOf3 rfl) rfl ?_
    refine ao_read trivial (r_idxAddr_os Try.underlying29 Try.sizeOf3 rfl rfl rfl (by omega) (show i3 < (s2.length : Int) from by omega)) rfl ?_
    refine ao_effS trivial (e_store_elem_int Try.sizeOf3 rfl rfl rfl rfl (show i3.toNat < s2.length from by omega) rfl) ?_
    refine ao_nil ?_
    refine aq_in ?_
    refine aq_then ?_
    refine aw_region ?_
    refine ao_read trivial (r_move rfl) rfl ?_
    refine ao_read trivial (r_addI rfl rfl (wrap_id (by omega) (by omega))) rfl ?_
    refine ao_read trivial (r_assign rfl) rfl ?_
    refine ao_nil ?_
    exact aq_again (AL.sub (sub_mk idn (by exact ⟨⟨_, rfl, ad_ren rfl⟩, ⟨_, rfl, ad_ren rfl⟩, ⟨_, rfl, ad_ren rfl⟩, trivial⟩) (by exact ⟨⟨_, rfl, rfl⟩, trivial⟩) (by rfl) (nk rfl)) (ih4 d4 (i3 + 1) (s2.set i3.toNat (x0.getD i3.toNat 0)) (by omega) ⟨by omega, (by (try simp only [List.length_set, List.length_append, List.length_cons, List.length_nil, List.length_replicate, List.length_take, List.length_drop]) <;> omega), (by (try simp only [List.length_set, List.length_append, List.length_cons, List.length_nil, List.length_replicate, List.length_take, List.length_drop]) <;> omega), (by (try simp only [List.length_set, List.length_append, List.length_cons, List.length_nil, List.length_replicate, List.length_take, List.length_drop]) <;> omega)⟩ h))
  · have q8 := d_f hb6
    obtain rfl : d4 = 0 := by omega
    replace h := is_cnt0 h
    refine aw_exit ?_
    refine aq_then_exit ?_
    refine aq_then_exit ?_
    refine aq_in_exit ?_
    refine aq_then ?_
    refine aw_seq ?_
    refine aw_region ?_
    refine ao_read trivial (r_move rfl) rfl ?_
    refine ao_read trivial (r_assign rfl) rfl ?_
    refine ao_nil ?_
    refine aq_then ?_
    refine aw_ret ?_
    refine aq_ret ?_
    obtain rfl := is_some h
    exact aq_finx (l := [.tmp 2]) (xs := [.os 0]) idn [.os 0] [(0, .row (.int .i64) s2)] rfl (by exact ⟨rfl, trivial⟩) (by exact ⟨ad_ren rfl, trivial⟩) (by exact ⟨⟨_, rfl, rfl⟩, trivial⟩) rfl (nk rfl) rfl rfl ⟨rfl, rfl⟩
theorem c_spec_l10Letters {x0 : (List Int)} {r : Bool} (h : Is (p_spec_l10Letters x0) (some r)) :
    Scalar Try.prog 43 [.v (.slice (.int .i64)) x0] (.bool r) := by
  unfold p_spec_l10Letters at h
  refine ac_enter ⟨52, 0⟩ Try.func43 rfl rfl rfl rfl rfl (fun Γ => ?_)
  refine sl_len_m 0 (x0.length : Int) rfl rfl (fun hl0 => ?_)
  refine aw_seq ?_
  refine aw_region ?_
  refine ao_read trivial (r_assign rfl) rfl ?_
  refine ao_nil ?_
  refine aq_then ?_
  refine aw_seq ?_
  refine aw_region ?_
  refine ao_read trivial (r_build_zero (t := (.int .i64)) Try.underlying57 Try.zeroValue57 Try.sizeOf3 rfl) rfl ?_
  refine ao_eff trivial (e_alloc 0 (y := .v (.arr 4 (.int .i64)) ((List.replicate 4 0) : (List Int))) Try.zeroValue57 (fun ρ h M => ra_zero_arr (t := (.int .i64)) rfl) rfl rfl rfl rfl rfl) rfl ?_
  refine ao_effS trivial (e_store rfl rfl rfl rfl Try.sizeOf57 rfl) ?_
  refine ao_nil ?_
  refine aq_then ?_
  refine aw_seq ?_
  refine aw_seq ?_
  refine aw_region ?_
  refine ao_read trivial (r_move rfl) rfl ?_
  refine ao_read trivial (r_len_vm (x0.length : Int) Try.underlying29 rfl rfl) rfl ?_
  refine ao_read trivial (r_rem rfl rfl (by decide)) rfl ?_
  refine ao_read trivial (r_neq rfl rfl) rfl ?_
  refine ao_read trivial (r_move rfl) rfl ?_
  refine ao_readG (x := .v (.slice (.int .i64)) x0) rfl (GV.F rfl) (fun hg1 => by
      have q2 := d_t (not_f (not_t hg1))
      exact r_move rfl) rfl ?_
  refine ao_readG (x := .int .i64 (x0.length : Int)) rfl (GV.F rfl) (fun hg3 => by
      have q4 := d_t (not_f (not_t hg3))
      exact Reads.strip 12 rfl (hg3) (r_len_vm (x0.length : Int) Try.underlying29 rfl rfl)) rfl ?_
  refine ao_scallG (r := .bool (p_spec_l1In (x0.length : Int) 6 24)) rfl (GV.F rfl) (fun hg5 => by
      have q6 := d_t (not_f (not_t hg5))
      exact SCall.strip 13 rfl (hg5) (scall (c_spec_l1In (is_mk (rfl : p_spec_l1In (x0.length : Int) 6 24 = _))) rfl Try.func30 rfl rfl rfl rfl (fun σ => ⟨ad_ren rfl, ad_ren rfl, ad_ren rfl, trivial⟩))) rfl ?_
  refine ao_readG (x := .bool (!(p_spec_l1In (x0.length : Int) 6 24))) rfl (GV.F rfl) (fun hg7 => by
      have q8 := d_t (not_f (not_t hg7))
      exact Reads.strip 14 rfl (hg7) (r_not rfl)) rfl ?_
  refine ao_read trivial (r_orB rfl rfl) rfl ?_
  refine ao_nil ?_
  refine aq_then ?_
  refine aw_cond rfl (fun hb9 => ?_) (fun hb9 => ?_)
  · replace h := is_if hb9 h
    refine aw_seq ?_
    refine aw_region ?_
    refine ao_read trivial (r_assign rfl) rfl ?_
    refine ao_nil ?_
    refine aq_then ?_
    refine aw_ret ?_
    refine aq_then_ret ?_
    refine aq_ret ?_
    obtain rfl := is_some h
    exact aq_finx (l := [.tmp 2]) (xs := [.bool false]) idn [.bool false] [] rfl (by exact ⟨rfl, trivial⟩) (by exact ⟨ad_ren rfl, trivial⟩) (by exact trivial) rfl (nk rfl) rfl rfl ⟨rfl, rfl⟩
  · obtain ⟨q10, q11⟩ := or_f hb9
    have q12 := d_t (not_f q10)
    replace h := is_else (ne_t hb9) h
    refine aw_skip ?_
    refine aq_then ?_
    refine aw_seq ?_
    refine aw_seq ?_
    refine aw_region ?_
    refine ao_read trivial (r_assign rfl) rfl ?_
    refine ao_nil ?_
    refine aq_then ?_
    refine aw_block ?_
    refine aw_loop (AL.sub (fr' := [(0, .v (.slice (.int .i64)) x0), (3, .ref 0 0), (4, .int .i64 0)]) (H' := [(0, .var [.arr (.int .i64) 4 ((List.replicate 4 0) : (List Int))])]) (sub_mk idn (by exact ⟨⟨_, rfl, ad_ren rfl⟩, ⟨_, rfl, ad_ren rfl⟩, ⟨_, rfl, ad_ren rfl⟩, trivial⟩) (by exact ⟨⟨_, rfl, ⟨rfl, trivial⟩⟩, trivial⟩) (by rfl) (nk rfl)) (al_cnt (fun i14 (s13 : (List Int)) => [(0, .v (.slice (.int .i64)) x0), (3, .ref 0 0), (4, .int .i64 i14)]) (fun i14 (s13 : (List Int)) => [(0, .var [.arr (.int .i64) 4 s13])]) (fun d i14 (s13 : (List Int)) => d = Int.toNat ((x0.length : Int) - i14) ∧ 0 ≤ i14 ∧ (s13.length : Int) = 4 ∧ i14 ≤ (x0.length : Int)) h ⟨rfl, (by (try simp only [List.length_set, List.length_append, List.length_cons, List.length_nil, List.length_replicate, List.length_take, List.length_drop]) <;> omega), (by (try simp only [List.length_set, List.length_append, List.length_cons, List.length_nil, List.length_replicate, List.length_take, List.length_drop]) <;> omega), (by (try simp only [List.length_set, List.length_append, List.length_cons, List.length_nil, List.length_replicate, List.length_take, List.length_drop]) <;> omega)⟩ (fun d15 i14 s13 hI h ih15 => ?_)))
    obtain ⟨hd, _, _, _⟩ := hI
    refine al_round ?_
    refine aw_seq ?_
    refine aw_seq ?_
    refine aw_region ?_
    refine ao_read trivial (r_move rfl) rfl ?_
    refine ao_read trivial (r_move rfl) rfl ?_
    refine ao_read trivial (r_len_vm (x0.length : Int) Try.underlying29 rfl rfl) rfl ?_
    refine ao_read trivial (r_lss rfl rfl) rfl ?_
    refine ao_nil ?_
    refine aq_then ?_
    refine aw_cond rfl (fun hb17 => ?_) (fun hb17 => ?_)
    · have q18 := d_t hb17
      obtain ⟨d15, rfl⟩ : ∃ e, d15 = e + 1 := ⟨d15 - 1, by omega⟩
      replace h := is_cntS h
      refine aw_skip ?_
      refine aq_then ?_
      refine aw_seq ?_
      refine aw_block ?_
      refine aw_seq ?_
      refine aw_seq ?_
      refine aw_region ?_
      refine ao_read trivial (r_move rfl) rfl ?_
      refine ao_read trivial (r_move rfl) rfl ?_
      refine ao_read trivial (r_idxAddr_int Try.underlying29 Try.sizeOf3 rfl rfl (by omega) (show i14 < (x0.length : Int) from by omega)) rfl ?_
      refine ao_read trivial (r_load_c_int Try.isAgg3 Try.sizeOf3 rfl) rfl ?_
      refine ao_read trivial (r_move rfl) rfl ?_
      refine ao_read trivial (r_len_vm (x0.length : Int) Try.underlying29 rfl rfl) rfl ?_
      refine ao_read trivial (r_quo rfl rfl (by decide)) rfl ?_
      refine ao_read trivial (r_sub rfl rfl) rfl ?_
      refine ao_scall trivial (scall (c_spec_l1In (is_mk (rfl : p_spec_l1In (x0.getD i14.toNat 0) 0 (IntKind.wrap .i64 ((IntKind.wrap .i64 ((x0.length : Int).tdiv 6)) - 1)) = _))) rfl Try.func30 rfl rfl rfl rfl (fun σ => ⟨ad_ren rfl, ad_ren rfl, ad_ren rfl, trivial⟩)) rfl ?_
      refine ao_read trivial (r_not rfl) rfl ?_
      refine ao_nil ?_
      refine aq_then ?_
      refine aw_cond rfl (fun hb20 => ?_) (fun hb20 => ?_)
      · replace h := is_else (ne_t (not_t hb20)) h
        refine aw_seq ?_
        refine aw_region ?_
        refine ao_read trivial (r_assign rfl) rfl ?_
        refine ao_nil ?_
        refine aq_then ?_
        refine aw_ret ?_
        refine aq_then_ret ?_
        refine aq_in_ret ?_
        refine aq_then_ret ?_
        refine aq_then_ret ?_
        refine aq_in_ret ?_
        refine aq_then_ret ?_
        refine aq_ret ?_
        obtain rfl := is_some h
        exact aq_finx (l := [.tmp 2]) (xs := [.bool false]) idn [.bool false] [] rfl (by exact ⟨rfl, trivial⟩) (by exact ⟨ad_ren rfl, trivial⟩) (by exact trivial) rfl (nk rfl) rfl rfl ⟨rfl, rfl⟩
      · replace h := is_if (not_f hb20) h
        refine aw_skip ?_
        refine aq_then ?_
        refine aw_region ?_
        refine ao_read trivial (r_move rfl) rfl ?_
        refine ao_read trivial (r_move rfl) rfl ?_
        refine ao_read trivial (r_idxAddr_int Try.underlying29 Try.sizeOf3 rfl rfl (by omega) (show i14 < (x0.length : Int) from by omega)) rfl ?_
        refine ao_read trivial (r_load_c_int Try.isAgg3 Try.sizeOf3 rfl) rfl ?_
        obtain ⟨g21, h⟩ := is_guard h
        obtain ⟨g22, h⟩ := is_guard h
        refine ao_read trivial (r_idxAddr_arr Try.underlying57 Try.sizeOf3 rfl rfl (by omega) (by omega)) rfl ?_
        refine ao_read trivial (r_load_elema_int Try.isAgg3 Try.sizeOf3 rfl rfl rfl (by omega)) rfl ?_
        refine ao_read trivial (r_add rfl rfl) rfl ?_
        refine ao_read trivial (r_idxAddr_arr Try.underlying57 Try.sizeOf3 rfl rfl (by omega) (by omega)) rfl ?_
        refine ao_effS trivial (e_store_elema_int Try.sizeOf3 rfl rfl rfl rfl (by omega) rfl) ?_
        refine ao_nil ?_
        refine aq_in ?_
        refine aq_then ?_
        refine aw_region ?_
        refine ao_read trivial (r_move rfl) rfl ?_
        refine ao_read trivial (r_addI rfl rfl (wrap_id (by omega) (by omega))) rfl ?_
        refine ao_read trivial (r_assign rfl) rfl ?_
        refine ao_nil ?_
        exact aq_again (AL.sub (sub_mk idn (by exact ⟨⟨_, rfl, ad_ren rfl⟩, ⟨_, rfl, ad_ren rfl⟩, ⟨_, rfl, ad_ren rfl⟩, trivial⟩) (by exact ⟨⟨_, rfl, ⟨rfl, trivial⟩⟩, trivial⟩) (by rfl) (nk rfl)) (ih15 d15 (i14 + 1) (s13.set (x0.getD i14.toNat 0).toNat (IntKind.wrap .i64 ((s13.getD (x0.getD i14.toNat 0).toNat 0) + 1))) (by omega) ⟨by omega, (by (try simp only [List.length_set, List.length_append, List.length_cons, List.length_nil, List.length_replicate, List.length_take, List.length_drop]) <;> omega), (by (try simp only [List.length_set, List.length_append, List.length_cons, List.length_nil, List.length_replicate, List.length_take, List.length_drop]) <;> omega), (by (try simp only [List.length_set, List.length_append, List.length_cons, List.length_nil, List.length_replicate, List.length_take, List.length_drop]) <;> omega)⟩ h))
    · have q19 := d_f hb17
      obtain rfl : d15 = 0 := by omega
      replace h := is_cnt0 h
      refine aw_exit ?_
      refine aq_then_exit ?_
      refine aq_then_exit ?_
      refine aq_in_exit ?_
      refine aq_then ?_
      refine aw_seq ?_
      refine aw_seq ?_
      refine aw_region ?_
      refine ao_read trivial (r_assign rfl) rfl ?_
      refine ao_nil ?_
      refine aq_then ?_
      refine aw_block ?_
      refine aw_loop (AL.sub (fr' := [(0, .v (.slice (.int .i64)) x0), (3, .ref 0 0), (5, .int .i64 0)]) (H' := [(0, .var [.arr (.int .i64) 4 s13])]) (sub_mk idn (by exact ⟨⟨_, rfl, ad_ren rfl⟩, ⟨_, rfl, ad_ren rfl⟩, ⟨_, rfl, ad_ren rfl⟩, trivial⟩) (by exact ⟨⟨_, rfl, ⟨rfl, trivial⟩⟩, trivial⟩) (by rfl) (nk rfl)) (al_cnt (fun i24 (s23 : Unit) => [(0, .v (.slice (.int .i64)) x0), (3, .ref 0 0), (5, .int .i64 i24)]) (fun i24 (s23 : Unit) => [(0, .var [.arr (.int .i64) 4 s13])]) (fun d i24 (s23 : Unit) => d = Int.toNat ((IntKind.wrap .i64 ((x0.length : Int).tdiv 6)) - i24) ∧ 0 ≤ i24) h ⟨rfl, (by (try simp only [List.length_set, List.length_append, List.length_cons, List.length_nil, List.length_replicate, List.length_take, List.length_drop]) <;> omega)⟩ (fun d25 i24 s23 hI h ih25 => ?_)))
      obtain ⟨hd, _⟩ := hI
      refine al_round ?_
      refine aw_seq ?_
      refine aw_seq ?_
      refine aw_region ?_
      refine ao_read trivial (r_move rfl) rfl ?_
      refine ao_read trivial (r_move rfl) rfl ?_
      refine ao_read trivial (r_len_vm (x0.length : Int) Try.underlying29 rfl rfl) rfl ?_
      refine ao_read trivial (r_quo rfl rfl (by decide)) rfl ?_
      refine ao_read trivial (r_lss rfl rfl) rfl ?_
      refine ao_nil ?_
      refine aq_then ?_
      refine aw_cond rfl (fun hb27 => ?_) (fun hb27 => ?_)
      · have q28 := d_t hb27
        obtain ⟨d25, rfl⟩ : ∃ e, d25 = e + 1 := ⟨d25 - 1, by omega⟩
        replace h := is_cntS h
        refine aw_skip ?_
        refine aq_then ?_
        refine aw_seq ?_
        refine aw_block ?_
        refine aw_seq ?_
        refine aw_region ?_
        refine ao_read trivial (r_move rfl) rfl ?_
        obtain ⟨g30, h⟩ := is_guard h
        refine ao_read trivial (r_idxAddr_arr Try.underlying57 Try.sizeOf3 rfl rfl (by omega) (by omega)) rfl ?_
        refine ao_read trivial (r_load_elema_int Try.isAgg3 Try.sizeOf3 rfl rfl rfl (by omega)) rfl ?_
        refine ao_read trivial (r_neq rfl rfl) rfl ?_
        refine ao_nil ?_
        refine aq_then ?_
        refine aw_cond rfl (fun hb31 => ?_) (fun hb31 => ?_)
        · have q32 := d_f (not_t hb31)
          replace h := is_else (d_f (not_t hb31)) h
          refine aw_seq ?_
          refine aw_region ?_
          refine ao_read trivial (r_assign rfl) rfl ?_
          refine ao_nil ?_
          refine aq_then ?_
          refine aw_ret ?_
          refine aq_in_ret ?_
          refine aq_then_ret ?_
          refine aq_then_ret ?_
          refine aq_in_ret ?_
          refine aq_then_ret ?_
          refine aq_ret ?_
          obtain rfl := is_some h
          exact aq_finx (l := [.tmp 2]) (xs := [.bool false]) idn [.bool false] [] rfl (by exact ⟨rfl, trivial⟩) (by exact ⟨ad_ren rfl, trivial⟩) (by exact trivial) rfl (nk rfl) rfl rfl ⟨rfl, rfl⟩
        · have q33 := d_t (not_f hb31)
          replace h := is_if (d_t (not_f hb31)) h
          refine aw_skip ?_
          refine aq_in ?_
          refine aq_then ?_
          refine aw_region ?_
          refine ao_read trivial (r_move rfl) rfl ?_
          refine ao_read trivial (r_addI rfl rfl (wrap_id (by omega) (by omega))) rfl ?_
          refine ao_read trivial (r_assign rfl) rfl ?_
          refine ao_nil ?_
          exact aq_again (AL.sub (sub_mk idn (by exact ⟨⟨_, rfl, ad_ren rfl⟩, ⟨_, rfl, ad_ren rfl⟩, ⟨_, rfl, ad_ren rfl⟩, trivial⟩) (by exact ⟨⟨_, rfl, ⟨rfl, trivial⟩⟩, trivial⟩) (by rfl) (nk rfl)) (ih25 d25 (i24 + 1) () (by omega) ⟨by omega, (by (try simp only [List.length_set, List.length_append, List.length_cons, List.length_nil, List.length_replicate, List.length_take, List.length_drop]) <;> omega)⟩ h))
      · have q29 := d_f hb27
        obtain rfl : d25 = 0 := by omega
        replace h := is_cnt0 h
        refine aw_exit ?_
        refine aq_then_exit ?_
        refine aq_then_exit ?_
        refine aq_in_exit ?_
        refine aq_then ?_
        refine aw_seq ?_
        refine aw_region ?_
        refine ao_read trivial (r_assign rfl) rfl ?_
        refine ao_nil ?_
        refine aq_then ?_
        refine aw_ret ?_
        refine aq_ret ?_
        obtain rfl := is_some h
        exact aq_finx (l := [.tmp 2]) (xs := [.bool true]) idn [.bool true] [] rfl (by exact ⟨rfl, trivial⟩) (by exact ⟨ad_ren rfl, trivial⟩) (by exact trivial) rfl (nk rfl) rfl rfl ⟨rfl, rfl⟩
theorem c_spec_l1Own {x0 : (List Int)} {r : (List Int)} (h : Is (p_spec_l1Own x0) (some r)) :
    ACalls Try.prog 44 [.v (.slice (.int .i64)) x0] [] (fun r' H' => r' = .os 0 ∧ H' = [(0, .row (.int .i64) r)]) := by
  unfold p_spec_l1Own at h
  refine ac_enter ⟨6, 0⟩ Try.func44 rfl rfl rfl rfl rfl (fun Γ => ?_)
  refine sl_len_m 0 (x0.length : Int) rfl rfl (fun hl0 => ?_)
  refine aw_seq ?_
  refine aw_region ?_
  refine ao_read trivial (r_assign rfl) rfl ?_
  refine ao_nil ?_
  refine aq_then ?_
  refine aw_seq ?_
  refine aw_region ?_
  refine ao_eff trivial (e_buildSlice (l := []) (t := (.int .i64)) 0 [] rfl Try.underlying29 Try.zeroValue3 Try.sizeOf3 rfl rfl rfl rfl rfl rfl rfl) rfl ?_
  refine ao_read trivial (r_move rfl) rfl ?_
  obtain ⟨g1, h⟩ := is_guard h
  refine ao_eff trivial (e_append (t := (.int .i64)) 1 rfl Try.underlying29 (rfl : Try.prog.info? 3 = some _) rfl rfl rfl rfl rfl rfl rfl src_v (show [].length + x0.length ≤ 1000000000 from by (try simp only [List.length_cons, List.length_nil]) <;> omega) rfl rfl) rfl ?_
  refine ao_read trivial (r_assign rfl) rfl ?_
  refine ao_nil ?_
  refine aq_then ?_
  refine aw_ret ?_
  refine aq_ret ?_
  obtain rfl := is_some h
  exact aq_finx (l := [.tmp 2]) (xs := [.os 1]) (rn [(0, 1)]) [.os 0] [(0, .row (.int .i64) (([] ++ x0) : (List Int)))] rfl (by exact ⟨rfl, trivial⟩) (by exact ⟨ad_ren rfl, trivial⟩) (by exact ⟨⟨_, rfl, rfl⟩, trivial⟩) rfl (nk rfl) rfl rfl ⟨rfl, rfl⟩
theorem c_spec_l10Pool {x0 : (List Int)} {r : (List (List Int))} (h : Is (p_spec_l10Pool x0) (some r)) :
    ACalls Try.prog 64 [.v (.slice (.int .i64)) x0] [] (fun r' H' => r' = .os 0 ∧ H' = [(0, .row (.arr 6 (.int .i64)) r)]) := by
  unfold p_spec_l10Pool at h
  refine ac_enter ⟨41, 0⟩ Try.func64 rfl rfl rfl rfl rfl (fun Γ => ?_)
  refine sl_len_m 0 (x0.length : Int) rfl rfl (fun hl0 => ?_)
  refine aw_seq ?_
  refine aw_region ?_
  refine ao_read trivial (r_assign rfl) rfl ?_
  refine ao_nil ?_
  refine aq_then ?_
  refine aw_seq ?_
  refine aw_region ?_
  refine ao_read trivial (r_move rfl) rfl ?_
  refine ao_read trivial (r_len_vm (x0.length : Int) Try.underlying29 rfl rfl) rfl ?_
  refine ao_read trivial (r_quo rfl rfl (by decide)) rfl ?_
  obtain ⟨g1, h⟩ := is_guard h
  obtain ⟨g2, h⟩ := is_guard h
  refine ao_eff trivial (e_makeSlice 0 (t := (.arr 6 (.int .i64))) Try.underlying22 (rfl : Try.prog.info? 44 = some _) rfl rfl rfl rfl rfl rfl (by omega) (by omega) rfl rfl) rfl ?_
  refine ao_read trivial (r_build_zero (t := (.int .i64)) Try.underlying57 Try.zeroValue57 Try.sizeOf3 rfl) rfl ?_
  refine ao_eff trivial (e_alloc 1 (y := .v (.arr 4 (.int .i64)) ((List.replicate 4 0) : (List Int))) Try.zeroValue57 (fun ρ h M => ra_zero_arr (t := (.int .i64)) rfl) rfl rfl rfl rfl rfl) rfl ?_
  refine ao_read trivial (r_assign rfl) rfl ?_
  refine ao_effS trivial (e_store rfl rfl rfl rfl Try.sizeOf57 rfl) ?_
  refine ao_nil ?_
  refine aq_then ?_
  refine aw_seq ?_
  refine aw_seq ?_
  refine aw_region ?_
  refine ao_read trivial (r_assign rfl) rfl ?_
  refine ao_nil ?_
  refine aq_then ?_
  refine aw_block ?_
  refine aw_loop (AL.sub (fr' := [(0, .v (.slice (.int .i64)) x0), (3, .os 0), (4, .ref 1 0), (5, .int .i64 0)]) (H' := [(0, .row (.arr 6 (.int .i64)) ((List.replicate (IntKind.wrap .i64 ((x0.length : Int).tdiv 6)).toNat (List.replicate 6 0)) : (List (List Int)))), (1, .var [.arr (.int .i64) 4 ((List.replicate 4 0) : (List Int))])]) (sub_mk idn (by exact ⟨⟨_, rfl, ad_ren rfl⟩, ⟨_, rfl, ad_ren rfl⟩, ⟨_, rfl, ad_ren rfl⟩, ⟨_, rfl, ad_ren rfl⟩, trivial⟩) (by exact ⟨⟨_, rfl, rfl⟩, ⟨_, rfl, ⟨rfl, trivial⟩⟩, trivial⟩) (by rfl) (nk rfl)) (al_cnt (fun i4 (s3 : (List (List Int)) × (List Int)) => [(0, .v (.slice (.int .i64)) x0), (3, .os 0), (4, .ref 1 0), (5, .int .i64 i4)]) (fun i4 (s3 : (List (List Int)) × (List Int)) => [(0, .row (.arr 6 (.int .i64)) s3.1), (1, .var [.arr (.int .i64) 4 s3.2])]) (fun d i4 (s3 : (List (List Int)) × (List Int)) => d = Int.toNat ((x0.length : Int) - i4) ∧ 0 ≤ i4 ∧ (s3.1.length : Int) = (IntKind.wrap .i64 ((x0.length : Int).tdiv 6)) ∧ (s3.2.length : Int) = 4 ∧ i4 ≤ (x0.length : Int)) h ⟨rfl, (by (try simp only [List.length_set, List.length_append, List.length_cons, List.length_nil, List.length_replicate, List.length_take, List.length_drop]) <;> omega), (by (try simp only [List.length_set, List.length_append, List.length_cons, List.length_nil, List.length_replicate, List.length_take, List.length_drop]) <;> omega), (by (try simp only [List.length_set, List.length_append, List.length_cons, List.length_nil, List.length_replicate, List.length_take, List.length_drop]) <;> omega), (by (try simp only [List.length_set, List.length_append, List.length_cons, List.length_nil, List.length_replicate, List.length_take, List.length_drop]) <;> omega)⟩ (fun d5 i4 s3 hI h ih5 => ?_)))
  obtain ⟨hd, _, _, _, _⟩ := hI
  refine al_round ?_
  refine aw_seq ?_
  refine aw_seq ?_
  refine aw_region ?_
  refine ao_read trivial (r_move rfl) rfl ?_
  refine ao_read trivial (r_move rfl) rfl ?_
  refine ao_read trivial (r_len_vm (x0.length : Int) Try.underlying29 rfl rfl) rfl ?_
  refine ao_read trivial (r_lss rfl rfl) rfl ?_
  refine ao_nil ?_
  refine aq_then ?_
  refine aw_cond rfl (fun hb7 => ?_) (fun hb7 => ?_)
  · have q8 := d_t hb7
    obtain ⟨d5, rfl⟩ : ∃ e, d5 = e + 1 := ⟨d5 - 1, by omega⟩
    replace h := is_cntS h
    refine aw_skip ?_
    refine aq_then ?_
    refine aw_seq ?_
    refine aw_block ?_
    refine aw_seq ?_
    obtain ⟨g10, h⟩ := is_guard h
    obtain ⟨g11, h⟩ := is_guard h
    obtain ⟨g12, h⟩ := is_guard h
    obtain ⟨g13, h⟩ := is_guard h
    obtain ⟨g14, h⟩ := is_guard h
    refine aw_draw 15 (by kernel_rfl) (by kernel_rfl) ?_
    refine an_read 0 (by kernel_rfl) (fun _ _ _ h => h) rfl (by kernel_rfl) trivial (r_move rfl) rfl ?_
    refine an_read 1 (by kernel_rfl) (fun _ _ _ h => h) rfl (by kernel_rfl) trivial (r_move rfl) rfl ?_
    refine an_read 2 (by kernel_rfl) (fun _ _ _ h => h) rfl (by kernel_rfl) trivial (r_move rfl) rfl ?_
    refine an_read 3 (by kernel_rfl) (fun _ _ _ h => h) rfl (by kernel_rfl) trivial (r_idxAddr_int Try.underlying29 Try.sizeOf3 rfl rfl (by omega) (show i4 < (x0.length : Int) from by omega)) rfl ?_
    refine an_read 4 (by kernel_rfl) (fun _ _ _ h => h) rfl (by kernel_rfl) trivial (r_load_c_int Try.isAgg3 Try.sizeOf3 rfl) rfl ?_
    refine an_read 5 (by kernel_rfl) (fun _ _ _ h => h) rfl (by kernel_rfl) trivial (r_move rfl) rfl ?_
    refine an_read 6 (by kernel_rfl) (fun _ _ _ h => h) rfl (by kernel_rfl) trivial (r_move rfl) rfl ?_
    refine an_read 7 (by kernel_rfl) (fun _ _ _ h => h) rfl (by kernel_rfl) trivial (r_idxAddr_int Try.underlying29 Try.sizeOf3 rfl rfl (by omega) (show i4 < (x0.length : Int) from by omega)) rfl ?_
    refine an_read 8 (by kernel_rfl) (fun _ _ _ h => h) rfl (by kernel_rfl) trivial (r_load_c_int Try.isAgg3 Try.sizeOf3 rfl) rfl ?_
    refine an_read 9 (by kernel_rfl) (fun _ _ _ h => h) rfl (by kernel_rfl) trivial (r_idxAddr_arr Try.underlying57 Try.sizeOf3 rfl rfl (by omega) (by omega)) rfl ?_
    refine an_read 10 (by kernel_rfl) (fun _ _ _ h => h) rfl (by kernel_rfl) trivial (r_load_elema_int Try.isAgg3 Try.sizeOf3 rfl rfl rfl (by omega)) rfl ?_
    refine an_read 11 (by kernel_rfl) (fun _ _ _ h => h) rfl (by kernel_rfl) trivial (r_move rfl) rfl ?_
    refine an_read 12 (by kernel_rfl) (fun _ _ _ h => h) rfl (by kernel_rfl) trivial (r_addI rfl rfl (wrap_id (by omega) (by omega))) rfl ?_
    refine an_read 13 (by kernel_rfl) (fun _ _ _ h => h) rfl (by kernel_rfl) trivial (r_idxAddr_os Try.underlying22 Try.sizeOf44 rfl rfl rfl (by omega) (show (x0.getD i4.toNat 0) < (s3.1.length : Int) from by omega)) rfl ?_
    refine an_read 14 (by kernel_rfl) (fun _ _ _ h => h) rfl (by kernel_rfl) trivial (r_idxAddr_elem Try.underlying44 Try.sizeOf3 rfl rfl (by omega) (by omega)) rfl ?_
    refine an_tail rfl rfl ?_
    refine ao_effS trivial (e_store_elem2_int (m := 6) Try.sizeOf3 rfl rfl rfl rfl rfl (show (x0.getD i4.toNat 0).toNat < s3.1.length from by omega) rfl (by omega) rfl) ?_
    refine ao_nil ?_
    refine aq_then ?_
    refine aw_region ?_
    refine ao_read trivial (r_move rfl) rfl ?_
    refine ao_read trivial (r_move rfl) rfl ?_
    refine ao_read trivial (r_idxAddr_int Try.underlying29 Try.sizeOf3 rfl rfl (by omega) (show i4 < (x0.length : Int) from by omega)) rfl ?_
    refine ao_read trivial (r_load_c_int Try.isAgg3 Try.sizeOf3 rfl) rfl ?_
    refine ao_read trivial (r_idxAddr_arr Try.underlying57 Try.sizeOf3 rfl rfl (by omega) (by omega)) rfl ?_
    refine ao_read trivial (r_load_elema_int Try.isAgg3 Try.sizeOf3 rfl rfl rfl (by omega)) rfl ?_
    refine ao_read trivial (r_addI rfl rfl (wrap_id (by omega) (by omega))) rfl ?_
    refine ao_read trivial (r_idxAddr_arr Try.underlying57 Try.sizeOf3 rfl rfl (by omega) (by omega)) rfl ?_
    refine ao_effS trivial (e_store_elema_int Try.sizeOf3 rfl rfl rfl rfl (by omega) rfl) ?_
    refine ao_nil ?_
    refine aq_in ?_
    refine aq_then ?_
    refine aw_region ?_
    refine ao_read trivial (r_move rfl) rfl ?_
    refine ao_read trivial (r_addI rfl rfl (wrap_id (by omega) (by omega))) rfl ?_
    refine ao_read trivial (r_assign rfl) rfl ?_
    refine ao_nil ?_
    exact aq_again (AL.sub (sub_mk idn (by exact ⟨⟨_, rfl, ad_ren rfl⟩, ⟨_, rfl, ad_ren rfl⟩, ⟨_, rfl, ad_ren rfl⟩, ⟨_, rfl, ad_ren rfl⟩, trivial⟩) (by exact ⟨⟨_, rfl, rfl⟩, ⟨_, rfl, ⟨rfl, trivial⟩⟩, trivial⟩) (by rfl) (nk rfl)) (ih5 d5 (i4 + 1) ((s3.1.set (x0.getD i4.toNat 0).toNat ((s3.1.getD (x0.getD i4.toNat 0).toNat (List.replicate 6 0)).set (s3.2.getD (x0.getD i4.toNat 0).toNat 0).toNat (i4 + 1))), (s3.2.set (x0.getD i4.toNat 0).toNat ((s3.2.getD (x0.getD i4.toNat 0).toNat 0) + 1))) (by omega) ⟨by omega, (by (try simp only [List.length_set, List.length_append, List.length_cons, List.length_nil, List.length_replicate, List.length_take, List.length_drop]) <;> omega), (by (try simp only [List.length_set, List.length_append, List.length_cons, List.length_nil, List.length_replicate, List.length_take, List.length_drop]) <;> omega), (by (try simp only [List.length_set, List.length_append, List.length_cons, List.length_nil, List.length_replicate, List.length_take, List.length_drop]) <;> omega), (by (try simp only [List.length_set, List.length_append, List.length_cons, List.length_nil, List.length_replicate, List.length_take, List.length_drop]) <;> omega)⟩ h))
  · have q9 := d_f hb7
    obtain rfl : d5 = 0 := by omega
    replace h := is_cnt0 h
    refine aw_exit ?_
    refine aq_then_exit ?_
    refine aq_then_exit ?_
    refine aq_in_exit ?_
    refine aq_then ?_
    refine aw_seq ?_
    refine aw_region ?_
    refine ao_read trivial (r_move rfl) rfl ?_
    refine ao_read trivial (r_assign rfl) rfl ?_
    refine ao_nil ?_
    refine aq_then ?_
    refine aw_ret ?_
    refine aq_ret ?_
    obtain rfl := is_some h
    exact aq_finx (l := [.tmp 2]) (xs := [.os 0]) idn [.os 0] [(0, .row (.arr 6 (.int .i64)) s3.1)] rfl (by exact ⟨rfl, trivial⟩) (by exact ⟨ad_ren rfl, trivial⟩) (by exact ⟨⟨_, rfl, rfl⟩, trivial⟩) rfl (nk rfl) rfl rfl ⟨rfl, rfl⟩
theorem c_spec_l1Least {x0 : Int} {x1 : Int} {r : Int} (h : Is (p_spec_l1Least x0 x1) r) :
    Scalar Try.prog 65 [.int .i64 x0, .int .i64 x1] (.int .i64 r) := by
  unfold p_spec_l1Least at h
  refine ac_enter ⟨10, 0⟩ Try.func65 rfl rfl rfl rfl rfl (fun Γ => ?_)
  refine aw_seq ?_
  refine aw_region ?_
  refine ao_read trivial (r_assign rfl) rfl ?_
  refine ao_nil ?_
  refine aq_then ?_
  refine aw_seq ?_
  refine aw_seq ?_
  refine aw_region ?_
  refine ao_read trivial (r_move rfl) rfl ?_
  refine ao_read trivial (r_move rfl) rfl ?_
  refine ao_read trivial (r_lss rfl rfl) rfl ?_
  refine ao_nil ?_
  refine aq_then ?_
  refine aw_cond rfl (fun hb1 => ?_) (fun hb1 => ?_)
  · have q2 := d_t hb1
    replace h := is_if (d_t hb1) h
    refine aw_seq ?_
    refine aw_region ?_
    refine ao_read trivial (r_move rfl) rfl ?_
    refine ao_read trivial (r_assign rfl) rfl ?_
    refine ao_nil ?_
    refine aq_then ?_
    refine aw_ret ?_
    refine aq_then_ret ?_
    refine aq_ret ?_
    obtain rfl := is_eq h
    exact aq_finx (l := [.tmp 4]) (xs := [.int .i64 x0]) idn [.int .i64 x0] [] rfl (by exact ⟨rfl, trivial⟩) (by exact ⟨ad_ren rfl, trivial⟩) (by exact trivial) rfl (nk rfl) rfl rfl ⟨rfl, rfl⟩
  · have q3 := d_f hb1
    replace h := is_else (d_f hb1) h
    refine aw_skip ?_
    refine aq_then ?_
    refine aw_seq ?_
    refine aw_region ?_
    refine ao_read trivial (r_move rfl) rfl ?_
    refine ao_read trivial (r_assign rfl) rfl ?_
    refine ao_nil ?_
    refine aq_then ?_
    refine aw_ret ?_
    refine aq_ret ?_
    obtain rfl := is_eq h
    exact aq_finx (l := [.tmp 4]) (xs := [.int .i64 x1]) idn [.int .i64 x1] [] rfl (by exact ⟨rfl, trivial⟩) (by exact ⟨ad_ren rfl, trivial⟩) (by exact trivial) rfl (nk rfl) rfl rfl ⟨rfl, rfl⟩
theorem c_spec_l1Most {x0 : Int} {x1 : Int} {r : Int} (h : Is (p_spec_l1Most x0 x1) r) :
    Scalar Try.prog 66 [.int .i64 x0, .int .i64 x1] (.int .i64 r) := by
  unfold p_spec_l1Most at h
  refine ac_enter ⟨10, 0⟩ Try.func66 rfl rfl rfl rfl rfl (fun Γ => ?_)
  refine aw_seq ?_
  refine aw_region ?_
  refine ao_read trivial (r_assign rfl) rfl ?_
  refine ao_nil ?_
  refine aq_then ?_
  refine aw_seq ?_
  refine aw_seq ?_
  refine aw_region ?_
  refine ao_read trivial (r_move rfl) rfl ?_
  refine ao_read trivial (r_move rfl) rfl ?_
  refine ao_read trivial (r_gtr rfl rfl) rfl ?_
  refine ao_nil ?_
  refine aq_then ?_
  refine aw_cond rfl (fun hb1 => ?_) (fun hb1 => ?_)
  · have q2 := d_t hb1
    replace h := is_if (d_t hb1) h
    refine aw_seq ?_
    refine aw_region ?_
    refine ao_read trivial (r_move rfl) rfl ?_
    refine ao_read trivial (r_assign rfl) rfl ?_
    refine ao_nil ?_
    refine aq_then ?_
    refine aw_ret ?_
    refine aq_then_ret ?_
    refine aq_ret ?_
    obtain rfl := is_eq h
    exact aq_finx (l := [.tmp 4]) (xs := [.int .i64 x0]) idn [.int .i64 x0] [] rfl (by exact ⟨rfl, trivial⟩) (by exact ⟨ad_ren rfl, trivial⟩) (by exact trivial) rfl (nk rfl) rfl rfl ⟨rfl, rfl⟩
  · have q3 := d_f hb1
    replace h := is_else (d_f hb1) h
    refine aw_skip ?_
    refine aq_then ?_
    refine aw_seq ?_
    refine aw_region ?_
    refine ao_read trivial (r_move rfl) rfl ?_
    refine ao_read trivial (r_assign rfl) rfl ?_
    refine ao_nil ?_
    refine aq_then ?_
    refine aw_ret ?_
    refine aq_ret ?_
    obtain rfl := is_eq h
    exact aq_finx (l := [.tmp 4]) (xs := [.int .i64 x1]) idn [.int .i64 x1] [] rfl (by exact ⟨rfl, trivial⟩) (by exact ⟨ad_ren rfl, trivial⟩) (by exact trivial) rfl (nk rfl) rfl rfl ⟨rfl, rfl⟩
theorem c_spec_l10Spread {fu : Nat} {x0 : (List Int)} {r : Int} (h : Is (p_spec_l10Spread fu x0) (some r)) :
    Scalar Try.prog 45 [.v (.slice (.int .i64)) x0] (.int .i64 r) := by
  unfold p_spec_l10Spread at h
  refine ac_enter ⟨37, 0⟩ Try.func45 rfl rfl rfl rfl rfl (fun Γ => ?_)
  refine sl_len_m 0 (x0.length : Int) rfl rfl (fun hl0 => ?_)
  refine aw_seq ?_
  refine aw_region ?_
  refine ao_read trivial (r_assign rfl) rfl ?_
  refine ao_nil ?_
  refine aq_then ?_
  refine aw_seq ?_
  refine aw_region ?_
  refine ao_read trivial (r_move rfl) rfl ?_
  obtain ⟨r1, r1h, h⟩ := is_bind h
  refine ao_call [] 0 trivial (c_spec_l10Pool (is_mk r1h)) Try.func64 rfl rfl rfl rfl ⟨ad_ren rfl, trivial⟩ trivial rfl rfl rfl rfl rfl rfl rfl (fun r' H' hr => ?_)
  obtain ⟨rfl, rfl⟩ := hr
  refine ao_norm (y := .os 0) (H' := [(0, .row (.arr 6 (.int .i64)) r1)]) rfl rfl ?_
  refine row_len_o 0 (r1.length : Int) rfl rfl (fun hr2 => ?_)
  obtain ⟨r3, r3h, h⟩ := is_bind h
  refine ao_call [] 1 trivial (c_spec_l10Ways (is_mk r3h)) Try.func32 rfl rfl rfl rfl ⟨ad_os0 rfl, trivial⟩ trivial rfl rfl rfl rfl rfl rfl rfl (fun r' H' hr => ?_)
  obtain ⟨rfl, rfl⟩ := hr
  refine ao_norm (y := .os 1) (H' := [(0, .row (.arr 6 (.int .i64)) r1), (1, .row (.int .i64) r3)]) rfl rfl ?_
  refine row_len_o 1 (r3.length : Int) rfl rfl (fun hr4 => ?_)
  refine ao_read trivial (r_assign rfl) rfl ?_
  refine ao_nil ?_
  refine aq_then ?_
  refine aw_seq ?_
  obtain ⟨g5, h⟩ := is_guard h
  refine aw_drawAll (by kernel_rfl) ?_
  refine an_read 0 (by kernel_rfl) (fun _ _ _ h => h) rfl (by kernel_rfl) trivial (r_move rfl) rfl ?_
  refine an_read 1 (by kernel_rfl) (fun _ _ _ h => h) rfl (by kernel_rfl) trivial (r_idxAddr_os Try.underlying29 Try.sizeOf3 rfl rfl rfl (by omega) (show 0 < (r3.length : Int) from by omega)) rfl ?_
  refine an_read 2 (by kernel_rfl) (fun _ _ _ h => h) rfl (by kernel_rfl) trivial (r_load_elem_int Try.isAgg3 Try.sizeOf3 rfl rfl (show 0 < r3.length from by omega)) rfl ?_
  refine an_read 3 (by kernel_rfl) (fun _ _ _ h => h) rfl (by kernel_rfl) trivial (r_move rfl) rfl ?_
  refine an_read 4 (by kernel_rfl) (fun _ _ _ h => h) rfl (by kernel_rfl) trivial (r_idxAddr_os Try.underlying29 Try.sizeOf3 rfl rfl rfl (by omega) (show 0 < (r3.length : Int) from by omega)) rfl ?_
  refine an_read 5 (by kernel_rfl) (fun _ _ _ h => h) rfl (by kernel_rfl) trivial (r_load_elem_int Try.isAgg3 Try.sizeOf3 rfl rfl (show 0 < r3.length from by omega)) rfl ?_
  refine an_read 6 (by kernel_rfl) (fun _ _ _ h => h) rfl (by kernel_rfl) trivial (r_assign rfl) rfl ?_
  refine an_read 7 (by kernel_rfl) (fun _ _ _ h => h) rfl (by kernel_rfl) trivial (r_assign rfl) rfl ?_
  refine an_done rfl ?_
  refine aq_then ?_
  refine aw_seq ?_
  refine aw_seq ?_
  refine aw_region ?_
  refine ao_read trivial (r_assign rfl) rfl ?_
  refine ao_nil ?_
  refine aq_then ?_
  refine aw_block ?_
  refine aw_loop (AL.sub (fr' := [(3, .os 0), (4, .int .i64 (r3.getD 0 0)), (5, .int .i64 (r3.getD 0 0)), (6, .int .i64 0)]) (H' := [(0, .row (.int .i64) r3)]) (sub_mk (rn [(0, 1)]) (by exact ⟨⟨_, rfl, ad_ren rfl⟩, ⟨_, rfl, ad_ren rfl⟩, ⟨_, rfl, ad_ren rfl⟩, ⟨_, rfl, ad_ren rfl⟩, trivial⟩) (by exact ⟨⟨_, rfl, rfl⟩, trivial⟩) (by rfl) (nk rfl)) (al_cnt (fun i7 (s6 : Int × Int) => [(3, .os 0), (4, .int .i64 s6.1), (5, .int .i64 s6.2), (6, .int .i64 i7)]) (fun i7 (s6 : Int × Int) => [(0, .row (.int .i64) r3)]) (fun d i7 (s6 : Int × Int) => d = Int.toNat ((r3.length : Int) - i7) ∧ 0 ≤ i7 ∧ i7 ≤ (r3.length : Int)) h ⟨rfl, (by (try simp only [List.length_set, List.length_append, List.length_cons, List.length_nil, List.length_replicate, List.length_take, List.length_drop]) <;> omega), (by (try simp only [List.length_set, List.length_append, List.length_cons, List.length_nil, List.length_replicate, List.length_take, List.length_drop]) <;> omega)⟩ (fun d8 i7 s6 hI h ih8 => ?_)))
  obtain ⟨hd, _, _⟩ := hI
  refine al_round ?_
  refine aw_seq ?_
  refine aw_seq ?_
  refine aw_region ?_
  refine ao_read trivial (r_move rfl) rfl ?_
  refine ao_read trivial (r_move rfl) rfl ?_
  refine ao_read trivial (r_len_osm (r3.length : Int) Try.underlying29 rfl rfl rfl) rfl ?_
  refine ao_read trivial (r_lss rfl rfl) rfl ?_
  refine ao_nil ?_
  refine aq_then ?_
  refine aw_cond rfl (fun hb10 => ?_) (fun hb10 => ?_)
  · have q11 := d_t hb10
    obtain ⟨d8, rfl⟩ : ∃ e, d8 = e + 1 := ⟨d8 - 1, by omega⟩
    replace h := is_cntS h
    refine aw_skip ?_
    refine aq_then ?_
    refine aw_seq ?_
    refine aw_block ?_
    refine aw_seq ?_
    refine aw_region ?_
    refine ao_read trivial (r_move rfl) rfl ?_
    refine ao_read trivial (r_move rfl) rfl ?_
    refine ao_read trivial (r_move rfl) rfl ?_
    refine ao_read trivial (r_idxAddr_os Try.underlying29 Try.sizeOf3 rfl rfl rfl (by omega) (show i7 < (r3.length : Int) from by omega)) rfl ?_
    refine ao_read trivial (r_load_elem_int Try.isAgg3 Try.sizeOf3 rfl rfl (show i7.toNat < r3.length from by omega)) rfl ?_
    refine ao_scall trivial (scall (c_spec_l1Least (is_mk (rfl : p_spec_l1Least s6.1 (r3.getD i7.toNat 0) = _))) rfl Try.func65 rfl rfl rfl rfl (fun σ => ⟨ad_ren rfl, ad_ren rfl, trivial⟩)) rfl ?_
    refine ao_read trivial (r_assign rfl) rfl ?_
    refine ao_nil ?_
    refine aq_then ?_
    refine aw_region ?_
    refine ao_read trivial (r_move rfl) rfl ?_
    refine ao_read trivial (r_move rfl) rfl ?_
    refine ao_read trivial (r_move rfl) rfl ?_
    refine ao_read trivial (r_idxAddr_os Try.underlying29 Try.sizeOf3 rfl rfl rfl (by omega) (show i7 < (r3.length : Int) from by omega)) rfl ?_
    refine ao_read trivial (r_load_elem_int Try.isAgg3 Try.sizeOf3 rfl rfl (show i7.toNat < r3.length from by omega)) rfl ?_
    refine ao_scall trivial (scall (c_spec_l1Most (is_mk (rfl : p_spec_l1Most s6.2 (r3.getD i7.toNat 0) = _))) rfl Try.func66 rfl rfl rfl rfl (fun σ => ⟨ad_ren rfl, ad_ren rfl, trivial⟩)) rfl ?_
    refine ao_read trivial (r_assign rfl) rfl ?_
    refine ao_nil ?_
    refine aq_in ?_
    refine aq_then ?_
    refine aw_region ?_
    refine ao_read trivial (r_move rfl) rfl ?_
    refine ao_read trivial (r_addI rfl rfl (wrap_id (by omega) (by omega))) rfl ?_
    refine ao_read trivial (r_assign rfl) rfl ?_
    refine ao_nil ?_
    exact aq_again (AL.sub (sub_mk idn (by exact ⟨⟨_, rfl, ad_ren rfl⟩, ⟨_, rfl, ad_ren rfl⟩, ⟨_, rfl, ad_ren rfl⟩, ⟨_, rfl, ad_ren rfl⟩, trivial⟩) (by exact ⟨⟨_, rfl, rfl⟩, trivial⟩) (by rfl) (nk rfl)) (ih8 d8 (i7 + 1) ((p_spec_l1Least s6.1 (r3.getD i7.toNat 0)), (p_spec_l1Most s6.2 (r3.getD i7.toNat 0))) (by omega) ⟨by omega, (by (try simp only [List.length_set, List.length_append, List.length_cons, List.length_nil, List.length_replicate, List.length_take, List.length_drop]) <;> omega), (by (try simp only [List.length_set, List.length_append, List.length_cons, List.length_nil, List.length_replicate, List.length_take, List.length_drop]) <;> omega)⟩ h))
  · have q12 := d_f hb10
    obtain rfl : d8 = 0 := by omega
    replace h := is_cnt0 h
    refine aw_exit ?_
    refine aq_then_exit ?_
    refine aq_then_exit ?_
    refine aq_in_exit ?_
    refine aq_then ?_
    refine aw_seq ?_
    refine aw_region ?_
    refine ao_read trivial (r_move rfl) rfl ?_
    refine ao_read trivial (r_move rfl) rfl ?_
    refine ao_read trivial (r_sub rfl rfl) rfl ?_
    refine ao_read trivial (r_assign rfl) rfl ?_
    refine ao_nil ?_
    refine aq_then ?_
    refine aw_ret ?_
    refine aq_ret ?_
    obtain rfl := is_some h
    exact aq_finx (l := [.tmp 2]) (xs := [.int .i64 (IntKind.wrap .i64 (s6.2 - s6.1))]) idn [.int .i64 (IntKind.wrap .i64 (s6.2 - s6.1))] [] rfl (by exact ⟨rfl, trivial⟩) (by exact ⟨ad_ren rfl, trivial⟩) (by exact trivial) rfl (nk rfl) rfl rfl ⟨rfl, rfl⟩
theorem c_spec_MendLetters {fu : Nat} {x0 : (List Int)} {r : (List Int) × Int × Bool} (h : Is (p_spec_MendLetters fu x0) (some r)) :
    ACalls Try.prog 24 [.v (.slice (.int .i64)) x0] [] (fun r' H' => r' = .tup [.os 0, .int .i64 r.2.1, .bool r.2.2] ∧ H' = [(0, .row (.int .i64) r.1)]) := by
  unfold p_spec_MendLetters at h
  refine ac_enter ⟨52, 0⟩ Try.func24 rfl rfl rfl rfl rfl (fun Γ => ?_)
  refine sl_len_m 0 (x0.length : Int) rfl rfl (fun hl0 => ?_)
  refine aw_seq ?_
  refine aw_region ?_
  refine ao_read trivial (r_assign rfl) rfl ?_
  refine ao_read trivial (r_assign rfl) rfl ?_
  refine ao_read trivial (r_assign rfl) rfl ?_
  refine ao_nil ?_
  refine aq_then ?_
  refine aw_seq ?_
  refine aw_seq ?_
  refine aw_region ?_
  refine ao_read trivial (r_move rfl) rfl ?_
  obtain ⟨r1, r1h, h⟩ := is_bind h
  refine ao_scall trivial (scall (c_spec_l10Letters (is_mk r1h)) rfl Try.func43 rfl rfl rfl rfl (fun σ => ⟨ad_ren rfl, trivial⟩)) rfl ?_
  refine ao_read trivial (r_not rfl) rfl ?_
  refine ao_nil ?_
  refine aq_then ?_
  refine aw_cond rfl (fun hb2 => ?_) (fun hb2 => ?_)
  · replace h := is_else (ne_t (not_t hb2)) h
    refine aw_seq ?_
    refine aw_region ?_
    refine ao_eff trivial (e_buildSlice (l := []) (t := (.int .i64)) 0 [] rfl Try.underlying29 Try.zeroValue3 Try.sizeOf3 rfl rfl rfl rfl rfl rfl rfl) rfl ?_
    refine ao_read trivial (r_assign rfl) rfl ?_
    refine ao_read trivial (r_assign rfl) rfl ?_
    refine ao_read trivial (r_assign rfl) rfl ?_
    refine ao_nil ?_
    refine aq_then ?_
    refine aw_ret ?_
    refine aq_then_ret ?_
    refine aq_ret ?_
    obtain rfl := is_some h
    exact aq_finx (l := [.tmp 2, .tmp 3, .tmp 4]) (xs := [.os 0, .int .i64 0, .bool false]) idn [.os 0, .int .i64 0, .bool false] [(0, .row (.int .i64) ([] : (List Int)))] rfl (by exact ⟨rfl, rfl, rfl, trivial⟩) (by exact ⟨ad_ren rfl, ad_ren rfl, ad_ren rfl, trivial⟩) (by exact ⟨⟨_, rfl, rfl⟩, trivial⟩) rfl (nk rfl) rfl rfl ⟨rfl, rfl⟩
  · replace h := is_if (not_f hb2) h
    refine aw_skip ?_
    refine aq_then ?_
    refine aw_seq ?_
    refine aw_region ?_
    refine ao_read trivial (r_move rfl) rfl ?_
    obtain ⟨r3, r3h, h⟩ := is_bind h
    refine ao_call [] 1 trivial (c_spec_l1Own (is_mk r3h)) Try.func44 rfl rfl rfl rfl ⟨ad_ren rfl, trivial⟩ trivial rfl rfl rfl rfl rfl rfl rfl (fun r' H' hr => ?_)
    obtain ⟨rfl, rfl⟩ := hr
    refine ao_norm (y := .os 1) (H' := [(1, .row (.int .i64) r3)]) rfl rfl ?_
    refine row_len_o 1 (r3.length : Int) rfl rfl (fun hr4 => ?_)
    refine ao_read trivial (r_move rfl) rfl ?_
    obtain ⟨r5, r5h, h⟩ := is_bind h
    refine ao_scall trivial (scall (c_spec_l10Spread (is_mk r5h)) rfl Try.func45 rfl rfl rfl rfl (fun σ => ⟨ad_ren rfl, trivial⟩)) rfl ?_
    refine ao_read trivial (r_assign rfl) rfl ?_
    refine ao_read trivial (r_assign rfl) rfl ?_
    refine ao_nil ?_
    refine aq_then ?_
    refine aw_seq ?_
    refine aw_seq ?_
    refine aw_region ?_
    refine ao_read trivial (r_assign rfl) rfl ?_
    refine ao_nil ?_
    refine aq_then ?_
    refine aw_block ?_
    refine aw_loop (AL.sub (sub_mk (rn [(0, 1)]) (by exact ⟨⟨_, rfl, ad_ren rfl⟩, ⟨_, rfl, ad_ren rfl⟩, ⟨_, rfl, ad_ren rfl⟩, ⟨_, rfl, ad_ren rfl⟩, trivial⟩) (by exact ⟨⟨_, rfl, rfl⟩, trivial⟩) (by rfl) (nk rfl)) (al_whl (fun (s6 : Int × Int × (List Int)) => [(0, .v (.slice (.int .i64)) x0), (5, .os 0), (6, .int .i64 s6.1), (7, .int .i64 s6.2.1)]) (fun (s6 : Int × Int × (List Int)) => [(0, .row (.int .i64) s6.2.2)]) (fun (s6 : Int × Int × (List Int)) => s6.1 ≤ r5 ∧ 0 ≤ s6.2.1) h ⟨(by (try simp only [List.length_set, List.length_append, List.length_cons, List.length_nil, List.length_replicate, List.length_take, List.length_drop]) <;> omega), (by (try simp only [List.length_set, List.length_append, List.length_cons, List.length_nil, List.length_replicate, List.length_take, List.length_drop]) <;> omega)⟩ (fun d8 s6 hI h ih8 => ?_)))
    obtain ⟨_, _⟩ := hI
    replace h := is_whlS h
    refine al_round ?_
    refine aw_seq ?_
    refine aw_seq ?_
    refine aw_region ?_
    refine ao_read trivial (r_move rfl) rfl ?_
    refine ao_read trivial (r_add rfl rfl) rfl ?_
    refine ao_read trivial (r_move rfl) rfl ?_
    refine ao_read trivial (r_len_vm (x0.length : Int) Try.underlying29 rfl rfl) rfl ?_
    refine ao_read trivial (r_lss rfl rfl) rfl ?_
    refine ao_nil ?_
    refine aq_then ?_
    refine aw_cond rfl (fun hb10 => ?_) (fun hb10 => ?_)
    · have q11 := d_t hb10
      replace h := is_if (d_t hb10) h
      refine aw_skip ?_
      refine aq_then ?_
      refine aw_seq ?_
      refine aw_block ?_
      refine aw_seq ?_
      refine aw_region ?_
      refine ao_read trivial (r_move rfl) rfl ?_
      obtain ⟨r13, r13h, h⟩ := is_bind h
      refine ao_call [] 1 trivial (c_spec_l1Own (is_mk r13h)) Try.func44 rfl rfl rfl rfl ⟨ad_ren rfl, trivial⟩ trivial rfl rfl rfl rfl rfl rfl rfl (fun r' H' hr => ?_)
      obtain ⟨rfl, rfl⟩ := hr
      refine ao_norm (y := .os 1) (H' := [(0, .row (.int .i64) s6.2.2), (1, .row (.int .i64) r13)]) rfl rfl ?_
      refine row_len_o 1 (r13.length : Int) rfl rfl (fun hr14 => ?_)
      refine ao_read trivial (r_assign rfl) rfl ?_
      refine ao_nil ?_
      refine aq_then ?_
      refine aw_seq ?_
      refine aw_region ?_
      refine ao_read trivial (r_move rfl) rfl ?_
      refine ao_read trivial (r_move rfl) rfl ?_
      refine ao_read trivial (r_move rfl) rfl ?_
      refine ao_read trivial (r_move rfl) rfl ?_
      refine ao_read trivial (r_add rfl rfl) rfl ?_
      obtain ⟨g15, h⟩ := is_guard h
      refine ao_read trivial (r_idxAddr_int Try.underlying29 Try.sizeOf3 rfl rfl (by omega) (show (IntKind.wrap .i64 (s6.2.1 + 1)) < (x0.length : Int) from by omega)) rfl ?_
      refine ao_read trivial (r_load_c_int Try.isAgg3 Try.sizeOf3 rfl) rfl ?_
      obtain ⟨g16, h⟩ := is_guard h
      refine ao_read trivial (r_idxAddr_os Try.underlying29 Try.sizeOf3 rfl rfl rfl (by omega) (show s6.2.1 < (r13.length : Int) from by omega)) rfl ?_
      refine ao_effS trivial (e_store_elem_int Try.sizeOf3 rfl rfl rfl rfl (show s6.2.1.toNat < r13.length from by omega) rfl) ?_
      refine ao_nil ?_
      refine aq_then ?_
      refine aw_seq ?_
      refine aw_region ?_
      refine ao_read trivial (r_move rfl) rfl ?_
      refine ao_read trivial (r_move rfl) rfl ?_
      refine ao_read trivial (r_addI rfl rfl (wrap_id (by omega) (by omega))) rfl ?_
      refine ao_read trivial (r_move rfl) rfl ?_
      refine ao_read trivial (r_move rfl) rfl ?_
      obtain ⟨g17, h⟩ := is_guard h
      refine ao_read trivial (r_idxAddr_int Try.underlying29 Try.sizeOf3 rfl rfl (by omega) (show s6.2.1 < (x0.length : Int) from by omega)) rfl ?_
      refine ao_read trivial (r_load_c_int Try.isAgg3 Try.sizeOf3 rfl) rfl ?_
      obtain ⟨g18, h⟩ := is_guard h
      refine ao_read trivial (r_idxAddr_os Try.underlying29 Try.sizeOf3 rfl rfl rfl (by omega) (show (s6.2.1 + 1) < ((r13.set s6.2.1.toNat (x0.getD (IntKind.wrap .i64 (s6.2.1 + 1)).toNat 0)).length : Int) from by (try simp only [List.length_set]) <;> omega)) rfl ?_
      refine ao_effS trivial (e_store_elem_int Try.sizeOf3 rfl rfl rfl rfl (show (s6.2.1 + 1).toNat < (r13.set s6.2.1.toNat (x0.getD (IntKind.wrap .i64 (s6.2.1 + 1)).toNat 0)).length from by (try simp only [List.length_set]) <;> omega) rfl) ?_
      refine ao_nil ?_
      refine aq_then ?_
      refine aw_seq ?_
      refine aw_region ?_
      refine ao_read trivial (r_move rfl) rfl ?_
      obtain ⟨r19, r19h, h⟩ := is_bind h
      refine ao_scall trivial (scall (c_spec_l10Spread (is_mk r19h)) rfl Try.func45 rfl rfl rfl rfl (fun σ => ⟨ad_os0 rfl, trivial⟩)) rfl ?_
      refine ao_read trivial (r_assign rfl) rfl ?_
      refine ao_nil ?_
      refine aq_then ?_
      refine aw_seq ?_
      refine aw_region ?_
      refine ao_read trivial (r_move rfl) rfl ?_
      refine ao_read trivial (r_move rfl) rfl ?_
      refine ao_read trivial (r_lss rfl rfl) rfl ?_
      refine ao_nil ?_
      refine aq_then ?_
      refine aw_cond rfl (fun hb20 => ?_) (fun hb20 => ?_)
      · have q21 := d_t hb20
        replace h := is_if (d_t hb20) h
        refine aw_seq ?_
        refine aw_region ?_
        refine ao_read trivial (r_move rfl) rfl ?_
        refine ao_read trivial (r_assign rfl) rfl ?_
        refine ao_nil ?_
        refine aq_then ?_
        refine aw_region ?_
        refine ao_read trivial (r_move rfl) rfl ?_
        refine ao_read trivial (r_assign rfl) rfl ?_
        refine ao_nil ?_
        refine aq_in ?_
        refine aq_then ?_
        refine aw_region ?_
        refine ao_read trivial (r_move rfl) rfl ?_
        refine ao_read trivial (r_addI rfl rfl (wrap_id (by omega) (by omega))) rfl ?_
        refine ao_read trivial (r_assign rfl) rfl ?_
        refine ao_nil ?_
        exact aq_again (AL.sub (sub_mk (rn [(0, 1)]) (by exact ⟨⟨_, rfl, ad_ren rfl⟩, ⟨_, rfl, ad_ren rfl⟩, ⟨_, rfl, ad_ren rfl⟩, ⟨_, rfl, ad_ren rfl⟩, trivial⟩) (by exact ⟨⟨_, rfl, rfl⟩, trivial⟩) (by rfl) (nk rfl)) (ih8 (r19, (s6.2.1 + 1), ((r13.set s6.2.1.toNat (x0.getD (IntKind.wrap .i64 (s6.2.1 + 1)).toNat 0)).set (s6.2.1 + 1).toNat (x0.getD s6.2.1.toNat 0))) ⟨(by (try simp only [List.length_set, List.length_append, List.length_cons, List.length_nil, List.length_replicate, List.length_take, List.length_drop]) <;> omega), (by (try simp only [List.length_set, List.length_append, List.length_cons, List.length_nil, List.length_replicate, List.length_take, List.length_drop]) <;> omega)⟩ h))
      · have q22 := d_f hb20
        replace h := is_else (d_f hb20) h
        refine aw_skip ?_
        refine aq_in ?_
        refine aq_then ?_
        refine aw_region ?_
        refine ao_read trivial (r_move rfl) rfl ?_
        refine ao_read trivial (r_addI rfl rfl (wrap_id (by omega) (by omega))) rfl ?_
        refine ao_read trivial (r_assign rfl) rfl ?_
        refine ao_nil ?_
        exact aq_again (AL.sub (sub_mk idn (by exact ⟨⟨_, rfl, ad_ren rfl⟩, ⟨_, rfl, ad_ren rfl⟩, ⟨_, rfl, ad_ren rfl⟩, ⟨_, rfl, ad_ren rfl⟩, trivial⟩) (by exact ⟨⟨_, rfl, rfl⟩, trivial⟩) (by rfl) (nk rfl)) (ih8 (s6.1, (s6.2.1 + 1), s6.2.2) ⟨(by (try simp only [List.length_set, List.length_append, List.length_cons, List.length_nil, List.length_replicate, List.length_take, List.length_drop]) <;> omega), (by (try simp only [List.length_set, List.length_append, List.length_cons, List.length_nil, List.length_replicate, List.length_take, List.length_drop]) <;> omega)⟩ h))
    · have q12 := d_f hb10
      replace h := is_else (d_f hb10) h
      refine aw_exit ?_
      refine aq_then_exit ?_
      refine aq_then_exit ?_
      refine aq_in_exit ?_
      refine aq_then ?_
      refine aw_seq ?_
      refine aw_region ?_
      refine ao_read trivial (r_move rfl) rfl ?_
      refine ao_read trivial (r_move rfl) rfl ?_
      refine ao_read trivial (r_assign rfl) rfl ?_
      refine ao_read trivial (r_assign rfl) rfl ?_
      refine ao_read trivial (r_assign rfl) rfl ?_
      refine ao_nil ?_
      refine aq_then ?_
      refine aw_ret ?_
      refine aq_ret ?_
      obtain rfl := is_some h
      exact aq_finx (l := [.tmp 2, .tmp 3, .tmp 4]) (xs := [.os 0, .int .i64 s6.1, .bool true]) idn [.os 0, .int .i64 s6.1, .bool true] [(0, .row (.int .i64) s6.2.2)] rfl (by exact ⟨rfl, rfl, rfl, trivial⟩) (by exact ⟨ad_ren rfl, ad_ren rfl, ad_ren rfl, trivial⟩) (by exact ⟨⟨_, rfl, rfl⟩, trivial⟩) rfl (nk rfl) rfl rfl ⟨rfl, rfl⟩
theorem c_impl_fromLetters {x0 : (List Int)} {r : (List (List Int)) × Bool} (h : Is (p_impl_fromLetters x0) (some r)) :
    ACalls Try.prog 67 [.v (.slice (.int .i64)) x0] [] (fun r' H' => r' = .tup [.os 0, .bool r.2] ∧ H' = [(0, .row (.arr 6 (.int .i64)) r.1)]) := by
  unfold p_impl_fromLetters at h
  refine ac_enter ⟨62, 0⟩ Try.func67 rfl rfl rfl rfl rfl (fun Γ => ?_)
  refine sl_len_m 0 (x0.length : Int) rfl rfl (fun hl0 => ?_)
  refine aw_seq ?_
  refine aw_region ?_
  refine ao_read trivial (r_assign rfl) rfl ?_
  refine ao_read trivial (r_assign rfl) rfl ?_
  refine ao_nil ?_
  refine aq_then ?_
  refine aw_seq ?_
  refine aw_region ?_
  refine ao_read trivial (r_move rfl) rfl ?_
  refine ao_read trivial (r_len_vm (x0.length : Int) Try.underlying29 rfl rfl) rfl ?_
  refine ao_read trivial (r_quo rfl rfl (by decide)) rfl ?_
  refine ao_read trivial (r_assign rfl) rfl ?_
  refine ao_nil ?_
  refine aq_then ?_
  refine aw_seq ?_
  refine aw_seq ?_
  refine aw_region ?_
  refine ao_read trivial (r_move rfl) rfl ?_
  refine ao_read trivial (r_len_vm (x0.length : Int) Try.underlying29 rfl rfl) rfl ?_
  refine ao_read trivial (r_rem rfl rfl (by decide)) rfl ?_
  refine ao_read trivial (r_neq rfl rfl) rfl ?_
  refine ao_read trivial (r_move rfl) rfl ?_
  refine ao_readG (x := .int .i64 (IntKind.wrap .i64 ((x0.length : Int).tdiv 6))) rfl (GV.F rfl) (fun hg1 => by
      have q2 := d_t (not_f (not_t hg1))
      exact r_move rfl) rfl ?_
  refine ao_scallG (r := .bool (p_impl_within (IntKind.wrap .i64 ((x0.length : Int).tdiv 6)) 1 4)) rfl (GV.F rfl) (fun hg3 => by
      have q4 := d_t (not_f (not_t hg3))
      exact SCall.strip 17 rfl (hg3) (scall (c_impl_within (is_mk (rfl : p_impl_within (IntKind.wrap .i64 ((x0.length : Int).tdiv 6)) 1 4 = _))) rfl Try.func55 rfl rfl rfl rfl (fun σ => ⟨ad_ren rfl, ad_ren rfl, ad_ren rfl, trivial⟩))) rfl ?_
  refine ao_readG (x := .bool (!(p_impl_within (IntKind.wrap .i64 ((x0.length : Int).tdiv 6)) 1 4))) rfl (GV.F rfl) (fun hg5 => by
      have q6 := d_t (not_f (not_t hg5))
      exact Reads.strip 18 rfl (hg5) (r_not rfl)) rfl ?_
  refine ao_read trivial (r_orB rfl rfl) rfl ?_
  refine ao_nil ?_
  refine aq_then ?_
  refine aw_cond rfl (fun hb7 => ?_) (fun hb7 => ?_)
  · replace h := is_if hb7 h
    refine aw_seq ?_
    refine aw_region ?_
    refine ao_read trivial (r_assign rfl) rfl ?_
    refine ao_read trivial (r_assign rfl) rfl ?_
    refine ao_nil ?_
    refine aq_then ?_
    refine aw_ret ?_
    refine aq_then_ret ?_
    refine aq_ret ?_
    obtain rfl := is_some h
    refine AQ.sub (sub_nil (T := 2) (t := (.arr 6 (.int .i64))) 0 rfl rfl rfl) ?_
    exact aq_finx (l := [.tmp 2, .tmp 3]) (xs := [.os 0, .bool false]) idn [.os 0, .bool false] [(0, .row (.arr 6 (.int .i64)) ([] : (List (List Int))))] rfl (by exact ⟨rfl, rfl, trivial⟩) (by exact ⟨ad_ren rfl, ad_ren rfl, trivial⟩) (by exact ⟨⟨_, rfl, rfl⟩, trivial⟩) rfl (nk rfl) rfl rfl ⟨rfl, rfl⟩
  · obtain ⟨q8, q9⟩ := or_f hb7
    have q10 := d_t (not_f q8)
    replace h := is_else (ne_t hb7) h
    refine aw_skip ?_
    refine aq_then ?_
    refine aw_seq ?_
    obtain ⟨g11, h⟩ := is_guard h
    obtain ⟨g12, h⟩ := is_guard h
    refine aw_drawAll (by kernel_rfl) ?_
    refine an_to [(0, .v (.slice (.int .i64)) x0), (4, .int .i64 (IntKind.wrap .i64 ((x0.length : Int).tdiv 6))), (5, .os 0), (6, .os 1)] [(0, .row (.arr 6 (.int .i64)) ((List.replicate (IntKind.wrap .i64 ((x0.length : Int).tdiv 6)).toNat (List.replicate 6 0)) : (List (List Int)))), (1, .row (.int .i64) ((List.replicate (IntKind.wrap .i64 ((x0.length : Int).tdiv 6)).toNat 0) : (List Int)))] ?_ (fun key => ?_)
    · refine aq_then ?_
      refine aw_seq ?_
      refine aw_seq ?_
      refine aw_region ?_
      refine ao_read trivial (r_move rfl) rfl ?_
      refine ao_read trivial (r_len_vm (x0.length : Int) Try.underlying29 rfl rfl) rfl ?_
      refine ao_read trivial (r_move rfl) rfl ?_
      refine ao_nil ?_
      refine aq_then ?_
      refine aw_block ?_
      refine aw_loop (AL.sub (fr' := [(4, .int .i64 (IntKind.wrap .i64 ((x0.length : Int).tdiv 6))), (5, .os 0), (6, .os 1), (25, .v (.slice (.int .i64)) x0), (26, .int .i64 (x0.length : Int)), (27, .int .i64 0)]) (H' := [(0, .row (.arr 6 (.int .i64)) ((List.replicate (IntKind.wrap .i64 ((x0.length : Int).tdiv 6)).toNat (List.replicate 6 0)) : (List (List Int)))), (1, .row (.int .i64) ((List.replicate (IntKind.wrap .i64 ((x0.length : Int).tdiv 6)).toNat 0) : (List Int)))]) (sub_mk idn (by exact ⟨⟨_, rfl, ad_ren rfl⟩, ⟨_, rfl, ad_ren rfl⟩, ⟨_, rfl, ad_ren rfl⟩, ⟨_, rfl, ad_ren rfl⟩, ⟨_, rfl, ad_ren rfl⟩, ⟨_, rfl, ad_ren rfl⟩, trivial⟩) (by exact ⟨⟨_, rfl, rfl⟩, ⟨_, rfl, rfl⟩, trivial⟩) (by rfl) (nk rfl)) (al_cnt (fun i14 (s13 : (List (List Int)) × (List Int)) => [(4, .int .i64 (IntKind.wrap .i64 ((x0.length : Int).tdiv 6))), (5, .os 0), (6, .os 1), (25, .v (.slice (.int .i64)) x0), (26, .int .i64 (x0.length : Int)), (27, .int .i64 i14)]) (fun i14 (s13 : (List (List Int)) × (List Int)) => [(0, .row (.arr 6 (.int .i64)) s13.1), (1, .row (.int .i64) s13.2)]) (fun d i14 (s13 : (List (List Int)) × (List Int)) => d = Int.toNat ((x0.length : Int) - i14) ∧ 0 ≤ i14 ∧ (s13.1.length : Int) = (IntKind.wrap .i64 ((x0.length : Int).tdiv 6)) ∧ (s13.2.length : Int) = (IntKind.wrap .i64 ((x0.length : Int).tdiv 6)) ∧ i14 ≤ (x0.length : Int)) h ⟨rfl, (by (try simp only [List.length_set, List.length_append, List.length_cons, List.length_nil, List.length_replicate, List.length_take, List.length_drop]) <;> omega), (by (try simp only [List.length_set, List.length_append, List.length_cons, List.length_nil, List.length_replicate, List.length_take, List.length_drop]) <;> omega), (by (try simp only [List.length_set, List.length_append, List.length_cons, List.length_nil, List.length_replicate, List.length_take, List.length_drop]) <;> omega), (by (try simp only [List.length_set, List.length_append, List.length_cons, List.length_nil, List.length_replicate, List.length_take, List.length_drop]) <;> omega)⟩ (fun d15 i14 s13 hI h ih15 => ?_)))
      obtain ⟨hd, _, _, _, _⟩ := hI
      refine al_round ?_
      refine aw_seq ?_
      refine aw_region ?_
      refine ao_read trivial (r_lss rfl rfl) rfl ?_
      refine ao_nil ?_
      refine aq_then ?_
      refine aw_seq ?_
      refine aw_cond rfl (fun hb17 => ?_) (fun hb17 => ?_)
      · have q18 := d_t hb17
        obtain ⟨d15, rfl⟩ : ∃ e, d15 = e + 1 := ⟨d15 - 1, by omega⟩
        replace h := is_cntS h
        refine aw_skip ?_
        refine aq_then ?_
        refine aw_seq ?_
        refine aw_block ?_
        refine aw_seq ?_
        refine aw_region ?_
        refine ao_read trivial (r_move rfl) rfl ?_
        refine ao_read trivial (r_idxAddr_int Try.underlying29 Try.sizeOf3 rfl rfl (by omega) (show i14 < (x0.length : Int) from by omega)) rfl ?_
        refine ao_read trivial (r_load_c_int Try.isAgg3 Try.sizeOf3 rfl) rfl ?_
        refine ao_read trivial (r_assign rfl) rfl ?_
        refine ao_read trivial (r_assign rfl) rfl ?_
        refine ao_nil ?_
        refine aq_then ?_
        refine aw_seq ?_
        refine aw_seq ?_
        refine aw_region ?_
        refine ao_read trivial (r_move rfl) rfl ?_
        refine ao_read trivial (r_move rfl) rfl ?_
        refine ao_read trivial (r_subI rfl rfl (wrap_id (by omega) (by omega))) rfl ?_
        refine ao_scall trivial (scall (c_impl_within (is_mk (rfl : p_impl_within (x0.getD i14.toNat 0) 0 ((IntKind.wrap .i64 ((x0.length : Int).tdiv 6)) - 1) = _))) rfl Try.func55 rfl rfl rfl rfl (fun σ => ⟨ad_ren rfl, ad_ren rfl, ad_ren rfl, trivial⟩)) rfl ?_
        refine ao_read trivial (r_not rfl) rfl ?_
        refine ao_read trivial (r_move rfl) rfl ?_
        refine ao_readG (x := .os 1) rfl (GV.F rfl) (fun hg20 => r_move rfl) rfl ?_
        refine ao_readG (x := .int .i64 (x0.getD i14.toNat 0)) rfl (GV.F rfl) (fun hg21 => r_move rfl) rfl ?_
        obtain ⟨g23, h⟩ := is_guard h
        obtain ⟨g24, h⟩ := is_guard h
        refine ao_readG (x := .elem 1 0 1 (x0.getD i14.toNat 0).toNat) rfl (GV.F rfl) (fun hg22 => by
      have g23a := g23 hg22
      have g24a := g24 hg22
      exact Reads.strip 38 rfl (hg22) (Reads.strip 39 rfl (hg22) (r_idxAddr_os Try.underlying29 Try.sizeOf3 rfl rfl rfl (by omega) (show (x0.getD i14.toNat 0) < (s13.2.length : Int) from by omega)))) rfl ?_
        refine ao_readG (x := .int .i64 (s13.2.getD (x0.getD i14.toNat 0).toNat 0)) rfl (GV.F rfl) (fun hg25 => by
      have w26 := g23 (hg25)
      have w27 := g24 (hg25)
      exact Reads.strip 40 rfl (hg25) (r_load_elem_int Try.isAgg3 Try.sizeOf3 rfl rfl (show (x0.getD i14.toNat 0).toNat < s13.2.length from by omega))) rfl ?_
        refine ao_readG (x := .bool (decide ((s13.2.getD (x0.getD i14.toNat 0).toNat 0) = 6))) rfl (GV.F rfl) (fun hg28 => by
      have w29 := g23 (hg28)
      have w30 := g24 (hg28)
      exact Reads.strip 41 rfl (hg28) (r_eql rfl rfl)) rfl ?_
        refine ao_read trivial (r_orB rfl rfl) rfl ?_
        refine ao_nil ?_
        refine aq_then ?_
        refine aw_cond rfl (fun hb31 => ?_) (fun hb31 => ?_)
        · replace h := is_if hb31 h
          refine aw_seq ?_
          refine aw_region ?_
          refine ao_read trivial (r_assign rfl) rfl ?_
          refine ao_read trivial (r_assign rfl) rfl ?_
          refine ao_nil ?_
          refine aq_then ?_
          refine aw_ret ?_
          refine aq_then_ret ?_
          refine aq_in_ret ?_
          refine aq_then_ret ?_
          refine aq_then_ret ?_
          refine aq_in_ret ?_
          refine aq_then_ret ?_
          refine aq_ret ?_
          obtain rfl := is_some h
          refine AQ.sub (sub_nil (T := 2) (t := (.arr 6 (.int .i64))) 2 rfl rfl rfl) ?_
          exact aq_finx (l := [.tmp 2, .tmp 3]) (xs := [.os 2, .bool false]) (rn [(0, 2)]) [.os 0, .bool false] [(0, .row (.arr 6 (.int .i64)) ([] : (List (List Int))))] rfl (by exact ⟨rfl, rfl, trivial⟩) (by exact ⟨ad_ren rfl, ad_ren rfl, trivial⟩) (by exact ⟨⟨_, rfl, rfl⟩, trivial⟩) rfl (nk rfl) rfl rfl ⟨rfl, rfl⟩
        · obtain ⟨q32, q33⟩ := or_f hb31
          have q34 := d_f q33
          replace h := is_else (ne_t hb31) h
          refine aw_skip ?_
          refine aq_then ?_
          refine aw_seq ?_
          obtain ⟨g35, h⟩ := is_guard h
          obtain ⟨g36, h⟩ := is_guard h
          obtain ⟨g37, h⟩ := is_guard h
          obtain ⟨g38, h⟩ := is_guard h
          refine aw_draw 10 (by kernel_rfl) (by kernel_rfl) ?_
          refine an_read 0 (by kernel_rfl) (fun _ _ _ h => h) rfl (by kernel_rfl) trivial (r_move rfl) rfl ?_
          refine an_read 1 (by kernel_rfl) (fun _ _ _ h => h) rfl (by kernel_rfl) trivial (r_move rfl) rfl ?_
          refine an_read 2 (by kernel_rfl) (fun _ _ _ h => h) rfl (by kernel_rfl) trivial (r_move rfl) rfl ?_
          refine an_read 3 (by kernel_rfl) (fun _ _ _ h => h) rfl (by kernel_rfl) trivial (r_move rfl) rfl ?_
          refine an_read 4 (by kernel_rfl) (fun _ _ _ h => h) rfl (by kernel_rfl) trivial (r_idxAddr_os Try.underlying29 Try.sizeOf3 rfl rfl rfl (by omega) (show (x0.getD i14.toNat 0) < (s13.2.length : Int) from by omega)) rfl ?_
          refine an_read 5 (by kernel_rfl) (fun _ _ _ h => h) rfl (by kernel_rfl) trivial (r_load_elem_int Try.isAgg3 Try.sizeOf3 rfl rfl (show (x0.getD i14.toNat 0).toNat < s13.2.length from by omega)) rfl ?_
          refine an_read 6 (by kernel_rfl) (fun _ _ _ h => h) rfl (by kernel_rfl) trivial (r_move rfl) rfl ?_
          refine an_read 7 (by kernel_rfl) (fun _ _ _ h => h) rfl (by kernel_rfl) trivial (r_addI rfl rfl (wrap_id (by omega) (by omega))) rfl ?_
          refine an_read 8 (by kernel_rfl) (fun _ _ _ h => h) rfl (by kernel_rfl) trivial (r_idxAddr_os Try.underlying22 Try.sizeOf44 rfl rfl rfl (by omega) (show (x0.getD i14.toNat 0) < (s13.1.length : Int) from by omega)) rfl ?_
          refine an_read 9 (by kernel_rfl) (fun _ _ _ h => h) rfl (by kernel_rfl) trivial (r_idxAddr_elem Try.underlying44 Try.sizeOf3 rfl rfl (by omega) (by omega)) rfl ?_
          refine an_tail rfl rfl ?_
          refine ao_effS trivial (e_store_elem2_int (m := 6) Try.sizeOf3 rfl rfl rfl rfl rfl (show (x0.getD i14.toNat 0).toNat < s13.1.length from by omega) rfl (by omega) rfl) ?_
          refine ao_nil ?_
          refine aq_then ?_
          refine aw_region ?_
          refine ao_read trivial (r_move rfl) rfl ?_
          refine ao_read trivial (r_move rfl) rfl ?_
          refine ao_read trivial (r_idxAddr_os Try.underlying29 Try.sizeOf3 rfl rfl rfl (by omega) (show (x0.getD i14.toNat 0) < (s13.2.length : Int) from by omega)) rfl ?_
          refine ao_read trivial (r_load_elem_int Try.isAgg3 Try.sizeOf3 rfl rfl (show (x0.getD i14.toNat 0).toNat < s13.2.length from by omega)) rfl ?_
          refine ao_read trivial (r_addI rfl rfl (wrap_id (by omega) (by omega))) rfl ?_
          refine ao_read trivial (r_idxAddr_os Try.underlying29 Try.sizeOf3 rfl rfl rfl (by omega) (show (x0.getD i14.toNat 0) < (s13.2.length : Int) from by omega)) rfl ?_
          refine ao_effS trivial (e_store_elem_int Try.sizeOf3 rfl rfl rfl rfl (show (x0.getD i14.toNat 0).toNat < s13.2.length from by omega) rfl) ?_
          refine ao_nil ?_
          refine aq_in ?_
          refine aq_then ?_
          refine aw_region ?_
          refine ao_read trivial (r_addI rfl rfl (wrap_id (by omega) (by omega))) rfl ?_
          refine ao_read trivial (r_move rfl) rfl ?_
          refine ao_nil ?_
          exact aq_again (AL.sub (sub_mk idn (by exact ⟨⟨_, rfl, ad_ren rfl⟩, ⟨_, rfl, ad_ren rfl⟩, ⟨_, rfl, ad_ren rfl⟩, ⟨_, rfl, ad_ren rfl⟩, ⟨_, rfl, ad_ren rfl⟩, ⟨_, rfl, ad_ren rfl⟩, trivial⟩) (by exact ⟨⟨_, rfl, rfl⟩, ⟨_, rfl, rfl⟩, trivial⟩) (by rfl) (nk rfl)) (ih15 d15 (i14 + 1) ((s13.1.set (x0.getD i14.toNat 0).toNat ((s13.1.getD (x0.getD i14.toNat 0).toNat (List.replicate 6 0)).set (s13.2.getD (x0.getD i14.toNat 0).toNat 0).toNat (i14 + 1))), (s13.2.set (x0.getD i14.toNat 0).toNat ((s13.2.getD (x0.getD i14.toNat 0).toNat 0) + 1))) (by omega) ⟨by omega, (by (try simp only [List.length_set, List.length_append, List.length_cons, List.length_nil, List.length_replicate, List.length_take, List.length_drop]) <;> omega), (by (try simp only [List.length_set, List.length_append, List.length_cons, List.length_nil, List.length_replicate, List.length_take, List.length_drop]) <;> omega), (by (try simp only [List.length_set, List.length_append, List.length_cons, List.length_nil, List.length_replicate, List.length_take, List.length_drop]) <;> omega), (by (try simp only [List.length_set, List.length_append, List.length_cons, List.length_nil, List.length_replicate, List.length_take, List.length_drop]) <;> omega)⟩ h))
      · have q19 := d_f hb17
        obtain rfl : d15 = 0 := by omega
        replace h := is_cnt0 h
        refine aw_exit ?_
        refine aq_then_exit ?_
        refine aq_then_exit ?_
        refine aq_in_exit ?_
        refine aq_then ?_
        refine aw_seq ?_
        refine aw_region ?_
        refine ao_read trivial (r_move rfl) rfl ?_
        refine ao_read trivial (r_assign rfl) rfl ?_
        refine ao_read trivial (r_assign rfl) rfl ?_
        refine ao_nil ?_
        refine aq_then ?_
        refine aw_ret ?_
        refine aq_ret ?_
        obtain rfl := is_some h
        exact aq_finx (l := [.tmp 2, .tmp 3]) (xs := [.os 0, .bool true]) idn [.os 0, .bool true] [(0, .row (.arr 6 (.int .i64)) s13.1)] rfl (by exact ⟨rfl, rfl, trivial⟩) (by exact ⟨ad_ren rfl, ad_ren rfl, trivial⟩) (by exact ⟨⟨_, rfl, rfl⟩, trivial⟩) rfl (nk rfl) rfl rfl ⟨rfl, rfl⟩
    · refine an_read 0 (by kernel_rfl) (fun _ _ _ h => h) rfl (by kernel_rfl) trivial (r_move rfl) rfl ?_
      refine an_read 2 (by kernel_rfl) (fun _ _ _ h => h) rfl (by kernel_rfl) trivial (r_move rfl) rfl ?_
      refine an_explore 1 rfl ?_
      refine ax_all [1, 3] (by kernel_rfl) ⟨?_, ?_, trivial⟩
      · refine axo_eff 1 rfl trivial (e_makeSlice 1 (t := (.arr 6 (.int .i64))) Try.underlying22 (rfl : Try.prog.info? 44 = some _) rfl rfl rfl rfl rfl rfl (by omega) (by omega) rfl rfl) rfl rfl ?_
        refine ax_all [3, 4] (by kernel_rfl) ⟨?_, ?_, trivial⟩
        · refine axo_eff 3 rfl trivial (e_makeSlice 2 (t := (.int .i64)) Try.underlying29 (rfl : Try.prog.info? 3 = some _) rfl rfl rfl rfl rfl rfl (by omega) (by omega) rfl rfl) rfl rfl ?_
          refine ax_all [4] (by kernel_rfl) ⟨?_, trivial⟩
          refine axo_read 4 rfl trivial (r_assign rfl) rfl ?_
          refine ax_all [5] (by kernel_rfl) ⟨?_, trivial⟩
          refine axo_read 5 rfl trivial (r_assign rfl) rfl ?_
          exact ax_done rfl (AQ.sub (sub_mk (rn [(0, 1), (1, 2)]) (by exact ⟨⟨_, rfl, ad_ren rfl⟩, ⟨_, rfl, ad_ren rfl⟩, ⟨_, rfl, ad_ren rfl⟩, ⟨_, rfl, ad_ren rfl⟩, trivial⟩) (by exact ⟨⟨_, rfl, rfl⟩, ⟨_, rfl, rfl⟩, trivial⟩) (by rfl) (nk rfl)) key)
        · refine axo_read 4 rfl trivial (r_assign rfl) rfl ?_
          refine ax_all [3] (by kernel_rfl) ⟨?_, trivial⟩
          refine axo_eff 3 rfl trivial (e_makeSlice 2 (t := (.int .i64)) Try.underlying29 (rfl : Try.prog.info? 3 = some _) rfl rfl rfl rfl rfl rfl (by omega) (by omega) rfl rfl) rfl rfl ?_
          refine ax_all [5] (by kernel_rfl) ⟨?_, trivial⟩
          refine axo_read 5 rfl trivial (r_assign rfl) rfl ?_
          exact ax_done rfl (AQ.sub (sub_mk (rn [(0, 1), (1, 2)]) (by exact ⟨⟨_, rfl, ad_ren rfl⟩, ⟨_, rfl, ad_ren rfl⟩, ⟨_, rfl, ad_ren rfl⟩, ⟨_, rfl, ad_ren rfl⟩, trivial⟩) (by exact ⟨⟨_, rfl, rfl⟩, ⟨_, rfl, rfl⟩, trivial⟩) (by rfl) (nk rfl)) key)
      · refine axo_eff 3 rfl trivial (e_makeSlice 1 (t := (.int .i64)) Try.underlying29 (rfl : Try.prog.info? 3 = some _) rfl rfl rfl rfl rfl rfl (by omega) (by omega) rfl rfl) rfl rfl ?_
        refine ax_all [1] (by kernel_rfl) ⟨?_, trivial⟩
        refine axo_eff 1 rfl trivial (e_makeSlice 2 (t := (.arr 6 (.int .i64))) Try.underlying22 (rfl : Try.prog.info? 44 = some _) rfl rfl rfl rfl rfl rfl (by omega) (by omega) rfl rfl) rfl rfl ?_
        refine ax_all [4] (by kernel_rfl) ⟨?_, trivial⟩
        refine axo_read 4 rfl trivial (r_assign rfl) rfl ?_
        refine ax_all [5] (by kernel_rfl) ⟨?_, trivial⟩
        refine axo_read 5 rfl trivial (r_assign rfl) rfl ?_
        exact ax_done rfl (AQ.sub (sub_mk (rn [(0, 2)]) (by exact ⟨⟨_, rfl, ad_ren rfl⟩, ⟨_, rfl, ad_ren rfl⟩, ⟨_, rfl, ad_ren rfl⟩, ⟨_, rfl, ad_ren rfl⟩, trivial⟩) (by exact ⟨⟨_, rfl, rfl⟩, ⟨_, rfl, rfl⟩, trivial⟩) (by rfl) (nk rfl)) key)
theorem c_impl_LettersWays {fu : Nat} {x0 : (List Int)} {r : (List Int) × Bool} (h : Is (p_impl_LettersWays fu x0) (some r)) :
    ACalls Try.prog 46 [.v (.slice (.int .i64)) x0] [] (fun r' H' => r' = .tup [.os 0, .bool r.2] ∧ H' = [(0, .row (.int .i64) r.1)]) := by
  unfold p_impl_LettersWays at h
  refine ac_enter ⟨15, 0⟩ Try.func46 rfl rfl rfl rfl rfl (fun Γ => ?_)
  refine sl_len_m 0 (x0.length : Int) rfl rfl (fun hl0 => ?_)
  refine aw_seq ?_
  refine aw_region ?_
  refine ao_read trivial (r_assign rfl) rfl ?_
  refine ao_read trivial (r_assign rfl) rfl ?_
  refine ao_nil ?_
  refine aq_then ?_
  refine aw_seq ?_
  refine aw_region ?_
  refine ao_read trivial (r_move rfl) rfl ?_
  obtain ⟨r1, r1h, h⟩ := is_bind h
  refine ao_call [] 0 trivial (c_impl_fromLetters (is_mk r1h)) Try.func67 rfl rfl rfl rfl ⟨ad_ren rfl, trivial⟩ trivial rfl rfl rfl rfl rfl rfl rfl (fun r' H' hr => ?_)
  obtain ⟨rfl, rfl⟩ := hr
  refine ao_norm (y := .tup [.os 0, .bool r1.2]) (H' := [(0, .row (.arr 6 (.int .i64)) r1.1)]) rfl rfl ?_
  refine row_len_o 0 (r1.1.length : Int) rfl rfl (fun hr2 => ?_)
  refine ao_read trivial (r_move rfl) rfl ?_
  refine ao_read trivial (r_extract rfl rfl) rfl ?_
  refine ao_read trivial (r_extract rfl rfl) rfl ?_
  refine ao_read trivial (r_assign rfl) rfl ?_
  refine ao_read trivial (r_assign rfl) rfl ?_
  refine ao_nil ?_
  refine aq_then ?_
  refine aw_seq ?_
  refine aw_seq ?_
  refine aw_region ?_
  refine ao_read trivial (r_move rfl) rfl ?_
  refine ao_read trivial (r_not rfl) rfl ?_
  refine ao_nil ?_
  refine aq_then ?_
  refine aw_cond rfl (fun hb3 => ?_) (fun hb3 => ?_)
  · replace h := is_else (ne_t (not_t hb3)) h
    refine aw_seq ?_
    refine aw_region ?_
    refine ao_read trivial (r_assign rfl) rfl ?_
    refine ao_read trivial (r_assign rfl) rfl ?_
    refine ao_nil ?_
    refine aq_then ?_
    refine aw_ret ?_
    refine aq_then_ret ?_
    refine aq_ret ?_
    obtain rfl := is_some h
    refine AQ.sub (sub_nil (T := 2) (t := (.int .i64)) 1 rfl rfl rfl) ?_
    exact aq_finx (l := [.tmp 2, .tmp 3]) (xs := [.os 1, .bool false]) (rn [(0, 1)]) [.os 0, .bool false] [(0, .row (.int .i64) ([] : (List Int)))] rfl (by exact ⟨rfl, rfl, trivial⟩) (by exact ⟨ad_ren rfl, ad_ren rfl, trivial⟩) (by exact ⟨⟨_, rfl, rfl⟩, trivial⟩) rfl (nk rfl) rfl rfl ⟨rfl, rfl⟩
  · replace h := is_if (not_f hb3) h
    refine aw_skip ?_
    refine aq_then ?_
    refine aw_seq ?_
    refine aw_region ?_
    refine ao_read trivial (r_move rfl) rfl ?_
    obtain ⟨r4, r4h, h⟩ := is_bind h
    refine ao_call [] 2 trivial (c_impl_orderWays (is_mk r4h)) Try.func38 rfl rfl rfl rfl ⟨ad_os0 rfl, trivial⟩ trivial rfl rfl rfl rfl rfl rfl rfl (fun r' H' hr => ?_)
    obtain ⟨rfl, rfl⟩ := hr
    refine ao_norm (y := .os 2) (H' := [(0, .row (.arr 6 (.int .i64)) r1.1), (2, .row (.int .i64) r4)]) rfl rfl ?_
    refine row_len_o 2 (r4.length : Int) rfl rfl (fun hr5 => ?_)
    refine ao_read trivial (r_assign rfl) rfl ?_
    refine ao_read trivial (r_assign rfl) rfl ?_
    refine ao_nil ?_
    refine aq_then ?_
    refine aw_ret ?_
    refine aq_ret ?_
    obtain rfl := is_some h
    exact aq_finx (l := [.tmp 2, .tmp 3]) (xs := [.os 2, .bool true]) (rn [(0, 2)]) [.os 0, .bool true] [(0, .row (.int .i64) r4)] rfl (by exact ⟨rfl, rfl, trivial⟩) (by exact ⟨ad_ren rfl, ad_ren rfl, trivial⟩) (by exact ⟨⟨_, rfl, rfl⟩, trivial⟩) rfl (nk rfl) rfl rfl ⟨rfl, rfl⟩
theorem c_slices_Clone_int_int {x0 : (List Int)} {r : (List Int)} (h : Is (p_slices_Clone_int_int x0) (some r)) :
    ACalls Try.prog 47 [.v (.slice (.int .i64)) x0] [] (fun r' H' => r' = .os 0 ∧ H' = [(0, .row (.int .i64) r)]) := by
  unfold p_slices_Clone_int_int at h
  refine ac_enter ⟨8, 0⟩ Try.func47 rfl rfl rfl rfl rfl (fun Γ => ?_)
  refine sl_len_m 0 (x0.length : Int) rfl rfl (fun hl0 => ?_)
  refine aw_seq ?_
  refine aw_region ?_
  refine ao_read trivial (r_assign rfl) rfl ?_
  refine ao_nil ?_
  refine aq_then ?_
  refine aw_seq ?_
  refine aw_seq ?_
  refine aw_region ?_
  refine ao_read trivial (r_move rfl) rfl ?_
  refine ao_eqnil trivial Try.underlying29 rfl rfl rfl (fun b1 hn2 => ?_)
  refine ao_nil ?_
  refine aq_then ?_
  refine aw_cond rfl (fun hb3 => ?_) (fun hb3 => ?_)
  · obtain rfl : x0 = [] := hn2 hb3
    replace h : Is (some [] : Option ((List Int))) (some r) := (by simpa using h)
    refine aw_seq ?_
    refine aw_region ?_
    refine ao_read trivial (r_assign rfl) rfl ?_
    refine ao_nil ?_
    refine aq_then ?_
    refine aw_ret ?_
    refine aq_then_ret ?_
    refine aq_ret ?_
    obtain rfl := is_some h
    refine AQ.sub (sub_nil (T := 2) (t := (.int .i64)) 0 rfl rfl rfl) ?_
    exact aq_finx (l := [.tmp 2]) (xs := [.os 0]) idn [.os 0] [(0, .row (.int .i64) ([] : (List Int)))] rfl (by exact ⟨rfl, trivial⟩) (by exact ⟨ad_ren rfl, trivial⟩) (by exact ⟨⟨_, rfl, rfl⟩, trivial⟩) rfl (nk rfl) rfl rfl ⟨rfl, rfl⟩
  · refine aw_skip ?_
    refine aq_then ?_
    refine aw_seq ?_
    refine aw_region ?_
    refine ao_eff trivial (e_buildSlice (l := []) (t := (.int .i64)) 1 [] rfl Try.underlying29 Try.zeroValue3 Try.sizeOf3 rfl rfl rfl rfl rfl rfl rfl) rfl ?_
    refine ao_read trivial (r_move rfl) rfl ?_
    obtain ⟨g4, h⟩ := is_guard h
    refine ao_eff trivial (e_append (t := (.int .i64)) 2 rfl Try.underlying29 (rfl : Try.prog.info? 3 = some _) rfl rfl rfl rfl rfl rfl rfl src_v (show [].length + x0.length ≤ 1000000000 from by (try simp only [List.length_cons, List.length_nil]) <;> omega) rfl rfl) rfl ?_
    refine ao_read trivial (r_assign rfl) rfl ?_
    refine ao_nil ?_
    refine aq_then ?_
    refine aw_ret ?_
    refine aq_ret ?_
    obtain rfl := is_some h
    exact aq_finx (l := [.tmp 2]) (xs := [.os 2]) (rn [(0, 2)]) [.os 0] [(0, .row (.int .i64) (([] ++ x0) : (List Int)))] rfl (by exact ⟨rfl, trivial⟩) (by exact ⟨ad_ren rfl, trivial⟩) (by exact ⟨⟨_, rfl, rfl⟩, trivial⟩) rfl (nk rfl) rfl rfl ⟨rfl, rfl⟩
theorem c_impl_MendLetters {fu : Nat} {x0 : (List Int)} {r : (List Int) × Int × Bool} (h : Is (p_impl_MendLetters fu x0) (some r)) :
    ACalls Try.prog 26 [.v (.slice (.int .i64)) x0] [] (fun r' H' => r' = .tup [.os 0, .int .i64 r.2.1, .bool r.2.2] ∧ H' = [(0, .row (.int .i64) r.1)]) := by
  unfold p_impl_MendLetters at h
  refine ac_enter ⟨69, 0⟩ Try.func26 rfl rfl rfl rfl rfl (fun Γ => ?_)
  refine sl_len_m 0 (x0.length : Int) rfl rfl (fun hl0 => ?_)
  refine aw_seq ?_
  refine aw_region ?_
  refine ao_read trivial (r_assign rfl) rfl ?_
  refine ao_read trivial (r_assign rfl) rfl ?_
  refine ao_read trivial (r_assign rfl) rfl ?_
  refine ao_nil ?_
  refine aq_then ?_
  refine aw_seq ?_
  refine aw_region ?_
  refine ao_read trivial (r_move rfl) rfl ?_
  obtain ⟨r1, r1h, h⟩ := is_bind h
  refine ao_call [] 0 trivial (c_impl_LettersWays (is_mk r1h)) Try.func46 rfl rfl rfl rfl ⟨ad_ren rfl, trivial⟩ trivial rfl rfl rfl rfl rfl rfl rfl (fun r' H' hr => ?_)
  obtain ⟨rfl, rfl⟩ := hr
  refine ao_norm (y := .tup [.os 0, .bool r1.2]) (H' := [(0, .row (.int .i64) r1.1)]) rfl rfl ?_
  refine row_len_o 0 (r1.1.length : Int) rfl rfl (fun hr2 => ?_)
  refine ao_read trivial (r_move rfl) rfl ?_
  refine ao_read trivial (r_extract rfl rfl) rfl ?_
  refine ao_read trivial (r_extract rfl rfl) rfl ?_
  refine ao_read trivial (r_assign rfl) rfl ?_
  refine ao_read trivial (r_assign rfl) rfl ?_
  refine ao_nil ?_
  refine aq_then ?_
  refine aw_seq ?_
  refine aw_seq ?_
  refine aw_region ?_
  refine ao_read trivial (r_move rfl) rfl ?_
  refine ao_read trivial (r_not rfl) rfl ?_
  refine ao_nil ?_
  refine aq_then ?_
  refine aw_cond rfl (fun hb3 => ?_) (fun hb3 => ?_)
  · replace h := is_else (ne_t (not_t hb3)) h
    refine aw_seq ?_
    refine aw_region ?_
    refine ao_read trivial (r_assign rfl) rfl ?_
    refine ao_read trivial (r_assign rfl) rfl ?_
    refine ao_read trivial (r_assign rfl) rfl ?_
    refine ao_nil ?_
    refine aq_then ?_
    refine aw_ret ?_
    refine aq_then_ret ?_
    refine aq_ret ?_
    obtain rfl := is_some h
    refine AQ.sub (sub_nil (T := 2) (t := (.int .i64)) 1 rfl rfl rfl) ?_
    exact aq_finx (l := [.tmp 2, .tmp 3, .tmp 4]) (xs := [.os 1, .int .i64 0, .bool false]) (rn [(0, 1)]) [.os 0, .int .i64 0, .bool false] [(0, .row (.int .i64) ([] : (List Int)))] rfl (by exact ⟨rfl, rfl, rfl, trivial⟩) (by exact ⟨ad_ren rfl, ad_ren rfl, ad_ren rfl, trivial⟩) (by exact ⟨⟨_, rfl, rfl⟩, trivial⟩) rfl (nk rfl) rfl rfl ⟨rfl, rfl⟩
  · replace h := is_if (not_f hb3) h
    refine aw_skip ?_
    refine aq_then ?_
    refine aw_seq ?_
    refine aw_region ?_
    refine ao_read trivial (r_move rfl) rfl ?_
    obtain ⟨r4, r4h, h⟩ := is_bind h
    refine ao_call [] 2 trivial (c_slices_Clone_int_int (is_mk r4h)) Try.func47 rfl rfl rfl rfl ⟨ad_ren rfl, trivial⟩ trivial rfl rfl rfl rfl rfl rfl rfl (fun r' H' hr => ?_)
    obtain ⟨rfl, rfl⟩ := hr
    refine ao_norm (y := .os 2) (H' := [(0, .row (.int .i64) r1.1), (2, .row (.int .i64) r4)]) rfl rfl ?_
    refine row_len_o 2 (r4.length : Int) rfl rfl (fun hr5 => ?_)
    refine ao_read trivial (r_move rfl) rfl ?_
    obtain ⟨r6, r6h, h⟩ := is_bind h
    refine ao_scall trivial (scall (c_slices_Max_int_int (is_mk r6h)) rfl Try.func48 rfl rfl rfl rfl (fun σ => ⟨ad_os0 rfl, trivial⟩)) rfl ?_
    refine ao_read trivial (r_move rfl) rfl ?_
    obtain ⟨r7, r7h, h⟩ := is_bind h
    refine ao_scall trivial (scall (c_slices_Min_int_int (is_mk r7h)) rfl Try.func49 rfl rfl rfl rfl (fun σ => ⟨ad_os0 rfl, trivial⟩)) rfl ?_
    refine ao_read trivial (r_sub rfl rfl) rfl ?_
    refine ao_read trivial (r_assign rfl) rfl ?_
    refine ao_read trivial (r_assign rfl) rfl ?_
    refine ao_nil ?_
    refine aq_then ?_
    refine aw_seq ?_
    refine aw_seq ?_
    refine aw_region ?_
    refine ao_read trivial (r_assign rfl) rfl ?_
    refine ao_nil ?_
    refine aq_then ?_
    refine aw_block ?_
    refine aw_loop (AL.sub (fr' := [(0, .v (.slice (.int .i64)) x0), (7, .os 0), (8, .int .i64 (IntKind.wrap .i64 (r6 - r7))), (9, .int .i64 1)]) (H' := [(0, .row (.int .i64) r4)]) (sub_mk (rn [(0, 2)]) (by exact ⟨⟨_, rfl, ad_ren rfl⟩, ⟨_, rfl, ad_ren rfl⟩, ⟨_, rfl, ad_ren rfl⟩, ⟨_, rfl, ad_ren rfl⟩, trivial⟩) (by exact ⟨⟨_, rfl, rfl⟩, trivial⟩) (by rfl) (nk rfl)) (al_cnt (fun i9 (s8 : Int × (List Int)) => [(0, .v (.slice (.int .i64)) x0), (7, .os 0), (8, .int .i64 s8.1), (9, .int .i64 i9)]) (fun i9 (s8 : Int × (List Int)) => [(0, .row (.int .i64) s8.2)]) (fun d i9 (s8 : Int × (List Int)) => d = Int.toNat ((x0.length : Int) - i9) ∧ s8.1 ≤ (IntKind.wrap .i64 (r6 - r7)) ∧ 1 ≤ i9) h ⟨rfl, (by (try simp only [List.length_set, List.length_append, List.length_cons, List.length_nil, List.length_replicate, List.length_take, List.length_drop]) <;> omega), (by (try simp only [List.length_set, List.length_append, List.length_cons, List.length_nil, List.length_replicate, List.length_take, List.length_drop]) <;> omega)⟩ (fun d10 i9 s8 hI h ih10 => ?_)))
    obtain ⟨hd, _, _⟩ := hI
    refine al_round ?_
    refine aw_seq ?_
    refine aw_seq ?_
    refine aw_region ?_
    refine ao_read trivial (r_move rfl) rfl ?_
    refine ao_read trivial (r_move rfl) rfl ?_
    refine ao_read trivial (r_len_vm (x0.length : Int) Try.underlying29 rfl rfl) rfl ?_
    refine ao_read trivial (r_lss rfl rfl) rfl ?_
    refine ao_nil ?_
    refine aq_then ?_
    refine aw_cond rfl (fun hb12 => ?_) (fun hb12 => ?_)
    · have q13 := d_t hb12
      obtain ⟨d10, rfl⟩ : ∃ e, d10 = e + 1 := ⟨d10 - 1, by omega⟩
      replace h := is_cntS h
      refine aw_skip ?_
      refine aq_then ?_
      refine aw_seq ?_
      refine aw_block ?_
      refine aw_seq ?_
      refine aw_region ?_
      refine ao_read trivial (r_move rfl) rfl ?_
      obtain ⟨r15, r15h, h⟩ := is_bind h
      refine ao_call [] 1 trivial (c_slices_Clone_int_int (is_mk r15h)) Try.func47 rfl rfl rfl rfl ⟨ad_ren rfl, trivial⟩ trivial rfl rfl rfl rfl rfl rfl rfl (fun r' H' hr => ?_)
      obtain ⟨rfl, rfl⟩ := hr
      refine ao_norm (y := .os 1) (H' := [(0, .row (.int .i64) s8.2), (1, .row (.int .i64) r15)]) rfl rfl ?_
      refine row_len_o 1 (r15.length : Int) rfl rfl (fun hr16 => ?_)
      refine ao_read trivial (r_assign rfl) rfl ?_
      refine ao_nil ?_
      refine aq_then ?_
      refine aw_seq ?_
      obtain ⟨g17, h⟩ := is_guard h
      refine aw_drawP 18 rfl (by kernel_rfl) ?_
      refine ap_move 3 (by kernel_rfl) (fun _ _ _ h => h) rfl (by kernel_rfl) rfl rfl ?_
      refine ap_move 4 (by kernel_rfl) (fun _ _ _ h => h) rfl (by kernel_rfl) rfl rfl ?_
      refine ap_an (f := 13) 15 (by kernel_rfl) rfl ?_
      refine an_read 0 (by kernel_rfl) (fun _ _ _ h => h) rfl (by kernel_rfl) trivial (r_move rfl) rfl ?_
      refine an_read 1 (by kernel_rfl) (fun _ _ _ h => h) rfl (by kernel_rfl) trivial (r_move rfl) rfl ?_
      refine an_read 2 (by kernel_rfl) (fun _ _ _ h => h) rfl (by kernel_rfl) trivial (r_subI rfl rfl (wrap_id (by omega) (by omega))) rfl ?_
      refine an_read 5 (by kernel_rfl) (fun _ _ _ h => h) rfl (by kernel_rfl) trivial (r_move rfl) rfl ?_
      refine an_read 6 (by kernel_rfl) (fun _ _ _ h => h) rfl (by kernel_rfl) trivial (r_move rfl) rfl ?_
      refine an_read 7 (by kernel_rfl) (fun _ _ _ h => h) rfl (by kernel_rfl) trivial (r_idxAddr_os Try.underlying29 Try.sizeOf3 rfl rfl rfl (by omega) (show i9 < (r15.length : Int) from by omega)) rfl ?_
      refine an_read 8 (by kernel_rfl) (fun _ _ _ h => h) rfl (by kernel_rfl) trivial (r_load_elem_int Try.isAgg3 Try.sizeOf3 rfl rfl (show i9.toNat < r15.length from by omega)) rfl ?_
      refine an_read 9 (by kernel_rfl) (fun _ _ _ h => h) rfl (by kernel_rfl) trivial (r_move rfl) rfl ?_
      refine an_read 10 (by kernel_rfl) (fun _ _ _ h => h) rfl (by kernel_rfl) trivial (r_move rfl) rfl ?_
      refine an_read 11 (by kernel_rfl) (fun _ _ _ h => h) rfl (by kernel_rfl) trivial (r_subI rfl rfl (wrap_id (by omega) (by omega))) rfl ?_
      refine an_read 12 (by kernel_rfl) (fun _ _ _ h => h) rfl (by kernel_rfl) trivial (r_idxAddr_os Try.underlying29 Try.sizeOf3 rfl rfl rfl (by omega) (show (i9 - 1) < (r15.length : Int) from by omega)) rfl ?_
      refine an_read 13 (by kernel_rfl) (fun _ _ _ h => h) rfl (by kernel_rfl) trivial (r_load_elem_int Try.isAgg3 Try.sizeOf3 rfl rfl (show (i9 - 1).toNat < r15.length from by omega)) rfl ?_
      refine an_read 14 (by kernel_rfl) (fun _ _ _ h => h) rfl (by kernel_rfl) trivial (r_idxAddr_os Try.underlying29 Try.sizeOf3 rfl rfl rfl (by omega) (show (i9 - 1) < (r15.length : Int) from by omega)) rfl ?_
      refine an_tail rfl rfl ?_
      refine ao_effS trivial (e_store_elem_int Try.sizeOf3 rfl rfl rfl rfl (show (i9 - 1).toNat < r15.length from by omega) rfl) ?_
      refine ao_read trivial (r_idxAddr_os Try.underlying29 Try.sizeOf3 rfl rfl rfl (by omega) (show i9 < ((r15.set (i9 - 1).toNat (r15.getD i9.toNat 0)).length : Int) from by (try simp only [List.length_set]) <;> omega)) rfl ?_
      refine ao_effS trivial (e_store_elem_int Try.sizeOf3 rfl rfl rfl rfl (show i9.toNat < (r15.set (i9 - 1).toNat (r15.getD i9.toNat 0)).length from by (try simp only [List.length_set]) <;> omega) rfl) ?_
      refine ao_nil ?_
      refine aq_then ?_
      refine aw_seq ?_
      refine aw_region ?_
      refine ao_read trivial (r_move rfl) rfl ?_
      obtain ⟨r18, r18h, h⟩ := is_bind h
      refine ao_call [] 2 trivial (c_impl_LettersWays (is_mk r18h)) Try.func46 rfl rfl rfl rfl ⟨ad_os0 rfl, trivial⟩ trivial rfl rfl rfl rfl rfl rfl rfl (fun r' H' hr => ?_)
      obtain ⟨rfl, rfl⟩ := hr
      refine ao_norm (y := .tup [.os 2, .bool r18.2]) (H' := [(0, .row (.int .i64) s8.2), (1, .row (.int .i64) (((r15.set (i9 - 1).toNat (r15.getD i9.toNat 0)).set i9.toNat (r15.getD (i9 - 1).toNat 0)) : (List Int))), (2, .row (.int .i64) r18.1)]) rfl rfl ?_
      refine row_len_o 2 (r18.1.length : Int) rfl rfl (fun hr19 => ?_)
      refine ao_read trivial (r_move rfl) rfl ?_
      refine ao_read trivial (r_extract rfl rfl) rfl ?_
      refine ao_read trivial (r_extract rfl rfl) rfl ?_
      refine ao_read trivial (r_assign rfl) rfl ?_
      refine ao_read trivial (r_assign rfl) rfl ?_
      refine ao_nil ?_
      refine aq_then ?_
      refine aw_seq ?_
      refine aw_region ?_
      refine ao_read trivial (r_move rfl) rfl ?_
      obtain ⟨r20, r20h, h⟩ := is_bind h
      refine ao_scall trivial (scall (c_slices_Max_int_int (is_mk r20h)) rfl Try.func48 rfl rfl rfl rfl (fun σ => ⟨ad_os0 rfl, trivial⟩)) rfl ?_
      refine ao_read trivial (r_move rfl) rfl ?_
      obtain ⟨r21, r21h, h⟩ := is_bind h
      refine ao_scall trivial (scall (c_slices_Min_int_int (is_mk r21h)) rfl Try.func49 rfl rfl rfl rfl (fun σ => ⟨ad_os0 rfl, trivial⟩)) rfl ?_
      refine ao_read trivial (r_sub rfl rfl) rfl ?_
      refine ao_read trivial (r_assign rfl) rfl ?_
      refine ao_nil ?_
      refine aq_then ?_
      refine aw_seq ?_
      refine aw_region ?_
      refine ao_read trivial (r_move rfl) rfl ?_
      refine ao_read trivial (r_move rfl) rfl ?_
      refine ao_read trivial (r_lss rfl rfl) rfl ?_
      refine ao_nil ?_
      refine aq_then ?_
      refine aw_cond rfl (fun hb22 => ?_) (fun hb22 => ?_)
      · have q23 := d_t hb22
        replace h := is_if (d_t hb22) h
        refine aw_region ?_
        refine ao_read trivial (r_move rfl) rfl ?_
        refine ao_read trivial (r_move rfl) rfl ?_
        refine ao_read trivial (r_assign rfl) rfl ?_
        refine ao_read trivial (r_assign rfl) rfl ?_
        refine ao_nil ?_
        refine aq_in ?_
        refine aq_then ?_
        refine aw_region ?_
        refine ao_read trivial (r_move rfl) rfl ?_
        refine ao_read trivial (r_addI rfl rfl (wrap_id (by omega) (by omega))) rfl ?_
        refine ao_read trivial (r_assign rfl) rfl ?_
        refine ao_nil ?_
        exact aq_again (AL.sub (sub_mk (rn [(0, 1)]) (by exact ⟨⟨_, rfl, ad_ren rfl⟩, ⟨_, rfl, ad_ren rfl⟩, ⟨_, rfl, ad_ren rfl⟩, ⟨_, rfl, ad_ren rfl⟩, trivial⟩) (by exact ⟨⟨_, rfl, rfl⟩, trivial⟩) (by rfl) (nk rfl)) (ih10 d10 (i9 + 1) ((IntKind.wrap .i64 (r20 - r21)), ((r15.set (i9 - 1).toNat (r15.getD i9.toNat 0)).set i9.toNat (r15.getD (i9 - 1).toNat 0))) (by omega) ⟨by omega, (by (try simp only [List.length_set, List.length_append, List.length_cons, List.length_nil, List.length_replicate, List.length_take, List.length_drop]) <;> omega), (by (try simp only [List.length_set, List.length_append, List.length_cons, List.length_nil, List.length_replicate, List.length_take, List.length_drop]) <;> omega)⟩ h))
      · have q24 := d_f hb22
        replace h := is_else (d_f hb22) h
        refine aw_skip ?_
        refine aq_in ?_
        refine aq_then ?_
        refine aw_region ?_
        refine ao_read trivial (r_move rfl) rfl ?_
        refine ao_read trivial (r_addI rfl rfl (wrap_id (by omega) (by omega))) rfl ?_
        refine ao_read trivial (r_assign rfl) rfl ?_
        refine ao_nil ?_
        exact aq_again (AL.sub (sub_mk idn (by exact ⟨⟨_, rfl, ad_ren rfl⟩, ⟨_, rfl, ad_ren rfl⟩, ⟨_, rfl, ad_ren rfl⟩, ⟨_, rfl, ad_ren rfl⟩, trivial⟩) (by exact ⟨⟨_, rfl, rfl⟩, trivial⟩) (by rfl) (nk rfl)) (ih10 d10 (i9 + 1) (s8.1, s8.2) (by omega) ⟨by omega, (by (try simp only [List.length_set, List.length_append, List.length_cons, List.length_nil, List.length_replicate, List.length_take, List.length_drop]) <;> omega), (by (try simp only [List.length_set, List.length_append, List.length_cons, List.length_nil, List.length_replicate, List.length_take, List.length_drop]) <;> omega)⟩ h))
    · have q14 := d_f hb12
      obtain rfl : d10 = 0 := by omega
      replace h := is_cnt0 h
      refine aw_exit ?_
      refine aq_then_exit ?_
      refine aq_then_exit ?_
      refine aq_in_exit ?_
      refine aq_then ?_
      refine aw_seq ?_
      refine aw_region ?_
      refine ao_read trivial (r_move rfl) rfl ?_
      refine ao_read trivial (r_move rfl) rfl ?_
      refine ao_read trivial (r_assign rfl) rfl ?_
      refine ao_read trivial (r_assign rfl) rfl ?_
      refine ao_read trivial (r_assign rfl) rfl ?_
      refine ao_nil ?_
      refine aq_then ?_
      refine aw_ret ?_
      refine aq_ret ?_
      obtain rfl := is_some h
      exact aq_finx (l := [.tmp 2, .tmp 3, .tmp 4]) (xs := [.os 0, .int .i64 s8.1, .bool true]) idn [.os 0, .int .i64 s8.1, .bool true] [(0, .row (.int .i64) s8.2)] rfl (by exact ⟨rfl, rfl, rfl, trivial⟩) (by exact ⟨ad_ren rfl, ad_ren rfl, ad_ren rfl, trivial⟩) (by exact ⟨⟨_, rfl, rfl⟩, trivial⟩) rfl (nk rfl) rfl rfl ⟨rfl, rfl⟩
theorem c_laws_FnExactMendLetters {fu : Nat} {x0 : (List Int)} {r : Bool} (h : Is (p_laws_FnExactMendLetters fu x0) (some r)) :
    Scalar Try.prog 7 [.v (.slice (.int .i64)) x0] (.bool r) := by
  unfold p_laws_FnExactMendLetters at h
  refine ac_enter ⟨114, 0⟩ Try.func7 rfl rfl rfl rfl rfl (fun Γ => ?_)
  refine sl_len_m 0 (x0.length : Int) rfl rfl (fun hl0 => ?_)
  refine aw_seq ?_
  refine aw_region ?_
  refine ao_read trivial (r_assign rfl) rfl ?_
  refine ao_nil ?_
  refine aq_then ?_
  refine aw_seq ?_
  refine aw_seq ?_
  refine aw_region ?_
  refine ao_read trivial (r_move rfl) rfl ?_
  refine ao_read trivial (r_len_vm (x0.length : Int) Try.underlying29 rfl rfl) rfl ?_
  refine ao_read trivial (r_gtr rfl rfl) rfl ?_
  refine ao_nil ?_
  refine aq_then ?_
  refine aw_cond rfl (fun hb1 => ?_) (fun hb1 => ?_)
  · have q2 := d_t hb1
    replace h := is_if (d_t hb1) h
    refine aw_seq ?_
    refine aw_region ?_
    refine ao_read trivial (r_assign rfl) rfl ?_
    refine ao_nil ?_
    refine aq_then ?_
    refine aw_ret ?_
    refine aq_then_ret ?_
    refine aq_ret ?_
    obtain rfl := is_some h
    exact aq_finx (l := [.tmp 2]) (xs := [.bool true]) idn [.bool true] [] rfl (by exact ⟨rfl, trivial⟩) (by exact ⟨ad_ren rfl, trivial⟩) (by exact trivial) rfl (nk rfl) rfl rfl ⟨rfl, rfl⟩
  · have q3 := d_f hb1
    replace h := is_else (d_f hb1) h
    refine aw_skip ?_
    refine aq_then ?_
    refine aw_seq ?_
    refine aw_region ?_
    refine ao_read trivial (r_move rfl) rfl ?_
    obtain ⟨r4, r4h, h⟩ := is_bind h
    refine ao_call [] 0 trivial (c_laws_toIntS (is_mk r4h)) Try.func25 rfl rfl rfl rfl ⟨ad_ren rfl, trivial⟩ trivial rfl rfl rfl rfl rfl rfl rfl (fun r' H' hr => ?_)
    obtain ⟨rfl, rfl⟩ := hr
    refine ao_norm (y := .os 0) (H' := [(0, .row (.int .i64) r4)]) rfl rfl ?_
    refine row_len_o 0 (r4.length : Int) rfl rfl (fun hr5 => ?_)
    obtain ⟨r6, r6h, h⟩ := is_bind h
    refine ao_call [] 1 trivial (c_spec_MendLetters (is_mk r6h)) Try.func24 rfl rfl rfl rfl ⟨ad_os0 rfl, trivial⟩ trivial rfl rfl rfl rfl rfl rfl rfl (fun r' H' hr => ?_)
    obtain ⟨rfl, rfl⟩ := hr
    refine ao_norm (y := .tup [.os 1, .int .i64 r6.2.1, .bool r6.2.2]) (H' := [(0, .row (.int .i64) r4), (1, .row (.int .i64) r6.1)]) rfl rfl ?_
    refine row_len_o 1 (r6.1.length : Int) rfl rfl (fun hr7 => ?_)
    refine ao_read trivial (r_move rfl) rfl ?_
    refine ao_read trivial (r_extract rfl rfl) rfl ?_
    refine ao_read trivial (r_extract rfl rfl) rfl ?_
    refine ao_read trivial (r_extract rfl rfl) rfl ?_
    refine ao_read trivial (r_assign rfl) rfl ?_
    refine ao_read trivial (r_assign rfl) rfl ?_
    refine ao_read trivial (r_assign rfl) rfl ?_
    refine ao_nil ?_
    refine aq_then ?_
    refine aw_seq ?_
    refine aw_region ?_
    refine ao_read trivial (r_move rfl) rfl ?_
    obtain ⟨r8, r8h, h⟩ := is_bind h
    refine ao_call [] 2 trivial (c_laws_toIntS (is_mk r8h)) Try.func25 rfl rfl rfl rfl ⟨ad_ren rfl, trivial⟩ trivial rfl rfl rfl rfl rfl rfl rfl (fun r' H' hr => ?_)
    obtain ⟨rfl, rfl⟩ := hr
    refine ao_norm (y := .os 2) (H' := [(0, .row (.int .i64) r4), (1, .row (.int .i64) r6.1), (2, .row (.int .i64) r8)]) rfl rfl ?_
    refine row_len_o 2 (r8.length : Int) rfl rfl (fun hr9 => ?_)
    refine ao_read trivial (r_assign rfl) rfl ?_
    refine ao_nil ?_
    refine aq_then ?_
    refine aw_seq ?_
    refine aw_region ?_
    refine ao_read trivial (r_move rfl) rfl ?_
    obtain ⟨r10, r10h, h⟩ := is_bind h
    refine ao_call [] 3 trivial (c_impl_MendLetters (is_mk r10h)) Try.func26 rfl rfl rfl rfl ⟨ad_os0 rfl, trivial⟩ trivial rfl rfl rfl rfl rfl rfl rfl (fun r' H' hr => ?_)
    obtain ⟨rfl, rfl⟩ := hr
    refine ao_norm (y := .tup [.os 3, .int .i64 r10.2.1, .bool r10.2.2]) (H' := [(0, .row (.int .i64) r4), (1, .row (.int .i64) r6.1), (2, .row (.int .i64) r8), (3, .row (.int .i64) r10.1)]) rfl rfl ?_
    refine row_len_o 3 (r10.1.length : Int) rfl rfl (fun hr11 => ?_)
    refine ao_read trivial (r_move rfl) rfl ?_
    refine ao_read trivial (r_extract rfl rfl) rfl ?_
    refine ao_read trivial (r_extract rfl rfl) rfl ?_
    refine ao_read trivial (r_extract rfl rfl) rfl ?_
    refine ao_read trivial (r_assign rfl) rfl ?_
    refine ao_read trivial (r_assign rfl) rfl ?_
    refine ao_read trivial (r_assign rfl) rfl ?_
    refine ao_nil ?_
    refine aq_then ?_
    refine aw_seq ?_
    refine aw_seq ?_
    refine aw_region ?_
    refine ao_read trivial (r_move rfl) rfl ?_
    refine ao_read trivial (r_move rfl) rfl ?_
    refine ao_scall trivial (scall (c_laws_eqIntS (is_mk (rfl : p_laws_eqIntS r10.1 r6.1 = _))) rfl Try.func16 rfl rfl rfl rfl (fun σ => ⟨ad_os0 rfl, ad_os0 rfl, trivial⟩)) rfl ?_
    refine ao_read trivial (r_not rfl) rfl ?_
    refine ao_read trivial (r_move rfl) rfl ?_
    refine ao_readG (x := .int .i64 r10.2.1) rfl (GV.F rfl) (fun hg12 => r_move rfl) rfl ?_
    refine ao_readG (x := .int .i64 r6.2.1) rfl (GV.F rfl) (fun hg13 => r_move rfl) rfl ?_
    refine ao_readG (x := .bool (!(decide (r10.2.1 = r6.2.1)))) rfl (GV.F rfl) (fun hg14 => Reads.strip 39 rfl (hg14) (Reads.strip 40 rfl (hg14) (r_neq rfl rfl))) rfl ?_
    refine ao_read trivial (r_orB rfl rfl) rfl ?_
    refine ao_read trivial (r_move rfl) rfl ?_
    refine ao_readG (x := .bool r10.2.2) rfl (GV.F rfl) (fun hg15 => by
      obtain ⟨q16, q17⟩ := or_f (not_t hg15)
      have q18 := d_t (not_f q17)
      exact r_move rfl) rfl ?_
    refine ao_readG (x := .bool r6.2.2) rfl (GV.F rfl) (fun hg19 => by
      obtain ⟨q20, q21⟩ := or_f (not_t hg19)
      have q22 := d_t (not_f q21)
      exact r_move rfl) rfl ?_
    refine ao_readG (x := .bool (r10.2.2 != r6.2.2)) rfl (GV.F rfl) (fun hg23 => by
      obtain ⟨q24, q25⟩ := or_f (not_t hg23)
      have q26 := d_t (not_f q25)
      exact Reads.strip 44 rfl (hg23) (Reads.strip 45 rfl (hg23) (r_neq_bool Try.underlying4 rfl rfl))) rfl ?_
    refine ao_read trivial (r_orB rfl rfl) rfl ?_
    refine ao_nil ?_
    refine aq_then ?_
    refine aw_cond rfl (fun hb27 => ?_) (fun hb27 => ?_)
    · replace h := is_if hb27 h
      refine aw_seq ?_
      refine aw_region ?_
      refine ao_read trivial (r_assign rfl) rfl ?_
      refine ao_nil ?_
      refine aq_then ?_
      refine aw_ret ?_
      refine aq_then_ret ?_
      refine aq_ret ?_
      obtain rfl := is_some h
      exact aq_finx (l := [.tmp 2]) (xs := [.bool false]) idn [.bool false] [] rfl (by exact ⟨rfl, trivial⟩) (by exact ⟨ad_ren rfl, trivial⟩) (by exact trivial) rfl (nk rfl) rfl rfl ⟨rfl, rfl⟩
    · obtain ⟨q28, q29⟩ := or_f hb27
      obtain ⟨q30, q31⟩ := or_f q28
      have q32 := d_t (not_f q31)
      replace h := is_else (ne_t hb27) h
      refine aw_skip ?_
      refine aq_then ?_
      refine aw_seq ?_
      refine aw_seq ?_
      refine aw_region ?_
      refine ao_read trivial (r_move rfl) rfl ?_
      refine ao_read trivial (r_move rfl) rfl ?_
      obtain ⟨r33, r33h, h⟩ := is_bind h
      refine ao_call [] 4 trivial (c_laws_toIntS (is_mk r33h)) Try.func25 rfl rfl rfl rfl ⟨ad_ren rfl, trivial⟩ trivial rfl rfl rfl rfl rfl rfl rfl (fun r' H' hr => ?_)
      obtain ⟨rfl, rfl⟩ := hr
      refine ao_norm (y := .os 4) (H' := [(0, .row (.int .i64) r4), (1, .row (.int .i64) r6.1), (2, .row (.int .i64) r8), (3, .row (.int .i64) r10.1), (4, .row (.int .i64) r33)]) rfl rfl ?_
      refine row_len_o 4 (r33.length : Int) rfl rfl (fun hr34 => ?_)
      refine ao_scall trivial (scall (c_laws_eqIntS (is_mk (rfl : p_laws_eqIntS r8 r33 = _))) rfl Try.func16 rfl rfl rfl rfl (fun σ => ⟨ad_os0 rfl, ad_os0 rfl, trivial⟩)) rfl ?_
      refine ao_read trivial (r_not rfl) rfl ?_
      refine ao_nil ?_
      refine aq_then ?_
      refine aw_cond rfl (fun hb35 => ?_) (fun hb35 => ?_)
      · replace h := is_else (ne_t (not_t hb35)) h
        refine aw_seq ?_
        refine aw_region ?_
        refine ao_read trivial (r_assign rfl) rfl ?_
        refine ao_nil ?_
        refine aq_then ?_
        refine aw_ret ?_
        refine aq_then_ret ?_
        refine aq_ret ?_
        obtain rfl := is_some h
        exact aq_finx (l := [.tmp 2]) (xs := [.bool false]) idn [.bool false] [] rfl (by exact ⟨rfl, trivial⟩) (by exact ⟨ad_ren rfl, trivial⟩) (by exact trivial) rfl (nk rfl) rfl rfl ⟨rfl, rfl⟩
      · replace h := is_if (not_f hb35) h
        refine aw_skip ?_
        refine aq_then ?_
        refine aw_seq ?_
        refine aw_region ?_
        refine ao_read trivial (r_assign rfl) rfl ?_
        refine ao_nil ?_
        refine aq_then ?_
        refine aw_seq ?_
        refine aw_region ?_
        refine ao_read trivial (r_move rfl) rfl ?_
        refine ao_read trivial (r_move rfl) rfl ?_
        refine ao_call [2] 5 trivial (c_laws_markIntS (is_mk (rfl : p_laws_markIntS r8 1 = _))) Try.func18 rfl rfl rfl rfl ⟨ad_ren rfl, ad_ren rfl, trivial⟩ ⟨⟨_, rfl, rfl⟩, trivial⟩ rfl rfl rfl rfl rfl rfl rfl (fun r' H' hr => ?_)
        obtain ⟨rfl, rfl⟩ := hr
        refine ao_norm (y := .int .i64 ((p_laws_markIntS r8 1).1)) (H' := [(0, .row (.int .i64) r4), (1, .row (.int .i64) r6.1), (3, .row (.int .i64) r10.1), (4, .row (.int .i64) r33), (2, .row (.int .i64) ((p_laws_markIntS r8 1).2 : (List Int)))]) rfl rfl ?_
        refine ao_read trivial (r_assign rfl) rfl ?_
        refine ao_nil ?_
        refine aq_then ?_
        refine aw_seq ?_
        refine aw_seq ?_
        refine aw_region ?_
        refine ao_read trivial (r_move rfl) rfl ?_
        refine ao_read trivial (r_lss rfl rfl) rfl ?_
        refine ao_read trivial (r_move rfl) rfl ?_
        refine ao_readG (x := .os 3) rfl (GV.F rfl) (fun hg36 => by
      have q37 := d_f (not_t hg36)
      exact r_move rfl) rfl ?_
        refine ao_readG (x := .os 1) rfl (GV.F rfl) (fun hg38 => by
      have q39 := d_f (not_t hg38)
      exact r_move rfl) rfl ?_
        refine ao_scallG (r := .bool (p_laws_eqIntS r10.1 r6.1)) rfl (GV.F rfl) (fun hg40 => by
      have q41 := d_f (not_t hg40)
      exact SCall.strip 59 rfl (hg40) (SCall.strip 60 rfl (hg40) (scall (c_laws_eqIntS (is_mk (rfl : p_laws_eqIntS r10.1 r6.1 = _))) rfl Try.func16 rfl rfl rfl rfl (fun σ => ⟨ad_os0 rfl, ad_os0 rfl, trivial⟩)))) rfl ?_
        refine ao_readG (x := .bool (!(p_laws_eqIntS r10.1 r6.1))) rfl (GV.F rfl) (fun hg42 => by
      have q43 := d_f (not_t hg42)
      exact Reads.strip 61 rfl (hg42) (r_not rfl)) rfl ?_
        refine ao_read trivial (r_orB rfl rfl) rfl ?_
        refine ao_read trivial (r_move rfl) rfl ?_
        refine ao_readG (x := .int .i64 r10.2.1) rfl (GV.F rfl) (fun hg44 => by
      obtain ⟨q45, q46⟩ := or_f (not_t hg44)
      have q47 := d_f q45
      exact r_move rfl) rfl ?_
        refine ao_readG (x := .int .i64 r6.2.1) rfl (GV.F rfl) (fun hg48 => by
      obtain ⟨q49, q50⟩ := or_f (not_t hg48)
      have q51 := d_f q49
      exact r_move rfl) rfl ?_
        refine ao_readG (x := .bool (!(decide (r10.2.1 = r6.2.1)))) rfl (GV.F rfl) (fun hg52 => by
      obtain ⟨q53, q54⟩ := or_f (not_t hg52)
      have q55 := d_f q53
      exact Reads.strip 65 rfl (hg52) (Reads.strip 66 rfl (hg52) (r_neq rfl rfl))) rfl ?_
        refine ao_read trivial (r_orB rfl rfl) rfl ?_
        refine ao_read trivial (r_move rfl) rfl ?_
        refine ao_readG (x := .bool r10.2.2) rfl (GV.F rfl) (fun hg56 => by
      obtain ⟨q57, q58⟩ := or_f (not_t hg56)
      obtain ⟨q59, q60⟩ := or_f q57
      have q61 := d_f q59
      have q62 := d_t (not_f q58)
      exact r_move rfl) rfl ?_
        refine ao_readG (x := .bool r6.2.2) rfl (GV.F rfl) (fun hg63 => by
      obtain ⟨q64, q65⟩ := or_f (not_t hg63)
      obtain ⟨q66, q67⟩ := or_f q64
      have q68 := d_f q66
      have q69 := d_t (not_f q65)
      exact r_move rfl) rfl ?_
        refine ao_readG (x := .bool (r10.2.2 != r6.2.2)) rfl (GV.F rfl) (fun hg70 => by
      obtain ⟨q71, q72⟩ := or_f (not_t hg70)
      obtain ⟨q73, q74⟩ := or_f q71
      have q75 := d_f q73
      have q76 := d_t (not_f q72)
      exact Reads.strip 70 rfl (hg70) (Reads.strip 71 rfl (hg70) (r_neq_bool Try.underlying4 rfl rfl))) rfl ?_
        refine ao_read trivial (r_orB rfl rfl) rfl ?_
        refine ao_nil ?_
        refine aq_then ?_
        refine aw_cond rfl (fun hb77 => ?_) (fun hb77 => ?_)
        · replace h := is_if hb77 h
          refine aw_seq ?_
          refine aw_region ?_
          refine ao_read trivial (r_assign rfl) rfl ?_
          refine ao_nil ?_
          refine aq_then ?_
          refine aw_ret ?_
          refine aq_then_ret ?_
          refine aq_ret ?_
          obtain rfl := is_some h
          exact aq_finx (l := [.tmp 2]) (xs := [.bool false]) idn [.bool false] [] rfl (by exact ⟨rfl, trivial⟩) (by exact ⟨ad_ren rfl, trivial⟩) (by exact trivial) rfl (nk rfl) rfl rfl ⟨rfl, rfl⟩
        · obtain ⟨q78, q79⟩ := or_f hb77
          obtain ⟨q80, q81⟩ := or_f q78
          obtain ⟨q82, q83⟩ := or_f q80
          have q84 := d_f q82
          have q85 := d_t (not_f q81)
          replace h := is_else (ne_t hb77) h
          refine aw_skip ?_
          refine aq_then ?_
          refine aw_seq ?_
          refine aw_region ?_
          refine ao_read trivial (r_assign rfl) rfl ?_
          refine ao_nil ?_
          refine aq_then ?_
          refine aw_seq ?_
          refine aw_region ?_
          refine ao_read trivial (r_move rfl) rfl ?_
          refine ao_read trivial (r_move rfl) rfl ?_
          refine ao_call [3] 5 trivial (c_laws_markIntS (is_mk (rfl : p_laws_markIntS r10.1 1 = _))) Try.func18 rfl rfl rfl rfl ⟨ad_ren rfl, ad_ren rfl, trivial⟩ ⟨⟨_, rfl, rfl⟩, trivial⟩ rfl rfl rfl rfl rfl rfl rfl (fun r' H' hr => ?_)
          obtain ⟨rfl, rfl⟩ := hr
          refine ao_norm (y := .int .i64 ((p_laws_markIntS r10.1 1).1)) (H' := [(0, .row (.int .i64) r4), (1, .row (.int .i64) r6.1), (4, .row (.int .i64) r33), (2, .row (.int .i64) ((p_laws_markIntS r8 1).2 : (List Int))), (3, .row (.int .i64) ((p_laws_markIntS r10.1 1).2 : (List Int)))]) rfl rfl ?_
          refine ao_read trivial (r_assign rfl) rfl ?_
          refine ao_nil ?_
          refine aq_then ?_
          refine aw_seq ?_
          refine aw_region ?_
          refine ao_read trivial (r_assign rfl) rfl ?_
          refine ao_nil ?_
          refine aq_then ?_
          refine aw_seq ?_
          refine aw_region ?_
          refine ao_read trivial (r_move rfl) rfl ?_
          refine ao_read trivial (r_move rfl) rfl ?_
          refine ao_scall trivial (scall (c_laws_heldIntS (is_mk (rfl : p_laws_heldIntS ((p_laws_markIntS r10.1 1).2) 1 = _))) rfl Try.func19 rfl rfl rfl rfl (fun σ => ⟨ad_os0 rfl, ad_ren rfl, trivial⟩)) rfl ?_
          refine ao_read trivial (r_assign rfl) rfl ?_
          refine ao_nil ?_
          refine aq_then ?_
          refine aw_seq ?_
          refine aw_seq ?_
          refine aw_region ?_
          refine ao_read trivial (r_move rfl) rfl ?_
          refine ao_read trivial (r_lss rfl rfl) rfl ?_
          refine ao_nil ?_
          refine aq_then ?_
          refine aw_cond rfl (fun hb86 => ?_) (fun hb86 => ?_)
          · have q87 := d_t hb86
            replace h := is_if (d_t hb86) h
            refine aw_seq ?_
            refine aw_region ?_
            refine ao_read trivial (r_assign rfl) rfl ?_
            refine ao_nil ?_
            refine aq_then ?_
            refine aw_ret ?_
            refine aq_then_ret ?_
            refine aq_ret ?_
            obtain rfl := is_some h
            exact aq_finx (l := [.tmp 2]) (xs := [.bool false]) idn [.bool false] [] rfl (by exact ⟨rfl, trivial⟩) (by exact ⟨ad_ren rfl, trivial⟩) (by exact trivial) rfl (nk rfl) rfl rfl ⟨rfl, rfl⟩
          · have q88 := d_f hb86
            replace h := is_else (d_f hb86) h
            refine aw_skip ?_
            refine aq_then ?_
            refine aw_seq ?_
            refine aw_seq ?_
            refine aw_region ?_
            refine ao_read trivial (r_move rfl) rfl ?_
            refine ao_read trivial (r_move rfl) rfl ?_
            refine ao_read trivial (r_neq rfl rfl) rfl ?_
            refine ao_nil ?_
            refine aq_then ?_
            refine aw_cond rfl (fun hb89 => ?_) (fun hb89 => ?_)
            · have q90 := d_f (not_t hb89)
              replace h := is_else (d_f (not_t hb89)) h
              refine aw_seq ?_
              refine aw_region ?_
              refine ao_read trivial (r_assign rfl) rfl ?_
              refine ao_nil ?_
              refine aq_then ?_
              refine aw_ret ?_
              refine aq_then_ret ?_
              refine aq_ret ?_
              obtain rfl := is_some h
              exact aq_finx (l := [.tmp 2]) (xs := [.bool false]) idn [.bool false] [] rfl (by exact ⟨rfl, trivial⟩) (by exact ⟨ad_ren rfl, trivial⟩) (by exact trivial) rfl (nk rfl) rfl rfl ⟨rfl, rfl⟩
            · have q91 := d_t (not_f hb89)
              replace h := is_if (d_t (not_f hb89)) h
              refine aw_skip ?_
              refine aq_then ?_
              refine aw_seq ?_
              refine aw_region ?_
              refine ao_read trivial (r_move rfl) rfl ?_
              obtain ⟨r92, r92h, h⟩ := is_bind h
              refine ao_call [] 5 trivial (c_laws_toIntS (is_mk r92h)) Try.func25 rfl rfl rfl rfl ⟨ad_ren rfl, trivial⟩ trivial rfl rfl rfl rfl rfl rfl rfl (fun r' H' hr => ?_)
              obtain ⟨rfl, rfl⟩ := hr
              refine ao_norm (y := .os 5) (H' := [(0, .row (.int .i64) r4), (1, .row (.int .i64) r6.1), (4, .row (.int .i64) r33), (2, .row (.int .i64) ((p_laws_markIntS r8 1).2 : (List Int))), (3, .row (.int .i64) ((p_laws_markIntS r10.1 1).2 : (List Int))), (5, .row (.int .i64) r92)]) rfl rfl ?_
              refine row_len_o 5 (r92.length : Int) rfl rfl (fun hr93 => ?_)
              obtain ⟨r94, r94h, h⟩ := is_bind h
              refine ao_call [] 6 trivial (c_impl_MendLetters (is_mk r94h)) Try.func26 rfl rfl rfl rfl ⟨ad_os0 rfl, trivial⟩ trivial rfl rfl rfl rfl rfl rfl rfl (fun r' H' hr => ?_)
              obtain ⟨rfl, rfl⟩ := hr
              refine ao_norm (y := .tup [.os 6, .int .i64 r94.2.1, .bool r94.2.2]) (H' := [(0, .row (.int .i64) r4), (1, .row (.int .i64) r6.1), (4, .row (.int .i64) r33), (2, .row (.int .i64) ((p_laws_markIntS r8 1).2 : (List Int))), (3, .row (.int .i64) ((p_laws_markIntS r10.1 1).2 : (List Int))), (5, .row (.int .i64) r92), (6, .row (.int .i64) r94.1)]) rfl rfl ?_
              refine row_len_o 6 (r94.1.length : Int) rfl rfl (fun hr95 => ?_)
              refine ao_read trivial (r_move rfl) rfl ?_
              refine ao_read trivial (r_extract rfl rfl) rfl ?_
              refine ao_read trivial (r_extract rfl rfl) rfl ?_
              refine ao_read trivial (r_extract rfl rfl) rfl ?_
              refine ao_read trivial (r_assign rfl) rfl ?_
              refine ao_read trivial (r_assign rfl) rfl ?_
              refine ao_read trivial (r_assign rfl) rfl ?_
              refine ao_nil ?_
              refine aq_then ?_
              refine aw_seq ?_
              refine aw_seq ?_
              refine aw_region ?_
              refine ao_read trivial (r_move rfl) rfl ?_
              refine ao_read trivial (r_move rfl) rfl ?_
              refine ao_scall trivial (scall (c_laws_eqIntS (is_mk (rfl : p_laws_eqIntS r94.1 r6.1 = _))) rfl Try.func16 rfl rfl rfl rfl (fun σ => ⟨ad_os0 rfl, ad_os0 rfl, trivial⟩)) rfl ?_
              refine ao_read trivial (r_not rfl) rfl ?_
              refine ao_read trivial (r_move rfl) rfl ?_
              refine ao_readG (x := .int .i64 r94.2.1) rfl (GV.F rfl) (fun hg96 => r_move rfl) rfl ?_
              refine ao_readG (x := .int .i64 r6.2.1) rfl (GV.F rfl) (fun hg97 => r_move rfl) rfl ?_
              refine ao_readG (x := .bool (!(decide (r94.2.1 = r6.2.1)))) rfl (GV.F rfl) (fun hg98 => Reads.strip 97 rfl (hg98) (Reads.strip 98 rfl (hg98) (r_neq rfl rfl))) rfl ?_
              refine ao_read trivial (r_orB rfl rfl) rfl ?_
              refine ao_read trivial (r_move rfl) rfl ?_
              refine ao_readG (x := .bool r94.2.2) rfl (GV.F rfl) (fun hg99 => by
      obtain ⟨q100, q101⟩ := or_f (not_t hg99)
      have q102 := d_t (not_f q101)
      exact r_move rfl) rfl ?_
              refine ao_readG (x := .bool r6.2.2) rfl (GV.F rfl) (fun hg103 => by
      obtain ⟨q104, q105⟩ := or_f (not_t hg103)
      have q106 := d_t (not_f q105)
      exact r_move rfl) rfl ?_
              refine ao_readG (x := .bool (r94.2.2 != r6.2.2)) rfl (GV.F rfl) (fun hg107 => by
      obtain ⟨q108, q109⟩ := or_f (not_t hg107)
      have q110 := d_t (not_f q109)
      exact Reads.strip 102 rfl (hg107) (Reads.strip 103 rfl (hg107) (r_neq_bool Try.underlying4 rfl rfl))) rfl ?_
              refine ao_read trivial (r_orB rfl rfl) rfl ?_
              refine ao_nil ?_
              refine aq_then ?_
              refine aw_cond rfl (fun hb111 => ?_) (fun hb111 => ?_)
              · replace h := is_if hb111 h
                refine aw_seq ?_
                refine aw_region ?_
                refine ao_read trivial (r_assign rfl) rfl ?_
                refine ao_nil ?_
                refine aq_then ?_
                refine aw_ret ?_
                refine aq_then_ret ?_
                refine aq_ret ?_
                obtain rfl := is_some h
                exact aq_finx (l := [.tmp 2]) (xs := [.bool false]) idn [.bool false] [] rfl (by exact ⟨rfl, trivial⟩) (by exact ⟨ad_ren rfl, trivial⟩) (by exact trivial) rfl (nk rfl) rfl rfl ⟨rfl, rfl⟩
              · obtain ⟨q112, q113⟩ := or_f hb111
                obtain ⟨q114, q115⟩ := or_f q112
                have q116 := d_t (not_f q115)
                replace h := is_else (ne_t hb111) h
                refine aw_skip ?_
                refine aq_then ?_
                refine aw_seq ?_
                refine aw_region ?_
                refine ao_read trivial (r_assign rfl) rfl ?_
                refine ao_nil ?_
                refine aq_then ?_
                refine aw_seq ?_
                refine aw_region ?_
                refine ao_read trivial (r_move rfl) rfl ?_
                refine ao_read trivial (r_move rfl) rfl ?_
                refine ao_scall trivial (scall (c_laws_heldIntS (is_mk (rfl : p_laws_heldIntS ((p_laws_markIntS r10.1 1).2) 1 = _))) rfl Try.func19 rfl rfl rfl rfl (fun σ => ⟨ad_os0 rfl, ad_ren rfl, trivial⟩)) rfl ?_
                refine ao_read trivial (r_assign rfl) rfl ?_
                refine ao_nil ?_
                refine aq_then ?_
                refine aw_seq ?_
                refine aw_seq ?_
                refine aw_region ?_
                refine ao_read trivial (r_move rfl) rfl ?_
                refine ao_read trivial (r_lss rfl rfl) rfl ?_
                refine ao_nil ?_
                refine aq_then ?_
                refine aw_cond rfl (fun hb117 => ?_) (fun hb117 => ?_)
                · have q118 := d_t hb117
                  replace h := is_if (d_t hb117) h
                  refine aw_seq ?_
                  refine aw_region ?_
                  refine ao_read trivial (r_assign rfl) rfl ?_
                  refine ao_nil ?_
                  refine aq_then ?_
                  refine aw_ret ?_
                  refine aq_then_ret ?_
                  refine aq_ret ?_
                  obtain rfl := is_some h
                  exact aq_finx (l := [.tmp 2]) (xs := [.bool false]) idn [.bool false] [] rfl (by exact ⟨rfl, trivial⟩) (by exact ⟨ad_ren rfl, trivial⟩) (by exact trivial) rfl (nk rfl) rfl rfl ⟨rfl, rfl⟩
                · have q119 := d_f hb117
                  replace h := is_else (d_f hb117) h
                  refine aw_skip ?_
                  refine aq_then ?_
                  refine aw_seq ?_
                  refine aw_seq ?_
                  refine aw_region ?_
                  refine ao_read trivial (r_move rfl) rfl ?_
                  refine ao_read trivial (r_move rfl) rfl ?_
                  refine ao_read trivial (r_neq rfl rfl) rfl ?_
                  refine ao_nil ?_
                  refine aq_then ?_
                  refine aw_cond rfl (fun hb120 => ?_) (fun hb120 => ?_)
                  · have q121 := d_f (not_t hb120)
                    replace h := is_else (d_f (not_t hb120)) h
                    refine aw_seq ?_
                    refine aw_region ?_
                    refine ao_read trivial (r_assign rfl) rfl ?_
                    refine ao_nil ?_
                    refine aq_then ?_
                    refine aw_ret ?_
                    refine aq_then_ret ?_
                    refine aq_ret ?_
                    obtain rfl := is_some h
                    exact aq_finx (l := [.tmp 2]) (xs := [.bool false]) idn [.bool false] [] rfl (by exact ⟨rfl, trivial⟩) (by exact ⟨ad_ren rfl, trivial⟩) (by exact trivial) rfl (nk rfl) rfl rfl ⟨rfl, rfl⟩
                  · have q122 := d_t (not_f hb120)
                    replace h := is_if (d_t (not_f hb120)) h
                    refine aw_skip ?_
                    refine aq_then ?_
                    refine aw_seq ?_
                    refine aw_region ?_
                    refine ao_read trivial (r_assign rfl) rfl ?_
                    refine ao_nil ?_
                    refine aq_then ?_
                    refine aw_ret ?_
                    refine aq_ret ?_
                    obtain rfl := is_some h
                    exact aq_finx (l := [.tmp 2]) (xs := [.bool true]) idn [.bool true] [] rfl (by exact ⟨rfl, trivial⟩) (by exact ⟨ad_ren rfl, trivial⟩) (by exact trivial) rfl (nk rfl) rfl rfl ⟨rfl, rfl⟩
end Go.GA
