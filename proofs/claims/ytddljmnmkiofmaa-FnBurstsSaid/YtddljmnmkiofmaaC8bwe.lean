/- Walks: what the Go functions compute, by the printed lines below; no further conditions. -/
import Derived.Test.YtddljmnmkiofmaaC8bwd
namespace Go.GA
open Go Go.Proofs
set_option maxRecDepth 100000
set_option maxHeartbeats 2000000
set_option linter.unusedVariables false
set_option linter.unusedSimpArgs false
theorem c_laws_vLess {x0 : (List Int)} {x1 : (List Int)} {r : Bool} (h : Is (p_laws_vLess x0 x1) r) :
    Scalar Try.prog 22 [.v (.arr 2 (.int .i64)) x0, .v (.arr 2 (.int .i64)) x1] (.bool r) := by
  unfold p_laws_vLess at h
  refine ac_enter ⟨16, 0⟩ Try.func22 rfl rfl rfl rfl rfl (fun Γ => ?_)
  refine aw_seq ?_
  refine aw_region ?_
  refine ao_eff trivial (e_box 0 rfl rfl rfl rfl rfl rfl) rfl ?_
  refine ao_eff trivial (e_box 1 rfl rfl rfl rfl rfl rfl) rfl ?_
  refine ao_read trivial (r_assign rfl) rfl ?_
  refine ao_nil ?_
  refine aq_then ?_
  refine aw_seq ?_
  refine aw_region ?_
  refine ao_read trivial (r_idxAddr_arr (i := 0) Try.underlying29 Try.sizeOf3 rfl rfl (show 0 ≤ 0 from by omega) (show 0 < (2 : Int) from by omega)) rfl ?_
  refine ao_read trivial (r_load_elema_int Try.isAgg3 Try.sizeOf3 rfl rfl rfl (show 0 < 2 from by omega)) rfl ?_
  refine ao_read trivial (r_idxAddr_arr (i := 1) Try.underlying29 Try.sizeOf3 rfl rfl (show 0 ≤ 1 from by omega) (show 1 < (2 : Int) from by omega)) rfl ?_
  refine ao_read trivial (r_load_elema_int Try.isAgg3 Try.sizeOf3 rfl rfl rfl (show 1 < 2 from by omega)) rfl ?_
  refine ao_read trivial (r_mul rfl rfl) rfl ?_
  refine ao_read trivial (r_idxAddr_arr (i := 0) Try.underlying29 Try.sizeOf3 rfl rfl (show 0 ≤ 0 from by omega) (show 0 < (2 : Int) from by omega)) rfl ?_
  refine ao_read trivial (r_load_elema_int Try.isAgg3 Try.sizeOf3 rfl rfl rfl (show 0 < 2 from by omega)) rfl ?_
  refine ao_read trivial (r_idxAddr_arr (i := 1) Try.underlying29 Try.sizeOf3 rfl rfl (show 0 ≤ 1 from by omega) (show 1 < (2 : Int) from by omega)) rfl ?_
  refine ao_read trivial (r_load_elema_int Try.isAgg3 Try.sizeOf3 rfl rfl rfl (show 1 < 2 from by omega)) rfl ?_
  refine ao_read trivial (r_mul rfl rfl) rfl ?_
  refine ao_read trivial (r_lss rfl rfl) rfl ?_
  refine ao_read trivial (r_assign rfl) rfl ?_
  refine ao_nil ?_
  refine aq_then ?_
  refine aw_ret ?_
  refine aq_ret ?_
  obtain rfl := is_eq h
  exact aq_finx (l := [.tmp 4]) (xs := [.bool (decide ((IntKind.wrap .i64 ((x0.getD 0 0) * (x1.getD 1 0))) < (IntKind.wrap .i64 ((x1.getD 0 0) * (x0.getD 1 0)))))]) idn [.bool (decide ((IntKind.wrap .i64 ((x0.getD 0 0) * (x1.getD 1 0))) < (IntKind.wrap .i64 ((x1.getD 0 0) * (x0.getD 1 0)))))] [] rfl (by exact ⟨rfl, trivial⟩) (by exact ⟨ad_ren rfl, trivial⟩) (by exact trivial) rfl (nk rfl) rfl rfl ⟨rfl, rfl⟩
theorem c_impl_isPhrase_1 {x0 : Int} {x1 : (List Int)} {r : Bool} (h : Is (p_impl_isPhrase_1 x0 x1) r) :
    Scalar Try.prog 169 [.int .i64 x0, .cptr (.arr 6 (.int .i64)) x1] (.bool r) := by
  unfold p_impl_isPhrase_1 at h
  refine ac_enter ⟨7, 0⟩ Try.func169 rfl rfl rfl rfl rfl (fun Γ => ?_)
  refine aw_seq ?_
  refine aw_region ?_
  refine ao_read trivial (r_assign rfl) rfl ?_
  refine ao_nil ?_
  refine aq_then ?_
  refine aw_seq ?_
  refine aw_region ?_
  refine ao_read trivial (r_load_c (t := (.arr 6 (.int .i64))) Try.isAgg47 Try.sizeOf47 rfl) rfl ?_
  refine ao_read trivial (r_move rfl) rfl ?_
  refine ao_scall trivial (scall (c_impl_has (is_mk (rfl : p_impl_has x1 x0 = _))) rfl Try.func112 rfl rfl rfl rfl (fun σ => ⟨ad_ren rfl, ad_ren rfl, trivial⟩)) rfl ?_
  refine ao_read trivial (r_assign rfl) rfl ?_
  refine ao_nil ?_
  refine aq_then ?_
  refine aw_ret ?_
  refine aq_ret ?_
  obtain rfl := is_eq h
  exact aq_finx (l := [.tmp 3]) (xs := [.bool (p_impl_has x1 x0)]) idn [.bool (p_impl_has x1 x0)] [] rfl (by exact ⟨rfl, trivial⟩) (by exact ⟨ad_ren rfl, trivial⟩) (by exact trivial) rfl (nk rfl) rfl rfl ⟨rfl, rfl⟩
theorem c_impl_areAll_int_1v1 {x0 : Int} {x1 : (List Int)} {r : Bool} (h : Is (p_impl_areAll_int_1v1 x0 x1) r) :
    Scalar Try.prog 160 [.int .i64 x0, .cav (.fn 169 [.cptr (.arr 6 (.int .i64)) x1])] (.bool r) := by
  unfold p_impl_areAll_int_1v1 at h
  refine ac_enter ⟨8, 0⟩ Try.func160 rfl rfl rfl rfl rfl (fun Γ => ?_)
  refine aw_seq ?_
  refine aw_region ?_
  refine ao_read trivial (r_assign rfl) rfl ?_
  refine ao_nil ?_
  refine aq_then ?_
  refine aw_seq ?_
  refine aw_region ?_
  refine ao_read trivial (r_load_cav Try.isAgg101 rfl) rfl ?_
  refine ao_read trivial (r_move rfl) rfl ?_
  refine ao_scall trivial (scall (c_impl_isPhrase_1 (is_mk (rfl : p_impl_isPhrase_1 x0 x1 = _))) rfl Try.func169 rfl rfl rfl rfl (fun σ => ⟨ad_ren rfl, ad_ren rfl, trivial⟩)) rfl ?_
  refine ao_read trivial (r_not rfl) rfl ?_
  refine ao_read trivial (r_assign rfl) rfl ?_
  refine ao_nil ?_
  refine aq_then ?_
  refine aw_ret ?_
  refine aq_ret ?_
  obtain rfl := is_eq h
  exact aq_finx (l := [.tmp 3]) (xs := [.bool (!(p_impl_isPhrase_1 x0 x1))]) idn [.bool (!(p_impl_isPhrase_1 x0 x1))] [] rfl (by exact ⟨rfl, trivial⟩) (by exact ⟨ad_ren rfl, trivial⟩) (by exact trivial) rfl (nk rfl) rfl rfl ⟨rfl, rfl⟩
theorem c_slices_IndexFunc_int_intv1 {x0 : (List Int)} {x1 : (List Int)} {r : Int} (h : Is (p_slices_IndexFunc_int_intv1 x0 x1) r) :
    Scalar Try.prog 183 [.v (.slice (.int .i64)) x0, .fn 160 [.cav (.fn 169 [.cptr (.arr 6 (.int .i64)) x1])]] (.int .i64 r) := by
  unfold p_slices_IndexFunc_int_intv1 at h
  refine ac_enter ⟨19, 0⟩ Try.func183 rfl rfl rfl rfl rfl (fun Γ => ?_)
  refine sl_len_m 0 (x0.length : Int) rfl rfl (fun hl0 => ?_)
  refine aw_seq ?_
  refine aw_region ?_
  refine ao_read trivial (r_assign rfl) rfl ?_
  refine ao_nil ?_
  refine aq_then ?_
  refine aw_seq ?_
  refine aw_seq ?_
  refine aw_region ?_
  refine ao_read trivial (r_move rfl) rfl ?_
  refine ao_read trivial (r_len_vm (x0.length : Int) Try.underlying32 rfl rfl) rfl ?_
  refine ao_read trivial (r_move rfl) rfl ?_
  refine ao_nil ?_
  refine aq_then ?_
  refine aw_block ?_
  refine aw_loop (AL.sub (fr' := [(0, .v (.slice (.int .i64)) x0), (1, .fn 160 [.cav (.fn 169 [.cptr (.arr 6 (.int .i64)) x1])]), (7, .int .i64 (x0.length : Int)), (8, .int .i64 0)]) (H' := []) (sub_mk idn (by exact ⟨ai rfl, ai rfl, ai rfl, ai rfl, trivial⟩) (by exact trivial) (by rfl) (nk rfl)) (al_cnt (fun i2 (s1 : Unit) => [(0, .v (.slice (.int .i64)) x0), (1, .fn 160 [.cav (.fn 169 [.cptr (.arr 6 (.int .i64)) x1])]), (7, .int .i64 (x0.length : Int)), (8, .int .i64 i2)]) (fun i2 (s1 : Unit) => []) (fun d i2 (s1 : Unit) => d = Int.toNat ((x0.length : Int) - i2) ∧ 0 ≤ i2 ∧ i2 ≤ (x0.length : Int)) h ⟨rfl, (by (try simp only [List.length_set, List.length_append, List.length_cons, List.length_nil, List.length_replicate, List.length_take, List.length_drop]) <;> omega), (by (try simp only [List.length_set, List.length_append, List.length_cons, List.length_nil, List.length_replicate, List.length_take, List.length_drop]) <;> omega)⟩ (fun d3 i2 s1 hI h ih3 => ?_)))
  obtain ⟨hd, _, _⟩ := hI
  refine al_round ?_
  refine aw_seq ?_
  refine aw_region ?_
  refine ao_read trivial (r_lss rfl rfl) rfl ?_
  refine ao_nil ?_
  refine aq_then ?_
  refine aw_seq ?_
  refine aw_cond rfl (fun hb5 => ?_) (fun hb5 => ?_)
  · have q6 := d_t hb5
    obtain ⟨d3, rfl⟩ : ∃ e, d3 = e + 1 := ⟨d3 - 1, by omega⟩
    replace h := is_cntS h
    refine aw_skip ?_
    refine aq_then ?_
    refine aw_seq ?_
    refine aw_block ?_
    refine aw_seq ?_
    refine aw_region ?_
    refine ao_read trivial (r_move rfl) rfl ?_
    refine ao_read trivial (r_assign rfl) rfl ?_
    refine ao_nil ?_
    refine aq_then ?_
    refine aw_seq ?_
    refine aw_region ?_
    refine ao_read trivial (r_move rfl) rfl ?_
    refine ao_read trivial (r_move rfl) rfl ?_
    refine ao_read trivial (r_move rfl) rfl ?_
    refine ao_read trivial (r_idxAddr_int Try.underlying32 Try.sizeOf3 rfl rfl (show 0 ≤ i2 from by omega) (show i2 < (x0.length : Int) from by omega)) rfl ?_
    refine ao_read trivial (r_load_c_int Try.isAgg3 Try.sizeOf3 rfl) rfl ?_
    refine ao_scall trivial (scall (c_impl_areAll_int_1v1 (is_mk (rfl : p_impl_areAll_int_1v1 (x0.getD i2.toNat 0) x1 = _))) rfl Try.func160 rfl rfl rfl rfl (fun σ => ⟨ad_ren rfl, ad_ren rfl, trivial⟩)) rfl ?_
    refine ao_nil ?_
    refine aq_then ?_
    refine aw_cond rfl (fun hb8 => ?_) (fun hb8 => ?_)
    · replace h := is_if hb8 h
      refine aw_seq ?_
      refine aw_region ?_
      refine ao_read trivial (r_move rfl) rfl ?_
      refine ao_read trivial (r_assign rfl) rfl ?_
      refine ao_nil ?_
      refine aq_then ?_
      refine aw_ret ?_
      refine aq_in_ret ?_
      refine aq_then_ret ?_
      refine aq_then_ret ?_
      refine aq_in_ret ?_
      refine aq_then_ret ?_
      refine aq_ret ?_
      obtain rfl := is_eq h
      exact aq_finx (l := [.tmp 4]) (xs := [.int .i64 i2]) idn [.int .i64 i2] [] rfl (by exact ⟨rfl, trivial⟩) (by exact ⟨ad_ren rfl, trivial⟩) (by exact trivial) rfl (nk rfl) rfl rfl ⟨rfl, rfl⟩
    · replace h := is_else (ne_t hb8) h
      refine aw_skip ?_
      refine aq_in ?_
      refine aq_then ?_
      refine aw_region ?_
      refine ao_read trivial (r_addI rfl rfl (wrap_id (by omega) (by omega))) rfl ?_
      refine ao_read trivial (r_move rfl) rfl ?_
      refine ao_nil ?_
      exact aq_again (AL.sub (sub_mk idn (by exact ⟨ai rfl, ai rfl, ai rfl, ai rfl, trivial⟩) (by exact trivial) (by rfl) (nk rfl)) (ih3 d3 (i2 + 1) () (by omega) ⟨by omega, (by (try simp only [List.length_set, List.length_append, List.length_cons, List.length_nil, List.length_replicate, List.length_take, List.length_drop]) <;> omega), (by (try simp only [List.length_set, List.length_append, List.length_cons, List.length_nil, List.length_replicate, List.length_take, List.length_drop]) <;> omega)⟩ h))
  · have q7 := d_f hb5
    obtain rfl : d3 = 0 := by omega
    replace h := is_cnt0 h
    refine aw_exit ?_
    refine aq_then_exit ?_
    refine aq_then_exit ?_
    refine aq_in_exit ?_
    refine aq_then ?_
    refine aw_seq ?_
    refine aw_region ?_
    refine ao_read trivial (r_assign rfl) rfl ?_
    refine ao_nil ?_
    refine aq_then ?_
    refine aw_ret ?_
    refine aq_ret ?_
    obtain rfl := is_eq h
    exact aq_finx (l := [.tmp 4]) (xs := [.int .i64 (-1)]) idn [.int .i64 (-1)] [] rfl (by exact ⟨rfl, trivial⟩) (by exact ⟨ad_ren rfl, trivial⟩) (by exact trivial) rfl (nk rfl) rfl rfl ⟨rfl, rfl⟩
theorem c_slices_ContainsFunc_int_intv1 {x0 : (List Int)} {x1 : (List Int)} {r : Bool} (h : Is (p_slices_ContainsFunc_int_intv1 x0 x1) r) :
    Scalar Try.prog 159 [.v (.slice (.int .i64)) x0, .fn 160 [.cav (.fn 169 [.cptr (.arr 6 (.int .i64)) x1])]] (.bool r) := by
  unfold p_slices_ContainsFunc_int_intv1 at h
  refine ac_enter ⟨9, 0⟩ Try.func159 rfl rfl rfl rfl rfl (fun Γ => ?_)
  refine sl_len_m 0 (x0.length : Int) rfl rfl (fun hl0 => ?_)
  refine aw_seq ?_
  refine aw_region ?_
  refine ao_read trivial (r_assign rfl) rfl ?_
  refine ao_nil ?_
  refine aq_then ?_
  refine aw_seq ?_
  refine aw_region ?_
  refine ao_read trivial (r_move rfl) rfl ?_
  refine ao_read trivial (r_move rfl) rfl ?_
  refine ao_scall trivial (scall (c_slices_IndexFunc_int_intv1 (is_mk (rfl : p_slices_IndexFunc_int_intv1 x0 x1 = _))) rfl Try.func183 rfl rfl rfl rfl (fun σ => ⟨ad_ren rfl, ad_ren rfl, trivial⟩)) rfl ?_
  refine ao_read trivial (r_geq rfl rfl) rfl ?_
  refine ao_read trivial (r_assign rfl) rfl ?_
  refine ao_nil ?_
  refine aq_then ?_
  refine aw_ret ?_
  refine aq_ret ?_
  obtain rfl := is_eq h
  exact aq_finx (l := [.tmp 4]) (xs := [.bool (decide (0 ≤ (p_slices_IndexFunc_int_intv1 x0 x1)))]) idn [.bool (decide (0 ≤ (p_slices_IndexFunc_int_intv1 x0 x1)))] [] rfl (by exact ⟨rfl, trivial⟩) (by exact ⟨ad_ren rfl, trivial⟩) (by exact trivial) rfl (nk rfl) rfl rfl ⟨rfl, rfl⟩
theorem c_impl_areAll_intv1 {x0 : (List Int)} {x1 : (List Int)} {r : Bool} (h : Is (p_impl_areAll_intv1 x0 x1) r) :
    Scalar Try.prog 92 [.v (.slice (.int .i64)) x0, .fn 169 [.cptr (.arr 6 (.int .i64)) x1]] (.bool r) := by
  unfold p_impl_areAll_intv1 at h
  refine ac_enter ⟨9, 0⟩ Try.func92 rfl rfl rfl rfl rfl (fun Γ => ?_)
  refine sl_len_m 0 (x0.length : Int) rfl rfl (fun hl0 => ?_)
  refine aw_seq ?_
  refine aw_region ?_
  refine ao_eff trivial (e_box 0 rfl rfl rfl rfl rfl rfl) rfl ?_
  refine ao_read trivial (r_assign rfl) rfl ?_
  refine ao_nil ?_
  refine aq_then ?_
  refine aw_seq ?_
  refine aw_region ?_
  refine ao_read trivial (r_move rfl) rfl ?_
  refine ao_read trivial (r_makeFunc (cs := [.tmp 3]) rfl) rfl ?_
  refine ao_scall trivial (scall (c_slices_ContainsFunc_int_intv1 (is_mk (rfl : p_slices_ContainsFunc_int_intv1 x0 x1 = _))) rfl Try.func159 rfl rfl rfl rfl (fun σ => ⟨ad_ren rfl, ad_fn ⟨ad_refc0 rfl rfl (ad_ren rfl) rfl, trivial⟩, trivial⟩)) rfl ?_
  refine ao_read trivial (r_not rfl) rfl ?_
  refine ao_read trivial (r_assign rfl) rfl ?_
  refine ao_nil ?_
  refine aq_then ?_
  refine aw_ret ?_
  refine aq_ret ?_
  obtain rfl := is_eq h
  exact aq_finx (l := [.tmp 4]) (xs := [.bool (!(p_slices_ContainsFunc_int_intv1 x0 x1))]) idn [.bool (!(p_slices_ContainsFunc_int_intv1 x0 x1))] [] rfl (by exact ⟨rfl, trivial⟩) (by exact ⟨ad_ren rfl, trivial⟩) (by exact trivial) rfl (nk rfl) rfl rfl ⟨rfl, rfl⟩
theorem c_impl_isPhrase {x0 : (List Int)} {x1 : (List Int)} {r : Bool} (h : Is (p_impl_isPhrase x0 x1) r) :
    Scalar Try.prog 119 [.v (.arr 6 (.int .i64)) x0, .v (.slice (.int .i64)) x1] (.bool r) := by
  unfold p_impl_isPhrase at h
  refine ac_enter ⟨13, 0⟩ Try.func119 rfl rfl rfl rfl rfl (fun Γ => ?_)
  refine sl_len_m 1 (x1.length : Int) rfl rfl (fun hl1 => ?_)
  refine aw_seq ?_
  refine aw_region ?_
  refine ao_eff trivial (e_box 0 rfl rfl rfl rfl rfl rfl) rfl ?_
  refine ao_read trivial (r_assign rfl) rfl ?_
  refine ao_nil ?_
  refine aq_then ?_
  refine aw_seq ?_
  refine aw_region ?_
  refine ao_read trivial (r_move rfl) rfl ?_
  refine ao_read trivial (r_len_vm (x1.length : Int) Try.underlying32 rfl rfl) rfl ?_
  refine ao_scall trivial (scall (c_impl_within (is_mk (rfl : p_impl_within (x1.length : Int) 1 6 = _))) rfl Try.func85 rfl rfl rfl rfl (fun σ => ⟨ad_ren rfl, ad_ren rfl, ad_ren rfl, trivial⟩)) rfl ?_
  refine ao_read trivial (r_move rfl) rfl ?_
  refine ao_readG (x := .v (.slice (.int .i64)) x1) rfl (GV.T rfl) (fun hg1 => r_move rfl) rfl ?_
  refine ao_readG (x := .fn 169 [.ref 0 0]) rfl (GV.T rfl) (fun hg2 => r_makeFunc (cs := [.tmp 2]) rfl) rfl ?_
  refine ao_scallG (r := .bool (p_impl_areAll_intv1 x1 x0)) rfl (GV.T rfl) (fun hg3 => SCall.strip 9 rfl (hg3) (SCall.strip 10 rfl (hg3) (scall (c_impl_areAll_intv1 (is_mk (rfl : p_impl_areAll_intv1 x1 x0 = _))) rfl Try.func92 rfl rfl rfl rfl (fun σ => ⟨ad_ren rfl, ad_fn ⟨ad_ref0a rfl rfl rfl, trivial⟩, trivial⟩)))) rfl ?_
  refine ao_read trivial (r_andB rfl rfl) rfl ?_
  refine ao_read trivial (r_assign rfl) rfl ?_
  refine ao_nil ?_
  refine aq_then ?_
  refine aw_ret ?_
  refine aq_ret ?_
  obtain rfl := is_eq h
  exact aq_finx (l := [.tmp 4]) (xs := [.bool ((p_impl_within (x1.length : Int) 1 6) && (p_impl_areAll_intv1 x1 x0))]) idn [.bool ((p_impl_within (x1.length : Int) 1 6) && (p_impl_areAll_intv1 x1 x0))] [] rfl (by exact ⟨rfl, trivial⟩) (by exact ⟨ad_ren rfl, trivial⟩) (by exact trivial) rfl (nk rfl) rfl rfl ⟨rfl, rfl⟩
theorem c_slices_Equal_int_int {x0 : (List Int)} {x1 : (List Int)} {r : Bool} (h : Is (p_slices_Equal_int_int x0 x1) r) :
    Scalar Try.prog 170 [.v (.slice (.int .i64)) x0, .v (.slice (.int .i64)) x1] (.bool r) := by
  unfold p_slices_Equal_int_int at h
  refine ac_enter ⟨26, 0⟩ Try.func170 rfl rfl rfl rfl rfl (fun Γ => ?_)
  refine sl_len_m 0 (x0.length : Int) rfl rfl (fun hl0 => ?_)
  refine sl_len_m 1 (x1.length : Int) rfl rfl (fun hl1 => ?_)
  refine aw_seq ?_
  refine aw_region ?_
  refine ao_read trivial (r_assign rfl) rfl ?_
  refine ao_nil ?_
  refine aq_then ?_
  refine aw_seq ?_
  refine aw_seq ?_
  refine aw_region ?_
  refine ao_read trivial (r_move rfl) rfl ?_
  refine ao_read trivial (r_len_vm (x0.length : Int) Try.underlying32 rfl rfl) rfl ?_
  refine ao_read trivial (r_move rfl) rfl ?_
  refine ao_read trivial (r_len_vm (x1.length : Int) Try.underlying32 rfl rfl) rfl ?_
  refine ao_read trivial (r_neq rfl rfl) rfl ?_
  refine ao_nil ?_
  refine aq_then ?_
  refine aw_cond rfl (fun hb1 => ?_) (fun hb1 => ?_)
  · have q2 := d_f (not_t hb1)
    replace h := is_else (d_f (not_t hb1)) h
    refine aw_seq ?_
    refine aw_region ?_
    refine ao_read trivial (r_assign rfl) rfl ?_
    refine ao_nil ?_
    refine aq_then ?_
    refine aw_ret ?_
    refine aq_then_ret ?_
    refine aq_ret ?_
    obtain rfl := is_eq h
    exact aq_finx (l := [.tmp 4]) (xs := [.bool false]) idn [.bool false] [] rfl (by exact ⟨rfl, trivial⟩) (by exact ⟨ad_ren rfl, trivial⟩) (by exact trivial) rfl (nk rfl) rfl rfl ⟨rfl, rfl⟩
  · have q3 := d_t (not_f hb1)
    replace h := is_if (d_t (not_f hb1)) h
    refine aw_skip ?_
    refine aq_then ?_
    refine aw_seq ?_
    refine aw_seq ?_
    refine aw_region ?_
    refine ao_read trivial (r_move rfl) rfl ?_
    refine ao_read trivial (r_len_vm (x0.length : Int) Try.underlying32 rfl rfl) rfl ?_
    refine ao_read trivial (r_move rfl) rfl ?_
    refine ao_nil ?_
    refine aq_then ?_
    refine aw_block ?_
    refine aw_loop (AL.sub (fr' := [(0, .v (.slice (.int .i64)) x0), (1, .v (.slice (.int .i64)) x1), (12, .int .i64 (x0.length : Int)), (13, .int .i64 0)]) (H' := []) (sub_mk idn (by exact ⟨ai rfl, ai rfl, ai rfl, ai rfl, trivial⟩) (by exact trivial) (by rfl) (nk rfl)) (al_cnt (fun i5 (s4 : Unit) => [(0, .v (.slice (.int .i64)) x0), (1, .v (.slice (.int .i64)) x1), (12, .int .i64 (x0.length : Int)), (13, .int .i64 i5)]) (fun i5 (s4 : Unit) => []) (fun d i5 (s4 : Unit) => d = Int.toNat ((x0.length : Int) - i5) ∧ 0 ≤ i5 ∧ i5 ≤ (x0.length : Int)) h ⟨rfl, (by (try simp only [List.length_set, List.length_append, List.length_cons, List.length_nil, List.length_replicate, List.length_take, List.length_drop]) <;> omega), (by (try simp only [List.length_set, List.length_append, List.length_cons, List.length_nil, List.length_replicate, List.length_take, List.length_drop]) <;> omega)⟩ (fun d6 i5 s4 hI h ih6 => ?_)))
    obtain ⟨hd, _, _⟩ := hI
    refine al_round ?_
    refine aw_seq ?_
    refine aw_region ?_
    refine ao_read trivial (r_lss rfl rfl) rfl ?_
    refine ao_nil ?_
    refine aq_then ?_
    refine aw_seq ?_
    refine aw_cond rfl (fun hb8 => ?_) (fun hb8 => ?_)
    · have q9 := d_t hb8
      obtain ⟨d6, rfl⟩ : ∃ e, d6 = e + 1 := ⟨d6 - 1, by omega⟩
      replace h := is_cntS h
      refine aw_skip ?_
      refine aq_then ?_
      refine aw_seq ?_
      refine aw_block ?_
      refine aw_seq ?_
      refine aw_region ?_
      refine ao_read trivial (r_move rfl) rfl ?_
      refine ao_read trivial (r_assign rfl) rfl ?_
      refine ao_nil ?_
      refine aq_then ?_
      refine aw_seq ?_
      refine aw_drawAll (by kernel_rfl) ?_
      refine an_read 0 (by kernel_rfl) (fun _ _ _ h => h) rfl (by kernel_rfl) trivial (r_move rfl) rfl ?_
      refine an_read 1 (by kernel_rfl) (fun _ _ _ h => h) rfl (by kernel_rfl) trivial (r_move rfl) rfl ?_
      refine an_read 2 (by kernel_rfl) (fun _ _ _ h => h) rfl (by kernel_rfl) trivial (r_idxAddr_int Try.underlying32 Try.sizeOf3 rfl rfl (show 0 ≤ i5 from by omega) (show i5 < (x0.length : Int) from by omega)) rfl ?_
      refine an_read 3 (by kernel_rfl) (fun _ _ _ h => h) rfl (by kernel_rfl) trivial (r_load_c_int Try.isAgg3 Try.sizeOf3 rfl) rfl ?_
      refine an_read 4 (by kernel_rfl) (fun _ _ _ h => h) rfl (by kernel_rfl) trivial (r_move rfl) rfl ?_
      refine an_read 5 (by kernel_rfl) (fun _ _ _ h => h) rfl (by kernel_rfl) trivial (r_move rfl) rfl ?_
      refine an_read 6 (by kernel_rfl) (fun _ _ _ h => h) rfl (by kernel_rfl) trivial (r_idxAddr_int Try.underlying32 Try.sizeOf3 rfl rfl (show 0 ≤ i5 from by omega) (show i5 < (x1.length : Int) from by omega)) rfl ?_
      refine an_read 7 (by kernel_rfl) (fun _ _ _ h => h) rfl (by kernel_rfl) trivial (r_load_c_int Try.isAgg3 Try.sizeOf3 rfl) rfl ?_
      refine an_read 8 (by kernel_rfl) (fun _ _ _ h => h) rfl (by kernel_rfl) trivial (r_neq rfl rfl) rfl ?_
      refine an_done rfl ?_
      refine aq_then ?_
      refine aw_cond rfl (fun hb11 => ?_) (fun hb11 => ?_)
      · have q12 : ¬ ((x0.getD i5.toNat 0) = (x1.getD i5.toNat 0)) := d_f (not_t hb11)
        replace h := is_else (d_f (not_t hb11)) h
        refine aw_seq ?_
        refine aw_region ?_
        refine ao_read trivial (r_assign rfl) rfl ?_
        refine ao_nil ?_
        refine aq_then ?_
        refine aw_ret ?_
        refine aq_in_ret ?_
        refine aq_then_ret ?_
        refine aq_then_ret ?_
        refine aq_in_ret ?_
        refine aq_then_ret ?_
        refine aq_ret ?_
        obtain rfl := is_eq h
        exact aq_finx (l := [.tmp 4]) (xs := [.bool false]) idn [.bool false] [] rfl (by exact ⟨rfl, trivial⟩) (by exact ⟨ad_ren rfl, trivial⟩) (by exact trivial) rfl (nk rfl) rfl rfl ⟨rfl, rfl⟩
      · have q13 : (x0.getD i5.toNat 0) = (x1.getD i5.toNat 0) := d_t (not_f hb11)
        replace h := is_if (d_t (not_f hb11)) h
        refine aw_skip ?_
        refine aq_in ?_
        refine aq_then ?_
        refine aw_region ?_
        refine ao_read trivial (r_addI rfl rfl (wrap_id (by omega) (by omega))) rfl ?_
        refine ao_read trivial (r_move rfl) rfl ?_
        refine ao_nil ?_
        exact aq_again (AL.sub (sub_mk idn (by exact ⟨ai rfl, ai rfl, ai rfl, ai rfl, trivial⟩) (by exact trivial) (by rfl) (nk rfl)) (ih6 d6 (i5 + 1) () (by omega) ⟨by omega, (by (try simp only [List.length_set, List.length_append, List.length_cons, List.length_nil, List.length_replicate, List.length_take, List.length_drop]) <;> omega), (by (try simp only [List.length_set, List.length_append, List.length_cons, List.length_nil, List.length_replicate, List.length_take, List.length_drop]) <;> omega)⟩ h))
    · have q10 := d_f hb8
      obtain rfl : d6 = 0 := by omega
      replace h := is_cnt0 h
      refine aw_exit ?_
      refine aq_then_exit ?_
      refine aq_then_exit ?_
      refine aq_in_exit ?_
      refine aq_then ?_
      refine aw_seq ?_
      refine aw_region ?_
      refine ao_read trivial (r_assign rfl) rfl ?_
      refine ao_nil ?_
      refine aq_then ?_
      refine aw_ret ?_
      refine aq_ret ?_
      obtain rfl := is_eq h
      exact aq_finx (l := [.tmp 4]) (xs := [.bool true]) idn [.bool true] [] rfl (by exact ⟨rfl, trivial⟩) (by exact ⟨ad_ren rfl, trivial⟩) (by exact trivial) rfl (nk rfl) rfl rfl ⟨rfl, rfl⟩
theorem c_impl_longest {x0 : (List Int)} {x1 : (List Int)} {r : Int} (h : Is (p_impl_longest x0 x1) r) :
    Scalar Try.prog 120 [.v (.slice (.int .i64)) x0, .v (.slice (.int .i64)) x1] (.int .i64 r) := by
  unfold p_impl_longest at h
  refine ac_enter ⟨26, 0⟩ Try.func120 rfl rfl rfl rfl rfl (fun Γ => ?_)
  refine sl_len_m 0 (x0.length : Int) rfl rfl (fun hl0 => ?_)
  refine sl_len_m 1 (x1.length : Int) rfl rfl (fun hl1 => ?_)
  refine aw_seq ?_
  refine aw_region ?_
  refine ao_read trivial (r_assign rfl) rfl ?_
  refine ao_nil ?_
  refine aq_then ?_
  refine aw_seq ?_
  refine aw_seq ?_
  refine aw_region ?_
  refine ao_read trivial (r_move rfl) rfl ?_
  refine ao_read trivial (r_len_vm (x0.length : Int) Try.underlying32 rfl rfl) rfl ?_
  refine ao_read trivial (r_move rfl) rfl ?_
  refine ao_read trivial (r_len_vm (x1.length : Int) Try.underlying32 rfl rfl) rfl ?_
  refine ao_read trivial (r_min rfl rfl) rfl ?_
  refine ao_read trivial (r_assign rfl) rfl ?_
  refine ao_nil ?_
  refine aq_then ?_
  refine aw_block ?_
  refine aw_loop (AL.sub (fr' := [(0, .v (.slice (.int .i64)) x0), (1, .v (.slice (.int .i64)) x1), (5, .int .i64 (if (x1.length : Int) < (x0.length : Int) then (x1.length : Int) else (x0.length : Int)))]) (H' := []) (sub_mk idn (by exact ⟨ai rfl, ai rfl, ai rfl, trivial⟩) (by exact trivial) (by rfl) (nk rfl)) (al_cntd (fun i2 (s1 : Unit) => [(0, .v (.slice (.int .i64)) x0), (1, .v (.slice (.int .i64)) x1), (5, .int .i64 i2)]) (fun i2 (s1 : Unit) => []) (fun d i2 (s1 : Unit) => d = Int.toNat (i2 - 0) ∧ i2 ≤ (if (x1.length : Int) < (x0.length : Int) then (x1.length : Int) else (x0.length : Int))) h ⟨rfl, (by (try simp only [List.length_set, List.length_append, List.length_cons, List.length_nil, List.length_replicate, List.length_take, List.length_drop]) <;> omega)⟩ (fun d3 i2 s1 hI h ih3 => ?_)))
  obtain ⟨hd, _⟩ := hI
  refine al_round ?_
  refine aw_seq ?_
  refine aw_seq ?_
  refine aw_region ?_
  refine ao_read trivial (r_move rfl) rfl ?_
  refine ao_read trivial (r_gtr rfl rfl) rfl ?_
  refine ao_nil ?_
  refine aq_then ?_
  refine aw_cond rfl (fun hb5 => ?_) (fun hb5 => ?_)
  · have q6 := d_t hb5
    obtain ⟨d3, rfl⟩ : ∃ e, d3 = e + 1 := ⟨d3 - 1, by omega⟩
    replace h := is_cntdS h
    refine aw_skip ?_
    refine aq_then ?_
    refine aw_seq ?_
    refine aw_block ?_
    refine aw_seq ?_
    refine aw_drawAll (by kernel_rfl) ?_
    refine an_read 0 (by kernel_rfl) (fun _ _ _ h => h) rfl (by kernel_rfl) trivial (r_move rfl) rfl ?_
    refine an_read 1 (by kernel_rfl) (fun _ _ _ h => h) rfl (by kernel_rfl) trivial (r_move rfl) rfl ?_
    refine an_read 2 (by kernel_rfl) (fun _ _ _ h => h) rfl (by kernel_rfl) trivial (r_len_vm (x0.length : Int) Try.underlying32 rfl rfl) rfl ?_
    refine an_read 3 (by kernel_rfl) (fun _ _ _ h => h) rfl (by kernel_rfl) trivial (r_move rfl) rfl ?_
    refine an_read 4 (by kernel_rfl) (fun _ _ _ h => h) rfl (by kernel_rfl) trivial (r_subI rfl rfl (wrap_id (by omega) (by omega))) rfl ?_
    refine an_read 5 (by kernel_rfl) (fun _ _ _ h => h) rfl (by kernel_rfl) trivial (r_slice_vm (t := (.int .i64)) ((x0.drop ((x0.length : Int) - i2).toNat) : (List Int)) Try.underlying32 Try.sizeOf3 rfl (.some rfl) .none (show 0 ≤ ((x0.length : Int) - i2) from by omega) (show ((x0.length : Int) - i2) ≤ (x0.length : Int) from by omega) (show (x0.length : Int) ≤ (x0.length : Int) from by omega) sl_hi) rfl ?_
    refine an_read 6 (by kernel_rfl) (fun _ _ _ h => h) rfl (by kernel_rfl) trivial (r_move rfl) rfl ?_
    refine an_read 7 (by kernel_rfl) (fun _ _ _ h => h) rfl (by kernel_rfl) trivial (r_move rfl) rfl ?_
    refine an_read 8 (by kernel_rfl) (fun _ _ _ h => h) rfl (by kernel_rfl) trivial (r_slice_vm (t := (.int .i64)) ((x1.take i2.toNat) : (List Int)) Try.underlying32 Try.sizeOf3 rfl .none (.some rfl) (show 0 ≤ 0 from by omega) (show 0 ≤ i2 from by omega) (show i2 ≤ (x1.length : Int) from by omega) rfl) rfl ?_
    refine an_scall 9 (by kernel_rfl) (fun _ _ _ h => h) rfl (by kernel_rfl) trivial (scall (c_slices_Equal_int_int (is_mk (rfl : p_slices_Equal_int_int (x0.drop ((x0.length : Int) - i2).toNat) (x1.take i2.toNat) = _))) rfl Try.func170 rfl rfl rfl rfl (fun σ => ⟨ad_ren rfl, ad_ren rfl, trivial⟩)) rfl ?_
    refine an_done rfl ?_
    refine aq_then ?_
    refine aw_cond rfl (fun hb8 => ?_) (fun hb8 => ?_)
    · replace h := is_if hb8 h
      refine aw_seq ?_
      refine aw_region ?_
      refine ao_read trivial (r_move rfl) rfl ?_
      refine ao_read trivial (r_assign rfl) rfl ?_
      refine ao_nil ?_
      refine aq_then ?_
      refine aw_ret ?_
      refine aq_in_ret ?_
      refine aq_then_ret ?_
      refine aq_then_ret ?_
      refine aq_in_ret ?_
      refine aq_then_ret ?_
      refine aq_ret ?_
      obtain rfl := is_eq h
      exact aq_finx (l := [.tmp 4]) (xs := [.int .i64 i2]) idn [.int .i64 i2] [] rfl (by exact ⟨rfl, trivial⟩) (by exact ⟨ad_ren rfl, trivial⟩) (by exact trivial) rfl (nk rfl) rfl rfl ⟨rfl, rfl⟩
    · replace h := is_else (ne_t hb8) h
      refine aw_skip ?_
      refine aq_in ?_
      refine aq_then ?_
      refine aw_region ?_
      refine ao_read trivial (r_move rfl) rfl ?_
      refine ao_read trivial (r_subI rfl rfl (wrap_id (by omega) (by omega))) rfl ?_
      refine ao_read trivial (r_assign rfl) rfl ?_
      refine ao_nil ?_
      exact aq_again (AL.sub (sub_mk idn (by exact ⟨ai rfl, ai rfl, ai rfl, trivial⟩) (by exact trivial) (by rfl) (nk rfl)) (ih3 d3 (i2 - 1) () (by omega) ⟨by omega, (by (try simp only [List.length_set, List.length_append, List.length_cons, List.length_nil, List.length_replicate, List.length_take, List.length_drop]) <;> omega)⟩ h))
  · have q7 := d_f hb5
    obtain rfl : d3 = 0 := by omega
    replace h := is_cntd0 h
    refine aw_exit ?_
    refine aq_then_exit ?_
    refine aq_then_exit ?_
    refine aq_in_exit ?_
    refine aq_then ?_
    refine aw_seq ?_
    refine aw_region ?_
    refine ao_read trivial (r_assign rfl) rfl ?_
    refine ao_nil ?_
    refine aq_then ?_
    refine aw_ret ?_
    refine aq_ret ?_
    obtain rfl := is_eq h
    exact aq_finx (l := [.tmp 4]) (xs := [.int .i64 0]) idn [.int .i64 0] [] rfl (by exact ⟨rfl, trivial⟩) (by exact ⟨ad_ren rfl, trivial⟩) (by exact trivial) rfl (nk rfl) rfl rfl ⟨rfl, rfl⟩
theorem c_impl_PhraseWithin {fu : Nat} {x0 : (List Int)} {x1 : (List Int)} {x2 : Int} {r : (List Int) × Bool} (h : Is (p_impl_PhraseWithin fu x0 x1 x2) (some r)) :
    Scalar Try.prog 43 [.v (.arr 6 (.int .i64)) x0, .v (.slice (.int .i64)) x1, .int .i64 x2] (.tup [.v (.arr 2 (.int .i64)) r.1, .bool r.2]) := by
  unfold p_impl_PhraseWithin at h
  refine ac_enter ⟨92, 0⟩ Try.func43 rfl rfl rfl rfl rfl (fun Γ => ?_)
  refine sl_len_m 1 (x1.length : Int) rfl rfl (fun hl1 => ?_)
  refine aw_seq ?_
  refine aw_region ?_
  refine ao_eff trivial (e_box 0 rfl rfl rfl rfl rfl rfl) rfl ?_
  refine ao_eff trivial (e_alloc 1 (y := .v (.arr 2 (.int .i64)) ((List.replicate 2 0) : (List Int))) Try.zeroValue29 (fun ρ h M => ra_zero_arr (t := (.int .i64)) rfl) rfl rfl rfl rfl rfl) rfl ?_
  refine ao_read trivial (r_assign rfl) rfl ?_
  refine ao_nil ?_
  refine aq_then ?_
  refine aw_seq ?_
  refine aw_seq ?_
  refine aw_region ?_
  refine ao_read trivial (r_load_arr rfl Try.isAgg47 Try.sizeOf47 rfl rfl rfl) rfl ?_
  refine ao_scall trivial (scall (c_impl_IsDie (is_mk (rfl : p_impl_IsDie x0 = _))) rfl Try.func97 rfl rfl rfl rfl (fun σ => ⟨ad_ren rfl, trivial⟩)) rfl ?_
  refine ao_read trivial (r_not rfl) rfl ?_
  refine ao_read trivial (r_move rfl) rfl ?_
  refine ao_readG (x := .v (.arr 6 (.int .i64)) x0) rfl (GV.F rfl) (fun hg1 => r_load_arr rfl Try.isAgg47 Try.sizeOf47 rfl rfl rfl) rfl ?_
  refine ao_readG (x := .v (.slice (.int .i64)) x1) rfl (GV.F rfl) (fun hg2 => r_move rfl) rfl ?_
  refine ao_scallG (r := .bool (p_impl_isPhrase x0 x1)) rfl (GV.F rfl) (fun hg3 => SCall.strip 18 rfl (hg3) (SCall.strip 19 rfl (hg3) (scall (c_impl_isPhrase (is_mk (rfl : p_impl_isPhrase x0 x1 = _))) rfl Try.func119 rfl rfl rfl rfl (fun σ => ⟨ad_ren rfl, ad_ren rfl, trivial⟩)))) rfl ?_
  refine ao_readG (x := .bool (!(p_impl_isPhrase x0 x1))) rfl (GV.F rfl) (fun hg4 => Reads.strip 20 rfl (hg4) (r_not rfl)) rfl ?_
  refine ao_read trivial (r_orB rfl rfl) rfl ?_
  refine ao_read trivial (r_move rfl) rfl ?_
  refine ao_readG (x := .int .i64 x2) rfl (GV.F rfl) (fun hg5 => by
        obtain ⟨q6, q7⟩ := or_f (not_t hg5)
        exact r_move rfl) rfl ?_
  refine ao_scallG (r := .bool (p_impl_isRolls x2)) rfl (GV.F rfl) (fun hg8 => by
        obtain ⟨q9, q10⟩ := or_f (not_t hg8)
        exact SCall.strip 24 rfl (hg8) (scall (c_impl_isRolls (is_mk (rfl : p_impl_isRolls x2 = _))) rfl Try.func108 rfl rfl rfl rfl (fun σ => ⟨ad_ren rfl, trivial⟩))) rfl ?_
  refine ao_readG (x := .bool (!(p_impl_isRolls x2))) rfl (GV.F rfl) (fun hg11 => by
        obtain ⟨q12, q13⟩ := or_f (not_t hg11)
        exact Reads.strip 25 rfl (hg11) (r_not rfl)) rfl ?_
  refine ao_read trivial (r_orB rfl rfl) rfl ?_
  refine ao_nil ?_
  refine aq_then ?_
  refine aw_cond rfl (fun hb14 => ?_) (fun hb14 => ?_)
  · replace h := is_if hb14 h
    refine aw_seq ?_
    refine aw_region ?_
    refine ao_read trivial (r_build_zero (t := (.int .i64)) Try.underlying29 Try.zeroValue29 Try.sizeOf3 rfl) rfl ?_
    refine ao_effS trivial (e_store rfl rfl rfl rfl Try.sizeOf29 rfl) ?_
    refine ao_read trivial (r_assign rfl) rfl ?_
    refine ao_nil ?_
    refine aq_then ?_
    refine aw_ret ?_
    refine aq_then_ret ?_
    refine aq_ret ?_
    obtain rfl := is_some h
    exact aq_finx (l := [.cell 6 29, .tmp 7]) (xs := [.v (.arr 2 (.int .i64)) ((List.replicate 2 0) : (List Int)), .bool false]) idn [.v (.arr 2 (.int .i64)) ((List.replicate 2 0) : (List Int)), .bool false] [] rfl (by exact ⟨⟨⟨_, _, rfl⟩, r_load_arr rfl Try.isAgg29 Try.sizeOf29 rfl rfl rfl⟩, rfl, trivial⟩) (by exact ⟨ad_ren rfl, ad_ren rfl, trivial⟩) (by exact trivial) rfl (nk rfl) rfl rfl ⟨rfl, rfl⟩
  · obtain ⟨q15, q16⟩ := or_f hb14
    obtain ⟨q17, q18⟩ := or_f q15
    replace h := is_else (ne_t hb14) h
    refine aw_skip ?_
    refine aq_then ?_
    refine aw_seq ?_
    refine aw_region ?_
    refine ao_read trivial (r_move rfl) rfl ?_
    refine ao_read trivial (r_len_vm (x1.length : Int) Try.underlying32 rfl rfl) rfl ?_
    refine ao_read trivial (r_add rfl rfl) rfl ?_
    obtain ⟨g19, h⟩ := is_guard h
    obtain ⟨g20, h⟩ := is_guard h
    refine ao_eff trivial (e_makeSlice 2 (t := (.int .i64)) Try.underlying32 (rfl : Try.prog.info? 3 = some _) rfl rfl rfl rfl rfl rfl (by omega) (by omega) rfl rfl) rfl ?_
    refine ao_read trivial (r_assign rfl) rfl ?_
    refine ao_nil ?_
    refine aq_then ?_
    refine aw_seq ?_
    refine aw_region ?_
    refine ao_read trivial (r_move rfl) rfl ?_
    obtain ⟨g21, h⟩ := is_guard h
    refine ao_read trivial (r_idxAddr_os Try.underlying32 Try.sizeOf3 rfl rfl rfl (show 0 ≤ 0 from by omega) (show 0 < ((List.replicate (IntKind.wrap .i64 ((x1.length : Int) + 1)).toNat (0 : Int)).length : Int) from by (try simp only [List.length_replicate]) <;> omega)) rfl ?_
    refine ao_effS trivial (e_store_elem_int Try.sizeOf3 rfl rfl rfl rfl (show 0 < (List.replicate (IntKind.wrap .i64 ((x1.length : Int) + 1)).toNat (0 : Int)).length from by (try simp only [List.length_replicate]) <;> omega) rfl) ?_
    refine ao_nil ?_
    refine aq_then ?_
    refine aw_seq ?_
    refine aw_seq ?_
    refine aw_region ?_
    refine ao_read trivial (r_move rfl) rfl ?_
    refine ao_read trivial (r_move rfl) rfl ?_
    refine ao_nil ?_
    refine aq_then ?_
    refine aw_block ?_
    refine aw_loop (AL.sub (sub_mk idn (by exact ⟨ai rfl, ai rfl, ai rfl, ai rfl, ai rfl, ai rfl, ai rfl, trivial⟩) (by exact ⟨⟨_, rfl, ⟨rfl, trivial⟩⟩, ⟨_, rfl, ⟨rfl, trivial⟩⟩, ⟨_, rfl, rfl⟩, trivial⟩) (by rfl) (nk rfl)) (al_whl (fun (s22 : Int × (List Int)) => [(1, .v (.slice (.int .i64)) x1), (2, .int .i64 x2), (3, .ref 0 0), (6, .ref 1 0), (8, .os 2), (35, .int .i64 x2), (36, .int .i64 s22.1)]) (fun (s22 : Int × (List Int)) => [(0, .var [.arr (.int .i64) 6 x0]), (1, .var [.arr (.int .i64) 2 ((List.replicate 2 0) : (List Int))]), (2, .row (.int .i64) s22.2)]) (fun (s22 : Int × (List Int)) => (s22.2.length : Int) = (IntKind.wrap .i64 ((x1.length : Int) + 1))) h (by (try simp only [List.length_set, List.length_append, List.length_cons, List.length_nil, List.length_replicate, List.length_take, List.length_drop]) <;> omega) (fun d24 s22 hI h ih24 => ?_)))
    replace h := is_whlS h
    refine al_round ?_
    refine aw_seq ?_
    refine aw_region ?_
    refine ao_read trivial (r_lss rfl rfl) rfl ?_
    refine ao_nil ?_
    refine aq_then ?_
    refine aw_seq ?_
    refine aw_cond rfl (fun hb26 => ?_) (fun hb26 => ?_)
    · have q27 := d_t hb26
      replace h := is_if (d_t hb26) h
      refine aw_skip ?_
      refine aq_then ?_
      refine aw_seq ?_
      refine aw_block ?_
      refine aw_seq ?_
      refine aw_region ?_
      refine ao_read trivial (r_move rfl) rfl ?_
      refine ao_read trivial (r_len_osm (IntKind.wrap .i64 ((x1.length : Int) + 1)) Try.underlying32 rfl rfl (show (s22.2.length : Int) = (IntKind.wrap .i64 ((x1.length : Int) + 1)) from by omega)) rfl ?_
      refine ao_eff trivial (e_makeSlice 3 (t := (.int .i64)) Try.underlying32 (rfl : Try.prog.info? 3 = some _) rfl rfl rfl rfl rfl rfl (by omega) (by omega) rfl rfl) rfl ?_
      refine ao_read trivial (r_assign rfl) rfl ?_
      refine ao_nil ?_
      refine aq_then ?_
      refine aw_seq ?_
      refine aw_region ?_
      refine ao_read trivial (r_move rfl) rfl ?_
      refine ao_read trivial (r_move rfl) rfl ?_
      refine ao_read trivial (r_len_vm (x1.length : Int) Try.underlying32 rfl rfl) rfl ?_
      refine ao_read trivial (r_move rfl) rfl ?_
      refine ao_read trivial (r_move rfl) rfl ?_
      refine ao_read trivial (r_len_vm (x1.length : Int) Try.underlying32 rfl rfl) rfl ?_
      obtain ⟨g29, h⟩ := is_guard h
      refine ao_read trivial (r_idxAddr_os Try.underlying32 Try.sizeOf3 rfl rfl rfl (show 0 ≤ (x1.length : Int) from by omega) (show (x1.length : Int) < (s22.2.length : Int) from by omega)) rfl ?_
      refine ao_read trivial (r_load_elem_int Try.isAgg3 Try.sizeOf3 rfl rfl (show (x1.length : Int).toNat < s22.2.length from by omega)) rfl ?_
      refine ao_read trivial (r_mul rfl rfl) rfl ?_
      refine ao_read trivial (r_idxAddr_os Try.underlying32 Try.sizeOf3 rfl rfl rfl (show 0 ≤ (x1.length : Int) from by omega) (show (x1.length : Int) < ((List.replicate (IntKind.wrap .i64 ((x1.length : Int) + 1)).toNat (0 : Int)).length : Int) from by (try simp only [List.length_replicate]) <;> omega)) rfl ?_
      refine ao_effS trivial (e_store_elem_int Try.sizeOf3 rfl rfl rfl rfl (show (x1.length : Int).toNat < (List.replicate (IntKind.wrap .i64 ((x1.length : Int) + 1)).toNat (0 : Int)).length from by (try simp only [List.length_replicate]) <;> omega) rfl) ?_
      refine ao_nil ?_
      refine aq_then ?_
      refine aw_seq ?_
      refine aw_seq ?_
      refine aw_region ?_
      refine ao_read trivial (r_move rfl) rfl ?_
      refine ao_read trivial (r_move rfl) rfl ?_
      refine ao_read trivial (r_len_vm (x1.length : Int) Try.underlying32 rfl rfl) rfl ?_
      refine ao_eff trivial (e_shrink (t := (.int .i64)) 4 rfl Try.underlying32 Try.sizeOf3 rfl rfl (.some rfl) (by omega) (show (x1.length : Int) ≤ (s22.2.length : Int) from by omega) rfl rfl) rfl ?_
      refine ao_read trivial (r_len_osm (x1.length : Int) Try.underlying32 rfl rfl (show ((s22.2.take (x1.length : Int).toNat).length : Int) = (x1.length : Int) from by (try simp only [List.length_take]) <;> omega)) rfl ?_
      refine ao_read trivial (r_move rfl) rfl ?_
      refine ao_nil ?_
      refine aq_then ?_
      refine aw_block ?_
      refine aw_loop (AL.sub (fr' := [(1, .v (.slice (.int .i64)) x1), (2, .int .i64 x2), (3, .ref 0 0), (6, .ref 1 0), (9, .os 2), (35, .int .i64 x2), (36, .int .i64 s22.1), (54, .os 3), (55, .int .i64 (x1.length : Int)), (56, .int .i64 0)]) (H' := [(0, .var [.arr (.int .i64) 6 x0]), (1, .var [.arr (.int .i64) 2 ((List.replicate 2 0) : (List Int))]), (2, .row (.int .i64) (((List.replicate (IntKind.wrap .i64 ((x1.length : Int) + 1)).toNat 0).set (x1.length : Int).toNat (IntKind.wrap .i64 ((s22.2.getD (x1.length : Int).toNat 0) * 6))) : (List Int))), (3, .row (.int .i64) ((s22.2.take (x1.length : Int).toNat) : (List Int)))]) (sub_mk (rn [(2, 3), (3, 4)]) (by exact ⟨ai rfl, ai rfl, ai rfl, ai rfl, ai rfl, ai rfl, ai rfl, ai rfl, ai rfl, ai rfl, trivial⟩) (by exact ⟨⟨_, rfl, ⟨rfl, trivial⟩⟩, ⟨_, rfl, ⟨rfl, trivial⟩⟩, ⟨_, rfl, rfl⟩, ⟨_, rfl, rfl⟩, trivial⟩) (by rfl) (nk rfl)) (al_cnt (fun i31 (s30 : (List Int)) => [(1, .v (.slice (.int .i64)) x1), (2, .int .i64 x2), (3, .ref 0 0), (6, .ref 1 0), (9, .os 2), (35, .int .i64 x2), (36, .int .i64 s22.1), (54, .os 3), (55, .int .i64 (x1.length : Int)), (56, .int .i64 i31)]) (fun i31 (s30 : (List Int)) => [(0, .var [.arr (.int .i64) 6 x0]), (1, .var [.arr (.int .i64) 2 ((List.replicate 2 0) : (List Int))]), (2, .row (.int .i64) s30), (3, .row (.int .i64) ((s22.2.take (x1.length : Int).toNat) : (List Int)))]) (fun d i31 (s30 : (List Int)) => d = Int.toNat ((x1.length : Int) - i31) ∧ 0 ≤ i31 ∧ (s30.length : Int) = (IntKind.wrap .i64 ((x1.length : Int) + 1)) ∧ i31 ≤ (x1.length : Int)) h ⟨rfl, (by (try simp only [List.length_set, List.length_append, List.length_cons, List.length_nil, List.length_replicate, List.length_take, List.length_drop]) <;> omega), (by (try simp only [List.length_set, List.length_append, List.length_cons, List.length_nil, List.length_replicate, List.length_take, List.length_drop]) <;> omega), (by (try simp only [List.length_set, List.length_append, List.length_cons, List.length_nil, List.length_replicate, List.length_take, List.length_drop]) <;> omega)⟩ (fun d32 i31 s30 hI h ih32 => ?_)))
      obtain ⟨hd, _, _, _⟩ := hI
      refine al_round ?_
      refine aw_seq ?_
      refine aw_region ?_
      refine ao_read trivial (r_lss rfl rfl) rfl ?_
      refine ao_nil ?_
      refine aq_then ?_
      refine aw_seq ?_
      refine aw_cond rfl (fun hb34 => ?_) (fun hb34 => ?_)
      · have q35 := d_t hb34
        obtain ⟨d32, rfl⟩ : ∃ e, d32 = e + 1 := ⟨d32 - 1, by omega⟩
        replace h := is_cntS h
        refine aw_skip ?_
        refine aq_then ?_
        refine aw_seq ?_
        refine aw_block ?_
        refine aw_seq ?_
        refine aw_region ?_
        refine ao_read trivial (r_move rfl) rfl ?_
        refine ao_read trivial (r_idxAddr_os Try.underlying32 Try.sizeOf3 rfl rfl rfl (show 0 ≤ i31 from by omega) (show i31 < ((s22.2.take (x1.length : Int).toNat).length : Int) from by (try simp only [List.length_take]) <;> omega)) rfl ?_
        refine ao_read trivial (r_load_elem_int Try.isAgg3 Try.sizeOf3 rfl rfl (show i31.toNat < (s22.2.take (x1.length : Int).toNat).length from by (try simp only [List.length_take]) <;> omega)) rfl ?_
        refine ao_read trivial (r_assign rfl) rfl ?_
        refine ao_read trivial (r_assign rfl) rfl ?_
        refine ao_nil ?_
        refine aq_then ?_
        refine aw_seq ?_
        refine aw_region ?_
        refine ao_read trivial (r_load_arr rfl Try.isAgg47 Try.sizeOf47 rfl rfl rfl) rfl ?_
        refine ao_read trivial (r_move rfl) rfl ?_
        refine ao_nil ?_
        refine aq_then ?_
        refine aw_block ?_
        refine aw_loop (AL.sub (fr' := [(1, .v (.slice (.int .i64)) x1), (2, .int .i64 x2), (3, .ref 0 0), (6, .ref 1 0), (9, .os 2), (10, .int .i64 i31), (11, .int .i64 ((s22.2.take (x1.length : Int).toNat).getD i31.toNat 0)), (35, .int .i64 x2), (36, .int .i64 s22.1), (54, .os 3), (55, .int .i64 (x1.length : Int)), (56, .int .i64 i31), (61, .v (.arr 6 (.int .i64)) x0), (62, .int .i64 0)]) (H' := [(0, .var [.arr (.int .i64) 6 x0]), (1, .var [.arr (.int .i64) 2 ((List.replicate 2 0) : (List Int))]), (2, .row (.int .i64) s30), (3, .row (.int .i64) ((s22.2.take (x1.length : Int).toNat) : (List Int)))]) (sub_mk idn (by exact ⟨ai rfl, ai rfl, ai rfl, ai rfl, ai rfl, ai rfl, ai rfl, ai rfl, ai rfl, ai rfl, ai rfl, ai rfl, ai rfl, ai rfl, trivial⟩) (by exact ⟨⟨_, rfl, ⟨rfl, trivial⟩⟩, ⟨_, rfl, ⟨rfl, trivial⟩⟩, ⟨_, rfl, rfl⟩, ⟨_, rfl, rfl⟩, trivial⟩) (by rfl) (nk rfl)) (al_cnt (fun i38 (s37 : (List Int)) => [(1, .v (.slice (.int .i64)) x1), (2, .int .i64 x2), (3, .ref 0 0), (6, .ref 1 0), (9, .os 2), (10, .int .i64 i31), (11, .int .i64 ((s22.2.take (x1.length : Int).toNat).getD i31.toNat 0)), (35, .int .i64 x2), (36, .int .i64 s22.1), (54, .os 3), (55, .int .i64 (x1.length : Int)), (56, .int .i64 i31), (61, .v (.arr 6 (.int .i64)) x0), (62, .int .i64 i38)]) (fun i38 (s37 : (List Int)) => [(0, .var [.arr (.int .i64) 6 x0]), (1, .var [.arr (.int .i64) 2 ((List.replicate 2 0) : (List Int))]), (2, .row (.int .i64) s37), (3, .row (.int .i64) ((s22.2.take (x1.length : Int).toNat) : (List Int)))]) (fun d i38 (s37 : (List Int)) => d = Int.toNat (6 - i38) ∧ 0 ≤ i38 ∧ (s37.length : Int) = (IntKind.wrap .i64 ((x1.length : Int) + 1)) ∧ i38 ≤ 6) h ⟨rfl, (by (try simp only [List.length_set, List.length_append, List.length_cons, List.length_nil, List.length_replicate, List.length_take, List.length_drop]) <;> omega), (by (try simp only [List.length_set, List.length_append, List.length_cons, List.length_nil, List.length_replicate, List.length_take, List.length_drop]) <;> omega), (by (try simp only [List.length_set, List.length_append, List.length_cons, List.length_nil, List.length_replicate, List.length_take, List.length_drop]) <;> omega)⟩ (fun d39 i38 s37 hI h ih39 => ?_)))
        obtain ⟨hd, _, _, _⟩ := hI
        refine al_round ?_
        refine aw_seq ?_
        refine aw_region ?_
        refine ao_read trivial (r_lss rfl rfl) rfl ?_
        refine ao_nil ?_
        refine aq_then ?_
        refine aw_seq ?_
        refine aw_cond rfl (fun hb41 => ?_) (fun hb41 => ?_)
        · have q42 := d_t hb41
          obtain ⟨d39, rfl⟩ : ∃ e, d39 = e + 1 := ⟨d39 - 1, by omega⟩
          replace h := is_cntS h
          refine aw_skip ?_
          refine aq_then ?_
          refine aw_seq ?_
          refine aw_block ?_
          refine aw_seq ?_
          refine aw_region ?_
          refine ao_read trivial (r_index_a (t := (.int .i64)) Try.underlying47 Try.isAgg3 Try.sizeOf3 rfl rfl (by omega) (by omega)) rfl ?_
          refine ao_read trivial (r_assign rfl) rfl ?_
          refine ao_nil ?_
          refine aq_then ?_
          refine aw_region ?_
          refine ao_read trivial (r_move rfl) rfl ?_
          refine ao_read trivial (r_move rfl) rfl ?_
          refine ao_read trivial (r_move rfl) rfl ?_
          refine ao_read trivial (r_slice_vm (t := (.int .i64)) ((x1.take i31.toNat) : (List Int)) Try.underlying32 Try.sizeOf3 rfl .none (.some rfl) (show 0 ≤ 0 from by omega) (show 0 ≤ i31 from by omega) (show i31 ≤ (x1.length : Int) from by omega) rfl) rfl ?_
          obtain ⟨r44, r44h, h⟩ := is_bind h
          refine ao_call [] 4 trivial (c_slices_Clone_int_int (is_mk r44h)) Try.func121 rfl rfl rfl rfl ⟨ad_ren rfl, trivial⟩ trivial rfl rfl rfl rfl rfl rfl rfl (fun r' H' hr => ?_)
          obtain ⟨rfl, rfl⟩ := hr
          refine ao_norm (y := .os 4) (H' := [(0, .var [.arr (.int .i64) 6 x0]), (1, .var [.arr (.int .i64) 2 ((List.replicate 2 0) : (List Int))]), (2, .row (.int .i64) s37), (3, .row (.int .i64) ((s22.2.take (x1.length : Int).toNat) : (List Int))), (4, .row (.int .i64) r44)]) rfl rfl ?_
          refine row_len_o 4 (r44.length : Int) rfl rfl (fun hr45 => ?_)
          refine ao_read trivial (r_move rfl) rfl ?_
          refine ao_eff trivial (e_buildSlice (l := [(0, .tmp 70)]) (t := (.int .i64)) 5 ([(x0.getD i38.toNat 0)] : (List Int)) rfl Try.underlying32 Try.zeroValue3 Try.sizeOf3 rfl rfl rfl rfl rfl rfl rfl) rfl ?_
          obtain ⟨g46, h⟩ := is_guard h
          refine ao_eff trivial (e_append (t := (.int .i64)) 6 rfl Try.underlying32 (rfl : Try.prog.info? 3 = some _) rfl rfl rfl rfl rfl rfl rfl (src_os rfl) (show r44.length + ([(x0.getD i38.toNat 0)] : (List Int)).length ≤ 1000000000 from by (try simp only [List.length_cons, List.length_nil]) <;> omega) rfl rfl) rfl ?_
          refine ao_read trivial (r_move rfl) rfl ?_
          refine ao_scall trivial (scall (c_impl_longest (is_mk (rfl : p_impl_longest (r44 ++ [(x0.getD i38.toNat 0)]) x1 = _))) rfl Try.func120 rfl rfl rfl rfl (fun σ => ⟨ad_os0 rfl, ad_ren rfl, trivial⟩)) rfl ?_
          obtain ⟨g47, h⟩ := is_guard h
          obtain ⟨g48, h⟩ := is_guard h
          refine ao_read trivial (r_idxAddr_os Try.underlying32 Try.sizeOf3 rfl rfl rfl (show 0 ≤ (p_impl_longest (r44 ++ [(x0.getD i38.toNat 0)]) x1) from by (try simp only [List.length_append, List.length_cons, List.length_nil]) <;> omega) (show (p_impl_longest (r44 ++ [(x0.getD i38.toNat 0)]) x1) < (s37.length : Int) from by (try simp only [List.length_append, List.length_cons, List.length_nil]) <;> omega)) rfl ?_
          refine ao_read trivial (r_load_elem_int Try.isAgg3 Try.sizeOf3 rfl rfl (show (p_impl_longest (r44 ++ [(x0.getD i38.toNat 0)]) x1).toNat < s37.length from by (try simp only [List.length_append, List.length_cons, List.length_nil]) <;> omega)) rfl ?_
          refine ao_read trivial (r_move rfl) rfl ?_
          refine ao_read trivial (r_add rfl rfl) rfl ?_
          refine ao_read trivial (r_idxAddr_os Try.underlying32 Try.sizeOf3 rfl rfl rfl (show 0 ≤ (p_impl_longest (r44 ++ [(x0.getD i38.toNat 0)]) x1) from by (try simp only [List.length_append, List.length_cons, List.length_nil]) <;> omega) (show (p_impl_longest (r44 ++ [(x0.getD i38.toNat 0)]) x1) < (s37.length : Int) from by (try simp only [List.length_append, List.length_cons, List.length_nil]) <;> omega)) rfl ?_
          refine ao_effS trivial (e_store_elem_int Try.sizeOf3 rfl rfl rfl rfl (show (p_impl_longest (r44 ++ [(x0.getD i38.toNat 0)]) x1).toNat < s37.length from by (try simp only [List.length_append, List.length_cons, List.length_nil]) <;> omega) rfl) ?_
          refine ao_nil ?_
          refine aq_in ?_
          refine aq_then ?_
          refine aw_region ?_
          refine ao_read trivial (r_addI rfl rfl (wrap_id (by omega) (by omega))) rfl ?_
          refine ao_read trivial (r_move rfl) rfl ?_
          refine ao_nil ?_
          exact aq_again (AL.sub (sub_mk idn (by exact ⟨ai rfl, ai rfl, ai rfl, ai rfl, ai rfl, ai rfl, ai rfl, ai rfl, ai rfl, ai rfl, ai rfl, ai rfl, ai rfl, ai rfl, trivial⟩) (by exact ⟨⟨_, rfl, ⟨rfl, trivial⟩⟩, ⟨_, rfl, ⟨rfl, trivial⟩⟩, ⟨_, rfl, rfl⟩, ⟨_, rfl, rfl⟩, trivial⟩) (by rfl) (nk rfl)) (ih39 d39 (i38 + 1) (s37.set (p_impl_longest (r44 ++ [(x0.getD i38.toNat 0)]) x1).toNat (IntKind.wrap .i64 ((s37.getD (p_impl_longest (r44 ++ [(x0.getD i38.toNat 0)]) x1).toNat 0) + ((s22.2.take (x1.length : Int).toNat).getD i31.toNat 0)))) (by omega) ⟨by omega, (by (try simp only [List.length_set, List.length_append, List.length_cons, List.length_nil, List.length_replicate, List.length_take, List.length_drop]) <;> omega), (by (try simp only [List.length_set, List.length_append, List.length_cons, List.length_nil, List.length_replicate, List.length_take, List.length_drop]) <;> omega), (by (try simp only [List.length_set, List.length_append, List.length_cons, List.length_nil, List.length_replicate, List.length_take, List.length_drop]) <;> omega)⟩ h))
        · have q43 := d_f hb41
          obtain rfl : d39 = 0 := by omega
          replace h := is_cnt0 h
          refine aw_exit ?_
          refine aq_then_exit ?_
          refine aq_then_exit ?_
          refine aq_in_exit ?_
          refine aq_in ?_
          refine aq_then ?_
          refine aw_region ?_
          refine ao_read trivial (r_addI rfl rfl (wrap_id (by omega) (by omega))) rfl ?_
          refine ao_read trivial (r_move rfl) rfl ?_
          refine ao_nil ?_
          exact aq_again (AL.sub (sub_mk idn (by exact ⟨ai rfl, ai rfl, ai rfl, ai rfl, ai rfl, ai rfl, ai rfl, ai rfl, ai rfl, ai rfl, trivial⟩) (by exact ⟨⟨_, rfl, ⟨rfl, trivial⟩⟩, ⟨_, rfl, ⟨rfl, trivial⟩⟩, ⟨_, rfl, rfl⟩, ⟨_, rfl, rfl⟩, trivial⟩) (by rfl) (nk rfl)) (ih32 d32 (i31 + 1) s37 (by omega) ⟨by omega, (by (try simp only [List.length_set, List.length_append, List.length_cons, List.length_nil, List.length_replicate, List.length_take, List.length_drop]) <;> omega), (by (try simp only [List.length_set, List.length_append, List.length_cons, List.length_nil, List.length_replicate, List.length_take, List.length_drop]) <;> omega), (by (try simp only [List.length_set, List.length_append, List.length_cons, List.length_nil, List.length_replicate, List.length_take, List.length_drop]) <;> omega)⟩ h))
      · have q36 := d_f hb34
        obtain rfl : d32 = 0 := by omega
        replace h := is_cnt0 h
        refine aw_exit ?_
        refine aq_then_exit ?_
        refine aq_then_exit ?_
        refine aq_in_exit ?_
        refine aq_then ?_
        refine aw_region ?_
        refine ao_read trivial (r_move rfl) rfl ?_
        refine ao_read trivial (r_assign rfl) rfl ?_
        refine ao_nil ?_
        refine aq_in ?_
        refine aq_then ?_
        refine aw_region ?_
        refine ao_read trivial (r_add rfl rfl) rfl ?_
        refine ao_read trivial (r_move rfl) rfl ?_
        refine ao_nil ?_
        exact aq_again (AL.sub (sub_mk idn (by exact ⟨ai rfl, ai rfl, ai rfl, ai rfl, ai rfl, ai rfl, ai rfl, trivial⟩) (by exact ⟨⟨_, rfl, ⟨rfl, trivial⟩⟩, ⟨_, rfl, ⟨rfl, trivial⟩⟩, ⟨_, rfl, rfl⟩, trivial⟩) (by rfl) (nk rfl)) (ih24 ((IntKind.wrap .i64 (s22.1 + 1)), s30) (by (try simp only [List.length_set, List.length_append, List.length_cons, List.length_nil, List.length_replicate, List.length_take, List.length_drop]) <;> omega) h))
    · have q28 := d_f hb26
      replace h := is_else (d_f hb26) h
      refine aw_exit ?_
      refine aq_then_exit ?_
      refine aq_then_exit ?_
      refine aq_in_exit ?_
      refine aq_then ?_
      refine aw_seq ?_
      obtain ⟨g49, h⟩ := is_guard h
      obtain ⟨r50, r50h, h⟩ := is_bind h
      obtain ⟨r51, r51h, h⟩ := is_bind h
      refine aw_draw 8 (by kernel_rfl) (by kernel_rfl) ?_
      refine an_read 0 (by kernel_rfl) (fun _ _ _ h => h) rfl (by kernel_rfl) trivial (r_move rfl) rfl ?_
      refine an_read 1 (by kernel_rfl) (fun _ _ _ h => h) rfl (by kernel_rfl) trivial (r_move rfl) rfl ?_
      refine an_read 2 (by kernel_rfl) (fun _ _ _ h => h) rfl (by kernel_rfl) trivial (r_len_vm (x1.length : Int) Try.underlying32 rfl rfl) rfl ?_
      refine an_read 3 (by kernel_rfl) (fun _ _ _ h => h) rfl (by kernel_rfl) trivial (r_idxAddr_os Try.underlying32 Try.sizeOf3 rfl rfl rfl (show 0 ≤ (x1.length : Int) from by omega) (show (x1.length : Int) < (s22.2.length : Int) from by omega)) rfl ?_
      refine an_read 4 (by kernel_rfl) (fun _ _ _ h => h) rfl (by kernel_rfl) trivial (r_load_elem_int Try.isAgg3 Try.sizeOf3 rfl rfl (show (x1.length : Int).toNat < s22.2.length from by omega)) rfl ?_
      refine an_read 5 (by kernel_rfl) (fun _ _ _ h => h) rfl (by kernel_rfl) trivial (r_move rfl) rfl ?_
      refine an_scall 6 (by kernel_rfl) (fun _ _ _ h => h) rfl (by kernel_rfl) trivial (scall (c_impl_power (is_mk r50h)) rfl Try.func99 rfl rfl rfl rfl (fun σ => ⟨ad_ren rfl, trivial⟩)) rfl ?_
      refine an_scall 7 (by kernel_rfl) (fun _ _ _ h => h) rfl (by kernel_rfl) trivial (scall (c_impl_fraction (is_mk r51h)) rfl Try.func102 rfl rfl rfl rfl (fun σ => ⟨ad_ren rfl, ad_ren rfl, trivial⟩)) rfl ?_
      refine an_tail rfl rfl ?_
      refine ao_effS trivial (e_store rfl rfl rfl rfl Try.sizeOf29 rfl) ?_
      refine ao_read trivial (r_assign rfl) rfl ?_
      refine ao_nil ?_
      refine aq_then ?_
      refine aw_ret ?_
      refine aq_ret ?_
      obtain rfl := is_some h
      exact aq_finx (l := [.cell 6 29, .tmp 7]) (xs := [.v (.arr 2 (.int .i64)) r51, .bool true]) idn [.v (.arr 2 (.int .i64)) r51, .bool true] [] rfl (by exact ⟨⟨⟨_, _, rfl⟩, r_load_arr rfl Try.isAgg29 Try.sizeOf29 rfl rfl rfl⟩, rfl, trivial⟩) (by exact ⟨ad_ren rfl, ad_ren rfl, trivial⟩) (by exact trivial) rfl (nk rfl) rfl rfl ⟨rfl, rfl⟩
theorem c_impl_faces {x0 : (List Int)} {x1 : (List Int)} {r : Int} (h : Is (p_impl_faces x0 x1) r) :
    Scalar Try.prog 124 [.v (.arr 6 (.int .i64)) x0, .v (.slice (.int .i64)) x1] (.int .i64 r) := by
  unfold p_impl_faces at h
  refine ac_enter ⟨21, 0⟩ Try.func124 rfl rfl rfl rfl rfl (fun Γ => ?_)
  refine sl_len_m 1 (x1.length : Int) rfl rfl (fun hl1 => ?_)
  refine aw_seq ?_
  refine aw_region ?_
  refine ao_eff trivial (e_box 0 rfl rfl rfl rfl rfl rfl) rfl ?_
  refine ao_read trivial (r_assign rfl) rfl ?_
  refine ao_nil ?_
  refine aq_then ?_
  refine aw_seq ?_
  refine aw_region ?_
  refine ao_read trivial (r_assign rfl) rfl ?_
  refine ao_nil ?_
  refine aq_then ?_
  refine aw_seq ?_
  refine aw_seq ?_
  refine aw_region ?_
  refine ao_read trivial (r_move rfl) rfl ?_
  refine ao_read trivial (r_len_vm (x1.length : Int) Try.underlying32 rfl rfl) rfl ?_
  refine ao_read trivial (r_move rfl) rfl ?_
  refine ao_nil ?_
  refine aq_then ?_
  refine aw_block ?_
  refine aw_loop (AL.sub (fr' := [(2, .ref 0 0), (5, .int .i64 1), (8, .v (.slice (.int .i64)) x1), (9, .int .i64 (x1.length : Int)), (10, .int .i64 0)]) (H' := [(0, .var [.arr (.int .i64) 6 x0])]) (sub_mk idn (by exact ⟨ai rfl, ai rfl, ai rfl, ai rfl, ai rfl, trivial⟩) (by exact ⟨⟨_, rfl, ⟨rfl, trivial⟩⟩, trivial⟩) (by rfl) (nk rfl)) (al_cnt (fun i2 (s1 : Int) => [(2, .ref 0 0), (5, .int .i64 s1), (8, .v (.slice (.int .i64)) x1), (9, .int .i64 (x1.length : Int)), (10, .int .i64 i2)]) (fun i2 (s1 : Int) => [(0, .var [.arr (.int .i64) 6 x0])]) (fun d i2 (s1 : Int) => d = Int.toNat ((x1.length : Int) - i2) ∧ 0 ≤ i2 ∧ i2 ≤ (x1.length : Int)) h ⟨rfl, (by (try simp only [List.length_set, List.length_append, List.length_cons, List.length_nil, List.length_replicate, List.length_take, List.length_drop]) <;> omega), (by (try simp only [List.length_set, List.length_append, List.length_cons, List.length_nil, List.length_replicate, List.length_take, List.length_drop]) <;> omega)⟩ (fun d3 i2 s1 hI h ih3 => ?_)))
  obtain ⟨hd, _, _⟩ := hI
  refine al_round ?_
  refine aw_seq ?_
  refine aw_region ?_
  refine ao_read trivial (r_lss rfl rfl) rfl ?_
  refine ao_nil ?_
  refine aq_then ?_
  refine aw_seq ?_
  refine aw_cond rfl (fun hb5 => ?_) (fun hb5 => ?_)
  · have q6 := d_t hb5
    obtain ⟨d3, rfl⟩ : ∃ e, d3 = e + 1 := ⟨d3 - 1, by omega⟩
    replace h := is_cntS h
    refine aw_skip ?_
    refine aq_then ?_
    refine aw_seq ?_
    refine aw_block ?_
    refine aw_seq ?_
    refine aw_region ?_
    refine ao_read trivial (r_idxAddr_int Try.underlying32 Try.sizeOf3 rfl rfl (show 0 ≤ i2 from by omega) (show i2 < (x1.length : Int) from by omega)) rfl ?_
    refine ao_read trivial (r_load_c_int Try.isAgg3 Try.sizeOf3 rfl) rfl ?_
    refine ao_read trivial (r_assign rfl) rfl ?_
    refine ao_nil ?_
    refine aq_then ?_
    refine aw_region ?_
    refine ao_read trivial (r_move rfl) rfl ?_
    refine ao_read trivial (r_load_arr rfl Try.isAgg47 Try.sizeOf47 rfl rfl rfl) rfl ?_
    refine ao_read trivial (r_move rfl) rfl ?_
    refine ao_scall trivial (scall (c_impl_weight (is_mk (rfl : p_impl_weight x0 (x1.getD i2.toNat 0) = _))) rfl Try.func104 rfl rfl rfl rfl (fun σ => ⟨ad_ren rfl, ad_ren rfl, trivial⟩)) rfl ?_
    refine ao_read trivial (r_mul rfl rfl) rfl ?_
    refine ao_read trivial (r_assign rfl) rfl ?_
    refine ao_nil ?_
    refine aq_in ?_
    refine aq_then ?_
    refine aw_region ?_
    refine ao_read trivial (r_addI rfl rfl (wrap_id (by omega) (by omega))) rfl ?_
    refine ao_read trivial (r_move rfl) rfl ?_
    refine ao_nil ?_
    exact aq_again (AL.sub (sub_mk idn (by exact ⟨ai rfl, ai rfl, ai rfl, ai rfl, ai rfl, trivial⟩) (by exact ⟨⟨_, rfl, ⟨rfl, trivial⟩⟩, trivial⟩) (by rfl) (nk rfl)) (ih3 d3 (i2 + 1) (IntKind.wrap .i64 (s1 * (p_impl_weight x0 (x1.getD i2.toNat 0)))) (by omega) ⟨by omega, (by (try simp only [List.length_set, List.length_append, List.length_cons, List.length_nil, List.length_replicate, List.length_take, List.length_drop]) <;> omega), (by (try simp only [List.length_set, List.length_append, List.length_cons, List.length_nil, List.length_replicate, List.length_take, List.length_drop]) <;> omega)⟩ h))
  · have q7 := d_f hb5
    obtain rfl : d3 = 0 := by omega
    replace h := is_cnt0 h
    refine aw_exit ?_
    refine aq_then_exit ?_
    refine aq_then_exit ?_
    refine aq_in_exit ?_
    refine aq_then ?_
    refine aw_seq ?_
    refine aw_region ?_
    refine ao_read trivial (r_move rfl) rfl ?_
    refine ao_read trivial (r_assign rfl) rfl ?_
    refine ao_nil ?_
    refine aq_then ?_
    refine aw_ret ?_
    refine aq_ret ?_
    obtain rfl := is_eq h
    exact aq_finx (l := [.tmp 4]) (xs := [.int .i64 s1]) idn [.int .i64 s1] [] rfl (by exact ⟨rfl, trivial⟩) (by exact ⟨ad_ren rfl, trivial⟩) (by exact trivial) rfl (nk rfl) rfl rfl ⟨rfl, rfl⟩
theorem c_impl_overlap {fu : Nat} {x0 : (List Int)} {x1 : (List Int)} {x2 : (List Int)} {r : Int} (h : Is (p_impl_overlap fu x0 x1 x2) (some r)) :
    Scalar Try.prog 125 [.v (.arr 6 (.int .i64)) x0, .v (.slice (.int .i64)) x1, .v (.slice (.int .i64)) x2] (.int .i64 r) := by
  unfold p_impl_overlap at h
  refine ac_enter ⟨39, 0⟩ Try.func125 rfl rfl rfl rfl rfl (fun Γ => ?_)
  refine sl_len_m 1 (x1.length : Int) rfl rfl (fun hl1 => ?_)
  refine sl_len_m 2 (x2.length : Int) rfl rfl (fun hl2 => ?_)
  refine aw_seq ?_
  refine aw_region ?_
  refine ao_eff trivial (e_box 0 rfl rfl rfl rfl rfl rfl) rfl ?_
  refine ao_read trivial (r_assign rfl) rfl ?_
  refine ao_nil ?_
  refine aq_then ?_
  refine aw_seq ?_
  refine aw_region ?_
  refine ao_read trivial (r_assign rfl) rfl ?_
  refine ao_nil ?_
  refine aq_then ?_
  refine aw_seq ?_
  refine aw_seq ?_
  refine aw_region ?_
  refine ao_read trivial (r_assign rfl) rfl ?_
  refine ao_nil ?_
  refine aq_then ?_
  refine aw_block ?_
  refine aw_loop (AL.sub (sub_mk idn (by exact ⟨ai rfl, ai rfl, ai rfl, ai rfl, ai rfl, trivial⟩) (by exact ⟨⟨_, rfl, ⟨rfl, trivial⟩⟩, trivial⟩) (by rfl) (nk rfl)) (al_whl (fun (s1 : Int × Int) => [(1, .v (.slice (.int .i64)) x1), (2, .v (.slice (.int .i64)) x2), (3, .ref 0 0), (7, .int .i64 s1.1), (8, .int .i64 s1.2)]) (fun (s1 : Int × Int) => [(0, .var [.arr (.int .i64) 6 x0])]) (fun (s1 : Int × Int) => True) h trivial (fun d3 s1 hI h ih3 => ?_)))
  replace h := is_whlS h
  refine al_round ?_
  refine aw_seq ?_
  refine aw_seq ?_
  refine aw_region ?_
  refine ao_read trivial (r_move rfl) rfl ?_
  refine ao_read trivial (r_move rfl) rfl ?_
  refine ao_read trivial (r_len_vm (x1.length : Int) Try.underlying32 rfl rfl) rfl ?_
  refine ao_read trivial (r_move rfl) rfl ?_
  refine ao_read trivial (r_len_vm (x2.length : Int) Try.underlying32 rfl rfl) rfl ?_
  refine ao_read trivial (r_min rfl rfl) rfl ?_
  refine ao_read trivial (r_leq rfl rfl) rfl ?_
  refine ao_nil ?_
  refine aq_then ?_
  refine aw_cond rfl (fun hb5 => ?_) (fun hb5 => ?_)
  · have q6 := d_t hb5
    replace h := is_if (d_t hb5) h
    refine aw_skip ?_
    refine aq_then ?_
    refine aw_seq ?_
    refine aw_block ?_
    refine aw_seq ?_
    obtain ⟨g8, h⟩ := is_guard h
    obtain ⟨g9, h⟩ := is_guard h
    obtain ⟨g10, h⟩ := is_guard h
    refine aw_drawAll (by kernel_rfl) ?_
    refine an_read 0 (by kernel_rfl) (fun _ _ _ h => h) rfl (by kernel_rfl) trivial (r_move rfl) rfl ?_
    refine an_read 1 (by kernel_rfl) (fun _ _ _ h => h) rfl (by kernel_rfl) trivial (r_move rfl) rfl ?_
    refine an_read 2 (by kernel_rfl) (fun _ _ _ h => h) rfl (by kernel_rfl) trivial (r_len_vm (x1.length : Int) Try.underlying32 rfl rfl) rfl ?_
    refine an_read 3 (by kernel_rfl) (fun _ _ _ h => h) rfl (by kernel_rfl) trivial (r_move rfl) rfl ?_
    refine an_read 4 (by kernel_rfl) (fun _ _ _ h => h) rfl (by kernel_rfl) trivial (r_sub rfl rfl) rfl ?_
    refine an_read 5 (by kernel_rfl) (fun _ _ _ h => h) rfl (by kernel_rfl) trivial (r_slice_vm (t := (.int .i64)) ((x1.drop (IntKind.wrap .i64 ((x1.length : Int) - s1.2)).toNat) : (List Int)) Try.underlying32 Try.sizeOf3 rfl (.some rfl) .none (show 0 ≤ (IntKind.wrap .i64 ((x1.length : Int) - s1.2)) from by omega) (show (IntKind.wrap .i64 ((x1.length : Int) - s1.2)) ≤ (x1.length : Int) from by omega) (show (x1.length : Int) ≤ (x1.length : Int) from by omega) sl_hi) rfl ?_
    refine an_read 6 (by kernel_rfl) (fun _ _ _ h => h) rfl (by kernel_rfl) trivial (r_move rfl) rfl ?_
    refine an_read 7 (by kernel_rfl) (fun _ _ _ h => h) rfl (by kernel_rfl) trivial (r_move rfl) rfl ?_
    refine an_read 8 (by kernel_rfl) (fun _ _ _ h => h) rfl (by kernel_rfl) trivial (r_slice_vm (t := (.int .i64)) ((x2.take s1.2.toNat) : (List Int)) Try.underlying32 Try.sizeOf3 rfl .none (.some rfl) (show 0 ≤ 0 from by omega) (show 0 ≤ s1.2 from by omega) (show s1.2 ≤ (x2.length : Int) from by omega) rfl) rfl ?_
    refine an_scall 9 (by kernel_rfl) (fun _ _ _ h => h) rfl (by kernel_rfl) trivial (scall (c_slices_Equal_int_int (is_mk (rfl : p_slices_Equal_int_int (x1.drop (IntKind.wrap .i64 ((x1.length : Int) - s1.2)).toNat) (x2.take s1.2.toNat) = _))) rfl Try.func170 rfl rfl rfl rfl (fun σ => ⟨ad_ren rfl, ad_ren rfl, trivial⟩)) rfl ?_
    refine an_done rfl ?_
    refine aq_then ?_
    refine aw_cond rfl (fun hb11 => ?_) (fun hb11 => ?_)
    · replace h := is_if hb11 h
      obtain ⟨r12, r12h, h⟩ := is_bind h
      refine aw_drawAll (by kernel_rfl) ?_
      refine an_read 0 (by kernel_rfl) (fun _ _ _ h => h) rfl (by kernel_rfl) trivial (r_move rfl) rfl ?_
      refine an_read 1 (by kernel_rfl) (fun _ _ _ h => h) rfl (by kernel_rfl) trivial (r_move rfl) rfl ?_
      refine an_scall 2 (by kernel_rfl) (fun _ _ _ h => h) rfl (by kernel_rfl) trivial (scall (c_impl_power (is_mk r12h)) rfl Try.func99 rfl rfl rfl rfl (fun σ => ⟨ad_ren rfl, trivial⟩)) rfl ?_
      refine an_read 3 (by kernel_rfl) (fun _ _ _ h => h) rfl (by kernel_rfl) trivial (r_load_arr rfl Try.isAgg47 Try.sizeOf47 rfl rfl rfl) rfl ?_
      refine an_read 4 (by kernel_rfl) (fun _ _ _ h => h) rfl (by kernel_rfl) trivial (r_move rfl) rfl ?_
      refine an_read 5 (by kernel_rfl) (fun _ _ _ h => h) rfl (by kernel_rfl) trivial (r_move rfl) rfl ?_
      refine an_read 6 (by kernel_rfl) (fun _ _ _ h => h) rfl (by kernel_rfl) trivial (r_slice_vm (t := (.int .i64)) ((x2.drop s1.2.toNat) : (List Int)) Try.underlying32 Try.sizeOf3 rfl (.some rfl) .none (show 0 ≤ s1.2 from by omega) (show s1.2 ≤ (x2.length : Int) from by omega) (show (x2.length : Int) ≤ (x2.length : Int) from by omega) sl_hi) rfl ?_
      refine an_scall 7 (by kernel_rfl) (fun _ _ _ h => h) rfl (by kernel_rfl) trivial (scall (c_impl_faces (is_mk (rfl : p_impl_faces x0 (x2.drop s1.2.toNat) = _))) rfl Try.func124 rfl rfl rfl rfl (fun σ => ⟨ad_ren rfl, ad_ren rfl, trivial⟩)) rfl ?_
      refine an_read 8 (by kernel_rfl) (fun _ _ _ h => h) rfl (by kernel_rfl) trivial (r_mul rfl rfl) rfl ?_
      refine an_read 9 (by kernel_rfl) (fun _ _ _ h => h) rfl (by kernel_rfl) trivial (r_add rfl rfl) rfl ?_
      refine an_read 10 (by kernel_rfl) (fun _ _ _ h => h) rfl (by kernel_rfl) trivial (r_assign rfl) rfl ?_
      refine an_done rfl ?_
      refine aq_in ?_
      refine aq_then ?_
      refine aw_region ?_
      refine ao_read trivial (r_move rfl) rfl ?_
      refine ao_read trivial (r_add rfl rfl) rfl ?_
      refine ao_read trivial (r_assign rfl) rfl ?_
      refine ao_nil ?_
      exact aq_again (AL.sub (sub_mk idn (by exact ⟨ai rfl, ai rfl, ai rfl, ai rfl, ai rfl, trivial⟩) (by exact ⟨⟨_, rfl, ⟨rfl, trivial⟩⟩, trivial⟩) (by rfl) (nk rfl)) (ih3 ((IntKind.wrap .i64 (s1.1 + (IntKind.wrap .i64 (r12 * (p_impl_faces x0 (x2.drop s1.2.toNat)))))), (IntKind.wrap .i64 (s1.2 + 1))) trivial h))
    · replace h := is_else (ne_t hb11) h
      refine aw_skip ?_
      refine aq_in ?_
      refine aq_then ?_
      refine aw_region ?_
      refine ao_read trivial (r_move rfl) rfl ?_
      refine ao_read trivial (r_add rfl rfl) rfl ?_
      refine ao_read trivial (r_assign rfl) rfl ?_
      refine ao_nil ?_
      exact aq_again (AL.sub (sub_mk idn (by exact ⟨ai rfl, ai rfl, ai rfl, ai rfl, ai rfl, trivial⟩) (by exact ⟨⟨_, rfl, ⟨rfl, trivial⟩⟩, trivial⟩) (by rfl) (nk rfl)) (ih3 (s1.1, (IntKind.wrap .i64 (s1.2 + 1))) trivial h))
  · have q7 := d_f hb5
    replace h := is_else (d_f hb5) h
    refine aw_exit ?_
    refine aq_then_exit ?_
    refine aq_then_exit ?_
    refine aq_in_exit ?_
    refine aq_then ?_
    refine aw_seq ?_
    refine aw_region ?_
    refine ao_read trivial (r_move rfl) rfl ?_
    refine ao_read trivial (r_assign rfl) rfl ?_
    refine ao_nil ?_
    refine aq_then ?_
    refine aw_ret ?_
    refine aq_ret ?_
    obtain rfl := is_some h
    exact aq_finx (l := [.tmp 6]) (xs := [.int .i64 s1.1]) idn [.int .i64 s1.1] [] rfl (by exact ⟨rfl, trivial⟩) (by exact ⟨ad_ren rfl, trivial⟩) (by exact trivial) rfl (nk rfl) rfl rfl ⟨rfl, rfl⟩
theorem c_impl_PhraseOverlap {fu : Nat} {x0 : (List Int)} {x1 : (List Int)} {x2 : (List Int)} {r : (List Int) × Bool} (h : Is (p_impl_PhraseOverlap fu x0 x1 x2) (some r)) :
    Scalar Try.prog 49 [.v (.arr 6 (.int .i64)) x0, .v (.slice (.int .i64)) x1, .v (.slice (.int .i64)) x2] (.tup [.v (.arr 2 (.int .i64)) r.1, .bool r.2]) := by
  unfold p_impl_PhraseOverlap at h
  refine ac_enter ⟨32, 0⟩ Try.func49 rfl rfl rfl rfl rfl (fun Γ => ?_)
  refine sl_len_m 1 (x1.length : Int) rfl rfl (fun hl1 => ?_)
  refine sl_len_m 2 (x2.length : Int) rfl rfl (fun hl2 => ?_)
  refine aw_seq ?_
  refine aw_region ?_
  refine ao_eff trivial (e_box 0 rfl rfl rfl rfl rfl rfl) rfl ?_
  refine ao_eff trivial (e_alloc 1 (y := .v (.arr 2 (.int .i64)) ((List.replicate 2 0) : (List Int))) Try.zeroValue29 (fun ρ h M => ra_zero_arr (t := (.int .i64)) rfl) rfl rfl rfl rfl rfl) rfl ?_
  refine ao_read trivial (r_assign rfl) rfl ?_
  refine ao_nil ?_
  refine aq_then ?_
  refine aw_seq ?_
  refine aw_seq ?_
  refine aw_region ?_
  refine ao_read trivial (r_load_arr rfl Try.isAgg47 Try.sizeOf47 rfl rfl rfl) rfl ?_
  refine ao_scall trivial (scall (c_impl_IsDie (is_mk (rfl : p_impl_IsDie x0 = _))) rfl Try.func97 rfl rfl rfl rfl (fun σ => ⟨ad_ren rfl, trivial⟩)) rfl ?_
  refine ao_read trivial (r_not rfl) rfl ?_
  refine ao_read trivial (r_move rfl) rfl ?_
  refine ao_readG (x := .v (.arr 6 (.int .i64)) x0) rfl (GV.F rfl) (fun hg1 => r_load_arr rfl Try.isAgg47 Try.sizeOf47 rfl rfl rfl) rfl ?_
  refine ao_readG (x := .v (.slice (.int .i64)) x1) rfl (GV.F rfl) (fun hg2 => r_move rfl) rfl ?_
  refine ao_scallG (r := .bool (p_impl_isPhrase x0 x1)) rfl (GV.F rfl) (fun hg3 => SCall.strip 12 rfl (hg3) (SCall.strip 13 rfl (hg3) (scall (c_impl_isPhrase (is_mk (rfl : p_impl_isPhrase x0 x1 = _))) rfl Try.func119 rfl rfl rfl rfl (fun σ => ⟨ad_ren rfl, ad_ren rfl, trivial⟩)))) rfl ?_
  refine ao_readG (x := .bool (!(p_impl_isPhrase x0 x1))) rfl (GV.F rfl) (fun hg4 => Reads.strip 14 rfl (hg4) (r_not rfl)) rfl ?_
  refine ao_read trivial (r_orB rfl rfl) rfl ?_
  refine ao_read trivial (r_move rfl) rfl ?_
  refine ao_readG (x := .v (.arr 6 (.int .i64)) x0) rfl (GV.F rfl) (fun hg5 => by
        obtain ⟨q6, q7⟩ := or_f (not_t hg5)
        exact r_load_arr rfl Try.isAgg47 Try.sizeOf47 rfl rfl rfl) rfl ?_
  refine ao_readG (x := .v (.slice (.int .i64)) x2) rfl (GV.F rfl) (fun hg8 => by
        obtain ⟨q9, q10⟩ := or_f (not_t hg8)
        exact r_move rfl) rfl ?_
  refine ao_scallG (r := .bool (p_impl_isPhrase x0 x2)) rfl (GV.F rfl) (fun hg11 => by
        obtain ⟨q12, q13⟩ := or_f (not_t hg11)
        exact SCall.strip 18 rfl (hg11) (SCall.strip 19 rfl (hg11) (scall (c_impl_isPhrase (is_mk (rfl : p_impl_isPhrase x0 x2 = _))) rfl Try.func119 rfl rfl rfl rfl (fun σ => ⟨ad_ren rfl, ad_ren rfl, trivial⟩)))) rfl ?_
  refine ao_readG (x := .bool (!(p_impl_isPhrase x0 x2))) rfl (GV.F rfl) (fun hg14 => by
        obtain ⟨q15, q16⟩ := or_f (not_t hg14)
        exact Reads.strip 20 rfl (hg14) (r_not rfl)) rfl ?_
  refine ao_read trivial (r_orB rfl rfl) rfl ?_
  refine ao_nil ?_
  refine aq_then ?_
  refine aw_cond rfl (fun hb17 => ?_) (fun hb17 => ?_)
  · replace h := is_if hb17 h
    refine aw_seq ?_
    refine aw_region ?_
    refine ao_read trivial (r_build_zero (t := (.int .i64)) Try.underlying29 Try.zeroValue29 Try.sizeOf3 rfl) rfl ?_
    refine ao_effS trivial (e_store rfl rfl rfl rfl Try.sizeOf29 rfl) ?_
    refine ao_read trivial (r_assign rfl) rfl ?_
    refine ao_nil ?_
    refine aq_then ?_
    refine aw_ret ?_
    refine aq_then_ret ?_
    refine aq_ret ?_
    obtain rfl := is_some h
    exact aq_finx (l := [.cell 6 29, .tmp 7]) (xs := [.v (.arr 2 (.int .i64)) ((List.replicate 2 0) : (List Int)), .bool false]) idn [.v (.arr 2 (.int .i64)) ((List.replicate 2 0) : (List Int)), .bool false] [] rfl (by exact ⟨⟨⟨_, _, rfl⟩, r_load_arr rfl Try.isAgg29 Try.sizeOf29 rfl rfl rfl⟩, rfl, trivial⟩) (by exact ⟨ad_ren rfl, ad_ren rfl, trivial⟩) (by exact trivial) rfl (nk rfl) rfl rfl ⟨rfl, rfl⟩
  · obtain ⟨q18, q19⟩ := or_f hb17
    obtain ⟨q20, q21⟩ := or_f q18
    replace h := is_else (ne_t hb17) h
    refine aw_skip ?_
    refine aq_then ?_
    refine aw_seq ?_
    obtain ⟨r22, r22h, h⟩ := is_bind h
    obtain ⟨r23, r23h, h⟩ := is_bind h
    refine aw_draw 8 (by kernel_rfl) (by kernel_rfl) ?_
    refine an_read 0 (by kernel_rfl) (fun _ _ _ h => h) rfl (by kernel_rfl) trivial (r_load_arr rfl Try.isAgg47 Try.sizeOf47 rfl rfl rfl) rfl ?_
    refine an_read 1 (by kernel_rfl) (fun _ _ _ h => h) rfl (by kernel_rfl) trivial (r_move rfl) rfl ?_
    refine an_read 2 (by kernel_rfl) (fun _ _ _ h => h) rfl (by kernel_rfl) trivial (r_move rfl) rfl ?_
    refine an_scall 3 (by kernel_rfl) (fun _ _ _ h => h) rfl (by kernel_rfl) trivial (scall (c_impl_overlap (is_mk r22h)) rfl Try.func125 rfl rfl rfl rfl (fun σ => ⟨ad_ren rfl, ad_ren rfl, ad_ren rfl, trivial⟩)) rfl ?_
    refine an_read 4 (by kernel_rfl) (fun _ _ _ h => h) rfl (by kernel_rfl) trivial (r_load_arr rfl Try.isAgg47 Try.sizeOf47 rfl rfl rfl) rfl ?_
    refine an_read 5 (by kernel_rfl) (fun _ _ _ h => h) rfl (by kernel_rfl) trivial (r_move rfl) rfl ?_
    refine an_scall 6 (by kernel_rfl) (fun _ _ _ h => h) rfl (by kernel_rfl) trivial (scall (c_impl_faces (is_mk (rfl : p_impl_faces x0 x2 = _))) rfl Try.func124 rfl rfl rfl rfl (fun σ => ⟨ad_ren rfl, ad_ren rfl, trivial⟩)) rfl ?_
    refine an_scall 7 (by kernel_rfl) (fun _ _ _ h => h) rfl (by kernel_rfl) trivial (scall (c_impl_fraction (is_mk r23h)) rfl Try.func102 rfl rfl rfl rfl (fun σ => ⟨ad_ren rfl, ad_ren rfl, trivial⟩)) rfl ?_
    refine an_tail rfl rfl ?_
    refine ao_effS trivial (e_store rfl rfl rfl rfl Try.sizeOf29 rfl) ?_
    refine ao_read trivial (r_assign rfl) rfl ?_
    refine ao_nil ?_
    refine aq_then ?_
    refine aw_ret ?_
    refine aq_ret ?_
    obtain rfl := is_some h
    exact aq_finx (l := [.cell 6 29, .tmp 7]) (xs := [.v (.arr 2 (.int .i64)) r23, .bool true]) idn [.v (.arr 2 (.int .i64)) r23, .bool true] [] rfl (by exact ⟨⟨⟨_, _, rfl⟩, r_load_arr rfl Try.isAgg29 Try.sizeOf29 rfl rfl rfl⟩, rfl, trivial⟩) (by exact ⟨ad_ren rfl, ad_ren rfl, trivial⟩) (by exact trivial) rfl (nk rfl) rfl rfl ⟨rfl, rfl⟩
theorem c_impl_PhraseWait {fu : Nat} {x0 : (List Int)} {x1 : (List Int)} {r : (List Int) × Bool} (h : Is (p_impl_PhraseWait fu x0 x1) (some r)) :
    Scalar Try.prog 44 [.v (.arr 6 (.int .i64)) x0, .v (.slice (.int .i64)) x1] (.tup [.v (.arr 2 (.int .i64)) r.1, .bool r.2]) := by
  unfold p_impl_PhraseWait at h
  refine ac_enter ⟨12, 0⟩ Try.func44 rfl rfl rfl rfl rfl (fun Γ => ?_)
  refine sl_len_m 1 (x1.length : Int) rfl rfl (fun hl1 => ?_)
  refine aw_seq ?_
  refine aw_region ?_
  refine ao_eff trivial (e_box 0 rfl rfl rfl rfl rfl rfl) rfl ?_
  refine ao_eff trivial (e_alloc 1 (y := .v (.arr 2 (.int .i64)) ((List.replicate 2 0) : (List Int))) Try.zeroValue29 (fun ρ h M => ra_zero_arr (t := (.int .i64)) rfl) rfl rfl rfl rfl rfl) rfl ?_
  refine ao_read trivial (r_assign rfl) rfl ?_
  refine ao_nil ?_
  refine aq_then ?_
  refine aw_seq ?_
  refine aw_region ?_
  refine ao_read trivial (r_load_arr rfl Try.isAgg47 Try.sizeOf47 rfl rfl rfl) rfl ?_
  refine ao_read trivial (r_move rfl) rfl ?_
  refine ao_read trivial (r_move rfl) rfl ?_
  obtain ⟨r1, r1h, h⟩ := is_bind h
  refine ao_scall trivial (scall (c_impl_PhraseOverlap (is_mk r1h)) rfl Try.func49 rfl rfl rfl rfl (fun σ => ⟨ad_ren rfl, ad_ren rfl, ad_ren rfl, trivial⟩)) rfl ?_
  refine ao_read trivial (r_extract rfl rfl) rfl ?_
  refine ao_read trivial (r_extract rfl rfl) rfl ?_
  refine ao_effS trivial (e_store rfl rfl rfl rfl Try.sizeOf29 rfl) ?_
  refine ao_read trivial (r_assign rfl) rfl ?_
  refine ao_nil ?_
  refine aq_then ?_
  refine aw_ret ?_
  refine aq_ret ?_
  obtain rfl := is_some h
  exact aq_finx (l := [.cell 4 29, .tmp 5]) (xs := [.v (.arr 2 (.int .i64)) r1.1, .bool r1.2]) idn [.v (.arr 2 (.int .i64)) r1.1, .bool r1.2] [] rfl (by exact ⟨⟨⟨_, _, rfl⟩, r_load_arr rfl Try.isAgg29 Try.sizeOf29 rfl rfl rfl⟩, rfl, trivial⟩) (by exact ⟨ad_ren rfl, ad_ren rfl, trivial⟩) (by exact trivial) rfl (nk rfl) rfl rfl ⟨rfl, rfl⟩
theorem c_impl_CountFaces {x0 : (List Int)} {r : (List Int) × Bool} (h : Is (p_impl_CountFaces x0) (some r)) :
    Scalar Try.prog 45 [.v (.arr 6 (.int .i64)) x0] (.tup [.v (.arr 31 (.int .i64)) r.1, .bool r.2]) := by
  unfold p_impl_CountFaces at h
  refine ac_enter ⟨22, 0⟩ Try.func45 rfl rfl rfl rfl rfl (fun Γ => ?_)
  refine aw_seq ?_
  refine aw_region ?_
  refine ao_eff trivial (e_box 0 rfl rfl rfl rfl rfl rfl) rfl ?_
  refine ao_eff trivial (e_alloc 1 (y := .v (.arr 31 (.int .i64)) ((List.replicate 31 0) : (List Int))) Try.zeroValue62 (fun ρ h M => ra_zero_arr (t := (.int .i64)) rfl) rfl rfl rfl rfl rfl) rfl ?_
  refine ao_read trivial (r_assign rfl) rfl ?_
  refine ao_nil ?_
  refine aq_then ?_
  refine aw_seq ?_
  refine aw_region ?_
  refine ao_eff trivial (e_alloc 2 (y := .v (.arr 31 (.int .i64)) ((List.replicate 31 0) : (List Int))) Try.zeroValue62 (fun ρ h M => ra_zero_arr (t := (.int .i64)) rfl) rfl rfl rfl rfl rfl) rfl ?_
  refine ao_nil ?_
  refine aq_then ?_
  refine aw_seq ?_
  refine aw_seq ?_
  refine aw_region ?_
  refine ao_read trivial (r_load_arr rfl Try.isAgg47 Try.sizeOf47 rfl rfl rfl) rfl ?_
  refine ao_scall trivial (scall (c_impl_IsDie (is_mk (rfl : p_impl_IsDie x0 = _))) rfl Try.func97 rfl rfl rfl rfl (fun σ => ⟨ad_ren rfl, trivial⟩)) rfl ?_
  refine ao_read trivial (r_not rfl) rfl ?_
  refine ao_nil ?_
  refine aq_then ?_
  refine aw_cond rfl (fun hb1 => ?_) (fun hb1 => ?_)
  · replace h := is_else (ne_t (not_t hb1)) h
    refine aw_seq ?_
    refine aw_region ?_
    refine ao_read trivial (r_load_arr rfl Try.isAgg62 Try.sizeOf62 rfl rfl rfl) rfl ?_
    refine ao_effS trivial (e_store rfl rfl rfl rfl Try.sizeOf62 rfl) ?_
    refine ao_read trivial (r_assign rfl) rfl ?_
    refine ao_nil ?_
    refine aq_then ?_
    refine aw_ret ?_
    refine aq_then_ret ?_
    refine aq_ret ?_
    obtain rfl := is_some h
    exact aq_finx (l := [.cell 2 62, .tmp 3]) (xs := [.v (.arr 31 (.int .i64)) ((List.replicate 31 0) : (List Int)), .bool false]) idn [.v (.arr 31 (.int .i64)) ((List.replicate 31 0) : (List Int)), .bool false] [] rfl (by exact ⟨⟨⟨_, _, rfl⟩, r_load_arr rfl Try.isAgg62 Try.sizeOf62 rfl rfl rfl⟩, rfl, trivial⟩) (by exact ⟨ad_ren rfl, ad_ren rfl, trivial⟩) (by exact trivial) rfl (nk rfl) rfl rfl ⟨rfl, rfl⟩
  · replace h := is_if (not_f hb1) h
    refine aw_skip ?_
    refine aq_then ?_
    refine aw_seq ?_
    refine aw_seq ?_
    refine aw_region ?_
    refine ao_read trivial (r_load_arr rfl Try.isAgg47 Try.sizeOf47 rfl rfl rfl) rfl ?_
    refine ao_read trivial (r_move rfl) rfl ?_
    refine ao_nil ?_
    refine aq_then ?_
    refine aw_block ?_
    refine aw_loop (AL.sub (fr' := [(2, .ref 0 0), (4, .ref 1 0), (11, .v (.arr 6 (.int .i64)) x0), (12, .int .i64 0)]) (H' := [(0, .var [.arr (.int .i64) 31 ((List.replicate 31 0) : (List Int))]), (1, .var [.arr (.int .i64) 31 ((List.replicate 31 0) : (List Int))])]) (sub_mk (rn [(0, 1), (1, 2)]) (by exact ⟨ai rfl, ai rfl, ai rfl, ai rfl, trivial⟩) (by exact ⟨⟨_, rfl, ⟨rfl, trivial⟩⟩, ⟨_, rfl, ⟨rfl, trivial⟩⟩, trivial⟩) (by rfl) (nk rfl)) (al_cnt (fun i3 (s2 : (List Int)) => [(2, .ref 0 0), (4, .ref 1 0), (11, .v (.arr 6 (.int .i64)) x0), (12, .int .i64 i3)]) (fun i3 (s2 : (List Int)) => [(0, .var [.arr (.int .i64) 31 ((List.replicate 31 0) : (List Int))]), (1, .var [.arr (.int .i64) 31 s2])]) (fun d i3 (s2 : (List Int)) => d = Int.toNat (6 - i3) ∧ 0 ≤ i3 ∧ (s2.length : Int) = 31 ∧ i3 ≤ 6) h ⟨rfl, (by (try simp only [List.length_set, List.length_append, List.length_cons, List.length_nil, List.length_replicate, List.length_take, List.length_drop]) <;> omega), (by (try simp only [List.length_set, List.length_append, List.length_cons, List.length_nil, List.length_replicate, List.length_take, List.length_drop]) <;> omega), (by (try simp only [List.length_set, List.length_append, List.length_cons, List.length_nil, List.length_replicate, List.length_take, List.length_drop]) <;> omega)⟩ (fun d4 i3 s2 hI h ih4 => ?_)))
    obtain ⟨hd, _, _, _⟩ := hI
    refine al_round ?_
    refine aw_seq ?_
    refine aw_region ?_
    refine ao_read trivial (r_lss rfl rfl) rfl ?_
    refine ao_nil ?_
    refine aq_then ?_
    refine aw_seq ?_
    refine aw_cond rfl (fun hb6 => ?_) (fun hb6 => ?_)
    · have q7 := d_t hb6
      obtain ⟨d4, rfl⟩ : ∃ e, d4 = e + 1 := ⟨d4 - 1, by omega⟩
      replace h := is_cntS h
      refine aw_skip ?_
      refine aq_then ?_
      refine aw_seq ?_
      refine aw_block ?_
      refine aw_seq ?_
      refine aw_region ?_
      refine ao_read trivial (r_index_a (t := (.int .i64)) Try.underlying47 Try.isAgg3 Try.sizeOf3 rfl rfl (by omega) (by omega)) rfl ?_
      refine ao_read trivial (r_assign rfl) rfl ?_
      refine ao_nil ?_
      refine aq_then ?_
      refine aw_region ?_
      refine ao_read trivial (r_move rfl) rfl ?_
      obtain ⟨g9, h⟩ := is_guard h
      obtain ⟨g10, h⟩ := is_guard h
      refine ao_read trivial (r_idxAddr_arr (i := (x0.getD i3.toNat 0)) Try.underlying62 Try.sizeOf3 rfl rfl (show 0 ≤ (x0.getD i3.toNat 0) from by omega) (show (x0.getD i3.toNat 0) < (31 : Int) from by omega)) rfl ?_
      refine ao_read trivial (r_load_elema_int Try.isAgg3 Try.sizeOf3 rfl rfl rfl (show (x0.getD i3.toNat 0).toNat < 31 from by omega)) rfl ?_
      refine ao_read trivial (r_add rfl rfl) rfl ?_
      refine ao_read trivial (r_idxAddr_arr (i := (x0.getD i3.toNat 0)) Try.underlying62 Try.sizeOf3 rfl rfl (show 0 ≤ (x0.getD i3.toNat 0) from by omega) (show (x0.getD i3.toNat 0) < (31 : Int) from by omega)) rfl ?_
      refine ao_effS trivial (e_store_elema_int Try.sizeOf3 rfl rfl rfl rfl (show (x0.getD i3.toNat 0).toNat < 31 from by omega) rfl) ?_
      refine ao_nil ?_
      refine aq_in ?_
      refine aq_then ?_
      refine aw_region ?_
      refine ao_read trivial (r_addI rfl rfl (wrap_id (by omega) (by omega))) rfl ?_
      refine ao_read trivial (r_move rfl) rfl ?_
      refine ao_nil ?_
      exact aq_again (AL.sub (sub_mk idn (by exact ⟨ai rfl, ai rfl, ai rfl, ai rfl, trivial⟩) (by exact ⟨⟨_, rfl, ⟨rfl, trivial⟩⟩, ⟨_, rfl, ⟨rfl, trivial⟩⟩, trivial⟩) (by rfl) (nk rfl)) (ih4 d4 (i3 + 1) (s2.set (x0.getD i3.toNat 0).toNat (IntKind.wrap .i64 ((s2.getD (x0.getD i3.toNat 0).toNat 0) + 1))) (by omega) ⟨by omega, (by (try simp only [List.length_set, List.length_append, List.length_cons, List.length_nil, List.length_replicate, List.length_take, List.length_drop]) <;> omega), (by (try simp only [List.length_set, List.length_append, List.length_cons, List.length_nil, List.length_replicate, List.length_take, List.length_drop]) <;> omega), (by (try simp only [List.length_set, List.length_append, List.length_cons, List.length_nil, List.length_replicate, List.length_take, List.length_drop]) <;> omega)⟩ h))
    · have q8 := d_f hb6
      obtain rfl : d4 = 0 := by omega
      replace h := is_cnt0 h
      refine aw_exit ?_
      refine aq_then_exit ?_
      refine aq_then_exit ?_
      refine aq_in_exit ?_
      refine aq_then ?_
      refine aw_seq ?_
      refine aw_region ?_
      refine ao_read trivial (r_load_arr rfl Try.isAgg62 Try.sizeOf62 rfl rfl rfl) rfl ?_
      refine ao_effS trivial (e_store rfl rfl rfl rfl Try.sizeOf62 rfl) ?_
      refine ao_read trivial (r_assign rfl) rfl ?_
      refine ao_nil ?_
      refine aq_then ?_
      refine aw_ret ?_
      refine aq_ret ?_
      obtain rfl := is_some h
      exact aq_finx (l := [.cell 2 62, .tmp 3]) (xs := [.v (.arr 31 (.int .i64)) s2, .bool true]) idn [.v (.arr 31 (.int .i64)) s2, .bool true] [] rfl (by exact ⟨⟨⟨_, _, rfl⟩, r_load_arr rfl Try.isAgg62 Try.sizeOf62 rfl rfl rfl⟩, rfl, trivial⟩) (by exact ⟨ad_ren rfl, ad_ren rfl, trivial⟩) (by exact trivial) rfl (nk rfl) rfl rfl ⟨rfl, rfl⟩
theorem c_laws_FnBursts {fu : Nat} {x0 : (List Int)} {r : Bool} (h : Is (p_laws_FnBursts fu x0) (some r)) :
    Scalar Try.prog 4 [.v (.slice (.int .u8)) x0] (.bool r) := by
  unfold p_laws_FnBursts at h
  refine ac_enter ⟨355, 0⟩ Try.func4 rfl rfl rfl rfl rfl (fun Γ => ?_)
  refine sl_len_m 0 (x0.length : Int) rfl rfl (fun hl0 => ?_)
  refine aw_seq ?_
  refine aw_region ?_
  refine ao_read trivial (r_assign rfl) rfl ?_
  refine ao_nil ?_
  refine aq_then ?_
  refine aw_seq ?_
  refine aw_seq ?_
  refine aw_region ?_
  refine ao_read trivial (r_move rfl) rfl ?_
  refine ao_scall trivial (scall (c_laws_vBig (is_mk (rfl : p_laws_vBig x0 = _))) rfl Try.func7 rfl rfl rfl rfl (fun σ => ⟨ad_ren rfl, trivial⟩)) rfl ?_
  refine ao_nil ?_
  refine aq_then ?_
  refine aw_cond rfl (fun hb1 => ?_) (fun hb1 => ?_)
  · replace h := is_if hb1 h
    refine aw_seq ?_
    refine aw_region ?_
    refine ao_read trivial (r_assign rfl) rfl ?_
    refine ao_nil ?_
    refine aq_then ?_
    refine aw_ret ?_
    refine aq_then_ret ?_
    refine aq_ret ?_
    obtain rfl := is_some h
    exact aq_finx (l := [.tmp 2]) (xs := [.bool true]) idn [.bool true] [] rfl (by exact ⟨rfl, trivial⟩) (by exact ⟨ad_ren rfl, trivial⟩) (by exact trivial) rfl (nk rfl) rfl rfl ⟨rfl, rfl⟩
  · replace h := is_else (ne_t hb1) h
    refine aw_skip ?_
    refine aq_then ?_
    refine aw_seq ?_
    refine aw_region ?_
    refine ao_read trivial (r_move rfl) rfl ?_
    obtain ⟨r2, r2h, h⟩ := is_bind h
    refine ao_scall trivial (scall (c_spec_DrawBurstTable (is_mk r2h)) rfl Try.func26 rfl rfl rfl rfl (fun σ => ⟨ad_ren rfl, trivial⟩)) rfl ?_
    refine ao_read trivial (r_move rfl) rfl ?_
    refine ao_read trivial (r_extract rfl rfl) rfl ?_
    refine ao_read trivial (r_extract rfl rfl) rfl ?_
    refine ao_eff trivial (e_alloc 0 (y := .v (.arr 6 (.int .i64)) ((List.replicate 6 0) : (List Int))) Try.zeroValue47 (fun ρ h M => ra_zero_arr (t := (.int .i64)) rfl) rfl rfl rfl rfl rfl) rfl ?_
    refine ao_effS trivial (e_store rfl rfl rfl rfl Try.sizeOf47 rfl) ?_
    refine ao_read trivial (r_assign rfl) rfl ?_
    refine ao_nil ?_
    refine aq_then ?_
    refine aw_seq ?_
    refine aw_region ?_
    refine ao_read trivial (r_load_arr rfl Try.isAgg47 Try.sizeOf47 rfl rfl rfl) rfl ?_
    refine ao_read trivial (r_move rfl) rfl ?_
    obtain ⟨r3, r3h, h⟩ := is_bind h
    refine ao_scall trivial (scall (c_impl_BurstTable (is_mk r3h)) rfl Try.func27 rfl rfl rfl rfl (fun σ => ⟨ad_ren rfl, ad_ren rfl, trivial⟩)) rfl ?_
    refine ao_read trivial (r_move rfl) rfl ?_
    refine ao_read trivial (r_extract rfl rfl) rfl ?_
    refine ao_read trivial (r_extract rfl rfl) rfl ?_
    refine ao_eff trivial (e_alloc 1 (y := .v (.arr 121 (.int .i64)) ((List.replicate 121 0) : (List Int))) Try.zeroValue50 (fun ρ h M => ra_zero_arr (t := (.int .i64)) rfl) rfl rfl rfl rfl rfl) rfl ?_
    refine ao_effS trivial (e_store rfl rfl rfl rfl Try.sizeOf50 rfl) ?_
    refine ao_read trivial (r_assign rfl) rfl ?_
    refine ao_nil ?_
    refine aq_then ?_
    refine aw_seq ?_
    refine aw_region ?_
    refine ao_read trivial (r_load_arr rfl Try.isAgg47 Try.sizeOf47 rfl rfl rfl) rfl ?_
    refine ao_read trivial (r_move rfl) rfl ?_
    obtain ⟨r4, r4h, h⟩ := is_bind h
    refine ao_scall trivial (scall (c_spec_BurstTable (is_mk r4h)) rfl Try.func28 rfl rfl rfl rfl (fun σ => ⟨ad_ren rfl, ad_ren rfl, trivial⟩)) rfl ?_
    refine ao_read trivial (r_move rfl) rfl ?_
    refine ao_read trivial (r_extract rfl rfl) rfl ?_
    refine ao_read trivial (r_extract rfl rfl) rfl ?_
    refine ao_eff trivial (e_alloc 2 (y := .v (.arr 121 (.int .i64)) ((List.replicate 121 0) : (List Int))) Try.zeroValue50 (fun ρ h M => ra_zero_arr (t := (.int .i64)) rfl) rfl rfl rfl rfl rfl) rfl ?_
    refine ao_effS trivial (e_store rfl rfl rfl rfl Try.sizeOf50 rfl) ?_
    refine ao_read trivial (r_assign rfl) rfl ?_
    refine ao_nil ?_
    refine aq_then ?_
    refine aw_seq ?_
    refine aw_region ?_
    refine ao_read trivial (r_load_arr rfl Try.isAgg47 Try.sizeOf47 rfl rfl rfl) rfl ?_
    obtain ⟨r5, r5h, h⟩ := is_bind h
    refine ao_scall trivial (scall (c_impl_BurstMean (is_mk r5h)) rfl Try.func29 rfl rfl rfl rfl (fun σ => ⟨ad_ren rfl, trivial⟩)) rfl ?_
    refine ao_read trivial (r_move rfl) rfl ?_
    refine ao_read trivial (r_extract rfl rfl) rfl ?_
    refine ao_read trivial (r_extract rfl rfl) rfl ?_
    refine ao_eff trivial (e_alloc 3 (y := .v (.arr 2 (.int .i64)) ((List.replicate 2 0) : (List Int))) Try.zeroValue29 (fun ρ h M => ra_zero_arr (t := (.int .i64)) rfl) rfl rfl rfl rfl rfl) rfl ?_
    refine ao_effS trivial (e_store rfl rfl rfl rfl Try.sizeOf29 rfl) ?_
    refine ao_read trivial (r_assign rfl) rfl ?_
    refine ao_nil ?_
    refine aq_then ?_
    refine aw_seq ?_
    refine aw_region ?_
    refine ao_read trivial (r_load_arr rfl Try.isAgg47 Try.sizeOf47 rfl rfl rfl) rfl ?_
    obtain ⟨r6, r6h, h⟩ := is_bind h
    refine ao_scall trivial (scall (c_spec_BurstMean (is_mk r6h)) rfl Try.func30 rfl rfl rfl rfl (fun σ => ⟨ad_ren rfl, trivial⟩)) rfl ?_
    refine ao_read trivial (r_move rfl) rfl ?_
    refine ao_read trivial (r_extract rfl rfl) rfl ?_
    refine ao_read trivial (r_extract rfl rfl) rfl ?_
    refine ao_eff trivial (e_alloc 4 (y := .v (.arr 2 (.int .i64)) ((List.replicate 2 0) : (List Int))) Try.zeroValue29 (fun ρ h M => ra_zero_arr (t := (.int .i64)) rfl) rfl rfl rfl rfl rfl) rfl ?_
    refine ao_effS trivial (e_store rfl rfl rfl rfl Try.sizeOf29 rfl) ?_
    refine ao_read trivial (r_assign rfl) rfl ?_
    refine ao_nil ?_
    refine aq_then ?_
    refine aw_seq ?_
    refine aw_region ?_
    refine ao_read trivial (r_move rfl) rfl ?_
    obtain ⟨r7, r7h, h⟩ := is_bind h
    refine ao_call [] 5 trivial (c_laws_vCut (is_mk r7h)) Try.func16 rfl rfl rfl rfl ⟨ad_ren rfl, ad_ren rfl, trivial⟩ trivial rfl rfl rfl rfl rfl rfl rfl (fun r' H' hr => ?_)
    obtain ⟨rfl, rfl⟩ := hr
    refine ao_norm (y := .os 5) (H' := [(4, .var [.arr (.int .i64) 2 r6.1]), (3, .var [.arr (.int .i64) 2 r5.1]), (2, .var [.arr (.int .i64) 121 r4.1]), (1, .var [.arr (.int .i64) 121 r3.1]), (0, .var [.arr (.int .i64) 6 r2.1]), (5, .row (.int .u8) r7)]) rfl rfl ?_
    refine row_len_o 5 (r7.length : Int) rfl rfl (fun hr8 => ?_)
    obtain ⟨r9, r9h, h⟩ := is_bind h
    refine ao_scall trivial (scall (c_spec_DrawChanceWithin (is_mk r9h)) rfl Try.func31 rfl rfl rfl rfl (fun σ => ⟨ad_os0 rfl, trivial⟩)) rfl ?_
    refine ao_read trivial (r_move rfl) rfl ?_
    refine ao_read trivial (r_extract rfl rfl) rfl ?_
    refine ao_read trivial (r_extract rfl rfl) rfl ?_
    refine ao_read trivial (r_extract rfl rfl) rfl ?_
    refine ao_eff trivial (e_alloc 6 (y := .v (.arr 6 (.int .i64)) ((List.replicate 6 0) : (List Int))) Try.zeroValue47 (fun ρ h M => ra_zero_arr (t := (.int .i64)) rfl) rfl rfl rfl rfl rfl) rfl ?_
    refine ao_effS trivial (e_store rfl rfl rfl rfl Try.sizeOf47 rfl) ?_
    refine ao_read trivial (r_assign rfl) rfl ?_
    refine ao_read trivial (r_assign rfl) rfl ?_
    refine ao_nil ?_
    refine aq_then ?_
    refine aw_seq ?_
    refine aw_region ?_
    refine ao_read trivial (r_load_arr rfl Try.isAgg47 Try.sizeOf47 rfl rfl rfl) rfl ?_
    refine ao_read trivial (r_move rfl) rfl ?_
    refine ao_read trivial (r_move rfl) rfl ?_
    obtain ⟨r10, r10h, h⟩ := is_bind h
    refine ao_scall trivial (scall (c_impl_ChanceWithin (is_mk r10h)) rfl Try.func32 rfl rfl rfl rfl (fun σ => ⟨ad_ren rfl, ad_ren rfl, ad_ren rfl, trivial⟩)) rfl ?_
    refine ao_read trivial (r_move rfl) rfl ?_
    refine ao_read trivial (r_extract rfl rfl) rfl ?_
    refine ao_read trivial (r_extract rfl rfl) rfl ?_
    refine ao_eff trivial (e_alloc 7 (y := .v (.arr 2 (.int .i64)) ((List.replicate 2 0) : (List Int))) Try.zeroValue29 (fun ρ h M => ra_zero_arr (t := (.int .i64)) rfl) rfl rfl rfl rfl rfl) rfl ?_
    refine ao_effS trivial (e_store rfl rfl rfl rfl Try.sizeOf29 rfl) ?_
    refine ao_read trivial (r_assign rfl) rfl ?_
    refine ao_nil ?_
    refine aq_then ?_
    refine aw_seq ?_
    refine aw_region ?_
    refine ao_read trivial (r_load_arr rfl Try.isAgg47 Try.sizeOf47 rfl rfl rfl) rfl ?_
    refine ao_read trivial (r_move rfl) rfl ?_
    refine ao_read trivial (r_move rfl) rfl ?_
    obtain ⟨r11, r11h, h⟩ := is_bind h
    refine ao_scall trivial (scall (c_spec_ChanceWithin (is_mk r11h)) rfl Try.func33 rfl rfl rfl rfl (fun σ => ⟨ad_ren rfl, ad_ren rfl, ad_ren rfl, trivial⟩)) rfl ?_
    refine ao_read trivial (r_move rfl) rfl ?_
    refine ao_read trivial (r_extract rfl rfl) rfl ?_
    refine ao_read trivial (r_extract rfl rfl) rfl ?_
    refine ao_eff trivial (e_alloc 8 (y := .v (.arr 2 (.int .i64)) ((List.replicate 2 0) : (List Int))) Try.zeroValue29 (fun ρ h M => ra_zero_arr (t := (.int .i64)) rfl) rfl rfl rfl rfl rfl) rfl ?_
    refine ao_effS trivial (e_store rfl rfl rfl rfl Try.sizeOf29 rfl) ?_
    refine ao_read trivial (r_assign rfl) rfl ?_
    refine ao_nil ?_
    refine aq_then ?_
    refine aw_seq ?_
    refine aw_region ?_
    refine ao_read trivial (r_load_arr rfl Try.isAgg47 Try.sizeOf47 rfl rfl rfl) rfl ?_
    refine ao_read trivial (r_move rfl) rfl ?_
    obtain ⟨r12, r12h, h⟩ := is_bind h
    refine ao_scall trivial (scall (c_impl_MeanWait (is_mk r12h)) rfl Try.func34 rfl rfl rfl rfl (fun σ => ⟨ad_ren rfl, ad_ren rfl, trivial⟩)) rfl ?_
    refine ao_read trivial (r_move rfl) rfl ?_
    refine ao_read trivial (r_extract rfl rfl) rfl ?_
    refine ao_read trivial (r_extract rfl rfl) rfl ?_
    refine ao_eff trivial (e_alloc 9 (y := .v (.arr 2 (.int .i64)) ((List.replicate 2 0) : (List Int))) Try.zeroValue29 (fun ρ h M => ra_zero_arr (t := (.int .i64)) rfl) rfl rfl rfl rfl rfl) rfl ?_
    refine ao_effS trivial (e_store rfl rfl rfl rfl Try.sizeOf29 rfl) ?_
    refine ao_read trivial (r_assign rfl) rfl ?_
    refine ao_nil ?_
    refine aq_then ?_
    refine aw_seq ?_
    refine aw_region ?_
    refine ao_read trivial (r_load_arr rfl Try.isAgg47 Try.sizeOf47 rfl rfl rfl) rfl ?_
    refine ao_read trivial (r_move rfl) rfl ?_
    obtain ⟨r13, r13h, h⟩ := is_bind h
    refine ao_scall trivial (scall (c_spec_MeanWait (is_mk r13h)) rfl Try.func35 rfl rfl rfl rfl (fun σ => ⟨ad_ren rfl, ad_ren rfl, trivial⟩)) rfl ?_
    refine ao_read trivial (r_move rfl) rfl ?_
    refine ao_read trivial (r_extract rfl rfl) rfl ?_
    refine ao_read trivial (r_extract rfl rfl) rfl ?_
    refine ao_eff trivial (e_alloc 10 (y := .v (.arr 2 (.int .i64)) ((List.replicate 2 0) : (List Int))) Try.zeroValue29 (fun ρ h M => ra_zero_arr (t := (.int .i64)) rfl) rfl rfl rfl rfl rfl) rfl ?_
    refine ao_effS trivial (e_store rfl rfl rfl rfl Try.sizeOf29 rfl) ?_
    refine ao_read trivial (r_assign rfl) rfl ?_
    refine ao_nil ?_
    refine aq_then ?_
    refine aw_seq ?_
    refine aw_region ?_
    refine ao_read trivial (r_move rfl) rfl ?_
    obtain ⟨r14, r14h, h⟩ := is_bind h
    refine ao_call [] 11 trivial (c_laws_vCut (is_mk r14h)) Try.func16 rfl rfl rfl rfl ⟨ad_ren rfl, ad_ren rfl, trivial⟩ trivial rfl rfl rfl rfl rfl rfl rfl (fun r' H' hr => ?_)
    obtain ⟨rfl, rfl⟩ := hr
    refine ao_norm (y := .os 11) (H' := [(10, .var [.arr (.int .i64) 2 r13.1]), (9, .var [.arr (.int .i64) 2 r12.1]), (8, .var [.arr (.int .i64) 2 r11.1]), (7, .var [.arr (.int .i64) 2 r10.1]), (6, .var [.arr (.int .i64) 6 r9.1]), (4, .var [.arr (.int .i64) 2 r6.1]), (3, .var [.arr (.int .i64) 2 r5.1]), (2, .var [.arr (.int .i64) 121 r4.1]), (1, .var [.arr (.int .i64) 121 r3.1]), (0, .var [.arr (.int .i64) 6 r2.1]), (5, .row (.int .u8) r7), (11, .row (.int .u8) r14)]) rfl rfl ?_
    refine row_len_o 11 (r14.length : Int) rfl rfl (fun hr15 => ?_)
    obtain ⟨r16, r16h, h⟩ := is_bind h
    refine ao_scall trivial (scall (c_spec_DrawChanceAll (is_mk r16h)) rfl Try.func36 rfl rfl rfl rfl (fun σ => ⟨ad_os0 rfl, trivial⟩)) rfl ?_
    refine ao_read trivial (r_move rfl) rfl ?_
    refine ao_read trivial (r_extract rfl rfl) rfl ?_
    refine ao_read trivial (r_extract rfl rfl) rfl ?_
    refine ao_eff trivial (e_alloc 12 (y := .v (.arr 6 (.int .i64)) ((List.replicate 6 0) : (List Int))) Try.zeroValue47 (fun ρ h M => ra_zero_arr (t := (.int .i64)) rfl) rfl rfl rfl rfl rfl) rfl ?_
    refine ao_effS trivial (e_store rfl rfl rfl rfl Try.sizeOf47 rfl) ?_
    refine ao_read trivial (r_assign rfl) rfl ?_
    refine ao_nil ?_
    refine aq_then ?_
    refine aw_seq ?_
    refine aw_region ?_
    refine ao_read trivial (r_load_arr rfl Try.isAgg47 Try.sizeOf47 rfl rfl rfl) rfl ?_
    refine ao_read trivial (r_move rfl) rfl ?_
    obtain ⟨r17, r17h, h⟩ := is_bind h
    refine ao_scall trivial (scall (c_impl_ChanceAll (is_mk r17h)) rfl Try.func37 rfl rfl rfl rfl (fun σ => ⟨ad_ren rfl, ad_ren rfl, trivial⟩)) rfl ?_
    refine ao_read trivial (r_move rfl) rfl ?_
    refine ao_read trivial (r_extract rfl rfl) rfl ?_
    refine ao_read trivial (r_extract rfl rfl) rfl ?_
    refine ao_eff trivial (e_alloc 13 (y := .v (.arr 2 (.int .i64)) ((List.replicate 2 0) : (List Int))) Try.zeroValue29 (fun ρ h M => ra_zero_arr (t := (.int .i64)) rfl) rfl rfl rfl rfl rfl) rfl ?_
    refine ao_effS trivial (e_store rfl rfl rfl rfl Try.sizeOf29 rfl) ?_
    refine ao_read trivial (r_assign rfl) rfl ?_
    refine ao_nil ?_
    refine aq_then ?_
    refine aw_seq ?_
    refine aw_region ?_
    refine ao_read trivial (r_load_arr rfl Try.isAgg47 Try.sizeOf47 rfl rfl rfl) rfl ?_
    refine ao_read trivial (r_move rfl) rfl ?_
    obtain ⟨r18, r18h, h⟩ := is_bind h
    refine ao_scall trivial (scall (c_spec_ChanceAll (is_mk r18h)) rfl Try.func38 rfl rfl rfl rfl (fun σ => ⟨ad_ren rfl, ad_ren rfl, trivial⟩)) rfl ?_
    refine ao_read trivial (r_move rfl) rfl ?_
    refine ao_read trivial (r_extract rfl rfl) rfl ?_
    refine ao_read trivial (r_extract rfl rfl) rfl ?_
    refine ao_eff trivial (e_alloc 14 (y := .v (.arr 2 (.int .i64)) ((List.replicate 2 0) : (List Int))) Try.zeroValue29 (fun ρ h M => ra_zero_arr (t := (.int .i64)) rfl) rfl rfl rfl rfl rfl) rfl ?_
    refine ao_effS trivial (e_store rfl rfl rfl rfl Try.sizeOf29 rfl) ?_
    refine ao_read trivial (r_assign rfl) rfl ?_
    refine ao_nil ?_
    refine aq_then ?_
    refine aw_seq ?_
    refine aw_region ?_
    refine ao_read trivial (r_load_arr rfl Try.isAgg47 Try.sizeOf47 rfl rfl rfl) rfl ?_
    obtain ⟨r19, r19h, h⟩ := is_bind h
    refine ao_scall trivial (scall (c_impl_MeanAll (is_mk r19h)) rfl Try.func39 rfl rfl rfl rfl (fun σ => ⟨ad_ren rfl, trivial⟩)) rfl ?_
    refine ao_read trivial (r_move rfl) rfl ?_
    refine ao_read trivial (r_extract rfl rfl) rfl ?_
    refine ao_read trivial (r_extract rfl rfl) rfl ?_
    refine ao_eff trivial (e_alloc 15 (y := .v (.arr 2 (.int .i64)) ((List.replicate 2 0) : (List Int))) Try.zeroValue29 (fun ρ h M => ra_zero_arr (t := (.int .i64)) rfl) rfl rfl rfl rfl rfl) rfl ?_
    refine ao_effS trivial (e_store rfl rfl rfl rfl Try.sizeOf29 rfl) ?_
    refine ao_read trivial (r_assign rfl) rfl ?_
    refine ao_nil ?_
    refine aq_then ?_
    refine aw_seq ?_
    refine aw_region ?_
    refine ao_read trivial (r_load_arr rfl Try.isAgg47 Try.sizeOf47 rfl rfl rfl) rfl ?_
    obtain ⟨r20, r20h, h⟩ := is_bind h
    refine ao_scall trivial (scall (c_spec_MeanAll (is_mk r20h)) rfl Try.func40 rfl rfl rfl rfl (fun σ => ⟨ad_ren rfl, trivial⟩)) rfl ?_
    refine ao_read trivial (r_move rfl) rfl ?_
    refine ao_read trivial (r_extract rfl rfl) rfl ?_
    refine ao_read trivial (r_extract rfl rfl) rfl ?_
    refine ao_eff trivial (e_alloc 16 (y := .v (.arr 2 (.int .i64)) ((List.replicate 2 0) : (List Int))) Try.zeroValue29 (fun ρ h M => ra_zero_arr (t := (.int .i64)) rfl) rfl rfl rfl rfl rfl) rfl ?_
    refine ao_effS trivial (e_store rfl rfl rfl rfl Try.sizeOf29 rfl) ?_
    refine ao_read trivial (r_assign rfl) rfl ?_
    refine ao_nil ?_
    refine aq_then ?_
    refine aw_seq ?_
    refine aw_seq ?_
    refine aw_region ?_
    refine ao_read trivial (r_load_arr rfl Try.isAgg50 Try.sizeOf50 rfl rfl rfl) rfl ?_
    refine ao_read trivial (r_load_arr rfl Try.isAgg50 Try.sizeOf50 rfl rfl rfl) rfl ?_
    refine ao_read trivial (r_eq_ints Try.underlying50 Try.underlying3 Try.isAgg3 (info_size Try.sizeOf3) (by kernel_rfl) rfl rfl rfl) rfl ?_
    refine ao_read trivial (r_move rfl) rfl ?_
    refine ao_readG (x := .bool r3.2) rfl (GV.F rfl) (fun hg21 => r_move rfl) rfl ?_
    refine ao_readG (x := .bool r4.2) rfl (GV.F rfl) (fun hg22 => r_move rfl) rfl ?_
    refine ao_readG (x := .bool (r3.2 != r4.2)) rfl (GV.F rfl) (fun hg23 => Reads.strip 143 rfl (hg23) (Reads.strip 144 rfl (hg23) (r_neq_bool Try.underlying4 rfl rfl))) rfl ?_
    refine ao_read trivial (r_orB rfl rfl) rfl ?_
    refine ao_read trivial (r_move rfl) rfl ?_
    refine ao_readG (x := .v (.arr 2 (.int .i64)) r5.1) rfl (GV.F rfl) (fun hg24 => by
          obtain ⟨q25, q26⟩ := or_f (not_t hg24)
          exact r_load_arr rfl Try.isAgg29 Try.sizeOf29 rfl rfl rfl) rfl ?_
    refine ao_readG (x := .v (.arr 2 (.int .i64)) r6.1) rfl (GV.F rfl) (fun hg27 => by
          obtain ⟨q28, q29⟩ := or_f (not_t hg27)
          exact r_load_arr rfl Try.isAgg29 Try.sizeOf29 rfl rfl rfl) rfl ?_
    refine ao_readG (x := .bool (!(decide (r5.1 = r6.1)))) rfl (GV.F rfl) (fun hg30 => by
          obtain ⟨q31, q32⟩ := or_f (not_t hg30)
          exact Reads.strip 148 rfl (hg30) (Reads.strip 149 rfl (hg30) (r_eq_ints Try.underlying29 Try.underlying3 Try.isAgg3 (info_size Try.sizeOf3) (by kernel_rfl) rfl rfl rfl))) rfl ?_
    refine ao_read trivial (r_orB rfl rfl) rfl ?_
    refine ao_read trivial (r_move rfl) rfl ?_
    refine ao_readG (x := .bool r5.2) rfl (GV.F rfl) (fun hg33 => by
          obtain ⟨q34, q35⟩ := or_f (not_t hg33)
          obtain ⟨q36, q37⟩ := or_f q34
          exact r_move rfl) rfl ?_
    refine ao_readG (x := .bool r6.2) rfl (GV.F rfl) (fun hg38 => by
          obtain ⟨q39, q40⟩ := or_f (not_t hg38)
          obtain ⟨q41, q42⟩ := or_f q39
          exact r_move rfl) rfl ?_
    refine ao_readG (x := .bool (r5.2 != r6.2)) rfl (GV.F rfl) (fun hg43 => by
          obtain ⟨q44, q45⟩ := or_f (not_t hg43)
          obtain ⟨q46, q47⟩ := or_f q44
          exact Reads.strip 153 rfl (hg43) (Reads.strip 154 rfl (hg43) (r_neq_bool Try.underlying4 rfl rfl))) rfl ?_
    refine ao_read trivial (r_orB rfl rfl) rfl ?_
    refine ao_read trivial (r_move rfl) rfl ?_
    refine ao_readG (x := .v (.arr 2 (.int .i64)) r10.1) rfl (GV.F rfl) (fun hg48 => by
          obtain ⟨q49, q50⟩ := or_f (not_t hg48)
          obtain ⟨q51, q52⟩ := or_f q49
          obtain ⟨q53, q54⟩ := or_f q51
          exact r_load_arr rfl Try.isAgg29 Try.sizeOf29 rfl rfl rfl) rfl ?_
    refine ao_readG (x := .v (.arr 2 (.int .i64)) r11.1) rfl (GV.F rfl) (fun hg55 => by
          obtain ⟨q56, q57⟩ := or_f (not_t hg55)
          obtain ⟨q58, q59⟩ := or_f q56
          obtain ⟨q60, q61⟩ := or_f q58
          exact r_load_arr rfl Try.isAgg29 Try.sizeOf29 rfl rfl rfl) rfl ?_
    refine ao_readG (x := .bool (!(decide (r10.1 = r11.1)))) rfl (GV.F rfl) (fun hg62 => by
          obtain ⟨q63, q64⟩ := or_f (not_t hg62)
          obtain ⟨q65, q66⟩ := or_f q63
          obtain ⟨q67, q68⟩ := or_f q65
          exact Reads.strip 158 rfl (hg62) (Reads.strip 159 rfl (hg62) (r_eq_ints Try.underlying29 Try.underlying3 Try.isAgg3 (info_size Try.sizeOf3) (by kernel_rfl) rfl rfl rfl))) rfl ?_
    refine ao_read trivial (r_orB rfl rfl) rfl ?_
    refine ao_read trivial (r_move rfl) rfl ?_
    refine ao_readG (x := .bool r10.2) rfl (GV.F rfl) (fun hg69 => by
          obtain ⟨q70, q71⟩ := or_f (not_t hg69)
          obtain ⟨q72, q73⟩ := or_f q70
          obtain ⟨q74, q75⟩ := or_f q72
          obtain ⟨q76, q77⟩ := or_f q74
          exact r_move rfl) rfl ?_
    refine ao_readG (x := .bool r11.2) rfl (GV.F rfl) (fun hg78 => by
          obtain ⟨q79, q80⟩ := or_f (not_t hg78)
          obtain ⟨q81, q82⟩ := or_f q79
          obtain ⟨q83, q84⟩ := or_f q81
          obtain ⟨q85, q86⟩ := or_f q83
          exact r_move rfl) rfl ?_
    refine ao_readG (x := .bool (r10.2 != r11.2)) rfl (GV.F rfl) (fun hg87 => by
          obtain ⟨q88, q89⟩ := or_f (not_t hg87)
          obtain ⟨q90, q91⟩ := or_f q88
          obtain ⟨q92, q93⟩ := or_f q90
          obtain ⟨q94, q95⟩ := or_f q92
          exact Reads.strip 163 rfl (hg87) (Reads.strip 164 rfl (hg87) (r_neq_bool Try.underlying4 rfl rfl))) rfl ?_
    refine ao_read trivial (r_orB rfl rfl) rfl ?_
    refine ao_read trivial (r_move rfl) rfl ?_
    refine ao_readG (x := .v (.arr 2 (.int .i64)) r12.1) rfl (GV.F rfl) (fun hg96 => by
          obtain ⟨q97, q98⟩ := or_f (not_t hg96)
          obtain ⟨q99, q100⟩ := or_f q97
          obtain ⟨q101, q102⟩ := or_f q99
          obtain ⟨q103, q104⟩ := or_f q101
          obtain ⟨q105, q106⟩ := or_f q103
          exact r_load_arr rfl Try.isAgg29 Try.sizeOf29 rfl rfl rfl) rfl ?_
    refine ao_readG (x := .v (.arr 2 (.int .i64)) r13.1) rfl (GV.F rfl) (fun hg107 => by
          obtain ⟨q108, q109⟩ := or_f (not_t hg107)
          obtain ⟨q110, q111⟩ := or_f q108
          obtain ⟨q112, q113⟩ := or_f q110
          obtain ⟨q114, q115⟩ := or_f q112
          obtain ⟨q116, q117⟩ := or_f q114
          exact r_load_arr rfl Try.isAgg29 Try.sizeOf29 rfl rfl rfl) rfl ?_
    refine ao_readG (x := .bool (!(decide (r12.1 = r13.1)))) rfl (GV.F rfl) (fun hg118 => by
          obtain ⟨q119, q120⟩ := or_f (not_t hg118)
          obtain ⟨q121, q122⟩ := or_f q119
          obtain ⟨q123, q124⟩ := or_f q121
          obtain ⟨q125, q126⟩ := or_f q123
          obtain ⟨q127, q128⟩ := or_f q125
          exact Reads.strip 168 rfl (hg118) (Reads.strip 169 rfl (hg118) (r_eq_ints Try.underlying29 Try.underlying3 Try.isAgg3 (info_size Try.sizeOf3) (by kernel_rfl) rfl rfl rfl))) rfl ?_
    refine ao_read trivial (r_orB rfl rfl) rfl ?_
    refine ao_read trivial (r_move rfl) rfl ?_
    refine ao_readG (x := .bool r12.2) rfl (GV.F rfl) (fun hg129 => by
          obtain ⟨q130, q131⟩ := or_f (not_t hg129)
          obtain ⟨q132, q133⟩ := or_f q130
          obtain ⟨q134, q135⟩ := or_f q132
          obtain ⟨q136, q137⟩ := or_f q134
          obtain ⟨q138, q139⟩ := or_f q136
          obtain ⟨q140, q141⟩ := or_f q138
          exact r_move rfl) rfl ?_
    refine ao_readG (x := .bool r13.2) rfl (GV.F rfl) (fun hg142 => by
          obtain ⟨q143, q144⟩ := or_f (not_t hg142)
          obtain ⟨q145, q146⟩ := or_f q143
          obtain ⟨q147, q148⟩ := or_f q145
          obtain ⟨q149, q150⟩ := or_f q147
          obtain ⟨q151, q152⟩ := or_f q149
          obtain ⟨q153, q154⟩ := or_f q151
          exact r_move rfl) rfl ?_
    refine ao_readG (x := .bool (r12.2 != r13.2)) rfl (GV.F rfl) (fun hg155 => by
          obtain ⟨q156, q157⟩ := or_f (not_t hg155)
          obtain ⟨q158, q159⟩ := or_f q156
          obtain ⟨q160, q161⟩ := or_f q158
          obtain ⟨q162, q163⟩ := or_f q160
          obtain ⟨q164, q165⟩ := or_f q162
          obtain ⟨q166, q167⟩ := or_f q164
          exact Reads.strip 173 rfl (hg155) (Reads.strip 174 rfl (hg155) (r_neq_bool Try.underlying4 rfl rfl))) rfl ?_
    refine ao_read trivial (r_orB rfl rfl) rfl ?_
    refine ao_read trivial (r_move rfl) rfl ?_
    refine ao_readG (x := .v (.arr 2 (.int .i64)) r17.1) rfl (GV.F rfl) (fun hg168 => by
          obtain ⟨q169, q170⟩ := or_f (not_t hg168)
          obtain ⟨q171, q172⟩ := or_f q169
          obtain ⟨q173, q174⟩ := or_f q171
          obtain ⟨q175, q176⟩ := or_f q173
          obtain ⟨q177, q178⟩ := or_f q175
          obtain ⟨q179, q180⟩ := or_f q177
          obtain ⟨q181, q182⟩ := or_f q179
          exact r_load_arr rfl Try.isAgg29 Try.sizeOf29 rfl rfl rfl) rfl ?_
    refine ao_readG (x := .v (.arr 2 (.int .i64)) r18.1) rfl (GV.F rfl) (fun hg183 => by
          obtain ⟨q184, q185⟩ := or_f (not_t hg183)
          obtain ⟨q186, q187⟩ := or_f q184
          obtain ⟨q188, q189⟩ := or_f q186
          obtain ⟨q190, q191⟩ := or_f q188
          obtain ⟨q192, q193⟩ := or_f q190
          obtain ⟨q194, q195⟩ := or_f q192
          obtain ⟨q196, q197⟩ := or_f q194
          exact r_load_arr rfl Try.isAgg29 Try.sizeOf29 rfl rfl rfl) rfl ?_
    refine ao_readG (x := .bool (!(decide (r17.1 = r18.1)))) rfl (GV.F rfl) (fun hg198 => by
          obtain ⟨q199, q200⟩ := or_f (not_t hg198)
          obtain ⟨q201, q202⟩ := or_f q199
          obtain ⟨q203, q204⟩ := or_f q201
          obtain ⟨q205, q206⟩ := or_f q203
          obtain ⟨q207, q208⟩ := or_f q205
          obtain ⟨q209, q210⟩ := or_f q207
          obtain ⟨q211, q212⟩ := or_f q209
          exact Reads.strip 178 rfl (hg198) (Reads.strip 179 rfl (hg198) (r_eq_ints Try.underlying29 Try.underlying3 Try.isAgg3 (info_size Try.sizeOf3) (by kernel_rfl) rfl rfl rfl))) rfl ?_
    refine ao_read trivial (r_orB rfl rfl) rfl ?_
    refine ao_read trivial (r_move rfl) rfl ?_
    refine ao_readG (x := .bool r17.2) rfl (GV.F rfl) (fun hg213 => by
          obtain ⟨q214, q215⟩ := or_f (not_t hg213)
          obtain ⟨q216, q217⟩ := or_f q214
          obtain ⟨q218, q219⟩ := or_f q216
          obtain ⟨q220, q221⟩ := or_f q218
          obtain ⟨q222, q223⟩ := or_f q220
          obtain ⟨q224, q225⟩ := or_f q222
          obtain ⟨q226, q227⟩ := or_f q224
          obtain ⟨q228, q229⟩ := or_f q226
          exact r_move rfl) rfl ?_
    refine ao_readG (x := .bool r18.2) rfl (GV.F rfl) (fun hg230 => by
          obtain ⟨q231, q232⟩ := or_f (not_t hg230)
          obtain ⟨q233, q234⟩ := or_f q231
          obtain ⟨q235, q236⟩ := or_f q233
          obtain ⟨q237, q238⟩ := or_f q235
          obtain ⟨q239, q240⟩ := or_f q237
          obtain ⟨q241, q242⟩ := or_f q239
          obtain ⟨q243, q244⟩ := or_f q241
          obtain ⟨q245, q246⟩ := or_f q243
          exact r_move rfl) rfl ?_
    refine ao_readG (x := .bool (r17.2 != r18.2)) rfl (GV.F rfl) (fun hg247 => by
          obtain ⟨q248, q249⟩ := or_f (not_t hg247)
          obtain ⟨q250, q251⟩ := or_f q248
          obtain ⟨q252, q253⟩ := or_f q250
          obtain ⟨q254, q255⟩ := or_f q252
          obtain ⟨q256, q257⟩ := or_f q254
          obtain ⟨q258, q259⟩ := or_f q256
          obtain ⟨q260, q261⟩ := or_f q258
          obtain ⟨q262, q263⟩ := or_f q260
          exact Reads.strip 183 rfl (hg247) (Reads.strip 184 rfl (hg247) (r_neq_bool Try.underlying4 rfl rfl))) rfl ?_
    refine ao_read trivial (r_orB rfl rfl) rfl ?_
    refine ao_read trivial (r_move rfl) rfl ?_
    refine ao_readG (x := .v (.arr 2 (.int .i64)) r19.1) rfl (GV.F rfl) (fun hg264 => by
          obtain ⟨q265, q266⟩ := or_f (not_t hg264)
          obtain ⟨q267, q268⟩ := or_f q265
          obtain ⟨q269, q270⟩ := or_f q267
          obtain ⟨q271, q272⟩ := or_f q269
          obtain ⟨q273, q274⟩ := or_f q271
          obtain ⟨q275, q276⟩ := or_f q273
          obtain ⟨q277, q278⟩ := or_f q275
          obtain ⟨q279, q280⟩ := or_f q277
          obtain ⟨q281, q282⟩ := or_f q279
          exact r_load_arr rfl Try.isAgg29 Try.sizeOf29 rfl rfl rfl) rfl ?_
    refine ao_readG (x := .v (.arr 2 (.int .i64)) r20.1) rfl (GV.F rfl) (fun hg283 => by
          obtain ⟨q284, q285⟩ := or_f (not_t hg283)
          obtain ⟨q286, q287⟩ := or_f q284
          obtain ⟨q288, q289⟩ := or_f q286
          obtain ⟨q290, q291⟩ := or_f q288
          obtain ⟨q292, q293⟩ := or_f q290
          obtain ⟨q294, q295⟩ := or_f q292
          obtain ⟨q296, q297⟩ := or_f q294
          obtain ⟨q298, q299⟩ := or_f q296
          obtain ⟨q300, q301⟩ := or_f q298
          exact r_load_arr rfl Try.isAgg29 Try.sizeOf29 rfl rfl rfl) rfl ?_
    refine ao_readG (x := .bool (!(decide (r19.1 = r20.1)))) rfl (GV.F rfl) (fun hg302 => by
          obtain ⟨q303, q304⟩ := or_f (not_t hg302)
          obtain ⟨q305, q306⟩ := or_f q303
          obtain ⟨q307, q308⟩ := or_f q305
          obtain ⟨q309, q310⟩ := or_f q307
          obtain ⟨q311, q312⟩ := or_f q309
          obtain ⟨q313, q314⟩ := or_f q311
          obtain ⟨q315, q316⟩ := or_f q313
          obtain ⟨q317, q318⟩ := or_f q315
          obtain ⟨q319, q320⟩ := or_f q317
          exact Reads.strip 188 rfl (hg302) (Reads.strip 189 rfl (hg302) (r_eq_ints Try.underlying29 Try.underlying3 Try.isAgg3 (info_size Try.sizeOf3) (by kernel_rfl) rfl rfl rfl))) rfl ?_
    refine ao_read trivial (r_orB rfl rfl) rfl ?_
    refine ao_read trivial (r_move rfl) rfl ?_
    refine ao_readG (x := .bool r19.2) rfl (GV.F rfl) (fun hg321 => by
          obtain ⟨q322, q323⟩ := or_f (not_t hg321)
          obtain ⟨q324, q325⟩ := or_f q322
          obtain ⟨q326, q327⟩ := or_f q324
          obtain ⟨q328, q329⟩ := or_f q326
          obtain ⟨q330, q331⟩ := or_f q328
          obtain ⟨q332, q333⟩ := or_f q330
          obtain ⟨q334, q335⟩ := or_f q332
          obtain ⟨q336, q337⟩ := or_f q334
          obtain ⟨q338, q339⟩ := or_f q336
          obtain ⟨q340, q341⟩ := or_f q338
          exact r_move rfl) rfl ?_
    refine ao_readG (x := .bool r20.2) rfl (GV.F rfl) (fun hg342 => by
          obtain ⟨q343, q344⟩ := or_f (not_t hg342)
          obtain ⟨q345, q346⟩ := or_f q343
          obtain ⟨q347, q348⟩ := or_f q345
          obtain ⟨q349, q350⟩ := or_f q347
          obtain ⟨q351, q352⟩ := or_f q349
          obtain ⟨q353, q354⟩ := or_f q351
          obtain ⟨q355, q356⟩ := or_f q353
          obtain ⟨q357, q358⟩ := or_f q355
          obtain ⟨q359, q360⟩ := or_f q357
          obtain ⟨q361, q362⟩ := or_f q359
          exact r_move rfl) rfl ?_
    refine ao_readG (x := .bool (r19.2 != r20.2)) rfl (GV.F rfl) (fun hg363 => by
          obtain ⟨q364, q365⟩ := or_f (not_t hg363)
          obtain ⟨q366, q367⟩ := or_f q364
          obtain ⟨q368, q369⟩ := or_f q366
          obtain ⟨q370, q371⟩ := or_f q368
          obtain ⟨q372, q373⟩ := or_f q370
          obtain ⟨q374, q375⟩ := or_f q372
          obtain ⟨q376, q377⟩ := or_f q374
          obtain ⟨q378, q379⟩ := or_f q376
          obtain ⟨q380, q381⟩ := or_f q378
          obtain ⟨q382, q383⟩ := or_f q380
          exact Reads.strip 193 rfl (hg363) (Reads.strip 194 rfl (hg363) (r_neq_bool Try.underlying4 rfl rfl))) rfl ?_
    refine ao_read trivial (r_orB rfl rfl) rfl ?_
    refine ao_read trivial (r_move rfl) rfl ?_
    refine ao_readG (x := .bool r17.2) rfl (GV.F rfl) (fun hg384 => by
          obtain ⟨q385, q386⟩ := or_f (not_t hg384)
          obtain ⟨q387, q388⟩ := or_f q385
          obtain ⟨q389, q390⟩ := or_f q387
          obtain ⟨q391, q392⟩ := or_f q389
          obtain ⟨q393, q394⟩ := or_f q391
          obtain ⟨q395, q396⟩ := or_f q393
          obtain ⟨q397, q398⟩ := or_f q395
          obtain ⟨q399, q400⟩ := or_f q397
          obtain ⟨q401, q402⟩ := or_f q399
          obtain ⟨q403, q404⟩ := or_f q401
          obtain ⟨q405, q406⟩ := or_f q403
          exact r_move rfl) rfl ?_
    refine ao_readG (x := .bool r17.2) rfl (GV.F rfl) (fun hg407 => by
          obtain ⟨q408, q409⟩ := or_f (not_t hg407)
          obtain ⟨q410, q411⟩ := or_f q408
          obtain ⟨q412, q413⟩ := or_f q410
          obtain ⟨q414, q415⟩ := or_f q412
          obtain ⟨q416, q417⟩ := or_f q414
          obtain ⟨q418, q419⟩ := or_f q416
          obtain ⟨q420, q421⟩ := or_f q418
          obtain ⟨q422, q423⟩ := or_f q420
          obtain ⟨q424, q425⟩ := or_f q422
          obtain ⟨q426, q427⟩ := or_f q424
          obtain ⟨q428, q429⟩ := or_f q426
          exact Reads.strip 198 rfl (hg407) (r_move rfl)) rfl ?_
    refine ao_readG (x := .bool r19.2) rfl (GV.gT rfl) (fun hg430 => by
          obtain ⟨q431, q432⟩ := and_t hg430
          obtain ⟨q433, q434⟩ := or_f (not_t q431)
          obtain ⟨q435, q436⟩ := or_f q433
          obtain ⟨q437, q438⟩ := or_f q435
          obtain ⟨q439, q440⟩ := or_f q437
          obtain ⟨q441, q442⟩ := or_f q439
          obtain ⟨q443, q444⟩ := or_f q441
          obtain ⟨q445, q446⟩ := or_f q443
          obtain ⟨q447, q448⟩ := or_f q445
          obtain ⟨q449, q450⟩ := or_f q447
          obtain ⟨q451, q452⟩ := or_f q449
          obtain ⟨q453, q454⟩ := or_f q451
          exact r_move rfl) rfl ?_
    refine ao_readG (x := .bool (!r19.2)) rfl (GV.gT rfl) (fun hg455 => by
          obtain ⟨q456, q457⟩ := and_t hg455
          obtain ⟨q458, q459⟩ := or_f (not_t q456)
          obtain ⟨q460, q461⟩ := or_f q458
          obtain ⟨q462, q463⟩ := or_f q460
          obtain ⟨q464, q465⟩ := or_f q462
          obtain ⟨q466, q467⟩ := or_f q464
          obtain ⟨q468, q469⟩ := or_f q466
          obtain ⟨q470, q471⟩ := or_f q468
          obtain ⟨q472, q473⟩ := or_f q470
          obtain ⟨q474, q475⟩ := or_f q472
          obtain ⟨q476, q477⟩ := or_f q474
          obtain ⟨q478, q479⟩ := or_f q476
          exact Reads.strip 200 rfl (hg455) (r_not rfl)) rfl ?_
    refine ao_readG (x := .bool (r17.2 && (!r19.2))) rfl (GV.F rfl) (fun hg480 => by
          obtain ⟨q481, q482⟩ := or_f (not_t hg480)
          obtain ⟨q483, q484⟩ := or_f q481
          obtain ⟨q485, q486⟩ := or_f q483
          obtain ⟨q487, q488⟩ := or_f q485
          obtain ⟨q489, q490⟩ := or_f q487
          obtain ⟨q491, q492⟩ := or_f q489
          obtain ⟨q493, q494⟩ := or_f q491
          obtain ⟨q495, q496⟩ := or_f q493
          obtain ⟨q497, q498⟩ := or_f q495
          obtain ⟨q499, q500⟩ := or_f q497
          obtain ⟨q501, q502⟩ := or_f q499
          exact Reads.strip 199 rfl (hg480) (r_andBg rfl rfl (tr_and (hg480)))) rfl ?_
    refine ao_read trivial (r_orB rfl rfl) rfl ?_
    refine ao_nil ?_
    refine aq_then ?_
    refine aw_cond rfl (fun hb503 => ?_) (fun hb503 => ?_)
    · replace h := is_if hb503 h
      refine aw_seq ?_
      refine aw_region ?_
      refine ao_read trivial (r_assign rfl) rfl ?_
      refine ao_nil ?_
      refine aq_then ?_
      refine aw_ret ?_
      refine aq_then_ret ?_
      refine aq_ret ?_
      obtain rfl := is_some h
      exact aq_finx (l := [.tmp 2]) (xs := [.bool false]) idn [.bool false] [] rfl (by exact ⟨rfl, trivial⟩) (by exact ⟨ad_ren rfl, trivial⟩) (by exact trivial) rfl (nk rfl) rfl rfl ⟨rfl, rfl⟩
    · obtain ⟨q504, q505⟩ := or_f hb503
      obtain ⟨q506, q507⟩ := or_f q504
      obtain ⟨q508, q509⟩ := or_f q506
      obtain ⟨q510, q511⟩ := or_f q508
      obtain ⟨q512, q513⟩ := or_f q510
      obtain ⟨q514, q515⟩ := or_f q512
      obtain ⟨q516, q517⟩ := or_f q514
      obtain ⟨q518, q519⟩ := or_f q516
      obtain ⟨q520, q521⟩ := or_f q518
      obtain ⟨q522, q523⟩ := or_f q520
      obtain ⟨q524, q525⟩ := or_f q522
      obtain ⟨q526, q527⟩ := or_f q524
      replace h := is_else (ne_t hb503) h
      refine aw_skip ?_
      refine aq_then ?_
      refine aw_join (fun (s528 : Unit) => [(13, .ref 0 0), (14, .int .i64 r9.2.1), (15, .int .i64 r9.2.2), (16, .ref 1 0), (17, .bool r10.2), (20, .ref 2 0), (21, .bool r12.2), (24, .ref 3 0), (25, .int .i64 r16.2), (26, .ref 4 0), (27, .bool r17.2), (30, .ref 5 0), (31, .bool r19.2)]) (fun (s528 : Unit) => [(0, .var [.arr (.int .i64) 6 r9.1]), (1, .var [.arr (.int .i64) 2 r10.1]), (2, .var [.arr (.int .i64) 2 r12.1]), (3, .var [.arr (.int .i64) 6 r16.1]), (4, .var [.arr (.int .i64) 2 r17.1]), (5, .var [.arr (.int .i64) 2 r19.1])]) (fun (s528 : Unit) => True) h (fun s528 hI h => ?_) (fun h j530 => ?_)
      · refine aw_join (fun (s531 : Unit) => [(24, .ref 0 0), (25, .int .i64 r16.2), (26, .ref 1 0), (27, .bool r17.2), (30, .ref 2 0), (31, .bool r19.2)]) (fun (s531 : Unit) => [(0, .var [.arr (.int .i64) 6 r16.1]), (1, .var [.arr (.int .i64) 2 r17.1]), (2, .var [.arr (.int .i64) 2 r19.1])]) (fun (s531 : Unit) => True) h (fun s531 hI h => ?_) (fun h j533 => ?_)
        · refine aw_join (fun (s534 : Unit) => [(24, .ref 0 0), (30, .ref 1 0), (31, .bool r19.2)]) (fun (s534 : Unit) => [(0, .var [.arr (.int .i64) 6 r16.1]), (1, .var [.arr (.int .i64) 2 r19.1])]) (fun (s534 : Unit) => True) h (fun s534 hI h => ?_) (fun h j536 => ?_)
          · refine aw_seq ?_
            refine aw_seq ?_
            refine aw_region ?_
            refine ao_read trivial (r_move rfl) rfl ?_
            refine ao_nil ?_
            refine aq_then ?_
            refine aw_cond rfl (fun hb537 => ?_) (fun hb537 => ?_)
            · replace h := is_if hb537 h
              refine aw_seq ?_
              refine aw_region ?_
              refine ao_read trivial (r_load_arr rfl Try.isAgg47 Try.sizeOf47 rfl rfl rfl) rfl ?_
              obtain ⟨r538, r538h, h⟩ := is_bind h
              refine ao_scall trivial (scall (c_impl_CountFaces (is_mk r538h)) rfl Try.func45 rfl rfl rfl rfl (fun σ => ⟨ad_ren rfl, trivial⟩)) rfl ?_
              refine ao_read trivial (r_move rfl) rfl ?_
              refine ao_read trivial (r_extract rfl rfl) rfl ?_
              refine ao_read trivial (r_extract rfl rfl) rfl ?_
              refine ao_eff trivial (e_alloc 2 (y := .v (.arr 31 (.int .i64)) ((List.replicate 31 0) : (List Int))) Try.zeroValue62 (fun ρ h M => ra_zero_arr (t := (.int .i64)) rfl) rfl rfl rfl rfl rfl) rfl ?_
              refine ao_effS trivial (e_store rfl rfl rfl rfl Try.sizeOf62 rfl) ?_
              refine ao_read trivial (r_assign rfl) rfl ?_
              refine ao_nil ?_
              refine aq_then ?_
              refine aw_seq ?_
              refine aw_region ?_
              refine ao_read trivial (r_assign rfl) rfl ?_
              refine ao_nil ?_
              refine aq_then ?_
              refine aw_seq ?_
              refine aw_seq ?_
              refine aw_region ?_
              refine ao_read trivial (r_assign rfl) rfl ?_
              refine ao_nil ?_
              refine aq_then ?_
              refine aw_block ?_
              refine aw_loop (AL.sub (fr' := [(30, .ref 0 0), (45, .ref 1 0), (46, .bool r538.2), (47, .int .i64 0), (48, .int .i64 0)]) (H' := [(0, .var [.arr (.int .i64) 2 r19.1]), (1, .var [.arr (.int .i64) 31 r538.1])]) (sub_mk (rn [(0, 1), (1, 2)]) (by exact ⟨ai rfl, ai rfl, ai rfl, ai rfl, ai rfl, trivial⟩) (by exact ⟨⟨_, rfl, ⟨rfl, trivial⟩⟩, ⟨_, rfl, ⟨rfl, trivial⟩⟩, trivial⟩) (by rfl) (nk rfl)) (al_cnt (fun i540 (s539 : Int) => [(30, .ref 0 0), (45, .ref 1 0), (46, .bool r538.2), (47, .int .i64 s539), (48, .int .i64 i540)]) (fun i540 (s539 : Int) => [(0, .var [.arr (.int .i64) 2 r19.1]), (1, .var [.arr (.int .i64) 31 r538.1])]) (fun d i540 (s539 : Int) => d = Int.toNat (31 - i540) ∧ 0 ≤ i540 ∧ i540 ≤ 31) h ⟨rfl, (by (try simp only [List.length_set, List.length_append, List.length_cons, List.length_nil, List.length_replicate, List.length_take, List.length_drop]) <;> omega), (by (try simp only [List.length_set, List.length_append, List.length_cons, List.length_nil, List.length_replicate, List.length_take, List.length_drop]) <;> omega)⟩ (fun d541 i540 s539 hI h ih541 => ?_)))
              obtain ⟨hd, _, _⟩ := hI
              refine al_round ?_
              refine aw_seq ?_
              refine aw_seq ?_
              refine aw_region ?_
              refine ao_read trivial (r_move rfl) rfl ?_
              refine ao_read trivial (r_lss rfl rfl) rfl ?_
              refine ao_nil ?_
              refine aq_then ?_
              refine aw_cond rfl (fun hb543 => ?_) (fun hb543 => ?_)
              · have q544 := d_t hb543
                obtain ⟨d541, rfl⟩ : ∃ e, d541 = e + 1 := ⟨d541 - 1, by omega⟩
                replace h := is_cntS h
                refine aw_skip ?_
                refine aq_then ?_
                refine aw_seq ?_
                refine aw_block ?_
                refine aw_seq ?_
                refine aw_region ?_
                refine ao_read trivial (r_move rfl) rfl ?_
                refine ao_read trivial (r_idxAddr_arr (i := i540) Try.underlying62 Try.sizeOf3 rfl rfl (show 0 ≤ i540 from by omega) (show i540 < (31 : Int) from by omega)) rfl ?_
                refine ao_read trivial (r_load_elema_int Try.isAgg3 Try.sizeOf3 rfl rfl rfl (show i540.toNat < 31 from by omega)) rfl ?_
                refine ao_read trivial (r_gtr rfl rfl) rfl ?_
                refine ao_nil ?_
                refine aq_then ?_
                refine aw_cond rfl (fun hb546 => ?_) (fun hb546 => ?_)
                · have q547 : 0 < (r538.1.getD i540.toNat 0) := d_t hb546
                  replace h := is_if (d_t hb546) h
                  refine aw_region ?_
                  refine ao_read trivial (r_move rfl) rfl ?_
                  refine ao_read trivial (r_add rfl rfl) rfl ?_
                  refine ao_read trivial (r_assign rfl) rfl ?_
                  refine ao_nil ?_
                  refine aq_in ?_
                  refine aq_then ?_
                  refine aw_region ?_
                  refine ao_read trivial (r_move rfl) rfl ?_
                  refine ao_read trivial (r_addI rfl rfl (wrap_id (by omega) (by omega))) rfl ?_
                  refine ao_read trivial (r_assign rfl) rfl ?_
                  refine ao_nil ?_
                  exact aq_again (AL.sub (sub_mk idn (by exact ⟨ai rfl, ai rfl, ai rfl, ai rfl, ai rfl, trivial⟩) (by exact ⟨⟨_, rfl, ⟨rfl, trivial⟩⟩, ⟨_, rfl, ⟨rfl, trivial⟩⟩, trivial⟩) (by rfl) (nk rfl)) (ih541 d541 (i540 + 1) (IntKind.wrap .i64 (s539 + 1)) (by omega) ⟨by omega, (by (try simp only [List.length_set, List.length_append, List.length_cons, List.length_nil, List.length_replicate, List.length_take, List.length_drop]) <;> omega), (by (try simp only [List.length_set, List.length_append, List.length_cons, List.length_nil, List.length_replicate, List.length_take, List.length_drop]) <;> omega)⟩ h))
                · have q548 : ¬ (0 < (r538.1.getD i540.toNat 0)) := d_f hb546
                  replace h := is_else (d_f hb546) h
                  refine aw_skip ?_
                  refine aq_in ?_
                  refine aq_then ?_
                  refine aw_region ?_
                  refine ao_read trivial (r_move rfl) rfl ?_
                  refine ao_read trivial (r_addI rfl rfl (wrap_id (by omega) (by omega))) rfl ?_
                  refine ao_read trivial (r_assign rfl) rfl ?_
                  refine ao_nil ?_
                  exact aq_again (AL.sub (sub_mk idn (by exact ⟨ai rfl, ai rfl, ai rfl, ai rfl, ai rfl, trivial⟩) (by exact ⟨⟨_, rfl, ⟨rfl, trivial⟩⟩, ⟨_, rfl, ⟨rfl, trivial⟩⟩, trivial⟩) (by rfl) (nk rfl)) (ih541 d541 (i540 + 1) s539 (by omega) ⟨by omega, (by (try simp only [List.length_set, List.length_append, List.length_cons, List.length_nil, List.length_replicate, List.length_take, List.length_drop]) <;> omega), (by (try simp only [List.length_set, List.length_append, List.length_cons, List.length_nil, List.length_replicate, List.length_take, List.length_drop]) <;> omega)⟩ h))
              · have q545 := d_f hb543
                obtain rfl : d541 = 0 := by omega
                replace h := is_cnt0 h
                refine aw_exit ?_
                refine aq_then_exit ?_
                refine aq_then_exit ?_
                refine aq_in_exit ?_
                refine aq_then ?_
                refine aw_seq ?_
                refine aw_region ?_
                refine ao_read trivial (r_move rfl) rfl ?_
                refine ao_read trivial (r_move rfl) rfl ?_
                refine ao_readG (x := .v (.arr 2 (.int .i64)) r19.1) rfl (GV.T rfl) (fun hg549 => r_load_arr rfl Try.isAgg29 Try.sizeOf29 rfl rfl rfl) rfl ?_
                refine ao_readG (x := .int .i64 s539) rfl (GV.T rfl) (fun hg550 => r_move rfl) rfl ?_
                refine ao_readG (x := .v (.arr 2 (.int .i64)) ([s539, 1] : (List Int))) rfl (GV.T rfl) (fun hg551 => Reads.strip 350 rfl (hg551) (r_build_arr (l := [(0, .tmp 350), (1, .const (.int .i64 1))]) (t := (.int .i64)) ([s539, 1] : (List Int)) rfl Try.underlying29 Try.zeroValue29 Try.sizeOf3 rfl rfl rfl rfl)) rfl ?_
                refine ao_scallG (r := .bool (p_laws_vLess r19.1 [s539, 1])) rfl (GV.T rfl) (fun hg552 => SCall.strip 349 rfl (hg552) (SCall.strip 351 rfl (hg552) (scall (c_laws_vLess (is_mk (rfl : p_laws_vLess r19.1 [s539, 1] = _))) rfl Try.func22 rfl rfl rfl rfl (fun σ => ⟨ad_ren rfl, ad_ren rfl, trivial⟩)))) rfl ?_
                refine ao_readG (x := .bool (!(p_laws_vLess r19.1 [s539, 1]))) rfl (GV.T rfl) (fun hg553 => Reads.strip 352 rfl (hg553) (r_not rfl)) rfl ?_
                refine ao_read trivial (r_andB rfl rfl) rfl ?_
                refine ao_read trivial (r_assign rfl) rfl ?_
                refine ao_nil ?_
                refine aq_then ?_
                refine aw_ret ?_
                refine aq_then_ret ?_
                refine aq_ret ?_
                obtain rfl := is_some h
                exact aq_finx (l := [.tmp 2]) (xs := [.bool (r538.2 && (!(p_laws_vLess r19.1 [s539, 1])))]) idn [.bool (r538.2 && (!(p_laws_vLess r19.1 [s539, 1])))] [] rfl (by exact ⟨rfl, trivial⟩) (by exact ⟨ad_ren rfl, trivial⟩) (by exact trivial) rfl (nk rfl) rfl rfl ⟨rfl, rfl⟩
            · replace h := is_else (ne_t hb537) h
              refine aw_skip ?_
              refine aq_then ?_
              refine aw_seq ?_
              refine aw_region ?_
              refine ao_read trivial (r_assign rfl) rfl ?_
              refine ao_nil ?_
              refine aq_then ?_
              refine aw_ret ?_
              refine aq_ret ?_
              obtain rfl := is_some h
              exact aq_finx (l := [.tmp 2]) (xs := [.bool true]) idn [.bool true] [] rfl (by exact ⟨rfl, trivial⟩) (by exact ⟨ad_ren rfl, trivial⟩) (by exact trivial) rfl (nk rfl) rfl rfl ⟨rfl, rfl⟩
          · refine aw_seq ?_
            refine aw_region ?_
            refine ao_read trivial (r_move rfl) rfl ?_
            refine ao_read trivial (r_move rfl) rfl ?_
            refine ao_readG (x := .int .i64 r16.2) rfl (GV.T rfl) (fun hg554 => r_move rfl) rfl ?_
            refine ao_readG (x := .bool (decide (r16.2 < 12))) rfl (GV.T rfl) (fun hg555 => Reads.strip 314 rfl (hg555) (r_lss rfl rfl)) rfl ?_
            refine ao_read trivial (r_andB rfl rfl) rfl ?_
            refine ao_nil ?_
            refine aq_then ?_
            refine aw_cond rfl (fun hb556 => ?_) (fun hb556 => ?_)
            · obtain ⟨q557, q558⟩ := and_t hb556
              have q559 := d_t q558
              replace h := is_if hb556 h
              refine aw_seq ?_
              refine aw_region ?_
              refine ao_read trivial (r_load_arr rfl Try.isAgg47 Try.sizeOf47 rfl rfl rfl) rfl ?_
              refine ao_read trivial (r_move rfl) rfl ?_
              refine ao_read trivial (r_add rfl rfl) rfl ?_
              obtain ⟨r560, r560h, h⟩ := is_bind h
              refine ao_scall trivial (scall (c_impl_ChanceAll (is_mk r560h)) rfl Try.func37 rfl rfl rfl rfl (fun σ => ⟨ad_ren rfl, ad_ren rfl, trivial⟩)) rfl ?_
              refine ao_read trivial (r_move rfl) rfl ?_
              refine ao_read trivial (r_extract rfl rfl) rfl ?_
              refine ao_read trivial (r_extract rfl rfl) rfl ?_
              refine ao_eff trivial (e_alloc 3 (y := .v (.arr 2 (.int .i64)) ((List.replicate 2 0) : (List Int))) Try.zeroValue29 (fun ρ h M => ra_zero_arr (t := (.int .i64)) rfl) rfl rfl rfl rfl rfl) rfl ?_
              refine ao_effS trivial (e_store rfl rfl rfl rfl Try.sizeOf29 rfl) ?_
              refine ao_read trivial (r_assign rfl) rfl ?_
              refine ao_nil ?_
              refine aq_then ?_
              refine aw_seq ?_
              refine aw_region ?_
              refine ao_read trivial (r_move rfl) rfl ?_
              refine ao_read trivial (r_not rfl) rfl ?_
              refine ao_read trivial (r_move rfl) rfl ?_
              refine ao_readG (x := .v (.arr 2 (.int .i64)) r560.1) rfl (GV.F rfl) (fun hg561 => r_load_arr rfl Try.isAgg29 Try.sizeOf29 rfl rfl rfl) rfl ?_
              refine ao_readG (x := .v (.arr 2 (.int .i64)) r17.1) rfl (GV.F rfl) (fun hg562 => r_load_arr rfl Try.isAgg29 Try.sizeOf29 rfl rfl rfl) rfl ?_
              refine ao_scallG (r := .bool (p_laws_vLess r560.1 r17.1)) rfl (GV.F rfl) (fun hg563 => SCall.strip 327 rfl (hg563) (SCall.strip 328 rfl (hg563) (scall (c_laws_vLess (is_mk (rfl : p_laws_vLess r560.1 r17.1 = _))) rfl Try.func22 rfl rfl rfl rfl (fun σ => ⟨ad_ren rfl, ad_ren rfl, trivial⟩)))) rfl ?_
              refine ao_read trivial (r_orB rfl rfl) rfl ?_
              refine ao_nil ?_
              refine aq_then ?_
              refine aw_cond rfl (fun hb564 => ?_) (fun hb564 => ?_)
              · replace h := is_if hb564 h
                refine aw_seq ?_
                refine aw_region ?_
                refine ao_read trivial (r_assign rfl) rfl ?_
                refine ao_nil ?_
                refine aq_then ?_
                refine aw_ret ?_
                refine aq_then_ret ?_
                refine aq_ret ?_
                obtain rfl := is_some h
                exact aq_finx (l := [.tmp 2]) (xs := [.bool false]) idn [.bool false] [] rfl (by exact ⟨rfl, trivial⟩) (by exact ⟨ad_ren rfl, trivial⟩) (by exact trivial) rfl (nk rfl) rfl rfl ⟨rfl, rfl⟩
              · obtain ⟨q565, q566⟩ := or_f hb564
                replace h := is_else (ne_t hb564) h
                refine aw_skip ?_
                exact aq_then (AW.sub (sub_mk (rn [(1, 2)]) (by exact ⟨ai rfl, ai rfl, ai rfl, trivial⟩) (by exact ⟨⟨_, rfl, ⟨rfl, trivial⟩⟩, ⟨_, rfl, ⟨rfl, trivial⟩⟩, trivial⟩) (by rfl) (nk rfl)) (j536 () trivial h))
            · replace h := is_else (ne_t hb556) h
              refine aw_skip ?_
              exact aq_then (AW.sub (sub_mk (rn [(1, 2)]) (by exact ⟨ai rfl, ai rfl, ai rfl, trivial⟩) (by exact ⟨⟨_, rfl, ⟨rfl, trivial⟩⟩, ⟨_, rfl, ⟨rfl, trivial⟩⟩, trivial⟩) (by rfl) (nk rfl)) (j536 () trivial h))
        · refine aw_seq ?_
          refine aw_region ?_
          refine ao_read trivial (r_move rfl) rfl ?_
          refine ao_nil ?_
          refine aq_then ?_
          refine aw_cond rfl (fun hb567 => ?_) (fun hb567 => ?_)
          · replace h := is_if hb567 h
            refine aw_seq ?_
            refine aw_seq ?_
            refine aw_region ?_
            refine ao_read trivial (r_build_arr (l := [(0, .const (.int .i64 1)), (1, .const (.int .i64 1))]) (t := (.int .i64)) ([1, 1] : (List Int)) rfl Try.underlying29 Try.zeroValue29 Try.sizeOf3 rfl rfl rfl rfl) rfl ?_
            refine ao_read trivial (r_load_arr rfl Try.isAgg29 Try.sizeOf29 rfl rfl rfl) rfl ?_
            refine ao_scall trivial (scall (c_laws_vLess (is_mk (rfl : p_laws_vLess [1, 1] r10.1 = _))) rfl Try.func22 rfl rfl rfl rfl (fun σ => ⟨ad_ren rfl, ad_ren rfl, trivial⟩)) rfl ?_
            refine ao_read trivial (r_move rfl) rfl ?_
            refine ao_readG (x := .bool r12.2) rfl (GV.F rfl) (fun hg568 => r_move rfl) rfl ?_
            refine ao_readG (x := .bool r12.2) rfl (GV.F rfl) (fun hg569 => Reads.strip 260 rfl (hg569) (r_move rfl)) rfl ?_
            refine ao_readG (x := .int .i64 r9.2.2) rfl (GV.gT rfl) (fun hg570 => by
                  obtain ⟨q571, q572⟩ := and_t hg570
                  exact r_move rfl) rfl ?_
            refine ao_readG (x := .bool (decide (0 < r9.2.2))) rfl (GV.gT rfl) (fun hg573 => by
                  obtain ⟨q574, q575⟩ := and_t hg573
                  exact Reads.strip 262 rfl (hg573) (r_gtr rfl rfl)) rfl ?_
            refine ao_readG (x := .bool (r12.2 && (decide (0 < r9.2.2)))) rfl (GV.F rfl) (fun hg576 => Reads.strip 261 rfl (hg576) (r_andBg rfl rfl (tr_and (hg576)))) rfl ?_
            refine ao_readG (x := .bool (r12.2 && (decide (0 < r9.2.2)))) rfl (GV.F rfl) (fun hg577 => Reads.strip 264 rfl (hg577) (r_move rfl)) rfl ?_
            refine ao_readG (x := .elem 1 0 1 0) rfl (GV.gT rfl) (fun hg578 => by
                  obtain ⟨q579, q580⟩ := and_t hg578
                  obtain ⟨q581, q582⟩ := and_t q580
                  have q583 := d_t q582
                  exact r_idxAddr_arr (i := 0) Try.underlying29 Try.sizeOf3 rfl rfl (show 0 ≤ 0 from by omega) (show 0 < (2 : Int) from by omega)) rfl ?_
            refine ao_readG (x := .int .i64 (r10.1.getD 0 0)) rfl (GV.gT rfl) (fun hg584 => by
                  obtain ⟨q585, q586⟩ := and_t hg584
                  obtain ⟨q587, q588⟩ := and_t q586
                  have q589 := d_t q588
                  exact Reads.strip 266 rfl (hg584) (r_load_elema_int Try.isAgg3 Try.sizeOf3 rfl rfl rfl (show 0 < 2 from by omega))) rfl ?_
            refine ao_readG (x := .bool (decide ((r10.1.getD 0 0) = 0))) rfl (GV.gT rfl) (fun hg590 => by
                  obtain ⟨q591, q592⟩ := and_t hg590
                  obtain ⟨q593, q594⟩ := and_t q592
                  have q595 := d_t q594
                  exact Reads.strip 267 rfl (hg590) (r_eql rfl rfl)) rfl ?_
            refine ao_readG (x := .bool ((r12.2 && (decide (0 < r9.2.2))) && (decide ((r10.1.getD 0 0) = 0)))) rfl (GV.F rfl) (fun hg596 => Reads.strip 265 rfl (hg596) (r_andBg rfl rfl (tr_and (hg596)))) rfl ?_
            refine ao_read trivial (r_orB rfl rfl) rfl ?_
            refine ao_read trivial (r_move rfl) rfl ?_
            refine ao_readG (x := .bool r12.2) rfl (GV.F rfl) (fun hg597 => by
                  obtain ⟨q598, q599⟩ := or_f (not_t hg597)
                  exact r_move rfl) rfl ?_
            refine ao_readG (x := .bool (!r12.2)) rfl (GV.F rfl) (fun hg600 => by
                  obtain ⟨q601, q602⟩ := or_f (not_t hg600)
                  exact Reads.strip 272 rfl (hg600) (r_not rfl)) rfl ?_
            refine ao_readG (x := .bool (!r12.2)) rfl (GV.F rfl) (fun hg603 => by
                  obtain ⟨q604, q605⟩ := or_f (not_t hg603)
                  exact Reads.strip 273 rfl (hg603) (r_move rfl)) rfl ?_
            refine ao_readG (x := .elem 1 0 1 0) rfl (GV.gT rfl) (fun hg606 => by
                  obtain ⟨q607, q608⟩ := and_t hg606
                  obtain ⟨q609, q610⟩ := or_f (not_t q607)
                  exact r_idxAddr_arr (i := 0) Try.underlying29 Try.sizeOf3 rfl rfl (show 0 ≤ 0 from by omega) (show 0 < (2 : Int) from by omega)) rfl ?_
            refine ao_readG (x := .int .i64 (r10.1.getD 0 0)) rfl (GV.gT rfl) (fun hg611 => by
                  obtain ⟨q612, q613⟩ := and_t hg611
                  obtain ⟨q614, q615⟩ := or_f (not_t q612)
                  exact Reads.strip 275 rfl (hg611) (r_load_elema_int Try.isAgg3 Try.sizeOf3 rfl rfl rfl (show 0 < 2 from by omega))) rfl ?_
            refine ao_readG (x := .bool (decide (0 < (r10.1.getD 0 0)))) rfl (GV.gT rfl) (fun hg616 => by
                  obtain ⟨q617, q618⟩ := and_t hg616
                  obtain ⟨q619, q620⟩ := or_f (not_t q617)
                  exact Reads.strip 276 rfl (hg616) (r_gtr rfl rfl)) rfl ?_
            refine ao_readG (x := .bool ((!r12.2) && (decide (0 < (r10.1.getD 0 0))))) rfl (GV.F rfl) (fun hg621 => by
                  obtain ⟨q622, q623⟩ := or_f (not_t hg621)
                  exact Reads.strip 274 rfl (hg621) (r_andBg rfl rfl (tr_and (hg621)))) rfl ?_
            refine ao_read trivial (r_orB rfl rfl) rfl ?_
            refine ao_nil ?_
            refine aq_then ?_
            refine aw_cond rfl (fun hb624 => ?_) (fun hb624 => ?_)
            · replace h := is_if hb624 h
              refine aw_seq ?_
              refine aw_region ?_
              refine ao_read trivial (r_assign rfl) rfl ?_
              refine ao_nil ?_
              refine aq_then ?_
              refine aw_ret ?_
              refine aq_then_ret ?_
              refine aq_then_ret ?_
              refine aq_ret ?_
              obtain rfl := is_some h
              exact aq_finx (l := [.tmp 2]) (xs := [.bool false]) idn [.bool false] [] rfl (by exact ⟨rfl, trivial⟩) (by exact ⟨ad_ren rfl, trivial⟩) (by exact trivial) rfl (nk rfl) rfl rfl ⟨rfl, rfl⟩
            · obtain ⟨q625, q626⟩ := or_f hb624
              obtain ⟨q627, q628⟩ := or_f q625
              replace h := is_else (ne_t hb624) h
              refine aw_skip ?_
              refine aq_then ?_
              refine aw_seq ?_
              refine aw_region ?_
              refine ao_read trivial (r_move rfl) rfl ?_
              refine ao_nil ?_
              refine aq_then ?_
              refine aw_cond rfl (fun hb629 => ?_) (fun hb629 => ?_)
              · replace h := is_if hb629 h
                refine aw_seq ?_
                refine aw_region ?_
                refine ao_read trivial (r_load_arr rfl Try.isAgg47 Try.sizeOf47 rfl rfl rfl) rfl ?_
                refine ao_read trivial (r_move rfl) rfl ?_
                refine ao_eff trivial (e_buildSlice (l := [(0, .tmp 283)]) (t := (.int .i64)) 6 ([r9.2.1] : (List Int)) rfl Try.underlying32 Try.zeroValue3 Try.sizeOf3 rfl rfl rfl rfl rfl rfl rfl) rfl ?_
                refine ao_read trivial (r_move rfl) rfl ?_
                obtain ⟨r630, r630h, h⟩ := is_bind h
                refine ao_scall trivial (scall (c_impl_PhraseWithin (is_mk r630h)) rfl Try.func43 rfl rfl rfl rfl (fun σ => ⟨ad_ren rfl, ad_os0 rfl, ad_ren rfl, trivial⟩)) rfl ?_
                refine ao_read trivial (r_move rfl) rfl ?_
                refine ao_read trivial (r_extract rfl rfl) rfl ?_
                refine ao_read trivial (r_extract rfl rfl) rfl ?_
                refine ao_eff trivial (e_alloc 7 (y := .v (.arr 2 (.int .i64)) ((List.replicate 2 0) : (List Int))) Try.zeroValue29 (fun ρ h M => ra_zero_arr (t := (.int .i64)) rfl) rfl rfl rfl rfl rfl) rfl ?_
                refine ao_effS trivial (e_store rfl rfl rfl rfl Try.sizeOf29 rfl) ?_
                refine ao_read trivial (r_assign rfl) rfl ?_
                refine ao_nil ?_
                refine aq_then ?_
                refine aw_seq ?_
                refine aw_region ?_
                refine ao_read trivial (r_load_arr rfl Try.isAgg47 Try.sizeOf47 rfl rfl rfl) rfl ?_
                refine ao_read trivial (r_move rfl) rfl ?_
                refine ao_eff trivial (e_buildSlice (l := [(0, .tmp 291)]) (t := (.int .i64)) 8 ([r9.2.1] : (List Int)) rfl Try.underlying32 Try.zeroValue3 Try.sizeOf3 rfl rfl rfl rfl rfl rfl rfl) rfl ?_
                obtain ⟨r631, r631h, h⟩ := is_bind h
                refine ao_scall trivial (scall (c_impl_PhraseWait (is_mk r631h)) rfl Try.func44 rfl rfl rfl rfl (fun σ => ⟨ad_ren rfl, ad_os0 rfl, trivial⟩)) rfl ?_
                refine ao_read trivial (r_move rfl) rfl ?_
                refine ao_read trivial (r_extract rfl rfl) rfl ?_
                refine ao_read trivial (r_extract rfl rfl) rfl ?_
                refine ao_eff trivial (e_alloc 9 (y := .v (.arr 2 (.int .i64)) ((List.replicate 2 0) : (List Int))) Try.zeroValue29 (fun ρ h M => ra_zero_arr (t := (.int .i64)) rfl) rfl rfl rfl rfl rfl) rfl ?_
                refine ao_effS trivial (e_store rfl rfl rfl rfl Try.sizeOf29 rfl) ?_
                refine ao_read trivial (r_assign rfl) rfl ?_
                refine ao_nil ?_
                refine aq_then ?_
                refine aw_seq ?_
                refine aw_region ?_
                refine ao_read trivial (r_move rfl) rfl ?_
                refine ao_read trivial (r_not rfl) rfl ?_
                refine ao_read trivial (r_move rfl) rfl ?_
                refine ao_readG (x := .bool r631.2) rfl (GV.F rfl) (fun hg632 => r_move rfl) rfl ?_
                refine ao_readG (x := .bool (!r631.2)) rfl (GV.F rfl) (fun hg633 => Reads.strip 299 rfl (hg633) (r_not rfl)) rfl ?_
                refine ao_read trivial (r_orB rfl rfl) rfl ?_
                refine ao_read trivial (r_move rfl) rfl ?_
                refine ao_readG (x := .v (.arr 2 (.int .i64)) r630.1) rfl (GV.F rfl) (fun hg634 => by
                      obtain ⟨q635, q636⟩ := or_f (not_t hg634)
                      exact r_load_arr rfl Try.isAgg29 Try.sizeOf29 rfl rfl rfl) rfl ?_
                refine ao_readG (x := .v (.arr 2 (.int .i64)) r10.1) rfl (GV.F rfl) (fun hg637 => by
                      obtain ⟨q638, q639⟩ := or_f (not_t hg637)
                      exact r_load_arr rfl Try.isAgg29 Try.sizeOf29 rfl rfl rfl) rfl ?_
                refine ao_readG (x := .bool (!(decide (r630.1 = r10.1)))) rfl (GV.F rfl) (fun hg640 => by
                      obtain ⟨q641, q642⟩ := or_f (not_t hg640)
                      exact Reads.strip 303 rfl (hg640) (Reads.strip 304 rfl (hg640) (r_eq_ints Try.underlying29 Try.underlying3 Try.isAgg3 (info_size Try.sizeOf3) (by kernel_rfl) rfl rfl rfl))) rfl ?_
                refine ao_read trivial (r_orB rfl rfl) rfl ?_
                refine ao_read trivial (r_move rfl) rfl ?_
                refine ao_readG (x := .v (.arr 2 (.int .i64)) r631.1) rfl (GV.F rfl) (fun hg643 => by
                      obtain ⟨q644, q645⟩ := or_f (not_t hg643)
                      obtain ⟨q646, q647⟩ := or_f q644
                      exact r_load_arr rfl Try.isAgg29 Try.sizeOf29 rfl rfl rfl) rfl ?_
                refine ao_readG (x := .v (.arr 2 (.int .i64)) r12.1) rfl (GV.F rfl) (fun hg648 => by
                      obtain ⟨q649, q650⟩ := or_f (not_t hg648)
                      obtain ⟨q651, q652⟩ := or_f q649
                      exact r_load_arr rfl Try.isAgg29 Try.sizeOf29 rfl rfl rfl) rfl ?_
                refine ao_readG (x := .bool (!(decide (r631.1 = r12.1)))) rfl (GV.F rfl) (fun hg653 => by
                      obtain ⟨q654, q655⟩ := or_f (not_t hg653)
                      obtain ⟨q656, q657⟩ := or_f q654
                      exact Reads.strip 308 rfl (hg653) (Reads.strip 309 rfl (hg653) (r_eq_ints Try.underlying29 Try.underlying3 Try.isAgg3 (info_size Try.sizeOf3) (by kernel_rfl) rfl rfl rfl))) rfl ?_
                refine ao_read trivial (r_orB rfl rfl) rfl ?_
                refine ao_nil ?_
                refine aq_then ?_
                refine aw_cond rfl (fun hb658 => ?_) (fun hb658 => ?_)
                · replace h := is_if hb658 h
                  refine aw_seq ?_
                  refine aw_region ?_
                  refine ao_read trivial (r_assign rfl) rfl ?_
                  refine ao_nil ?_
                  refine aq_then ?_
                  refine aw_ret ?_
                  refine aq_then_ret ?_
                  refine aq_ret ?_
                  obtain rfl := is_some h
                  exact aq_finx (l := [.tmp 2]) (xs := [.bool false]) idn [.bool false] [] rfl (by exact ⟨rfl, trivial⟩) (by exact ⟨ad_ren rfl, trivial⟩) (by exact trivial) rfl (nk rfl) rfl rfl ⟨rfl, rfl⟩
                · obtain ⟨q659, q660⟩ := or_f hb658
                  obtain ⟨q661, q662⟩ := or_f q659
                  obtain ⟨q663, q664⟩ := or_f q661
                  replace h := is_else (ne_t hb658) h
                  refine aw_skip ?_
                  exact aq_then (AW.sub (sub_mk (rn [(0, 3), (1, 4), (2, 5)]) (by exact ⟨ai rfl, ai rfl, ai rfl, ai rfl, ai rfl, ai rfl, trivial⟩) (by exact ⟨⟨_, rfl, ⟨rfl, trivial⟩⟩, ⟨_, rfl, ⟨rfl, trivial⟩⟩, ⟨_, rfl, ⟨rfl, trivial⟩⟩, trivial⟩) (by rfl) (nk rfl)) (j533 () trivial h))
              · replace h := is_else (ne_t hb629) h
                refine aw_skip ?_
                exact aq_then (AW.sub (sub_mk (rn [(0, 3), (1, 4), (2, 5)]) (by exact ⟨ai rfl, ai rfl, ai rfl, ai rfl, ai rfl, ai rfl, trivial⟩) (by exact ⟨⟨_, rfl, ⟨rfl, trivial⟩⟩, ⟨_, rfl, ⟨rfl, trivial⟩⟩, ⟨_, rfl, ⟨rfl, trivial⟩⟩, trivial⟩) (by rfl) (nk rfl)) (j533 () trivial h))
          · replace h := is_else (ne_t hb567) h
            refine aw_skip ?_
            exact aq_then (AW.sub (sub_mk (rn [(0, 3), (1, 4), (2, 5)]) (by exact ⟨ai rfl, ai rfl, ai rfl, ai rfl, ai rfl, ai rfl, trivial⟩) (by exact ⟨⟨_, rfl, ⟨rfl, trivial⟩⟩, ⟨_, rfl, ⟨rfl, trivial⟩⟩, ⟨_, rfl, ⟨rfl, trivial⟩⟩, trivial⟩) (by rfl) (nk rfl)) (j533 () trivial h))
      · refine aw_seq ?_
        refine aw_region ?_
        refine ao_read trivial (r_move rfl) rfl ?_
        refine ao_nil ?_
        refine aq_then ?_
        refine aw_cond rfl (fun hb665 => ?_) (fun hb665 => ?_)
        · replace h := is_if hb665 h
          refine aw_seq ?_
          refine aw_region ?_
          refine ao_read trivial (r_assign rfl) rfl ?_
          refine ao_read trivial (r_assign rfl) rfl ?_
          refine ao_nil ?_
          refine aq_then ?_
          refine aw_seq ?_
          refine aw_seq ?_
          refine aw_region ?_
          refine ao_read trivial (r_assign rfl) rfl ?_
          refine ao_nil ?_
          refine aq_then ?_
          refine aw_block ?_
          refine aw_loop (AL.sub (fr' := [(3, .ref 0 0), (4, .int .i64 r2.2), (5, .ref 1 0), (9, .ref 2 0), (10, .bool r5.2), (13, .ref 3 0), (14, .int .i64 r9.2.1), (15, .int .i64 r9.2.2), (16, .ref 4 0), (17, .bool r10.2), (20, .ref 5 0), (21, .bool r12.2), (24, .ref 6 0), (25, .int .i64 r16.2), (26, .ref 7 0), (27, .bool r17.2), (30, .ref 8 0), (31, .bool r19.2), (34, .int .i64 0), (35, .int .i64 0), (36, .int .i64 0)]) (H' := [(0, .var [.arr (.int .i64) 6 r2.1]), (1, .var [.arr (.int .i64) 121 r3.1]), (2, .var [.arr (.int .i64) 2 r5.1]), (3, .var [.arr (.int .i64) 6 r9.1]), (4, .var [.arr (.int .i64) 2 r10.1]), (5, .var [.arr (.int .i64) 2 r12.1]), (6, .var [.arr (.int .i64) 6 r16.1]), (7, .var [.arr (.int .i64) 2 r17.1]), (8, .var [.arr (.int .i64) 2 r19.1])]) (sub_mk (rn [(2, 3), (3, 6), (4, 7), (5, 9), (6, 12), (7, 13), (8, 15)]) (by exact ⟨ai rfl, ai rfl, ai rfl, ai rfl, ai rfl, ai rfl, ai rfl, ai rfl, ai rfl, ai rfl, ai rfl, ai rfl, ai rfl, ai rfl, ai rfl, ai rfl, ai rfl, ai rfl, ai rfl, ai rfl, ai rfl, trivial⟩) (by exact ⟨⟨_, rfl, ⟨rfl, trivial⟩⟩, ⟨_, rfl, ⟨rfl, trivial⟩⟩, ⟨_, rfl, ⟨rfl, trivial⟩⟩, ⟨_, rfl, ⟨rfl, trivial⟩⟩, ⟨_, rfl, ⟨rfl, trivial⟩⟩, ⟨_, rfl, ⟨rfl, trivial⟩⟩, ⟨_, rfl, ⟨rfl, trivial⟩⟩, ⟨_, rfl, ⟨rfl, trivial⟩⟩, ⟨_, rfl, ⟨rfl, trivial⟩⟩, trivial⟩) (by rfl) (nk rfl)) (al_cnt (fun i667 (s666 : Int × Int) => [(3, .ref 0 0), (4, .int .i64 r2.2), (5, .ref 1 0), (9, .ref 2 0), (10, .bool r5.2), (13, .ref 3 0), (14, .int .i64 r9.2.1), (15, .int .i64 r9.2.2), (16, .ref 4 0), (17, .bool r10.2), (20, .ref 5 0), (21, .bool r12.2), (24, .ref 6 0), (25, .int .i64 r16.2), (26, .ref 7 0), (27, .bool r17.2), (30, .ref 8 0), (31, .bool r19.2), (34, .int .i64 s666.1), (35, .int .i64 s666.2), (36, .int .i64 i667)]) (fun i667 (s666 : Int × Int) => [(0, .var [.arr (.int .i64) 6 r2.1]), (1, .var [.arr (.int .i64) 121 r3.1]), (2, .var [.arr (.int .i64) 2 r5.1]), (3, .var [.arr (.int .i64) 6 r9.1]), (4, .var [.arr (.int .i64) 2 r10.1]), (5, .var [.arr (.int .i64) 2 r12.1]), (6, .var [.arr (.int .i64) 6 r16.1]), (7, .var [.arr (.int .i64) 2 r17.1]), (8, .var [.arr (.int .i64) 2 r19.1])]) (fun d i667 (s666 : Int × Int) => d = Int.toNat (121 - i667) ∧ 0 ≤ i667 ∧ i667 ≤ 121) h ⟨rfl, (by (try simp only [List.length_set, List.length_append, List.length_cons, List.length_nil, List.length_replicate, List.length_take, List.length_drop]) <;> omega), (by (try simp only [List.length_set, List.length_append, List.length_cons, List.length_nil, List.length_replicate, List.length_take, List.length_drop]) <;> omega)⟩ (fun d668 i667 s666 hI h ih668 => ?_)))
          obtain ⟨hd, _, _⟩ := hI
          refine al_round ?_
          refine aw_seq ?_
          refine aw_seq ?_
          refine aw_region ?_
          refine ao_read trivial (r_move rfl) rfl ?_
          refine ao_read trivial (r_lss rfl rfl) rfl ?_
          refine ao_nil ?_
          refine aq_then ?_
          refine aw_cond rfl (fun hb670 => ?_) (fun hb670 => ?_)
          · have q671 := d_t hb670
            obtain ⟨d668, rfl⟩ : ∃ e, d668 = e + 1 := ⟨d668 - 1, by omega⟩
            replace h := is_cntS h
            refine aw_skip ?_
            refine aq_then ?_
            refine aw_seq ?_
            refine aw_block ?_
            refine aw_seq ?_
            refine aw_region ?_
            refine ao_read trivial (r_move rfl) rfl ?_
            refine ao_read trivial (r_move rfl) rfl ?_
            refine ao_read trivial (r_idxAddr_arr (i := i667) Try.underlying50 Try.sizeOf3 rfl rfl (show 0 ≤ i667 from by omega) (show i667 < (121 : Int) from by omega)) rfl ?_
            refine ao_read trivial (r_load_elema_int Try.isAgg3 Try.sizeOf3 rfl rfl rfl (show i667.toNat < 121 from by omega)) rfl ?_
            refine ao_read trivial (r_add rfl rfl) rfl ?_
            refine ao_read trivial (r_assign rfl) rfl ?_
            refine ao_nil ?_
            refine aq_then ?_
            refine aw_region ?_
            refine ao_read trivial (r_move rfl) rfl ?_
            refine ao_read trivial (r_move rfl) rfl ?_
            refine ao_read trivial (r_move rfl) rfl ?_
            refine ao_read trivial (r_idxAddr_arr (i := i667) Try.underlying50 Try.sizeOf3 rfl rfl (show 0 ≤ i667 from by omega) (show i667 < (121 : Int) from by omega)) rfl ?_
            refine ao_read trivial (r_load_elema_int Try.isAgg3 Try.sizeOf3 rfl rfl rfl (show i667.toNat < 121 from by omega)) rfl ?_
            refine ao_read trivial (r_mul rfl rfl) rfl ?_
            refine ao_read trivial (r_add rfl rfl) rfl ?_
            refine ao_read trivial (r_assign rfl) rfl ?_
            refine ao_nil ?_
            refine aq_in ?_
            refine aq_then ?_
            refine aw_region ?_
            refine ao_read trivial (r_move rfl) rfl ?_
            refine ao_read trivial (r_addI rfl rfl (wrap_id (by omega) (by omega))) rfl ?_
            refine ao_read trivial (r_assign rfl) rfl ?_
            refine ao_nil ?_
            exact aq_again (AL.sub (sub_mk idn (by exact ⟨ai rfl, ai rfl, ai rfl, ai rfl, ai rfl, ai rfl, ai rfl, ai rfl, ai rfl, ai rfl, ai rfl, ai rfl, ai rfl, ai rfl, ai rfl, ai rfl, ai rfl, ai rfl, ai rfl, ai rfl, ai rfl, trivial⟩) (by exact ⟨⟨_, rfl, ⟨rfl, trivial⟩⟩, ⟨_, rfl, ⟨rfl, trivial⟩⟩, ⟨_, rfl, ⟨rfl, trivial⟩⟩, ⟨_, rfl, ⟨rfl, trivial⟩⟩, ⟨_, rfl, ⟨rfl, trivial⟩⟩, ⟨_, rfl, ⟨rfl, trivial⟩⟩, ⟨_, rfl, ⟨rfl, trivial⟩⟩, ⟨_, rfl, ⟨rfl, trivial⟩⟩, ⟨_, rfl, ⟨rfl, trivial⟩⟩, trivial⟩) (by rfl) (nk rfl)) (ih668 d668 (i667 + 1) ((IntKind.wrap .i64 (s666.1 + (r3.1.getD i667.toNat 0))), (IntKind.wrap .i64 (s666.2 + (IntKind.wrap .i64 (i667 * (r3.1.getD i667.toNat 0)))))) (by omega) ⟨by omega, (by (try simp only [List.length_set, List.length_append, List.length_cons, List.length_nil, List.length_replicate, List.length_take, List.length_drop]) <;> omega), (by (try simp only [List.length_set, List.length_append, List.length_cons, List.length_nil, List.length_replicate, List.length_take, List.length_drop]) <;> omega)⟩ h))
          · have q672 := d_f hb670
            obtain rfl : d668 = 0 := by omega
            replace h := is_cnt0 h
            refine aw_exit ?_
            refine aq_then_exit ?_
            refine aq_then_exit ?_
            refine aq_in_exit ?_
            refine aq_then ?_
            refine aw_seq ?_
            refine aw_seq ?_
            refine aw_region ?_
            refine ao_read trivial (r_move rfl) rfl ?_
            refine ao_read trivial (r_move rfl) rfl ?_
            refine ao_read trivial (r_add rfl rfl) rfl ?_
            obtain ⟨r673, r673h, h⟩ := is_bind h
            refine ao_scall trivial (scall (c_laws_vSix (is_mk r673h)) rfl Try.func41 rfl rfl rfl rfl (fun σ => ⟨ad_ren rfl, trivial⟩)) rfl ?_
            refine ao_read trivial (r_neq rfl rfl) rfl ?_
            refine ao_read trivial (r_move rfl) rfl ?_
            refine ao_readG (x := .bool r5.2) rfl (GV.F rfl) (fun hg674 => by
                  have q675 := d_t (not_f (not_t hg674))
                  exact r_move rfl) rfl ?_
            refine ao_readG (x := .bool r5.2) rfl (GV.F rfl) (fun hg676 => by
                  have q677 := d_t (not_f (not_t hg676))
                  exact Reads.strip 227 rfl (hg676) (r_move rfl)) rfl ?_
            refine ao_readG (x := .int .i64 s666.2) rfl (GV.gT rfl) (fun hg678 => by
                  obtain ⟨q679, q680⟩ := and_t hg678
                  have q681 := d_t (not_f (not_t q679))
                  exact r_move rfl) rfl ?_
            refine ao_readG (x := .elem 2 0 1 1) rfl (GV.gT rfl) (fun hg682 => by
                  obtain ⟨q683, q684⟩ := and_t hg682
                  have q685 := d_t (not_f (not_t q683))
                  exact r_idxAddr_arr (i := 1) Try.underlying29 Try.sizeOf3 rfl rfl (show 0 ≤ 1 from by omega) (show 1 < (2 : Int) from by omega)) rfl ?_
            refine ao_readG (x := .int .i64 (r5.1.getD 1 0)) rfl (GV.gT rfl) (fun hg686 => by
                  obtain ⟨q687, q688⟩ := and_t hg686
                  have q689 := d_t (not_f (not_t q687))
                  exact Reads.strip 230 rfl (hg686) (r_load_elema_int Try.isAgg3 Try.sizeOf3 rfl rfl rfl (show 1 < 2 from by omega))) rfl ?_
            refine ao_readG (x := .int .i64 (IntKind.wrap .i64 (s666.2 * (r5.1.getD 1 0)))) rfl (GV.gT rfl) (fun hg690 => by
                  obtain ⟨q691, q692⟩ := and_t hg690
                  have q693 := d_t (not_f (not_t q691))
                  exact Reads.strip 229 rfl (hg690) (Reads.strip 231 rfl (hg690) (r_mul rfl rfl))) rfl ?_
            refine ao_readG (x := .elem 2 0 1 0) rfl (GV.gT rfl) (fun hg694 => by
                  obtain ⟨q695, q696⟩ := and_t hg694
                  have q697 := d_t (not_f (not_t q695))
                  exact r_idxAddr_arr (i := 0) Try.underlying29 Try.sizeOf3 rfl rfl (show 0 ≤ 0 from by omega) (show 0 < (2 : Int) from by omega)) rfl ?_
            refine ao_readG (x := .int .i64 (r5.1.getD 0 0)) rfl (GV.gT rfl) (fun hg698 => by
                  obtain ⟨q699, q700⟩ := and_t hg698
                  have q701 := d_t (not_f (not_t q699))
                  exact Reads.strip 233 rfl (hg698) (r_load_elema_int Try.isAgg3 Try.sizeOf3 rfl rfl rfl (show 0 < 2 from by omega))) rfl ?_
            refine ao_readG (x := .int .i64 s666.1) rfl (GV.gT rfl) (fun hg702 => by
                  obtain ⟨q703, q704⟩ := and_t hg702
                  have q705 := d_t (not_f (not_t q703))
                  exact r_move rfl) rfl ?_
            refine ao_readG (x := .int .i64 (IntKind.wrap .i64 ((r5.1.getD 0 0) * s666.1))) rfl (GV.gT rfl) (fun hg706 => by
                  obtain ⟨q707, q708⟩ := and_t hg706
                  have q709 := d_t (not_f (not_t q707))
                  exact Reads.strip 234 rfl (hg706) (Reads.strip 235 rfl (hg706) (r_mul rfl rfl))) rfl ?_
            refine ao_readG (x := .bool (decide ((IntKind.wrap .i64 ((r5.1.getD 0 0) * s666.1)) < (IntKind.wrap .i64 (s666.2 * (r5.1.getD 1 0)))))) rfl (GV.gT rfl) (fun hg710 => by
                  obtain ⟨q711, q712⟩ := and_t hg710
                  have q713 := d_t (not_f (not_t q711))
                  exact Reads.strip 232 rfl (hg710) (Reads.strip 236 rfl (hg710) (r_gtr rfl rfl))) rfl ?_
            refine ao_readG (x := .bool (r5.2 && (decide ((IntKind.wrap .i64 ((r5.1.getD 0 0) * s666.1)) < (IntKind.wrap .i64 (s666.2 * (r5.1.getD 1 0))))))) rfl (GV.F rfl) (fun hg714 => by
                  have q715 := d_t (not_f (not_t hg714))
                  exact Reads.strip 228 rfl (hg714) (r_andBg rfl rfl (tr_and (hg714)))) rfl ?_
            refine ao_read trivial (r_orB rfl rfl) rfl ?_
            refine ao_nil ?_
            refine aq_then ?_
            refine aw_cond rfl (fun hb716 => ?_) (fun hb716 => ?_)
            · replace h := is_if hb716 h
              refine aw_seq ?_
              refine aw_region ?_
              refine ao_read trivial (r_assign rfl) rfl ?_
              refine ao_nil ?_
              refine aq_then ?_
              refine aw_ret ?_
              refine aq_then_ret ?_
              refine aq_then_ret ?_
              refine aq_ret ?_
              obtain rfl := is_some h
              exact aq_finx (l := [.tmp 2]) (xs := [.bool false]) idn [.bool false] [] rfl (by exact ⟨rfl, trivial⟩) (by exact ⟨ad_ren rfl, trivial⟩) (by exact trivial) rfl (nk rfl) rfl rfl ⟨rfl, rfl⟩
            · obtain ⟨q717, q718⟩ := or_f hb716
              have q719 := d_t (not_f q717)
              replace h := is_else (ne_t hb716) h
              refine aw_skip ?_
              refine aq_then ?_
              refine aw_seq ?_
              refine aw_region ?_
              refine ao_read trivial (r_move rfl) rfl ?_
              refine ao_read trivial (r_eql rfl rfl) rfl ?_
              refine ao_nil ?_
              refine aq_then ?_
              refine aw_cond rfl (fun hb720 => ?_) (fun hb720 => ?_)
              · have q721 := d_t hb720
                replace h := is_if (d_t hb720) h
                refine aw_seq ?_
                refine aw_region ?_
                refine ao_read trivial (r_load_arr rfl Try.isAgg47 Try.sizeOf47 rfl rfl rfl) rfl ?_
                refine ao_eff trivial (e_buildSlice (l := [(0, .tmp 243)]) (t := (.arr 6 (.int .i64))) 9 ([r2.1] : (List (List Int))) rfl Try.underlying24 Try.zeroValue47 Try.sizeOf47 rfl rfl rfl rfl rfl rfl rfl) rfl ?_
                obtain ⟨r723, r723h, h⟩ := is_bind h
                refine ao_scall trivial (scall (c_impl_SumTable (is_mk r723h)) rfl Try.func42 rfl rfl rfl rfl (fun σ => ⟨ad_os0 rfl, trivial⟩)) rfl ?_
                refine ao_read trivial (r_move rfl) rfl ?_
                refine ao_read trivial (r_extract rfl rfl) rfl ?_
                refine ao_read trivial (r_extract rfl rfl) rfl ?_
                refine ao_eff trivial (e_alloc 10 (y := .v (.arr 121 (.int .i64)) ((List.replicate 121 0) : (List Int))) Try.zeroValue50 (fun ρ h M => ra_zero_arr (t := (.int .i64)) rfl) rfl rfl rfl rfl rfl) rfl ?_
                refine ao_effS trivial (e_store rfl rfl rfl rfl Try.sizeOf50 rfl) ?_
                refine ao_read trivial (r_assign rfl) rfl ?_
                refine ao_nil ?_
                refine aq_then ?_
                refine aw_seq ?_
                refine aw_region ?_
                refine ao_read trivial (r_move rfl) rfl ?_
                refine ao_read trivial (r_not rfl) rfl ?_
                refine ao_read trivial (r_move rfl) rfl ?_
                refine ao_readG (x := .v (.arr 121 (.int .i64)) r723.1) rfl (GV.F rfl) (fun hg724 => r_load_arr rfl Try.isAgg50 Try.sizeOf50 rfl rfl rfl) rfl ?_
                refine ao_readG (x := .v (.arr 121 (.int .i64)) r3.1) rfl (GV.F rfl) (fun hg725 => r_load_arr rfl Try.isAgg50 Try.sizeOf50 rfl rfl rfl) rfl ?_
                refine ao_readG (x := .bool (!(decide (r723.1 = r3.1)))) rfl (GV.F rfl) (fun hg726 => Reads.strip 251 rfl (hg726) (Reads.strip 252 rfl (hg726) (r_eq_ints Try.underlying50 Try.underlying3 Try.isAgg3 (info_size Try.sizeOf3) (by kernel_rfl) rfl rfl rfl))) rfl ?_
                refine ao_read trivial (r_orB rfl rfl) rfl ?_
                refine ao_nil ?_
                refine aq_then ?_
                refine aw_cond rfl (fun hb727 => ?_) (fun hb727 => ?_)
                · replace h := is_if hb727 h
                  refine aw_seq ?_
                  refine aw_region ?_
                  refine ao_read trivial (r_assign rfl) rfl ?_
                  refine ao_nil ?_
                  refine aq_then ?_
                  refine aw_ret ?_
                  refine aq_then_ret ?_
                  refine aq_ret ?_
                  obtain rfl := is_some h
                  exact aq_finx (l := [.tmp 2]) (xs := [.bool false]) idn [.bool false] [] rfl (by exact ⟨rfl, trivial⟩) (by exact ⟨ad_ren rfl, trivial⟩) (by exact trivial) rfl (nk rfl) rfl rfl ⟨rfl, rfl⟩
                · obtain ⟨q728, q729⟩ := or_f hb727
                  replace h := is_else (ne_t hb727) h
                  refine aw_skip ?_
                  exact aq_then (AW.sub (sub_mk (rn [(0, 3), (1, 4), (2, 5), (3, 6), (4, 7), (5, 8)]) (by exact ⟨ai rfl, ai rfl, ai rfl, ai rfl, ai rfl, ai rfl, ai rfl, ai rfl, ai rfl, ai rfl, ai rfl, ai rfl, ai rfl, trivial⟩) (by exact ⟨⟨_, rfl, ⟨rfl, trivial⟩⟩, ⟨_, rfl, ⟨rfl, trivial⟩⟩, ⟨_, rfl, ⟨rfl, trivial⟩⟩, ⟨_, rfl, ⟨rfl, trivial⟩⟩, ⟨_, rfl, ⟨rfl, trivial⟩⟩, ⟨_, rfl, ⟨rfl, trivial⟩⟩, trivial⟩) (by rfl) (nk rfl)) (j530 () trivial h))
              · have q722 := d_f hb720
                replace h := is_else (d_f hb720) h
                refine aw_skip ?_
                exact aq_then (AW.sub (sub_mk (rn [(0, 3), (1, 4), (2, 5), (3, 6), (4, 7), (5, 8)]) (by exact ⟨ai rfl, ai rfl, ai rfl, ai rfl, ai rfl, ai rfl, ai rfl, ai rfl, ai rfl, ai rfl, ai rfl, ai rfl, ai rfl, trivial⟩) (by exact ⟨⟨_, rfl, ⟨rfl, trivial⟩⟩, ⟨_, rfl, ⟨rfl, trivial⟩⟩, ⟨_, rfl, ⟨rfl, trivial⟩⟩, ⟨_, rfl, ⟨rfl, trivial⟩⟩, ⟨_, rfl, ⟨rfl, trivial⟩⟩, ⟨_, rfl, ⟨rfl, trivial⟩⟩, trivial⟩) (by rfl) (nk rfl)) (j530 () trivial h))
        · replace h := is_else (ne_t hb665) h
          refine aw_skip ?_
          exact aq_then (AW.sub (sub_mk (rn [(0, 6), (1, 7), (2, 9), (3, 12), (4, 13), (5, 15)]) (by exact ⟨ai rfl, ai rfl, ai rfl, ai rfl, ai rfl, ai rfl, ai rfl, ai rfl, ai rfl, ai rfl, ai rfl, ai rfl, ai rfl, trivial⟩) (by exact ⟨⟨_, rfl, ⟨rfl, trivial⟩⟩, ⟨_, rfl, ⟨rfl, trivial⟩⟩, ⟨_, rfl, ⟨rfl, trivial⟩⟩, ⟨_, rfl, ⟨rfl, trivial⟩⟩, ⟨_, rfl, ⟨rfl, trivial⟩⟩, ⟨_, rfl, ⟨rfl, trivial⟩⟩, trivial⟩) (by rfl) (nk rfl)) (j530 () trivial h))
end Go.GA
