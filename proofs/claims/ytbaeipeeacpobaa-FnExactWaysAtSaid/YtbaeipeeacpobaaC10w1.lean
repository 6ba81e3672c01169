/- Walks: what the Go functions compute, by the printed lines below. -/
import Derived.Test.YtbaeipeeacpobaaC10wb
namespace Go.GA
open Go Go.Proofs
set_option maxRecDepth 100000
set_option maxHeartbeats 2000000
set_option linter.unusedVariables false
set_option linter.unusedSimpArgs false
theorem c_spec_WaysAt {fu : Nat} {x0 : (List (List Int))} {x1 : Int} {x2 : Int} {r : Int × Bool} (h : Is (p_spec_WaysAt fu x0 x1 x2) (some r)) :
    Scalar Try.prog 10 [.v (.slice (.arr 6 (.int .i64))) x0, .int .i64 x1, .int .i64 x2] (.tup [.int .i64 r.1, .bool r.2]) := by
  unfold p_spec_WaysAt at h
  refine ac_enter ⟨34, 0⟩ Try.func10 rfl rfl rfl rfl rfl (fun Γ => ?_)
  refine sl_len_m 0 (x0.length : Int) rfl rfl (fun hl0 => ?_)
  refine aw_seq ?_
  refine aw_region ?_
  refine ao_read trivial (r_assign rfl) rfl ?_
  refine ao_read trivial (r_assign rfl) rfl ?_
  refine ao_nil ?_
  refine aq_then ?_
  refine aw_seq ?_
  refine aw_seq ?_
  refine aw_region ?_
  refine ao_read trivial (r_move rfl) rfl ?_
  obtain ⟨r1, r1h, h⟩ := is_bind h
  refine ao_scall trivial (scall (c_spec_l2Pool (is_mk r1h)) rfl Try.func29 rfl rfl rfl rfl (fun σ => ⟨ad_ren rfl, trivial⟩)) rfl ?_
  refine ao_read trivial (r_not rfl) rfl ?_
  refine ao_read trivial (r_move rfl) rfl ?_
  refine ao_readG (x := .int .i64 x1) rfl (GV.F rfl) (fun hg2 => r_move rfl) rfl ?_
  refine ao_readG (x := .v (.slice (.arr 6 (.int .i64))) x0) rfl (GV.F rfl) (fun hg3 => r_move rfl) rfl ?_
  refine ao_readG (x := .int .i64 (x0.length : Int)) rfl (GV.F rfl) (fun hg4 => Reads.strip 13 rfl (hg4) (r_len_vm (x0.length : Int) Try.underlying22 rfl rfl)) rfl ?_
  refine ao_readG (x := .int .i64 ((x0.length : Int) - 1)) rfl (GV.F rfl) (fun hg5 => Reads.strip 14 rfl (hg5) (r_subI rfl rfl (wrap_id (by omega) (by omega)))) rfl ?_
  refine ao_scallG (r := .bool (p_spec_l1In x1 0 ((x0.length : Int) - 1))) rfl (GV.F rfl) (fun hg6 => SCall.strip 12 rfl (hg6) (SCall.strip 15 rfl (hg6) (scall (c_spec_l1In (is_mk (rfl : p_spec_l1In x1 0 ((x0.length : Int) - 1) = _))) rfl Try.func30 rfl rfl rfl rfl (fun σ => ⟨ad_ren rfl, ad_ren rfl, ad_ren rfl, trivial⟩)))) rfl ?_
  refine ao_readG (x := .bool (!(p_spec_l1In x1 0 ((x0.length : Int) - 1)))) rfl (GV.F rfl) (fun hg7 => Reads.strip 16 rfl (hg7) (r_not rfl)) rfl ?_
  refine ao_read trivial (r_orB rfl rfl) rfl ?_
  refine ao_read trivial (r_move rfl) rfl ?_
  refine ao_readG (x := .int .i64 x2) rfl (GV.F rfl) (fun hg8 => by
      obtain ⟨q9, q10⟩ := or_f (not_t hg8)
      exact r_move rfl) rfl ?_
  refine ao_readG (x := .v (.slice (.arr 6 (.int .i64))) x0) rfl (GV.F rfl) (fun hg11 => by
      obtain ⟨q12, q13⟩ := or_f (not_t hg11)
      exact r_move rfl) rfl ?_
  refine ao_readG (x := .int .i64 (x0.length : Int)) rfl (GV.F rfl) (fun hg14 => by
      obtain ⟨q15, q16⟩ := or_f (not_t hg14)
      exact Reads.strip 21 rfl (hg14) (r_len_vm (x0.length : Int) Try.underlying22 rfl rfl)) rfl ?_
  refine ao_readG (x := .int .i64 ((x0.length : Int) - 1)) rfl (GV.F rfl) (fun hg17 => by
      obtain ⟨q18, q19⟩ := or_f (not_t hg17)
      exact Reads.strip 22 rfl (hg17) (r_subI rfl rfl (wrap_id (by omega) (by omega)))) rfl ?_
  refine ao_scallG (r := .bool (p_spec_l1In x2 0 ((x0.length : Int) - 1))) rfl (GV.F rfl) (fun hg20 => by
      obtain ⟨q21, q22⟩ := or_f (not_t hg20)
      exact SCall.strip 20 rfl (hg20) (SCall.strip 23 rfl (hg20) (scall (c_spec_l1In (is_mk (rfl : p_spec_l1In x2 0 ((x0.length : Int) - 1) = _))) rfl Try.func30 rfl rfl rfl rfl (fun σ => ⟨ad_ren rfl, ad_ren rfl, ad_ren rfl, trivial⟩)))) rfl ?_
  refine ao_readG (x := .bool (!(p_spec_l1In x2 0 ((x0.length : Int) - 1)))) rfl (GV.F rfl) (fun hg23 => by
      obtain ⟨q24, q25⟩ := or_f (not_t hg23)
      exact Reads.strip 24 rfl (hg23) (r_not rfl)) rfl ?_
  refine ao_read trivial (r_orB rfl rfl) rfl ?_
  refine ao_nil ?_
  refine aq_then ?_
  refine aw_cond rfl (fun hb26 => ?_) (fun hb26 => ?_)
  · replace h := is_if hb26 h
    refine aw_seq ?_
    refine aw_region ?_
    refine ao_read trivial (r_assign rfl) rfl ?_
    refine ao_read trivial (r_assign rfl) rfl ?_
    refine ao_nil ?_
    refine aq_then ?_
    refine aw_ret ?_
    refine aq_then_ret ?_
    refine aq_ret ?_
    obtain rfl := is_some h
    exact aq_finx (l := [.tmp 6, .tmp 7]) (xs := [.int .i64 0, .bool false]) idn [.int .i64 0, .bool false] [] rfl (by exact ⟨rfl, rfl, trivial⟩) (by exact ⟨ad_ren rfl, ad_ren rfl, trivial⟩) (by exact trivial) rfl (nk rfl) rfl rfl ⟨rfl, rfl⟩
  · obtain ⟨q27, q28⟩ := or_f hb26
    obtain ⟨q29, q30⟩ := or_f q27
    replace h := is_else (ne_t hb26) h
    refine aw_skip ?_
    refine aq_then ?_
    refine aw_seq ?_
    refine aw_region ?_
    refine ao_read trivial (r_move rfl) rfl ?_
    refine ao_read trivial (r_len_vm (x0.length : Int) Try.underlying22 rfl rfl) rfl ?_
    refine ao_read trivial (r_move rfl) rfl ?_
    obtain ⟨r31, r31h, h⟩ := is_bind h
    refine ao_call [] 0 trivial (c_spec_l10Ways (is_mk r31h)) Try.func32 rfl rfl rfl rfl ⟨ad_ren rfl, trivial⟩ trivial rfl rfl rfl rfl rfl rfl rfl (fun r' H' hr => ?_)
    obtain ⟨rfl, rfl⟩ := hr
    refine ao_norm (y := .os 0) (H' := [(0, .row (.int .i64) r31)]) rfl rfl ?_
    refine row_len_o 0 (r31.length : Int) rfl rfl (fun hr32 => ?_)
    refine ao_read trivial (r_move rfl) rfl ?_
    refine ao_read trivial (r_move rfl) rfl ?_
    obtain ⟨r33, r33h, h⟩ := is_bind h
    refine ao_scall trivial (scall (c_spec_l10At (is_mk r33h)) rfl Try.func31 rfl rfl rfl rfl (fun σ => ⟨ad_ren rfl, ad_os0 rfl, ad_ren rfl, ad_ren rfl, trivial⟩)) rfl ?_
    refine ao_read trivial (r_assign rfl) rfl ?_
    refine ao_read trivial (r_assign rfl) rfl ?_
    refine ao_nil ?_
    refine aq_then ?_
    refine aw_ret ?_
    refine aq_ret ?_
    obtain rfl := is_some h
    exact aq_finx (l := [.tmp 6, .tmp 7]) (xs := [.int .i64 r33, .bool true]) idn [.int .i64 r33, .bool true] [] rfl (by exact ⟨rfl, rfl, trivial⟩) (by exact ⟨ad_ren rfl, ad_ren rfl, trivial⟩) (by exact trivial) rfl (nk rfl) rfl rfl ⟨rfl, rfl⟩
theorem c_impl_isPlayer {x0 : (List (List Int))} {x1 : Int} {r : Bool} (h : Is (p_impl_isPlayer x0 x1) r) :
    Scalar Try.prog 35 [.v (.slice (.arr 6 (.int .i64))) x0, .int .i64 x1] (.bool r) := by
  unfold p_impl_isPlayer at h
  refine ac_enter ⟨10, 0⟩ Try.func35 rfl rfl rfl rfl rfl (fun Γ => ?_)
  refine sl_len_m 0 (x0.length : Int) rfl rfl (fun hl0 => ?_)
  refine aw_seq ?_
  refine aw_region ?_
  refine ao_read trivial (r_assign rfl) rfl ?_
  refine ao_nil ?_
  refine aq_then ?_
  refine aw_seq ?_
  refine aw_region ?_
  refine ao_read trivial (r_move rfl) rfl ?_
  refine ao_read trivial (r_move rfl) rfl ?_
  refine ao_read trivial (r_len_vm (x0.length : Int) Try.underlying22 rfl rfl) rfl ?_
  refine ao_read trivial (r_subI rfl rfl (wrap_id (by omega) (by omega))) rfl ?_
  refine ao_scall trivial (scall (c_impl_within (is_mk (rfl : p_impl_within x1 0 ((x0.length : Int) - 1) = _))) rfl Try.func55 rfl rfl rfl rfl (fun σ => ⟨ad_ren rfl, ad_ren rfl, ad_ren rfl, trivial⟩)) rfl ?_
  refine ao_read trivial (r_assign rfl) rfl ?_
  refine ao_nil ?_
  refine aq_then ?_
  refine aw_ret ?_
  refine aq_ret ?_
  obtain rfl := is_eq h
  exact aq_finx (l := [.tmp 4]) (xs := [.bool (p_impl_within x1 0 ((x0.length : Int) - 1))]) idn [.bool (p_impl_within x1 0 ((x0.length : Int) - 1))] [] rfl (by exact ⟨rfl, trivial⟩) (by exact ⟨ad_ren rfl, trivial⟩) (by exact trivial) rfl (nk rfl) rfl rfl ⟨rfl, rfl⟩
theorem c_impl_WaysAt {fu : Nat} {x0 : (List (List Int))} {x1 : Int} {x2 : Int} {r : Int × Bool} (h : Is (p_impl_WaysAt fu x0 x1 x2) (some r)) :
    Scalar Try.prog 12 [.v (.slice (.arr 6 (.int .i64))) x0, .int .i64 x1, .int .i64 x2] (.tup [.int .i64 r.1, .bool r.2]) := by
  unfold p_impl_WaysAt at h
  refine ac_enter ⟨27, 0⟩ Try.func12 rfl rfl rfl rfl rfl (fun Γ => ?_)
  refine sl_len_m 0 (x0.length : Int) rfl rfl (fun hl0 => ?_)
  refine aw_seq ?_
  refine aw_region ?_
  refine ao_read trivial (r_assign rfl) rfl ?_
  refine ao_read trivial (r_assign rfl) rfl ?_
  refine ao_nil ?_
  refine aq_then ?_
  refine aw_seq ?_
  refine aw_seq ?_
  refine aw_region ?_
  refine ao_read trivial (r_move rfl) rfl ?_
  refine ao_scall trivial (scall (c_impl_IsPool (is_mk (rfl : p_impl_IsPool x0 = _))) rfl Try.func34 rfl rfl rfl rfl (fun σ => ⟨ad_ren rfl, trivial⟩)) rfl ?_
  refine ao_read trivial (r_not rfl) rfl ?_
  refine ao_read trivial (r_move rfl) rfl ?_
  refine ao_readG (x := .v (.slice (.arr 6 (.int .i64))) x0) rfl (GV.F rfl) (fun hg1 => r_move rfl) rfl ?_
  refine ao_readG (x := .int .i64 x1) rfl (GV.F rfl) (fun hg2 => r_move rfl) rfl ?_
  refine ao_scallG (r := .bool (p_impl_isPlayer x0 x1)) rfl (GV.F rfl) (fun hg3 => SCall.strip 12 rfl (hg3) (SCall.strip 13 rfl (hg3) (scall (c_impl_isPlayer (is_mk (rfl : p_impl_isPlayer x0 x1 = _))) rfl Try.func35 rfl rfl rfl rfl (fun σ => ⟨ad_ren rfl, ad_ren rfl, trivial⟩)))) rfl ?_
  refine ao_readG (x := .bool (!(p_impl_isPlayer x0 x1))) rfl (GV.F rfl) (fun hg4 => Reads.strip 14 rfl (hg4) (r_not rfl)) rfl ?_
  refine ao_read trivial (r_orB rfl rfl) rfl ?_
  refine ao_read trivial (r_move rfl) rfl ?_
  refine ao_readG (x := .v (.slice (.arr 6 (.int .i64))) x0) rfl (GV.F rfl) (fun hg5 => by
      obtain ⟨q6, q7⟩ := or_f (not_t hg5)
      exact r_move rfl) rfl ?_
  refine ao_readG (x := .int .i64 x2) rfl (GV.F rfl) (fun hg8 => by
      obtain ⟨q9, q10⟩ := or_f (not_t hg8)
      exact r_move rfl) rfl ?_
  refine ao_scallG (r := .bool (p_impl_isPlayer x0 x2)) rfl (GV.F rfl) (fun hg11 => by
      obtain ⟨q12, q13⟩ := or_f (not_t hg11)
      exact SCall.strip 18 rfl (hg11) (SCall.strip 19 rfl (hg11) (scall (c_impl_isPlayer (is_mk (rfl : p_impl_isPlayer x0 x2 = _))) rfl Try.func35 rfl rfl rfl rfl (fun σ => ⟨ad_ren rfl, ad_ren rfl, trivial⟩)))) rfl ?_
  refine ao_readG (x := .bool (!(p_impl_isPlayer x0 x2))) rfl (GV.F rfl) (fun hg14 => by
      obtain ⟨q15, q16⟩ := or_f (not_t hg14)
      exact Reads.strip 20 rfl (hg14) (r_not rfl)) rfl ?_
  refine ao_read trivial (r_orB rfl rfl) rfl ?_
  refine ao_nil ?_
  refine aq_then ?_
  refine aw_cond rfl (fun hb17 => ?_) (fun hb17 => ?_)
  · replace h := is_if hb17 h
    refine aw_seq ?_
    refine aw_region ?_
    refine ao_read trivial (r_assign rfl) rfl ?_
    refine ao_read trivial (r_assign rfl) rfl ?_
    refine ao_nil ?_
    refine aq_then ?_
    refine aw_ret ?_
    refine aq_then_ret ?_
    refine aq_ret ?_
    obtain rfl := is_some h
    exact aq_finx (l := [.tmp 6, .tmp 7]) (xs := [.int .i64 0, .bool false]) idn [.int .i64 0, .bool false] [] rfl (by exact ⟨rfl, rfl, trivial⟩) (by exact ⟨ad_ren rfl, ad_ren rfl, trivial⟩) (by exact trivial) rfl (nk rfl) rfl rfl ⟨rfl, rfl⟩
  · obtain ⟨q18, q19⟩ := or_f hb17
    obtain ⟨q20, q21⟩ := or_f q18
    replace h := is_else (ne_t hb17) h
    refine aw_skip ?_
    refine aq_then ?_
    refine aw_seq ?_
    refine aw_region ?_
    refine ao_read trivial (r_move rfl) rfl ?_
    refine ao_read trivial (r_move rfl) rfl ?_
    refine ao_read trivial (r_move rfl) rfl ?_
    obtain ⟨r22, r22h, h⟩ := is_bind h
    refine ao_scall trivial (scall (c_impl_waysAt (is_mk r22h)) rfl Try.func36 rfl rfl rfl rfl (fun σ => ⟨ad_ren rfl, ad_ren rfl, ad_ren rfl, trivial⟩)) rfl ?_
    refine ao_read trivial (r_assign rfl) rfl ?_
    refine ao_read trivial (r_assign rfl) rfl ?_
    refine ao_nil ?_
    refine aq_then ?_
    refine aw_ret ?_
    refine aq_ret ?_
    obtain rfl := is_some h
    exact aq_finx (l := [.tmp 6, .tmp 7]) (xs := [.int .i64 r22, .bool true]) idn [.int .i64 r22, .bool true] [] rfl (by exact ⟨rfl, rfl, trivial⟩) (by exact ⟨ad_ren rfl, ad_ren rfl, trivial⟩) (by exact trivial) rfl (nk rfl) rfl rfl ⟨rfl, rfl⟩
theorem c_laws_FnExactWaysAt {fu : Nat} {x0 : (List (List Int))} {x1 : Int} {x2 : Int} {r : Bool} (h : Is (p_laws_FnExactWaysAt fu x0 x1 x2) (some r)) :
    Scalar Try.prog 3 [.v (.slice (.arr 6 (.int .i64))) x0, .int .i64 x1, .int .i64 x2] (.bool r) := by
  unfold p_laws_FnExactWaysAt at h
  refine ac_enter ⟨48, 0⟩ Try.func3 rfl rfl rfl rfl rfl (fun Γ => ?_)
  refine sl_len_m 0 (x0.length : Int) rfl rfl (fun hl0 => ?_)
  refine aw_seq ?_
  refine aw_region ?_
  refine ao_read trivial (r_assign rfl) rfl ?_
  refine ao_nil ?_
  refine aq_then ?_
  refine aw_seq ?_
  refine aw_region ?_
  refine ao_read trivial (r_assign rfl) rfl ?_
  refine ao_nil ?_
  refine aq_then ?_
  refine aw_seq ?_
  refine aw_region ?_
  refine ao_read trivial (r_move rfl) rfl ?_
  refine ao_read trivial (r_move rfl) rfl ?_
  refine ao_scall trivial (scall (c_laws_szIntA6S (is_mk (rfl : p_laws_szIntA6S x0 1048576 = _))) rfl Try.func9 rfl rfl rfl rfl (fun σ => ⟨ad_ren rfl, ad_ren rfl, trivial⟩)) rfl ?_
  refine ao_read trivial (r_assign rfl) rfl ?_
  refine ao_nil ?_
  refine aq_then ?_
  refine aw_seq ?_
  refine aw_seq ?_
  refine aw_region ?_
  refine ao_read trivial (r_move rfl) rfl ?_
  refine ao_read trivial (r_lss rfl rfl) rfl ?_
  refine ao_nil ?_
  refine aq_then ?_
  refine aw_cond rfl (fun hb1 => ?_) (fun hb1 => ?_)
  · have q2 := d_t hb1
    replace h := is_if (d_t hb1) h
    refine aw_seq ?_
    refine aw_region ?_
    refine ao_read trivial (r_assign rfl) rfl ?_
    refine ao_nil ?_
    refine aq_then ?_
    refine aw_ret ?_
    refine aq_then_ret ?_
    refine aq_ret ?_
    obtain rfl := is_some h
    exact aq_finx (l := [.tmp 6]) (xs := [.bool true]) idn [.bool true] [] rfl (by exact ⟨rfl, trivial⟩) (by exact ⟨ad_ren rfl, trivial⟩) (by exact trivial) rfl (nk rfl) rfl rfl ⟨rfl, rfl⟩
  · have q3 := d_f hb1
    replace h := is_else (d_f hb1) h
    refine aw_skip ?_
    refine aq_then ?_
    refine aw_seq ?_
    refine aw_region ?_
    refine ao_read trivial (r_move rfl) rfl ?_
    obtain ⟨r4, r4h, h⟩ := is_bind h
    refine ao_call [] 0 trivial (c_laws_toIntA6S (is_mk r4h)) Try.func11 rfl rfl rfl rfl ⟨ad_ren rfl, trivial⟩ trivial rfl rfl rfl rfl rfl rfl rfl (fun r' H' hr => ?_)
    obtain ⟨rfl, rfl⟩ := hr
    refine ao_norm (y := .os 0) (H' := [(0, .row (.arr 6 (.int .i64)) r4)]) rfl rfl ?_
    refine row_len_o 0 (r4.length : Int) rfl rfl (fun hr5 => ?_)
    refine ao_read trivial (r_move rfl) rfl ?_
    refine ao_read trivial (r_move rfl) rfl ?_
    obtain ⟨r6, r6h, h⟩ := is_bind h
    refine ao_scall trivial (scall (c_spec_WaysAt (is_mk r6h)) rfl Try.func10 rfl rfl rfl rfl (fun σ => ⟨ad_os0 rfl, ad_ren rfl, ad_ren rfl, trivial⟩)) rfl ?_
    refine ao_read trivial (r_move rfl) rfl ?_
    refine ao_read trivial (r_extract rfl rfl) rfl ?_
    refine ao_read trivial (r_extract rfl rfl) rfl ?_
    refine ao_read trivial (r_assign rfl) rfl ?_
    refine ao_read trivial (r_assign rfl) rfl ?_
    refine ao_nil ?_
    refine aq_then ?_
    refine aw_seq ?_
    refine aw_region ?_
    refine ao_read trivial (r_move rfl) rfl ?_
    obtain ⟨r7, r7h, h⟩ := is_bind h
    refine ao_call [] 1 trivial (c_laws_toIntA6S (is_mk r7h)) Try.func11 rfl rfl rfl rfl ⟨ad_ren rfl, trivial⟩ trivial rfl rfl rfl rfl rfl rfl rfl (fun r' H' hr => ?_)
    obtain ⟨rfl, rfl⟩ := hr
    refine ao_norm (y := .os 1) (H' := [(0, .row (.arr 6 (.int .i64)) r4), (1, .row (.arr 6 (.int .i64)) r7)]) rfl rfl ?_
    refine row_len_o 1 (r7.length : Int) rfl rfl (fun hr8 => ?_)
    refine ao_read trivial (r_assign rfl) rfl ?_
    refine ao_nil ?_
    refine aq_then ?_
    refine aw_seq ?_
    refine aw_region ?_
    refine ao_read trivial (r_move rfl) rfl ?_
    refine ao_read trivial (r_move rfl) rfl ?_
    refine ao_read trivial (r_move rfl) rfl ?_
    obtain ⟨r9, r9h, h⟩ := is_bind h
    refine ao_scall trivial (scall (c_impl_WaysAt (is_mk r9h)) rfl Try.func12 rfl rfl rfl rfl (fun σ => ⟨ad_os0 rfl, ad_ren rfl, ad_ren rfl, trivial⟩)) rfl ?_
    refine ao_read trivial (r_move rfl) rfl ?_
    refine ao_read trivial (r_extract rfl rfl) rfl ?_
    refine ao_read trivial (r_extract rfl rfl) rfl ?_
    refine ao_read trivial (r_assign rfl) rfl ?_
    refine ao_read trivial (r_assign rfl) rfl ?_
    refine ao_nil ?_
    refine aq_then ?_
    refine aw_seq ?_
    refine aw_seq ?_
    refine aw_region ?_
    refine ao_read trivial (r_move rfl) rfl ?_
    refine ao_read trivial (r_move rfl) rfl ?_
    refine ao_read trivial (r_neq rfl rfl) rfl ?_
    refine ao_read trivial (r_move rfl) rfl ?_
    refine ao_readG (x := .bool r9.2) rfl (GV.F rfl) (fun hg10 => by
      have q11 := d_t (not_f (not_t hg10))
      exact r_move rfl) rfl ?_
    refine ao_readG (x := .bool r6.2) rfl (GV.F rfl) (fun hg12 => by
      have q13 := d_t (not_f (not_t hg12))
      exact r_move rfl) rfl ?_
    refine ao_readG (x := .bool (r9.2 != r6.2)) rfl (GV.F rfl) (fun hg14 => by
      have q15 := d_t (not_f (not_t hg14))
      exact Reads.strip 39 rfl (hg14) (Reads.strip 40 rfl (hg14) (r_neq_bool Try.underlying4 rfl rfl))) rfl ?_
    refine ao_read trivial (r_orB rfl rfl) rfl ?_
    refine ao_nil ?_
    refine aq_then ?_
    refine aw_cond rfl (fun hb16 => ?_) (fun hb16 => ?_)
    · replace h := is_if hb16 h
      refine aw_seq ?_
      refine aw_region ?_
      refine ao_read trivial (r_assign rfl) rfl ?_
      refine ao_nil ?_
      refine aq_then ?_
      refine aw_ret ?_
      refine aq_then_ret ?_
      refine aq_ret ?_
      obtain rfl := is_some h
      exact aq_finx (l := [.tmp 6]) (xs := [.bool false]) idn [.bool false] [] rfl (by exact ⟨rfl, trivial⟩) (by exact ⟨ad_ren rfl, trivial⟩) (by exact trivial) rfl (nk rfl) rfl rfl ⟨rfl, rfl⟩
    · obtain ⟨q17, q18⟩ := or_f hb16
      have q19 := d_t (not_f q17)
      replace h := is_else (ne_t hb16) h
      refine aw_skip ?_
      refine aq_then ?_
      refine aw_seq ?_
      refine aw_seq ?_
      refine aw_region ?_
      refine ao_read trivial (r_move rfl) rfl ?_
      refine ao_read trivial (r_move rfl) rfl ?_
      obtain ⟨r20, r20h, h⟩ := is_bind h
      refine ao_call [] 2 trivial (c_laws_toIntA6S (is_mk r20h)) Try.func11 rfl rfl rfl rfl ⟨ad_ren rfl, trivial⟩ trivial rfl rfl rfl rfl rfl rfl rfl (fun r' H' hr => ?_)
      obtain ⟨rfl, rfl⟩ := hr
      refine ao_norm (y := .os 2) (H' := [(0, .row (.arr 6 (.int .i64)) r4), (1, .row (.arr 6 (.int .i64)) r7), (2, .row (.arr 6 (.int .i64)) r20)]) rfl rfl ?_
      refine row_len_o 2 (r20.length : Int) rfl rfl (fun hr21 => ?_)
      refine ao_scall trivial (scall (c_laws_eqIntA6S (is_mk (rfl : p_laws_eqIntA6S r7 r20 = _))) rfl Try.func13 rfl rfl rfl rfl (fun σ => ⟨ad_os0 rfl, ad_os0 rfl, trivial⟩)) rfl ?_
      refine ao_read trivial (r_not rfl) rfl ?_
      refine ao_nil ?_
      refine aq_then ?_
      refine aw_cond rfl (fun hb22 => ?_) (fun hb22 => ?_)
      · replace h := is_else (ne_t (not_t hb22)) h
        refine aw_seq ?_
        refine aw_region ?_
        refine ao_read trivial (r_assign rfl) rfl ?_
        refine ao_nil ?_
        refine aq_then ?_
        refine aw_ret ?_
        refine aq_then_ret ?_
        refine aq_ret ?_
        obtain rfl := is_some h
        exact aq_finx (l := [.tmp 6]) (xs := [.bool false]) idn [.bool false] [] rfl (by exact ⟨rfl, trivial⟩) (by exact ⟨ad_ren rfl, trivial⟩) (by exact trivial) rfl (nk rfl) rfl rfl ⟨rfl, rfl⟩
      · replace h := is_if (not_f hb22) h
        refine aw_skip ?_
        refine aq_then ?_
        refine aw_seq ?_
        refine aw_region ?_
        refine ao_read trivial (r_assign rfl) rfl ?_
        refine ao_nil ?_
        refine aq_then ?_
        refine aw_ret ?_
        refine aq_ret ?_
        obtain rfl := is_some h
        exact aq_finx (l := [.tmp 6]) (xs := [.bool true]) idn [.bool true] [] rfl (by exact ⟨rfl, trivial⟩) (by exact ⟨ad_ren rfl, trivial⟩) (by exact trivial) rfl (nk rfl) rfl rfl ⟨rfl, rfl⟩
end Go.GA
