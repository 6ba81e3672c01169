/- Walks: what the Go functions compute, by the printed lines below; no further conditions. -/
import Derived.Test.YtedakmknjbjlbaaC9kwb
namespace Go.GA
open Go Go.Proofs
set_option maxRecDepth 100000
set_option maxHeartbeats 2000000
set_option linter.unusedVariables false
set_option linter.unusedSimpArgs false
theorem c_laws_FnBeats {fu : Nat} {x0 : (List Int)} {r : Bool} (h : Is (p_laws_FnBeats fu x0) (some r)) :
    Scalar Try.prog 5 [.v (.slice (.int .u8)) x0] (.bool r) := by
  unfold p_laws_FnBeats at h
  refine ac_enter ⟨346, 0⟩ Try.func5 rfl rfl rfl rfl rfl (fun Γ => ?_)
  refine sl_len_m 0 (x0.length : Int) rfl rfl (fun hl0 => ?_)
  refine aw_seq ?_
  refine aw_region ?_
  refine ao_read trivial (r_assign rfl) rfl ?_
  refine ao_nil ?_
  refine aq_then ?_
  refine aw_seq ?_
  refine aw_seq ?_
  refine aw_region ?_
  refine ao_read trivial (r_move rfl) rfl ?_
  refine ao_scall trivial (scall (c_laws_rBig (is_mk (rfl : p_laws_rBig x0 = _))) rfl Try.func7 rfl rfl rfl rfl (fun σ => ⟨ad_ren rfl, trivial⟩)) rfl ?_
  refine ao_nil ?_
  refine aq_then ?_
  refine aw_cond rfl (fun hb1 => ?_) (fun hb1 => ?_)
  · replace h := is_if hb1 h
    refine aw_seq ?_
    refine aw_region ?_
    refine ao_read trivial (r_assign rfl) rfl ?_
    refine ao_nil ?_
    refine aq_then ?_
    refine aw_ret ?_
    refine aq_then_ret ?_
    refine aq_ret ?_
    obtain rfl := is_some h
    exact aq_finx (l := [.tmp 2]) (xs := [.bool true]) idn [.bool true] [] rfl (by exact ⟨rfl, trivial⟩) (by exact ⟨ad_ren rfl, trivial⟩) (by exact trivial) rfl (nk rfl) rfl rfl ⟨rfl, rfl⟩
  · replace h := is_else (ne_t hb1) h
    refine aw_skip ?_
    refine aq_then ?_
    refine aw_seq ?_
    refine aw_region ?_
    refine ao_read trivial (r_move rfl) rfl ?_
    obtain ⟨r2, r2h, h⟩ := is_bind h
    refine ao_scall trivial (scall (c_spec_DrawCompareDice (is_mk r2h)) rfl Try.func47 rfl rfl rfl rfl (fun σ => ⟨ad_ren rfl, trivial⟩)) rfl ?_
    refine ao_read trivial (r_move rfl) rfl ?_
    refine ao_read trivial (r_extract rfl rfl) rfl ?_
    refine ao_read trivial (r_extract rfl rfl) rfl ?_
    refine ao_eff trivial (e_alloc 0 (y := .v (.arr 6 (.int .i64)) ((List.replicate 6 0) : (List Int))) Try.zeroValue60 (fun ρ h M => ra_zero_arr (t := (.int .i64)) rfl) rfl rfl rfl rfl rfl) rfl ?_
    refine ao_eff trivial (e_alloc 1 (y := .v (.arr 6 (.int .i64)) ((List.replicate 6 0) : (List Int))) Try.zeroValue60 (fun ρ h M => ra_zero_arr (t := (.int .i64)) rfl) rfl rfl rfl rfl rfl) rfl ?_
    refine ao_effS trivial (e_store rfl rfl rfl rfl Try.sizeOf60 rfl) ?_
    refine ao_effS trivial (e_store rfl rfl rfl rfl Try.sizeOf60 rfl) ?_
    refine ao_nil ?_
    refine aq_then ?_
    refine aw_seq ?_
    refine aw_region ?_
    refine ao_read trivial (r_load_arr rfl Try.isAgg60 Try.sizeOf60 rfl rfl rfl) rfl ?_
    refine ao_read trivial (r_load_arr rfl Try.isAgg60 Try.sizeOf60 rfl rfl rfl) rfl ?_
    obtain ⟨r3, r3h, h⟩ := is_bind h
    refine ao_scall trivial (scall (c_impl_CompareDice (is_mk r3h)) rfl Try.func48 rfl rfl rfl rfl (fun σ => ⟨ad_ren rfl, ad_ren rfl, trivial⟩)) rfl ?_
    refine ao_read trivial (r_move rfl) rfl ?_
    refine ao_read trivial (r_extract rfl rfl) rfl ?_
    refine ao_read trivial (r_extract rfl rfl) rfl ?_
    refine ao_eff trivial (e_alloc 2 (y := .v (.arr 3 (.int .i64)) ((List.replicate 3 0) : (List Int))) Try.zeroValue63 (fun ρ h M => ra_zero_arr (t := (.int .i64)) rfl) rfl rfl rfl rfl rfl) rfl ?_
    refine ao_effS trivial (e_store rfl rfl rfl rfl Try.sizeOf63 rfl) ?_
    refine ao_read trivial (r_assign rfl) rfl ?_
    refine ao_nil ?_
    refine aq_then ?_
    refine aw_seq ?_
    refine aw_seq ?_
    refine aw_region ?_
    refine ao_read trivial (r_load_arr rfl Try.isAgg60 Try.sizeOf60 rfl rfl rfl) rfl ?_
    refine ao_read trivial (r_load_arr rfl Try.isAgg60 Try.sizeOf60 rfl rfl rfl) rfl ?_
    obtain ⟨r4, r4h, h⟩ := is_bind h
    refine ao_scall trivial (scall (c_spec_CompareDice (is_mk r4h)) rfl Try.func49 rfl rfl rfl rfl (fun σ => ⟨ad_ren rfl, ad_ren rfl, trivial⟩)) rfl ?_
    refine ao_read trivial (r_move rfl) rfl ?_
    refine ao_read trivial (r_extract rfl rfl) rfl ?_
    refine ao_read trivial (r_extract rfl rfl) rfl ?_
    refine ao_eff trivial (e_alloc 3 (y := .v (.arr 3 (.int .i64)) ((List.replicate 3 0) : (List Int))) Try.zeroValue63 (fun ρ h M => ra_zero_arr (t := (.int .i64)) rfl) rfl rfl rfl rfl rfl) rfl ?_
    refine ao_effS trivial (e_store rfl rfl rfl rfl Try.sizeOf63 rfl) ?_
    refine ao_read trivial (r_assign rfl) rfl ?_
    refine ao_nil ?_
    refine aq_then ?_
    refine aw_seq ?_
    refine aw_region ?_
    refine ao_read trivial (r_load_arr rfl Try.isAgg63 Try.sizeOf63 rfl rfl rfl) rfl ?_
    refine ao_read trivial (r_load_arr rfl Try.isAgg63 Try.sizeOf63 rfl rfl rfl) rfl ?_
    refine ao_read trivial (r_eq_ints Try.underlying63 Try.underlying3 Try.isAgg3 (info_size Try.sizeOf3) (by kernel_rfl) rfl rfl rfl) rfl ?_
    refine ao_read trivial (r_move rfl) rfl ?_
    refine ao_readG (x := .bool r3.2) rfl (GV.F rfl) (fun hg5 => r_move rfl) rfl ?_
    refine ao_readG (x := .bool r4.2) rfl (GV.F rfl) (fun hg6 => r_move rfl) rfl ?_
    refine ao_readG (x := .bool (r3.2 != r4.2)) rfl (GV.F rfl) (fun hg7 => Reads.strip 68 rfl (hg7) (Reads.strip 69 rfl (hg7) (r_neq_bool Try.underlying4 rfl rfl))) rfl ?_
    refine ao_read trivial (r_orB rfl rfl) rfl ?_
    refine ao_read trivial (r_move rfl) rfl ?_
    refine ao_readG (x := .bool r3.2) rfl (GV.F rfl) (fun hg8 => by
          obtain ⟨q9, q10⟩ := or_f (not_t hg8)
          exact r_move rfl) rfl ?_
    refine ao_readG (x := .v (.arr 6 (.int .i64)) r2.1) rfl (GV.F rfl) (fun hg11 => by
          obtain ⟨q12, q13⟩ := or_f (not_t hg11)
          exact r_load_arr rfl Try.isAgg60 Try.sizeOf60 rfl rfl rfl) rfl ?_
    refine ao_scallG (r := .bool (p_impl_IsDie r2.1)) rfl (GV.F rfl) (fun hg14 => by
          obtain ⟨q15, q16⟩ := or_f (not_t hg14)
          exact SCall.strip 74 rfl (hg14) (scall (c_impl_IsDie (is_mk (rfl : p_impl_IsDie r2.1 = _))) rfl Try.func50 rfl rfl rfl rfl (fun σ => ⟨ad_ren rfl, trivial⟩))) rfl ?_
    refine ao_readG (x := .bool (p_impl_IsDie r2.1)) rfl (GV.F rfl) (fun hg17 => by
          obtain ⟨q18, q19⟩ := or_f (not_t hg17)
          exact Reads.strip 75 rfl (hg17) (r_move rfl)) rfl ?_
    refine ao_readG (x := .v (.arr 6 (.int .i64)) r2.2) rfl (GV.gT rfl) (fun hg20 => by
          obtain ⟨q21, q22⟩ := and_t hg20
          obtain ⟨q23, q24⟩ := or_f (not_t q21)
          exact r_load_arr rfl Try.isAgg60 Try.sizeOf60 rfl rfl rfl) rfl ?_
    refine ao_scallG (r := .bool (p_impl_IsDie r2.2)) rfl (GV.gT rfl) (fun hg25 => by
          obtain ⟨q26, q27⟩ := and_t hg25
          obtain ⟨q28, q29⟩ := or_f (not_t q26)
          exact SCall.strip 77 rfl (hg25) (scall (c_impl_IsDie (is_mk (rfl : p_impl_IsDie r2.2 = _))) rfl Try.func50 rfl rfl rfl rfl (fun σ => ⟨ad_ren rfl, trivial⟩))) rfl ?_
    refine ao_readG (x := .bool ((p_impl_IsDie r2.1) && (p_impl_IsDie r2.2))) rfl (GV.F rfl) (fun hg30 => by
          obtain ⟨q31, q32⟩ := or_f (not_t hg30)
          exact Reads.strip 76 rfl (hg30) (r_andBg rfl rfl (tr_and (hg30)))) rfl ?_
    refine ao_readG (x := .bool (r3.2 != ((p_impl_IsDie r2.1) && (p_impl_IsDie r2.2)))) rfl (GV.F rfl) (fun hg33 => by
          obtain ⟨q34, q35⟩ := or_f (not_t hg33)
          exact Reads.strip 73 rfl (hg33) (Reads.strip 79 rfl (hg33) (r_neq_bool Try.underlying4 rfl rfl))) rfl ?_
    refine ao_read trivial (r_orB rfl rfl) rfl ?_
    refine ao_nil ?_
    refine aq_then ?_
    refine aw_cond rfl (fun hb36 => ?_) (fun hb36 => ?_)
    · replace h := is_if hb36 h
      refine aw_seq ?_
      refine aw_region ?_
      refine ao_read trivial (r_assign rfl) rfl ?_
      refine ao_nil ?_
      refine aq_then ?_
      refine aw_ret ?_
      refine aq_then_ret ?_
      refine aq_ret ?_
      obtain rfl := is_some h
      exact aq_finx (l := [.tmp 2]) (xs := [.bool false]) idn [.bool false] [] rfl (by exact ⟨rfl, trivial⟩) (by exact ⟨ad_ren rfl, trivial⟩) (by exact trivial) rfl (nk rfl) rfl rfl ⟨rfl, rfl⟩
    · obtain ⟨q37, q38⟩ := or_f hb36
      obtain ⟨q39, q40⟩ := or_f q37
      replace h := is_else (ne_t hb36) h
      refine aw_skip ?_
      refine aq_then ?_
      refine aw_seq ?_
      refine aw_region ?_
      refine ao_read trivial (r_load_arr rfl Try.isAgg60 Try.sizeOf60 rfl rfl rfl) rfl ?_
      refine ao_read trivial (r_load_arr rfl Try.isAgg60 Try.sizeOf60 rfl rfl rfl) rfl ?_
      obtain ⟨r41, r41h, h⟩ := is_bind h
      refine ao_scall trivial (scall (c_impl_DoesBeat (is_mk r41h)) rfl Try.func51 rfl rfl rfl rfl (fun σ => ⟨ad_ren rfl, ad_ren rfl, trivial⟩)) rfl ?_
      refine ao_read trivial (r_move rfl) rfl ?_
      refine ao_read trivial (r_extract rfl rfl) rfl ?_
      refine ao_read trivial (r_extract rfl rfl) rfl ?_
      refine ao_read trivial (r_assign rfl) rfl ?_
      refine ao_read trivial (r_assign rfl) rfl ?_
      refine ao_nil ?_
      refine aq_then ?_
      refine aw_seq ?_
      refine aw_seq ?_
      refine aw_region ?_
      refine ao_read trivial (r_load_arr rfl Try.isAgg60 Try.sizeOf60 rfl rfl rfl) rfl ?_
      refine ao_read trivial (r_load_arr rfl Try.isAgg60 Try.sizeOf60 rfl rfl rfl) rfl ?_
      obtain ⟨r42, r42h, h⟩ := is_bind h
      refine ao_scall trivial (scall (c_spec_DoesBeat (is_mk r42h)) rfl Try.func52 rfl rfl rfl rfl (fun σ => ⟨ad_ren rfl, ad_ren rfl, trivial⟩)) rfl ?_
      refine ao_read trivial (r_move rfl) rfl ?_
      refine ao_read trivial (r_extract rfl rfl) rfl ?_
      refine ao_read trivial (r_extract rfl rfl) rfl ?_
      refine ao_read trivial (r_assign rfl) rfl ?_
      refine ao_read trivial (r_assign rfl) rfl ?_
      refine ao_nil ?_
      refine aq_then ?_
      refine aw_seq ?_
      refine aw_region ?_
      refine ao_read trivial (r_move rfl) rfl ?_
      refine ao_read trivial (r_move rfl) rfl ?_
      refine ao_read trivial (r_neq_bool Try.underlying4 rfl rfl) rfl ?_
      refine ao_read trivial (r_move rfl) rfl ?_
      refine ao_readG (x := .bool r41.2) rfl (GV.F rfl) (fun hg43 => r_move rfl) rfl ?_
      refine ao_readG (x := .bool r42.2) rfl (GV.F rfl) (fun hg44 => r_move rfl) rfl ?_
      refine ao_readG (x := .bool (r41.2 != r42.2)) rfl (GV.F rfl) (fun hg45 => Reads.strip 98 rfl (hg45) (Reads.strip 99 rfl (hg45) (r_neq_bool Try.underlying4 rfl rfl))) rfl ?_
      refine ao_read trivial (r_orB rfl rfl) rfl ?_
      refine ao_read trivial (r_move rfl) rfl ?_
      refine ao_readG (x := .bool r41.2) rfl (GV.F rfl) (fun hg46 => by
            obtain ⟨q47, q48⟩ := or_f (not_t hg46)
            exact r_move rfl) rfl ?_
      refine ao_readG (x := .bool r3.2) rfl (GV.F rfl) (fun hg49 => by
            obtain ⟨q50, q51⟩ := or_f (not_t hg49)
            exact r_move rfl) rfl ?_
      refine ao_readG (x := .bool (r41.2 != r3.2)) rfl (GV.F rfl) (fun hg52 => by
            obtain ⟨q53, q54⟩ := or_f (not_t hg52)
            exact Reads.strip 103 rfl (hg52) (Reads.strip 104 rfl (hg52) (r_neq_bool Try.underlying4 rfl rfl))) rfl ?_
      refine ao_read trivial (r_orB rfl rfl) rfl ?_
      refine ao_read trivial (r_move rfl) rfl ?_
      refine ao_readG (x := .bool r3.2) rfl (GV.F rfl) (fun hg55 => by
            obtain ⟨q56, q57⟩ := or_f (not_t hg55)
            obtain ⟨q58, q59⟩ := or_f q56
            exact r_move rfl) rfl ?_
      refine ao_readG (x := .bool r3.2) rfl (GV.F rfl) (fun hg60 => by
            obtain ⟨q61, q62⟩ := or_f (not_t hg60)
            obtain ⟨q63, q64⟩ := or_f q61
            exact Reads.strip 108 rfl (hg60) (r_move rfl)) rfl ?_
      refine ao_readG (x := .bool r41.1) rfl (GV.gT rfl) (fun hg65 => by
            obtain ⟨q66, q67⟩ := and_t hg65
            obtain ⟨q68, q69⟩ := or_f (not_t q66)
            obtain ⟨q70, q71⟩ := or_f q68
            exact r_move rfl) rfl ?_
      refine ao_readG (x := .elem 2 0 1 0) rfl (GV.gT rfl) (fun hg72 => by
            obtain ⟨q73, q74⟩ := and_t hg72
            obtain ⟨q75, q76⟩ := or_f (not_t q73)
            obtain ⟨q77, q78⟩ := or_f q75
            exact r_idxAddr_arr (i := 0) Try.underlying63 Try.sizeOf3 rfl rfl (show 0 ≤ 0 from by omega) (show 0 < (3 : Int) from by omega)) rfl ?_
      refine ao_readG (x := .int .i64 (r3.1.getD 0 0)) rfl (GV.gT rfl) (fun hg79 => by
            obtain ⟨q80, q81⟩ := and_t hg79
            obtain ⟨q82, q83⟩ := or_f (not_t q80)
            obtain ⟨q84, q85⟩ := or_f q82
            exact Reads.strip 111 rfl (hg79) (r_load_elema_int Try.isAgg3 Try.sizeOf3 rfl rfl rfl (show 0 < 3 from by omega))) rfl ?_
      refine ao_readG (x := .elem 2 0 1 2) rfl (GV.gT rfl) (fun hg86 => by
            obtain ⟨q87, q88⟩ := and_t hg86
            obtain ⟨q89, q90⟩ := or_f (not_t q87)
            obtain ⟨q91, q92⟩ := or_f q89
            exact r_idxAddr_arr (i := 2) Try.underlying63 Try.sizeOf3 rfl rfl (show 0 ≤ 2 from by omega) (show 2 < (3 : Int) from by omega)) rfl ?_
      refine ao_readG (x := .int .i64 (r3.1.getD 2 0)) rfl (GV.gT rfl) (fun hg93 => by
            obtain ⟨q94, q95⟩ := and_t hg93
            obtain ⟨q96, q97⟩ := or_f (not_t q94)
            obtain ⟨q98, q99⟩ := or_f q96
            exact Reads.strip 113 rfl (hg93) (r_load_elema_int Try.isAgg3 Try.sizeOf3 rfl rfl rfl (show 2 < 3 from by omega))) rfl ?_
      refine ao_readG (x := .bool (decide ((r3.1.getD 2 0) < (r3.1.getD 0 0)))) rfl (GV.gT rfl) (fun hg100 => by
            obtain ⟨q101, q102⟩ := and_t hg100
            obtain ⟨q103, q104⟩ := or_f (not_t q101)
            obtain ⟨q105, q106⟩ := or_f q103
            exact Reads.strip 112 rfl (hg100) (Reads.strip 114 rfl (hg100) (r_gtr rfl rfl))) rfl ?_
      refine ao_readG (x := .bool (r41.1 != (decide ((r3.1.getD 2 0) < (r3.1.getD 0 0))))) rfl (GV.gT rfl) (fun hg107 => by
            obtain ⟨q108, q109⟩ := and_t hg107
            obtain ⟨q110, q111⟩ := or_f (not_t q108)
            obtain ⟨q112, q113⟩ := or_f q110
            exact Reads.strip 110 rfl (hg107) (Reads.strip 115 rfl (hg107) (r_neq_bool Try.underlying4 rfl rfl))) rfl ?_
      refine ao_readG (x := .bool (r3.2 && (r41.1 != (decide ((r3.1.getD 2 0) < (r3.1.getD 0 0)))))) rfl (GV.F rfl) (fun hg114 => by
            obtain ⟨q115, q116⟩ := or_f (not_t hg114)
            obtain ⟨q117, q118⟩ := or_f q115
            exact Reads.strip 109 rfl (hg114) (r_andBg rfl rfl (tr_and (hg114)))) rfl ?_
      refine ao_read trivial (r_orB rfl rfl) rfl ?_
      refine ao_nil ?_
      refine aq_then ?_
      refine aw_cond rfl (fun hb119 => ?_) (fun hb119 => ?_)
      · replace h := is_if hb119 h
        refine aw_seq ?_
        refine aw_region ?_
        refine ao_read trivial (r_assign rfl) rfl ?_
        refine ao_nil ?_
        refine aq_then ?_
        refine aw_ret ?_
        refine aq_then_ret ?_
        refine aq_ret ?_
        obtain rfl := is_some h
        exact aq_finx (l := [.tmp 2]) (xs := [.bool false]) idn [.bool false] [] rfl (by exact ⟨rfl, trivial⟩) (by exact ⟨ad_ren rfl, trivial⟩) (by exact trivial) rfl (nk rfl) rfl rfl ⟨rfl, rfl⟩
      · obtain ⟨q120, q121⟩ := or_f hb119
        obtain ⟨q122, q123⟩ := or_f q120
        obtain ⟨q124, q125⟩ := or_f q122
        replace h := is_else (ne_t hb119) h
        refine aw_skip ?_
        refine aq_then ?_
        refine aw_seq ?_
        refine aw_region ?_
        refine ao_read trivial (r_load_arr rfl Try.isAgg60 Try.sizeOf60 rfl rfl rfl) rfl ?_
        refine ao_read trivial (r_load_arr rfl Try.isAgg60 Try.sizeOf60 rfl rfl rfl) rfl ?_
        refine ao_scall trivial (scall (c_impl_DoesCover (is_mk (rfl : p_impl_DoesCover r2.1 r2.2 = _))) rfl Try.func53 rfl rfl rfl rfl (fun σ => ⟨ad_ren rfl, ad_ren rfl, trivial⟩)) rfl ?_
        refine ao_read trivial (r_move rfl) rfl ?_
        refine ao_read trivial (r_extract rfl rfl) rfl ?_
        refine ao_read trivial (r_extract rfl rfl) rfl ?_
        refine ao_read trivial (r_assign rfl) rfl ?_
        refine ao_read trivial (r_assign rfl) rfl ?_
        refine ao_nil ?_
        refine aq_then ?_
        refine aw_seq ?_
        refine aw_seq ?_
        refine aw_region ?_
        refine ao_read trivial (r_load_arr rfl Try.isAgg60 Try.sizeOf60 rfl rfl rfl) rfl ?_
        refine ao_read trivial (r_load_arr rfl Try.isAgg60 Try.sizeOf60 rfl rfl rfl) rfl ?_
        obtain ⟨r126, r126h, h⟩ := is_bind h
        refine ao_scall trivial (scall (c_spec_DoesCover (is_mk r126h)) rfl Try.func54 rfl rfl rfl rfl (fun σ => ⟨ad_ren rfl, ad_ren rfl, trivial⟩)) rfl ?_
        refine ao_read trivial (r_move rfl) rfl ?_
        refine ao_read trivial (r_extract rfl rfl) rfl ?_
        refine ao_read trivial (r_extract rfl rfl) rfl ?_
        refine ao_read trivial (r_assign rfl) rfl ?_
        refine ao_read trivial (r_assign rfl) rfl ?_
        refine ao_nil ?_
        refine aq_then ?_
        refine aw_seq ?_
        refine aw_region ?_
        refine ao_read trivial (r_move rfl) rfl ?_
        refine ao_read trivial (r_move rfl) rfl ?_
        refine ao_read trivial (r_neq_bool Try.underlying4 rfl rfl) rfl ?_
        refine ao_read trivial (r_move rfl) rfl ?_
        refine ao_readG (x := .bool ((p_impl_DoesCover r2.1 r2.2).2)) rfl (GV.F rfl) (fun hg127 => r_move rfl) rfl ?_
        refine ao_readG (x := .bool r126.2) rfl (GV.F rfl) (fun hg128 => r_move rfl) rfl ?_
        refine ao_readG (x := .bool (((p_impl_DoesCover r2.1 r2.2).2) != r126.2)) rfl (GV.F rfl) (fun hg129 => Reads.strip 135 rfl (hg129) (Reads.strip 136 rfl (hg129) (r_neq_bool Try.underlying4 rfl rfl))) rfl ?_
        refine ao_read trivial (r_orB rfl rfl) rfl ?_
        refine ao_read trivial (r_move rfl) rfl ?_
        refine ao_readG (x := .bool ((p_impl_DoesCover r2.1 r2.2).2)) rfl (GV.F rfl) (fun hg130 => by
              obtain ⟨q131, q132⟩ := or_f (not_t hg130)
              exact r_move rfl) rfl ?_
        refine ao_readG (x := .bool r3.2) rfl (GV.F rfl) (fun hg133 => by
              obtain ⟨q134, q135⟩ := or_f (not_t hg133)
              exact r_move rfl) rfl ?_
        refine ao_readG (x := .bool (((p_impl_DoesCover r2.1 r2.2).2) != r3.2)) rfl (GV.F rfl) (fun hg136 => by
              obtain ⟨q137, q138⟩ := or_f (not_t hg136)
              exact Reads.strip 140 rfl (hg136) (Reads.strip 141 rfl (hg136) (r_neq_bool Try.underlying4 rfl rfl))) rfl ?_
        refine ao_read trivial (r_orB rfl rfl) rfl ?_
        refine ao_nil ?_
        refine aq_then ?_
        refine aw_cond rfl (fun hb139 => ?_) (fun hb139 => ?_)
        · replace h := is_if hb139 h
          refine aw_seq ?_
          refine aw_region ?_
          refine ao_read trivial (r_assign rfl) rfl ?_
          refine ao_nil ?_
          refine aq_then ?_
          refine aw_ret ?_
          refine aq_then_ret ?_
          refine aq_ret ?_
          obtain rfl := is_some h
          exact aq_finx (l := [.tmp 2]) (xs := [.bool false]) idn [.bool false] [] rfl (by exact ⟨rfl, trivial⟩) (by exact ⟨ad_ren rfl, trivial⟩) (by exact trivial) rfl (nk rfl) rfl rfl ⟨rfl, rfl⟩
        · obtain ⟨q140, q141⟩ := or_f hb139
          obtain ⟨q142, q143⟩ := or_f q140
          replace h := is_else (ne_t hb139) h
          refine aw_skip ?_
          refine aq_then ?_
          refine aw_seq ?_
          refine aw_region ?_
          refine ao_read trivial (r_load_arr rfl Try.isAgg60 Try.sizeOf60 rfl rfl rfl) rfl ?_
          refine ao_read trivial (r_load_arr rfl Try.isAgg60 Try.sizeOf60 rfl rfl rfl) rfl ?_
          obtain ⟨r144, r144h, h⟩ := is_bind h
          refine ao_scall trivial (scall (c_impl_LeastShift (is_mk r144h)) rfl Try.func55 rfl rfl rfl rfl (fun σ => ⟨ad_ren rfl, ad_ren rfl, trivial⟩)) rfl ?_
          refine ao_read trivial (r_move rfl) rfl ?_
          refine ao_read trivial (r_extract rfl rfl) rfl ?_
          refine ao_read trivial (r_extract rfl rfl) rfl ?_
          refine ao_read trivial (r_assign rfl) rfl ?_
          refine ao_read trivial (r_assign rfl) rfl ?_
          refine ao_nil ?_
          refine aq_then ?_
          refine aw_seq ?_
          refine aw_seq ?_
          refine aw_region ?_
          refine ao_read trivial (r_load_arr rfl Try.isAgg60 Try.sizeOf60 rfl rfl rfl) rfl ?_
          refine ao_read trivial (r_load_arr rfl Try.isAgg60 Try.sizeOf60 rfl rfl rfl) rfl ?_
          obtain ⟨r145, r145h, h⟩ := is_bind h
          refine ao_scall trivial (scall (c_spec_LeastShift (is_mk r145h)) rfl Try.func56 rfl rfl rfl rfl (fun σ => ⟨ad_ren rfl, ad_ren rfl, trivial⟩)) rfl ?_
          refine ao_read trivial (r_move rfl) rfl ?_
          refine ao_read trivial (r_extract rfl rfl) rfl ?_
          refine ao_read trivial (r_extract rfl rfl) rfl ?_
          refine ao_read trivial (r_assign rfl) rfl ?_
          refine ao_read trivial (r_assign rfl) rfl ?_
          refine ao_nil ?_
          refine aq_then ?_
          refine aw_seq ?_
          refine aw_region ?_
          refine ao_read trivial (r_move rfl) rfl ?_
          refine ao_read trivial (r_move rfl) rfl ?_
          refine ao_read trivial (r_neq rfl rfl) rfl ?_
          refine ao_read trivial (r_move rfl) rfl ?_
          refine ao_readG (x := .bool r144.2) rfl (GV.F rfl) (fun hg146 => by
                have q147 := d_t (not_f (not_t hg146))
                exact r_move rfl) rfl ?_
          refine ao_readG (x := .bool r145.2) rfl (GV.F rfl) (fun hg148 => by
                have q149 := d_t (not_f (not_t hg148))
                exact r_move rfl) rfl ?_
          refine ao_readG (x := .bool (r144.2 != r145.2)) rfl (GV.F rfl) (fun hg150 => by
                have q151 := d_t (not_f (not_t hg150))
                exact Reads.strip 160 rfl (hg150) (Reads.strip 161 rfl (hg150) (r_neq_bool Try.underlying4 rfl rfl))) rfl ?_
          refine ao_read trivial (r_orB rfl rfl) rfl ?_
          refine ao_nil ?_
          refine aq_then ?_
          refine aw_cond rfl (fun hb152 => ?_) (fun hb152 => ?_)
          · replace h := is_if hb152 h
            refine aw_seq ?_
            refine aw_region ?_
            refine ao_read trivial (r_assign rfl) rfl ?_
            refine ao_nil ?_
            refine aq_then ?_
            refine aw_ret ?_
            refine aq_then_ret ?_
            refine aq_ret ?_
            obtain rfl := is_some h
            exact aq_finx (l := [.tmp 2]) (xs := [.bool false]) idn [.bool false] [] rfl (by exact ⟨rfl, trivial⟩) (by exact ⟨ad_ren rfl, trivial⟩) (by exact trivial) rfl (nk rfl) rfl rfl ⟨rfl, rfl⟩
          · obtain ⟨q153, q154⟩ := or_f hb152
            have q155 := d_t (not_f q153)
            replace h := is_else (ne_t hb152) h
            refine aw_skip ?_
            refine aq_then ?_
            refine aw_seq ?_
            refine aw_region ?_
            refine ao_read trivial (r_move rfl) rfl ?_
            obtain ⟨r156, r156h, h⟩ := is_bind h
            refine ao_call [] 4 trivial (c_spec_DrawChanceToBeat (is_mk r156h)) Try.func57 rfl rfl rfl rfl ⟨ad_ren rfl, trivial⟩ trivial rfl rfl rfl rfl rfl rfl rfl (fun r' H' hr => ?_)
            obtain ⟨rfl, rfl⟩ := hr
            refine ao_norm (y := .tup [.os 4, .os 5]) (H' := [(3, .var [.arr (.int .i64) 3 r4.1]), (2, .var [.arr (.int .i64) 3 r3.1]), (1, .var [.arr (.int .i64) 6 r2.2]), (0, .var [.arr (.int .i64) 6 r2.1]), (4, .row (.arr 6 (.int .i64)) r156.1), (5, .row (.arr 6 (.int .i64)) r156.2)]) rfl rfl ?_
            refine row_len_o 4 (r156.1.length : Int) rfl rfl (fun hr157 => ?_)
            refine row_len_o 5 (r156.2.length : Int) rfl rfl (fun hr158 => ?_)
            refine ao_read trivial (r_move rfl) rfl ?_
            refine ao_read trivial (r_extract rfl rfl) rfl ?_
            refine ao_read trivial (r_extract rfl rfl) rfl ?_
            refine ao_read trivial (r_assign rfl) rfl ?_
            refine ao_read trivial (r_assign rfl) rfl ?_
            refine ao_nil ?_
            refine aq_then ?_
            refine aw_seq ?_
            refine aw_region ?_
            refine ao_read trivial (r_move rfl) rfl ?_
            refine ao_read trivial (r_move rfl) rfl ?_
            obtain ⟨r159, r159h, h⟩ := is_bind h
            refine ao_scall trivial (scall (c_impl_ChanceToBeat (is_mk r159h)) rfl Try.func58 rfl rfl rfl rfl (fun σ => ⟨ad_os0 rfl, ad_os0 rfl, trivial⟩)) rfl ?_
            refine ao_read trivial (r_move rfl) rfl ?_
            refine ao_read trivial (r_extract rfl rfl) rfl ?_
            refine ao_read trivial (r_extract rfl rfl) rfl ?_
            refine ao_eff trivial (e_alloc 6 (y := .v (.arr 2 (.int .i64)) ((List.replicate 2 0) : (List Int))) Try.zeroValue35 (fun ρ h M => ra_zero_arr (t := (.int .i64)) rfl) rfl rfl rfl rfl rfl) rfl ?_
            refine ao_effS trivial (e_store rfl rfl rfl rfl Try.sizeOf35 rfl) ?_
            refine ao_read trivial (r_assign rfl) rfl ?_
            refine ao_nil ?_
            refine aq_then ?_
            refine aw_seq ?_
            refine aw_seq ?_
            refine aw_region ?_
            refine ao_read trivial (r_move rfl) rfl ?_
            refine ao_read trivial (r_move rfl) rfl ?_
            obtain ⟨r160, r160h, h⟩ := is_bind h
            refine ao_scall trivial (scall (c_spec_ChanceToBeat (is_mk r160h)) rfl Try.func59 rfl rfl rfl rfl (fun σ => ⟨ad_os0 rfl, ad_os0 rfl, trivial⟩)) rfl ?_
            refine ao_read trivial (r_move rfl) rfl ?_
            refine ao_read trivial (r_extract rfl rfl) rfl ?_
            refine ao_read trivial (r_extract rfl rfl) rfl ?_
            refine ao_eff trivial (e_alloc 7 (y := .v (.arr 2 (.int .i64)) ((List.replicate 2 0) : (List Int))) Try.zeroValue35 (fun ρ h M => ra_zero_arr (t := (.int .i64)) rfl) rfl rfl rfl rfl rfl) rfl ?_
            refine ao_effS trivial (e_store rfl rfl rfl rfl Try.sizeOf35 rfl) ?_
            refine ao_read trivial (r_assign rfl) rfl ?_
            refine ao_nil ?_
            refine aq_then ?_
            refine aw_seq ?_
            refine aw_region ?_
            refine ao_read trivial (r_load_arr rfl Try.isAgg35 Try.sizeOf35 rfl rfl rfl) rfl ?_
            refine ao_read trivial (r_load_arr rfl Try.isAgg35 Try.sizeOf35 rfl rfl rfl) rfl ?_
            refine ao_read trivial (r_eq_ints Try.underlying35 Try.underlying3 Try.isAgg3 (info_size Try.sizeOf3) (by kernel_rfl) rfl rfl rfl) rfl ?_
            refine ao_read trivial (r_move rfl) rfl ?_
            refine ao_readG (x := .bool r159.2) rfl (GV.F rfl) (fun hg161 => r_move rfl) rfl ?_
            refine ao_readG (x := .bool r160.2) rfl (GV.F rfl) (fun hg162 => r_move rfl) rfl ?_
            refine ao_readG (x := .bool (r159.2 != r160.2)) rfl (GV.F rfl) (fun hg163 => Reads.strip 185 rfl (hg163) (Reads.strip 186 rfl (hg163) (r_neq_bool Try.underlying4 rfl rfl))) rfl ?_
            refine ao_read trivial (r_orB rfl rfl) rfl ?_
            refine ao_read trivial (r_move rfl) rfl ?_
            refine ao_readG (x := .bool r159.2) rfl (GV.F rfl) (fun hg164 => by
                  obtain ⟨q165, q166⟩ := or_f (not_t hg164)
                  exact r_move rfl) rfl ?_
            refine ao_readG (x := .os 4) rfl (GV.F rfl) (fun hg167 => by
                  obtain ⟨q168, q169⟩ := or_f (not_t hg167)
                  exact r_move rfl) rfl ?_
            refine ao_scallG (r := .bool (p_impl_IsPool r156.1)) rfl (GV.F rfl) (fun hg170 => by
                  obtain ⟨q171, q172⟩ := or_f (not_t hg170)
                  exact SCall.strip 191 rfl (hg170) (scall (c_impl_IsPool (is_mk (rfl : p_impl_IsPool r156.1 = _))) rfl Try.func60 rfl rfl rfl rfl (fun σ => ⟨ad_os0 rfl, trivial⟩))) rfl ?_
            refine ao_readG (x := .bool (p_impl_IsPool r156.1)) rfl (GV.F rfl) (fun hg173 => by
                  obtain ⟨q174, q175⟩ := or_f (not_t hg173)
                  exact Reads.strip 192 rfl (hg173) (r_move rfl)) rfl ?_
            refine ao_readG (x := .os 5) rfl (GV.gT rfl) (fun hg176 => by
                  obtain ⟨q177, q178⟩ := and_t hg176
                  obtain ⟨q179, q180⟩ := or_f (not_t q177)
                  exact r_move rfl) rfl ?_
            refine ao_scallG (r := .bool (p_impl_IsPool r156.2)) rfl (GV.gT rfl) (fun hg181 => by
                  obtain ⟨q182, q183⟩ := and_t hg181
                  obtain ⟨q184, q185⟩ := or_f (not_t q182)
                  exact SCall.strip 194 rfl (hg181) (scall (c_impl_IsPool (is_mk (rfl : p_impl_IsPool r156.2 = _))) rfl Try.func60 rfl rfl rfl rfl (fun σ => ⟨ad_os0 rfl, trivial⟩))) rfl ?_
            refine ao_readG (x := .bool ((p_impl_IsPool r156.1) && (p_impl_IsPool r156.2))) rfl (GV.F rfl) (fun hg186 => by
                  obtain ⟨q187, q188⟩ := or_f (not_t hg186)
                  exact Reads.strip 193 rfl (hg186) (r_andBg rfl rfl (tr_and (hg186)))) rfl ?_
            refine ao_readG (x := .bool (r159.2 != ((p_impl_IsPool r156.1) && (p_impl_IsPool r156.2)))) rfl (GV.F rfl) (fun hg189 => by
                  obtain ⟨q190, q191⟩ := or_f (not_t hg189)
                  exact Reads.strip 190 rfl (hg189) (Reads.strip 196 rfl (hg189) (r_neq_bool Try.underlying4 rfl rfl))) rfl ?_
            refine ao_read trivial (r_orB rfl rfl) rfl ?_
            refine ao_nil ?_
            refine aq_then ?_
            refine aw_cond rfl (fun hb192 => ?_) (fun hb192 => ?_)
            · replace h := is_if hb192 h
              refine aw_seq ?_
              refine aw_region ?_
              refine ao_read trivial (r_assign rfl) rfl ?_
              refine ao_nil ?_
              refine aq_then ?_
              refine aw_ret ?_
              refine aq_then_ret ?_
              refine aq_ret ?_
              obtain rfl := is_some h
              exact aq_finx (l := [.tmp 2]) (xs := [.bool false]) idn [.bool false] [] rfl (by exact ⟨rfl, trivial⟩) (by exact ⟨ad_ren rfl, trivial⟩) (by exact trivial) rfl (nk rfl) rfl rfl ⟨rfl, rfl⟩
            · obtain ⟨q193, q194⟩ := or_f hb192
              obtain ⟨q195, q196⟩ := or_f q193
              replace h := is_else (ne_t hb192) h
              refine aw_skip ?_
              refine aq_then ?_
              refine aw_seq ?_
              refine aw_region ?_
              refine ao_read trivial (r_move rfl) rfl ?_
              refine ao_read trivial (r_move rfl) rfl ?_
              obtain ⟨r197, r197h, h⟩ := is_bind h
              refine ao_scall trivial (scall (c_impl_ChanceLevel (is_mk r197h)) rfl Try.func61 rfl rfl rfl rfl (fun σ => ⟨ad_os0 rfl, ad_os0 rfl, trivial⟩)) rfl ?_
              refine ao_read trivial (r_move rfl) rfl ?_
              refine ao_read trivial (r_extract rfl rfl) rfl ?_
              refine ao_read trivial (r_extract rfl rfl) rfl ?_
              refine ao_eff trivial (e_alloc 8 (y := .v (.arr 2 (.int .i64)) ((List.replicate 2 0) : (List Int))) Try.zeroValue35 (fun ρ h M => ra_zero_arr (t := (.int .i64)) rfl) rfl rfl rfl rfl rfl) rfl ?_
              refine ao_effS trivial (e_store rfl rfl rfl rfl Try.sizeOf35 rfl) ?_
              refine ao_read trivial (r_assign rfl) rfl ?_
              refine ao_nil ?_
              refine aq_then ?_
              refine aw_seq ?_
              refine aw_seq ?_
              refine aw_region ?_
              refine ao_read trivial (r_move rfl) rfl ?_
              refine ao_read trivial (r_move rfl) rfl ?_
              obtain ⟨r198, r198h, h⟩ := is_bind h
              refine ao_scall trivial (scall (c_spec_ChanceLevel (is_mk r198h)) rfl Try.func62 rfl rfl rfl rfl (fun σ => ⟨ad_os0 rfl, ad_os0 rfl, trivial⟩)) rfl ?_
              refine ao_read trivial (r_move rfl) rfl ?_
              refine ao_read trivial (r_extract rfl rfl) rfl ?_
              refine ao_read trivial (r_extract rfl rfl) rfl ?_
              refine ao_eff trivial (e_alloc 9 (y := .v (.arr 2 (.int .i64)) ((List.replicate 2 0) : (List Int))) Try.zeroValue35 (fun ρ h M => ra_zero_arr (t := (.int .i64)) rfl) rfl rfl rfl rfl rfl) rfl ?_
              refine ao_effS trivial (e_store rfl rfl rfl rfl Try.sizeOf35 rfl) ?_
              refine ao_read trivial (r_assign rfl) rfl ?_
              refine ao_nil ?_
              refine aq_then ?_
              refine aw_seq ?_
              refine aw_region ?_
              refine ao_read trivial (r_load_arr rfl Try.isAgg35 Try.sizeOf35 rfl rfl rfl) rfl ?_
              refine ao_read trivial (r_load_arr rfl Try.isAgg35 Try.sizeOf35 rfl rfl rfl) rfl ?_
              refine ao_read trivial (r_eq_ints Try.underlying35 Try.underlying3 Try.isAgg3 (info_size Try.sizeOf3) (by kernel_rfl) rfl rfl rfl) rfl ?_
              refine ao_read trivial (r_move rfl) rfl ?_
              refine ao_readG (x := .bool r197.2) rfl (GV.F rfl) (fun hg199 => r_move rfl) rfl ?_
              refine ao_readG (x := .bool r198.2) rfl (GV.F rfl) (fun hg200 => r_move rfl) rfl ?_
              refine ao_readG (x := .bool (r197.2 != r198.2)) rfl (GV.F rfl) (fun hg201 => Reads.strip 215 rfl (hg201) (Reads.strip 216 rfl (hg201) (r_neq_bool Try.underlying4 rfl rfl))) rfl ?_
              refine ao_read trivial (r_orB rfl rfl) rfl ?_
              refine ao_read trivial (r_move rfl) rfl ?_
              refine ao_readG (x := .bool r197.2) rfl (GV.F rfl) (fun hg202 => by
                    obtain ⟨q203, q204⟩ := or_f (not_t hg202)
                    exact r_move rfl) rfl ?_
              refine ao_readG (x := .bool r159.2) rfl (GV.F rfl) (fun hg205 => by
                    obtain ⟨q206, q207⟩ := or_f (not_t hg205)
                    exact r_move rfl) rfl ?_
              refine ao_readG (x := .bool (r197.2 != r159.2)) rfl (GV.F rfl) (fun hg208 => by
                    obtain ⟨q209, q210⟩ := or_f (not_t hg208)
                    exact Reads.strip 220 rfl (hg208) (Reads.strip 221 rfl (hg208) (r_neq_bool Try.underlying4 rfl rfl))) rfl ?_
              refine ao_read trivial (r_orB rfl rfl) rfl ?_
              refine ao_nil ?_
              refine aq_then ?_
              refine aw_cond rfl (fun hb211 => ?_) (fun hb211 => ?_)
              · replace h := is_if hb211 h
                refine aw_seq ?_
                refine aw_region ?_
                refine ao_read trivial (r_assign rfl) rfl ?_
                refine ao_nil ?_
                refine aq_then ?_
                refine aw_ret ?_
                refine aq_then_ret ?_
                refine aq_ret ?_
                obtain rfl := is_some h
                exact aq_finx (l := [.tmp 2]) (xs := [.bool false]) idn [.bool false] [] rfl (by exact ⟨rfl, trivial⟩) (by exact ⟨ad_ren rfl, trivial⟩) (by exact trivial) rfl (nk rfl) rfl rfl ⟨rfl, rfl⟩
              · obtain ⟨q212, q213⟩ := or_f hb211
                obtain ⟨q214, q215⟩ := or_f q212
                replace h := is_else (ne_t hb211) h
                refine aw_skip ?_
                refine aq_then ?_
                refine aw_join (fun (s216 : Unit) => [(3, .ref 0 0), (4, .ref 1 0), (5, .ref 2 0), (6, .bool r3.2), (9, .bool r41.1), (13, .bool ((p_impl_DoesCover r2.1 r2.2).1)), (17, .int .i64 r144.1), (18, .bool r144.2)]) (fun (s216 : Unit) => [(0, .var [.arr (.int .i64) 6 r2.1]), (1, .var [.arr (.int .i64) 6 r2.2]), (2, .var [.arr (.int .i64) 3 r3.1])]) (fun (s216 : Unit) => True) h (fun s216 hI h => ?_) (fun h j218 => ?_)
                · refine aw_join (fun (s219 : Unit) => [(3, .ref 0 0), (4, .ref 1 0), (5, .ref 2 0), (6, .bool r3.2), (9, .bool r41.1), (13, .bool ((p_impl_DoesCover r2.1 r2.2).1))]) (fun (s219 : Unit) => [(0, .var [.arr (.int .i64) 6 r2.1]), (1, .var [.arr (.int .i64) 6 r2.2]), (2, .var [.arr (.int .i64) 3 r3.1])]) (fun (s219 : Unit) => True) h (fun s219 hI h => ?_) (fun h j221 => ?_)
                  · refine aw_seq ?_
                    refine aw_seq ?_
                    refine aw_region ?_
                    refine ao_read trivial (r_move rfl) rfl ?_
                    refine ao_read trivial (r_not rfl) rfl ?_
                    refine ao_nil ?_
                    refine aq_then ?_
                    refine aw_cond rfl (fun hb222 => ?_) (fun hb222 => ?_)
                    · replace h := is_else (ne_t (not_t hb222)) h
                      refine aw_seq ?_
                      refine aw_region ?_
                      refine ao_read trivial (r_assign rfl) rfl ?_
                      refine ao_nil ?_
                      refine aq_then ?_
                      refine aw_ret ?_
                      refine aq_then_ret ?_
                      refine aq_ret ?_
                      obtain rfl := is_some h
                      exact aq_finx (l := [.tmp 2]) (xs := [.bool true]) idn [.bool true] [] rfl (by exact ⟨rfl, trivial⟩) (by exact ⟨ad_ren rfl, trivial⟩) (by exact trivial) rfl (nk rfl) rfl rfl ⟨rfl, rfl⟩
                    · replace h := is_if (not_f hb222) h
                      refine aw_skip ?_
                      refine aq_then ?_
                      refine aw_seq ?_
                      refine aw_region ?_
                      refine ao_read trivial (r_load_arr rfl Try.isAgg60 Try.sizeOf60 rfl rfl rfl) rfl ?_
                      refine ao_read trivial (r_load_arr rfl Try.isAgg60 Try.sizeOf60 rfl rfl rfl) rfl ?_
                      obtain ⟨r223, r223h, h⟩ := is_bind h
                      refine ao_scall trivial (scall (c_impl_CompareDice (is_mk r223h)) rfl Try.func48 rfl rfl rfl rfl (fun σ => ⟨ad_ren rfl, ad_ren rfl, trivial⟩)) rfl ?_
                      refine ao_read trivial (r_move rfl) rfl ?_
                      refine ao_read trivial (r_extract rfl rfl) rfl ?_
                      refine ao_read trivial (r_extract rfl rfl) rfl ?_
                      refine ao_eff trivial (e_alloc 3 (y := .v (.arr 3 (.int .i64)) ((List.replicate 3 0) : (List Int))) Try.zeroValue63 (fun ρ h M => ra_zero_arr (t := (.int .i64)) rfl) rfl rfl rfl rfl rfl) rfl ?_
                      refine ao_effS trivial (e_store rfl rfl rfl rfl Try.sizeOf63 rfl) ?_
                      refine ao_read trivial (r_assign rfl) rfl ?_
                      refine ao_nil ?_
                      refine aq_then ?_
                      refine aw_seq ?_
                      refine aw_region ?_
                      refine ao_read trivial (r_load_arr rfl Try.isAgg60 Try.sizeOf60 rfl rfl rfl) rfl ?_
                      refine ao_read trivial (r_load_arr rfl Try.isAgg60 Try.sizeOf60 rfl rfl rfl) rfl ?_
                      obtain ⟨r224, r224h, h⟩ := is_bind h
                      refine ao_scall trivial (scall (c_impl_DoesBeat (is_mk r224h)) rfl Try.func51 rfl rfl rfl rfl (fun σ => ⟨ad_ren rfl, ad_ren rfl, trivial⟩)) rfl ?_
                      refine ao_read trivial (r_move rfl) rfl ?_
                      refine ao_read trivial (r_extract rfl rfl) rfl ?_
                      refine ao_read trivial (r_extract rfl rfl) rfl ?_
                      refine ao_read trivial (r_assign rfl) rfl ?_
                      refine ao_read trivial (r_assign rfl) rfl ?_
                      refine ao_nil ?_
                      refine aq_then ?_
                      refine aw_seq ?_
                      refine aw_region ?_
                      refine ao_read trivial (r_move rfl) rfl ?_
                      refine ao_read trivial (r_move rfl) rfl ?_
                      refine ao_readG (x := .bool r224.2) rfl (GV.T rfl) (fun hg225 => r_move rfl) rfl ?_
                      refine ao_read trivial (r_andB rfl rfl) rfl ?_
                      refine ao_read trivial (r_move rfl) rfl ?_
                      refine ao_readG (x := .elem 2 0 1 0) rfl (GV.T rfl) (fun hg226 => by
                            obtain ⟨q227, q228⟩ := and_t hg226
                            exact r_idxAddr_arr (i := 0) Try.underlying63 Try.sizeOf3 rfl rfl (show 0 ≤ 0 from by omega) (show 0 < (3 : Int) from by omega)) rfl ?_
                      refine ao_readG (x := .int .i64 (r3.1.getD 0 0)) rfl (GV.T rfl) (fun hg229 => by
                            obtain ⟨q230, q231⟩ := and_t hg229
                            exact Reads.strip 308 rfl (hg229) (r_load_elema_int Try.isAgg3 Try.sizeOf3 rfl rfl rfl (show 0 < 3 from by omega))) rfl ?_
                      refine ao_readG (x := .elem 2 0 1 1) rfl (GV.T rfl) (fun hg232 => by
                            obtain ⟨q233, q234⟩ := and_t hg232
                            exact r_idxAddr_arr (i := 1) Try.underlying63 Try.sizeOf3 rfl rfl (show 0 ≤ 1 from by omega) (show 1 < (3 : Int) from by omega)) rfl ?_
                      refine ao_readG (x := .int .i64 (r3.1.getD 1 0)) rfl (GV.T rfl) (fun hg235 => by
                            obtain ⟨q236, q237⟩ := and_t hg235
                            exact Reads.strip 310 rfl (hg235) (r_load_elema_int Try.isAgg3 Try.sizeOf3 rfl rfl rfl (show 1 < 3 from by omega))) rfl ?_
                      refine ao_readG (x := .int .i64 (IntKind.wrap .i64 ((r3.1.getD 0 0) + (r3.1.getD 1 0)))) rfl (GV.T rfl) (fun hg238 => by
                            obtain ⟨q239, q240⟩ := and_t hg238
                            exact Reads.strip 309 rfl (hg238) (Reads.strip 311 rfl (hg238) (r_add rfl rfl))) rfl ?_
                      refine ao_readG (x := .elem 2 0 1 2) rfl (GV.T rfl) (fun hg241 => by
                            obtain ⟨q242, q243⟩ := and_t hg241
                            exact r_idxAddr_arr (i := 2) Try.underlying63 Try.sizeOf3 rfl rfl (show 0 ≤ 2 from by omega) (show 2 < (3 : Int) from by omega)) rfl ?_
                      refine ao_readG (x := .int .i64 (r3.1.getD 2 0)) rfl (GV.T rfl) (fun hg244 => by
                            obtain ⟨q245, q246⟩ := and_t hg244
                            exact Reads.strip 313 rfl (hg244) (r_load_elema_int Try.isAgg3 Try.sizeOf3 rfl rfl rfl (show 2 < 3 from by omega))) rfl ?_
                      refine ao_readG (x := .int .i64 (IntKind.wrap .i64 ((IntKind.wrap .i64 ((r3.1.getD 0 0) + (r3.1.getD 1 0))) + (r3.1.getD 2 0)))) rfl (GV.T rfl) (fun hg247 => by
                            obtain ⟨q248, q249⟩ := and_t hg247
                            exact Reads.strip 312 rfl (hg247) (Reads.strip 314 rfl (hg247) (r_add rfl rfl))) rfl ?_
                      refine ao_readG (x := .bool (decide ((IntKind.wrap .i64 ((IntKind.wrap .i64 ((r3.1.getD 0 0) + (r3.1.getD 1 0))) + (r3.1.getD 2 0))) = 36))) rfl (GV.T rfl) (fun hg250 => by
                            obtain ⟨q251, q252⟩ := and_t hg250
                            exact Reads.strip 315 rfl (hg250) (r_eql rfl rfl)) rfl ?_
                      refine ao_read trivial (r_andB rfl rfl) rfl ?_
                      refine ao_read trivial (r_move rfl) rfl ?_
                      refine ao_readG (x := .elem 3 0 1 0) rfl (GV.T rfl) (fun hg253 => by
                            obtain ⟨q254, q255⟩ := and_t hg253
                            obtain ⟨q256, q257⟩ := and_t q254
                            have q258 : (IntKind.wrap .i64 ((IntKind.wrap .i64 ((r3.1.getD 0 0) + (r3.1.getD 1 0))) + (r3.1.getD 2 0))) = 36 := d_t q255
                            exact r_idxAddr_arr (i := 0) Try.underlying63 Try.sizeOf3 rfl rfl (show 0 ≤ 0 from by omega) (show 0 < (3 : Int) from by omega)) rfl ?_
                      refine ao_readG (x := .int .i64 (r223.1.getD 0 0)) rfl (GV.T rfl) (fun hg259 => by
                            obtain ⟨q260, q261⟩ := and_t hg259
                            obtain ⟨q262, q263⟩ := and_t q260
                            have q264 : (IntKind.wrap .i64 ((IntKind.wrap .i64 ((r3.1.getD 0 0) + (r3.1.getD 1 0))) + (r3.1.getD 2 0))) = 36 := d_t q261
                            exact Reads.strip 319 rfl (hg259) (r_load_elema_int Try.isAgg3 Try.sizeOf3 rfl rfl rfl (show 0 < 3 from by omega))) rfl ?_
                      refine ao_readG (x := .elem 2 0 1 2) rfl (GV.T rfl) (fun hg265 => by
                            obtain ⟨q266, q267⟩ := and_t hg265
                            obtain ⟨q268, q269⟩ := and_t q266
                            have q270 : (IntKind.wrap .i64 ((IntKind.wrap .i64 ((r3.1.getD 0 0) + (r3.1.getD 1 0))) + (r3.1.getD 2 0))) = 36 := d_t q267
                            exact r_idxAddr_arr (i := 2) Try.underlying63 Try.sizeOf3 rfl rfl (show 0 ≤ 2 from by omega) (show 2 < (3 : Int) from by omega)) rfl ?_
                      refine ao_readG (x := .int .i64 (r3.1.getD 2 0)) rfl (GV.T rfl) (fun hg271 => by
                            obtain ⟨q272, q273⟩ := and_t hg271
                            obtain ⟨q274, q275⟩ := and_t q272
                            have q276 : (IntKind.wrap .i64 ((IntKind.wrap .i64 ((r3.1.getD 0 0) + (r3.1.getD 1 0))) + (r3.1.getD 2 0))) = 36 := d_t q273
                            exact Reads.strip 321 rfl (hg271) (r_load_elema_int Try.isAgg3 Try.sizeOf3 rfl rfl rfl (show 2 < 3 from by omega))) rfl ?_
                      refine ao_readG (x := .bool (decide ((r223.1.getD 0 0) = (r3.1.getD 2 0)))) rfl (GV.T rfl) (fun hg277 => by
                            obtain ⟨q278, q279⟩ := and_t hg277
                            obtain ⟨q280, q281⟩ := and_t q278
                            have q282 : (IntKind.wrap .i64 ((IntKind.wrap .i64 ((r3.1.getD 0 0) + (r3.1.getD 1 0))) + (r3.1.getD 2 0))) = 36 := d_t q279
                            exact Reads.strip 320 rfl (hg277) (Reads.strip 322 rfl (hg277) (r_eql rfl rfl))) rfl ?_
                      refine ao_read trivial (r_andB rfl rfl) rfl ?_
                      refine ao_read trivial (r_move rfl) rfl ?_
                      refine ao_readG (x := .elem 3 0 1 2) rfl (GV.T rfl) (fun hg283 => by
                            obtain ⟨q284, q285⟩ := and_t hg283
                            obtain ⟨q286, q287⟩ := and_t q284
                            obtain ⟨q288, q289⟩ := and_t q286
                            have q290 : (IntKind.wrap .i64 ((IntKind.wrap .i64 ((r3.1.getD 0 0) + (r3.1.getD 1 0))) + (r3.1.getD 2 0))) = 36 := d_t q287
                            have q291 : (r223.1.getD 0 0) = (r3.1.getD 2 0) := d_t q285
                            exact r_idxAddr_arr (i := 2) Try.underlying63 Try.sizeOf3 rfl rfl (show 0 ≤ 2 from by omega) (show 2 < (3 : Int) from by omega)) rfl ?_
                      refine ao_readG (x := .int .i64 (r223.1.getD 2 0)) rfl (GV.T rfl) (fun hg292 => by
                            obtain ⟨q293, q294⟩ := and_t hg292
                            obtain ⟨q295, q296⟩ := and_t q293
                            obtain ⟨q297, q298⟩ := and_t q295
                            have q299 : (IntKind.wrap .i64 ((IntKind.wrap .i64 ((r3.1.getD 0 0) + (r3.1.getD 1 0))) + (r3.1.getD 2 0))) = 36 := d_t q296
                            have q300 : (r223.1.getD 0 0) = (r3.1.getD 2 0) := d_t q294
                            exact Reads.strip 326 rfl (hg292) (r_load_elema_int Try.isAgg3 Try.sizeOf3 rfl rfl rfl (show 2 < 3 from by omega))) rfl ?_
                      refine ao_readG (x := .elem 2 0 1 0) rfl (GV.T rfl) (fun hg301 => by
                            obtain ⟨q302, q303⟩ := and_t hg301
                            obtain ⟨q304, q305⟩ := and_t q302
                            obtain ⟨q306, q307⟩ := and_t q304
                            have q308 : (IntKind.wrap .i64 ((IntKind.wrap .i64 ((r3.1.getD 0 0) + (r3.1.getD 1 0))) + (r3.1.getD 2 0))) = 36 := d_t q305
                            have q309 : (r223.1.getD 0 0) = (r3.1.getD 2 0) := d_t q303
                            exact r_idxAddr_arr (i := 0) Try.underlying63 Try.sizeOf3 rfl rfl (show 0 ≤ 0 from by omega) (show 0 < (3 : Int) from by omega)) rfl ?_
                      refine ao_readG (x := .int .i64 (r3.1.getD 0 0)) rfl (GV.T rfl) (fun hg310 => by
                            obtain ⟨q311, q312⟩ := and_t hg310
                            obtain ⟨q313, q314⟩ := and_t q311
                            obtain ⟨q315, q316⟩ := and_t q313
                            have q317 : (IntKind.wrap .i64 ((IntKind.wrap .i64 ((r3.1.getD 0 0) + (r3.1.getD 1 0))) + (r3.1.getD 2 0))) = 36 := d_t q314
                            have q318 : (r223.1.getD 0 0) = (r3.1.getD 2 0) := d_t q312
                            exact Reads.strip 328 rfl (hg310) (r_load_elema_int Try.isAgg3 Try.sizeOf3 rfl rfl rfl (show 0 < 3 from by omega))) rfl ?_
                      refine ao_readG (x := .bool (decide ((r223.1.getD 2 0) = (r3.1.getD 0 0)))) rfl (GV.T rfl) (fun hg319 => by
                            obtain ⟨q320, q321⟩ := and_t hg319
                            obtain ⟨q322, q323⟩ := and_t q320
                            obtain ⟨q324, q325⟩ := and_t q322
                            have q326 : (IntKind.wrap .i64 ((IntKind.wrap .i64 ((r3.1.getD 0 0) + (r3.1.getD 1 0))) + (r3.1.getD 2 0))) = 36 := d_t q323
                            have q327 : (r223.1.getD 0 0) = (r3.1.getD 2 0) := d_t q321
                            exact Reads.strip 327 rfl (hg319) (Reads.strip 329 rfl (hg319) (r_eql rfl rfl))) rfl ?_
                      refine ao_read trivial (r_andB rfl rfl) rfl ?_
                      refine ao_read trivial (r_move rfl) rfl ?_
                      refine ao_readG (x := .bool r41.1) rfl (GV.T rfl) (fun hg328 => by
                            obtain ⟨q329, q330⟩ := and_t hg328
                            obtain ⟨q331, q332⟩ := and_t q329
                            obtain ⟨q333, q334⟩ := and_t q331
                            obtain ⟨q335, q336⟩ := and_t q333
                            have q337 : (IntKind.wrap .i64 ((IntKind.wrap .i64 ((r3.1.getD 0 0) + (r3.1.getD 1 0))) + (r3.1.getD 2 0))) = 36 := d_t q334
                            have q338 : (r223.1.getD 0 0) = (r3.1.getD 2 0) := d_t q332
                            have q339 : (r223.1.getD 2 0) = (r3.1.getD 0 0) := d_t q330
                            exact r_move rfl) rfl ?_
                      refine ao_readG (x := .bool r41.1) rfl (GV.T rfl) (fun hg340 => by
                            obtain ⟨q341, q342⟩ := and_t hg340
                            obtain ⟨q343, q344⟩ := and_t q341
                            obtain ⟨q345, q346⟩ := and_t q343
                            obtain ⟨q347, q348⟩ := and_t q345
                            have q349 : (IntKind.wrap .i64 ((IntKind.wrap .i64 ((r3.1.getD 0 0) + (r3.1.getD 1 0))) + (r3.1.getD 2 0))) = 36 := d_t q346
                            have q350 : (r223.1.getD 0 0) = (r3.1.getD 2 0) := d_t q344
                            have q351 : (r223.1.getD 2 0) = (r3.1.getD 0 0) := d_t q342
                            exact Reads.strip 333 rfl (hg340) (r_move rfl)) rfl ?_
                      refine ao_readG (x := .bool r224.1) rfl (GV.gT rfl) (fun hg352 => by
                            obtain ⟨q353, q354⟩ := and_t hg352
                            obtain ⟨q355, q356⟩ := and_t q353
                            obtain ⟨q357, q358⟩ := and_t q355
                            obtain ⟨q359, q360⟩ := and_t q357
                            obtain ⟨q361, q362⟩ := and_t q359
                            have q363 : (IntKind.wrap .i64 ((IntKind.wrap .i64 ((r3.1.getD 0 0) + (r3.1.getD 1 0))) + (r3.1.getD 2 0))) = 36 := d_t q360
                            have q364 : (r223.1.getD 0 0) = (r3.1.getD 2 0) := d_t q358
                            have q365 : (r223.1.getD 2 0) = (r3.1.getD 0 0) := d_t q356
                            exact r_move rfl) rfl ?_
                      refine ao_readG (x := .bool (r41.1 && r224.1)) rfl (GV.T rfl) (fun hg366 => by
                            obtain ⟨q367, q368⟩ := and_t hg366
                            obtain ⟨q369, q370⟩ := and_t q367
                            obtain ⟨q371, q372⟩ := and_t q369
                            obtain ⟨q373, q374⟩ := and_t q371
                            have q375 : (IntKind.wrap .i64 ((IntKind.wrap .i64 ((r3.1.getD 0 0) + (r3.1.getD 1 0))) + (r3.1.getD 2 0))) = 36 := d_t q372
                            have q376 : (r223.1.getD 0 0) = (r3.1.getD 2 0) := d_t q370
                            have q377 : (r223.1.getD 2 0) = (r3.1.getD 0 0) := d_t q368
                            exact Reads.strip 334 rfl (hg366) (r_andBg rfl rfl (tr_and (hg366)))) rfl ?_
                      refine ao_readG (x := .bool (!(r41.1 && r224.1))) rfl (GV.T rfl) (fun hg378 => by
                            obtain ⟨q379, q380⟩ := and_t hg378
                            obtain ⟨q381, q382⟩ := and_t q379
                            obtain ⟨q383, q384⟩ := and_t q381
                            obtain ⟨q385, q386⟩ := and_t q383
                            have q387 : (IntKind.wrap .i64 ((IntKind.wrap .i64 ((r3.1.getD 0 0) + (r3.1.getD 1 0))) + (r3.1.getD 2 0))) = 36 := d_t q384
                            have q388 : (r223.1.getD 0 0) = (r3.1.getD 2 0) := d_t q382
                            have q389 : (r223.1.getD 2 0) = (r3.1.getD 0 0) := d_t q380
                            exact Reads.strip 336 rfl (hg378) (r_not rfl)) rfl ?_
                      refine ao_read trivial (r_andB rfl rfl) rfl ?_
                      refine ao_read trivial (r_move rfl) rfl ?_
                      refine ao_readG (x := .bool ((p_impl_DoesCover r2.1 r2.2).1)) rfl (GV.T rfl) (fun hg390 => by
                            obtain ⟨q391, q392⟩ := and_t hg390
                            obtain ⟨q393, q394⟩ := and_t q391
                            obtain ⟨q395, q396⟩ := and_t q393
                            obtain ⟨q397, q398⟩ := and_t q395
                            obtain ⟨q399, q400⟩ := and_t q397
                            have q401 : (IntKind.wrap .i64 ((IntKind.wrap .i64 ((r3.1.getD 0 0) + (r3.1.getD 1 0))) + (r3.1.getD 2 0))) = 36 := d_t q398
                            have q402 : (r223.1.getD 0 0) = (r3.1.getD 2 0) := d_t q396
                            have q403 : (r223.1.getD 2 0) = (r3.1.getD 0 0) := d_t q394
                            exact r_move rfl) rfl ?_
                      refine ao_readG (x := .bool ((p_impl_DoesCover r2.1 r2.2).1)) rfl (GV.T rfl) (fun hg404 => by
                            obtain ⟨q405, q406⟩ := and_t hg404
                            obtain ⟨q407, q408⟩ := and_t q405
                            obtain ⟨q409, q410⟩ := and_t q407
                            obtain ⟨q411, q412⟩ := and_t q409
                            obtain ⟨q413, q414⟩ := and_t q411
                            have q415 : (IntKind.wrap .i64 ((IntKind.wrap .i64 ((r3.1.getD 0 0) + (r3.1.getD 1 0))) + (r3.1.getD 2 0))) = 36 := d_t q412
                            have q416 : (r223.1.getD 0 0) = (r3.1.getD 2 0) := d_t q410
                            have q417 : (r223.1.getD 2 0) = (r3.1.getD 0 0) := d_t q408
                            exact Reads.strip 340 rfl (hg404) (r_move rfl)) rfl ?_
                      refine ao_readG (x := .bool r224.1) rfl (GV.gT rfl) (fun hg418 => by
                            obtain ⟨q419, q420⟩ := and_t hg418
                            obtain ⟨q421, q422⟩ := and_t q419
                            obtain ⟨q423, q424⟩ := and_t q421
                            obtain ⟨q425, q426⟩ := and_t q423
                            obtain ⟨q427, q428⟩ := and_t q425
                            obtain ⟨q429, q430⟩ := and_t q427
                            have q431 : (IntKind.wrap .i64 ((IntKind.wrap .i64 ((r3.1.getD 0 0) + (r3.1.getD 1 0))) + (r3.1.getD 2 0))) = 36 := d_t q428
                            have q432 : (r223.1.getD 0 0) = (r3.1.getD 2 0) := d_t q426
                            have q433 : (r223.1.getD 2 0) = (r3.1.getD 0 0) := d_t q424
                            exact r_move rfl) rfl ?_
                      refine ao_readG (x := .bool (((p_impl_DoesCover r2.1 r2.2).1) && r224.1)) rfl (GV.T rfl) (fun hg434 => by
                            obtain ⟨q435, q436⟩ := and_t hg434
                            obtain ⟨q437, q438⟩ := and_t q435
                            obtain ⟨q439, q440⟩ := and_t q437
                            obtain ⟨q441, q442⟩ := and_t q439
                            obtain ⟨q443, q444⟩ := and_t q441
                            have q445 : (IntKind.wrap .i64 ((IntKind.wrap .i64 ((r3.1.getD 0 0) + (r3.1.getD 1 0))) + (r3.1.getD 2 0))) = 36 := d_t q442
                            have q446 : (r223.1.getD 0 0) = (r3.1.getD 2 0) := d_t q440
                            have q447 : (r223.1.getD 2 0) = (r3.1.getD 0 0) := d_t q438
                            exact Reads.strip 341 rfl (hg434) (r_andBg rfl rfl (tr_and (hg434)))) rfl ?_
                      refine ao_readG (x := .bool (!(((p_impl_DoesCover r2.1 r2.2).1) && r224.1))) rfl (GV.T rfl) (fun hg448 => by
                            obtain ⟨q449, q450⟩ := and_t hg448
                            obtain ⟨q451, q452⟩ := and_t q449
                            obtain ⟨q453, q454⟩ := and_t q451
                            obtain ⟨q455, q456⟩ := and_t q453
                            obtain ⟨q457, q458⟩ := and_t q455
                            have q459 : (IntKind.wrap .i64 ((IntKind.wrap .i64 ((r3.1.getD 0 0) + (r3.1.getD 1 0))) + (r3.1.getD 2 0))) = 36 := d_t q456
                            have q460 : (r223.1.getD 0 0) = (r3.1.getD 2 0) := d_t q454
                            have q461 : (r223.1.getD 2 0) = (r3.1.getD 0 0) := d_t q452
                            exact Reads.strip 343 rfl (hg448) (r_not rfl)) rfl ?_
                      refine ao_read trivial (r_andB rfl rfl) rfl ?_
                      refine ao_read trivial (r_assign rfl) rfl ?_
                      refine ao_nil ?_
                      refine aq_then ?_
                      refine aw_ret ?_
                      refine aq_ret ?_
                      obtain rfl := is_some h
                      exact aq_finx (l := [.tmp 2]) (xs := [.bool ((((((r223.2 && r224.2) && (decide ((IntKind.wrap .i64 ((IntKind.wrap .i64 ((r3.1.getD 0 0) + (r3.1.getD 1 0))) + (r3.1.getD 2 0))) = 36))) && (decide ((r223.1.getD 0 0) = (r3.1.getD 2 0)))) && (decide ((r223.1.getD 2 0) = (r3.1.getD 0 0)))) && (!(r41.1 && r224.1))) && (!(((p_impl_DoesCover r2.1 r2.2).1) && r224.1)))]) idn [.bool ((((((r223.2 && r224.2) && (decide ((IntKind.wrap .i64 ((IntKind.wrap .i64 ((r3.1.getD 0 0) + (r3.1.getD 1 0))) + (r3.1.getD 2 0))) = 36))) && (decide ((r223.1.getD 0 0) = (r3.1.getD 2 0)))) && (decide ((r223.1.getD 2 0) = (r3.1.getD 0 0)))) && (!(r41.1 && r224.1))) && (!(((p_impl_DoesCover r2.1 r2.2).1) && r224.1)))] [] rfl (by exact ⟨rfl, trivial⟩) (by exact ⟨ad_ren rfl, trivial⟩) (by exact trivial) rfl (nk rfl) rfl rfl ⟨rfl, rfl⟩
                  · refine aw_seq ?_
                    refine aw_region ?_
                    refine ao_read trivial (r_move rfl) rfl ?_
                    refine ao_nil ?_
                    refine aq_then ?_
                    refine aw_cond rfl (fun hb462 => ?_) (fun hb462 => ?_)
                    · replace h := is_if hb462 h
                      refine aw_seq ?_
                      refine aw_region ?_
                      refine ao_read trivial (r_load_arr rfl Try.isAgg60 Try.sizeOf60 rfl rfl rfl) rfl ?_
                      refine ao_read trivial (r_move rfl) rfl ?_
                      refine ao_scall trivial (scall (c_impl_ShiftDie (is_mk (rfl : p_impl_ShiftDie r2.1 r144.1 = _))) rfl Try.func64 rfl rfl rfl rfl (fun σ => ⟨ad_ren rfl, ad_ren rfl, trivial⟩)) rfl ?_
                      refine ao_read trivial (r_move rfl) rfl ?_
                      refine ao_read trivial (r_extract rfl rfl) rfl ?_
                      refine ao_read trivial (r_extract rfl rfl) rfl ?_
                      refine ao_eff trivial (e_alloc 3 (y := .v (.arr 6 (.int .i64)) ((List.replicate 6 0) : (List Int))) Try.zeroValue60 (fun ρ h M => ra_zero_arr (t := (.int .i64)) rfl) rfl rfl rfl rfl rfl) rfl ?_
                      refine ao_effS trivial (e_store rfl rfl rfl rfl Try.sizeOf60 rfl) ?_
                      refine ao_read trivial (r_assign rfl) rfl ?_
                      refine ao_nil ?_
                      refine aq_then ?_
                      refine aw_seq ?_
                      refine aw_region ?_
                      refine ao_read trivial (r_load_arr rfl Try.isAgg60 Try.sizeOf60 rfl rfl rfl) rfl ?_
                      refine ao_read trivial (r_load_arr rfl Try.isAgg60 Try.sizeOf60 rfl rfl rfl) rfl ?_
                      obtain ⟨r463, r463h, h⟩ := is_bind h
                      refine ao_scall trivial (scall (c_impl_DoesBeat (is_mk r463h)) rfl Try.func51 rfl rfl rfl rfl (fun σ => ⟨ad_ren rfl, ad_ren rfl, trivial⟩)) rfl ?_
                      refine ao_read trivial (r_move rfl) rfl ?_
                      refine ao_read trivial (r_extract rfl rfl) rfl ?_
                      refine ao_read trivial (r_extract rfl rfl) rfl ?_
                      refine ao_read trivial (r_assign rfl) rfl ?_
                      refine ao_read trivial (r_assign rfl) rfl ?_
                      refine ao_nil ?_
                      refine aq_then ?_
                      refine aw_seq ?_
                      refine aw_seq ?_
                      refine aw_region ?_
                      refine ao_read trivial (r_move rfl) rfl ?_
                      refine ao_read trivial (r_not rfl) rfl ?_
                      refine ao_read trivial (r_move rfl) rfl ?_
                      refine ao_readG (x := .bool r463.2) rfl (GV.F rfl) (fun hg464 => r_move rfl) rfl ?_
                      refine ao_readG (x := .bool (!r463.2)) rfl (GV.F rfl) (fun hg465 => Reads.strip 258 rfl (hg465) (r_not rfl)) rfl ?_
                      refine ao_read trivial (r_orB rfl rfl) rfl ?_
                      refine ao_read trivial (r_move rfl) rfl ?_
                      refine ao_readG (x := .bool r463.1) rfl (GV.F rfl) (fun hg466 => by
                            obtain ⟨q467, q468⟩ := or_f (not_t hg466)
                            exact r_move rfl) rfl ?_
                      refine ao_readG (x := .bool (!r463.1)) rfl (GV.F rfl) (fun hg469 => by
                            obtain ⟨q470, q471⟩ := or_f (not_t hg469)
                            exact Reads.strip 262 rfl (hg469) (r_not rfl)) rfl ?_
                      refine ao_read trivial (r_orB rfl rfl) rfl ?_
                      refine ao_nil ?_
                      refine aq_then ?_
                      refine aw_cond rfl (fun hb472 => ?_) (fun hb472 => ?_)
                      · replace h := is_if hb472 h
                        refine aw_seq ?_
                        refine aw_region ?_
                        refine ao_read trivial (r_assign rfl) rfl ?_
                        refine ao_nil ?_
                        refine aq_then ?_
                        refine aw_ret ?_
                        refine aq_then_ret ?_
                        refine aq_then_ret ?_
                        refine aq_ret ?_
                        obtain rfl := is_some h
                        exact aq_finx (l := [.tmp 2]) (xs := [.bool false]) idn [.bool false] [] rfl (by exact ⟨rfl, trivial⟩) (by exact ⟨ad_ren rfl, trivial⟩) (by exact trivial) rfl (nk rfl) rfl rfl ⟨rfl, rfl⟩
                      · obtain ⟨q473, q474⟩ := or_f hb472
                        obtain ⟨q475, q476⟩ := or_f q473
                        replace h := is_else (ne_t hb472) h
                        refine aw_skip ?_
                        refine aq_then ?_
                        refine aw_seq ?_
                        refine aw_region ?_
                        refine ao_read trivial (r_move rfl) rfl ?_
                        refine ao_read trivial (r_gtr rfl rfl) rfl ?_
                        refine ao_nil ?_
                        refine aq_then ?_
                        refine aw_cond rfl (fun hb477 => ?_) (fun hb477 => ?_)
                        · have q478 := d_t hb477
                          replace h := is_if (d_t hb477) h
                          refine aw_seq ?_
                          refine aw_region ?_
                          refine ao_read trivial (r_load_arr rfl Try.isAgg60 Try.sizeOf60 rfl rfl rfl) rfl ?_
                          refine ao_read trivial (r_move rfl) rfl ?_
                          refine ao_read trivial (r_sub rfl rfl) rfl ?_
                          refine ao_scall trivial (scall (c_impl_ShiftDie (is_mk (rfl : p_impl_ShiftDie r2.1 (IntKind.wrap .i64 (r144.1 - 1)) = _))) rfl Try.func64 rfl rfl rfl rfl (fun σ => ⟨ad_ren rfl, ad_ren rfl, trivial⟩)) rfl ?_
                          refine ao_read trivial (r_move rfl) rfl ?_
                          refine ao_read trivial (r_extract rfl rfl) rfl ?_
                          refine ao_read trivial (r_extract rfl rfl) rfl ?_
                          refine ao_eff trivial (e_alloc 4 (y := .v (.arr 6 (.int .i64)) ((List.replicate 6 0) : (List Int))) Try.zeroValue60 (fun ρ h M => ra_zero_arr (t := (.int .i64)) rfl) rfl rfl rfl rfl rfl) rfl ?_
                          refine ao_effS trivial (e_store rfl rfl rfl rfl Try.sizeOf60 rfl) ?_
                          refine ao_read trivial (r_assign rfl) rfl ?_
                          refine ao_nil ?_
                          refine aq_then ?_
                          refine aw_seq ?_
                          refine aw_region ?_
                          refine ao_read trivial (r_load_arr rfl Try.isAgg60 Try.sizeOf60 rfl rfl rfl) rfl ?_
                          refine ao_read trivial (r_load_arr rfl Try.isAgg60 Try.sizeOf60 rfl rfl rfl) rfl ?_
                          obtain ⟨r480, r480h, h⟩ := is_bind h
                          refine ao_scall trivial (scall (c_impl_DoesBeat (is_mk r480h)) rfl Try.func51 rfl rfl rfl rfl (fun σ => ⟨ad_ren rfl, ad_ren rfl, trivial⟩)) rfl ?_
                          refine ao_read trivial (r_move rfl) rfl ?_
                          refine ao_read trivial (r_extract rfl rfl) rfl ?_
                          refine ao_read trivial (r_extract rfl rfl) rfl ?_
                          refine ao_read trivial (r_assign rfl) rfl ?_
                          refine ao_read trivial (r_assign rfl) rfl ?_
                          refine ao_nil ?_
                          refine aq_then ?_
                          refine aw_seq ?_
                          refine aw_region ?_
                          refine ao_read trivial (r_move rfl) rfl ?_
                          refine ao_read trivial (r_not rfl) rfl ?_
                          refine ao_read trivial (r_move rfl) rfl ?_
                          refine ao_readG (x := .bool r480.2) rfl (GV.F rfl) (fun hg481 => r_move rfl) rfl ?_
                          refine ao_readG (x := .bool (!r480.2)) rfl (GV.F rfl) (fun hg482 => Reads.strip 283 rfl (hg482) (r_not rfl)) rfl ?_
                          refine ao_read trivial (r_orB rfl rfl) rfl ?_
                          refine ao_read trivial (r_move rfl) rfl ?_
                          refine ao_readG (x := .bool r480.1) rfl (GV.F rfl) (fun hg483 => by
                                obtain ⟨q484, q485⟩ := or_f (not_t hg483)
                                exact r_move rfl) rfl ?_
                          refine ao_read trivial (r_orB rfl rfl) rfl ?_
                          refine ao_nil ?_
                          refine aq_then ?_
                          refine aw_cond rfl (fun hb486 => ?_) (fun hb486 => ?_)
                          · replace h := is_if hb486 h
                            refine aw_seq ?_
                            refine aw_region ?_
                            refine ao_read trivial (r_assign rfl) rfl ?_
                            refine ao_nil ?_
                            refine aq_then ?_
                            refine aw_ret ?_
                            refine aq_then_ret ?_
                            refine aq_ret ?_
                            obtain rfl := is_some h
                            exact aq_finx (l := [.tmp 2]) (xs := [.bool false]) idn [.bool false] [] rfl (by exact ⟨rfl, trivial⟩) (by exact ⟨ad_ren rfl, trivial⟩) (by exact trivial) rfl (nk rfl) rfl rfl ⟨rfl, rfl⟩
                          · obtain ⟨q487, q488⟩ := or_f hb486
                            obtain ⟨q489, q490⟩ := or_f q487
                            replace h := is_else (ne_t hb486) h
                            refine aw_skip ?_
                            exact aq_then (AW.sub (sub_mk idn (by exact ⟨⟨_, rfl, ad_ren rfl⟩, ⟨_, rfl, ad_ren rfl⟩, ⟨_, rfl, ad_ren rfl⟩, ⟨_, rfl, ad_ren rfl⟩, ⟨_, rfl, ad_ren rfl⟩, ⟨_, rfl, ad_ren rfl⟩, trivial⟩) (by exact ⟨⟨_, rfl, ⟨rfl, trivial⟩⟩, ⟨_, rfl, ⟨rfl, trivial⟩⟩, ⟨_, rfl, ⟨rfl, trivial⟩⟩, trivial⟩) (by rfl) (nk rfl)) (j221 () trivial h))
                        · have q479 := d_f hb477
                          replace h := is_else (d_f hb477) h
                          refine aw_skip ?_
                          exact aq_then (AW.sub (sub_mk idn (by exact ⟨⟨_, rfl, ad_ren rfl⟩, ⟨_, rfl, ad_ren rfl⟩, ⟨_, rfl, ad_ren rfl⟩, ⟨_, rfl, ad_ren rfl⟩, ⟨_, rfl, ad_ren rfl⟩, ⟨_, rfl, ad_ren rfl⟩, trivial⟩) (by exact ⟨⟨_, rfl, ⟨rfl, trivial⟩⟩, ⟨_, rfl, ⟨rfl, trivial⟩⟩, ⟨_, rfl, ⟨rfl, trivial⟩⟩, trivial⟩) (by rfl) (nk rfl)) (j221 () trivial h))
                    · replace h := is_else (ne_t hb462) h
                      refine aw_skip ?_
                      exact aq_then (AW.sub (sub_mk idn (by exact ⟨⟨_, rfl, ad_ren rfl⟩, ⟨_, rfl, ad_ren rfl⟩, ⟨_, rfl, ad_ren rfl⟩, ⟨_, rfl, ad_ren rfl⟩, ⟨_, rfl, ad_ren rfl⟩, ⟨_, rfl, ad_ren rfl⟩, trivial⟩) (by exact ⟨⟨_, rfl, ⟨rfl, trivial⟩⟩, ⟨_, rfl, ⟨rfl, trivial⟩⟩, ⟨_, rfl, ⟨rfl, trivial⟩⟩, trivial⟩) (by rfl) (nk rfl)) (j221 () trivial h))
                · refine aw_seq ?_
                  refine aw_region ?_
                  refine ao_read trivial (r_move rfl) rfl ?_
                  refine ao_nil ?_
                  refine aq_then ?_
                  refine aw_cond rfl (fun hb491 => ?_) (fun hb491 => ?_)
                  · replace h := is_if hb491 h
                    refine aw_seq ?_
                    refine aw_region ?_
                    refine ao_read trivial (r_move rfl) rfl ?_
                    refine ao_read trivial (r_move rfl) rfl ?_
                    obtain ⟨r492, r492h, h⟩ := is_bind h
                    refine ao_scall trivial (scall (c_impl_ChanceToBeat (is_mk r492h)) rfl Try.func58 rfl rfl rfl rfl (fun σ => ⟨ad_os0 rfl, ad_os0 rfl, trivial⟩)) rfl ?_
                    refine ao_read trivial (r_move rfl) rfl ?_
                    refine ao_read trivial (r_extract rfl rfl) rfl ?_
                    refine ao_read trivial (r_extract rfl rfl) rfl ?_
                    refine ao_eff trivial (e_alloc 10 (y := .v (.arr 2 (.int .i64)) ((List.replicate 2 0) : (List Int))) Try.zeroValue35 (fun ρ h M => ra_zero_arr (t := (.int .i64)) rfl) rfl rfl rfl rfl rfl) rfl ?_
                    refine ao_effS trivial (e_store rfl rfl rfl rfl Try.sizeOf35 rfl) ?_
                    refine ao_read trivial (r_assign rfl) rfl ?_
                    refine ao_nil ?_
                    refine aq_then ?_
                    refine aw_seq ?_
                    obtain ⟨g496, h⟩ := is_guard h
                    obtain ⟨g499, h⟩ := is_guard h
                    refine aw_drawAll (by kernel_rfl) ?_
                    refine an_read 0 (by kernel_rfl) (fun _ _ _ h => h) rfl (by kernel_rfl) trivial (r_move rfl) rfl ?_
                    refine an_read 1 (by kernel_rfl) (fun _ _ _ h => h) rfl (by kernel_rfl) trivial (r_not rfl) rfl ?_
                    refine an_read 2 (by kernel_rfl) (fun _ _ _ h => h) rfl (by kernel_rfl) trivial (r_move rfl) rfl ?_
                    refine an_readG 3 (x := .v (.arr 2 (.int .i64)) r159.1) (by kernel_rfl) (fun _ _ _ h => h) rfl (by kernel_rfl) rfl (GV.F rfl) (fun hg493 => r_load_arr rfl Try.isAgg35 Try.sizeOf35 rfl rfl rfl) rfl ?_
                    refine an_readG 4 (x := .v (.arr 2 (.int .i64)) r492.1) (by kernel_rfl) (fun _ _ _ h => h) rfl (by kernel_rfl) rfl (GV.F rfl) (fun hg494 => r_load_arr rfl Try.isAgg35 Try.sizeOf35 rfl rfl rfl) rfl ?_
                    refine an_scallG 5 (x := .v (.arr 2 (.int .i64)) (((p_laws_rPlus fu r159.1 r492.1).getD (List.replicate 2 0)) : (List Int))) (by kernel_rfl) (fun _ _ _ h => h) rfl (by kernel_rfl) rfl (GV.F rfl) (fun hg495 => SCall.strip 234 rfl (hg495) (SCall.strip 235 rfl (hg495) (scall (c_laws_rPlus (is_mk (isSome_getD (g496 hg495)))) rfl Try.func63 rfl rfl rfl rfl (fun σ => ⟨ad_ren rfl, ad_ren rfl, trivial⟩)))) rfl ?_
                    refine an_readG 6 (x := .v (.arr 2 (.int .i64)) r197.1) (by kernel_rfl) (fun _ _ _ h => h) rfl (by kernel_rfl) rfl (GV.F rfl) (fun hg497 => r_load_arr rfl Try.isAgg35 Try.sizeOf35 rfl rfl rfl) rfl ?_
                    refine an_scallG 7 (x := .v (.arr 2 (.int .i64)) (((p_laws_rPlus fu ((p_laws_rPlus fu r159.1 r492.1).getD (List.replicate 2 0)) r197.1).getD (List.replicate 2 0)) : (List Int))) (by kernel_rfl) (fun _ _ _ h => h) rfl (by kernel_rfl) rfl (GV.F rfl) (fun hg498 => SCall.strip 236 rfl (hg498) (SCall.strip 237 rfl (hg498) (scall (c_laws_rPlus (is_mk (isSome_getD (g499 hg498)))) rfl Try.func63 rfl rfl rfl rfl (fun σ => ⟨ad_ren rfl, ad_ren rfl, trivial⟩)))) rfl ?_
                    refine an_readG 8 (x := .v (.arr 2 (.int .i64)) ([1, 1] : (List Int))) (by kernel_rfl) (fun _ _ _ h => h) rfl (by kernel_rfl) rfl (GV.F rfl) (fun hg500 => r_build_arr (l := [(0, .const (.int .i64 1)), (1, .const (.int .i64 1))]) (t := (.int .i64)) ([1, 1] : (List Int)) rfl Try.underlying35 Try.zeroValue35 Try.sizeOf3 rfl rfl rfl rfl) rfl ?_
                    refine an_readG 9 (x := .bool (!(decide (((p_laws_rPlus fu ((p_laws_rPlus fu r159.1 r492.1).getD (List.replicate 2 0)) r197.1).getD (List.replicate 2 0)) = [1, 1])))) (by kernel_rfl) (fun _ _ _ h => h) rfl (by kernel_rfl) rfl (GV.F rfl) (fun hg501 => Reads.strip 238 rfl (hg501) (Reads.strip 239 rfl (hg501) (r_eq_ints Try.underlying35 Try.underlying3 Try.isAgg3 (info_size Try.sizeOf3) (by kernel_rfl) rfl rfl rfl))) rfl ?_
                    refine an_read 10 (by kernel_rfl) (fun _ _ _ h => h) rfl (by kernel_rfl) trivial (r_orB rfl rfl) rfl ?_
                    refine an_done rfl ?_
                    refine aq_then ?_
                    refine aw_cond rfl (fun hb502 => ?_) (fun hb502 => ?_)
                    · replace h := is_if hb502 h
                      refine aw_seq ?_
                      refine aw_region ?_
                      refine ao_read trivial (r_assign rfl) rfl ?_
                      refine ao_nil ?_
                      refine aq_then ?_
                      refine aw_ret ?_
                      refine aq_then_ret ?_
                      refine aq_ret ?_
                      obtain rfl := is_some h
                      exact aq_finx (l := [.tmp 2]) (xs := [.bool false]) idn [.bool false] [] rfl (by exact ⟨rfl, trivial⟩) (by exact ⟨ad_ren rfl, trivial⟩) (by exact trivial) rfl (nk rfl) rfl rfl ⟨rfl, rfl⟩
                    · obtain ⟨q503, q504⟩ := or_f hb502
                      replace h := is_else (ne_t hb502) h
                      refine aw_skip ?_
                      exact aq_then (AW.sub (sub_mk idn (by exact ⟨⟨_, rfl, ad_ren rfl⟩, ⟨_, rfl, ad_ren rfl⟩, ⟨_, rfl, ad_ren rfl⟩, ⟨_, rfl, ad_ren rfl⟩, ⟨_, rfl, ad_ren rfl⟩, ⟨_, rfl, ad_ren rfl⟩, ⟨_, rfl, ad_ren rfl⟩, ⟨_, rfl, ad_ren rfl⟩, trivial⟩) (by exact ⟨⟨_, rfl, ⟨rfl, trivial⟩⟩, ⟨_, rfl, ⟨rfl, trivial⟩⟩, ⟨_, rfl, ⟨rfl, trivial⟩⟩, trivial⟩) (by rfl) (nk rfl)) (j218 () trivial h))
                  · replace h := is_else (ne_t hb491) h
                    refine aw_skip ?_
                    exact aq_then (AW.sub (sub_mk idn (by exact ⟨⟨_, rfl, ad_ren rfl⟩, ⟨_, rfl, ad_ren rfl⟩, ⟨_, rfl, ad_ren rfl⟩, ⟨_, rfl, ad_ren rfl⟩, ⟨_, rfl, ad_ren rfl⟩, ⟨_, rfl, ad_ren rfl⟩, ⟨_, rfl, ad_ren rfl⟩, ⟨_, rfl, ad_ren rfl⟩, trivial⟩) (by exact ⟨⟨_, rfl, ⟨rfl, trivial⟩⟩, ⟨_, rfl, ⟨rfl, trivial⟩⟩, ⟨_, rfl, ⟨rfl, trivial⟩⟩, trivial⟩) (by rfl) (nk rfl)) (j218 () trivial h))
end Go.GA
