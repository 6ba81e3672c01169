/- Walks: what the Go functions compute, by the printed lines below; no further conditions. -/
import Derived.Test.YtebdkchfblddeaaC5pwc
namespace Go.GA
open Go Go.Proofs
set_option maxRecDepth 100000
set_option maxHeartbeats 2000000
set_option linter.unusedVariables false
set_option linter.unusedSimpArgs false
theorem c_laws_FnPairForms {fu : Nat} {x0 : (List Int)} {r : Bool} (h : Is (p_laws_FnPairForms fu x0) (some r)) :
    Scalar Try.prog 3 [.v (.slice (.int .u8)) x0] (.bool r) := by
  unfold p_laws_FnPairForms at h
  refine ac_enter ⟨328, 0⟩ Try.func3 rfl rfl rfl rfl rfl (fun Γ => ?_)
  refine sl_len_m 0 (x0.length : Int) rfl rfl (fun hl0 => ?_)
  refine aw_seq ?_
  refine aw_region ?_
  refine ao_read trivial (r_assign rfl) rfl ?_
  refine ao_nil ?_
  refine aq_then ?_
  refine aw_seq ?_
  refine aw_seq ?_
  refine aw_region ?_
  refine ao_read trivial (r_move rfl) rfl ?_
  refine ao_scall trivial (scall (c_laws_rBig (is_mk (rfl : p_laws_rBig x0 = _))) rfl Try.func7 rfl rfl rfl rfl (fun σ => ⟨ad_ren rfl, trivial⟩)) rfl ?_
  refine ao_nil ?_
  refine aq_then ?_
  refine aw_cond rfl (fun hb1 => ?_) (fun hb1 => ?_)
  · replace h := is_if hb1 h
    refine aw_seq ?_
    refine aw_region ?_
    refine ao_read trivial (r_assign rfl) rfl ?_
    refine ao_nil ?_
    refine aq_then ?_
    refine aw_ret ?_
    refine aq_then_ret ?_
    refine aq_ret ?_
    obtain rfl := is_some h
    exact aq_finx (l := [.tmp 2]) (xs := [.bool true]) idn [.bool true] [] rfl (by exact ⟨rfl, trivial⟩) (by exact ⟨ad_ren rfl, trivial⟩) (by exact trivial) rfl (nk rfl) rfl rfl ⟨rfl, rfl⟩
  · replace h := is_else (ne_t hb1) h
    refine aw_skip ?_
    refine aq_then ?_
    refine aw_seq ?_
    refine aw_region ?_
    refine ao_read trivial (r_move rfl) rfl ?_
    obtain ⟨r2, r2h, h⟩ := is_bind h
    refine ao_scall trivial (scall (c_spec_DrawShapeOf (is_mk r2h)) rfl Try.func8 rfl rfl rfl rfl (fun σ => ⟨ad_ren rfl, trivial⟩)) rfl ?_
    refine ao_eff trivial (e_alloc 0 (y := .st [.v (.arr 6 (.int .i64)) ((List.replicate 6 0) : (List Int)), .v (.arr 6 (.int .i64)) ((List.replicate 6 0) : (List Int))]) Try.zeroValue26 (fun ρ h M => ra_zero_st (t := (.pair (.arr 6 (.int .i64)) (.pair (.arr 6 (.int .i64)) .unit))) rfl rfl rfl) rfl rfl rfl rfl rfl) rfl ?_
    refine ao_effS trivial (e_store rfl rfl rfl rfl Try.sizeOf26 rfl) ?_
    refine ao_nil ?_
    refine aq_then ?_
    refine aw_seq ?_
    refine aw_region ?_
    refine ao_read trivial (r_load_part (τ := (.pair (.arr 6 (.int .i64)) (.pair (.arr 6 (.int .i64)) .unit))) (y := ((r2.1, (r2.2.1, ())) : ((List Int) × ((List Int) × Unit)))) [] [] rfl Try.isAgg26 Try.sizeOf26 rfl rfl rfl rfl) rfl ?_
    refine ao_scall trivial (scall (c_impl_ShapeOf (is_mk (rfl : p_impl_ShapeOf (r2.1, (r2.2.1, ())) = _))) rfl Try.func9 rfl rfl rfl rfl (fun σ => ⟨ad_ren rfl, trivial⟩)) rfl ?_
    refine ao_read trivial (r_move rfl) rfl ?_
    refine ao_read trivial (r_extract rfl rfl) rfl ?_
    refine ao_read trivial (r_extract rfl rfl) rfl ?_
    refine ao_eff trivial (e_alloc 1 (y := .st [.v (.arr 6 (.int .i64)) ((List.replicate 6 0) : (List Int)), .v (.arr 6 (.int .i64)) ((List.replicate 6 0) : (List Int))]) Try.zeroValue26 (fun ρ h M => ra_zero_st (t := (.pair (.arr 6 (.int .i64)) (.pair (.arr 6 (.int .i64)) .unit))) rfl rfl rfl) rfl rfl rfl rfl rfl) rfl ?_
    refine ao_effS trivial (e_store rfl rfl rfl rfl Try.sizeOf26 rfl) ?_
    refine ao_read trivial (r_assign rfl) rfl ?_
    refine ao_nil ?_
    refine aq_then ?_
    refine aw_seq ?_
    refine aw_seq ?_
    refine aw_region ?_
    refine ao_read trivial (r_load_part (τ := (.pair (.arr 6 (.int .i64)) (.pair (.arr 6 (.int .i64)) .unit))) (y := ((r2.1, (r2.2.1, ())) : ((List Int) × ((List Int) × Unit)))) [] [] rfl Try.isAgg26 Try.sizeOf26 rfl rfl rfl rfl) rfl ?_
    obtain ⟨r3, r3h, h⟩ := is_bind h
    refine ao_scall trivial (scall (c_spec_ShapeOf (is_mk r3h)) rfl Try.func10 rfl rfl rfl rfl (fun σ => ⟨ad_ren rfl, trivial⟩)) rfl ?_
    refine ao_read trivial (r_move rfl) rfl ?_
    refine ao_read trivial (r_extract rfl rfl) rfl ?_
    refine ao_read trivial (r_extract rfl rfl) rfl ?_
    refine ao_eff trivial (e_alloc 2 (y := .st [.v (.arr 6 (.int .i64)) ((List.replicate 6 0) : (List Int)), .v (.arr 6 (.int .i64)) ((List.replicate 6 0) : (List Int))]) Try.zeroValue26 (fun ρ h M => ra_zero_st (t := (.pair (.arr 6 (.int .i64)) (.pair (.arr 6 (.int .i64)) .unit))) rfl rfl rfl) rfl rfl rfl rfl rfl) rfl ?_
    refine ao_effS trivial (e_store rfl rfl rfl rfl Try.sizeOf26 rfl) ?_
    refine ao_read trivial (r_assign rfl) rfl ?_
    refine ao_nil ?_
    refine aq_then ?_
    refine aw_seq ?_
    refine aw_region ?_
    refine ao_read trivial (r_load_part (τ := (.pair (.arr 6 (.int .i64)) (.pair (.arr 6 (.int .i64)) .unit))) (y := ((((p_impl_ShapeOf (r2.1, (r2.2.1, ()))).1).1, ((((p_impl_ShapeOf (r2.1, (r2.2.1, ()))).1).2).1, ())) : ((List Int) × ((List Int) × Unit)))) [] [] rfl Try.isAgg26 Try.sizeOf26 rfl rfl rfl rfl) rfl ?_
    refine ao_read trivial (r_load_part (τ := (.pair (.arr 6 (.int .i64)) (.pair (.arr 6 (.int .i64)) .unit))) (y := ((r3.1.1, (r3.1.2.1, ())) : ((List Int) × ((List Int) × Unit)))) [] [] rfl Try.isAgg26 Try.sizeOf26 rfl rfl rfl rfl) rfl ?_
    refine ao_read trivial (r_eq_data (.pair (.arr 6 (.int .i64)) (.pair (.arr 6 (.int .i64)) .unit)) 3 Try.underlying26 (by kernel_rfl) (by kernel_rfl) ⟨rfl, rfl, Try.isAgg24, Try.sizeOf24, (teq_ints Try.underlying24 Try.underlying3 Try.isAgg3 (info_size Try.sizeOf3)), ⟨rfl, rfl, Try.isAgg24, Try.sizeOf24, (teq_ints Try.underlying24 Try.underlying3 Try.isAgg3 (info_size Try.sizeOf3)), trivial⟩⟩ rfl rfl rfl rfl rfl) rfl ?_
    refine ao_read trivial (r_move rfl) rfl ?_
    refine ao_readG (x := .bool ((p_impl_ShapeOf (r2.1, (r2.2.1, ()))).2)) rfl (GV.F rfl) (fun hg4 => r_move rfl) rfl ?_
    refine ao_readG (x := .bool r3.2) rfl (GV.F rfl) (fun hg5 => r_move rfl) rfl ?_
    refine ao_readG (x := .bool (((p_impl_ShapeOf (r2.1, (r2.2.1, ()))).2) != r3.2)) rfl (GV.F rfl) (fun hg6 => Reads.strip 70 rfl (hg6) (Reads.strip 71 rfl (hg6) (r_neq_bool Try.underlying4 rfl rfl))) rfl ?_
    refine ao_read trivial (r_orB rfl rfl) rfl ?_
    refine ao_read trivial (r_move rfl) rfl ?_
    refine ao_readG (x := .bool ((p_impl_ShapeOf (r2.1, (r2.2.1, ()))).2)) rfl (GV.F rfl) (fun hg7 => by
          obtain ⟨q8, q9⟩ := or_f (not_t hg7)
          exact r_move rfl) rfl ?_
    refine ao_readG (x := .v (.pair (.arr 6 (.int .i64)) (.pair (.arr 6 (.int .i64)) .unit)) ((r2.1, (r2.2.1, ())) : ((List Int) × ((List Int) × Unit)))) rfl (GV.F rfl) (fun hg10 => by
          obtain ⟨q11, q12⟩ := or_f (not_t hg10)
          exact r_load_part (τ := (.pair (.arr 6 (.int .i64)) (.pair (.arr 6 (.int .i64)) .unit))) (y := ((r2.1, (r2.2.1, ())) : ((List Int) × ((List Int) × Unit)))) [] [] rfl Try.isAgg26 Try.sizeOf26 rfl rfl rfl rfl) rfl ?_
    refine ao_scallG (r := .bool (p_impl_IsPair (r2.1, (r2.2.1, ())))) rfl (GV.F rfl) (fun hg13 => by
          obtain ⟨q14, q15⟩ := or_f (not_t hg13)
          exact SCall.strip 76 rfl (hg13) (scall (c_impl_IsPair (is_mk (rfl : p_impl_IsPair (r2.1, (r2.2.1, ())) = _))) rfl Try.func11 rfl rfl rfl rfl (fun σ => ⟨ad_ren rfl, trivial⟩))) rfl ?_
    refine ao_readG (x := .bool (((p_impl_ShapeOf (r2.1, (r2.2.1, ()))).2) != (p_impl_IsPair (r2.1, (r2.2.1, ()))))) rfl (GV.F rfl) (fun hg16 => by
          obtain ⟨q17, q18⟩ := or_f (not_t hg16)
          exact Reads.strip 75 rfl (hg16) (Reads.strip 77 rfl (hg16) (r_neq_bool Try.underlying4 rfl rfl))) rfl ?_
    refine ao_read trivial (r_orB rfl rfl) rfl ?_
    refine ao_nil ?_
    refine aq_then ?_
    refine aw_cond rfl (fun hb19 => ?_) (fun hb19 => ?_)
    · replace h := is_if hb19 h
      refine aw_seq ?_
      refine aw_region ?_
      refine ao_read trivial (r_assign rfl) rfl ?_
      refine ao_nil ?_
      refine aq_then ?_
      refine aw_ret ?_
      refine aq_then_ret ?_
      refine aq_ret ?_
      obtain rfl := is_some h
      exact aq_finx (l := [.tmp 2]) (xs := [.bool false]) idn [.bool false] [] rfl (by exact ⟨rfl, trivial⟩) (by exact ⟨ad_ren rfl, trivial⟩) (by exact trivial) rfl (nk rfl) rfl rfl ⟨rfl, rfl⟩
    · obtain ⟨q20, q21⟩ := or_f hb19
      obtain ⟨q22, q23⟩ := or_f q20
      replace h := is_else (ne_t hb19) h
      refine aw_skip ?_
      refine aq_then ?_
      refine aw_seq ?_
      refine aw_region ?_
      refine ao_read trivial (r_load_part (τ := (.pair (.arr 6 (.int .i64)) (.pair (.arr 6 (.int .i64)) .unit))) (y := ((r2.1, (r2.2.1, ())) : ((List Int) × ((List Int) × Unit)))) [] [] rfl Try.isAgg26 Try.sizeOf26 rfl rfl rfl rfl) rfl ?_
      refine ao_scall trivial (scall (c_impl_MirrorPair (is_mk (rfl : p_impl_MirrorPair (r2.1, (r2.2.1, ())) = _))) rfl Try.func12 rfl rfl rfl rfl (fun σ => ⟨ad_ren rfl, trivial⟩)) rfl ?_
      refine ao_read trivial (r_move rfl) rfl ?_
      refine ao_read trivial (r_extract rfl rfl) rfl ?_
      refine ao_read trivial (r_extract rfl rfl) rfl ?_
      refine ao_eff trivial (e_alloc 3 (y := .st [.v (.arr 6 (.int .i64)) ((List.replicate 6 0) : (List Int)), .v (.arr 6 (.int .i64)) ((List.replicate 6 0) : (List Int))]) Try.zeroValue26 (fun ρ h M => ra_zero_st (t := (.pair (.arr 6 (.int .i64)) (.pair (.arr 6 (.int .i64)) .unit))) rfl rfl rfl) rfl rfl rfl rfl rfl) rfl ?_
      refine ao_effS trivial (e_store rfl rfl rfl rfl Try.sizeOf26 rfl) ?_
      refine ao_read trivial (r_assign rfl) rfl ?_
      refine ao_nil ?_
      refine aq_then ?_
      refine aw_seq ?_
      refine aw_seq ?_
      refine aw_region ?_
      refine ao_read trivial (r_load_part (τ := (.pair (.arr 6 (.int .i64)) (.pair (.arr 6 (.int .i64)) .unit))) (y := ((r2.1, (r2.2.1, ())) : ((List Int) × ((List Int) × Unit)))) [] [] rfl Try.isAgg26 Try.sizeOf26 rfl rfl rfl rfl) rfl ?_
      obtain ⟨r24, r24h, h⟩ := is_bind h
      refine ao_scall trivial (scall (c_spec_MirrorPair (is_mk r24h)) rfl Try.func13 rfl rfl rfl rfl (fun σ => ⟨ad_ren rfl, trivial⟩)) rfl ?_
      refine ao_read trivial (r_move rfl) rfl ?_
      refine ao_read trivial (r_extract rfl rfl) rfl ?_
      refine ao_read trivial (r_extract rfl rfl) rfl ?_
      refine ao_eff trivial (e_alloc 4 (y := .st [.v (.arr 6 (.int .i64)) ((List.replicate 6 0) : (List Int)), .v (.arr 6 (.int .i64)) ((List.replicate 6 0) : (List Int))]) Try.zeroValue26 (fun ρ h M => ra_zero_st (t := (.pair (.arr 6 (.int .i64)) (.pair (.arr 6 (.int .i64)) .unit))) rfl rfl rfl) rfl rfl rfl rfl rfl) rfl ?_
      refine ao_effS trivial (e_store rfl rfl rfl rfl Try.sizeOf26 rfl) ?_
      refine ao_read trivial (r_assign rfl) rfl ?_
      refine ao_nil ?_
      refine aq_then ?_
      refine aw_seq ?_
      refine aw_region ?_
      refine ao_read trivial (r_load_part (τ := (.pair (.arr 6 (.int .i64)) (.pair (.arr 6 (.int .i64)) .unit))) (y := ((((p_impl_MirrorPair (r2.1, (r2.2.1, ()))).1).1, ((((p_impl_MirrorPair (r2.1, (r2.2.1, ()))).1).2).1, ())) : ((List Int) × ((List Int) × Unit)))) [] [] rfl Try.isAgg26 Try.sizeOf26 rfl rfl rfl rfl) rfl ?_
      refine ao_read trivial (r_load_part (τ := (.pair (.arr 6 (.int .i64)) (.pair (.arr 6 (.int .i64)) .unit))) (y := ((r24.1.1, (r24.1.2.1, ())) : ((List Int) × ((List Int) × Unit)))) [] [] rfl Try.isAgg26 Try.sizeOf26 rfl rfl rfl rfl) rfl ?_
      refine ao_read trivial (r_eq_data (.pair (.arr 6 (.int .i64)) (.pair (.arr 6 (.int .i64)) .unit)) 3 Try.underlying26 (by kernel_rfl) (by kernel_rfl) ⟨rfl, rfl, Try.isAgg24, Try.sizeOf24, (teq_ints Try.underlying24 Try.underlying3 Try.isAgg3 (info_size Try.sizeOf3)), ⟨rfl, rfl, Try.isAgg24, Try.sizeOf24, (teq_ints Try.underlying24 Try.underlying3 Try.isAgg3 (info_size Try.sizeOf3)), trivial⟩⟩ rfl rfl rfl rfl rfl) rfl ?_
      refine ao_read trivial (r_move rfl) rfl ?_
      refine ao_readG (x := .bool ((p_impl_MirrorPair (r2.1, (r2.2.1, ()))).2)) rfl (GV.F rfl) (fun hg25 => r_move rfl) rfl ?_
      refine ao_readG (x := .bool r24.2) rfl (GV.F rfl) (fun hg26 => r_move rfl) rfl ?_
      refine ao_readG (x := .bool (((p_impl_MirrorPair (r2.1, (r2.2.1, ()))).2) != r24.2)) rfl (GV.F rfl) (fun hg27 => Reads.strip 94 rfl (hg27) (Reads.strip 95 rfl (hg27) (r_neq_bool Try.underlying4 rfl rfl))) rfl ?_
      refine ao_read trivial (r_orB rfl rfl) rfl ?_
      refine ao_read trivial (r_move rfl) rfl ?_
      refine ao_readG (x := .bool ((p_impl_MirrorPair (r2.1, (r2.2.1, ()))).2)) rfl (GV.F rfl) (fun hg28 => by
            obtain ⟨q29, q30⟩ := or_f (not_t hg28)
            exact r_move rfl) rfl ?_
      refine ao_readG (x := .bool ((p_impl_ShapeOf (r2.1, (r2.2.1, ()))).2)) rfl (GV.F rfl) (fun hg31 => by
            obtain ⟨q32, q33⟩ := or_f (not_t hg31)
            exact r_move rfl) rfl ?_
      refine ao_readG (x := .bool (((p_impl_MirrorPair (r2.1, (r2.2.1, ()))).2) != ((p_impl_ShapeOf (r2.1, (r2.2.1, ()))).2))) rfl (GV.F rfl) (fun hg34 => by
            obtain ⟨q35, q36⟩ := or_f (not_t hg34)
            exact Reads.strip 99 rfl (hg34) (Reads.strip 100 rfl (hg34) (r_neq_bool Try.underlying4 rfl rfl))) rfl ?_
      refine ao_read trivial (r_orB rfl rfl) rfl ?_
      refine ao_nil ?_
      refine aq_then ?_
      refine aw_cond rfl (fun hb37 => ?_) (fun hb37 => ?_)
      · replace h := is_if hb37 h
        refine aw_seq ?_
        refine aw_region ?_
        refine ao_read trivial (r_assign rfl) rfl ?_
        refine ao_nil ?_
        refine aq_then ?_
        refine aw_ret ?_
        refine aq_then_ret ?_
        refine aq_ret ?_
        obtain rfl := is_some h
        exact aq_finx (l := [.tmp 2]) (xs := [.bool false]) idn [.bool false] [] rfl (by exact ⟨rfl, trivial⟩) (by exact ⟨ad_ren rfl, trivial⟩) (by exact trivial) rfl (nk rfl) rfl rfl ⟨rfl, rfl⟩
      · obtain ⟨q38, q39⟩ := or_f hb37
        obtain ⟨q40, q41⟩ := or_f q38
        replace h := is_else (ne_t hb37) h
        refine aw_skip ?_
        refine aq_then ?_
        refine aw_seq ?_
        refine aw_region ?_
        refine ao_read trivial (r_move rfl) rfl ?_
        obtain ⟨r42, r42h, h⟩ := is_bind h
        refine ao_scall trivial (scall (c_spec_DrawBaseOf (is_mk r42h)) rfl Try.func14 rfl rfl rfl rfl (fun σ => ⟨ad_ren rfl, trivial⟩)) rfl ?_
        refine ao_eff trivial (e_alloc 5 (y := .v (.arr 6 (.int .i64)) ((List.replicate 6 0) : (List Int))) Try.zeroValue24 (fun ρ h M => ra_zero_arr (t := (.int .i64)) rfl) rfl rfl rfl rfl rfl) rfl ?_
        refine ao_effS trivial (e_store rfl rfl rfl rfl Try.sizeOf24 rfl) ?_
        refine ao_nil ?_
        refine aq_then ?_
        refine aw_seq ?_
        refine aw_region ?_
        refine ao_read trivial (r_load_arr rfl Try.isAgg24 Try.sizeOf24 rfl rfl rfl) rfl ?_
        refine ao_scall trivial (scall (c_impl_BaseOf (is_mk (rfl : p_impl_BaseOf r42 = _))) rfl Try.func15 rfl rfl rfl rfl (fun σ => ⟨ad_ren rfl, trivial⟩)) rfl ?_
        refine ao_read trivial (r_move rfl) rfl ?_
        refine ao_read trivial (r_extract rfl rfl) rfl ?_
        refine ao_read trivial (r_extract rfl rfl) rfl ?_
        refine ao_eff trivial (e_alloc 6 (y := .v (.arr 6 (.int .i64)) ((List.replicate 6 0) : (List Int))) Try.zeroValue24 (fun ρ h M => ra_zero_arr (t := (.int .i64)) rfl) rfl rfl rfl rfl rfl) rfl ?_
        refine ao_effS trivial (e_store rfl rfl rfl rfl Try.sizeOf24 rfl) ?_
        refine ao_read trivial (r_assign rfl) rfl ?_
        refine ao_nil ?_
        refine aq_then ?_
        refine aw_seq ?_
        refine aw_seq ?_
        refine aw_region ?_
        refine ao_read trivial (r_load_arr rfl Try.isAgg24 Try.sizeOf24 rfl rfl rfl) rfl ?_
        obtain ⟨r43, r43h, h⟩ := is_bind h
        refine ao_scall trivial (scall (c_spec_BaseOf (is_mk r43h)) rfl Try.func16 rfl rfl rfl rfl (fun σ => ⟨ad_ren rfl, trivial⟩)) rfl ?_
        refine ao_read trivial (r_move rfl) rfl ?_
        refine ao_read trivial (r_extract rfl rfl) rfl ?_
        refine ao_read trivial (r_extract rfl rfl) rfl ?_
        refine ao_eff trivial (e_alloc 7 (y := .v (.arr 6 (.int .i64)) ((List.replicate 6 0) : (List Int))) Try.zeroValue24 (fun ρ h M => ra_zero_arr (t := (.int .i64)) rfl) rfl rfl rfl rfl rfl) rfl ?_
        refine ao_effS trivial (e_store rfl rfl rfl rfl Try.sizeOf24 rfl) ?_
        refine ao_read trivial (r_assign rfl) rfl ?_
        refine ao_nil ?_
        refine aq_then ?_
        refine aw_seq ?_
        refine aw_region ?_
        refine ao_read trivial (r_load_arr rfl Try.isAgg24 Try.sizeOf24 rfl rfl rfl) rfl ?_
        refine ao_read trivial (r_load_arr rfl Try.isAgg24 Try.sizeOf24 rfl rfl rfl) rfl ?_
        refine ao_read trivial (r_eq_ints Try.underlying24 Try.underlying3 Try.isAgg3 (info_size Try.sizeOf3) (by kernel_rfl) rfl rfl rfl) rfl ?_
        refine ao_read trivial (r_move rfl) rfl ?_
        refine ao_readG (x := .bool ((p_impl_BaseOf r42).2)) rfl (GV.F rfl) (fun hg44 => r_move rfl) rfl ?_
        refine ao_readG (x := .bool r43.2) rfl (GV.F rfl) (fun hg45 => r_move rfl) rfl ?_
        refine ao_readG (x := .bool (((p_impl_BaseOf r42).2) != r43.2)) rfl (GV.F rfl) (fun hg46 => Reads.strip 119 rfl (hg46) (Reads.strip 120 rfl (hg46) (r_neq_bool Try.underlying4 rfl rfl))) rfl ?_
        refine ao_read trivial (r_orB rfl rfl) rfl ?_
        refine ao_nil ?_
        refine aq_then ?_
        refine aw_cond rfl (fun hb47 => ?_) (fun hb47 => ?_)
        · replace h := is_if hb47 h
          refine aw_seq ?_
          refine aw_region ?_
          refine ao_read trivial (r_assign rfl) rfl ?_
          refine ao_nil ?_
          refine aq_then ?_
          refine aw_ret ?_
          refine aq_then_ret ?_
          refine aq_ret ?_
          obtain rfl := is_some h
          exact aq_finx (l := [.tmp 2]) (xs := [.bool false]) idn [.bool false] [] rfl (by exact ⟨rfl, trivial⟩) (by exact ⟨ad_ren rfl, trivial⟩) (by exact trivial) rfl (nk rfl) rfl rfl ⟨rfl, rfl⟩
        · obtain ⟨q48, q49⟩ := or_f hb47
          replace h := is_else (ne_t hb47) h
          refine aw_skip ?_
          refine aq_then ?_
          refine aw_seq ?_
          refine aw_region ?_
          refine ao_read trivial (r_move rfl) rfl ?_
          obtain ⟨r50, r50h, h⟩ := is_bind h
          refine ao_scall trivial (scall (c_spec_DrawPairOf (is_mk r50h)) rfl Try.func17 rfl rfl rfl rfl (fun σ => ⟨ad_ren rfl, trivial⟩)) rfl ?_
          refine ao_read trivial (r_move rfl) rfl ?_
          refine ao_read trivial (r_extract rfl rfl) rfl ?_
          refine ao_read trivial (r_extract rfl rfl) rfl ?_
          refine ao_eff trivial (e_alloc 8 (y := .v (.arr 6 (.int .i64)) ((List.replicate 6 0) : (List Int))) Try.zeroValue24 (fun ρ h M => ra_zero_arr (t := (.int .i64)) rfl) rfl rfl rfl rfl rfl) rfl ?_
          refine ao_eff trivial (e_alloc 9 (y := .v (.arr 6 (.int .i64)) ((List.replicate 6 0) : (List Int))) Try.zeroValue24 (fun ρ h M => ra_zero_arr (t := (.int .i64)) rfl) rfl rfl rfl rfl rfl) rfl ?_
          refine ao_effS trivial (e_store rfl rfl rfl rfl Try.sizeOf24 rfl) ?_
          refine ao_effS trivial (e_store rfl rfl rfl rfl Try.sizeOf24 rfl) ?_
          refine ao_nil ?_
          refine aq_then ?_
          refine aw_seq ?_
          refine aw_region ?_
          refine ao_read trivial (r_load_arr rfl Try.isAgg24 Try.sizeOf24 rfl rfl rfl) rfl ?_
          refine ao_read trivial (r_load_arr rfl Try.isAgg24 Try.sizeOf24 rfl rfl rfl) rfl ?_
          refine ao_scall trivial (scall (c_impl_PairOf (is_mk (rfl : p_impl_PairOf r50.1 r50.2 = _))) rfl Try.func18 rfl rfl rfl rfl (fun σ => ⟨ad_ren rfl, ad_ren rfl, trivial⟩)) rfl ?_
          refine ao_read trivial (r_move rfl) rfl ?_
          refine ao_read trivial (r_extract rfl rfl) rfl ?_
          refine ao_read trivial (r_extract rfl rfl) rfl ?_
          refine ao_eff trivial (e_alloc 10 (y := .st [.v (.arr 6 (.int .i64)) ((List.replicate 6 0) : (List Int)), .v (.arr 6 (.int .i64)) ((List.replicate 6 0) : (List Int))]) Try.zeroValue26 (fun ρ h M => ra_zero_st (t := (.pair (.arr 6 (.int .i64)) (.pair (.arr 6 (.int .i64)) .unit))) rfl rfl rfl) rfl rfl rfl rfl rfl) rfl ?_
          refine ao_effS trivial (e_store rfl rfl rfl rfl Try.sizeOf26 rfl) ?_
          refine ao_read trivial (r_assign rfl) rfl ?_
          refine ao_nil ?_
          refine aq_then ?_
          refine aw_seq ?_
          refine aw_seq ?_
          refine aw_region ?_
          refine ao_read trivial (r_load_arr rfl Try.isAgg24 Try.sizeOf24 rfl rfl rfl) rfl ?_
          refine ao_read trivial (r_load_arr rfl Try.isAgg24 Try.sizeOf24 rfl rfl rfl) rfl ?_
          obtain ⟨r51, r51h, h⟩ := is_bind h
          refine ao_scall trivial (scall (c_spec_PairOf (is_mk r51h)) rfl Try.func19 rfl rfl rfl rfl (fun σ => ⟨ad_ren rfl, ad_ren rfl, trivial⟩)) rfl ?_
          refine ao_read trivial (r_move rfl) rfl ?_
          refine ao_read trivial (r_extract rfl rfl) rfl ?_
          refine ao_read trivial (r_extract rfl rfl) rfl ?_
          refine ao_eff trivial (e_alloc 11 (y := .st [.v (.arr 6 (.int .i64)) ((List.replicate 6 0) : (List Int)), .v (.arr 6 (.int .i64)) ((List.replicate 6 0) : (List Int))]) Try.zeroValue26 (fun ρ h M => ra_zero_st (t := (.pair (.arr 6 (.int .i64)) (.pair (.arr 6 (.int .i64)) .unit))) rfl rfl rfl) rfl rfl rfl rfl rfl) rfl ?_
          refine ao_effS trivial (e_store rfl rfl rfl rfl Try.sizeOf26 rfl) ?_
          refine ao_read trivial (r_assign rfl) rfl ?_
          refine ao_nil ?_
          refine aq_then ?_
          refine aw_seq ?_
          refine aw_region ?_
          refine ao_read trivial (r_load_part (τ := (.pair (.arr 6 (.int .i64)) (.pair (.arr 6 (.int .i64)) .unit))) (y := ((((p_impl_PairOf r50.1 r50.2).1).1, ((((p_impl_PairOf r50.1 r50.2).1).2).1, ())) : ((List Int) × ((List Int) × Unit)))) [] [] rfl Try.isAgg26 Try.sizeOf26 rfl rfl rfl rfl) rfl ?_
          refine ao_read trivial (r_load_part (τ := (.pair (.arr 6 (.int .i64)) (.pair (.arr 6 (.int .i64)) .unit))) (y := ((r51.1.1, (r51.1.2.1, ())) : ((List Int) × ((List Int) × Unit)))) [] [] rfl Try.isAgg26 Try.sizeOf26 rfl rfl rfl rfl) rfl ?_
          refine ao_read trivial (r_eq_data (.pair (.arr 6 (.int .i64)) (.pair (.arr 6 (.int .i64)) .unit)) 3 Try.underlying26 (by kernel_rfl) (by kernel_rfl) ⟨rfl, rfl, Try.isAgg24, Try.sizeOf24, (teq_ints Try.underlying24 Try.underlying3 Try.isAgg3 (info_size Try.sizeOf3)), ⟨rfl, rfl, Try.isAgg24, Try.sizeOf24, (teq_ints Try.underlying24 Try.underlying3 Try.isAgg3 (info_size Try.sizeOf3)), trivial⟩⟩ rfl rfl rfl rfl rfl) rfl ?_
          refine ao_read trivial (r_move rfl) rfl ?_
          refine ao_readG (x := .bool ((p_impl_PairOf r50.1 r50.2).2)) rfl (GV.F rfl) (fun hg52 => r_move rfl) rfl ?_
          refine ao_readG (x := .bool r51.2) rfl (GV.F rfl) (fun hg53 => r_move rfl) rfl ?_
          refine ao_readG (x := .bool (((p_impl_PairOf r50.1 r50.2).2) != r51.2)) rfl (GV.F rfl) (fun hg54 => Reads.strip 144 rfl (hg54) (Reads.strip 145 rfl (hg54) (r_neq_bool Try.underlying4 rfl rfl))) rfl ?_
          refine ao_read trivial (r_orB rfl rfl) rfl ?_
          refine ao_read trivial (r_move rfl) rfl ?_
          refine ao_readG (x := .bool ((p_impl_PairOf r50.1 r50.2).2)) rfl (GV.F rfl) (fun hg55 => by
                obtain ⟨q56, q57⟩ := or_f (not_t hg55)
                exact r_move rfl) rfl ?_
          refine ao_readG (x := .v (.arr 6 (.int .i64)) r50.1) rfl (GV.F rfl) (fun hg58 => by
                obtain ⟨q59, q60⟩ := or_f (not_t hg58)
                exact r_load_arr rfl Try.isAgg24 Try.sizeOf24 rfl rfl rfl) rfl ?_
          refine ao_scallG (r := .bool (p_impl_IsDie r50.1)) rfl (GV.F rfl) (fun hg61 => by
                obtain ⟨q62, q63⟩ := or_f (not_t hg61)
                exact SCall.strip 150 rfl (hg61) (scall (c_impl_IsDie (is_mk (rfl : p_impl_IsDie r50.1 = _))) rfl Try.func20 rfl rfl rfl rfl (fun σ => ⟨ad_ren rfl, trivial⟩))) rfl ?_
          refine ao_readG (x := .bool (p_impl_IsDie r50.1)) rfl (GV.F rfl) (fun hg64 => by
                obtain ⟨q65, q66⟩ := or_f (not_t hg64)
                exact Reads.strip 151 rfl (hg64) (r_move rfl)) rfl ?_
          refine ao_readG (x := .v (.arr 6 (.int .i64)) r50.2) rfl (GV.gT rfl) (fun hg67 => by
                obtain ⟨q68, q69⟩ := and_t hg67
                obtain ⟨q70, q71⟩ := or_f (not_t q68)
                exact r_load_arr rfl Try.isAgg24 Try.sizeOf24 rfl rfl rfl) rfl ?_
          refine ao_scallG (r := .bool (p_impl_IsDie r50.2)) rfl (GV.gT rfl) (fun hg72 => by
                obtain ⟨q73, q74⟩ := and_t hg72
                obtain ⟨q75, q76⟩ := or_f (not_t q73)
                exact SCall.strip 153 rfl (hg72) (scall (c_impl_IsDie (is_mk (rfl : p_impl_IsDie r50.2 = _))) rfl Try.func20 rfl rfl rfl rfl (fun σ => ⟨ad_ren rfl, trivial⟩))) rfl ?_
          refine ao_readG (x := .bool ((p_impl_IsDie r50.1) && (p_impl_IsDie r50.2))) rfl (GV.F rfl) (fun hg77 => by
                obtain ⟨q78, q79⟩ := or_f (not_t hg77)
                exact Reads.strip 152 rfl (hg77) (r_andBg rfl rfl (tr_and (hg77)))) rfl ?_
          refine ao_readG (x := .bool (((p_impl_PairOf r50.1 r50.2).2) != ((p_impl_IsDie r50.1) && (p_impl_IsDie r50.2)))) rfl (GV.F rfl) (fun hg80 => by
                obtain ⟨q81, q82⟩ := or_f (not_t hg80)
                exact Reads.strip 149 rfl (hg80) (Reads.strip 155 rfl (hg80) (r_neq_bool Try.underlying4 rfl rfl))) rfl ?_
          refine ao_read trivial (r_orB rfl rfl) rfl ?_
          refine ao_read trivial (r_move rfl) rfl ?_
          refine ao_readG (x := .v (.pair (.arr 6 (.int .i64)) (.pair (.arr 6 (.int .i64)) .unit)) ((((p_impl_PairOf r50.1 r50.2).1).1, ((((p_impl_PairOf r50.1 r50.2).1).2).1, ())) : ((List Int) × ((List Int) × Unit)))) rfl (GV.F rfl) (fun hg83 => by
                obtain ⟨q84, q85⟩ := or_f (not_t hg83)
                obtain ⟨q86, q87⟩ := or_f q84
                exact r_load_part (τ := (.pair (.arr 6 (.int .i64)) (.pair (.arr 6 (.int .i64)) .unit))) (y := ((((p_impl_PairOf r50.1 r50.2).1).1, ((((p_impl_PairOf r50.1 r50.2).1).2).1, ())) : ((List Int) × ((List Int) × Unit)))) [] [] rfl Try.isAgg26 Try.sizeOf26 rfl rfl rfl rfl) rfl ?_
          refine ao_scallG (r := .bool (p_impl_IsPair (((p_impl_PairOf r50.1 r50.2).1).1, ((((p_impl_PairOf r50.1 r50.2).1).2).1, ())))) rfl (GV.F rfl) (fun hg88 => by
                obtain ⟨q89, q90⟩ := or_f (not_t hg88)
                obtain ⟨q91, q92⟩ := or_f q89
                exact SCall.strip 159 rfl (hg88) (scall (c_impl_IsPair (is_mk (rfl : p_impl_IsPair (((p_impl_PairOf r50.1 r50.2).1).1, ((((p_impl_PairOf r50.1 r50.2).1).2).1, ())) = _))) rfl Try.func11 rfl rfl rfl rfl (fun σ => ⟨ad_ren rfl, trivial⟩))) rfl ?_
          refine ao_readG (x := .bool (!(p_impl_IsPair (((p_impl_PairOf r50.1 r50.2).1).1, ((((p_impl_PairOf r50.1 r50.2).1).2).1, ()))))) rfl (GV.F rfl) (fun hg93 => by
                obtain ⟨q94, q95⟩ := or_f (not_t hg93)
                obtain ⟨q96, q97⟩ := or_f q94
                exact Reads.strip 160 rfl (hg93) (r_not rfl)) rfl ?_
          refine ao_read trivial (r_orB rfl rfl) rfl ?_
          refine ao_nil ?_
          refine aq_then ?_
          refine aw_cond rfl (fun hb98 => ?_) (fun hb98 => ?_)
          · replace h := is_if hb98 h
            refine aw_seq ?_
            refine aw_region ?_
            refine ao_read trivial (r_assign rfl) rfl ?_
            refine ao_nil ?_
            refine aq_then ?_
            refine aw_ret ?_
            refine aq_then_ret ?_
            refine aq_ret ?_
            obtain rfl := is_some h
            exact aq_finx (l := [.tmp 2]) (xs := [.bool false]) idn [.bool false] [] rfl (by exact ⟨rfl, trivial⟩) (by exact ⟨ad_ren rfl, trivial⟩) (by exact trivial) rfl (nk rfl) rfl rfl ⟨rfl, rfl⟩
          · obtain ⟨q99, q100⟩ := or_f hb98
            obtain ⟨q101, q102⟩ := or_f q99
            obtain ⟨q103, q104⟩ := or_f q101
            replace h := is_else (ne_t hb98) h
            refine aw_skip ?_
            refine aq_then ?_
            refine aw_seq ?_
            refine aw_region ?_
            refine ao_read trivial (r_move rfl) rfl ?_
            obtain ⟨r105, r105h, h⟩ := is_bind h
            refine ao_call [] 12 trivial (c_spec_DrawOneLike (is_mk r105h)) Try.func21 rfl rfl rfl rfl ⟨ad_ren rfl, trivial⟩ trivial rfl rfl rfl rfl rfl rfl rfl (fun r' H' hr => ?_)
            obtain ⟨rfl, rfl⟩ := hr
            refine ao_norm (y := .os 12) (H' := [(11, .var [.arr (.int .i64) 6 r51.1.1, .arr (.int .i64) 6 r51.1.2.1]), (10, .var [.arr (.int .i64) 6 (((p_impl_PairOf r50.1 r50.2).1).1 : (List Int)), .arr (.int .i64) 6 ((((p_impl_PairOf r50.1 r50.2).1).2).1 : (List Int))]), (9, .var [.arr (.int .i64) 6 r50.2]), (8, .var [.arr (.int .i64) 6 r50.1]), (7, .var [.arr (.int .i64) 6 r43.1]), (6, .var [.arr (.int .i64) 6 ((p_impl_BaseOf r42).1 : (List Int))]), (5, .var [.arr (.int .i64) 6 r42]), (4, .var [.arr (.int .i64) 6 r24.1.1, .arr (.int .i64) 6 r24.1.2.1]), (3, .var [.arr (.int .i64) 6 (((p_impl_MirrorPair (r2.1, (r2.2.1, ()))).1).1 : (List Int)), .arr (.int .i64) 6 ((((p_impl_MirrorPair (r2.1, (r2.2.1, ()))).1).2).1 : (List Int))]), (2, .var [.arr (.int .i64) 6 r3.1.1, .arr (.int .i64) 6 r3.1.2.1]), (1, .var [.arr (.int .i64) 6 (((p_impl_ShapeOf (r2.1, (r2.2.1, ()))).1).1 : (List Int)), .arr (.int .i64) 6 ((((p_impl_ShapeOf (r2.1, (r2.2.1, ()))).1).2).1 : (List Int))]), (0, .var [.arr (.int .i64) 6 r2.1, .arr (.int .i64) 6 r2.2.1]), (12, .row (.arr 6 (.int .i64)) r105)]) rfl rfl ?_
            refine row_len_o 12 (r105.length : Int) rfl rfl (fun hr106 => ?_)
            refine ao_read trivial (r_assign rfl) rfl ?_
            refine ao_nil ?_
            refine aq_then ?_
            refine aw_seq ?_
            refine aw_region ?_
            refine ao_read trivial (r_move rfl) rfl ?_
            obtain ⟨r107, r107h, h⟩ := is_bind h
            refine ao_scall trivial (scall (c_impl_OneLike (is_mk r107h)) rfl Try.func22 rfl rfl rfl rfl (fun σ => ⟨ad_os0 rfl, trivial⟩)) rfl ?_
            refine ao_read trivial (r_move rfl) rfl ?_
            refine ao_read trivial (r_extract rfl rfl) rfl ?_
            refine ao_read trivial (r_extract rfl rfl) rfl ?_
            refine ao_eff trivial (e_alloc 13 (y := .v (.arr 6 (.int .i64)) ((List.replicate 6 0) : (List Int))) Try.zeroValue24 (fun ρ h M => ra_zero_arr (t := (.int .i64)) rfl) rfl rfl rfl rfl rfl) rfl ?_
            refine ao_effS trivial (e_store rfl rfl rfl rfl Try.sizeOf24 rfl) ?_
            refine ao_read trivial (r_assign rfl) rfl ?_
            refine ao_nil ?_
            refine aq_then ?_
            refine aw_seq ?_
            refine aw_seq ?_
            refine aw_region ?_
            refine ao_read trivial (r_move rfl) rfl ?_
            obtain ⟨r108, r108h, h⟩ := is_bind h
            refine ao_scall trivial (scall (c_spec_OneLike (is_mk r108h)) rfl Try.func23 rfl rfl rfl rfl (fun σ => ⟨ad_os0 rfl, trivial⟩)) rfl ?_
            refine ao_read trivial (r_move rfl) rfl ?_
            refine ao_read trivial (r_extract rfl rfl) rfl ?_
            refine ao_read trivial (r_extract rfl rfl) rfl ?_
            refine ao_eff trivial (e_alloc 14 (y := .v (.arr 6 (.int .i64)) ((List.replicate 6 0) : (List Int))) Try.zeroValue24 (fun ρ h M => ra_zero_arr (t := (.int .i64)) rfl) rfl rfl rfl rfl rfl) rfl ?_
            refine ao_effS trivial (e_store rfl rfl rfl rfl Try.sizeOf24 rfl) ?_
            refine ao_read trivial (r_assign rfl) rfl ?_
            refine ao_nil ?_
            refine aq_then ?_
            refine aw_seq ?_
            refine aw_region ?_
            refine ao_read trivial (r_load_arr rfl Try.isAgg24 Try.sizeOf24 rfl rfl rfl) rfl ?_
            refine ao_read trivial (r_load_arr rfl Try.isAgg24 Try.sizeOf24 rfl rfl rfl) rfl ?_
            refine ao_read trivial (r_eq_ints Try.underlying24 Try.underlying3 Try.isAgg3 (info_size Try.sizeOf3) (by kernel_rfl) rfl rfl rfl) rfl ?_
            refine ao_read trivial (r_move rfl) rfl ?_
            refine ao_readG (x := .bool r107.2) rfl (GV.F rfl) (fun hg109 => r_move rfl) rfl ?_
            refine ao_readG (x := .bool r108.2) rfl (GV.F rfl) (fun hg110 => r_move rfl) rfl ?_
            refine ao_readG (x := .bool (r107.2 != r108.2)) rfl (GV.F rfl) (fun hg111 => Reads.strip 179 rfl (hg111) (Reads.strip 180 rfl (hg111) (r_neq_bool Try.underlying4 rfl rfl))) rfl ?_
            refine ao_read trivial (r_orB rfl rfl) rfl ?_
            refine ao_nil ?_
            refine aq_then ?_
            refine aw_cond rfl (fun hb112 => ?_) (fun hb112 => ?_)
            · replace h := is_if hb112 h
              refine aw_seq ?_
              refine aw_region ?_
              refine ao_read trivial (r_assign rfl) rfl ?_
              refine ao_nil ?_
              refine aq_then ?_
              refine aw_ret ?_
              refine aq_then_ret ?_
              refine aq_ret ?_
              obtain rfl := is_some h
              exact aq_finx (l := [.tmp 2]) (xs := [.bool false]) idn [.bool false] [] rfl (by exact ⟨rfl, trivial⟩) (by exact ⟨ad_ren rfl, trivial⟩) (by exact trivial) rfl (nk rfl) rfl rfl ⟨rfl, rfl⟩
            · obtain ⟨q113, q114⟩ := or_f hb112
              replace h := is_else (ne_t hb112) h
              refine aw_skip ?_
              refine aq_then ?_
              refine aw_seq ?_
              refine aw_region ?_
              refine ao_read trivial (r_move rfl) rfl ?_
              obtain ⟨r115, r115h, h⟩ := is_bind h
              refine ao_call [] 15 trivial (c_spec_DrawIsSymmetric (is_mk r115h)) Try.func24 rfl rfl rfl rfl ⟨ad_ren rfl, trivial⟩ trivial rfl rfl rfl rfl rfl rfl rfl (fun r' H' hr => ?_)
              obtain ⟨rfl, rfl⟩ := hr
              refine ao_norm (y := .os 15) (H' := [(14, .var [.arr (.int .i64) 6 r108.1]), (13, .var [.arr (.int .i64) 6 r107.1]), (11, .var [.arr (.int .i64) 6 r51.1.1, .arr (.int .i64) 6 r51.1.2.1]), (10, .var [.arr (.int .i64) 6 (((p_impl_PairOf r50.1 r50.2).1).1 : (List Int)), .arr (.int .i64) 6 ((((p_impl_PairOf r50.1 r50.2).1).2).1 : (List Int))]), (9, .var [.arr (.int .i64) 6 r50.2]), (8, .var [.arr (.int .i64) 6 r50.1]), (7, .var [.arr (.int .i64) 6 r43.1]), (6, .var [.arr (.int .i64) 6 ((p_impl_BaseOf r42).1 : (List Int))]), (5, .var [.arr (.int .i64) 6 r42]), (4, .var [.arr (.int .i64) 6 r24.1.1, .arr (.int .i64) 6 r24.1.2.1]), (3, .var [.arr (.int .i64) 6 (((p_impl_MirrorPair (r2.1, (r2.2.1, ()))).1).1 : (List Int)), .arr (.int .i64) 6 ((((p_impl_MirrorPair (r2.1, (r2.2.1, ()))).1).2).1 : (List Int))]), (2, .var [.arr (.int .i64) 6 r3.1.1, .arr (.int .i64) 6 r3.1.2.1]), (1, .var [.arr (.int .i64) 6 (((p_impl_ShapeOf (r2.1, (r2.2.1, ()))).1).1 : (List Int)), .arr (.int .i64) 6 ((((p_impl_ShapeOf (r2.1, (r2.2.1, ()))).1).2).1 : (List Int))]), (0, .var [.arr (.int .i64) 6 r2.1, .arr (.int .i64) 6 r2.2.1]), (12, .row (.arr 6 (.int .i64)) r105), (15, .row (.arr 6 (.int .i64)) r115)]) rfl rfl ?_
              refine row_len_o 15 (r115.length : Int) rfl rfl (fun hr116 => ?_)
              refine ao_read trivial (r_assign rfl) rfl ?_
              refine ao_nil ?_
              refine aq_then ?_
              refine aw_seq ?_
              refine aw_region ?_
              refine ao_read trivial (r_move rfl) rfl ?_
              obtain ⟨r117, r117h, h⟩ := is_bind h
              refine ao_scall trivial (scall (c_impl_IsSymmetric (is_mk r117h)) rfl Try.func25 rfl rfl rfl rfl (fun σ => ⟨ad_os0 rfl, trivial⟩)) rfl ?_
              refine ao_read trivial (r_move rfl) rfl ?_
              refine ao_read trivial (r_extract rfl rfl) rfl ?_
              refine ao_read trivial (r_extract rfl rfl) rfl ?_
              refine ao_read trivial (r_assign rfl) rfl ?_
              refine ao_read trivial (r_assign rfl) rfl ?_
              refine ao_nil ?_
              refine aq_then ?_
              refine aw_seq ?_
              refine aw_seq ?_
              refine aw_region ?_
              refine ao_read trivial (r_move rfl) rfl ?_
              obtain ⟨r118, r118h, h⟩ := is_bind h
              refine ao_scall trivial (scall (c_spec_IsSymmetric (is_mk r118h)) rfl Try.func26 rfl rfl rfl rfl (fun σ => ⟨ad_os0 rfl, trivial⟩)) rfl ?_
              refine ao_read trivial (r_move rfl) rfl ?_
              refine ao_read trivial (r_extract rfl rfl) rfl ?_
              refine ao_read trivial (r_extract rfl rfl) rfl ?_
              refine ao_read trivial (r_assign rfl) rfl ?_
              refine ao_read trivial (r_assign rfl) rfl ?_
              refine ao_nil ?_
              refine aq_then ?_
              refine aw_seq ?_
              refine aw_region ?_
              refine ao_read trivial (r_move rfl) rfl ?_
              refine ao_read trivial (r_move rfl) rfl ?_
              refine ao_read trivial (r_neq_bool Try.underlying4 rfl rfl) rfl ?_
              refine ao_read trivial (r_move rfl) rfl ?_
              refine ao_readG (x := .bool r117.2) rfl (GV.F rfl) (fun hg119 => r_move rfl) rfl ?_
              refine ao_readG (x := .bool r118.2) rfl (GV.F rfl) (fun hg120 => r_move rfl) rfl ?_
              refine ao_readG (x := .bool (r117.2 != r118.2)) rfl (GV.F rfl) (fun hg121 => Reads.strip 199 rfl (hg121) (Reads.strip 200 rfl (hg121) (r_neq_bool Try.underlying4 rfl rfl))) rfl ?_
              refine ao_read trivial (r_orB rfl rfl) rfl ?_
              refine ao_read trivial (r_move rfl) rfl ?_
              refine ao_readG (x := .bool r117.2) rfl (GV.F rfl) (fun hg122 => by
                    obtain ⟨q123, q124⟩ := or_f (not_t hg122)
                    exact r_move rfl) rfl ?_
              refine ao_readG (x := .os 15) rfl (GV.F rfl) (fun hg125 => by
                    obtain ⟨q126, q127⟩ := or_f (not_t hg125)
                    exact r_move rfl) rfl ?_
              refine ao_scallG (r := .bool (p_impl_IsPool r115)) rfl (GV.F rfl) (fun hg128 => by
                    obtain ⟨q129, q130⟩ := or_f (not_t hg128)
                    exact SCall.strip 205 rfl (hg128) (scall (c_impl_IsPool (is_mk (rfl : p_impl_IsPool r115 = _))) rfl Try.func27 rfl rfl rfl rfl (fun σ => ⟨ad_os0 rfl, trivial⟩))) rfl ?_
              refine ao_readG (x := .bool (r117.2 != (p_impl_IsPool r115))) rfl (GV.F rfl) (fun hg131 => by
                    obtain ⟨q132, q133⟩ := or_f (not_t hg131)
                    exact Reads.strip 204 rfl (hg131) (Reads.strip 206 rfl (hg131) (r_neq_bool Try.underlying4 rfl rfl))) rfl ?_
              refine ao_read trivial (r_orB rfl rfl) rfl ?_
              refine ao_nil ?_
              refine aq_then ?_
              refine aw_cond rfl (fun hb134 => ?_) (fun hb134 => ?_)
              · replace h := is_if hb134 h
                refine aw_seq ?_
                refine aw_region ?_
                refine ao_read trivial (r_assign rfl) rfl ?_
                refine ao_nil ?_
                refine aq_then ?_
                refine aw_ret ?_
                refine aq_then_ret ?_
                refine aq_ret ?_
                obtain rfl := is_some h
                exact aq_finx (l := [.tmp 2]) (xs := [.bool false]) idn [.bool false] [] rfl (by exact ⟨rfl, trivial⟩) (by exact ⟨ad_ren rfl, trivial⟩) (by exact trivial) rfl (nk rfl) rfl rfl ⟨rfl, rfl⟩
              · obtain ⟨q135, q136⟩ := or_f hb134
                obtain ⟨q137, q138⟩ := or_f q135
                replace h := is_else (ne_t hb134) h
                refine aw_skip ?_
                refine aq_then ?_
                refine aw_seq ?_
                refine aw_region ?_
                refine ao_read trivial (r_move rfl) rfl ?_
                obtain ⟨r139, r139h, h⟩ := is_bind h
                refine ao_call [] 16 trivial (c_spec_DrawEvenChance (is_mk r139h)) Try.func28 rfl rfl rfl rfl ⟨ad_ren rfl, trivial⟩ trivial rfl rfl rfl rfl rfl rfl rfl (fun r' H' hr => ?_)
                obtain ⟨rfl, rfl⟩ := hr
                refine ao_norm (y := .os 16) (H' := [(14, .var [.arr (.int .i64) 6 r108.1]), (13, .var [.arr (.int .i64) 6 r107.1]), (11, .var [.arr (.int .i64) 6 r51.1.1, .arr (.int .i64) 6 r51.1.2.1]), (10, .var [.arr (.int .i64) 6 (((p_impl_PairOf r50.1 r50.2).1).1 : (List Int)), .arr (.int .i64) 6 ((((p_impl_PairOf r50.1 r50.2).1).2).1 : (List Int))]), (9, .var [.arr (.int .i64) 6 r50.2]), (8, .var [.arr (.int .i64) 6 r50.1]), (7, .var [.arr (.int .i64) 6 r43.1]), (6, .var [.arr (.int .i64) 6 ((p_impl_BaseOf r42).1 : (List Int))]), (5, .var [.arr (.int .i64) 6 r42]), (4, .var [.arr (.int .i64) 6 r24.1.1, .arr (.int .i64) 6 r24.1.2.1]), (3, .var [.arr (.int .i64) 6 (((p_impl_MirrorPair (r2.1, (r2.2.1, ()))).1).1 : (List Int)), .arr (.int .i64) 6 ((((p_impl_MirrorPair (r2.1, (r2.2.1, ()))).1).2).1 : (List Int))]), (2, .var [.arr (.int .i64) 6 r3.1.1, .arr (.int .i64) 6 r3.1.2.1]), (1, .var [.arr (.int .i64) 6 (((p_impl_ShapeOf (r2.1, (r2.2.1, ()))).1).1 : (List Int)), .arr (.int .i64) 6 ((((p_impl_ShapeOf (r2.1, (r2.2.1, ()))).1).2).1 : (List Int))]), (0, .var [.arr (.int .i64) 6 r2.1, .arr (.int .i64) 6 r2.2.1]), (12, .row (.arr 6 (.int .i64)) r105), (15, .row (.arr 6 (.int .i64)) r115), (16, .row (.arr 6 (.int .i64)) r139)]) rfl rfl ?_
                refine row_len_o 16 (r139.length : Int) rfl rfl (fun hr140 => ?_)
                refine ao_read trivial (r_assign rfl) rfl ?_
                refine ao_nil ?_
                refine aq_then ?_
                refine aw_seq ?_
                refine aw_region ?_
                refine ao_read trivial (r_move rfl) rfl ?_
                obtain ⟨r141, r141h, h⟩ := is_bind h
                refine ao_scall trivial (scall (c_impl_EvenChance (is_mk r141h)) rfl Try.func29 rfl rfl rfl rfl (fun σ => ⟨ad_os0 rfl, trivial⟩)) rfl ?_
                refine ao_read trivial (r_move rfl) rfl ?_
                refine ao_read trivial (r_extract rfl rfl) rfl ?_
                refine ao_read trivial (r_extract rfl rfl) rfl ?_
                refine ao_eff trivial (e_alloc 17 (y := .v (.arr 2 (.int .i64)) ((List.replicate 2 0) : (List Int))) Try.zeroValue44 (fun ρ h M => ra_zero_arr (t := (.int .i64)) rfl) rfl rfl rfl rfl rfl) rfl ?_
                refine ao_effS trivial (e_store rfl rfl rfl rfl Try.sizeOf44 rfl) ?_
                refine ao_read trivial (r_assign rfl) rfl ?_
                refine ao_nil ?_
                refine aq_then ?_
                refine aw_seq ?_
                refine aw_seq ?_
                refine aw_region ?_
                refine ao_read trivial (r_move rfl) rfl ?_
                obtain ⟨r142, r142h, h⟩ := is_bind h
                refine ao_scall trivial (scall (c_spec_EvenChance (is_mk r142h)) rfl Try.func30 rfl rfl rfl rfl (fun σ => ⟨ad_os0 rfl, trivial⟩)) rfl ?_
                refine ao_read trivial (r_move rfl) rfl ?_
                refine ao_read trivial (r_extract rfl rfl) rfl ?_
                refine ao_read trivial (r_extract rfl rfl) rfl ?_
                refine ao_eff trivial (e_alloc 18 (y := .v (.arr 2 (.int .i64)) ((List.replicate 2 0) : (List Int))) Try.zeroValue44 (fun ρ h M => ra_zero_arr (t := (.int .i64)) rfl) rfl rfl rfl rfl rfl) rfl ?_
                refine ao_effS trivial (e_store rfl rfl rfl rfl Try.sizeOf44 rfl) ?_
                refine ao_read trivial (r_assign rfl) rfl ?_
                refine ao_nil ?_
                refine aq_then ?_
                refine aw_seq ?_
                refine aw_region ?_
                refine ao_read trivial (r_load_arr rfl Try.isAgg44 Try.sizeOf44 rfl rfl rfl) rfl ?_
                refine ao_read trivial (r_load_arr rfl Try.isAgg44 Try.sizeOf44 rfl rfl rfl) rfl ?_
                refine ao_read trivial (r_eq_ints Try.underlying44 Try.underlying3 Try.isAgg3 (info_size Try.sizeOf3) (by kernel_rfl) rfl rfl rfl) rfl ?_
                refine ao_read trivial (r_move rfl) rfl ?_
                refine ao_readG (x := .bool r141.2) rfl (GV.F rfl) (fun hg143 => r_move rfl) rfl ?_
                refine ao_readG (x := .bool r142.2) rfl (GV.F rfl) (fun hg144 => r_move rfl) rfl ?_
                refine ao_readG (x := .bool (r141.2 != r142.2)) rfl (GV.F rfl) (fun hg145 => Reads.strip 225 rfl (hg145) (Reads.strip 226 rfl (hg145) (r_neq_bool Try.underlying4 rfl rfl))) rfl ?_
                refine ao_read trivial (r_orB rfl rfl) rfl ?_
                refine ao_nil ?_
                refine aq_then ?_
                refine aw_cond rfl (fun hb146 => ?_) (fun hb146 => ?_)
                · replace h := is_if hb146 h
                  refine aw_seq ?_
                  refine aw_region ?_
                  refine ao_read trivial (r_assign rfl) rfl ?_
                  refine ao_nil ?_
                  refine aq_then ?_
                  refine aw_ret ?_
                  refine aq_then_ret ?_
                  refine aq_ret ?_
                  obtain rfl := is_some h
                  exact aq_finx (l := [.tmp 2]) (xs := [.bool false]) idn [.bool false] [] rfl (by exact ⟨rfl, trivial⟩) (by exact ⟨ad_ren rfl, trivial⟩) (by exact trivial) rfl (nk rfl) rfl rfl ⟨rfl, rfl⟩
                · obtain ⟨q147, q148⟩ := or_f hb146
                  replace h := is_else (ne_t hb146) h
                  refine aw_skip ?_
                  refine aq_then ?_
                  refine aw_join (fun (s149 : Unit) => [(3, .ref 0 0), (4, .ref 1 0), (5, .bool ((p_impl_ShapeOf (r2.1, (r2.2.1, ()))).2)), (8, .ref 2 0), (33, .os 3), (34, .ref 4 0), (35, .bool r141.2)]) (fun (s149 : Unit) => [(0, .var [.arr (.int .i64) 6 r2.1, .arr (.int .i64) 6 r2.2.1]), (1, .var [.arr (.int .i64) 6 (((p_impl_ShapeOf (r2.1, (r2.2.1, ()))).1).1 : (List Int)), .arr (.int .i64) 6 ((((p_impl_ShapeOf (r2.1, (r2.2.1, ()))).1).2).1 : (List Int))]), (2, .var [.arr (.int .i64) 6 (((p_impl_MirrorPair (r2.1, (r2.2.1, ()))).1).1 : (List Int)), .arr (.int .i64) 6 ((((p_impl_MirrorPair (r2.1, (r2.2.1, ()))).1).2).1 : (List Int))]), (3, .row (.arr 6 (.int .i64)) r139), (4, .var [.arr (.int .i64) 2 r141.1])]) (fun (s149 : Unit) => True) h (fun s149 hI h => ?_) (fun h j151 => ?_)
                  · refine aw_join (fun (s152 : Unit) => [(3, .ref 0 0), (4, .ref 1 0), (5, .bool ((p_impl_ShapeOf (r2.1, (r2.2.1, ()))).2)), (8, .ref 2 0)]) (fun (s152 : Unit) => [(0, .var [.arr (.int .i64) 6 r2.1, .arr (.int .i64) 6 r2.2.1]), (1, .var [.arr (.int .i64) 6 (((p_impl_ShapeOf (r2.1, (r2.2.1, ()))).1).1 : (List Int)), .arr (.int .i64) 6 ((((p_impl_ShapeOf (r2.1, (r2.2.1, ()))).1).2).1 : (List Int))]), (2, .var [.arr (.int .i64) 6 (((p_impl_MirrorPair (r2.1, (r2.2.1, ()))).1).1 : (List Int)), .arr (.int .i64) 6 ((((p_impl_MirrorPair (r2.1, (r2.2.1, ()))).1).2).1 : (List Int))])]) (fun (s152 : Unit) => True) h (fun s152 hI h => ?_) (fun h j154 => ?_)
                    · refine aw_seq ?_
                      refine aw_seq ?_
                      refine aw_region ?_
                      refine ao_read trivial (r_move rfl) rfl ?_
                      refine ao_read trivial (r_not rfl) rfl ?_
                      refine ao_nil ?_
                      refine aq_then ?_
                      refine aw_cond rfl (fun hb155 => ?_) (fun hb155 => ?_)
                      · replace h := is_else (ne_t (not_t hb155)) h
                        refine aw_seq ?_
                        refine aw_region ?_
                        refine ao_read trivial (r_assign rfl) rfl ?_
                        refine ao_nil ?_
                        refine aq_then ?_
                        refine aw_ret ?_
                        refine aq_then_ret ?_
                        refine aq_ret ?_
                        obtain rfl := is_some h
                        exact aq_finx (l := [.tmp 2]) (xs := [.bool true]) idn [.bool true] [] rfl (by exact ⟨rfl, trivial⟩) (by exact ⟨ad_ren rfl, trivial⟩) (by exact trivial) rfl (nk rfl) rfl rfl ⟨rfl, rfl⟩
                      · replace h := is_if (not_f hb155) h
                        refine aw_skip ?_
                        refine aq_then ?_
                        refine aw_seq ?_
                        refine aw_region ?_
                        refine ao_read trivial (r_fieldAddr Try.underlying26 rfl Try.sizeOf24 rfl rfl rfl) rfl ?_
                        refine ao_read trivial (r_load_arr rfl Try.isAgg24 Try.sizeOf24 rfl rfl rfl) rfl ?_
                        refine ao_read trivial (r_fieldAddr Try.underlying26 rfl Try.sizeOf24 rfl rfl rfl) rfl ?_
                        refine ao_read trivial (r_load_arr rfl Try.isAgg24 Try.sizeOf24 rfl rfl rfl) rfl ?_
                        refine ao_eff trivial (e_buildSlice (l := [(0, .tmp 267), (1, .tmp 269)]) (t := (.arr 6 (.int .i64))) 3 ([r2.1, r2.2.1] : (List (List Int))) rfl Try.underlying38 Try.zeroValue24 Try.sizeOf24 rfl rfl rfl rfl rfl rfl rfl) rfl ?_
                        obtain ⟨r156, r156h, h⟩ := is_bind h
                        refine ao_scall trivial (scall (c_impl_SpreadOf (is_mk r156h)) rfl Try.func34 rfl rfl rfl rfl (fun σ => ⟨ad_os0 rfl, trivial⟩)) rfl ?_
                        refine ao_read trivial (r_move rfl) rfl ?_
                        refine ao_read trivial (r_extract rfl rfl) rfl ?_
                        refine ao_read trivial (r_extract rfl rfl) rfl ?_
                        refine ao_eff trivial (e_alloc 4 (y := .v (.arr 2 (.int .i64)) ((List.replicate 2 0) : (List Int))) Try.zeroValue44 (fun ρ h M => ra_zero_arr (t := (.int .i64)) rfl) rfl rfl rfl rfl rfl) rfl ?_
                        refine ao_effS trivial (e_store rfl rfl rfl rfl Try.sizeOf44 rfl) ?_
                        refine ao_read trivial (r_assign rfl) rfl ?_
                        refine ao_nil ?_
                        refine aq_then ?_
                        refine aw_seq ?_
                        refine aw_region ?_
                        refine ao_read trivial (r_fieldAddr Try.underlying26 rfl Try.sizeOf24 rfl rfl rfl) rfl ?_
                        refine ao_read trivial (r_load_arr rfl Try.isAgg24 Try.sizeOf24 rfl rfl rfl) rfl ?_
                        refine ao_read trivial (r_fieldAddr Try.underlying26 rfl Try.sizeOf24 rfl rfl rfl) rfl ?_
                        refine ao_read trivial (r_load_arr rfl Try.isAgg24 Try.sizeOf24 rfl rfl rfl) rfl ?_
                        refine ao_eff trivial (e_buildSlice (l := [(0, .tmp 276), (1, .tmp 278)]) (t := (.arr 6 (.int .i64))) 5 ([((p_impl_MirrorPair (r2.1, (r2.2.1, ()))).1).1, (((p_impl_MirrorPair (r2.1, (r2.2.1, ()))).1).2).1] : (List (List Int))) rfl Try.underlying38 Try.zeroValue24 Try.sizeOf24 rfl rfl rfl rfl rfl rfl rfl) rfl ?_
                        obtain ⟨r157, r157h, h⟩ := is_bind h
                        refine ao_scall trivial (scall (c_impl_SpreadOf (is_mk r157h)) rfl Try.func34 rfl rfl rfl rfl (fun σ => ⟨ad_os0 rfl, trivial⟩)) rfl ?_
                        refine ao_read trivial (r_move rfl) rfl ?_
                        refine ao_read trivial (r_extract rfl rfl) rfl ?_
                        refine ao_read trivial (r_extract rfl rfl) rfl ?_
                        refine ao_eff trivial (e_alloc 6 (y := .v (.arr 2 (.int .i64)) ((List.replicate 2 0) : (List Int))) Try.zeroValue44 (fun ρ h M => ra_zero_arr (t := (.int .i64)) rfl) rfl rfl rfl rfl rfl) rfl ?_
                        refine ao_effS trivial (e_store rfl rfl rfl rfl Try.sizeOf44 rfl) ?_
                        refine ao_read trivial (r_assign rfl) rfl ?_
                        refine ao_nil ?_
                        refine aq_then ?_
                        refine aw_seq ?_
                        refine aw_region ?_
                        refine ao_read trivial (r_fieldAddr Try.underlying26 rfl Try.sizeOf24 rfl rfl rfl) rfl ?_
                        refine ao_read trivial (r_load_arr rfl Try.isAgg24 Try.sizeOf24 rfl rfl rfl) rfl ?_
                        refine ao_read trivial (r_fieldAddr Try.underlying26 rfl Try.sizeOf24 rfl rfl rfl) rfl ?_
                        refine ao_read trivial (r_load_arr rfl Try.isAgg24 Try.sizeOf24 rfl rfl rfl) rfl ?_
                        refine ao_eff trivial (e_buildSlice (l := [(0, .tmp 285), (1, .tmp 287)]) (t := (.arr 6 (.int .i64))) 7 ([((p_impl_ShapeOf (r2.1, (r2.2.1, ()))).1).1, (((p_impl_ShapeOf (r2.1, (r2.2.1, ()))).1).2).1] : (List (List Int))) rfl Try.underlying38 Try.zeroValue24 Try.sizeOf24 rfl rfl rfl rfl rfl rfl rfl) rfl ?_
                        obtain ⟨r158, r158h, h⟩ := is_bind h
                        refine ao_scall trivial (scall (c_impl_SpreadOf (is_mk r158h)) rfl Try.func34 rfl rfl rfl rfl (fun σ => ⟨ad_os0 rfl, trivial⟩)) rfl ?_
                        refine ao_read trivial (r_move rfl) rfl ?_
                        refine ao_read trivial (r_extract rfl rfl) rfl ?_
                        refine ao_read trivial (r_extract rfl rfl) rfl ?_
                        refine ao_eff trivial (e_alloc 8 (y := .v (.arr 2 (.int .i64)) ((List.replicate 2 0) : (List Int))) Try.zeroValue44 (fun ρ h M => ra_zero_arr (t := (.int .i64)) rfl) rfl rfl rfl rfl rfl) rfl ?_
                        refine ao_effS trivial (e_store rfl rfl rfl rfl Try.sizeOf44 rfl) ?_
                        refine ao_read trivial (r_assign rfl) rfl ?_
                        refine ao_nil ?_
                        refine aq_then ?_
                        refine aw_seq ?_
                        refine aw_region ?_
                        refine ao_read trivial (r_load_part (τ := (.pair (.arr 6 (.int .i64)) (.pair (.arr 6 (.int .i64)) .unit))) (y := ((((p_impl_MirrorPair (r2.1, (r2.2.1, ()))).1).1, ((((p_impl_MirrorPair (r2.1, (r2.2.1, ()))).1).2).1, ())) : ((List Int) × ((List Int) × Unit)))) [] [] rfl Try.isAgg26 Try.sizeOf26 rfl rfl rfl rfl) rfl ?_
                        refine ao_scall trivial (scall (c_impl_MirrorPair (is_mk (rfl : p_impl_MirrorPair (((p_impl_MirrorPair (r2.1, (r2.2.1, ()))).1).1, ((((p_impl_MirrorPair (r2.1, (r2.2.1, ()))).1).2).1, ())) = _))) rfl Try.func12 rfl rfl rfl rfl (fun σ => ⟨ad_ren rfl, trivial⟩)) rfl ?_
                        refine ao_read trivial (r_move rfl) rfl ?_
                        refine ao_read trivial (r_extract rfl rfl) rfl ?_
                        refine ao_read trivial (r_extract rfl rfl) rfl ?_
                        refine ao_eff trivial (e_alloc 9 (y := .st [.v (.arr 6 (.int .i64)) ((List.replicate 6 0) : (List Int)), .v (.arr 6 (.int .i64)) ((List.replicate 6 0) : (List Int))]) Try.zeroValue26 (fun ρ h M => ra_zero_st (t := (.pair (.arr 6 (.int .i64)) (.pair (.arr 6 (.int .i64)) .unit))) rfl rfl rfl) rfl rfl rfl rfl rfl) rfl ?_
                        refine ao_effS trivial (e_store rfl rfl rfl rfl Try.sizeOf26 rfl) ?_
                        refine ao_read trivial (r_assign rfl) rfl ?_
                        refine ao_nil ?_
                        refine aq_then ?_
                        refine aw_seq ?_
                        refine aw_region ?_
                        refine ao_read trivial (r_move rfl) rfl ?_
                        refine ao_read trivial (r_move rfl) rfl ?_
                        refine ao_readG (x := .bool r157.2) rfl (GV.T rfl) (fun hg159 => r_move rfl) rfl ?_
                        refine ao_read trivial (r_andB rfl rfl) rfl ?_
                        refine ao_read trivial (r_move rfl) rfl ?_
                        refine ao_readG (x := .bool r158.2) rfl (GV.T rfl) (fun hg160 => by
                              obtain ⟨q161, q162⟩ := and_t hg160
                              exact r_move rfl) rfl ?_
                        refine ao_read trivial (r_andB rfl rfl) rfl ?_
                        refine ao_read trivial (r_move rfl) rfl ?_
                        refine ao_readG (x := .bool ((p_impl_MirrorPair (((p_impl_MirrorPair (r2.1, (r2.2.1, ()))).1).1, ((((p_impl_MirrorPair (r2.1, (r2.2.1, ()))).1).2).1, ()))).2)) rfl (GV.T rfl) (fun hg163 => by
                              obtain ⟨q164, q165⟩ := and_t hg163
                              obtain ⟨q166, q167⟩ := and_t q164
                              exact r_move rfl) rfl ?_
                        refine ao_read trivial (r_andB rfl rfl) rfl ?_
                        refine ao_read trivial (r_move rfl) rfl ?_
                        refine ao_readG (x := .v (.arr 2 (.int .i64)) r156.1) rfl (GV.T rfl) (fun hg168 => by
                              obtain ⟨q169, q170⟩ := and_t hg168
                              obtain ⟨q171, q172⟩ := and_t q169
                              obtain ⟨q173, q174⟩ := and_t q171
                              exact r_load_arr rfl Try.isAgg44 Try.sizeOf44 rfl rfl rfl) rfl ?_
                        refine ao_readG (x := .v (.arr 2 (.int .i64)) r157.1) rfl (GV.T rfl) (fun hg175 => by
                              obtain ⟨q176, q177⟩ := and_t hg175
                              obtain ⟨q178, q179⟩ := and_t q176
                              obtain ⟨q180, q181⟩ := and_t q178
                              exact r_load_arr rfl Try.isAgg44 Try.sizeOf44 rfl rfl rfl) rfl ?_
                        refine ao_readG (x := .bool (decide (r156.1 = r157.1))) rfl (GV.T rfl) (fun hg182 => by
                              obtain ⟨q183, q184⟩ := and_t hg182
                              obtain ⟨q185, q186⟩ := and_t q183
                              obtain ⟨q187, q188⟩ := and_t q185
                              exact Reads.strip 308 rfl (hg182) (Reads.strip 309 rfl (hg182) (r_eq_ints Try.underlying44 Try.underlying3 Try.isAgg3 (info_size Try.sizeOf3) (by kernel_rfl) rfl rfl rfl))) rfl ?_
                        refine ao_read trivial (r_andB rfl rfl) rfl ?_
                        refine ao_read trivial (r_move rfl) rfl ?_
                        refine ao_readG (x := .v (.arr 2 (.int .i64)) r156.1) rfl (GV.T rfl) (fun hg189 => by
                              obtain ⟨q190, q191⟩ := and_t hg189
                              obtain ⟨q192, q193⟩ := and_t q190
                              obtain ⟨q194, q195⟩ := and_t q192
                              obtain ⟨q196, q197⟩ := and_t q194
                              exact r_load_arr rfl Try.isAgg44 Try.sizeOf44 rfl rfl rfl) rfl ?_
                        refine ao_readG (x := .v (.arr 2 (.int .i64)) r158.1) rfl (GV.T rfl) (fun hg198 => by
                              obtain ⟨q199, q200⟩ := and_t hg198
                              obtain ⟨q201, q202⟩ := and_t q199
                              obtain ⟨q203, q204⟩ := and_t q201
                              obtain ⟨q205, q206⟩ := and_t q203
                              exact r_load_arr rfl Try.isAgg44 Try.sizeOf44 rfl rfl rfl) rfl ?_
                        refine ao_readG (x := .bool (decide (r156.1 = r158.1))) rfl (GV.T rfl) (fun hg207 => by
                              obtain ⟨q208, q209⟩ := and_t hg207
                              obtain ⟨q210, q211⟩ := and_t q208
                              obtain ⟨q212, q213⟩ := and_t q210
                              obtain ⟨q214, q215⟩ := and_t q212
                              exact Reads.strip 313 rfl (hg207) (Reads.strip 314 rfl (hg207) (r_eq_ints Try.underlying44 Try.underlying3 Try.isAgg3 (info_size Try.sizeOf3) (by kernel_rfl) rfl rfl rfl))) rfl ?_
                        refine ao_read trivial (r_andB rfl rfl) rfl ?_
                        refine ao_read trivial (r_move rfl) rfl ?_
                        refine ao_readG (x := .v (.pair (.arr 6 (.int .i64)) (.pair (.arr 6 (.int .i64)) .unit)) ((((p_impl_MirrorPair (((p_impl_MirrorPair (r2.1, (r2.2.1, ()))).1).1, ((((p_impl_MirrorPair (r2.1, (r2.2.1, ()))).1).2).1, ()))).1).1, ((((p_impl_MirrorPair (((p_impl_MirrorPair (r2.1, (r2.2.1, ()))).1).1, ((((p_impl_MirrorPair (r2.1, (r2.2.1, ()))).1).2).1, ()))).1).2).1, ())) : ((List Int) × ((List Int) × Unit)))) rfl (GV.T rfl) (fun hg216 => by
                              obtain ⟨q217, q218⟩ := and_t hg216
                              obtain ⟨q219, q220⟩ := and_t q217
                              obtain ⟨q221, q222⟩ := and_t q219
                              obtain ⟨q223, q224⟩ := and_t q221
                              obtain ⟨q225, q226⟩ := and_t q223
                              exact r_load_part (τ := (.pair (.arr 6 (.int .i64)) (.pair (.arr 6 (.int .i64)) .unit))) (y := ((((p_impl_MirrorPair (((p_impl_MirrorPair (r2.1, (r2.2.1, ()))).1).1, ((((p_impl_MirrorPair (r2.1, (r2.2.1, ()))).1).2).1, ()))).1).1, ((((p_impl_MirrorPair (((p_impl_MirrorPair (r2.1, (r2.2.1, ()))).1).1, ((((p_impl_MirrorPair (r2.1, (r2.2.1, ()))).1).2).1, ()))).1).2).1, ())) : ((List Int) × ((List Int) × Unit)))) [] [] rfl Try.isAgg26 Try.sizeOf26 rfl rfl rfl rfl) rfl ?_
                        refine ao_readG (x := .v (.pair (.arr 6 (.int .i64)) (.pair (.arr 6 (.int .i64)) .unit)) ((r2.1, (r2.2.1, ())) : ((List Int) × ((List Int) × Unit)))) rfl (GV.T rfl) (fun hg227 => by
                              obtain ⟨q228, q229⟩ := and_t hg227
                              obtain ⟨q230, q231⟩ := and_t q228
                              obtain ⟨q232, q233⟩ := and_t q230
                              obtain ⟨q234, q235⟩ := and_t q232
                              obtain ⟨q236, q237⟩ := and_t q234
                              exact r_load_part (τ := (.pair (.arr 6 (.int .i64)) (.pair (.arr 6 (.int .i64)) .unit))) (y := ((r2.1, (r2.2.1, ())) : ((List Int) × ((List Int) × Unit)))) [] [] rfl Try.isAgg26 Try.sizeOf26 rfl rfl rfl rfl) rfl ?_
                        refine ao_readG (x := .bool (eqT (.pair (.arr 6 (.int .i64)) (.pair (.arr 6 (.int .i64)) .unit)) ((((p_impl_MirrorPair (((p_impl_MirrorPair (r2.1, (r2.2.1, ()))).1).1, ((((p_impl_MirrorPair (r2.1, (r2.2.1, ()))).1).2).1, ()))).1).1, ((((p_impl_MirrorPair (((p_impl_MirrorPair (r2.1, (r2.2.1, ()))).1).1, ((((p_impl_MirrorPair (r2.1, (r2.2.1, ()))).1).2).1, ()))).1).2).1, ())) : ((List Int) × ((List Int) × Unit))) ((r2.1, (r2.2.1, ())) : ((List Int) × ((List Int) × Unit))))) rfl (GV.T rfl) (fun hg238 => by
                              obtain ⟨q239, q240⟩ := and_t hg238
                              obtain ⟨q241, q242⟩ := and_t q239
                              obtain ⟨q243, q244⟩ := and_t q241
                              obtain ⟨q245, q246⟩ := and_t q243
                              obtain ⟨q247, q248⟩ := and_t q245
                              exact Reads.strip 318 rfl (hg238) (Reads.strip 319 rfl (hg238) (r_eq_data (.pair (.arr 6 (.int .i64)) (.pair (.arr 6 (.int .i64)) .unit)) 3 Try.underlying26 (by kernel_rfl) (by kernel_rfl) ⟨rfl, rfl, Try.isAgg24, Try.sizeOf24, (teq_ints Try.underlying24 Try.underlying3 Try.isAgg3 (info_size Try.sizeOf3)), ⟨rfl, rfl, Try.isAgg24, Try.sizeOf24, (teq_ints Try.underlying24 Try.underlying3 Try.isAgg3 (info_size Try.sizeOf3)), trivial⟩⟩ rfl rfl rfl rfl rfl))) rfl ?_
                        refine ao_read trivial (r_andB rfl rfl) rfl ?_
                        refine ao_read trivial (r_move rfl) rfl ?_
                        refine ao_readG (x := .ref 1 0) rfl (GV.T rfl) (fun hg249 => by
                              obtain ⟨q250, q251⟩ := and_t hg249
                              obtain ⟨q252, q253⟩ := and_t q250
                              obtain ⟨q254, q255⟩ := and_t q252
                              obtain ⟨q256, q257⟩ := and_t q254
                              obtain ⟨q258, q259⟩ := and_t q256
                              obtain ⟨q260, q261⟩ := and_t q258
                              exact r_fieldAddr Try.underlying26 rfl Try.sizeOf24 rfl rfl rfl) rfl ?_
                        refine ao_readG (x := .elem 1 0 1 0) rfl (GV.T rfl) (fun hg262 => by
                              obtain ⟨q263, q264⟩ := and_t hg262
                              obtain ⟨q265, q266⟩ := and_t q263
                              obtain ⟨q267, q268⟩ := and_t q265
                              obtain ⟨q269, q270⟩ := and_t q267
                              obtain ⟨q271, q272⟩ := and_t q269
                              obtain ⟨q273, q274⟩ := and_t q271
                              exact Reads.strip 323 rfl (hg262) (r_idxAddr_arr (i := 0) Try.underlying24 Try.sizeOf3 rfl rfl (show 0 ≤ 0 from by omega) (show 0 < (6 : Int) from by omega))) rfl ?_
                        refine ao_readG (x := .int .i64 ((((p_impl_ShapeOf (r2.1, (r2.2.1, ()))).1).1).getD 0 0)) rfl (GV.T rfl) (fun hg275 => by
                              obtain ⟨q276, q277⟩ := and_t hg275
                              obtain ⟨q278, q279⟩ := and_t q276
                              obtain ⟨q280, q281⟩ := and_t q278
                              obtain ⟨q282, q283⟩ := and_t q280
                              obtain ⟨q284, q285⟩ := and_t q282
                              obtain ⟨q286, q287⟩ := and_t q284
                              exact Reads.strip 324 rfl (hg275) (r_load_elema_int Try.isAgg3 Try.sizeOf3 rfl rfl rfl (show 0 < 6 from by omega))) rfl ?_
                        refine ao_readG (x := .bool (decide (((((p_impl_ShapeOf (r2.1, (r2.2.1, ()))).1).1).getD 0 0) = 0))) rfl (GV.T rfl) (fun hg288 => by
                              obtain ⟨q289, q290⟩ := and_t hg288
                              obtain ⟨q291, q292⟩ := and_t q289
                              obtain ⟨q293, q294⟩ := and_t q291
                              obtain ⟨q295, q296⟩ := and_t q293
                              obtain ⟨q297, q298⟩ := and_t q295
                              obtain ⟨q299, q300⟩ := and_t q297
                              exact Reads.strip 325 rfl (hg288) (r_eql rfl rfl)) rfl ?_
                        refine ao_read trivial (r_andB rfl rfl) rfl ?_
                        refine ao_read trivial (r_assign rfl) rfl ?_
                        refine ao_nil ?_
                        refine aq_then ?_
                        refine aw_ret ?_
                        refine aq_ret ?_
                        obtain rfl := is_some h
                        exact aq_finx (l := [.tmp 2]) (xs := [.bool (((((((r156.2 && r157.2) && r158.2) && ((p_impl_MirrorPair (((p_impl_MirrorPair (r2.1, (r2.2.1, ()))).1).1, ((((p_impl_MirrorPair (r2.1, (r2.2.1, ()))).1).2).1, ()))).2)) && (decide (r156.1 = r157.1))) && (decide (r156.1 = r158.1))) && (eqT (.pair (.arr 6 (.int .i64)) (.pair (.arr 6 (.int .i64)) .unit)) ((((p_impl_MirrorPair (((p_impl_MirrorPair (r2.1, (r2.2.1, ()))).1).1, ((((p_impl_MirrorPair (r2.1, (r2.2.1, ()))).1).2).1, ()))).1).1, ((((p_impl_MirrorPair (((p_impl_MirrorPair (r2.1, (r2.2.1, ()))).1).1, ((((p_impl_MirrorPair (r2.1, (r2.2.1, ()))).1).2).1, ()))).1).2).1, ())) : ((List Int) × ((List Int) × Unit))) ((r2.1, (r2.2.1, ())) : ((List Int) × ((List Int) × Unit))))) && (decide (((((p_impl_ShapeOf (r2.1, (r2.2.1, ()))).1).1).getD 0 0) = 0)))]) idn [.bool (((((((r156.2 && r157.2) && r158.2) && ((p_impl_MirrorPair (((p_impl_MirrorPair (r2.1, (r2.2.1, ()))).1).1, ((((p_impl_MirrorPair (r2.1, (r2.2.1, ()))).1).2).1, ()))).2)) && (decide (r156.1 = r157.1))) && (decide (r156.1 = r158.1))) && (eqT (.pair (.arr 6 (.int .i64)) (.pair (.arr 6 (.int .i64)) .unit)) ((((p_impl_MirrorPair (((p_impl_MirrorPair (r2.1, (r2.2.1, ()))).1).1, ((((p_impl_MirrorPair (r2.1, (r2.2.1, ()))).1).2).1, ()))).1).1, ((((p_impl_MirrorPair (((p_impl_MirrorPair (r2.1, (r2.2.1, ()))).1).1, ((((p_impl_MirrorPair (r2.1, (r2.2.1, ()))).1).2).1, ()))).1).2).1, ())) : ((List Int) × ((List Int) × Unit))) ((r2.1, (r2.2.1, ())) : ((List Int) × ((List Int) × Unit))))) && (decide (((((p_impl_ShapeOf (r2.1, (r2.2.1, ()))).1).1).getD 0 0) = 0)))] [] rfl (by exact ⟨rfl, trivial⟩) (by exact ⟨ad_ren rfl, trivial⟩) (by exact trivial) rfl (nk rfl) rfl rfl ⟨rfl, rfl⟩
                    · refine aw_seq ?_
                      refine aw_region ?_
                      refine ao_read trivial (r_move rfl) rfl ?_
                      refine ao_nil ?_
                      refine aq_then ?_
                      refine aw_cond rfl (fun hb301 => ?_) (fun hb301 => ?_)
                      · replace h := is_if hb301 h
                        refine aw_seq ?_
                        refine aw_region ?_
                        refine ao_read trivial (r_build_arr (l := [(0, .const (.int .i64 0)), (1, .const (.int .i64 1))]) (t := (.int .i64)) ([0, 1] : (List Int)) rfl Try.underlying44 Try.zeroValue44 Try.sizeOf3 rfl rfl rfl rfl) rfl ?_
                        refine ao_eff trivial (e_alloc 5 (y := .v (.arr 2 (.int .i64)) ((List.replicate 2 0) : (List Int))) Try.zeroValue44 (fun ρ h M => ra_zero_arr (t := (.int .i64)) rfl) rfl rfl rfl rfl rfl) rfl ?_
                        refine ao_effS trivial (e_store rfl rfl rfl rfl Try.sizeOf44 rfl) ?_
                        refine ao_nil ?_
                        refine aq_then ?_
                        refine aw_seq ?_
                        refine aw_seq ?_
                        refine aw_region ?_
                        refine ao_read trivial (r_assign rfl) rfl ?_
                        refine ao_nil ?_
                        refine aq_then ?_
                        refine aw_block ?_
                        refine aw_loop (AL.sub (sub_mk idn (by exact ⟨⟨_, rfl, ad_ren rfl⟩, ⟨_, rfl, ad_ren rfl⟩, ⟨_, rfl, ad_ren rfl⟩, ⟨_, rfl, ad_ren rfl⟩, ⟨_, rfl, ad_ren rfl⟩, ⟨_, rfl, ad_ren rfl⟩, ⟨_, rfl, ad_ren rfl⟩, ⟨_, rfl, ad_ren rfl⟩, trivial⟩) (by exact ⟨⟨_, rfl, ⟨rfl, rfl, trivial⟩⟩, ⟨_, rfl, ⟨rfl, rfl, trivial⟩⟩, ⟨_, rfl, ⟨rfl, rfl, trivial⟩⟩, ⟨_, rfl, rfl⟩, ⟨_, rfl, ⟨rfl, trivial⟩⟩, ⟨_, rfl, ⟨rfl, trivial⟩⟩, trivial⟩) (by rfl) (nk rfl)) (al_whl (fun (s302 : Int × (List Int)) => [(3, .ref 0 0), (4, .ref 1 0), (5, .bool ((p_impl_ShapeOf (r2.1, (r2.2.1, ()))).2)), (8, .ref 2 0), (33, .os 3), (34, .ref 4 0), (40, .ref 5 0), (41, .int .i64 s302.1)]) (fun (s302 : Int × (List Int)) => [(0, .var [.arr (.int .i64) 6 r2.1, .arr (.int .i64) 6 r2.2.1]), (1, .var [.arr (.int .i64) 6 (((p_impl_ShapeOf (r2.1, (r2.2.1, ()))).1).1 : (List Int)), .arr (.int .i64) 6 ((((p_impl_ShapeOf (r2.1, (r2.2.1, ()))).1).2).1 : (List Int))]), (2, .var [.arr (.int .i64) 6 (((p_impl_MirrorPair (r2.1, (r2.2.1, ()))).1).1 : (List Int)), .arr (.int .i64) 6 ((((p_impl_MirrorPair (r2.1, (r2.2.1, ()))).1).2).1 : (List Int))]), (3, .row (.arr 6 (.int .i64)) r139), (4, .var [.arr (.int .i64) 2 r141.1]), (5, .var [.arr (.int .i64) 2 s302.2])]) (fun (s302 : Int × (List Int)) => 0 ≤ s302.1) h (by (try simp only [List.length_set, List.length_append, List.length_cons, List.length_nil, List.length_replicate, List.length_take, List.length_drop]) <;> omega) (fun d304 s302 hI h ih304 => ?_)))
                        replace h := is_whlS h
                        refine al_round ?_
                        refine aw_seq ?_
                        refine aw_seq ?_
                        refine aw_region ?_
                        refine ao_read trivial (r_move rfl) rfl ?_
                        refine ao_read trivial (r_leq rfl rfl) rfl ?_
                        refine ao_nil ?_
                        refine aq_then ?_
                        refine aw_cond rfl (fun hb306 => ?_) (fun hb306 => ?_)
                        · have q307 := d_t hb306
                          replace h := is_if (d_t hb306) h
                          refine aw_skip ?_
                          refine aq_then ?_
                          refine aw_seq ?_
                          refine aw_block ?_
                          refine aw_seq ?_
                          refine aw_region ?_
                          refine ao_read trivial (r_move rfl) rfl ?_
                          refine ao_read trivial (r_move rfl) rfl ?_
                          obtain ⟨r309, r309h, h⟩ := is_bind h
                          refine ao_scall trivial (scall (c_impl_ChanceOfSum (is_mk r309h)) rfl Try.func32 rfl rfl rfl rfl (fun σ => ⟨ad_os0 rfl, ad_ren rfl, trivial⟩)) rfl ?_
                          refine ao_read trivial (r_move rfl) rfl ?_
                          refine ao_read trivial (r_extract rfl rfl) rfl ?_
                          refine ao_read trivial (r_extract rfl rfl) rfl ?_
                          refine ao_eff trivial (e_alloc 6 (y := .v (.arr 2 (.int .i64)) ((List.replicate 2 0) : (List Int))) Try.zeroValue44 (fun ρ h M => ra_zero_arr (t := (.int .i64)) rfl) rfl rfl rfl rfl rfl) rfl ?_
                          refine ao_effS trivial (e_store rfl rfl rfl rfl Try.sizeOf44 rfl) ?_
                          refine ao_read trivial (r_assign rfl) rfl ?_
                          refine ao_nil ?_
                          refine aq_then ?_
                          refine aw_seq ?_
                          refine aw_seq ?_
                          refine aw_region ?_
                          refine ao_read trivial (r_move rfl) rfl ?_
                          refine ao_read trivial (r_not rfl) rfl ?_
                          refine ao_nil ?_
                          refine aq_then ?_
                          refine aw_cond rfl (fun hb310 => ?_) (fun hb310 => ?_)
                          · replace h := is_else (ne_t (not_t hb310)) h
                            refine aw_seq ?_
                            refine aw_region ?_
                            refine ao_read trivial (r_assign rfl) rfl ?_
                            refine ao_nil ?_
                            refine aq_then ?_
                            refine aw_ret ?_
                            refine aq_then_ret ?_
                            refine aq_in_ret ?_
                            refine aq_then_ret ?_
                            refine aq_then_ret ?_
                            refine aq_in_ret ?_
                            refine aq_then_ret ?_
                            refine aq_then_ret ?_
                            refine aq_ret ?_
                            obtain rfl := is_some h
                            exact aq_finx (l := [.tmp 2]) (xs := [.bool false]) idn [.bool false] [] rfl (by exact ⟨rfl, trivial⟩) (by exact ⟨ad_ren rfl, trivial⟩) (by exact trivial) rfl (nk rfl) rfl rfl ⟨rfl, rfl⟩
                          · replace h := is_if (not_f hb310) h
                            refine aw_skip ?_
                            refine aq_then ?_
                            refine aw_region ?_
                            refine ao_read trivial (r_load_arr rfl Try.isAgg44 Try.sizeOf44 rfl rfl rfl) rfl ?_
                            refine ao_read trivial (r_load_arr rfl Try.isAgg44 Try.sizeOf44 rfl rfl rfl) rfl ?_
                            obtain ⟨r311, r311h, h⟩ := is_bind h
                            refine ao_scall trivial (scall (c_laws_rPlus (is_mk r311h)) rfl Try.func33 rfl rfl rfl rfl (fun σ => ⟨ad_ren rfl, ad_ren rfl, trivial⟩)) rfl ?_
                            refine ao_effS trivial (e_store rfl rfl rfl rfl Try.sizeOf44 rfl) ?_
                            refine ao_nil ?_
                            refine aq_in ?_
                            refine aq_then ?_
                            refine aw_region ?_
                            refine ao_read trivial (r_move rfl) rfl ?_
                            refine ao_read trivial (r_addI rfl rfl (wrap_id (by omega) (by omega))) rfl ?_
                            refine ao_read trivial (r_assign rfl) rfl ?_
                            refine ao_nil ?_
                            exact aq_again (AL.sub (sub_mk idn (by exact ⟨⟨_, rfl, ad_ren rfl⟩, ⟨_, rfl, ad_ren rfl⟩, ⟨_, rfl, ad_ren rfl⟩, ⟨_, rfl, ad_ren rfl⟩, ⟨_, rfl, ad_ren rfl⟩, ⟨_, rfl, ad_ren rfl⟩, ⟨_, rfl, ad_ren rfl⟩, ⟨_, rfl, ad_ren rfl⟩, trivial⟩) (by exact ⟨⟨_, rfl, ⟨rfl, rfl, trivial⟩⟩, ⟨_, rfl, ⟨rfl, rfl, trivial⟩⟩, ⟨_, rfl, ⟨rfl, rfl, trivial⟩⟩, ⟨_, rfl, rfl⟩, ⟨_, rfl, ⟨rfl, trivial⟩⟩, ⟨_, rfl, ⟨rfl, trivial⟩⟩, trivial⟩) (by rfl) (nk rfl)) (ih304 ((s302.1 + 2), r311) (by (try simp only [List.length_set, List.length_append, List.length_cons, List.length_nil, List.length_replicate, List.length_take, List.length_drop]) <;> omega) h))
                        · have q308 := d_f hb306
                          replace h := is_else (d_f hb306) h
                          refine aw_exit ?_
                          refine aq_then_exit ?_
                          refine aq_then_exit ?_
                          refine aq_in_exit ?_
                          refine aq_then ?_
                          refine aw_seq ?_
                          refine aw_region ?_
                          refine ao_read trivial (r_load_arr rfl Try.isAgg44 Try.sizeOf44 rfl rfl rfl) rfl ?_
                          refine ao_read trivial (r_load_arr rfl Try.isAgg44 Try.sizeOf44 rfl rfl rfl) rfl ?_
                          refine ao_read trivial (r_eq_ints Try.underlying44 Try.underlying3 Try.isAgg3 (info_size Try.sizeOf3) (by kernel_rfl) rfl rfl rfl) rfl ?_
                          refine ao_nil ?_
                          refine aq_then ?_
                          refine aw_cond rfl (fun hb312 => ?_) (fun hb312 => ?_)
                          · replace h := is_else (d_f (not_t hb312)) h
                            refine aw_seq ?_
                            refine aw_region ?_
                            refine ao_read trivial (r_assign rfl) rfl ?_
                            refine ao_nil ?_
                            refine aq_then ?_
                            refine aw_ret ?_
                            refine aq_then_ret ?_
                            refine aq_ret ?_
                            obtain rfl := is_some h
                            exact aq_finx (l := [.tmp 2]) (xs := [.bool false]) idn [.bool false] [] rfl (by exact ⟨rfl, trivial⟩) (by exact ⟨ad_ren rfl, trivial⟩) (by exact trivial) rfl (nk rfl) rfl rfl ⟨rfl, rfl⟩
                          · replace h := is_if (d_t (not_f hb312)) h
                            refine aw_skip ?_
                            exact aq_then (AW.sub (sub_mk idn (by exact ⟨⟨_, rfl, ad_ren rfl⟩, ⟨_, rfl, ad_ren rfl⟩, ⟨_, rfl, ad_ren rfl⟩, ⟨_, rfl, ad_ren rfl⟩, trivial⟩) (by exact ⟨⟨_, rfl, ⟨rfl, rfl, trivial⟩⟩, ⟨_, rfl, ⟨rfl, rfl, trivial⟩⟩, ⟨_, rfl, ⟨rfl, rfl, trivial⟩⟩, trivial⟩) (by rfl) (nk rfl)) (j154 () trivial h))
                      · replace h := is_else (ne_t hb301) h
                        refine aw_skip ?_
                        exact aq_then (AW.sub (sub_mk idn (by exact ⟨⟨_, rfl, ad_ren rfl⟩, ⟨_, rfl, ad_ren rfl⟩, ⟨_, rfl, ad_ren rfl⟩, ⟨_, rfl, ad_ren rfl⟩, trivial⟩) (by exact ⟨⟨_, rfl, ⟨rfl, rfl, trivial⟩⟩, ⟨_, rfl, ⟨rfl, rfl, trivial⟩⟩, ⟨_, rfl, ⟨rfl, rfl, trivial⟩⟩, trivial⟩) (by rfl) (nk rfl)) (j154 () trivial h))
                  · refine aw_seq ?_
                    refine aw_region ?_
                    refine ao_read trivial (r_move rfl) rfl ?_
                    refine ao_nil ?_
                    refine aq_then ?_
                    refine aw_cond rfl (fun hb313 => ?_) (fun hb313 => ?_)
                    · replace h := is_if hb313 h
                      refine aw_seq ?_
                      refine aw_region ?_
                      refine ao_read trivial (r_load_arr rfl Try.isAgg24 Try.sizeOf24 rfl rfl rfl) rfl ?_
                      refine ao_eff trivial (e_buildSlice (l := [(0, .tmp 231)]) (t := (.arr 6 (.int .i64))) 19 ([r107.1] : (List (List Int))) rfl Try.underlying38 Try.zeroValue24 Try.sizeOf24 rfl rfl rfl rfl rfl rfl rfl) rfl ?_
                      refine ao_read trivial (r_move rfl) rfl ?_
                      obtain ⟨r314, r314h, h⟩ := is_bind h
                      refine ao_scall trivial (scall (c_impl_SameSums (is_mk r314h)) rfl Try.func31 rfl rfl rfl rfl (fun σ => ⟨ad_os0 rfl, ad_os0 rfl, trivial⟩)) rfl ?_
                      refine ao_read trivial (r_move rfl) rfl ?_
                      refine ao_read trivial (r_extract rfl rfl) rfl ?_
                      refine ao_read trivial (r_extract rfl rfl) rfl ?_
                      refine ao_read trivial (r_assign rfl) rfl ?_
                      refine ao_read trivial (r_assign rfl) rfl ?_
                      refine ao_nil ?_
                      refine aq_then ?_
                      refine aw_seq ?_
                      refine aw_region ?_
                      refine ao_read trivial (r_move rfl) rfl ?_
                      refine ao_read trivial (r_not rfl) rfl ?_
                      refine ao_read trivial (r_move rfl) rfl ?_
                      refine ao_readG (x := .bool r314.1) rfl (GV.F rfl) (fun hg315 => r_move rfl) rfl ?_
                      refine ao_readG (x := .bool (!r314.1)) rfl (GV.F rfl) (fun hg316 => Reads.strip 240 rfl (hg316) (r_not rfl)) rfl ?_
                      refine ao_read trivial (r_orB rfl rfl) rfl ?_
                      refine ao_nil ?_
                      refine aq_then ?_
                      refine aw_cond rfl (fun hb317 => ?_) (fun hb317 => ?_)
                      · replace h := is_if hb317 h
                        refine aw_seq ?_
                        refine aw_region ?_
                        refine ao_read trivial (r_assign rfl) rfl ?_
                        refine ao_nil ?_
                        refine aq_then ?_
                        refine aw_ret ?_
                        refine aq_then_ret ?_
                        refine aq_ret ?_
                        obtain rfl := is_some h
                        exact aq_finx (l := [.tmp 2]) (xs := [.bool false]) idn [.bool false] [] rfl (by exact ⟨rfl, trivial⟩) (by exact ⟨ad_ren rfl, trivial⟩) (by exact trivial) rfl (nk rfl) rfl rfl ⟨rfl, rfl⟩
                      · obtain ⟨q318, q319⟩ := or_f hb317
                        replace h := is_else (ne_t hb317) h
                        refine aw_skip ?_
                        exact aq_then (AW.sub (sub_mk (rn [(2, 3), (3, 16), (4, 17)]) (by exact ⟨⟨_, rfl, ad_ren rfl⟩, ⟨_, rfl, ad_ren rfl⟩, ⟨_, rfl, ad_ren rfl⟩, ⟨_, rfl, ad_ren rfl⟩, ⟨_, rfl, ad_ren rfl⟩, ⟨_, rfl, ad_ren rfl⟩, ⟨_, rfl, ad_ren rfl⟩, trivial⟩) (by exact ⟨⟨_, rfl, ⟨rfl, rfl, trivial⟩⟩, ⟨_, rfl, ⟨rfl, rfl, trivial⟩⟩, ⟨_, rfl, ⟨rfl, rfl, trivial⟩⟩, ⟨_, rfl, rfl⟩, ⟨_, rfl, ⟨rfl, trivial⟩⟩, trivial⟩) (by rfl) (nk rfl)) (j151 () trivial h))
                    · replace h := is_else (ne_t hb313) h
                      refine aw_skip ?_
                      exact aq_then (AW.sub (sub_mk (rn [(2, 3), (3, 16), (4, 17)]) (by exact ⟨⟨_, rfl, ad_ren rfl⟩, ⟨_, rfl, ad_ren rfl⟩, ⟨_, rfl, ad_ren rfl⟩, ⟨_, rfl, ad_ren rfl⟩, ⟨_, rfl, ad_ren rfl⟩, ⟨_, rfl, ad_ren rfl⟩, ⟨_, rfl, ad_ren rfl⟩, trivial⟩) (by exact ⟨⟨_, rfl, ⟨rfl, rfl, trivial⟩⟩, ⟨_, rfl, ⟨rfl, rfl, trivial⟩⟩, ⟨_, rfl, ⟨rfl, rfl, trivial⟩⟩, ⟨_, rfl, rfl⟩, ⟨_, rfl, ⟨rfl, trivial⟩⟩, trivial⟩) (by rfl) (nk rfl)) (j151 () trivial h))
end Go.GA
