/- Walks: what the Go functions compute, by the printed lines below; no further conditions. -/
import Derived.Test.YtcminfahdindnaaDoorC13wb
namespace Go.GA
open Go Go.Proofs
set_option maxRecDepth 100000
set_option maxHeartbeats 2000000
set_option linter.unusedVariables false
set_option linter.unusedSimpArgs false
theorem c_spec_SyncLog {fu : Nat} {x0 : (ByteArray × (ByteArray × (Int × Unit)))} {r : (ByteArray × (ByteArray × (Int × Unit))) × Bool} (h : Is (p_spec_SyncLog fu x0) (some r)) :
    Scalar Tryd.prog 35 [.v (.pair .str (.pair .str (.pair (.int .i64) .unit))) x0] (.tup [.v (.pair .str (.pair .str (.pair (.int .i64) .unit))) r.1, .bool r.2]) := by
  unfold p_spec_SyncLog at h
  refine ac_enter ⟨16, 0⟩ Tryd.func35 rfl rfl rfl rfl rfl (fun Γ => ?_)
  refine aw_seq ?_
  refine aw_region ?_
  refine ao_eff trivial (e_box 0 rfl rfl rfl rfl rfl rfl) rfl ?_
  refine ao_eff trivial (e_alloc 1 (y := .st [.str ByteArray.empty, .str ByteArray.empty, .int .i64 0]) Tryd.zeroValue42 (fun ρ h M => ra_zero_st (t := (.pair .str (.pair .str (.pair (.int .i64) .unit)))) rfl rfl rfl) rfl rfl rfl rfl rfl) rfl ?_
  refine ao_read trivial (r_assign rfl) rfl ?_
  refine ao_nil ?_
  refine aq_then ?_
  refine aw_seq ?_
  refine aw_seq ?_
  refine aw_region ?_
  refine ao_read trivial (r_load_part (τ := (.pair .str (.pair .str (.pair (.int .i64) .unit)))) (y := ((x0.1, (x0.2.1, (x0.2.2.1, ()))) : (ByteArray × (ByteArray × (Int × Unit))))) [] [] rfl Tryd.isAgg42 Tryd.sizeOf42 rfl rfl rfl rfl) rfl ?_
  obtain ⟨r1, r1h, h⟩ := is_bind h
  refine ao_scall trivial (scall (c_spec_l12Valid (is_mk r1h)) rfl Tryd.func82 rfl rfl rfl rfl (fun σ => ⟨ad_ren rfl, trivial⟩)) rfl ?_
  refine ao_read trivial (r_not rfl) rfl ?_
  refine ao_nil ?_
  refine aq_then ?_
  refine aw_cond rfl (fun hb2 => ?_) (fun hb2 => ?_)
  · replace h := is_else (ne_t (not_t hb2)) h
    refine aw_seq ?_
    refine aw_region ?_
    refine ao_read trivial (r_build_st (l := []) (cs := [.cell (.str ByteArray.empty), .cell (.str ByteArray.empty), .cell (.int .i64 0)]) (.pair .str (.pair .str (.pair (.int .i64) .unit))) [(0, 1), (1, 1), (2, 1)] Tryd.underlying42 Tryd.zeroValue42 rfl ⟨rfl, Tryd.sizeOf9, rfl, Tryd.sizeOf9, rfl, Tryd.sizeOf3, trivial⟩ rfl rfl rfl) rfl ?_
    refine ao_effS trivial (e_store rfl rfl rfl rfl Tryd.sizeOf42 rfl) ?_
    refine ao_read trivial (r_assign rfl) rfl ?_
    refine ao_nil ?_
    refine aq_then ?_
    refine aw_ret ?_
    refine aq_then_ret ?_
    refine aq_ret ?_
    obtain rfl := is_some h
    exact aq_finx (l := [.cell 2 42, .tmp 3]) (xs := [.st [.str ByteArray.empty, .str ByteArray.empty, .int .i64 0], .bool false]) idn [.v (.pair .str (.pair .str (.pair (.int .i64) .unit))) ((ByteArray.empty, (ByteArray.empty, (0, ()))) : (ByteArray × (ByteArray × (Int × Unit)))), .bool false] [] rfl (by exact ⟨⟨⟨_, _, rfl⟩, r_load_st [] [.cell (.str ByteArray.empty), .cell (.str ByteArray.empty), .cell (.int .i64 0)] [] Tryd.isAgg42 Tryd.sizeOf42 rfl rfl rfl rfl rfl rfl rfl⟩, rfl, trivial⟩) (by exact ⟨ad_st rfl rfl ⟨ad_ren rfl, ad_ren rfl, ad_ren rfl, trivial⟩, ad_ren rfl, trivial⟩) (by exact trivial) rfl (nk rfl) rfl rfl ⟨rfl, rfl⟩
  · replace h := is_if (not_f hb2) h
    refine aw_skip ?_
    refine aq_then ?_
    refine aw_seq ?_
    refine aw_region ?_
    refine ao_read trivial (r_fieldAddr Tryd.underlying42 rfl Tryd.sizeOf9 rfl rfl rfl) rfl ?_
    refine ao_read trivial (r_load_cell Tryd.isAgg9 rfl rfl rfl) rfl ?_
    refine ao_read trivial (r_fieldAddr Tryd.underlying42 rfl Tryd.sizeOf9 rfl rfl rfl) rfl ?_
    refine ao_read trivial (r_load_cell Tryd.isAgg9 rfl rfl rfl) rfl ?_
    obtain ⟨g3, h⟩ := is_guard h
    refine ao_read trivial (r_add_str rfl rfl (by omega)) rfl ?_
    refine ao_read trivial (r_fieldAddr Tryd.underlying42 rfl Tryd.sizeOf3 rfl rfl rfl) rfl ?_
    refine ao_read trivial (r_load_cell Tryd.isAgg3 rfl rfl rfl) rfl ?_
    refine ao_read trivial (r_build_st (l := [(0, .tmp 12), (2, .tmp 14)]) (cs := [.cell (.str (x0.1 ++ x0.2.1)), .cell (.str ByteArray.empty), .cell (.int .i64 x0.2.2.1)]) (.pair .str (.pair .str (.pair (.int .i64) .unit))) [(0, 1), (1, 1), (2, 1)] Tryd.underlying42 Tryd.zeroValue42 rfl ⟨rfl, Tryd.sizeOf9, rfl, Tryd.sizeOf9, rfl, Tryd.sizeOf3, trivial⟩ rfl rfl rfl) rfl ?_
    refine ao_effS trivial (e_store rfl rfl rfl rfl Tryd.sizeOf42 rfl) ?_
    refine ao_read trivial (r_assign rfl) rfl ?_
    refine ao_nil ?_
    refine aq_then ?_
    refine aw_ret ?_
    refine aq_ret ?_
    obtain rfl := is_some h
    exact aq_finx (l := [.cell 2 42, .tmp 3]) (xs := [.st [.str (x0.1 ++ x0.2.1), .str ByteArray.empty, .int .i64 x0.2.2.1], .bool true]) idn [.v (.pair .str (.pair .str (.pair (.int .i64) .unit))) (((x0.1 ++ x0.2.1), (ByteArray.empty, (x0.2.2.1, ()))) : (ByteArray × (ByteArray × (Int × Unit)))), .bool true] [] rfl (by exact ⟨⟨⟨_, _, rfl⟩, r_load_st [] [.cell (.str (x0.1 ++ x0.2.1)), .cell (.str ByteArray.empty), .cell (.int .i64 x0.2.2.1)] [] Tryd.isAgg42 Tryd.sizeOf42 rfl rfl rfl rfl rfl rfl rfl⟩, rfl, trivial⟩) (by exact ⟨ad_st rfl rfl ⟨ad_ren rfl, ad_ren rfl, ad_ren rfl, trivial⟩, ad_ren rfl, trivial⟩) (by exact trivial) rfl (nk rfl) rfl rfl ⟨rfl, rfl⟩
theorem c_impl_SyncLog {fu : Nat} {x0 : (ByteArray × (ByteArray × (Int × Unit)))} {r : (ByteArray × (ByteArray × (Int × Unit))) × Bool} (h : Is (p_impl_SyncLog fu x0) (some r)) :
    Scalar Tryd.prog 36 [.v (.pair .str (.pair .str (.pair (.int .i64) .unit))) x0] (.tup [.v (.pair .str (.pair .str (.pair (.int .i64) .unit))) r.1, .bool r.2]) := by
  unfold p_impl_SyncLog at h
  refine ac_enter ⟨16, 0⟩ Tryd.func36 rfl rfl rfl rfl rfl (fun Γ => ?_)
  refine aw_seq ?_
  refine aw_region ?_
  refine ao_eff trivial (e_box 0 rfl rfl rfl rfl rfl rfl) rfl ?_
  refine ao_eff trivial (e_alloc 1 (y := .st [.str ByteArray.empty, .str ByteArray.empty, .int .i64 0]) Tryd.zeroValue42 (fun ρ h M => ra_zero_st (t := (.pair .str (.pair .str (.pair (.int .i64) .unit)))) rfl rfl rfl) rfl rfl rfl rfl rfl) rfl ?_
  refine ao_read trivial (r_assign rfl) rfl ?_
  refine ao_nil ?_
  refine aq_then ?_
  refine aw_seq ?_
  refine aw_seq ?_
  refine aw_region ?_
  refine ao_read trivial (r_load_part (τ := (.pair .str (.pair .str (.pair (.int .i64) .unit)))) (y := ((x0.1, (x0.2.1, (x0.2.2.1, ()))) : (ByteArray × (ByteArray × (Int × Unit))))) [] [] rfl Tryd.isAgg42 Tryd.sizeOf42 rfl rfl rfl rfl) rfl ?_
  obtain ⟨r1, r1h, h⟩ := is_bind h
  refine ao_scall trivial (scall (c_impl_IsValidLog (is_mk r1h)) rfl Tryd.func32 rfl rfl rfl rfl (fun σ => ⟨ad_ren rfl, trivial⟩)) rfl ?_
  refine ao_read trivial (r_not rfl) rfl ?_
  refine ao_nil ?_
  refine aq_then ?_
  refine aw_cond rfl (fun hb2 => ?_) (fun hb2 => ?_)
  · replace h := is_else (ne_t (not_t hb2)) h
    refine aw_seq ?_
    refine aw_region ?_
    refine ao_read trivial (r_build_st (l := []) (cs := [.cell (.str ByteArray.empty), .cell (.str ByteArray.empty), .cell (.int .i64 0)]) (.pair .str (.pair .str (.pair (.int .i64) .unit))) [(0, 1), (1, 1), (2, 1)] Tryd.underlying42 Tryd.zeroValue42 rfl ⟨rfl, Tryd.sizeOf9, rfl, Tryd.sizeOf9, rfl, Tryd.sizeOf3, trivial⟩ rfl rfl rfl) rfl ?_
    refine ao_effS trivial (e_store rfl rfl rfl rfl Tryd.sizeOf42 rfl) ?_
    refine ao_read trivial (r_assign rfl) rfl ?_
    refine ao_nil ?_
    refine aq_then ?_
    refine aw_ret ?_
    refine aq_then_ret ?_
    refine aq_ret ?_
    obtain rfl := is_some h
    exact aq_finx (l := [.cell 2 42, .tmp 3]) (xs := [.st [.str ByteArray.empty, .str ByteArray.empty, .int .i64 0], .bool false]) idn [.v (.pair .str (.pair .str (.pair (.int .i64) .unit))) ((ByteArray.empty, (ByteArray.empty, (0, ()))) : (ByteArray × (ByteArray × (Int × Unit)))), .bool false] [] rfl (by exact ⟨⟨⟨_, _, rfl⟩, r_load_st [] [.cell (.str ByteArray.empty), .cell (.str ByteArray.empty), .cell (.int .i64 0)] [] Tryd.isAgg42 Tryd.sizeOf42 rfl rfl rfl rfl rfl rfl rfl⟩, rfl, trivial⟩) (by exact ⟨ad_st rfl rfl ⟨ad_ren rfl, ad_ren rfl, ad_ren rfl, trivial⟩, ad_ren rfl, trivial⟩) (by exact trivial) rfl (nk rfl) rfl rfl ⟨rfl, rfl⟩
  · replace h := is_if (not_f hb2) h
    refine aw_skip ?_
    refine aq_then ?_
    refine aw_seq ?_
    refine aw_region ?_
    refine ao_read trivial (r_fieldAddr Tryd.underlying42 rfl Tryd.sizeOf9 rfl rfl rfl) rfl ?_
    refine ao_read trivial (r_load_cell Tryd.isAgg9 rfl rfl rfl) rfl ?_
    refine ao_read trivial (r_fieldAddr Tryd.underlying42 rfl Tryd.sizeOf9 rfl rfl rfl) rfl ?_
    refine ao_read trivial (r_load_cell Tryd.isAgg9 rfl rfl rfl) rfl ?_
    obtain ⟨g3, h⟩ := is_guard h
    refine ao_read trivial (r_add_str rfl rfl (by omega)) rfl ?_
    refine ao_read trivial (r_fieldAddr Tryd.underlying42 rfl Tryd.sizeOf3 rfl rfl rfl) rfl ?_
    refine ao_read trivial (r_load_cell Tryd.isAgg3 rfl rfl rfl) rfl ?_
    refine ao_read trivial (r_build_st (l := [(0, .tmp 12), (1, .const (.string (ByteArray.mk #[]))), (2, .tmp 14)]) (cs := [.cell (.str (x0.1 ++ x0.2.1)), .cell (.str (ByteArray.mk #[])), .cell (.int .i64 x0.2.2.1)]) (.pair .str (.pair .str (.pair (.int .i64) .unit))) [(0, 1), (1, 1), (2, 1)] Tryd.underlying42 Tryd.zeroValue42 rfl ⟨rfl, Tryd.sizeOf9, rfl, Tryd.sizeOf9, rfl, Tryd.sizeOf3, trivial⟩ rfl rfl rfl) rfl ?_
    refine ao_effS trivial (e_store rfl rfl rfl rfl Tryd.sizeOf42 rfl) ?_
    refine ao_read trivial (r_assign rfl) rfl ?_
    refine ao_nil ?_
    refine aq_then ?_
    refine aw_ret ?_
    refine aq_ret ?_
    obtain rfl := is_some h
    exact aq_finx (l := [.cell 2 42, .tmp 3]) (xs := [.st [.str (x0.1 ++ x0.2.1), .str (ByteArray.mk #[]), .int .i64 x0.2.2.1], .bool true]) idn [.v (.pair .str (.pair .str (.pair (.int .i64) .unit))) (((x0.1 ++ x0.2.1), ((ByteArray.mk #[]), (x0.2.2.1, ()))) : (ByteArray × (ByteArray × (Int × Unit)))), .bool true] [] rfl (by exact ⟨⟨⟨_, _, rfl⟩, r_load_st [] [.cell (.str (x0.1 ++ x0.2.1)), .cell (.str (ByteArray.mk #[])), .cell (.int .i64 x0.2.2.1)] [] Tryd.isAgg42 Tryd.sizeOf42 rfl rfl rfl rfl rfl rfl rfl⟩, rfl, trivial⟩) (by exact ⟨ad_st rfl rfl ⟨ad_ren rfl, ad_ren rfl, ad_ren rfl, trivial⟩, ad_ren rfl, trivial⟩) (by exact trivial) rfl (nk rfl) rfl rfl ⟨rfl, rfl⟩
theorem c_laws_FnExactSyncLog {fu : Nat} {x0 : (ByteArray × (ByteArray × (Int × Unit)))} {r : Bool} (h : Is (p_laws_FnExactSyncLog fu x0) (some r)) :
    Scalar Tryd.prog 8 [.v (.pair .str (.pair .str (.pair (.int .i64) .unit))) x0] (.bool r) := by
  unfold p_laws_FnExactSyncLog at h
  refine ac_enter ⟨34, 0⟩ Tryd.func8 rfl rfl rfl rfl rfl (fun Γ => ?_)
  refine aw_seq ?_
  refine aw_region ?_
  refine ao_eff trivial (e_box 0 rfl rfl rfl rfl rfl rfl) rfl ?_
  refine ao_read trivial (r_assign rfl) rfl ?_
  refine ao_nil ?_
  refine aq_then ?_
  refine aw_seq ?_
  refine aw_region ?_
  refine ao_read trivial (r_assign rfl) rfl ?_
  refine ao_nil ?_
  refine aq_then ?_
  refine aw_seq ?_
  refine aw_region ?_
  refine ao_read trivial (r_load_part (τ := (.pair .str (.pair .str (.pair (.int .i64) .unit)))) (y := ((x0.1, (x0.2.1, (x0.2.2.1, ()))) : (ByteArray × (ByteArray × (Int × Unit))))) [] [] rfl Tryd.isAgg47 Tryd.sizeOf47 rfl rfl rfl rfl) rfl ?_
  refine ao_read trivial (r_move rfl) rfl ?_
  refine ao_scall trivial (scall (c_laws_szLog (is_mk (rfl : p_laws_szLog (x0.1, (x0.2.1, (x0.2.2.1, ()))) 1048576 = _))) rfl Tryd.func29 rfl rfl rfl rfl (fun σ => ⟨ad_ren rfl, ad_ren rfl, trivial⟩)) rfl ?_
  refine ao_read trivial (r_assign rfl) rfl ?_
  refine ao_nil ?_
  refine aq_then ?_
  refine aw_seq ?_
  refine aw_seq ?_
  refine aw_region ?_
  refine ao_read trivial (r_move rfl) rfl ?_
  refine ao_read trivial (r_lss rfl rfl) rfl ?_
  refine ao_nil ?_
  refine aq_then ?_
  refine aw_cond rfl (fun hb1 => ?_) (fun hb1 => ?_)
  · have q2 := d_t hb1
    replace h := is_if (d_t hb1) h
    refine aw_seq ?_
    refine aw_region ?_
    refine ao_read trivial (r_assign rfl) rfl ?_
    refine ao_nil ?_
    refine aq_then ?_
    refine aw_ret ?_
    refine aq_then_ret ?_
    refine aq_ret ?_
    obtain rfl := is_some h
    exact aq_finx (l := [.tmp 2]) (xs := [.bool true]) idn [.bool true] [] rfl (by exact ⟨rfl, trivial⟩) (by exact ⟨ad_ren rfl, trivial⟩) (by exact trivial) rfl (nk rfl) rfl rfl ⟨rfl, rfl⟩
  · have q3 := d_f hb1
    replace h := is_else (d_f hb1) h
    refine aw_skip ?_
    refine aq_then ?_
    refine aw_seq ?_
    refine aw_region ?_
    refine ao_read trivial (r_load_part (τ := (.pair .str (.pair .str (.pair (.int .i64) .unit)))) (y := ((x0.1, (x0.2.1, (x0.2.2.1, ()))) : (ByteArray × (ByteArray × (Int × Unit))))) [] [] rfl Tryd.isAgg47 Tryd.sizeOf47 rfl rfl rfl rfl) rfl ?_
    refine ao_scall trivial (scall (c_laws_toLog (is_mk (rfl : p_laws_toLog (x0.1, (x0.2.1, (x0.2.2.1, ()))) = _))) rfl Tryd.func31 rfl rfl rfl rfl (fun σ => ⟨ad_ren rfl, trivial⟩)) rfl ?_
    obtain ⟨r4, r4h, h⟩ := is_bind h
    refine ao_scall trivial (scall (c_spec_SyncLog (is_mk r4h)) rfl Tryd.func35 rfl rfl rfl rfl (fun σ => ⟨ad_ren rfl, trivial⟩)) rfl ?_
    refine ao_read trivial (r_move rfl) rfl ?_
    refine ao_read trivial (r_extract rfl rfl) rfl ?_
    refine ao_read trivial (r_extract rfl rfl) rfl ?_
    refine ao_eff trivial (e_alloc 1 (y := .st [.str ByteArray.empty, .str ByteArray.empty, .int .i64 0]) Tryd.zeroValue42 (fun ρ h M => ra_zero_st (t := (.pair .str (.pair .str (.pair (.int .i64) .unit)))) rfl rfl rfl) rfl rfl rfl rfl rfl) rfl ?_
    refine ao_effS trivial (e_store rfl rfl rfl rfl Tryd.sizeOf42 rfl) ?_
    refine ao_read trivial (r_assign rfl) rfl ?_
    refine ao_nil ?_
    refine aq_then ?_
    refine aw_seq ?_
    refine aw_region ?_
    refine ao_read trivial (r_load_part (τ := (.pair .str (.pair .str (.pair (.int .i64) .unit)))) (y := ((x0.1, (x0.2.1, (x0.2.2.1, ()))) : (ByteArray × (ByteArray × (Int × Unit))))) [] [] rfl Tryd.isAgg47 Tryd.sizeOf47 rfl rfl rfl rfl) rfl ?_
    refine ao_scall trivial (scall (c_laws_toLog (is_mk (rfl : p_laws_toLog (x0.1, (x0.2.1, (x0.2.2.1, ()))) = _))) rfl Tryd.func31 rfl rfl rfl rfl (fun σ => ⟨ad_ren rfl, trivial⟩)) rfl ?_
    obtain ⟨r5, r5h, h⟩ := is_bind h
    refine ao_scall trivial (scall (c_impl_SyncLog (is_mk r5h)) rfl Tryd.func36 rfl rfl rfl rfl (fun σ => ⟨ad_ren rfl, trivial⟩)) rfl ?_
    refine ao_read trivial (r_move rfl) rfl ?_
    refine ao_read trivial (r_extract rfl rfl) rfl ?_
    refine ao_read trivial (r_extract rfl rfl) rfl ?_
    refine ao_eff trivial (e_alloc 2 (y := .st [.str ByteArray.empty, .str ByteArray.empty, .int .i64 0]) Tryd.zeroValue42 (fun ρ h M => ra_zero_st (t := (.pair .str (.pair .str (.pair (.int .i64) .unit)))) rfl rfl rfl) rfl rfl rfl rfl rfl) rfl ?_
    refine ao_effS trivial (e_store rfl rfl rfl rfl Tryd.sizeOf42 rfl) ?_
    refine ao_read trivial (r_assign rfl) rfl ?_
    refine ao_nil ?_
    refine aq_then ?_
    refine aw_seq ?_
    refine aw_seq ?_
    refine aw_region ?_
    refine ao_read trivial (r_load_part (τ := (.pair .str (.pair .str (.pair (.int .i64) .unit)))) (y := ((r5.1.1, (r5.1.2.1, (r5.1.2.2.1, ()))) : (ByteArray × (ByteArray × (Int × Unit))))) [] [] rfl Tryd.isAgg42 Tryd.sizeOf42 rfl rfl rfl rfl) rfl ?_
    refine ao_read trivial (r_load_part (τ := (.pair .str (.pair .str (.pair (.int .i64) .unit)))) (y := ((r4.1.1, (r4.1.2.1, (r4.1.2.2.1, ()))) : (ByteArray × (ByteArray × (Int × Unit))))) [] [] rfl Tryd.isAgg42 Tryd.sizeOf42 rfl rfl rfl rfl) rfl ?_
    refine ao_scall trivial (scall (c_laws_eqLog (is_mk (rfl : p_laws_eqLog (r5.1.1, (r5.1.2.1, (r5.1.2.2.1, ()))) (r4.1.1, (r4.1.2.1, (r4.1.2.2.1, ()))) = _))) rfl Tryd.func28 rfl rfl rfl rfl (fun σ => ⟨ad_ren rfl, ad_ren rfl, trivial⟩)) rfl ?_
    refine ao_read trivial (r_not rfl) rfl ?_
    refine ao_read trivial (r_move rfl) rfl ?_
    refine ao_readG (x := .bool r5.2) rfl (GV.F rfl) (fun hg6 => r_move rfl) rfl ?_
    refine ao_readG (x := .bool r4.2) rfl (GV.F rfl) (fun hg7 => r_move rfl) rfl ?_
    refine ao_readG (x := .bool (r5.2 != r4.2)) rfl (GV.F rfl) (fun hg8 => Reads.strip 30 rfl (hg8) (Reads.strip 31 rfl (hg8) (r_neq_bool Tryd.underlying4 rfl rfl))) rfl ?_
    refine ao_read trivial (r_orB rfl rfl) rfl ?_
    refine ao_nil ?_
    refine aq_then ?_
    refine aw_cond rfl (fun hb9 => ?_) (fun hb9 => ?_)
    · replace h := is_if hb9 h
      refine aw_seq ?_
      refine aw_region ?_
      refine ao_read trivial (r_assign rfl) rfl ?_
      refine ao_nil ?_
      refine aq_then ?_
      refine aw_ret ?_
      refine aq_then_ret ?_
      refine aq_ret ?_
      obtain rfl := is_some h
      exact aq_finx (l := [.tmp 2]) (xs := [.bool false]) idn [.bool false] [] rfl (by exact ⟨rfl, trivial⟩) (by exact ⟨ad_ren rfl, trivial⟩) (by exact trivial) rfl (nk rfl) rfl rfl ⟨rfl, rfl⟩
    · obtain ⟨q10, q11⟩ := or_f hb9
      replace h := is_else (ne_t hb9) h
      refine aw_skip ?_
      refine aq_then ?_
      refine aw_seq ?_
      refine aw_region ?_
      refine ao_read trivial (r_assign rfl) rfl ?_
      refine ao_nil ?_
      refine aq_then ?_
      refine aw_ret ?_
      refine aq_ret ?_
      obtain rfl := is_some h
      exact aq_finx (l := [.tmp 2]) (xs := [.bool true]) idn [.bool true] [] rfl (by exact ⟨rfl, trivial⟩) (by exact ⟨ad_ren rfl, trivial⟩) (by exact trivial) rfl (nk rfl) rfl rfl ⟨rfl, rfl⟩
end Go.GA
