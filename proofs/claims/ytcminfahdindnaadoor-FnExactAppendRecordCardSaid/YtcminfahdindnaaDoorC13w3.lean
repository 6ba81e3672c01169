/- Walks: what the Go functions compute, by the printed lines below; no further conditions. -/
import Derived.Test.YtcminfahdindnaaDoorC13wb
namespace Go.GA
open Go Go.Proofs
set_option maxRecDepth 100000
set_option maxHeartbeats 2000000
set_option linter.unusedVariables false
set_option linter.unusedSimpArgs false
theorem c_laws_szLogRecord {x0 : (ByteArray × (ByteArray × Unit))} {x1 : Int} {r : Int} (h : Is (p_laws_szLogRecord x0 x1) r) :
    Scalar Tryd.prog 22 [.v (.pair .str (.pair .str .unit)) x0, .int .i64 x1] (.int .i64 r) := by
  unfold p_laws_szLogRecord at h
  refine ac_enter ⟨20, 0⟩ Tryd.func22 rfl rfl rfl rfl rfl (fun Γ => ?_)
  refine aw_seq ?_
  refine aw_region ?_
  refine ao_eff trivial (e_box 0 rfl rfl rfl rfl rfl rfl) rfl ?_
  refine ao_read trivial (r_assign rfl) rfl ?_
  refine ao_nil ?_
  refine aq_then ?_
  refine aw_seq ?_
  refine aw_region ?_
  refine ao_read trivial (r_move rfl) rfl ?_
  refine ao_read trivial (r_fieldAddr Tryd.underlying35 rfl Tryd.sizeOf9 rfl rfl rfl) rfl ?_
  refine ao_read trivial (r_load_cell Tryd.isAgg9 rfl rfl rfl) rfl ?_
  refine ao_read trivial (r_len_str Tryd.underlying9 rfl) rfl ?_
  refine ao_read trivial (r_sub rfl rfl) rfl ?_
  refine ao_read trivial (r_assign rfl) rfl ?_
  refine ao_nil ?_
  refine aq_then ?_
  refine aw_seq ?_
  refine aw_seq ?_
  refine aw_region ?_
  refine ao_read trivial (r_move rfl) rfl ?_
  refine ao_read trivial (r_lss rfl rfl) rfl ?_
  refine ao_nil ?_
  refine aq_then ?_
  refine aw_cond rfl (fun hb1 => ?_) (fun hb1 => ?_)
  · have q2 := d_t hb1
    replace h := is_if (d_t hb1) h
    refine aw_seq ?_
    refine aw_region ?_
    refine ao_read trivial (r_assign rfl) rfl ?_
    refine ao_nil ?_
    refine aq_then ?_
    refine aw_ret ?_
    refine aq_then_ret ?_
    refine aq_ret ?_
    obtain rfl := is_eq h
    exact aq_finx (l := [.tmp 4]) (xs := [.int .i64 (-1)]) idn [.int .i64 (-1)] [] rfl (by exact ⟨rfl, trivial⟩) (by exact ⟨ad_ren rfl, trivial⟩) (by exact trivial) rfl (nk rfl) rfl rfl ⟨rfl, rfl⟩
  · have q3 := d_f hb1
    replace h := is_else (d_f hb1) h
    refine aw_skip ?_
    refine aq_then ?_
    refine aw_seq ?_
    refine aw_region ?_
    refine ao_read trivial (r_move rfl) rfl ?_
    refine ao_read trivial (r_fieldAddr Tryd.underlying35 rfl Tryd.sizeOf9 rfl rfl rfl) rfl ?_
    refine ao_read trivial (r_load_cell Tryd.isAgg9 rfl rfl rfl) rfl ?_
    refine ao_read trivial (r_len_str Tryd.underlying9 rfl) rfl ?_
    refine ao_read trivial (r_sub rfl rfl) rfl ?_
    refine ao_read trivial (r_assign rfl) rfl ?_
    refine ao_nil ?_
    refine aq_then ?_
    refine aw_seq ?_
    refine aw_seq ?_
    refine aw_region ?_
    refine ao_read trivial (r_move rfl) rfl ?_
    refine ao_read trivial (r_lss rfl rfl) rfl ?_
    refine ao_nil ?_
    refine aq_then ?_
    refine aw_cond rfl (fun hb4 => ?_) (fun hb4 => ?_)
    · have q5 := d_t hb4
      replace h := is_if (d_t hb4) h
      refine aw_seq ?_
      refine aw_region ?_
      refine ao_read trivial (r_assign rfl) rfl ?_
      refine ao_nil ?_
      refine aq_then ?_
      refine aw_ret ?_
      refine aq_then_ret ?_
      refine aq_ret ?_
      obtain rfl := is_eq h
      exact aq_finx (l := [.tmp 4]) (xs := [.int .i64 (-1)]) idn [.int .i64 (-1)] [] rfl (by exact ⟨rfl, trivial⟩) (by exact ⟨ad_ren rfl, trivial⟩) (by exact trivial) rfl (nk rfl) rfl rfl ⟨rfl, rfl⟩
    · have q6 := d_f hb4
      replace h := is_else (d_f hb4) h
      refine aw_skip ?_
      refine aq_then ?_
      refine aw_seq ?_
      refine aw_region ?_
      refine ao_read trivial (r_move rfl) rfl ?_
      refine ao_read trivial (r_assign rfl) rfl ?_
      refine ao_nil ?_
      refine aq_then ?_
      refine aw_ret ?_
      refine aq_ret ?_
      obtain rfl := is_eq h
      exact aq_finx (l := [.tmp 4]) (xs := [.int .i64 (IntKind.wrap .i64 ((IntKind.wrap .i64 (x1 - (x0.1.size : Int))) - (x0.2.1.size : Int)))]) idn [.int .i64 (IntKind.wrap .i64 ((IntKind.wrap .i64 (x1 - (x0.1.size : Int))) - (x0.2.1.size : Int)))] [] rfl (by exact ⟨rfl, trivial⟩) (by exact ⟨ad_ren rfl, trivial⟩) (by exact trivial) rfl (nk rfl) rfl rfl ⟨rfl, rfl⟩
theorem c_laws_toLogRecord {x0 : (ByteArray × (ByteArray × Unit))} {r : (ByteArray × (ByteArray × Unit))} (h : Is (p_laws_toLogRecord x0) r) :
    Scalar Tryd.prog 24 [.v (.pair .str (.pair .str .unit)) x0] (.v (.pair .str (.pair .str .unit)) r) := by
  unfold p_laws_toLogRecord at h
  refine ac_enter ⟨11, 0⟩ Tryd.func24 rfl rfl rfl rfl rfl (fun Γ => ?_)
  refine aw_seq ?_
  refine aw_region ?_
  refine ao_eff trivial (e_box 0 rfl rfl rfl rfl rfl rfl) rfl ?_
  refine ao_eff trivial (e_alloc 1 (y := .st [.str ByteArray.empty, .str ByteArray.empty]) Tryd.zeroValue38 (fun ρ h M => ra_zero_st (t := (.pair .str (.pair .str .unit))) rfl rfl rfl) rfl rfl rfl rfl rfl) rfl ?_
  refine ao_nil ?_
  refine aq_then ?_
  refine aw_seq ?_
  refine aw_region ?_
  refine ao_eff trivial (e_alloc 2 (y := .st [.str ByteArray.empty, .str ByteArray.empty]) Tryd.zeroValue38 (fun ρ h M => ra_zero_st (t := (.pair .str (.pair .str .unit))) rfl rfl rfl) rfl rfl rfl rfl rfl) rfl ?_
  refine ao_nil ?_
  refine aq_then ?_
  refine aw_seq ?_
  refine aw_region ?_
  refine ao_read trivial (r_fieldAddr Tryd.underlying35 rfl Tryd.sizeOf9 rfl rfl rfl) rfl ?_
  refine ao_read trivial (r_load_cell Tryd.isAgg9 rfl rfl rfl) rfl ?_
  refine ao_read trivial (r_fieldAddr Tryd.underlying38 rfl Tryd.sizeOf9 rfl rfl rfl) rfl ?_
  refine ao_effS trivial (e_store rfl rfl rfl rfl Tryd.sizeOf9 rfl) ?_
  refine ao_nil ?_
  refine aq_then ?_
  refine aw_seq ?_
  refine aw_region ?_
  refine ao_read trivial (r_fieldAddr Tryd.underlying35 rfl Tryd.sizeOf9 rfl rfl rfl) rfl ?_
  refine ao_read trivial (r_load_cell Tryd.isAgg9 rfl rfl rfl) rfl ?_
  refine ao_read trivial (r_fieldAddr Tryd.underlying38 rfl Tryd.sizeOf9 rfl rfl rfl) rfl ?_
  refine ao_effS trivial (e_store rfl rfl rfl rfl Tryd.sizeOf9 rfl) ?_
  refine ao_nil ?_
  refine aq_then ?_
  refine aw_seq ?_
  refine aw_region ?_
  refine ao_read trivial (r_load_part (τ := (.pair .str (.pair .str .unit))) (y := ((x0.1, (x0.2.1, ())) : (ByteArray × (ByteArray × Unit)))) [] [] rfl Tryd.isAgg38 Tryd.sizeOf38 rfl rfl rfl rfl) rfl ?_
  refine ao_effS trivial (e_store rfl rfl rfl rfl Tryd.sizeOf38 rfl) ?_
  refine ao_nil ?_
  refine aq_then ?_
  refine aw_ret ?_
  refine aq_ret ?_
  obtain rfl := is_eq h
  exact aq_finx (l := [.cell 2 38]) (xs := [.st [.str x0.1, .str x0.2.1]]) idn [.v (.pair .str (.pair .str .unit)) ((x0.1, (x0.2.1, ())) : (ByteArray × (ByteArray × Unit)))] [] rfl (by exact ⟨⟨⟨_, _, rfl⟩, r_load_st [] [.cell (.str x0.1), .cell (.str x0.2.1)] [] Tryd.isAgg38 Tryd.sizeOf38 rfl rfl rfl rfl rfl rfl rfl⟩, trivial⟩) (by exact ⟨ad_st rfl rfl ⟨ad_ren rfl, ad_ren rfl, trivial⟩, trivial⟩) (by exact trivial) rfl (nk rfl) rfl rfl ⟨rfl, rfl⟩
theorem c_spec_AppendRecord {fu : Nat} {x0 : (ByteArray × (ByteArray × (Int × Unit)))} {x1 : (ByteArray × (ByteArray × Unit))} {r : (ByteArray × (ByteArray × (Int × Unit))) × Int} (h : Is (p_spec_AppendRecord fu x0 x1) (some r)) :
    Scalar Tryd.prog 37 [.v (.pair .str (.pair .str (.pair (.int .i64) .unit))) x0, .v (.pair .str (.pair .str .unit)) x1] (.tup [.v (.pair .str (.pair .str (.pair (.int .i64) .unit))) r.1, .int .i64 r.2]) := by
  unfold p_spec_AppendRecord at h
  refine ac_enter ⟨32, 0⟩ Tryd.func37 rfl rfl rfl rfl rfl (fun Γ => ?_)
  refine aw_seq ?_
  refine aw_region ?_
  refine ao_eff trivial (e_box 0 rfl rfl rfl rfl rfl rfl) rfl ?_
  refine ao_eff trivial (e_box 1 rfl rfl rfl rfl rfl rfl) rfl ?_
  refine ao_eff trivial (e_alloc 2 (y := .st [.str ByteArray.empty, .str ByteArray.empty, .int .i64 0]) Tryd.zeroValue42 (fun ρ h M => ra_zero_st (t := (.pair .str (.pair .str (.pair (.int .i64) .unit)))) rfl rfl rfl) rfl rfl rfl rfl rfl) rfl ?_
  refine ao_read trivial (r_assign rfl) rfl ?_
  refine ao_nil ?_
  refine aq_then ?_
  refine aw_seq ?_
  refine aw_seq ?_
  refine aw_region ?_
  refine ao_read trivial (r_load_part (τ := (.pair .str (.pair .str (.pair (.int .i64) .unit)))) (y := ((x0.1, (x0.2.1, (x0.2.2.1, ()))) : (ByteArray × (ByteArray × (Int × Unit))))) [] [] rfl Tryd.isAgg42 Tryd.sizeOf42 rfl rfl rfl rfl) rfl ?_
  obtain ⟨r1, r1h, h⟩ := is_bind h
  refine ao_scall trivial (scall (c_spec_l12Valid (is_mk r1h)) rfl Tryd.func82 rfl rfl rfl rfl (fun σ => ⟨ad_ren rfl, trivial⟩)) rfl ?_
  refine ao_read trivial (r_not rfl) rfl ?_
  refine ao_read trivial (r_move rfl) rfl ?_
  refine ao_readG (x := .v (.pair .str (.pair .str .unit)) ((x1.1, (x1.2.1, ())) : (ByteArray × (ByteArray × Unit)))) rfl (GV.F rfl) (fun hg2 => r_load_part (τ := (.pair .str (.pair .str .unit))) (y := ((x1.1, (x1.2.1, ())) : (ByteArray × (ByteArray × Unit)))) [] [] rfl Tryd.isAgg38 Tryd.sizeOf38 rfl rfl rfl rfl) rfl ?_
  obtain ⟨g4, h⟩ := is_guard h
  refine ao_scallG (r := .bool ((p_spec_l12Record (x1.1, (x1.2.1, ()))).getD false)) rfl (GV.F rfl) (fun hg3 => SCall.strip 10 rfl (hg3) (scall (c_spec_l12Record (is_mk (isSome_getD (g4 hg3)))) rfl Tryd.func76 rfl rfl rfl rfl (fun σ => ⟨ad_ren rfl, trivial⟩))) rfl ?_
  refine ao_readG (x := .bool (!((p_spec_l12Record (x1.1, (x1.2.1, ()))).getD false))) rfl (GV.F rfl) (fun hg5 => Reads.strip 11 rfl (hg5) (r_not rfl)) rfl ?_
  refine ao_read trivial (r_orB rfl rfl) rfl ?_
  refine ao_nil ?_
  refine aq_then ?_
  refine aw_cond rfl (fun hb6 => ?_) (fun hb6 => ?_)
  · replace h := is_if hb6 h
    refine aw_seq ?_
    refine aw_region ?_
    refine ao_read trivial (r_load_part (τ := (.pair .str (.pair .str (.pair (.int .i64) .unit)))) (y := ((x0.1, (x0.2.1, (x0.2.2.1, ()))) : (ByteArray × (ByteArray × (Int × Unit))))) [] [] rfl Tryd.isAgg42 Tryd.sizeOf42 rfl rfl rfl rfl) rfl ?_
    refine ao_effS trivial (e_store rfl rfl rfl rfl Tryd.sizeOf42 rfl) ?_
    refine ao_read trivial (r_assign rfl) rfl ?_
    refine ao_nil ?_
    refine aq_then ?_
    refine aw_ret ?_
    refine aq_then_ret ?_
    refine aq_ret ?_
    obtain rfl := is_some h
    exact aq_finx (l := [.cell 4 42, .tmp 5]) (xs := [.st [.str x0.1, .str x0.2.1, .int .i64 x0.2.2.1], .int .i64 1]) idn [.v (.pair .str (.pair .str (.pair (.int .i64) .unit))) ((x0.1, (x0.2.1, (x0.2.2.1, ()))) : (ByteArray × (ByteArray × (Int × Unit)))), .int .i64 1] [] rfl (by exact ⟨⟨⟨_, _, rfl⟩, r_load_st [] [.cell (.str x0.1), .cell (.str x0.2.1), .cell (.int .i64 x0.2.2.1)] [] Tryd.isAgg42 Tryd.sizeOf42 rfl rfl rfl rfl rfl rfl rfl⟩, rfl, trivial⟩) (by exact ⟨ad_st rfl rfl ⟨ad_ren rfl, ad_ren rfl, ad_ren rfl, trivial⟩, ad_ren rfl, trivial⟩) (by exact trivial) rfl (nk rfl) rfl rfl ⟨rfl, rfl⟩
  · obtain ⟨q7, q8⟩ := or_f hb6
    replace h := is_else (ne_t hb6) h
    refine aw_skip ?_
    refine aq_then ?_
    refine aw_seq ?_
    refine aw_seq ?_
    refine aw_region ?_
    refine ao_read trivial (r_fieldAddr Tryd.underlying42 rfl Tryd.sizeOf3 rfl rfl rfl) rfl ?_
    refine ao_read trivial (r_load_cell Tryd.isAgg3 rfl rfl rfl) rfl ?_
    refine ao_read trivial (r_eql rfl rfl) rfl ?_
    refine ao_nil ?_
    refine aq_then ?_
    refine aw_cond rfl (fun hb9 => ?_) (fun hb9 => ?_)
    · have q10 := d_t hb9
      replace h := is_if (d_t hb9) h
      refine aw_seq ?_
      refine aw_region ?_
      refine ao_read trivial (r_load_part (τ := (.pair .str (.pair .str (.pair (.int .i64) .unit)))) (y := ((x0.1, (x0.2.1, (x0.2.2.1, ()))) : (ByteArray × (ByteArray × (Int × Unit))))) [] [] rfl Tryd.isAgg42 Tryd.sizeOf42 rfl rfl rfl rfl) rfl ?_
      refine ao_effS trivial (e_store rfl rfl rfl rfl Tryd.sizeOf42 rfl) ?_
      refine ao_read trivial (r_assign rfl) rfl ?_
      refine ao_nil ?_
      refine aq_then ?_
      refine aw_ret ?_
      refine aq_then_ret ?_
      refine aq_ret ?_
      obtain rfl := is_some h
      exact aq_finx (l := [.cell 4 42, .tmp 5]) (xs := [.st [.str x0.1, .str x0.2.1, .int .i64 x0.2.2.1], .int .i64 2]) idn [.v (.pair .str (.pair .str (.pair (.int .i64) .unit))) ((x0.1, (x0.2.1, (x0.2.2.1, ()))) : (ByteArray × (ByteArray × (Int × Unit)))), .int .i64 2] [] rfl (by exact ⟨⟨⟨_, _, rfl⟩, r_load_st [] [.cell (.str x0.1), .cell (.str x0.2.1), .cell (.int .i64 x0.2.2.1)] [] Tryd.isAgg42 Tryd.sizeOf42 rfl rfl rfl rfl rfl rfl rfl⟩, rfl, trivial⟩) (by exact ⟨ad_st rfl rfl ⟨ad_ren rfl, ad_ren rfl, ad_ren rfl, trivial⟩, ad_ren rfl, trivial⟩) (by exact trivial) rfl (nk rfl) rfl rfl ⟨rfl, rfl⟩
    · have q11 := d_f hb9
      replace h := is_else (d_f hb9) h
      refine aw_skip ?_
      refine aq_then ?_
      refine aw_seq ?_
      obtain ⟨r12, r12h, h⟩ := is_bind h
      obtain ⟨g13, h⟩ := is_guard h
      refine aw_draw 8 (by kernel_rfl) (by kernel_rfl) ?_
      refine an_read 0 (by kernel_rfl) (fun _ _ _ h => h) rfl (by kernel_rfl) trivial (r_fieldAddr Tryd.underlying42 rfl Tryd.sizeOf9 rfl rfl rfl) rfl ?_
      refine an_read 1 (by kernel_rfl) (fun _ _ _ h => h) rfl (by kernel_rfl) trivial (r_load_cell Tryd.isAgg9 rfl rfl rfl) rfl ?_
      refine an_read 2 (by kernel_rfl) (fun _ _ _ h => h) rfl (by kernel_rfl) trivial (r_fieldAddr Tryd.underlying42 rfl Tryd.sizeOf3 rfl rfl rfl) rfl ?_
      refine an_read 3 (by kernel_rfl) (fun _ _ _ h => h) rfl (by kernel_rfl) trivial (r_load_cell Tryd.isAgg3 rfl rfl rfl) rfl ?_
      refine an_read 4 (by kernel_rfl) (fun _ _ _ h => h) rfl (by kernel_rfl) trivial (r_load_part (τ := (.pair .str (.pair .str .unit))) (y := ((x1.1, (x1.2.1, ())) : (ByteArray × (ByteArray × Unit)))) [] [] rfl Tryd.isAgg38 Tryd.sizeOf38 rfl rfl rfl rfl) rfl ?_
      refine an_scall 5 (by kernel_rfl) (fun _ _ _ h => h) rfl (by kernel_rfl) trivial (scall (c_spec_l12Line (is_mk r12h)) rfl Tryd.func77 rfl rfl rfl rfl (fun σ => ⟨ad_ren rfl, ad_ren rfl, trivial⟩)) rfl ?_
      refine an_read 6 (by kernel_rfl) (fun _ _ _ h => h) rfl (by kernel_rfl) trivial (r_add_str rfl rfl (by omega)) rfl ?_
      refine an_read 7 (by kernel_rfl) (fun _ _ _ h => h) rfl (by kernel_rfl) trivial (r_fieldAddr Tryd.underlying42 rfl Tryd.sizeOf9 rfl rfl rfl) rfl ?_
      refine an_tail rfl rfl ?_
      refine ao_effS trivial (e_store rfl rfl rfl rfl Tryd.sizeOf9 rfl) ?_
      refine ao_nil ?_
      refine aq_then ?_
      refine aw_seq ?_
      refine aw_region ?_
      refine ao_read trivial (r_fieldAddr Tryd.underlying42 rfl Tryd.sizeOf3 rfl rfl rfl) rfl ?_
      refine ao_read trivial (r_load_cell Tryd.isAgg3 rfl rfl rfl) rfl ?_
      refine ao_read trivial (r_add rfl rfl) rfl ?_
      refine ao_read trivial (r_fieldAddr Tryd.underlying42 rfl Tryd.sizeOf3 rfl rfl rfl) rfl ?_
      refine ao_effS trivial (e_store rfl rfl rfl rfl Tryd.sizeOf3 rfl) ?_
      refine ao_nil ?_
      refine aq_then ?_
      refine aw_seq ?_
      refine aw_region ?_
      refine ao_read trivial (r_load_part (τ := (.pair .str (.pair .str (.pair (.int .i64) .unit)))) (y := ((x0.1, ((x0.2.1 ++ r12), ((IntKind.wrap .i64 (x0.2.2.1 + 1)), ()))) : (ByteArray × (ByteArray × (Int × Unit))))) [] [] rfl Tryd.isAgg42 Tryd.sizeOf42 rfl rfl rfl rfl) rfl ?_
      refine ao_effS trivial (e_store rfl rfl rfl rfl Tryd.sizeOf42 rfl) ?_
      refine ao_read trivial (r_assign rfl) rfl ?_
      refine ao_nil ?_
      refine aq_then ?_
      refine aw_ret ?_
      refine aq_ret ?_
      obtain rfl := is_some h
      exact aq_finx (l := [.cell 4 42, .tmp 5]) (xs := [.st [.str x0.1, .str (x0.2.1 ++ r12), .int .i64 (IntKind.wrap .i64 (x0.2.2.1 + 1))], .int .i64 0]) idn [.v (.pair .str (.pair .str (.pair (.int .i64) .unit))) ((x0.1, ((x0.2.1 ++ r12), ((IntKind.wrap .i64 (x0.2.2.1 + 1)), ()))) : (ByteArray × (ByteArray × (Int × Unit)))), .int .i64 0] [] rfl (by exact ⟨⟨⟨_, _, rfl⟩, r_load_st [] [.cell (.str x0.1), .cell (.str (x0.2.1 ++ r12)), .cell (.int .i64 (IntKind.wrap .i64 (x0.2.2.1 + 1)))] [] Tryd.isAgg42 Tryd.sizeOf42 rfl rfl rfl rfl rfl rfl rfl⟩, rfl, trivial⟩) (by exact ⟨ad_st rfl rfl ⟨ad_ren rfl, ad_ren rfl, ad_ren rfl, trivial⟩, ad_ren rfl, trivial⟩) (by exact trivial) rfl (nk rfl) rfl rfl ⟨rfl, rfl⟩
theorem c_impl_AppendRecord {fu : Nat} {x0 : (ByteArray × (ByteArray × (Int × Unit)))} {x1 : (ByteArray × (ByteArray × Unit))} {r : (ByteArray × (ByteArray × (Int × Unit))) × Int} (h : Is (p_impl_AppendRecord fu x0 x1) (some r)) :
    Scalar Tryd.prog 38 [.v (.pair .str (.pair .str (.pair (.int .i64) .unit))) x0, .v (.pair .str (.pair .str .unit)) x1] (.tup [.v (.pair .str (.pair .str (.pair (.int .i64) .unit))) r.1, .int .i64 r.2]) := by
  unfold p_impl_AppendRecord at h
  refine ac_enter ⟨40, 0⟩ Tryd.func38 rfl rfl rfl rfl rfl (fun Γ => ?_)
  refine aw_seq ?_
  refine aw_region ?_
  refine ao_eff trivial (e_box 0 rfl rfl rfl rfl rfl rfl) rfl ?_
  refine ao_eff trivial (e_box 1 rfl rfl rfl rfl rfl rfl) rfl ?_
  refine ao_eff trivial (e_alloc 2 (y := .st [.str ByteArray.empty, .str ByteArray.empty, .int .i64 0]) Tryd.zeroValue42 (fun ρ h M => ra_zero_st (t := (.pair .str (.pair .str (.pair (.int .i64) .unit)))) rfl rfl rfl) rfl rfl rfl rfl rfl) rfl ?_
  refine ao_read trivial (r_assign rfl) rfl ?_
  refine ao_nil ?_
  refine aq_then ?_
  refine aw_seq ?_
  refine aw_block ?_
  refine aw_seq ?_
  refine aw_region ?_
  refine ao_read trivial (r_load_part (τ := (.pair .str (.pair .str (.pair (.int .i64) .unit)))) (y := ((x0.1, (x0.2.1, (x0.2.2.1, ()))) : (ByteArray × (ByteArray × (Int × Unit))))) [] [] rfl Tryd.isAgg42 Tryd.sizeOf42 rfl rfl rfl rfl) rfl ?_
  obtain ⟨r1, r1h, h⟩ := is_bind h
  refine ao_scall trivial (scall (c_impl_IsValidLog (is_mk r1h)) rfl Tryd.func32 rfl rfl rfl rfl (fun σ => ⟨ad_ren rfl, trivial⟩)) rfl ?_
  refine ao_read trivial (r_not rfl) rfl ?_
  refine ao_read trivial (r_move rfl) rfl ?_
  refine ao_readG (x := .v (.pair .str (.pair .str .unit)) ((x1.1, (x1.2.1, ())) : (ByteArray × (ByteArray × Unit)))) rfl (GV.F rfl) (fun hg2 => r_load_part (τ := (.pair .str (.pair .str .unit))) (y := ((x1.1, (x1.2.1, ())) : (ByteArray × (ByteArray × Unit)))) [] [] rfl Tryd.isAgg38 Tryd.sizeOf38 rfl rfl rfl rfl) rfl ?_
  obtain ⟨g4, h⟩ := is_guard h
  refine ao_scallG (r := .bool ((p_impl_IsValidRecord (x1.1, (x1.2.1, ()))).getD false)) rfl (GV.F rfl) (fun hg3 => SCall.strip 13 rfl (hg3) (scall (c_impl_IsValidRecord (is_mk (isSome_getD (g4 hg3)))) rfl Tryd.func59 rfl rfl rfl rfl (fun σ => ⟨ad_ren rfl, trivial⟩))) rfl ?_
  refine ao_readG (x := .bool (!((p_impl_IsValidRecord (x1.1, (x1.2.1, ()))).getD false))) rfl (GV.F rfl) (fun hg5 => Reads.strip 14 rfl (hg5) (r_not rfl)) rfl ?_
  refine ao_read trivial (r_orB rfl rfl) rfl ?_
  refine ao_read trivial (r_assign rfl) rfl ?_
  refine ao_nil ?_
  refine aq_then ?_
  refine aw_cond rfl (fun hb6 => ?_) (fun hb6 => ?_)
  · replace h := is_if hb6 h
    refine aw_seq ?_
    refine aw_region ?_
    refine ao_read trivial (r_load_part (τ := (.pair .str (.pair .str (.pair (.int .i64) .unit)))) (y := ((x0.1, (x0.2.1, (x0.2.2.1, ()))) : (ByteArray × (ByteArray × (Int × Unit))))) [] [] rfl Tryd.isAgg42 Tryd.sizeOf42 rfl rfl rfl rfl) rfl ?_
    refine ao_effS trivial (e_store rfl rfl rfl rfl Tryd.sizeOf42 rfl) ?_
    refine ao_read trivial (r_assign rfl) rfl ?_
    refine ao_nil ?_
    refine aq_then ?_
    refine aw_ret ?_
    refine aq_in_ret ?_
    refine aq_then_ret ?_
    refine aq_ret ?_
    obtain rfl := is_some h
    exact aq_finx (l := [.cell 4 42, .tmp 5]) (xs := [.st [.str x0.1, .str x0.2.1, .int .i64 x0.2.2.1], .int .i64 1]) idn [.v (.pair .str (.pair .str (.pair (.int .i64) .unit))) ((x0.1, (x0.2.1, (x0.2.2.1, ()))) : (ByteArray × (ByteArray × (Int × Unit)))), .int .i64 1] [] rfl (by exact ⟨⟨⟨_, _, rfl⟩, r_load_st [] [.cell (.str x0.1), .cell (.str x0.2.1), .cell (.int .i64 x0.2.2.1)] [] Tryd.isAgg42 Tryd.sizeOf42 rfl rfl rfl rfl rfl rfl rfl⟩, rfl, trivial⟩) (by exact ⟨ad_st rfl rfl ⟨ad_ren rfl, ad_ren rfl, ad_ren rfl, trivial⟩, ad_ren rfl, trivial⟩) (by exact trivial) rfl (nk rfl) rfl rfl ⟨rfl, rfl⟩
  · obtain ⟨q7, q8⟩ := or_f hb6
    replace h := is_else (ne_t hb6) h
    refine aw_seq ?_
    refine aw_region ?_
    refine ao_read trivial (r_fieldAddr Tryd.underlying42 rfl Tryd.sizeOf3 rfl rfl rfl) rfl ?_
    refine ao_read trivial (r_load_cell Tryd.isAgg3 rfl rfl rfl) rfl ?_
    refine ao_read trivial (r_eql rfl rfl) rfl ?_
    refine ao_read trivial (r_assign rfl) rfl ?_
    refine ao_nil ?_
    refine aq_then ?_
    refine aw_cond rfl (fun hb9 => ?_) (fun hb9 => ?_)
    · have q10 := d_t hb9
      replace h := is_if (d_t hb9) h
      refine aw_seq ?_
      refine aw_region ?_
      refine ao_read trivial (r_load_part (τ := (.pair .str (.pair .str (.pair (.int .i64) .unit)))) (y := ((x0.1, (x0.2.1, (x0.2.2.1, ()))) : (ByteArray × (ByteArray × (Int × Unit))))) [] [] rfl Tryd.isAgg42 Tryd.sizeOf42 rfl rfl rfl rfl) rfl ?_
      refine ao_effS trivial (e_store rfl rfl rfl rfl Tryd.sizeOf42 rfl) ?_
      refine ao_read trivial (r_assign rfl) rfl ?_
      refine ao_nil ?_
      refine aq_then ?_
      refine aw_ret ?_
      refine aq_in_ret ?_
      refine aq_then_ret ?_
      refine aq_ret ?_
      obtain rfl := is_some h
      exact aq_finx (l := [.cell 4 42, .tmp 5]) (xs := [.st [.str x0.1, .str x0.2.1, .int .i64 x0.2.2.1], .int .i64 2]) idn [.v (.pair .str (.pair .str (.pair (.int .i64) .unit))) ((x0.1, (x0.2.1, (x0.2.2.1, ()))) : (ByteArray × (ByteArray × (Int × Unit)))), .int .i64 2] [] rfl (by exact ⟨⟨⟨_, _, rfl⟩, r_load_st [] [.cell (.str x0.1), .cell (.str x0.2.1), .cell (.int .i64 x0.2.2.1)] [] Tryd.isAgg42 Tryd.sizeOf42 rfl rfl rfl rfl rfl rfl rfl⟩, rfl, trivial⟩) (by exact ⟨ad_st rfl rfl ⟨ad_ren rfl, ad_ren rfl, ad_ren rfl, trivial⟩, ad_ren rfl, trivial⟩) (by exact trivial) rfl (nk rfl) rfl rfl ⟨rfl, rfl⟩
    · have q11 := d_f hb9
      replace h := is_else (d_f hb9) h
      refine aw_skip ?_
      refine aq_in ?_
      refine aq_then ?_
      refine aw_seq ?_
      refine aw_region ?_
      refine ao_read trivial (r_fieldAddr Tryd.underlying42 rfl Tryd.sizeOf3 rfl rfl rfl) rfl ?_
      refine ao_read trivial (r_load_cell Tryd.isAgg3 rfl rfl rfl) rfl ?_
      refine ao_read trivial (r_load_part (τ := (.pair .str (.pair .str .unit))) (y := ((x1.1, (x1.2.1, ())) : (ByteArray × (ByteArray × Unit)))) [] [] rfl Tryd.isAgg38 Tryd.sizeOf38 rfl rfl rfl rfl) rfl ?_
      obtain ⟨r12, r12h, h⟩ := is_bind h
      refine ao_scall trivial (scall (c_impl_EncodeRecord (is_mk r12h)) rfl Tryd.func25 rfl rfl rfl rfl (fun σ => ⟨ad_ren rfl, ad_ren rfl, trivial⟩)) rfl ?_
      refine ao_read trivial (r_move rfl) rfl ?_
      refine ao_read trivial (r_extract rfl rfl) rfl ?_
      refine ao_read trivial (r_extract rfl rfl) rfl ?_
      refine ao_read trivial (r_assign rfl) rfl ?_
      refine ao_read trivial (r_assign rfl) rfl ?_
      refine ao_nil ?_
      refine aq_then ?_
      refine aw_seq ?_
      refine aw_region ?_
      refine ao_read trivial (r_fieldAddr Tryd.underlying42 rfl Tryd.sizeOf9 rfl rfl rfl) rfl ?_
      refine ao_read trivial (r_load_cell Tryd.isAgg9 rfl rfl rfl) rfl ?_
      refine ao_read trivial (r_move rfl) rfl ?_
      obtain ⟨g13, h⟩ := is_guard h
      refine ao_read trivial (r_add_str rfl rfl (by omega)) rfl ?_
      refine ao_read trivial (r_fieldAddr Tryd.underlying42 rfl Tryd.sizeOf9 rfl rfl rfl) rfl ?_
      refine ao_effS trivial (e_store rfl rfl rfl rfl Tryd.sizeOf9 rfl) ?_
      refine ao_nil ?_
      refine aq_then ?_
      refine aw_seq ?_
      refine aw_region ?_
      refine ao_read trivial (r_fieldAddr Tryd.underlying42 rfl Tryd.sizeOf3 rfl rfl rfl) rfl ?_
      refine ao_read trivial (r_load_cell Tryd.isAgg3 rfl rfl rfl) rfl ?_
      refine ao_read trivial (r_add rfl rfl) rfl ?_
      refine ao_read trivial (r_fieldAddr Tryd.underlying42 rfl Tryd.sizeOf3 rfl rfl rfl) rfl ?_
      refine ao_effS trivial (e_store rfl rfl rfl rfl Tryd.sizeOf3 rfl) ?_
      refine ao_nil ?_
      refine aq_then ?_
      refine aw_seq ?_
      refine aw_region ?_
      refine ao_read trivial (r_load_part (τ := (.pair .str (.pair .str (.pair (.int .i64) .unit)))) (y := ((x0.1, ((x0.2.1 ++ r12.1), ((IntKind.wrap .i64 (x0.2.2.1 + 1)), ()))) : (ByteArray × (ByteArray × (Int × Unit))))) [] [] rfl Tryd.isAgg42 Tryd.sizeOf42 rfl rfl rfl rfl) rfl ?_
      refine ao_effS trivial (e_store rfl rfl rfl rfl Tryd.sizeOf42 rfl) ?_
      refine ao_read trivial (r_assign rfl) rfl ?_
      refine ao_nil ?_
      refine aq_then ?_
      refine aw_ret ?_
      refine aq_ret ?_
      obtain rfl := is_some h
      exact aq_finx (l := [.cell 4 42, .tmp 5]) (xs := [.st [.str x0.1, .str (x0.2.1 ++ r12.1), .int .i64 (IntKind.wrap .i64 (x0.2.2.1 + 1))], .int .i64 0]) idn [.v (.pair .str (.pair .str (.pair (.int .i64) .unit))) ((x0.1, ((x0.2.1 ++ r12.1), ((IntKind.wrap .i64 (x0.2.2.1 + 1)), ()))) : (ByteArray × (ByteArray × (Int × Unit)))), .int .i64 0] [] rfl (by exact ⟨⟨⟨_, _, rfl⟩, r_load_st [] [.cell (.str x0.1), .cell (.str (x0.2.1 ++ r12.1)), .cell (.int .i64 (IntKind.wrap .i64 (x0.2.2.1 + 1)))] [] Tryd.isAgg42 Tryd.sizeOf42 rfl rfl rfl rfl rfl rfl rfl⟩, rfl, trivial⟩) (by exact ⟨ad_st rfl rfl ⟨ad_ren rfl, ad_ren rfl, ad_ren rfl, trivial⟩, ad_ren rfl, trivial⟩) (by exact trivial) rfl (nk rfl) rfl rfl ⟨rfl, rfl⟩
theorem c_laws_FnExactAppendRecord {fu : Nat} {x0 : (ByteArray × (ByteArray × (Int × Unit)))} {x1 : (ByteArray × (ByteArray × Unit))} {r : Bool} (h : Is (p_laws_FnExactAppendRecord fu x0 x1) (some r)) :
    Scalar Tryd.prog 9 [.v (.pair .str (.pair .str (.pair (.int .i64) .unit))) x0, .v (.pair .str (.pair .str .unit)) x1] (.bool r) := by
  unfold p_laws_FnExactAppendRecord at h
  refine ac_enter ⟨45, 0⟩ Tryd.func9 rfl rfl rfl rfl rfl (fun Γ => ?_)
  refine aw_seq ?_
  refine aw_region ?_
  refine ao_eff trivial (e_box 0 rfl rfl rfl rfl rfl rfl) rfl ?_
  refine ao_eff trivial (e_box 1 rfl rfl rfl rfl rfl rfl) rfl ?_
  refine ao_read trivial (r_assign rfl) rfl ?_
  refine ao_nil ?_
  refine aq_then ?_
  refine aw_seq ?_
  refine aw_region ?_
  refine ao_read trivial (r_assign rfl) rfl ?_
  refine ao_nil ?_
  refine aq_then ?_
  refine aw_seq ?_
  refine aw_region ?_
  refine ao_read trivial (r_load_part (τ := (.pair .str (.pair .str (.pair (.int .i64) .unit)))) (y := ((x0.1, (x0.2.1, (x0.2.2.1, ()))) : (ByteArray × (ByteArray × (Int × Unit))))) [] [] rfl Tryd.isAgg47 Tryd.sizeOf47 rfl rfl rfl rfl) rfl ?_
  refine ao_read trivial (r_move rfl) rfl ?_
  refine ao_scall trivial (scall (c_laws_szLog (is_mk (rfl : p_laws_szLog (x0.1, (x0.2.1, (x0.2.2.1, ()))) 1048576 = _))) rfl Tryd.func29 rfl rfl rfl rfl (fun σ => ⟨ad_ren rfl, ad_ren rfl, trivial⟩)) rfl ?_
  refine ao_read trivial (r_assign rfl) rfl ?_
  refine ao_nil ?_
  refine aq_then ?_
  refine aw_seq ?_
  refine aw_seq ?_
  refine aw_region ?_
  refine ao_read trivial (r_move rfl) rfl ?_
  refine ao_read trivial (r_lss rfl rfl) rfl ?_
  refine ao_nil ?_
  refine aq_then ?_
  refine aw_cond rfl (fun hb1 => ?_) (fun hb1 => ?_)
  · have q2 := d_t hb1
    replace h := is_if (d_t hb1) h
    refine aw_seq ?_
    refine aw_region ?_
    refine ao_read trivial (r_assign rfl) rfl ?_
    refine ao_nil ?_
    refine aq_then ?_
    refine aw_ret ?_
    refine aq_then_ret ?_
    refine aq_ret ?_
    obtain rfl := is_some h
    exact aq_finx (l := [.tmp 4]) (xs := [.bool true]) idn [.bool true] [] rfl (by exact ⟨rfl, trivial⟩) (by exact ⟨ad_ren rfl, trivial⟩) (by exact trivial) rfl (nk rfl) rfl rfl ⟨rfl, rfl⟩
  · have q3 := d_f hb1
    replace h := is_else (d_f hb1) h
    refine aw_skip ?_
    refine aq_then ?_
    refine aw_seq ?_
    refine aw_region ?_
    refine ao_read trivial (r_load_part (τ := (.pair .str (.pair .str .unit))) (y := ((x1.1, (x1.2.1, ())) : (ByteArray × (ByteArray × Unit)))) [] [] rfl Tryd.isAgg35 Tryd.sizeOf35 rfl rfl rfl rfl) rfl ?_
    refine ao_read trivial (r_move rfl) rfl ?_
    refine ao_scall trivial (scall (c_laws_szLogRecord (is_mk (rfl : p_laws_szLogRecord (x1.1, (x1.2.1, ())) (p_laws_szLog (x0.1, (x0.2.1, (x0.2.2.1, ()))) 1048576) = _))) rfl Tryd.func22 rfl rfl rfl rfl (fun σ => ⟨ad_ren rfl, ad_ren rfl, trivial⟩)) rfl ?_
    refine ao_read trivial (r_assign rfl) rfl ?_
    refine ao_nil ?_
    refine aq_then ?_
    refine aw_seq ?_
    refine aw_seq ?_
    refine aw_region ?_
    refine ao_read trivial (r_move rfl) rfl ?_
    refine ao_read trivial (r_lss rfl rfl) rfl ?_
    refine ao_nil ?_
    refine aq_then ?_
    refine aw_cond rfl (fun hb4 => ?_) (fun hb4 => ?_)
    · have q5 := d_t hb4
      replace h := is_if (d_t hb4) h
      refine aw_seq ?_
      refine aw_region ?_
      refine ao_read trivial (r_assign rfl) rfl ?_
      refine ao_nil ?_
      refine aq_then ?_
      refine aw_ret ?_
      refine aq_then_ret ?_
      refine aq_ret ?_
      obtain rfl := is_some h
      exact aq_finx (l := [.tmp 4]) (xs := [.bool true]) idn [.bool true] [] rfl (by exact ⟨rfl, trivial⟩) (by exact ⟨ad_ren rfl, trivial⟩) (by exact trivial) rfl (nk rfl) rfl rfl ⟨rfl, rfl⟩
    · have q6 := d_f hb4
      replace h := is_else (d_f hb4) h
      refine aw_skip ?_
      refine aq_then ?_
      refine aw_seq ?_
      obtain ⟨r7, r7h, h⟩ := is_bind h
      refine aw_drawP 11 rfl (by kernel_rfl) ?_
      refine ap_to [(2, .ref 0 0), (3, .ref 1 0), (6, .ref 2 0), (7, .int .i64 r7.2)] [(0, .var [.cell (.str x0.1), .cell (.str x0.2.1), .cell (.int .i64 x0.2.2.1)]), (1, .var [.cell (.str x1.1), .cell (.str x1.2.1)]), (2, .var [.cell (.str r7.1.1), .cell (.str r7.1.2.1), .cell (.int .i64 r7.1.2.2.1)])] ?_ (fun key => ?_)
      · refine aq_then ?_
        refine aw_seq ?_
        obtain ⟨r24, r24h, h⟩ := is_bind h
        refine aw_drawP 11 rfl (by kernel_rfl) ?_
        refine ap_to [(6, .ref 0 0), (7, .int .i64 r7.2), (8, .ref 1 0), (9, .int .i64 r24.2)] [(0, .var [.cell (.str r7.1.1), .cell (.str r7.1.2.1), .cell (.int .i64 r7.1.2.2.1)]), (1, .var [.cell (.str r24.1.1), .cell (.str r24.1.2.1), .cell (.int .i64 r24.1.2.2.1)])] ?_ (fun key => ?_)
        · refine aq_then ?_
          refine aw_seq ?_
          refine aw_seq ?_
          refine aw_region ?_
          refine ao_read trivial (r_load_part (τ := (.pair .str (.pair .str (.pair (.int .i64) .unit)))) (y := ((r24.1.1, (r24.1.2.1, (r24.1.2.2.1, ()))) : (ByteArray × (ByteArray × (Int × Unit))))) [] [] rfl Tryd.isAgg42 Tryd.sizeOf42 rfl rfl rfl rfl) rfl ?_
          refine ao_read trivial (r_load_part (τ := (.pair .str (.pair .str (.pair (.int .i64) .unit)))) (y := ((r7.1.1, (r7.1.2.1, (r7.1.2.2.1, ()))) : (ByteArray × (ByteArray × (Int × Unit))))) [] [] rfl Tryd.isAgg42 Tryd.sizeOf42 rfl rfl rfl rfl) rfl ?_
          refine ao_scall trivial (scall (c_laws_eqLog (is_mk (rfl : p_laws_eqLog (r24.1.1, (r24.1.2.1, (r24.1.2.2.1, ()))) (r7.1.1, (r7.1.2.1, (r7.1.2.2.1, ()))) = _))) rfl Tryd.func28 rfl rfl rfl rfl (fun σ => ⟨ad_ren rfl, ad_ren rfl, trivial⟩)) rfl ?_
          refine ao_read trivial (r_not rfl) rfl ?_
          refine ao_read trivial (r_move rfl) rfl ?_
          refine ao_readG (x := .int .i64 r24.2) rfl (GV.F rfl) (fun hg41 => r_move rfl) rfl ?_
          refine ao_readG (x := .int .i64 r7.2) rfl (GV.F rfl) (fun hg42 => r_move rfl) rfl ?_
          refine ao_readG (x := .bool (!(decide (r24.2 = r7.2)))) rfl (GV.F rfl) (fun hg43 => Reads.strip 41 rfl (hg43) (Reads.strip 42 rfl (hg43) (r_neq rfl rfl))) rfl ?_
          refine ao_read trivial (r_orB rfl rfl) rfl ?_
          refine ao_nil ?_
          refine aq_then ?_
          refine aw_cond rfl (fun hb44 => ?_) (fun hb44 => ?_)
          · replace h := is_if hb44 h
            refine aw_seq ?_
            refine aw_region ?_
            refine ao_read trivial (r_assign rfl) rfl ?_
            refine ao_nil ?_
            refine aq_then ?_
            refine aw_ret ?_
            refine aq_then_ret ?_
            refine aq_ret ?_
            obtain rfl := is_some h
            exact aq_finx (l := [.tmp 4]) (xs := [.bool false]) idn [.bool false] [] rfl (by exact ⟨rfl, trivial⟩) (by exact ⟨ad_ren rfl, trivial⟩) (by exact trivial) rfl (nk rfl) rfl rfl ⟨rfl, rfl⟩
          · obtain ⟨q45, q46⟩ := or_f hb44
            have q47 := d_t (not_f q46)
            replace h := is_else (ne_t hb44) h
            refine aw_skip ?_
            refine aq_then ?_
            refine aw_seq ?_
            refine aw_region ?_
            refine ao_read trivial (r_assign rfl) rfl ?_
            refine ao_nil ?_
            refine aq_then ?_
            refine aw_ret ?_
            refine aq_ret ?_
            obtain rfl := is_some h
            exact aq_finx (l := [.tmp 4]) (xs := [.bool true]) idn [.bool true] [] rfl (by exact ⟨rfl, trivial⟩) (by exact ⟨ad_ren rfl, trivial⟩) (by exact trivial) rfl (nk rfl) rfl rfl ⟨rfl, rfl⟩
        refine ap_let (g := 2) (listed := #[true, true, true, true, true, true, true, true, true, false, false]) [(6, .ref 0 0), (7, .int .i64 r7.2), (8, .ref 1 0), (34, .v (.pair .str (.pair .str (.pair (.int .i64) .unit))) r24.1), (35, .int .i64 r24.2)] [(0, .var [.cell (.str r7.1.1), .cell (.str r7.1.2.1), .cell (.int .i64 r7.1.2.2.1)]), (1, .var [.cell (.str ByteArray.empty), .cell (.str ByteArray.empty), .cell (.int .i64 0)])] ?_ (fun k31 => ?_)
        · refine ap_all [9] (by kernel_rfl) ⟨?_, trivial⟩
          refine apo_ao rfl ?_
          refine ao_effS trivial (e_store rfl rfl rfl rfl Tryd.sizeOf42 rfl) ?_
          refine ao_nil ?_
          refine ap_in ?_
          refine ap_pure 10 (by kernel_rfl) (fun _ _ _ h => h) rfl (by kernel_rfl) trivial (rp_assign rfl) rfl ?_
          exact ap_end (by kernel_rfl) (AQ.sub (sub_mk idn (by exact ⟨⟨_, rfl, ad_ren rfl⟩, ⟨_, rfl, ad_ren rfl⟩, ⟨_, rfl, ad_ren rfl⟩, ⟨_, rfl, ad_ren rfl⟩, trivial⟩) (by exact ⟨⟨_, rfl, ⟨ad_ren rfl, rfl, ad_ren rfl, rfl, ad_ren rfl, rfl, trivial⟩⟩, ⟨_, rfl, ⟨ad_ren rfl, rfl, ad_ren rfl, rfl, ad_ren rfl, rfl, trivial⟩⟩, trivial⟩) (by rfl) (nk rfl)) key)
        refine ap_let (g := 3) (listed := #[true, true, true, true, true, true, true, true, false, false, false]) [(6, .ref 0 0), (7, .int .i64 r7.2), (34, .v (.pair .str (.pair .str (.pair (.int .i64) .unit))) r24.1), (35, .int .i64 r24.2)] [(0, .var [.cell (.str r7.1.1), .cell (.str r7.1.2.1), .cell (.int .i64 r7.1.2.2.1)])] ?_ (fun k30 => ?_)
        · refine ap_all [8] (by kernel_rfl) ⟨?_, trivial⟩
          refine apo_ao rfl ?_
          refine ao_eff trivial (e_alloc 1 (y := .st [.str ByteArray.empty, .str ByteArray.empty, .int .i64 0]) Tryd.zeroValue42 (fun ρ h M => ra_zero_st (t := (.pair .str (.pair .str (.pair (.int .i64) .unit)))) rfl rfl rfl) rfl rfl rfl rfl rfl) rfl ?_
          refine ao_nil ?_
          refine ap_in ?_
          exact ap_go (by kernel_rfl) (sub_mk idn (by exact ⟨⟨_, rfl, ad_ren rfl⟩, ⟨_, rfl, ad_ren rfl⟩, ⟨_, rfl, ad_ren rfl⟩, ⟨_, rfl, ad_ren rfl⟩, ⟨_, rfl, ad_ren rfl⟩, trivial⟩) (by exact ⟨⟨_, rfl, ⟨ad_ren rfl, rfl, ad_ren rfl, rfl, ad_ren rfl, rfl, trivial⟩⟩, ⟨_, rfl, ⟨ad_ren rfl, rfl, ad_ren rfl, rfl, ad_ren rfl, rfl, trivial⟩⟩, trivial⟩) (by rfl) (nk rfl)) k31
        refine ap_let (g := 6) (listed := #[true, true, true, true, false, false, false, false, true, false, false]) [(6, .ref 0 0), (7, .int .i64 r7.2), (8, .ref 1 0), (30, .v (.pair .str (.pair .str (.pair (.int .i64) .unit))) ((p_laws_toLog (x0.1, (x0.2.1, (x0.2.2.1, ())))) : (ByteArray × (ByteArray × (Int × Unit))))), (32, .v (.pair .str (.pair .str .unit)) ((p_laws_toLogRecord (x1.1, (x1.2.1, ()))) : (ByteArray × (ByteArray × Unit))))] [(0, .var [.cell (.str r7.1.1), .cell (.str r7.1.2.1), .cell (.int .i64 r7.1.2.2.1)]), (1, .var [.cell (.str ByteArray.empty), .cell (.str ByteArray.empty), .cell (.int .i64 0)])] ?_ (fun k32 => ?_)
        · refine ap_all [4] (by kernel_rfl) ⟨?_, trivial⟩
          refine apo_ao rfl ?_
          refine ao_scall trivial (scall (c_impl_AppendRecord (is_mk r24h)) rfl Tryd.func38 rfl rfl rfl rfl (fun σ => ⟨ad_ren rfl, ad_ren rfl, trivial⟩)) rfl ?_
          refine ao_nil ?_
          refine ap_in ?_
          refine ap_pure 5 (by kernel_rfl) (fun _ _ _ h => h) rfl (by kernel_rfl) trivial (rp_move rfl) rfl ?_
          refine ap_pure 6 (by kernel_rfl) (fun _ _ _ h => h) rfl (by kernel_rfl) trivial (rp_extract rfl rfl) rfl ?_
          refine ap_pure 7 (by kernel_rfl) (fun _ _ _ h => h) rfl (by kernel_rfl) trivial (rp_extract rfl rfl) rfl ?_
          exact ap_go (by kernel_rfl) (sub_mk idn (by exact ⟨⟨_, rfl, ad_ren rfl⟩, ⟨_, rfl, ad_ren rfl⟩, ⟨_, rfl, ad_ren rfl⟩, ⟨_, rfl, ad_ren rfl⟩, ⟨_, rfl, ad_ren rfl⟩, trivial⟩) (by exact ⟨⟨_, rfl, ⟨ad_ren rfl, rfl, ad_ren rfl, rfl, ad_ren rfl, rfl, trivial⟩⟩, ⟨_, rfl, ⟨ad_ren rfl, rfl, ad_ren rfl, rfl, ad_ren rfl, rfl, trivial⟩⟩, trivial⟩) (by rfl) (nk rfl)) k31
        refine ap_let (g := 7) (listed := #[true, true, true, true, false, false, false, false, false, false, false]) [(6, .ref 0 0), (7, .int .i64 r7.2), (30, .v (.pair .str (.pair .str (.pair (.int .i64) .unit))) ((p_laws_toLog (x0.1, (x0.2.1, (x0.2.2.1, ())))) : (ByteArray × (ByteArray × (Int × Unit))))), (32, .v (.pair .str (.pair .str .unit)) ((p_laws_toLogRecord (x1.1, (x1.2.1, ()))) : (ByteArray × (ByteArray × Unit))))] [(0, .var [.cell (.str r7.1.1), .cell (.str r7.1.2.1), .cell (.int .i64 r7.1.2.2.1)])] ?_ (fun k29 => ?_)
        · refine ap_all [4, 8] (by kernel_rfl) ⟨?_, ?_, trivial⟩
          · refine apo_ao rfl ?_
            refine ao_scall trivial (scall (c_impl_AppendRecord (is_mk r24h)) rfl Tryd.func38 rfl rfl rfl rfl (fun σ => ⟨ad_ren rfl, ad_ren rfl, trivial⟩)) rfl ?_
            refine ao_nil ?_
            refine ap_in ?_
            refine ap_pure 5 (by kernel_rfl) (fun _ _ _ h => h) rfl (by kernel_rfl) trivial (rp_move rfl) rfl ?_
            refine ap_pure 6 (by kernel_rfl) (fun _ _ _ h => h) rfl (by kernel_rfl) trivial (rp_extract rfl rfl) rfl ?_
            refine ap_pure 7 (by kernel_rfl) (fun _ _ _ h => h) rfl (by kernel_rfl) trivial (rp_extract rfl rfl) rfl ?_
            exact ap_go (by kernel_rfl) (sub_mk idn (by exact ⟨⟨_, rfl, ad_ren rfl⟩, ⟨_, rfl, ad_ren rfl⟩, ⟨_, rfl, ad_ren rfl⟩, ⟨_, rfl, ad_ren rfl⟩, trivial⟩) (by exact ⟨⟨_, rfl, ⟨ad_ren rfl, rfl, ad_ren rfl, rfl, ad_ren rfl, rfl, trivial⟩⟩, trivial⟩) (by rfl) (nk rfl)) k30
          · refine apo_ao rfl ?_
            refine ao_eff trivial (e_alloc 1 (y := .st [.str ByteArray.empty, .str ByteArray.empty, .int .i64 0]) Tryd.zeroValue42 (fun ρ h M => ra_zero_st (t := (.pair .str (.pair .str (.pair (.int .i64) .unit)))) rfl rfl rfl) rfl rfl rfl rfl rfl) rfl ?_
            refine ao_nil ?_
            refine ap_in ?_
            exact ap_go (by kernel_rfl) (sub_mk idn (by exact ⟨⟨_, rfl, ad_ren rfl⟩, ⟨_, rfl, ad_ren rfl⟩, ⟨_, rfl, ad_ren rfl⟩, ⟨_, rfl, ad_ren rfl⟩, ⟨_, rfl, ad_ren rfl⟩, trivial⟩) (by exact ⟨⟨_, rfl, ⟨ad_ren rfl, rfl, ad_ren rfl, rfl, ad_ren rfl, rfl, trivial⟩⟩, ⟨_, rfl, ⟨ad_ren rfl, rfl, ad_ren rfl, rfl, ad_ren rfl, rfl, trivial⟩⟩, trivial⟩) (by rfl) (nk rfl)) k32
        refine ap_let (g := 7) (listed := #[true, true, true, false, false, false, false, false, true, false, false]) [(6, .ref 0 0), (7, .int .i64 r7.2), (8, .ref 1 0), (30, .v (.pair .str (.pair .str (.pair (.int .i64) .unit))) ((p_laws_toLog (x0.1, (x0.2.1, (x0.2.2.1, ())))) : (ByteArray × (ByteArray × (Int × Unit))))), (31, .v (.pair .str (.pair .str .unit)) ((x1.1, (x1.2.1, ())) : (ByteArray × (ByteArray × Unit))))] [(0, .var [.cell (.str r7.1.1), .cell (.str r7.1.2.1), .cell (.int .i64 r7.1.2.2.1)]), (1, .var [.cell (.str ByteArray.empty), .cell (.str ByteArray.empty), .cell (.int .i64 0)])] ?_ (fun k33 => ?_)
        · refine ap_all [3] (by kernel_rfl) ⟨?_, trivial⟩
          refine apo_ao rfl ?_
          refine ao_scall trivial (scall (c_laws_toLogRecord (is_mk (rfl : p_laws_toLogRecord (x1.1, (x1.2.1, ())) = _))) rfl Tryd.func24 rfl rfl rfl rfl (fun σ => ⟨ad_ren rfl, trivial⟩)) rfl ?_
          refine ao_nil ?_
          refine ap_in ?_
          exact ap_go (by kernel_rfl) (sub_mk idn (by exact ⟨⟨_, rfl, ad_ren rfl⟩, ⟨_, rfl, ad_ren rfl⟩, ⟨_, rfl, ad_ren rfl⟩, ⟨_, rfl, ad_ren rfl⟩, ⟨_, rfl, ad_ren rfl⟩, trivial⟩) (by exact ⟨⟨_, rfl, ⟨ad_ren rfl, rfl, ad_ren rfl, rfl, ad_ren rfl, rfl, trivial⟩⟩, ⟨_, rfl, ⟨ad_ren rfl, rfl, ad_ren rfl, rfl, ad_ren rfl, rfl, trivial⟩⟩, trivial⟩) (by rfl) (nk rfl)) k32
        refine ap_let (g := 8) (listed := #[true, true, true, false, false, false, false, false, false, false, false]) [(6, .ref 0 0), (7, .int .i64 r7.2), (30, .v (.pair .str (.pair .str (.pair (.int .i64) .unit))) ((p_laws_toLog (x0.1, (x0.2.1, (x0.2.2.1, ())))) : (ByteArray × (ByteArray × (Int × Unit))))), (31, .v (.pair .str (.pair .str .unit)) ((x1.1, (x1.2.1, ())) : (ByteArray × (ByteArray × Unit))))] [(0, .var [.cell (.str r7.1.1), .cell (.str r7.1.2.1), .cell (.int .i64 r7.1.2.2.1)])] ?_ (fun k28 => ?_)
        · refine ap_all [3, 8] (by kernel_rfl) ⟨?_, ?_, trivial⟩
          · refine apo_ao rfl ?_
            refine ao_scall trivial (scall (c_laws_toLogRecord (is_mk (rfl : p_laws_toLogRecord (x1.1, (x1.2.1, ())) = _))) rfl Tryd.func24 rfl rfl rfl rfl (fun σ => ⟨ad_ren rfl, trivial⟩)) rfl ?_
            refine ao_nil ?_
            refine ap_in ?_
            exact ap_go (by kernel_rfl) (sub_mk idn (by exact ⟨⟨_, rfl, ad_ren rfl⟩, ⟨_, rfl, ad_ren rfl⟩, ⟨_, rfl, ad_ren rfl⟩, ⟨_, rfl, ad_ren rfl⟩, trivial⟩) (by exact ⟨⟨_, rfl, ⟨ad_ren rfl, rfl, ad_ren rfl, rfl, ad_ren rfl, rfl, trivial⟩⟩, trivial⟩) (by rfl) (nk rfl)) k29
          · refine apo_ao rfl ?_
            refine ao_eff trivial (e_alloc 1 (y := .st [.str ByteArray.empty, .str ByteArray.empty, .int .i64 0]) Tryd.zeroValue42 (fun ρ h M => ra_zero_st (t := (.pair .str (.pair .str (.pair (.int .i64) .unit)))) rfl rfl rfl) rfl rfl rfl rfl rfl) rfl ?_
            refine ao_nil ?_
            refine ap_in ?_
            exact ap_go (by kernel_rfl) (sub_mk idn (by exact ⟨⟨_, rfl, ad_ren rfl⟩, ⟨_, rfl, ad_ren rfl⟩, ⟨_, rfl, ad_ren rfl⟩, ⟨_, rfl, ad_ren rfl⟩, ⟨_, rfl, ad_ren rfl⟩, trivial⟩) (by exact ⟨⟨_, rfl, ⟨ad_ren rfl, rfl, ad_ren rfl, rfl, ad_ren rfl, rfl, trivial⟩⟩, ⟨_, rfl, ⟨ad_ren rfl, rfl, ad_ren rfl, rfl, ad_ren rfl, rfl, trivial⟩⟩, trivial⟩) (by rfl) (nk rfl)) k33
        refine ap_let (g := 8) (listed := #[true, true, false, false, false, false, false, false, true, false, false]) [(3, .ref 0 0), (6, .ref 1 0), (7, .int .i64 r7.2), (8, .ref 2 0), (30, .v (.pair .str (.pair .str (.pair (.int .i64) .unit))) ((p_laws_toLog (x0.1, (x0.2.1, (x0.2.2.1, ())))) : (ByteArray × (ByteArray × (Int × Unit)))))] [(0, .var [.cell (.str x1.1), .cell (.str x1.2.1)]), (1, .var [.cell (.str r7.1.1), .cell (.str r7.1.2.1), .cell (.int .i64 r7.1.2.2.1)]), (2, .var [.cell (.str ByteArray.empty), .cell (.str ByteArray.empty), .cell (.int .i64 0)])] ?_ (fun k34 => ?_)
        · refine ap_all [2] (by kernel_rfl) ⟨?_, trivial⟩
          refine apo_ao rfl ?_
          refine ao_read trivial (r_load_part (τ := (.pair .str (.pair .str .unit))) (y := ((x1.1, (x1.2.1, ())) : (ByteArray × (ByteArray × Unit)))) [] [] rfl Tryd.isAgg35 Tryd.sizeOf35 rfl rfl rfl rfl) rfl ?_
          refine ao_nil ?_
          refine ap_in ?_
          exact ap_go (by kernel_rfl) (sub_mk (rn [(0, 1), (1, 2)]) (by exact ⟨⟨_, rfl, ad_ren rfl⟩, ⟨_, rfl, ad_ren rfl⟩, ⟨_, rfl, ad_ren rfl⟩, ⟨_, rfl, ad_ren rfl⟩, ⟨_, rfl, ad_ren rfl⟩, trivial⟩) (by exact ⟨⟨_, rfl, ⟨ad_ren rfl, rfl, ad_ren rfl, rfl, ad_ren rfl, rfl, trivial⟩⟩, ⟨_, rfl, ⟨ad_ren rfl, rfl, ad_ren rfl, rfl, ad_ren rfl, rfl, trivial⟩⟩, trivial⟩) (by rfl) (nk rfl)) k33
        refine ap_let (g := 8) (listed := #[true, false, true, false, false, false, false, false, true, false, false]) [(6, .ref 0 0), (7, .int .i64 r7.2), (8, .ref 1 0), (29, .v (.pair .str (.pair .str (.pair (.int .i64) .unit))) ((x0.1, (x0.2.1, (x0.2.2.1, ()))) : (ByteArray × (ByteArray × (Int × Unit))))), (31, .v (.pair .str (.pair .str .unit)) ((x1.1, (x1.2.1, ())) : (ByteArray × (ByteArray × Unit))))] [(0, .var [.cell (.str r7.1.1), .cell (.str r7.1.2.1), .cell (.int .i64 r7.1.2.2.1)]), (1, .var [.cell (.str ByteArray.empty), .cell (.str ByteArray.empty), .cell (.int .i64 0)])] ?_ (fun k36 => ?_)
        · refine ap_all [1] (by kernel_rfl) ⟨?_, trivial⟩
          refine apo_ao rfl ?_
          refine ao_scall trivial (scall (c_laws_toLog (is_mk (rfl : p_laws_toLog (x0.1, (x0.2.1, (x0.2.2.1, ()))) = _))) rfl Tryd.func31 rfl rfl rfl rfl (fun σ => ⟨ad_ren rfl, trivial⟩)) rfl ?_
          refine ao_nil ?_
          refine ap_in ?_
          exact ap_go (by kernel_rfl) (sub_mk idn (by exact ⟨⟨_, rfl, ad_ren rfl⟩, ⟨_, rfl, ad_ren rfl⟩, ⟨_, rfl, ad_ren rfl⟩, ⟨_, rfl, ad_ren rfl⟩, ⟨_, rfl, ad_ren rfl⟩, trivial⟩) (by exact ⟨⟨_, rfl, ⟨ad_ren rfl, rfl, ad_ren rfl, rfl, ad_ren rfl, rfl, trivial⟩⟩, ⟨_, rfl, ⟨ad_ren rfl, rfl, ad_ren rfl, rfl, ad_ren rfl, rfl, trivial⟩⟩, trivial⟩) (by rfl) (nk rfl)) k33
        refine ap_let (g := 9) (listed := #[true, true, false, false, false, false, false, false, false, false, false]) [(3, .ref 0 0), (6, .ref 1 0), (7, .int .i64 r7.2), (30, .v (.pair .str (.pair .str (.pair (.int .i64) .unit))) ((p_laws_toLog (x0.1, (x0.2.1, (x0.2.2.1, ())))) : (ByteArray × (ByteArray × (Int × Unit)))))] [(0, .var [.cell (.str x1.1), .cell (.str x1.2.1)]), (1, .var [.cell (.str r7.1.1), .cell (.str r7.1.2.1), .cell (.int .i64 r7.1.2.2.1)])] ?_ (fun k27 => ?_)
        · refine ap_all [2, 8] (by kernel_rfl) ⟨?_, ?_, trivial⟩
          · refine apo_ao rfl ?_
            refine ao_read trivial (r_load_part (τ := (.pair .str (.pair .str .unit))) (y := ((x1.1, (x1.2.1, ())) : (ByteArray × (ByteArray × Unit)))) [] [] rfl Tryd.isAgg35 Tryd.sizeOf35 rfl rfl rfl rfl) rfl ?_
            refine ao_nil ?_
            refine ap_in ?_
            exact ap_go (by kernel_rfl) (sub_mk (rn [(0, 1)]) (by exact ⟨⟨_, rfl, ad_ren rfl⟩, ⟨_, rfl, ad_ren rfl⟩, ⟨_, rfl, ad_ren rfl⟩, ⟨_, rfl, ad_ren rfl⟩, trivial⟩) (by exact ⟨⟨_, rfl, ⟨ad_ren rfl, rfl, ad_ren rfl, rfl, ad_ren rfl, rfl, trivial⟩⟩, trivial⟩) (by rfl) (nk rfl)) k28
          · refine apo_ao rfl ?_
            refine ao_eff trivial (e_alloc 2 (y := .st [.str ByteArray.empty, .str ByteArray.empty, .int .i64 0]) Tryd.zeroValue42 (fun ρ h M => ra_zero_st (t := (.pair .str (.pair .str (.pair (.int .i64) .unit)))) rfl rfl rfl) rfl rfl rfl rfl rfl) rfl ?_
            refine ao_nil ?_
            refine ap_in ?_
            exact ap_go (by kernel_rfl) (sub_mk idn (by exact ⟨⟨_, rfl, ad_ren rfl⟩, ⟨_, rfl, ad_ren rfl⟩, ⟨_, rfl, ad_ren rfl⟩, ⟨_, rfl, ad_ren rfl⟩, ⟨_, rfl, ad_ren rfl⟩, trivial⟩) (by exact ⟨⟨_, rfl, ⟨ad_ren rfl, rfl, ad_ren rfl, rfl, trivial⟩⟩, ⟨_, rfl, ⟨ad_ren rfl, rfl, ad_ren rfl, rfl, ad_ren rfl, rfl, trivial⟩⟩, ⟨_, rfl, ⟨ad_ren rfl, rfl, ad_ren rfl, rfl, ad_ren rfl, rfl, trivial⟩⟩, trivial⟩) (by rfl) (nk rfl)) k34
        refine ap_let (g := 9) (listed := #[true, false, true, false, false, false, false, false, false, false, false]) [(6, .ref 0 0), (7, .int .i64 r7.2), (29, .v (.pair .str (.pair .str (.pair (.int .i64) .unit))) ((x0.1, (x0.2.1, (x0.2.2.1, ()))) : (ByteArray × (ByteArray × (Int × Unit))))), (31, .v (.pair .str (.pair .str .unit)) ((x1.1, (x1.2.1, ())) : (ByteArray × (ByteArray × Unit))))] [(0, .var [.cell (.str r7.1.1), .cell (.str r7.1.2.1), .cell (.int .i64 r7.1.2.2.1)])] ?_ (fun k35 => ?_)
        · refine ap_all [1, 8] (by kernel_rfl) ⟨?_, ?_, trivial⟩
          · refine apo_ao rfl ?_
            refine ao_scall trivial (scall (c_laws_toLog (is_mk (rfl : p_laws_toLog (x0.1, (x0.2.1, (x0.2.2.1, ()))) = _))) rfl Tryd.func31 rfl rfl rfl rfl (fun σ => ⟨ad_ren rfl, trivial⟩)) rfl ?_
            refine ao_nil ?_
            refine ap_in ?_
            exact ap_go (by kernel_rfl) (sub_mk idn (by exact ⟨⟨_, rfl, ad_ren rfl⟩, ⟨_, rfl, ad_ren rfl⟩, ⟨_, rfl, ad_ren rfl⟩, ⟨_, rfl, ad_ren rfl⟩, trivial⟩) (by exact ⟨⟨_, rfl, ⟨ad_ren rfl, rfl, ad_ren rfl, rfl, ad_ren rfl, rfl, trivial⟩⟩, trivial⟩) (by rfl) (nk rfl)) k28
          · refine apo_ao rfl ?_
            refine ao_eff trivial (e_alloc 1 (y := .st [.str ByteArray.empty, .str ByteArray.empty, .int .i64 0]) Tryd.zeroValue42 (fun ρ h M => ra_zero_st (t := (.pair .str (.pair .str (.pair (.int .i64) .unit)))) rfl rfl rfl) rfl rfl rfl rfl rfl) rfl ?_
            refine ao_nil ?_
            refine ap_in ?_
            exact ap_go (by kernel_rfl) (sub_mk idn (by exact ⟨⟨_, rfl, ad_ren rfl⟩, ⟨_, rfl, ad_ren rfl⟩, ⟨_, rfl, ad_ren rfl⟩, ⟨_, rfl, ad_ren rfl⟩, ⟨_, rfl, ad_ren rfl⟩, trivial⟩) (by exact ⟨⟨_, rfl, ⟨ad_ren rfl, rfl, ad_ren rfl, rfl, ad_ren rfl, rfl, trivial⟩⟩, ⟨_, rfl, ⟨ad_ren rfl, rfl, ad_ren rfl, rfl, ad_ren rfl, rfl, trivial⟩⟩, trivial⟩) (by rfl) (nk rfl)) k36
        refine ap_let (g := 9) (listed := #[true, false, false, false, false, false, false, false, true, false, false]) [(3, .ref 0 0), (6, .ref 1 0), (7, .int .i64 r7.2), (8, .ref 2 0), (29, .v (.pair .str (.pair .str (.pair (.int .i64) .unit))) ((x0.1, (x0.2.1, (x0.2.2.1, ()))) : (ByteArray × (ByteArray × (Int × Unit)))))] [(0, .var [.cell (.str x1.1), .cell (.str x1.2.1)]), (1, .var [.cell (.str r7.1.1), .cell (.str r7.1.2.1), .cell (.int .i64 r7.1.2.2.1)]), (2, .var [.cell (.str ByteArray.empty), .cell (.str ByteArray.empty), .cell (.int .i64 0)])] ?_ (fun k37 => ?_)
        · refine ap_all [1, 2] (by kernel_rfl) ⟨?_, ?_, trivial⟩
          · refine apo_ao rfl ?_
            refine ao_scall trivial (scall (c_laws_toLog (is_mk (rfl : p_laws_toLog (x0.1, (x0.2.1, (x0.2.2.1, ()))) = _))) rfl Tryd.func31 rfl rfl rfl rfl (fun σ => ⟨ad_ren rfl, trivial⟩)) rfl ?_
            refine ao_nil ?_
            refine ap_in ?_
            exact ap_go (by kernel_rfl) (sub_mk idn (by exact ⟨⟨_, rfl, ad_ren rfl⟩, ⟨_, rfl, ad_ren rfl⟩, ⟨_, rfl, ad_ren rfl⟩, ⟨_, rfl, ad_ren rfl⟩, ⟨_, rfl, ad_ren rfl⟩, trivial⟩) (by exact ⟨⟨_, rfl, ⟨ad_ren rfl, rfl, ad_ren rfl, rfl, trivial⟩⟩, ⟨_, rfl, ⟨ad_ren rfl, rfl, ad_ren rfl, rfl, ad_ren rfl, rfl, trivial⟩⟩, ⟨_, rfl, ⟨ad_ren rfl, rfl, ad_ren rfl, rfl, ad_ren rfl, rfl, trivial⟩⟩, trivial⟩) (by rfl) (nk rfl)) k34
          · refine apo_ao rfl ?_
            refine ao_read trivial (r_load_part (τ := (.pair .str (.pair .str .unit))) (y := ((x1.1, (x1.2.1, ())) : (ByteArray × (ByteArray × Unit)))) [] [] rfl Tryd.isAgg35 Tryd.sizeOf35 rfl rfl rfl rfl) rfl ?_
            refine ao_nil ?_
            refine ap_in ?_
            exact ap_go (by kernel_rfl) (sub_mk (rn [(0, 1), (1, 2)]) (by exact ⟨⟨_, rfl, ad_ren rfl⟩, ⟨_, rfl, ad_ren rfl⟩, ⟨_, rfl, ad_ren rfl⟩, ⟨_, rfl, ad_ren rfl⟩, ⟨_, rfl, ad_ren rfl⟩, trivial⟩) (by exact ⟨⟨_, rfl, ⟨ad_ren rfl, rfl, ad_ren rfl, rfl, ad_ren rfl, rfl, trivial⟩⟩, ⟨_, rfl, ⟨ad_ren rfl, rfl, ad_ren rfl, rfl, ad_ren rfl, rfl, trivial⟩⟩, trivial⟩) (by rfl) (nk rfl)) k36
        refine ap_let (g := 9) (listed := #[false, false, true, false, false, false, false, false, true, false, false]) [(2, .ref 0 0), (6, .ref 1 0), (7, .int .i64 r7.2), (8, .ref 2 0), (31, .v (.pair .str (.pair .str .unit)) ((x1.1, (x1.2.1, ())) : (ByteArray × (ByteArray × Unit))))] [(0, .var [.cell (.str x0.1), .cell (.str x0.2.1), .cell (.int .i64 x0.2.2.1)]), (1, .var [.cell (.str r7.1.1), .cell (.str r7.1.2.1), .cell (.int .i64 r7.1.2.2.1)]), (2, .var [.cell (.str ByteArray.empty), .cell (.str ByteArray.empty), .cell (.int .i64 0)])] ?_ (fun k39 => ?_)
        · refine ap_all [0] (by kernel_rfl) ⟨?_, trivial⟩
          refine apo_ao rfl ?_
          refine ao_read trivial (r_load_part (τ := (.pair .str (.pair .str (.pair (.int .i64) .unit)))) (y := ((x0.1, (x0.2.1, (x0.2.2.1, ()))) : (ByteArray × (ByteArray × (Int × Unit))))) [] [] rfl Tryd.isAgg47 Tryd.sizeOf47 rfl rfl rfl rfl) rfl ?_
          refine ao_nil ?_
          refine ap_in ?_
          exact ap_go (by kernel_rfl) (sub_mk (rn [(0, 1), (1, 2)]) (by exact ⟨⟨_, rfl, ad_ren rfl⟩, ⟨_, rfl, ad_ren rfl⟩, ⟨_, rfl, ad_ren rfl⟩, ⟨_, rfl, ad_ren rfl⟩, ⟨_, rfl, ad_ren rfl⟩, trivial⟩) (by exact ⟨⟨_, rfl, ⟨ad_ren rfl, rfl, ad_ren rfl, rfl, ad_ren rfl, rfl, trivial⟩⟩, ⟨_, rfl, ⟨ad_ren rfl, rfl, ad_ren rfl, rfl, ad_ren rfl, rfl, trivial⟩⟩, trivial⟩) (by rfl) (nk rfl)) k36
        refine ap_let (g := 10) (listed := #[true, false, false, false, false, false, false, false, false, false, false]) [(3, .ref 0 0), (6, .ref 1 0), (7, .int .i64 r7.2), (29, .v (.pair .str (.pair .str (.pair (.int .i64) .unit))) ((x0.1, (x0.2.1, (x0.2.2.1, ()))) : (ByteArray × (ByteArray × (Int × Unit)))))] [(0, .var [.cell (.str x1.1), .cell (.str x1.2.1)]), (1, .var [.cell (.str r7.1.1), .cell (.str r7.1.2.1), .cell (.int .i64 r7.1.2.2.1)])] ?_ (fun k26 => ?_)
        · refine ap_all [1, 2, 8] (by kernel_rfl) ⟨?_, ?_, ?_, trivial⟩
          · refine apo_ao rfl ?_
            refine ao_scall trivial (scall (c_laws_toLog (is_mk (rfl : p_laws_toLog (x0.1, (x0.2.1, (x0.2.2.1, ()))) = _))) rfl Tryd.func31 rfl rfl rfl rfl (fun σ => ⟨ad_ren rfl, trivial⟩)) rfl ?_
            refine ao_nil ?_
            refine ap_in ?_
            exact ap_go (by kernel_rfl) (sub_mk idn (by exact ⟨⟨_, rfl, ad_ren rfl⟩, ⟨_, rfl, ad_ren rfl⟩, ⟨_, rfl, ad_ren rfl⟩, ⟨_, rfl, ad_ren rfl⟩, trivial⟩) (by exact ⟨⟨_, rfl, ⟨ad_ren rfl, rfl, ad_ren rfl, rfl, trivial⟩⟩, ⟨_, rfl, ⟨ad_ren rfl, rfl, ad_ren rfl, rfl, ad_ren rfl, rfl, trivial⟩⟩, trivial⟩) (by rfl) (nk rfl)) k27
          · refine apo_ao rfl ?_
            refine ao_read trivial (r_load_part (τ := (.pair .str (.pair .str .unit))) (y := ((x1.1, (x1.2.1, ())) : (ByteArray × (ByteArray × Unit)))) [] [] rfl Tryd.isAgg35 Tryd.sizeOf35 rfl rfl rfl rfl) rfl ?_
            refine ao_nil ?_
            refine ap_in ?_
            exact ap_go (by kernel_rfl) (sub_mk (rn [(0, 1)]) (by exact ⟨⟨_, rfl, ad_ren rfl⟩, ⟨_, rfl, ad_ren rfl⟩, ⟨_, rfl, ad_ren rfl⟩, ⟨_, rfl, ad_ren rfl⟩, trivial⟩) (by exact ⟨⟨_, rfl, ⟨ad_ren rfl, rfl, ad_ren rfl, rfl, ad_ren rfl, rfl, trivial⟩⟩, trivial⟩) (by rfl) (nk rfl)) k35
          · refine apo_ao rfl ?_
            refine ao_eff trivial (e_alloc 2 (y := .st [.str ByteArray.empty, .str ByteArray.empty, .int .i64 0]) Tryd.zeroValue42 (fun ρ h M => ra_zero_st (t := (.pair .str (.pair .str (.pair (.int .i64) .unit)))) rfl rfl rfl) rfl rfl rfl rfl rfl) rfl ?_
            refine ao_nil ?_
            refine ap_in ?_
            exact ap_go (by kernel_rfl) (sub_mk idn (by exact ⟨⟨_, rfl, ad_ren rfl⟩, ⟨_, rfl, ad_ren rfl⟩, ⟨_, rfl, ad_ren rfl⟩, ⟨_, rfl, ad_ren rfl⟩, ⟨_, rfl, ad_ren rfl⟩, trivial⟩) (by exact ⟨⟨_, rfl, ⟨ad_ren rfl, rfl, ad_ren rfl, rfl, trivial⟩⟩, ⟨_, rfl, ⟨ad_ren rfl, rfl, ad_ren rfl, rfl, ad_ren rfl, rfl, trivial⟩⟩, ⟨_, rfl, ⟨ad_ren rfl, rfl, ad_ren rfl, rfl, ad_ren rfl, rfl, trivial⟩⟩, trivial⟩) (by rfl) (nk rfl)) k37
        refine ap_let (g := 10) (listed := #[false, false, true, false, false, false, false, false, false, false, false]) [(2, .ref 0 0), (6, .ref 1 0), (7, .int .i64 r7.2), (31, .v (.pair .str (.pair .str .unit)) ((x1.1, (x1.2.1, ())) : (ByteArray × (ByteArray × Unit))))] [(0, .var [.cell (.str x0.1), .cell (.str x0.2.1), .cell (.int .i64 x0.2.2.1)]), (1, .var [.cell (.str r7.1.1), .cell (.str r7.1.2.1), .cell (.int .i64 r7.1.2.2.1)])] ?_ (fun k38 => ?_)
        · refine ap_all [0, 8] (by kernel_rfl) ⟨?_, ?_, trivial⟩
          · refine apo_ao rfl ?_
            refine ao_read trivial (r_load_part (τ := (.pair .str (.pair .str (.pair (.int .i64) .unit)))) (y := ((x0.1, (x0.2.1, (x0.2.2.1, ()))) : (ByteArray × (ByteArray × (Int × Unit))))) [] [] rfl Tryd.isAgg47 Tryd.sizeOf47 rfl rfl rfl rfl) rfl ?_
            refine ao_nil ?_
            refine ap_in ?_
            exact ap_go (by kernel_rfl) (sub_mk (rn [(0, 1)]) (by exact ⟨⟨_, rfl, ad_ren rfl⟩, ⟨_, rfl, ad_ren rfl⟩, ⟨_, rfl, ad_ren rfl⟩, ⟨_, rfl, ad_ren rfl⟩, trivial⟩) (by exact ⟨⟨_, rfl, ⟨ad_ren rfl, rfl, ad_ren rfl, rfl, ad_ren rfl, rfl, trivial⟩⟩, trivial⟩) (by rfl) (nk rfl)) k35
          · refine apo_ao rfl ?_
            refine ao_eff trivial (e_alloc 2 (y := .st [.str ByteArray.empty, .str ByteArray.empty, .int .i64 0]) Tryd.zeroValue42 (fun ρ h M => ra_zero_st (t := (.pair .str (.pair .str (.pair (.int .i64) .unit)))) rfl rfl rfl) rfl rfl rfl rfl rfl) rfl ?_
            refine ao_nil ?_
            refine ap_in ?_
            exact ap_go (by kernel_rfl) (sub_mk idn (by exact ⟨⟨_, rfl, ad_ren rfl⟩, ⟨_, rfl, ad_ren rfl⟩, ⟨_, rfl, ad_ren rfl⟩, ⟨_, rfl, ad_ren rfl⟩, ⟨_, rfl, ad_ren rfl⟩, trivial⟩) (by exact ⟨⟨_, rfl, ⟨ad_ren rfl, rfl, ad_ren rfl, rfl, ad_ren rfl, rfl, trivial⟩⟩, ⟨_, rfl, ⟨ad_ren rfl, rfl, ad_ren rfl, rfl, ad_ren rfl, rfl, trivial⟩⟩, ⟨_, rfl, ⟨ad_ren rfl, rfl, ad_ren rfl, rfl, ad_ren rfl, rfl, trivial⟩⟩, trivial⟩) (by rfl) (nk rfl)) k39
        refine ap_let (g := 10) (listed := #[false, false, false, false, false, false, false, false, true, false, false]) [(2, .ref 0 0), (3, .ref 1 0), (6, .ref 2 0), (7, .int .i64 r7.2), (8, .ref 3 0)] [(0, .var [.cell (.str x0.1), .cell (.str x0.2.1), .cell (.int .i64 x0.2.2.1)]), (1, .var [.cell (.str x1.1), .cell (.str x1.2.1)]), (2, .var [.cell (.str r7.1.1), .cell (.str r7.1.2.1), .cell (.int .i64 r7.1.2.2.1)]), (3, .var [.cell (.str ByteArray.empty), .cell (.str ByteArray.empty), .cell (.int .i64 0)])] ?_ (fun k40 => ?_)
        · refine ap_all [0, 2] (by kernel_rfl) ⟨?_, ?_, trivial⟩
          · refine apo_ao rfl ?_
            refine ao_read trivial (r_load_part (τ := (.pair .str (.pair .str (.pair (.int .i64) .unit)))) (y := ((x0.1, (x0.2.1, (x0.2.2.1, ()))) : (ByteArray × (ByteArray × (Int × Unit))))) [] [] rfl Tryd.isAgg47 Tryd.sizeOf47 rfl rfl rfl rfl) rfl ?_
            refine ao_nil ?_
            refine ap_in ?_
            exact ap_go (by kernel_rfl) (sub_mk (rn [(0, 1), (1, 2), (2, 3)]) (by exact ⟨⟨_, rfl, ad_ren rfl⟩, ⟨_, rfl, ad_ren rfl⟩, ⟨_, rfl, ad_ren rfl⟩, ⟨_, rfl, ad_ren rfl⟩, ⟨_, rfl, ad_ren rfl⟩, trivial⟩) (by exact ⟨⟨_, rfl, ⟨ad_ren rfl, rfl, ad_ren rfl, rfl, trivial⟩⟩, ⟨_, rfl, ⟨ad_ren rfl, rfl, ad_ren rfl, rfl, ad_ren rfl, rfl, trivial⟩⟩, ⟨_, rfl, ⟨ad_ren rfl, rfl, ad_ren rfl, rfl, ad_ren rfl, rfl, trivial⟩⟩, trivial⟩) (by rfl) (nk rfl)) k37
          · refine apo_ao rfl ?_
            refine ao_read trivial (r_load_part (τ := (.pair .str (.pair .str .unit))) (y := ((x1.1, (x1.2.1, ())) : (ByteArray × (ByteArray × Unit)))) [] [] rfl Tryd.isAgg35 Tryd.sizeOf35 rfl rfl rfl rfl) rfl ?_
            refine ao_nil ?_
            refine ap_in ?_
            exact ap_go (by kernel_rfl) (sub_mk (rn [(1, 2), (2, 3)]) (by exact ⟨⟨_, rfl, ad_ren rfl⟩, ⟨_, rfl, ad_ren rfl⟩, ⟨_, rfl, ad_ren rfl⟩, ⟨_, rfl, ad_ren rfl⟩, ⟨_, rfl, ad_ren rfl⟩, trivial⟩) (by exact ⟨⟨_, rfl, ⟨ad_ren rfl, rfl, ad_ren rfl, rfl, ad_ren rfl, rfl, trivial⟩⟩, ⟨_, rfl, ⟨ad_ren rfl, rfl, ad_ren rfl, rfl, ad_ren rfl, rfl, trivial⟩⟩, ⟨_, rfl, ⟨ad_ren rfl, rfl, ad_ren rfl, rfl, ad_ren rfl, rfl, trivial⟩⟩, trivial⟩) (by rfl) (nk rfl)) k39
        refine ap_let (g := 11) (listed := #[false, false, false, false, false, false, false, false, false, false, false]) [(2, .ref 0 0), (3, .ref 1 0), (6, .ref 2 0), (7, .int .i64 r7.2)] [(0, .var [.cell (.str x0.1), .cell (.str x0.2.1), .cell (.int .i64 x0.2.2.1)]), (1, .var [.cell (.str x1.1), .cell (.str x1.2.1)]), (2, .var [.cell (.str r7.1.1), .cell (.str r7.1.2.1), .cell (.int .i64 r7.1.2.2.1)])] ?_ (fun k25 => ?_)
        · refine ap_all [0, 2, 8] (by kernel_rfl) ⟨?_, ?_, ?_, trivial⟩
          · refine apo_ao rfl ?_
            refine ao_read trivial (r_load_part (τ := (.pair .str (.pair .str (.pair (.int .i64) .unit)))) (y := ((x0.1, (x0.2.1, (x0.2.2.1, ()))) : (ByteArray × (ByteArray × (Int × Unit))))) [] [] rfl Tryd.isAgg47 Tryd.sizeOf47 rfl rfl rfl rfl) rfl ?_
            refine ao_nil ?_
            refine ap_in ?_
            exact ap_go (by kernel_rfl) (sub_mk (rn [(0, 1), (1, 2)]) (by exact ⟨⟨_, rfl, ad_ren rfl⟩, ⟨_, rfl, ad_ren rfl⟩, ⟨_, rfl, ad_ren rfl⟩, ⟨_, rfl, ad_ren rfl⟩, trivial⟩) (by exact ⟨⟨_, rfl, ⟨ad_ren rfl, rfl, ad_ren rfl, rfl, trivial⟩⟩, ⟨_, rfl, ⟨ad_ren rfl, rfl, ad_ren rfl, rfl, ad_ren rfl, rfl, trivial⟩⟩, trivial⟩) (by rfl) (nk rfl)) k26
          · refine apo_ao rfl ?_
            refine ao_read trivial (r_load_part (τ := (.pair .str (.pair .str .unit))) (y := ((x1.1, (x1.2.1, ())) : (ByteArray × (ByteArray × Unit)))) [] [] rfl Tryd.isAgg35 Tryd.sizeOf35 rfl rfl rfl rfl) rfl ?_
            refine ao_nil ?_
            refine ap_in ?_
            exact ap_go (by kernel_rfl) (sub_mk (rn [(1, 2)]) (by exact ⟨⟨_, rfl, ad_ren rfl⟩, ⟨_, rfl, ad_ren rfl⟩, ⟨_, rfl, ad_ren rfl⟩, ⟨_, rfl, ad_ren rfl⟩, trivial⟩) (by exact ⟨⟨_, rfl, ⟨ad_ren rfl, rfl, ad_ren rfl, rfl, ad_ren rfl, rfl, trivial⟩⟩, ⟨_, rfl, ⟨ad_ren rfl, rfl, ad_ren rfl, rfl, ad_ren rfl, rfl, trivial⟩⟩, trivial⟩) (by rfl) (nk rfl)) k38
          · refine apo_ao rfl ?_
            refine ao_eff trivial (e_alloc 3 (y := .st [.str ByteArray.empty, .str ByteArray.empty, .int .i64 0]) Tryd.zeroValue42 (fun ρ h M => ra_zero_st (t := (.pair .str (.pair .str (.pair (.int .i64) .unit)))) rfl rfl rfl) rfl rfl rfl rfl rfl) rfl ?_
            refine ao_nil ?_
            refine ap_in ?_
            exact ap_go (by kernel_rfl) (sub_mk idn (by exact ⟨⟨_, rfl, ad_ren rfl⟩, ⟨_, rfl, ad_ren rfl⟩, ⟨_, rfl, ad_ren rfl⟩, ⟨_, rfl, ad_ren rfl⟩, ⟨_, rfl, ad_ren rfl⟩, trivial⟩) (by exact ⟨⟨_, rfl, ⟨ad_ren rfl, rfl, ad_ren rfl, rfl, ad_ren rfl, rfl, trivial⟩⟩, ⟨_, rfl, ⟨ad_ren rfl, rfl, ad_ren rfl, rfl, trivial⟩⟩, ⟨_, rfl, ⟨ad_ren rfl, rfl, ad_ren rfl, rfl, ad_ren rfl, rfl, trivial⟩⟩, ⟨_, rfl, ⟨ad_ren rfl, rfl, ad_ren rfl, rfl, ad_ren rfl, rfl, trivial⟩⟩, trivial⟩) (by rfl) (nk rfl)) k40
        exact ap_go (by kernel_rfl) (sub_mk idn (by exact ⟨⟨_, rfl, ad_ren rfl⟩, ⟨_, rfl, ad_ren rfl⟩, ⟨_, rfl, ad_ren rfl⟩, ⟨_, rfl, ad_ren rfl⟩, trivial⟩) (by exact ⟨⟨_, rfl, ⟨ad_ren rfl, rfl, ad_ren rfl, rfl, ad_ren rfl, rfl, trivial⟩⟩, ⟨_, rfl, ⟨ad_ren rfl, rfl, ad_ren rfl, rfl, trivial⟩⟩, ⟨_, rfl, ⟨ad_ren rfl, rfl, ad_ren rfl, rfl, ad_ren rfl, rfl, trivial⟩⟩, trivial⟩) (by rfl) (nk rfl)) k25
      refine ap_let (g := 2) (listed := #[true, true, true, true, true, true, true, true, true, false, false]) [(2, .ref 0 0), (3, .ref 1 0), (6, .ref 2 0), (26, .v (.pair .str (.pair .str (.pair (.int .i64) .unit))) r7.1), (27, .int .i64 r7.2)] [(0, .var [.cell (.str x0.1), .cell (.str x0.2.1), .cell (.int .i64 x0.2.2.1)]), (1, .var [.cell (.str x1.1), .cell (.str x1.2.1)]), (2, .var [.cell (.str ByteArray.empty), .cell (.str ByteArray.empty), .cell (.int .i64 0)])] ?_ (fun k14 => ?_)
      · refine ap_all [9] (by kernel_rfl) ⟨?_, trivial⟩
        refine apo_ao rfl ?_
        refine ao_effS trivial (e_store rfl rfl rfl rfl Tryd.sizeOf42 rfl) ?_
        refine ao_nil ?_
        refine ap_in ?_
        refine ap_pure 10 (by kernel_rfl) (fun _ _ _ h => h) rfl (by kernel_rfl) trivial (rp_assign rfl) rfl ?_
        exact ap_end (by kernel_rfl) (AQ.sub (sub_mk idn (by exact ⟨⟨_, rfl, ad_ren rfl⟩, ⟨_, rfl, ad_ren rfl⟩, ⟨_, rfl, ad_ren rfl⟩, ⟨_, rfl, ad_ren rfl⟩, trivial⟩) (by exact ⟨⟨_, rfl, ⟨ad_ren rfl, rfl, ad_ren rfl, rfl, ad_ren rfl, rfl, trivial⟩⟩, ⟨_, rfl, ⟨ad_ren rfl, rfl, ad_ren rfl, rfl, trivial⟩⟩, ⟨_, rfl, ⟨ad_ren rfl, rfl, ad_ren rfl, rfl, ad_ren rfl, rfl, trivial⟩⟩, trivial⟩) (by rfl) (nk rfl)) key)
      refine ap_let (g := 3) (listed := #[true, true, true, true, true, true, true, true, false, false, false]) [(2, .ref 0 0), (3, .ref 1 0), (26, .v (.pair .str (.pair .str (.pair (.int .i64) .unit))) r7.1), (27, .int .i64 r7.2)] [(0, .var [.cell (.str x0.1), .cell (.str x0.2.1), .cell (.int .i64 x0.2.2.1)]), (1, .var [.cell (.str x1.1), .cell (.str x1.2.1)])] ?_ (fun k13 => ?_)
      · refine ap_all [8] (by kernel_rfl) ⟨?_, trivial⟩
        refine apo_ao rfl ?_
        refine ao_eff trivial (e_alloc 2 (y := .st [.str ByteArray.empty, .str ByteArray.empty, .int .i64 0]) Tryd.zeroValue42 (fun ρ h M => ra_zero_st (t := (.pair .str (.pair .str (.pair (.int .i64) .unit)))) rfl rfl rfl) rfl rfl rfl rfl rfl) rfl ?_
        refine ao_nil ?_
        refine ap_in ?_
        exact ap_go (by kernel_rfl) (sub_mk idn (by exact ⟨⟨_, rfl, ad_ren rfl⟩, ⟨_, rfl, ad_ren rfl⟩, ⟨_, rfl, ad_ren rfl⟩, ⟨_, rfl, ad_ren rfl⟩, ⟨_, rfl, ad_ren rfl⟩, trivial⟩) (by exact ⟨⟨_, rfl, ⟨ad_ren rfl, rfl, ad_ren rfl, rfl, ad_ren rfl, rfl, trivial⟩⟩, ⟨_, rfl, ⟨ad_ren rfl, rfl, ad_ren rfl, rfl, trivial⟩⟩, ⟨_, rfl, ⟨ad_ren rfl, rfl, ad_ren rfl, rfl, ad_ren rfl, rfl, trivial⟩⟩, trivial⟩) (by rfl) (nk rfl)) k14
      refine ap_let (g := 6) (listed := #[true, true, true, true, false, false, false, false, true, false, false]) [(2, .ref 0 0), (3, .ref 1 0), (6, .ref 2 0), (22, .v (.pair .str (.pair .str (.pair (.int .i64) .unit))) ((p_laws_toLog (x0.1, (x0.2.1, (x0.2.2.1, ())))) : (ByteArray × (ByteArray × (Int × Unit))))), (24, .v (.pair .str (.pair .str .unit)) ((p_laws_toLogRecord (x1.1, (x1.2.1, ()))) : (ByteArray × (ByteArray × Unit))))] [(0, .var [.cell (.str x0.1), .cell (.str x0.2.1), .cell (.int .i64 x0.2.2.1)]), (1, .var [.cell (.str x1.1), .cell (.str x1.2.1)]), (2, .var [.cell (.str ByteArray.empty), .cell (.str ByteArray.empty), .cell (.int .i64 0)])] ?_ (fun k15 => ?_)
      · refine ap_all [4] (by kernel_rfl) ⟨?_, trivial⟩
        refine apo_ao rfl ?_
        refine ao_scall trivial (scall (c_spec_AppendRecord (is_mk r7h)) rfl Tryd.func37 rfl rfl rfl rfl (fun σ => ⟨ad_ren rfl, ad_ren rfl, trivial⟩)) rfl ?_
        refine ao_nil ?_
        refine ap_in ?_
        refine ap_pure 5 (by kernel_rfl) (fun _ _ _ h => h) rfl (by kernel_rfl) trivial (rp_move rfl) rfl ?_
        refine ap_pure 6 (by kernel_rfl) (fun _ _ _ h => h) rfl (by kernel_rfl) trivial (rp_extract rfl rfl) rfl ?_
        refine ap_pure 7 (by kernel_rfl) (fun _ _ _ h => h) rfl (by kernel_rfl) trivial (rp_extract rfl rfl) rfl ?_
        exact ap_go (by kernel_rfl) (sub_mk idn (by exact ⟨⟨_, rfl, ad_ren rfl⟩, ⟨_, rfl, ad_ren rfl⟩, ⟨_, rfl, ad_ren rfl⟩, ⟨_, rfl, ad_ren rfl⟩, ⟨_, rfl, ad_ren rfl⟩, trivial⟩) (by exact ⟨⟨_, rfl, ⟨ad_ren rfl, rfl, ad_ren rfl, rfl, ad_ren rfl, rfl, trivial⟩⟩, ⟨_, rfl, ⟨ad_ren rfl, rfl, ad_ren rfl, rfl, trivial⟩⟩, ⟨_, rfl, ⟨ad_ren rfl, rfl, ad_ren rfl, rfl, ad_ren rfl, rfl, trivial⟩⟩, trivial⟩) (by rfl) (nk rfl)) k14
      refine ap_let (g := 7) (listed := #[true, true, true, true, false, false, false, false, false, false, false]) [(2, .ref 0 0), (3, .ref 1 0), (22, .v (.pair .str (.pair .str (.pair (.int .i64) .unit))) ((p_laws_toLog (x0.1, (x0.2.1, (x0.2.2.1, ())))) : (ByteArray × (ByteArray × (Int × Unit))))), (24, .v (.pair .str (.pair .str .unit)) ((p_laws_toLogRecord (x1.1, (x1.2.1, ()))) : (ByteArray × (ByteArray × Unit))))] [(0, .var [.cell (.str x0.1), .cell (.str x0.2.1), .cell (.int .i64 x0.2.2.1)]), (1, .var [.cell (.str x1.1), .cell (.str x1.2.1)])] ?_ (fun k12 => ?_)
      · refine ap_all [4, 8] (by kernel_rfl) ⟨?_, ?_, trivial⟩
        · refine apo_ao rfl ?_
          refine ao_scall trivial (scall (c_spec_AppendRecord (is_mk r7h)) rfl Tryd.func37 rfl rfl rfl rfl (fun σ => ⟨ad_ren rfl, ad_ren rfl, trivial⟩)) rfl ?_
          refine ao_nil ?_
          refine ap_in ?_
          refine ap_pure 5 (by kernel_rfl) (fun _ _ _ h => h) rfl (by kernel_rfl) trivial (rp_move rfl) rfl ?_
          refine ap_pure 6 (by kernel_rfl) (fun _ _ _ h => h) rfl (by kernel_rfl) trivial (rp_extract rfl rfl) rfl ?_
          refine ap_pure 7 (by kernel_rfl) (fun _ _ _ h => h) rfl (by kernel_rfl) trivial (rp_extract rfl rfl) rfl ?_
          exact ap_go (by kernel_rfl) (sub_mk idn (by exact ⟨⟨_, rfl, ad_ren rfl⟩, ⟨_, rfl, ad_ren rfl⟩, ⟨_, rfl, ad_ren rfl⟩, ⟨_, rfl, ad_ren rfl⟩, trivial⟩) (by exact ⟨⟨_, rfl, ⟨ad_ren rfl, rfl, ad_ren rfl, rfl, ad_ren rfl, rfl, trivial⟩⟩, ⟨_, rfl, ⟨ad_ren rfl, rfl, ad_ren rfl, rfl, trivial⟩⟩, trivial⟩) (by rfl) (nk rfl)) k13
        · refine apo_ao rfl ?_
          refine ao_eff trivial (e_alloc 2 (y := .st [.str ByteArray.empty, .str ByteArray.empty, .int .i64 0]) Tryd.zeroValue42 (fun ρ h M => ra_zero_st (t := (.pair .str (.pair .str (.pair (.int .i64) .unit)))) rfl rfl rfl) rfl rfl rfl rfl rfl) rfl ?_
          refine ao_nil ?_
          refine ap_in ?_
          exact ap_go (by kernel_rfl) (sub_mk idn (by exact ⟨⟨_, rfl, ad_ren rfl⟩, ⟨_, rfl, ad_ren rfl⟩, ⟨_, rfl, ad_ren rfl⟩, ⟨_, rfl, ad_ren rfl⟩, ⟨_, rfl, ad_ren rfl⟩, trivial⟩) (by exact ⟨⟨_, rfl, ⟨ad_ren rfl, rfl, ad_ren rfl, rfl, ad_ren rfl, rfl, trivial⟩⟩, ⟨_, rfl, ⟨ad_ren rfl, rfl, ad_ren rfl, rfl, trivial⟩⟩, ⟨_, rfl, ⟨ad_ren rfl, rfl, ad_ren rfl, rfl, ad_ren rfl, rfl, trivial⟩⟩, trivial⟩) (by rfl) (nk rfl)) k15
      refine ap_let (g := 7) (listed := #[true, true, true, false, false, false, false, false, true, false, false]) [(2, .ref 0 0), (3, .ref 1 0), (6, .ref 2 0), (22, .v (.pair .str (.pair .str (.pair (.int .i64) .unit))) ((p_laws_toLog (x0.1, (x0.2.1, (x0.2.2.1, ())))) : (ByteArray × (ByteArray × (Int × Unit))))), (23, .v (.pair .str (.pair .str .unit)) ((x1.1, (x1.2.1, ())) : (ByteArray × (ByteArray × Unit))))] [(0, .var [.cell (.str x0.1), .cell (.str x0.2.1), .cell (.int .i64 x0.2.2.1)]), (1, .var [.cell (.str x1.1), .cell (.str x1.2.1)]), (2, .var [.cell (.str ByteArray.empty), .cell (.str ByteArray.empty), .cell (.int .i64 0)])] ?_ (fun k16 => ?_)
      · refine ap_all [3] (by kernel_rfl) ⟨?_, trivial⟩
        refine apo_ao rfl ?_
        refine ao_scall trivial (scall (c_laws_toLogRecord (is_mk (rfl : p_laws_toLogRecord (x1.1, (x1.2.1, ())) = _))) rfl Tryd.func24 rfl rfl rfl rfl (fun σ => ⟨ad_ren rfl, trivial⟩)) rfl ?_
        refine ao_nil ?_
        refine ap_in ?_
        exact ap_go (by kernel_rfl) (sub_mk idn (by exact ⟨⟨_, rfl, ad_ren rfl⟩, ⟨_, rfl, ad_ren rfl⟩, ⟨_, rfl, ad_ren rfl⟩, ⟨_, rfl, ad_ren rfl⟩, ⟨_, rfl, ad_ren rfl⟩, trivial⟩) (by exact ⟨⟨_, rfl, ⟨ad_ren rfl, rfl, ad_ren rfl, rfl, ad_ren rfl, rfl, trivial⟩⟩, ⟨_, rfl, ⟨ad_ren rfl, rfl, ad_ren rfl, rfl, trivial⟩⟩, ⟨_, rfl, ⟨ad_ren rfl, rfl, ad_ren rfl, rfl, ad_ren rfl, rfl, trivial⟩⟩, trivial⟩) (by rfl) (nk rfl)) k15
      refine ap_let (g := 8) (listed := #[true, true, true, false, false, false, false, false, false, false, false]) [(2, .ref 0 0), (3, .ref 1 0), (22, .v (.pair .str (.pair .str (.pair (.int .i64) .unit))) ((p_laws_toLog (x0.1, (x0.2.1, (x0.2.2.1, ())))) : (ByteArray × (ByteArray × (Int × Unit))))), (23, .v (.pair .str (.pair .str .unit)) ((x1.1, (x1.2.1, ())) : (ByteArray × (ByteArray × Unit))))] [(0, .var [.cell (.str x0.1), .cell (.str x0.2.1), .cell (.int .i64 x0.2.2.1)]), (1, .var [.cell (.str x1.1), .cell (.str x1.2.1)])] ?_ (fun k11 => ?_)
      · refine ap_all [3, 8] (by kernel_rfl) ⟨?_, ?_, trivial⟩
        · refine apo_ao rfl ?_
          refine ao_scall trivial (scall (c_laws_toLogRecord (is_mk (rfl : p_laws_toLogRecord (x1.1, (x1.2.1, ())) = _))) rfl Tryd.func24 rfl rfl rfl rfl (fun σ => ⟨ad_ren rfl, trivial⟩)) rfl ?_
          refine ao_nil ?_
          refine ap_in ?_
          exact ap_go (by kernel_rfl) (sub_mk idn (by exact ⟨⟨_, rfl, ad_ren rfl⟩, ⟨_, rfl, ad_ren rfl⟩, ⟨_, rfl, ad_ren rfl⟩, ⟨_, rfl, ad_ren rfl⟩, trivial⟩) (by exact ⟨⟨_, rfl, ⟨ad_ren rfl, rfl, ad_ren rfl, rfl, ad_ren rfl, rfl, trivial⟩⟩, ⟨_, rfl, ⟨ad_ren rfl, rfl, ad_ren rfl, rfl, trivial⟩⟩, trivial⟩) (by rfl) (nk rfl)) k12
        · refine apo_ao rfl ?_
          refine ao_eff trivial (e_alloc 2 (y := .st [.str ByteArray.empty, .str ByteArray.empty, .int .i64 0]) Tryd.zeroValue42 (fun ρ h M => ra_zero_st (t := (.pair .str (.pair .str (.pair (.int .i64) .unit)))) rfl rfl rfl) rfl rfl rfl rfl rfl) rfl ?_
          refine ao_nil ?_
          refine ap_in ?_
          exact ap_go (by kernel_rfl) (sub_mk idn (by exact ⟨⟨_, rfl, ad_ren rfl⟩, ⟨_, rfl, ad_ren rfl⟩, ⟨_, rfl, ad_ren rfl⟩, ⟨_, rfl, ad_ren rfl⟩, ⟨_, rfl, ad_ren rfl⟩, trivial⟩) (by exact ⟨⟨_, rfl, ⟨ad_ren rfl, rfl, ad_ren rfl, rfl, ad_ren rfl, rfl, trivial⟩⟩, ⟨_, rfl, ⟨ad_ren rfl, rfl, ad_ren rfl, rfl, trivial⟩⟩, ⟨_, rfl, ⟨ad_ren rfl, rfl, ad_ren rfl, rfl, ad_ren rfl, rfl, trivial⟩⟩, trivial⟩) (by rfl) (nk rfl)) k16
      refine ap_let (g := 8) (listed := #[true, true, false, false, false, false, false, false, true, false, false]) [(2, .ref 0 0), (3, .ref 1 0), (6, .ref 2 0), (22, .v (.pair .str (.pair .str (.pair (.int .i64) .unit))) ((p_laws_toLog (x0.1, (x0.2.1, (x0.2.2.1, ())))) : (ByteArray × (ByteArray × (Int × Unit)))))] [(0, .var [.cell (.str x0.1), .cell (.str x0.2.1), .cell (.int .i64 x0.2.2.1)]), (1, .var [.cell (.str x1.1), .cell (.str x1.2.1)]), (2, .var [.cell (.str ByteArray.empty), .cell (.str ByteArray.empty), .cell (.int .i64 0)])] ?_ (fun k17 => ?_)
      · refine ap_all [2] (by kernel_rfl) ⟨?_, trivial⟩
        refine apo_ao rfl ?_
        refine ao_read trivial (r_load_part (τ := (.pair .str (.pair .str .unit))) (y := ((x1.1, (x1.2.1, ())) : (ByteArray × (ByteArray × Unit)))) [] [] rfl Tryd.isAgg35 Tryd.sizeOf35 rfl rfl rfl rfl) rfl ?_
        refine ao_nil ?_
        refine ap_in ?_
        exact ap_go (by kernel_rfl) (sub_mk idn (by exact ⟨⟨_, rfl, ad_ren rfl⟩, ⟨_, rfl, ad_ren rfl⟩, ⟨_, rfl, ad_ren rfl⟩, ⟨_, rfl, ad_ren rfl⟩, ⟨_, rfl, ad_ren rfl⟩, trivial⟩) (by exact ⟨⟨_, rfl, ⟨ad_ren rfl, rfl, ad_ren rfl, rfl, ad_ren rfl, rfl, trivial⟩⟩, ⟨_, rfl, ⟨ad_ren rfl, rfl, ad_ren rfl, rfl, trivial⟩⟩, ⟨_, rfl, ⟨ad_ren rfl, rfl, ad_ren rfl, rfl, ad_ren rfl, rfl, trivial⟩⟩, trivial⟩) (by rfl) (nk rfl)) k16
      refine ap_let (g := 8) (listed := #[true, false, true, false, false, false, false, false, true, false, false]) [(2, .ref 0 0), (3, .ref 1 0), (6, .ref 2 0), (21, .v (.pair .str (.pair .str (.pair (.int .i64) .unit))) ((x0.1, (x0.2.1, (x0.2.2.1, ()))) : (ByteArray × (ByteArray × (Int × Unit))))), (23, .v (.pair .str (.pair .str .unit)) ((x1.1, (x1.2.1, ())) : (ByteArray × (ByteArray × Unit))))] [(0, .var [.cell (.str x0.1), .cell (.str x0.2.1), .cell (.int .i64 x0.2.2.1)]), (1, .var [.cell (.str x1.1), .cell (.str x1.2.1)]), (2, .var [.cell (.str ByteArray.empty), .cell (.str ByteArray.empty), .cell (.int .i64 0)])] ?_ (fun k19 => ?_)
      · refine ap_all [1] (by kernel_rfl) ⟨?_, trivial⟩
        refine apo_ao rfl ?_
        refine ao_scall trivial (scall (c_laws_toLog (is_mk (rfl : p_laws_toLog (x0.1, (x0.2.1, (x0.2.2.1, ()))) = _))) rfl Tryd.func31 rfl rfl rfl rfl (fun σ => ⟨ad_ren rfl, trivial⟩)) rfl ?_
        refine ao_nil ?_
        refine ap_in ?_
        exact ap_go (by kernel_rfl) (sub_mk idn (by exact ⟨⟨_, rfl, ad_ren rfl⟩, ⟨_, rfl, ad_ren rfl⟩, ⟨_, rfl, ad_ren rfl⟩, ⟨_, rfl, ad_ren rfl⟩, ⟨_, rfl, ad_ren rfl⟩, trivial⟩) (by exact ⟨⟨_, rfl, ⟨ad_ren rfl, rfl, ad_ren rfl, rfl, ad_ren rfl, rfl, trivial⟩⟩, ⟨_, rfl, ⟨ad_ren rfl, rfl, ad_ren rfl, rfl, trivial⟩⟩, ⟨_, rfl, ⟨ad_ren rfl, rfl, ad_ren rfl, rfl, ad_ren rfl, rfl, trivial⟩⟩, trivial⟩) (by rfl) (nk rfl)) k16
      refine ap_let (g := 9) (listed := #[true, true, false, false, false, false, false, false, false, false, false]) [(2, .ref 0 0), (3, .ref 1 0), (22, .v (.pair .str (.pair .str (.pair (.int .i64) .unit))) ((p_laws_toLog (x0.1, (x0.2.1, (x0.2.2.1, ())))) : (ByteArray × (ByteArray × (Int × Unit)))))] [(0, .var [.cell (.str x0.1), .cell (.str x0.2.1), .cell (.int .i64 x0.2.2.1)]), (1, .var [.cell (.str x1.1), .cell (.str x1.2.1)])] ?_ (fun k10 => ?_)
      · refine ap_all [2, 8] (by kernel_rfl) ⟨?_, ?_, trivial⟩
        · refine apo_ao rfl ?_
          refine ao_read trivial (r_load_part (τ := (.pair .str (.pair .str .unit))) (y := ((x1.1, (x1.2.1, ())) : (ByteArray × (ByteArray × Unit)))) [] [] rfl Tryd.isAgg35 Tryd.sizeOf35 rfl rfl rfl rfl) rfl ?_
          refine ao_nil ?_
          refine ap_in ?_
          exact ap_go (by kernel_rfl) (sub_mk idn (by exact ⟨⟨_, rfl, ad_ren rfl⟩, ⟨_, rfl, ad_ren rfl⟩, ⟨_, rfl, ad_ren rfl⟩, ⟨_, rfl, ad_ren rfl⟩, trivial⟩) (by exact ⟨⟨_, rfl, ⟨ad_ren rfl, rfl, ad_ren rfl, rfl, ad_ren rfl, rfl, trivial⟩⟩, ⟨_, rfl, ⟨ad_ren rfl, rfl, ad_ren rfl, rfl, trivial⟩⟩, trivial⟩) (by rfl) (nk rfl)) k11
        · refine apo_ao rfl ?_
          refine ao_eff trivial (e_alloc 2 (y := .st [.str ByteArray.empty, .str ByteArray.empty, .int .i64 0]) Tryd.zeroValue42 (fun ρ h M => ra_zero_st (t := (.pair .str (.pair .str (.pair (.int .i64) .unit)))) rfl rfl rfl) rfl rfl rfl rfl rfl) rfl ?_
          refine ao_nil ?_
          refine ap_in ?_
          exact ap_go (by kernel_rfl) (sub_mk idn (by exact ⟨⟨_, rfl, ad_ren rfl⟩, ⟨_, rfl, ad_ren rfl⟩, ⟨_, rfl, ad_ren rfl⟩, ⟨_, rfl, ad_ren rfl⟩, trivial⟩) (by exact ⟨⟨_, rfl, ⟨ad_ren rfl, rfl, ad_ren rfl, rfl, ad_ren rfl, rfl, trivial⟩⟩, ⟨_, rfl, ⟨ad_ren rfl, rfl, ad_ren rfl, rfl, trivial⟩⟩, ⟨_, rfl, ⟨ad_ren rfl, rfl, ad_ren rfl, rfl, ad_ren rfl, rfl, trivial⟩⟩, trivial⟩) (by rfl) (nk rfl)) k17
      refine ap_let (g := 9) (listed := #[true, false, true, false, false, false, false, false, false, false, false]) [(2, .ref 0 0), (3, .ref 1 0), (21, .v (.pair .str (.pair .str (.pair (.int .i64) .unit))) ((x0.1, (x0.2.1, (x0.2.2.1, ()))) : (ByteArray × (ByteArray × (Int × Unit))))), (23, .v (.pair .str (.pair .str .unit)) ((x1.1, (x1.2.1, ())) : (ByteArray × (ByteArray × Unit))))] [(0, .var [.cell (.str x0.1), .cell (.str x0.2.1), .cell (.int .i64 x0.2.2.1)]), (1, .var [.cell (.str x1.1), .cell (.str x1.2.1)])] ?_ (fun k18 => ?_)
      · refine ap_all [1, 8] (by kernel_rfl) ⟨?_, ?_, trivial⟩
        · refine apo_ao rfl ?_
          refine ao_scall trivial (scall (c_laws_toLog (is_mk (rfl : p_laws_toLog (x0.1, (x0.2.1, (x0.2.2.1, ()))) = _))) rfl Tryd.func31 rfl rfl rfl rfl (fun σ => ⟨ad_ren rfl, trivial⟩)) rfl ?_
          refine ao_nil ?_
          refine ap_in ?_
          exact ap_go (by kernel_rfl) (sub_mk idn (by exact ⟨⟨_, rfl, ad_ren rfl⟩, ⟨_, rfl, ad_ren rfl⟩, ⟨_, rfl, ad_ren rfl⟩, ⟨_, rfl, ad_ren rfl⟩, trivial⟩) (by exact ⟨⟨_, rfl, ⟨ad_ren rfl, rfl, ad_ren rfl, rfl, ad_ren rfl, rfl, trivial⟩⟩, ⟨_, rfl, ⟨ad_ren rfl, rfl, ad_ren rfl, rfl, trivial⟩⟩, trivial⟩) (by rfl) (nk rfl)) k11
        · refine apo_ao rfl ?_
          refine ao_eff trivial (e_alloc 2 (y := .st [.str ByteArray.empty, .str ByteArray.empty, .int .i64 0]) Tryd.zeroValue42 (fun ρ h M => ra_zero_st (t := (.pair .str (.pair .str (.pair (.int .i64) .unit)))) rfl rfl rfl) rfl rfl rfl rfl rfl) rfl ?_
          refine ao_nil ?_
          refine ap_in ?_
          exact ap_go (by kernel_rfl) (sub_mk idn (by exact ⟨⟨_, rfl, ad_ren rfl⟩, ⟨_, rfl, ad_ren rfl⟩, ⟨_, rfl, ad_ren rfl⟩, ⟨_, rfl, ad_ren rfl⟩, ⟨_, rfl, ad_ren rfl⟩, trivial⟩) (by exact ⟨⟨_, rfl, ⟨ad_ren rfl, rfl, ad_ren rfl, rfl, ad_ren rfl, rfl, trivial⟩⟩, ⟨_, rfl, ⟨ad_ren rfl, rfl, ad_ren rfl, rfl, trivial⟩⟩, ⟨_, rfl, ⟨ad_ren rfl, rfl, ad_ren rfl, rfl, ad_ren rfl, rfl, trivial⟩⟩, trivial⟩) (by rfl) (nk rfl)) k19
      refine ap_let (g := 9) (listed := #[true, false, false, false, false, false, false, false, true, false, false]) [(2, .ref 0 0), (3, .ref 1 0), (6, .ref 2 0), (21, .v (.pair .str (.pair .str (.pair (.int .i64) .unit))) ((x0.1, (x0.2.1, (x0.2.2.1, ()))) : (ByteArray × (ByteArray × (Int × Unit)))))] [(0, .var [.cell (.str x0.1), .cell (.str x0.2.1), .cell (.int .i64 x0.2.2.1)]), (1, .var [.cell (.str x1.1), .cell (.str x1.2.1)]), (2, .var [.cell (.str ByteArray.empty), .cell (.str ByteArray.empty), .cell (.int .i64 0)])] ?_ (fun k20 => ?_)
      · refine ap_all [1, 2] (by kernel_rfl) ⟨?_, ?_, trivial⟩
        · refine apo_ao rfl ?_
          refine ao_scall trivial (scall (c_laws_toLog (is_mk (rfl : p_laws_toLog (x0.1, (x0.2.1, (x0.2.2.1, ()))) = _))) rfl Tryd.func31 rfl rfl rfl rfl (fun σ => ⟨ad_ren rfl, trivial⟩)) rfl ?_
          refine ao_nil ?_
          refine ap_in ?_
          exact ap_go (by kernel_rfl) (sub_mk idn (by exact ⟨⟨_, rfl, ad_ren rfl⟩, ⟨_, rfl, ad_ren rfl⟩, ⟨_, rfl, ad_ren rfl⟩, ⟨_, rfl, ad_ren rfl⟩, trivial⟩) (by exact ⟨⟨_, rfl, ⟨ad_ren rfl, rfl, ad_ren rfl, rfl, ad_ren rfl, rfl, trivial⟩⟩, ⟨_, rfl, ⟨ad_ren rfl, rfl, ad_ren rfl, rfl, trivial⟩⟩, ⟨_, rfl, ⟨ad_ren rfl, rfl, ad_ren rfl, rfl, ad_ren rfl, rfl, trivial⟩⟩, trivial⟩) (by rfl) (nk rfl)) k17
        · refine apo_ao rfl ?_
          refine ao_read trivial (r_load_part (τ := (.pair .str (.pair .str .unit))) (y := ((x1.1, (x1.2.1, ())) : (ByteArray × (ByteArray × Unit)))) [] [] rfl Tryd.isAgg35 Tryd.sizeOf35 rfl rfl rfl rfl) rfl ?_
          refine ao_nil ?_
          refine ap_in ?_
          exact ap_go (by kernel_rfl) (sub_mk idn (by exact ⟨⟨_, rfl, ad_ren rfl⟩, ⟨_, rfl, ad_ren rfl⟩, ⟨_, rfl, ad_ren rfl⟩, ⟨_, rfl, ad_ren rfl⟩, ⟨_, rfl, ad_ren rfl⟩, trivial⟩) (by exact ⟨⟨_, rfl, ⟨ad_ren rfl, rfl, ad_ren rfl, rfl, ad_ren rfl, rfl, trivial⟩⟩, ⟨_, rfl, ⟨ad_ren rfl, rfl, ad_ren rfl, rfl, trivial⟩⟩, ⟨_, rfl, ⟨ad_ren rfl, rfl, ad_ren rfl, rfl, ad_ren rfl, rfl, trivial⟩⟩, trivial⟩) (by rfl) (nk rfl)) k19
      refine ap_let (g := 9) (listed := #[false, false, true, false, false, false, false, false, true, false, false]) [(2, .ref 0 0), (3, .ref 1 0), (6, .ref 2 0), (23, .v (.pair .str (.pair .str .unit)) ((x1.1, (x1.2.1, ())) : (ByteArray × (ByteArray × Unit))))] [(0, .var [.cell (.str x0.1), .cell (.str x0.2.1), .cell (.int .i64 x0.2.2.1)]), (1, .var [.cell (.str x1.1), .cell (.str x1.2.1)]), (2, .var [.cell (.str ByteArray.empty), .cell (.str ByteArray.empty), .cell (.int .i64 0)])] ?_ (fun k22 => ?_)
      · refine ap_all [0] (by kernel_rfl) ⟨?_, trivial⟩
        refine apo_ao rfl ?_
        refine ao_read trivial (r_load_part (τ := (.pair .str (.pair .str (.pair (.int .i64) .unit)))) (y := ((x0.1, (x0.2.1, (x0.2.2.1, ()))) : (ByteArray × (ByteArray × (Int × Unit))))) [] [] rfl Tryd.isAgg47 Tryd.sizeOf47 rfl rfl rfl rfl) rfl ?_
        refine ao_nil ?_
        refine ap_in ?_
        exact ap_go (by kernel_rfl) (sub_mk idn (by exact ⟨⟨_, rfl, ad_ren rfl⟩, ⟨_, rfl, ad_ren rfl⟩, ⟨_, rfl, ad_ren rfl⟩, ⟨_, rfl, ad_ren rfl⟩, ⟨_, rfl, ad_ren rfl⟩, trivial⟩) (by exact ⟨⟨_, rfl, ⟨ad_ren rfl, rfl, ad_ren rfl, rfl, ad_ren rfl, rfl, trivial⟩⟩, ⟨_, rfl, ⟨ad_ren rfl, rfl, ad_ren rfl, rfl, trivial⟩⟩, ⟨_, rfl, ⟨ad_ren rfl, rfl, ad_ren rfl, rfl, ad_ren rfl, rfl, trivial⟩⟩, trivial⟩) (by rfl) (nk rfl)) k19
      refine ap_let (g := 10) (listed := #[true, false, false, false, false, false, false, false, false, false, false]) [(2, .ref 0 0), (3, .ref 1 0), (21, .v (.pair .str (.pair .str (.pair (.int .i64) .unit))) ((x0.1, (x0.2.1, (x0.2.2.1, ()))) : (ByteArray × (ByteArray × (Int × Unit)))))] [(0, .var [.cell (.str x0.1), .cell (.str x0.2.1), .cell (.int .i64 x0.2.2.1)]), (1, .var [.cell (.str x1.1), .cell (.str x1.2.1)])] ?_ (fun k9 => ?_)
      · refine ap_all [1, 2, 8] (by kernel_rfl) ⟨?_, ?_, ?_, trivial⟩
        · refine apo_ao rfl ?_
          refine ao_scall trivial (scall (c_laws_toLog (is_mk (rfl : p_laws_toLog (x0.1, (x0.2.1, (x0.2.2.1, ()))) = _))) rfl Tryd.func31 rfl rfl rfl rfl (fun σ => ⟨ad_ren rfl, trivial⟩)) rfl ?_
          refine ao_nil ?_
          refine ap_in ?_
          exact ap_go (by kernel_rfl) (sub_mk idn (by exact ⟨⟨_, rfl, ad_ren rfl⟩, ⟨_, rfl, ad_ren rfl⟩, ⟨_, rfl, ad_ren rfl⟩, trivial⟩) (by exact ⟨⟨_, rfl, ⟨ad_ren rfl, rfl, ad_ren rfl, rfl, ad_ren rfl, rfl, trivial⟩⟩, ⟨_, rfl, ⟨ad_ren rfl, rfl, ad_ren rfl, rfl, trivial⟩⟩, trivial⟩) (by rfl) (nk rfl)) k10
        · refine apo_ao rfl ?_
          refine ao_read trivial (r_load_part (τ := (.pair .str (.pair .str .unit))) (y := ((x1.1, (x1.2.1, ())) : (ByteArray × (ByteArray × Unit)))) [] [] rfl Tryd.isAgg35 Tryd.sizeOf35 rfl rfl rfl rfl) rfl ?_
          refine ao_nil ?_
          refine ap_in ?_
          exact ap_go (by kernel_rfl) (sub_mk idn (by exact ⟨⟨_, rfl, ad_ren rfl⟩, ⟨_, rfl, ad_ren rfl⟩, ⟨_, rfl, ad_ren rfl⟩, ⟨_, rfl, ad_ren rfl⟩, trivial⟩) (by exact ⟨⟨_, rfl, ⟨ad_ren rfl, rfl, ad_ren rfl, rfl, ad_ren rfl, rfl, trivial⟩⟩, ⟨_, rfl, ⟨ad_ren rfl, rfl, ad_ren rfl, rfl, trivial⟩⟩, trivial⟩) (by rfl) (nk rfl)) k18
        · refine apo_ao rfl ?_
          refine ao_eff trivial (e_alloc 2 (y := .st [.str ByteArray.empty, .str ByteArray.empty, .int .i64 0]) Tryd.zeroValue42 (fun ρ h M => ra_zero_st (t := (.pair .str (.pair .str (.pair (.int .i64) .unit)))) rfl rfl rfl) rfl rfl rfl rfl rfl) rfl ?_
          refine ao_nil ?_
          refine ap_in ?_
          exact ap_go (by kernel_rfl) (sub_mk idn (by exact ⟨⟨_, rfl, ad_ren rfl⟩, ⟨_, rfl, ad_ren rfl⟩, ⟨_, rfl, ad_ren rfl⟩, ⟨_, rfl, ad_ren rfl⟩, trivial⟩) (by exact ⟨⟨_, rfl, ⟨ad_ren rfl, rfl, ad_ren rfl, rfl, ad_ren rfl, rfl, trivial⟩⟩, ⟨_, rfl, ⟨ad_ren rfl, rfl, ad_ren rfl, rfl, trivial⟩⟩, ⟨_, rfl, ⟨ad_ren rfl, rfl, ad_ren rfl, rfl, ad_ren rfl, rfl, trivial⟩⟩, trivial⟩) (by rfl) (nk rfl)) k20
      refine ap_let (g := 10) (listed := #[false, false, true, false, false, false, false, false, false, false, false]) [(2, .ref 0 0), (3, .ref 1 0), (23, .v (.pair .str (.pair .str .unit)) ((x1.1, (x1.2.1, ())) : (ByteArray × (ByteArray × Unit))))] [(0, .var [.cell (.str x0.1), .cell (.str x0.2.1), .cell (.int .i64 x0.2.2.1)]), (1, .var [.cell (.str x1.1), .cell (.str x1.2.1)])] ?_ (fun k21 => ?_)
      · refine ap_all [0, 8] (by kernel_rfl) ⟨?_, ?_, trivial⟩
        · refine apo_ao rfl ?_
          refine ao_read trivial (r_load_part (τ := (.pair .str (.pair .str (.pair (.int .i64) .unit)))) (y := ((x0.1, (x0.2.1, (x0.2.2.1, ()))) : (ByteArray × (ByteArray × (Int × Unit))))) [] [] rfl Tryd.isAgg47 Tryd.sizeOf47 rfl rfl rfl rfl) rfl ?_
          refine ao_nil ?_
          refine ap_in ?_
          exact ap_go (by kernel_rfl) (sub_mk idn (by exact ⟨⟨_, rfl, ad_ren rfl⟩, ⟨_, rfl, ad_ren rfl⟩, ⟨_, rfl, ad_ren rfl⟩, ⟨_, rfl, ad_ren rfl⟩, trivial⟩) (by exact ⟨⟨_, rfl, ⟨ad_ren rfl, rfl, ad_ren rfl, rfl, ad_ren rfl, rfl, trivial⟩⟩, ⟨_, rfl, ⟨ad_ren rfl, rfl, ad_ren rfl, rfl, trivial⟩⟩, trivial⟩) (by rfl) (nk rfl)) k18
        · refine apo_ao rfl ?_
          refine ao_eff trivial (e_alloc 2 (y := .st [.str ByteArray.empty, .str ByteArray.empty, .int .i64 0]) Tryd.zeroValue42 (fun ρ h M => ra_zero_st (t := (.pair .str (.pair .str (.pair (.int .i64) .unit)))) rfl rfl rfl) rfl rfl rfl rfl rfl) rfl ?_
          refine ao_nil ?_
          refine ap_in ?_
          exact ap_go (by kernel_rfl) (sub_mk idn (by exact ⟨⟨_, rfl, ad_ren rfl⟩, ⟨_, rfl, ad_ren rfl⟩, ⟨_, rfl, ad_ren rfl⟩, ⟨_, rfl, ad_ren rfl⟩, trivial⟩) (by exact ⟨⟨_, rfl, ⟨ad_ren rfl, rfl, ad_ren rfl, rfl, ad_ren rfl, rfl, trivial⟩⟩, ⟨_, rfl, ⟨ad_ren rfl, rfl, ad_ren rfl, rfl, trivial⟩⟩, ⟨_, rfl, ⟨ad_ren rfl, rfl, ad_ren rfl, rfl, ad_ren rfl, rfl, trivial⟩⟩, trivial⟩) (by rfl) (nk rfl)) k22
      refine ap_let (g := 10) (listed := #[false, false, false, false, false, false, false, false, true, false, false]) [(2, .ref 0 0), (3, .ref 1 0), (6, .ref 2 0)] [(0, .var [.cell (.str x0.1), .cell (.str x0.2.1), .cell (.int .i64 x0.2.2.1)]), (1, .var [.cell (.str x1.1), .cell (.str x1.2.1)]), (2, .var [.cell (.str ByteArray.empty), .cell (.str ByteArray.empty), .cell (.int .i64 0)])] ?_ (fun k23 => ?_)
      · refine ap_all [0, 2] (by kernel_rfl) ⟨?_, ?_, trivial⟩
        · refine apo_ao rfl ?_
          refine ao_read trivial (r_load_part (τ := (.pair .str (.pair .str (.pair (.int .i64) .unit)))) (y := ((x0.1, (x0.2.1, (x0.2.2.1, ()))) : (ByteArray × (ByteArray × (Int × Unit))))) [] [] rfl Tryd.isAgg47 Tryd.sizeOf47 rfl rfl rfl rfl) rfl ?_
          refine ao_nil ?_
          refine ap_in ?_
          exact ap_go (by kernel_rfl) (sub_mk idn (by exact ⟨⟨_, rfl, ad_ren rfl⟩, ⟨_, rfl, ad_ren rfl⟩, ⟨_, rfl, ad_ren rfl⟩, ⟨_, rfl, ad_ren rfl⟩, trivial⟩) (by exact ⟨⟨_, rfl, ⟨ad_ren rfl, rfl, ad_ren rfl, rfl, ad_ren rfl, rfl, trivial⟩⟩, ⟨_, rfl, ⟨ad_ren rfl, rfl, ad_ren rfl, rfl, trivial⟩⟩, ⟨_, rfl, ⟨ad_ren rfl, rfl, ad_ren rfl, rfl, ad_ren rfl, rfl, trivial⟩⟩, trivial⟩) (by rfl) (nk rfl)) k20
        · refine apo_ao rfl ?_
          refine ao_read trivial (r_load_part (τ := (.pair .str (.pair .str .unit))) (y := ((x1.1, (x1.2.1, ())) : (ByteArray × (ByteArray × Unit)))) [] [] rfl Tryd.isAgg35 Tryd.sizeOf35 rfl rfl rfl rfl) rfl ?_
          refine ao_nil ?_
          refine ap_in ?_
          exact ap_go (by kernel_rfl) (sub_mk idn (by exact ⟨⟨_, rfl, ad_ren rfl⟩, ⟨_, rfl, ad_ren rfl⟩, ⟨_, rfl, ad_ren rfl⟩, ⟨_, rfl, ad_ren rfl⟩, trivial⟩) (by exact ⟨⟨_, rfl, ⟨ad_ren rfl, rfl, ad_ren rfl, rfl, ad_ren rfl, rfl, trivial⟩⟩, ⟨_, rfl, ⟨ad_ren rfl, rfl, ad_ren rfl, rfl, trivial⟩⟩, ⟨_, rfl, ⟨ad_ren rfl, rfl, ad_ren rfl, rfl, ad_ren rfl, rfl, trivial⟩⟩, trivial⟩) (by rfl) (nk rfl)) k22
      refine ap_let (g := 11) (listed := #[false, false, false, false, false, false, false, false, false, false, false]) [(2, .ref 0 0), (3, .ref 1 0)] [(0, .var [.cell (.str x0.1), .cell (.str x0.2.1), .cell (.int .i64 x0.2.2.1)]), (1, .var [.cell (.str x1.1), .cell (.str x1.2.1)])] ?_ (fun k8 => ?_)
      · refine ap_all [0, 2, 8] (by kernel_rfl) ⟨?_, ?_, ?_, trivial⟩
        · refine apo_ao rfl ?_
          refine ao_read trivial (r_load_part (τ := (.pair .str (.pair .str (.pair (.int .i64) .unit)))) (y := ((x0.1, (x0.2.1, (x0.2.2.1, ()))) : (ByteArray × (ByteArray × (Int × Unit))))) [] [] rfl Tryd.isAgg47 Tryd.sizeOf47 rfl rfl rfl rfl) rfl ?_
          refine ao_nil ?_
          refine ap_in ?_
          exact ap_go (by kernel_rfl) (sub_mk idn (by exact ⟨⟨_, rfl, ad_ren rfl⟩, ⟨_, rfl, ad_ren rfl⟩, ⟨_, rfl, ad_ren rfl⟩, trivial⟩) (by exact ⟨⟨_, rfl, ⟨ad_ren rfl, rfl, ad_ren rfl, rfl, ad_ren rfl, rfl, trivial⟩⟩, ⟨_, rfl, ⟨ad_ren rfl, rfl, ad_ren rfl, rfl, trivial⟩⟩, trivial⟩) (by rfl) (nk rfl)) k9
        · refine apo_ao rfl ?_
          refine ao_read trivial (r_load_part (τ := (.pair .str (.pair .str .unit))) (y := ((x1.1, (x1.2.1, ())) : (ByteArray × (ByteArray × Unit)))) [] [] rfl Tryd.isAgg35 Tryd.sizeOf35 rfl rfl rfl rfl) rfl ?_
          refine ao_nil ?_
          refine ap_in ?_
          exact ap_go (by kernel_rfl) (sub_mk idn (by exact ⟨⟨_, rfl, ad_ren rfl⟩, ⟨_, rfl, ad_ren rfl⟩, ⟨_, rfl, ad_ren rfl⟩, trivial⟩) (by exact ⟨⟨_, rfl, ⟨ad_ren rfl, rfl, ad_ren rfl, rfl, ad_ren rfl, rfl, trivial⟩⟩, ⟨_, rfl, ⟨ad_ren rfl, rfl, ad_ren rfl, rfl, trivial⟩⟩, trivial⟩) (by rfl) (nk rfl)) k21
        · refine apo_ao rfl ?_
          refine ao_eff trivial (e_alloc 2 (y := .st [.str ByteArray.empty, .str ByteArray.empty, .int .i64 0]) Tryd.zeroValue42 (fun ρ h M => ra_zero_st (t := (.pair .str (.pair .str (.pair (.int .i64) .unit)))) rfl rfl rfl) rfl rfl rfl rfl rfl) rfl ?_
          refine ao_nil ?_
          refine ap_in ?_
          exact ap_go (by kernel_rfl) (sub_mk idn (by exact ⟨⟨_, rfl, ad_ren rfl⟩, ⟨_, rfl, ad_ren rfl⟩, ⟨_, rfl, ad_ren rfl⟩, trivial⟩) (by exact ⟨⟨_, rfl, ⟨ad_ren rfl, rfl, ad_ren rfl, rfl, ad_ren rfl, rfl, trivial⟩⟩, ⟨_, rfl, ⟨ad_ren rfl, rfl, ad_ren rfl, rfl, trivial⟩⟩, ⟨_, rfl, ⟨ad_ren rfl, rfl, ad_ren rfl, rfl, ad_ren rfl, rfl, trivial⟩⟩, trivial⟩) (by rfl) (nk rfl)) k23
      exact ap_go (by kernel_rfl) (sub_mk idn (by exact ⟨⟨_, rfl, ad_ren rfl⟩, ⟨_, rfl, ad_ren rfl⟩, trivial⟩) (by exact ⟨⟨_, rfl, ⟨ad_ren rfl, rfl, ad_ren rfl, rfl, ad_ren rfl, rfl, trivial⟩⟩, ⟨_, rfl, ⟨ad_ren rfl, rfl, ad_ren rfl, rfl, trivial⟩⟩, trivial⟩) (by rfl) (nk rfl)) k8
end Go.GA
