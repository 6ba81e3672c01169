/- Walks: what the Go functions compute, by the printed lines below; no further conditions. -/
import Derived.Test.YtcminfahdindnaaGreatDoorC15wb
namespace Go.GA
open Go Go.Proofs
set_option maxRecDepth 100000
set_option maxHeartbeats 2000000
set_option linter.unusedVariables false
set_option linter.unusedSimpArgs false
theorem c_laws_eqConsole {x0 : (((List (List Int)) × (Int × ((List Int) × (Int × (Int × (Int × Unit)))))) × ((ByteArray × (ByteArray × (Int × Unit))) × Unit))} {x1 : (((List (List Int)) × (Int × ((List Int) × (Int × (Int × (Int × Unit)))))) × ((ByteArray × (ByteArray × (Int × Unit))) × Unit))} {r : Bool} (h : Is (p_laws_eqConsole x0 x1) r) :
    Scalar Tryz.prog 8 [.v (.pair (.pair (.slice (.arr 6 (.int .i64))) (.pair (.int .i64) (.pair (.slice (.int .i64)) (.pair (.int .i64) (.pair (.int .i64) (.pair (.int .i64) .unit)))))) (.pair (.pair .str (.pair .str (.pair (.int .i64) .unit))) .unit)) x0, .v (.pair (.pair (.slice (.arr 6 (.int .i64))) (.pair (.int .i64) (.pair (.slice (.int .i64)) (.pair (.int .i64) (.pair (.int .i64) (.pair (.int .i64) .unit)))))) (.pair (.pair .str (.pair .str (.pair (.int .i64) .unit))) .unit)) x1] (.bool r) := by
  unfold p_laws_eqConsole at h
  refine ac_enter ⟨17, 0⟩ Tryz.func8 rfl rfl rfl rfl rfl (fun Γ => ?_)
  refine aw_seq ?_
  refine aw_region ?_
  refine ao_eff trivial (e_box 0 rfl rfl rfl rfl rfl rfl) rfl ?_
  refine ao_eff trivial (e_box 1 rfl rfl rfl rfl rfl rfl) rfl ?_
  refine ao_read trivial (r_assign rfl) rfl ?_
  refine ao_nil ?_
  refine aq_then ?_
  refine aw_seq ?_
  refine aw_seq ?_
  refine aw_region ?_
  refine ao_read trivial (r_fieldAddr Tryz.underlying35 rfl Tryz.sizeOf32 rfl rfl rfl) rfl ?_
  refine ao_read trivial (r_load_part (τ := (.pair (.slice (.arr 6 (.int .i64))) (.pair (.int .i64) (.pair (.slice (.int .i64)) (.pair (.int .i64) (.pair (.int .i64) (.pair (.int .i64) .unit))))))) (y := ((x0.1.1, (x0.1.2.1, (x0.1.2.2.1, (x0.1.2.2.2.1, (x0.1.2.2.2.2.1, (x0.1.2.2.2.2.2.1, ())))))) : ((List (List Int)) × (Int × ((List Int) × (Int × (Int × (Int × Unit)))))))) [] [.cell (.str x0.2.1.1), .cell (.str x0.2.1.2.1), .cell (.int .i64 x0.2.1.2.2.1)] rfl Tryz.isAgg32 Tryz.sizeOf32 rfl rfl rfl rfl) rfl ?_
  refine ao_read trivial (r_fieldAddr Tryz.underlying35 rfl Tryz.sizeOf32 rfl rfl rfl) rfl ?_
  refine ao_read trivial (r_load_part (τ := (.pair (.slice (.arr 6 (.int .i64))) (.pair (.int .i64) (.pair (.slice (.int .i64)) (.pair (.int .i64) (.pair (.int .i64) (.pair (.int .i64) .unit))))))) (y := ((x1.1.1, (x1.1.2.1, (x1.1.2.2.1, (x1.1.2.2.2.1, (x1.1.2.2.2.2.1, (x1.1.2.2.2.2.2.1, ())))))) : ((List (List Int)) × (Int × ((List Int) × (Int × (Int × (Int × Unit)))))))) [] [.cell (.str x1.2.1.1), .cell (.str x1.2.1.2.1), .cell (.int .i64 x1.2.1.2.2.1)] rfl Tryz.isAgg32 Tryz.sizeOf32 rfl rfl rfl rfl) rfl ?_
  refine ao_scall trivial (scall (c_laws_eqTavern (is_mk (rfl : p_laws_eqTavern (x0.1.1, (x0.1.2.1, (x0.1.2.2.1, (x0.1.2.2.2.1, (x0.1.2.2.2.2.1, (x0.1.2.2.2.2.2.1, ())))))) (x1.1.1, (x1.1.2.1, (x1.1.2.2.1, (x1.1.2.2.2.1, (x1.1.2.2.2.2.1, (x1.1.2.2.2.2.2.1, ())))))) = _))) rfl Tryz.func17 rfl rfl rfl rfl (fun σ => ⟨ad_ren rfl, ad_ren rfl, trivial⟩)) rfl ?_
  refine ao_read trivial (r_not rfl) rfl ?_
  refine ao_nil ?_
  refine aq_then ?_
  refine aw_cond rfl (fun hb1 => ?_) (fun hb1 => ?_)
  · replace h := is_else (ne_t (not_t hb1)) h
    refine aw_seq ?_
    refine aw_region ?_
    refine ao_read trivial (r_assign rfl) rfl ?_
    refine ao_nil ?_
    refine aq_then ?_
    refine aw_ret ?_
    refine aq_then_ret ?_
    refine aq_ret ?_
    obtain rfl := is_eq h
    exact aq_finx (l := [.tmp 4]) (xs := [.bool false]) idn [.bool false] [] rfl (by exact ⟨rfl, trivial⟩) (by exact ⟨ad_ren rfl, trivial⟩) (by exact trivial) rfl (nk rfl) rfl rfl ⟨rfl, rfl⟩
  · replace h := is_if (not_f hb1) h
    refine aw_skip ?_
    refine aq_then ?_
    refine aw_seq ?_
    refine aw_seq ?_
    refine aw_region ?_
    refine ao_read trivial (r_fieldAddr Tryz.underlying35 rfl Tryz.sizeOf33 rfl rfl rfl) rfl ?_
    refine ao_read trivial (r_load_part (τ := (.pair .str (.pair .str (.pair (.int .i64) .unit)))) (y := ((x0.2.1.1, (x0.2.1.2.1, (x0.2.1.2.2.1, ()))) : (ByteArray × (ByteArray × (Int × Unit))))) [.cell (.v (.slice (.arr 6 (.int .i64))) x0.1.1), .cell (.int .i64 x0.1.2.1), .cell (.v (.slice (.int .i64)) x0.1.2.2.1), .cell (.int .i64 x0.1.2.2.2.1), .cell (.int .i64 x0.1.2.2.2.2.1), .cell (.int .i64 x0.1.2.2.2.2.2.1)] [] rfl Tryz.isAgg33 Tryz.sizeOf33 rfl rfl rfl rfl) rfl ?_
    refine ao_read trivial (r_fieldAddr Tryz.underlying35 rfl Tryz.sizeOf33 rfl rfl rfl) rfl ?_
    refine ao_read trivial (r_load_part (τ := (.pair .str (.pair .str (.pair (.int .i64) .unit)))) (y := ((x1.2.1.1, (x1.2.1.2.1, (x1.2.1.2.2.1, ()))) : (ByteArray × (ByteArray × (Int × Unit))))) [.cell (.v (.slice (.arr 6 (.int .i64))) x1.1.1), .cell (.int .i64 x1.1.2.1), .cell (.v (.slice (.int .i64)) x1.1.2.2.1), .cell (.int .i64 x1.1.2.2.2.1), .cell (.int .i64 x1.1.2.2.2.2.1), .cell (.int .i64 x1.1.2.2.2.2.2.1)] [] rfl Tryz.isAgg33 Tryz.sizeOf33 rfl rfl rfl rfl) rfl ?_
    refine ao_scall trivial (scall (c_laws_eqLog (is_mk (rfl : p_laws_eqLog (x0.2.1.1, (x0.2.1.2.1, (x0.2.1.2.2.1, ()))) (x1.2.1.1, (x1.2.1.2.1, (x1.2.1.2.2.1, ()))) = _))) rfl Tryz.func18 rfl rfl rfl rfl (fun σ => ⟨ad_ren rfl, ad_ren rfl, trivial⟩)) rfl ?_
    refine ao_read trivial (r_not rfl) rfl ?_
    refine ao_nil ?_
    refine aq_then ?_
    refine aw_cond rfl (fun hb2 => ?_) (fun hb2 => ?_)
    · replace h := is_else (ne_t (not_t hb2)) h
      refine aw_seq ?_
      refine aw_region ?_
      refine ao_read trivial (r_assign rfl) rfl ?_
      refine ao_nil ?_
      refine aq_then ?_
      refine aw_ret ?_
      refine aq_then_ret ?_
      refine aq_ret ?_
      obtain rfl := is_eq h
      exact aq_finx (l := [.tmp 4]) (xs := [.bool false]) idn [.bool false] [] rfl (by exact ⟨rfl, trivial⟩) (by exact ⟨ad_ren rfl, trivial⟩) (by exact trivial) rfl (nk rfl) rfl rfl ⟨rfl, rfl⟩
    · replace h := is_if (not_f hb2) h
      refine aw_skip ?_
      refine aq_then ?_
      refine aw_seq ?_
      refine aw_region ?_
      refine ao_read trivial (r_assign rfl) rfl ?_
      refine ao_nil ?_
      refine aq_then ?_
      refine aw_ret ?_
      refine aq_ret ?_
      obtain rfl := is_eq h
      exact aq_finx (l := [.tmp 4]) (xs := [.bool true]) idn [.bool true] [] rfl (by exact ⟨rfl, trivial⟩) (by exact ⟨ad_ren rfl, trivial⟩) (by exact trivial) rfl (nk rfl) rfl rfl ⟨rfl, rfl⟩
theorem c_laws_FnExactIsValidConsole {fu : Nat} {x0 : (((List (List Int)) × (Int × ((List Int) × (Int × (Int × (Int × Unit)))))) × ((ByteArray × (ByteArray × (Int × Unit))) × Unit))} {r : Bool} (h : Is (p_laws_FnExactIsValidConsole fu x0) (some r)) :
    Scalar Tryz.prog 3 [.v (.pair (.pair (.slice (.arr 6 (.int .i64))) (.pair (.int .i64) (.pair (.slice (.int .i64)) (.pair (.int .i64) (.pair (.int .i64) (.pair (.int .i64) .unit)))))) (.pair (.pair .str (.pair .str (.pair (.int .i64) .unit))) .unit)) x0] (.bool r) := by
  unfold p_laws_FnExactIsValidConsole at h
  refine ac_enter ⟨27, 0⟩ Tryz.func3 rfl rfl rfl rfl rfl (fun Γ => ?_)
  refine aw_seq ?_
  refine aw_region ?_
  refine ao_eff trivial (e_box 0 rfl rfl rfl rfl rfl rfl) rfl ?_
  refine ao_read trivial (r_assign rfl) rfl ?_
  refine ao_nil ?_
  refine aq_then ?_
  refine aw_seq ?_
  refine aw_region ?_
  refine ao_read trivial (r_assign rfl) rfl ?_
  refine ao_nil ?_
  refine aq_then ?_
  refine aw_seq ?_
  refine aw_region ?_
  refine ao_read trivial (r_load_part (τ := (.pair (.pair (.slice (.arr 6 (.int .i64))) (.pair (.int .i64) (.pair (.slice (.int .i64)) (.pair (.int .i64) (.pair (.int .i64) (.pair (.int .i64) .unit)))))) (.pair (.pair .str (.pair .str (.pair (.int .i64) .unit))) .unit))) (y := (((x0.1.1, (x0.1.2.1, (x0.1.2.2.1, (x0.1.2.2.2.1, (x0.1.2.2.2.2.1, (x0.1.2.2.2.2.2.1, ())))))), ((x0.2.1.1, (x0.2.1.2.1, (x0.2.1.2.2.1, ()))), ())) : (((List (List Int)) × (Int × ((List Int) × (Int × (Int × (Int × Unit)))))) × ((ByteArray × (ByteArray × (Int × Unit))) × Unit)))) [] [] rfl Tryz.isAgg29 Tryz.sizeOf29 rfl rfl rfl rfl) rfl ?_
  refine ao_read trivial (r_move rfl) rfl ?_
  refine ao_scall trivial (scall (c_laws_szConsole (is_mk (rfl : p_laws_szConsole ((x0.1.1, (x0.1.2.1, (x0.1.2.2.1, (x0.1.2.2.2.1, (x0.1.2.2.2.2.1, (x0.1.2.2.2.2.2.1, ())))))), ((x0.2.1.1, (x0.2.1.2.1, (x0.2.1.2.2.1, ()))), ())) 1048576 = _))) rfl Tryz.func4 rfl rfl rfl rfl (fun σ => ⟨ad_ren rfl, ad_ren rfl, trivial⟩)) rfl ?_
  refine ao_read trivial (r_assign rfl) rfl ?_
  refine ao_nil ?_
  refine aq_then ?_
  refine aw_seq ?_
  refine aw_seq ?_
  refine aw_region ?_
  refine ao_read trivial (r_move rfl) rfl ?_
  refine ao_read trivial (r_lss rfl rfl) rfl ?_
  refine ao_nil ?_
  refine aq_then ?_
  refine aw_cond rfl (fun hb1 => ?_) (fun hb1 => ?_)
  · have q2 := d_t hb1
    replace h := is_if (d_t hb1) h
    refine aw_seq ?_
    refine aw_region ?_
    refine ao_read trivial (r_assign rfl) rfl ?_
    refine ao_nil ?_
    refine aq_then ?_
    refine aw_ret ?_
    refine aq_then_ret ?_
    refine aq_ret ?_
    obtain rfl := is_some h
    exact aq_finx (l := [.tmp 2]) (xs := [.bool true]) idn [.bool true] [] rfl (by exact ⟨rfl, trivial⟩) (by exact ⟨ad_ren rfl, trivial⟩) (by exact trivial) rfl (nk rfl) rfl rfl ⟨rfl, rfl⟩
  · have q3 := d_f hb1
    replace h := is_else (d_f hb1) h
    refine aw_skip ?_
    refine aq_then ?_
    refine aw_seq ?_
    refine aw_region ?_
    refine ao_read trivial (r_load_part (τ := (.pair (.pair (.slice (.arr 6 (.int .i64))) (.pair (.int .i64) (.pair (.slice (.int .i64)) (.pair (.int .i64) (.pair (.int .i64) (.pair (.int .i64) .unit)))))) (.pair (.pair .str (.pair .str (.pair (.int .i64) .unit))) .unit))) (y := (((x0.1.1, (x0.1.2.1, (x0.1.2.2.1, (x0.1.2.2.2.1, (x0.1.2.2.2.2.1, (x0.1.2.2.2.2.2.1, ())))))), ((x0.2.1.1, (x0.2.1.2.1, (x0.2.1.2.2.1, ()))), ())) : (((List (List Int)) × (Int × ((List Int) × (Int × (Int × (Int × Unit)))))) × ((ByteArray × (ByteArray × (Int × Unit))) × Unit)))) [] [] rfl Tryz.isAgg29 Tryz.sizeOf29 rfl rfl rfl rfl) rfl ?_
    obtain ⟨r4, r4h, h⟩ := is_bind h
    refine ao_call [] 1 trivial (c_laws_toConsole (is_mk r4h)) Tryz.func6 rfl rfl rfl rfl ⟨ad_ren rfl, trivial⟩ trivial rfl rfl rfl rfl rfl rfl rfl (fun r' H' hr => ?_)
    obtain ⟨rfl, rfl⟩ := hr
    refine ao_norm (y := .st [.os 1, .int .i64 r4.1.2.1, .os 2, .int .i64 r4.1.2.2.2.1, .int .i64 r4.1.2.2.2.2.1, .int .i64 r4.1.2.2.2.2.2.1, .str r4.2.1.1, .str r4.2.1.2.1, .int .i64 r4.2.1.2.2.1]) (H' := [(0, .var [.cell (.v (.slice (.arr 6 (.int .i64))) x0.1.1), .cell (.int .i64 x0.1.2.1), .cell (.v (.slice (.int .i64)) x0.1.2.2.1), .cell (.int .i64 x0.1.2.2.2.1), .cell (.int .i64 x0.1.2.2.2.2.1), .cell (.int .i64 x0.1.2.2.2.2.2.1), .cell (.str x0.2.1.1), .cell (.str x0.2.1.2.1), .cell (.int .i64 x0.2.1.2.2.1)]), (1, .row (.arr 6 (.int .i64)) r4.1.1), (2, .row (.int .i64) r4.1.2.2.1)]) rfl rfl ?_
    refine row_len_o 1 (r4.1.1.length : Int) rfl rfl (fun hr5 => ?_)
    refine row_len_o 2 (r4.1.2.2.1.length : Int) rfl rfl (fun hr6 => ?_)
    obtain ⟨r7, r7h, h⟩ := is_bind h
    refine ao_scall trivial (scall (c_spec_IsValidConsole (is_mk r7h)) rfl Tryz.func5 rfl rfl rfl rfl (fun σ => ⟨ad_st rfl rfl ⟨ad_os0 rfl, ad_ren rfl, ad_os0 rfl, ad_ren rfl, ad_ren rfl, ad_ren rfl, ad_ren rfl, ad_ren rfl, ad_ren rfl, trivial⟩, trivial⟩)) rfl ?_
    refine ao_read trivial (r_assign rfl) rfl ?_
    refine ao_nil ?_
    refine aq_then ?_
    refine aw_seq ?_
    refine aw_region ?_
    refine ao_read trivial (r_load_part (τ := (.pair (.pair (.slice (.arr 6 (.int .i64))) (.pair (.int .i64) (.pair (.slice (.int .i64)) (.pair (.int .i64) (.pair (.int .i64) (.pair (.int .i64) .unit)))))) (.pair (.pair .str (.pair .str (.pair (.int .i64) .unit))) .unit))) (y := (((x0.1.1, (x0.1.2.1, (x0.1.2.2.1, (x0.1.2.2.2.1, (x0.1.2.2.2.2.1, (x0.1.2.2.2.2.2.1, ())))))), ((x0.2.1.1, (x0.2.1.2.1, (x0.2.1.2.2.1, ()))), ())) : (((List (List Int)) × (Int × ((List Int) × (Int × (Int × (Int × Unit)))))) × ((ByteArray × (ByteArray × (Int × Unit))) × Unit)))) [] [] rfl Tryz.isAgg29 Tryz.sizeOf29 rfl rfl rfl rfl) rfl ?_
    obtain ⟨r8, r8h, h⟩ := is_bind h
    refine ao_call [] 3 trivial (c_laws_toConsole (is_mk r8h)) Tryz.func6 rfl rfl rfl rfl ⟨ad_ren rfl, trivial⟩ trivial rfl rfl rfl rfl rfl rfl rfl (fun r' H' hr => ?_)
    obtain ⟨rfl, rfl⟩ := hr
    refine ao_norm (y := .st [.os 3, .int .i64 r8.1.2.1, .os 4, .int .i64 r8.1.2.2.2.1, .int .i64 r8.1.2.2.2.2.1, .int .i64 r8.1.2.2.2.2.2.1, .str r8.2.1.1, .str r8.2.1.2.1, .int .i64 r8.2.1.2.2.1]) (H' := [(0, .var [.cell (.v (.slice (.arr 6 (.int .i64))) x0.1.1), .cell (.int .i64 x0.1.2.1), .cell (.v (.slice (.int .i64)) x0.1.2.2.1), .cell (.int .i64 x0.1.2.2.2.1), .cell (.int .i64 x0.1.2.2.2.2.1), .cell (.int .i64 x0.1.2.2.2.2.2.1), .cell (.str x0.2.1.1), .cell (.str x0.2.1.2.1), .cell (.int .i64 x0.2.1.2.2.1)]), (1, .row (.arr 6 (.int .i64)) r4.1.1), (2, .row (.int .i64) r4.1.2.2.1), (3, .row (.arr 6 (.int .i64)) r8.1.1), (4, .row (.int .i64) r8.1.2.2.1)]) rfl rfl ?_
    refine row_len_o 3 (r8.1.1.length : Int) rfl rfl (fun hr9 => ?_)
    refine row_len_o 4 (r8.1.2.2.1.length : Int) rfl rfl (fun hr10 => ?_)
    refine ao_eff trivial (e_alloc 5 (y := .st [.nilsl, .int .i64 0, .nilsl, .int .i64 0, .int .i64 0, .int .i64 0, .str ByteArray.empty, .str ByteArray.empty, .int .i64 0]) Tryz.zeroValue35 (fun ρ h M => ra_zero_st (t := (.pair (.pair (.slice (.arr 6 (.int .i64))) (.pair (.int .i64) (.pair (.slice (.int .i64)) (.pair (.int .i64) (.pair (.int .i64) (.pair (.int .i64) .unit)))))) (.pair (.pair .str (.pair .str (.pair (.int .i64) .unit))) .unit))) rfl rfl rfl) rfl rfl rfl rfl rfl) rfl ?_
    refine ao_effS trivial (e_store rfl rfl rfl rfl Tryz.sizeOf35 rfl) ?_
    refine ao_nil ?_
    refine aq_then ?_
    refine aw_seq ?_
    refine aw_region ?_
    refine ao_read trivial (r_load_st [] [.cell (.os 3), .cell (.int .i64 r8.1.2.1), .cell (.os 4), .cell (.int .i64 r8.1.2.2.2.1), .cell (.int .i64 r8.1.2.2.2.2.1), .cell (.int .i64 r8.1.2.2.2.2.2.1), .cell (.str r8.2.1.1), .cell (.str r8.2.1.2.1), .cell (.int .i64 r8.2.1.2.2.1)] [] Tryz.isAgg35 Tryz.sizeOf35 rfl rfl rfl rfl rfl rfl rfl) rfl ?_
    obtain ⟨r11, r11h, h⟩ := is_bind h
    refine ao_scall trivial (scall (c_impl_IsValidConsole (is_mk r11h)) rfl Tryz.func7 rfl rfl rfl rfl (fun σ => ⟨ad_st rfl rfl ⟨ad_os0 rfl, ad_ren rfl, ad_os0 rfl, ad_ren rfl, ad_ren rfl, ad_ren rfl, ad_ren rfl, ad_ren rfl, ad_ren rfl, trivial⟩, trivial⟩)) rfl ?_
    refine ao_read trivial (r_assign rfl) rfl ?_
    refine ao_nil ?_
    refine aq_then ?_
    refine aw_seq ?_
    refine aw_seq ?_
    refine aw_region ?_
    refine ao_read trivial (r_move rfl) rfl ?_
    refine ao_read trivial (r_move rfl) rfl ?_
    refine ao_read trivial (r_neq_bool Tryz.underlying4 rfl rfl) rfl ?_
    refine ao_nil ?_
    refine aq_then ?_
    refine aw_cond rfl (fun hb12 => ?_) (fun hb12 => ?_)
    · replace h := is_if hb12 h
      refine aw_seq ?_
      refine aw_region ?_
      refine ao_read trivial (r_assign rfl) rfl ?_
      refine ao_nil ?_
      refine aq_then ?_
      refine aw_ret ?_
      refine aq_then_ret ?_
      refine aq_ret ?_
      obtain rfl := is_some h
      exact aq_finx (l := [.tmp 2]) (xs := [.bool false]) idn [.bool false] [] rfl (by exact ⟨rfl, trivial⟩) (by exact ⟨ad_ren rfl, trivial⟩) (by exact trivial) rfl (nk rfl) rfl rfl ⟨rfl, rfl⟩
    · replace h := is_else (ne_t hb12) h
      refine aw_skip ?_
      refine aq_then ?_
      refine aw_seq ?_
      refine aw_seq ?_
      obtain ⟨r13, r13h, h⟩ := is_bind h
      refine aw_drawAll (by kernel_rfl) ?_
      refine an_to [(26, .bool (!(p_laws_eqConsole ((r8.1.1, (r8.1.2.1, (r8.1.2.2.1, (r8.1.2.2.2.1, (r8.1.2.2.2.2.1, (r8.1.2.2.2.2.2.1, ())))))), ((r8.2.1.1, (r8.2.1.2.1, (r8.2.1.2.2.1, ()))), ())) ((r13.1.1, (r13.1.2.1, (r13.1.2.2.1, (r13.1.2.2.2.1, (r13.1.2.2.2.2.1, (r13.1.2.2.2.2.2.1, ())))))), ((r13.2.1.1, (r13.2.1.2.1, (r13.2.1.2.2.1, ()))), ())))))] [] ?_ (fun key => ?_)
      · refine aq_then ?_
        refine aw_cond rfl (fun hb16 => ?_) (fun hb16 => ?_)
        · replace h := is_else (ne_t (not_t hb16)) h
          refine aw_seq ?_
          refine aw_region ?_
          refine ao_read trivial (r_assign rfl) rfl ?_
          refine ao_nil ?_
          refine aq_then ?_
          refine aw_ret ?_
          refine aq_then_ret ?_
          refine aq_ret ?_
          obtain rfl := is_some h
          exact aq_finx (l := [.tmp 2]) (xs := [.bool false]) idn [.bool false] [] rfl (by exact ⟨rfl, trivial⟩) (by exact ⟨ad_ren rfl, trivial⟩) (by exact trivial) rfl (nk rfl) rfl rfl ⟨rfl, rfl⟩
        · replace h := is_if (not_f hb16) h
          refine aw_skip ?_
          refine aq_then ?_
          refine aw_seq ?_
          refine aw_region ?_
          refine ao_read trivial (r_assign rfl) rfl ?_
          refine ao_nil ?_
          refine aq_then ?_
          refine aw_ret ?_
          refine aq_ret ?_
          obtain rfl := is_some h
          exact aq_finx (l := [.tmp 2]) (xs := [.bool true]) idn [.bool true] [] rfl (by exact ⟨rfl, trivial⟩) (by exact ⟨ad_ren rfl, trivial⟩) (by exact trivial) rfl (nk rfl) rfl rfl ⟨rfl, rfl⟩
      · refine an_read 0 (by kernel_rfl) (fun _ _ _ h => h) rfl (by kernel_rfl) trivial (r_load_st [] [.cell (.os 3), .cell (.int .i64 r8.1.2.1), .cell (.os 4), .cell (.int .i64 r8.1.2.2.2.1), .cell (.int .i64 r8.1.2.2.2.2.1), .cell (.int .i64 r8.1.2.2.2.2.2.1), .cell (.str r8.2.1.1), .cell (.str r8.2.1.2.1), .cell (.int .i64 r8.2.1.2.2.1)] [] Tryz.isAgg35 Tryz.sizeOf35 rfl rfl rfl rfl rfl rfl rfl) rfl ?_
        refine an_read 1 (by kernel_rfl) (fun _ _ _ h => h) rfl (by kernel_rfl) trivial (r_load_part (τ := (.pair (.pair (.slice (.arr 6 (.int .i64))) (.pair (.int .i64) (.pair (.slice (.int .i64)) (.pair (.int .i64) (.pair (.int .i64) (.pair (.int .i64) .unit)))))) (.pair (.pair .str (.pair .str (.pair (.int .i64) .unit))) .unit))) (y := (((x0.1.1, (x0.1.2.1, (x0.1.2.2.1, (x0.1.2.2.2.1, (x0.1.2.2.2.2.1, (x0.1.2.2.2.2.2.1, ())))))), ((x0.2.1.1, (x0.2.1.2.1, (x0.2.1.2.2.1, ()))), ())) : (((List (List Int)) × (Int × ((List Int) × (Int × (Int × (Int × Unit)))))) × ((ByteArray × (ByteArray × (Int × Unit))) × Unit)))) [] [] rfl Tryz.isAgg29 Tryz.sizeOf29 rfl rfl rfl rfl) rfl ?_
        refine an_explore 6 rfl ?_
        refine ax_all [2] (by kernel_rfl) ⟨?_, trivial⟩
        refine axo_call 2 6 rfl trivial (c_laws_toConsole (is_mk r13h)) Tryz.func6 rfl rfl rfl rfl ⟨ad_ren rfl, trivial⟩ rfl rfl rfl rfl (fun r' H' hr => ?_)
        obtain ⟨rfl, rfl⟩ := hr
        refine ax_all [3] (by kernel_rfl) ⟨?_, trivial⟩
        refine axo_scall 3 rfl trivial (scall (c_laws_eqConsole (is_mk (rfl : p_laws_eqConsole ((r8.1.1, (r8.1.2.1, (r8.1.2.2.1, (r8.1.2.2.2.1, (r8.1.2.2.2.2.1, (r8.1.2.2.2.2.2.1, ())))))), ((r8.2.1.1, (r8.2.1.2.1, (r8.2.1.2.2.1, ()))), ())) ((r13.1.1, (r13.1.2.1, (r13.1.2.2.1, (r13.1.2.2.2.1, (r13.1.2.2.2.2.1, (r13.1.2.2.2.2.2.1, ())))))), ((r13.2.1.1, (r13.2.1.2.1, (r13.2.1.2.2.1, ()))), ())) = _))) rfl Tryz.func8 rfl rfl rfl rfl (fun σ => ⟨ad_st rfl rfl ⟨ad_os0 rfl, ad_ren rfl, ad_os0 rfl, ad_ren rfl, ad_ren rfl, ad_ren rfl, ad_ren rfl, ad_ren rfl, ad_ren rfl, trivial⟩, ad_st rfl rfl ⟨ad_os0 rfl, ad_ren rfl, ad_os0 rfl, ad_ren rfl, ad_ren rfl, ad_ren rfl, ad_ren rfl, ad_ren rfl, ad_ren rfl, trivial⟩, trivial⟩)) rfl ?_
        refine ax_all [4] (by kernel_rfl) ⟨?_, trivial⟩
        refine axo_read 4 rfl trivial (r_not rfl) rfl ?_
        exact ax_done rfl (AQ.sub (sub_mk idn (by exact ⟨⟨_, rfl, ad_ren rfl⟩, trivial⟩) (by exact trivial) (by rfl) (nk rfl)) key)
end Go.GA
