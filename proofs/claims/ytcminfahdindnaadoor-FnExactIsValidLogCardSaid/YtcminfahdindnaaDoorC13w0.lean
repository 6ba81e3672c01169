/- Walks: what the Go functions compute, by the printed lines below; no further conditions. -/
import Derived.Test.YtcminfahdindnaaDoorC13wb
namespace Go.GA
open Go Go.Proofs
set_option maxRecDepth 100000
set_option maxHeartbeats 2000000
set_option linter.unusedVariables false
set_option linter.unusedSimpArgs false
theorem c_spec_IsValidLog {fu : Nat} {x0 : (ByteArray × (ByteArray × (Int × Unit)))} {r : Bool} (h : Is (p_spec_IsValidLog fu x0) (some r)) :
    Scalar Tryd.prog 30 [.v (.pair .str (.pair .str (.pair (.int .i64) .unit))) x0] (.bool r) := by
  unfold p_spec_IsValidLog at h
  refine ac_enter ⟨5, 0⟩ Tryd.func30 rfl rfl rfl rfl rfl (fun Γ => ?_)
  refine aw_seq ?_
  refine aw_region ?_
  refine ao_eff trivial (e_box 0 rfl rfl rfl rfl rfl rfl) rfl ?_
  refine ao_read trivial (r_assign rfl) rfl ?_
  refine ao_nil ?_
  refine aq_then ?_
  refine aw_seq ?_
  refine aw_region ?_
  refine ao_read trivial (r_load_part (τ := (.pair .str (.pair .str (.pair (.int .i64) .unit)))) (y := ((x0.1, (x0.2.1, (x0.2.2.1, ()))) : (ByteArray × (ByteArray × (Int × Unit))))) [] [] rfl Tryd.isAgg42 Tryd.sizeOf42 rfl rfl rfl rfl) rfl ?_
  obtain ⟨r1, r1h, h⟩ := is_bind h
  refine ao_scall trivial (scall (c_spec_l12Valid (is_mk r1h)) rfl Tryd.func82 rfl rfl rfl rfl (fun σ => ⟨ad_ren rfl, trivial⟩)) rfl ?_
  refine ao_read trivial (r_assign rfl) rfl ?_
  refine ao_nil ?_
  refine aq_then ?_
  refine aw_ret ?_
  refine aq_ret ?_
  obtain rfl := is_some h
  exact aq_finx (l := [.tmp 2]) (xs := [.bool r1]) idn [.bool r1] [] rfl (by exact ⟨rfl, trivial⟩) (by exact ⟨ad_ren rfl, trivial⟩) (by exact trivial) rfl (nk rfl) rfl rfl ⟨rfl, rfl⟩
theorem c_laws_FnExactIsValidLog {fu : Nat} {x0 : (ByteArray × (ByteArray × (Int × Unit)))} {r : Bool} (h : Is (p_laws_FnExactIsValidLog fu x0) (some r)) :
    Scalar Tryd.prog 6 [.v (.pair .str (.pair .str (.pair (.int .i64) .unit))) x0] (.bool r) := by
  unfold p_laws_FnExactIsValidLog at h
  refine ac_enter ⟨20, 0⟩ Tryd.func6 rfl rfl rfl rfl rfl (fun Γ => ?_)
  refine aw_seq ?_
  refine aw_region ?_
  refine ao_eff trivial (e_box 0 rfl rfl rfl rfl rfl rfl) rfl ?_
  refine ao_read trivial (r_assign rfl) rfl ?_
  refine ao_nil ?_
  refine aq_then ?_
  refine aw_seq ?_
  refine aw_region ?_
  refine ao_read trivial (r_assign rfl) rfl ?_
  refine ao_nil ?_
  refine aq_then ?_
  refine aw_seq ?_
  refine aw_region ?_
  refine ao_read trivial (r_load_part (τ := (.pair .str (.pair .str (.pair (.int .i64) .unit)))) (y := ((x0.1, (x0.2.1, (x0.2.2.1, ()))) : (ByteArray × (ByteArray × (Int × Unit))))) [] [] rfl Tryd.isAgg47 Tryd.sizeOf47 rfl rfl rfl rfl) rfl ?_
  refine ao_read trivial (r_move rfl) rfl ?_
  refine ao_scall trivial (scall (c_laws_szLog (is_mk (rfl : p_laws_szLog (x0.1, (x0.2.1, (x0.2.2.1, ()))) 1048576 = _))) rfl Tryd.func29 rfl rfl rfl rfl (fun σ => ⟨ad_ren rfl, ad_ren rfl, trivial⟩)) rfl ?_
  refine ao_read trivial (r_assign rfl) rfl ?_
  refine ao_nil ?_
  refine aq_then ?_
  refine aw_seq ?_
  refine aw_seq ?_
  refine aw_region ?_
  refine ao_read trivial (r_move rfl) rfl ?_
  refine ao_read trivial (r_lss rfl rfl) rfl ?_
  refine ao_nil ?_
  refine aq_then ?_
  refine aw_cond rfl (fun hb1 => ?_) (fun hb1 => ?_)
  · have q2 := d_t hb1
    replace h := is_if (d_t hb1) h
    refine aw_seq ?_
    refine aw_region ?_
    refine ao_read trivial (r_assign rfl) rfl ?_
    refine ao_nil ?_
    refine aq_then ?_
    refine aw_ret ?_
    refine aq_then_ret ?_
    refine aq_ret ?_
    obtain rfl := is_some h
    exact aq_finx (l := [.tmp 2]) (xs := [.bool true]) idn [.bool true] [] rfl (by exact ⟨rfl, trivial⟩) (by exact ⟨ad_ren rfl, trivial⟩) (by exact trivial) rfl (nk rfl) rfl rfl ⟨rfl, rfl⟩
  · have q3 := d_f hb1
    replace h := is_else (d_f hb1) h
    refine aw_skip ?_
    refine aq_then ?_
    refine aw_seq ?_
    refine aw_region ?_
    refine ao_read trivial (r_load_part (τ := (.pair .str (.pair .str (.pair (.int .i64) .unit)))) (y := ((x0.1, (x0.2.1, (x0.2.2.1, ()))) : (ByteArray × (ByteArray × (Int × Unit))))) [] [] rfl Tryd.isAgg47 Tryd.sizeOf47 rfl rfl rfl rfl) rfl ?_
    refine ao_scall trivial (scall (c_laws_toLog (is_mk (rfl : p_laws_toLog (x0.1, (x0.2.1, (x0.2.2.1, ()))) = _))) rfl Tryd.func31 rfl rfl rfl rfl (fun σ => ⟨ad_ren rfl, trivial⟩)) rfl ?_
    obtain ⟨r4, r4h, h⟩ := is_bind h
    refine ao_scall trivial (scall (c_spec_IsValidLog (is_mk r4h)) rfl Tryd.func30 rfl rfl rfl rfl (fun σ => ⟨ad_ren rfl, trivial⟩)) rfl ?_
    refine ao_read trivial (r_assign rfl) rfl ?_
    refine ao_nil ?_
    refine aq_then ?_
    refine aw_seq ?_
    refine aw_region ?_
    refine ao_read trivial (r_load_part (τ := (.pair .str (.pair .str (.pair (.int .i64) .unit)))) (y := ((x0.1, (x0.2.1, (x0.2.2.1, ()))) : (ByteArray × (ByteArray × (Int × Unit))))) [] [] rfl Tryd.isAgg47 Tryd.sizeOf47 rfl rfl rfl rfl) rfl ?_
    refine ao_scall trivial (scall (c_laws_toLog (is_mk (rfl : p_laws_toLog (x0.1, (x0.2.1, (x0.2.2.1, ()))) = _))) rfl Tryd.func31 rfl rfl rfl rfl (fun σ => ⟨ad_ren rfl, trivial⟩)) rfl ?_
    obtain ⟨r5, r5h, h⟩ := is_bind h
    refine ao_scall trivial (scall (c_impl_IsValidLog (is_mk r5h)) rfl Tryd.func32 rfl rfl rfl rfl (fun σ => ⟨ad_ren rfl, trivial⟩)) rfl ?_
    refine ao_read trivial (r_assign rfl) rfl ?_
    refine ao_nil ?_
    refine aq_then ?_
    refine aw_seq ?_
    refine aw_seq ?_
    refine aw_region ?_
    refine ao_read trivial (r_move rfl) rfl ?_
    refine ao_read trivial (r_move rfl) rfl ?_
    refine ao_read trivial (r_neq_bool Tryd.underlying4 rfl rfl) rfl ?_
    refine ao_nil ?_
    refine aq_then ?_
    refine aw_cond rfl (fun hb6 => ?_) (fun hb6 => ?_)
    · replace h := is_if hb6 h
      refine aw_seq ?_
      refine aw_region ?_
      refine ao_read trivial (r_assign rfl) rfl ?_
      refine ao_nil ?_
      refine aq_then ?_
      refine aw_ret ?_
      refine aq_then_ret ?_
      refine aq_ret ?_
      obtain rfl := is_some h
      exact aq_finx (l := [.tmp 2]) (xs := [.bool false]) idn [.bool false] [] rfl (by exact ⟨rfl, trivial⟩) (by exact ⟨ad_ren rfl, trivial⟩) (by exact trivial) rfl (nk rfl) rfl rfl ⟨rfl, rfl⟩
    · replace h := is_else (ne_t hb6) h
      refine aw_skip ?_
      refine aq_then ?_
      refine aw_seq ?_
      refine aw_region ?_
      refine ao_read trivial (r_assign rfl) rfl ?_
      refine ao_nil ?_
      refine aq_then ?_
      refine aw_ret ?_
      refine aq_ret ?_
      obtain rfl := is_some h
      exact aq_finx (l := [.tmp 2]) (xs := [.bool true]) idn [.bool true] [] rfl (by exact ⟨rfl, trivial⟩) (by exact ⟨ad_ren rfl, trivial⟩) (by exact trivial) rfl (nk rfl) rfl rfl ⟨rfl, rfl⟩
end Go.GA
