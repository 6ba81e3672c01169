/- Walks: what the Go functions compute, by the printed lines below; no further conditions. -/
import Derived.Test.YtcminfahdindnaaDoorC13wb
namespace Go.GA
open Go Go.Proofs
set_option maxRecDepth 100000
set_option maxHeartbeats 2000000
set_option linter.unusedVariables false
set_option linter.unusedSimpArgs false
theorem c_spec_RecoverLog {fu : Nat} {x0 : ByteArray} {r : (ByteArray × (ByteArray × (Int × Unit))) × Int × Bool} (h : Is (p_spec_RecoverLog fu x0) (some r)) :
    Scalar Tryd.prog 26 [.str x0] (.tup [.v (.pair .str (.pair .str (.pair (.int .i64) .unit))) r.1, .int .i64 r.2.1, .bool r.2.2]) := by
  unfold p_spec_RecoverLog at h
  refine ac_enter ⟨23, 0⟩ Tryd.func26 rfl rfl rfl rfl rfl (fun Γ => ?_)
  obtain ⟨gs0, h⟩ := is_guard h
  refine aw_seq ?_
  refine aw_region ?_
  refine ao_eff trivial (e_alloc 0 (y := .st [.str ByteArray.empty, .str ByteArray.empty, .int .i64 0]) Tryd.zeroValue42 (fun ρ h M => ra_zero_st (t := (.pair .str (.pair .str (.pair (.int .i64) .unit)))) rfl rfl rfl) rfl rfl rfl rfl rfl) rfl ?_
  refine ao_read trivial (r_assign rfl) rfl ?_
  refine ao_read trivial (r_assign rfl) rfl ?_
  refine ao_nil ?_
  refine aq_then ?_
  refine aw_seq ?_
  refine aw_seq ?_
  refine aw_region ?_
  refine ao_read trivial (r_move rfl) rfl ?_
  refine ao_read trivial (r_len_str Tryd.underlying9 rfl) rfl ?_
  refine ao_read trivial (r_gtr rfl rfl) rfl ?_
  refine ao_nil ?_
  refine aq_then ?_
  refine aw_cond rfl (fun hb1 => ?_) (fun hb1 => ?_)
  · have q2 := d_t hb1
    replace h := is_if (d_t hb1) h
    refine aw_seq ?_
    refine aw_region ?_
    refine ao_read trivial (r_build_st (l := []) (cs := [.cell (.str ByteArray.empty), .cell (.str ByteArray.empty), .cell (.int .i64 0)]) (.pair .str (.pair .str (.pair (.int .i64) .unit))) [(0, 1), (1, 1), (2, 1)] Tryd.underlying42 Tryd.zeroValue42 rfl ⟨rfl, Tryd.sizeOf9, rfl, Tryd.sizeOf9, rfl, Tryd.sizeOf3, trivial⟩ rfl rfl rfl) rfl ?_
    refine ao_effS trivial (e_store rfl rfl rfl rfl Tryd.sizeOf42 rfl) ?_
    refine ao_read trivial (r_assign rfl) rfl ?_
    refine ao_read trivial (r_assign rfl) rfl ?_
    refine ao_nil ?_
    refine aq_then ?_
    refine aw_ret ?_
    refine aq_then_ret ?_
    refine aq_ret ?_
    obtain rfl := is_some h
    exact aq_finx (l := [.cell 2 42, .tmp 3, .tmp 4]) (xs := [.st [.str ByteArray.empty, .str ByteArray.empty, .int .i64 0], .int .i64 0, .bool false]) idn [.v (.pair .str (.pair .str (.pair (.int .i64) .unit))) ((ByteArray.empty, (ByteArray.empty, (0, ()))) : (ByteArray × (ByteArray × (Int × Unit)))), .int .i64 0, .bool false] [] rfl (by exact ⟨⟨⟨_, _, rfl⟩, r_load_st [] [.cell (.str ByteArray.empty), .cell (.str ByteArray.empty), .cell (.int .i64 0)] [] Tryd.isAgg42 Tryd.sizeOf42 rfl rfl rfl rfl rfl rfl rfl⟩, rfl, rfl, trivial⟩) (by exact ⟨ad_st rfl rfl ⟨ad_ren rfl, ad_ren rfl, ad_ren rfl, trivial⟩, ad_ren rfl, ad_ren rfl, trivial⟩) (by exact trivial) rfl (nk rfl) rfl rfl ⟨rfl, rfl⟩
  · have q3 := d_f hb1
    replace h := is_else (d_f hb1) h
    refine aw_skip ?_
    refine aq_then ?_
    refine aw_seq ?_
    refine aw_region ?_
    refine ao_read trivial (r_move rfl) rfl ?_
    obtain ⟨r4, r4h, h⟩ := is_bind h
    refine ao_call [] 1 trivial (c_spec_l12Open (is_mk r4h)) Tryd.func80 rfl rfl rfl rfl ⟨ad_ren rfl, trivial⟩ trivial rfl rfl rfl rfl rfl rfl rfl (fun r' H' hr => ?_)
    obtain ⟨rfl, rfl⟩ := hr
    refine ao_norm (y := .tup [.os 1, .int .i64 r4.2]) (H' := [(0, .var [.cell (.str ByteArray.empty), .cell (.str ByteArray.empty), .cell (.int .i64 0)]), (1, .row (.pair .str (.pair .str .unit)) r4.1)]) rfl rfl ?_
    refine row_len_o 1 (r4.1.length : Int) rfl rfl (fun hr5 => ?_)
    refine ao_read trivial (r_move rfl) rfl ?_
    refine ao_read trivial (r_extract rfl rfl) rfl ?_
    refine ao_read trivial (r_extract rfl rfl) rfl ?_
    refine ao_read trivial (r_assign rfl) rfl ?_
    refine ao_read trivial (r_assign rfl) rfl ?_
    refine ao_nil ?_
    refine aq_then ?_
    refine aw_seq ?_
    refine aw_region ?_
    refine ao_read trivial (r_move rfl) rfl ?_
    refine ao_read trivial (r_move rfl) rfl ?_
    obtain ⟨g6, h⟩ := is_guard h
    obtain ⟨g7, h⟩ := is_guard h
    refine ao_read trivial (r_slice_str Tryd.underlying9 rfl .none (.some rfl) (show 0 ≤ 0 from by omega) (show 0 ≤ r4.2 from by omega) (show r4.2 ≤ (x0.size : Int) from by omega)) rfl ?_
    refine ao_read trivial (r_move rfl) rfl ?_
    refine ao_read trivial (r_len_osm (r4.1.length : Int) Tryd.underlying59 rfl rfl rfl) rfl ?_
    refine ao_read trivial (r_build_st (l := [(0, .tmp 18), (2, .tmp 20)]) (cs := [.cell (.str (x0.extract 0 r4.2.toNat)), .cell (.str ByteArray.empty), .cell (.int .i64 (r4.1.length : Int))]) (.pair .str (.pair .str (.pair (.int .i64) .unit))) [(0, 1), (1, 1), (2, 1)] Tryd.underlying42 Tryd.zeroValue42 rfl ⟨rfl, Tryd.sizeOf9, rfl, Tryd.sizeOf9, rfl, Tryd.sizeOf3, trivial⟩ rfl rfl rfl) rfl ?_
    refine ao_read trivial (r_move rfl) rfl ?_
    refine ao_effS trivial (e_store rfl rfl rfl rfl Tryd.sizeOf42 rfl) ?_
    refine ao_read trivial (r_assign rfl) rfl ?_
    refine ao_read trivial (r_assign rfl) rfl ?_
    refine ao_nil ?_
    refine aq_then ?_
    refine aw_ret ?_
    refine aq_ret ?_
    obtain rfl := is_some h
    exact aq_finx (l := [.cell 2 42, .tmp 3, .tmp 4]) (xs := [.st [.str (x0.extract 0 r4.2.toNat), .str ByteArray.empty, .int .i64 (r4.1.length : Int)], .int .i64 r4.2, .bool true]) idn [.v (.pair .str (.pair .str (.pair (.int .i64) .unit))) (((x0.extract 0 r4.2.toNat), (ByteArray.empty, ((r4.1.length : Int), ()))) : (ByteArray × (ByteArray × (Int × Unit)))), .int .i64 r4.2, .bool true] [] rfl (by exact ⟨⟨⟨_, _, rfl⟩, r_load_st [] [.cell (.str (x0.extract 0 r4.2.toNat)), .cell (.str ByteArray.empty), .cell (.int .i64 (r4.1.length : Int))] [] Tryd.isAgg42 Tryd.sizeOf42 rfl rfl rfl rfl rfl rfl rfl⟩, rfl, rfl, trivial⟩) (by exact ⟨ad_st rfl rfl ⟨ad_ren rfl, ad_ren rfl, ad_ren rfl, trivial⟩, ad_ren rfl, ad_ren rfl, trivial⟩) (by exact trivial) rfl (nk rfl) rfl rfl ⟨rfl, rfl⟩
theorem c_impl_RecoverLog {fu : Nat} {x0 : ByteArray} {r : (ByteArray × (ByteArray × (Int × Unit))) × Int × Bool} (h : Is (p_impl_RecoverLog fu x0) (some r)) :
    Scalar Tryd.prog 27 [.str x0] (.tup [.v (.pair .str (.pair .str (.pair (.int .i64) .unit))) r.1, .int .i64 r.2.1, .bool r.2.2]) := by
  unfold p_impl_RecoverLog at h
  refine ac_enter ⟨29, 0⟩ Tryd.func27 rfl rfl rfl rfl rfl (fun Γ => ?_)
  obtain ⟨gs0, h⟩ := is_guard h
  refine aw_seq ?_
  refine aw_region ?_
  refine ao_eff trivial (e_alloc 0 (y := .st [.str ByteArray.empty, .str ByteArray.empty, .int .i64 0]) Tryd.zeroValue42 (fun ρ h M => ra_zero_st (t := (.pair .str (.pair .str (.pair (.int .i64) .unit)))) rfl rfl rfl) rfl rfl rfl rfl rfl) rfl ?_
  refine ao_read trivial (r_assign rfl) rfl ?_
  refine ao_read trivial (r_assign rfl) rfl ?_
  refine ao_nil ?_
  refine aq_then ?_
  refine aw_seq ?_
  refine aw_seq ?_
  refine aw_region ?_
  refine ao_read trivial (r_move rfl) rfl ?_
  refine ao_read trivial (r_len_str Tryd.underlying9 rfl) rfl ?_
  refine ao_read trivial (r_gtr rfl rfl) rfl ?_
  refine ao_nil ?_
  refine aq_then ?_
  refine aw_cond rfl (fun hb1 => ?_) (fun hb1 => ?_)
  · have q2 := d_t hb1
    replace h := is_if (d_t hb1) h
    refine aw_seq ?_
    refine aw_region ?_
    refine ao_read trivial (r_build_st (l := []) (cs := [.cell (.str ByteArray.empty), .cell (.str ByteArray.empty), .cell (.int .i64 0)]) (.pair .str (.pair .str (.pair (.int .i64) .unit))) [(0, 1), (1, 1), (2, 1)] Tryd.underlying42 Tryd.zeroValue42 rfl ⟨rfl, Tryd.sizeOf9, rfl, Tryd.sizeOf9, rfl, Tryd.sizeOf3, trivial⟩ rfl rfl rfl) rfl ?_
    refine ao_effS trivial (e_store rfl rfl rfl rfl Tryd.sizeOf42 rfl) ?_
    refine ao_read trivial (r_assign rfl) rfl ?_
    refine ao_read trivial (r_assign rfl) rfl ?_
    refine ao_nil ?_
    refine aq_then ?_
    refine aw_ret ?_
    refine aq_then_ret ?_
    refine aq_ret ?_
    obtain rfl := is_some h
    exact aq_finx (l := [.cell 2 42, .tmp 3, .tmp 4]) (xs := [.st [.str ByteArray.empty, .str ByteArray.empty, .int .i64 0], .int .i64 0, .bool false]) idn [.v (.pair .str (.pair .str (.pair (.int .i64) .unit))) ((ByteArray.empty, (ByteArray.empty, (0, ()))) : (ByteArray × (ByteArray × (Int × Unit)))), .int .i64 0, .bool false] [] rfl (by exact ⟨⟨⟨_, _, rfl⟩, r_load_st [] [.cell (.str ByteArray.empty), .cell (.str ByteArray.empty), .cell (.int .i64 0)] [] Tryd.isAgg42 Tryd.sizeOf42 rfl rfl rfl rfl rfl rfl rfl⟩, rfl, rfl, trivial⟩) (by exact ⟨ad_st rfl rfl ⟨ad_ren rfl, ad_ren rfl, ad_ren rfl, trivial⟩, ad_ren rfl, ad_ren rfl, trivial⟩) (by exact trivial) rfl (nk rfl) rfl rfl ⟨rfl, rfl⟩
  · have q3 := d_f hb1
    replace h := is_else (d_f hb1) h
    refine aw_skip ?_
    refine aq_then ?_
    refine aw_seq ?_
    refine aw_region ?_
    refine ao_read trivial (r_move rfl) rfl ?_
    obtain ⟨r4, r4h, h⟩ := is_bind h
    refine ao_call [] 1 trivial (c_impl_decodeAll (is_mk r4h)) Tryd.func81 rfl rfl rfl rfl ⟨ad_ren rfl, trivial⟩ trivial rfl rfl rfl rfl rfl rfl rfl (fun r' H' hr => ?_)
    obtain ⟨rfl, rfl⟩ := hr
    refine ao_norm (y := .tup [.os 1, .os 2]) (H' := [(0, .var [.cell (.str ByteArray.empty), .cell (.str ByteArray.empty), .cell (.int .i64 0)]), (1, .row (.pair .str (.pair .str .unit)) r4.1), (2, .row (.int .i64) r4.2)]) rfl rfl ?_
    refine row_len_o 1 (r4.1.length : Int) rfl rfl (fun hr5 => ?_)
    refine row_len_o 2 (r4.2.length : Int) rfl rfl (fun hr6 => ?_)
    refine ao_read trivial (r_move rfl) rfl ?_
    refine ao_read trivial (r_extract rfl rfl) rfl ?_
    refine ao_read trivial (r_extract rfl rfl) rfl ?_
    refine ao_read trivial (r_assign rfl) rfl ?_
    refine ao_read trivial (r_assign rfl) rfl ?_
    refine ao_nil ?_
    refine aq_then ?_
    refine aw_seq ?_
    refine aw_region ?_
    refine ao_read trivial (r_move rfl) rfl ?_
    refine ao_read trivial (r_move rfl) rfl ?_
    refine ao_read trivial (r_len_osm (r4.1.length : Int) Tryd.underlying59 rfl rfl rfl) rfl ?_
    obtain ⟨g7, h⟩ := is_guard h
    refine ao_read trivial (r_idxAddr_os Tryd.underlying96 Tryd.sizeOf3 rfl rfl rfl (by omega) (show (r4.1.length : Int) < (r4.2.length : Int) from by omega)) rfl ?_
    refine ao_read trivial (r_load_elem_int Tryd.isAgg3 Tryd.sizeOf3 rfl rfl (show (r4.1.length : Int).toNat < r4.2.length from by omega)) rfl ?_
    refine ao_read trivial (r_assign rfl) rfl ?_
    refine ao_nil ?_
    refine aq_then ?_
    refine aw_seq ?_
    refine aw_region ?_
    refine ao_read trivial (r_move rfl) rfl ?_
    refine ao_read trivial (r_move rfl) rfl ?_
    obtain ⟨g8, h⟩ := is_guard h
    obtain ⟨g9, h⟩ := is_guard h
    refine ao_read trivial (r_slice_str Tryd.underlying9 rfl .none (.some rfl) (show 0 ≤ 0 from by omega) (show 0 ≤ (r4.2.getD (r4.1.length : Int).toNat 0) from by omega) (show (r4.2.getD (r4.1.length : Int).toNat 0) ≤ (x0.size : Int) from by omega)) rfl ?_
    refine ao_read trivial (r_move rfl) rfl ?_
    refine ao_read trivial (r_len_osm (r4.1.length : Int) Tryd.underlying59 rfl rfl rfl) rfl ?_
    refine ao_read trivial (r_build_st (l := [(0, .tmp 24), (2, .tmp 26)]) (cs := [.cell (.str (x0.extract 0 (r4.2.getD (r4.1.length : Int).toNat 0).toNat)), .cell (.str ByteArray.empty), .cell (.int .i64 (r4.1.length : Int))]) (.pair .str (.pair .str (.pair (.int .i64) .unit))) [(0, 1), (1, 1), (2, 1)] Tryd.underlying42 Tryd.zeroValue42 rfl ⟨rfl, Tryd.sizeOf9, rfl, Tryd.sizeOf9, rfl, Tryd.sizeOf3, trivial⟩ rfl rfl rfl) rfl ?_
    refine ao_read trivial (r_move rfl) rfl ?_
    refine ao_effS trivial (e_store rfl rfl rfl rfl Tryd.sizeOf42 rfl) ?_
    refine ao_read trivial (r_assign rfl) rfl ?_
    refine ao_read trivial (r_assign rfl) rfl ?_
    refine ao_nil ?_
    refine aq_then ?_
    refine aw_ret ?_
    refine aq_ret ?_
    obtain rfl := is_some h
    exact aq_finx (l := [.cell 2 42, .tmp 3, .tmp 4]) (xs := [.st [.str (x0.extract 0 (r4.2.getD (r4.1.length : Int).toNat 0).toNat), .str ByteArray.empty, .int .i64 (r4.1.length : Int)], .int .i64 (r4.2.getD (r4.1.length : Int).toNat 0), .bool true]) idn [.v (.pair .str (.pair .str (.pair (.int .i64) .unit))) (((x0.extract 0 (r4.2.getD (r4.1.length : Int).toNat 0).toNat), (ByteArray.empty, ((r4.1.length : Int), ()))) : (ByteArray × (ByteArray × (Int × Unit)))), .int .i64 (r4.2.getD (r4.1.length : Int).toNat 0), .bool true] [] rfl (by exact ⟨⟨⟨_, _, rfl⟩, r_load_st [] [.cell (.str (x0.extract 0 (r4.2.getD (r4.1.length : Int).toNat 0).toNat)), .cell (.str ByteArray.empty), .cell (.int .i64 (r4.1.length : Int))] [] Tryd.isAgg42 Tryd.sizeOf42 rfl rfl rfl rfl rfl rfl rfl⟩, rfl, rfl, trivial⟩) (by exact ⟨ad_st rfl rfl ⟨ad_ren rfl, ad_ren rfl, ad_ren rfl, trivial⟩, ad_ren rfl, ad_ren rfl, trivial⟩) (by exact trivial) rfl (nk rfl) rfl rfl ⟨rfl, rfl⟩
theorem c_laws_FnExactRecoverLog {fu : Nat} {x0 : ByteArray} {r : Bool} (h : Is (p_laws_FnExactRecoverLog fu x0) (some r)) :
    Scalar Tryd.prog 5 [.str x0] (.bool r) := by
  unfold p_laws_FnExactRecoverLog at h
  refine ac_enter ⟨38, 0⟩ Tryd.func5 rfl rfl rfl rfl rfl (fun Γ => ?_)
  obtain ⟨gs0, h⟩ := is_guard h
  refine aw_seq ?_
  refine aw_region ?_
  refine ao_read trivial (r_assign rfl) rfl ?_
  refine ao_nil ?_
  refine aq_then ?_
  refine aw_seq ?_
  refine aw_seq ?_
  refine aw_region ?_
  refine ao_read trivial (r_move rfl) rfl ?_
  refine ao_read trivial (r_len_str Tryd.underlying9 rfl) rfl ?_
  refine ao_read trivial (r_gtr rfl rfl) rfl ?_
  refine ao_nil ?_
  refine aq_then ?_
  refine aw_cond rfl (fun hb1 => ?_) (fun hb1 => ?_)
  · have q2 := d_t hb1
    replace h := is_if (d_t hb1) h
    refine aw_seq ?_
    refine aw_region ?_
    refine ao_read trivial (r_assign rfl) rfl ?_
    refine ao_nil ?_
    refine aq_then ?_
    refine aw_ret ?_
    refine aq_then_ret ?_
    refine aq_ret ?_
    obtain rfl := is_some h
    exact aq_finx (l := [.tmp 2]) (xs := [.bool true]) idn [.bool true] [] rfl (by exact ⟨rfl, trivial⟩) (by exact ⟨ad_ren rfl, trivial⟩) (by exact trivial) rfl (nk rfl) rfl rfl ⟨rfl, rfl⟩
  · have q3 := d_f hb1
    replace h := is_else (d_f hb1) h
    refine aw_skip ?_
    refine aq_then ?_
    refine aw_seq ?_
    refine aw_region ?_
    refine ao_read trivial (r_move rfl) rfl ?_
    obtain ⟨r4, r4h, h⟩ := is_bind h
    refine ao_scall trivial (scall (c_spec_RecoverLog (is_mk r4h)) rfl Tryd.func26 rfl rfl rfl rfl (fun σ => ⟨ad_ren rfl, trivial⟩)) rfl ?_
    refine ao_read trivial (r_move rfl) rfl ?_
    refine ao_read trivial (r_extract rfl rfl) rfl ?_
    refine ao_read trivial (r_extract rfl rfl) rfl ?_
    refine ao_read trivial (r_extract rfl rfl) rfl ?_
    refine ao_eff trivial (e_alloc 0 (y := .st [.str ByteArray.empty, .str ByteArray.empty, .int .i64 0]) Tryd.zeroValue42 (fun ρ h M => ra_zero_st (t := (.pair .str (.pair .str (.pair (.int .i64) .unit)))) rfl rfl rfl) rfl rfl rfl rfl rfl) rfl ?_
    refine ao_effS trivial (e_store rfl rfl rfl rfl Tryd.sizeOf42 rfl) ?_
    refine ao_read trivial (r_assign rfl) rfl ?_
    refine ao_read trivial (r_assign rfl) rfl ?_
    refine ao_nil ?_
    refine aq_then ?_
    refine aw_seq ?_
    refine aw_region ?_
    refine ao_read trivial (r_move rfl) rfl ?_
    obtain ⟨r5, r5h, h⟩ := is_bind h
    refine ao_scall trivial (scall (c_impl_RecoverLog (is_mk r5h)) rfl Tryd.func27 rfl rfl rfl rfl (fun σ => ⟨ad_ren rfl, trivial⟩)) rfl ?_
    refine ao_read trivial (r_move rfl) rfl ?_
    refine ao_read trivial (r_extract rfl rfl) rfl ?_
    refine ao_read trivial (r_extract rfl rfl) rfl ?_
    refine ao_read trivial (r_extract rfl rfl) rfl ?_
    refine ao_eff trivial (e_alloc 1 (y := .st [.str ByteArray.empty, .str ByteArray.empty, .int .i64 0]) Tryd.zeroValue42 (fun ρ h M => ra_zero_st (t := (.pair .str (.pair .str (.pair (.int .i64) .unit)))) rfl rfl rfl) rfl rfl rfl rfl rfl) rfl ?_
    refine ao_effS trivial (e_store rfl rfl rfl rfl Tryd.sizeOf42 rfl) ?_
    refine ao_read trivial (r_assign rfl) rfl ?_
    refine ao_read trivial (r_assign rfl) rfl ?_
    refine ao_nil ?_
    refine aq_then ?_
    refine aw_seq ?_
    refine aw_seq ?_
    refine aw_region ?_
    refine ao_read trivial (r_load_part (τ := (.pair .str (.pair .str (.pair (.int .i64) .unit)))) (y := ((r5.1.1, (r5.1.2.1, (r5.1.2.2.1, ()))) : (ByteArray × (ByteArray × (Int × Unit))))) [] [] rfl Tryd.isAgg42 Tryd.sizeOf42 rfl rfl rfl rfl) rfl ?_
    refine ao_read trivial (r_load_part (τ := (.pair .str (.pair .str (.pair (.int .i64) .unit)))) (y := ((r4.1.1, (r4.1.2.1, (r4.1.2.2.1, ()))) : (ByteArray × (ByteArray × (Int × Unit))))) [] [] rfl Tryd.isAgg42 Tryd.sizeOf42 rfl rfl rfl rfl) rfl ?_
    refine ao_scall trivial (scall (c_laws_eqLog (is_mk (rfl : p_laws_eqLog (r5.1.1, (r5.1.2.1, (r5.1.2.2.1, ()))) (r4.1.1, (r4.1.2.1, (r4.1.2.2.1, ()))) = _))) rfl Tryd.func28 rfl rfl rfl rfl (fun σ => ⟨ad_ren rfl, ad_ren rfl, trivial⟩)) rfl ?_
    refine ao_read trivial (r_not rfl) rfl ?_
    refine ao_read trivial (r_move rfl) rfl ?_
    refine ao_readG (x := .int .i64 r5.2.1) rfl (GV.F rfl) (fun hg6 => r_move rfl) rfl ?_
    refine ao_readG (x := .int .i64 r4.2.1) rfl (GV.F rfl) (fun hg7 => r_move rfl) rfl ?_
    refine ao_readG (x := .bool (!(decide (r5.2.1 = r4.2.1)))) rfl (GV.F rfl) (fun hg8 => Reads.strip 29 rfl (hg8) (Reads.strip 30 rfl (hg8) (r_neq rfl rfl))) rfl ?_
    refine ao_read trivial (r_orB rfl rfl) rfl ?_
    refine ao_read trivial (r_move rfl) rfl ?_
    refine ao_readG (x := .bool r5.2.2) rfl (GV.F rfl) (fun hg9 => by
      obtain ⟨q10, q11⟩ := or_f (not_t hg9)
      have q12 := d_t (not_f q11)
      exact r_move rfl) rfl ?_
    refine ao_readG (x := .bool r4.2.2) rfl (GV.F rfl) (fun hg13 => by
      obtain ⟨q14, q15⟩ := or_f (not_t hg13)
      have q16 := d_t (not_f q15)
      exact r_move rfl) rfl ?_
    refine ao_readG (x := .bool (r5.2.2 != r4.2.2)) rfl (GV.F rfl) (fun hg17 => by
      obtain ⟨q18, q19⟩ := or_f (not_t hg17)
      have q20 := d_t (not_f q19)
      exact Reads.strip 34 rfl (hg17) (Reads.strip 35 rfl (hg17) (r_neq_bool Tryd.underlying4 rfl rfl))) rfl ?_
    refine ao_read trivial (r_orB rfl rfl) rfl ?_
    refine ao_nil ?_
    refine aq_then ?_
    refine aw_cond rfl (fun hb21 => ?_) (fun hb21 => ?_)
    · replace h := is_if hb21 h
      refine aw_seq ?_
      refine aw_region ?_
      refine ao_read trivial (r_assign rfl) rfl ?_
      refine ao_nil ?_
      refine aq_then ?_
      refine aw_ret ?_
      refine aq_then_ret ?_
      refine aq_ret ?_
      obtain rfl := is_some h
      exact aq_finx (l := [.tmp 2]) (xs := [.bool false]) idn [.bool false] [] rfl (by exact ⟨rfl, trivial⟩) (by exact ⟨ad_ren rfl, trivial⟩) (by exact trivial) rfl (nk rfl) rfl rfl ⟨rfl, rfl⟩
    · obtain ⟨q22, q23⟩ := or_f hb21
      obtain ⟨q24, q25⟩ := or_f q22
      have q26 := d_t (not_f q25)
      replace h := is_else (ne_t hb21) h
      refine aw_skip ?_
      refine aq_then ?_
      refine aw_seq ?_
      refine aw_region ?_
      refine ao_read trivial (r_assign rfl) rfl ?_
      refine ao_nil ?_
      refine aq_then ?_
      refine aw_ret ?_
      refine aq_ret ?_
      obtain rfl := is_some h
      exact aq_finx (l := [.tmp 2]) (xs := [.bool true]) idn [.bool true] [] rfl (by exact ⟨rfl, trivial⟩) (by exact ⟨ad_ren rfl, trivial⟩) (by exact trivial) rfl (nk rfl) rfl rfl ⟨rfl, rfl⟩
end Go.GA
