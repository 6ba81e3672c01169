/- Walks: what the Go functions compute, by the printed lines below; no further conditions. -/
import Derived.Test.YtiimmhnekpmnlaaDoorC12kw
namespace Go.GA
open Go Go.Proofs
set_option maxRecDepth 100000
set_option maxHeartbeats 2000000
set_option linter.unusedVariables false
set_option linter.unusedSimpArgs false
theorem c_impl_decode {x0 : Int} {x1 : ByteArray} {r : (ByteArray × (ByteArray × Unit)) × Bool} (h : Is (p_impl_decode x0 x1) (some r)) :
    Scalar Tryd.prog 64 [.int .i64 x0, .str x1] (.tup [.v (.pair .str (.pair .str .unit)) r.1, .bool r.2]) := by
  unfold p_impl_decode at h
  refine ac_enter ⟨52, 0⟩ Tryd.func64 rfl rfl rfl rfl rfl (fun Γ => ?_)
  obtain ⟨gs1, h⟩ := is_guard h
  refine aw_seq ?_
  refine aw_region ?_
  refine ao_eff trivial (e_alloc 0 (y := .st [.str ByteArray.empty, .str ByteArray.empty]) Tryd.zeroValue33 (fun ρ h M => ra_zero_st (t := (.pair .str (.pair .str .unit))) rfl rfl rfl) rfl rfl rfl rfl rfl) rfl ?_
  refine ao_read trivial (r_assign rfl) rfl ?_
  refine ao_nil ?_
  refine aq_then ?_
  refine aw_seq ?_
  refine aw_region ?_
  refine ao_read trivial (r_move rfl) rfl ?_
  obtain ⟨r1, r1h, h⟩ := is_bind h
  refine ao_scall trivial (scall (c_strings_Cut (is_mk r1h)) rfl Tryd.func73 rfl rfl rfl rfl (fun σ => ⟨ad_ren rfl, ad_ren rfl, trivial⟩)) rfl ?_
  refine ao_read trivial (r_move rfl) rfl ?_
  refine ao_read trivial (r_extract rfl rfl) rfl ?_
  refine ao_read trivial (r_extract rfl rfl) rfl ?_
  refine ao_read trivial (r_extract rfl rfl) rfl ?_
  refine ao_read trivial (r_assign rfl) rfl ?_
  refine ao_read trivial (r_assign rfl) rfl ?_
  refine ao_read trivial (r_assign rfl) rfl ?_
  refine ao_nil ?_
  refine aq_then ?_
  refine aw_seq ?_
  refine aw_region ?_
  refine ao_read trivial (r_move rfl) rfl ?_
  obtain ⟨r2, r2h, h⟩ := is_bind h
  refine ao_scall trivial (scall (c_strings_Cutv1 (is_mk r2h)) rfl Tryd.func73 rfl rfl rfl rfl (fun σ => ⟨ad_ren rfl, ad_ren rfl, trivial⟩)) rfl ?_
  refine ao_read trivial (r_move rfl) rfl ?_
  refine ao_read trivial (r_extract rfl rfl) rfl ?_
  refine ao_read trivial (r_extract rfl rfl) rfl ?_
  refine ao_read trivial (r_extract rfl rfl) rfl ?_
  refine ao_read trivial (r_assign rfl) rfl ?_
  refine ao_read trivial (r_assign rfl) rfl ?_
  refine ao_read trivial (r_assign rfl) rfl ?_
  refine ao_nil ?_
  refine aq_then ?_
  refine aw_seq ?_
  refine aw_region ?_
  refine ao_read trivial (r_move rfl) rfl ?_
  obtain ⟨r3, r3h, h⟩ := is_bind h
  refine ao_scall trivial (scall (c_strings_Cutv2 (is_mk r3h)) rfl Tryd.func73 rfl rfl rfl rfl (fun σ => ⟨ad_ren rfl, ad_ren rfl, trivial⟩)) rfl ?_
  refine ao_read trivial (r_move rfl) rfl ?_
  refine ao_read trivial (r_extract rfl rfl) rfl ?_
  refine ao_read trivial (r_extract rfl rfl) rfl ?_
  refine ao_read trivial (r_extract rfl rfl) rfl ?_
  refine ao_read trivial (r_assign rfl) rfl ?_
  refine ao_read trivial (r_assign rfl) rfl ?_
  refine ao_read trivial (r_assign rfl) rfl ?_
  refine ao_nil ?_
  refine aq_then ?_
  refine aw_seq ?_
  refine aw_region ?_
  refine ao_read trivial (r_move rfl) rfl ?_
  refine ao_read trivial (r_move rfl) rfl ?_
  refine ao_read trivial (r_build_stv (l := [(0, .tmp 36), (1, .tmp 37)]) (cs := [.cell (.str r3.1), .cell (.str r3.2.1)]) (.pair .str (.pair .str .unit)) ((r3.1, (r3.2.1, ())) : (ByteArray × (ByteArray × Unit))) [(0, 1), (1, 1)] Tryd.underlying33 Tryd.zeroValue33 rfl ⟨rfl, Tryd.sizeOf9, rfl, Tryd.sizeOf9, trivial⟩ rfl rfl rfl rfl) rfl ?_
  refine ao_eff trivial (e_alloc 1 (y := .st [.str ByteArray.empty, .str ByteArray.empty]) Tryd.zeroValue33 (fun ρ h M => ra_zero_st (t := (.pair .str (.pair .str .unit))) rfl rfl rfl) rfl rfl rfl rfl rfl) rfl ?_
  refine ao_effS trivial (e_store rfl rfl rfl rfl Tryd.sizeOf33 rfl) ?_
  refine ao_nil ?_
  refine aq_then ?_
  refine aw_seq ?_
  refine aw_region ?_
  refine ao_read trivial (r_move rfl) rfl ?_
  refine ao_read trivial (r_load_part (τ := (.pair .str (.pair .str .unit))) (y := ((r3.1, (r3.2.1, ())) : (ByteArray × (ByteArray × Unit)))) [] [] rfl Tryd.isAgg33 Tryd.sizeOf33 rfl rfl rfl rfl) rfl ?_
  obtain ⟨r4, r4h, h⟩ := is_bind h
  refine ao_scall trivial (scall (c_impl_EncodeRecord (is_mk r4h)) rfl Tryd.func13 rfl rfl rfl rfl (fun σ => ⟨ad_ren rfl, ad_ren rfl, trivial⟩)) rfl ?_
  refine ao_read trivial (r_move rfl) rfl ?_
  refine ao_read trivial (r_extract rfl rfl) rfl ?_
  refine ao_read trivial (r_extract rfl rfl) rfl ?_
  refine ao_read trivial (r_assign rfl) rfl ?_
  refine ao_read trivial (r_assign rfl) rfl ?_
  refine ao_nil ?_
  refine aq_then ?_
  refine aw_seq ?_
  refine aw_region ?_
  refine ao_read trivial (r_load_part (τ := (.pair .str (.pair .str .unit))) (y := ((r3.1, (r3.2.1, ())) : (ByteArray × (ByteArray × Unit)))) [] [] rfl Tryd.isAgg33 Tryd.sizeOf33 rfl rfl rfl rfl) rfl ?_
  refine ao_read trivial (r_move rfl) rfl ?_
  refine ao_read trivial (r_move rfl) rfl ?_
  refine ao_readG (x := .str r4.1) rfl (GV.T rfl) (fun hg5 => r_move rfl) rfl ?_
  refine ao_readG (x := .str x1) rfl (GV.T rfl) (fun hg6 => r_move rfl) rfl ?_
  refine ao_readG (x := .bool (eqS r4.1 x1)) rfl (GV.T rfl) (fun hg7 => Reads.strip 48 rfl (hg7) (Reads.strip 49 rfl (hg7) (r_eql_str rfl rfl))) rfl ?_
  refine ao_read trivial (r_andB rfl rfl) rfl ?_
  refine ao_effS trivial (e_store rfl rfl rfl rfl Tryd.sizeOf33 rfl) ?_
  refine ao_read trivial (r_assign rfl) rfl ?_
  refine ao_nil ?_
  refine aq_then ?_
  refine aw_ret ?_
  refine aq_ret ?_
  obtain rfl := is_some h
  exact aq_finx (l := [.cell 4 33, .tmp 5]) (xs := [.st [.str r3.1, .str r3.2.1], .bool (r4.2 && (eqS r4.1 x1))]) idn [.v (.pair .str (.pair .str .unit)) ((r3.1, (r3.2.1, ())) : (ByteArray × (ByteArray × Unit))), .bool (r4.2 && (eqS r4.1 x1))] [] rfl (by exact ⟨⟨⟨_, _, rfl⟩, r_load_st [] [.cell (.str r3.1), .cell (.str r3.2.1)] [] Tryd.isAgg33 Tryd.sizeOf33 rfl rfl rfl rfl rfl rfl rfl⟩, rfl, trivial⟩) (by exact ⟨ad_st rfl rfl ⟨ad_ren rfl, ad_ren rfl, trivial⟩, ad_ren rfl, trivial⟩) (by exact trivial) rfl (nk rfl) rfl rfl ⟨rfl, rfl⟩
theorem c_impl_decodeAll {fu : Nat} {x0 : ByteArray} {r : (List (ByteArray × (ByteArray × Unit))) × (List Int)} (h : Is (p_impl_decodeAll fu x0) (some r)) :
    ACalls Tryd.prog 48 [.str x0] [] (fun r' H' => r' = .tup [.os 0, .os 1] ∧ H' = [(0, .row (.pair .str (.pair .str .unit)) r.1), (1, .row (.int .i64) r.2)]) := by
  unfold p_impl_decodeAll at h
  refine ac_enterMR ⟨40, 0⟩ Tryd.func48 rfl rfl rfl rfl rfl rfl (fun Γ _ hΓ => ?_)
  obtain ⟨gs0, h⟩ := is_guard h
  refine aw_seq ?_
  refine aw_region ?_
  refine ao_read trivial (r_assign rfl) rfl ?_
  refine ao_read trivial (r_assign rfl) rfl ?_
  refine ao_nil ?_
  refine aq_then ?_
  refine aw_seq ?_
  refine aw_region ?_
  refine ao_eff trivial (e_alloc 0 (y := .nilsl) Tryd.zeroValue47 (fun ρ h M => rfl) rfl rfl rfl rfl rfl) rfl ?_
  refine ao_nil ?_
  refine aq_then ?_
  refine aw_seq ?_
  refine aw_region ?_
  refine ao_eff trivial (e_buildSlice (l := [(0, .const (.int .i64 0))]) (t := (.int .i64)) 1 ([0] : (List Int)) rfl Tryd.underlying62 Tryd.zeroValue3 Tryd.sizeOf3 rfl rfl rfl rfl rfl rfl rfl) rfl ?_
  refine ao_eff trivial (e_alloc 2 (y := .nilsl) Tryd.zeroValue62 (fun ρ h M => rfl) rfl rfl rfl rfl rfl) rfl ?_
  refine ao_effS trivial (e_store rfl rfl rfl rfl Tryd.sizeOf62 rfl) ?_
  refine ao_nil ?_
  refine aq_then ?_
  refine aw_seq ?_
  refine aw_seq ?_
  refine aw_region ?_
  refine ao_read trivial (r_move rfl) rfl ?_
  refine ao_call [] 3 trivial (c_strings_Lines (is_mk (rfl : p_strings_Lines x0 = _))) Tryd.func63 rfl rfl rfl rfl ⟨ad_ren rfl, trivial⟩ trivial rfl rfl rfl rfl rfl rfl rfl (fun r' H' hr => ?_)
  obtain ⟨rfl, rfl⟩ := hr
  refine ao_norm (y := .fn 71 [.ref 3 0]) (H' := [(2, .var [.cell (.os 1)]), (1, .row (.int .i64) ([0] : (List Int))), (0, .var [.cell (.nilsl)]), (3, .var [.cell (.str (p_strings_Lines x0))])]) rfl rfl ?_
  refine ao_nil ?_
  refine aq_then ?_
  refine aw_block ?_
  refine AW.sub (fr' := [(4, .ref 0 0), (5, .ref 1 0), (11, .fn 71 [.ref 2 0])]) (H' := [(0, .var [.cell (.nilsl)]), (1, .var [.cell (.os 3)]), (2, .var [.cell (.str (p_strings_Lines x0))]), (3, .row (.int .i64) ([0] : (List Int)))]) (sub_mk (rn [(1, 2), (2, 3), (3, 1)]) (by exact ⟨⟨_, rfl, ad_ren rfl⟩, ⟨_, rfl, ad_ren rfl⟩, ⟨_, rfl, ad_ren rfl⟩, trivial⟩) (by exact ⟨⟨_, rfl, ⟨ad_ren rfl, rfl, trivial⟩⟩, ⟨_, rfl, ⟨ad_ren rfl, rfl, trivial⟩⟩, ⟨_, rfl, ⟨ad_ren rfl, rfl, trivial⟩⟩, ⟨_, rfl, rfl⟩, trivial⟩) (by rfl) (nk rfl)) ?_
  refine aw_rangeFunc ⟨25, 3⟩ hΓ rfl Tryd.func71 rfl rfl rfl rfl rfl rfl rfl (fun E Γi _ hE hR hd => ?_)
  refine aw_block ?_
  refine AW.sub (sub_nil_cell (t := (.pair .str (.pair .str .unit))) (i := 0) 5 [] [] rfl rfl rfl) ?_
  refine aw_loop (AL.sub (sub_mk (rn [(3, 5), (4, 3)]) (by exact ⟨⟨_, rfl, ad_ren rfl⟩, ⟨_, rfl, ad_ren rfl⟩, trivial⟩) (by exact ⟨⟨_, rfl, ⟨ad_ren rfl, rfl, trivial⟩⟩, ⟨_, rfl, ⟨ad_ren rfl, rfl, trivial⟩⟩, ⟨_, rfl, ⟨ad_ren rfl, rfl, trivial⟩⟩, ⟨_, rfl, rfl⟩, ⟨_, rfl, rfl⟩, trivial⟩) (by rfl) (nkL rfl)) (al_whl (fun (s1 : ByteArray × (List (ByteArray × (ByteArray × Unit))) × (List Int)) => [(0, .yl E.l), (1, .ref 2 0)]) (fun (s1 : ByteArray × (List (ByteArray × (ByteArray × Unit))) × (List Int)) => [(0, .var [.cell (.os 3)]), (1, .var [.cell (.os 4)]), (2, .var [.cell (.str s1.1)]), (3, .row (.pair .str (.pair .str .unit)) s1.2.1), (4, .row (.int .i64) s1.2.2)]) (fun (s1 : ByteArray × (List (ByteArray × (ByteArray × Unit))) × (List Int)) => True) h trivial (fun d3 s1 hI h ih3 => ?_)))
  replace h := is_whlS h
  refine al_round ?_
  refine aw_seq ?_
  refine aw_seq ?_
  refine aw_region ?_
  refine ao_read trivial (r_load_cell Tryd.isAgg9 rfl rfl rfl) rfl ?_
  refine ao_read trivial (r_len_str Tryd.underlying9 rfl) rfl ?_
  refine ao_read trivial (r_gtr rfl rfl) rfl ?_
  refine ao_nil ?_
  refine aq_then ?_
  refine aw_cond rfl (fun hb5 => ?_) (fun hb5 => ?_)
  · have q6 := d_t hb5
    replace h := is_if (d_t hb5) h
    refine aw_skip ?_
    refine aq_then ?_
    refine aw_block ?_
    refine aw_seq ?_
    refine aw_region ?_
    refine ao_read trivial (r_assign rfl) rfl ?_
    refine ao_nil ?_
    refine aq_then ?_
    refine aw_join (fun (s8 : ByteArray × ByteArray) => [(0, .yl E.l), (1, .ref 2 0), (3, .str s8.1)]) (fun (s8 : ByteArray × ByteArray) => [(0, .var [.cell (.os 3)]), (1, .var [.cell (.os 4)]), (2, .var [.cell (.str s8.2)]), (3, .row (.pair .str (.pair .str .unit)) s1.2.1), (4, .row (.int .i64) s1.2.2)]) (fun (s8 : ByteArray × ByteArray) => True) h (fun s8 hI h => ?_) (fun h j10 => ?_)
    · refine aw_seq ?_
      refine aw_regionI ?_
      refine aoi_op rfl (fun _ _ h => h) ?_
      refine ao_read trivial (r_move rfl) rfl ?_
      refine ao_nil (aoi_in ?_)
      refine aoi_op rfl (fun _ _ h => h) ?_
      refine ao_read trivial (r_move rfl) rfl ?_
      refine ao_nil (aoi_in ?_)
      refine aoi_yield hE hR hd hE.K.symm (hE.fl rfl) rfl rfl rfl (fun ai Γa _ hw => ?_)
      refine awi_region rfl (fun _ _ h => h) ?_
      refine ao_read trivial (r_assign rfl) rfl ?_
      refine ao_nil ?_
      refine aq_begin hw hE.ready hR.at_l (Nat.le_of_eq hE.K.symm) (hE.fl rfl) hE.K.symm (fun Γb _ hwb => ?_)
      refine awi_block ?_
      refine awi_seq ?_
      refine awi_region rfl (fun _ _ h => h) ?_
      refine ao_read trivial (r_load_cell Tryd.isAgg47 rfl rfl rfl) rfl ?_
      refine ao_read trivial (r_len_osm (s1.2.1.length : Int) Tryd.underlying47 rfl rfl rfl) rfl ?_
      refine ao_read trivial (r_move rfl) rfl ?_
      obtain ⟨r11, r11h, h⟩ := is_bind h
      refine ao_scall trivial (scall (c_impl_decode (is_mk r11h)) rfl Tryd.func64 rfl rfl rfl rfl (fun σ => ⟨ad_ren rfl, ad_ren rfl, trivial⟩)) rfl ?_
      refine ao_read trivial (r_move rfl) rfl ?_
      refine ao_read trivial (r_extract rfl rfl) rfl ?_
      refine ao_read trivial (r_extract rfl rfl) rfl ?_
      refine ao_eff trivial (e_alloc 5 (y := .st [.str ByteArray.empty, .str ByteArray.empty]) Tryd.zeroValue33 (fun ρ h M => ra_zero_st (t := (.pair .str (.pair .str .unit))) rfl rfl rfl) rfl rfl rfl rfl rfl) rfl ?_
      refine ao_effS trivial (e_store rfl rfl rfl rfl Tryd.sizeOf33 rfl) ?_
      refine ao_read trivial (r_assign rfl) rfl ?_
      refine ao_nil ?_
      refine aqi_then ?_
      refine awi_seq ?_
      refine awi_seq ?_
      refine awi_region rfl (fun _ _ h => h) ?_
      refine ao_read trivial (r_move rfl) rfl ?_
      refine ao_read trivial (r_not rfl) rfl ?_
      refine ao_nil ?_
      refine aqi_then ?_
      refine awi_cond rfl (fun hb12 => ?_) (fun hb12 => ?_)
      · replace h := is_else (ne_t (not_t hb12)) h
        refine awi_exit ?_
        refine aq_then_exit ?_
        refine aq_in_other rfl ?_
        refine aq_stop_exit hE hR hwb rfl hE.K.symm hE.K.symm (hE.fl rfl) rfl hd (fun Γs _ hds hRs => ?_)
        refine aoi_op rfl (fun _ _ h => h) ?_
        refine ao_read trivial (r_not rfl) rfl ?_
        refine ao_nil (aoi_in ?_)
        refine aoi_nil ?_
        refine aq_then ?_
        refine aw_cond rfl (fun _ => ?_) (fun hb => absurd hb (by decide))
        refine aw_ret ?_
        refine aq_in_ret ?_
        refine aq_then_ret ?_
        refine aq_in_ret ?_
        refine aq_stopped hE hRs hΓ hds rfl (fun Γ2 _ hB => ?_)
        refine aw_exit ?_
        refine aq_in_exit ?_
        refine aq_then ?_
        refine aw_seq ?_
        refine aw_drawAll (by kernel_rfl) ?_
        refine an_read 0 (by kernel_rfl) (fun _ _ _ h => h) rfl (by kernel_rfl) trivial (r_load_cell Tryd.isAgg47 rfl rfl rfl) rfl ?_
        refine an_read 1 (by kernel_rfl) (fun _ _ _ h => h) rfl (by kernel_rfl) trivial (r_load_cell Tryd.isAgg62 rfl rfl rfl) rfl ?_
        refine an_read 2 (by kernel_rfl) (fun _ _ _ h => h) rfl (by kernel_rfl) trivial (r_assign rfl) rfl ?_
        refine an_read 3 (by kernel_rfl) (fun _ _ _ h => h) rfl (by kernel_rfl) trivial (r_assign rfl) rfl ?_
        refine an_done rfl ?_
        refine aq_then ?_
        refine aw_ret ?_
        refine aqm_ret hB ?_
        obtain rfl := is_some h
        exact aq_finx (l := [.tmp 2, .tmp 3]) (xs := [.os 3, .os 4]) (rn [(0, 3), (1, 4)]) [.os 0, .os 1] [(0, .row (.pair .str (.pair .str .unit)) s1.2.1), (1, .row (.int .i64) s1.2.2)] rfl (by exact ⟨rfl, rfl, trivial⟩) (by exact ⟨ad_ren rfl, ad_ren rfl, trivial⟩) (by exact ⟨⟨_, rfl, rfl⟩, ⟨_, rfl, rfl⟩, trivial⟩) rfl (nk rfl) rfl rfl ⟨rfl, rfl⟩
      · replace h := is_if (not_f hb12) h
        refine awi_skip ?_
        refine aqi_then ?_
        refine awi_seq ?_
        refine awi_region rfl (fun _ _ h => h) ?_
        refine ao_read trivial (r_load_cell Tryd.isAgg47 rfl rfl rfl) rfl ?_
        refine ao_read trivial (r_load_part (τ := (.pair .str (.pair .str .unit))) (y := ((r11.1.1, (r11.1.2.1, ())) : (ByteArray × (ByteArray × Unit)))) [] [] rfl Tryd.isAgg33 Tryd.sizeOf33 rfl rfl rfl rfl) rfl ?_
        refine ao_eff trivial (e_buildSlice (l := [(0, .tmp 23)]) (t := (.pair .str (.pair .str .unit))) 6 ([(r11.1.1, (r11.1.2.1, ()))] : (List (ByteArray × (ByteArray × Unit)))) rfl Tryd.underlying47 Tryd.zeroValue33 Tryd.sizeOf33 rfl rfl rfl rfl rfl rfl rfl) rfl ?_
        obtain ⟨g13, h⟩ := is_guard h
        refine ao_eff trivial (e_append (t := (.pair .str (.pair .str .unit))) 7 rfl Tryd.underlying47 (rfl : Tryd.prog.info? 33 = some _) rfl rfl rfl rfl rfl rfl rfl (src_os rfl) (show s1.2.1.length + ([(r11.1.1, (r11.1.2.1, ()))] : (List (ByteArray × (ByteArray × Unit)))).length ≤ 1000000000 from by (try simp only [List.length_cons, List.length_nil]) <;> omega) rfl rfl) rfl ?_
        refine ao_effS trivial (e_store rfl rfl rfl rfl Tryd.sizeOf47 rfl) ?_
        refine ao_nil ?_
        refine aqi_then ?_
        obtain ⟨g14, h⟩ := is_guard h
        refine awi_draw rfl (fun _ _ h => h) 11 (by kernel_rfl) (by kernel_rfl) ?_
        refine an_to [(5, .ref 1 0), (26, .os 3), (36, .os 4)] [(0, .var [.cell (.os 5)]), (1, .var [.cell (.os 3)]), (2, .var [.cell (.str s8.2)]), (3, .row (.int .i64) s1.2.2), (4, .row (.int .i64) ([(IntKind.wrap .i64 ((s1.2.2.getD (((s1.2.1.length : Int) + 1) - 1).toNat 0) + (s8.1.size : Int)))] : (List Int))), (5, .row (.pair .str (.pair .str .unit)) ((s1.2.1 ++ [(r11.1.1, (r11.1.2.1, ()))]) : (List (ByteArray × (ByteArray × Unit)))))] ?_ (fun key => ?_)
        · refine aq_tail rfl ?_
          obtain ⟨g15, h⟩ := is_guard h
          refine ao_eff trivial (e_append (t := (.int .i64)) 6 rfl Tryd.underlying62 (rfl : Tryd.prog.info? 3 = some _) rfl rfl rfl rfl rfl rfl rfl (src_os rfl) (show s1.2.2.length + ([(IntKind.wrap .i64 ((s1.2.2.getD (((s1.2.1.length : Int) + 1) - 1).toNat 0) + (s8.1.size : Int)))] : (List Int)).length ≤ 1000000000 from by (try simp only [List.length_cons, List.length_nil]) <;> omega) rfl rfl) rfl ?_
          refine ao_effS trivial (e_store rfl rfl rfl rfl Tryd.sizeOf62 rfl) ?_
          refine ao_nil ?_
          refine aq_in ?_
          refine aq_next hE hwb rfl hR.at_l hE.K.symm rfl ?_
          refine aoi_op rfl (fun _ _ h => h) ?_
          refine ao_read trivial (r_not rfl) rfl ?_
          refine ao_nil (aoi_in ?_)
          refine aoi_nil ?_
          refine aq_then ?_
          refine aw_cond rfl (fun hb => absurd hb (by decide)) (fun _ => ?_)
          refine aw_skip ?_
          refine aq_in ?_
          exact aq_again (AL.sub (sub_mk (rn [(3, 5), (4, 6)]) (by exact ⟨⟨_, rfl, ad_ren rfl⟩, ⟨_, rfl, ad_ren rfl⟩, trivial⟩) (by exact ⟨⟨_, rfl, ⟨ad_ren rfl, rfl, trivial⟩⟩, ⟨_, rfl, ⟨ad_ren rfl, rfl, trivial⟩⟩, ⟨_, rfl, ⟨ad_ren rfl, rfl, trivial⟩⟩, ⟨_, rfl, rfl⟩, ⟨_, rfl, rfl⟩, trivial⟩) (by rfl) (nkL rfl)) (ih3 (s8.2, (s1.2.1 ++ [(r11.1.1, (r11.1.2.1, ()))]), (s1.2.2 ++ [(IntKind.wrap .i64 ((s1.2.2.getD (((s1.2.1.length : Int) + 1) - 1).toNat 0) + (s8.1.size : Int)))])) trivial h))
        · refine an_read 0 (by kernel_rfl) (fun _ _ _ h => h) rfl (by kernel_rfl) trivial (r_load_cell Tryd.isAgg62 rfl rfl rfl) rfl ?_
          refine an_read 1 (by kernel_rfl) (fun _ _ _ h => h) rfl (by kernel_rfl) trivial (r_load_cell Tryd.isAgg62 rfl rfl rfl) rfl ?_
          refine an_read 2 (by kernel_rfl) (fun _ _ _ h => h) rfl (by kernel_rfl) trivial (r_load_cell Tryd.isAgg47 rfl rfl rfl) rfl ?_
          refine an_read 3 (by kernel_rfl) (fun _ _ _ h => h) rfl (by kernel_rfl) trivial (r_len_osm ((s1.2.1.length : Int) + 1) Tryd.underlying47 rfl rfl (show ((s1.2.1 ++ [(r11.1.1, (r11.1.2.1, ()))]).length : Int) = ((s1.2.1.length : Int) + 1) from by (try simp only [List.length_append, List.length_cons, List.length_nil]) <;> omega)) rfl ?_
          refine an_read 4 (by kernel_rfl) (fun _ _ _ h => h) rfl (by kernel_rfl) trivial (r_subI rfl rfl (wrap_id (by omega) (by omega))) rfl ?_
          refine an_read 5 (by kernel_rfl) (fun _ _ _ h => h) rfl (by kernel_rfl) trivial (r_idxAddr_os Tryd.underlying62 Tryd.sizeOf3 rfl rfl rfl (show 0 ≤ (((s1.2.1.length : Int) + 1) - 1) from by omega) (show (((s1.2.1.length : Int) + 1) - 1) < (s1.2.2.length : Int) from by omega)) rfl ?_
          refine an_read 6 (by kernel_rfl) (fun _ _ _ h => h) rfl (by kernel_rfl) trivial (r_load_elem_int Tryd.isAgg3 Tryd.sizeOf3 rfl rfl (show (((s1.2.1.length : Int) + 1) - 1).toNat < s1.2.2.length from by omega)) rfl ?_
          refine an_read 7 (by kernel_rfl) (fun _ _ _ h => h) rfl (by kernel_rfl) trivial (r_move rfl) rfl ?_
          refine an_read 8 (by kernel_rfl) (fun _ _ _ h => h) rfl (by kernel_rfl) trivial (r_len_str Tryd.underlying9 rfl) rfl ?_
          refine an_read 9 (by kernel_rfl) (fun _ _ _ h => h) rfl (by kernel_rfl) trivial (r_add rfl rfl) rfl ?_
          refine an_explore 8 rfl ?_
          refine ax_all [10] (by kernel_rfl) ⟨?_, trivial⟩
          refine axo_eff 10 rfl trivial (e_buildSlice (l := [(0, .tmp 35)]) (t := (.int .i64)) 8 ([(IntKind.wrap .i64 ((s1.2.2.getD (((s1.2.1.length : Int) + 1) - 1).toNat 0) + (s8.1.size : Int)))] : (List Int)) rfl Tryd.underlying62 Tryd.zeroValue3 Tryd.sizeOf3 rfl rfl rfl rfl rfl rfl rfl) rfl rfl ?_
          exact ax_done rfl (AQ.sub (sub_mk (rn [(3, 4), (4, 8), (5, 7)]) (by exact ⟨⟨_, rfl, ad_ren rfl⟩, ⟨_, rfl, ad_ren rfl⟩, ⟨_, rfl, ad_ren rfl⟩, trivial⟩) (by exact ⟨⟨_, rfl, ⟨ad_ren rfl, rfl, trivial⟩⟩, ⟨_, rfl, ⟨ad_ren rfl, rfl, trivial⟩⟩, ⟨_, rfl, ⟨ad_ren rfl, rfl, trivial⟩⟩, ⟨_, rfl, rfl⟩, ⟨_, rfl, rfl⟩, ⟨_, rfl, rfl⟩, trivial⟩) (by rfl) (nkL rfl)) key)
    · refine aw_seq ?_
      refine aw_region ?_
      refine ao_read trivial (r_load_cell Tryd.isAgg9 rfl rfl rfl) rfl ?_
      refine ao_scall trivial (scall (c_strings_IndexByte (is_mk (rfl : p_strings_IndexByte s1.1 10 = _))) rfl Tryd.func72 rfl rfl rfl rfl (fun σ => ⟨ad_ren rfl, ad_ren rfl, trivial⟩)) rfl ?_
      refine ao_read trivial (r_assign rfl) rfl ?_
      refine ao_nil ?_
      refine aq_then ?_
      refine aw_seq ?_
      refine aw_region ?_
      refine ao_read trivial (r_move rfl) rfl ?_
      refine ao_read trivial (r_geq rfl rfl) rfl ?_
      refine ao_nil ?_
      refine aq_then ?_
      refine aw_cond rfl (fun hb16 => ?_) (fun hb16 => ?_)
      · have q17 := d_t hb16
        replace h := is_if (d_t hb16) h
        obtain ⟨g19, h⟩ := is_guard h
        obtain ⟨g20, h⟩ := is_guard h
        refine aw_draw 9 (by kernel_rfl) (by kernel_rfl) ?_
        refine an_read 0 (by kernel_rfl) (fun _ _ _ h => h) rfl (by kernel_rfl) trivial (r_load_cell Tryd.isAgg9 rfl rfl rfl) rfl ?_
        refine an_read 1 (by kernel_rfl) (fun _ _ _ h => h) rfl (by kernel_rfl) trivial (r_move rfl) rfl ?_
        refine an_read 2 (by kernel_rfl) (fun _ _ _ h => h) rfl (by kernel_rfl) trivial (r_add rfl rfl) rfl ?_
        refine an_read 3 (by kernel_rfl) (fun _ _ _ h => h) rfl (by kernel_rfl) trivial (r_slice_str Tryd.underlying9 rfl .none (.some rfl) (show 0 ≤ 0 from by omega) (show 0 ≤ (IntKind.wrap .i64 ((p_strings_IndexByte s1.1 10) + 1)) from by omega) (show (IntKind.wrap .i64 ((p_strings_IndexByte s1.1 10) + 1)) ≤ (s1.1.size : Int) from by omega)) rfl ?_
        refine an_read 4 (by kernel_rfl) (fun _ _ _ h => h) rfl (by kernel_rfl) trivial (r_load_cell Tryd.isAgg9 rfl rfl rfl) rfl ?_
        refine an_read 5 (by kernel_rfl) (fun _ _ _ h => h) rfl (by kernel_rfl) trivial (r_move rfl) rfl ?_
        refine an_read 6 (by kernel_rfl) (fun _ _ _ h => h) rfl (by kernel_rfl) trivial (r_add rfl rfl) rfl ?_
        refine an_read 7 (by kernel_rfl) (fun _ _ _ h => h) rfl (by kernel_rfl) trivial (r_slice_str Tryd.underlying9 rfl (.some rfl) .none (show 0 ≤ (IntKind.wrap .i64 ((p_strings_IndexByte s1.1 10) + 1)) from by omega) (show (IntKind.wrap .i64 ((p_strings_IndexByte s1.1 10) + 1)) ≤ (s1.1.size : Int) from by omega) (show (s1.1.size : Int) ≤ (s1.1.size : Int) from by omega)) rfl ?_
        refine an_read 8 (by kernel_rfl) (fun _ _ _ h => h) rfl (by kernel_rfl) trivial (r_assign rfl) rfl ?_
        refine an_tail rfl rfl ?_
        refine ao_effS trivial (e_store rfl rfl rfl rfl Tryd.sizeOf9 rfl) ?_
        refine ao_nil ?_
        exact aq_then (AW.sub (sub_mk idn (by exact ⟨⟨_, rfl, ad_ren rfl⟩, ⟨_, rfl, ad_ren rfl⟩, ⟨_, rfl, ad_ren rfl⟩, trivial⟩) (by exact ⟨⟨_, rfl, ⟨ad_ren rfl, rfl, trivial⟩⟩, ⟨_, rfl, ⟨ad_ren rfl, rfl, trivial⟩⟩, ⟨_, rfl, ⟨ad_ren rfl, rfl, trivial⟩⟩, ⟨_, rfl, rfl⟩, ⟨_, rfl, rfl⟩, trivial⟩) (by rfl) (nkL rfl)) (j10 ((s1.1.extract 0 (IntKind.wrap .i64 ((p_strings_IndexByte s1.1 10) + 1)).toNat), (s1.1.extract (IntKind.wrap .i64 ((p_strings_IndexByte s1.1 10) + 1)).toNat ((s1.1.size : Int)).toNat)) trivial h))
      · have q18 := d_f hb16
        replace h := is_else (d_f hb16) h
        refine aw_region ?_
        refine ao_read trivial (r_load_cell Tryd.isAgg9 rfl rfl rfl) rfl ?_
        refine ao_read trivial (r_assign rfl) rfl ?_
        refine ao_effS trivial (e_store rfl rfl rfl rfl Tryd.sizeOf9 rfl) ?_
        refine ao_nil ?_
        exact aq_then (AW.sub (sub_mk idn (by exact ⟨⟨_, rfl, ad_ren rfl⟩, ⟨_, rfl, ad_ren rfl⟩, ⟨_, rfl, ad_ren rfl⟩, trivial⟩) (by exact ⟨⟨_, rfl, ⟨ad_ren rfl, rfl, trivial⟩⟩, ⟨_, rfl, ⟨ad_ren rfl, rfl, trivial⟩⟩, ⟨_, rfl, ⟨ad_ren rfl, rfl, trivial⟩⟩, ⟨_, rfl, rfl⟩, ⟨_, rfl, rfl⟩, trivial⟩) (by rfl) (nkL rfl)) (j10 (s1.1, (ByteArray.mk #[])) trivial h))
  · have q7 := d_f hb5
    replace h := is_else (d_f hb5) h
    refine aw_exit ?_
    refine aq_then_exit ?_
    refine aq_then_exit ?_
    refine aq_in_exit ?_
    refine aq_iter_end ?_
    refine aq_done hE hR hΓ hd rfl (fun Γ2 _ hB => ?_)
    refine aq_in ?_
    refine aq_then ?_
    refine aw_seq ?_
    refine aw_drawAll (by kernel_rfl) ?_
    refine an_read 0 (by kernel_rfl) (fun _ _ _ h => h) rfl (by kernel_rfl) trivial (r_load_cell Tryd.isAgg47 rfl rfl rfl) rfl ?_
    refine an_read 1 (by kernel_rfl) (fun _ _ _ h => h) rfl (by kernel_rfl) trivial (r_load_cell Tryd.isAgg62 rfl rfl rfl) rfl ?_
    refine an_read 2 (by kernel_rfl) (fun _ _ _ h => h) rfl (by kernel_rfl) trivial (r_assign rfl) rfl ?_
    refine an_read 3 (by kernel_rfl) (fun _ _ _ h => h) rfl (by kernel_rfl) trivial (r_assign rfl) rfl ?_
    refine an_done rfl ?_
    refine aq_then ?_
    refine aw_ret ?_
    refine aqm_ret hB ?_
    obtain rfl := is_some h
    exact aq_finx (l := [.tmp 2, .tmp 3]) (xs := [.os 3, .os 4]) (rn [(0, 3), (1, 4)]) [.os 0, .os 1] [(0, .row (.pair .str (.pair .str .unit)) s1.2.1), (1, .row (.int .i64) s1.2.2)] rfl (by exact ⟨rfl, rfl, trivial⟩) (by exact ⟨ad_ren rfl, ad_ren rfl, trivial⟩) (by exact ⟨⟨_, rfl, rfl⟩, ⟨_, rfl, rfl⟩, trivial⟩) rfl (nk rfl) rfl rfl ⟨rfl, rfl⟩
theorem c_slices_Index_int_int {x0 : (List Int)} {x1 : Int} {r : Int} (h : Is (p_slices_Index_int_int x0 x1) r) :
    Scalar Tryd.prog 70 [.v (.slice (.int .i64)) x0, .int .i64 x1] (.int .i64 r) := by
  unfold p_slices_Index_int_int at h
  refine ac_enter ⟨19, 0⟩ Tryd.func70 rfl rfl rfl rfl rfl (fun Γ => ?_)
  refine sl_len_m 0 (x0.length : Int) rfl rfl (fun hl0 => ?_)
  refine aw_seq ?_
  refine aw_region ?_
  refine ao_read trivial (r_assign rfl) rfl ?_
  refine ao_nil ?_
  refine aq_then ?_
  refine aw_seq ?_
  refine aw_seq ?_
  refine aw_region ?_
  refine ao_read trivial (r_move rfl) rfl ?_
  refine ao_read trivial (r_len_vm (x0.length : Int) Tryd.underlying62 rfl rfl) rfl ?_
  refine ao_read trivial (r_move rfl) rfl ?_
  refine ao_nil ?_
  refine aq_then ?_
  refine aw_block ?_
  refine aw_loop (AL.sub (fr' := [(0, .v (.slice (.int .i64)) x0), (1, .int .i64 x1), (7, .int .i64 (x0.length : Int)), (8, .int .i64 0)]) (H' := []) (sub_mk idn (by exact ⟨⟨_, rfl, ad_ren rfl⟩, ⟨_, rfl, ad_ren rfl⟩, ⟨_, rfl, ad_ren rfl⟩, ⟨_, rfl, ad_ren rfl⟩, trivial⟩) (by exact trivial) (by rfl) (nk rfl)) (al_cnt (fun i2 (s1 : Unit) => [(0, .v (.slice (.int .i64)) x0), (1, .int .i64 x1), (7, .int .i64 (x0.length : Int)), (8, .int .i64 i2)]) (fun i2 (s1 : Unit) => []) (fun d i2 (s1 : Unit) => d = Int.toNat ((x0.length : Int) - i2) ∧ 0 ≤ i2 ∧ i2 ≤ (x0.length : Int)) h ⟨rfl, (by (try simp only [List.length_set, List.length_append, List.length_cons, List.length_nil, List.length_replicate, List.length_take, List.length_drop]) <;> omega), (by (try simp only [List.length_set, List.length_append, List.length_cons, List.length_nil, List.length_replicate, List.length_take, List.length_drop]) <;> omega)⟩ (fun d3 i2 s1 hI h ih3 => ?_)))
  obtain ⟨hd, _, _⟩ := hI
  refine al_round ?_
  refine aw_seq ?_
  refine aw_region ?_
  refine ao_read trivial (r_lss rfl rfl) rfl ?_
  refine ao_nil ?_
  refine aq_then ?_
  refine aw_seq ?_
  refine aw_cond rfl (fun hb5 => ?_) (fun hb5 => ?_)
  · have q6 := d_t hb5
    obtain ⟨d3, rfl⟩ : ∃ e, d3 = e + 1 := ⟨d3 - 1, by omega⟩
    replace h := is_cntS h
    refine aw_skip ?_
    refine aq_then ?_
    refine aw_seq ?_
    refine aw_block ?_
    refine aw_seq ?_
    refine aw_region ?_
    refine ao_read trivial (r_move rfl) rfl ?_
    refine ao_read trivial (r_assign rfl) rfl ?_
    refine ao_nil ?_
    refine aq_then ?_
    refine aw_seq ?_
    refine aw_region ?_
    refine ao_read trivial (r_move rfl) rfl ?_
    refine ao_read trivial (r_move rfl) rfl ?_
    refine ao_read trivial (r_move rfl) rfl ?_
    refine ao_read trivial (r_idxAddr_int Tryd.underlying62 Tryd.sizeOf3 rfl rfl (show 0 ≤ i2 from by omega) (show i2 < (x0.length : Int) from by omega)) rfl ?_
    refine ao_read trivial (r_load_c_int Tryd.isAgg3 Tryd.sizeOf3 rfl) rfl ?_
    refine ao_read trivial (r_eql rfl rfl) rfl ?_
    refine ao_nil ?_
    refine aq_then ?_
    refine aw_cond rfl (fun hb8 => ?_) (fun hb8 => ?_)
    · have q9 : x1 = (x0.getD i2.toNat 0) := d_t hb8
      replace h := is_if (d_t hb8) h
      refine aw_seq ?_
      refine aw_region ?_
      refine ao_read trivial (r_move rfl) rfl ?_
      refine ao_read trivial (r_assign rfl) rfl ?_
      refine ao_nil ?_
      refine aq_then ?_
      refine aw_ret ?_
      refine aq_in_ret ?_
      refine aq_then_ret ?_
      refine aq_then_ret ?_
      refine aq_in_ret ?_
      refine aq_then_ret ?_
      refine aq_ret ?_
      obtain rfl := is_eq h
      exact aq_finx (l := [.tmp 4]) (xs := [.int .i64 i2]) idn [.int .i64 i2] [] rfl (by exact ⟨rfl, trivial⟩) (by exact ⟨ad_ren rfl, trivial⟩) (by exact trivial) rfl (nk rfl) rfl rfl ⟨rfl, rfl⟩
    · have q10 : ¬ (x1 = (x0.getD i2.toNat 0)) := d_f hb8
      replace h := is_else (d_f hb8) h
      refine aw_skip ?_
      refine aq_in ?_
      refine aq_then ?_
      refine aw_region ?_
      refine ao_read trivial (r_addI rfl rfl (wrap_id (by omega) (by omega))) rfl ?_
      refine ao_read trivial (r_move rfl) rfl ?_
      refine ao_nil ?_
      exact aq_again (AL.sub (sub_mk idn (by exact ⟨⟨_, rfl, ad_ren rfl⟩, ⟨_, rfl, ad_ren rfl⟩, ⟨_, rfl, ad_ren rfl⟩, ⟨_, rfl, ad_ren rfl⟩, trivial⟩) (by exact trivial) (by rfl) (nk rfl)) (ih3 d3 (i2 + 1) () (by omega) ⟨by omega, (by (try simp only [List.length_set, List.length_append, List.length_cons, List.length_nil, List.length_replicate, List.length_take, List.length_drop]) <;> omega), (by (try simp only [List.length_set, List.length_append, List.length_cons, List.length_nil, List.length_replicate, List.length_take, List.length_drop]) <;> omega)⟩ h))
  · have q7 := d_f hb5
    obtain rfl : d3 = 0 := by omega
    replace h := is_cnt0 h
    refine aw_exit ?_
    refine aq_then_exit ?_
    refine aq_then_exit ?_
    refine aq_in_exit ?_
    refine aq_then ?_
    refine aw_seq ?_
    refine aw_region ?_
    refine ao_read trivial (r_assign rfl) rfl ?_
    refine ao_nil ?_
    refine aq_then ?_
    refine aw_ret ?_
    refine aq_ret ?_
    obtain rfl := is_eq h
    exact aq_finx (l := [.tmp 4]) (xs := [.int .i64 (-1)]) idn [.int .i64 (-1)] [] rfl (by exact ⟨rfl, trivial⟩) (by exact ⟨ad_ren rfl, trivial⟩) (by exact trivial) rfl (nk rfl) rfl rfl ⟨rfl, rfl⟩
theorem c_slices_Contains_int_int {x0 : (List Int)} {x1 : Int} {r : Bool} (h : Is (p_slices_Contains_int_int x0 x1) r) :
    Scalar Tryd.prog 60 [.v (.slice (.int .i64)) x0, .int .i64 x1] (.bool r) := by
  unfold p_slices_Contains_int_int at h
  refine ac_enter ⟨9, 0⟩ Tryd.func60 rfl rfl rfl rfl rfl (fun Γ => ?_)
  refine sl_len_m 0 (x0.length : Int) rfl rfl (fun hl0 => ?_)
  refine aw_seq ?_
  refine aw_region ?_
  refine ao_read trivial (r_assign rfl) rfl ?_
  refine ao_nil ?_
  refine aq_then ?_
  refine aw_seq ?_
  refine aw_region ?_
  refine ao_read trivial (r_move rfl) rfl ?_
  refine ao_read trivial (r_move rfl) rfl ?_
  refine ao_scall trivial (scall (c_slices_Index_int_int (is_mk (rfl : p_slices_Index_int_int x0 x1 = _))) rfl Tryd.func70 rfl rfl rfl rfl (fun σ => ⟨ad_ren rfl, ad_ren rfl, trivial⟩)) rfl ?_
  refine ao_read trivial (r_geq rfl rfl) rfl ?_
  refine ao_read trivial (r_assign rfl) rfl ?_
  refine ao_nil ?_
  refine aq_then ?_
  refine aw_ret ?_
  refine aq_ret ?_
  obtain rfl := is_eq h
  exact aq_finx (l := [.tmp 4]) (xs := [.bool (decide (0 ≤ (p_slices_Index_int_int x0 x1)))]) idn [.bool (decide (0 ≤ (p_slices_Index_int_int x0 x1)))] [] rfl (by exact ⟨rfl, trivial⟩) (by exact ⟨ad_ren rfl, trivial⟩) (by exact trivial) rfl (nk rfl) rfl rfl ⟨rfl, rfl⟩
theorem c_impl_readLog {fu : Nat} {x0 : (ByteArray × (ByteArray × (Int × Unit)))} {r : (List (ByteArray × (ByteArray × Unit))) × Bool} (h : Is (p_impl_readLog fu x0) (some r)) :
    ACalls Tryd.prog 44 [.v (.pair .str (.pair .str (.pair (.int .i64) .unit))) x0] [] (fun r' H' => r' = .tup [.os 0, .bool r.2] ∧ H' = [(0, .row (.pair .str (.pair .str .unit)) r.1)]) := by
  unfold p_impl_readLog at h
  refine ac_enter ⟨43, 0⟩ Tryd.func44 rfl rfl rfl rfl rfl (fun Γ => ?_)
  refine aw_seq ?_
  refine aw_region ?_
  refine ao_eff trivial (e_box 0 rfl rfl rfl rfl rfl rfl) rfl ?_
  refine ao_read trivial (r_assign rfl) rfl ?_
  refine ao_read trivial (r_assign rfl) rfl ?_
  refine ao_nil ?_
  refine aq_then ?_
  refine aw_seq ?_
  refine aw_region ?_
  refine ao_read trivial (r_fieldAddr Tryd.underlying27 rfl Tryd.sizeOf9 rfl rfl rfl) rfl ?_
  refine ao_read trivial (r_load_cell Tryd.isAgg9 rfl rfl rfl) rfl ?_
  refine ao_read trivial (r_fieldAddr Tryd.underlying27 rfl Tryd.sizeOf9 rfl rfl rfl) rfl ?_
  refine ao_read trivial (r_load_cell Tryd.isAgg9 rfl rfl rfl) rfl ?_
  obtain ⟨g1, h⟩ := is_guard h
  refine ao_read trivial (r_add_str (a := x0.1) (b := x0.2.1) rfl rfl (by omega)) rfl ?_
  refine ao_read trivial (r_assign rfl) rfl ?_
  refine ao_nil ?_
  refine aq_then ?_
  refine aw_seq ?_
  refine aw_seq ?_
  refine aw_region ?_
  refine ao_read trivial (r_move rfl) rfl ?_
  refine ao_read trivial (r_len_str Tryd.underlying9 rfl) rfl ?_
  refine ao_read trivial (r_gtr rfl rfl) rfl ?_
  refine ao_nil ?_
  refine aq_then ?_
  refine aw_cond rfl (fun hb2 => ?_) (fun hb2 => ?_)
  · have q3 := d_t hb2
    replace h := is_if (d_t hb2) h
    refine aw_seq ?_
    refine aw_region ?_
    refine ao_read trivial (r_assign rfl) rfl ?_
    refine ao_read trivial (r_assign rfl) rfl ?_
    refine ao_nil ?_
    refine aq_then ?_
    refine aw_ret ?_
    refine aq_then_ret ?_
    refine aq_ret ?_
    obtain rfl := is_some h
    refine AQ.sub (sub_nil (T := 2) (t := (.pair .str (.pair .str .unit))) 1 rfl rfl rfl) ?_
    exact aq_finx (l := [.tmp 2, .tmp 3]) (xs := [.os 1, .bool false]) (rn [(0, 1)]) [.os 0, .bool false] [(0, .row (.pair .str (.pair .str .unit)) ([] : (List (ByteArray × (ByteArray × Unit)))))] rfl (by exact ⟨rfl, rfl, trivial⟩) (by exact ⟨ad_ren rfl, ad_ren rfl, trivial⟩) (by exact ⟨⟨_, rfl, rfl⟩, trivial⟩) rfl (nk rfl) rfl rfl ⟨rfl, rfl⟩
  · have q4 := d_f hb2
    replace h := is_else (d_f hb2) h
    refine aw_skip ?_
    refine aq_then ?_
    refine aw_seq ?_
    refine aw_region ?_
    refine ao_read trivial (r_move rfl) rfl ?_
    obtain ⟨r5, r5h, h⟩ := is_bind h
    refine ao_call [] 2 trivial (c_impl_decodeAll (is_mk r5h)) Tryd.func48 rfl rfl rfl rfl ⟨ad_ren rfl, trivial⟩ trivial rfl rfl rfl rfl rfl rfl rfl (fun r' H' hr => ?_)
    obtain ⟨rfl, rfl⟩ := hr
    refine ao_norm (y := .tup [.os 2, .os 3]) (H' := [(0, .var [.cell (.str x0.1), .cell (.str x0.2.1), .cell (.int .i64 x0.2.2.1)]), (2, .row (.pair .str (.pair .str .unit)) r5.1), (3, .row (.int .i64) r5.2)]) rfl rfl ?_
    refine row_len_o 2 (r5.1.length : Int) rfl rfl (fun hr6 => ?_)
    refine row_len_o 3 (r5.2.length : Int) rfl rfl (fun hr7 => ?_)
    refine ao_read trivial (r_move rfl) rfl ?_
    refine ao_read trivial (r_extract rfl rfl) rfl ?_
    refine ao_read trivial (r_extract rfl rfl) rfl ?_
    refine ao_read trivial (r_assign rfl) rfl ?_
    refine ao_read trivial (r_assign rfl) rfl ?_
    refine ao_nil ?_
    refine aq_then ?_
    refine aw_seq ?_
    obtain ⟨g8, h⟩ := is_guard h
    refine aw_drawAll (by kernel_rfl) ?_
    refine an_read 0 (by kernel_rfl) (fun _ _ _ h => h) rfl (by kernel_rfl) trivial (r_move rfl) rfl ?_
    refine an_read 1 (by kernel_rfl) (fun _ _ _ h => h) rfl (by kernel_rfl) trivial (r_move rfl) rfl ?_
    refine an_read 2 (by kernel_rfl) (fun _ _ _ h => h) rfl (by kernel_rfl) trivial (r_move rfl) rfl ?_
    refine an_read 3 (by kernel_rfl) (fun _ _ _ h => h) rfl (by kernel_rfl) trivial (r_len_osm (r5.1.length : Int) Tryd.underlying47 rfl rfl rfl) rfl ?_
    refine an_read 4 (by kernel_rfl) (fun _ _ _ h => h) rfl (by kernel_rfl) trivial (r_idxAddr_os Tryd.underlying62 Tryd.sizeOf3 rfl rfl rfl (show 0 ≤ (r5.1.length : Int) from by omega) (show (r5.1.length : Int) < (r5.2.length : Int) from by omega)) rfl ?_
    refine an_read 5 (by kernel_rfl) (fun _ _ _ h => h) rfl (by kernel_rfl) trivial (r_load_elem_int Tryd.isAgg3 Tryd.sizeOf3 rfl rfl (show (r5.1.length : Int).toNat < r5.2.length from by omega)) rfl ?_
    refine an_read 6 (by kernel_rfl) (fun _ _ _ h => h) rfl (by kernel_rfl) trivial (r_move rfl) rfl ?_
    refine an_read 7 (by kernel_rfl) (fun _ _ _ h => h) rfl (by kernel_rfl) trivial (r_len_str Tryd.underlying9 rfl) rfl ?_
    refine an_read 8 (by kernel_rfl) (fun _ _ _ h => h) rfl (by kernel_rfl) trivial (r_eql rfl rfl) rfl ?_
    refine an_read 9 (by kernel_rfl) (fun _ _ _ h => h) rfl (by kernel_rfl) trivial (r_move rfl) rfl ?_
    refine an_readG 10 (x := .os 3) (by kernel_rfl) (fun _ _ _ h => h) rfl (by kernel_rfl) rfl (GV.T rfl) (fun hg9 => by
          have q10 : (r5.2.getD (r5.1.length : Int).toNat 0) = ((x0.1 ++ x0.2.1).size : Int) := d_t hg9
          exact r_move rfl) rfl ?_
    refine an_readG 11 (x := .ref 0 0) (by kernel_rfl) (fun _ _ _ h => h) rfl (by kernel_rfl) rfl (GV.T rfl) (fun hg11 => by
          have q12 : (r5.2.getD (r5.1.length : Int).toNat 0) = ((x0.1 ++ x0.2.1).size : Int) := d_t hg11
          exact r_fieldAddr Tryd.underlying27 rfl Tryd.sizeOf9 rfl rfl rfl) rfl ?_
    refine an_readG 12 (x := .str x0.1) (by kernel_rfl) (fun _ _ _ h => h) rfl (by kernel_rfl) rfl (GV.T rfl) (fun hg13 => by
          have q14 : (r5.2.getD (r5.1.length : Int).toNat 0) = ((x0.1 ++ x0.2.1).size : Int) := d_t hg13
          exact Reads.strip 31 rfl (hg13) (r_load_cell Tryd.isAgg9 rfl rfl rfl)) rfl ?_
    refine an_readG 13 (x := .int .i64 (x0.1.size : Int)) (by kernel_rfl) (fun _ _ _ h => h) rfl (by kernel_rfl) rfl (GV.T rfl) (fun hg15 => by
          have q16 : (r5.2.getD (r5.1.length : Int).toNat 0) = ((x0.1 ++ x0.2.1).size : Int) := d_t hg15
          exact Reads.strip 32 rfl (hg15) (r_len_str Tryd.underlying9 rfl)) rfl ?_
    refine an_scallG 14 (x := .bool (p_slices_Contains_int_int r5.2 (x0.1.size : Int))) (by kernel_rfl) (fun _ _ _ h => h) rfl (by kernel_rfl) rfl (GV.T rfl) (fun hg17 => by
          have q18 : (r5.2.getD (r5.1.length : Int).toNat 0) = ((x0.1 ++ x0.2.1).size : Int) := d_t hg17
          exact SCall.strip 30 rfl (hg17) (SCall.strip 33 rfl (hg17) (scall (c_slices_Contains_int_int (is_mk (rfl : p_slices_Contains_int_int r5.2 (x0.1.size : Int) = _))) rfl Tryd.func60 rfl rfl rfl rfl (fun σ => ⟨ad_os0 rfl, ad_ren rfl, trivial⟩)))) rfl ?_
    refine an_read 15 (by kernel_rfl) (fun _ _ _ h => h) rfl (by kernel_rfl) trivial (r_andB rfl rfl) rfl ?_
    refine an_read 16 (by kernel_rfl) (fun _ _ _ h => h) rfl (by kernel_rfl) trivial (r_move rfl) rfl ?_
    refine an_readG 17 (x := .ref 0 2) (by kernel_rfl) (fun _ _ _ h => h) rfl (by kernel_rfl) rfl (GV.T rfl) (fun hg19 => by
          obtain ⟨q20, q21⟩ := and_t hg19
          have q22 : (r5.2.getD (r5.1.length : Int).toNat 0) = ((x0.1 ++ x0.2.1).size : Int) := d_t q20
          exact r_fieldAddr Tryd.underlying27 rfl Tryd.sizeOf3 rfl rfl rfl) rfl ?_
    refine an_readG 18 (x := .int .i64 x0.2.2.1) (by kernel_rfl) (fun _ _ _ h => h) rfl (by kernel_rfl) rfl (GV.T rfl) (fun hg23 => by
          obtain ⟨q24, q25⟩ := and_t hg23
          have q26 : (r5.2.getD (r5.1.length : Int).toNat 0) = ((x0.1 ++ x0.2.1).size : Int) := d_t q24
          exact Reads.strip 37 rfl (hg23) (r_load_cell Tryd.isAgg3 rfl rfl rfl)) rfl ?_
    refine an_readG 19 (x := .os 2) (by kernel_rfl) (fun _ _ _ h => h) rfl (by kernel_rfl) rfl (GV.T rfl) (fun hg27 => by
          obtain ⟨q28, q29⟩ := and_t hg27
          have q30 : (r5.2.getD (r5.1.length : Int).toNat 0) = ((x0.1 ++ x0.2.1).size : Int) := d_t q28
          exact r_move rfl) rfl ?_
    refine an_readG 20 (x := .int .i64 (r5.1.length : Int)) (by kernel_rfl) (fun _ _ _ h => h) rfl (by kernel_rfl) rfl (GV.T rfl) (fun hg31 => by
          obtain ⟨q32, q33⟩ := and_t hg31
          have q34 : (r5.2.getD (r5.1.length : Int).toNat 0) = ((x0.1 ++ x0.2.1).size : Int) := d_t q32
          exact Reads.strip 39 rfl (hg31) (r_len_osm (r5.1.length : Int) Tryd.underlying47 rfl rfl rfl)) rfl ?_
    refine an_readG 21 (x := .bool (decide (x0.2.2.1 = (r5.1.length : Int)))) (by kernel_rfl) (fun _ _ _ h => h) rfl (by kernel_rfl) rfl (GV.T rfl) (fun hg35 => by
          obtain ⟨q36, q37⟩ := and_t hg35
          have q38 : (r5.2.getD (r5.1.length : Int).toNat 0) = ((x0.1 ++ x0.2.1).size : Int) := d_t q36
          exact Reads.strip 38 rfl (hg35) (Reads.strip 40 rfl (hg35) (r_eql rfl rfl))) rfl ?_
    refine an_read 22 (by kernel_rfl) (fun _ _ _ h => h) rfl (by kernel_rfl) trivial (r_andB rfl rfl) rfl ?_
    refine an_read 23 (by kernel_rfl) (fun _ _ _ h => h) rfl (by kernel_rfl) trivial (r_assign rfl) rfl ?_
    refine an_read 24 (by kernel_rfl) (fun _ _ _ h => h) rfl (by kernel_rfl) trivial (r_assign rfl) rfl ?_
    refine an_done rfl ?_
    refine aq_then ?_
    refine aw_ret ?_
    refine aq_ret ?_
    obtain rfl := is_some h
    exact aq_finx (l := [.tmp 2, .tmp 3]) (xs := [.os 2, .bool (((decide ((r5.2.getD (r5.1.length : Int).toNat 0) = ((x0.1 ++ x0.2.1).size : Int))) && (p_slices_Contains_int_int r5.2 (x0.1.size : Int))) && (decide (x0.2.2.1 = (r5.1.length : Int))))]) (rn [(0, 2)]) [.os 0, .bool (((decide ((r5.2.getD (r5.1.length : Int).toNat 0) = ((x0.1 ++ x0.2.1).size : Int))) && (p_slices_Contains_int_int r5.2 (x0.1.size : Int))) && (decide (x0.2.2.1 = (r5.1.length : Int))))] [(0, .row (.pair .str (.pair .str .unit)) r5.1)] rfl (by exact ⟨rfl, rfl, trivial⟩) (by exact ⟨ad_ren rfl, ad_ren rfl, trivial⟩) (by exact ⟨⟨_, rfl, rfl⟩, trivial⟩) rfl (nk rfl) rfl rfl ⟨rfl, rfl⟩
theorem c_impl_IsValidLog {fu : Nat} {x0 : (ByteArray × (ByteArray × (Int × Unit)))} {r : Bool} (h : Is (p_impl_IsValidLog fu x0) (some r)) :
    Scalar Tryd.prog 22 [.v (.pair .str (.pair .str (.pair (.int .i64) .unit))) x0] (.bool r) := by
  unfold p_impl_IsValidLog at h
  refine ac_enter ⟨11, 0⟩ Tryd.func22 rfl rfl rfl rfl rfl (fun Γ => ?_)
  refine aw_seq ?_
  refine aw_region ?_
  refine ao_eff trivial (e_box 0 rfl rfl rfl rfl rfl rfl) rfl ?_
  refine ao_read trivial (r_assign rfl) rfl ?_
  refine ao_nil ?_
  refine aq_then ?_
  refine aw_seq ?_
  refine aw_region ?_
  refine ao_read trivial (r_load_part (τ := (.pair .str (.pair .str (.pair (.int .i64) .unit)))) (y := ((x0.1, (x0.2.1, (x0.2.2.1, ()))) : (ByteArray × (ByteArray × (Int × Unit))))) [] [] rfl Tryd.isAgg27 Tryd.sizeOf27 rfl rfl rfl rfl) rfl ?_
  obtain ⟨r1, r1h, h⟩ := is_bind h
  refine ao_call [] 1 trivial (c_impl_readLog (is_mk r1h)) Tryd.func44 rfl rfl rfl rfl ⟨ad_ren rfl, trivial⟩ trivial rfl rfl rfl rfl rfl rfl rfl (fun r' H' hr => ?_)
  obtain ⟨rfl, rfl⟩ := hr
  refine ao_norm (y := .tup [.os 1, .bool r1.2]) (H' := [(0, .var [.cell (.str x0.1), .cell (.str x0.2.1), .cell (.int .i64 x0.2.2.1)]), (1, .row (.pair .str (.pair .str .unit)) r1.1)]) rfl rfl ?_
  refine row_len_o 1 (r1.1.length : Int) rfl rfl (fun hr2 => ?_)
  refine ao_read trivial (r_move rfl) rfl ?_
  refine ao_read trivial (r_extract rfl rfl) rfl ?_
  refine ao_read trivial (r_extract rfl rfl) rfl ?_
  refine ao_read trivial (r_assign rfl) rfl ?_
  refine ao_read trivial (r_assign rfl) rfl ?_
  refine ao_nil ?_
  refine aq_then ?_
  refine aw_seq ?_
  refine aw_region ?_
  refine ao_read trivial (r_move rfl) rfl ?_
  refine ao_read trivial (r_assign rfl) rfl ?_
  refine ao_nil ?_
  refine aq_then ?_
  refine aw_ret ?_
  refine aq_ret ?_
  obtain rfl := is_some h
  exact aq_finx (l := [.tmp 2]) (xs := [.bool r1.2]) idn [.bool r1.2] [] rfl (by exact ⟨rfl, trivial⟩) (by exact ⟨ad_ren rfl, trivial⟩) (by exact trivial) rfl (nk rfl) rfl rfl ⟨rfl, rfl⟩
theorem c_impl_CrashLog {fu : Nat} {x0 : (ByteArray × (ByteArray × (Int × Unit)))} {x1 : Int} {x2 : Bool} {r : ByteArray × Bool} (h : Is (p_impl_CrashLog fu x0 x1 x2) (some r)) :
    Scalar Tryd.prog 8 [.v (.pair .str (.pair .str (.pair (.int .i64) .unit))) x0, .int .i64 x1, .bool x2] (.tup [.str r.1, .bool r.2]) := by
  unfold p_impl_CrashLog at h
  refine ac_enter ⟨47, 0⟩ Tryd.func8 rfl rfl rfl rfl rfl (fun Γ => ?_)
  refine aw_seq ?_
  refine aw_region ?_
  refine ao_eff trivial (e_box 0 rfl rfl rfl rfl rfl rfl) rfl ?_
  refine ao_read trivial (r_assign rfl) rfl ?_
  refine ao_read trivial (r_assign rfl) rfl ?_
  refine ao_nil ?_
  refine aq_then ?_
  refine aw_seq ?_
  refine aw_seq ?_
  refine aw_region ?_
  refine ao_read trivial (r_load_part (τ := (.pair .str (.pair .str (.pair (.int .i64) .unit)))) (y := ((x0.1, (x0.2.1, (x0.2.2.1, ()))) : (ByteArray × (ByteArray × (Int × Unit))))) [] [] rfl Tryd.isAgg27 Tryd.sizeOf27 rfl rfl rfl rfl) rfl ?_
  obtain ⟨r1, r1h, h⟩ := is_bind h
  refine ao_scall trivial (scall (c_impl_IsValidLog (is_mk r1h)) rfl Tryd.func22 rfl rfl rfl rfl (fun σ => ⟨ad_ren rfl, trivial⟩)) rfl ?_
  refine ao_read trivial (r_not rfl) rfl ?_
  refine ao_read trivial (r_move rfl) rfl ?_
  refine ao_readG (x := .int .i64 x1) rfl (GV.F rfl) (fun hg2 => r_move rfl) rfl ?_
  refine ao_readG (x := .ref 0 1) rfl (GV.F rfl) (fun hg3 => r_fieldAddr Tryd.underlying27 rfl Tryd.sizeOf9 rfl rfl rfl) rfl ?_
  refine ao_readG (x := .str x0.2.1) rfl (GV.F rfl) (fun hg4 => Reads.strip 14 rfl (hg4) (r_load_cell Tryd.isAgg9 rfl rfl rfl)) rfl ?_
  refine ao_readG (x := .int .i64 (x0.2.1.size : Int)) rfl (GV.F rfl) (fun hg5 => Reads.strip 15 rfl (hg5) (r_len_str Tryd.underlying9 rfl)) rfl ?_
  refine ao_scallG (r := .bool (p_impl_within x1 0 (x0.2.1.size : Int))) rfl (GV.F rfl) (fun hg6 => SCall.strip 13 rfl (hg6) (SCall.strip 16 rfl (hg6) (scall (c_impl_within (is_mk (rfl : p_impl_within x1 0 (x0.2.1.size : Int) = _))) rfl Tryd.func32 rfl rfl rfl rfl (fun σ => ⟨ad_ren rfl, ad_ren rfl, ad_ren rfl, trivial⟩)))) rfl ?_
  refine ao_readG (x := .bool (!(p_impl_within x1 0 (x0.2.1.size : Int)))) rfl (GV.F rfl) (fun hg7 => Reads.strip 17 rfl (hg7) (r_not rfl)) rfl ?_
  refine ao_read trivial (r_orB rfl rfl) rfl ?_
  refine ao_nil ?_
  refine aq_then ?_
  refine aw_cond rfl (fun hb8 => ?_) (fun hb8 => ?_)
  · replace h := is_if hb8 h
    refine aw_seq ?_
    refine aw_region ?_
    refine ao_read trivial (r_assign rfl) rfl ?_
    refine ao_read trivial (r_assign rfl) rfl ?_
    refine ao_nil ?_
    refine aq_then ?_
    refine aw_ret ?_
    refine aq_then_ret ?_
    refine aq_ret ?_
    obtain rfl := is_some h
    exact aq_finx (l := [.tmp 6, .tmp 7]) (xs := [.str (ByteArray.mk #[]), .bool false]) idn [.str (ByteArray.mk #[]), .bool false] [] rfl (by exact ⟨rfl, rfl, trivial⟩) (by exact ⟨ad_ren rfl, ad_ren rfl, trivial⟩) (by exact trivial) rfl (nk rfl) rfl rfl ⟨rfl, rfl⟩
  · obtain ⟨q9, q10⟩ := or_f hb8
    replace h := is_else (ne_t hb8) h
    refine aw_skip ?_
    refine aq_then ?_
    refine aw_seq ?_
    obtain ⟨g11, h⟩ := is_guard h
    obtain ⟨g12, h⟩ := is_guard h
    obtain ⟨g13, h⟩ := is_guard h
    obtain ⟨g14, h⟩ := is_guard h
    refine aw_drawAll (by kernel_rfl) ?_
    refine an_to [(1, .int .i64 x1), (2, .bool x2), (8, .os 0)] [(0, .brow ((bytesI (x0.1 ++ (x0.2.1.extract 0 x1.toNat))) : (List Int)))] ?_ (fun key => ?_)
    · refine aq_then ?_
      refine aw_seq ?_
      refine aw_seq ?_
      refine aw_region ?_
      refine ao_read trivial (r_move rfl) rfl ?_
      refine ao_read trivial (r_move rfl) rfl ?_
      refine ao_readG (x := .int .i64 x1) rfl (GV.T rfl) (fun hg15 => r_move rfl) rfl ?_
      refine ao_readG (x := .bool (decide (0 < x1))) rfl (GV.T rfl) (fun hg16 => Reads.strip 30 rfl (hg16) (r_gtr rfl rfl)) rfl ?_
      refine ao_read trivial (r_andB rfl rfl) rfl ?_
      refine ao_nil ?_
      refine aq_then ?_
      refine aw_cond rfl (fun hb17 => ?_) (fun hb17 => ?_)
      · obtain ⟨q18, q19⟩ := and_t hb17
        have q20 := d_t q19
        replace h := is_if hb17 h
        refine aw_region ?_
        refine ao_read trivial (r_move rfl) rfl ?_
        refine ao_read trivial (r_move rfl) rfl ?_
        refine ao_read trivial (r_len_brow ((bytesI (x0.1 ++ (x0.2.1.extract 0 x1.toNat))).length : Int) Tryd.underlying30 rfl rfl rfl) rfl ?_
        refine ao_read trivial (r_sub rfl rfl) rfl ?_
        refine ao_read trivial (r_move rfl) rfl ?_
        refine ao_read trivial (r_move rfl) rfl ?_
        refine ao_read trivial (r_len_brow ((bytesI (x0.1 ++ (x0.2.1.extract 0 x1.toNat))).length : Int) Tryd.underlying30 rfl rfl rfl) rfl ?_
        refine ao_read trivial (r_sub rfl rfl) rfl ?_
        obtain ⟨g21, h⟩ := is_guard h
        obtain ⟨g22, h⟩ := is_guard h
        refine ao_read trivial (r_idxAddr_brow Tryd.underlying30 Tryd.sizeOf5 rfl rfl rfl (show 0 ≤ (IntKind.wrap .i64 (((bytesI (x0.1 ++ (x0.2.1.extract 0 x1.toNat))).length : Int) - 1)) from by (try simp only [List.length_append]) <;> omega) (show (IntKind.wrap .i64 (((bytesI (x0.1 ++ (x0.2.1.extract 0 x1.toNat))).length : Int) - 1)) < ((bytesI (x0.1 ++ (x0.2.1.extract 0 x1.toNat))).length : Int) from by (try simp only [List.length_append]) <;> omega)) rfl ?_
        refine ao_read trivial (r_load_brow Tryd.isAgg5 rfl rfl (show (IntKind.wrap .i64 (((bytesI (x0.1 ++ (x0.2.1.extract 0 x1.toNat))).length : Int) - 1)).toNat < (bytesI (x0.1 ++ (x0.2.1.extract 0 x1.toNat))).length from by (try simp only [List.length_append]) <;> omega)) rfl ?_
        refine ao_read trivial (r_sub rfl rfl) rfl ?_
        refine ao_read trivial (r_idxAddr_brow Tryd.underlying30 Tryd.sizeOf5 rfl rfl rfl (show 0 ≤ (IntKind.wrap .i64 (((bytesI (x0.1 ++ (x0.2.1.extract 0 x1.toNat))).length : Int) - 1)) from by (try simp only [List.length_append]) <;> omega) (show (IntKind.wrap .i64 (((bytesI (x0.1 ++ (x0.2.1.extract 0 x1.toNat))).length : Int) - 1)) < ((bytesI (x0.1 ++ (x0.2.1.extract 0 x1.toNat))).length : Int) from by (try simp only [List.length_append]) <;> omega)) rfl ?_
        refine ao_effS trivial (e_store_brow Tryd.sizeOf5 rfl rfl rfl (show (IntKind.wrap .i64 (((bytesI (x0.1 ++ (x0.2.1.extract 0 x1.toNat))).length : Int) - 1)).toNat < (bytesI (x0.1 ++ (x0.2.1.extract 0 x1.toNat))).length from by (try simp only [List.length_append]) <;> omega)) ?_
        refine ao_nil ?_
        refine aq_then ?_
        refine aw_seq ?_
        refine aw_region ?_
        refine ao_read trivial (r_move rfl) rfl ?_
        refine ao_read trivial (r_brow_str Tryd.underlying30 Tryd.underlying5 Tryd.underlying9 rfl rfl) rfl ?_
        refine ao_read trivial (r_assign rfl) rfl ?_
        refine ao_read trivial (r_assign rfl) rfl ?_
        refine ao_nil ?_
        refine aq_then ?_
        refine aw_ret ?_
        refine aq_ret ?_
        obtain rfl := is_some h
        exact aq_finx (l := [.tmp 6, .tmp 7]) (xs := [.str (bytesB ((bytesI (x0.1 ++ (x0.2.1.extract 0 x1.toNat))).set (IntKind.wrap .i64 (((bytesI (x0.1 ++ (x0.2.1.extract 0 x1.toNat))).length : Int) - 1)).toNat (IntKind.wrap .u8 (255 - ((bytesI (x0.1 ++ (x0.2.1.extract 0 x1.toNat))).getD (IntKind.wrap .i64 (((bytesI (x0.1 ++ (x0.2.1.extract 0 x1.toNat))).length : Int) - 1)).toNat 0))))), .bool true]) idn [.str (bytesB ((bytesI (x0.1 ++ (x0.2.1.extract 0 x1.toNat))).set (IntKind.wrap .i64 (((bytesI (x0.1 ++ (x0.2.1.extract 0 x1.toNat))).length : Int) - 1)).toNat (IntKind.wrap .u8 (255 - ((bytesI (x0.1 ++ (x0.2.1.extract 0 x1.toNat))).getD (IntKind.wrap .i64 (((bytesI (x0.1 ++ (x0.2.1.extract 0 x1.toNat))).length : Int) - 1)).toNat 0))))), .bool true] [] rfl (by exact ⟨rfl, rfl, trivial⟩) (by exact ⟨ad_ren rfl, ad_ren rfl, trivial⟩) (by exact trivial) rfl (nk rfl) rfl rfl ⟨rfl, rfl⟩
      · replace h := is_else (ne_t hb17) h
        refine aw_skip ?_
        refine aq_then ?_
        refine aw_seq ?_
        refine aw_region ?_
        refine ao_read trivial (r_move rfl) rfl ?_
        refine ao_read trivial (r_brow_str Tryd.underlying30 Tryd.underlying5 Tryd.underlying9 rfl rfl) rfl ?_
        refine ao_read trivial (r_assign rfl) rfl ?_
        refine ao_read trivial (r_assign rfl) rfl ?_
        refine ao_nil ?_
        refine aq_then ?_
        refine aw_ret ?_
        refine aq_ret ?_
        obtain rfl := is_some h
        exact aq_finx (l := [.tmp 6, .tmp 7]) (xs := [.str (bytesB (bytesI (x0.1 ++ (x0.2.1.extract 0 x1.toNat)))), .bool true]) idn [.str (bytesB (bytesI (x0.1 ++ (x0.2.1.extract 0 x1.toNat)))), .bool true] [] rfl (by exact ⟨rfl, rfl, trivial⟩) (by exact ⟨ad_ren rfl, ad_ren rfl, trivial⟩) (by exact trivial) rfl (nk rfl) rfl rfl ⟨rfl, rfl⟩
    · refine an_read 0 (by kernel_rfl) (fun _ _ _ h => h) rfl (by kernel_rfl) trivial (r_fieldAddr Tryd.underlying27 rfl Tryd.sizeOf9 rfl rfl rfl) rfl ?_
      refine an_read 1 (by kernel_rfl) (fun _ _ _ h => h) rfl (by kernel_rfl) trivial (r_load_cell Tryd.isAgg9 rfl rfl rfl) rfl ?_
      refine an_read 2 (by kernel_rfl) (fun _ _ _ h => h) rfl (by kernel_rfl) trivial (r_fieldAddr Tryd.underlying27 rfl Tryd.sizeOf9 rfl rfl rfl) rfl ?_
      refine an_read 3 (by kernel_rfl) (fun _ _ _ h => h) rfl (by kernel_rfl) trivial (r_load_cell Tryd.isAgg9 rfl rfl rfl) rfl ?_
      refine an_read 4 (by kernel_rfl) (fun _ _ _ h => h) rfl (by kernel_rfl) trivial (r_move rfl) rfl ?_
      refine an_read 5 (by kernel_rfl) (fun _ _ _ h => h) rfl (by kernel_rfl) trivial (r_slice_str Tryd.underlying9 rfl .none (.some rfl) (show 0 ≤ 0 from by omega) (show 0 ≤ x1 from by omega) (show x1 ≤ (x0.2.1.size : Int) from by omega)) rfl ?_
      refine an_read 6 (by kernel_rfl) (fun _ _ _ h => h) rfl (by kernel_rfl) trivial (r_add_str (a := x0.1) (b := (x0.2.1.extract 0 x1.toNat)) rfl rfl (by omega)) rfl ?_
      refine an_explore 1 rfl ?_
      refine ax_all [7] (by kernel_rfl) ⟨?_, trivial⟩
      refine axo_eff 7 rfl trivial (e_conv_row (b := (x0.1 ++ (x0.2.1.extract 0 x1.toNat))) 1 Tryd.underlying9 Tryd.underlying30 Tryd.underlying5 rfl (by omega) rfl rfl) rfl rfl ?_
      refine ax_all [8] (by kernel_rfl) ⟨?_, trivial⟩
      refine axo_read 8 rfl trivial (r_assign rfl) rfl ?_
      exact ax_done rfl (AQ.sub (sub_mk (rn [(0, 1)]) (by exact ⟨⟨_, rfl, ad_ren rfl⟩, ⟨_, rfl, ad_ren rfl⟩, ⟨_, rfl, ad_ren rfl⟩, trivial⟩) (by exact ⟨⟨_, rfl, rfl⟩, trivial⟩) (by rfl) (nk rfl)) key)
theorem c_laws_FnExactCrashLog {fu : Nat} {x0 : (ByteArray × (ByteArray × (Int × Unit)))} {x1 : Int} {x2 : Bool} {r : Bool} (h : Is (p_laws_FnExactCrashLog fu x0 x1 x2) (some r)) :
    Scalar Tryd.prog 3 [.v (.pair .str (.pair .str (.pair (.int .i64) .unit))) x0, .int .i64 x1, .bool x2] (.bool r) := by
  unfold p_laws_FnExactCrashLog at h
  refine ac_enter ⟨41, 0⟩ Tryd.func3 rfl rfl rfl rfl rfl (fun Γ => ?_)
  refine aw_seq ?_
  refine aw_region ?_
  refine ao_eff trivial (e_box 0 rfl rfl rfl rfl rfl rfl) rfl ?_
  refine ao_read trivial (r_assign rfl) rfl ?_
  refine ao_nil ?_
  refine aq_then ?_
  refine aw_seq ?_
  refine aw_region ?_
  refine ao_read trivial (r_assign rfl) rfl ?_
  refine ao_nil ?_
  refine aq_then ?_
  refine aw_seq ?_
  refine aw_region ?_
  refine ao_read trivial (r_load_part (τ := (.pair .str (.pair .str (.pair (.int .i64) .unit)))) (y := ((x0.1, (x0.2.1, (x0.2.2.1, ()))) : (ByteArray × (ByteArray × (Int × Unit))))) [] [] rfl Tryd.isAgg23 Tryd.sizeOf23 rfl rfl rfl rfl) rfl ?_
  refine ao_read trivial (r_move rfl) rfl ?_
  refine ao_scall trivial (scall (c_laws_szLog (is_mk (rfl : p_laws_szLog (x0.1, (x0.2.1, (x0.2.2.1, ()))) 1048576 = _))) rfl Tryd.func5 rfl rfl rfl rfl (fun σ => ⟨ad_ren rfl, ad_ren rfl, trivial⟩)) rfl ?_
  refine ao_read trivial (r_assign rfl) rfl ?_
  refine ao_nil ?_
  refine aq_then ?_
  refine aw_seq ?_
  refine aw_seq ?_
  refine aw_region ?_
  refine ao_read trivial (r_move rfl) rfl ?_
  refine ao_read trivial (r_lss rfl rfl) rfl ?_
  refine ao_nil ?_
  refine aq_then ?_
  refine aw_cond rfl (fun hb1 => ?_) (fun hb1 => ?_)
  · have q2 := d_t hb1
    replace h := is_if (d_t hb1) h
    refine aw_seq ?_
    refine aw_region ?_
    refine ao_read trivial (r_assign rfl) rfl ?_
    refine ao_nil ?_
    refine aq_then ?_
    refine aw_ret ?_
    refine aq_then_ret ?_
    refine aq_ret ?_
    obtain rfl := is_some h
    exact aq_finx (l := [.tmp 6]) (xs := [.bool true]) idn [.bool true] [] rfl (by exact ⟨rfl, trivial⟩) (by exact ⟨ad_ren rfl, trivial⟩) (by exact trivial) rfl (nk rfl) rfl rfl ⟨rfl, rfl⟩
  · have q3 := d_f hb1
    replace h := is_else (d_f hb1) h
    refine aw_skip ?_
    refine aq_then ?_
    refine aw_seq ?_
    refine aw_region ?_
    refine ao_read trivial (r_load_part (τ := (.pair .str (.pair .str (.pair (.int .i64) .unit)))) (y := ((x0.1, (x0.2.1, (x0.2.2.1, ()))) : (ByteArray × (ByteArray × (Int × Unit))))) [] [] rfl Tryd.isAgg23 Tryd.sizeOf23 rfl rfl rfl rfl) rfl ?_
    refine ao_scall trivial (scall (c_laws_toLog (is_mk (rfl : p_laws_toLog (x0.1, (x0.2.1, (x0.2.2.1, ()))) = _))) rfl Tryd.func7 rfl rfl rfl rfl (fun σ => ⟨ad_ren rfl, trivial⟩)) rfl ?_
    refine ao_read trivial (r_move rfl) rfl ?_
    refine ao_read trivial (r_move rfl) rfl ?_
    obtain ⟨r4, r4h, h⟩ := is_bind h
    refine ao_scall trivial (scall (c_spec_CrashLog (is_mk r4h)) rfl Tryd.func6 rfl rfl rfl rfl (fun σ => ⟨ad_ren rfl, ad_ren rfl, ad_ren rfl, trivial⟩)) rfl ?_
    refine ao_read trivial (r_move rfl) rfl ?_
    refine ao_read trivial (r_extract rfl rfl) rfl ?_
    refine ao_read trivial (r_extract rfl rfl) rfl ?_
    refine ao_read trivial (r_assign rfl) rfl ?_
    refine ao_read trivial (r_assign rfl) rfl ?_
    refine ao_nil ?_
    refine aq_then ?_
    refine aw_seq ?_
    refine aw_region ?_
    refine ao_read trivial (r_load_part (τ := (.pair .str (.pair .str (.pair (.int .i64) .unit)))) (y := ((x0.1, (x0.2.1, (x0.2.2.1, ()))) : (ByteArray × (ByteArray × (Int × Unit))))) [] [] rfl Tryd.isAgg23 Tryd.sizeOf23 rfl rfl rfl rfl) rfl ?_
    refine ao_scall trivial (scall (c_laws_toLog (is_mk (rfl : p_laws_toLog (x0.1, (x0.2.1, (x0.2.2.1, ()))) = _))) rfl Tryd.func7 rfl rfl rfl rfl (fun σ => ⟨ad_ren rfl, trivial⟩)) rfl ?_
    refine ao_read trivial (r_move rfl) rfl ?_
    refine ao_read trivial (r_move rfl) rfl ?_
    obtain ⟨r5, r5h, h⟩ := is_bind h
    refine ao_scall trivial (scall (c_impl_CrashLog (is_mk r5h)) rfl Tryd.func8 rfl rfl rfl rfl (fun σ => ⟨ad_ren rfl, ad_ren rfl, ad_ren rfl, trivial⟩)) rfl ?_
    refine ao_read trivial (r_move rfl) rfl ?_
    refine ao_read trivial (r_extract rfl rfl) rfl ?_
    refine ao_read trivial (r_extract rfl rfl) rfl ?_
    refine ao_read trivial (r_assign rfl) rfl ?_
    refine ao_read trivial (r_assign rfl) rfl ?_
    refine ao_nil ?_
    refine aq_then ?_
    refine aw_seq ?_
    refine aw_seq ?_
    refine aw_region ?_
    refine ao_read trivial (r_move rfl) rfl ?_
    refine ao_read trivial (r_move rfl) rfl ?_
    refine ao_read trivial (r_neq_str rfl rfl) rfl ?_
    refine ao_read trivial (r_move rfl) rfl ?_
    refine ao_readG (x := .bool r5.2) rfl (GV.F rfl) (fun hg6 => r_move rfl) rfl ?_
    refine ao_readG (x := .bool r4.2) rfl (GV.F rfl) (fun hg7 => r_move rfl) rfl ?_
    refine ao_readG (x := .bool (r5.2 != r4.2)) rfl (GV.F rfl) (fun hg8 => Reads.strip 37 rfl (hg8) (Reads.strip 38 rfl (hg8) (r_neq_bool Tryd.underlying4 rfl rfl))) rfl ?_
    refine ao_read trivial (r_orB rfl rfl) rfl ?_
    refine ao_nil ?_
    refine aq_then ?_
    refine aw_cond rfl (fun hb9 => ?_) (fun hb9 => ?_)
    · replace h := is_if hb9 h
      refine aw_seq ?_
      refine aw_region ?_
      refine ao_read trivial (r_assign rfl) rfl ?_
      refine ao_nil ?_
      refine aq_then ?_
      refine aw_ret ?_
      refine aq_then_ret ?_
      refine aq_ret ?_
      obtain rfl := is_some h
      exact aq_finx (l := [.tmp 6]) (xs := [.bool false]) idn [.bool false] [] rfl (by exact ⟨rfl, trivial⟩) (by exact ⟨ad_ren rfl, trivial⟩) (by exact trivial) rfl (nk rfl) rfl rfl ⟨rfl, rfl⟩
    · obtain ⟨q10, q11⟩ := or_f hb9
      replace h := is_else (ne_t hb9) h
      refine aw_skip ?_
      refine aq_then ?_
      refine aw_seq ?_
      refine aw_region ?_
      refine ao_read trivial (r_assign rfl) rfl ?_
      refine ao_nil ?_
      refine aq_then ?_
      refine aw_ret ?_
      refine aq_ret ?_
      obtain rfl := is_some h
      exact aq_finx (l := [.tmp 6]) (xs := [.bool true]) idn [.bool true] [] rfl (by exact ⟨rfl, trivial⟩) (by exact ⟨ad_ren rfl, trivial⟩) (by exact trivial) rfl (nk rfl) rfl rfl ⟨rfl, rfl⟩
end Go.GA
