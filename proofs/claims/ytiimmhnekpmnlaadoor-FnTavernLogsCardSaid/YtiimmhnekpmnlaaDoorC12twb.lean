/- Walks: what the Go functions compute, by the printed lines below; no further conditions. -/
import Derived.Test.YtiimmhnekpmnlaaDoorC12tw
namespace Go.GA
open Go Go.Proofs
set_option maxRecDepth 100000
set_option maxHeartbeats 2000000
set_option linter.unusedVariables false
set_option linter.unusedSimpArgs false
theorem c_spec_l12Open {fu : Nat} {x0 : ByteArray} {r : (List (ByteArray × (ByteArray × Unit))) × Int} (h : Is (p_spec_l12Open fu x0) (some r)) :
    ACalls Tryd.prog 45 [.str x0] [] (fun r' H' => r' = .tup [.os 0, .int .i64 r.2] ∧ H' = [(0, .row (.pair .str (.pair .str .unit)) r.1)]) := by
  unfold p_spec_l12Open at h
  refine ac_enter ⟨52, 0⟩ Tryd.func45 rfl rfl rfl rfl rfl (fun Γ => ?_)
  obtain ⟨gs0, h⟩ := is_guard h
  refine aw_seq ?_
  refine aw_region ?_
  refine ao_read trivial (r_assign rfl) rfl ?_
  refine ao_read trivial (r_assign rfl) rfl ?_
  refine ao_nil ?_
  refine aq_then ?_
  refine aw_seq ?_
  refine aw_region ?_
  refine ao_eff trivial (e_buildSlice (l := []) (t := (.pair .str (.pair .str .unit))) 0 ([] : (List (ByteArray × (ByteArray × Unit)))) rfl Tryd.underlying47 Tryd.zeroValue33 Tryd.sizeOf33 rfl rfl rfl rfl rfl rfl rfl) rfl ?_
  refine ao_read trivial (r_assign rfl) rfl ?_
  refine ao_nil ?_
  refine aq_then ?_
  refine aw_seq ?_
  refine aw_region ?_
  refine ao_read trivial (r_assign rfl) rfl ?_
  refine ao_nil ?_
  refine aq_then ?_
  refine aw_seq ?_
  refine aw_block ?_
  refine aw_loop (AL.sub (sub_mk idn (by exact ⟨⟨_, rfl, ad_ren rfl⟩, ⟨_, rfl, ad_ren rfl⟩, ⟨_, rfl, ad_ren rfl⟩, trivial⟩) (by exact ⟨⟨_, rfl, rfl⟩, trivial⟩) (by rfl) (nk rfl)) (al_whl (fun (s1 : Int × (List (ByteArray × (ByteArray × Unit)))) => [(0, .str x0), (4, .os 0), (5, .int .i64 s1.1)]) (fun (s1 : Int × (List (ByteArray × (ByteArray × Unit)))) => [(0, .row (.pair .str (.pair .str .unit)) s1.2)]) (fun (s1 : Int × (List (ByteArray × (ByteArray × Unit)))) => True) h trivial (fun d3 s1 hI h ih3 => ?_)))
  replace h := is_whlS h
  refine al_round ?_
  refine aw_seq ?_
  refine aw_seq ?_
  refine aw_region ?_
  refine ao_read trivial (r_move rfl) rfl ?_
  refine ao_read trivial (r_move rfl) rfl ?_
  refine ao_read trivial (r_len_str Tryd.underlying9 rfl) rfl ?_
  refine ao_read trivial (r_lss rfl rfl) rfl ?_
  refine ao_read trivial (r_move rfl) rfl ?_
  refine ao_readG (x := .os 0) rfl (GV.T rfl) (fun hg5 => by
        have q6 := d_t hg5
        exact r_move rfl) rfl ?_
  refine ao_readG (x := .int .i64 (s1.2.length : Int)) rfl (GV.T rfl) (fun hg7 => by
        have q8 := d_t hg7
        exact Reads.strip 15 rfl (hg7) (r_len_osm (s1.2.length : Int) Tryd.underlying47 rfl rfl rfl)) rfl ?_
  refine ao_readG (x := .bool (decide ((s1.2.length : Int) < 60))) rfl (GV.T rfl) (fun hg9 => by
        have q10 := d_t hg9
        exact Reads.strip 16 rfl (hg9) (r_lss rfl rfl)) rfl ?_
  refine ao_read trivial (r_andB rfl rfl) rfl ?_
  refine ao_nil ?_
  refine aq_then ?_
  refine aw_cond rfl (fun hb11 => ?_) (fun hb11 => ?_)
  · obtain ⟨q12, q13⟩ := and_t hb11
    have q14 := d_t q12
    have q15 := d_t q13
    replace h := is_if hb11 h
    refine aw_skip ?_
    refine aq_then ?_
    refine aw_block ?_
    refine aw_seq ?_
    refine aw_region ?_
    refine ao_read trivial (r_move rfl) rfl ?_
    refine ao_read trivial (r_move rfl) rfl ?_
    obtain ⟨g16, h⟩ := is_guard h
    refine ao_read trivial (r_slice_str Tryd.underlying9 rfl (.some rfl) .none (show 0 ≤ s1.1 from by omega) (show s1.1 ≤ (x0.size : Int) from by omega) (show (x0.size : Int) ≤ (x0.size : Int) from by omega)) rfl ?_
    obtain ⟨r17, r17h, h⟩ := is_bind h
    refine ao_call [] 1 trivial (c_spec_l1Split (is_mk r17h)) Tryd.func61 rfl rfl rfl rfl ⟨ad_ren rfl, ad_ren rfl, trivial⟩ trivial rfl rfl rfl rfl rfl rfl rfl (fun r' H' hr => ?_)
    obtain ⟨rfl, rfl⟩ := hr
    refine ao_norm (y := .os 1) (H' := [(0, .row (.pair .str (.pair .str .unit)) s1.2), (1, .row .str r17)]) rfl rfl ?_
    refine row_len_o 1 (r17.length : Int) rfl rfl (fun hr18 => ?_)
    refine ao_read trivial (r_assign rfl) rfl ?_
    refine ao_nil ?_
    refine aq_then ?_
    refine aw_seq ?_
    refine aw_region ?_
    refine ao_read trivial (r_move rfl) rfl ?_
    obtain ⟨g19, h⟩ := is_guard h
    refine ao_read trivial (r_idxAddr_os Tryd.underlying76 Tryd.sizeOf9 rfl rfl rfl (show 0 ≤ 0 from by omega) (show 0 < (r17.length : Int) from by omega)) rfl ?_
    refine ao_read trivial (r_load_elemv (t := .str) Tryd.isAgg9 Tryd.sizeOf9 rfl rfl (show 0 < r17.length from by omega)) rfl ?_
    refine ao_read trivial (r_move rfl) rfl ?_
    refine ao_read trivial (r_len_osm (s1.2.length : Int) Tryd.underlying47 rfl rfl rfl) rfl ?_
    obtain ⟨r20, r20h, h⟩ := is_bind h
    refine ao_scall trivial (scall (c_spec_l12Decode (is_mk r20h)) rfl Tryd.func62 rfl rfl rfl rfl (fun σ => ⟨ad_ren rfl, ad_ren rfl, trivial⟩)) rfl ?_
    refine ao_read trivial (r_move rfl) rfl ?_
    refine ao_read trivial (r_extract rfl rfl) rfl ?_
    refine ao_read trivial (r_extract rfl rfl) rfl ?_
    refine ao_eff trivial (e_alloc 2 (y := .st [.str ByteArray.empty, .str ByteArray.empty]) Tryd.zeroValue33 (fun ρ h M => ra_zero_st (t := (.pair .str (.pair .str .unit))) rfl rfl rfl) rfl rfl rfl rfl rfl) rfl ?_
    refine ao_effS trivial (e_store rfl rfl rfl rfl Tryd.sizeOf33 rfl) ?_
    refine ao_read trivial (r_assign rfl) rfl ?_
    refine ao_nil ?_
    refine aq_then ?_
    refine aw_seq ?_
    refine aw_seq ?_
    refine aw_region ?_
    refine ao_read trivial (r_move rfl) rfl ?_
    refine ao_read trivial (r_len_osm (r17.length : Int) Tryd.underlying76 rfl rfl rfl) rfl ?_
    refine ao_read trivial (r_lss rfl rfl) rfl ?_
    refine ao_read trivial (r_move rfl) rfl ?_
    refine ao_readG (x := .bool r20.2) rfl (GV.F rfl) (fun hg21 => by
          have q22 := d_f (not_t hg21)
          exact r_move rfl) rfl ?_
    refine ao_readG (x := .bool (!r20.2)) rfl (GV.F rfl) (fun hg23 => by
          have q24 := d_f (not_t hg23)
          exact Reads.strip 36 rfl (hg23) (r_not rfl)) rfl ?_
    refine ao_read trivial (r_orB rfl rfl) rfl ?_
    refine ao_nil ?_
    refine aq_then ?_
    refine aw_cond rfl (fun hb25 => ?_) (fun hb25 => ?_)
    · replace h := is_if hb25 h
      refine aw_exit ?_
      refine aq_then_exit ?_
      refine aq_in_other rfl ?_
      refine aq_then_exit ?_
      refine aq_in_exit ?_
      refine aq_then ?_
      refine aw_seq ?_
      refine aw_region ?_
      refine ao_read trivial (r_move rfl) rfl ?_
      refine ao_read trivial (r_move rfl) rfl ?_
      refine ao_read trivial (r_assign rfl) rfl ?_
      refine ao_read trivial (r_assign rfl) rfl ?_
      refine ao_nil ?_
      refine aq_then ?_
      refine aw_ret ?_
      refine aq_ret ?_
      obtain rfl := is_some h
      exact aq_finx (l := [.tmp 2, .tmp 3]) (xs := [.os 0, .int .i64 s1.1]) idn [.os 0, .int .i64 s1.1] [(0, .row (.pair .str (.pair .str .unit)) s1.2)] rfl (by exact ⟨rfl, rfl, trivial⟩) (by exact ⟨ad_ren rfl, ad_ren rfl, trivial⟩) (by exact ⟨⟨_, rfl, rfl⟩, trivial⟩) rfl (nk rfl) rfl rfl ⟨rfl, rfl⟩
    · obtain ⟨q26, q27⟩ := or_f hb25
      have q28 := d_f q26
      replace h := is_else (ne_t hb25) h
      refine aw_skip ?_
      refine aq_then ?_
      refine aw_seq ?_
      refine aw_region ?_
      refine ao_read trivial (r_move rfl) rfl ?_
      refine ao_read trivial (r_load_part (τ := (.pair .str (.pair .str .unit))) (y := ((r20.1.1, (r20.1.2.1, ())) : (ByteArray × (ByteArray × Unit)))) [] [] rfl Tryd.isAgg33 Tryd.sizeOf33 rfl rfl rfl rfl) rfl ?_
      refine ao_eff trivial (e_buildSlice (l := [(0, .tmp 40)]) (t := (.pair .str (.pair .str .unit))) 3 ([(r20.1.1, (r20.1.2.1, ()))] : (List (ByteArray × (ByteArray × Unit)))) rfl Tryd.underlying47 Tryd.zeroValue33 Tryd.sizeOf33 rfl rfl rfl rfl rfl rfl rfl) rfl ?_
      refine ao_eff trivial (e_append (t := (.pair .str (.pair .str .unit))) 4 rfl Tryd.underlying47 (rfl : Tryd.prog.info? 33 = some _) rfl rfl rfl rfl rfl rfl rfl (src_os rfl) (show s1.2.length + ([(r20.1.1, (r20.1.2.1, ()))] : (List (ByteArray × (ByteArray × Unit)))).length ≤ 1000000000 from by (try simp only [List.length_cons, List.length_nil]) <;> omega) rfl rfl) rfl ?_
      refine ao_read trivial (r_assign rfl) rfl ?_
      refine ao_nil ?_
      refine aq_then ?_
      refine aw_region ?_
      refine ao_read trivial (r_move rfl) rfl ?_
      refine ao_read trivial (r_move rfl) rfl ?_
      refine ao_read trivial (r_idxAddr_os Tryd.underlying76 Tryd.sizeOf9 rfl rfl rfl (show 0 ≤ 0 from by omega) (show 0 < (r17.length : Int) from by omega)) rfl ?_
      refine ao_read trivial (r_load_elemv (t := .str) Tryd.isAgg9 Tryd.sizeOf9 rfl rfl (show 0 < r17.length from by omega)) rfl ?_
      refine ao_read trivial (r_len_str Tryd.underlying9 rfl) rfl ?_
      refine ao_read trivial (r_add rfl rfl) rfl ?_
      refine ao_read trivial (r_add rfl rfl) rfl ?_
      refine ao_read trivial (r_assign rfl) rfl ?_
      refine ao_nil ?_
      refine aq_in ?_
      exact aq_again (AL.sub (sub_mk (rn [(0, 4)]) (by exact ⟨⟨_, rfl, ad_ren rfl⟩, ⟨_, rfl, ad_ren rfl⟩, ⟨_, rfl, ad_ren rfl⟩, trivial⟩) (by exact ⟨⟨_, rfl, rfl⟩, trivial⟩) (by rfl) (nk rfl)) (ih3 ((IntKind.wrap .i64 ((IntKind.wrap .i64 (s1.1 + ((r17.getD 0 ByteArray.empty).size : Int))) + 1)), (s1.2 ++ [(r20.1.1, (r20.1.2.1, ()))])) trivial h))
  · replace h := is_else (ne_t hb11) h
    refine aw_exit ?_
    refine aq_then_exit ?_
    refine aq_then_exit ?_
    refine aq_in_exit ?_
    refine aq_then ?_
    refine aw_seq ?_
    refine aw_region ?_
    refine ao_read trivial (r_move rfl) rfl ?_
    refine ao_read trivial (r_move rfl) rfl ?_
    refine ao_read trivial (r_assign rfl) rfl ?_
    refine ao_read trivial (r_assign rfl) rfl ?_
    refine ao_nil ?_
    refine aq_then ?_
    refine aw_ret ?_
    refine aq_ret ?_
    obtain rfl := is_some h
    exact aq_finx (l := [.tmp 2, .tmp 3]) (xs := [.os 0, .int .i64 s1.1]) idn [.os 0, .int .i64 s1.1] [(0, .row (.pair .str (.pair .str .unit)) s1.2)] rfl (by exact ⟨rfl, rfl, trivial⟩) (by exact ⟨ad_ren rfl, ad_ren rfl, trivial⟩) (by exact ⟨⟨_, rfl, rfl⟩, trivial⟩) rfl (nk rfl) rfl rfl ⟨rfl, rfl⟩
theorem c_spec_l12Valid {fu : Nat} {x0 : (ByteArray × (ByteArray × (Int × Unit)))} {r : Bool} (h : Is (p_spec_l12Valid fu x0) (some r)) :
    Scalar Tryd.prog 30 [.v (.pair .str (.pair .str (.pair (.int .i64) .unit))) x0] (.bool r) := by
  unfold p_spec_l12Valid at h
  refine ac_enter ⟨53, 0⟩ Tryd.func30 rfl rfl rfl rfl rfl (fun Γ => ?_)
  refine aw_seq ?_
  refine aw_region ?_
  refine ao_eff trivial (e_box 0 rfl rfl rfl rfl rfl rfl) rfl ?_
  refine ao_read trivial (r_assign rfl) rfl ?_
  refine ao_nil ?_
  refine aq_then ?_
  refine aw_seq ?_
  refine aw_seq ?_
  refine aw_region ?_
  refine ao_read trivial (r_fieldAddr Tryd.underlying27 rfl Tryd.sizeOf9 rfl rfl rfl) rfl ?_
  refine ao_read trivial (r_load_cell Tryd.isAgg9 rfl rfl rfl) rfl ?_
  refine ao_read trivial (r_len_str Tryd.underlying9 rfl) rfl ?_
  refine ao_read trivial (r_fieldAddr Tryd.underlying27 rfl Tryd.sizeOf9 rfl rfl rfl) rfl ?_
  refine ao_read trivial (r_load_cell Tryd.isAgg9 rfl rfl rfl) rfl ?_
  refine ao_read trivial (r_len_str Tryd.underlying9 rfl) rfl ?_
  refine ao_read trivial (r_add rfl rfl) rfl ?_
  refine ao_read trivial (r_gtr rfl rfl) rfl ?_
  refine ao_nil ?_
  refine aq_then ?_
  refine aw_cond rfl (fun hb1 => ?_) (fun hb1 => ?_)
  · have q2 := d_t hb1
    replace h := is_if (d_t hb1) h
    refine aw_seq ?_
    refine aw_region ?_
    refine ao_read trivial (r_assign rfl) rfl ?_
    refine ao_nil ?_
    refine aq_then ?_
    refine aw_ret ?_
    refine aq_then_ret ?_
    refine aq_ret ?_
    obtain rfl := is_some h
    exact aq_finx (l := [.tmp 2]) (xs := [.bool false]) idn [.bool false] [] rfl (by exact ⟨rfl, trivial⟩) (by exact ⟨ad_ren rfl, trivial⟩) (by exact trivial) rfl (nk rfl) rfl rfl ⟨rfl, rfl⟩
  · have q3 := d_f hb1
    replace h := is_else (d_f hb1) h
    refine aw_skip ?_
    refine aq_then ?_
    refine aw_seq ?_
    refine aw_region ?_
    refine ao_read trivial (r_fieldAddr Tryd.underlying27 rfl Tryd.sizeOf9 rfl rfl rfl) rfl ?_
    refine ao_read trivial (r_load_cell Tryd.isAgg9 rfl rfl rfl) rfl ?_
    refine ao_read trivial (r_fieldAddr Tryd.underlying27 rfl Tryd.sizeOf9 rfl rfl rfl) rfl ?_
    refine ao_read trivial (r_load_cell Tryd.isAgg9 rfl rfl rfl) rfl ?_
    obtain ⟨g4, h⟩ := is_guard h
    refine ao_read trivial (r_add_str (a := x0.1) (b := x0.2.1) rfl rfl (by omega)) rfl ?_
    obtain ⟨r5, r5h, h⟩ := is_bind h
    refine ao_call [] 1 trivial (c_spec_l12Open (is_mk r5h)) Tryd.func45 rfl rfl rfl rfl ⟨ad_ren rfl, trivial⟩ trivial rfl rfl rfl rfl rfl rfl rfl (fun r' H' hr => ?_)
    obtain ⟨rfl, rfl⟩ := hr
    refine ao_norm (y := .tup [.os 1, .int .i64 r5.2]) (H' := [(0, .var [.cell (.str x0.1), .cell (.str x0.2.1), .cell (.int .i64 x0.2.2.1)]), (1, .row (.pair .str (.pair .str .unit)) r5.1)]) rfl rfl ?_
    refine row_len_o 1 (r5.1.length : Int) rfl rfl (fun hr6 => ?_)
    refine ao_read trivial (r_move rfl) rfl ?_
    refine ao_read trivial (r_extract rfl rfl) rfl ?_
    refine ao_read trivial (r_extract rfl rfl) rfl ?_
    refine ao_read trivial (r_assign rfl) rfl ?_
    refine ao_read trivial (r_assign rfl) rfl ?_
    refine ao_nil ?_
    refine aq_then ?_
    refine aw_seq ?_
    refine aw_region ?_
    refine ao_read trivial (r_fieldAddr Tryd.underlying27 rfl Tryd.sizeOf9 rfl rfl rfl) rfl ?_
    refine ao_read trivial (r_load_cell Tryd.isAgg9 rfl rfl rfl) rfl ?_
    obtain ⟨r7, r7h, h⟩ := is_bind h
    refine ao_call [] 2 trivial (c_spec_l12Open (is_mk r7h)) Tryd.func45 rfl rfl rfl rfl ⟨ad_ren rfl, trivial⟩ trivial rfl rfl rfl rfl rfl rfl rfl (fun r' H' hr => ?_)
    obtain ⟨rfl, rfl⟩ := hr
    refine ao_norm (y := .tup [.os 2, .int .i64 r7.2]) (H' := [(0, .var [.cell (.str x0.1), .cell (.str x0.2.1), .cell (.int .i64 x0.2.2.1)]), (1, .row (.pair .str (.pair .str .unit)) r5.1), (2, .row (.pair .str (.pair .str .unit)) r7.1)]) rfl rfl ?_
    refine row_len_o 2 (r7.1.length : Int) rfl rfl (fun hr8 => ?_)
    refine ao_read trivial (r_move rfl) rfl ?_
    refine ao_read trivial (r_extract rfl rfl) rfl ?_
    refine ao_read trivial (r_extract rfl rfl) rfl ?_
    refine ao_read trivial (r_assign rfl) rfl ?_
    refine ao_read trivial (r_assign rfl) rfl ?_
    refine ao_nil ?_
    refine aq_then ?_
    refine aw_seq ?_
    refine aw_region ?_
    refine ao_read trivial (r_move rfl) rfl ?_
    refine ao_read trivial (r_fieldAddr Tryd.underlying27 rfl Tryd.sizeOf9 rfl rfl rfl) rfl ?_
    refine ao_read trivial (r_load_cell Tryd.isAgg9 rfl rfl rfl) rfl ?_
    refine ao_read trivial (r_len_str Tryd.underlying9 rfl) rfl ?_
    refine ao_read trivial (r_fieldAddr Tryd.underlying27 rfl Tryd.sizeOf9 rfl rfl rfl) rfl ?_
    refine ao_read trivial (r_load_cell Tryd.isAgg9 rfl rfl rfl) rfl ?_
    refine ao_read trivial (r_len_str Tryd.underlying9 rfl) rfl ?_
    refine ao_read trivial (r_addI rfl rfl (wrap_id (by omega) (by omega))) rfl ?_
    refine ao_read trivial (r_eql rfl rfl) rfl ?_
    refine ao_read trivial (r_move rfl) rfl ?_
    refine ao_readG (x := .int .i64 r7.2) rfl (GV.T rfl) (fun hg9 => by
          have q10 := d_t hg9
          exact r_move rfl) rfl ?_
    refine ao_readG (x := .ref 0 0) rfl (GV.T rfl) (fun hg11 => by
          have q12 := d_t hg11
          exact r_fieldAddr Tryd.underlying27 rfl Tryd.sizeOf9 rfl rfl rfl) rfl ?_
    refine ao_readG (x := .str x0.1) rfl (GV.T rfl) (fun hg13 => by
          have q14 := d_t hg13
          exact Reads.strip 41 rfl (hg13) (r_load_cell Tryd.isAgg9 rfl rfl rfl)) rfl ?_
    refine ao_readG (x := .int .i64 (x0.1.size : Int)) rfl (GV.T rfl) (fun hg15 => by
          have q16 := d_t hg15
          exact Reads.strip 42 rfl (hg15) (r_len_str Tryd.underlying9 rfl)) rfl ?_
    refine ao_readG (x := .bool (decide (r7.2 = (x0.1.size : Int)))) rfl (GV.T rfl) (fun hg17 => by
          have q18 := d_t hg17
          exact Reads.strip 40 rfl (hg17) (Reads.strip 43 rfl (hg17) (r_eql rfl rfl))) rfl ?_
    refine ao_read trivial (r_andB rfl rfl) rfl ?_
    refine ao_read trivial (r_move rfl) rfl ?_
    refine ao_readG (x := .os 1) rfl (GV.T rfl) (fun hg19 => by
          obtain ⟨q20, q21⟩ := and_t hg19
          have q22 := d_t q20
          have q23 := d_t q21
          exact r_move rfl) rfl ?_
    refine ao_readG (x := .int .i64 (r5.1.length : Int)) rfl (GV.T rfl) (fun hg24 => by
          obtain ⟨q25, q26⟩ := and_t hg24
          have q27 := d_t q25
          have q28 := d_t q26
          exact Reads.strip 47 rfl (hg24) (r_len_osm (r5.1.length : Int) Tryd.underlying47 rfl rfl rfl)) rfl ?_
    refine ao_readG (x := .ref 0 2) rfl (GV.T rfl) (fun hg29 => by
          obtain ⟨q30, q31⟩ := and_t hg29
          have q32 := d_t q30
          have q33 := d_t q31
          exact r_fieldAddr Tryd.underlying27 rfl Tryd.sizeOf3 rfl rfl rfl) rfl ?_
    refine ao_readG (x := .int .i64 x0.2.2.1) rfl (GV.T rfl) (fun hg34 => by
          obtain ⟨q35, q36⟩ := and_t hg34
          have q37 := d_t q35
          have q38 := d_t q36
          exact Reads.strip 49 rfl (hg34) (r_load_cell Tryd.isAgg3 rfl rfl rfl)) rfl ?_
    refine ao_readG (x := .bool (decide ((r5.1.length : Int) = x0.2.2.1))) rfl (GV.T rfl) (fun hg39 => by
          obtain ⟨q40, q41⟩ := and_t hg39
          have q42 := d_t q40
          have q43 := d_t q41
          exact Reads.strip 48 rfl (hg39) (Reads.strip 50 rfl (hg39) (r_eql rfl rfl))) rfl ?_
    refine ao_read trivial (r_andB rfl rfl) rfl ?_
    refine ao_read trivial (r_assign rfl) rfl ?_
    refine ao_nil ?_
    refine aq_then ?_
    refine aw_ret ?_
    refine aq_ret ?_
    obtain rfl := is_some h
    exact aq_finx (l := [.tmp 2]) (xs := [.bool (((decide (r5.2 = ((x0.1.size : Int) + (x0.2.1.size : Int)))) && (decide (r7.2 = (x0.1.size : Int)))) && (decide ((r5.1.length : Int) = x0.2.2.1)))]) idn [.bool (((decide (r5.2 = ((x0.1.size : Int) + (x0.2.1.size : Int)))) && (decide (r7.2 = (x0.1.size : Int)))) && (decide ((r5.1.length : Int) = x0.2.2.1)))] [] rfl (by exact ⟨rfl, trivial⟩) (by exact ⟨ad_ren rfl, trivial⟩) (by exact trivial) rfl (nk rfl) rfl rfl ⟨rfl, rfl⟩
theorem c_spec_AppendRecord {fu : Nat} {x0 : (ByteArray × (ByteArray × (Int × Unit)))} {x1 : (ByteArray × (ByteArray × Unit))} {r : (ByteArray × (ByteArray × (Int × Unit))) × Int} (h : Is (p_spec_AppendRecord fu x0 x1) (some r)) :
    Scalar Tryd.prog 19 [.v (.pair .str (.pair .str (.pair (.int .i64) .unit))) x0, .v (.pair .str (.pair .str .unit)) x1] (.tup [.v (.pair .str (.pair .str (.pair (.int .i64) .unit))) r.1, .int .i64 r.2]) := by
  unfold p_spec_AppendRecord at h
  refine ac_enter ⟨32, 0⟩ Tryd.func19 rfl rfl rfl rfl rfl (fun Γ => ?_)
  refine aw_seq ?_
  refine aw_region ?_
  refine ao_eff trivial (e_box 0 rfl rfl rfl rfl rfl rfl) rfl ?_
  refine ao_eff trivial (e_box 1 rfl rfl rfl rfl rfl rfl) rfl ?_
  refine ao_eff trivial (e_alloc 2 (y := .st [.str ByteArray.empty, .str ByteArray.empty, .int .i64 0]) Tryd.zeroValue27 (fun ρ h M => ra_zero_st (t := (.pair .str (.pair .str (.pair (.int .i64) .unit)))) rfl rfl rfl) rfl rfl rfl rfl rfl) rfl ?_
  refine ao_read trivial (r_assign rfl) rfl ?_
  refine ao_nil ?_
  refine aq_then ?_
  refine aw_seq ?_
  refine aw_seq ?_
  refine aw_region ?_
  refine ao_read trivial (r_load_part (τ := (.pair .str (.pair .str (.pair (.int .i64) .unit)))) (y := ((x0.1, (x0.2.1, (x0.2.2.1, ()))) : (ByteArray × (ByteArray × (Int × Unit))))) [] [] rfl Tryd.isAgg27 Tryd.sizeOf27 rfl rfl rfl rfl) rfl ?_
  obtain ⟨r1, r1h, h⟩ := is_bind h
  refine ao_scall trivial (scall (c_spec_l12Valid (is_mk r1h)) rfl Tryd.func30 rfl rfl rfl rfl (fun σ => ⟨ad_ren rfl, trivial⟩)) rfl ?_
  refine ao_read trivial (r_not rfl) rfl ?_
  refine ao_read trivial (r_move rfl) rfl ?_
  refine ao_readG (x := .v (.pair .str (.pair .str .unit)) ((x1.1, (x1.2.1, ())) : (ByteArray × (ByteArray × Unit)))) rfl (GV.F rfl) (fun hg2 => r_load_part (τ := (.pair .str (.pair .str .unit))) (y := ((x1.1, (x1.2.1, ())) : (ByteArray × (ByteArray × Unit)))) [] [] rfl Tryd.isAgg33 Tryd.sizeOf33 rfl rfl rfl rfl) rfl ?_
  obtain ⟨g4, h⟩ := is_guard h
  refine ao_scallG (r := .bool ((p_spec_l12Record (x1.1, (x1.2.1, ()))).getD false)) rfl (GV.F rfl) (fun hg3 => SCall.strip 10 rfl (hg3) (scall (c_spec_l12Record (is_mk (isSome_getD (g4 hg3)))) rfl Tryd.func37 rfl rfl rfl rfl (fun σ => ⟨ad_ren rfl, trivial⟩))) rfl ?_
  refine ao_readG (x := .bool (!((p_spec_l12Record (x1.1, (x1.2.1, ()))).getD false))) rfl (GV.F rfl) (fun hg5 => Reads.strip 11 rfl (hg5) (r_not rfl)) rfl ?_
  refine ao_read trivial (r_orB rfl rfl) rfl ?_
  refine ao_nil ?_
  refine aq_then ?_
  refine aw_cond rfl (fun hb6 => ?_) (fun hb6 => ?_)
  · replace h := is_if hb6 h
    refine aw_seq ?_
    refine aw_region ?_
    refine ao_read trivial (r_load_part (τ := (.pair .str (.pair .str (.pair (.int .i64) .unit)))) (y := ((x0.1, (x0.2.1, (x0.2.2.1, ()))) : (ByteArray × (ByteArray × (Int × Unit))))) [] [] rfl Tryd.isAgg27 Tryd.sizeOf27 rfl rfl rfl rfl) rfl ?_
    refine ao_effS trivial (e_store rfl rfl rfl rfl Tryd.sizeOf27 rfl) ?_
    refine ao_read trivial (r_assign rfl) rfl ?_
    refine ao_nil ?_
    refine aq_then ?_
    refine aw_ret ?_
    refine aq_then_ret ?_
    refine aq_ret ?_
    obtain rfl := is_some h
    exact aq_finx (l := [.cell 4 27, .tmp 5]) (xs := [.st [.str x0.1, .str x0.2.1, .int .i64 x0.2.2.1], .int .i64 1]) idn [.v (.pair .str (.pair .str (.pair (.int .i64) .unit))) ((x0.1, (x0.2.1, (x0.2.2.1, ()))) : (ByteArray × (ByteArray × (Int × Unit)))), .int .i64 1] [] rfl (by exact ⟨⟨⟨_, _, rfl⟩, r_load_st [] [.cell (.str x0.1), .cell (.str x0.2.1), .cell (.int .i64 x0.2.2.1)] [] Tryd.isAgg27 Tryd.sizeOf27 rfl rfl rfl rfl rfl rfl rfl⟩, rfl, trivial⟩) (by exact ⟨ad_st rfl rfl ⟨ad_ren rfl, ad_ren rfl, ad_ren rfl, trivial⟩, ad_ren rfl, trivial⟩) (by exact trivial) rfl (nk rfl) rfl rfl ⟨rfl, rfl⟩
  · obtain ⟨q7, q8⟩ := or_f hb6
    replace h := is_else (ne_t hb6) h
    refine aw_skip ?_
    refine aq_then ?_
    refine aw_seq ?_
    refine aw_seq ?_
    refine aw_region ?_
    refine ao_read trivial (r_fieldAddr Tryd.underlying27 rfl Tryd.sizeOf3 rfl rfl rfl) rfl ?_
    refine ao_read trivial (r_load_cell Tryd.isAgg3 rfl rfl rfl) rfl ?_
    refine ao_read trivial (r_eql rfl rfl) rfl ?_
    refine ao_nil ?_
    refine aq_then ?_
    refine aw_cond rfl (fun hb9 => ?_) (fun hb9 => ?_)
    · have q10 := d_t hb9
      replace h := is_if (d_t hb9) h
      refine aw_seq ?_
      refine aw_region ?_
      refine ao_read trivial (r_load_part (τ := (.pair .str (.pair .str (.pair (.int .i64) .unit)))) (y := ((x0.1, (x0.2.1, (x0.2.2.1, ()))) : (ByteArray × (ByteArray × (Int × Unit))))) [] [] rfl Tryd.isAgg27 Tryd.sizeOf27 rfl rfl rfl rfl) rfl ?_
      refine ao_effS trivial (e_store rfl rfl rfl rfl Tryd.sizeOf27 rfl) ?_
      refine ao_read trivial (r_assign rfl) rfl ?_
      refine ao_nil ?_
      refine aq_then ?_
      refine aw_ret ?_
      refine aq_then_ret ?_
      refine aq_ret ?_
      obtain rfl := is_some h
      exact aq_finx (l := [.cell 4 27, .tmp 5]) (xs := [.st [.str x0.1, .str x0.2.1, .int .i64 x0.2.2.1], .int .i64 2]) idn [.v (.pair .str (.pair .str (.pair (.int .i64) .unit))) ((x0.1, (x0.2.1, (x0.2.2.1, ()))) : (ByteArray × (ByteArray × (Int × Unit)))), .int .i64 2] [] rfl (by exact ⟨⟨⟨_, _, rfl⟩, r_load_st [] [.cell (.str x0.1), .cell (.str x0.2.1), .cell (.int .i64 x0.2.2.1)] [] Tryd.isAgg27 Tryd.sizeOf27 rfl rfl rfl rfl rfl rfl rfl⟩, rfl, trivial⟩) (by exact ⟨ad_st rfl rfl ⟨ad_ren rfl, ad_ren rfl, ad_ren rfl, trivial⟩, ad_ren rfl, trivial⟩) (by exact trivial) rfl (nk rfl) rfl rfl ⟨rfl, rfl⟩
    · have q11 := d_f hb9
      replace h := is_else (d_f hb9) h
      refine aw_skip ?_
      refine aq_then ?_
      refine aw_seq ?_
      obtain ⟨r12, r12h, h⟩ := is_bind h
      obtain ⟨g13, h⟩ := is_guard h
      refine aw_draw 8 (by kernel_rfl) (by kernel_rfl) ?_
      refine an_read 0 (by kernel_rfl) (fun _ _ _ h => h) rfl (by kernel_rfl) trivial (r_fieldAddr Tryd.underlying27 rfl Tryd.sizeOf9 rfl rfl rfl) rfl ?_
      refine an_read 1 (by kernel_rfl) (fun _ _ _ h => h) rfl (by kernel_rfl) trivial (r_load_cell Tryd.isAgg9 rfl rfl rfl) rfl ?_
      refine an_read 2 (by kernel_rfl) (fun _ _ _ h => h) rfl (by kernel_rfl) trivial (r_fieldAddr Tryd.underlying27 rfl Tryd.sizeOf3 rfl rfl rfl) rfl ?_
      refine an_read 3 (by kernel_rfl) (fun _ _ _ h => h) rfl (by kernel_rfl) trivial (r_load_cell Tryd.isAgg3 rfl rfl rfl) rfl ?_
      refine an_read 4 (by kernel_rfl) (fun _ _ _ h => h) rfl (by kernel_rfl) trivial (r_load_part (τ := (.pair .str (.pair .str .unit))) (y := ((x1.1, (x1.2.1, ())) : (ByteArray × (ByteArray × Unit)))) [] [] rfl Tryd.isAgg33 Tryd.sizeOf33 rfl rfl rfl rfl) rfl ?_
      refine an_scall 5 (by kernel_rfl) (fun _ _ _ h => h) rfl (by kernel_rfl) trivial (scall (c_spec_l12Line (is_mk r12h)) rfl Tryd.func38 rfl rfl rfl rfl (fun σ => ⟨ad_ren rfl, ad_ren rfl, trivial⟩)) rfl ?_
      refine an_read 6 (by kernel_rfl) (fun _ _ _ h => h) rfl (by kernel_rfl) trivial (r_add_str (a := x0.2.1) (b := r12) rfl rfl (by omega)) rfl ?_
      refine an_read 7 (by kernel_rfl) (fun _ _ _ h => h) rfl (by kernel_rfl) trivial (r_fieldAddr Tryd.underlying27 rfl Tryd.sizeOf9 rfl rfl rfl) rfl ?_
      refine an_tail rfl rfl ?_
      refine ao_effS trivial (e_store rfl rfl rfl rfl Tryd.sizeOf9 rfl) ?_
      refine ao_nil ?_
      refine aq_then ?_
      refine aw_seq ?_
      refine aw_region ?_
      refine ao_read trivial (r_fieldAddr Tryd.underlying27 rfl Tryd.sizeOf3 rfl rfl rfl) rfl ?_
      refine ao_read trivial (r_load_cell Tryd.isAgg3 rfl rfl rfl) rfl ?_
      refine ao_read trivial (r_add rfl rfl) rfl ?_
      refine ao_read trivial (r_fieldAddr Tryd.underlying27 rfl Tryd.sizeOf3 rfl rfl rfl) rfl ?_
      refine ao_effS trivial (e_store rfl rfl rfl rfl Tryd.sizeOf3 rfl) ?_
      refine ao_nil ?_
      refine aq_then ?_
      refine aw_seq ?_
      refine aw_region ?_
      refine ao_read trivial (r_load_part (τ := (.pair .str (.pair .str (.pair (.int .i64) .unit)))) (y := ((x0.1, ((x0.2.1 ++ r12), ((IntKind.wrap .i64 (x0.2.2.1 + 1)), ()))) : (ByteArray × (ByteArray × (Int × Unit))))) [] [] rfl Tryd.isAgg27 Tryd.sizeOf27 rfl rfl rfl rfl) rfl ?_
      refine ao_effS trivial (e_store rfl rfl rfl rfl Tryd.sizeOf27 rfl) ?_
      refine ao_read trivial (r_assign rfl) rfl ?_
      refine ao_nil ?_
      refine aq_then ?_
      refine aw_ret ?_
      refine aq_ret ?_
      obtain rfl := is_some h
      exact aq_finx (l := [.cell 4 27, .tmp 5]) (xs := [.st [.str x0.1, .str (x0.2.1 ++ r12), .int .i64 (IntKind.wrap .i64 (x0.2.2.1 + 1))], .int .i64 0]) idn [.v (.pair .str (.pair .str (.pair (.int .i64) .unit))) ((x0.1, ((x0.2.1 ++ r12), ((IntKind.wrap .i64 (x0.2.2.1 + 1)), ()))) : (ByteArray × (ByteArray × (Int × Unit)))), .int .i64 0] [] rfl (by exact ⟨⟨⟨_, _, rfl⟩, r_load_st [] [.cell (.str x0.1), .cell (.str (x0.2.1 ++ r12)), .cell (.int .i64 (IntKind.wrap .i64 (x0.2.2.1 + 1)))] [] Tryd.isAgg27 Tryd.sizeOf27 rfl rfl rfl rfl rfl rfl rfl⟩, rfl, trivial⟩) (by exact ⟨ad_st rfl rfl ⟨ad_ren rfl, ad_ren rfl, ad_ren rfl, trivial⟩, ad_ren rfl, trivial⟩) (by exact trivial) rfl (nk rfl) rfl rfl ⟨rfl, rfl⟩
theorem c_spec_l1Cur_one {x0 : Int} {x1 : (List Int)} {x2 : Int} {x3 : Int} {r : Bool × Int × Int} (h : Is (p_spec_l1Cur_one x0 x1 x2 x3) (some r)) :
    ACallsV Tryd.prog 42 [.ref 0 0, .int .i64 x0] [(0, .var [.cell (.v (.slice (.int .u8)) x1), .cell (.int .i64 x2), .cell (.int .u64 x3)])] (fun r' H' => r' = .bool r.1 ∧ H' = [(0, .var [.cell (.v (.slice (.int .u8)) x1), .cell (.int .i64 r.2.1), .cell (.int .u64 r.2.2)])]) := by
  unfold p_spec_l1Cur_one at h
  refine ac_enterV ⟨9, 1⟩ Tryd.func42 rfl rfl rfl rfl rfl (fun Γ => ?_)
  refine aw_seq ?_
  refine aw_region ?_
  refine ao_read trivial (r_assign rfl) rfl ?_
  refine ao_nil ?_
  refine aq_then ?_
  refine aw_seq ?_
  refine aw_region ?_
  refine ao_read trivial (r_move rfl) rfl ?_
  refine ao_read trivial (r_move rfl) rfl ?_
  obtain ⟨r1, r1h, h⟩ := is_bind h
  refine ao_callV [0] 1 trivial (c_spec_l1Cur_pick (is_mk r1h)) Tryd.func43 rfl rfl rfl rfl rfl ⟨rfl, trivial⟩ ⟨⟨_, rfl, ⟨ad_ren rfl, rfl, ad_ren rfl, rfl, ad_ren rfl, rfl, trivial⟩⟩, trivial⟩ rfl rfl rfl rfl rfl rfl rfl (fun r' H' hr => ?_)
  obtain ⟨rfl, rfl⟩ := hr
  refine ao_norm (y := .int .i64 r1.1) (H' := [(0, .var [.cell (.v (.slice (.int .u8)) x1), .cell (.int .i64 r1.2.1), .cell (.int .u64 r1.2.2)])]) rfl rfl ?_
  refine ao_read trivial (r_eql rfl rfl) rfl ?_
  refine ao_read trivial (r_assign rfl) rfl ?_
  refine ao_nil ?_
  refine aq_then ?_
  refine aw_ret ?_
  refine aq_ret ?_
  obtain rfl := is_some h
  exact aq_finV (l := [.tmp 4]) (xs := [.bool (decide (r1.1 = 0))]) idn [.bool (decide (r1.1 = 0))] [(0, .var [.cell (.v (.slice (.int .u8)) x1), .cell (.int .i64 r1.2.1), .cell (.int .u64 r1.2.2)])] rfl (by exact ⟨rfl, trivial⟩) (by exact ⟨ad_ren rfl, trivial⟩) (by exact ⟨⟨_, rfl, ⟨ad_ren rfl, rfl, ad_ren rfl, rfl, ad_ren rfl, rfl, trivial⟩⟩, trivial⟩) rfl (nk1 rfl rfl) ⟨rfl, rfl⟩
theorem c_spec_SyncLog {fu : Nat} {x0 : (ByteArray × (ByteArray × (Int × Unit)))} {r : (ByteArray × (ByteArray × (Int × Unit))) × Bool} (h : Is (p_spec_SyncLog fu x0) (some r)) :
    Scalar Tryd.prog 21 [.v (.pair .str (.pair .str (.pair (.int .i64) .unit))) x0] (.tup [.v (.pair .str (.pair .str (.pair (.int .i64) .unit))) r.1, .bool r.2]) := by
  unfold p_spec_SyncLog at h
  refine ac_enter ⟨16, 0⟩ Tryd.func21 rfl rfl rfl rfl rfl (fun Γ => ?_)
  refine aw_seq ?_
  refine aw_region ?_
  refine ao_eff trivial (e_box 0 rfl rfl rfl rfl rfl rfl) rfl ?_
  refine ao_eff trivial (e_alloc 1 (y := .st [.str ByteArray.empty, .str ByteArray.empty, .int .i64 0]) Tryd.zeroValue27 (fun ρ h M => ra_zero_st (t := (.pair .str (.pair .str (.pair (.int .i64) .unit)))) rfl rfl rfl) rfl rfl rfl rfl rfl) rfl ?_
  refine ao_read trivial (r_assign rfl) rfl ?_
  refine ao_nil ?_
  refine aq_then ?_
  refine aw_seq ?_
  refine aw_seq ?_
  refine aw_region ?_
  refine ao_read trivial (r_load_part (τ := (.pair .str (.pair .str (.pair (.int .i64) .unit)))) (y := ((x0.1, (x0.2.1, (x0.2.2.1, ()))) : (ByteArray × (ByteArray × (Int × Unit))))) [] [] rfl Tryd.isAgg27 Tryd.sizeOf27 rfl rfl rfl rfl) rfl ?_
  obtain ⟨r1, r1h, h⟩ := is_bind h
  refine ao_scall trivial (scall (c_spec_l12Valid (is_mk r1h)) rfl Tryd.func30 rfl rfl rfl rfl (fun σ => ⟨ad_ren rfl, trivial⟩)) rfl ?_
  refine ao_read trivial (r_not rfl) rfl ?_
  refine ao_nil ?_
  refine aq_then ?_
  refine aw_cond rfl (fun hb2 => ?_) (fun hb2 => ?_)
  · replace h := is_else (ne_t (not_t hb2)) h
    refine aw_seq ?_
    refine aw_region ?_
    refine ao_read trivial (r_build_stv (l := []) (cs := [.cell (.str ByteArray.empty), .cell (.str ByteArray.empty), .cell (.int .i64 0)]) (.pair .str (.pair .str (.pair (.int .i64) .unit))) ((ByteArray.empty, (ByteArray.empty, (0, ()))) : (ByteArray × (ByteArray × (Int × Unit)))) [(0, 1), (1, 1), (2, 1)] Tryd.underlying27 Tryd.zeroValue27 rfl ⟨rfl, Tryd.sizeOf9, rfl, Tryd.sizeOf9, rfl, Tryd.sizeOf3, trivial⟩ rfl rfl rfl rfl) rfl ?_
    refine ao_effS trivial (e_store rfl rfl rfl rfl Tryd.sizeOf27 rfl) ?_
    refine ao_read trivial (r_assign rfl) rfl ?_
    refine ao_nil ?_
    refine aq_then ?_
    refine aw_ret ?_
    refine aq_then_ret ?_
    refine aq_ret ?_
    obtain rfl := is_some h
    exact aq_finx (l := [.cell 2 27, .tmp 3]) (xs := [.st [.str ByteArray.empty, .str ByteArray.empty, .int .i64 0], .bool false]) idn [.v (.pair .str (.pair .str (.pair (.int .i64) .unit))) ((ByteArray.empty, (ByteArray.empty, (0, ()))) : (ByteArray × (ByteArray × (Int × Unit)))), .bool false] [] rfl (by exact ⟨⟨⟨_, _, rfl⟩, r_load_st [] [.cell (.str ByteArray.empty), .cell (.str ByteArray.empty), .cell (.int .i64 0)] [] Tryd.isAgg27 Tryd.sizeOf27 rfl rfl rfl rfl rfl rfl rfl⟩, rfl, trivial⟩) (by exact ⟨ad_st rfl rfl ⟨ad_ren rfl, ad_ren rfl, ad_ren rfl, trivial⟩, ad_ren rfl, trivial⟩) (by exact trivial) rfl (nk rfl) rfl rfl ⟨rfl, rfl⟩
  · replace h := is_if (not_f hb2) h
    refine aw_skip ?_
    refine aq_then ?_
    refine aw_seq ?_
    refine aw_region ?_
    refine ao_read trivial (r_fieldAddr Tryd.underlying27 rfl Tryd.sizeOf9 rfl rfl rfl) rfl ?_
    refine ao_read trivial (r_load_cell Tryd.isAgg9 rfl rfl rfl) rfl ?_
    refine ao_read trivial (r_fieldAddr Tryd.underlying27 rfl Tryd.sizeOf9 rfl rfl rfl) rfl ?_
    refine ao_read trivial (r_load_cell Tryd.isAgg9 rfl rfl rfl) rfl ?_
    obtain ⟨g3, h⟩ := is_guard h
    refine ao_read trivial (r_add_str (a := x0.1) (b := x0.2.1) rfl rfl (by omega)) rfl ?_
    refine ao_read trivial (r_fieldAddr Tryd.underlying27 rfl Tryd.sizeOf3 rfl rfl rfl) rfl ?_
    refine ao_read trivial (r_load_cell Tryd.isAgg3 rfl rfl rfl) rfl ?_
    refine ao_read trivial (r_build_stv (l := [(0, .tmp 12), (2, .tmp 14)]) (cs := [.cell (.str (x0.1 ++ x0.2.1)), .cell (.str ByteArray.empty), .cell (.int .i64 x0.2.2.1)]) (.pair .str (.pair .str (.pair (.int .i64) .unit))) (((x0.1 ++ x0.2.1), (ByteArray.empty, (x0.2.2.1, ()))) : (ByteArray × (ByteArray × (Int × Unit)))) [(0, 1), (1, 1), (2, 1)] Tryd.underlying27 Tryd.zeroValue27 rfl ⟨rfl, Tryd.sizeOf9, rfl, Tryd.sizeOf9, rfl, Tryd.sizeOf3, trivial⟩ rfl rfl rfl rfl) rfl ?_
    refine ao_effS trivial (e_store rfl rfl rfl rfl Tryd.sizeOf27 rfl) ?_
    refine ao_read trivial (r_assign rfl) rfl ?_
    refine ao_nil ?_
    refine aq_then ?_
    refine aw_ret ?_
    refine aq_ret ?_
    obtain rfl := is_some h
    exact aq_finx (l := [.cell 2 27, .tmp 3]) (xs := [.st [.str (x0.1 ++ x0.2.1), .str ByteArray.empty, .int .i64 x0.2.2.1], .bool true]) idn [.v (.pair .str (.pair .str (.pair (.int .i64) .unit))) (((x0.1 ++ x0.2.1), (ByteArray.empty, (x0.2.2.1, ()))) : (ByteArray × (ByteArray × (Int × Unit)))), .bool true] [] rfl (by exact ⟨⟨⟨_, _, rfl⟩, r_load_st [] [.cell (.str (x0.1 ++ x0.2.1)), .cell (.str ByteArray.empty), .cell (.int .i64 x0.2.2.1)] [] Tryd.isAgg27 Tryd.sizeOf27 rfl rfl rfl rfl rfl rfl rfl⟩, rfl, trivial⟩) (by exact ⟨ad_st rfl rfl ⟨ad_ren rfl, ad_ren rfl, ad_ren rfl, trivial⟩, ad_ren rfl, trivial⟩) (by exact trivial) rfl (nk rfl) rfl rfl ⟨rfl, rfl⟩
theorem c_spec_l1Cur_log12 {fu : Nat} {x0 : (List Int)} {x1 : Int} {x2 : Int} {r : (ByteArray × (ByteArray × (Int × Unit))) × Int × Int} (h : Is (p_spec_l1Cur_log12 fu x0 x1 x2) (some r)) :
    ACallsV Tryd.prog 46 [.ref 0 0] [(0, .var [.cell (.v (.slice (.int .u8)) x0), .cell (.int .i64 x1), .cell (.int .u64 x2)])] (fun r' H' => r' = .v (.pair .str (.pair .str (.pair (.int .i64) .unit))) r.1 ∧ H' = [(0, .var [.cell (.v (.slice (.int .u8)) x0), .cell (.int .i64 r.2.1), .cell (.int .u64 r.2.2)])]) := by
  unfold p_spec_l1Cur_log12 at h
  refine ac_enterV ⟨27, 1⟩ Tryd.func46 rfl rfl rfl rfl rfl (fun Γ => ?_)
  refine aw_seq ?_
  refine aw_region ?_
  refine ao_eff trivial (e_alloc 1 (y := .st [.str ByteArray.empty, .str ByteArray.empty, .int .i64 0]) Tryd.zeroValue27 (fun ρ h M => ra_zero_st (t := (.pair .str (.pair .str (.pair (.int .i64) .unit)))) rfl rfl rfl) rfl rfl rfl rfl rfl) rfl ?_
  refine ao_nil ?_
  refine aq_then ?_
  refine aw_seq ?_
  refine aw_region ?_
  refine ao_read trivial (r_build_stv (l := []) (cs := [.cell (.str ByteArray.empty), .cell (.str ByteArray.empty), .cell (.int .i64 0)]) (.pair .str (.pair .str (.pair (.int .i64) .unit))) ((ByteArray.empty, (ByteArray.empty, (0, ()))) : (ByteArray × (ByteArray × (Int × Unit)))) [(0, 1), (1, 1), (2, 1)] Tryd.underlying27 Tryd.zeroValue27 rfl ⟨rfl, Tryd.sizeOf9, rfl, Tryd.sizeOf9, rfl, Tryd.sizeOf3, trivial⟩ rfl rfl rfl rfl) rfl ?_
  refine ao_eff trivial (e_alloc 2 (y := .st [.str ByteArray.empty, .str ByteArray.empty, .int .i64 0]) Tryd.zeroValue27 (fun ρ h M => ra_zero_st (t := (.pair .str (.pair .str (.pair (.int .i64) .unit)))) rfl rfl rfl) rfl rfl rfl rfl rfl) rfl ?_
  refine ao_effS trivial (e_store rfl rfl rfl rfl Tryd.sizeOf27 rfl) ?_
  refine ao_nil ?_
  refine aq_then ?_
  refine aw_seq ?_
  refine aw_seq ?_
  refine aw_region ?_
  refine ao_read trivial (r_move rfl) rfl ?_
  obtain ⟨r1, r1h, h⟩ := is_bind h
  refine ao_callV [0] 3 trivial (c_spec_l1Cur_pick (is_mk r1h)) Tryd.func43 rfl rfl rfl rfl rfl ⟨rfl, trivial⟩ ⟨⟨_, rfl, ⟨ad_ren rfl, rfl, ad_ren rfl, rfl, ad_ren rfl, rfl, trivial⟩⟩, trivial⟩ rfl rfl rfl rfl rfl rfl rfl (fun r' H' hr => ?_)
  obtain ⟨rfl, rfl⟩ := hr
  refine ao_norm (y := .int .i64 r1.1) (H' := [(2, .var [.cell (.str ByteArray.empty), .cell (.str ByteArray.empty), .cell (.int .i64 0)]), (1, .var [.cell (.str ByteArray.empty), .cell (.str ByteArray.empty), .cell (.int .i64 0)]), (0, .var [.cell (.v (.slice (.int .u8)) x0), .cell (.int .i64 r1.2.1), .cell (.int .u64 r1.2.2)])]) rfl rfl ?_
  refine ao_read trivial (r_assign rfl) rfl ?_
  refine ao_nil ?_
  refine aq_then ?_
  refine aw_block ?_
  refine aw_loop (AL.sub (sub_mk idn (by exact ⟨⟨_, rfl, ad_ren rfl⟩, ⟨_, rfl, ad_ren rfl⟩, ⟨_, rfl, ad_ren rfl⟩, ⟨_, rfl, ad_ren rfl⟩, trivial⟩) (by exact ⟨⟨_, rfl, ⟨ad_ren rfl, rfl, ad_ren rfl, rfl, ad_ren rfl, rfl, trivial⟩⟩, ⟨_, rfl, ⟨ad_ren rfl, rfl, ad_ren rfl, rfl, ad_ren rfl, rfl, trivial⟩⟩, ⟨_, rfl, ⟨ad_ren rfl, rfl, ad_ren rfl, rfl, ad_ren rfl, rfl, trivial⟩⟩, trivial⟩) (by rfl) (nk1 rfl rfl)) (al_whl (fun (s2 : Int × Int × Int × ByteArray × ByteArray × Int) => [(0, .ref 0 0), (2, .ref 1 0), (3, .ref 2 0), (4, .int .i64 s2.1)]) (fun (s2 : Int × Int × Int × ByteArray × ByteArray × Int) => [(0, .var [.cell (.v (.slice (.int .u8)) x0), .cell (.int .i64 s2.2.1), .cell (.int .u64 s2.2.2.1)]), (1, .var [.cell (.str ByteArray.empty), .cell (.str ByteArray.empty), .cell (.int .i64 0)]), (2, .var [.cell (.str s2.2.2.2.1), .cell (.str s2.2.2.2.2.1), .cell (.int .i64 s2.2.2.2.2.2)])]) (fun (s2 : Int × Int × Int × ByteArray × ByteArray × Int) => True) h trivial (fun d4 s2 hI h ih4 => ?_)))
  replace h := is_whlS h
  refine al_round ?_
  refine aw_seq ?_
  refine aw_seq ?_
  refine aw_region ?_
  refine ao_read trivial (r_move rfl) rfl ?_
  refine ao_read trivial (r_gtr rfl rfl) rfl ?_
  refine ao_nil ?_
  refine aq_then ?_
  refine aw_cond rfl (fun hb6 => ?_) (fun hb6 => ?_)
  · have q7 := d_t hb6
    replace h := is_if (d_t hb6) h
    refine aw_skip ?_
    refine aq_then ?_
    refine aw_seq ?_
    refine aw_block ?_
    refine aw_seq ?_
    obtain ⟨r9, r9h, h⟩ := is_bind h
    obtain ⟨r10, r10h, h⟩ := is_bind h
    refine aw_drawP 8 rfl (by kernel_rfl) ?_
    refine ap_to [(0, .ref 0 0), (2, .ref 1 0), (3, .ref 2 0), (4, .int .i64 s2.1)] [(0, .var [.cell (.v (.slice (.int .u8)) x0), .cell (.int .i64 r9.2.1), .cell (.int .u64 r9.2.2)]), (1, .var [.cell (.str ByteArray.empty), .cell (.str ByteArray.empty), .cell (.int .i64 0)]), (2, .var [.cell (.str r10.1.1), .cell (.str r10.1.2.1), .cell (.int .i64 r10.1.2.2.1)])] ?_ (fun key => ?_)
    · refine aq_then ?_
      refine aw_seq ?_
      refine aw_region ?_
      refine ao_read trivial (r_move rfl) rfl ?_
      obtain ⟨r16, r16h, h⟩ := is_bind h
      refine ao_callV [0] 3 trivial (c_spec_l1Cur_one (is_mk r16h)) Tryd.func42 rfl rfl rfl rfl rfl ⟨rfl, trivial⟩ ⟨⟨_, rfl, ⟨ad_ren rfl, rfl, ad_ren rfl, rfl, ad_ren rfl, rfl, trivial⟩⟩, trivial⟩ rfl rfl rfl rfl rfl rfl rfl (fun r' H' hr => ?_)
      obtain ⟨rfl, rfl⟩ := hr
      refine ao_norm (y := .bool r16.1) (H' := [(1, .var [.cell (.str ByteArray.empty), .cell (.str ByteArray.empty), .cell (.int .i64 0)]), (2, .var [.cell (.str r10.1.1), .cell (.str r10.1.2.1), .cell (.int .i64 r10.1.2.2.1)]), (0, .var [.cell (.v (.slice (.int .u8)) x0), .cell (.int .i64 r16.2.1), .cell (.int .u64 r16.2.2)])]) rfl rfl ?_
      refine ao_nil ?_
      refine aq_then ?_
      refine aw_cond rfl (fun hb17 => ?_) (fun hb17 => ?_)
      · replace h := is_if hb17 h
        refine aw_region ?_
        refine ao_read trivial (r_load_part (τ := (.pair .str (.pair .str (.pair (.int .i64) .unit)))) (y := ((r10.1.1, (r10.1.2.1, (r10.1.2.2.1, ()))) : (ByteArray × (ByteArray × (Int × Unit))))) [] [] rfl Tryd.isAgg27 Tryd.sizeOf27 rfl rfl rfl rfl) rfl ?_
        obtain ⟨r18, r18h, h⟩ := is_bind h
        refine ao_scall trivial (scall (c_spec_SyncLog (is_mk r18h)) rfl Tryd.func21 rfl rfl rfl rfl (fun σ => ⟨ad_ren rfl, trivial⟩)) rfl ?_
        refine ao_read trivial (r_move rfl) rfl ?_
        refine ao_read trivial (r_extract rfl rfl) rfl ?_
        refine ao_read trivial (r_extract rfl rfl) rfl ?_
        refine ao_effS trivial (e_store rfl rfl rfl rfl Tryd.sizeOf27 rfl) ?_
        refine ao_nil ?_
        refine aq_in ?_
        refine aq_then ?_
        refine aw_region ?_
        refine ao_read trivial (r_move rfl) rfl ?_
        refine ao_read trivial (r_sub rfl rfl) rfl ?_
        refine ao_read trivial (r_assign rfl) rfl ?_
        refine ao_nil ?_
        exact aq_again (AL.sub (sub_mk idn (by exact ⟨⟨_, rfl, ad_ren rfl⟩, ⟨_, rfl, ad_ren rfl⟩, ⟨_, rfl, ad_ren rfl⟩, ⟨_, rfl, ad_ren rfl⟩, trivial⟩) (by exact ⟨⟨_, rfl, ⟨ad_ren rfl, rfl, ad_ren rfl, rfl, ad_ren rfl, rfl, trivial⟩⟩, ⟨_, rfl, ⟨ad_ren rfl, rfl, ad_ren rfl, rfl, ad_ren rfl, rfl, trivial⟩⟩, ⟨_, rfl, ⟨ad_ren rfl, rfl, ad_ren rfl, rfl, ad_ren rfl, rfl, trivial⟩⟩, trivial⟩) (by rfl) (nk1 rfl rfl)) (ih4 ((IntKind.wrap .i64 (s2.1 - 1)), r16.2.1, r16.2.2, r18.1.1, r18.1.2.1, r18.1.2.2.1) trivial h))
      · replace h := is_else (ne_t hb17) h
        refine aw_skip ?_
        refine aq_in ?_
        refine aq_then ?_
        refine aw_region ?_
        refine ao_read trivial (r_move rfl) rfl ?_
        refine ao_read trivial (r_sub rfl rfl) rfl ?_
        refine ao_read trivial (r_assign rfl) rfl ?_
        refine ao_nil ?_
        exact aq_again (AL.sub (sub_mk idn (by exact ⟨⟨_, rfl, ad_ren rfl⟩, ⟨_, rfl, ad_ren rfl⟩, ⟨_, rfl, ad_ren rfl⟩, ⟨_, rfl, ad_ren rfl⟩, trivial⟩) (by exact ⟨⟨_, rfl, ⟨ad_ren rfl, rfl, ad_ren rfl, rfl, ad_ren rfl, rfl, trivial⟩⟩, ⟨_, rfl, ⟨ad_ren rfl, rfl, ad_ren rfl, rfl, ad_ren rfl, rfl, trivial⟩⟩, ⟨_, rfl, ⟨ad_ren rfl, rfl, ad_ren rfl, rfl, ad_ren rfl, rfl, trivial⟩⟩, trivial⟩) (by rfl) (nk1 rfl rfl)) (ih4 ((IntKind.wrap .i64 (s2.1 - 1)), r16.2.1, r16.2.2, r10.1.1, r10.1.2.1, r10.1.2.2.1) trivial h))
    refine ap_let (g := 1) (listed := #[true, true, true, true, true, true, true, false]) [(0, .ref 0 0), (2, .ref 1 0), (3, .ref 2 0), (4, .int .i64 s2.1), (17, .v (.pair .str (.pair .str (.pair (.int .i64) .unit))) r10.1)] [(0, .var [.cell (.v (.slice (.int .u8)) x0), .cell (.int .i64 r9.2.1), .cell (.int .u64 r9.2.2)]), (1, .var [.cell (.str ByteArray.empty), .cell (.str ByteArray.empty), .cell (.int .i64 0)]), (2, .var [.cell (.str s2.2.2.2.1), .cell (.str s2.2.2.2.2.1), .cell (.int .i64 s2.2.2.2.2.2)])] ?_ (fun k14 => ?_)
    · refine ap_all [7] (by kernel_rfl) ⟨?_, trivial⟩
      refine apo_ao rfl ?_
      refine ao_effS trivial (e_store rfl rfl rfl rfl Tryd.sizeOf27 rfl) ?_
      refine ao_nil ?_
      refine ap_in ?_
      exact ap_end (by kernel_rfl) (AQ.sub (sub_mk idn (by exact ⟨⟨_, rfl, ad_ren rfl⟩, ⟨_, rfl, ad_ren rfl⟩, ⟨_, rfl, ad_ren rfl⟩, ⟨_, rfl, ad_ren rfl⟩, trivial⟩) (by exact ⟨⟨_, rfl, ⟨ad_ren rfl, rfl, ad_ren rfl, rfl, ad_ren rfl, rfl, trivial⟩⟩, ⟨_, rfl, ⟨ad_ren rfl, rfl, ad_ren rfl, rfl, ad_ren rfl, rfl, trivial⟩⟩, ⟨_, rfl, ⟨ad_ren rfl, rfl, ad_ren rfl, rfl, ad_ren rfl, rfl, trivial⟩⟩, trivial⟩) (by rfl) (nk1 rfl rfl)) key)
    refine ap_let (g := 5) (listed := #[true, true, true, false, false, false, false, false]) [(0, .ref 0 0), (2, .ref 1 0), (3, .ref 2 0), (4, .int .i64 s2.1), (13, .v (.pair .str (.pair .str (.pair (.int .i64) .unit))) ((s2.2.2.2.1, (s2.2.2.2.2.1, (s2.2.2.2.2.2, ()))) : (ByteArray × (ByteArray × (Int × Unit))))), (15, .v (.pair .str (.pair .str .unit)) r9.1)] [(0, .var [.cell (.v (.slice (.int .u8)) x0), .cell (.int .i64 r9.2.1), .cell (.int .u64 r9.2.2)]), (1, .var [.cell (.str ByteArray.empty), .cell (.str ByteArray.empty), .cell (.int .i64 0)]), (2, .var [.cell (.str s2.2.2.2.1), .cell (.str s2.2.2.2.2.1), .cell (.int .i64 s2.2.2.2.2.2)])] ?_ (fun k13 => ?_)
    · refine ap_all [3] (by kernel_rfl) ⟨?_, trivial⟩
      refine apo_ao rfl ?_
      refine ao_scall trivial (scall (c_spec_AppendRecord (is_mk r10h)) rfl Tryd.func19 rfl rfl rfl rfl (fun σ => ⟨ad_ren rfl, ad_ren rfl, trivial⟩)) rfl ?_
      refine ao_nil ?_
      refine ap_in ?_
      refine ap_pure 4 (by kernel_rfl) (fun _ _ _ h => h) rfl (by kernel_rfl) trivial (rp_move rfl) rfl ?_
      refine ap_pure 5 (by kernel_rfl) (fun _ _ _ h => h) rfl (by kernel_rfl) trivial (rp_extract rfl rfl) rfl ?_
      refine ap_pure 6 (by kernel_rfl) (fun _ _ _ h => h) rfl (by kernel_rfl) trivial (rp_extract rfl rfl) rfl ?_
      exact ap_go (by kernel_rfl) (sub_mk idn (by exact ⟨⟨_, rfl, ad_ren rfl⟩, ⟨_, rfl, ad_ren rfl⟩, ⟨_, rfl, ad_ren rfl⟩, ⟨_, rfl, ad_ren rfl⟩, ⟨_, rfl, ad_ren rfl⟩, trivial⟩) (by exact ⟨⟨_, rfl, ⟨ad_ren rfl, rfl, ad_ren rfl, rfl, ad_ren rfl, rfl, trivial⟩⟩, ⟨_, rfl, ⟨ad_ren rfl, rfl, ad_ren rfl, rfl, ad_ren rfl, rfl, trivial⟩⟩, ⟨_, rfl, ⟨ad_ren rfl, rfl, ad_ren rfl, rfl, ad_ren rfl, rfl, trivial⟩⟩, trivial⟩) (by rfl) (nk1 rfl rfl)) k14
    refine ap_let (g := 6) (listed := #[true, true, false, false, false, false, false, false]) [(0, .ref 0 0), (2, .ref 1 0), (3, .ref 2 0), (4, .int .i64 s2.1), (13, .v (.pair .str (.pair .str (.pair (.int .i64) .unit))) ((s2.2.2.2.1, (s2.2.2.2.2.1, (s2.2.2.2.2.2, ()))) : (ByteArray × (ByteArray × (Int × Unit))))), (14, .ref 0 0)] [(0, .var [.cell (.v (.slice (.int .u8)) x0), .cell (.int .i64 s2.2.1), .cell (.int .u64 s2.2.2.1)]), (1, .var [.cell (.str ByteArray.empty), .cell (.str ByteArray.empty), .cell (.int .i64 0)]), (2, .var [.cell (.str s2.2.2.2.1), .cell (.str s2.2.2.2.2.1), .cell (.int .i64 s2.2.2.2.2.2)])] ?_ (fun k12 => ?_)
    · refine ap_all [2] (by kernel_rfl) ⟨?_, trivial⟩
      refine apo_ao rfl ?_
      refine ao_callV [0] 3 trivial (c_spec_l1Cur_logRecord (is_mk r9h)) Tryd.func33 rfl rfl rfl rfl rfl ⟨rfl, trivial⟩ ⟨⟨_, rfl, ⟨ad_ren rfl, rfl, ad_ren rfl, rfl, ad_ren rfl, rfl, trivial⟩⟩, trivial⟩ rfl rfl rfl rfl rfl rfl rfl (fun r' H' hr => ?_)
      obtain ⟨rfl, rfl⟩ := hr
      refine ao_norm (y := .v (.pair .str (.pair .str .unit)) r9.1) (H' := [(1, .var [.cell (.str ByteArray.empty), .cell (.str ByteArray.empty), .cell (.int .i64 0)]), (2, .var [.cell (.str s2.2.2.2.1), .cell (.str s2.2.2.2.2.1), .cell (.int .i64 s2.2.2.2.2.2)]), (0, .var [.cell (.v (.slice (.int .u8)) x0), .cell (.int .i64 r9.2.1), .cell (.int .u64 r9.2.2)])]) rfl rfl ?_
      refine ao_nil ?_
      refine ap_in ?_
      exact ap_go (by kernel_rfl) (sub_mk idn (by exact ⟨⟨_, rfl, ad_ren rfl⟩, ⟨_, rfl, ad_ren rfl⟩, ⟨_, rfl, ad_ren rfl⟩, ⟨_, rfl, ad_ren rfl⟩, ⟨_, rfl, ad_ren rfl⟩, ⟨_, rfl, ad_ren rfl⟩, trivial⟩) (by exact ⟨⟨_, rfl, ⟨ad_ren rfl, rfl, ad_ren rfl, rfl, ad_ren rfl, rfl, trivial⟩⟩, ⟨_, rfl, ⟨ad_ren rfl, rfl, ad_ren rfl, rfl, ad_ren rfl, rfl, trivial⟩⟩, ⟨_, rfl, ⟨ad_ren rfl, rfl, ad_ren rfl, rfl, ad_ren rfl, rfl, trivial⟩⟩, trivial⟩) (by rfl) (nk1 rfl rfl)) k13
    refine ap_let (g := 6) (listed := #[false, true, true, false, false, false, false, false]) [(0, .ref 0 0), (2, .ref 1 0), (3, .ref 2 0), (4, .int .i64 s2.1), (15, .v (.pair .str (.pair .str .unit)) r9.1)] [(0, .var [.cell (.v (.slice (.int .u8)) x0), .cell (.int .i64 r9.2.1), .cell (.int .u64 r9.2.2)]), (1, .var [.cell (.str ByteArray.empty), .cell (.str ByteArray.empty), .cell (.int .i64 0)]), (2, .var [.cell (.str s2.2.2.2.1), .cell (.str s2.2.2.2.2.1), .cell (.int .i64 s2.2.2.2.2.2)])] ?_ (fun k15 => ?_)
    · refine ap_all [0] (by kernel_rfl) ⟨?_, trivial⟩
      refine apo_ao rfl ?_
      refine ao_read trivial (r_load_part (τ := (.pair .str (.pair .str (.pair (.int .i64) .unit)))) (y := ((s2.2.2.2.1, (s2.2.2.2.2.1, (s2.2.2.2.2.2, ()))) : (ByteArray × (ByteArray × (Int × Unit))))) [] [] rfl Tryd.isAgg27 Tryd.sizeOf27 rfl rfl rfl rfl) rfl ?_
      refine ao_nil ?_
      refine ap_in ?_
      exact ap_go (by kernel_rfl) (sub_mk idn (by exact ⟨⟨_, rfl, ad_ren rfl⟩, ⟨_, rfl, ad_ren rfl⟩, ⟨_, rfl, ad_ren rfl⟩, ⟨_, rfl, ad_ren rfl⟩, ⟨_, rfl, ad_ren rfl⟩, ⟨_, rfl, ad_ren rfl⟩, trivial⟩) (by exact ⟨⟨_, rfl, ⟨ad_ren rfl, rfl, ad_ren rfl, rfl, ad_ren rfl, rfl, trivial⟩⟩, ⟨_, rfl, ⟨ad_ren rfl, rfl, ad_ren rfl, rfl, ad_ren rfl, rfl, trivial⟩⟩, ⟨_, rfl, ⟨ad_ren rfl, rfl, ad_ren rfl, rfl, ad_ren rfl, rfl, trivial⟩⟩, trivial⟩) (by rfl) (nk1 rfl rfl)) k13
    refine ap_let (g := 7) (listed := #[false, true, false, false, false, false, false, false]) [(0, .ref 0 0), (2, .ref 1 0), (3, .ref 2 0), (4, .int .i64 s2.1), (14, .ref 0 0)] [(0, .var [.cell (.v (.slice (.int .u8)) x0), .cell (.int .i64 s2.2.1), .cell (.int .u64 s2.2.2.1)]), (1, .var [.cell (.str ByteArray.empty), .cell (.str ByteArray.empty), .cell (.int .i64 0)]), (2, .var [.cell (.str s2.2.2.2.1), .cell (.str s2.2.2.2.2.1), .cell (.int .i64 s2.2.2.2.2.2)])] ?_ (fun k11 => ?_)
    · refine ap_all [0, 2] (by kernel_rfl) ⟨?_, ?_, trivial⟩
      · refine apo_ao rfl ?_
        refine ao_read trivial (r_load_part (τ := (.pair .str (.pair .str (.pair (.int .i64) .unit)))) (y := ((s2.2.2.2.1, (s2.2.2.2.2.1, (s2.2.2.2.2.2, ()))) : (ByteArray × (ByteArray × (Int × Unit))))) [] [] rfl Tryd.isAgg27 Tryd.sizeOf27 rfl rfl rfl rfl) rfl ?_
        refine ao_nil ?_
        refine ap_in ?_
        exact ap_go (by kernel_rfl) (sub_mk idn (by exact ⟨⟨_, rfl, ad_ren rfl⟩, ⟨_, rfl, ad_ren rfl⟩, ⟨_, rfl, ad_ren rfl⟩, ⟨_, rfl, ad_ren rfl⟩, ⟨_, rfl, ad_ren rfl⟩, ⟨_, rfl, ad_ren rfl⟩, trivial⟩) (by exact ⟨⟨_, rfl, ⟨ad_ren rfl, rfl, ad_ren rfl, rfl, ad_ren rfl, rfl, trivial⟩⟩, ⟨_, rfl, ⟨ad_ren rfl, rfl, ad_ren rfl, rfl, ad_ren rfl, rfl, trivial⟩⟩, ⟨_, rfl, ⟨ad_ren rfl, rfl, ad_ren rfl, rfl, ad_ren rfl, rfl, trivial⟩⟩, trivial⟩) (by rfl) (nk1 rfl rfl)) k12
      · refine apo_ao rfl ?_
        refine ao_callV [0] 3 trivial (c_spec_l1Cur_logRecord (is_mk r9h)) Tryd.func33 rfl rfl rfl rfl rfl ⟨rfl, trivial⟩ ⟨⟨_, rfl, ⟨ad_ren rfl, rfl, ad_ren rfl, rfl, ad_ren rfl, rfl, trivial⟩⟩, trivial⟩ rfl rfl rfl rfl rfl rfl rfl (fun r' H' hr => ?_)
        obtain ⟨rfl, rfl⟩ := hr
        refine ao_norm (y := .v (.pair .str (.pair .str .unit)) r9.1) (H' := [(1, .var [.cell (.str ByteArray.empty), .cell (.str ByteArray.empty), .cell (.int .i64 0)]), (2, .var [.cell (.str s2.2.2.2.1), .cell (.str s2.2.2.2.2.1), .cell (.int .i64 s2.2.2.2.2.2)]), (0, .var [.cell (.v (.slice (.int .u8)) x0), .cell (.int .i64 r9.2.1), .cell (.int .u64 r9.2.2)])]) rfl rfl ?_
        refine ao_nil ?_
        refine ap_in ?_
        exact ap_go (by kernel_rfl) (sub_mk idn (by exact ⟨⟨_, rfl, ad_ren rfl⟩, ⟨_, rfl, ad_ren rfl⟩, ⟨_, rfl, ad_ren rfl⟩, ⟨_, rfl, ad_ren rfl⟩, ⟨_, rfl, ad_ren rfl⟩, trivial⟩) (by exact ⟨⟨_, rfl, ⟨ad_ren rfl, rfl, ad_ren rfl, rfl, ad_ren rfl, rfl, trivial⟩⟩, ⟨_, rfl, ⟨ad_ren rfl, rfl, ad_ren rfl, rfl, ad_ren rfl, rfl, trivial⟩⟩, ⟨_, rfl, ⟨ad_ren rfl, rfl, ad_ren rfl, rfl, ad_ren rfl, rfl, trivial⟩⟩, trivial⟩) (by rfl) (nk1 rfl rfl)) k15
    refine ap_pure 1 (by kernel_rfl) (fun _ _ _ h => h) rfl (by kernel_rfl) trivial (rp_move rfl) rfl ?_
    exact ap_go (by kernel_rfl) (sub_mk idn (by exact ⟨⟨_, rfl, ad_ren rfl⟩, ⟨_, rfl, ad_ren rfl⟩, ⟨_, rfl, ad_ren rfl⟩, ⟨_, rfl, ad_ren rfl⟩, ⟨_, rfl, ad_ren rfl⟩, trivial⟩) (by exact ⟨⟨_, rfl, ⟨ad_ren rfl, rfl, ad_ren rfl, rfl, ad_ren rfl, rfl, trivial⟩⟩, ⟨_, rfl, ⟨ad_ren rfl, rfl, ad_ren rfl, rfl, ad_ren rfl, rfl, trivial⟩⟩, ⟨_, rfl, ⟨ad_ren rfl, rfl, ad_ren rfl, rfl, ad_ren rfl, rfl, trivial⟩⟩, trivial⟩) (by rfl) (nk1 rfl rfl)) k11
  · have q8 := d_f hb6
    replace h := is_else (d_f hb6) h
    refine aw_exit ?_
    refine aq_then_exit ?_
    refine aq_then_exit ?_
    refine aq_in_exit ?_
    refine aq_then ?_
    refine aw_seq ?_
    refine aw_region ?_
    refine ao_read trivial (r_load_part (τ := (.pair .str (.pair .str (.pair (.int .i64) .unit)))) (y := ((s2.2.2.2.1, (s2.2.2.2.2.1, (s2.2.2.2.2.2, ()))) : (ByteArray × (ByteArray × (Int × Unit))))) [] [] rfl Tryd.isAgg27 Tryd.sizeOf27 rfl rfl rfl rfl) rfl ?_
    refine ao_effS trivial (e_store rfl rfl rfl rfl Tryd.sizeOf27 rfl) ?_
    refine ao_nil ?_
    refine aq_then ?_
    refine aw_ret ?_
    refine aq_ret ?_
    obtain rfl := is_some h
    exact aq_finV (l := [.cell 2 27]) (xs := [.st [.str s2.2.2.2.1, .str s2.2.2.2.2.1, .int .i64 s2.2.2.2.2.2]]) idn [.v (.pair .str (.pair .str (.pair (.int .i64) .unit))) ((s2.2.2.2.1, (s2.2.2.2.2.1, (s2.2.2.2.2.2, ()))) : (ByteArray × (ByteArray × (Int × Unit))))] [(0, .var [.cell (.v (.slice (.int .u8)) x0), .cell (.int .i64 s2.2.1), .cell (.int .u64 s2.2.2.1)])] rfl (by exact ⟨⟨⟨_, _, rfl⟩, r_load_st [] [.cell (.str s2.2.2.2.1), .cell (.str s2.2.2.2.2.1), .cell (.int .i64 s2.2.2.2.2.2)] [] Tryd.isAgg27 Tryd.sizeOf27 rfl rfl rfl rfl rfl rfl rfl⟩, trivial⟩) (by exact ⟨ad_st rfl rfl ⟨ad_ren rfl, ad_ren rfl, ad_ren rfl, trivial⟩, trivial⟩) (by exact ⟨⟨_, rfl, ⟨ad_ren rfl, rfl, ad_ren rfl, rfl, ad_ren rfl, rfl, trivial⟩⟩, trivial⟩) rfl (nk1 rfl rfl) ⟨rfl, rfl⟩
theorem c_spec_l1Cur_spoilt {x0 : ByteArray} {x1 : ByteArray} {x2 : (List Int)} {x3 : Int} {x4 : Int} {r : ByteArray × Int × Int} (h : Is (p_spec_l1Cur_spoilt x0 x1 x2 x3 x4) (some r)) :
    ACallsV Tryd.prog 47 [.ref 0 0, .str x0, .str x1] [(0, .var [.cell (.v (.slice (.int .u8)) x2), .cell (.int .i64 x3), .cell (.int .u64 x4)])] (fun r' H' => r' = .str r.1 ∧ H' = [(0, .var [.cell (.v (.slice (.int .u8)) x2), .cell (.int .i64 r.2.1), .cell (.int .u64 r.2.2)])]) := by
  unfold p_spec_l1Cur_spoilt at h
  refine ac_enterV ⟨57, 1⟩ Tryd.func47 rfl rfl rfl rfl rfl (fun Γ => ?_)
  refine aw_seq ?_
  refine aw_region ?_
  refine ao_read trivial (r_assign rfl) rfl ?_
  refine ao_nil ?_
  refine aq_then ?_
  refine aw_seq ?_
  refine aw_seq ?_
  refine aw_region ?_
  refine ao_read trivial (r_move rfl) rfl ?_
  refine ao_read trivial (r_eql_str rfl rfl) rfl ?_
  refine ao_nil ?_
  refine aq_then ?_
  refine aw_cond rfl (fun hb1 => ?_) (fun hb1 => ?_)
  · replace h := is_if hb1 h
    refine aw_seq ?_
    refine aw_region ?_
    refine ao_read trivial (r_move rfl) rfl ?_
    obtain ⟨g2, h⟩ := is_guard h
    refine ao_read trivial (r_slice_str Tryd.underlying9 rfl .none (.some rfl) (show 0 ≤ 0 from by omega) (show 0 ≤ 1 from by omega) (show 1 ≤ (x1.size : Int) from by omega)) rfl ?_
    refine ao_read trivial (r_assign rfl) rfl ?_
    refine ao_nil ?_
    refine aq_then ?_
    refine aw_ret ?_
    refine aq_then_ret ?_
    refine aq_ret ?_
    obtain rfl := is_some h
    exact aq_finV (l := [.tmp 6]) (xs := [.str (x1.extract 0 1)]) idn [.str (x1.extract 0 1)] [(0, .var [.cell (.v (.slice (.int .u8)) x2), .cell (.int .i64 x3), .cell (.int .u64 x4)])] rfl (by exact ⟨rfl, trivial⟩) (by exact ⟨ad_ren rfl, trivial⟩) (by exact ⟨⟨_, rfl, ⟨ad_ren rfl, rfl, ad_ren rfl, rfl, ad_ren rfl, rfl, trivial⟩⟩, trivial⟩) rfl (nk1 rfl rfl) ⟨rfl, rfl⟩
  · replace h := is_else (ne_t hb1) h
    refine aw_skip ?_
    refine aq_then ?_
    refine aw_seq ?_
    refine aw_region ?_
    refine ao_read trivial (r_move rfl) rfl ?_
    refine ao_read trivial (r_move rfl) rfl ?_
    refine ao_read trivial (r_len_str Tryd.underlying9 rfl) rfl ?_
    obtain ⟨r3, r3h, h⟩ := is_bind h
    refine ao_callV [0] 1 trivial (c_spec_l1Cur_pick (is_mk r3h)) Tryd.func43 rfl rfl rfl rfl rfl ⟨rfl, trivial⟩ ⟨⟨_, rfl, ⟨ad_ren rfl, rfl, ad_ren rfl, rfl, ad_ren rfl, rfl, trivial⟩⟩, trivial⟩ rfl rfl rfl rfl rfl rfl rfl (fun r' H' hr => ?_)
    obtain ⟨rfl, rfl⟩ := hr
    refine ao_norm (y := .int .i64 r3.1) (H' := [(0, .var [.cell (.v (.slice (.int .u8)) x2), .cell (.int .i64 r3.2.1), .cell (.int .u64 r3.2.2)])]) rfl rfl ?_
    refine ao_read trivial (r_assign rfl) rfl ?_
    refine ao_nil ?_
    refine aq_then ?_
    refine aw_seq ?_
    refine aw_region ?_
    refine ao_read trivial (r_move rfl) rfl ?_
    refine ao_read trivial (r_move rfl) rfl ?_
    refine ao_read trivial (r_move rfl) rfl ?_
    refine ao_read trivial (r_len_str Tryd.underlying9 rfl) rfl ?_
    obtain ⟨r4, r4h, h⟩ := is_bind h
    refine ao_callV [0] 1 trivial (c_spec_l1Cur_pick (is_mk r4h)) Tryd.func43 rfl rfl rfl rfl rfl ⟨rfl, trivial⟩ ⟨⟨_, rfl, ⟨ad_ren rfl, rfl, ad_ren rfl, rfl, ad_ren rfl, rfl, trivial⟩⟩, trivial⟩ rfl rfl rfl rfl rfl rfl rfl (fun r' H' hr => ?_)
    obtain ⟨rfl, rfl⟩ := hr
    refine ao_norm (y := .int .i64 r4.1) (H' := [(0, .var [.cell (.v (.slice (.int .u8)) x2), .cell (.int .i64 r4.2.1), .cell (.int .u64 r4.2.2)])]) rfl rfl ?_
    obtain ⟨g5, h⟩ := is_guard h
    obtain ⟨g6, h⟩ := is_guard h
    refine ao_read trivial (r_slice_str Tryd.underlying9 rfl (.some rfl) .none (show 0 ≤ r4.1 from by omega) (show r4.1 ≤ (x1.size : Int) from by omega) (show (x1.size : Int) ≤ (x1.size : Int) from by omega)) rfl ?_
    obtain ⟨g7, h⟩ := is_guard h
    refine ao_read trivial (r_slice_str Tryd.underlying9 rfl .none (.some rfl) (show 0 ≤ 0 from by omega) (show 0 ≤ 1 from by omega) (show 1 ≤ ((x1.extract r4.1.toNat ((x1.size : Int)).toNat).size : Int) from by omega)) rfl ?_
    refine ao_read trivial (r_assign rfl) rfl ?_
    refine ao_nil ?_
    refine aq_then ?_
    refine aw_seq ?_
    refine aw_seq ?_
    refine aw_region ?_
    refine ao_read trivial (r_move rfl) rfl ?_
    obtain ⟨r8, r8h, h⟩ := is_bind h
    refine ao_callV [0] 1 trivial (c_spec_l1Cur_pick (is_mk r8h)) Tryd.func43 rfl rfl rfl rfl rfl ⟨rfl, trivial⟩ ⟨⟨_, rfl, ⟨ad_ren rfl, rfl, ad_ren rfl, rfl, ad_ren rfl, rfl, trivial⟩⟩, trivial⟩ rfl rfl rfl rfl rfl rfl rfl (fun r' H' hr => ?_)
    obtain ⟨rfl, rfl⟩ := hr
    refine ao_norm (y := .int .i64 r8.1) (H' := [(0, .var [.cell (.v (.slice (.int .u8)) x2), .cell (.int .i64 r8.2.1), .cell (.int .u64 r8.2.2)])]) rfl rfl ?_
    refine ao_nil ?_
    refine aq_then ?_
    refine aw_block ?_
    refine aw_seq ?_
    refine aw_region ?_
    refine ao_read trivial (r_eql rfl rfl) rfl ?_
    refine ao_read trivial (r_assign rfl) rfl ?_
    refine ao_nil ?_
    refine aq_then ?_
    refine aw_cond rfl (fun hb9 => ?_) (fun hb9 => ?_)
    · have q10 := d_t hb9
      replace h := is_if (d_t hb9) h
      refine aw_seq ?_
      obtain ⟨g12, h⟩ := is_guard h
      obtain ⟨g13, h⟩ := is_guard h
      obtain ⟨g14, h⟩ := is_guard h
      obtain ⟨g15, h⟩ := is_guard h
      refine aw_drawAll (by kernel_rfl) ?_
      refine an_read 0 (by kernel_rfl) (fun _ _ _ h => h) rfl (by kernel_rfl) trivial (r_move rfl) rfl ?_
      refine an_read 1 (by kernel_rfl) (fun _ _ _ h => h) rfl (by kernel_rfl) trivial (r_move rfl) rfl ?_
      refine an_read 2 (by kernel_rfl) (fun _ _ _ h => h) rfl (by kernel_rfl) trivial (r_slice_str Tryd.underlying9 rfl .none (.some rfl) (show 0 ≤ 0 from by omega) (show 0 ≤ r3.1 from by omega) (show r3.1 ≤ (x0.size : Int) from by omega)) rfl ?_
      refine an_read 3 (by kernel_rfl) (fun _ _ _ h => h) rfl (by kernel_rfl) trivial (r_move rfl) rfl ?_
      refine an_read 4 (by kernel_rfl) (fun _ _ _ h => h) rfl (by kernel_rfl) trivial (r_add_str (a := (x0.extract 0 r3.1.toNat)) (b := ((x1.extract r4.1.toNat ((x1.size : Int)).toNat).extract 0 1)) rfl rfl (by omega)) rfl ?_
      refine an_read 5 (by kernel_rfl) (fun _ _ _ h => h) rfl (by kernel_rfl) trivial (r_move rfl) rfl ?_
      refine an_read 6 (by kernel_rfl) (fun _ _ _ h => h) rfl (by kernel_rfl) trivial (r_move rfl) rfl ?_
      refine an_read 7 (by kernel_rfl) (fun _ _ _ h => h) rfl (by kernel_rfl) trivial (r_slice_str Tryd.underlying9 rfl (.some rfl) .none (show 0 ≤ r3.1 from by omega) (show r3.1 ≤ (x0.size : Int) from by omega) (show (x0.size : Int) ≤ (x0.size : Int) from by omega)) rfl ?_
      refine an_read 8 (by kernel_rfl) (fun _ _ _ h => h) rfl (by kernel_rfl) trivial (r_add_str (a := ((x0.extract 0 r3.1.toNat) ++ ((x1.extract r4.1.toNat ((x1.size : Int)).toNat).extract 0 1))) (b := (x0.extract r3.1.toNat ((x0.size : Int)).toNat)) rfl rfl (by omega)) rfl ?_
      refine an_read 9 (by kernel_rfl) (fun _ _ _ h => h) rfl (by kernel_rfl) trivial (r_assign rfl) rfl ?_
      refine an_done rfl ?_
      refine aq_then ?_
      refine aw_ret ?_
      refine aq_in_ret ?_
      refine aq_then_ret ?_
      refine aq_ret ?_
      obtain rfl := is_some h
      exact aq_finV (l := [.tmp 6]) (xs := [.str (((x0.extract 0 r3.1.toNat) ++ ((x1.extract r4.1.toNat ((x1.size : Int)).toNat).extract 0 1)) ++ (x0.extract r3.1.toNat ((x0.size : Int)).toNat))]) idn [.str (((x0.extract 0 r3.1.toNat) ++ ((x1.extract r4.1.toNat ((x1.size : Int)).toNat).extract 0 1)) ++ (x0.extract r3.1.toNat ((x0.size : Int)).toNat))] [(0, .var [.cell (.v (.slice (.int .u8)) x2), .cell (.int .i64 r8.2.1), .cell (.int .u64 r8.2.2)])] rfl (by exact ⟨rfl, trivial⟩) (by exact ⟨ad_ren rfl, trivial⟩) (by exact ⟨⟨_, rfl, ⟨ad_ren rfl, rfl, ad_ren rfl, rfl, ad_ren rfl, rfl, trivial⟩⟩, trivial⟩) rfl (nk1 rfl rfl) ⟨rfl, rfl⟩
    · have q11 := d_f hb9
      replace h := is_else (d_f hb9) h
      refine aw_seq ?_
      refine aw_region ?_
      refine ao_read trivial (r_eql rfl rfl) rfl ?_
      refine ao_read trivial (r_assign rfl) rfl ?_
      refine ao_nil ?_
      refine aq_then ?_
      refine aw_cond rfl (fun hb16 => ?_) (fun hb16 => ?_)
      · have q17 := d_t hb16
        replace h := is_if (d_t hb16) h
        refine aw_seq ?_
        obtain ⟨g19, h⟩ := is_guard h
        obtain ⟨g20, h⟩ := is_guard h
        obtain ⟨g21, h⟩ := is_guard h
        obtain ⟨g22, h⟩ := is_guard h
        obtain ⟨g23, h⟩ := is_guard h
        obtain ⟨g24, h⟩ := is_guard h
        refine aw_drawAll (by kernel_rfl) ?_
        refine an_read 0 (by kernel_rfl) (fun _ _ _ h => h) rfl (by kernel_rfl) trivial (r_move rfl) rfl ?_
        refine an_read 1 (by kernel_rfl) (fun _ _ _ h => h) rfl (by kernel_rfl) trivial (r_move rfl) rfl ?_
        refine an_read 2 (by kernel_rfl) (fun _ _ _ h => h) rfl (by kernel_rfl) trivial (r_slice_str Tryd.underlying9 rfl .none (.some rfl) (show 0 ≤ 0 from by omega) (show 0 ≤ r3.1 from by omega) (show r3.1 ≤ (x0.size : Int) from by omega)) rfl ?_
        refine an_read 3 (by kernel_rfl) (fun _ _ _ h => h) rfl (by kernel_rfl) trivial (r_move rfl) rfl ?_
        refine an_read 4 (by kernel_rfl) (fun _ _ _ h => h) rfl (by kernel_rfl) trivial (r_add_str (a := (x0.extract 0 r3.1.toNat)) (b := ((x1.extract r4.1.toNat ((x1.size : Int)).toNat).extract 0 1)) rfl rfl (by omega)) rfl ?_
        refine an_read 5 (by kernel_rfl) (fun _ _ _ h => h) rfl (by kernel_rfl) trivial (r_move rfl) rfl ?_
        refine an_read 6 (by kernel_rfl) (fun _ _ _ h => h) rfl (by kernel_rfl) trivial (r_move rfl) rfl ?_
        refine an_read 7 (by kernel_rfl) (fun _ _ _ h => h) rfl (by kernel_rfl) trivial (r_add rfl rfl) rfl ?_
        refine an_read 8 (by kernel_rfl) (fun _ _ _ h => h) rfl (by kernel_rfl) trivial (r_slice_str Tryd.underlying9 rfl (.some rfl) .none (show 0 ≤ (IntKind.wrap .i64 (r3.1 + 1)) from by omega) (show (IntKind.wrap .i64 (r3.1 + 1)) ≤ (x0.size : Int) from by omega) (show (x0.size : Int) ≤ (x0.size : Int) from by omega)) rfl ?_
        refine an_read 9 (by kernel_rfl) (fun _ _ _ h => h) rfl (by kernel_rfl) trivial (r_add_str (a := ((x0.extract 0 r3.1.toNat) ++ ((x1.extract r4.1.toNat ((x1.size : Int)).toNat).extract 0 1))) (b := (x0.extract (IntKind.wrap .i64 (r3.1 + 1)).toNat ((x0.size : Int)).toNat)) rfl rfl (by omega)) rfl ?_
        refine an_read 10 (by kernel_rfl) (fun _ _ _ h => h) rfl (by kernel_rfl) trivial (r_assign rfl) rfl ?_
        refine an_done rfl ?_
        refine aq_then ?_
        refine aw_ret ?_
        refine aq_in_ret ?_
        refine aq_then_ret ?_
        refine aq_ret ?_
        obtain rfl := is_some h
        exact aq_finV (l := [.tmp 6]) (xs := [.str (((x0.extract 0 r3.1.toNat) ++ ((x1.extract r4.1.toNat ((x1.size : Int)).toNat).extract 0 1)) ++ (x0.extract (IntKind.wrap .i64 (r3.1 + 1)).toNat ((x0.size : Int)).toNat))]) idn [.str (((x0.extract 0 r3.1.toNat) ++ ((x1.extract r4.1.toNat ((x1.size : Int)).toNat).extract 0 1)) ++ (x0.extract (IntKind.wrap .i64 (r3.1 + 1)).toNat ((x0.size : Int)).toNat))] [(0, .var [.cell (.v (.slice (.int .u8)) x2), .cell (.int .i64 r8.2.1), .cell (.int .u64 r8.2.2)])] rfl (by exact ⟨rfl, trivial⟩) (by exact ⟨ad_ren rfl, trivial⟩) (by exact ⟨⟨_, rfl, ⟨ad_ren rfl, rfl, ad_ren rfl, rfl, ad_ren rfl, rfl, trivial⟩⟩, trivial⟩) rfl (nk1 rfl rfl) ⟨rfl, rfl⟩
      · have q18 := d_f hb16
        replace h := is_else (d_f hb16) h
        refine aw_skip ?_
        refine aq_in ?_
        refine aq_then ?_
        refine aw_seq ?_
        obtain ⟨g25, h⟩ := is_guard h
        obtain ⟨g26, h⟩ := is_guard h
        obtain ⟨g27, h⟩ := is_guard h
        obtain ⟨g28, h⟩ := is_guard h
        obtain ⟨g29, h⟩ := is_guard h
        refine aw_drawAll (by kernel_rfl) ?_
        refine an_read 0 (by kernel_rfl) (fun _ _ _ h => h) rfl (by kernel_rfl) trivial (r_move rfl) rfl ?_
        refine an_read 1 (by kernel_rfl) (fun _ _ _ h => h) rfl (by kernel_rfl) trivial (r_move rfl) rfl ?_
        refine an_read 2 (by kernel_rfl) (fun _ _ _ h => h) rfl (by kernel_rfl) trivial (r_slice_str Tryd.underlying9 rfl .none (.some rfl) (show 0 ≤ 0 from by omega) (show 0 ≤ r3.1 from by omega) (show r3.1 ≤ (x0.size : Int) from by omega)) rfl ?_
        refine an_read 3 (by kernel_rfl) (fun _ _ _ h => h) rfl (by kernel_rfl) trivial (r_move rfl) rfl ?_
        refine an_read 4 (by kernel_rfl) (fun _ _ _ h => h) rfl (by kernel_rfl) trivial (r_move rfl) rfl ?_
        refine an_read 5 (by kernel_rfl) (fun _ _ _ h => h) rfl (by kernel_rfl) trivial (r_add rfl rfl) rfl ?_
        refine an_read 6 (by kernel_rfl) (fun _ _ _ h => h) rfl (by kernel_rfl) trivial (r_slice_str Tryd.underlying9 rfl (.some rfl) .none (show 0 ≤ (IntKind.wrap .i64 (r3.1 + 1)) from by omega) (show (IntKind.wrap .i64 (r3.1 + 1)) ≤ (x0.size : Int) from by omega) (show (x0.size : Int) ≤ (x0.size : Int) from by omega)) rfl ?_
        refine an_read 7 (by kernel_rfl) (fun _ _ _ h => h) rfl (by kernel_rfl) trivial (r_add_str (a := (x0.extract 0 r3.1.toNat)) (b := (x0.extract (IntKind.wrap .i64 (r3.1 + 1)).toNat ((x0.size : Int)).toNat)) rfl rfl (by omega)) rfl ?_
        refine an_read 8 (by kernel_rfl) (fun _ _ _ h => h) rfl (by kernel_rfl) trivial (r_assign rfl) rfl ?_
        refine an_done rfl ?_
        refine aq_then ?_
        refine aw_ret ?_
        refine aq_ret ?_
        obtain rfl := is_some h
        exact aq_finV (l := [.tmp 6]) (xs := [.str ((x0.extract 0 r3.1.toNat) ++ (x0.extract (IntKind.wrap .i64 (r3.1 + 1)).toNat ((x0.size : Int)).toNat))]) idn [.str ((x0.extract 0 r3.1.toNat) ++ (x0.extract (IntKind.wrap .i64 (r3.1 + 1)).toNat ((x0.size : Int)).toNat))] [(0, .var [.cell (.v (.slice (.int .u8)) x2), .cell (.int .i64 r8.2.1), .cell (.int .u64 r8.2.2)])] rfl (by exact ⟨rfl, trivial⟩) (by exact ⟨ad_ren rfl, trivial⟩) (by exact ⟨⟨_, rfl, ⟨ad_ren rfl, rfl, ad_ren rfl, rfl, ad_ren rfl, rfl, trivial⟩⟩, trivial⟩) rfl (nk1 rfl rfl) ⟨rfl, rfl⟩
theorem c_spec_l1Cur_anyLog {fu : Nat} {x0 : (List Int)} {x1 : Int} {x2 : Int} {r : (ByteArray × (ByteArray × (Int × Unit))) × Int × Int} (h : Is (p_spec_l1Cur_anyLog fu x0 x1 x2) (some r)) :
    ACallsV Tryd.prog 41 [.ref 0 0] [(0, .var [.cell (.v (.slice (.int .u8)) x0), .cell (.int .i64 x1), .cell (.int .u64 x2)])] (fun r' H' => r' = .v (.pair .str (.pair .str (.pair (.int .i64) .unit))) r.1 ∧ H' = [(0, .var [.cell (.v (.slice (.int .u8)) x0), .cell (.int .i64 r.2.1), .cell (.int .u64 r.2.2)])]) := by
  unfold p_spec_l1Cur_anyLog at h
  refine ac_enterV ⟨30, 1⟩ Tryd.func41 rfl rfl rfl rfl rfl (fun Γ => ?_)
  refine aw_seq ?_
  refine aw_region ?_
  refine ao_eff trivial (e_alloc 1 (y := .st [.str ByteArray.empty, .str ByteArray.empty, .int .i64 0]) Tryd.zeroValue27 (fun ρ h M => ra_zero_st (t := (.pair .str (.pair .str (.pair (.int .i64) .unit)))) rfl rfl rfl) rfl rfl rfl rfl rfl) rfl ?_
  refine ao_nil ?_
  refine aq_then ?_
  refine aw_seq ?_
  refine aw_region ?_
  refine ao_read trivial (r_move rfl) rfl ?_
  obtain ⟨r1, r1h, h⟩ := is_bind h
  refine ao_callV [0] 2 trivial (c_spec_l1Cur_log12 (is_mk r1h)) Tryd.func46 rfl rfl rfl rfl rfl ⟨rfl, trivial⟩ ⟨⟨_, rfl, ⟨ad_ren rfl, rfl, ad_ren rfl, rfl, ad_ren rfl, rfl, trivial⟩⟩, trivial⟩ rfl rfl rfl rfl rfl rfl rfl (fun r' H' hr => ?_)
  obtain ⟨rfl, rfl⟩ := hr
  refine ao_norm (y := .v (.pair .str (.pair .str (.pair (.int .i64) .unit))) r1.1) (H' := [(1, .var [.cell (.str ByteArray.empty), .cell (.str ByteArray.empty), .cell (.int .i64 0)]), (0, .var [.cell (.v (.slice (.int .u8)) x0), .cell (.int .i64 r1.2.1), .cell (.int .u64 r1.2.2)])]) rfl rfl ?_
  refine ao_eff trivial (e_alloc 2 (y := .st [.str ByteArray.empty, .str ByteArray.empty, .int .i64 0]) Tryd.zeroValue27 (fun ρ h M => ra_zero_st (t := (.pair .str (.pair .str (.pair (.int .i64) .unit)))) rfl rfl rfl) rfl rfl rfl rfl rfl) rfl ?_
  refine ao_effS trivial (e_store rfl rfl rfl rfl Tryd.sizeOf27 rfl) ?_
  refine ao_nil ?_
  refine aq_then ?_
  refine aw_seq ?_
  refine aw_seq ?_
  refine aw_region ?_
  refine ao_read trivial (r_move rfl) rfl ?_
  obtain ⟨r2, r2h, h⟩ := is_bind h
  refine ao_callV [0] 3 trivial (c_spec_l1Cur_pick (is_mk r2h)) Tryd.func43 rfl rfl rfl rfl rfl ⟨rfl, trivial⟩ ⟨⟨_, rfl, ⟨ad_ren rfl, rfl, ad_ren rfl, rfl, ad_ren rfl, rfl, trivial⟩⟩, trivial⟩ rfl rfl rfl rfl rfl rfl rfl (fun r' H' hr => ?_)
  obtain ⟨rfl, rfl⟩ := hr
  refine ao_norm (y := .int .i64 r2.1) (H' := [(2, .var [.cell (.str r1.1.1), .cell (.str r1.1.2.1), .cell (.int .i64 r1.1.2.2.1)]), (1, .var [.cell (.str ByteArray.empty), .cell (.str ByteArray.empty), .cell (.int .i64 0)]), (0, .var [.cell (.v (.slice (.int .u8)) x0), .cell (.int .i64 r2.2.1), .cell (.int .u64 r2.2.2)])]) rfl rfl ?_
  refine ao_nil ?_
  refine aq_then ?_
  refine aw_block ?_
  refine aw_seq ?_
  refine aw_region ?_
  refine ao_read trivial (r_eql rfl rfl) rfl ?_
  refine ao_read trivial (r_assign rfl) rfl ?_
  refine ao_nil ?_
  refine aq_then ?_
  refine aw_cond rfl (fun hb3 => ?_) (fun hb3 => ?_)
  · have q4 := d_t hb3
    replace h := is_if (d_t hb3) h
    refine aw_region ?_
    refine ao_read trivial (r_fieldAddr Tryd.underlying27 rfl Tryd.sizeOf3 rfl rfl rfl) rfl ?_
    refine ao_read trivial (r_load_cell Tryd.isAgg3 rfl rfl rfl) rfl ?_
    refine ao_read trivial (r_add rfl rfl) rfl ?_
    refine ao_read trivial (r_fieldAddr Tryd.underlying27 rfl Tryd.sizeOf3 rfl rfl rfl) rfl ?_
    refine ao_effS trivial (e_store rfl rfl rfl rfl Tryd.sizeOf3 rfl) ?_
    refine ao_nil ?_
    refine aq_in ?_
    refine aq_then ?_
    refine aw_seq ?_
    refine aw_region ?_
    refine ao_read trivial (r_load_part (τ := (.pair .str (.pair .str (.pair (.int .i64) .unit)))) (y := ((r1.1.1, (r1.1.2.1, ((IntKind.wrap .i64 (r1.1.2.2.1 + 1)), ()))) : (ByteArray × (ByteArray × (Int × Unit))))) [] [] rfl Tryd.isAgg27 Tryd.sizeOf27 rfl rfl rfl rfl) rfl ?_
    refine ao_effS trivial (e_store rfl rfl rfl rfl Tryd.sizeOf27 rfl) ?_
    refine ao_nil ?_
    refine aq_then ?_
    refine aw_ret ?_
    refine aq_ret ?_
    obtain rfl := is_some h
    exact aq_finV (l := [.cell 2 27]) (xs := [.st [.str r1.1.1, .str r1.1.2.1, .int .i64 (IntKind.wrap .i64 (r1.1.2.2.1 + 1))]]) idn [.v (.pair .str (.pair .str (.pair (.int .i64) .unit))) ((r1.1.1, (r1.1.2.1, ((IntKind.wrap .i64 (r1.1.2.2.1 + 1)), ()))) : (ByteArray × (ByteArray × (Int × Unit))))] [(0, .var [.cell (.v (.slice (.int .u8)) x0), .cell (.int .i64 r2.2.1), .cell (.int .u64 r2.2.2)])] rfl (by exact ⟨⟨⟨_, _, rfl⟩, r_load_st [] [.cell (.str r1.1.1), .cell (.str r1.1.2.1), .cell (.int .i64 (IntKind.wrap .i64 (r1.1.2.2.1 + 1)))] [] Tryd.isAgg27 Tryd.sizeOf27 rfl rfl rfl rfl rfl rfl rfl⟩, trivial⟩) (by exact ⟨ad_st rfl rfl ⟨ad_ren rfl, ad_ren rfl, ad_ren rfl, trivial⟩, trivial⟩) (by exact ⟨⟨_, rfl, ⟨ad_ren rfl, rfl, ad_ren rfl, rfl, ad_ren rfl, rfl, trivial⟩⟩, trivial⟩) rfl (nk1 rfl rfl) ⟨rfl, rfl⟩
  · have q5 := d_f hb3
    replace h := is_else (d_f hb3) h
    refine aw_seq ?_
    refine aw_region ?_
    refine ao_read trivial (r_eql rfl rfl) rfl ?_
    refine ao_read trivial (r_assign rfl) rfl ?_
    refine ao_nil ?_
    refine aq_then ?_
    refine aw_cond rfl (fun hb6 => ?_) (fun hb6 => ?_)
    · have q7 := d_t hb6
      replace h := is_if (d_t hb6) h
      refine aw_region ?_
      refine ao_read trivial (r_move rfl) rfl ?_
      refine ao_read trivial (r_fieldAddr Tryd.underlying27 rfl Tryd.sizeOf9 rfl rfl rfl) rfl ?_
      refine ao_read trivial (r_load_cell Tryd.isAgg9 rfl rfl rfl) rfl ?_
      obtain ⟨r9, r9h, h⟩ := is_bind h
      refine ao_callV [0] 3 trivial (c_spec_l1Cur_spoilt (is_mk r9h)) Tryd.func47 rfl rfl rfl rfl rfl ⟨rfl, trivial⟩ ⟨⟨_, rfl, ⟨ad_ren rfl, rfl, ad_ren rfl, rfl, ad_ren rfl, rfl, trivial⟩⟩, trivial⟩ rfl rfl rfl rfl rfl rfl rfl (fun r' H' hr => ?_)
      obtain ⟨rfl, rfl⟩ := hr
      refine ao_norm (y := .str r9.1) (H' := [(2, .var [.cell (.str r1.1.1), .cell (.str r1.1.2.1), .cell (.int .i64 r1.1.2.2.1)]), (1, .var [.cell (.str ByteArray.empty), .cell (.str ByteArray.empty), .cell (.int .i64 0)]), (0, .var [.cell (.v (.slice (.int .u8)) x0), .cell (.int .i64 r9.2.1), .cell (.int .u64 r9.2.2)])]) rfl rfl ?_
      refine ao_read trivial (r_fieldAddr Tryd.underlying27 rfl Tryd.sizeOf9 rfl rfl rfl) rfl ?_
      refine ao_effS trivial (e_store rfl rfl rfl rfl Tryd.sizeOf9 rfl) ?_
      refine ao_nil ?_
      refine aq_in ?_
      refine aq_then ?_
      refine aw_seq ?_
      refine aw_region ?_
      refine ao_read trivial (r_load_part (τ := (.pair .str (.pair .str (.pair (.int .i64) .unit)))) (y := ((r1.1.1, (r9.1, (r1.1.2.2.1, ()))) : (ByteArray × (ByteArray × (Int × Unit))))) [] [] rfl Tryd.isAgg27 Tryd.sizeOf27 rfl rfl rfl rfl) rfl ?_
      refine ao_effS trivial (e_store rfl rfl rfl rfl Tryd.sizeOf27 rfl) ?_
      refine ao_nil ?_
      refine aq_then ?_
      refine aw_ret ?_
      refine aq_ret ?_
      obtain rfl := is_some h
      exact aq_finV (l := [.cell 2 27]) (xs := [.st [.str r1.1.1, .str r9.1, .int .i64 r1.1.2.2.1]]) idn [.v (.pair .str (.pair .str (.pair (.int .i64) .unit))) ((r1.1.1, (r9.1, (r1.1.2.2.1, ()))) : (ByteArray × (ByteArray × (Int × Unit))))] [(0, .var [.cell (.v (.slice (.int .u8)) x0), .cell (.int .i64 r9.2.1), .cell (.int .u64 r9.2.2)])] rfl (by exact ⟨⟨⟨_, _, rfl⟩, r_load_st [] [.cell (.str r1.1.1), .cell (.str r9.1), .cell (.int .i64 r1.1.2.2.1)] [] Tryd.isAgg27 Tryd.sizeOf27 rfl rfl rfl rfl rfl rfl rfl⟩, trivial⟩) (by exact ⟨ad_st rfl rfl ⟨ad_ren rfl, ad_ren rfl, ad_ren rfl, trivial⟩, trivial⟩) (by exact ⟨⟨_, rfl, ⟨ad_ren rfl, rfl, ad_ren rfl, rfl, ad_ren rfl, rfl, trivial⟩⟩, trivial⟩) rfl (nk1 rfl rfl) ⟨rfl, rfl⟩
    · have q8 := d_f hb6
      replace h := is_else (d_f hb6) h
      refine aw_seq ?_
      refine aw_region ?_
      refine ao_read trivial (r_eql rfl rfl) rfl ?_
      refine ao_read trivial (r_assign rfl) rfl ?_
      refine ao_nil ?_
      refine aq_then ?_
      refine aw_cond rfl (fun hb10 => ?_) (fun hb10 => ?_)
      · have q11 := d_t hb10
        replace h := is_if (d_t hb10) h
        refine aw_region ?_
        refine ao_read trivial (r_fieldAddr Tryd.underlying27 rfl Tryd.sizeOf9 rfl rfl rfl) rfl ?_
        refine ao_read trivial (r_load_cell Tryd.isAgg9 rfl rfl rfl) rfl ?_
        refine ao_read trivial (r_fieldAddr Tryd.underlying27 rfl Tryd.sizeOf9 rfl rfl rfl) rfl ?_
        refine ao_read trivial (r_load_cell Tryd.isAgg9 rfl rfl rfl) rfl ?_
        obtain ⟨g13, h⟩ := is_guard h
        refine ao_read trivial (r_add_str (a := r1.1.1) (b := r1.1.2.1) rfl rfl (by omega)) rfl ?_
        refine ao_read trivial (r_fieldAddr Tryd.underlying27 rfl Tryd.sizeOf9 rfl rfl rfl) rfl ?_
        refine ao_effS trivial (e_store rfl rfl rfl rfl Tryd.sizeOf9 rfl) ?_
        refine ao_nil ?_
        refine aq_in ?_
        refine aq_then ?_
        refine aw_seq ?_
        refine aw_region ?_
        refine ao_read trivial (r_load_part (τ := (.pair .str (.pair .str (.pair (.int .i64) .unit)))) (y := (((r1.1.1 ++ r1.1.2.1), (r1.1.2.1, (r1.1.2.2.1, ()))) : (ByteArray × (ByteArray × (Int × Unit))))) [] [] rfl Tryd.isAgg27 Tryd.sizeOf27 rfl rfl rfl rfl) rfl ?_
        refine ao_effS trivial (e_store rfl rfl rfl rfl Tryd.sizeOf27 rfl) ?_
        refine ao_nil ?_
        refine aq_then ?_
        refine aw_ret ?_
        refine aq_ret ?_
        obtain rfl := is_some h
        exact aq_finV (l := [.cell 2 27]) (xs := [.st [.str (r1.1.1 ++ r1.1.2.1), .str r1.1.2.1, .int .i64 r1.1.2.2.1]]) idn [.v (.pair .str (.pair .str (.pair (.int .i64) .unit))) (((r1.1.1 ++ r1.1.2.1), (r1.1.2.1, (r1.1.2.2.1, ()))) : (ByteArray × (ByteArray × (Int × Unit))))] [(0, .var [.cell (.v (.slice (.int .u8)) x0), .cell (.int .i64 r2.2.1), .cell (.int .u64 r2.2.2)])] rfl (by exact ⟨⟨⟨_, _, rfl⟩, r_load_st [] [.cell (.str (r1.1.1 ++ r1.1.2.1)), .cell (.str r1.1.2.1), .cell (.int .i64 r1.1.2.2.1)] [] Tryd.isAgg27 Tryd.sizeOf27 rfl rfl rfl rfl rfl rfl rfl⟩, trivial⟩) (by exact ⟨ad_st rfl rfl ⟨ad_ren rfl, ad_ren rfl, ad_ren rfl, trivial⟩, trivial⟩) (by exact ⟨⟨_, rfl, ⟨ad_ren rfl, rfl, ad_ren rfl, rfl, ad_ren rfl, rfl, trivial⟩⟩, trivial⟩) rfl (nk1 rfl rfl) ⟨rfl, rfl⟩
      · have q12 := d_f hb10
        replace h := is_else (d_f hb10) h
        refine aw_skip ?_
        refine aq_in ?_
        refine aq_then ?_
        refine aw_seq ?_
        refine aw_region ?_
        refine ao_read trivial (r_load_part (τ := (.pair .str (.pair .str (.pair (.int .i64) .unit)))) (y := ((r1.1.1, (r1.1.2.1, (r1.1.2.2.1, ()))) : (ByteArray × (ByteArray × (Int × Unit))))) [] [] rfl Tryd.isAgg27 Tryd.sizeOf27 rfl rfl rfl rfl) rfl ?_
        refine ao_effS trivial (e_store rfl rfl rfl rfl Tryd.sizeOf27 rfl) ?_
        refine ao_nil ?_
        refine aq_then ?_
        refine aw_ret ?_
        refine aq_ret ?_
        obtain rfl := is_some h
        exact aq_finV (l := [.cell 2 27]) (xs := [.st [.str r1.1.1, .str r1.1.2.1, .int .i64 r1.1.2.2.1]]) idn [.v (.pair .str (.pair .str (.pair (.int .i64) .unit))) ((r1.1.1, (r1.1.2.1, (r1.1.2.2.1, ()))) : (ByteArray × (ByteArray × (Int × Unit))))] [(0, .var [.cell (.v (.slice (.int .u8)) x0), .cell (.int .i64 r2.2.1), .cell (.int .u64 r2.2.2)])] rfl (by exact ⟨⟨⟨_, _, rfl⟩, r_load_st [] [.cell (.str r1.1.1), .cell (.str r1.1.2.1), .cell (.int .i64 r1.1.2.2.1)] [] Tryd.isAgg27 Tryd.sizeOf27 rfl rfl rfl rfl rfl rfl rfl⟩, trivial⟩) (by exact ⟨ad_st rfl rfl ⟨ad_ren rfl, ad_ren rfl, ad_ren rfl, trivial⟩, trivial⟩) (by exact ⟨⟨_, rfl, ⟨ad_ren rfl, rfl, ad_ren rfl, rfl, ad_ren rfl, rfl, trivial⟩⟩, trivial⟩) rfl (nk1 rfl rfl) ⟨rfl, rfl⟩
theorem c_spec_DrawAppendRecord {fu : Nat} {x0 : (List Int)} {r : (ByteArray × (ByteArray × (Int × Unit))) × (ByteArray × (ByteArray × Unit))} (h : Is (p_spec_DrawAppendRecord fu x0) (some r)) :
    Scalar Tryd.prog 17 [.v (.slice (.int .u8)) x0] (.tup [.v (.pair .str (.pair .str (.pair (.int .i64) .unit))) r.1, .v (.pair .str (.pair .str .unit)) r.2]) := by
  unfold p_spec_DrawAppendRecord at h
  refine ac_enter ⟨31, 0⟩ Tryd.func17 rfl rfl rfl rfl rfl (fun Γ => ?_)
  refine sl_len_m 0 (x0.length : Int) rfl rfl (fun hl0 => ?_)
  refine aw_seq ?_
  refine aw_region ?_
  refine ao_eff trivial (e_alloc 0 (y := .st [.str ByteArray.empty, .str ByteArray.empty, .int .i64 0]) Tryd.zeroValue27 (fun ρ h M => ra_zero_st (t := (.pair .str (.pair .str (.pair (.int .i64) .unit)))) rfl rfl rfl) rfl rfl rfl rfl rfl) rfl ?_
  refine ao_eff trivial (e_alloc 1 (y := .st [.str ByteArray.empty, .str ByteArray.empty]) Tryd.zeroValue33 (fun ρ h M => ra_zero_st (t := (.pair .str (.pair .str .unit))) rfl rfl rfl) rfl rfl rfl rfl rfl) rfl ?_
  refine ao_nil ?_
  refine aq_then ?_
  refine aw_seq ?_
  refine aw_region ?_
  refine ao_read trivial (r_move rfl) rfl ?_
  refine ao_read trivial (r_build_st (l := [(0, .tmp 7)]) (cs := [.cell (.v (.slice (.int .u8)) x0), .cell (.int .i64 0), .cell (.int .u64 0)]) (.pair (.slice (.int .u8)) (.pair (.int .i64) (.pair (.int .u64) .unit))) [(0, 1), (1, 1), (2, 1)] Tryd.underlying59 Tryd.zeroValue59 rfl ⟨rfl, Tryd.sizeOf30, rfl, Tryd.sizeOf3, rfl, Tryd.sizeOf57, trivial⟩ rfl rfl rfl) rfl ?_
  refine ao_eff trivial (e_box 2 rfl rfl rfl rfl rfl rfl) rfl ?_
  refine ao_read trivial (r_assign rfl) rfl ?_
  refine ao_nil ?_
  refine aq_then ?_
  refine aw_seq ?_
  refine aw_region ?_
  refine ao_read trivial (r_move rfl) rfl ?_
  obtain ⟨r1, r1h, h⟩ := is_bind h
  refine ao_callV [2] 3 trivial (c_spec_l1Cur_anyLog (is_mk r1h)) Tryd.func41 rfl rfl rfl rfl rfl ⟨rfl, trivial⟩ ⟨⟨_, rfl, ⟨ad_ren rfl, rfl, ad_ren rfl, rfl, ad_ren rfl, rfl, trivial⟩⟩, trivial⟩ rfl rfl rfl rfl rfl rfl rfl (fun r' H' hr => ?_)
  obtain ⟨rfl, rfl⟩ := hr
  refine ao_norm (y := .v (.pair .str (.pair .str (.pair (.int .i64) .unit))) r1.1) (H' := [(1, .var [.cell (.str ByteArray.empty), .cell (.str ByteArray.empty)]), (0, .var [.cell (.str ByteArray.empty), .cell (.str ByteArray.empty), .cell (.int .i64 0)]), (2, .var [.cell (.v (.slice (.int .u8)) x0), .cell (.int .i64 r1.2.1), .cell (.int .u64 r1.2.2)])]) rfl rfl ?_
  refine ao_eff trivial (e_alloc 3 (y := .st [.str ByteArray.empty, .str ByteArray.empty, .int .i64 0]) Tryd.zeroValue27 (fun ρ h M => ra_zero_st (t := (.pair .str (.pair .str (.pair (.int .i64) .unit)))) rfl rfl rfl) rfl rfl rfl rfl rfl) rfl ?_
  refine ao_effS trivial (e_store rfl rfl rfl rfl Tryd.sizeOf27 rfl) ?_
  refine ao_nil ?_
  refine aq_then ?_
  refine aw_seq ?_
  refine aw_seq ?_
  refine aw_region ?_
  refine ao_read trivial (r_move rfl) rfl ?_
  obtain ⟨r2, r2h, h⟩ := is_bind h
  refine ao_callV [2] 4 trivial (c_spec_l1Cur_one (is_mk r2h)) Tryd.func42 rfl rfl rfl rfl rfl ⟨rfl, trivial⟩ ⟨⟨_, rfl, ⟨ad_ren rfl, rfl, ad_ren rfl, rfl, ad_ren rfl, rfl, trivial⟩⟩, trivial⟩ rfl rfl rfl rfl rfl rfl rfl (fun r' H' hr => ?_)
  obtain ⟨rfl, rfl⟩ := hr
  refine ao_norm (y := .bool r2.1) (H' := [(3, .var [.cell (.str r1.1.1), .cell (.str r1.1.2.1), .cell (.int .i64 r1.1.2.2.1)]), (1, .var [.cell (.str ByteArray.empty), .cell (.str ByteArray.empty)]), (0, .var [.cell (.str ByteArray.empty), .cell (.str ByteArray.empty), .cell (.int .i64 0)]), (2, .var [.cell (.v (.slice (.int .u8)) x0), .cell (.int .i64 r2.2.1), .cell (.int .u64 r2.2.2)])]) rfl rfl ?_
  refine ao_nil ?_
  refine aq_then ?_
  refine aw_cond rfl (fun hb3 => ?_) (fun hb3 => ?_)
  · replace h := is_if hb3 h
    refine aw_seq ?_
    refine aw_region ?_
    refine ao_read trivial (r_build_stv (l := []) (cs := [.cell (.str ByteArray.empty), .cell (.str ByteArray.empty), .cell (.int .i64 0)]) (.pair .str (.pair .str (.pair (.int .i64) .unit))) ((ByteArray.empty, (ByteArray.empty, (0, ()))) : (ByteArray × (ByteArray × (Int × Unit)))) [(0, 1), (1, 1), (2, 1)] Tryd.underlying27 Tryd.zeroValue27 rfl ⟨rfl, Tryd.sizeOf9, rfl, Tryd.sizeOf9, rfl, Tryd.sizeOf3, trivial⟩ rfl rfl rfl rfl) rfl ?_
    refine ao_effS trivial (e_store rfl rfl rfl rfl Tryd.sizeOf27 rfl) ?_
    refine ao_nil ?_
    refine aq_then ?_
    refine aw_seq ?_
    refine aw_region ?_
    refine ao_read trivial (r_move rfl) rfl ?_
    obtain ⟨r4, r4h, h⟩ := is_bind h
    refine ao_callV [2] 4 trivial (c_spec_l1Cur_pick (is_mk r4h)) Tryd.func43 rfl rfl rfl rfl rfl ⟨rfl, trivial⟩ ⟨⟨_, rfl, ⟨ad_ren rfl, rfl, ad_ren rfl, rfl, ad_ren rfl, rfl, trivial⟩⟩, trivial⟩ rfl rfl rfl rfl rfl rfl rfl (fun r' H' hr => ?_)
    obtain ⟨rfl, rfl⟩ := hr
    refine ao_norm (y := .int .i64 r4.1) (H' := [(3, .var [.cell (.str ByteArray.empty), .cell (.str ByteArray.empty), .cell (.int .i64 0)]), (1, .var [.cell (.str ByteArray.empty), .cell (.str ByteArray.empty)]), (0, .var [.cell (.str ByteArray.empty), .cell (.str ByteArray.empty), .cell (.int .i64 0)]), (2, .var [.cell (.v (.slice (.int .u8)) x0), .cell (.int .i64 r4.2.1), .cell (.int .u64 r4.2.2)])]) rfl rfl ?_
    refine ao_read trivial (r_add rfl rfl) rfl ?_
    refine ao_read trivial (r_assign rfl) rfl ?_
    refine ao_nil ?_
    refine aq_then ?_
    refine aw_block ?_
    refine aw_loop (AL.sub (sub_mk idn (by exact ⟨⟨_, rfl, ad_ren rfl⟩, ⟨_, rfl, ad_ren rfl⟩, ⟨_, rfl, ad_ren rfl⟩, ⟨_, rfl, ad_ren rfl⟩, ⟨_, rfl, ad_ren rfl⟩, trivial⟩) (by exact ⟨⟨_, rfl, ⟨ad_ren rfl, rfl, ad_ren rfl, rfl, ad_ren rfl, rfl, trivial⟩⟩, ⟨_, rfl, ⟨ad_ren rfl, rfl, ad_ren rfl, rfl, trivial⟩⟩, ⟨_, rfl, ⟨ad_ren rfl, rfl, ad_ren rfl, rfl, ad_ren rfl, rfl, trivial⟩⟩, ⟨_, rfl, ⟨ad_ren rfl, rfl, ad_ren rfl, rfl, ad_ren rfl, rfl, trivial⟩⟩, trivial⟩) (by rfl) (nk rfl)) (al_whl (fun (s5 : Int × ByteArray × ByteArray × Int) => [(2, .ref 0 0), (3, .ref 1 0), (4, .ref 2 0), (5, .ref 3 0), (6, .int .i64 s5.1)]) (fun (s5 : Int × ByteArray × ByteArray × Int) => [(0, .var [.cell (.str ByteArray.empty), .cell (.str ByteArray.empty), .cell (.int .i64 0)]), (1, .var [.cell (.str ByteArray.empty), .cell (.str ByteArray.empty)]), (2, .var [.cell (.v (.slice (.int .u8)) x0), .cell (.int .i64 r4.2.1), .cell (.int .u64 r4.2.2)]), (3, .var [.cell (.str s5.2.1), .cell (.str s5.2.2.1), .cell (.int .i64 s5.2.2.2)])]) (fun (s5 : Int × ByteArray × ByteArray × Int) => True) h trivial (fun d7 s5 hI h ih7 => ?_)))
    replace h := is_whlS h
    refine al_round ?_
    refine aw_seq ?_
    refine aw_seq ?_
    refine aw_region ?_
    refine ao_read trivial (r_move rfl) rfl ?_
    refine ao_read trivial (r_gtr rfl rfl) rfl ?_
    refine ao_nil ?_
    refine aq_then ?_
    refine aw_cond rfl (fun hb9 => ?_) (fun hb9 => ?_)
    · have q10 := d_t hb9
      replace h := is_if (d_t hb9) h
      refine aw_skip ?_
      refine aq_then ?_
      refine aw_seq ?_
      refine aw_block ?_
      refine aw_region ?_
      refine ao_read trivial (r_load_part (τ := (.pair .str (.pair .str (.pair (.int .i64) .unit)))) (y := ((s5.2.1, (s5.2.2.1, (s5.2.2.2, ()))) : (ByteArray × (ByteArray × (Int × Unit))))) [] [] rfl Tryd.isAgg27 Tryd.sizeOf27 rfl rfl rfl rfl) rfl ?_
      refine ao_read trivial (r_build_stv (l := [(0, .const (.string (ByteArray.mk #[120])))]) (cs := [.cell (.str (ByteArray.mk #[120])), .cell (.str ByteArray.empty)]) (.pair .str (.pair .str .unit)) (((ByteArray.mk #[120]), (ByteArray.empty, ())) : (ByteArray × (ByteArray × Unit))) [(0, 1), (1, 1)] Tryd.underlying33 Tryd.zeroValue33 rfl ⟨rfl, Tryd.sizeOf9, rfl, Tryd.sizeOf9, trivial⟩ rfl rfl rfl rfl) rfl ?_
      obtain ⟨r12, r12h, h⟩ := is_bind h
      refine ao_scall trivial (scall (c_spec_AppendRecord (is_mk r12h)) rfl Tryd.func19 rfl rfl rfl rfl (fun σ => ⟨ad_ren rfl, ad_ren rfl, trivial⟩)) rfl ?_
      refine ao_read trivial (r_move rfl) rfl ?_
      refine ao_read trivial (r_extract rfl rfl) rfl ?_
      refine ao_read trivial (r_extract rfl rfl) rfl ?_
      refine ao_effS trivial (e_store rfl rfl rfl rfl Tryd.sizeOf27 rfl) ?_
      refine ao_nil ?_
      refine aq_in ?_
      refine aq_then ?_
      refine aw_region ?_
      refine ao_read trivial (r_move rfl) rfl ?_
      refine ao_read trivial (r_sub rfl rfl) rfl ?_
      refine ao_read trivial (r_assign rfl) rfl ?_
      refine ao_nil ?_
      exact aq_again (AL.sub (sub_mk idn (by exact ⟨⟨_, rfl, ad_ren rfl⟩, ⟨_, rfl, ad_ren rfl⟩, ⟨_, rfl, ad_ren rfl⟩, ⟨_, rfl, ad_ren rfl⟩, ⟨_, rfl, ad_ren rfl⟩, trivial⟩) (by exact ⟨⟨_, rfl, ⟨ad_ren rfl, rfl, ad_ren rfl, rfl, ad_ren rfl, rfl, trivial⟩⟩, ⟨_, rfl, ⟨ad_ren rfl, rfl, ad_ren rfl, rfl, trivial⟩⟩, ⟨_, rfl, ⟨ad_ren rfl, rfl, ad_ren rfl, rfl, ad_ren rfl, rfl, trivial⟩⟩, ⟨_, rfl, ⟨ad_ren rfl, rfl, ad_ren rfl, rfl, ad_ren rfl, rfl, trivial⟩⟩, trivial⟩) (by rfl) (nk rfl)) (ih7 ((IntKind.wrap .i64 (s5.1 - 1)), r12.1.1, r12.1.2.1, r12.1.2.2.1) trivial h))
    · have q11 := d_f hb9
      replace h := is_else (d_f hb9) h
      refine aw_exit ?_
      refine aq_then_exit ?_
      refine aq_then_exit ?_
      refine aq_in_exit ?_
      refine aq_then ?_
      refine aw_seq ?_
      obtain ⟨r13, r13h, h⟩ := is_bind h
      refine aw_drawP 5 rfl (by kernel_rfl) ?_
      refine ap_to [(2, .ref 0 0), (3, .ref 1 0)] [(0, .var [.cell (.str s5.2.1), .cell (.str s5.2.2.1), .cell (.int .i64 s5.2.2.2)]), (1, .var [.cell (.str r13.1.1), .cell (.str r13.1.2.1)])] ?_ (fun key => ?_)
      · refine aq_then ?_
        refine aw_ret ?_
        refine aq_ret ?_
        obtain rfl := is_some h
        exact aq_finx (l := [.cell 2 27, .cell 3 33]) (xs := [.st [.str s5.2.1, .str s5.2.2.1, .int .i64 s5.2.2.2], .st [.str r13.1.1, .str r13.1.2.1]]) idn [.v (.pair .str (.pair .str (.pair (.int .i64) .unit))) ((s5.2.1, (s5.2.2.1, (s5.2.2.2, ()))) : (ByteArray × (ByteArray × (Int × Unit)))), .v (.pair .str (.pair .str .unit)) ((r13.1.1, (r13.1.2.1, ())) : (ByteArray × (ByteArray × Unit)))] [] rfl (by exact ⟨⟨⟨_, _, rfl⟩, r_load_st [] [.cell (.str s5.2.1), .cell (.str s5.2.2.1), .cell (.int .i64 s5.2.2.2)] [] Tryd.isAgg27 Tryd.sizeOf27 rfl rfl rfl rfl rfl rfl rfl⟩, ⟨⟨_, _, rfl⟩, r_load_st [] [.cell (.str r13.1.1), .cell (.str r13.1.2.1)] [] Tryd.isAgg33 Tryd.sizeOf33 rfl rfl rfl rfl rfl rfl rfl⟩, trivial⟩) (by exact ⟨ad_st rfl rfl ⟨ad_ren rfl, ad_ren rfl, ad_ren rfl, trivial⟩, ad_st rfl rfl ⟨ad_ren rfl, ad_ren rfl, trivial⟩, trivial⟩) (by exact trivial) rfl (nk rfl) rfl rfl ⟨rfl, rfl⟩
      refine ap_let (g := 1) (listed := #[true, true, true, true, false]) [(2, .ref 0 0), (3, .ref 1 0), (30, .v (.pair .str (.pair .str .unit)) r13.1)] [(0, .var [.cell (.str s5.2.1), .cell (.str s5.2.2.1), .cell (.int .i64 s5.2.2.2)]), (1, .var [.cell (.str ByteArray.empty), .cell (.str ByteArray.empty)])] ?_ (fun k17 => ?_)
      · refine ap_all [4] (by kernel_rfl) ⟨?_, trivial⟩
        refine apo_ao rfl ?_
        refine ao_effS trivial (e_store rfl rfl rfl rfl Tryd.sizeOf33 rfl) ?_
        refine ao_nil ?_
        refine ap_in ?_
        exact ap_end (by kernel_rfl) (AQ.sub (sub_mk idn (by exact ⟨⟨_, rfl, ad_ren rfl⟩, ⟨_, rfl, ad_ren rfl⟩, trivial⟩) (by exact ⟨⟨_, rfl, ⟨ad_ren rfl, rfl, ad_ren rfl, rfl, ad_ren rfl, rfl, trivial⟩⟩, ⟨_, rfl, ⟨ad_ren rfl, rfl, ad_ren rfl, rfl, trivial⟩⟩, trivial⟩) (by rfl) (nk rfl)) key)
      refine ap_let (g := 2) (listed := #[true, true, true, false, false]) [(2, .ref 0 0), (3, .ref 1 0), (28, .v (.pair .str (.pair .str (.pair (.int .i64) .unit))) ((s5.2.1, (s5.2.2.1, (s5.2.2.2, ()))) : (ByteArray × (ByteArray × (Int × Unit))))), (30, .v (.pair .str (.pair .str .unit)) r13.1)] [(0, .var [.cell (.str ByteArray.empty), .cell (.str ByteArray.empty), .cell (.int .i64 0)]), (1, .var [.cell (.str ByteArray.empty), .cell (.str ByteArray.empty)])] ?_ (fun k16 => ?_)
      · refine ap_all [3] (by kernel_rfl) ⟨?_, trivial⟩
        refine apo_ao rfl ?_
        refine ao_effS trivial (e_store rfl rfl rfl rfl Tryd.sizeOf27 rfl) ?_
        refine ao_nil ?_
        refine ap_in ?_
        exact ap_go (by kernel_rfl) (sub_mk idn (by exact ⟨⟨_, rfl, ad_ren rfl⟩, ⟨_, rfl, ad_ren rfl⟩, ⟨_, rfl, ad_ren rfl⟩, trivial⟩) (by exact ⟨⟨_, rfl, ⟨ad_ren rfl, rfl, ad_ren rfl, rfl, ad_ren rfl, rfl, trivial⟩⟩, ⟨_, rfl, ⟨ad_ren rfl, rfl, ad_ren rfl, rfl, trivial⟩⟩, trivial⟩) (by rfl) (nk rfl)) k17
      refine ap_let (g := 3) (listed := #[true, true, false, false, false]) [(2, .ref 0 0), (3, .ref 1 0), (28, .v (.pair .str (.pair .str (.pair (.int .i64) .unit))) ((s5.2.1, (s5.2.2.1, (s5.2.2.2, ()))) : (ByteArray × (ByteArray × (Int × Unit))))), (29, .ref 2 0)] [(0, .var [.cell (.str ByteArray.empty), .cell (.str ByteArray.empty), .cell (.int .i64 0)]), (1, .var [.cell (.str ByteArray.empty), .cell (.str ByteArray.empty)]), (2, .var [.cell (.v (.slice (.int .u8)) x0), .cell (.int .i64 r4.2.1), .cell (.int .u64 r4.2.2)])] ?_ (fun k15 => ?_)
      · refine ap_all [2] (by kernel_rfl) ⟨?_, trivial⟩
        refine apo_ao rfl ?_
        refine ao_callV [2] 3 trivial (c_spec_l1Cur_logRecord (is_mk r13h)) Tryd.func33 rfl rfl rfl rfl rfl ⟨rfl, trivial⟩ ⟨⟨_, rfl, ⟨ad_ren rfl, rfl, ad_ren rfl, rfl, ad_ren rfl, rfl, trivial⟩⟩, trivial⟩ rfl rfl rfl rfl rfl rfl rfl (fun r' H' hr => ?_)
        obtain ⟨rfl, rfl⟩ := hr
        refine ao_norm (y := .v (.pair .str (.pair .str .unit)) r13.1) (H' := [(0, .var [.cell (.str ByteArray.empty), .cell (.str ByteArray.empty), .cell (.int .i64 0)]), (1, .var [.cell (.str ByteArray.empty), .cell (.str ByteArray.empty)]), (2, .var [.cell (.v (.slice (.int .u8)) x0), .cell (.int .i64 r13.2.1), .cell (.int .u64 r13.2.2)])]) rfl rfl ?_
        refine ao_nil ?_
        refine ap_in ?_
        exact ap_go (by kernel_rfl) (sub_mk idn (by exact ⟨⟨_, rfl, ad_ren rfl⟩, ⟨_, rfl, ad_ren rfl⟩, ⟨_, rfl, ad_ren rfl⟩, ⟨_, rfl, ad_ren rfl⟩, trivial⟩) (by exact ⟨⟨_, rfl, ⟨ad_ren rfl, rfl, ad_ren rfl, rfl, ad_ren rfl, rfl, trivial⟩⟩, ⟨_, rfl, ⟨ad_ren rfl, rfl, ad_ren rfl, rfl, trivial⟩⟩, trivial⟩) (by rfl) (nk rfl)) k16
      refine ap_let (g := 3) (listed := #[false, true, true, false, false]) [(2, .ref 0 0), (3, .ref 1 0), (5, .ref 2 0), (30, .v (.pair .str (.pair .str .unit)) r13.1)] [(0, .var [.cell (.str ByteArray.empty), .cell (.str ByteArray.empty), .cell (.int .i64 0)]), (1, .var [.cell (.str ByteArray.empty), .cell (.str ByteArray.empty)]), (2, .var [.cell (.str s5.2.1), .cell (.str s5.2.2.1), .cell (.int .i64 s5.2.2.2)])] ?_ (fun k18 => ?_)
      · refine ap_all [0] (by kernel_rfl) ⟨?_, trivial⟩
        refine apo_ao rfl ?_
        refine ao_read trivial (r_load_part (τ := (.pair .str (.pair .str (.pair (.int .i64) .unit)))) (y := ((s5.2.1, (s5.2.2.1, (s5.2.2.2, ()))) : (ByteArray × (ByteArray × (Int × Unit))))) [] [] rfl Tryd.isAgg27 Tryd.sizeOf27 rfl rfl rfl rfl) rfl ?_
        refine ao_nil ?_
        refine ap_in ?_
        exact ap_go (by kernel_rfl) (sub_mk idn (by exact ⟨⟨_, rfl, ad_ren rfl⟩, ⟨_, rfl, ad_ren rfl⟩, ⟨_, rfl, ad_ren rfl⟩, ⟨_, rfl, ad_ren rfl⟩, trivial⟩) (by exact ⟨⟨_, rfl, ⟨ad_ren rfl, rfl, ad_ren rfl, rfl, ad_ren rfl, rfl, trivial⟩⟩, ⟨_, rfl, ⟨ad_ren rfl, rfl, ad_ren rfl, rfl, trivial⟩⟩, trivial⟩) (by rfl) (nk rfl)) k16
      refine ap_let (g := 4) (listed := #[false, true, false, false, false]) [(2, .ref 0 0), (3, .ref 1 0), (5, .ref 2 0), (29, .ref 3 0)] [(0, .var [.cell (.str ByteArray.empty), .cell (.str ByteArray.empty), .cell (.int .i64 0)]), (1, .var [.cell (.str ByteArray.empty), .cell (.str ByteArray.empty)]), (2, .var [.cell (.str s5.2.1), .cell (.str s5.2.2.1), .cell (.int .i64 s5.2.2.2)]), (3, .var [.cell (.v (.slice (.int .u8)) x0), .cell (.int .i64 r4.2.1), .cell (.int .u64 r4.2.2)])] ?_ (fun k14 => ?_)
      · refine ap_all [0, 2] (by kernel_rfl) ⟨?_, ?_, trivial⟩
        · refine apo_ao rfl ?_
          refine ao_read trivial (r_load_part (τ := (.pair .str (.pair .str (.pair (.int .i64) .unit)))) (y := ((s5.2.1, (s5.2.2.1, (s5.2.2.2, ()))) : (ByteArray × (ByteArray × (Int × Unit))))) [] [] rfl Tryd.isAgg27 Tryd.sizeOf27 rfl rfl rfl rfl) rfl ?_
          refine ao_nil ?_
          refine ap_in ?_
          exact ap_go (by kernel_rfl) (sub_mk (rn [(2, 3)]) (by exact ⟨⟨_, rfl, ad_ren rfl⟩, ⟨_, rfl, ad_ren rfl⟩, ⟨_, rfl, ad_ren rfl⟩, ⟨_, rfl, ad_ren rfl⟩, trivial⟩) (by exact ⟨⟨_, rfl, ⟨ad_ren rfl, rfl, ad_ren rfl, rfl, ad_ren rfl, rfl, trivial⟩⟩, ⟨_, rfl, ⟨ad_ren rfl, rfl, ad_ren rfl, rfl, trivial⟩⟩, ⟨_, rfl, ⟨ad_ren rfl, rfl, ad_ren rfl, rfl, ad_ren rfl, rfl, trivial⟩⟩, trivial⟩) (by rfl) (nk rfl)) k15
        · refine apo_ao rfl ?_
          refine ao_callV [3] 4 trivial (c_spec_l1Cur_logRecord (is_mk r13h)) Tryd.func33 rfl rfl rfl rfl rfl ⟨rfl, trivial⟩ ⟨⟨_, rfl, ⟨ad_ren rfl, rfl, ad_ren rfl, rfl, ad_ren rfl, rfl, trivial⟩⟩, trivial⟩ rfl rfl rfl rfl rfl rfl rfl (fun r' H' hr => ?_)
          obtain ⟨rfl, rfl⟩ := hr
          refine ao_norm (y := .v (.pair .str (.pair .str .unit)) r13.1) (H' := [(0, .var [.cell (.str ByteArray.empty), .cell (.str ByteArray.empty), .cell (.int .i64 0)]), (1, .var [.cell (.str ByteArray.empty), .cell (.str ByteArray.empty)]), (2, .var [.cell (.str s5.2.1), .cell (.str s5.2.2.1), .cell (.int .i64 s5.2.2.2)]), (3, .var [.cell (.v (.slice (.int .u8)) x0), .cell (.int .i64 r13.2.1), .cell (.int .u64 r13.2.2)])]) rfl rfl ?_
          refine ao_nil ?_
          refine ap_in ?_
          exact ap_go (by kernel_rfl) (sub_mk idn (by exact ⟨⟨_, rfl, ad_ren rfl⟩, ⟨_, rfl, ad_ren rfl⟩, ⟨_, rfl, ad_ren rfl⟩, ⟨_, rfl, ad_ren rfl⟩, trivial⟩) (by exact ⟨⟨_, rfl, ⟨ad_ren rfl, rfl, ad_ren rfl, rfl, ad_ren rfl, rfl, trivial⟩⟩, ⟨_, rfl, ⟨ad_ren rfl, rfl, ad_ren rfl, rfl, trivial⟩⟩, ⟨_, rfl, ⟨ad_ren rfl, rfl, ad_ren rfl, rfl, ad_ren rfl, rfl, trivial⟩⟩, trivial⟩) (by rfl) (nk rfl)) k18
      refine ap_pure 1 (by kernel_rfl) (fun _ _ _ h => h) rfl (by kernel_rfl) trivial (rp_move rfl) rfl ?_
      exact ap_go (by kernel_rfl) (sub_mk (rn [(2, 3), (3, 2)]) (by exact ⟨⟨_, rfl, ad_ren rfl⟩, ⟨_, rfl, ad_ren rfl⟩, ⟨_, rfl, ad_ren rfl⟩, ⟨_, rfl, ad_ren rfl⟩, trivial⟩) (by exact ⟨⟨_, rfl, ⟨ad_ren rfl, rfl, ad_ren rfl, rfl, ad_ren rfl, rfl, trivial⟩⟩, ⟨_, rfl, ⟨ad_ren rfl, rfl, ad_ren rfl, rfl, trivial⟩⟩, ⟨_, rfl, ⟨ad_ren rfl, rfl, ad_ren rfl, rfl, ad_ren rfl, rfl, trivial⟩⟩, ⟨_, rfl, ⟨ad_ren rfl, rfl, ad_ren rfl, rfl, ad_ren rfl, rfl, trivial⟩⟩, trivial⟩) (by rfl) (nk rfl)) k14
  · replace h := is_else (ne_t hb3) h
    refine aw_skip ?_
    refine aq_then ?_
    refine aw_seq ?_
    obtain ⟨r19, r19h, h⟩ := is_bind h
    refine aw_drawP 5 rfl (by kernel_rfl) ?_
    refine ap_to [(2, .ref 0 0), (3, .ref 1 0)] [(0, .var [.cell (.str r1.1.1), .cell (.str r1.1.2.1), .cell (.int .i64 r1.1.2.2.1)]), (1, .var [.cell (.str r19.1.1), .cell (.str r19.1.2.1)])] ?_ (fun key => ?_)
    · refine aq_then ?_
      refine aw_ret ?_
      refine aq_ret ?_
      obtain rfl := is_some h
      exact aq_finx (l := [.cell 2 27, .cell 3 33]) (xs := [.st [.str r1.1.1, .str r1.1.2.1, .int .i64 r1.1.2.2.1], .st [.str r19.1.1, .str r19.1.2.1]]) idn [.v (.pair .str (.pair .str (.pair (.int .i64) .unit))) ((r1.1.1, (r1.1.2.1, (r1.1.2.2.1, ()))) : (ByteArray × (ByteArray × (Int × Unit)))), .v (.pair .str (.pair .str .unit)) ((r19.1.1, (r19.1.2.1, ())) : (ByteArray × (ByteArray × Unit)))] [] rfl (by exact ⟨⟨⟨_, _, rfl⟩, r_load_st [] [.cell (.str r1.1.1), .cell (.str r1.1.2.1), .cell (.int .i64 r1.1.2.2.1)] [] Tryd.isAgg27 Tryd.sizeOf27 rfl rfl rfl rfl rfl rfl rfl⟩, ⟨⟨_, _, rfl⟩, r_load_st [] [.cell (.str r19.1.1), .cell (.str r19.1.2.1)] [] Tryd.isAgg33 Tryd.sizeOf33 rfl rfl rfl rfl rfl rfl rfl⟩, trivial⟩) (by exact ⟨ad_st rfl rfl ⟨ad_ren rfl, ad_ren rfl, ad_ren rfl, trivial⟩, ad_st rfl rfl ⟨ad_ren rfl, ad_ren rfl, trivial⟩, trivial⟩) (by exact trivial) rfl (nk rfl) rfl rfl ⟨rfl, rfl⟩
    refine ap_let (g := 1) (listed := #[true, true, true, true, false]) [(2, .ref 0 0), (3, .ref 1 0), (30, .v (.pair .str (.pair .str .unit)) r19.1)] [(0, .var [.cell (.str r1.1.1), .cell (.str r1.1.2.1), .cell (.int .i64 r1.1.2.2.1)]), (1, .var [.cell (.str ByteArray.empty), .cell (.str ByteArray.empty)])] ?_ (fun k23 => ?_)
    · refine ap_all [4] (by kernel_rfl) ⟨?_, trivial⟩
      refine apo_ao rfl ?_
      refine ao_effS trivial (e_store rfl rfl rfl rfl Tryd.sizeOf33 rfl) ?_
      refine ao_nil ?_
      refine ap_in ?_
      exact ap_end (by kernel_rfl) (AQ.sub (sub_mk idn (by exact ⟨⟨_, rfl, ad_ren rfl⟩, ⟨_, rfl, ad_ren rfl⟩, trivial⟩) (by exact ⟨⟨_, rfl, ⟨ad_ren rfl, rfl, ad_ren rfl, rfl, ad_ren rfl, rfl, trivial⟩⟩, ⟨_, rfl, ⟨ad_ren rfl, rfl, ad_ren rfl, rfl, trivial⟩⟩, trivial⟩) (by rfl) (nk rfl)) key)
    refine ap_let (g := 2) (listed := #[true, true, true, false, false]) [(2, .ref 0 0), (3, .ref 1 0), (28, .v (.pair .str (.pair .str (.pair (.int .i64) .unit))) ((r1.1.1, (r1.1.2.1, (r1.1.2.2.1, ()))) : (ByteArray × (ByteArray × (Int × Unit))))), (30, .v (.pair .str (.pair .str .unit)) r19.1)] [(0, .var [.cell (.str ByteArray.empty), .cell (.str ByteArray.empty), .cell (.int .i64 0)]), (1, .var [.cell (.str ByteArray.empty), .cell (.str ByteArray.empty)])] ?_ (fun k22 => ?_)
    · refine ap_all [3] (by kernel_rfl) ⟨?_, trivial⟩
      refine apo_ao rfl ?_
      refine ao_effS trivial (e_store rfl rfl rfl rfl Tryd.sizeOf27 rfl) ?_
      refine ao_nil ?_
      refine ap_in ?_
      exact ap_go (by kernel_rfl) (sub_mk idn (by exact ⟨⟨_, rfl, ad_ren rfl⟩, ⟨_, rfl, ad_ren rfl⟩, ⟨_, rfl, ad_ren rfl⟩, trivial⟩) (by exact ⟨⟨_, rfl, ⟨ad_ren rfl, rfl, ad_ren rfl, rfl, ad_ren rfl, rfl, trivial⟩⟩, ⟨_, rfl, ⟨ad_ren rfl, rfl, ad_ren rfl, rfl, trivial⟩⟩, trivial⟩) (by rfl) (nk rfl)) k23
    refine ap_let (g := 3) (listed := #[true, true, false, false, false]) [(2, .ref 0 0), (3, .ref 1 0), (28, .v (.pair .str (.pair .str (.pair (.int .i64) .unit))) ((r1.1.1, (r1.1.2.1, (r1.1.2.2.1, ()))) : (ByteArray × (ByteArray × (Int × Unit))))), (29, .ref 2 0)] [(0, .var [.cell (.str ByteArray.empty), .cell (.str ByteArray.empty), .cell (.int .i64 0)]), (1, .var [.cell (.str ByteArray.empty), .cell (.str ByteArray.empty)]), (2, .var [.cell (.v (.slice (.int .u8)) x0), .cell (.int .i64 r2.2.1), .cell (.int .u64 r2.2.2)])] ?_ (fun k21 => ?_)
    · refine ap_all [2] (by kernel_rfl) ⟨?_, trivial⟩
      refine apo_ao rfl ?_
      refine ao_callV [2] 3 trivial (c_spec_l1Cur_logRecord (is_mk r19h)) Tryd.func33 rfl rfl rfl rfl rfl ⟨rfl, trivial⟩ ⟨⟨_, rfl, ⟨ad_ren rfl, rfl, ad_ren rfl, rfl, ad_ren rfl, rfl, trivial⟩⟩, trivial⟩ rfl rfl rfl rfl rfl rfl rfl (fun r' H' hr => ?_)
      obtain ⟨rfl, rfl⟩ := hr
      refine ao_norm (y := .v (.pair .str (.pair .str .unit)) r19.1) (H' := [(0, .var [.cell (.str ByteArray.empty), .cell (.str ByteArray.empty), .cell (.int .i64 0)]), (1, .var [.cell (.str ByteArray.empty), .cell (.str ByteArray.empty)]), (2, .var [.cell (.v (.slice (.int .u8)) x0), .cell (.int .i64 r19.2.1), .cell (.int .u64 r19.2.2)])]) rfl rfl ?_
      refine ao_nil ?_
      refine ap_in ?_
      exact ap_go (by kernel_rfl) (sub_mk idn (by exact ⟨⟨_, rfl, ad_ren rfl⟩, ⟨_, rfl, ad_ren rfl⟩, ⟨_, rfl, ad_ren rfl⟩, ⟨_, rfl, ad_ren rfl⟩, trivial⟩) (by exact ⟨⟨_, rfl, ⟨ad_ren rfl, rfl, ad_ren rfl, rfl, ad_ren rfl, rfl, trivial⟩⟩, ⟨_, rfl, ⟨ad_ren rfl, rfl, ad_ren rfl, rfl, trivial⟩⟩, trivial⟩) (by rfl) (nk rfl)) k22
    refine ap_let (g := 3) (listed := #[false, true, true, false, false]) [(2, .ref 0 0), (3, .ref 1 0), (5, .ref 2 0), (30, .v (.pair .str (.pair .str .unit)) r19.1)] [(0, .var [.cell (.str ByteArray.empty), .cell (.str ByteArray.empty), .cell (.int .i64 0)]), (1, .var [.cell (.str ByteArray.empty), .cell (.str ByteArray.empty)]), (2, .var [.cell (.str r1.1.1), .cell (.str r1.1.2.1), .cell (.int .i64 r1.1.2.2.1)])] ?_ (fun k24 => ?_)
    · refine ap_all [0] (by kernel_rfl) ⟨?_, trivial⟩
      refine apo_ao rfl ?_
      refine ao_read trivial (r_load_part (τ := (.pair .str (.pair .str (.pair (.int .i64) .unit)))) (y := ((r1.1.1, (r1.1.2.1, (r1.1.2.2.1, ()))) : (ByteArray × (ByteArray × (Int × Unit))))) [] [] rfl Tryd.isAgg27 Tryd.sizeOf27 rfl rfl rfl rfl) rfl ?_
      refine ao_nil ?_
      refine ap_in ?_
      exact ap_go (by kernel_rfl) (sub_mk idn (by exact ⟨⟨_, rfl, ad_ren rfl⟩, ⟨_, rfl, ad_ren rfl⟩, ⟨_, rfl, ad_ren rfl⟩, ⟨_, rfl, ad_ren rfl⟩, trivial⟩) (by exact ⟨⟨_, rfl, ⟨ad_ren rfl, rfl, ad_ren rfl, rfl, ad_ren rfl, rfl, trivial⟩⟩, ⟨_, rfl, ⟨ad_ren rfl, rfl, ad_ren rfl, rfl, trivial⟩⟩, trivial⟩) (by rfl) (nk rfl)) k22
    refine ap_let (g := 4) (listed := #[false, true, false, false, false]) [(2, .ref 0 0), (3, .ref 1 0), (5, .ref 2 0), (29, .ref 3 0)] [(0, .var [.cell (.str ByteArray.empty), .cell (.str ByteArray.empty), .cell (.int .i64 0)]), (1, .var [.cell (.str ByteArray.empty), .cell (.str ByteArray.empty)]), (2, .var [.cell (.str r1.1.1), .cell (.str r1.1.2.1), .cell (.int .i64 r1.1.2.2.1)]), (3, .var [.cell (.v (.slice (.int .u8)) x0), .cell (.int .i64 r2.2.1), .cell (.int .u64 r2.2.2)])] ?_ (fun k20 => ?_)
    · refine ap_all [0, 2] (by kernel_rfl) ⟨?_, ?_, trivial⟩
      · refine apo_ao rfl ?_
        refine ao_read trivial (r_load_part (τ := (.pair .str (.pair .str (.pair (.int .i64) .unit)))) (y := ((r1.1.1, (r1.1.2.1, (r1.1.2.2.1, ()))) : (ByteArray × (ByteArray × (Int × Unit))))) [] [] rfl Tryd.isAgg27 Tryd.sizeOf27 rfl rfl rfl rfl) rfl ?_
        refine ao_nil ?_
        refine ap_in ?_
        exact ap_go (by kernel_rfl) (sub_mk (rn [(2, 3)]) (by exact ⟨⟨_, rfl, ad_ren rfl⟩, ⟨_, rfl, ad_ren rfl⟩, ⟨_, rfl, ad_ren rfl⟩, ⟨_, rfl, ad_ren rfl⟩, trivial⟩) (by exact ⟨⟨_, rfl, ⟨ad_ren rfl, rfl, ad_ren rfl, rfl, ad_ren rfl, rfl, trivial⟩⟩, ⟨_, rfl, ⟨ad_ren rfl, rfl, ad_ren rfl, rfl, trivial⟩⟩, ⟨_, rfl, ⟨ad_ren rfl, rfl, ad_ren rfl, rfl, ad_ren rfl, rfl, trivial⟩⟩, trivial⟩) (by rfl) (nk rfl)) k21
      · refine apo_ao rfl ?_
        refine ao_callV [3] 4 trivial (c_spec_l1Cur_logRecord (is_mk r19h)) Tryd.func33 rfl rfl rfl rfl rfl ⟨rfl, trivial⟩ ⟨⟨_, rfl, ⟨ad_ren rfl, rfl, ad_ren rfl, rfl, ad_ren rfl, rfl, trivial⟩⟩, trivial⟩ rfl rfl rfl rfl rfl rfl rfl (fun r' H' hr => ?_)
        obtain ⟨rfl, rfl⟩ := hr
        refine ao_norm (y := .v (.pair .str (.pair .str .unit)) r19.1) (H' := [(0, .var [.cell (.str ByteArray.empty), .cell (.str ByteArray.empty), .cell (.int .i64 0)]), (1, .var [.cell (.str ByteArray.empty), .cell (.str ByteArray.empty)]), (2, .var [.cell (.str r1.1.1), .cell (.str r1.1.2.1), .cell (.int .i64 r1.1.2.2.1)]), (3, .var [.cell (.v (.slice (.int .u8)) x0), .cell (.int .i64 r19.2.1), .cell (.int .u64 r19.2.2)])]) rfl rfl ?_
        refine ao_nil ?_
        refine ap_in ?_
        exact ap_go (by kernel_rfl) (sub_mk idn (by exact ⟨⟨_, rfl, ad_ren rfl⟩, ⟨_, rfl, ad_ren rfl⟩, ⟨_, rfl, ad_ren rfl⟩, ⟨_, rfl, ad_ren rfl⟩, trivial⟩) (by exact ⟨⟨_, rfl, ⟨ad_ren rfl, rfl, ad_ren rfl, rfl, ad_ren rfl, rfl, trivial⟩⟩, ⟨_, rfl, ⟨ad_ren rfl, rfl, ad_ren rfl, rfl, trivial⟩⟩, ⟨_, rfl, ⟨ad_ren rfl, rfl, ad_ren rfl, rfl, ad_ren rfl, rfl, trivial⟩⟩, trivial⟩) (by rfl) (nk rfl)) k24
    refine ap_pure 1 (by kernel_rfl) (fun _ _ _ h => h) rfl (by kernel_rfl) trivial (rp_move rfl) rfl ?_
    exact ap_go (by kernel_rfl) (sub_mk (rn [(2, 3), (3, 2)]) (by exact ⟨⟨_, rfl, ad_ren rfl⟩, ⟨_, rfl, ad_ren rfl⟩, ⟨_, rfl, ad_ren rfl⟩, ⟨_, rfl, ad_ren rfl⟩, trivial⟩) (by exact ⟨⟨_, rfl, ⟨ad_ren rfl, rfl, ad_ren rfl, rfl, ad_ren rfl, rfl, trivial⟩⟩, ⟨_, rfl, ⟨ad_ren rfl, rfl, ad_ren rfl, rfl, trivial⟩⟩, ⟨_, rfl, ⟨ad_ren rfl, rfl, ad_ren rfl, rfl, ad_ren rfl, rfl, trivial⟩⟩, ⟨_, rfl, ⟨ad_ren rfl, rfl, ad_ren rfl, rfl, ad_ren rfl, rfl, trivial⟩⟩, trivial⟩) (by rfl) (nk rfl)) k20
theorem c_strings_Lines {x0 : ByteArray} {r : ByteArray} (h : Is (p_strings_Lines x0) r) :
    ACalls Tryd.prog 63 [.str x0] [] (fun r' H' => r' = .fn 71 [.ref 0 0] ∧ H' = [(0, .var [.cell (.str r)])]) := by
  unfold p_strings_Lines at h
  refine ac_enter ⟨4, 0⟩ Tryd.func63 rfl rfl rfl rfl rfl (fun Γ => ?_)
  refine aw_seq ?_
  refine aw_region ?_
  refine ao_eff trivial (e_box 0 rfl rfl rfl rfl rfl rfl) rfl ?_
  refine ao_read trivial (r_assign rfl) rfl ?_
  refine ao_nil ?_
  refine aq_then ?_
  refine aw_seq ?_
  refine aw_region ?_
  refine ao_read trivial (r_makeFunc (cs := [.tmp 1]) rfl) rfl ?_
  refine ao_read trivial (r_assign rfl) rfl ?_
  refine ao_nil ?_
  refine aq_then ?_
  refine aw_ret ?_
  refine aq_ret ?_
  obtain rfl := is_eq h
  exact aq_finx (l := [.tmp 2]) (xs := [.fn 71 [.ref 0 0]]) idn [.fn 71 [.ref 0 0]] [(0, .var [.cell (.str x0)])] rfl (by exact ⟨rfl, trivial⟩) (by exact ⟨ad_ren rfl, trivial⟩) (by exact ⟨⟨_, rfl, ⟨ad_ren rfl, rfl, trivial⟩⟩, trivial⟩) rfl (nk rfl) rfl rfl ⟨rfl, rfl⟩
theorem c_strings_IndexByte {x0 : ByteArray} {x1 : Int} {r : Int} (h : Is (p_strings_IndexByte x0 x1) r) :
    Scalar Tryd.prog 72 [.str x0, .int .u8 x1] (.int .i64 r) := by
  unfold p_strings_IndexByte at h
  refine ac_enter ⟨8, 0⟩ Tryd.func72 rfl rfl rfl rfl rfl (fun Γ => ?_)
  refine aw_seq ?_
  refine aw_region ?_
  refine ao_read trivial (r_assign rfl) rfl ?_
  refine ao_nil ?_
  refine aq_then ?_
  refine aw_seq ?_
  refine aw_region ?_
  refine ao_read trivial (r_move rfl) rfl ?_
  refine ao_read trivial (r_move rfl) rfl ?_
  refine ao_scall trivial (scall (c_internal_stringslite_IndexByte (is_mk (rfl : p_internal_stringslite_IndexByte x0 x1 = _))) rfl Tryd.func80 rfl rfl rfl rfl (fun σ => ⟨ad_ren rfl, ad_ren rfl, trivial⟩)) rfl ?_
  refine ao_read trivial (r_assign rfl) rfl ?_
  refine ao_nil ?_
  refine aq_then ?_
  refine aw_ret ?_
  refine aq_ret ?_
  obtain rfl := is_eq h
  exact aq_finx (l := [.tmp 4]) (xs := [.int .i64 (p_internal_stringslite_IndexByte x0 x1)]) idn [.int .i64 (p_internal_stringslite_IndexByte x0 x1)] [] rfl (by exact ⟨rfl, trivial⟩) (by exact ⟨ad_ren rfl, trivial⟩) (by exact trivial) rfl (nk rfl) rfl rfl ⟨rfl, rfl⟩
theorem c_internal_stringslite_Cut {x0 : ByteArray} {r : ByteArray × ByteArray × Bool} (h : Is (p_internal_stringslite_Cut x0) (some r)) :
    Scalar Tryd.prog 81 [.str x0, .str (ByteArray.mk #[35])] (.tup [.str r.1, .str r.2.1, .bool r.2.2]) := by
  unfold p_internal_stringslite_Cut at h
  refine ac_enter ⟨23, 0⟩ Tryd.func81 rfl rfl rfl rfl rfl (fun Γ => ?_)
  obtain ⟨gs0, h⟩ := is_guard h
  refine aw_seq ?_
  refine aw_region ?_
  refine ao_read trivial (r_assign rfl) rfl ?_
  refine ao_read trivial (r_assign rfl) rfl ?_
  refine ao_read trivial (r_assign rfl) rfl ?_
  refine ao_nil ?_
  refine aq_then ?_
  refine aw_seq ?_
  refine aw_seq ?_
  refine aw_region ?_
  refine ao_read trivial (r_move rfl) rfl ?_
  refine ao_read trivial (r_move rfl) rfl ?_
  refine ao_scall trivial (scall (c_internal_stringslite_Indexv1 (is_mk (rfl : p_internal_stringslite_Indexv1 x0 = _))) rfl Tryd.func74 rfl rfl rfl rfl (fun σ => ⟨ad_ren rfl, ad_ren rfl, trivial⟩)) rfl ?_
  refine ao_read trivial (r_assign rfl) rfl ?_
  refine ao_nil ?_
  refine aq_then ?_
  refine aw_seq ?_
  refine aw_region ?_
  refine ao_read trivial (r_move rfl) rfl ?_
  refine ao_read trivial (r_geq rfl rfl) rfl ?_
  refine ao_nil ?_
  refine aq_then ?_
  refine aw_cond rfl (fun hb1 => ?_) (fun hb1 => ?_)
  · have q2 := d_t hb1
    replace h := is_if (d_t hb1) h
    refine aw_seq ?_
    obtain ⟨g4, h⟩ := is_guard h
    obtain ⟨g5, h⟩ := is_guard h
    obtain ⟨g6, h⟩ := is_guard h
    refine aw_drawAll (by kernel_rfl) ?_
    refine an_read 0 (by kernel_rfl) (fun _ _ _ h => h) rfl (by kernel_rfl) trivial (r_move rfl) rfl ?_
    refine an_read 1 (by kernel_rfl) (fun _ _ _ h => h) rfl (by kernel_rfl) trivial (r_move rfl) rfl ?_
    refine an_read 2 (by kernel_rfl) (fun _ _ _ h => h) rfl (by kernel_rfl) trivial (r_slice_str Tryd.underlying9 rfl .none (.some rfl) (show 0 ≤ 0 from by omega) (show 0 ≤ (p_internal_stringslite_Indexv1 x0) from by omega) (show (p_internal_stringslite_Indexv1 x0) ≤ (x0.size : Int) from by omega)) rfl ?_
    refine an_read 3 (by kernel_rfl) (fun _ _ _ h => h) rfl (by kernel_rfl) trivial (r_move rfl) rfl ?_
    refine an_read 4 (by kernel_rfl) (fun _ _ _ h => h) rfl (by kernel_rfl) trivial (r_move rfl) rfl ?_
    refine an_read 5 (by kernel_rfl) (fun _ _ _ h => h) rfl (by kernel_rfl) trivial (r_move rfl) rfl ?_
    refine an_read 6 (by kernel_rfl) (fun _ _ _ h => h) rfl (by kernel_rfl) trivial (r_len_str Tryd.underlying9 rfl) rfl ?_
    refine an_read 7 (by kernel_rfl) (fun _ _ _ h => h) rfl (by kernel_rfl) trivial (r_add rfl rfl) rfl ?_
    refine an_read 8 (by kernel_rfl) (fun _ _ _ h => h) rfl (by kernel_rfl) trivial (r_slice_str Tryd.underlying9 rfl (.some rfl) .none (show 0 ≤ (IntKind.wrap .i64 ((p_internal_stringslite_Indexv1 x0) + ((ByteArray.mk #[35]).size : Int))) from by (try simp only [List.length_cons, List.length_nil]) <;> omega) (show (IntKind.wrap .i64 ((p_internal_stringslite_Indexv1 x0) + ((ByteArray.mk #[35]).size : Int))) ≤ (x0.size : Int) from by (try simp only [List.length_cons, List.length_nil]) <;> omega) (show (x0.size : Int) ≤ (x0.size : Int) from by omega)) rfl ?_
    refine an_read 9 (by kernel_rfl) (fun _ _ _ h => h) rfl (by kernel_rfl) trivial (r_assign rfl) rfl ?_
    refine an_read 10 (by kernel_rfl) (fun _ _ _ h => h) rfl (by kernel_rfl) trivial (r_assign rfl) rfl ?_
    refine an_read 11 (by kernel_rfl) (fun _ _ _ h => h) rfl (by kernel_rfl) trivial (r_assign rfl) rfl ?_
    refine an_done rfl ?_
    refine aq_then ?_
    refine aw_ret ?_
    refine aq_then_ret ?_
    refine aq_ret ?_
    obtain rfl := is_some h
    exact aq_finx (l := [.tmp 4, .tmp 5, .tmp 6]) (xs := [.str (x0.extract 0 (p_internal_stringslite_Indexv1 x0).toNat), .str (x0.extract (IntKind.wrap .i64 ((p_internal_stringslite_Indexv1 x0) + ((ByteArray.mk #[35]).size : Int))).toNat ((x0.size : Int)).toNat), .bool true]) idn [.str (x0.extract 0 (p_internal_stringslite_Indexv1 x0).toNat), .str (x0.extract (IntKind.wrap .i64 ((p_internal_stringslite_Indexv1 x0) + ((ByteArray.mk #[35]).size : Int))).toNat ((x0.size : Int)).toNat), .bool true] [] rfl (by exact ⟨rfl, rfl, rfl, trivial⟩) (by exact ⟨ad_ren rfl, ad_ren rfl, ad_ren rfl, trivial⟩) (by exact trivial) rfl (nk rfl) rfl rfl ⟨rfl, rfl⟩
  · have q3 := d_f hb1
    replace h := is_else (d_f hb1) h
    refine aw_skip ?_
    refine aq_then ?_
    refine aw_seq ?_
    refine aw_region ?_
    refine ao_read trivial (r_move rfl) rfl ?_
    refine ao_read trivial (r_assign rfl) rfl ?_
    refine ao_read trivial (r_assign rfl) rfl ?_
    refine ao_read trivial (r_assign rfl) rfl ?_
    refine ao_nil ?_
    refine aq_then ?_
    refine aw_ret ?_
    refine aq_ret ?_
    obtain rfl := is_some h
    exact aq_finx (l := [.tmp 4, .tmp 5, .tmp 6]) (xs := [.str x0, .str (ByteArray.mk #[]), .bool false]) idn [.str x0, .str (ByteArray.mk #[]), .bool false] [] rfl (by exact ⟨rfl, rfl, rfl, trivial⟩) (by exact ⟨ad_ren rfl, ad_ren rfl, ad_ren rfl, trivial⟩) (by exact trivial) rfl (nk rfl) rfl rfl ⟨rfl, rfl⟩
theorem c_strings_Cut {x0 : ByteArray} {r : ByteArray × ByteArray × Bool} (h : Is (p_strings_Cut x0) (some r)) :
    Scalar Tryd.prog 73 [.str x0, .str (ByteArray.mk #[35])] (.tup [.str r.1, .str r.2.1, .bool r.2.2]) := by
  unfold p_strings_Cut at h
  refine ac_enter ⟨13, 0⟩ Tryd.func73 rfl rfl rfl rfl rfl (fun Γ => ?_)
  obtain ⟨gs0, h⟩ := is_guard h
  refine aw_seq ?_
  refine aw_region ?_
  refine ao_read trivial (r_assign rfl) rfl ?_
  refine ao_read trivial (r_assign rfl) rfl ?_
  refine ao_read trivial (r_assign rfl) rfl ?_
  refine ao_nil ?_
  refine aq_then ?_
  refine aw_seq ?_
  refine aw_region ?_
  refine ao_read trivial (r_move rfl) rfl ?_
  refine ao_read trivial (r_move rfl) rfl ?_
  obtain ⟨r1, r1h, h⟩ := is_bind h
  refine ao_scall trivial (scall (c_internal_stringslite_Cut (is_mk r1h)) rfl Tryd.func81 rfl rfl rfl rfl (fun σ => ⟨ad_ren rfl, ad_ren rfl, trivial⟩)) rfl ?_
  refine ao_read trivial (r_extract rfl rfl) rfl ?_
  refine ao_read trivial (r_extract rfl rfl) rfl ?_
  refine ao_read trivial (r_extract rfl rfl) rfl ?_
  refine ao_read trivial (r_assign rfl) rfl ?_
  refine ao_read trivial (r_assign rfl) rfl ?_
  refine ao_read trivial (r_assign rfl) rfl ?_
  refine ao_nil ?_
  refine aq_then ?_
  refine aw_ret ?_
  refine aq_ret ?_
  obtain rfl := is_some h
  exact aq_finx (l := [.tmp 4, .tmp 5, .tmp 6]) (xs := [.str r1.1, .str r1.2.1, .bool r1.2.2]) idn [.str r1.1, .str r1.2.1, .bool r1.2.2] [] rfl (by exact ⟨rfl, rfl, rfl, trivial⟩) (by exact ⟨ad_ren rfl, ad_ren rfl, ad_ren rfl, trivial⟩) (by exact trivial) rfl (nk rfl) rfl rfl ⟨rfl, rfl⟩
theorem c_internal_stringslite_Indexv2 {x0 : ByteArray} {r : Int} (h : Is (p_internal_stringslite_Indexv2 x0) r) :
    Scalar Tryd.prog 74 [.str x0, .str (ByteArray.mk #[32])] (.int .i64 r) := by
  unfold p_internal_stringslite_Indexv2 at h
  refine ac_enter ⟨143, 0⟩ Tryd.func74 rfl rfl rfl rfl rfl (fun Γ => ?_)
  refine aw_seq ?_
  refine aw_region ?_
  refine ao_read trivial (r_assign rfl) rfl ?_
  refine ao_nil ?_
  refine aq_then ?_
  refine aw_seq ?_
  refine aw_region ?_
  refine ao_read trivial (r_move rfl) rfl ?_
  refine ao_read trivial (r_len_str Tryd.underlying9 rfl) rfl ?_
  refine ao_read trivial (r_assign rfl) rfl ?_
  refine ao_nil ?_
  refine aq_then ?_
  refine aw_seq ?_
  refine aw_block ?_
  refine aw_seq ?_
  refine aw_region ?_
  refine ao_read trivial (r_move rfl) rfl ?_
  refine ao_read trivial (r_eql rfl rfl) rfl ?_
  refine ao_read trivial (r_move rfl) rfl ?_
  refine ao_readG (x := .str (ByteArray.mk #[32])) rfl (GV.F rfl) (fun hg1 => by
        have q2 := d_f (not_t hg1)
        exact r_move rfl) rfl ?_
  refine ao_readG (x := .str x0) rfl (GV.F rfl) (fun hg3 => by
        have q4 := d_f (not_t hg3)
        exact r_move rfl) rfl ?_
  refine ao_readG (x := .bool (eqS (ByteArray.mk #[32]) x0)) rfl (GV.F rfl) (fun hg5 => by
        have q6 := d_f (not_t hg5)
        exact Reads.strip 20 rfl (hg5) (Reads.strip 21 rfl (hg5) (r_eql_str rfl rfl))) rfl ?_
  refine ao_read trivial (r_orB rfl rfl) rfl ?_
  refine ao_read trivial (r_assign rfl) rfl ?_
  refine ao_nil ?_
  refine aq_then ?_
  refine aw_cond rfl (fun hb7 => ?_) (fun hb7 => ?_)
  · replace h := is_if hb7 h
    refine aw_seq ?_
    refine aw_region ?_
    refine ao_read trivial (r_assign rfl) rfl ?_
    refine ao_nil ?_
    refine aq_then ?_
    refine aw_ret ?_
    refine aq_in_ret ?_
    refine aq_then_ret ?_
    refine aq_ret ?_
    obtain rfl := is_eq h
    exact aq_finx (l := [.tmp 4]) (xs := [.int .i64 0]) idn [.int .i64 0] [] rfl (by exact ⟨rfl, trivial⟩) (by exact ⟨ad_ren rfl, trivial⟩) (by exact trivial) rfl (nk rfl) rfl rfl ⟨rfl, rfl⟩
  · obtain ⟨q8, q9⟩ := or_f hb7
    have q10 := d_f q8
    replace h := is_else (ne_t hb7) h
    refine aw_seq ?_
    refine aw_region ?_
    refine ao_read trivial (r_move rfl) rfl ?_
    refine ao_read trivial (r_eql rfl rfl) rfl ?_
    refine ao_read trivial (r_assign rfl) rfl ?_
    refine ao_nil ?_
    refine aq_then ?_
    refine aw_cond rfl (fun _ => ?_) (fun hb => absurd hb (by decide))
    refine aw_seq ?_
    refine aw_region ?_
    refine ao_read trivial (r_move rfl) rfl ?_
    refine ao_read trivial (r_move rfl) rfl ?_
    refine ao_read trivial (r_index_str Tryd.underlying9 rfl rfl (by decide) (by decide)) rfl ?_
    refine ao_scall trivial (scall (c_internal_stringslite_IndexByte (is_mk (rfl : p_internal_stringslite_IndexByte x0 (((ByteArray.mk #[32]).data.toList.getD 0 0).toNat : Int) = _))) rfl Tryd.func80 rfl rfl rfl rfl (fun σ => ⟨ad_ren rfl, ad_ren rfl, trivial⟩)) rfl ?_
    refine ao_read trivial (r_assign rfl) rfl ?_
    refine ao_nil ?_
    refine aq_then ?_
    refine aw_ret ?_
    refine aq_in_ret ?_
    refine aq_then_ret ?_
    refine aq_ret ?_
    obtain rfl := is_eq h
    exact aq_finx (l := [.tmp 4]) (xs := [.int .i64 (p_internal_stringslite_IndexByte x0 (((ByteArray.mk #[32]).data.toList.getD 0 0).toNat : Int))]) idn [.int .i64 (p_internal_stringslite_IndexByte x0 (((ByteArray.mk #[32]).data.toList.getD 0 0).toNat : Int))] [] rfl (by exact ⟨rfl, trivial⟩) (by exact ⟨ad_ren rfl, trivial⟩) (by exact trivial) rfl (nk rfl) rfl rfl ⟨rfl, rfl⟩
theorem c_internal_stringslite_Cutv1 {x0 : ByteArray} {r : ByteArray × ByteArray × Bool} (h : Is (p_internal_stringslite_Cutv1 x0) (some r)) :
    Scalar Tryd.prog 81 [.str x0, .str (ByteArray.mk #[32])] (.tup [.str r.1, .str r.2.1, .bool r.2.2]) := by
  unfold p_internal_stringslite_Cutv1 at h
  refine ac_enter ⟨23, 0⟩ Tryd.func81 rfl rfl rfl rfl rfl (fun Γ => ?_)
  obtain ⟨gs0, h⟩ := is_guard h
  refine aw_seq ?_
  refine aw_region ?_
  refine ao_read trivial (r_assign rfl) rfl ?_
  refine ao_read trivial (r_assign rfl) rfl ?_
  refine ao_read trivial (r_assign rfl) rfl ?_
  refine ao_nil ?_
  refine aq_then ?_
  refine aw_seq ?_
  refine aw_seq ?_
  refine aw_region ?_
  refine ao_read trivial (r_move rfl) rfl ?_
  refine ao_read trivial (r_move rfl) rfl ?_
  refine ao_scall trivial (scall (c_internal_stringslite_Indexv2 (is_mk (rfl : p_internal_stringslite_Indexv2 x0 = _))) rfl Tryd.func74 rfl rfl rfl rfl (fun σ => ⟨ad_ren rfl, ad_ren rfl, trivial⟩)) rfl ?_
  refine ao_read trivial (r_assign rfl) rfl ?_
  refine ao_nil ?_
  refine aq_then ?_
  refine aw_seq ?_
  refine aw_region ?_
  refine ao_read trivial (r_move rfl) rfl ?_
  refine ao_read trivial (r_geq rfl rfl) rfl ?_
  refine ao_nil ?_
  refine aq_then ?_
  refine aw_cond rfl (fun hb1 => ?_) (fun hb1 => ?_)
  · have q2 := d_t hb1
    replace h := is_if (d_t hb1) h
    refine aw_seq ?_
    obtain ⟨g4, h⟩ := is_guard h
    obtain ⟨g5, h⟩ := is_guard h
    obtain ⟨g6, h⟩ := is_guard h
    refine aw_drawAll (by kernel_rfl) ?_
    refine an_read 0 (by kernel_rfl) (fun _ _ _ h => h) rfl (by kernel_rfl) trivial (r_move rfl) rfl ?_
    refine an_read 1 (by kernel_rfl) (fun _ _ _ h => h) rfl (by kernel_rfl) trivial (r_move rfl) rfl ?_
    refine an_read 2 (by kernel_rfl) (fun _ _ _ h => h) rfl (by kernel_rfl) trivial (r_slice_str Tryd.underlying9 rfl .none (.some rfl) (show 0 ≤ 0 from by omega) (show 0 ≤ (p_internal_stringslite_Indexv2 x0) from by omega) (show (p_internal_stringslite_Indexv2 x0) ≤ (x0.size : Int) from by omega)) rfl ?_
    refine an_read 3 (by kernel_rfl) (fun _ _ _ h => h) rfl (by kernel_rfl) trivial (r_move rfl) rfl ?_
    refine an_read 4 (by kernel_rfl) (fun _ _ _ h => h) rfl (by kernel_rfl) trivial (r_move rfl) rfl ?_
    refine an_read 5 (by kernel_rfl) (fun _ _ _ h => h) rfl (by kernel_rfl) trivial (r_move rfl) rfl ?_
    refine an_read 6 (by kernel_rfl) (fun _ _ _ h => h) rfl (by kernel_rfl) trivial (r_len_str Tryd.underlying9 rfl) rfl ?_
    refine an_read 7 (by kernel_rfl) (fun _ _ _ h => h) rfl (by kernel_rfl) trivial (r_add rfl rfl) rfl ?_
    refine an_read 8 (by kernel_rfl) (fun _ _ _ h => h) rfl (by kernel_rfl) trivial (r_slice_str Tryd.underlying9 rfl (.some rfl) .none (show 0 ≤ (IntKind.wrap .i64 ((p_internal_stringslite_Indexv2 x0) + ((ByteArray.mk #[32]).size : Int))) from by (try simp only [List.length_cons, List.length_nil]) <;> omega) (show (IntKind.wrap .i64 ((p_internal_stringslite_Indexv2 x0) + ((ByteArray.mk #[32]).size : Int))) ≤ (x0.size : Int) from by (try simp only [List.length_cons, List.length_nil]) <;> omega) (show (x0.size : Int) ≤ (x0.size : Int) from by omega)) rfl ?_
    refine an_read 9 (by kernel_rfl) (fun _ _ _ h => h) rfl (by kernel_rfl) trivial (r_assign rfl) rfl ?_
    refine an_read 10 (by kernel_rfl) (fun _ _ _ h => h) rfl (by kernel_rfl) trivial (r_assign rfl) rfl ?_
    refine an_read 11 (by kernel_rfl) (fun _ _ _ h => h) rfl (by kernel_rfl) trivial (r_assign rfl) rfl ?_
    refine an_done rfl ?_
    refine aq_then ?_
    refine aw_ret ?_
    refine aq_then_ret ?_
    refine aq_ret ?_
    obtain rfl := is_some h
    exact aq_finx (l := [.tmp 4, .tmp 5, .tmp 6]) (xs := [.str (x0.extract 0 (p_internal_stringslite_Indexv2 x0).toNat), .str (x0.extract (IntKind.wrap .i64 ((p_internal_stringslite_Indexv2 x0) + ((ByteArray.mk #[32]).size : Int))).toNat ((x0.size : Int)).toNat), .bool true]) idn [.str (x0.extract 0 (p_internal_stringslite_Indexv2 x0).toNat), .str (x0.extract (IntKind.wrap .i64 ((p_internal_stringslite_Indexv2 x0) + ((ByteArray.mk #[32]).size : Int))).toNat ((x0.size : Int)).toNat), .bool true] [] rfl (by exact ⟨rfl, rfl, rfl, trivial⟩) (by exact ⟨ad_ren rfl, ad_ren rfl, ad_ren rfl, trivial⟩) (by exact trivial) rfl (nk rfl) rfl rfl ⟨rfl, rfl⟩
  · have q3 := d_f hb1
    replace h := is_else (d_f hb1) h
    refine aw_skip ?_
    refine aq_then ?_
    refine aw_seq ?_
    refine aw_region ?_
    refine ao_read trivial (r_move rfl) rfl ?_
    refine ao_read trivial (r_assign rfl) rfl ?_
    refine ao_read trivial (r_assign rfl) rfl ?_
    refine ao_read trivial (r_assign rfl) rfl ?_
    refine ao_nil ?_
    refine aq_then ?_
    refine aw_ret ?_
    refine aq_ret ?_
    obtain rfl := is_some h
    exact aq_finx (l := [.tmp 4, .tmp 5, .tmp 6]) (xs := [.str x0, .str (ByteArray.mk #[]), .bool false]) idn [.str x0, .str (ByteArray.mk #[]), .bool false] [] rfl (by exact ⟨rfl, rfl, rfl, trivial⟩) (by exact ⟨ad_ren rfl, ad_ren rfl, ad_ren rfl, trivial⟩) (by exact trivial) rfl (nk rfl) rfl rfl ⟨rfl, rfl⟩
theorem c_strings_Cutv1 {x0 : ByteArray} {r : ByteArray × ByteArray × Bool} (h : Is (p_strings_Cutv1 x0) (some r)) :
    Scalar Tryd.prog 73 [.str x0, .str (ByteArray.mk #[32])] (.tup [.str r.1, .str r.2.1, .bool r.2.2]) := by
  unfold p_strings_Cutv1 at h
  refine ac_enter ⟨13, 0⟩ Tryd.func73 rfl rfl rfl rfl rfl (fun Γ => ?_)
  obtain ⟨gs0, h⟩ := is_guard h
  refine aw_seq ?_
  refine aw_region ?_
  refine ao_read trivial (r_assign rfl) rfl ?_
  refine ao_read trivial (r_assign rfl) rfl ?_
  refine ao_read trivial (r_assign rfl) rfl ?_
  refine ao_nil ?_
  refine aq_then ?_
  refine aw_seq ?_
  refine aw_region ?_
  refine ao_read trivial (r_move rfl) rfl ?_
  refine ao_read trivial (r_move rfl) rfl ?_
  obtain ⟨r1, r1h, h⟩ := is_bind h
  refine ao_scall trivial (scall (c_internal_stringslite_Cutv1 (is_mk r1h)) rfl Tryd.func81 rfl rfl rfl rfl (fun σ => ⟨ad_ren rfl, ad_ren rfl, trivial⟩)) rfl ?_
  refine ao_read trivial (r_extract rfl rfl) rfl ?_
  refine ao_read trivial (r_extract rfl rfl) rfl ?_
  refine ao_read trivial (r_extract rfl rfl) rfl ?_
  refine ao_read trivial (r_assign rfl) rfl ?_
  refine ao_read trivial (r_assign rfl) rfl ?_
  refine ao_read trivial (r_assign rfl) rfl ?_
  refine ao_nil ?_
  refine aq_then ?_
  refine aw_ret ?_
  refine aq_ret ?_
  obtain rfl := is_some h
  exact aq_finx (l := [.tmp 4, .tmp 5, .tmp 6]) (xs := [.str r1.1, .str r1.2.1, .bool r1.2.2]) idn [.str r1.1, .str r1.2.1, .bool r1.2.2] [] rfl (by exact ⟨rfl, rfl, rfl, trivial⟩) (by exact ⟨ad_ren rfl, ad_ren rfl, ad_ren rfl, trivial⟩) (by exact trivial) rfl (nk rfl) rfl rfl ⟨rfl, rfl⟩
theorem c_internal_stringslite_Cutv2 {x0 : ByteArray} {r : ByteArray × ByteArray × Bool} (h : Is (p_internal_stringslite_Cutv2 x0) (some r)) :
    Scalar Tryd.prog 81 [.str x0, .str (ByteArray.mk #[64])] (.tup [.str r.1, .str r.2.1, .bool r.2.2]) := by
  unfold p_internal_stringslite_Cutv2 at h
  refine ac_enter ⟨23, 0⟩ Tryd.func81 rfl rfl rfl rfl rfl (fun Γ => ?_)
  obtain ⟨gs0, h⟩ := is_guard h
  refine aw_seq ?_
  refine aw_region ?_
  refine ao_read trivial (r_assign rfl) rfl ?_
  refine ao_read trivial (r_assign rfl) rfl ?_
  refine ao_read trivial (r_assign rfl) rfl ?_
  refine ao_nil ?_
  refine aq_then ?_
  refine aw_seq ?_
  refine aw_seq ?_
  refine aw_region ?_
  refine ao_read trivial (r_move rfl) rfl ?_
  refine ao_read trivial (r_move rfl) rfl ?_
  refine ao_scall trivial (scall (c_internal_stringslite_Index (is_mk (rfl : p_internal_stringslite_Index x0 = _))) rfl Tryd.func74 rfl rfl rfl rfl (fun σ => ⟨ad_ren rfl, ad_ren rfl, trivial⟩)) rfl ?_
  refine ao_read trivial (r_assign rfl) rfl ?_
  refine ao_nil ?_
  refine aq_then ?_
  refine aw_seq ?_
  refine aw_region ?_
  refine ao_read trivial (r_move rfl) rfl ?_
  refine ao_read trivial (r_geq rfl rfl) rfl ?_
  refine ao_nil ?_
  refine aq_then ?_
  refine aw_cond rfl (fun hb1 => ?_) (fun hb1 => ?_)
  · have q2 := d_t hb1
    replace h := is_if (d_t hb1) h
    refine aw_seq ?_
    obtain ⟨g4, h⟩ := is_guard h
    obtain ⟨g5, h⟩ := is_guard h
    obtain ⟨g6, h⟩ := is_guard h
    refine aw_drawAll (by kernel_rfl) ?_
    refine an_read 0 (by kernel_rfl) (fun _ _ _ h => h) rfl (by kernel_rfl) trivial (r_move rfl) rfl ?_
    refine an_read 1 (by kernel_rfl) (fun _ _ _ h => h) rfl (by kernel_rfl) trivial (r_move rfl) rfl ?_
    refine an_read 2 (by kernel_rfl) (fun _ _ _ h => h) rfl (by kernel_rfl) trivial (r_slice_str Tryd.underlying9 rfl .none (.some rfl) (show 0 ≤ 0 from by omega) (show 0 ≤ (p_internal_stringslite_Index x0) from by omega) (show (p_internal_stringslite_Index x0) ≤ (x0.size : Int) from by omega)) rfl ?_
    refine an_read 3 (by kernel_rfl) (fun _ _ _ h => h) rfl (by kernel_rfl) trivial (r_move rfl) rfl ?_
    refine an_read 4 (by kernel_rfl) (fun _ _ _ h => h) rfl (by kernel_rfl) trivial (r_move rfl) rfl ?_
    refine an_read 5 (by kernel_rfl) (fun _ _ _ h => h) rfl (by kernel_rfl) trivial (r_move rfl) rfl ?_
    refine an_read 6 (by kernel_rfl) (fun _ _ _ h => h) rfl (by kernel_rfl) trivial (r_len_str Tryd.underlying9 rfl) rfl ?_
    refine an_read 7 (by kernel_rfl) (fun _ _ _ h => h) rfl (by kernel_rfl) trivial (r_add rfl rfl) rfl ?_
    refine an_read 8 (by kernel_rfl) (fun _ _ _ h => h) rfl (by kernel_rfl) trivial (r_slice_str Tryd.underlying9 rfl (.some rfl) .none (show 0 ≤ (IntKind.wrap .i64 ((p_internal_stringslite_Index x0) + ((ByteArray.mk #[64]).size : Int))) from by (try simp only [List.length_cons, List.length_nil]) <;> omega) (show (IntKind.wrap .i64 ((p_internal_stringslite_Index x0) + ((ByteArray.mk #[64]).size : Int))) ≤ (x0.size : Int) from by (try simp only [List.length_cons, List.length_nil]) <;> omega) (show (x0.size : Int) ≤ (x0.size : Int) from by omega)) rfl ?_
    refine an_read 9 (by kernel_rfl) (fun _ _ _ h => h) rfl (by kernel_rfl) trivial (r_assign rfl) rfl ?_
    refine an_read 10 (by kernel_rfl) (fun _ _ _ h => h) rfl (by kernel_rfl) trivial (r_assign rfl) rfl ?_
    refine an_read 11 (by kernel_rfl) (fun _ _ _ h => h) rfl (by kernel_rfl) trivial (r_assign rfl) rfl ?_
    refine an_done rfl ?_
    refine aq_then ?_
    refine aw_ret ?_
    refine aq_then_ret ?_
    refine aq_ret ?_
    obtain rfl := is_some h
    exact aq_finx (l := [.tmp 4, .tmp 5, .tmp 6]) (xs := [.str (x0.extract 0 (p_internal_stringslite_Index x0).toNat), .str (x0.extract (IntKind.wrap .i64 ((p_internal_stringslite_Index x0) + ((ByteArray.mk #[64]).size : Int))).toNat ((x0.size : Int)).toNat), .bool true]) idn [.str (x0.extract 0 (p_internal_stringslite_Index x0).toNat), .str (x0.extract (IntKind.wrap .i64 ((p_internal_stringslite_Index x0) + ((ByteArray.mk #[64]).size : Int))).toNat ((x0.size : Int)).toNat), .bool true] [] rfl (by exact ⟨rfl, rfl, rfl, trivial⟩) (by exact ⟨ad_ren rfl, ad_ren rfl, ad_ren rfl, trivial⟩) (by exact trivial) rfl (nk rfl) rfl rfl ⟨rfl, rfl⟩
  · have q3 := d_f hb1
    replace h := is_else (d_f hb1) h
    refine aw_skip ?_
    refine aq_then ?_
    refine aw_seq ?_
    refine aw_region ?_
    refine ao_read trivial (r_move rfl) rfl ?_
    refine ao_read trivial (r_assign rfl) rfl ?_
    refine ao_read trivial (r_assign rfl) rfl ?_
    refine ao_read trivial (r_assign rfl) rfl ?_
    refine ao_nil ?_
    refine aq_then ?_
    refine aw_ret ?_
    refine aq_ret ?_
    obtain rfl := is_some h
    exact aq_finx (l := [.tmp 4, .tmp 5, .tmp 6]) (xs := [.str x0, .str (ByteArray.mk #[]), .bool false]) idn [.str x0, .str (ByteArray.mk #[]), .bool false] [] rfl (by exact ⟨rfl, rfl, rfl, trivial⟩) (by exact ⟨ad_ren rfl, ad_ren rfl, ad_ren rfl, trivial⟩) (by exact trivial) rfl (nk rfl) rfl rfl ⟨rfl, rfl⟩
theorem c_strings_Cutv2 {x0 : ByteArray} {r : ByteArray × ByteArray × Bool} (h : Is (p_strings_Cutv2 x0) (some r)) :
    Scalar Tryd.prog 73 [.str x0, .str (ByteArray.mk #[64])] (.tup [.str r.1, .str r.2.1, .bool r.2.2]) := by
  unfold p_strings_Cutv2 at h
  refine ac_enter ⟨13, 0⟩ Tryd.func73 rfl rfl rfl rfl rfl (fun Γ => ?_)
  obtain ⟨gs0, h⟩ := is_guard h
  refine aw_seq ?_
  refine aw_region ?_
  refine ao_read trivial (r_assign rfl) rfl ?_
  refine ao_read trivial (r_assign rfl) rfl ?_
  refine ao_read trivial (r_assign rfl) rfl ?_
  refine ao_nil ?_
  refine aq_then ?_
  refine aw_seq ?_
  refine aw_region ?_
  refine ao_read trivial (r_move rfl) rfl ?_
  refine ao_read trivial (r_move rfl) rfl ?_
  obtain ⟨r1, r1h, h⟩ := is_bind h
  refine ao_scall trivial (scall (c_internal_stringslite_Cutv2 (is_mk r1h)) rfl Tryd.func81 rfl rfl rfl rfl (fun σ => ⟨ad_ren rfl, ad_ren rfl, trivial⟩)) rfl ?_
  refine ao_read trivial (r_extract rfl rfl) rfl ?_
  refine ao_read trivial (r_extract rfl rfl) rfl ?_
  refine ao_read trivial (r_extract rfl rfl) rfl ?_
  refine ao_read trivial (r_assign rfl) rfl ?_
  refine ao_read trivial (r_assign rfl) rfl ?_
  refine ao_read trivial (r_assign rfl) rfl ?_
  refine ao_nil ?_
  refine aq_then ?_
  refine aw_ret ?_
  refine aq_ret ?_
  obtain rfl := is_some h
  exact aq_finx (l := [.tmp 4, .tmp 5, .tmp 6]) (xs := [.str r1.1, .str r1.2.1, .bool r1.2.2]) idn [.str r1.1, .str r1.2.1, .bool r1.2.2] [] rfl (by exact ⟨rfl, rfl, rfl, trivial⟩) (by exact ⟨ad_ren rfl, ad_ren rfl, ad_ren rfl, trivial⟩) (by exact trivial) rfl (nk rfl) rfl rfl ⟨rfl, rfl⟩
theorem c_impl_decode {x0 : Int} {x1 : ByteArray} {r : (ByteArray × (ByteArray × Unit)) × Bool} (h : Is (p_impl_decode x0 x1) (some r)) :
    Scalar Tryd.prog 64 [.int .i64 x0, .str x1] (.tup [.v (.pair .str (.pair .str .unit)) r.1, .bool r.2]) := by
  unfold p_impl_decode at h
  refine ac_enter ⟨52, 0⟩ Tryd.func64 rfl rfl rfl rfl rfl (fun Γ => ?_)
  obtain ⟨gs1, h⟩ := is_guard h
  refine aw_seq ?_
  refine aw_region ?_
  refine ao_eff trivial (e_alloc 0 (y := .st [.str ByteArray.empty, .str ByteArray.empty]) Tryd.zeroValue33 (fun ρ h M => ra_zero_st (t := (.pair .str (.pair .str .unit))) rfl rfl rfl) rfl rfl rfl rfl rfl) rfl ?_
  refine ao_read trivial (r_assign rfl) rfl ?_
  refine ao_nil ?_
  refine aq_then ?_
  refine aw_seq ?_
  refine aw_region ?_
  refine ao_read trivial (r_move rfl) rfl ?_
  obtain ⟨r1, r1h, h⟩ := is_bind h
  refine ao_scall trivial (scall (c_strings_Cut (is_mk r1h)) rfl Tryd.func73 rfl rfl rfl rfl (fun σ => ⟨ad_ren rfl, ad_ren rfl, trivial⟩)) rfl ?_
  refine ao_read trivial (r_move rfl) rfl ?_
  refine ao_read trivial (r_extract rfl rfl) rfl ?_
  refine ao_read trivial (r_extract rfl rfl) rfl ?_
  refine ao_read trivial (r_extract rfl rfl) rfl ?_
  refine ao_read trivial (r_assign rfl) rfl ?_
  refine ao_read trivial (r_assign rfl) rfl ?_
  refine ao_read trivial (r_assign rfl) rfl ?_
  refine ao_nil ?_
  refine aq_then ?_
  refine aw_seq ?_
  refine aw_region ?_
  refine ao_read trivial (r_move rfl) rfl ?_
  obtain ⟨r2, r2h, h⟩ := is_bind h
  refine ao_scall trivial (scall (c_strings_Cutv1 (is_mk r2h)) rfl Tryd.func73 rfl rfl rfl rfl (fun σ => ⟨ad_ren rfl, ad_ren rfl, trivial⟩)) rfl ?_
  refine ao_read trivial (r_move rfl) rfl ?_
  refine ao_read trivial (r_extract rfl rfl) rfl ?_
  refine ao_read trivial (r_extract rfl rfl) rfl ?_
  refine ao_read trivial (r_extract rfl rfl) rfl ?_
  refine ao_read trivial (r_assign rfl) rfl ?_
  refine ao_read trivial (r_assign rfl) rfl ?_
  refine ao_read trivial (r_assign rfl) rfl ?_
  refine ao_nil ?_
  refine aq_then ?_
  refine aw_seq ?_
  refine aw_region ?_
  refine ao_read trivial (r_move rfl) rfl ?_
  obtain ⟨r3, r3h, h⟩ := is_bind h
  refine ao_scall trivial (scall (c_strings_Cutv2 (is_mk r3h)) rfl Tryd.func73 rfl rfl rfl rfl (fun σ => ⟨ad_ren rfl, ad_ren rfl, trivial⟩)) rfl ?_
  refine ao_read trivial (r_move rfl) rfl ?_
  refine ao_read trivial (r_extract rfl rfl) rfl ?_
  refine ao_read trivial (r_extract rfl rfl) rfl ?_
  refine ao_read trivial (r_extract rfl rfl) rfl ?_
  refine ao_read trivial (r_assign rfl) rfl ?_
  refine ao_read trivial (r_assign rfl) rfl ?_
  refine ao_read trivial (r_assign rfl) rfl ?_
  refine ao_nil ?_
  refine aq_then ?_
  refine aw_seq ?_
  refine aw_region ?_
  refine ao_read trivial (r_move rfl) rfl ?_
  refine ao_read trivial (r_move rfl) rfl ?_
  refine ao_read trivial (r_build_stv (l := [(0, .tmp 36), (1, .tmp 37)]) (cs := [.cell (.str r3.1), .cell (.str r3.2.1)]) (.pair .str (.pair .str .unit)) ((r3.1, (r3.2.1, ())) : (ByteArray × (ByteArray × Unit))) [(0, 1), (1, 1)] Tryd.underlying33 Tryd.zeroValue33 rfl ⟨rfl, Tryd.sizeOf9, rfl, Tryd.sizeOf9, trivial⟩ rfl rfl rfl rfl) rfl ?_
  refine ao_eff trivial (e_alloc 1 (y := .st [.str ByteArray.empty, .str ByteArray.empty]) Tryd.zeroValue33 (fun ρ h M => ra_zero_st (t := (.pair .str (.pair .str .unit))) rfl rfl rfl) rfl rfl rfl rfl rfl) rfl ?_
  refine ao_effS trivial (e_store rfl rfl rfl rfl Tryd.sizeOf33 rfl) ?_
  refine ao_nil ?_
  refine aq_then ?_
  refine aw_seq ?_
  refine aw_region ?_
  refine ao_read trivial (r_move rfl) rfl ?_
  refine ao_read trivial (r_load_part (τ := (.pair .str (.pair .str .unit))) (y := ((r3.1, (r3.2.1, ())) : (ByteArray × (ByteArray × Unit)))) [] [] rfl Tryd.isAgg33 Tryd.sizeOf33 rfl rfl rfl rfl) rfl ?_
  obtain ⟨r4, r4h, h⟩ := is_bind h
  refine ao_scall trivial (scall (c_impl_EncodeRecord (is_mk r4h)) rfl Tryd.func13 rfl rfl rfl rfl (fun σ => ⟨ad_ren rfl, ad_ren rfl, trivial⟩)) rfl ?_
  refine ao_read trivial (r_move rfl) rfl ?_
  refine ao_read trivial (r_extract rfl rfl) rfl ?_
  refine ao_read trivial (r_extract rfl rfl) rfl ?_
  refine ao_read trivial (r_assign rfl) rfl ?_
  refine ao_read trivial (r_assign rfl) rfl ?_
  refine ao_nil ?_
  refine aq_then ?_
  refine aw_seq ?_
  refine aw_region ?_
  refine ao_read trivial (r_load_part (τ := (.pair .str (.pair .str .unit))) (y := ((r3.1, (r3.2.1, ())) : (ByteArray × (ByteArray × Unit)))) [] [] rfl Tryd.isAgg33 Tryd.sizeOf33 rfl rfl rfl rfl) rfl ?_
  refine ao_read trivial (r_move rfl) rfl ?_
  refine ao_read trivial (r_move rfl) rfl ?_
  refine ao_readG (x := .str r4.1) rfl (GV.T rfl) (fun hg5 => r_move rfl) rfl ?_
  refine ao_readG (x := .str x1) rfl (GV.T rfl) (fun hg6 => r_move rfl) rfl ?_
  refine ao_readG (x := .bool (eqS r4.1 x1)) rfl (GV.T rfl) (fun hg7 => Reads.strip 48 rfl (hg7) (Reads.strip 49 rfl (hg7) (r_eql_str rfl rfl))) rfl ?_
  refine ao_read trivial (r_andB rfl rfl) rfl ?_
  refine ao_effS trivial (e_store rfl rfl rfl rfl Tryd.sizeOf33 rfl) ?_
  refine ao_read trivial (r_assign rfl) rfl ?_
  refine ao_nil ?_
  refine aq_then ?_
  refine aw_ret ?_
  refine aq_ret ?_
  obtain rfl := is_some h
  exact aq_finx (l := [.cell 4 33, .tmp 5]) (xs := [.st [.str r3.1, .str r3.2.1], .bool (r4.2 && (eqS r4.1 x1))]) idn [.v (.pair .str (.pair .str .unit)) ((r3.1, (r3.2.1, ())) : (ByteArray × (ByteArray × Unit))), .bool (r4.2 && (eqS r4.1 x1))] [] rfl (by exact ⟨⟨⟨_, _, rfl⟩, r_load_st [] [.cell (.str r3.1), .cell (.str r3.2.1)] [] Tryd.isAgg33 Tryd.sizeOf33 rfl rfl rfl rfl rfl rfl rfl⟩, rfl, trivial⟩) (by exact ⟨ad_st rfl rfl ⟨ad_ren rfl, ad_ren rfl, trivial⟩, ad_ren rfl, trivial⟩) (by exact trivial) rfl (nk rfl) rfl rfl ⟨rfl, rfl⟩
theorem c_impl_decodeAll {fu : Nat} {x0 : ByteArray} {r : (List (ByteArray × (ByteArray × Unit))) × (List Int)} (h : Is (p_impl_decodeAll fu x0) (some r)) :
    ACalls Tryd.prog 48 [.str x0] [] (fun r' H' => r' = .tup [.os 0, .os 1] ∧ H' = [(0, .row (.pair .str (.pair .str .unit)) r.1), (1, .row (.int .i64) r.2)]) := by
  unfold p_impl_decodeAll at h
  refine ac_enterMR ⟨40, 0⟩ Tryd.func48 rfl rfl rfl rfl rfl rfl (fun Γ _ hΓ => ?_)
  obtain ⟨gs0, h⟩ := is_guard h
  refine aw_seq ?_
  refine aw_region ?_
  refine ao_read trivial (r_assign rfl) rfl ?_
  refine ao_read trivial (r_assign rfl) rfl ?_
  refine ao_nil ?_
  refine aq_then ?_
  refine aw_seq ?_
  refine aw_region ?_
  refine ao_eff trivial (e_alloc 0 (y := .nilsl) Tryd.zeroValue47 (fun ρ h M => rfl) rfl rfl rfl rfl rfl) rfl ?_
  refine ao_nil ?_
  refine aq_then ?_
  refine aw_seq ?_
  refine aw_region ?_
  refine ao_eff trivial (e_buildSlice (l := [(0, .const (.int .i64 0))]) (t := (.int .i64)) 1 ([0] : (List Int)) rfl Tryd.underlying62 Tryd.zeroValue3 Tryd.sizeOf3 rfl rfl rfl rfl rfl rfl rfl) rfl ?_
  refine ao_eff trivial (e_alloc 2 (y := .nilsl) Tryd.zeroValue62 (fun ρ h M => rfl) rfl rfl rfl rfl rfl) rfl ?_
  refine ao_effS trivial (e_store rfl rfl rfl rfl Tryd.sizeOf62 rfl) ?_
  refine ao_nil ?_
  refine aq_then ?_
  refine aw_seq ?_
  refine aw_seq ?_
  refine aw_region ?_
  refine ao_read trivial (r_move rfl) rfl ?_
  refine ao_call [] 3 trivial (c_strings_Lines (is_mk (rfl : p_strings_Lines x0 = _))) Tryd.func63 rfl rfl rfl rfl ⟨ad_ren rfl, trivial⟩ trivial rfl rfl rfl rfl rfl rfl rfl (fun r' H' hr => ?_)
  obtain ⟨rfl, rfl⟩ := hr
  refine ao_norm (y := .fn 71 [.ref 3 0]) (H' := [(2, .var [.cell (.os 1)]), (1, .row (.int .i64) ([0] : (List Int))), (0, .var [.cell (.nilsl)]), (3, .var [.cell (.str (p_strings_Lines x0))])]) rfl rfl ?_
  refine ao_nil ?_
  refine aq_then ?_
  refine aw_block ?_
  refine AW.sub (fr' := [(4, .ref 0 0), (5, .ref 1 0), (11, .fn 71 [.ref 2 0])]) (H' := [(0, .var [.cell (.nilsl)]), (1, .var [.cell (.os 3)]), (2, .var [.cell (.str (p_strings_Lines x0))]), (3, .row (.int .i64) ([0] : (List Int)))]) (sub_mk (rn [(1, 2), (2, 3), (3, 1)]) (by exact ⟨⟨_, rfl, ad_ren rfl⟩, ⟨_, rfl, ad_ren rfl⟩, ⟨_, rfl, ad_ren rfl⟩, trivial⟩) (by exact ⟨⟨_, rfl, ⟨ad_ren rfl, rfl, trivial⟩⟩, ⟨_, rfl, ⟨ad_ren rfl, rfl, trivial⟩⟩, ⟨_, rfl, ⟨ad_ren rfl, rfl, trivial⟩⟩, ⟨_, rfl, rfl⟩, trivial⟩) (by rfl) (nk rfl)) ?_
  refine aw_rangeFunc ⟨25, 3⟩ hΓ rfl Tryd.func71 rfl rfl rfl rfl rfl rfl rfl (fun E Γi _ hE hR hd => ?_)
  refine aw_block ?_
  refine AW.sub (sub_nil_cell (t := (.pair .str (.pair .str .unit))) (i := 0) 5 [] [] rfl rfl rfl) ?_
  refine aw_loop (AL.sub (sub_mk (rn [(3, 5), (4, 3)]) (by exact ⟨⟨_, rfl, ad_ren rfl⟩, ⟨_, rfl, ad_ren rfl⟩, trivial⟩) (by exact ⟨⟨_, rfl, ⟨ad_ren rfl, rfl, trivial⟩⟩, ⟨_, rfl, ⟨ad_ren rfl, rfl, trivial⟩⟩, ⟨_, rfl, ⟨ad_ren rfl, rfl, trivial⟩⟩, ⟨_, rfl, rfl⟩, ⟨_, rfl, rfl⟩, trivial⟩) (by rfl) (nkL rfl)) (al_whl (fun (s1 : ByteArray × (List (ByteArray × (ByteArray × Unit))) × (List Int)) => [(0, .yl E.l), (1, .ref 2 0)]) (fun (s1 : ByteArray × (List (ByteArray × (ByteArray × Unit))) × (List Int)) => [(0, .var [.cell (.os 3)]), (1, .var [.cell (.os 4)]), (2, .var [.cell (.str s1.1)]), (3, .row (.pair .str (.pair .str .unit)) s1.2.1), (4, .row (.int .i64) s1.2.2)]) (fun (s1 : ByteArray × (List (ByteArray × (ByteArray × Unit))) × (List Int)) => True) h trivial (fun d3 s1 hI h ih3 => ?_)))
  replace h := is_whlS h
  refine al_round ?_
  refine aw_seq ?_
  refine aw_seq ?_
  refine aw_region ?_
  refine ao_read trivial (r_load_cell Tryd.isAgg9 rfl rfl rfl) rfl ?_
  refine ao_read trivial (r_len_str Tryd.underlying9 rfl) rfl ?_
  refine ao_read trivial (r_gtr rfl rfl) rfl ?_
  refine ao_nil ?_
  refine aq_then ?_
  refine aw_cond rfl (fun hb5 => ?_) (fun hb5 => ?_)
  · have q6 := d_t hb5
    replace h := is_if (d_t hb5) h
    refine aw_skip ?_
    refine aq_then ?_
    refine aw_block ?_
    refine aw_seq ?_
    refine aw_region ?_
    refine ao_read trivial (r_assign rfl) rfl ?_
    refine ao_nil ?_
    refine aq_then ?_
    refine aw_join (fun (s8 : ByteArray × ByteArray) => [(0, .yl E.l), (1, .ref 2 0), (3, .str s8.1)]) (fun (s8 : ByteArray × ByteArray) => [(0, .var [.cell (.os 3)]), (1, .var [.cell (.os 4)]), (2, .var [.cell (.str s8.2)]), (3, .row (.pair .str (.pair .str .unit)) s1.2.1), (4, .row (.int .i64) s1.2.2)]) (fun (s8 : ByteArray × ByteArray) => True) h (fun s8 hI h => ?_) (fun h j10 => ?_)
    · refine aw_seq ?_
      refine aw_regionI ?_
      refine aoi_op rfl (fun _ _ h => h) ?_
      refine ao_read trivial (r_move rfl) rfl ?_
      refine ao_nil (aoi_in ?_)
      refine aoi_op rfl (fun _ _ h => h) ?_
      refine ao_read trivial (r_move rfl) rfl ?_
      refine ao_nil (aoi_in ?_)
      refine aoi_yield hE hR hd hE.K.symm (hE.fl rfl) rfl rfl rfl (fun ai Γa _ hw => ?_)
      refine awi_region rfl (fun _ _ h => h) ?_
      refine ao_read trivial (r_assign rfl) rfl ?_
      refine ao_nil ?_
      refine aq_begin hw hE.ready hR.at_l (Nat.le_of_eq hE.K.symm) (hE.fl rfl) hE.K.symm (fun Γb _ hwb => ?_)
      refine awi_block ?_
      refine awi_seq ?_
      refine awi_region rfl (fun _ _ h => h) ?_
      refine ao_read trivial (r_load_cell Tryd.isAgg47 rfl rfl rfl) rfl ?_
      refine ao_read trivial (r_len_osm (s1.2.1.length : Int) Tryd.underlying47 rfl rfl rfl) rfl ?_
      refine ao_read trivial (r_move rfl) rfl ?_
      obtain ⟨r11, r11h, h⟩ := is_bind h
      refine ao_scall trivial (scall (c_impl_decode (is_mk r11h)) rfl Tryd.func64 rfl rfl rfl rfl (fun σ => ⟨ad_ren rfl, ad_ren rfl, trivial⟩)) rfl ?_
      refine ao_read trivial (r_move rfl) rfl ?_
      refine ao_read trivial (r_extract rfl rfl) rfl ?_
      refine ao_read trivial (r_extract rfl rfl) rfl ?_
      refine ao_eff trivial (e_alloc 5 (y := .st [.str ByteArray.empty, .str ByteArray.empty]) Tryd.zeroValue33 (fun ρ h M => ra_zero_st (t := (.pair .str (.pair .str .unit))) rfl rfl rfl) rfl rfl rfl rfl rfl) rfl ?_
      refine ao_effS trivial (e_store rfl rfl rfl rfl Tryd.sizeOf33 rfl) ?_
      refine ao_read trivial (r_assign rfl) rfl ?_
      refine ao_nil ?_
      refine aqi_then ?_
      refine awi_seq ?_
      refine awi_seq ?_
      refine awi_region rfl (fun _ _ h => h) ?_
      refine ao_read trivial (r_move rfl) rfl ?_
      refine ao_read trivial (r_not rfl) rfl ?_
      refine ao_nil ?_
      refine aqi_then ?_
      refine awi_cond rfl (fun hb12 => ?_) (fun hb12 => ?_)
      · replace h := is_else (ne_t (not_t hb12)) h
        refine awi_exit ?_
        refine aq_then_exit ?_
        refine aq_in_other rfl ?_
        refine aq_stop_exit hE hR hwb rfl hE.K.symm hE.K.symm (hE.fl rfl) rfl hd (fun Γs _ hds hRs => ?_)
        refine aoi_op rfl (fun _ _ h => h) ?_
        refine ao_read trivial (r_not rfl) rfl ?_
        refine ao_nil (aoi_in ?_)
        refine aoi_nil ?_
        refine aq_then ?_
        refine aw_cond rfl (fun _ => ?_) (fun hb => absurd hb (by decide))
        refine aw_ret ?_
        refine aq_in_ret ?_
        refine aq_then_ret ?_
        refine aq_in_ret ?_
        refine aq_stopped hE hRs hΓ hds rfl (fun Γ2 _ hB => ?_)
        refine aw_exit ?_
        refine aq_in_exit ?_
        refine aq_then ?_
        refine aw_seq ?_
        refine aw_drawAll (by kernel_rfl) ?_
        refine an_read 0 (by kernel_rfl) (fun _ _ _ h => h) rfl (by kernel_rfl) trivial (r_load_cell Tryd.isAgg47 rfl rfl rfl) rfl ?_
        refine an_read 1 (by kernel_rfl) (fun _ _ _ h => h) rfl (by kernel_rfl) trivial (r_load_cell Tryd.isAgg62 rfl rfl rfl) rfl ?_
        refine an_read 2 (by kernel_rfl) (fun _ _ _ h => h) rfl (by kernel_rfl) trivial (r_assign rfl) rfl ?_
        refine an_read 3 (by kernel_rfl) (fun _ _ _ h => h) rfl (by kernel_rfl) trivial (r_assign rfl) rfl ?_
        refine an_done rfl ?_
        refine aq_then ?_
        refine aw_ret ?_
        refine aqm_ret hB ?_
        obtain rfl := is_some h
        exact aq_finx (l := [.tmp 2, .tmp 3]) (xs := [.os 3, .os 4]) (rn [(0, 3), (1, 4)]) [.os 0, .os 1] [(0, .row (.pair .str (.pair .str .unit)) s1.2.1), (1, .row (.int .i64) s1.2.2)] rfl (by exact ⟨rfl, rfl, trivial⟩) (by exact ⟨ad_ren rfl, ad_ren rfl, trivial⟩) (by exact ⟨⟨_, rfl, rfl⟩, ⟨_, rfl, rfl⟩, trivial⟩) rfl (nk rfl) rfl rfl ⟨rfl, rfl⟩
      · replace h := is_if (not_f hb12) h
        refine awi_skip ?_
        refine aqi_then ?_
        refine awi_seq ?_
        refine awi_region rfl (fun _ _ h => h) ?_
        refine ao_read trivial (r_load_cell Tryd.isAgg47 rfl rfl rfl) rfl ?_
        refine ao_read trivial (r_load_part (τ := (.pair .str (.pair .str .unit))) (y := ((r11.1.1, (r11.1.2.1, ())) : (ByteArray × (ByteArray × Unit)))) [] [] rfl Tryd.isAgg33 Tryd.sizeOf33 rfl rfl rfl rfl) rfl ?_
        refine ao_eff trivial (e_buildSlice (l := [(0, .tmp 23)]) (t := (.pair .str (.pair .str .unit))) 6 ([(r11.1.1, (r11.1.2.1, ()))] : (List (ByteArray × (ByteArray × Unit)))) rfl Tryd.underlying47 Tryd.zeroValue33 Tryd.sizeOf33 rfl rfl rfl rfl rfl rfl rfl) rfl ?_
        obtain ⟨g13, h⟩ := is_guard h
        refine ao_eff trivial (e_append (t := (.pair .str (.pair .str .unit))) 7 rfl Tryd.underlying47 (rfl : Tryd.prog.info? 33 = some _) rfl rfl rfl rfl rfl rfl rfl (src_os rfl) (show s1.2.1.length + ([(r11.1.1, (r11.1.2.1, ()))] : (List (ByteArray × (ByteArray × Unit)))).length ≤ 1000000000 from by (try simp only [List.length_cons, List.length_nil]) <;> omega) rfl rfl) rfl ?_
        refine ao_effS trivial (e_store rfl rfl rfl rfl Tryd.sizeOf47 rfl) ?_
        refine ao_nil ?_
        refine aqi_then ?_
        obtain ⟨g14, h⟩ := is_guard h
        refine awi_draw rfl (fun _ _ h => h) 11 (by kernel_rfl) (by kernel_rfl) ?_
        refine an_to [(5, .ref 1 0), (26, .os 3), (36, .os 4)] [(0, .var [.cell (.os 5)]), (1, .var [.cell (.os 3)]), (2, .var [.cell (.str s8.2)]), (3, .row (.int .i64) s1.2.2), (4, .row (.int .i64) ([(IntKind.wrap .i64 ((s1.2.2.getD (((s1.2.1.length : Int) + 1) - 1).toNat 0) + (s8.1.size : Int)))] : (List Int))), (5, .row (.pair .str (.pair .str .unit)) ((s1.2.1 ++ [(r11.1.1, (r11.1.2.1, ()))]) : (List (ByteArray × (ByteArray × Unit)))))] ?_ (fun key => ?_)
        · refine aq_tail rfl ?_
          obtain ⟨g15, h⟩ := is_guard h
          refine ao_eff trivial (e_append (t := (.int .i64)) 6 rfl Tryd.underlying62 (rfl : Tryd.prog.info? 3 = some _) rfl rfl rfl rfl rfl rfl rfl (src_os rfl) (show s1.2.2.length + ([(IntKind.wrap .i64 ((s1.2.2.getD (((s1.2.1.length : Int) + 1) - 1).toNat 0) + (s8.1.size : Int)))] : (List Int)).length ≤ 1000000000 from by (try simp only [List.length_cons, List.length_nil]) <;> omega) rfl rfl) rfl ?_
          refine ao_effS trivial (e_store rfl rfl rfl rfl Tryd.sizeOf62 rfl) ?_
          refine ao_nil ?_
          refine aq_in ?_
          refine aq_next hE hwb rfl hR.at_l hE.K.symm rfl ?_
          refine aoi_op rfl (fun _ _ h => h) ?_
          refine ao_read trivial (r_not rfl) rfl ?_
          refine ao_nil (aoi_in ?_)
          refine aoi_nil ?_
          refine aq_then ?_
          refine aw_cond rfl (fun hb => absurd hb (by decide)) (fun _ => ?_)
          refine aw_skip ?_
          refine aq_in ?_
          exact aq_again (AL.sub (sub_mk (rn [(3, 5), (4, 6)]) (by exact ⟨⟨_, rfl, ad_ren rfl⟩, ⟨_, rfl, ad_ren rfl⟩, trivial⟩) (by exact ⟨⟨_, rfl, ⟨ad_ren rfl, rfl, trivial⟩⟩, ⟨_, rfl, ⟨ad_ren rfl, rfl, trivial⟩⟩, ⟨_, rfl, ⟨ad_ren rfl, rfl, trivial⟩⟩, ⟨_, rfl, rfl⟩, ⟨_, rfl, rfl⟩, trivial⟩) (by rfl) (nkL rfl)) (ih3 (s8.2, (s1.2.1 ++ [(r11.1.1, (r11.1.2.1, ()))]), (s1.2.2 ++ [(IntKind.wrap .i64 ((s1.2.2.getD (((s1.2.1.length : Int) + 1) - 1).toNat 0) + (s8.1.size : Int)))])) trivial h))
        · refine an_read 0 (by kernel_rfl) (fun _ _ _ h => h) rfl (by kernel_rfl) trivial (r_load_cell Tryd.isAgg62 rfl rfl rfl) rfl ?_
          refine an_read 1 (by kernel_rfl) (fun _ _ _ h => h) rfl (by kernel_rfl) trivial (r_load_cell Tryd.isAgg62 rfl rfl rfl) rfl ?_
          refine an_read 2 (by kernel_rfl) (fun _ _ _ h => h) rfl (by kernel_rfl) trivial (r_load_cell Tryd.isAgg47 rfl rfl rfl) rfl ?_
          refine an_read 3 (by kernel_rfl) (fun _ _ _ h => h) rfl (by kernel_rfl) trivial (r_len_osm ((s1.2.1.length : Int) + 1) Tryd.underlying47 rfl rfl (show ((s1.2.1 ++ [(r11.1.1, (r11.1.2.1, ()))]).length : Int) = ((s1.2.1.length : Int) + 1) from by (try simp only [List.length_append, List.length_cons, List.length_nil]) <;> omega)) rfl ?_
          refine an_read 4 (by kernel_rfl) (fun _ _ _ h => h) rfl (by kernel_rfl) trivial (r_subI rfl rfl (wrap_id (by omega) (by omega))) rfl ?_
          refine an_read 5 (by kernel_rfl) (fun _ _ _ h => h) rfl (by kernel_rfl) trivial (r_idxAddr_os Tryd.underlying62 Tryd.sizeOf3 rfl rfl rfl (show 0 ≤ (((s1.2.1.length : Int) + 1) - 1) from by omega) (show (((s1.2.1.length : Int) + 1) - 1) < (s1.2.2.length : Int) from by omega)) rfl ?_
          refine an_read 6 (by kernel_rfl) (fun _ _ _ h => h) rfl (by kernel_rfl) trivial (r_load_elem_int Tryd.isAgg3 Tryd.sizeOf3 rfl rfl (show (((s1.2.1.length : Int) + 1) - 1).toNat < s1.2.2.length from by omega)) rfl ?_
          refine an_read 7 (by kernel_rfl) (fun _ _ _ h => h) rfl (by kernel_rfl) trivial (r_move rfl) rfl ?_
          refine an_read 8 (by kernel_rfl) (fun _ _ _ h => h) rfl (by kernel_rfl) trivial (r_len_str Tryd.underlying9 rfl) rfl ?_
          refine an_read 9 (by kernel_rfl) (fun _ _ _ h => h) rfl (by kernel_rfl) trivial (r_add rfl rfl) rfl ?_
          refine an_explore 8 rfl ?_
          refine ax_all [10] (by kernel_rfl) ⟨?_, trivial⟩
          refine axo_eff 10 rfl trivial (e_buildSlice (l := [(0, .tmp 35)]) (t := (.int .i64)) 8 ([(IntKind.wrap .i64 ((s1.2.2.getD (((s1.2.1.length : Int) + 1) - 1).toNat 0) + (s8.1.size : Int)))] : (List Int)) rfl Tryd.underlying62 Tryd.zeroValue3 Tryd.sizeOf3 rfl rfl rfl rfl rfl rfl rfl) rfl rfl ?_
          exact ax_done rfl (AQ.sub (sub_mk (rn [(3, 4), (4, 8), (5, 7)]) (by exact ⟨⟨_, rfl, ad_ren rfl⟩, ⟨_, rfl, ad_ren rfl⟩, ⟨_, rfl, ad_ren rfl⟩, trivial⟩) (by exact ⟨⟨_, rfl, ⟨ad_ren rfl, rfl, trivial⟩⟩, ⟨_, rfl, ⟨ad_ren rfl, rfl, trivial⟩⟩, ⟨_, rfl, ⟨ad_ren rfl, rfl, trivial⟩⟩, ⟨_, rfl, rfl⟩, ⟨_, rfl, rfl⟩, ⟨_, rfl, rfl⟩, trivial⟩) (by rfl) (nkL rfl)) key)
    · refine aw_seq ?_
      refine aw_region ?_
      refine ao_read trivial (r_load_cell Tryd.isAgg9 rfl rfl rfl) rfl ?_
      refine ao_scall trivial (scall (c_strings_IndexByte (is_mk (rfl : p_strings_IndexByte s1.1 10 = _))) rfl Tryd.func72 rfl rfl rfl rfl (fun σ => ⟨ad_ren rfl, ad_ren rfl, trivial⟩)) rfl ?_
      refine ao_read trivial (r_assign rfl) rfl ?_
      refine ao_nil ?_
      refine aq_then ?_
      refine aw_seq ?_
      refine aw_region ?_
      refine ao_read trivial (r_move rfl) rfl ?_
      refine ao_read trivial (r_geq rfl rfl) rfl ?_
      refine ao_nil ?_
      refine aq_then ?_
      refine aw_cond rfl (fun hb16 => ?_) (fun hb16 => ?_)
      · have q17 := d_t hb16
        replace h := is_if (d_t hb16) h
        obtain ⟨g19, h⟩ := is_guard h
        obtain ⟨g20, h⟩ := is_guard h
        refine aw_draw 9 (by kernel_rfl) (by kernel_rfl) ?_
        refine an_read 0 (by kernel_rfl) (fun _ _ _ h => h) rfl (by kernel_rfl) trivial (r_load_cell Tryd.isAgg9 rfl rfl rfl) rfl ?_
        refine an_read 1 (by kernel_rfl) (fun _ _ _ h => h) rfl (by kernel_rfl) trivial (r_move rfl) rfl ?_
        refine an_read 2 (by kernel_rfl) (fun _ _ _ h => h) rfl (by kernel_rfl) trivial (r_add rfl rfl) rfl ?_
        refine an_read 3 (by kernel_rfl) (fun _ _ _ h => h) rfl (by kernel_rfl) trivial (r_slice_str Tryd.underlying9 rfl .none (.some rfl) (show 0 ≤ 0 from by omega) (show 0 ≤ (IntKind.wrap .i64 ((p_strings_IndexByte s1.1 10) + 1)) from by omega) (show (IntKind.wrap .i64 ((p_strings_IndexByte s1.1 10) + 1)) ≤ (s1.1.size : Int) from by omega)) rfl ?_
        refine an_read 4 (by kernel_rfl) (fun _ _ _ h => h) rfl (by kernel_rfl) trivial (r_load_cell Tryd.isAgg9 rfl rfl rfl) rfl ?_
        refine an_read 5 (by kernel_rfl) (fun _ _ _ h => h) rfl (by kernel_rfl) trivial (r_move rfl) rfl ?_
        refine an_read 6 (by kernel_rfl) (fun _ _ _ h => h) rfl (by kernel_rfl) trivial (r_add rfl rfl) rfl ?_
        refine an_read 7 (by kernel_rfl) (fun _ _ _ h => h) rfl (by kernel_rfl) trivial (r_slice_str Tryd.underlying9 rfl (.some rfl) .none (show 0 ≤ (IntKind.wrap .i64 ((p_strings_IndexByte s1.1 10) + 1)) from by omega) (show (IntKind.wrap .i64 ((p_strings_IndexByte s1.1 10) + 1)) ≤ (s1.1.size : Int) from by omega) (show (s1.1.size : Int) ≤ (s1.1.size : Int) from by omega)) rfl ?_
        refine an_read 8 (by kernel_rfl) (fun _ _ _ h => h) rfl (by kernel_rfl) trivial (r_assign rfl) rfl ?_
        refine an_tail rfl rfl ?_
        refine ao_effS trivial (e_store rfl rfl rfl rfl Tryd.sizeOf9 rfl) ?_
        refine ao_nil ?_
        exact aq_then (AW.sub (sub_mk idn (by exact ⟨⟨_, rfl, ad_ren rfl⟩, ⟨_, rfl, ad_ren rfl⟩, ⟨_, rfl, ad_ren rfl⟩, trivial⟩) (by exact ⟨⟨_, rfl, ⟨ad_ren rfl, rfl, trivial⟩⟩, ⟨_, rfl, ⟨ad_ren rfl, rfl, trivial⟩⟩, ⟨_, rfl, ⟨ad_ren rfl, rfl, trivial⟩⟩, ⟨_, rfl, rfl⟩, ⟨_, rfl, rfl⟩, trivial⟩) (by rfl) (nkL rfl)) (j10 ((s1.1.extract 0 (IntKind.wrap .i64 ((p_strings_IndexByte s1.1 10) + 1)).toNat), (s1.1.extract (IntKind.wrap .i64 ((p_strings_IndexByte s1.1 10) + 1)).toNat ((s1.1.size : Int)).toNat)) trivial h))
      · have q18 := d_f hb16
        replace h := is_else (d_f hb16) h
        refine aw_region ?_
        refine ao_read trivial (r_load_cell Tryd.isAgg9 rfl rfl rfl) rfl ?_
        refine ao_read trivial (r_assign rfl) rfl ?_
        refine ao_effS trivial (e_store rfl rfl rfl rfl Tryd.sizeOf9 rfl) ?_
        refine ao_nil ?_
        exact aq_then (AW.sub (sub_mk idn (by exact ⟨⟨_, rfl, ad_ren rfl⟩, ⟨_, rfl, ad_ren rfl⟩, ⟨_, rfl, ad_ren rfl⟩, trivial⟩) (by exact ⟨⟨_, rfl, ⟨ad_ren rfl, rfl, trivial⟩⟩, ⟨_, rfl, ⟨ad_ren rfl, rfl, trivial⟩⟩, ⟨_, rfl, ⟨ad_ren rfl, rfl, trivial⟩⟩, ⟨_, rfl, rfl⟩, ⟨_, rfl, rfl⟩, trivial⟩) (by rfl) (nkL rfl)) (j10 (s1.1, (ByteArray.mk #[])) trivial h))
  · have q7 := d_f hb5
    replace h := is_else (d_f hb5) h
    refine aw_exit ?_
    refine aq_then_exit ?_
    refine aq_then_exit ?_
    refine aq_in_exit ?_
    refine aq_iter_end ?_
    refine aq_done hE hR hΓ hd rfl (fun Γ2 _ hB => ?_)
    refine aq_in ?_
    refine aq_then ?_
    refine aw_seq ?_
    refine aw_drawAll (by kernel_rfl) ?_
    refine an_read 0 (by kernel_rfl) (fun _ _ _ h => h) rfl (by kernel_rfl) trivial (r_load_cell Tryd.isAgg47 rfl rfl rfl) rfl ?_
    refine an_read 1 (by kernel_rfl) (fun _ _ _ h => h) rfl (by kernel_rfl) trivial (r_load_cell Tryd.isAgg62 rfl rfl rfl) rfl ?_
    refine an_read 2 (by kernel_rfl) (fun _ _ _ h => h) rfl (by kernel_rfl) trivial (r_assign rfl) rfl ?_
    refine an_read 3 (by kernel_rfl) (fun _ _ _ h => h) rfl (by kernel_rfl) trivial (r_assign rfl) rfl ?_
    refine an_done rfl ?_
    refine aq_then ?_
    refine aw_ret ?_
    refine aqm_ret hB ?_
    obtain rfl := is_some h
    exact aq_finx (l := [.tmp 2, .tmp 3]) (xs := [.os 3, .os 4]) (rn [(0, 3), (1, 4)]) [.os 0, .os 1] [(0, .row (.pair .str (.pair .str .unit)) s1.2.1), (1, .row (.int .i64) s1.2.2)] rfl (by exact ⟨rfl, rfl, trivial⟩) (by exact ⟨ad_ren rfl, ad_ren rfl, trivial⟩) (by exact ⟨⟨_, rfl, rfl⟩, ⟨_, rfl, rfl⟩, trivial⟩) rfl (nk rfl) rfl rfl ⟨rfl, rfl⟩
theorem c_slices_Index_int_int {x0 : (List Int)} {x1 : Int} {r : Int} (h : Is (p_slices_Index_int_int x0 x1) r) :
    Scalar Tryd.prog 70 [.v (.slice (.int .i64)) x0, .int .i64 x1] (.int .i64 r) := by
  unfold p_slices_Index_int_int at h
  refine ac_enter ⟨19, 0⟩ Tryd.func70 rfl rfl rfl rfl rfl (fun Γ => ?_)
  refine sl_len_m 0 (x0.length : Int) rfl rfl (fun hl0 => ?_)
  refine aw_seq ?_
  refine aw_region ?_
  refine ao_read trivial (r_assign rfl) rfl ?_
  refine ao_nil ?_
  refine aq_then ?_
  refine aw_seq ?_
  refine aw_seq ?_
  refine aw_region ?_
  refine ao_read trivial (r_move rfl) rfl ?_
  refine ao_read trivial (r_len_vm (x0.length : Int) Tryd.underlying62 rfl rfl) rfl ?_
  refine ao_read trivial (r_move rfl) rfl ?_
  refine ao_nil ?_
  refine aq_then ?_
  refine aw_block ?_
  refine aw_loop (AL.sub (fr' := [(0, .v (.slice (.int .i64)) x0), (1, .int .i64 x1), (7, .int .i64 (x0.length : Int)), (8, .int .i64 0)]) (H' := []) (sub_mk idn (by exact ⟨⟨_, rfl, ad_ren rfl⟩, ⟨_, rfl, ad_ren rfl⟩, ⟨_, rfl, ad_ren rfl⟩, ⟨_, rfl, ad_ren rfl⟩, trivial⟩) (by exact trivial) (by rfl) (nk rfl)) (al_cnt (fun i2 (s1 : Unit) => [(0, .v (.slice (.int .i64)) x0), (1, .int .i64 x1), (7, .int .i64 (x0.length : Int)), (8, .int .i64 i2)]) (fun i2 (s1 : Unit) => []) (fun d i2 (s1 : Unit) => d = Int.toNat ((x0.length : Int) - i2) ∧ 0 ≤ i2 ∧ i2 ≤ (x0.length : Int)) h ⟨rfl, (by (try simp only [List.length_set, List.length_append, List.length_cons, List.length_nil, List.length_replicate, List.length_take, List.length_drop]) <;> omega), (by (try simp only [List.length_set, List.length_append, List.length_cons, List.length_nil, List.length_replicate, List.length_take, List.length_drop]) <;> omega)⟩ (fun d3 i2 s1 hI h ih3 => ?_)))
  obtain ⟨hd, _, _⟩ := hI
  refine al_round ?_
  refine aw_seq ?_
  refine aw_region ?_
  refine ao_read trivial (r_lss rfl rfl) rfl ?_
  refine ao_nil ?_
  refine aq_then ?_
  refine aw_seq ?_
  refine aw_cond rfl (fun hb5 => ?_) (fun hb5 => ?_)
  · have q6 := d_t hb5
    obtain ⟨d3, rfl⟩ : ∃ e, d3 = e + 1 := ⟨d3 - 1, by omega⟩
    replace h := is_cntS h
    refine aw_skip ?_
    refine aq_then ?_
    refine aw_seq ?_
    refine aw_block ?_
    refine aw_seq ?_
    refine aw_region ?_
    refine ao_read trivial (r_move rfl) rfl ?_
    refine ao_read trivial (r_assign rfl) rfl ?_
    refine ao_nil ?_
    refine aq_then ?_
    refine aw_seq ?_
    refine aw_region ?_
    refine ao_read trivial (r_move rfl) rfl ?_
    refine ao_read trivial (r_move rfl) rfl ?_
    refine ao_read trivial (r_move rfl) rfl ?_
    refine ao_read trivial (r_idxAddr_int Tryd.underlying62 Tryd.sizeOf3 rfl rfl (show 0 ≤ i2 from by omega) (show i2 < (x0.length : Int) from by omega)) rfl ?_
    refine ao_read trivial (r_load_c_int Tryd.isAgg3 Tryd.sizeOf3 rfl) rfl ?_
    refine ao_read trivial (r_eql rfl rfl) rfl ?_
    refine ao_nil ?_
    refine aq_then ?_
    refine aw_cond rfl (fun hb8 => ?_) (fun hb8 => ?_)
    · have q9 : x1 = (x0.getD i2.toNat 0) := d_t hb8
      replace h := is_if (d_t hb8) h
      refine aw_seq ?_
      refine aw_region ?_
      refine ao_read trivial (r_move rfl) rfl ?_
      refine ao_read trivial (r_assign rfl) rfl ?_
      refine ao_nil ?_
      refine aq_then ?_
      refine aw_ret ?_
      refine aq_in_ret ?_
      refine aq_then_ret ?_
      refine aq_then_ret ?_
      refine aq_in_ret ?_
      refine aq_then_ret ?_
      refine aq_ret ?_
      obtain rfl := is_eq h
      exact aq_finx (l := [.tmp 4]) (xs := [.int .i64 i2]) idn [.int .i64 i2] [] rfl (by exact ⟨rfl, trivial⟩) (by exact ⟨ad_ren rfl, trivial⟩) (by exact trivial) rfl (nk rfl) rfl rfl ⟨rfl, rfl⟩
    · have q10 : ¬ (x1 = (x0.getD i2.toNat 0)) := d_f hb8
      replace h := is_else (d_f hb8) h
      refine aw_skip ?_
      refine aq_in ?_
      refine aq_then ?_
      refine aw_region ?_
      refine ao_read trivial (r_addI rfl rfl (wrap_id (by omega) (by omega))) rfl ?_
      refine ao_read trivial (r_move rfl) rfl ?_
      refine ao_nil ?_
      exact aq_again (AL.sub (sub_mk idn (by exact ⟨⟨_, rfl, ad_ren rfl⟩, ⟨_, rfl, ad_ren rfl⟩, ⟨_, rfl, ad_ren rfl⟩, ⟨_, rfl, ad_ren rfl⟩, trivial⟩) (by exact trivial) (by rfl) (nk rfl)) (ih3 d3 (i2 + 1) () (by omega) ⟨by omega, (by (try simp only [List.length_set, List.length_append, List.length_cons, List.length_nil, List.length_replicate, List.length_take, List.length_drop]) <;> omega), (by (try simp only [List.length_set, List.length_append, List.length_cons, List.length_nil, List.length_replicate, List.length_take, List.length_drop]) <;> omega)⟩ h))
  · have q7 := d_f hb5
    obtain rfl : d3 = 0 := by omega
    replace h := is_cnt0 h
    refine aw_exit ?_
    refine aq_then_exit ?_
    refine aq_then_exit ?_
    refine aq_in_exit ?_
    refine aq_then ?_
    refine aw_seq ?_
    refine aw_region ?_
    refine ao_read trivial (r_assign rfl) rfl ?_
    refine ao_nil ?_
    refine aq_then ?_
    refine aw_ret ?_
    refine aq_ret ?_
    obtain rfl := is_eq h
    exact aq_finx (l := [.tmp 4]) (xs := [.int .i64 (-1)]) idn [.int .i64 (-1)] [] rfl (by exact ⟨rfl, trivial⟩) (by exact ⟨ad_ren rfl, trivial⟩) (by exact trivial) rfl (nk rfl) rfl rfl ⟨rfl, rfl⟩
theorem c_slices_Contains_int_int {x0 : (List Int)} {x1 : Int} {r : Bool} (h : Is (p_slices_Contains_int_int x0 x1) r) :
    Scalar Tryd.prog 60 [.v (.slice (.int .i64)) x0, .int .i64 x1] (.bool r) := by
  unfold p_slices_Contains_int_int at h
  refine ac_enter ⟨9, 0⟩ Tryd.func60 rfl rfl rfl rfl rfl (fun Γ => ?_)
  refine sl_len_m 0 (x0.length : Int) rfl rfl (fun hl0 => ?_)
  refine aw_seq ?_
  refine aw_region ?_
  refine ao_read trivial (r_assign rfl) rfl ?_
  refine ao_nil ?_
  refine aq_then ?_
  refine aw_seq ?_
  refine aw_region ?_
  refine ao_read trivial (r_move rfl) rfl ?_
  refine ao_read trivial (r_move rfl) rfl ?_
  refine ao_scall trivial (scall (c_slices_Index_int_int (is_mk (rfl : p_slices_Index_int_int x0 x1 = _))) rfl Tryd.func70 rfl rfl rfl rfl (fun σ => ⟨ad_ren rfl, ad_ren rfl, trivial⟩)) rfl ?_
  refine ao_read trivial (r_geq rfl rfl) rfl ?_
  refine ao_read trivial (r_assign rfl) rfl ?_
  refine ao_nil ?_
  refine aq_then ?_
  refine aw_ret ?_
  refine aq_ret ?_
  obtain rfl := is_eq h
  exact aq_finx (l := [.tmp 4]) (xs := [.bool (decide (0 ≤ (p_slices_Index_int_int x0 x1)))]) idn [.bool (decide (0 ≤ (p_slices_Index_int_int x0 x1)))] [] rfl (by exact ⟨rfl, trivial⟩) (by exact ⟨ad_ren rfl, trivial⟩) (by exact trivial) rfl (nk rfl) rfl rfl ⟨rfl, rfl⟩
theorem c_impl_readLog {fu : Nat} {x0 : (ByteArray × (ByteArray × (Int × Unit)))} {r : (List (ByteArray × (ByteArray × Unit))) × Bool} (h : Is (p_impl_readLog fu x0) (some r)) :
    ACalls Tryd.prog 44 [.v (.pair .str (.pair .str (.pair (.int .i64) .unit))) x0] [] (fun r' H' => r' = .tup [.os 0, .bool r.2] ∧ H' = [(0, .row (.pair .str (.pair .str .unit)) r.1)]) := by
  unfold p_impl_readLog at h
  refine ac_enter ⟨43, 0⟩ Tryd.func44 rfl rfl rfl rfl rfl (fun Γ => ?_)
  refine aw_seq ?_
  refine aw_region ?_
  refine ao_eff trivial (e_box 0 rfl rfl rfl rfl rfl rfl) rfl ?_
  refine ao_read trivial (r_assign rfl) rfl ?_
  refine ao_read trivial (r_assign rfl) rfl ?_
  refine ao_nil ?_
  refine aq_then ?_
  refine aw_seq ?_
  refine aw_region ?_
  refine ao_read trivial (r_fieldAddr Tryd.underlying27 rfl Tryd.sizeOf9 rfl rfl rfl) rfl ?_
  refine ao_read trivial (r_load_cell Tryd.isAgg9 rfl rfl rfl) rfl ?_
  refine ao_read trivial (r_fieldAddr Tryd.underlying27 rfl Tryd.sizeOf9 rfl rfl rfl) rfl ?_
  refine ao_read trivial (r_load_cell Tryd.isAgg9 rfl rfl rfl) rfl ?_
  obtain ⟨g1, h⟩ := is_guard h
  refine ao_read trivial (r_add_str (a := x0.1) (b := x0.2.1) rfl rfl (by omega)) rfl ?_
  refine ao_read trivial (r_assign rfl) rfl ?_
  refine ao_nil ?_
  refine aq_then ?_
  refine aw_seq ?_
  refine aw_seq ?_
  refine aw_region ?_
  refine ao_read trivial (r_move rfl) rfl ?_
  refine ao_read trivial (r_len_str Tryd.underlying9 rfl) rfl ?_
  refine ao_read trivial (r_gtr rfl rfl) rfl ?_
  refine ao_nil ?_
  refine aq_then ?_
  refine aw_cond rfl (fun hb2 => ?_) (fun hb2 => ?_)
  · have q3 := d_t hb2
    replace h := is_if (d_t hb2) h
    refine aw_seq ?_
    refine aw_region ?_
    refine ao_read trivial (r_assign rfl) rfl ?_
    refine ao_read trivial (r_assign rfl) rfl ?_
    refine ao_nil ?_
    refine aq_then ?_
    refine aw_ret ?_
    refine aq_then_ret ?_
    refine aq_ret ?_
    obtain rfl := is_some h
    refine AQ.sub (sub_nil (T := 2) (t := (.pair .str (.pair .str .unit))) 1 rfl rfl rfl) ?_
    exact aq_finx (l := [.tmp 2, .tmp 3]) (xs := [.os 1, .bool false]) (rn [(0, 1)]) [.os 0, .bool false] [(0, .row (.pair .str (.pair .str .unit)) ([] : (List (ByteArray × (ByteArray × Unit)))))] rfl (by exact ⟨rfl, rfl, trivial⟩) (by exact ⟨ad_ren rfl, ad_ren rfl, trivial⟩) (by exact ⟨⟨_, rfl, rfl⟩, trivial⟩) rfl (nk rfl) rfl rfl ⟨rfl, rfl⟩
  · have q4 := d_f hb2
    replace h := is_else (d_f hb2) h
    refine aw_skip ?_
    refine aq_then ?_
    refine aw_seq ?_
    refine aw_region ?_
    refine ao_read trivial (r_move rfl) rfl ?_
    obtain ⟨r5, r5h, h⟩ := is_bind h
    refine ao_call [] 2 trivial (c_impl_decodeAll (is_mk r5h)) Tryd.func48 rfl rfl rfl rfl ⟨ad_ren rfl, trivial⟩ trivial rfl rfl rfl rfl rfl rfl rfl (fun r' H' hr => ?_)
    obtain ⟨rfl, rfl⟩ := hr
    refine ao_norm (y := .tup [.os 2, .os 3]) (H' := [(0, .var [.cell (.str x0.1), .cell (.str x0.2.1), .cell (.int .i64 x0.2.2.1)]), (2, .row (.pair .str (.pair .str .unit)) r5.1), (3, .row (.int .i64) r5.2)]) rfl rfl ?_
    refine row_len_o 2 (r5.1.length : Int) rfl rfl (fun hr6 => ?_)
    refine row_len_o 3 (r5.2.length : Int) rfl rfl (fun hr7 => ?_)
    refine ao_read trivial (r_move rfl) rfl ?_
    refine ao_read trivial (r_extract rfl rfl) rfl ?_
    refine ao_read trivial (r_extract rfl rfl) rfl ?_
    refine ao_read trivial (r_assign rfl) rfl ?_
    refine ao_read trivial (r_assign rfl) rfl ?_
    refine ao_nil ?_
    refine aq_then ?_
    refine aw_seq ?_
    obtain ⟨g8, h⟩ := is_guard h
    refine aw_drawAll (by kernel_rfl) ?_
    refine an_read 0 (by kernel_rfl) (fun _ _ _ h => h) rfl (by kernel_rfl) trivial (r_move rfl) rfl ?_
    refine an_read 1 (by kernel_rfl) (fun _ _ _ h => h) rfl (by kernel_rfl) trivial (r_move rfl) rfl ?_
    refine an_read 2 (by kernel_rfl) (fun _ _ _ h => h) rfl (by kernel_rfl) trivial (r_move rfl) rfl ?_
    refine an_read 3 (by kernel_rfl) (fun _ _ _ h => h) rfl (by kernel_rfl) trivial (r_len_osm (r5.1.length : Int) Tryd.underlying47 rfl rfl rfl) rfl ?_
    refine an_read 4 (by kernel_rfl) (fun _ _ _ h => h) rfl (by kernel_rfl) trivial (r_idxAddr_os Tryd.underlying62 Tryd.sizeOf3 rfl rfl rfl (show 0 ≤ (r5.1.length : Int) from by omega) (show (r5.1.length : Int) < (r5.2.length : Int) from by omega)) rfl ?_
    refine an_read 5 (by kernel_rfl) (fun _ _ _ h => h) rfl (by kernel_rfl) trivial (r_load_elem_int Tryd.isAgg3 Tryd.sizeOf3 rfl rfl (show (r5.1.length : Int).toNat < r5.2.length from by omega)) rfl ?_
    refine an_read 6 (by kernel_rfl) (fun _ _ _ h => h) rfl (by kernel_rfl) trivial (r_move rfl) rfl ?_
    refine an_read 7 (by kernel_rfl) (fun _ _ _ h => h) rfl (by kernel_rfl) trivial (r_len_str Tryd.underlying9 rfl) rfl ?_
    refine an_read 8 (by kernel_rfl) (fun _ _ _ h => h) rfl (by kernel_rfl) trivial (r_eql rfl rfl) rfl ?_
    refine an_read 9 (by kernel_rfl) (fun _ _ _ h => h) rfl (by kernel_rfl) trivial (r_move rfl) rfl ?_
    refine an_readG 10 (x := .os 3) (by kernel_rfl) (fun _ _ _ h => h) rfl (by kernel_rfl) rfl (GV.T rfl) (fun hg9 => by
          have q10 : (r5.2.getD (r5.1.length : Int).toNat 0) = ((x0.1 ++ x0.2.1).size : Int) := d_t hg9
          exact r_move rfl) rfl ?_
    refine an_readG 11 (x := .ref 0 0) (by kernel_rfl) (fun _ _ _ h => h) rfl (by kernel_rfl) rfl (GV.T rfl) (fun hg11 => by
          have q12 : (r5.2.getD (r5.1.length : Int).toNat 0) = ((x0.1 ++ x0.2.1).size : Int) := d_t hg11
          exact r_fieldAddr Tryd.underlying27 rfl Tryd.sizeOf9 rfl rfl rfl) rfl ?_
    refine an_readG 12 (x := .str x0.1) (by kernel_rfl) (fun _ _ _ h => h) rfl (by kernel_rfl) rfl (GV.T rfl) (fun hg13 => by
          have q14 : (r5.2.getD (r5.1.length : Int).toNat 0) = ((x0.1 ++ x0.2.1).size : Int) := d_t hg13
          exact Reads.strip 31 rfl (hg13) (r_load_cell Tryd.isAgg9 rfl rfl rfl)) rfl ?_
    refine an_readG 13 (x := .int .i64 (x0.1.size : Int)) (by kernel_rfl) (fun _ _ _ h => h) rfl (by kernel_rfl) rfl (GV.T rfl) (fun hg15 => by
          have q16 : (r5.2.getD (r5.1.length : Int).toNat 0) = ((x0.1 ++ x0.2.1).size : Int) := d_t hg15
          exact Reads.strip 32 rfl (hg15) (r_len_str Tryd.underlying9 rfl)) rfl ?_
    refine an_scallG 14 (x := .bool (p_slices_Contains_int_int r5.2 (x0.1.size : Int))) (by kernel_rfl) (fun _ _ _ h => h) rfl (by kernel_rfl) rfl (GV.T rfl) (fun hg17 => by
          have q18 : (r5.2.getD (r5.1.length : Int).toNat 0) = ((x0.1 ++ x0.2.1).size : Int) := d_t hg17
          exact SCall.strip 30 rfl (hg17) (SCall.strip 33 rfl (hg17) (scall (c_slices_Contains_int_int (is_mk (rfl : p_slices_Contains_int_int r5.2 (x0.1.size : Int) = _))) rfl Tryd.func60 rfl rfl rfl rfl (fun σ => ⟨ad_os0 rfl, ad_ren rfl, trivial⟩)))) rfl ?_
    refine an_read 15 (by kernel_rfl) (fun _ _ _ h => h) rfl (by kernel_rfl) trivial (r_andB rfl rfl) rfl ?_
    refine an_read 16 (by kernel_rfl) (fun _ _ _ h => h) rfl (by kernel_rfl) trivial (r_move rfl) rfl ?_
    refine an_readG 17 (x := .ref 0 2) (by kernel_rfl) (fun _ _ _ h => h) rfl (by kernel_rfl) rfl (GV.T rfl) (fun hg19 => by
          obtain ⟨q20, q21⟩ := and_t hg19
          have q22 : (r5.2.getD (r5.1.length : Int).toNat 0) = ((x0.1 ++ x0.2.1).size : Int) := d_t q20
          exact r_fieldAddr Tryd.underlying27 rfl Tryd.sizeOf3 rfl rfl rfl) rfl ?_
    refine an_readG 18 (x := .int .i64 x0.2.2.1) (by kernel_rfl) (fun _ _ _ h => h) rfl (by kernel_rfl) rfl (GV.T rfl) (fun hg23 => by
          obtain ⟨q24, q25⟩ := and_t hg23
          have q26 : (r5.2.getD (r5.1.length : Int).toNat 0) = ((x0.1 ++ x0.2.1).size : Int) := d_t q24
          exact Reads.strip 37 rfl (hg23) (r_load_cell Tryd.isAgg3 rfl rfl rfl)) rfl ?_
    refine an_readG 19 (x := .os 2) (by kernel_rfl) (fun _ _ _ h => h) rfl (by kernel_rfl) rfl (GV.T rfl) (fun hg27 => by
          obtain ⟨q28, q29⟩ := and_t hg27
          have q30 : (r5.2.getD (r5.1.length : Int).toNat 0) = ((x0.1 ++ x0.2.1).size : Int) := d_t q28
          exact r_move rfl) rfl ?_
    refine an_readG 20 (x := .int .i64 (r5.1.length : Int)) (by kernel_rfl) (fun _ _ _ h => h) rfl (by kernel_rfl) rfl (GV.T rfl) (fun hg31 => by
          obtain ⟨q32, q33⟩ := and_t hg31
          have q34 : (r5.2.getD (r5.1.length : Int).toNat 0) = ((x0.1 ++ x0.2.1).size : Int) := d_t q32
          exact Reads.strip 39 rfl (hg31) (r_len_osm (r5.1.length : Int) Tryd.underlying47 rfl rfl rfl)) rfl ?_
    refine an_readG 21 (x := .bool (decide (x0.2.2.1 = (r5.1.length : Int)))) (by kernel_rfl) (fun _ _ _ h => h) rfl (by kernel_rfl) rfl (GV.T rfl) (fun hg35 => by
          obtain ⟨q36, q37⟩ := and_t hg35
          have q38 : (r5.2.getD (r5.1.length : Int).toNat 0) = ((x0.1 ++ x0.2.1).size : Int) := d_t q36
          exact Reads.strip 38 rfl (hg35) (Reads.strip 40 rfl (hg35) (r_eql rfl rfl))) rfl ?_
    refine an_read 22 (by kernel_rfl) (fun _ _ _ h => h) rfl (by kernel_rfl) trivial (r_andB rfl rfl) rfl ?_
    refine an_read 23 (by kernel_rfl) (fun _ _ _ h => h) rfl (by kernel_rfl) trivial (r_assign rfl) rfl ?_
    refine an_read 24 (by kernel_rfl) (fun _ _ _ h => h) rfl (by kernel_rfl) trivial (r_assign rfl) rfl ?_
    refine an_done rfl ?_
    refine aq_then ?_
    refine aw_ret ?_
    refine aq_ret ?_
    obtain rfl := is_some h
    exact aq_finx (l := [.tmp 2, .tmp 3]) (xs := [.os 2, .bool (((decide ((r5.2.getD (r5.1.length : Int).toNat 0) = ((x0.1 ++ x0.2.1).size : Int))) && (p_slices_Contains_int_int r5.2 (x0.1.size : Int))) && (decide (x0.2.2.1 = (r5.1.length : Int))))]) (rn [(0, 2)]) [.os 0, .bool (((decide ((r5.2.getD (r5.1.length : Int).toNat 0) = ((x0.1 ++ x0.2.1).size : Int))) && (p_slices_Contains_int_int r5.2 (x0.1.size : Int))) && (decide (x0.2.2.1 = (r5.1.length : Int))))] [(0, .row (.pair .str (.pair .str .unit)) r5.1)] rfl (by exact ⟨rfl, rfl, trivial⟩) (by exact ⟨ad_ren rfl, ad_ren rfl, trivial⟩) (by exact ⟨⟨_, rfl, rfl⟩, trivial⟩) rfl (nk rfl) rfl rfl ⟨rfl, rfl⟩
theorem c_impl_IsValidLog {fu : Nat} {x0 : (ByteArray × (ByteArray × (Int × Unit)))} {r : Bool} (h : Is (p_impl_IsValidLog fu x0) (some r)) :
    Scalar Tryd.prog 22 [.v (.pair .str (.pair .str (.pair (.int .i64) .unit))) x0] (.bool r) := by
  unfold p_impl_IsValidLog at h
  refine ac_enter ⟨11, 0⟩ Tryd.func22 rfl rfl rfl rfl rfl (fun Γ => ?_)
  refine aw_seq ?_
  refine aw_region ?_
  refine ao_eff trivial (e_box 0 rfl rfl rfl rfl rfl rfl) rfl ?_
  refine ao_read trivial (r_assign rfl) rfl ?_
  refine ao_nil ?_
  refine aq_then ?_
  refine aw_seq ?_
  refine aw_region ?_
  refine ao_read trivial (r_load_part (τ := (.pair .str (.pair .str (.pair (.int .i64) .unit)))) (y := ((x0.1, (x0.2.1, (x0.2.2.1, ()))) : (ByteArray × (ByteArray × (Int × Unit))))) [] [] rfl Tryd.isAgg27 Tryd.sizeOf27 rfl rfl rfl rfl) rfl ?_
  obtain ⟨r1, r1h, h⟩ := is_bind h
  refine ao_call [] 1 trivial (c_impl_readLog (is_mk r1h)) Tryd.func44 rfl rfl rfl rfl ⟨ad_ren rfl, trivial⟩ trivial rfl rfl rfl rfl rfl rfl rfl (fun r' H' hr => ?_)
  obtain ⟨rfl, rfl⟩ := hr
  refine ao_norm (y := .tup [.os 1, .bool r1.2]) (H' := [(0, .var [.cell (.str x0.1), .cell (.str x0.2.1), .cell (.int .i64 x0.2.2.1)]), (1, .row (.pair .str (.pair .str .unit)) r1.1)]) rfl rfl ?_
  refine row_len_o 1 (r1.1.length : Int) rfl rfl (fun hr2 => ?_)
  refine ao_read trivial (r_move rfl) rfl ?_
  refine ao_read trivial (r_extract rfl rfl) rfl ?_
  refine ao_read trivial (r_extract rfl rfl) rfl ?_
  refine ao_read trivial (r_assign rfl) rfl ?_
  refine ao_read trivial (r_assign rfl) rfl ?_
  refine ao_nil ?_
  refine aq_then ?_
  refine aw_seq ?_
  refine aw_region ?_
  refine ao_read trivial (r_move rfl) rfl ?_
  refine ao_read trivial (r_assign rfl) rfl ?_
  refine ao_nil ?_
  refine aq_then ?_
  refine aw_ret ?_
  refine aq_ret ?_
  obtain rfl := is_some h
  exact aq_finx (l := [.tmp 2]) (xs := [.bool r1.2]) idn [.bool r1.2] [] rfl (by exact ⟨rfl, trivial⟩) (by exact ⟨ad_ren rfl, trivial⟩) (by exact trivial) rfl (nk rfl) rfl rfl ⟨rfl, rfl⟩
theorem c_impl_AppendRecord {fu : Nat} {x0 : (ByteArray × (ByteArray × (Int × Unit)))} {x1 : (ByteArray × (ByteArray × Unit))} {r : (ByteArray × (ByteArray × (Int × Unit))) × Int} (h : Is (p_impl_AppendRecord fu x0 x1) (some r)) :
    Scalar Tryd.prog 18 [.v (.pair .str (.pair .str (.pair (.int .i64) .unit))) x0, .v (.pair .str (.pair .str .unit)) x1] (.tup [.v (.pair .str (.pair .str (.pair (.int .i64) .unit))) r.1, .int .i64 r.2]) := by
  unfold p_impl_AppendRecord at h
  refine ac_enter ⟨40, 0⟩ Tryd.func18 rfl rfl rfl rfl rfl (fun Γ => ?_)
  refine aw_seq ?_
  refine aw_region ?_
  refine ao_eff trivial (e_box 0 rfl rfl rfl rfl rfl rfl) rfl ?_
  refine ao_eff trivial (e_box 1 rfl rfl rfl rfl rfl rfl) rfl ?_
  refine ao_eff trivial (e_alloc 2 (y := .st [.str ByteArray.empty, .str ByteArray.empty, .int .i64 0]) Tryd.zeroValue27 (fun ρ h M => ra_zero_st (t := (.pair .str (.pair .str (.pair (.int .i64) .unit)))) rfl rfl rfl) rfl rfl rfl rfl rfl) rfl ?_
  refine ao_read trivial (r_assign rfl) rfl ?_
  refine ao_nil ?_
  refine aq_then ?_
  refine aw_seq ?_
  refine aw_block ?_
  refine aw_seq ?_
  refine aw_region ?_
  refine ao_read trivial (r_load_part (τ := (.pair .str (.pair .str (.pair (.int .i64) .unit)))) (y := ((x0.1, (x0.2.1, (x0.2.2.1, ()))) : (ByteArray × (ByteArray × (Int × Unit))))) [] [] rfl Tryd.isAgg27 Tryd.sizeOf27 rfl rfl rfl rfl) rfl ?_
  obtain ⟨r1, r1h, h⟩ := is_bind h
  refine ao_scall trivial (scall (c_impl_IsValidLog (is_mk r1h)) rfl Tryd.func22 rfl rfl rfl rfl (fun σ => ⟨ad_ren rfl, trivial⟩)) rfl ?_
  refine ao_read trivial (r_not rfl) rfl ?_
  refine ao_read trivial (r_move rfl) rfl ?_
  refine ao_readG (x := .v (.pair .str (.pair .str .unit)) ((x1.1, (x1.2.1, ())) : (ByteArray × (ByteArray × Unit)))) rfl (GV.F rfl) (fun hg2 => r_load_part (τ := (.pair .str (.pair .str .unit))) (y := ((x1.1, (x1.2.1, ())) : (ByteArray × (ByteArray × Unit)))) [] [] rfl Tryd.isAgg33 Tryd.sizeOf33 rfl rfl rfl rfl) rfl ?_
  obtain ⟨g4, h⟩ := is_guard h
  refine ao_scallG (r := .bool ((p_impl_IsValidRecord (x1.1, (x1.2.1, ()))).getD false)) rfl (GV.F rfl) (fun hg3 => SCall.strip 13 rfl (hg3) (scall (c_impl_IsValidRecord (is_mk (isSome_getD (g4 hg3)))) rfl Tryd.func15 rfl rfl rfl rfl (fun σ => ⟨ad_ren rfl, trivial⟩))) rfl ?_
  refine ao_readG (x := .bool (!((p_impl_IsValidRecord (x1.1, (x1.2.1, ()))).getD false))) rfl (GV.F rfl) (fun hg5 => Reads.strip 14 rfl (hg5) (r_not rfl)) rfl ?_
  refine ao_read trivial (r_orB rfl rfl) rfl ?_
  refine ao_read trivial (r_assign rfl) rfl ?_
  refine ao_nil ?_
  refine aq_then ?_
  refine aw_cond rfl (fun hb6 => ?_) (fun hb6 => ?_)
  · replace h := is_if hb6 h
    refine aw_seq ?_
    refine aw_region ?_
    refine ao_read trivial (r_load_part (τ := (.pair .str (.pair .str (.pair (.int .i64) .unit)))) (y := ((x0.1, (x0.2.1, (x0.2.2.1, ()))) : (ByteArray × (ByteArray × (Int × Unit))))) [] [] rfl Tryd.isAgg27 Tryd.sizeOf27 rfl rfl rfl rfl) rfl ?_
    refine ao_effS trivial (e_store rfl rfl rfl rfl Tryd.sizeOf27 rfl) ?_
    refine ao_read trivial (r_assign rfl) rfl ?_
    refine ao_nil ?_
    refine aq_then ?_
    refine aw_ret ?_
    refine aq_in_ret ?_
    refine aq_then_ret ?_
    refine aq_ret ?_
    obtain rfl := is_some h
    exact aq_finx (l := [.cell 4 27, .tmp 5]) (xs := [.st [.str x0.1, .str x0.2.1, .int .i64 x0.2.2.1], .int .i64 1]) idn [.v (.pair .str (.pair .str (.pair (.int .i64) .unit))) ((x0.1, (x0.2.1, (x0.2.2.1, ()))) : (ByteArray × (ByteArray × (Int × Unit)))), .int .i64 1] [] rfl (by exact ⟨⟨⟨_, _, rfl⟩, r_load_st [] [.cell (.str x0.1), .cell (.str x0.2.1), .cell (.int .i64 x0.2.2.1)] [] Tryd.isAgg27 Tryd.sizeOf27 rfl rfl rfl rfl rfl rfl rfl⟩, rfl, trivial⟩) (by exact ⟨ad_st rfl rfl ⟨ad_ren rfl, ad_ren rfl, ad_ren rfl, trivial⟩, ad_ren rfl, trivial⟩) (by exact trivial) rfl (nk rfl) rfl rfl ⟨rfl, rfl⟩
  · obtain ⟨q7, q8⟩ := or_f hb6
    replace h := is_else (ne_t hb6) h
    refine aw_seq ?_
    refine aw_region ?_
    refine ao_read trivial (r_fieldAddr Tryd.underlying27 rfl Tryd.sizeOf3 rfl rfl rfl) rfl ?_
    refine ao_read trivial (r_load_cell Tryd.isAgg3 rfl rfl rfl) rfl ?_
    refine ao_read trivial (r_eql rfl rfl) rfl ?_
    refine ao_read trivial (r_assign rfl) rfl ?_
    refine ao_nil ?_
    refine aq_then ?_
    refine aw_cond rfl (fun hb9 => ?_) (fun hb9 => ?_)
    · have q10 := d_t hb9
      replace h := is_if (d_t hb9) h
      refine aw_seq ?_
      refine aw_region ?_
      refine ao_read trivial (r_load_part (τ := (.pair .str (.pair .str (.pair (.int .i64) .unit)))) (y := ((x0.1, (x0.2.1, (x0.2.2.1, ()))) : (ByteArray × (ByteArray × (Int × Unit))))) [] [] rfl Tryd.isAgg27 Tryd.sizeOf27 rfl rfl rfl rfl) rfl ?_
      refine ao_effS trivial (e_store rfl rfl rfl rfl Tryd.sizeOf27 rfl) ?_
      refine ao_read trivial (r_assign rfl) rfl ?_
      refine ao_nil ?_
      refine aq_then ?_
      refine aw_ret ?_
      refine aq_in_ret ?_
      refine aq_then_ret ?_
      refine aq_ret ?_
      obtain rfl := is_some h
      exact aq_finx (l := [.cell 4 27, .tmp 5]) (xs := [.st [.str x0.1, .str x0.2.1, .int .i64 x0.2.2.1], .int .i64 2]) idn [.v (.pair .str (.pair .str (.pair (.int .i64) .unit))) ((x0.1, (x0.2.1, (x0.2.2.1, ()))) : (ByteArray × (ByteArray × (Int × Unit)))), .int .i64 2] [] rfl (by exact ⟨⟨⟨_, _, rfl⟩, r_load_st [] [.cell (.str x0.1), .cell (.str x0.2.1), .cell (.int .i64 x0.2.2.1)] [] Tryd.isAgg27 Tryd.sizeOf27 rfl rfl rfl rfl rfl rfl rfl⟩, rfl, trivial⟩) (by exact ⟨ad_st rfl rfl ⟨ad_ren rfl, ad_ren rfl, ad_ren rfl, trivial⟩, ad_ren rfl, trivial⟩) (by exact trivial) rfl (nk rfl) rfl rfl ⟨rfl, rfl⟩
    · have q11 := d_f hb9
      replace h := is_else (d_f hb9) h
      refine aw_skip ?_
      refine aq_in ?_
      refine aq_then ?_
      refine aw_seq ?_
      refine aw_region ?_
      refine ao_read trivial (r_fieldAddr Tryd.underlying27 rfl Tryd.sizeOf3 rfl rfl rfl) rfl ?_
      refine ao_read trivial (r_load_cell Tryd.isAgg3 rfl rfl rfl) rfl ?_
      refine ao_read trivial (r_load_part (τ := (.pair .str (.pair .str .unit))) (y := ((x1.1, (x1.2.1, ())) : (ByteArray × (ByteArray × Unit)))) [] [] rfl Tryd.isAgg33 Tryd.sizeOf33 rfl rfl rfl rfl) rfl ?_
      obtain ⟨r12, r12h, h⟩ := is_bind h
      refine ao_scall trivial (scall (c_impl_EncodeRecord (is_mk r12h)) rfl Tryd.func13 rfl rfl rfl rfl (fun σ => ⟨ad_ren rfl, ad_ren rfl, trivial⟩)) rfl ?_
      refine ao_read trivial (r_move rfl) rfl ?_
      refine ao_read trivial (r_extract rfl rfl) rfl ?_
      refine ao_read trivial (r_extract rfl rfl) rfl ?_
      refine ao_read trivial (r_assign rfl) rfl ?_
      refine ao_read trivial (r_assign rfl) rfl ?_
      refine ao_nil ?_
      refine aq_then ?_
      refine aw_seq ?_
      refine aw_region ?_
      refine ao_read trivial (r_fieldAddr Tryd.underlying27 rfl Tryd.sizeOf9 rfl rfl rfl) rfl ?_
      refine ao_read trivial (r_load_cell Tryd.isAgg9 rfl rfl rfl) rfl ?_
      refine ao_read trivial (r_move rfl) rfl ?_
      obtain ⟨g13, h⟩ := is_guard h
      refine ao_read trivial (r_add_str (a := x0.2.1) (b := r12.1) rfl rfl (by omega)) rfl ?_
      refine ao_read trivial (r_fieldAddr Tryd.underlying27 rfl Tryd.sizeOf9 rfl rfl rfl) rfl ?_
      refine ao_effS trivial (e_store rfl rfl rfl rfl Tryd.sizeOf9 rfl) ?_
      refine ao_nil ?_
      refine aq_then ?_
      refine aw_seq ?_
      refine aw_region ?_
      refine ao_read trivial (r_fieldAddr Tryd.underlying27 rfl Tryd.sizeOf3 rfl rfl rfl) rfl ?_
      refine ao_read trivial (r_load_cell Tryd.isAgg3 rfl rfl rfl) rfl ?_
      refine ao_read trivial (r_add rfl rfl) rfl ?_
      refine ao_read trivial (r_fieldAddr Tryd.underlying27 rfl Tryd.sizeOf3 rfl rfl rfl) rfl ?_
      refine ao_effS trivial (e_store rfl rfl rfl rfl Tryd.sizeOf3 rfl) ?_
      refine ao_nil ?_
      refine aq_then ?_
      refine aw_seq ?_
      refine aw_region ?_
      refine ao_read trivial (r_load_part (τ := (.pair .str (.pair .str (.pair (.int .i64) .unit)))) (y := ((x0.1, ((x0.2.1 ++ r12.1), ((IntKind.wrap .i64 (x0.2.2.1 + 1)), ()))) : (ByteArray × (ByteArray × (Int × Unit))))) [] [] rfl Tryd.isAgg27 Tryd.sizeOf27 rfl rfl rfl rfl) rfl ?_
      refine ao_effS trivial (e_store rfl rfl rfl rfl Tryd.sizeOf27 rfl) ?_
      refine ao_read trivial (r_assign rfl) rfl ?_
      refine ao_nil ?_
      refine aq_then ?_
      refine aw_ret ?_
      refine aq_ret ?_
      obtain rfl := is_some h
      exact aq_finx (l := [.cell 4 27, .tmp 5]) (xs := [.st [.str x0.1, .str (x0.2.1 ++ r12.1), .int .i64 (IntKind.wrap .i64 (x0.2.2.1 + 1))], .int .i64 0]) idn [.v (.pair .str (.pair .str (.pair (.int .i64) .unit))) ((x0.1, ((x0.2.1 ++ r12.1), ((IntKind.wrap .i64 (x0.2.2.1 + 1)), ()))) : (ByteArray × (ByteArray × (Int × Unit)))), .int .i64 0] [] rfl (by exact ⟨⟨⟨_, _, rfl⟩, r_load_st [] [.cell (.str x0.1), .cell (.str (x0.2.1 ++ r12.1)), .cell (.int .i64 (IntKind.wrap .i64 (x0.2.2.1 + 1)))] [] Tryd.isAgg27 Tryd.sizeOf27 rfl rfl rfl rfl rfl rfl rfl⟩, rfl, trivial⟩) (by exact ⟨ad_st rfl rfl ⟨ad_ren rfl, ad_ren rfl, ad_ren rfl, trivial⟩, ad_ren rfl, trivial⟩) (by exact trivial) rfl (nk rfl) rfl rfl ⟨rfl, rfl⟩
theorem c_impl_SyncLog {fu : Nat} {x0 : (ByteArray × (ByteArray × (Int × Unit)))} {r : (ByteArray × (ByteArray × (Int × Unit))) × Bool} (h : Is (p_impl_SyncLog fu x0) (some r)) :
    Scalar Tryd.prog 20 [.v (.pair .str (.pair .str (.pair (.int .i64) .unit))) x0] (.tup [.v (.pair .str (.pair .str (.pair (.int .i64) .unit))) r.1, .bool r.2]) := by
  unfold p_impl_SyncLog at h
  refine ac_enter ⟨16, 0⟩ Tryd.func20 rfl rfl rfl rfl rfl (fun Γ => ?_)
  refine aw_seq ?_
  refine aw_region ?_
  refine ao_eff trivial (e_box 0 rfl rfl rfl rfl rfl rfl) rfl ?_
  refine ao_eff trivial (e_alloc 1 (y := .st [.str ByteArray.empty, .str ByteArray.empty, .int .i64 0]) Tryd.zeroValue27 (fun ρ h M => ra_zero_st (t := (.pair .str (.pair .str (.pair (.int .i64) .unit)))) rfl rfl rfl) rfl rfl rfl rfl rfl) rfl ?_
  refine ao_read trivial (r_assign rfl) rfl ?_
  refine ao_nil ?_
  refine aq_then ?_
  refine aw_seq ?_
  refine aw_seq ?_
  refine aw_region ?_
  refine ao_read trivial (r_load_part (τ := (.pair .str (.pair .str (.pair (.int .i64) .unit)))) (y := ((x0.1, (x0.2.1, (x0.2.2.1, ()))) : (ByteArray × (ByteArray × (Int × Unit))))) [] [] rfl Tryd.isAgg27 Tryd.sizeOf27 rfl rfl rfl rfl) rfl ?_
  obtain ⟨r1, r1h, h⟩ := is_bind h
  refine ao_scall trivial (scall (c_impl_IsValidLog (is_mk r1h)) rfl Tryd.func22 rfl rfl rfl rfl (fun σ => ⟨ad_ren rfl, trivial⟩)) rfl ?_
  refine ao_read trivial (r_not rfl) rfl ?_
  refine ao_nil ?_
  refine aq_then ?_
  refine aw_cond rfl (fun hb2 => ?_) (fun hb2 => ?_)
  · replace h := is_else (ne_t (not_t hb2)) h
    refine aw_seq ?_
    refine aw_region ?_
    refine ao_read trivial (r_build_stv (l := []) (cs := [.cell (.str ByteArray.empty), .cell (.str ByteArray.empty), .cell (.int .i64 0)]) (.pair .str (.pair .str (.pair (.int .i64) .unit))) ((ByteArray.empty, (ByteArray.empty, (0, ()))) : (ByteArray × (ByteArray × (Int × Unit)))) [(0, 1), (1, 1), (2, 1)] Tryd.underlying27 Tryd.zeroValue27 rfl ⟨rfl, Tryd.sizeOf9, rfl, Tryd.sizeOf9, rfl, Tryd.sizeOf3, trivial⟩ rfl rfl rfl rfl) rfl ?_
    refine ao_effS trivial (e_store rfl rfl rfl rfl Tryd.sizeOf27 rfl) ?_
    refine ao_read trivial (r_assign rfl) rfl ?_
    refine ao_nil ?_
    refine aq_then ?_
    refine aw_ret ?_
    refine aq_then_ret ?_
    refine aq_ret ?_
    obtain rfl := is_some h
    exact aq_finx (l := [.cell 2 27, .tmp 3]) (xs := [.st [.str ByteArray.empty, .str ByteArray.empty, .int .i64 0], .bool false]) idn [.v (.pair .str (.pair .str (.pair (.int .i64) .unit))) ((ByteArray.empty, (ByteArray.empty, (0, ()))) : (ByteArray × (ByteArray × (Int × Unit)))), .bool false] [] rfl (by exact ⟨⟨⟨_, _, rfl⟩, r_load_st [] [.cell (.str ByteArray.empty), .cell (.str ByteArray.empty), .cell (.int .i64 0)] [] Tryd.isAgg27 Tryd.sizeOf27 rfl rfl rfl rfl rfl rfl rfl⟩, rfl, trivial⟩) (by exact ⟨ad_st rfl rfl ⟨ad_ren rfl, ad_ren rfl, ad_ren rfl, trivial⟩, ad_ren rfl, trivial⟩) (by exact trivial) rfl (nk rfl) rfl rfl ⟨rfl, rfl⟩
  · replace h := is_if (not_f hb2) h
    refine aw_skip ?_
    refine aq_then ?_
    refine aw_seq ?_
    refine aw_region ?_
    refine ao_read trivial (r_fieldAddr Tryd.underlying27 rfl Tryd.sizeOf9 rfl rfl rfl) rfl ?_
    refine ao_read trivial (r_load_cell Tryd.isAgg9 rfl rfl rfl) rfl ?_
    refine ao_read trivial (r_fieldAddr Tryd.underlying27 rfl Tryd.sizeOf9 rfl rfl rfl) rfl ?_
    refine ao_read trivial (r_load_cell Tryd.isAgg9 rfl rfl rfl) rfl ?_
    obtain ⟨g3, h⟩ := is_guard h
    refine ao_read trivial (r_add_str (a := x0.1) (b := x0.2.1) rfl rfl (by omega)) rfl ?_
    refine ao_read trivial (r_fieldAddr Tryd.underlying27 rfl Tryd.sizeOf3 rfl rfl rfl) rfl ?_
    refine ao_read trivial (r_load_cell Tryd.isAgg3 rfl rfl rfl) rfl ?_
    refine ao_read trivial (r_build_stv (l := [(0, .tmp 12), (1, .const (.string (ByteArray.mk #[]))), (2, .tmp 14)]) (cs := [.cell (.str (x0.1 ++ x0.2.1)), .cell (.str (ByteArray.mk #[])), .cell (.int .i64 x0.2.2.1)]) (.pair .str (.pair .str (.pair (.int .i64) .unit))) (((x0.1 ++ x0.2.1), ((ByteArray.mk #[]), (x0.2.2.1, ()))) : (ByteArray × (ByteArray × (Int × Unit)))) [(0, 1), (1, 1), (2, 1)] Tryd.underlying27 Tryd.zeroValue27 rfl ⟨rfl, Tryd.sizeOf9, rfl, Tryd.sizeOf9, rfl, Tryd.sizeOf3, trivial⟩ rfl rfl rfl rfl) rfl ?_
    refine ao_effS trivial (e_store rfl rfl rfl rfl Tryd.sizeOf27 rfl) ?_
    refine ao_read trivial (r_assign rfl) rfl ?_
    refine ao_nil ?_
    refine aq_then ?_
    refine aw_ret ?_
    refine aq_ret ?_
    obtain rfl := is_some h
    exact aq_finx (l := [.cell 2 27, .tmp 3]) (xs := [.st [.str (x0.1 ++ x0.2.1), .str (ByteArray.mk #[]), .int .i64 x0.2.2.1], .bool true]) idn [.v (.pair .str (.pair .str (.pair (.int .i64) .unit))) (((x0.1 ++ x0.2.1), ((ByteArray.mk #[]), (x0.2.2.1, ()))) : (ByteArray × (ByteArray × (Int × Unit)))), .bool true] [] rfl (by exact ⟨⟨⟨_, _, rfl⟩, r_load_st [] [.cell (.str (x0.1 ++ x0.2.1)), .cell (.str (ByteArray.mk #[])), .cell (.int .i64 x0.2.2.1)] [] Tryd.isAgg27 Tryd.sizeOf27 rfl rfl rfl rfl rfl rfl rfl⟩, rfl, trivial⟩) (by exact ⟨ad_st rfl rfl ⟨ad_ren rfl, ad_ren rfl, ad_ren rfl, trivial⟩, ad_ren rfl, trivial⟩) (by exact trivial) rfl (nk rfl) rfl rfl ⟨rfl, rfl⟩
theorem c_impl_LogRecords {fu : Nat} {x0 : (ByteArray × (ByteArray × (Int × Unit)))} {r : (List (ByteArray × (ByteArray × Unit))) × Bool} (h : Is (p_impl_LogRecords fu x0) (some r)) :
    ACalls Tryd.prog 23 [.v (.pair .str (.pair .str (.pair (.int .i64) .unit))) x0] [] (fun r' H' => r' = .tup [.os 0, .bool r.2] ∧ H' = [(0, .row (.pair .str (.pair .str .unit)) r.1)]) := by
  unfold p_impl_LogRecords at h
  refine ac_enter ⟨14, 0⟩ Tryd.func23 rfl rfl rfl rfl rfl (fun Γ => ?_)
  refine aw_seq ?_
  refine aw_region ?_
  refine ao_eff trivial (e_box 0 rfl rfl rfl rfl rfl rfl) rfl ?_
  refine ao_read trivial (r_assign rfl) rfl ?_
  refine ao_read trivial (r_assign rfl) rfl ?_
  refine ao_nil ?_
  refine aq_then ?_
  refine aw_seq ?_
  refine aw_region ?_
  refine ao_read trivial (r_load_part (τ := (.pair .str (.pair .str (.pair (.int .i64) .unit)))) (y := ((x0.1, (x0.2.1, (x0.2.2.1, ()))) : (ByteArray × (ByteArray × (Int × Unit))))) [] [] rfl Tryd.isAgg27 Tryd.sizeOf27 rfl rfl rfl rfl) rfl ?_
  obtain ⟨r1, r1h, h⟩ := is_bind h
  refine ao_call [] 1 trivial (c_impl_readLog (is_mk r1h)) Tryd.func44 rfl rfl rfl rfl ⟨ad_ren rfl, trivial⟩ trivial rfl rfl rfl rfl rfl rfl rfl (fun r' H' hr => ?_)
  obtain ⟨rfl, rfl⟩ := hr
  refine ao_norm (y := .tup [.os 1, .bool r1.2]) (H' := [(0, .var [.cell (.str x0.1), .cell (.str x0.2.1), .cell (.int .i64 x0.2.2.1)]), (1, .row (.pair .str (.pair .str .unit)) r1.1)]) rfl rfl ?_
  refine row_len_o 1 (r1.1.length : Int) rfl rfl (fun hr2 => ?_)
  refine ao_read trivial (r_move rfl) rfl ?_
  refine ao_read trivial (r_extract rfl rfl) rfl ?_
  refine ao_read trivial (r_extract rfl rfl) rfl ?_
  refine ao_read trivial (r_assign rfl) rfl ?_
  refine ao_read trivial (r_assign rfl) rfl ?_
  refine ao_nil ?_
  refine aq_then ?_
  refine aw_seq ?_
  refine aw_seq ?_
  refine aw_region ?_
  refine ao_read trivial (r_move rfl) rfl ?_
  refine ao_read trivial (r_not rfl) rfl ?_
  refine ao_nil ?_
  refine aq_then ?_
  refine aw_cond rfl (fun hb3 => ?_) (fun hb3 => ?_)
  · replace h := is_else (ne_t (not_t hb3)) h
    refine aw_seq ?_
    refine aw_region ?_
    refine ao_read trivial (r_assign rfl) rfl ?_
    refine ao_read trivial (r_assign rfl) rfl ?_
    refine ao_nil ?_
    refine aq_then ?_
    refine aw_ret ?_
    refine aq_then_ret ?_
    refine aq_ret ?_
    obtain rfl := is_some h
    refine AQ.sub (sub_nil (T := 2) (t := (.pair .str (.pair .str .unit))) 2 rfl rfl rfl) ?_
    exact aq_finx (l := [.tmp 2, .tmp 3]) (xs := [.os 2, .bool false]) (rn [(0, 2)]) [.os 0, .bool false] [(0, .row (.pair .str (.pair .str .unit)) ([] : (List (ByteArray × (ByteArray × Unit)))))] rfl (by exact ⟨rfl, rfl, trivial⟩) (by exact ⟨ad_ren rfl, ad_ren rfl, trivial⟩) (by exact ⟨⟨_, rfl, rfl⟩, trivial⟩) rfl (nk rfl) rfl rfl ⟨rfl, rfl⟩
  · replace h := is_if (not_f hb3) h
    refine aw_skip ?_
    refine aq_then ?_
    refine aw_seq ?_
    refine aw_region ?_
    refine ao_read trivial (r_move rfl) rfl ?_
    refine ao_read trivial (r_assign rfl) rfl ?_
    refine ao_read trivial (r_assign rfl) rfl ?_
    refine ao_nil ?_
    refine aq_then ?_
    refine aw_ret ?_
    refine aq_ret ?_
    obtain rfl := is_some h
    exact aq_finx (l := [.tmp 2, .tmp 3]) (xs := [.os 1, .bool true]) (rn [(0, 1)]) [.os 0, .bool true] [(0, .row (.pair .str (.pair .str .unit)) r1.1)] rfl (by exact ⟨rfl, rfl, trivial⟩) (by exact ⟨ad_ren rfl, ad_ren rfl, trivial⟩) (by exact ⟨⟨_, rfl, rfl⟩, trivial⟩) rfl (nk rfl) rfl rfl ⟨rfl, rfl⟩
theorem c_spec_LogRecords {fu : Nat} {x0 : (ByteArray × (ByteArray × (Int × Unit)))} {r : (List (ByteArray × (ByteArray × Unit))) × Bool} (h : Is (p_spec_LogRecords fu x0) (some r)) :
    ACalls Tryd.prog 24 [.v (.pair .str (.pair .str (.pair (.int .i64) .unit))) x0] [] (fun r' H' => r' = .tup [.os 0, .bool r.2] ∧ H' = [(0, .row (.pair .str (.pair .str .unit)) r.1)]) := by
  unfold p_spec_LogRecords at h
  refine ac_enter ⟨20, 0⟩ Tryd.func24 rfl rfl rfl rfl rfl (fun Γ => ?_)
  refine aw_seq ?_
  refine aw_region ?_
  refine ao_eff trivial (e_box 0 rfl rfl rfl rfl rfl rfl) rfl ?_
  refine ao_read trivial (r_assign rfl) rfl ?_
  refine ao_read trivial (r_assign rfl) rfl ?_
  refine ao_nil ?_
  refine aq_then ?_
  refine aw_seq ?_
  refine aw_seq ?_
  refine aw_region ?_
  refine ao_read trivial (r_load_part (τ := (.pair .str (.pair .str (.pair (.int .i64) .unit)))) (y := ((x0.1, (x0.2.1, (x0.2.2.1, ()))) : (ByteArray × (ByteArray × (Int × Unit))))) [] [] rfl Tryd.isAgg27 Tryd.sizeOf27 rfl rfl rfl rfl) rfl ?_
  obtain ⟨r1, r1h, h⟩ := is_bind h
  refine ao_scall trivial (scall (c_spec_l12Valid (is_mk r1h)) rfl Tryd.func30 rfl rfl rfl rfl (fun σ => ⟨ad_ren rfl, trivial⟩)) rfl ?_
  refine ao_read trivial (r_not rfl) rfl ?_
  refine ao_nil ?_
  refine aq_then ?_
  refine aw_cond rfl (fun hb2 => ?_) (fun hb2 => ?_)
  · replace h := is_else (ne_t (not_t hb2)) h
    refine aw_seq ?_
    refine aw_region ?_
    refine ao_eff trivial (e_buildSlice (l := []) (t := (.pair .str (.pair .str .unit))) 1 ([] : (List (ByteArray × (ByteArray × Unit)))) rfl Tryd.underlying47 Tryd.zeroValue33 Tryd.sizeOf33 rfl rfl rfl rfl rfl rfl rfl) rfl ?_
    refine ao_read trivial (r_assign rfl) rfl ?_
    refine ao_read trivial (r_assign rfl) rfl ?_
    refine ao_nil ?_
    refine aq_then ?_
    refine aw_ret ?_
    refine aq_then_ret ?_
    refine aq_ret ?_
    obtain rfl := is_some h
    exact aq_finx (l := [.tmp 2, .tmp 3]) (xs := [.os 1, .bool false]) (rn [(0, 1)]) [.os 0, .bool false] [(0, .row (.pair .str (.pair .str .unit)) ([] : (List (ByteArray × (ByteArray × Unit)))))] rfl (by exact ⟨rfl, rfl, trivial⟩) (by exact ⟨ad_ren rfl, ad_ren rfl, trivial⟩) (by exact ⟨⟨_, rfl, rfl⟩, trivial⟩) rfl (nk rfl) rfl rfl ⟨rfl, rfl⟩
  · replace h := is_if (not_f hb2) h
    refine aw_skip ?_
    refine aq_then ?_
    refine aw_seq ?_
    refine aw_region ?_
    refine ao_read trivial (r_fieldAddr Tryd.underlying27 rfl Tryd.sizeOf9 rfl rfl rfl) rfl ?_
    refine ao_read trivial (r_load_cell Tryd.isAgg9 rfl rfl rfl) rfl ?_
    refine ao_read trivial (r_fieldAddr Tryd.underlying27 rfl Tryd.sizeOf9 rfl rfl rfl) rfl ?_
    refine ao_read trivial (r_load_cell Tryd.isAgg9 rfl rfl rfl) rfl ?_
    obtain ⟨g3, h⟩ := is_guard h
    refine ao_read trivial (r_add_str (a := x0.1) (b := x0.2.1) rfl rfl (by omega)) rfl ?_
    obtain ⟨r4, r4h, h⟩ := is_bind h
    refine ao_call [] 2 trivial (c_spec_l12Open (is_mk r4h)) Tryd.func45 rfl rfl rfl rfl ⟨ad_ren rfl, trivial⟩ trivial rfl rfl rfl rfl rfl rfl rfl (fun r' H' hr => ?_)
    obtain ⟨rfl, rfl⟩ := hr
    refine ao_norm (y := .tup [.os 2, .int .i64 r4.2]) (H' := [(0, .var [.cell (.str x0.1), .cell (.str x0.2.1), .cell (.int .i64 x0.2.2.1)]), (2, .row (.pair .str (.pair .str .unit)) r4.1)]) rfl rfl ?_
    refine row_len_o 2 (r4.1.length : Int) rfl rfl (fun hr5 => ?_)
    refine ao_read trivial (r_move rfl) rfl ?_
    refine ao_read trivial (r_extract rfl rfl) rfl ?_
    refine ao_read trivial (r_extract rfl rfl) rfl ?_
    refine ao_read trivial (r_assign rfl) rfl ?_
    refine ao_read trivial (r_assign rfl) rfl ?_
    refine ao_nil ?_
    refine aq_then ?_
    refine aw_seq ?_
    refine aw_region ?_
    refine ao_read trivial (r_move rfl) rfl ?_
    refine ao_read trivial (r_assign rfl) rfl ?_
    refine ao_read trivial (r_assign rfl) rfl ?_
    refine ao_nil ?_
    refine aq_then ?_
    refine aw_ret ?_
    refine aq_ret ?_
    obtain rfl := is_some h
    exact aq_finx (l := [.tmp 2, .tmp 3]) (xs := [.os 2, .bool true]) (rn [(0, 2)]) [.os 0, .bool true] [(0, .row (.pair .str (.pair .str .unit)) r4.1)] rfl (by exact ⟨rfl, rfl, trivial⟩) (by exact ⟨ad_ren rfl, ad_ren rfl, trivial⟩) (by exact ⟨⟨_, rfl, rfl⟩, trivial⟩) rfl (nk rfl) rfl rfl ⟨rfl, rfl⟩
end Go.GA
