/- Walks: what the Go functions compute, by the printed lines below; no further conditions. -/
import Derived.Test.YtbfjbbfekodohaaC12vwb
namespace Go.GA
open Go Go.Proofs
set_option maxRecDepth 100000
set_option maxHeartbeats 2000000
set_option linter.unusedVariables false
set_option linter.unusedSimpArgs false
theorem c_spec_l12Make {fu : Nat} {x0 : dy3} {x1 : dy6} {r : dy3 × Bool} (h : Is (p_spec_l12Make fu x0 x1) (some r)) :
    ACallsV Try.prog 64 [.v ty1 x0, .v ty4 x1] [] (fun r' H' => r' = .tup [.v ty1 r.1, .bool r.2] ∧ H' = []) := by
  unfold p_spec_l12Make at h
  refine ac_enterV ⟨173, 0⟩ Try.func64 rfl rfl rfl rfl rfl (fun Γ => ?_)
  refine aw_seq ?_
  refine aw_region ?_
  refine ao_eff trivial (e_box 0 rfl rfl rfl rfl rfl rfl) rfl ?_
  refine ao_eff trivial (e_box 1 rfl rfl rfl rfl rfl rfl) rfl ?_
  refine ao_eff trivial (e_alloc 2 (y := .st [.nilsl, .int .i64 0, .nilsl, .int .i64 0, .int .i64 0, .int .i64 0]) Try.zeroValue29 (fun ρ h M => ra_zero_st (t := ty1) rfl rfl rfl) rfl rfl rfl rfl rfl) rfl ?_
  refine ao_r (r_assign rfl) rfl ?_
  refine ao_nil ?_
  refine aq_then ?_
  refine aw_seq ?_
  refine aw_region ?_
  refine ao_r (r_fieldAddr Try.underlying29 rfl Try.sizeOf22 rfl rfl rfl) rfl ?_
  refine ao_r (r_load_cell Try.isAgg22 rfl rfl rfl) rfl ?_
  refine ao_r (r_len_vm (x0.1.length : Int) Try.underlying22 rfl rfl) rfl ?_
  refine ao_r (r_shl rfl rfl (by omega)) rfl ?_
  refine ao_r (r_sub rfl rfl) rfl ?_
  refine ao_r (r_assign rfl) rfl ?_
  refine ao_nil ?_
  refine aq_then ?_
  refine aw_seq ?_
  refine aw_seq ?_
  refine aw_region ?_
  refine ao_r (r_fieldAddr Try.underlying33 rfl Try.sizeOf3 rfl rfl rfl) rfl ?_
  refine ao_r (r_load_cell Try.isAgg3 rfl rfl rfl) rfl ?_
  refine ao_nil ?_
  refine aq_then ?_
  refine aw_block ?_
  refine aw_seq ?_
  refine aw_region ?_
  refine ao_r (r_eql rfl rfl) rfl ?_
  refine ao_r (r_assign rfl) rfl ?_
  refine ao_nil ?_
  refine aq_then ?_
  refine aw_cond rfl (fun hb1 => ?_) (fun hb1 => ?_)
  have q2 := d_t hb1
  replace h := is_if (d_t hb1) h
  refine aw_seq ?_
  obtain ⟨r4, r4h, h⟩ := is_bind h
  refine aw_drawP 16 rfl (by kernel_rfl) ?_
  refine ap_to [(4, .ref 0 0), (5, .bool ((decide (x1.2.1 = 0)) && (decide (x1.2.2.1 = 0))))] [(0, .var [.cell (.v ty5 r4.1), ci r4.2.1, .cell (.v ty7 r4.2.2.1), ci r4.2.2.2.1, ci r4.2.2.2.2.1, ci r4.2.2.2.2.2.1])] ?_ (fun key => ?_)
  refine aq_then ?_
  refine aw_ret ?_
  refine aq_in_ret ?_
  refine aq_then_ret ?_
  refine aq_ret ?_
  obtain rfl := is_some h
  exact aq_finV (l := [.cell 4 29, .tmp 5]) (xs := [.st [.v ty5 r4.1, .int .i64 r4.2.1, .v ty7 r4.2.2.1, .int .i64 r4.2.2.2.1, .int .i64 r4.2.2.2.2.1, .int .i64 r4.2.2.2.2.2.1], .bool ((decide (x1.2.1 = 0)) && (decide (x1.2.2.1 = 0)))]) idn [.v ty1 ((r4.1, (r4.2.1, (r4.2.2.1, (r4.2.2.2.1, (r4.2.2.2.2.1, (r4.2.2.2.2.2.1, ())))))) : dy3), .bool ((decide (x1.2.1 = 0)) && (decide (x1.2.2.1 = 0)))] [] rfl (by exact ⟨⟨⟨_, _, rfl⟩, r_load_st [] [.cell (.v ty5 r4.1), ci r4.2.1, .cell (.v ty7 r4.2.2.1), ci r4.2.2.2.1, ci r4.2.2.2.2.1, ci r4.2.2.2.2.2.1] [] Try.isAgg29 Try.sizeOf29 rfl rfl rfl rfl rfl rfl rfl⟩, rfl, trivial⟩) (by exact ⟨ad_st rfl rfl ⟨ad_ren rfl, ad_ren rfl, ad_ren rfl, ad_ren rfl, ad_ren rfl, ad_ren rfl, trivial⟩, ad_ren rfl, trivial⟩) (by exact trivial) rfl (nk rfl) ⟨rfl, rfl⟩
  refine ap_let (g := 2) (listed := #[true, true, true, true, true, true, true, true, true, true, true, true, true, true, false, false]) [(4, .ref 0 0), (5, .bool false), (26, .v ty1 r4), (34, .bool ((decide (x1.2.1 = 0)) && (decide (x1.2.2.1 = 0))))] [(0, .var [.cell (.nilsl), ci 0, .cell (.nilsl), ci 0, ci 0, ci 0])] ?_ (fun k17 => ?_)
  refine ap_all [14] (by kernel_rfl) ⟨?_, trivial⟩
  refine apo_ao rfl ?_
  refine ao_effS trivial (e_store rfl rfl rfl rfl Try.sizeOf29 rfl) ?_
  refine ap_ni ?_
  refine ap_p 15 (fun _ _ _ h => h) rfl (by kernel_rfl) (rp_assign rfl) rfl ?_
  exact ap_end (by kernel_rfl) (AQ.sub (sub_r1 idn (nk rfl) (by kernel_rfl)) key)
  refine ap_let (g := 4) (listed := #[true, true, true, true, true, true, true, true, true, true, true, false, false, false, true, false]) [(4, .ref 0 0), (5, .bool false), (30, .bool (decide (x1.2.1 = 0))), (31, .gd (decide (x1.2.1 = 0)) (.ref 1 2))] [(0, .var [.cell (.v ty5 r4.1), ci r4.2.1, .cell (.v ty7 r4.2.2.1), ci r4.2.2.2.1, ci r4.2.2.2.2.1, ci r4.2.2.2.2.2.1]), (1, .var [ci x1.1, ci x1.2.1, ci x1.2.2.1])] ?_ (fun k18 => ?_)
  refine ap_all [11] (by kernel_rfl) ⟨?_, trivial⟩
  refine apo_ao rfl ?_
  refine ao_readG (x := .int .i64 x1.2.2.1) rfl (GV.T rfl) (fun hg7 => by
        have q8 := d_t hg7
        exact Reads.strip 31 rfl (hg7) (r_load_cell Try.isAgg3 rfl rfl rfl)) rfl ?_
  refine ap_ni ?_
  refine ap_pureG 12 (x := .bool (decide (x1.2.2.1 = 0))) (by kernel_rfl) (fun _ _ _ h => h) rfl (by kernel_rfl) rfl (GV.T rfl) (fun hg9 => by
        have q10 := d_t hg9
        exact rp_strip 32 rfl (hg9) (rp_eql rfl rfl)) rfl ?_
  refine ap_p 13 (fun _ _ _ h => h) rfl (by kernel_rfl) (rp_andB rfl rfl) rfl ?_
  refine ap_p 15 (fun _ _ _ h => h) rfl (by kernel_rfl) (rp_assign rfl) rfl ?_
  exact ap_end (by kernel_rfl) (AQ.sub (sub_r1 idn (nk rfl) (by kernel_rfl)) key)
  refine ap_let (g := 5) (listed := #[true, true, true, true, true, true, true, true, true, true, true, false, false, false, false, false]) [(4, .ref 0 0), (5, .bool false), (26, .v ty1 r4), (30, .bool (decide (x1.2.1 = 0))), (31, .gd (decide (x1.2.1 = 0)) (.ref 1 2))] [(0, .var [.cell (.nilsl), ci 0, .cell (.nilsl), ci 0, ci 0, ci 0]), (1, .var [ci x1.1, ci x1.2.1, ci x1.2.2.1])] ?_ (fun k16 => ?_)
  refine ap_all [11, 14] (by kernel_rfl) ⟨?_, ?_, trivial⟩
  refine apo_ao rfl ?_
  refine ao_readG (x := .int .i64 x1.2.2.1) rfl (GV.T rfl) (fun hg7 => by
        have q8 := d_t hg7
        exact Reads.strip 31 rfl (hg7) (r_load_cell Try.isAgg3 rfl rfl rfl)) rfl ?_
  refine ap_ni ?_
  refine ap_pureG 12 (x := .bool (decide (x1.2.2.1 = 0))) (by kernel_rfl) (fun _ _ _ h => h) rfl (by kernel_rfl) rfl (GV.T rfl) (fun hg9 => by
        have q10 := d_t hg9
        exact rp_strip 32 rfl (hg9) (rp_eql rfl rfl)) rfl ?_
  refine ap_p 13 (fun _ _ _ h => h) rfl (by kernel_rfl) (rp_andB rfl rfl) rfl ?_
  exact ap_gr idn (nk rfl) k17 (by kernel_rfl)
  refine apo_ao rfl ?_
  refine ao_effS trivial (e_store rfl rfl rfl rfl Try.sizeOf29 rfl) ?_
  refine ap_ni ?_
  exact ap_gr idn (nk rfl) k18 (by kernel_rfl)
  refine ap_let (g := 8) (listed := #[true, true, true, true, true, false, true, true, true, false, false, false, false, false, false, false]) [(3, .ref 0 0), (4, .ref 1 0), (5, .bool false), (24, .v ty1 ((p_spec_l12Dice (x0.1, (x0.2.1, (x0.2.2.1, (x0.2.2.2.1, (x0.2.2.2.2.1, (x0.2.2.2.2.2.1, ())))))) x0.1) : dy3)), (25, .int .i64 (IntKind.wrap .i64 ((shlI .i64 1 (x0.1.length : Int)) - 1))), (29, .bool (decide (x1.2.1 = 0)))] [(0, .var [ci x1.1, ci x1.2.1, ci x1.2.2.1]), (1, .var [.cell (.nilsl), ci 0, .cell (.nilsl), ci 0, ci 0, ci 0])] ?_ (fun k19 => ?_)
  refine ap_all [5] (by kernel_rfl) ⟨?_, trivial⟩
  refine apo_ao rfl ?_
  refine ao_callV [] 2 trivial (c_spec_l12Rolled (is_mk r4h)) Try.func82 rfl rfl rfl rfl rfl trivial trivial rfl rfl rfl rfl rfl rfl rfl (fun r' H' hr => ?_)
  obtain ⟨rfl, rfl⟩ := hr
  refine ao_norm (y := .v ty1 r4) (H' := [(0, .var [ci x1.1, ci x1.2.1, ci x1.2.2.1]), (1, .var [.cell (.nilsl), ci 0, .cell (.nilsl), ci 0, ci 0, ci 0])]) rfl rfl ?_
  refine ap_ni ?_
  refine ap_p 9 (fun _ _ _ h => h) rfl (by kernel_rfl) (rp_move rfl) rfl ?_
  refine ap_pureG 10 (x := .ref 0 2) (by kernel_rfl) (fun _ _ _ h => h) rfl (by kernel_rfl) rfl (GV.T rfl) (fun hg5 => by
        have q6 := d_t hg5
        exact rp_fieldAddr Try.underlying33 rfl Try.sizeOf3 rfl rfl rfl) rfl ?_
  exact ap_gr (rn [(0, 1), (1, 0)]) (nk rfl) k16 (by kernel_rfl)
  refine ap_let (g := 9) (listed := #[true, true, true, true, true, true, true, false, false, false, false, false, false, false, false, false]) [(3, .ref 0 0), (4, .ref 1 0), (5, .bool false), (26, .v ty1 r4), (27, .ref 0 1)] [(0, .var [ci x1.1, ci x1.2.1, ci x1.2.2.1]), (1, .var [.cell (.nilsl), ci 0, .cell (.nilsl), ci 0, ci 0, ci 0])] ?_ (fun k15 => ?_)
  refine ap_all [7] (by kernel_rfl) ⟨?_, trivial⟩
  refine apo_ao rfl ?_
  refine ao_r (r_load_cell Try.isAgg3 rfl rfl rfl) rfl ?_
  refine ap_ni ?_
  refine ap_p 8 (fun _ _ _ h => h) rfl (by kernel_rfl) (rp_eql rfl rfl) rfl ?_
  refine ap_p 9 (fun _ _ _ h => h) rfl (by kernel_rfl) (rp_move rfl) rfl ?_
  refine ap_pureG 10 (x := .ref 0 2) (by kernel_rfl) (fun _ _ _ h => h) rfl (by kernel_rfl) rfl (GV.T rfl) (fun hg5 => by
        have q6 := d_t hg5
        exact rp_fieldAddr Try.underlying33 rfl Try.sizeOf3 rfl rfl rfl) rfl ?_
  exact ap_gr (rn [(0, 1), (1, 0)]) (nk rfl) k16 (by kernel_rfl)
  refine ap_let (g := 9) (listed := #[true, true, true, false, true, false, true, true, true, false, false, false, false, false, false, false]) [(3, .ref 0 0), (4, .ref 1 0), (5, .bool false), (21, .v ty1 ((x0.1, (x0.2.1, (x0.2.2.1, (x0.2.2.2.1, (x0.2.2.2.2.1, (x0.2.2.2.2.2.1, ())))))) : dy3)), (23, .v ty5 x0.1), (25, .int .i64 (IntKind.wrap .i64 ((shlI .i64 1 (x0.1.length : Int)) - 1))), (29, .bool (decide (x1.2.1 = 0)))] [(0, .var [ci x1.1, ci x1.2.1, ci x1.2.2.1]), (1, .var [.cell (.nilsl), ci 0, .cell (.nilsl), ci 0, ci 0, ci 0])] ?_ (fun k20 => ?_)
  refine ap_all [3] (by kernel_rfl) ⟨?_, trivial⟩
  refine apo_ao rfl ?_
  refine ao_callV [] 2 trivial (c_spec_l12Dice (is_mk (rfl : p_spec_l12Dice (x0.1, (x0.2.1, (x0.2.2.1, (x0.2.2.2.1, (x0.2.2.2.2.1, (x0.2.2.2.2.2.1, ())))))) x0.1 = _))) Try.func83 rfl rfl rfl rfl rfl trivial trivial rfl rfl rfl rfl rfl rfl rfl (fun r' H' hr => ?_)
  obtain ⟨rfl, rfl⟩ := hr
  refine ao_norm (y := .v ty1 ((p_spec_l12Dice (x0.1, (x0.2.1, (x0.2.2.1, (x0.2.2.2.1, (x0.2.2.2.2.1, (x0.2.2.2.2.2.1, ())))))) x0.1) : dy3)) (H' := [(0, .var [ci x1.1, ci x1.2.1, ci x1.2.2.1]), (1, .var [.cell (.nilsl), ci 0, .cell (.nilsl), ci 0, ci 0, ci 0])]) rfl rfl ?_
  refine ap_ni ?_
  exact ap_gr idn (nk rfl) k19 (by kernel_rfl)
  refine ap_let (g := 10) (listed := #[true, true, true, true, true, false, true, false, false, false, false, false, false, false, false, false]) [(3, .ref 0 0), (4, .ref 1 0), (5, .bool false), (24, .v ty1 ((p_spec_l12Dice (x0.1, (x0.2.1, (x0.2.2.1, (x0.2.2.2.1, (x0.2.2.2.2.1, (x0.2.2.2.2.2.1, ())))))) x0.1) : dy3)), (25, .int .i64 (IntKind.wrap .i64 ((shlI .i64 1 (x0.1.length : Int)) - 1))), (27, .ref 0 1)] [(0, .var [ci x1.1, ci x1.2.1, ci x1.2.2.1]), (1, .var [.cell (.nilsl), ci 0, .cell (.nilsl), ci 0, ci 0, ci 0])] ?_ (fun k14 => ?_)
  refine ap_all [5, 7] (by kernel_rfl) ⟨?_, ?_, trivial⟩
  refine apo_ao rfl ?_
  refine ao_callV [] 2 trivial (c_spec_l12Rolled (is_mk r4h)) Try.func82 rfl rfl rfl rfl rfl trivial trivial rfl rfl rfl rfl rfl rfl rfl (fun r' H' hr => ?_)
  obtain ⟨rfl, rfl⟩ := hr
  refine ao_norm (y := .v ty1 r4) (H' := [(0, .var [ci x1.1, ci x1.2.1, ci x1.2.2.1]), (1, .var [.cell (.nilsl), ci 0, .cell (.nilsl), ci 0, ci 0, ci 0])]) rfl rfl ?_
  refine ap_ni ?_
  exact ap_gr idn (nk rfl) k15 (by kernel_rfl)
  refine apo_ao rfl ?_
  refine ao_r (r_load_cell Try.isAgg3 rfl rfl rfl) rfl ?_
  refine ap_ni ?_
  refine ap_p 8 (fun _ _ _ h => h) rfl (by kernel_rfl) (rp_eql rfl rfl) rfl ?_
  exact ap_gr idn (nk rfl) k19 (by kernel_rfl)
  refine ap_let (g := 10) (listed := #[true, true, false, false, true, false, true, true, true, false, false, false, false, false, false, false]) [(3, .ref 0 0), (4, .ref 1 0), (5, .bool false), (21, .v ty1 ((x0.1, (x0.2.1, (x0.2.2.1, (x0.2.2.2.1, (x0.2.2.2.2.1, (x0.2.2.2.2.2.1, ())))))) : dy3)), (22, .ref 2 0), (25, .int .i64 (IntKind.wrap .i64 ((shlI .i64 1 (x0.1.length : Int)) - 1))), (29, .bool (decide (x1.2.1 = 0)))] [(0, .var [ci x1.1, ci x1.2.1, ci x1.2.2.1]), (1, .var [.cell (.nilsl), ci 0, .cell (.nilsl), ci 0, ci 0, ci 0]), (2, .var [.cell (.v ty5 x0.1), ci x0.2.1, .cell (.v ty7 x0.2.2.1), ci x0.2.2.2.1, ci x0.2.2.2.2.1, ci x0.2.2.2.2.2.1])] ?_ (fun k21 => ?_)
  refine ap_all [2] (by kernel_rfl) ⟨?_, trivial⟩
  refine apo_ao rfl ?_
  refine ao_r (r_load_cell Try.isAgg22 rfl rfl rfl) rfl ?_
  refine ap_ni ?_
  exact ap_gr idn (nk rfl) k20 (by kernel_rfl)
  refine ap_let (g := 10) (listed := #[false, true, true, false, true, false, true, true, true, false, false, false, false, false, false, false]) [(2, .ref 0 0), (3, .ref 1 0), (4, .ref 2 0), (5, .bool false), (23, .v ty5 x0.1), (25, .int .i64 (IntKind.wrap .i64 ((shlI .i64 1 (x0.1.length : Int)) - 1))), (29, .bool (decide (x1.2.1 = 0)))] [(0, .var [.cell (.v ty5 x0.1), ci x0.2.1, .cell (.v ty7 x0.2.2.1), ci x0.2.2.2.1, ci x0.2.2.2.2.1, ci x0.2.2.2.2.2.1]), (1, .var [ci x1.1, ci x1.2.1, ci x1.2.2.1]), (2, .var [.cell (.nilsl), ci 0, .cell (.nilsl), ci 0, ci 0, ci 0])] ?_ (fun k23 => ?_)
  refine ap_all [0] (by kernel_rfl) ⟨?_, trivial⟩
  refine apo_ao rfl ?_
  refine ao_r (r_load_part (τ := ty1) (y := ((x0.1, (x0.2.1, (x0.2.2.1, (x0.2.2.2.1, (x0.2.2.2.2.1, (x0.2.2.2.2.2.1, ())))))) : dy3)) [] [] rfl Try.isAgg29 Try.sizeOf29 rfl rfl rfl rfl) rfl ?_
  refine ap_ni ?_
  exact ap_gr (rn [(0, 1), (1, 2)]) (nk rfl) k20 (by kernel_rfl)
  refine ap_let (g := 11) (listed := #[true, true, true, false, true, false, true, false, false, false, false, false, false, false, false, false]) [(3, .ref 0 0), (4, .ref 1 0), (5, .bool false), (21, .v ty1 ((x0.1, (x0.2.1, (x0.2.2.1, (x0.2.2.2.1, (x0.2.2.2.2.1, (x0.2.2.2.2.2.1, ())))))) : dy3)), (23, .v ty5 x0.1), (25, .int .i64 (IntKind.wrap .i64 ((shlI .i64 1 (x0.1.length : Int)) - 1))), (27, .ref 0 1)] [(0, .var [ci x1.1, ci x1.2.1, ci x1.2.2.1]), (1, .var [.cell (.nilsl), ci 0, .cell (.nilsl), ci 0, ci 0, ci 0])] ?_ (fun k13 => ?_)
  refine ap_all [3, 7] (by kernel_rfl) ⟨?_, ?_, trivial⟩
  refine apo_ao rfl ?_
  refine ao_callV [] 2 trivial (c_spec_l12Dice (is_mk (rfl : p_spec_l12Dice (x0.1, (x0.2.1, (x0.2.2.1, (x0.2.2.2.1, (x0.2.2.2.2.1, (x0.2.2.2.2.2.1, ())))))) x0.1 = _))) Try.func83 rfl rfl rfl rfl rfl trivial trivial rfl rfl rfl rfl rfl rfl rfl (fun r' H' hr => ?_)
  obtain ⟨rfl, rfl⟩ := hr
  refine ao_norm (y := .v ty1 ((p_spec_l12Dice (x0.1, (x0.2.1, (x0.2.2.1, (x0.2.2.2.1, (x0.2.2.2.2.1, (x0.2.2.2.2.2.1, ())))))) x0.1) : dy3)) (H' := [(0, .var [ci x1.1, ci x1.2.1, ci x1.2.2.1]), (1, .var [.cell (.nilsl), ci 0, .cell (.nilsl), ci 0, ci 0, ci 0])]) rfl rfl ?_
  refine ap_ni ?_
  exact ap_gr idn (nk rfl) k14 (by kernel_rfl)
  refine apo_ao rfl ?_
  refine ao_r (r_load_cell Try.isAgg3 rfl rfl rfl) rfl ?_
  refine ap_ni ?_
  refine ap_p 8 (fun _ _ _ h => h) rfl (by kernel_rfl) (rp_eql rfl rfl) rfl ?_
  exact ap_gr idn (nk rfl) k20 (by kernel_rfl)
  refine ap_let (g := 11) (listed := #[false, true, false, false, true, false, true, true, true, false, false, false, false, false, false, false]) [(2, .ref 0 0), (3, .ref 1 0), (4, .ref 2 0), (5, .bool false), (22, .ref 0 0), (25, .int .i64 (IntKind.wrap .i64 ((shlI .i64 1 (x0.1.length : Int)) - 1))), (29, .bool (decide (x1.2.1 = 0)))] [(0, .var [.cell (.v ty5 x0.1), ci x0.2.1, .cell (.v ty7 x0.2.2.1), ci x0.2.2.2.1, ci x0.2.2.2.2.1, ci x0.2.2.2.2.2.1]), (1, .var [ci x1.1, ci x1.2.1, ci x1.2.2.1]), (2, .var [.cell (.nilsl), ci 0, .cell (.nilsl), ci 0, ci 0, ci 0])] ?_ (fun k24 => ?_)
  refine ap_all [0, 2] (by kernel_rfl) ⟨?_, ?_, trivial⟩
  refine apo_ao rfl ?_
  refine ao_r (r_load_part (τ := ty1) (y := ((x0.1, (x0.2.1, (x0.2.2.1, (x0.2.2.2.1, (x0.2.2.2.2.1, (x0.2.2.2.2.2.1, ())))))) : dy3)) [] [] rfl Try.isAgg29 Try.sizeOf29 rfl rfl rfl rfl) rfl ?_
  refine ap_ni ?_
  exact ap_gr (rn [(0, 1), (1, 2), (2, 0)]) (nk rfl) k21 (by kernel_rfl)
  refine apo_ao rfl ?_
  refine ao_r (r_load_cell Try.isAgg22 rfl rfl rfl) rfl ?_
  refine ap_ni ?_
  exact ap_gr idn (nk rfl) k23 (by kernel_rfl)
  refine ap_let (g := 12) (listed := #[true, true, false, false, true, false, true, false, false, false, false, false, false, false, false, false]) [(3, .ref 0 0), (4, .ref 1 0), (5, .bool false), (21, .v ty1 ((x0.1, (x0.2.1, (x0.2.2.1, (x0.2.2.2.1, (x0.2.2.2.2.1, (x0.2.2.2.2.2.1, ())))))) : dy3)), (22, .ref 2 0), (25, .int .i64 (IntKind.wrap .i64 ((shlI .i64 1 (x0.1.length : Int)) - 1))), (27, .ref 0 1)] [(0, .var [ci x1.1, ci x1.2.1, ci x1.2.2.1]), (1, .var [.cell (.nilsl), ci 0, .cell (.nilsl), ci 0, ci 0, ci 0]), (2, .var [.cell (.v ty5 x0.1), ci x0.2.1, .cell (.v ty7 x0.2.2.1), ci x0.2.2.2.1, ci x0.2.2.2.2.1, ci x0.2.2.2.2.2.1])] ?_ (fun k12 => ?_)
  refine ap_all [2, 7] (by kernel_rfl) ⟨?_, ?_, trivial⟩
  refine apo_ao rfl ?_
  refine ao_r (r_load_cell Try.isAgg22 rfl rfl rfl) rfl ?_
  refine ap_ni ?_
  exact ap_gr idn (nk rfl) k13 (by kernel_rfl)
  refine apo_ao rfl ?_
  refine ao_r (r_load_cell Try.isAgg3 rfl rfl rfl) rfl ?_
  refine ap_ni ?_
  refine ap_p 8 (fun _ _ _ h => h) rfl (by kernel_rfl) (rp_eql rfl rfl) rfl ?_
  exact ap_gr idn (nk rfl) k21 (by kernel_rfl)
  refine ap_let (g := 12) (listed := #[false, true, true, false, true, false, true, false, false, false, false, false, false, false, false, false]) [(2, .ref 0 0), (3, .ref 1 0), (4, .ref 2 0), (5, .bool false), (23, .v ty5 x0.1), (25, .int .i64 (IntKind.wrap .i64 ((shlI .i64 1 (x0.1.length : Int)) - 1))), (27, .ref 1 1)] [(0, .var [.cell (.v ty5 x0.1), ci x0.2.1, .cell (.v ty7 x0.2.2.1), ci x0.2.2.2.1, ci x0.2.2.2.2.1, ci x0.2.2.2.2.2.1]), (1, .var [ci x1.1, ci x1.2.1, ci x1.2.2.1]), (2, .var [.cell (.nilsl), ci 0, .cell (.nilsl), ci 0, ci 0, ci 0])] ?_ (fun k22 => ?_)
  refine ap_all [0, 7] (by kernel_rfl) ⟨?_, ?_, trivial⟩
  refine apo_ao rfl ?_
  refine ao_r (r_load_part (τ := ty1) (y := ((x0.1, (x0.2.1, (x0.2.2.1, (x0.2.2.2.1, (x0.2.2.2.2.1, (x0.2.2.2.2.2.1, ())))))) : dy3)) [] [] rfl Try.isAgg29 Try.sizeOf29 rfl rfl rfl rfl) rfl ?_
  refine ap_ni ?_
  exact ap_gr (rn [(0, 1), (1, 2)]) (nk rfl) k13 (by kernel_rfl)
  refine apo_ao rfl ?_
  refine ao_r (r_load_cell Try.isAgg3 rfl rfl rfl) rfl ?_
  refine ap_ni ?_
  refine ap_p 8 (fun _ _ _ h => h) rfl (by kernel_rfl) (rp_eql rfl rfl) rfl ?_
  exact ap_gr idn (nk rfl) k23 (by kernel_rfl)
  refine ap_let (g := 13) (listed := #[false, true, false, false, true, false, true, false, false, false, false, false, false, false, false, false]) [(2, .ref 0 0), (3, .ref 1 0), (4, .ref 2 0), (5, .bool false), (22, .ref 0 0), (25, .int .i64 (IntKind.wrap .i64 ((shlI .i64 1 (x0.1.length : Int)) - 1))), (27, .ref 1 1)] [(0, .var [.cell (.v ty5 x0.1), ci x0.2.1, .cell (.v ty7 x0.2.2.1), ci x0.2.2.2.1, ci x0.2.2.2.2.1, ci x0.2.2.2.2.2.1]), (1, .var [ci x1.1, ci x1.2.1, ci x1.2.2.1]), (2, .var [.cell (.nilsl), ci 0, .cell (.nilsl), ci 0, ci 0, ci 0])] ?_ (fun k11 => ?_)
  refine ap_all [0, 2, 7] (by kernel_rfl) ⟨?_, ?_, ?_, trivial⟩
  refine apo_ao rfl ?_
  refine ao_r (r_load_part (τ := ty1) (y := ((x0.1, (x0.2.1, (x0.2.2.1, (x0.2.2.2.1, (x0.2.2.2.2.1, (x0.2.2.2.2.2.1, ())))))) : dy3)) [] [] rfl Try.isAgg29 Try.sizeOf29 rfl rfl rfl rfl) rfl ?_
  refine ap_ni ?_
  exact ap_gr (rn [(0, 1), (1, 2), (2, 0)]) (nk rfl) k12 (by kernel_rfl)
  refine apo_ao rfl ?_
  refine ao_r (r_load_cell Try.isAgg22 rfl rfl rfl) rfl ?_
  refine ap_ni ?_
  exact ap_gr idn (nk rfl) k22 (by kernel_rfl)
  refine apo_ao rfl ?_
  refine ao_r (r_load_cell Try.isAgg3 rfl rfl rfl) rfl ?_
  refine ap_ni ?_
  refine ap_p 8 (fun _ _ _ h => h) rfl (by kernel_rfl) (rp_eql rfl rfl) rfl ?_
  exact ap_gr idn (nk rfl) k24 (by kernel_rfl)
  refine ap_p 1 (fun _ _ _ h => h) rfl (by kernel_rfl) (rp_fieldAddr Try.underlying29 rfl Try.sizeOf22 rfl rfl rfl) rfl ?_
  refine ap_p 4 (fun _ _ _ h => h) rfl (by kernel_rfl) (rp_move rfl) rfl ?_
  refine ap_p 6 (fun _ _ _ h => h) rfl (by kernel_rfl) (rp_fieldAddr Try.underlying33 rfl Try.sizeOf3 rfl rfl rfl) rfl ?_
  exact ap_gr idn (nk rfl) k11 (by kernel_rfl)
  have q3 := d_f hb1
  replace h := is_else (d_f hb1) h
  refine aw_seq ?_
  refine aw_region ?_
  refine ao_r (r_eql rfl rfl) rfl ?_
  refine ao_r (r_assign rfl) rfl ?_
  refine ao_nil ?_
  refine aq_then ?_
  refine aw_cond rfl (fun hb25 => ?_) (fun hb25 => ?_)
  have q26 := d_t hb25
  replace h := is_if (d_t hb25) h
  refine aw_seq ?_
  refine aw_seq ?_
  refine aw_region ?_
  refine ao_r (r_fieldAddr Try.underlying29 rfl Try.sizeOf23 rfl rfl rfl) rfl ?_
  refine ao_r (r_load_cell Try.isAgg23 rfl rfl rfl) rfl ?_
  refine ao_r (r_len_vm (x0.2.2.1.length : Int) Try.underlying23 rfl rfl) rfl ?_
  refine ao_r (r_eql rfl rfl) rfl ?_
  refine ao_r (r_move rfl) rfl ?_
  refine ao_readG (x := .ref 1 1) rfl (GV.F rfl) (fun hg28 => by
        have q29 := d_f (not_t hg28)
        exact r_fieldAddr Try.underlying33 rfl Try.sizeOf3 rfl rfl rfl) rfl ?_
  refine ao_readG (x := .int .i64 x1.2.1) rfl (GV.F rfl) (fun hg30 => by
        have q31 := d_f (not_t hg30)
        exact Reads.strip 42 rfl (hg30) (r_load_cell Try.isAgg3 rfl rfl rfl)) rfl ?_
  refine ao_readG (x := .int .i64 (IntKind.wrap .i64 ((shlI .i64 1 (x0.1.length : Int)) - 1))) rfl (GV.F rfl) (fun hg32 => by
        have q33 := d_f (not_t hg32)
        exact r_move rfl) rfl ?_
  refine ao_scallG (r := .bool (p_spec_l1In x1.2.1 1 (IntKind.wrap .i64 ((shlI .i64 1 (x0.1.length : Int)) - 1)))) rfl (GV.F rfl) (fun hg34 => by
        have q35 := d_f (not_t hg34)
        exact SCall.strip 43 rfl (hg34) (SCall.strip 44 rfl (hg34) (scall (c_spec_l1In (is_mk (rfl : p_spec_l1In x1.2.1 1 (IntKind.wrap .i64 ((shlI .i64 1 (x0.1.length : Int)) - 1)) = _))) rfl Try.func62 rfl rfl rfl rfl (fun σ => ⟨ad_ren rfl, ad_ren rfl, ad_ren rfl, trivial⟩)))) rfl ?_
  refine ao_readG (x := .bool (!(p_spec_l1In x1.2.1 1 (IntKind.wrap .i64 ((shlI .i64 1 (x0.1.length : Int)) - 1))))) rfl (GV.F rfl) (fun hg36 => by
        have q37 := d_f (not_t hg36)
        exact Reads.strip 45 rfl (hg36) (r_not rfl)) rfl ?_
  refine ao_r (r_orB rfl rfl) rfl ?_
  refine ao_r (r_move rfl) rfl ?_
  refine ao_readG (x := .ref 1 2) rfl (GV.F rfl) (fun hg38 => by
        obtain ⟨q39, q40⟩ := or_f (not_t hg38)
        have q41 := d_f q39
        exact r_fieldAddr Try.underlying33 rfl Try.sizeOf3 rfl rfl rfl) rfl ?_
  refine ao_readG (x := .int .i64 x1.2.2.1) rfl (GV.F rfl) (fun hg42 => by
        obtain ⟨q43, q44⟩ := or_f (not_t hg42)
        have q45 := d_f q43
        exact Reads.strip 49 rfl (hg42) (r_load_cell Try.isAgg3 rfl rfl rfl)) rfl ?_
  refine ao_readG (x := .bool (!(decide (x1.2.2.1 = 0)))) rfl (GV.F rfl) (fun hg46 => by
        obtain ⟨q47, q48⟩ := or_f (not_t hg46)
        have q49 := d_f q47
        exact Reads.strip 50 rfl (hg46) (r_neq rfl rfl)) rfl ?_
  refine ao_r (r_orB rfl rfl) rfl ?_
  refine ao_nil ?_
  refine aq_then ?_
  refine aw_cond rfl (fun hb50 => ?_) (fun hb50 => ?_)
  replace h := is_if hb50 h
  refine aw_seq ?_
  refine aw_region ?_
  refine ao_r (r_load_part (τ := ty1) (y := ((x0.1, (x0.2.1, (x0.2.2.1, (x0.2.2.2.1, (x0.2.2.2.2.1, (x0.2.2.2.2.2.1, ())))))) : dy3)) [] [] rfl Try.isAgg29 Try.sizeOf29 rfl rfl rfl rfl) rfl ?_
  refine ao_effS trivial (e_store rfl rfl rfl rfl Try.sizeOf29 rfl) ?_
  refine ao_r (r_assign rfl) rfl ?_
  refine ao_nil ?_
  refine aq_then ?_
  refine aw_ret ?_
  refine aq_then_ret ?_
  refine aq_in_ret ?_
  refine aq_then_ret ?_
  refine aq_ret ?_
  obtain rfl := is_some h
  exact aq_finV (l := [.cell 4 29, .tmp 5]) (xs := [.st [.v ty5 x0.1, .int .i64 x0.2.1, .v ty7 x0.2.2.1, .int .i64 x0.2.2.2.1, .int .i64 x0.2.2.2.2.1, .int .i64 x0.2.2.2.2.2.1], .bool false]) idn [.v ty1 ((x0.1, (x0.2.1, (x0.2.2.1, (x0.2.2.2.1, (x0.2.2.2.2.1, (x0.2.2.2.2.2.1, ())))))) : dy3), .bool false] [] rfl (by exact ⟨⟨⟨_, _, rfl⟩, r_load_st [] [.cell (.v ty5 x0.1), ci x0.2.1, .cell (.v ty7 x0.2.2.1), ci x0.2.2.2.1, ci x0.2.2.2.2.1, ci x0.2.2.2.2.2.1] [] Try.isAgg29 Try.sizeOf29 rfl rfl rfl rfl rfl rfl rfl⟩, rfl, trivial⟩) (by exact ⟨ad_st rfl rfl ⟨ad_ren rfl, ad_ren rfl, ad_ren rfl, ad_ren rfl, ad_ren rfl, ad_ren rfl, trivial⟩, ad_ren rfl, trivial⟩) (by exact trivial) rfl (nk rfl) ⟨rfl, rfl⟩
  obtain ⟨q51, q52⟩ := or_f hb50
  obtain ⟨q53, q54⟩ := or_f q51
  have q55 := d_f q53
  have q56 := d_t (not_f q52)
  replace h := is_else (ne_t hb50) h
  refine aw_skip ?_
  refine aq_then ?_
  refine aw_seq ?_
  obtain ⟨r57, r57h, h⟩ := is_bind h
  refine aw_draw 7 (by kernel_rfl) (by kernel_rfl) ?_
  refine an_to [(4, .ref 0 0), (5, .bool false), (60, .v ty1 r57)] [(0, .var [.cell (.nilsl), ci 0, .cell (.nilsl), ci 0, ci 0, ci 0])] ?_ (fun key => ?_)
  refine aq_tail rfl ?_
  refine ao_effS trivial (e_store rfl rfl rfl rfl Try.sizeOf29 rfl) ?_
  refine ao_r (r_assign rfl) rfl ?_
  refine ao_nil ?_
  refine aq_then ?_
  refine aw_ret ?_
  refine aq_in_ret ?_
  refine aq_then_ret ?_
  refine aq_ret ?_
  obtain rfl := is_some h
  exact aq_finV (l := [.cell 4 29, .tmp 5]) (xs := [.st [.v ty5 r57.1, .int .i64 r57.2.1, .v ty7 r57.2.2.1, .int .i64 r57.2.2.2.1, .int .i64 r57.2.2.2.2.1, .int .i64 r57.2.2.2.2.2.1], .bool true]) idn [.v ty1 ((r57.1, (r57.2.1, (r57.2.2.1, (r57.2.2.2.1, (r57.2.2.2.2.1, (r57.2.2.2.2.2.1, ())))))) : dy3), .bool true] [] rfl (by exact ⟨⟨⟨_, _, rfl⟩, r_load_st [] [.cell (.v ty5 r57.1), ci r57.2.1, .cell (.v ty7 r57.2.2.1), ci r57.2.2.2.1, ci r57.2.2.2.2.1, ci r57.2.2.2.2.2.1] [] Try.isAgg29 Try.sizeOf29 rfl rfl rfl rfl rfl rfl rfl⟩, rfl, trivial⟩) (by exact ⟨ad_st rfl rfl ⟨ad_ren rfl, ad_ren rfl, ad_ren rfl, ad_ren rfl, ad_ren rfl, ad_ren rfl, trivial⟩, ad_ren rfl, trivial⟩) (by exact trivial) rfl (nk rfl) ⟨rfl, rfl⟩
  refine an_r 0 (fun _ _ _ h => h) rfl (by kernel_rfl) (r_load_part (τ := ty1) (y := ((x0.1, (x0.2.1, (x0.2.2.1, (x0.2.2.2.1, (x0.2.2.2.2.1, (x0.2.2.2.2.2.1, ())))))) : dy3)) [] [] rfl Try.isAgg29 Try.sizeOf29 rfl rfl rfl rfl) rfl ?_
  refine an_r 1 (fun _ _ _ h => h) rfl (by kernel_rfl) (r_fieldAddr Try.underlying33 rfl Try.sizeOf3 rfl rfl rfl) rfl ?_
  refine an_r 2 (fun _ _ _ h => h) rfl (by kernel_rfl) (r_load_cell Try.isAgg3 rfl rfl rfl) rfl ?_
  refine an_r 3 (fun _ _ _ h => h) rfl (by kernel_rfl) (r_fieldAddr Try.underlying29 rfl Try.sizeOf23 rfl rfl rfl) rfl ?_
  refine an_r 4 (fun _ _ _ h => h) rfl (by kernel_rfl) (r_load_cell Try.isAgg23 rfl rfl rfl) rfl ?_
  refine an_scall 5 (by kernel_rfl) (fun _ _ _ h => h) rfl (by kernel_rfl) trivial (scall (c_spec_l12Add (is_mk (rfl : p_spec_l12Add x0.2.2.1 = _))) rfl Try.func60 rfl rfl rfl rfl (fun σ => ⟨ad_ren rfl, trivial⟩)) rfl ?_
  refine an_explore 3 rfl ?_
  refine ax_all [6] (by kernel_rfl) ⟨?_, trivial⟩
  refine axo_callV 6 3 rfl trivial (c_spec_l12Rolled (is_mk r57h)) Try.func82 rfl rfl rfl rfl rfl rfl rfl rfl rfl (fun r' H' hr => ?_)
  obtain ⟨rfl, rfl⟩ := hr
  exact ax_done rfl (AQ.sub (sub_r1 (rn [(0, 2)]) (nk rfl) (by kernel_rfl)) key)
  have q27 := d_f hb25
  replace h := is_else (d_f hb25) h
  refine aw_seq ?_
  refine aw_region ?_
  refine ao_r (r_eql rfl rfl) rfl ?_
  refine ao_r (r_assign rfl) rfl ?_
  refine ao_nil ?_
  refine aq_then ?_
  refine aw_cond rfl (fun hb58 => ?_) (fun hb58 => ?_)
  have q59 := d_t hb58
  replace h := is_if (d_t hb58) h
  refine aw_seq ?_
  refine aw_seq ?_
  refine aw_region ?_
  refine ao_r (r_load_part (τ := ty1) (y := ((x0.1, (x0.2.1, (x0.2.2.1, (x0.2.2.2.1, (x0.2.2.2.2.1, (x0.2.2.2.2.2.1, ())))))) : dy3)) [] [] rfl Try.isAgg29 Try.sizeOf29 rfl rfl rfl rfl) rfl ?_
  refine ao_r (r_fieldAddr Try.underlying33 rfl Try.sizeOf3 rfl rfl rfl) rfl ?_
  refine ao_r (r_load_cell Try.isAgg3 rfl rfl rfl) rfl ?_
  refine ao_scall trivial (scall (c_spec_l12Place (is_mk (rfl : p_spec_l12Place (x0.1, (x0.2.1, (x0.2.2.1, (x0.2.2.2.1, (x0.2.2.2.2.1, (x0.2.2.2.2.2.1, ())))))) x1.2.1 = _))) rfl Try.func84 rfl rfl rfl rfl (fun σ => ⟨ad_ren rfl, ad_ren rfl, trivial⟩)) rfl ?_
  refine ao_r (r_not rfl) rfl ?_
  refine ao_nil ?_
  refine aq_then ?_
  refine aw_cond rfl (fun hb61 => ?_) (fun hb61 => ?_)
  replace h := is_else (ne_t (not_t hb61)) h
  refine aw_seq ?_
  refine aw_region ?_
  refine ao_r (r_load_part (τ := ty1) (y := ((x0.1, (x0.2.1, (x0.2.2.1, (x0.2.2.2.1, (x0.2.2.2.2.1, (x0.2.2.2.2.2.1, ())))))) : dy3)) [] [] rfl Try.isAgg29 Try.sizeOf29 rfl rfl rfl rfl) rfl ?_
  refine ao_effS trivial (e_store rfl rfl rfl rfl Try.sizeOf29 rfl) ?_
  refine ao_r (r_assign rfl) rfl ?_
  refine ao_nil ?_
  refine aq_then ?_
  refine aw_ret ?_
  refine aq_then_ret ?_
  refine aq_in_ret ?_
  refine aq_then_ret ?_
  refine aq_ret ?_
  obtain rfl := is_some h
  exact aq_finV (l := [.cell 4 29, .tmp 5]) (xs := [.st [.v ty5 x0.1, .int .i64 x0.2.1, .v ty7 x0.2.2.1, .int .i64 x0.2.2.2.1, .int .i64 x0.2.2.2.2.1, .int .i64 x0.2.2.2.2.2.1], .bool false]) idn [.v ty1 ((x0.1, (x0.2.1, (x0.2.2.1, (x0.2.2.2.1, (x0.2.2.2.2.1, (x0.2.2.2.2.2.1, ())))))) : dy3), .bool false] [] rfl (by exact ⟨⟨⟨_, _, rfl⟩, r_load_st [] [.cell (.v ty5 x0.1), ci x0.2.1, .cell (.v ty7 x0.2.2.1), ci x0.2.2.2.1, ci x0.2.2.2.2.1, ci x0.2.2.2.2.2.1] [] Try.isAgg29 Try.sizeOf29 rfl rfl rfl rfl rfl rfl rfl⟩, rfl, trivial⟩) (by exact ⟨ad_st rfl rfl ⟨ad_ren rfl, ad_ren rfl, ad_ren rfl, ad_ren rfl, ad_ren rfl, ad_ren rfl, trivial⟩, ad_ren rfl, trivial⟩) (by exact trivial) rfl (nk rfl) ⟨rfl, rfl⟩
  replace h := is_if (not_f hb61) h
  refine aw_skip ?_
  refine aq_then ?_
  refine aw_seq ?_
  obtain ⟨g62, h⟩ := is_guard h
  obtain ⟨g63, h⟩ := is_guard h
  obtain ⟨r64, r64h, h⟩ := is_bind h
  refine aw_drawP 15 rfl (by kernel_rfl) ?_
  refine ap_to [(2, .ref 0 0), (3, .ref 1 0), (4, .ref 2 0), (7, .ref 3 0), (8, .bool r64.2)] [(0, .var [.cell (.v ty5 x0.1), ci x0.2.1, .cell (.v ty7 x0.2.2.1), ci x0.2.2.2.1, ci x0.2.2.2.2.1, ci x0.2.2.2.2.2.1]), (1, .var [ci x1.1, ci x1.2.1, ci x1.2.2.1]), (2, .var [.cell (.nilsl), ci 0, .cell (.nilsl), ci 0, ci 0, ci 0]), (3, .var [.arr ty11 6 r64.1])] ?_ (fun key => ?_)
  refine aq_then ?_
  refine aw_seq ?_
  refine aw_region ?_
  refine ao_r (r_fieldAddr Try.underlying29 rfl Try.sizeOf22 rfl rfl rfl) rfl ?_
  refine ao_r (r_load_cell Try.isAgg22 rfl rfl rfl) rfl ?_
  obtain ⟨r91, r91h, h⟩ := is_bind h
  refine ao_call [] 4 trivial (c_spec_l2Own (is_mk r91h)) Try.func68 rfl rfl rfl rfl ⟨ad_ren rfl, trivial⟩ trivial rfl rfl rfl rfl rfl rfl rfl (fun r' H' hr => ?_)
  obtain ⟨rfl, rfl⟩ := hr
  refine ao_norm (y := .os 4) (H' := [(0, .var [.cell (.v ty5 x0.1), ci x0.2.1, .cell (.v ty7 x0.2.2.1), ci x0.2.2.2.1, ci x0.2.2.2.2.1, ci x0.2.2.2.2.2.1]), (1, .var [ci x1.1, ci x1.2.1, ci x1.2.2.1]), (2, .var [.cell (.nilsl), ci 0, .cell (.nilsl), ci 0, ci 0, ci 0]), (3, .var [.arr ty11 6 r64.1]), (4, .row ty8 r91)]) rfl rfl ?_
  refine row_len_o 4 (r91.length : Int) rfl rfl (fun hr92 => ?_)
  refine ao_r (r_assign rfl) rfl ?_
  refine ao_nil ?_
  refine aq_then ?_
  refine aw_seq ?_
  refine aw_region ?_
  refine ao_r (r_move rfl) rfl ?_
  refine ao_r (r_fieldAddr Try.underlying33 rfl Try.sizeOf3 rfl rfl rfl) rfl ?_
  refine ao_r (r_load_cell Try.isAgg3 rfl rfl rfl) rfl ?_
  refine ao_r (r_load_arr rfl Try.isAgg76 Try.sizeOf76 rfl rfl rfl) rfl ?_
  obtain ⟨g93, h⟩ := is_guard h
  refine ao_r (r_idxAddr_os Try.underlying22 Try.sizeOf76 rfl rfl rfl (show 0 ≤ x1.2.1 from by omega) (show x1.2.1 < (r91.length : Int) from by omega)) rfl ?_
  refine ao_effS trivial (e_store_elem (t := ty8) rfl Try.sizeOf76 rfl rfl rfl rfl (show x1.2.1.toNat < r91.length from by omega)) ?_
  refine ao_nil ?_
  refine aq_then ?_
  refine aw_seq ?_
  refine aw_region ?_
  refine ao_r (r_load_part (τ := ty1) (y := ((x0.1, (x0.2.1, (x0.2.2.1, (x0.2.2.2.1, (x0.2.2.2.2.1, (x0.2.2.2.2.2.1, ())))))) : dy3)) [] [] rfl Try.isAgg29 Try.sizeOf29 rfl rfl rfl rfl) rfl ?_
  refine ao_r (r_move rfl) rfl ?_
  refine ao_call [4] 5 trivial (c_spec_l12Dicev1 (is_mk (rfl : p_spec_l12Dicev1 (x0.1, (x0.2.1, (x0.2.2.1, (x0.2.2.2.1, (x0.2.2.2.2.1, (x0.2.2.2.2.2.1, ())))))) (r91.set x1.2.1.toNat r64.1) = _))) Try.func83 rfl rfl rfl rfl ⟨ad_ren rfl, ad_ren rfl, trivial⟩ ⟨⟨_, rfl, rfl⟩, trivial⟩ rfl rfl rfl rfl rfl rfl rfl (fun r' H' hr => ?_)
  obtain ⟨rfl, rfl⟩ := hr
  refine ao_norm (y := .st [.os 5, .int .i64 (((p_spec_l12Dicev1 (x0.1, (x0.2.1, (x0.2.2.1, (x0.2.2.2.1, (x0.2.2.2.2.1, (x0.2.2.2.2.2.1, ())))))) (r91.set x1.2.1.toNat r64.1)).2).1), .os 6, .int .i64 (((((p_spec_l12Dicev1 (x0.1, (x0.2.1, (x0.2.2.1, (x0.2.2.2.1, (x0.2.2.2.2.1, (x0.2.2.2.2.2.1, ())))))) (r91.set x1.2.1.toNat r64.1)).2).2).2).1), .int .i64 ((((((p_spec_l12Dicev1 (x0.1, (x0.2.1, (x0.2.2.1, (x0.2.2.2.1, (x0.2.2.2.2.1, (x0.2.2.2.2.2.1, ())))))) (r91.set x1.2.1.toNat r64.1)).2).2).2).2).1), .int .i64 (((((((p_spec_l12Dicev1 (x0.1, (x0.2.1, (x0.2.2.1, (x0.2.2.2.1, (x0.2.2.2.2.1, (x0.2.2.2.2.2.1, ())))))) (r91.set x1.2.1.toNat r64.1)).2).2).2).2).2).1)]) (H' := [(0, .var [.cell (.v ty5 x0.1), ci x0.2.1, .cell (.v ty7 x0.2.2.1), ci x0.2.2.2.1, ci x0.2.2.2.2.1, ci x0.2.2.2.2.2.1]), (1, .var [ci x1.1, ci x1.2.1, ci x1.2.2.1]), (2, .var [.cell (.nilsl), ci 0, .cell (.nilsl), ci 0, ci 0, ci 0]), (3, .var [.arr ty11 6 r64.1]), (5, .row ty8 ((p_spec_l12Dicev1 (x0.1, (x0.2.1, (x0.2.2.1, (x0.2.2.2.1, (x0.2.2.2.2.1, (x0.2.2.2.2.2.1, ())))))) (r91.set x1.2.1.toNat r64.1)).1 : dy10)), (6, .row ty11 ((((p_spec_l12Dicev1 (x0.1, (x0.2.1, (x0.2.2.1, (x0.2.2.2.1, (x0.2.2.2.2.1, (x0.2.2.2.2.2.1, ())))))) (r91.set x1.2.1.toNat r64.1)).2).2).1 : dy12))]) rfl rfl ?_
  refine row_len_o 5 (((p_spec_l12Dicev1 (x0.1, (x0.2.1, (x0.2.2.1, (x0.2.2.2.1, (x0.2.2.2.2.1, (x0.2.2.2.2.2.1, ())))))) (r91.set x1.2.1.toNat r64.1)).1).length : Int) rfl rfl (fun hr94 => ?_)
  refine row_len_o 6 (((((p_spec_l12Dicev1 (x0.1, (x0.2.1, (x0.2.2.1, (x0.2.2.2.1, (x0.2.2.2.2.1, (x0.2.2.2.2.2.1, ())))))) (r91.set x1.2.1.toNat r64.1)).2).2).1).length : Int) rfl rfl (fun hr95 => ?_)
  refine ao_r (r_move rfl) rfl ?_
  refine ao_effS trivial (e_store rfl rfl rfl rfl Try.sizeOf29 rfl) ?_
  refine ao_r (r_assign rfl) rfl ?_
  refine ao_nil ?_
  refine aq_then ?_
  refine aw_ret ?_
  refine aq_in_ret ?_
  refine aq_then_ret ?_
  refine aq_ret ?_
  obtain rfl := is_some h
  exact aq_finV (l := [.cell 4 29, .tmp 5]) (xs := [.st [.os 5, .int .i64 (((p_spec_l12Dicev1 (x0.1, (x0.2.1, (x0.2.2.1, (x0.2.2.2.1, (x0.2.2.2.2.1, (x0.2.2.2.2.2.1, ())))))) (r91.set x1.2.1.toNat r64.1)).2).1), .os 6, .int .i64 (((((p_spec_l12Dicev1 (x0.1, (x0.2.1, (x0.2.2.1, (x0.2.2.2.1, (x0.2.2.2.2.1, (x0.2.2.2.2.2.1, ())))))) (r91.set x1.2.1.toNat r64.1)).2).2).2).1), .int .i64 ((((((p_spec_l12Dicev1 (x0.1, (x0.2.1, (x0.2.2.1, (x0.2.2.2.1, (x0.2.2.2.2.1, (x0.2.2.2.2.2.1, ())))))) (r91.set x1.2.1.toNat r64.1)).2).2).2).2).1), .int .i64 (((((((p_spec_l12Dicev1 (x0.1, (x0.2.1, (x0.2.2.1, (x0.2.2.2.1, (x0.2.2.2.2.1, (x0.2.2.2.2.2.1, ())))))) (r91.set x1.2.1.toNat r64.1)).2).2).2).2).2).1)], .bool r64.2]) idn [.v ty1 (((p_spec_l12Dicev1 (x0.1, (x0.2.1, (x0.2.2.1, (x0.2.2.2.1, (x0.2.2.2.2.1, (x0.2.2.2.2.2.1, ())))))) (r91.set x1.2.1.toNat r64.1)).1, (((p_spec_l12Dicev1 (x0.1, (x0.2.1, (x0.2.2.1, (x0.2.2.2.1, (x0.2.2.2.2.1, (x0.2.2.2.2.2.1, ())))))) (r91.set x1.2.1.toNat r64.1)).2).1, ((((p_spec_l12Dicev1 (x0.1, (x0.2.1, (x0.2.2.1, (x0.2.2.2.1, (x0.2.2.2.2.1, (x0.2.2.2.2.2.1, ())))))) (r91.set x1.2.1.toNat r64.1)).2).2).1, (((((p_spec_l12Dicev1 (x0.1, (x0.2.1, (x0.2.2.1, (x0.2.2.2.1, (x0.2.2.2.2.1, (x0.2.2.2.2.2.1, ())))))) (r91.set x1.2.1.toNat r64.1)).2).2).2).1, ((((((p_spec_l12Dicev1 (x0.1, (x0.2.1, (x0.2.2.1, (x0.2.2.2.1, (x0.2.2.2.2.1, (x0.2.2.2.2.2.1, ())))))) (r91.set x1.2.1.toNat r64.1)).2).2).2).2).1, (((((((p_spec_l12Dicev1 (x0.1, (x0.2.1, (x0.2.2.1, (x0.2.2.2.1, (x0.2.2.2.2.1, (x0.2.2.2.2.2.1, ())))))) (r91.set x1.2.1.toNat r64.1)).2).2).2).2).2).1, ())))))) : dy3), .bool r64.2] [] rfl (by exact ⟨⟨⟨_, _, rfl⟩, r_load_st [] [.cell (.os 5), .cell (.int .i64 (((p_spec_l12Dicev1 (x0.1, (x0.2.1, (x0.2.2.1, (x0.2.2.2.1, (x0.2.2.2.2.1, (x0.2.2.2.2.2.1, ())))))) (r91.set x1.2.1.toNat r64.1)).2).1)), .cell (.os 6), .cell (.int .i64 (((((p_spec_l12Dicev1 (x0.1, (x0.2.1, (x0.2.2.1, (x0.2.2.2.1, (x0.2.2.2.2.1, (x0.2.2.2.2.2.1, ())))))) (r91.set x1.2.1.toNat r64.1)).2).2).2).1)), .cell (.int .i64 ((((((p_spec_l12Dicev1 (x0.1, (x0.2.1, (x0.2.2.1, (x0.2.2.2.1, (x0.2.2.2.2.1, (x0.2.2.2.2.2.1, ())))))) (r91.set x1.2.1.toNat r64.1)).2).2).2).2).1)), .cell (.int .i64 (((((((p_spec_l12Dicev1 (x0.1, (x0.2.1, (x0.2.2.1, (x0.2.2.2.1, (x0.2.2.2.2.1, (x0.2.2.2.2.2.1, ())))))) (r91.set x1.2.1.toNat r64.1)).2).2).2).2).2).1))] [] Try.isAgg29 Try.sizeOf29 rfl rfl rfl rfl rfl rfl rfl⟩, rfl, trivial⟩) (by exact ⟨ad_st rfl rfl ⟨ad_osB rfl rfl, ad_ren rfl, ad_osB rfl rfl, ad_ren rfl, ad_ren rfl, ad_ren rfl, trivial⟩, ad_ren rfl, trivial⟩) (by exact trivial) rfl (nk rfl) ⟨rfl, rfl⟩
  refine ap_let (g := 2) (listed := #[true, true, true, true, true, true, true, true, true, true, true, true, true, false, false]) [(2, .ref 0 0), (3, .ref 1 0), (4, .ref 2 0), (7, .ref 3 0), (79, .v ty8 r64.1), (80, .bool r64.2)] [(0, .var [.cell (.v ty5 x0.1), ci x0.2.1, .cell (.v ty7 x0.2.2.1), ci x0.2.2.2.1, ci x0.2.2.2.2.1, ci x0.2.2.2.2.2.1]), (1, .var [ci x1.1, ci x1.2.1, ci x1.2.2.1]), (2, .var [.cell (.nilsl), ci 0, .cell (.nilsl), ci 0, ci 0, ci 0]), (3, .var [.arr ty11 6 ((List.replicate 6 0) : dy12)])] ?_ (fun k72 => ?_)
  refine ap_all [13] (by kernel_rfl) ⟨?_, trivial⟩
  refine apo_ao rfl ?_
  refine ao_effS trivial (e_store rfl rfl rfl rfl Try.sizeOf76 rfl) ?_
  refine ap_ni ?_
  refine ap_p 14 (fun _ _ _ h => h) rfl (by kernel_rfl) (rp_assign rfl) rfl ?_
  exact ap_end (by kernel_rfl) (AQ.sub (sub_r1 idn (nk rfl) (by kernel_rfl)) key)
  refine ap_let (g := 3) (listed := #[true, true, true, true, true, true, true, true, true, true, true, true, false, false, false]) [(2, .ref 0 0), (3, .ref 1 0), (4, .ref 2 0), (79, .v ty8 r64.1), (80, .bool r64.2)] [(0, .var [.cell (.v ty5 x0.1), ci x0.2.1, .cell (.v ty7 x0.2.2.1), ci x0.2.2.2.1, ci x0.2.2.2.2.1, ci x0.2.2.2.2.2.1]), (1, .var [ci x1.1, ci x1.2.1, ci x1.2.2.1]), (2, .var [.cell (.nilsl), ci 0, .cell (.nilsl), ci 0, ci 0, ci 0])] ?_ (fun k71 => ?_)
  refine ap_all [12] (by kernel_rfl) ⟨?_, trivial⟩
  refine apo_ao rfl ?_
  refine ao_eff trivial (e_alloc 3 (y := .v ty8 ((List.replicate 6 0) : dy12)) Try.zeroValue76 (fun ρ h M => ra_zero_arr (t := ty11) rfl) rfl rfl rfl rfl rfl) rfl ?_
  refine ap_ni ?_
  exact ap_gr idn (nk rfl) k72 (by kernel_rfl)
  refine ap_let (g := 6) (listed := #[true, true, true, true, true, true, true, true, false, false, false, false, true, false, false]) [(2, .ref 0 0), (3, .ref 1 0), (4, .ref 2 0), (7, .ref 3 0), (75, .v ty8 ((x0.1.getD x1.2.1.toNat (List.replicate 6 0)) : dy12)), (77, .int .i64 x1.2.2.1)] [(0, .var [.cell (.v ty5 x0.1), ci x0.2.1, .cell (.v ty7 x0.2.2.1), ci x0.2.2.2.1, ci x0.2.2.2.2.1, ci x0.2.2.2.2.2.1]), (1, .var [ci x1.1, ci x1.2.1, ci x1.2.2.1]), (2, .var [.cell (.nilsl), ci 0, .cell (.nilsl), ci 0, ci 0, ci 0]), (3, .var [.arr ty11 6 ((List.replicate 6 0) : dy12)])] ?_ (fun k73 => ?_)
  refine ap_all [8] (by kernel_rfl) ⟨?_, trivial⟩
  refine apo_ao rfl ?_
  refine ao_scall trivial (scall (c_spec_ShiftDie (is_mk r64h)) rfl Try.func85 rfl rfl rfl rfl (fun σ => ⟨ad_ren rfl, ad_ren rfl, trivial⟩)) rfl ?_
  refine ap_ni ?_
  refine ap_p 9 (fun _ _ _ h => h) rfl (by kernel_rfl) (rp_move rfl) rfl ?_
  refine ap_p 10 (fun _ _ _ h => h) rfl (by kernel_rfl) (rp_extract rfl rfl) rfl ?_
  refine ap_p 11 (fun _ _ _ h => h) rfl (by kernel_rfl) (rp_extract rfl rfl) rfl ?_
  exact ap_gr idn (nk rfl) k72 (by kernel_rfl)
  refine ap_let (g := 7) (listed := #[true, true, true, true, true, true, true, true, false, false, false, false, false, false, false]) [(2, .ref 0 0), (3, .ref 1 0), (4, .ref 2 0), (75, .v ty8 ((x0.1.getD x1.2.1.toNat (List.replicate 6 0)) : dy12)), (77, .int .i64 x1.2.2.1)] [(0, .var [.cell (.v ty5 x0.1), ci x0.2.1, .cell (.v ty7 x0.2.2.1), ci x0.2.2.2.1, ci x0.2.2.2.2.1, ci x0.2.2.2.2.2.1]), (1, .var [ci x1.1, ci x1.2.1, ci x1.2.2.1]), (2, .var [.cell (.nilsl), ci 0, .cell (.nilsl), ci 0, ci 0, ci 0])] ?_ (fun k70 => ?_)
  refine ap_all [8, 12] (by kernel_rfl) ⟨?_, ?_, trivial⟩
  refine apo_ao rfl ?_
  refine ao_scall trivial (scall (c_spec_ShiftDie (is_mk r64h)) rfl Try.func85 rfl rfl rfl rfl (fun σ => ⟨ad_ren rfl, ad_ren rfl, trivial⟩)) rfl ?_
  refine ap_ni ?_
  refine ap_p 9 (fun _ _ _ h => h) rfl (by kernel_rfl) (rp_move rfl) rfl ?_
  refine ap_p 10 (fun _ _ _ h => h) rfl (by kernel_rfl) (rp_extract rfl rfl) rfl ?_
  refine ap_p 11 (fun _ _ _ h => h) rfl (by kernel_rfl) (rp_extract rfl rfl) rfl ?_
  exact ap_gr idn (nk rfl) k71 (by kernel_rfl)
  refine apo_ao rfl ?_
  refine ao_eff trivial (e_alloc 3 (y := .v ty8 ((List.replicate 6 0) : dy12)) Try.zeroValue76 (fun ρ h M => ra_zero_arr (t := ty11) rfl) rfl rfl rfl rfl rfl) rfl ?_
  refine ap_ni ?_
  exact ap_gr idn (nk rfl) k73 (by kernel_rfl)
  refine ap_let (g := 7) (listed := #[true, true, true, true, true, true, true, false, false, false, false, false, true, false, false]) [(2, .ref 0 0), (3, .ref 1 0), (4, .ref 2 0), (7, .ref 3 0), (75, .v ty8 ((x0.1.getD x1.2.1.toNat (List.replicate 6 0)) : dy12)), (76, .ref 1 2)] [(0, .var [.cell (.v ty5 x0.1), ci x0.2.1, .cell (.v ty7 x0.2.2.1), ci x0.2.2.2.1, ci x0.2.2.2.2.1, ci x0.2.2.2.2.2.1]), (1, .var [ci x1.1, ci x1.2.1, ci x1.2.2.1]), (2, .var [.cell (.nilsl), ci 0, .cell (.nilsl), ci 0, ci 0, ci 0]), (3, .var [.arr ty11 6 ((List.replicate 6 0) : dy12)])] ?_ (fun k74 => ?_)
  refine ap_all [7] (by kernel_rfl) ⟨?_, trivial⟩
  refine apo_ao rfl ?_
  refine ao_r (r_load_cell Try.isAgg3 rfl rfl rfl) rfl ?_
  refine ap_ni ?_
  exact ap_gr idn (nk rfl) k73 (by kernel_rfl)
  refine ap_let (g := 7) (listed := #[true, true, true, true, true, false, true, true, false, false, false, false, true, false, false]) [(2, .ref 0 0), (3, .ref 1 0), (4, .ref 2 0), (7, .ref 3 0), (74, .cptr ty8 ((x0.1.getD x1.2.1.toNat (List.replicate 6 0)) : dy12)), (77, .int .i64 x1.2.2.1)] [(0, .var [.cell (.v ty5 x0.1), ci x0.2.1, .cell (.v ty7 x0.2.2.1), ci x0.2.2.2.1, ci x0.2.2.2.2.1, ci x0.2.2.2.2.2.1]), (1, .var [ci x1.1, ci x1.2.1, ci x1.2.2.1]), (2, .var [.cell (.nilsl), ci 0, .cell (.nilsl), ci 0, ci 0, ci 0]), (3, .var [.arr ty11 6 ((List.replicate 6 0) : dy12)])] ?_ (fun k76 => ?_)
  refine ap_all [5] (by kernel_rfl) ⟨?_, trivial⟩
  refine apo_ao rfl ?_
  refine ao_r (r_load_c (t := ty8) Try.isAgg76 Try.sizeOf76 rfl) rfl ?_
  refine ap_ni ?_
  exact ap_gr idn (nk rfl) k73 (by kernel_rfl)
  refine ap_let (g := 8) (listed := #[true, true, true, true, true, true, true, false, false, false, false, false, false, false, false]) [(2, .ref 0 0), (3, .ref 1 0), (4, .ref 2 0), (75, .v ty8 ((x0.1.getD x1.2.1.toNat (List.replicate 6 0)) : dy12)), (76, .ref 1 2)] [(0, .var [.cell (.v ty5 x0.1), ci x0.2.1, .cell (.v ty7 x0.2.2.1), ci x0.2.2.2.1, ci x0.2.2.2.2.1, ci x0.2.2.2.2.2.1]), (1, .var [ci x1.1, ci x1.2.1, ci x1.2.2.1]), (2, .var [.cell (.nilsl), ci 0, .cell (.nilsl), ci 0, ci 0, ci 0])] ?_ (fun k69 => ?_)
  refine ap_all [7, 12] (by kernel_rfl) ⟨?_, ?_, trivial⟩
  refine apo_ao rfl ?_
  refine ao_r (r_load_cell Try.isAgg3 rfl rfl rfl) rfl ?_
  refine ap_ni ?_
  exact ap_gr idn (nk rfl) k70 (by kernel_rfl)
  refine apo_ao rfl ?_
  refine ao_eff trivial (e_alloc 3 (y := .v ty8 ((List.replicate 6 0) : dy12)) Try.zeroValue76 (fun ρ h M => ra_zero_arr (t := ty11) rfl) rfl rfl rfl rfl rfl) rfl ?_
  refine ap_ni ?_
  exact ap_gr idn (nk rfl) k74 (by kernel_rfl)
  refine ap_let (g := 8) (listed := #[true, true, true, true, true, false, true, true, false, false, false, false, false, false, false]) [(2, .ref 0 0), (3, .ref 1 0), (4, .ref 2 0), (74, .cptr ty8 ((x0.1.getD x1.2.1.toNat (List.replicate 6 0)) : dy12)), (77, .int .i64 x1.2.2.1)] [(0, .var [.cell (.v ty5 x0.1), ci x0.2.1, .cell (.v ty7 x0.2.2.1), ci x0.2.2.2.1, ci x0.2.2.2.2.1, ci x0.2.2.2.2.2.1]), (1, .var [ci x1.1, ci x1.2.1, ci x1.2.2.1]), (2, .var [.cell (.nilsl), ci 0, .cell (.nilsl), ci 0, ci 0, ci 0])] ?_ (fun k75 => ?_)
  refine ap_all [5, 12] (by kernel_rfl) ⟨?_, ?_, trivial⟩
  refine apo_ao rfl ?_
  refine ao_r (r_load_c (t := ty8) Try.isAgg76 Try.sizeOf76 rfl) rfl ?_
  refine ap_ni ?_
  exact ap_gr idn (nk rfl) k70 (by kernel_rfl)
  refine apo_ao rfl ?_
  refine ao_eff trivial (e_alloc 3 (y := .v ty8 ((List.replicate 6 0) : dy12)) Try.zeroValue76 (fun ρ h M => ra_zero_arr (t := ty11) rfl) rfl rfl rfl rfl rfl) rfl ?_
  refine ap_ni ?_
  exact ap_gr idn (nk rfl) k76 (by kernel_rfl)
  refine ap_let (g := 8) (listed := #[true, true, true, true, true, false, true, false, false, false, false, false, true, false, false]) [(2, .ref 0 0), (3, .ref 1 0), (4, .ref 2 0), (7, .ref 3 0), (74, .cptr ty8 ((x0.1.getD x1.2.1.toNat (List.replicate 6 0)) : dy12)), (76, .ref 1 2)] [(0, .var [.cell (.v ty5 x0.1), ci x0.2.1, .cell (.v ty7 x0.2.2.1), ci x0.2.2.2.1, ci x0.2.2.2.2.1, ci x0.2.2.2.2.2.1]), (1, .var [ci x1.1, ci x1.2.1, ci x1.2.2.1]), (2, .var [.cell (.nilsl), ci 0, .cell (.nilsl), ci 0, ci 0, ci 0]), (3, .var [.arr ty11 6 ((List.replicate 6 0) : dy12)])] ?_ (fun k77 => ?_)
  refine ap_all [5, 7] (by kernel_rfl) ⟨?_, ?_, trivial⟩
  refine apo_ao rfl ?_
  refine ao_r (r_load_c (t := ty8) Try.isAgg76 Try.sizeOf76 rfl) rfl ?_
  refine ap_ni ?_
  exact ap_gr idn (nk rfl) k74 (by kernel_rfl)
  refine apo_ao rfl ?_
  refine ao_r (r_load_cell Try.isAgg3 rfl rfl rfl) rfl ?_
  refine ap_ni ?_
  exact ap_gr idn (nk rfl) k76 (by kernel_rfl)
  refine ap_let (g := 8) (listed := #[true, true, true, true, false, false, true, true, false, false, false, false, true, false, false]) [(2, .ref 0 0), (3, .ref 1 0), (4, .ref 2 0), (7, .ref 3 0), (71, .v ty5 x0.1), (73, .int .i64 x1.2.1), (77, .int .i64 x1.2.2.1)] [(0, .var [.cell (.v ty5 x0.1), ci x0.2.1, .cell (.v ty7 x0.2.2.1), ci x0.2.2.2.1, ci x0.2.2.2.2.1, ci x0.2.2.2.2.2.1]), (1, .var [ci x1.1, ci x1.2.1, ci x1.2.2.1]), (2, .var [.cell (.nilsl), ci 0, .cell (.nilsl), ci 0, ci 0, ci 0]), (3, .var [.arr ty11 6 ((List.replicate 6 0) : dy12)])] ?_ (fun k79 => ?_)
  refine ap_all [4] (by kernel_rfl) ⟨?_, trivial⟩
  refine apo_ao rfl ?_
  refine ao_r (r_idxAddr (t := ty8) Try.underlying22 Try.sizeOf76 rfl rfl (show 0 ≤ x1.2.1 from by omega) (show x1.2.1 < (x0.1.length : Int) from by omega)) rfl ?_
  refine ap_ni ?_
  exact ap_gr idn (nk rfl) k76 (by kernel_rfl)
  refine ap_let (g := 9) (listed := #[true, true, true, true, true, false, true, false, false, false, false, false, false, false, false]) [(2, .ref 0 0), (3, .ref 1 0), (4, .ref 2 0), (74, .cptr ty8 ((x0.1.getD x1.2.1.toNat (List.replicate 6 0)) : dy12)), (76, .ref 1 2)] [(0, .var [.cell (.v ty5 x0.1), ci x0.2.1, .cell (.v ty7 x0.2.2.1), ci x0.2.2.2.1, ci x0.2.2.2.2.1, ci x0.2.2.2.2.2.1]), (1, .var [ci x1.1, ci x1.2.1, ci x1.2.2.1]), (2, .var [.cell (.nilsl), ci 0, .cell (.nilsl), ci 0, ci 0, ci 0])] ?_ (fun k68 => ?_)
  refine ap_all [5, 7, 12] (by kernel_rfl) ⟨?_, ?_, ?_, trivial⟩
  refine apo_ao rfl ?_
  refine ao_r (r_load_c (t := ty8) Try.isAgg76 Try.sizeOf76 rfl) rfl ?_
  refine ap_ni ?_
  exact ap_gr idn (nk rfl) k69 (by kernel_rfl)
  refine apo_ao rfl ?_
  refine ao_r (r_load_cell Try.isAgg3 rfl rfl rfl) rfl ?_
  refine ap_ni ?_
  exact ap_gr idn (nk rfl) k75 (by kernel_rfl)
  refine apo_ao rfl ?_
  refine ao_eff trivial (e_alloc 3 (y := .v ty8 ((List.replicate 6 0) : dy12)) Try.zeroValue76 (fun ρ h M => ra_zero_arr (t := ty11) rfl) rfl rfl rfl rfl rfl) rfl ?_
  refine ap_ni ?_
  exact ap_gr idn (nk rfl) k77 (by kernel_rfl)
  refine ap_let (g := 9) (listed := #[true, true, true, true, false, false, true, true, false, false, false, false, false, false, false]) [(2, .ref 0 0), (3, .ref 1 0), (4, .ref 2 0), (71, .v ty5 x0.1), (73, .int .i64 x1.2.1), (77, .int .i64 x1.2.2.1)] [(0, .var [.cell (.v ty5 x0.1), ci x0.2.1, .cell (.v ty7 x0.2.2.1), ci x0.2.2.2.1, ci x0.2.2.2.2.1, ci x0.2.2.2.2.2.1]), (1, .var [ci x1.1, ci x1.2.1, ci x1.2.2.1]), (2, .var [.cell (.nilsl), ci 0, .cell (.nilsl), ci 0, ci 0, ci 0])] ?_ (fun k78 => ?_)
  refine ap_all [4, 12] (by kernel_rfl) ⟨?_, ?_, trivial⟩
  refine apo_ao rfl ?_
  refine ao_r (r_idxAddr (t := ty8) Try.underlying22 Try.sizeOf76 rfl rfl (show 0 ≤ x1.2.1 from by omega) (show x1.2.1 < (x0.1.length : Int) from by omega)) rfl ?_
  refine ap_ni ?_
  exact ap_gr idn (nk rfl) k75 (by kernel_rfl)
  refine apo_ao rfl ?_
  refine ao_eff trivial (e_alloc 3 (y := .v ty8 ((List.replicate 6 0) : dy12)) Try.zeroValue76 (fun ρ h M => ra_zero_arr (t := ty11) rfl) rfl rfl rfl rfl rfl) rfl ?_
  refine ap_ni ?_
  exact ap_gr idn (nk rfl) k79 (by kernel_rfl)
  refine ap_let (g := 9) (listed := #[true, true, true, true, false, false, true, false, false, false, false, false, true, false, false]) [(2, .ref 0 0), (3, .ref 1 0), (4, .ref 2 0), (7, .ref 3 0), (71, .v ty5 x0.1), (73, .int .i64 x1.2.1), (76, .ref 1 2)] [(0, .var [.cell (.v ty5 x0.1), ci x0.2.1, .cell (.v ty7 x0.2.2.1), ci x0.2.2.2.1, ci x0.2.2.2.2.1, ci x0.2.2.2.2.2.1]), (1, .var [ci x1.1, ci x1.2.1, ci x1.2.2.1]), (2, .var [.cell (.nilsl), ci 0, .cell (.nilsl), ci 0, ci 0, ci 0]), (3, .var [.arr ty11 6 ((List.replicate 6 0) : dy12)])] ?_ (fun k80 => ?_)
  refine ap_all [4, 7] (by kernel_rfl) ⟨?_, ?_, trivial⟩
  refine apo_ao rfl ?_
  refine ao_r (r_idxAddr (t := ty8) Try.underlying22 Try.sizeOf76 rfl rfl (show 0 ≤ x1.2.1 from by omega) (show x1.2.1 < (x0.1.length : Int) from by omega)) rfl ?_
  refine ap_ni ?_
  exact ap_gr idn (nk rfl) k77 (by kernel_rfl)
  refine apo_ao rfl ?_
  refine ao_r (r_load_cell Try.isAgg3 rfl rfl rfl) rfl ?_
  refine ap_ni ?_
  exact ap_gr idn (nk rfl) k79 (by kernel_rfl)
  refine ap_let (g := 9) (listed := #[true, true, true, false, false, false, true, true, false, false, false, false, true, false, false]) [(2, .ref 0 0), (3, .ref 1 0), (4, .ref 2 0), (7, .ref 3 0), (71, .v ty5 x0.1), (72, .ref 1 1), (77, .int .i64 x1.2.2.1)] [(0, .var [.cell (.v ty5 x0.1), ci x0.2.1, .cell (.v ty7 x0.2.2.1), ci x0.2.2.2.1, ci x0.2.2.2.2.1, ci x0.2.2.2.2.2.1]), (1, .var [ci x1.1, ci x1.2.1, ci x1.2.2.1]), (2, .var [.cell (.nilsl), ci 0, .cell (.nilsl), ci 0, ci 0, ci 0]), (3, .var [.arr ty11 6 ((List.replicate 6 0) : dy12)])] ?_ (fun k82 => ?_)
  refine ap_all [3] (by kernel_rfl) ⟨?_, trivial⟩
  refine apo_ao rfl ?_
  refine ao_r (r_load_cell Try.isAgg3 rfl rfl rfl) rfl ?_
  refine ap_ni ?_
  exact ap_gr idn (nk rfl) k79 (by kernel_rfl)
  refine ap_let (g := 9) (listed := #[true, false, true, true, false, false, true, true, false, false, false, false, true, false, false]) [(2, .ref 0 0), (3, .ref 1 0), (4, .ref 2 0), (7, .ref 3 0), (70, .ref 0 0), (73, .int .i64 x1.2.1), (77, .int .i64 x1.2.2.1)] [(0, .var [.cell (.v ty5 x0.1), ci x0.2.1, .cell (.v ty7 x0.2.2.1), ci x0.2.2.2.1, ci x0.2.2.2.2.1, ci x0.2.2.2.2.2.1]), (1, .var [ci x1.1, ci x1.2.1, ci x1.2.2.1]), (2, .var [.cell (.nilsl), ci 0, .cell (.nilsl), ci 0, ci 0, ci 0]), (3, .var [.arr ty11 6 ((List.replicate 6 0) : dy12)])] ?_ (fun k86 => ?_)
  refine ap_all [1] (by kernel_rfl) ⟨?_, trivial⟩
  refine apo_ao rfl ?_
  refine ao_r (r_load_cell Try.isAgg22 rfl rfl rfl) rfl ?_
  refine ap_ni ?_
  exact ap_gr idn (nk rfl) k79 (by kernel_rfl)
  refine ap_let (g := 10) (listed := #[true, true, true, true, false, false, true, false, false, false, false, false, false, false, false]) [(2, .ref 0 0), (3, .ref 1 0), (4, .ref 2 0), (71, .v ty5 x0.1), (73, .int .i64 x1.2.1), (76, .ref 1 2)] [(0, .var [.cell (.v ty5 x0.1), ci x0.2.1, .cell (.v ty7 x0.2.2.1), ci x0.2.2.2.1, ci x0.2.2.2.2.1, ci x0.2.2.2.2.2.1]), (1, .var [ci x1.1, ci x1.2.1, ci x1.2.2.1]), (2, .var [.cell (.nilsl), ci 0, .cell (.nilsl), ci 0, ci 0, ci 0])] ?_ (fun k67 => ?_)
  refine ap_all [4, 7, 12] (by kernel_rfl) ⟨?_, ?_, ?_, trivial⟩
  refine apo_ao rfl ?_
  refine ao_r (r_idxAddr (t := ty8) Try.underlying22 Try.sizeOf76 rfl rfl (show 0 ≤ x1.2.1 from by omega) (show x1.2.1 < (x0.1.length : Int) from by omega)) rfl ?_
  refine ap_ni ?_
  exact ap_gr idn (nk rfl) k68 (by kernel_rfl)
  refine apo_ao rfl ?_
  refine ao_r (r_load_cell Try.isAgg3 rfl rfl rfl) rfl ?_
  refine ap_ni ?_
  exact ap_gr idn (nk rfl) k78 (by kernel_rfl)
  refine apo_ao rfl ?_
  refine ao_eff trivial (e_alloc 3 (y := .v ty8 ((List.replicate 6 0) : dy12)) Try.zeroValue76 (fun ρ h M => ra_zero_arr (t := ty11) rfl) rfl rfl rfl rfl rfl) rfl ?_
  refine ap_ni ?_
  exact ap_gr idn (nk rfl) k80 (by kernel_rfl)
  refine ap_let (g := 10) (listed := #[true, true, true, false, false, false, true, true, false, false, false, false, false, false, false]) [(2, .ref 0 0), (3, .ref 1 0), (4, .ref 2 0), (71, .v ty5 x0.1), (72, .ref 1 1), (77, .int .i64 x1.2.2.1)] [(0, .var [.cell (.v ty5 x0.1), ci x0.2.1, .cell (.v ty7 x0.2.2.1), ci x0.2.2.2.1, ci x0.2.2.2.2.1, ci x0.2.2.2.2.2.1]), (1, .var [ci x1.1, ci x1.2.1, ci x1.2.2.1]), (2, .var [.cell (.nilsl), ci 0, .cell (.nilsl), ci 0, ci 0, ci 0])] ?_ (fun k81 => ?_)
  refine ap_all [3, 12] (by kernel_rfl) ⟨?_, ?_, trivial⟩
  refine apo_ao rfl ?_
  refine ao_r (r_load_cell Try.isAgg3 rfl rfl rfl) rfl ?_
  refine ap_ni ?_
  exact ap_gr idn (nk rfl) k78 (by kernel_rfl)
  refine apo_ao rfl ?_
  refine ao_eff trivial (e_alloc 3 (y := .v ty8 ((List.replicate 6 0) : dy12)) Try.zeroValue76 (fun ρ h M => ra_zero_arr (t := ty11) rfl) rfl rfl rfl rfl rfl) rfl ?_
  refine ap_ni ?_
  exact ap_gr idn (nk rfl) k82 (by kernel_rfl)
  refine ap_let (g := 10) (listed := #[true, true, true, false, false, false, true, false, false, false, false, false, true, false, false]) [(2, .ref 0 0), (3, .ref 1 0), (4, .ref 2 0), (7, .ref 3 0), (71, .v ty5 x0.1), (72, .ref 1 1), (76, .ref 1 2)] [(0, .var [.cell (.v ty5 x0.1), ci x0.2.1, .cell (.v ty7 x0.2.2.1), ci x0.2.2.2.1, ci x0.2.2.2.2.1, ci x0.2.2.2.2.2.1]), (1, .var [ci x1.1, ci x1.2.1, ci x1.2.2.1]), (2, .var [.cell (.nilsl), ci 0, .cell (.nilsl), ci 0, ci 0, ci 0]), (3, .var [.arr ty11 6 ((List.replicate 6 0) : dy12)])] ?_ (fun k83 => ?_)
  refine ap_all [3, 7] (by kernel_rfl) ⟨?_, ?_, trivial⟩
  refine apo_ao rfl ?_
  refine ao_r (r_load_cell Try.isAgg3 rfl rfl rfl) rfl ?_
  refine ap_ni ?_
  exact ap_gr idn (nk rfl) k80 (by kernel_rfl)
  refine apo_ao rfl ?_
  refine ao_r (r_load_cell Try.isAgg3 rfl rfl rfl) rfl ?_
  refine ap_ni ?_
  exact ap_gr idn (nk rfl) k82 (by kernel_rfl)
  refine ap_let (g := 10) (listed := #[true, false, true, true, false, false, true, true, false, false, false, false, false, false, false]) [(2, .ref 0 0), (3, .ref 1 0), (4, .ref 2 0), (70, .ref 0 0), (73, .int .i64 x1.2.1), (77, .int .i64 x1.2.2.1)] [(0, .var [.cell (.v ty5 x0.1), ci x0.2.1, .cell (.v ty7 x0.2.2.1), ci x0.2.2.2.1, ci x0.2.2.2.2.1, ci x0.2.2.2.2.2.1]), (1, .var [ci x1.1, ci x1.2.1, ci x1.2.2.1]), (2, .var [.cell (.nilsl), ci 0, .cell (.nilsl), ci 0, ci 0, ci 0])] ?_ (fun k85 => ?_)
  refine ap_all [1, 12] (by kernel_rfl) ⟨?_, ?_, trivial⟩
  refine apo_ao rfl ?_
  refine ao_r (r_load_cell Try.isAgg22 rfl rfl rfl) rfl ?_
  refine ap_ni ?_
  exact ap_gr idn (nk rfl) k78 (by kernel_rfl)
  refine apo_ao rfl ?_
  refine ao_eff trivial (e_alloc 3 (y := .v ty8 ((List.replicate 6 0) : dy12)) Try.zeroValue76 (fun ρ h M => ra_zero_arr (t := ty11) rfl) rfl rfl rfl rfl rfl) rfl ?_
  refine ap_ni ?_
  exact ap_gr idn (nk rfl) k86 (by kernel_rfl)
  refine ap_let (g := 10) (listed := #[true, false, true, true, false, false, true, false, false, false, false, false, true, false, false]) [(2, .ref 0 0), (3, .ref 1 0), (4, .ref 2 0), (7, .ref 3 0), (70, .ref 0 0), (73, .int .i64 x1.2.1), (76, .ref 1 2)] [(0, .var [.cell (.v ty5 x0.1), ci x0.2.1, .cell (.v ty7 x0.2.2.1), ci x0.2.2.2.1, ci x0.2.2.2.2.1, ci x0.2.2.2.2.2.1]), (1, .var [ci x1.1, ci x1.2.1, ci x1.2.2.1]), (2, .var [.cell (.nilsl), ci 0, .cell (.nilsl), ci 0, ci 0, ci 0]), (3, .var [.arr ty11 6 ((List.replicate 6 0) : dy12)])] ?_ (fun k87 => ?_)
  refine ap_all [1, 7] (by kernel_rfl) ⟨?_, ?_, trivial⟩
  refine apo_ao rfl ?_
  refine ao_r (r_load_cell Try.isAgg22 rfl rfl rfl) rfl ?_
  refine ap_ni ?_
  exact ap_gr idn (nk rfl) k80 (by kernel_rfl)
  refine apo_ao rfl ?_
  refine ao_r (r_load_cell Try.isAgg3 rfl rfl rfl) rfl ?_
  refine ap_ni ?_
  exact ap_gr idn (nk rfl) k86 (by kernel_rfl)
  refine ap_let (g := 10) (listed := #[true, false, true, false, false, false, true, true, false, false, false, false, true, false, false]) [(2, .ref 0 0), (3, .ref 1 0), (4, .ref 2 0), (7, .ref 3 0), (70, .ref 0 0), (72, .ref 1 1), (77, .int .i64 x1.2.2.1)] [(0, .var [.cell (.v ty5 x0.1), ci x0.2.1, .cell (.v ty7 x0.2.2.1), ci x0.2.2.2.1, ci x0.2.2.2.2.1, ci x0.2.2.2.2.2.1]), (1, .var [ci x1.1, ci x1.2.1, ci x1.2.2.1]), (2, .var [.cell (.nilsl), ci 0, .cell (.nilsl), ci 0, ci 0, ci 0]), (3, .var [.arr ty11 6 ((List.replicate 6 0) : dy12)])] ?_ (fun k89 => ?_)
  refine ap_all [1, 3] (by kernel_rfl) ⟨?_, ?_, trivial⟩
  refine apo_ao rfl ?_
  refine ao_r (r_load_cell Try.isAgg22 rfl rfl rfl) rfl ?_
  refine ap_ni ?_
  exact ap_gr idn (nk rfl) k82 (by kernel_rfl)
  refine apo_ao rfl ?_
  refine ao_r (r_load_cell Try.isAgg3 rfl rfl rfl) rfl ?_
  refine ap_ni ?_
  exact ap_gr idn (nk rfl) k86 (by kernel_rfl)
  refine ap_let (g := 11) (listed := #[true, true, true, false, false, false, true, false, false, false, false, false, false, false, false]) [(2, .ref 0 0), (3, .ref 1 0), (4, .ref 2 0), (71, .v ty5 x0.1), (72, .ref 1 1), (76, .ref 1 2)] [(0, .var [.cell (.v ty5 x0.1), ci x0.2.1, .cell (.v ty7 x0.2.2.1), ci x0.2.2.2.1, ci x0.2.2.2.2.1, ci x0.2.2.2.2.2.1]), (1, .var [ci x1.1, ci x1.2.1, ci x1.2.2.1]), (2, .var [.cell (.nilsl), ci 0, .cell (.nilsl), ci 0, ci 0, ci 0])] ?_ (fun k66 => ?_)
  refine ap_all [3, 7, 12] (by kernel_rfl) ⟨?_, ?_, ?_, trivial⟩
  refine apo_ao rfl ?_
  refine ao_r (r_load_cell Try.isAgg3 rfl rfl rfl) rfl ?_
  refine ap_ni ?_
  exact ap_gr idn (nk rfl) k67 (by kernel_rfl)
  refine apo_ao rfl ?_
  refine ao_r (r_load_cell Try.isAgg3 rfl rfl rfl) rfl ?_
  refine ap_ni ?_
  exact ap_gr idn (nk rfl) k81 (by kernel_rfl)
  refine apo_ao rfl ?_
  refine ao_eff trivial (e_alloc 3 (y := .v ty8 ((List.replicate 6 0) : dy12)) Try.zeroValue76 (fun ρ h M => ra_zero_arr (t := ty11) rfl) rfl rfl rfl rfl rfl) rfl ?_
  refine ap_ni ?_
  exact ap_gr idn (nk rfl) k83 (by kernel_rfl)
  refine ap_let (g := 11) (listed := #[true, false, true, true, false, false, true, false, false, false, false, false, false, false, false]) [(2, .ref 0 0), (3, .ref 1 0), (4, .ref 2 0), (70, .ref 0 0), (73, .int .i64 x1.2.1), (76, .ref 1 2)] [(0, .var [.cell (.v ty5 x0.1), ci x0.2.1, .cell (.v ty7 x0.2.2.1), ci x0.2.2.2.1, ci x0.2.2.2.2.1, ci x0.2.2.2.2.2.1]), (1, .var [ci x1.1, ci x1.2.1, ci x1.2.2.1]), (2, .var [.cell (.nilsl), ci 0, .cell (.nilsl), ci 0, ci 0, ci 0])] ?_ (fun k84 => ?_)
  refine ap_all [1, 7, 12] (by kernel_rfl) ⟨?_, ?_, ?_, trivial⟩
  refine apo_ao rfl ?_
  refine ao_r (r_load_cell Try.isAgg22 rfl rfl rfl) rfl ?_
  refine ap_ni ?_
  exact ap_gr idn (nk rfl) k67 (by kernel_rfl)
  refine apo_ao rfl ?_
  refine ao_r (r_load_cell Try.isAgg3 rfl rfl rfl) rfl ?_
  refine ap_ni ?_
  exact ap_gr idn (nk rfl) k85 (by kernel_rfl)
  refine apo_ao rfl ?_
  refine ao_eff trivial (e_alloc 3 (y := .v ty8 ((List.replicate 6 0) : dy12)) Try.zeroValue76 (fun ρ h M => ra_zero_arr (t := ty11) rfl) rfl rfl rfl rfl rfl) rfl ?_
  refine ap_ni ?_
  exact ap_gr idn (nk rfl) k87 (by kernel_rfl)
  refine ap_let (g := 11) (listed := #[true, false, true, false, false, false, true, true, false, false, false, false, false, false, false]) [(2, .ref 0 0), (3, .ref 1 0), (4, .ref 2 0), (70, .ref 0 0), (72, .ref 1 1), (77, .int .i64 x1.2.2.1)] [(0, .var [.cell (.v ty5 x0.1), ci x0.2.1, .cell (.v ty7 x0.2.2.1), ci x0.2.2.2.1, ci x0.2.2.2.2.1, ci x0.2.2.2.2.2.1]), (1, .var [ci x1.1, ci x1.2.1, ci x1.2.2.1]), (2, .var [.cell (.nilsl), ci 0, .cell (.nilsl), ci 0, ci 0, ci 0])] ?_ (fun k88 => ?_)
  refine ap_all [1, 3, 12] (by kernel_rfl) ⟨?_, ?_, ?_, trivial⟩
  refine apo_ao rfl ?_
  refine ao_r (r_load_cell Try.isAgg22 rfl rfl rfl) rfl ?_
  refine ap_ni ?_
  exact ap_gr idn (nk rfl) k81 (by kernel_rfl)
  refine apo_ao rfl ?_
  refine ao_r (r_load_cell Try.isAgg3 rfl rfl rfl) rfl ?_
  refine ap_ni ?_
  exact ap_gr idn (nk rfl) k85 (by kernel_rfl)
  refine apo_ao rfl ?_
  refine ao_eff trivial (e_alloc 3 (y := .v ty8 ((List.replicate 6 0) : dy12)) Try.zeroValue76 (fun ρ h M => ra_zero_arr (t := ty11) rfl) rfl rfl rfl rfl rfl) rfl ?_
  refine ap_ni ?_
  exact ap_gr idn (nk rfl) k89 (by kernel_rfl)
  refine ap_let (g := 11) (listed := #[true, false, true, false, false, false, true, false, false, false, false, false, true, false, false]) [(2, .ref 0 0), (3, .ref 1 0), (4, .ref 2 0), (7, .ref 3 0), (70, .ref 0 0), (72, .ref 1 1), (76, .ref 1 2)] [(0, .var [.cell (.v ty5 x0.1), ci x0.2.1, .cell (.v ty7 x0.2.2.1), ci x0.2.2.2.1, ci x0.2.2.2.2.1, ci x0.2.2.2.2.2.1]), (1, .var [ci x1.1, ci x1.2.1, ci x1.2.2.1]), (2, .var [.cell (.nilsl), ci 0, .cell (.nilsl), ci 0, ci 0, ci 0]), (3, .var [.arr ty11 6 ((List.replicate 6 0) : dy12)])] ?_ (fun k90 => ?_)
  refine ap_all [1, 3, 7] (by kernel_rfl) ⟨?_, ?_, ?_, trivial⟩
  refine apo_ao rfl ?_
  refine ao_r (r_load_cell Try.isAgg22 rfl rfl rfl) rfl ?_
  refine ap_ni ?_
  exact ap_gr idn (nk rfl) k83 (by kernel_rfl)
  refine apo_ao rfl ?_
  refine ao_r (r_load_cell Try.isAgg3 rfl rfl rfl) rfl ?_
  refine ap_ni ?_
  exact ap_gr idn (nk rfl) k87 (by kernel_rfl)
  refine apo_ao rfl ?_
  refine ao_r (r_load_cell Try.isAgg3 rfl rfl rfl) rfl ?_
  refine ap_ni ?_
  exact ap_gr idn (nk rfl) k89 (by kernel_rfl)
  refine ap_let (g := 12) (listed := #[true, false, true, false, false, false, true, false, false, false, false, false, false, false, false]) [(2, .ref 0 0), (3, .ref 1 0), (4, .ref 2 0), (70, .ref 0 0), (72, .ref 1 1), (76, .ref 1 2)] [(0, .var [.cell (.v ty5 x0.1), ci x0.2.1, .cell (.v ty7 x0.2.2.1), ci x0.2.2.2.1, ci x0.2.2.2.2.1, ci x0.2.2.2.2.2.1]), (1, .var [ci x1.1, ci x1.2.1, ci x1.2.2.1]), (2, .var [.cell (.nilsl), ci 0, .cell (.nilsl), ci 0, ci 0, ci 0])] ?_ (fun k65 => ?_)
  refine ap_all [1, 3, 7, 12] (by kernel_rfl) ⟨?_, ?_, ?_, ?_, trivial⟩
  refine apo_ao rfl ?_
  refine ao_r (r_load_cell Try.isAgg22 rfl rfl rfl) rfl ?_
  refine ap_ni ?_
  exact ap_gr idn (nk rfl) k66 (by kernel_rfl)
  refine apo_ao rfl ?_
  refine ao_r (r_load_cell Try.isAgg3 rfl rfl rfl) rfl ?_
  refine ap_ni ?_
  exact ap_gr idn (nk rfl) k84 (by kernel_rfl)
  refine apo_ao rfl ?_
  refine ao_r (r_load_cell Try.isAgg3 rfl rfl rfl) rfl ?_
  refine ap_ni ?_
  exact ap_gr idn (nk rfl) k88 (by kernel_rfl)
  refine apo_ao rfl ?_
  refine ao_eff trivial (e_alloc 3 (y := .v ty8 ((List.replicate 6 0) : dy12)) Try.zeroValue76 (fun ρ h M => ra_zero_arr (t := ty11) rfl) rfl rfl rfl rfl rfl) rfl ?_
  refine ap_ni ?_
  exact ap_gr idn (nk rfl) k90 (by kernel_rfl)
  refine ap_p 0 (fun _ _ _ h => h) rfl (by kernel_rfl) (rp_fieldAddr Try.underlying29 rfl Try.sizeOf22 rfl rfl rfl) rfl ?_
  refine ap_p 2 (fun _ _ _ h => h) rfl (by kernel_rfl) (rp_fieldAddr Try.underlying33 rfl Try.sizeOf3 rfl rfl rfl) rfl ?_
  refine ap_p 6 (fun _ _ _ h => h) rfl (by kernel_rfl) (rp_fieldAddr Try.underlying33 rfl Try.sizeOf3 rfl rfl rfl) rfl ?_
  exact ap_gr idn (nk rfl) k65 (by kernel_rfl)
  have q60 := d_f hb58
  replace h := is_else (d_f hb58) h
  refine aw_seq ?_
  refine aw_region ?_
  refine ao_r (r_eql rfl rfl) rfl ?_
  refine ao_r (r_assign rfl) rfl ?_
  refine ao_nil ?_
  refine aq_then ?_
  refine aw_cond rfl (fun hb96 => ?_) (fun hb96 => ?_)
  have q97 := d_t hb96
  replace h := is_if (d_t hb96) h
  refine aw_seq ?_
  refine aw_seq ?_
  refine aw_region ?_
  refine ao_r (r_fieldAddr Try.underlying33 rfl Try.sizeOf3 rfl rfl rfl) rfl ?_
  refine ao_r (r_load_cell Try.isAgg3 rfl rfl rfl) rfl ?_
  refine ao_scall trivial (scall (c_spec_l1In (is_mk (rfl : p_spec_l1In x1.2.1 0 30 = _))) rfl Try.func62 rfl rfl rfl rfl (fun σ => ⟨ad_ren rfl, ad_ren rfl, ad_ren rfl, trivial⟩)) rfl ?_
  refine ao_r (r_not rfl) rfl ?_
  refine ao_r (r_move rfl) rfl ?_
  refine ao_readG (x := .ref 1 2) rfl (GV.F rfl) (fun hg99 => r_fieldAddr Try.underlying33 rfl Try.sizeOf3 rfl rfl rfl) rfl ?_
  refine ao_readG (x := .int .i64 x1.2.2.1) rfl (GV.F rfl) (fun hg100 => Reads.strip 100 rfl (hg100) (r_load_cell Try.isAgg3 rfl rfl rfl)) rfl ?_
  refine ao_scallG (r := .bool (p_spec_l1In x1.2.2.1 0 30)) rfl (GV.F rfl) (fun hg101 => SCall.strip 101 rfl (hg101) (scall (c_spec_l1In (is_mk (rfl : p_spec_l1In x1.2.2.1 0 30 = _))) rfl Try.func62 rfl rfl rfl rfl (fun σ => ⟨ad_ren rfl, ad_ren rfl, ad_ren rfl, trivial⟩))) rfl ?_
  refine ao_readG (x := .bool (!(p_spec_l1In x1.2.2.1 0 30))) rfl (GV.F rfl) (fun hg102 => Reads.strip 102 rfl (hg102) (r_not rfl)) rfl ?_
  refine ao_r (r_orB rfl rfl) rfl ?_
  refine ao_nil ?_
  refine aq_then ?_
  refine aw_cond rfl (fun hb103 => ?_) (fun hb103 => ?_)
  replace h := is_if hb103 h
  refine aw_seq ?_
  refine aw_region ?_
  refine ao_r (r_load_part (τ := ty1) (y := ((x0.1, (x0.2.1, (x0.2.2.1, (x0.2.2.2.1, (x0.2.2.2.2.1, (x0.2.2.2.2.2.1, ())))))) : dy3)) [] [] rfl Try.isAgg29 Try.sizeOf29 rfl rfl rfl rfl) rfl ?_
  refine ao_effS trivial (e_store rfl rfl rfl rfl Try.sizeOf29 rfl) ?_
  refine ao_r (r_assign rfl) rfl ?_
  refine ao_nil ?_
  refine aq_then ?_
  refine aw_ret ?_
  refine aq_then_ret ?_
  refine aq_in_ret ?_
  refine aq_then_ret ?_
  refine aq_ret ?_
  obtain rfl := is_some h
  exact aq_finV (l := [.cell 4 29, .tmp 5]) (xs := [.st [.v ty5 x0.1, .int .i64 x0.2.1, .v ty7 x0.2.2.1, .int .i64 x0.2.2.2.1, .int .i64 x0.2.2.2.2.1, .int .i64 x0.2.2.2.2.2.1], .bool false]) idn [.v ty1 ((x0.1, (x0.2.1, (x0.2.2.1, (x0.2.2.2.1, (x0.2.2.2.2.1, (x0.2.2.2.2.2.1, ())))))) : dy3), .bool false] [] rfl (by exact ⟨⟨⟨_, _, rfl⟩, r_load_st [] [.cell (.v ty5 x0.1), ci x0.2.1, .cell (.v ty7 x0.2.2.1), ci x0.2.2.2.1, ci x0.2.2.2.2.1, ci x0.2.2.2.2.2.1] [] Try.isAgg29 Try.sizeOf29 rfl rfl rfl rfl rfl rfl rfl⟩, rfl, trivial⟩) (by exact ⟨ad_st rfl rfl ⟨ad_ren rfl, ad_ren rfl, ad_ren rfl, ad_ren rfl, ad_ren rfl, ad_ren rfl, trivial⟩, ad_ren rfl, trivial⟩) (by exact trivial) rfl (nk rfl) ⟨rfl, rfl⟩
  obtain ⟨q104, q105⟩ := or_f hb103
  replace h := is_else (ne_t hb103) h
  refine aw_skip ?_
  refine aq_then ?_
  refine aw_seq ?_
  refine aw_region ?_
  refine ao_r (r_build_zero (t := ty11) Try.underlying76 Try.zeroValue76 Try.sizeOf3 rfl) rfl ?_
  refine ao_eff trivial (e_alloc 3 (y := .v ty8 ((List.replicate 6 0) : dy12)) Try.zeroValue76 (fun ρ h M => ra_zero_arr (t := ty11) rfl) rfl rfl rfl rfl rfl) rfl ?_
  refine ao_effS trivial (e_store rfl rfl rfl rfl Try.sizeOf76 rfl) ?_
  refine ao_nil ?_
  refine aq_then ?_
  refine aw_seq ?_
  refine aw_seq ?_
  refine aw_region ?_
  refine ao_r (r_assign rfl) rfl ?_
  refine ao_nil ?_
  refine aq_then ?_
  refine aw_block ?_
  refine aw_loop (AL.sub (fr' := [(2, .ref 0 0), (3, .ref 1 0), (4, .ref 2 0), (10, .ref 3 0), (11, .int .i64 0)]) (H' := [(0, .var [.cell (.v ty5 x0.1), ci x0.2.1, .cell (.v ty7 x0.2.2.1), ci x0.2.2.2.1, ci x0.2.2.2.2.1, ci x0.2.2.2.2.2.1]), (1, .var [ci x1.1, ci x1.2.1, ci x1.2.2.1]), (2, .var [.cell (.nilsl), ci 0, .cell (.nilsl), ci 0, ci 0, ci 0]), (3, .var [.arr ty11 6 ((List.replicate 6 0) : dy12)])]) (sub_r1 idn (nk rfl) (by kernel_rfl)) (al_cnt (fun i107 (s106 : dy12) => [(2, .ref 0 0), (3, .ref 1 0), (4, .ref 2 0), (10, .ref 3 0), (11, .int .i64 i107)]) (fun i107 (s106 : dy12) => [(0, .var [.cell (.v ty5 x0.1), ci x0.2.1, .cell (.v ty7 x0.2.2.1), ci x0.2.2.2.1, ci x0.2.2.2.2.1, ci x0.2.2.2.2.2.1]), (1, .var [ci x1.1, ci x1.2.1, ci x1.2.2.1]), (2, .var [.cell (.nilsl), ci 0, .cell (.nilsl), ci 0, ci 0, ci 0]), (3, .var [.arr ty11 6 s106])]) (fun d i107 (s106 : dy12) => d = Int.toNat (6 - i107) ∧ 0 ≤ i107 ∧ (s106.length : Int) = 6 ∧ i107 ≤ 6) h ⟨rfl, (by (try simp only [List.length_set, List.length_append, List.length_cons, List.length_nil, List.length_replicate, List.length_take, List.length_drop]) <;> omega), (by (try simp only [List.length_set, List.length_append, List.length_cons, List.length_nil, List.length_replicate, List.length_take, List.length_drop]) <;> omega), (by (try simp only [List.length_set, List.length_append, List.length_cons, List.length_nil, List.length_replicate, List.length_take, List.length_drop]) <;> omega)⟩ (fun d108 i107 s106 hI h ih108 => ?_)))
  obtain ⟨hd, _, _, _⟩ := hI
  refine al_round ?_
  refine aw_seq ?_
  refine aw_seq ?_
  refine aw_region ?_
  refine ao_r (r_move rfl) rfl ?_
  refine ao_r (r_lss rfl rfl) rfl ?_
  refine ao_nil ?_
  refine aq_then ?_
  refine aw_cond rfl (fun hb110 => ?_) (fun hb110 => ?_)
  have q111 := d_t hb110
  obtain ⟨d108, rfl⟩ : ∃ e, d108 = e + 1 := ⟨d108 - 1, by omega⟩
  replace h := is_cntS h
  refine aw_skip ?_
  refine aq_then ?_
  refine aw_seq ?_
  refine aw_block ?_
  refine aw_region ?_
  refine ao_r (r_move rfl) rfl ?_
  refine ao_r (r_fieldAddr Try.underlying33 rfl Try.sizeOf3 rfl rfl rfl) rfl ?_
  refine ao_r (r_load_cell Try.isAgg3 rfl rfl rfl) rfl ?_
  refine ao_r (r_move rfl) rfl ?_
  refine ao_r (r_fieldAddr Try.underlying33 rfl Try.sizeOf3 rfl rfl rfl) rfl ?_
  refine ao_r (r_load_cell Try.isAgg3 rfl rfl rfl) rfl ?_
  refine ao_r (r_mul rfl rfl) rfl ?_
  refine ao_r (r_add rfl rfl) rfl ?_
  refine ao_r (r_idxAddr_arr (i := i107) Try.underlying76 Try.sizeOf3 rfl rfl (show 0 ≤ i107 from by omega) (show i107 < (6 : Int) from by omega)) rfl ?_
  refine ao_effS trivial (e_store_elema_int Try.sizeOf3 rfl rfl rfl rfl (show i107.toNat < 6 from by omega) rfl) ?_
  refine ao_nil ?_
  refine aq_in ?_
  refine aq_then ?_
  refine aw_region ?_
  refine ao_r (r_move rfl) rfl ?_
  refine ao_r (r_addI rfl rfl (wrap_id (by omega) (by omega))) rfl ?_
  refine ao_r (r_assign rfl) rfl ?_
  refine ao_nil ?_
  exact aq_again (AL.sub (sub_r1 idn (nk rfl) (by kernel_rfl)) (ih108 d108 (i107 + 1) (s106.set i107.toNat (IntKind.wrap .i64 (x1.2.1 + (IntKind.wrap .i64 (i107 * x1.2.2.1))))) (by omega) ⟨by omega, (by (try simp only [List.length_set, List.length_append, List.length_cons, List.length_nil, List.length_replicate, List.length_take, List.length_drop]) <;> omega), (by (try simp only [List.length_set, List.length_append, List.length_cons, List.length_nil, List.length_replicate, List.length_take, List.length_drop]) <;> omega), (by (try simp only [List.length_set, List.length_append, List.length_cons, List.length_nil, List.length_replicate, List.length_take, List.length_drop]) <;> omega)⟩ h))
  have q112 := d_f hb110
  obtain rfl : d108 = 0 := by omega
  replace h := is_cnt0 h
  refine aw_exit ?_
  refine aq_then_exit ?_
  refine aq_then_exit ?_
  refine aq_in_exit ?_
  refine aq_then ?_
  refine aw_seq ?_
  obtain ⟨r113, r113h, h⟩ := is_bind h
  obtain ⟨g115, h⟩ := is_guard h
  refine aw_drawP 10 rfl (by kernel_rfl) ?_
  refine ap_to [(4, .ref 0 0), (5, .bool true)] [(0, .var [.cell (.os 1), .cell (.int .i64 (((p_spec_l12Dicev1 (x0.1, (x0.2.1, (x0.2.2.1, (x0.2.2.2.1, (x0.2.2.2.2.1, (x0.2.2.2.2.2.1, ())))))) (r113 ++ [s106])).2).1)), .cell (.os 2), .cell (.int .i64 (((((p_spec_l12Dicev1 (x0.1, (x0.2.1, (x0.2.2.1, (x0.2.2.2.1, (x0.2.2.2.2.1, (x0.2.2.2.2.2.1, ())))))) (r113 ++ [s106])).2).2).2).1)), .cell (.int .i64 ((((((p_spec_l12Dicev1 (x0.1, (x0.2.1, (x0.2.2.1, (x0.2.2.2.1, (x0.2.2.2.2.1, (x0.2.2.2.2.2.1, ())))))) (r113 ++ [s106])).2).2).2).2).1)), .cell (.int .i64 (((((((p_spec_l12Dicev1 (x0.1, (x0.2.1, (x0.2.2.1, (x0.2.2.2.1, (x0.2.2.2.2.1, (x0.2.2.2.2.2.1, ())))))) (r113 ++ [s106])).2).2).2).2).2).1))]), (1, .row ty8 ((p_spec_l12Dicev1 (x0.1, (x0.2.1, (x0.2.2.1, (x0.2.2.2.1, (x0.2.2.2.2.1, (x0.2.2.2.2.2.1, ())))))) (r113 ++ [s106])).1 : dy10)), (2, .row ty11 ((((p_spec_l12Dicev1 (x0.1, (x0.2.1, (x0.2.2.1, (x0.2.2.2.1, (x0.2.2.2.2.1, (x0.2.2.2.2.2.1, ())))))) (r113 ++ [s106])).2).2).1 : dy12))] ?_ (fun key => ?_)
  refine row_len_q 1 (((p_spec_l12Dicev1 (x0.1, (x0.2.1, (x0.2.2.1, (x0.2.2.2.1, (x0.2.2.2.2.1, (x0.2.2.2.2.2.1, ())))))) (r113 ++ [s106])).1).length : Int) rfl rfl (fun hr139 => ?_)
  refine row_len_q 2 (((((p_spec_l12Dicev1 (x0.1, (x0.2.1, (x0.2.2.1, (x0.2.2.2.1, (x0.2.2.2.2.1, (x0.2.2.2.2.2.1, ())))))) (r113 ++ [s106])).2).2).1).length : Int) rfl rfl (fun hr140 => ?_)
  refine aq_then ?_
  refine aw_ret ?_
  refine aq_in_ret ?_
  refine aq_then_ret ?_
  refine aq_ret ?_
  obtain rfl := is_some h
  exact aq_finV (l := [.cell 4 29, .tmp 5]) (xs := [.st [.os 1, .int .i64 (((p_spec_l12Dicev1 (x0.1, (x0.2.1, (x0.2.2.1, (x0.2.2.2.1, (x0.2.2.2.2.1, (x0.2.2.2.2.2.1, ())))))) (r113 ++ [s106])).2).1), .os 2, .int .i64 (((((p_spec_l12Dicev1 (x0.1, (x0.2.1, (x0.2.2.1, (x0.2.2.2.1, (x0.2.2.2.2.1, (x0.2.2.2.2.2.1, ())))))) (r113 ++ [s106])).2).2).2).1), .int .i64 ((((((p_spec_l12Dicev1 (x0.1, (x0.2.1, (x0.2.2.1, (x0.2.2.2.1, (x0.2.2.2.2.1, (x0.2.2.2.2.2.1, ())))))) (r113 ++ [s106])).2).2).2).2).1), .int .i64 (((((((p_spec_l12Dicev1 (x0.1, (x0.2.1, (x0.2.2.1, (x0.2.2.2.1, (x0.2.2.2.2.1, (x0.2.2.2.2.2.1, ())))))) (r113 ++ [s106])).2).2).2).2).2).1)], .bool true]) idn [.v ty1 (((p_spec_l12Dicev1 (x0.1, (x0.2.1, (x0.2.2.1, (x0.2.2.2.1, (x0.2.2.2.2.1, (x0.2.2.2.2.2.1, ())))))) (r113 ++ [s106])).1, (((p_spec_l12Dicev1 (x0.1, (x0.2.1, (x0.2.2.1, (x0.2.2.2.1, (x0.2.2.2.2.1, (x0.2.2.2.2.2.1, ())))))) (r113 ++ [s106])).2).1, ((((p_spec_l12Dicev1 (x0.1, (x0.2.1, (x0.2.2.1, (x0.2.2.2.1, (x0.2.2.2.2.1, (x0.2.2.2.2.2.1, ())))))) (r113 ++ [s106])).2).2).1, (((((p_spec_l12Dicev1 (x0.1, (x0.2.1, (x0.2.2.1, (x0.2.2.2.1, (x0.2.2.2.2.1, (x0.2.2.2.2.2.1, ())))))) (r113 ++ [s106])).2).2).2).1, ((((((p_spec_l12Dicev1 (x0.1, (x0.2.1, (x0.2.2.1, (x0.2.2.2.1, (x0.2.2.2.2.1, (x0.2.2.2.2.2.1, ())))))) (r113 ++ [s106])).2).2).2).2).1, (((((((p_spec_l12Dicev1 (x0.1, (x0.2.1, (x0.2.2.1, (x0.2.2.2.1, (x0.2.2.2.2.1, (x0.2.2.2.2.2.1, ())))))) (r113 ++ [s106])).2).2).2).2).2).1, ())))))) : dy3), .bool true] [] rfl (by exact ⟨⟨⟨_, _, rfl⟩, r_load_st [] [.cell (.os 1), .cell (.int .i64 (((p_spec_l12Dicev1 (x0.1, (x0.2.1, (x0.2.2.1, (x0.2.2.2.1, (x0.2.2.2.2.1, (x0.2.2.2.2.2.1, ())))))) (r113 ++ [s106])).2).1)), .cell (.os 2), .cell (.int .i64 (((((p_spec_l12Dicev1 (x0.1, (x0.2.1, (x0.2.2.1, (x0.2.2.2.1, (x0.2.2.2.2.1, (x0.2.2.2.2.2.1, ())))))) (r113 ++ [s106])).2).2).2).1)), .cell (.int .i64 ((((((p_spec_l12Dicev1 (x0.1, (x0.2.1, (x0.2.2.1, (x0.2.2.2.1, (x0.2.2.2.2.1, (x0.2.2.2.2.2.1, ())))))) (r113 ++ [s106])).2).2).2).2).1)), .cell (.int .i64 (((((((p_spec_l12Dicev1 (x0.1, (x0.2.1, (x0.2.2.1, (x0.2.2.2.1, (x0.2.2.2.2.1, (x0.2.2.2.2.2.1, ())))))) (r113 ++ [s106])).2).2).2).2).2).1))] [] Try.isAgg29 Try.sizeOf29 rfl rfl rfl rfl rfl rfl rfl⟩, rfl, trivial⟩) (by exact ⟨ad_st rfl rfl ⟨ad_osB rfl rfl, ad_ren rfl, ad_osB rfl rfl, ad_ren rfl, ad_ren rfl, ad_ren rfl, trivial⟩, ad_ren rfl, trivial⟩) (by exact trivial) rfl (nk rfl) ⟨rfl, rfl⟩
  refine ap_let (g := 2) (listed := #[true, true, true, true, true, true, true, true, false, false]) [(4, .ref 0 0), (127, .st [.os 1, .int .i64 (((p_spec_l12Dicev1 (x0.1, (x0.2.1, (x0.2.2.1, (x0.2.2.2.1, (x0.2.2.2.2.1, (x0.2.2.2.2.2.1, ())))))) (r113 ++ [s106])).2).1), .os 2, .int .i64 (((((p_spec_l12Dicev1 (x0.1, (x0.2.1, (x0.2.2.1, (x0.2.2.2.1, (x0.2.2.2.2.1, (x0.2.2.2.2.2.1, ())))))) (r113 ++ [s106])).2).2).2).1), .int .i64 ((((((p_spec_l12Dicev1 (x0.1, (x0.2.1, (x0.2.2.1, (x0.2.2.2.1, (x0.2.2.2.2.1, (x0.2.2.2.2.2.1, ())))))) (r113 ++ [s106])).2).2).2).2).1), .int .i64 (((((((p_spec_l12Dicev1 (x0.1, (x0.2.1, (x0.2.2.1, (x0.2.2.2.1, (x0.2.2.2.2.1, (x0.2.2.2.2.2.1, ())))))) (r113 ++ [s106])).2).2).2).2).2).1)])] [(0, .var [.cell (.nilsl), ci 0, .cell (.nilsl), ci 0, ci 0, ci 0]), (1, .row ty8 ((p_spec_l12Dicev1 (x0.1, (x0.2.1, (x0.2.2.1, (x0.2.2.2.1, (x0.2.2.2.2.1, (x0.2.2.2.2.2.1, ())))))) (r113 ++ [s106])).1 : dy10)), (2, .row ty11 ((((p_spec_l12Dicev1 (x0.1, (x0.2.1, (x0.2.2.1, (x0.2.2.2.1, (x0.2.2.2.2.1, (x0.2.2.2.2.2.1, ())))))) (r113 ++ [s106])).2).2).1 : dy12))] ?_ (fun k125 => ?_)
  refine ap_all [8] (by kernel_rfl) ⟨?_, trivial⟩
  refine apo_ao rfl ?_
  refine ao_effS trivial (e_store rfl rfl rfl rfl Try.sizeOf29 rfl) ?_
  refine ap_ni ?_
  refine ap_p 9 (fun _ _ _ h => h) rfl (by kernel_rfl) (rp_assign rfl) rfl ?_
  exact ap_end (by kernel_rfl) (AQ.sub (sub_r1 idn (nk rfl) (by kernel_rfl)) key)
  refine ap_let (g := 3) (listed := #[true, true, true, true, true, true, true, false, false, false]) [(4, .ref 0 0), (120, .v ty1 ((x0.1, (x0.2.1, (x0.2.2.1, (x0.2.2.2.1, (x0.2.2.2.2.1, (x0.2.2.2.2.2.1, ())))))) : dy3)), (126, .os 1)] [(0, .var [.cell (.nilsl), ci 0, .cell (.nilsl), ci 0, ci 0, ci 0]), (1, .row ty8 ((r113 ++ [s106]) : dy10))] ?_ (fun k124 => ?_)
  refine ap_all [7] (by kernel_rfl) ⟨?_, trivial⟩
  refine apo_ao rfl ?_
  refine ao_call [1] 2 trivial (c_spec_l12Dicev1 (is_mk (rfl : p_spec_l12Dicev1 (x0.1, (x0.2.1, (x0.2.2.1, (x0.2.2.2.1, (x0.2.2.2.2.1, (x0.2.2.2.2.2.1, ())))))) (r113 ++ [s106]) = _))) Try.func83 rfl rfl rfl rfl ⟨ad_ren rfl, ad_ren rfl, trivial⟩ ⟨⟨_, rfl, rfl⟩, trivial⟩ rfl rfl rfl rfl rfl rfl rfl (fun r' H' hr => ?_)
  obtain ⟨rfl, rfl⟩ := hr
  refine ao_norm (y := .st [.os 2, .int .i64 (((p_spec_l12Dicev1 (x0.1, (x0.2.1, (x0.2.2.1, (x0.2.2.2.1, (x0.2.2.2.2.1, (x0.2.2.2.2.2.1, ())))))) (r113 ++ [s106])).2).1), .os 3, .int .i64 (((((p_spec_l12Dicev1 (x0.1, (x0.2.1, (x0.2.2.1, (x0.2.2.2.1, (x0.2.2.2.2.1, (x0.2.2.2.2.2.1, ())))))) (r113 ++ [s106])).2).2).2).1), .int .i64 ((((((p_spec_l12Dicev1 (x0.1, (x0.2.1, (x0.2.2.1, (x0.2.2.2.1, (x0.2.2.2.2.1, (x0.2.2.2.2.2.1, ())))))) (r113 ++ [s106])).2).2).2).2).1), .int .i64 (((((((p_spec_l12Dicev1 (x0.1, (x0.2.1, (x0.2.2.1, (x0.2.2.2.1, (x0.2.2.2.2.1, (x0.2.2.2.2.2.1, ())))))) (r113 ++ [s106])).2).2).2).2).2).1)]) (H' := [(0, .var [.cell (.nilsl), ci 0, .cell (.nilsl), ci 0, ci 0, ci 0]), (2, .row ty8 ((p_spec_l12Dicev1 (x0.1, (x0.2.1, (x0.2.2.1, (x0.2.2.2.1, (x0.2.2.2.2.1, (x0.2.2.2.2.2.1, ())))))) (r113 ++ [s106])).1 : dy10)), (3, .row ty11 ((((p_spec_l12Dicev1 (x0.1, (x0.2.1, (x0.2.2.1, (x0.2.2.2.1, (x0.2.2.2.2.1, (x0.2.2.2.2.2.1, ())))))) (r113 ++ [s106])).2).2).1 : dy12))]) rfl rfl ?_
  refine row_len_o 2 (((p_spec_l12Dicev1 (x0.1, (x0.2.1, (x0.2.2.1, (x0.2.2.2.1, (x0.2.2.2.2.1, (x0.2.2.2.2.2.1, ())))))) (r113 ++ [s106])).1).length : Int) rfl rfl (fun hr116 => ?_)
  refine row_len_o 3 (((((p_spec_l12Dicev1 (x0.1, (x0.2.1, (x0.2.2.1, (x0.2.2.2.1, (x0.2.2.2.2.1, (x0.2.2.2.2.2.1, ())))))) (r113 ++ [s106])).2).2).1).length : Int) rfl rfl (fun hr117 => ?_)
  refine ap_ni ?_
  exact ap_gr (rn [(1, 2), (2, 3)]) (nk rfl) k125 (by kernel_rfl)
  refine ap_let (g := 4) (listed := #[true, true, true, true, true, true, false, false, false, false]) [(4, .ref 0 0), (120, .v ty1 ((x0.1, (x0.2.1, (x0.2.2.1, (x0.2.2.2.1, (x0.2.2.2.2.1, (x0.2.2.2.2.2.1, ())))))) : dy3)), (123, .os 1), (125, .os 2)] [(0, .var [.cell (.nilsl), ci 0, .cell (.nilsl), ci 0, ci 0, ci 0]), (1, .row ty8 r113), (2, .row ty8 ([s106] : dy10))] ?_ (fun k123 => ?_)
  refine ap_all [6] (by kernel_rfl) ⟨?_, trivial⟩
  refine apo_ao rfl ?_
  refine ao_eff trivial (e_append (t := ty8) 3 rfl Try.underlying22 (rfl : Try.prog.info? 76 = some _) rfl rfl rfl rfl rfl rfl rfl (src_os rfl) (show r113.length + ([s106] : dy10).length ≤ 1000000000 from by (try simp only [List.length_cons, List.length_nil]) <;> omega) rfl rfl) rfl ?_
  refine ap_ni ?_
  exact ap_gr (rn [(1, 3)]) (nk rfl) k124 (by kernel_rfl)
  refine ap_let (g := 4) (listed := #[false, true, true, true, true, true, true, false, false, false]) [(2, .ref 0 0), (4, .ref 1 0), (126, .os 2)] [(0, .var [.cell (.v ty5 x0.1), ci x0.2.1, .cell (.v ty7 x0.2.2.1), ci x0.2.2.2.1, ci x0.2.2.2.2.1, ci x0.2.2.2.2.2.1]), (1, .var [.cell (.nilsl), ci 0, .cell (.nilsl), ci 0, ci 0, ci 0]), (2, .row ty8 ((r113 ++ [s106]) : dy10))] ?_ (fun k134 => ?_)
  refine ap_all [0] (by kernel_rfl) ⟨?_, trivial⟩
  refine apo_ao rfl ?_
  refine ao_r (r_load_part (τ := ty1) (y := ((x0.1, (x0.2.1, (x0.2.2.1, (x0.2.2.2.1, (x0.2.2.2.2.1, (x0.2.2.2.2.2.1, ())))))) : dy3)) [] [] rfl Try.isAgg29 Try.sizeOf29 rfl rfl rfl rfl) rfl ?_
  refine ap_ni ?_
  exact ap_gr (rn [(0, 1), (1, 2)]) (nk rfl) k124 (by kernel_rfl)
  refine ap_let (g := 5) (listed := #[true, true, true, true, true, false, false, false, false, false]) [(4, .ref 0 0), (120, .v ty1 ((x0.1, (x0.2.1, (x0.2.2.1, (x0.2.2.2.1, (x0.2.2.2.2.1, (x0.2.2.2.2.2.1, ())))))) : dy3)), (123, .os 1), (124, .v ty8 s106)] [(0, .var [.cell (.nilsl), ci 0, .cell (.nilsl), ci 0, ci 0, ci 0]), (1, .row ty8 r113)] ?_ (fun k122 => ?_)
  refine ap_all [5] (by kernel_rfl) ⟨?_, trivial⟩
  refine apo_ao rfl ?_
  refine ao_eff trivial (e_buildSlice (l := [(0, .tmp 124)]) (t := ty8) 2 ([s106] : dy10) rfl Try.underlying22 Try.zeroValue76 Try.sizeOf76 rfl rfl rfl rfl rfl rfl rfl) rfl ?_
  refine ap_ni ?_
  exact ap_gr idn (nk rfl) k123 (by kernel_rfl)
  refine ap_let (g := 5) (listed := #[true, true, true, false, true, true, false, false, false, false]) [(4, .ref 0 0), (120, .v ty1 ((x0.1, (x0.2.1, (x0.2.2.1, (x0.2.2.2.1, (x0.2.2.2.2.1, (x0.2.2.2.2.2.1, ())))))) : dy3)), (122, .v ty5 x0.1), (125, .os 1)] [(0, .var [.cell (.nilsl), ci 0, .cell (.nilsl), ci 0, ci 0, ci 0]), (1, .row ty8 ([s106] : dy10))] ?_ (fun k127 => ?_)
  refine ap_all [3] (by kernel_rfl) ⟨?_, trivial⟩
  refine apo_ao rfl ?_
  refine ao_call [] 2 trivial (c_spec_l2Own (is_mk r113h)) Try.func68 rfl rfl rfl rfl ⟨ad_ren rfl, trivial⟩ trivial rfl rfl rfl rfl rfl rfl rfl (fun r' H' hr => ?_)
  obtain ⟨rfl, rfl⟩ := hr
  refine ao_norm (y := .os 2) (H' := [(0, .var [.cell (.nilsl), ci 0, .cell (.nilsl), ci 0, ci 0, ci 0]), (1, .row ty8 ([s106] : dy10)), (2, .row ty8 r113)]) rfl rfl ?_
  refine row_len_o 2 (r113.length : Int) rfl rfl (fun hr114 => ?_)
  refine ap_ni ?_
  exact ap_gr (rn [(1, 2), (2, 1)]) (nk rfl) k123 (by kernel_rfl)
  refine ap_let (g := 5) (listed := #[false, true, true, true, true, true, false, false, false, false]) [(2, .ref 0 0), (4, .ref 1 0), (123, .os 2), (125, .os 3)] [(0, .var [.cell (.v ty5 x0.1), ci x0.2.1, .cell (.v ty7 x0.2.2.1), ci x0.2.2.2.1, ci x0.2.2.2.2.1, ci x0.2.2.2.2.2.1]), (1, .var [.cell (.nilsl), ci 0, .cell (.nilsl), ci 0, ci 0, ci 0]), (2, .row ty8 r113), (3, .row ty8 ([s106] : dy10))] ?_ (fun k133 => ?_)
  refine ap_all [0, 6] (by kernel_rfl) ⟨?_, ?_, trivial⟩
  refine apo_ao rfl ?_
  refine ao_r (r_load_part (τ := ty1) (y := ((x0.1, (x0.2.1, (x0.2.2.1, (x0.2.2.2.1, (x0.2.2.2.2.1, (x0.2.2.2.2.2.1, ())))))) : dy3)) [] [] rfl Try.isAgg29 Try.sizeOf29 rfl rfl rfl rfl) rfl ?_
  refine ap_ni ?_
  exact ap_gr (rn [(0, 1), (1, 2), (2, 3)]) (nk rfl) k123 (by kernel_rfl)
  refine apo_ao rfl ?_
  refine ao_eff trivial (e_append (t := ty8) 4 rfl Try.underlying22 (rfl : Try.prog.info? 76 = some _) rfl rfl rfl rfl rfl rfl rfl (src_os rfl) (show r113.length + ([s106] : dy10).length ≤ 1000000000 from by (try simp only [List.length_cons, List.length_nil]) <;> omega) rfl rfl) rfl ?_
  refine ap_ni ?_
  exact ap_gr (rn [(2, 4)]) (nk rfl) k134 (by kernel_rfl)
  refine ap_let (g := 6) (listed := #[true, true, true, true, false, false, false, false, false, false]) [(4, .ref 0 0), (10, .ref 1 0), (120, .v ty1 ((x0.1, (x0.2.1, (x0.2.2.1, (x0.2.2.2.1, (x0.2.2.2.2.1, (x0.2.2.2.2.2.1, ())))))) : dy3)), (123, .os 2)] [(0, .var [.cell (.nilsl), ci 0, .cell (.nilsl), ci 0, ci 0, ci 0]), (1, .var [.arr ty11 6 s106]), (2, .row ty8 r113)] ?_ (fun k121 => ?_)
  refine ap_all [4] (by kernel_rfl) ⟨?_, trivial⟩
  refine apo_ao rfl ?_
  refine ao_r (r_load_arr rfl Try.isAgg76 Try.sizeOf76 rfl rfl rfl) rfl ?_
  refine ap_ni ?_
  exact ap_gr (rn [(1, 2)]) (nk rfl) k122 (by kernel_rfl)
  refine ap_let (g := 6) (listed := #[true, true, true, false, true, false, false, false, false, false]) [(4, .ref 0 0), (120, .v ty1 ((x0.1, (x0.2.1, (x0.2.2.1, (x0.2.2.2.1, (x0.2.2.2.2.1, (x0.2.2.2.2.2.1, ())))))) : dy3)), (122, .v ty5 x0.1), (124, .v ty8 s106)] [(0, .var [.cell (.nilsl), ci 0, .cell (.nilsl), ci 0, ci 0, ci 0])] ?_ (fun k126 => ?_)
  refine ap_all [3, 5] (by kernel_rfl) ⟨?_, ?_, trivial⟩
  refine apo_ao rfl ?_
  refine ao_call [] 1 trivial (c_spec_l2Own (is_mk r113h)) Try.func68 rfl rfl rfl rfl ⟨ad_ren rfl, trivial⟩ trivial rfl rfl rfl rfl rfl rfl rfl (fun r' H' hr => ?_)
  obtain ⟨rfl, rfl⟩ := hr
  refine ao_norm (y := .os 1) (H' := [(0, .var [.cell (.nilsl), ci 0, .cell (.nilsl), ci 0, ci 0, ci 0]), (1, .row ty8 r113)]) rfl rfl ?_
  refine row_len_o 1 (r113.length : Int) rfl rfl (fun hr114 => ?_)
  refine ap_ni ?_
  exact ap_gr idn (nk rfl) k122 (by kernel_rfl)
  refine apo_ao rfl ?_
  refine ao_eff trivial (e_buildSlice (l := [(0, .tmp 124)]) (t := ty8) 1 ([s106] : dy10) rfl Try.underlying22 Try.zeroValue76 Try.sizeOf76 rfl rfl rfl rfl rfl rfl rfl) rfl ?_
  refine ap_ni ?_
  exact ap_gr idn (nk rfl) k127 (by kernel_rfl)
  refine ap_let (g := 6) (listed := #[true, true, false, false, true, true, false, false, false, false]) [(4, .ref 0 0), (120, .v ty1 ((x0.1, (x0.2.1, (x0.2.2.1, (x0.2.2.2.1, (x0.2.2.2.2.1, (x0.2.2.2.2.2.1, ())))))) : dy3)), (121, .ref 1 0), (125, .os 2)] [(0, .var [.cell (.nilsl), ci 0, .cell (.nilsl), ci 0, ci 0, ci 0]), (1, .var [.cell (.v ty5 x0.1), ci x0.2.1, .cell (.v ty7 x0.2.2.1), ci x0.2.2.2.1, ci x0.2.2.2.2.1, ci x0.2.2.2.2.2.1]), (2, .row ty8 ([s106] : dy10))] ?_ (fun k129 => ?_)
  refine ap_all [2] (by kernel_rfl) ⟨?_, trivial⟩
  refine apo_ao rfl ?_
  refine ao_r (r_load_cell Try.isAgg22 rfl rfl rfl) rfl ?_
  refine ap_ni ?_
  exact ap_gr (rn [(1, 2)]) (nk rfl) k127 (by kernel_rfl)
  refine ap_let (g := 6) (listed := #[false, true, true, true, true, false, false, false, false, false]) [(2, .ref 0 0), (4, .ref 1 0), (123, .os 2), (124, .v ty8 s106)] [(0, .var [.cell (.v ty5 x0.1), ci x0.2.1, .cell (.v ty7 x0.2.2.1), ci x0.2.2.2.1, ci x0.2.2.2.2.1, ci x0.2.2.2.2.2.1]), (1, .var [.cell (.nilsl), ci 0, .cell (.nilsl), ci 0, ci 0, ci 0]), (2, .row ty8 r113)] ?_ (fun k132 => ?_)
  refine ap_all [0, 5] (by kernel_rfl) ⟨?_, ?_, trivial⟩
  refine apo_ao rfl ?_
  refine ao_r (r_load_part (τ := ty1) (y := ((x0.1, (x0.2.1, (x0.2.2.1, (x0.2.2.2.1, (x0.2.2.2.2.1, (x0.2.2.2.2.2.1, ())))))) : dy3)) [] [] rfl Try.isAgg29 Try.sizeOf29 rfl rfl rfl rfl) rfl ?_
  refine ap_ni ?_
  exact ap_gr (rn [(0, 1), (1, 2)]) (nk rfl) k122 (by kernel_rfl)
  refine apo_ao rfl ?_
  refine ao_eff trivial (e_buildSlice (l := [(0, .tmp 124)]) (t := ty8) 3 ([s106] : dy10) rfl Try.underlying22 Try.zeroValue76 Try.sizeOf76 rfl rfl rfl rfl rfl rfl rfl) rfl ?_
  refine ap_ni ?_
  exact ap_gr idn (nk rfl) k133 (by kernel_rfl)
  refine ap_let (g := 6) (listed := #[false, true, true, false, true, true, false, false, false, false]) [(2, .ref 0 0), (4, .ref 1 0), (122, .v ty5 x0.1), (125, .os 2)] [(0, .var [.cell (.v ty5 x0.1), ci x0.2.1, .cell (.v ty7 x0.2.2.1), ci x0.2.2.2.1, ci x0.2.2.2.2.1, ci x0.2.2.2.2.2.1]), (1, .var [.cell (.nilsl), ci 0, .cell (.nilsl), ci 0, ci 0, ci 0]), (2, .row ty8 ([s106] : dy10))] ?_ (fun k136 => ?_)
  refine ap_all [0, 3] (by kernel_rfl) ⟨?_, ?_, trivial⟩
  refine apo_ao rfl ?_
  refine ao_r (r_load_part (τ := ty1) (y := ((x0.1, (x0.2.1, (x0.2.2.1, (x0.2.2.2.1, (x0.2.2.2.2.1, (x0.2.2.2.2.2.1, ())))))) : dy3)) [] [] rfl Try.isAgg29 Try.sizeOf29 rfl rfl rfl rfl) rfl ?_
  refine ap_ni ?_
  exact ap_gr (rn [(0, 1), (1, 2)]) (nk rfl) k127 (by kernel_rfl)
  refine apo_ao rfl ?_
  refine ao_call [] 3 trivial (c_spec_l2Own (is_mk r113h)) Try.func68 rfl rfl rfl rfl ⟨ad_ren rfl, trivial⟩ trivial rfl rfl rfl rfl rfl rfl rfl (fun r' H' hr => ?_)
  obtain ⟨rfl, rfl⟩ := hr
  refine ao_norm (y := .os 3) (H' := [(0, .var [.cell (.v ty5 x0.1), ci x0.2.1, .cell (.v ty7 x0.2.2.1), ci x0.2.2.2.1, ci x0.2.2.2.2.1, ci x0.2.2.2.2.2.1]), (1, .var [.cell (.nilsl), ci 0, .cell (.nilsl), ci 0, ci 0, ci 0]), (2, .row ty8 ([s106] : dy10)), (3, .row ty8 r113)]) rfl rfl ?_
  refine row_len_o 3 (r113.length : Int) rfl rfl (fun hr114 => ?_)
  refine ap_ni ?_
  exact ap_gr (rn [(2, 3), (3, 2)]) (nk rfl) k133 (by kernel_rfl)
  refine ap_let (g := 7) (listed := #[true, true, true, false, false, false, false, false, false, false]) [(4, .ref 0 0), (10, .ref 1 0), (120, .v ty1 ((x0.1, (x0.2.1, (x0.2.2.1, (x0.2.2.2.1, (x0.2.2.2.2.1, (x0.2.2.2.2.2.1, ())))))) : dy3)), (122, .v ty5 x0.1)] [(0, .var [.cell (.nilsl), ci 0, .cell (.nilsl), ci 0, ci 0, ci 0]), (1, .var [.arr ty11 6 s106])] ?_ (fun k120 => ?_)
  refine ap_all [3, 4] (by kernel_rfl) ⟨?_, ?_, trivial⟩
  refine apo_ao rfl ?_
  refine ao_call [] 2 trivial (c_spec_l2Own (is_mk r113h)) Try.func68 rfl rfl rfl rfl ⟨ad_ren rfl, trivial⟩ trivial rfl rfl rfl rfl rfl rfl rfl (fun r' H' hr => ?_)
  obtain ⟨rfl, rfl⟩ := hr
  refine ao_norm (y := .os 2) (H' := [(0, .var [.cell (.nilsl), ci 0, .cell (.nilsl), ci 0, ci 0, ci 0]), (1, .var [.arr ty11 6 s106]), (2, .row ty8 r113)]) rfl rfl ?_
  refine row_len_o 2 (r113.length : Int) rfl rfl (fun hr114 => ?_)
  refine ap_ni ?_
  exact ap_gr idn (nk rfl) k121 (by kernel_rfl)
  refine apo_ao rfl ?_
  refine ao_r (r_load_arr rfl Try.isAgg76 Try.sizeOf76 rfl rfl rfl) rfl ?_
  refine ap_ni ?_
  exact ap_gr idn (nk rfl) k126 (by kernel_rfl)
  refine ap_let (g := 7) (listed := #[true, true, false, false, true, false, false, false, false, false]) [(4, .ref 0 0), (120, .v ty1 ((x0.1, (x0.2.1, (x0.2.2.1, (x0.2.2.2.1, (x0.2.2.2.2.1, (x0.2.2.2.2.2.1, ())))))) : dy3)), (121, .ref 1 0), (124, .v ty8 s106)] [(0, .var [.cell (.nilsl), ci 0, .cell (.nilsl), ci 0, ci 0, ci 0]), (1, .var [.cell (.v ty5 x0.1), ci x0.2.1, .cell (.v ty7 x0.2.2.1), ci x0.2.2.2.1, ci x0.2.2.2.2.1, ci x0.2.2.2.2.2.1])] ?_ (fun k128 => ?_)
  refine ap_all [2, 5] (by kernel_rfl) ⟨?_, ?_, trivial⟩
  refine apo_ao rfl ?_
  refine ao_r (r_load_cell Try.isAgg22 rfl rfl rfl) rfl ?_
  refine ap_ni ?_
  exact ap_gr idn (nk rfl) k126 (by kernel_rfl)
  refine apo_ao rfl ?_
  refine ao_eff trivial (e_buildSlice (l := [(0, .tmp 124)]) (t := ty8) 2 ([s106] : dy10) rfl Try.underlying22 Try.zeroValue76 Try.sizeOf76 rfl rfl rfl rfl rfl rfl rfl) rfl ?_
  refine ap_ni ?_
  exact ap_gr idn (nk rfl) k129 (by kernel_rfl)
  refine ap_let (g := 7) (listed := #[false, true, true, true, false, false, false, false, false, false]) [(2, .ref 0 0), (4, .ref 1 0), (10, .ref 2 0), (123, .os 3)] [(0, .var [.cell (.v ty5 x0.1), ci x0.2.1, .cell (.v ty7 x0.2.2.1), ci x0.2.2.2.1, ci x0.2.2.2.2.1, ci x0.2.2.2.2.2.1]), (1, .var [.cell (.nilsl), ci 0, .cell (.nilsl), ci 0, ci 0, ci 0]), (2, .var [.arr ty11 6 s106]), (3, .row ty8 r113)] ?_ (fun k131 => ?_)
  refine ap_all [0, 4] (by kernel_rfl) ⟨?_, ?_, trivial⟩
  refine apo_ao rfl ?_
  refine ao_r (r_load_part (τ := ty1) (y := ((x0.1, (x0.2.1, (x0.2.2.1, (x0.2.2.2.1, (x0.2.2.2.2.1, (x0.2.2.2.2.2.1, ())))))) : dy3)) [] [] rfl Try.isAgg29 Try.sizeOf29 rfl rfl rfl rfl) rfl ?_
  refine ap_ni ?_
  exact ap_gr (rn [(0, 1), (1, 2), (2, 3)]) (nk rfl) k121 (by kernel_rfl)
  refine apo_ao rfl ?_
  refine ao_r (r_load_arr rfl Try.isAgg76 Try.sizeOf76 rfl rfl rfl) rfl ?_
  refine ap_ni ?_
  exact ap_gr (rn [(2, 3)]) (nk rfl) k132 (by kernel_rfl)
  refine ap_let (g := 7) (listed := #[false, true, true, false, true, false, false, false, false, false]) [(2, .ref 0 0), (4, .ref 1 0), (122, .v ty5 x0.1), (124, .v ty8 s106)] [(0, .var [.cell (.v ty5 x0.1), ci x0.2.1, .cell (.v ty7 x0.2.2.1), ci x0.2.2.2.1, ci x0.2.2.2.2.1, ci x0.2.2.2.2.2.1]), (1, .var [.cell (.nilsl), ci 0, .cell (.nilsl), ci 0, ci 0, ci 0])] ?_ (fun k135 => ?_)
  refine ap_all [0, 3, 5] (by kernel_rfl) ⟨?_, ?_, ?_, trivial⟩
  refine apo_ao rfl ?_
  refine ao_r (r_load_part (τ := ty1) (y := ((x0.1, (x0.2.1, (x0.2.2.1, (x0.2.2.2.1, (x0.2.2.2.2.1, (x0.2.2.2.2.2.1, ())))))) : dy3)) [] [] rfl Try.isAgg29 Try.sizeOf29 rfl rfl rfl rfl) rfl ?_
  refine ap_ni ?_
  exact ap_gr (rn [(0, 1)]) (nk rfl) k126 (by kernel_rfl)
  refine apo_ao rfl ?_
  refine ao_call [] 2 trivial (c_spec_l2Own (is_mk r113h)) Try.func68 rfl rfl rfl rfl ⟨ad_ren rfl, trivial⟩ trivial rfl rfl rfl rfl rfl rfl rfl (fun r' H' hr => ?_)
  obtain ⟨rfl, rfl⟩ := hr
  refine ao_norm (y := .os 2) (H' := [(0, .var [.cell (.v ty5 x0.1), ci x0.2.1, .cell (.v ty7 x0.2.2.1), ci x0.2.2.2.1, ci x0.2.2.2.2.1, ci x0.2.2.2.2.2.1]), (1, .var [.cell (.nilsl), ci 0, .cell (.nilsl), ci 0, ci 0, ci 0]), (2, .row ty8 r113)]) rfl rfl ?_
  refine row_len_o 2 (r113.length : Int) rfl rfl (fun hr114 => ?_)
  refine ap_ni ?_
  exact ap_gr idn (nk rfl) k132 (by kernel_rfl)
  refine apo_ao rfl ?_
  refine ao_eff trivial (e_buildSlice (l := [(0, .tmp 124)]) (t := ty8) 2 ([s106] : dy10) rfl Try.underlying22 Try.zeroValue76 Try.sizeOf76 rfl rfl rfl rfl rfl rfl rfl) rfl ?_
  refine ap_ni ?_
  exact ap_gr idn (nk rfl) k136 (by kernel_rfl)
  refine ap_let (g := 7) (listed := #[false, true, false, false, true, true, false, false, false, false]) [(2, .ref 0 0), (4, .ref 1 0), (121, .ref 0 0), (125, .os 2)] [(0, .var [.cell (.v ty5 x0.1), ci x0.2.1, .cell (.v ty7 x0.2.2.1), ci x0.2.2.2.1, ci x0.2.2.2.2.1, ci x0.2.2.2.2.2.1]), (1, .var [.cell (.nilsl), ci 0, .cell (.nilsl), ci 0, ci 0, ci 0]), (2, .row ty8 ([s106] : dy10))] ?_ (fun k138 => ?_)
  refine ap_all [0, 2] (by kernel_rfl) ⟨?_, ?_, trivial⟩
  refine apo_ao rfl ?_
  refine ao_r (r_load_part (τ := ty1) (y := ((x0.1, (x0.2.1, (x0.2.2.1, (x0.2.2.2.1, (x0.2.2.2.2.1, (x0.2.2.2.2.2.1, ())))))) : dy3)) [] [] rfl Try.isAgg29 Try.sizeOf29 rfl rfl rfl rfl) rfl ?_
  refine ap_ni ?_
  exact ap_gr (rn [(0, 1), (1, 0)]) (nk rfl) k129 (by kernel_rfl)
  refine apo_ao rfl ?_
  refine ao_r (r_load_cell Try.isAgg22 rfl rfl rfl) rfl ?_
  refine ap_ni ?_
  exact ap_gr idn (nk rfl) k136 (by kernel_rfl)
  refine ap_let (g := 8) (listed := #[true, true, false, false, false, false, false, false, false, false]) [(4, .ref 0 0), (10, .ref 1 0), (120, .v ty1 ((x0.1, (x0.2.1, (x0.2.2.1, (x0.2.2.2.1, (x0.2.2.2.2.1, (x0.2.2.2.2.2.1, ())))))) : dy3)), (121, .ref 2 0)] [(0, .var [.cell (.nilsl), ci 0, .cell (.nilsl), ci 0, ci 0, ci 0]), (1, .var [.arr ty11 6 s106]), (2, .var [.cell (.v ty5 x0.1), ci x0.2.1, .cell (.v ty7 x0.2.2.1), ci x0.2.2.2.1, ci x0.2.2.2.2.1, ci x0.2.2.2.2.2.1])] ?_ (fun k119 => ?_)
  refine ap_all [2, 4] (by kernel_rfl) ⟨?_, ?_, trivial⟩
  refine apo_ao rfl ?_
  refine ao_r (r_load_cell Try.isAgg22 rfl rfl rfl) rfl ?_
  refine ap_ni ?_
  exact ap_gr idn (nk rfl) k120 (by kernel_rfl)
  refine apo_ao rfl ?_
  refine ao_r (r_load_arr rfl Try.isAgg76 Try.sizeOf76 rfl rfl rfl) rfl ?_
  refine ap_ni ?_
  exact ap_gr (rn [(1, 2)]) (nk rfl) k128 (by kernel_rfl)
  refine ap_let (g := 8) (listed := #[false, true, true, false, false, false, false, false, false, false]) [(2, .ref 0 0), (4, .ref 1 0), (10, .ref 2 0), (122, .v ty5 x0.1)] [(0, .var [.cell (.v ty5 x0.1), ci x0.2.1, .cell (.v ty7 x0.2.2.1), ci x0.2.2.2.1, ci x0.2.2.2.2.1, ci x0.2.2.2.2.2.1]), (1, .var [.cell (.nilsl), ci 0, .cell (.nilsl), ci 0, ci 0, ci 0]), (2, .var [.arr ty11 6 s106])] ?_ (fun k130 => ?_)
  refine ap_all [0, 3, 4] (by kernel_rfl) ⟨?_, ?_, ?_, trivial⟩
  refine apo_ao rfl ?_
  refine ao_r (r_load_part (τ := ty1) (y := ((x0.1, (x0.2.1, (x0.2.2.1, (x0.2.2.2.1, (x0.2.2.2.2.1, (x0.2.2.2.2.2.1, ())))))) : dy3)) [] [] rfl Try.isAgg29 Try.sizeOf29 rfl rfl rfl rfl) rfl ?_
  refine ap_ni ?_
  exact ap_gr (rn [(0, 1), (1, 2)]) (nk rfl) k120 (by kernel_rfl)
  refine apo_ao rfl ?_
  refine ao_call [] 3 trivial (c_spec_l2Own (is_mk r113h)) Try.func68 rfl rfl rfl rfl ⟨ad_ren rfl, trivial⟩ trivial rfl rfl rfl rfl rfl rfl rfl (fun r' H' hr => ?_)
  obtain ⟨rfl, rfl⟩ := hr
  refine ao_norm (y := .os 3) (H' := [(0, .var [.cell (.v ty5 x0.1), ci x0.2.1, .cell (.v ty7 x0.2.2.1), ci x0.2.2.2.1, ci x0.2.2.2.2.1, ci x0.2.2.2.2.2.1]), (1, .var [.cell (.nilsl), ci 0, .cell (.nilsl), ci 0, ci 0, ci 0]), (2, .var [.arr ty11 6 s106]), (3, .row ty8 r113)]) rfl rfl ?_
  refine row_len_o 3 (r113.length : Int) rfl rfl (fun hr114 => ?_)
  refine ap_ni ?_
  exact ap_gr idn (nk rfl) k131 (by kernel_rfl)
  refine apo_ao rfl ?_
  refine ao_r (r_load_arr rfl Try.isAgg76 Try.sizeOf76 rfl rfl rfl) rfl ?_
  refine ap_ni ?_
  exact ap_gr idn (nk rfl) k135 (by kernel_rfl)
  refine ap_let (g := 8) (listed := #[false, true, false, false, true, false, false, false, false, false]) [(2, .ref 0 0), (4, .ref 1 0), (121, .ref 0 0), (124, .v ty8 s106)] [(0, .var [.cell (.v ty5 x0.1), ci x0.2.1, .cell (.v ty7 x0.2.2.1), ci x0.2.2.2.1, ci x0.2.2.2.2.1, ci x0.2.2.2.2.2.1]), (1, .var [.cell (.nilsl), ci 0, .cell (.nilsl), ci 0, ci 0, ci 0])] ?_ (fun k137 => ?_)
  refine ap_all [0, 2, 5] (by kernel_rfl) ⟨?_, ?_, ?_, trivial⟩
  refine apo_ao rfl ?_
  refine ao_r (r_load_part (τ := ty1) (y := ((x0.1, (x0.2.1, (x0.2.2.1, (x0.2.2.2.1, (x0.2.2.2.2.1, (x0.2.2.2.2.2.1, ())))))) : dy3)) [] [] rfl Try.isAgg29 Try.sizeOf29 rfl rfl rfl rfl) rfl ?_
  refine ap_ni ?_
  exact ap_gr (rn [(0, 1), (1, 0)]) (nk rfl) k128 (by kernel_rfl)
  refine apo_ao rfl ?_
  refine ao_r (r_load_cell Try.isAgg22 rfl rfl rfl) rfl ?_
  refine ap_ni ?_
  exact ap_gr idn (nk rfl) k135 (by kernel_rfl)
  refine apo_ao rfl ?_
  refine ao_eff trivial (e_buildSlice (l := [(0, .tmp 124)]) (t := ty8) 2 ([s106] : dy10) rfl Try.underlying22 Try.zeroValue76 Try.sizeOf76 rfl rfl rfl rfl rfl rfl rfl) rfl ?_
  refine ap_ni ?_
  exact ap_gr idn (nk rfl) k138 (by kernel_rfl)
  refine ap_let (g := 9) (listed := #[false, true, false, false, false, false, false, false, false, false]) [(2, .ref 0 0), (4, .ref 1 0), (10, .ref 2 0), (121, .ref 0 0)] [(0, .var [.cell (.v ty5 x0.1), ci x0.2.1, .cell (.v ty7 x0.2.2.1), ci x0.2.2.2.1, ci x0.2.2.2.2.1, ci x0.2.2.2.2.2.1]), (1, .var [.cell (.nilsl), ci 0, .cell (.nilsl), ci 0, ci 0, ci 0]), (2, .var [.arr ty11 6 s106])] ?_ (fun k118 => ?_)
  refine ap_all [0, 2, 4] (by kernel_rfl) ⟨?_, ?_, ?_, trivial⟩
  refine apo_ao rfl ?_
  refine ao_r (r_load_part (τ := ty1) (y := ((x0.1, (x0.2.1, (x0.2.2.1, (x0.2.2.2.1, (x0.2.2.2.2.1, (x0.2.2.2.2.2.1, ())))))) : dy3)) [] [] rfl Try.isAgg29 Try.sizeOf29 rfl rfl rfl rfl) rfl ?_
  refine ap_ni ?_
  exact ap_gr (rn [(0, 1), (1, 2), (2, 0)]) (nk rfl) k119 (by kernel_rfl)
  refine apo_ao rfl ?_
  refine ao_r (r_load_cell Try.isAgg22 rfl rfl rfl) rfl ?_
  refine ap_ni ?_
  exact ap_gr idn (nk rfl) k130 (by kernel_rfl)
  refine apo_ao rfl ?_
  refine ao_r (r_load_arr rfl Try.isAgg76 Try.sizeOf76 rfl rfl rfl) rfl ?_
  refine ap_ni ?_
  exact ap_gr idn (nk rfl) k137 (by kernel_rfl)
  refine ap_p 1 (fun _ _ _ h => h) rfl (by kernel_rfl) (rp_fieldAddr Try.underlying29 rfl Try.sizeOf22 rfl rfl rfl) rfl ?_
  exact ap_gr (rn [(1, 2), (2, 3)]) (nk rfl) k118 (by kernel_rfl)
  have q98 := d_f hb96
  replace h := is_else (d_f hb96) h
  refine aw_seq ?_
  refine aw_region ?_
  refine ao_r (r_eql rfl rfl) rfl ?_
  refine ao_r (r_assign rfl) rfl ?_
  refine ao_nil ?_
  refine aq_then ?_
  refine aw_cond rfl (fun hb141 => ?_) (fun hb141 => ?_)
  have q142 := d_t hb141
  replace h := is_if (d_t hb141) h
  refine aw_seq ?_
  refine aw_seq ?_
  refine aw_region ?_
  refine ao_r (r_load_part (τ := ty1) (y := ((x0.1, (x0.2.1, (x0.2.2.1, (x0.2.2.2.1, (x0.2.2.2.2.1, (x0.2.2.2.2.2.1, ())))))) : dy3)) [] [] rfl Try.isAgg29 Try.sizeOf29 rfl rfl rfl rfl) rfl ?_
  refine ao_r (r_fieldAddr Try.underlying33 rfl Try.sizeOf3 rfl rfl rfl) rfl ?_
  refine ao_r (r_load_cell Try.isAgg3 rfl rfl rfl) rfl ?_
  refine ao_scall trivial (scall (c_spec_l12Place (is_mk (rfl : p_spec_l12Place (x0.1, (x0.2.1, (x0.2.2.1, (x0.2.2.2.1, (x0.2.2.2.2.1, (x0.2.2.2.2.2.1, ())))))) x1.2.1 = _))) rfl Try.func84 rfl rfl rfl rfl (fun σ => ⟨ad_ren rfl, ad_ren rfl, trivial⟩)) rfl ?_
  refine ao_r (r_not rfl) rfl ?_
  refine ao_r (r_move rfl) rfl ?_
  refine ao_readG (x := .ref 1 2) rfl (GV.F rfl) (fun hg144 => r_fieldAddr Try.underlying33 rfl Try.sizeOf3 rfl rfl rfl) rfl ?_
  refine ao_readG (x := .int .i64 x1.2.2.1) rfl (GV.F rfl) (fun hg145 => Reads.strip 136 rfl (hg145) (r_load_cell Try.isAgg3 rfl rfl rfl)) rfl ?_
  refine ao_readG (x := .bool (!(decide (x1.2.2.1 = 0)))) rfl (GV.F rfl) (fun hg146 => Reads.strip 137 rfl (hg146) (r_neq rfl rfl)) rfl ?_
  refine ao_r (r_orB rfl rfl) rfl ?_
  refine ao_nil ?_
  refine aq_then ?_
  refine aw_cond rfl (fun hb147 => ?_) (fun hb147 => ?_)
  replace h := is_if hb147 h
  refine aw_seq ?_
  refine aw_region ?_
  refine ao_r (r_load_part (τ := ty1) (y := ((x0.1, (x0.2.1, (x0.2.2.1, (x0.2.2.2.1, (x0.2.2.2.2.1, (x0.2.2.2.2.2.1, ())))))) : dy3)) [] [] rfl Try.isAgg29 Try.sizeOf29 rfl rfl rfl rfl) rfl ?_
  refine ao_effS trivial (e_store rfl rfl rfl rfl Try.sizeOf29 rfl) ?_
  refine ao_r (r_assign rfl) rfl ?_
  refine ao_nil ?_
  refine aq_then ?_
  refine aw_ret ?_
  refine aq_then_ret ?_
  refine aq_in_ret ?_
  refine aq_then_ret ?_
  refine aq_ret ?_
  obtain rfl := is_some h
  exact aq_finV (l := [.cell 4 29, .tmp 5]) (xs := [.st [.v ty5 x0.1, .int .i64 x0.2.1, .v ty7 x0.2.2.1, .int .i64 x0.2.2.2.1, .int .i64 x0.2.2.2.2.1, .int .i64 x0.2.2.2.2.2.1], .bool false]) idn [.v ty1 ((x0.1, (x0.2.1, (x0.2.2.1, (x0.2.2.2.1, (x0.2.2.2.2.1, (x0.2.2.2.2.2.1, ())))))) : dy3), .bool false] [] rfl (by exact ⟨⟨⟨_, _, rfl⟩, r_load_st [] [.cell (.v ty5 x0.1), ci x0.2.1, .cell (.v ty7 x0.2.2.1), ci x0.2.2.2.1, ci x0.2.2.2.2.1, ci x0.2.2.2.2.2.1] [] Try.isAgg29 Try.sizeOf29 rfl rfl rfl rfl rfl rfl rfl⟩, rfl, trivial⟩) (by exact ⟨ad_st rfl rfl ⟨ad_ren rfl, ad_ren rfl, ad_ren rfl, ad_ren rfl, ad_ren rfl, ad_ren rfl, trivial⟩, ad_ren rfl, trivial⟩) (by exact trivial) rfl (nk rfl) ⟨rfl, rfl⟩
  obtain ⟨q148, q149⟩ := or_f hb147
  have q150 := d_t (not_f q149)
  replace h := is_else (ne_t hb147) h
  refine aw_skip ?_
  refine aq_then ?_
  refine aw_seq ?_
  obtain ⟨g151, h⟩ := is_guard h
  obtain ⟨g152, h⟩ := is_guard h
  obtain ⟨r153, r153h, h⟩ := is_bind h
  obtain ⟨g155, h⟩ := is_guard h
  obtain ⟨g156, h⟩ := is_guard h
  obtain ⟨g157, h⟩ := is_guard h
  refine aw_drawP 17 rfl (by kernel_rfl) ?_
  refine ap_to [(4, .ref 0 0), (5, .bool true)] [(0, .var [.cell (.os 1), .cell (.int .i64 (((p_spec_l12Dicev1 (x0.1, (x0.2.1, (x0.2.2.1, (x0.2.2.2.1, (x0.2.2.2.2.1, (x0.2.2.2.2.2.1, ())))))) (r153 ++ (x0.1.drop (IntKind.wrap .i64 (x1.2.1 + 1)).toNat))).2).1)), .cell (.os 2), .cell (.int .i64 (((((p_spec_l12Dicev1 (x0.1, (x0.2.1, (x0.2.2.1, (x0.2.2.2.1, (x0.2.2.2.2.1, (x0.2.2.2.2.2.1, ())))))) (r153 ++ (x0.1.drop (IntKind.wrap .i64 (x1.2.1 + 1)).toNat))).2).2).2).1)), .cell (.int .i64 ((((((p_spec_l12Dicev1 (x0.1, (x0.2.1, (x0.2.2.1, (x0.2.2.2.1, (x0.2.2.2.2.1, (x0.2.2.2.2.2.1, ())))))) (r153 ++ (x0.1.drop (IntKind.wrap .i64 (x1.2.1 + 1)).toNat))).2).2).2).2).1)), .cell (.int .i64 (((((((p_spec_l12Dicev1 (x0.1, (x0.2.1, (x0.2.2.1, (x0.2.2.2.1, (x0.2.2.2.2.1, (x0.2.2.2.2.2.1, ())))))) (r153 ++ (x0.1.drop (IntKind.wrap .i64 (x1.2.1 + 1)).toNat))).2).2).2).2).2).1))]), (1, .row ty8 ((p_spec_l12Dicev1 (x0.1, (x0.2.1, (x0.2.2.1, (x0.2.2.2.1, (x0.2.2.2.2.1, (x0.2.2.2.2.2.1, ())))))) (r153 ++ (x0.1.drop (IntKind.wrap .i64 (x1.2.1 + 1)).toNat))).1 : dy10)), (2, .row ty11 ((((p_spec_l12Dicev1 (x0.1, (x0.2.1, (x0.2.2.1, (x0.2.2.2.1, (x0.2.2.2.2.1, (x0.2.2.2.2.2.1, ())))))) (r153 ++ (x0.1.drop (IntKind.wrap .i64 (x1.2.1 + 1)).toNat))).2).2).1 : dy12))] ?_ (fun key => ?_)
  refine row_len_q 1 (((p_spec_l12Dicev1 (x0.1, (x0.2.1, (x0.2.2.1, (x0.2.2.2.1, (x0.2.2.2.2.1, (x0.2.2.2.2.2.1, ())))))) (r153 ++ (x0.1.drop (IntKind.wrap .i64 (x1.2.1 + 1)).toNat))).1).length : Int) rfl rfl (fun hr223 => ?_)
  refine row_len_q 2 (((((p_spec_l12Dicev1 (x0.1, (x0.2.1, (x0.2.2.1, (x0.2.2.2.1, (x0.2.2.2.2.1, (x0.2.2.2.2.2.1, ())))))) (r153 ++ (x0.1.drop (IntKind.wrap .i64 (x1.2.1 + 1)).toNat))).2).2).1).length : Int) rfl rfl (fun hr224 => ?_)
  refine aq_then ?_
  refine aw_ret ?_
  refine aq_in_ret ?_
  refine aq_then_ret ?_
  refine aq_ret ?_
  obtain rfl := is_some h
  exact aq_finV (l := [.cell 4 29, .tmp 5]) (xs := [.st [.os 1, .int .i64 (((p_spec_l12Dicev1 (x0.1, (x0.2.1, (x0.2.2.1, (x0.2.2.2.1, (x0.2.2.2.2.1, (x0.2.2.2.2.2.1, ())))))) (r153 ++ (x0.1.drop (IntKind.wrap .i64 (x1.2.1 + 1)).toNat))).2).1), .os 2, .int .i64 (((((p_spec_l12Dicev1 (x0.1, (x0.2.1, (x0.2.2.1, (x0.2.2.2.1, (x0.2.2.2.2.1, (x0.2.2.2.2.2.1, ())))))) (r153 ++ (x0.1.drop (IntKind.wrap .i64 (x1.2.1 + 1)).toNat))).2).2).2).1), .int .i64 ((((((p_spec_l12Dicev1 (x0.1, (x0.2.1, (x0.2.2.1, (x0.2.2.2.1, (x0.2.2.2.2.1, (x0.2.2.2.2.2.1, ())))))) (r153 ++ (x0.1.drop (IntKind.wrap .i64 (x1.2.1 + 1)).toNat))).2).2).2).2).1), .int .i64 (((((((p_spec_l12Dicev1 (x0.1, (x0.2.1, (x0.2.2.1, (x0.2.2.2.1, (x0.2.2.2.2.1, (x0.2.2.2.2.2.1, ())))))) (r153 ++ (x0.1.drop (IntKind.wrap .i64 (x1.2.1 + 1)).toNat))).2).2).2).2).2).1)], .bool true]) idn [.v ty1 (((p_spec_l12Dicev1 (x0.1, (x0.2.1, (x0.2.2.1, (x0.2.2.2.1, (x0.2.2.2.2.1, (x0.2.2.2.2.2.1, ())))))) (r153 ++ (x0.1.drop (IntKind.wrap .i64 (x1.2.1 + 1)).toNat))).1, (((p_spec_l12Dicev1 (x0.1, (x0.2.1, (x0.2.2.1, (x0.2.2.2.1, (x0.2.2.2.2.1, (x0.2.2.2.2.2.1, ())))))) (r153 ++ (x0.1.drop (IntKind.wrap .i64 (x1.2.1 + 1)).toNat))).2).1, ((((p_spec_l12Dicev1 (x0.1, (x0.2.1, (x0.2.2.1, (x0.2.2.2.1, (x0.2.2.2.2.1, (x0.2.2.2.2.2.1, ())))))) (r153 ++ (x0.1.drop (IntKind.wrap .i64 (x1.2.1 + 1)).toNat))).2).2).1, (((((p_spec_l12Dicev1 (x0.1, (x0.2.1, (x0.2.2.1, (x0.2.2.2.1, (x0.2.2.2.2.1, (x0.2.2.2.2.2.1, ())))))) (r153 ++ (x0.1.drop (IntKind.wrap .i64 (x1.2.1 + 1)).toNat))).2).2).2).1, ((((((p_spec_l12Dicev1 (x0.1, (x0.2.1, (x0.2.2.1, (x0.2.2.2.1, (x0.2.2.2.2.1, (x0.2.2.2.2.2.1, ())))))) (r153 ++ (x0.1.drop (IntKind.wrap .i64 (x1.2.1 + 1)).toNat))).2).2).2).2).1, (((((((p_spec_l12Dicev1 (x0.1, (x0.2.1, (x0.2.2.1, (x0.2.2.2.1, (x0.2.2.2.2.1, (x0.2.2.2.2.2.1, ())))))) (r153 ++ (x0.1.drop (IntKind.wrap .i64 (x1.2.1 + 1)).toNat))).2).2).2).2).2).1, ())))))) : dy3), .bool true] [] rfl (by exact ⟨⟨⟨_, _, rfl⟩, r_load_st [] [.cell (.os 1), .cell (.int .i64 (((p_spec_l12Dicev1 (x0.1, (x0.2.1, (x0.2.2.1, (x0.2.2.2.1, (x0.2.2.2.2.1, (x0.2.2.2.2.2.1, ())))))) (r153 ++ (x0.1.drop (IntKind.wrap .i64 (x1.2.1 + 1)).toNat))).2).1)), .cell (.os 2), .cell (.int .i64 (((((p_spec_l12Dicev1 (x0.1, (x0.2.1, (x0.2.2.1, (x0.2.2.2.1, (x0.2.2.2.2.1, (x0.2.2.2.2.2.1, ())))))) (r153 ++ (x0.1.drop (IntKind.wrap .i64 (x1.2.1 + 1)).toNat))).2).2).2).1)), .cell (.int .i64 ((((((p_spec_l12Dicev1 (x0.1, (x0.2.1, (x0.2.2.1, (x0.2.2.2.1, (x0.2.2.2.2.1, (x0.2.2.2.2.2.1, ())))))) (r153 ++ (x0.1.drop (IntKind.wrap .i64 (x1.2.1 + 1)).toNat))).2).2).2).2).1)), .cell (.int .i64 (((((((p_spec_l12Dicev1 (x0.1, (x0.2.1, (x0.2.2.1, (x0.2.2.2.1, (x0.2.2.2.2.1, (x0.2.2.2.2.2.1, ())))))) (r153 ++ (x0.1.drop (IntKind.wrap .i64 (x1.2.1 + 1)).toNat))).2).2).2).2).2).1))] [] Try.isAgg29 Try.sizeOf29 rfl rfl rfl rfl rfl rfl rfl⟩, rfl, trivial⟩) (by exact ⟨ad_st rfl rfl ⟨ad_osB rfl rfl, ad_ren rfl, ad_osB rfl rfl, ad_ren rfl, ad_ren rfl, ad_ren rfl, trivial⟩, ad_ren rfl, trivial⟩) (by exact trivial) rfl (nk rfl) ⟨rfl, rfl⟩
  refine ap_let (g := 2) (listed := #[true, true, true, true, true, true, true, true, true, true, true, true, true, true, true, false, false]) [(4, .ref 0 0), (5, .bool false), (155, .st [.os 1, .int .i64 (((p_spec_l12Dicev1 (x0.1, (x0.2.1, (x0.2.2.1, (x0.2.2.2.1, (x0.2.2.2.2.1, (x0.2.2.2.2.2.1, ())))))) (r153 ++ (x0.1.drop (IntKind.wrap .i64 (x1.2.1 + 1)).toNat))).2).1), .os 2, .int .i64 (((((p_spec_l12Dicev1 (x0.1, (x0.2.1, (x0.2.2.1, (x0.2.2.2.1, (x0.2.2.2.2.1, (x0.2.2.2.2.2.1, ())))))) (r153 ++ (x0.1.drop (IntKind.wrap .i64 (x1.2.1 + 1)).toNat))).2).2).2).1), .int .i64 ((((((p_spec_l12Dicev1 (x0.1, (x0.2.1, (x0.2.2.1, (x0.2.2.2.1, (x0.2.2.2.2.1, (x0.2.2.2.2.2.1, ())))))) (r153 ++ (x0.1.drop (IntKind.wrap .i64 (x1.2.1 + 1)).toNat))).2).2).2).2).1), .int .i64 (((((((p_spec_l12Dicev1 (x0.1, (x0.2.1, (x0.2.2.1, (x0.2.2.2.1, (x0.2.2.2.2.1, (x0.2.2.2.2.2.1, ())))))) (r153 ++ (x0.1.drop (IntKind.wrap .i64 (x1.2.1 + 1)).toNat))).2).2).2).2).2).1)])] [(0, .var [.cell (.nilsl), ci 0, .cell (.nilsl), ci 0, ci 0, ci 0]), (1, .row ty8 ((p_spec_l12Dicev1 (x0.1, (x0.2.1, (x0.2.2.1, (x0.2.2.2.1, (x0.2.2.2.2.1, (x0.2.2.2.2.2.1, ())))))) (r153 ++ (x0.1.drop (IntKind.wrap .i64 (x1.2.1 + 1)).toNat))).1 : dy10)), (2, .row ty11 ((((p_spec_l12Dicev1 (x0.1, (x0.2.1, (x0.2.2.1, (x0.2.2.2.1, (x0.2.2.2.2.1, (x0.2.2.2.2.2.1, ())))))) (r153 ++ (x0.1.drop (IntKind.wrap .i64 (x1.2.1 + 1)).toNat))).2).2).1 : dy12))] ?_ (fun k170 => ?_)
  refine ap_all [15] (by kernel_rfl) ⟨?_, trivial⟩
  refine apo_ao rfl ?_
  refine ao_effS trivial (e_store rfl rfl rfl rfl Try.sizeOf29 rfl) ?_
  refine ap_ni ?_
  refine ap_p 16 (fun _ _ _ h => h) rfl (by kernel_rfl) (rp_assign rfl) rfl ?_
  exact ap_end (by kernel_rfl) (AQ.sub (sub_r1 idn (nk rfl) (by kernel_rfl)) key)
  refine ap_let (g := 3) (listed := #[true, true, true, true, true, true, true, true, true, true, true, true, true, true, false, false, false]) [(4, .ref 0 0), (5, .bool false), (141, .v ty1 ((x0.1, (x0.2.1, (x0.2.2.1, (x0.2.2.2.1, (x0.2.2.2.2.1, (x0.2.2.2.2.2.1, ())))))) : dy3)), (154, .os 1)] [(0, .var [.cell (.nilsl), ci 0, .cell (.nilsl), ci 0, ci 0, ci 0]), (1, .row ty8 ((r153 ++ (x0.1.drop (IntKind.wrap .i64 (x1.2.1 + 1)).toNat)) : dy10))] ?_ (fun k169 => ?_)
  refine ap_all [14] (by kernel_rfl) ⟨?_, trivial⟩
  refine apo_ao rfl ?_
  refine ao_call [1] 2 trivial (c_spec_l12Dicev1 (is_mk (rfl : p_spec_l12Dicev1 (x0.1, (x0.2.1, (x0.2.2.1, (x0.2.2.2.1, (x0.2.2.2.2.1, (x0.2.2.2.2.2.1, ())))))) (r153 ++ (x0.1.drop (IntKind.wrap .i64 (x1.2.1 + 1)).toNat)) = _))) Try.func83 rfl rfl rfl rfl ⟨ad_ren rfl, ad_ren rfl, trivial⟩ ⟨⟨_, rfl, rfl⟩, trivial⟩ rfl rfl rfl rfl rfl rfl rfl (fun r' H' hr => ?_)
  obtain ⟨rfl, rfl⟩ := hr
  refine ao_norm (y := .st [.os 2, .int .i64 (((p_spec_l12Dicev1 (x0.1, (x0.2.1, (x0.2.2.1, (x0.2.2.2.1, (x0.2.2.2.2.1, (x0.2.2.2.2.2.1, ())))))) (r153 ++ (x0.1.drop (IntKind.wrap .i64 (x1.2.1 + 1)).toNat))).2).1), .os 3, .int .i64 (((((p_spec_l12Dicev1 (x0.1, (x0.2.1, (x0.2.2.1, (x0.2.2.2.1, (x0.2.2.2.2.1, (x0.2.2.2.2.2.1, ())))))) (r153 ++ (x0.1.drop (IntKind.wrap .i64 (x1.2.1 + 1)).toNat))).2).2).2).1), .int .i64 ((((((p_spec_l12Dicev1 (x0.1, (x0.2.1, (x0.2.2.1, (x0.2.2.2.1, (x0.2.2.2.2.1, (x0.2.2.2.2.2.1, ())))))) (r153 ++ (x0.1.drop (IntKind.wrap .i64 (x1.2.1 + 1)).toNat))).2).2).2).2).1), .int .i64 (((((((p_spec_l12Dicev1 (x0.1, (x0.2.1, (x0.2.2.1, (x0.2.2.2.1, (x0.2.2.2.2.1, (x0.2.2.2.2.2.1, ())))))) (r153 ++ (x0.1.drop (IntKind.wrap .i64 (x1.2.1 + 1)).toNat))).2).2).2).2).2).1)]) (H' := [(0, .var [.cell (.nilsl), ci 0, .cell (.nilsl), ci 0, ci 0, ci 0]), (2, .row ty8 ((p_spec_l12Dicev1 (x0.1, (x0.2.1, (x0.2.2.1, (x0.2.2.2.1, (x0.2.2.2.2.1, (x0.2.2.2.2.2.1, ())))))) (r153 ++ (x0.1.drop (IntKind.wrap .i64 (x1.2.1 + 1)).toNat))).1 : dy10)), (3, .row ty11 ((((p_spec_l12Dicev1 (x0.1, (x0.2.1, (x0.2.2.1, (x0.2.2.2.1, (x0.2.2.2.2.1, (x0.2.2.2.2.2.1, ())))))) (r153 ++ (x0.1.drop (IntKind.wrap .i64 (x1.2.1 + 1)).toNat))).2).2).1 : dy12))]) rfl rfl ?_
  refine row_len_o 2 (((p_spec_l12Dicev1 (x0.1, (x0.2.1, (x0.2.2.1, (x0.2.2.2.1, (x0.2.2.2.2.1, (x0.2.2.2.2.2.1, ())))))) (r153 ++ (x0.1.drop (IntKind.wrap .i64 (x1.2.1 + 1)).toNat))).1).length : Int) rfl rfl (fun hr158 => ?_)
  refine row_len_o 3 (((((p_spec_l12Dicev1 (x0.1, (x0.2.1, (x0.2.2.1, (x0.2.2.2.1, (x0.2.2.2.2.1, (x0.2.2.2.2.2.1, ())))))) (r153 ++ (x0.1.drop (IntKind.wrap .i64 (x1.2.1 + 1)).toNat))).2).2).1).length : Int) rfl rfl (fun hr159 => ?_)
  refine ap_ni ?_
  exact ap_gr (rn [(1, 2), (2, 3)]) (nk rfl) k170 (by kernel_rfl)
  refine ap_let (g := 4) (listed := #[true, true, true, true, true, true, true, true, true, true, true, true, true, false, false, false, false]) [(4, .ref 0 0), (5, .bool false), (141, .v ty1 ((x0.1, (x0.2.1, (x0.2.2.1, (x0.2.2.2.1, (x0.2.2.2.2.1, (x0.2.2.2.2.2.1, ())))))) : dy3)), (147, .os 1), (153, .v ty5 ((x0.1.drop (IntKind.wrap .i64 (x1.2.1 + 1)).toNat) : dy10))] [(0, .var [.cell (.nilsl), ci 0, .cell (.nilsl), ci 0, ci 0, ci 0]), (1, .row ty8 r153)] ?_ (fun k168 => ?_)
  refine ap_all [13] (by kernel_rfl) ⟨?_, trivial⟩
  refine apo_ao rfl ?_
  refine ao_eff trivial (e_append (t := ty8) 2 rfl Try.underlying22 (rfl : Try.prog.info? 76 = some _) rfl rfl rfl rfl rfl rfl rfl src_v (show r153.length + (x0.1.drop (IntKind.wrap .i64 (x1.2.1 + 1)).toNat).length ≤ 1000000000 from by (try simp only [List.length_drop]) <;> omega) rfl rfl) rfl ?_
  refine ap_ni ?_
  exact ap_gr (rn [(1, 2)]) (nk rfl) k169 (by kernel_rfl)
  refine ap_let (g := 4) (listed := #[false, true, true, true, true, true, true, true, true, true, true, true, true, true, false, false, false]) [(2, .ref 0 0), (4, .ref 1 0), (5, .bool false), (154, .os 2)] [(0, .var [.cell (.v ty5 x0.1), ci x0.2.1, .cell (.v ty7 x0.2.2.1), ci x0.2.2.2.1, ci x0.2.2.2.2.1, ci x0.2.2.2.2.2.1]), (1, .var [.cell (.nilsl), ci 0, .cell (.nilsl), ci 0, ci 0, ci 0]), (2, .row ty8 ((r153 ++ (x0.1.drop (IntKind.wrap .i64 (x1.2.1 + 1)).toNat)) : dy10))] ?_ (fun k200 => ?_)
  refine ap_all [0] (by kernel_rfl) ⟨?_, trivial⟩
  refine apo_ao rfl ?_
  refine ao_r (r_load_part (τ := ty1) (y := ((x0.1, (x0.2.1, (x0.2.2.1, (x0.2.2.2.1, (x0.2.2.2.2.1, (x0.2.2.2.2.2.1, ())))))) : dy3)) [] [] rfl Try.isAgg29 Try.sizeOf29 rfl rfl rfl rfl) rfl ?_
  refine ap_ni ?_
  exact ap_gr (rn [(0, 1), (1, 2)]) (nk rfl) k169 (by kernel_rfl)
  refine ap_let (g := 5) (listed := #[true, true, true, true, true, true, true, true, true, true, true, true, false, false, false, false, false]) [(4, .ref 0 0), (5, .bool false), (141, .v ty1 ((x0.1, (x0.2.1, (x0.2.2.1, (x0.2.2.2.1, (x0.2.2.2.2.1, (x0.2.2.2.2.2.1, ())))))) : dy3)), (147, .os 1), (149, .v ty5 x0.1), (152, .int .i64 (IntKind.wrap .i64 (x1.2.1 + 1)))] [(0, .var [.cell (.nilsl), ci 0, .cell (.nilsl), ci 0, ci 0, ci 0]), (1, .row ty8 r153)] ?_ (fun k167 => ?_)
  refine ap_all [12] (by kernel_rfl) ⟨?_, trivial⟩
  refine apo_ao rfl ?_
  refine ao_r (r_slice_vm (t := ty8) ((x0.1.drop (IntKind.wrap .i64 (x1.2.1 + 1)).toNat) : dy10) Try.underlying22 Try.sizeOf76 rfl (.some rfl) .none (show 0 ≤ (IntKind.wrap .i64 (x1.2.1 + 1)) from by omega) (show (IntKind.wrap .i64 (x1.2.1 + 1)) ≤ (x0.1.length : Int) from by omega) (show (x0.1.length : Int) ≤ (x0.1.length : Int) from by omega) sl_hi) rfl ?_
  refine ap_ni ?_
  exact ap_gr idn (nk rfl) k168 (by kernel_rfl)
  refine ap_let (g := 5) (listed := #[true, true, true, true, true, true, false, true, true, true, true, true, true, false, false, false, false]) [(4, .ref 0 0), (5, .bool false), (141, .v ty1 ((x0.1, (x0.2.1, (x0.2.2.1, (x0.2.2.2.1, (x0.2.2.2.2.1, (x0.2.2.2.2.2.1, ())))))) : dy3)), (146, .v ty5 ((x0.1.take x1.2.1.toNat) : dy10)), (153, .v ty5 ((x0.1.drop (IntKind.wrap .i64 (x1.2.1 + 1)).toNat) : dy10))] [(0, .var [.cell (.nilsl), ci 0, .cell (.nilsl), ci 0, ci 0, ci 0])] ?_ (fun k174 => ?_)
  refine ap_all [6] (by kernel_rfl) ⟨?_, trivial⟩
  refine apo_ao rfl ?_
  refine ao_call [] 1 trivial (c_spec_l2Own (is_mk r153h)) Try.func68 rfl rfl rfl rfl ⟨ad_ren rfl, trivial⟩ trivial rfl rfl rfl rfl rfl rfl rfl (fun r' H' hr => ?_)
  obtain ⟨rfl, rfl⟩ := hr
  refine ao_norm (y := .os 1) (H' := [(0, .var [.cell (.nilsl), ci 0, .cell (.nilsl), ci 0, ci 0, ci 0]), (1, .row ty8 r153)]) rfl rfl ?_
  refine row_len_o 1 (r153.length : Int) rfl rfl (fun hr154 => ?_)
  refine ap_ni ?_
  exact ap_gr idn (nk rfl) k168 (by kernel_rfl)
  refine ap_let (g := 5) (listed := #[false, true, true, true, true, true, true, true, true, true, true, true, true, false, false, false, false]) [(2, .ref 0 0), (4, .ref 1 0), (5, .bool false), (147, .os 2), (153, .v ty5 ((x0.1.drop (IntKind.wrap .i64 (x1.2.1 + 1)).toNat) : dy10))] [(0, .var [.cell (.v ty5 x0.1), ci x0.2.1, .cell (.v ty7 x0.2.2.1), ci x0.2.2.2.1, ci x0.2.2.2.2.1, ci x0.2.2.2.2.2.1]), (1, .var [.cell (.nilsl), ci 0, .cell (.nilsl), ci 0, ci 0, ci 0]), (2, .row ty8 r153)] ?_ (fun k199 => ?_)
  refine ap_all [0, 13] (by kernel_rfl) ⟨?_, ?_, trivial⟩
  refine apo_ao rfl ?_
  refine ao_r (r_load_part (τ := ty1) (y := ((x0.1, (x0.2.1, (x0.2.2.1, (x0.2.2.2.1, (x0.2.2.2.2.1, (x0.2.2.2.2.2.1, ())))))) : dy3)) [] [] rfl Try.isAgg29 Try.sizeOf29 rfl rfl rfl rfl) rfl ?_
  refine ap_ni ?_
  exact ap_gr (rn [(0, 1), (1, 2)]) (nk rfl) k168 (by kernel_rfl)
  refine apo_ao rfl ?_
  refine ao_eff trivial (e_append (t := ty8) 3 rfl Try.underlying22 (rfl : Try.prog.info? 76 = some _) rfl rfl rfl rfl rfl rfl rfl src_v (show r153.length + (x0.1.drop (IntKind.wrap .i64 (x1.2.1 + 1)).toNat).length ≤ 1000000000 from by (try simp only [List.length_drop]) <;> omega) rfl rfl) rfl ?_
  refine ap_ni ?_
  exact ap_gr (rn [(2, 3)]) (nk rfl) k200 (by kernel_rfl)
  refine ap_let (g := 6) (listed := #[true, true, true, true, true, true, true, true, false, true, true, true, false, false, false, false, false]) [(4, .ref 0 0), (5, .bool false), (141, .v ty1 ((x0.1, (x0.2.1, (x0.2.2.1, (x0.2.2.2.1, (x0.2.2.2.2.1, (x0.2.2.2.2.2.1, ())))))) : dy3)), (147, .os 1), (148, .ref 2 0), (152, .int .i64 (IntKind.wrap .i64 (x1.2.1 + 1)))] [(0, .var [.cell (.nilsl), ci 0, .cell (.nilsl), ci 0, ci 0, ci 0]), (1, .row ty8 r153), (2, .var [.cell (.v ty5 x0.1), ci x0.2.1, .cell (.v ty7 x0.2.2.1), ci x0.2.2.2.1, ci x0.2.2.2.2.1, ci x0.2.2.2.2.2.1])] ?_ (fun k171 => ?_)
  refine ap_all [8] (by kernel_rfl) ⟨?_, trivial⟩
  refine apo_ao rfl ?_
  refine ao_r (r_load_cell Try.isAgg22 rfl rfl rfl) rfl ?_
  refine ap_ni ?_
  exact ap_gr idn (nk rfl) k167 (by kernel_rfl)
  refine ap_let (g := 6) (listed := #[true, true, true, true, true, true, false, true, true, true, true, true, false, false, false, false, false]) [(4, .ref 0 0), (5, .bool false), (141, .v ty1 ((x0.1, (x0.2.1, (x0.2.2.1, (x0.2.2.2.1, (x0.2.2.2.2.1, (x0.2.2.2.2.2.1, ())))))) : dy3)), (146, .v ty5 ((x0.1.take x1.2.1.toNat) : dy10)), (149, .v ty5 x0.1), (152, .int .i64 (IntKind.wrap .i64 (x1.2.1 + 1)))] [(0, .var [.cell (.nilsl), ci 0, .cell (.nilsl), ci 0, ci 0, ci 0])] ?_ (fun k173 => ?_)
  refine ap_all [6, 12] (by kernel_rfl) ⟨?_, ?_, trivial⟩
  refine apo_ao rfl ?_
  refine ao_call [] 1 trivial (c_spec_l2Own (is_mk r153h)) Try.func68 rfl rfl rfl rfl ⟨ad_ren rfl, trivial⟩ trivial rfl rfl rfl rfl rfl rfl rfl (fun r' H' hr => ?_)
  obtain ⟨rfl, rfl⟩ := hr
  refine ao_norm (y := .os 1) (H' := [(0, .var [.cell (.nilsl), ci 0, .cell (.nilsl), ci 0, ci 0, ci 0]), (1, .row ty8 r153)]) rfl rfl ?_
  refine row_len_o 1 (r153.length : Int) rfl rfl (fun hr154 => ?_)
  refine ap_ni ?_
  exact ap_gr idn (nk rfl) k167 (by kernel_rfl)
  refine apo_ao rfl ?_
  refine ao_r (r_slice_vm (t := ty8) ((x0.1.drop (IntKind.wrap .i64 (x1.2.1 + 1)).toNat) : dy10) Try.underlying22 Try.sizeOf76 rfl (.some rfl) .none (show 0 ≤ (IntKind.wrap .i64 (x1.2.1 + 1)) from by omega) (show (IntKind.wrap .i64 (x1.2.1 + 1)) ≤ (x0.1.length : Int) from by omega) (show (x0.1.length : Int) ≤ (x0.1.length : Int) from by omega) sl_hi) rfl ?_
  refine ap_ni ?_
  exact ap_gr idn (nk rfl) k174 (by kernel_rfl)
  refine ap_let (g := 6) (listed := #[true, true, true, true, true, false, false, true, true, true, true, true, true, false, false, false, false]) [(4, .ref 0 0), (5, .bool false), (141, .v ty1 ((x0.1, (x0.2.1, (x0.2.2.1, (x0.2.2.2.1, (x0.2.2.2.2.1, (x0.2.2.2.2.2.1, ())))))) : dy3)), (143, .v ty5 x0.1), (145, .int .i64 x1.2.1), (153, .v ty5 ((x0.1.drop (IntKind.wrap .i64 (x1.2.1 + 1)).toNat) : dy10))] [(0, .var [.cell (.nilsl), ci 0, .cell (.nilsl), ci 0, ci 0, ci 0])] ?_ (fun k178 => ?_)
  refine ap_all [5] (by kernel_rfl) ⟨?_, trivial⟩
  refine apo_ao rfl ?_
  refine ao_r (r_slice_vm (t := ty8) ((x0.1.take x1.2.1.toNat) : dy10) Try.underlying22 Try.sizeOf76 rfl .none (.some rfl) (show 0 ≤ 0 from by omega) (show 0 ≤ x1.2.1 from by omega) (show x1.2.1 ≤ (x0.1.length : Int) from by omega) rfl) rfl ?_
  refine ap_ni ?_
  exact ap_gr idn (nk rfl) k174 (by kernel_rfl)
  refine ap_let (g := 6) (listed := #[false, true, true, true, true, true, true, true, true, true, true, true, false, false, false, false, false]) [(2, .ref 0 0), (4, .ref 1 0), (5, .bool false), (147, .os 2), (149, .v ty5 x0.1), (152, .int .i64 (IntKind.wrap .i64 (x1.2.1 + 1)))] [(0, .var [.cell (.v ty5 x0.1), ci x0.2.1, .cell (.v ty7 x0.2.2.1), ci x0.2.2.2.1, ci x0.2.2.2.2.1, ci x0.2.2.2.2.2.1]), (1, .var [.cell (.nilsl), ci 0, .cell (.nilsl), ci 0, ci 0, ci 0]), (2, .row ty8 r153)] ?_ (fun k198 => ?_)
  refine ap_all [0, 12] (by kernel_rfl) ⟨?_, ?_, trivial⟩
  refine apo_ao rfl ?_
  refine ao_r (r_load_part (τ := ty1) (y := ((x0.1, (x0.2.1, (x0.2.2.1, (x0.2.2.2.1, (x0.2.2.2.2.1, (x0.2.2.2.2.2.1, ())))))) : dy3)) [] [] rfl Try.isAgg29 Try.sizeOf29 rfl rfl rfl rfl) rfl ?_
  refine ap_ni ?_
  exact ap_gr (rn [(0, 1), (1, 2)]) (nk rfl) k167 (by kernel_rfl)
  refine apo_ao rfl ?_
  refine ao_r (r_slice_vm (t := ty8) ((x0.1.drop (IntKind.wrap .i64 (x1.2.1 + 1)).toNat) : dy10) Try.underlying22 Try.sizeOf76 rfl (.some rfl) .none (show 0 ≤ (IntKind.wrap .i64 (x1.2.1 + 1)) from by omega) (show (IntKind.wrap .i64 (x1.2.1 + 1)) ≤ (x0.1.length : Int) from by omega) (show (x0.1.length : Int) ≤ (x0.1.length : Int) from by omega) sl_hi) rfl ?_
  refine ap_ni ?_
  exact ap_gr idn (nk rfl) k199 (by kernel_rfl)
  refine ap_let (g := 6) (listed := #[false, true, true, true, true, true, false, true, true, true, true, true, true, false, false, false, false]) [(2, .ref 0 0), (4, .ref 1 0), (5, .bool false), (146, .v ty5 ((x0.1.take x1.2.1.toNat) : dy10)), (153, .v ty5 ((x0.1.drop (IntKind.wrap .i64 (x1.2.1 + 1)).toNat) : dy10))] [(0, .var [.cell (.v ty5 x0.1), ci x0.2.1, .cell (.v ty7 x0.2.2.1), ci x0.2.2.2.1, ci x0.2.2.2.2.1, ci x0.2.2.2.2.2.1]), (1, .var [.cell (.nilsl), ci 0, .cell (.nilsl), ci 0, ci 0, ci 0])] ?_ (fun k204 => ?_)
  refine ap_all [0, 6] (by kernel_rfl) ⟨?_, ?_, trivial⟩
  refine apo_ao rfl ?_
  refine ao_r (r_load_part (τ := ty1) (y := ((x0.1, (x0.2.1, (x0.2.2.1, (x0.2.2.2.1, (x0.2.2.2.2.1, (x0.2.2.2.2.2.1, ())))))) : dy3)) [] [] rfl Try.isAgg29 Try.sizeOf29 rfl rfl rfl rfl) rfl ?_
  refine ap_ni ?_
  exact ap_gr (rn [(0, 1)]) (nk rfl) k174 (by kernel_rfl)
  refine apo_ao rfl ?_
  refine ao_call [] 2 trivial (c_spec_l2Own (is_mk r153h)) Try.func68 rfl rfl rfl rfl ⟨ad_ren rfl, trivial⟩ trivial rfl rfl rfl rfl rfl rfl rfl (fun r' H' hr => ?_)
  obtain ⟨rfl, rfl⟩ := hr
  refine ao_norm (y := .os 2) (H' := [(0, .var [.cell (.v ty5 x0.1), ci x0.2.1, .cell (.v ty7 x0.2.2.1), ci x0.2.2.2.1, ci x0.2.2.2.2.1, ci x0.2.2.2.2.2.1]), (1, .var [.cell (.nilsl), ci 0, .cell (.nilsl), ci 0, ci 0, ci 0]), (2, .row ty8 r153)]) rfl rfl ?_
  refine row_len_o 2 (r153.length : Int) rfl rfl (fun hr154 => ?_)
  refine ap_ni ?_
  exact ap_gr idn (nk rfl) k199 (by kernel_rfl)
  refine ap_let (g := 7) (listed := #[true, true, true, true, true, true, true, true, true, true, false, false, false, false, false, false, false]) [(4, .ref 0 0), (5, .bool false), (141, .v ty1 ((x0.1, (x0.2.1, (x0.2.2.1, (x0.2.2.2.1, (x0.2.2.2.2.1, (x0.2.2.2.2.2.1, ())))))) : dy3)), (147, .os 1), (149, .v ty5 x0.1), (150, .ref 2 1)] [(0, .var [.cell (.nilsl), ci 0, .cell (.nilsl), ci 0, ci 0, ci 0]), (1, .row ty8 r153), (2, .var [ci x1.1, ci x1.2.1, ci x1.2.2.1])] ?_ (fun k166 => ?_)
  refine ap_all [10] (by kernel_rfl) ⟨?_, trivial⟩
  refine apo_ao rfl ?_
  refine ao_r (r_load_cell Try.isAgg3 rfl rfl rfl) rfl ?_
  refine ap_ni ?_
  refine ap_p 11 (fun _ _ _ h => h) rfl (by kernel_rfl) (rp_add rfl rfl) rfl ?_
  exact ap_gr idn (nk rfl) k167 (by kernel_rfl)
  refine ap_let (g := 7) (listed := #[true, true, true, true, true, true, false, true, false, true, true, true, false, false, false, false, false]) [(4, .ref 0 0), (5, .bool false), (141, .v ty1 ((x0.1, (x0.2.1, (x0.2.2.1, (x0.2.2.2.1, (x0.2.2.2.2.1, (x0.2.2.2.2.2.1, ())))))) : dy3)), (146, .v ty5 ((x0.1.take x1.2.1.toNat) : dy10)), (148, .ref 1 0), (152, .int .i64 (IntKind.wrap .i64 (x1.2.1 + 1)))] [(0, .var [.cell (.nilsl), ci 0, .cell (.nilsl), ci 0, ci 0, ci 0]), (1, .var [.cell (.v ty5 x0.1), ci x0.2.1, .cell (.v ty7 x0.2.2.1), ci x0.2.2.2.1, ci x0.2.2.2.2.1, ci x0.2.2.2.2.2.1])] ?_ (fun k175 => ?_)
  refine ap_all [6, 8] (by kernel_rfl) ⟨?_, ?_, trivial⟩
  refine apo_ao rfl ?_
  refine ao_call [] 2 trivial (c_spec_l2Own (is_mk r153h)) Try.func68 rfl rfl rfl rfl ⟨ad_ren rfl, trivial⟩ trivial rfl rfl rfl rfl rfl rfl rfl (fun r' H' hr => ?_)
  obtain ⟨rfl, rfl⟩ := hr
  refine ao_norm (y := .os 2) (H' := [(0, .var [.cell (.nilsl), ci 0, .cell (.nilsl), ci 0, ci 0, ci 0]), (1, .var [.cell (.v ty5 x0.1), ci x0.2.1, .cell (.v ty7 x0.2.2.1), ci x0.2.2.2.1, ci x0.2.2.2.2.1, ci x0.2.2.2.2.2.1]), (2, .row ty8 r153)]) rfl rfl ?_
  refine row_len_o 2 (r153.length : Int) rfl rfl (fun hr154 => ?_)
  refine ap_ni ?_
  exact ap_gr (rn [(1, 2), (2, 1)]) (nk rfl) k171 (by kernel_rfl)
  refine apo_ao rfl ?_
  refine ao_r (r_load_cell Try.isAgg22 rfl rfl rfl) rfl ?_
  refine ap_ni ?_
  exact ap_gr idn (nk rfl) k173 (by kernel_rfl)
  refine ap_let (g := 7) (listed := #[true, true, true, true, true, false, false, true, true, true, true, true, false, false, false, false, false]) [(4, .ref 0 0), (5, .bool false), (141, .v ty1 ((x0.1, (x0.2.1, (x0.2.2.1, (x0.2.2.2.1, (x0.2.2.2.2.1, (x0.2.2.2.2.2.1, ())))))) : dy3)), (143, .v ty5 x0.1), (145, .int .i64 x1.2.1), (149, .v ty5 x0.1), (152, .int .i64 (IntKind.wrap .i64 (x1.2.1 + 1)))] [(0, .var [.cell (.nilsl), ci 0, .cell (.nilsl), ci 0, ci 0, ci 0])] ?_ (fun k177 => ?_)
  refine ap_all [5, 12] (by kernel_rfl) ⟨?_, ?_, trivial⟩
  refine apo_ao rfl ?_
  refine ao_r (r_slice_vm (t := ty8) ((x0.1.take x1.2.1.toNat) : dy10) Try.underlying22 Try.sizeOf76 rfl .none (.some rfl) (show 0 ≤ 0 from by omega) (show 0 ≤ x1.2.1 from by omega) (show x1.2.1 ≤ (x0.1.length : Int) from by omega) rfl) rfl ?_
  refine ap_ni ?_
  exact ap_gr idn (nk rfl) k173 (by kernel_rfl)
  refine apo_ao rfl ?_
  refine ao_r (r_slice_vm (t := ty8) ((x0.1.drop (IntKind.wrap .i64 (x1.2.1 + 1)).toNat) : dy10) Try.underlying22 Try.sizeOf76 rfl (.some rfl) .none (show 0 ≤ (IntKind.wrap .i64 (x1.2.1 + 1)) from by omega) (show (IntKind.wrap .i64 (x1.2.1 + 1)) ≤ (x0.1.length : Int) from by omega) (show (x0.1.length : Int) ≤ (x0.1.length : Int) from by omega) sl_hi) rfl ?_
  refine ap_ni ?_
  exact ap_gr idn (nk rfl) k178 (by kernel_rfl)
  refine ap_let (g := 7) (listed := #[true, true, true, true, false, false, false, true, true, true, true, true, true, false, false, false, false]) [(4, .ref 0 0), (5, .bool false), (141, .v ty1 ((x0.1, (x0.2.1, (x0.2.2.1, (x0.2.2.2.1, (x0.2.2.2.2.1, (x0.2.2.2.2.2.1, ())))))) : dy3)), (143, .v ty5 x0.1), (144, .ref 1 1), (153, .v ty5 ((x0.1.drop (IntKind.wrap .i64 (x1.2.1 + 1)).toNat) : dy10))] [(0, .var [.cell (.nilsl), ci 0, .cell (.nilsl), ci 0, ci 0, ci 0]), (1, .var [ci x1.1, ci x1.2.1, ci x1.2.2.1])] ?_ (fun k182 => ?_)
  refine ap_all [4] (by kernel_rfl) ⟨?_, trivial⟩
  refine apo_ao rfl ?_
  refine ao_r (r_load_cell Try.isAgg3 rfl rfl rfl) rfl ?_
  refine ap_ni ?_
  exact ap_gr idn (nk rfl) k178 (by kernel_rfl)
  refine ap_let (g := 7) (listed := #[true, true, false, true, true, false, false, true, true, true, true, true, true, false, false, false, false]) [(4, .ref 0 0), (5, .bool false), (141, .v ty1 ((x0.1, (x0.2.1, (x0.2.2.1, (x0.2.2.2.1, (x0.2.2.2.2.1, (x0.2.2.2.2.2.1, ())))))) : dy3)), (142, .ref 1 0), (145, .int .i64 x1.2.1), (153, .v ty5 ((x0.1.drop (IntKind.wrap .i64 (x1.2.1 + 1)).toNat) : dy10))] [(0, .var [.cell (.nilsl), ci 0, .cell (.nilsl), ci 0, ci 0, ci 0]), (1, .var [.cell (.v ty5 x0.1), ci x0.2.1, .cell (.v ty7 x0.2.2.1), ci x0.2.2.2.1, ci x0.2.2.2.2.1, ci x0.2.2.2.2.2.1])] ?_ (fun k187 => ?_)
  refine ap_all [2] (by kernel_rfl) ⟨?_, trivial⟩
  refine apo_ao rfl ?_
  refine ao_r (r_load_cell Try.isAgg22 rfl rfl rfl) rfl ?_
  refine ap_ni ?_
  exact ap_gr idn (nk rfl) k178 (by kernel_rfl)
  refine ap_let (g := 7) (listed := #[false, true, true, true, true, true, true, true, false, true, true, true, false, false, false, false, false]) [(2, .ref 0 0), (4, .ref 1 0), (5, .bool false), (147, .os 2), (148, .ref 0 0), (152, .int .i64 (IntKind.wrap .i64 (x1.2.1 + 1)))] [(0, .var [.cell (.v ty5 x0.1), ci x0.2.1, .cell (.v ty7 x0.2.2.1), ci x0.2.2.2.1, ci x0.2.2.2.2.1, ci x0.2.2.2.2.2.1]), (1, .var [.cell (.nilsl), ci 0, .cell (.nilsl), ci 0, ci 0, ci 0]), (2, .row ty8 r153)] ?_ (fun k201 => ?_)
  refine ap_all [0, 8] (by kernel_rfl) ⟨?_, ?_, trivial⟩
  refine apo_ao rfl ?_
  refine ao_r (r_load_part (τ := ty1) (y := ((x0.1, (x0.2.1, (x0.2.2.1, (x0.2.2.2.1, (x0.2.2.2.2.1, (x0.2.2.2.2.2.1, ())))))) : dy3)) [] [] rfl Try.isAgg29 Try.sizeOf29 rfl rfl rfl rfl) rfl ?_
  refine ap_ni ?_
  exact ap_gr (rn [(0, 1), (1, 2), (2, 0)]) (nk rfl) k171 (by kernel_rfl)
  refine apo_ao rfl ?_
  refine ao_r (r_load_cell Try.isAgg22 rfl rfl rfl) rfl ?_
  refine ap_ni ?_
  exact ap_gr idn (nk rfl) k198 (by kernel_rfl)
  refine ap_let (g := 7) (listed := #[false, true, true, true, true, true, false, true, true, true, true, true, false, false, false, false, false]) [(2, .ref 0 0), (4, .ref 1 0), (5, .bool false), (146, .v ty5 ((x0.1.take x1.2.1.toNat) : dy10)), (149, .v ty5 x0.1), (152, .int .i64 (IntKind.wrap .i64 (x1.2.1 + 1)))] [(0, .var [.cell (.v ty5 x0.1), ci x0.2.1, .cell (.v ty7 x0.2.2.1), ci x0.2.2.2.1, ci x0.2.2.2.2.1, ci x0.2.2.2.2.2.1]), (1, .var [.cell (.nilsl), ci 0, .cell (.nilsl), ci 0, ci 0, ci 0])] ?_ (fun k203 => ?_)
  refine ap_all [0, 6, 12] (by kernel_rfl) ⟨?_, ?_, ?_, trivial⟩
  refine apo_ao rfl ?_
  refine ao_r (r_load_part (τ := ty1) (y := ((x0.1, (x0.2.1, (x0.2.2.1, (x0.2.2.2.1, (x0.2.2.2.2.1, (x0.2.2.2.2.2.1, ())))))) : dy3)) [] [] rfl Try.isAgg29 Try.sizeOf29 rfl rfl rfl rfl) rfl ?_
  refine ap_ni ?_
  exact ap_gr (rn [(0, 1)]) (nk rfl) k173 (by kernel_rfl)
  refine apo_ao rfl ?_
  refine ao_call [] 2 trivial (c_spec_l2Own (is_mk r153h)) Try.func68 rfl rfl rfl rfl ⟨ad_ren rfl, trivial⟩ trivial rfl rfl rfl rfl rfl rfl rfl (fun r' H' hr => ?_)
  obtain ⟨rfl, rfl⟩ := hr
  refine ao_norm (y := .os 2) (H' := [(0, .var [.cell (.v ty5 x0.1), ci x0.2.1, .cell (.v ty7 x0.2.2.1), ci x0.2.2.2.1, ci x0.2.2.2.2.1, ci x0.2.2.2.2.2.1]), (1, .var [.cell (.nilsl), ci 0, .cell (.nilsl), ci 0, ci 0, ci 0]), (2, .row ty8 r153)]) rfl rfl ?_
  refine row_len_o 2 (r153.length : Int) rfl rfl (fun hr154 => ?_)
  refine ap_ni ?_
  exact ap_gr idn (nk rfl) k198 (by kernel_rfl)
  refine apo_ao rfl ?_
  refine ao_r (r_slice_vm (t := ty8) ((x0.1.drop (IntKind.wrap .i64 (x1.2.1 + 1)).toNat) : dy10) Try.underlying22 Try.sizeOf76 rfl (.some rfl) .none (show 0 ≤ (IntKind.wrap .i64 (x1.2.1 + 1)) from by omega) (show (IntKind.wrap .i64 (x1.2.1 + 1)) ≤ (x0.1.length : Int) from by omega) (show (x0.1.length : Int) ≤ (x0.1.length : Int) from by omega) sl_hi) rfl ?_
  refine ap_ni ?_
  exact ap_gr idn (nk rfl) k204 (by kernel_rfl)
  refine ap_let (g := 7) (listed := #[false, true, true, true, true, false, false, true, true, true, true, true, true, false, false, false, false]) [(2, .ref 0 0), (4, .ref 1 0), (5, .bool false), (143, .v ty5 x0.1), (145, .int .i64 x1.2.1), (153, .v ty5 ((x0.1.drop (IntKind.wrap .i64 (x1.2.1 + 1)).toNat) : dy10))] [(0, .var [.cell (.v ty5 x0.1), ci x0.2.1, .cell (.v ty7 x0.2.2.1), ci x0.2.2.2.1, ci x0.2.2.2.2.1, ci x0.2.2.2.2.2.1]), (1, .var [.cell (.nilsl), ci 0, .cell (.nilsl), ci 0, ci 0, ci 0])] ?_ (fun k208 => ?_)
  refine ap_all [0, 5] (by kernel_rfl) ⟨?_, ?_, trivial⟩
  refine apo_ao rfl ?_
  refine ao_r (r_load_part (τ := ty1) (y := ((x0.1, (x0.2.1, (x0.2.2.1, (x0.2.2.2.1, (x0.2.2.2.2.1, (x0.2.2.2.2.2.1, ())))))) : dy3)) [] [] rfl Try.isAgg29 Try.sizeOf29 rfl rfl rfl rfl) rfl ?_
  refine ap_ni ?_
  exact ap_gr (rn [(0, 1)]) (nk rfl) k178 (by kernel_rfl)
  refine apo_ao rfl ?_
  refine ao_r (r_slice_vm (t := ty8) ((x0.1.take x1.2.1.toNat) : dy10) Try.underlying22 Try.sizeOf76 rfl .none (.some rfl) (show 0 ≤ 0 from by omega) (show 0 ≤ x1.2.1 from by omega) (show x1.2.1 ≤ (x0.1.length : Int) from by omega) rfl) rfl ?_
  refine ap_ni ?_
  exact ap_gr idn (nk rfl) k204 (by kernel_rfl)
  refine ap_let (g := 8) (listed := #[true, true, true, true, true, true, true, true, false, true, false, false, false, false, false, false, false]) [(4, .ref 0 0), (5, .bool false), (141, .v ty1 ((x0.1, (x0.2.1, (x0.2.2.1, (x0.2.2.2.1, (x0.2.2.2.2.1, (x0.2.2.2.2.2.1, ())))))) : dy3)), (147, .os 1), (148, .ref 2 0), (150, .ref 3 1)] [(0, .var [.cell (.nilsl), ci 0, .cell (.nilsl), ci 0, ci 0, ci 0]), (1, .row ty8 r153), (2, .var [.cell (.v ty5 x0.1), ci x0.2.1, .cell (.v ty7 x0.2.2.1), ci x0.2.2.2.1, ci x0.2.2.2.2.1, ci x0.2.2.2.2.2.1]), (3, .var [ci x1.1, ci x1.2.1, ci x1.2.2.1])] ?_ (fun k165 => ?_)
  refine ap_all [8, 10] (by kernel_rfl) ⟨?_, ?_, trivial⟩
  refine apo_ao rfl ?_
  refine ao_r (r_load_cell Try.isAgg22 rfl rfl rfl) rfl ?_
  refine ap_ni ?_
  exact ap_gr (rn [(2, 3)]) (nk rfl) k166 (by kernel_rfl)
  refine apo_ao rfl ?_
  refine ao_r (r_load_cell Try.isAgg3 rfl rfl rfl) rfl ?_
  refine ap_ni ?_
  refine ap_p 11 (fun _ _ _ h => h) rfl (by kernel_rfl) (rp_add rfl rfl) rfl ?_
  exact ap_gr idn (nk rfl) k171 (by kernel_rfl)
  refine ap_let (g := 8) (listed := #[true, true, true, true, true, true, false, true, true, true, false, false, false, false, false, false, false]) [(4, .ref 0 0), (5, .bool false), (141, .v ty1 ((x0.1, (x0.2.1, (x0.2.2.1, (x0.2.2.2.1, (x0.2.2.2.2.1, (x0.2.2.2.2.2.1, ())))))) : dy3)), (146, .v ty5 ((x0.1.take x1.2.1.toNat) : dy10)), (149, .v ty5 x0.1), (150, .ref 1 1)] [(0, .var [.cell (.nilsl), ci 0, .cell (.nilsl), ci 0, ci 0, ci 0]), (1, .var [ci x1.1, ci x1.2.1, ci x1.2.2.1])] ?_ (fun k172 => ?_)
  refine ap_all [6, 10] (by kernel_rfl) ⟨?_, ?_, trivial⟩
  refine apo_ao rfl ?_
  refine ao_call [] 2 trivial (c_spec_l2Own (is_mk r153h)) Try.func68 rfl rfl rfl rfl ⟨ad_ren rfl, trivial⟩ trivial rfl rfl rfl rfl rfl rfl rfl (fun r' H' hr => ?_)
  obtain ⟨rfl, rfl⟩ := hr
  refine ao_norm (y := .os 2) (H' := [(0, .var [.cell (.nilsl), ci 0, .cell (.nilsl), ci 0, ci 0, ci 0]), (1, .var [ci x1.1, ci x1.2.1, ci x1.2.2.1]), (2, .row ty8 r153)]) rfl rfl ?_
  refine row_len_o 2 (r153.length : Int) rfl rfl (fun hr154 => ?_)
  refine ap_ni ?_
  exact ap_gr (rn [(1, 2), (2, 1)]) (nk rfl) k166 (by kernel_rfl)
  refine apo_ao rfl ?_
  refine ao_r (r_load_cell Try.isAgg3 rfl rfl rfl) rfl ?_
  refine ap_ni ?_
  refine ap_p 11 (fun _ _ _ h => h) rfl (by kernel_rfl) (rp_add rfl rfl) rfl ?_
  exact ap_gr idn (nk rfl) k173 (by kernel_rfl)
  refine ap_let (g := 8) (listed := #[true, true, true, true, true, false, false, true, false, true, true, true, false, false, false, false, false]) [(4, .ref 0 0), (5, .bool false), (141, .v ty1 ((x0.1, (x0.2.1, (x0.2.2.1, (x0.2.2.2.1, (x0.2.2.2.2.1, (x0.2.2.2.2.2.1, ())))))) : dy3)), (143, .v ty5 x0.1), (145, .int .i64 x1.2.1), (148, .ref 1 0), (152, .int .i64 (IntKind.wrap .i64 (x1.2.1 + 1)))] [(0, .var [.cell (.nilsl), ci 0, .cell (.nilsl), ci 0, ci 0, ci 0]), (1, .var [.cell (.v ty5 x0.1), ci x0.2.1, .cell (.v ty7 x0.2.2.1), ci x0.2.2.2.1, ci x0.2.2.2.2.1, ci x0.2.2.2.2.2.1])] ?_ (fun k179 => ?_)
  refine ap_all [5, 8] (by kernel_rfl) ⟨?_, ?_, trivial⟩
  refine apo_ao rfl ?_
  refine ao_r (r_slice_vm (t := ty8) ((x0.1.take x1.2.1.toNat) : dy10) Try.underlying22 Try.sizeOf76 rfl .none (.some rfl) (show 0 ≤ 0 from by omega) (show 0 ≤ x1.2.1 from by omega) (show x1.2.1 ≤ (x0.1.length : Int) from by omega) rfl) rfl ?_
  refine ap_ni ?_
  exact ap_gr idn (nk rfl) k175 (by kernel_rfl)
  refine apo_ao rfl ?_
  refine ao_r (r_load_cell Try.isAgg22 rfl rfl rfl) rfl ?_
  refine ap_ni ?_
  exact ap_gr idn (nk rfl) k177 (by kernel_rfl)
  refine ap_let (g := 8) (listed := #[true, true, true, true, false, false, false, true, true, true, true, true, false, false, false, false, false]) [(4, .ref 0 0), (5, .bool false), (141, .v ty1 ((x0.1, (x0.2.1, (x0.2.2.1, (x0.2.2.2.1, (x0.2.2.2.2.1, (x0.2.2.2.2.2.1, ())))))) : dy3)), (143, .v ty5 x0.1), (144, .ref 1 1), (149, .v ty5 x0.1), (152, .int .i64 (IntKind.wrap .i64 (x1.2.1 + 1)))] [(0, .var [.cell (.nilsl), ci 0, .cell (.nilsl), ci 0, ci 0, ci 0]), (1, .var [ci x1.1, ci x1.2.1, ci x1.2.2.1])] ?_ (fun k181 => ?_)
  refine ap_all [4, 12] (by kernel_rfl) ⟨?_, ?_, trivial⟩
  refine apo_ao rfl ?_
  refine ao_r (r_load_cell Try.isAgg3 rfl rfl rfl) rfl ?_
  refine ap_ni ?_
  exact ap_gr idn (nk rfl) k177 (by kernel_rfl)
  refine apo_ao rfl ?_
  refine ao_r (r_slice_vm (t := ty8) ((x0.1.drop (IntKind.wrap .i64 (x1.2.1 + 1)).toNat) : dy10) Try.underlying22 Try.sizeOf76 rfl (.some rfl) .none (show 0 ≤ (IntKind.wrap .i64 (x1.2.1 + 1)) from by omega) (show (IntKind.wrap .i64 (x1.2.1 + 1)) ≤ (x0.1.length : Int) from by omega) (show (x0.1.length : Int) ≤ (x0.1.length : Int) from by omega) sl_hi) rfl ?_
  refine ap_ni ?_
  exact ap_gr idn (nk rfl) k182 (by kernel_rfl)
  refine ap_let (g := 8) (listed := #[true, true, false, true, true, false, false, true, true, true, true, true, false, false, false, false, false]) [(4, .ref 0 0), (5, .bool false), (141, .v ty1 ((x0.1, (x0.2.1, (x0.2.2.1, (x0.2.2.2.1, (x0.2.2.2.2.1, (x0.2.2.2.2.2.1, ())))))) : dy3)), (142, .ref 1 0), (145, .int .i64 x1.2.1), (149, .v ty5 x0.1), (152, .int .i64 (IntKind.wrap .i64 (x1.2.1 + 1)))] [(0, .var [.cell (.nilsl), ci 0, .cell (.nilsl), ci 0, ci 0, ci 0]), (1, .var [.cell (.v ty5 x0.1), ci x0.2.1, .cell (.v ty7 x0.2.2.1), ci x0.2.2.2.1, ci x0.2.2.2.2.1, ci x0.2.2.2.2.2.1])] ?_ (fun k186 => ?_)
  refine ap_all [2, 12] (by kernel_rfl) ⟨?_, ?_, trivial⟩
  refine apo_ao rfl ?_
  refine ao_r (r_load_cell Try.isAgg22 rfl rfl rfl) rfl ?_
  refine ap_ni ?_
  exact ap_gr idn (nk rfl) k177 (by kernel_rfl)
  refine apo_ao rfl ?_
  refine ao_r (r_slice_vm (t := ty8) ((x0.1.drop (IntKind.wrap .i64 (x1.2.1 + 1)).toNat) : dy10) Try.underlying22 Try.sizeOf76 rfl (.some rfl) .none (show 0 ≤ (IntKind.wrap .i64 (x1.2.1 + 1)) from by omega) (show (IntKind.wrap .i64 (x1.2.1 + 1)) ≤ (x0.1.length : Int) from by omega) (show (x0.1.length : Int) ≤ (x0.1.length : Int) from by omega) sl_hi) rfl ?_
  refine ap_ni ?_
  exact ap_gr idn (nk rfl) k187 (by kernel_rfl)
  refine ap_let (g := 8) (listed := #[true, true, false, true, false, false, false, true, true, true, true, true, true, false, false, false, false]) [(4, .ref 0 0), (5, .bool false), (141, .v ty1 ((x0.1, (x0.2.1, (x0.2.2.1, (x0.2.2.2.1, (x0.2.2.2.2.1, (x0.2.2.2.2.2.1, ())))))) : dy3)), (142, .ref 1 0), (144, .ref 2 1), (153, .v ty5 ((x0.1.drop (IntKind.wrap .i64 (x1.2.1 + 1)).toNat) : dy10))] [(0, .var [.cell (.nilsl), ci 0, .cell (.nilsl), ci 0, ci 0, ci 0]), (1, .var [.cell (.v ty5 x0.1), ci x0.2.1, .cell (.v ty7 x0.2.2.1), ci x0.2.2.2.1, ci x0.2.2.2.2.1, ci x0.2.2.2.2.2.1]), (2, .var [ci x1.1, ci x1.2.1, ci x1.2.2.1])] ?_ (fun k191 => ?_)
  refine ap_all [2, 4] (by kernel_rfl) ⟨?_, ?_, trivial⟩
  refine apo_ao rfl ?_
  refine ao_r (r_load_cell Try.isAgg22 rfl rfl rfl) rfl ?_
  refine ap_ni ?_
  exact ap_gr (rn [(1, 2)]) (nk rfl) k182 (by kernel_rfl)
  refine apo_ao rfl ?_
  refine ao_r (r_load_cell Try.isAgg3 rfl rfl rfl) rfl ?_
  refine ap_ni ?_
  exact ap_gr idn (nk rfl) k187 (by kernel_rfl)
  refine ap_let (g := 8) (listed := #[false, true, true, true, true, true, true, true, true, true, false, false, false, false, false, false, false]) [(2, .ref 0 0), (4, .ref 1 0), (5, .bool false), (147, .os 2), (149, .v ty5 x0.1), (150, .ref 3 1)] [(0, .var [.cell (.v ty5 x0.1), ci x0.2.1, .cell (.v ty7 x0.2.2.1), ci x0.2.2.2.1, ci x0.2.2.2.2.1, ci x0.2.2.2.2.2.1]), (1, .var [.cell (.nilsl), ci 0, .cell (.nilsl), ci 0, ci 0, ci 0]), (2, .row ty8 r153), (3, .var [ci x1.1, ci x1.2.1, ci x1.2.2.1])] ?_ (fun k197 => ?_)
  refine ap_all [0, 10] (by kernel_rfl) ⟨?_, ?_, trivial⟩
  refine apo_ao rfl ?_
  refine ao_r (r_load_part (τ := ty1) (y := ((x0.1, (x0.2.1, (x0.2.2.1, (x0.2.2.2.1, (x0.2.2.2.2.1, (x0.2.2.2.2.2.1, ())))))) : dy3)) [] [] rfl Try.isAgg29 Try.sizeOf29 rfl rfl rfl rfl) rfl ?_
  refine ap_ni ?_
  exact ap_gr (rn [(0, 1), (1, 2), (2, 3)]) (nk rfl) k166 (by kernel_rfl)
  refine apo_ao rfl ?_
  refine ao_r (r_load_cell Try.isAgg3 rfl rfl rfl) rfl ?_
  refine ap_ni ?_
  refine ap_p 11 (fun _ _ _ h => h) rfl (by kernel_rfl) (rp_add rfl rfl) rfl ?_
  exact ap_gr idn (nk rfl) k198 (by kernel_rfl)
  refine ap_let (g := 8) (listed := #[false, true, true, true, true, true, false, true, false, true, true, true, false, false, false, false, false]) [(2, .ref 0 0), (4, .ref 1 0), (5, .bool false), (146, .v ty5 ((x0.1.take x1.2.1.toNat) : dy10)), (148, .ref 0 0), (152, .int .i64 (IntKind.wrap .i64 (x1.2.1 + 1)))] [(0, .var [.cell (.v ty5 x0.1), ci x0.2.1, .cell (.v ty7 x0.2.2.1), ci x0.2.2.2.1, ci x0.2.2.2.2.1, ci x0.2.2.2.2.2.1]), (1, .var [.cell (.nilsl), ci 0, .cell (.nilsl), ci 0, ci 0, ci 0])] ?_ (fun k205 => ?_)
  refine ap_all [0, 6, 8] (by kernel_rfl) ⟨?_, ?_, ?_, trivial⟩
  refine apo_ao rfl ?_
  refine ao_r (r_load_part (τ := ty1) (y := ((x0.1, (x0.2.1, (x0.2.2.1, (x0.2.2.2.1, (x0.2.2.2.2.1, (x0.2.2.2.2.2.1, ())))))) : dy3)) [] [] rfl Try.isAgg29 Try.sizeOf29 rfl rfl rfl rfl) rfl ?_
  refine ap_ni ?_
  exact ap_gr (rn [(0, 1), (1, 0)]) (nk rfl) k175 (by kernel_rfl)
  refine apo_ao rfl ?_
  refine ao_call [] 2 trivial (c_spec_l2Own (is_mk r153h)) Try.func68 rfl rfl rfl rfl ⟨ad_ren rfl, trivial⟩ trivial rfl rfl rfl rfl rfl rfl rfl (fun r' H' hr => ?_)
  obtain ⟨rfl, rfl⟩ := hr
  refine ao_norm (y := .os 2) (H' := [(0, .var [.cell (.v ty5 x0.1), ci x0.2.1, .cell (.v ty7 x0.2.2.1), ci x0.2.2.2.1, ci x0.2.2.2.2.1, ci x0.2.2.2.2.2.1]), (1, .var [.cell (.nilsl), ci 0, .cell (.nilsl), ci 0, ci 0, ci 0]), (2, .row ty8 r153)]) rfl rfl ?_
  refine row_len_o 2 (r153.length : Int) rfl rfl (fun hr154 => ?_)
  refine ap_ni ?_
  exact ap_gr idn (nk rfl) k201 (by kernel_rfl)
  refine apo_ao rfl ?_
  refine ao_r (r_load_cell Try.isAgg22 rfl rfl rfl) rfl ?_
  refine ap_ni ?_
  exact ap_gr idn (nk rfl) k203 (by kernel_rfl)
  refine ap_let (g := 8) (listed := #[false, true, true, true, true, false, false, true, true, true, true, true, false, false, false, false, false]) [(2, .ref 0 0), (4, .ref 1 0), (5, .bool false), (143, .v ty5 x0.1), (145, .int .i64 x1.2.1), (149, .v ty5 x0.1), (152, .int .i64 (IntKind.wrap .i64 (x1.2.1 + 1)))] [(0, .var [.cell (.v ty5 x0.1), ci x0.2.1, .cell (.v ty7 x0.2.2.1), ci x0.2.2.2.1, ci x0.2.2.2.2.1, ci x0.2.2.2.2.2.1]), (1, .var [.cell (.nilsl), ci 0, .cell (.nilsl), ci 0, ci 0, ci 0])] ?_ (fun k207 => ?_)
  refine ap_all [0, 5, 12] (by kernel_rfl) ⟨?_, ?_, ?_, trivial⟩
  refine apo_ao rfl ?_
  refine ao_r (r_load_part (τ := ty1) (y := ((x0.1, (x0.2.1, (x0.2.2.1, (x0.2.2.2.1, (x0.2.2.2.2.1, (x0.2.2.2.2.2.1, ())))))) : dy3)) [] [] rfl Try.isAgg29 Try.sizeOf29 rfl rfl rfl rfl) rfl ?_
  refine ap_ni ?_
  exact ap_gr (rn [(0, 1)]) (nk rfl) k177 (by kernel_rfl)
  refine apo_ao rfl ?_
  refine ao_r (r_slice_vm (t := ty8) ((x0.1.take x1.2.1.toNat) : dy10) Try.underlying22 Try.sizeOf76 rfl .none (.some rfl) (show 0 ≤ 0 from by omega) (show 0 ≤ x1.2.1 from by omega) (show x1.2.1 ≤ (x0.1.length : Int) from by omega) rfl) rfl ?_
  refine ap_ni ?_
  exact ap_gr idn (nk rfl) k203 (by kernel_rfl)
  refine apo_ao rfl ?_
  refine ao_r (r_slice_vm (t := ty8) ((x0.1.drop (IntKind.wrap .i64 (x1.2.1 + 1)).toNat) : dy10) Try.underlying22 Try.sizeOf76 rfl (.some rfl) .none (show 0 ≤ (IntKind.wrap .i64 (x1.2.1 + 1)) from by omega) (show (IntKind.wrap .i64 (x1.2.1 + 1)) ≤ (x0.1.length : Int) from by omega) (show (x0.1.length : Int) ≤ (x0.1.length : Int) from by omega) sl_hi) rfl ?_
  refine ap_ni ?_
  exact ap_gr idn (nk rfl) k208 (by kernel_rfl)
  refine ap_let (g := 8) (listed := #[false, true, true, true, false, false, false, true, true, true, true, true, true, false, false, false, false]) [(2, .ref 0 0), (4, .ref 1 0), (5, .bool false), (143, .v ty5 x0.1), (144, .ref 2 1), (153, .v ty5 ((x0.1.drop (IntKind.wrap .i64 (x1.2.1 + 1)).toNat) : dy10))] [(0, .var [.cell (.v ty5 x0.1), ci x0.2.1, .cell (.v ty7 x0.2.2.1), ci x0.2.2.2.1, ci x0.2.2.2.2.1, ci x0.2.2.2.2.2.1]), (1, .var [.cell (.nilsl), ci 0, .cell (.nilsl), ci 0, ci 0, ci 0]), (2, .var [ci x1.1, ci x1.2.1, ci x1.2.2.1])] ?_ (fun k212 => ?_)
  refine ap_all [0, 4] (by kernel_rfl) ⟨?_, ?_, trivial⟩
  refine apo_ao rfl ?_
  refine ao_r (r_load_part (τ := ty1) (y := ((x0.1, (x0.2.1, (x0.2.2.1, (x0.2.2.2.1, (x0.2.2.2.2.1, (x0.2.2.2.2.2.1, ())))))) : dy3)) [] [] rfl Try.isAgg29 Try.sizeOf29 rfl rfl rfl rfl) rfl ?_
  refine ap_ni ?_
  exact ap_gr (rn [(0, 1), (1, 2)]) (nk rfl) k182 (by kernel_rfl)
  refine apo_ao rfl ?_
  refine ao_r (r_load_cell Try.isAgg3 rfl rfl rfl) rfl ?_
  refine ap_ni ?_
  exact ap_gr idn (nk rfl) k208 (by kernel_rfl)
  refine ap_let (g := 8) (listed := #[false, true, false, true, true, false, false, true, true, true, true, true, true, false, false, false, false]) [(2, .ref 0 0), (4, .ref 1 0), (5, .bool false), (142, .ref 0 0), (145, .int .i64 x1.2.1), (153, .v ty5 ((x0.1.drop (IntKind.wrap .i64 (x1.2.1 + 1)).toNat) : dy10))] [(0, .var [.cell (.v ty5 x0.1), ci x0.2.1, .cell (.v ty7 x0.2.2.1), ci x0.2.2.2.1, ci x0.2.2.2.2.1, ci x0.2.2.2.2.2.1]), (1, .var [.cell (.nilsl), ci 0, .cell (.nilsl), ci 0, ci 0, ci 0])] ?_ (fun k217 => ?_)
  refine ap_all [0, 2] (by kernel_rfl) ⟨?_, ?_, trivial⟩
  refine apo_ao rfl ?_
  refine ao_r (r_load_part (τ := ty1) (y := ((x0.1, (x0.2.1, (x0.2.2.1, (x0.2.2.2.1, (x0.2.2.2.2.1, (x0.2.2.2.2.2.1, ())))))) : dy3)) [] [] rfl Try.isAgg29 Try.sizeOf29 rfl rfl rfl rfl) rfl ?_
  refine ap_ni ?_
  exact ap_gr (rn [(0, 1), (1, 0)]) (nk rfl) k187 (by kernel_rfl)
  refine apo_ao rfl ?_
  refine ao_r (r_load_cell Try.isAgg22 rfl rfl rfl) rfl ?_
  refine ap_ni ?_
  exact ap_gr idn (nk rfl) k208 (by kernel_rfl)
  refine ap_let (g := 9) (listed := #[true, true, true, true, true, true, false, true, false, true, false, false, false, false, false, false, false]) [(4, .ref 0 0), (5, .bool false), (141, .v ty1 ((x0.1, (x0.2.1, (x0.2.2.1, (x0.2.2.2.1, (x0.2.2.2.2.1, (x0.2.2.2.2.2.1, ())))))) : dy3)), (146, .v ty5 ((x0.1.take x1.2.1.toNat) : dy10)), (148, .ref 1 0), (150, .ref 2 1)] [(0, .var [.cell (.nilsl), ci 0, .cell (.nilsl), ci 0, ci 0, ci 0]), (1, .var [.cell (.v ty5 x0.1), ci x0.2.1, .cell (.v ty7 x0.2.2.1), ci x0.2.2.2.1, ci x0.2.2.2.2.1, ci x0.2.2.2.2.2.1]), (2, .var [ci x1.1, ci x1.2.1, ci x1.2.2.1])] ?_ (fun k164 => ?_)
  refine ap_all [6, 8, 10] (by kernel_rfl) ⟨?_, ?_, ?_, trivial⟩
  refine apo_ao rfl ?_
  refine ao_call [] 3 trivial (c_spec_l2Own (is_mk r153h)) Try.func68 rfl rfl rfl rfl ⟨ad_ren rfl, trivial⟩ trivial rfl rfl rfl rfl rfl rfl rfl (fun r' H' hr => ?_)
  obtain ⟨rfl, rfl⟩ := hr
  refine ao_norm (y := .os 3) (H' := [(0, .var [.cell (.nilsl), ci 0, .cell (.nilsl), ci 0, ci 0, ci 0]), (1, .var [.cell (.v ty5 x0.1), ci x0.2.1, .cell (.v ty7 x0.2.2.1), ci x0.2.2.2.1, ci x0.2.2.2.2.1, ci x0.2.2.2.2.2.1]), (2, .var [ci x1.1, ci x1.2.1, ci x1.2.2.1]), (3, .row ty8 r153)]) rfl rfl ?_
  refine row_len_o 3 (r153.length : Int) rfl rfl (fun hr154 => ?_)
  refine ap_ni ?_
  exact ap_gr (rn [(1, 3), (2, 1), (3, 2)]) (nk rfl) k165 (by kernel_rfl)
  refine apo_ao rfl ?_
  refine ao_r (r_load_cell Try.isAgg22 rfl rfl rfl) rfl ?_
  refine ap_ni ?_
  exact ap_gr (rn [(1, 2)]) (nk rfl) k172 (by kernel_rfl)
  refine apo_ao rfl ?_
  refine ao_r (r_load_cell Try.isAgg3 rfl rfl rfl) rfl ?_
  refine ap_ni ?_
  refine ap_p 11 (fun _ _ _ h => h) rfl (by kernel_rfl) (rp_add rfl rfl) rfl ?_
  exact ap_gr idn (nk rfl) k175 (by kernel_rfl)
  refine ap_let (g := 9) (listed := #[true, true, true, true, true, false, false, true, true, true, false, false, false, false, false, false, false]) [(4, .ref 0 0), (5, .bool false), (141, .v ty1 ((x0.1, (x0.2.1, (x0.2.2.1, (x0.2.2.2.1, (x0.2.2.2.2.1, (x0.2.2.2.2.2.1, ())))))) : dy3)), (143, .v ty5 x0.1), (145, .int .i64 x1.2.1), (149, .v ty5 x0.1), (150, .ref 1 1)] [(0, .var [.cell (.nilsl), ci 0, .cell (.nilsl), ci 0, ci 0, ci 0]), (1, .var [ci x1.1, ci x1.2.1, ci x1.2.2.1])] ?_ (fun k176 => ?_)
  refine ap_all [5, 10] (by kernel_rfl) ⟨?_, ?_, trivial⟩
  refine apo_ao rfl ?_
  refine ao_r (r_slice_vm (t := ty8) ((x0.1.take x1.2.1.toNat) : dy10) Try.underlying22 Try.sizeOf76 rfl .none (.some rfl) (show 0 ≤ 0 from by omega) (show 0 ≤ x1.2.1 from by omega) (show x1.2.1 ≤ (x0.1.length : Int) from by omega) rfl) rfl ?_
  refine ap_ni ?_
  exact ap_gr idn (nk rfl) k172 (by kernel_rfl)
  refine apo_ao rfl ?_
  refine ao_r (r_load_cell Try.isAgg3 rfl rfl rfl) rfl ?_
  refine ap_ni ?_
  refine ap_p 11 (fun _ _ _ h => h) rfl (by kernel_rfl) (rp_add rfl rfl) rfl ?_
  exact ap_gr idn (nk rfl) k177 (by kernel_rfl)
  refine ap_let (g := 9) (listed := #[true, true, true, true, false, false, false, true, false, true, true, true, false, false, false, false, false]) [(4, .ref 0 0), (5, .bool false), (141, .v ty1 ((x0.1, (x0.2.1, (x0.2.2.1, (x0.2.2.2.1, (x0.2.2.2.2.1, (x0.2.2.2.2.2.1, ())))))) : dy3)), (143, .v ty5 x0.1), (144, .ref 1 1), (148, .ref 2 0), (152, .int .i64 (IntKind.wrap .i64 (x1.2.1 + 1)))] [(0, .var [.cell (.nilsl), ci 0, .cell (.nilsl), ci 0, ci 0, ci 0]), (1, .var [ci x1.1, ci x1.2.1, ci x1.2.2.1]), (2, .var [.cell (.v ty5 x0.1), ci x0.2.1, .cell (.v ty7 x0.2.2.1), ci x0.2.2.2.1, ci x0.2.2.2.2.1, ci x0.2.2.2.2.2.1])] ?_ (fun k183 => ?_)
  refine ap_all [4, 8] (by kernel_rfl) ⟨?_, ?_, trivial⟩
  refine apo_ao rfl ?_
  refine ao_r (r_load_cell Try.isAgg3 rfl rfl rfl) rfl ?_
  refine ap_ni ?_
  exact ap_gr (rn [(1, 2)]) (nk rfl) k179 (by kernel_rfl)
  refine apo_ao rfl ?_
  refine ao_r (r_load_cell Try.isAgg22 rfl rfl rfl) rfl ?_
  refine ap_ni ?_
  exact ap_gr idn (nk rfl) k181 (by kernel_rfl)
  refine ap_let (g := 9) (listed := #[true, true, false, true, true, false, false, true, false, true, true, true, false, false, false, false, false]) [(4, .ref 0 0), (5, .bool false), (141, .v ty1 ((x0.1, (x0.2.1, (x0.2.2.1, (x0.2.2.2.1, (x0.2.2.2.2.1, (x0.2.2.2.2.2.1, ())))))) : dy3)), (142, .ref 1 0), (145, .int .i64 x1.2.1), (148, .ref 1 0), (152, .int .i64 (IntKind.wrap .i64 (x1.2.1 + 1)))] [(0, .var [.cell (.nilsl), ci 0, .cell (.nilsl), ci 0, ci 0, ci 0]), (1, .var [.cell (.v ty5 x0.1), ci x0.2.1, .cell (.v ty7 x0.2.2.1), ci x0.2.2.2.1, ci x0.2.2.2.2.1, ci x0.2.2.2.2.2.1])] ?_ (fun k188 => ?_)
  refine ap_all [2, 8] (by kernel_rfl) ⟨?_, ?_, trivial⟩
  refine apo_ao rfl ?_
  refine ao_r (r_load_cell Try.isAgg22 rfl rfl rfl) rfl ?_
  refine ap_ni ?_
  exact ap_gr idn (nk rfl) k179 (by kernel_rfl)
  refine apo_ao rfl ?_
  refine ao_r (r_load_cell Try.isAgg22 rfl rfl rfl) rfl ?_
  refine ap_ni ?_
  exact ap_gr idn (nk rfl) k186 (by kernel_rfl)
  refine ap_let (g := 9) (listed := #[true, true, false, true, false, false, false, true, true, true, true, true, false, false, false, false, false]) [(4, .ref 0 0), (5, .bool false), (141, .v ty1 ((x0.1, (x0.2.1, (x0.2.2.1, (x0.2.2.2.1, (x0.2.2.2.2.1, (x0.2.2.2.2.2.1, ())))))) : dy3)), (142, .ref 1 0), (144, .ref 2 1), (149, .v ty5 x0.1), (152, .int .i64 (IntKind.wrap .i64 (x1.2.1 + 1)))] [(0, .var [.cell (.nilsl), ci 0, .cell (.nilsl), ci 0, ci 0, ci 0]), (1, .var [.cell (.v ty5 x0.1), ci x0.2.1, .cell (.v ty7 x0.2.2.1), ci x0.2.2.2.1, ci x0.2.2.2.2.1, ci x0.2.2.2.2.2.1]), (2, .var [ci x1.1, ci x1.2.1, ci x1.2.2.1])] ?_ (fun k190 => ?_)
  refine ap_all [2, 4, 12] (by kernel_rfl) ⟨?_, ?_, ?_, trivial⟩
  refine apo_ao rfl ?_
  refine ao_r (r_load_cell Try.isAgg22 rfl rfl rfl) rfl ?_
  refine ap_ni ?_
  exact ap_gr (rn [(1, 2)]) (nk rfl) k181 (by kernel_rfl)
  refine apo_ao rfl ?_
  refine ao_r (r_load_cell Try.isAgg3 rfl rfl rfl) rfl ?_
  refine ap_ni ?_
  exact ap_gr idn (nk rfl) k186 (by kernel_rfl)
  refine apo_ao rfl ?_
  refine ao_r (r_slice_vm (t := ty8) ((x0.1.drop (IntKind.wrap .i64 (x1.2.1 + 1)).toNat) : dy10) Try.underlying22 Try.sizeOf76 rfl (.some rfl) .none (show 0 ≤ (IntKind.wrap .i64 (x1.2.1 + 1)) from by omega) (show (IntKind.wrap .i64 (x1.2.1 + 1)) ≤ (x0.1.length : Int) from by omega) (show (x0.1.length : Int) ≤ (x0.1.length : Int) from by omega) sl_hi) rfl ?_
  refine ap_ni ?_
  exact ap_gr idn (nk rfl) k191 (by kernel_rfl)
  refine ap_let (g := 9) (listed := #[false, true, true, true, true, true, true, true, false, true, false, false, false, false, false, false, false]) [(2, .ref 0 0), (4, .ref 1 0), (5, .bool false), (147, .os 2), (148, .ref 0 0), (150, .ref 3 1)] [(0, .var [.cell (.v ty5 x0.1), ci x0.2.1, .cell (.v ty7 x0.2.2.1), ci x0.2.2.2.1, ci x0.2.2.2.2.1, ci x0.2.2.2.2.2.1]), (1, .var [.cell (.nilsl), ci 0, .cell (.nilsl), ci 0, ci 0, ci 0]), (2, .row ty8 r153), (3, .var [ci x1.1, ci x1.2.1, ci x1.2.2.1])] ?_ (fun k196 => ?_)
  refine ap_all [0, 8, 10] (by kernel_rfl) ⟨?_, ?_, ?_, trivial⟩
  refine apo_ao rfl ?_
  refine ao_r (r_load_part (τ := ty1) (y := ((x0.1, (x0.2.1, (x0.2.2.1, (x0.2.2.2.1, (x0.2.2.2.2.1, (x0.2.2.2.2.2.1, ())))))) : dy3)) [] [] rfl Try.isAgg29 Try.sizeOf29 rfl rfl rfl rfl) rfl ?_
  refine ap_ni ?_
  exact ap_gr (rn [(0, 1), (1, 2), (2, 0)]) (nk rfl) k165 (by kernel_rfl)
  refine apo_ao rfl ?_
  refine ao_r (r_load_cell Try.isAgg22 rfl rfl rfl) rfl ?_
  refine ap_ni ?_
  exact ap_gr idn (nk rfl) k197 (by kernel_rfl)
  refine apo_ao rfl ?_
  refine ao_r (r_load_cell Try.isAgg3 rfl rfl rfl) rfl ?_
  refine ap_ni ?_
  refine ap_p 11 (fun _ _ _ h => h) rfl (by kernel_rfl) (rp_add rfl rfl) rfl ?_
  exact ap_gr idn (nk rfl) k201 (by kernel_rfl)
  refine ap_let (g := 9) (listed := #[false, true, true, true, true, true, false, true, true, true, false, false, false, false, false, false, false]) [(2, .ref 0 0), (4, .ref 1 0), (5, .bool false), (146, .v ty5 ((x0.1.take x1.2.1.toNat) : dy10)), (149, .v ty5 x0.1), (150, .ref 2 1)] [(0, .var [.cell (.v ty5 x0.1), ci x0.2.1, .cell (.v ty7 x0.2.2.1), ci x0.2.2.2.1, ci x0.2.2.2.2.1, ci x0.2.2.2.2.2.1]), (1, .var [.cell (.nilsl), ci 0, .cell (.nilsl), ci 0, ci 0, ci 0]), (2, .var [ci x1.1, ci x1.2.1, ci x1.2.2.1])] ?_ (fun k202 => ?_)
  refine ap_all [0, 6, 10] (by kernel_rfl) ⟨?_, ?_, ?_, trivial⟩
  refine apo_ao rfl ?_
  refine ao_r (r_load_part (τ := ty1) (y := ((x0.1, (x0.2.1, (x0.2.2.1, (x0.2.2.2.1, (x0.2.2.2.2.1, (x0.2.2.2.2.2.1, ())))))) : dy3)) [] [] rfl Try.isAgg29 Try.sizeOf29 rfl rfl rfl rfl) rfl ?_
  refine ap_ni ?_
  exact ap_gr (rn [(0, 1), (1, 2)]) (nk rfl) k172 (by kernel_rfl)
  refine apo_ao rfl ?_
  refine ao_call [] 3 trivial (c_spec_l2Own (is_mk r153h)) Try.func68 rfl rfl rfl rfl ⟨ad_ren rfl, trivial⟩ trivial rfl rfl rfl rfl rfl rfl rfl (fun r' H' hr => ?_)
  obtain ⟨rfl, rfl⟩ := hr
  refine ao_norm (y := .os 3) (H' := [(0, .var [.cell (.v ty5 x0.1), ci x0.2.1, .cell (.v ty7 x0.2.2.1), ci x0.2.2.2.1, ci x0.2.2.2.2.1, ci x0.2.2.2.2.2.1]), (1, .var [.cell (.nilsl), ci 0, .cell (.nilsl), ci 0, ci 0, ci 0]), (2, .var [ci x1.1, ci x1.2.1, ci x1.2.2.1]), (3, .row ty8 r153)]) rfl rfl ?_
  refine row_len_o 3 (r153.length : Int) rfl rfl (fun hr154 => ?_)
  refine ap_ni ?_
  exact ap_gr (rn [(2, 3), (3, 2)]) (nk rfl) k197 (by kernel_rfl)
  refine apo_ao rfl ?_
  refine ao_r (r_load_cell Try.isAgg3 rfl rfl rfl) rfl ?_
  refine ap_ni ?_
  refine ap_p 11 (fun _ _ _ h => h) rfl (by kernel_rfl) (rp_add rfl rfl) rfl ?_
  exact ap_gr idn (nk rfl) k203 (by kernel_rfl)
  refine ap_let (g := 9) (listed := #[false, true, true, true, true, false, false, true, false, true, true, true, false, false, false, false, false]) [(2, .ref 0 0), (4, .ref 1 0), (5, .bool false), (143, .v ty5 x0.1), (145, .int .i64 x1.2.1), (148, .ref 0 0), (152, .int .i64 (IntKind.wrap .i64 (x1.2.1 + 1)))] [(0, .var [.cell (.v ty5 x0.1), ci x0.2.1, .cell (.v ty7 x0.2.2.1), ci x0.2.2.2.1, ci x0.2.2.2.2.1, ci x0.2.2.2.2.2.1]), (1, .var [.cell (.nilsl), ci 0, .cell (.nilsl), ci 0, ci 0, ci 0])] ?_ (fun k209 => ?_)
  refine ap_all [0, 5, 8] (by kernel_rfl) ⟨?_, ?_, ?_, trivial⟩
  refine apo_ao rfl ?_
  refine ao_r (r_load_part (τ := ty1) (y := ((x0.1, (x0.2.1, (x0.2.2.1, (x0.2.2.2.1, (x0.2.2.2.2.1, (x0.2.2.2.2.2.1, ())))))) : dy3)) [] [] rfl Try.isAgg29 Try.sizeOf29 rfl rfl rfl rfl) rfl ?_
  refine ap_ni ?_
  exact ap_gr (rn [(0, 1), (1, 0)]) (nk rfl) k179 (by kernel_rfl)
  refine apo_ao rfl ?_
  refine ao_r (r_slice_vm (t := ty8) ((x0.1.take x1.2.1.toNat) : dy10) Try.underlying22 Try.sizeOf76 rfl .none (.some rfl) (show 0 ≤ 0 from by omega) (show 0 ≤ x1.2.1 from by omega) (show x1.2.1 ≤ (x0.1.length : Int) from by omega) rfl) rfl ?_
  refine ap_ni ?_
  exact ap_gr idn (nk rfl) k205 (by kernel_rfl)
  refine apo_ao rfl ?_
  refine ao_r (r_load_cell Try.isAgg22 rfl rfl rfl) rfl ?_
  refine ap_ni ?_
  exact ap_gr idn (nk rfl) k207 (by kernel_rfl)
  refine ap_let (g := 9) (listed := #[false, true, true, true, false, false, false, true, true, true, true, true, false, false, false, false, false]) [(2, .ref 0 0), (4, .ref 1 0), (5, .bool false), (143, .v ty5 x0.1), (144, .ref 2 1), (149, .v ty5 x0.1), (152, .int .i64 (IntKind.wrap .i64 (x1.2.1 + 1)))] [(0, .var [.cell (.v ty5 x0.1), ci x0.2.1, .cell (.v ty7 x0.2.2.1), ci x0.2.2.2.1, ci x0.2.2.2.2.1, ci x0.2.2.2.2.2.1]), (1, .var [.cell (.nilsl), ci 0, .cell (.nilsl), ci 0, ci 0, ci 0]), (2, .var [ci x1.1, ci x1.2.1, ci x1.2.2.1])] ?_ (fun k211 => ?_)
  refine ap_all [0, 4, 12] (by kernel_rfl) ⟨?_, ?_, ?_, trivial⟩
  refine apo_ao rfl ?_
  refine ao_r (r_load_part (τ := ty1) (y := ((x0.1, (x0.2.1, (x0.2.2.1, (x0.2.2.2.1, (x0.2.2.2.2.1, (x0.2.2.2.2.2.1, ())))))) : dy3)) [] [] rfl Try.isAgg29 Try.sizeOf29 rfl rfl rfl rfl) rfl ?_
  refine ap_ni ?_
  exact ap_gr (rn [(0, 1), (1, 2)]) (nk rfl) k181 (by kernel_rfl)
  refine apo_ao rfl ?_
  refine ao_r (r_load_cell Try.isAgg3 rfl rfl rfl) rfl ?_
  refine ap_ni ?_
  exact ap_gr idn (nk rfl) k207 (by kernel_rfl)
  refine apo_ao rfl ?_
  refine ao_r (r_slice_vm (t := ty8) ((x0.1.drop (IntKind.wrap .i64 (x1.2.1 + 1)).toNat) : dy10) Try.underlying22 Try.sizeOf76 rfl (.some rfl) .none (show 0 ≤ (IntKind.wrap .i64 (x1.2.1 + 1)) from by omega) (show (IntKind.wrap .i64 (x1.2.1 + 1)) ≤ (x0.1.length : Int) from by omega) (show (x0.1.length : Int) ≤ (x0.1.length : Int) from by omega) sl_hi) rfl ?_
  refine ap_ni ?_
  exact ap_gr idn (nk rfl) k212 (by kernel_rfl)
  refine ap_let (g := 9) (listed := #[false, true, false, true, true, false, false, true, true, true, true, true, false, false, false, false, false]) [(2, .ref 0 0), (4, .ref 1 0), (5, .bool false), (142, .ref 0 0), (145, .int .i64 x1.2.1), (149, .v ty5 x0.1), (152, .int .i64 (IntKind.wrap .i64 (x1.2.1 + 1)))] [(0, .var [.cell (.v ty5 x0.1), ci x0.2.1, .cell (.v ty7 x0.2.2.1), ci x0.2.2.2.1, ci x0.2.2.2.2.1, ci x0.2.2.2.2.2.1]), (1, .var [.cell (.nilsl), ci 0, .cell (.nilsl), ci 0, ci 0, ci 0])] ?_ (fun k216 => ?_)
  refine ap_all [0, 2, 12] (by kernel_rfl) ⟨?_, ?_, ?_, trivial⟩
  refine apo_ao rfl ?_
  refine ao_r (r_load_part (τ := ty1) (y := ((x0.1, (x0.2.1, (x0.2.2.1, (x0.2.2.2.1, (x0.2.2.2.2.1, (x0.2.2.2.2.2.1, ())))))) : dy3)) [] [] rfl Try.isAgg29 Try.sizeOf29 rfl rfl rfl rfl) rfl ?_
  refine ap_ni ?_
  exact ap_gr (rn [(0, 1), (1, 0)]) (nk rfl) k186 (by kernel_rfl)
  refine apo_ao rfl ?_
  refine ao_r (r_load_cell Try.isAgg22 rfl rfl rfl) rfl ?_
  refine ap_ni ?_
  exact ap_gr idn (nk rfl) k207 (by kernel_rfl)
  refine apo_ao rfl ?_
  refine ao_r (r_slice_vm (t := ty8) ((x0.1.drop (IntKind.wrap .i64 (x1.2.1 + 1)).toNat) : dy10) Try.underlying22 Try.sizeOf76 rfl (.some rfl) .none (show 0 ≤ (IntKind.wrap .i64 (x1.2.1 + 1)) from by omega) (show (IntKind.wrap .i64 (x1.2.1 + 1)) ≤ (x0.1.length : Int) from by omega) (show (x0.1.length : Int) ≤ (x0.1.length : Int) from by omega) sl_hi) rfl ?_
  refine ap_ni ?_
  exact ap_gr idn (nk rfl) k217 (by kernel_rfl)
  refine ap_let (g := 9) (listed := #[false, true, false, true, false, false, false, true, true, true, true, true, true, false, false, false, false]) [(2, .ref 0 0), (4, .ref 1 0), (5, .bool false), (142, .ref 0 0), (144, .ref 2 1), (153, .v ty5 ((x0.1.drop (IntKind.wrap .i64 (x1.2.1 + 1)).toNat) : dy10))] [(0, .var [.cell (.v ty5 x0.1), ci x0.2.1, .cell (.v ty7 x0.2.2.1), ci x0.2.2.2.1, ci x0.2.2.2.2.1, ci x0.2.2.2.2.2.1]), (1, .var [.cell (.nilsl), ci 0, .cell (.nilsl), ci 0, ci 0, ci 0]), (2, .var [ci x1.1, ci x1.2.1, ci x1.2.2.1])] ?_ (fun k221 => ?_)
  refine ap_all [0, 2, 4] (by kernel_rfl) ⟨?_, ?_, ?_, trivial⟩
  refine apo_ao rfl ?_
  refine ao_r (r_load_part (τ := ty1) (y := ((x0.1, (x0.2.1, (x0.2.2.1, (x0.2.2.2.1, (x0.2.2.2.2.1, (x0.2.2.2.2.2.1, ())))))) : dy3)) [] [] rfl Try.isAgg29 Try.sizeOf29 rfl rfl rfl rfl) rfl ?_
  refine ap_ni ?_
  exact ap_gr (rn [(0, 1), (1, 0)]) (nk rfl) k191 (by kernel_rfl)
  refine apo_ao rfl ?_
  refine ao_r (r_load_cell Try.isAgg22 rfl rfl rfl) rfl ?_
  refine ap_ni ?_
  exact ap_gr idn (nk rfl) k212 (by kernel_rfl)
  refine apo_ao rfl ?_
  refine ao_r (r_load_cell Try.isAgg3 rfl rfl rfl) rfl ?_
  refine ap_ni ?_
  exact ap_gr idn (nk rfl) k217 (by kernel_rfl)
  refine ap_let (g := 10) (listed := #[true, true, true, true, true, false, false, true, false, true, false, false, false, false, false, false, false]) [(4, .ref 0 0), (5, .bool false), (141, .v ty1 ((x0.1, (x0.2.1, (x0.2.2.1, (x0.2.2.2.1, (x0.2.2.2.2.1, (x0.2.2.2.2.2.1, ())))))) : dy3)), (143, .v ty5 x0.1), (145, .int .i64 x1.2.1), (148, .ref 1 0), (150, .ref 2 1)] [(0, .var [.cell (.nilsl), ci 0, .cell (.nilsl), ci 0, ci 0, ci 0]), (1, .var [.cell (.v ty5 x0.1), ci x0.2.1, .cell (.v ty7 x0.2.2.1), ci x0.2.2.2.1, ci x0.2.2.2.2.1, ci x0.2.2.2.2.2.1]), (2, .var [ci x1.1, ci x1.2.1, ci x1.2.2.1])] ?_ (fun k163 => ?_)
  refine ap_all [5, 8, 10] (by kernel_rfl) ⟨?_, ?_, ?_, trivial⟩
  refine apo_ao rfl ?_
  refine ao_r (r_slice_vm (t := ty8) ((x0.1.take x1.2.1.toNat) : dy10) Try.underlying22 Try.sizeOf76 rfl .none (.some rfl) (show 0 ≤ 0 from by omega) (show 0 ≤ x1.2.1 from by omega) (show x1.2.1 ≤ (x0.1.length : Int) from by omega) rfl) rfl ?_
  refine ap_ni ?_
  exact ap_gr idn (nk rfl) k164 (by kernel_rfl)
  refine apo_ao rfl ?_
  refine ao_r (r_load_cell Try.isAgg22 rfl rfl rfl) rfl ?_
  refine ap_ni ?_
  exact ap_gr (rn [(1, 2)]) (nk rfl) k176 (by kernel_rfl)
  refine apo_ao rfl ?_
  refine ao_r (r_load_cell Try.isAgg3 rfl rfl rfl) rfl ?_
  refine ap_ni ?_
  refine ap_p 11 (fun _ _ _ h => h) rfl (by kernel_rfl) (rp_add rfl rfl) rfl ?_
  exact ap_gr idn (nk rfl) k179 (by kernel_rfl)
  refine ap_let (g := 10) (listed := #[true, true, true, true, false, false, false, true, true, true, false, false, false, false, false, false, false]) [(4, .ref 0 0), (5, .bool false), (141, .v ty1 ((x0.1, (x0.2.1, (x0.2.2.1, (x0.2.2.2.1, (x0.2.2.2.2.1, (x0.2.2.2.2.2.1, ())))))) : dy3)), (143, .v ty5 x0.1), (144, .ref 1 1), (149, .v ty5 x0.1), (150, .ref 1 1)] [(0, .var [.cell (.nilsl), ci 0, .cell (.nilsl), ci 0, ci 0, ci 0]), (1, .var [ci x1.1, ci x1.2.1, ci x1.2.2.1])] ?_ (fun k180 => ?_)
  refine ap_all [4, 10] (by kernel_rfl) ⟨?_, ?_, trivial⟩
  refine apo_ao rfl ?_
  refine ao_r (r_load_cell Try.isAgg3 rfl rfl rfl) rfl ?_
  refine ap_ni ?_
  exact ap_gr idn (nk rfl) k176 (by kernel_rfl)
  refine apo_ao rfl ?_
  refine ao_r (r_load_cell Try.isAgg3 rfl rfl rfl) rfl ?_
  refine ap_ni ?_
  refine ap_p 11 (fun _ _ _ h => h) rfl (by kernel_rfl) (rp_add rfl rfl) rfl ?_
  exact ap_gr idn (nk rfl) k181 (by kernel_rfl)
  refine ap_let (g := 10) (listed := #[true, true, false, true, true, false, false, true, true, true, false, false, false, false, false, false, false]) [(4, .ref 0 0), (5, .bool false), (141, .v ty1 ((x0.1, (x0.2.1, (x0.2.2.1, (x0.2.2.2.1, (x0.2.2.2.2.1, (x0.2.2.2.2.2.1, ())))))) : dy3)), (142, .ref 1 0), (145, .int .i64 x1.2.1), (149, .v ty5 x0.1), (150, .ref 2 1)] [(0, .var [.cell (.nilsl), ci 0, .cell (.nilsl), ci 0, ci 0, ci 0]), (1, .var [.cell (.v ty5 x0.1), ci x0.2.1, .cell (.v ty7 x0.2.2.1), ci x0.2.2.2.1, ci x0.2.2.2.2.1, ci x0.2.2.2.2.2.1]), (2, .var [ci x1.1, ci x1.2.1, ci x1.2.2.1])] ?_ (fun k185 => ?_)
  refine ap_all [2, 10] (by kernel_rfl) ⟨?_, ?_, trivial⟩
  refine apo_ao rfl ?_
  refine ao_r (r_load_cell Try.isAgg22 rfl rfl rfl) rfl ?_
  refine ap_ni ?_
  exact ap_gr (rn [(1, 2)]) (nk rfl) k176 (by kernel_rfl)
  refine apo_ao rfl ?_
  refine ao_r (r_load_cell Try.isAgg3 rfl rfl rfl) rfl ?_
  refine ap_ni ?_
  refine ap_p 11 (fun _ _ _ h => h) rfl (by kernel_rfl) (rp_add rfl rfl) rfl ?_
  exact ap_gr idn (nk rfl) k186 (by kernel_rfl)
  refine ap_let (g := 10) (listed := #[true, true, false, true, false, false, false, true, false, true, true, true, false, false, false, false, false]) [(4, .ref 0 0), (5, .bool false), (141, .v ty1 ((x0.1, (x0.2.1, (x0.2.2.1, (x0.2.2.2.1, (x0.2.2.2.2.1, (x0.2.2.2.2.2.1, ())))))) : dy3)), (142, .ref 1 0), (144, .ref 2 1), (148, .ref 1 0), (152, .int .i64 (IntKind.wrap .i64 (x1.2.1 + 1)))] [(0, .var [.cell (.nilsl), ci 0, .cell (.nilsl), ci 0, ci 0, ci 0]), (1, .var [.cell (.v ty5 x0.1), ci x0.2.1, .cell (.v ty7 x0.2.2.1), ci x0.2.2.2.1, ci x0.2.2.2.2.1, ci x0.2.2.2.2.2.1]), (2, .var [ci x1.1, ci x1.2.1, ci x1.2.2.1])] ?_ (fun k192 => ?_)
  refine ap_all [2, 4, 8] (by kernel_rfl) ⟨?_, ?_, ?_, trivial⟩
  refine apo_ao rfl ?_
  refine ao_r (r_load_cell Try.isAgg22 rfl rfl rfl) rfl ?_
  refine ap_ni ?_
  exact ap_gr (rn [(1, 2), (2, 1)]) (nk rfl) k183 (by kernel_rfl)
  refine apo_ao rfl ?_
  refine ao_r (r_load_cell Try.isAgg3 rfl rfl rfl) rfl ?_
  refine ap_ni ?_
  exact ap_gr idn (nk rfl) k188 (by kernel_rfl)
  refine apo_ao rfl ?_
  refine ao_r (r_load_cell Try.isAgg22 rfl rfl rfl) rfl ?_
  refine ap_ni ?_
  exact ap_gr idn (nk rfl) k190 (by kernel_rfl)
  refine ap_let (g := 10) (listed := #[false, true, true, true, true, true, false, true, false, true, false, false, false, false, false, false, false]) [(2, .ref 0 0), (4, .ref 1 0), (5, .bool false), (146, .v ty5 ((x0.1.take x1.2.1.toNat) : dy10)), (148, .ref 0 0), (150, .ref 2 1)] [(0, .var [.cell (.v ty5 x0.1), ci x0.2.1, .cell (.v ty7 x0.2.2.1), ci x0.2.2.2.1, ci x0.2.2.2.2.1, ci x0.2.2.2.2.2.1]), (1, .var [.cell (.nilsl), ci 0, .cell (.nilsl), ci 0, ci 0, ci 0]), (2, .var [ci x1.1, ci x1.2.1, ci x1.2.2.1])] ?_ (fun k195 => ?_)
  refine ap_all [0, 6, 8, 10] (by kernel_rfl) ⟨?_, ?_, ?_, ?_, trivial⟩
  refine apo_ao rfl ?_
  refine ao_r (r_load_part (τ := ty1) (y := ((x0.1, (x0.2.1, (x0.2.2.1, (x0.2.2.2.1, (x0.2.2.2.2.1, (x0.2.2.2.2.2.1, ())))))) : dy3)) [] [] rfl Try.isAgg29 Try.sizeOf29 rfl rfl rfl rfl) rfl ?_
  refine ap_ni ?_
  exact ap_gr (rn [(0, 1), (1, 0)]) (nk rfl) k164 (by kernel_rfl)
  refine apo_ao rfl ?_
  refine ao_call [] 3 trivial (c_spec_l2Own (is_mk r153h)) Try.func68 rfl rfl rfl rfl ⟨ad_ren rfl, trivial⟩ trivial rfl rfl rfl rfl rfl rfl rfl (fun r' H' hr => ?_)
  obtain ⟨rfl, rfl⟩ := hr
  refine ao_norm (y := .os 3) (H' := [(0, .var [.cell (.v ty5 x0.1), ci x0.2.1, .cell (.v ty7 x0.2.2.1), ci x0.2.2.2.1, ci x0.2.2.2.2.1, ci x0.2.2.2.2.2.1]), (1, .var [.cell (.nilsl), ci 0, .cell (.nilsl), ci 0, ci 0, ci 0]), (2, .var [ci x1.1, ci x1.2.1, ci x1.2.2.1]), (3, .row ty8 r153)]) rfl rfl ?_
  refine row_len_o 3 (r153.length : Int) rfl rfl (fun hr154 => ?_)
  refine ap_ni ?_
  exact ap_gr (rn [(2, 3), (3, 2)]) (nk rfl) k196 (by kernel_rfl)
  refine apo_ao rfl ?_
  refine ao_r (r_load_cell Try.isAgg22 rfl rfl rfl) rfl ?_
  refine ap_ni ?_
  exact ap_gr idn (nk rfl) k202 (by kernel_rfl)
  refine apo_ao rfl ?_
  refine ao_r (r_load_cell Try.isAgg3 rfl rfl rfl) rfl ?_
  refine ap_ni ?_
  refine ap_p 11 (fun _ _ _ h => h) rfl (by kernel_rfl) (rp_add rfl rfl) rfl ?_
  exact ap_gr idn (nk rfl) k205 (by kernel_rfl)
  refine ap_let (g := 10) (listed := #[false, true, true, true, true, false, false, true, true, true, false, false, false, false, false, false, false]) [(2, .ref 0 0), (4, .ref 1 0), (5, .bool false), (143, .v ty5 x0.1), (145, .int .i64 x1.2.1), (149, .v ty5 x0.1), (150, .ref 2 1)] [(0, .var [.cell (.v ty5 x0.1), ci x0.2.1, .cell (.v ty7 x0.2.2.1), ci x0.2.2.2.1, ci x0.2.2.2.2.1, ci x0.2.2.2.2.2.1]), (1, .var [.cell (.nilsl), ci 0, .cell (.nilsl), ci 0, ci 0, ci 0]), (2, .var [ci x1.1, ci x1.2.1, ci x1.2.2.1])] ?_ (fun k206 => ?_)
  refine ap_all [0, 5, 10] (by kernel_rfl) ⟨?_, ?_, ?_, trivial⟩
  refine apo_ao rfl ?_
  refine ao_r (r_load_part (τ := ty1) (y := ((x0.1, (x0.2.1, (x0.2.2.1, (x0.2.2.2.1, (x0.2.2.2.2.1, (x0.2.2.2.2.2.1, ())))))) : dy3)) [] [] rfl Try.isAgg29 Try.sizeOf29 rfl rfl rfl rfl) rfl ?_
  refine ap_ni ?_
  exact ap_gr (rn [(0, 1), (1, 2)]) (nk rfl) k176 (by kernel_rfl)
  refine apo_ao rfl ?_
  refine ao_r (r_slice_vm (t := ty8) ((x0.1.take x1.2.1.toNat) : dy10) Try.underlying22 Try.sizeOf76 rfl .none (.some rfl) (show 0 ≤ 0 from by omega) (show 0 ≤ x1.2.1 from by omega) (show x1.2.1 ≤ (x0.1.length : Int) from by omega) rfl) rfl ?_
  refine ap_ni ?_
  exact ap_gr idn (nk rfl) k202 (by kernel_rfl)
  refine apo_ao rfl ?_
  refine ao_r (r_load_cell Try.isAgg3 rfl rfl rfl) rfl ?_
  refine ap_ni ?_
  refine ap_p 11 (fun _ _ _ h => h) rfl (by kernel_rfl) (rp_add rfl rfl) rfl ?_
  exact ap_gr idn (nk rfl) k207 (by kernel_rfl)
  refine ap_let (g := 10) (listed := #[false, true, true, true, false, false, false, true, false, true, true, true, false, false, false, false, false]) [(2, .ref 0 0), (4, .ref 1 0), (5, .bool false), (143, .v ty5 x0.1), (144, .ref 2 1), (148, .ref 0 0), (152, .int .i64 (IntKind.wrap .i64 (x1.2.1 + 1)))] [(0, .var [.cell (.v ty5 x0.1), ci x0.2.1, .cell (.v ty7 x0.2.2.1), ci x0.2.2.2.1, ci x0.2.2.2.2.1, ci x0.2.2.2.2.2.1]), (1, .var [.cell (.nilsl), ci 0, .cell (.nilsl), ci 0, ci 0, ci 0]), (2, .var [ci x1.1, ci x1.2.1, ci x1.2.2.1])] ?_ (fun k213 => ?_)
  refine ap_all [0, 4, 8] (by kernel_rfl) ⟨?_, ?_, ?_, trivial⟩
  refine apo_ao rfl ?_
  refine ao_r (r_load_part (τ := ty1) (y := ((x0.1, (x0.2.1, (x0.2.2.1, (x0.2.2.2.1, (x0.2.2.2.2.1, (x0.2.2.2.2.2.1, ())))))) : dy3)) [] [] rfl Try.isAgg29 Try.sizeOf29 rfl rfl rfl rfl) rfl ?_
  refine ap_ni ?_
  exact ap_gr (rn [(0, 1), (1, 2), (2, 0)]) (nk rfl) k183 (by kernel_rfl)
  refine apo_ao rfl ?_
  refine ao_r (r_load_cell Try.isAgg3 rfl rfl rfl) rfl ?_
  refine ap_ni ?_
  exact ap_gr idn (nk rfl) k209 (by kernel_rfl)
  refine apo_ao rfl ?_
  refine ao_r (r_load_cell Try.isAgg22 rfl rfl rfl) rfl ?_
  refine ap_ni ?_
  exact ap_gr idn (nk rfl) k211 (by kernel_rfl)
  refine ap_let (g := 10) (listed := #[false, true, false, true, true, false, false, true, false, true, true, true, false, false, false, false, false]) [(2, .ref 0 0), (4, .ref 1 0), (5, .bool false), (142, .ref 0 0), (145, .int .i64 x1.2.1), (148, .ref 0 0), (152, .int .i64 (IntKind.wrap .i64 (x1.2.1 + 1)))] [(0, .var [.cell (.v ty5 x0.1), ci x0.2.1, .cell (.v ty7 x0.2.2.1), ci x0.2.2.2.1, ci x0.2.2.2.2.1, ci x0.2.2.2.2.2.1]), (1, .var [.cell (.nilsl), ci 0, .cell (.nilsl), ci 0, ci 0, ci 0])] ?_ (fun k218 => ?_)
  refine ap_all [0, 2, 8] (by kernel_rfl) ⟨?_, ?_, ?_, trivial⟩
  refine apo_ao rfl ?_
  refine ao_r (r_load_part (τ := ty1) (y := ((x0.1, (x0.2.1, (x0.2.2.1, (x0.2.2.2.1, (x0.2.2.2.2.1, (x0.2.2.2.2.2.1, ())))))) : dy3)) [] [] rfl Try.isAgg29 Try.sizeOf29 rfl rfl rfl rfl) rfl ?_
  refine ap_ni ?_
  exact ap_gr (rn [(0, 1), (1, 0)]) (nk rfl) k188 (by kernel_rfl)
  refine apo_ao rfl ?_
  refine ao_r (r_load_cell Try.isAgg22 rfl rfl rfl) rfl ?_
  refine ap_ni ?_
  exact ap_gr idn (nk rfl) k209 (by kernel_rfl)
  refine apo_ao rfl ?_
  refine ao_r (r_load_cell Try.isAgg22 rfl rfl rfl) rfl ?_
  refine ap_ni ?_
  exact ap_gr idn (nk rfl) k216 (by kernel_rfl)
  refine ap_let (g := 10) (listed := #[false, true, false, true, false, false, false, true, true, true, true, true, false, false, false, false, false]) [(2, .ref 0 0), (4, .ref 1 0), (5, .bool false), (142, .ref 0 0), (144, .ref 2 1), (149, .v ty5 x0.1), (152, .int .i64 (IntKind.wrap .i64 (x1.2.1 + 1)))] [(0, .var [.cell (.v ty5 x0.1), ci x0.2.1, .cell (.v ty7 x0.2.2.1), ci x0.2.2.2.1, ci x0.2.2.2.2.1, ci x0.2.2.2.2.2.1]), (1, .var [.cell (.nilsl), ci 0, .cell (.nilsl), ci 0, ci 0, ci 0]), (2, .var [ci x1.1, ci x1.2.1, ci x1.2.2.1])] ?_ (fun k220 => ?_)
  refine ap_all [0, 2, 4, 12] (by kernel_rfl) ⟨?_, ?_, ?_, ?_, trivial⟩
  refine apo_ao rfl ?_
  refine ao_r (r_load_part (τ := ty1) (y := ((x0.1, (x0.2.1, (x0.2.2.1, (x0.2.2.2.1, (x0.2.2.2.2.1, (x0.2.2.2.2.2.1, ())))))) : dy3)) [] [] rfl Try.isAgg29 Try.sizeOf29 rfl rfl rfl rfl) rfl ?_
  refine ap_ni ?_
  exact ap_gr (rn [(0, 1), (1, 0)]) (nk rfl) k190 (by kernel_rfl)
  refine apo_ao rfl ?_
  refine ao_r (r_load_cell Try.isAgg22 rfl rfl rfl) rfl ?_
  refine ap_ni ?_
  exact ap_gr idn (nk rfl) k211 (by kernel_rfl)
  refine apo_ao rfl ?_
  refine ao_r (r_load_cell Try.isAgg3 rfl rfl rfl) rfl ?_
  refine ap_ni ?_
  exact ap_gr idn (nk rfl) k216 (by kernel_rfl)
  refine apo_ao rfl ?_
  refine ao_r (r_slice_vm (t := ty8) ((x0.1.drop (IntKind.wrap .i64 (x1.2.1 + 1)).toNat) : dy10) Try.underlying22 Try.sizeOf76 rfl (.some rfl) .none (show 0 ≤ (IntKind.wrap .i64 (x1.2.1 + 1)) from by omega) (show (IntKind.wrap .i64 (x1.2.1 + 1)) ≤ (x0.1.length : Int) from by omega) (show (x0.1.length : Int) ≤ (x0.1.length : Int) from by omega) sl_hi) rfl ?_
  refine ap_ni ?_
  exact ap_gr idn (nk rfl) k221 (by kernel_rfl)
  refine ap_let (g := 11) (listed := #[true, true, true, true, false, false, false, true, false, true, false, false, false, false, false, false, false]) [(4, .ref 0 0), (5, .bool false), (141, .v ty1 ((x0.1, (x0.2.1, (x0.2.2.1, (x0.2.2.2.1, (x0.2.2.2.2.1, (x0.2.2.2.2.2.1, ())))))) : dy3)), (143, .v ty5 x0.1), (144, .ref 1 1), (148, .ref 2 0), (150, .ref 1 1)] [(0, .var [.cell (.nilsl), ci 0, .cell (.nilsl), ci 0, ci 0, ci 0]), (1, .var [ci x1.1, ci x1.2.1, ci x1.2.2.1]), (2, .var [.cell (.v ty5 x0.1), ci x0.2.1, .cell (.v ty7 x0.2.2.1), ci x0.2.2.2.1, ci x0.2.2.2.2.1, ci x0.2.2.2.2.2.1])] ?_ (fun k162 => ?_)
  refine ap_all [4, 8, 10] (by kernel_rfl) ⟨?_, ?_, ?_, trivial⟩
  refine apo_ao rfl ?_
  refine ao_r (r_load_cell Try.isAgg3 rfl rfl rfl) rfl ?_
  refine ap_ni ?_
  exact ap_gr (rn [(1, 2), (2, 1)]) (nk rfl) k163 (by kernel_rfl)
  refine apo_ao rfl ?_
  refine ao_r (r_load_cell Try.isAgg22 rfl rfl rfl) rfl ?_
  refine ap_ni ?_
  exact ap_gr idn (nk rfl) k180 (by kernel_rfl)
  refine apo_ao rfl ?_
  refine ao_r (r_load_cell Try.isAgg3 rfl rfl rfl) rfl ?_
  refine ap_ni ?_
  refine ap_p 11 (fun _ _ _ h => h) rfl (by kernel_rfl) (rp_add rfl rfl) rfl ?_
  exact ap_gr idn (nk rfl) k183 (by kernel_rfl)
  refine ap_let (g := 11) (listed := #[true, true, false, true, true, false, false, true, false, true, false, false, false, false, false, false, false]) [(4, .ref 0 0), (5, .bool false), (141, .v ty1 ((x0.1, (x0.2.1, (x0.2.2.1, (x0.2.2.2.1, (x0.2.2.2.2.1, (x0.2.2.2.2.2.1, ())))))) : dy3)), (142, .ref 1 0), (145, .int .i64 x1.2.1), (148, .ref 1 0), (150, .ref 2 1)] [(0, .var [.cell (.nilsl), ci 0, .cell (.nilsl), ci 0, ci 0, ci 0]), (1, .var [.cell (.v ty5 x0.1), ci x0.2.1, .cell (.v ty7 x0.2.2.1), ci x0.2.2.2.1, ci x0.2.2.2.2.1, ci x0.2.2.2.2.2.1]), (2, .var [ci x1.1, ci x1.2.1, ci x1.2.2.1])] ?_ (fun k184 => ?_)
  refine ap_all [2, 8, 10] (by kernel_rfl) ⟨?_, ?_, ?_, trivial⟩
  refine apo_ao rfl ?_
  refine ao_r (r_load_cell Try.isAgg22 rfl rfl rfl) rfl ?_
  refine ap_ni ?_
  exact ap_gr idn (nk rfl) k163 (by kernel_rfl)
  refine apo_ao rfl ?_
  refine ao_r (r_load_cell Try.isAgg22 rfl rfl rfl) rfl ?_
  refine ap_ni ?_
  exact ap_gr idn (nk rfl) k185 (by kernel_rfl)
  refine apo_ao rfl ?_
  refine ao_r (r_load_cell Try.isAgg3 rfl rfl rfl) rfl ?_
  refine ap_ni ?_
  refine ap_p 11 (fun _ _ _ h => h) rfl (by kernel_rfl) (rp_add rfl rfl) rfl ?_
  exact ap_gr idn (nk rfl) k188 (by kernel_rfl)
  refine ap_let (g := 11) (listed := #[true, true, false, true, false, false, false, true, true, true, false, false, false, false, false, false, false]) [(4, .ref 0 0), (5, .bool false), (141, .v ty1 ((x0.1, (x0.2.1, (x0.2.2.1, (x0.2.2.2.1, (x0.2.2.2.2.1, (x0.2.2.2.2.2.1, ())))))) : dy3)), (142, .ref 1 0), (144, .ref 2 1), (149, .v ty5 x0.1), (150, .ref 2 1)] [(0, .var [.cell (.nilsl), ci 0, .cell (.nilsl), ci 0, ci 0, ci 0]), (1, .var [.cell (.v ty5 x0.1), ci x0.2.1, .cell (.v ty7 x0.2.2.1), ci x0.2.2.2.1, ci x0.2.2.2.2.1, ci x0.2.2.2.2.2.1]), (2, .var [ci x1.1, ci x1.2.1, ci x1.2.2.1])] ?_ (fun k189 => ?_)
  refine ap_all [2, 4, 10] (by kernel_rfl) ⟨?_, ?_, ?_, trivial⟩
  refine apo_ao rfl ?_
  refine ao_r (r_load_cell Try.isAgg22 rfl rfl rfl) rfl ?_
  refine ap_ni ?_
  exact ap_gr (rn [(1, 2)]) (nk rfl) k180 (by kernel_rfl)
  refine apo_ao rfl ?_
  refine ao_r (r_load_cell Try.isAgg3 rfl rfl rfl) rfl ?_
  refine ap_ni ?_
  exact ap_gr idn (nk rfl) k185 (by kernel_rfl)
  refine apo_ao rfl ?_
  refine ao_r (r_load_cell Try.isAgg3 rfl rfl rfl) rfl ?_
  refine ap_ni ?_
  refine ap_p 11 (fun _ _ _ h => h) rfl (by kernel_rfl) (rp_add rfl rfl) rfl ?_
  exact ap_gr idn (nk rfl) k190 (by kernel_rfl)
  refine ap_let (g := 11) (listed := #[false, true, true, true, true, false, false, true, false, true, false, false, false, false, false, false, false]) [(2, .ref 0 0), (4, .ref 1 0), (5, .bool false), (143, .v ty5 x0.1), (145, .int .i64 x1.2.1), (148, .ref 0 0), (150, .ref 2 1)] [(0, .var [.cell (.v ty5 x0.1), ci x0.2.1, .cell (.v ty7 x0.2.2.1), ci x0.2.2.2.1, ci x0.2.2.2.2.1, ci x0.2.2.2.2.2.1]), (1, .var [.cell (.nilsl), ci 0, .cell (.nilsl), ci 0, ci 0, ci 0]), (2, .var [ci x1.1, ci x1.2.1, ci x1.2.2.1])] ?_ (fun k194 => ?_)
  refine ap_all [0, 5, 8, 10] (by kernel_rfl) ⟨?_, ?_, ?_, ?_, trivial⟩
  refine apo_ao rfl ?_
  refine ao_r (r_load_part (τ := ty1) (y := ((x0.1, (x0.2.1, (x0.2.2.1, (x0.2.2.2.1, (x0.2.2.2.2.1, (x0.2.2.2.2.2.1, ())))))) : dy3)) [] [] rfl Try.isAgg29 Try.sizeOf29 rfl rfl rfl rfl) rfl ?_
  refine ap_ni ?_
  exact ap_gr (rn [(0, 1), (1, 0)]) (nk rfl) k163 (by kernel_rfl)
  refine apo_ao rfl ?_
  refine ao_r (r_slice_vm (t := ty8) ((x0.1.take x1.2.1.toNat) : dy10) Try.underlying22 Try.sizeOf76 rfl .none (.some rfl) (show 0 ≤ 0 from by omega) (show 0 ≤ x1.2.1 from by omega) (show x1.2.1 ≤ (x0.1.length : Int) from by omega) rfl) rfl ?_
  refine ap_ni ?_
  exact ap_gr idn (nk rfl) k195 (by kernel_rfl)
  refine apo_ao rfl ?_
  refine ao_r (r_load_cell Try.isAgg22 rfl rfl rfl) rfl ?_
  refine ap_ni ?_
  exact ap_gr idn (nk rfl) k206 (by kernel_rfl)
  refine apo_ao rfl ?_
  refine ao_r (r_load_cell Try.isAgg3 rfl rfl rfl) rfl ?_
  refine ap_ni ?_
  refine ap_p 11 (fun _ _ _ h => h) rfl (by kernel_rfl) (rp_add rfl rfl) rfl ?_
  exact ap_gr idn (nk rfl) k209 (by kernel_rfl)
  refine ap_let (g := 11) (listed := #[false, true, true, true, false, false, false, true, true, true, false, false, false, false, false, false, false]) [(2, .ref 0 0), (4, .ref 1 0), (5, .bool false), (143, .v ty5 x0.1), (144, .ref 2 1), (149, .v ty5 x0.1), (150, .ref 2 1)] [(0, .var [.cell (.v ty5 x0.1), ci x0.2.1, .cell (.v ty7 x0.2.2.1), ci x0.2.2.2.1, ci x0.2.2.2.2.1, ci x0.2.2.2.2.2.1]), (1, .var [.cell (.nilsl), ci 0, .cell (.nilsl), ci 0, ci 0, ci 0]), (2, .var [ci x1.1, ci x1.2.1, ci x1.2.2.1])] ?_ (fun k210 => ?_)
  refine ap_all [0, 4, 10] (by kernel_rfl) ⟨?_, ?_, ?_, trivial⟩
  refine apo_ao rfl ?_
  refine ao_r (r_load_part (τ := ty1) (y := ((x0.1, (x0.2.1, (x0.2.2.1, (x0.2.2.2.1, (x0.2.2.2.2.1, (x0.2.2.2.2.2.1, ())))))) : dy3)) [] [] rfl Try.isAgg29 Try.sizeOf29 rfl rfl rfl rfl) rfl ?_
  refine ap_ni ?_
  exact ap_gr (rn [(0, 1), (1, 2)]) (nk rfl) k180 (by kernel_rfl)
  refine apo_ao rfl ?_
  refine ao_r (r_load_cell Try.isAgg3 rfl rfl rfl) rfl ?_
  refine ap_ni ?_
  exact ap_gr idn (nk rfl) k206 (by kernel_rfl)
  refine apo_ao rfl ?_
  refine ao_r (r_load_cell Try.isAgg3 rfl rfl rfl) rfl ?_
  refine ap_ni ?_
  refine ap_p 11 (fun _ _ _ h => h) rfl (by kernel_rfl) (rp_add rfl rfl) rfl ?_
  exact ap_gr idn (nk rfl) k211 (by kernel_rfl)
  refine ap_let (g := 11) (listed := #[false, true, false, true, true, false, false, true, true, true, false, false, false, false, false, false, false]) [(2, .ref 0 0), (4, .ref 1 0), (5, .bool false), (142, .ref 0 0), (145, .int .i64 x1.2.1), (149, .v ty5 x0.1), (150, .ref 2 1)] [(0, .var [.cell (.v ty5 x0.1), ci x0.2.1, .cell (.v ty7 x0.2.2.1), ci x0.2.2.2.1, ci x0.2.2.2.2.1, ci x0.2.2.2.2.2.1]), (1, .var [.cell (.nilsl), ci 0, .cell (.nilsl), ci 0, ci 0, ci 0]), (2, .var [ci x1.1, ci x1.2.1, ci x1.2.2.1])] ?_ (fun k215 => ?_)
  refine ap_all [0, 2, 10] (by kernel_rfl) ⟨?_, ?_, ?_, trivial⟩
  refine apo_ao rfl ?_
  refine ao_r (r_load_part (τ := ty1) (y := ((x0.1, (x0.2.1, (x0.2.2.1, (x0.2.2.2.1, (x0.2.2.2.2.1, (x0.2.2.2.2.2.1, ())))))) : dy3)) [] [] rfl Try.isAgg29 Try.sizeOf29 rfl rfl rfl rfl) rfl ?_
  refine ap_ni ?_
  exact ap_gr (rn [(0, 1), (1, 0)]) (nk rfl) k185 (by kernel_rfl)
  refine apo_ao rfl ?_
  refine ao_r (r_load_cell Try.isAgg22 rfl rfl rfl) rfl ?_
  refine ap_ni ?_
  exact ap_gr idn (nk rfl) k206 (by kernel_rfl)
  refine apo_ao rfl ?_
  refine ao_r (r_load_cell Try.isAgg3 rfl rfl rfl) rfl ?_
  refine ap_ni ?_
  refine ap_p 11 (fun _ _ _ h => h) rfl (by kernel_rfl) (rp_add rfl rfl) rfl ?_
  exact ap_gr idn (nk rfl) k216 (by kernel_rfl)
  refine ap_let (g := 11) (listed := #[false, true, false, true, false, false, false, true, false, true, true, true, false, false, false, false, false]) [(2, .ref 0 0), (4, .ref 1 0), (5, .bool false), (142, .ref 0 0), (144, .ref 2 1), (148, .ref 0 0), (152, .int .i64 (IntKind.wrap .i64 (x1.2.1 + 1)))] [(0, .var [.cell (.v ty5 x0.1), ci x0.2.1, .cell (.v ty7 x0.2.2.1), ci x0.2.2.2.1, ci x0.2.2.2.2.1, ci x0.2.2.2.2.2.1]), (1, .var [.cell (.nilsl), ci 0, .cell (.nilsl), ci 0, ci 0, ci 0]), (2, .var [ci x1.1, ci x1.2.1, ci x1.2.2.1])] ?_ (fun k222 => ?_)
  refine ap_all [0, 2, 4, 8] (by kernel_rfl) ⟨?_, ?_, ?_, ?_, trivial⟩
  refine apo_ao rfl ?_
  refine ao_r (r_load_part (τ := ty1) (y := ((x0.1, (x0.2.1, (x0.2.2.1, (x0.2.2.2.1, (x0.2.2.2.2.1, (x0.2.2.2.2.2.1, ())))))) : dy3)) [] [] rfl Try.isAgg29 Try.sizeOf29 rfl rfl rfl rfl) rfl ?_
  refine ap_ni ?_
  exact ap_gr (rn [(0, 1), (1, 0)]) (nk rfl) k192 (by kernel_rfl)
  refine apo_ao rfl ?_
  refine ao_r (r_load_cell Try.isAgg22 rfl rfl rfl) rfl ?_
  refine ap_ni ?_
  exact ap_gr idn (nk rfl) k213 (by kernel_rfl)
  refine apo_ao rfl ?_
  refine ao_r (r_load_cell Try.isAgg3 rfl rfl rfl) rfl ?_
  refine ap_ni ?_
  exact ap_gr idn (nk rfl) k218 (by kernel_rfl)
  refine apo_ao rfl ?_
  refine ao_r (r_load_cell Try.isAgg22 rfl rfl rfl) rfl ?_
  refine ap_ni ?_
  exact ap_gr idn (nk rfl) k220 (by kernel_rfl)
  refine ap_let (g := 12) (listed := #[true, true, false, true, false, false, false, true, false, true, false, false, false, false, false, false, false]) [(4, .ref 0 0), (5, .bool false), (141, .v ty1 ((x0.1, (x0.2.1, (x0.2.2.1, (x0.2.2.2.1, (x0.2.2.2.2.1, (x0.2.2.2.2.2.1, ())))))) : dy3)), (142, .ref 1 0), (144, .ref 2 1), (148, .ref 1 0), (150, .ref 2 1)] [(0, .var [.cell (.nilsl), ci 0, .cell (.nilsl), ci 0, ci 0, ci 0]), (1, .var [.cell (.v ty5 x0.1), ci x0.2.1, .cell (.v ty7 x0.2.2.1), ci x0.2.2.2.1, ci x0.2.2.2.2.1, ci x0.2.2.2.2.2.1]), (2, .var [ci x1.1, ci x1.2.1, ci x1.2.2.1])] ?_ (fun k161 => ?_)
  refine ap_all [2, 4, 8, 10] (by kernel_rfl) ⟨?_, ?_, ?_, ?_, trivial⟩
  refine apo_ao rfl ?_
  refine ao_r (r_load_cell Try.isAgg22 rfl rfl rfl) rfl ?_
  refine ap_ni ?_
  exact ap_gr (rn [(1, 2), (2, 1)]) (nk rfl) k162 (by kernel_rfl)
  refine apo_ao rfl ?_
  refine ao_r (r_load_cell Try.isAgg3 rfl rfl rfl) rfl ?_
  refine ap_ni ?_
  exact ap_gr idn (nk rfl) k184 (by kernel_rfl)
  refine apo_ao rfl ?_
  refine ao_r (r_load_cell Try.isAgg22 rfl rfl rfl) rfl ?_
  refine ap_ni ?_
  exact ap_gr idn (nk rfl) k189 (by kernel_rfl)
  refine apo_ao rfl ?_
  refine ao_r (r_load_cell Try.isAgg3 rfl rfl rfl) rfl ?_
  refine ap_ni ?_
  refine ap_p 11 (fun _ _ _ h => h) rfl (by kernel_rfl) (rp_add rfl rfl) rfl ?_
  exact ap_gr idn (nk rfl) k192 (by kernel_rfl)
  refine ap_let (g := 12) (listed := #[false, true, true, true, false, false, false, true, false, true, false, false, false, false, false, false, false]) [(2, .ref 0 0), (4, .ref 1 0), (5, .bool false), (143, .v ty5 x0.1), (144, .ref 2 1), (148, .ref 0 0), (150, .ref 2 1)] [(0, .var [.cell (.v ty5 x0.1), ci x0.2.1, .cell (.v ty7 x0.2.2.1), ci x0.2.2.2.1, ci x0.2.2.2.2.1, ci x0.2.2.2.2.2.1]), (1, .var [.cell (.nilsl), ci 0, .cell (.nilsl), ci 0, ci 0, ci 0]), (2, .var [ci x1.1, ci x1.2.1, ci x1.2.2.1])] ?_ (fun k193 => ?_)
  refine ap_all [0, 4, 8, 10] (by kernel_rfl) ⟨?_, ?_, ?_, ?_, trivial⟩
  refine apo_ao rfl ?_
  refine ao_r (r_load_part (τ := ty1) (y := ((x0.1, (x0.2.1, (x0.2.2.1, (x0.2.2.2.1, (x0.2.2.2.2.1, (x0.2.2.2.2.2.1, ())))))) : dy3)) [] [] rfl Try.isAgg29 Try.sizeOf29 rfl rfl rfl rfl) rfl ?_
  refine ap_ni ?_
  exact ap_gr (rn [(0, 1), (1, 2), (2, 0)]) (nk rfl) k162 (by kernel_rfl)
  refine apo_ao rfl ?_
  refine ao_r (r_load_cell Try.isAgg3 rfl rfl rfl) rfl ?_
  refine ap_ni ?_
  exact ap_gr idn (nk rfl) k194 (by kernel_rfl)
  refine apo_ao rfl ?_
  refine ao_r (r_load_cell Try.isAgg22 rfl rfl rfl) rfl ?_
  refine ap_ni ?_
  exact ap_gr idn (nk rfl) k210 (by kernel_rfl)
  refine apo_ao rfl ?_
  refine ao_r (r_load_cell Try.isAgg3 rfl rfl rfl) rfl ?_
  refine ap_ni ?_
  refine ap_p 11 (fun _ _ _ h => h) rfl (by kernel_rfl) (rp_add rfl rfl) rfl ?_
  exact ap_gr idn (nk rfl) k213 (by kernel_rfl)
  refine ap_let (g := 12) (listed := #[false, true, false, true, true, false, false, true, false, true, false, false, false, false, false, false, false]) [(2, .ref 0 0), (4, .ref 1 0), (5, .bool false), (142, .ref 0 0), (145, .int .i64 x1.2.1), (148, .ref 0 0), (150, .ref 2 1)] [(0, .var [.cell (.v ty5 x0.1), ci x0.2.1, .cell (.v ty7 x0.2.2.1), ci x0.2.2.2.1, ci x0.2.2.2.2.1, ci x0.2.2.2.2.2.1]), (1, .var [.cell (.nilsl), ci 0, .cell (.nilsl), ci 0, ci 0, ci 0]), (2, .var [ci x1.1, ci x1.2.1, ci x1.2.2.1])] ?_ (fun k214 => ?_)
  refine ap_all [0, 2, 8, 10] (by kernel_rfl) ⟨?_, ?_, ?_, ?_, trivial⟩
  refine apo_ao rfl ?_
  refine ao_r (r_load_part (τ := ty1) (y := ((x0.1, (x0.2.1, (x0.2.2.1, (x0.2.2.2.1, (x0.2.2.2.2.1, (x0.2.2.2.2.2.1, ())))))) : dy3)) [] [] rfl Try.isAgg29 Try.sizeOf29 rfl rfl rfl rfl) rfl ?_
  refine ap_ni ?_
  exact ap_gr (rn [(0, 1), (1, 0)]) (nk rfl) k184 (by kernel_rfl)
  refine apo_ao rfl ?_
  refine ao_r (r_load_cell Try.isAgg22 rfl rfl rfl) rfl ?_
  refine ap_ni ?_
  exact ap_gr idn (nk rfl) k194 (by kernel_rfl)
  refine apo_ao rfl ?_
  refine ao_r (r_load_cell Try.isAgg22 rfl rfl rfl) rfl ?_
  refine ap_ni ?_
  exact ap_gr idn (nk rfl) k215 (by kernel_rfl)
  refine apo_ao rfl ?_
  refine ao_r (r_load_cell Try.isAgg3 rfl rfl rfl) rfl ?_
  refine ap_ni ?_
  refine ap_p 11 (fun _ _ _ h => h) rfl (by kernel_rfl) (rp_add rfl rfl) rfl ?_
  exact ap_gr idn (nk rfl) k218 (by kernel_rfl)
  refine ap_let (g := 12) (listed := #[false, true, false, true, false, false, false, true, true, true, false, false, false, false, false, false, false]) [(2, .ref 0 0), (4, .ref 1 0), (5, .bool false), (142, .ref 0 0), (144, .ref 2 1), (149, .v ty5 x0.1), (150, .ref 2 1)] [(0, .var [.cell (.v ty5 x0.1), ci x0.2.1, .cell (.v ty7 x0.2.2.1), ci x0.2.2.2.1, ci x0.2.2.2.2.1, ci x0.2.2.2.2.2.1]), (1, .var [.cell (.nilsl), ci 0, .cell (.nilsl), ci 0, ci 0, ci 0]), (2, .var [ci x1.1, ci x1.2.1, ci x1.2.2.1])] ?_ (fun k219 => ?_)
  refine ap_all [0, 2, 4, 10] (by kernel_rfl) ⟨?_, ?_, ?_, ?_, trivial⟩
  refine apo_ao rfl ?_
  refine ao_r (r_load_part (τ := ty1) (y := ((x0.1, (x0.2.1, (x0.2.2.1, (x0.2.2.2.1, (x0.2.2.2.2.1, (x0.2.2.2.2.2.1, ())))))) : dy3)) [] [] rfl Try.isAgg29 Try.sizeOf29 rfl rfl rfl rfl) rfl ?_
  refine ap_ni ?_
  exact ap_gr (rn [(0, 1), (1, 0)]) (nk rfl) k189 (by kernel_rfl)
  refine apo_ao rfl ?_
  refine ao_r (r_load_cell Try.isAgg22 rfl rfl rfl) rfl ?_
  refine ap_ni ?_
  exact ap_gr idn (nk rfl) k210 (by kernel_rfl)
  refine apo_ao rfl ?_
  refine ao_r (r_load_cell Try.isAgg3 rfl rfl rfl) rfl ?_
  refine ap_ni ?_
  exact ap_gr idn (nk rfl) k215 (by kernel_rfl)
  refine apo_ao rfl ?_
  refine ao_r (r_load_cell Try.isAgg3 rfl rfl rfl) rfl ?_
  refine ap_ni ?_
  refine ap_p 11 (fun _ _ _ h => h) rfl (by kernel_rfl) (rp_add rfl rfl) rfl ?_
  exact ap_gr idn (nk rfl) k220 (by kernel_rfl)
  refine ap_let (g := 13) (listed := #[false, true, false, true, false, false, false, true, false, true, false, false, false, false, false, false, false]) [(2, .ref 0 0), (4, .ref 1 0), (5, .bool false), (142, .ref 0 0), (144, .ref 2 1), (148, .ref 0 0), (150, .ref 2 1)] [(0, .var [.cell (.v ty5 x0.1), ci x0.2.1, .cell (.v ty7 x0.2.2.1), ci x0.2.2.2.1, ci x0.2.2.2.2.1, ci x0.2.2.2.2.2.1]), (1, .var [.cell (.nilsl), ci 0, .cell (.nilsl), ci 0, ci 0, ci 0]), (2, .var [ci x1.1, ci x1.2.1, ci x1.2.2.1])] ?_ (fun k160 => ?_)
  refine ap_all [0, 2, 4, 8, 10] (by kernel_rfl) ⟨?_, ?_, ?_, ?_, ?_, trivial⟩
  refine apo_ao rfl ?_
  refine ao_r (r_load_part (τ := ty1) (y := ((x0.1, (x0.2.1, (x0.2.2.1, (x0.2.2.2.1, (x0.2.2.2.2.1, (x0.2.2.2.2.2.1, ())))))) : dy3)) [] [] rfl Try.isAgg29 Try.sizeOf29 rfl rfl rfl rfl) rfl ?_
  refine ap_ni ?_
  exact ap_gr (rn [(0, 1), (1, 0)]) (nk rfl) k161 (by kernel_rfl)
  refine apo_ao rfl ?_
  refine ao_r (r_load_cell Try.isAgg22 rfl rfl rfl) rfl ?_
  refine ap_ni ?_
  exact ap_gr idn (nk rfl) k193 (by kernel_rfl)
  refine apo_ao rfl ?_
  refine ao_r (r_load_cell Try.isAgg3 rfl rfl rfl) rfl ?_
  refine ap_ni ?_
  exact ap_gr idn (nk rfl) k214 (by kernel_rfl)
  refine apo_ao rfl ?_
  refine ao_r (r_load_cell Try.isAgg22 rfl rfl rfl) rfl ?_
  refine ap_ni ?_
  exact ap_gr idn (nk rfl) k219 (by kernel_rfl)
  refine apo_ao rfl ?_
  refine ao_r (r_load_cell Try.isAgg3 rfl rfl rfl) rfl ?_
  refine ap_ni ?_
  refine ap_p 11 (fun _ _ _ h => h) rfl (by kernel_rfl) (rp_add rfl rfl) rfl ?_
  exact ap_gr idn (nk rfl) k222 (by kernel_rfl)
  refine ap_p 1 (fun _ _ _ h => h) rfl (by kernel_rfl) (rp_fieldAddr Try.underlying29 rfl Try.sizeOf22 rfl rfl rfl) rfl ?_
  refine ap_p 3 (fun _ _ _ h => h) rfl (by kernel_rfl) (rp_fieldAddr Try.underlying33 rfl Try.sizeOf3 rfl rfl rfl) rfl ?_
  refine ap_p 7 (fun _ _ _ h => h) rfl (by kernel_rfl) (rp_fieldAddr Try.underlying29 rfl Try.sizeOf22 rfl rfl rfl) rfl ?_
  refine ap_p 9 (fun _ _ _ h => h) rfl (by kernel_rfl) (rp_fieldAddr Try.underlying33 rfl Try.sizeOf3 rfl rfl rfl) rfl ?_
  exact ap_gr (rn [(1, 2), (2, 1)]) (nk rfl) k160 (by kernel_rfl)
  have q143 := d_f hb141
  replace h := is_else (d_f hb141) h
  refine aw_seq ?_
  refine aw_region ?_
  refine ao_r (r_eql rfl rfl) rfl ?_
  refine ao_r (r_assign rfl) rfl ?_
  refine ao_nil ?_
  refine aq_then ?_
  refine aw_cond rfl (fun hb225 => ?_) (fun hb225 => ?_)
  have q226 := d_t hb225
  replace h := is_if (d_t hb225) h
  refine aw_seq ?_
  refine aw_region ?_
  refine ao_r (r_fieldAddr Try.underlying29 rfl Try.sizeOf3 rfl rfl rfl) rfl ?_
  refine ao_effS trivial (e_store rfl rfl rfl rfl Try.sizeOf3 rfl) ?_
  refine ao_nil ?_
  refine aq_then ?_
  refine aw_seq ?_
  refine aw_region ?_
  refine ao_r (r_fieldAddr Try.underlying29 rfl Try.sizeOf3 rfl rfl rfl) rfl ?_
  refine ao_effS trivial (e_store rfl rfl rfl rfl Try.sizeOf3 rfl) ?_
  refine ao_nil ?_
  refine aq_then ?_
  refine aw_seq ?_
  refine aw_drawP 14 rfl (by kernel_rfl) ?_
  refine ap_to [(4, .ref 0 0), (5, .bool ((decide (x1.2.1 = 0)) && (decide (x1.2.2.1 = 0))))] [(0, .var [.cell (.v ty5 ((p_spec_l12Dice (x0.1, (x0.2.1, (x0.2.2.1, (0, (0, (x0.2.2.2.2.2.1, ())))))) x0.1).1 : dy10)), .cell (.int .i64 (((p_spec_l12Dice (x0.1, (x0.2.1, (x0.2.2.1, (0, (0, (x0.2.2.2.2.2.1, ())))))) x0.1).2).1)), .cell (.v ty7 ((((p_spec_l12Dice (x0.1, (x0.2.1, (x0.2.2.1, (0, (0, (x0.2.2.2.2.2.1, ())))))) x0.1).2).2).1 : dy12)), .cell (.int .i64 (((((p_spec_l12Dice (x0.1, (x0.2.1, (x0.2.2.1, (0, (0, (x0.2.2.2.2.2.1, ())))))) x0.1).2).2).2).1)), .cell (.int .i64 ((((((p_spec_l12Dice (x0.1, (x0.2.1, (x0.2.2.1, (0, (0, (x0.2.2.2.2.2.1, ())))))) x0.1).2).2).2).2).1)), .cell (.int .i64 (((((((p_spec_l12Dice (x0.1, (x0.2.1, (x0.2.2.1, (0, (0, (x0.2.2.2.2.2.1, ())))))) x0.1).2).2).2).2).2).1))])] ?_ (fun key => ?_)
  refine aq_then ?_
  refine aw_ret ?_
  refine aq_in_ret ?_
  refine aq_then_ret ?_
  refine aq_ret ?_
  obtain rfl := is_some h
  exact aq_finV (l := [.cell 4 29, .tmp 5]) (xs := [.st [.v ty5 ((p_spec_l12Dice (x0.1, (x0.2.1, (x0.2.2.1, (0, (0, (x0.2.2.2.2.2.1, ())))))) x0.1).1 : dy10), .int .i64 (((p_spec_l12Dice (x0.1, (x0.2.1, (x0.2.2.1, (0, (0, (x0.2.2.2.2.2.1, ())))))) x0.1).2).1), .v ty7 ((((p_spec_l12Dice (x0.1, (x0.2.1, (x0.2.2.1, (0, (0, (x0.2.2.2.2.2.1, ())))))) x0.1).2).2).1 : dy12), .int .i64 (((((p_spec_l12Dice (x0.1, (x0.2.1, (x0.2.2.1, (0, (0, (x0.2.2.2.2.2.1, ())))))) x0.1).2).2).2).1), .int .i64 ((((((p_spec_l12Dice (x0.1, (x0.2.1, (x0.2.2.1, (0, (0, (x0.2.2.2.2.2.1, ())))))) x0.1).2).2).2).2).1), .int .i64 (((((((p_spec_l12Dice (x0.1, (x0.2.1, (x0.2.2.1, (0, (0, (x0.2.2.2.2.2.1, ())))))) x0.1).2).2).2).2).2).1)], .bool ((decide (x1.2.1 = 0)) && (decide (x1.2.2.1 = 0)))]) idn [.v ty1 (((p_spec_l12Dice (x0.1, (x0.2.1, (x0.2.2.1, (0, (0, (x0.2.2.2.2.2.1, ())))))) x0.1).1, (((p_spec_l12Dice (x0.1, (x0.2.1, (x0.2.2.1, (0, (0, (x0.2.2.2.2.2.1, ())))))) x0.1).2).1, ((((p_spec_l12Dice (x0.1, (x0.2.1, (x0.2.2.1, (0, (0, (x0.2.2.2.2.2.1, ())))))) x0.1).2).2).1, (((((p_spec_l12Dice (x0.1, (x0.2.1, (x0.2.2.1, (0, (0, (x0.2.2.2.2.2.1, ())))))) x0.1).2).2).2).1, ((((((p_spec_l12Dice (x0.1, (x0.2.1, (x0.2.2.1, (0, (0, (x0.2.2.2.2.2.1, ())))))) x0.1).2).2).2).2).1, (((((((p_spec_l12Dice (x0.1, (x0.2.1, (x0.2.2.1, (0, (0, (x0.2.2.2.2.2.1, ())))))) x0.1).2).2).2).2).2).1, ())))))) : dy3), .bool ((decide (x1.2.1 = 0)) && (decide (x1.2.2.1 = 0)))] [] rfl (by exact ⟨⟨⟨_, _, rfl⟩, r_load_st [] [.cell (.v ty5 ((p_spec_l12Dice (x0.1, (x0.2.1, (x0.2.2.1, (0, (0, (x0.2.2.2.2.2.1, ())))))) x0.1).1 : dy10)), .cell (.int .i64 (((p_spec_l12Dice (x0.1, (x0.2.1, (x0.2.2.1, (0, (0, (x0.2.2.2.2.2.1, ())))))) x0.1).2).1)), .cell (.v ty7 ((((p_spec_l12Dice (x0.1, (x0.2.1, (x0.2.2.1, (0, (0, (x0.2.2.2.2.2.1, ())))))) x0.1).2).2).1 : dy12)), .cell (.int .i64 (((((p_spec_l12Dice (x0.1, (x0.2.1, (x0.2.2.1, (0, (0, (x0.2.2.2.2.2.1, ())))))) x0.1).2).2).2).1)), .cell (.int .i64 ((((((p_spec_l12Dice (x0.1, (x0.2.1, (x0.2.2.1, (0, (0, (x0.2.2.2.2.2.1, ())))))) x0.1).2).2).2).2).1)), .cell (.int .i64 (((((((p_spec_l12Dice (x0.1, (x0.2.1, (x0.2.2.1, (0, (0, (x0.2.2.2.2.2.1, ())))))) x0.1).2).2).2).2).2).1))] [] Try.isAgg29 Try.sizeOf29 rfl rfl rfl rfl rfl rfl rfl⟩, rfl, trivial⟩) (by exact ⟨ad_st rfl rfl ⟨ad_ren rfl, ad_ren rfl, ad_ren rfl, ad_ren rfl, ad_ren rfl, ad_ren rfl, trivial⟩, ad_ren rfl, trivial⟩) (by exact trivial) rfl (nk rfl) ⟨rfl, rfl⟩
  refine ap_let (g := 2) (listed := #[true, true, true, true, true, true, true, true, true, true, true, true, false, false]) [(4, .ref 0 0), (5, .bool false), (163, .v ty1 ((p_spec_l12Dice (x0.1, (x0.2.1, (x0.2.2.1, (0, (0, (x0.2.2.2.2.2.1, ())))))) x0.1) : dy3)), (171, .bool ((decide (x1.2.1 = 0)) && (decide (x1.2.2.1 = 0))))] [(0, .var [.cell (.nilsl), ci 0, .cell (.nilsl), ci 0, ci 0, ci 0])] ?_ (fun k239 => ?_)
  refine ap_all [12] (by kernel_rfl) ⟨?_, trivial⟩
  refine apo_ao rfl ?_
  refine ao_effS trivial (e_store rfl rfl rfl rfl Try.sizeOf29 rfl) ?_
  refine ap_ni ?_
  refine ap_p 13 (fun _ _ _ h => h) rfl (by kernel_rfl) (rp_assign rfl) rfl ?_
  exact ap_end (by kernel_rfl) (AQ.sub (sub_r1 idn (nk rfl) (by kernel_rfl)) key)
  refine ap_let (g := 4) (listed := #[true, true, true, true, true, true, true, true, true, false, false, false, true, false]) [(4, .ref 0 0), (5, .bool false), (167, .bool (decide (x1.2.1 = 0))), (168, .gd (decide (x1.2.1 = 0)) (.ref 1 2))] [(0, .var [.cell (.v ty5 ((p_spec_l12Dice (x0.1, (x0.2.1, (x0.2.2.1, (0, (0, (x0.2.2.2.2.2.1, ())))))) x0.1).1 : dy10)), .cell (.int .i64 (((p_spec_l12Dice (x0.1, (x0.2.1, (x0.2.2.1, (0, (0, (x0.2.2.2.2.2.1, ())))))) x0.1).2).1)), .cell (.v ty7 ((((p_spec_l12Dice (x0.1, (x0.2.1, (x0.2.2.1, (0, (0, (x0.2.2.2.2.2.1, ())))))) x0.1).2).2).1 : dy12)), .cell (.int .i64 (((((p_spec_l12Dice (x0.1, (x0.2.1, (x0.2.2.1, (0, (0, (x0.2.2.2.2.2.1, ())))))) x0.1).2).2).2).1)), .cell (.int .i64 ((((((p_spec_l12Dice (x0.1, (x0.2.1, (x0.2.2.1, (0, (0, (x0.2.2.2.2.2.1, ())))))) x0.1).2).2).2).2).1)), .cell (.int .i64 (((((((p_spec_l12Dice (x0.1, (x0.2.1, (x0.2.2.1, (0, (0, (x0.2.2.2.2.2.1, ())))))) x0.1).2).2).2).2).2).1))]), (1, .var [ci x1.1, ci x1.2.1, ci x1.2.2.1])] ?_ (fun k240 => ?_)
  refine ap_all [9] (by kernel_rfl) ⟨?_, trivial⟩
  refine apo_ao rfl ?_
  refine ao_readG (x := .int .i64 x1.2.2.1) rfl (GV.T rfl) (fun hg230 => by
        have q231 := d_t hg230
        exact Reads.strip 168 rfl (hg230) (r_load_cell Try.isAgg3 rfl rfl rfl)) rfl ?_
  refine ap_ni ?_
  refine ap_pureG 10 (x := .bool (decide (x1.2.2.1 = 0))) (by kernel_rfl) (fun _ _ _ h => h) rfl (by kernel_rfl) rfl (GV.T rfl) (fun hg232 => by
        have q233 := d_t hg232
        exact rp_strip 169 rfl (hg232) (rp_eql rfl rfl)) rfl ?_
  refine ap_p 11 (fun _ _ _ h => h) rfl (by kernel_rfl) (rp_andB rfl rfl) rfl ?_
  refine ap_p 13 (fun _ _ _ h => h) rfl (by kernel_rfl) (rp_assign rfl) rfl ?_
  exact ap_end (by kernel_rfl) (AQ.sub (sub_r1 idn (nk rfl) (by kernel_rfl)) key)
  refine ap_let (g := 5) (listed := #[true, true, true, true, true, true, true, true, true, false, false, false, false, false]) [(4, .ref 0 0), (5, .bool false), (163, .v ty1 ((p_spec_l12Dice (x0.1, (x0.2.1, (x0.2.2.1, (0, (0, (x0.2.2.2.2.2.1, ())))))) x0.1) : dy3)), (167, .bool (decide (x1.2.1 = 0))), (168, .gd (decide (x1.2.1 = 0)) (.ref 1 2))] [(0, .var [.cell (.nilsl), ci 0, .cell (.nilsl), ci 0, ci 0, ci 0]), (1, .var [ci x1.1, ci x1.2.1, ci x1.2.2.1])] ?_ (fun k238 => ?_)
  refine ap_all [9, 12] (by kernel_rfl) ⟨?_, ?_, trivial⟩
  refine apo_ao rfl ?_
  refine ao_readG (x := .int .i64 x1.2.2.1) rfl (GV.T rfl) (fun hg230 => by
        have q231 := d_t hg230
        exact Reads.strip 168 rfl (hg230) (r_load_cell Try.isAgg3 rfl rfl rfl)) rfl ?_
  refine ap_ni ?_
  refine ap_pureG 10 (x := .bool (decide (x1.2.2.1 = 0))) (by kernel_rfl) (fun _ _ _ h => h) rfl (by kernel_rfl) rfl (GV.T rfl) (fun hg232 => by
        have q233 := d_t hg232
        exact rp_strip 169 rfl (hg232) (rp_eql rfl rfl)) rfl ?_
  refine ap_p 11 (fun _ _ _ h => h) rfl (by kernel_rfl) (rp_andB rfl rfl) rfl ?_
  exact ap_gr idn (nk rfl) k239 (by kernel_rfl)
  refine apo_ao rfl ?_
  refine ao_effS trivial (e_store rfl rfl rfl rfl Try.sizeOf29 rfl) ?_
  refine ap_ni ?_
  exact ap_gr idn (nk rfl) k240 (by kernel_rfl)
  refine ap_let (g := 8) (listed := #[true, true, true, false, true, true, true, false, false, false, false, false, false, false]) [(3, .ref 0 0), (4, .ref 1 0), (5, .bool false), (160, .v ty1 ((x0.1, (x0.2.1, (x0.2.2.1, (0, (0, (x0.2.2.2.2.2.1, ())))))) : dy3)), (162, .v ty5 x0.1), (166, .bool (decide (x1.2.1 = 0)))] [(0, .var [ci x1.1, ci x1.2.1, ci x1.2.2.1]), (1, .var [.cell (.nilsl), ci 0, .cell (.nilsl), ci 0, ci 0, ci 0])] ?_ (fun k241 => ?_)
  refine ap_all [3] (by kernel_rfl) ⟨?_, trivial⟩
  refine apo_ao rfl ?_
  refine ao_callV [] 2 trivial (c_spec_l12Dice (is_mk (rfl : p_spec_l12Dice (x0.1, (x0.2.1, (x0.2.2.1, (0, (0, (x0.2.2.2.2.2.1, ())))))) x0.1 = _))) Try.func83 rfl rfl rfl rfl rfl trivial trivial rfl rfl rfl rfl rfl rfl rfl (fun r' H' hr => ?_)
  obtain ⟨rfl, rfl⟩ := hr
  refine ao_norm (y := .v ty1 ((p_spec_l12Dice (x0.1, (x0.2.1, (x0.2.2.1, (0, (0, (x0.2.2.2.2.2.1, ())))))) x0.1) : dy3)) (H' := [(0, .var [ci x1.1, ci x1.2.1, ci x1.2.2.1]), (1, .var [.cell (.nilsl), ci 0, .cell (.nilsl), ci 0, ci 0, ci 0])]) rfl rfl ?_
  refine ap_ni ?_
  refine ap_p 7 (fun _ _ _ h => h) rfl (by kernel_rfl) (rp_move rfl) rfl ?_
  refine ap_pureG 8 (x := .ref 0 2) (by kernel_rfl) (fun _ _ _ h => h) rfl (by kernel_rfl) rfl (GV.T rfl) (fun hg228 => by
        have q229 := d_t hg228
        exact rp_fieldAddr Try.underlying33 rfl Try.sizeOf3 rfl rfl rfl) rfl ?_
  exact ap_gr (rn [(0, 1), (1, 0)]) (nk rfl) k238 (by kernel_rfl)
  refine ap_let (g := 9) (listed := #[true, true, true, true, true, false, false, false, false, false, false, false, false, false]) [(3, .ref 0 0), (4, .ref 1 0), (5, .bool false), (163, .v ty1 ((p_spec_l12Dice (x0.1, (x0.2.1, (x0.2.2.1, (0, (0, (x0.2.2.2.2.2.1, ())))))) x0.1) : dy3)), (164, .ref 0 1)] [(0, .var [ci x1.1, ci x1.2.1, ci x1.2.2.1]), (1, .var [.cell (.nilsl), ci 0, .cell (.nilsl), ci 0, ci 0, ci 0])] ?_ (fun k237 => ?_)
  refine ap_all [5] (by kernel_rfl) ⟨?_, trivial⟩
  refine apo_ao rfl ?_
  refine ao_r (r_load_cell Try.isAgg3 rfl rfl rfl) rfl ?_
  refine ap_ni ?_
  refine ap_p 6 (fun _ _ _ h => h) rfl (by kernel_rfl) (rp_eql rfl rfl) rfl ?_
  refine ap_p 7 (fun _ _ _ h => h) rfl (by kernel_rfl) (rp_move rfl) rfl ?_
  refine ap_pureG 8 (x := .ref 0 2) (by kernel_rfl) (fun _ _ _ h => h) rfl (by kernel_rfl) rfl (GV.T rfl) (fun hg228 => by
        have q229 := d_t hg228
        exact rp_fieldAddr Try.underlying33 rfl Try.sizeOf3 rfl rfl rfl) rfl ?_
  exact ap_gr (rn [(0, 1), (1, 0)]) (nk rfl) k238 (by kernel_rfl)
  refine ap_let (g := 9) (listed := #[true, true, false, false, true, true, true, false, false, false, false, false, false, false]) [(3, .ref 0 0), (4, .ref 1 0), (5, .bool false), (160, .v ty1 ((x0.1, (x0.2.1, (x0.2.2.1, (0, (0, (x0.2.2.2.2.2.1, ())))))) : dy3)), (161, .ref 2 0), (166, .bool (decide (x1.2.1 = 0)))] [(0, .var [ci x1.1, ci x1.2.1, ci x1.2.2.1]), (1, .var [.cell (.nilsl), ci 0, .cell (.nilsl), ci 0, ci 0, ci 0]), (2, .var [.cell (.v ty5 x0.1), ci x0.2.1, .cell (.v ty7 x0.2.2.1), ci 0, ci 0, ci x0.2.2.2.2.2.1])] ?_ (fun k242 => ?_)
  refine ap_all [2] (by kernel_rfl) ⟨?_, trivial⟩
  refine apo_ao rfl ?_
  refine ao_r (r_load_cell Try.isAgg22 rfl rfl rfl) rfl ?_
  refine ap_ni ?_
  exact ap_gr idn (nk rfl) k241 (by kernel_rfl)
  refine ap_let (g := 9) (listed := #[false, true, true, false, true, true, true, false, false, false, false, false, false, false]) [(2, .ref 0 0), (3, .ref 1 0), (4, .ref 2 0), (5, .bool false), (162, .v ty5 x0.1), (166, .bool (decide (x1.2.1 = 0)))] [(0, .var [.cell (.v ty5 x0.1), ci x0.2.1, .cell (.v ty7 x0.2.2.1), ci 0, ci 0, ci x0.2.2.2.2.2.1]), (1, .var [ci x1.1, ci x1.2.1, ci x1.2.2.1]), (2, .var [.cell (.nilsl), ci 0, .cell (.nilsl), ci 0, ci 0, ci 0])] ?_ (fun k244 => ?_)
  refine ap_all [0] (by kernel_rfl) ⟨?_, trivial⟩
  refine apo_ao rfl ?_
  refine ao_r (r_load_part (τ := ty1) (y := ((x0.1, (x0.2.1, (x0.2.2.1, (0, (0, (x0.2.2.2.2.2.1, ())))))) : dy3)) [] [] rfl Try.isAgg29 Try.sizeOf29 rfl rfl rfl rfl) rfl ?_
  refine ap_ni ?_
  exact ap_gr (rn [(0, 1), (1, 2)]) (nk rfl) k241 (by kernel_rfl)
  refine ap_let (g := 10) (listed := #[true, true, true, false, true, false, false, false, false, false, false, false, false, false]) [(3, .ref 0 0), (4, .ref 1 0), (5, .bool false), (160, .v ty1 ((x0.1, (x0.2.1, (x0.2.2.1, (0, (0, (x0.2.2.2.2.2.1, ())))))) : dy3)), (162, .v ty5 x0.1), (164, .ref 0 1)] [(0, .var [ci x1.1, ci x1.2.1, ci x1.2.2.1]), (1, .var [.cell (.nilsl), ci 0, .cell (.nilsl), ci 0, ci 0, ci 0])] ?_ (fun k236 => ?_)
  refine ap_all [3, 5] (by kernel_rfl) ⟨?_, ?_, trivial⟩
  refine apo_ao rfl ?_
  refine ao_callV [] 2 trivial (c_spec_l12Dice (is_mk (rfl : p_spec_l12Dice (x0.1, (x0.2.1, (x0.2.2.1, (0, (0, (x0.2.2.2.2.2.1, ())))))) x0.1 = _))) Try.func83 rfl rfl rfl rfl rfl trivial trivial rfl rfl rfl rfl rfl rfl rfl (fun r' H' hr => ?_)
  obtain ⟨rfl, rfl⟩ := hr
  refine ao_norm (y := .v ty1 ((p_spec_l12Dice (x0.1, (x0.2.1, (x0.2.2.1, (0, (0, (x0.2.2.2.2.2.1, ())))))) x0.1) : dy3)) (H' := [(0, .var [ci x1.1, ci x1.2.1, ci x1.2.2.1]), (1, .var [.cell (.nilsl), ci 0, .cell (.nilsl), ci 0, ci 0, ci 0])]) rfl rfl ?_
  refine ap_ni ?_
  exact ap_gr idn (nk rfl) k237 (by kernel_rfl)
  refine apo_ao rfl ?_
  refine ao_r (r_load_cell Try.isAgg3 rfl rfl rfl) rfl ?_
  refine ap_ni ?_
  refine ap_p 6 (fun _ _ _ h => h) rfl (by kernel_rfl) (rp_eql rfl rfl) rfl ?_
  exact ap_gr idn (nk rfl) k241 (by kernel_rfl)
  refine ap_let (g := 10) (listed := #[false, true, false, false, true, true, true, false, false, false, false, false, false, false]) [(2, .ref 0 0), (3, .ref 1 0), (4, .ref 2 0), (5, .bool false), (161, .ref 0 0), (166, .bool (decide (x1.2.1 = 0)))] [(0, .var [.cell (.v ty5 x0.1), ci x0.2.1, .cell (.v ty7 x0.2.2.1), ci 0, ci 0, ci x0.2.2.2.2.2.1]), (1, .var [ci x1.1, ci x1.2.1, ci x1.2.2.1]), (2, .var [.cell (.nilsl), ci 0, .cell (.nilsl), ci 0, ci 0, ci 0])] ?_ (fun k245 => ?_)
  refine ap_all [0, 2] (by kernel_rfl) ⟨?_, ?_, trivial⟩
  refine apo_ao rfl ?_
  refine ao_r (r_load_part (τ := ty1) (y := ((x0.1, (x0.2.1, (x0.2.2.1, (0, (0, (x0.2.2.2.2.2.1, ())))))) : dy3)) [] [] rfl Try.isAgg29 Try.sizeOf29 rfl rfl rfl rfl) rfl ?_
  refine ap_ni ?_
  exact ap_gr (rn [(0, 1), (1, 2), (2, 0)]) (nk rfl) k242 (by kernel_rfl)
  refine apo_ao rfl ?_
  refine ao_r (r_load_cell Try.isAgg22 rfl rfl rfl) rfl ?_
  refine ap_ni ?_
  exact ap_gr idn (nk rfl) k244 (by kernel_rfl)
  refine ap_let (g := 11) (listed := #[true, true, false, false, true, false, false, false, false, false, false, false, false, false]) [(3, .ref 0 0), (4, .ref 1 0), (5, .bool false), (160, .v ty1 ((x0.1, (x0.2.1, (x0.2.2.1, (0, (0, (x0.2.2.2.2.2.1, ())))))) : dy3)), (161, .ref 2 0), (164, .ref 0 1)] [(0, .var [ci x1.1, ci x1.2.1, ci x1.2.2.1]), (1, .var [.cell (.nilsl), ci 0, .cell (.nilsl), ci 0, ci 0, ci 0]), (2, .var [.cell (.v ty5 x0.1), ci x0.2.1, .cell (.v ty7 x0.2.2.1), ci 0, ci 0, ci x0.2.2.2.2.2.1])] ?_ (fun k235 => ?_)
  refine ap_all [2, 5] (by kernel_rfl) ⟨?_, ?_, trivial⟩
  refine apo_ao rfl ?_
  refine ao_r (r_load_cell Try.isAgg22 rfl rfl rfl) rfl ?_
  refine ap_ni ?_
  exact ap_gr idn (nk rfl) k236 (by kernel_rfl)
  refine apo_ao rfl ?_
  refine ao_r (r_load_cell Try.isAgg3 rfl rfl rfl) rfl ?_
  refine ap_ni ?_
  refine ap_p 6 (fun _ _ _ h => h) rfl (by kernel_rfl) (rp_eql rfl rfl) rfl ?_
  exact ap_gr idn (nk rfl) k242 (by kernel_rfl)
  refine ap_let (g := 11) (listed := #[false, true, true, false, true, false, false, false, false, false, false, false, false, false]) [(2, .ref 0 0), (3, .ref 1 0), (4, .ref 2 0), (5, .bool false), (162, .v ty5 x0.1), (164, .ref 1 1)] [(0, .var [.cell (.v ty5 x0.1), ci x0.2.1, .cell (.v ty7 x0.2.2.1), ci 0, ci 0, ci x0.2.2.2.2.2.1]), (1, .var [ci x1.1, ci x1.2.1, ci x1.2.2.1]), (2, .var [.cell (.nilsl), ci 0, .cell (.nilsl), ci 0, ci 0, ci 0])] ?_ (fun k243 => ?_)
  refine ap_all [0, 5] (by kernel_rfl) ⟨?_, ?_, trivial⟩
  refine apo_ao rfl ?_
  refine ao_r (r_load_part (τ := ty1) (y := ((x0.1, (x0.2.1, (x0.2.2.1, (0, (0, (x0.2.2.2.2.2.1, ())))))) : dy3)) [] [] rfl Try.isAgg29 Try.sizeOf29 rfl rfl rfl rfl) rfl ?_
  refine ap_ni ?_
  exact ap_gr (rn [(0, 1), (1, 2)]) (nk rfl) k236 (by kernel_rfl)
  refine apo_ao rfl ?_
  refine ao_r (r_load_cell Try.isAgg3 rfl rfl rfl) rfl ?_
  refine ap_ni ?_
  refine ap_p 6 (fun _ _ _ h => h) rfl (by kernel_rfl) (rp_eql rfl rfl) rfl ?_
  exact ap_gr idn (nk rfl) k244 (by kernel_rfl)
  refine ap_let (g := 12) (listed := #[false, true, false, false, true, false, false, false, false, false, false, false, false, false]) [(2, .ref 0 0), (3, .ref 1 0), (4, .ref 2 0), (5, .bool false), (161, .ref 0 0), (164, .ref 1 1)] [(0, .var [.cell (.v ty5 x0.1), ci x0.2.1, .cell (.v ty7 x0.2.2.1), ci 0, ci 0, ci x0.2.2.2.2.2.1]), (1, .var [ci x1.1, ci x1.2.1, ci x1.2.2.1]), (2, .var [.cell (.nilsl), ci 0, .cell (.nilsl), ci 0, ci 0, ci 0])] ?_ (fun k234 => ?_)
  refine ap_all [0, 2, 5] (by kernel_rfl) ⟨?_, ?_, ?_, trivial⟩
  refine apo_ao rfl ?_
  refine ao_r (r_load_part (τ := ty1) (y := ((x0.1, (x0.2.1, (x0.2.2.1, (0, (0, (x0.2.2.2.2.2.1, ())))))) : dy3)) [] [] rfl Try.isAgg29 Try.sizeOf29 rfl rfl rfl rfl) rfl ?_
  refine ap_ni ?_
  exact ap_gr (rn [(0, 1), (1, 2), (2, 0)]) (nk rfl) k235 (by kernel_rfl)
  refine apo_ao rfl ?_
  refine ao_r (r_load_cell Try.isAgg22 rfl rfl rfl) rfl ?_
  refine ap_ni ?_
  exact ap_gr idn (nk rfl) k243 (by kernel_rfl)
  refine apo_ao rfl ?_
  refine ao_r (r_load_cell Try.isAgg3 rfl rfl rfl) rfl ?_
  refine ap_ni ?_
  refine ap_p 6 (fun _ _ _ h => h) rfl (by kernel_rfl) (rp_eql rfl rfl) rfl ?_
  exact ap_gr idn (nk rfl) k245 (by kernel_rfl)
  refine ap_p 1 (fun _ _ _ h => h) rfl (by kernel_rfl) (rp_fieldAddr Try.underlying29 rfl Try.sizeOf22 rfl rfl rfl) rfl ?_
  refine ap_p 4 (fun _ _ _ h => h) rfl (by kernel_rfl) (rp_fieldAddr Try.underlying33 rfl Try.sizeOf3 rfl rfl rfl) rfl ?_
  exact ap_gr idn (nk rfl) k234 (by kernel_rfl)
  have q227 := d_f hb225
  replace h := is_else (d_f hb225) h
  refine aw_skip ?_
  refine aq_in ?_
  refine aq_then ?_
  refine aw_seq ?_
  refine aw_region ?_
  refine ao_r (r_load_part (τ := ty1) (y := ((x0.1, (x0.2.1, (x0.2.2.1, (x0.2.2.2.1, (x0.2.2.2.2.1, (x0.2.2.2.2.2.1, ())))))) : dy3)) [] [] rfl Try.isAgg29 Try.sizeOf29 rfl rfl rfl rfl) rfl ?_
  refine ao_effS trivial (e_store rfl rfl rfl rfl Try.sizeOf29 rfl) ?_
  refine ao_r (r_assign rfl) rfl ?_
  refine ao_nil ?_
  refine aq_then ?_
  refine aw_ret ?_
  refine aq_ret ?_
  obtain rfl := is_some h
  exact aq_finV (l := [.cell 4 29, .tmp 5]) (xs := [.st [.v ty5 x0.1, .int .i64 x0.2.1, .v ty7 x0.2.2.1, .int .i64 x0.2.2.2.1, .int .i64 x0.2.2.2.2.1, .int .i64 x0.2.2.2.2.2.1], .bool false]) idn [.v ty1 ((x0.1, (x0.2.1, (x0.2.2.1, (x0.2.2.2.1, (x0.2.2.2.2.1, (x0.2.2.2.2.2.1, ())))))) : dy3), .bool false] [] rfl (by exact ⟨⟨⟨_, _, rfl⟩, r_load_st [] [.cell (.v ty5 x0.1), ci x0.2.1, .cell (.v ty7 x0.2.2.1), ci x0.2.2.2.1, ci x0.2.2.2.2.1, ci x0.2.2.2.2.2.1] [] Try.isAgg29 Try.sizeOf29 rfl rfl rfl rfl rfl rfl rfl⟩, rfl, trivial⟩) (by exact ⟨ad_st rfl rfl ⟨ad_ren rfl, ad_ren rfl, ad_ren rfl, ad_ren rfl, ad_ren rfl, ad_ren rfl, trivial⟩, ad_ren rfl, trivial⟩) (by exact trivial) rfl (nk rfl) ⟨rfl, rfl⟩
end Go.GA
