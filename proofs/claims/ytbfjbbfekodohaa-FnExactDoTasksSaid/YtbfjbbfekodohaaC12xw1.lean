/- Walks: what the Go functions compute, by the printed lines below; no further conditions. -/
import Derived.Test.YtbfjbbfekodohaaC12xwd
namespace Go.GA
open Go Go.Proofs
set_option maxRecDepth 100000
set_option maxHeartbeats 2000000
set_option linter.unusedVariables false
set_option linter.unusedSimpArgs false
theorem c_laws_szTaskS {x0 : (List (Int × (Int × (Int × Unit))))} {x1 : Int} {r : Int} (h : Is (p_laws_szTaskS x0 x1) r) :
    Scalar Try.prog 14 [.v (.slice (.pair (.int .i64) (.pair (.int .i64) (.pair (.int .i64) .unit)))) x0, .int .i64 x1] (.int .i64 r) := by
  unfold p_laws_szTaskS at h
  refine ac_enter ⟨12, 0⟩ Try.func14 rfl rfl rfl rfl rfl (fun Γ => ?_)
  refine sl_len_m 0 (x0.length : Int) rfl rfl (fun hl0 => ?_)
  refine aw_seq ?_
  refine aw_region ?_
  refine ao_read trivial (r_assign rfl) rfl ?_
  refine ao_nil ?_
  refine aq_then ?_
  refine aw_seq ?_
  refine aw_region ?_
  refine ao_read trivial (r_move rfl) rfl ?_
  refine ao_read trivial (r_move rfl) rfl ?_
  refine ao_read trivial (r_len_vm (x0.length : Int) Try.underlying38 rfl rfl) rfl ?_
  refine ao_read trivial (r_sub rfl rfl) rfl ?_
  refine ao_read trivial (r_assign rfl) rfl ?_
  refine ao_nil ?_
  refine aq_then ?_
  refine aw_seq ?_
  refine aw_seq ?_
  refine aw_region ?_
  refine ao_read trivial (r_move rfl) rfl ?_
  refine ao_read trivial (r_lss rfl rfl) rfl ?_
  refine ao_nil ?_
  refine aq_then ?_
  refine aw_cond rfl (fun hb1 => ?_) (fun hb1 => ?_)
  · have q2 := d_t hb1
    replace h := is_if (d_t hb1) h
    refine aw_seq ?_
    refine aw_region ?_
    refine ao_read trivial (r_assign rfl) rfl ?_
    refine ao_nil ?_
    refine aq_then ?_
    refine aw_ret ?_
    refine aq_then_ret ?_
    refine aq_ret ?_
    obtain rfl := is_eq h
    exact aq_finx (l := [.tmp 4]) (xs := [.int .i64 (-1)]) idn [.int .i64 (-1)] [] rfl (by exact ⟨rfl, trivial⟩) (by exact ⟨ad_ren rfl, trivial⟩) (by exact trivial) rfl (nk rfl) rfl rfl ⟨rfl, rfl⟩
  · have q3 := d_f hb1
    replace h := is_else (d_f hb1) h
    refine aw_skip ?_
    refine aq_then ?_
    refine aw_seq ?_
    refine aw_region ?_
    refine ao_read trivial (r_move rfl) rfl ?_
    refine ao_read trivial (r_assign rfl) rfl ?_
    refine ao_nil ?_
    refine aq_then ?_
    refine aw_ret ?_
    refine aq_ret ?_
    obtain rfl := is_eq h
    exact aq_finx (l := [.tmp 4]) (xs := [.int .i64 (IntKind.wrap .i64 (x1 - (x0.length : Int)))]) idn [.int .i64 (IntKind.wrap .i64 (x1 - (x0.length : Int)))] [] rfl (by exact ⟨rfl, trivial⟩) (by exact ⟨ad_ren rfl, trivial⟩) (by exact trivial) rfl (nk rfl) rfl rfl ⟨rfl, rfl⟩
theorem c_laws_toTaskS {x0 : (List (Int × (Int × (Int × Unit))))} {r : (List (Int × (Int × (Int × Unit))))} (h : Is (p_laws_toTaskS x0) (some r)) :
    ACalls Try.prog 16 [.v (.slice (.pair (.int .i64) (.pair (.int .i64) (.pair (.int .i64) .unit)))) x0] [] (fun r' H' => r' = .os 0 ∧ H' = [(0, .row (.pair (.int .i64) (.pair (.int .i64) (.pair (.int .i64) .unit))) r)]) := by
  unfold p_laws_toTaskS at h
  refine ac_enter ⟨23, 0⟩ Try.func16 rfl rfl rfl rfl rfl (fun Γ => ?_)
  refine sl_len_m 0 (x0.length : Int) rfl rfl (fun hl0 => ?_)
  refine aw_seq ?_
  refine aw_region ?_
  refine ao_read trivial (r_assign rfl) rfl ?_
  refine ao_nil ?_
  refine aq_then ?_
  refine aw_seq ?_
  refine aw_region ?_
  refine ao_read trivial (r_move rfl) rfl ?_
  refine ao_read trivial (r_len_vm (x0.length : Int) Try.underlying38 rfl rfl) rfl ?_
  obtain ⟨g1, h⟩ := is_guard h
  refine ao_eff trivial (e_makeSlice 0 (t := (.pair (.int .i64) (.pair (.int .i64) (.pair (.int .i64) .unit)))) Try.underlying42 (rfl : Try.prog.info? 33 = some _) rfl rfl rfl rfl rfl rfl (by omega) (by omega) rfl rfl) rfl ?_
  refine ao_read trivial (r_assign rfl) rfl ?_
  refine ao_nil ?_
  refine aq_then ?_
  refine aw_seq ?_
  refine aw_seq ?_
  refine aw_region ?_
  refine ao_read trivial (r_assign rfl) rfl ?_
  refine ao_nil ?_
  refine aq_then ?_
  refine aw_block ?_
  refine aw_loop (AL.sub (fr' := [(0, .v (.slice (.pair (.int .i64) (.pair (.int .i64) (.pair (.int .i64) .unit)))) x0), (3, .os 0), (4, .int .i64 0)]) (H' := [(0, .row (.pair (.int .i64) (.pair (.int .i64) (.pair (.int .i64) .unit))) ((List.replicate (x0.length : Int).toNat (0, (0, (0, ())))) : (List (Int × (Int × (Int × Unit))))))]) (sub_r1 idn (nk rfl) (by kernel_rfl)) (al_cnt (fun i3 (s2 : (List (Int × (Int × (Int × Unit))))) => [(0, .v (.slice (.pair (.int .i64) (.pair (.int .i64) (.pair (.int .i64) .unit)))) x0), (3, .os 0), (4, .int .i64 i3)]) (fun i3 (s2 : (List (Int × (Int × (Int × Unit))))) => [(0, .row (.pair (.int .i64) (.pair (.int .i64) (.pair (.int .i64) .unit))) s2)]) (fun d i3 (s2 : (List (Int × (Int × (Int × Unit))))) => d = Int.toNat ((x0.length : Int) - i3) ∧ 0 ≤ i3 ∧ (s2.length : Int) = (x0.length : Int) ∧ i3 ≤ (x0.length : Int)) h ⟨rfl, (by (try simp only [List.length_set, List.length_append, List.length_cons, List.length_nil, List.length_replicate, List.length_take, List.length_drop]) <;> omega), (by (try simp only [List.length_set, List.length_append, List.length_cons, List.length_nil, List.length_replicate, List.length_take, List.length_drop]) <;> omega), (by (try simp only [List.length_set, List.length_append, List.length_cons, List.length_nil, List.length_replicate, List.length_take, List.length_drop]) <;> omega)⟩ (fun d4 i3 s2 hI h ih4 => ?_)))
  obtain ⟨hd, _, _, _⟩ := hI
  refine al_round ?_
  refine aw_seq ?_
  refine aw_seq ?_
  refine aw_region ?_
  refine ao_read trivial (r_move rfl) rfl ?_
  refine ao_read trivial (r_move rfl) rfl ?_
  refine ao_read trivial (r_len_vm (x0.length : Int) Try.underlying38 rfl rfl) rfl ?_
  refine ao_read trivial (r_lss rfl rfl) rfl ?_
  refine ao_nil ?_
  refine aq_then ?_
  refine aw_cond rfl (fun hb6 => ?_) (fun hb6 => ?_)
  · have q7 := d_t hb6
    obtain ⟨d4, rfl⟩ : ∃ e, d4 = e + 1 := ⟨d4 - 1, by omega⟩
    replace h := is_cntS h
    refine aw_skip ?_
    refine aq_then ?_
    refine aw_seq ?_
    refine aw_block ?_
    refine aw_region ?_
    refine ao_read trivial (r_move rfl) rfl ?_
    refine ao_read trivial (r_move rfl) rfl ?_
    refine ao_read trivial (r_move rfl) rfl ?_
    refine ao_read trivial (r_move rfl) rfl ?_
    refine ao_read trivial (r_idxAddr (t := (.pair (.int .i64) (.pair (.int .i64) (.pair (.int .i64) .unit)))) Try.underlying38 Try.sizeOf27 rfl rfl (show 0 ≤ i3 from by omega) (show i3 < (x0.length : Int) from by omega)) rfl ?_
    refine ao_read trivial (r_load_c (t := (.pair (.int .i64) (.pair (.int .i64) (.pair (.int .i64) .unit)))) Try.isAgg27 Try.sizeOf27 rfl) rfl ?_
    refine ao_scall trivial (scall (c_laws_toTask (is_mk (rfl : p_laws_toTask (x0.getD i3.toNat (0, (0, (0, ())))) = _))) rfl Try.func9 rfl rfl rfl rfl (fun σ => ⟨ad_ren rfl, trivial⟩)) rfl ?_
    refine ao_read trivial (r_idxAddr_os Try.underlying42 Try.sizeOf33 rfl rfl rfl (show 0 ≤ i3 from by omega) (show i3 < (s2.length : Int) from by omega)) rfl ?_
    refine ao_effS trivial (e_store_elem (t := (.pair (.int .i64) (.pair (.int .i64) (.pair (.int .i64) .unit)))) rfl Try.sizeOf33 rfl rfl rfl rfl (show i3.toNat < s2.length from by omega)) ?_
    refine ao_nil ?_
    refine aq_in ?_
    refine aq_then ?_
    refine aw_region ?_
    refine ao_read trivial (r_move rfl) rfl ?_
    refine ao_read trivial (r_addI rfl rfl (wrap_id (by omega) (by omega))) rfl ?_
    refine ao_read trivial (r_assign rfl) rfl ?_
    refine ao_nil ?_
    exact aq_again (AL.sub (sub_r1 idn (nk rfl) (by kernel_rfl)) (ih4 d4 (i3 + 1) (s2.set i3.toNat (p_laws_toTask (x0.getD i3.toNat (0, (0, (0, ())))))) (by omega) ⟨by omega, (by (try simp only [List.length_set, List.length_append, List.length_cons, List.length_nil, List.length_replicate, List.length_take, List.length_drop]) <;> omega), (by (try simp only [List.length_set, List.length_append, List.length_cons, List.length_nil, List.length_replicate, List.length_take, List.length_drop]) <;> omega), (by (try simp only [List.length_set, List.length_append, List.length_cons, List.length_nil, List.length_replicate, List.length_take, List.length_drop]) <;> omega)⟩ h))
  · have q8 := d_f hb6
    obtain rfl : d4 = 0 := by omega
    replace h := is_cnt0 h
    refine aw_exit ?_
    refine aq_then_exit ?_
    refine aq_then_exit ?_
    refine aq_in_exit ?_
    refine aq_then ?_
    refine aw_seq ?_
    refine aw_region ?_
    refine ao_read trivial (r_move rfl) rfl ?_
    refine ao_read trivial (r_assign rfl) rfl ?_
    refine ao_nil ?_
    refine aq_then ?_
    refine aw_ret ?_
    refine aq_ret ?_
    obtain rfl := is_some h
    exact aq_finx (l := [.tmp 2]) (xs := [.os 0]) idn [.os 0] [(0, .row (.pair (.int .i64) (.pair (.int .i64) (.pair (.int .i64) .unit))) s2)] rfl (by exact ⟨rfl, trivial⟩) (by exact ⟨ad_ren rfl, trivial⟩) (by exact ⟨⟨_, rfl, rfl⟩, trivial⟩) rfl (nk rfl) rfl rfl ⟨rfl, rfl⟩
theorem c_spec_DoTasks {fu : Nat} {x0 : ((List (List Int)) × (Int × ((List Int) × (Int × (Int × (Int × Unit))))))} {x1 : (List (Int × (Int × (Int × Unit))))} {r : ((List (List Int)) × (Int × ((List Int) × (Int × (Int × (Int × Unit)))))) × Int × Bool} (h : Is (p_spec_DoTasks fu x0 x1) (some r)) :
    ACalls Try.prog 15 [.v (.pair (.slice (.arr 6 (.int .i64))) (.pair (.int .i64) (.pair (.slice (.int .i64)) (.pair (.int .i64) (.pair (.int .i64) (.pair (.int .i64) .unit)))))) x0, .v (.slice (.pair (.int .i64) (.pair (.int .i64) (.pair (.int .i64) .unit)))) x1] [] (fun r' H' => r' = .tup [.st [.os 0, .int .i64 r.1.2.1, .os 1, .int .i64 r.1.2.2.2.1, .int .i64 r.1.2.2.2.2.1, .int .i64 r.1.2.2.2.2.2.1], .int .i64 r.2.1, .bool r.2.2] ∧ H' = [(0, .row (.arr 6 (.int .i64)) r.1.1), (1, .row (.int .i64) r.1.2.2.1)]) := by
  unfold p_spec_DoTasks at h
  refine ac_enter ⟨40, 0⟩ Try.func15 rfl rfl rfl rfl rfl (fun Γ => ?_)
  refine sl_len_m 1 (x1.length : Int) rfl rfl (fun hl1 => ?_)
  refine aw_seq ?_
  refine aw_region ?_
  refine ao_eff trivial (e_box 0 rfl rfl rfl rfl rfl rfl) rfl ?_
  refine ao_eff trivial (e_alloc 1 (y := .st [.nilsl, .int .i64 0, .nilsl, .int .i64 0, .int .i64 0, .int .i64 0]) Try.zeroValue29 (fun ρ h M => ra_zero_st (t := (.pair (.slice (.arr 6 (.int .i64))) (.pair (.int .i64) (.pair (.slice (.int .i64)) (.pair (.int .i64) (.pair (.int .i64) (.pair (.int .i64) .unit))))))) rfl rfl rfl) rfl rfl rfl rfl rfl) rfl ?_
  refine ao_read trivial (r_assign rfl) rfl ?_
  refine ao_read trivial (r_assign rfl) rfl ?_
  refine ao_nil ?_
  refine aq_then ?_
  refine aw_seq ?_
  refine aw_seq ?_
  refine aw_region ?_
  refine ao_read trivial (r_load_part (τ := (.pair (.slice (.arr 6 (.int .i64))) (.pair (.int .i64) (.pair (.slice (.int .i64)) (.pair (.int .i64) (.pair (.int .i64) (.pair (.int .i64) .unit))))))) (y := ((x0.1, (x0.2.1, (x0.2.2.1, (x0.2.2.2.1, (x0.2.2.2.2.1, (x0.2.2.2.2.2.1, ())))))) : ((List (List Int)) × (Int × ((List Int) × (Int × (Int × (Int × Unit)))))))) [] [] rfl Try.isAgg29 Try.sizeOf29 rfl rfl rfl rfl) rfl ?_
  obtain ⟨r1, r1h, h⟩ := is_bind h
  refine ao_scall trivial (scall (c_spec_l12Good (is_mk r1h)) rfl Try.func35 rfl rfl rfl rfl (fun σ => ⟨ad_ren rfl, trivial⟩)) rfl ?_
  refine ao_read trivial (r_not rfl) rfl ?_
  refine ao_nil ?_
  refine aq_then ?_
  refine aw_cond rfl (fun hb2 => ?_) (fun hb2 => ?_)
  · replace h := is_else (ne_t (not_t hb2)) h
    refine aw_seq ?_
    refine aw_region ?_
    refine ao_read trivial (r_build_st (l := []) (cs := [.cell (.nilsl), .cell (.int .i64 0), .cell (.nilsl), .cell (.int .i64 0), .cell (.int .i64 0), .cell (.int .i64 0)]) (.pair (.slice (.arr 6 (.int .i64))) (.pair (.int .i64) (.pair (.slice (.int .i64)) (.pair (.int .i64) (.pair (.int .i64) (.pair (.int .i64) .unit)))))) [(0, 1), (1, 1), (2, 1), (3, 1), (4, 1), (5, 1)] Try.underlying29 Try.zeroValue29 rfl ⟨rfl, Try.sizeOf22, rfl, Try.sizeOf3, rfl, Try.sizeOf23, rfl, Try.sizeOf3, rfl, Try.sizeOf3, rfl, Try.sizeOf3, trivial⟩ rfl rfl rfl) rfl ?_
    refine ao_effS trivial (e_store rfl rfl rfl rfl Try.sizeOf29 rfl) ?_
    refine ao_read trivial (r_assign rfl) rfl ?_
    refine ao_read trivial (r_assign rfl) rfl ?_
    refine ao_nil ?_
    refine aq_then ?_
    refine aw_ret ?_
    refine aq_then_ret ?_
    refine aq_ret ?_
    obtain rfl := is_some h
    refine AQ.sub (sub_nil_cell (t := (.arr 6 (.int .i64))) (i := 1) 2 [] [.cell (.int .i64 0), .cell (.nilsl), .cell (.int .i64 0), .cell (.int .i64 0), .cell (.int .i64 0)] rfl rfl rfl) ?_
    refine AQ.sub (sub_nil_cell (t := (.int .i64)) (i := 1) 3 [.cell (.os 2), .cell (.int .i64 0)] [.cell (.int .i64 0), .cell (.int .i64 0), .cell (.int .i64 0)] rfl rfl rfl) ?_
    exact aq_finx (l := [.cell 4 29, .tmp 5, .tmp 6]) (xs := [.st [.os 2, .int .i64 0, .os 3, .int .i64 0, .int .i64 0, .int .i64 0], .int .i64 0, .bool false]) (rn [(0, 2), (1, 3)]) [.st [.os 0, .int .i64 0, .os 1, .int .i64 0, .int .i64 0, .int .i64 0], .int .i64 0, .bool false] [(0, .row (.arr 6 (.int .i64)) ([] : (List (List Int)))), (1, .row (.int .i64) ([] : (List Int)))] rfl (by exact ⟨⟨⟨_, _, rfl⟩, r_load_st [] [.cell (.os 2), .cell (.int .i64 0), .cell (.os 3), .cell (.int .i64 0), .cell (.int .i64 0), .cell (.int .i64 0)] [] Try.isAgg29 Try.sizeOf29 rfl rfl rfl rfl rfl rfl rfl⟩, rfl, rfl, trivial⟩) (by exact ⟨ad_ren rfl, ad_ren rfl, ad_ren rfl, trivial⟩) (by exact ⟨⟨_, rfl, rfl⟩, ⟨_, rfl, rfl⟩, trivial⟩) rfl (nk rfl) rfl rfl ⟨rfl, rfl⟩
  · replace h := is_if (not_f hb2) h
    refine aw_skip ?_
    refine aq_then ?_
    refine aw_seq ?_
    refine aw_region ?_
    refine ao_read trivial (r_load_part (τ := (.pair (.slice (.arr 6 (.int .i64))) (.pair (.int .i64) (.pair (.slice (.int .i64)) (.pair (.int .i64) (.pair (.int .i64) (.pair (.int .i64) .unit))))))) (y := ((x0.1, (x0.2.1, (x0.2.2.1, (x0.2.2.2.1, (x0.2.2.2.2.1, (x0.2.2.2.2.2.1, ())))))) : ((List (List Int)) × (Int × ((List Int) × (Int × (Int × (Int × Unit)))))))) [] [] rfl Try.isAgg29 Try.sizeOf29 rfl rfl rfl rfl) rfl ?_
    obtain ⟨r3, r3h, h⟩ := is_bind h
    refine ao_call [] 2 trivial (c_spec_l12Own (is_mk r3h)) Try.func46 rfl rfl rfl rfl ⟨ad_ren rfl, trivial⟩ trivial rfl rfl rfl rfl rfl rfl rfl (fun r' H' hr => ?_)
    obtain ⟨rfl, rfl⟩ := hr
    refine ao_norm (y := .st [.os 2, .int .i64 r3.2.1, .os 3, .int .i64 r3.2.2.2.1, .int .i64 r3.2.2.2.2.1, .int .i64 r3.2.2.2.2.2.1]) (H' := [(1, .var [.cell (.nilsl), .cell (.int .i64 0), .cell (.nilsl), .cell (.int .i64 0), .cell (.int .i64 0), .cell (.int .i64 0)]), (0, .var [.cell (.v (.slice (.arr 6 (.int .i64))) x0.1), .cell (.int .i64 x0.2.1), .cell (.v (.slice (.int .i64)) x0.2.2.1), .cell (.int .i64 x0.2.2.2.1), .cell (.int .i64 x0.2.2.2.2.1), .cell (.int .i64 x0.2.2.2.2.2.1)]), (2, .row (.arr 6 (.int .i64)) r3.1), (3, .row (.int .i64) r3.2.2.1)]) rfl rfl ?_
    refine row_len_o 2 (r3.1.length : Int) rfl rfl (fun hr4 => ?_)
    refine row_len_o 3 (r3.2.2.1.length : Int) rfl rfl (fun hr5 => ?_)
    refine ao_eff trivial (e_alloc 4 (y := .st [.nilsl, .int .i64 0, .nilsl, .int .i64 0, .int .i64 0, .int .i64 0]) Try.zeroValue29 (fun ρ h M => ra_zero_st (t := (.pair (.slice (.arr 6 (.int .i64))) (.pair (.int .i64) (.pair (.slice (.int .i64)) (.pair (.int .i64) (.pair (.int .i64) (.pair (.int .i64) .unit))))))) rfl rfl rfl) rfl rfl rfl rfl rfl) rfl ?_
    refine ao_effS trivial (e_store rfl rfl rfl rfl Try.sizeOf29 rfl) ?_
    refine ao_nil ?_
    refine aq_then ?_
    refine aw_seq ?_
    refine aw_seq ?_
    refine aw_region ?_
    refine ao_read trivial (r_assign rfl) rfl ?_
    refine ao_nil ?_
    refine aq_then ?_
    refine aw_block ?_
    refine aw_loop (AL.sub (fr' := [(1, .v (.slice (.pair (.int .i64) (.pair (.int .i64) (.pair (.int .i64) .unit)))) x1), (4, .ref 0 0), (7, .ref 1 0), (8, .int .i64 0)]) (H' := [(0, .var [.cell (.nilsl), .cell (.int .i64 0), .cell (.nilsl), .cell (.int .i64 0), .cell (.int .i64 0), .cell (.int .i64 0)]), (1, .var [.cell (.os 2), .cell (.int .i64 r3.2.1), .cell (.os 3), .cell (.int .i64 r3.2.2.2.1), .cell (.int .i64 r3.2.2.2.2.1), .cell (.int .i64 r3.2.2.2.2.2.1)]), (2, .row (.arr 6 (.int .i64)) r3.1), (3, .row (.int .i64) r3.2.2.1)]) (sub_r1 (rn [(0, 1), (1, 4)]) (nk rfl) (by kernel_rfl)) (al_cnt (fun i7 (s6 : Int × Int × Int × Int × (List (List Int)) × (List Int)) => [(1, .v (.slice (.pair (.int .i64) (.pair (.int .i64) (.pair (.int .i64) .unit)))) x1), (4, .ref 0 0), (7, .ref 1 0), (8, .int .i64 i7)]) (fun i7 (s6 : Int × Int × Int × Int × (List (List Int)) × (List Int)) => [(0, .var [.cell (.nilsl), .cell (.int .i64 0), .cell (.nilsl), .cell (.int .i64 0), .cell (.int .i64 0), .cell (.int .i64 0)]), (1, .var [.cell (.os 2), .cell (.int .i64 s6.1), .cell (.os 3), .cell (.int .i64 s6.2.1), .cell (.int .i64 s6.2.2.1), .cell (.int .i64 s6.2.2.2.1)]), (2, .row (.arr 6 (.int .i64)) s6.2.2.2.2.1), (3, .row (.int .i64) s6.2.2.2.2.2)]) (fun d i7 (s6 : Int × Int × Int × Int × (List (List Int)) × (List Int)) => d = Int.toNat ((x1.length : Int) - i7) ∧ 0 ≤ i7 ∧ i7 ≤ (x1.length : Int)) h ⟨rfl, (by (try simp only [List.length_set, List.length_append, List.length_cons, List.length_nil, List.length_replicate, List.length_take, List.length_drop]) <;> omega), (by (try simp only [List.length_set, List.length_append, List.length_cons, List.length_nil, List.length_replicate, List.length_take, List.length_drop]) <;> omega)⟩ (fun d8 i7 s6 hI h ih8 => ?_)))
    obtain ⟨hd, _, _⟩ := hI
    refine al_round ?_
    refine aw_seq ?_
    refine aw_seq ?_
    refine aw_region ?_
    refine ao_read trivial (r_move rfl) rfl ?_
    refine ao_read trivial (r_move rfl) rfl ?_
    refine ao_read trivial (r_len_vm (x1.length : Int) Try.underlying42 rfl rfl) rfl ?_
    refine ao_read trivial (r_lss rfl rfl) rfl ?_
    refine ao_nil ?_
    refine aq_then ?_
    refine aw_cond rfl (fun hb10 => ?_) (fun hb10 => ?_)
    · have q11 := d_t hb10
      obtain ⟨d8, rfl⟩ : ∃ e, d8 = e + 1 := ⟨d8 - 1, by omega⟩
      replace h := is_cntS h
      refine aw_skip ?_
      refine aq_then ?_
      refine aw_seq ?_
      refine aw_block ?_
      refine aw_seq ?_
      obtain ⟨r13, r13h, h⟩ := is_bind h
      refine aw_drawP 12 rfl (by kernel_rfl) ?_
      refine ap_to [(1, .v (.slice (.pair (.int .i64) (.pair (.int .i64) (.pair (.int .i64) .unit)))) x1), (4, .ref 0 0), (7, .ref 1 0), (8, .int .i64 i7), (9, .ref 2 0), (10, .bool r13.2)] [(0, .var [.cell (.nilsl), .cell (.int .i64 0), .cell (.nilsl), .cell (.int .i64 0), .cell (.int .i64 0), .cell (.int .i64 0)]), (1, .var [.cell (.os 3), .cell (.int .i64 s6.1), .cell (.os 4), .cell (.int .i64 s6.2.1), .cell (.int .i64 s6.2.2.1), .cell (.int .i64 s6.2.2.2.1)]), (2, .var [.cell (.os 5), .cell (.int .i64 r13.1.2.1), .cell (.os 6), .cell (.int .i64 r13.1.2.2.2.1), .cell (.int .i64 r13.1.2.2.2.2.1), .cell (.int .i64 r13.1.2.2.2.2.2.1)]), (3, .row (.arr 6 (.int .i64)) s6.2.2.2.2.1), (4, .row (.int .i64) s6.2.2.2.2.2), (5, .row (.arr 6 (.int .i64)) r13.1.1), (6, .row (.int .i64) r13.1.2.2.1)] ?_ (fun key => ?_)
      · refine row_len_q 5 (r13.1.1.length : Int) rfl rfl (fun hr30 => ?_)
        refine row_len_q 6 (r13.1.2.2.1.length : Int) rfl rfl (fun hr31 => ?_)
        refine aq_then ?_
        refine aw_seq ?_
        refine aw_seq ?_
        refine aw_region ?_
        refine ao_read trivial (r_move rfl) rfl ?_
        refine ao_read trivial (r_not rfl) rfl ?_
        refine ao_nil ?_
        refine aq_then ?_
        refine aw_cond rfl (fun hb32 => ?_) (fun hb32 => ?_)
        · replace h := is_else (ne_t (not_t hb32)) h
          refine aw_seq ?_
          refine aw_region ?_
          refine ao_read trivial (r_load_st [] [.cell (.os 3), .cell (.int .i64 s6.1), .cell (.os 4), .cell (.int .i64 s6.2.1), .cell (.int .i64 s6.2.2.1), .cell (.int .i64 s6.2.2.2.1)] [] Try.isAgg29 Try.sizeOf29 rfl rfl rfl rfl rfl rfl rfl) rfl ?_
          refine ao_read trivial (r_move rfl) rfl ?_
          refine ao_effS trivial (e_store rfl rfl rfl rfl Try.sizeOf29 rfl) ?_
          refine ao_read trivial (r_assign rfl) rfl ?_
          refine ao_read trivial (r_assign rfl) rfl ?_
          refine ao_nil ?_
          refine aq_then ?_
          refine aw_ret ?_
          refine aq_then_ret ?_
          refine aq_in_ret ?_
          refine aq_then_ret ?_
          refine aq_then_ret ?_
          refine aq_in_ret ?_
          refine aq_then_ret ?_
          refine aq_ret ?_
          obtain rfl := is_some h
          exact aq_finx (l := [.cell 4 29, .tmp 5, .tmp 6]) (xs := [.st [.os 3, .int .i64 s6.1, .os 4, .int .i64 s6.2.1, .int .i64 s6.2.2.1, .int .i64 s6.2.2.2.1], .int .i64 i7, .bool true]) (rn [(0, 3), (1, 4)]) [.st [.os 0, .int .i64 s6.1, .os 1, .int .i64 s6.2.1, .int .i64 s6.2.2.1, .int .i64 s6.2.2.2.1], .int .i64 i7, .bool true] [(0, .row (.arr 6 (.int .i64)) s6.2.2.2.2.1), (1, .row (.int .i64) s6.2.2.2.2.2)] rfl (by exact ⟨⟨⟨_, _, rfl⟩, r_load_st [] [.cell (.os 3), .cell (.int .i64 s6.1), .cell (.os 4), .cell (.int .i64 s6.2.1), .cell (.int .i64 s6.2.2.1), .cell (.int .i64 s6.2.2.2.1)] [] Try.isAgg29 Try.sizeOf29 rfl rfl rfl rfl rfl rfl rfl⟩, rfl, rfl, trivial⟩) (by exact ⟨ad_ren rfl, ad_ren rfl, ad_ren rfl, trivial⟩) (by exact ⟨⟨_, rfl, rfl⟩, ⟨_, rfl, rfl⟩, trivial⟩) rfl (nk rfl) rfl rfl ⟨rfl, rfl⟩
        · replace h := is_if (not_f hb32) h
          refine aw_skip ?_
          refine aq_then ?_
          refine aw_region ?_
          refine ao_read trivial (r_load_st [] [.cell (.os 5), .cell (.int .i64 r13.1.2.1), .cell (.os 6), .cell (.int .i64 r13.1.2.2.2.1), .cell (.int .i64 r13.1.2.2.2.2.1), .cell (.int .i64 r13.1.2.2.2.2.2.1)] [] Try.isAgg29 Try.sizeOf29 rfl rfl rfl rfl rfl rfl rfl) rfl ?_
          refine ao_effS trivial (e_store rfl rfl rfl rfl Try.sizeOf29 rfl) ?_
          refine ao_nil ?_
          refine aq_in ?_
          refine aq_then ?_
          refine aw_region ?_
          refine ao_read trivial (r_move rfl) rfl ?_
          refine ao_read trivial (r_addI rfl rfl (wrap_id (by omega) (by omega))) rfl ?_
          refine ao_read trivial (r_assign rfl) rfl ?_
          refine ao_nil ?_
          exact aq_again (AL.sub (sub_r1 (rn [(2, 5), (3, 6)]) (nk rfl) (by kernel_rfl)) (ih8 d8 (i7 + 1) (r13.1.2.1, r13.1.2.2.2.1, r13.1.2.2.2.2.1, r13.1.2.2.2.2.2.1, r13.1.1, r13.1.2.2.1) (by omega) ⟨by omega, (by (try simp only [List.length_set, List.length_append, List.length_cons, List.length_nil, List.length_replicate, List.length_take, List.length_drop]) <;> omega), (by (try simp only [List.length_set, List.length_append, List.length_cons, List.length_nil, List.length_replicate, List.length_take, List.length_drop]) <;> omega)⟩ h))
      refine ap_let (g := 2) (listed := #[true, true, true, true, true, true, true, true, true, true, false, false]) [(1, .v (.slice (.pair (.int .i64) (.pair (.int .i64) (.pair (.int .i64) .unit)))) x1), (4, .ref 0 0), (7, .ref 1 0), (8, .int .i64 i7), (9, .ref 2 0), (30, .st [.os 3, .int .i64 r13.1.2.1, .os 4, .int .i64 r13.1.2.2.2.1, .int .i64 r13.1.2.2.2.2.1, .int .i64 r13.1.2.2.2.2.2.1]), (31, .bool r13.2)] [(0, .var [.cell (.nilsl), ci 0, .cell (.nilsl), ci 0, ci 0, ci 0]), (1, .var [.cell (.os 5), ci s6.1, .cell (.os 6), ci s6.2.1, ci s6.2.2.1, ci s6.2.2.2.1]), (2, .var [.cell (.nilsl), ci 0, .cell (.nilsl), ci 0, ci 0, ci 0]), (3, .row (.arr 6 (.int .i64)) r13.1.1), (4, .row (.int .i64) r13.1.2.2.1), (5, .row (.arr 6 (.int .i64)) s6.2.2.2.2.1), (6, .row (.int .i64) s6.2.2.2.2.2)] ?_ (fun k21 => ?_)
      · refine ap_all [10] (by kernel_rfl) ⟨?_, trivial⟩
        refine apo_ao rfl ?_
        refine ao_effS trivial (e_store rfl rfl rfl rfl Try.sizeOf29 rfl) ?_
        refine ap_ni ?_
        refine ap_pure 11 (by kernel_rfl) (fun _ _ _ h => h) rfl (by kernel_rfl) trivial (rp_assign rfl) rfl ?_
        exact ap_end (by kernel_rfl) (AQ.sub (sub_r1 (rn [(3, 5), (4, 6), (5, 3), (6, 4)]) (nk rfl) (by kernel_rfl)) key)
      refine ap_let (g := 3) (listed := #[true, true, true, true, true, true, true, true, true, false, false, false]) [(1, .v (.slice (.pair (.int .i64) (.pair (.int .i64) (.pair (.int .i64) .unit)))) x1), (4, .ref 0 0), (7, .ref 1 0), (8, .int .i64 i7), (30, .st [.os 2, .int .i64 r13.1.2.1, .os 3, .int .i64 r13.1.2.2.2.1, .int .i64 r13.1.2.2.2.2.1, .int .i64 r13.1.2.2.2.2.2.1]), (31, .bool r13.2)] [(0, .var [.cell (.nilsl), ci 0, .cell (.nilsl), ci 0, ci 0, ci 0]), (1, .var [.cell (.os 4), ci s6.1, .cell (.os 5), ci s6.2.1, ci s6.2.2.1, ci s6.2.2.2.1]), (2, .row (.arr 6 (.int .i64)) r13.1.1), (3, .row (.int .i64) r13.1.2.2.1), (4, .row (.arr 6 (.int .i64)) s6.2.2.2.2.1), (5, .row (.int .i64) s6.2.2.2.2.2)] ?_ (fun k20 => ?_)
      · refine ap_all [9] (by kernel_rfl) ⟨?_, trivial⟩
        refine apo_ao rfl ?_
        refine ao_eff trivial (e_alloc 6 (y := .st [.nilsl, .int .i64 0, .nilsl, .int .i64 0, .int .i64 0, .int .i64 0]) Try.zeroValue29 (fun ρ h M => ra_zero_st (t := (.pair (.slice (.arr 6 (.int .i64))) (.pair (.int .i64) (.pair (.slice (.int .i64)) (.pair (.int .i64) (.pair (.int .i64) (.pair (.int .i64) .unit))))))) rfl rfl rfl) rfl rfl rfl rfl rfl) rfl ?_
        refine ap_ni ?_
        exact ap_gr (rn [(2, 6), (3, 2), (4, 3), (5, 4), (6, 5)]) (nk rfl) k21 (by kernel_rfl)
      refine ap_let (g := 6) (listed := #[true, true, true, true, true, false, false, false, false, true, false, false]) [(1, .v (.slice (.pair (.int .i64) (.pair (.int .i64) (.pair (.int .i64) .unit)))) x1), (4, .ref 0 0), (7, .ref 1 0), (8, .int .i64 i7), (9, .ref 2 0), (24, .st [.os 3, .int .i64 s6.1, .os 4, .int .i64 s6.2.1, .int .i64 s6.2.2.1, .int .i64 s6.2.2.2.1]), (28, .v (.pair (.int .i64) (.pair (.int .i64) (.pair (.int .i64) .unit))) ((x1.getD i7.toNat (0, (0, (0, ())))) : (Int × (Int × (Int × Unit)))))] [(0, .var [.cell (.nilsl), ci 0, .cell (.nilsl), ci 0, ci 0, ci 0]), (1, .var [.cell (.os 3), ci s6.1, .cell (.os 4), ci s6.2.1, ci s6.2.2.1, ci s6.2.2.2.1]), (2, .var [.cell (.nilsl), ci 0, .cell (.nilsl), ci 0, ci 0, ci 0]), (3, .row (.arr 6 (.int .i64)) s6.2.2.2.2.1), (4, .row (.int .i64) s6.2.2.2.2.2)] ?_ (fun k22 => ?_)
      · refine ap_all [5] (by kernel_rfl) ⟨?_, trivial⟩
        refine apo_ao rfl ?_
        refine ao_call [] 5 trivial (c_spec_l12Do (is_mk r13h)) Try.func36 rfl rfl rfl rfl ⟨ad_st rfl rfl ⟨ad_os0 rfl, ad_ren rfl, ad_os0 rfl, ad_ren rfl, ad_ren rfl, ad_ren rfl, trivial⟩, ad_ren rfl, trivial⟩ trivial rfl rfl rfl rfl rfl rfl rfl (fun r' H' hr => ?_)
        obtain ⟨rfl, rfl⟩ := hr
        refine ao_norm (y := .tup [.st [.os 5, .int .i64 r13.1.2.1, .os 6, .int .i64 r13.1.2.2.2.1, .int .i64 r13.1.2.2.2.2.1, .int .i64 r13.1.2.2.2.2.2.1], .bool r13.2]) (H' := [(0, .var [.cell (.nilsl), .cell (.int .i64 0), .cell (.nilsl), .cell (.int .i64 0), .cell (.int .i64 0), .cell (.int .i64 0)]), (1, .var [.cell (.os 3), .cell (.int .i64 s6.1), .cell (.os 4), .cell (.int .i64 s6.2.1), .cell (.int .i64 s6.2.2.1), .cell (.int .i64 s6.2.2.2.1)]), (2, .var [.cell (.nilsl), .cell (.int .i64 0), .cell (.nilsl), .cell (.int .i64 0), .cell (.int .i64 0), .cell (.int .i64 0)]), (3, .row (.arr 6 (.int .i64)) s6.2.2.2.2.1), (4, .row (.int .i64) s6.2.2.2.2.2), (5, .row (.arr 6 (.int .i64)) r13.1.1), (6, .row (.int .i64) r13.1.2.2.1)]) rfl rfl ?_
        refine row_len_o 5 (r13.1.1.length : Int) rfl rfl (fun hr14 => ?_)
        refine row_len_o 6 (r13.1.2.2.1.length : Int) rfl rfl (fun hr15 => ?_)
        refine ap_ni ?_
        refine ap_pure 6 (by kernel_rfl) (fun _ _ _ h => h) rfl (by kernel_rfl) trivial (rp_move rfl) rfl ?_
        refine ap_pure 7 (by kernel_rfl) (fun _ _ _ h => h) rfl (by kernel_rfl) trivial (rp_extract rfl rfl) rfl ?_
        refine ap_pure 8 (by kernel_rfl) (fun _ _ _ h => h) rfl (by kernel_rfl) trivial (rp_extract rfl rfl) rfl ?_
        exact ap_gr (rn [(3, 5), (4, 6), (5, 3), (6, 4)]) (nk rfl) k21 (by kernel_rfl)
      refine ap_let (g := 7) (listed := #[true, true, true, true, true, false, false, false, false, false, false, false]) [(1, .v (.slice (.pair (.int .i64) (.pair (.int .i64) (.pair (.int .i64) .unit)))) x1), (4, .ref 0 0), (7, .ref 1 0), (8, .int .i64 i7), (24, .st [.os 2, .int .i64 s6.1, .os 3, .int .i64 s6.2.1, .int .i64 s6.2.2.1, .int .i64 s6.2.2.2.1]), (28, .v (.pair (.int .i64) (.pair (.int .i64) (.pair (.int .i64) .unit))) ((x1.getD i7.toNat (0, (0, (0, ())))) : (Int × (Int × (Int × Unit)))))] [(0, .var [.cell (.nilsl), ci 0, .cell (.nilsl), ci 0, ci 0, ci 0]), (1, .var [.cell (.os 2), ci s6.1, .cell (.os 3), ci s6.2.1, ci s6.2.2.1, ci s6.2.2.2.1]), (2, .row (.arr 6 (.int .i64)) s6.2.2.2.2.1), (3, .row (.int .i64) s6.2.2.2.2.2)] ?_ (fun k19 => ?_)
      · refine ap_all [5, 9] (by kernel_rfl) ⟨?_, ?_, trivial⟩
        · refine apo_ao rfl ?_
          refine ao_call [] 4 trivial (c_spec_l12Do (is_mk r13h)) Try.func36 rfl rfl rfl rfl ⟨ad_st rfl rfl ⟨ad_os0 rfl, ad_ren rfl, ad_os0 rfl, ad_ren rfl, ad_ren rfl, ad_ren rfl, trivial⟩, ad_ren rfl, trivial⟩ trivial rfl rfl rfl rfl rfl rfl rfl (fun r' H' hr => ?_)
          obtain ⟨rfl, rfl⟩ := hr
          refine ao_norm (y := .tup [.st [.os 4, .int .i64 r13.1.2.1, .os 5, .int .i64 r13.1.2.2.2.1, .int .i64 r13.1.2.2.2.2.1, .int .i64 r13.1.2.2.2.2.2.1], .bool r13.2]) (H' := [(0, .var [.cell (.nilsl), .cell (.int .i64 0), .cell (.nilsl), .cell (.int .i64 0), .cell (.int .i64 0), .cell (.int .i64 0)]), (1, .var [.cell (.os 2), .cell (.int .i64 s6.1), .cell (.os 3), .cell (.int .i64 s6.2.1), .cell (.int .i64 s6.2.2.1), .cell (.int .i64 s6.2.2.2.1)]), (2, .row (.arr 6 (.int .i64)) s6.2.2.2.2.1), (3, .row (.int .i64) s6.2.2.2.2.2), (4, .row (.arr 6 (.int .i64)) r13.1.1), (5, .row (.int .i64) r13.1.2.2.1)]) rfl rfl ?_
          refine row_len_o 4 (r13.1.1.length : Int) rfl rfl (fun hr14 => ?_)
          refine row_len_o 5 (r13.1.2.2.1.length : Int) rfl rfl (fun hr15 => ?_)
          refine ap_ni ?_
          refine ap_pure 6 (by kernel_rfl) (fun _ _ _ h => h) rfl (by kernel_rfl) trivial (rp_move rfl) rfl ?_
          refine ap_pure 7 (by kernel_rfl) (fun _ _ _ h => h) rfl (by kernel_rfl) trivial (rp_extract rfl rfl) rfl ?_
          refine ap_pure 8 (by kernel_rfl) (fun _ _ _ h => h) rfl (by kernel_rfl) trivial (rp_extract rfl rfl) rfl ?_
          exact ap_gr (rn [(2, 4), (3, 5), (4, 2), (5, 3)]) (nk rfl) k20 (by kernel_rfl)
        · refine apo_ao rfl ?_
          refine ao_eff trivial (e_alloc 4 (y := .st [.nilsl, .int .i64 0, .nilsl, .int .i64 0, .int .i64 0, .int .i64 0]) Try.zeroValue29 (fun ρ h M => ra_zero_st (t := (.pair (.slice (.arr 6 (.int .i64))) (.pair (.int .i64) (.pair (.slice (.int .i64)) (.pair (.int .i64) (.pair (.int .i64) (.pair (.int .i64) .unit))))))) rfl rfl rfl) rfl rfl rfl rfl rfl) rfl ?_
          refine ap_ni ?_
          exact ap_gr (rn [(2, 4), (3, 2), (4, 3)]) (nk rfl) k22 (by kernel_rfl)
      refine ap_let (g := 7) (listed := #[true, true, true, true, false, false, false, false, false, true, false, false]) [(1, .v (.slice (.pair (.int .i64) (.pair (.int .i64) (.pair (.int .i64) .unit)))) x1), (4, .ref 0 0), (7, .ref 1 0), (8, .int .i64 i7), (9, .ref 2 0), (24, .st [.os 3, .int .i64 s6.1, .os 4, .int .i64 s6.2.1, .int .i64 s6.2.2.1, .int .i64 s6.2.2.2.1]), (27, .cptr (.pair (.int .i64) (.pair (.int .i64) (.pair (.int .i64) .unit))) ((x1.getD i7.toNat (0, (0, (0, ())))) : (Int × (Int × (Int × Unit)))))] [(0, .var [.cell (.nilsl), ci 0, .cell (.nilsl), ci 0, ci 0, ci 0]), (1, .var [.cell (.os 3), ci s6.1, .cell (.os 4), ci s6.2.1, ci s6.2.2.1, ci s6.2.2.2.1]), (2, .var [.cell (.nilsl), ci 0, .cell (.nilsl), ci 0, ci 0, ci 0]), (3, .row (.arr 6 (.int .i64)) s6.2.2.2.2.1), (4, .row (.int .i64) s6.2.2.2.2.2)] ?_ (fun k23 => ?_)
      · refine ap_all [4] (by kernel_rfl) ⟨?_, trivial⟩
        refine apo_ao rfl ?_
        refine ao_read trivial (r_load_c (t := (.pair (.int .i64) (.pair (.int .i64) (.pair (.int .i64) .unit)))) Try.isAgg33 Try.sizeOf33 rfl) rfl ?_
        refine ap_ni ?_
        exact ap_gr idn (nk rfl) k22 (by kernel_rfl)
      refine ap_let (g := 7) (listed := #[false, true, true, true, true, false, false, false, false, true, false, false]) [(1, .v (.slice (.pair (.int .i64) (.pair (.int .i64) (.pair (.int .i64) .unit)))) x1), (4, .ref 0 0), (7, .ref 1 0), (8, .int .i64 i7), (9, .ref 2 0), (28, .v (.pair (.int .i64) (.pair (.int .i64) (.pair (.int .i64) .unit))) ((x1.getD i7.toNat (0, (0, (0, ())))) : (Int × (Int × (Int × Unit)))))] [(0, .var [.cell (.nilsl), ci 0, .cell (.nilsl), ci 0, ci 0, ci 0]), (1, .var [.cell (.os 3), ci s6.1, .cell (.os 4), ci s6.2.1, ci s6.2.2.1, ci s6.2.2.2.1]), (2, .var [.cell (.nilsl), ci 0, .cell (.nilsl), ci 0, ci 0, ci 0]), (3, .row (.arr 6 (.int .i64)) s6.2.2.2.2.1), (4, .row (.int .i64) s6.2.2.2.2.2)] ?_ (fun k27 => ?_)
      · refine ap_all [0] (by kernel_rfl) ⟨?_, trivial⟩
        refine apo_ao rfl ?_
        refine ao_read trivial (r_load_st [] [.cell (.os 3), .cell (.int .i64 s6.1), .cell (.os 4), .cell (.int .i64 s6.2.1), .cell (.int .i64 s6.2.2.1), .cell (.int .i64 s6.2.2.2.1)] [] Try.isAgg29 Try.sizeOf29 rfl rfl rfl rfl rfl rfl rfl) rfl ?_
        refine ap_ni ?_
        exact ap_gr idn (nk rfl) k22 (by kernel_rfl)
      refine ap_let (g := 8) (listed := #[true, true, true, true, false, false, false, false, false, false, false, false]) [(1, .v (.slice (.pair (.int .i64) (.pair (.int .i64) (.pair (.int .i64) .unit)))) x1), (4, .ref 0 0), (7, .ref 1 0), (8, .int .i64 i7), (24, .st [.os 2, .int .i64 s6.1, .os 3, .int .i64 s6.2.1, .int .i64 s6.2.2.1, .int .i64 s6.2.2.2.1]), (27, .cptr (.pair (.int .i64) (.pair (.int .i64) (.pair (.int .i64) .unit))) ((x1.getD i7.toNat (0, (0, (0, ())))) : (Int × (Int × (Int × Unit)))))] [(0, .var [.cell (.nilsl), ci 0, .cell (.nilsl), ci 0, ci 0, ci 0]), (1, .var [.cell (.os 2), ci s6.1, .cell (.os 3), ci s6.2.1, ci s6.2.2.1, ci s6.2.2.2.1]), (2, .row (.arr 6 (.int .i64)) s6.2.2.2.2.1), (3, .row (.int .i64) s6.2.2.2.2.2)] ?_ (fun k18 => ?_)
      · refine ap_all [4, 9] (by kernel_rfl) ⟨?_, ?_, trivial⟩
        · refine apo_ao rfl ?_
          refine ao_read trivial (r_load_c (t := (.pair (.int .i64) (.pair (.int .i64) (.pair (.int .i64) .unit)))) Try.isAgg33 Try.sizeOf33 rfl) rfl ?_
          refine ap_ni ?_
          exact ap_gr idn (nk rfl) k19 (by kernel_rfl)
        · refine apo_ao rfl ?_
          refine ao_eff trivial (e_alloc 4 (y := .st [.nilsl, .int .i64 0, .nilsl, .int .i64 0, .int .i64 0, .int .i64 0]) Try.zeroValue29 (fun ρ h M => ra_zero_st (t := (.pair (.slice (.arr 6 (.int .i64))) (.pair (.int .i64) (.pair (.slice (.int .i64)) (.pair (.int .i64) (.pair (.int .i64) (.pair (.int .i64) .unit))))))) rfl rfl rfl) rfl rfl rfl rfl rfl) rfl ?_
          refine ap_ni ?_
          exact ap_gr (rn [(2, 4), (3, 2), (4, 3)]) (nk rfl) k23 (by kernel_rfl)
      refine ap_let (g := 8) (listed := #[true, true, true, false, false, false, false, false, false, true, false, false]) [(1, .v (.slice (.pair (.int .i64) (.pair (.int .i64) (.pair (.int .i64) .unit)))) x1), (4, .ref 0 0), (7, .ref 1 0), (8, .int .i64 i7), (9, .ref 2 0), (24, .st [.os 3, .int .i64 s6.1, .os 4, .int .i64 s6.2.1, .int .i64 s6.2.2.1, .int .i64 s6.2.2.2.1]), (25, .v (.slice (.pair (.int .i64) (.pair (.int .i64) (.pair (.int .i64) .unit)))) x1), (26, .int .i64 i7)] [(0, .var [.cell (.nilsl), ci 0, .cell (.nilsl), ci 0, ci 0, ci 0]), (1, .var [.cell (.os 3), ci s6.1, .cell (.os 4), ci s6.2.1, ci s6.2.2.1, ci s6.2.2.2.1]), (2, .var [.cell (.nilsl), ci 0, .cell (.nilsl), ci 0, ci 0, ci 0]), (3, .row (.arr 6 (.int .i64)) s6.2.2.2.2.1), (4, .row (.int .i64) s6.2.2.2.2.2)] ?_ (fun k24 => ?_)
      · refine ap_all [3] (by kernel_rfl) ⟨?_, trivial⟩
        refine apo_ao rfl ?_
        refine ao_read trivial (r_idxAddr (t := (.pair (.int .i64) (.pair (.int .i64) (.pair (.int .i64) .unit)))) Try.underlying42 Try.sizeOf33 rfl rfl (show 0 ≤ i7 from by omega) (show i7 < (x1.length : Int) from by omega)) rfl ?_
        refine ap_ni ?_
        exact ap_gr idn (nk rfl) k23 (by kernel_rfl)
      refine ap_let (g := 8) (listed := #[false, true, true, true, true, false, false, false, false, false, false, false]) [(1, .v (.slice (.pair (.int .i64) (.pair (.int .i64) (.pair (.int .i64) .unit)))) x1), (4, .ref 0 0), (7, .ref 1 0), (8, .int .i64 i7), (28, .v (.pair (.int .i64) (.pair (.int .i64) (.pair (.int .i64) .unit))) ((x1.getD i7.toNat (0, (0, (0, ())))) : (Int × (Int × (Int × Unit)))))] [(0, .var [.cell (.nilsl), ci 0, .cell (.nilsl), ci 0, ci 0, ci 0]), (1, .var [.cell (.os 2), ci s6.1, .cell (.os 3), ci s6.2.1, ci s6.2.2.1, ci s6.2.2.2.1]), (2, .row (.arr 6 (.int .i64)) s6.2.2.2.2.1), (3, .row (.int .i64) s6.2.2.2.2.2)] ?_ (fun k26 => ?_)
      · refine ap_all [0, 9] (by kernel_rfl) ⟨?_, ?_, trivial⟩
        · refine apo_ao rfl ?_
          refine ao_read trivial (r_load_st [] [.cell (.os 2), .cell (.int .i64 s6.1), .cell (.os 3), .cell (.int .i64 s6.2.1), .cell (.int .i64 s6.2.2.1), .cell (.int .i64 s6.2.2.2.1)] [] Try.isAgg29 Try.sizeOf29 rfl rfl rfl rfl rfl rfl rfl) rfl ?_
          refine ap_ni ?_
          exact ap_gr idn (nk rfl) k19 (by kernel_rfl)
        · refine apo_ao rfl ?_
          refine ao_eff trivial (e_alloc 4 (y := .st [.nilsl, .int .i64 0, .nilsl, .int .i64 0, .int .i64 0, .int .i64 0]) Try.zeroValue29 (fun ρ h M => ra_zero_st (t := (.pair (.slice (.arr 6 (.int .i64))) (.pair (.int .i64) (.pair (.slice (.int .i64)) (.pair (.int .i64) (.pair (.int .i64) (.pair (.int .i64) .unit))))))) rfl rfl rfl) rfl rfl rfl rfl rfl) rfl ?_
          refine ap_ni ?_
          exact ap_gr (rn [(2, 4), (3, 2), (4, 3)]) (nk rfl) k27 (by kernel_rfl)
      refine ap_let (g := 8) (listed := #[false, true, true, true, false, false, false, false, false, true, false, false]) [(1, .v (.slice (.pair (.int .i64) (.pair (.int .i64) (.pair (.int .i64) .unit)))) x1), (4, .ref 0 0), (7, .ref 1 0), (8, .int .i64 i7), (9, .ref 2 0), (27, .cptr (.pair (.int .i64) (.pair (.int .i64) (.pair (.int .i64) .unit))) ((x1.getD i7.toNat (0, (0, (0, ())))) : (Int × (Int × (Int × Unit)))))] [(0, .var [.cell (.nilsl), ci 0, .cell (.nilsl), ci 0, ci 0, ci 0]), (1, .var [.cell (.os 3), ci s6.1, .cell (.os 4), ci s6.2.1, ci s6.2.2.1, ci s6.2.2.2.1]), (2, .var [.cell (.nilsl), ci 0, .cell (.nilsl), ci 0, ci 0, ci 0]), (3, .row (.arr 6 (.int .i64)) s6.2.2.2.2.1), (4, .row (.int .i64) s6.2.2.2.2.2)] ?_ (fun k28 => ?_)
      · refine ap_all [0, 4] (by kernel_rfl) ⟨?_, ?_, trivial⟩
        · refine apo_ao rfl ?_
          refine ao_read trivial (r_load_st [] [.cell (.os 3), .cell (.int .i64 s6.1), .cell (.os 4), .cell (.int .i64 s6.2.1), .cell (.int .i64 s6.2.2.1), .cell (.int .i64 s6.2.2.2.1)] [] Try.isAgg29 Try.sizeOf29 rfl rfl rfl rfl rfl rfl rfl) rfl ?_
          refine ap_ni ?_
          exact ap_gr idn (nk rfl) k23 (by kernel_rfl)
        · refine apo_ao rfl ?_
          refine ao_read trivial (r_load_c (t := (.pair (.int .i64) (.pair (.int .i64) (.pair (.int .i64) .unit)))) Try.isAgg33 Try.sizeOf33 rfl) rfl ?_
          refine ap_ni ?_
          exact ap_gr idn (nk rfl) k27 (by kernel_rfl)
      refine ap_let (g := 9) (listed := #[true, true, true, false, false, false, false, false, false, false, false, false]) [(1, .v (.slice (.pair (.int .i64) (.pair (.int .i64) (.pair (.int .i64) .unit)))) x1), (4, .ref 0 0), (7, .ref 1 0), (8, .int .i64 i7), (24, .st [.os 2, .int .i64 s6.1, .os 3, .int .i64 s6.2.1, .int .i64 s6.2.2.1, .int .i64 s6.2.2.2.1]), (25, .v (.slice (.pair (.int .i64) (.pair (.int .i64) (.pair (.int .i64) .unit)))) x1), (26, .int .i64 i7)] [(0, .var [.cell (.nilsl), ci 0, .cell (.nilsl), ci 0, ci 0, ci 0]), (1, .var [.cell (.os 2), ci s6.1, .cell (.os 3), ci s6.2.1, ci s6.2.2.1, ci s6.2.2.2.1]), (2, .row (.arr 6 (.int .i64)) s6.2.2.2.2.1), (3, .row (.int .i64) s6.2.2.2.2.2)] ?_ (fun k17 => ?_)
      · refine ap_all [3, 9] (by kernel_rfl) ⟨?_, ?_, trivial⟩
        · refine apo_ao rfl ?_
          refine ao_read trivial (r_idxAddr (t := (.pair (.int .i64) (.pair (.int .i64) (.pair (.int .i64) .unit)))) Try.underlying42 Try.sizeOf33 rfl rfl (show 0 ≤ i7 from by omega) (show i7 < (x1.length : Int) from by omega)) rfl ?_
          refine ap_ni ?_
          exact ap_gr idn (nk rfl) k18 (by kernel_rfl)
        · refine apo_ao rfl ?_
          refine ao_eff trivial (e_alloc 4 (y := .st [.nilsl, .int .i64 0, .nilsl, .int .i64 0, .int .i64 0, .int .i64 0]) Try.zeroValue29 (fun ρ h M => ra_zero_st (t := (.pair (.slice (.arr 6 (.int .i64))) (.pair (.int .i64) (.pair (.slice (.int .i64)) (.pair (.int .i64) (.pair (.int .i64) (.pair (.int .i64) .unit))))))) rfl rfl rfl) rfl rfl rfl rfl rfl) rfl ?_
          refine ap_ni ?_
          exact ap_gr (rn [(2, 4), (3, 2), (4, 3)]) (nk rfl) k24 (by kernel_rfl)
      refine ap_let (g := 9) (listed := #[false, true, true, true, false, false, false, false, false, false, false, false]) [(1, .v (.slice (.pair (.int .i64) (.pair (.int .i64) (.pair (.int .i64) .unit)))) x1), (4, .ref 0 0), (7, .ref 1 0), (8, .int .i64 i7), (27, .cptr (.pair (.int .i64) (.pair (.int .i64) (.pair (.int .i64) .unit))) ((x1.getD i7.toNat (0, (0, (0, ())))) : (Int × (Int × (Int × Unit)))))] [(0, .var [.cell (.nilsl), ci 0, .cell (.nilsl), ci 0, ci 0, ci 0]), (1, .var [.cell (.os 2), ci s6.1, .cell (.os 3), ci s6.2.1, ci s6.2.2.1, ci s6.2.2.2.1]), (2, .row (.arr 6 (.int .i64)) s6.2.2.2.2.1), (3, .row (.int .i64) s6.2.2.2.2.2)] ?_ (fun k25 => ?_)
      · refine ap_all [0, 4, 9] (by kernel_rfl) ⟨?_, ?_, ?_, trivial⟩
        · refine apo_ao rfl ?_
          refine ao_read trivial (r_load_st [] [.cell (.os 2), .cell (.int .i64 s6.1), .cell (.os 3), .cell (.int .i64 s6.2.1), .cell (.int .i64 s6.2.2.1), .cell (.int .i64 s6.2.2.2.1)] [] Try.isAgg29 Try.sizeOf29 rfl rfl rfl rfl rfl rfl rfl) rfl ?_
          refine ap_ni ?_
          exact ap_gr idn (nk rfl) k18 (by kernel_rfl)
        · refine apo_ao rfl ?_
          refine ao_read trivial (r_load_c (t := (.pair (.int .i64) (.pair (.int .i64) (.pair (.int .i64) .unit)))) Try.isAgg33 Try.sizeOf33 rfl) rfl ?_
          refine ap_ni ?_
          exact ap_gr idn (nk rfl) k26 (by kernel_rfl)
        · refine apo_ao rfl ?_
          refine ao_eff trivial (e_alloc 4 (y := .st [.nilsl, .int .i64 0, .nilsl, .int .i64 0, .int .i64 0, .int .i64 0]) Try.zeroValue29 (fun ρ h M => ra_zero_st (t := (.pair (.slice (.arr 6 (.int .i64))) (.pair (.int .i64) (.pair (.slice (.int .i64)) (.pair (.int .i64) (.pair (.int .i64) (.pair (.int .i64) .unit))))))) rfl rfl rfl) rfl rfl rfl rfl rfl) rfl ?_
          refine ap_ni ?_
          exact ap_gr (rn [(2, 4), (3, 2), (4, 3)]) (nk rfl) k28 (by kernel_rfl)
      refine ap_let (g := 9) (listed := #[false, true, true, false, false, false, false, false, false, true, false, false]) [(1, .v (.slice (.pair (.int .i64) (.pair (.int .i64) (.pair (.int .i64) .unit)))) x1), (4, .ref 0 0), (7, .ref 1 0), (8, .int .i64 i7), (9, .ref 2 0), (25, .v (.slice (.pair (.int .i64) (.pair (.int .i64) (.pair (.int .i64) .unit)))) x1), (26, .int .i64 i7)] [(0, .var [.cell (.nilsl), ci 0, .cell (.nilsl), ci 0, ci 0, ci 0]), (1, .var [.cell (.os 3), ci s6.1, .cell (.os 4), ci s6.2.1, ci s6.2.2.1, ci s6.2.2.2.1]), (2, .var [.cell (.nilsl), ci 0, .cell (.nilsl), ci 0, ci 0, ci 0]), (3, .row (.arr 6 (.int .i64)) s6.2.2.2.2.1), (4, .row (.int .i64) s6.2.2.2.2.2)] ?_ (fun k29 => ?_)
      · refine ap_all [0, 3] (by kernel_rfl) ⟨?_, ?_, trivial⟩
        · refine apo_ao rfl ?_
          refine ao_read trivial (r_load_st [] [.cell (.os 3), .cell (.int .i64 s6.1), .cell (.os 4), .cell (.int .i64 s6.2.1), .cell (.int .i64 s6.2.2.1), .cell (.int .i64 s6.2.2.2.1)] [] Try.isAgg29 Try.sizeOf29 rfl rfl rfl rfl rfl rfl rfl) rfl ?_
          refine ap_ni ?_
          exact ap_gr idn (nk rfl) k24 (by kernel_rfl)
        · refine apo_ao rfl ?_
          refine ao_read trivial (r_idxAddr (t := (.pair (.int .i64) (.pair (.int .i64) (.pair (.int .i64) .unit)))) Try.underlying42 Try.sizeOf33 rfl rfl (show 0 ≤ i7 from by omega) (show i7 < (x1.length : Int) from by omega)) rfl ?_
          refine ap_ni ?_
          exact ap_gr idn (nk rfl) k28 (by kernel_rfl)
      refine ap_let (g := 10) (listed := #[false, true, true, false, false, false, false, false, false, false, false, false]) [(1, .v (.slice (.pair (.int .i64) (.pair (.int .i64) (.pair (.int .i64) .unit)))) x1), (4, .ref 0 0), (7, .ref 1 0), (8, .int .i64 i7), (25, .v (.slice (.pair (.int .i64) (.pair (.int .i64) (.pair (.int .i64) .unit)))) x1), (26, .int .i64 i7)] [(0, .var [.cell (.nilsl), ci 0, .cell (.nilsl), ci 0, ci 0, ci 0]), (1, .var [.cell (.os 2), ci s6.1, .cell (.os 3), ci s6.2.1, ci s6.2.2.1, ci s6.2.2.2.1]), (2, .row (.arr 6 (.int .i64)) s6.2.2.2.2.1), (3, .row (.int .i64) s6.2.2.2.2.2)] ?_ (fun k16 => ?_)
      · refine ap_all [0, 3, 9] (by kernel_rfl) ⟨?_, ?_, ?_, trivial⟩
        · refine apo_ao rfl ?_
          refine ao_read trivial (r_load_st [] [.cell (.os 2), .cell (.int .i64 s6.1), .cell (.os 3), .cell (.int .i64 s6.2.1), .cell (.int .i64 s6.2.2.1), .cell (.int .i64 s6.2.2.2.1)] [] Try.isAgg29 Try.sizeOf29 rfl rfl rfl rfl rfl rfl rfl) rfl ?_
          refine ap_ni ?_
          exact ap_gr idn (nk rfl) k17 (by kernel_rfl)
        · refine apo_ao rfl ?_
          refine ao_read trivial (r_idxAddr (t := (.pair (.int .i64) (.pair (.int .i64) (.pair (.int .i64) .unit)))) Try.underlying42 Try.sizeOf33 rfl rfl (show 0 ≤ i7 from by omega) (show i7 < (x1.length : Int) from by omega)) rfl ?_
          refine ap_ni ?_
          exact ap_gr idn (nk rfl) k25 (by kernel_rfl)
        · refine apo_ao rfl ?_
          refine ao_eff trivial (e_alloc 4 (y := .st [.nilsl, .int .i64 0, .nilsl, .int .i64 0, .int .i64 0, .int .i64 0]) Try.zeroValue29 (fun ρ h M => ra_zero_st (t := (.pair (.slice (.arr 6 (.int .i64))) (.pair (.int .i64) (.pair (.slice (.int .i64)) (.pair (.int .i64) (.pair (.int .i64) (.pair (.int .i64) .unit))))))) rfl rfl rfl) rfl rfl rfl rfl rfl) rfl ?_
          refine ap_ni ?_
          exact ap_gr (rn [(2, 4), (3, 2), (4, 3)]) (nk rfl) k29 (by kernel_rfl)
      refine ap_pure 1 (by kernel_rfl) (fun _ _ _ h => h) rfl (by kernel_rfl) trivial (rp_move rfl) rfl ?_
      refine ap_pure 2 (by kernel_rfl) (fun _ _ _ h => h) rfl (by kernel_rfl) trivial (rp_move rfl) rfl ?_
      exact ap_gr idn (nk rfl) k16 (by kernel_rfl)
    · have q12 := d_f hb10
      obtain rfl : d8 = 0 := by omega
      replace h := is_cnt0 h
      refine aw_exit ?_
      refine aq_then_exit ?_
      refine aq_then_exit ?_
      refine aq_in_exit ?_
      refine aq_then ?_
      refine aw_seq ?_
      refine aw_region ?_
      refine ao_read trivial (r_load_st [] [.cell (.os 2), .cell (.int .i64 s6.1), .cell (.os 3), .cell (.int .i64 s6.2.1), .cell (.int .i64 s6.2.2.1), .cell (.int .i64 s6.2.2.2.1)] [] Try.isAgg29 Try.sizeOf29 rfl rfl rfl rfl rfl rfl rfl) rfl ?_
      refine ao_read trivial (r_move rfl) rfl ?_
      refine ao_read trivial (r_len_vm (x1.length : Int) Try.underlying42 rfl rfl) rfl ?_
      refine ao_effS trivial (e_store rfl rfl rfl rfl Try.sizeOf29 rfl) ?_
      refine ao_read trivial (r_assign rfl) rfl ?_
      refine ao_read trivial (r_assign rfl) rfl ?_
      refine ao_nil ?_
      refine aq_then ?_
      refine aw_ret ?_
      refine aq_ret ?_
      obtain rfl := is_some h
      exact aq_finx (l := [.cell 4 29, .tmp 5, .tmp 6]) (xs := [.st [.os 2, .int .i64 s6.1, .os 3, .int .i64 s6.2.1, .int .i64 s6.2.2.1, .int .i64 s6.2.2.2.1], .int .i64 (x1.length : Int), .bool true]) (rn [(0, 2), (1, 3)]) [.st [.os 0, .int .i64 s6.1, .os 1, .int .i64 s6.2.1, .int .i64 s6.2.2.1, .int .i64 s6.2.2.2.1], .int .i64 (x1.length : Int), .bool true] [(0, .row (.arr 6 (.int .i64)) s6.2.2.2.2.1), (1, .row (.int .i64) s6.2.2.2.2.2)] rfl (by exact ⟨⟨⟨_, _, rfl⟩, r_load_st [] [.cell (.os 2), .cell (.int .i64 s6.1), .cell (.os 3), .cell (.int .i64 s6.2.1), .cell (.int .i64 s6.2.2.1), .cell (.int .i64 s6.2.2.2.1)] [] Try.isAgg29 Try.sizeOf29 rfl rfl rfl rfl rfl rfl rfl⟩, rfl, rfl, trivial⟩) (by exact ⟨ad_ren rfl, ad_ren rfl, ad_ren rfl, trivial⟩) (by exact ⟨⟨_, rfl, rfl⟩, ⟨_, rfl, rfl⟩, trivial⟩) rfl (nk rfl) rfl rfl ⟨rfl, rfl⟩
theorem c_impl_DoTasks {fu : Nat} {x0 : ((List (List Int)) × (Int × ((List Int) × (Int × (Int × (Int × Unit))))))} {x1 : (List (Int × (Int × (Int × Unit))))} {r : ((List (List Int)) × (Int × ((List Int) × (Int × (Int × (Int × Unit)))))) × Int × Bool} (h : Is (p_impl_DoTasks fu x0 x1) (some r)) :
    ACalls Try.prog 17 [.v (.pair (.slice (.arr 6 (.int .i64))) (.pair (.int .i64) (.pair (.slice (.int .i64)) (.pair (.int .i64) (.pair (.int .i64) (.pair (.int .i64) .unit)))))) x0, .v (.slice (.pair (.int .i64) (.pair (.int .i64) (.pair (.int .i64) .unit)))) x1] [] (fun r' H' => r' = .tup [.st [.os 0, .int .i64 r.1.2.1, .os 1, .int .i64 r.1.2.2.2.1, .int .i64 r.1.2.2.2.2.1, .int .i64 r.1.2.2.2.2.2.1], .int .i64 r.2.1, .bool r.2.2] ∧ H' = [(0, .row (.arr 6 (.int .i64)) r.1.1), (1, .row (.int .i64) r.1.2.2.1)]) := by
  unfold p_impl_DoTasks at h
  refine ac_enter ⟨40, 0⟩ Try.func17 rfl rfl rfl rfl rfl (fun Γ => ?_)
  refine sl_len_m 1 (x1.length : Int) rfl rfl (fun hl1 => ?_)
  refine aw_seq ?_
  refine aw_region ?_
  refine ao_eff trivial (e_box 0 rfl rfl rfl rfl rfl rfl) rfl ?_
  refine ao_eff trivial (e_alloc 1 (y := .st [.nilsl, .int .i64 0, .nilsl, .int .i64 0, .int .i64 0, .int .i64 0]) Try.zeroValue29 (fun ρ h M => ra_zero_st (t := (.pair (.slice (.arr 6 (.int .i64))) (.pair (.int .i64) (.pair (.slice (.int .i64)) (.pair (.int .i64) (.pair (.int .i64) (.pair (.int .i64) .unit))))))) rfl rfl rfl) rfl rfl rfl rfl rfl) rfl ?_
  refine ao_read trivial (r_assign rfl) rfl ?_
  refine ao_read trivial (r_assign rfl) rfl ?_
  refine ao_nil ?_
  refine aq_then ?_
  refine aw_seq ?_
  refine aw_seq ?_
  refine aw_region ?_
  refine ao_read trivial (r_load_part (τ := (.pair (.slice (.arr 6 (.int .i64))) (.pair (.int .i64) (.pair (.slice (.int .i64)) (.pair (.int .i64) (.pair (.int .i64) (.pair (.int .i64) .unit))))))) (y := ((x0.1, (x0.2.1, (x0.2.2.1, (x0.2.2.2.1, (x0.2.2.2.2.1, (x0.2.2.2.2.2.1, ())))))) : ((List (List Int)) × (Int × ((List Int) × (Int × (Int × (Int × Unit)))))))) [] [] rfl Try.isAgg29 Try.sizeOf29 rfl rfl rfl rfl) rfl ?_
  obtain ⟨r1, r1h, h⟩ := is_bind h
  refine ao_scall trivial (scall (c_impl_IsTavern (is_mk r1h)) rfl Try.func25 rfl rfl rfl rfl (fun σ => ⟨ad_ren rfl, trivial⟩)) rfl ?_
  refine ao_read trivial (r_not rfl) rfl ?_
  refine ao_nil ?_
  refine aq_then ?_
  refine aw_cond rfl (fun hb2 => ?_) (fun hb2 => ?_)
  · replace h := is_else (ne_t (not_t hb2)) h
    refine aw_seq ?_
    refine aw_region ?_
    refine ao_read trivial (r_build_st (l := []) (cs := [.cell (.nilsl), .cell (.int .i64 0), .cell (.nilsl), .cell (.int .i64 0), .cell (.int .i64 0), .cell (.int .i64 0)]) (.pair (.slice (.arr 6 (.int .i64))) (.pair (.int .i64) (.pair (.slice (.int .i64)) (.pair (.int .i64) (.pair (.int .i64) (.pair (.int .i64) .unit)))))) [(0, 1), (1, 1), (2, 1), (3, 1), (4, 1), (5, 1)] Try.underlying29 Try.zeroValue29 rfl ⟨rfl, Try.sizeOf22, rfl, Try.sizeOf3, rfl, Try.sizeOf23, rfl, Try.sizeOf3, rfl, Try.sizeOf3, rfl, Try.sizeOf3, trivial⟩ rfl rfl rfl) rfl ?_
    refine ao_effS trivial (e_store rfl rfl rfl rfl Try.sizeOf29 rfl) ?_
    refine ao_read trivial (r_assign rfl) rfl ?_
    refine ao_read trivial (r_assign rfl) rfl ?_
    refine ao_nil ?_
    refine aq_then ?_
    refine aw_ret ?_
    refine aq_then_ret ?_
    refine aq_ret ?_
    obtain rfl := is_some h
    refine AQ.sub (sub_nil_cell (t := (.arr 6 (.int .i64))) (i := 1) 2 [] [.cell (.int .i64 0), .cell (.nilsl), .cell (.int .i64 0), .cell (.int .i64 0), .cell (.int .i64 0)] rfl rfl rfl) ?_
    refine AQ.sub (sub_nil_cell (t := (.int .i64)) (i := 1) 3 [.cell (.os 2), .cell (.int .i64 0)] [.cell (.int .i64 0), .cell (.int .i64 0), .cell (.int .i64 0)] rfl rfl rfl) ?_
    exact aq_finx (l := [.cell 4 29, .tmp 5, .tmp 6]) (xs := [.st [.os 2, .int .i64 0, .os 3, .int .i64 0, .int .i64 0, .int .i64 0], .int .i64 0, .bool false]) (rn [(0, 2), (1, 3)]) [.st [.os 0, .int .i64 0, .os 1, .int .i64 0, .int .i64 0, .int .i64 0], .int .i64 0, .bool false] [(0, .row (.arr 6 (.int .i64)) ([] : (List (List Int)))), (1, .row (.int .i64) ([] : (List Int)))] rfl (by exact ⟨⟨⟨_, _, rfl⟩, r_load_st [] [.cell (.os 2), .cell (.int .i64 0), .cell (.os 3), .cell (.int .i64 0), .cell (.int .i64 0), .cell (.int .i64 0)] [] Try.isAgg29 Try.sizeOf29 rfl rfl rfl rfl rfl rfl rfl⟩, rfl, rfl, trivial⟩) (by exact ⟨ad_ren rfl, ad_ren rfl, ad_ren rfl, trivial⟩) (by exact ⟨⟨_, rfl, rfl⟩, ⟨_, rfl, rfl⟩, trivial⟩) rfl (nk rfl) rfl rfl ⟨rfl, rfl⟩
  · replace h := is_if (not_f hb2) h
    refine aw_skip ?_
    refine aq_then ?_
    refine aw_seq ?_
    refine aw_region ?_
    refine ao_read trivial (r_load_part (τ := (.pair (.slice (.arr 6 (.int .i64))) (.pair (.int .i64) (.pair (.slice (.int .i64)) (.pair (.int .i64) (.pair (.int .i64) (.pair (.int .i64) .unit))))))) (y := ((x0.1, (x0.2.1, (x0.2.2.1, (x0.2.2.2.1, (x0.2.2.2.2.1, (x0.2.2.2.2.2.1, ())))))) : ((List (List Int)) × (Int × ((List Int) × (Int × (Int × (Int × Unit)))))))) [] [] rfl Try.isAgg29 Try.sizeOf29 rfl rfl rfl rfl) rfl ?_
    obtain ⟨r3, r3h, h⟩ := is_bind h
    refine ao_call [] 2 trivial (c_impl_Tavern_own (is_mk r3h)) Try.func47 rfl rfl rfl rfl ⟨ad_ren rfl, trivial⟩ trivial rfl rfl rfl rfl rfl rfl rfl (fun r' H' hr => ?_)
    obtain ⟨rfl, rfl⟩ := hr
    refine ao_norm (y := .st [.os 2, .int .i64 r3.2.1, .os 3, .int .i64 r3.2.2.2.1, .int .i64 r3.2.2.2.2.1, .int .i64 r3.2.2.2.2.2.1]) (H' := [(1, .var [.cell (.nilsl), .cell (.int .i64 0), .cell (.nilsl), .cell (.int .i64 0), .cell (.int .i64 0), .cell (.int .i64 0)]), (0, .var [.cell (.v (.slice (.arr 6 (.int .i64))) x0.1), .cell (.int .i64 x0.2.1), .cell (.v (.slice (.int .i64)) x0.2.2.1), .cell (.int .i64 x0.2.2.2.1), .cell (.int .i64 x0.2.2.2.2.1), .cell (.int .i64 x0.2.2.2.2.2.1)]), (2, .row (.arr 6 (.int .i64)) r3.1), (3, .row (.int .i64) r3.2.2.1)]) rfl rfl ?_
    refine row_len_o 2 (r3.1.length : Int) rfl rfl (fun hr4 => ?_)
    refine row_len_o 3 (r3.2.2.1.length : Int) rfl rfl (fun hr5 => ?_)
    refine ao_eff trivial (e_alloc 4 (y := .st [.nilsl, .int .i64 0, .nilsl, .int .i64 0, .int .i64 0, .int .i64 0]) Try.zeroValue29 (fun ρ h M => ra_zero_st (t := (.pair (.slice (.arr 6 (.int .i64))) (.pair (.int .i64) (.pair (.slice (.int .i64)) (.pair (.int .i64) (.pair (.int .i64) (.pair (.int .i64) .unit))))))) rfl rfl rfl) rfl rfl rfl rfl rfl) rfl ?_
    refine ao_effS trivial (e_store rfl rfl rfl rfl Try.sizeOf29 rfl) ?_
    refine ao_nil ?_
    refine aq_then ?_
    refine aw_seq ?_
    refine aw_seq ?_
    refine aw_region ?_
    refine ao_read trivial (r_move rfl) rfl ?_
    refine ao_read trivial (r_len_vm (x1.length : Int) Try.underlying42 rfl rfl) rfl ?_
    refine ao_read trivial (r_move rfl) rfl ?_
    refine ao_nil ?_
    refine aq_then ?_
    refine aw_block ?_
    refine aw_loop (AL.sub (fr' := [(1, .v (.slice (.pair (.int .i64) (.pair (.int .i64) (.pair (.int .i64) .unit)))) x1), (4, .ref 0 0), (7, .ref 1 0), (18, .v (.slice (.pair (.int .i64) (.pair (.int .i64) (.pair (.int .i64) .unit)))) x1), (19, .int .i64 (x1.length : Int)), (20, .int .i64 0)]) (H' := [(0, .var [.cell (.nilsl), .cell (.int .i64 0), .cell (.nilsl), .cell (.int .i64 0), .cell (.int .i64 0), .cell (.int .i64 0)]), (1, .var [.cell (.os 2), .cell (.int .i64 r3.2.1), .cell (.os 3), .cell (.int .i64 r3.2.2.2.1), .cell (.int .i64 r3.2.2.2.2.1), .cell (.int .i64 r3.2.2.2.2.2.1)]), (2, .row (.arr 6 (.int .i64)) r3.1), (3, .row (.int .i64) r3.2.2.1)]) (sub_r1 (rn [(0, 1), (1, 4)]) (nk rfl) (by kernel_rfl)) (al_cnt (fun i7 (s6 : Int × Int × Int × Int × (List (List Int)) × (List Int)) => [(1, .v (.slice (.pair (.int .i64) (.pair (.int .i64) (.pair (.int .i64) .unit)))) x1), (4, .ref 0 0), (7, .ref 1 0), (18, .v (.slice (.pair (.int .i64) (.pair (.int .i64) (.pair (.int .i64) .unit)))) x1), (19, .int .i64 (x1.length : Int)), (20, .int .i64 i7)]) (fun i7 (s6 : Int × Int × Int × Int × (List (List Int)) × (List Int)) => [(0, .var [.cell (.nilsl), .cell (.int .i64 0), .cell (.nilsl), .cell (.int .i64 0), .cell (.int .i64 0), .cell (.int .i64 0)]), (1, .var [.cell (.os 2), .cell (.int .i64 s6.1), .cell (.os 3), .cell (.int .i64 s6.2.1), .cell (.int .i64 s6.2.2.1), .cell (.int .i64 s6.2.2.2.1)]), (2, .row (.arr 6 (.int .i64)) s6.2.2.2.2.1), (3, .row (.int .i64) s6.2.2.2.2.2)]) (fun d i7 (s6 : Int × Int × Int × Int × (List (List Int)) × (List Int)) => d = Int.toNat ((x1.length : Int) - i7) ∧ 0 ≤ i7 ∧ i7 ≤ (x1.length : Int)) h ⟨rfl, (by (try simp only [List.length_set, List.length_append, List.length_cons, List.length_nil, List.length_replicate, List.length_take, List.length_drop]) <;> omega), (by (try simp only [List.length_set, List.length_append, List.length_cons, List.length_nil, List.length_replicate, List.length_take, List.length_drop]) <;> omega)⟩ (fun d8 i7 s6 hI h ih8 => ?_)))
    obtain ⟨hd, _, _⟩ := hI
    refine al_round ?_
    refine aw_seq ?_
    refine aw_region ?_
    refine ao_read trivial (r_lss rfl rfl) rfl ?_
    refine ao_nil ?_
    refine aq_then ?_
    refine aw_seq ?_
    refine aw_cond rfl (fun hb10 => ?_) (fun hb10 => ?_)
    · have q11 := d_t hb10
      obtain ⟨d8, rfl⟩ : ∃ e, d8 = e + 1 := ⟨d8 - 1, by omega⟩
      replace h := is_cntS h
      refine aw_skip ?_
      refine aq_then ?_
      refine aw_seq ?_
      refine aw_block ?_
      refine aw_seq ?_
      refine aw_region ?_
      refine ao_read trivial (r_move rfl) rfl ?_
      refine ao_read trivial (r_idxAddr (t := (.pair (.int .i64) (.pair (.int .i64) (.pair (.int .i64) .unit)))) Try.underlying42 Try.sizeOf33 rfl rfl (show 0 ≤ i7 from by omega) (show i7 < (x1.length : Int) from by omega)) rfl ?_
      refine ao_read trivial (r_load_c (t := (.pair (.int .i64) (.pair (.int .i64) (.pair (.int .i64) .unit)))) Try.isAgg33 Try.sizeOf33 rfl) rfl ?_
      refine ao_eff trivial (e_alloc 4 (y := .st [.int .i64 0, .int .i64 0, .int .i64 0]) Try.zeroValue33 (fun ρ h M => ra_zero_st (t := (.pair (.int .i64) (.pair (.int .i64) (.pair (.int .i64) .unit)))) rfl rfl rfl) rfl rfl rfl rfl rfl) rfl ?_
      refine ao_read trivial (r_assign rfl) rfl ?_
      refine ao_effS trivial (e_store rfl rfl rfl rfl Try.sizeOf33 rfl) ?_
      refine ao_nil ?_
      refine aq_then ?_
      refine aw_seq ?_
      refine aw_region ?_
      refine ao_read trivial (r_load_st [] [.cell (.os 2), .cell (.int .i64 s6.1), .cell (.os 3), .cell (.int .i64 s6.2.1), .cell (.int .i64 s6.2.2.1), .cell (.int .i64 s6.2.2.2.1)] [] Try.isAgg29 Try.sizeOf29 rfl rfl rfl rfl rfl rfl rfl) rfl ?_
      refine ao_read trivial (r_load_part (τ := (.pair (.int .i64) (.pair (.int .i64) (.pair (.int .i64) .unit)))) (y := (((x1.getD i7.toNat (0, (0, (0, ())))).1, (((x1.getD i7.toNat (0, (0, (0, ())))).2).1, ((((x1.getD i7.toNat (0, (0, (0, ())))).2).2).1, ()))) : (Int × (Int × (Int × Unit))))) [] [] rfl Try.isAgg33 Try.sizeOf33 rfl rfl rfl rfl) rfl ?_
      obtain ⟨r13, r13h, h⟩ := is_bind h
      refine ao_call [] 5 trivial (c_impl_Tavern_done (is_mk r13h)) Try.func39 rfl rfl rfl rfl ⟨ad_st rfl rfl ⟨ad_os0 rfl, ad_ren rfl, ad_os0 rfl, ad_ren rfl, ad_ren rfl, ad_ren rfl, trivial⟩, ad_ren rfl, trivial⟩ trivial rfl rfl rfl rfl rfl rfl rfl (fun r' H' hr => ?_)
      obtain ⟨rfl, rfl⟩ := hr
      refine ao_norm (y := .tup [.st [.os 5, .int .i64 r13.1.2.1, .os 6, .int .i64 r13.1.2.2.2.1, .int .i64 r13.1.2.2.2.2.1, .int .i64 r13.1.2.2.2.2.2.1], .bool r13.2]) (H' := [(4, .var [.cell (.int .i64 ((x1.getD i7.toNat (0, (0, (0, ())))).1)), .cell (.int .i64 (((x1.getD i7.toNat (0, (0, (0, ())))).2).1)), .cell (.int .i64 ((((x1.getD i7.toNat (0, (0, (0, ())))).2).2).1))]), (0, .var [.cell (.nilsl), .cell (.int .i64 0), .cell (.nilsl), .cell (.int .i64 0), .cell (.int .i64 0), .cell (.int .i64 0)]), (1, .var [.cell (.os 2), .cell (.int .i64 s6.1), .cell (.os 3), .cell (.int .i64 s6.2.1), .cell (.int .i64 s6.2.2.1), .cell (.int .i64 s6.2.2.2.1)]), (2, .row (.arr 6 (.int .i64)) s6.2.2.2.2.1), (3, .row (.int .i64) s6.2.2.2.2.2), (5, .row (.arr 6 (.int .i64)) r13.1.1), (6, .row (.int .i64) r13.1.2.2.1)]) rfl rfl ?_
      refine row_len_o 5 (r13.1.1.length : Int) rfl rfl (fun hr14 => ?_)
      refine row_len_o 6 (r13.1.2.2.1.length : Int) rfl rfl (fun hr15 => ?_)
      refine ao_read trivial (r_move rfl) rfl ?_
      refine ao_read trivial (r_extract rfl rfl) rfl ?_
      refine ao_read trivial (r_extract rfl rfl) rfl ?_
      refine ao_eff trivial (e_alloc 7 (y := .st [.nilsl, .int .i64 0, .nilsl, .int .i64 0, .int .i64 0, .int .i64 0]) Try.zeroValue29 (fun ρ h M => ra_zero_st (t := (.pair (.slice (.arr 6 (.int .i64))) (.pair (.int .i64) (.pair (.slice (.int .i64)) (.pair (.int .i64) (.pair (.int .i64) (.pair (.int .i64) .unit))))))) rfl rfl rfl) rfl rfl rfl rfl rfl) rfl ?_
      refine ao_effS trivial (e_store rfl rfl rfl rfl Try.sizeOf29 rfl) ?_
      refine ao_read trivial (r_assign rfl) rfl ?_
      refine ao_nil ?_
      refine aq_then ?_
      refine aw_seq ?_
      refine aw_seq ?_
      refine aw_region ?_
      refine ao_read trivial (r_move rfl) rfl ?_
      refine ao_read trivial (r_not rfl) rfl ?_
      refine ao_nil ?_
      refine aq_then ?_
      refine aw_cond rfl (fun hb16 => ?_) (fun hb16 => ?_)
      · replace h := is_else (ne_t (not_t hb16)) h
        refine aw_seq ?_
        refine aw_region ?_
        refine ao_read trivial (r_load_st [] [.cell (.os 2), .cell (.int .i64 s6.1), .cell (.os 3), .cell (.int .i64 s6.2.1), .cell (.int .i64 s6.2.2.1), .cell (.int .i64 s6.2.2.2.1)] [] Try.isAgg29 Try.sizeOf29 rfl rfl rfl rfl rfl rfl rfl) rfl ?_
        refine ao_read trivial (r_move rfl) rfl ?_
        refine ao_effS trivial (e_store rfl rfl rfl rfl Try.sizeOf29 rfl) ?_
        refine ao_read trivial (r_assign rfl) rfl ?_
        refine ao_read trivial (r_assign rfl) rfl ?_
        refine ao_nil ?_
        refine aq_then ?_
        refine aw_ret ?_
        refine aq_then_ret ?_
        refine aq_in_ret ?_
        refine aq_then_ret ?_
        refine aq_then_ret ?_
        refine aq_in_ret ?_
        refine aq_then_ret ?_
        refine aq_ret ?_
        obtain rfl := is_some h
        exact aq_finx (l := [.cell 4 29, .tmp 5, .tmp 6]) (xs := [.st [.os 2, .int .i64 s6.1, .os 3, .int .i64 s6.2.1, .int .i64 s6.2.2.1, .int .i64 s6.2.2.2.1], .int .i64 i7, .bool true]) (rn [(0, 2), (1, 3)]) [.st [.os 0, .int .i64 s6.1, .os 1, .int .i64 s6.2.1, .int .i64 s6.2.2.1, .int .i64 s6.2.2.2.1], .int .i64 i7, .bool true] [(0, .row (.arr 6 (.int .i64)) s6.2.2.2.2.1), (1, .row (.int .i64) s6.2.2.2.2.2)] rfl (by exact ⟨⟨⟨_, _, rfl⟩, r_load_st [] [.cell (.os 2), .cell (.int .i64 s6.1), .cell (.os 3), .cell (.int .i64 s6.2.1), .cell (.int .i64 s6.2.2.1), .cell (.int .i64 s6.2.2.2.1)] [] Try.isAgg29 Try.sizeOf29 rfl rfl rfl rfl rfl rfl rfl⟩, rfl, rfl, trivial⟩) (by exact ⟨ad_ren rfl, ad_ren rfl, ad_ren rfl, trivial⟩) (by exact ⟨⟨_, rfl, rfl⟩, ⟨_, rfl, rfl⟩, trivial⟩) rfl (nk rfl) rfl rfl ⟨rfl, rfl⟩
      · replace h := is_if (not_f hb16) h
        refine aw_skip ?_
        refine aq_then ?_
        refine aw_region ?_
        refine ao_read trivial (r_load_st [] [.cell (.os 5), .cell (.int .i64 r13.1.2.1), .cell (.os 6), .cell (.int .i64 r13.1.2.2.2.1), .cell (.int .i64 r13.1.2.2.2.2.1), .cell (.int .i64 r13.1.2.2.2.2.2.1)] [] Try.isAgg29 Try.sizeOf29 rfl rfl rfl rfl rfl rfl rfl) rfl ?_
        refine ao_effS trivial (e_store rfl rfl rfl rfl Try.sizeOf29 rfl) ?_
        refine ao_nil ?_
        refine aq_in ?_
        refine aq_then ?_
        refine aw_region ?_
        refine ao_read trivial (r_addI rfl rfl (wrap_id (by omega) (by omega))) rfl ?_
        refine ao_read trivial (r_move rfl) rfl ?_
        refine ao_nil ?_
        exact aq_again (AL.sub (sub_r1 (rn [(2, 5), (3, 6)]) (nk rfl) (by kernel_rfl)) (ih8 d8 (i7 + 1) (r13.1.2.1, r13.1.2.2.2.1, r13.1.2.2.2.2.1, r13.1.2.2.2.2.2.1, r13.1.1, r13.1.2.2.1) (by omega) ⟨by omega, (by (try simp only [List.length_set, List.length_append, List.length_cons, List.length_nil, List.length_replicate, List.length_take, List.length_drop]) <;> omega), (by (try simp only [List.length_set, List.length_append, List.length_cons, List.length_nil, List.length_replicate, List.length_take, List.length_drop]) <;> omega)⟩ h))
    · have q12 := d_f hb10
      obtain rfl : d8 = 0 := by omega
      replace h := is_cnt0 h
      refine aw_exit ?_
      refine aq_then_exit ?_
      refine aq_then_exit ?_
      refine aq_in_exit ?_
      refine aq_then ?_
      refine aw_seq ?_
      refine aw_region ?_
      refine ao_read trivial (r_load_st [] [.cell (.os 2), .cell (.int .i64 s6.1), .cell (.os 3), .cell (.int .i64 s6.2.1), .cell (.int .i64 s6.2.2.1), .cell (.int .i64 s6.2.2.2.1)] [] Try.isAgg29 Try.sizeOf29 rfl rfl rfl rfl rfl rfl rfl) rfl ?_
      refine ao_read trivial (r_move rfl) rfl ?_
      refine ao_read trivial (r_len_vm (x1.length : Int) Try.underlying42 rfl rfl) rfl ?_
      refine ao_effS trivial (e_store rfl rfl rfl rfl Try.sizeOf29 rfl) ?_
      refine ao_read trivial (r_assign rfl) rfl ?_
      refine ao_read trivial (r_assign rfl) rfl ?_
      refine ao_nil ?_
      refine aq_then ?_
      refine aw_ret ?_
      refine aq_ret ?_
      obtain rfl := is_some h
      exact aq_finx (l := [.cell 4 29, .tmp 5, .tmp 6]) (xs := [.st [.os 2, .int .i64 s6.1, .os 3, .int .i64 s6.2.1, .int .i64 s6.2.2.1, .int .i64 s6.2.2.2.1], .int .i64 (x1.length : Int), .bool true]) (rn [(0, 2), (1, 3)]) [.st [.os 0, .int .i64 s6.1, .os 1, .int .i64 s6.2.1, .int .i64 s6.2.2.1, .int .i64 s6.2.2.2.1], .int .i64 (x1.length : Int), .bool true] [(0, .row (.arr 6 (.int .i64)) s6.2.2.2.2.1), (1, .row (.int .i64) s6.2.2.2.2.2)] rfl (by exact ⟨⟨⟨_, _, rfl⟩, r_load_st [] [.cell (.os 2), .cell (.int .i64 s6.1), .cell (.os 3), .cell (.int .i64 s6.2.1), .cell (.int .i64 s6.2.2.1), .cell (.int .i64 s6.2.2.2.1)] [] Try.isAgg29 Try.sizeOf29 rfl rfl rfl rfl rfl rfl rfl⟩, rfl, rfl, trivial⟩) (by exact ⟨ad_ren rfl, ad_ren rfl, ad_ren rfl, trivial⟩) (by exact ⟨⟨_, rfl, rfl⟩, ⟨_, rfl, rfl⟩, trivial⟩) rfl (nk rfl) rfl rfl ⟨rfl, rfl⟩
theorem c_laws_eqTask {x0 : (Int × (Int × (Int × Unit)))} {x1 : (Int × (Int × (Int × Unit)))} {r : Bool} (h : Is (p_laws_eqTask x0 x1) r) :
    Scalar Try.prog 48 [.v (.pair (.int .i64) (.pair (.int .i64) (.pair (.int .i64) .unit))) x0, .v (.pair (.int .i64) (.pair (.int .i64) (.pair (.int .i64) .unit))) x1] (.bool r) := by
  unfold p_laws_eqTask at h
  refine ac_enter ⟨20, 0⟩ Try.func48 rfl rfl rfl rfl rfl (fun Γ => ?_)
  refine aw_seq ?_
  refine aw_region ?_
  refine ao_eff trivial (e_box 0 rfl rfl rfl rfl rfl rfl) rfl ?_
  refine ao_eff trivial (e_box 1 rfl rfl rfl rfl rfl rfl) rfl ?_
  refine ao_read trivial (r_assign rfl) rfl ?_
  refine ao_nil ?_
  refine aq_then ?_
  refine aw_seq ?_
  refine aw_seq ?_
  refine aw_region ?_
  refine ao_read trivial (r_fieldAddr Try.underlying33 rfl Try.sizeOf3 rfl rfl rfl) rfl ?_
  refine ao_read trivial (r_load_cell Try.isAgg3 rfl rfl rfl) rfl ?_
  refine ao_read trivial (r_fieldAddr Try.underlying33 rfl Try.sizeOf3 rfl rfl rfl) rfl ?_
  refine ao_read trivial (r_load_cell Try.isAgg3 rfl rfl rfl) rfl ?_
  refine ao_read trivial (r_neq rfl rfl) rfl ?_
  refine ao_nil ?_
  refine aq_then ?_
  refine aw_cond rfl (fun hb1 => ?_) (fun hb1 => ?_)
  · have q2 := d_f (not_t hb1)
    replace h := is_else (d_f (not_t hb1)) h
    refine aw_seq ?_
    refine aw_region ?_
    refine ao_read trivial (r_assign rfl) rfl ?_
    refine ao_nil ?_
    refine aq_then ?_
    refine aw_ret ?_
    refine aq_then_ret ?_
    refine aq_ret ?_
    obtain rfl := is_eq h
    exact aq_finx (l := [.tmp 4]) (xs := [.bool false]) idn [.bool false] [] rfl (by exact ⟨rfl, trivial⟩) (by exact ⟨ad_ren rfl, trivial⟩) (by exact trivial) rfl (nk rfl) rfl rfl ⟨rfl, rfl⟩
  · have q3 := d_t (not_f hb1)
    replace h := is_if (d_t (not_f hb1)) h
    refine aw_skip ?_
    refine aq_then ?_
    refine aw_seq ?_
    refine aw_seq ?_
    refine aw_region ?_
    refine ao_read trivial (r_fieldAddr Try.underlying33 rfl Try.sizeOf3 rfl rfl rfl) rfl ?_
    refine ao_read trivial (r_load_cell Try.isAgg3 rfl rfl rfl) rfl ?_
    refine ao_read trivial (r_fieldAddr Try.underlying33 rfl Try.sizeOf3 rfl rfl rfl) rfl ?_
    refine ao_read trivial (r_load_cell Try.isAgg3 rfl rfl rfl) rfl ?_
    refine ao_read trivial (r_neq rfl rfl) rfl ?_
    refine ao_nil ?_
    refine aq_then ?_
    refine aw_cond rfl (fun hb4 => ?_) (fun hb4 => ?_)
    · have q5 := d_f (not_t hb4)
      replace h := is_else (d_f (not_t hb4)) h
      refine aw_seq ?_
      refine aw_region ?_
      refine ao_read trivial (r_assign rfl) rfl ?_
      refine ao_nil ?_
      refine aq_then ?_
      refine aw_ret ?_
      refine aq_then_ret ?_
      refine aq_ret ?_
      obtain rfl := is_eq h
      exact aq_finx (l := [.tmp 4]) (xs := [.bool false]) idn [.bool false] [] rfl (by exact ⟨rfl, trivial⟩) (by exact ⟨ad_ren rfl, trivial⟩) (by exact trivial) rfl (nk rfl) rfl rfl ⟨rfl, rfl⟩
    · have q6 := d_t (not_f hb4)
      replace h := is_if (d_t (not_f hb4)) h
      refine aw_skip ?_
      refine aq_then ?_
      refine aw_seq ?_
      refine aw_seq ?_
      refine aw_region ?_
      refine ao_read trivial (r_fieldAddr Try.underlying33 rfl Try.sizeOf3 rfl rfl rfl) rfl ?_
      refine ao_read trivial (r_load_cell Try.isAgg3 rfl rfl rfl) rfl ?_
      refine ao_read trivial (r_fieldAddr Try.underlying33 rfl Try.sizeOf3 rfl rfl rfl) rfl ?_
      refine ao_read trivial (r_load_cell Try.isAgg3 rfl rfl rfl) rfl ?_
      refine ao_read trivial (r_neq rfl rfl) rfl ?_
      refine ao_nil ?_
      refine aq_then ?_
      refine aw_cond rfl (fun hb7 => ?_) (fun hb7 => ?_)
      · have q8 := d_f (not_t hb7)
        replace h := is_else (d_f (not_t hb7)) h
        refine aw_seq ?_
        refine aw_region ?_
        refine ao_read trivial (r_assign rfl) rfl ?_
        refine ao_nil ?_
        refine aq_then ?_
        refine aw_ret ?_
        refine aq_then_ret ?_
        refine aq_ret ?_
        obtain rfl := is_eq h
        exact aq_finx (l := [.tmp 4]) (xs := [.bool false]) idn [.bool false] [] rfl (by exact ⟨rfl, trivial⟩) (by exact ⟨ad_ren rfl, trivial⟩) (by exact trivial) rfl (nk rfl) rfl rfl ⟨rfl, rfl⟩
      · have q9 := d_t (not_f hb7)
        replace h := is_if (d_t (not_f hb7)) h
        refine aw_skip ?_
        refine aq_then ?_
        refine aw_seq ?_
        refine aw_region ?_
        refine ao_read trivial (r_assign rfl) rfl ?_
        refine ao_nil ?_
        refine aq_then ?_
        refine aw_ret ?_
        refine aq_ret ?_
        obtain rfl := is_eq h
        exact aq_finx (l := [.tmp 4]) (xs := [.bool true]) idn [.bool true] [] rfl (by exact ⟨rfl, trivial⟩) (by exact ⟨ad_ren rfl, trivial⟩) (by exact trivial) rfl (nk rfl) rfl rfl ⟨rfl, rfl⟩
theorem c_laws_eqTaskS {x0 : (List (Int × (Int × (Int × Unit))))} {x1 : (List (Int × (Int × (Int × Unit))))} {r : Bool} (h : Is (p_laws_eqTaskS x0 x1) r) :
    Scalar Try.prog 18 [.v (.slice (.pair (.int .i64) (.pair (.int .i64) (.pair (.int .i64) .unit)))) x0, .v (.slice (.pair (.int .i64) (.pair (.int .i64) (.pair (.int .i64) .unit)))) x1] (.bool r) := by
  unfold p_laws_eqTaskS at h
  refine ac_enter ⟨27, 0⟩ Try.func18 rfl rfl rfl rfl rfl (fun Γ => ?_)
  refine sl_len_m 0 (x0.length : Int) rfl rfl (fun hl0 => ?_)
  refine sl_len_m 1 (x1.length : Int) rfl rfl (fun hl1 => ?_)
  refine aw_seq ?_
  refine aw_region ?_
  refine ao_read trivial (r_assign rfl) rfl ?_
  refine ao_nil ?_
  refine aq_then ?_
  refine aw_seq ?_
  refine aw_seq ?_
  refine aw_region ?_
  refine ao_read trivial (r_move rfl) rfl ?_
  refine ao_read trivial (r_len_vm (x0.length : Int) Try.underlying42 rfl rfl) rfl ?_
  refine ao_read trivial (r_move rfl) rfl ?_
  refine ao_read trivial (r_len_vm (x1.length : Int) Try.underlying42 rfl rfl) rfl ?_
  refine ao_read trivial (r_neq rfl rfl) rfl ?_
  refine ao_nil ?_
  refine aq_then ?_
  refine aw_cond rfl (fun hb1 => ?_) (fun hb1 => ?_)
  · have q2 := d_f (not_t hb1)
    replace h := is_else (d_f (not_t hb1)) h
    refine aw_seq ?_
    refine aw_region ?_
    refine ao_read trivial (r_assign rfl) rfl ?_
    refine ao_nil ?_
    refine aq_then ?_
    refine aw_ret ?_
    refine aq_then_ret ?_
    refine aq_ret ?_
    obtain rfl := is_eq h
    exact aq_finx (l := [.tmp 4]) (xs := [.bool false]) idn [.bool false] [] rfl (by exact ⟨rfl, trivial⟩) (by exact ⟨ad_ren rfl, trivial⟩) (by exact trivial) rfl (nk rfl) rfl rfl ⟨rfl, rfl⟩
  · have q3 := d_t (not_f hb1)
    replace h := is_if (d_t (not_f hb1)) h
    refine aw_skip ?_
    refine aq_then ?_
    refine aw_seq ?_
    refine aw_seq ?_
    refine aw_region ?_
    refine ao_read trivial (r_assign rfl) rfl ?_
    refine ao_nil ?_
    refine aq_then ?_
    refine aw_block ?_
    refine aw_loop (AL.sub (fr' := [(0, .v (.slice (.pair (.int .i64) (.pair (.int .i64) (.pair (.int .i64) .unit)))) x0), (1, .v (.slice (.pair (.int .i64) (.pair (.int .i64) (.pair (.int .i64) .unit)))) x1), (5, .int .i64 0)]) (H' := []) (sub_r1 idn (nk rfl) (by kernel_rfl)) (al_cnt (fun i5 (s4 : Unit) => [(0, .v (.slice (.pair (.int .i64) (.pair (.int .i64) (.pair (.int .i64) .unit)))) x0), (1, .v (.slice (.pair (.int .i64) (.pair (.int .i64) (.pair (.int .i64) .unit)))) x1), (5, .int .i64 i5)]) (fun i5 (s4 : Unit) => []) (fun d i5 (s4 : Unit) => d = Int.toNat ((x0.length : Int) - i5) ∧ 0 ≤ i5 ∧ i5 ≤ (x0.length : Int)) h ⟨rfl, (by (try simp only [List.length_set, List.length_append, List.length_cons, List.length_nil, List.length_replicate, List.length_take, List.length_drop]) <;> omega), (by (try simp only [List.length_set, List.length_append, List.length_cons, List.length_nil, List.length_replicate, List.length_take, List.length_drop]) <;> omega)⟩ (fun d6 i5 s4 hI h ih6 => ?_)))
    obtain ⟨hd, _, _⟩ := hI
    refine al_round ?_
    refine aw_seq ?_
    refine aw_seq ?_
    refine aw_region ?_
    refine ao_read trivial (r_move rfl) rfl ?_
    refine ao_read trivial (r_move rfl) rfl ?_
    refine ao_read trivial (r_len_vm (x0.length : Int) Try.underlying42 rfl rfl) rfl ?_
    refine ao_read trivial (r_lss rfl rfl) rfl ?_
    refine ao_nil ?_
    refine aq_then ?_
    refine aw_cond rfl (fun hb8 => ?_) (fun hb8 => ?_)
    · have q9 := d_t hb8
      obtain ⟨d6, rfl⟩ : ∃ e, d6 = e + 1 := ⟨d6 - 1, by omega⟩
      replace h := is_cntS h
      refine aw_skip ?_
      refine aq_then ?_
      refine aw_seq ?_
      refine aw_block ?_
      refine aw_seq ?_
      refine aw_drawAll (by kernel_rfl) ?_
      refine an_read 0 (by kernel_rfl) (fun _ _ _ h => h) rfl (by kernel_rfl) trivial (r_move rfl) rfl ?_
      refine an_read 1 (by kernel_rfl) (fun _ _ _ h => h) rfl (by kernel_rfl) trivial (r_move rfl) rfl ?_
      refine an_read 2 (by kernel_rfl) (fun _ _ _ h => h) rfl (by kernel_rfl) trivial (r_idxAddr (t := (.pair (.int .i64) (.pair (.int .i64) (.pair (.int .i64) .unit)))) Try.underlying42 Try.sizeOf33 rfl rfl (show 0 ≤ i5 from by omega) (show i5 < (x0.length : Int) from by omega)) rfl ?_
      refine an_read 3 (by kernel_rfl) (fun _ _ _ h => h) rfl (by kernel_rfl) trivial (r_load_c (t := (.pair (.int .i64) (.pair (.int .i64) (.pair (.int .i64) .unit)))) Try.isAgg33 Try.sizeOf33 rfl) rfl ?_
      refine an_read 4 (by kernel_rfl) (fun _ _ _ h => h) rfl (by kernel_rfl) trivial (r_move rfl) rfl ?_
      refine an_read 5 (by kernel_rfl) (fun _ _ _ h => h) rfl (by kernel_rfl) trivial (r_move rfl) rfl ?_
      refine an_read 6 (by kernel_rfl) (fun _ _ _ h => h) rfl (by kernel_rfl) trivial (r_idxAddr (t := (.pair (.int .i64) (.pair (.int .i64) (.pair (.int .i64) .unit)))) Try.underlying42 Try.sizeOf33 rfl rfl (show 0 ≤ i5 from by omega) (show i5 < (x1.length : Int) from by omega)) rfl ?_
      refine an_read 7 (by kernel_rfl) (fun _ _ _ h => h) rfl (by kernel_rfl) trivial (r_load_c (t := (.pair (.int .i64) (.pair (.int .i64) (.pair (.int .i64) .unit)))) Try.isAgg33 Try.sizeOf33 rfl) rfl ?_
      refine an_scall 8 (by kernel_rfl) (fun _ _ _ h => h) rfl (by kernel_rfl) trivial (scall (c_laws_eqTask (is_mk (rfl : p_laws_eqTask (x0.getD i5.toNat (0, (0, (0, ())))) (x1.getD i5.toNat (0, (0, (0, ())))) = _))) rfl Try.func48 rfl rfl rfl rfl (fun σ => ⟨ad_ren rfl, ad_ren rfl, trivial⟩)) rfl ?_
      refine an_read 9 (by kernel_rfl) (fun _ _ _ h => h) rfl (by kernel_rfl) trivial (r_not rfl) rfl ?_
      refine an_done rfl ?_
      refine aq_then ?_
      refine aw_cond rfl (fun hb11 => ?_) (fun hb11 => ?_)
      · replace h := is_else (ne_t (not_t hb11)) h
        refine aw_seq ?_
        refine aw_region ?_
        refine ao_read trivial (r_assign rfl) rfl ?_
        refine ao_nil ?_
        refine aq_then ?_
        refine aw_ret ?_
        refine aq_in_ret ?_
        refine aq_then_ret ?_
        refine aq_then_ret ?_
        refine aq_in_ret ?_
        refine aq_then_ret ?_
        refine aq_ret ?_
        obtain rfl := is_eq h
        exact aq_finx (l := [.tmp 4]) (xs := [.bool false]) idn [.bool false] [] rfl (by exact ⟨rfl, trivial⟩) (by exact ⟨ad_ren rfl, trivial⟩) (by exact trivial) rfl (nk rfl) rfl rfl ⟨rfl, rfl⟩
      · replace h := is_if (not_f hb11) h
        refine aw_skip ?_
        refine aq_in ?_
        refine aq_then ?_
        refine aw_region ?_
        refine ao_read trivial (r_move rfl) rfl ?_
        refine ao_read trivial (r_addI rfl rfl (wrap_id (by omega) (by omega))) rfl ?_
        refine ao_read trivial (r_assign rfl) rfl ?_
        refine ao_nil ?_
        exact aq_again (AL.sub (sub_r1 idn (nk rfl) (by kernel_rfl)) (ih6 d6 (i5 + 1) () (by omega) ⟨by omega, (by (try simp only [List.length_set, List.length_append, List.length_cons, List.length_nil, List.length_replicate, List.length_take, List.length_drop]) <;> omega), (by (try simp only [List.length_set, List.length_append, List.length_cons, List.length_nil, List.length_replicate, List.length_take, List.length_drop]) <;> omega)⟩ h))
    · have q10 := d_f hb8
      obtain rfl : d6 = 0 := by omega
      replace h := is_cnt0 h
      refine aw_exit ?_
      refine aq_then_exit ?_
      refine aq_then_exit ?_
      refine aq_in_exit ?_
      refine aq_then ?_
      refine aw_seq ?_
      refine aw_region ?_
      refine ao_read trivial (r_assign rfl) rfl ?_
      refine ao_nil ?_
      refine aq_then ?_
      refine aw_ret ?_
      refine aq_ret ?_
      obtain rfl := is_eq h
      exact aq_finx (l := [.tmp 4]) (xs := [.bool true]) idn [.bool true] [] rfl (by exact ⟨rfl, trivial⟩) (by exact ⟨ad_ren rfl, trivial⟩) (by exact trivial) rfl (nk rfl) rfl rfl ⟨rfl, rfl⟩
theorem c_laws_markTaskS {x0 : (List (Int × (Int × (Int × Unit))))} {x1 : Int} {r : Int × (List (Int × (Int × (Int × Unit))))} (h : Is (p_laws_markTaskS x0 x1) r) :
    ACalls Try.prog 19 [.os 0, .int .i64 x1] [(0, .row (.pair (.int .i64) (.pair (.int .i64) (.pair (.int .i64) .unit))) x0)] (fun r' H' => r' = .int .i64 r.1 ∧ H' = [(0, .row (.pair (.int .i64) (.pair (.int .i64) (.pair (.int .i64) .unit))) r.2)]) := by
  unfold p_laws_markTaskS at h
  refine ac_enter ⟨34, 1⟩ Try.func19 rfl rfl rfl rfl rfl (fun Γ => ?_)
  refine row_len_m 0 (x0.length : Int) rfl rfl (fun hr0 => ?_)
  refine aw_seq ?_
  refine aw_region ?_
  refine ao_read trivial (r_assign rfl) rfl ?_
  refine ao_nil ?_
  refine aq_then ?_
  refine aw_seq ?_
  refine aw_seq ?_
  refine aw_region ?_
  refine ao_read trivial (r_assign rfl) rfl ?_
  refine ao_nil ?_
  refine aq_then ?_
  refine aw_block ?_
  refine aw_loop (AL.sub (fr' := [(0, .os 0), (1, .int .i64 x1), (5, .int .i64 0)]) (H' := [(0, .row (.pair (.int .i64) (.pair (.int .i64) (.pair (.int .i64) .unit))) x0)]) (sub_r1 idn (nk1 rfl rfl) (by kernel_rfl)) (al_cnt (fun i2 (s1 : Int × (List (Int × (Int × (Int × Unit))))) => [(0, .os 0), (1, .int .i64 s1.1), (5, .int .i64 i2)]) (fun i2 (s1 : Int × (List (Int × (Int × (Int × Unit))))) => [(0, .row (.pair (.int .i64) (.pair (.int .i64) (.pair (.int .i64) .unit))) s1.2)]) (fun d i2 (s1 : Int × (List (Int × (Int × (Int × Unit))))) => d = Int.toNat ((x0.length : Int) - i2) ∧ 0 ≤ i2 ∧ (s1.2.length : Int) = (x0.length : Int) ∧ i2 ≤ (x0.length : Int)) h ⟨rfl, (by (try simp only [List.length_set, List.length_append, List.length_cons, List.length_nil, List.length_replicate, List.length_take, List.length_drop]) <;> omega), (by (try simp only [List.length_set, List.length_append, List.length_cons, List.length_nil, List.length_replicate, List.length_take, List.length_drop]) <;> omega), (by (try simp only [List.length_set, List.length_append, List.length_cons, List.length_nil, List.length_replicate, List.length_take, List.length_drop]) <;> omega)⟩ (fun d3 i2 s1 hI h ih3 => ?_)))
  obtain ⟨hd, _, _, _⟩ := hI
  refine al_round ?_
  refine aw_seq ?_
  refine aw_seq ?_
  refine aw_region ?_
  refine ao_read trivial (r_move rfl) rfl ?_
  refine ao_read trivial (r_move rfl) rfl ?_
  refine ao_read trivial (r_len_osm (x0.length : Int) Try.underlying42 rfl rfl (show (s1.2.length : Int) = (x0.length : Int) from by omega)) rfl ?_
  refine ao_read trivial (r_lss rfl rfl) rfl ?_
  refine ao_nil ?_
  refine aq_then ?_
  refine aw_cond rfl (fun hb5 => ?_) (fun hb5 => ?_)
  · have q6 := d_t hb5
    obtain ⟨d3, rfl⟩ : ∃ e, d3 = e + 1 := ⟨d3 - 1, by omega⟩
    replace h := is_cntS h
    refine aw_skip ?_
    refine aq_then ?_
    refine aw_seq ?_
    refine aw_block ?_
    refine aw_seq ?_
    refine aw_region ?_
    refine ao_read trivial (r_move rfl) rfl ?_
    refine ao_read trivial (r_move rfl) rfl ?_
    refine ao_read trivial (r_move rfl) rfl ?_
    refine ao_read trivial (r_idxAddr_os Try.underlying42 Try.sizeOf33 rfl rfl rfl (show 0 ≤ i2 from by omega) (show i2 < (s1.2.length : Int) from by omega)) rfl ?_
    refine ao_read trivial (r_fieldAddr_eleme Try.underlying33 rfl Try.sizeOf3 rfl rfl rfl) rfl ?_
    refine ao_effS trivial (e_store_fld (τ := (.pair (.int .i64) (.pair (.int .i64) (.pair (.int .i64) .unit)))) (u := (.int .i64)) (Y := ((s1.1, ((s1.2.getD i2.toNat (0, (0, (0, ())))).2.1, ((s1.2.getD i2.toNat (0, (0, (0, ())))).2.2.1, ()))) : (Int × (Int × (Int × Unit))))) rfl rfl rfl Try.sizeOf3 rfl rfl rfl rfl rfl (show i2.toNat < s1.2.length from by omega) rfl (lens_fst rfl rfl) rfl) ?_
    refine ao_nil ?_
    refine aq_then ?_
    refine aw_seq ?_
    refine aw_region ?_
    refine ao_read trivial (r_move rfl) rfl ?_
    refine ao_read trivial (r_add rfl rfl) rfl ?_
    refine ao_read trivial (r_assign rfl) rfl ?_
    refine ao_nil ?_
    refine aq_then ?_
    refine aw_seq ?_
    refine aw_region ?_
    refine ao_read trivial (r_move rfl) rfl ?_
    refine ao_read trivial (r_move rfl) rfl ?_
    refine ao_read trivial (r_move rfl) rfl ?_
    refine ao_read trivial (r_idxAddr_os Try.underlying42 Try.sizeOf33 rfl rfl rfl (show 0 ≤ i2 from by omega) (show i2 < ((s1.2.set i2.toNat (s1.1, ((s1.2.getD i2.toNat (0, (0, (0, ())))).2.1, ((s1.2.getD i2.toNat (0, (0, (0, ())))).2.2.1, ())))).length : Int) from by (try simp only [List.length_set]) <;> omega)) rfl ?_
    refine ao_read trivial (r_fieldAddr_eleme Try.underlying33 rfl Try.sizeOf3 rfl rfl rfl) rfl ?_
    refine ao_effS trivial (e_store_fld (τ := (.pair (.int .i64) (.pair (.int .i64) (.pair (.int .i64) .unit)))) (u := (.int .i64)) (Y := ((((s1.2.set i2.toNat (s1.1, ((s1.2.getD i2.toNat (0, (0, (0, ())))).2.1, ((s1.2.getD i2.toNat (0, (0, (0, ())))).2.2.1, ())))).getD i2.toNat (0, (0, (0, ())))).1, ((IntKind.wrap .i64 (s1.1 + 1)), (((s1.2.set i2.toNat (s1.1, ((s1.2.getD i2.toNat (0, (0, (0, ())))).2.1, ((s1.2.getD i2.toNat (0, (0, (0, ())))).2.2.1, ())))).getD i2.toNat (0, (0, (0, ())))).2.2.1, ()))) : (Int × (Int × (Int × Unit))))) rfl rfl rfl Try.sizeOf3 rfl rfl rfl rfl rfl (show i2.toNat < (s1.2.set i2.toNat (s1.1, ((s1.2.getD i2.toNat (0, (0, (0, ())))).2.1, ((s1.2.getD i2.toNat (0, (0, (0, ())))).2.2.1, ())))).length from by (try simp only [List.length_set]) <;> omega) rfl (lens_snd rfl rfl (lens_fst rfl rfl)) rfl) ?_
    refine ao_nil ?_
    refine aq_then ?_
    refine aw_seq ?_
    refine aw_region ?_
    refine ao_read trivial (r_move rfl) rfl ?_
    refine ao_read trivial (r_add rfl rfl) rfl ?_
    refine ao_read trivial (r_assign rfl) rfl ?_
    refine ao_nil ?_
    refine aq_then ?_
    refine aw_seq ?_
    refine aw_region ?_
    refine ao_read trivial (r_move rfl) rfl ?_
    refine ao_read trivial (r_move rfl) rfl ?_
    refine ao_read trivial (r_move rfl) rfl ?_
    refine ao_read trivial (r_idxAddr_os Try.underlying42 Try.sizeOf33 rfl rfl rfl (show 0 ≤ i2 from by omega) (show i2 < (((s1.2.set i2.toNat (s1.1, ((s1.2.getD i2.toNat (0, (0, (0, ())))).2.1, ((s1.2.getD i2.toNat (0, (0, (0, ())))).2.2.1, ())))).set i2.toNat (((s1.2.set i2.toNat (s1.1, ((s1.2.getD i2.toNat (0, (0, (0, ())))).2.1, ((s1.2.getD i2.toNat (0, (0, (0, ())))).2.2.1, ())))).getD i2.toNat (0, (0, (0, ())))).1, ((IntKind.wrap .i64 (s1.1 + 1)), (((s1.2.set i2.toNat (s1.1, ((s1.2.getD i2.toNat (0, (0, (0, ())))).2.1, ((s1.2.getD i2.toNat (0, (0, (0, ())))).2.2.1, ())))).getD i2.toNat (0, (0, (0, ())))).2.2.1, ())))).length : Int) from by (try simp only [List.length_set]) <;> omega)) rfl ?_
    refine ao_read trivial (r_fieldAddr_eleme Try.underlying33 rfl Try.sizeOf3 rfl rfl rfl) rfl ?_
    refine ao_effS trivial (e_store_fld (τ := (.pair (.int .i64) (.pair (.int .i64) (.pair (.int .i64) .unit)))) (u := (.int .i64)) (Y := (((((s1.2.set i2.toNat (s1.1, ((s1.2.getD i2.toNat (0, (0, (0, ())))).2.1, ((s1.2.getD i2.toNat (0, (0, (0, ())))).2.2.1, ())))).set i2.toNat (((s1.2.set i2.toNat (s1.1, ((s1.2.getD i2.toNat (0, (0, (0, ())))).2.1, ((s1.2.getD i2.toNat (0, (0, (0, ())))).2.2.1, ())))).getD i2.toNat (0, (0, (0, ())))).1, ((IntKind.wrap .i64 (s1.1 + 1)), (((s1.2.set i2.toNat (s1.1, ((s1.2.getD i2.toNat (0, (0, (0, ())))).2.1, ((s1.2.getD i2.toNat (0, (0, (0, ())))).2.2.1, ())))).getD i2.toNat (0, (0, (0, ())))).2.2.1, ())))).getD i2.toNat (0, (0, (0, ())))).1, ((((s1.2.set i2.toNat (s1.1, ((s1.2.getD i2.toNat (0, (0, (0, ())))).2.1, ((s1.2.getD i2.toNat (0, (0, (0, ())))).2.2.1, ())))).set i2.toNat (((s1.2.set i2.toNat (s1.1, ((s1.2.getD i2.toNat (0, (0, (0, ())))).2.1, ((s1.2.getD i2.toNat (0, (0, (0, ())))).2.2.1, ())))).getD i2.toNat (0, (0, (0, ())))).1, ((IntKind.wrap .i64 (s1.1 + 1)), (((s1.2.set i2.toNat (s1.1, ((s1.2.getD i2.toNat (0, (0, (0, ())))).2.1, ((s1.2.getD i2.toNat (0, (0, (0, ())))).2.2.1, ())))).getD i2.toNat (0, (0, (0, ())))).2.2.1, ())))).getD i2.toNat (0, (0, (0, ())))).2.1, ((IntKind.wrap .i64 ((IntKind.wrap .i64 (s1.1 + 1)) + 1)), ()))) : (Int × (Int × (Int × Unit))))) rfl rfl rfl Try.sizeOf3 rfl rfl rfl rfl rfl (show i2.toNat < ((s1.2.set i2.toNat (s1.1, ((s1.2.getD i2.toNat (0, (0, (0, ())))).2.1, ((s1.2.getD i2.toNat (0, (0, (0, ())))).2.2.1, ())))).set i2.toNat (((s1.2.set i2.toNat (s1.1, ((s1.2.getD i2.toNat (0, (0, (0, ())))).2.1, ((s1.2.getD i2.toNat (0, (0, (0, ())))).2.2.1, ())))).getD i2.toNat (0, (0, (0, ())))).1, ((IntKind.wrap .i64 (s1.1 + 1)), (((s1.2.set i2.toNat (s1.1, ((s1.2.getD i2.toNat (0, (0, (0, ())))).2.1, ((s1.2.getD i2.toNat (0, (0, (0, ())))).2.2.1, ())))).getD i2.toNat (0, (0, (0, ())))).2.2.1, ())))).length from by (try simp only [List.length_set]) <;> omega) rfl (lens_snd rfl rfl (lens_snd rfl rfl (lens_fst rfl rfl))) rfl) ?_
    refine ao_nil ?_
    refine aq_then ?_
    refine aw_region ?_
    refine ao_read trivial (r_move rfl) rfl ?_
    refine ao_read trivial (r_add rfl rfl) rfl ?_
    refine ao_read trivial (r_assign rfl) rfl ?_
    refine ao_nil ?_
    refine aq_in ?_
    refine aq_then ?_
    refine aw_region ?_
    refine ao_read trivial (r_move rfl) rfl ?_
    refine ao_read trivial (r_addI rfl rfl (wrap_id (by omega) (by omega))) rfl ?_
    refine ao_read trivial (r_assign rfl) rfl ?_
    refine ao_nil ?_
    exact aq_again (AL.sub (sub_r1 idn (nk1 rfl rfl) (by kernel_rfl)) (ih3 d3 (i2 + 1) ((IntKind.wrap .i64 ((IntKind.wrap .i64 ((IntKind.wrap .i64 (s1.1 + 1)) + 1)) + 1)), (((s1.2.set i2.toNat (s1.1, ((s1.2.getD i2.toNat (0, (0, (0, ())))).2.1, ((s1.2.getD i2.toNat (0, (0, (0, ())))).2.2.1, ())))).set i2.toNat (((s1.2.set i2.toNat (s1.1, ((s1.2.getD i2.toNat (0, (0, (0, ())))).2.1, ((s1.2.getD i2.toNat (0, (0, (0, ())))).2.2.1, ())))).getD i2.toNat (0, (0, (0, ())))).1, ((IntKind.wrap .i64 (s1.1 + 1)), (((s1.2.set i2.toNat (s1.1, ((s1.2.getD i2.toNat (0, (0, (0, ())))).2.1, ((s1.2.getD i2.toNat (0, (0, (0, ())))).2.2.1, ())))).getD i2.toNat (0, (0, (0, ())))).2.2.1, ())))).set i2.toNat ((((s1.2.set i2.toNat (s1.1, ((s1.2.getD i2.toNat (0, (0, (0, ())))).2.1, ((s1.2.getD i2.toNat (0, (0, (0, ())))).2.2.1, ())))).set i2.toNat (((s1.2.set i2.toNat (s1.1, ((s1.2.getD i2.toNat (0, (0, (0, ())))).2.1, ((s1.2.getD i2.toNat (0, (0, (0, ())))).2.2.1, ())))).getD i2.toNat (0, (0, (0, ())))).1, ((IntKind.wrap .i64 (s1.1 + 1)), (((s1.2.set i2.toNat (s1.1, ((s1.2.getD i2.toNat (0, (0, (0, ())))).2.1, ((s1.2.getD i2.toNat (0, (0, (0, ())))).2.2.1, ())))).getD i2.toNat (0, (0, (0, ())))).2.2.1, ())))).getD i2.toNat (0, (0, (0, ())))).1, ((((s1.2.set i2.toNat (s1.1, ((s1.2.getD i2.toNat (0, (0, (0, ())))).2.1, ((s1.2.getD i2.toNat (0, (0, (0, ())))).2.2.1, ())))).set i2.toNat (((s1.2.set i2.toNat (s1.1, ((s1.2.getD i2.toNat (0, (0, (0, ())))).2.1, ((s1.2.getD i2.toNat (0, (0, (0, ())))).2.2.1, ())))).getD i2.toNat (0, (0, (0, ())))).1, ((IntKind.wrap .i64 (s1.1 + 1)), (((s1.2.set i2.toNat (s1.1, ((s1.2.getD i2.toNat (0, (0, (0, ())))).2.1, ((s1.2.getD i2.toNat (0, (0, (0, ())))).2.2.1, ())))).getD i2.toNat (0, (0, (0, ())))).2.2.1, ())))).getD i2.toNat (0, (0, (0, ())))).2.1, ((IntKind.wrap .i64 ((IntKind.wrap .i64 (s1.1 + 1)) + 1)), ()))))) (by omega) ⟨by omega, (by (try simp only [List.length_set, List.length_append, List.length_cons, List.length_nil, List.length_replicate, List.length_take, List.length_drop]) <;> omega), (by (try simp only [List.length_set, List.length_append, List.length_cons, List.length_nil, List.length_replicate, List.length_take, List.length_drop]) <;> omega), (by (try simp only [List.length_set, List.length_append, List.length_cons, List.length_nil, List.length_replicate, List.length_take, List.length_drop]) <;> omega)⟩ h))
  · have q7 := d_f hb5
    obtain rfl : d3 = 0 := by omega
    replace h := is_cnt0 h
    refine aw_exit ?_
    refine aq_then_exit ?_
    refine aq_then_exit ?_
    refine aq_in_exit ?_
    refine aq_then ?_
    refine aw_seq ?_
    refine aw_region ?_
    refine ao_read trivial (r_move rfl) rfl ?_
    refine ao_read trivial (r_assign rfl) rfl ?_
    refine ao_nil ?_
    refine aq_then ?_
    refine aw_ret ?_
    refine aq_ret ?_
    obtain rfl := is_eq h
    exact aq_finx (l := [.tmp 4]) (xs := [.int .i64 s1.1]) idn [.int .i64 s1.1] [(0, .row (.pair (.int .i64) (.pair (.int .i64) (.pair (.int .i64) .unit))) s1.2)] rfl (by exact ⟨rfl, trivial⟩) (by exact ⟨ad_ren rfl, trivial⟩) (by exact ⟨⟨_, rfl, rfl⟩, trivial⟩) rfl (nk1 rfl rfl) rfl rfl ⟨rfl, rfl⟩
theorem c_laws_FnExactDoTasks {fu : Nat} {x0 : ((List (List Int)) × (Int × ((List Int) × (Int × (Int × (Int × Unit))))))} {x1 : (List (Int × (Int × (Int × Unit))))} {r : Bool} (h : Is (p_laws_FnExactDoTasks fu x0 x1) (some r)) :
    Scalar Try.prog 4 [.v (.pair (.slice (.arr 6 (.int .i64))) (.pair (.int .i64) (.pair (.slice (.int .i64)) (.pair (.int .i64) (.pair (.int .i64) (.pair (.int .i64) .unit)))))) x0, .v (.slice (.pair (.int .i64) (.pair (.int .i64) (.pair (.int .i64) .unit)))) x1] (.bool r) := by
  unfold p_laws_FnExactDoTasks at h
  refine ac_enter ⟨140, 0⟩ Try.func4 rfl rfl rfl rfl rfl (fun Γ => ?_)
  refine sl_len_m 1 (x1.length : Int) rfl rfl (fun hl1 => ?_)
  refine aw_seq ?_
  refine aw_region ?_
  refine ao_eff trivial (e_box 0 rfl rfl rfl rfl rfl rfl) rfl ?_
  refine ao_read trivial (r_assign rfl) rfl ?_
  refine ao_nil ?_
  refine aq_then ?_
  refine aw_seq ?_
  refine aw_region ?_
  refine ao_read trivial (r_assign rfl) rfl ?_
  refine ao_nil ?_
  refine aq_then ?_
  refine aw_seq ?_
  refine aw_region ?_
  refine ao_read trivial (r_load_part (τ := (.pair (.slice (.arr 6 (.int .i64))) (.pair (.int .i64) (.pair (.slice (.int .i64)) (.pair (.int .i64) (.pair (.int .i64) (.pair (.int .i64) .unit))))))) (y := ((x0.1, (x0.2.1, (x0.2.2.1, (x0.2.2.2.1, (x0.2.2.2.2.1, (x0.2.2.2.2.2.1, ())))))) : ((List (List Int)) × (Int × ((List Int) × (Int × (Int × (Int × Unit)))))))) [] [] rfl Try.isAgg25 Try.sizeOf25 rfl rfl rfl rfl) rfl ?_
  refine ao_read trivial (r_move rfl) rfl ?_
  refine ao_scall trivial (scall (c_laws_szTavern (is_mk (rfl : p_laws_szTavern (x0.1, (x0.2.1, (x0.2.2.1, (x0.2.2.2.1, (x0.2.2.2.2.1, (x0.2.2.2.2.2.1, ())))))) 1048576 = _))) rfl Try.func6 rfl rfl rfl rfl (fun σ => ⟨ad_ren rfl, ad_ren rfl, trivial⟩)) rfl ?_
  refine ao_read trivial (r_assign rfl) rfl ?_
  refine ao_nil ?_
  refine aq_then ?_
  refine aw_seq ?_
  refine aw_seq ?_
  refine aw_region ?_
  refine ao_read trivial (r_move rfl) rfl ?_
  refine ao_read trivial (r_lss rfl rfl) rfl ?_
  refine ao_nil ?_
  refine aq_then ?_
  refine aw_cond rfl (fun hb1 => ?_) (fun hb1 => ?_)
  · have q2 := d_t hb1
    replace h := is_if (d_t hb1) h
    refine aw_seq ?_
    refine aw_region ?_
    refine ao_read trivial (r_assign rfl) rfl ?_
    refine ao_nil ?_
    refine aq_then ?_
    refine aw_ret ?_
    refine aq_then_ret ?_
    refine aq_ret ?_
    obtain rfl := is_some h
    exact aq_finx (l := [.tmp 4]) (xs := [.bool true]) idn [.bool true] [] rfl (by exact ⟨rfl, trivial⟩) (by exact ⟨ad_ren rfl, trivial⟩) (by exact trivial) rfl (nk rfl) rfl rfl ⟨rfl, rfl⟩
  · have q3 := d_f hb1
    replace h := is_else (d_f hb1) h
    refine aw_skip ?_
    refine aq_then ?_
    refine aw_seq ?_
    refine aw_region ?_
    refine ao_read trivial (r_move rfl) rfl ?_
    refine ao_read trivial (r_move rfl) rfl ?_
    refine ao_scall trivial (scall (c_laws_szTaskS (is_mk (rfl : p_laws_szTaskS x1 (p_laws_szTavern (x0.1, (x0.2.1, (x0.2.2.1, (x0.2.2.2.1, (x0.2.2.2.2.1, (x0.2.2.2.2.2.1, ())))))) 1048576) = _))) rfl Try.func14 rfl rfl rfl rfl (fun σ => ⟨ad_ren rfl, ad_ren rfl, trivial⟩)) rfl ?_
    refine ao_read trivial (r_assign rfl) rfl ?_
    refine ao_nil ?_
    refine aq_then ?_
    refine aw_seq ?_
    refine aw_seq ?_
    refine aw_region ?_
    refine ao_read trivial (r_move rfl) rfl ?_
    refine ao_read trivial (r_lss rfl rfl) rfl ?_
    refine ao_nil ?_
    refine aq_then ?_
    refine aw_cond rfl (fun hb4 => ?_) (fun hb4 => ?_)
    · have q5 := d_t hb4
      replace h := is_if (d_t hb4) h
      refine aw_seq ?_
      refine aw_region ?_
      refine ao_read trivial (r_assign rfl) rfl ?_
      refine ao_nil ?_
      refine aq_then ?_
      refine aw_ret ?_
      refine aq_then_ret ?_
      refine aq_ret ?_
      obtain rfl := is_some h
      exact aq_finx (l := [.tmp 4]) (xs := [.bool true]) idn [.bool true] [] rfl (by exact ⟨rfl, trivial⟩) (by exact ⟨ad_ren rfl, trivial⟩) (by exact trivial) rfl (nk rfl) rfl rfl ⟨rfl, rfl⟩
    · have q6 := d_f hb4
      replace h := is_else (d_f hb4) h
      refine aw_skip ?_
      refine aq_then ?_
      refine aw_seq ?_
      refine aw_region ?_
      refine ao_read trivial (r_load_part (τ := (.pair (.slice (.arr 6 (.int .i64))) (.pair (.int .i64) (.pair (.slice (.int .i64)) (.pair (.int .i64) (.pair (.int .i64) (.pair (.int .i64) .unit))))))) (y := ((x0.1, (x0.2.1, (x0.2.2.1, (x0.2.2.2.1, (x0.2.2.2.2.1, (x0.2.2.2.2.2.1, ())))))) : ((List (List Int)) × (Int × ((List Int) × (Int × (Int × (Int × Unit)))))))) [] [] rfl Try.isAgg25 Try.sizeOf25 rfl rfl rfl rfl) rfl ?_
      obtain ⟨r7, r7h, h⟩ := is_bind h
      refine ao_call [] 1 trivial (c_laws_toTavern (is_mk r7h)) Try.func8 rfl rfl rfl rfl ⟨ad_ren rfl, trivial⟩ trivial rfl rfl rfl rfl rfl rfl rfl (fun r' H' hr => ?_)
      obtain ⟨rfl, rfl⟩ := hr
      refine ao_norm (y := .st [.os 1, .int .i64 r7.2.1, .os 2, .int .i64 r7.2.2.2.1, .int .i64 r7.2.2.2.2.1, .int .i64 r7.2.2.2.2.2.1]) (H' := [(0, .var [.cell (.v (.slice (.arr 6 (.int .i64))) x0.1), .cell (.int .i64 x0.2.1), .cell (.v (.slice (.int .i64)) x0.2.2.1), .cell (.int .i64 x0.2.2.2.1), .cell (.int .i64 x0.2.2.2.2.1), .cell (.int .i64 x0.2.2.2.2.2.1)]), (1, .row (.arr 6 (.int .i64)) r7.1), (2, .row (.int .i64) r7.2.2.1)]) rfl rfl ?_
      refine row_len_o 1 (r7.1.length : Int) rfl rfl (fun hr8 => ?_)
      refine row_len_o 2 (r7.2.2.1.length : Int) rfl rfl (fun hr9 => ?_)
      refine ao_read trivial (r_move rfl) rfl ?_
      obtain ⟨r10, r10h, h⟩ := is_bind h
      refine ao_call [] 3 trivial (c_laws_toTaskS (is_mk r10h)) Try.func16 rfl rfl rfl rfl ⟨ad_ren rfl, trivial⟩ trivial rfl rfl rfl rfl rfl rfl rfl (fun r' H' hr => ?_)
      obtain ⟨rfl, rfl⟩ := hr
      refine ao_norm (y := .os 3) (H' := [(0, .var [.cell (.v (.slice (.arr 6 (.int .i64))) x0.1), .cell (.int .i64 x0.2.1), .cell (.v (.slice (.int .i64)) x0.2.2.1), .cell (.int .i64 x0.2.2.2.1), .cell (.int .i64 x0.2.2.2.2.1), .cell (.int .i64 x0.2.2.2.2.2.1)]), (1, .row (.arr 6 (.int .i64)) r7.1), (2, .row (.int .i64) r7.2.2.1), (3, .row (.pair (.int .i64) (.pair (.int .i64) (.pair (.int .i64) .unit))) r10)]) rfl rfl ?_
      refine row_len_o 3 (r10.length : Int) rfl rfl (fun hr11 => ?_)
      obtain ⟨r12, r12h, h⟩ := is_bind h
      refine ao_call [] 4 trivial (c_spec_DoTasks (is_mk r12h)) Try.func15 rfl rfl rfl rfl ⟨ad_st rfl rfl ⟨ad_os0 rfl, ad_ren rfl, ad_os0 rfl, ad_ren rfl, ad_ren rfl, ad_ren rfl, trivial⟩, ad_os0 rfl, trivial⟩ trivial rfl rfl rfl rfl rfl rfl rfl (fun r' H' hr => ?_)
      obtain ⟨rfl, rfl⟩ := hr
      refine ao_norm (y := .tup [.st [.os 4, .int .i64 r12.1.2.1, .os 5, .int .i64 r12.1.2.2.2.1, .int .i64 r12.1.2.2.2.2.1, .int .i64 r12.1.2.2.2.2.2.1], .int .i64 r12.2.1, .bool r12.2.2]) (H' := [(0, .var [.cell (.v (.slice (.arr 6 (.int .i64))) x0.1), .cell (.int .i64 x0.2.1), .cell (.v (.slice (.int .i64)) x0.2.2.1), .cell (.int .i64 x0.2.2.2.1), .cell (.int .i64 x0.2.2.2.2.1), .cell (.int .i64 x0.2.2.2.2.2.1)]), (1, .row (.arr 6 (.int .i64)) r7.1), (2, .row (.int .i64) r7.2.2.1), (3, .row (.pair (.int .i64) (.pair (.int .i64) (.pair (.int .i64) .unit))) r10), (4, .row (.arr 6 (.int .i64)) r12.1.1), (5, .row (.int .i64) r12.1.2.2.1)]) rfl rfl ?_
      refine row_len_o 4 (r12.1.1.length : Int) rfl rfl (fun hr13 => ?_)
      refine row_len_o 5 (r12.1.2.2.1.length : Int) rfl rfl (fun hr14 => ?_)
      refine ao_read trivial (r_move rfl) rfl ?_
      refine ao_read trivial (r_extract rfl rfl) rfl ?_
      refine ao_read trivial (r_extract rfl rfl) rfl ?_
      refine ao_read trivial (r_extract rfl rfl) rfl ?_
      refine ao_eff trivial (e_alloc 6 (y := .st [.nilsl, .int .i64 0, .nilsl, .int .i64 0, .int .i64 0, .int .i64 0]) Try.zeroValue29 (fun ρ h M => ra_zero_st (t := (.pair (.slice (.arr 6 (.int .i64))) (.pair (.int .i64) (.pair (.slice (.int .i64)) (.pair (.int .i64) (.pair (.int .i64) (.pair (.int .i64) .unit))))))) rfl rfl rfl) rfl rfl rfl rfl rfl) rfl ?_
      refine ao_effS trivial (e_store rfl rfl rfl rfl Try.sizeOf29 rfl) ?_
      refine ao_read trivial (r_assign rfl) rfl ?_
      refine ao_read trivial (r_assign rfl) rfl ?_
      refine ao_nil ?_
      refine aq_then ?_
      refine aw_seq ?_
      refine aw_region ?_
      refine ao_read trivial (r_load_part (τ := (.pair (.slice (.arr 6 (.int .i64))) (.pair (.int .i64) (.pair (.slice (.int .i64)) (.pair (.int .i64) (.pair (.int .i64) (.pair (.int .i64) .unit))))))) (y := ((x0.1, (x0.2.1, (x0.2.2.1, (x0.2.2.2.1, (x0.2.2.2.2.1, (x0.2.2.2.2.2.1, ())))))) : ((List (List Int)) × (Int × ((List Int) × (Int × (Int × (Int × Unit)))))))) [] [] rfl Try.isAgg25 Try.sizeOf25 rfl rfl rfl rfl) rfl ?_
      obtain ⟨r15, r15h, h⟩ := is_bind h
      refine ao_call [] 7 trivial (c_laws_toTavern (is_mk r15h)) Try.func8 rfl rfl rfl rfl ⟨ad_ren rfl, trivial⟩ trivial rfl rfl rfl rfl rfl rfl rfl (fun r' H' hr => ?_)
      obtain ⟨rfl, rfl⟩ := hr
      refine ao_norm (y := .st [.os 7, .int .i64 r15.2.1, .os 8, .int .i64 r15.2.2.2.1, .int .i64 r15.2.2.2.2.1, .int .i64 r15.2.2.2.2.2.1]) (H' := [(6, .var [.cell (.os 4), .cell (.int .i64 r12.1.2.1), .cell (.os 5), .cell (.int .i64 r12.1.2.2.2.1), .cell (.int .i64 r12.1.2.2.2.2.1), .cell (.int .i64 r12.1.2.2.2.2.2.1)]), (0, .var [.cell (.v (.slice (.arr 6 (.int .i64))) x0.1), .cell (.int .i64 x0.2.1), .cell (.v (.slice (.int .i64)) x0.2.2.1), .cell (.int .i64 x0.2.2.2.1), .cell (.int .i64 x0.2.2.2.2.1), .cell (.int .i64 x0.2.2.2.2.2.1)]), (1, .row (.arr 6 (.int .i64)) r7.1), (2, .row (.int .i64) r7.2.2.1), (3, .row (.pair (.int .i64) (.pair (.int .i64) (.pair (.int .i64) .unit))) r10), (4, .row (.arr 6 (.int .i64)) r12.1.1), (5, .row (.int .i64) r12.1.2.2.1), (7, .row (.arr 6 (.int .i64)) r15.1), (8, .row (.int .i64) r15.2.2.1)]) rfl rfl ?_
      refine row_len_o 7 (r15.1.length : Int) rfl rfl (fun hr16 => ?_)
      refine row_len_o 8 (r15.2.2.1.length : Int) rfl rfl (fun hr17 => ?_)
      refine ao_eff trivial (e_alloc 9 (y := .st [.nilsl, .int .i64 0, .nilsl, .int .i64 0, .int .i64 0, .int .i64 0]) Try.zeroValue29 (fun ρ h M => ra_zero_st (t := (.pair (.slice (.arr 6 (.int .i64))) (.pair (.int .i64) (.pair (.slice (.int .i64)) (.pair (.int .i64) (.pair (.int .i64) (.pair (.int .i64) .unit))))))) rfl rfl rfl) rfl rfl rfl rfl rfl) rfl ?_
      refine ao_effS trivial (e_store rfl rfl rfl rfl Try.sizeOf29 rfl) ?_
      refine ao_nil ?_
      refine aq_then ?_
      refine aw_seq ?_
      refine aw_region ?_
      refine ao_read trivial (r_move rfl) rfl ?_
      obtain ⟨r18, r18h, h⟩ := is_bind h
      refine ao_call [] 10 trivial (c_laws_toTaskS (is_mk r18h)) Try.func16 rfl rfl rfl rfl ⟨ad_ren rfl, trivial⟩ trivial rfl rfl rfl rfl rfl rfl rfl (fun r' H' hr => ?_)
      obtain ⟨rfl, rfl⟩ := hr
      refine ao_norm (y := .os 10) (H' := [(9, .var [.cell (.os 7), .cell (.int .i64 r15.2.1), .cell (.os 8), .cell (.int .i64 r15.2.2.2.1), .cell (.int .i64 r15.2.2.2.2.1), .cell (.int .i64 r15.2.2.2.2.2.1)]), (6, .var [.cell (.os 4), .cell (.int .i64 r12.1.2.1), .cell (.os 5), .cell (.int .i64 r12.1.2.2.2.1), .cell (.int .i64 r12.1.2.2.2.2.1), .cell (.int .i64 r12.1.2.2.2.2.2.1)]), (0, .var [.cell (.v (.slice (.arr 6 (.int .i64))) x0.1), .cell (.int .i64 x0.2.1), .cell (.v (.slice (.int .i64)) x0.2.2.1), .cell (.int .i64 x0.2.2.2.1), .cell (.int .i64 x0.2.2.2.2.1), .cell (.int .i64 x0.2.2.2.2.2.1)]), (1, .row (.arr 6 (.int .i64)) r7.1), (2, .row (.int .i64) r7.2.2.1), (3, .row (.pair (.int .i64) (.pair (.int .i64) (.pair (.int .i64) .unit))) r10), (4, .row (.arr 6 (.int .i64)) r12.1.1), (5, .row (.int .i64) r12.1.2.2.1), (7, .row (.arr 6 (.int .i64)) r15.1), (8, .row (.int .i64) r15.2.2.1), (10, .row (.pair (.int .i64) (.pair (.int .i64) (.pair (.int .i64) .unit))) r18)]) rfl rfl ?_
      refine row_len_o 10 (r18.length : Int) rfl rfl (fun hr19 => ?_)
      refine ao_read trivial (r_assign rfl) rfl ?_
      refine ao_nil ?_
      refine aq_then ?_
      refine aw_seq ?_
      refine aw_region ?_
      refine ao_read trivial (r_load_st [] [.cell (.os 7), .cell (.int .i64 r15.2.1), .cell (.os 8), .cell (.int .i64 r15.2.2.2.1), .cell (.int .i64 r15.2.2.2.2.1), .cell (.int .i64 r15.2.2.2.2.2.1)] [] Try.isAgg29 Try.sizeOf29 rfl rfl rfl rfl rfl rfl rfl) rfl ?_
      refine ao_read trivial (r_move rfl) rfl ?_
      obtain ⟨r20, r20h, h⟩ := is_bind h
      refine ao_call [] 11 trivial (c_impl_DoTasks (is_mk r20h)) Try.func17 rfl rfl rfl rfl ⟨ad_st rfl rfl ⟨ad_os0 rfl, ad_ren rfl, ad_os0 rfl, ad_ren rfl, ad_ren rfl, ad_ren rfl, trivial⟩, ad_os0 rfl, trivial⟩ trivial rfl rfl rfl rfl rfl rfl rfl (fun r' H' hr => ?_)
      obtain ⟨rfl, rfl⟩ := hr
      refine ao_norm (y := .tup [.st [.os 11, .int .i64 r20.1.2.1, .os 12, .int .i64 r20.1.2.2.2.1, .int .i64 r20.1.2.2.2.2.1, .int .i64 r20.1.2.2.2.2.2.1], .int .i64 r20.2.1, .bool r20.2.2]) (H' := [(9, .var [.cell (.os 7), .cell (.int .i64 r15.2.1), .cell (.os 8), .cell (.int .i64 r15.2.2.2.1), .cell (.int .i64 r15.2.2.2.2.1), .cell (.int .i64 r15.2.2.2.2.2.1)]), (6, .var [.cell (.os 4), .cell (.int .i64 r12.1.2.1), .cell (.os 5), .cell (.int .i64 r12.1.2.2.2.1), .cell (.int .i64 r12.1.2.2.2.2.1), .cell (.int .i64 r12.1.2.2.2.2.2.1)]), (0, .var [.cell (.v (.slice (.arr 6 (.int .i64))) x0.1), .cell (.int .i64 x0.2.1), .cell (.v (.slice (.int .i64)) x0.2.2.1), .cell (.int .i64 x0.2.2.2.1), .cell (.int .i64 x0.2.2.2.2.1), .cell (.int .i64 x0.2.2.2.2.2.1)]), (1, .row (.arr 6 (.int .i64)) r7.1), (2, .row (.int .i64) r7.2.2.1), (3, .row (.pair (.int .i64) (.pair (.int .i64) (.pair (.int .i64) .unit))) r10), (4, .row (.arr 6 (.int .i64)) r12.1.1), (5, .row (.int .i64) r12.1.2.2.1), (7, .row (.arr 6 (.int .i64)) r15.1), (8, .row (.int .i64) r15.2.2.1), (10, .row (.pair (.int .i64) (.pair (.int .i64) (.pair (.int .i64) .unit))) r18), (11, .row (.arr 6 (.int .i64)) r20.1.1), (12, .row (.int .i64) r20.1.2.2.1)]) rfl rfl ?_
      refine row_len_o 11 (r20.1.1.length : Int) rfl rfl (fun hr21 => ?_)
      refine row_len_o 12 (r20.1.2.2.1.length : Int) rfl rfl (fun hr22 => ?_)
      refine ao_read trivial (r_move rfl) rfl ?_
      refine ao_read trivial (r_extract rfl rfl) rfl ?_
      refine ao_read trivial (r_extract rfl rfl) rfl ?_
      refine ao_read trivial (r_extract rfl rfl) rfl ?_
      refine ao_eff trivial (e_alloc 13 (y := .st [.nilsl, .int .i64 0, .nilsl, .int .i64 0, .int .i64 0, .int .i64 0]) Try.zeroValue29 (fun ρ h M => ra_zero_st (t := (.pair (.slice (.arr 6 (.int .i64))) (.pair (.int .i64) (.pair (.slice (.int .i64)) (.pair (.int .i64) (.pair (.int .i64) (.pair (.int .i64) .unit))))))) rfl rfl rfl) rfl rfl rfl rfl rfl) rfl ?_
      refine ao_effS trivial (e_store rfl rfl rfl rfl Try.sizeOf29 rfl) ?_
      refine ao_read trivial (r_assign rfl) rfl ?_
      refine ao_read trivial (r_assign rfl) rfl ?_
      refine ao_nil ?_
      refine aq_then ?_
      refine aw_seq ?_
      refine aw_seq ?_
      refine aw_region ?_
      refine ao_read trivial (r_load_st [] [.cell (.os 11), .cell (.int .i64 r20.1.2.1), .cell (.os 12), .cell (.int .i64 r20.1.2.2.2.1), .cell (.int .i64 r20.1.2.2.2.2.1), .cell (.int .i64 r20.1.2.2.2.2.2.1)] [] Try.isAgg29 Try.sizeOf29 rfl rfl rfl rfl rfl rfl rfl) rfl ?_
      refine ao_read trivial (r_load_st [] [.cell (.os 4), .cell (.int .i64 r12.1.2.1), .cell (.os 5), .cell (.int .i64 r12.1.2.2.2.1), .cell (.int .i64 r12.1.2.2.2.2.1), .cell (.int .i64 r12.1.2.2.2.2.2.1)] [] Try.isAgg29 Try.sizeOf29 rfl rfl rfl rfl rfl rfl rfl) rfl ?_
      refine ao_scall trivial (scall (c_laws_eqTavern (is_mk (rfl : p_laws_eqTavern (r20.1.1, (r20.1.2.1, (r20.1.2.2.1, (r20.1.2.2.2.1, (r20.1.2.2.2.2.1, (r20.1.2.2.2.2.2.1, ())))))) (r12.1.1, (r12.1.2.1, (r12.1.2.2.1, (r12.1.2.2.2.1, (r12.1.2.2.2.2.1, (r12.1.2.2.2.2.2.1, ())))))) = _))) rfl Try.func11 rfl rfl rfl rfl (fun σ => ⟨ad_st rfl rfl ⟨ad_os0 rfl, ad_ren rfl, ad_os0 rfl, ad_ren rfl, ad_ren rfl, ad_ren rfl, trivial⟩, ad_st rfl rfl ⟨ad_os0 rfl, ad_ren rfl, ad_os0 rfl, ad_ren rfl, ad_ren rfl, ad_ren rfl, trivial⟩, trivial⟩)) rfl ?_
      refine ao_read trivial (r_not rfl) rfl ?_
      refine ao_read trivial (r_move rfl) rfl ?_
      refine ao_readG (x := .int .i64 r20.2.1) rfl (GV.F rfl) (fun hg23 => r_move rfl) rfl ?_
      refine ao_readG (x := .int .i64 r12.2.1) rfl (GV.F rfl) (fun hg24 => r_move rfl) rfl ?_
      refine ao_readG (x := .bool (!(decide (r20.2.1 = r12.2.1)))) rfl (GV.F rfl) (fun hg25 => Reads.strip 55 rfl (hg25) (Reads.strip 56 rfl (hg25) (r_neq rfl rfl))) rfl ?_
      refine ao_read trivial (r_orB rfl rfl) rfl ?_
      refine ao_read trivial (r_move rfl) rfl ?_
      refine ao_readG (x := .bool r20.2.2) rfl (GV.F rfl) (fun hg26 => by
            obtain ⟨q27, q28⟩ := or_f (not_t hg26)
            have q29 := d_t (not_f q28)
            exact r_move rfl) rfl ?_
      refine ao_readG (x := .bool r12.2.2) rfl (GV.F rfl) (fun hg30 => by
            obtain ⟨q31, q32⟩ := or_f (not_t hg30)
            have q33 := d_t (not_f q32)
            exact r_move rfl) rfl ?_
      refine ao_readG (x := .bool (r20.2.2 != r12.2.2)) rfl (GV.F rfl) (fun hg34 => by
            obtain ⟨q35, q36⟩ := or_f (not_t hg34)
            have q37 := d_t (not_f q36)
            exact Reads.strip 60 rfl (hg34) (Reads.strip 61 rfl (hg34) (r_neq_bool Try.underlying4 rfl rfl))) rfl ?_
      refine ao_read trivial (r_orB rfl rfl) rfl ?_
      refine ao_nil ?_
      refine aq_then ?_
      refine aw_cond rfl (fun hb38 => ?_) (fun hb38 => ?_)
      · replace h := is_if hb38 h
        refine aw_seq ?_
        refine aw_region ?_
        refine ao_read trivial (r_assign rfl) rfl ?_
        refine ao_nil ?_
        refine aq_then ?_
        refine aw_ret ?_
        refine aq_then_ret ?_
        refine aq_ret ?_
        obtain rfl := is_some h
        exact aq_finx (l := [.tmp 4]) (xs := [.bool false]) idn [.bool false] [] rfl (by exact ⟨rfl, trivial⟩) (by exact ⟨ad_ren rfl, trivial⟩) (by exact trivial) rfl (nk rfl) rfl rfl ⟨rfl, rfl⟩
      · obtain ⟨q39, q40⟩ := or_f hb38
        obtain ⟨q41, q42⟩ := or_f q39
        have q43 := d_t (not_f q42)
        replace h := is_else (ne_t hb38) h
        refine aw_skip ?_
        refine aq_then ?_
        refine aw_seq ?_
        refine aw_seq ?_
        obtain ⟨r44, r44h, h⟩ := is_bind h
        refine aw_drawAll (by kernel_rfl) ?_
        refine an_to [(1, .v (.slice (.pair (.int .i64) (.pair (.int .i64) (.pair (.int .i64) .unit)))) x1), (2, .ref 0 0), (6, .ref 1 0), (7, .int .i64 r12.2.1), (8, .bool r12.2.2), (9, .ref 2 0), (10, .os 3), (11, .ref 4 0), (12, .int .i64 r20.2.1), (13, .bool r20.2.2), (68, .bool (!(p_laws_eqTavern (r15.1, (r15.2.1, (r15.2.2.1, (r15.2.2.2.1, (r15.2.2.2.2.1, (r15.2.2.2.2.2.1, ())))))) (r44.1, (r44.2.1, (r44.2.2.1, (r44.2.2.2.1, (r44.2.2.2.2.1, (r44.2.2.2.2.2.1, ())))))))))] [(0, .var [.cell (.v (.slice (.arr 6 (.int .i64))) x0.1), .cell (.int .i64 x0.2.1), .cell (.v (.slice (.int .i64)) x0.2.2.1), .cell (.int .i64 x0.2.2.2.1), .cell (.int .i64 x0.2.2.2.2.1), .cell (.int .i64 x0.2.2.2.2.2.1)]), (1, .var [.cell (.os 5), .cell (.int .i64 r12.1.2.1), .cell (.os 6), .cell (.int .i64 r12.1.2.2.2.1), .cell (.int .i64 r12.1.2.2.2.2.1), .cell (.int .i64 r12.1.2.2.2.2.2.1)]), (2, .var [.cell (.os 7), .cell (.int .i64 r15.2.1), .cell (.os 8), .cell (.int .i64 r15.2.2.2.1), .cell (.int .i64 r15.2.2.2.2.1), .cell (.int .i64 r15.2.2.2.2.2.1)]), (3, .row (.pair (.int .i64) (.pair (.int .i64) (.pair (.int .i64) .unit))) r18), (4, .var [.cell (.os 9), .cell (.int .i64 r20.1.2.1), .cell (.os 10), .cell (.int .i64 r20.1.2.2.2.1), .cell (.int .i64 r20.1.2.2.2.2.1), .cell (.int .i64 r20.1.2.2.2.2.2.1)]), (5, .row (.arr 6 (.int .i64)) r12.1.1), (6, .row (.int .i64) r12.1.2.2.1), (7, .row (.arr 6 (.int .i64)) r15.1), (8, .row (.int .i64) r15.2.2.1), (9, .row (.arr 6 (.int .i64)) r20.1.1), (10, .row (.int .i64) r20.1.2.2.1)] ?_ (fun key => ?_)
        · refine aq_then ?_
          refine aw_cond rfl (fun hb47 => ?_) (fun hb47 => ?_)
          · replace h := is_else (ne_t (not_t hb47)) h
            refine aw_seq ?_
            refine aw_region ?_
            refine ao_read trivial (r_assign rfl) rfl ?_
            refine ao_nil ?_
            refine aq_then ?_
            refine aw_ret ?_
            refine aq_then_ret ?_
            refine aq_ret ?_
            obtain rfl := is_some h
            exact aq_finx (l := [.tmp 4]) (xs := [.bool false]) idn [.bool false] [] rfl (by exact ⟨rfl, trivial⟩) (by exact ⟨ad_ren rfl, trivial⟩) (by exact trivial) rfl (nk rfl) rfl rfl ⟨rfl, rfl⟩
          · replace h := is_if (not_f hb47) h
            refine aw_skip ?_
            refine aq_then ?_
            refine aw_seq ?_
            refine aw_seq ?_
            refine aw_region ?_
            refine ao_read trivial (r_move rfl) rfl ?_
            refine ao_read trivial (r_move rfl) rfl ?_
            obtain ⟨r48, r48h, h⟩ := is_bind h
            refine ao_call [] 11 trivial (c_laws_toTaskS (is_mk r48h)) Try.func16 rfl rfl rfl rfl ⟨ad_ren rfl, trivial⟩ trivial rfl rfl rfl rfl rfl rfl rfl (fun r' H' hr => ?_)
            obtain ⟨rfl, rfl⟩ := hr
            refine ao_norm (y := .os 11) (H' := [(0, .var [.cell (.v (.slice (.arr 6 (.int .i64))) x0.1), .cell (.int .i64 x0.2.1), .cell (.v (.slice (.int .i64)) x0.2.2.1), .cell (.int .i64 x0.2.2.2.1), .cell (.int .i64 x0.2.2.2.2.1), .cell (.int .i64 x0.2.2.2.2.2.1)]), (1, .var [.cell (.os 5), .cell (.int .i64 r12.1.2.1), .cell (.os 6), .cell (.int .i64 r12.1.2.2.2.1), .cell (.int .i64 r12.1.2.2.2.2.1), .cell (.int .i64 r12.1.2.2.2.2.2.1)]), (2, .var [.cell (.os 7), .cell (.int .i64 r15.2.1), .cell (.os 8), .cell (.int .i64 r15.2.2.2.1), .cell (.int .i64 r15.2.2.2.2.1), .cell (.int .i64 r15.2.2.2.2.2.1)]), (3, .row (.pair (.int .i64) (.pair (.int .i64) (.pair (.int .i64) .unit))) r18), (4, .var [.cell (.os 9), .cell (.int .i64 r20.1.2.1), .cell (.os 10), .cell (.int .i64 r20.1.2.2.2.1), .cell (.int .i64 r20.1.2.2.2.2.1), .cell (.int .i64 r20.1.2.2.2.2.2.1)]), (5, .row (.arr 6 (.int .i64)) r12.1.1), (6, .row (.int .i64) r12.1.2.2.1), (7, .row (.arr 6 (.int .i64)) r15.1), (8, .row (.int .i64) r15.2.2.1), (9, .row (.arr 6 (.int .i64)) r20.1.1), (10, .row (.int .i64) r20.1.2.2.1), (11, .row (.pair (.int .i64) (.pair (.int .i64) (.pair (.int .i64) .unit))) r48)]) rfl rfl ?_
            refine row_len_o 11 (r48.length : Int) rfl rfl (fun hr49 => ?_)
            refine ao_scall trivial (scall (c_laws_eqTaskS (is_mk (rfl : p_laws_eqTaskS r18 r48 = _))) rfl Try.func18 rfl rfl rfl rfl (fun σ => ⟨ad_os0 rfl, ad_os0 rfl, trivial⟩)) rfl ?_
            refine ao_read trivial (r_not rfl) rfl ?_
            refine ao_nil ?_
            refine aq_then ?_
            refine aw_cond rfl (fun hb50 => ?_) (fun hb50 => ?_)
            · replace h := is_else (ne_t (not_t hb50)) h
              refine aw_seq ?_
              refine aw_region ?_
              refine ao_read trivial (r_assign rfl) rfl ?_
              refine ao_nil ?_
              refine aq_then ?_
              refine aw_ret ?_
              refine aq_then_ret ?_
              refine aq_ret ?_
              obtain rfl := is_some h
              exact aq_finx (l := [.tmp 4]) (xs := [.bool false]) idn [.bool false] [] rfl (by exact ⟨rfl, trivial⟩) (by exact ⟨ad_ren rfl, trivial⟩) (by exact trivial) rfl (nk rfl) rfl rfl ⟨rfl, rfl⟩
            · replace h := is_if (not_f hb50) h
              refine aw_skip ?_
              refine aq_then ?_
              refine aw_seq ?_
              refine aw_region ?_
              refine ao_read trivial (r_assign rfl) rfl ?_
              refine ao_nil ?_
              refine aq_then ?_
              refine aw_seq ?_
              refine aw_region ?_
              refine ao_read trivial (r_load_st [] [.cell (.os 7), .cell (.int .i64 r15.2.1), .cell (.os 8), .cell (.int .i64 r15.2.2.2.1), .cell (.int .i64 r15.2.2.2.2.1), .cell (.int .i64 r15.2.2.2.2.2.1)] [] Try.isAgg29 Try.sizeOf29 rfl rfl rfl rfl rfl rfl rfl) rfl ?_
              refine ao_read trivial (r_move rfl) rfl ?_
              refine ao_call [7, 8] 12 trivial (c_laws_markTavern (is_mk (rfl : p_laws_markTavern r15.1 r15.2.1 r15.2.2.1 r15.2.2.2.1 r15.2.2.2.2.1 r15.2.2.2.2.2.1 1 = _))) Try.func12 rfl rfl rfl rfl ⟨ad_ren rfl, ad_ren rfl, trivial⟩ ⟨⟨_, rfl, rfl⟩, ⟨_, rfl, rfl⟩, trivial⟩ rfl rfl rfl rfl rfl rfl rfl (fun r' H' hr => ?_)
              obtain ⟨rfl, rfl⟩ := hr
              refine ao_norm (y := .int .i64 ((p_laws_markTavern r15.1 r15.2.1 r15.2.2.1 r15.2.2.2.1 r15.2.2.2.2.1 r15.2.2.2.2.2.1 1).1)) (H' := [(0, .var [.cell (.v (.slice (.arr 6 (.int .i64))) x0.1), .cell (.int .i64 x0.2.1), .cell (.v (.slice (.int .i64)) x0.2.2.1), .cell (.int .i64 x0.2.2.2.1), .cell (.int .i64 x0.2.2.2.2.1), .cell (.int .i64 x0.2.2.2.2.2.1)]), (1, .var [.cell (.os 5), .cell (.int .i64 r12.1.2.1), .cell (.os 6), .cell (.int .i64 r12.1.2.2.2.1), .cell (.int .i64 r12.1.2.2.2.2.1), .cell (.int .i64 r12.1.2.2.2.2.2.1)]), (2, .var [.cell (.os 7), .cell (.int .i64 r15.2.1), .cell (.os 8), .cell (.int .i64 r15.2.2.2.1), .cell (.int .i64 r15.2.2.2.2.1), .cell (.int .i64 r15.2.2.2.2.2.1)]), (3, .row (.pair (.int .i64) (.pair (.int .i64) (.pair (.int .i64) .unit))) r18), (4, .var [.cell (.os 9), .cell (.int .i64 r20.1.2.1), .cell (.os 10), .cell (.int .i64 r20.1.2.2.2.1), .cell (.int .i64 r20.1.2.2.2.2.1), .cell (.int .i64 r20.1.2.2.2.2.2.1)]), (5, .row (.arr 6 (.int .i64)) r12.1.1), (6, .row (.int .i64) r12.1.2.2.1), (9, .row (.arr 6 (.int .i64)) r20.1.1), (10, .row (.int .i64) r20.1.2.2.1), (11, .row (.pair (.int .i64) (.pair (.int .i64) (.pair (.int .i64) .unit))) r48), (7, .row (.arr 6 (.int .i64)) ((p_laws_markTavern r15.1 r15.2.1 r15.2.2.1 r15.2.2.2.1 r15.2.2.2.2.1 r15.2.2.2.2.2.1 1).2.1 : (List (List Int)))), (8, .row (.int .i64) ((p_laws_markTavern r15.1 r15.2.1 r15.2.2.1 r15.2.2.2.1 r15.2.2.2.2.1 r15.2.2.2.2.2.1 1).2.2 : (List Int)))]) rfl rfl ?_
              refine ao_read trivial (r_assign rfl) rfl ?_
              refine ao_nil ?_
              refine aq_then ?_
              refine aw_seq ?_
              refine aw_region ?_
              refine ao_read trivial (r_move rfl) rfl ?_
              refine ao_read trivial (r_move rfl) rfl ?_
              refine ao_call [3] 12 trivial (c_laws_markTaskS (is_mk (rfl : p_laws_markTaskS r18 ((p_laws_markTavern r15.1 r15.2.1 r15.2.2.1 r15.2.2.2.1 r15.2.2.2.2.1 r15.2.2.2.2.2.1 1).1) = _))) Try.func19 rfl rfl rfl rfl ⟨ad_ren rfl, ad_ren rfl, trivial⟩ ⟨⟨_, rfl, rfl⟩, trivial⟩ rfl rfl rfl rfl rfl rfl rfl (fun r' H' hr => ?_)
              obtain ⟨rfl, rfl⟩ := hr
              refine ao_norm (y := .int .i64 ((p_laws_markTaskS r18 ((p_laws_markTavern r15.1 r15.2.1 r15.2.2.1 r15.2.2.2.1 r15.2.2.2.2.1 r15.2.2.2.2.2.1 1).1)).1)) (H' := [(0, .var [.cell (.v (.slice (.arr 6 (.int .i64))) x0.1), .cell (.int .i64 x0.2.1), .cell (.v (.slice (.int .i64)) x0.2.2.1), .cell (.int .i64 x0.2.2.2.1), .cell (.int .i64 x0.2.2.2.2.1), .cell (.int .i64 x0.2.2.2.2.2.1)]), (1, .var [.cell (.os 5), .cell (.int .i64 r12.1.2.1), .cell (.os 6), .cell (.int .i64 r12.1.2.2.2.1), .cell (.int .i64 r12.1.2.2.2.2.1), .cell (.int .i64 r12.1.2.2.2.2.2.1)]), (2, .var [.cell (.os 7), .cell (.int .i64 r15.2.1), .cell (.os 8), .cell (.int .i64 r15.2.2.2.1), .cell (.int .i64 r15.2.2.2.2.1), .cell (.int .i64 r15.2.2.2.2.2.1)]), (4, .var [.cell (.os 9), .cell (.int .i64 r20.1.2.1), .cell (.os 10), .cell (.int .i64 r20.1.2.2.2.1), .cell (.int .i64 r20.1.2.2.2.2.1), .cell (.int .i64 r20.1.2.2.2.2.2.1)]), (5, .row (.arr 6 (.int .i64)) r12.1.1), (6, .row (.int .i64) r12.1.2.2.1), (9, .row (.arr 6 (.int .i64)) r20.1.1), (10, .row (.int .i64) r20.1.2.2.1), (11, .row (.pair (.int .i64) (.pair (.int .i64) (.pair (.int .i64) .unit))) r48), (7, .row (.arr 6 (.int .i64)) ((p_laws_markTavern r15.1 r15.2.1 r15.2.2.1 r15.2.2.2.1 r15.2.2.2.2.1 r15.2.2.2.2.2.1 1).2.1 : (List (List Int)))), (8, .row (.int .i64) ((p_laws_markTavern r15.1 r15.2.1 r15.2.2.1 r15.2.2.2.1 r15.2.2.2.2.1 r15.2.2.2.2.2.1 1).2.2 : (List Int))), (3, .row (.pair (.int .i64) (.pair (.int .i64) (.pair (.int .i64) .unit))) ((p_laws_markTaskS r18 ((p_laws_markTavern r15.1 r15.2.1 r15.2.2.1 r15.2.2.2.1 r15.2.2.2.2.1 r15.2.2.2.2.2.1 1).1)).2 : (List (Int × (Int × (Int × Unit))))))]) rfl rfl ?_
              refine ao_read trivial (r_assign rfl) rfl ?_
              refine ao_nil ?_
              refine aq_then ?_
              refine aw_seq ?_
              refine aw_seq ?_
              refine aw_region ?_
              refine ao_read trivial (r_move rfl) rfl ?_
              refine ao_read trivial (r_lss rfl rfl) rfl ?_
              refine ao_read trivial (r_move rfl) rfl ?_
              refine ao_readG (x := .st [.os 9, .int .i64 r20.1.2.1, .os 10, .int .i64 r20.1.2.2.2.1, .int .i64 r20.1.2.2.2.2.1, .int .i64 r20.1.2.2.2.2.2.1]) rfl (GV.F rfl) (fun hg51 => by
                    have q52 := d_f (not_t hg51)
                    exact r_load_st [] [.cell (.os 9), .cell (.int .i64 r20.1.2.1), .cell (.os 10), .cell (.int .i64 r20.1.2.2.2.1), .cell (.int .i64 r20.1.2.2.2.2.1), .cell (.int .i64 r20.1.2.2.2.2.2.1)] [] Try.isAgg29 Try.sizeOf29 rfl rfl rfl rfl rfl rfl rfl) rfl ?_
              refine ao_readG (x := .st [.os 5, .int .i64 r12.1.2.1, .os 6, .int .i64 r12.1.2.2.2.1, .int .i64 r12.1.2.2.2.2.1, .int .i64 r12.1.2.2.2.2.2.1]) rfl (GV.F rfl) (fun hg53 => by
                    have q54 := d_f (not_t hg53)
                    exact r_load_st [] [.cell (.os 5), .cell (.int .i64 r12.1.2.1), .cell (.os 6), .cell (.int .i64 r12.1.2.2.2.1), .cell (.int .i64 r12.1.2.2.2.2.1), .cell (.int .i64 r12.1.2.2.2.2.2.1)] [] Try.isAgg29 Try.sizeOf29 rfl rfl rfl rfl rfl rfl rfl) rfl ?_
              refine ao_scallG (r := .bool (p_laws_eqTavern (r20.1.1, (r20.1.2.1, (r20.1.2.2.1, (r20.1.2.2.2.1, (r20.1.2.2.2.2.1, (r20.1.2.2.2.2.2.1, ())))))) (r12.1.1, (r12.1.2.1, (r12.1.2.2.1, (r12.1.2.2.2.1, (r12.1.2.2.2.2.1, (r12.1.2.2.2.2.2.1, ())))))))) rfl (GV.F rfl) (fun hg55 => by
                    have q56 := d_f (not_t hg55)
                    exact SCall.strip 83 rfl (hg55) (SCall.strip 84 rfl (hg55) (scall (c_laws_eqTavern (is_mk (rfl : p_laws_eqTavern (r20.1.1, (r20.1.2.1, (r20.1.2.2.1, (r20.1.2.2.2.1, (r20.1.2.2.2.2.1, (r20.1.2.2.2.2.2.1, ())))))) (r12.1.1, (r12.1.2.1, (r12.1.2.2.1, (r12.1.2.2.2.1, (r12.1.2.2.2.2.1, (r12.1.2.2.2.2.2.1, ())))))) = _))) rfl Try.func11 rfl rfl rfl rfl (fun σ => ⟨ad_st rfl rfl ⟨ad_os0 rfl, ad_ren rfl, ad_os0 rfl, ad_ren rfl, ad_ren rfl, ad_ren rfl, trivial⟩, ad_st rfl rfl ⟨ad_os0 rfl, ad_ren rfl, ad_os0 rfl, ad_ren rfl, ad_ren rfl, ad_ren rfl, trivial⟩, trivial⟩)))) rfl ?_
              refine ao_readG (x := .bool (!(p_laws_eqTavern (r20.1.1, (r20.1.2.1, (r20.1.2.2.1, (r20.1.2.2.2.1, (r20.1.2.2.2.2.1, (r20.1.2.2.2.2.2.1, ())))))) (r12.1.1, (r12.1.2.1, (r12.1.2.2.1, (r12.1.2.2.2.1, (r12.1.2.2.2.2.1, (r12.1.2.2.2.2.2.1, ()))))))))) rfl (GV.F rfl) (fun hg57 => by
                    have q58 := d_f (not_t hg57)
                    exact Reads.strip 85 rfl (hg57) (r_not rfl)) rfl ?_
              refine ao_read trivial (r_orB rfl rfl) rfl ?_
              refine ao_read trivial (r_move rfl) rfl ?_
              refine ao_readG (x := .int .i64 r20.2.1) rfl (GV.F rfl) (fun hg59 => by
                    obtain ⟨q60, q61⟩ := or_f (not_t hg59)
                    have q62 := d_f q60
                    exact r_move rfl) rfl ?_
              refine ao_readG (x := .int .i64 r12.2.1) rfl (GV.F rfl) (fun hg63 => by
                    obtain ⟨q64, q65⟩ := or_f (not_t hg63)
                    have q66 := d_f q64
                    exact r_move rfl) rfl ?_
              refine ao_readG (x := .bool (!(decide (r20.2.1 = r12.2.1)))) rfl (GV.F rfl) (fun hg67 => by
                    obtain ⟨q68, q69⟩ := or_f (not_t hg67)
                    have q70 := d_f q68
                    exact Reads.strip 89 rfl (hg67) (Reads.strip 90 rfl (hg67) (r_neq rfl rfl))) rfl ?_
              refine ao_read trivial (r_orB rfl rfl) rfl ?_
              refine ao_read trivial (r_move rfl) rfl ?_
              refine ao_readG (x := .bool r20.2.2) rfl (GV.F rfl) (fun hg71 => by
                    obtain ⟨q72, q73⟩ := or_f (not_t hg71)
                    obtain ⟨q74, q75⟩ := or_f q72
                    have q76 := d_f q74
                    have q77 := d_t (not_f q73)
                    exact r_move rfl) rfl ?_
              refine ao_readG (x := .bool r12.2.2) rfl (GV.F rfl) (fun hg78 => by
                    obtain ⟨q79, q80⟩ := or_f (not_t hg78)
                    obtain ⟨q81, q82⟩ := or_f q79
                    have q83 := d_f q81
                    have q84 := d_t (not_f q80)
                    exact r_move rfl) rfl ?_
              refine ao_readG (x := .bool (r20.2.2 != r12.2.2)) rfl (GV.F rfl) (fun hg85 => by
                    obtain ⟨q86, q87⟩ := or_f (not_t hg85)
                    obtain ⟨q88, q89⟩ := or_f q86
                    have q90 := d_f q88
                    have q91 := d_t (not_f q87)
                    exact Reads.strip 94 rfl (hg85) (Reads.strip 95 rfl (hg85) (r_neq_bool Try.underlying4 rfl rfl))) rfl ?_
              refine ao_read trivial (r_orB rfl rfl) rfl ?_
              refine ao_nil ?_
              refine aq_then ?_
              refine aw_cond rfl (fun hb92 => ?_) (fun hb92 => ?_)
              · replace h := is_if hb92 h
                refine aw_seq ?_
                refine aw_region ?_
                refine ao_read trivial (r_assign rfl) rfl ?_
                refine ao_nil ?_
                refine aq_then ?_
                refine aw_ret ?_
                refine aq_then_ret ?_
                refine aq_ret ?_
                obtain rfl := is_some h
                exact aq_finx (l := [.tmp 4]) (xs := [.bool false]) idn [.bool false] [] rfl (by exact ⟨rfl, trivial⟩) (by exact ⟨ad_ren rfl, trivial⟩) (by exact trivial) rfl (nk rfl) rfl rfl ⟨rfl, rfl⟩
              · obtain ⟨q93, q94⟩ := or_f hb92
                obtain ⟨q95, q96⟩ := or_f q93
                obtain ⟨q97, q98⟩ := or_f q95
                have q99 := d_f q97
                have q100 := d_t (not_f q96)
                replace h := is_else (ne_t hb92) h
                refine aw_skip ?_
                refine aq_then ?_
                refine aw_seq ?_
                refine aw_region ?_
                refine ao_read trivial (r_assign rfl) rfl ?_
                refine ao_nil ?_
                refine aq_then ?_
                refine aw_seq ?_
                refine aw_region ?_
                refine ao_read trivial (r_load_st [] [.cell (.os 9), .cell (.int .i64 r20.1.2.1), .cell (.os 10), .cell (.int .i64 r20.1.2.2.2.1), .cell (.int .i64 r20.1.2.2.2.2.1), .cell (.int .i64 r20.1.2.2.2.2.2.1)] [] Try.isAgg29 Try.sizeOf29 rfl rfl rfl rfl rfl rfl rfl) rfl ?_
                refine ao_read trivial (r_move rfl) rfl ?_
                refine ao_call [9, 10] 12 trivial (c_laws_markTavern (is_mk (rfl : p_laws_markTavern r20.1.1 r20.1.2.1 r20.1.2.2.1 r20.1.2.2.2.1 r20.1.2.2.2.2.1 r20.1.2.2.2.2.2.1 1 = _))) Try.func12 rfl rfl rfl rfl ⟨ad_ren rfl, ad_ren rfl, trivial⟩ ⟨⟨_, rfl, rfl⟩, ⟨_, rfl, rfl⟩, trivial⟩ rfl rfl rfl rfl rfl rfl rfl (fun r' H' hr => ?_)
                obtain ⟨rfl, rfl⟩ := hr
                refine ao_norm (y := .int .i64 ((p_laws_markTavern r20.1.1 r20.1.2.1 r20.1.2.2.1 r20.1.2.2.2.1 r20.1.2.2.2.2.1 r20.1.2.2.2.2.2.1 1).1)) (H' := [(0, .var [.cell (.v (.slice (.arr 6 (.int .i64))) x0.1), .cell (.int .i64 x0.2.1), .cell (.v (.slice (.int .i64)) x0.2.2.1), .cell (.int .i64 x0.2.2.2.1), .cell (.int .i64 x0.2.2.2.2.1), .cell (.int .i64 x0.2.2.2.2.2.1)]), (1, .var [.cell (.os 5), .cell (.int .i64 r12.1.2.1), .cell (.os 6), .cell (.int .i64 r12.1.2.2.2.1), .cell (.int .i64 r12.1.2.2.2.2.1), .cell (.int .i64 r12.1.2.2.2.2.2.1)]), (2, .var [.cell (.os 7), .cell (.int .i64 r15.2.1), .cell (.os 8), .cell (.int .i64 r15.2.2.2.1), .cell (.int .i64 r15.2.2.2.2.1), .cell (.int .i64 r15.2.2.2.2.2.1)]), (4, .var [.cell (.os 9), .cell (.int .i64 r20.1.2.1), .cell (.os 10), .cell (.int .i64 r20.1.2.2.2.1), .cell (.int .i64 r20.1.2.2.2.2.1), .cell (.int .i64 r20.1.2.2.2.2.2.1)]), (5, .row (.arr 6 (.int .i64)) r12.1.1), (6, .row (.int .i64) r12.1.2.2.1), (11, .row (.pair (.int .i64) (.pair (.int .i64) (.pair (.int .i64) .unit))) r48), (7, .row (.arr 6 (.int .i64)) ((p_laws_markTavern r15.1 r15.2.1 r15.2.2.1 r15.2.2.2.1 r15.2.2.2.2.1 r15.2.2.2.2.2.1 1).2.1 : (List (List Int)))), (8, .row (.int .i64) ((p_laws_markTavern r15.1 r15.2.1 r15.2.2.1 r15.2.2.2.1 r15.2.2.2.2.1 r15.2.2.2.2.2.1 1).2.2 : (List Int))), (3, .row (.pair (.int .i64) (.pair (.int .i64) (.pair (.int .i64) .unit))) ((p_laws_markTaskS r18 ((p_laws_markTavern r15.1 r15.2.1 r15.2.2.1 r15.2.2.2.1 r15.2.2.2.2.1 r15.2.2.2.2.2.1 1).1)).2 : (List (Int × (Int × (Int × Unit)))))), (9, .row (.arr 6 (.int .i64)) ((p_laws_markTavern r20.1.1 r20.1.2.1 r20.1.2.2.1 r20.1.2.2.2.1 r20.1.2.2.2.2.1 r20.1.2.2.2.2.2.1 1).2.1 : (List (List Int)))), (10, .row (.int .i64) ((p_laws_markTavern r20.1.1 r20.1.2.1 r20.1.2.2.1 r20.1.2.2.2.1 r20.1.2.2.2.2.1 r20.1.2.2.2.2.2.1 1).2.2 : (List Int)))]) rfl rfl ?_
                refine ao_read trivial (r_assign rfl) rfl ?_
                refine ao_nil ?_
                refine aq_then ?_
                refine aw_seq ?_
                refine aw_region ?_
                refine ao_read trivial (r_assign rfl) rfl ?_
                refine ao_nil ?_
                refine aq_then ?_
                refine aw_seq ?_
                refine aw_region ?_
                refine ao_read trivial (r_load_st [] [.cell (.os 9), .cell (.int .i64 r20.1.2.1), .cell (.os 10), .cell (.int .i64 r20.1.2.2.2.1), .cell (.int .i64 r20.1.2.2.2.2.1), .cell (.int .i64 r20.1.2.2.2.2.2.1)] [] Try.isAgg29 Try.sizeOf29 rfl rfl rfl rfl rfl rfl rfl) rfl ?_
                refine ao_read trivial (r_move rfl) rfl ?_
                refine ao_scall trivial (scall (c_laws_heldTavern (is_mk (rfl : p_laws_heldTavern ((p_laws_markTavern r20.1.1 r20.1.2.1 r20.1.2.2.1 r20.1.2.2.2.1 r20.1.2.2.2.2.1 r20.1.2.2.2.2.2.1 1).2.1, (r20.1.2.1, ((p_laws_markTavern r20.1.1 r20.1.2.1 r20.1.2.2.1 r20.1.2.2.2.1 r20.1.2.2.2.2.1 r20.1.2.2.2.2.2.1 1).2.2, (r20.1.2.2.2.1, (r20.1.2.2.2.2.1, (r20.1.2.2.2.2.2.1, ())))))) 1 = _))) rfl Try.func13 rfl rfl rfl rfl (fun σ => ⟨ad_st rfl rfl ⟨ad_os0 rfl, ad_ren rfl, ad_os0 rfl, ad_ren rfl, ad_ren rfl, ad_ren rfl, trivial⟩, ad_ren rfl, trivial⟩)) rfl ?_
                refine ao_read trivial (r_assign rfl) rfl ?_
                refine ao_nil ?_
                refine aq_then ?_
                refine aw_seq ?_
                refine aw_seq ?_
                refine aw_region ?_
                refine ao_read trivial (r_move rfl) rfl ?_
                refine ao_read trivial (r_lss rfl rfl) rfl ?_
                refine ao_nil ?_
                refine aq_then ?_
                refine aw_cond rfl (fun hb101 => ?_) (fun hb101 => ?_)
                · have q102 := d_t hb101
                  replace h := is_if (d_t hb101) h
                  refine aw_seq ?_
                  refine aw_region ?_
                  refine ao_read trivial (r_assign rfl) rfl ?_
                  refine ao_nil ?_
                  refine aq_then ?_
                  refine aw_ret ?_
                  refine aq_then_ret ?_
                  refine aq_ret ?_
                  obtain rfl := is_some h
                  exact aq_finx (l := [.tmp 4]) (xs := [.bool false]) idn [.bool false] [] rfl (by exact ⟨rfl, trivial⟩) (by exact ⟨ad_ren rfl, trivial⟩) (by exact trivial) rfl (nk rfl) rfl rfl ⟨rfl, rfl⟩
                · have q103 := d_f hb101
                  replace h := is_else (d_f hb101) h
                  refine aw_skip ?_
                  refine aq_then ?_
                  refine aw_seq ?_
                  refine aw_seq ?_
                  refine aw_region ?_
                  refine ao_read trivial (r_move rfl) rfl ?_
                  refine ao_read trivial (r_move rfl) rfl ?_
                  refine ao_read trivial (r_neq rfl rfl) rfl ?_
                  refine ao_nil ?_
                  refine aq_then ?_
                  refine aw_cond rfl (fun hb104 => ?_) (fun hb104 => ?_)
                  · have q105 := d_f (not_t hb104)
                    replace h := is_else (d_f (not_t hb104)) h
                    refine aw_seq ?_
                    refine aw_region ?_
                    refine ao_read trivial (r_assign rfl) rfl ?_
                    refine ao_nil ?_
                    refine aq_then ?_
                    refine aw_ret ?_
                    refine aq_then_ret ?_
                    refine aq_ret ?_
                    obtain rfl := is_some h
                    exact aq_finx (l := [.tmp 4]) (xs := [.bool false]) idn [.bool false] [] rfl (by exact ⟨rfl, trivial⟩) (by exact ⟨ad_ren rfl, trivial⟩) (by exact trivial) rfl (nk rfl) rfl rfl ⟨rfl, rfl⟩
                  · have q106 := d_t (not_f hb104)
                    replace h := is_if (d_t (not_f hb104)) h
                    refine aw_skip ?_
                    refine aq_then ?_
                    refine aw_seq ?_
                    refine aw_region ?_
                    refine ao_read trivial (r_load_part (τ := (.pair (.slice (.arr 6 (.int .i64))) (.pair (.int .i64) (.pair (.slice (.int .i64)) (.pair (.int .i64) (.pair (.int .i64) (.pair (.int .i64) .unit))))))) (y := ((x0.1, (x0.2.1, (x0.2.2.1, (x0.2.2.2.1, (x0.2.2.2.2.1, (x0.2.2.2.2.2.1, ())))))) : ((List (List Int)) × (Int × ((List Int) × (Int × (Int × (Int × Unit)))))))) [] [] rfl Try.isAgg25 Try.sizeOf25 rfl rfl rfl rfl) rfl ?_
                    obtain ⟨r107, r107h, h⟩ := is_bind h
                    refine ao_call [] 12 trivial (c_laws_toTavern (is_mk r107h)) Try.func8 rfl rfl rfl rfl ⟨ad_ren rfl, trivial⟩ trivial rfl rfl rfl rfl rfl rfl rfl (fun r' H' hr => ?_)
                    obtain ⟨rfl, rfl⟩ := hr
                    refine ao_norm (y := .st [.os 12, .int .i64 r107.2.1, .os 13, .int .i64 r107.2.2.2.1, .int .i64 r107.2.2.2.2.1, .int .i64 r107.2.2.2.2.2.1]) (H' := [(0, .var [.cell (.v (.slice (.arr 6 (.int .i64))) x0.1), .cell (.int .i64 x0.2.1), .cell (.v (.slice (.int .i64)) x0.2.2.1), .cell (.int .i64 x0.2.2.2.1), .cell (.int .i64 x0.2.2.2.2.1), .cell (.int .i64 x0.2.2.2.2.2.1)]), (1, .var [.cell (.os 5), .cell (.int .i64 r12.1.2.1), .cell (.os 6), .cell (.int .i64 r12.1.2.2.2.1), .cell (.int .i64 r12.1.2.2.2.2.1), .cell (.int .i64 r12.1.2.2.2.2.2.1)]), (2, .var [.cell (.os 7), .cell (.int .i64 r15.2.1), .cell (.os 8), .cell (.int .i64 r15.2.2.2.1), .cell (.int .i64 r15.2.2.2.2.1), .cell (.int .i64 r15.2.2.2.2.2.1)]), (4, .var [.cell (.os 9), .cell (.int .i64 r20.1.2.1), .cell (.os 10), .cell (.int .i64 r20.1.2.2.2.1), .cell (.int .i64 r20.1.2.2.2.2.1), .cell (.int .i64 r20.1.2.2.2.2.2.1)]), (5, .row (.arr 6 (.int .i64)) r12.1.1), (6, .row (.int .i64) r12.1.2.2.1), (11, .row (.pair (.int .i64) (.pair (.int .i64) (.pair (.int .i64) .unit))) r48), (7, .row (.arr 6 (.int .i64)) ((p_laws_markTavern r15.1 r15.2.1 r15.2.2.1 r15.2.2.2.1 r15.2.2.2.2.1 r15.2.2.2.2.2.1 1).2.1 : (List (List Int)))), (8, .row (.int .i64) ((p_laws_markTavern r15.1 r15.2.1 r15.2.2.1 r15.2.2.2.1 r15.2.2.2.2.1 r15.2.2.2.2.2.1 1).2.2 : (List Int))), (3, .row (.pair (.int .i64) (.pair (.int .i64) (.pair (.int .i64) .unit))) ((p_laws_markTaskS r18 ((p_laws_markTavern r15.1 r15.2.1 r15.2.2.1 r15.2.2.2.1 r15.2.2.2.2.1 r15.2.2.2.2.2.1 1).1)).2 : (List (Int × (Int × (Int × Unit)))))), (9, .row (.arr 6 (.int .i64)) ((p_laws_markTavern r20.1.1 r20.1.2.1 r20.1.2.2.1 r20.1.2.2.2.1 r20.1.2.2.2.2.1 r20.1.2.2.2.2.2.1 1).2.1 : (List (List Int)))), (10, .row (.int .i64) ((p_laws_markTavern r20.1.1 r20.1.2.1 r20.1.2.2.1 r20.1.2.2.2.1 r20.1.2.2.2.2.1 r20.1.2.2.2.2.2.1 1).2.2 : (List Int))), (12, .row (.arr 6 (.int .i64)) r107.1), (13, .row (.int .i64) r107.2.2.1)]) rfl rfl ?_
                    refine row_len_o 12 (r107.1.length : Int) rfl rfl (fun hr108 => ?_)
                    refine row_len_o 13 (r107.2.2.1.length : Int) rfl rfl (fun hr109 => ?_)
                    refine ao_read trivial (r_move rfl) rfl ?_
                    obtain ⟨r110, r110h, h⟩ := is_bind h
                    refine ao_call [] 14 trivial (c_laws_toTaskS (is_mk r110h)) Try.func16 rfl rfl rfl rfl ⟨ad_ren rfl, trivial⟩ trivial rfl rfl rfl rfl rfl rfl rfl (fun r' H' hr => ?_)
                    obtain ⟨rfl, rfl⟩ := hr
                    refine ao_norm (y := .os 14) (H' := [(0, .var [.cell (.v (.slice (.arr 6 (.int .i64))) x0.1), .cell (.int .i64 x0.2.1), .cell (.v (.slice (.int .i64)) x0.2.2.1), .cell (.int .i64 x0.2.2.2.1), .cell (.int .i64 x0.2.2.2.2.1), .cell (.int .i64 x0.2.2.2.2.2.1)]), (1, .var [.cell (.os 5), .cell (.int .i64 r12.1.2.1), .cell (.os 6), .cell (.int .i64 r12.1.2.2.2.1), .cell (.int .i64 r12.1.2.2.2.2.1), .cell (.int .i64 r12.1.2.2.2.2.2.1)]), (2, .var [.cell (.os 7), .cell (.int .i64 r15.2.1), .cell (.os 8), .cell (.int .i64 r15.2.2.2.1), .cell (.int .i64 r15.2.2.2.2.1), .cell (.int .i64 r15.2.2.2.2.2.1)]), (4, .var [.cell (.os 9), .cell (.int .i64 r20.1.2.1), .cell (.os 10), .cell (.int .i64 r20.1.2.2.2.1), .cell (.int .i64 r20.1.2.2.2.2.1), .cell (.int .i64 r20.1.2.2.2.2.2.1)]), (5, .row (.arr 6 (.int .i64)) r12.1.1), (6, .row (.int .i64) r12.1.2.2.1), (11, .row (.pair (.int .i64) (.pair (.int .i64) (.pair (.int .i64) .unit))) r48), (7, .row (.arr 6 (.int .i64)) ((p_laws_markTavern r15.1 r15.2.1 r15.2.2.1 r15.2.2.2.1 r15.2.2.2.2.1 r15.2.2.2.2.2.1 1).2.1 : (List (List Int)))), (8, .row (.int .i64) ((p_laws_markTavern r15.1 r15.2.1 r15.2.2.1 r15.2.2.2.1 r15.2.2.2.2.1 r15.2.2.2.2.2.1 1).2.2 : (List Int))), (3, .row (.pair (.int .i64) (.pair (.int .i64) (.pair (.int .i64) .unit))) ((p_laws_markTaskS r18 ((p_laws_markTavern r15.1 r15.2.1 r15.2.2.1 r15.2.2.2.1 r15.2.2.2.2.1 r15.2.2.2.2.2.1 1).1)).2 : (List (Int × (Int × (Int × Unit)))))), (9, .row (.arr 6 (.int .i64)) ((p_laws_markTavern r20.1.1 r20.1.2.1 r20.1.2.2.1 r20.1.2.2.2.1 r20.1.2.2.2.2.1 r20.1.2.2.2.2.2.1 1).2.1 : (List (List Int)))), (10, .row (.int .i64) ((p_laws_markTavern r20.1.1 r20.1.2.1 r20.1.2.2.1 r20.1.2.2.2.1 r20.1.2.2.2.2.1 r20.1.2.2.2.2.2.1 1).2.2 : (List Int))), (12, .row (.arr 6 (.int .i64)) r107.1), (13, .row (.int .i64) r107.2.2.1), (14, .row (.pair (.int .i64) (.pair (.int .i64) (.pair (.int .i64) .unit))) r110)]) rfl rfl ?_
                    refine row_len_o 14 (r110.length : Int) rfl rfl (fun hr111 => ?_)
                    obtain ⟨r112, r112h, h⟩ := is_bind h
                    refine ao_call [] 15 trivial (c_impl_DoTasks (is_mk r112h)) Try.func17 rfl rfl rfl rfl ⟨ad_st rfl rfl ⟨ad_os0 rfl, ad_ren rfl, ad_os0 rfl, ad_ren rfl, ad_ren rfl, ad_ren rfl, trivial⟩, ad_os0 rfl, trivial⟩ trivial rfl rfl rfl rfl rfl rfl rfl (fun r' H' hr => ?_)
                    obtain ⟨rfl, rfl⟩ := hr
                    refine ao_norm (y := .tup [.st [.os 15, .int .i64 r112.1.2.1, .os 16, .int .i64 r112.1.2.2.2.1, .int .i64 r112.1.2.2.2.2.1, .int .i64 r112.1.2.2.2.2.2.1], .int .i64 r112.2.1, .bool r112.2.2]) (H' := [(0, .var [.cell (.v (.slice (.arr 6 (.int .i64))) x0.1), .cell (.int .i64 x0.2.1), .cell (.v (.slice (.int .i64)) x0.2.2.1), .cell (.int .i64 x0.2.2.2.1), .cell (.int .i64 x0.2.2.2.2.1), .cell (.int .i64 x0.2.2.2.2.2.1)]), (1, .var [.cell (.os 5), .cell (.int .i64 r12.1.2.1), .cell (.os 6), .cell (.int .i64 r12.1.2.2.2.1), .cell (.int .i64 r12.1.2.2.2.2.1), .cell (.int .i64 r12.1.2.2.2.2.2.1)]), (2, .var [.cell (.os 7), .cell (.int .i64 r15.2.1), .cell (.os 8), .cell (.int .i64 r15.2.2.2.1), .cell (.int .i64 r15.2.2.2.2.1), .cell (.int .i64 r15.2.2.2.2.2.1)]), (4, .var [.cell (.os 9), .cell (.int .i64 r20.1.2.1), .cell (.os 10), .cell (.int .i64 r20.1.2.2.2.1), .cell (.int .i64 r20.1.2.2.2.2.1), .cell (.int .i64 r20.1.2.2.2.2.2.1)]), (5, .row (.arr 6 (.int .i64)) r12.1.1), (6, .row (.int .i64) r12.1.2.2.1), (11, .row (.pair (.int .i64) (.pair (.int .i64) (.pair (.int .i64) .unit))) r48), (7, .row (.arr 6 (.int .i64)) ((p_laws_markTavern r15.1 r15.2.1 r15.2.2.1 r15.2.2.2.1 r15.2.2.2.2.1 r15.2.2.2.2.2.1 1).2.1 : (List (List Int)))), (8, .row (.int .i64) ((p_laws_markTavern r15.1 r15.2.1 r15.2.2.1 r15.2.2.2.1 r15.2.2.2.2.1 r15.2.2.2.2.2.1 1).2.2 : (List Int))), (3, .row (.pair (.int .i64) (.pair (.int .i64) (.pair (.int .i64) .unit))) ((p_laws_markTaskS r18 ((p_laws_markTavern r15.1 r15.2.1 r15.2.2.1 r15.2.2.2.1 r15.2.2.2.2.1 r15.2.2.2.2.2.1 1).1)).2 : (List (Int × (Int × (Int × Unit)))))), (9, .row (.arr 6 (.int .i64)) ((p_laws_markTavern r20.1.1 r20.1.2.1 r20.1.2.2.1 r20.1.2.2.2.1 r20.1.2.2.2.2.1 r20.1.2.2.2.2.2.1 1).2.1 : (List (List Int)))), (10, .row (.int .i64) ((p_laws_markTavern r20.1.1 r20.1.2.1 r20.1.2.2.1 r20.1.2.2.2.1 r20.1.2.2.2.2.1 r20.1.2.2.2.2.2.1 1).2.2 : (List Int))), (12, .row (.arr 6 (.int .i64)) r107.1), (13, .row (.int .i64) r107.2.2.1), (14, .row (.pair (.int .i64) (.pair (.int .i64) (.pair (.int .i64) .unit))) r110), (15, .row (.arr 6 (.int .i64)) r112.1.1), (16, .row (.int .i64) r112.1.2.2.1)]) rfl rfl ?_
                    refine row_len_o 15 (r112.1.1.length : Int) rfl rfl (fun hr113 => ?_)
                    refine row_len_o 16 (r112.1.2.2.1.length : Int) rfl rfl (fun hr114 => ?_)
                    refine ao_read trivial (r_move rfl) rfl ?_
                    refine ao_read trivial (r_extract rfl rfl) rfl ?_
                    refine ao_read trivial (r_extract rfl rfl) rfl ?_
                    refine ao_read trivial (r_extract rfl rfl) rfl ?_
                    refine ao_eff trivial (e_alloc 17 (y := .st [.nilsl, .int .i64 0, .nilsl, .int .i64 0, .int .i64 0, .int .i64 0]) Try.zeroValue29 (fun ρ h M => ra_zero_st (t := (.pair (.slice (.arr 6 (.int .i64))) (.pair (.int .i64) (.pair (.slice (.int .i64)) (.pair (.int .i64) (.pair (.int .i64) (.pair (.int .i64) .unit))))))) rfl rfl rfl) rfl rfl rfl rfl rfl) rfl ?_
                    refine ao_effS trivial (e_store rfl rfl rfl rfl Try.sizeOf29 rfl) ?_
                    refine ao_read trivial (r_assign rfl) rfl ?_
                    refine ao_read trivial (r_assign rfl) rfl ?_
                    refine ao_nil ?_
                    refine aq_then ?_
                    refine aw_seq ?_
                    refine aw_seq ?_
                    refine aw_region ?_
                    refine ao_read trivial (r_load_st [] [.cell (.os 15), .cell (.int .i64 r112.1.2.1), .cell (.os 16), .cell (.int .i64 r112.1.2.2.2.1), .cell (.int .i64 r112.1.2.2.2.2.1), .cell (.int .i64 r112.1.2.2.2.2.2.1)] [] Try.isAgg29 Try.sizeOf29 rfl rfl rfl rfl rfl rfl rfl) rfl ?_
                    refine ao_read trivial (r_load_st [] [.cell (.os 5), .cell (.int .i64 r12.1.2.1), .cell (.os 6), .cell (.int .i64 r12.1.2.2.2.1), .cell (.int .i64 r12.1.2.2.2.2.1), .cell (.int .i64 r12.1.2.2.2.2.2.1)] [] Try.isAgg29 Try.sizeOf29 rfl rfl rfl rfl rfl rfl rfl) rfl ?_
                    refine ao_scall trivial (scall (c_laws_eqTavern (is_mk (rfl : p_laws_eqTavern (r112.1.1, (r112.1.2.1, (r112.1.2.2.1, (r112.1.2.2.2.1, (r112.1.2.2.2.2.1, (r112.1.2.2.2.2.2.1, ())))))) (r12.1.1, (r12.1.2.1, (r12.1.2.2.1, (r12.1.2.2.2.1, (r12.1.2.2.2.2.1, (r12.1.2.2.2.2.2.1, ())))))) = _))) rfl Try.func11 rfl rfl rfl rfl (fun σ => ⟨ad_st rfl rfl ⟨ad_os0 rfl, ad_ren rfl, ad_os0 rfl, ad_ren rfl, ad_ren rfl, ad_ren rfl, trivial⟩, ad_st rfl rfl ⟨ad_os0 rfl, ad_ren rfl, ad_os0 rfl, ad_ren rfl, ad_ren rfl, ad_ren rfl, trivial⟩, trivial⟩)) rfl ?_
                    refine ao_read trivial (r_not rfl) rfl ?_
                    refine ao_read trivial (r_move rfl) rfl ?_
                    refine ao_readG (x := .int .i64 r112.2.1) rfl (GV.F rfl) (fun hg115 => r_move rfl) rfl ?_
                    refine ao_readG (x := .int .i64 r12.2.1) rfl (GV.F rfl) (fun hg116 => r_move rfl) rfl ?_
                    refine ao_readG (x := .bool (!(decide (r112.2.1 = r12.2.1)))) rfl (GV.F rfl) (fun hg117 => Reads.strip 123 rfl (hg117) (Reads.strip 124 rfl (hg117) (r_neq rfl rfl))) rfl ?_
                    refine ao_read trivial (r_orB rfl rfl) rfl ?_
                    refine ao_read trivial (r_move rfl) rfl ?_
                    refine ao_readG (x := .bool r112.2.2) rfl (GV.F rfl) (fun hg118 => by
                          obtain ⟨q119, q120⟩ := or_f (not_t hg118)
                          have q121 := d_t (not_f q120)
                          exact r_move rfl) rfl ?_
                    refine ao_readG (x := .bool r12.2.2) rfl (GV.F rfl) (fun hg122 => by
                          obtain ⟨q123, q124⟩ := or_f (not_t hg122)
                          have q125 := d_t (not_f q124)
                          exact r_move rfl) rfl ?_
                    refine ao_readG (x := .bool (r112.2.2 != r12.2.2)) rfl (GV.F rfl) (fun hg126 => by
                          obtain ⟨q127, q128⟩ := or_f (not_t hg126)
                          have q129 := d_t (not_f q128)
                          exact Reads.strip 128 rfl (hg126) (Reads.strip 129 rfl (hg126) (r_neq_bool Try.underlying4 rfl rfl))) rfl ?_
                    refine ao_read trivial (r_orB rfl rfl) rfl ?_
                    refine ao_nil ?_
                    refine aq_then ?_
                    refine aw_cond rfl (fun hb130 => ?_) (fun hb130 => ?_)
                    · replace h := is_if hb130 h
                      refine aw_seq ?_
                      refine aw_region ?_
                      refine ao_read trivial (r_assign rfl) rfl ?_
                      refine ao_nil ?_
                      refine aq_then ?_
                      refine aw_ret ?_
                      refine aq_then_ret ?_
                      refine aq_ret ?_
                      obtain rfl := is_some h
                      exact aq_finx (l := [.tmp 4]) (xs := [.bool false]) idn [.bool false] [] rfl (by exact ⟨rfl, trivial⟩) (by exact ⟨ad_ren rfl, trivial⟩) (by exact trivial) rfl (nk rfl) rfl rfl ⟨rfl, rfl⟩
                    · obtain ⟨q131, q132⟩ := or_f hb130
                      obtain ⟨q133, q134⟩ := or_f q131
                      have q135 := d_t (not_f q134)
                      replace h := is_else (ne_t hb130) h
                      refine aw_skip ?_
                      refine aq_then ?_
                      refine aw_seq ?_
                      refine aw_region ?_
                      refine ao_read trivial (r_assign rfl) rfl ?_
                      refine ao_nil ?_
                      refine aq_then ?_
                      refine aw_seq ?_
                      refine aw_region ?_
                      refine ao_read trivial (r_load_st [] [.cell (.os 9), .cell (.int .i64 r20.1.2.1), .cell (.os 10), .cell (.int .i64 r20.1.2.2.2.1), .cell (.int .i64 r20.1.2.2.2.2.1), .cell (.int .i64 r20.1.2.2.2.2.2.1)] [] Try.isAgg29 Try.sizeOf29 rfl rfl rfl rfl rfl rfl rfl) rfl ?_
                      refine ao_read trivial (r_move rfl) rfl ?_
                      refine ao_scall trivial (scall (c_laws_heldTavern (is_mk (rfl : p_laws_heldTavern ((p_laws_markTavern r20.1.1 r20.1.2.1 r20.1.2.2.1 r20.1.2.2.2.1 r20.1.2.2.2.2.1 r20.1.2.2.2.2.2.1 1).2.1, (r20.1.2.1, ((p_laws_markTavern r20.1.1 r20.1.2.1 r20.1.2.2.1 r20.1.2.2.2.1 r20.1.2.2.2.2.1 r20.1.2.2.2.2.2.1 1).2.2, (r20.1.2.2.2.1, (r20.1.2.2.2.2.1, (r20.1.2.2.2.2.2.1, ())))))) 1 = _))) rfl Try.func13 rfl rfl rfl rfl (fun σ => ⟨ad_st rfl rfl ⟨ad_os0 rfl, ad_ren rfl, ad_os0 rfl, ad_ren rfl, ad_ren rfl, ad_ren rfl, trivial⟩, ad_ren rfl, trivial⟩)) rfl ?_
                      refine ao_read trivial (r_assign rfl) rfl ?_
                      refine ao_nil ?_
                      refine aq_then ?_
                      refine aw_seq ?_
                      refine aw_seq ?_
                      refine aw_region ?_
                      refine ao_read trivial (r_move rfl) rfl ?_
                      refine ao_read trivial (r_lss rfl rfl) rfl ?_
                      refine ao_nil ?_
                      refine aq_then ?_
                      refine aw_cond rfl (fun hb136 => ?_) (fun hb136 => ?_)
                      · have q137 := d_t hb136
                        replace h := is_if (d_t hb136) h
                        refine aw_seq ?_
                        refine aw_region ?_
                        refine ao_read trivial (r_assign rfl) rfl ?_
                        refine ao_nil ?_
                        refine aq_then ?_
                        refine aw_ret ?_
                        refine aq_then_ret ?_
                        refine aq_ret ?_
                        obtain rfl := is_some h
                        exact aq_finx (l := [.tmp 4]) (xs := [.bool false]) idn [.bool false] [] rfl (by exact ⟨rfl, trivial⟩) (by exact ⟨ad_ren rfl, trivial⟩) (by exact trivial) rfl (nk rfl) rfl rfl ⟨rfl, rfl⟩
                      · have q138 := d_f hb136
                        replace h := is_else (d_f hb136) h
                        refine aw_skip ?_
                        refine aq_then ?_
                        refine aw_seq ?_
                        refine aw_seq ?_
                        refine aw_region ?_
                        refine ao_read trivial (r_move rfl) rfl ?_
                        refine ao_read trivial (r_move rfl) rfl ?_
                        refine ao_read trivial (r_neq rfl rfl) rfl ?_
                        refine ao_nil ?_
                        refine aq_then ?_
                        refine aw_cond rfl (fun hb139 => ?_) (fun hb139 => ?_)
                        · have q140 := d_f (not_t hb139)
                          replace h := is_else (d_f (not_t hb139)) h
                          refine aw_seq ?_
                          refine aw_region ?_
                          refine ao_read trivial (r_assign rfl) rfl ?_
                          refine ao_nil ?_
                          refine aq_then ?_
                          refine aw_ret ?_
                          refine aq_then_ret ?_
                          refine aq_ret ?_
                          obtain rfl := is_some h
                          exact aq_finx (l := [.tmp 4]) (xs := [.bool false]) idn [.bool false] [] rfl (by exact ⟨rfl, trivial⟩) (by exact ⟨ad_ren rfl, trivial⟩) (by exact trivial) rfl (nk rfl) rfl rfl ⟨rfl, rfl⟩
                        · have q141 := d_t (not_f hb139)
                          replace h := is_if (d_t (not_f hb139)) h
                          refine aw_skip ?_
                          refine aq_then ?_
                          refine aw_seq ?_
                          refine aw_region ?_
                          refine ao_read trivial (r_assign rfl) rfl ?_
                          refine ao_nil ?_
                          refine aq_then ?_
                          refine aw_ret ?_
                          refine aq_ret ?_
                          obtain rfl := is_some h
                          exact aq_finx (l := [.tmp 4]) (xs := [.bool true]) idn [.bool true] [] rfl (by exact ⟨rfl, trivial⟩) (by exact ⟨ad_ren rfl, trivial⟩) (by exact trivial) rfl (nk rfl) rfl rfl ⟨rfl, rfl⟩
        · refine an_read 0 (by kernel_rfl) (fun _ _ _ h => h) rfl (by kernel_rfl) trivial (r_load_st [] [.cell (.os 7), .cell (.int .i64 r15.2.1), .cell (.os 8), .cell (.int .i64 r15.2.2.2.1), .cell (.int .i64 r15.2.2.2.2.1), .cell (.int .i64 r15.2.2.2.2.2.1)] [] Try.isAgg29 Try.sizeOf29 rfl rfl rfl rfl rfl rfl rfl) rfl ?_
          refine an_read 1 (by kernel_rfl) (fun _ _ _ h => h) rfl (by kernel_rfl) trivial (r_load_part (τ := (.pair (.slice (.arr 6 (.int .i64))) (.pair (.int .i64) (.pair (.slice (.int .i64)) (.pair (.int .i64) (.pair (.int .i64) (.pair (.int .i64) .unit))))))) (y := ((x0.1, (x0.2.1, (x0.2.2.1, (x0.2.2.2.1, (x0.2.2.2.2.1, (x0.2.2.2.2.2.1, ())))))) : ((List (List Int)) × (Int × ((List Int) × (Int × (Int × (Int × Unit)))))))) [] [] rfl Try.isAgg25 Try.sizeOf25 rfl rfl rfl rfl) rfl ?_
          refine an_explore 14 rfl ?_
          refine ax_all [2] (by kernel_rfl) ⟨?_, trivial⟩
          refine axo_call 2 14 rfl trivial (c_laws_toTavern (is_mk r44h)) Try.func8 rfl rfl rfl rfl ⟨ad_ren rfl, trivial⟩ rfl rfl rfl rfl (fun r' H' hr => ?_)
          obtain ⟨rfl, rfl⟩ := hr
          refine ax_all [3] (by kernel_rfl) ⟨?_, trivial⟩
          refine axo_scall 3 rfl trivial (scall (c_laws_eqTavern (is_mk (rfl : p_laws_eqTavern (r15.1, (r15.2.1, (r15.2.2.1, (r15.2.2.2.1, (r15.2.2.2.2.1, (r15.2.2.2.2.2.1, ())))))) (r44.1, (r44.2.1, (r44.2.2.1, (r44.2.2.2.1, (r44.2.2.2.2.1, (r44.2.2.2.2.2.1, ())))))) = _))) rfl Try.func11 rfl rfl rfl rfl (fun σ => ⟨ad_st rfl rfl ⟨ad_os0 rfl, ad_ren rfl, ad_os0 rfl, ad_ren rfl, ad_ren rfl, ad_ren rfl, trivial⟩, ad_st rfl rfl ⟨ad_os0 rfl, ad_ren rfl, ad_os0 rfl, ad_ren rfl, ad_ren rfl, ad_ren rfl, trivial⟩, trivial⟩)) rfl ?_
          refine ax_all [4] (by kernel_rfl) ⟨?_, trivial⟩
          refine axo_read 4 rfl trivial (r_not rfl) rfl ?_
          exact ax_done rfl (AQ.sub (sub_r1 (rn [(1, 6), (2, 9), (3, 10), (4, 13), (5, 4), (6, 5), (9, 11), (10, 12)]) (nk rfl) (by kernel_rfl)) key)
end Go.GA
