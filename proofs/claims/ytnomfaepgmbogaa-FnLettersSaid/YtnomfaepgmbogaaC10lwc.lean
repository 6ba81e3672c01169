/- Walks: what the Go functions compute, by the printed lines below; no further conditions. -/
import Derived.Test.YtnomfaepgmbogaaC10lwb
namespace Go.GA
open Go Go.Proofs
set_option maxRecDepth 100000
set_option maxHeartbeats 2000000
set_option linter.unusedVariables false
set_option linter.unusedSimpArgs false
theorem c_spec_l10Tieless {fu : Nat} {x0 : dy6} {r : Bool} (h : Is (p_spec_l10Tieless fu x0) (some r)) :
    Scalar Try.prog 46 [.v ty2 x0] (.bool r) := by
  unfold p_spec_l10Tieless at h
  refine ac_enter ⟨33, 0⟩ Try.func46 rfl rfl rfl rfl rfl (fun Γ => ?_)
  refine sl_len_m 0 (x0.length : Int) rfl rfl (fun hl0 => ?_)
  refine aw_seq ?_
  refine aw_region ?_
  refine ao_r (r_assign rfl) rfl ?_
  refine ao_nil ?_
  refine aq_then ?_
  refine aw_seq ?_
  refine aw_seq ?_
  refine aw_region ?_
  refine ao_r (r_assign rfl) rfl ?_
  refine ao_nil ?_
  refine aq_then ?_
  refine aw_block ?_
  refine aw_loop (AL.sub (fr' := [(0, .v ty2 x0), (3, .int .i64 0)]) (H' := []) (sub_r1 idn (nk rfl) (by kernel_rfl)) (al_cnt (fun i2 (s1 : Unit) => [(0, .v ty2 x0), (3, .int .i64 i2)]) (fun i2 (s1 : Unit) => []) (fun d i2 (s1 : Unit) => d = Int.toNat ((x0.length : Int) - i2) ∧ 0 ≤ i2 ∧ i2 ≤ (x0.length : Int)) h ⟨rfl, (by (try simp only [List.length_set, List.length_append, List.length_cons, List.length_nil, List.length_replicate, List.length_take, List.length_drop]) <;> omega), (by (try simp only [List.length_set, List.length_append, List.length_cons, List.length_nil, List.length_replicate, List.length_take, List.length_drop]) <;> omega)⟩ (fun d3 i2 s1 hI h ih3 => ?_)))
  obtain ⟨hd, _, _⟩ := hI
  refine al_round ?_
  refine aw_seq ?_
  refine aw_seq ?_
  refine aw_region ?_
  refine ao_r (r_move rfl) rfl ?_
  refine ao_r (r_move rfl) rfl ?_
  refine ao_r (r_len_vm (x0.length : Int) Try.underlying26 rfl rfl) rfl ?_
  refine ao_r (r_lss rfl rfl) rfl ?_
  refine ao_nil ?_
  refine aq_then ?_
  refine aw_cond rfl (fun hb5 => ?_) (fun hb5 => ?_)
  have q6 := d_t hb5
  obtain ⟨d3, rfl⟩ : ∃ e, d3 = e + 1 := ⟨d3 - 1, by omega⟩
  replace h := is_cntS h
  refine aw_skip ?_
  refine aq_then ?_
  refine aw_seq ?_
  refine aw_block ?_
  refine aw_seq ?_
  refine aw_region ?_
  refine ao_r (r_assign rfl) rfl ?_
  refine ao_nil ?_
  refine aq_then ?_
  refine aw_block ?_
  refine aw_loop (AL.sub (fr' := [(0, .v ty2 x0), (3, .int .i64 i2), (4, .int .i64 0)]) (H' := []) (sub_r1 idn (nk rfl) (by kernel_rfl)) (al_cnt (fun i9 (s8 : Unit) => [(0, .v ty2 x0), (3, .int .i64 i2), (4, .int .i64 i9)]) (fun i9 (s8 : Unit) => []) (fun d i9 (s8 : Unit) => d = Int.toNat (i2 - i9) ∧ 0 ≤ i9 ∧ i9 ≤ i2) h ⟨rfl, (by (try simp only [List.length_set, List.length_append, List.length_cons, List.length_nil, List.length_replicate, List.length_take, List.length_drop]) <;> omega), (by (try simp only [List.length_set, List.length_append, List.length_cons, List.length_nil, List.length_replicate, List.length_take, List.length_drop]) <;> omega)⟩ (fun d10 i9 s8 hI h ih10 => ?_)))
  obtain ⟨hd, _, _⟩ := hI
  refine al_round ?_
  refine aw_seq ?_
  refine aw_seq ?_
  refine aw_region ?_
  refine ao_r (r_move rfl) rfl ?_
  refine ao_r (r_move rfl) rfl ?_
  refine ao_r (r_lss rfl rfl) rfl ?_
  refine ao_nil ?_
  refine aq_then ?_
  refine aw_cond rfl (fun hb12 => ?_) (fun hb12 => ?_)
  have q13 := d_t hb12
  obtain ⟨d10, rfl⟩ : ∃ e, d10 = e + 1 := ⟨d10 - 1, by omega⟩
  replace h := is_cntS h
  refine aw_skip ?_
  refine aq_then ?_
  refine aw_seq ?_
  refine aw_block ?_
  refine aw_seq ?_
  refine aw_region ?_
  refine ao_r (r_assign rfl) rfl ?_
  refine ao_nil ?_
  refine aq_then ?_
  refine aw_block ?_
  refine aw_loop (AL.sub (fr' := [(0, .v ty2 x0), (3, .int .i64 i2), (4, .int .i64 i9), (5, .int .i64 0)]) (H' := []) (sub_r1 idn (nk rfl) (by kernel_rfl)) (al_cnt (fun i16 (s15 : Unit) => [(0, .v ty2 x0), (3, .int .i64 i2), (4, .int .i64 i9), (5, .int .i64 i16)]) (fun i16 (s15 : Unit) => []) (fun d i16 (s15 : Unit) => d = Int.toNat (6 - i16) ∧ 0 ≤ i16 ∧ i16 ≤ 6) h ⟨rfl, (by (try simp only [List.length_set, List.length_append, List.length_cons, List.length_nil, List.length_replicate, List.length_take, List.length_drop]) <;> omega), (by (try simp only [List.length_set, List.length_append, List.length_cons, List.length_nil, List.length_replicate, List.length_take, List.length_drop]) <;> omega)⟩ (fun d17 i16 s15 hI h ih17 => ?_)))
  obtain ⟨hd, _, _⟩ := hI
  refine al_round ?_
  refine aw_seq ?_
  refine aw_seq ?_
  refine aw_region ?_
  refine ao_r (r_move rfl) rfl ?_
  refine ao_r (r_lss rfl rfl) rfl ?_
  refine ao_nil ?_
  refine aq_then ?_
  refine aw_cond rfl (fun hb19 => ?_) (fun hb19 => ?_)
  have q20 := d_t hb19
  obtain ⟨d17, rfl⟩ : ∃ e, d17 = e + 1 := ⟨d17 - 1, by omega⟩
  replace h := is_cntS h
  refine aw_skip ?_
  refine aq_then ?_
  refine aw_seq ?_
  refine aw_block ?_
  refine aw_seq ?_
  refine aw_drawAll (by kernel_rfl) ?_
  refine an_r 0 (fun _ _ _ h => h) rfl (by kernel_rfl) (r_move rfl) rfl ?_
  refine an_r 1 (fun _ _ _ h => h) rfl (by kernel_rfl) (r_move rfl) rfl ?_
  refine an_r 2 (fun _ _ _ h => h) rfl (by kernel_rfl) (r_idxAddr (t := ty4) Try.underlying26 Try.sizeOf62 rfl rfl (show 0 ≤ i9 from by omega) (show i9 < (x0.length : Int) from by omega)) rfl ?_
  refine an_r 3 (fun _ _ _ h => h) rfl (by kernel_rfl) (r_load_c (t := ty4) Try.isAgg62 Try.sizeOf62 rfl) rfl ?_
  refine an_r 4 (fun _ _ _ h => h) rfl (by kernel_rfl) (r_move rfl) rfl ?_
  refine an_r 5 (fun _ _ _ h => h) rfl (by kernel_rfl) (r_move rfl) rfl ?_
  refine an_r 6 (fun _ _ _ h => h) rfl (by kernel_rfl) (r_move rfl) rfl ?_
  refine an_r 7 (fun _ _ _ h => h) rfl (by kernel_rfl) (r_idxAddr (t := ty4) Try.underlying26 Try.sizeOf62 rfl rfl (show 0 ≤ i2 from by omega) (show i2 < (x0.length : Int) from by omega)) rfl ?_
  refine an_r 8 (fun _ _ _ h => h) rfl (by kernel_rfl) (r_idxAddr_ca (t := ty7) Try.underlying62 Try.sizeOf3 rfl rfl (by omega) (by omega)) rfl ?_
  refine an_r 9 (fun _ _ _ h => h) rfl (by kernel_rfl) (r_load_c_int Try.isAgg3 Try.sizeOf3 rfl) rfl ?_
  refine an_scall 10 (by kernel_rfl) (fun _ _ _ h => h) rfl (by kernel_rfl) trivial (scall (c_spec_l8Weight (is_mk (rfl : p_spec_l8Weight (x0.getD i9.toNat (List.replicate 6 0)) ((x0.getD i2.toNat (List.replicate 6 0)).getD i16.toNat 0) = _))) rfl Try.func47 rfl rfl rfl rfl (fun σ => ⟨ad_ren rfl, ad_ren rfl, trivial⟩)) rfl ?_
  refine an_r 11 (fun _ _ _ h => h) rfl (by kernel_rfl) (r_gtr rfl rfl) rfl ?_
  refine an_done rfl ?_
  refine aq_then ?_
  refine aw_cond rfl (fun hb22 => ?_) (fun hb22 => ?_)
  have q23 : 0 < (p_spec_l8Weight (x0.getD i9.toNat (List.replicate 6 0)) ((x0.getD i2.toNat (List.replicate 6 0)).getD i16.toNat 0)) := d_t hb22
  replace h := is_if (d_t hb22) h
  refine aw_seq ?_
  refine aw_region ?_
  refine ao_r (r_assign rfl) rfl ?_
  refine ao_nil ?_
  refine aq_then ?_
  refine aw_ret ?_
  refine aq_in_ret ?_
  refine aq_then_ret ?_
  refine aq_then_ret ?_
  refine aq_in_ret ?_
  refine aq_in_ret ?_
  refine aq_then_ret ?_
  refine aq_then_ret ?_
  refine aq_in_ret ?_
  refine aq_in_ret ?_
  refine aq_then_ret ?_
  refine aq_then_ret ?_
  refine aq_in_ret ?_
  refine aq_then_ret ?_
  refine aq_ret ?_
  obtain rfl := is_some h
  exact aq_finx (l := [.tmp 2]) (xs := [.bool false]) idn [.bool false] [] rfl (by exact ⟨rfl, trivial⟩) (by exact ⟨ad_ren rfl, trivial⟩) (by exact trivial) rfl (nk rfl) rfl rfl ⟨rfl, rfl⟩
  have q24 : ¬ (0 < (p_spec_l8Weight (x0.getD i9.toNat (List.replicate 6 0)) ((x0.getD i2.toNat (List.replicate 6 0)).getD i16.toNat 0))) := d_f hb22
  replace h := is_else (d_f hb22) h
  refine aw_skip ?_
  refine aq_in ?_
  refine aq_then ?_
  refine aw_region ?_
  refine ao_r (r_move rfl) rfl ?_
  refine ao_r (r_addI rfl rfl (wrap_id (by omega) (by omega))) rfl ?_
  refine ao_r (r_assign rfl) rfl ?_
  refine ao_nil ?_
  exact aq_again (AL.sub (sub_r1 idn (nk rfl) (by kernel_rfl)) (ih17 d17 (i16 + 1) () (by omega) ⟨by omega, (by (try simp only [List.length_set, List.length_append, List.length_cons, List.length_nil, List.length_replicate, List.length_take, List.length_drop]) <;> omega), (by (try simp only [List.length_set, List.length_append, List.length_cons, List.length_nil, List.length_replicate, List.length_take, List.length_drop]) <;> omega)⟩ h))
  have q21 := d_f hb19
  obtain rfl : d17 = 0 := by omega
  replace h := is_cnt0 h
  refine aw_exit ?_
  refine aq_then_exit ?_
  refine aq_then_exit ?_
  refine aq_in_exit ?_
  refine aq_in ?_
  refine aq_then ?_
  refine aw_region ?_
  refine ao_r (r_move rfl) rfl ?_
  refine ao_r (r_addI rfl rfl (wrap_id (by omega) (by omega))) rfl ?_
  refine ao_r (r_assign rfl) rfl ?_
  refine ao_nil ?_
  exact aq_again (AL.sub (sub_r1 idn (nk rfl) (by kernel_rfl)) (ih10 d10 (i9 + 1) () (by omega) ⟨by omega, (by (try simp only [List.length_set, List.length_append, List.length_cons, List.length_nil, List.length_replicate, List.length_take, List.length_drop]) <;> omega), (by (try simp only [List.length_set, List.length_append, List.length_cons, List.length_nil, List.length_replicate, List.length_take, List.length_drop]) <;> omega)⟩ h))
  have q14 := d_f hb12
  obtain rfl : d10 = 0 := by omega
  replace h := is_cnt0 h
  refine aw_exit ?_
  refine aq_then_exit ?_
  refine aq_then_exit ?_
  refine aq_in_exit ?_
  refine aq_in ?_
  refine aq_then ?_
  refine aw_region ?_
  refine ao_r (r_move rfl) rfl ?_
  refine ao_r (r_addI rfl rfl (wrap_id (by omega) (by omega))) rfl ?_
  refine ao_r (r_assign rfl) rfl ?_
  refine ao_nil ?_
  exact aq_again (AL.sub (sub_r1 idn (nk rfl) (by kernel_rfl)) (ih3 d3 (i2 + 1) () (by omega) ⟨by omega, (by (try simp only [List.length_set, List.length_append, List.length_cons, List.length_nil, List.length_replicate, List.length_take, List.length_drop]) <;> omega), (by (try simp only [List.length_set, List.length_append, List.length_cons, List.length_nil, List.length_replicate, List.length_take, List.length_drop]) <;> omega)⟩ h))
  have q7 := d_f hb5
  obtain rfl : d3 = 0 := by omega
  replace h := is_cnt0 h
  refine aw_exit ?_
  refine aq_then_exit ?_
  refine aq_then_exit ?_
  refine aq_in_exit ?_
  refine aq_then ?_
  refine aw_seq ?_
  refine aw_region ?_
  refine ao_r (r_assign rfl) rfl ?_
  refine ao_nil ?_
  refine aq_then ?_
  refine aw_ret ?_
  refine aq_ret ?_
  obtain rfl := is_some h
  exact aq_finx (l := [.tmp 2]) (xs := [.bool true]) idn [.bool true] [] rfl (by exact ⟨rfl, trivial⟩) (by exact ⟨ad_ren rfl, trivial⟩) (by exact trivial) rfl (nk rfl) rfl rfl ⟨rfl, rfl⟩
theorem c_spec_LettersOf {fu : Nat} {x0 : dy6} {r : dy8 × Bool} (h : Is (p_spec_LettersOf fu x0) (some r)) :
    ACalls Try.prog 17 [.v ty2 x0] [] (fun r' H' => r' = .tup [.os 0, .bool r.2] ∧ H' = [(0, .row ty7 r.1)]) := by
  unfold p_spec_LettersOf at h
  refine ac_enter ⟨43, 0⟩ Try.func17 rfl rfl rfl rfl rfl (fun Γ => ?_)
  refine sl_len_m 0 (x0.length : Int) rfl rfl (fun hl0 => ?_)
  refine aw_seq ?_
  refine aw_region ?_
  refine ao_r (r_assign rfl) rfl ?_
  refine ao_r (r_assign rfl) rfl ?_
  refine ao_nil ?_
  refine aq_then ?_
  refine aw_seq ?_
  refine aw_region ?_
  refine ao_eff trivial (e_buildSlice (l := []) (t := ty7) 0 ([] : dy8) rfl Try.underlying24 Try.zeroValue3 Try.sizeOf3 rfl rfl rfl rfl rfl rfl rfl) rfl ?_
  refine ao_r (r_assign rfl) rfl ?_
  refine ao_nil ?_
  refine aq_then ?_
  refine aw_seq ?_
  refine aw_seq ?_
  refine aw_region ?_
  refine ao_r (r_move rfl) rfl ?_
  obtain ⟨r1, r1h, h⟩ := is_bind h
  refine ao_scall trivial (scall (c_spec_l2Pool (is_mk r1h)) rfl Try.func45 rfl rfl rfl rfl (fun σ => ⟨ad_ren rfl, trivial⟩)) rfl ?_
  refine ao_r (r_not rfl) rfl ?_
  refine ao_r (r_move rfl) rfl ?_
  refine ao_readG (x := .v ty2 x0) rfl (GV.F rfl) (fun hg2 => r_move rfl) rfl ?_
  obtain ⟨g4, h⟩ := is_guard h
  refine ao_scallG (r := .bool ((p_spec_l10Tieless fu x0).getD false)) rfl (GV.F rfl) (fun hg3 => SCall.strip 13 rfl (hg3) (scall (c_spec_l10Tieless (is_mk (isSome_getD (g4 hg3)))) rfl Try.func46 rfl rfl rfl rfl (fun σ => ⟨ad_ren rfl, trivial⟩))) rfl ?_
  refine ao_readG (x := .bool (!((p_spec_l10Tieless fu x0).getD false))) rfl (GV.F rfl) (fun hg5 => Reads.strip 14 rfl (hg5) (r_not rfl)) rfl ?_
  refine ao_r (r_orB rfl rfl) rfl ?_
  refine ao_nil ?_
  refine aq_then ?_
  refine aw_cond rfl (fun hb6 => ?_) (fun hb6 => ?_)
  replace h := is_if hb6 h
  refine aw_seq ?_
  refine aw_region ?_
  refine ao_r (r_move rfl) rfl ?_
  refine ao_r (r_assign rfl) rfl ?_
  refine ao_r (r_assign rfl) rfl ?_
  refine ao_nil ?_
  refine aq_then ?_
  refine aw_ret ?_
  refine aq_then_ret ?_
  refine aq_ret ?_
  obtain rfl := is_some h
  exact aq_finx (l := [.tmp 2, .tmp 3]) (xs := [.os 0, .bool false]) idn [.os 0, .bool false] [(0, .row ty7 ([] : dy8))] rfl (by exact ⟨rfl, rfl, trivial⟩) (by exact ⟨ad_ren rfl, ad_ren rfl, trivial⟩) (by exact ⟨⟨_, rfl, rfl⟩, trivial⟩) rfl (nk rfl) rfl rfl ⟨rfl, rfl⟩
  obtain ⟨q7, q8⟩ := or_f hb6
  replace h := is_else (ne_t hb6) h
  refine aw_skip ?_
  refine aq_then ?_
  refine aw_seq ?_
  refine aw_seq ?_
  refine aw_region ?_
  refine ao_r (r_assign rfl) rfl ?_
  refine ao_nil ?_
  refine aq_then ?_
  refine aw_block ?_
  refine aw_loop (AL.sub (sub_r1 idn (nk rfl) (by kernel_rfl)) (al_whl (fun (s9 : Int × dy8) => [(0, .v ty2 x0), (4, .os 0), (5, .int .i64 s9.1)]) (fun (s9 : Int × dy8) => [(0, .row ty7 s9.2)]) (fun (s9 : Int × dy8) => 0 ≤ s9.1) h (by (try simp only [List.length_set, List.length_append, List.length_cons, List.length_nil, List.length_replicate, List.length_take, List.length_drop]) <;> omega) (fun d11 s9 hI h ih11 => ?_)))
  replace h := is_whlS h
  refine al_round ?_
  refine aw_seq ?_
  refine aw_seq ?_
  refine aw_region ?_
  refine ao_r (r_move rfl) rfl ?_
  refine ao_r (r_leq rfl rfl) rfl ?_
  refine ao_nil ?_
  refine aq_then ?_
  refine aw_cond rfl (fun hb13 => ?_) (fun hb13 => ?_)
  have q14 := d_t hb13
  replace h := is_if (d_t hb13) h
  refine aw_skip ?_
  refine aq_then ?_
  refine aw_seq ?_
  refine aw_block ?_
  refine aw_seq ?_
  refine aw_region ?_
  refine ao_r (r_assign rfl) rfl ?_
  refine ao_nil ?_
  refine aq_then ?_
  refine aw_block ?_
  refine aw_loop (AL.sub (fr' := [(0, .v ty2 x0), (4, .os 0), (5, .int .i64 s9.1), (6, .int .i64 0)]) (H' := [(0, .row ty7 s9.2)]) (sub_r1 idn (nk rfl) (by kernel_rfl)) (al_cnt (fun i17 (s16 : dy8) => [(0, .v ty2 x0), (4, .os 0), (5, .int .i64 s9.1), (6, .int .i64 i17)]) (fun i17 (s16 : dy8) => [(0, .row ty7 s16)]) (fun d i17 (s16 : dy8) => d = Int.toNat ((x0.length : Int) - i17) ∧ 0 ≤ i17 ∧ i17 ≤ (x0.length : Int)) h ⟨rfl, (by (try simp only [List.length_set, List.length_append, List.length_cons, List.length_nil, List.length_replicate, List.length_take, List.length_drop]) <;> omega), (by (try simp only [List.length_set, List.length_append, List.length_cons, List.length_nil, List.length_replicate, List.length_take, List.length_drop]) <;> omega)⟩ (fun d18 i17 s16 hI h ih18 => ?_)))
  obtain ⟨hd, _, _⟩ := hI
  refine al_round ?_
  refine aw_seq ?_
  refine aw_seq ?_
  refine aw_region ?_
  refine ao_r (r_move rfl) rfl ?_
  refine ao_r (r_move rfl) rfl ?_
  refine ao_r (r_len_vm (x0.length : Int) Try.underlying26 rfl rfl) rfl ?_
  refine ao_r (r_lss rfl rfl) rfl ?_
  refine ao_nil ?_
  refine aq_then ?_
  refine aw_cond rfl (fun hb20 => ?_) (fun hb20 => ?_)
  have q21 := d_t hb20
  obtain ⟨d18, rfl⟩ : ∃ e, d18 = e + 1 := ⟨d18 - 1, by omega⟩
  replace h := is_cntS h
  refine aw_skip ?_
  refine aq_then ?_
  refine aw_seq ?_
  refine aw_block ?_
  refine aw_seq ?_
  refine aw_region ?_
  refine ao_r (r_assign rfl) rfl ?_
  refine ao_nil ?_
  refine aq_then ?_
  refine aw_block ?_
  refine aw_loop (AL.sub (sub_r1 idn (nk rfl) (by kernel_rfl)) (al_whl (fun (s23 : Int × dy8) => [(0, .v ty2 x0), (4, .os 0), (5, .int .i64 s9.1), (6, .int .i64 i17), (7, .int .i64 s23.1)]) (fun (s23 : Int × dy8) => [(0, .row ty7 s23.2)]) (fun (s23 : Int × dy8) => True) h trivial (fun d25 s23 hI h ih25 => ?_)))
  replace h := is_whlS h
  refine al_round ?_
  refine aw_seq ?_
  refine aw_seq ?_
  refine aw_region ?_
  refine ao_r (r_move rfl) rfl ?_
  refine ao_r (r_move rfl) rfl ?_
  refine ao_r (r_move rfl) rfl ?_
  refine ao_r (r_idxAddr (t := ty4) Try.underlying26 Try.sizeOf62 rfl rfl (show 0 ≤ i17 from by omega) (show i17 < (x0.length : Int) from by omega)) rfl ?_
  refine ao_r (r_load_c (t := ty4) Try.isAgg62 Try.sizeOf62 rfl) rfl ?_
  refine ao_r (r_move rfl) rfl ?_
  refine ao_scall trivial (scall (c_spec_l8Weight (is_mk (rfl : p_spec_l8Weight (x0.getD i17.toNat (List.replicate 6 0)) s9.1 = _))) rfl Try.func47 rfl rfl rfl rfl (fun σ => ⟨ad_ren rfl, ad_ren rfl, trivial⟩)) rfl ?_
  refine ao_r (r_lss rfl rfl) rfl ?_
  refine ao_nil ?_
  refine aq_then ?_
  refine aw_cond rfl (fun hb27 => ?_) (fun hb27 => ?_)
  have q28 : s23.1 < (p_spec_l8Weight (x0.getD i17.toNat (List.replicate 6 0)) s9.1) := d_t hb27
  replace h := is_if (d_t hb27) h
  refine aw_skip ?_
  refine aq_then ?_
  refine aw_seq ?_
  refine aw_block ?_
  refine aw_region ?_
  refine ao_r (r_move rfl) rfl ?_
  refine ao_r (r_move rfl) rfl ?_
  refine ao_eff trivial (e_buildSlice (l := [(0, .tmp 39)]) (t := ty7) 1 ([i17] : dy8) rfl Try.underlying24 Try.zeroValue3 Try.sizeOf3 rfl rfl rfl rfl rfl rfl rfl) rfl ?_
  obtain ⟨g30, h⟩ := is_guard h
  refine ao_eff trivial (e_append (t := ty7) 2 rfl Try.underlying24 (rfl : Try.prog.info? 3 = some _) rfl rfl rfl rfl rfl rfl rfl (src_os rfl) (show s23.2.length + ([i17] : dy8).length ≤ 1000000000 from by (try simp only [List.length_cons, List.length_nil]) <;> omega) rfl rfl) rfl ?_
  refine ao_r (r_assign rfl) rfl ?_
  refine ao_nil ?_
  refine aq_in ?_
  refine aq_then ?_
  refine aw_region ?_
  refine ao_r (r_move rfl) rfl ?_
  refine ao_r (r_add rfl rfl) rfl ?_
  refine ao_r (r_assign rfl) rfl ?_
  refine ao_nil ?_
  exact aq_again (AL.sub (sub_r1 (rn [(0, 2)]) (nk rfl) (by kernel_rfl)) (ih25 ((IntKind.wrap .i64 (s23.1 + 1)), (s23.2 ++ [i17])) trivial h))
  have q29 : ¬ (s23.1 < (p_spec_l8Weight (x0.getD i17.toNat (List.replicate 6 0)) s9.1)) := d_f hb27
  replace h := is_else (d_f hb27) h
  refine aw_exit ?_
  refine aq_then_exit ?_
  refine aq_then_exit ?_
  refine aq_in_exit ?_
  refine aq_in ?_
  refine aq_then ?_
  refine aw_region ?_
  refine ao_r (r_move rfl) rfl ?_
  refine ao_r (r_addI rfl rfl (wrap_id (by omega) (by omega))) rfl ?_
  refine ao_r (r_assign rfl) rfl ?_
  refine ao_nil ?_
  exact aq_again (AL.sub (sub_r1 idn (nk rfl) (by kernel_rfl)) (ih18 d18 (i17 + 1) s23.2 (by omega) ⟨by omega, (by (try simp only [List.length_set, List.length_append, List.length_cons, List.length_nil, List.length_replicate, List.length_take, List.length_drop]) <;> omega), (by (try simp only [List.length_set, List.length_append, List.length_cons, List.length_nil, List.length_replicate, List.length_take, List.length_drop]) <;> omega)⟩ h))
  have q22 := d_f hb20
  obtain rfl : d18 = 0 := by omega
  replace h := is_cnt0 h
  refine aw_exit ?_
  refine aq_then_exit ?_
  refine aq_then_exit ?_
  refine aq_in_exit ?_
  refine aq_in ?_
  refine aq_then ?_
  refine aw_region ?_
  refine ao_r (r_move rfl) rfl ?_
  refine ao_r (r_addI rfl rfl (wrap_id (by omega) (by omega))) rfl ?_
  refine ao_r (r_assign rfl) rfl ?_
  refine ao_nil ?_
  exact aq_again (AL.sub (sub_r1 idn (nk rfl) (by kernel_rfl)) (ih11 ((s9.1 + 1), s16) (by (try simp only [List.length_set, List.length_append, List.length_cons, List.length_nil, List.length_replicate, List.length_take, List.length_drop]) <;> omega) h))
  have q15 := d_f hb13
  replace h := is_else (d_f hb13) h
  refine aw_exit ?_
  refine aq_then_exit ?_
  refine aq_then_exit ?_
  refine aq_in_exit ?_
  refine aq_then ?_
  refine aw_seq ?_
  refine aw_region ?_
  refine ao_r (r_move rfl) rfl ?_
  refine ao_r (r_assign rfl) rfl ?_
  refine ao_r (r_assign rfl) rfl ?_
  refine ao_nil ?_
  refine aq_then ?_
  refine aw_ret ?_
  refine aq_ret ?_
  obtain rfl := is_some h
  exact aq_finx (l := [.tmp 2, .tmp 3]) (xs := [.os 0, .bool true]) idn [.os 0, .bool true] [(0, .row ty7 s9.2)] rfl (by exact ⟨rfl, rfl, trivial⟩) (by exact ⟨ad_ren rfl, ad_ren rfl, trivial⟩) (by exact ⟨⟨_, rfl, rfl⟩, trivial⟩) rfl (nk rfl) rfl rfl ⟨rfl, rfl⟩
theorem c_impl_IsTieless {fu : Nat} {x0 : dy6} {r : Bool × Bool} (h : Is (p_impl_IsTieless fu x0) (some r)) :
    Scalar Try.prog 18 [.v ty2 x0] (.tup [.bool r.1, .bool r.2]) := by
  unfold p_impl_IsTieless at h
  refine ac_enter ⟨9, 0⟩ Try.func18 rfl rfl rfl rfl rfl (fun Γ => ?_)
  refine sl_len_m 0 (x0.length : Int) rfl rfl (fun hl0 => ?_)
  refine aw_seq ?_
  refine aw_region ?_
  refine ao_r (r_assign rfl) rfl ?_
  refine ao_r (r_assign rfl) rfl ?_
  refine ao_nil ?_
  refine aq_then ?_
  refine aw_seq ?_
  refine aw_seq ?_
  refine aw_region ?_
  refine ao_r (r_move rfl) rfl ?_
  refine ao_scall trivial (scall (c_impl_IsPool (is_mk (rfl : p_impl_IsPool x0 = _))) rfl Try.func41 rfl rfl rfl rfl (fun σ => ⟨ad_ren rfl, trivial⟩)) rfl ?_
  refine ao_r (r_not rfl) rfl ?_
  refine ao_nil ?_
  refine aq_then ?_
  refine aw_cond rfl (fun hb1 => ?_) (fun hb1 => ?_)
  replace h := is_else (ne_t (not_t hb1)) h
  refine aw_seq ?_
  refine aw_region ?_
  refine ao_r (r_assign rfl) rfl ?_
  refine ao_r (r_assign rfl) rfl ?_
  refine ao_nil ?_
  refine aq_then ?_
  refine aw_ret ?_
  refine aq_then_ret ?_
  refine aq_ret ?_
  obtain rfl := is_some h
  exact aq_finx (l := [.tmp 2, .tmp 3]) (xs := [.bool false, .bool false]) idn [.bool false, .bool false] [] rfl (by exact ⟨rfl, rfl, trivial⟩) (by exact ⟨ad_ren rfl, ad_ren rfl, trivial⟩) (by exact trivial) rfl (nk rfl) rfl rfl ⟨rfl, rfl⟩
  replace h := is_if (not_f hb1) h
  refine aw_skip ?_
  refine aq_then ?_
  refine aw_seq ?_
  refine aw_region ?_
  refine ao_r (r_move rfl) rfl ?_
  obtain ⟨r2, r2h, h⟩ := is_bind h
  refine ao_scall trivial (scall (c_impl_isTieless (is_mk r2h)) rfl Try.func42 rfl rfl rfl rfl (fun σ => ⟨ad_ren rfl, trivial⟩)) rfl ?_
  refine ao_r (r_assign rfl) rfl ?_
  refine ao_r (r_assign rfl) rfl ?_
  refine ao_nil ?_
  refine aq_then ?_
  refine aw_ret ?_
  refine aq_ret ?_
  obtain rfl := is_some h
  exact aq_finx (l := [.tmp 2, .tmp 3]) (xs := [.bool r2, .bool true]) idn [.bool r2, .bool true] [] rfl (by exact ⟨rfl, rfl, trivial⟩) (by exact ⟨ad_ren rfl, ad_ren rfl, trivial⟩) (by exact trivial) rfl (nk rfl) rfl rfl ⟨rfl, rfl⟩
theorem c_spec_IsTieless {fu : Nat} {x0 : dy6} {r : Bool × Bool} (h : Is (p_spec_IsTieless fu x0) (some r)) :
    Scalar Try.prog 19 [.v ty2 x0] (.tup [.bool r.1, .bool r.2]) := by
  unfold p_spec_IsTieless at h
  refine ac_enter ⟨9, 0⟩ Try.func19 rfl rfl rfl rfl rfl (fun Γ => ?_)
  refine sl_len_m 0 (x0.length : Int) rfl rfl (fun hl0 => ?_)
  refine aw_seq ?_
  refine aw_region ?_
  refine ao_r (r_assign rfl) rfl ?_
  refine ao_r (r_assign rfl) rfl ?_
  refine ao_nil ?_
  refine aq_then ?_
  refine aw_seq ?_
  refine aw_seq ?_
  refine aw_region ?_
  refine ao_r (r_move rfl) rfl ?_
  obtain ⟨r1, r1h, h⟩ := is_bind h
  refine ao_scall trivial (scall (c_spec_l2Pool (is_mk r1h)) rfl Try.func45 rfl rfl rfl rfl (fun σ => ⟨ad_ren rfl, trivial⟩)) rfl ?_
  refine ao_r (r_not rfl) rfl ?_
  refine ao_nil ?_
  refine aq_then ?_
  refine aw_cond rfl (fun hb2 => ?_) (fun hb2 => ?_)
  replace h := is_else (ne_t (not_t hb2)) h
  refine aw_seq ?_
  refine aw_region ?_
  refine ao_r (r_assign rfl) rfl ?_
  refine ao_r (r_assign rfl) rfl ?_
  refine ao_nil ?_
  refine aq_then ?_
  refine aw_ret ?_
  refine aq_then_ret ?_
  refine aq_ret ?_
  obtain rfl := is_some h
  exact aq_finx (l := [.tmp 2, .tmp 3]) (xs := [.bool false, .bool false]) idn [.bool false, .bool false] [] rfl (by exact ⟨rfl, rfl, trivial⟩) (by exact ⟨ad_ren rfl, ad_ren rfl, trivial⟩) (by exact trivial) rfl (nk rfl) rfl rfl ⟨rfl, rfl⟩
  replace h := is_if (not_f hb2) h
  refine aw_skip ?_
  refine aq_then ?_
  refine aw_seq ?_
  refine aw_region ?_
  refine ao_r (r_move rfl) rfl ?_
  obtain ⟨r3, r3h, h⟩ := is_bind h
  refine ao_scall trivial (scall (c_spec_l10Tieless (is_mk r3h)) rfl Try.func46 rfl rfl rfl rfl (fun σ => ⟨ad_ren rfl, trivial⟩)) rfl ?_
  refine ao_r (r_assign rfl) rfl ?_
  refine ao_r (r_assign rfl) rfl ?_
  refine ao_nil ?_
  refine aq_then ?_
  refine aw_ret ?_
  refine aq_ret ?_
  obtain rfl := is_some h
  exact aq_finx (l := [.tmp 2, .tmp 3]) (xs := [.bool r3, .bool true]) idn [.bool r3, .bool true] [] rfl (by exact ⟨rfl, rfl, trivial⟩) (by exact ⟨ad_ren rfl, ad_ren rfl, trivial⟩) (by exact trivial) rfl (nk rfl) rfl rfl ⟨rfl, rfl⟩
theorem c_spec_DrawCountEven {x0 : dy8} {r : Int} (h : Is (p_spec_DrawCountEven x0) (some r)) :
    Scalar Try.prog 20 [.v ty5 x0] (.int .i64 r) := by
  unfold p_spec_DrawCountEven at h
  refine ac_enter ⟨10, 0⟩ Try.func20 rfl rfl rfl rfl rfl (fun Γ => ?_)
  refine sl_len_m 0 (x0.length : Int) rfl rfl (fun hl0 => ?_)
  refine aw_seq ?_
  refine aw_region ?_
  refine ao_r (r_assign rfl) rfl ?_
  refine ao_nil ?_
  refine aq_then ?_
  refine aw_seq ?_
  refine aw_region ?_
  refine ao_r (r_move rfl) rfl ?_
  refine ao_r (r_build_st (l := [(0, .tmp 4)]) (cs := [.cell (.v ty5 x0), ci 0, .cell (.int .u64 0)]) (.pair ty5 (.pair ty7 (.pair (.int .u64) .unit))) [(0, 1), (1, 1), (2, 1)] Try.underlying53 Try.zeroValue53 rfl ⟨rfl, Try.sizeOf22, rfl, Try.sizeOf3, rfl, Try.sizeOf51, trivial⟩ rfl rfl rfl) rfl ?_
  refine ao_eff trivial (e_box 0 rfl rfl rfl rfl rfl rfl) rfl ?_
  refine ao_r (r_assign rfl) rfl ?_
  refine ao_nil ?_
  refine aq_then ?_
  refine aw_seq ?_
  refine aw_region ?_
  refine ao_r (r_move rfl) rfl ?_
  refine ao_eff trivial (e_buildSlice (l := [(0, .const (.int .i64 6)), (1, .const (.int .i64 2)), (2, .const (.int .i64 4)), (3, .const (.int .i64 1)), (4, .const (.int .i64 3)), (5, .const (.int .i64 5)), (6, .const (.int .i64 0)), (7, .const (.int .i64 7)), (8, .const (.int .i64 (-1)))]) (t := ty7) 1 ([6, 2, 4, 1, 3, 5, 0, 7, (-1)] : dy8) rfl Try.underlying24 Try.zeroValue3 Try.sizeOf3 rfl rfl rfl rfl rfl rfl rfl) rfl ?_
  obtain ⟨r1, r1h, h⟩ := is_bind h
  refine ao_frz (fr' := [(0, .v ty5 x0), (2, .int .i64 0), (4, .v ty5 x0), (5, .st [.v ty5 x0, .int .i64 0, .int .u64 0]), (6, .ref 0 0), (3, .ref 0 0), (7, .ref 0 0), (8, .v ty3 ([6, 2, 4, 1, 3, 5, 0, 7, (-1)] : dy8))]) (H' := [(0, .var [.cell (.v ty5 x0), ci 0, .cell (.int .u64 0)])]) (by exact ⟨⟨_, rfl, ad_ren rfl⟩, ⟨_, rfl, ad_ren rfl⟩, ⟨_, rfl, ad_ren rfl⟩, ⟨_, rfl, ad_ren rfl⟩, ⟨_, rfl, ad_ren rfl⟩, ⟨_, rfl, ad_ren rfl⟩, ⟨_, rfl, ad_ren rfl⟩, ⟨_, rfl, ad_osB rfl rfl⟩, trivial⟩) (by exact ⟨⟨_, rfl, ⟨ad_ren rfl, rfl, ad_ren rfl, rfl, ad_ren rfl, rfl, trivial⟩⟩, trivial⟩) rfl ?_
  refine ao_callV [0] 2 trivial (c_spec_l1Cur_among (is_mk r1h)) Try.func48 rfl rfl rfl rfl rfl ⟨rfl, trivial⟩ ⟨⟨_, rfl, ⟨ad_ren rfl, rfl, ad_ren rfl, rfl, ad_ren rfl, rfl, trivial⟩⟩, trivial⟩ rfl rfl rfl rfl rfl rfl rfl (fun r' H' hr => ?_)
  obtain ⟨rfl, rfl⟩ := hr
  refine ao_norm (y := .int .i64 r1.1) (H' := [(0, .var [.cell (.v ty5 x0), ci r1.2.1, .cell (.int .u64 r1.2.2)])]) rfl rfl ?_
  refine ao_r (r_assign rfl) rfl ?_
  refine ao_nil ?_
  refine aq_then ?_
  refine aw_ret ?_
  refine aq_ret ?_
  obtain rfl := is_some h
  exact aq_finx (l := [.tmp 2]) (xs := [.int .i64 r1.1]) idn [.int .i64 r1.1] [] rfl (by exact ⟨rfl, trivial⟩) (by exact ⟨ad_ren rfl, trivial⟩) (by exact trivial) rfl (nk rfl) rfl rfl ⟨rfl, rfl⟩
theorem c_impl_isIn {x0 : Int} {x1 : Int} {r : Bool} (h : Is (p_impl_isIn x0 x1) (some r)) :
    Scalar Try.prog 50 [.int .i64 x0, .int .i64 x1] (.bool r) := by
  unfold p_impl_isIn at h
  refine ac_enter ⟨10, 0⟩ Try.func50 rfl rfl rfl rfl rfl (fun Γ => ?_)
  refine aw_seq ?_
  refine aw_region ?_
  refine ao_r (r_assign rfl) rfl ?_
  refine ao_nil ?_
  refine aq_then ?_
  refine aw_seq ?_
  refine aw_region ?_
  refine ao_r (r_move rfl) rfl ?_
  refine ao_r (r_move rfl) rfl ?_
  obtain ⟨g1, h⟩ := is_guard h
  refine ao_r (r_shr rfl rfl (by omega)) rfl ?_
  refine ao_r (r_and rfl rfl) rfl ?_
  refine ao_r (r_eql rfl rfl) rfl ?_
  refine ao_r (r_assign rfl) rfl ?_
  refine ao_nil ?_
  refine aq_then ?_
  refine aw_ret ?_
  refine aq_ret ?_
  obtain rfl := is_some h
  exact aq_finx (l := [.tmp 4]) (xs := [.bool (decide ((andI .i64 (shrI .i64 x0 x1) 1) = 1))]) idn [.bool (decide ((andI .i64 (shrI .i64 x0 x1) 1) = 1))] [] rfl (by exact ⟨rfl, trivial⟩) (by exact ⟨ad_ren rfl, trivial⟩) (by exact trivial) rfl (nk rfl) rfl rfl ⟨rfl, rfl⟩
theorem c_impl_CountEven {fu : Nat} {x0 : Int} {r : Int × Bool} (h : Is (p_impl_CountEven fu x0) (some r)) :
    Scalar Try.prog 21 [.int .i64 x0] (.tup [.int .i64 r.1, .bool r.2]) := by
  unfold p_impl_CountEven at h
  refine ac_enter ⟨48, 0⟩ Try.func21 rfl rfl rfl rfl rfl (fun Γ => ?_)
  refine aw_seq ?_
  refine aw_region ?_
  refine ao_r (r_assign rfl) rfl ?_
  refine ao_r (r_assign rfl) rfl ?_
  refine ao_nil ?_
  refine aq_then ?_
  refine aw_seq ?_
  refine aw_seq ?_
  refine aw_region ?_
  refine ao_r (r_move rfl) rfl ?_
  refine ao_scall trivial (scall (c_impl_within (is_mk (rfl : p_impl_within x0 1 6 = _))) rfl Try.func49 rfl rfl rfl rfl (fun σ => ⟨ad_ren rfl, ad_ren rfl, ad_ren rfl, trivial⟩)) rfl ?_
  refine ao_r (r_not rfl) rfl ?_
  refine ao_nil ?_
  refine aq_then ?_
  refine aw_cond rfl (fun hb1 => ?_) (fun hb1 => ?_)
  replace h := is_else (ne_t (not_t hb1)) h
  refine aw_seq ?_
  refine aw_region ?_
  refine ao_r (r_assign rfl) rfl ?_
  refine ao_r (r_assign rfl) rfl ?_
  refine ao_nil ?_
  refine aq_then ?_
  refine aw_ret ?_
  refine aq_then_ret ?_
  refine aq_ret ?_
  obtain rfl := is_some h
  exact aq_finx (l := [.tmp 2, .tmp 3]) (xs := [.int .i64 0, .bool false]) idn [.int .i64 0, .bool false] [] rfl (by exact ⟨rfl, rfl, trivial⟩) (by exact ⟨ad_ren rfl, ad_ren rfl, trivial⟩) (by exact trivial) rfl (nk rfl) rfl rfl ⟨rfl, rfl⟩
  replace h := is_if (not_f hb1) h
  refine aw_skip ?_
  refine aq_then ?_
  refine aw_seq ?_
  refine aw_region ?_
  refine ao_r (r_assign rfl) rfl ?_
  refine ao_nil ?_
  refine aq_then ?_
  refine aw_seq ?_
  refine aw_seq ?_
  refine aw_region ?_
  refine ao_r (r_move rfl) rfl ?_
  refine ao_r (r_mul rfl rfl) rfl ?_
  obtain ⟨g2, h⟩ := is_guard h
  refine ao_r (r_shl rfl rfl (by omega)) rfl ?_
  refine ao_r (r_move rfl) rfl ?_
  refine ao_nil ?_
  refine aq_then ?_
  refine aw_block ?_
  refine aw_loop (AL.sub (sub_r1 idn (nk rfl) (by kernel_rfl)) (al_whl (fun (s3 : Int × Int) => [(0, .int .i64 x0), (4, .int .i64 s3.1), (14, .int .i64 (shlI .i64 1 (IntKind.wrap .i64 (2 * x0)))), (15, .int .i64 s3.2)]) (fun (s3 : Int × Int) => []) (fun (s3 : Int × Int) => True) h trivial (fun d5 s3 hI h ih5 => ?_)))
  replace h := is_whlS h
  refine al_round ?_
  refine aw_seq ?_
  refine aw_region ?_
  refine ao_r (r_lss rfl rfl) rfl ?_
  refine ao_nil ?_
  refine aq_then ?_
  refine aw_seq ?_
  refine aw_cond rfl (fun hb7 => ?_) (fun hb7 => ?_)
  have q8 := d_t hb7
  replace h := is_if (d_t hb7) h
  refine aw_skip ?_
  refine aq_then ?_
  refine aw_seq ?_
  refine aw_block ?_
  refine aw_seq ?_
  refine aw_region ?_
  refine ao_r (r_move rfl) rfl ?_
  refine ao_r (r_assign rfl) rfl ?_
  refine ao_nil ?_
  refine aq_then ?_
  refine aw_seq ?_
  refine aw_region ?_
  refine ao_r (r_assign rfl) rfl ?_
  refine ao_r (r_assign rfl) rfl ?_
  refine ao_nil ?_
  refine aq_then ?_
  refine aw_seq ?_
  refine aw_seq ?_
  refine aw_region ?_
  refine ao_r (r_move rfl) rfl ?_
  refine ao_r (r_mul rfl rfl) rfl ?_
  refine ao_r (r_move rfl) rfl ?_
  refine ao_nil ?_
  refine aq_then ?_
  refine aw_block ?_
  refine aw_loop (AL.sub (sub_r1 idn (nk rfl) (by kernel_rfl)) (al_whl (fun (s10 : Int × Int × Int) => [(0, .int .i64 x0), (4, .int .i64 s3.1), (5, .int .i64 s3.2), (6, .int .i64 s10.1), (7, .int .i64 s10.2.1), (14, .int .i64 (shlI .i64 1 (IntKind.wrap .i64 (2 * x0)))), (15, .int .i64 s3.2), (19, .int .i64 (IntKind.wrap .i64 (2 * x0))), (20, .int .i64 s10.2.2)]) (fun (s10 : Int × Int × Int) => []) (fun (s10 : Int × Int × Int) => True) h trivial (fun d12 s10 hI h ih12 => ?_)))
  replace h := is_whlS h
  refine al_round ?_
  refine aw_seq ?_
  refine aw_region ?_
  refine ao_r (r_lss rfl rfl) rfl ?_
  refine ao_nil ?_
  refine aq_then ?_
  refine aw_seq ?_
  refine aw_cond rfl (fun hb14 => ?_) (fun hb14 => ?_)
  have q15 := d_t hb14
  replace h := is_if (d_t hb14) h
  refine aw_skip ?_
  refine aq_then ?_
  refine aw_seq ?_
  refine aw_block ?_
  refine aw_seq ?_
  refine aw_region ?_
  refine ao_r (r_move rfl) rfl ?_
  refine ao_r (r_assign rfl) rfl ?_
  refine ao_nil ?_
  refine aq_then ?_
  refine aw_seq ?_
  refine aw_region ?_
  refine ao_r (r_move rfl) rfl ?_
  refine ao_r (r_move rfl) rfl ?_
  obtain ⟨r17, r17h, h⟩ := is_bind h
  refine ao_scall trivial (scall (c_impl_isIn (is_mk r17h)) rfl Try.func50 rfl rfl rfl rfl (fun σ => ⟨ad_ren rfl, ad_ren rfl, trivial⟩)) rfl ?_
  refine ao_nil ?_
  refine aq_then ?_
  refine aw_cond rfl (fun hb18 => ?_) (fun hb18 => ?_)
  replace h := is_if hb18 h
  refine aw_region ?_
  refine ao_r (r_move rfl) rfl ?_
  refine ao_r (r_add rfl rfl) rfl ?_
  refine ao_r (r_assign rfl) rfl ?_
  refine ao_nil ?_
  refine aq_in ?_
  refine aq_then ?_
  refine aw_region ?_
  refine ao_r (r_add rfl rfl) rfl ?_
  refine ao_r (r_move rfl) rfl ?_
  refine ao_nil ?_
  exact aq_again (AL.sub (sub_r1 idn (nk rfl) (by kernel_rfl)) (ih12 ((IntKind.wrap .i64 (s10.1 + 1)), s10.2.1, (IntKind.wrap .i64 (s10.2.2 + 1))) trivial h))
  replace h := is_else (ne_t hb18) h
  refine aw_region ?_
  refine ao_r (r_move rfl) rfl ?_
  refine ao_r (r_move rfl) rfl ?_
  refine ao_r (r_add rfl rfl) rfl ?_
  refine ao_r (r_assign rfl) rfl ?_
  refine ao_nil ?_
  refine aq_in ?_
  refine aq_then ?_
  refine aw_region ?_
  refine ao_r (r_add rfl rfl) rfl ?_
  refine ao_r (r_move rfl) rfl ?_
  refine ao_nil ?_
  exact aq_again (AL.sub (sub_r1 idn (nk rfl) (by kernel_rfl)) (ih12 (s10.1, (IntKind.wrap .i64 (s10.2.1 + s10.1)), (IntKind.wrap .i64 (s10.2.2 + 1))) trivial h))
  have q16 := d_f hb14
  replace h := is_else (d_f hb14) h
  refine aw_exit ?_
  refine aq_then_exit ?_
  refine aq_then_exit ?_
  refine aq_in_exit ?_
  refine aq_then ?_
  refine aw_region ?_
  refine ao_r (r_move rfl) rfl ?_
  refine ao_r (r_move rfl) rfl ?_
  refine ao_r (r_move rfl) rfl ?_
  refine ao_r (r_eql rfl rfl) rfl ?_
  refine ao_r (r_move rfl) rfl ?_
  refine ao_readG (x := .int .i64 s10.2.1) rfl (GV.T rfl) (fun hg19 => by
        have q20 := d_t hg19
        exact r_move rfl) rfl ?_
  refine ao_readG (x := .int .i64 (IntKind.wrap .i64 (2 * s10.2.1))) rfl (GV.T rfl) (fun hg21 => by
        have q22 := d_t hg21
        exact Reads.strip 37 rfl (hg21) (r_mul rfl rfl)) rfl ?_
  refine ao_readG (x := .int .i64 x0) rfl (GV.T rfl) (fun hg23 => by
        have q24 := d_t hg23
        exact r_move rfl) rfl ?_
  refine ao_readG (x := .int .i64 x0) rfl (GV.T rfl) (fun hg25 => by
        have q26 := d_t hg25
        exact r_move rfl) rfl ?_
  refine ao_readG (x := .int .i64 (IntKind.wrap .i64 (x0 * x0))) rfl (GV.T rfl) (fun hg27 => by
        have q28 := d_t hg27
        exact Reads.strip 39 rfl (hg27) (Reads.strip 40 rfl (hg27) (r_mul rfl rfl))) rfl ?_
  refine ao_readG (x := .bool (decide ((IntKind.wrap .i64 (2 * s10.2.1)) = (IntKind.wrap .i64 (x0 * x0))))) rfl (GV.T rfl) (fun hg29 => by
        have q30 := d_t hg29
        exact Reads.strip 38 rfl (hg29) (Reads.strip 41 rfl (hg29) (r_eql rfl rfl))) rfl ?_
  refine ao_r (r_andB rfl rfl) rfl ?_
  refine ao_scall trivial (scall (c_impl_truth (is_mk (rfl : p_impl_truth ((decide (s10.1 = x0)) && (decide ((IntKind.wrap .i64 (2 * s10.2.1)) = (IntKind.wrap .i64 (x0 * x0))))) = _))) rfl Try.func51 rfl rfl rfl rfl (fun σ => ⟨ad_ren rfl, trivial⟩)) rfl ?_
  refine ao_r (r_add rfl rfl) rfl ?_
  refine ao_r (r_assign rfl) rfl ?_
  refine ao_nil ?_
  refine aq_in ?_
  refine aq_then ?_
  refine aw_region ?_
  refine ao_r (r_add rfl rfl) rfl ?_
  refine ao_r (r_move rfl) rfl ?_
  refine ao_nil ?_
  exact aq_again (AL.sub (sub_r1 idn (nk rfl) (by kernel_rfl)) (ih5 ((IntKind.wrap .i64 (s3.1 + (p_impl_truth ((decide (s10.1 = x0)) && (decide ((IntKind.wrap .i64 (2 * s10.2.1)) = (IntKind.wrap .i64 (x0 * x0)))))))), (IntKind.wrap .i64 (s3.2 + 1))) trivial h))
  have q9 := d_f hb7
  replace h := is_else (d_f hb7) h
  refine aw_exit ?_
  refine aq_then_exit ?_
  refine aq_then_exit ?_
  refine aq_in_exit ?_
  refine aq_then ?_
  refine aw_seq ?_
  refine aw_region ?_
  refine ao_r (r_move rfl) rfl ?_
  refine ao_r (r_assign rfl) rfl ?_
  refine ao_r (r_assign rfl) rfl ?_
  refine ao_nil ?_
  refine aq_then ?_
  refine aw_ret ?_
  refine aq_ret ?_
  obtain rfl := is_some h
  exact aq_finx (l := [.tmp 2, .tmp 3]) (xs := [.int .i64 s3.1, .bool true]) idn [.int .i64 s3.1, .bool true] [] rfl (by exact ⟨rfl, rfl, trivial⟩) (by exact ⟨ad_ren rfl, ad_ren rfl, trivial⟩) (by exact trivial) rfl (nk rfl) rfl rfl ⟨rfl, rfl⟩
theorem c_spec_CountEven {fu : Nat} {x0 : Int} {r : Int × Bool} (h : Is (p_spec_CountEven fu x0) (some r)) :
    Scalar Try.prog 22 [.int .i64 x0] (.tup [.int .i64 r.1, .bool r.2]) := by
  unfold p_spec_CountEven at h
  refine ac_enter ⟨49, 0⟩ Try.func22 rfl rfl rfl rfl rfl (fun Γ => ?_)
  refine aw_seq ?_
  refine aw_region ?_
  refine ao_r (r_assign rfl) rfl ?_
  refine ao_r (r_assign rfl) rfl ?_
  refine ao_nil ?_
  refine aq_then ?_
  refine aw_seq ?_
  refine aw_seq ?_
  refine aw_region ?_
  refine ao_r (r_move rfl) rfl ?_
  refine ao_scall trivial (scall (c_spec_l1In (is_mk (rfl : p_spec_l1In x0 1 6 = _))) rfl Try.func52 rfl rfl rfl rfl (fun σ => ⟨ad_ren rfl, ad_ren rfl, ad_ren rfl, trivial⟩)) rfl ?_
  refine ao_r (r_not rfl) rfl ?_
  refine ao_nil ?_
  refine aq_then ?_
  refine aw_cond rfl (fun hb1 => ?_) (fun hb1 => ?_)
  replace h := is_else (ne_t (not_t hb1)) h
  refine aw_seq ?_
  refine aw_region ?_
  refine ao_r (r_assign rfl) rfl ?_
  refine ao_r (r_assign rfl) rfl ?_
  refine ao_nil ?_
  refine aq_then ?_
  refine aw_ret ?_
  refine aq_then_ret ?_
  refine aq_ret ?_
  obtain rfl := is_some h
  exact aq_finx (l := [.tmp 2, .tmp 3]) (xs := [.int .i64 0, .bool false]) idn [.int .i64 0, .bool false] [] rfl (by exact ⟨rfl, rfl, trivial⟩) (by exact ⟨ad_ren rfl, ad_ren rfl, trivial⟩) (by exact trivial) rfl (nk rfl) rfl rfl ⟨rfl, rfl⟩
  replace h := is_if (not_f hb1) h
  refine aw_skip ?_
  refine aq_then ?_
  refine aw_seq ?_
  refine aw_region ?_
  refine ao_r (r_assign rfl) rfl ?_
  refine ao_nil ?_
  refine aq_then ?_
  refine aw_seq ?_
  refine aw_seq ?_
  refine aw_region ?_
  refine ao_r (r_assign rfl) rfl ?_
  refine ao_nil ?_
  refine aq_then ?_
  refine aw_block ?_
  refine aw_loop (AL.sub (sub_r1 idn (nk rfl) (by kernel_rfl)) (al_whl (fun (s2 : Int × Int) => [(0, .int .i64 x0), (4, .int .i64 s2.1), (5, .int .i64 s2.2)]) (fun (s2 : Int × Int) => []) (fun (s2 : Int × Int) => True) h trivial (fun d4 s2 hI h ih4 => ?_)))
  replace h := is_whlS h
  refine al_round ?_
  refine aw_seq ?_
  refine aw_seq ?_
  refine aw_region ?_
  refine ao_r (r_move rfl) rfl ?_
  refine ao_r (r_move rfl) rfl ?_
  refine ao_r (r_mul rfl rfl) rfl ?_
  obtain ⟨g6, h⟩ := is_guard h
  refine ao_r (r_shl rfl rfl (by omega)) rfl ?_
  refine ao_r (r_lss rfl rfl) rfl ?_
  refine ao_nil ?_
  refine aq_then ?_
  refine aw_cond rfl (fun hb7 => ?_) (fun hb7 => ?_)
  have q8 := d_t hb7
  replace h := is_if (d_t hb7) h
  refine aw_skip ?_
  refine aq_then ?_
  refine aw_seq ?_
  refine aw_block ?_
  refine aw_seq ?_
  refine aw_region ?_
  refine ao_r (r_assign rfl) rfl ?_
  refine ao_r (r_assign rfl) rfl ?_
  refine ao_nil ?_
  refine aq_then ?_
  refine aw_seq ?_
  refine aw_seq ?_
  refine aw_region ?_
  refine ao_r (r_assign rfl) rfl ?_
  refine ao_nil ?_
  refine aq_then ?_
  refine aw_block ?_
  refine aw_loop (AL.sub (sub_r1 idn (nk rfl) (by kernel_rfl)) (al_whl (fun (s10 : Int × Int × Int) => [(0, .int .i64 x0), (4, .int .i64 s2.1), (5, .int .i64 s2.2), (6, .int .i64 s10.1), (7, .int .i64 s10.2.1), (8, .int .i64 s10.2.2)]) (fun (s10 : Int × Int × Int) => []) (fun (s10 : Int × Int × Int) => True) h trivial (fun d12 s10 hI h ih12 => ?_)))
  replace h := is_whlS h
  refine al_round ?_
  refine aw_seq ?_
  refine aw_seq ?_
  refine aw_region ?_
  refine ao_r (r_move rfl) rfl ?_
  refine ao_r (r_move rfl) rfl ?_
  refine ao_r (r_mul rfl rfl) rfl ?_
  refine ao_r (r_lss rfl rfl) rfl ?_
  refine ao_nil ?_
  refine aq_then ?_
  refine aw_cond rfl (fun hb14 => ?_) (fun hb14 => ?_)
  have q15 := d_t hb14
  replace h := is_if (d_t hb14) h
  refine aw_skip ?_
  refine aq_then ?_
  refine aw_seq ?_
  refine aw_block ?_
  refine aw_seq ?_
  refine aw_region ?_
  refine ao_r (r_move rfl) rfl ?_
  refine ao_r (r_move rfl) rfl ?_
  obtain ⟨g17, h⟩ := is_guard h
  refine ao_r (r_shr rfl rfl (by omega)) rfl ?_
  refine ao_r (r_and rfl rfl) rfl ?_
  refine ao_r (r_eql rfl rfl) rfl ?_
  refine ao_nil ?_
  refine aq_then ?_
  refine aw_cond rfl (fun hb18 => ?_) (fun hb18 => ?_)
  have q19 := d_t hb18
  replace h := is_if (d_t hb18) h
  refine aw_region ?_
  refine ao_r (r_move rfl) rfl ?_
  refine ao_r (r_add rfl rfl) rfl ?_
  refine ao_r (r_assign rfl) rfl ?_
  refine ao_nil ?_
  refine aq_in ?_
  refine aq_then ?_
  refine aw_region ?_
  refine ao_r (r_move rfl) rfl ?_
  refine ao_r (r_add rfl rfl) rfl ?_
  refine ao_r (r_assign rfl) rfl ?_
  refine ao_nil ?_
  exact aq_again (AL.sub (sub_r1 idn (nk rfl) (by kernel_rfl)) (ih12 ((IntKind.wrap .i64 (s10.1 + 1)), s10.2.1, (IntKind.wrap .i64 (s10.2.2 + 1))) trivial h))
  have q20 := d_f hb18
  replace h := is_else (d_f hb18) h
  refine aw_region ?_
  refine ao_r (r_move rfl) rfl ?_
  refine ao_r (r_move rfl) rfl ?_
  refine ao_r (r_add rfl rfl) rfl ?_
  refine ao_r (r_assign rfl) rfl ?_
  refine ao_nil ?_
  refine aq_in ?_
  refine aq_then ?_
  refine aw_region ?_
  refine ao_r (r_move rfl) rfl ?_
  refine ao_r (r_add rfl rfl) rfl ?_
  refine ao_r (r_assign rfl) rfl ?_
  refine ao_nil ?_
  exact aq_again (AL.sub (sub_r1 idn (nk rfl) (by kernel_rfl)) (ih12 (s10.1, (IntKind.wrap .i64 (s10.2.1 + s10.1)), (IntKind.wrap .i64 (s10.2.2 + 1))) trivial h))
  have q16 := d_f hb14
  replace h := is_else (d_f hb14) h
  refine aw_exit ?_
  refine aq_then_exit ?_
  refine aq_then_exit ?_
  refine aq_in_exit ?_
  refine aq_then ?_
  refine aw_seq ?_
  refine aw_region ?_
  refine ao_r (r_move rfl) rfl ?_
  refine ao_r (r_move rfl) rfl ?_
  refine ao_r (r_eql rfl rfl) rfl ?_
  refine ao_r (r_move rfl) rfl ?_
  refine ao_readG (x := .int .i64 s10.2.1) rfl (GV.T rfl) (fun hg21 => by
        have q22 := d_t hg21
        exact r_move rfl) rfl ?_
  refine ao_readG (x := .int .i64 (IntKind.wrap .i64 (2 * s10.2.1))) rfl (GV.T rfl) (fun hg23 => by
        have q24 := d_t hg23
        exact Reads.strip 39 rfl (hg23) (r_mul rfl rfl)) rfl ?_
  refine ao_readG (x := .int .i64 x0) rfl (GV.T rfl) (fun hg25 => by
        have q26 := d_t hg25
        exact r_move rfl) rfl ?_
  refine ao_readG (x := .int .i64 x0) rfl (GV.T rfl) (fun hg27 => by
        have q28 := d_t hg27
        exact r_move rfl) rfl ?_
  refine ao_readG (x := .int .i64 (IntKind.wrap .i64 (x0 * x0))) rfl (GV.T rfl) (fun hg29 => by
        have q30 := d_t hg29
        exact Reads.strip 41 rfl (hg29) (Reads.strip 42 rfl (hg29) (r_mul rfl rfl))) rfl ?_
  refine ao_readG (x := .bool (decide ((IntKind.wrap .i64 (2 * s10.2.1)) = (IntKind.wrap .i64 (x0 * x0))))) rfl (GV.T rfl) (fun hg31 => by
        have q32 := d_t hg31
        exact Reads.strip 40 rfl (hg31) (Reads.strip 43 rfl (hg31) (r_eql rfl rfl))) rfl ?_
  refine ao_r (r_andB rfl rfl) rfl ?_
  refine ao_nil ?_
  refine aq_then ?_
  refine aw_cond rfl (fun hb33 => ?_) (fun hb33 => ?_)
  obtain ⟨q34, q35⟩ := and_t hb33
  have q36 := d_t q34
  have q37 := d_t q35
  replace h := is_if hb33 h
  refine aw_region ?_
  refine ao_r (r_move rfl) rfl ?_
  refine ao_r (r_add rfl rfl) rfl ?_
  refine ao_r (r_assign rfl) rfl ?_
  refine ao_nil ?_
  refine aq_in ?_
  refine aq_then ?_
  refine aw_region ?_
  refine ao_r (r_move rfl) rfl ?_
  refine ao_r (r_add rfl rfl) rfl ?_
  refine ao_r (r_assign rfl) rfl ?_
  refine ao_nil ?_
  exact aq_again (AL.sub (sub_r1 idn (nk rfl) (by kernel_rfl)) (ih4 ((IntKind.wrap .i64 (s2.1 + 1)), (IntKind.wrap .i64 (s2.2 + 1))) trivial h))
  replace h := is_else (ne_t hb33) h
  refine aw_skip ?_
  refine aq_in ?_
  refine aq_then ?_
  refine aw_region ?_
  refine ao_r (r_move rfl) rfl ?_
  refine ao_r (r_add rfl rfl) rfl ?_
  refine ao_r (r_assign rfl) rfl ?_
  refine ao_nil ?_
  exact aq_again (AL.sub (sub_r1 idn (nk rfl) (by kernel_rfl)) (ih4 (s2.1, (IntKind.wrap .i64 (s2.2 + 1))) trivial h))
  have q9 := d_f hb7
  replace h := is_else (d_f hb7) h
  refine aw_exit ?_
  refine aq_then_exit ?_
  refine aq_then_exit ?_
  refine aq_in_exit ?_
  refine aq_then ?_
  refine aw_seq ?_
  refine aw_region ?_
  refine ao_r (r_move rfl) rfl ?_
  refine ao_r (r_assign rfl) rfl ?_
  refine ao_r (r_assign rfl) rfl ?_
  refine ao_nil ?_
  refine aq_then ?_
  refine aw_ret ?_
  refine aq_ret ?_
  obtain rfl := is_some h
  exact aq_finx (l := [.tmp 2, .tmp 3]) (xs := [.int .i64 s2.1, .bool true]) idn [.int .i64 s2.1, .bool true] [] rfl (by exact ⟨rfl, rfl, trivial⟩) (by exact ⟨ad_ren rfl, ad_ren rfl, trivial⟩) (by exact trivial) rfl (nk rfl) rfl rfl ⟨rfl, rfl⟩
theorem c_laws_vPools {x0 : dy6} {x1 : dy6} {r : Bool} (h : Is (p_laws_vPools x0 x1) r) :
    Scalar Try.prog 23 [.v ty2 x0, .v ty2 x1] (.bool r) := by
  unfold p_laws_vPools at h
  refine ac_enter ⟨26, 0⟩ Try.func23 rfl rfl rfl rfl rfl (fun Γ => ?_)
  refine sl_len_m 0 (x0.length : Int) rfl rfl (fun hl0 => ?_)
  refine sl_len_m 1 (x1.length : Int) rfl rfl (fun hl1 => ?_)
  refine aw_seq ?_
  refine aw_region ?_
  refine ao_r (r_assign rfl) rfl ?_
  refine ao_nil ?_
  refine aq_then ?_
  refine aw_seq ?_
  refine aw_seq ?_
  refine aw_region ?_
  refine ao_r (r_move rfl) rfl ?_
  refine ao_r (r_len_vm (x0.length : Int) Try.underlying26 rfl rfl) rfl ?_
  refine ao_r (r_move rfl) rfl ?_
  refine ao_r (r_len_vm (x1.length : Int) Try.underlying26 rfl rfl) rfl ?_
  refine ao_r (r_neq rfl rfl) rfl ?_
  refine ao_nil ?_
  refine aq_then ?_
  refine aw_cond rfl (fun hb1 => ?_) (fun hb1 => ?_)
  have q2 := d_f (not_t hb1)
  replace h := is_else (d_f (not_t hb1)) h
  refine aw_seq ?_
  refine aw_region ?_
  refine ao_r (r_assign rfl) rfl ?_
  refine ao_nil ?_
  refine aq_then ?_
  refine aw_ret ?_
  refine aq_then_ret ?_
  refine aq_ret ?_
  obtain rfl := is_eq h
  exact aq_finx (l := [.tmp 4]) (xs := [.bool false]) idn [.bool false] [] rfl (by exact ⟨rfl, trivial⟩) (by exact ⟨ad_ren rfl, trivial⟩) (by exact trivial) rfl (nk rfl) rfl rfl ⟨rfl, rfl⟩
  have q3 := d_t (not_f hb1)
  replace h := is_if (d_t (not_f hb1)) h
  refine aw_skip ?_
  refine aq_then ?_
  refine aw_seq ?_
  refine aw_seq ?_
  refine aw_region ?_
  refine ao_r (r_assign rfl) rfl ?_
  refine ao_nil ?_
  refine aq_then ?_
  refine aw_block ?_
  refine aw_loop (AL.sub (fr' := [(0, .v ty2 x0), (1, .v ty2 x1), (5, .int .i64 0)]) (H' := []) (sub_r1 idn (nk rfl) (by kernel_rfl)) (al_cnt (fun i5 (s4 : Unit) => [(0, .v ty2 x0), (1, .v ty2 x1), (5, .int .i64 i5)]) (fun i5 (s4 : Unit) => []) (fun d i5 (s4 : Unit) => d = Int.toNat ((x0.length : Int) - i5) ∧ 0 ≤ i5 ∧ i5 ≤ (x0.length : Int)) h ⟨rfl, (by (try simp only [List.length_set, List.length_append, List.length_cons, List.length_nil, List.length_replicate, List.length_take, List.length_drop]) <;> omega), (by (try simp only [List.length_set, List.length_append, List.length_cons, List.length_nil, List.length_replicate, List.length_take, List.length_drop]) <;> omega)⟩ (fun d6 i5 s4 hI h ih6 => ?_)))
  obtain ⟨hd, _, _⟩ := hI
  refine al_round ?_
  refine aw_seq ?_
  refine aw_seq ?_
  refine aw_region ?_
  refine ao_r (r_move rfl) rfl ?_
  refine ao_r (r_move rfl) rfl ?_
  refine ao_r (r_len_vm (x0.length : Int) Try.underlying26 rfl rfl) rfl ?_
  refine ao_r (r_lss rfl rfl) rfl ?_
  refine ao_nil ?_
  refine aq_then ?_
  refine aw_cond rfl (fun hb8 => ?_) (fun hb8 => ?_)
  have q9 := d_t hb8
  obtain ⟨d6, rfl⟩ : ∃ e, d6 = e + 1 := ⟨d6 - 1, by omega⟩
  replace h := is_cntS h
  refine aw_skip ?_
  refine aq_then ?_
  refine aw_seq ?_
  refine aw_block ?_
  refine aw_seq ?_
  refine aw_drawAll (by kernel_rfl) ?_
  refine an_r 0 (fun _ _ _ h => h) rfl (by kernel_rfl) (r_move rfl) rfl ?_
  refine an_r 1 (fun _ _ _ h => h) rfl (by kernel_rfl) (r_move rfl) rfl ?_
  refine an_r 2 (fun _ _ _ h => h) rfl (by kernel_rfl) (r_idxAddr (t := ty4) Try.underlying26 Try.sizeOf62 rfl rfl (show 0 ≤ i5 from by omega) (show i5 < (x0.length : Int) from by omega)) rfl ?_
  refine an_r 3 (fun _ _ _ h => h) rfl (by kernel_rfl) (r_load_c (t := ty4) Try.isAgg62 Try.sizeOf62 rfl) rfl ?_
  refine an_r 4 (fun _ _ _ h => h) rfl (by kernel_rfl) (r_move rfl) rfl ?_
  refine an_r 5 (fun _ _ _ h => h) rfl (by kernel_rfl) (r_move rfl) rfl ?_
  refine an_r 6 (fun _ _ _ h => h) rfl (by kernel_rfl) (r_idxAddr (t := ty4) Try.underlying26 Try.sizeOf62 rfl rfl (show 0 ≤ i5 from by omega) (show i5 < (x1.length : Int) from by omega)) rfl ?_
  refine an_r 7 (fun _ _ _ h => h) rfl (by kernel_rfl) (r_load_c (t := ty4) Try.isAgg62 Try.sizeOf62 rfl) rfl ?_
  refine an_r 8 (fun _ _ _ h => h) rfl (by kernel_rfl) (r_eq_ints Try.underlying62 Try.underlying3 Try.isAgg3 (info_size Try.sizeOf3) (by kernel_rfl) rfl rfl rfl) rfl ?_
  refine an_done rfl ?_
  refine aq_then ?_
  refine aw_cond rfl (fun hb11 => ?_) (fun hb11 => ?_)
  replace h := is_else (d_f (not_t hb11)) h
  refine aw_seq ?_
  refine aw_region ?_
  refine ao_r (r_assign rfl) rfl ?_
  refine ao_nil ?_
  refine aq_then ?_
  refine aw_ret ?_
  refine aq_in_ret ?_
  refine aq_then_ret ?_
  refine aq_then_ret ?_
  refine aq_in_ret ?_
  refine aq_then_ret ?_
  refine aq_ret ?_
  obtain rfl := is_eq h
  exact aq_finx (l := [.tmp 4]) (xs := [.bool false]) idn [.bool false] [] rfl (by exact ⟨rfl, trivial⟩) (by exact ⟨ad_ren rfl, trivial⟩) (by exact trivial) rfl (nk rfl) rfl rfl ⟨rfl, rfl⟩
  replace h := is_if (d_t (not_f hb11)) h
  refine aw_skip ?_
  refine aq_in ?_
  refine aq_then ?_
  refine aw_region ?_
  refine ao_r (r_move rfl) rfl ?_
  refine ao_r (r_addI rfl rfl (wrap_id (by omega) (by omega))) rfl ?_
  refine ao_r (r_assign rfl) rfl ?_
  refine ao_nil ?_
  exact aq_again (AL.sub (sub_r1 idn (nk rfl) (by kernel_rfl)) (ih6 d6 (i5 + 1) () (by omega) ⟨by omega, (by (try simp only [List.length_set, List.length_append, List.length_cons, List.length_nil, List.length_replicate, List.length_take, List.length_drop]) <;> omega), (by (try simp only [List.length_set, List.length_append, List.length_cons, List.length_nil, List.length_replicate, List.length_take, List.length_drop]) <;> omega)⟩ h))
  have q10 := d_f hb8
  obtain rfl : d6 = 0 := by omega
  replace h := is_cnt0 h
  refine aw_exit ?_
  refine aq_then_exit ?_
  refine aq_then_exit ?_
  refine aq_in_exit ?_
  refine aq_then ?_
  refine aw_seq ?_
  refine aw_region ?_
  refine ao_r (r_assign rfl) rfl ?_
  refine ao_nil ?_
  refine aq_then ?_
  refine aw_ret ?_
  refine aq_ret ?_
  obtain rfl := is_eq h
  exact aq_finx (l := [.tmp 4]) (xs := [.bool true]) idn [.bool true] [] rfl (by exact ⟨rfl, trivial⟩) (by exact ⟨ad_ren rfl, trivial⟩) (by exact trivial) rfl (nk rfl) rfl rfl ⟨rfl, rfl⟩
theorem c_laws_vInts {x0 : dy8} {x1 : dy8} {r : Bool} (h : Is (p_laws_vInts x0 x1) r) :
    Scalar Try.prog 24 [.v ty3 x0, .v ty3 x1] (.bool r) := by
  unfold p_laws_vInts at h
  refine ac_enter ⟨26, 0⟩ Try.func24 rfl rfl rfl rfl rfl (fun Γ => ?_)
  refine sl_len_m 0 (x0.length : Int) rfl rfl (fun hl0 => ?_)
  refine sl_len_m 1 (x1.length : Int) rfl rfl (fun hl1 => ?_)
  refine aw_seq ?_
  refine aw_region ?_
  refine ao_r (r_assign rfl) rfl ?_
  refine ao_nil ?_
  refine aq_then ?_
  refine aw_seq ?_
  refine aw_seq ?_
  refine aw_region ?_
  refine ao_r (r_move rfl) rfl ?_
  refine ao_r (r_len_vm (x0.length : Int) Try.underlying24 rfl rfl) rfl ?_
  refine ao_r (r_move rfl) rfl ?_
  refine ao_r (r_len_vm (x1.length : Int) Try.underlying24 rfl rfl) rfl ?_
  refine ao_r (r_neq rfl rfl) rfl ?_
  refine ao_nil ?_
  refine aq_then ?_
  refine aw_cond rfl (fun hb1 => ?_) (fun hb1 => ?_)
  have q2 := d_f (not_t hb1)
  replace h := is_else (d_f (not_t hb1)) h
  refine aw_seq ?_
  refine aw_region ?_
  refine ao_r (r_assign rfl) rfl ?_
  refine ao_nil ?_
  refine aq_then ?_
  refine aw_ret ?_
  refine aq_then_ret ?_
  refine aq_ret ?_
  obtain rfl := is_eq h
  exact aq_finx (l := [.tmp 4]) (xs := [.bool false]) idn [.bool false] [] rfl (by exact ⟨rfl, trivial⟩) (by exact ⟨ad_ren rfl, trivial⟩) (by exact trivial) rfl (nk rfl) rfl rfl ⟨rfl, rfl⟩
  have q3 := d_t (not_f hb1)
  replace h := is_if (d_t (not_f hb1)) h
  refine aw_skip ?_
  refine aq_then ?_
  refine aw_seq ?_
  refine aw_seq ?_
  refine aw_region ?_
  refine ao_r (r_assign rfl) rfl ?_
  refine ao_nil ?_
  refine aq_then ?_
  refine aw_block ?_
  refine aw_loop (AL.sub (fr' := [(0, .v ty3 x0), (1, .v ty3 x1), (5, .int .i64 0)]) (H' := []) (sub_r1 idn (nk rfl) (by kernel_rfl)) (al_cnt (fun i5 (s4 : Unit) => [(0, .v ty3 x0), (1, .v ty3 x1), (5, .int .i64 i5)]) (fun i5 (s4 : Unit) => []) (fun d i5 (s4 : Unit) => d = Int.toNat ((x0.length : Int) - i5) ∧ 0 ≤ i5 ∧ i5 ≤ (x0.length : Int)) h ⟨rfl, (by (try simp only [List.length_set, List.length_append, List.length_cons, List.length_nil, List.length_replicate, List.length_take, List.length_drop]) <;> omega), (by (try simp only [List.length_set, List.length_append, List.length_cons, List.length_nil, List.length_replicate, List.length_take, List.length_drop]) <;> omega)⟩ (fun d6 i5 s4 hI h ih6 => ?_)))
  obtain ⟨hd, _, _⟩ := hI
  refine al_round ?_
  refine aw_seq ?_
  refine aw_seq ?_
  refine aw_region ?_
  refine ao_r (r_move rfl) rfl ?_
  refine ao_r (r_move rfl) rfl ?_
  refine ao_r (r_len_vm (x0.length : Int) Try.underlying24 rfl rfl) rfl ?_
  refine ao_r (r_lss rfl rfl) rfl ?_
  refine ao_nil ?_
  refine aq_then ?_
  refine aw_cond rfl (fun hb8 => ?_) (fun hb8 => ?_)
  have q9 := d_t hb8
  obtain ⟨d6, rfl⟩ : ∃ e, d6 = e + 1 := ⟨d6 - 1, by omega⟩
  replace h := is_cntS h
  refine aw_skip ?_
  refine aq_then ?_
  refine aw_seq ?_
  refine aw_block ?_
  refine aw_seq ?_
  refine aw_drawAll (by kernel_rfl) ?_
  refine an_r 0 (fun _ _ _ h => h) rfl (by kernel_rfl) (r_move rfl) rfl ?_
  refine an_r 1 (fun _ _ _ h => h) rfl (by kernel_rfl) (r_move rfl) rfl ?_
  refine an_r 2 (fun _ _ _ h => h) rfl (by kernel_rfl) (r_idxAddr_int Try.underlying24 Try.sizeOf3 rfl rfl (show 0 ≤ i5 from by omega) (show i5 < (x0.length : Int) from by omega)) rfl ?_
  refine an_r 3 (fun _ _ _ h => h) rfl (by kernel_rfl) (r_load_c_int Try.isAgg3 Try.sizeOf3 rfl) rfl ?_
  refine an_r 4 (fun _ _ _ h => h) rfl (by kernel_rfl) (r_move rfl) rfl ?_
  refine an_r 5 (fun _ _ _ h => h) rfl (by kernel_rfl) (r_move rfl) rfl ?_
  refine an_r 6 (fun _ _ _ h => h) rfl (by kernel_rfl) (r_idxAddr_int Try.underlying24 Try.sizeOf3 rfl rfl (show 0 ≤ i5 from by omega) (show i5 < (x1.length : Int) from by omega)) rfl ?_
  refine an_r 7 (fun _ _ _ h => h) rfl (by kernel_rfl) (r_load_c_int Try.isAgg3 Try.sizeOf3 rfl) rfl ?_
  refine an_r 8 (fun _ _ _ h => h) rfl (by kernel_rfl) (r_neq rfl rfl) rfl ?_
  refine an_done rfl ?_
  refine aq_then ?_
  refine aw_cond rfl (fun hb11 => ?_) (fun hb11 => ?_)
  have q12 : ¬ ((x0.getD i5.toNat 0) = (x1.getD i5.toNat 0)) := d_f (not_t hb11)
  replace h := is_else (d_f (not_t hb11)) h
  refine aw_seq ?_
  refine aw_region ?_
  refine ao_r (r_assign rfl) rfl ?_
  refine ao_nil ?_
  refine aq_then ?_
  refine aw_ret ?_
  refine aq_in_ret ?_
  refine aq_then_ret ?_
  refine aq_then_ret ?_
  refine aq_in_ret ?_
  refine aq_then_ret ?_
  refine aq_ret ?_
  obtain rfl := is_eq h
  exact aq_finx (l := [.tmp 4]) (xs := [.bool false]) idn [.bool false] [] rfl (by exact ⟨rfl, trivial⟩) (by exact ⟨ad_ren rfl, trivial⟩) (by exact trivial) rfl (nk rfl) rfl rfl ⟨rfl, rfl⟩
  have q13 : (x0.getD i5.toNat 0) = (x1.getD i5.toNat 0) := d_t (not_f hb11)
  replace h := is_if (d_t (not_f hb11)) h
  refine aw_skip ?_
  refine aq_in ?_
  refine aq_then ?_
  refine aw_region ?_
  refine ao_r (r_move rfl) rfl ?_
  refine ao_r (r_addI rfl rfl (wrap_id (by omega) (by omega))) rfl ?_
  refine ao_r (r_assign rfl) rfl ?_
  refine ao_nil ?_
  exact aq_again (AL.sub (sub_r1 idn (nk rfl) (by kernel_rfl)) (ih6 d6 (i5 + 1) () (by omega) ⟨by omega, (by (try simp only [List.length_set, List.length_append, List.length_cons, List.length_nil, List.length_replicate, List.length_take, List.length_drop]) <;> omega), (by (try simp only [List.length_set, List.length_append, List.length_cons, List.length_nil, List.length_replicate, List.length_take, List.length_drop]) <;> omega)⟩ h))
  have q10 := d_f hb8
  obtain rfl : d6 = 0 := by omega
  replace h := is_cnt0 h
  refine aw_exit ?_
  refine aq_then_exit ?_
  refine aq_then_exit ?_
  refine aq_in_exit ?_
  refine aq_then ?_
  refine aw_seq ?_
  refine aw_region ?_
  refine ao_r (r_assign rfl) rfl ?_
  refine ao_nil ?_
  refine aq_then ?_
  refine aw_ret ?_
  refine aq_ret ?_
  obtain rfl := is_eq h
  exact aq_finx (l := [.tmp 4]) (xs := [.bool true]) idn [.bool true] [] rfl (by exact ⟨rfl, trivial⟩) (by exact ⟨ad_ren rfl, trivial⟩) (by exact trivial) rfl (nk rfl) rfl rfl ⟨rfl, rfl⟩
theorem c_impl_OrderWays {fu : Nat} {x0 : dy6} {r : dy8 × Bool} (h : Is (p_impl_OrderWays fu x0) (some r)) :
    ACalls Try.prog 25 [.v ty2 x0] [] (fun r' H' => r' = .tup [.os 0, .bool r.2] ∧ H' = [(0, .row ty7 r.1)]) := by
  unfold p_impl_OrderWays at h
  refine ac_enter ⟨9, 0⟩ Try.func25 rfl rfl rfl rfl rfl (fun Γ => ?_)
  refine sl_len_m 0 (x0.length : Int) rfl rfl (fun hl0 => ?_)
  refine aw_seq ?_
  refine aw_region ?_
  refine ao_r (r_assign rfl) rfl ?_
  refine ao_r (r_assign rfl) rfl ?_
  refine ao_nil ?_
  refine aq_then ?_
  refine aw_seq ?_
  refine aw_seq ?_
  refine aw_region ?_
  refine ao_r (r_move rfl) rfl ?_
  refine ao_scall trivial (scall (c_impl_IsPool (is_mk (rfl : p_impl_IsPool x0 = _))) rfl Try.func41 rfl rfl rfl rfl (fun σ => ⟨ad_ren rfl, trivial⟩)) rfl ?_
  refine ao_r (r_not rfl) rfl ?_
  refine ao_nil ?_
  refine aq_then ?_
  refine aw_cond rfl (fun hb1 => ?_) (fun hb1 => ?_)
  replace h := is_else (ne_t (not_t hb1)) h
  refine aw_seq ?_
  refine aw_region ?_
  refine ao_r (r_assign rfl) rfl ?_
  refine ao_r (r_assign rfl) rfl ?_
  refine ao_nil ?_
  refine aq_then ?_
  refine aw_ret ?_
  refine aq_then_ret ?_
  refine aq_ret ?_
  obtain rfl := is_some h
  refine AQ.sub (sub_nil (T := 2) (t := ty7) 0 rfl rfl rfl) ?_
  exact aq_finx (l := [.tmp 2, .tmp 3]) (xs := [.os 0, .bool false]) idn [.os 0, .bool false] [(0, .row ty7 ([] : dy8))] rfl (by exact ⟨rfl, rfl, trivial⟩) (by exact ⟨ad_ren rfl, ad_ren rfl, trivial⟩) (by exact ⟨⟨_, rfl, rfl⟩, trivial⟩) rfl (nk rfl) rfl rfl ⟨rfl, rfl⟩
  replace h := is_if (not_f hb1) h
  refine aw_skip ?_
  refine aq_then ?_
  refine aw_seq ?_
  refine aw_region ?_
  refine ao_r (r_move rfl) rfl ?_
  obtain ⟨r2, r2h, h⟩ := is_bind h
  refine ao_call [] 0 trivial (c_impl_orderWays (is_mk r2h)) Try.func34 rfl rfl rfl rfl ⟨ad_ren rfl, trivial⟩ trivial rfl rfl rfl rfl rfl rfl rfl (fun r' H' hr => ?_)
  obtain ⟨rfl, rfl⟩ := hr
  refine ao_norm (y := .os 0) (H' := [(0, .row ty7 r2)]) rfl rfl ?_
  refine row_len_o 0 (r2.length : Int) rfl rfl (fun hr3 => ?_)
  refine ao_r (r_assign rfl) rfl ?_
  refine ao_r (r_assign rfl) rfl ?_
  refine ao_nil ?_
  refine aq_then ?_
  refine aw_ret ?_
  refine aq_ret ?_
  obtain rfl := is_some h
  exact aq_finx (l := [.tmp 2, .tmp 3]) (xs := [.os 0, .bool true]) idn [.os 0, .bool true] [(0, .row ty7 r2)] rfl (by exact ⟨rfl, rfl, trivial⟩) (by exact ⟨ad_ren rfl, ad_ren rfl, trivial⟩) (by exact ⟨⟨_, rfl, rfl⟩, trivial⟩) rfl (nk rfl) rfl rfl ⟨rfl, rfl⟩
theorem c_impl_total {x0 : dy8} {r : Int} (h : Is (p_impl_total x0) r) :
    Scalar Try.prog 75 [.v ty3 x0] (.int .i64 r) := by
  unfold p_impl_total at h
  refine ac_enter ⟨17, 0⟩ Try.func75 rfl rfl rfl rfl rfl (fun Γ => ?_)
  refine sl_len_m 0 (x0.length : Int) rfl rfl (fun hl0 => ?_)
  refine aw_seq ?_
  refine aw_region ?_
  refine ao_r (r_assign rfl) rfl ?_
  refine ao_nil ?_
  refine aq_then ?_
  refine aw_seq ?_
  refine aw_region ?_
  refine ao_r (r_assign rfl) rfl ?_
  refine ao_nil ?_
  refine aq_then ?_
  refine aw_seq ?_
  refine aw_seq ?_
  refine aw_region ?_
  refine ao_r (r_move rfl) rfl ?_
  refine ao_r (r_len_vm (x0.length : Int) Try.underlying24 rfl rfl) rfl ?_
  refine ao_r (r_move rfl) rfl ?_
  refine ao_nil ?_
  refine aq_then ?_
  refine aw_block ?_
  refine aw_loop (AL.sub (fr' := [(3, .int .i64 0), (6, .v ty3 x0), (7, .int .i64 (x0.length : Int)), (8, .int .i64 0)]) (H' := []) (sub_r1 idn (nk rfl) (by kernel_rfl)) (al_cnt (fun i2 (s1 : Int) => [(3, .int .i64 s1), (6, .v ty3 x0), (7, .int .i64 (x0.length : Int)), (8, .int .i64 i2)]) (fun i2 (s1 : Int) => []) (fun d i2 (s1 : Int) => d = Int.toNat ((x0.length : Int) - i2) ∧ 0 ≤ i2 ∧ i2 ≤ (x0.length : Int)) h ⟨rfl, (by (try simp only [List.length_set, List.length_append, List.length_cons, List.length_nil, List.length_replicate, List.length_take, List.length_drop]) <;> omega), (by (try simp only [List.length_set, List.length_append, List.length_cons, List.length_nil, List.length_replicate, List.length_take, List.length_drop]) <;> omega)⟩ (fun d3 i2 s1 hI h ih3 => ?_)))
  obtain ⟨hd, _, _⟩ := hI
  refine al_round ?_
  refine aw_seq ?_
  refine aw_region ?_
  refine ao_r (r_lss rfl rfl) rfl ?_
  refine ao_nil ?_
  refine aq_then ?_
  refine aw_seq ?_
  refine aw_cond rfl (fun hb5 => ?_) (fun hb5 => ?_)
  have q6 := d_t hb5
  obtain ⟨d3, rfl⟩ : ∃ e, d3 = e + 1 := ⟨d3 - 1, by omega⟩
  replace h := is_cntS h
  refine aw_skip ?_
  refine aq_then ?_
  refine aw_seq ?_
  refine aw_block ?_
  refine aw_seq ?_
  refine aw_region ?_
  refine ao_r (r_idxAddr_int Try.underlying24 Try.sizeOf3 rfl rfl (show 0 ≤ i2 from by omega) (show i2 < (x0.length : Int) from by omega)) rfl ?_
  refine ao_r (r_load_c_int Try.isAgg3 Try.sizeOf3 rfl) rfl ?_
  refine ao_r (r_assign rfl) rfl ?_
  refine ao_nil ?_
  refine aq_then ?_
  refine aw_region ?_
  refine ao_r (r_move rfl) rfl ?_
  refine ao_r (r_move rfl) rfl ?_
  refine ao_r (r_add rfl rfl) rfl ?_
  refine ao_r (r_assign rfl) rfl ?_
  refine ao_nil ?_
  refine aq_in ?_
  refine aq_then ?_
  refine aw_region ?_
  refine ao_r (r_addI rfl rfl (wrap_id (by omega) (by omega))) rfl ?_
  refine ao_r (r_move rfl) rfl ?_
  refine ao_nil ?_
  exact aq_again (AL.sub (sub_r1 idn (nk rfl) (by kernel_rfl)) (ih3 d3 (i2 + 1) (IntKind.wrap .i64 (s1 + (x0.getD i2.toNat 0))) (by omega) ⟨by omega, (by (try simp only [List.length_set, List.length_append, List.length_cons, List.length_nil, List.length_replicate, List.length_take, List.length_drop]) <;> omega), (by (try simp only [List.length_set, List.length_append, List.length_cons, List.length_nil, List.length_replicate, List.length_take, List.length_drop]) <;> omega)⟩ h))
  have q7 := d_f hb5
  obtain rfl : d3 = 0 := by omega
  replace h := is_cnt0 h
  refine aw_exit ?_
  refine aq_then_exit ?_
  refine aq_then_exit ?_
  refine aq_in_exit ?_
  refine aq_then ?_
  refine aw_seq ?_
  refine aw_region ?_
  refine ao_r (r_move rfl) rfl ?_
  refine ao_r (r_assign rfl) rfl ?_
  refine ao_nil ?_
  refine aq_then ?_
  refine aw_ret ?_
  refine aq_ret ?_
  obtain rfl := is_eq h
  exact aq_finx (l := [.tmp 2]) (xs := [.int .i64 s1]) idn [.int .i64 s1] [] rfl (by exact ⟨rfl, trivial⟩) (by exact ⟨ad_ren rfl, trivial⟩) (by exact trivial) rfl (nk rfl) rfl rfl ⟨rfl, rfl⟩
theorem c_impl_ties {fu : Nat} {x0 : dy6} {r : Int} (h : Is (p_impl_ties fu x0) (some r)) :
    Scalar Try.prog 53 [.v ty2 x0] (.int .i64 r) := by
  unfold p_impl_ties at h
  refine ac_enter ⟨10, 0⟩ Try.func53 rfl rfl rfl rfl rfl (fun Γ => ?_)
  refine sl_len_m 0 (x0.length : Int) rfl rfl (fun hl0 => ?_)
  refine aw_seq ?_
  refine aw_region ?_
  refine ao_r (r_assign rfl) rfl ?_
  refine ao_nil ?_
  refine aq_then ?_
  refine aw_seq ?_
  refine aw_region ?_
  refine ao_r (r_move rfl) rfl ?_
  refine ao_r (r_len_vm (x0.length : Int) Try.underlying26 rfl rfl) rfl ?_
  obtain ⟨r1, r1h, h⟩ := is_bind h
  refine ao_scall trivial (scall (c_impl_power (is_mk r1h)) rfl Try.func57 rfl rfl rfl rfl (fun σ => ⟨ad_ren rfl, trivial⟩)) rfl ?_
  refine ao_r (r_move rfl) rfl ?_
  obtain ⟨r2, r2h, h⟩ := is_bind h
  refine ao_call [] 0 trivial (c_impl_orderWays (is_mk r2h)) Try.func34 rfl rfl rfl rfl ⟨ad_ren rfl, trivial⟩ trivial rfl rfl rfl rfl rfl rfl rfl (fun r' H' hr => ?_)
  obtain ⟨rfl, rfl⟩ := hr
  refine ao_norm (y := .os 0) (H' := [(0, .row ty7 r2)]) rfl rfl ?_
  refine row_len_o 0 (r2.length : Int) rfl rfl (fun hr3 => ?_)
  refine ao_scall trivial (scall (c_impl_total (is_mk (rfl : p_impl_total r2 = _))) rfl Try.func75 rfl rfl rfl rfl (fun σ => ⟨ad_os0 rfl, trivial⟩)) rfl ?_
  refine ao_r (r_sub rfl rfl) rfl ?_
  refine ao_r (r_assign rfl) rfl ?_
  refine ao_nil ?_
  refine aq_then ?_
  refine aw_ret ?_
  refine aq_ret ?_
  obtain rfl := is_some h
  exact aq_finx (l := [.tmp 2]) (xs := [.int .i64 (IntKind.wrap .i64 (r1 - (p_impl_total r2)))]) idn [.int .i64 (IntKind.wrap .i64 (r1 - (p_impl_total r2)))] [] rfl (by exact ⟨rfl, trivial⟩) (by exact ⟨ad_ren rfl, trivial⟩) (by exact trivial) rfl (nk rfl) rfl rfl ⟨rfl, rfl⟩
theorem c_impl_TieWays {fu : Nat} {x0 : dy6} {r : Int × Bool} (h : Is (p_impl_TieWays fu x0) (some r)) :
    Scalar Try.prog 26 [.v ty2 x0] (.tup [.int .i64 r.1, .bool r.2]) := by
  unfold p_impl_TieWays at h
  refine ac_enter ⟨9, 0⟩ Try.func26 rfl rfl rfl rfl rfl (fun Γ => ?_)
  refine sl_len_m 0 (x0.length : Int) rfl rfl (fun hl0 => ?_)
  refine aw_seq ?_
  refine aw_region ?_
  refine ao_r (r_assign rfl) rfl ?_
  refine ao_r (r_assign rfl) rfl ?_
  refine ao_nil ?_
  refine aq_then ?_
  refine aw_seq ?_
  refine aw_seq ?_
  refine aw_region ?_
  refine ao_r (r_move rfl) rfl ?_
  refine ao_scall trivial (scall (c_impl_IsPool (is_mk (rfl : p_impl_IsPool x0 = _))) rfl Try.func41 rfl rfl rfl rfl (fun σ => ⟨ad_ren rfl, trivial⟩)) rfl ?_
  refine ao_r (r_not rfl) rfl ?_
  refine ao_nil ?_
  refine aq_then ?_
  refine aw_cond rfl (fun hb1 => ?_) (fun hb1 => ?_)
  replace h := is_else (ne_t (not_t hb1)) h
  refine aw_seq ?_
  refine aw_region ?_
  refine ao_r (r_assign rfl) rfl ?_
  refine ao_r (r_assign rfl) rfl ?_
  refine ao_nil ?_
  refine aq_then ?_
  refine aw_ret ?_
  refine aq_then_ret ?_
  refine aq_ret ?_
  obtain rfl := is_some h
  exact aq_finx (l := [.tmp 2, .tmp 3]) (xs := [.int .i64 0, .bool false]) idn [.int .i64 0, .bool false] [] rfl (by exact ⟨rfl, rfl, trivial⟩) (by exact ⟨ad_ren rfl, ad_ren rfl, trivial⟩) (by exact trivial) rfl (nk rfl) rfl rfl ⟨rfl, rfl⟩
  replace h := is_if (not_f hb1) h
  refine aw_skip ?_
  refine aq_then ?_
  refine aw_seq ?_
  refine aw_region ?_
  refine ao_r (r_move rfl) rfl ?_
  obtain ⟨r2, r2h, h⟩ := is_bind h
  refine ao_scall trivial (scall (c_impl_ties (is_mk r2h)) rfl Try.func53 rfl rfl rfl rfl (fun σ => ⟨ad_ren rfl, trivial⟩)) rfl ?_
  refine ao_r (r_assign rfl) rfl ?_
  refine ao_r (r_assign rfl) rfl ?_
  refine ao_nil ?_
  refine aq_then ?_
  refine aw_ret ?_
  refine aq_ret ?_
  obtain rfl := is_some h
  exact aq_finx (l := [.tmp 2, .tmp 3]) (xs := [.int .i64 r2, .bool true]) idn [.int .i64 r2, .bool true] [] rfl (by exact ⟨rfl, rfl, trivial⟩) (by exact ⟨ad_ren rfl, ad_ren rfl, trivial⟩) (by exact trivial) rfl (nk rfl) rfl rfl ⟨rfl, rfl⟩
theorem c_impl_OrdersOf {fu : Nat} {x0 : Int} {r : (List (dy8 × Unit)) × Bool} (h : Is (p_impl_OrdersOf fu x0) (some r)) :
    ACalls Try.prog 27 [.int .i64 x0] [] (fun r' H' => r' = .tup [.os 0, .bool r.2] ∧ H' = [(0, .row ty1 r.1)]) := by
  unfold p_impl_OrdersOf at h
  refine ac_enter ⟨9, 0⟩ Try.func27 rfl rfl rfl rfl rfl (fun Γ => ?_)
  refine aw_seq ?_
  refine aw_region ?_
  refine ao_r (r_assign rfl) rfl ?_
  refine ao_r (r_assign rfl) rfl ?_
  refine ao_nil ?_
  refine aq_then ?_
  refine aw_seq ?_
  refine aw_seq ?_
  refine aw_region ?_
  refine ao_r (r_move rfl) rfl ?_
  refine ao_scall trivial (scall (c_impl_within (is_mk (rfl : p_impl_within x0 1 4 = _))) rfl Try.func49 rfl rfl rfl rfl (fun σ => ⟨ad_ren rfl, ad_ren rfl, ad_ren rfl, trivial⟩)) rfl ?_
  refine ao_r (r_not rfl) rfl ?_
  refine ao_nil ?_
  refine aq_then ?_
  refine aw_cond rfl (fun hb1 => ?_) (fun hb1 => ?_)
  replace h := is_else (ne_t (not_t hb1)) h
  refine aw_seq ?_
  refine aw_region ?_
  refine ao_r (r_assign rfl) rfl ?_
  refine ao_r (r_assign rfl) rfl ?_
  refine ao_nil ?_
  refine aq_then ?_
  refine aw_ret ?_
  refine aq_then_ret ?_
  refine aq_ret ?_
  obtain rfl := is_some h
  refine AQ.sub (sub_nil (T := 2) (t := ty1) 0 rfl rfl rfl) ?_
  exact aq_finx (l := [.tmp 2, .tmp 3]) (xs := [.os 0, .bool false]) idn [.os 0, .bool false] [(0, .row ty1 ([] : (List (dy8 × Unit))))] rfl (by exact ⟨rfl, rfl, trivial⟩) (by exact ⟨ad_ren rfl, ad_ren rfl, trivial⟩) (by exact ⟨⟨_, rfl, rfl⟩, trivial⟩) rfl (nk rfl) rfl rfl ⟨rfl, rfl⟩
  replace h := is_if (not_f hb1) h
  refine aw_skip ?_
  refine aq_then ?_
  refine aw_seq ?_
  refine aw_region ?_
  refine ao_r (r_move rfl) rfl ?_
  obtain ⟨r2, r2h, h⟩ := is_bind h
  refine ao_call [] 0 trivial (c_impl_orders (is_mk r2h)) Try.func54 rfl rfl rfl rfl ⟨ad_ren rfl, trivial⟩ trivial rfl rfl rfl rfl rfl rfl rfl (fun r' H' hr => ?_)
  obtain ⟨rfl, rfl⟩ := hr
  refine ao_norm (y := .os 0) (H' := [(0, .row ty1 r2)]) rfl rfl ?_
  refine row_len_o 0 (r2.length : Int) rfl rfl (fun hr3 => ?_)
  refine ao_r (r_assign rfl) rfl ?_
  refine ao_r (r_assign rfl) rfl ?_
  refine ao_nil ?_
  refine aq_then ?_
  refine aw_ret ?_
  refine aq_ret ?_
  obtain rfl := is_some h
  exact aq_finx (l := [.tmp 2, .tmp 3]) (xs := [.os 0, .bool true]) idn [.os 0, .bool true] [(0, .row ty1 r2)] rfl (by exact ⟨rfl, rfl, trivial⟩) (by exact ⟨ad_ren rfl, ad_ren rfl, trivial⟩) (by exact ⟨⟨_, rfl, rfl⟩, trivial⟩) rfl (nk rfl) rfl rfl ⟨rfl, rfl⟩
theorem c_laws_FnLetters {fu : Nat} {x0 : dy8} {r : Bool} (h : Is (p_laws_FnLetters fu x0) (some r)) :
    Scalar Try.prog 3 [.v ty5 x0] (.bool r) := by
  unfold p_laws_FnLetters at h
  refine ac_enter ⟨446, 0⟩ Try.func3 rfl rfl rfl rfl rfl (fun Γ => ?_)
  refine sl_len_m 0 (x0.length : Int) rfl rfl (fun hl0 => ?_)
  refine aw_seq ?_
  refine aw_region ?_
  refine ao_r (r_assign rfl) rfl ?_
  refine ao_nil ?_
  refine aq_then ?_
  refine aw_seq ?_
  refine aw_seq ?_
  refine aw_region ?_
  refine ao_r (r_move rfl) rfl ?_
  refine ao_scall trivial (scall (c_laws_vBig (is_mk (rfl : p_laws_vBig x0 = _))) rfl Try.func4 rfl rfl rfl rfl (fun σ => ⟨ad_ren rfl, trivial⟩)) rfl ?_
  refine ao_nil ?_
  refine aq_then ?_
  refine aw_cond rfl (fun hb1 => ?_) (fun hb1 => ?_)
  replace h := is_if hb1 h
  refine aw_seq ?_
  refine aw_region ?_
  refine ao_r (r_assign rfl) rfl ?_
  refine ao_nil ?_
  refine aq_then ?_
  refine aw_ret ?_
  refine aq_then_ret ?_
  refine aq_ret ?_
  obtain rfl := is_some h
  exact aq_finx (l := [.tmp 2]) (xs := [.bool true]) idn [.bool true] [] rfl (by exact ⟨rfl, trivial⟩) (by exact ⟨ad_ren rfl, trivial⟩) (by exact trivial) rfl (nk rfl) rfl rfl ⟨rfl, rfl⟩
  replace h := is_else (ne_t hb1) h
  refine aw_skip ?_
  refine aq_then ?_
  refine aw_seq ?_
  refine aw_region ?_
  refine ao_r (r_move rfl) rfl ?_
  obtain ⟨r2, r2h, h⟩ := is_bind h
  refine ao_call [] 0 trivial (c_spec_DrawMendLetters (is_mk r2h)) Try.func5 rfl rfl rfl rfl ⟨ad_ren rfl, trivial⟩ trivial rfl rfl rfl rfl rfl rfl rfl (fun r' H' hr => ?_)
  obtain ⟨rfl, rfl⟩ := hr
  refine ao_norm (y := .os 0) (H' := [(0, .row ty7 r2)]) rfl rfl ?_
  refine row_len_o 0 (r2.length : Int) rfl rfl (fun hr3 => ?_)
  refine ao_r (r_assign rfl) rfl ?_
  refine ao_nil ?_
  refine aq_then ?_
  refine aw_seq ?_
  refine aw_region ?_
  refine ao_r (r_move rfl) rfl ?_
  obtain ⟨r4, r4h, h⟩ := is_bind h
  refine ao_call [] 1 trivial (c_impl_FromLetters (is_mk r4h)) Try.func6 rfl rfl rfl rfl ⟨ad_os0 rfl, trivial⟩ trivial rfl rfl rfl rfl rfl rfl rfl (fun r' H' hr => ?_)
  obtain ⟨rfl, rfl⟩ := hr
  refine ao_norm (y := .tup [.os 1, .bool r4.2]) (H' := [(0, .row ty7 r2), (1, .row ty4 r4.1)]) rfl rfl ?_
  refine row_len_o 1 (r4.1.length : Int) rfl rfl (fun hr5 => ?_)
  refine ao_r (r_move rfl) rfl ?_
  refine ao_r (r_extract rfl rfl) rfl ?_
  refine ao_r (r_extract rfl rfl) rfl ?_
  refine ao_r (r_assign rfl) rfl ?_
  refine ao_r (r_assign rfl) rfl ?_
  refine ao_nil ?_
  refine aq_then ?_
  refine aw_seq ?_
  refine aw_region ?_
  refine ao_r (r_move rfl) rfl ?_
  obtain ⟨r6, r6h, h⟩ := is_bind h
  refine ao_call [] 2 trivial (c_spec_FromLetters (is_mk r6h)) Try.func7 rfl rfl rfl rfl ⟨ad_os0 rfl, trivial⟩ trivial rfl rfl rfl rfl rfl rfl rfl (fun r' H' hr => ?_)
  obtain ⟨rfl, rfl⟩ := hr
  refine ao_norm (y := .tup [.os 2, .bool r6.2]) (H' := [(0, .row ty7 r2), (1, .row ty4 r4.1), (2, .row ty4 r6.1)]) rfl rfl ?_
  refine row_len_o 2 (r6.1.length : Int) rfl rfl (fun hr7 => ?_)
  refine ao_r (r_move rfl) rfl ?_
  refine ao_r (r_extract rfl rfl) rfl ?_
  refine ao_r (r_extract rfl rfl) rfl ?_
  refine ao_r (r_assign rfl) rfl ?_
  refine ao_r (r_assign rfl) rfl ?_
  refine ao_nil ?_
  refine aq_then ?_
  refine aw_seq ?_
  refine aw_region ?_
  refine ao_r (r_move rfl) rfl ?_
  obtain ⟨r8, r8h, h⟩ := is_bind h
  refine ao_call [] 3 trivial (c_impl_TurnLetters (is_mk r8h)) Try.func8 rfl rfl rfl rfl ⟨ad_os0 rfl, trivial⟩ trivial rfl rfl rfl rfl rfl rfl rfl (fun r' H' hr => ?_)
  obtain ⟨rfl, rfl⟩ := hr
  refine ao_norm (y := .tup [.os 3, .bool r8.2]) (H' := [(0, .row ty7 r2), (1, .row ty4 r4.1), (2, .row ty4 r6.1), (3, .row ty7 r8.1)]) rfl rfl ?_
  refine row_len_o 3 (r8.1.length : Int) rfl rfl (fun hr9 => ?_)
  refine ao_r (r_move rfl) rfl ?_
  refine ao_r (r_extract rfl rfl) rfl ?_
  refine ao_r (r_extract rfl rfl) rfl ?_
  refine ao_r (r_assign rfl) rfl ?_
  refine ao_r (r_assign rfl) rfl ?_
  refine ao_nil ?_
  refine aq_then ?_
  refine aw_seq ?_
  refine aw_region ?_
  refine ao_r (r_move rfl) rfl ?_
  obtain ⟨r10, r10h, h⟩ := is_bind h
  refine ao_call [] 4 trivial (c_spec_TurnLetters (is_mk r10h)) Try.func9 rfl rfl rfl rfl ⟨ad_os0 rfl, trivial⟩ trivial rfl rfl rfl rfl rfl rfl rfl (fun r' H' hr => ?_)
  obtain ⟨rfl, rfl⟩ := hr
  refine ao_norm (y := .tup [.os 4, .bool r10.2]) (H' := [(0, .row ty7 r2), (1, .row ty4 r4.1), (2, .row ty4 r6.1), (3, .row ty7 r8.1), (4, .row ty7 r10.1)]) rfl rfl ?_
  refine row_len_o 4 (r10.1.length : Int) rfl rfl (fun hr11 => ?_)
  refine ao_r (r_move rfl) rfl ?_
  refine ao_r (r_extract rfl rfl) rfl ?_
  refine ao_r (r_extract rfl rfl) rfl ?_
  refine ao_r (r_assign rfl) rfl ?_
  refine ao_r (r_assign rfl) rfl ?_
  refine ao_nil ?_
  refine aq_then ?_
  refine aw_seq ?_
  refine aw_region ?_
  refine ao_r (r_move rfl) rfl ?_
  obtain ⟨r12, r12h, h⟩ := is_bind h
  refine ao_call [] 5 trivial (c_impl_LettersWays (is_mk r12h)) Try.func10 rfl rfl rfl rfl ⟨ad_os0 rfl, trivial⟩ trivial rfl rfl rfl rfl rfl rfl rfl (fun r' H' hr => ?_)
  obtain ⟨rfl, rfl⟩ := hr
  refine ao_norm (y := .tup [.os 5, .bool r12.2]) (H' := [(0, .row ty7 r2), (1, .row ty4 r4.1), (2, .row ty4 r6.1), (3, .row ty7 r8.1), (4, .row ty7 r10.1), (5, .row ty7 r12.1)]) rfl rfl ?_
  refine row_len_o 5 (r12.1.length : Int) rfl rfl (fun hr13 => ?_)
  refine ao_r (r_move rfl) rfl ?_
  refine ao_r (r_extract rfl rfl) rfl ?_
  refine ao_r (r_extract rfl rfl) rfl ?_
  refine ao_r (r_assign rfl) rfl ?_
  refine ao_r (r_assign rfl) rfl ?_
  refine ao_nil ?_
  refine aq_then ?_
  refine aw_seq ?_
  refine aw_region ?_
  refine ao_r (r_move rfl) rfl ?_
  obtain ⟨r14, r14h, h⟩ := is_bind h
  refine ao_call [] 6 trivial (c_spec_LettersWays (is_mk r14h)) Try.func11 rfl rfl rfl rfl ⟨ad_os0 rfl, trivial⟩ trivial rfl rfl rfl rfl rfl rfl rfl (fun r' H' hr => ?_)
  obtain ⟨rfl, rfl⟩ := hr
  refine ao_norm (y := .tup [.os 6, .bool r14.2]) (H' := [(0, .row ty7 r2), (1, .row ty4 r4.1), (2, .row ty4 r6.1), (3, .row ty7 r8.1), (4, .row ty7 r10.1), (5, .row ty7 r12.1), (6, .row ty7 r14.1)]) rfl rfl ?_
  refine row_len_o 6 (r14.1.length : Int) rfl rfl (fun hr15 => ?_)
  refine ao_r (r_move rfl) rfl ?_
  refine ao_r (r_extract rfl rfl) rfl ?_
  refine ao_r (r_extract rfl rfl) rfl ?_
  refine ao_r (r_assign rfl) rfl ?_
  refine ao_r (r_assign rfl) rfl ?_
  refine ao_nil ?_
  refine aq_then ?_
  refine aw_seq ?_
  refine aw_region ?_
  refine ao_r (r_move rfl) rfl ?_
  obtain ⟨r16, r16h, h⟩ := is_bind h
  refine ao_call [] 7 trivial (c_impl_MendLetters (is_mk r16h)) Try.func12 rfl rfl rfl rfl ⟨ad_os0 rfl, trivial⟩ trivial rfl rfl rfl rfl rfl rfl rfl (fun r' H' hr => ?_)
  obtain ⟨rfl, rfl⟩ := hr
  refine ao_norm (y := .tup [.os 7, .int .i64 r16.2.1, .bool r16.2.2]) (H' := [(0, .row ty7 r2), (1, .row ty4 r4.1), (2, .row ty4 r6.1), (3, .row ty7 r8.1), (4, .row ty7 r10.1), (5, .row ty7 r12.1), (6, .row ty7 r14.1), (7, .row ty7 r16.1)]) rfl rfl ?_
  refine row_len_o 7 (r16.1.length : Int) rfl rfl (fun hr17 => ?_)
  refine ao_r (r_move rfl) rfl ?_
  refine ao_r (r_extract rfl rfl) rfl ?_
  refine ao_r (r_extract rfl rfl) rfl ?_
  refine ao_r (r_extract rfl rfl) rfl ?_
  refine ao_r (r_assign rfl) rfl ?_
  refine ao_r (r_assign rfl) rfl ?_
  refine ao_r (r_assign rfl) rfl ?_
  refine ao_nil ?_
  refine aq_then ?_
  refine aw_seq ?_
  refine aw_region ?_
  refine ao_r (r_move rfl) rfl ?_
  obtain ⟨r18, r18h, h⟩ := is_bind h
  refine ao_call [] 8 trivial (c_spec_MendLetters (is_mk r18h)) Try.func13 rfl rfl rfl rfl ⟨ad_os0 rfl, trivial⟩ trivial rfl rfl rfl rfl rfl rfl rfl (fun r' H' hr => ?_)
  obtain ⟨rfl, rfl⟩ := hr
  refine ao_norm (y := .tup [.os 8, .int .i64 r18.2.1, .bool r18.2.2]) (H' := [(0, .row ty7 r2), (1, .row ty4 r4.1), (2, .row ty4 r6.1), (3, .row ty7 r8.1), (4, .row ty7 r10.1), (5, .row ty7 r12.1), (6, .row ty7 r14.1), (7, .row ty7 r16.1), (8, .row ty7 r18.1)]) rfl rfl ?_
  refine row_len_o 8 (r18.1.length : Int) rfl rfl (fun hr19 => ?_)
  refine ao_r (r_move rfl) rfl ?_
  refine ao_r (r_extract rfl rfl) rfl ?_
  refine ao_r (r_extract rfl rfl) rfl ?_
  refine ao_r (r_extract rfl rfl) rfl ?_
  refine ao_r (r_assign rfl) rfl ?_
  refine ao_r (r_assign rfl) rfl ?_
  refine ao_r (r_assign rfl) rfl ?_
  refine ao_nil ?_
  refine aq_then ?_
  refine aw_seq ?_
  refine aw_region ?_
  refine ao_r (r_move rfl) rfl ?_
  obtain ⟨r20, r20h, h⟩ := is_bind h
  refine ao_call [] 9 trivial (c_laws_vCut (is_mk r20h)) Try.func15 rfl rfl rfl rfl ⟨ad_ren rfl, ad_ren rfl, trivial⟩ trivial rfl rfl rfl rfl rfl rfl rfl (fun r' H' hr => ?_)
  obtain ⟨rfl, rfl⟩ := hr
  refine ao_norm (y := .os 9) (H' := [(0, .row ty7 r2), (1, .row ty4 r4.1), (2, .row ty4 r6.1), (3, .row ty7 r8.1), (4, .row ty7 r10.1), (5, .row ty7 r12.1), (6, .row ty7 r14.1), (7, .row ty7 r16.1), (8, .row ty7 r18.1), (9, .row (.int .u8) r20)]) rfl rfl ?_
  refine row_len_o 9 (r20.length : Int) rfl rfl (fun hr21 => ?_)
  obtain ⟨r22, r22h, h⟩ := is_bind h
  refine ao_call [] 10 trivial (c_spec_DrawLettersOf (is_mk r22h)) Try.func14 rfl rfl rfl rfl ⟨ad_os0 rfl, trivial⟩ trivial rfl rfl rfl rfl rfl rfl rfl (fun r' H' hr => ?_)
  obtain ⟨rfl, rfl⟩ := hr
  refine ao_norm (y := .os 10) (H' := [(0, .row ty7 r2), (1, .row ty4 r4.1), (2, .row ty4 r6.1), (3, .row ty7 r8.1), (4, .row ty7 r10.1), (5, .row ty7 r12.1), (6, .row ty7 r14.1), (7, .row ty7 r16.1), (8, .row ty7 r18.1), (9, .row (.int .u8) r20), (10, .row ty4 r22)]) rfl rfl ?_
  refine row_len_o 10 (r22.length : Int) rfl rfl (fun hr23 => ?_)
  refine ao_r (r_assign rfl) rfl ?_
  refine ao_nil ?_
  refine aq_then ?_
  refine aw_seq ?_
  refine aw_region ?_
  refine ao_r (r_move rfl) rfl ?_
  obtain ⟨r24, r24h, h⟩ := is_bind h
  refine ao_call [] 11 trivial (c_impl_LettersOf (is_mk r24h)) Try.func16 rfl rfl rfl rfl ⟨ad_os0 rfl, trivial⟩ trivial rfl rfl rfl rfl rfl rfl rfl (fun r' H' hr => ?_)
  obtain ⟨rfl, rfl⟩ := hr
  refine ao_norm (y := .tup [.os 11, .bool r24.2]) (H' := [(0, .row ty7 r2), (1, .row ty4 r4.1), (2, .row ty4 r6.1), (3, .row ty7 r8.1), (4, .row ty7 r10.1), (5, .row ty7 r12.1), (6, .row ty7 r14.1), (7, .row ty7 r16.1), (8, .row ty7 r18.1), (9, .row (.int .u8) r20), (10, .row ty4 r22), (11, .row ty7 r24.1)]) rfl rfl ?_
  refine row_len_o 11 (r24.1.length : Int) rfl rfl (fun hr25 => ?_)
  refine ao_r (r_move rfl) rfl ?_
  refine ao_r (r_extract rfl rfl) rfl ?_
  refine ao_r (r_extract rfl rfl) rfl ?_
  refine ao_r (r_assign rfl) rfl ?_
  refine ao_r (r_assign rfl) rfl ?_
  refine ao_nil ?_
  refine aq_then ?_
  refine aw_seq ?_
  refine aw_region ?_
  refine ao_r (r_move rfl) rfl ?_
  obtain ⟨r26, r26h, h⟩ := is_bind h
  refine ao_call [] 12 trivial (c_spec_LettersOf (is_mk r26h)) Try.func17 rfl rfl rfl rfl ⟨ad_os0 rfl, trivial⟩ trivial rfl rfl rfl rfl rfl rfl rfl (fun r' H' hr => ?_)
  obtain ⟨rfl, rfl⟩ := hr
  refine ao_norm (y := .tup [.os 12, .bool r26.2]) (H' := [(0, .row ty7 r2), (1, .row ty4 r4.1), (2, .row ty4 r6.1), (3, .row ty7 r8.1), (4, .row ty7 r10.1), (5, .row ty7 r12.1), (6, .row ty7 r14.1), (7, .row ty7 r16.1), (8, .row ty7 r18.1), (9, .row (.int .u8) r20), (10, .row ty4 r22), (11, .row ty7 r24.1), (12, .row ty7 r26.1)]) rfl rfl ?_
  refine row_len_o 12 (r26.1.length : Int) rfl rfl (fun hr27 => ?_)
  refine ao_r (r_move rfl) rfl ?_
  refine ao_r (r_extract rfl rfl) rfl ?_
  refine ao_r (r_extract rfl rfl) rfl ?_
  refine ao_r (r_assign rfl) rfl ?_
  refine ao_r (r_assign rfl) rfl ?_
  refine ao_nil ?_
  refine aq_then ?_
  refine aw_seq ?_
  refine aw_region ?_
  refine ao_r (r_move rfl) rfl ?_
  obtain ⟨r28, r28h, h⟩ := is_bind h
  refine ao_scall trivial (scall (c_impl_IsTieless (is_mk r28h)) rfl Try.func18 rfl rfl rfl rfl (fun σ => ⟨ad_os0 rfl, trivial⟩)) rfl ?_
  refine ao_r (r_move rfl) rfl ?_
  refine ao_r (r_extract rfl rfl) rfl ?_
  refine ao_r (r_extract rfl rfl) rfl ?_
  refine ao_r (r_assign rfl) rfl ?_
  refine ao_r (r_assign rfl) rfl ?_
  refine ao_nil ?_
  refine aq_then ?_
  refine aw_seq ?_
  refine aw_region ?_
  refine ao_r (r_move rfl) rfl ?_
  obtain ⟨r29, r29h, h⟩ := is_bind h
  refine ao_scall trivial (scall (c_spec_IsTieless (is_mk r29h)) rfl Try.func19 rfl rfl rfl rfl (fun σ => ⟨ad_os0 rfl, trivial⟩)) rfl ?_
  refine ao_r (r_move rfl) rfl ?_
  refine ao_r (r_extract rfl rfl) rfl ?_
  refine ao_r (r_extract rfl rfl) rfl ?_
  refine ao_r (r_assign rfl) rfl ?_
  refine ao_r (r_assign rfl) rfl ?_
  refine ao_nil ?_
  refine aq_then ?_
  refine aw_seq ?_
  refine aw_region ?_
  refine ao_r (r_move rfl) rfl ?_
  obtain ⟨r30, r30h, h⟩ := is_bind h
  refine ao_call [] 13 trivial (c_laws_vCut (is_mk r30h)) Try.func15 rfl rfl rfl rfl ⟨ad_ren rfl, ad_ren rfl, trivial⟩ trivial rfl rfl rfl rfl rfl rfl rfl (fun r' H' hr => ?_)
  obtain ⟨rfl, rfl⟩ := hr
  refine ao_norm (y := .os 13) (H' := [(0, .row ty7 r2), (1, .row ty4 r4.1), (2, .row ty4 r6.1), (3, .row ty7 r8.1), (4, .row ty7 r10.1), (5, .row ty7 r12.1), (6, .row ty7 r14.1), (7, .row ty7 r16.1), (8, .row ty7 r18.1), (9, .row (.int .u8) r20), (10, .row ty4 r22), (11, .row ty7 r24.1), (12, .row ty7 r26.1), (13, .row (.int .u8) r30)]) rfl rfl ?_
  refine row_len_o 13 (r30.length : Int) rfl rfl (fun hr31 => ?_)
  obtain ⟨r32, r32h, h⟩ := is_bind h
  refine ao_scall trivial (scall (c_spec_DrawCountEven (is_mk r32h)) rfl Try.func20 rfl rfl rfl rfl (fun σ => ⟨ad_os0 rfl, trivial⟩)) rfl ?_
  refine ao_r (r_assign rfl) rfl ?_
  refine ao_nil ?_
  refine aq_then ?_
  refine aw_seq ?_
  refine aw_region ?_
  refine ao_r (r_move rfl) rfl ?_
  obtain ⟨r33, r33h, h⟩ := is_bind h
  refine ao_scall trivial (scall (c_impl_CountEven (is_mk r33h)) rfl Try.func21 rfl rfl rfl rfl (fun σ => ⟨ad_ren rfl, trivial⟩)) rfl ?_
  refine ao_r (r_move rfl) rfl ?_
  refine ao_r (r_extract rfl rfl) rfl ?_
  refine ao_r (r_extract rfl rfl) rfl ?_
  refine ao_r (r_assign rfl) rfl ?_
  refine ao_r (r_assign rfl) rfl ?_
  refine ao_nil ?_
  refine aq_then ?_
  refine aw_seq ?_
  refine aw_region ?_
  refine ao_r (r_move rfl) rfl ?_
  obtain ⟨r34, r34h, h⟩ := is_bind h
  refine ao_scall trivial (scall (c_spec_CountEven (is_mk r34h)) rfl Try.func22 rfl rfl rfl rfl (fun σ => ⟨ad_ren rfl, trivial⟩)) rfl ?_
  refine ao_r (r_move rfl) rfl ?_
  refine ao_r (r_extract rfl rfl) rfl ?_
  refine ao_r (r_extract rfl rfl) rfl ?_
  refine ao_r (r_assign rfl) rfl ?_
  refine ao_r (r_assign rfl) rfl ?_
  refine ao_nil ?_
  refine aq_then ?_
  refine aw_seq ?_
  refine aw_seq ?_
  refine aw_region ?_
  refine ao_r (r_move rfl) rfl ?_
  refine ao_r (r_move rfl) rfl ?_
  refine ao_r (r_neq_bool Try.underlying4 rfl rfl) rfl ?_
  refine ao_r (r_move rfl) rfl ?_
  refine ao_readG (x := .os 1) rfl (GV.F rfl) (fun hg35 => r_move rfl) rfl ?_
  refine ao_readG (x := .os 2) rfl (GV.F rfl) (fun hg36 => r_move rfl) rfl ?_
  refine ao_scallG (r := .bool (p_laws_vPools r4.1 r6.1)) rfl (GV.F rfl) (fun hg37 => SCall.strip 142 rfl (hg37) (SCall.strip 143 rfl (hg37) (scall (c_laws_vPools (is_mk (rfl : p_laws_vPools r4.1 r6.1 = _))) rfl Try.func23 rfl rfl rfl rfl (fun σ => ⟨ad_os0 rfl, ad_os0 rfl, trivial⟩)))) rfl ?_
  refine ao_readG (x := .bool (!(p_laws_vPools r4.1 r6.1))) rfl (GV.F rfl) (fun hg38 => Reads.strip 144 rfl (hg38) (r_not rfl)) rfl ?_
  refine ao_r (r_orB rfl rfl) rfl ?_
  refine ao_r (r_move rfl) rfl ?_
  refine ao_readG (x := .bool r8.2) rfl (GV.F rfl) (fun hg39 => by
        obtain ⟨q40, q41⟩ := or_f (not_t hg39)
        exact r_move rfl) rfl ?_
  refine ao_readG (x := .bool r10.2) rfl (GV.F rfl) (fun hg42 => by
        obtain ⟨q43, q44⟩ := or_f (not_t hg42)
        exact r_move rfl) rfl ?_
  refine ao_readG (x := .bool (r8.2 != r10.2)) rfl (GV.F rfl) (fun hg45 => by
        obtain ⟨q46, q47⟩ := or_f (not_t hg45)
        exact Reads.strip 148 rfl (hg45) (Reads.strip 149 rfl (hg45) (r_neq_bool Try.underlying4 rfl rfl))) rfl ?_
  refine ao_r (r_orB rfl rfl) rfl ?_
  refine ao_r (r_move rfl) rfl ?_
  refine ao_readG (x := .os 3) rfl (GV.F rfl) (fun hg48 => by
        obtain ⟨q49, q50⟩ := or_f (not_t hg48)
        obtain ⟨q51, q52⟩ := or_f q49
        exact r_move rfl) rfl ?_
  refine ao_readG (x := .os 4) rfl (GV.F rfl) (fun hg53 => by
        obtain ⟨q54, q55⟩ := or_f (not_t hg53)
        obtain ⟨q56, q57⟩ := or_f q54
        exact r_move rfl) rfl ?_
  refine ao_scallG (r := .bool (p_laws_vInts r8.1 r10.1)) rfl (GV.F rfl) (fun hg58 => by
        obtain ⟨q59, q60⟩ := or_f (not_t hg58)
        obtain ⟨q61, q62⟩ := or_f q59
        exact SCall.strip 153 rfl (hg58) (SCall.strip 154 rfl (hg58) (scall (c_laws_vInts (is_mk (rfl : p_laws_vInts r8.1 r10.1 = _))) rfl Try.func24 rfl rfl rfl rfl (fun σ => ⟨ad_os0 rfl, ad_os0 rfl, trivial⟩)))) rfl ?_
  refine ao_readG (x := .bool (!(p_laws_vInts r8.1 r10.1))) rfl (GV.F rfl) (fun hg63 => by
        obtain ⟨q64, q65⟩ := or_f (not_t hg63)
        obtain ⟨q66, q67⟩ := or_f q64
        exact Reads.strip 155 rfl (hg63) (r_not rfl)) rfl ?_
  refine ao_r (r_orB rfl rfl) rfl ?_
  refine ao_r (r_move rfl) rfl ?_
  refine ao_readG (x := .bool r12.2) rfl (GV.F rfl) (fun hg68 => by
        obtain ⟨q69, q70⟩ := or_f (not_t hg68)
        obtain ⟨q71, q72⟩ := or_f q69
        obtain ⟨q73, q74⟩ := or_f q71
        exact r_move rfl) rfl ?_
  refine ao_readG (x := .bool r14.2) rfl (GV.F rfl) (fun hg75 => by
        obtain ⟨q76, q77⟩ := or_f (not_t hg75)
        obtain ⟨q78, q79⟩ := or_f q76
        obtain ⟨q80, q81⟩ := or_f q78
        exact r_move rfl) rfl ?_
  refine ao_readG (x := .bool (r12.2 != r14.2)) rfl (GV.F rfl) (fun hg82 => by
        obtain ⟨q83, q84⟩ := or_f (not_t hg82)
        obtain ⟨q85, q86⟩ := or_f q83
        obtain ⟨q87, q88⟩ := or_f q85
        exact Reads.strip 159 rfl (hg82) (Reads.strip 160 rfl (hg82) (r_neq_bool Try.underlying4 rfl rfl))) rfl ?_
  refine ao_r (r_orB rfl rfl) rfl ?_
  refine ao_r (r_move rfl) rfl ?_
  refine ao_readG (x := .os 5) rfl (GV.F rfl) (fun hg89 => by
        obtain ⟨q90, q91⟩ := or_f (not_t hg89)
        obtain ⟨q92, q93⟩ := or_f q90
        obtain ⟨q94, q95⟩ := or_f q92
        obtain ⟨q96, q97⟩ := or_f q94
        exact r_move rfl) rfl ?_
  refine ao_readG (x := .os 6) rfl (GV.F rfl) (fun hg98 => by
        obtain ⟨q99, q100⟩ := or_f (not_t hg98)
        obtain ⟨q101, q102⟩ := or_f q99
        obtain ⟨q103, q104⟩ := or_f q101
        obtain ⟨q105, q106⟩ := or_f q103
        exact r_move rfl) rfl ?_
  refine ao_scallG (r := .bool (p_laws_vInts r12.1 r14.1)) rfl (GV.F rfl) (fun hg107 => by
        obtain ⟨q108, q109⟩ := or_f (not_t hg107)
        obtain ⟨q110, q111⟩ := or_f q108
        obtain ⟨q112, q113⟩ := or_f q110
        obtain ⟨q114, q115⟩ := or_f q112
        exact SCall.strip 164 rfl (hg107) (SCall.strip 165 rfl (hg107) (scall (c_laws_vInts (is_mk (rfl : p_laws_vInts r12.1 r14.1 = _))) rfl Try.func24 rfl rfl rfl rfl (fun σ => ⟨ad_os0 rfl, ad_os0 rfl, trivial⟩)))) rfl ?_
  refine ao_readG (x := .bool (!(p_laws_vInts r12.1 r14.1))) rfl (GV.F rfl) (fun hg116 => by
        obtain ⟨q117, q118⟩ := or_f (not_t hg116)
        obtain ⟨q119, q120⟩ := or_f q117
        obtain ⟨q121, q122⟩ := or_f q119
        obtain ⟨q123, q124⟩ := or_f q121
        exact Reads.strip 166 rfl (hg116) (r_not rfl)) rfl ?_
  refine ao_r (r_orB rfl rfl) rfl ?_
  refine ao_r (r_move rfl) rfl ?_
  refine ao_readG (x := .bool r16.2.2) rfl (GV.F rfl) (fun hg125 => by
        obtain ⟨q126, q127⟩ := or_f (not_t hg125)
        obtain ⟨q128, q129⟩ := or_f q126
        obtain ⟨q130, q131⟩ := or_f q128
        obtain ⟨q132, q133⟩ := or_f q130
        obtain ⟨q134, q135⟩ := or_f q132
        exact r_move rfl) rfl ?_
  refine ao_readG (x := .bool r18.2.2) rfl (GV.F rfl) (fun hg136 => by
        obtain ⟨q137, q138⟩ := or_f (not_t hg136)
        obtain ⟨q139, q140⟩ := or_f q137
        obtain ⟨q141, q142⟩ := or_f q139
        obtain ⟨q143, q144⟩ := or_f q141
        obtain ⟨q145, q146⟩ := or_f q143
        exact r_move rfl) rfl ?_
  refine ao_readG (x := .bool (r16.2.2 != r18.2.2)) rfl (GV.F rfl) (fun hg147 => by
        obtain ⟨q148, q149⟩ := or_f (not_t hg147)
        obtain ⟨q150, q151⟩ := or_f q148
        obtain ⟨q152, q153⟩ := or_f q150
        obtain ⟨q154, q155⟩ := or_f q152
        obtain ⟨q156, q157⟩ := or_f q154
        exact Reads.strip 170 rfl (hg147) (Reads.strip 171 rfl (hg147) (r_neq_bool Try.underlying4 rfl rfl))) rfl ?_
  refine ao_r (r_orB rfl rfl) rfl ?_
  refine ao_r (r_move rfl) rfl ?_
  refine ao_readG (x := .os 7) rfl (GV.F rfl) (fun hg158 => by
        obtain ⟨q159, q160⟩ := or_f (not_t hg158)
        obtain ⟨q161, q162⟩ := or_f q159
        obtain ⟨q163, q164⟩ := or_f q161
        obtain ⟨q165, q166⟩ := or_f q163
        obtain ⟨q167, q168⟩ := or_f q165
        obtain ⟨q169, q170⟩ := or_f q167
        exact r_move rfl) rfl ?_
  refine ao_readG (x := .os 8) rfl (GV.F rfl) (fun hg171 => by
        obtain ⟨q172, q173⟩ := or_f (not_t hg171)
        obtain ⟨q174, q175⟩ := or_f q172
        obtain ⟨q176, q177⟩ := or_f q174
        obtain ⟨q178, q179⟩ := or_f q176
        obtain ⟨q180, q181⟩ := or_f q178
        obtain ⟨q182, q183⟩ := or_f q180
        exact r_move rfl) rfl ?_
  refine ao_scallG (r := .bool (p_laws_vInts r16.1 r18.1)) rfl (GV.F rfl) (fun hg184 => by
        obtain ⟨q185, q186⟩ := or_f (not_t hg184)
        obtain ⟨q187, q188⟩ := or_f q185
        obtain ⟨q189, q190⟩ := or_f q187
        obtain ⟨q191, q192⟩ := or_f q189
        obtain ⟨q193, q194⟩ := or_f q191
        obtain ⟨q195, q196⟩ := or_f q193
        exact SCall.strip 175 rfl (hg184) (SCall.strip 176 rfl (hg184) (scall (c_laws_vInts (is_mk (rfl : p_laws_vInts r16.1 r18.1 = _))) rfl Try.func24 rfl rfl rfl rfl (fun σ => ⟨ad_os0 rfl, ad_os0 rfl, trivial⟩)))) rfl ?_
  refine ao_readG (x := .bool (!(p_laws_vInts r16.1 r18.1))) rfl (GV.F rfl) (fun hg197 => by
        obtain ⟨q198, q199⟩ := or_f (not_t hg197)
        obtain ⟨q200, q201⟩ := or_f q198
        obtain ⟨q202, q203⟩ := or_f q200
        obtain ⟨q204, q205⟩ := or_f q202
        obtain ⟨q206, q207⟩ := or_f q204
        obtain ⟨q208, q209⟩ := or_f q206
        exact Reads.strip 177 rfl (hg197) (r_not rfl)) rfl ?_
  refine ao_r (r_orB rfl rfl) rfl ?_
  refine ao_r (r_move rfl) rfl ?_
  refine ao_readG (x := .int .i64 r16.2.1) rfl (GV.F rfl) (fun hg210 => by
        obtain ⟨q211, q212⟩ := or_f (not_t hg210)
        obtain ⟨q213, q214⟩ := or_f q211
        obtain ⟨q215, q216⟩ := or_f q213
        obtain ⟨q217, q218⟩ := or_f q215
        obtain ⟨q219, q220⟩ := or_f q217
        obtain ⟨q221, q222⟩ := or_f q219
        obtain ⟨q223, q224⟩ := or_f q221
        exact r_move rfl) rfl ?_
  refine ao_readG (x := .int .i64 r18.2.1) rfl (GV.F rfl) (fun hg225 => by
        obtain ⟨q226, q227⟩ := or_f (not_t hg225)
        obtain ⟨q228, q229⟩ := or_f q226
        obtain ⟨q230, q231⟩ := or_f q228
        obtain ⟨q232, q233⟩ := or_f q230
        obtain ⟨q234, q235⟩ := or_f q232
        obtain ⟨q236, q237⟩ := or_f q234
        obtain ⟨q238, q239⟩ := or_f q236
        exact r_move rfl) rfl ?_
  refine ao_readG (x := .bool (!(decide (r16.2.1 = r18.2.1)))) rfl (GV.F rfl) (fun hg240 => by
        obtain ⟨q241, q242⟩ := or_f (not_t hg240)
        obtain ⟨q243, q244⟩ := or_f q241
        obtain ⟨q245, q246⟩ := or_f q243
        obtain ⟨q247, q248⟩ := or_f q245
        obtain ⟨q249, q250⟩ := or_f q247
        obtain ⟨q251, q252⟩ := or_f q249
        obtain ⟨q253, q254⟩ := or_f q251
        exact Reads.strip 181 rfl (hg240) (Reads.strip 182 rfl (hg240) (r_neq rfl rfl))) rfl ?_
  refine ao_r (r_orB rfl rfl) rfl ?_
  refine ao_r (r_move rfl) rfl ?_
  refine ao_readG (x := .bool r24.2) rfl (GV.F rfl) (fun hg255 => by
        obtain ⟨q256, q257⟩ := or_f (not_t hg255)
        obtain ⟨q258, q259⟩ := or_f q256
        obtain ⟨q260, q261⟩ := or_f q258
        obtain ⟨q262, q263⟩ := or_f q260
        obtain ⟨q264, q265⟩ := or_f q262
        obtain ⟨q266, q267⟩ := or_f q264
        obtain ⟨q268, q269⟩ := or_f q266
        obtain ⟨q270, q271⟩ := or_f q268
        have q272 := d_t (not_f q257)
        exact r_move rfl) rfl ?_
  refine ao_readG (x := .bool r26.2) rfl (GV.F rfl) (fun hg273 => by
        obtain ⟨q274, q275⟩ := or_f (not_t hg273)
        obtain ⟨q276, q277⟩ := or_f q274
        obtain ⟨q278, q279⟩ := or_f q276
        obtain ⟨q280, q281⟩ := or_f q278
        obtain ⟨q282, q283⟩ := or_f q280
        obtain ⟨q284, q285⟩ := or_f q282
        obtain ⟨q286, q287⟩ := or_f q284
        obtain ⟨q288, q289⟩ := or_f q286
        have q290 := d_t (not_f q275)
        exact r_move rfl) rfl ?_
  refine ao_readG (x := .bool (r24.2 != r26.2)) rfl (GV.F rfl) (fun hg291 => by
        obtain ⟨q292, q293⟩ := or_f (not_t hg291)
        obtain ⟨q294, q295⟩ := or_f q292
        obtain ⟨q296, q297⟩ := or_f q294
        obtain ⟨q298, q299⟩ := or_f q296
        obtain ⟨q300, q301⟩ := or_f q298
        obtain ⟨q302, q303⟩ := or_f q300
        obtain ⟨q304, q305⟩ := or_f q302
        obtain ⟨q306, q307⟩ := or_f q304
        have q308 := d_t (not_f q293)
        exact Reads.strip 186 rfl (hg291) (Reads.strip 187 rfl (hg291) (r_neq_bool Try.underlying4 rfl rfl))) rfl ?_
  refine ao_r (r_orB rfl rfl) rfl ?_
  refine ao_r (r_move rfl) rfl ?_
  refine ao_readG (x := .os 11) rfl (GV.F rfl) (fun hg309 => by
        obtain ⟨q310, q311⟩ := or_f (not_t hg309)
        obtain ⟨q312, q313⟩ := or_f q310
        obtain ⟨q314, q315⟩ := or_f q312
        obtain ⟨q316, q317⟩ := or_f q314
        obtain ⟨q318, q319⟩ := or_f q316
        obtain ⟨q320, q321⟩ := or_f q318
        obtain ⟨q322, q323⟩ := or_f q320
        obtain ⟨q324, q325⟩ := or_f q322
        obtain ⟨q326, q327⟩ := or_f q324
        have q328 := d_t (not_f q313)
        exact r_move rfl) rfl ?_
  refine ao_readG (x := .os 12) rfl (GV.F rfl) (fun hg329 => by
        obtain ⟨q330, q331⟩ := or_f (not_t hg329)
        obtain ⟨q332, q333⟩ := or_f q330
        obtain ⟨q334, q335⟩ := or_f q332
        obtain ⟨q336, q337⟩ := or_f q334
        obtain ⟨q338, q339⟩ := or_f q336
        obtain ⟨q340, q341⟩ := or_f q338
        obtain ⟨q342, q343⟩ := or_f q340
        obtain ⟨q344, q345⟩ := or_f q342
        obtain ⟨q346, q347⟩ := or_f q344
        have q348 := d_t (not_f q333)
        exact r_move rfl) rfl ?_
  refine ao_scallG (r := .bool (p_laws_vInts r24.1 r26.1)) rfl (GV.F rfl) (fun hg349 => by
        obtain ⟨q350, q351⟩ := or_f (not_t hg349)
        obtain ⟨q352, q353⟩ := or_f q350
        obtain ⟨q354, q355⟩ := or_f q352
        obtain ⟨q356, q357⟩ := or_f q354
        obtain ⟨q358, q359⟩ := or_f q356
        obtain ⟨q360, q361⟩ := or_f q358
        obtain ⟨q362, q363⟩ := or_f q360
        obtain ⟨q364, q365⟩ := or_f q362
        obtain ⟨q366, q367⟩ := or_f q364
        have q368 := d_t (not_f q353)
        exact SCall.strip 191 rfl (hg349) (SCall.strip 192 rfl (hg349) (scall (c_laws_vInts (is_mk (rfl : p_laws_vInts r24.1 r26.1 = _))) rfl Try.func24 rfl rfl rfl rfl (fun σ => ⟨ad_os0 rfl, ad_os0 rfl, trivial⟩)))) rfl ?_
  refine ao_readG (x := .bool (!(p_laws_vInts r24.1 r26.1))) rfl (GV.F rfl) (fun hg369 => by
        obtain ⟨q370, q371⟩ := or_f (not_t hg369)
        obtain ⟨q372, q373⟩ := or_f q370
        obtain ⟨q374, q375⟩ := or_f q372
        obtain ⟨q376, q377⟩ := or_f q374
        obtain ⟨q378, q379⟩ := or_f q376
        obtain ⟨q380, q381⟩ := or_f q378
        obtain ⟨q382, q383⟩ := or_f q380
        obtain ⟨q384, q385⟩ := or_f q382
        obtain ⟨q386, q387⟩ := or_f q384
        have q388 := d_t (not_f q373)
        exact Reads.strip 193 rfl (hg369) (r_not rfl)) rfl ?_
  refine ao_r (r_orB rfl rfl) rfl ?_
  refine ao_r (r_move rfl) rfl ?_
  refine ao_readG (x := .bool r28.1) rfl (GV.F rfl) (fun hg389 => by
        obtain ⟨q390, q391⟩ := or_f (not_t hg389)
        obtain ⟨q392, q393⟩ := or_f q390
        obtain ⟨q394, q395⟩ := or_f q392
        obtain ⟨q396, q397⟩ := or_f q394
        obtain ⟨q398, q399⟩ := or_f q396
        obtain ⟨q400, q401⟩ := or_f q398
        obtain ⟨q402, q403⟩ := or_f q400
        obtain ⟨q404, q405⟩ := or_f q402
        obtain ⟨q406, q407⟩ := or_f q404
        obtain ⟨q408, q409⟩ := or_f q406
        have q410 := d_t (not_f q395)
        exact r_move rfl) rfl ?_
  refine ao_readG (x := .bool r29.1) rfl (GV.F rfl) (fun hg411 => by
        obtain ⟨q412, q413⟩ := or_f (not_t hg411)
        obtain ⟨q414, q415⟩ := or_f q412
        obtain ⟨q416, q417⟩ := or_f q414
        obtain ⟨q418, q419⟩ := or_f q416
        obtain ⟨q420, q421⟩ := or_f q418
        obtain ⟨q422, q423⟩ := or_f q420
        obtain ⟨q424, q425⟩ := or_f q422
        obtain ⟨q426, q427⟩ := or_f q424
        obtain ⟨q428, q429⟩ := or_f q426
        obtain ⟨q430, q431⟩ := or_f q428
        have q432 := d_t (not_f q417)
        exact r_move rfl) rfl ?_
  refine ao_readG (x := .bool (r28.1 != r29.1)) rfl (GV.F rfl) (fun hg433 => by
        obtain ⟨q434, q435⟩ := or_f (not_t hg433)
        obtain ⟨q436, q437⟩ := or_f q434
        obtain ⟨q438, q439⟩ := or_f q436
        obtain ⟨q440, q441⟩ := or_f q438
        obtain ⟨q442, q443⟩ := or_f q440
        obtain ⟨q444, q445⟩ := or_f q442
        obtain ⟨q446, q447⟩ := or_f q444
        obtain ⟨q448, q449⟩ := or_f q446
        obtain ⟨q450, q451⟩ := or_f q448
        obtain ⟨q452, q453⟩ := or_f q450
        have q454 := d_t (not_f q439)
        exact Reads.strip 197 rfl (hg433) (Reads.strip 198 rfl (hg433) (r_neq_bool Try.underlying4 rfl rfl))) rfl ?_
  refine ao_r (r_orB rfl rfl) rfl ?_
  refine ao_r (r_move rfl) rfl ?_
  refine ao_readG (x := .bool r28.2) rfl (GV.F rfl) (fun hg455 => by
        obtain ⟨q456, q457⟩ := or_f (not_t hg455)
        obtain ⟨q458, q459⟩ := or_f q456
        obtain ⟨q460, q461⟩ := or_f q458
        obtain ⟨q462, q463⟩ := or_f q460
        obtain ⟨q464, q465⟩ := or_f q462
        obtain ⟨q466, q467⟩ := or_f q464
        obtain ⟨q468, q469⟩ := or_f q466
        obtain ⟨q470, q471⟩ := or_f q468
        obtain ⟨q472, q473⟩ := or_f q470
        obtain ⟨q474, q475⟩ := or_f q472
        obtain ⟨q476, q477⟩ := or_f q474
        have q478 := d_t (not_f q463)
        exact r_move rfl) rfl ?_
  refine ao_readG (x := .bool r29.2) rfl (GV.F rfl) (fun hg479 => by
        obtain ⟨q480, q481⟩ := or_f (not_t hg479)
        obtain ⟨q482, q483⟩ := or_f q480
        obtain ⟨q484, q485⟩ := or_f q482
        obtain ⟨q486, q487⟩ := or_f q484
        obtain ⟨q488, q489⟩ := or_f q486
        obtain ⟨q490, q491⟩ := or_f q488
        obtain ⟨q492, q493⟩ := or_f q490
        obtain ⟨q494, q495⟩ := or_f q492
        obtain ⟨q496, q497⟩ := or_f q494
        obtain ⟨q498, q499⟩ := or_f q496
        obtain ⟨q500, q501⟩ := or_f q498
        have q502 := d_t (not_f q487)
        exact r_move rfl) rfl ?_
  refine ao_readG (x := .bool (r28.2 != r29.2)) rfl (GV.F rfl) (fun hg503 => by
        obtain ⟨q504, q505⟩ := or_f (not_t hg503)
        obtain ⟨q506, q507⟩ := or_f q504
        obtain ⟨q508, q509⟩ := or_f q506
        obtain ⟨q510, q511⟩ := or_f q508
        obtain ⟨q512, q513⟩ := or_f q510
        obtain ⟨q514, q515⟩ := or_f q512
        obtain ⟨q516, q517⟩ := or_f q514
        obtain ⟨q518, q519⟩ := or_f q516
        obtain ⟨q520, q521⟩ := or_f q518
        obtain ⟨q522, q523⟩ := or_f q520
        obtain ⟨q524, q525⟩ := or_f q522
        have q526 := d_t (not_f q511)
        exact Reads.strip 202 rfl (hg503) (Reads.strip 203 rfl (hg503) (r_neq_bool Try.underlying4 rfl rfl))) rfl ?_
  refine ao_r (r_orB rfl rfl) rfl ?_
  refine ao_r (r_move rfl) rfl ?_
  refine ao_readG (x := .int .i64 r33.1) rfl (GV.F rfl) (fun hg527 => by
        obtain ⟨q528, q529⟩ := or_f (not_t hg527)
        obtain ⟨q530, q531⟩ := or_f q528
        obtain ⟨q532, q533⟩ := or_f q530
        obtain ⟨q534, q535⟩ := or_f q532
        obtain ⟨q536, q537⟩ := or_f q534
        obtain ⟨q538, q539⟩ := or_f q536
        obtain ⟨q540, q541⟩ := or_f q538
        obtain ⟨q542, q543⟩ := or_f q540
        obtain ⟨q544, q545⟩ := or_f q542
        obtain ⟨q546, q547⟩ := or_f q544
        obtain ⟨q548, q549⟩ := or_f q546
        obtain ⟨q550, q551⟩ := or_f q548
        have q552 := d_t (not_f q537)
        exact r_move rfl) rfl ?_
  refine ao_readG (x := .int .i64 r34.1) rfl (GV.F rfl) (fun hg553 => by
        obtain ⟨q554, q555⟩ := or_f (not_t hg553)
        obtain ⟨q556, q557⟩ := or_f q554
        obtain ⟨q558, q559⟩ := or_f q556
        obtain ⟨q560, q561⟩ := or_f q558
        obtain ⟨q562, q563⟩ := or_f q560
        obtain ⟨q564, q565⟩ := or_f q562
        obtain ⟨q566, q567⟩ := or_f q564
        obtain ⟨q568, q569⟩ := or_f q566
        obtain ⟨q570, q571⟩ := or_f q568
        obtain ⟨q572, q573⟩ := or_f q570
        obtain ⟨q574, q575⟩ := or_f q572
        obtain ⟨q576, q577⟩ := or_f q574
        have q578 := d_t (not_f q563)
        exact r_move rfl) rfl ?_
  refine ao_readG (x := .bool (!(decide (r33.1 = r34.1)))) rfl (GV.F rfl) (fun hg579 => by
        obtain ⟨q580, q581⟩ := or_f (not_t hg579)
        obtain ⟨q582, q583⟩ := or_f q580
        obtain ⟨q584, q585⟩ := or_f q582
        obtain ⟨q586, q587⟩ := or_f q584
        obtain ⟨q588, q589⟩ := or_f q586
        obtain ⟨q590, q591⟩ := or_f q588
        obtain ⟨q592, q593⟩ := or_f q590
        obtain ⟨q594, q595⟩ := or_f q592
        obtain ⟨q596, q597⟩ := or_f q594
        obtain ⟨q598, q599⟩ := or_f q596
        obtain ⟨q600, q601⟩ := or_f q598
        obtain ⟨q602, q603⟩ := or_f q600
        have q604 := d_t (not_f q589)
        exact Reads.strip 207 rfl (hg579) (Reads.strip 208 rfl (hg579) (r_neq rfl rfl))) rfl ?_
  refine ao_r (r_orB rfl rfl) rfl ?_
  refine ao_r (r_move rfl) rfl ?_
  refine ao_readG (x := .bool r33.2) rfl (GV.F rfl) (fun hg605 => by
        obtain ⟨q606, q607⟩ := or_f (not_t hg605)
        obtain ⟨q608, q609⟩ := or_f q606
        obtain ⟨q610, q611⟩ := or_f q608
        obtain ⟨q612, q613⟩ := or_f q610
        obtain ⟨q614, q615⟩ := or_f q612
        obtain ⟨q616, q617⟩ := or_f q614
        obtain ⟨q618, q619⟩ := or_f q616
        obtain ⟨q620, q621⟩ := or_f q618
        obtain ⟨q622, q623⟩ := or_f q620
        obtain ⟨q624, q625⟩ := or_f q622
        obtain ⟨q626, q627⟩ := or_f q624
        obtain ⟨q628, q629⟩ := or_f q626
        obtain ⟨q630, q631⟩ := or_f q628
        have q632 := d_t (not_f q617)
        have q633 := d_t (not_f q607)
        exact r_move rfl) rfl ?_
  refine ao_readG (x := .bool r34.2) rfl (GV.F rfl) (fun hg634 => by
        obtain ⟨q635, q636⟩ := or_f (not_t hg634)
        obtain ⟨q637, q638⟩ := or_f q635
        obtain ⟨q639, q640⟩ := or_f q637
        obtain ⟨q641, q642⟩ := or_f q639
        obtain ⟨q643, q644⟩ := or_f q641
        obtain ⟨q645, q646⟩ := or_f q643
        obtain ⟨q647, q648⟩ := or_f q645
        obtain ⟨q649, q650⟩ := or_f q647
        obtain ⟨q651, q652⟩ := or_f q649
        obtain ⟨q653, q654⟩ := or_f q651
        obtain ⟨q655, q656⟩ := or_f q653
        obtain ⟨q657, q658⟩ := or_f q655
        obtain ⟨q659, q660⟩ := or_f q657
        have q661 := d_t (not_f q646)
        have q662 := d_t (not_f q636)
        exact r_move rfl) rfl ?_
  refine ao_readG (x := .bool (r33.2 != r34.2)) rfl (GV.F rfl) (fun hg663 => by
        obtain ⟨q664, q665⟩ := or_f (not_t hg663)
        obtain ⟨q666, q667⟩ := or_f q664
        obtain ⟨q668, q669⟩ := or_f q666
        obtain ⟨q670, q671⟩ := or_f q668
        obtain ⟨q672, q673⟩ := or_f q670
        obtain ⟨q674, q675⟩ := or_f q672
        obtain ⟨q676, q677⟩ := or_f q674
        obtain ⟨q678, q679⟩ := or_f q676
        obtain ⟨q680, q681⟩ := or_f q678
        obtain ⟨q682, q683⟩ := or_f q680
        obtain ⟨q684, q685⟩ := or_f q682
        obtain ⟨q686, q687⟩ := or_f q684
        obtain ⟨q688, q689⟩ := or_f q686
        have q690 := d_t (not_f q675)
        have q691 := d_t (not_f q665)
        exact Reads.strip 212 rfl (hg663) (Reads.strip 213 rfl (hg663) (r_neq_bool Try.underlying4 rfl rfl))) rfl ?_
  refine ao_r (r_orB rfl rfl) rfl ?_
  refine ao_r (r_move rfl) rfl ?_
  refine ao_readG (x := .bool r4.2) rfl (GV.F rfl) (fun hg692 => by
        obtain ⟨q693, q694⟩ := or_f (not_t hg692)
        obtain ⟨q695, q696⟩ := or_f q693
        obtain ⟨q697, q698⟩ := or_f q695
        obtain ⟨q699, q700⟩ := or_f q697
        obtain ⟨q701, q702⟩ := or_f q699
        obtain ⟨q703, q704⟩ := or_f q701
        obtain ⟨q705, q706⟩ := or_f q703
        obtain ⟨q707, q708⟩ := or_f q705
        obtain ⟨q709, q710⟩ := or_f q707
        obtain ⟨q711, q712⟩ := or_f q709
        obtain ⟨q713, q714⟩ := or_f q711
        obtain ⟨q715, q716⟩ := or_f q713
        obtain ⟨q717, q718⟩ := or_f q715
        obtain ⟨q719, q720⟩ := or_f q717
        have q721 := d_t (not_f q706)
        have q722 := d_t (not_f q696)
        exact r_move rfl) rfl ?_
  refine ao_readG (x := .bool r8.2) rfl (GV.F rfl) (fun hg723 => by
        obtain ⟨q724, q725⟩ := or_f (not_t hg723)
        obtain ⟨q726, q727⟩ := or_f q724
        obtain ⟨q728, q729⟩ := or_f q726
        obtain ⟨q730, q731⟩ := or_f q728
        obtain ⟨q732, q733⟩ := or_f q730
        obtain ⟨q734, q735⟩ := or_f q732
        obtain ⟨q736, q737⟩ := or_f q734
        obtain ⟨q738, q739⟩ := or_f q736
        obtain ⟨q740, q741⟩ := or_f q738
        obtain ⟨q742, q743⟩ := or_f q740
        obtain ⟨q744, q745⟩ := or_f q742
        obtain ⟨q746, q747⟩ := or_f q744
        obtain ⟨q748, q749⟩ := or_f q746
        obtain ⟨q750, q751⟩ := or_f q748
        have q752 := d_t (not_f q737)
        have q753 := d_t (not_f q727)
        exact r_move rfl) rfl ?_
  refine ao_readG (x := .bool (r4.2 != r8.2)) rfl (GV.F rfl) (fun hg754 => by
        obtain ⟨q755, q756⟩ := or_f (not_t hg754)
        obtain ⟨q757, q758⟩ := or_f q755
        obtain ⟨q759, q760⟩ := or_f q757
        obtain ⟨q761, q762⟩ := or_f q759
        obtain ⟨q763, q764⟩ := or_f q761
        obtain ⟨q765, q766⟩ := or_f q763
        obtain ⟨q767, q768⟩ := or_f q765
        obtain ⟨q769, q770⟩ := or_f q767
        obtain ⟨q771, q772⟩ := or_f q769
        obtain ⟨q773, q774⟩ := or_f q771
        obtain ⟨q775, q776⟩ := or_f q773
        obtain ⟨q777, q778⟩ := or_f q775
        obtain ⟨q779, q780⟩ := or_f q777
        obtain ⟨q781, q782⟩ := or_f q779
        have q783 := d_t (not_f q768)
        have q784 := d_t (not_f q758)
        exact Reads.strip 217 rfl (hg754) (Reads.strip 218 rfl (hg754) (r_neq_bool Try.underlying4 rfl rfl))) rfl ?_
  refine ao_r (r_orB rfl rfl) rfl ?_
  refine ao_r (r_move rfl) rfl ?_
  refine ao_readG (x := .bool r4.2) rfl (GV.F rfl) (fun hg785 => by
        obtain ⟨q786, q787⟩ := or_f (not_t hg785)
        obtain ⟨q788, q789⟩ := or_f q786
        obtain ⟨q790, q791⟩ := or_f q788
        obtain ⟨q792, q793⟩ := or_f q790
        obtain ⟨q794, q795⟩ := or_f q792
        obtain ⟨q796, q797⟩ := or_f q794
        obtain ⟨q798, q799⟩ := or_f q796
        obtain ⟨q800, q801⟩ := or_f q798
        obtain ⟨q802, q803⟩ := or_f q800
        obtain ⟨q804, q805⟩ := or_f q802
        obtain ⟨q806, q807⟩ := or_f q804
        obtain ⟨q808, q809⟩ := or_f q806
        obtain ⟨q810, q811⟩ := or_f q808
        obtain ⟨q812, q813⟩ := or_f q810
        obtain ⟨q814, q815⟩ := or_f q812
        have q816 := d_t (not_f q801)
        have q817 := d_t (not_f q791)
        exact r_move rfl) rfl ?_
  refine ao_readG (x := .bool r12.2) rfl (GV.F rfl) (fun hg818 => by
        obtain ⟨q819, q820⟩ := or_f (not_t hg818)
        obtain ⟨q821, q822⟩ := or_f q819
        obtain ⟨q823, q824⟩ := or_f q821
        obtain ⟨q825, q826⟩ := or_f q823
        obtain ⟨q827, q828⟩ := or_f q825
        obtain ⟨q829, q830⟩ := or_f q827
        obtain ⟨q831, q832⟩ := or_f q829
        obtain ⟨q833, q834⟩ := or_f q831
        obtain ⟨q835, q836⟩ := or_f q833
        obtain ⟨q837, q838⟩ := or_f q835
        obtain ⟨q839, q840⟩ := or_f q837
        obtain ⟨q841, q842⟩ := or_f q839
        obtain ⟨q843, q844⟩ := or_f q841
        obtain ⟨q845, q846⟩ := or_f q843
        obtain ⟨q847, q848⟩ := or_f q845
        have q849 := d_t (not_f q834)
        have q850 := d_t (not_f q824)
        exact r_move rfl) rfl ?_
  refine ao_readG (x := .bool (r4.2 != r12.2)) rfl (GV.F rfl) (fun hg851 => by
        obtain ⟨q852, q853⟩ := or_f (not_t hg851)
        obtain ⟨q854, q855⟩ := or_f q852
        obtain ⟨q856, q857⟩ := or_f q854
        obtain ⟨q858, q859⟩ := or_f q856
        obtain ⟨q860, q861⟩ := or_f q858
        obtain ⟨q862, q863⟩ := or_f q860
        obtain ⟨q864, q865⟩ := or_f q862
        obtain ⟨q866, q867⟩ := or_f q864
        obtain ⟨q868, q869⟩ := or_f q866
        obtain ⟨q870, q871⟩ := or_f q868
        obtain ⟨q872, q873⟩ := or_f q870
        obtain ⟨q874, q875⟩ := or_f q872
        obtain ⟨q876, q877⟩ := or_f q874
        obtain ⟨q878, q879⟩ := or_f q876
        obtain ⟨q880, q881⟩ := or_f q878
        have q882 := d_t (not_f q867)
        have q883 := d_t (not_f q857)
        exact Reads.strip 222 rfl (hg851) (Reads.strip 223 rfl (hg851) (r_neq_bool Try.underlying4 rfl rfl))) rfl ?_
  refine ao_r (r_orB rfl rfl) rfl ?_
  refine ao_r (r_move rfl) rfl ?_
  refine ao_readG (x := .bool r4.2) rfl (GV.F rfl) (fun hg884 => by
        obtain ⟨q885, q886⟩ := or_f (not_t hg884)
        obtain ⟨q887, q888⟩ := or_f q885
        obtain ⟨q889, q890⟩ := or_f q887
        obtain ⟨q891, q892⟩ := or_f q889
        obtain ⟨q893, q894⟩ := or_f q891
        obtain ⟨q895, q896⟩ := or_f q893
        obtain ⟨q897, q898⟩ := or_f q895
        obtain ⟨q899, q900⟩ := or_f q897
        obtain ⟨q901, q902⟩ := or_f q899
        obtain ⟨q903, q904⟩ := or_f q901
        obtain ⟨q905, q906⟩ := or_f q903
        obtain ⟨q907, q908⟩ := or_f q905
        obtain ⟨q909, q910⟩ := or_f q907
        obtain ⟨q911, q912⟩ := or_f q909
        obtain ⟨q913, q914⟩ := or_f q911
        obtain ⟨q915, q916⟩ := or_f q913
        have q917 := d_t (not_f q902)
        have q918 := d_t (not_f q892)
        exact r_move rfl) rfl ?_
  refine ao_readG (x := .bool r16.2.2) rfl (GV.F rfl) (fun hg919 => by
        obtain ⟨q920, q921⟩ := or_f (not_t hg919)
        obtain ⟨q922, q923⟩ := or_f q920
        obtain ⟨q924, q925⟩ := or_f q922
        obtain ⟨q926, q927⟩ := or_f q924
        obtain ⟨q928, q929⟩ := or_f q926
        obtain ⟨q930, q931⟩ := or_f q928
        obtain ⟨q932, q933⟩ := or_f q930
        obtain ⟨q934, q935⟩ := or_f q932
        obtain ⟨q936, q937⟩ := or_f q934
        obtain ⟨q938, q939⟩ := or_f q936
        obtain ⟨q940, q941⟩ := or_f q938
        obtain ⟨q942, q943⟩ := or_f q940
        obtain ⟨q944, q945⟩ := or_f q942
        obtain ⟨q946, q947⟩ := or_f q944
        obtain ⟨q948, q949⟩ := or_f q946
        obtain ⟨q950, q951⟩ := or_f q948
        have q952 := d_t (not_f q937)
        have q953 := d_t (not_f q927)
        exact r_move rfl) rfl ?_
  refine ao_readG (x := .bool (r4.2 != r16.2.2)) rfl (GV.F rfl) (fun hg954 => by
        obtain ⟨q955, q956⟩ := or_f (not_t hg954)
        obtain ⟨q957, q958⟩ := or_f q955
        obtain ⟨q959, q960⟩ := or_f q957
        obtain ⟨q961, q962⟩ := or_f q959
        obtain ⟨q963, q964⟩ := or_f q961
        obtain ⟨q965, q966⟩ := or_f q963
        obtain ⟨q967, q968⟩ := or_f q965
        obtain ⟨q969, q970⟩ := or_f q967
        obtain ⟨q971, q972⟩ := or_f q969
        obtain ⟨q973, q974⟩ := or_f q971
        obtain ⟨q975, q976⟩ := or_f q973
        obtain ⟨q977, q978⟩ := or_f q975
        obtain ⟨q979, q980⟩ := or_f q977
        obtain ⟨q981, q982⟩ := or_f q979
        obtain ⟨q983, q984⟩ := or_f q981
        obtain ⟨q985, q986⟩ := or_f q983
        have q987 := d_t (not_f q972)
        have q988 := d_t (not_f q962)
        exact Reads.strip 227 rfl (hg954) (Reads.strip 228 rfl (hg954) (r_neq_bool Try.underlying4 rfl rfl))) rfl ?_
  refine ao_r (r_orB rfl rfl) rfl ?_
  refine ao_r (r_move rfl) rfl ?_
  refine ao_readG (x := .bool r24.2) rfl (GV.F rfl) (fun hg989 => by
        obtain ⟨q990, q991⟩ := or_f (not_t hg989)
        obtain ⟨q992, q993⟩ := or_f q990
        obtain ⟨q994, q995⟩ := or_f q992
        obtain ⟨q996, q997⟩ := or_f q994
        obtain ⟨q998, q999⟩ := or_f q996
        obtain ⟨q1000, q1001⟩ := or_f q998
        obtain ⟨q1002, q1003⟩ := or_f q1000
        obtain ⟨q1004, q1005⟩ := or_f q1002
        obtain ⟨q1006, q1007⟩ := or_f q1004
        obtain ⟨q1008, q1009⟩ := or_f q1006
        obtain ⟨q1010, q1011⟩ := or_f q1008
        obtain ⟨q1012, q1013⟩ := or_f q1010
        obtain ⟨q1014, q1015⟩ := or_f q1012
        obtain ⟨q1016, q1017⟩ := or_f q1014
        obtain ⟨q1018, q1019⟩ := or_f q1016
        obtain ⟨q1020, q1021⟩ := or_f q1018
        obtain ⟨q1022, q1023⟩ := or_f q1020
        have q1024 := d_t (not_f q1009)
        have q1025 := d_t (not_f q999)
        exact r_move rfl) rfl ?_
  refine ao_readG (x := .bool r28.2) rfl (GV.F rfl) (fun hg1026 => by
        obtain ⟨q1027, q1028⟩ := or_f (not_t hg1026)
        obtain ⟨q1029, q1030⟩ := or_f q1027
        obtain ⟨q1031, q1032⟩ := or_f q1029
        obtain ⟨q1033, q1034⟩ := or_f q1031
        obtain ⟨q1035, q1036⟩ := or_f q1033
        obtain ⟨q1037, q1038⟩ := or_f q1035
        obtain ⟨q1039, q1040⟩ := or_f q1037
        obtain ⟨q1041, q1042⟩ := or_f q1039
        obtain ⟨q1043, q1044⟩ := or_f q1041
        obtain ⟨q1045, q1046⟩ := or_f q1043
        obtain ⟨q1047, q1048⟩ := or_f q1045
        obtain ⟨q1049, q1050⟩ := or_f q1047
        obtain ⟨q1051, q1052⟩ := or_f q1049
        obtain ⟨q1053, q1054⟩ := or_f q1051
        obtain ⟨q1055, q1056⟩ := or_f q1053
        obtain ⟨q1057, q1058⟩ := or_f q1055
        obtain ⟨q1059, q1060⟩ := or_f q1057
        have q1061 := d_t (not_f q1046)
        have q1062 := d_t (not_f q1036)
        exact r_move rfl) rfl ?_
  refine ao_readG (x := .bool r28.2) rfl (GV.F rfl) (fun hg1063 => by
        obtain ⟨q1064, q1065⟩ := or_f (not_t hg1063)
        obtain ⟨q1066, q1067⟩ := or_f q1064
        obtain ⟨q1068, q1069⟩ := or_f q1066
        obtain ⟨q1070, q1071⟩ := or_f q1068
        obtain ⟨q1072, q1073⟩ := or_f q1070
        obtain ⟨q1074, q1075⟩ := or_f q1072
        obtain ⟨q1076, q1077⟩ := or_f q1074
        obtain ⟨q1078, q1079⟩ := or_f q1076
        obtain ⟨q1080, q1081⟩ := or_f q1078
        obtain ⟨q1082, q1083⟩ := or_f q1080
        obtain ⟨q1084, q1085⟩ := or_f q1082
        obtain ⟨q1086, q1087⟩ := or_f q1084
        obtain ⟨q1088, q1089⟩ := or_f q1086
        obtain ⟨q1090, q1091⟩ := or_f q1088
        obtain ⟨q1092, q1093⟩ := or_f q1090
        obtain ⟨q1094, q1095⟩ := or_f q1092
        obtain ⟨q1096, q1097⟩ := or_f q1094
        have q1098 := d_t (not_f q1083)
        have q1099 := d_t (not_f q1073)
        exact Reads.strip 233 rfl (hg1063) (r_move rfl)) rfl ?_
  refine ao_readG (x := .bool r28.1) rfl (GV.gT rfl) (fun hg1100 => by
        obtain ⟨q1101, q1102⟩ := and_t hg1100
        obtain ⟨q1103, q1104⟩ := or_f (not_t q1101)
        obtain ⟨q1105, q1106⟩ := or_f q1103
        obtain ⟨q1107, q1108⟩ := or_f q1105
        obtain ⟨q1109, q1110⟩ := or_f q1107
        obtain ⟨q1111, q1112⟩ := or_f q1109
        obtain ⟨q1113, q1114⟩ := or_f q1111
        obtain ⟨q1115, q1116⟩ := or_f q1113
        obtain ⟨q1117, q1118⟩ := or_f q1115
        obtain ⟨q1119, q1120⟩ := or_f q1117
        obtain ⟨q1121, q1122⟩ := or_f q1119
        obtain ⟨q1123, q1124⟩ := or_f q1121
        obtain ⟨q1125, q1126⟩ := or_f q1123
        obtain ⟨q1127, q1128⟩ := or_f q1125
        obtain ⟨q1129, q1130⟩ := or_f q1127
        obtain ⟨q1131, q1132⟩ := or_f q1129
        obtain ⟨q1133, q1134⟩ := or_f q1131
        obtain ⟨q1135, q1136⟩ := or_f q1133
        have q1137 := d_t (not_f q1122)
        have q1138 := d_t (not_f q1112)
        exact r_move rfl) rfl ?_
  refine ao_readG (x := .bool (r28.2 && r28.1)) rfl (GV.F rfl) (fun hg1139 => by
        obtain ⟨q1140, q1141⟩ := or_f (not_t hg1139)
        obtain ⟨q1142, q1143⟩ := or_f q1140
        obtain ⟨q1144, q1145⟩ := or_f q1142
        obtain ⟨q1146, q1147⟩ := or_f q1144
        obtain ⟨q1148, q1149⟩ := or_f q1146
        obtain ⟨q1150, q1151⟩ := or_f q1148
        obtain ⟨q1152, q1153⟩ := or_f q1150
        obtain ⟨q1154, q1155⟩ := or_f q1152
        obtain ⟨q1156, q1157⟩ := or_f q1154
        obtain ⟨q1158, q1159⟩ := or_f q1156
        obtain ⟨q1160, q1161⟩ := or_f q1158
        obtain ⟨q1162, q1163⟩ := or_f q1160
        obtain ⟨q1164, q1165⟩ := or_f q1162
        obtain ⟨q1166, q1167⟩ := or_f q1164
        obtain ⟨q1168, q1169⟩ := or_f q1166
        obtain ⟨q1170, q1171⟩ := or_f q1168
        obtain ⟨q1172, q1173⟩ := or_f q1170
        have q1174 := d_t (not_f q1159)
        have q1175 := d_t (not_f q1149)
        exact Reads.strip 234 rfl (hg1139) (r_andBg rfl rfl (tr_and (hg1139)))) rfl ?_
  refine ao_readG (x := .bool (r24.2 != (r28.2 && r28.1))) rfl (GV.F rfl) (fun hg1176 => by
        obtain ⟨q1177, q1178⟩ := or_f (not_t hg1176)
        obtain ⟨q1179, q1180⟩ := or_f q1177
        obtain ⟨q1181, q1182⟩ := or_f q1179
        obtain ⟨q1183, q1184⟩ := or_f q1181
        obtain ⟨q1185, q1186⟩ := or_f q1183
        obtain ⟨q1187, q1188⟩ := or_f q1185
        obtain ⟨q1189, q1190⟩ := or_f q1187
        obtain ⟨q1191, q1192⟩ := or_f q1189
        obtain ⟨q1193, q1194⟩ := or_f q1191
        obtain ⟨q1195, q1196⟩ := or_f q1193
        obtain ⟨q1197, q1198⟩ := or_f q1195
        obtain ⟨q1199, q1200⟩ := or_f q1197
        obtain ⟨q1201, q1202⟩ := or_f q1199
        obtain ⟨q1203, q1204⟩ := or_f q1201
        obtain ⟨q1205, q1206⟩ := or_f q1203
        obtain ⟨q1207, q1208⟩ := or_f q1205
        obtain ⟨q1209, q1210⟩ := or_f q1207
        have q1211 := d_t (not_f q1196)
        have q1212 := d_t (not_f q1186)
        exact Reads.strip 232 rfl (hg1176) (Reads.strip 236 rfl (hg1176) (r_neq_bool Try.underlying4 rfl rfl))) rfl ?_
  refine ao_r (r_orB rfl rfl) rfl ?_
  refine ao_nil ?_
  refine aq_then ?_
  refine aw_cond rfl (fun hb1213 => ?_) (fun hb1213 => ?_)
  replace h := is_if hb1213 h
  refine aw_seq ?_
  refine aw_region ?_
  refine ao_r (r_assign rfl) rfl ?_
  refine ao_nil ?_
  refine aq_then ?_
  refine aw_ret ?_
  refine aq_then_ret ?_
  refine aq_ret ?_
  obtain rfl := is_some h
  exact aq_finx (l := [.tmp 2]) (xs := [.bool false]) idn [.bool false] [] rfl (by exact ⟨rfl, trivial⟩) (by exact ⟨ad_ren rfl, trivial⟩) (by exact trivial) rfl (nk rfl) rfl rfl ⟨rfl, rfl⟩
  obtain ⟨q1214, q1215⟩ := or_f hb1213
  obtain ⟨q1216, q1217⟩ := or_f q1214
  obtain ⟨q1218, q1219⟩ := or_f q1216
  obtain ⟨q1220, q1221⟩ := or_f q1218
  obtain ⟨q1222, q1223⟩ := or_f q1220
  obtain ⟨q1224, q1225⟩ := or_f q1222
  obtain ⟨q1226, q1227⟩ := or_f q1224
  obtain ⟨q1228, q1229⟩ := or_f q1226
  obtain ⟨q1230, q1231⟩ := or_f q1228
  obtain ⟨q1232, q1233⟩ := or_f q1230
  obtain ⟨q1234, q1235⟩ := or_f q1232
  obtain ⟨q1236, q1237⟩ := or_f q1234
  obtain ⟨q1238, q1239⟩ := or_f q1236
  obtain ⟨q1240, q1241⟩ := or_f q1238
  obtain ⟨q1242, q1243⟩ := or_f q1240
  obtain ⟨q1244, q1245⟩ := or_f q1242
  obtain ⟨q1246, q1247⟩ := or_f q1244
  obtain ⟨q1248, q1249⟩ := or_f q1246
  have q1250 := d_t (not_f q1235)
  have q1251 := d_t (not_f q1225)
  replace h := is_else (ne_t hb1213) h
  refine aw_skip ?_
  refine aq_then ?_
  refine aw_join (fun (s1252 : Unit) => [(3, .os 0), (4, .os 1), (5, .bool r4.2), (8, .os 2), (12, .os 3), (16, .os 4), (17, .int .i64 r16.2.1), (31, .int .i64 r32), (32, .int .i64 r33.1), (33, .bool r33.2)]) (fun (s1252 : Unit) => [(0, .row ty7 r2), (1, .row ty4 r4.1), (2, .row ty7 r8.1), (3, .row ty7 r12.1), (4, .row ty7 r16.1)]) (fun (s1252 : Unit) => True) h (fun s1252 hI h => ?_) (fun h j1254 => ?_)
  refine aw_seq ?_
  refine aw_seq ?_
  refine aw_region ?_
  refine ao_r (r_move rfl) rfl ?_
  refine ao_r (r_move rfl) rfl ?_
  refine ao_readG (x := .int .i64 r32) rfl (GV.T rfl) (fun hg1255 => r_move rfl) rfl ?_
  refine ao_readG (x := .int .i64 r32) rfl (GV.T rfl) (fun hg1256 => r_move rfl) rfl ?_
  refine ao_readG (x := .int .i64 (IntKind.wrap .i64 (r32 * r32))) rfl (GV.T rfl) (fun hg1257 => Reads.strip 281 rfl (hg1257) (Reads.strip 282 rfl (hg1257) (r_mul rfl rfl))) rfl ?_
  refine ao_readG (x := .int .i64 ((IntKind.wrap .i64 (r32 * r32)).tmod 2)) rfl (GV.T rfl) (fun hg1258 => Reads.strip 283 rfl (hg1258) (r_rem rfl rfl (by decide))) rfl ?_
  refine ao_readG (x := .bool (decide (((IntKind.wrap .i64 (r32 * r32)).tmod 2) = 1))) rfl (GV.T rfl) (fun hg1259 => Reads.strip 284 rfl (hg1259) (r_eql rfl rfl)) rfl ?_
  refine ao_readG (x := .int .i64 r33.1) rfl (GV.T rfl) (fun hg1260 => r_move rfl) rfl ?_
  refine ao_readG (x := .bool (decide (r33.1 = 0))) rfl (GV.T rfl) (fun hg1261 => Reads.strip 286 rfl (hg1261) (r_eql rfl rfl)) rfl ?_
  refine ao_readG (x := .bool ((decide (((IntKind.wrap .i64 (r32 * r32)).tmod 2) = 1)) != (decide (r33.1 = 0)))) rfl (GV.T rfl) (fun hg1262 => Reads.strip 285 rfl (hg1262) (Reads.strip 287 rfl (hg1262) (r_neq_bool Try.underlying4 rfl rfl))) rfl ?_
  refine ao_r (r_andB rfl rfl) rfl ?_
  refine ao_nil ?_
  refine aq_then ?_
  refine aw_cond rfl (fun hb1263 => ?_) (fun hb1263 => ?_)
  obtain ⟨q1264, q1265⟩ := and_t hb1263
  replace h := is_if hb1263 h
  refine aw_seq ?_
  refine aw_region ?_
  refine ao_r (r_assign rfl) rfl ?_
  refine ao_nil ?_
  refine aq_then ?_
  refine aw_ret ?_
  refine aq_then_ret ?_
  refine aq_ret ?_
  obtain rfl := is_some h
  exact aq_finx (l := [.tmp 2]) (xs := [.bool false]) idn [.bool false] [] rfl (by exact ⟨rfl, trivial⟩) (by exact ⟨ad_ren rfl, trivial⟩) (by exact trivial) rfl (nk rfl) rfl rfl ⟨rfl, rfl⟩
  replace h := is_else (ne_t hb1263) h
  refine aw_skip ?_
  refine aq_then ?_
  refine aw_seq ?_
  refine aw_seq ?_
  refine aw_region ?_
  refine ao_r (r_move rfl) rfl ?_
  refine ao_r (r_not rfl) rfl ?_
  refine ao_nil ?_
  refine aq_then ?_
  refine aw_cond rfl (fun hb1266 => ?_) (fun hb1266 => ?_)
  replace h := is_else (ne_t (not_t hb1266)) h
  refine aw_seq ?_
  refine aw_region ?_
  refine ao_r (r_assign rfl) rfl ?_
  refine ao_nil ?_
  refine aq_then ?_
  refine aw_ret ?_
  refine aq_then_ret ?_
  refine aq_ret ?_
  obtain rfl := is_some h
  exact aq_finx (l := [.tmp 2]) (xs := [.bool true]) idn [.bool true] [] rfl (by exact ⟨rfl, trivial⟩) (by exact ⟨ad_ren rfl, trivial⟩) (by exact trivial) rfl (nk rfl) rfl rfl ⟨rfl, rfl⟩
  replace h := is_if (not_f hb1266) h
  refine aw_skip ?_
  refine aq_then ?_
  refine aw_seq ?_
  refine aw_region ?_
  refine ao_r (r_move rfl) rfl ?_
  obtain ⟨r1267, r1267h, h⟩ := is_bind h
  refine ao_call [] 5 trivial (c_impl_LettersOf (is_mk r1267h)) Try.func16 rfl rfl rfl rfl ⟨ad_os0 rfl, trivial⟩ trivial rfl rfl rfl rfl rfl rfl rfl (fun r' H' hr => ?_)
  obtain ⟨rfl, rfl⟩ := hr
  refine ao_norm (y := .tup [.os 5, .bool r1267.2]) (H' := [(0, .row ty7 r2), (1, .row ty4 r4.1), (2, .row ty7 r8.1), (3, .row ty7 r12.1), (4, .row ty7 r16.1), (5, .row ty7 r1267.1)]) rfl rfl ?_
  refine row_len_o 5 (r1267.1.length : Int) rfl rfl (fun hr1268 => ?_)
  refine ao_r (r_move rfl) rfl ?_
  refine ao_r (r_extract rfl rfl) rfl ?_
  refine ao_r (r_extract rfl rfl) rfl ?_
  refine ao_r (r_assign rfl) rfl ?_
  refine ao_r (r_assign rfl) rfl ?_
  refine ao_nil ?_
  refine aq_then ?_
  refine aw_seq ?_
  refine aw_region ?_
  refine ao_r (r_move rfl) rfl ?_
  obtain ⟨r1269, r1269h, h⟩ := is_bind h
  refine ao_scall trivial (scall (c_impl_TieWays (is_mk r1269h)) rfl Try.func26 rfl rfl rfl rfl (fun σ => ⟨ad_os0 rfl, trivial⟩)) rfl ?_
  refine ao_r (r_move rfl) rfl ?_
  refine ao_r (r_extract rfl rfl) rfl ?_
  refine ao_r (r_extract rfl rfl) rfl ?_
  refine ao_r (r_assign rfl) rfl ?_
  refine ao_r (r_assign rfl) rfl ?_
  refine ao_nil ?_
  refine aq_then ?_
  refine aw_seq ?_
  refine aw_region ?_
  refine ao_r (r_move rfl) rfl ?_
  obtain ⟨r1270, r1270h, h⟩ := is_bind h
  refine ao_call [] 6 trivial (c_impl_LettersWays (is_mk r1270h)) Try.func10 rfl rfl rfl rfl ⟨ad_os0 rfl, trivial⟩ trivial rfl rfl rfl rfl rfl rfl rfl (fun r' H' hr => ?_)
  obtain ⟨rfl, rfl⟩ := hr
  refine ao_norm (y := .tup [.os 6, .bool r1270.2]) (H' := [(0, .row ty7 r2), (1, .row ty4 r4.1), (2, .row ty7 r8.1), (3, .row ty7 r12.1), (4, .row ty7 r16.1), (5, .row ty7 r1267.1), (6, .row ty7 r1270.1)]) rfl rfl ?_
  refine row_len_o 6 (r1270.1.length : Int) rfl rfl (fun hr1271 => ?_)
  refine ao_r (r_move rfl) rfl ?_
  refine ao_r (r_extract rfl rfl) rfl ?_
  refine ao_r (r_extract rfl rfl) rfl ?_
  refine ao_r (r_assign rfl) rfl ?_
  refine ao_r (r_assign rfl) rfl ?_
  refine ao_nil ?_
  refine aq_then ?_
  refine aw_seq ?_
  refine aw_region ?_
  refine ao_r (r_move rfl) rfl ?_
  refine ao_r (r_len_osm (r4.1.length : Int) Try.underlying26 rfl rfl rfl) rfl ?_
  obtain ⟨r1272, r1272h, h⟩ := is_bind h
  refine ao_call [] 7 trivial (c_impl_OrdersOf (is_mk r1272h)) Try.func27 rfl rfl rfl rfl ⟨ad_ren rfl, trivial⟩ trivial rfl rfl rfl rfl rfl rfl rfl (fun r' H' hr => ?_)
  obtain ⟨rfl, rfl⟩ := hr
  refine ao_norm (y := .tup [.os 7, .bool r1272.2]) (H' := [(0, .row ty7 r2), (1, .row ty4 r4.1), (2, .row ty7 r8.1), (3, .row ty7 r12.1), (4, .row ty7 r16.1), (5, .row ty7 r1267.1), (6, .row ty7 r1270.1), (7, .row ty1 r1272.1)]) rfl rfl ?_
  refine row_len_o 7 (r1272.1.length : Int) rfl rfl (fun hr1273 => ?_)
  refine ao_r (r_move rfl) rfl ?_
  refine ao_r (r_extract rfl rfl) rfl ?_
  refine ao_r (r_extract rfl rfl) rfl ?_
  refine ao_r (r_assign rfl) rfl ?_
  refine ao_r (r_assign rfl) rfl ?_
  refine ao_nil ?_
  refine aq_then ?_
  refine aw_seq ?_
  refine aw_seq ?_
  refine aw_region ?_
  refine ao_r (r_move rfl) rfl ?_
  refine ao_r (r_not rfl) rfl ?_
  refine ao_r (r_move rfl) rfl ?_
  refine ao_readG (x := .bool r1269.2) rfl (GV.F rfl) (fun hg1274 => r_move rfl) rfl ?_
  refine ao_readG (x := .bool (!r1269.2)) rfl (GV.F rfl) (fun hg1275 => Reads.strip 316 rfl (hg1275) (r_not rfl)) rfl ?_
  refine ao_r (r_orB rfl rfl) rfl ?_
  refine ao_r (r_move rfl) rfl ?_
  refine ao_readG (x := .bool r1270.2) rfl (GV.F rfl) (fun hg1276 => by
        obtain ⟨q1277, q1278⟩ := or_f (not_t hg1276)
        exact r_move rfl) rfl ?_
  refine ao_readG (x := .bool (!r1270.2)) rfl (GV.F rfl) (fun hg1279 => by
        obtain ⟨q1280, q1281⟩ := or_f (not_t hg1279)
        exact Reads.strip 320 rfl (hg1279) (r_not rfl)) rfl ?_
  refine ao_r (r_orB rfl rfl) rfl ?_
  refine ao_r (r_move rfl) rfl ?_
  refine ao_readG (x := .bool r1272.2) rfl (GV.F rfl) (fun hg1282 => by
        obtain ⟨q1283, q1284⟩ := or_f (not_t hg1282)
        obtain ⟨q1285, q1286⟩ := or_f q1283
        exact r_move rfl) rfl ?_
  refine ao_readG (x := .bool (!r1272.2)) rfl (GV.F rfl) (fun hg1287 => by
        obtain ⟨q1288, q1289⟩ := or_f (not_t hg1287)
        obtain ⟨q1290, q1291⟩ := or_f q1288
        exact Reads.strip 324 rfl (hg1287) (r_not rfl)) rfl ?_
  refine ao_r (r_orB rfl rfl) rfl ?_
  refine ao_r (r_move rfl) rfl ?_
  refine ao_readG (x := .os 5) rfl (GV.F rfl) (fun hg1292 => by
        obtain ⟨q1293, q1294⟩ := or_f (not_t hg1292)
        obtain ⟨q1295, q1296⟩ := or_f q1293
        obtain ⟨q1297, q1298⟩ := or_f q1295
        exact r_move rfl) rfl ?_
  refine ao_readG (x := .os 0) rfl (GV.F rfl) (fun hg1299 => by
        obtain ⟨q1300, q1301⟩ := or_f (not_t hg1299)
        obtain ⟨q1302, q1303⟩ := or_f q1300
        obtain ⟨q1304, q1305⟩ := or_f q1302
        exact r_move rfl) rfl ?_
  refine ao_scallG (r := .bool (p_laws_vInts r1267.1 r2)) rfl (GV.F rfl) (fun hg1306 => by
        obtain ⟨q1307, q1308⟩ := or_f (not_t hg1306)
        obtain ⟨q1309, q1310⟩ := or_f q1307
        obtain ⟨q1311, q1312⟩ := or_f q1309
        exact SCall.strip 328 rfl (hg1306) (SCall.strip 329 rfl (hg1306) (scall (c_laws_vInts (is_mk (rfl : p_laws_vInts r1267.1 r2 = _))) rfl Try.func24 rfl rfl rfl rfl (fun σ => ⟨ad_os0 rfl, ad_os0 rfl, trivial⟩)))) rfl ?_
  refine ao_readG (x := .bool (!(p_laws_vInts r1267.1 r2))) rfl (GV.F rfl) (fun hg1313 => by
        obtain ⟨q1314, q1315⟩ := or_f (not_t hg1313)
        obtain ⟨q1316, q1317⟩ := or_f q1314
        obtain ⟨q1318, q1319⟩ := or_f q1316
        exact Reads.strip 330 rfl (hg1313) (r_not rfl)) rfl ?_
  refine ao_r (r_orB rfl rfl) rfl ?_
  refine ao_r (r_move rfl) rfl ?_
  refine ao_readG (x := .int .i64 r1269.1) rfl (GV.F rfl) (fun hg1320 => by
        obtain ⟨q1321, q1322⟩ := or_f (not_t hg1320)
        obtain ⟨q1323, q1324⟩ := or_f q1321
        obtain ⟨q1325, q1326⟩ := or_f q1323
        obtain ⟨q1327, q1328⟩ := or_f q1325
        exact r_move rfl) rfl ?_
  refine ao_readG (x := .bool (!(decide (r1269.1 = 0)))) rfl (GV.F rfl) (fun hg1329 => by
        obtain ⟨q1330, q1331⟩ := or_f (not_t hg1329)
        obtain ⟨q1332, q1333⟩ := or_f q1330
        obtain ⟨q1334, q1335⟩ := or_f q1332
        obtain ⟨q1336, q1337⟩ := or_f q1334
        exact Reads.strip 334 rfl (hg1329) (r_neq rfl rfl)) rfl ?_
  refine ao_r (r_orB rfl rfl) rfl ?_
  refine ao_r (r_move rfl) rfl ?_
  refine ao_readG (x := .os 6) rfl (GV.F rfl) (fun hg1338 => by
        obtain ⟨q1339, q1340⟩ := or_f (not_t hg1338)
        obtain ⟨q1341, q1342⟩ := or_f q1339
        obtain ⟨q1343, q1344⟩ := or_f q1341
        obtain ⟨q1345, q1346⟩ := or_f q1343
        obtain ⟨q1347, q1348⟩ := or_f q1345
        have q1349 := d_t (not_f q1340)
        exact r_move rfl) rfl ?_
  refine ao_readG (x := .int .i64 (r1270.1.length : Int)) rfl (GV.F rfl) (fun hg1350 => by
        obtain ⟨q1351, q1352⟩ := or_f (not_t hg1350)
        obtain ⟨q1353, q1354⟩ := or_f q1351
        obtain ⟨q1355, q1356⟩ := or_f q1353
        obtain ⟨q1357, q1358⟩ := or_f q1355
        obtain ⟨q1359, q1360⟩ := or_f q1357
        have q1361 := d_t (not_f q1352)
        exact Reads.strip 338 rfl (hg1350) (r_len_osm (r1270.1.length : Int) Try.underlying24 rfl rfl rfl)) rfl ?_
  refine ao_readG (x := .os 3) rfl (GV.F rfl) (fun hg1362 => by
        obtain ⟨q1363, q1364⟩ := or_f (not_t hg1362)
        obtain ⟨q1365, q1366⟩ := or_f q1363
        obtain ⟨q1367, q1368⟩ := or_f q1365
        obtain ⟨q1369, q1370⟩ := or_f q1367
        obtain ⟨q1371, q1372⟩ := or_f q1369
        have q1373 := d_t (not_f q1364)
        exact r_move rfl) rfl ?_
  refine ao_readG (x := .int .i64 (r12.1.length : Int)) rfl (GV.F rfl) (fun hg1374 => by
        obtain ⟨q1375, q1376⟩ := or_f (not_t hg1374)
        obtain ⟨q1377, q1378⟩ := or_f q1375
        obtain ⟨q1379, q1380⟩ := or_f q1377
        obtain ⟨q1381, q1382⟩ := or_f q1379
        obtain ⟨q1383, q1384⟩ := or_f q1381
        have q1385 := d_t (not_f q1376)
        exact Reads.strip 340 rfl (hg1374) (r_len_osm (r12.1.length : Int) Try.underlying24 rfl rfl rfl)) rfl ?_
  refine ao_readG (x := .bool (!(decide ((r1270.1.length : Int) = (r12.1.length : Int))))) rfl (GV.F rfl) (fun hg1386 => by
        obtain ⟨q1387, q1388⟩ := or_f (not_t hg1386)
        obtain ⟨q1389, q1390⟩ := or_f q1387
        obtain ⟨q1391, q1392⟩ := or_f q1389
        obtain ⟨q1393, q1394⟩ := or_f q1391
        obtain ⟨q1395, q1396⟩ := or_f q1393
        have q1397 := d_t (not_f q1388)
        exact Reads.strip 339 rfl (hg1386) (Reads.strip 341 rfl (hg1386) (r_neq rfl rfl))) rfl ?_
  refine ao_r (r_orB rfl rfl) rfl ?_
  refine ao_r (r_move rfl) rfl ?_
  refine ao_readG (x := .os 7) rfl (GV.F rfl) (fun hg1398 => by
        obtain ⟨q1399, q1400⟩ := or_f (not_t hg1398)
        obtain ⟨q1401, q1402⟩ := or_f q1399
        obtain ⟨q1403, q1404⟩ := or_f q1401
        obtain ⟨q1405, q1406⟩ := or_f q1403
        obtain ⟨q1407, q1408⟩ := or_f q1405
        obtain ⟨q1409, q1410⟩ := or_f q1407
        have q1411 := d_t (not_f q1402)
        have q1412 := d_t (not_f q1400)
        exact r_move rfl) rfl ?_
  refine ao_readG (x := .int .i64 (r1272.1.length : Int)) rfl (GV.F rfl) (fun hg1413 => by
        obtain ⟨q1414, q1415⟩ := or_f (not_t hg1413)
        obtain ⟨q1416, q1417⟩ := or_f q1414
        obtain ⟨q1418, q1419⟩ := or_f q1416
        obtain ⟨q1420, q1421⟩ := or_f q1418
        obtain ⟨q1422, q1423⟩ := or_f q1420
        obtain ⟨q1424, q1425⟩ := or_f q1422
        have q1426 := d_t (not_f q1417)
        have q1427 := d_t (not_f q1415)
        exact Reads.strip 345 rfl (hg1413) (r_len_osm (r1272.1.length : Int) Try.underlying44 rfl rfl rfl)) rfl ?_
  refine ao_readG (x := .os 3) rfl (GV.F rfl) (fun hg1428 => by
        obtain ⟨q1429, q1430⟩ := or_f (not_t hg1428)
        obtain ⟨q1431, q1432⟩ := or_f q1429
        obtain ⟨q1433, q1434⟩ := or_f q1431
        obtain ⟨q1435, q1436⟩ := or_f q1433
        obtain ⟨q1437, q1438⟩ := or_f q1435
        obtain ⟨q1439, q1440⟩ := or_f q1437
        have q1441 := d_t (not_f q1432)
        have q1442 := d_t (not_f q1430)
        exact r_move rfl) rfl ?_
  refine ao_readG (x := .int .i64 (r12.1.length : Int)) rfl (GV.F rfl) (fun hg1443 => by
        obtain ⟨q1444, q1445⟩ := or_f (not_t hg1443)
        obtain ⟨q1446, q1447⟩ := or_f q1444
        obtain ⟨q1448, q1449⟩ := or_f q1446
        obtain ⟨q1450, q1451⟩ := or_f q1448
        obtain ⟨q1452, q1453⟩ := or_f q1450
        obtain ⟨q1454, q1455⟩ := or_f q1452
        have q1456 := d_t (not_f q1447)
        have q1457 := d_t (not_f q1445)
        exact Reads.strip 347 rfl (hg1443) (r_len_osm (r12.1.length : Int) Try.underlying24 rfl rfl rfl)) rfl ?_
  refine ao_readG (x := .bool (!(decide ((r1272.1.length : Int) = (r12.1.length : Int))))) rfl (GV.F rfl) (fun hg1458 => by
        obtain ⟨q1459, q1460⟩ := or_f (not_t hg1458)
        obtain ⟨q1461, q1462⟩ := or_f q1459
        obtain ⟨q1463, q1464⟩ := or_f q1461
        obtain ⟨q1465, q1466⟩ := or_f q1463
        obtain ⟨q1467, q1468⟩ := or_f q1465
        obtain ⟨q1469, q1470⟩ := or_f q1467
        have q1471 := d_t (not_f q1462)
        have q1472 := d_t (not_f q1460)
        exact Reads.strip 346 rfl (hg1458) (Reads.strip 348 rfl (hg1458) (r_neq rfl rfl))) rfl ?_
  refine ao_r (r_orB rfl rfl) rfl ?_
  refine ao_nil ?_
  refine aq_then ?_
  refine aw_cond rfl (fun hb1473 => ?_) (fun hb1473 => ?_)
  replace h := is_if hb1473 h
  refine aw_seq ?_
  refine aw_region ?_
  refine ao_r (r_assign rfl) rfl ?_
  refine ao_nil ?_
  refine aq_then ?_
  refine aw_ret ?_
  refine aq_then_ret ?_
  refine aq_ret ?_
  obtain rfl := is_some h
  exact aq_finx (l := [.tmp 2]) (xs := [.bool false]) idn [.bool false] [] rfl (by exact ⟨rfl, trivial⟩) (by exact ⟨ad_ren rfl, trivial⟩) (by exact trivial) rfl (nk rfl) rfl rfl ⟨rfl, rfl⟩
  obtain ⟨q1474, q1475⟩ := or_f hb1473
  obtain ⟨q1476, q1477⟩ := or_f q1474
  obtain ⟨q1478, q1479⟩ := or_f q1476
  obtain ⟨q1480, q1481⟩ := or_f q1478
  obtain ⟨q1482, q1483⟩ := or_f q1480
  obtain ⟨q1484, q1485⟩ := or_f q1482
  obtain ⟨q1486, q1487⟩ := or_f q1484
  have q1488 := d_t (not_f q1479)
  have q1489 := d_t (not_f q1477)
  have q1490 := d_t (not_f q1475)
  replace h := is_else (ne_t hb1473) h
  refine aw_skip ?_
  refine aq_then ?_
  refine aw_seq ?_
  obtain ⟨g1491, h⟩ := is_guard h
  refine aw_drawAll (by kernel_rfl) ?_
  refine an_r 0 (fun _ _ _ h => h) rfl (by kernel_rfl) (r_move rfl) rfl ?_
  refine an_r 1 (fun _ _ _ h => h) rfl (by kernel_rfl) (r_idxAddr_os Try.underlying24 Try.sizeOf3 rfl rfl rfl (show 0 ≤ 0 from by omega) (show 0 < (r12.1.length : Int) from by omega)) rfl ?_
  refine an_r 2 (fun _ _ _ h => h) rfl (by kernel_rfl) (r_load_elem_int Try.isAgg3 Try.sizeOf3 rfl rfl (show 0 < r12.1.length from by omega)) rfl ?_
  refine an_r 3 (fun _ _ _ h => h) rfl (by kernel_rfl) (r_move rfl) rfl ?_
  refine an_r 4 (fun _ _ _ h => h) rfl (by kernel_rfl) (r_idxAddr_os Try.underlying24 Try.sizeOf3 rfl rfl rfl (show 0 ≤ 0 from by omega) (show 0 < (r12.1.length : Int) from by omega)) rfl ?_
  refine an_r 5 (fun _ _ _ h => h) rfl (by kernel_rfl) (r_load_elem_int Try.isAgg3 Try.sizeOf3 rfl rfl (show 0 < r12.1.length from by omega)) rfl ?_
  refine an_r 6 (fun _ _ _ h => h) rfl (by kernel_rfl) (r_assign rfl) rfl ?_
  refine an_r 7 (fun _ _ _ h => h) rfl (by kernel_rfl) (r_assign rfl) rfl ?_
  refine an_done rfl ?_
  refine aq_then ?_
  refine aw_seq ?_
  refine aw_seq ?_
  refine aw_region ?_
  refine ao_r (r_assign rfl) rfl ?_
  refine ao_nil ?_
  refine aq_then ?_
  refine aw_block ?_
  refine aw_loop (AL.sub (fr' := [(3, .os 0), (4, .os 1), (12, .os 2), (16, .os 3), (17, .int .i64 r16.2.1), (46, .os 4), (48, .os 5), (50, .int .i64 (r12.1.getD 0 0)), (51, .int .i64 (r12.1.getD 0 0)), (52, .int .i64 0)]) (H' := [(0, .row ty7 r2), (1, .row ty4 r4.1), (2, .row ty7 r12.1), (3, .row ty7 r16.1), (4, .row ty7 r1270.1), (5, .row ty1 r1272.1)]) (sub_r1 (rn [(2, 3), (3, 4), (4, 6), (5, 7)]) (nk rfl) (by kernel_rfl)) (al_cnt (fun i1493 (s1492 : Int × Int) => [(3, .os 0), (4, .os 1), (12, .os 2), (16, .os 3), (17, .int .i64 r16.2.1), (46, .os 4), (48, .os 5), (50, .int .i64 s1492.1), (51, .int .i64 s1492.2), (52, .int .i64 i1493)]) (fun i1493 (s1492 : Int × Int) => [(0, .row ty7 r2), (1, .row ty4 r4.1), (2, .row ty7 r12.1), (3, .row ty7 r16.1), (4, .row ty7 r1270.1), (5, .row ty1 r1272.1)]) (fun d i1493 (s1492 : Int × Int) => d = Int.toNat ((r12.1.length : Int) - i1493) ∧ 0 ≤ i1493 ∧ i1493 ≤ (r12.1.length : Int)) h ⟨rfl, (by (try simp only [List.length_set, List.length_append, List.length_cons, List.length_nil, List.length_replicate, List.length_take, List.length_drop]) <;> omega), (by (try simp only [List.length_set, List.length_append, List.length_cons, List.length_nil, List.length_replicate, List.length_take, List.length_drop]) <;> omega)⟩ (fun d1494 i1493 s1492 hI h ih1494 => ?_)))
  obtain ⟨hd, _, _⟩ := hI
  refine al_round ?_
  refine aw_seq ?_
  refine aw_seq ?_
  refine aw_region ?_
  refine ao_r (r_move rfl) rfl ?_
  refine ao_r (r_move rfl) rfl ?_
  refine ao_r (r_len_osm (r12.1.length : Int) Try.underlying24 rfl rfl rfl) rfl ?_
  refine ao_r (r_lss rfl rfl) rfl ?_
  refine ao_nil ?_
  refine aq_then ?_
  refine aw_cond rfl (fun hb1496 => ?_) (fun hb1496 => ?_)
  have q1497 := d_t hb1496
  obtain ⟨d1494, rfl⟩ : ∃ e, d1494 = e + 1 := ⟨d1494 - 1, by omega⟩
  replace h := is_cntS h
  refine aw_skip ?_
  refine aq_then ?_
  refine aw_seq ?_
  refine aw_block ?_
  refine aw_join (fun (s1499 : Int) => [(3, .os 0), (4, .os 1), (12, .os 2), (16, .os 3), (17, .int .i64 r16.2.1), (46, .os 4), (48, .os 5), (50, .int .i64 s1499), (51, .int .i64 s1492.2), (52, .int .i64 i1493)]) (fun (s1499 : Int) => [(0, .row ty7 r2), (1, .row ty4 r4.1), (2, .row ty7 r12.1), (3, .row ty7 r16.1), (4, .row ty7 r1270.1), (5, .row ty1 r1272.1)]) (fun (s1499 : Int) => True) h (fun s1499 hI h => ?_) (fun h j1501 => ?_)
  refine aw_join (fun (s1502 : Int) => [(3, .os 0), (4, .os 1), (12, .os 2), (16, .os 3), (17, .int .i64 r16.2.1), (46, .os 4), (48, .os 5), (50, .int .i64 s1499), (51, .int .i64 s1502), (52, .int .i64 i1493)]) (fun (s1502 : Int) => [(0, .row ty7 r2), (1, .row ty4 r4.1), (2, .row ty7 r12.1), (3, .row ty7 r16.1), (4, .row ty7 r1270.1), (5, .row ty1 r1272.1)]) (fun (s1502 : Int) => True) h (fun s1502 hI h => ?_) (fun h j1504 => ?_)
  refine aw_seq ?_
  refine aw_region ?_
  refine ao_r (r_move rfl) rfl ?_
  refine ao_r (r_move rfl) rfl ?_
  refine ao_r (r_idxAddr_os Try.underlying44 Try.sizeOf49 rfl rfl rfl (show 0 ≤ i1493 from by omega) (show i1493 < (r1272.1.length : Int) from by omega)) rfl ?_
  refine ao_r (r_load_elemv (t := ty1) Try.isAgg49 Try.sizeOf49 rfl rfl (show i1493.toNat < r1272.1.length from by omega)) rfl ?_
  refine ao_eff trivial (e_alloc 6 (y := .st [.v (.arr 4 ty7) ((List.replicate 4 0) : dy8)]) Try.zeroValue49 (fun ρ h M => ra_zero_st (t := ty1) rfl rfl rfl) rfl rfl rfl rfl rfl) rfl ?_
  refine ao_effS trivial (e_store rfl rfl rfl rfl Try.sizeOf49 rfl) ?_
  refine ao_nil ?_
  refine aq_then ?_
  refine aw_seq ?_
  refine aw_seq ?_
  refine aw_region ?_
  refine ao_r (r_assign rfl) rfl ?_
  refine ao_nil ?_
  refine aq_then ?_
  refine aw_block ?_
  refine aw_loop (AL.sub (fr' := [(3, .os 0), (4, .os 1), (12, .os 2), (16, .os 3), (17, .int .i64 r16.2.1), (46, .os 4), (48, .os 5), (50, .int .i64 s1499), (51, .int .i64 s1502), (52, .int .i64 i1493), (53, .ref 6 0), (54, .int .i64 0)]) (H' := [(0, .row ty7 r2), (1, .row ty4 r4.1), (2, .row ty7 r12.1), (3, .row ty7 r16.1), (4, .row ty7 r1270.1), (5, .row ty1 r1272.1), (6, .var [.arr ty7 4 ((r1272.1.getD i1493.toNat ((List.replicate 4 0), ())).1 : dy8)])]) (sub_r1 idn (nk rfl) (by kernel_rfl)) (al_cnt (fun i1506 (s1505 : dy8) => [(3, .os 0), (4, .os 1), (12, .os 2), (16, .os 3), (17, .int .i64 r16.2.1), (46, .os 4), (48, .os 5), (50, .int .i64 s1499), (51, .int .i64 s1502), (52, .int .i64 i1493), (53, .ref 6 0), (54, .int .i64 i1506)]) (fun i1506 (s1505 : dy8) => [(0, .row ty7 r2), (1, .row ty4 r4.1), (2, .row ty7 r12.1), (3, .row ty7 r16.1), (4, .row ty7 r1270.1), (5, .row ty1 r1272.1), (6, .var [.arr ty7 4 s1505])]) (fun d i1506 (s1505 : dy8) => d = Int.toNat ((r4.1.length : Int) - i1506) ∧ 0 ≤ i1506 ∧ (s1505.length : Int) = (((r1272.1.getD i1493.toNat ((List.replicate 4 0), ())).1).length : Int) ∧ i1506 ≤ (r4.1.length : Int)) h ⟨rfl, (by (try simp only [List.length_set, List.length_append, List.length_cons, List.length_nil, List.length_replicate, List.length_take, List.length_drop]) <;> omega), (by (try simp only [List.length_set, List.length_append, List.length_cons, List.length_nil, List.length_replicate, List.length_take, List.length_drop]) <;> omega), (by (try simp only [List.length_set, List.length_append, List.length_cons, List.length_nil, List.length_replicate, List.length_take, List.length_drop]) <;> omega)⟩ (fun d1507 i1506 s1505 hI h ih1507 => ?_)))
  obtain ⟨hd, _, _, _⟩ := hI
  refine al_round ?_
  refine aw_seq ?_
  refine aw_seq ?_
  refine aw_region ?_
  refine ao_r (r_move rfl) rfl ?_
  refine ao_r (r_move rfl) rfl ?_
  refine ao_r (r_len_osm (r4.1.length : Int) Try.underlying26 rfl rfl rfl) rfl ?_
  refine ao_r (r_lss rfl rfl) rfl ?_
  refine ao_nil ?_
  refine aq_then ?_
  refine aw_cond rfl (fun hb1509 => ?_) (fun hb1509 => ?_)
  have q1510 := d_t hb1509
  obtain ⟨d1507, rfl⟩ : ∃ e, d1507 = e + 1 := ⟨d1507 - 1, by omega⟩
  replace h := is_cntS h
  refine aw_skip ?_
  refine aq_then ?_
  refine aw_seq ?_
  refine aw_block ?_
  refine aw_region ?_
  refine ao_r (r_move rfl) rfl ?_
  refine ao_r (r_move rfl) rfl ?_
  refine ao_r (r_move rfl) rfl ?_
  refine ao_r (r_move rfl) rfl ?_
  refine ao_r (r_len_osm (r4.1.length : Int) Try.underlying26 rfl rfl rfl) rfl ?_
  refine ao_r (r_subI rfl rfl (wrap_id (by omega) (by omega))) rfl ?_
  refine ao_r (r_move rfl) rfl ?_
  refine ao_r (r_subI rfl rfl (wrap_id (by omega) (by omega))) rfl ?_
  refine ao_r (r_idxAddr_os Try.underlying44 Try.sizeOf49 rfl rfl rfl (show 0 ≤ i1493 from by omega) (show i1493 < (r1272.1.length : Int) from by omega)) rfl ?_
  refine ao_r (r_fieldAddr_elem Try.underlying49 rfl Try.sizeOf47 rfl rfl rfl) rfl ?_
  obtain ⟨g1512, h⟩ := is_guard h
  refine ao_r (r_idxAddr_elem Try.underlying47 Try.sizeOf3 rfl rfl (by omega) (by omega)) rfl ?_
  refine ao_r (r_load_elem2s_int (m := 4) Try.isAgg3 Try.sizeOf3 rfl rfl rfl (show i1493.toNat < r1272.1.length from by omega) rfl rfl (by omega) rfl) rfl ?_
  refine ao_r (r_fieldAddr Try.underlying49 rfl Try.sizeOf47 rfl rfl rfl) rfl ?_
  obtain ⟨g1513, h⟩ := is_guard h
  refine ao_r (r_idxAddr_arr (i := i1506) Try.underlying47 Try.sizeOf3 rfl rfl (show 0 ≤ i1506 from by omega) (show i1506 < (4 : Int) from by omega)) rfl ?_
  refine ao_effS trivial (e_store_elema_int Try.sizeOf3 rfl rfl rfl rfl (show i1506.toNat < 4 from by omega) rfl) ?_
  refine ao_nil ?_
  refine aq_in ?_
  refine aq_then ?_
  refine aw_region ?_
  refine ao_r (r_move rfl) rfl ?_
  refine ao_r (r_addI rfl rfl (wrap_id (by omega) (by omega))) rfl ?_
  refine ao_r (r_assign rfl) rfl ?_
  refine ao_nil ?_
  exact aq_again (AL.sub (sub_r1 idn (nk rfl) (by kernel_rfl)) (ih1507 d1507 (i1506 + 1) (s1505.set i1506.toNat ((r1272.1.getD i1493.toNat ((List.replicate 4 0), ())).1.getD (((r4.1.length : Int) - 1) - i1506).toNat 0)) (by omega) ⟨by omega, (by (try simp only [List.length_set, List.length_append, List.length_cons, List.length_nil, List.length_replicate, List.length_take, List.length_drop]) <;> omega), (by (try simp only [List.length_set, List.length_append, List.length_cons, List.length_nil, List.length_replicate, List.length_take, List.length_drop]) <;> omega), (by (try simp only [List.length_set, List.length_append, List.length_cons, List.length_nil, List.length_replicate, List.length_take, List.length_drop]) <;> omega)⟩ h))
  have q1511 := d_f hb1509
  obtain rfl : d1507 = 0 := by omega
  replace h := is_cnt0 h
  refine aw_exit ?_
  refine aq_then_exit ?_
  refine aq_then_exit ?_
  refine aq_in_exit ?_
  refine aq_then ?_
  refine aw_seq ?_
  refine aw_region ?_
  refine ao_r (r_assign rfl) rfl ?_
  refine ao_nil ?_
  refine aq_then ?_
  refine aw_block ?_
  refine aw_loop (AL.sub (fr' := [(3, .os 0), (4, .os 1), (12, .os 2), (16, .os 3), (17, .int .i64 r16.2.1), (46, .os 4), (48, .os 5), (50, .int .i64 s1499), (51, .int .i64 s1502), (52, .int .i64 i1493), (53, .ref 6 0), (55, .int .i64 0)]) (H' := [(0, .row ty7 r2), (1, .row ty4 r4.1), (2, .row ty7 r12.1), (3, .row ty7 r16.1), (4, .row ty7 r1270.1), (5, .row ty1 r1272.1), (6, .var [.arr ty7 4 s1505])]) (sub_r1 idn (nk rfl) (by kernel_rfl)) (al_cnt (fun i1515 (s1514 : Unit) => [(3, .os 0), (4, .os 1), (12, .os 2), (16, .os 3), (17, .int .i64 r16.2.1), (46, .os 4), (48, .os 5), (50, .int .i64 s1499), (51, .int .i64 s1502), (52, .int .i64 i1493), (53, .ref 6 0), (55, .int .i64 i1515)]) (fun i1515 (s1514 : Unit) => [(0, .row ty7 r2), (1, .row ty4 r4.1), (2, .row ty7 r12.1), (3, .row ty7 r16.1), (4, .row ty7 r1270.1), (5, .row ty1 r1272.1), (6, .var [.arr ty7 4 s1505])]) (fun d i1515 (s1514 : Unit) => d = Int.toNat ((r1272.1.length : Int) - i1515) ∧ 0 ≤ i1515 ∧ i1515 ≤ (r1272.1.length : Int)) h ⟨rfl, (by (try simp only [List.length_set, List.length_append, List.length_cons, List.length_nil, List.length_replicate, List.length_take, List.length_drop]) <;> omega), (by (try simp only [List.length_set, List.length_append, List.length_cons, List.length_nil, List.length_replicate, List.length_take, List.length_drop]) <;> omega)⟩ (fun d1516 i1515 s1514 hI h ih1516 => ?_)))
  obtain ⟨hd, _, _⟩ := hI
  refine al_round ?_
  refine aw_seq ?_
  refine aw_seq ?_
  refine aw_region ?_
  refine ao_r (r_move rfl) rfl ?_
  refine ao_r (r_move rfl) rfl ?_
  refine ao_r (r_len_osm (r1272.1.length : Int) Try.underlying44 rfl rfl rfl) rfl ?_
  refine ao_r (r_lss rfl rfl) rfl ?_
  refine ao_nil ?_
  refine aq_then ?_
  refine aw_cond rfl (fun hb1518 => ?_) (fun hb1518 => ?_)
  have q1519 := d_t hb1518
  obtain ⟨d1516, rfl⟩ : ∃ e, d1516 = e + 1 := ⟨d1516 - 1, by omega⟩
  replace h := is_cntS h
  refine aw_skip ?_
  refine aq_then ?_
  refine aw_seq ?_
  refine aw_block ?_
  refine aw_seq ?_
  refine aw_drawAll (by kernel_rfl) ?_
  refine an_r 0 (fun _ _ _ h => h) rfl (by kernel_rfl) (r_move rfl) rfl ?_
  refine an_r 1 (fun _ _ _ h => h) rfl (by kernel_rfl) (r_move rfl) rfl ?_
  refine an_r 2 (fun _ _ _ h => h) rfl (by kernel_rfl) (r_idxAddr_os Try.underlying44 Try.sizeOf49 rfl rfl rfl (show 0 ≤ i1515 from by omega) (show i1515 < (r1272.1.length : Int) from by omega)) rfl ?_
  refine an_r 3 (fun _ _ _ h => h) rfl (by kernel_rfl) (r_load_elemv (t := ty1) Try.isAgg49 Try.sizeOf49 rfl rfl (show i1515.toNat < r1272.1.length from by omega)) rfl ?_
  refine an_r 4 (fun _ _ _ h => h) rfl (by kernel_rfl) (r_load_part (τ := ty1) (y := ((s1505, ()) : (dy8 × Unit))) [] [] rfl Try.isAgg49 Try.sizeOf49 rfl rfl rfl rfl) rfl ?_
  refine an_r 5 (fun _ _ _ h => h) rfl (by kernel_rfl) (r_eq_st1 (m := 4) (xs := ((r1272.1.getD i1515.toNat ((List.replicate 4 0), ())).1 : dy8)) (ys := s1505) Try.underlying49 rfl rfl rfl rfl (by kernel_rfl) Try.underlying47 Try.underlying3 Try.isAgg47 Try.sizeOf47 Try.isAgg3 ⟨_, (rfl : Try.prog.info? 3 = some _), rfl⟩ (by kernel_rfl) rfl rfl rfl rfl rfl) rfl ?_
  refine an_r 6 (fun _ _ _ h => h) rfl (by kernel_rfl) (r_move rfl) rfl ?_
  refine an_readG 7 (x := .os 4) (by kernel_rfl) (fun _ _ _ h => h) rfl (by kernel_rfl) rfl (GV.T rfl) (fun hg1521 => r_move rfl) rfl ?_
  refine an_readG 8 (x := .int .i64 i1515) (by kernel_rfl) (fun _ _ _ h => h) rfl (by kernel_rfl) rfl (GV.T rfl) (fun hg1522 => r_move rfl) rfl ?_
  refine an_readG 9 (x := .elem 4 0 1 i1515.toNat) (by kernel_rfl) (fun _ _ _ h => h) rfl (by kernel_rfl) rfl (GV.T rfl) (fun hg1523 => Reads.strip 420 rfl (hg1523) (Reads.strip 421 rfl (hg1523) (r_idxAddr_os Try.underlying24 Try.sizeOf3 rfl rfl rfl (show 0 ≤ i1515 from by omega) (show i1515 < (r1270.1.length : Int) from by omega)))) rfl ?_
  refine an_readG 10 (x := .int .i64 (r1270.1.getD i1515.toNat 0)) (by kernel_rfl) (fun _ _ _ h => h) rfl (by kernel_rfl) rfl (GV.T rfl) (fun hg1524 => Reads.strip 422 rfl (hg1524) (r_load_elem_int Try.isAgg3 Try.sizeOf3 rfl rfl (show i1515.toNat < r1270.1.length from by omega))) rfl ?_
  refine an_readG 11 (x := .os 2) (by kernel_rfl) (fun _ _ _ h => h) rfl (by kernel_rfl) rfl (GV.T rfl) (fun hg1525 => r_move rfl) rfl ?_
  refine an_readG 12 (x := .int .i64 i1493) (by kernel_rfl) (fun _ _ _ h => h) rfl (by kernel_rfl) rfl (GV.T rfl) (fun hg1526 => r_move rfl) rfl ?_
  refine an_readG 13 (x := .elem 2 0 1 i1493.toNat) (by kernel_rfl) (fun _ _ _ h => h) rfl (by kernel_rfl) rfl (GV.T rfl) (fun hg1527 => Reads.strip 424 rfl (hg1527) (Reads.strip 425 rfl (hg1527) (r_idxAddr_os Try.underlying24 Try.sizeOf3 rfl rfl rfl (show 0 ≤ i1493 from by omega) (show i1493 < (r12.1.length : Int) from by omega)))) rfl ?_
  refine an_readG 14 (x := .int .i64 (r12.1.getD i1493.toNat 0)) (by kernel_rfl) (fun _ _ _ h => h) rfl (by kernel_rfl) rfl (GV.T rfl) (fun hg1528 => Reads.strip 426 rfl (hg1528) (r_load_elem_int Try.isAgg3 Try.sizeOf3 rfl rfl (show i1493.toNat < r12.1.length from by omega))) rfl ?_
  refine an_readG 15 (x := .bool (!(decide ((r1270.1.getD i1515.toNat 0) = (r12.1.getD i1493.toNat 0))))) (by kernel_rfl) (fun _ _ _ h => h) rfl (by kernel_rfl) rfl (GV.T rfl) (fun hg1529 => Reads.strip 423 rfl (hg1529) (Reads.strip 427 rfl (hg1529) (r_neq rfl rfl))) rfl ?_
  refine an_r 16 (fun _ _ _ h => h) rfl (by kernel_rfl) (r_andB rfl rfl) rfl ?_
  refine an_done rfl ?_
  refine aq_then ?_
  refine aw_cond rfl (fun hb1530 => ?_) (fun hb1530 => ?_)
  obtain ⟨q1531, q1532⟩ := and_t hb1530
  have q1533 : ¬ ((r1270.1.getD i1515.toNat 0) = (r12.1.getD i1493.toNat 0)) := d_f (not_t q1532)
  replace h := is_if hb1530 h
  refine aw_seq ?_
  refine aw_region ?_
  refine ao_r (r_assign rfl) rfl ?_
  refine ao_nil ?_
  refine aq_then ?_
  refine aw_ret ?_
  refine aq_in_ret ?_
  refine aq_then_ret ?_
  refine aq_then_ret ?_
  refine aq_in_ret ?_
  refine aq_in_ret ?_
  refine aq_then_ret ?_
  refine aq_then_ret ?_
  refine aq_in_ret ?_
  refine aq_then_ret ?_
  refine aq_ret ?_
  obtain rfl := is_some h
  exact aq_finx (l := [.tmp 2]) (xs := [.bool false]) idn [.bool false] [] rfl (by exact ⟨rfl, trivial⟩) (by exact ⟨ad_ren rfl, trivial⟩) (by exact trivial) rfl (nk rfl) rfl rfl ⟨rfl, rfl⟩
  replace h := is_else (ne_t hb1530) h
  refine aw_skip ?_
  refine aq_in ?_
  refine aq_then ?_
  refine aw_region ?_
  refine ao_r (r_move rfl) rfl ?_
  refine ao_r (r_addI rfl rfl (wrap_id (by omega) (by omega))) rfl ?_
  refine ao_r (r_assign rfl) rfl ?_
  refine ao_nil ?_
  exact aq_again (AL.sub (sub_r1 idn (nk rfl) (by kernel_rfl)) (ih1516 d1516 (i1515 + 1) () (by omega) ⟨by omega, (by (try simp only [List.length_set, List.length_append, List.length_cons, List.length_nil, List.length_replicate, List.length_take, List.length_drop]) <;> omega), (by (try simp only [List.length_set, List.length_append, List.length_cons, List.length_nil, List.length_replicate, List.length_take, List.length_drop]) <;> omega)⟩ h))
  have q1520 := d_f hb1518
  obtain rfl : d1516 = 0 := by omega
  replace h := is_cnt0 h
  refine aw_exit ?_
  refine aq_then_exit ?_
  refine aq_then_exit ?_
  refine aq_in_exit ?_
  refine aq_in ?_
  refine aq_then ?_
  refine aw_region ?_
  refine ao_r (r_move rfl) rfl ?_
  refine ao_r (r_addI rfl rfl (wrap_id (by omega) (by omega))) rfl ?_
  refine ao_r (r_assign rfl) rfl ?_
  refine ao_nil ?_
  exact aq_again (AL.sub (sub_r1 idn (nk rfl) (by kernel_rfl)) (ih1494 d1494 (i1493 + 1) (s1499, s1502) (by omega) ⟨by omega, (by (try simp only [List.length_set, List.length_append, List.length_cons, List.length_nil, List.length_replicate, List.length_take, List.length_drop]) <;> omega), (by (try simp only [List.length_set, List.length_append, List.length_cons, List.length_nil, List.length_replicate, List.length_take, List.length_drop]) <;> omega)⟩ h))
  refine aw_seq ?_
  refine aw_region ?_
  refine ao_r (r_move rfl) rfl ?_
  refine ao_r (r_move rfl) rfl ?_
  refine ao_r (r_idxAddr_os Try.underlying24 Try.sizeOf3 rfl rfl rfl (show 0 ≤ i1493 from by omega) (show i1493 < (r12.1.length : Int) from by omega)) rfl ?_
  refine ao_r (r_load_elem_int Try.isAgg3 Try.sizeOf3 rfl rfl (show i1493.toNat < r12.1.length from by omega)) rfl ?_
  refine ao_r (r_move rfl) rfl ?_
  refine ao_r (r_gtr rfl rfl) rfl ?_
  refine ao_nil ?_
  refine aq_then ?_
  refine aw_cond rfl (fun hb1534 => ?_) (fun hb1534 => ?_)
  have q1535 : s1492.2 < (r12.1.getD i1493.toNat 0) := d_t hb1534
  replace h := is_if (d_t hb1534) h
  refine aw_region ?_
  refine ao_r (r_move rfl) rfl ?_
  refine ao_r (r_move rfl) rfl ?_
  refine ao_r (r_idxAddr_os Try.underlying24 Try.sizeOf3 rfl rfl rfl (show 0 ≤ i1493 from by omega) (show i1493 < (r12.1.length : Int) from by omega)) rfl ?_
  refine ao_r (r_load_elem_int Try.isAgg3 Try.sizeOf3 rfl rfl (show i1493.toNat < r12.1.length from by omega)) rfl ?_
  refine ao_r (r_assign rfl) rfl ?_
  refine ao_nil ?_
  exact aq_then (AW.sub (sub_r1 idn (nk rfl) (by kernel_rfl)) (j1504 (r12.1.getD i1493.toNat 0) trivial h))
  have q1536 : ¬ (s1492.2 < (r12.1.getD i1493.toNat 0)) := d_f hb1534
  replace h := is_else (d_f hb1534) h
  refine aw_skip ?_
  exact aq_then (AW.sub (sub_r1 idn (nk rfl) (by kernel_rfl)) (j1504 s1492.2 trivial h))
  refine aw_seq ?_
  refine aw_region ?_
  refine ao_r (r_move rfl) rfl ?_
  refine ao_r (r_move rfl) rfl ?_
  refine ao_r (r_idxAddr_os Try.underlying24 Try.sizeOf3 rfl rfl rfl (show 0 ≤ i1493 from by omega) (show i1493 < (r12.1.length : Int) from by omega)) rfl ?_
  refine ao_r (r_load_elem_int Try.isAgg3 Try.sizeOf3 rfl rfl (show i1493.toNat < r12.1.length from by omega)) rfl ?_
  refine ao_r (r_move rfl) rfl ?_
  refine ao_r (r_lss rfl rfl) rfl ?_
  refine ao_nil ?_
  refine aq_then ?_
  refine aw_cond rfl (fun hb1537 => ?_) (fun hb1537 => ?_)
  have q1538 : (r12.1.getD i1493.toNat 0) < s1492.1 := d_t hb1537
  replace h := is_if (d_t hb1537) h
  refine aw_region ?_
  refine ao_r (r_move rfl) rfl ?_
  refine ao_r (r_move rfl) rfl ?_
  refine ao_r (r_idxAddr_os Try.underlying24 Try.sizeOf3 rfl rfl rfl (show 0 ≤ i1493 from by omega) (show i1493 < (r12.1.length : Int) from by omega)) rfl ?_
  refine ao_r (r_load_elem_int Try.isAgg3 Try.sizeOf3 rfl rfl (show i1493.toNat < r12.1.length from by omega)) rfl ?_
  refine ao_r (r_assign rfl) rfl ?_
  refine ao_nil ?_
  exact aq_then (AW.sub (sub_r1 idn (nk rfl) (by kernel_rfl)) (j1501 (r12.1.getD i1493.toNat 0) trivial h))
  have q1539 : ¬ ((r12.1.getD i1493.toNat 0) < s1492.1) := d_f hb1537
  replace h := is_else (d_f hb1537) h
  refine aw_skip ?_
  exact aq_then (AW.sub (sub_r1 idn (nk rfl) (by kernel_rfl)) (j1501 s1492.1 trivial h))
  have q1498 := d_f hb1496
  obtain rfl : d1494 = 0 := by omega
  replace h := is_cnt0 h
  refine aw_exit ?_
  refine aq_then_exit ?_
  refine aq_then_exit ?_
  refine aq_in_exit ?_
  refine aq_then ?_
  refine aw_seq ?_
  refine aw_region ?_
  refine ao_r (r_move rfl) rfl ?_
  refine ao_r (r_move rfl) rfl ?_
  refine ao_r (r_move rfl) rfl ?_
  refine ao_r (r_sub rfl rfl) rfl ?_
  refine ao_r (r_leq rfl rfl) rfl ?_
  refine ao_r (r_move rfl) rfl ?_
  refine ao_readG (x := .int .i64 r16.2.1) rfl (GV.T rfl) (fun hg1540 => by
        have q1541 := d_t hg1540
        exact r_move rfl) rfl ?_
  refine ao_readG (x := .bool (decide (0 ≤ r16.2.1))) rfl (GV.T rfl) (fun hg1542 => by
        have q1543 := d_t hg1542
        exact Reads.strip 436 rfl (hg1542) (r_geq rfl rfl)) rfl ?_
  refine ao_r (r_andB rfl rfl) rfl ?_
  refine ao_r (r_move rfl) rfl ?_
  refine ao_readG (x := .os 3) rfl (GV.T rfl) (fun hg1544 => by
        obtain ⟨q1545, q1546⟩ := and_t hg1544
        have q1547 := d_t q1545
        have q1548 := d_t q1546
        exact r_move rfl) rfl ?_
  refine ao_readG (x := .int .i64 (r16.1.length : Int)) rfl (GV.T rfl) (fun hg1549 => by
        obtain ⟨q1550, q1551⟩ := and_t hg1549
        have q1552 := d_t q1550
        have q1553 := d_t q1551
        exact Reads.strip 440 rfl (hg1549) (r_len_osm (r16.1.length : Int) Try.underlying24 rfl rfl rfl)) rfl ?_
  refine ao_readG (x := .os 0) rfl (GV.T rfl) (fun hg1554 => by
        obtain ⟨q1555, q1556⟩ := and_t hg1554
        have q1557 := d_t q1555
        have q1558 := d_t q1556
        exact r_move rfl) rfl ?_
  refine ao_readG (x := .int .i64 (r2.length : Int)) rfl (GV.T rfl) (fun hg1559 => by
        obtain ⟨q1560, q1561⟩ := and_t hg1559
        have q1562 := d_t q1560
        have q1563 := d_t q1561
        exact Reads.strip 442 rfl (hg1559) (r_len_osm (r2.length : Int) Try.underlying24 rfl rfl rfl)) rfl ?_
  refine ao_readG (x := .bool (decide ((r16.1.length : Int) = (r2.length : Int)))) rfl (GV.T rfl) (fun hg1564 => by
        obtain ⟨q1565, q1566⟩ := and_t hg1564
        have q1567 := d_t q1565
        have q1568 := d_t q1566
        exact Reads.strip 441 rfl (hg1564) (Reads.strip 443 rfl (hg1564) (r_eql rfl rfl))) rfl ?_
  refine ao_r (r_andB rfl rfl) rfl ?_
  refine ao_r (r_assign rfl) rfl ?_
  refine ao_nil ?_
  refine aq_then ?_
  refine aw_ret ?_
  refine aq_ret ?_
  obtain rfl := is_some h
  exact aq_finx (l := [.tmp 2]) (xs := [.bool (((decide (r16.2.1 ≤ (IntKind.wrap .i64 (s1492.2 - s1492.1)))) && (decide (0 ≤ r16.2.1))) && (decide ((r16.1.length : Int) = (r2.length : Int))))]) idn [.bool (((decide (r16.2.1 ≤ (IntKind.wrap .i64 (s1492.2 - s1492.1)))) && (decide (0 ≤ r16.2.1))) && (decide ((r16.1.length : Int) = (r2.length : Int))))] [] rfl (by exact ⟨rfl, trivial⟩) (by exact ⟨ad_ren rfl, trivial⟩) (by exact trivial) rfl (nk rfl) rfl rfl ⟨rfl, rfl⟩
  refine aw_seq ?_
  refine aw_region ?_
  refine ao_r (r_move rfl) rfl ?_
  refine ao_nil ?_
  refine aq_then ?_
  refine aw_cond rfl (fun hb1569 => ?_) (fun hb1569 => ?_)
  replace h := is_if hb1569 h
  refine aw_seq ?_
  refine aw_region ?_
  refine ao_r (r_move rfl) rfl ?_
  obtain ⟨r1570, r1570h, h⟩ := is_bind h
  refine ao_call [] 14 trivial (c_impl_FromLetters (is_mk r1570h)) Try.func6 rfl rfl rfl rfl ⟨ad_os0 rfl, trivial⟩ trivial rfl rfl rfl rfl rfl rfl rfl (fun r' H' hr => ?_)
  obtain ⟨rfl, rfl⟩ := hr
  refine ao_norm (y := .tup [.os 14, .bool r1570.2]) (H' := [(0, .row ty7 r2), (1, .row ty4 r4.1), (2, .row ty4 r6.1), (3, .row ty7 r8.1), (4, .row ty7 r10.1), (5, .row ty7 r12.1), (6, .row ty7 r14.1), (7, .row ty7 r16.1), (8, .row ty7 r18.1), (9, .row (.int .u8) r20), (10, .row ty4 r22), (11, .row ty7 r24.1), (12, .row ty7 r26.1), (13, .row (.int .u8) r30), (14, .row ty4 r1570.1)]) rfl rfl ?_
  refine row_len_o 14 (r1570.1.length : Int) rfl rfl (fun hr1571 => ?_)
  refine ao_r (r_move rfl) rfl ?_
  refine ao_r (r_extract rfl rfl) rfl ?_
  refine ao_r (r_extract rfl rfl) rfl ?_
  refine ao_r (r_assign rfl) rfl ?_
  refine ao_r (r_assign rfl) rfl ?_
  refine ao_nil ?_
  refine aq_then ?_
  refine aw_seq ?_
  refine aw_region ?_
  refine ao_r (r_move rfl) rfl ?_
  obtain ⟨r1572, r1572h, h⟩ := is_bind h
  refine ao_call [] 15 trivial (c_impl_OrderWays (is_mk r1572h)) Try.func25 rfl rfl rfl rfl ⟨ad_os0 rfl, trivial⟩ trivial rfl rfl rfl rfl rfl rfl rfl (fun r' H' hr => ?_)
  obtain ⟨rfl, rfl⟩ := hr
  refine ao_norm (y := .tup [.os 15, .bool r1572.2]) (H' := [(0, .row ty7 r2), (1, .row ty4 r4.1), (2, .row ty4 r6.1), (3, .row ty7 r8.1), (4, .row ty7 r10.1), (5, .row ty7 r12.1), (6, .row ty7 r14.1), (7, .row ty7 r16.1), (8, .row ty7 r18.1), (9, .row (.int .u8) r20), (10, .row ty4 r22), (11, .row ty7 r24.1), (12, .row ty7 r26.1), (13, .row (.int .u8) r30), (14, .row ty4 r1570.1), (15, .row ty7 r1572.1)]) rfl rfl ?_
  refine row_len_o 15 (r1572.1.length : Int) rfl rfl (fun hr1573 => ?_)
  refine ao_r (r_move rfl) rfl ?_
  refine ao_r (r_extract rfl rfl) rfl ?_
  refine ao_r (r_extract rfl rfl) rfl ?_
  refine ao_r (r_assign rfl) rfl ?_
  refine ao_r (r_assign rfl) rfl ?_
  refine ao_nil ?_
  refine aq_then ?_
  refine aw_seq ?_
  refine aw_region ?_
  refine ao_r (r_move rfl) rfl ?_
  obtain ⟨r1574, r1574h, h⟩ := is_bind h
  refine ao_call [] 16 trivial (c_impl_OrderWays (is_mk r1574h)) Try.func25 rfl rfl rfl rfl ⟨ad_os0 rfl, trivial⟩ trivial rfl rfl rfl rfl rfl rfl rfl (fun r' H' hr => ?_)
  obtain ⟨rfl, rfl⟩ := hr
  refine ao_norm (y := .tup [.os 16, .bool r1574.2]) (H' := [(0, .row ty7 r2), (1, .row ty4 r4.1), (2, .row ty4 r6.1), (3, .row ty7 r8.1), (4, .row ty7 r10.1), (5, .row ty7 r12.1), (6, .row ty7 r14.1), (7, .row ty7 r16.1), (8, .row ty7 r18.1), (9, .row (.int .u8) r20), (10, .row ty4 r22), (11, .row ty7 r24.1), (12, .row ty7 r26.1), (13, .row (.int .u8) r30), (14, .row ty4 r1570.1), (15, .row ty7 r1572.1), (16, .row ty7 r1574.1)]) rfl rfl ?_
  refine row_len_o 16 (r1574.1.length : Int) rfl rfl (fun hr1575 => ?_)
  refine ao_r (r_move rfl) rfl ?_
  refine ao_r (r_extract rfl rfl) rfl ?_
  refine ao_r (r_extract rfl rfl) rfl ?_
  refine ao_r (r_assign rfl) rfl ?_
  refine ao_r (r_assign rfl) rfl ?_
  refine ao_nil ?_
  refine aq_then ?_
  refine aw_seq ?_
  refine aw_region ?_
  refine ao_r (r_move rfl) rfl ?_
  refine ao_r (r_not rfl) rfl ?_
  refine ao_r (r_move rfl) rfl ?_
  refine ao_readG (x := .bool r1572.2) rfl (GV.F rfl) (fun hg1576 => r_move rfl) rfl ?_
  refine ao_readG (x := .bool (!r1572.2)) rfl (GV.F rfl) (fun hg1577 => Reads.strip 258 rfl (hg1577) (r_not rfl)) rfl ?_
  refine ao_r (r_orB rfl rfl) rfl ?_
  refine ao_r (r_move rfl) rfl ?_
  refine ao_readG (x := .bool r1574.2) rfl (GV.F rfl) (fun hg1578 => by
        obtain ⟨q1579, q1580⟩ := or_f (not_t hg1578)
        exact r_move rfl) rfl ?_
  refine ao_readG (x := .bool (!r1574.2)) rfl (GV.F rfl) (fun hg1581 => by
        obtain ⟨q1582, q1583⟩ := or_f (not_t hg1581)
        exact Reads.strip 262 rfl (hg1581) (r_not rfl)) rfl ?_
  refine ao_r (r_orB rfl rfl) rfl ?_
  refine ao_r (r_move rfl) rfl ?_
  refine ao_readG (x := .os 15) rfl (GV.F rfl) (fun hg1584 => by
        obtain ⟨q1585, q1586⟩ := or_f (not_t hg1584)
        obtain ⟨q1587, q1588⟩ := or_f q1585
        exact r_move rfl) rfl ?_
  refine ao_readG (x := .os 16) rfl (GV.F rfl) (fun hg1589 => by
        obtain ⟨q1590, q1591⟩ := or_f (not_t hg1589)
        obtain ⟨q1592, q1593⟩ := or_f q1590
        exact r_move rfl) rfl ?_
  refine ao_scallG (r := .bool (p_laws_vInts r1572.1 r1574.1)) rfl (GV.F rfl) (fun hg1594 => by
        obtain ⟨q1595, q1596⟩ := or_f (not_t hg1594)
        obtain ⟨q1597, q1598⟩ := or_f q1595
        exact SCall.strip 266 rfl (hg1594) (SCall.strip 267 rfl (hg1594) (scall (c_laws_vInts (is_mk (rfl : p_laws_vInts r1572.1 r1574.1 = _))) rfl Try.func24 rfl rfl rfl rfl (fun σ => ⟨ad_os0 rfl, ad_os0 rfl, trivial⟩)))) rfl ?_
  refine ao_readG (x := .bool (!(p_laws_vInts r1572.1 r1574.1))) rfl (GV.F rfl) (fun hg1599 => by
        obtain ⟨q1600, q1601⟩ := or_f (not_t hg1599)
        obtain ⟨q1602, q1603⟩ := or_f q1600
        exact Reads.strip 268 rfl (hg1599) (r_not rfl)) rfl ?_
  refine ao_r (r_orB rfl rfl) rfl ?_
  refine ao_r (r_move rfl) rfl ?_
  refine ao_readG (x := .os 11) rfl (GV.F rfl) (fun hg1604 => by
        obtain ⟨q1605, q1606⟩ := or_f (not_t hg1604)
        obtain ⟨q1607, q1608⟩ := or_f q1605
        obtain ⟨q1609, q1610⟩ := or_f q1607
        exact r_move rfl) rfl ?_
  refine ao_readG (x := .int .i64 (r24.1.length : Int)) rfl (GV.F rfl) (fun hg1611 => by
        obtain ⟨q1612, q1613⟩ := or_f (not_t hg1611)
        obtain ⟨q1614, q1615⟩ := or_f q1612
        obtain ⟨q1616, q1617⟩ := or_f q1614
        exact Reads.strip 272 rfl (hg1611) (r_len_osm (r24.1.length : Int) Try.underlying24 rfl rfl rfl)) rfl ?_
  refine ao_readG (x := .os 10) rfl (GV.F rfl) (fun hg1618 => by
        obtain ⟨q1619, q1620⟩ := or_f (not_t hg1618)
        obtain ⟨q1621, q1622⟩ := or_f q1619
        obtain ⟨q1623, q1624⟩ := or_f q1621
        exact r_move rfl) rfl ?_
  refine ao_readG (x := .int .i64 (r22.length : Int)) rfl (GV.F rfl) (fun hg1625 => by
        obtain ⟨q1626, q1627⟩ := or_f (not_t hg1625)
        obtain ⟨q1628, q1629⟩ := or_f q1626
        obtain ⟨q1630, q1631⟩ := or_f q1628
        exact Reads.strip 274 rfl (hg1625) (r_len_osm (r22.length : Int) Try.underlying26 rfl rfl rfl)) rfl ?_
  refine ao_readG (x := .int .i64 (IntKind.wrap .i64 (6 * (r22.length : Int)))) rfl (GV.F rfl) (fun hg1632 => by
        obtain ⟨q1633, q1634⟩ := or_f (not_t hg1632)
        obtain ⟨q1635, q1636⟩ := or_f q1633
        obtain ⟨q1637, q1638⟩ := or_f q1635
        exact Reads.strip 275 rfl (hg1632) (r_mul rfl rfl)) rfl ?_
  refine ao_readG (x := .bool (!(decide ((r24.1.length : Int) = (IntKind.wrap .i64 (6 * (r22.length : Int))))))) rfl (GV.F rfl) (fun hg1639 => by
        obtain ⟨q1640, q1641⟩ := or_f (not_t hg1639)
        obtain ⟨q1642, q1643⟩ := or_f q1640
        obtain ⟨q1644, q1645⟩ := or_f q1642
        exact Reads.strip 273 rfl (hg1639) (Reads.strip 276 rfl (hg1639) (r_neq rfl rfl))) rfl ?_
  refine ao_r (r_orB rfl rfl) rfl ?_
  refine ao_nil ?_
  refine aq_then ?_
  refine aw_cond rfl (fun hb1646 => ?_) (fun hb1646 => ?_)
  replace h := is_if hb1646 h
  refine aw_seq ?_
  refine aw_region ?_
  refine ao_r (r_assign rfl) rfl ?_
  refine ao_nil ?_
  refine aq_then ?_
  refine aw_ret ?_
  refine aq_then_ret ?_
  refine aq_ret ?_
  obtain rfl := is_some h
  exact aq_finx (l := [.tmp 2]) (xs := [.bool false]) idn [.bool false] [] rfl (by exact ⟨rfl, trivial⟩) (by exact ⟨ad_ren rfl, trivial⟩) (by exact trivial) rfl (nk rfl) rfl rfl ⟨rfl, rfl⟩
  obtain ⟨q1647, q1648⟩ := or_f hb1646
  obtain ⟨q1649, q1650⟩ := or_f q1647
  obtain ⟨q1651, q1652⟩ := or_f q1649
  obtain ⟨q1653, q1654⟩ := or_f q1651
  have q1655 := d_t (not_f q1648)
  replace h := is_else (ne_t hb1646) h
  refine aw_skip ?_
  exact aq_then (AW.sub (sub_r1 (rn [(2, 3), (3, 5), (4, 7)]) (nk rfl) (by kernel_rfl)) (j1254 () trivial h))
  replace h := is_else (ne_t hb1569) h
  refine aw_skip ?_
  exact aq_then (AW.sub (sub_r1 (rn [(2, 3), (3, 5), (4, 7)]) (nk rfl) (by kernel_rfl)) (j1254 () trivial h))
end Go.GA
