/- Walks: what the Go functions compute, by the printed lines below; no further conditions. -/
import Derived.Test.YtheplbbbfbbjcaaC7rw
namespace Go.GA
open Go Go.Proofs
set_option maxRecDepth 100000
set_option maxHeartbeats 2000000
set_option linter.unusedVariables false
set_option linter.unusedSimpArgs false
theorem c_spec_RunTable {fu : Nat} {x0 : (List Int)} {x1 : Int} {r : (List (List Int)) × Bool} (h : Is (p_spec_RunTable fu x0 x1) (some r)) :
    ACalls Try.prog 49 [.v (.arr 6 (.int .i64)) x0, .int .i64 x1] [] (fun r' H' => r' = .tup [.os 0, .bool r.2] ∧ H' = [(0, .row (.arr 2 (.int .i64)) r.1)]) := by
  unfold p_spec_RunTable at h
  refine ac_enter ⟨38, 0⟩ Try.func49 rfl rfl rfl rfl rfl (fun Γ => ?_)
  refine aw_seq ?_
  refine aw_region ?_
  refine ao_eff trivial (e_box 0 rfl rfl rfl rfl rfl rfl) rfl ?_
  refine ao_read trivial (r_assign rfl) rfl ?_
  refine ao_read trivial (r_assign rfl) rfl ?_
  refine ao_nil ?_
  refine aq_then ?_
  refine aw_seq ?_
  refine aw_region ?_
  refine ao_eff trivial (e_buildSlice (l := []) (t := (.arr 2 (.int .i64))) 1 ([] : (List (List Int))) rfl Try.underlying64 Try.zeroValue30 Try.sizeOf30 rfl rfl rfl rfl rfl rfl rfl) rfl ?_
  refine ao_read trivial (r_assign rfl) rfl ?_
  refine ao_nil ?_
  refine aq_then ?_
  refine aw_seq ?_
  refine aw_seq ?_
  refine aw_region ?_
  refine ao_read trivial (r_load_arr rfl Try.isAgg43 Try.sizeOf43 rfl rfl rfl) rfl ?_
  obtain ⟨r1, r1h, h⟩ := is_bind h
  refine ao_scall trivial (scall (c_spec_l7Die (is_mk r1h)) rfl Try.func126 rfl rfl rfl rfl (fun σ => ⟨ad_ren rfl, trivial⟩)) rfl ?_
  refine ao_read trivial (r_not rfl) rfl ?_
  refine ao_read trivial (r_move rfl) rfl ?_
  refine ao_readG (x := .int .i64 x1) rfl (GV.F rfl) (fun hg2 => r_move rfl) rfl ?_
  refine ao_scallG (r := .bool (p_spec_l7Goal x1)) rfl (GV.F rfl) (fun hg3 => SCall.strip 14 rfl (hg3) (scall (c_spec_l7Goal (is_mk (rfl : p_spec_l7Goal x1 = _))) rfl Try.func127 rfl rfl rfl rfl (fun σ => ⟨ad_ren rfl, trivial⟩))) rfl ?_
  refine ao_readG (x := .bool (!(p_spec_l7Goal x1))) rfl (GV.F rfl) (fun hg4 => Reads.strip 15 rfl (hg4) (r_not rfl)) rfl ?_
  refine ao_read trivial (r_orB rfl rfl) rfl ?_
  refine ao_nil ?_
  refine aq_then ?_
  refine aw_cond rfl (fun hb5 => ?_) (fun hb5 => ?_)
  · replace h := is_if hb5 h
    refine aw_seq ?_
    refine aw_region ?_
    refine ao_read trivial (r_move rfl) rfl ?_
    refine ao_read trivial (r_assign rfl) rfl ?_
    refine ao_read trivial (r_assign rfl) rfl ?_
    refine ao_nil ?_
    refine aq_then ?_
    refine aw_ret ?_
    refine aq_then_ret ?_
    refine aq_ret ?_
    obtain rfl := is_some h
    exact aq_finx (l := [.tmp 4, .tmp 5]) (xs := [.os 1, .bool false]) (rn [(0, 1)]) [.os 0, .bool false] [(0, .row (.arr 2 (.int .i64)) ([] : (List (List Int))))] rfl (by exact ⟨rfl, rfl, trivial⟩) (by exact ⟨ad_ren rfl, ad_ren rfl, trivial⟩) (by exact ⟨⟨_, rfl, rfl⟩, trivial⟩) rfl (nk rfl) rfl rfl ⟨rfl, rfl⟩
  · obtain ⟨q6, q7⟩ := or_f hb5
    replace h := is_else (ne_t hb5) h
    refine aw_skip ?_
    refine aq_then ?_
    refine aw_seq ?_
    refine aw_region ?_
    refine ao_read trivial (r_load_arr rfl Try.isAgg43 Try.sizeOf43 rfl rfl rfl) rfl ?_
    refine ao_read trivial (r_move rfl) rfl ?_
    obtain ⟨r8, r8h, h⟩ := is_bind h
    refine ao_call [] 2 trivial (c_spec_l7Run (is_mk r8h)) Try.func130 rfl rfl rfl rfl ⟨ad_ren rfl, ad_ren rfl, trivial⟩ trivial rfl rfl rfl rfl rfl rfl rfl (fun r' H' hr => ?_)
    obtain ⟨rfl, rfl⟩ := hr
    refine ao_norm (y := .os 2) (H' := [(1, .row (.arr 2 (.int .i64)) ([] : (List (List Int)))), (0, .var [.arr (.int .i64) 6 x0]), (2, .row (.int .i64) r8)]) rfl rfl ?_
    refine row_len_o 2 (r8.length : Int) rfl rfl (fun hr9 => ?_)
    refine ao_read trivial (r_assign rfl) rfl ?_
    refine ao_nil ?_
    refine aq_then ?_
    refine aw_seq ?_
    refine aw_seq ?_
    refine aw_region ?_
    refine ao_read trivial (r_assign rfl) rfl ?_
    refine ao_nil ?_
    refine aq_then ?_
    refine aw_block ?_
    refine aw_loop (AL.sub (sub_mk (rn [(0, 1), (1, 2)]) (by exact ⟨⟨_, rfl, ad_ren rfl⟩, ⟨_, rfl, ad_ren rfl⟩, ⟨_, rfl, ad_ren rfl⟩, ⟨_, rfl, ad_ren rfl⟩, trivial⟩) (by exact ⟨⟨_, rfl, rfl⟩, ⟨_, rfl, rfl⟩, trivial⟩) (by rfl) (nk rfl)) (al_whl (fun (s10 : Int × (List (List Int))) => [(1, .int .i64 x1), (6, .os 0), (7, .os 1), (8, .int .i64 s10.1)]) (fun (s10 : Int × (List (List Int))) => [(0, .row (.arr 2 (.int .i64)) s10.2), (1, .row (.int .i64) r8)]) (fun (s10 : Int × (List (List Int))) => 1 ≤ s10.1) h (by (try simp only [List.length_set, List.length_append, List.length_cons, List.length_nil, List.length_replicate, List.length_take, List.length_drop]) <;> omega) (fun d12 s10 hI h ih12 => ?_)))
    replace h := is_whlS h
    refine al_round ?_
    refine aw_seq ?_
    refine aw_seq ?_
    refine aw_region ?_
    refine ao_read trivial (r_move rfl) rfl ?_
    refine ao_read trivial (r_move rfl) rfl ?_
    refine ao_read trivial (r_leq rfl rfl) rfl ?_
    refine ao_nil ?_
    refine aq_then ?_
    refine aw_cond rfl (fun hb14 => ?_) (fun hb14 => ?_)
    · have q15 := d_t hb14
      replace h := is_if (d_t hb14) h
      refine aw_skip ?_
      refine aq_then ?_
      refine aw_seq ?_
      refine aw_block ?_
      obtain ⟨g17, h⟩ := is_guard h
      obtain ⟨r18, r18h, h⟩ := is_bind h
      obtain ⟨r19, r19h, h⟩ := is_bind h
      refine aw_draw 9 (by kernel_rfl) (by kernel_rfl) ?_
      refine an_to [(1, .int .i64 x1), (6, .os 0), (7, .os 1), (8, .int .i64 s10.1), (27, .os 0), (35, .os 2)] [(0, .row (.arr 2 (.int .i64)) s10.2), (1, .row (.int .i64) r8), (2, .row (.arr 2 (.int .i64)) ([r19] : (List (List Int))))] ?_ (fun key => ?_)
      · refine aq_tail rfl ?_
        obtain ⟨g20, h⟩ := is_guard h
        refine ao_eff trivial (e_append (t := (.arr 2 (.int .i64))) 3 rfl Try.underlying64 (rfl : Try.prog.info? 30 = some _) rfl rfl rfl rfl rfl rfl rfl (src_os rfl) (show s10.2.length + ([r19] : (List (List Int))).length ≤ 1000000000 from by (try simp only [List.length_cons, List.length_nil]) <;> omega) rfl rfl) rfl ?_
        refine ao_read trivial (r_assign rfl) rfl ?_
        refine ao_nil ?_
        refine aq_in ?_
        refine aq_then ?_
        refine aw_region ?_
        refine ao_read trivial (r_move rfl) rfl ?_
        refine ao_read trivial (r_addI rfl rfl (wrap_id (by omega) (by omega))) rfl ?_
        refine ao_read trivial (r_assign rfl) rfl ?_
        refine ao_nil ?_
        exact aq_again (AL.sub (sub_mk (rn [(0, 3)]) (by exact ⟨⟨_, rfl, ad_ren rfl⟩, ⟨_, rfl, ad_ren rfl⟩, ⟨_, rfl, ad_ren rfl⟩, ⟨_, rfl, ad_ren rfl⟩, trivial⟩) (by exact ⟨⟨_, rfl, rfl⟩, ⟨_, rfl, rfl⟩, trivial⟩) (by rfl) (nk rfl)) (ih12 ((s10.1 + 1), (s10.2 ++ [r19])) (by (try simp only [List.length_set, List.length_append, List.length_cons, List.length_nil, List.length_replicate, List.length_take, List.length_drop]) <;> omega) h))
      · refine an_read 0 (by kernel_rfl) (fun _ _ _ h => h) rfl (by kernel_rfl) trivial (r_move rfl) rfl ?_
        refine an_read 1 (by kernel_rfl) (fun _ _ _ h => h) rfl (by kernel_rfl) trivial (r_move rfl) rfl ?_
        refine an_read 2 (by kernel_rfl) (fun _ _ _ h => h) rfl (by kernel_rfl) trivial (r_move rfl) rfl ?_
        refine an_read 3 (by kernel_rfl) (fun _ _ _ h => h) rfl (by kernel_rfl) trivial (r_idxAddr_os Try.underlying36 Try.sizeOf3 rfl rfl rfl (show 0 ≤ s10.1 from by omega) (show s10.1 < (r8.length : Int) from by omega)) rfl ?_
        refine an_read 4 (by kernel_rfl) (fun _ _ _ h => h) rfl (by kernel_rfl) trivial (r_load_elem_int Try.isAgg3 Try.sizeOf3 rfl rfl (show s10.1.toNat < r8.length from by omega)) rfl ?_
        refine an_read 5 (by kernel_rfl) (fun _ _ _ h => h) rfl (by kernel_rfl) trivial (r_move rfl) rfl ?_
        refine an_scall 6 (by kernel_rfl) (fun _ _ _ h => h) rfl (by kernel_rfl) trivial (scall (c_spec_l2All (is_mk r18h)) rfl Try.func106 rfl rfl rfl rfl (fun σ => ⟨ad_ren rfl, trivial⟩)) rfl ?_
        refine an_scall 7 (by kernel_rfl) (fun _ _ _ h => h) rfl (by kernel_rfl) trivial (scall (c_spec_l2Cut (is_mk r19h)) rfl Try.func105 rfl rfl rfl rfl (fun σ => ⟨ad_ren rfl, ad_ren rfl, trivial⟩)) rfl ?_
        refine an_explore 2 rfl ?_
        refine ax_all [8] (by kernel_rfl) ⟨?_, trivial⟩
        refine axo_eff 8 rfl trivial (e_buildSlice (l := [(0, .tmp 34)]) (t := (.arr 2 (.int .i64))) 2 ([r19] : (List (List Int))) rfl Try.underlying64 Try.zeroValue30 Try.sizeOf30 rfl rfl rfl rfl rfl rfl rfl) rfl rfl ?_
        exact ax_done rfl (AQ.sub (sub_mk idn (by exact ⟨⟨_, rfl, ad_ren rfl⟩, ⟨_, rfl, ad_ren rfl⟩, ⟨_, rfl, ad_ren rfl⟩, ⟨_, rfl, ad_ren rfl⟩, ⟨_, rfl, ad_ren rfl⟩, ⟨_, rfl, ad_ren rfl⟩, trivial⟩) (by exact ⟨⟨_, rfl, rfl⟩, ⟨_, rfl, rfl⟩, ⟨_, rfl, rfl⟩, trivial⟩) (by rfl) (nk rfl)) key)
    · have q16 := d_f hb14
      replace h := is_else (d_f hb14) h
      refine aw_exit ?_
      refine aq_then_exit ?_
      refine aq_then_exit ?_
      refine aq_in_exit ?_
      refine aq_then ?_
      refine aw_seq ?_
      refine aw_region ?_
      refine ao_read trivial (r_move rfl) rfl ?_
      refine ao_read trivial (r_assign rfl) rfl ?_
      refine ao_read trivial (r_assign rfl) rfl ?_
      refine ao_nil ?_
      refine aq_then ?_
      refine aw_ret ?_
      refine aq_ret ?_
      obtain rfl := is_some h
      exact aq_finx (l := [.tmp 4, .tmp 5]) (xs := [.os 0, .bool true]) idn [.os 0, .bool true] [(0, .row (.arr 2 (.int .i64)) s10.2)] rfl (by exact ⟨rfl, rfl, trivial⟩) (by exact ⟨ad_ren rfl, ad_ren rfl, trivial⟩) (by exact ⟨⟨_, rfl, rfl⟩, trivial⟩) rfl (nk rfl) rfl rfl ⟨rfl, rfl⟩
theorem c_laws_rPairs {x0 : (List (List Int))} {x1 : (List (List Int))} {r : Bool} (h : Is (p_laws_rPairs x0 x1) r) :
    Scalar Try.prog 50 [.v (.slice (.arr 2 (.int .i64))) x0, .v (.slice (.arr 2 (.int .i64))) x1] (.bool r) := by
  unfold p_laws_rPairs at h
  refine ac_enter ⟨26, 0⟩ Try.func50 rfl rfl rfl rfl rfl (fun Γ => ?_)
  refine sl_len_m 0 (x0.length : Int) rfl rfl (fun hl0 => ?_)
  refine sl_len_m 1 (x1.length : Int) rfl rfl (fun hl1 => ?_)
  refine aw_seq ?_
  refine aw_region ?_
  refine ao_read trivial (r_assign rfl) rfl ?_
  refine ao_nil ?_
  refine aq_then ?_
  refine aw_seq ?_
  refine aw_seq ?_
  refine aw_region ?_
  refine ao_read trivial (r_move rfl) rfl ?_
  refine ao_read trivial (r_len_vm (x0.length : Int) Try.underlying64 rfl rfl) rfl ?_
  refine ao_read trivial (r_move rfl) rfl ?_
  refine ao_read trivial (r_len_vm (x1.length : Int) Try.underlying64 rfl rfl) rfl ?_
  refine ao_read trivial (r_neq rfl rfl) rfl ?_
  refine ao_nil ?_
  refine aq_then ?_
  refine aw_cond rfl (fun hb1 => ?_) (fun hb1 => ?_)
  · have q2 := d_f (not_t hb1)
    replace h := is_else (d_f (not_t hb1)) h
    refine aw_seq ?_
    refine aw_region ?_
    refine ao_read trivial (r_assign rfl) rfl ?_
    refine ao_nil ?_
    refine aq_then ?_
    refine aw_ret ?_
    refine aq_then_ret ?_
    refine aq_ret ?_
    obtain rfl := is_eq h
    exact aq_finx (l := [.tmp 4]) (xs := [.bool false]) idn [.bool false] [] rfl (by exact ⟨rfl, trivial⟩) (by exact ⟨ad_ren rfl, trivial⟩) (by exact trivial) rfl (nk rfl) rfl rfl ⟨rfl, rfl⟩
  · have q3 := d_t (not_f hb1)
    replace h := is_if (d_t (not_f hb1)) h
    refine aw_skip ?_
    refine aq_then ?_
    refine aw_seq ?_
    refine aw_seq ?_
    refine aw_region ?_
    refine ao_read trivial (r_assign rfl) rfl ?_
    refine ao_nil ?_
    refine aq_then ?_
    refine aw_block ?_
    refine aw_loop (AL.sub (fr' := [(0, .v (.slice (.arr 2 (.int .i64))) x0), (1, .v (.slice (.arr 2 (.int .i64))) x1), (5, .int .i64 0)]) (H' := []) (sub_mk idn (by exact ⟨⟨_, rfl, ad_ren rfl⟩, ⟨_, rfl, ad_ren rfl⟩, ⟨_, rfl, ad_ren rfl⟩, trivial⟩) (by exact trivial) (by rfl) (nk rfl)) (al_cnt (fun i5 (s4 : Unit) => [(0, .v (.slice (.arr 2 (.int .i64))) x0), (1, .v (.slice (.arr 2 (.int .i64))) x1), (5, .int .i64 i5)]) (fun i5 (s4 : Unit) => []) (fun d i5 (s4 : Unit) => d = Int.toNat ((x0.length : Int) - i5) ∧ 0 ≤ i5 ∧ i5 ≤ (x0.length : Int)) h ⟨rfl, (by (try simp only [List.length_set, List.length_append, List.length_cons, List.length_nil, List.length_replicate, List.length_take, List.length_drop]) <;> omega), (by (try simp only [List.length_set, List.length_append, List.length_cons, List.length_nil, List.length_replicate, List.length_take, List.length_drop]) <;> omega)⟩ (fun d6 i5 s4 hI h ih6 => ?_)))
    obtain ⟨hd, _, _⟩ := hI
    refine al_round ?_
    refine aw_seq ?_
    refine aw_seq ?_
    refine aw_region ?_
    refine ao_read trivial (r_move rfl) rfl ?_
    refine ao_read trivial (r_move rfl) rfl ?_
    refine ao_read trivial (r_len_vm (x0.length : Int) Try.underlying64 rfl rfl) rfl ?_
    refine ao_read trivial (r_lss rfl rfl) rfl ?_
    refine ao_nil ?_
    refine aq_then ?_
    refine aw_cond rfl (fun hb8 => ?_) (fun hb8 => ?_)
    · have q9 := d_t hb8
      obtain ⟨d6, rfl⟩ : ∃ e, d6 = e + 1 := ⟨d6 - 1, by omega⟩
      replace h := is_cntS h
      refine aw_skip ?_
      refine aq_then ?_
      refine aw_seq ?_
      refine aw_block ?_
      refine aw_seq ?_
      refine aw_drawAll (by kernel_rfl) ?_
      refine an_read 0 (by kernel_rfl) (fun _ _ _ h => h) rfl (by kernel_rfl) trivial (r_move rfl) rfl ?_
      refine an_read 1 (by kernel_rfl) (fun _ _ _ h => h) rfl (by kernel_rfl) trivial (r_move rfl) rfl ?_
      refine an_read 2 (by kernel_rfl) (fun _ _ _ h => h) rfl (by kernel_rfl) trivial (r_idxAddr (t := (.arr 2 (.int .i64))) Try.underlying64 Try.sizeOf30 rfl rfl (show 0 ≤ i5 from by omega) (show i5 < (x0.length : Int) from by omega)) rfl ?_
      refine an_read 3 (by kernel_rfl) (fun _ _ _ h => h) rfl (by kernel_rfl) trivial (r_load_c (t := (.arr 2 (.int .i64))) Try.isAgg30 Try.sizeOf30 rfl) rfl ?_
      refine an_read 4 (by kernel_rfl) (fun _ _ _ h => h) rfl (by kernel_rfl) trivial (r_move rfl) rfl ?_
      refine an_read 5 (by kernel_rfl) (fun _ _ _ h => h) rfl (by kernel_rfl) trivial (r_move rfl) rfl ?_
      refine an_read 6 (by kernel_rfl) (fun _ _ _ h => h) rfl (by kernel_rfl) trivial (r_idxAddr (t := (.arr 2 (.int .i64))) Try.underlying64 Try.sizeOf30 rfl rfl (show 0 ≤ i5 from by omega) (show i5 < (x1.length : Int) from by omega)) rfl ?_
      refine an_read 7 (by kernel_rfl) (fun _ _ _ h => h) rfl (by kernel_rfl) trivial (r_load_c (t := (.arr 2 (.int .i64))) Try.isAgg30 Try.sizeOf30 rfl) rfl ?_
      refine an_read 8 (by kernel_rfl) (fun _ _ _ h => h) rfl (by kernel_rfl) trivial (r_eq_ints Try.underlying30 Try.underlying3 Try.isAgg3 (info_size Try.sizeOf3) (by kernel_rfl) rfl rfl rfl) rfl ?_
      refine an_done rfl ?_
      refine aq_then ?_
      refine aw_cond rfl (fun hb11 => ?_) (fun hb11 => ?_)
      · replace h := is_else (d_f (not_t hb11)) h
        refine aw_seq ?_
        refine aw_region ?_
        refine ao_read trivial (r_assign rfl) rfl ?_
        refine ao_nil ?_
        refine aq_then ?_
        refine aw_ret ?_
        refine aq_in_ret ?_
        refine aq_then_ret ?_
        refine aq_then_ret ?_
        refine aq_in_ret ?_
        refine aq_then_ret ?_
        refine aq_ret ?_
        obtain rfl := is_eq h
        exact aq_finx (l := [.tmp 4]) (xs := [.bool false]) idn [.bool false] [] rfl (by exact ⟨rfl, trivial⟩) (by exact ⟨ad_ren rfl, trivial⟩) (by exact trivial) rfl (nk rfl) rfl rfl ⟨rfl, rfl⟩
      · replace h := is_if (d_t (not_f hb11)) h
        refine aw_skip ?_
        refine aq_in ?_
        refine aq_then ?_
        refine aw_region ?_
        refine ao_read trivial (r_move rfl) rfl ?_
        refine ao_read trivial (r_addI rfl rfl (wrap_id (by omega) (by omega))) rfl ?_
        refine ao_read trivial (r_assign rfl) rfl ?_
        refine ao_nil ?_
        exact aq_again (AL.sub (sub_mk idn (by exact ⟨⟨_, rfl, ad_ren rfl⟩, ⟨_, rfl, ad_ren rfl⟩, ⟨_, rfl, ad_ren rfl⟩, trivial⟩) (by exact trivial) (by rfl) (nk rfl)) (ih6 d6 (i5 + 1) () (by omega) ⟨by omega, (by (try simp only [List.length_set, List.length_append, List.length_cons, List.length_nil, List.length_replicate, List.length_take, List.length_drop]) <;> omega), (by (try simp only [List.length_set, List.length_append, List.length_cons, List.length_nil, List.length_replicate, List.length_take, List.length_drop]) <;> omega)⟩ h))
    · have q10 := d_f hb8
      obtain rfl : d6 = 0 := by omega
      replace h := is_cnt0 h
      refine aw_exit ?_
      refine aq_then_exit ?_
      refine aq_then_exit ?_
      refine aq_in_exit ?_
      refine aq_then ?_
      refine aw_seq ?_
      refine aw_region ?_
      refine ao_read trivial (r_assign rfl) rfl ?_
      refine ao_nil ?_
      refine aq_then ?_
      refine aw_ret ?_
      refine aq_ret ?_
      obtain rfl := is_eq h
      exact aq_finx (l := [.tmp 4]) (xs := [.bool true]) idn [.bool true] [] rfl (by exact ⟨rfl, trivial⟩) (by exact ⟨ad_ren rfl, trivial⟩) (by exact trivial) rfl (nk rfl) rfl rfl ⟨rfl, rfl⟩
theorem c_impl_meanRun {fu : Nat} {x0 : (List Int)} {x1 : Int} {r : Int} (h : Is (p_impl_meanRun fu x0 x1) (some r)) :
    Scalar Try.prog 131 [.v (.arr 6 (.int .i64)) x0, .int .i64 x1] (.int .i64 r) := by
  unfold p_impl_meanRun at h
  refine ac_enter ⟨25, 0⟩ Try.func131 rfl rfl rfl rfl rfl (fun Γ => ?_)
  refine aw_seq ?_
  refine aw_region ?_
  refine ao_eff trivial (e_box 0 rfl rfl rfl rfl rfl rfl) rfl ?_
  refine ao_read trivial (r_assign rfl) rfl ?_
  refine ao_nil ?_
  refine aq_then ?_
  refine aw_seq ?_
  refine aw_region ?_
  refine ao_read trivial (r_assign rfl) rfl ?_
  refine ao_nil ?_
  refine aq_then ?_
  refine aw_seq ?_
  refine aw_seq ?_
  refine aw_region ?_
  refine ao_read trivial (r_load_arr rfl Try.isAgg43 Try.sizeOf43 rfl rfl rfl) rfl ?_
  refine ao_read trivial (r_move rfl) rfl ?_
  obtain ⟨r1, r1h, h⟩ := is_bind h
  refine ao_call [] 1 trivial (c_impl_runs (is_mk r1h)) Try.func129 rfl rfl rfl rfl ⟨ad_ren rfl, ad_ren rfl, trivial⟩ trivial rfl rfl rfl rfl rfl rfl rfl (fun r' H' hr => ?_)
  obtain ⟨rfl, rfl⟩ := hr
  refine ao_norm (y := .os 1) (H' := [(0, .var [.arr (.int .i64) 6 x0]), (1, .row (.int .i64) r1)]) rfl rfl ?_
  refine row_len_o 1 (r1.length : Int) rfl rfl (fun hr2 => ?_)
  refine ao_read trivial (r_len_osm (r1.length : Int) Try.underlying36 rfl rfl rfl) rfl ?_
  refine ao_read trivial (r_move rfl) rfl ?_
  refine ao_nil ?_
  refine aq_then ?_
  refine aw_block ?_
  refine aw_loop (AL.sub (fr' := [(5, .int .i64 0), (10, .os 0), (11, .int .i64 (r1.length : Int)), (12, .int .i64 0)]) (H' := [(0, .row (.int .i64) r1)]) (sub_mk (rn [(0, 1)]) (by exact ⟨⟨_, rfl, ad_ren rfl⟩, ⟨_, rfl, ad_ren rfl⟩, ⟨_, rfl, ad_ren rfl⟩, ⟨_, rfl, ad_ren rfl⟩, trivial⟩) (by exact ⟨⟨_, rfl, rfl⟩, trivial⟩) (by rfl) (nk rfl)) (al_cnt (fun i4 (s3 : Int) => [(5, .int .i64 s3), (10, .os 0), (11, .int .i64 (r1.length : Int)), (12, .int .i64 i4)]) (fun i4 (s3 : Int) => [(0, .row (.int .i64) r1)]) (fun d i4 (s3 : Int) => d = Int.toNat ((r1.length : Int) - i4) ∧ 0 ≤ i4 ∧ i4 ≤ (r1.length : Int)) h ⟨rfl, (by (try simp only [List.length_set, List.length_append, List.length_cons, List.length_nil, List.length_replicate, List.length_take, List.length_drop]) <;> omega), (by (try simp only [List.length_set, List.length_append, List.length_cons, List.length_nil, List.length_replicate, List.length_take, List.length_drop]) <;> omega)⟩ (fun d5 i4 s3 hI h ih5 => ?_)))
  obtain ⟨hd, _, _⟩ := hI
  refine al_round ?_
  refine aw_seq ?_
  refine aw_region ?_
  refine ao_read trivial (r_lss rfl rfl) rfl ?_
  refine ao_nil ?_
  refine aq_then ?_
  refine aw_seq ?_
  refine aw_cond rfl (fun hb7 => ?_) (fun hb7 => ?_)
  · have q8 := d_t hb7
    obtain ⟨d5, rfl⟩ : ∃ e, d5 = e + 1 := ⟨d5 - 1, by omega⟩
    replace h := is_cntS h
    refine aw_skip ?_
    refine aq_then ?_
    refine aw_seq ?_
    refine aw_block ?_
    refine aw_seq ?_
    refine aw_region ?_
    refine ao_read trivial (r_move rfl) rfl ?_
    refine ao_read trivial (r_idxAddr_os Try.underlying36 Try.sizeOf3 rfl rfl rfl (show 0 ≤ i4 from by omega) (show i4 < (r1.length : Int) from by omega)) rfl ?_
    refine ao_read trivial (r_load_elem_int Try.isAgg3 Try.sizeOf3 rfl rfl (show i4.toNat < r1.length from by omega)) rfl ?_
    refine ao_read trivial (r_assign rfl) rfl ?_
    refine ao_read trivial (r_assign rfl) rfl ?_
    refine ao_nil ?_
    refine aq_then ?_
    refine aw_region ?_
    refine ao_read trivial (r_move rfl) rfl ?_
    refine ao_read trivial (r_move rfl) rfl ?_
    refine ao_read trivial (r_addI rfl rfl (wrap_id (by omega) (by omega))) rfl ?_
    refine ao_read trivial (r_move rfl) rfl ?_
    refine ao_read trivial (r_mul rfl rfl) rfl ?_
    refine ao_read trivial (r_add rfl rfl) rfl ?_
    refine ao_read trivial (r_assign rfl) rfl ?_
    refine ao_nil ?_
    refine aq_in ?_
    refine aq_then ?_
    refine aw_region ?_
    refine ao_read trivial (r_addI rfl rfl (wrap_id (by omega) (by omega))) rfl ?_
    refine ao_read trivial (r_move rfl) rfl ?_
    refine ao_nil ?_
    exact aq_again (AL.sub (sub_mk idn (by exact ⟨⟨_, rfl, ad_ren rfl⟩, ⟨_, rfl, ad_ren rfl⟩, ⟨_, rfl, ad_ren rfl⟩, ⟨_, rfl, ad_ren rfl⟩, trivial⟩) (by exact ⟨⟨_, rfl, rfl⟩, trivial⟩) (by rfl) (nk rfl)) (ih5 d5 (i4 + 1) (IntKind.wrap .i64 (s3 + (IntKind.wrap .i64 ((i4 + 1) * (r1.getD i4.toNat 0))))) (by omega) ⟨by omega, (by (try simp only [List.length_set, List.length_append, List.length_cons, List.length_nil, List.length_replicate, List.length_take, List.length_drop]) <;> omega), (by (try simp only [List.length_set, List.length_append, List.length_cons, List.length_nil, List.length_replicate, List.length_take, List.length_drop]) <;> omega)⟩ h))
  · have q9 := d_f hb7
    obtain rfl : d5 = 0 := by omega
    replace h := is_cnt0 h
    refine aw_exit ?_
    refine aq_then_exit ?_
    refine aq_then_exit ?_
    refine aq_in_exit ?_
    refine aq_then ?_
    refine aw_seq ?_
    refine aw_region ?_
    refine ao_read trivial (r_move rfl) rfl ?_
    refine ao_read trivial (r_assign rfl) rfl ?_
    refine ao_nil ?_
    refine aq_then ?_
    refine aw_ret ?_
    refine aq_ret ?_
    obtain rfl := is_some h
    exact aq_finx (l := [.tmp 4]) (xs := [.int .i64 s3]) idn [.int .i64 s3] [] rfl (by exact ⟨rfl, trivial⟩) (by exact ⟨ad_ren rfl, trivial⟩) (by exact trivial) rfl (nk rfl) rfl rfl ⟨rfl, rfl⟩
theorem c_impl_MeanRun {fu : Nat} {x0 : (List Int)} {x1 : Int} {r : (List Int) × Bool} (h : Is (p_impl_MeanRun fu x0 x1) (some r)) :
    Scalar Try.prog 51 [.v (.arr 6 (.int .i64)) x0, .int .i64 x1] (.tup [.v (.arr 2 (.int .i64)) r.1, .bool r.2]) := by
  unfold p_impl_MeanRun at h
  refine ac_enter ⟨21, 0⟩ Try.func51 rfl rfl rfl rfl rfl (fun Γ => ?_)
  refine aw_seq ?_
  refine aw_region ?_
  refine ao_eff trivial (e_box 0 rfl rfl rfl rfl rfl rfl) rfl ?_
  refine ao_eff trivial (e_alloc 1 (y := .v (.arr 2 (.int .i64)) ((List.replicate 2 0) : (List Int))) Try.zeroValue30 (fun ρ h M => ra_zero_arr (t := (.int .i64)) rfl) rfl rfl rfl rfl rfl) rfl ?_
  refine ao_read trivial (r_assign rfl) rfl ?_
  refine ao_nil ?_
  refine aq_then ?_
  refine aw_seq ?_
  refine aw_seq ?_
  refine aw_region ?_
  refine ao_read trivial (r_load_arr rfl Try.isAgg43 Try.sizeOf43 rfl rfl rfl) rfl ?_
  refine ao_scall trivial (scall (c_impl_isRunner (is_mk (rfl : p_impl_isRunner x0 = _))) rfl Try.func124 rfl rfl rfl rfl (fun σ => ⟨ad_ren rfl, trivial⟩)) rfl ?_
  refine ao_read trivial (r_not rfl) rfl ?_
  refine ao_read trivial (r_move rfl) rfl ?_
  refine ao_readG (x := .int .i64 x1) rfl (GV.F rfl) (fun hg1 => r_move rfl) rfl ?_
  refine ao_scallG (r := .bool (p_impl_isGoal x1)) rfl (GV.F rfl) (fun hg2 => SCall.strip 10 rfl (hg2) (scall (c_impl_isGoal (is_mk (rfl : p_impl_isGoal x1 = _))) rfl Try.func125 rfl rfl rfl rfl (fun σ => ⟨ad_ren rfl, trivial⟩))) rfl ?_
  refine ao_readG (x := .bool (!(p_impl_isGoal x1))) rfl (GV.F rfl) (fun hg3 => Reads.strip 11 rfl (hg3) (r_not rfl)) rfl ?_
  refine ao_read trivial (r_orB rfl rfl) rfl ?_
  refine ao_nil ?_
  refine aq_then ?_
  refine aw_cond rfl (fun hb4 => ?_) (fun hb4 => ?_)
  · replace h := is_if hb4 h
    refine aw_seq ?_
    refine aw_region ?_
    refine ao_read trivial (r_build_zero (t := (.int .i64)) Try.underlying30 Try.zeroValue30 Try.sizeOf3 rfl) rfl ?_
    refine ao_effS trivial (e_store rfl rfl rfl rfl Try.sizeOf30 rfl) ?_
    refine ao_read trivial (r_assign rfl) rfl ?_
    refine ao_nil ?_
    refine aq_then ?_
    refine aw_ret ?_
    refine aq_then_ret ?_
    refine aq_ret ?_
    obtain rfl := is_some h
    exact aq_finx (l := [.cell 4 30, .tmp 5]) (xs := [.v (.arr 2 (.int .i64)) ((List.replicate 2 0) : (List Int)), .bool false]) idn [.v (.arr 2 (.int .i64)) ((List.replicate 2 0) : (List Int)), .bool false] [] rfl (by exact ⟨⟨⟨_, _, rfl⟩, r_load_arr rfl Try.isAgg30 Try.sizeOf30 rfl rfl rfl⟩, rfl, trivial⟩) (by exact ⟨ad_ren rfl, ad_ren rfl, trivial⟩) (by exact trivial) rfl (nk rfl) rfl rfl ⟨rfl, rfl⟩
  · obtain ⟨q5, q6⟩ := or_f hb4
    replace h := is_else (ne_t hb4) h
    refine aw_skip ?_
    refine aq_then ?_
    refine aw_seq ?_
    refine aw_region ?_
    refine ao_read trivial (r_load_arr rfl Try.isAgg43 Try.sizeOf43 rfl rfl rfl) rfl ?_
    refine ao_read trivial (r_move rfl) rfl ?_
    obtain ⟨r7, r7h, h⟩ := is_bind h
    refine ao_scall trivial (scall (c_impl_meanRun (is_mk r7h)) rfl Try.func131 rfl rfl rfl rfl (fun σ => ⟨ad_ren rfl, ad_ren rfl, trivial⟩)) rfl ?_
    refine ao_read trivial (r_move rfl) rfl ?_
    obtain ⟨r8, r8h, h⟩ := is_bind h
    refine ao_scall trivial (scall (c_impl_power (is_mk r8h)) rfl Try.func103 rfl rfl rfl rfl (fun σ => ⟨ad_ren rfl, trivial⟩)) rfl ?_
    obtain ⟨r9, r9h, h⟩ := is_bind h
    refine ao_scall trivial (scall (c_impl_fraction (is_mk r9h)) rfl Try.func102 rfl rfl rfl rfl (fun σ => ⟨ad_ren rfl, ad_ren rfl, trivial⟩)) rfl ?_
    refine ao_effS trivial (e_store rfl rfl rfl rfl Try.sizeOf30 rfl) ?_
    refine ao_read trivial (r_assign rfl) rfl ?_
    refine ao_nil ?_
    refine aq_then ?_
    refine aw_ret ?_
    refine aq_ret ?_
    obtain rfl := is_some h
    exact aq_finx (l := [.cell 4 30, .tmp 5]) (xs := [.v (.arr 2 (.int .i64)) r9, .bool true]) idn [.v (.arr 2 (.int .i64)) r9, .bool true] [] rfl (by exact ⟨⟨⟨_, _, rfl⟩, r_load_arr rfl Try.isAgg30 Try.sizeOf30 rfl rfl rfl⟩, rfl, trivial⟩) (by exact ⟨ad_ren rfl, ad_ren rfl, trivial⟩) (by exact trivial) rfl (nk rfl) rfl rfl ⟨rfl, rfl⟩
theorem c_spec_l7Mean {fu : Nat} {x0 : (List Int)} {x1 : Int} {r : (List Int)} (h : Is (p_spec_l7Mean fu x0 x1) (some r)) :
    Scalar Try.prog 132 [.v (.arr 6 (.int .i64)) x0, .int .i64 x1] (.v (.arr 2 (.int .i64)) r) := by
  unfold p_spec_l7Mean at h
  refine ac_enter ⟨33, 0⟩ Try.func132 rfl rfl rfl rfl rfl (fun Γ => ?_)
  refine aw_seq ?_
  refine aw_region ?_
  refine ao_eff trivial (e_box 0 rfl rfl rfl rfl rfl rfl) rfl ?_
  refine ao_eff trivial (e_alloc 1 (y := .v (.arr 2 (.int .i64)) ((List.replicate 2 0) : (List Int))) Try.zeroValue30 (fun ρ h M => ra_zero_arr (t := (.int .i64)) rfl) rfl rfl rfl rfl rfl) rfl ?_
  refine ao_nil ?_
  refine aq_then ?_
  refine aw_seq ?_
  refine aw_region ?_
  refine ao_read trivial (r_load_arr rfl Try.isAgg43 Try.sizeOf43 rfl rfl rfl) rfl ?_
  refine ao_read trivial (r_move rfl) rfl ?_
  obtain ⟨r1, r1h, h⟩ := is_bind h
  refine ao_call [] 2 trivial (c_spec_l7Run (is_mk r1h)) Try.func130 rfl rfl rfl rfl ⟨ad_ren rfl, ad_ren rfl, trivial⟩ trivial rfl rfl rfl rfl rfl rfl rfl (fun r' H' hr => ?_)
  obtain ⟨rfl, rfl⟩ := hr
  refine ao_norm (y := .os 2) (H' := [(1, .var [.arr (.int .i64) 2 ((List.replicate 2 0) : (List Int))]), (0, .var [.arr (.int .i64) 6 x0]), (2, .row (.int .i64) r1)]) rfl rfl ?_
  refine row_len_o 2 (r1.length : Int) rfl rfl (fun hr2 => ?_)
  refine ao_read trivial (r_assign rfl) rfl ?_
  refine ao_read trivial (r_assign rfl) rfl ?_
  refine ao_nil ?_
  refine aq_then ?_
  refine aw_seq ?_
  refine aw_seq ?_
  refine aw_region ?_
  refine ao_read trivial (r_assign rfl) rfl ?_
  refine ao_nil ?_
  refine aq_then ?_
  refine aw_block ?_
  refine aw_loop (AL.sub (sub_mk (rn [(0, 1), (1, 2)]) (by exact ⟨⟨_, rfl, ad_ren rfl⟩, ⟨_, rfl, ad_ren rfl⟩, ⟨_, rfl, ad_ren rfl⟩, ⟨_, rfl, ad_ren rfl⟩, ⟨_, rfl, ad_ren rfl⟩, trivial⟩) (by exact ⟨⟨_, rfl, ⟨rfl, trivial⟩⟩, ⟨_, rfl, rfl⟩, trivial⟩) (by rfl) (nk rfl)) (al_whl (fun (s3 : Int × Int) => [(1, .int .i64 x1), (4, .ref 0 0), (5, .int .i64 s3.1), (6, .os 1), (7, .int .i64 s3.2)]) (fun (s3 : Int × Int) => [(0, .var [.arr (.int .i64) 2 ((List.replicate 2 0) : (List Int))]), (1, .row (.int .i64) r1)]) (fun (s3 : Int × Int) => 1 ≤ s3.2) h (by (try simp only [List.length_set, List.length_append, List.length_cons, List.length_nil, List.length_replicate, List.length_take, List.length_drop]) <;> omega) (fun d5 s3 hI h ih5 => ?_)))
  replace h := is_whlS h
  refine al_round ?_
  refine aw_seq ?_
  refine aw_seq ?_
  refine aw_region ?_
  refine ao_read trivial (r_move rfl) rfl ?_
  refine ao_read trivial (r_move rfl) rfl ?_
  refine ao_read trivial (r_leq rfl rfl) rfl ?_
  refine ao_nil ?_
  refine aq_then ?_
  refine aw_cond rfl (fun hb7 => ?_) (fun hb7 => ?_)
  · have q8 := d_t hb7
    replace h := is_if (d_t hb7) h
    refine aw_skip ?_
    refine aq_then ?_
    refine aw_seq ?_
    refine aw_block ?_
    obtain ⟨g10, h⟩ := is_guard h
    obtain ⟨r11, r11h, h⟩ := is_bind h
    refine aw_drawAll (by kernel_rfl) ?_
    refine an_read 0 (by kernel_rfl) (fun _ _ _ h => h) rfl (by kernel_rfl) trivial (r_move rfl) rfl ?_
    refine an_read 1 (by kernel_rfl) (fun _ _ _ h => h) rfl (by kernel_rfl) trivial (r_move rfl) rfl ?_
    refine an_read 2 (by kernel_rfl) (fun _ _ _ h => h) rfl (by kernel_rfl) trivial (r_move rfl) rfl ?_
    refine an_read 3 (by kernel_rfl) (fun _ _ _ h => h) rfl (by kernel_rfl) trivial (r_move rfl) rfl ?_
    refine an_read 4 (by kernel_rfl) (fun _ _ _ h => h) rfl (by kernel_rfl) trivial (r_idxAddr_os Try.underlying36 Try.sizeOf3 rfl rfl rfl (show 0 ≤ s3.2 from by omega) (show s3.2 < (r1.length : Int) from by omega)) rfl ?_
    refine an_read 5 (by kernel_rfl) (fun _ _ _ h => h) rfl (by kernel_rfl) trivial (r_load_elem_int Try.isAgg3 Try.sizeOf3 rfl rfl (show s3.2.toNat < r1.length from by omega)) rfl ?_
    refine an_read 6 (by kernel_rfl) (fun _ _ _ h => h) rfl (by kernel_rfl) trivial (r_mul rfl rfl) rfl ?_
    refine an_read 7 (by kernel_rfl) (fun _ _ _ h => h) rfl (by kernel_rfl) trivial (r_move rfl) rfl ?_
    refine an_read 8 (by kernel_rfl) (fun _ _ _ h => h) rfl (by kernel_rfl) trivial (r_move rfl) rfl ?_
    refine an_read 9 (by kernel_rfl) (fun _ _ _ h => h) rfl (by kernel_rfl) trivial (r_sub rfl rfl) rfl ?_
    refine an_scall 10 (by kernel_rfl) (fun _ _ _ h => h) rfl (by kernel_rfl) trivial (scall (c_spec_l2All (is_mk r11h)) rfl Try.func106 rfl rfl rfl rfl (fun σ => ⟨ad_ren rfl, trivial⟩)) rfl ?_
    refine an_read 11 (by kernel_rfl) (fun _ _ _ h => h) rfl (by kernel_rfl) trivial (r_mul rfl rfl) rfl ?_
    refine an_read 12 (by kernel_rfl) (fun _ _ _ h => h) rfl (by kernel_rfl) trivial (r_add rfl rfl) rfl ?_
    refine an_read 13 (by kernel_rfl) (fun _ _ _ h => h) rfl (by kernel_rfl) trivial (r_assign rfl) rfl ?_
    refine an_done rfl ?_
    refine aq_in ?_
    refine aq_then ?_
    refine aw_region ?_
    refine ao_read trivial (r_move rfl) rfl ?_
    refine ao_read trivial (r_addI rfl rfl (wrap_id (by omega) (by omega))) rfl ?_
    refine ao_read trivial (r_assign rfl) rfl ?_
    refine ao_nil ?_
    exact aq_again (AL.sub (sub_mk idn (by exact ⟨⟨_, rfl, ad_ren rfl⟩, ⟨_, rfl, ad_ren rfl⟩, ⟨_, rfl, ad_ren rfl⟩, ⟨_, rfl, ad_ren rfl⟩, ⟨_, rfl, ad_ren rfl⟩, trivial⟩) (by exact ⟨⟨_, rfl, ⟨rfl, trivial⟩⟩, ⟨_, rfl, rfl⟩, trivial⟩) (by rfl) (nk rfl)) (ih5 ((IntKind.wrap .i64 (s3.1 + (IntKind.wrap .i64 ((IntKind.wrap .i64 (s3.2 * (r1.getD s3.2.toNat 0))) * r11)))), (s3.2 + 1)) (by (try simp only [List.length_set, List.length_append, List.length_cons, List.length_nil, List.length_replicate, List.length_take, List.length_drop]) <;> omega) h))
  · have q9 := d_f hb7
    replace h := is_else (d_f hb7) h
    refine aw_exit ?_
    refine aq_then_exit ?_
    refine aq_then_exit ?_
    refine aq_in_exit ?_
    refine aq_then ?_
    refine aw_seq ?_
    refine aw_region ?_
    refine ao_read trivial (r_move rfl) rfl ?_
    refine ao_read trivial (r_move rfl) rfl ?_
    obtain ⟨r12, r12h, h⟩ := is_bind h
    refine ao_scall trivial (scall (c_spec_l2All (is_mk r12h)) rfl Try.func106 rfl rfl rfl rfl (fun σ => ⟨ad_ren rfl, trivial⟩)) rfl ?_
    obtain ⟨r13, r13h, h⟩ := is_bind h
    refine ao_scall trivial (scall (c_spec_l2Cut (is_mk r13h)) rfl Try.func105 rfl rfl rfl rfl (fun σ => ⟨ad_ren rfl, ad_ren rfl, trivial⟩)) rfl ?_
    refine ao_effS trivial (e_store rfl rfl rfl rfl Try.sizeOf30 rfl) ?_
    refine ao_nil ?_
    refine aq_then ?_
    refine aw_ret ?_
    refine aq_ret ?_
    obtain rfl := is_some h
    exact aq_finx (l := [.cell 4 30]) (xs := [.v (.arr 2 (.int .i64)) r13]) idn [.v (.arr 2 (.int .i64)) r13] [] rfl (by exact ⟨⟨⟨_, _, rfl⟩, r_load_arr rfl Try.isAgg30 Try.sizeOf30 rfl rfl rfl⟩, trivial⟩) (by exact ⟨ad_ren rfl, trivial⟩) (by exact trivial) rfl (nk rfl) rfl rfl ⟨rfl, rfl⟩
theorem c_spec_MeanRun {fu : Nat} {x0 : (List Int)} {x1 : Int} {r : (List Int) × Bool} (h : Is (p_spec_MeanRun fu x0 x1) (some r)) :
    Scalar Try.prog 52 [.v (.arr 6 (.int .i64)) x0, .int .i64 x1] (.tup [.v (.arr 2 (.int .i64)) r.1, .bool r.2]) := by
  unfold p_spec_MeanRun at h
  refine ac_enter ⟨18, 0⟩ Try.func52 rfl rfl rfl rfl rfl (fun Γ => ?_)
  refine aw_seq ?_
  refine aw_region ?_
  refine ao_eff trivial (e_box 0 rfl rfl rfl rfl rfl rfl) rfl ?_
  refine ao_eff trivial (e_alloc 1 (y := .v (.arr 2 (.int .i64)) ((List.replicate 2 0) : (List Int))) Try.zeroValue30 (fun ρ h M => ra_zero_arr (t := (.int .i64)) rfl) rfl rfl rfl rfl rfl) rfl ?_
  refine ao_read trivial (r_assign rfl) rfl ?_
  refine ao_nil ?_
  refine aq_then ?_
  refine aw_seq ?_
  refine aw_seq ?_
  refine aw_region ?_
  refine ao_read trivial (r_load_arr rfl Try.isAgg43 Try.sizeOf43 rfl rfl rfl) rfl ?_
  obtain ⟨r1, r1h, h⟩ := is_bind h
  refine ao_scall trivial (scall (c_spec_l7Die (is_mk r1h)) rfl Try.func126 rfl rfl rfl rfl (fun σ => ⟨ad_ren rfl, trivial⟩)) rfl ?_
  refine ao_read trivial (r_not rfl) rfl ?_
  refine ao_read trivial (r_move rfl) rfl ?_
  refine ao_readG (x := .int .i64 x1) rfl (GV.F rfl) (fun hg2 => r_move rfl) rfl ?_
  refine ao_scallG (r := .bool (p_spec_l7Goal x1)) rfl (GV.F rfl) (fun hg3 => SCall.strip 10 rfl (hg3) (scall (c_spec_l7Goal (is_mk (rfl : p_spec_l7Goal x1 = _))) rfl Try.func127 rfl rfl rfl rfl (fun σ => ⟨ad_ren rfl, trivial⟩))) rfl ?_
  refine ao_readG (x := .bool (!(p_spec_l7Goal x1))) rfl (GV.F rfl) (fun hg4 => Reads.strip 11 rfl (hg4) (r_not rfl)) rfl ?_
  refine ao_read trivial (r_orB rfl rfl) rfl ?_
  refine ao_nil ?_
  refine aq_then ?_
  refine aw_cond rfl (fun hb5 => ?_) (fun hb5 => ?_)
  · replace h := is_if hb5 h
    refine aw_seq ?_
    refine aw_region ?_
    refine ao_read trivial (r_build_zero (t := (.int .i64)) Try.underlying30 Try.zeroValue30 Try.sizeOf3 rfl) rfl ?_
    refine ao_effS trivial (e_store rfl rfl rfl rfl Try.sizeOf30 rfl) ?_
    refine ao_read trivial (r_assign rfl) rfl ?_
    refine ao_nil ?_
    refine aq_then ?_
    refine aw_ret ?_
    refine aq_then_ret ?_
    refine aq_ret ?_
    obtain rfl := is_some h
    exact aq_finx (l := [.cell 4 30, .tmp 5]) (xs := [.v (.arr 2 (.int .i64)) ((List.replicate 2 0) : (List Int)), .bool false]) idn [.v (.arr 2 (.int .i64)) ((List.replicate 2 0) : (List Int)), .bool false] [] rfl (by exact ⟨⟨⟨_, _, rfl⟩, r_load_arr rfl Try.isAgg30 Try.sizeOf30 rfl rfl rfl⟩, rfl, trivial⟩) (by exact ⟨ad_ren rfl, ad_ren rfl, trivial⟩) (by exact trivial) rfl (nk rfl) rfl rfl ⟨rfl, rfl⟩
  · obtain ⟨q6, q7⟩ := or_f hb5
    replace h := is_else (ne_t hb5) h
    refine aw_skip ?_
    refine aq_then ?_
    refine aw_seq ?_
    refine aw_region ?_
    refine ao_read trivial (r_load_arr rfl Try.isAgg43 Try.sizeOf43 rfl rfl rfl) rfl ?_
    refine ao_read trivial (r_move rfl) rfl ?_
    obtain ⟨r8, r8h, h⟩ := is_bind h
    refine ao_scall trivial (scall (c_spec_l7Mean (is_mk r8h)) rfl Try.func132 rfl rfl rfl rfl (fun σ => ⟨ad_ren rfl, ad_ren rfl, trivial⟩)) rfl ?_
    refine ao_effS trivial (e_store rfl rfl rfl rfl Try.sizeOf30 rfl) ?_
    refine ao_read trivial (r_assign rfl) rfl ?_
    refine ao_nil ?_
    refine aq_then ?_
    refine aw_ret ?_
    refine aq_ret ?_
    obtain rfl := is_some h
    exact aq_finx (l := [.cell 4 30, .tmp 5]) (xs := [.v (.arr 2 (.int .i64)) r8, .bool true]) idn [.v (.arr 2 (.int .i64)) r8, .bool true] [] rfl (by exact ⟨⟨⟨_, _, rfl⟩, r_load_arr rfl Try.isAgg30 Try.sizeOf30 rfl rfl rfl⟩, rfl, trivial⟩) (by exact ⟨ad_ren rfl, ad_ren rfl, trivial⟩) (by exact trivial) rfl (nk rfl) rfl rfl ⟨rfl, rfl⟩
theorem c_spec_DrawLandChance {x0 : (List Int)} {r : (List Int) × Int} (h : Is (p_spec_DrawLandChance x0) (some r)) :
    Scalar Try.prog 53 [.v (.slice (.int .u8)) x0] (.tup [.v (.arr 6 (.int .i64)) r.1, .int .i64 r.2]) := by
  unfold p_spec_DrawLandChance at h
  refine ac_enter ⟨15, 0⟩ Try.func53 rfl rfl rfl rfl rfl (fun Γ => ?_)
  refine sl_len_m 0 (x0.length : Int) rfl rfl (fun hl0 => ?_)
  refine aw_seq ?_
  refine aw_region ?_
  refine ao_eff trivial (e_alloc 0 (y := .v (.arr 6 (.int .i64)) ((List.replicate 6 0) : (List Int))) Try.zeroValue43 (fun ρ h M => ra_zero_arr (t := (.int .i64)) rfl) rfl rfl rfl rfl rfl) rfl ?_
  refine ao_read trivial (r_assign rfl) rfl ?_
  refine ao_nil ?_
  refine aq_then ?_
  refine aw_seq ?_
  refine aw_region ?_
  refine ao_read trivial (r_move rfl) rfl ?_
  refine ao_read trivial (r_build_st (l := [(0, .tmp 6)]) (cs := [.cell (.v (.slice (.int .u8)) x0), .cell (.int .i64 0), .cell (.int .u64 0)]) (.pair (.slice (.int .u8)) (.pair (.int .i64) (.pair (.int .u64) .unit))) [(0, 1), (1, 1), (2, 1)] Try.underlying105 Try.zeroValue105 rfl ⟨rfl, Try.sizeOf22, rfl, Try.sizeOf3, rfl, Try.sizeOf103, trivial⟩ rfl rfl rfl) rfl ?_
  refine ao_eff trivial (e_box 1 rfl rfl rfl rfl rfl rfl) rfl ?_
  refine ao_read trivial (r_assign rfl) rfl ?_
  refine ao_nil ?_
  refine aq_then ?_
  refine aw_seq ?_
  refine aw_region ?_
  refine ao_read trivial (r_move rfl) rfl ?_
  refine ao_eff trivial (e_buildSlice (l := [(0, .const (.int .i64 3)), (1, .const (.int .i64 5)), (2, .const (.int .i64 8)), (3, .const (.int .i64 0)), (4, .const (.int .i64 1)), (5, .const (.int .i64 6)), (6, .const (.int .i64 9)), (7, .const (.int .i64 (-1)))]) (t := (.int .i64)) 2 ([3, 5, 8, 0, 1, 6, 9, (-1)] : (List Int)) rfl Try.underlying36 Try.zeroValue3 Try.sizeOf3 rfl rfl rfl rfl rfl rfl rfl) rfl ?_
  obtain ⟨r1, r1h, h⟩ := is_bind h
  refine ao_frz (fr' := [(0, .v (.slice (.int .u8)) x0), (2, .ref 0 0), (3, .int .i64 0), (6, .v (.slice (.int .u8)) x0), (7, .st [.v (.slice (.int .u8)) x0, .int .i64 0, .int .u64 0]), (8, .ref 1 0), (4, .ref 1 0), (9, .ref 1 0), (10, .v (.slice (.int .i64)) ([3, 5, 8, 0, 1, 6, 9, (-1)] : (List Int)))]) (H' := [(1, .var [.cell (.v (.slice (.int .u8)) x0), .cell (.int .i64 0), .cell (.int .u64 0)]), (0, .var [.arr (.int .i64) 6 ((List.replicate 6 0) : (List Int))])]) (by exact ⟨⟨_, rfl, ad_ren rfl⟩, ⟨_, rfl, ad_ren rfl⟩, ⟨_, rfl, ad_ren rfl⟩, ⟨_, rfl, ad_ren rfl⟩, ⟨_, rfl, ad_ren rfl⟩, ⟨_, rfl, ad_ren rfl⟩, ⟨_, rfl, ad_ren rfl⟩, ⟨_, rfl, ad_ren rfl⟩, ⟨_, rfl, ad_osB rfl rfl⟩, trivial⟩) (by exact ⟨⟨_, rfl, ⟨ad_ren rfl, rfl, ad_ren rfl, rfl, ad_ren rfl, rfl, trivial⟩⟩, ⟨_, rfl, ⟨rfl, trivial⟩⟩, trivial⟩) rfl ?_
  refine ao_callV [1] 3 trivial (c_spec_l1Cur_among (is_mk r1h)) Try.func112 rfl rfl rfl rfl rfl ⟨rfl, trivial⟩ ⟨⟨_, rfl, ⟨ad_ren rfl, rfl, ad_ren rfl, rfl, ad_ren rfl, rfl, trivial⟩⟩, trivial⟩ rfl rfl rfl rfl rfl rfl rfl (fun r' H' hr => ?_)
  obtain ⟨rfl, rfl⟩ := hr
  refine ao_norm (y := .int .i64 r1.1) (H' := [(0, .var [.arr (.int .i64) 6 ((List.replicate 6 0) : (List Int))]), (1, .var [.cell (.v (.slice (.int .u8)) x0), .cell (.int .i64 r1.2.1), .cell (.int .u64 r1.2.2)])]) rfl rfl ?_
  refine ao_read trivial (r_assign rfl) rfl ?_
  refine ao_nil ?_
  refine aq_then ?_
  refine aw_seq ?_
  refine aw_region ?_
  refine ao_read trivial (r_move rfl) rfl ?_
  obtain ⟨r2, r2h, h⟩ := is_bind h
  refine ao_callV [1] 3 trivial (c_spec_l1Cur_little (is_mk r2h)) Try.func113 rfl rfl rfl rfl rfl ⟨rfl, trivial⟩ ⟨⟨_, rfl, ⟨ad_ren rfl, rfl, ad_ren rfl, rfl, ad_ren rfl, rfl, trivial⟩⟩, trivial⟩ rfl rfl rfl rfl rfl rfl rfl (fun r' H' hr => ?_)
  obtain ⟨rfl, rfl⟩ := hr
  refine ao_norm (y := .v (.arr 6 (.int .i64)) r2.1) (H' := [(0, .var [.arr (.int .i64) 6 ((List.replicate 6 0) : (List Int))]), (1, .var [.cell (.v (.slice (.int .u8)) x0), .cell (.int .i64 r2.2.1), .cell (.int .u64 r2.2.2)])]) rfl rfl ?_
  refine ao_read trivial (r_move rfl) rfl ?_
  refine ao_effS trivial (e_store rfl rfl rfl rfl Try.sizeOf43 rfl) ?_
  refine ao_read trivial (r_assign rfl) rfl ?_
  refine ao_nil ?_
  refine aq_then ?_
  refine aw_ret ?_
  refine aq_ret ?_
  obtain rfl := is_some h
  exact aq_finx (l := [.cell 2 43, .tmp 3]) (xs := [.v (.arr 6 (.int .i64)) r2.1, .int .i64 r1.1]) idn [.v (.arr 6 (.int .i64)) r2.1, .int .i64 r1.1] [] rfl (by exact ⟨⟨⟨_, _, rfl⟩, r_load_arr rfl Try.isAgg43 Try.sizeOf43 rfl rfl rfl⟩, rfl, trivial⟩) (by exact ⟨ad_ren rfl, ad_ren rfl, trivial⟩) (by exact trivial) rfl (nk rfl) rfl rfl ⟨rfl, rfl⟩
theorem c_impl_LandChance {fu : Nat} {x0 : (List Int)} {x1 : Int} {r : (List Int) × Bool} (h : Is (p_impl_LandChance fu x0 x1) (some r)) :
    Scalar Try.prog 54 [.v (.arr 6 (.int .i64)) x0, .int .i64 x1] (.tup [.v (.arr 2 (.int .i64)) r.1, .bool r.2]) := by
  unfold p_impl_LandChance at h
  refine ac_enter ⟨60, 0⟩ Try.func54 rfl rfl rfl rfl rfl (fun Γ => ?_)
  refine aw_seq ?_
  refine aw_region ?_
  refine ao_eff trivial (e_box 0 rfl rfl rfl rfl rfl rfl) rfl ?_
  refine ao_eff trivial (e_alloc 1 (y := .v (.arr 2 (.int .i64)) ((List.replicate 2 0) : (List Int))) Try.zeroValue30 (fun ρ h M => ra_zero_arr (t := (.int .i64)) rfl) rfl rfl rfl rfl rfl) rfl ?_
  refine ao_read trivial (r_assign rfl) rfl ?_
  refine ao_nil ?_
  refine aq_then ?_
  refine aw_seq ?_
  refine aw_seq ?_
  refine aw_region ?_
  refine ao_read trivial (r_load_arr rfl Try.isAgg43 Try.sizeOf43 rfl rfl rfl) rfl ?_
  refine ao_scall trivial (scall (c_impl_isRunner (is_mk (rfl : p_impl_isRunner x0 = _))) rfl Try.func124 rfl rfl rfl rfl (fun σ => ⟨ad_ren rfl, trivial⟩)) rfl ?_
  refine ao_read trivial (r_not rfl) rfl ?_
  refine ao_read trivial (r_move rfl) rfl ?_
  refine ao_readG (x := .int .i64 x1) rfl (GV.F rfl) (fun hg1 => r_move rfl) rfl ?_
  refine ao_scallG (r := .bool (p_impl_within x1 0 8)) rfl (GV.F rfl) (fun hg2 => SCall.strip 14 rfl (hg2) (scall (c_impl_within (is_mk (rfl : p_impl_within x1 0 8 = _))) rfl Try.func101 rfl rfl rfl rfl (fun σ => ⟨ad_ren rfl, ad_ren rfl, ad_ren rfl, trivial⟩))) rfl ?_
  refine ao_readG (x := .bool (!(p_impl_within x1 0 8))) rfl (GV.F rfl) (fun hg3 => Reads.strip 15 rfl (hg3) (r_not rfl)) rfl ?_
  refine ao_read trivial (r_orB rfl rfl) rfl ?_
  refine ao_nil ?_
  refine aq_then ?_
  refine aw_cond rfl (fun hb4 => ?_) (fun hb4 => ?_)
  · replace h := is_if hb4 h
    refine aw_seq ?_
    refine aw_region ?_
    refine ao_read trivial (r_build_zero (t := (.int .i64)) Try.underlying30 Try.zeroValue30 Try.sizeOf3 rfl) rfl ?_
    refine ao_effS trivial (e_store rfl rfl rfl rfl Try.sizeOf30 rfl) ?_
    refine ao_read trivial (r_assign rfl) rfl ?_
    refine ao_nil ?_
    refine aq_then ?_
    refine aw_ret ?_
    refine aq_then_ret ?_
    refine aq_ret ?_
    obtain rfl := is_some h
    exact aq_finx (l := [.cell 4 30, .tmp 5]) (xs := [.v (.arr 2 (.int .i64)) ((List.replicate 2 0) : (List Int)), .bool false]) idn [.v (.arr 2 (.int .i64)) ((List.replicate 2 0) : (List Int)), .bool false] [] rfl (by exact ⟨⟨⟨_, _, rfl⟩, r_load_arr rfl Try.isAgg30 Try.sizeOf30 rfl rfl rfl⟩, rfl, trivial⟩) (by exact ⟨ad_ren rfl, ad_ren rfl, trivial⟩) (by exact trivial) rfl (nk rfl) rfl rfl ⟨rfl, rfl⟩
  · obtain ⟨q5, q6⟩ := or_f hb4
    replace h := is_else (ne_t hb4) h
    refine aw_skip ?_
    refine aq_then ?_
    refine aw_seq ?_
    refine aw_region ?_
    refine ao_read trivial (r_move rfl) rfl ?_
    refine ao_read trivial (r_add rfl rfl) rfl ?_
    obtain ⟨g7, h⟩ := is_guard h
    obtain ⟨g8, h⟩ := is_guard h
    refine ao_eff trivial (e_makeSlice 2 (t := (.int .i64)) Try.underlying36 (rfl : Try.prog.info? 3 = some _) rfl rfl rfl rfl rfl rfl (by omega) (by omega) rfl rfl) rfl ?_
    refine ao_read trivial (r_assign rfl) rfl ?_
    refine ao_nil ?_
    refine aq_then ?_
    refine aw_seq ?_
    refine aw_region ?_
    refine ao_read trivial (r_move rfl) rfl ?_
    obtain ⟨g9, h⟩ := is_guard h
    refine ao_read trivial (r_idxAddr_os Try.underlying36 Try.sizeOf3 rfl rfl rfl (show 0 ≤ 0 from by omega) (show 0 < ((List.replicate (IntKind.wrap .i64 (x1 + 1)).toNat (0 : Int)).length : Int) from by (try simp only [List.length_replicate]) <;> omega)) rfl ?_
    refine ao_effS trivial (e_store_elem_int Try.sizeOf3 rfl rfl rfl rfl (show 0 < (List.replicate (IntKind.wrap .i64 (x1 + 1)).toNat (0 : Int)).length from by (try simp only [List.length_replicate]) <;> omega) rfl) ?_
    refine ao_nil ?_
    refine aq_then ?_
    refine aw_seq ?_
    refine aw_seq ?_
    refine aw_region ?_
    refine ao_read trivial (r_assign rfl) rfl ?_
    refine ao_nil ?_
    refine aq_then ?_
    refine aw_block ?_
    refine aw_loop (AL.sub (sub_mk idn (by exact ⟨⟨_, rfl, ad_ren rfl⟩, ⟨_, rfl, ad_ren rfl⟩, ⟨_, rfl, ad_ren rfl⟩, ⟨_, rfl, ad_ren rfl⟩, ⟨_, rfl, ad_ren rfl⟩, trivial⟩) (by exact ⟨⟨_, rfl, ⟨rfl, trivial⟩⟩, ⟨_, rfl, ⟨rfl, trivial⟩⟩, ⟨_, rfl, rfl⟩, trivial⟩) (by rfl) (nk rfl)) (al_whl (fun (s10 : Int × (List Int)) => [(1, .int .i64 x1), (2, .ref 0 0), (4, .ref 1 0), (6, .os 2), (7, .int .i64 s10.1)]) (fun (s10 : Int × (List Int)) => [(0, .var [.arr (.int .i64) 6 x0]), (1, .var [.arr (.int .i64) 2 ((List.replicate 2 0) : (List Int))]), (2, .row (.int .i64) s10.2)]) (fun (s10 : Int × (List Int)) => (s10.2.length : Int) = (IntKind.wrap .i64 (x1 + 1))) h (by (try simp only [List.length_set, List.length_append, List.length_cons, List.length_nil, List.length_replicate, List.length_take, List.length_drop]) <;> omega) (fun d12 s10 hI h ih12 => ?_)))
    replace h := is_whlS h
    refine al_round ?_
    refine aw_seq ?_
    refine aw_seq ?_
    refine aw_region ?_
    refine ao_read trivial (r_move rfl) rfl ?_
    refine ao_read trivial (r_move rfl) rfl ?_
    refine ao_read trivial (r_leq rfl rfl) rfl ?_
    refine ao_nil ?_
    refine aq_then ?_
    refine aw_cond rfl (fun hb14 => ?_) (fun hb14 => ?_)
    · have q15 := d_t hb14
      replace h := is_if (d_t hb14) h
      refine aw_skip ?_
      refine aq_then ?_
      refine aw_seq ?_
      refine aw_block ?_
      refine aw_seq ?_
      refine aw_region ?_
      refine ao_read trivial (r_load_arr rfl Try.isAgg43 Try.sizeOf43 rfl rfl rfl) rfl ?_
      refine ao_read trivial (r_move rfl) rfl ?_
      refine ao_nil ?_
      refine aq_then ?_
      refine aw_block ?_
      refine aw_loop (AL.sub (fr' := [(1, .int .i64 x1), (2, .ref 0 0), (4, .ref 1 0), (6, .os 2), (7, .int .i64 s10.1), (29, .v (.arr 6 (.int .i64)) x0), (30, .int .i64 0)]) (H' := [(0, .var [.arr (.int .i64) 6 x0]), (1, .var [.arr (.int .i64) 2 ((List.replicate 2 0) : (List Int))]), (2, .row (.int .i64) s10.2)]) (sub_mk idn (by exact ⟨⟨_, rfl, ad_ren rfl⟩, ⟨_, rfl, ad_ren rfl⟩, ⟨_, rfl, ad_ren rfl⟩, ⟨_, rfl, ad_ren rfl⟩, ⟨_, rfl, ad_ren rfl⟩, ⟨_, rfl, ad_ren rfl⟩, ⟨_, rfl, ad_ren rfl⟩, trivial⟩) (by exact ⟨⟨_, rfl, ⟨rfl, trivial⟩⟩, ⟨_, rfl, ⟨rfl, trivial⟩⟩, ⟨_, rfl, rfl⟩, trivial⟩) (by rfl) (nk rfl)) (al_cnt (fun i18 (s17 : (List Int)) => [(1, .int .i64 x1), (2, .ref 0 0), (4, .ref 1 0), (6, .os 2), (7, .int .i64 s10.1), (29, .v (.arr 6 (.int .i64)) x0), (30, .int .i64 i18)]) (fun i18 (s17 : (List Int)) => [(0, .var [.arr (.int .i64) 6 x0]), (1, .var [.arr (.int .i64) 2 ((List.replicate 2 0) : (List Int))]), (2, .row (.int .i64) s17)]) (fun d i18 (s17 : (List Int)) => d = Int.toNat (6 - i18) ∧ 0 ≤ i18 ∧ (s17.length : Int) = (IntKind.wrap .i64 (x1 + 1)) ∧ i18 ≤ 6) h ⟨rfl, (by (try simp only [List.length_set, List.length_append, List.length_cons, List.length_nil, List.length_replicate, List.length_take, List.length_drop]) <;> omega), (by (try simp only [List.length_set, List.length_append, List.length_cons, List.length_nil, List.length_replicate, List.length_take, List.length_drop]) <;> omega), (by (try simp only [List.length_set, List.length_append, List.length_cons, List.length_nil, List.length_replicate, List.length_take, List.length_drop]) <;> omega)⟩ (fun d19 i18 s17 hI h ih19 => ?_)))
      obtain ⟨hd, _, _, _⟩ := hI
      refine al_round ?_
      refine aw_seq ?_
      refine aw_region ?_
      refine ao_read trivial (r_lss rfl rfl) rfl ?_
      refine ao_nil ?_
      refine aq_then ?_
      refine aw_seq ?_
      refine aw_cond rfl (fun hb21 => ?_) (fun hb21 => ?_)
      · have q22 := d_t hb21
        obtain ⟨d19, rfl⟩ : ∃ e, d19 = e + 1 := ⟨d19 - 1, by omega⟩
        replace h := is_cntS h
        refine aw_skip ?_
        refine aq_then ?_
        refine aw_seq ?_
        refine aw_block ?_
        refine aw_seq ?_
        refine aw_region ?_
        refine ao_read trivial (r_index_a (t := (.int .i64)) Try.underlying43 Try.isAgg3 Try.sizeOf3 rfl rfl (by omega) (by omega)) rfl ?_
        refine ao_read trivial (r_assign rfl) rfl ?_
        refine ao_nil ?_
        refine aq_then ?_
        refine aw_seq ?_
        refine aw_region ?_
        refine ao_read trivial (r_move rfl) rfl ?_
        refine ao_read trivial (r_move rfl) rfl ?_
        refine ao_read trivial (r_leq rfl rfl) rfl ?_
        refine ao_nil ?_
        refine aq_then ?_
        refine aw_cond rfl (fun hb24 => ?_) (fun hb24 => ?_)
        · have q25 : (x0.getD i18.toNat 0) ≤ s10.1 := d_t hb24
          replace h := is_if (d_t hb24) h
          obtain ⟨g27, h⟩ := is_guard h
          obtain ⟨g28, h⟩ := is_guard h
          obtain ⟨g29, h⟩ := is_guard h
          obtain ⟨g30, h⟩ := is_guard h
          obtain ⟨r31, r31h, h⟩ := is_bind h
          refine aw_draw 16 (by kernel_rfl) (by kernel_rfl) ?_
          refine an_read 0 (by kernel_rfl) (fun _ _ _ h => h) rfl (by kernel_rfl) trivial (r_move rfl) rfl ?_
          refine an_read 1 (by kernel_rfl) (fun _ _ _ h => h) rfl (by kernel_rfl) trivial (r_move rfl) rfl ?_
          refine an_read 2 (by kernel_rfl) (fun _ _ _ h => h) rfl (by kernel_rfl) trivial (r_idxAddr_os Try.underlying36 Try.sizeOf3 rfl rfl rfl (show 0 ≤ s10.1 from by omega) (show s10.1 < (s17.length : Int) from by omega)) rfl ?_
          refine an_read 3 (by kernel_rfl) (fun _ _ _ h => h) rfl (by kernel_rfl) trivial (r_load_elem_int Try.isAgg3 Try.sizeOf3 rfl rfl (show s10.1.toNat < s17.length from by omega)) rfl ?_
          refine an_read 4 (by kernel_rfl) (fun _ _ _ h => h) rfl (by kernel_rfl) trivial (r_move rfl) rfl ?_
          refine an_read 5 (by kernel_rfl) (fun _ _ _ h => h) rfl (by kernel_rfl) trivial (r_move rfl) rfl ?_
          refine an_read 6 (by kernel_rfl) (fun _ _ _ h => h) rfl (by kernel_rfl) trivial (r_move rfl) rfl ?_
          refine an_read 7 (by kernel_rfl) (fun _ _ _ h => h) rfl (by kernel_rfl) trivial (r_sub rfl rfl) rfl ?_
          refine an_read 8 (by kernel_rfl) (fun _ _ _ h => h) rfl (by kernel_rfl) trivial (r_idxAddr_os Try.underlying36 Try.sizeOf3 rfl rfl rfl (show 0 ≤ (IntKind.wrap .i64 (s10.1 - (x0.getD i18.toNat 0))) from by omega) (show (IntKind.wrap .i64 (s10.1 - (x0.getD i18.toNat 0))) < (s17.length : Int) from by omega)) rfl ?_
          refine an_read 9 (by kernel_rfl) (fun _ _ _ h => h) rfl (by kernel_rfl) trivial (r_load_elem_int Try.isAgg3 Try.sizeOf3 rfl rfl (show (IntKind.wrap .i64 (s10.1 - (x0.getD i18.toNat 0))).toNat < s17.length from by omega)) rfl ?_
          refine an_read 10 (by kernel_rfl) (fun _ _ _ h => h) rfl (by kernel_rfl) trivial (r_move rfl) rfl ?_
          refine an_read 11 (by kernel_rfl) (fun _ _ _ h => h) rfl (by kernel_rfl) trivial (r_sub rfl rfl) rfl ?_
          refine an_scall 12 (by kernel_rfl) (fun _ _ _ h => h) rfl (by kernel_rfl) trivial (scall (c_impl_power (is_mk r31h)) rfl Try.func103 rfl rfl rfl rfl (fun σ => ⟨ad_ren rfl, trivial⟩)) rfl ?_
          refine an_read 13 (by kernel_rfl) (fun _ _ _ h => h) rfl (by kernel_rfl) trivial (r_mul rfl rfl) rfl ?_
          refine an_read 14 (by kernel_rfl) (fun _ _ _ h => h) rfl (by kernel_rfl) trivial (r_add rfl rfl) rfl ?_
          refine an_read 15 (by kernel_rfl) (fun _ _ _ h => h) rfl (by kernel_rfl) trivial (r_idxAddr_os Try.underlying36 Try.sizeOf3 rfl rfl rfl (show 0 ≤ s10.1 from by omega) (show s10.1 < (s17.length : Int) from by omega)) rfl ?_
          refine an_tail rfl rfl ?_
          refine ao_effS trivial (e_store_elem_int Try.sizeOf3 rfl rfl rfl rfl (show s10.1.toNat < s17.length from by omega) rfl) ?_
          refine ao_nil ?_
          refine aq_in ?_
          refine aq_then ?_
          refine aw_region ?_
          refine ao_read trivial (r_addI rfl rfl (wrap_id (by omega) (by omega))) rfl ?_
          refine ao_read trivial (r_move rfl) rfl ?_
          refine ao_nil ?_
          exact aq_again (AL.sub (sub_mk idn (by exact ⟨⟨_, rfl, ad_ren rfl⟩, ⟨_, rfl, ad_ren rfl⟩, ⟨_, rfl, ad_ren rfl⟩, ⟨_, rfl, ad_ren rfl⟩, ⟨_, rfl, ad_ren rfl⟩, ⟨_, rfl, ad_ren rfl⟩, ⟨_, rfl, ad_ren rfl⟩, trivial⟩) (by exact ⟨⟨_, rfl, ⟨rfl, trivial⟩⟩, ⟨_, rfl, ⟨rfl, trivial⟩⟩, ⟨_, rfl, rfl⟩, trivial⟩) (by rfl) (nk rfl)) (ih19 d19 (i18 + 1) (s17.set s10.1.toNat (IntKind.wrap .i64 ((s17.getD s10.1.toNat 0) + (IntKind.wrap .i64 ((s17.getD (IntKind.wrap .i64 (s10.1 - (x0.getD i18.toNat 0))).toNat 0) * r31))))) (by omega) ⟨by omega, (by (try simp only [List.length_set, List.length_append, List.length_cons, List.length_nil, List.length_replicate, List.length_take, List.length_drop]) <;> omega), (by (try simp only [List.length_set, List.length_append, List.length_cons, List.length_nil, List.length_replicate, List.length_take, List.length_drop]) <;> omega), (by (try simp only [List.length_set, List.length_append, List.length_cons, List.length_nil, List.length_replicate, List.length_take, List.length_drop]) <;> omega)⟩ h))
        · have q26 : ¬ ((x0.getD i18.toNat 0) ≤ s10.1) := d_f hb24
          replace h := is_else (d_f hb24) h
          refine aw_skip ?_
          refine aq_in ?_
          refine aq_then ?_
          refine aw_region ?_
          refine ao_read trivial (r_addI rfl rfl (wrap_id (by omega) (by omega))) rfl ?_
          refine ao_read trivial (r_move rfl) rfl ?_
          refine ao_nil ?_
          exact aq_again (AL.sub (sub_mk idn (by exact ⟨⟨_, rfl, ad_ren rfl⟩, ⟨_, rfl, ad_ren rfl⟩, ⟨_, rfl, ad_ren rfl⟩, ⟨_, rfl, ad_ren rfl⟩, ⟨_, rfl, ad_ren rfl⟩, ⟨_, rfl, ad_ren rfl⟩, ⟨_, rfl, ad_ren rfl⟩, trivial⟩) (by exact ⟨⟨_, rfl, ⟨rfl, trivial⟩⟩, ⟨_, rfl, ⟨rfl, trivial⟩⟩, ⟨_, rfl, rfl⟩, trivial⟩) (by rfl) (nk rfl)) (ih19 d19 (i18 + 1) s17 (by omega) ⟨by omega, (by (try simp only [List.length_set, List.length_append, List.length_cons, List.length_nil, List.length_replicate, List.length_take, List.length_drop]) <;> omega), (by (try simp only [List.length_set, List.length_append, List.length_cons, List.length_nil, List.length_replicate, List.length_take, List.length_drop]) <;> omega), (by (try simp only [List.length_set, List.length_append, List.length_cons, List.length_nil, List.length_replicate, List.length_take, List.length_drop]) <;> omega)⟩ h))
      · have q23 := d_f hb21
        obtain rfl : d19 = 0 := by omega
        replace h := is_cnt0 h
        refine aw_exit ?_
        refine aq_then_exit ?_
        refine aq_then_exit ?_
        refine aq_in_exit ?_
        refine aq_in ?_
        refine aq_then ?_
        refine aw_region ?_
        refine ao_read trivial (r_move rfl) rfl ?_
        refine ao_read trivial (r_add rfl rfl) rfl ?_
        refine ao_read trivial (r_assign rfl) rfl ?_
        refine ao_nil ?_
        exact aq_again (AL.sub (sub_mk idn (by exact ⟨⟨_, rfl, ad_ren rfl⟩, ⟨_, rfl, ad_ren rfl⟩, ⟨_, rfl, ad_ren rfl⟩, ⟨_, rfl, ad_ren rfl⟩, ⟨_, rfl, ad_ren rfl⟩, trivial⟩) (by exact ⟨⟨_, rfl, ⟨rfl, trivial⟩⟩, ⟨_, rfl, ⟨rfl, trivial⟩⟩, ⟨_, rfl, rfl⟩, trivial⟩) (by rfl) (nk rfl)) (ih12 ((IntKind.wrap .i64 (s10.1 + 1)), s17) (by (try simp only [List.length_set, List.length_append, List.length_cons, List.length_nil, List.length_replicate, List.length_take, List.length_drop]) <;> omega) h))
    · have q16 := d_f hb14
      replace h := is_else (d_f hb14) h
      refine aw_exit ?_
      refine aq_then_exit ?_
      refine aq_then_exit ?_
      refine aq_in_exit ?_
      refine aq_then ?_
      refine aw_seq ?_
      obtain ⟨g32, h⟩ := is_guard h
      obtain ⟨g33, h⟩ := is_guard h
      obtain ⟨r34, r34h, h⟩ := is_bind h
      obtain ⟨r35, r35h, h⟩ := is_bind h
      refine aw_draw 7 (by kernel_rfl) (by kernel_rfl) ?_
      refine an_read 0 (by kernel_rfl) (fun _ _ _ h => h) rfl (by kernel_rfl) trivial (r_move rfl) rfl ?_
      refine an_read 1 (by kernel_rfl) (fun _ _ _ h => h) rfl (by kernel_rfl) trivial (r_move rfl) rfl ?_
      refine an_read 2 (by kernel_rfl) (fun _ _ _ h => h) rfl (by kernel_rfl) trivial (r_idxAddr_os Try.underlying36 Try.sizeOf3 rfl rfl rfl (show 0 ≤ x1 from by omega) (show x1 < (s10.2.length : Int) from by omega)) rfl ?_
      refine an_read 3 (by kernel_rfl) (fun _ _ _ h => h) rfl (by kernel_rfl) trivial (r_load_elem_int Try.isAgg3 Try.sizeOf3 rfl rfl (show x1.toNat < s10.2.length from by omega)) rfl ?_
      refine an_read 4 (by kernel_rfl) (fun _ _ _ h => h) rfl (by kernel_rfl) trivial (r_move rfl) rfl ?_
      refine an_scall 5 (by kernel_rfl) (fun _ _ _ h => h) rfl (by kernel_rfl) trivial (scall (c_impl_power (is_mk r34h)) rfl Try.func103 rfl rfl rfl rfl (fun σ => ⟨ad_ren rfl, trivial⟩)) rfl ?_
      refine an_scall 6 (by kernel_rfl) (fun _ _ _ h => h) rfl (by kernel_rfl) trivial (scall (c_impl_fraction (is_mk r35h)) rfl Try.func102 rfl rfl rfl rfl (fun σ => ⟨ad_ren rfl, ad_ren rfl, trivial⟩)) rfl ?_
      refine an_tail rfl rfl ?_
      refine ao_effS trivial (e_store rfl rfl rfl rfl Try.sizeOf30 rfl) ?_
      refine ao_read trivial (r_assign rfl) rfl ?_
      refine ao_nil ?_
      refine aq_then ?_
      refine aw_ret ?_
      refine aq_ret ?_
      obtain rfl := is_some h
      exact aq_finx (l := [.cell 4 30, .tmp 5]) (xs := [.v (.arr 2 (.int .i64)) r35, .bool true]) idn [.v (.arr 2 (.int .i64)) r35, .bool true] [] rfl (by exact ⟨⟨⟨_, _, rfl⟩, r_load_arr rfl Try.isAgg30 Try.sizeOf30 rfl rfl rfl⟩, rfl, trivial⟩) (by exact ⟨ad_ren rfl, ad_ren rfl, trivial⟩) (by exact trivial) rfl (nk rfl) rfl rfl ⟨rfl, rfl⟩
theorem c_spec_LandChance {fu : Nat} {x0 : (List Int)} {x1 : Int} {r : (List Int) × Bool} (h : Is (p_spec_LandChance fu x0 x1) (some r)) :
    Scalar Try.prog 55 [.v (.arr 6 (.int .i64)) x0, .int .i64 x1] (.tup [.v (.arr 2 (.int .i64)) r.1, .bool r.2]) := by
  unfold p_spec_LandChance at h
  refine ac_enter ⟨61, 0⟩ Try.func55 rfl rfl rfl rfl rfl (fun Γ => ?_)
  refine aw_seq ?_
  refine aw_region ?_
  refine ao_eff trivial (e_box 0 rfl rfl rfl rfl rfl rfl) rfl ?_
  refine ao_eff trivial (e_alloc 1 (y := .v (.arr 2 (.int .i64)) ((List.replicate 2 0) : (List Int))) Try.zeroValue30 (fun ρ h M => ra_zero_arr (t := (.int .i64)) rfl) rfl rfl rfl rfl rfl) rfl ?_
  refine ao_read trivial (r_assign rfl) rfl ?_
  refine ao_nil ?_
  refine aq_then ?_
  refine aw_seq ?_
  refine aw_seq ?_
  refine aw_region ?_
  refine ao_read trivial (r_load_arr rfl Try.isAgg43 Try.sizeOf43 rfl rfl rfl) rfl ?_
  obtain ⟨r1, r1h, h⟩ := is_bind h
  refine ao_scall trivial (scall (c_spec_l7Die (is_mk r1h)) rfl Try.func126 rfl rfl rfl rfl (fun σ => ⟨ad_ren rfl, trivial⟩)) rfl ?_
  refine ao_read trivial (r_not rfl) rfl ?_
  refine ao_read trivial (r_move rfl) rfl ?_
  refine ao_readG (x := .int .i64 x1) rfl (GV.F rfl) (fun hg2 => r_move rfl) rfl ?_
  refine ao_scallG (r := .bool (p_spec_l1In x1 0 8)) rfl (GV.F rfl) (fun hg3 => SCall.strip 14 rfl (hg3) (scall (c_spec_l1In (is_mk (rfl : p_spec_l1In x1 0 8 = _))) rfl Try.func123 rfl rfl rfl rfl (fun σ => ⟨ad_ren rfl, ad_ren rfl, ad_ren rfl, trivial⟩))) rfl ?_
  refine ao_readG (x := .bool (!(p_spec_l1In x1 0 8))) rfl (GV.F rfl) (fun hg4 => Reads.strip 15 rfl (hg4) (r_not rfl)) rfl ?_
  refine ao_read trivial (r_orB rfl rfl) rfl ?_
  refine ao_nil ?_
  refine aq_then ?_
  refine aw_cond rfl (fun hb5 => ?_) (fun hb5 => ?_)
  · replace h := is_if hb5 h
    refine aw_seq ?_
    refine aw_region ?_
    refine ao_read trivial (r_build_zero (t := (.int .i64)) Try.underlying30 Try.zeroValue30 Try.sizeOf3 rfl) rfl ?_
    refine ao_effS trivial (e_store rfl rfl rfl rfl Try.sizeOf30 rfl) ?_
    refine ao_read trivial (r_assign rfl) rfl ?_
    refine ao_nil ?_
    refine aq_then ?_
    refine aw_ret ?_
    refine aq_then_ret ?_
    refine aq_ret ?_
    obtain rfl := is_some h
    exact aq_finx (l := [.cell 4 30, .tmp 5]) (xs := [.v (.arr 2 (.int .i64)) ((List.replicate 2 0) : (List Int)), .bool false]) idn [.v (.arr 2 (.int .i64)) ((List.replicate 2 0) : (List Int)), .bool false] [] rfl (by exact ⟨⟨⟨_, _, rfl⟩, r_load_arr rfl Try.isAgg30 Try.sizeOf30 rfl rfl rfl⟩, rfl, trivial⟩) (by exact ⟨ad_ren rfl, ad_ren rfl, trivial⟩) (by exact trivial) rfl (nk rfl) rfl rfl ⟨rfl, rfl⟩
  · obtain ⟨q6, q7⟩ := or_f hb5
    replace h := is_else (ne_t hb5) h
    refine aw_skip ?_
    refine aq_then ?_
    refine aw_seq ?_
    refine aw_region ?_
    refine ao_eff trivial (e_buildSlice (l := [(0, .const (.int .i64 1))]) (t := (.int .i64)) 2 ([1] : (List Int)) rfl Try.underlying36 Try.zeroValue3 Try.sizeOf3 rfl rfl rfl rfl rfl rfl rfl) rfl ?_
    refine ao_read trivial (r_assign rfl) rfl ?_
    refine ao_nil ?_
    refine aq_then ?_
    refine aw_seq ?_
    refine aw_seq ?_
    refine aw_region ?_
    refine ao_read trivial (r_assign rfl) rfl ?_
    refine ao_nil ?_
    refine aq_then ?_
    refine aw_block ?_
    refine aw_loop (AL.sub (sub_mk idn (by exact ⟨⟨_, rfl, ad_ren rfl⟩, ⟨_, rfl, ad_ren rfl⟩, ⟨_, rfl, ad_ren rfl⟩, ⟨_, rfl, ad_ren rfl⟩, ⟨_, rfl, ad_ren rfl⟩, trivial⟩) (by exact ⟨⟨_, rfl, ⟨rfl, trivial⟩⟩, ⟨_, rfl, ⟨rfl, trivial⟩⟩, ⟨_, rfl, rfl⟩, trivial⟩) (by rfl) (nk rfl)) (al_whl (fun (s8 : Int × (List Int)) => [(1, .int .i64 x1), (2, .ref 0 0), (4, .ref 1 0), (6, .os 2), (7, .int .i64 s8.1)]) (fun (s8 : Int × (List Int)) => [(0, .var [.arr (.int .i64) 6 x0]), (1, .var [.arr (.int .i64) 2 ((List.replicate 2 0) : (List Int))]), (2, .row (.int .i64) s8.2)]) (fun (s8 : Int × (List Int)) => True) h trivial (fun d10 s8 hI h ih10 => ?_)))
    replace h := is_whlS h
    refine al_round ?_
    refine aw_seq ?_
    refine aw_seq ?_
    refine aw_region ?_
    refine ao_read trivial (r_move rfl) rfl ?_
    refine ao_read trivial (r_move rfl) rfl ?_
    refine ao_read trivial (r_leq rfl rfl) rfl ?_
    refine ao_nil ?_
    refine aq_then ?_
    refine aw_cond rfl (fun hb12 => ?_) (fun hb12 => ?_)
    · have q13 := d_t hb12
      replace h := is_if (d_t hb12) h
      refine aw_skip ?_
      refine aq_then ?_
      refine aw_seq ?_
      refine aw_block ?_
      refine aw_seq ?_
      refine aw_region ?_
      refine ao_read trivial (r_assign rfl) rfl ?_
      refine ao_nil ?_
      refine aq_then ?_
      refine aw_seq ?_
      refine aw_seq ?_
      refine aw_region ?_
      refine ao_read trivial (r_assign rfl) rfl ?_
      refine ao_nil ?_
      refine aq_then ?_
      refine aw_block ?_
      refine aw_loop (AL.sub (fr' := [(1, .int .i64 x1), (2, .ref 0 0), (4, .ref 1 0), (6, .os 2), (7, .int .i64 s8.1), (8, .int .i64 0), (9, .int .i64 0)]) (H' := [(0, .var [.arr (.int .i64) 6 x0]), (1, .var [.arr (.int .i64) 2 ((List.replicate 2 0) : (List Int))]), (2, .row (.int .i64) s8.2)]) (sub_mk idn (by exact ⟨⟨_, rfl, ad_ren rfl⟩, ⟨_, rfl, ad_ren rfl⟩, ⟨_, rfl, ad_ren rfl⟩, ⟨_, rfl, ad_ren rfl⟩, ⟨_, rfl, ad_ren rfl⟩, ⟨_, rfl, ad_ren rfl⟩, ⟨_, rfl, ad_ren rfl⟩, trivial⟩) (by exact ⟨⟨_, rfl, ⟨rfl, trivial⟩⟩, ⟨_, rfl, ⟨rfl, trivial⟩⟩, ⟨_, rfl, rfl⟩, trivial⟩) (by rfl) (nk rfl)) (al_cnt (fun i16 (s15 : Int) => [(1, .int .i64 x1), (2, .ref 0 0), (4, .ref 1 0), (6, .os 2), (7, .int .i64 s8.1), (8, .int .i64 s15), (9, .int .i64 i16)]) (fun i16 (s15 : Int) => [(0, .var [.arr (.int .i64) 6 x0]), (1, .var [.arr (.int .i64) 2 ((List.replicate 2 0) : (List Int))]), (2, .row (.int .i64) s8.2)]) (fun d i16 (s15 : Int) => d = Int.toNat (6 - i16) ∧ 0 ≤ i16 ∧ i16 ≤ 6) h ⟨rfl, (by (try simp only [List.length_set, List.length_append, List.length_cons, List.length_nil, List.length_replicate, List.length_take, List.length_drop]) <;> omega), (by (try simp only [List.length_set, List.length_append, List.length_cons, List.length_nil, List.length_replicate, List.length_take, List.length_drop]) <;> omega)⟩ (fun d17 i16 s15 hI h ih17 => ?_)))
      obtain ⟨hd, _, _⟩ := hI
      refine al_round ?_
      refine aw_seq ?_
      refine aw_seq ?_
      refine aw_region ?_
      refine ao_read trivial (r_move rfl) rfl ?_
      refine ao_read trivial (r_lss rfl rfl) rfl ?_
      refine ao_nil ?_
      refine aq_then ?_
      refine aw_cond rfl (fun hb19 => ?_) (fun hb19 => ?_)
      · have q20 := d_t hb19
        obtain ⟨d17, rfl⟩ : ∃ e, d17 = e + 1 := ⟨d17 - 1, by omega⟩
        replace h := is_cntS h
        refine aw_skip ?_
        refine aq_then ?_
        refine aw_seq ?_
        refine aw_block ?_
        refine aw_seq ?_
        refine aw_region ?_
        refine ao_read trivial (r_move rfl) rfl ?_
        refine ao_read trivial (r_idxAddr_arr (i := i16) Try.underlying43 Try.sizeOf3 rfl rfl (show 0 ≤ i16 from by omega) (show i16 < (6 : Int) from by omega)) rfl ?_
        refine ao_read trivial (r_load_elema_int Try.isAgg3 Try.sizeOf3 rfl rfl rfl (show i16.toNat < 6 from by omega)) rfl ?_
        refine ao_read trivial (r_move rfl) rfl ?_
        refine ao_read trivial (r_leq rfl rfl) rfl ?_
        refine ao_nil ?_
        refine aq_then ?_
        refine aw_cond rfl (fun hb22 => ?_) (fun hb22 => ?_)
        · have q23 : (x0.getD i16.toNat 0) ≤ s8.1 := d_t hb22
          replace h := is_if (d_t hb22) h
          obtain ⟨g25, h⟩ := is_guard h
          obtain ⟨g26, h⟩ := is_guard h
          obtain ⟨r27, r27h, h⟩ := is_bind h
          refine aw_drawAll (by kernel_rfl) ?_
          refine an_read 0 (by kernel_rfl) (fun _ _ _ h => h) rfl (by kernel_rfl) trivial (r_move rfl) rfl ?_
          refine an_read 1 (by kernel_rfl) (fun _ _ _ h => h) rfl (by kernel_rfl) trivial (r_move rfl) rfl ?_
          refine an_read 2 (by kernel_rfl) (fun _ _ _ h => h) rfl (by kernel_rfl) trivial (r_move rfl) rfl ?_
          refine an_read 3 (by kernel_rfl) (fun _ _ _ h => h) rfl (by kernel_rfl) trivial (r_move rfl) rfl ?_
          refine an_read 4 (by kernel_rfl) (fun _ _ _ h => h) rfl (by kernel_rfl) trivial (r_idxAddr_arr (i := i16) Try.underlying43 Try.sizeOf3 rfl rfl (show 0 ≤ i16 from by omega) (show i16 < (6 : Int) from by omega)) rfl ?_
          refine an_read 5 (by kernel_rfl) (fun _ _ _ h => h) rfl (by kernel_rfl) trivial (r_load_elema_int Try.isAgg3 Try.sizeOf3 rfl rfl rfl (show i16.toNat < 6 from by omega)) rfl ?_
          refine an_read 6 (by kernel_rfl) (fun _ _ _ h => h) rfl (by kernel_rfl) trivial (r_sub rfl rfl) rfl ?_
          refine an_read 7 (by kernel_rfl) (fun _ _ _ h => h) rfl (by kernel_rfl) trivial (r_idxAddr_os Try.underlying36 Try.sizeOf3 rfl rfl rfl (show 0 ≤ (IntKind.wrap .i64 (s8.1 - (x0.getD i16.toNat 0))) from by omega) (show (IntKind.wrap .i64 (s8.1 - (x0.getD i16.toNat 0))) < (s8.2.length : Int) from by omega)) rfl ?_
          refine an_read 8 (by kernel_rfl) (fun _ _ _ h => h) rfl (by kernel_rfl) trivial (r_load_elem_int Try.isAgg3 Try.sizeOf3 rfl rfl (show (IntKind.wrap .i64 (s8.1 - (x0.getD i16.toNat 0))).toNat < s8.2.length from by omega)) rfl ?_
          refine an_read 9 (by kernel_rfl) (fun _ _ _ h => h) rfl (by kernel_rfl) trivial (r_move rfl) rfl ?_
          refine an_read 10 (by kernel_rfl) (fun _ _ _ h => h) rfl (by kernel_rfl) trivial (r_idxAddr_arr (i := i16) Try.underlying43 Try.sizeOf3 rfl rfl (show 0 ≤ i16 from by omega) (show i16 < (6 : Int) from by omega)) rfl ?_
          refine an_read 11 (by kernel_rfl) (fun _ _ _ h => h) rfl (by kernel_rfl) trivial (r_load_elema_int Try.isAgg3 Try.sizeOf3 rfl rfl rfl (show i16.toNat < 6 from by omega)) rfl ?_
          refine an_read 12 (by kernel_rfl) (fun _ _ _ h => h) rfl (by kernel_rfl) trivial (r_sub rfl rfl) rfl ?_
          refine an_scall 13 (by kernel_rfl) (fun _ _ _ h => h) rfl (by kernel_rfl) trivial (scall (c_spec_l2All (is_mk r27h)) rfl Try.func106 rfl rfl rfl rfl (fun σ => ⟨ad_ren rfl, trivial⟩)) rfl ?_
          refine an_read 14 (by kernel_rfl) (fun _ _ _ h => h) rfl (by kernel_rfl) trivial (r_mul rfl rfl) rfl ?_
          refine an_read 15 (by kernel_rfl) (fun _ _ _ h => h) rfl (by kernel_rfl) trivial (r_add rfl rfl) rfl ?_
          refine an_read 16 (by kernel_rfl) (fun _ _ _ h => h) rfl (by kernel_rfl) trivial (r_assign rfl) rfl ?_
          refine an_done rfl ?_
          refine aq_in ?_
          refine aq_then ?_
          refine aw_region ?_
          refine ao_read trivial (r_move rfl) rfl ?_
          refine ao_read trivial (r_addI rfl rfl (wrap_id (by omega) (by omega))) rfl ?_
          refine ao_read trivial (r_assign rfl) rfl ?_
          refine ao_nil ?_
          exact aq_again (AL.sub (sub_mk idn (by exact ⟨⟨_, rfl, ad_ren rfl⟩, ⟨_, rfl, ad_ren rfl⟩, ⟨_, rfl, ad_ren rfl⟩, ⟨_, rfl, ad_ren rfl⟩, ⟨_, rfl, ad_ren rfl⟩, ⟨_, rfl, ad_ren rfl⟩, ⟨_, rfl, ad_ren rfl⟩, trivial⟩) (by exact ⟨⟨_, rfl, ⟨rfl, trivial⟩⟩, ⟨_, rfl, ⟨rfl, trivial⟩⟩, ⟨_, rfl, rfl⟩, trivial⟩) (by rfl) (nk rfl)) (ih17 d17 (i16 + 1) (IntKind.wrap .i64 (s15 + (IntKind.wrap .i64 ((s8.2.getD (IntKind.wrap .i64 (s8.1 - (x0.getD i16.toNat 0))).toNat 0) * r27)))) (by omega) ⟨by omega, (by (try simp only [List.length_set, List.length_append, List.length_cons, List.length_nil, List.length_replicate, List.length_take, List.length_drop]) <;> omega), (by (try simp only [List.length_set, List.length_append, List.length_cons, List.length_nil, List.length_replicate, List.length_take, List.length_drop]) <;> omega)⟩ h))
        · have q24 : ¬ ((x0.getD i16.toNat 0) ≤ s8.1) := d_f hb22
          replace h := is_else (d_f hb22) h
          refine aw_skip ?_
          refine aq_in ?_
          refine aq_then ?_
          refine aw_region ?_
          refine ao_read trivial (r_move rfl) rfl ?_
          refine ao_read trivial (r_addI rfl rfl (wrap_id (by omega) (by omega))) rfl ?_
          refine ao_read trivial (r_assign rfl) rfl ?_
          refine ao_nil ?_
          exact aq_again (AL.sub (sub_mk idn (by exact ⟨⟨_, rfl, ad_ren rfl⟩, ⟨_, rfl, ad_ren rfl⟩, ⟨_, rfl, ad_ren rfl⟩, ⟨_, rfl, ad_ren rfl⟩, ⟨_, rfl, ad_ren rfl⟩, ⟨_, rfl, ad_ren rfl⟩, ⟨_, rfl, ad_ren rfl⟩, trivial⟩) (by exact ⟨⟨_, rfl, ⟨rfl, trivial⟩⟩, ⟨_, rfl, ⟨rfl, trivial⟩⟩, ⟨_, rfl, rfl⟩, trivial⟩) (by rfl) (nk rfl)) (ih17 d17 (i16 + 1) s15 (by omega) ⟨by omega, (by (try simp only [List.length_set, List.length_append, List.length_cons, List.length_nil, List.length_replicate, List.length_take, List.length_drop]) <;> omega), (by (try simp only [List.length_set, List.length_append, List.length_cons, List.length_nil, List.length_replicate, List.length_take, List.length_drop]) <;> omega)⟩ h))
      · have q21 := d_f hb19
        obtain rfl : d17 = 0 := by omega
        replace h := is_cnt0 h
        refine aw_exit ?_
        refine aq_then_exit ?_
        refine aq_then_exit ?_
        refine aq_in_exit ?_
        refine aq_then ?_
        refine aw_region ?_
        refine ao_read trivial (r_move rfl) rfl ?_
        refine ao_read trivial (r_move rfl) rfl ?_
        refine ao_eff trivial (e_buildSlice (l := [(0, .tmp 51)]) (t := (.int .i64)) 3 ([s15] : (List Int)) rfl Try.underlying36 Try.zeroValue3 Try.sizeOf3 rfl rfl rfl rfl rfl rfl rfl) rfl ?_
        obtain ⟨g28, h⟩ := is_guard h
        refine ao_eff trivial (e_append (t := (.int .i64)) 4 rfl Try.underlying36 (rfl : Try.prog.info? 3 = some _) rfl rfl rfl rfl rfl rfl rfl (src_os rfl) (show s8.2.length + ([s15] : (List Int)).length ≤ 1000000000 from by (try simp only [List.length_cons, List.length_nil]) <;> omega) rfl rfl) rfl ?_
        refine ao_read trivial (r_assign rfl) rfl ?_
        refine ao_nil ?_
        refine aq_in ?_
        refine aq_then ?_
        refine aw_region ?_
        refine ao_read trivial (r_move rfl) rfl ?_
        refine ao_read trivial (r_add rfl rfl) rfl ?_
        refine ao_read trivial (r_assign rfl) rfl ?_
        refine ao_nil ?_
        exact aq_again (AL.sub (sub_mk (rn [(2, 4)]) (by exact ⟨⟨_, rfl, ad_ren rfl⟩, ⟨_, rfl, ad_ren rfl⟩, ⟨_, rfl, ad_ren rfl⟩, ⟨_, rfl, ad_ren rfl⟩, ⟨_, rfl, ad_ren rfl⟩, trivial⟩) (by exact ⟨⟨_, rfl, ⟨rfl, trivial⟩⟩, ⟨_, rfl, ⟨rfl, trivial⟩⟩, ⟨_, rfl, rfl⟩, trivial⟩) (by rfl) (nk rfl)) (ih10 ((IntKind.wrap .i64 (s8.1 + 1)), (s8.2 ++ [s15])) trivial h))
    · have q14 := d_f hb12
      replace h := is_else (d_f hb12) h
      refine aw_exit ?_
      refine aq_then_exit ?_
      refine aq_then_exit ?_
      refine aq_in_exit ?_
      refine aq_then ?_
      refine aw_seq ?_
      obtain ⟨g29, h⟩ := is_guard h
      obtain ⟨g30, h⟩ := is_guard h
      obtain ⟨r31, r31h, h⟩ := is_bind h
      obtain ⟨r32, r32h, h⟩ := is_bind h
      refine aw_draw 7 (by kernel_rfl) (by kernel_rfl) ?_
      refine an_read 0 (by kernel_rfl) (fun _ _ _ h => h) rfl (by kernel_rfl) trivial (r_move rfl) rfl ?_
      refine an_read 1 (by kernel_rfl) (fun _ _ _ h => h) rfl (by kernel_rfl) trivial (r_move rfl) rfl ?_
      refine an_read 2 (by kernel_rfl) (fun _ _ _ h => h) rfl (by kernel_rfl) trivial (r_idxAddr_os Try.underlying36 Try.sizeOf3 rfl rfl rfl (show 0 ≤ x1 from by omega) (show x1 < (s8.2.length : Int) from by omega)) rfl ?_
      refine an_read 3 (by kernel_rfl) (fun _ _ _ h => h) rfl (by kernel_rfl) trivial (r_load_elem_int Try.isAgg3 Try.sizeOf3 rfl rfl (show x1.toNat < s8.2.length from by omega)) rfl ?_
      refine an_read 4 (by kernel_rfl) (fun _ _ _ h => h) rfl (by kernel_rfl) trivial (r_move rfl) rfl ?_
      refine an_scall 5 (by kernel_rfl) (fun _ _ _ h => h) rfl (by kernel_rfl) trivial (scall (c_spec_l2All (is_mk r31h)) rfl Try.func106 rfl rfl rfl rfl (fun σ => ⟨ad_ren rfl, trivial⟩)) rfl ?_
      refine an_scall 6 (by kernel_rfl) (fun _ _ _ h => h) rfl (by kernel_rfl) trivial (scall (c_spec_l2Cut (is_mk r32h)) rfl Try.func105 rfl rfl rfl rfl (fun σ => ⟨ad_ren rfl, ad_ren rfl, trivial⟩)) rfl ?_
      refine an_tail rfl rfl ?_
      refine ao_effS trivial (e_store rfl rfl rfl rfl Try.sizeOf30 rfl) ?_
      refine ao_read trivial (r_assign rfl) rfl ?_
      refine ao_nil ?_
      refine aq_then ?_
      refine aw_ret ?_
      refine aq_ret ?_
      obtain rfl := is_some h
      exact aq_finx (l := [.cell 4 30, .tmp 5]) (xs := [.v (.arr 2 (.int .i64)) r32, .bool true]) idn [.v (.arr 2 (.int .i64)) r32, .bool true] [] rfl (by exact ⟨⟨⟨_, _, rfl⟩, r_load_arr rfl Try.isAgg30 Try.sizeOf30 rfl rfl rfl⟩, rfl, trivial⟩) (by exact ⟨ad_ren rfl, ad_ren rfl, trivial⟩) (by exact trivial) rfl (nk rfl) rfl rfl ⟨rfl, rfl⟩
theorem c_spec_DrawFirstWins {x0 : (List Int)} {r : (List Int) × (List Int) × Int} (h : Is (p_spec_DrawFirstWins x0) (some r)) :
    Scalar Try.prog 56 [.v (.slice (.int .u8)) x0] (.tup [.v (.arr 6 (.int .i64)) r.1, .v (.arr 6 (.int .i64)) r.2.1, .int .i64 r.2.2]) := by
  unfold p_spec_DrawFirstWins at h
  refine ac_enter ⟨24, 0⟩ Try.func56 rfl rfl rfl rfl rfl (fun Γ => ?_)
  refine sl_len_m 0 (x0.length : Int) rfl rfl (fun hl0 => ?_)
  refine aw_seq ?_
  refine aw_region ?_
  refine ao_eff trivial (e_alloc 0 (y := .v (.arr 6 (.int .i64)) ((List.replicate 6 0) : (List Int))) Try.zeroValue43 (fun ρ h M => ra_zero_arr (t := (.int .i64)) rfl) rfl rfl rfl rfl rfl) rfl ?_
  refine ao_eff trivial (e_alloc 1 (y := .v (.arr 6 (.int .i64)) ((List.replicate 6 0) : (List Int))) Try.zeroValue43 (fun ρ h M => ra_zero_arr (t := (.int .i64)) rfl) rfl rfl rfl rfl rfl) rfl ?_
  refine ao_read trivial (r_assign rfl) rfl ?_
  refine ao_nil ?_
  refine aq_then ?_
  refine aw_seq ?_
  refine aw_region ?_
  refine ao_read trivial (r_move rfl) rfl ?_
  refine ao_read trivial (r_build_st (l := [(0, .tmp 8)]) (cs := [.cell (.v (.slice (.int .u8)) x0), .cell (.int .i64 0), .cell (.int .u64 0)]) (.pair (.slice (.int .u8)) (.pair (.int .i64) (.pair (.int .u64) .unit))) [(0, 1), (1, 1), (2, 1)] Try.underlying105 Try.zeroValue105 rfl ⟨rfl, Try.sizeOf22, rfl, Try.sizeOf3, rfl, Try.sizeOf103, trivial⟩ rfl rfl rfl) rfl ?_
  refine ao_eff trivial (e_box 2 rfl rfl rfl rfl rfl rfl) rfl ?_
  refine ao_read trivial (r_assign rfl) rfl ?_
  refine ao_nil ?_
  refine aq_then ?_
  refine aw_seq ?_
  refine aw_region ?_
  refine ao_read trivial (r_move rfl) rfl ?_
  obtain ⟨r1, r1h, h⟩ := is_bind h
  refine ao_callV [2] 3 trivial (c_spec_l1Cur_goal (is_mk r1h)) Try.func128 rfl rfl rfl rfl rfl ⟨rfl, trivial⟩ ⟨⟨_, rfl, ⟨ad_ren rfl, rfl, ad_ren rfl, rfl, ad_ren rfl, rfl, trivial⟩⟩, trivial⟩ rfl rfl rfl rfl rfl rfl rfl (fun r' H' hr => ?_)
  obtain ⟨rfl, rfl⟩ := hr
  refine ao_norm (y := .int .i64 r1.1) (H' := [(1, .var [.arr (.int .i64) 6 ((List.replicate 6 0) : (List Int))]), (0, .var [.arr (.int .i64) 6 ((List.replicate 6 0) : (List Int))]), (2, .var [.cell (.v (.slice (.int .u8)) x0), .cell (.int .i64 r1.2.1), .cell (.int .u64 r1.2.2)])]) rfl rfl ?_
  refine ao_read trivial (r_assign rfl) rfl ?_
  refine ao_nil ?_
  refine aq_then ?_
  refine aw_seq ?_
  refine aw_region ?_
  refine ao_read trivial (r_move rfl) rfl ?_
  obtain ⟨r2, r2h, h⟩ := is_bind h
  refine ao_callV [2] 3 trivial (c_spec_l1Cur_little (is_mk r2h)) Try.func113 rfl rfl rfl rfl rfl ⟨rfl, trivial⟩ ⟨⟨_, rfl, ⟨ad_ren rfl, rfl, ad_ren rfl, rfl, ad_ren rfl, rfl, trivial⟩⟩, trivial⟩ rfl rfl rfl rfl rfl rfl rfl (fun r' H' hr => ?_)
  obtain ⟨rfl, rfl⟩ := hr
  refine ao_norm (y := .v (.arr 6 (.int .i64)) r2.1) (H' := [(1, .var [.arr (.int .i64) 6 ((List.replicate 6 0) : (List Int))]), (0, .var [.arr (.int .i64) 6 ((List.replicate 6 0) : (List Int))]), (2, .var [.cell (.v (.slice (.int .u8)) x0), .cell (.int .i64 r2.2.1), .cell (.int .u64 r2.2.2)])]) rfl rfl ?_
  refine ao_eff trivial (e_alloc 3 (y := .v (.arr 6 (.int .i64)) ((List.replicate 6 0) : (List Int))) Try.zeroValue43 (fun ρ h M => ra_zero_arr (t := (.int .i64)) rfl) rfl rfl rfl rfl rfl) rfl ?_
  refine ao_effS trivial (e_store rfl rfl rfl rfl Try.sizeOf43 rfl) ?_
  refine ao_nil ?_
  refine aq_then ?_
  refine aw_seq ?_
  refine aw_seq ?_
  refine aw_region ?_
  refine ao_read trivial (r_move rfl) rfl ?_
  obtain ⟨r3, r3h, h⟩ := is_bind h
  refine ao_callV [2] 4 trivial (c_spec_l1Cur_one (is_mk r3h)) Try.func133 rfl rfl rfl rfl rfl ⟨rfl, trivial⟩ ⟨⟨_, rfl, ⟨ad_ren rfl, rfl, ad_ren rfl, rfl, ad_ren rfl, rfl, trivial⟩⟩, trivial⟩ rfl rfl rfl rfl rfl rfl rfl (fun r' H' hr => ?_)
  obtain ⟨rfl, rfl⟩ := hr
  refine ao_norm (y := .bool r3.1) (H' := [(3, .var [.arr (.int .i64) 6 r2.1]), (1, .var [.arr (.int .i64) 6 ((List.replicate 6 0) : (List Int))]), (0, .var [.arr (.int .i64) 6 ((List.replicate 6 0) : (List Int))]), (2, .var [.cell (.v (.slice (.int .u8)) x0), .cell (.int .i64 r3.2.1), .cell (.int .u64 r3.2.2)])]) rfl rfl ?_
  refine ao_nil ?_
  refine aq_then ?_
  refine aw_cond rfl (fun hb4 => ?_) (fun hb4 => ?_)
  · replace h := is_if hb4 h
    refine aw_seq ?_
    refine aw_drawP 6 rfl (by kernel_rfl) ?_
    refine ap_to [(2, .ref 0 0), (3, .ref 1 0), (4, .int .i64 r1.1)] [(0, .var [.arr (.int .i64) 6 r2.1]), (1, .var [.arr (.int .i64) 6 r2.1])] ?_ (fun key => ?_)
    · refine aq_then ?_
      refine aw_ret ?_
      refine aq_then_ret ?_
      refine aq_ret ?_
      obtain rfl := is_some h
      exact aq_finx (l := [.cell 2 43, .cell 3 43, .tmp 4]) (xs := [.v (.arr 6 (.int .i64)) r2.1, .v (.arr 6 (.int .i64)) r2.1, .int .i64 r1.1]) idn [.v (.arr 6 (.int .i64)) r2.1, .v (.arr 6 (.int .i64)) r2.1, .int .i64 r1.1] [] rfl (by exact ⟨⟨⟨_, _, rfl⟩, r_load_arr rfl Try.isAgg43 Try.sizeOf43 rfl rfl rfl⟩, ⟨⟨_, _, rfl⟩, r_load_arr rfl Try.isAgg43 Try.sizeOf43 rfl rfl rfl⟩, rfl, trivial⟩) (by exact ⟨ad_ren rfl, ad_ren rfl, ad_ren rfl, trivial⟩) (by exact trivial) rfl (nk rfl) rfl rfl ⟨rfl, rfl⟩
    refine ap_let (g := 2) (listed := #[true, true, true, true, false, false]) [(2, .ref 0 0), (3, .ref 1 0), (4, .int .i64 0), (18, .v (.arr 6 (.int .i64)) r2.1), (19, .int .i64 r1.1)] [(0, .var [.arr (.int .i64) 6 r2.1]), (1, .var [.arr (.int .i64) 6 ((List.replicate 6 0) : (List Int))])] ?_ (fun k8 => ?_)
    · refine ap_all [4] (by kernel_rfl) ⟨?_, trivial⟩
      refine apo_ao rfl ?_
      refine ao_effS trivial (e_store rfl rfl rfl rfl Try.sizeOf43 rfl) ?_
      refine ao_nil ?_
      refine ap_in ?_
      refine ap_pure 5 (by kernel_rfl) (fun _ _ _ h => h) rfl (by kernel_rfl) trivial (rp_assign rfl) rfl ?_
      exact ap_end (by kernel_rfl) (AQ.sub (sub_mk idn (by exact ⟨⟨_, rfl, ad_ren rfl⟩, ⟨_, rfl, ad_ren rfl⟩, ⟨_, rfl, ad_ren rfl⟩, trivial⟩) (by exact ⟨⟨_, rfl, ⟨rfl, trivial⟩⟩, ⟨_, rfl, ⟨rfl, trivial⟩⟩, trivial⟩) (by rfl) (nk rfl)) key)
    refine ap_let (g := 3) (listed := #[true, true, true, false, false, false]) [(2, .ref 0 0), (3, .ref 1 0), (4, .int .i64 0), (17, .v (.arr 6 (.int .i64)) r2.1), (18, .v (.arr 6 (.int .i64)) r2.1), (19, .int .i64 r1.1)] [(0, .var [.arr (.int .i64) 6 ((List.replicate 6 0) : (List Int))]), (1, .var [.arr (.int .i64) 6 ((List.replicate 6 0) : (List Int))])] ?_ (fun k7 => ?_)
    · refine ap_all [3] (by kernel_rfl) ⟨?_, trivial⟩
      refine apo_ao rfl ?_
      refine ao_effS trivial (e_store rfl rfl rfl rfl Try.sizeOf43 rfl) ?_
      refine ao_nil ?_
      refine ap_in ?_
      exact ap_go (by kernel_rfl) (sub_mk idn (by exact ⟨⟨_, rfl, ad_ren rfl⟩, ⟨_, rfl, ad_ren rfl⟩, ⟨_, rfl, ad_ren rfl⟩, ⟨_, rfl, ad_ren rfl⟩, ⟨_, rfl, ad_ren rfl⟩, trivial⟩) (by exact ⟨⟨_, rfl, ⟨rfl, trivial⟩⟩, ⟨_, rfl, ⟨rfl, trivial⟩⟩, trivial⟩) (by rfl) (nk rfl)) k8
    refine ap_let (g := 3) (listed := #[true, false, true, true, false, false]) [(2, .ref 0 0), (3, .ref 1 0), (4, .int .i64 0), (7, .ref 2 0), (19, .int .i64 r1.1)] [(0, .var [.arr (.int .i64) 6 r2.1]), (1, .var [.arr (.int .i64) 6 ((List.replicate 6 0) : (List Int))]), (2, .var [.arr (.int .i64) 6 r2.1])] ?_ (fun k9 => ?_)
    · refine ap_all [1] (by kernel_rfl) ⟨?_, trivial⟩
      refine apo_ao rfl ?_
      refine ao_read trivial (r_load_arr rfl Try.isAgg43 Try.sizeOf43 rfl rfl rfl) rfl ?_
      refine ao_nil ?_
      refine ap_in ?_
      exact ap_go (by kernel_rfl) (sub_mk idn (by exact ⟨⟨_, rfl, ad_ren rfl⟩, ⟨_, rfl, ad_ren rfl⟩, ⟨_, rfl, ad_ren rfl⟩, ⟨_, rfl, ad_ren rfl⟩, ⟨_, rfl, ad_ren rfl⟩, trivial⟩) (by exact ⟨⟨_, rfl, ⟨rfl, trivial⟩⟩, ⟨_, rfl, ⟨rfl, trivial⟩⟩, trivial⟩) (by rfl) (nk rfl)) k8
    refine ap_let (g := 4) (listed := #[true, false, true, false, false, false]) [(2, .ref 0 0), (3, .ref 1 0), (4, .int .i64 0), (7, .ref 2 0), (17, .v (.arr 6 (.int .i64)) r2.1), (19, .int .i64 r1.1)] [(0, .var [.arr (.int .i64) 6 ((List.replicate 6 0) : (List Int))]), (1, .var [.arr (.int .i64) 6 ((List.replicate 6 0) : (List Int))]), (2, .var [.arr (.int .i64) 6 r2.1])] ?_ (fun k6 => ?_)
    · refine ap_all [1, 3] (by kernel_rfl) ⟨?_, ?_, trivial⟩
      · refine apo_ao rfl ?_
        refine ao_read trivial (r_load_arr rfl Try.isAgg43 Try.sizeOf43 rfl rfl rfl) rfl ?_
        refine ao_nil ?_
        refine ap_in ?_
        exact ap_go (by kernel_rfl) (sub_mk idn (by exact ⟨⟨_, rfl, ad_ren rfl⟩, ⟨_, rfl, ad_ren rfl⟩, ⟨_, rfl, ad_ren rfl⟩, ⟨_, rfl, ad_ren rfl⟩, ⟨_, rfl, ad_ren rfl⟩, ⟨_, rfl, ad_ren rfl⟩, trivial⟩) (by exact ⟨⟨_, rfl, ⟨rfl, trivial⟩⟩, ⟨_, rfl, ⟨rfl, trivial⟩⟩, trivial⟩) (by rfl) (nk rfl)) k7
      · refine apo_ao rfl ?_
        refine ao_effS trivial (e_store rfl rfl rfl rfl Try.sizeOf43 rfl) ?_
        refine ao_nil ?_
        refine ap_in ?_
        exact ap_go (by kernel_rfl) (sub_mk idn (by exact ⟨⟨_, rfl, ad_ren rfl⟩, ⟨_, rfl, ad_ren rfl⟩, ⟨_, rfl, ad_ren rfl⟩, ⟨_, rfl, ad_ren rfl⟩, ⟨_, rfl, ad_ren rfl⟩, trivial⟩) (by exact ⟨⟨_, rfl, ⟨rfl, trivial⟩⟩, ⟨_, rfl, ⟨rfl, trivial⟩⟩, ⟨_, rfl, ⟨rfl, trivial⟩⟩, trivial⟩) (by rfl) (nk rfl)) k9
    refine ap_let (g := 4) (listed := #[false, true, true, false, false, false]) [(2, .ref 0 0), (3, .ref 1 0), (4, .int .i64 0), (7, .ref 2 0), (18, .v (.arr 6 (.int .i64)) r2.1), (19, .int .i64 r1.1)] [(0, .var [.arr (.int .i64) 6 ((List.replicate 6 0) : (List Int))]), (1, .var [.arr (.int .i64) 6 ((List.replicate 6 0) : (List Int))]), (2, .var [.arr (.int .i64) 6 r2.1])] ?_ (fun k10 => ?_)
    · refine ap_all [0] (by kernel_rfl) ⟨?_, trivial⟩
      refine apo_ao rfl ?_
      refine ao_read trivial (r_load_arr rfl Try.isAgg43 Try.sizeOf43 rfl rfl rfl) rfl ?_
      refine ao_nil ?_
      refine ap_in ?_
      exact ap_go (by kernel_rfl) (sub_mk idn (by exact ⟨⟨_, rfl, ad_ren rfl⟩, ⟨_, rfl, ad_ren rfl⟩, ⟨_, rfl, ad_ren rfl⟩, ⟨_, rfl, ad_ren rfl⟩, ⟨_, rfl, ad_ren rfl⟩, ⟨_, rfl, ad_ren rfl⟩, trivial⟩) (by exact ⟨⟨_, rfl, ⟨rfl, trivial⟩⟩, ⟨_, rfl, ⟨rfl, trivial⟩⟩, trivial⟩) (by rfl) (nk rfl)) k7
    refine ap_let (g := 5) (listed := #[false, false, true, false, false, false]) [(2, .ref 0 0), (3, .ref 1 0), (4, .int .i64 0), (7, .ref 2 0), (19, .int .i64 r1.1)] [(0, .var [.arr (.int .i64) 6 ((List.replicate 6 0) : (List Int))]), (1, .var [.arr (.int .i64) 6 ((List.replicate 6 0) : (List Int))]), (2, .var [.arr (.int .i64) 6 r2.1])] ?_ (fun k5 => ?_)
    · refine ap_all [0, 1] (by kernel_rfl) ⟨?_, ?_, trivial⟩
      · refine apo_ao rfl ?_
        refine ao_read trivial (r_load_arr rfl Try.isAgg43 Try.sizeOf43 rfl rfl rfl) rfl ?_
        refine ao_nil ?_
        refine ap_in ?_
        exact ap_go (by kernel_rfl) (sub_mk idn (by exact ⟨⟨_, rfl, ad_ren rfl⟩, ⟨_, rfl, ad_ren rfl⟩, ⟨_, rfl, ad_ren rfl⟩, ⟨_, rfl, ad_ren rfl⟩, ⟨_, rfl, ad_ren rfl⟩, ⟨_, rfl, ad_ren rfl⟩, trivial⟩) (by exact ⟨⟨_, rfl, ⟨rfl, trivial⟩⟩, ⟨_, rfl, ⟨rfl, trivial⟩⟩, ⟨_, rfl, ⟨rfl, trivial⟩⟩, trivial⟩) (by rfl) (nk rfl)) k6
      · refine apo_ao rfl ?_
        refine ao_read trivial (r_load_arr rfl Try.isAgg43 Try.sizeOf43 rfl rfl rfl) rfl ?_
        refine ao_nil ?_
        refine ap_in ?_
        exact ap_go (by kernel_rfl) (sub_mk idn (by exact ⟨⟨_, rfl, ad_ren rfl⟩, ⟨_, rfl, ad_ren rfl⟩, ⟨_, rfl, ad_ren rfl⟩, ⟨_, rfl, ad_ren rfl⟩, ⟨_, rfl, ad_ren rfl⟩, ⟨_, rfl, ad_ren rfl⟩, trivial⟩) (by exact ⟨⟨_, rfl, ⟨rfl, trivial⟩⟩, ⟨_, rfl, ⟨rfl, trivial⟩⟩, ⟨_, rfl, ⟨rfl, trivial⟩⟩, trivial⟩) (by rfl) (nk rfl)) k10
    refine ap_pure 2 (by kernel_rfl) (fun _ _ _ h => h) rfl (by kernel_rfl) trivial (rp_move rfl) rfl ?_
    exact ap_go (by kernel_rfl) (sub_mk (rn [(2, 3)]) (by exact ⟨⟨_, rfl, ad_ren rfl⟩, ⟨_, rfl, ad_ren rfl⟩, ⟨_, rfl, ad_ren rfl⟩, ⟨_, rfl, ad_ren rfl⟩, ⟨_, rfl, ad_ren rfl⟩, trivial⟩) (by exact ⟨⟨_, rfl, ⟨rfl, trivial⟩⟩, ⟨_, rfl, ⟨rfl, trivial⟩⟩, ⟨_, rfl, ⟨rfl, trivial⟩⟩, trivial⟩) (by rfl) (nk rfl)) k5
  · replace h := is_else (ne_t hb4) h
    refine aw_skip ?_
    refine aq_then ?_
    refine aw_seq ?_
    obtain ⟨r11, r11h, h⟩ := is_bind h
    refine aw_drawP 7 rfl (by kernel_rfl) ?_
    refine ap_to [(2, .ref 0 0), (3, .ref 1 0), (4, .int .i64 r1.1)] [(0, .var [.arr (.int .i64) 6 r2.1]), (1, .var [.arr (.int .i64) 6 r11.1])] ?_ (fun key => ?_)
    · refine aq_then ?_
      refine aw_ret ?_
      refine aq_ret ?_
      obtain rfl := is_some h
      exact aq_finx (l := [.cell 2 43, .cell 3 43, .tmp 4]) (xs := [.v (.arr 6 (.int .i64)) r2.1, .v (.arr 6 (.int .i64)) r11.1, .int .i64 r1.1]) idn [.v (.arr 6 (.int .i64)) r2.1, .v (.arr 6 (.int .i64)) r11.1, .int .i64 r1.1] [] rfl (by exact ⟨⟨⟨_, _, rfl⟩, r_load_arr rfl Try.isAgg43 Try.sizeOf43 rfl rfl rfl⟩, ⟨⟨_, _, rfl⟩, r_load_arr rfl Try.isAgg43 Try.sizeOf43 rfl rfl rfl⟩, rfl, trivial⟩) (by exact ⟨ad_ren rfl, ad_ren rfl, ad_ren rfl, trivial⟩) (by exact trivial) rfl (nk rfl) rfl rfl ⟨rfl, rfl⟩
    refine ap_let (g := 2) (listed := #[true, true, true, true, true, false, false]) [(2, .ref 0 0), (3, .ref 1 0), (4, .int .i64 0), (22, .v (.arr 6 (.int .i64)) r11.1), (23, .int .i64 r1.1)] [(0, .var [.arr (.int .i64) 6 r2.1]), (1, .var [.arr (.int .i64) 6 ((List.replicate 6 0) : (List Int))])] ?_ (fun k15 => ?_)
    · refine ap_all [5] (by kernel_rfl) ⟨?_, trivial⟩
      refine apo_ao rfl ?_
      refine ao_effS trivial (e_store rfl rfl rfl rfl Try.sizeOf43 rfl) ?_
      refine ao_nil ?_
      refine ap_in ?_
      refine ap_pure 6 (by kernel_rfl) (fun _ _ _ h => h) rfl (by kernel_rfl) trivial (rp_assign rfl) rfl ?_
      exact ap_end (by kernel_rfl) (AQ.sub (sub_mk idn (by exact ⟨⟨_, rfl, ad_ren rfl⟩, ⟨_, rfl, ad_ren rfl⟩, ⟨_, rfl, ad_ren rfl⟩, trivial⟩) (by exact ⟨⟨_, rfl, ⟨rfl, trivial⟩⟩, ⟨_, rfl, ⟨rfl, trivial⟩⟩, trivial⟩) (by rfl) (nk rfl)) key)
    refine ap_let (g := 3) (listed := #[true, true, true, true, false, false, false]) [(2, .ref 0 0), (3, .ref 1 0), (4, .int .i64 0), (20, .v (.arr 6 (.int .i64)) r2.1), (22, .v (.arr 6 (.int .i64)) r11.1), (23, .int .i64 r1.1)] [(0, .var [.arr (.int .i64) 6 ((List.replicate 6 0) : (List Int))]), (1, .var [.arr (.int .i64) 6 ((List.replicate 6 0) : (List Int))])] ?_ (fun k14 => ?_)
    · refine ap_all [4] (by kernel_rfl) ⟨?_, trivial⟩
      refine apo_ao rfl ?_
      refine ao_effS trivial (e_store rfl rfl rfl rfl Try.sizeOf43 rfl) ?_
      refine ao_nil ?_
      refine ap_in ?_
      exact ap_go (by kernel_rfl) (sub_mk idn (by exact ⟨⟨_, rfl, ad_ren rfl⟩, ⟨_, rfl, ad_ren rfl⟩, ⟨_, rfl, ad_ren rfl⟩, ⟨_, rfl, ad_ren rfl⟩, ⟨_, rfl, ad_ren rfl⟩, trivial⟩) (by exact ⟨⟨_, rfl, ⟨rfl, trivial⟩⟩, ⟨_, rfl, ⟨rfl, trivial⟩⟩, trivial⟩) (by rfl) (nk rfl)) k15
    refine ap_let (g := 4) (listed := #[true, true, false, true, false, false, false]) [(2, .ref 0 0), (3, .ref 1 0), (4, .int .i64 0), (20, .v (.arr 6 (.int .i64)) r2.1), (21, .ref 2 0), (23, .int .i64 r1.1)] [(0, .var [.arr (.int .i64) 6 ((List.replicate 6 0) : (List Int))]), (1, .var [.arr (.int .i64) 6 ((List.replicate 6 0) : (List Int))]), (2, .var [.cell (.v (.slice (.int .u8)) x0), .cell (.int .i64 r3.2.1), .cell (.int .u64 r3.2.2)])] ?_ (fun k13 => ?_)
    · refine ap_all [2] (by kernel_rfl) ⟨?_, trivial⟩
      refine apo_ao rfl ?_
      refine ao_callV [2] 3 trivial (c_spec_l1Cur_little (is_mk r11h)) Try.func113 rfl rfl rfl rfl rfl ⟨rfl, trivial⟩ ⟨⟨_, rfl, ⟨ad_ren rfl, rfl, ad_ren rfl, rfl, ad_ren rfl, rfl, trivial⟩⟩, trivial⟩ rfl rfl rfl rfl rfl rfl rfl (fun r' H' hr => ?_)
      obtain ⟨rfl, rfl⟩ := hr
      refine ao_norm (y := .v (.arr 6 (.int .i64)) r11.1) (H' := [(0, .var [.arr (.int .i64) 6 ((List.replicate 6 0) : (List Int))]), (1, .var [.arr (.int .i64) 6 ((List.replicate 6 0) : (List Int))]), (2, .var [.cell (.v (.slice (.int .u8)) x0), .cell (.int .i64 r11.2.1), .cell (.int .u64 r11.2.2)])]) rfl rfl ?_
      refine ao_nil ?_
      refine ap_in ?_
      exact ap_go (by kernel_rfl) (sub_mk idn (by exact ⟨⟨_, rfl, ad_ren rfl⟩, ⟨_, rfl, ad_ren rfl⟩, ⟨_, rfl, ad_ren rfl⟩, ⟨_, rfl, ad_ren rfl⟩, ⟨_, rfl, ad_ren rfl⟩, ⟨_, rfl, ad_ren rfl⟩, trivial⟩) (by exact ⟨⟨_, rfl, ⟨rfl, trivial⟩⟩, ⟨_, rfl, ⟨rfl, trivial⟩⟩, trivial⟩) (by rfl) (nk rfl)) k14
    refine ap_let (g := 4) (listed := #[false, true, true, true, false, false, false]) [(2, .ref 0 0), (3, .ref 1 0), (4, .int .i64 0), (7, .ref 2 0), (22, .v (.arr 6 (.int .i64)) r11.1), (23, .int .i64 r1.1)] [(0, .var [.arr (.int .i64) 6 ((List.replicate 6 0) : (List Int))]), (1, .var [.arr (.int .i64) 6 ((List.replicate 6 0) : (List Int))]), (2, .var [.arr (.int .i64) 6 r2.1])] ?_ (fun k16 => ?_)
    · refine ap_all [0] (by kernel_rfl) ⟨?_, trivial⟩
      refine apo_ao rfl ?_
      refine ao_read trivial (r_load_arr rfl Try.isAgg43 Try.sizeOf43 rfl rfl rfl) rfl ?_
      refine ao_nil ?_
      refine ap_in ?_
      exact ap_go (by kernel_rfl) (sub_mk idn (by exact ⟨⟨_, rfl, ad_ren rfl⟩, ⟨_, rfl, ad_ren rfl⟩, ⟨_, rfl, ad_ren rfl⟩, ⟨_, rfl, ad_ren rfl⟩, ⟨_, rfl, ad_ren rfl⟩, ⟨_, rfl, ad_ren rfl⟩, trivial⟩) (by exact ⟨⟨_, rfl, ⟨rfl, trivial⟩⟩, ⟨_, rfl, ⟨rfl, trivial⟩⟩, trivial⟩) (by rfl) (nk rfl)) k14
    refine ap_let (g := 5) (listed := #[false, true, false, true, false, false, false]) [(2, .ref 0 0), (3, .ref 1 0), (4, .int .i64 0), (7, .ref 2 0), (21, .ref 3 0), (23, .int .i64 r1.1)] [(0, .var [.arr (.int .i64) 6 ((List.replicate 6 0) : (List Int))]), (1, .var [.arr (.int .i64) 6 ((List.replicate 6 0) : (List Int))]), (2, .var [.arr (.int .i64) 6 r2.1]), (3, .var [.cell (.v (.slice (.int .u8)) x0), .cell (.int .i64 r3.2.1), .cell (.int .u64 r3.2.2)])] ?_ (fun k12 => ?_)
    · refine ap_all [0, 2] (by kernel_rfl) ⟨?_, ?_, trivial⟩
      · refine apo_ao rfl ?_
        refine ao_read trivial (r_load_arr rfl Try.isAgg43 Try.sizeOf43 rfl rfl rfl) rfl ?_
        refine ao_nil ?_
        refine ap_in ?_
        exact ap_go (by kernel_rfl) (sub_mk (rn [(2, 3)]) (by exact ⟨⟨_, rfl, ad_ren rfl⟩, ⟨_, rfl, ad_ren rfl⟩, ⟨_, rfl, ad_ren rfl⟩, ⟨_, rfl, ad_ren rfl⟩, ⟨_, rfl, ad_ren rfl⟩, ⟨_, rfl, ad_ren rfl⟩, trivial⟩) (by exact ⟨⟨_, rfl, ⟨rfl, trivial⟩⟩, ⟨_, rfl, ⟨rfl, trivial⟩⟩, ⟨_, rfl, ⟨ad_ren rfl, rfl, ad_ren rfl, rfl, ad_ren rfl, rfl, trivial⟩⟩, trivial⟩) (by rfl) (nk rfl)) k13
      · refine apo_ao rfl ?_
        refine ao_callV [3] 4 trivial (c_spec_l1Cur_little (is_mk r11h)) Try.func113 rfl rfl rfl rfl rfl ⟨rfl, trivial⟩ ⟨⟨_, rfl, ⟨ad_ren rfl, rfl, ad_ren rfl, rfl, ad_ren rfl, rfl, trivial⟩⟩, trivial⟩ rfl rfl rfl rfl rfl rfl rfl (fun r' H' hr => ?_)
        obtain ⟨rfl, rfl⟩ := hr
        refine ao_norm (y := .v (.arr 6 (.int .i64)) r11.1) (H' := [(0, .var [.arr (.int .i64) 6 ((List.replicate 6 0) : (List Int))]), (1, .var [.arr (.int .i64) 6 ((List.replicate 6 0) : (List Int))]), (2, .var [.arr (.int .i64) 6 r2.1]), (3, .var [.cell (.v (.slice (.int .u8)) x0), .cell (.int .i64 r11.2.1), .cell (.int .u64 r11.2.2)])]) rfl rfl ?_
        refine ao_nil ?_
        refine ap_in ?_
        exact ap_go (by kernel_rfl) (sub_mk idn (by exact ⟨⟨_, rfl, ad_ren rfl⟩, ⟨_, rfl, ad_ren rfl⟩, ⟨_, rfl, ad_ren rfl⟩, ⟨_, rfl, ad_ren rfl⟩, ⟨_, rfl, ad_ren rfl⟩, ⟨_, rfl, ad_ren rfl⟩, trivial⟩) (by exact ⟨⟨_, rfl, ⟨rfl, trivial⟩⟩, ⟨_, rfl, ⟨rfl, trivial⟩⟩, ⟨_, rfl, ⟨rfl, trivial⟩⟩, trivial⟩) (by rfl) (nk rfl)) k16
    refine ap_pure 1 (by kernel_rfl) (fun _ _ _ h => h) rfl (by kernel_rfl) trivial (rp_move rfl) rfl ?_
    refine ap_pure 3 (by kernel_rfl) (fun _ _ _ h => h) rfl (by kernel_rfl) trivial (rp_move rfl) rfl ?_
    exact ap_go (by kernel_rfl) (sub_mk (rn [(2, 3), (3, 2)]) (by exact ⟨⟨_, rfl, ad_ren rfl⟩, ⟨_, rfl, ad_ren rfl⟩, ⟨_, rfl, ad_ren rfl⟩, ⟨_, rfl, ad_ren rfl⟩, ⟨_, rfl, ad_ren rfl⟩, ⟨_, rfl, ad_ren rfl⟩, trivial⟩) (by exact ⟨⟨_, rfl, ⟨rfl, trivial⟩⟩, ⟨_, rfl, ⟨rfl, trivial⟩⟩, ⟨_, rfl, ⟨rfl, trivial⟩⟩, ⟨_, rfl, ⟨ad_ren rfl, rfl, ad_ren rfl, rfl, ad_ren rfl, rfl, trivial⟩⟩, trivial⟩) (by rfl) (nk rfl)) k12
theorem c_impl_total {x0 : (List Int)} {r : Int} (h : Is (p_impl_total x0) r) :
    Scalar Try.prog 107 [.v (.slice (.int .i64)) x0] (.int .i64 r) := by
  unfold p_impl_total at h
  refine ac_enter ⟨17, 0⟩ Try.func107 rfl rfl rfl rfl rfl (fun Γ => ?_)
  refine sl_len_m 0 (x0.length : Int) rfl rfl (fun hl0 => ?_)
  refine aw_seq ?_
  refine aw_region ?_
  refine ao_read trivial (r_assign rfl) rfl ?_
  refine ao_nil ?_
  refine aq_then ?_
  refine aw_seq ?_
  refine aw_region ?_
  refine ao_read trivial (r_assign rfl) rfl ?_
  refine ao_nil ?_
  refine aq_then ?_
  refine aw_seq ?_
  refine aw_seq ?_
  refine aw_region ?_
  refine ao_read trivial (r_move rfl) rfl ?_
  refine ao_read trivial (r_len_vm (x0.length : Int) Try.underlying36 rfl rfl) rfl ?_
  refine ao_read trivial (r_move rfl) rfl ?_
  refine ao_nil ?_
  refine aq_then ?_
  refine aw_block ?_
  refine aw_loop (AL.sub (fr' := [(3, .int .i64 0), (6, .v (.slice (.int .i64)) x0), (7, .int .i64 (x0.length : Int)), (8, .int .i64 0)]) (H' := []) (sub_mk idn (by exact ⟨⟨_, rfl, ad_ren rfl⟩, ⟨_, rfl, ad_ren rfl⟩, ⟨_, rfl, ad_ren rfl⟩, ⟨_, rfl, ad_ren rfl⟩, trivial⟩) (by exact trivial) (by rfl) (nk rfl)) (al_cnt (fun i2 (s1 : Int) => [(3, .int .i64 s1), (6, .v (.slice (.int .i64)) x0), (7, .int .i64 (x0.length : Int)), (8, .int .i64 i2)]) (fun i2 (s1 : Int) => []) (fun d i2 (s1 : Int) => d = Int.toNat ((x0.length : Int) - i2) ∧ 0 ≤ i2 ∧ i2 ≤ (x0.length : Int)) h ⟨rfl, (by (try simp only [List.length_set, List.length_append, List.length_cons, List.length_nil, List.length_replicate, List.length_take, List.length_drop]) <;> omega), (by (try simp only [List.length_set, List.length_append, List.length_cons, List.length_nil, List.length_replicate, List.length_take, List.length_drop]) <;> omega)⟩ (fun d3 i2 s1 hI h ih3 => ?_)))
  obtain ⟨hd, _, _⟩ := hI
  refine al_round ?_
  refine aw_seq ?_
  refine aw_region ?_
  refine ao_read trivial (r_lss rfl rfl) rfl ?_
  refine ao_nil ?_
  refine aq_then ?_
  refine aw_seq ?_
  refine aw_cond rfl (fun hb5 => ?_) (fun hb5 => ?_)
  · have q6 := d_t hb5
    obtain ⟨d3, rfl⟩ : ∃ e, d3 = e + 1 := ⟨d3 - 1, by omega⟩
    replace h := is_cntS h
    refine aw_skip ?_
    refine aq_then ?_
    refine aw_seq ?_
    refine aw_block ?_
    refine aw_seq ?_
    refine aw_region ?_
    refine ao_read trivial (r_idxAddr_int Try.underlying36 Try.sizeOf3 rfl rfl (show 0 ≤ i2 from by omega) (show i2 < (x0.length : Int) from by omega)) rfl ?_
    refine ao_read trivial (r_load_c_int Try.isAgg3 Try.sizeOf3 rfl) rfl ?_
    refine ao_read trivial (r_assign rfl) rfl ?_
    refine ao_nil ?_
    refine aq_then ?_
    refine aw_region ?_
    refine ao_read trivial (r_move rfl) rfl ?_
    refine ao_read trivial (r_move rfl) rfl ?_
    refine ao_read trivial (r_add rfl rfl) rfl ?_
    refine ao_read trivial (r_assign rfl) rfl ?_
    refine ao_nil ?_
    refine aq_in ?_
    refine aq_then ?_
    refine aw_region ?_
    refine ao_read trivial (r_addI rfl rfl (wrap_id (by omega) (by omega))) rfl ?_
    refine ao_read trivial (r_move rfl) rfl ?_
    refine ao_nil ?_
    exact aq_again (AL.sub (sub_mk idn (by exact ⟨⟨_, rfl, ad_ren rfl⟩, ⟨_, rfl, ad_ren rfl⟩, ⟨_, rfl, ad_ren rfl⟩, ⟨_, rfl, ad_ren rfl⟩, trivial⟩) (by exact trivial) (by rfl) (nk rfl)) (ih3 d3 (i2 + 1) (IntKind.wrap .i64 (s1 + (x0.getD i2.toNat 0))) (by omega) ⟨by omega, (by (try simp only [List.length_set, List.length_append, List.length_cons, List.length_nil, List.length_replicate, List.length_take, List.length_drop]) <;> omega), (by (try simp only [List.length_set, List.length_append, List.length_cons, List.length_nil, List.length_replicate, List.length_take, List.length_drop]) <;> omega)⟩ h))
  · have q7 := d_f hb5
    obtain rfl : d3 = 0 := by omega
    replace h := is_cnt0 h
    refine aw_exit ?_
    refine aq_then_exit ?_
    refine aq_then_exit ?_
    refine aq_in_exit ?_
    refine aq_then ?_
    refine aw_seq ?_
    refine aw_region ?_
    refine ao_read trivial (r_move rfl) rfl ?_
    refine ao_read trivial (r_assign rfl) rfl ?_
    refine ao_nil ?_
    refine aq_then ?_
    refine aw_ret ?_
    refine aq_ret ?_
    obtain rfl := is_eq h
    exact aq_finx (l := [.tmp 2]) (xs := [.int .i64 s1]) idn [.int .i64 s1] [] rfl (by exact ⟨rfl, trivial⟩) (by exact ⟨ad_ren rfl, trivial⟩) (by exact trivial) rfl (nk rfl) rfl rfl ⟨rfl, rfl⟩
theorem c_impl_FirstWins {fu : Nat} {x0 : (List Int)} {x1 : (List Int)} {x2 : Int} {r : (List Int) × Bool} (h : Is (p_impl_FirstWins fu x0 x1 x2) (some r)) :
    Scalar Try.prog 57 [.v (.arr 6 (.int .i64)) x0, .v (.arr 6 (.int .i64)) x1, .int .i64 x2] (.tup [.v (.arr 2 (.int .i64)) r.1, .bool r.2]) := by
  unfold p_impl_FirstWins at h
  refine ac_enter ⟨54, 0⟩ Try.func57 rfl rfl rfl rfl rfl (fun Γ => ?_)
  refine aw_seq ?_
  refine aw_region ?_
  refine ao_eff trivial (e_box 0 rfl rfl rfl rfl rfl rfl) rfl ?_
  refine ao_eff trivial (e_box 1 rfl rfl rfl rfl rfl rfl) rfl ?_
  refine ao_eff trivial (e_alloc 2 (y := .v (.arr 2 (.int .i64)) ((List.replicate 2 0) : (List Int))) Try.zeroValue30 (fun ρ h M => ra_zero_arr (t := (.int .i64)) rfl) rfl rfl rfl rfl rfl) rfl ?_
  refine ao_read trivial (r_assign rfl) rfl ?_
  refine ao_nil ?_
  refine aq_then ?_
  refine aw_seq ?_
  refine aw_seq ?_
  refine aw_region ?_
  refine ao_read trivial (r_load_arr rfl Try.isAgg43 Try.sizeOf43 rfl rfl rfl) rfl ?_
  refine ao_scall trivial (scall (c_impl_isRunner (is_mk (rfl : p_impl_isRunner x0 = _))) rfl Try.func124 rfl rfl rfl rfl (fun σ => ⟨ad_ren rfl, trivial⟩)) rfl ?_
  refine ao_read trivial (r_not rfl) rfl ?_
  refine ao_read trivial (r_move rfl) rfl ?_
  refine ao_readG (x := .v (.arr 6 (.int .i64)) x1) rfl (GV.F rfl) (fun hg1 => r_load_arr rfl Try.isAgg43 Try.sizeOf43 rfl rfl rfl) rfl ?_
  refine ao_scallG (r := .bool (p_impl_isRunner x1)) rfl (GV.F rfl) (fun hg2 => SCall.strip 17 rfl (hg2) (scall (c_impl_isRunner (is_mk (rfl : p_impl_isRunner x1 = _))) rfl Try.func124 rfl rfl rfl rfl (fun σ => ⟨ad_ren rfl, trivial⟩))) rfl ?_
  refine ao_readG (x := .bool (!(p_impl_isRunner x1))) rfl (GV.F rfl) (fun hg3 => Reads.strip 18 rfl (hg3) (r_not rfl)) rfl ?_
  refine ao_read trivial (r_orB rfl rfl) rfl ?_
  refine ao_read trivial (r_move rfl) rfl ?_
  refine ao_readG (x := .int .i64 x2) rfl (GV.F rfl) (fun hg4 => by
        obtain ⟨q5, q6⟩ := or_f (not_t hg4)
        exact r_move rfl) rfl ?_
  refine ao_scallG (r := .bool (p_impl_isGoal x2)) rfl (GV.F rfl) (fun hg7 => by
        obtain ⟨q8, q9⟩ := or_f (not_t hg7)
        exact SCall.strip 22 rfl (hg7) (scall (c_impl_isGoal (is_mk (rfl : p_impl_isGoal x2 = _))) rfl Try.func125 rfl rfl rfl rfl (fun σ => ⟨ad_ren rfl, trivial⟩))) rfl ?_
  refine ao_readG (x := .bool (!(p_impl_isGoal x2))) rfl (GV.F rfl) (fun hg10 => by
        obtain ⟨q11, q12⟩ := or_f (not_t hg10)
        exact Reads.strip 23 rfl (hg10) (r_not rfl)) rfl ?_
  refine ao_read trivial (r_orB rfl rfl) rfl ?_
  refine ao_nil ?_
  refine aq_then ?_
  refine aw_cond rfl (fun hb13 => ?_) (fun hb13 => ?_)
  · replace h := is_if hb13 h
    refine aw_seq ?_
    refine aw_region ?_
    refine ao_read trivial (r_build_zero (t := (.int .i64)) Try.underlying30 Try.zeroValue30 Try.sizeOf3 rfl) rfl ?_
    refine ao_effS trivial (e_store rfl rfl rfl rfl Try.sizeOf30 rfl) ?_
    refine ao_read trivial (r_assign rfl) rfl ?_
    refine ao_nil ?_
    refine aq_then ?_
    refine aw_ret ?_
    refine aq_then_ret ?_
    refine aq_ret ?_
    obtain rfl := is_some h
    exact aq_finx (l := [.cell 6 30, .tmp 7]) (xs := [.v (.arr 2 (.int .i64)) ((List.replicate 2 0) : (List Int)), .bool false]) idn [.v (.arr 2 (.int .i64)) ((List.replicate 2 0) : (List Int)), .bool false] [] rfl (by exact ⟨⟨⟨_, _, rfl⟩, r_load_arr rfl Try.isAgg30 Try.sizeOf30 rfl rfl rfl⟩, rfl, trivial⟩) (by exact ⟨ad_ren rfl, ad_ren rfl, trivial⟩) (by exact trivial) rfl (nk rfl) rfl rfl ⟨rfl, rfl⟩
  · obtain ⟨q14, q15⟩ := or_f hb13
    obtain ⟨q16, q17⟩ := or_f q14
    replace h := is_else (ne_t hb13) h
    refine aw_skip ?_
    refine aq_then ?_
    refine aw_seq ?_
    obtain ⟨r18, r18h, h⟩ := is_bind h
    obtain ⟨r20, r20h, h⟩ := is_bind h
    refine aw_drawAll (by kernel_rfl) ?_
    refine an_to [(2, .int .i64 x2), (6, .ref 0 0), (8, .os 1), (9, .os 2)] [(0, .var [.arr (.int .i64) 2 ((List.replicate 2 0) : (List Int))]), (1, .row (.int .i64) r18), (2, .row (.int .i64) r20)] ?_ (fun key => ?_)
    · refine row_len_q 1 (r18.length : Int) rfl rfl (fun hr22 => ?_)
      refine row_len_q 2 (r20.length : Int) rfl rfl (fun hr23 => ?_)
      refine aq_then ?_
      refine aw_seq ?_
      refine aw_region ?_
      refine ao_read trivial (r_assign rfl) rfl ?_
      refine ao_nil ?_
      refine aq_then ?_
      refine aw_seq ?_
      refine aw_seq ?_
      refine aw_region ?_
      refine ao_read trivial (r_move rfl) rfl ?_
      refine ao_read trivial (r_len_osm (r18.length : Int) Try.underlying36 rfl rfl rfl) rfl ?_
      refine ao_read trivial (r_move rfl) rfl ?_
      refine ao_nil ?_
      refine aq_then ?_
      refine aw_block ?_
      refine aw_loop (AL.sub (fr' := [(2, .int .i64 x2), (6, .ref 0 0), (9, .os 1), (10, .int .i64 0), (33, .os 2), (34, .int .i64 (r18.length : Int)), (35, .int .i64 0)]) (H' := [(0, .var [.arr (.int .i64) 2 ((List.replicate 2 0) : (List Int))]), (1, .row (.int .i64) r20), (2, .row (.int .i64) r18)]) (sub_mk (rn [(1, 2), (2, 1)]) (by exact ⟨⟨_, rfl, ad_ren rfl⟩, ⟨_, rfl, ad_ren rfl⟩, ⟨_, rfl, ad_ren rfl⟩, ⟨_, rfl, ad_ren rfl⟩, ⟨_, rfl, ad_ren rfl⟩, ⟨_, rfl, ad_ren rfl⟩, ⟨_, rfl, ad_ren rfl⟩, trivial⟩) (by exact ⟨⟨_, rfl, ⟨rfl, trivial⟩⟩, ⟨_, rfl, rfl⟩, ⟨_, rfl, rfl⟩, trivial⟩) (by rfl) (nk rfl)) (al_cnt (fun i25 (s24 : Int) => [(2, .int .i64 x2), (6, .ref 0 0), (9, .os 1), (10, .int .i64 s24), (33, .os 2), (34, .int .i64 (r18.length : Int)), (35, .int .i64 i25)]) (fun i25 (s24 : Int) => [(0, .var [.arr (.int .i64) 2 ((List.replicate 2 0) : (List Int))]), (1, .row (.int .i64) r20), (2, .row (.int .i64) r18)]) (fun d i25 (s24 : Int) => d = Int.toNat ((r18.length : Int) - i25) ∧ 0 ≤ i25 ∧ i25 ≤ (r18.length : Int)) h ⟨rfl, (by (try simp only [List.length_set, List.length_append, List.length_cons, List.length_nil, List.length_replicate, List.length_take, List.length_drop]) <;> omega), (by (try simp only [List.length_set, List.length_append, List.length_cons, List.length_nil, List.length_replicate, List.length_take, List.length_drop]) <;> omega)⟩ (fun d26 i25 s24 hI h ih26 => ?_)))
      obtain ⟨hd, _, _⟩ := hI
      refine al_round ?_
      refine aw_seq ?_
      refine aw_region ?_
      refine ao_read trivial (r_lss rfl rfl) rfl ?_
      refine ao_nil ?_
      refine aq_then ?_
      refine aw_seq ?_
      refine aw_cond rfl (fun hb28 => ?_) (fun hb28 => ?_)
      · have q29 := d_t hb28
        obtain ⟨d26, rfl⟩ : ∃ e, d26 = e + 1 := ⟨d26 - 1, by omega⟩
        replace h := is_cntS h
        refine aw_skip ?_
        refine aq_then ?_
        refine aw_seq ?_
        refine aw_block ?_
        refine aw_seq ?_
        refine aw_region ?_
        refine ao_read trivial (r_move rfl) rfl ?_
        refine ao_read trivial (r_idxAddr_os Try.underlying36 Try.sizeOf3 rfl rfl rfl (show 0 ≤ i25 from by omega) (show i25 < (r18.length : Int) from by omega)) rfl ?_
        refine ao_read trivial (r_load_elem_int Try.isAgg3 Try.sizeOf3 rfl rfl (show i25.toNat < r18.length from by omega)) rfl ?_
        refine ao_read trivial (r_assign rfl) rfl ?_
        refine ao_read trivial (r_assign rfl) rfl ?_
        refine ao_nil ?_
        refine aq_then ?_
        refine aw_region ?_
        refine ao_read trivial (r_move rfl) rfl ?_
        refine ao_read trivial (r_move rfl) rfl ?_
        refine ao_read trivial (r_move rfl) rfl ?_
        refine ao_read trivial (r_move rfl) rfl ?_
        obtain ⟨g31, h⟩ := is_guard h
        refine ao_read trivial (r_slice_os (t := (.int .i64)) Try.underlying36 Try.sizeOf3 rfl rfl (.some rfl) .none (show 0 ≤ i25 from by omega) (show i25 ≤ (r20.length : Int) from by omega) (show (r20.length : Int) ≤ (r20.length : Int) from by omega)) rfl ?_
        refine ao_scall trivial (scall (c_impl_total (is_mk (rfl : p_impl_total ((r20.drop i25.toNat).take ((r20.length : Int) - i25).toNat) = _))) rfl Try.func107 rfl rfl rfl rfl (fun σ => ⟨ad_viewr0 rfl rfl rfl (show i25.toNat + ((r20.length : Int) - i25).toNat ≤ r20.length from by omega), trivial⟩)) rfl ?_
        refine ao_read trivial (r_mul rfl rfl) rfl ?_
        refine ao_read trivial (r_add rfl rfl) rfl ?_
        refine ao_read trivial (r_assign rfl) rfl ?_
        refine ao_nil ?_
        refine aq_in ?_
        refine aq_then ?_
        refine aw_region ?_
        refine ao_read trivial (r_addI rfl rfl (wrap_id (by omega) (by omega))) rfl ?_
        refine ao_read trivial (r_move rfl) rfl ?_
        refine ao_nil ?_
        exact aq_again (AL.sub (sub_mk idn (by exact ⟨⟨_, rfl, ad_ren rfl⟩, ⟨_, rfl, ad_ren rfl⟩, ⟨_, rfl, ad_ren rfl⟩, ⟨_, rfl, ad_ren rfl⟩, ⟨_, rfl, ad_ren rfl⟩, ⟨_, rfl, ad_ren rfl⟩, ⟨_, rfl, ad_ren rfl⟩, trivial⟩) (by exact ⟨⟨_, rfl, ⟨rfl, trivial⟩⟩, ⟨_, rfl, rfl⟩, ⟨_, rfl, rfl⟩, trivial⟩) (by rfl) (nk rfl)) (ih26 d26 (i25 + 1) (IntKind.wrap .i64 (s24 + (IntKind.wrap .i64 ((r18.getD i25.toNat 0) * (p_impl_total ((r20.drop i25.toNat).take ((r20.length : Int) - i25).toNat)))))) (by omega) ⟨by omega, (by (try simp only [List.length_set, List.length_append, List.length_cons, List.length_nil, List.length_replicate, List.length_take, List.length_drop]) <;> omega), (by (try simp only [List.length_set, List.length_append, List.length_cons, List.length_nil, List.length_replicate, List.length_take, List.length_drop]) <;> omega)⟩ h))
      · have q30 := d_f hb28
        obtain rfl : d26 = 0 := by omega
        replace h := is_cnt0 h
        refine aw_exit ?_
        refine aq_then_exit ?_
        refine aq_then_exit ?_
        refine aq_in_exit ?_
        refine aq_then ?_
        refine aw_seq ?_
        refine aw_region ?_
        refine ao_read trivial (r_move rfl) rfl ?_
        refine ao_read trivial (r_move rfl) rfl ?_
        refine ao_read trivial (r_mul rfl rfl) rfl ?_
        obtain ⟨r32, r32h, h⟩ := is_bind h
        refine ao_scall trivial (scall (c_impl_power (is_mk r32h)) rfl Try.func103 rfl rfl rfl rfl (fun σ => ⟨ad_ren rfl, trivial⟩)) rfl ?_
        obtain ⟨r33, r33h, h⟩ := is_bind h
        refine ao_scall trivial (scall (c_impl_fraction (is_mk r33h)) rfl Try.func102 rfl rfl rfl rfl (fun σ => ⟨ad_ren rfl, ad_ren rfl, trivial⟩)) rfl ?_
        refine ao_effS trivial (e_store rfl rfl rfl rfl Try.sizeOf30 rfl) ?_
        refine ao_read trivial (r_assign rfl) rfl ?_
        refine ao_nil ?_
        refine aq_then ?_
        refine aw_ret ?_
        refine aq_ret ?_
        obtain rfl := is_some h
        exact aq_finx (l := [.cell 6 30, .tmp 7]) (xs := [.v (.arr 2 (.int .i64)) r33, .bool true]) idn [.v (.arr 2 (.int .i64)) r33, .bool true] [] rfl (by exact ⟨⟨⟨_, _, rfl⟩, r_load_arr rfl Try.isAgg30 Try.sizeOf30 rfl rfl rfl⟩, rfl, trivial⟩) (by exact ⟨ad_ren rfl, ad_ren rfl, trivial⟩) (by exact trivial) rfl (nk rfl) rfl rfl ⟨rfl, rfl⟩
    · refine an_read 0 (by kernel_rfl) (fun _ _ _ h => h) rfl (by kernel_rfl) trivial (r_load_arr rfl Try.isAgg43 Try.sizeOf43 rfl rfl rfl) rfl ?_
      refine an_read 1 (by kernel_rfl) (fun _ _ _ h => h) rfl (by kernel_rfl) trivial (r_move rfl) rfl ?_
      refine an_read 3 (by kernel_rfl) (fun _ _ _ h => h) rfl (by kernel_rfl) trivial (r_load_arr rfl Try.isAgg43 Try.sizeOf43 rfl rfl rfl) rfl ?_
      refine an_read 4 (by kernel_rfl) (fun _ _ _ h => h) rfl (by kernel_rfl) trivial (r_move rfl) rfl ?_
      refine an_explore 3 rfl ?_
      refine ax_all [2] (by kernel_rfl) ⟨?_, trivial⟩
      refine axo_call 2 3 rfl trivial (c_impl_runs (is_mk r18h)) Try.func129 rfl rfl rfl rfl ⟨ad_ren rfl, ad_ren rfl, trivial⟩ rfl rfl rfl rfl (fun r' H' hr => ?_)
      obtain ⟨rfl, rfl⟩ := hr
      refine ax_all [5] (by kernel_rfl) ⟨?_, trivial⟩
      refine axo_call 5 4 rfl trivial (c_impl_runs (is_mk r20h)) Try.func129 rfl rfl rfl rfl ⟨ad_ren rfl, ad_ren rfl, trivial⟩ rfl rfl rfl rfl (fun r' H' hr => ?_)
      obtain ⟨rfl, rfl⟩ := hr
      refine ax_all [6] (by kernel_rfl) ⟨?_, trivial⟩
      refine axo_read 6 rfl trivial (r_assign rfl) rfl ?_
      refine ax_all [7] (by kernel_rfl) ⟨?_, trivial⟩
      refine axo_read 7 rfl trivial (r_assign rfl) rfl ?_
      exact ax_done rfl (AQ.sub (sub_mk (rn [(0, 2), (1, 3), (2, 4)]) (by exact ⟨⟨_, rfl, ad_ren rfl⟩, ⟨_, rfl, ad_ren rfl⟩, ⟨_, rfl, ad_ren rfl⟩, ⟨_, rfl, ad_ren rfl⟩, trivial⟩) (by exact ⟨⟨_, rfl, ⟨rfl, trivial⟩⟩, ⟨_, rfl, rfl⟩, ⟨_, rfl, rfl⟩, trivial⟩) (by rfl) (nk rfl)) key)
theorem c_spec_l7Race {fu : Nat} {x0 : (List Int)} {x1 : (List Int)} {x2 : Int} {r : Int × Int} (h : Is (p_spec_l7Race fu x0 x1 x2) (some r)) :
    Scalar Try.prog 134 [.v (.arr 6 (.int .i64)) x0, .v (.arr 6 (.int .i64)) x1, .int .i64 x2] (.tup [.int .i64 r.1, .int .i64 r.2]) := by
  unfold p_spec_l7Race at h
  refine ac_enter ⟨62, 0⟩ Try.func134 rfl rfl rfl rfl rfl (fun Γ => ?_)
  refine aw_seq ?_
  refine aw_region ?_
  refine ao_eff trivial (e_box 0 rfl rfl rfl rfl rfl rfl) rfl ?_
  refine ao_eff trivial (e_box 1 rfl rfl rfl rfl rfl rfl) rfl ?_
  refine ao_read trivial (r_assign rfl) rfl ?_
  refine ao_read trivial (r_assign rfl) rfl ?_
  refine ao_nil ?_
  refine aq_then ?_
  refine aw_seq ?_
  refine aw_region ?_
  refine ao_read trivial (r_assign rfl) rfl ?_
  refine ao_read trivial (r_assign rfl) rfl ?_
  refine ao_nil ?_
  refine aq_then ?_
  refine aw_seq ?_
  obtain ⟨r1, r1h, h⟩ := is_bind h
  obtain ⟨r3, r3h, h⟩ := is_bind h
  refine aw_drawAll (by kernel_rfl) ?_
  refine an_to [(2, .int .i64 x2), (8, .int .i64 0), (9, .int .i64 0), (10, .os 0), (11, .os 1)] [(0, .row (.int .i64) r1), (1, .row (.int .i64) r3)] ?_ (fun key => ?_)
  · refine row_len_q 0 (r1.length : Int) rfl rfl (fun hr5 => ?_)
    refine row_len_q 1 (r3.length : Int) rfl rfl (fun hr6 => ?_)
    refine aq_then ?_
    refine aw_seq ?_
    refine aw_seq ?_
    refine aw_region ?_
    refine ao_read trivial (r_assign rfl) rfl ?_
    refine ao_nil ?_
    refine aq_then ?_
    refine aw_block ?_
    refine aw_loop (AL.sub (sub_mk idn (by exact ⟨⟨_, rfl, ad_ren rfl⟩, ⟨_, rfl, ad_ren rfl⟩, ⟨_, rfl, ad_ren rfl⟩, ⟨_, rfl, ad_ren rfl⟩, ⟨_, rfl, ad_ren rfl⟩, ⟨_, rfl, ad_ren rfl⟩, trivial⟩) (by exact ⟨⟨_, rfl, rfl⟩, ⟨_, rfl, rfl⟩, trivial⟩) (by rfl) (nk rfl)) (al_whl (fun (s7 : Int × Int × Int) => [(2, .int .i64 x2), (8, .int .i64 s7.1), (9, .int .i64 s7.2.1), (10, .os 0), (11, .os 1), (12, .int .i64 s7.2.2)]) (fun (s7 : Int × Int × Int) => [(0, .row (.int .i64) r1), (1, .row (.int .i64) r3)]) (fun (s7 : Int × Int × Int) => True) h trivial (fun d9 s7 hI h ih9 => ?_)))
    replace h := is_whlS h
    refine al_round ?_
    refine aw_seq ?_
    refine aw_seq ?_
    refine aw_region ?_
    refine ao_read trivial (r_move rfl) rfl ?_
    refine ao_read trivial (r_move rfl) rfl ?_
    refine ao_read trivial (r_leq rfl rfl) rfl ?_
    refine ao_nil ?_
    refine aq_then ?_
    refine aw_cond rfl (fun hb11 => ?_) (fun hb11 => ?_)
    · have q12 := d_t hb11
      replace h := is_if (d_t hb11) h
      refine aw_skip ?_
      refine aq_then ?_
      refine aw_seq ?_
      refine aw_block ?_
      refine aw_seq ?_
      refine aw_region ?_
      refine ao_read trivial (r_move rfl) rfl ?_
      refine ao_read trivial (r_assign rfl) rfl ?_
      refine ao_nil ?_
      refine aq_then ?_
      refine aw_block ?_
      refine aw_loop (AL.sub (sub_mk idn (by exact ⟨⟨_, rfl, ad_ren rfl⟩, ⟨_, rfl, ad_ren rfl⟩, ⟨_, rfl, ad_ren rfl⟩, ⟨_, rfl, ad_ren rfl⟩, ⟨_, rfl, ad_ren rfl⟩, ⟨_, rfl, ad_ren rfl⟩, ⟨_, rfl, ad_ren rfl⟩, trivial⟩) (by exact ⟨⟨_, rfl, rfl⟩, ⟨_, rfl, rfl⟩, trivial⟩) (by rfl) (nk rfl)) (al_whl (fun (s14 : Int × Int × Int) => [(2, .int .i64 x2), (8, .int .i64 s14.1), (9, .int .i64 s14.2.1), (10, .os 0), (11, .os 1), (12, .int .i64 s7.2.2), (13, .int .i64 s14.2.2)]) (fun (s14 : Int × Int × Int) => [(0, .row (.int .i64) r1), (1, .row (.int .i64) r3)]) (fun (s14 : Int × Int × Int) => s7.2.2 ≤ s14.2.2) h (by (try simp only [List.length_set, List.length_append, List.length_cons, List.length_nil, List.length_replicate, List.length_take, List.length_drop]) <;> omega) (fun d16 s14 hI h ih16 => ?_)))
      replace h := is_whlS h
      refine al_round ?_
      refine aw_seq ?_
      refine aw_seq ?_
      refine aw_region ?_
      refine ao_read trivial (r_move rfl) rfl ?_
      refine ao_read trivial (r_move rfl) rfl ?_
      refine ao_read trivial (r_leq rfl rfl) rfl ?_
      refine ao_nil ?_
      refine aq_then ?_
      refine aw_cond rfl (fun hb18 => ?_) (fun hb18 => ?_)
      · have q19 := d_t hb18
        replace h := is_if (d_t hb18) h
        refine aw_skip ?_
        refine aq_then ?_
        refine aw_seq ?_
        refine aw_block ?_
        refine aw_seq ?_
        obtain ⟨g21, h⟩ := is_guard h
        obtain ⟨g22, h⟩ := is_guard h
        obtain ⟨r23, r23h, h⟩ := is_bind h
        obtain ⟨g24, h⟩ := is_guard h
        obtain ⟨r25, r25h, h⟩ := is_bind h
        refine aw_drawAll (by kernel_rfl) ?_
        refine an_read 0 (by kernel_rfl) (fun _ _ _ h => h) rfl (by kernel_rfl) trivial (r_move rfl) rfl ?_
        refine an_read 1 (by kernel_rfl) (fun _ _ _ h => h) rfl (by kernel_rfl) trivial (r_move rfl) rfl ?_
        refine an_read 2 (by kernel_rfl) (fun _ _ _ h => h) rfl (by kernel_rfl) trivial (r_idxAddr_os Try.underlying36 Try.sizeOf3 rfl rfl rfl (show 0 ≤ s7.2.2 from by omega) (show s7.2.2 < (r1.length : Int) from by omega)) rfl ?_
        refine an_read 3 (by kernel_rfl) (fun _ _ _ h => h) rfl (by kernel_rfl) trivial (r_load_elem_int Try.isAgg3 Try.sizeOf3 rfl rfl (show s7.2.2.toNat < r1.length from by omega)) rfl ?_
        refine an_read 4 (by kernel_rfl) (fun _ _ _ h => h) rfl (by kernel_rfl) trivial (r_move rfl) rfl ?_
        refine an_read 5 (by kernel_rfl) (fun _ _ _ h => h) rfl (by kernel_rfl) trivial (r_move rfl) rfl ?_
        refine an_read 6 (by kernel_rfl) (fun _ _ _ h => h) rfl (by kernel_rfl) trivial (r_sub rfl rfl) rfl ?_
        refine an_scall 7 (by kernel_rfl) (fun _ _ _ h => h) rfl (by kernel_rfl) trivial (scall (c_spec_l2All (is_mk r23h)) rfl Try.func106 rfl rfl rfl rfl (fun σ => ⟨ad_ren rfl, trivial⟩)) rfl ?_
        refine an_read 8 (by kernel_rfl) (fun _ _ _ h => h) rfl (by kernel_rfl) trivial (r_mul rfl rfl) rfl ?_
        refine an_read 9 (by kernel_rfl) (fun _ _ _ h => h) rfl (by kernel_rfl) trivial (r_move rfl) rfl ?_
        refine an_read 10 (by kernel_rfl) (fun _ _ _ h => h) rfl (by kernel_rfl) trivial (r_move rfl) rfl ?_
        refine an_read 11 (by kernel_rfl) (fun _ _ _ h => h) rfl (by kernel_rfl) trivial (r_idxAddr_os Try.underlying36 Try.sizeOf3 rfl rfl rfl (show 0 ≤ s14.2.2 from by omega) (show s14.2.2 < (r3.length : Int) from by omega)) rfl ?_
        refine an_read 12 (by kernel_rfl) (fun _ _ _ h => h) rfl (by kernel_rfl) trivial (r_load_elem_int Try.isAgg3 Try.sizeOf3 rfl rfl (show s14.2.2.toNat < r3.length from by omega)) rfl ?_
        refine an_read 13 (by kernel_rfl) (fun _ _ _ h => h) rfl (by kernel_rfl) trivial (r_mul rfl rfl) rfl ?_
        refine an_read 14 (by kernel_rfl) (fun _ _ _ h => h) rfl (by kernel_rfl) trivial (r_move rfl) rfl ?_
        refine an_read 15 (by kernel_rfl) (fun _ _ _ h => h) rfl (by kernel_rfl) trivial (r_move rfl) rfl ?_
        refine an_read 16 (by kernel_rfl) (fun _ _ _ h => h) rfl (by kernel_rfl) trivial (r_sub rfl rfl) rfl ?_
        refine an_scall 17 (by kernel_rfl) (fun _ _ _ h => h) rfl (by kernel_rfl) trivial (scall (c_spec_l2All (is_mk r25h)) rfl Try.func106 rfl rfl rfl rfl (fun σ => ⟨ad_ren rfl, trivial⟩)) rfl ?_
        refine an_read 18 (by kernel_rfl) (fun _ _ _ h => h) rfl (by kernel_rfl) trivial (r_mul rfl rfl) rfl ?_
        refine an_read 19 (by kernel_rfl) (fun _ _ _ h => h) rfl (by kernel_rfl) trivial (r_assign rfl) rfl ?_
        refine an_done rfl ?_
        refine aq_then ?_
        refine aw_seq ?_
        refine aw_region ?_
        refine ao_read trivial (r_move rfl) rfl ?_
        refine ao_read trivial (r_move rfl) rfl ?_
        refine ao_read trivial (r_eql rfl rfl) rfl ?_
        refine ao_nil ?_
        refine aq_then ?_
        refine aw_cond rfl (fun hb26 => ?_) (fun hb26 => ?_)
        · have q27 := d_t hb26
          replace h := is_if (d_t hb26) h
          refine aw_region ?_
          refine ao_read trivial (r_move rfl) rfl ?_
          refine ao_read trivial (r_move rfl) rfl ?_
          refine ao_read trivial (r_add rfl rfl) rfl ?_
          refine ao_read trivial (r_assign rfl) rfl ?_
          refine ao_nil ?_
          refine aq_in ?_
          refine aq_then ?_
          refine aw_region ?_
          refine ao_read trivial (r_move rfl) rfl ?_
          refine ao_read trivial (r_addI rfl rfl (wrap_id (by omega) (by omega))) rfl ?_
          refine ao_read trivial (r_assign rfl) rfl ?_
          refine ao_nil ?_
          exact aq_again (AL.sub (sub_mk idn (by exact ⟨⟨_, rfl, ad_ren rfl⟩, ⟨_, rfl, ad_ren rfl⟩, ⟨_, rfl, ad_ren rfl⟩, ⟨_, rfl, ad_ren rfl⟩, ⟨_, rfl, ad_ren rfl⟩, ⟨_, rfl, ad_ren rfl⟩, ⟨_, rfl, ad_ren rfl⟩, trivial⟩) (by exact ⟨⟨_, rfl, rfl⟩, ⟨_, rfl, rfl⟩, trivial⟩) (by rfl) (nk rfl)) (ih16 (s14.1, (IntKind.wrap .i64 (s14.2.1 + (IntKind.wrap .i64 ((IntKind.wrap .i64 ((IntKind.wrap .i64 ((r1.getD s7.2.2.toNat 0) * r23)) * (r3.getD s14.2.2.toNat 0))) * r25)))), (s14.2.2 + 1)) (by (try simp only [List.length_set, List.length_append, List.length_cons, List.length_nil, List.length_replicate, List.length_take, List.length_drop]) <;> omega) h))
        · have q28 := d_f hb26
          replace h := is_else (d_f hb26) h
          refine aw_region ?_
          refine ao_read trivial (r_move rfl) rfl ?_
          refine ao_read trivial (r_move rfl) rfl ?_
          refine ao_read trivial (r_add rfl rfl) rfl ?_
          refine ao_read trivial (r_assign rfl) rfl ?_
          refine ao_nil ?_
          refine aq_in ?_
          refine aq_then ?_
          refine aw_region ?_
          refine ao_read trivial (r_move rfl) rfl ?_
          refine ao_read trivial (r_addI rfl rfl (wrap_id (by omega) (by omega))) rfl ?_
          refine ao_read trivial (r_assign rfl) rfl ?_
          refine ao_nil ?_
          exact aq_again (AL.sub (sub_mk idn (by exact ⟨⟨_, rfl, ad_ren rfl⟩, ⟨_, rfl, ad_ren rfl⟩, ⟨_, rfl, ad_ren rfl⟩, ⟨_, rfl, ad_ren rfl⟩, ⟨_, rfl, ad_ren rfl⟩, ⟨_, rfl, ad_ren rfl⟩, ⟨_, rfl, ad_ren rfl⟩, trivial⟩) (by exact ⟨⟨_, rfl, rfl⟩, ⟨_, rfl, rfl⟩, trivial⟩) (by rfl) (nk rfl)) (ih16 ((IntKind.wrap .i64 (s14.1 + (IntKind.wrap .i64 ((IntKind.wrap .i64 ((IntKind.wrap .i64 ((r1.getD s7.2.2.toNat 0) * r23)) * (r3.getD s14.2.2.toNat 0))) * r25)))), s14.2.1, (s14.2.2 + 1)) (by (try simp only [List.length_set, List.length_append, List.length_cons, List.length_nil, List.length_replicate, List.length_take, List.length_drop]) <;> omega) h))
      · have q20 := d_f hb18
        replace h := is_else (d_f hb18) h
        refine aw_exit ?_
        refine aq_then_exit ?_
        refine aq_then_exit ?_
        refine aq_in_exit ?_
        refine aq_in ?_
        refine aq_then ?_
        refine aw_region ?_
        refine ao_read trivial (r_move rfl) rfl ?_
        refine ao_read trivial (r_add rfl rfl) rfl ?_
        refine ao_read trivial (r_assign rfl) rfl ?_
        refine ao_nil ?_
        exact aq_again (AL.sub (sub_mk idn (by exact ⟨⟨_, rfl, ad_ren rfl⟩, ⟨_, rfl, ad_ren rfl⟩, ⟨_, rfl, ad_ren rfl⟩, ⟨_, rfl, ad_ren rfl⟩, ⟨_, rfl, ad_ren rfl⟩, ⟨_, rfl, ad_ren rfl⟩, trivial⟩) (by exact ⟨⟨_, rfl, rfl⟩, ⟨_, rfl, rfl⟩, trivial⟩) (by rfl) (nk rfl)) (ih9 (s14.1, s14.2.1, (IntKind.wrap .i64 (s7.2.2 + 1))) trivial h))
    · have q13 := d_f hb11
      replace h := is_else (d_f hb11) h
      refine aw_exit ?_
      refine aq_then_exit ?_
      refine aq_then_exit ?_
      refine aq_in_exit ?_
      refine aq_then ?_
      refine aw_seq ?_
      refine aw_region ?_
      refine ao_read trivial (r_move rfl) rfl ?_
      refine ao_read trivial (r_move rfl) rfl ?_
      refine ao_read trivial (r_assign rfl) rfl ?_
      refine ao_read trivial (r_assign rfl) rfl ?_
      refine ao_nil ?_
      refine aq_then ?_
      refine aw_ret ?_
      refine aq_ret ?_
      obtain rfl := is_some h
      exact aq_finx (l := [.tmp 6, .tmp 7]) (xs := [.int .i64 s7.1, .int .i64 s7.2.1]) idn [.int .i64 s7.1, .int .i64 s7.2.1] [] rfl (by exact ⟨rfl, rfl, trivial⟩) (by exact ⟨ad_ren rfl, ad_ren rfl, trivial⟩) (by exact trivial) rfl (nk rfl) rfl rfl ⟨rfl, rfl⟩
  · refine an_read 0 (by kernel_rfl) (fun _ _ _ h => h) rfl (by kernel_rfl) trivial (r_load_arr rfl Try.isAgg43 Try.sizeOf43 rfl rfl rfl) rfl ?_
    refine an_read 1 (by kernel_rfl) (fun _ _ _ h => h) rfl (by kernel_rfl) trivial (r_move rfl) rfl ?_
    refine an_read 3 (by kernel_rfl) (fun _ _ _ h => h) rfl (by kernel_rfl) trivial (r_load_arr rfl Try.isAgg43 Try.sizeOf43 rfl rfl rfl) rfl ?_
    refine an_read 4 (by kernel_rfl) (fun _ _ _ h => h) rfl (by kernel_rfl) trivial (r_move rfl) rfl ?_
    refine an_explore 2 rfl ?_
    refine ax_all [2] (by kernel_rfl) ⟨?_, trivial⟩
    refine axo_call 2 2 rfl trivial (c_spec_l7Run (is_mk r1h)) Try.func130 rfl rfl rfl rfl ⟨ad_ren rfl, ad_ren rfl, trivial⟩ rfl rfl rfl rfl (fun r' H' hr => ?_)
    obtain ⟨rfl, rfl⟩ := hr
    refine ax_all [5] (by kernel_rfl) ⟨?_, trivial⟩
    refine axo_call 5 3 rfl trivial (c_spec_l7Run (is_mk r3h)) Try.func130 rfl rfl rfl rfl ⟨ad_ren rfl, ad_ren rfl, trivial⟩ rfl rfl rfl rfl (fun r' H' hr => ?_)
    obtain ⟨rfl, rfl⟩ := hr
    refine ax_all [6] (by kernel_rfl) ⟨?_, trivial⟩
    refine axo_read 6 rfl trivial (r_assign rfl) rfl ?_
    refine ax_all [7] (by kernel_rfl) ⟨?_, trivial⟩
    refine axo_read 7 rfl trivial (r_assign rfl) rfl ?_
    exact ax_done rfl (AQ.sub (sub_mk (rn [(0, 2), (1, 3)]) (by exact ⟨⟨_, rfl, ad_ren rfl⟩, ⟨_, rfl, ad_ren rfl⟩, ⟨_, rfl, ad_ren rfl⟩, ⟨_, rfl, ad_ren rfl⟩, ⟨_, rfl, ad_ren rfl⟩, trivial⟩) (by exact ⟨⟨_, rfl, rfl⟩, ⟨_, rfl, rfl⟩, trivial⟩) (by rfl) (nk rfl)) key)
theorem c_spec_FirstWins {fu : Nat} {x0 : (List Int)} {x1 : (List Int)} {x2 : Int} {r : (List Int) × Bool} (h : Is (p_spec_FirstWins fu x0 x1 x2) (some r)) :
    Scalar Try.prog 58 [.v (.arr 6 (.int .i64)) x0, .v (.arr 6 (.int .i64)) x1, .int .i64 x2] (.tup [.v (.arr 2 (.int .i64)) r.1, .bool r.2]) := by
  unfold p_spec_FirstWins at h
  refine ac_enter ⟨38, 0⟩ Try.func58 rfl rfl rfl rfl rfl (fun Γ => ?_)
  refine aw_seq ?_
  refine aw_region ?_
  refine ao_eff trivial (e_box 0 rfl rfl rfl rfl rfl rfl) rfl ?_
  refine ao_eff trivial (e_box 1 rfl rfl rfl rfl rfl rfl) rfl ?_
  refine ao_eff trivial (e_alloc 2 (y := .v (.arr 2 (.int .i64)) ((List.replicate 2 0) : (List Int))) Try.zeroValue30 (fun ρ h M => ra_zero_arr (t := (.int .i64)) rfl) rfl rfl rfl rfl rfl) rfl ?_
  refine ao_read trivial (r_assign rfl) rfl ?_
  refine ao_nil ?_
  refine aq_then ?_
  refine aw_seq ?_
  refine aw_seq ?_
  refine aw_region ?_
  refine ao_read trivial (r_load_arr rfl Try.isAgg43 Try.sizeOf43 rfl rfl rfl) rfl ?_
  obtain ⟨r1, r1h, h⟩ := is_bind h
  refine ao_scall trivial (scall (c_spec_l7Die (is_mk r1h)) rfl Try.func126 rfl rfl rfl rfl (fun σ => ⟨ad_ren rfl, trivial⟩)) rfl ?_
  refine ao_read trivial (r_not rfl) rfl ?_
  refine ao_read trivial (r_move rfl) rfl ?_
  refine ao_readG (x := .v (.arr 6 (.int .i64)) x1) rfl (GV.F rfl) (fun hg2 => r_load_arr rfl Try.isAgg43 Try.sizeOf43 rfl rfl rfl) rfl ?_
  obtain ⟨g4, h⟩ := is_guard h
  refine ao_scallG (r := .bool ((p_spec_l7Die x1).getD false)) rfl (GV.F rfl) (fun hg3 => SCall.strip 14 rfl (hg3) (scall (c_spec_l7Die (is_mk (isSome_getD (g4 hg3)))) rfl Try.func126 rfl rfl rfl rfl (fun σ => ⟨ad_ren rfl, trivial⟩))) rfl ?_
  refine ao_readG (x := .bool (!((p_spec_l7Die x1).getD false))) rfl (GV.F rfl) (fun hg5 => Reads.strip 15 rfl (hg5) (r_not rfl)) rfl ?_
  refine ao_read trivial (r_orB rfl rfl) rfl ?_
  refine ao_read trivial (r_move rfl) rfl ?_
  refine ao_readG (x := .int .i64 x2) rfl (GV.F rfl) (fun hg6 => by
        obtain ⟨q7, q8⟩ := or_f (not_t hg6)
        exact r_move rfl) rfl ?_
  refine ao_scallG (r := .bool (p_spec_l7Goal x2)) rfl (GV.F rfl) (fun hg9 => by
        obtain ⟨q10, q11⟩ := or_f (not_t hg9)
        exact SCall.strip 19 rfl (hg9) (scall (c_spec_l7Goal (is_mk (rfl : p_spec_l7Goal x2 = _))) rfl Try.func127 rfl rfl rfl rfl (fun σ => ⟨ad_ren rfl, trivial⟩))) rfl ?_
  refine ao_readG (x := .bool (!(p_spec_l7Goal x2))) rfl (GV.F rfl) (fun hg12 => by
        obtain ⟨q13, q14⟩ := or_f (not_t hg12)
        exact Reads.strip 20 rfl (hg12) (r_not rfl)) rfl ?_
  refine ao_read trivial (r_orB rfl rfl) rfl ?_
  refine ao_nil ?_
  refine aq_then ?_
  refine aw_cond rfl (fun hb15 => ?_) (fun hb15 => ?_)
  · replace h := is_if hb15 h
    refine aw_seq ?_
    refine aw_region ?_
    refine ao_read trivial (r_build_zero (t := (.int .i64)) Try.underlying30 Try.zeroValue30 Try.sizeOf3 rfl) rfl ?_
    refine ao_effS trivial (e_store rfl rfl rfl rfl Try.sizeOf30 rfl) ?_
    refine ao_read trivial (r_assign rfl) rfl ?_
    refine ao_nil ?_
    refine aq_then ?_
    refine aw_ret ?_
    refine aq_then_ret ?_
    refine aq_ret ?_
    obtain rfl := is_some h
    exact aq_finx (l := [.cell 6 30, .tmp 7]) (xs := [.v (.arr 2 (.int .i64)) ((List.replicate 2 0) : (List Int)), .bool false]) idn [.v (.arr 2 (.int .i64)) ((List.replicate 2 0) : (List Int)), .bool false] [] rfl (by exact ⟨⟨⟨_, _, rfl⟩, r_load_arr rfl Try.isAgg30 Try.sizeOf30 rfl rfl rfl⟩, rfl, trivial⟩) (by exact ⟨ad_ren rfl, ad_ren rfl, trivial⟩) (by exact trivial) rfl (nk rfl) rfl rfl ⟨rfl, rfl⟩
  · obtain ⟨q16, q17⟩ := or_f hb15
    obtain ⟨q18, q19⟩ := or_f q16
    replace h := is_else (ne_t hb15) h
    refine aw_skip ?_
    refine aq_then ?_
    refine aw_seq ?_
    refine aw_region ?_
    refine ao_read trivial (r_load_arr rfl Try.isAgg43 Try.sizeOf43 rfl rfl rfl) rfl ?_
    refine ao_read trivial (r_load_arr rfl Try.isAgg43 Try.sizeOf43 rfl rfl rfl) rfl ?_
    refine ao_read trivial (r_move rfl) rfl ?_
    obtain ⟨r20, r20h, h⟩ := is_bind h
    refine ao_scall trivial (scall (c_spec_l7Race (is_mk r20h)) rfl Try.func134 rfl rfl rfl rfl (fun σ => ⟨ad_ren rfl, ad_ren rfl, ad_ren rfl, trivial⟩)) rfl ?_
    refine ao_read trivial (r_move rfl) rfl ?_
    refine ao_read trivial (r_extract rfl rfl) rfl ?_
    refine ao_read trivial (r_extract rfl rfl) rfl ?_
    refine ao_read trivial (r_assign rfl) rfl ?_
    refine ao_read trivial (r_assign rfl) rfl ?_
    refine ao_nil ?_
    refine aq_then ?_
    refine aw_seq ?_
    refine aw_region ?_
    refine ao_read trivial (r_move rfl) rfl ?_
    refine ao_read trivial (r_move rfl) rfl ?_
    refine ao_read trivial (r_add rfl rfl) rfl ?_
    refine ao_read trivial (r_move rfl) rfl ?_
    refine ao_read trivial (r_mul rfl rfl) rfl ?_
    obtain ⟨r21, r21h, h⟩ := is_bind h
    refine ao_scall trivial (scall (c_spec_l2All (is_mk r21h)) rfl Try.func106 rfl rfl rfl rfl (fun σ => ⟨ad_ren rfl, trivial⟩)) rfl ?_
    obtain ⟨r22, r22h, h⟩ := is_bind h
    refine ao_scall trivial (scall (c_spec_l2Cut (is_mk r22h)) rfl Try.func105 rfl rfl rfl rfl (fun σ => ⟨ad_ren rfl, ad_ren rfl, trivial⟩)) rfl ?_
    refine ao_effS trivial (e_store rfl rfl rfl rfl Try.sizeOf30 rfl) ?_
    refine ao_read trivial (r_assign rfl) rfl ?_
    refine ao_nil ?_
    refine aq_then ?_
    refine aw_ret ?_
    refine aq_ret ?_
    obtain rfl := is_some h
    exact aq_finx (l := [.cell 6 30, .tmp 7]) (xs := [.v (.arr 2 (.int .i64)) r22, .bool true]) idn [.v (.arr 2 (.int .i64)) r22, .bool true] [] rfl (by exact ⟨⟨⟨_, _, rfl⟩, r_load_arr rfl Try.isAgg30 Try.sizeOf30 rfl rfl rfl⟩, rfl, trivial⟩) (by exact ⟨ad_ren rfl, ad_ren rfl, trivial⟩) (by exact trivial) rfl (nk rfl) rfl rfl ⟨rfl, rfl⟩
theorem c_impl_SameRound {fu : Nat} {x0 : (List Int)} {x1 : (List Int)} {x2 : Int} {r : (List Int) × Bool} (h : Is (p_impl_SameRound fu x0 x1 x2) (some r)) :
    Scalar Try.prog 59 [.v (.arr 6 (.int .i64)) x0, .v (.arr 6 (.int .i64)) x1, .int .i64 x2] (.tup [.v (.arr 2 (.int .i64)) r.1, .bool r.2]) := by
  unfold p_impl_SameRound at h
  refine ac_enter ⟨54, 0⟩ Try.func59 rfl rfl rfl rfl rfl (fun Γ => ?_)
  refine aw_seq ?_
  refine aw_region ?_
  refine ao_eff trivial (e_box 0 rfl rfl rfl rfl rfl rfl) rfl ?_
  refine ao_eff trivial (e_box 1 rfl rfl rfl rfl rfl rfl) rfl ?_
  refine ao_eff trivial (e_alloc 2 (y := .v (.arr 2 (.int .i64)) ((List.replicate 2 0) : (List Int))) Try.zeroValue30 (fun ρ h M => ra_zero_arr (t := (.int .i64)) rfl) rfl rfl rfl rfl rfl) rfl ?_
  refine ao_read trivial (r_assign rfl) rfl ?_
  refine ao_nil ?_
  refine aq_then ?_
  refine aw_seq ?_
  refine aw_seq ?_
  refine aw_region ?_
  refine ao_read trivial (r_load_arr rfl Try.isAgg43 Try.sizeOf43 rfl rfl rfl) rfl ?_
  refine ao_scall trivial (scall (c_impl_isRunner (is_mk (rfl : p_impl_isRunner x0 = _))) rfl Try.func124 rfl rfl rfl rfl (fun σ => ⟨ad_ren rfl, trivial⟩)) rfl ?_
  refine ao_read trivial (r_not rfl) rfl ?_
  refine ao_read trivial (r_move rfl) rfl ?_
  refine ao_readG (x := .v (.arr 6 (.int .i64)) x1) rfl (GV.F rfl) (fun hg1 => r_load_arr rfl Try.isAgg43 Try.sizeOf43 rfl rfl rfl) rfl ?_
  refine ao_scallG (r := .bool (p_impl_isRunner x1)) rfl (GV.F rfl) (fun hg2 => SCall.strip 17 rfl (hg2) (scall (c_impl_isRunner (is_mk (rfl : p_impl_isRunner x1 = _))) rfl Try.func124 rfl rfl rfl rfl (fun σ => ⟨ad_ren rfl, trivial⟩))) rfl ?_
  refine ao_readG (x := .bool (!(p_impl_isRunner x1))) rfl (GV.F rfl) (fun hg3 => Reads.strip 18 rfl (hg3) (r_not rfl)) rfl ?_
  refine ao_read trivial (r_orB rfl rfl) rfl ?_
  refine ao_read trivial (r_move rfl) rfl ?_
  refine ao_readG (x := .int .i64 x2) rfl (GV.F rfl) (fun hg4 => by
        obtain ⟨q5, q6⟩ := or_f (not_t hg4)
        exact r_move rfl) rfl ?_
  refine ao_scallG (r := .bool (p_impl_isGoal x2)) rfl (GV.F rfl) (fun hg7 => by
        obtain ⟨q8, q9⟩ := or_f (not_t hg7)
        exact SCall.strip 22 rfl (hg7) (scall (c_impl_isGoal (is_mk (rfl : p_impl_isGoal x2 = _))) rfl Try.func125 rfl rfl rfl rfl (fun σ => ⟨ad_ren rfl, trivial⟩))) rfl ?_
  refine ao_readG (x := .bool (!(p_impl_isGoal x2))) rfl (GV.F rfl) (fun hg10 => by
        obtain ⟨q11, q12⟩ := or_f (not_t hg10)
        exact Reads.strip 23 rfl (hg10) (r_not rfl)) rfl ?_
  refine ao_read trivial (r_orB rfl rfl) rfl ?_
  refine ao_nil ?_
  refine aq_then ?_
  refine aw_cond rfl (fun hb13 => ?_) (fun hb13 => ?_)
  · replace h := is_if hb13 h
    refine aw_seq ?_
    refine aw_region ?_
    refine ao_read trivial (r_build_zero (t := (.int .i64)) Try.underlying30 Try.zeroValue30 Try.sizeOf3 rfl) rfl ?_
    refine ao_effS trivial (e_store rfl rfl rfl rfl Try.sizeOf30 rfl) ?_
    refine ao_read trivial (r_assign rfl) rfl ?_
    refine ao_nil ?_
    refine aq_then ?_
    refine aw_ret ?_
    refine aq_then_ret ?_
    refine aq_ret ?_
    obtain rfl := is_some h
    exact aq_finx (l := [.cell 6 30, .tmp 7]) (xs := [.v (.arr 2 (.int .i64)) ((List.replicate 2 0) : (List Int)), .bool false]) idn [.v (.arr 2 (.int .i64)) ((List.replicate 2 0) : (List Int)), .bool false] [] rfl (by exact ⟨⟨⟨_, _, rfl⟩, r_load_arr rfl Try.isAgg30 Try.sizeOf30 rfl rfl rfl⟩, rfl, trivial⟩) (by exact ⟨ad_ren rfl, ad_ren rfl, trivial⟩) (by exact trivial) rfl (nk rfl) rfl rfl ⟨rfl, rfl⟩
  · obtain ⟨q14, q15⟩ := or_f hb13
    obtain ⟨q16, q17⟩ := or_f q14
    replace h := is_else (ne_t hb13) h
    refine aw_skip ?_
    refine aq_then ?_
    refine aw_seq ?_
    obtain ⟨r18, r18h, h⟩ := is_bind h
    obtain ⟨r20, r20h, h⟩ := is_bind h
    refine aw_drawAll (by kernel_rfl) ?_
    refine an_to [(2, .int .i64 x2), (6, .ref 0 0), (8, .os 1), (9, .os 2)] [(0, .var [.arr (.int .i64) 2 ((List.replicate 2 0) : (List Int))]), (1, .row (.int .i64) r18), (2, .row (.int .i64) r20)] ?_ (fun key => ?_)
    · refine row_len_q 1 (r18.length : Int) rfl rfl (fun hr22 => ?_)
      refine row_len_q 2 (r20.length : Int) rfl rfl (fun hr23 => ?_)
      refine aq_then ?_
      refine aw_seq ?_
      refine aw_region ?_
      refine ao_read trivial (r_assign rfl) rfl ?_
      refine ao_nil ?_
      refine aq_then ?_
      refine aw_seq ?_
      refine aw_seq ?_
      refine aw_region ?_
      refine ao_read trivial (r_move rfl) rfl ?_
      refine ao_read trivial (r_len_osm (r18.length : Int) Try.underlying36 rfl rfl rfl) rfl ?_
      refine ao_read trivial (r_move rfl) rfl ?_
      refine ao_nil ?_
      refine aq_then ?_
      refine aw_block ?_
      refine aw_loop (AL.sub (fr' := [(2, .int .i64 x2), (6, .ref 0 0), (9, .os 1), (10, .int .i64 0), (33, .os 2), (34, .int .i64 (r18.length : Int)), (35, .int .i64 0)]) (H' := [(0, .var [.arr (.int .i64) 2 ((List.replicate 2 0) : (List Int))]), (1, .row (.int .i64) r20), (2, .row (.int .i64) r18)]) (sub_mk (rn [(1, 2), (2, 1)]) (by exact ⟨⟨_, rfl, ad_ren rfl⟩, ⟨_, rfl, ad_ren rfl⟩, ⟨_, rfl, ad_ren rfl⟩, ⟨_, rfl, ad_ren rfl⟩, ⟨_, rfl, ad_ren rfl⟩, ⟨_, rfl, ad_ren rfl⟩, ⟨_, rfl, ad_ren rfl⟩, trivial⟩) (by exact ⟨⟨_, rfl, ⟨rfl, trivial⟩⟩, ⟨_, rfl, rfl⟩, ⟨_, rfl, rfl⟩, trivial⟩) (by rfl) (nk rfl)) (al_cnt (fun i25 (s24 : Int) => [(2, .int .i64 x2), (6, .ref 0 0), (9, .os 1), (10, .int .i64 s24), (33, .os 2), (34, .int .i64 (r18.length : Int)), (35, .int .i64 i25)]) (fun i25 (s24 : Int) => [(0, .var [.arr (.int .i64) 2 ((List.replicate 2 0) : (List Int))]), (1, .row (.int .i64) r20), (2, .row (.int .i64) r18)]) (fun d i25 (s24 : Int) => d = Int.toNat ((r18.length : Int) - i25) ∧ 0 ≤ i25 ∧ i25 ≤ (r18.length : Int)) h ⟨rfl, (by (try simp only [List.length_set, List.length_append, List.length_cons, List.length_nil, List.length_replicate, List.length_take, List.length_drop]) <;> omega), (by (try simp only [List.length_set, List.length_append, List.length_cons, List.length_nil, List.length_replicate, List.length_take, List.length_drop]) <;> omega)⟩ (fun d26 i25 s24 hI h ih26 => ?_)))
      obtain ⟨hd, _, _⟩ := hI
      refine al_round ?_
      refine aw_seq ?_
      refine aw_region ?_
      refine ao_read trivial (r_lss rfl rfl) rfl ?_
      refine ao_nil ?_
      refine aq_then ?_
      refine aw_seq ?_
      refine aw_cond rfl (fun hb28 => ?_) (fun hb28 => ?_)
      · have q29 := d_t hb28
        obtain ⟨d26, rfl⟩ : ∃ e, d26 = e + 1 := ⟨d26 - 1, by omega⟩
        replace h := is_cntS h
        refine aw_skip ?_
        refine aq_then ?_
        refine aw_seq ?_
        refine aw_block ?_
        refine aw_seq ?_
        refine aw_region ?_
        refine ao_read trivial (r_move rfl) rfl ?_
        refine ao_read trivial (r_idxAddr_os Try.underlying36 Try.sizeOf3 rfl rfl rfl (show 0 ≤ i25 from by omega) (show i25 < (r18.length : Int) from by omega)) rfl ?_
        refine ao_read trivial (r_load_elem_int Try.isAgg3 Try.sizeOf3 rfl rfl (show i25.toNat < r18.length from by omega)) rfl ?_
        refine ao_read trivial (r_assign rfl) rfl ?_
        refine ao_read trivial (r_assign rfl) rfl ?_
        refine ao_nil ?_
        refine aq_then ?_
        refine aw_region ?_
        refine ao_read trivial (r_move rfl) rfl ?_
        refine ao_read trivial (r_move rfl) rfl ?_
        refine ao_read trivial (r_move rfl) rfl ?_
        refine ao_read trivial (r_move rfl) rfl ?_
        obtain ⟨g31, h⟩ := is_guard h
        refine ao_read trivial (r_idxAddr_os Try.underlying36 Try.sizeOf3 rfl rfl rfl (show 0 ≤ i25 from by omega) (show i25 < (r20.length : Int) from by omega)) rfl ?_
        refine ao_read trivial (r_load_elem_int Try.isAgg3 Try.sizeOf3 rfl rfl (show i25.toNat < r20.length from by omega)) rfl ?_
        refine ao_read trivial (r_mul rfl rfl) rfl ?_
        refine ao_read trivial (r_add rfl rfl) rfl ?_
        refine ao_read trivial (r_assign rfl) rfl ?_
        refine ao_nil ?_
        refine aq_in ?_
        refine aq_then ?_
        refine aw_region ?_
        refine ao_read trivial (r_addI rfl rfl (wrap_id (by omega) (by omega))) rfl ?_
        refine ao_read trivial (r_move rfl) rfl ?_
        refine ao_nil ?_
        exact aq_again (AL.sub (sub_mk idn (by exact ⟨⟨_, rfl, ad_ren rfl⟩, ⟨_, rfl, ad_ren rfl⟩, ⟨_, rfl, ad_ren rfl⟩, ⟨_, rfl, ad_ren rfl⟩, ⟨_, rfl, ad_ren rfl⟩, ⟨_, rfl, ad_ren rfl⟩, ⟨_, rfl, ad_ren rfl⟩, trivial⟩) (by exact ⟨⟨_, rfl, ⟨rfl, trivial⟩⟩, ⟨_, rfl, rfl⟩, ⟨_, rfl, rfl⟩, trivial⟩) (by rfl) (nk rfl)) (ih26 d26 (i25 + 1) (IntKind.wrap .i64 (s24 + (IntKind.wrap .i64 ((r18.getD i25.toNat 0) * (r20.getD i25.toNat 0))))) (by omega) ⟨by omega, (by (try simp only [List.length_set, List.length_append, List.length_cons, List.length_nil, List.length_replicate, List.length_take, List.length_drop]) <;> omega), (by (try simp only [List.length_set, List.length_append, List.length_cons, List.length_nil, List.length_replicate, List.length_take, List.length_drop]) <;> omega)⟩ h))
      · have q30 := d_f hb28
        obtain rfl : d26 = 0 := by omega
        replace h := is_cnt0 h
        refine aw_exit ?_
        refine aq_then_exit ?_
        refine aq_then_exit ?_
        refine aq_in_exit ?_
        refine aq_then ?_
        refine aw_seq ?_
        refine aw_region ?_
        refine ao_read trivial (r_move rfl) rfl ?_
        refine ao_read trivial (r_move rfl) rfl ?_
        refine ao_read trivial (r_mul rfl rfl) rfl ?_
        obtain ⟨r32, r32h, h⟩ := is_bind h
        refine ao_scall trivial (scall (c_impl_power (is_mk r32h)) rfl Try.func103 rfl rfl rfl rfl (fun σ => ⟨ad_ren rfl, trivial⟩)) rfl ?_
        obtain ⟨r33, r33h, h⟩ := is_bind h
        refine ao_scall trivial (scall (c_impl_fraction (is_mk r33h)) rfl Try.func102 rfl rfl rfl rfl (fun σ => ⟨ad_ren rfl, ad_ren rfl, trivial⟩)) rfl ?_
        refine ao_effS trivial (e_store rfl rfl rfl rfl Try.sizeOf30 rfl) ?_
        refine ao_read trivial (r_assign rfl) rfl ?_
        refine ao_nil ?_
        refine aq_then ?_
        refine aw_ret ?_
        refine aq_ret ?_
        obtain rfl := is_some h
        exact aq_finx (l := [.cell 6 30, .tmp 7]) (xs := [.v (.arr 2 (.int .i64)) r33, .bool true]) idn [.v (.arr 2 (.int .i64)) r33, .bool true] [] rfl (by exact ⟨⟨⟨_, _, rfl⟩, r_load_arr rfl Try.isAgg30 Try.sizeOf30 rfl rfl rfl⟩, rfl, trivial⟩) (by exact ⟨ad_ren rfl, ad_ren rfl, trivial⟩) (by exact trivial) rfl (nk rfl) rfl rfl ⟨rfl, rfl⟩
    · refine an_read 0 (by kernel_rfl) (fun _ _ _ h => h) rfl (by kernel_rfl) trivial (r_load_arr rfl Try.isAgg43 Try.sizeOf43 rfl rfl rfl) rfl ?_
      refine an_read 1 (by kernel_rfl) (fun _ _ _ h => h) rfl (by kernel_rfl) trivial (r_move rfl) rfl ?_
      refine an_read 3 (by kernel_rfl) (fun _ _ _ h => h) rfl (by kernel_rfl) trivial (r_load_arr rfl Try.isAgg43 Try.sizeOf43 rfl rfl rfl) rfl ?_
      refine an_read 4 (by kernel_rfl) (fun _ _ _ h => h) rfl (by kernel_rfl) trivial (r_move rfl) rfl ?_
      refine an_explore 3 rfl ?_
      refine ax_all [2] (by kernel_rfl) ⟨?_, trivial⟩
      refine axo_call 2 3 rfl trivial (c_impl_runs (is_mk r18h)) Try.func129 rfl rfl rfl rfl ⟨ad_ren rfl, ad_ren rfl, trivial⟩ rfl rfl rfl rfl (fun r' H' hr => ?_)
      obtain ⟨rfl, rfl⟩ := hr
      refine ax_all [5] (by kernel_rfl) ⟨?_, trivial⟩
      refine axo_call 5 4 rfl trivial (c_impl_runs (is_mk r20h)) Try.func129 rfl rfl rfl rfl ⟨ad_ren rfl, ad_ren rfl, trivial⟩ rfl rfl rfl rfl (fun r' H' hr => ?_)
      obtain ⟨rfl, rfl⟩ := hr
      refine ax_all [6] (by kernel_rfl) ⟨?_, trivial⟩
      refine axo_read 6 rfl trivial (r_assign rfl) rfl ?_
      refine ax_all [7] (by kernel_rfl) ⟨?_, trivial⟩
      refine axo_read 7 rfl trivial (r_assign rfl) rfl ?_
      exact ax_done rfl (AQ.sub (sub_mk (rn [(0, 2), (1, 3), (2, 4)]) (by exact ⟨⟨_, rfl, ad_ren rfl⟩, ⟨_, rfl, ad_ren rfl⟩, ⟨_, rfl, ad_ren rfl⟩, ⟨_, rfl, ad_ren rfl⟩, trivial⟩) (by exact ⟨⟨_, rfl, ⟨rfl, trivial⟩⟩, ⟨_, rfl, rfl⟩, ⟨_, rfl, rfl⟩, trivial⟩) (by rfl) (nk rfl)) key)
theorem c_spec_SameRound {fu : Nat} {x0 : (List Int)} {x1 : (List Int)} {x2 : Int} {r : (List Int) × Bool} (h : Is (p_spec_SameRound fu x0 x1 x2) (some r)) :
    Scalar Try.prog 60 [.v (.arr 6 (.int .i64)) x0, .v (.arr 6 (.int .i64)) x1, .int .i64 x2] (.tup [.v (.arr 2 (.int .i64)) r.1, .bool r.2]) := by
  unfold p_spec_SameRound at h
  refine ac_enter ⟨36, 0⟩ Try.func60 rfl rfl rfl rfl rfl (fun Γ => ?_)
  refine aw_seq ?_
  refine aw_region ?_
  refine ao_eff trivial (e_box 0 rfl rfl rfl rfl rfl rfl) rfl ?_
  refine ao_eff trivial (e_box 1 rfl rfl rfl rfl rfl rfl) rfl ?_
  refine ao_eff trivial (e_alloc 2 (y := .v (.arr 2 (.int .i64)) ((List.replicate 2 0) : (List Int))) Try.zeroValue30 (fun ρ h M => ra_zero_arr (t := (.int .i64)) rfl) rfl rfl rfl rfl rfl) rfl ?_
  refine ao_read trivial (r_assign rfl) rfl ?_
  refine ao_nil ?_
  refine aq_then ?_
  refine aw_seq ?_
  refine aw_seq ?_
  refine aw_region ?_
  refine ao_read trivial (r_load_arr rfl Try.isAgg43 Try.sizeOf43 rfl rfl rfl) rfl ?_
  obtain ⟨r1, r1h, h⟩ := is_bind h
  refine ao_scall trivial (scall (c_spec_l7Die (is_mk r1h)) rfl Try.func126 rfl rfl rfl rfl (fun σ => ⟨ad_ren rfl, trivial⟩)) rfl ?_
  refine ao_read trivial (r_not rfl) rfl ?_
  refine ao_read trivial (r_move rfl) rfl ?_
  refine ao_readG (x := .v (.arr 6 (.int .i64)) x1) rfl (GV.F rfl) (fun hg2 => r_load_arr rfl Try.isAgg43 Try.sizeOf43 rfl rfl rfl) rfl ?_
  obtain ⟨g4, h⟩ := is_guard h
  refine ao_scallG (r := .bool ((p_spec_l7Die x1).getD false)) rfl (GV.F rfl) (fun hg3 => SCall.strip 14 rfl (hg3) (scall (c_spec_l7Die (is_mk (isSome_getD (g4 hg3)))) rfl Try.func126 rfl rfl rfl rfl (fun σ => ⟨ad_ren rfl, trivial⟩))) rfl ?_
  refine ao_readG (x := .bool (!((p_spec_l7Die x1).getD false))) rfl (GV.F rfl) (fun hg5 => Reads.strip 15 rfl (hg5) (r_not rfl)) rfl ?_
  refine ao_read trivial (r_orB rfl rfl) rfl ?_
  refine ao_read trivial (r_move rfl) rfl ?_
  refine ao_readG (x := .int .i64 x2) rfl (GV.F rfl) (fun hg6 => by
        obtain ⟨q7, q8⟩ := or_f (not_t hg6)
        exact r_move rfl) rfl ?_
  refine ao_scallG (r := .bool (p_spec_l7Goal x2)) rfl (GV.F rfl) (fun hg9 => by
        obtain ⟨q10, q11⟩ := or_f (not_t hg9)
        exact SCall.strip 19 rfl (hg9) (scall (c_spec_l7Goal (is_mk (rfl : p_spec_l7Goal x2 = _))) rfl Try.func127 rfl rfl rfl rfl (fun σ => ⟨ad_ren rfl, trivial⟩))) rfl ?_
  refine ao_readG (x := .bool (!(p_spec_l7Goal x2))) rfl (GV.F rfl) (fun hg12 => by
        obtain ⟨q13, q14⟩ := or_f (not_t hg12)
        exact Reads.strip 20 rfl (hg12) (r_not rfl)) rfl ?_
  refine ao_read trivial (r_orB rfl rfl) rfl ?_
  refine ao_nil ?_
  refine aq_then ?_
  refine aw_cond rfl (fun hb15 => ?_) (fun hb15 => ?_)
  · replace h := is_if hb15 h
    refine aw_seq ?_
    refine aw_region ?_
    refine ao_read trivial (r_build_zero (t := (.int .i64)) Try.underlying30 Try.zeroValue30 Try.sizeOf3 rfl) rfl ?_
    refine ao_effS trivial (e_store rfl rfl rfl rfl Try.sizeOf30 rfl) ?_
    refine ao_read trivial (r_assign rfl) rfl ?_
    refine ao_nil ?_
    refine aq_then ?_
    refine aw_ret ?_
    refine aq_then_ret ?_
    refine aq_ret ?_
    obtain rfl := is_some h
    exact aq_finx (l := [.cell 6 30, .tmp 7]) (xs := [.v (.arr 2 (.int .i64)) ((List.replicate 2 0) : (List Int)), .bool false]) idn [.v (.arr 2 (.int .i64)) ((List.replicate 2 0) : (List Int)), .bool false] [] rfl (by exact ⟨⟨⟨_, _, rfl⟩, r_load_arr rfl Try.isAgg30 Try.sizeOf30 rfl rfl rfl⟩, rfl, trivial⟩) (by exact ⟨ad_ren rfl, ad_ren rfl, trivial⟩) (by exact trivial) rfl (nk rfl) rfl rfl ⟨rfl, rfl⟩
  · obtain ⟨q16, q17⟩ := or_f hb15
    obtain ⟨q18, q19⟩ := or_f q16
    replace h := is_else (ne_t hb15) h
    refine aw_skip ?_
    refine aq_then ?_
    refine aw_seq ?_
    refine aw_region ?_
    refine ao_read trivial (r_load_arr rfl Try.isAgg43 Try.sizeOf43 rfl rfl rfl) rfl ?_
    refine ao_read trivial (r_load_arr rfl Try.isAgg43 Try.sizeOf43 rfl rfl rfl) rfl ?_
    refine ao_read trivial (r_move rfl) rfl ?_
    obtain ⟨r20, r20h, h⟩ := is_bind h
    refine ao_scall trivial (scall (c_spec_l7Race (is_mk r20h)) rfl Try.func134 rfl rfl rfl rfl (fun σ => ⟨ad_ren rfl, ad_ren rfl, ad_ren rfl, trivial⟩)) rfl ?_
    refine ao_read trivial (r_move rfl) rfl ?_
    refine ao_read trivial (r_extract rfl rfl) rfl ?_
    refine ao_read trivial (r_extract rfl rfl) rfl ?_
    refine ao_read trivial (r_assign rfl) rfl ?_
    refine ao_read trivial (r_assign rfl) rfl ?_
    refine ao_nil ?_
    refine aq_then ?_
    refine aw_seq ?_
    refine aw_region ?_
    refine ao_read trivial (r_move rfl) rfl ?_
    refine ao_read trivial (r_move rfl) rfl ?_
    refine ao_read trivial (r_mul rfl rfl) rfl ?_
    obtain ⟨r21, r21h, h⟩ := is_bind h
    refine ao_scall trivial (scall (c_spec_l2All (is_mk r21h)) rfl Try.func106 rfl rfl rfl rfl (fun σ => ⟨ad_ren rfl, trivial⟩)) rfl ?_
    obtain ⟨r22, r22h, h⟩ := is_bind h
    refine ao_scall trivial (scall (c_spec_l2Cut (is_mk r22h)) rfl Try.func105 rfl rfl rfl rfl (fun σ => ⟨ad_ren rfl, ad_ren rfl, trivial⟩)) rfl ?_
    refine ao_effS trivial (e_store rfl rfl rfl rfl Try.sizeOf30 rfl) ?_
    refine ao_read trivial (r_assign rfl) rfl ?_
    refine ao_nil ?_
    refine aq_then ?_
    refine aw_ret ?_
    refine aq_ret ?_
    obtain rfl := is_some h
    exact aq_finx (l := [.cell 6 30, .tmp 7]) (xs := [.v (.arr 2 (.int .i64)) r22, .bool true]) idn [.v (.arr 2 (.int .i64)) r22, .bool true] [] rfl (by exact ⟨⟨⟨_, _, rfl⟩, r_load_arr rfl Try.isAgg30 Try.sizeOf30 rfl rfl rfl⟩, rfl, trivial⟩) (by exact ⟨ad_ren rfl, ad_ren rfl, trivial⟩) (by exact trivial) rfl (nk rfl) rfl rfl ⟨rfl, rfl⟩
theorem c_spec_DrawBestRunner {fu : Nat} {x0 : (List Int)} {r : (List (List Int)) × Int} (h : Is (p_spec_DrawBestRunner fu x0) (some r)) :
    ACalls Try.prog 61 [.v (.slice (.int .u8)) x0] [] (fun r' H' => r' = .tup [.os 0, .int .i64 r.2] ∧ H' = [(0, .row (.arr 6 (.int .i64)) r.1)]) := by
  unfold p_spec_DrawBestRunner at h
  refine ac_enter ⟨28, 0⟩ Try.func61 rfl rfl rfl rfl rfl (fun Γ => ?_)
  refine sl_len_m 0 (x0.length : Int) rfl rfl (fun hl0 => ?_)
  refine aw_seq ?_
  refine aw_region ?_
  refine ao_read trivial (r_assign rfl) rfl ?_
  refine ao_read trivial (r_assign rfl) rfl ?_
  refine ao_nil ?_
  refine aq_then ?_
  refine aw_seq ?_
  refine aw_region ?_
  refine ao_read trivial (r_move rfl) rfl ?_
  refine ao_read trivial (r_build_st (l := [(0, .tmp 8)]) (cs := [.cell (.v (.slice (.int .u8)) x0), .cell (.int .i64 0), .cell (.int .u64 0)]) (.pair (.slice (.int .u8)) (.pair (.int .i64) (.pair (.int .u64) .unit))) [(0, 1), (1, 1), (2, 1)] Try.underlying105 Try.zeroValue105 rfl ⟨rfl, Try.sizeOf22, rfl, Try.sizeOf3, rfl, Try.sizeOf103, trivial⟩ rfl rfl rfl) rfl ?_
  refine ao_eff trivial (e_box 0 rfl rfl rfl rfl rfl rfl) rfl ?_
  refine ao_read trivial (r_assign rfl) rfl ?_
  refine ao_nil ?_
  refine aq_then ?_
  refine aw_seq ?_
  refine aw_region ?_
  refine ao_eff trivial (e_buildSlice (l := []) (t := (.arr 6 (.int .i64))) 1 ([] : (List (List Int))) rfl Try.underlying24 Try.zeroValue43 Try.sizeOf43 rfl rfl rfl rfl rfl rfl rfl) rfl ?_
  refine ao_read trivial (r_move rfl) rfl ?_
  obtain ⟨r1, r1h, h⟩ := is_bind h
  refine ao_callV [0] 2 trivial (c_spec_l1Cur_goal (is_mk r1h)) Try.func128 rfl rfl rfl rfl rfl ⟨rfl, trivial⟩ ⟨⟨_, rfl, ⟨ad_ren rfl, rfl, ad_ren rfl, rfl, ad_ren rfl, rfl, trivial⟩⟩, trivial⟩ rfl rfl rfl rfl rfl rfl rfl (fun r' H' hr => ?_)
  obtain ⟨rfl, rfl⟩ := hr
  refine ao_norm (y := .int .i64 r1.1) (H' := [(1, .row (.arr 6 (.int .i64)) ([] : (List (List Int)))), (0, .var [.cell (.v (.slice (.int .u8)) x0), .cell (.int .i64 r1.2.1), .cell (.int .u64 r1.2.2)])]) rfl rfl ?_
  refine ao_read trivial (r_assign rfl) rfl ?_
  refine ao_read trivial (r_assign rfl) rfl ?_
  refine ao_nil ?_
  refine aq_then ?_
  refine aw_seq ?_
  refine aw_seq ?_
  refine aw_region ?_
  refine ao_read trivial (r_move rfl) rfl ?_
  refine ao_eff trivial (e_buildSlice (l := [(0, .const (.int .i64 2)), (1, .const (.int .i64 3)), (2, .const (.int .i64 1)), (3, .const (.int .i64 4)), (4, .const (.int .i64 0)), (5, .const (.int .i64 7))]) (t := (.int .i64)) 2 ([2, 3, 1, 4, 0, 7] : (List Int)) rfl Try.underlying36 Try.zeroValue3 Try.sizeOf3 rfl rfl rfl rfl rfl rfl rfl) rfl ?_
  obtain ⟨r2, r2h, h⟩ := is_bind h
  refine ao_frz (fr' := [(0, .v (.slice (.int .u8)) x0), (2, .nilsl), (3, .int .i64 0), (8, .v (.slice (.int .u8)) x0), (9, .st [.v (.slice (.int .u8)) x0, .int .i64 0, .int .u64 0]), (10, .ref 0 0), (4, .ref 0 0), (11, .os 1), (12, .ref 0 0), (13, .int .i64 r1.1), (5, .os 1), (6, .int .i64 r1.1), (14, .ref 0 0), (15, .v (.slice (.int .i64)) ([2, 3, 1, 4, 0, 7] : (List Int)))]) (H' := [(1, .row (.arr 6 (.int .i64)) ([] : (List (List Int)))), (0, .var [.cell (.v (.slice (.int .u8)) x0), .cell (.int .i64 r1.2.1), .cell (.int .u64 r1.2.2)])]) (by exact ⟨⟨_, rfl, ad_ren rfl⟩, ⟨_, rfl, ad_ren rfl⟩, ⟨_, rfl, ad_ren rfl⟩, ⟨_, rfl, ad_ren rfl⟩, ⟨_, rfl, ad_ren rfl⟩, ⟨_, rfl, ad_ren rfl⟩, ⟨_, rfl, ad_ren rfl⟩, ⟨_, rfl, ad_ren rfl⟩, ⟨_, rfl, ad_ren rfl⟩, ⟨_, rfl, ad_ren rfl⟩, ⟨_, rfl, ad_ren rfl⟩, ⟨_, rfl, ad_ren rfl⟩, ⟨_, rfl, ad_ren rfl⟩, ⟨_, rfl, ad_osB rfl rfl⟩, trivial⟩) (by exact ⟨⟨_, rfl, rfl⟩, ⟨_, rfl, ⟨ad_ren rfl, rfl, ad_ren rfl, rfl, ad_ren rfl, rfl, trivial⟩⟩, trivial⟩) rfl ?_
  refine ao_callV [0] 3 trivial (c_spec_l1Cur_among (is_mk r2h)) Try.func112 rfl rfl rfl rfl rfl ⟨rfl, trivial⟩ ⟨⟨_, rfl, ⟨ad_ren rfl, rfl, ad_ren rfl, rfl, ad_ren rfl, rfl, trivial⟩⟩, trivial⟩ rfl rfl rfl rfl rfl rfl rfl (fun r' H' hr => ?_)
  obtain ⟨rfl, rfl⟩ := hr
  refine ao_norm (y := .int .i64 r2.1) (H' := [(1, .row (.arr 6 (.int .i64)) ([] : (List (List Int)))), (0, .var [.cell (.v (.slice (.int .u8)) x0), .cell (.int .i64 r2.2.1), .cell (.int .u64 r2.2.2)])]) rfl rfl ?_
  refine ao_read trivial (r_assign rfl) rfl ?_
  refine ao_nil ?_
  refine aq_then ?_
  refine aw_block ?_
  refine aw_loop (AL.sub (sub_mk idn (by exact ⟨⟨_, rfl, ad_ren rfl⟩, ⟨_, rfl, ad_ren rfl⟩, ⟨_, rfl, ad_ren rfl⟩, ⟨_, rfl, ad_ren rfl⟩, trivial⟩) (by exact ⟨⟨_, rfl, ⟨ad_ren rfl, rfl, ad_ren rfl, rfl, ad_ren rfl, rfl, trivial⟩⟩, ⟨_, rfl, rfl⟩, trivial⟩) (by rfl) (nk rfl)) (al_whl (fun (s3 : Int × Int × Int × (List (List Int))) => [(4, .ref 0 0), (5, .os 1), (6, .int .i64 r1.1), (7, .int .i64 s3.1)]) (fun (s3 : Int × Int × Int × (List (List Int))) => [(0, .var [.cell (.v (.slice (.int .u8)) x0), .cell (.int .i64 s3.2.1), .cell (.int .u64 s3.2.2.1)]), (1, .row (.arr 6 (.int .i64)) s3.2.2.2)]) (fun (s3 : Int × Int × Int × (List (List Int))) => True) h trivial (fun d5 s3 hI h ih5 => ?_)))
  replace h := is_whlS h
  refine al_round ?_
  refine aw_seq ?_
  refine aw_seq ?_
  refine aw_region ?_
  refine ao_read trivial (r_move rfl) rfl ?_
  refine ao_read trivial (r_gtr rfl rfl) rfl ?_
  refine ao_nil ?_
  refine aq_then ?_
  refine aw_cond rfl (fun hb7 => ?_) (fun hb7 => ?_)
  · have q8 := d_t hb7
    replace h := is_if (d_t hb7) h
    refine aw_skip ?_
    refine aq_then ?_
    refine aw_seq ?_
    refine aw_block ?_
    refine aw_region ?_
    refine ao_read trivial (r_move rfl) rfl ?_
    refine ao_read trivial (r_move rfl) rfl ?_
    obtain ⟨r10, r10h, h⟩ := is_bind h
    refine ao_callV [0] 2 trivial (c_spec_l1Cur_little (is_mk r10h)) Try.func113 rfl rfl rfl rfl rfl ⟨rfl, trivial⟩ ⟨⟨_, rfl, ⟨ad_ren rfl, rfl, ad_ren rfl, rfl, ad_ren rfl, rfl, trivial⟩⟩, trivial⟩ rfl rfl rfl rfl rfl rfl rfl (fun r' H' hr => ?_)
    obtain ⟨rfl, rfl⟩ := hr
    refine ao_norm (y := .v (.arr 6 (.int .i64)) r10.1) (H' := [(1, .row (.arr 6 (.int .i64)) s3.2.2.2), (0, .var [.cell (.v (.slice (.int .u8)) x0), .cell (.int .i64 r10.2.1), .cell (.int .u64 r10.2.2)])]) rfl rfl ?_
    refine ao_eff trivial (e_buildSlice (l := [(0, .tmp 23)]) (t := (.arr 6 (.int .i64))) 2 ([r10.1] : (List (List Int))) rfl Try.underlying24 Try.zeroValue43 Try.sizeOf43 rfl rfl rfl rfl rfl rfl rfl) rfl ?_
    obtain ⟨g11, h⟩ := is_guard h
    refine ao_eff trivial (e_append (t := (.arr 6 (.int .i64))) 3 rfl Try.underlying24 (rfl : Try.prog.info? 43 = some _) rfl rfl rfl rfl rfl rfl rfl (src_os rfl) (show s3.2.2.2.length + ([r10.1] : (List (List Int))).length ≤ 1000000000 from by (try simp only [List.length_cons, List.length_nil]) <;> omega) rfl rfl) rfl ?_
    refine ao_read trivial (r_assign rfl) rfl ?_
    refine ao_nil ?_
    refine aq_in ?_
    refine aq_then ?_
    refine aw_region ?_
    refine ao_read trivial (r_move rfl) rfl ?_
    refine ao_read trivial (r_sub rfl rfl) rfl ?_
    refine ao_read trivial (r_assign rfl) rfl ?_
    refine ao_nil ?_
    exact aq_again (AL.sub (sub_mk (rn [(1, 3)]) (by exact ⟨⟨_, rfl, ad_ren rfl⟩, ⟨_, rfl, ad_ren rfl⟩, ⟨_, rfl, ad_ren rfl⟩, ⟨_, rfl, ad_ren rfl⟩, trivial⟩) (by exact ⟨⟨_, rfl, ⟨ad_ren rfl, rfl, ad_ren rfl, rfl, ad_ren rfl, rfl, trivial⟩⟩, ⟨_, rfl, rfl⟩, trivial⟩) (by rfl) (nk rfl)) (ih5 ((IntKind.wrap .i64 (s3.1 - 1)), r10.2.1, r10.2.2, (s3.2.2.2 ++ [r10.1])) trivial h))
  · have q9 := d_f hb7
    replace h := is_else (d_f hb7) h
    refine aw_exit ?_
    refine aq_then_exit ?_
    refine aq_then_exit ?_
    refine aq_in_exit ?_
    refine aq_then ?_
    refine aw_seq ?_
    refine aw_region ?_
    refine ao_read trivial (r_move rfl) rfl ?_
    refine ao_read trivial (r_move rfl) rfl ?_
    refine ao_read trivial (r_assign rfl) rfl ?_
    refine ao_read trivial (r_assign rfl) rfl ?_
    refine ao_nil ?_
    refine aq_then ?_
    refine aw_ret ?_
    refine aq_ret ?_
    obtain rfl := is_some h
    exact aq_finx (l := [.tmp 2, .tmp 3]) (xs := [.os 1, .int .i64 r1.1]) (rn [(0, 1)]) [.os 0, .int .i64 r1.1] [(0, .row (.arr 6 (.int .i64)) s3.2.2.2)] rfl (by exact ⟨rfl, rfl, trivial⟩) (by exact ⟨ad_ren rfl, ad_ren rfl, trivial⟩) (by exact ⟨⟨_, rfl, rfl⟩, trivial⟩) rfl (nk rfl) rfl rfl ⟨rfl, rfl⟩
theorem c_impl_areAll_6_int_1 {x0 : (List Int)} {r : Bool} (h : Is (p_impl_areAll_6_int_1 x0) r) :
    Scalar Try.prog 166 [.v (.arr 6 (.int .i64)) x0, .cav (.fn 111 [])] (.bool r) := by
  unfold p_impl_areAll_6_int_1 at h
  refine ac_enter ⟨8, 0⟩ Try.func166 rfl rfl rfl rfl rfl (fun Γ => ?_)
  refine aw_seq ?_
  refine aw_region ?_
  refine ao_eff trivial (e_box 0 rfl rfl rfl rfl rfl rfl) rfl ?_
  refine ao_read trivial (r_assign rfl) rfl ?_
  refine ao_nil ?_
  refine aq_then ?_
  refine aw_seq ?_
  refine aw_region ?_
  refine ao_read trivial (r_load_cav Try.isAgg116 rfl) rfl ?_
  refine ao_read trivial (r_load_arr rfl Try.isAgg43 Try.sizeOf43 rfl rfl rfl) rfl ?_
  refine ao_scall trivial (scall (c_impl_IsDie (is_mk (rfl : p_impl_IsDie x0 = _))) rfl Try.func111 rfl rfl rfl rfl (fun σ => ⟨ad_ren rfl, trivial⟩)) rfl ?_
  refine ao_read trivial (r_not rfl) rfl ?_
  refine ao_read trivial (r_assign rfl) rfl ?_
  refine ao_nil ?_
  refine aq_then ?_
  refine aw_ret ?_
  refine aq_ret ?_
  obtain rfl := is_eq h
  exact aq_finx (l := [.tmp 3]) (xs := [.bool (!(p_impl_IsDie x0))]) idn [.bool (!(p_impl_IsDie x0))] [] rfl (by exact ⟨rfl, trivial⟩) (by exact ⟨ad_ren rfl, trivial⟩) (by exact trivial) rfl (nk rfl) rfl rfl ⟨rfl, rfl⟩
theorem c_slices_IndexFunc_6_int_6_int {x0 : (List (List Int))} {r : Int} (h : Is (p_slices_IndexFunc_6_int_6_int x0) r) :
    Scalar Try.prog 181 [.v (.slice (.arr 6 (.int .i64))) x0, .fn 166 [.cav (.fn 111 [])]] (.int .i64 r) := by
  unfold p_slices_IndexFunc_6_int_6_int at h
  refine ac_enter ⟨19, 0⟩ Try.func181 rfl rfl rfl rfl rfl (fun Γ => ?_)
  refine sl_len_m 0 (x0.length : Int) rfl rfl (fun hl0 => ?_)
  refine aw_seq ?_
  refine aw_region ?_
  refine ao_read trivial (r_assign rfl) rfl ?_
  refine ao_nil ?_
  refine aq_then ?_
  refine aw_seq ?_
  refine aw_seq ?_
  refine aw_region ?_
  refine ao_read trivial (r_move rfl) rfl ?_
  refine ao_read trivial (r_len_vm (x0.length : Int) Try.underlying24 rfl rfl) rfl ?_
  refine ao_read trivial (r_move rfl) rfl ?_
  refine ao_nil ?_
  refine aq_then ?_
  refine aw_block ?_
  refine aw_loop (AL.sub (fr' := [(0, .v (.slice (.arr 6 (.int .i64))) x0), (1, .fn 166 [.cav (.fn 111 [])]), (7, .int .i64 (x0.length : Int)), (8, .int .i64 0)]) (H' := []) (sub_mk idn (by exact ⟨⟨_, rfl, ad_ren rfl⟩, ⟨_, rfl, ad_ren rfl⟩, ⟨_, rfl, ad_ren rfl⟩, ⟨_, rfl, ad_ren rfl⟩, trivial⟩) (by exact trivial) (by rfl) (nk rfl)) (al_cnt (fun i2 (s1 : Unit) => [(0, .v (.slice (.arr 6 (.int .i64))) x0), (1, .fn 166 [.cav (.fn 111 [])]), (7, .int .i64 (x0.length : Int)), (8, .int .i64 i2)]) (fun i2 (s1 : Unit) => []) (fun d i2 (s1 : Unit) => d = Int.toNat ((x0.length : Int) - i2) ∧ 0 ≤ i2 ∧ i2 ≤ (x0.length : Int)) h ⟨rfl, (by (try simp only [List.length_set, List.length_append, List.length_cons, List.length_nil, List.length_replicate, List.length_take, List.length_drop]) <;> omega), (by (try simp only [List.length_set, List.length_append, List.length_cons, List.length_nil, List.length_replicate, List.length_take, List.length_drop]) <;> omega)⟩ (fun d3 i2 s1 hI h ih3 => ?_)))
  obtain ⟨hd, _, _⟩ := hI
  refine al_round ?_
  refine aw_seq ?_
  refine aw_region ?_
  refine ao_read trivial (r_lss rfl rfl) rfl ?_
  refine ao_nil ?_
  refine aq_then ?_
  refine aw_seq ?_
  refine aw_cond rfl (fun hb5 => ?_) (fun hb5 => ?_)
  · have q6 := d_t hb5
    obtain ⟨d3, rfl⟩ : ∃ e, d3 = e + 1 := ⟨d3 - 1, by omega⟩
    replace h := is_cntS h
    refine aw_skip ?_
    refine aq_then ?_
    refine aw_seq ?_
    refine aw_block ?_
    refine aw_seq ?_
    refine aw_region ?_
    refine ao_read trivial (r_move rfl) rfl ?_
    refine ao_read trivial (r_assign rfl) rfl ?_
    refine ao_nil ?_
    refine aq_then ?_
    refine aw_seq ?_
    refine aw_region ?_
    refine ao_read trivial (r_move rfl) rfl ?_
    refine ao_read trivial (r_move rfl) rfl ?_
    refine ao_read trivial (r_move rfl) rfl ?_
    refine ao_read trivial (r_idxAddr (t := (.arr 6 (.int .i64))) Try.underlying24 Try.sizeOf43 rfl rfl (show 0 ≤ i2 from by omega) (show i2 < (x0.length : Int) from by omega)) rfl ?_
    refine ao_read trivial (r_load_c (t := (.arr 6 (.int .i64))) Try.isAgg43 Try.sizeOf43 rfl) rfl ?_
    refine ao_scall trivial (scall (c_impl_areAll_6_int_1 (is_mk (rfl : p_impl_areAll_6_int_1 (x0.getD i2.toNat (List.replicate 6 0)) = _))) rfl Try.func166 rfl rfl rfl rfl (fun σ => ⟨ad_ren rfl, ad_ren rfl, trivial⟩)) rfl ?_
    refine ao_nil ?_
    refine aq_then ?_
    refine aw_cond rfl (fun hb8 => ?_) (fun hb8 => ?_)
    · replace h := is_if hb8 h
      refine aw_seq ?_
      refine aw_region ?_
      refine ao_read trivial (r_move rfl) rfl ?_
      refine ao_read trivial (r_assign rfl) rfl ?_
      refine ao_nil ?_
      refine aq_then ?_
      refine aw_ret ?_
      refine aq_in_ret ?_
      refine aq_then_ret ?_
      refine aq_then_ret ?_
      refine aq_in_ret ?_
      refine aq_then_ret ?_
      refine aq_ret ?_
      obtain rfl := is_eq h
      exact aq_finx (l := [.tmp 4]) (xs := [.int .i64 i2]) idn [.int .i64 i2] [] rfl (by exact ⟨rfl, trivial⟩) (by exact ⟨ad_ren rfl, trivial⟩) (by exact trivial) rfl (nk rfl) rfl rfl ⟨rfl, rfl⟩
    · replace h := is_else (ne_t hb8) h
      refine aw_skip ?_
      refine aq_in ?_
      refine aq_then ?_
      refine aw_region ?_
      refine ao_read trivial (r_addI rfl rfl (wrap_id (by omega) (by omega))) rfl ?_
      refine ao_read trivial (r_move rfl) rfl ?_
      refine ao_nil ?_
      exact aq_again (AL.sub (sub_mk idn (by exact ⟨⟨_, rfl, ad_ren rfl⟩, ⟨_, rfl, ad_ren rfl⟩, ⟨_, rfl, ad_ren rfl⟩, ⟨_, rfl, ad_ren rfl⟩, trivial⟩) (by exact trivial) (by rfl) (nk rfl)) (ih3 d3 (i2 + 1) () (by omega) ⟨by omega, (by (try simp only [List.length_set, List.length_append, List.length_cons, List.length_nil, List.length_replicate, List.length_take, List.length_drop]) <;> omega), (by (try simp only [List.length_set, List.length_append, List.length_cons, List.length_nil, List.length_replicate, List.length_take, List.length_drop]) <;> omega)⟩ h))
  · have q7 := d_f hb5
    obtain rfl : d3 = 0 := by omega
    replace h := is_cnt0 h
    refine aw_exit ?_
    refine aq_then_exit ?_
    refine aq_then_exit ?_
    refine aq_in_exit ?_
    refine aq_then ?_
    refine aw_seq ?_
    refine aw_region ?_
    refine ao_read trivial (r_assign rfl) rfl ?_
    refine ao_nil ?_
    refine aq_then ?_
    refine aw_ret ?_
    refine aq_ret ?_
    obtain rfl := is_eq h
    exact aq_finx (l := [.tmp 4]) (xs := [.int .i64 (-1)]) idn [.int .i64 (-1)] [] rfl (by exact ⟨rfl, trivial⟩) (by exact ⟨ad_ren rfl, trivial⟩) (by exact trivial) rfl (nk rfl) rfl rfl ⟨rfl, rfl⟩
theorem c_slices_ContainsFunc_6_int_6_int {x0 : (List (List Int))} {r : Bool} (h : Is (p_slices_ContainsFunc_6_int_6_int x0) r) :
    Scalar Try.prog 165 [.v (.slice (.arr 6 (.int .i64))) x0, .fn 166 [.cav (.fn 111 [])]] (.bool r) := by
  unfold p_slices_ContainsFunc_6_int_6_int at h
  refine ac_enter ⟨9, 0⟩ Try.func165 rfl rfl rfl rfl rfl (fun Γ => ?_)
  refine sl_len_m 0 (x0.length : Int) rfl rfl (fun hl0 => ?_)
  refine aw_seq ?_
  refine aw_region ?_
  refine ao_read trivial (r_assign rfl) rfl ?_
  refine ao_nil ?_
  refine aq_then ?_
  refine aw_seq ?_
  refine aw_region ?_
  refine ao_read trivial (r_move rfl) rfl ?_
  refine ao_read trivial (r_move rfl) rfl ?_
  refine ao_scall trivial (scall (c_slices_IndexFunc_6_int_6_int (is_mk (rfl : p_slices_IndexFunc_6_int_6_int x0 = _))) rfl Try.func181 rfl rfl rfl rfl (fun σ => ⟨ad_ren rfl, ad_ren rfl, trivial⟩)) rfl ?_
  refine ao_read trivial (r_geq rfl rfl) rfl ?_
  refine ao_read trivial (r_assign rfl) rfl ?_
  refine ao_nil ?_
  refine aq_then ?_
  refine aw_ret ?_
  refine aq_ret ?_
  obtain rfl := is_eq h
  exact aq_finx (l := [.tmp 4]) (xs := [.bool (decide (0 ≤ (p_slices_IndexFunc_6_int_6_int x0)))]) idn [.bool (decide (0 ≤ (p_slices_IndexFunc_6_int_6_int x0)))] [] rfl (by exact ⟨rfl, trivial⟩) (by exact ⟨ad_ren rfl, trivial⟩) (by exact trivial) rfl (nk rfl) rfl rfl ⟨rfl, rfl⟩
theorem c_impl_areAll_6_int {x0 : (List (List Int))} {r : Bool} (h : Is (p_impl_areAll_6_int x0) r) :
    Scalar Try.prog 110 [.v (.slice (.arr 6 (.int .i64))) x0, .fn 111 []] (.bool r) := by
  unfold p_impl_areAll_6_int at h
  refine ac_enter ⟨9, 0⟩ Try.func110 rfl rfl rfl rfl rfl (fun Γ => ?_)
  refine sl_len_m 0 (x0.length : Int) rfl rfl (fun hl0 => ?_)
  refine aw_seq ?_
  refine aw_region ?_
  refine ao_eff trivial (e_box 0 rfl rfl rfl rfl rfl rfl) rfl ?_
  refine ao_read trivial (r_assign rfl) rfl ?_
  refine ao_nil ?_
  refine aq_then ?_
  refine aw_seq ?_
  refine aw_region ?_
  refine ao_read trivial (r_move rfl) rfl ?_
  refine ao_read trivial (r_makeFunc (cs := [.tmp 3]) rfl) rfl ?_
  refine ao_scall trivial (scall (c_slices_ContainsFunc_6_int_6_int (is_mk (rfl : p_slices_ContainsFunc_6_int_6_int x0 = _))) rfl Try.func165 rfl rfl rfl rfl (fun σ => ⟨ad_ren rfl, ad_fn ⟨ad_refc0 rfl rfl (ad_ren rfl) rfl, trivial⟩, trivial⟩)) rfl ?_
  refine ao_read trivial (r_not rfl) rfl ?_
  refine ao_read trivial (r_assign rfl) rfl ?_
  refine ao_nil ?_
  refine aq_then ?_
  refine aw_ret ?_
  refine aq_ret ?_
  obtain rfl := is_eq h
  exact aq_finx (l := [.tmp 4]) (xs := [.bool (!(p_slices_ContainsFunc_6_int_6_int x0))]) idn [.bool (!(p_slices_ContainsFunc_6_int_6_int x0))] [] rfl (by exact ⟨rfl, trivial⟩) (by exact ⟨ad_ren rfl, trivial⟩) (by exact trivial) rfl (nk rfl) rfl rfl ⟨rfl, rfl⟩
theorem c_impl_isRow {x0 : (List (List Int))} {r : Bool} (h : Is (p_impl_isRow x0) r) :
    Scalar Try.prog 135 [.v (.slice (.arr 6 (.int .i64))) x0] (.bool r) := by
  unfold p_impl_isRow at h
  refine ac_enter ⟨10, 0⟩ Try.func135 rfl rfl rfl rfl rfl (fun Γ => ?_)
  refine sl_len_m 0 (x0.length : Int) rfl rfl (fun hl0 => ?_)
  refine aw_seq ?_
  refine aw_region ?_
  refine ao_read trivial (r_assign rfl) rfl ?_
  refine ao_nil ?_
  refine aq_then ?_
  refine aw_seq ?_
  refine aw_region ?_
  refine ao_read trivial (r_move rfl) rfl ?_
  refine ao_read trivial (r_len_vm (x0.length : Int) Try.underlying24 rfl rfl) rfl ?_
  refine ao_scall trivial (scall (c_impl_within (is_mk (rfl : p_impl_within (x0.length : Int) 1 6 = _))) rfl Try.func101 rfl rfl rfl rfl (fun σ => ⟨ad_ren rfl, ad_ren rfl, ad_ren rfl, trivial⟩)) rfl ?_
  refine ao_read trivial (r_move rfl) rfl ?_
  refine ao_readG (x := .v (.slice (.arr 6 (.int .i64))) x0) rfl (GV.T rfl) (fun hg1 => r_move rfl) rfl ?_
  refine ao_scallG (r := .bool (p_impl_areAll_6_int x0)) rfl (GV.T rfl) (fun hg2 => SCall.strip 7 rfl (hg2) (scall (c_impl_areAll_6_int (is_mk (rfl : p_impl_areAll_6_int x0 = _))) rfl Try.func110 rfl rfl rfl rfl (fun σ => ⟨ad_ren rfl, ad_ren rfl, trivial⟩))) rfl ?_
  refine ao_read trivial (r_andB rfl rfl) rfl ?_
  refine ao_read trivial (r_assign rfl) rfl ?_
  refine ao_nil ?_
  refine aq_then ?_
  refine aw_ret ?_
  refine aq_ret ?_
  obtain rfl := is_eq h
  exact aq_finx (l := [.tmp 2]) (xs := [.bool ((p_impl_within (x0.length : Int) 1 6) && (p_impl_areAll_6_int x0))]) idn [.bool ((p_impl_within (x0.length : Int) 1 6) && (p_impl_areAll_6_int x0))] [] rfl (by exact ⟨rfl, trivial⟩) (by exact ⟨ad_ren rfl, trivial⟩) (by exact trivial) rfl (nk rfl) rfl rfl ⟨rfl, rfl⟩
theorem c_impl_areAll_6_int_1v1 {x0 : (List Int)} {r : Bool} (h : Is (p_impl_areAll_6_int_1v1 x0) r) :
    Scalar Try.prog 166 [.v (.arr 6 (.int .i64)) x0, .cav (.fn 124 [])] (.bool r) := by
  unfold p_impl_areAll_6_int_1v1 at h
  refine ac_enter ⟨8, 0⟩ Try.func166 rfl rfl rfl rfl rfl (fun Γ => ?_)
  refine aw_seq ?_
  refine aw_region ?_
  refine ao_eff trivial (e_box 0 rfl rfl rfl rfl rfl rfl) rfl ?_
  refine ao_read trivial (r_assign rfl) rfl ?_
  refine ao_nil ?_
  refine aq_then ?_
  refine aw_seq ?_
  refine aw_region ?_
  refine ao_read trivial (r_load_cav Try.isAgg116 rfl) rfl ?_
  refine ao_read trivial (r_load_arr rfl Try.isAgg43 Try.sizeOf43 rfl rfl rfl) rfl ?_
  refine ao_scall trivial (scall (c_impl_isRunner (is_mk (rfl : p_impl_isRunner x0 = _))) rfl Try.func124 rfl rfl rfl rfl (fun σ => ⟨ad_ren rfl, trivial⟩)) rfl ?_
  refine ao_read trivial (r_not rfl) rfl ?_
  refine ao_read trivial (r_assign rfl) rfl ?_
  refine ao_nil ?_
  refine aq_then ?_
  refine aw_ret ?_
  refine aq_ret ?_
  obtain rfl := is_eq h
  exact aq_finx (l := [.tmp 3]) (xs := [.bool (!(p_impl_isRunner x0))]) idn [.bool (!(p_impl_isRunner x0))] [] rfl (by exact ⟨rfl, trivial⟩) (by exact ⟨ad_ren rfl, trivial⟩) (by exact trivial) rfl (nk rfl) rfl rfl ⟨rfl, rfl⟩
theorem c_slices_IndexFunc_6_int_6_intv1 {x0 : (List (List Int))} {r : Int} (h : Is (p_slices_IndexFunc_6_int_6_intv1 x0) r) :
    Scalar Try.prog 181 [.v (.slice (.arr 6 (.int .i64))) x0, .fn 166 [.cav (.fn 124 [])]] (.int .i64 r) := by
  unfold p_slices_IndexFunc_6_int_6_intv1 at h
  refine ac_enter ⟨19, 0⟩ Try.func181 rfl rfl rfl rfl rfl (fun Γ => ?_)
  refine sl_len_m 0 (x0.length : Int) rfl rfl (fun hl0 => ?_)
  refine aw_seq ?_
  refine aw_region ?_
  refine ao_read trivial (r_assign rfl) rfl ?_
  refine ao_nil ?_
  refine aq_then ?_
  refine aw_seq ?_
  refine aw_seq ?_
  refine aw_region ?_
  refine ao_read trivial (r_move rfl) rfl ?_
  refine ao_read trivial (r_len_vm (x0.length : Int) Try.underlying24 rfl rfl) rfl ?_
  refine ao_read trivial (r_move rfl) rfl ?_
  refine ao_nil ?_
  refine aq_then ?_
  refine aw_block ?_
  refine aw_loop (AL.sub (fr' := [(0, .v (.slice (.arr 6 (.int .i64))) x0), (1, .fn 166 [.cav (.fn 124 [])]), (7, .int .i64 (x0.length : Int)), (8, .int .i64 0)]) (H' := []) (sub_mk idn (by exact ⟨⟨_, rfl, ad_ren rfl⟩, ⟨_, rfl, ad_ren rfl⟩, ⟨_, rfl, ad_ren rfl⟩, ⟨_, rfl, ad_ren rfl⟩, trivial⟩) (by exact trivial) (by rfl) (nk rfl)) (al_cnt (fun i2 (s1 : Unit) => [(0, .v (.slice (.arr 6 (.int .i64))) x0), (1, .fn 166 [.cav (.fn 124 [])]), (7, .int .i64 (x0.length : Int)), (8, .int .i64 i2)]) (fun i2 (s1 : Unit) => []) (fun d i2 (s1 : Unit) => d = Int.toNat ((x0.length : Int) - i2) ∧ 0 ≤ i2 ∧ i2 ≤ (x0.length : Int)) h ⟨rfl, (by (try simp only [List.length_set, List.length_append, List.length_cons, List.length_nil, List.length_replicate, List.length_take, List.length_drop]) <;> omega), (by (try simp only [List.length_set, List.length_append, List.length_cons, List.length_nil, List.length_replicate, List.length_take, List.length_drop]) <;> omega)⟩ (fun d3 i2 s1 hI h ih3 => ?_)))
  obtain ⟨hd, _, _⟩ := hI
  refine al_round ?_
  refine aw_seq ?_
  refine aw_region ?_
  refine ao_read trivial (r_lss rfl rfl) rfl ?_
  refine ao_nil ?_
  refine aq_then ?_
  refine aw_seq ?_
  refine aw_cond rfl (fun hb5 => ?_) (fun hb5 => ?_)
  · have q6 := d_t hb5
    obtain ⟨d3, rfl⟩ : ∃ e, d3 = e + 1 := ⟨d3 - 1, by omega⟩
    replace h := is_cntS h
    refine aw_skip ?_
    refine aq_then ?_
    refine aw_seq ?_
    refine aw_block ?_
    refine aw_seq ?_
    refine aw_region ?_
    refine ao_read trivial (r_move rfl) rfl ?_
    refine ao_read trivial (r_assign rfl) rfl ?_
    refine ao_nil ?_
    refine aq_then ?_
    refine aw_seq ?_
    refine aw_region ?_
    refine ao_read trivial (r_move rfl) rfl ?_
    refine ao_read trivial (r_move rfl) rfl ?_
    refine ao_read trivial (r_move rfl) rfl ?_
    refine ao_read trivial (r_idxAddr (t := (.arr 6 (.int .i64))) Try.underlying24 Try.sizeOf43 rfl rfl (show 0 ≤ i2 from by omega) (show i2 < (x0.length : Int) from by omega)) rfl ?_
    refine ao_read trivial (r_load_c (t := (.arr 6 (.int .i64))) Try.isAgg43 Try.sizeOf43 rfl) rfl ?_
    refine ao_scall trivial (scall (c_impl_areAll_6_int_1v1 (is_mk (rfl : p_impl_areAll_6_int_1v1 (x0.getD i2.toNat (List.replicate 6 0)) = _))) rfl Try.func166 rfl rfl rfl rfl (fun σ => ⟨ad_ren rfl, ad_ren rfl, trivial⟩)) rfl ?_
    refine ao_nil ?_
    refine aq_then ?_
    refine aw_cond rfl (fun hb8 => ?_) (fun hb8 => ?_)
    · replace h := is_if hb8 h
      refine aw_seq ?_
      refine aw_region ?_
      refine ao_read trivial (r_move rfl) rfl ?_
      refine ao_read trivial (r_assign rfl) rfl ?_
      refine ao_nil ?_
      refine aq_then ?_
      refine aw_ret ?_
      refine aq_in_ret ?_
      refine aq_then_ret ?_
      refine aq_then_ret ?_
      refine aq_in_ret ?_
      refine aq_then_ret ?_
      refine aq_ret ?_
      obtain rfl := is_eq h
      exact aq_finx (l := [.tmp 4]) (xs := [.int .i64 i2]) idn [.int .i64 i2] [] rfl (by exact ⟨rfl, trivial⟩) (by exact ⟨ad_ren rfl, trivial⟩) (by exact trivial) rfl (nk rfl) rfl rfl ⟨rfl, rfl⟩
    · replace h := is_else (ne_t hb8) h
      refine aw_skip ?_
      refine aq_in ?_
      refine aq_then ?_
      refine aw_region ?_
      refine ao_read trivial (r_addI rfl rfl (wrap_id (by omega) (by omega))) rfl ?_
      refine ao_read trivial (r_move rfl) rfl ?_
      refine ao_nil ?_
      exact aq_again (AL.sub (sub_mk idn (by exact ⟨⟨_, rfl, ad_ren rfl⟩, ⟨_, rfl, ad_ren rfl⟩, ⟨_, rfl, ad_ren rfl⟩, ⟨_, rfl, ad_ren rfl⟩, trivial⟩) (by exact trivial) (by rfl) (nk rfl)) (ih3 d3 (i2 + 1) () (by omega) ⟨by omega, (by (try simp only [List.length_set, List.length_append, List.length_cons, List.length_nil, List.length_replicate, List.length_take, List.length_drop]) <;> omega), (by (try simp only [List.length_set, List.length_append, List.length_cons, List.length_nil, List.length_replicate, List.length_take, List.length_drop]) <;> omega)⟩ h))
  · have q7 := d_f hb5
    obtain rfl : d3 = 0 := by omega
    replace h := is_cnt0 h
    refine aw_exit ?_
    refine aq_then_exit ?_
    refine aq_then_exit ?_
    refine aq_in_exit ?_
    refine aq_then ?_
    refine aw_seq ?_
    refine aw_region ?_
    refine ao_read trivial (r_assign rfl) rfl ?_
    refine ao_nil ?_
    refine aq_then ?_
    refine aw_ret ?_
    refine aq_ret ?_
    obtain rfl := is_eq h
    exact aq_finx (l := [.tmp 4]) (xs := [.int .i64 (-1)]) idn [.int .i64 (-1)] [] rfl (by exact ⟨rfl, trivial⟩) (by exact ⟨ad_ren rfl, trivial⟩) (by exact trivial) rfl (nk rfl) rfl rfl ⟨rfl, rfl⟩
theorem c_slices_ContainsFunc_6_int_6_intv1 {x0 : (List (List Int))} {r : Bool} (h : Is (p_slices_ContainsFunc_6_int_6_intv1 x0) r) :
    Scalar Try.prog 165 [.v (.slice (.arr 6 (.int .i64))) x0, .fn 166 [.cav (.fn 124 [])]] (.bool r) := by
  unfold p_slices_ContainsFunc_6_int_6_intv1 at h
  refine ac_enter ⟨9, 0⟩ Try.func165 rfl rfl rfl rfl rfl (fun Γ => ?_)
  refine sl_len_m 0 (x0.length : Int) rfl rfl (fun hl0 => ?_)
  refine aw_seq ?_
  refine aw_region ?_
  refine ao_read trivial (r_assign rfl) rfl ?_
  refine ao_nil ?_
  refine aq_then ?_
  refine aw_seq ?_
  refine aw_region ?_
  refine ao_read trivial (r_move rfl) rfl ?_
  refine ao_read trivial (r_move rfl) rfl ?_
  refine ao_scall trivial (scall (c_slices_IndexFunc_6_int_6_intv1 (is_mk (rfl : p_slices_IndexFunc_6_int_6_intv1 x0 = _))) rfl Try.func181 rfl rfl rfl rfl (fun σ => ⟨ad_ren rfl, ad_ren rfl, trivial⟩)) rfl ?_
  refine ao_read trivial (r_geq rfl rfl) rfl ?_
  refine ao_read trivial (r_assign rfl) rfl ?_
  refine ao_nil ?_
  refine aq_then ?_
  refine aw_ret ?_
  refine aq_ret ?_
  obtain rfl := is_eq h
  exact aq_finx (l := [.tmp 4]) (xs := [.bool (decide (0 ≤ (p_slices_IndexFunc_6_int_6_intv1 x0)))]) idn [.bool (decide (0 ≤ (p_slices_IndexFunc_6_int_6_intv1 x0)))] [] rfl (by exact ⟨rfl, trivial⟩) (by exact ⟨ad_ren rfl, trivial⟩) (by exact trivial) rfl (nk rfl) rfl rfl ⟨rfl, rfl⟩
theorem c_impl_areAll_6_intv1 {x0 : (List (List Int))} {r : Bool} (h : Is (p_impl_areAll_6_intv1 x0) r) :
    Scalar Try.prog 110 [.v (.slice (.arr 6 (.int .i64))) x0, .fn 124 []] (.bool r) := by
  unfold p_impl_areAll_6_intv1 at h
  refine ac_enter ⟨9, 0⟩ Try.func110 rfl rfl rfl rfl rfl (fun Γ => ?_)
  refine sl_len_m 0 (x0.length : Int) rfl rfl (fun hl0 => ?_)
  refine aw_seq ?_
  refine aw_region ?_
  refine ao_eff trivial (e_box 0 rfl rfl rfl rfl rfl rfl) rfl ?_
  refine ao_read trivial (r_assign rfl) rfl ?_
  refine ao_nil ?_
  refine aq_then ?_
  refine aw_seq ?_
  refine aw_region ?_
  refine ao_read trivial (r_move rfl) rfl ?_
  refine ao_read trivial (r_makeFunc (cs := [.tmp 3]) rfl) rfl ?_
  refine ao_scall trivial (scall (c_slices_ContainsFunc_6_int_6_intv1 (is_mk (rfl : p_slices_ContainsFunc_6_int_6_intv1 x0 = _))) rfl Try.func165 rfl rfl rfl rfl (fun σ => ⟨ad_ren rfl, ad_fn ⟨ad_refc0 rfl rfl (ad_ren rfl) rfl, trivial⟩, trivial⟩)) rfl ?_
  refine ao_read trivial (r_not rfl) rfl ?_
  refine ao_read trivial (r_assign rfl) rfl ?_
  refine ao_nil ?_
  refine aq_then ?_
  refine aw_ret ?_
  refine aq_ret ?_
  obtain rfl := is_eq h
  exact aq_finx (l := [.tmp 4]) (xs := [.bool (!(p_slices_ContainsFunc_6_int_6_intv1 x0))]) idn [.bool (!(p_slices_ContainsFunc_6_int_6_intv1 x0))] [] rfl (by exact ⟨rfl, trivial⟩) (by exact ⟨ad_ren rfl, trivial⟩) (by exact trivial) rfl (nk rfl) rfl rfl ⟨rfl, rfl⟩
theorem c_impl_BestRunner {fu : Nat} {x0 : (List (List Int))} {x1 : Int} {r : Int × (List Int) × Bool} (h : Is (p_impl_BestRunner fu x0 x1) (some r)) :
    Scalar Try.prog 62 [.v (.slice (.arr 6 (.int .i64))) x0, .int .i64 x1] (.tup [.int .i64 r.1, .v (.arr 2 (.int .i64)) r.2.1, .bool r.2.2]) := by
  unfold p_impl_BestRunner at h
  refine ac_enter ⟨53, 0⟩ Try.func62 rfl rfl rfl rfl rfl (fun Γ => ?_)
  refine sl_len_m 0 (x0.length : Int) rfl rfl (fun hl0 => ?_)
  refine aw_seq ?_
  refine aw_region ?_
  refine ao_read trivial (r_assign rfl) rfl ?_
  refine ao_eff trivial (e_alloc 0 (y := .v (.arr 2 (.int .i64)) ((List.replicate 2 0) : (List Int))) Try.zeroValue30 (fun ρ h M => ra_zero_arr (t := (.int .i64)) rfl) rfl rfl rfl rfl rfl) rfl ?_
  refine ao_read trivial (r_assign rfl) rfl ?_
  refine ao_nil ?_
  refine aq_then ?_
  refine aw_seq ?_
  refine aw_seq ?_
  refine aw_region ?_
  refine ao_read trivial (r_move rfl) rfl ?_
  refine ao_scall trivial (scall (c_impl_isRow (is_mk (rfl : p_impl_isRow x0 = _))) rfl Try.func135 rfl rfl rfl rfl (fun σ => ⟨ad_ren rfl, trivial⟩)) rfl ?_
  refine ao_read trivial (r_not rfl) rfl ?_
  refine ao_read trivial (r_move rfl) rfl ?_
  refine ao_readG (x := .v (.slice (.arr 6 (.int .i64))) x0) rfl (GV.F rfl) (fun hg1 => r_move rfl) rfl ?_
  refine ao_scallG (r := .bool (p_impl_areAll_6_intv1 x0)) rfl (GV.F rfl) (fun hg2 => SCall.strip 14 rfl (hg2) (scall (c_impl_areAll_6_intv1 (is_mk (rfl : p_impl_areAll_6_intv1 x0 = _))) rfl Try.func110 rfl rfl rfl rfl (fun σ => ⟨ad_ren rfl, ad_ren rfl, trivial⟩))) rfl ?_
  refine ao_readG (x := .bool (!(p_impl_areAll_6_intv1 x0))) rfl (GV.F rfl) (fun hg3 => Reads.strip 15 rfl (hg3) (r_not rfl)) rfl ?_
  refine ao_read trivial (r_orB rfl rfl) rfl ?_
  refine ao_read trivial (r_move rfl) rfl ?_
  refine ao_readG (x := .int .i64 x1) rfl (GV.F rfl) (fun hg4 => by
        obtain ⟨q5, q6⟩ := or_f (not_t hg4)
        exact r_move rfl) rfl ?_
  refine ao_scallG (r := .bool (p_impl_isGoal x1)) rfl (GV.F rfl) (fun hg7 => by
        obtain ⟨q8, q9⟩ := or_f (not_t hg7)
        exact SCall.strip 19 rfl (hg7) (scall (c_impl_isGoal (is_mk (rfl : p_impl_isGoal x1 = _))) rfl Try.func125 rfl rfl rfl rfl (fun σ => ⟨ad_ren rfl, trivial⟩))) rfl ?_
  refine ao_readG (x := .bool (!(p_impl_isGoal x1))) rfl (GV.F rfl) (fun hg10 => by
        obtain ⟨q11, q12⟩ := or_f (not_t hg10)
        exact Reads.strip 20 rfl (hg10) (r_not rfl)) rfl ?_
  refine ao_read trivial (r_orB rfl rfl) rfl ?_
  refine ao_nil ?_
  refine aq_then ?_
  refine aw_cond rfl (fun hb13 => ?_) (fun hb13 => ?_)
  · replace h := is_if hb13 h
    refine aw_seq ?_
    refine aw_region ?_
    refine ao_read trivial (r_build_zero (t := (.int .i64)) Try.underlying30 Try.zeroValue30 Try.sizeOf3 rfl) rfl ?_
    refine ao_read trivial (r_assign rfl) rfl ?_
    refine ao_effS trivial (e_store rfl rfl rfl rfl Try.sizeOf30 rfl) ?_
    refine ao_read trivial (r_assign rfl) rfl ?_
    refine ao_nil ?_
    refine aq_then ?_
    refine aw_ret ?_
    refine aq_then_ret ?_
    refine aq_ret ?_
    obtain rfl := is_some h
    exact aq_finx (l := [.tmp 4, .cell 5 30, .tmp 6]) (xs := [.int .i64 0, .v (.arr 2 (.int .i64)) ((List.replicate 2 0) : (List Int)), .bool false]) idn [.int .i64 0, .v (.arr 2 (.int .i64)) ((List.replicate 2 0) : (List Int)), .bool false] [] rfl (by exact ⟨rfl, ⟨⟨_, _, rfl⟩, r_load_arr rfl Try.isAgg30 Try.sizeOf30 rfl rfl rfl⟩, rfl, trivial⟩) (by exact ⟨ad_ren rfl, ad_ren rfl, ad_ren rfl, trivial⟩) (by exact trivial) rfl (nk rfl) rfl rfl ⟨rfl, rfl⟩
  · obtain ⟨q14, q15⟩ := or_f hb13
    obtain ⟨q16, q17⟩ := or_f q14
    replace h := is_else (ne_t hb13) h
    refine aw_skip ?_
    refine aq_then ?_
    refine aw_seq ?_
    refine aw_region ?_
    refine ao_read trivial (r_assign rfl) rfl ?_
    refine ao_nil ?_
    refine aq_then ?_
    refine aw_seq ?_
    refine aw_seq ?_
    refine aw_region ?_
    refine ao_read trivial (r_move rfl) rfl ?_
    refine ao_read trivial (r_len_vm (x0.length : Int) Try.underlying24 rfl rfl) rfl ?_
    refine ao_read trivial (r_move rfl) rfl ?_
    refine ao_nil ?_
    refine aq_then ?_
    refine aw_block ?_
    refine aw_loop (AL.sub (fr' := [(0, .v (.slice (.arr 6 (.int .i64))) x0), (1, .int .i64 x1), (5, .ref 0 0), (7, .int .i64 0), (24, .v (.slice (.arr 6 (.int .i64))) x0), (25, .int .i64 (x0.length : Int)), (26, .int .i64 0)]) (H' := [(0, .var [.arr (.int .i64) 2 ((List.replicate 2 0) : (List Int))])]) (sub_mk idn (by exact ⟨⟨_, rfl, ad_ren rfl⟩, ⟨_, rfl, ad_ren rfl⟩, ⟨_, rfl, ad_ren rfl⟩, ⟨_, rfl, ad_ren rfl⟩, ⟨_, rfl, ad_ren rfl⟩, ⟨_, rfl, ad_ren rfl⟩, ⟨_, rfl, ad_ren rfl⟩, trivial⟩) (by exact ⟨⟨_, rfl, ⟨rfl, trivial⟩⟩, trivial⟩) (by rfl) (nk rfl)) (al_cnt (fun i19 (s18 : Int) => [(0, .v (.slice (.arr 6 (.int .i64))) x0), (1, .int .i64 x1), (5, .ref 0 0), (7, .int .i64 s18), (24, .v (.slice (.arr 6 (.int .i64))) x0), (25, .int .i64 (x0.length : Int)), (26, .int .i64 i19)]) (fun i19 (s18 : Int) => [(0, .var [.arr (.int .i64) 2 ((List.replicate 2 0) : (List Int))])]) (fun d i19 (s18 : Int) => d = Int.toNat ((x0.length : Int) - i19) ∧ 0 ≤ s18 ∧ 0 ≤ i19 ∧ i19 ≤ (x0.length : Int)) h ⟨rfl, (by (try simp only [List.length_set, List.length_append, List.length_cons, List.length_nil, List.length_replicate, List.length_take, List.length_drop]) <;> omega), (by (try simp only [List.length_set, List.length_append, List.length_cons, List.length_nil, List.length_replicate, List.length_take, List.length_drop]) <;> omega), (by (try simp only [List.length_set, List.length_append, List.length_cons, List.length_nil, List.length_replicate, List.length_take, List.length_drop]) <;> omega)⟩ (fun d20 i19 s18 hI h ih20 => ?_)))
    obtain ⟨hd, _, _, _⟩ := hI
    refine al_round ?_
    refine aw_seq ?_
    refine aw_region ?_
    refine ao_read trivial (r_lss rfl rfl) rfl ?_
    refine ao_nil ?_
    refine aq_then ?_
    refine aw_seq ?_
    refine aw_cond rfl (fun hb22 => ?_) (fun hb22 => ?_)
    · have q23 := d_t hb22
      obtain ⟨d20, rfl⟩ : ∃ e, d20 = e + 1 := ⟨d20 - 1, by omega⟩
      replace h := is_cntS h
      refine aw_skip ?_
      refine aq_then ?_
      refine aw_seq ?_
      refine aw_block ?_
      refine aw_seq ?_
      refine aw_region ?_
      refine ao_read trivial (r_move rfl) rfl ?_
      refine ao_read trivial (r_idxAddr (t := (.arr 6 (.int .i64))) Try.underlying24 Try.sizeOf43 rfl rfl (show 0 ≤ i19 from by omega) (show i19 < (x0.length : Int) from by omega)) rfl ?_
      refine ao_read trivial (r_load_c (t := (.arr 6 (.int .i64))) Try.isAgg43 Try.sizeOf43 rfl) rfl ?_
      refine ao_eff trivial (e_alloc 1 (y := .v (.arr 6 (.int .i64)) ((List.replicate 6 0) : (List Int))) Try.zeroValue43 (fun ρ h M => ra_zero_arr (t := (.int .i64)) rfl) rfl rfl rfl rfl rfl) rfl ?_
      refine ao_read trivial (r_assign rfl) rfl ?_
      refine ao_effS trivial (e_store rfl rfl rfl rfl Try.sizeOf43 rfl) ?_
      refine ao_nil ?_
      refine aq_then ?_
      refine aw_seq ?_
      obtain ⟨r25, r25h, h⟩ := is_bind h
      obtain ⟨g26, h⟩ := is_guard h
      obtain ⟨r27, r27h, h⟩ := is_bind h
      refine aw_drawAll (by kernel_rfl) ?_
      refine an_read 0 (by kernel_rfl) (fun _ _ _ h => h) rfl (by kernel_rfl) trivial (r_load_arr rfl Try.isAgg43 Try.sizeOf43 rfl rfl rfl) rfl ?_
      refine an_read 1 (by kernel_rfl) (fun _ _ _ h => h) rfl (by kernel_rfl) trivial (r_move rfl) rfl ?_
      refine an_scall 2 (by kernel_rfl) (fun _ _ _ h => h) rfl (by kernel_rfl) trivial (scall (c_impl_meanRun (is_mk r25h)) rfl Try.func131 rfl rfl rfl rfl (fun σ => ⟨ad_ren rfl, ad_ren rfl, trivial⟩)) rfl ?_
      refine an_read 3 (by kernel_rfl) (fun _ _ _ h => h) rfl (by kernel_rfl) trivial (r_move rfl) rfl ?_
      refine an_read 4 (by kernel_rfl) (fun _ _ _ h => h) rfl (by kernel_rfl) trivial (r_move rfl) rfl ?_
      refine an_read 5 (by kernel_rfl) (fun _ _ _ h => h) rfl (by kernel_rfl) trivial (r_idxAddr (t := (.arr 6 (.int .i64))) Try.underlying24 Try.sizeOf43 rfl rfl (show 0 ≤ s18 from by omega) (show s18 < (x0.length : Int) from by omega)) rfl ?_
      refine an_read 6 (by kernel_rfl) (fun _ _ _ h => h) rfl (by kernel_rfl) trivial (r_load_c (t := (.arr 6 (.int .i64))) Try.isAgg43 Try.sizeOf43 rfl) rfl ?_
      refine an_read 7 (by kernel_rfl) (fun _ _ _ h => h) rfl (by kernel_rfl) trivial (r_move rfl) rfl ?_
      refine an_scall 8 (by kernel_rfl) (fun _ _ _ h => h) rfl (by kernel_rfl) trivial (scall (c_impl_meanRun (is_mk r27h)) rfl Try.func131 rfl rfl rfl rfl (fun σ => ⟨ad_ren rfl, ad_ren rfl, trivial⟩)) rfl ?_
      refine an_read 9 (by kernel_rfl) (fun _ _ _ h => h) rfl (by kernel_rfl) trivial (r_lss rfl rfl) rfl ?_
      refine an_done rfl ?_
      refine aq_then ?_
      refine aw_cond rfl (fun hb28 => ?_) (fun hb28 => ?_)
      · have q29 := d_t hb28
        replace h := is_if (d_t hb28) h
        refine aw_region ?_
        refine ao_read trivial (r_move rfl) rfl ?_
        refine ao_read trivial (r_assign rfl) rfl ?_
        refine ao_nil ?_
        refine aq_in ?_
        refine aq_then ?_
        refine aw_region ?_
        refine ao_read trivial (r_addI rfl rfl (wrap_id (by omega) (by omega))) rfl ?_
        refine ao_read trivial (r_move rfl) rfl ?_
        refine ao_nil ?_
        exact aq_again (AL.sub (sub_mk idn (by exact ⟨⟨_, rfl, ad_ren rfl⟩, ⟨_, rfl, ad_ren rfl⟩, ⟨_, rfl, ad_ren rfl⟩, ⟨_, rfl, ad_ren rfl⟩, ⟨_, rfl, ad_ren rfl⟩, ⟨_, rfl, ad_ren rfl⟩, ⟨_, rfl, ad_ren rfl⟩, trivial⟩) (by exact ⟨⟨_, rfl, ⟨rfl, trivial⟩⟩, trivial⟩) (by rfl) (nk rfl)) (ih20 d20 (i19 + 1) i19 (by omega) ⟨by omega, (by (try simp only [List.length_set, List.length_append, List.length_cons, List.length_nil, List.length_replicate, List.length_take, List.length_drop]) <;> omega), (by (try simp only [List.length_set, List.length_append, List.length_cons, List.length_nil, List.length_replicate, List.length_take, List.length_drop]) <;> omega), (by (try simp only [List.length_set, List.length_append, List.length_cons, List.length_nil, List.length_replicate, List.length_take, List.length_drop]) <;> omega)⟩ h))
      · have q30 := d_f hb28
        replace h := is_else (d_f hb28) h
        refine aw_skip ?_
        refine aq_in ?_
        refine aq_then ?_
        refine aw_region ?_
        refine ao_read trivial (r_addI rfl rfl (wrap_id (by omega) (by omega))) rfl ?_
        refine ao_read trivial (r_move rfl) rfl ?_
        refine ao_nil ?_
        exact aq_again (AL.sub (sub_mk idn (by exact ⟨⟨_, rfl, ad_ren rfl⟩, ⟨_, rfl, ad_ren rfl⟩, ⟨_, rfl, ad_ren rfl⟩, ⟨_, rfl, ad_ren rfl⟩, ⟨_, rfl, ad_ren rfl⟩, ⟨_, rfl, ad_ren rfl⟩, ⟨_, rfl, ad_ren rfl⟩, trivial⟩) (by exact ⟨⟨_, rfl, ⟨rfl, trivial⟩⟩, trivial⟩) (by rfl) (nk rfl)) (ih20 d20 (i19 + 1) s18 (by omega) ⟨by omega, (by (try simp only [List.length_set, List.length_append, List.length_cons, List.length_nil, List.length_replicate, List.length_take, List.length_drop]) <;> omega), (by (try simp only [List.length_set, List.length_append, List.length_cons, List.length_nil, List.length_replicate, List.length_take, List.length_drop]) <;> omega), (by (try simp only [List.length_set, List.length_append, List.length_cons, List.length_nil, List.length_replicate, List.length_take, List.length_drop]) <;> omega)⟩ h))
    · have q24 := d_f hb22
      obtain rfl : d20 = 0 := by omega
      replace h := is_cnt0 h
      refine aw_exit ?_
      refine aq_then_exit ?_
      refine aq_then_exit ?_
      refine aq_in_exit ?_
      refine aq_then ?_
      refine aw_seq ?_
      refine aw_region ?_
      refine ao_read trivial (r_move rfl) rfl ?_
      refine ao_read trivial (r_move rfl) rfl ?_
      refine ao_read trivial (r_move rfl) rfl ?_
      obtain ⟨g31, h⟩ := is_guard h
      refine ao_read trivial (r_idxAddr (t := (.arr 6 (.int .i64))) Try.underlying24 Try.sizeOf43 rfl rfl (show 0 ≤ s18 from by omega) (show s18 < (x0.length : Int) from by omega)) rfl ?_
      refine ao_read trivial (r_load_c (t := (.arr 6 (.int .i64))) Try.isAgg43 Try.sizeOf43 rfl) rfl ?_
      refine ao_read trivial (r_move rfl) rfl ?_
      obtain ⟨r32, r32h, h⟩ := is_bind h
      refine ao_scall trivial (scall (c_impl_meanRun (is_mk r32h)) rfl Try.func131 rfl rfl rfl rfl (fun σ => ⟨ad_ren rfl, ad_ren rfl, trivial⟩)) rfl ?_
      refine ao_read trivial (r_move rfl) rfl ?_
      obtain ⟨r33, r33h, h⟩ := is_bind h
      refine ao_scall trivial (scall (c_impl_power (is_mk r33h)) rfl Try.func103 rfl rfl rfl rfl (fun σ => ⟨ad_ren rfl, trivial⟩)) rfl ?_
      obtain ⟨r34, r34h, h⟩ := is_bind h
      refine ao_scall trivial (scall (c_impl_fraction (is_mk r34h)) rfl Try.func102 rfl rfl rfl rfl (fun σ => ⟨ad_ren rfl, ad_ren rfl, trivial⟩)) rfl ?_
      refine ao_read trivial (r_assign rfl) rfl ?_
      refine ao_effS trivial (e_store rfl rfl rfl rfl Try.sizeOf30 rfl) ?_
      refine ao_read trivial (r_assign rfl) rfl ?_
      refine ao_nil ?_
      refine aq_then ?_
      refine aw_ret ?_
      refine aq_ret ?_
      obtain rfl := is_some h
      exact aq_finx (l := [.tmp 4, .cell 5 30, .tmp 6]) (xs := [.int .i64 s18, .v (.arr 2 (.int .i64)) r34, .bool true]) idn [.int .i64 s18, .v (.arr 2 (.int .i64)) r34, .bool true] [] rfl (by exact ⟨rfl, ⟨⟨_, _, rfl⟩, r_load_arr rfl Try.isAgg30 Try.sizeOf30 rfl rfl rfl⟩, rfl, trivial⟩) (by exact ⟨ad_ren rfl, ad_ren rfl, ad_ren rfl, trivial⟩) (by exact trivial) rfl (nk rfl) rfl rfl ⟨rfl, rfl⟩
theorem c_spec_l3Row {x0 : (List (List Int))} {r : Bool} (h : Is (p_spec_l3Row x0) (some r)) :
    Scalar Try.prog 136 [.v (.slice (.arr 6 (.int .i64))) x0] (.bool r) := by
  unfold p_spec_l3Row at h
  refine ac_enter ⟨23, 0⟩ Try.func136 rfl rfl rfl rfl rfl (fun Γ => ?_)
  refine sl_len_m 0 (x0.length : Int) rfl rfl (fun hl0 => ?_)
  refine aw_seq ?_
  refine aw_region ?_
  refine ao_read trivial (r_assign rfl) rfl ?_
  refine ao_nil ?_
  refine aq_then ?_
  refine aw_seq ?_
  refine aw_seq ?_
  refine aw_region ?_
  refine ao_read trivial (r_assign rfl) rfl ?_
  refine ao_nil ?_
  refine aq_then ?_
  refine aw_block ?_
  refine aw_loop (AL.sub (fr' := [(0, .v (.slice (.arr 6 (.int .i64))) x0), (3, .int .i64 0)]) (H' := []) (sub_mk idn (by exact ⟨⟨_, rfl, ad_ren rfl⟩, ⟨_, rfl, ad_ren rfl⟩, trivial⟩) (by exact trivial) (by rfl) (nk rfl)) (al_cnt (fun i2 (s1 : Unit) => [(0, .v (.slice (.arr 6 (.int .i64))) x0), (3, .int .i64 i2)]) (fun i2 (s1 : Unit) => []) (fun d i2 (s1 : Unit) => d = Int.toNat ((x0.length : Int) - i2) ∧ 0 ≤ i2 ∧ i2 ≤ (x0.length : Int)) h ⟨rfl, (by (try simp only [List.length_set, List.length_append, List.length_cons, List.length_nil, List.length_replicate, List.length_take, List.length_drop]) <;> omega), (by (try simp only [List.length_set, List.length_append, List.length_cons, List.length_nil, List.length_replicate, List.length_take, List.length_drop]) <;> omega)⟩ (fun d3 i2 s1 hI h ih3 => ?_)))
  obtain ⟨hd, _, _⟩ := hI
  refine al_round ?_
  refine aw_seq ?_
  refine aw_seq ?_
  refine aw_region ?_
  refine ao_read trivial (r_move rfl) rfl ?_
  refine ao_read trivial (r_move rfl) rfl ?_
  refine ao_read trivial (r_len_vm (x0.length : Int) Try.underlying24 rfl rfl) rfl ?_
  refine ao_read trivial (r_lss rfl rfl) rfl ?_
  refine ao_read trivial (r_move rfl) rfl ?_
  refine ao_readG (x := .int .i64 i2) rfl (GV.T rfl) (fun hg5 => by
        have q6 := d_t hg5
        exact r_move rfl) rfl ?_
  refine ao_readG (x := .bool (decide (i2 ≤ 6))) rfl (GV.T rfl) (fun hg7 => by
        have q8 := d_t hg7
        exact Reads.strip 9 rfl (hg7) (r_leq rfl rfl)) rfl ?_
  refine ao_read trivial (r_andB rfl rfl) rfl ?_
  refine ao_nil ?_
  refine aq_then ?_
  refine aw_cond rfl (fun hb9 => ?_) (fun hb9 => ?_)
  · obtain ⟨q10, q11⟩ := and_t hb9
    have q12 := d_t q10
    have q13 := d_t q11
    obtain ⟨d3, rfl⟩ : ∃ e, d3 = e + 1 := ⟨d3 - 1, by omega⟩
    replace h := is_if hb9 (is_cntS h)
    refine aw_skip ?_
    refine aq_then ?_
    refine aw_seq ?_
    refine aw_block ?_
    refine aw_seq ?_
    refine aw_region ?_
    refine ao_read trivial (r_move rfl) rfl ?_
    refine ao_read trivial (r_move rfl) rfl ?_
    refine ao_read trivial (r_idxAddr (t := (.arr 6 (.int .i64))) Try.underlying24 Try.sizeOf43 rfl rfl (show 0 ≤ i2 from by omega) (show i2 < (x0.length : Int) from by omega)) rfl ?_
    refine ao_read trivial (r_load_c (t := (.arr 6 (.int .i64))) Try.isAgg43 Try.sizeOf43 rfl) rfl ?_
    obtain ⟨r14, r14h, h⟩ := is_bind h
    refine ao_scall trivial (scall (c_spec_l2Die (is_mk r14h)) rfl Try.func163 rfl rfl rfl rfl (fun σ => ⟨ad_ren rfl, trivial⟩)) rfl ?_
    refine ao_read trivial (r_not rfl) rfl ?_
    refine ao_nil ?_
    refine aq_then ?_
    refine aw_cond rfl (fun hb15 => ?_) (fun hb15 => ?_)
    · replace h := is_else (ne_t (not_t hb15)) h
      refine aw_seq ?_
      refine aw_region ?_
      refine ao_read trivial (r_assign rfl) rfl ?_
      refine ao_nil ?_
      refine aq_then ?_
      refine aw_ret ?_
      refine aq_in_ret ?_
      refine aq_then_ret ?_
      refine aq_then_ret ?_
      refine aq_in_ret ?_
      refine aq_then_ret ?_
      refine aq_ret ?_
      obtain rfl := is_some h
      exact aq_finx (l := [.tmp 2]) (xs := [.bool false]) idn [.bool false] [] rfl (by exact ⟨rfl, trivial⟩) (by exact ⟨ad_ren rfl, trivial⟩) (by exact trivial) rfl (nk rfl) rfl rfl ⟨rfl, rfl⟩
    · replace h := is_if (not_f hb15) h
      refine aw_skip ?_
      refine aq_in ?_
      refine aq_then ?_
      refine aw_region ?_
      refine ao_read trivial (r_move rfl) rfl ?_
      refine ao_read trivial (r_addI rfl rfl (wrap_id (by omega) (by omega))) rfl ?_
      refine ao_read trivial (r_assign rfl) rfl ?_
      refine ao_nil ?_
      exact aq_again (AL.sub (sub_mk idn (by exact ⟨⟨_, rfl, ad_ren rfl⟩, ⟨_, rfl, ad_ren rfl⟩, trivial⟩) (by exact trivial) (by rfl) (nk rfl)) (ih3 d3 (i2 + 1) () (by omega) ⟨by omega, (by (try simp only [List.length_set, List.length_append, List.length_cons, List.length_nil, List.length_replicate, List.length_take, List.length_drop]) <;> omega), (by (try simp only [List.length_set, List.length_append, List.length_cons, List.length_nil, List.length_replicate, List.length_take, List.length_drop]) <;> omega)⟩ h))
  · replace h := is_cntF h (ne_t hb9) (fun _ => rfl)
    refine aw_exit ?_
    refine aq_then_exit ?_
    refine aq_then_exit ?_
    refine aq_in_exit ?_
    refine aq_then ?_
    refine aw_seq ?_
    refine aw_region ?_
    refine ao_read trivial (r_move rfl) rfl ?_
    refine ao_read trivial (r_len_vm (x0.length : Int) Try.underlying24 rfl rfl) rfl ?_
    refine ao_scall trivial (scall (c_spec_l1In (is_mk (rfl : p_spec_l1In (x0.length : Int) 1 6 = _))) rfl Try.func123 rfl rfl rfl rfl (fun σ => ⟨ad_ren rfl, ad_ren rfl, ad_ren rfl, trivial⟩)) rfl ?_
    refine ao_read trivial (r_assign rfl) rfl ?_
    refine ao_nil ?_
    refine aq_then ?_
    refine aw_ret ?_
    refine aq_ret ?_
    obtain rfl := is_some h
    exact aq_finx (l := [.tmp 2]) (xs := [.bool (p_spec_l1In (x0.length : Int) 1 6)]) idn [.bool (p_spec_l1In (x0.length : Int) 1 6)] [] rfl (by exact ⟨rfl, trivial⟩) (by exact ⟨ad_ren rfl, trivial⟩) (by exact trivial) rfl (nk rfl) rfl rfl ⟨rfl, rfl⟩
theorem c_spec_l2Less {x0 : (List Int)} {x1 : (List Int)} {r : Bool} (h : Is (p_spec_l2Less x0 x1) r) :
    Scalar Try.prog 120 [.v (.arr 2 (.int .i64)) x0, .v (.arr 2 (.int .i64)) x1] (.bool r) := by
  unfold p_spec_l2Less at h
  refine ac_enter ⟨16, 0⟩ Try.func120 rfl rfl rfl rfl rfl (fun Γ => ?_)
  refine aw_seq ?_
  refine aw_region ?_
  refine ao_eff trivial (e_box 0 rfl rfl rfl rfl rfl rfl) rfl ?_
  refine ao_eff trivial (e_box 1 rfl rfl rfl rfl rfl rfl) rfl ?_
  refine ao_read trivial (r_assign rfl) rfl ?_
  refine ao_nil ?_
  refine aq_then ?_
  refine aw_seq ?_
  refine aw_region ?_
  refine ao_read trivial (r_idxAddr_arr (i := 0) Try.underlying30 Try.sizeOf3 rfl rfl (show 0 ≤ 0 from by omega) (show 0 < (2 : Int) from by omega)) rfl ?_
  refine ao_read trivial (r_load_elema_int Try.isAgg3 Try.sizeOf3 rfl rfl rfl (show 0 < 2 from by omega)) rfl ?_
  refine ao_read trivial (r_idxAddr_arr (i := 1) Try.underlying30 Try.sizeOf3 rfl rfl (show 0 ≤ 1 from by omega) (show 1 < (2 : Int) from by omega)) rfl ?_
  refine ao_read trivial (r_load_elema_int Try.isAgg3 Try.sizeOf3 rfl rfl rfl (show 1 < 2 from by omega)) rfl ?_
  refine ao_read trivial (r_mul rfl rfl) rfl ?_
  refine ao_read trivial (r_idxAddr_arr (i := 0) Try.underlying30 Try.sizeOf3 rfl rfl (show 0 ≤ 0 from by omega) (show 0 < (2 : Int) from by omega)) rfl ?_
  refine ao_read trivial (r_load_elema_int Try.isAgg3 Try.sizeOf3 rfl rfl rfl (show 0 < 2 from by omega)) rfl ?_
  refine ao_read trivial (r_idxAddr_arr (i := 1) Try.underlying30 Try.sizeOf3 rfl rfl (show 0 ≤ 1 from by omega) (show 1 < (2 : Int) from by omega)) rfl ?_
  refine ao_read trivial (r_load_elema_int Try.isAgg3 Try.sizeOf3 rfl rfl rfl (show 1 < 2 from by omega)) rfl ?_
  refine ao_read trivial (r_mul rfl rfl) rfl ?_
  refine ao_read trivial (r_lss rfl rfl) rfl ?_
  refine ao_read trivial (r_assign rfl) rfl ?_
  refine ao_nil ?_
  refine aq_then ?_
  refine aw_ret ?_
  refine aq_ret ?_
  obtain rfl := is_eq h
  exact aq_finx (l := [.tmp 4]) (xs := [.bool (decide ((IntKind.wrap .i64 ((x0.getD 0 0) * (x1.getD 1 0))) < (IntKind.wrap .i64 ((x1.getD 0 0) * (x0.getD 1 0)))))]) idn [.bool (decide ((IntKind.wrap .i64 ((x0.getD 0 0) * (x1.getD 1 0))) < (IntKind.wrap .i64 ((x1.getD 0 0) * (x0.getD 1 0)))))] [] rfl (by exact ⟨rfl, trivial⟩) (by exact ⟨ad_ren rfl, trivial⟩) (by exact trivial) rfl (nk rfl) rfl rfl ⟨rfl, rfl⟩
end Go.GA
