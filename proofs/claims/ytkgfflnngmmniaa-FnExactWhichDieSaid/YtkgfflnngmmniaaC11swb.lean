/- Walks: what the Go functions compute, by the printed lines below. -/
import Derived.Test.YtkgfflnngmmniaaC11sw
namespace Go.GA
open Go Go.Proofs
set_option maxRecDepth 100000
set_option maxHeartbeats 2000000
set_option linter.unusedVariables false
theorem c_laws_markIntA6S {x0 : (List (List Int))} {x1 : Int} {r : Int × (List (List Int))} (h : Is (p_laws_markIntA6S x0 x1) r) :
    ACalls Try.prog 38 [.os 0, .int .i64 x1] [(0, .row (.arr 6 (.int .i64)) x0)] (fun r' H' => r' = .int .i64 r.1 ∧ H' = [(0, .row (.arr 6 (.int .i64)) r.2)]) := by
  unfold p_laws_markIntA6S at h
  refine ac_enter ⟨26, 1⟩ Try.func38 rfl rfl rfl rfl rfl (fun Γ => ?_)
  refine row_len_m 0 (x0.length : Int) rfl rfl (fun hr0 => ?_)
  refine aw_seq ?_
  refine aw_region ?_
  refine ao_read trivial (r_assign rfl) rfl ?_
  refine ao_nil ?_
  refine aq_then ?_
  refine aw_seq ?_
  refine aw_seq ?_
  refine aw_region ?_
  refine ao_read trivial (r_assign rfl) rfl ?_
  refine ao_nil ?_
  refine aq_then ?_
  refine aw_block ?_
  refine aw_loop (AL.sub (fr' := [(0, .os 0), (1, .int .i64 x1), (5, .int .i64 0)]) (H' := [(0, .row (.arr 6 (.int .i64)) x0)]) (sub_mk idn (by exact ⟨⟨_, rfl, ad_ren rfl⟩, ⟨_, rfl, ad_ren rfl⟩, ⟨_, rfl, ad_ren rfl⟩, trivial⟩) (by exact ⟨⟨_, rfl, rfl⟩, trivial⟩) (by rfl) (nk1 rfl rfl)) (al_cnt (fun i2 (s1 : Int × (List (List Int))) => [(0, .os 0), (1, .int .i64 s1.1), (5, .int .i64 i2)]) (fun i2 (s1 : Int × (List (List Int))) => [(0, .row (.arr 6 (.int .i64)) s1.2)]) (fun d i2 (s1 : Int × (List (List Int))) => d = Int.toNat ((x0.length : Int) - i2) ∧ 0 ≤ i2 ∧ (s1.2.length : Int) = (x0.length : Int) ∧ i2 ≤ (x0.length : Int)) h ⟨rfl, (by (try simp only [List.length_set, List.length_append, List.length_cons, List.length_nil, List.length_replicate, List.length_take, List.length_drop]) <;> omega), (by (try simp only [List.length_set, List.length_append, List.length_cons, List.length_nil, List.length_replicate, List.length_take, List.length_drop]) <;> omega), (by (try simp only [List.length_set, List.length_append, List.length_cons, List.length_nil, List.length_replicate, List.length_take, List.length_drop]) <;> omega)⟩ (fun d3 i2 s1 hI h ih3 => ?_)))
  obtain ⟨hd, _, _, _⟩ := hI
  refine al_round ?_
  refine aw_seq ?_
  refine aw_seq ?_
  refine aw_region ?_
  refine ao_read trivial (r_move rfl) rfl ?_
  refine ao_read trivial (r_move rfl) rfl ?_
  refine ao_read trivial (r_len_osm (x0.length : Int) Try.underlying42 rfl rfl (show (s1.2.length : Int) = (x0.length : Int) from by omega)) rfl ?_
  refine ao_read trivial (r_lss rfl rfl) rfl ?_
  refine ao_nil ?_
  refine aq_then ?_
  refine aw_cond rfl (fun hb5 => ?_) (fun hb5 => ?_)
  · have q6 := d_t hb5
    obtain ⟨d3, rfl⟩ : ∃ e, d3 = e + 1 := ⟨d3 - 1, by omega⟩
    replace h := is_cntS h
    refine aw_skip ?_
    refine aq_then ?_
    refine aw_seq ?_
    refine aw_block ?_
    refine aw_seq ?_
    refine aw_region ?_
    refine ao_read trivial (r_assign rfl) rfl ?_
    refine ao_nil ?_
    refine aq_then ?_
    refine aw_block ?_
    refine aw_loop (AL.sub (fr' := [(0, .os 0), (1, .int .i64 s1.1), (5, .int .i64 i2), (6, .int .i64 0)]) (H' := [(0, .row (.arr 6 (.int .i64)) s1.2)]) (sub_mk idn (by exact ⟨⟨_, rfl, ad_ren rfl⟩, ⟨_, rfl, ad_ren rfl⟩, ⟨_, rfl, ad_ren rfl⟩, ⟨_, rfl, ad_ren rfl⟩, trivial⟩) (by exact ⟨⟨_, rfl, rfl⟩, trivial⟩) (by rfl) (nk1 rfl rfl)) (al_cnt (fun i9 (s8 : Int × (List (List Int))) => [(0, .os 0), (1, .int .i64 s8.1), (5, .int .i64 i2), (6, .int .i64 i9)]) (fun i9 (s8 : Int × (List (List Int))) => [(0, .row (.arr 6 (.int .i64)) s8.2)]) (fun d i9 (s8 : Int × (List (List Int))) => d = Int.toNat (6 - i9) ∧ 0 ≤ i9 ∧ (s8.2.length : Int) = (x0.length : Int) ∧ i9 ≤ 6) h ⟨rfl, (by (try simp only [List.length_set, List.length_append, List.length_cons, List.length_nil, List.length_replicate, List.length_take, List.length_drop]) <;> omega), (by (try simp only [List.length_set, List.length_append, List.length_cons, List.length_nil, List.length_replicate, List.length_take, List.length_drop]) <;> omega), (by (try simp only [List.length_set, List.length_append, List.length_cons, List.length_nil, List.length_replicate, List.length_take, List.length_drop]) <;> omega)⟩ (fun d10 i9 s8 hI h ih10 => ?_)))
    obtain ⟨hd, _, _, _⟩ := hI
    refine al_round ?_
    refine aw_seq ?_
    refine aw_seq ?_
    refine aw_region ?_
    refine ao_read trivial (r_move rfl) rfl ?_
    refine ao_read trivial (r_lss rfl rfl) rfl ?_
    refine ao_nil ?_
    refine aq_then ?_
    refine aw_cond rfl (fun hb12 => ?_) (fun hb12 => ?_)
    · have q13 := d_t hb12
      obtain ⟨d10, rfl⟩ : ∃ e, d10 = e + 1 := ⟨d10 - 1, by omega⟩
      replace h := is_cntS h
      refine aw_skip ?_
      refine aq_then ?_
      refine aw_seq ?_
      refine aw_block ?_
      refine aw_seq ?_
      refine aw_region ?_
      refine ao_read trivial (r_move rfl) rfl ?_
      refine ao_read trivial (r_move rfl) rfl ?_
      refine ao_read trivial (r_move rfl) rfl ?_
      refine ao_read trivial (r_move rfl) rfl ?_
      refine ao_read trivial (r_idxAddr_os Try.underlying42 Try.sizeOf22 rfl rfl rfl (by omega) (show i2 < (s8.2.length : Int) from by omega)) rfl ?_
      refine ao_read trivial (r_idxAddr_elem Try.underlying22 Try.sizeOf3 rfl rfl (by omega) (by omega)) rfl ?_
      refine ao_effS trivial (e_store_elem2_int (m := 6) Try.sizeOf3 rfl rfl rfl rfl rfl (show i2.toNat < s8.2.length from by omega) rfl (by omega) rfl) ?_
      refine ao_nil ?_
      refine aq_then ?_
      refine aw_region ?_
      refine ao_read trivial (r_move rfl) rfl ?_
      refine ao_read trivial (r_add rfl rfl) rfl ?_
      refine ao_read trivial (r_assign rfl) rfl ?_
      refine ao_nil ?_
      refine aq_in ?_
      refine aq_then ?_
      refine aw_region ?_
      refine ao_read trivial (r_move rfl) rfl ?_
      refine ao_read trivial (r_addI rfl rfl (wrap_id (by omega) (by omega))) rfl ?_
      refine ao_read trivial (r_assign rfl) rfl ?_
      refine ao_nil ?_
      exact aq_again (AL.sub (sub_mk idn (by exact ⟨⟨_, rfl, ad_ren rfl⟩, ⟨_, rfl, ad_ren rfl⟩, ⟨_, rfl, ad_ren rfl⟩, ⟨_, rfl, ad_ren rfl⟩, trivial⟩) (by exact ⟨⟨_, rfl, rfl⟩, trivial⟩) (by rfl) (nk1 rfl rfl)) (ih10 d10 (i9 + 1) ((IntKind.wrap .i64 (s8.1 + 1)), (s8.2.set i2.toNat ((s8.2.getD i2.toNat (List.replicate 6 0)).set i9.toNat s8.1))) (by omega) ⟨by omega, (by (try simp only [List.length_set, List.length_append, List.length_cons, List.length_nil, List.length_replicate, List.length_take, List.length_drop]) <;> omega), (by (try simp only [List.length_set, List.length_append, List.length_cons, List.length_nil, List.length_replicate, List.length_take, List.length_drop]) <;> omega), (by (try simp only [List.length_set, List.length_append, List.length_cons, List.length_nil, List.length_replicate, List.length_take, List.length_drop]) <;> omega)⟩ h))
    · have q14 := d_f hb12
      obtain rfl : d10 = 0 := by omega
      replace h := is_cnt0 h
      refine aw_exit ?_
      refine aq_then_exit ?_
      refine aq_then_exit ?_
      refine aq_in_exit ?_
      refine aq_in ?_
      refine aq_then ?_
      refine aw_region ?_
      refine ao_read trivial (r_move rfl) rfl ?_
      refine ao_read trivial (r_addI rfl rfl (wrap_id (by omega) (by omega))) rfl ?_
      refine ao_read trivial (r_assign rfl) rfl ?_
      refine ao_nil ?_
      exact aq_again (AL.sub (sub_mk idn (by exact ⟨⟨_, rfl, ad_ren rfl⟩, ⟨_, rfl, ad_ren rfl⟩, ⟨_, rfl, ad_ren rfl⟩, trivial⟩) (by exact ⟨⟨_, rfl, rfl⟩, trivial⟩) (by rfl) (nk1 rfl rfl)) (ih3 d3 (i2 + 1) (s8.1, s8.2) (by omega) ⟨by omega, (by (try simp only [List.length_set, List.length_append, List.length_cons, List.length_nil, List.length_replicate, List.length_take, List.length_drop]) <;> omega), (by (try simp only [List.length_set, List.length_append, List.length_cons, List.length_nil, List.length_replicate, List.length_take, List.length_drop]) <;> omega), (by (try simp only [List.length_set, List.length_append, List.length_cons, List.length_nil, List.length_replicate, List.length_take, List.length_drop]) <;> omega)⟩ h))
  · have q7 := d_f hb5
    obtain rfl : d3 = 0 := by omega
    replace h := is_cnt0 h
    refine aw_exit ?_
    refine aq_then_exit ?_
    refine aq_then_exit ?_
    refine aq_in_exit ?_
    refine aq_then ?_
    refine aw_seq ?_
    refine aw_region ?_
    refine ao_read trivial (r_move rfl) rfl ?_
    refine ao_read trivial (r_assign rfl) rfl ?_
    refine ao_nil ?_
    refine aq_then ?_
    refine aw_ret ?_
    refine aq_ret ?_
    obtain rfl := is_eq h
    exact aq_finx (l := [.tmp 4]) (xs := [.int .i64 s1.1]) idn [.int .i64 s1.1] [(0, .row (.arr 6 (.int .i64)) s1.2)] rfl (by exact ⟨rfl, trivial⟩) (by exact ⟨ad_ren rfl, trivial⟩) (by exact ⟨⟨_, rfl, rfl⟩, trivial⟩) rfl (nk1 rfl rfl) rfl rfl ⟨rfl, rfl⟩
theorem c_laws_markIntS {x0 : (List Int)} {x1 : Int} {r : Int × (List Int)} (h : Is (p_laws_markIntS x0 x1) r) :
    ACalls Try.prog 18 [.os 0, .int .i64 x1] [(0, .row (.int .i64) x0)] (fun r' H' => r' = .int .i64 r.1 ∧ H' = [(0, .row (.int .i64) r.2)]) := by
  unfold p_laws_markIntS at h
  refine ac_enter ⟨19, 1⟩ Try.func18 rfl rfl rfl rfl rfl (fun Γ => ?_)
  refine row_len_m 0 (x0.length : Int) rfl rfl (fun hr0 => ?_)
  refine aw_seq ?_
  refine aw_region ?_
  refine ao_read trivial (r_assign rfl) rfl ?_
  refine ao_nil ?_
  refine aq_then ?_
  refine aw_seq ?_
  refine aw_seq ?_
  refine aw_region ?_
  refine ao_read trivial (r_assign rfl) rfl ?_
  refine ao_nil ?_
  refine aq_then ?_
  refine aw_block ?_
  refine aw_loop (AL.sub (fr' := [(0, .os 0), (1, .int .i64 x1), (5, .int .i64 0)]) (H' := [(0, .row (.int .i64) x0)]) (sub_mk idn (by exact ⟨⟨_, rfl, ad_ren rfl⟩, ⟨_, rfl, ad_ren rfl⟩, ⟨_, rfl, ad_ren rfl⟩, trivial⟩) (by exact ⟨⟨_, rfl, rfl⟩, trivial⟩) (by rfl) (nk1 rfl rfl)) (al_cnt (fun i2 (s1 : Int × (List Int)) => [(0, .os 0), (1, .int .i64 s1.1), (5, .int .i64 i2)]) (fun i2 (s1 : Int × (List Int)) => [(0, .row (.int .i64) s1.2)]) (fun d i2 (s1 : Int × (List Int)) => d = Int.toNat ((x0.length : Int) - i2) ∧ 0 ≤ i2 ∧ (s1.2.length : Int) = (x0.length : Int) ∧ i2 ≤ (x0.length : Int)) h ⟨rfl, (by (try simp only [List.length_set, List.length_append, List.length_cons, List.length_nil, List.length_replicate, List.length_take, List.length_drop]) <;> omega), (by (try simp only [List.length_set, List.length_append, List.length_cons, List.length_nil, List.length_replicate, List.length_take, List.length_drop]) <;> omega), (by (try simp only [List.length_set, List.length_append, List.length_cons, List.length_nil, List.length_replicate, List.length_take, List.length_drop]) <;> omega)⟩ (fun d3 i2 s1 hI h ih3 => ?_)))
  obtain ⟨hd, _, _, _⟩ := hI
  refine al_round ?_
  refine aw_seq ?_
  refine aw_seq ?_
  refine aw_region ?_
  refine ao_read trivial (r_move rfl) rfl ?_
  refine ao_read trivial (r_move rfl) rfl ?_
  refine ao_read trivial (r_len_osm (x0.length : Int) Try.underlying23 rfl rfl (show (s1.2.length : Int) = (x0.length : Int) from by omega)) rfl ?_
  refine ao_read trivial (r_lss rfl rfl) rfl ?_
  refine ao_nil ?_
  refine aq_then ?_
  refine aw_cond rfl (fun hb5 => ?_) (fun hb5 => ?_)
  · have q6 := d_t hb5
    obtain ⟨d3, rfl⟩ : ∃ e, d3 = e + 1 := ⟨d3 - 1, by omega⟩
    replace h := is_cntS h
    refine aw_skip ?_
    refine aq_then ?_
    refine aw_seq ?_
    refine aw_block ?_
    refine aw_seq ?_
    refine aw_region ?_
    refine ao_read trivial (r_move rfl) rfl ?_
    refine ao_read trivial (r_move rfl) rfl ?_
    refine ao_read trivial (r_move rfl) rfl ?_
    refine ao_read trivial (r_idxAddr_os Try.underlying23 Try.sizeOf3 rfl rfl rfl (by omega) (show i2 < (s1.2.length : Int) from by omega)) rfl ?_
    refine ao_effS trivial (e_store_elem_int Try.sizeOf3 rfl rfl rfl rfl (show i2.toNat < s1.2.length from by omega) rfl) ?_
    refine ao_nil ?_
    refine aq_then ?_
    refine aw_region ?_
    refine ao_read trivial (r_move rfl) rfl ?_
    refine ao_read trivial (r_add rfl rfl) rfl ?_
    refine ao_read trivial (r_assign rfl) rfl ?_
    refine ao_nil ?_
    refine aq_in ?_
    refine aq_then ?_
    refine aw_region ?_
    refine ao_read trivial (r_move rfl) rfl ?_
    refine ao_read trivial (r_addI rfl rfl (wrap_id (by omega) (by omega))) rfl ?_
    refine ao_read trivial (r_assign rfl) rfl ?_
    refine ao_nil ?_
    exact aq_again (AL.sub (sub_mk idn (by exact ⟨⟨_, rfl, ad_ren rfl⟩, ⟨_, rfl, ad_ren rfl⟩, ⟨_, rfl, ad_ren rfl⟩, trivial⟩) (by exact ⟨⟨_, rfl, rfl⟩, trivial⟩) (by rfl) (nk1 rfl rfl)) (ih3 d3 (i2 + 1) ((IntKind.wrap .i64 (s1.1 + 1)), (s1.2.set i2.toNat s1.1)) (by omega) ⟨by omega, (by (try simp only [List.length_set, List.length_append, List.length_cons, List.length_nil, List.length_replicate, List.length_take, List.length_drop]) <;> omega), (by (try simp only [List.length_set, List.length_append, List.length_cons, List.length_nil, List.length_replicate, List.length_take, List.length_drop]) <;> omega), (by (try simp only [List.length_set, List.length_append, List.length_cons, List.length_nil, List.length_replicate, List.length_take, List.length_drop]) <;> omega)⟩ h))
  · have q7 := d_f hb5
    obtain rfl : d3 = 0 := by omega
    replace h := is_cnt0 h
    refine aw_exit ?_
    refine aq_then_exit ?_
    refine aq_then_exit ?_
    refine aq_in_exit ?_
    refine aq_then ?_
    refine aw_seq ?_
    refine aw_region ?_
    refine ao_read trivial (r_move rfl) rfl ?_
    refine ao_read trivial (r_assign rfl) rfl ?_
    refine ao_nil ?_
    refine aq_then ?_
    refine aw_ret ?_
    refine aq_ret ?_
    obtain rfl := is_eq h
    exact aq_finx (l := [.tmp 4]) (xs := [.int .i64 s1.1]) idn [.int .i64 s1.1] [(0, .row (.int .i64) s1.2)] rfl (by exact ⟨rfl, trivial⟩) (by exact ⟨ad_ren rfl, trivial⟩) (by exact ⟨⟨_, rfl, rfl⟩, trivial⟩) rfl (nk1 rfl rfl) rfl rfl ⟨rfl, rfl⟩
theorem c_laws_markIntA2S {x0 : (List (List Int))} {x1 : Int} {r : Int × (List (List Int))} (h : Is (p_laws_markIntA2S x0 x1) r) :
    ACalls Try.prog 39 [.os 0, .int .i64 x1] [(0, .row (.arr 2 (.int .i64)) x0)] (fun r' H' => r' = .int .i64 r.1 ∧ H' = [(0, .row (.arr 2 (.int .i64)) r.2)]) := by
  unfold p_laws_markIntA2S at h
  refine ac_enter ⟨26, 1⟩ Try.func39 rfl rfl rfl rfl rfl (fun Γ => ?_)
  refine row_len_m 0 (x0.length : Int) rfl rfl (fun hr0 => ?_)
  refine aw_seq ?_
  refine aw_region ?_
  refine ao_read trivial (r_assign rfl) rfl ?_
  refine ao_nil ?_
  refine aq_then ?_
  refine aw_seq ?_
  refine aw_seq ?_
  refine aw_region ?_
  refine ao_read trivial (r_assign rfl) rfl ?_
  refine ao_nil ?_
  refine aq_then ?_
  refine aw_block ?_
  refine aw_loop (AL.sub (fr' := [(0, .os 0), (1, .int .i64 x1), (5, .int .i64 0)]) (H' := [(0, .row (.arr 2 (.int .i64)) x0)]) (sub_mk idn (by exact ⟨⟨_, rfl, ad_ren rfl⟩, ⟨_, rfl, ad_ren rfl⟩, ⟨_, rfl, ad_ren rfl⟩, trivial⟩) (by exact ⟨⟨_, rfl, rfl⟩, trivial⟩) (by rfl) (nk1 rfl rfl)) (al_cnt (fun i2 (s1 : Int × (List (List Int))) => [(0, .os 0), (1, .int .i64 s1.1), (5, .int .i64 i2)]) (fun i2 (s1 : Int × (List (List Int))) => [(0, .row (.arr 2 (.int .i64)) s1.2)]) (fun d i2 (s1 : Int × (List (List Int))) => d = Int.toNat ((x0.length : Int) - i2) ∧ 0 ≤ i2 ∧ (s1.2.length : Int) = (x0.length : Int) ∧ i2 ≤ (x0.length : Int)) h ⟨rfl, (by (try simp only [List.length_set, List.length_append, List.length_cons, List.length_nil, List.length_replicate, List.length_take, List.length_drop]) <;> omega), (by (try simp only [List.length_set, List.length_append, List.length_cons, List.length_nil, List.length_replicate, List.length_take, List.length_drop]) <;> omega), (by (try simp only [List.length_set, List.length_append, List.length_cons, List.length_nil, List.length_replicate, List.length_take, List.length_drop]) <;> omega)⟩ (fun d3 i2 s1 hI h ih3 => ?_)))
  obtain ⟨hd, _, _, _⟩ := hI
  refine al_round ?_
  refine aw_seq ?_
  refine aw_seq ?_
  refine aw_region ?_
  refine ao_read trivial (r_move rfl) rfl ?_
  refine ao_read trivial (r_move rfl) rfl ?_
  refine ao_read trivial (r_len_osm (x0.length : Int) Try.underlying44 rfl rfl (show (s1.2.length : Int) = (x0.length : Int) from by omega)) rfl ?_
  refine ao_read trivial (r_lss rfl rfl) rfl ?_
  refine ao_nil ?_
  refine aq_then ?_
  refine aw_cond rfl (fun hb5 => ?_) (fun hb5 => ?_)
  · have q6 := d_t hb5
    obtain ⟨d3, rfl⟩ : ∃ e, d3 = e + 1 := ⟨d3 - 1, by omega⟩
    replace h := is_cntS h
    refine aw_skip ?_
    refine aq_then ?_
    refine aw_seq ?_
    refine aw_block ?_
    refine aw_seq ?_
    refine aw_region ?_
    refine ao_read trivial (r_assign rfl) rfl ?_
    refine ao_nil ?_
    refine aq_then ?_
    refine aw_block ?_
    refine aw_loop (AL.sub (fr' := [(0, .os 0), (1, .int .i64 s1.1), (5, .int .i64 i2), (6, .int .i64 0)]) (H' := [(0, .row (.arr 2 (.int .i64)) s1.2)]) (sub_mk idn (by exact ⟨⟨_, rfl, ad_ren rfl⟩, ⟨_, rfl, ad_ren rfl⟩, ⟨_, rfl, ad_ren rfl⟩, ⟨_, rfl, ad_ren rfl⟩, trivial⟩) (by exact ⟨⟨_, rfl, rfl⟩, trivial⟩) (by rfl) (nk1 rfl rfl)) (al_cnt (fun i9 (s8 : Int × (List (List Int))) => [(0, .os 0), (1, .int .i64 s8.1), (5, .int .i64 i2), (6, .int .i64 i9)]) (fun i9 (s8 : Int × (List (List Int))) => [(0, .row (.arr 2 (.int .i64)) s8.2)]) (fun d i9 (s8 : Int × (List (List Int))) => d = Int.toNat (2 - i9) ∧ 0 ≤ i9 ∧ (s8.2.length : Int) = (x0.length : Int) ∧ i9 ≤ 2) h ⟨rfl, (by (try simp only [List.length_set, List.length_append, List.length_cons, List.length_nil, List.length_replicate, List.length_take, List.length_drop]) <;> omega), (by (try simp only [List.length_set, List.length_append, List.length_cons, List.length_nil, List.length_replicate, List.length_take, List.length_drop]) <;> omega), (by (try simp only [List.length_set, List.length_append, List.length_cons, List.length_nil, List.length_replicate, List.length_take, List.length_drop]) <;> omega)⟩ (fun d10 i9 s8 hI h ih10 => ?_)))
    obtain ⟨hd, _, _, _⟩ := hI
    refine al_round ?_
    refine aw_seq ?_
    refine aw_seq ?_
    refine aw_region ?_
    refine ao_read trivial (r_move rfl) rfl ?_
    refine ao_read trivial (r_lss rfl rfl) rfl ?_
    refine ao_nil ?_
    refine aq_then ?_
    refine aw_cond rfl (fun hb12 => ?_) (fun hb12 => ?_)
    · have q13 := d_t hb12
      obtain ⟨d10, rfl⟩ : ∃ e, d10 = e + 1 := ⟨d10 - 1, by omega⟩
      replace h := is_cntS h
      refine aw_skip ?_
      refine aq_then ?_
      refine aw_seq ?_
      refine aw_block ?_
      refine aw_seq ?_
      refine aw_region ?_
      refine ao_read trivial (r_move rfl) rfl ?_
      refine ao_read trivial (r_move rfl) rfl ?_
      refine ao_read trivial (r_move rfl) rfl ?_
      refine ao_read trivial (r_move rfl) rfl ?_
      refine ao_read trivial (r_idxAddr_os Try.underlying44 Try.sizeOf37 rfl rfl rfl (by omega) (show i2 < (s8.2.length : Int) from by omega)) rfl ?_
      refine ao_read trivial (r_idxAddr_elem Try.underlying37 Try.sizeOf3 rfl rfl (by omega) (by omega)) rfl ?_
      refine ao_effS trivial (e_store_elem2_int (m := 2) Try.sizeOf3 rfl rfl rfl rfl rfl (show i2.toNat < s8.2.length from by omega) rfl (by omega) rfl) ?_
      refine ao_nil ?_
      refine aq_then ?_
      refine aw_region ?_
      refine ao_read trivial (r_move rfl) rfl ?_
      refine ao_read trivial (r_add rfl rfl) rfl ?_
      refine ao_read trivial (r_assign rfl) rfl ?_
      refine ao_nil ?_
      refine aq_in ?_
      refine aq_then ?_
      refine aw_region ?_
      refine ao_read trivial (r_move rfl) rfl ?_
      refine ao_read trivial (r_addI rfl rfl (wrap_id (by omega) (by omega))) rfl ?_
      refine ao_read trivial (r_assign rfl) rfl ?_
      refine ao_nil ?_
      exact aq_again (AL.sub (sub_mk idn (by exact ⟨⟨_, rfl, ad_ren rfl⟩, ⟨_, rfl, ad_ren rfl⟩, ⟨_, rfl, ad_ren rfl⟩, ⟨_, rfl, ad_ren rfl⟩, trivial⟩) (by exact ⟨⟨_, rfl, rfl⟩, trivial⟩) (by rfl) (nk1 rfl rfl)) (ih10 d10 (i9 + 1) ((IntKind.wrap .i64 (s8.1 + 1)), (s8.2.set i2.toNat ((s8.2.getD i2.toNat (List.replicate 2 0)).set i9.toNat s8.1))) (by omega) ⟨by omega, (by (try simp only [List.length_set, List.length_append, List.length_cons, List.length_nil, List.length_replicate, List.length_take, List.length_drop]) <;> omega), (by (try simp only [List.length_set, List.length_append, List.length_cons, List.length_nil, List.length_replicate, List.length_take, List.length_drop]) <;> omega), (by (try simp only [List.length_set, List.length_append, List.length_cons, List.length_nil, List.length_replicate, List.length_take, List.length_drop]) <;> omega)⟩ h))
    · have q14 := d_f hb12
      obtain rfl : d10 = 0 := by omega
      replace h := is_cnt0 h
      refine aw_exit ?_
      refine aq_then_exit ?_
      refine aq_then_exit ?_
      refine aq_in_exit ?_
      refine aq_in ?_
      refine aq_then ?_
      refine aw_region ?_
      refine ao_read trivial (r_move rfl) rfl ?_
      refine ao_read trivial (r_addI rfl rfl (wrap_id (by omega) (by omega))) rfl ?_
      refine ao_read trivial (r_assign rfl) rfl ?_
      refine ao_nil ?_
      exact aq_again (AL.sub (sub_mk idn (by exact ⟨⟨_, rfl, ad_ren rfl⟩, ⟨_, rfl, ad_ren rfl⟩, ⟨_, rfl, ad_ren rfl⟩, trivial⟩) (by exact ⟨⟨_, rfl, rfl⟩, trivial⟩) (by rfl) (nk1 rfl rfl)) (ih3 d3 (i2 + 1) (s8.1, s8.2) (by omega) ⟨by omega, (by (try simp only [List.length_set, List.length_append, List.length_cons, List.length_nil, List.length_replicate, List.length_take, List.length_drop]) <;> omega), (by (try simp only [List.length_set, List.length_append, List.length_cons, List.length_nil, List.length_replicate, List.length_take, List.length_drop]) <;> omega), (by (try simp only [List.length_set, List.length_append, List.length_cons, List.length_nil, List.length_replicate, List.length_take, List.length_drop]) <;> omega)⟩ h))
  · have q7 := d_f hb5
    obtain rfl : d3 = 0 := by omega
    replace h := is_cnt0 h
    refine aw_exit ?_
    refine aq_then_exit ?_
    refine aq_then_exit ?_
    refine aq_in_exit ?_
    refine aq_then ?_
    refine aw_seq ?_
    refine aw_region ?_
    refine ao_read trivial (r_move rfl) rfl ?_
    refine ao_read trivial (r_assign rfl) rfl ?_
    refine ao_nil ?_
    refine aq_then ?_
    refine aw_ret ?_
    refine aq_ret ?_
    obtain rfl := is_eq h
    exact aq_finx (l := [.tmp 4]) (xs := [.int .i64 s1.1]) idn [.int .i64 s1.1] [(0, .row (.arr 2 (.int .i64)) s1.2)] rfl (by exact ⟨rfl, trivial⟩) (by exact ⟨ad_ren rfl, trivial⟩) (by exact ⟨⟨_, rfl, rfl⟩, trivial⟩) rfl (nk1 rfl rfl) rfl rfl ⟨rfl, rfl⟩
theorem c_laws_heldIntA2S {x0 : (List (List Int))} {x1 : Int} {r : Int} (h : Is (p_laws_heldIntA2S x0 x1) r) :
    Scalar Try.prog 40 [.v (.slice (.arr 2 (.int .i64))) x0, .int .i64 x1] (.int .i64 r) := by
  unfold p_laws_heldIntA2S at h
  refine ac_enter ⟨28, 0⟩ Try.func40 rfl rfl rfl rfl rfl (fun Γ => ?_)
  refine sl_len_m 0 (x0.length : Int) rfl rfl (fun hl0 => ?_)
  refine aw_seq ?_
  refine aw_region ?_
  refine ao_read trivial (r_assign rfl) rfl ?_
  refine ao_nil ?_
  refine aq_then ?_
  refine aw_seq ?_
  refine aw_seq ?_
  refine aw_region ?_
  refine ao_read trivial (r_assign rfl) rfl ?_
  refine ao_nil ?_
  refine aq_then ?_
  refine aw_block ?_
  refine aw_loop (AL.sub (fr' := [(0, .v (.slice (.arr 2 (.int .i64))) x0), (1, .int .i64 x1), (5, .int .i64 0)]) (H' := []) (sub_mk idn (by exact ⟨⟨_, rfl, ad_ren rfl⟩, ⟨_, rfl, ad_ren rfl⟩, ⟨_, rfl, ad_ren rfl⟩, trivial⟩) (by exact trivial) (by rfl) (nk rfl)) (al_cnt (fun i2 (s1 : Int) => [(0, .v (.slice (.arr 2 (.int .i64))) x0), (1, .int .i64 s1), (5, .int .i64 i2)]) (fun i2 (s1 : Int) => []) (fun d i2 (s1 : Int) => d = Int.toNat ((x0.length : Int) - i2) ∧ 0 ≤ i2 ∧ i2 ≤ (x0.length : Int)) h ⟨rfl, (by (try simp only [List.length_set, List.length_append, List.length_cons, List.length_nil, List.length_replicate, List.length_take, List.length_drop]) <;> omega), (by (try simp only [List.length_set, List.length_append, List.length_cons, List.length_nil, List.length_replicate, List.length_take, List.length_drop]) <;> omega)⟩ (fun d3 i2 s1 hI h ih3 => ?_)))
  obtain ⟨hd, _, _⟩ := hI
  refine al_round ?_
  refine aw_seq ?_
  refine aw_seq ?_
  refine aw_region ?_
  refine ao_read trivial (r_move rfl) rfl ?_
  refine ao_read trivial (r_move rfl) rfl ?_
  refine ao_read trivial (r_len_vm (x0.length : Int) Try.underlying44 rfl rfl) rfl ?_
  refine ao_read trivial (r_lss rfl rfl) rfl ?_
  refine ao_nil ?_
  refine aq_then ?_
  refine aw_cond rfl (fun hb5 => ?_) (fun hb5 => ?_)
  · have q6 := d_t hb5
    obtain ⟨d3, rfl⟩ : ∃ e, d3 = e + 1 := ⟨d3 - 1, by omega⟩
    replace h := is_cntS h
    refine aw_skip ?_
    refine aq_then ?_
    refine aw_seq ?_
    refine aw_block ?_
    refine aw_seq ?_
    refine aw_region ?_
    refine ao_read trivial (r_assign rfl) rfl ?_
    refine ao_nil ?_
    refine aq_then ?_
    refine aw_block ?_
    refine aw_loop (AL.sub (fr' := [(0, .v (.slice (.arr 2 (.int .i64))) x0), (1, .int .i64 s1), (5, .int .i64 i2), (6, .int .i64 0)]) (H' := []) (sub_mk idn (by exact ⟨⟨_, rfl, ad_ren rfl⟩, ⟨_, rfl, ad_ren rfl⟩, ⟨_, rfl, ad_ren rfl⟩, ⟨_, rfl, ad_ren rfl⟩, trivial⟩) (by exact trivial) (by rfl) (nk rfl)) (al_cnt (fun i9 (s8 : Int) => [(0, .v (.slice (.arr 2 (.int .i64))) x0), (1, .int .i64 s8), (5, .int .i64 i2), (6, .int .i64 i9)]) (fun i9 (s8 : Int) => []) (fun d i9 (s8 : Int) => d = Int.toNat (2 - i9) ∧ 0 ≤ i9 ∧ i9 ≤ 2) h ⟨rfl, (by (try simp only [List.length_set, List.length_append, List.length_cons, List.length_nil, List.length_replicate, List.length_take, List.length_drop]) <;> omega), (by (try simp only [List.length_set, List.length_append, List.length_cons, List.length_nil, List.length_replicate, List.length_take, List.length_drop]) <;> omega)⟩ (fun d10 i9 s8 hI h ih10 => ?_)))
    obtain ⟨hd, _, _⟩ := hI
    refine al_round ?_
    refine aw_seq ?_
    refine aw_seq ?_
    refine aw_region ?_
    refine ao_read trivial (r_move rfl) rfl ?_
    refine ao_read trivial (r_lss rfl rfl) rfl ?_
    refine ao_nil ?_
    refine aq_then ?_
    refine aw_cond rfl (fun hb12 => ?_) (fun hb12 => ?_)
    · have q13 := d_t hb12
      obtain ⟨d10, rfl⟩ : ∃ e, d10 = e + 1 := ⟨d10 - 1, by omega⟩
      replace h := is_cntS h
      refine aw_skip ?_
      refine aq_then ?_
      refine aw_seq ?_
      refine aw_block ?_
      refine aw_seq ?_
      refine aw_seq ?_
      refine aw_region ?_
      refine ao_read trivial (r_move rfl) rfl ?_
      refine ao_read trivial (r_move rfl) rfl ?_
      refine ao_read trivial (r_move rfl) rfl ?_
      refine ao_read trivial (r_idxAddr (t := (.arr 2 (.int .i64))) Try.underlying44 Try.sizeOf37 rfl rfl (by omega) (show i2 < (x0.length : Int) from by omega)) rfl ?_
      refine ao_read trivial (r_idxAddr_ca (t := (.int .i64)) Try.underlying37 Try.sizeOf3 rfl rfl (by omega) (by omega)) rfl ?_
      refine ao_read trivial (r_load_c_int Try.isAgg3 Try.sizeOf3 rfl) rfl ?_
      refine ao_read trivial (r_move rfl) rfl ?_
      refine ao_read trivial (r_neq rfl rfl) rfl ?_
      refine ao_nil ?_
      refine aq_then ?_
      refine aw_cond rfl (fun hb15 => ?_) (fun hb15 => ?_)
      · have q16 := d_f (not_t hb15)
        replace h := is_else (d_f (not_t hb15)) h
        refine aw_seq ?_
        refine aw_region ?_
        refine ao_read trivial (r_assign rfl) rfl ?_
        refine ao_nil ?_
        refine aq_then ?_
        refine aw_ret ?_
        refine aq_then_ret ?_
        refine aq_in_ret ?_
        refine aq_then_ret ?_
        refine aq_then_ret ?_
        refine aq_in_ret ?_
        refine aq_in_ret ?_
        refine aq_then_ret ?_
        refine aq_then_ret ?_
        refine aq_in_ret ?_
        refine aq_then_ret ?_
        refine aq_ret ?_
        obtain rfl := is_eq h
        exact aq_finx (l := [.tmp 4]) (xs := [.int .i64 (-1)]) idn [.int .i64 (-1)] [] rfl (by exact ⟨rfl, trivial⟩) (by exact ⟨ad_ren rfl, trivial⟩) (by exact trivial) rfl (nk rfl) rfl rfl ⟨rfl, rfl⟩
      · have q17 := d_t (not_f hb15)
        replace h := is_if (d_t (not_f hb15)) h
        refine aw_skip ?_
        refine aq_then ?_
        refine aw_region ?_
        refine ao_read trivial (r_move rfl) rfl ?_
        refine ao_read trivial (r_add rfl rfl) rfl ?_
        refine ao_read trivial (r_assign rfl) rfl ?_
        refine ao_nil ?_
        refine aq_in ?_
        refine aq_then ?_
        refine aw_region ?_
        refine ao_read trivial (r_move rfl) rfl ?_
        refine ao_read trivial (r_addI rfl rfl (wrap_id (by omega) (by omega))) rfl ?_
        refine ao_read trivial (r_assign rfl) rfl ?_
        refine ao_nil ?_
        exact aq_again (AL.sub (sub_mk idn (by exact ⟨⟨_, rfl, ad_ren rfl⟩, ⟨_, rfl, ad_ren rfl⟩, ⟨_, rfl, ad_ren rfl⟩, ⟨_, rfl, ad_ren rfl⟩, trivial⟩) (by exact trivial) (by rfl) (nk rfl)) (ih10 d10 (i9 + 1) (IntKind.wrap .i64 (s8 + 1)) (by omega) ⟨by omega, (by (try simp only [List.length_set, List.length_append, List.length_cons, List.length_nil, List.length_replicate, List.length_take, List.length_drop]) <;> omega), (by (try simp only [List.length_set, List.length_append, List.length_cons, List.length_nil, List.length_replicate, List.length_take, List.length_drop]) <;> omega)⟩ h))
    · have q14 := d_f hb12
      obtain rfl : d10 = 0 := by omega
      replace h := is_cnt0 h
      refine aw_exit ?_
      refine aq_then_exit ?_
      refine aq_then_exit ?_
      refine aq_in_exit ?_
      refine aq_in ?_
      refine aq_then ?_
      refine aw_region ?_
      refine ao_read trivial (r_move rfl) rfl ?_
      refine ao_read trivial (r_addI rfl rfl (wrap_id (by omega) (by omega))) rfl ?_
      refine ao_read trivial (r_assign rfl) rfl ?_
      refine ao_nil ?_
      exact aq_again (AL.sub (sub_mk idn (by exact ⟨⟨_, rfl, ad_ren rfl⟩, ⟨_, rfl, ad_ren rfl⟩, ⟨_, rfl, ad_ren rfl⟩, trivial⟩) (by exact trivial) (by rfl) (nk rfl)) (ih3 d3 (i2 + 1) s8 (by omega) ⟨by omega, (by (try simp only [List.length_set, List.length_append, List.length_cons, List.length_nil, List.length_replicate, List.length_take, List.length_drop]) <;> omega), (by (try simp only [List.length_set, List.length_append, List.length_cons, List.length_nil, List.length_replicate, List.length_take, List.length_drop]) <;> omega)⟩ h))
  · have q7 := d_f hb5
    obtain rfl : d3 = 0 := by omega
    replace h := is_cnt0 h
    refine aw_exit ?_
    refine aq_then_exit ?_
    refine aq_then_exit ?_
    refine aq_in_exit ?_
    refine aq_then ?_
    refine aw_seq ?_
    refine aw_region ?_
    refine ao_read trivial (r_move rfl) rfl ?_
    refine ao_read trivial (r_assign rfl) rfl ?_
    refine ao_nil ?_
    refine aq_then ?_
    refine aw_ret ?_
    refine aq_ret ?_
    obtain rfl := is_eq h
    exact aq_finx (l := [.tmp 4]) (xs := [.int .i64 s1]) idn [.int .i64 s1] [] rfl (by exact ⟨rfl, trivial⟩) (by exact ⟨ad_ren rfl, trivial⟩) (by exact trivial) rfl (nk rfl) rfl rfl ⟨rfl, rfl⟩
theorem c_laws_FnExactWhichDie {fu : Nat} {x0 : (List (List Int))} {x1 : (List Int)} {x2 : (List Int)} {r : Bool} (h : Is (p_laws_FnExactWhichDie fu x0 x1 x2) (some r)) :
    Scalar Try.prog 8 [.v (.slice (.arr 6 (.int .i64))) x0, .v (.slice (.int .i64)) x1, .v (.slice (.int .i64)) x2] (.bool r) := by
  unfold p_laws_FnExactWhichDie at h
  refine ac_enter ⟨138, 0⟩ Try.func8 rfl rfl rfl rfl rfl (fun Γ => ?_)
  refine sl_len_m 0 (x0.length : Int) rfl rfl (fun hl0 => ?_)
  refine sl_len_m 1 (x1.length : Int) rfl rfl (fun hl1 => ?_)
  refine sl_len_m 2 (x2.length : Int) rfl rfl (fun hl2 => ?_)
  refine aw_seq ?_
  refine aw_region ?_
  refine ao_read trivial (r_assign rfl) rfl ?_
  refine ao_nil ?_
  refine aq_then ?_
  refine aw_seq ?_
  refine aw_seq ?_
  refine aw_region ?_
  refine ao_read trivial (r_move rfl) rfl ?_
  refine ao_read trivial (r_len_vm (x1.length : Int) Try.underlying23 rfl rfl) rfl ?_
  refine ao_read trivial (r_gtr rfl rfl) rfl ?_
  refine ao_nil ?_
  refine aq_then ?_
  refine aw_cond rfl (fun hb1 => ?_) (fun hb1 => ?_)
  · have q2 := d_t hb1
    replace h := is_if (d_t hb1) h
    refine aw_seq ?_
    refine aw_region ?_
    refine ao_read trivial (r_assign rfl) rfl ?_
    refine ao_nil ?_
    refine aq_then ?_
    refine aw_ret ?_
    refine aq_then_ret ?_
    refine aq_ret ?_
    obtain rfl := is_some h
    exact aq_finx (l := [.tmp 6]) (xs := [.bool true]) idn [.bool true] [] rfl (by exact ⟨rfl, trivial⟩) (by exact ⟨ad_ren rfl, trivial⟩) (by exact trivial) rfl (nk rfl) rfl rfl ⟨rfl, rfl⟩
  · have q3 := d_f hb1
    replace h := is_else (d_f hb1) h
    refine aw_skip ?_
    refine aq_then ?_
    refine aw_seq ?_
    refine aw_seq ?_
    refine aw_region ?_
    refine ao_read trivial (r_move rfl) rfl ?_
    refine ao_read trivial (r_len_vm (x2.length : Int) Try.underlying23 rfl rfl) rfl ?_
    refine ao_read trivial (r_gtr rfl rfl) rfl ?_
    refine ao_nil ?_
    refine aq_then ?_
    refine aw_cond rfl (fun hb4 => ?_) (fun hb4 => ?_)
    · have q5 := d_t hb4
      replace h := is_if (d_t hb4) h
      refine aw_seq ?_
      refine aw_region ?_
      refine ao_read trivial (r_assign rfl) rfl ?_
      refine ao_nil ?_
      refine aq_then ?_
      refine aw_ret ?_
      refine aq_then_ret ?_
      refine aq_ret ?_
      obtain rfl := is_some h
      exact aq_finx (l := [.tmp 6]) (xs := [.bool true]) idn [.bool true] [] rfl (by exact ⟨rfl, trivial⟩) (by exact ⟨ad_ren rfl, trivial⟩) (by exact trivial) rfl (nk rfl) rfl rfl ⟨rfl, rfl⟩
    · have q6 := d_f hb4
      replace h := is_else (d_f hb4) h
      refine aw_skip ?_
      refine aq_then ?_
      refine aw_seq ?_
      refine aw_region ?_
      refine ao_read trivial (r_assign rfl) rfl ?_
      refine ao_nil ?_
      refine aq_then ?_
      refine aw_seq ?_
      refine aw_region ?_
      refine ao_read trivial (r_move rfl) rfl ?_
      refine ao_read trivial (r_move rfl) rfl ?_
      refine ao_scall trivial (scall (c_laws_szIntA6S (is_mk (rfl : p_laws_szIntA6S x0 1048576 = _))) rfl Try.func32 rfl rfl rfl rfl (fun σ => ⟨ad_ren rfl, ad_ren rfl, trivial⟩)) rfl ?_
      refine ao_read trivial (r_assign rfl) rfl ?_
      refine ao_nil ?_
      refine aq_then ?_
      refine aw_seq ?_
      refine aw_seq ?_
      refine aw_region ?_
      refine ao_read trivial (r_move rfl) rfl ?_
      refine ao_read trivial (r_lss rfl rfl) rfl ?_
      refine ao_nil ?_
      refine aq_then ?_
      refine aw_cond rfl (fun hb7 => ?_) (fun hb7 => ?_)
      · have q8 := d_t hb7
        replace h := is_if (d_t hb7) h
        refine aw_seq ?_
        refine aw_region ?_
        refine ao_read trivial (r_assign rfl) rfl ?_
        refine ao_nil ?_
        refine aq_then ?_
        refine aw_ret ?_
        refine aq_then_ret ?_
        refine aq_ret ?_
        obtain rfl := is_some h
        exact aq_finx (l := [.tmp 6]) (xs := [.bool true]) idn [.bool true] [] rfl (by exact ⟨rfl, trivial⟩) (by exact ⟨ad_ren rfl, trivial⟩) (by exact trivial) rfl (nk rfl) rfl rfl ⟨rfl, rfl⟩
      · have q9 := d_f hb7
        replace h := is_else (d_f hb7) h
        refine aw_skip ?_
        refine aq_then ?_
        refine aw_seq ?_
        refine aw_region ?_
        refine ao_read trivial (r_move rfl) rfl ?_
        obtain ⟨r10, r10h, h⟩ := is_bind h
        refine ao_call [] 0 trivial (c_laws_toIntA6S (is_mk r10h)) Try.func34 rfl rfl rfl rfl ⟨ad_ren rfl, trivial⟩ trivial rfl rfl rfl rfl rfl rfl rfl (fun r' H' hr => ?_)
        obtain ⟨rfl, rfl⟩ := hr
        refine ao_norm (y := .os 0) (H' := [(0, .row (.arr 6 (.int .i64)) r10)]) rfl rfl ?_
        refine row_len_o 0 (r10.length : Int) rfl rfl (fun hr11 => ?_)
        refine ao_read trivial (r_move rfl) rfl ?_
        obtain ⟨r12, r12h, h⟩ := is_bind h
        refine ao_call [] 1 trivial (c_laws_toIntS (is_mk r12h)) Try.func15 rfl rfl rfl rfl ⟨ad_ren rfl, trivial⟩ trivial rfl rfl rfl rfl rfl rfl rfl (fun r' H' hr => ?_)
        obtain ⟨rfl, rfl⟩ := hr
        refine ao_norm (y := .os 1) (H' := [(0, .row (.arr 6 (.int .i64)) r10), (1, .row (.int .i64) r12)]) rfl rfl ?_
        refine row_len_o 1 (r12.length : Int) rfl rfl (fun hr13 => ?_)
        refine ao_read trivial (r_move rfl) rfl ?_
        obtain ⟨r14, r14h, h⟩ := is_bind h
        refine ao_call [] 2 trivial (c_laws_toIntS (is_mk r14h)) Try.func15 rfl rfl rfl rfl ⟨ad_ren rfl, trivial⟩ trivial rfl rfl rfl rfl rfl rfl rfl (fun r' H' hr => ?_)
        obtain ⟨rfl, rfl⟩ := hr
        refine ao_norm (y := .os 2) (H' := [(0, .row (.arr 6 (.int .i64)) r10), (1, .row (.int .i64) r12), (2, .row (.int .i64) r14)]) rfl rfl ?_
        refine row_len_o 2 (r14.length : Int) rfl rfl (fun hr15 => ?_)
        obtain ⟨r16, r16h, h⟩ := is_bind h
        refine ao_call [] 3 trivial (c_spec_WhichDie (is_mk r16h)) Try.func33 rfl rfl rfl rfl ⟨ad_os0 rfl, ad_os0 rfl, ad_os0 rfl, trivial⟩ trivial rfl rfl rfl rfl rfl rfl rfl (fun r' H' hr => ?_)
        obtain ⟨rfl, rfl⟩ := hr
        refine ao_norm (y := .tup [.os 3, .bool r16.2]) (H' := [(0, .row (.arr 6 (.int .i64)) r10), (1, .row (.int .i64) r12), (2, .row (.int .i64) r14), (3, .row (.arr 2 (.int .i64)) r16.1)]) rfl rfl ?_
        refine row_len_o 3 (r16.1.length : Int) rfl rfl (fun hr17 => ?_)
        refine ao_read trivial (r_move rfl) rfl ?_
        refine ao_read trivial (r_extract rfl rfl) rfl ?_
        refine ao_read trivial (r_extract rfl rfl) rfl ?_
        refine ao_read trivial (r_assign rfl) rfl ?_
        refine ao_read trivial (r_assign rfl) rfl ?_
        refine ao_nil ?_
        refine aq_then ?_
        refine aw_seq ?_
        refine aw_region ?_
        refine ao_read trivial (r_move rfl) rfl ?_
        obtain ⟨r18, r18h, h⟩ := is_bind h
        refine ao_call [] 4 trivial (c_laws_toIntA6S (is_mk r18h)) Try.func34 rfl rfl rfl rfl ⟨ad_ren rfl, trivial⟩ trivial rfl rfl rfl rfl rfl rfl rfl (fun r' H' hr => ?_)
        obtain ⟨rfl, rfl⟩ := hr
        refine ao_norm (y := .os 4) (H' := [(0, .row (.arr 6 (.int .i64)) r10), (1, .row (.int .i64) r12), (2, .row (.int .i64) r14), (3, .row (.arr 2 (.int .i64)) r16.1), (4, .row (.arr 6 (.int .i64)) r18)]) rfl rfl ?_
        refine row_len_o 4 (r18.length : Int) rfl rfl (fun hr19 => ?_)
        refine ao_read trivial (r_assign rfl) rfl ?_
        refine ao_nil ?_
        refine aq_then ?_
        refine aw_seq ?_
        refine aw_region ?_
        refine ao_read trivial (r_move rfl) rfl ?_
        obtain ⟨r20, r20h, h⟩ := is_bind h
        refine ao_call [] 5 trivial (c_laws_toIntS (is_mk r20h)) Try.func15 rfl rfl rfl rfl ⟨ad_ren rfl, trivial⟩ trivial rfl rfl rfl rfl rfl rfl rfl (fun r' H' hr => ?_)
        obtain ⟨rfl, rfl⟩ := hr
        refine ao_norm (y := .os 5) (H' := [(0, .row (.arr 6 (.int .i64)) r10), (1, .row (.int .i64) r12), (2, .row (.int .i64) r14), (3, .row (.arr 2 (.int .i64)) r16.1), (4, .row (.arr 6 (.int .i64)) r18), (5, .row (.int .i64) r20)]) rfl rfl ?_
        refine row_len_o 5 (r20.length : Int) rfl rfl (fun hr21 => ?_)
        refine ao_read trivial (r_assign rfl) rfl ?_
        refine ao_nil ?_
        refine aq_then ?_
        refine aw_seq ?_
        refine aw_region ?_
        refine ao_read trivial (r_move rfl) rfl ?_
        obtain ⟨r22, r22h, h⟩ := is_bind h
        refine ao_call [] 6 trivial (c_laws_toIntS (is_mk r22h)) Try.func15 rfl rfl rfl rfl ⟨ad_ren rfl, trivial⟩ trivial rfl rfl rfl rfl rfl rfl rfl (fun r' H' hr => ?_)
        obtain ⟨rfl, rfl⟩ := hr
        refine ao_norm (y := .os 6) (H' := [(0, .row (.arr 6 (.int .i64)) r10), (1, .row (.int .i64) r12), (2, .row (.int .i64) r14), (3, .row (.arr 2 (.int .i64)) r16.1), (4, .row (.arr 6 (.int .i64)) r18), (5, .row (.int .i64) r20), (6, .row (.int .i64) r22)]) rfl rfl ?_
        refine row_len_o 6 (r22.length : Int) rfl rfl (fun hr23 => ?_)
        refine ao_read trivial (r_assign rfl) rfl ?_
        refine ao_nil ?_
        refine aq_then ?_
        refine aw_seq ?_
        refine aw_region ?_
        refine ao_read trivial (r_move rfl) rfl ?_
        refine ao_read trivial (r_move rfl) rfl ?_
        refine ao_read trivial (r_move rfl) rfl ?_
        obtain ⟨r24, r24h, h⟩ := is_bind h
        refine ao_call [] 7 trivial (c_impl_WhichDie (is_mk r24h)) Try.func35 rfl rfl rfl rfl ⟨ad_os0 rfl, ad_os0 rfl, ad_os0 rfl, trivial⟩ trivial rfl rfl rfl rfl rfl rfl rfl (fun r' H' hr => ?_)
        obtain ⟨rfl, rfl⟩ := hr
        refine ao_norm (y := .tup [.os 7, .bool r24.2]) (H' := [(0, .row (.arr 6 (.int .i64)) r10), (1, .row (.int .i64) r12), (2, .row (.int .i64) r14), (3, .row (.arr 2 (.int .i64)) r16.1), (4, .row (.arr 6 (.int .i64)) r18), (5, .row (.int .i64) r20), (6, .row (.int .i64) r22), (7, .row (.arr 2 (.int .i64)) r24.1)]) rfl rfl ?_
        refine row_len_o 7 (r24.1.length : Int) rfl rfl (fun hr25 => ?_)
        refine ao_read trivial (r_move rfl) rfl ?_
        refine ao_read trivial (r_extract rfl rfl) rfl ?_
        refine ao_read trivial (r_extract rfl rfl) rfl ?_
        refine ao_read trivial (r_assign rfl) rfl ?_
        refine ao_read trivial (r_assign rfl) rfl ?_
        refine ao_nil ?_
        refine aq_then ?_
        refine aw_seq ?_
        refine aw_seq ?_
        refine aw_region ?_
        refine ao_read trivial (r_move rfl) rfl ?_
        refine ao_read trivial (r_move rfl) rfl ?_
        refine ao_scall trivial (scall (c_laws_eqIntA2S (is_mk (rfl : p_laws_eqIntA2S r24.1 r16.1 = _))) rfl Try.func36 rfl rfl rfl rfl (fun σ => ⟨ad_os0 rfl, ad_os0 rfl, trivial⟩)) rfl ?_
        refine ao_read trivial (r_not rfl) rfl ?_
        refine ao_read trivial (r_move rfl) rfl ?_
        refine ao_readG (x := .bool r24.2) rfl (GV.F rfl) (fun hg26 => r_move rfl) rfl ?_
        refine ao_readG (x := .bool r16.2) rfl (GV.F rfl) (fun hg27 => r_move rfl) rfl ?_
        refine ao_readG (x := .bool (r24.2 != r16.2)) rfl (GV.F rfl) (fun hg28 => Reads.strip 59 rfl (hg28) (Reads.strip 60 rfl (hg28) (r_neq_bool Try.underlying4 rfl rfl))) rfl ?_
        refine ao_read trivial (r_orB rfl rfl) rfl ?_
        refine ao_nil ?_
        refine aq_then ?_
        refine aw_cond rfl (fun hb29 => ?_) (fun hb29 => ?_)
        · replace h := is_if hb29 h
          refine aw_seq ?_
          refine aw_region ?_
          refine ao_read trivial (r_assign rfl) rfl ?_
          refine ao_nil ?_
          refine aq_then ?_
          refine aw_ret ?_
          refine aq_then_ret ?_
          refine aq_ret ?_
          obtain rfl := is_some h
          exact aq_finx (l := [.tmp 6]) (xs := [.bool false]) idn [.bool false] [] rfl (by exact ⟨rfl, trivial⟩) (by exact ⟨ad_ren rfl, trivial⟩) (by exact trivial) rfl (nk rfl) rfl rfl ⟨rfl, rfl⟩
        · obtain ⟨q30, q31⟩ := or_f hb29
          replace h := is_else (ne_t hb29) h
          refine aw_skip ?_
          refine aq_then ?_
          refine aw_seq ?_
          refine aw_seq ?_
          refine aw_region ?_
          refine ao_read trivial (r_move rfl) rfl ?_
          refine ao_read trivial (r_move rfl) rfl ?_
          obtain ⟨r32, r32h, h⟩ := is_bind h
          refine ao_call [] 8 trivial (c_laws_toIntA6S (is_mk r32h)) Try.func34 rfl rfl rfl rfl ⟨ad_ren rfl, trivial⟩ trivial rfl rfl rfl rfl rfl rfl rfl (fun r' H' hr => ?_)
          obtain ⟨rfl, rfl⟩ := hr
          refine ao_norm (y := .os 8) (H' := [(0, .row (.arr 6 (.int .i64)) r10), (1, .row (.int .i64) r12), (2, .row (.int .i64) r14), (3, .row (.arr 2 (.int .i64)) r16.1), (4, .row (.arr 6 (.int .i64)) r18), (5, .row (.int .i64) r20), (6, .row (.int .i64) r22), (7, .row (.arr 2 (.int .i64)) r24.1), (8, .row (.arr 6 (.int .i64)) r32)]) rfl rfl ?_
          refine row_len_o 8 (r32.length : Int) rfl rfl (fun hr33 => ?_)
          refine ao_scall trivial (scall (c_laws_eqIntA6S (is_mk (rfl : p_laws_eqIntA6S r18 r32 = _))) rfl Try.func37 rfl rfl rfl rfl (fun σ => ⟨ad_os0 rfl, ad_os0 rfl, trivial⟩)) rfl ?_
          refine ao_read trivial (r_not rfl) rfl ?_
          refine ao_nil ?_
          refine aq_then ?_
          refine aw_cond rfl (fun hb34 => ?_) (fun hb34 => ?_)
          · replace h := is_else (ne_t (not_t hb34)) h
            refine aw_seq ?_
            refine aw_region ?_
            refine ao_read trivial (r_assign rfl) rfl ?_
            refine ao_nil ?_
            refine aq_then ?_
            refine aw_ret ?_
            refine aq_then_ret ?_
            refine aq_ret ?_
            obtain rfl := is_some h
            exact aq_finx (l := [.tmp 6]) (xs := [.bool false]) idn [.bool false] [] rfl (by exact ⟨rfl, trivial⟩) (by exact ⟨ad_ren rfl, trivial⟩) (by exact trivial) rfl (nk rfl) rfl rfl ⟨rfl, rfl⟩
          · replace h := is_if (not_f hb34) h
            refine aw_skip ?_
            refine aq_then ?_
            refine aw_seq ?_
            refine aw_seq ?_
            refine aw_region ?_
            refine ao_read trivial (r_move rfl) rfl ?_
            refine ao_read trivial (r_move rfl) rfl ?_
            obtain ⟨r35, r35h, h⟩ := is_bind h
            refine ao_call [] 9 trivial (c_laws_toIntS (is_mk r35h)) Try.func15 rfl rfl rfl rfl ⟨ad_ren rfl, trivial⟩ trivial rfl rfl rfl rfl rfl rfl rfl (fun r' H' hr => ?_)
            obtain ⟨rfl, rfl⟩ := hr
            refine ao_norm (y := .os 9) (H' := [(0, .row (.arr 6 (.int .i64)) r10), (1, .row (.int .i64) r12), (2, .row (.int .i64) r14), (3, .row (.arr 2 (.int .i64)) r16.1), (4, .row (.arr 6 (.int .i64)) r18), (5, .row (.int .i64) r20), (6, .row (.int .i64) r22), (7, .row (.arr 2 (.int .i64)) r24.1), (8, .row (.arr 6 (.int .i64)) r32), (9, .row (.int .i64) r35)]) rfl rfl ?_
            refine row_len_o 9 (r35.length : Int) rfl rfl (fun hr36 => ?_)
            refine ao_scall trivial (scall (c_laws_eqIntS (is_mk (rfl : p_laws_eqIntS r20 r35 = _))) rfl Try.func17 rfl rfl rfl rfl (fun σ => ⟨ad_os0 rfl, ad_os0 rfl, trivial⟩)) rfl ?_
            refine ao_read trivial (r_not rfl) rfl ?_
            refine ao_nil ?_
            refine aq_then ?_
            refine aw_cond rfl (fun hb37 => ?_) (fun hb37 => ?_)
            · replace h := is_else (ne_t (not_t hb37)) h
              refine aw_seq ?_
              refine aw_region ?_
              refine ao_read trivial (r_assign rfl) rfl ?_
              refine ao_nil ?_
              refine aq_then ?_
              refine aw_ret ?_
              refine aq_then_ret ?_
              refine aq_ret ?_
              obtain rfl := is_some h
              exact aq_finx (l := [.tmp 6]) (xs := [.bool false]) idn [.bool false] [] rfl (by exact ⟨rfl, trivial⟩) (by exact ⟨ad_ren rfl, trivial⟩) (by exact trivial) rfl (nk rfl) rfl rfl ⟨rfl, rfl⟩
            · replace h := is_if (not_f hb37) h
              refine aw_skip ?_
              refine aq_then ?_
              refine aw_seq ?_
              refine aw_seq ?_
              refine aw_region ?_
              refine ao_read trivial (r_move rfl) rfl ?_
              refine ao_read trivial (r_move rfl) rfl ?_
              obtain ⟨r38, r38h, h⟩ := is_bind h
              refine ao_call [] 10 trivial (c_laws_toIntS (is_mk r38h)) Try.func15 rfl rfl rfl rfl ⟨ad_ren rfl, trivial⟩ trivial rfl rfl rfl rfl rfl rfl rfl (fun r' H' hr => ?_)
              obtain ⟨rfl, rfl⟩ := hr
              refine ao_norm (y := .os 10) (H' := [(0, .row (.arr 6 (.int .i64)) r10), (1, .row (.int .i64) r12), (2, .row (.int .i64) r14), (3, .row (.arr 2 (.int .i64)) r16.1), (4, .row (.arr 6 (.int .i64)) r18), (5, .row (.int .i64) r20), (6, .row (.int .i64) r22), (7, .row (.arr 2 (.int .i64)) r24.1), (8, .row (.arr 6 (.int .i64)) r32), (9, .row (.int .i64) r35), (10, .row (.int .i64) r38)]) rfl rfl ?_
              refine row_len_o 10 (r38.length : Int) rfl rfl (fun hr39 => ?_)
              refine ao_scall trivial (scall (c_laws_eqIntS (is_mk (rfl : p_laws_eqIntS r22 r38 = _))) rfl Try.func17 rfl rfl rfl rfl (fun σ => ⟨ad_os0 rfl, ad_os0 rfl, trivial⟩)) rfl ?_
              refine ao_read trivial (r_not rfl) rfl ?_
              refine ao_nil ?_
              refine aq_then ?_
              refine aw_cond rfl (fun hb40 => ?_) (fun hb40 => ?_)
              · replace h := is_else (ne_t (not_t hb40)) h
                refine aw_seq ?_
                refine aw_region ?_
                refine ao_read trivial (r_assign rfl) rfl ?_
                refine ao_nil ?_
                refine aq_then ?_
                refine aw_ret ?_
                refine aq_then_ret ?_
                refine aq_ret ?_
                obtain rfl := is_some h
                exact aq_finx (l := [.tmp 6]) (xs := [.bool false]) idn [.bool false] [] rfl (by exact ⟨rfl, trivial⟩) (by exact ⟨ad_ren rfl, trivial⟩) (by exact trivial) rfl (nk rfl) rfl rfl ⟨rfl, rfl⟩
              · replace h := is_if (not_f hb40) h
                refine aw_skip ?_
                refine aq_then ?_
                refine aw_seq ?_
                refine aw_region ?_
                refine ao_read trivial (r_assign rfl) rfl ?_
                refine ao_nil ?_
                refine aq_then ?_
                refine aw_seq ?_
                refine aw_region ?_
                refine ao_read trivial (r_move rfl) rfl ?_
                refine ao_read trivial (r_move rfl) rfl ?_
                refine ao_call [4] 11 trivial (c_laws_markIntA6S (is_mk (rfl : p_laws_markIntA6S r18 1 = _))) Try.func38 rfl rfl rfl rfl ⟨ad_ren rfl, ad_ren rfl, trivial⟩ ⟨⟨_, rfl, rfl⟩, trivial⟩ rfl rfl rfl rfl rfl rfl rfl (fun r' H' hr => ?_)
                obtain ⟨rfl, rfl⟩ := hr
                refine ao_norm (y := .int .i64 ((p_laws_markIntA6S r18 1).1)) (H' := [(0, .row (.arr 6 (.int .i64)) r10), (1, .row (.int .i64) r12), (2, .row (.int .i64) r14), (3, .row (.arr 2 (.int .i64)) r16.1), (5, .row (.int .i64) r20), (6, .row (.int .i64) r22), (7, .row (.arr 2 (.int .i64)) r24.1), (8, .row (.arr 6 (.int .i64)) r32), (9, .row (.int .i64) r35), (10, .row (.int .i64) r38), (4, .row (.arr 6 (.int .i64)) ((p_laws_markIntA6S r18 1).2 : (List (List Int))))]) rfl rfl ?_
                refine ao_read trivial (r_assign rfl) rfl ?_
                refine ao_nil ?_
                refine aq_then ?_
                refine aw_seq ?_
                refine aw_region ?_
                refine ao_read trivial (r_move rfl) rfl ?_
                refine ao_read trivial (r_move rfl) rfl ?_
                refine ao_call [5] 11 trivial (c_laws_markIntS (is_mk (rfl : p_laws_markIntS r20 ((p_laws_markIntA6S r18 1).1) = _))) Try.func18 rfl rfl rfl rfl ⟨ad_ren rfl, ad_ren rfl, trivial⟩ ⟨⟨_, rfl, rfl⟩, trivial⟩ rfl rfl rfl rfl rfl rfl rfl (fun r' H' hr => ?_)
                obtain ⟨rfl, rfl⟩ := hr
                refine ao_norm (y := .int .i64 ((p_laws_markIntS r20 ((p_laws_markIntA6S r18 1).1)).1)) (H' := [(0, .row (.arr 6 (.int .i64)) r10), (1, .row (.int .i64) r12), (2, .row (.int .i64) r14), (3, .row (.arr 2 (.int .i64)) r16.1), (6, .row (.int .i64) r22), (7, .row (.arr 2 (.int .i64)) r24.1), (8, .row (.arr 6 (.int .i64)) r32), (9, .row (.int .i64) r35), (10, .row (.int .i64) r38), (4, .row (.arr 6 (.int .i64)) ((p_laws_markIntA6S r18 1).2 : (List (List Int)))), (5, .row (.int .i64) ((p_laws_markIntS r20 ((p_laws_markIntA6S r18 1).1)).2 : (List Int)))]) rfl rfl ?_
                refine ao_read trivial (r_assign rfl) rfl ?_
                refine ao_nil ?_
                refine aq_then ?_
                refine aw_seq ?_
                refine aw_region ?_
                refine ao_read trivial (r_move rfl) rfl ?_
                refine ao_read trivial (r_move rfl) rfl ?_
                refine ao_call [6] 11 trivial (c_laws_markIntS (is_mk (rfl : p_laws_markIntS r22 ((p_laws_markIntS r20 ((p_laws_markIntA6S r18 1).1)).1) = _))) Try.func18 rfl rfl rfl rfl ⟨ad_ren rfl, ad_ren rfl, trivial⟩ ⟨⟨_, rfl, rfl⟩, trivial⟩ rfl rfl rfl rfl rfl rfl rfl (fun r' H' hr => ?_)
                obtain ⟨rfl, rfl⟩ := hr
                refine ao_norm (y := .int .i64 ((p_laws_markIntS r22 ((p_laws_markIntS r20 ((p_laws_markIntA6S r18 1).1)).1)).1)) (H' := [(0, .row (.arr 6 (.int .i64)) r10), (1, .row (.int .i64) r12), (2, .row (.int .i64) r14), (3, .row (.arr 2 (.int .i64)) r16.1), (7, .row (.arr 2 (.int .i64)) r24.1), (8, .row (.arr 6 (.int .i64)) r32), (9, .row (.int .i64) r35), (10, .row (.int .i64) r38), (4, .row (.arr 6 (.int .i64)) ((p_laws_markIntA6S r18 1).2 : (List (List Int)))), (5, .row (.int .i64) ((p_laws_markIntS r20 ((p_laws_markIntA6S r18 1).1)).2 : (List Int))), (6, .row (.int .i64) ((p_laws_markIntS r22 ((p_laws_markIntS r20 ((p_laws_markIntA6S r18 1).1)).1)).2 : (List Int)))]) rfl rfl ?_
                refine ao_read trivial (r_assign rfl) rfl ?_
                refine ao_nil ?_
                refine aq_then ?_
                refine aw_seq ?_
                refine aw_seq ?_
                refine aw_region ?_
                refine ao_read trivial (r_move rfl) rfl ?_
                refine ao_read trivial (r_lss rfl rfl) rfl ?_
                refine ao_read trivial (r_move rfl) rfl ?_
                refine ao_readG (x := .os 7) rfl (GV.F rfl) (fun hg41 => by
      have q42 := d_f (not_t hg41)
      exact r_move rfl) rfl ?_
                refine ao_readG (x := .os 3) rfl (GV.F rfl) (fun hg43 => by
      have q44 := d_f (not_t hg43)
      exact r_move rfl) rfl ?_
                refine ao_scallG (r := .bool (p_laws_eqIntA2S r24.1 r16.1)) rfl (GV.F rfl) (fun hg45 => by
      have q46 := d_f (not_t hg45)
      exact SCall.strip 90 rfl (hg45) (SCall.strip 91 rfl (hg45) (scall (c_laws_eqIntA2S (is_mk (rfl : p_laws_eqIntA2S r24.1 r16.1 = _))) rfl Try.func36 rfl rfl rfl rfl (fun σ => ⟨ad_os0 rfl, ad_os0 rfl, trivial⟩)))) rfl ?_
                refine ao_readG (x := .bool (!(p_laws_eqIntA2S r24.1 r16.1))) rfl (GV.F rfl) (fun hg47 => by
      have q48 := d_f (not_t hg47)
      exact Reads.strip 92 rfl (hg47) (r_not rfl)) rfl ?_
                refine ao_read trivial (r_orB rfl rfl) rfl ?_
                refine ao_read trivial (r_move rfl) rfl ?_
                refine ao_readG (x := .bool r24.2) rfl (GV.F rfl) (fun hg49 => by
      obtain ⟨q50, q51⟩ := or_f (not_t hg49)
      have q52 := d_f q50
      exact r_move rfl) rfl ?_
                refine ao_readG (x := .bool r16.2) rfl (GV.F rfl) (fun hg53 => by
      obtain ⟨q54, q55⟩ := or_f (not_t hg53)
      have q56 := d_f q54
      exact r_move rfl) rfl ?_
                refine ao_readG (x := .bool (r24.2 != r16.2)) rfl (GV.F rfl) (fun hg57 => by
      obtain ⟨q58, q59⟩ := or_f (not_t hg57)
      have q60 := d_f q58
      exact Reads.strip 96 rfl (hg57) (Reads.strip 97 rfl (hg57) (r_neq_bool Try.underlying4 rfl rfl))) rfl ?_
                refine ao_read trivial (r_orB rfl rfl) rfl ?_
                refine ao_nil ?_
                refine aq_then ?_
                refine aw_cond rfl (fun hb61 => ?_) (fun hb61 => ?_)
                · replace h := is_if hb61 h
                  refine aw_seq ?_
                  refine aw_region ?_
                  refine ao_read trivial (r_assign rfl) rfl ?_
                  refine ao_nil ?_
                  refine aq_then ?_
                  refine aw_ret ?_
                  refine aq_then_ret ?_
                  refine aq_ret ?_
                  obtain rfl := is_some h
                  exact aq_finx (l := [.tmp 6]) (xs := [.bool false]) idn [.bool false] [] rfl (by exact ⟨rfl, trivial⟩) (by exact ⟨ad_ren rfl, trivial⟩) (by exact trivial) rfl (nk rfl) rfl rfl ⟨rfl, rfl⟩
                · obtain ⟨q62, q63⟩ := or_f hb61
                  obtain ⟨q64, q65⟩ := or_f q62
                  have q66 := d_f q64
                  replace h := is_else (ne_t hb61) h
                  refine aw_skip ?_
                  refine aq_then ?_
                  refine aw_seq ?_
                  refine aw_region ?_
                  refine ao_read trivial (r_assign rfl) rfl ?_
                  refine ao_nil ?_
                  refine aq_then ?_
                  refine aw_seq ?_
                  refine aw_region ?_
                  refine ao_read trivial (r_move rfl) rfl ?_
                  refine ao_read trivial (r_move rfl) rfl ?_
                  refine ao_call [7] 11 trivial (c_laws_markIntA2S (is_mk (rfl : p_laws_markIntA2S r24.1 1 = _))) Try.func39 rfl rfl rfl rfl ⟨ad_ren rfl, ad_ren rfl, trivial⟩ ⟨⟨_, rfl, rfl⟩, trivial⟩ rfl rfl rfl rfl rfl rfl rfl (fun r' H' hr => ?_)
                  obtain ⟨rfl, rfl⟩ := hr
                  refine ao_norm (y := .int .i64 ((p_laws_markIntA2S r24.1 1).1)) (H' := [(0, .row (.arr 6 (.int .i64)) r10), (1, .row (.int .i64) r12), (2, .row (.int .i64) r14), (3, .row (.arr 2 (.int .i64)) r16.1), (8, .row (.arr 6 (.int .i64)) r32), (9, .row (.int .i64) r35), (10, .row (.int .i64) r38), (4, .row (.arr 6 (.int .i64)) ((p_laws_markIntA6S r18 1).2 : (List (List Int)))), (5, .row (.int .i64) ((p_laws_markIntS r20 ((p_laws_markIntA6S r18 1).1)).2 : (List Int))), (6, .row (.int .i64) ((p_laws_markIntS r22 ((p_laws_markIntS r20 ((p_laws_markIntA6S r18 1).1)).1)).2 : (List Int))), (7, .row (.arr 2 (.int .i64)) ((p_laws_markIntA2S r24.1 1).2 : (List (List Int))))]) rfl rfl ?_
                  refine ao_read trivial (r_assign rfl) rfl ?_
                  refine ao_nil ?_
                  refine aq_then ?_
                  refine aw_seq ?_
                  refine aw_region ?_
                  refine ao_read trivial (r_assign rfl) rfl ?_
                  refine ao_nil ?_
                  refine aq_then ?_
                  refine aw_seq ?_
                  refine aw_region ?_
                  refine ao_read trivial (r_move rfl) rfl ?_
                  refine ao_read trivial (r_move rfl) rfl ?_
                  refine ao_scall trivial (scall (c_laws_heldIntA2S (is_mk (rfl : p_laws_heldIntA2S ((p_laws_markIntA2S r24.1 1).2) 1 = _))) rfl Try.func40 rfl rfl rfl rfl (fun σ => ⟨ad_os0 rfl, ad_ren rfl, trivial⟩)) rfl ?_
                  refine ao_read trivial (r_assign rfl) rfl ?_
                  refine ao_nil ?_
                  refine aq_then ?_
                  refine aw_seq ?_
                  refine aw_seq ?_
                  refine aw_region ?_
                  refine ao_read trivial (r_move rfl) rfl ?_
                  refine ao_read trivial (r_lss rfl rfl) rfl ?_
                  refine ao_nil ?_
                  refine aq_then ?_
                  refine aw_cond rfl (fun hb67 => ?_) (fun hb67 => ?_)
                  · have q68 := d_t hb67
                    replace h := is_if (d_t hb67) h
                    refine aw_seq ?_
                    refine aw_region ?_
                    refine ao_read trivial (r_assign rfl) rfl ?_
                    refine ao_nil ?_
                    refine aq_then ?_
                    refine aw_ret ?_
                    refine aq_then_ret ?_
                    refine aq_ret ?_
                    obtain rfl := is_some h
                    exact aq_finx (l := [.tmp 6]) (xs := [.bool false]) idn [.bool false] [] rfl (by exact ⟨rfl, trivial⟩) (by exact ⟨ad_ren rfl, trivial⟩) (by exact trivial) rfl (nk rfl) rfl rfl ⟨rfl, rfl⟩
                  · have q69 := d_f hb67
                    replace h := is_else (d_f hb67) h
                    refine aw_skip ?_
                    refine aq_then ?_
                    refine aw_seq ?_
                    refine aw_seq ?_
                    refine aw_region ?_
                    refine ao_read trivial (r_move rfl) rfl ?_
                    refine ao_read trivial (r_move rfl) rfl ?_
                    refine ao_read trivial (r_neq rfl rfl) rfl ?_
                    refine ao_nil ?_
                    refine aq_then ?_
                    refine aw_cond rfl (fun hb70 => ?_) (fun hb70 => ?_)
                    · have q71 := d_f (not_t hb70)
                      replace h := is_else (d_f (not_t hb70)) h
                      refine aw_seq ?_
                      refine aw_region ?_
                      refine ao_read trivial (r_assign rfl) rfl ?_
                      refine ao_nil ?_
                      refine aq_then ?_
                      refine aw_ret ?_
                      refine aq_then_ret ?_
                      refine aq_ret ?_
                      obtain rfl := is_some h
                      exact aq_finx (l := [.tmp 6]) (xs := [.bool false]) idn [.bool false] [] rfl (by exact ⟨rfl, trivial⟩) (by exact ⟨ad_ren rfl, trivial⟩) (by exact trivial) rfl (nk rfl) rfl rfl ⟨rfl, rfl⟩
                    · have q72 := d_t (not_f hb70)
                      replace h := is_if (d_t (not_f hb70)) h
                      refine aw_skip ?_
                      refine aq_then ?_
                      refine aw_seq ?_
                      refine aw_region ?_
                      refine ao_read trivial (r_move rfl) rfl ?_
                      obtain ⟨r73, r73h, h⟩ := is_bind h
                      refine ao_call [] 11 trivial (c_laws_toIntA6S (is_mk r73h)) Try.func34 rfl rfl rfl rfl ⟨ad_ren rfl, trivial⟩ trivial rfl rfl rfl rfl rfl rfl rfl (fun r' H' hr => ?_)
                      obtain ⟨rfl, rfl⟩ := hr
                      refine ao_norm (y := .os 11) (H' := [(0, .row (.arr 6 (.int .i64)) r10), (1, .row (.int .i64) r12), (2, .row (.int .i64) r14), (3, .row (.arr 2 (.int .i64)) r16.1), (8, .row (.arr 6 (.int .i64)) r32), (9, .row (.int .i64) r35), (10, .row (.int .i64) r38), (4, .row (.arr 6 (.int .i64)) ((p_laws_markIntA6S r18 1).2 : (List (List Int)))), (5, .row (.int .i64) ((p_laws_markIntS r20 ((p_laws_markIntA6S r18 1).1)).2 : (List Int))), (6, .row (.int .i64) ((p_laws_markIntS r22 ((p_laws_markIntS r20 ((p_laws_markIntA6S r18 1).1)).1)).2 : (List Int))), (7, .row (.arr 2 (.int .i64)) ((p_laws_markIntA2S r24.1 1).2 : (List (List Int)))), (11, .row (.arr 6 (.int .i64)) r73)]) rfl rfl ?_
                      refine row_len_o 11 (r73.length : Int) rfl rfl (fun hr74 => ?_)
                      refine ao_read trivial (r_move rfl) rfl ?_
                      obtain ⟨r75, r75h, h⟩ := is_bind h
                      refine ao_call [] 12 trivial (c_laws_toIntS (is_mk r75h)) Try.func15 rfl rfl rfl rfl ⟨ad_ren rfl, trivial⟩ trivial rfl rfl rfl rfl rfl rfl rfl (fun r' H' hr => ?_)
                      obtain ⟨rfl, rfl⟩ := hr
                      refine ao_norm (y := .os 12) (H' := [(0, .row (.arr 6 (.int .i64)) r10), (1, .row (.int .i64) r12), (2, .row (.int .i64) r14), (3, .row (.arr 2 (.int .i64)) r16.1), (8, .row (.arr 6 (.int .i64)) r32), (9, .row (.int .i64) r35), (10, .row (.int .i64) r38), (4, .row (.arr 6 (.int .i64)) ((p_laws_markIntA6S r18 1).2 : (List (List Int)))), (5, .row (.int .i64) ((p_laws_markIntS r20 ((p_laws_markIntA6S r18 1).1)).2 : (List Int))), (6, .row (.int .i64) ((p_laws_markIntS r22 ((p_laws_markIntS r20 ((p_laws_markIntA6S r18 1).1)).1)).2 : (List Int))), (7, .row (.arr 2 (.int .i64)) ((p_laws_markIntA2S r24.1 1).2 : (List (List Int)))), (11, .row (.arr 6 (.int .i64)) r73), (12, .row (.int .i64) r75)]) rfl rfl ?_
                      refine row_len_o 12 (r75.length : Int) rfl rfl (fun hr76 => ?_)
                      refine ao_read trivial (r_move rfl) rfl ?_
                      obtain ⟨r77, r77h, h⟩ := is_bind h
                      refine ao_call [] 13 trivial (c_laws_toIntS (is_mk r77h)) Try.func15 rfl rfl rfl rfl ⟨ad_ren rfl, trivial⟩ trivial rfl rfl rfl rfl rfl rfl rfl (fun r' H' hr => ?_)
                      obtain ⟨rfl, rfl⟩ := hr
                      refine ao_norm (y := .os 13) (H' := [(0, .row (.arr 6 (.int .i64)) r10), (1, .row (.int .i64) r12), (2, .row (.int .i64) r14), (3, .row (.arr 2 (.int .i64)) r16.1), (8, .row (.arr 6 (.int .i64)) r32), (9, .row (.int .i64) r35), (10, .row (.int .i64) r38), (4, .row (.arr 6 (.int .i64)) ((p_laws_markIntA6S r18 1).2 : (List (List Int)))), (5, .row (.int .i64) ((p_laws_markIntS r20 ((p_laws_markIntA6S r18 1).1)).2 : (List Int))), (6, .row (.int .i64) ((p_laws_markIntS r22 ((p_laws_markIntS r20 ((p_laws_markIntA6S r18 1).1)).1)).2 : (List Int))), (7, .row (.arr 2 (.int .i64)) ((p_laws_markIntA2S r24.1 1).2 : (List (List Int)))), (11, .row (.arr 6 (.int .i64)) r73), (12, .row (.int .i64) r75), (13, .row (.int .i64) r77)]) rfl rfl ?_
                      refine row_len_o 13 (r77.length : Int) rfl rfl (fun hr78 => ?_)
                      obtain ⟨r79, r79h, h⟩ := is_bind h
                      refine ao_call [] 14 trivial (c_impl_WhichDie (is_mk r79h)) Try.func35 rfl rfl rfl rfl ⟨ad_os0 rfl, ad_os0 rfl, ad_os0 rfl, trivial⟩ trivial rfl rfl rfl rfl rfl rfl rfl (fun r' H' hr => ?_)
                      obtain ⟨rfl, rfl⟩ := hr
                      refine ao_norm (y := .tup [.os 14, .bool r79.2]) (H' := [(0, .row (.arr 6 (.int .i64)) r10), (1, .row (.int .i64) r12), (2, .row (.int .i64) r14), (3, .row (.arr 2 (.int .i64)) r16.1), (8, .row (.arr 6 (.int .i64)) r32), (9, .row (.int .i64) r35), (10, .row (.int .i64) r38), (4, .row (.arr 6 (.int .i64)) ((p_laws_markIntA6S r18 1).2 : (List (List Int)))), (5, .row (.int .i64) ((p_laws_markIntS r20 ((p_laws_markIntA6S r18 1).1)).2 : (List Int))), (6, .row (.int .i64) ((p_laws_markIntS r22 ((p_laws_markIntS r20 ((p_laws_markIntA6S r18 1).1)).1)).2 : (List Int))), (7, .row (.arr 2 (.int .i64)) ((p_laws_markIntA2S r24.1 1).2 : (List (List Int)))), (11, .row (.arr 6 (.int .i64)) r73), (12, .row (.int .i64) r75), (13, .row (.int .i64) r77), (14, .row (.arr 2 (.int .i64)) r79.1)]) rfl rfl ?_
                      refine row_len_o 14 (r79.1.length : Int) rfl rfl (fun hr80 => ?_)
                      refine ao_read trivial (r_move rfl) rfl ?_
                      refine ao_read trivial (r_extract rfl rfl) rfl ?_
                      refine ao_read trivial (r_extract rfl rfl) rfl ?_
                      refine ao_read trivial (r_assign rfl) rfl ?_
                      refine ao_read trivial (r_assign rfl) rfl ?_
                      refine ao_nil ?_
                      refine aq_then ?_
                      refine aw_seq ?_
                      refine aw_seq ?_
                      refine aw_region ?_
                      refine ao_read trivial (r_move rfl) rfl ?_
                      refine ao_read trivial (r_move rfl) rfl ?_
                      refine ao_scall trivial (scall (c_laws_eqIntA2S (is_mk (rfl : p_laws_eqIntA2S r79.1 r16.1 = _))) rfl Try.func36 rfl rfl rfl rfl (fun σ => ⟨ad_os0 rfl, ad_os0 rfl, trivial⟩)) rfl ?_
                      refine ao_read trivial (r_not rfl) rfl ?_
                      refine ao_read trivial (r_move rfl) rfl ?_
                      refine ao_readG (x := .bool r79.2) rfl (GV.F rfl) (fun hg81 => r_move rfl) rfl ?_
                      refine ao_readG (x := .bool r16.2) rfl (GV.F rfl) (fun hg82 => r_move rfl) rfl ?_
                      refine ao_readG (x := .bool (r79.2 != r16.2)) rfl (GV.F rfl) (fun hg83 => Reads.strip 126 rfl (hg83) (Reads.strip 127 rfl (hg83) (r_neq_bool Try.underlying4 rfl rfl))) rfl ?_
                      refine ao_read trivial (r_orB rfl rfl) rfl ?_
                      refine ao_nil ?_
                      refine aq_then ?_
                      refine aw_cond rfl (fun hb84 => ?_) (fun hb84 => ?_)
                      · replace h := is_if hb84 h
                        refine aw_seq ?_
                        refine aw_region ?_
                        refine ao_read trivial (r_assign rfl) rfl ?_
                        refine ao_nil ?_
                        refine aq_then ?_
                        refine aw_ret ?_
                        refine aq_then_ret ?_
                        refine aq_ret ?_
                        obtain rfl := is_some h
                        exact aq_finx (l := [.tmp 6]) (xs := [.bool false]) idn [.bool false] [] rfl (by exact ⟨rfl, trivial⟩) (by exact ⟨ad_ren rfl, trivial⟩) (by exact trivial) rfl (nk rfl) rfl rfl ⟨rfl, rfl⟩
                      · obtain ⟨q85, q86⟩ := or_f hb84
                        replace h := is_else (ne_t hb84) h
                        refine aw_skip ?_
                        refine aq_then ?_
                        refine aw_seq ?_
                        refine aw_region ?_
                        refine ao_read trivial (r_assign rfl) rfl ?_
                        refine ao_nil ?_
                        refine aq_then ?_
                        refine aw_seq ?_
                        refine aw_region ?_
                        refine ao_read trivial (r_move rfl) rfl ?_
                        refine ao_read trivial (r_move rfl) rfl ?_
                        refine ao_scall trivial (scall (c_laws_heldIntA2S (is_mk (rfl : p_laws_heldIntA2S ((p_laws_markIntA2S r24.1 1).2) 1 = _))) rfl Try.func40 rfl rfl rfl rfl (fun σ => ⟨ad_os0 rfl, ad_ren rfl, trivial⟩)) rfl ?_
                        refine ao_read trivial (r_assign rfl) rfl ?_
                        refine ao_nil ?_
                        refine aq_then ?_
                        refine aw_seq ?_
                        refine aw_seq ?_
                        refine aw_region ?_
                        refine ao_read trivial (r_move rfl) rfl ?_
                        refine ao_read trivial (r_lss rfl rfl) rfl ?_
                        refine ao_nil ?_
                        refine aq_then ?_
                        refine aw_cond rfl (fun hb87 => ?_) (fun hb87 => ?_)
                        · have q88 := d_t hb87
                          replace h := is_if (d_t hb87) h
                          refine aw_seq ?_
                          refine aw_region ?_
                          refine ao_read trivial (r_assign rfl) rfl ?_
                          refine ao_nil ?_
                          refine aq_then ?_
                          refine aw_ret ?_
                          refine aq_then_ret ?_
                          refine aq_ret ?_
                          obtain rfl := is_some h
                          exact aq_finx (l := [.tmp 6]) (xs := [.bool false]) idn [.bool false] [] rfl (by exact ⟨rfl, trivial⟩) (by exact ⟨ad_ren rfl, trivial⟩) (by exact trivial) rfl (nk rfl) rfl rfl ⟨rfl, rfl⟩
                        · have q89 := d_f hb87
                          replace h := is_else (d_f hb87) h
                          refine aw_skip ?_
                          refine aq_then ?_
                          refine aw_seq ?_
                          refine aw_seq ?_
                          refine aw_region ?_
                          refine ao_read trivial (r_move rfl) rfl ?_
                          refine ao_read trivial (r_move rfl) rfl ?_
                          refine ao_read trivial (r_neq rfl rfl) rfl ?_
                          refine ao_nil ?_
                          refine aq_then ?_
                          refine aw_cond rfl (fun hb90 => ?_) (fun hb90 => ?_)
                          · have q91 := d_f (not_t hb90)
                            replace h := is_else (d_f (not_t hb90)) h
                            refine aw_seq ?_
                            refine aw_region ?_
                            refine ao_read trivial (r_assign rfl) rfl ?_
                            refine ao_nil ?_
                            refine aq_then ?_
                            refine aw_ret ?_
                            refine aq_then_ret ?_
                            refine aq_ret ?_
                            obtain rfl := is_some h
                            exact aq_finx (l := [.tmp 6]) (xs := [.bool false]) idn [.bool false] [] rfl (by exact ⟨rfl, trivial⟩) (by exact ⟨ad_ren rfl, trivial⟩) (by exact trivial) rfl (nk rfl) rfl rfl ⟨rfl, rfl⟩
                          · have q92 := d_t (not_f hb90)
                            replace h := is_if (d_t (not_f hb90)) h
                            refine aw_skip ?_
                            refine aq_then ?_
                            refine aw_seq ?_
                            refine aw_region ?_
                            refine ao_read trivial (r_assign rfl) rfl ?_
                            refine ao_nil ?_
                            refine aq_then ?_
                            refine aw_ret ?_
                            refine aq_ret ?_
                            obtain rfl := is_some h
                            exact aq_finx (l := [.tmp 6]) (xs := [.bool true]) idn [.bool true] [] rfl (by exact ⟨rfl, trivial⟩) (by exact ⟨ad_ren rfl, trivial⟩) (by exact trivial) rfl (nk rfl) rfl rfl ⟨rfl, rfl⟩
end Go.GA
