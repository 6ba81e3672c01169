/- Walks: what the Go functions compute, by the printed lines below. -/
import Derived.Test.YtjkmekpelnjaiaaGa21
import Derived.Test.YtjkmekpelnjaiaaProg
namespace Go.GA
open Go Go.Proofs
set_option maxRecDepth 100000
set_option linter.unusedVariables false
/-- slices.Clone[[]int,int] -/
def p_slices_Clone_int_int (x0 : (List Int)) : Option ((List Int)) :=
  if 0 + (x0.length : Int) ≤ 1000000000 then some ([] ++ x0) else none
theorem c_slices_Clone_int_int {x0 : (List Int)} {r : (List Int)} (h : Is (p_slices_Clone_int_int x0) (some r)) :
    ACalls Try.prog 68 [.v (.slice (.int .i64)) x0] [] (fun r' H' => r' = .os 0 ∧ H' = [(0, .row (.int .i64) r)]) := by
  unfold p_slices_Clone_int_int at h
  refine ac_enter ⟨8, 0⟩ Try.func68 rfl rfl rfl rfl rfl (fun Γ => ?_)
  refine sl_len_m 0 (x0.length : Int) rfl rfl (fun hl0 => ?_)
  refine aw_seq ?_
  refine aw_region ?_
  refine ao_read trivial (r_assign rfl) rfl ?_
  refine ao_nil ?_
  refine aq_then ?_
  refine aw_seq ?_
  refine aw_seq ?_
  refine aw_region ?_
  refine ao_read trivial (r_move rfl) rfl ?_
  refine ao_eqnil trivial Try.underlying29 rfl rfl rfl (fun b1 hn2 => ?_)
  refine ao_nil ?_
  refine aq_then ?_
  refine aw_cond rfl (fun hb3 => ?_) (fun hb3 => ?_)
  · obtain rfl : x0 = [] := hn2 hb3
    replace h : Is (some [] : Option ((List Int))) (some r) := (by simpa using h)
    refine aw_seq ?_
    refine aw_region ?_
    refine ao_read trivial (r_assign rfl) rfl ?_
    refine ao_nil ?_
    refine aq_then ?_
    refine aw_ret ?_
    refine aq_then_ret ?_
    refine aq_ret ?_
    obtain rfl := is_some h
    refine AQ.sub (sub_nil (T := 2) (t := (.int .i64)) 0 rfl rfl rfl) ?_
    exact aq_finx (l := [.tmp 2]) (xs := [.os 0]) idn [.os 0] [(0, .row (.int .i64) ([] : (List Int)))] rfl (by exact ⟨rfl, trivial⟩) (by exact ⟨ad_ren rfl, trivial⟩) (by exact ⟨⟨_, rfl, rfl⟩, trivial⟩) rfl (nk rfl) rfl rfl ⟨rfl, rfl⟩
  · refine aw_skip ?_
    refine aq_then ?_
    refine aw_seq ?_
    refine aw_region ?_
    refine ao_eff trivial (e_buildSlice (l := []) (t := (.int .i64)) 1 [] rfl Try.underlying29 Try.zeroValue3 Try.sizeOf3 rfl rfl rfl rfl rfl rfl rfl) rfl ?_
    refine ao_read trivial (r_move rfl) rfl ?_
    obtain ⟨g4, h⟩ := is_guard h
    refine ao_eff trivial (e_append (t := (.int .i64)) 2 rfl Try.underlying29 (rfl : Try.prog.info? 3 = some _) rfl rfl rfl rfl rfl rfl rfl src_v (show [].length + x0.length ≤ 1000000000 from by (try simp only [List.length_cons, List.length_nil]) <;> omega) rfl rfl) rfl ?_
    refine ao_read trivial (r_assign rfl) rfl ?_
    refine ao_nil ?_
    refine aq_then ?_
    refine aw_ret ?_
    refine aq_ret ?_
    obtain rfl := is_some h
    exact aq_finx (l := [.tmp 2]) (xs := [.os 2]) (rn [(0, 2)]) [.os 0] [(0, .row (.int .i64) (([] ++ x0) : (List Int)))] rfl (by exact ⟨rfl, trivial⟩) (by exact ⟨ad_ren rfl, trivial⟩) (by exact ⟨⟨_, rfl, rfl⟩, trivial⟩) rfl (nk rfl) rfl rfl ⟨rfl, rfl⟩
/-- slices.Compact[[]int,int] -/
def p_slices_Compact_int_int (x0 : (List Int)) : Option ((List Int)) :=
  (if (x0.length : Int) < 2 then some x0 else cnt (fun i5 (s4 : Unit) c6 _ => (if (x0.getD i5.toNat 0) = (x0.getD (i5 - 1).toNat 0) then cnt (fun i15 (s14 : Int × (List Int)) c16 _ => (if (s14.2.getD (i5.toNat + i15.toNat) 0) = (s14.2.getD (i5.toNat + (i15 - 1).toNat) 0) then c16 (s14.1, s14.2) else if s14.1 < (x0.length : Int) then c16 ((s14.1 + 1), (s14.2.set s14.1.toNat (s14.2.getD (i5.toNat + i15.toNat) 0))) else none)) (fun i15 (s14 : Int × (List Int)) => if s14.1 ≤ (x0.length : Int) then some ((s14.2.take s14.1.toNat ++ (List.replicate ((s14.2.length : Int) - s14.1).toNat 0 ++ s14.2.drop (s14.1.toNat + ((s14.2.length : Int) - s14.1).toNat))).take s14.1.toNat) else none) (Int.toNat (((((x0.length : Int) - i5).toNat : Nat) : Int) - 1)) 1 (i5, x0) else c6 ())) (fun i5 (s4 : Unit) => some x0) (Int.toNat ((x0.length : Int) - 1)) 1 ())
theorem c_slices_Compact_int_int {x0 : (List Int)} {r : (List Int)} (h : Is (p_slices_Compact_int_int x0) (some r)) :
    ACalls Try.prog 67 [.os 0] [(0, .row (.int .i64) x0)] (fun r' H' => r' = .os 1 ∧ H' = [(1, .row (.int .i64) r)]) := by
  unfold p_slices_Compact_int_int at h
  refine ac_enter ⟨61, 1⟩ Try.func67 rfl rfl rfl rfl rfl (fun Γ => ?_)
  refine row_len_m 0 (x0.length : Int) rfl rfl (fun hr0 => ?_)
  refine aw_seq ?_
  refine aw_region ?_
  refine ao_read trivial (r_assign rfl) rfl ?_
  refine ao_nil ?_
  refine aq_then ?_
  refine aw_seq ?_
  refine aw_seq ?_
  refine aw_region ?_
  refine ao_read trivial (r_move rfl) rfl ?_
  refine ao_read trivial (r_len_osm (x0.length : Int) Try.underlying29 rfl rfl rfl) rfl ?_
  refine ao_read trivial (r_lss rfl rfl) rfl ?_
  refine ao_nil ?_
  refine aq_then ?_
  refine aw_cond rfl (fun hb1 => ?_) (fun hb1 => ?_)
  · have q2 := d_t hb1
    replace h := is_if (d_t hb1) h
    refine aw_seq ?_
    refine aw_region ?_
    refine ao_read trivial (r_move rfl) rfl ?_
    refine ao_read trivial (r_assign rfl) rfl ?_
    refine ao_nil ?_
    refine aq_then ?_
    refine aw_ret ?_
    refine aq_then_ret ?_
    refine aq_ret ?_
    obtain rfl := is_some h
    exact aq_finx (l := [.tmp 2]) (xs := [.os 0]) (rn [(1, 0)]) [.os 1] [(1, .row (.int .i64) x0)] rfl (by exact ⟨rfl, trivial⟩) (by exact ⟨ad_ren rfl, trivial⟩) (by exact ⟨⟨_, rfl, rfl⟩, trivial⟩) rfl (nk1 rfl rfl) rfl rfl ⟨rfl, rfl⟩
  · have q3 := d_f hb1
    replace h := is_else (d_f hb1) h
    refine aw_skip ?_
    refine aq_then ?_
    refine aw_seq ?_
    refine aw_seq ?_
    refine aw_region ?_
    refine ao_read trivial (r_assign rfl) rfl ?_
    refine ao_nil ?_
    refine aq_then ?_
    refine aw_block ?_
    refine aw_loop (AL.sub (fr' := [(0, .os 0), (3, .int .i64 1)]) (H' := [(0, .row (.int .i64) x0)]) (sub_mk idn (by exact ⟨⟨_, rfl, ad_ren rfl⟩, ⟨_, rfl, ad_ren rfl⟩, trivial⟩) (by exact ⟨⟨_, rfl, rfl⟩, trivial⟩) (by rfl) (nk1 rfl rfl)) (al_cnt (fun i5 (s4 : Unit) => [(0, .os 0), (3, .int .i64 i5)]) (fun i5 (s4 : Unit) => [(0, .row (.int .i64) x0)]) (fun d i5 (s4 : Unit) => d = Int.toNat ((x0.length : Int) - i5) ∧ 1 ≤ i5 ∧ i5 ≤ (x0.length : Int)) h ⟨rfl, (by (try simp only [List.length_set, List.length_append, List.length_cons, List.length_nil, List.length_replicate, List.length_take, List.length_drop]) <;> omega), (by (try simp only [List.length_set, List.length_append, List.length_cons, List.length_nil, List.length_replicate, List.length_take, List.length_drop]) <;> omega)⟩ (fun d i5 s4 hI h ih => ?_)))
    obtain ⟨hd, _, _⟩ := hI
    refine al_round ?_
    refine aw_seq ?_
    refine aw_seq ?_
    refine aw_region ?_
    refine ao_read trivial (r_move rfl) rfl ?_
    refine ao_read trivial (r_move rfl) rfl ?_
    refine ao_read trivial (r_len_osm (x0.length : Int) Try.underlying29 rfl rfl rfl) rfl ?_
    refine ao_read trivial (r_lss rfl rfl) rfl ?_
    refine ao_nil ?_
    refine aq_then ?_
    refine aw_cond rfl (fun hb8 => ?_) (fun hb8 => ?_)
    · have q9 := d_t hb8
      obtain ⟨d, rfl⟩ : ∃ e, d = e + 1 := ⟨d - 1, by omega⟩
      replace h := is_cntS h
      refine aw_skip ?_
      refine aq_then ?_
      refine aw_seq ?_
      refine aw_block ?_
      refine aw_seq ?_
      refine aw_drawAll (by kernel_rfl) ?_
      refine an_read 0 (by kernel_rfl) (fun _ _ _ h => h) rfl (by kernel_rfl) trivial (r_move rfl) rfl ?_
      refine an_read 1 (by kernel_rfl) (fun _ _ _ h => h) rfl (by kernel_rfl) trivial (r_move rfl) rfl ?_
      refine an_read 2 (by kernel_rfl) (fun _ _ _ h => h) rfl (by kernel_rfl) trivial (r_idxAddr_os Try.underlying29 Try.sizeOf3 rfl rfl rfl (by omega) (show i5 < (x0.length : Int) from by omega)) rfl ?_
      refine an_read 3 (by kernel_rfl) (fun _ _ _ h => h) rfl (by kernel_rfl) trivial (r_load_elem_int Try.isAgg3 Try.sizeOf3 rfl rfl (show i5.toNat < x0.length from by omega)) rfl ?_
      refine an_read 4 (by kernel_rfl) (fun _ _ _ h => h) rfl (by kernel_rfl) trivial (r_move rfl) rfl ?_
      refine an_read 5 (by kernel_rfl) (fun _ _ _ h => h) rfl (by kernel_rfl) trivial (r_move rfl) rfl ?_
      refine an_read 6 (by kernel_rfl) (fun _ _ _ h => h) rfl (by kernel_rfl) trivial (r_subI rfl rfl (wrap_id (by omega) (by omega))) rfl ?_
      refine an_read 7 (by kernel_rfl) (fun _ _ _ h => h) rfl (by kernel_rfl) trivial (r_idxAddr_os Try.underlying29 Try.sizeOf3 rfl rfl rfl (by omega) (show (i5 - 1) < (x0.length : Int) from by omega)) rfl ?_
      refine an_read 8 (by kernel_rfl) (fun _ _ _ h => h) rfl (by kernel_rfl) trivial (r_load_elem_int Try.isAgg3 Try.sizeOf3 rfl rfl (show (i5 - 1).toNat < x0.length from by omega)) rfl ?_
      refine an_read 9 (by kernel_rfl) (fun _ _ _ h => h) rfl (by kernel_rfl) trivial (r_eql rfl rfl) rfl ?_
      refine an_done rfl ?_
      refine aq_then ?_
      refine aw_cond rfl (fun hb11 => ?_) (fun hb11 => ?_)
      · have q12 := d_t hb11
        replace h := is_if (d_t hb11) h
        refine aw_seq ?_
        refine aw_region ?_
        refine ao_read trivial (r_move rfl) rfl ?_
        refine ao_read trivial (r_move rfl) rfl ?_
        refine ao_read trivial (r_slice_os (t := (.int .i64)) Try.underlying29 Try.sizeOf3 rfl rfl (.some rfl) .none (show 0 ≤ i5 from by omega) (show i5 ≤ (x0.length : Int) from by omega) (show (x0.length : Int) ≤ (x0.length : Int) from by omega)) rfl ?_
        refine ao_read trivial (r_assign rfl) rfl ?_
        refine ao_nil ?_
        refine aq_then ?_
        refine aw_seq ?_
        refine aw_seq ?_
        refine aw_region ?_
        refine ao_read trivial (r_assign rfl) rfl ?_
        refine ao_nil ?_
        refine aq_then ?_
        refine aw_block ?_
        refine aw_loop (AL.sub (fr' := [(0, .os 0), (3, .int .i64 i5), (4, .view 0 0 1 i5.toNat ((x0.length : Int) - i5).toNat), (5, .int .i64 1)]) (H' := [(0, .row (.int .i64) x0)]) (sub_mk idn (by exact ⟨⟨_, rfl, ad_ren rfl⟩, ⟨_, rfl, ad_ren rfl⟩, ⟨_, rfl, ad_ren rfl⟩, ⟨_, rfl, ad_ren rfl⟩, trivial⟩) (by exact ⟨⟨_, rfl, rfl⟩, trivial⟩) (by rfl) (nk1 rfl rfl)) (al_cnt (fun i15 (s14 : Int × (List Int)) => [(0, .os 0), (3, .int .i64 s14.1), (4, .view 0 0 1 i5.toNat ((x0.length : Int) - i5).toNat), (5, .int .i64 i15)]) (fun i15 (s14 : Int × (List Int)) => [(0, .row (.int .i64) s14.2)]) (fun d i15 (s14 : Int × (List Int)) => d = Int.toNat (((((x0.length : Int) - i5).toNat : Nat) : Int) - i15) ∧ i5 ≤ s14.1 ∧ 1 ≤ i15 ∧ (s14.2.length : Int) = (x0.length : Int) ∧ i15 ≤ ((((x0.length : Int) - i5).toNat : Nat) : Int)) h ⟨rfl, (by (try simp only [List.length_set, List.length_append, List.length_cons, List.length_nil, List.length_replicate, List.length_take, List.length_drop]) <;> omega), (by (try simp only [List.length_set, List.length_append, List.length_cons, List.length_nil, List.length_replicate, List.length_take, List.length_drop]) <;> omega), (by (try simp only [List.length_set, List.length_append, List.length_cons, List.length_nil, List.length_replicate, List.length_take, List.length_drop]) <;> omega), (by (try simp only [List.length_set, List.length_append, List.length_cons, List.length_nil, List.length_replicate, List.length_take, List.length_drop]) <;> omega)⟩ (fun d i15 s14 hI h ih => ?_)))
        obtain ⟨hd, _, _, _, _⟩ := hI
        refine al_round ?_
        refine aw_seq ?_
        refine aw_seq ?_
        refine aw_region ?_
        refine ao_read trivial (r_move rfl) rfl ?_
        refine ao_read trivial (r_move rfl) rfl ?_
        refine ao_read trivial (r_len_view Try.underlying29 rfl) rfl ?_
        refine ao_read trivial (r_lss rfl rfl) rfl ?_
        refine ao_nil ?_
        refine aq_then ?_
        refine aw_cond rfl (fun hb18 => ?_) (fun hb18 => ?_)
        · have q19 := d_t hb18
          obtain ⟨d, rfl⟩ : ∃ e, d = e + 1 := ⟨d - 1, by omega⟩
          replace h := is_cntS h
          refine aw_skip ?_
          refine aq_then ?_
          refine aw_seq ?_
          refine aw_block ?_
          refine aw_seq ?_
          refine aw_drawAll (by kernel_rfl) ?_
          refine an_read 0 (by kernel_rfl) (fun _ _ _ h => h) rfl (by kernel_rfl) trivial (r_move rfl) rfl ?_
          refine an_read 1 (by kernel_rfl) (fun _ _ _ h => h) rfl (by kernel_rfl) trivial (r_move rfl) rfl ?_
          refine an_read 2 (by kernel_rfl) (fun _ _ _ h => h) rfl (by kernel_rfl) trivial (r_idxAddr_view Try.underlying29 Try.sizeOf3 rfl rfl (by omega) (by omega)) rfl ?_
          refine an_read 3 (by kernel_rfl) (fun _ _ _ h => h) rfl (by kernel_rfl) trivial (r_load_elem_int Try.isAgg3 Try.sizeOf3 rfl rfl (show (i5.toNat + i15.toNat) < s14.2.length from by omega)) rfl ?_
          refine an_read 4 (by kernel_rfl) (fun _ _ _ h => h) rfl (by kernel_rfl) trivial (r_move rfl) rfl ?_
          refine an_read 5 (by kernel_rfl) (fun _ _ _ h => h) rfl (by kernel_rfl) trivial (r_move rfl) rfl ?_
          refine an_read 6 (by kernel_rfl) (fun _ _ _ h => h) rfl (by kernel_rfl) trivial (r_subI rfl rfl (wrap_id (by omega) (by omega))) rfl ?_
          refine an_read 7 (by kernel_rfl) (fun _ _ _ h => h) rfl (by kernel_rfl) trivial (r_idxAddr_view Try.underlying29 Try.sizeOf3 rfl rfl (by omega) (by omega)) rfl ?_
          refine an_read 8 (by kernel_rfl) (fun _ _ _ h => h) rfl (by kernel_rfl) trivial (r_load_elem_int Try.isAgg3 Try.sizeOf3 rfl rfl (show (i5.toNat + (i15 - 1).toNat) < s14.2.length from by omega)) rfl ?_
          refine an_read 9 (by kernel_rfl) (fun _ _ _ h => h) rfl (by kernel_rfl) trivial (r_neq rfl rfl) rfl ?_
          refine an_done rfl ?_
          refine aq_then ?_
          refine aw_cond rfl (fun hb21 => ?_) (fun hb21 => ?_)
          · have q22 := d_f (not_t hb21)
            replace h := is_else (d_f (not_t hb21)) h
            refine aw_seq ?_
            refine aw_region ?_
            refine ao_read trivial (r_move rfl) rfl ?_
            refine ao_read trivial (r_move rfl) rfl ?_
            refine ao_read trivial (r_move rfl) rfl ?_
            refine ao_read trivial (r_move rfl) rfl ?_
            refine ao_read trivial (r_idxAddr_view Try.underlying29 Try.sizeOf3 rfl rfl (by omega) (by omega)) rfl ?_
            refine ao_read trivial (r_load_elem_int Try.isAgg3 Try.sizeOf3 rfl rfl (show (i5.toNat + i15.toNat) < s14.2.length from by omega)) rfl ?_
            obtain ⟨g24, h⟩ := is_guard h
            refine ao_read trivial (r_idxAddr_os Try.underlying29 Try.sizeOf3 rfl rfl rfl (by omega) (show s14.1 < (s14.2.length : Int) from by omega)) rfl ?_
            refine ao_effS trivial (e_store_elem_int Try.sizeOf3 rfl rfl rfl rfl (show s14.1.toNat < s14.2.length from by omega) rfl) ?_
            refine ao_nil ?_
            refine aq_then ?_
            refine aw_region ?_
            refine ao_read trivial (r_move rfl) rfl ?_
            refine ao_read trivial (r_addI rfl rfl (wrap_id (by omega) (by omega))) rfl ?_
            refine ao_read trivial (r_assign rfl) rfl ?_
            refine ao_nil ?_
            refine aq_in ?_
            refine aq_then ?_
            refine aw_region ?_
            refine ao_read trivial (r_move rfl) rfl ?_
            refine ao_read trivial (r_addI rfl rfl (wrap_id (by omega) (by omega))) rfl ?_
            refine ao_read trivial (r_assign rfl) rfl ?_
            refine ao_nil ?_
            exact aq_again (AL.sub (sub_mk idn (by exact ⟨⟨_, rfl, ad_ren rfl⟩, ⟨_, rfl, ad_ren rfl⟩, ⟨_, rfl, ad_ren rfl⟩, ⟨_, rfl, ad_ren rfl⟩, trivial⟩) (by exact ⟨⟨_, rfl, rfl⟩, trivial⟩) (by rfl) (nk1 rfl rfl)) (ih d (i15 + 1) ((s14.1 + 1), (s14.2.set s14.1.toNat (s14.2.getD (i5.toNat + i15.toNat) 0))) (by omega) ⟨by omega, (by (try simp only [List.length_set, List.length_append, List.length_cons, List.length_nil, List.length_replicate, List.length_take, List.length_drop]) <;> omega), (by (try simp only [List.length_set, List.length_append, List.length_cons, List.length_nil, List.length_replicate, List.length_take, List.length_drop]) <;> omega), (by (try simp only [List.length_set, List.length_append, List.length_cons, List.length_nil, List.length_replicate, List.length_take, List.length_drop]) <;> omega), (by (try simp only [List.length_set, List.length_append, List.length_cons, List.length_nil, List.length_replicate, List.length_take, List.length_drop]) <;> omega)⟩ h))
          · have q23 := d_t (not_f hb21)
            replace h := is_if (d_t (not_f hb21)) h
            refine aw_skip ?_
            refine aq_in ?_
            refine aq_then ?_
            refine aw_region ?_
            refine ao_read trivial (r_move rfl) rfl ?_
            refine ao_read trivial (r_addI rfl rfl (wrap_id (by omega) (by omega))) rfl ?_
            refine ao_read trivial (r_assign rfl) rfl ?_
            refine ao_nil ?_
            exact aq_again (AL.sub (sub_mk idn (by exact ⟨⟨_, rfl, ad_ren rfl⟩, ⟨_, rfl, ad_ren rfl⟩, ⟨_, rfl, ad_ren rfl⟩, ⟨_, rfl, ad_ren rfl⟩, trivial⟩) (by exact ⟨⟨_, rfl, rfl⟩, trivial⟩) (by rfl) (nk1 rfl rfl)) (ih d (i15 + 1) (s14.1, s14.2) (by omega) ⟨by omega, (by (try simp only [List.length_set, List.length_append, List.length_cons, List.length_nil, List.length_replicate, List.length_take, List.length_drop]) <;> omega), (by (try simp only [List.length_set, List.length_append, List.length_cons, List.length_nil, List.length_replicate, List.length_take, List.length_drop]) <;> omega), (by (try simp only [List.length_set, List.length_append, List.length_cons, List.length_nil, List.length_replicate, List.length_take, List.length_drop]) <;> omega), (by (try simp only [List.length_set, List.length_append, List.length_cons, List.length_nil, List.length_replicate, List.length_take, List.length_drop]) <;> omega)⟩ h))
        · have q20 := d_f hb18
          obtain rfl : d = 0 := by omega
          replace h := is_cnt0 h
          refine aw_exit ?_
          refine aq_then_exit ?_
          refine aq_then_exit ?_
          refine aq_in_exit ?_
          refine aq_then ?_
          refine aw_seq ?_
          refine aw_region ?_
          refine ao_read trivial (r_move rfl) rfl ?_
          refine ao_read trivial (r_move rfl) rfl ?_
          obtain ⟨g25, h⟩ := is_guard h
          refine ao_read trivial (r_slice_os (t := (.int .i64)) Try.underlying29 Try.sizeOf3 rfl rfl (.some rfl) .none (show 0 ≤ s14.1 from by omega) (show s14.1 ≤ (s14.2.length : Int) from by omega) (show (s14.2.length : Int) ≤ (s14.2.length : Int) from by omega)) rfl ?_
          refine ao_clear (t := (.int .i64)) trivial Try.underlying29 Try.zeroValue3 rfl rfl rfl rfl rfl (show s14.1.toNat + ((s14.2.length : Int) - s14.1).toNat ≤ s14.2.length from by omega) ?_
          refine ao_nil ?_
          refine aq_then ?_
          refine aw_seq ?_
          refine aw_region ?_
          refine ao_read trivial (r_move rfl) rfl ?_
          refine ao_read trivial (r_move rfl) rfl ?_
          refine ao_eff trivial (e_shrink (t := (.int .i64)) 1 rfl Try.underlying29 Try.sizeOf3 rfl rfl (.some rfl) (by omega) (show s14.1 ≤ ((s14.2.take s14.1.toNat ++ (List.replicate ((s14.2.length : Int) - s14.1).toNat 0 ++ s14.2.drop (s14.1.toNat + ((s14.2.length : Int) - s14.1).toNat))).length : Int) from by (try simp only [List.length_append, List.length_replicate, List.length_take, List.length_drop]) <;> omega) rfl rfl) rfl ?_
          refine ao_read trivial (r_assign rfl) rfl ?_
          refine ao_nil ?_
          refine aq_then ?_
          refine aw_ret ?_
          refine aq_in_ret ?_
          refine aq_then_ret ?_
          refine aq_then_ret ?_
          refine aq_in_ret ?_
          refine aq_then_ret ?_
          refine aq_ret ?_
          obtain rfl := is_some h
          exact aq_finx (l := [.tmp 2]) (xs := [.os 1]) idn [.os 1] [(1, .row (.int .i64) (((s14.2.take s14.1.toNat ++ (List.replicate ((s14.2.length : Int) - s14.1).toNat 0 ++ s14.2.drop (s14.1.toNat + ((s14.2.length : Int) - s14.1).toNat))).take s14.1.toNat) : (List Int)))] rfl (by exact ⟨rfl, trivial⟩) (by exact ⟨ad_ren rfl, trivial⟩) (by exact ⟨⟨_, rfl, rfl⟩, trivial⟩) rfl (nk1 rfl rfl) rfl rfl ⟨rfl, rfl⟩
      · have q13 := d_f hb11
        replace h := is_else (d_f hb11) h
        refine aw_skip ?_
        refine aq_in ?_
        refine aq_then ?_
        refine aw_region ?_
        refine ao_read trivial (r_move rfl) rfl ?_
        refine ao_read trivial (r_addI rfl rfl (wrap_id (by omega) (by omega))) rfl ?_
        refine ao_read trivial (r_assign rfl) rfl ?_
        refine ao_nil ?_
        exact aq_again (AL.sub (sub_mk idn (by exact ⟨⟨_, rfl, ad_ren rfl⟩, ⟨_, rfl, ad_ren rfl⟩, trivial⟩) (by exact ⟨⟨_, rfl, rfl⟩, trivial⟩) (by rfl) (nk1 rfl rfl)) (ih d (i5 + 1) () (by omega) ⟨by omega, (by (try simp only [List.length_set, List.length_append, List.length_cons, List.length_nil, List.length_replicate, List.length_take, List.length_drop]) <;> omega), (by (try simp only [List.length_set, List.length_append, List.length_cons, List.length_nil, List.length_replicate, List.length_take, List.length_drop]) <;> omega)⟩ h))
    · have q10 := d_f hb8
      obtain rfl : d = 0 := by omega
      replace h := is_cnt0 h
      refine aw_exit ?_
      refine aq_then_exit ?_
      refine aq_then_exit ?_
      refine aq_in_exit ?_
      refine aq_then ?_
      refine aw_seq ?_
      refine aw_region ?_
      refine ao_read trivial (r_move rfl) rfl ?_
      refine ao_read trivial (r_assign rfl) rfl ?_
      refine ao_nil ?_
      refine aq_then ?_
      refine aw_ret ?_
      refine aq_ret ?_
      obtain rfl := is_some h
      exact aq_finx (l := [.tmp 2]) (xs := [.os 0]) (rn [(1, 0)]) [.os 1] [(1, .row (.int .i64) x0)] rfl (by exact ⟨rfl, trivial⟩) (by exact ⟨ad_ren rfl, trivial⟩) (by exact ⟨⟨_, rfl, rfl⟩, trivial⟩) rfl (nk1 rfl rfl) rfl rfl ⟨rfl, rfl⟩
/-- loop.example/g01210/impl.numbers -/
def p_impl_numbers (x0 : (List Int)) : Option ((List Int)) :=
  (p_slices_Clone_int_int x0).bind (fun r1 => (p_slices_Compact_int_int r1).bind (fun r3 => some r3))
theorem c_impl_numbers {x0 : (List Int)} {r : (List Int)} (h : Is (p_impl_numbers x0) (some r)) :
    ACalls Try.prog 39 [.v (.arr 6 (.int .i64)) x0] [] (fun r' H' => r' = .os 0 ∧ H' = [(0, .row (.int .i64) r)]) := by
  unfold p_impl_numbers at h
  refine ac_enter ⟨6, 0⟩ Try.func39 rfl rfl rfl rfl rfl (fun Γ => ?_)
  refine aw_seq ?_
  refine aw_region ?_
  refine ao_eff trivial (e_box 0 rfl rfl rfl rfl rfl rfl) rfl ?_
  refine ao_read trivial (r_assign rfl) rfl ?_
  refine ao_nil ?_
  refine aq_then ?_
  refine aw_seq ?_
  refine aw_region ?_
  refine ao_read trivial (r_slice_arr Try.underlying22 Try.sizeOf3 rfl .none .none (by omega) (by omega) (by omega)) rfl ?_
  obtain ⟨r1, r1h, h⟩ := is_bind h
  refine ao_call [] 1 trivial (c_slices_Clone_int_int (is_mk r1h)) Try.func68 rfl rfl rfl rfl ⟨ad_viewf0 rfl rfl rfl rfl rfl, trivial⟩ trivial rfl rfl rfl rfl rfl rfl rfl (fun r' H' hr => ?_)
  obtain ⟨rfl, rfl⟩ := hr
  refine row_len_o 1 (r1.length : Int) rfl rfl (fun hr2 => ?_)
  obtain ⟨r3, r3h, h⟩ := is_bind h
  refine ao_call [1] 2 trivial (c_slices_Compact_int_int (is_mk r3h)) Try.func67 rfl rfl rfl rfl ⟨ad_ren rfl, trivial⟩ ⟨⟨_, rfl, rfl⟩, trivial⟩ rfl rfl rfl rfl rfl rfl rfl (fun r' H' hr => ?_)
  obtain ⟨rfl, rfl⟩ := hr
  refine row_len_o 2 (r3.length : Int) rfl rfl (fun hr4 => ?_)
  refine ao_read trivial (r_assign rfl) rfl ?_
  refine ao_nil ?_
  refine aq_then ?_
  refine aw_ret ?_
  refine aq_ret ?_
  obtain rfl := is_some h
  exact aq_finx (l := [.tmp 2]) (xs := [.os 2]) (rn [(0, 2)]) [.os 0] [(0, .row (.int .i64) r3)] rfl (by exact ⟨rfl, trivial⟩) (by exact ⟨ad_ren rfl, trivial⟩) (by exact ⟨⟨_, rfl, rfl⟩, trivial⟩) rfl (nk rfl) rfl rfl ⟨rfl, rfl⟩
/-- loop.example/g01210/laws.toIntA6 -/
def p_laws_toIntA6 (x0 : (List Int)) : (List Int) :=
  cnt (fun i2 (s1 : (List Int)) c3 _ => c3 (s1.set i2.toNat (x0.getD i2.toNat 0))) (fun i2 (s1 : (List Int)) => s1) (Int.toNat (6 - 0)) 0 (List.replicate 6 0)
theorem c_laws_toIntA6 {x0 : (List Int)} {r : (List Int)} (h : Is (p_laws_toIntA6 x0) r) :
    Scalar Try.prog 10 [.v (.arr 6 (.int .i64)) x0] (.v (.arr 6 (.int .i64)) r) := by
  unfold p_laws_toIntA6 at h
  refine ac_enter ⟨15, 0⟩ Try.func10 rfl rfl rfl rfl rfl (fun Γ => ?_)
  refine aw_seq ?_
  refine aw_region ?_
  refine ao_eff trivial (e_box 0 rfl rfl rfl rfl rfl rfl) rfl ?_
  refine ao_eff trivial (e_alloc 1 (y := .v (.arr 6 (.int .i64)) ((List.replicate 6 0) : (List Int))) Try.zeroValue22 (fun ρ h M => ra_zero_arr (t := (.int .i64)) rfl) rfl rfl rfl rfl rfl) rfl ?_
  refine ao_nil ?_
  refine aq_then ?_
  refine aw_seq ?_
  refine aw_region ?_
  refine ao_eff trivial (e_alloc 2 (y := .v (.arr 6 (.int .i64)) ((List.replicate 6 0) : (List Int))) Try.zeroValue22 (fun ρ h M => ra_zero_arr (t := (.int .i64)) rfl) rfl rfl rfl rfl rfl) rfl ?_
  refine ao_nil ?_
  refine aq_then ?_
  refine aw_seq ?_
  refine aw_seq ?_
  refine aw_region ?_
  refine ao_read trivial (r_assign rfl) rfl ?_
  refine ao_nil ?_
  refine aq_then ?_
  refine aw_block ?_
  refine aw_loop (AL.sub (fr' := [(1, .ref 0 0), (2, .ref 1 0), (3, .ref 2 0), (4, .int .i64 0)]) (H' := [(0, .var [.arr (.int .i64) 6 x0]), (1, .var [.arr (.int .i64) 6 ((List.replicate 6 0) : (List Int))]), (2, .var [.arr (.int .i64) 6 ((List.replicate 6 0) : (List Int))])]) (sub_mk idn (by exact ⟨⟨_, rfl, ad_ren rfl⟩, ⟨_, rfl, ad_ren rfl⟩, ⟨_, rfl, ad_ren rfl⟩, ⟨_, rfl, ad_ren rfl⟩, trivial⟩) (by exact ⟨⟨_, rfl, ⟨rfl, trivial⟩⟩, ⟨_, rfl, ⟨rfl, trivial⟩⟩, ⟨_, rfl, ⟨rfl, trivial⟩⟩, trivial⟩) (by rfl) (nk rfl)) (al_cnt (fun i2 (s1 : (List Int)) => [(1, .ref 0 0), (2, .ref 1 0), (3, .ref 2 0), (4, .int .i64 i2)]) (fun i2 (s1 : (List Int)) => [(0, .var [.arr (.int .i64) 6 x0]), (1, .var [.arr (.int .i64) 6 ((List.replicate 6 0) : (List Int))]), (2, .var [.arr (.int .i64) 6 s1])]) (fun d i2 (s1 : (List Int)) => d = Int.toNat (6 - i2) ∧ 0 ≤ i2 ∧ (s1.length : Int) = 6 ∧ i2 ≤ 6) h ⟨rfl, (by (try simp only [List.length_set, List.length_append, List.length_cons, List.length_nil, List.length_replicate, List.length_take, List.length_drop]) <;> omega), (by (try simp only [List.length_set, List.length_append, List.length_cons, List.length_nil, List.length_replicate, List.length_take, List.length_drop]) <;> omega), (by (try simp only [List.length_set, List.length_append, List.length_cons, List.length_nil, List.length_replicate, List.length_take, List.length_drop]) <;> omega)⟩ (fun d i2 s1 hI h ih => ?_)))
  obtain ⟨hd, _, _, _⟩ := hI
  refine al_round ?_
  refine aw_seq ?_
  refine aw_seq ?_
  refine aw_region ?_
  refine ao_read trivial (r_move rfl) rfl ?_
  refine ao_read trivial (r_lss rfl rfl) rfl ?_
  refine ao_nil ?_
  refine aq_then ?_
  refine aw_cond rfl (fun hb5 => ?_) (fun hb5 => ?_)
  · have q6 := d_t hb5
    obtain ⟨d, rfl⟩ : ∃ e, d = e + 1 := ⟨d - 1, by omega⟩
    replace h := is_cntS h
    refine aw_skip ?_
    refine aq_then ?_
    refine aw_seq ?_
    refine aw_block ?_
    refine aw_region ?_
    refine ao_read trivial (r_move rfl) rfl ?_
    refine ao_read trivial (r_move rfl) rfl ?_
    refine ao_read trivial (r_idxAddr_arr Try.underlying22 Try.sizeOf3 rfl rfl (by omega) (by omega)) rfl ?_
    refine ao_read trivial (r_load_elema_int Try.isAgg3 Try.sizeOf3 rfl rfl rfl (by omega)) rfl ?_
    refine ao_read trivial (r_idxAddr_arr Try.underlying22 Try.sizeOf3 rfl rfl (by omega) (by omega)) rfl ?_
    refine ao_effS trivial (e_store_elema_int Try.sizeOf3 rfl rfl rfl rfl (by omega) rfl) ?_
    refine ao_nil ?_
    refine aq_in ?_
    refine aq_then ?_
    refine aw_region ?_
    refine ao_read trivial (r_move rfl) rfl ?_
    refine ao_read trivial (r_addI rfl rfl (wrap_id (by omega) (by omega))) rfl ?_
    refine ao_read trivial (r_assign rfl) rfl ?_
    refine ao_nil ?_
    exact aq_again (AL.sub (sub_mk idn (by exact ⟨⟨_, rfl, ad_ren rfl⟩, ⟨_, rfl, ad_ren rfl⟩, ⟨_, rfl, ad_ren rfl⟩, ⟨_, rfl, ad_ren rfl⟩, trivial⟩) (by exact ⟨⟨_, rfl, ⟨rfl, trivial⟩⟩, ⟨_, rfl, ⟨rfl, trivial⟩⟩, ⟨_, rfl, ⟨rfl, trivial⟩⟩, trivial⟩) (by rfl) (nk rfl)) (ih d (i2 + 1) (s1.set i2.toNat (x0.getD i2.toNat 0)) (by omega) ⟨by omega, (by (try simp only [List.length_set, List.length_append, List.length_cons, List.length_nil, List.length_replicate, List.length_take, List.length_drop]) <;> omega), (by (try simp only [List.length_set, List.length_append, List.length_cons, List.length_nil, List.length_replicate, List.length_take, List.length_drop]) <;> omega), (by (try simp only [List.length_set, List.length_append, List.length_cons, List.length_nil, List.length_replicate, List.length_take, List.length_drop]) <;> omega)⟩ h))
  · have q7 := d_f hb5
    obtain rfl : d = 0 := by omega
    replace h := is_cnt0 h
    refine aw_exit ?_
    refine aq_then_exit ?_
    refine aq_then_exit ?_
    refine aq_in_exit ?_
    refine aq_then ?_
    refine aw_seq ?_
    refine aw_region ?_
    refine ao_read trivial (r_load_arr rfl Try.isAgg22 Try.sizeOf22 rfl rfl rfl) rfl ?_
    refine ao_effS trivial (e_store rfl rfl rfl rfl Try.sizeOf22 rfl) ?_
    refine ao_nil ?_
    refine aq_then ?_
    refine aw_ret ?_
    refine aq_ret ?_
    obtain rfl := is_eq h
    exact aq_finx (l := [.cell 2 22]) (xs := [.v (.arr 6 (.int .i64)) s1]) idn [.v (.arr 6 (.int .i64)) s1] [] rfl (by exact ⟨⟨⟨_, _, rfl⟩, r_load_arr rfl Try.isAgg22 Try.sizeOf22 rfl rfl rfl⟩, trivial⟩) (by exact ⟨ad_ren rfl, trivial⟩) (by exact trivial) rfl (nk rfl) rfl rfl ⟨rfl, rfl⟩
/-- loop.example/g01210/spec.l1In -/
def p_spec_l1In (x0 : Int) (x1 : Int) (x2 : Int) : Bool :=
  ((decide (x1 ≤ x0)) && (decide (x0 ≤ x2)))
theorem c_spec_l1In {x0 : Int} {x1 : Int} {x2 : Int} {r : Bool} (h : Is (p_spec_l1In x0 x1 x2) r) :
    Scalar Try.prog 63 [.int .i64 x0, .int .i64 x1, .int .i64 x2] (.bool r) := by
  unfold p_spec_l1In at h
  refine ac_enter ⟨15, 0⟩ Try.func63 rfl rfl rfl rfl rfl (fun Γ => ?_)
  refine aw_seq ?_
  refine aw_region ?_
  refine ao_read trivial (r_assign rfl) rfl ?_
  refine ao_nil ?_
  refine aq_then ?_
  refine aw_seq ?_
  refine aw_region ?_
  refine ao_read trivial (r_move rfl) rfl ?_
  refine ao_read trivial (r_move rfl) rfl ?_
  refine ao_read trivial (r_geq rfl rfl) rfl ?_
  refine ao_read trivial (r_move rfl) rfl ?_
  refine ao_readG (x := .int .i64 x0) rfl (GV.T rfl) (fun hg1 => by
      have q2 := d_t hg1
      exact r_move rfl) rfl ?_
  refine ao_readG (x := .int .i64 x2) rfl (GV.T rfl) (fun hg3 => by
      have q4 := d_t hg3
      exact r_move rfl) rfl ?_
  refine ao_readG (x := .bool (decide (x0 ≤ x2))) rfl (GV.T rfl) (fun hg5 => by
      have q6 := d_t hg5
      exact Reads.strip 11 rfl (hg5) (Reads.strip 12 rfl (hg5) (r_leq rfl rfl))) rfl ?_
  refine ao_read trivial (r_andB rfl rfl) rfl ?_
  refine ao_read trivial (r_assign rfl) rfl ?_
  refine ao_nil ?_
  refine aq_then ?_
  refine aw_ret ?_
  refine aq_ret ?_
  obtain rfl := is_eq h
  exact aq_finx (l := [.tmp 6]) (xs := [.bool ((decide (x1 ≤ x0)) && (decide (x0 ≤ x2)))]) idn [.bool ((decide (x1 ≤ x0)) && (decide (x0 ≤ x2)))] [] rfl (by exact ⟨rfl, trivial⟩) (by exact ⟨ad_ren rfl, trivial⟩) (by exact trivial) rfl (nk rfl) rfl rfl ⟨rfl, rfl⟩
/-- loop.example/g01210/spec.l2Die -/
def p_spec_l2Die (x0 : (List Int)) : Option (Bool) :=
  cnt (fun i2 (s1 : Unit) c3 _ => (if ((!(p_spec_l1In (x0.getD i2.toNat 0) 0 30)) || ((decide (0 < i2)) && (decide ((x0.getD i2.toNat 0) < (x0.getD (i2 - 1).toNat 0))))) = true then some false else c3 ())) (fun i2 (s1 : Unit) => some true) (Int.toNat (6 - 0)) 0 ()
theorem c_spec_l2Die {x0 : (List Int)} {r : Bool} (h : Is (p_spec_l2Die x0) (some r)) :
    Scalar Try.prog 40 [.v (.arr 6 (.int .i64)) x0] (.bool r) := by
  unfold p_spec_l2Die at h
  refine ac_enter ⟨27, 0⟩ Try.func40 rfl rfl rfl rfl rfl (fun Γ => ?_)
  refine aw_seq ?_
  refine aw_region ?_
  refine ao_eff trivial (e_box 0 rfl rfl rfl rfl rfl rfl) rfl ?_
  refine ao_read trivial (r_assign rfl) rfl ?_
  refine ao_nil ?_
  refine aq_then ?_
  refine aw_seq ?_
  refine aw_seq ?_
  refine aw_region ?_
  refine ao_read trivial (r_assign rfl) rfl ?_
  refine ao_nil ?_
  refine aq_then ?_
  refine aw_block ?_
  refine aw_loop (AL.sub (fr' := [(1, .ref 0 0), (3, .int .i64 0)]) (H' := [(0, .var [.arr (.int .i64) 6 x0])]) (sub_mk idn (by exact ⟨⟨_, rfl, ad_ren rfl⟩, ⟨_, rfl, ad_ren rfl⟩, trivial⟩) (by exact ⟨⟨_, rfl, ⟨rfl, trivial⟩⟩, trivial⟩) (by rfl) (nk rfl)) (al_cnt (fun i2 (s1 : Unit) => [(1, .ref 0 0), (3, .int .i64 i2)]) (fun i2 (s1 : Unit) => [(0, .var [.arr (.int .i64) 6 x0])]) (fun d i2 (s1 : Unit) => d = Int.toNat (6 - i2) ∧ 0 ≤ i2 ∧ i2 ≤ 6) h ⟨rfl, (by (try simp only [List.length_set, List.length_append, List.length_cons, List.length_nil, List.length_replicate, List.length_take, List.length_drop]) <;> omega), (by (try simp only [List.length_set, List.length_append, List.length_cons, List.length_nil, List.length_replicate, List.length_take, List.length_drop]) <;> omega)⟩ (fun d i2 s1 hI h ih => ?_)))
  obtain ⟨hd, _, _⟩ := hI
  refine al_round ?_
  refine aw_seq ?_
  refine aw_seq ?_
  refine aw_region ?_
  refine ao_read trivial (r_move rfl) rfl ?_
  refine ao_read trivial (r_lss rfl rfl) rfl ?_
  refine ao_nil ?_
  refine aq_then ?_
  refine aw_cond rfl (fun hb5 => ?_) (fun hb5 => ?_)
  · have q6 := d_t hb5
    obtain ⟨d, rfl⟩ : ∃ e, d = e + 1 := ⟨d - 1, by omega⟩
    replace h := is_cntS h
    refine aw_skip ?_
    refine aq_then ?_
    refine aw_seq ?_
    refine aw_block ?_
    refine aw_seq ?_
    refine aw_drawAll (by kernel_rfl) ?_
    refine an_read 0 (by kernel_rfl) (fun _ _ _ h => h) rfl (by kernel_rfl) trivial (r_move rfl) rfl ?_
    refine an_read 1 (by kernel_rfl) (fun _ _ _ h => h) rfl (by kernel_rfl) trivial (r_idxAddr_arr Try.underlying22 Try.sizeOf3 rfl rfl (by omega) (by omega)) rfl ?_
    refine an_read 2 (by kernel_rfl) (fun _ _ _ h => h) rfl (by kernel_rfl) trivial (r_load_elema_int Try.isAgg3 Try.sizeOf3 rfl rfl rfl (by omega)) rfl ?_
    refine an_scall 3 (by kernel_rfl) (fun _ _ _ h => h) rfl (by kernel_rfl) trivial (scall (c_spec_l1In (is_mk (rfl : p_spec_l1In (x0.getD i2.toNat 0) 0 30 = _))) rfl Try.func63 rfl rfl rfl rfl (fun σ => ⟨ad_ren rfl, ad_ren rfl, ad_ren rfl, trivial⟩)) rfl ?_
    refine an_read 4 (by kernel_rfl) (fun _ _ _ h => h) rfl (by kernel_rfl) trivial (r_not rfl) rfl ?_
    refine an_read 5 (by kernel_rfl) (fun _ _ _ h => h) rfl (by kernel_rfl) trivial (r_move rfl) rfl ?_
    refine an_readG 6 (x := .int .i64 i2) (by kernel_rfl) (fun _ _ _ h => h) rfl (by kernel_rfl) rfl (GV.F rfl) (fun hg8 => r_move rfl) rfl ?_
    refine an_readG 7 (x := .bool (decide (0 < i2))) (by kernel_rfl) (fun _ _ _ h => h) rfl (by kernel_rfl) rfl (GV.F rfl) (fun hg9 => Reads.strip 14 rfl (hg9) (r_gtr rfl rfl)) rfl ?_
    refine an_readG 8 (x := .bool (decide (0 < i2))) (by kernel_rfl) (fun _ _ _ h => h) rfl (by kernel_rfl) rfl (GV.F rfl) (fun hg10 => Reads.strip 15 rfl (hg10) (r_move rfl)) rfl ?_
    refine an_readG 9 (x := .int .i64 i2) (by kernel_rfl) (fun _ _ _ h => h) rfl (by kernel_rfl) rfl (GV.gT rfl) (fun hg11 => by
      obtain ⟨q12, q13⟩ := and_t hg11
      have q14 := d_t q13
      exact r_move rfl) rfl ?_
    refine an_readG 10 (x := .elem 0 0 1 i2.toNat) (by kernel_rfl) (fun _ _ _ h => h) rfl (by kernel_rfl) rfl (GV.gT rfl) (fun hg15 => by
      obtain ⟨q16, q17⟩ := and_t hg15
      have q18 := d_t q17
      exact Reads.strip 17 rfl (hg15) (r_idxAddr_arr Try.underlying22 Try.sizeOf3 rfl rfl (by omega) (by omega))) rfl ?_
    refine an_readG 11 (x := .int .i64 (x0.getD i2.toNat 0)) (by kernel_rfl) (fun _ _ _ h => h) rfl (by kernel_rfl) rfl (GV.gT rfl) (fun hg19 => by
      obtain ⟨q20, q21⟩ := and_t hg19
      have q22 := d_t q21
      exact Reads.strip 18 rfl (hg19) (r_load_elema_int Try.isAgg3 Try.sizeOf3 rfl rfl rfl (by omega))) rfl ?_
    refine an_readG 12 (x := .int .i64 i2) (by kernel_rfl) (fun _ _ _ h => h) rfl (by kernel_rfl) rfl (GV.gT rfl) (fun hg23 => by
      obtain ⟨q24, q25⟩ := and_t hg23
      have q26 := d_t q25
      exact r_move rfl) rfl ?_
    refine an_readG 13 (x := .int .i64 (i2 - 1)) (by kernel_rfl) (fun _ _ _ h => h) rfl (by kernel_rfl) rfl (GV.gT rfl) (fun hg27 => by
      obtain ⟨q28, q29⟩ := and_t hg27
      have q30 := d_t q29
      exact Reads.strip 20 rfl (hg27) (r_subI rfl rfl (wrap_id (by omega) (by omega)))) rfl ?_
    refine an_readG 14 (x := .elem 0 0 1 (i2 - 1).toNat) (by kernel_rfl) (fun _ _ _ h => h) rfl (by kernel_rfl) rfl (GV.gT rfl) (fun hg31 => by
      obtain ⟨q32, q33⟩ := and_t hg31
      have q34 := d_t q33
      exact Reads.strip 21 rfl (hg31) (r_idxAddr_arr Try.underlying22 Try.sizeOf3 rfl rfl (by omega) (by omega))) rfl ?_
    refine an_readG 15 (x := .int .i64 (x0.getD (i2 - 1).toNat 0)) (by kernel_rfl) (fun _ _ _ h => h) rfl (by kernel_rfl) rfl (GV.gT rfl) (fun hg35 => by
      obtain ⟨q36, q37⟩ := and_t hg35
      have q38 := d_t q37
      exact Reads.strip 22 rfl (hg35) (r_load_elema_int Try.isAgg3 Try.sizeOf3 rfl rfl rfl (by omega))) rfl ?_
    refine an_readG 16 (x := .bool (decide ((x0.getD i2.toNat 0) < (x0.getD (i2 - 1).toNat 0)))) (by kernel_rfl) (fun _ _ _ h => h) rfl (by kernel_rfl) rfl (GV.gT rfl) (fun hg39 => by
      obtain ⟨q40, q41⟩ := and_t hg39
      have q42 := d_t q41
      exact Reads.strip 19 rfl (hg39) (Reads.strip 23 rfl (hg39) (r_lss rfl rfl))) rfl ?_
    refine an_readG 17 (x := .bool ((decide (0 < i2)) && (decide ((x0.getD i2.toNat 0) < (x0.getD (i2 - 1).toNat 0))))) (by kernel_rfl) (fun _ _ _ h => h) rfl (by kernel_rfl) rfl (GV.F rfl) (fun hg43 => Reads.strip 16 rfl (hg43) (r_andBg rfl rfl (tr_and (hg43)))) rfl ?_
    refine an_read 18 (by kernel_rfl) (fun _ _ _ h => h) rfl (by kernel_rfl) trivial (r_orB rfl rfl) rfl ?_
    refine an_done rfl ?_
    refine aq_then ?_
    refine aw_cond rfl (fun hb44 => ?_) (fun hb44 => ?_)
    · replace h := is_if hb44 h
      refine aw_seq ?_
      refine aw_region ?_
      refine ao_read trivial (r_assign rfl) rfl ?_
      refine ao_nil ?_
      refine aq_then ?_
      refine aw_ret ?_
      refine aq_in_ret ?_
      refine aq_then_ret ?_
      refine aq_then_ret ?_
      refine aq_in_ret ?_
      refine aq_then_ret ?_
      refine aq_ret ?_
      obtain rfl := is_some h
      exact aq_finx (l := [.tmp 2]) (xs := [.bool false]) idn [.bool false] [] rfl (by exact ⟨rfl, trivial⟩) (by exact ⟨ad_ren rfl, trivial⟩) (by exact trivial) rfl (nk rfl) rfl rfl ⟨rfl, rfl⟩
    · obtain ⟨q45, q46⟩ := or_f hb44
      replace h := is_else (ne_t hb44) h
      refine aw_skip ?_
      refine aq_in ?_
      refine aq_then ?_
      refine aw_region ?_
      refine ao_read trivial (r_move rfl) rfl ?_
      refine ao_read trivial (r_addI rfl rfl (wrap_id (by omega) (by omega))) rfl ?_
      refine ao_read trivial (r_assign rfl) rfl ?_
      refine ao_nil ?_
      exact aq_again (AL.sub (sub_mk idn (by exact ⟨⟨_, rfl, ad_ren rfl⟩, ⟨_, rfl, ad_ren rfl⟩, trivial⟩) (by exact ⟨⟨_, rfl, ⟨rfl, trivial⟩⟩, trivial⟩) (by rfl) (nk rfl)) (ih d (i2 + 1) () (by omega) ⟨by omega, (by (try simp only [List.length_set, List.length_append, List.length_cons, List.length_nil, List.length_replicate, List.length_take, List.length_drop]) <;> omega), (by (try simp only [List.length_set, List.length_append, List.length_cons, List.length_nil, List.length_replicate, List.length_take, List.length_drop]) <;> omega)⟩ h))
  · have q7 := d_f hb5
    obtain rfl : d = 0 := by omega
    replace h := is_cnt0 h
    refine aw_exit ?_
    refine aq_then_exit ?_
    refine aq_then_exit ?_
    refine aq_in_exit ?_
    refine aq_then ?_
    refine aw_seq ?_
    refine aw_region ?_
    refine ao_read trivial (r_assign rfl) rfl ?_
    refine ao_nil ?_
    refine aq_then ?_
    refine aw_ret ?_
    refine aq_ret ?_
    obtain rfl := is_some h
    exact aq_finx (l := [.tmp 2]) (xs := [.bool true]) idn [.bool true] [] rfl (by exact ⟨rfl, trivial⟩) (by exact ⟨ad_ren rfl, trivial⟩) (by exact trivial) rfl (nk rfl) rfl rfl ⟨rfl, rfl⟩
/-- loop.example/g01210/spec.l11Tested -/
def p_spec_l11Tested (x0 : (List Int)) (x1 : Int) : Option (Bool) :=
  (p_spec_l2Die x0).bind (fun r1 => some (r1 && (p_spec_l1In x1 0 8)))
theorem c_spec_l11Tested {x0 : (List Int)} {x1 : Int} {r : Bool} (h : Is (p_spec_l11Tested x0 x1) (some r)) :
    Scalar Try.prog 35 [.v (.arr 6 (.int .i64)) x0, .int .i64 x1] (.bool r) := by
  unfold p_spec_l11Tested at h
  refine ac_enter ⟨11, 0⟩ Try.func35 rfl rfl rfl rfl rfl (fun Γ => ?_)
  refine aw_seq ?_
  refine aw_region ?_
  refine ao_eff trivial (e_box 0 rfl rfl rfl rfl rfl rfl) rfl ?_
  refine ao_read trivial (r_assign rfl) rfl ?_
  refine ao_nil ?_
  refine aq_then ?_
  refine aw_seq ?_
  refine aw_region ?_
  refine ao_read trivial (r_load_arr rfl Try.isAgg22 Try.sizeOf22 rfl rfl rfl) rfl ?_
  obtain ⟨r1, r1h, h⟩ := is_bind h
  refine ao_scall trivial (scall (c_spec_l2Die (is_mk r1h)) rfl Try.func40 rfl rfl rfl rfl (fun σ => ⟨ad_ren rfl, trivial⟩)) rfl ?_
  refine ao_read trivial (r_move rfl) rfl ?_
  refine ao_readG (x := .int .i64 x1) rfl (GV.T rfl) (fun hg2 => r_move rfl) rfl ?_
  refine ao_scallG (r := .bool (p_spec_l1In x1 0 8)) rfl (GV.T rfl) (fun hg3 => SCall.strip 8 rfl (hg3) (scall (c_spec_l1In (is_mk (rfl : p_spec_l1In x1 0 8 = _))) rfl Try.func63 rfl rfl rfl rfl (fun σ => ⟨ad_ren rfl, ad_ren rfl, ad_ren rfl, trivial⟩))) rfl ?_
  refine ao_read trivial (r_andB rfl rfl) rfl ?_
  refine ao_read trivial (r_assign rfl) rfl ?_
  refine ao_nil ?_
  refine aq_then ?_
  refine aw_ret ?_
  refine aq_ret ?_
  obtain rfl := is_some h
  exact aq_finx (l := [.tmp 4]) (xs := [.bool (r1 && (p_spec_l1In x1 0 8))]) idn [.bool (r1 && (p_spec_l1In x1 0 8))] [] rfl (by exact ⟨rfl, trivial⟩) (by exact ⟨ad_ren rfl, trivial⟩) (by exact trivial) rfl (nk rfl) rfl rfl ⟨rfl, rfl⟩
/-- loop.example/g01210/spec.l1Put -/
def p_spec_l1Put (x0 : (List Int)) (x1 : Int) : Option ((List Int)) :=
  cnt (fun i2 (s1 : Unit) c3 k42 => (if ((decide (i2 < (x0.length : Int))) && (decide ((x0.getD i2.toNat 0) < x1))) = true then c3 () else k42 i2 s1)) (fun i2 (s1 : Unit) => (if ((decide (i2 < (x0.length : Int))) && (decide ((x0.getD i2.toNat 0) = x1))) = true then some x0 else if 0 + (i2 - 0) ≤ 1000000000 then if (0 + (i2 - 0)) + 1 ≤ 1000000000 then if ((0 + (i2 - 0)) + 1) + ((x0.length : Int) - i2) ≤ 1000000000 then some ((([] ++ ((x0.drop 0).take (i2 - 0).toNat)) ++ [x1]) ++ ((x0.drop i2.toNat).take ((x0.length : Int) - i2).toNat)) else none else none else none)) (Int.toNat ((x0.length : Int) - 0)) 0 ()
theorem c_spec_l1Put {x0 : (List Int)} {x1 : Int} {r : (List Int)} (h : Is (p_spec_l1Put x0 x1) (some r)) :
    ACalls Try.prog 64 [.os 0, .int .i64 x1] [(0, .row (.int .i64) x0)] (fun r' H' => r' = .os 1 ∧ H' = [(1, .row (.int .i64) r)]) := by
  unfold p_spec_l1Put at h
  refine ac_enter ⟨45, 1⟩ Try.func64 rfl rfl rfl rfl rfl (fun Γ => ?_)
  refine row_len_m 0 (x0.length : Int) rfl rfl (fun hr0 => ?_)
  refine aw_seq ?_
  refine aw_region ?_
  refine ao_read trivial (r_assign rfl) rfl ?_
  refine ao_nil ?_
  refine aq_then ?_
  refine aw_seq ?_
  refine aw_region ?_
  refine ao_read trivial (r_assign rfl) rfl ?_
  refine ao_nil ?_
  refine aq_then ?_
  refine aw_seq ?_
  refine aw_block ?_
  refine aw_loop (AL.sub (fr' := [(0, .os 0), (1, .int .i64 x1), (5, .int .i64 0)]) (H' := [(0, .row (.int .i64) x0)]) (sub_mk idn (by exact ⟨⟨_, rfl, ad_ren rfl⟩, ⟨_, rfl, ad_ren rfl⟩, ⟨_, rfl, ad_ren rfl⟩, trivial⟩) (by exact ⟨⟨_, rfl, rfl⟩, trivial⟩) (by rfl) (nk1 rfl rfl)) (al_cnt (fun i2 (s1 : Unit) => [(0, .os 0), (1, .int .i64 x1), (5, .int .i64 i2)]) (fun i2 (s1 : Unit) => [(0, .row (.int .i64) x0)]) (fun d i2 (s1 : Unit) => d = Int.toNat ((x0.length : Int) - i2) ∧ 0 ≤ i2 ∧ i2 ≤ (x0.length : Int)) h ⟨rfl, (by (try simp only [List.length_set, List.length_append, List.length_cons, List.length_nil, List.length_replicate, List.length_take, List.length_drop]) <;> omega), (by (try simp only [List.length_set, List.length_append, List.length_cons, List.length_nil, List.length_replicate, List.length_take, List.length_drop]) <;> omega)⟩ (fun d i2 s1 hI h ih => ?_)))
  obtain ⟨hd, _, _⟩ := hI
  refine al_round ?_
  refine aw_seq ?_
  refine aw_seq ?_
  refine aw_region ?_
  refine ao_read trivial (r_move rfl) rfl ?_
  refine ao_read trivial (r_move rfl) rfl ?_
  refine ao_read trivial (r_len_osm (x0.length : Int) Try.underlying29 rfl rfl rfl) rfl ?_
  refine ao_read trivial (r_lss rfl rfl) rfl ?_
  refine ao_read trivial (r_move rfl) rfl ?_
  refine ao_readG (x := .os 0) rfl (GV.T rfl) (fun hg5 => by
      have q6 := d_t hg5
      exact r_move rfl) rfl ?_
  refine ao_readG (x := .int .i64 i2) rfl (GV.T rfl) (fun hg7 => by
      have q8 := d_t hg7
      exact r_move rfl) rfl ?_
  refine ao_readG (x := .elem 0 0 1 i2.toNat) rfl (GV.T rfl) (fun hg9 => by
      have q10 := d_t hg9
      exact Reads.strip 11 rfl (hg9) (Reads.strip 12 rfl (hg9) (r_idxAddr_os Try.underlying29 Try.sizeOf3 rfl rfl rfl (by omega) (show i2 < (x0.length : Int) from by omega)))) rfl ?_
  refine ao_readG (x := .int .i64 (x0.getD i2.toNat 0)) rfl (GV.T rfl) (fun hg11 => by
      have q12 := d_t hg11
      exact Reads.strip 13 rfl (hg11) (r_load_elem_int Try.isAgg3 Try.sizeOf3 rfl rfl (show i2.toNat < x0.length from by omega))) rfl ?_
  refine ao_readG (x := .int .i64 x1) rfl (GV.T rfl) (fun hg13 => by
      have q14 := d_t hg13
      exact r_move rfl) rfl ?_
  refine ao_readG (x := .bool (decide ((x0.getD i2.toNat 0) < x1))) rfl (GV.T rfl) (fun hg15 => by
      have q16 := d_t hg15
      exact Reads.strip 14 rfl (hg15) (Reads.strip 15 rfl (hg15) (r_lss rfl rfl))) rfl ?_
  refine ao_read trivial (r_andB rfl rfl) rfl ?_
  refine ao_nil ?_
  refine aq_then ?_
  refine aw_cond rfl (fun hb17 => ?_) (fun hb17 => ?_)
  · obtain ⟨q18, q19⟩ := and_t hb17
    have q20 := d_t q18
    have q21 := d_t q19
    obtain ⟨d, rfl⟩ : ∃ e, d = e + 1 := ⟨d - 1, by omega⟩
    replace h := is_if hb17 (is_cntS h)
    refine aw_skip ?_
    refine aq_then ?_
    refine aw_block ?_
    refine aw_region ?_
    refine ao_read trivial (r_move rfl) rfl ?_
    refine ao_read trivial (r_addI rfl rfl (wrap_id (by omega) (by omega))) rfl ?_
    refine ao_read trivial (r_assign rfl) rfl ?_
    refine ao_nil ?_
    refine aq_in ?_
    exact aq_again (AL.sub (sub_mk idn (by exact ⟨⟨_, rfl, ad_ren rfl⟩, ⟨_, rfl, ad_ren rfl⟩, ⟨_, rfl, ad_ren rfl⟩, trivial⟩) (by exact ⟨⟨_, rfl, rfl⟩, trivial⟩) (by rfl) (nk1 rfl rfl)) (ih d (i2 + 1) () (by omega) ⟨by omega, (by (try simp only [List.length_set, List.length_append, List.length_cons, List.length_nil, List.length_replicate, List.length_take, List.length_drop]) <;> omega), (by (try simp only [List.length_set, List.length_append, List.length_cons, List.length_nil, List.length_replicate, List.length_take, List.length_drop]) <;> omega)⟩ h))
  · replace h := is_cntF h (ne_t hb17) (fun _ => rfl)
    refine aw_exit ?_
    refine aq_then_exit ?_
    refine aq_then_exit ?_
    refine aq_in_exit ?_
    refine aq_then ?_
    refine aw_seq ?_
    refine aw_seq ?_
    refine aw_region ?_
    refine ao_read trivial (r_move rfl) rfl ?_
    refine ao_read trivial (r_move rfl) rfl ?_
    refine ao_read trivial (r_len_osm (x0.length : Int) Try.underlying29 rfl rfl rfl) rfl ?_
    refine ao_read trivial (r_lss rfl rfl) rfl ?_
    refine ao_read trivial (r_move rfl) rfl ?_
    refine ao_readG (x := .os 0) rfl (GV.T rfl) (fun hg22 => by
      have q23 := d_t hg22
      exact r_move rfl) rfl ?_
    refine ao_readG (x := .int .i64 i2) rfl (GV.T rfl) (fun hg24 => by
      have q25 := d_t hg24
      exact r_move rfl) rfl ?_
    refine ao_readG (x := .elem 0 0 1 i2.toNat) rfl (GV.T rfl) (fun hg26 => by
      have q27 := d_t hg26
      exact Reads.strip 25 rfl (hg26) (Reads.strip 26 rfl (hg26) (r_idxAddr_os Try.underlying29 Try.sizeOf3 rfl rfl rfl (by omega) (show i2 < (x0.length : Int) from by omega)))) rfl ?_
    refine ao_readG (x := .int .i64 (x0.getD i2.toNat 0)) rfl (GV.T rfl) (fun hg28 => by
      have q29 := d_t hg28
      exact Reads.strip 27 rfl (hg28) (r_load_elem_int Try.isAgg3 Try.sizeOf3 rfl rfl (show i2.toNat < x0.length from by omega))) rfl ?_
    refine ao_readG (x := .int .i64 x1) rfl (GV.T rfl) (fun hg30 => by
      have q31 := d_t hg30
      exact r_move rfl) rfl ?_
    refine ao_readG (x := .bool (decide ((x0.getD i2.toNat 0) = x1))) rfl (GV.T rfl) (fun hg32 => by
      have q33 := d_t hg32
      exact Reads.strip 28 rfl (hg32) (Reads.strip 29 rfl (hg32) (r_eql rfl rfl))) rfl ?_
    refine ao_read trivial (r_andB rfl rfl) rfl ?_
    refine ao_nil ?_
    refine aq_then ?_
    refine aw_cond rfl (fun hb34 => ?_) (fun hb34 => ?_)
    · obtain ⟨q35, q36⟩ := and_t hb34
      have q37 := d_t q35
      have q38 := d_t q36
      replace h := is_if hb34 h
      refine aw_seq ?_
      refine aw_region ?_
      refine ao_read trivial (r_move rfl) rfl ?_
      refine ao_read trivial (r_assign rfl) rfl ?_
      refine ao_nil ?_
      refine aq_then ?_
      refine aw_ret ?_
      refine aq_then_ret ?_
      refine aq_ret ?_
      obtain rfl := is_some h
      exact aq_finx (l := [.tmp 4]) (xs := [.os 0]) (rn [(1, 0)]) [.os 1] [(1, .row (.int .i64) x0)] rfl (by exact ⟨rfl, trivial⟩) (by exact ⟨ad_ren rfl, trivial⟩) (by exact ⟨⟨_, rfl, rfl⟩, trivial⟩) rfl (nk1 rfl rfl) rfl rfl ⟨rfl, rfl⟩
    · replace h := is_else (ne_t hb34) h
      refine aw_skip ?_
      refine aq_then ?_
      refine aw_seq ?_
      obtain ⟨g39, h⟩ := is_guard h
      obtain ⟨g40, h⟩ := is_guard h
      obtain ⟨g41, h⟩ := is_guard h
      refine aw_drawAll (by kernel_rfl) ?_
      refine an_to [(4, .os 1)] [(0, .row (.int .i64) x0), (1, .row (.int .i64) (((([] ++ ((x0.drop 0).take (i2 - 0).toNat)) ++ [x1]) ++ ((x0.drop i2.toNat).take ((x0.length : Int) - i2).toNat)) : (List Int)))] ?_ (fun key => ?_)
      · refine aq_then ?_
        refine aw_ret ?_
        refine aq_ret ?_
        obtain rfl := is_some h
        exact aq_finx (l := [.tmp 4]) (xs := [.os 1]) idn [.os 1] [(1, .row (.int .i64) (((([] ++ ((x0.drop 0).take (i2 - 0).toNat)) ++ [x1]) ++ ((x0.drop i2.toNat).take ((x0.length : Int) - i2).toNat)) : (List Int)))] rfl (by exact ⟨rfl, trivial⟩) (by exact ⟨ad_ren rfl, trivial⟩) (by exact ⟨⟨_, rfl, rfl⟩, trivial⟩) rfl (nk1 rfl rfl) rfl rfl ⟨rfl, rfl⟩
      · refine an_read 1 (by kernel_rfl) (fun _ _ _ h => h) rfl (by kernel_rfl) trivial (r_move rfl) rfl ?_
        refine an_read 2 (by kernel_rfl) (fun _ _ _ h => h) rfl (by kernel_rfl) trivial (r_move rfl) rfl ?_
        refine an_read 3 (by kernel_rfl) (fun _ _ _ h => h) rfl (by kernel_rfl) trivial (r_slice_os (t := (.int .i64)) Try.underlying29 Try.sizeOf3 rfl rfl .none (.some rfl) (show 0 ≤ 0 from by omega) (show 0 ≤ i2 from by omega) (show i2 ≤ (x0.length : Int) from by omega)) rfl ?_
        refine an_read 5 (by kernel_rfl) (fun _ _ _ h => h) rfl (by kernel_rfl) trivial (r_move rfl) rfl ?_
        refine an_read 8 (by kernel_rfl) (fun _ _ _ h => h) rfl (by kernel_rfl) trivial (r_move rfl) rfl ?_
        refine an_read 9 (by kernel_rfl) (fun _ _ _ h => h) rfl (by kernel_rfl) trivial (r_move rfl) rfl ?_
        refine an_read 10 (by kernel_rfl) (fun _ _ _ h => h) rfl (by kernel_rfl) trivial (r_slice_os (t := (.int .i64)) Try.underlying29 Try.sizeOf3 rfl rfl (.some rfl) .none (show 0 ≤ i2 from by omega) (show i2 ≤ (x0.length : Int) from by omega) (show (x0.length : Int) ≤ (x0.length : Int) from by omega)) rfl ?_
        refine an_explore 1 rfl ?_
        refine ax_all [0, 6] (by kernel_rfl) ⟨?_, ?_, trivial⟩
        · refine axo_eff 0 rfl trivial (e_buildSlice (l := []) (t := (.int .i64)) 1 [] rfl Try.underlying29 Try.zeroValue3 Try.sizeOf3 rfl rfl rfl rfl rfl rfl rfl) rfl rfl ?_
          refine ax_all [4, 6] (by kernel_rfl) ⟨?_, ?_, trivial⟩
          · refine axo_eff 4 rfl trivial (e_append (t := (.int .i64)) 2 rfl Try.underlying29 (rfl : Try.prog.info? 3 = some _) rfl rfl rfl rfl rfl rfl rfl (src_view (t := (.int .i64)) rfl (show 0 + (i2 - 0).toNat ≤ x0.length from by omega)) (show [].length + ((x0.drop 0).take (i2 - 0).toNat).length ≤ 1000000000 from by (try simp only [List.length_cons, List.length_nil, List.length_take, List.length_drop]) <;> omega) rfl rfl) rfl rfl ?_
            refine ax_all [6] (by kernel_rfl) ⟨?_, trivial⟩
            refine axo_eff 6 rfl trivial (e_buildSlice (l := [(0, .tmp 38)]) (t := (.int .i64)) 3 [x1] rfl Try.underlying29 Try.zeroValue3 Try.sizeOf3 rfl rfl rfl rfl rfl rfl rfl) rfl rfl ?_
            refine ax_all [7] (by kernel_rfl) ⟨?_, trivial⟩
            refine axo_eff 7 rfl trivial (e_append (t := (.int .i64)) 4 rfl Try.underlying29 (rfl : Try.prog.info? 3 = some _) rfl rfl rfl rfl rfl rfl rfl (src_os rfl) (show ([] ++ ((x0.drop 0).take (i2 - 0).toNat)).length + [x1].length ≤ 1000000000 from by (try simp only [List.length_append, List.length_cons, List.length_nil, List.length_take, List.length_drop]) <;> omega) rfl rfl) rfl rfl ?_
            refine ax_all [11] (by kernel_rfl) ⟨?_, trivial⟩
            refine axo_eff 11 rfl trivial (e_append (t := (.int .i64)) 5 rfl Try.underlying29 (rfl : Try.prog.info? 3 = some _) rfl rfl rfl rfl rfl rfl rfl (src_view (t := (.int .i64)) rfl (show i2.toNat + ((x0.length : Int) - i2).toNat ≤ x0.length from by omega)) (show (([] ++ ((x0.drop 0).take (i2 - 0).toNat)) ++ [x1]).length + ((x0.drop i2.toNat).take ((x0.length : Int) - i2).toNat).length ≤ 1000000000 from by (try simp only [List.length_append, List.length_cons, List.length_nil, List.length_take, List.length_drop]) <;> omega) rfl rfl) rfl rfl ?_
            refine ax_all [12] (by kernel_rfl) ⟨?_, trivial⟩
            refine axo_read 12 rfl trivial (r_assign rfl) rfl ?_
            exact ax_done rfl (AQ.sub (sub_mk (rn [(1, 5)]) (by exact ⟨⟨_, rfl, ad_ren rfl⟩, trivial⟩) (by exact ⟨⟨_, rfl, rfl⟩, ⟨_, rfl, rfl⟩, trivial⟩) (by rfl) (nk1 rfl rfl)) key)
          · refine axo_eff 6 rfl trivial (e_buildSlice (l := [(0, .tmp 38)]) (t := (.int .i64)) 2 [x1] rfl Try.underlying29 Try.zeroValue3 Try.sizeOf3 rfl rfl rfl rfl rfl rfl rfl) rfl rfl ?_
            refine ax_all [4] (by kernel_rfl) ⟨?_, trivial⟩
            refine axo_eff 4 rfl trivial (e_append (t := (.int .i64)) 3 rfl Try.underlying29 (rfl : Try.prog.info? 3 = some _) rfl rfl rfl rfl rfl rfl rfl (src_view (t := (.int .i64)) rfl (show 0 + (i2 - 0).toNat ≤ x0.length from by omega)) (show [].length + ((x0.drop 0).take (i2 - 0).toNat).length ≤ 1000000000 from by (try simp only [List.length_cons, List.length_nil, List.length_take, List.length_drop]) <;> omega) rfl rfl) rfl rfl ?_
            refine ax_all [7] (by kernel_rfl) ⟨?_, trivial⟩
            refine axo_eff 7 rfl trivial (e_append (t := (.int .i64)) 4 rfl Try.underlying29 (rfl : Try.prog.info? 3 = some _) rfl rfl rfl rfl rfl rfl rfl (src_os rfl) (show ([] ++ ((x0.drop 0).take (i2 - 0).toNat)).length + [x1].length ≤ 1000000000 from by (try simp only [List.length_append, List.length_cons, List.length_nil, List.length_take, List.length_drop]) <;> omega) rfl rfl) rfl rfl ?_
            refine ax_all [11] (by kernel_rfl) ⟨?_, trivial⟩
            refine axo_eff 11 rfl trivial (e_append (t := (.int .i64)) 5 rfl Try.underlying29 (rfl : Try.prog.info? 3 = some _) rfl rfl rfl rfl rfl rfl rfl (src_view (t := (.int .i64)) rfl (show i2.toNat + ((x0.length : Int) - i2).toNat ≤ x0.length from by omega)) (show (([] ++ ((x0.drop 0).take (i2 - 0).toNat)) ++ [x1]).length + ((x0.drop i2.toNat).take ((x0.length : Int) - i2).toNat).length ≤ 1000000000 from by (try simp only [List.length_append, List.length_cons, List.length_nil, List.length_take, List.length_drop]) <;> omega) rfl rfl) rfl rfl ?_
            refine ax_all [12] (by kernel_rfl) ⟨?_, trivial⟩
            refine axo_read 12 rfl trivial (r_assign rfl) rfl ?_
            exact ax_done rfl (AQ.sub (sub_mk (rn [(1, 5)]) (by exact ⟨⟨_, rfl, ad_ren rfl⟩, trivial⟩) (by exact ⟨⟨_, rfl, rfl⟩, ⟨_, rfl, rfl⟩, trivial⟩) (by rfl) (nk1 rfl rfl)) key)
        · refine axo_eff 6 rfl trivial (e_buildSlice (l := [(0, .tmp 38)]) (t := (.int .i64)) 1 [x1] rfl Try.underlying29 Try.zeroValue3 Try.sizeOf3 rfl rfl rfl rfl rfl rfl rfl) rfl rfl ?_
          refine ax_all [0] (by kernel_rfl) ⟨?_, trivial⟩
          refine axo_eff 0 rfl trivial (e_buildSlice (l := []) (t := (.int .i64)) 2 [] rfl Try.underlying29 Try.zeroValue3 Try.sizeOf3 rfl rfl rfl rfl rfl rfl rfl) rfl rfl ?_
          refine ax_all [4] (by kernel_rfl) ⟨?_, trivial⟩
          refine axo_eff 4 rfl trivial (e_append (t := (.int .i64)) 3 rfl Try.underlying29 (rfl : Try.prog.info? 3 = some _) rfl rfl rfl rfl rfl rfl rfl (src_view (t := (.int .i64)) rfl (show 0 + (i2 - 0).toNat ≤ x0.length from by omega)) (show [].length + ((x0.drop 0).take (i2 - 0).toNat).length ≤ 1000000000 from by (try simp only [List.length_cons, List.length_nil, List.length_take, List.length_drop]) <;> omega) rfl rfl) rfl rfl ?_
          refine ax_all [7] (by kernel_rfl) ⟨?_, trivial⟩
          refine axo_eff 7 rfl trivial (e_append (t := (.int .i64)) 4 rfl Try.underlying29 (rfl : Try.prog.info? 3 = some _) rfl rfl rfl rfl rfl rfl rfl (src_os rfl) (show ([] ++ ((x0.drop 0).take (i2 - 0).toNat)).length + [x1].length ≤ 1000000000 from by (try simp only [List.length_append, List.length_cons, List.length_nil, List.length_take, List.length_drop]) <;> omega) rfl rfl) rfl rfl ?_
          refine ax_all [11] (by kernel_rfl) ⟨?_, trivial⟩
          refine axo_eff 11 rfl trivial (e_append (t := (.int .i64)) 5 rfl Try.underlying29 (rfl : Try.prog.info? 3 = some _) rfl rfl rfl rfl rfl rfl rfl (src_view (t := (.int .i64)) rfl (show i2.toNat + ((x0.length : Int) - i2).toNat ≤ x0.length from by omega)) (show (([] ++ ((x0.drop 0).take (i2 - 0).toNat)) ++ [x1]).length + ((x0.drop i2.toNat).take ((x0.length : Int) - i2).toNat).length ≤ 1000000000 from by (try simp only [List.length_append, List.length_cons, List.length_nil, List.length_take, List.length_drop]) <;> omega) rfl rfl) rfl rfl ?_
          refine ax_all [12] (by kernel_rfl) ⟨?_, trivial⟩
          refine axo_read 12 rfl trivial (r_assign rfl) rfl ?_
          exact ax_done rfl (AQ.sub (sub_mk (rn [(1, 5)]) (by exact ⟨⟨_, rfl, ad_ren rfl⟩, trivial⟩) (by exact ⟨⟨_, rfl, rfl⟩, ⟨_, rfl, rfl⟩, trivial⟩) (by rfl) (nk1 rfl rfl)) key)
/-- loop.example/g01210/spec.l8Numbers -/
def p_spec_l8Numbers (x0 : (List Int)) : Option ((List Int)) :=
  cnt (fun i2 (s1 : (List Int)) c3 _ => (p_spec_l1Put s1 (x0.getD i2.toNat 0)).bind (fun r8 => c3 r8)) (fun i2 (s1 : (List Int)) => some s1) (Int.toNat (6 - 0)) 0 []
theorem c_spec_l8Numbers {x0 : (List Int)} {r : (List Int)} (h : Is (p_spec_l8Numbers x0) (some r)) :
    ACalls Try.prog 36 [.v (.arr 6 (.int .i64)) x0] [] (fun r' H' => r' = .os 0 ∧ H' = [(0, .row (.int .i64) r)]) := by
  unfold p_spec_l8Numbers at h
  refine ac_enter ⟨16, 0⟩ Try.func36 rfl rfl rfl rfl rfl (fun Γ => ?_)
  refine aw_seq ?_
  refine aw_region ?_
  refine ao_eff trivial (e_box 0 rfl rfl rfl rfl rfl rfl) rfl ?_
  refine ao_read trivial (r_assign rfl) rfl ?_
  refine ao_nil ?_
  refine aq_then ?_
  refine aw_seq ?_
  refine aw_region ?_
  refine ao_eff trivial (e_buildSlice (l := []) (t := (.int .i64)) 1 [] rfl Try.underlying29 Try.zeroValue3 Try.sizeOf3 rfl rfl rfl rfl rfl rfl rfl) rfl ?_
  refine ao_read trivial (r_assign rfl) rfl ?_
  refine ao_nil ?_
  refine aq_then ?_
  refine aw_seq ?_
  refine aw_seq ?_
  refine aw_region ?_
  refine ao_read trivial (r_assign rfl) rfl ?_
  refine ao_nil ?_
  refine aq_then ?_
  refine aw_block ?_
  refine aw_loop (AL.sub (fr' := [(1, .ref 0 0), (3, .os 1), (4, .int .i64 0)]) (H' := [(0, .var [.arr (.int .i64) 6 x0]), (1, .row (.int .i64) ([] : (List Int)))]) (sub_mk idn (by exact ⟨⟨_, rfl, ad_ren rfl⟩, ⟨_, rfl, ad_ren rfl⟩, ⟨_, rfl, ad_ren rfl⟩, trivial⟩) (by exact ⟨⟨_, rfl, ⟨rfl, trivial⟩⟩, ⟨_, rfl, rfl⟩, trivial⟩) (by rfl) (nk rfl)) (al_cnt (fun i2 (s1 : (List Int)) => [(1, .ref 0 0), (3, .os 1), (4, .int .i64 i2)]) (fun i2 (s1 : (List Int)) => [(0, .var [.arr (.int .i64) 6 x0]), (1, .row (.int .i64) s1)]) (fun d i2 (s1 : (List Int)) => d = Int.toNat (6 - i2) ∧ 0 ≤ i2 ∧ i2 ≤ 6) h ⟨rfl, (by (try simp only [List.length_set, List.length_append, List.length_cons, List.length_nil, List.length_replicate, List.length_take, List.length_drop]) <;> omega), (by (try simp only [List.length_set, List.length_append, List.length_cons, List.length_nil, List.length_replicate, List.length_take, List.length_drop]) <;> omega)⟩ (fun d i2 s1 hI h ih => ?_)))
  obtain ⟨hd, _, _⟩ := hI
  refine al_round ?_
  refine aw_seq ?_
  refine aw_seq ?_
  refine aw_region ?_
  refine ao_read trivial (r_move rfl) rfl ?_
  refine ao_read trivial (r_lss rfl rfl) rfl ?_
  refine ao_nil ?_
  refine aq_then ?_
  refine aw_cond rfl (fun hb5 => ?_) (fun hb5 => ?_)
  · have q6 := d_t hb5
    obtain ⟨d, rfl⟩ : ∃ e, d = e + 1 := ⟨d - 1, by omega⟩
    replace h := is_cntS h
    refine aw_skip ?_
    refine aq_then ?_
    refine aw_seq ?_
    refine aw_block ?_
    refine aw_region ?_
    refine ao_read trivial (r_move rfl) rfl ?_
    refine ao_read trivial (r_move rfl) rfl ?_
    refine ao_read trivial (r_idxAddr_arr Try.underlying22 Try.sizeOf3 rfl rfl (by omega) (by omega)) rfl ?_
    refine ao_read trivial (r_load_elema_int Try.isAgg3 Try.sizeOf3 rfl rfl rfl (by omega)) rfl ?_
    obtain ⟨r8, r8h, h⟩ := is_bind h
    refine ao_call [1] 2 trivial (c_spec_l1Put (is_mk r8h)) Try.func64 rfl rfl rfl rfl ⟨ad_ren rfl, ad_ren rfl, trivial⟩ ⟨⟨_, rfl, rfl⟩, trivial⟩ rfl rfl rfl rfl rfl rfl rfl (fun r' H' hr => ?_)
    obtain ⟨rfl, rfl⟩ := hr
    refine row_len_o 2 (r8.length : Int) rfl rfl (fun hr9 => ?_)
    refine ao_read trivial (r_assign rfl) rfl ?_
    refine ao_nil ?_
    refine aq_in ?_
    refine aq_then ?_
    refine aw_region ?_
    refine ao_read trivial (r_move rfl) rfl ?_
    refine ao_read trivial (r_addI rfl rfl (wrap_id (by omega) (by omega))) rfl ?_
    refine ao_read trivial (r_assign rfl) rfl ?_
    refine ao_nil ?_
    exact aq_again (AL.sub (sub_mk (rn [(1, 2)]) (by exact ⟨⟨_, rfl, ad_ren rfl⟩, ⟨_, rfl, ad_ren rfl⟩, ⟨_, rfl, ad_ren rfl⟩, trivial⟩) (by exact ⟨⟨_, rfl, ⟨rfl, trivial⟩⟩, ⟨_, rfl, rfl⟩, trivial⟩) (by rfl) (nk rfl)) (ih d (i2 + 1) r8 (by omega) ⟨by omega, (by (try simp only [List.length_set, List.length_append, List.length_cons, List.length_nil, List.length_replicate, List.length_take, List.length_drop]) <;> omega), (by (try simp only [List.length_set, List.length_append, List.length_cons, List.length_nil, List.length_replicate, List.length_take, List.length_drop]) <;> omega)⟩ h))
  · have q7 := d_f hb5
    obtain rfl : d = 0 := by omega
    replace h := is_cnt0 h
    refine aw_exit ?_
    refine aq_then_exit ?_
    refine aq_then_exit ?_
    refine aq_in_exit ?_
    refine aq_then ?_
    refine aw_seq ?_
    refine aw_region ?_
    refine ao_read trivial (r_move rfl) rfl ?_
    refine ao_read trivial (r_assign rfl) rfl ?_
    refine ao_nil ?_
    refine aq_then ?_
    refine aw_ret ?_
    refine aq_ret ?_
    obtain rfl := is_some h
    exact aq_finx (l := [.tmp 2]) (xs := [.os 1]) (rn [(0, 1)]) [.os 0] [(0, .row (.int .i64) s1)] rfl (by exact ⟨rfl, trivial⟩) (by exact ⟨ad_ren rfl, trivial⟩) (by exact ⟨⟨_, rfl, rfl⟩, trivial⟩) rfl (nk rfl) rfl rfl ⟨rfl, rfl⟩
/-- loop.example/g01210/spec.MeanDistance -/
def p_spec_MeanDistance (x0 : (List Int)) (x1 : Int) : Option ((List Int) × Bool) :=
  (p_spec_l11Tested x0 x1).bind (fun r1 => (if ((!r1) || (decide (x1 = 0))) = true then some ((List.replicate 2 0), false) else (p_spec_l8Numbers x0).bind (fun r8 => some ([((r8.length : Int) - 1), 1], true))))
theorem c_spec_MeanDistance {x0 : (List Int)} {x1 : Int} {r : (List Int) × Bool} (h : Is (p_spec_MeanDistance x0 x1) (some r)) :
    Scalar Try.prog 9 [.v (.arr 6 (.int .i64)) x0, .int .i64 x1] (.tup [.v (.arr 2 (.int .i64)) r.1, .bool r.2]) := by
  unfold p_spec_MeanDistance at h
  refine ac_enter ⟨20, 0⟩ Try.func9 rfl rfl rfl rfl rfl (fun Γ => ?_)
  refine aw_seq ?_
  refine aw_region ?_
  refine ao_eff trivial (e_box 0 rfl rfl rfl rfl rfl rfl) rfl ?_
  refine ao_eff trivial (e_alloc 1 (y := .v (.arr 2 (.int .i64)) ((List.replicate 2 0) : (List Int))) Try.zeroValue23 (fun ρ h M => ra_zero_arr (t := (.int .i64)) rfl) rfl rfl rfl rfl rfl) rfl ?_
  refine ao_read trivial (r_assign rfl) rfl ?_
  refine ao_nil ?_
  refine aq_then ?_
  refine aw_seq ?_
  refine aw_seq ?_
  refine aw_region ?_
  refine ao_read trivial (r_load_arr rfl Try.isAgg22 Try.sizeOf22 rfl rfl rfl) rfl ?_
  refine ao_read trivial (r_move rfl) rfl ?_
  obtain ⟨r1, r1h, h⟩ := is_bind h
  refine ao_scall trivial (scall (c_spec_l11Tested (is_mk r1h)) rfl Try.func35 rfl rfl rfl rfl (fun σ => ⟨ad_ren rfl, ad_ren rfl, trivial⟩)) rfl ?_
  refine ao_read trivial (r_not rfl) rfl ?_
  refine ao_read trivial (r_move rfl) rfl ?_
  refine ao_readG (x := .int .i64 x1) rfl (GV.F rfl) (fun hg2 => r_move rfl) rfl ?_
  refine ao_readG (x := .bool (decide (x1 = 0))) rfl (GV.F rfl) (fun hg3 => Reads.strip 11 rfl (hg3) (r_eql rfl rfl)) rfl ?_
  refine ao_read trivial (r_orB rfl rfl) rfl ?_
  refine ao_nil ?_
  refine aq_then ?_
  refine aw_cond rfl (fun hb4 => ?_) (fun hb4 => ?_)
  · replace h := is_if hb4 h
    refine aw_seq ?_
    refine aw_region ?_
    refine ao_read trivial (r_build_zero (t := (.int .i64)) Try.underlying23 Try.zeroValue23 Try.sizeOf3 rfl) rfl ?_
    refine ao_effS trivial (e_store rfl rfl rfl rfl Try.sizeOf23 rfl) ?_
    refine ao_read trivial (r_assign rfl) rfl ?_
    refine ao_nil ?_
    refine aq_then ?_
    refine aw_ret ?_
    refine aq_then_ret ?_
    refine aq_ret ?_
    obtain rfl := is_some h
    exact aq_finx (l := [.cell 4 23, .tmp 5]) (xs := [.v (.arr 2 (.int .i64)) ((List.replicate 2 0) : (List Int)), .bool false]) idn [.v (.arr 2 (.int .i64)) ((List.replicate 2 0) : (List Int)), .bool false] [] rfl (by exact ⟨⟨⟨_, _, rfl⟩, r_load_arr rfl Try.isAgg23 Try.sizeOf23 rfl rfl rfl⟩, rfl, trivial⟩) (by exact ⟨ad_ren rfl, ad_ren rfl, trivial⟩) (by exact trivial) rfl (nk rfl) rfl rfl ⟨rfl, rfl⟩
  · obtain ⟨q5, q6⟩ := or_f hb4
    have q7 := d_f q6
    replace h := is_else (ne_t hb4) h
    refine aw_skip ?_
    refine aq_then ?_
    refine aw_seq ?_
    refine aw_region ?_
    refine ao_read trivial (r_load_arr rfl Try.isAgg22 Try.sizeOf22 rfl rfl rfl) rfl ?_
    obtain ⟨r8, r8h, h⟩ := is_bind h
    refine ao_call [] 2 trivial (c_spec_l8Numbers (is_mk r8h)) Try.func36 rfl rfl rfl rfl ⟨ad_ren rfl, trivial⟩ trivial rfl rfl rfl rfl rfl rfl rfl (fun r' H' hr => ?_)
    obtain ⟨rfl, rfl⟩ := hr
    refine row_len_o 2 (r8.length : Int) rfl rfl (fun hr9 => ?_)
    refine ao_read trivial (r_len_osm (r8.length : Int) Try.underlying29 rfl rfl rfl) rfl ?_
    refine ao_read trivial (r_subI rfl rfl (wrap_id (by omega) (by omega))) rfl ?_
    refine ao_read trivial (r_build_arr (l := [(0, .tmp 18), (1, .const (.int .i64 1))]) (t := (.int .i64)) ([((r8.length : Int) - 1), 1] : (List Int)) rfl Try.underlying23 Try.zeroValue23 Try.sizeOf3 rfl rfl rfl rfl) rfl ?_
    refine ao_effS trivial (e_store rfl rfl rfl rfl Try.sizeOf23 rfl) ?_
    refine ao_read trivial (r_assign rfl) rfl ?_
    refine ao_nil ?_
    refine aq_then ?_
    refine aw_ret ?_
    refine aq_ret ?_
    obtain rfl := is_some h
    exact aq_finx (l := [.cell 4 23, .tmp 5]) (xs := [.v (.arr 2 (.int .i64)) ([((r8.length : Int) - 1), 1] : (List Int)), .bool true]) idn [.v (.arr 2 (.int .i64)) ([((r8.length : Int) - 1), 1] : (List Int)), .bool true] [] rfl (by exact ⟨⟨⟨_, _, rfl⟩, r_load_arr rfl Try.isAgg23 Try.sizeOf23 rfl rfl rfl⟩, rfl, trivial⟩) (by exact ⟨ad_ren rfl, ad_ren rfl, trivial⟩) (by exact trivial) rfl (nk rfl) rfl rfl ⟨rfl, rfl⟩
/-- loop.example/g01210/impl.within -/
def p_impl_within (x0 : Int) (x1 : Int) (x2 : Int) : Bool :=
  ((decide (x1 ≤ x0)) && (decide (x0 ≤ x2)))
theorem c_impl_within {x0 : Int} {x1 : Int} {x2 : Int} {r : Bool} (h : Is (p_impl_within x0 x1 x2) r) :
    Scalar Try.prog 38 [.int .i64 x0, .int .i64 x1, .int .i64 x2] (.bool r) := by
  unfold p_impl_within at h
  refine ac_enter ⟨15, 0⟩ Try.func38 rfl rfl rfl rfl rfl (fun Γ => ?_)
  refine aw_seq ?_
  refine aw_region ?_
  refine ao_read trivial (r_assign rfl) rfl ?_
  refine ao_nil ?_
  refine aq_then ?_
  refine aw_seq ?_
  refine aw_region ?_
  refine ao_read trivial (r_move rfl) rfl ?_
  refine ao_read trivial (r_move rfl) rfl ?_
  refine ao_read trivial (r_leq rfl rfl) rfl ?_
  refine ao_read trivial (r_move rfl) rfl ?_
  refine ao_readG (x := .int .i64 x0) rfl (GV.T rfl) (fun hg1 => by
      have q2 := d_t hg1
      exact r_move rfl) rfl ?_
  refine ao_readG (x := .int .i64 x2) rfl (GV.T rfl) (fun hg3 => by
      have q4 := d_t hg3
      exact r_move rfl) rfl ?_
  refine ao_readG (x := .bool (decide (x0 ≤ x2))) rfl (GV.T rfl) (fun hg5 => by
      have q6 := d_t hg5
      exact Reads.strip 11 rfl (hg5) (Reads.strip 12 rfl (hg5) (r_leq rfl rfl))) rfl ?_
  refine ao_read trivial (r_andB rfl rfl) rfl ?_
  refine ao_read trivial (r_assign rfl) rfl ?_
  refine ao_nil ?_
  refine aq_then ?_
  refine aw_ret ?_
  refine aq_ret ?_
  obtain rfl := is_eq h
  exact aq_finx (l := [.tmp 6]) (xs := [.bool ((decide (x1 ≤ x0)) && (decide (x0 ≤ x2)))]) idn [.bool ((decide (x1 ≤ x0)) && (decide (x0 ≤ x2)))] [] rfl (by exact ⟨rfl, trivial⟩) (by exact ⟨ad_ren rfl, trivial⟩) (by exact trivial) rfl (nk rfl) rfl rfl ⟨rfl, rfl⟩
/-- loop.example/g01210/impl.isFace -/
def p_impl_isFace (x0 : Int) : Bool :=
  (p_impl_within x0 0 30)
theorem c_impl_isFace {x0 : Int} {r : Bool} (h : Is (p_impl_isFace x0) r) :
    Scalar Try.prog 65 [.int .i64 x0] (.bool r) := by
  unfold p_impl_isFace at h
  refine ac_enter ⟨5, 0⟩ Try.func65 rfl rfl rfl rfl rfl (fun Γ => ?_)
  refine aw_seq ?_
  refine aw_region ?_
  refine ao_read trivial (r_assign rfl) rfl ?_
  refine ao_nil ?_
  refine aq_then ?_
  refine aw_seq ?_
  refine aw_region ?_
  refine ao_read trivial (r_move rfl) rfl ?_
  refine ao_scall trivial (scall (c_impl_within (is_mk (rfl : p_impl_within x0 0 30 = _))) rfl Try.func38 rfl rfl rfl rfl (fun σ => ⟨ad_ren rfl, ad_ren rfl, ad_ren rfl, trivial⟩)) rfl ?_
  refine ao_read trivial (r_assign rfl) rfl ?_
  refine ao_nil ?_
  refine aq_then ?_
  refine aw_ret ?_
  refine aq_ret ?_
  obtain rfl := is_eq h
  exact aq_finx (l := [.tmp 2]) (xs := [.bool (p_impl_within x0 0 30)]) idn [.bool (p_impl_within x0 0 30)] [] rfl (by exact ⟨rfl, trivial⟩) (by exact ⟨ad_ren rfl, trivial⟩) (by exact trivial) rfl (nk rfl) rfl rfl ⟨rfl, rfl⟩
/-- loop.example/g01210/impl.areAll[int]$1 -/
def p_impl_areAll_int_1 (x0 : Int) : Bool :=
  (!(p_impl_isFace x0))
theorem c_impl_areAll_int_1 {x0 : Int} {r : Bool} (h : Is (p_impl_areAll_int_1 x0) r) :
    Scalar Try.prog 78 [.int .i64 x0, .cav (.fn 65 [])] (.bool r) := by
  unfold p_impl_areAll_int_1 at h
  refine ac_enter ⟨8, 0⟩ Try.func78 rfl rfl rfl rfl rfl (fun Γ => ?_)
  refine aw_seq ?_
  refine aw_region ?_
  refine ao_read trivial (r_assign rfl) rfl ?_
  refine ao_nil ?_
  refine aq_then ?_
  refine aw_seq ?_
  refine aw_region ?_
  refine ao_read trivial (r_load_cav Try.isAgg68 rfl) rfl ?_
  refine ao_read trivial (r_move rfl) rfl ?_
  refine ao_scall trivial (scall (c_impl_isFace (is_mk (rfl : p_impl_isFace x0 = _))) rfl Try.func65 rfl rfl rfl rfl (fun σ => ⟨ad_ren rfl, trivial⟩)) rfl ?_
  refine ao_read trivial (r_not rfl) rfl ?_
  refine ao_read trivial (r_assign rfl) rfl ?_
  refine ao_nil ?_
  refine aq_then ?_
  refine aw_ret ?_
  refine aq_ret ?_
  obtain rfl := is_eq h
  exact aq_finx (l := [.tmp 3]) (xs := [.bool (!(p_impl_isFace x0))]) idn [.bool (!(p_impl_isFace x0))] [] rfl (by exact ⟨rfl, trivial⟩) (by exact ⟨ad_ren rfl, trivial⟩) (by exact trivial) rfl (nk rfl) rfl rfl ⟨rfl, rfl⟩
/-- slices.IndexFunc[[]int,int] -/
def p_slices_IndexFunc_int_int (x0 : (List Int)) : Int :=
  cnt (fun i2 (s1 : Unit) c3 _ => (if (p_impl_areAll_int_1 (x0.getD i2.toNat 0)) = true then i2 else c3 ())) (fun i2 (s1 : Unit) => (-1)) (Int.toNat ((x0.length : Int) - 0)) 0 ()
theorem c_slices_IndexFunc_int_int {x0 : (List Int)} {r : Int} (h : Is (p_slices_IndexFunc_int_int x0) r) :
    Scalar Try.prog 89 [.v (.slice (.int .i64)) x0, .fn 78 [.cav (.fn 65 [])]] (.int .i64 r) := by
  unfold p_slices_IndexFunc_int_int at h
  refine ac_enter ⟨19, 0⟩ Try.func89 rfl rfl rfl rfl rfl (fun Γ => ?_)
  refine sl_len_m 0 (x0.length : Int) rfl rfl (fun hl0 => ?_)
  refine aw_seq ?_
  refine aw_region ?_
  refine ao_read trivial (r_assign rfl) rfl ?_
  refine ao_nil ?_
  refine aq_then ?_
  refine aw_seq ?_
  refine aw_seq ?_
  refine aw_region ?_
  refine ao_read trivial (r_move rfl) rfl ?_
  refine ao_read trivial (r_len_vm (x0.length : Int) Try.underlying29 rfl rfl) rfl ?_
  refine ao_read trivial (r_move rfl) rfl ?_
  refine ao_nil ?_
  refine aq_then ?_
  refine aw_block ?_
  refine aw_loop (AL.sub (fr' := [(0, .v (.slice (.int .i64)) x0), (1, .fn 78 [.cav (.fn 65 [])]), (7, .int .i64 (x0.length : Int)), (8, .int .i64 0)]) (H' := []) (sub_mk idn (by exact ⟨⟨_, rfl, ad_ren rfl⟩, ⟨_, rfl, ad_ren rfl⟩, ⟨_, rfl, ad_ren rfl⟩, ⟨_, rfl, ad_ren rfl⟩, trivial⟩) (by exact trivial) (by rfl) (nk rfl)) (al_cnt (fun i2 (s1 : Unit) => [(0, .v (.slice (.int .i64)) x0), (1, .fn 78 [.cav (.fn 65 [])]), (7, .int .i64 (x0.length : Int)), (8, .int .i64 i2)]) (fun i2 (s1 : Unit) => []) (fun d i2 (s1 : Unit) => d = Int.toNat ((x0.length : Int) - i2) ∧ 0 ≤ i2 ∧ i2 ≤ (x0.length : Int)) h ⟨rfl, (by (try simp only [List.length_set, List.length_append, List.length_cons, List.length_nil, List.length_replicate, List.length_take, List.length_drop]) <;> omega), (by (try simp only [List.length_set, List.length_append, List.length_cons, List.length_nil, List.length_replicate, List.length_take, List.length_drop]) <;> omega)⟩ (fun d i2 s1 hI h ih => ?_)))
  obtain ⟨hd, _, _⟩ := hI
  refine al_round ?_
  refine aw_seq ?_
  refine aw_region ?_
  refine ao_read trivial (r_lss rfl rfl) rfl ?_
  refine ao_nil ?_
  refine aq_then ?_
  refine aw_seq ?_
  refine aw_cond rfl (fun hb5 => ?_) (fun hb5 => ?_)
  · have q6 := d_t hb5
    obtain ⟨d, rfl⟩ : ∃ e, d = e + 1 := ⟨d - 1, by omega⟩
    replace h := is_cntS h
    refine aw_skip ?_
    refine aq_then ?_
    refine aw_seq ?_
    refine aw_block ?_
    refine aw_seq ?_
    refine aw_region ?_
    refine ao_read trivial (r_move rfl) rfl ?_
    refine ao_read trivial (r_assign rfl) rfl ?_
    refine ao_nil ?_
    refine aq_then ?_
    refine aw_seq ?_
    refine aw_region ?_
    refine ao_read trivial (r_move rfl) rfl ?_
    refine ao_read trivial (r_move rfl) rfl ?_
    refine ao_read trivial (r_move rfl) rfl ?_
    refine ao_read trivial (r_idxAddr_int Try.underlying29 Try.sizeOf3 rfl rfl (by omega) (show i2 < (x0.length : Int) from by omega)) rfl ?_
    refine ao_read trivial (r_load_c_int Try.isAgg3 Try.sizeOf3 rfl) rfl ?_
    refine ao_scall trivial (scall (c_impl_areAll_int_1 (is_mk (rfl : p_impl_areAll_int_1 (x0.getD i2.toNat 0) = _))) rfl Try.func78 rfl rfl rfl rfl (fun σ => ⟨ad_ren rfl, ad_ren rfl, trivial⟩)) rfl ?_
    refine ao_nil ?_
    refine aq_then ?_
    refine aw_cond rfl (fun hb8 => ?_) (fun hb8 => ?_)
    · replace h := is_if hb8 h
      refine aw_seq ?_
      refine aw_region ?_
      refine ao_read trivial (r_move rfl) rfl ?_
      refine ao_read trivial (r_assign rfl) rfl ?_
      refine ao_nil ?_
      refine aq_then ?_
      refine aw_ret ?_
      refine aq_in_ret ?_
      refine aq_then_ret ?_
      refine aq_then_ret ?_
      refine aq_in_ret ?_
      refine aq_then_ret ?_
      refine aq_ret ?_
      obtain rfl := is_eq h
      exact aq_finx (l := [.tmp 4]) (xs := [.int .i64 i2]) idn [.int .i64 i2] [] rfl (by exact ⟨rfl, trivial⟩) (by exact ⟨ad_ren rfl, trivial⟩) (by exact trivial) rfl (nk rfl) rfl rfl ⟨rfl, rfl⟩
    · replace h := is_else (ne_t hb8) h
      refine aw_skip ?_
      refine aq_in ?_
      refine aq_then ?_
      refine aw_region ?_
      refine ao_read trivial (r_addI rfl rfl (wrap_id (by omega) (by omega))) rfl ?_
      refine ao_read trivial (r_move rfl) rfl ?_
      refine ao_nil ?_
      exact aq_again (AL.sub (sub_mk idn (by exact ⟨⟨_, rfl, ad_ren rfl⟩, ⟨_, rfl, ad_ren rfl⟩, ⟨_, rfl, ad_ren rfl⟩, ⟨_, rfl, ad_ren rfl⟩, trivial⟩) (by exact trivial) (by rfl) (nk rfl)) (ih d (i2 + 1) () (by omega) ⟨by omega, (by (try simp only [List.length_set, List.length_append, List.length_cons, List.length_nil, List.length_replicate, List.length_take, List.length_drop]) <;> omega), (by (try simp only [List.length_set, List.length_append, List.length_cons, List.length_nil, List.length_replicate, List.length_take, List.length_drop]) <;> omega)⟩ h))
  · have q7 := d_f hb5
    obtain rfl : d = 0 := by omega
    replace h := is_cnt0 h
    refine aw_exit ?_
    refine aq_then_exit ?_
    refine aq_then_exit ?_
    refine aq_in_exit ?_
    refine aq_then ?_
    refine aw_seq ?_
    refine aw_region ?_
    refine ao_read trivial (r_assign rfl) rfl ?_
    refine ao_nil ?_
    refine aq_then ?_
    refine aw_ret ?_
    refine aq_ret ?_
    obtain rfl := is_eq h
    exact aq_finx (l := [.tmp 4]) (xs := [.int .i64 (-1)]) idn [.int .i64 (-1)] [] rfl (by exact ⟨rfl, trivial⟩) (by exact ⟨ad_ren rfl, trivial⟩) (by exact trivial) rfl (nk rfl) rfl rfl ⟨rfl, rfl⟩
/-- slices.ContainsFunc[[]int,int] -/
def p_slices_ContainsFunc_int_int (x0 : (List Int)) : Bool :=
  (decide (0 ≤ (p_slices_IndexFunc_int_int x0)))
theorem c_slices_ContainsFunc_int_int {x0 : (List Int)} {r : Bool} (h : Is (p_slices_ContainsFunc_int_int x0) r) :
    Scalar Try.prog 77 [.v (.slice (.int .i64)) x0, .fn 78 [.cav (.fn 65 [])]] (.bool r) := by
  unfold p_slices_ContainsFunc_int_int at h
  refine ac_enter ⟨9, 0⟩ Try.func77 rfl rfl rfl rfl rfl (fun Γ => ?_)
  refine sl_len_m 0 (x0.length : Int) rfl rfl (fun hl0 => ?_)
  refine aw_seq ?_
  refine aw_region ?_
  refine ao_read trivial (r_assign rfl) rfl ?_
  refine ao_nil ?_
  refine aq_then ?_
  refine aw_seq ?_
  refine aw_region ?_
  refine ao_read trivial (r_move rfl) rfl ?_
  refine ao_read trivial (r_move rfl) rfl ?_
  refine ao_scall trivial (scall (c_slices_IndexFunc_int_int (is_mk (rfl : p_slices_IndexFunc_int_int x0 = _))) rfl Try.func89 rfl rfl rfl rfl (fun σ => ⟨ad_ren rfl, ad_ren rfl, trivial⟩)) rfl ?_
  refine ao_read trivial (r_geq rfl rfl) rfl ?_
  refine ao_read trivial (r_assign rfl) rfl ?_
  refine ao_nil ?_
  refine aq_then ?_
  refine aw_ret ?_
  refine aq_ret ?_
  obtain rfl := is_eq h
  exact aq_finx (l := [.tmp 4]) (xs := [.bool (decide (0 ≤ (p_slices_IndexFunc_int_int x0)))]) idn [.bool (decide (0 ≤ (p_slices_IndexFunc_int_int x0)))] [] rfl (by exact ⟨rfl, trivial⟩) (by exact ⟨ad_ren rfl, trivial⟩) (by exact trivial) rfl (nk rfl) rfl rfl ⟨rfl, rfl⟩
/-- loop.example/g01210/impl.areAll[int] -/
def p_impl_areAll_int (x0 : (List Int)) : Bool :=
  (!(p_slices_ContainsFunc_int_int x0))
theorem c_impl_areAll_int {x0 : (List Int)} {r : Bool} (h : Is (p_impl_areAll_int x0) r) :
    Scalar Try.prog 49 [.v (.slice (.int .i64)) x0, .fn 65 []] (.bool r) := by
  unfold p_impl_areAll_int at h
  refine ac_enter ⟨9, 0⟩ Try.func49 rfl rfl rfl rfl rfl (fun Γ => ?_)
  refine sl_len_m 0 (x0.length : Int) rfl rfl (fun hl0 => ?_)
  refine aw_seq ?_
  refine aw_region ?_
  refine ao_eff trivial (e_box 0 rfl rfl rfl rfl rfl rfl) rfl ?_
  refine ao_read trivial (r_assign rfl) rfl ?_
  refine ao_nil ?_
  refine aq_then ?_
  refine aw_seq ?_
  refine aw_region ?_
  refine ao_read trivial (r_move rfl) rfl ?_
  refine ao_read trivial (r_makeFunc (cs := [.tmp 3]) rfl) rfl ?_
  refine ao_scall trivial (scall (c_slices_ContainsFunc_int_int (is_mk (rfl : p_slices_ContainsFunc_int_int x0 = _))) rfl Try.func77 rfl rfl rfl rfl (fun σ => ⟨ad_ren rfl, ad_fn ⟨ad_refc0 rfl rfl (ad_ren rfl) rfl, trivial⟩, trivial⟩)) rfl ?_
  refine ao_read trivial (r_not rfl) rfl ?_
  refine ao_read trivial (r_assign rfl) rfl ?_
  refine ao_nil ?_
  refine aq_then ?_
  refine aw_ret ?_
  refine aq_ret ?_
  obtain rfl := is_eq h
  exact aq_finx (l := [.tmp 4]) (xs := [.bool (!(p_slices_ContainsFunc_int_int x0))]) idn [.bool (!(p_slices_ContainsFunc_int_int x0))] [] rfl (by exact ⟨rfl, trivial⟩) (by exact ⟨ad_ren rfl, trivial⟩) (by exact trivial) rfl (nk rfl) rfl rfl ⟨rfl, rfl⟩
/-- cmp.isNaN[int] -/
def p_cmp_isNaN_int (x0 : Int) : Bool :=
  (!(decide (x0 = x0)))
theorem c_cmp_isNaN_int {x0 : Int} {r : Bool} (h : Is (p_cmp_isNaN_int x0) r) :
    Scalar Try.prog 70 [.int .i64 x0] (.bool r) := by
  unfold p_cmp_isNaN_int at h
  refine ac_enter ⟨6, 0⟩ Try.func70 rfl rfl rfl rfl rfl (fun Γ => ?_)
  refine aw_seq ?_
  refine aw_region ?_
  refine ao_read trivial (r_assign rfl) rfl ?_
  refine ao_nil ?_
  refine aq_then ?_
  refine aw_seq ?_
  refine aw_region ?_
  refine ao_read trivial (r_move rfl) rfl ?_
  refine ao_read trivial (r_move rfl) rfl ?_
  refine ao_read trivial (r_neq rfl rfl) rfl ?_
  refine ao_read trivial (r_assign rfl) rfl ?_
  refine ao_nil ?_
  refine aq_then ?_
  refine aw_ret ?_
  refine aq_ret ?_
  obtain rfl := is_eq h
  exact aq_finx (l := [.tmp 2]) (xs := [.bool (!(decide (x0 = x0)))]) idn [.bool (!(decide (x0 = x0)))] [] rfl (by exact ⟨rfl, trivial⟩) (by exact ⟨ad_ren rfl, trivial⟩) (by exact trivial) rfl (nk rfl) rfl rfl ⟨rfl, rfl⟩
/-- cmp.Less[int] -/
def p_cmp_Less_int (x0 : Int) (x1 : Int) : Bool :=
  (((p_cmp_isNaN_int x0) && (!(p_cmp_isNaN_int x1))) || (decide (x0 < x1)))
theorem c_cmp_Less_int {x0 : Int} {x1 : Int} {r : Bool} (h : Is (p_cmp_Less_int x0 x1) r) :
    Scalar Try.prog 84 [.int .i64 x0, .int .i64 x1] (.bool r) := by
  unfold p_cmp_Less_int at h
  refine ac_enter ⟨17, 0⟩ Try.func84 rfl rfl rfl rfl rfl (fun Γ => ?_)
  refine aw_seq ?_
  refine aw_region ?_
  refine ao_read trivial (r_assign rfl) rfl ?_
  refine ao_nil ?_
  refine aq_then ?_
  refine aw_seq ?_
  refine aw_region ?_
  refine ao_read trivial (r_move rfl) rfl ?_
  refine ao_scall trivial (scall (c_cmp_isNaN_int (is_mk (rfl : p_cmp_isNaN_int x0 = _))) rfl Try.func70 rfl rfl rfl rfl (fun σ => ⟨ad_ren rfl, trivial⟩)) rfl ?_
  refine ao_read trivial (r_move rfl) rfl ?_
  refine ao_readG (x := .int .i64 x1) rfl (GV.T rfl) (fun hg1 => r_move rfl) rfl ?_
  refine ao_scallG (r := .bool (p_cmp_isNaN_int x1)) rfl (GV.T rfl) (fun hg2 => SCall.strip 8 rfl (hg2) (scall (c_cmp_isNaN_int (is_mk (rfl : p_cmp_isNaN_int x1 = _))) rfl Try.func70 rfl rfl rfl rfl (fun σ => ⟨ad_ren rfl, trivial⟩))) rfl ?_
  refine ao_readG (x := .bool (!(p_cmp_isNaN_int x1))) rfl (GV.T rfl) (fun hg3 => Reads.strip 9 rfl (hg3) (r_not rfl)) rfl ?_
  refine ao_read trivial (r_andB rfl rfl) rfl ?_
  refine ao_read trivial (r_move rfl) rfl ?_
  refine ao_readG (x := .int .i64 x0) rfl (GV.F rfl) (fun hg4 => r_move rfl) rfl ?_
  refine ao_readG (x := .int .i64 x1) rfl (GV.F rfl) (fun hg5 => r_move rfl) rfl ?_
  refine ao_readG (x := .bool (decide (x0 < x1))) rfl (GV.F rfl) (fun hg6 => Reads.strip 13 rfl (hg6) (Reads.strip 14 rfl (hg6) (r_lss rfl rfl))) rfl ?_
  refine ao_read trivial (r_orB rfl rfl) rfl ?_
  refine ao_read trivial (r_assign rfl) rfl ?_
  refine ao_nil ?_
  refine aq_then ?_
  refine aw_ret ?_
  refine aq_ret ?_
  obtain rfl := is_eq h
  exact aq_finx (l := [.tmp 4]) (xs := [.bool (((p_cmp_isNaN_int x0) && (!(p_cmp_isNaN_int x1))) || (decide (x0 < x1)))]) idn [.bool (((p_cmp_isNaN_int x0) && (!(p_cmp_isNaN_int x1))) || (decide (x0 < x1)))] [] rfl (by exact ⟨rfl, trivial⟩) (by exact ⟨ad_ren rfl, trivial⟩) (by exact trivial) rfl (nk rfl) rfl rfl ⟨rfl, rfl⟩
/-- slices.IsSorted[[]int,int] -/
def p_slices_IsSorted_int_int (x0 : (List Int)) : Bool :=
  cntd (fun i2 (s1 : Unit) c3 _ => (if (p_cmp_Less_int (x0.getD i2.toNat 0) (x0.getD (i2 - 1).toNat 0)) = true then false else c3 ())) (fun i2 (s1 : Unit) => true) (Int.toNat (((x0.length : Int) - 1) - 0)) ((x0.length : Int) - 1) ()
theorem c_slices_IsSorted_int_int {x0 : (List Int)} {r : Bool} (h : Is (p_slices_IsSorted_int_int x0) r) :
    Scalar Try.prog 66 [.v (.slice (.int .i64)) x0] (.bool r) := by
  unfold p_slices_IsSorted_int_int at h
  refine ac_enter ⟨21, 0⟩ Try.func66 rfl rfl rfl rfl rfl (fun Γ => ?_)
  refine sl_len_m 0 (x0.length : Int) rfl rfl (fun hl0 => ?_)
  refine aw_seq ?_
  refine aw_region ?_
  refine ao_read trivial (r_assign rfl) rfl ?_
  refine ao_nil ?_
  refine aq_then ?_
  refine aw_seq ?_
  refine aw_seq ?_
  refine aw_region ?_
  refine ao_read trivial (r_move rfl) rfl ?_
  refine ao_read trivial (r_len_vm (x0.length : Int) Try.underlying29 rfl rfl) rfl ?_
  refine ao_read trivial (r_subI rfl rfl (wrap_id (by omega) (by omega))) rfl ?_
  refine ao_read trivial (r_assign rfl) rfl ?_
  refine ao_nil ?_
  refine aq_then ?_
  refine aw_block ?_
  refine aw_loop (AL.sub (fr' := [(0, .v (.slice (.int .i64)) x0), (3, .int .i64 ((x0.length : Int) - 1))]) (H' := []) (sub_mk idn (by exact ⟨⟨_, rfl, ad_ren rfl⟩, ⟨_, rfl, ad_ren rfl⟩, trivial⟩) (by exact trivial) (by rfl) (nk rfl)) (al_cntd (fun i2 (s1 : Unit) => [(0, .v (.slice (.int .i64)) x0), (3, .int .i64 i2)]) (fun i2 (s1 : Unit) => []) (fun d i2 (s1 : Unit) => d = Int.toNat (i2 - 0) ∧ i2 ≤ ((x0.length : Int) - 1)) h ⟨rfl, (by (try simp only [List.length_set, List.length_append, List.length_cons, List.length_nil, List.length_replicate, List.length_take, List.length_drop]) <;> omega)⟩ (fun d i2 s1 hI h ih => ?_)))
  obtain ⟨hd, _⟩ := hI
  refine al_round ?_
  refine aw_seq ?_
  refine aw_seq ?_
  refine aw_region ?_
  refine ao_read trivial (r_move rfl) rfl ?_
  refine ao_read trivial (r_gtr rfl rfl) rfl ?_
  refine ao_nil ?_
  refine aq_then ?_
  refine aw_cond rfl (fun hb5 => ?_) (fun hb5 => ?_)
  · have q6 := d_t hb5
    obtain ⟨d, rfl⟩ : ∃ e, d = e + 1 := ⟨d - 1, by omega⟩
    replace h := is_cntdS h
    refine aw_skip ?_
    refine aq_then ?_
    refine aw_seq ?_
    refine aw_block ?_
    refine aw_seq ?_
    refine aw_drawAll (by kernel_rfl) ?_
    refine an_read 0 (by kernel_rfl) (fun _ _ _ h => h) rfl (by kernel_rfl) trivial (r_move rfl) rfl ?_
    refine an_read 1 (by kernel_rfl) (fun _ _ _ h => h) rfl (by kernel_rfl) trivial (r_move rfl) rfl ?_
    refine an_read 2 (by kernel_rfl) (fun _ _ _ h => h) rfl (by kernel_rfl) trivial (r_idxAddr_int Try.underlying29 Try.sizeOf3 rfl rfl (by omega) (show i2 < (x0.length : Int) from by omega)) rfl ?_
    refine an_read 3 (by kernel_rfl) (fun _ _ _ h => h) rfl (by kernel_rfl) trivial (r_load_c_int Try.isAgg3 Try.sizeOf3 rfl) rfl ?_
    refine an_read 4 (by kernel_rfl) (fun _ _ _ h => h) rfl (by kernel_rfl) trivial (r_move rfl) rfl ?_
    refine an_read 5 (by kernel_rfl) (fun _ _ _ h => h) rfl (by kernel_rfl) trivial (r_move rfl) rfl ?_
    refine an_read 6 (by kernel_rfl) (fun _ _ _ h => h) rfl (by kernel_rfl) trivial (r_subI rfl rfl (wrap_id (by omega) (by omega))) rfl ?_
    refine an_read 7 (by kernel_rfl) (fun _ _ _ h => h) rfl (by kernel_rfl) trivial (r_idxAddr_int Try.underlying29 Try.sizeOf3 rfl rfl (by omega) (show (i2 - 1) < (x0.length : Int) from by omega)) rfl ?_
    refine an_read 8 (by kernel_rfl) (fun _ _ _ h => h) rfl (by kernel_rfl) trivial (r_load_c_int Try.isAgg3 Try.sizeOf3 rfl) rfl ?_
    refine an_scall 9 (by kernel_rfl) (fun _ _ _ h => h) rfl (by kernel_rfl) trivial (scall (c_cmp_Less_int (is_mk (rfl : p_cmp_Less_int (x0.getD i2.toNat 0) (x0.getD (i2 - 1).toNat 0) = _))) rfl Try.func84 rfl rfl rfl rfl (fun σ => ⟨ad_ren rfl, ad_ren rfl, trivial⟩)) rfl ?_
    refine an_done rfl ?_
    refine aq_then ?_
    refine aw_cond rfl (fun hb8 => ?_) (fun hb8 => ?_)
    · replace h := is_if hb8 h
      refine aw_seq ?_
      refine aw_region ?_
      refine ao_read trivial (r_assign rfl) rfl ?_
      refine ao_nil ?_
      refine aq_then ?_
      refine aw_ret ?_
      refine aq_in_ret ?_
      refine aq_then_ret ?_
      refine aq_then_ret ?_
      refine aq_in_ret ?_
      refine aq_then_ret ?_
      refine aq_ret ?_
      obtain rfl := is_eq h
      exact aq_finx (l := [.tmp 2]) (xs := [.bool false]) idn [.bool false] [] rfl (by exact ⟨rfl, trivial⟩) (by exact ⟨ad_ren rfl, trivial⟩) (by exact trivial) rfl (nk rfl) rfl rfl ⟨rfl, rfl⟩
    · replace h := is_else (ne_t hb8) h
      refine aw_skip ?_
      refine aq_in ?_
      refine aq_then ?_
      refine aw_region ?_
      refine ao_read trivial (r_move rfl) rfl ?_
      refine ao_read trivial (r_subI rfl rfl (wrap_id (by omega) (by omega))) rfl ?_
      refine ao_read trivial (r_assign rfl) rfl ?_
      refine ao_nil ?_
      exact aq_again (AL.sub (sub_mk idn (by exact ⟨⟨_, rfl, ad_ren rfl⟩, ⟨_, rfl, ad_ren rfl⟩, trivial⟩) (by exact trivial) (by rfl) (nk rfl)) (ih d (i2 - 1) () (by omega) ⟨by omega, (by (try simp only [List.length_set, List.length_append, List.length_cons, List.length_nil, List.length_replicate, List.length_take, List.length_drop]) <;> omega)⟩ h))
  · have q7 := d_f hb5
    obtain rfl : d = 0 := by omega
    replace h := is_cntd0 h
    refine aw_exit ?_
    refine aq_then_exit ?_
    refine aq_then_exit ?_
    refine aq_in_exit ?_
    refine aq_then ?_
    refine aw_seq ?_
    refine aw_region ?_
    refine ao_read trivial (r_assign rfl) rfl ?_
    refine ao_nil ?_
    refine aq_then ?_
    refine aw_ret ?_
    refine aq_ret ?_
    obtain rfl := is_eq h
    exact aq_finx (l := [.tmp 2]) (xs := [.bool true]) idn [.bool true] [] rfl (by exact ⟨rfl, trivial⟩) (by exact ⟨ad_ren rfl, trivial⟩) (by exact trivial) rfl (nk rfl) rfl rfl ⟨rfl, rfl⟩
/-- loop.example/g01210/impl.IsDie -/
def p_impl_IsDie (x0 : (List Int)) : Bool :=
  ((p_impl_areAll_int x0) && (p_slices_IsSorted_int_int x0))
theorem c_impl_IsDie {x0 : (List Int)} {r : Bool} (h : Is (p_impl_IsDie x0) r) :
    Scalar Try.prog 37 [.v (.arr 6 (.int .i64)) x0] (.bool r) := by
  unfold p_impl_IsDie at h
  refine ac_enter ⟨9, 0⟩ Try.func37 rfl rfl rfl rfl rfl (fun Γ => ?_)
  refine aw_seq ?_
  refine aw_region ?_
  refine ao_eff trivial (e_box 0 rfl rfl rfl rfl rfl rfl) rfl ?_
  refine ao_read trivial (r_assign rfl) rfl ?_
  refine ao_nil ?_
  refine aq_then ?_
  refine aw_seq ?_
  refine aw_region ?_
  refine ao_read trivial (r_slice_arr Try.underlying22 Try.sizeOf3 rfl .none .none (by omega) (by omega) (by omega)) rfl ?_
  refine ao_scall trivial (scall (c_impl_areAll_int (is_mk (rfl : p_impl_areAll_int x0 = _))) rfl Try.func49 rfl rfl rfl rfl (fun σ => ⟨ad_viewf0 rfl rfl rfl rfl rfl, ad_ren rfl, trivial⟩)) rfl ?_
  refine ao_read trivial (r_move rfl) rfl ?_
  refine ao_readG (x := .view 0 0 1 0 6) rfl (GV.T rfl) (fun hg1 => r_slice_arr Try.underlying22 Try.sizeOf3 rfl .none .none (by omega) (by omega) (by omega)) rfl ?_
  refine ao_scallG (r := .bool (p_slices_IsSorted_int_int x0)) rfl (GV.T rfl) (fun hg2 => SCall.strip 6 rfl (hg2) (scall (c_slices_IsSorted_int_int (is_mk (rfl : p_slices_IsSorted_int_int x0 = _))) rfl Try.func66 rfl rfl rfl rfl (fun σ => ⟨ad_viewf0 rfl rfl rfl rfl rfl, trivial⟩))) rfl ?_
  refine ao_read trivial (r_andB rfl rfl) rfl ?_
  refine ao_read trivial (r_assign rfl) rfl ?_
  refine ao_nil ?_
  refine aq_then ?_
  refine aw_ret ?_
  refine aq_ret ?_
  obtain rfl := is_eq h
  exact aq_finx (l := [.tmp 2]) (xs := [.bool ((p_impl_areAll_int x0) && (p_slices_IsSorted_int_int x0))]) idn [.bool ((p_impl_areAll_int x0) && (p_slices_IsSorted_int_int x0))] [] rfl (by exact ⟨rfl, trivial⟩) (by exact ⟨ad_ren rfl, trivial⟩) (by exact trivial) rfl (nk rfl) rfl rfl ⟨rfl, rfl⟩
/-- loop.example/g01210/impl.MeanDistance -/
def p_impl_MeanDistance (x0 : (List Int)) (x1 : Int) : Option ((List Int) × Bool) :=
  (if ((!(p_impl_IsDie x0)) || (!(p_impl_within x1 1 8))) = true then some ((List.replicate 2 0), false) else (p_impl_numbers x0).bind (fun r7 => some ([((r7.length : Int) - 1), 1], true)))
theorem c_impl_MeanDistance {x0 : (List Int)} {x1 : Int} {r : (List Int) × Bool} (h : Is (p_impl_MeanDistance x0 x1) (some r)) :
    Scalar Try.prog 11 [.v (.arr 6 (.int .i64)) x0, .int .i64 x1] (.tup [.v (.arr 2 (.int .i64)) r.1, .bool r.2]) := by
  unfold p_impl_MeanDistance at h
  refine ac_enter ⟨20, 0⟩ Try.func11 rfl rfl rfl rfl rfl (fun Γ => ?_)
  refine aw_seq ?_
  refine aw_region ?_
  refine ao_eff trivial (e_box 0 rfl rfl rfl rfl rfl rfl) rfl ?_
  refine ao_eff trivial (e_alloc 1 (y := .v (.arr 2 (.int .i64)) ((List.replicate 2 0) : (List Int))) Try.zeroValue23 (fun ρ h M => ra_zero_arr (t := (.int .i64)) rfl) rfl rfl rfl rfl rfl) rfl ?_
  refine ao_read trivial (r_assign rfl) rfl ?_
  refine ao_nil ?_
  refine aq_then ?_
  refine aw_seq ?_
  refine aw_seq ?_
  refine aw_region ?_
  refine ao_read trivial (r_load_arr rfl Try.isAgg22 Try.sizeOf22 rfl rfl rfl) rfl ?_
  refine ao_scall trivial (scall (c_impl_IsDie (is_mk (rfl : p_impl_IsDie x0 = _))) rfl Try.func37 rfl rfl rfl rfl (fun σ => ⟨ad_ren rfl, trivial⟩)) rfl ?_
  refine ao_read trivial (r_not rfl) rfl ?_
  refine ao_read trivial (r_move rfl) rfl ?_
  refine ao_readG (x := .int .i64 x1) rfl (GV.F rfl) (fun hg1 => r_move rfl) rfl ?_
  refine ao_scallG (r := .bool (p_impl_within x1 1 8)) rfl (GV.F rfl) (fun hg2 => SCall.strip 10 rfl (hg2) (scall (c_impl_within (is_mk (rfl : p_impl_within x1 1 8 = _))) rfl Try.func38 rfl rfl rfl rfl (fun σ => ⟨ad_ren rfl, ad_ren rfl, ad_ren rfl, trivial⟩))) rfl ?_
  refine ao_readG (x := .bool (!(p_impl_within x1 1 8))) rfl (GV.F rfl) (fun hg3 => Reads.strip 11 rfl (hg3) (r_not rfl)) rfl ?_
  refine ao_read trivial (r_orB rfl rfl) rfl ?_
  refine ao_nil ?_
  refine aq_then ?_
  refine aw_cond rfl (fun hb4 => ?_) (fun hb4 => ?_)
  · replace h := is_if hb4 h
    refine aw_seq ?_
    refine aw_region ?_
    refine ao_read trivial (r_build_zero (t := (.int .i64)) Try.underlying23 Try.zeroValue23 Try.sizeOf3 rfl) rfl ?_
    refine ao_effS trivial (e_store rfl rfl rfl rfl Try.sizeOf23 rfl) ?_
    refine ao_read trivial (r_assign rfl) rfl ?_
    refine ao_nil ?_
    refine aq_then ?_
    refine aw_ret ?_
    refine aq_then_ret ?_
    refine aq_ret ?_
    obtain rfl := is_some h
    exact aq_finx (l := [.cell 4 23, .tmp 5]) (xs := [.v (.arr 2 (.int .i64)) ((List.replicate 2 0) : (List Int)), .bool false]) idn [.v (.arr 2 (.int .i64)) ((List.replicate 2 0) : (List Int)), .bool false] [] rfl (by exact ⟨⟨⟨_, _, rfl⟩, r_load_arr rfl Try.isAgg23 Try.sizeOf23 rfl rfl rfl⟩, rfl, trivial⟩) (by exact ⟨ad_ren rfl, ad_ren rfl, trivial⟩) (by exact trivial) rfl (nk rfl) rfl rfl ⟨rfl, rfl⟩
  · obtain ⟨q5, q6⟩ := or_f hb4
    replace h := is_else (ne_t hb4) h
    refine aw_skip ?_
    refine aq_then ?_
    refine aw_seq ?_
    refine aw_region ?_
    refine ao_read trivial (r_load_arr rfl Try.isAgg22 Try.sizeOf22 rfl rfl rfl) rfl ?_
    obtain ⟨r7, r7h, h⟩ := is_bind h
    refine ao_call [] 2 trivial (c_impl_numbers (is_mk r7h)) Try.func39 rfl rfl rfl rfl ⟨ad_ren rfl, trivial⟩ trivial rfl rfl rfl rfl rfl rfl rfl (fun r' H' hr => ?_)
    obtain ⟨rfl, rfl⟩ := hr
    refine row_len_o 2 (r7.length : Int) rfl rfl (fun hr8 => ?_)
    refine ao_read trivial (r_len_osm (r7.length : Int) Try.underlying29 rfl rfl rfl) rfl ?_
    refine ao_read trivial (r_subI rfl rfl (wrap_id (by omega) (by omega))) rfl ?_
    refine ao_read trivial (r_build_arr (l := [(0, .tmp 18), (1, .const (.int .i64 1))]) (t := (.int .i64)) ([((r7.length : Int) - 1), 1] : (List Int)) rfl Try.underlying23 Try.zeroValue23 Try.sizeOf3 rfl rfl rfl rfl) rfl ?_
    refine ao_effS trivial (e_store rfl rfl rfl rfl Try.sizeOf23 rfl) ?_
    refine ao_read trivial (r_assign rfl) rfl ?_
    refine ao_nil ?_
    refine aq_then ?_
    refine aw_ret ?_
    refine aq_ret ?_
    obtain rfl := is_some h
    exact aq_finx (l := [.cell 4 23, .tmp 5]) (xs := [.v (.arr 2 (.int .i64)) ([((r7.length : Int) - 1), 1] : (List Int)), .bool true]) idn [.v (.arr 2 (.int .i64)) ([((r7.length : Int) - 1), 1] : (List Int)), .bool true] [] rfl (by exact ⟨⟨⟨_, _, rfl⟩, r_load_arr rfl Try.isAgg23 Try.sizeOf23 rfl rfl rfl⟩, rfl, trivial⟩) (by exact ⟨ad_ren rfl, ad_ren rfl, trivial⟩) (by exact trivial) rfl (nk rfl) rfl rfl ⟨rfl, rfl⟩
/-- loop.example/g01210/laws.eqIntA2 -/
def p_laws_eqIntA2 (x0 : (List Int)) (x1 : (List Int)) : Bool :=
  cnt (fun i2 (s1 : Unit) c3 _ => (if (x0.getD i2.toNat 0) = (x1.getD i2.toNat 0) then c3 () else false)) (fun i2 (s1 : Unit) => true) (Int.toNat (2 - 0)) 0 ()
theorem c_laws_eqIntA2 {x0 : (List Int)} {x1 : (List Int)} {r : Bool} (h : Is (p_laws_eqIntA2 x0 x1) r) :
    Scalar Try.prog 12 [.v (.arr 2 (.int .i64)) x0, .v (.arr 2 (.int .i64)) x1] (.bool r) := by
  unfold p_laws_eqIntA2 at h
  refine ac_enter ⟨17, 0⟩ Try.func12 rfl rfl rfl rfl rfl (fun Γ => ?_)
  refine aw_seq ?_
  refine aw_region ?_
  refine ao_eff trivial (e_box 0 rfl rfl rfl rfl rfl rfl) rfl ?_
  refine ao_eff trivial (e_box 1 rfl rfl rfl rfl rfl rfl) rfl ?_
  refine ao_read trivial (r_assign rfl) rfl ?_
  refine ao_nil ?_
  refine aq_then ?_
  refine aw_seq ?_
  refine aw_seq ?_
  refine aw_region ?_
  refine ao_read trivial (r_assign rfl) rfl ?_
  refine ao_nil ?_
  refine aq_then ?_
  refine aw_block ?_
  refine aw_loop (AL.sub (fr' := [(2, .ref 0 0), (3, .ref 1 0), (5, .int .i64 0)]) (H' := [(0, .var [.arr (.int .i64) 2 x0]), (1, .var [.arr (.int .i64) 2 x1])]) (sub_mk idn (by exact ⟨⟨_, rfl, ad_ren rfl⟩, ⟨_, rfl, ad_ren rfl⟩, ⟨_, rfl, ad_ren rfl⟩, trivial⟩) (by exact ⟨⟨_, rfl, ⟨rfl, trivial⟩⟩, ⟨_, rfl, ⟨rfl, trivial⟩⟩, trivial⟩) (by rfl) (nk rfl)) (al_cnt (fun i2 (s1 : Unit) => [(2, .ref 0 0), (3, .ref 1 0), (5, .int .i64 i2)]) (fun i2 (s1 : Unit) => [(0, .var [.arr (.int .i64) 2 x0]), (1, .var [.arr (.int .i64) 2 x1])]) (fun d i2 (s1 : Unit) => d = Int.toNat (2 - i2) ∧ 0 ≤ i2 ∧ i2 ≤ 2) h ⟨rfl, (by (try simp only [List.length_set, List.length_append, List.length_cons, List.length_nil, List.length_replicate, List.length_take, List.length_drop]) <;> omega), (by (try simp only [List.length_set, List.length_append, List.length_cons, List.length_nil, List.length_replicate, List.length_take, List.length_drop]) <;> omega)⟩ (fun d i2 s1 hI h ih => ?_)))
  obtain ⟨hd, _, _⟩ := hI
  refine al_round ?_
  refine aw_seq ?_
  refine aw_seq ?_
  refine aw_region ?_
  refine ao_read trivial (r_move rfl) rfl ?_
  refine ao_read trivial (r_lss rfl rfl) rfl ?_
  refine ao_nil ?_
  refine aq_then ?_
  refine aw_cond rfl (fun hb5 => ?_) (fun hb5 => ?_)
  · have q6 := d_t hb5
    obtain ⟨d, rfl⟩ : ∃ e, d = e + 1 := ⟨d - 1, by omega⟩
    replace h := is_cntS h
    refine aw_skip ?_
    refine aq_then ?_
    refine aw_seq ?_
    refine aw_block ?_
    refine aw_seq ?_
    refine aw_drawAll (by kernel_rfl) ?_
    refine an_read 0 (by kernel_rfl) (fun _ _ _ h => h) rfl (by kernel_rfl) trivial (r_move rfl) rfl ?_
    refine an_read 1 (by kernel_rfl) (fun _ _ _ h => h) rfl (by kernel_rfl) trivial (r_idxAddr_arr Try.underlying23 Try.sizeOf3 rfl rfl (by omega) (by omega)) rfl ?_
    refine an_read 2 (by kernel_rfl) (fun _ _ _ h => h) rfl (by kernel_rfl) trivial (r_load_elema_int Try.isAgg3 Try.sizeOf3 rfl rfl rfl (by omega)) rfl ?_
    refine an_read 3 (by kernel_rfl) (fun _ _ _ h => h) rfl (by kernel_rfl) trivial (r_move rfl) rfl ?_
    refine an_read 4 (by kernel_rfl) (fun _ _ _ h => h) rfl (by kernel_rfl) trivial (r_idxAddr_arr Try.underlying23 Try.sizeOf3 rfl rfl (by omega) (by omega)) rfl ?_
    refine an_read 5 (by kernel_rfl) (fun _ _ _ h => h) rfl (by kernel_rfl) trivial (r_load_elema_int Try.isAgg3 Try.sizeOf3 rfl rfl rfl (by omega)) rfl ?_
    refine an_read 6 (by kernel_rfl) (fun _ _ _ h => h) rfl (by kernel_rfl) trivial (r_neq rfl rfl) rfl ?_
    refine an_done rfl ?_
    refine aq_then ?_
    refine aw_cond rfl (fun hb8 => ?_) (fun hb8 => ?_)
    · have q9 := d_f (not_t hb8)
      replace h := is_else (d_f (not_t hb8)) h
      refine aw_seq ?_
      refine aw_region ?_
      refine ao_read trivial (r_assign rfl) rfl ?_
      refine ao_nil ?_
      refine aq_then ?_
      refine aw_ret ?_
      refine aq_in_ret ?_
      refine aq_then_ret ?_
      refine aq_then_ret ?_
      refine aq_in_ret ?_
      refine aq_then_ret ?_
      refine aq_ret ?_
      obtain rfl := is_eq h
      exact aq_finx (l := [.tmp 4]) (xs := [.bool false]) idn [.bool false] [] rfl (by exact ⟨rfl, trivial⟩) (by exact ⟨ad_ren rfl, trivial⟩) (by exact trivial) rfl (nk rfl) rfl rfl ⟨rfl, rfl⟩
    · have q10 := d_t (not_f hb8)
      replace h := is_if (d_t (not_f hb8)) h
      refine aw_skip ?_
      refine aq_in ?_
      refine aq_then ?_
      refine aw_region ?_
      refine ao_read trivial (r_move rfl) rfl ?_
      refine ao_read trivial (r_addI rfl rfl (wrap_id (by omega) (by omega))) rfl ?_
      refine ao_read trivial (r_assign rfl) rfl ?_
      refine ao_nil ?_
      exact aq_again (AL.sub (sub_mk idn (by exact ⟨⟨_, rfl, ad_ren rfl⟩, ⟨_, rfl, ad_ren rfl⟩, ⟨_, rfl, ad_ren rfl⟩, trivial⟩) (by exact ⟨⟨_, rfl, ⟨rfl, trivial⟩⟩, ⟨_, rfl, ⟨rfl, trivial⟩⟩, trivial⟩) (by rfl) (nk rfl)) (ih d (i2 + 1) () (by omega) ⟨by omega, (by (try simp only [List.length_set, List.length_append, List.length_cons, List.length_nil, List.length_replicate, List.length_take, List.length_drop]) <;> omega), (by (try simp only [List.length_set, List.length_append, List.length_cons, List.length_nil, List.length_replicate, List.length_take, List.length_drop]) <;> omega)⟩ h))
  · have q7 := d_f hb5
    obtain rfl : d = 0 := by omega
    replace h := is_cnt0 h
    refine aw_exit ?_
    refine aq_then_exit ?_
    refine aq_then_exit ?_
    refine aq_in_exit ?_
    refine aq_then ?_
    refine aw_seq ?_
    refine aw_region ?_
    refine ao_read trivial (r_assign rfl) rfl ?_
    refine ao_nil ?_
    refine aq_then ?_
    refine aw_ret ?_
    refine aq_ret ?_
    obtain rfl := is_eq h
    exact aq_finx (l := [.tmp 4]) (xs := [.bool true]) idn [.bool true] [] rfl (by exact ⟨rfl, trivial⟩) (by exact ⟨ad_ren rfl, trivial⟩) (by exact trivial) rfl (nk rfl) rfl rfl ⟨rfl, rfl⟩
/-- loop.example/g01210/laws.FnExactMeanDistance -/
def p_laws_FnExactMeanDistance (x0 : (List Int)) (x1 : Int) : Option (Bool) :=
  (p_spec_MeanDistance (p_laws_toIntA6 x0) x1).bind (fun r1 => (p_impl_MeanDistance (p_laws_toIntA6 x0) x1).bind (fun r2 => (if ((!(p_laws_eqIntA2 r2.1 r1.1)) || (r2.2 != r1.2)) = true then some false else some true)))
theorem c_laws_FnExactMeanDistance {x0 : (List Int)} {x1 : Int} {r : Bool} (h : Is (p_laws_FnExactMeanDistance x0 x1) (some r)) :
    Scalar Try.prog 3 [.v (.arr 6 (.int .i64)) x0, .int .i64 x1] (.bool r) := by
  unfold p_laws_FnExactMeanDistance at h
  refine ac_enter ⟨32, 0⟩ Try.func3 rfl rfl rfl rfl rfl (fun Γ => ?_)
  refine aw_seq ?_
  refine aw_region ?_
  refine ao_eff trivial (e_box 0 rfl rfl rfl rfl rfl rfl) rfl ?_
  refine ao_read trivial (r_assign rfl) rfl ?_
  refine ao_nil ?_
  refine aq_then ?_
  refine aw_seq ?_
  refine aw_region ?_
  refine ao_read trivial (r_load_arr rfl Try.isAgg22 Try.sizeOf22 rfl rfl rfl) rfl ?_
  refine ao_scall trivial (scall (c_laws_toIntA6 (is_mk (rfl : p_laws_toIntA6 x0 = _))) rfl Try.func10 rfl rfl rfl rfl (fun σ => ⟨ad_ren rfl, trivial⟩)) rfl ?_
  refine ao_read trivial (r_move rfl) rfl ?_
  obtain ⟨r1, r1h, h⟩ := is_bind h
  refine ao_scall trivial (scall (c_spec_MeanDistance (is_mk r1h)) rfl Try.func9 rfl rfl rfl rfl (fun σ => ⟨ad_ren rfl, ad_ren rfl, trivial⟩)) rfl ?_
  refine ao_read trivial (r_move rfl) rfl ?_
  refine ao_read trivial (r_extract rfl rfl) rfl ?_
  refine ao_read trivial (r_extract rfl rfl) rfl ?_
  refine ao_eff trivial (e_alloc 1 (y := .v (.arr 2 (.int .i64)) ((List.replicate 2 0) : (List Int))) Try.zeroValue23 (fun ρ h M => ra_zero_arr (t := (.int .i64)) rfl) rfl rfl rfl rfl rfl) rfl ?_
  refine ao_effS trivial (e_store rfl rfl rfl rfl Try.sizeOf23 rfl) ?_
  refine ao_read trivial (r_assign rfl) rfl ?_
  refine ao_nil ?_
  refine aq_then ?_
  refine aw_seq ?_
  refine aw_region ?_
  refine ao_read trivial (r_load_arr rfl Try.isAgg22 Try.sizeOf22 rfl rfl rfl) rfl ?_
  refine ao_scall trivial (scall (c_laws_toIntA6 (is_mk (rfl : p_laws_toIntA6 x0 = _))) rfl Try.func10 rfl rfl rfl rfl (fun σ => ⟨ad_ren rfl, trivial⟩)) rfl ?_
  refine ao_read trivial (r_move rfl) rfl ?_
  obtain ⟨r2, r2h, h⟩ := is_bind h
  refine ao_scall trivial (scall (c_impl_MeanDistance (is_mk r2h)) rfl Try.func11 rfl rfl rfl rfl (fun σ => ⟨ad_ren rfl, ad_ren rfl, trivial⟩)) rfl ?_
  refine ao_read trivial (r_move rfl) rfl ?_
  refine ao_read trivial (r_extract rfl rfl) rfl ?_
  refine ao_read trivial (r_extract rfl rfl) rfl ?_
  refine ao_eff trivial (e_alloc 2 (y := .v (.arr 2 (.int .i64)) ((List.replicate 2 0) : (List Int))) Try.zeroValue23 (fun ρ h M => ra_zero_arr (t := (.int .i64)) rfl) rfl rfl rfl rfl rfl) rfl ?_
  refine ao_effS trivial (e_store rfl rfl rfl rfl Try.sizeOf23 rfl) ?_
  refine ao_read trivial (r_assign rfl) rfl ?_
  refine ao_nil ?_
  refine aq_then ?_
  refine aw_seq ?_
  refine aw_seq ?_
  refine aw_region ?_
  refine ao_read trivial (r_load_arr rfl Try.isAgg23 Try.sizeOf23 rfl rfl rfl) rfl ?_
  refine ao_read trivial (r_load_arr rfl Try.isAgg23 Try.sizeOf23 rfl rfl rfl) rfl ?_
  refine ao_scall trivial (scall (c_laws_eqIntA2 (is_mk (rfl : p_laws_eqIntA2 r2.1 r1.1 = _))) rfl Try.func12 rfl rfl rfl rfl (fun σ => ⟨ad_ren rfl, ad_ren rfl, trivial⟩)) rfl ?_
  refine ao_read trivial (r_not rfl) rfl ?_
  refine ao_read trivial (r_move rfl) rfl ?_
  refine ao_readG (x := .bool r2.2) rfl (GV.F rfl) (fun hg3 => r_move rfl) rfl ?_
  refine ao_readG (x := .bool r1.2) rfl (GV.F rfl) (fun hg4 => r_move rfl) rfl ?_
  refine ao_readG (x := .bool (r2.2 != r1.2)) rfl (GV.F rfl) (fun hg5 => Reads.strip 28 rfl (hg5) (Reads.strip 29 rfl (hg5) (r_neq_bool Try.underlying4 rfl rfl))) rfl ?_
  refine ao_read trivial (r_orB rfl rfl) rfl ?_
  refine ao_nil ?_
  refine aq_then ?_
  refine aw_cond rfl (fun hb6 => ?_) (fun hb6 => ?_)
  · replace h := is_if hb6 h
    refine aw_seq ?_
    refine aw_region ?_
    refine ao_read trivial (r_assign rfl) rfl ?_
    refine ao_nil ?_
    refine aq_then ?_
    refine aw_ret ?_
    refine aq_then_ret ?_
    refine aq_ret ?_
    obtain rfl := is_some h
    exact aq_finx (l := [.tmp 4]) (xs := [.bool false]) idn [.bool false] [] rfl (by exact ⟨rfl, trivial⟩) (by exact ⟨ad_ren rfl, trivial⟩) (by exact trivial) rfl (nk rfl) rfl rfl ⟨rfl, rfl⟩
  · obtain ⟨q7, q8⟩ := or_f hb6
    replace h := is_else (ne_t hb6) h
    refine aw_skip ?_
    refine aq_then ?_
    refine aw_seq ?_
    refine aw_region ?_
    refine ao_read trivial (r_assign rfl) rfl ?_
    refine ao_nil ?_
    refine aq_then ?_
    refine aw_ret ?_
    refine aq_ret ?_
    obtain rfl := is_some h
    exact aq_finx (l := [.tmp 4]) (xs := [.bool true]) idn [.bool true] [] rfl (by exact ⟨rfl, trivial⟩) (by exact ⟨ad_ren rfl, trivial⟩) (by exact trivial) rfl (nk rfl) rfl rfl ⟨rfl, rfl⟩
end Go.GA
