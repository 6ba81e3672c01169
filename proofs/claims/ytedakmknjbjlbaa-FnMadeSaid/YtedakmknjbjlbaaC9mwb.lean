/- Walks: what the Go functions compute, by the printed lines below; no further conditions. -/
import Derived.Test.YtedakmknjbjlbaaC9mw
namespace Go.GA
open Go Go.Proofs
set_option maxRecDepth 100000
set_option maxHeartbeats 2000000
set_option linter.unusedVariables false
set_option linter.unusedSimpArgs false
theorem c_laws_rInts {x0 : (List Int)} {x1 : (List Int)} {r : Bool} (h : Is (p_laws_rInts x0 x1) r) :
    Scalar Try.prog 25 [.v (.slice (.int .i64)) x0, .v (.slice (.int .i64)) x1] (.bool r) := by
  unfold p_laws_rInts at h
  refine ac_enter ⟨26, 0⟩ Try.func25 rfl rfl rfl rfl rfl (fun Γ => ?_)
  refine sl_len_m 0 (x0.length : Int) rfl rfl (fun hl0 => ?_)
  refine sl_len_m 1 (x1.length : Int) rfl rfl (fun hl1 => ?_)
  refine aw_seq ?_
  refine aw_region ?_
  refine ao_read trivial (r_assign rfl) rfl ?_
  refine ao_nil ?_
  refine aq_then ?_
  refine aw_seq ?_
  refine aw_seq ?_
  refine aw_region ?_
  refine ao_read trivial (r_move rfl) rfl ?_
  refine ao_read trivial (r_len_vm (x0.length : Int) Try.underlying24 rfl rfl) rfl ?_
  refine ao_read trivial (r_move rfl) rfl ?_
  refine ao_read trivial (r_len_vm (x1.length : Int) Try.underlying24 rfl rfl) rfl ?_
  refine ao_read trivial (r_neq rfl rfl) rfl ?_
  refine ao_nil ?_
  refine aq_then ?_
  refine aw_cond rfl (fun hb1 => ?_) (fun hb1 => ?_)
  · have q2 := d_f (not_t hb1)
    replace h := is_else (d_f (not_t hb1)) h
    refine aw_seq ?_
    refine aw_region ?_
    refine ao_read trivial (r_assign rfl) rfl ?_
    refine ao_nil ?_
    refine aq_then ?_
    refine aw_ret ?_
    refine aq_then_ret ?_
    refine aq_ret ?_
    obtain rfl := is_eq h
    exact aq_finx (l := [.tmp 4]) (xs := [.bool false]) idn [.bool false] [] rfl (by exact ⟨rfl, trivial⟩) (by exact ⟨ad_ren rfl, trivial⟩) (by exact trivial) rfl (nk rfl) rfl rfl ⟨rfl, rfl⟩
  · have q3 := d_t (not_f hb1)
    replace h := is_if (d_t (not_f hb1)) h
    refine aw_skip ?_
    refine aq_then ?_
    refine aw_seq ?_
    refine aw_seq ?_
    refine aw_region ?_
    refine ao_read trivial (r_assign rfl) rfl ?_
    refine ao_nil ?_
    refine aq_then ?_
    refine aw_block ?_
    refine aw_loop (AL.sub (fr' := [(0, .v (.slice (.int .i64)) x0), (1, .v (.slice (.int .i64)) x1), (5, .int .i64 0)]) (H' := []) (sub_mk idn (by exact ⟨⟨_, rfl, ad_ren rfl⟩, ⟨_, rfl, ad_ren rfl⟩, ⟨_, rfl, ad_ren rfl⟩, trivial⟩) (by exact trivial) (by rfl) (nk rfl)) (al_cnt (fun i5 (s4 : Unit) => [(0, .v (.slice (.int .i64)) x0), (1, .v (.slice (.int .i64)) x1), (5, .int .i64 i5)]) (fun i5 (s4 : Unit) => []) (fun d i5 (s4 : Unit) => d = Int.toNat ((x0.length : Int) - i5) ∧ 0 ≤ i5 ∧ i5 ≤ (x0.length : Int)) h ⟨rfl, (by (try simp only [List.length_set, List.length_append, List.length_cons, List.length_nil, List.length_replicate, List.length_take, List.length_drop]) <;> omega), (by (try simp only [List.length_set, List.length_append, List.length_cons, List.length_nil, List.length_replicate, List.length_take, List.length_drop]) <;> omega)⟩ (fun d6 i5 s4 hI h ih6 => ?_)))
    obtain ⟨hd, _, _⟩ := hI
    refine al_round ?_
    refine aw_seq ?_
    refine aw_seq ?_
    refine aw_region ?_
    refine ao_read trivial (r_move rfl) rfl ?_
    refine ao_read trivial (r_move rfl) rfl ?_
    refine ao_read trivial (r_len_vm (x0.length : Int) Try.underlying24 rfl rfl) rfl ?_
    refine ao_read trivial (r_lss rfl rfl) rfl ?_
    refine ao_nil ?_
    refine aq_then ?_
    refine aw_cond rfl (fun hb8 => ?_) (fun hb8 => ?_)
    · have q9 := d_t hb8
      obtain ⟨d6, rfl⟩ : ∃ e, d6 = e + 1 := ⟨d6 - 1, by omega⟩
      replace h := is_cntS h
      refine aw_skip ?_
      refine aq_then ?_
      refine aw_seq ?_
      refine aw_block ?_
      refine aw_seq ?_
      refine aw_drawAll (by kernel_rfl) ?_
      refine an_read 0 (by kernel_rfl) (fun _ _ _ h => h) rfl (by kernel_rfl) trivial (r_move rfl) rfl ?_
      refine an_read 1 (by kernel_rfl) (fun _ _ _ h => h) rfl (by kernel_rfl) trivial (r_move rfl) rfl ?_
      refine an_read 2 (by kernel_rfl) (fun _ _ _ h => h) rfl (by kernel_rfl) trivial (r_idxAddr_int Try.underlying24 Try.sizeOf3 rfl rfl (by omega) (show i5 < (x0.length : Int) from by omega)) rfl ?_
      refine an_read 3 (by kernel_rfl) (fun _ _ _ h => h) rfl (by kernel_rfl) trivial (r_load_c_int Try.isAgg3 Try.sizeOf3 rfl) rfl ?_
      refine an_read 4 (by kernel_rfl) (fun _ _ _ h => h) rfl (by kernel_rfl) trivial (r_move rfl) rfl ?_
      refine an_read 5 (by kernel_rfl) (fun _ _ _ h => h) rfl (by kernel_rfl) trivial (r_move rfl) rfl ?_
      refine an_read 6 (by kernel_rfl) (fun _ _ _ h => h) rfl (by kernel_rfl) trivial (r_idxAddr_int Try.underlying24 Try.sizeOf3 rfl rfl (by omega) (show i5 < (x1.length : Int) from by omega)) rfl ?_
      refine an_read 7 (by kernel_rfl) (fun _ _ _ h => h) rfl (by kernel_rfl) trivial (r_load_c_int Try.isAgg3 Try.sizeOf3 rfl) rfl ?_
      refine an_read 8 (by kernel_rfl) (fun _ _ _ h => h) rfl (by kernel_rfl) trivial (r_neq rfl rfl) rfl ?_
      refine an_done rfl ?_
      refine aq_then ?_
      refine aw_cond rfl (fun hb11 => ?_) (fun hb11 => ?_)
      · have q12 : ¬ ((x0.getD i5.toNat 0) = (x1.getD i5.toNat 0)) := d_f (not_t hb11)
        replace h := is_else (d_f (not_t hb11)) h
        refine aw_seq ?_
        refine aw_region ?_
        refine ao_read trivial (r_assign rfl) rfl ?_
        refine ao_nil ?_
        refine aq_then ?_
        refine aw_ret ?_
        refine aq_in_ret ?_
        refine aq_then_ret ?_
        refine aq_then_ret ?_
        refine aq_in_ret ?_
        refine aq_then_ret ?_
        refine aq_ret ?_
        obtain rfl := is_eq h
        exact aq_finx (l := [.tmp 4]) (xs := [.bool false]) idn [.bool false] [] rfl (by exact ⟨rfl, trivial⟩) (by exact ⟨ad_ren rfl, trivial⟩) (by exact trivial) rfl (nk rfl) rfl rfl ⟨rfl, rfl⟩
      · have q13 : (x0.getD i5.toNat 0) = (x1.getD i5.toNat 0) := d_t (not_f hb11)
        replace h := is_if (d_t (not_f hb11)) h
        refine aw_skip ?_
        refine aq_in ?_
        refine aq_then ?_
        refine aw_region ?_
        refine ao_read trivial (r_move rfl) rfl ?_
        refine ao_read trivial (r_addI rfl rfl (wrap_id (by omega) (by omega))) rfl ?_
        refine ao_read trivial (r_assign rfl) rfl ?_
        refine ao_nil ?_
        exact aq_again (AL.sub (sub_mk idn (by exact ⟨⟨_, rfl, ad_ren rfl⟩, ⟨_, rfl, ad_ren rfl⟩, ⟨_, rfl, ad_ren rfl⟩, trivial⟩) (by exact trivial) (by rfl) (nk rfl)) (ih6 d6 (i5 + 1) () (by omega) ⟨by omega, (by (try simp only [List.length_set, List.length_append, List.length_cons, List.length_nil, List.length_replicate, List.length_take, List.length_drop]) <;> omega), (by (try simp only [List.length_set, List.length_append, List.length_cons, List.length_nil, List.length_replicate, List.length_take, List.length_drop]) <;> omega)⟩ h))
    · have q10 := d_f hb8
      obtain rfl : d6 = 0 := by omega
      replace h := is_cnt0 h
      refine aw_exit ?_
      refine aq_then_exit ?_
      refine aq_then_exit ?_
      refine aq_in_exit ?_
      refine aq_then ?_
      refine aw_seq ?_
      refine aw_region ?_
      refine ao_read trivial (r_assign rfl) rfl ?_
      refine ao_nil ?_
      refine aq_then ?_
      refine aw_ret ?_
      refine aq_ret ?_
      obtain rfl := is_eq h
      exact aq_finx (l := [.tmp 4]) (xs := [.bool true]) idn [.bool true] [] rfl (by exact ⟨rfl, trivial⟩) (by exact ⟨ad_ren rfl, trivial⟩) (by exact trivial) rfl (nk rfl) rfl rfl ⟨rfl, rfl⟩
theorem c_spec_DrawRoomForBits {x0 : (List Int)} {r : Int} (h : Is (p_spec_DrawRoomForBits x0) (some r)) :
    Scalar Try.prog 26 [.v (.slice (.int .u8)) x0] (.int .i64 r) := by
  unfold p_spec_DrawRoomForBits at h
  refine ac_enter ⟨10, 0⟩ Try.func26 rfl rfl rfl rfl rfl (fun Γ => ?_)
  refine sl_len_m 0 (x0.length : Int) rfl rfl (fun hl0 => ?_)
  refine aw_seq ?_
  refine aw_region ?_
  refine ao_read trivial (r_assign rfl) rfl ?_
  refine ao_nil ?_
  refine aq_then ?_
  refine aw_seq ?_
  refine aw_region ?_
  refine ao_read trivial (r_move rfl) rfl ?_
  refine ao_read trivial (r_build_st (l := [(0, .tmp 4)]) (cs := [.cell (.v (.slice (.int .u8)) x0), .cell (.int .i64 0), .cell (.int .u64 0)]) (.pair (.slice (.int .u8)) (.pair (.int .i64) (.pair (.int .u64) .unit))) [(0, 1), (1, 1), (2, 1)] Try.underlying98 Try.zeroValue98 rfl ⟨rfl, Try.sizeOf22, rfl, Try.sizeOf3, rfl, Try.sizeOf96, trivial⟩ rfl rfl rfl) rfl ?_
  refine ao_eff trivial (e_box 0 rfl rfl rfl rfl rfl rfl) rfl ?_
  refine ao_read trivial (r_assign rfl) rfl ?_
  refine ao_nil ?_
  refine aq_then ?_
  refine aw_seq ?_
  refine aw_region ?_
  refine ao_read trivial (r_move rfl) rfl ?_
  obtain ⟨r1, r1h, h⟩ := is_bind h
  refine ao_callV [0] 1 trivial (c_spec_l1Cur_pick (is_mk r1h)) Try.func103 rfl rfl rfl rfl rfl ⟨rfl, trivial⟩ ⟨⟨_, rfl, ⟨ad_ren rfl, rfl, ad_ren rfl, rfl, ad_ren rfl, rfl, trivial⟩⟩, trivial⟩ rfl rfl rfl rfl rfl rfl rfl (fun r' H' hr => ?_)
  obtain ⟨rfl, rfl⟩ := hr
  refine ao_norm (y := .int .i64 r1.1) (H' := [(0, .var [.cell (.v (.slice (.int .u8)) x0), .cell (.int .i64 r1.2.1), .cell (.int .u64 r1.2.2)])]) rfl rfl ?_
  refine ao_read trivial (r_sub rfl rfl) rfl ?_
  refine ao_read trivial (r_assign rfl) rfl ?_
  refine ao_nil ?_
  refine aq_then ?_
  refine aw_ret ?_
  refine aq_ret ?_
  obtain rfl := is_some h
  exact aq_finx (l := [.tmp 2]) (xs := [.int .i64 (IntKind.wrap .i64 (r1.1 - 1))]) idn [.int .i64 (IntKind.wrap .i64 (r1.1 - 1))] [] rfl (by exact ⟨rfl, trivial⟩) (by exact ⟨ad_ren rfl, trivial⟩) (by exact trivial) rfl (nk rfl) rfl rfl ⟨rfl, rfl⟩
theorem c_impl_RoomForBits {fu : Nat} {x0 : Int} {r : Int × Bool} (h : Is (p_impl_RoomForBits fu x0) (some r)) :
    Scalar Try.prog 27 [.int .i64 x0] (.tup [.int .i64 r.1, .bool r.2]) := by
  unfold p_impl_RoomForBits at h
  refine ac_enter ⟨17, 0⟩ Try.func27 rfl rfl rfl rfl rfl (fun Γ => ?_)
  refine aw_seq ?_
  refine aw_region ?_
  refine ao_read trivial (r_assign rfl) rfl ?_
  refine ao_read trivial (r_assign rfl) rfl ?_
  refine ao_nil ?_
  refine aq_then ?_
  refine aw_seq ?_
  refine aw_seq ?_
  refine aw_region ?_
  refine ao_read trivial (r_move rfl) rfl ?_
  refine ao_scall trivial (scall (c_impl_within (is_mk (rfl : p_impl_within x0 0 20 = _))) rfl Try.func96 rfl rfl rfl rfl (fun σ => ⟨ad_ren rfl, ad_ren rfl, ad_ren rfl, trivial⟩)) rfl ?_
  refine ao_read trivial (r_not rfl) rfl ?_
  refine ao_nil ?_
  refine aq_then ?_
  refine aw_cond rfl (fun hb1 => ?_) (fun hb1 => ?_)
  · replace h := is_else (ne_t (not_t hb1)) h
    refine aw_seq ?_
    refine aw_region ?_
    refine ao_read trivial (r_assign rfl) rfl ?_
    refine ao_read trivial (r_assign rfl) rfl ?_
    refine ao_nil ?_
    refine aq_then ?_
    refine aw_ret ?_
    refine aq_then_ret ?_
    refine aq_ret ?_
    obtain rfl := is_some h
    exact aq_finx (l := [.tmp 2, .tmp 3]) (xs := [.int .i64 0, .bool false]) idn [.int .i64 0, .bool false] [] rfl (by exact ⟨rfl, rfl, trivial⟩) (by exact ⟨ad_ren rfl, ad_ren rfl, trivial⟩) (by exact trivial) rfl (nk rfl) rfl rfl ⟨rfl, rfl⟩
  · replace h := is_if (not_f hb1) h
    refine aw_skip ?_
    refine aq_then ?_
    refine aw_seq ?_
    refine aw_region ?_
    refine ao_read trivial (r_assign rfl) rfl ?_
    refine ao_nil ?_
    refine aq_then ?_
    refine aw_seq ?_
    refine aw_block ?_
    refine aw_loop (AL.sub (sub_mk idn (by exact ⟨⟨_, rfl, ad_ren rfl⟩, ⟨_, rfl, ad_ren rfl⟩, trivial⟩) (by exact trivial) (by rfl) (nk rfl)) (al_whl (fun (s2 : Int) => [(0, .int .i64 x0), (4, .int .i64 s2)]) (fun (s2 : Int) => []) (fun (s2 : Int) => 0 ≤ s2) h (by (try simp only [List.length_set, List.length_append, List.length_cons, List.length_nil, List.length_replicate, List.length_take, List.length_drop]) <;> omega) (fun d4 s2 hI h ih4 => ?_)))
    replace h := is_whlS h
    refine al_round ?_
    refine aw_seq ?_
    refine aw_seq ?_
    obtain ⟨g6, h⟩ := is_guard h
    obtain ⟨r7, r7h, h⟩ := is_bind h
    refine aw_drawAll (by kernel_rfl) ?_
    refine an_read 0 (by kernel_rfl) (fun _ _ _ h => h) rfl (by kernel_rfl) trivial (r_move rfl) rfl ?_
    refine an_read 1 (by kernel_rfl) (fun _ _ _ h => h) rfl (by kernel_rfl) trivial (r_add rfl rfl) rfl ?_
    refine an_read 2 (by kernel_rfl) (fun _ _ _ h => h) rfl (by kernel_rfl) trivial (r_shl rfl rfl (by omega)) rfl ?_
    refine an_read 3 (by kernel_rfl) (fun _ _ _ h => h) rfl (by kernel_rfl) trivial (r_move rfl) rfl ?_
    refine an_scall 4 (by kernel_rfl) (fun _ _ _ h => h) rfl (by kernel_rfl) trivial (scall (c_impl_power (is_mk r7h)) rfl Try.func99 rfl rfl rfl rfl (fun σ => ⟨ad_ren rfl, trivial⟩)) rfl ?_
    refine an_read 5 (by kernel_rfl) (fun _ _ _ h => h) rfl (by kernel_rfl) trivial (r_leq rfl rfl) rfl ?_
    refine an_done rfl ?_
    refine aq_then ?_
    refine aw_cond rfl (fun hb8 => ?_) (fun hb8 => ?_)
    · have q9 := d_t hb8
      replace h := is_if (d_t hb8) h
      refine aw_skip ?_
      refine aq_then ?_
      refine aw_block ?_
      refine aw_region ?_
      refine ao_read trivial (r_move rfl) rfl ?_
      refine ao_read trivial (r_add rfl rfl) rfl ?_
      refine ao_read trivial (r_assign rfl) rfl ?_
      refine ao_nil ?_
      refine aq_in ?_
      exact aq_again (AL.sub (sub_mk idn (by exact ⟨⟨_, rfl, ad_ren rfl⟩, ⟨_, rfl, ad_ren rfl⟩, trivial⟩) (by exact trivial) (by rfl) (nk rfl)) (ih4 (IntKind.wrap .i64 (s2 + 1)) (by (try simp only [List.length_set, List.length_append, List.length_cons, List.length_nil, List.length_replicate, List.length_take, List.length_drop]) <;> omega) h))
    · have q10 := d_f hb8
      replace h := is_else (d_f hb8) h
      refine aw_exit ?_
      refine aq_then_exit ?_
      refine aq_then_exit ?_
      refine aq_in_exit ?_
      refine aq_then ?_
      refine aw_seq ?_
      refine aw_region ?_
      refine ao_read trivial (r_move rfl) rfl ?_
      refine ao_read trivial (r_assign rfl) rfl ?_
      refine ao_read trivial (r_assign rfl) rfl ?_
      refine ao_nil ?_
      refine aq_then ?_
      refine aw_ret ?_
      refine aq_ret ?_
      obtain rfl := is_some h
      exact aq_finx (l := [.tmp 2, .tmp 3]) (xs := [.int .i64 s2, .bool true]) idn [.int .i64 s2, .bool true] [] rfl (by exact ⟨rfl, rfl, trivial⟩) (by exact ⟨ad_ren rfl, ad_ren rfl, trivial⟩) (by exact trivial) rfl (nk rfl) rfl rfl ⟨rfl, rfl⟩
theorem c_spec_RoomForBits {fu : Nat} {x0 : Int} {r : Int × Bool} (h : Is (p_spec_RoomForBits fu x0) (some r)) :
    Scalar Try.prog 28 [.int .i64 x0] (.tup [.int .i64 r.1, .bool r.2]) := by
  unfold p_spec_RoomForBits at h
  refine ac_enter ⟨18, 0⟩ Try.func28 rfl rfl rfl rfl rfl (fun Γ => ?_)
  refine aw_seq ?_
  refine aw_region ?_
  refine ao_read trivial (r_assign rfl) rfl ?_
  refine ao_read trivial (r_assign rfl) rfl ?_
  refine ao_nil ?_
  refine aq_then ?_
  refine aw_seq ?_
  refine aw_seq ?_
  refine aw_region ?_
  refine ao_read trivial (r_move rfl) rfl ?_
  refine ao_scall trivial (scall (c_spec_l1In (is_mk (rfl : p_spec_l1In x0 0 20 = _))) rfl Try.func107 rfl rfl rfl rfl (fun σ => ⟨ad_ren rfl, ad_ren rfl, ad_ren rfl, trivial⟩)) rfl ?_
  refine ao_read trivial (r_not rfl) rfl ?_
  refine ao_nil ?_
  refine aq_then ?_
  refine aw_cond rfl (fun hb1 => ?_) (fun hb1 => ?_)
  · replace h := is_else (ne_t (not_t hb1)) h
    refine aw_seq ?_
    refine aw_region ?_
    refine ao_read trivial (r_assign rfl) rfl ?_
    refine ao_read trivial (r_assign rfl) rfl ?_
    refine ao_nil ?_
    refine aq_then ?_
    refine aw_ret ?_
    refine aq_then_ret ?_
    refine aq_ret ?_
    obtain rfl := is_some h
    exact aq_finx (l := [.tmp 2, .tmp 3]) (xs := [.int .i64 0, .bool false]) idn [.int .i64 0, .bool false] [] rfl (by exact ⟨rfl, rfl, trivial⟩) (by exact ⟨ad_ren rfl, ad_ren rfl, trivial⟩) (by exact trivial) rfl (nk rfl) rfl rfl ⟨rfl, rfl⟩
  · replace h := is_if (not_f hb1) h
    refine aw_skip ?_
    refine aq_then ?_
    refine aw_seq ?_
    refine aw_region ?_
    refine ao_read trivial (r_move rfl) rfl ?_
    obtain ⟨r2, r2h, h⟩ := is_bind h
    refine ao_scall trivial (scall (c_spec_l2All (is_mk r2h)) rfl Try.func101 rfl rfl rfl rfl (fun σ => ⟨ad_ren rfl, trivial⟩)) rfl ?_
    refine ao_read trivial (r_assign rfl) rfl ?_
    refine ao_read trivial (r_assign rfl) rfl ?_
    refine ao_nil ?_
    refine aq_then ?_
    refine aw_seq ?_
    refine aw_block ?_
    refine aw_loop (AL.sub (sub_mk idn (by exact ⟨⟨_, rfl, ad_ren rfl⟩, ⟨_, rfl, ad_ren rfl⟩, trivial⟩) (by exact trivial) (by rfl) (nk rfl)) (al_whl (fun (s3 : Int) => [(4, .int .i64 s3), (5, .int .i64 r2)]) (fun (s3 : Int) => []) (fun (s3 : Int) => True) h trivial (fun d5 s3 hI h ih5 => ?_)))
    replace h := is_whlS h
    refine al_round ?_
    refine aw_seq ?_
    refine aw_seq ?_
    refine aw_region ?_
    refine ao_read trivial (r_move rfl) rfl ?_
    obtain ⟨g7, h⟩ := is_guard h
    refine ao_read trivial (r_shl rfl rfl (by omega)) rfl ?_
    refine ao_read trivial (r_move rfl) rfl ?_
    refine ao_read trivial (r_leq rfl rfl) rfl ?_
    refine ao_nil ?_
    refine aq_then ?_
    refine aw_cond rfl (fun hb8 => ?_) (fun hb8 => ?_)
    · have q9 := d_t hb8
      replace h := is_if (d_t hb8) h
      refine aw_skip ?_
      refine aq_then ?_
      refine aw_block ?_
      refine aw_region ?_
      refine ao_read trivial (r_move rfl) rfl ?_
      refine ao_read trivial (r_add rfl rfl) rfl ?_
      refine ao_read trivial (r_assign rfl) rfl ?_
      refine ao_nil ?_
      refine aq_in ?_
      exact aq_again (AL.sub (sub_mk idn (by exact ⟨⟨_, rfl, ad_ren rfl⟩, ⟨_, rfl, ad_ren rfl⟩, trivial⟩) (by exact trivial) (by rfl) (nk rfl)) (ih5 (IntKind.wrap .i64 (s3 + 1)) trivial h))
    · have q10 := d_f hb8
      replace h := is_else (d_f hb8) h
      refine aw_exit ?_
      refine aq_then_exit ?_
      refine aq_then_exit ?_
      refine aq_in_exit ?_
      refine aq_then ?_
      refine aw_seq ?_
      refine aw_region ?_
      refine ao_read trivial (r_move rfl) rfl ?_
      refine ao_read trivial (r_assign rfl) rfl ?_
      refine ao_read trivial (r_assign rfl) rfl ?_
      refine ao_nil ?_
      refine aq_then ?_
      refine aw_ret ?_
      refine aq_ret ?_
      obtain rfl := is_some h
      exact aq_finx (l := [.tmp 2, .tmp 3]) (xs := [.int .i64 s3, .bool true]) idn [.int .i64 s3, .bool true] [] rfl (by exact ⟨rfl, rfl, trivial⟩) (by exact ⟨ad_ren rfl, ad_ren rfl, trivial⟩) (by exact trivial) rfl (nk rfl) rfl rfl ⟨rfl, rfl⟩
theorem c_laws_FnMade {fu : Nat} {x0 : (List Int)} {r : Bool} (h : Is (p_laws_FnMade fu x0) (some r)) :
    Scalar Try.prog 3 [.v (.slice (.int .u8)) x0] (.bool r) := by
  unfold p_laws_FnMade at h
  refine ac_enter ⟨411, 0⟩ Try.func3 rfl rfl rfl rfl rfl (fun Γ => ?_)
  refine sl_len_m 0 (x0.length : Int) rfl rfl (fun hl0 => ?_)
  refine aw_seq ?_
  refine aw_region ?_
  refine ao_read trivial (r_assign rfl) rfl ?_
  refine ao_nil ?_
  refine aq_then ?_
  refine aw_seq ?_
  refine aw_seq ?_
  refine aw_region ?_
  refine ao_read trivial (r_move rfl) rfl ?_
  refine ao_scall trivial (scall (c_laws_rBig (is_mk (rfl : p_laws_rBig x0 = _))) rfl Try.func7 rfl rfl rfl rfl (fun σ => ⟨ad_ren rfl, trivial⟩)) rfl ?_
  refine ao_nil ?_
  refine aq_then ?_
  refine aw_cond rfl (fun hb1 => ?_) (fun hb1 => ?_)
  · replace h := is_if hb1 h
    refine aw_seq ?_
    refine aw_region ?_
    refine ao_read trivial (r_assign rfl) rfl ?_
    refine ao_nil ?_
    refine aq_then ?_
    refine aw_ret ?_
    refine aq_then_ret ?_
    refine aq_ret ?_
    obtain rfl := is_some h
    exact aq_finx (l := [.tmp 2]) (xs := [.bool true]) idn [.bool true] [] rfl (by exact ⟨rfl, trivial⟩) (by exact ⟨ad_ren rfl, trivial⟩) (by exact trivial) rfl (nk rfl) rfl rfl ⟨rfl, rfl⟩
  · replace h := is_else (ne_t hb1) h
    refine aw_skip ?_
    refine aq_then ?_
    refine aw_seq ?_
    refine aw_region ?_
    refine ao_read trivial (r_move rfl) rfl ?_
    obtain ⟨r2, r2h, h⟩ := is_bind h
    refine ao_call [] 0 trivial (c_spec_DrawMakeNumber (is_mk r2h)) Try.func8 rfl rfl rfl rfl ⟨ad_ren rfl, trivial⟩ trivial rfl rfl rfl rfl rfl rfl rfl (fun r' H' hr => ?_)
    obtain ⟨rfl, rfl⟩ := hr
    refine ao_norm (y := .tup [.int .i64 r2.1, .os 0]) (H' := [(0, .row (.int .i64) r2.2)]) rfl rfl ?_
    refine row_len_o 0 (r2.2.length : Int) rfl rfl (fun hr3 => ?_)
    refine ao_read trivial (r_move rfl) rfl ?_
    refine ao_read trivial (r_extract rfl rfl) rfl ?_
    refine ao_read trivial (r_extract rfl rfl) rfl ?_
    refine ao_read trivial (r_assign rfl) rfl ?_
    refine ao_read trivial (r_assign rfl) rfl ?_
    refine ao_nil ?_
    refine aq_then ?_
    refine aw_seq ?_
    refine aw_region ?_
    refine ao_read trivial (r_move rfl) rfl ?_
    refine ao_read trivial (r_move rfl) rfl ?_
    obtain ⟨r4, r4h, h⟩ := is_bind h
    refine ao_scall trivial (scall (c_impl_MakeNumber (is_mk r4h)) rfl Try.func9 rfl rfl rfl rfl (fun σ => ⟨ad_ren rfl, ad_os0 rfl, trivial⟩)) rfl ?_
    refine ao_read trivial (r_move rfl) rfl ?_
    refine ao_read trivial (r_extract rfl rfl) rfl ?_
    refine ao_read trivial (r_extract rfl rfl) rfl ?_
    refine ao_read trivial (r_extract rfl rfl) rfl ?_
    refine ao_read trivial (r_assign rfl) rfl ?_
    refine ao_read trivial (r_assign rfl) rfl ?_
    refine ao_read trivial (r_assign rfl) rfl ?_
    refine ao_nil ?_
    refine aq_then ?_
    refine aw_seq ?_
    refine aw_seq ?_
    refine aw_region ?_
    refine ao_read trivial (r_move rfl) rfl ?_
    refine ao_read trivial (r_move rfl) rfl ?_
    obtain ⟨r5, r5h, h⟩ := is_bind h
    refine ao_scall trivial (scall (c_spec_MakeNumber (is_mk r5h)) rfl Try.func10 rfl rfl rfl rfl (fun σ => ⟨ad_ren rfl, ad_os0 rfl, trivial⟩)) rfl ?_
    refine ao_read trivial (r_move rfl) rfl ?_
    refine ao_read trivial (r_extract rfl rfl) rfl ?_
    refine ao_read trivial (r_extract rfl rfl) rfl ?_
    refine ao_read trivial (r_extract rfl rfl) rfl ?_
    refine ao_read trivial (r_assign rfl) rfl ?_
    refine ao_read trivial (r_assign rfl) rfl ?_
    refine ao_read trivial (r_assign rfl) rfl ?_
    refine ao_nil ?_
    refine aq_then ?_
    refine aw_seq ?_
    refine aw_region ?_
    refine ao_read trivial (r_move rfl) rfl ?_
    refine ao_read trivial (r_move rfl) rfl ?_
    refine ao_read trivial (r_neq rfl rfl) rfl ?_
    refine ao_read trivial (r_move rfl) rfl ?_
    refine ao_readG (x := .bool r4.2.1) rfl (GV.F rfl) (fun hg6 => by
          have q7 := d_t (not_f (not_t hg6))
          exact r_move rfl) rfl ?_
    refine ao_readG (x := .bool r5.2.1) rfl (GV.F rfl) (fun hg8 => by
          have q9 := d_t (not_f (not_t hg8))
          exact r_move rfl) rfl ?_
    refine ao_readG (x := .bool (r4.2.1 != r5.2.1)) rfl (GV.F rfl) (fun hg10 => by
          have q11 := d_t (not_f (not_t hg10))
          exact Reads.strip 82 rfl (hg10) (Reads.strip 83 rfl (hg10) (r_neq_bool Try.underlying4 rfl rfl))) rfl ?_
    refine ao_read trivial (r_orB rfl rfl) rfl ?_
    refine ao_read trivial (r_move rfl) rfl ?_
    refine ao_readG (x := .bool r4.2.2) rfl (GV.F rfl) (fun hg12 => by
          obtain ⟨q13, q14⟩ := or_f (not_t hg12)
          have q15 := d_t (not_f q13)
          exact r_move rfl) rfl ?_
    refine ao_readG (x := .bool r5.2.2) rfl (GV.F rfl) (fun hg16 => by
          obtain ⟨q17, q18⟩ := or_f (not_t hg16)
          have q19 := d_t (not_f q17)
          exact r_move rfl) rfl ?_
    refine ao_readG (x := .bool (r4.2.2 != r5.2.2)) rfl (GV.F rfl) (fun hg20 => by
          obtain ⟨q21, q22⟩ := or_f (not_t hg20)
          have q23 := d_t (not_f q21)
          exact Reads.strip 87 rfl (hg20) (Reads.strip 88 rfl (hg20) (r_neq_bool Try.underlying4 rfl rfl))) rfl ?_
    refine ao_read trivial (r_orB rfl rfl) rfl ?_
    refine ao_nil ?_
    refine aq_then ?_
    refine aw_cond rfl (fun hb24 => ?_) (fun hb24 => ?_)
    · replace h := is_if hb24 h
      refine aw_seq ?_
      refine aw_region ?_
      refine ao_read trivial (r_assign rfl) rfl ?_
      refine ao_nil ?_
      refine aq_then ?_
      refine aw_ret ?_
      refine aq_then_ret ?_
      refine aq_ret ?_
      obtain rfl := is_some h
      exact aq_finx (l := [.tmp 2]) (xs := [.bool false]) idn [.bool false] [] rfl (by exact ⟨rfl, trivial⟩) (by exact ⟨ad_ren rfl, trivial⟩) (by exact trivial) rfl (nk rfl) rfl rfl ⟨rfl, rfl⟩
    · obtain ⟨q25, q26⟩ := or_f hb24
      obtain ⟨q27, q28⟩ := or_f q25
      have q29 := d_t (not_f q27)
      replace h := is_else (ne_t hb24) h
      refine aw_skip ?_
      refine aq_then ?_
      refine aw_seq ?_
      refine aw_region ?_
      refine ao_read trivial (r_move rfl) rfl ?_
      obtain ⟨r30, r30h, h⟩ := is_bind h
      refine ao_call [] 1 trivial (c_spec_DrawNumberOfThrows (is_mk r30h)) Try.func11 rfl rfl rfl rfl ⟨ad_ren rfl, trivial⟩ trivial rfl rfl rfl rfl rfl rfl rfl (fun r' H' hr => ?_)
      obtain ⟨rfl, rfl⟩ := hr
      refine ao_norm (y := .os 1) (H' := [(0, .row (.int .i64) r2.2), (1, .row (.int .i64) r30)]) rfl rfl ?_
      refine row_len_o 1 (r30.length : Int) rfl rfl (fun hr31 => ?_)
      refine ao_read trivial (r_assign rfl) rfl ?_
      refine ao_nil ?_
      refine aq_then ?_
      refine aw_seq ?_
      refine aw_region ?_
      refine ao_read trivial (r_move rfl) rfl ?_
      refine ao_scall trivial (scall (c_impl_NumberOfThrows (is_mk (rfl : p_impl_NumberOfThrows r30 = _))) rfl Try.func12 rfl rfl rfl rfl (fun σ => ⟨ad_os0 rfl, trivial⟩)) rfl ?_
      refine ao_read trivial (r_move rfl) rfl ?_
      refine ao_read trivial (r_extract rfl rfl) rfl ?_
      refine ao_read trivial (r_extract rfl rfl) rfl ?_
      refine ao_read trivial (r_assign rfl) rfl ?_
      refine ao_read trivial (r_assign rfl) rfl ?_
      refine ao_nil ?_
      refine aq_then ?_
      refine aw_seq ?_
      refine aw_seq ?_
      refine aw_region ?_
      refine ao_read trivial (r_move rfl) rfl ?_
      refine ao_scall trivial (scall (c_spec_NumberOfThrows (is_mk (rfl : p_spec_NumberOfThrows r30 = _))) rfl Try.func13 rfl rfl rfl rfl (fun σ => ⟨ad_os0 rfl, trivial⟩)) rfl ?_
      refine ao_read trivial (r_move rfl) rfl ?_
      refine ao_read trivial (r_extract rfl rfl) rfl ?_
      refine ao_read trivial (r_extract rfl rfl) rfl ?_
      refine ao_read trivial (r_assign rfl) rfl ?_
      refine ao_read trivial (r_assign rfl) rfl ?_
      refine ao_nil ?_
      refine aq_then ?_
      refine aw_seq ?_
      refine aw_region ?_
      refine ao_read trivial (r_move rfl) rfl ?_
      refine ao_read trivial (r_move rfl) rfl ?_
      refine ao_read trivial (r_neq rfl rfl) rfl ?_
      refine ao_read trivial (r_move rfl) rfl ?_
      refine ao_readG (x := .bool ((p_impl_NumberOfThrows r30).2)) rfl (GV.F rfl) (fun hg32 => by
            have q33 := d_t (not_f (not_t hg32))
            exact r_move rfl) rfl ?_
      refine ao_readG (x := .bool ((p_spec_NumberOfThrows r30).2)) rfl (GV.F rfl) (fun hg34 => by
            have q35 := d_t (not_f (not_t hg34))
            exact r_move rfl) rfl ?_
      refine ao_readG (x := .bool (((p_impl_NumberOfThrows r30).2) != ((p_spec_NumberOfThrows r30).2))) rfl (GV.F rfl) (fun hg36 => by
            have q37 := d_t (not_f (not_t hg36))
            exact Reads.strip 107 rfl (hg36) (Reads.strip 108 rfl (hg36) (r_neq_bool Try.underlying4 rfl rfl))) rfl ?_
      refine ao_read trivial (r_orB rfl rfl) rfl ?_
      refine ao_nil ?_
      refine aq_then ?_
      refine aw_cond rfl (fun hb38 => ?_) (fun hb38 => ?_)
      · replace h := is_if hb38 h
        refine aw_seq ?_
        refine aw_region ?_
        refine ao_read trivial (r_assign rfl) rfl ?_
        refine ao_nil ?_
        refine aq_then ?_
        refine aw_ret ?_
        refine aq_then_ret ?_
        refine aq_ret ?_
        obtain rfl := is_some h
        exact aq_finx (l := [.tmp 2]) (xs := [.bool false]) idn [.bool false] [] rfl (by exact ⟨rfl, trivial⟩) (by exact ⟨ad_ren rfl, trivial⟩) (by exact trivial) rfl (nk rfl) rfl rfl ⟨rfl, rfl⟩
      · obtain ⟨q39, q40⟩ := or_f hb38
        have q41 := d_t (not_f q39)
        replace h := is_else (ne_t hb38) h
        refine aw_skip ?_
        refine aq_then ?_
        refine aw_seq ?_
        refine aw_region ?_
        refine ao_read trivial (r_move rfl) rfl ?_
        obtain ⟨r42, r42h, h⟩ := is_bind h
        refine ao_scall trivial (scall (c_spec_DrawTakenOf (is_mk r42h)) rfl Try.func14 rfl rfl rfl rfl (fun σ => ⟨ad_ren rfl, trivial⟩)) rfl ?_
        refine ao_read trivial (r_move rfl) rfl ?_
        refine ao_read trivial (r_extract rfl rfl) rfl ?_
        refine ao_read trivial (r_extract rfl rfl) rfl ?_
        refine ao_read trivial (r_assign rfl) rfl ?_
        refine ao_read trivial (r_assign rfl) rfl ?_
        refine ao_nil ?_
        refine aq_then ?_
        refine aw_seq ?_
        refine aw_region ?_
        refine ao_read trivial (r_move rfl) rfl ?_
        refine ao_read trivial (r_move rfl) rfl ?_
        obtain ⟨r43, r43h, h⟩ := is_bind h
        refine ao_scall trivial (scall (c_impl_TakenOf (is_mk r43h)) rfl Try.func15 rfl rfl rfl rfl (fun σ => ⟨ad_ren rfl, ad_ren rfl, trivial⟩)) rfl ?_
        refine ao_read trivial (r_move rfl) rfl ?_
        refine ao_read trivial (r_extract rfl rfl) rfl ?_
        refine ao_read trivial (r_extract rfl rfl) rfl ?_
        refine ao_read trivial (r_assign rfl) rfl ?_
        refine ao_read trivial (r_assign rfl) rfl ?_
        refine ao_nil ?_
        refine aq_then ?_
        refine aw_seq ?_
        refine aw_seq ?_
        refine aw_region ?_
        refine ao_read trivial (r_move rfl) rfl ?_
        refine ao_read trivial (r_move rfl) rfl ?_
        obtain ⟨r44, r44h, h⟩ := is_bind h
        refine ao_scall trivial (scall (c_spec_TakenOf (is_mk r44h)) rfl Try.func16 rfl rfl rfl rfl (fun σ => ⟨ad_ren rfl, ad_ren rfl, trivial⟩)) rfl ?_
        refine ao_read trivial (r_move rfl) rfl ?_
        refine ao_read trivial (r_extract rfl rfl) rfl ?_
        refine ao_read trivial (r_extract rfl rfl) rfl ?_
        refine ao_read trivial (r_assign rfl) rfl ?_
        refine ao_read trivial (r_assign rfl) rfl ?_
        refine ao_nil ?_
        refine aq_then ?_
        refine aw_seq ?_
        refine aw_region ?_
        refine ao_read trivial (r_move rfl) rfl ?_
        refine ao_read trivial (r_move rfl) rfl ?_
        refine ao_read trivial (r_neq rfl rfl) rfl ?_
        refine ao_read trivial (r_move rfl) rfl ?_
        refine ao_readG (x := .bool r43.2) rfl (GV.F rfl) (fun hg45 => by
              have q46 := d_t (not_f (not_t hg45))
              exact r_move rfl) rfl ?_
        refine ao_readG (x := .bool r44.2) rfl (GV.F rfl) (fun hg47 => by
              have q48 := d_t (not_f (not_t hg47))
              exact r_move rfl) rfl ?_
        refine ao_readG (x := .bool (r43.2 != r44.2)) rfl (GV.F rfl) (fun hg49 => by
              have q50 := d_t (not_f (not_t hg49))
              exact Reads.strip 132 rfl (hg49) (Reads.strip 133 rfl (hg49) (r_neq_bool Try.underlying4 rfl rfl))) rfl ?_
        refine ao_read trivial (r_orB rfl rfl) rfl ?_
        refine ao_nil ?_
        refine aq_then ?_
        refine aw_cond rfl (fun hb51 => ?_) (fun hb51 => ?_)
        · replace h := is_if hb51 h
          refine aw_seq ?_
          refine aw_region ?_
          refine ao_read trivial (r_assign rfl) rfl ?_
          refine ao_nil ?_
          refine aq_then ?_
          refine aw_ret ?_
          refine aq_then_ret ?_
          refine aq_ret ?_
          obtain rfl := is_some h
          exact aq_finx (l := [.tmp 2]) (xs := [.bool false]) idn [.bool false] [] rfl (by exact ⟨rfl, trivial⟩) (by exact ⟨ad_ren rfl, trivial⟩) (by exact trivial) rfl (nk rfl) rfl rfl ⟨rfl, rfl⟩
        · obtain ⟨q52, q53⟩ := or_f hb51
          have q54 := d_t (not_f q52)
          replace h := is_else (ne_t hb51) h
          refine aw_skip ?_
          refine aq_then ?_
          refine aw_seq ?_
          refine aw_region ?_
          refine ao_read trivial (r_move rfl) rfl ?_
          refine ao_read trivial (r_move rfl) rfl ?_
          obtain ⟨r55, r55h, h⟩ := is_bind h
          refine ao_scall trivial (scall (c_impl_MeanThrows (is_mk r55h)) rfl Try.func17 rfl rfl rfl rfl (fun σ => ⟨ad_ren rfl, ad_ren rfl, trivial⟩)) rfl ?_
          refine ao_read trivial (r_move rfl) rfl ?_
          refine ao_read trivial (r_extract rfl rfl) rfl ?_
          refine ao_read trivial (r_extract rfl rfl) rfl ?_
          refine ao_eff trivial (e_alloc 2 (y := .v (.arr 2 (.int .i64)) ((List.replicate 2 0) : (List Int))) Try.zeroValue35 (fun ρ h M => ra_zero_arr (t := (.int .i64)) rfl) rfl rfl rfl rfl rfl) rfl ?_
          refine ao_effS trivial (e_store rfl rfl rfl rfl Try.sizeOf35 rfl) ?_
          refine ao_read trivial (r_assign rfl) rfl ?_
          refine ao_nil ?_
          refine aq_then ?_
          refine aw_seq ?_
          refine aw_seq ?_
          refine aw_region ?_
          refine ao_read trivial (r_move rfl) rfl ?_
          refine ao_read trivial (r_move rfl) rfl ?_
          obtain ⟨r56, r56h, h⟩ := is_bind h
          refine ao_scall trivial (scall (c_spec_MeanThrows (is_mk r56h)) rfl Try.func18 rfl rfl rfl rfl (fun σ => ⟨ad_ren rfl, ad_ren rfl, trivial⟩)) rfl ?_
          refine ao_read trivial (r_move rfl) rfl ?_
          refine ao_read trivial (r_extract rfl rfl) rfl ?_
          refine ao_read trivial (r_extract rfl rfl) rfl ?_
          refine ao_eff trivial (e_alloc 3 (y := .v (.arr 2 (.int .i64)) ((List.replicate 2 0) : (List Int))) Try.zeroValue35 (fun ρ h M => ra_zero_arr (t := (.int .i64)) rfl) rfl rfl rfl rfl rfl) rfl ?_
          refine ao_effS trivial (e_store rfl rfl rfl rfl Try.sizeOf35 rfl) ?_
          refine ao_read trivial (r_assign rfl) rfl ?_
          refine ao_nil ?_
          refine aq_then ?_
          refine aw_seq ?_
          refine aw_region ?_
          refine ao_read trivial (r_load_arr rfl Try.isAgg35 Try.sizeOf35 rfl rfl rfl) rfl ?_
          refine ao_read trivial (r_load_arr rfl Try.isAgg35 Try.sizeOf35 rfl rfl rfl) rfl ?_
          refine ao_read trivial (r_eq_ints Try.underlying35 Try.underlying3 Try.isAgg3 (info_size Try.sizeOf3) (by kernel_rfl) rfl rfl rfl) rfl ?_
          refine ao_read trivial (r_move rfl) rfl ?_
          refine ao_readG (x := .bool r55.2) rfl (GV.F rfl) (fun hg57 => r_move rfl) rfl ?_
          refine ao_readG (x := .bool r56.2) rfl (GV.F rfl) (fun hg58 => r_move rfl) rfl ?_
          refine ao_readG (x := .bool (r55.2 != r56.2)) rfl (GV.F rfl) (fun hg59 => Reads.strip 152 rfl (hg59) (Reads.strip 153 rfl (hg59) (r_neq_bool Try.underlying4 rfl rfl))) rfl ?_
          refine ao_read trivial (r_orB rfl rfl) rfl ?_
          refine ao_read trivial (r_move rfl) rfl ?_
          refine ao_readG (x := .bool r55.2) rfl (GV.F rfl) (fun hg60 => by
                obtain ⟨q61, q62⟩ := or_f (not_t hg60)
                exact r_move rfl) rfl ?_
          refine ao_readG (x := .bool r43.2) rfl (GV.F rfl) (fun hg63 => by
                obtain ⟨q64, q65⟩ := or_f (not_t hg63)
                exact r_move rfl) rfl ?_
          refine ao_readG (x := .bool (r55.2 != r43.2)) rfl (GV.F rfl) (fun hg66 => by
                obtain ⟨q67, q68⟩ := or_f (not_t hg66)
                exact Reads.strip 157 rfl (hg66) (Reads.strip 158 rfl (hg66) (r_neq_bool Try.underlying4 rfl rfl))) rfl ?_
          refine ao_read trivial (r_orB rfl rfl) rfl ?_
          refine ao_nil ?_
          refine aq_then ?_
          refine aw_cond rfl (fun hb69 => ?_) (fun hb69 => ?_)
          · replace h := is_if hb69 h
            refine aw_seq ?_
            refine aw_region ?_
            refine ao_read trivial (r_assign rfl) rfl ?_
            refine ao_nil ?_
            refine aq_then ?_
            refine aw_ret ?_
            refine aq_then_ret ?_
            refine aq_ret ?_
            obtain rfl := is_some h
            exact aq_finx (l := [.tmp 2]) (xs := [.bool false]) idn [.bool false] [] rfl (by exact ⟨rfl, trivial⟩) (by exact ⟨ad_ren rfl, trivial⟩) (by exact trivial) rfl (nk rfl) rfl rfl ⟨rfl, rfl⟩
          · obtain ⟨q70, q71⟩ := or_f hb69
            obtain ⟨q72, q73⟩ := or_f q70
            replace h := is_else (ne_t hb69) h
            refine aw_skip ?_
            refine aq_then ?_
            refine aw_seq ?_
            refine aw_region ?_
            refine ao_read trivial (r_move rfl) rfl ?_
            obtain ⟨r74, r74h, h⟩ := is_bind h
            refine ao_scall trivial (scall (c_spec_DrawBestThrows (is_mk r74h)) rfl Try.func19 rfl rfl rfl rfl (fun σ => ⟨ad_ren rfl, trivial⟩)) rfl ?_
            refine ao_read trivial (r_assign rfl) rfl ?_
            refine ao_nil ?_
            refine aq_then ?_
            refine aw_seq ?_
            refine aw_region ?_
            refine ao_read trivial (r_move rfl) rfl ?_
            obtain ⟨r75, r75h, h⟩ := is_bind h
            refine ao_scall trivial (scall (c_impl_BestThrows (is_mk r75h)) rfl Try.func20 rfl rfl rfl rfl (fun σ => ⟨ad_ren rfl, trivial⟩)) rfl ?_
            refine ao_read trivial (r_move rfl) rfl ?_
            refine ao_read trivial (r_extract rfl rfl) rfl ?_
            refine ao_read trivial (r_extract rfl rfl) rfl ?_
            refine ao_read trivial (r_extract rfl rfl) rfl ?_
            refine ao_eff trivial (e_alloc 4 (y := .v (.arr 2 (.int .i64)) ((List.replicate 2 0) : (List Int))) Try.zeroValue35 (fun ρ h M => ra_zero_arr (t := (.int .i64)) rfl) rfl rfl rfl rfl rfl) rfl ?_
            refine ao_read trivial (r_assign rfl) rfl ?_
            refine ao_effS trivial (e_store rfl rfl rfl rfl Try.sizeOf35 rfl) ?_
            refine ao_read trivial (r_assign rfl) rfl ?_
            refine ao_nil ?_
            refine aq_then ?_
            refine aw_seq ?_
            refine aw_seq ?_
            refine aw_region ?_
            refine ao_read trivial (r_move rfl) rfl ?_
            obtain ⟨r76, r76h, h⟩ := is_bind h
            refine ao_scall trivial (scall (c_spec_BestThrows (is_mk r76h)) rfl Try.func21 rfl rfl rfl rfl (fun σ => ⟨ad_ren rfl, trivial⟩)) rfl ?_
            refine ao_read trivial (r_move rfl) rfl ?_
            refine ao_read trivial (r_extract rfl rfl) rfl ?_
            refine ao_read trivial (r_extract rfl rfl) rfl ?_
            refine ao_read trivial (r_extract rfl rfl) rfl ?_
            refine ao_eff trivial (e_alloc 5 (y := .v (.arr 2 (.int .i64)) ((List.replicate 2 0) : (List Int))) Try.zeroValue35 (fun ρ h M => ra_zero_arr (t := (.int .i64)) rfl) rfl rfl rfl rfl rfl) rfl ?_
            refine ao_read trivial (r_assign rfl) rfl ?_
            refine ao_effS trivial (e_store rfl rfl rfl rfl Try.sizeOf35 rfl) ?_
            refine ao_read trivial (r_assign rfl) rfl ?_
            refine ao_nil ?_
            refine aq_then ?_
            refine aw_seq ?_
            refine aw_region ?_
            refine ao_read trivial (r_move rfl) rfl ?_
            refine ao_read trivial (r_move rfl) rfl ?_
            refine ao_read trivial (r_neq rfl rfl) rfl ?_
            refine ao_read trivial (r_move rfl) rfl ?_
            refine ao_readG (x := .v (.arr 2 (.int .i64)) r75.2.1) rfl (GV.F rfl) (fun hg77 => by
                  have q78 := d_t (not_f (not_t hg77))
                  exact r_load_arr rfl Try.isAgg35 Try.sizeOf35 rfl rfl rfl) rfl ?_
            refine ao_readG (x := .v (.arr 2 (.int .i64)) r76.2.1) rfl (GV.F rfl) (fun hg79 => by
                  have q80 := d_t (not_f (not_t hg79))
                  exact r_load_arr rfl Try.isAgg35 Try.sizeOf35 rfl rfl rfl) rfl ?_
            refine ao_readG (x := .bool (!(decide (r75.2.1 = r76.2.1)))) rfl (GV.F rfl) (fun hg81 => by
                  have q82 := d_t (not_f (not_t hg81))
                  exact Reads.strip 179 rfl (hg81) (Reads.strip 180 rfl (hg81) (r_eq_ints Try.underlying35 Try.underlying3 Try.isAgg3 (info_size Try.sizeOf3) (by kernel_rfl) rfl rfl rfl))) rfl ?_
            refine ao_read trivial (r_orB rfl rfl) rfl ?_
            refine ao_read trivial (r_move rfl) rfl ?_
            refine ao_readG (x := .bool r75.2.2) rfl (GV.F rfl) (fun hg83 => by
                  obtain ⟨q84, q85⟩ := or_f (not_t hg83)
                  have q86 := d_t (not_f q84)
                  exact r_move rfl) rfl ?_
            refine ao_readG (x := .bool r76.2.2) rfl (GV.F rfl) (fun hg87 => by
                  obtain ⟨q88, q89⟩ := or_f (not_t hg87)
                  have q90 := d_t (not_f q88)
                  exact r_move rfl) rfl ?_
            refine ao_readG (x := .bool (r75.2.2 != r76.2.2)) rfl (GV.F rfl) (fun hg91 => by
                  obtain ⟨q92, q93⟩ := or_f (not_t hg91)
                  have q94 := d_t (not_f q92)
                  exact Reads.strip 184 rfl (hg91) (Reads.strip 185 rfl (hg91) (r_neq_bool Try.underlying4 rfl rfl))) rfl ?_
            refine ao_read trivial (r_orB rfl rfl) rfl ?_
            refine ao_nil ?_
            refine aq_then ?_
            refine aw_cond rfl (fun hb95 => ?_) (fun hb95 => ?_)
            · replace h := is_if hb95 h
              refine aw_seq ?_
              refine aw_region ?_
              refine ao_read trivial (r_assign rfl) rfl ?_
              refine ao_nil ?_
              refine aq_then ?_
              refine aw_ret ?_
              refine aq_then_ret ?_
              refine aq_ret ?_
              obtain rfl := is_some h
              exact aq_finx (l := [.tmp 2]) (xs := [.bool false]) idn [.bool false] [] rfl (by exact ⟨rfl, trivial⟩) (by exact ⟨ad_ren rfl, trivial⟩) (by exact trivial) rfl (nk rfl) rfl rfl ⟨rfl, rfl⟩
            · obtain ⟨q96, q97⟩ := or_f hb95
              obtain ⟨q98, q99⟩ := or_f q96
              have q100 := d_t (not_f q98)
              replace h := is_else (ne_t hb95) h
              refine aw_skip ?_
              refine aq_then ?_
              refine aw_seq ?_
              refine aw_region ?_
              refine ao_read trivial (r_move rfl) rfl ?_
              obtain ⟨r101, r101h, h⟩ := is_bind h
              refine ao_call [] 6 trivial (c_spec_DrawMakeList (is_mk r101h)) Try.func22 rfl rfl rfl rfl ⟨ad_ren rfl, trivial⟩ trivial rfl rfl rfl rfl rfl rfl rfl (fun r' H' hr => ?_)
              obtain ⟨rfl, rfl⟩ := hr
              refine ao_norm (y := .tup [.int .i64 r101.1, .int .i64 r101.2.1, .os 6]) (H' := [(5, .var [.arr (.int .i64) 2 r76.2.1]), (4, .var [.arr (.int .i64) 2 r75.2.1]), (3, .var [.arr (.int .i64) 2 r56.1]), (2, .var [.arr (.int .i64) 2 r55.1]), (0, .row (.int .i64) r2.2), (1, .row (.int .i64) r30), (6, .row (.int .i64) r101.2.2)]) rfl rfl ?_
              refine row_len_o 6 (r101.2.2.length : Int) rfl rfl (fun hr102 => ?_)
              refine ao_read trivial (r_move rfl) rfl ?_
              refine ao_read trivial (r_extract rfl rfl) rfl ?_
              refine ao_read trivial (r_extract rfl rfl) rfl ?_
              refine ao_read trivial (r_extract rfl rfl) rfl ?_
              refine ao_read trivial (r_assign rfl) rfl ?_
              refine ao_read trivial (r_assign rfl) rfl ?_
              refine ao_read trivial (r_assign rfl) rfl ?_
              refine ao_nil ?_
              refine aq_then ?_
              refine aw_seq ?_
              refine aw_region ?_
              refine ao_read trivial (r_move rfl) rfl ?_
              refine ao_read trivial (r_move rfl) rfl ?_
              refine ao_read trivial (r_move rfl) rfl ?_
              obtain ⟨r103, r103h, h⟩ := is_bind h
              refine ao_call [] 7 trivial (c_impl_MakeList (is_mk r103h)) Try.func23 rfl rfl rfl rfl ⟨ad_ren rfl, ad_ren rfl, ad_os0 rfl, trivial⟩ trivial rfl rfl rfl rfl rfl rfl rfl (fun r' H' hr => ?_)
              obtain ⟨rfl, rfl⟩ := hr
              refine ao_norm (y := .tup [.os 7, .int .i64 r103.2.1, .bool r103.2.2]) (H' := [(5, .var [.arr (.int .i64) 2 r76.2.1]), (4, .var [.arr (.int .i64) 2 r75.2.1]), (3, .var [.arr (.int .i64) 2 r56.1]), (2, .var [.arr (.int .i64) 2 r55.1]), (0, .row (.int .i64) r2.2), (1, .row (.int .i64) r30), (6, .row (.int .i64) r101.2.2), (7, .row (.int .i64) r103.1)]) rfl rfl ?_
              refine row_len_o 7 (r103.1.length : Int) rfl rfl (fun hr104 => ?_)
              refine ao_read trivial (r_move rfl) rfl ?_
              refine ao_read trivial (r_extract rfl rfl) rfl ?_
              refine ao_read trivial (r_extract rfl rfl) rfl ?_
              refine ao_read trivial (r_extract rfl rfl) rfl ?_
              refine ao_read trivial (r_assign rfl) rfl ?_
              refine ao_read trivial (r_assign rfl) rfl ?_
              refine ao_read trivial (r_assign rfl) rfl ?_
              refine ao_nil ?_
              refine aq_then ?_
              refine aw_seq ?_
              refine aw_seq ?_
              refine aw_region ?_
              refine ao_read trivial (r_move rfl) rfl ?_
              refine ao_read trivial (r_move rfl) rfl ?_
              refine ao_read trivial (r_move rfl) rfl ?_
              obtain ⟨r105, r105h, h⟩ := is_bind h
              refine ao_call [] 8 trivial (c_spec_MakeList (is_mk r105h)) Try.func24 rfl rfl rfl rfl ⟨ad_ren rfl, ad_ren rfl, ad_os0 rfl, trivial⟩ trivial rfl rfl rfl rfl rfl rfl rfl (fun r' H' hr => ?_)
              obtain ⟨rfl, rfl⟩ := hr
              refine ao_norm (y := .tup [.os 8, .int .i64 r105.2.1, .bool r105.2.2]) (H' := [(5, .var [.arr (.int .i64) 2 r76.2.1]), (4, .var [.arr (.int .i64) 2 r75.2.1]), (3, .var [.arr (.int .i64) 2 r56.1]), (2, .var [.arr (.int .i64) 2 r55.1]), (0, .row (.int .i64) r2.2), (1, .row (.int .i64) r30), (6, .row (.int .i64) r101.2.2), (7, .row (.int .i64) r103.1), (8, .row (.int .i64) r105.1)]) rfl rfl ?_
              refine row_len_o 8 (r105.1.length : Int) rfl rfl (fun hr106 => ?_)
              refine ao_read trivial (r_move rfl) rfl ?_
              refine ao_read trivial (r_extract rfl rfl) rfl ?_
              refine ao_read trivial (r_extract rfl rfl) rfl ?_
              refine ao_read trivial (r_extract rfl rfl) rfl ?_
              refine ao_read trivial (r_assign rfl) rfl ?_
              refine ao_read trivial (r_assign rfl) rfl ?_
              refine ao_read trivial (r_assign rfl) rfl ?_
              refine ao_nil ?_
              refine aq_then ?_
              refine aw_seq ?_
              refine aw_region ?_
              refine ao_read trivial (r_move rfl) rfl ?_
              refine ao_read trivial (r_move rfl) rfl ?_
              refine ao_read trivial (r_neq rfl rfl) rfl ?_
              refine ao_read trivial (r_move rfl) rfl ?_
              refine ao_readG (x := .bool r103.2.2) rfl (GV.F rfl) (fun hg107 => by
                    have q108 := d_t (not_f (not_t hg107))
                    exact r_move rfl) rfl ?_
              refine ao_readG (x := .bool r105.2.2) rfl (GV.F rfl) (fun hg109 => by
                    have q110 := d_t (not_f (not_t hg109))
                    exact r_move rfl) rfl ?_
              refine ao_readG (x := .bool (r103.2.2 != r105.2.2)) rfl (GV.F rfl) (fun hg111 => by
                    have q112 := d_t (not_f (not_t hg111))
                    exact Reads.strip 214 rfl (hg111) (Reads.strip 215 rfl (hg111) (r_neq_bool Try.underlying4 rfl rfl))) rfl ?_
              refine ao_read trivial (r_orB rfl rfl) rfl ?_
              refine ao_read trivial (r_move rfl) rfl ?_
              refine ao_readG (x := .os 7) rfl (GV.F rfl) (fun hg113 => by
                    obtain ⟨q114, q115⟩ := or_f (not_t hg113)
                    have q116 := d_t (not_f q114)
                    exact r_move rfl) rfl ?_
              refine ao_readG (x := .os 8) rfl (GV.F rfl) (fun hg117 => by
                    obtain ⟨q118, q119⟩ := or_f (not_t hg117)
                    have q120 := d_t (not_f q118)
                    exact r_move rfl) rfl ?_
              refine ao_scallG (r := .bool (p_laws_rInts r103.1 r105.1)) rfl (GV.F rfl) (fun hg121 => by
                    obtain ⟨q122, q123⟩ := or_f (not_t hg121)
                    have q124 := d_t (not_f q122)
                    exact SCall.strip 219 rfl (hg121) (SCall.strip 220 rfl (hg121) (scall (c_laws_rInts (is_mk (rfl : p_laws_rInts r103.1 r105.1 = _))) rfl Try.func25 rfl rfl rfl rfl (fun σ => ⟨ad_os0 rfl, ad_os0 rfl, trivial⟩)))) rfl ?_
              refine ao_readG (x := .bool (!(p_laws_rInts r103.1 r105.1))) rfl (GV.F rfl) (fun hg125 => by
                    obtain ⟨q126, q127⟩ := or_f (not_t hg125)
                    have q128 := d_t (not_f q126)
                    exact Reads.strip 221 rfl (hg125) (r_not rfl)) rfl ?_
              refine ao_read trivial (r_orB rfl rfl) rfl ?_
              refine ao_nil ?_
              refine aq_then ?_
              refine aw_cond rfl (fun hb129 => ?_) (fun hb129 => ?_)
              · replace h := is_if hb129 h
                refine aw_seq ?_
                refine aw_region ?_
                refine ao_read trivial (r_assign rfl) rfl ?_
                refine ao_nil ?_
                refine aq_then ?_
                refine aw_ret ?_
                refine aq_then_ret ?_
                refine aq_ret ?_
                obtain rfl := is_some h
                exact aq_finx (l := [.tmp 2]) (xs := [.bool false]) idn [.bool false] [] rfl (by exact ⟨rfl, trivial⟩) (by exact ⟨ad_ren rfl, trivial⟩) (by exact trivial) rfl (nk rfl) rfl rfl ⟨rfl, rfl⟩
              · obtain ⟨q130, q131⟩ := or_f hb129
                obtain ⟨q132, q133⟩ := or_f q130
                have q134 := d_t (not_f q132)
                replace h := is_else (ne_t hb129) h
                refine aw_skip ?_
                refine aq_then ?_
                refine aw_seq ?_
                refine aw_region ?_
                refine ao_read trivial (r_move rfl) rfl ?_
                obtain ⟨r135, r135h, h⟩ := is_bind h
                refine ao_scall trivial (scall (c_spec_DrawRoomForBits (is_mk r135h)) rfl Try.func26 rfl rfl rfl rfl (fun σ => ⟨ad_ren rfl, trivial⟩)) rfl ?_
                refine ao_read trivial (r_assign rfl) rfl ?_
                refine ao_nil ?_
                refine aq_then ?_
                refine aw_seq ?_
                refine aw_region ?_
                refine ao_read trivial (r_move rfl) rfl ?_
                obtain ⟨r136, r136h, h⟩ := is_bind h
                refine ao_scall trivial (scall (c_impl_RoomForBits (is_mk r136h)) rfl Try.func27 rfl rfl rfl rfl (fun σ => ⟨ad_ren rfl, trivial⟩)) rfl ?_
                refine ao_read trivial (r_move rfl) rfl ?_
                refine ao_read trivial (r_extract rfl rfl) rfl ?_
                refine ao_read trivial (r_extract rfl rfl) rfl ?_
                refine ao_read trivial (r_assign rfl) rfl ?_
                refine ao_read trivial (r_assign rfl) rfl ?_
                refine ao_nil ?_
                refine aq_then ?_
                refine aw_seq ?_
                refine aw_seq ?_
                refine aw_region ?_
                refine ao_read trivial (r_move rfl) rfl ?_
                obtain ⟨r137, r137h, h⟩ := is_bind h
                refine ao_scall trivial (scall (c_spec_RoomForBits (is_mk r137h)) rfl Try.func28 rfl rfl rfl rfl (fun σ => ⟨ad_ren rfl, trivial⟩)) rfl ?_
                refine ao_read trivial (r_move rfl) rfl ?_
                refine ao_read trivial (r_extract rfl rfl) rfl ?_
                refine ao_read trivial (r_extract rfl rfl) rfl ?_
                refine ao_read trivial (r_assign rfl) rfl ?_
                refine ao_read trivial (r_assign rfl) rfl ?_
                refine ao_nil ?_
                refine aq_then ?_
                refine aw_seq ?_
                refine aw_region ?_
                refine ao_read trivial (r_move rfl) rfl ?_
                refine ao_read trivial (r_move rfl) rfl ?_
                refine ao_read trivial (r_neq rfl rfl) rfl ?_
                refine ao_read trivial (r_move rfl) rfl ?_
                refine ao_readG (x := .bool r136.2) rfl (GV.F rfl) (fun hg138 => by
                      have q139 := d_t (not_f (not_t hg138))
                      exact r_move rfl) rfl ?_
                refine ao_readG (x := .bool r137.2) rfl (GV.F rfl) (fun hg140 => by
                      have q141 := d_t (not_f (not_t hg140))
                      exact r_move rfl) rfl ?_
                refine ao_readG (x := .bool (r136.2 != r137.2)) rfl (GV.F rfl) (fun hg142 => by
                      have q143 := d_t (not_f (not_t hg142))
                      exact Reads.strip 240 rfl (hg142) (Reads.strip 241 rfl (hg142) (r_neq_bool Try.underlying4 rfl rfl))) rfl ?_
                refine ao_read trivial (r_orB rfl rfl) rfl ?_
                refine ao_nil ?_
                refine aq_then ?_
                refine aw_cond rfl (fun hb144 => ?_) (fun hb144 => ?_)
                · replace h := is_if hb144 h
                  refine aw_seq ?_
                  refine aw_region ?_
                  refine ao_read trivial (r_assign rfl) rfl ?_
                  refine ao_nil ?_
                  refine aq_then ?_
                  refine aw_ret ?_
                  refine aq_then_ret ?_
                  refine aq_ret ?_
                  obtain rfl := is_some h
                  exact aq_finx (l := [.tmp 2]) (xs := [.bool false]) idn [.bool false] [] rfl (by exact ⟨rfl, trivial⟩) (by exact ⟨ad_ren rfl, trivial⟩) (by exact trivial) rfl (nk rfl) rfl rfl ⟨rfl, rfl⟩
                · obtain ⟨q145, q146⟩ := or_f hb144
                  have q147 := d_t (not_f q145)
                  replace h := is_else (ne_t hb144) h
                  refine aw_skip ?_
                  refine aq_then ?_
                  refine aw_join (fun (s148 : Unit) => [(16, .int .i64 r42.1), (17, .int .i64 r42.2), (18, .int .i64 r43.1), (19, .bool r43.2), (22, .ref 0 0), (26, .int .i64 r74), (27, .int .i64 r75.1), (28, .ref 1 0), (29, .bool r75.2.2), (33, .int .i64 r101.1), (34, .int .i64 r101.2.1), (35, .os 2), (36, .os 3), (37, .int .i64 r103.2.1), (38, .bool r103.2.2)]) (fun (s148 : Unit) => [(0, .var [.arr (.int .i64) 2 r55.1]), (1, .var [.arr (.int .i64) 2 r75.2.1]), (2, .row (.int .i64) r101.2.2), (3, .row (.int .i64) r103.1)]) (fun (s148 : Unit) => True) h (fun s148 hI h => ?_) (fun h j150 => ?_)
                  · refine aw_join (fun (s151 : Unit) => [(26, .int .i64 r74), (27, .int .i64 r75.1), (28, .ref 0 0), (29, .bool r75.2.2), (33, .int .i64 r101.1), (34, .int .i64 r101.2.1), (35, .os 1), (36, .os 2), (37, .int .i64 r103.2.1), (38, .bool r103.2.2)]) (fun (s151 : Unit) => [(0, .var [.arr (.int .i64) 2 r75.2.1]), (1, .row (.int .i64) r101.2.2), (2, .row (.int .i64) r103.1)]) (fun (s151 : Unit) => True) h (fun s151 hI h => ?_) (fun h j153 => ?_)
                    · refine aw_join (fun (s154 : Unit) => [(33, .int .i64 r101.1), (34, .int .i64 r101.2.1), (35, .os 0), (36, .os 1), (37, .int .i64 r103.2.1), (38, .bool r103.2.2)]) (fun (s154 : Unit) => [(0, .row (.int .i64) r101.2.2), (1, .row (.int .i64) r103.1)]) (fun (s154 : Unit) => True) h (fun s154 hI h => ?_) (fun h j156 => ?_)
                      · refine aw_seq ?_
                        refine aw_seq ?_
                        refine aw_region ?_
                        refine ao_read trivial (r_move rfl) rfl ?_
                        refine ao_nil ?_
                        refine aq_then ?_
                        refine aw_cond rfl (fun hb157 => ?_) (fun hb157 => ?_)
                        · replace h := is_if hb157 h
                          refine aw_seq ?_
                          refine aw_seq ?_
                          refine aw_region ?_
                          refine ao_read trivial (r_move rfl) rfl ?_
                          refine ao_read trivial (r_move rfl) rfl ?_
                          refine ao_read trivial (r_len_osm (r103.1.length : Int) Try.underlying24 rfl rfl rfl) rfl ?_
                          refine ao_read trivial (r_move rfl) rfl ?_
                          refine ao_read trivial (r_add rfl rfl) rfl ?_
                          refine ao_read trivial (r_mul rfl rfl) rfl ?_
                          refine ao_read trivial (r_move rfl) rfl ?_
                          refine ao_read trivial (r_len_osm (r101.2.2.length : Int) Try.underlying24 rfl rfl rfl) rfl ?_
                          refine ao_read trivial (r_gtr rfl rfl) rfl ?_
                          refine ao_read trivial (r_move rfl) rfl ?_
                          refine ao_readG (x := .int .i64 r101.2.1) rfl (GV.F rfl) (fun hg158 => by
                                have q159 := d_f (not_t hg158)
                                exact r_move rfl) rfl ?_
                          refine ao_readG (x := .os 1) rfl (GV.F rfl) (fun hg160 => by
                                have q161 := d_f (not_t hg160)
                                exact r_move rfl) rfl ?_
                          refine ao_readG (x := .int .i64 (r103.1.length : Int)) rfl (GV.F rfl) (fun hg162 => by
                                have q163 := d_f (not_t hg162)
                                exact Reads.strip 382 rfl (hg162) (r_len_osm (r103.1.length : Int) Try.underlying24 rfl rfl rfl)) rfl ?_
                          refine ao_readG (x := .int .i64 r103.2.1) rfl (GV.F rfl) (fun hg164 => by
                                have q165 := d_f (not_t hg164)
                                exact r_move rfl) rfl ?_
                          refine ao_readG (x := .int .i64 (IntKind.wrap .i64 ((r103.1.length : Int) + r103.2.1))) rfl (GV.F rfl) (fun hg166 => by
                                have q167 := d_f (not_t hg166)
                                exact Reads.strip 383 rfl (hg166) (Reads.strip 384 rfl (hg166) (r_add rfl rfl))) rfl ?_
                          refine ao_readG (x := .int .i64 (IntKind.wrap .i64 ((IntKind.wrap .i64 ((r103.1.length : Int) + r103.2.1)) + 1))) rfl (GV.F rfl) (fun hg168 => by
                                have q169 := d_f (not_t hg168)
                                exact Reads.strip 385 rfl (hg168) (r_add rfl rfl)) rfl ?_
                          refine ao_readG (x := .int .i64 (IntKind.wrap .i64 (r101.2.1 * (IntKind.wrap .i64 ((IntKind.wrap .i64 ((r103.1.length : Int) + r103.2.1)) + 1))))) rfl (GV.F rfl) (fun hg170 => by
                                have q171 := d_f (not_t hg170)
                                exact Reads.strip 381 rfl (hg170) (Reads.strip 386 rfl (hg170) (r_mul rfl rfl))) rfl ?_
                          refine ao_readG (x := .os 0) rfl (GV.F rfl) (fun hg172 => by
                                have q173 := d_f (not_t hg172)
                                exact r_move rfl) rfl ?_
                          refine ao_readG (x := .int .i64 (r101.2.2.length : Int)) rfl (GV.F rfl) (fun hg174 => by
                                have q175 := d_f (not_t hg174)
                                exact Reads.strip 388 rfl (hg174) (r_len_osm (r101.2.2.length : Int) Try.underlying24 rfl rfl rfl)) rfl ?_
                          refine ao_readG (x := .bool (decide ((IntKind.wrap .i64 (r101.2.1 * (IntKind.wrap .i64 ((IntKind.wrap .i64 ((r103.1.length : Int) + r103.2.1)) + 1)))) ≤ (r101.2.2.length : Int)))) rfl (GV.F rfl) (fun hg176 => by
                                have q177 := d_f (not_t hg176)
                                exact Reads.strip 387 rfl (hg176) (Reads.strip 389 rfl (hg176) (r_leq rfl rfl))) rfl ?_
                          refine ao_read trivial (r_orB rfl rfl) rfl ?_
                          refine ao_nil ?_
                          refine aq_then ?_
                          refine aw_cond rfl (fun hb178 => ?_) (fun hb178 => ?_)
                          · replace h := is_if hb178 h
                            refine aw_seq ?_
                            refine aw_region ?_
                            refine ao_read trivial (r_assign rfl) rfl ?_
                            refine ao_nil ?_
                            refine aq_then ?_
                            refine aw_ret ?_
                            refine aq_then_ret ?_
                            refine aq_then_ret ?_
                            refine aq_ret ?_
                            obtain rfl := is_some h
                            exact aq_finx (l := [.tmp 2]) (xs := [.bool false]) idn [.bool false] [] rfl (by exact ⟨rfl, trivial⟩) (by exact ⟨ad_ren rfl, trivial⟩) (by exact trivial) rfl (nk rfl) rfl rfl ⟨rfl, rfl⟩
                          · obtain ⟨q179, q180⟩ := or_f hb178
                            have q181 := d_f q179
                            have q182 := d_f q180
                            replace h := is_else (ne_t hb178) h
                            refine aw_skip ?_
                            refine aq_then ?_
                            refine aw_seq ?_
                            refine aw_region ?_
                            refine ao_read trivial (r_assign rfl) rfl ?_
                            refine ao_nil ?_
                            refine aq_then ?_
                            refine aw_block ?_
                            refine aw_loop (AL.sub (fr' := [(33, .int .i64 r101.1), (36, .os 0), (56, .int .i64 0)]) (H' := [(0, .row (.int .i64) r103.1)]) (sub_mk (rn [(0, 1)]) (by exact ⟨⟨_, rfl, ad_ren rfl⟩, ⟨_, rfl, ad_ren rfl⟩, ⟨_, rfl, ad_ren rfl⟩, trivial⟩) (by exact ⟨⟨_, rfl, rfl⟩, trivial⟩) (by rfl) (nk rfl)) (al_cnt (fun i184 (s183 : Unit) => [(33, .int .i64 r101.1), (36, .os 0), (56, .int .i64 i184)]) (fun i184 (s183 : Unit) => [(0, .row (.int .i64) r103.1)]) (fun d i184 (s183 : Unit) => d = Int.toNat ((r103.1.length : Int) - i184) ∧ 0 ≤ i184 ∧ i184 ≤ (r103.1.length : Int)) h ⟨rfl, (by (try simp only [List.length_set, List.length_append, List.length_cons, List.length_nil, List.length_replicate, List.length_take, List.length_drop]) <;> omega), (by (try simp only [List.length_set, List.length_append, List.length_cons, List.length_nil, List.length_replicate, List.length_take, List.length_drop]) <;> omega)⟩ (fun d185 i184 s183 hI h ih185 => ?_)))
                            obtain ⟨hd, _, _⟩ := hI
                            refine al_round ?_
                            refine aw_seq ?_
                            refine aw_seq ?_
                            refine aw_region ?_
                            refine ao_read trivial (r_move rfl) rfl ?_
                            refine ao_read trivial (r_move rfl) rfl ?_
                            refine ao_read trivial (r_len_osm (r103.1.length : Int) Try.underlying24 rfl rfl rfl) rfl ?_
                            refine ao_read trivial (r_lss rfl rfl) rfl ?_
                            refine ao_nil ?_
                            refine aq_then ?_
                            refine aw_cond rfl (fun hb187 => ?_) (fun hb187 => ?_)
                            · have q188 := d_t hb187
                              obtain ⟨d185, rfl⟩ : ∃ e, d185 = e + 1 := ⟨d185 - 1, by omega⟩
                              replace h := is_cntS h
                              refine aw_skip ?_
                              refine aq_then ?_
                              refine aw_seq ?_
                              refine aw_block ?_
                              refine aw_seq ?_
                              refine aw_region ?_
                              refine ao_read trivial (r_move rfl) rfl ?_
                              refine ao_read trivial (r_move rfl) rfl ?_
                              refine ao_read trivial (r_idxAddr_os Try.underlying24 Try.sizeOf3 rfl rfl rfl (by omega) (show i184 < (r103.1.length : Int) from by omega)) rfl ?_
                              refine ao_read trivial (r_load_elem_int Try.isAgg3 Try.sizeOf3 rfl rfl (show i184.toNat < r103.1.length from by omega)) rfl ?_
                              refine ao_read trivial (r_lss rfl rfl) rfl ?_
                              refine ao_read trivial (r_move rfl) rfl ?_
                              refine ao_readG (x := .os 0) rfl (GV.F rfl) (fun hg190 => by
                                    have q191 : ¬ ((r103.1.getD i184.toNat 0) < 0) := d_f (not_t hg190)
                                    exact r_move rfl) rfl ?_
                              refine ao_readG (x := .int .i64 i184) rfl (GV.F rfl) (fun hg192 => by
                                    have q193 : ¬ ((r103.1.getD i184.toNat 0) < 0) := d_f (not_t hg192)
                                    exact r_move rfl) rfl ?_
                              refine ao_readG (x := .elem 0 0 1 i184.toNat) rfl (GV.F rfl) (fun hg194 => by
                                    have q195 : ¬ ((r103.1.getD i184.toNat 0) < 0) := d_f (not_t hg194)
                                    exact Reads.strip 404 rfl (hg194) (Reads.strip 405 rfl (hg194) (r_idxAddr_os Try.underlying24 Try.sizeOf3 rfl rfl rfl (by omega) (show i184 < (r103.1.length : Int) from by omega)))) rfl ?_
                              refine ao_readG (x := .int .i64 (r103.1.getD i184.toNat 0)) rfl (GV.F rfl) (fun hg196 => by
                                    have q197 : ¬ ((r103.1.getD i184.toNat 0) < 0) := d_f (not_t hg196)
                                    exact Reads.strip 406 rfl (hg196) (r_load_elem_int Try.isAgg3 Try.sizeOf3 rfl rfl (show i184.toNat < r103.1.length from by omega))) rfl ?_
                              refine ao_readG (x := .int .i64 r101.1) rfl (GV.F rfl) (fun hg198 => by
                                    have q199 : ¬ ((r103.1.getD i184.toNat 0) < 0) := d_f (not_t hg198)
                                    exact r_move rfl) rfl ?_
                              refine ao_readG (x := .bool (decide (r101.1 ≤ (r103.1.getD i184.toNat 0)))) rfl (GV.F rfl) (fun hg200 => by
                                    have q201 : ¬ ((r103.1.getD i184.toNat 0) < 0) := d_f (not_t hg200)
                                    exact Reads.strip 407 rfl (hg200) (Reads.strip 408 rfl (hg200) (r_geq rfl rfl))) rfl ?_
                              refine ao_read trivial (r_orB rfl rfl) rfl ?_
                              refine ao_nil ?_
                              refine aq_then ?_
                              refine aw_cond rfl (fun hb202 => ?_) (fun hb202 => ?_)
                              · replace h := is_if hb202 h
                                refine aw_seq ?_
                                refine aw_region ?_
                                refine ao_read trivial (r_assign rfl) rfl ?_
                                refine ao_nil ?_
                                refine aq_then ?_
                                refine aw_ret ?_
                                refine aq_in_ret ?_
                                refine aq_then_ret ?_
                                refine aq_then_ret ?_
                                refine aq_in_ret ?_
                                refine aq_then_ret ?_
                                refine aq_ret ?_
                                obtain rfl := is_some h
                                exact aq_finx (l := [.tmp 2]) (xs := [.bool false]) idn [.bool false] [] rfl (by exact ⟨rfl, trivial⟩) (by exact ⟨ad_ren rfl, trivial⟩) (by exact trivial) rfl (nk rfl) rfl rfl ⟨rfl, rfl⟩
                              · obtain ⟨q203, q204⟩ := or_f hb202
                                have q205 : ¬ ((r103.1.getD i184.toNat 0) < 0) := d_f q203
                                have q206 : ¬ (r101.1 ≤ (r103.1.getD i184.toNat 0)) := d_f q204
                                replace h := is_else (ne_t hb202) h
                                refine aw_skip ?_
                                refine aq_in ?_
                                refine aq_then ?_
                                refine aw_region ?_
                                refine ao_read trivial (r_move rfl) rfl ?_
                                refine ao_read trivial (r_addI rfl rfl (wrap_id (by omega) (by omega))) rfl ?_
                                refine ao_read trivial (r_assign rfl) rfl ?_
                                refine ao_nil ?_
                                exact aq_again (AL.sub (sub_mk idn (by exact ⟨⟨_, rfl, ad_ren rfl⟩, ⟨_, rfl, ad_ren rfl⟩, ⟨_, rfl, ad_ren rfl⟩, trivial⟩) (by exact ⟨⟨_, rfl, rfl⟩, trivial⟩) (by rfl) (nk rfl)) (ih185 d185 (i184 + 1) () (by omega) ⟨by omega, (by (try simp only [List.length_set, List.length_append, List.length_cons, List.length_nil, List.length_replicate, List.length_take, List.length_drop]) <;> omega), (by (try simp only [List.length_set, List.length_append, List.length_cons, List.length_nil, List.length_replicate, List.length_take, List.length_drop]) <;> omega)⟩ h))
                            · have q189 := d_f hb187
                              obtain rfl : d185 = 0 := by omega
                              replace h := is_cnt0 h
                              refine aw_exit ?_
                              refine aq_then_exit ?_
                              refine aq_then_exit ?_
                              refine aq_in_exit ?_
                              refine aq_then ?_
                              refine aw_seq ?_
                              refine aw_region ?_
                              refine ao_read trivial (r_assign rfl) rfl ?_
                              refine ao_nil ?_
                              refine aq_then ?_
                              refine aw_ret ?_
                              refine aq_ret ?_
                              obtain rfl := is_some h
                              exact aq_finx (l := [.tmp 2]) (xs := [.bool true]) idn [.bool true] [] rfl (by exact ⟨rfl, trivial⟩) (by exact ⟨ad_ren rfl, trivial⟩) (by exact trivial) rfl (nk rfl) rfl rfl ⟨rfl, rfl⟩
                        · replace h := is_else (ne_t hb157) h
                          refine aw_skip ?_
                          refine aq_then ?_
                          refine aw_seq ?_
                          refine aw_region ?_
                          refine ao_read trivial (r_assign rfl) rfl ?_
                          refine ao_nil ?_
                          refine aq_then ?_
                          refine aw_ret ?_
                          refine aq_ret ?_
                          obtain rfl := is_some h
                          exact aq_finx (l := [.tmp 2]) (xs := [.bool true]) idn [.bool true] [] rfl (by exact ⟨rfl, trivial⟩) (by exact ⟨ad_ren rfl, trivial⟩) (by exact trivial) rfl (nk rfl) rfl rfl ⟨rfl, rfl⟩
                      · refine aw_seq ?_
                        refine aw_region ?_
                        refine ao_read trivial (r_move rfl) rfl ?_
                        refine ao_nil ?_
                        refine aq_then ?_
                        refine aw_cond rfl (fun hb207 => ?_) (fun hb207 => ?_)
                        · replace h := is_if hb207 h
                          refine aw_seq ?_
                          refine aw_region ?_
                          refine ao_read trivial (r_assign rfl) rfl ?_
                          refine ao_nil ?_
                          refine aq_then ?_
                          refine aw_block ?_
                          refine aw_loop (AL.sub (sub_mk idn (by exact ⟨⟨_, rfl, ad_ren rfl⟩, ⟨_, rfl, ad_ren rfl⟩, ⟨_, rfl, ad_ren rfl⟩, ⟨_, rfl, ad_ren rfl⟩, ⟨_, rfl, ad_ren rfl⟩, ⟨_, rfl, ad_ren rfl⟩, ⟨_, rfl, ad_ren rfl⟩, ⟨_, rfl, ad_ren rfl⟩, ⟨_, rfl, ad_ren rfl⟩, ⟨_, rfl, ad_ren rfl⟩, trivial⟩) (by exact ⟨⟨_, rfl, ⟨rfl, trivial⟩⟩, ⟨_, rfl, rfl⟩, ⟨_, rfl, rfl⟩, trivial⟩) (by rfl) (nk rfl)) (al_whl (fun (s208 : Int) => [(26, .int .i64 r74), (27, .int .i64 r75.1), (28, .ref 0 0), (33, .int .i64 r101.1), (34, .int .i64 r101.2.1), (35, .os 1), (36, .os 2), (37, .int .i64 r103.2.1), (38, .bool r103.2.2), (53, .int .i64 s208)]) (fun (s208 : Int) => [(0, .var [.arr (.int .i64) 2 r75.2.1]), (1, .row (.int .i64) r101.2.2), (2, .row (.int .i64) r103.1)]) (fun (s208 : Int) => 1 ≤ s208) h (by (try simp only [List.length_set, List.length_append, List.length_cons, List.length_nil, List.length_replicate, List.length_take, List.length_drop]) <;> omega) (fun d210 s208 hI h ih210 => ?_)))
                          replace h := is_whlS h
                          refine al_round ?_
                          refine aw_seq ?_
                          refine aw_seq ?_
                          refine aw_region ?_
                          refine ao_read trivial (r_move rfl) rfl ?_
                          refine ao_read trivial (r_leq rfl rfl) rfl ?_
                          refine ao_nil ?_
                          refine aq_then ?_
                          refine aw_cond rfl (fun hb212 => ?_) (fun hb212 => ?_)
                          · have q213 := d_t hb212
                            replace h := is_if (d_t hb212) h
                            refine aw_skip ?_
                            refine aq_then ?_
                            refine aw_seq ?_
                            refine aw_block ?_
                            refine aw_seq ?_
                            refine aw_region ?_
                            refine ao_read trivial (r_move rfl) rfl ?_
                            refine ao_read trivial (r_move rfl) rfl ?_
                            obtain ⟨r215, r215h, h⟩ := is_bind h
                            refine ao_scall trivial (scall (c_impl_MeanThrows (is_mk r215h)) rfl Try.func17 rfl rfl rfl rfl (fun σ => ⟨ad_ren rfl, ad_ren rfl, trivial⟩)) rfl ?_
                            refine ao_read trivial (r_move rfl) rfl ?_
                            refine ao_read trivial (r_extract rfl rfl) rfl ?_
                            refine ao_read trivial (r_extract rfl rfl) rfl ?_
                            refine ao_eff trivial (e_alloc 3 (y := .v (.arr 2 (.int .i64)) ((List.replicate 2 0) : (List Int))) Try.zeroValue35 (fun ρ h M => ra_zero_arr (t := (.int .i64)) rfl) rfl rfl rfl rfl rfl) rfl ?_
                            refine ao_effS trivial (e_store rfl rfl rfl rfl Try.sizeOf35 rfl) ?_
                            refine ao_read trivial (r_assign rfl) rfl ?_
                            refine ao_nil ?_
                            refine aq_then ?_
                            refine aw_seq ?_
                            refine aw_region ?_
                            refine ao_read trivial (r_move rfl) rfl ?_
                            refine ao_read trivial (r_move rfl) rfl ?_
                            refine ao_readG (x := .elem 3 0 1 0) rfl (GV.T rfl) (fun hg216 => r_idxAddr_arr (i := 0) Try.underlying35 Try.sizeOf3 rfl rfl (by omega) (by omega)) rfl ?_
                            refine ao_readG (x := .int .i64 (r215.1.getD 0 0)) rfl (GV.T rfl) (fun hg217 => Reads.strip 348 rfl (hg217) (r_load_elema_int Try.isAgg3 Try.sizeOf3 rfl rfl rfl (by omega))) rfl ?_
                            refine ao_readG (x := .elem 0 0 1 1) rfl (GV.T rfl) (fun hg218 => r_idxAddr_arr (i := 1) Try.underlying35 Try.sizeOf3 rfl rfl (by omega) (by omega)) rfl ?_
                            refine ao_readG (x := .int .i64 (r75.2.1.getD 1 0)) rfl (GV.T rfl) (fun hg219 => Reads.strip 350 rfl (hg219) (r_load_elema_int Try.isAgg3 Try.sizeOf3 rfl rfl rfl (by omega))) rfl ?_
                            refine ao_readG (x := .int .i64 (IntKind.wrap .i64 ((r215.1.getD 0 0) * (r75.2.1.getD 1 0)))) rfl (GV.T rfl) (fun hg220 => Reads.strip 349 rfl (hg220) (Reads.strip 351 rfl (hg220) (r_mul rfl rfl))) rfl ?_
                            refine ao_readG (x := .elem 0 0 1 0) rfl (GV.T rfl) (fun hg221 => r_idxAddr_arr (i := 0) Try.underlying35 Try.sizeOf3 rfl rfl (by omega) (by omega)) rfl ?_
                            refine ao_readG (x := .int .i64 (r75.2.1.getD 0 0)) rfl (GV.T rfl) (fun hg222 => Reads.strip 353 rfl (hg222) (r_load_elema_int Try.isAgg3 Try.sizeOf3 rfl rfl rfl (by omega))) rfl ?_
                            refine ao_readG (x := .elem 3 0 1 1) rfl (GV.T rfl) (fun hg223 => r_idxAddr_arr (i := 1) Try.underlying35 Try.sizeOf3 rfl rfl (by omega) (by omega)) rfl ?_
                            refine ao_readG (x := .int .i64 (r215.1.getD 1 0)) rfl (GV.T rfl) (fun hg224 => Reads.strip 355 rfl (hg224) (r_load_elema_int Try.isAgg3 Try.sizeOf3 rfl rfl rfl (by omega))) rfl ?_
                            refine ao_readG (x := .int .i64 (IntKind.wrap .i64 ((r75.2.1.getD 0 0) * (r215.1.getD 1 0)))) rfl (GV.T rfl) (fun hg225 => Reads.strip 354 rfl (hg225) (Reads.strip 356 rfl (hg225) (r_mul rfl rfl))) rfl ?_
                            refine ao_readG (x := .bool (decide ((IntKind.wrap .i64 ((r215.1.getD 0 0) * (r75.2.1.getD 1 0))) < (IntKind.wrap .i64 ((r75.2.1.getD 0 0) * (r215.1.getD 1 0)))))) rfl (GV.T rfl) (fun hg226 => Reads.strip 352 rfl (hg226) (Reads.strip 357 rfl (hg226) (r_lss rfl rfl))) rfl ?_
                            refine ao_readG (x := .bool (decide ((IntKind.wrap .i64 ((r215.1.getD 0 0) * (r75.2.1.getD 1 0))) < (IntKind.wrap .i64 ((r75.2.1.getD 0 0) * (r215.1.getD 1 0)))))) rfl (GV.T rfl) (fun hg227 => Reads.strip 358 rfl (hg227) (r_move rfl)) rfl ?_
                            refine ao_readG (x := .int .i64 s208) rfl (GV.gF rfl) (fun hg228 => by
                                  obtain ⟨q229, q230⟩ := and_t hg228
                                  have q231 : ¬ ((IntKind.wrap .i64 ((r215.1.getD 0 0) * (r75.2.1.getD 1 0))) < (IntKind.wrap .i64 ((r75.2.1.getD 0 0) * (r215.1.getD 1 0)))) := d_f (not_t q230)
                                  exact r_move rfl) rfl ?_
                            refine ao_readG (x := .int .i64 r75.1) rfl (GV.gF rfl) (fun hg232 => by
                                  obtain ⟨q233, q234⟩ := and_t hg232
                                  have q235 : ¬ ((IntKind.wrap .i64 ((r215.1.getD 0 0) * (r75.2.1.getD 1 0))) < (IntKind.wrap .i64 ((r75.2.1.getD 0 0) * (r215.1.getD 1 0)))) := d_f (not_t q234)
                                  exact r_move rfl) rfl ?_
                            refine ao_readG (x := .bool (decide (s208 < r75.1))) rfl (GV.gF rfl) (fun hg236 => by
                                  obtain ⟨q237, q238⟩ := and_t hg236
                                  have q239 : ¬ ((IntKind.wrap .i64 ((r215.1.getD 0 0) * (r75.2.1.getD 1 0))) < (IntKind.wrap .i64 ((r75.2.1.getD 0 0) * (r215.1.getD 1 0)))) := d_f (not_t q238)
                                  exact Reads.strip 360 rfl (hg236) (Reads.strip 361 rfl (hg236) (r_lss rfl rfl))) rfl ?_
                            refine ao_readG (x := .bool (decide (s208 < r75.1))) rfl (GV.gF rfl) (fun hg240 => by
                                  obtain ⟨q241, q242⟩ := and_t hg240
                                  have q243 : ¬ ((IntKind.wrap .i64 ((r215.1.getD 0 0) * (r75.2.1.getD 1 0))) < (IntKind.wrap .i64 ((r75.2.1.getD 0 0) * (r215.1.getD 1 0)))) := d_f (not_t q242)
                                  exact Reads.strip 362 rfl (hg240) (r_move rfl)) rfl ?_
                            refine ao_readG (x := .v (.arr 2 (.int .i64)) r215.1) rfl (GV.gT rfl) (fun hg244 => by
                                  obtain ⟨q245, q246⟩ := and_t hg244
                                  obtain ⟨q247, q248⟩ := and_t q245
                                  have q249 : ¬ ((IntKind.wrap .i64 ((r215.1.getD 0 0) * (r75.2.1.getD 1 0))) < (IntKind.wrap .i64 ((r75.2.1.getD 0 0) * (r215.1.getD 1 0)))) := d_f (not_t q248)
                                  have q250 := d_t q246
                                  exact r_load_arr rfl Try.isAgg35 Try.sizeOf35 rfl rfl rfl) rfl ?_
                            refine ao_readG (x := .v (.arr 2 (.int .i64)) r75.2.1) rfl (GV.gT rfl) (fun hg251 => by
                                  obtain ⟨q252, q253⟩ := and_t hg251
                                  obtain ⟨q254, q255⟩ := and_t q252
                                  have q256 : ¬ ((IntKind.wrap .i64 ((r215.1.getD 0 0) * (r75.2.1.getD 1 0))) < (IntKind.wrap .i64 ((r75.2.1.getD 0 0) * (r215.1.getD 1 0)))) := d_f (not_t q255)
                                  have q257 := d_t q253
                                  exact r_load_arr rfl Try.isAgg35 Try.sizeOf35 rfl rfl rfl) rfl ?_
                            refine ao_readG (x := .bool (decide (r215.1 = r75.2.1))) rfl (GV.gT rfl) (fun hg258 => by
                                  obtain ⟨q259, q260⟩ := and_t hg258
                                  obtain ⟨q261, q262⟩ := and_t q259
                                  have q263 : ¬ ((IntKind.wrap .i64 ((r215.1.getD 0 0) * (r75.2.1.getD 1 0))) < (IntKind.wrap .i64 ((r75.2.1.getD 0 0) * (r215.1.getD 1 0)))) := d_f (not_t q262)
                                  have q264 := d_t q260
                                  exact Reads.strip 364 rfl (hg258) (Reads.strip 365 rfl (hg258) (r_eq_ints Try.underlying35 Try.underlying3 Try.isAgg3 (info_size Try.sizeOf3) (by kernel_rfl) rfl rfl rfl))) rfl ?_
                            refine ao_readG (x := .bool ((decide (s208 < r75.1)) && (decide (r215.1 = r75.2.1)))) rfl (GV.gF rfl) (fun hg265 => by
                                  obtain ⟨q266, q267⟩ := and_t hg265
                                  have q268 : ¬ ((IntKind.wrap .i64 ((r215.1.getD 0 0) * (r75.2.1.getD 1 0))) < (IntKind.wrap .i64 ((r75.2.1.getD 0 0) * (r215.1.getD 1 0)))) := d_f (not_t q267)
                                  exact Reads.strip 363 rfl (hg265) (r_andBg rfl rfl (tr_and (hg265)))) rfl ?_
                            refine ao_readG (x := .bool ((decide ((IntKind.wrap .i64 ((r215.1.getD 0 0) * (r75.2.1.getD 1 0))) < (IntKind.wrap .i64 ((r75.2.1.getD 0 0) * (r215.1.getD 1 0))))) || ((decide (s208 < r75.1)) && (decide (r215.1 = r75.2.1))))) rfl (GV.T rfl) (fun hg269 => Reads.strip 359 rfl (hg269) (r_orBg rfl rfl (tr_and (hg269)))) rfl ?_
                            refine ao_read trivial (r_andB rfl rfl) rfl ?_
                            refine ao_nil ?_
                            refine aq_then ?_
                            refine aw_cond rfl (fun hb270 => ?_) (fun hb270 => ?_)
                            · obtain ⟨q271, q272⟩ := and_t hb270
                              replace h := is_if hb270 h
                              refine aw_seq ?_
                              refine aw_region ?_
                              refine ao_read trivial (r_assign rfl) rfl ?_
                              refine ao_nil ?_
                              refine aq_then ?_
                              refine aw_ret ?_
                              refine aq_in_ret ?_
                              refine aq_then_ret ?_
                              refine aq_then_ret ?_
                              refine aq_in_ret ?_
                              refine aq_then_ret ?_
                              refine aq_ret ?_
                              obtain rfl := is_some h
                              exact aq_finx (l := [.tmp 2]) (xs := [.bool false]) idn [.bool false] [] rfl (by exact ⟨rfl, trivial⟩) (by exact ⟨ad_ren rfl, trivial⟩) (by exact trivial) rfl (nk rfl) rfl rfl ⟨rfl, rfl⟩
                            · replace h := is_else (ne_t hb270) h
                              refine aw_skip ?_
                              refine aq_in ?_
                              refine aq_then ?_
                              refine aw_region ?_
                              refine ao_read trivial (r_move rfl) rfl ?_
                              refine ao_read trivial (r_addI rfl rfl (wrap_id (by omega) (by omega))) rfl ?_
                              refine ao_read trivial (r_assign rfl) rfl ?_
                              refine ao_nil ?_
                              exact aq_again (AL.sub (sub_mk idn (by exact ⟨⟨_, rfl, ad_ren rfl⟩, ⟨_, rfl, ad_ren rfl⟩, ⟨_, rfl, ad_ren rfl⟩, ⟨_, rfl, ad_ren rfl⟩, ⟨_, rfl, ad_ren rfl⟩, ⟨_, rfl, ad_ren rfl⟩, ⟨_, rfl, ad_ren rfl⟩, ⟨_, rfl, ad_ren rfl⟩, ⟨_, rfl, ad_ren rfl⟩, ⟨_, rfl, ad_ren rfl⟩, trivial⟩) (by exact ⟨⟨_, rfl, ⟨rfl, trivial⟩⟩, ⟨_, rfl, rfl⟩, ⟨_, rfl, rfl⟩, trivial⟩) (by rfl) (nk rfl)) (ih210 (s208 + 1) (by (try simp only [List.length_set, List.length_append, List.length_cons, List.length_nil, List.length_replicate, List.length_take, List.length_drop]) <;> omega) h))
                          · have q214 := d_f hb212
                            replace h := is_else (d_f hb212) h
                            refine aw_exit ?_
                            refine aq_then_exit ?_
                            refine aq_then_exit ?_
                            refine aq_in_exit ?_
                            exact aq_then (AW.sub (sub_mk (rn [(0, 1), (1, 2)]) (by exact ⟨⟨_, rfl, ad_ren rfl⟩, ⟨_, rfl, ad_ren rfl⟩, ⟨_, rfl, ad_ren rfl⟩, ⟨_, rfl, ad_ren rfl⟩, ⟨_, rfl, ad_ren rfl⟩, ⟨_, rfl, ad_ren rfl⟩, trivial⟩) (by exact ⟨⟨_, rfl, rfl⟩, ⟨_, rfl, rfl⟩, trivial⟩) (by rfl) (nk rfl)) (j156 () trivial h))
                        · replace h := is_else (ne_t hb207) h
                          refine aw_skip ?_
                          exact aq_then (AW.sub (sub_mk (rn [(0, 1), (1, 2)]) (by exact ⟨⟨_, rfl, ad_ren rfl⟩, ⟨_, rfl, ad_ren rfl⟩, ⟨_, rfl, ad_ren rfl⟩, ⟨_, rfl, ad_ren rfl⟩, ⟨_, rfl, ad_ren rfl⟩, ⟨_, rfl, ad_ren rfl⟩, trivial⟩) (by exact ⟨⟨_, rfl, rfl⟩, ⟨_, rfl, rfl⟩, trivial⟩) (by rfl) (nk rfl)) (j156 () trivial h))
                    · refine aw_seq ?_
                      refine aw_region ?_
                      refine ao_read trivial (r_move rfl) rfl ?_
                      refine ao_nil ?_
                      refine aq_then ?_
                      refine aw_cond rfl (fun hb273 => ?_) (fun hb273 => ?_)
                      · replace h := is_if hb273 h
                        refine aw_seq ?_
                        refine aw_region ?_
                        refine ao_read trivial (r_assign rfl) rfl ?_
                        refine ao_nil ?_
                        refine aq_then ?_
                        refine aw_seq ?_
                        refine aw_seq ?_
                        refine aw_region ?_
                        refine ao_read trivial (r_assign rfl) rfl ?_
                        refine ao_nil ?_
                        refine aq_then ?_
                        refine aw_block ?_
                        refine aw_loop (AL.sub (sub_mk idn (by exact ⟨⟨_, rfl, ad_ren rfl⟩, ⟨_, rfl, ad_ren rfl⟩, ⟨_, rfl, ad_ren rfl⟩, ⟨_, rfl, ad_ren rfl⟩, ⟨_, rfl, ad_ren rfl⟩, ⟨_, rfl, ad_ren rfl⟩, ⟨_, rfl, ad_ren rfl⟩, ⟨_, rfl, ad_ren rfl⟩, ⟨_, rfl, ad_ren rfl⟩, ⟨_, rfl, ad_ren rfl⟩, ⟨_, rfl, ad_ren rfl⟩, ⟨_, rfl, ad_ren rfl⟩, ⟨_, rfl, ad_ren rfl⟩, ⟨_, rfl, ad_ren rfl⟩, ⟨_, rfl, ad_ren rfl⟩, ⟨_, rfl, ad_ren rfl⟩, trivial⟩) (by exact ⟨⟨_, rfl, ⟨rfl, trivial⟩⟩, ⟨_, rfl, ⟨rfl, trivial⟩⟩, ⟨_, rfl, rfl⟩, ⟨_, rfl, rfl⟩, trivial⟩) (by rfl) (nk rfl)) (al_whl (fun (s274 : Int × Int) => [(16, .int .i64 r42.1), (17, .int .i64 r42.2), (18, .int .i64 r43.1), (22, .ref 0 0), (26, .int .i64 r74), (27, .int .i64 r75.1), (28, .ref 1 0), (29, .bool r75.2.2), (33, .int .i64 r101.1), (34, .int .i64 r101.2.1), (35, .os 2), (36, .os 3), (37, .int .i64 r103.2.1), (38, .bool r103.2.2), (51, .int .i64 s274.1), (52, .int .i64 s274.2)]) (fun (s274 : Int × Int) => [(0, .var [.arr (.int .i64) 2 r55.1]), (1, .var [.arr (.int .i64) 2 r75.2.1]), (2, .row (.int .i64) r101.2.2), (3, .row (.int .i64) r103.1)]) (fun (s274 : Int × Int) => True) h trivial (fun d276 s274 hI h ih276 => ?_)))
                        replace h := is_whlS h
                        refine al_round ?_
                        refine aw_seq ?_
                        refine aw_seq ?_
                        refine aw_region ?_
                        refine ao_read trivial (r_move rfl) rfl ?_
                        refine ao_read trivial (r_move rfl) rfl ?_
                        refine ao_read trivial (r_lss rfl rfl) rfl ?_
                        refine ao_nil ?_
                        refine aq_then ?_
                        refine aw_cond rfl (fun hb278 => ?_) (fun hb278 => ?_)
                        · have q279 := d_t hb278
                          replace h := is_if (d_t hb278) h
                          refine aw_skip ?_
                          refine aq_then ?_
                          refine aw_seq ?_
                          refine aw_block ?_
                          refine aw_region ?_
                          refine ao_read trivial (r_move rfl) rfl ?_
                          refine ao_read trivial (r_mul rfl rfl) rfl ?_
                          refine ao_read trivial (r_assign rfl) rfl ?_
                          refine ao_nil ?_
                          refine aq_in ?_
                          refine aq_then ?_
                          refine aw_region ?_
                          refine ao_read trivial (r_move rfl) rfl ?_
                          refine ao_read trivial (r_add rfl rfl) rfl ?_
                          refine ao_read trivial (r_assign rfl) rfl ?_
                          refine ao_nil ?_
                          exact aq_again (AL.sub (sub_mk idn (by exact ⟨⟨_, rfl, ad_ren rfl⟩, ⟨_, rfl, ad_ren rfl⟩, ⟨_, rfl, ad_ren rfl⟩, ⟨_, rfl, ad_ren rfl⟩, ⟨_, rfl, ad_ren rfl⟩, ⟨_, rfl, ad_ren rfl⟩, ⟨_, rfl, ad_ren rfl⟩, ⟨_, rfl, ad_ren rfl⟩, ⟨_, rfl, ad_ren rfl⟩, ⟨_, rfl, ad_ren rfl⟩, ⟨_, rfl, ad_ren rfl⟩, ⟨_, rfl, ad_ren rfl⟩, ⟨_, rfl, ad_ren rfl⟩, ⟨_, rfl, ad_ren rfl⟩, ⟨_, rfl, ad_ren rfl⟩, ⟨_, rfl, ad_ren rfl⟩, trivial⟩) (by exact ⟨⟨_, rfl, ⟨rfl, trivial⟩⟩, ⟨_, rfl, ⟨rfl, trivial⟩⟩, ⟨_, rfl, rfl⟩, ⟨_, rfl, rfl⟩, trivial⟩) (by rfl) (nk rfl)) (ih276 ((IntKind.wrap .i64 (6 * s274.1)), (IntKind.wrap .i64 (s274.2 + 1))) trivial h))
                        · have q280 := d_f hb278
                          replace h := is_else (d_f hb278) h
                          refine aw_exit ?_
                          refine aq_then_exit ?_
                          refine aq_then_exit ?_
                          refine aq_in_exit ?_
                          refine aq_then ?_
                          refine aw_seq ?_
                          refine aw_region ?_
                          refine ao_read trivial (r_move rfl) rfl ?_
                          refine ao_read trivial (r_move rfl) rfl ?_
                          obtain ⟨g281, h⟩ := is_guard h
                          refine ao_read trivial (r_rem rfl rfl g281) rfl ?_
                          refine ao_read trivial (r_neq rfl rfl) rfl ?_
                          refine ao_read trivial (r_move rfl) rfl ?_
                          refine ao_readG (x := .int .i64 r43.1) rfl (GV.F rfl) (fun hg282 => by
                                have q283 := d_t (not_f (not_t hg282))
                                exact r_move rfl) rfl ?_
                          refine ao_readG (x := .int .i64 s274.1) rfl (GV.F rfl) (fun hg284 => by
                                have q285 := d_t (not_f (not_t hg284))
                                exact r_move rfl) rfl ?_
                          refine ao_readG (x := .bool (decide (s274.1 < r43.1))) rfl (GV.F rfl) (fun hg286 => by
                                have q287 := d_t (not_f (not_t hg286))
                                exact Reads.strip 301 rfl (hg286) (Reads.strip 302 rfl (hg286) (r_gtr rfl rfl))) rfl ?_
                          refine ao_read trivial (r_orB rfl rfl) rfl ?_
                          refine ao_read trivial (r_move rfl) rfl ?_
                          refine ao_readG (x := .int .i64 r43.1) rfl (GV.F rfl) (fun hg288 => by
                                obtain ⟨q289, q290⟩ := or_f (not_t hg288)
                                have q291 := d_t (not_f q289)
                                have q292 := d_f q290
                                exact r_move rfl) rfl ?_
                          refine ao_readG (x := .int .i64 r42.1) rfl (GV.F rfl) (fun hg293 => by
                                obtain ⟨q294, q295⟩ := or_f (not_t hg293)
                                have q296 := d_t (not_f q294)
                                have q297 := d_f q295
                                exact r_move rfl) rfl ?_
                          refine ao_readG (x := .int .i64 (IntKind.wrap .i64 (r43.1 + r42.1))) rfl (GV.F rfl) (fun hg298 => by
                                obtain ⟨q299, q300⟩ := or_f (not_t hg298)
                                have q301 := d_t (not_f q299)
                                have q302 := d_f q300
                                exact Reads.strip 306 rfl (hg298) (Reads.strip 307 rfl (hg298) (r_add rfl rfl))) rfl ?_
                          refine ao_readG (x := .int .i64 s274.1) rfl (GV.F rfl) (fun hg303 => by
                                obtain ⟨q304, q305⟩ := or_f (not_t hg303)
                                have q306 := d_t (not_f q304)
                                have q307 := d_f q305
                                exact r_move rfl) rfl ?_
                          refine ao_readG (x := .bool (decide ((IntKind.wrap .i64 (r43.1 + r42.1)) ≤ s274.1))) rfl (GV.F rfl) (fun hg308 => by
                                obtain ⟨q309, q310⟩ := or_f (not_t hg308)
                                have q311 := d_t (not_f q309)
                                have q312 := d_f q310
                                exact Reads.strip 308 rfl (hg308) (Reads.strip 309 rfl (hg308) (r_leq rfl rfl))) rfl ?_
                          refine ao_read trivial (r_orB rfl rfl) rfl ?_
                          refine ao_read trivial (r_move rfl) rfl ?_
                          refine ao_readG (x := .elem 0 0 1 0) rfl (GV.F rfl) (fun hg313 => by
                                obtain ⟨q314, q315⟩ := or_f (not_t hg313)
                                obtain ⟨q316, q317⟩ := or_f q314
                                have q318 := d_t (not_f q316)
                                have q319 := d_f q317
                                have q320 := d_f q315
                                exact r_idxAddr_arr (i := 0) Try.underlying35 Try.sizeOf3 rfl rfl (by omega) (by omega)) rfl ?_
                          refine ao_readG (x := .int .i64 (r55.1.getD 0 0)) rfl (GV.F rfl) (fun hg321 => by
                                obtain ⟨q322, q323⟩ := or_f (not_t hg321)
                                obtain ⟨q324, q325⟩ := or_f q322
                                have q326 := d_t (not_f q324)
                                have q327 := d_f q325
                                have q328 := d_f q323
                                exact Reads.strip 313 rfl (hg321) (r_load_elema_int Try.isAgg3 Try.sizeOf3 rfl rfl rfl (by omega))) rfl ?_
                          refine ao_readG (x := .int .i64 r43.1) rfl (GV.F rfl) (fun hg329 => by
                                obtain ⟨q330, q331⟩ := or_f (not_t hg329)
                                obtain ⟨q332, q333⟩ := or_f q330
                                have q334 := d_t (not_f q332)
                                have q335 := d_f q333
                                have q336 := d_f q331
                                exact r_move rfl) rfl ?_
                          refine ao_readG (x := .int .i64 (IntKind.wrap .i64 ((r55.1.getD 0 0) * r43.1))) rfl (GV.F rfl) (fun hg337 => by
                                obtain ⟨q338, q339⟩ := or_f (not_t hg337)
                                obtain ⟨q340, q341⟩ := or_f q338
                                have q342 := d_t (not_f q340)
                                have q343 := d_f q341
                                have q344 := d_f q339
                                exact Reads.strip 314 rfl (hg337) (Reads.strip 315 rfl (hg337) (r_mul rfl rfl))) rfl ?_
                          refine ao_readG (x := .int .i64 r42.2) rfl (GV.F rfl) (fun hg345 => by
                                obtain ⟨q346, q347⟩ := or_f (not_t hg345)
                                obtain ⟨q348, q349⟩ := or_f q346
                                have q350 := d_t (not_f q348)
                                have q351 := d_f q349
                                have q352 := d_f q347
                                exact r_move rfl) rfl ?_
                          refine ao_readG (x := .int .i64 s274.1) rfl (GV.F rfl) (fun hg353 => by
                                obtain ⟨q354, q355⟩ := or_f (not_t hg353)
                                obtain ⟨q356, q357⟩ := or_f q354
                                have q358 := d_t (not_f q356)
                                have q359 := d_f q357
                                have q360 := d_f q355
                                exact r_move rfl) rfl ?_
                          refine ao_readG (x := .int .i64 (IntKind.wrap .i64 (r42.2 * s274.1))) rfl (GV.F rfl) (fun hg361 => by
                                obtain ⟨q362, q363⟩ := or_f (not_t hg361)
                                obtain ⟨q364, q365⟩ := or_f q362
                                have q366 := d_t (not_f q364)
                                have q367 := d_f q365
                                have q368 := d_f q363
                                exact Reads.strip 317 rfl (hg361) (Reads.strip 318 rfl (hg361) (r_mul rfl rfl))) rfl ?_
                          refine ao_readG (x := .elem 0 0 1 1) rfl (GV.F rfl) (fun hg369 => by
                                obtain ⟨q370, q371⟩ := or_f (not_t hg369)
                                obtain ⟨q372, q373⟩ := or_f q370
                                have q374 := d_t (not_f q372)
                                have q375 := d_f q373
                                have q376 := d_f q371
                                exact r_idxAddr_arr (i := 1) Try.underlying35 Try.sizeOf3 rfl rfl (by omega) (by omega)) rfl ?_
                          refine ao_readG (x := .int .i64 (r55.1.getD 1 0)) rfl (GV.F rfl) (fun hg377 => by
                                obtain ⟨q378, q379⟩ := or_f (not_t hg377)
                                obtain ⟨q380, q381⟩ := or_f q378
                                have q382 := d_t (not_f q380)
                                have q383 := d_f q381
                                have q384 := d_f q379
                                exact Reads.strip 320 rfl (hg377) (r_load_elema_int Try.isAgg3 Try.sizeOf3 rfl rfl rfl (by omega))) rfl ?_
                          refine ao_readG (x := .int .i64 (IntKind.wrap .i64 ((IntKind.wrap .i64 (r42.2 * s274.1)) * (r55.1.getD 1 0)))) rfl (GV.F rfl) (fun hg385 => by
                                obtain ⟨q386, q387⟩ := or_f (not_t hg385)
                                obtain ⟨q388, q389⟩ := or_f q386
                                have q390 := d_t (not_f q388)
                                have q391 := d_f q389
                                have q392 := d_f q387
                                exact Reads.strip 319 rfl (hg385) (Reads.strip 321 rfl (hg385) (r_mul rfl rfl))) rfl ?_
                          refine ao_readG (x := .bool (!(decide ((IntKind.wrap .i64 ((r55.1.getD 0 0) * r43.1)) = (IntKind.wrap .i64 ((IntKind.wrap .i64 (r42.2 * s274.1)) * (r55.1.getD 1 0))))))) rfl (GV.F rfl) (fun hg393 => by
                                obtain ⟨q394, q395⟩ := or_f (not_t hg393)
                                obtain ⟨q396, q397⟩ := or_f q394
                                have q398 := d_t (not_f q396)
                                have q399 := d_f q397
                                have q400 := d_f q395
                                exact Reads.strip 316 rfl (hg393) (Reads.strip 322 rfl (hg393) (r_neq rfl rfl))) rfl ?_
                          refine ao_read trivial (r_orB rfl rfl) rfl ?_
                          refine ao_read trivial (r_move rfl) rfl ?_
                          refine ao_readG (x := .v (.arr 2 (.int .i64)) r55.1) rfl (GV.F rfl) (fun hg401 => by
                                obtain ⟨q402, q403⟩ := or_f (not_t hg401)
                                obtain ⟨q404, q405⟩ := or_f q402
                                obtain ⟨q406, q407⟩ := or_f q404
                                have q408 := d_t (not_f q406)
                                have q409 := d_f q407
                                have q410 := d_f q405
                                have q411 : (IntKind.wrap .i64 ((r55.1.getD 0 0) * r43.1)) = (IntKind.wrap .i64 ((IntKind.wrap .i64 (r42.2 * s274.1)) * (r55.1.getD 1 0))) := d_t (not_f q403)
                                exact r_load_arr rfl Try.isAgg35 Try.sizeOf35 rfl rfl rfl) rfl ?_
                          refine ao_readG (x := .int .i64 r42.2) rfl (GV.F rfl) (fun hg412 => by
                                obtain ⟨q413, q414⟩ := or_f (not_t hg412)
                                obtain ⟨q415, q416⟩ := or_f q413
                                obtain ⟨q417, q418⟩ := or_f q415
                                have q419 := d_t (not_f q417)
                                have q420 := d_f q418
                                have q421 := d_f q416
                                have q422 : (IntKind.wrap .i64 ((r55.1.getD 0 0) * r43.1)) = (IntKind.wrap .i64 ((IntKind.wrap .i64 (r42.2 * s274.1)) * (r55.1.getD 1 0))) := d_t (not_f q414)
                                exact r_move rfl) rfl ?_
                          refine ao_readG (x := .v (.arr 2 (.int .i64)) ([r42.2, 1] : (List Int))) rfl (GV.F rfl) (fun hg423 => by
                                obtain ⟨q424, q425⟩ := or_f (not_t hg423)
                                obtain ⟨q426, q427⟩ := or_f q424
                                obtain ⟨q428, q429⟩ := or_f q426
                                have q430 := d_t (not_f q428)
                                have q431 := d_f q429
                                have q432 := d_f q427
                                have q433 : (IntKind.wrap .i64 ((r55.1.getD 0 0) * r43.1)) = (IntKind.wrap .i64 ((IntKind.wrap .i64 (r42.2 * s274.1)) * (r55.1.getD 1 0))) := d_t (not_f q425)
                                exact Reads.strip 327 rfl (hg423) (r_build_arr (l := [(0, .tmp 327), (1, .const (.int .i64 1))]) (t := (.int .i64)) ([r42.2, 1] : (List Int)) rfl Try.underlying35 Try.zeroValue35 Try.sizeOf3 rfl rfl rfl rfl)) rfl ?_
                          refine ao_readG (x := .bool (decide (r55.1 = [r42.2, 1]))) rfl (GV.F rfl) (fun hg434 => by
                                obtain ⟨q435, q436⟩ := or_f (not_t hg434)
                                obtain ⟨q437, q438⟩ := or_f q435
                                obtain ⟨q439, q440⟩ := or_f q437
                                have q441 := d_t (not_f q439)
                                have q442 := d_f q440
                                have q443 := d_f q438
                                have q444 : (IntKind.wrap .i64 ((r55.1.getD 0 0) * r43.1)) = (IntKind.wrap .i64 ((IntKind.wrap .i64 (r42.2 * s274.1)) * (r55.1.getD 1 0))) := d_t (not_f q436)
                                exact Reads.strip 326 rfl (hg434) (Reads.strip 328 rfl (hg434) (r_eq_ints Try.underlying35 Try.underlying3 Try.isAgg3 (info_size Try.sizeOf3) (by kernel_rfl) rfl rfl rfl))) rfl ?_
                          refine ao_readG (x := .int .i64 r43.1) rfl (GV.F rfl) (fun hg445 => by
                                obtain ⟨q446, q447⟩ := or_f (not_t hg445)
                                obtain ⟨q448, q449⟩ := or_f q446
                                obtain ⟨q450, q451⟩ := or_f q448
                                have q452 := d_t (not_f q450)
                                have q453 := d_f q451
                                have q454 := d_f q449
                                have q455 : (IntKind.wrap .i64 ((r55.1.getD 0 0) * r43.1)) = (IntKind.wrap .i64 ((IntKind.wrap .i64 (r42.2 * s274.1)) * (r55.1.getD 1 0))) := d_t (not_f q447)
                                exact r_move rfl) rfl ?_
                          refine ao_readG (x := .int .i64 s274.1) rfl (GV.F rfl) (fun hg456 => by
                                obtain ⟨q457, q458⟩ := or_f (not_t hg456)
                                obtain ⟨q459, q460⟩ := or_f q457
                                obtain ⟨q461, q462⟩ := or_f q459
                                have q463 := d_t (not_f q461)
                                have q464 := d_f q462
                                have q465 := d_f q460
                                have q466 : (IntKind.wrap .i64 ((r55.1.getD 0 0) * r43.1)) = (IntKind.wrap .i64 ((IntKind.wrap .i64 (r42.2 * s274.1)) * (r55.1.getD 1 0))) := d_t (not_f q458)
                                exact r_move rfl) rfl ?_
                          refine ao_readG (x := .bool (decide (r43.1 = s274.1))) rfl (GV.F rfl) (fun hg467 => by
                                obtain ⟨q468, q469⟩ := or_f (not_t hg467)
                                obtain ⟨q470, q471⟩ := or_f q468
                                obtain ⟨q472, q473⟩ := or_f q470
                                have q474 := d_t (not_f q472)
                                have q475 := d_f q473
                                have q476 := d_f q471
                                have q477 : (IntKind.wrap .i64 ((r55.1.getD 0 0) * r43.1)) = (IntKind.wrap .i64 ((IntKind.wrap .i64 (r42.2 * s274.1)) * (r55.1.getD 1 0))) := d_t (not_f q469)
                                exact Reads.strip 330 rfl (hg467) (Reads.strip 331 rfl (hg467) (r_eql rfl rfl))) rfl ?_
                          refine ao_readG (x := .bool ((decide (r55.1 = [r42.2, 1])) != (decide (r43.1 = s274.1)))) rfl (GV.F rfl) (fun hg478 => by
                                obtain ⟨q479, q480⟩ := or_f (not_t hg478)
                                obtain ⟨q481, q482⟩ := or_f q479
                                obtain ⟨q483, q484⟩ := or_f q481
                                have q485 := d_t (not_f q483)
                                have q486 := d_f q484
                                have q487 := d_f q482
                                have q488 : (IntKind.wrap .i64 ((r55.1.getD 0 0) * r43.1)) = (IntKind.wrap .i64 ((IntKind.wrap .i64 (r42.2 * s274.1)) * (r55.1.getD 1 0))) := d_t (not_f q480)
                                exact Reads.strip 329 rfl (hg478) (Reads.strip 332 rfl (hg478) (r_neq_bool Try.underlying4 rfl rfl))) rfl ?_
                          refine ao_read trivial (r_orB rfl rfl) rfl ?_
                          refine ao_nil ?_
                          refine aq_then ?_
                          refine aw_cond rfl (fun hb489 => ?_) (fun hb489 => ?_)
                          · replace h := is_if hb489 h
                            refine aw_seq ?_
                            refine aw_region ?_
                            refine ao_read trivial (r_assign rfl) rfl ?_
                            refine ao_nil ?_
                            refine aq_then ?_
                            refine aw_ret ?_
                            refine aq_then_ret ?_
                            refine aq_ret ?_
                            obtain rfl := is_some h
                            exact aq_finx (l := [.tmp 2]) (xs := [.bool false]) idn [.bool false] [] rfl (by exact ⟨rfl, trivial⟩) (by exact ⟨ad_ren rfl, trivial⟩) (by exact trivial) rfl (nk rfl) rfl rfl ⟨rfl, rfl⟩
                          · obtain ⟨q490, q491⟩ := or_f hb489
                            obtain ⟨q492, q493⟩ := or_f q490
                            obtain ⟨q494, q495⟩ := or_f q492
                            obtain ⟨q496, q497⟩ := or_f q494
                            have q498 := d_t (not_f q496)
                            have q499 := d_f q497
                            have q500 := d_f q495
                            have q501 : (IntKind.wrap .i64 ((r55.1.getD 0 0) * r43.1)) = (IntKind.wrap .i64 ((IntKind.wrap .i64 (r42.2 * s274.1)) * (r55.1.getD 1 0))) := d_t (not_f q493)
                            replace h := is_else (ne_t hb489) h
                            refine aw_skip ?_
                            exact aq_then (AW.sub (sub_mk (rn [(0, 1), (1, 2), (2, 3)]) (by exact ⟨⟨_, rfl, ad_ren rfl⟩, ⟨_, rfl, ad_ren rfl⟩, ⟨_, rfl, ad_ren rfl⟩, ⟨_, rfl, ad_ren rfl⟩, ⟨_, rfl, ad_ren rfl⟩, ⟨_, rfl, ad_ren rfl⟩, ⟨_, rfl, ad_ren rfl⟩, ⟨_, rfl, ad_ren rfl⟩, ⟨_, rfl, ad_ren rfl⟩, ⟨_, rfl, ad_ren rfl⟩, trivial⟩) (by exact ⟨⟨_, rfl, ⟨rfl, trivial⟩⟩, ⟨_, rfl, rfl⟩, ⟨_, rfl, rfl⟩, trivial⟩) (by rfl) (nk rfl)) (j153 () trivial h))
                      · replace h := is_else (ne_t hb273) h
                        refine aw_skip ?_
                        exact aq_then (AW.sub (sub_mk (rn [(0, 1), (1, 2), (2, 3)]) (by exact ⟨⟨_, rfl, ad_ren rfl⟩, ⟨_, rfl, ad_ren rfl⟩, ⟨_, rfl, ad_ren rfl⟩, ⟨_, rfl, ad_ren rfl⟩, ⟨_, rfl, ad_ren rfl⟩, ⟨_, rfl, ad_ren rfl⟩, ⟨_, rfl, ad_ren rfl⟩, ⟨_, rfl, ad_ren rfl⟩, ⟨_, rfl, ad_ren rfl⟩, ⟨_, rfl, ad_ren rfl⟩, trivial⟩) (by exact ⟨⟨_, rfl, ⟨rfl, trivial⟩⟩, ⟨_, rfl, rfl⟩, ⟨_, rfl, rfl⟩, trivial⟩) (by rfl) (nk rfl)) (j153 () trivial h))
                  · refine aw_seq ?_
                    refine aw_region ?_
                    refine ao_read trivial (r_move rfl) rfl ?_
                    refine ao_nil ?_
                    refine aq_then ?_
                    refine aw_cond rfl (fun hb502 => ?_) (fun hb502 => ?_)
                    · replace h := is_if hb502 h
                      refine aw_seq ?_
                      refine aw_region ?_
                      refine ao_read trivial (r_move rfl) rfl ?_
                      refine ao_scall trivial (scall (c_impl_NumberOfThrows (is_mk (rfl : p_impl_NumberOfThrows r2.2 = _))) rfl Try.func12 rfl rfl rfl rfl (fun σ => ⟨ad_os0 rfl, trivial⟩)) rfl ?_
                      refine ao_read trivial (r_move rfl) rfl ?_
                      refine ao_read trivial (r_extract rfl rfl) rfl ?_
                      refine ao_read trivial (r_extract rfl rfl) rfl ?_
                      refine ao_read trivial (r_assign rfl) rfl ?_
                      refine ao_read trivial (r_assign rfl) rfl ?_
                      refine ao_nil ?_
                      refine aq_then ?_
                      refine aw_seq ?_
                      refine aw_region ?_
                      refine ao_read trivial (r_move rfl) rfl ?_
                      refine ao_read trivial (r_move rfl) rfl ?_
                      refine ao_read trivial (r_len_osm (r2.2.length : Int) Try.underlying24 rfl rfl rfl) rfl ?_
                      obtain ⟨r503, r503h, h⟩ := is_bind h
                      refine ao_scall trivial (scall (c_impl_TakenOf (is_mk r503h)) rfl Try.func15 rfl rfl rfl rfl (fun σ => ⟨ad_ren rfl, ad_ren rfl, trivial⟩)) rfl ?_
                      refine ao_read trivial (r_move rfl) rfl ?_
                      refine ao_read trivial (r_extract rfl rfl) rfl ?_
                      refine ao_read trivial (r_extract rfl rfl) rfl ?_
                      refine ao_read trivial (r_assign rfl) rfl ?_
                      refine ao_read trivial (r_assign rfl) rfl ?_
                      refine ao_nil ?_
                      refine aq_then ?_
                      refine aw_seq ?_
                      refine aw_region ?_
                      refine ao_read trivial (r_move rfl) rfl ?_
                      refine ao_read trivial (r_not rfl) rfl ?_
                      refine ao_read trivial (r_move rfl) rfl ?_
                      refine ao_readG (x := .bool r503.2) rfl (GV.F rfl) (fun hg504 => r_move rfl) rfl ?_
                      refine ao_readG (x := .bool (!r503.2)) rfl (GV.F rfl) (fun hg505 => Reads.strip 260 rfl (hg505) (r_not rfl)) rfl ?_
                      refine ao_read trivial (r_orB rfl rfl) rfl ?_
                      refine ao_read trivial (r_move rfl) rfl ?_
                      refine ao_readG (x := .bool r4.2.1) rfl (GV.F rfl) (fun hg506 => by
                            obtain ⟨q507, q508⟩ := or_f (not_t hg506)
                            exact r_move rfl) rfl ?_
                      refine ao_readG (x := .int .i64 ((p_impl_NumberOfThrows r2.2).1)) rfl (GV.F rfl) (fun hg509 => by
                            obtain ⟨q510, q511⟩ := or_f (not_t hg509)
                            exact r_move rfl) rfl ?_
                      refine ao_readG (x := .int .i64 r503.1) rfl (GV.F rfl) (fun hg512 => by
                            obtain ⟨q513, q514⟩ := or_f (not_t hg512)
                            exact r_move rfl) rfl ?_
                      refine ao_readG (x := .bool (decide ((p_impl_NumberOfThrows r2.2).1 < r503.1))) rfl (GV.F rfl) (fun hg515 => by
                            obtain ⟨q516, q517⟩ := or_f (not_t hg515)
                            exact Reads.strip 265 rfl (hg515) (Reads.strip 266 rfl (hg515) (r_lss rfl rfl))) rfl ?_
                      refine ao_readG (x := .bool (r4.2.1 != (decide ((p_impl_NumberOfThrows r2.2).1 < r503.1)))) rfl (GV.F rfl) (fun hg518 => by
                            obtain ⟨q519, q520⟩ := or_f (not_t hg518)
                            exact Reads.strip 264 rfl (hg518) (Reads.strip 267 rfl (hg518) (r_neq_bool Try.underlying4 rfl rfl))) rfl ?_
                      refine ao_read trivial (r_orB rfl rfl) rfl ?_
                      refine ao_read trivial (r_move rfl) rfl ?_
                      refine ao_readG (x := .bool r4.2.1) rfl (GV.F rfl) (fun hg521 => by
                            obtain ⟨q522, q523⟩ := or_f (not_t hg521)
                            obtain ⟨q524, q525⟩ := or_f q522
                            exact r_move rfl) rfl ?_
                      refine ao_readG (x := .bool r4.2.1) rfl (GV.F rfl) (fun hg526 => by
                            obtain ⟨q527, q528⟩ := or_f (not_t hg526)
                            obtain ⟨q529, q530⟩ := or_f q527
                            exact Reads.strip 271 rfl (hg526) (r_move rfl)) rfl ?_
                      refine ao_readG (x := .int .i64 r4.1) rfl (GV.gT rfl) (fun hg531 => by
                            obtain ⟨q532, q533⟩ := and_t hg531
                            obtain ⟨q534, q535⟩ := or_f (not_t q532)
                            obtain ⟨q536, q537⟩ := or_f q534
                            exact r_move rfl) rfl ?_
                      refine ao_readG (x := .int .i64 ((p_impl_NumberOfThrows r2.2).1)) rfl (GV.gT rfl) (fun hg538 => by
                            obtain ⟨q539, q540⟩ := and_t hg538
                            obtain ⟨q541, q542⟩ := or_f (not_t q539)
                            obtain ⟨q543, q544⟩ := or_f q541
                            exact r_move rfl) rfl ?_
                      refine ao_readG (x := .int .i64 r2.1) rfl (GV.gT rfl) (fun hg545 => by
                            obtain ⟨q546, q547⟩ := and_t hg545
                            obtain ⟨q548, q549⟩ := or_f (not_t q546)
                            obtain ⟨q550, q551⟩ := or_f q548
                            exact r_move rfl) rfl ?_
                      obtain ⟨g559, h⟩ := is_guard h
                      refine ao_readG (x := .int .i64 (((p_impl_NumberOfThrows r2.2).1).tmod r2.1)) rfl (GV.gT rfl) (fun hg552 => by
                            obtain ⟨q553, q554⟩ := and_t hg552
                            obtain ⟨q555, q556⟩ := or_f (not_t q553)
                            obtain ⟨q557, q558⟩ := or_f q555
                            exact Reads.strip 274 rfl (hg552) (Reads.strip 275 rfl (hg552) (r_rem rfl rfl (g559 hg552)))) rfl ?_
                      refine ao_readG (x := .bool (!(decide (r4.1 = (((p_impl_NumberOfThrows r2.2).1).tmod r2.1))))) rfl (GV.gT rfl) (fun hg560 => by
                            obtain ⟨q561, q562⟩ := and_t hg560
                            obtain ⟨q563, q564⟩ := or_f (not_t q561)
                            obtain ⟨q565, q566⟩ := or_f q563
                            exact Reads.strip 273 rfl (hg560) (Reads.strip 276 rfl (hg560) (r_neq rfl rfl))) rfl ?_
                      refine ao_readG (x := .bool (r4.2.1 && (!(decide (r4.1 = (((p_impl_NumberOfThrows r2.2).1).tmod r2.1)))))) rfl (GV.F rfl) (fun hg567 => by
                            obtain ⟨q568, q569⟩ := or_f (not_t hg567)
                            obtain ⟨q570, q571⟩ := or_f q568
                            exact Reads.strip 272 rfl (hg567) (r_andBg rfl rfl (tr_and (hg567)))) rfl ?_
                      refine ao_read trivial (r_orB rfl rfl) rfl ?_
                      refine ao_read trivial (r_move rfl) rfl ?_
                      refine ao_readG (x := .bool r4.2.1) rfl (GV.F rfl) (fun hg572 => by
                            obtain ⟨q573, q574⟩ := or_f (not_t hg572)
                            obtain ⟨q575, q576⟩ := or_f q573
                            obtain ⟨q577, q578⟩ := or_f q575
                            exact r_move rfl) rfl ?_
                      refine ao_readG (x := .bool (!r4.2.1)) rfl (GV.F rfl) (fun hg579 => by
                            obtain ⟨q580, q581⟩ := or_f (not_t hg579)
                            obtain ⟨q582, q583⟩ := or_f q580
                            obtain ⟨q584, q585⟩ := or_f q582
                            exact Reads.strip 281 rfl (hg579) (r_not rfl)) rfl ?_
                      refine ao_readG (x := .bool (!r4.2.1)) rfl (GV.F rfl) (fun hg586 => by
                            obtain ⟨q587, q588⟩ := or_f (not_t hg586)
                            obtain ⟨q589, q590⟩ := or_f q587
                            obtain ⟨q591, q592⟩ := or_f q589
                            exact Reads.strip 282 rfl (hg586) (r_move rfl)) rfl ?_
                      refine ao_readG (x := .int .i64 r4.1) rfl (GV.gT rfl) (fun hg593 => by
                            obtain ⟨q594, q595⟩ := and_t hg593
                            obtain ⟨q596, q597⟩ := or_f (not_t q594)
                            obtain ⟨q598, q599⟩ := or_f q596
                            obtain ⟨q600, q601⟩ := or_f q598
                            exact r_move rfl) rfl ?_
                      refine ao_readG (x := .bool (!(decide (r4.1 = 0)))) rfl (GV.gT rfl) (fun hg602 => by
                            obtain ⟨q603, q604⟩ := and_t hg602
                            obtain ⟨q605, q606⟩ := or_f (not_t q603)
                            obtain ⟨q607, q608⟩ := or_f q605
                            obtain ⟨q609, q610⟩ := or_f q607
                            exact Reads.strip 284 rfl (hg602) (r_neq rfl rfl)) rfl ?_
                      refine ao_readG (x := .bool ((!r4.2.1) && (!(decide (r4.1 = 0))))) rfl (GV.F rfl) (fun hg611 => by
                            obtain ⟨q612, q613⟩ := or_f (not_t hg611)
                            obtain ⟨q614, q615⟩ := or_f q612
                            obtain ⟨q616, q617⟩ := or_f q614
                            exact Reads.strip 283 rfl (hg611) (r_andBg rfl rfl (tr_and (hg611)))) rfl ?_
                      refine ao_read trivial (r_orB rfl rfl) rfl ?_
                      refine ao_nil ?_
                      refine aq_then ?_
                      refine aw_cond rfl (fun hb618 => ?_) (fun hb618 => ?_)
                      · replace h := is_if hb618 h
                        refine aw_seq ?_
                        refine aw_region ?_
                        refine ao_read trivial (r_assign rfl) rfl ?_
                        refine ao_nil ?_
                        refine aq_then ?_
                        refine aw_ret ?_
                        refine aq_then_ret ?_
                        refine aq_ret ?_
                        obtain rfl := is_some h
                        exact aq_finx (l := [.tmp 2]) (xs := [.bool false]) idn [.bool false] [] rfl (by exact ⟨rfl, trivial⟩) (by exact ⟨ad_ren rfl, trivial⟩) (by exact trivial) rfl (nk rfl) rfl rfl ⟨rfl, rfl⟩
                      · obtain ⟨q619, q620⟩ := or_f hb618
                        obtain ⟨q621, q622⟩ := or_f q619
                        obtain ⟨q623, q624⟩ := or_f q621
                        obtain ⟨q625, q626⟩ := or_f q623
                        replace h := is_else (ne_t hb618) h
                        refine aw_skip ?_
                        exact aq_then (AW.sub (sub_mk (rn [(0, 2), (1, 4), (2, 6), (3, 7)]) (by exact ⟨⟨_, rfl, ad_ren rfl⟩, ⟨_, rfl, ad_ren rfl⟩, ⟨_, rfl, ad_ren rfl⟩, ⟨_, rfl, ad_ren rfl⟩, ⟨_, rfl, ad_ren rfl⟩, ⟨_, rfl, ad_ren rfl⟩, ⟨_, rfl, ad_ren rfl⟩, ⟨_, rfl, ad_ren rfl⟩, ⟨_, rfl, ad_ren rfl⟩, ⟨_, rfl, ad_ren rfl⟩, ⟨_, rfl, ad_ren rfl⟩, ⟨_, rfl, ad_ren rfl⟩, ⟨_, rfl, ad_ren rfl⟩, ⟨_, rfl, ad_ren rfl⟩, ⟨_, rfl, ad_ren rfl⟩, trivial⟩) (by exact ⟨⟨_, rfl, ⟨rfl, trivial⟩⟩, ⟨_, rfl, ⟨rfl, trivial⟩⟩, ⟨_, rfl, rfl⟩, ⟨_, rfl, rfl⟩, trivial⟩) (by rfl) (nk rfl)) (j150 () trivial h))
                    · replace h := is_else (ne_t hb502) h
                      refine aw_skip ?_
                      exact aq_then (AW.sub (sub_mk (rn [(0, 2), (1, 4), (2, 6), (3, 7)]) (by exact ⟨⟨_, rfl, ad_ren rfl⟩, ⟨_, rfl, ad_ren rfl⟩, ⟨_, rfl, ad_ren rfl⟩, ⟨_, rfl, ad_ren rfl⟩, ⟨_, rfl, ad_ren rfl⟩, ⟨_, rfl, ad_ren rfl⟩, ⟨_, rfl, ad_ren rfl⟩, ⟨_, rfl, ad_ren rfl⟩, ⟨_, rfl, ad_ren rfl⟩, ⟨_, rfl, ad_ren rfl⟩, ⟨_, rfl, ad_ren rfl⟩, ⟨_, rfl, ad_ren rfl⟩, ⟨_, rfl, ad_ren rfl⟩, ⟨_, rfl, ad_ren rfl⟩, ⟨_, rfl, ad_ren rfl⟩, trivial⟩) (by exact ⟨⟨_, rfl, ⟨rfl, trivial⟩⟩, ⟨_, rfl, ⟨rfl, trivial⟩⟩, ⟨_, rfl, rfl⟩, ⟨_, rfl, rfl⟩, trivial⟩) (by rfl) (nk rfl)) (j150 () trivial h))
end Go.GA
