/- Walks: what the Go functions compute, by the printed lines below; no further conditions. -/
import Derived.Test.YtnomkjapifeedaaC10owb
namespace Go.GA
open Go Go.Proofs
set_option maxRecDepth 100000
set_option maxHeartbeats 2000000
set_option linter.unusedVariables false
set_option linter.unusedSimpArgs false
theorem c_impl_IsFirstFair {fu : Nat} {x0 : (List (List Int))} {r : Bool × Bool} (h : Is (p_impl_IsFirstFair fu x0) (some r)) :
    Scalar Try.prog 15 [.v (.slice (.arr 6 (.int .i64))) x0] (.tup [.bool r.1, .bool r.2]) := by
  unfold p_impl_IsFirstFair at h
  refine ac_enter ⟨9, 0⟩ Try.func15 rfl rfl rfl rfl rfl (fun Γ => ?_)
  refine sl_len_m 0 (x0.length : Int) rfl rfl (fun hl0 => ?_)
  refine aw_seq ?_
  refine aw_region ?_
  refine ao_read trivial (r_assign rfl) rfl ?_
  refine ao_read trivial (r_assign rfl) rfl ?_
  refine ao_nil ?_
  refine aq_then ?_
  refine aw_seq ?_
  refine aw_seq ?_
  refine aw_region ?_
  refine ao_read trivial (r_move rfl) rfl ?_
  refine ao_scall trivial (scall (c_impl_IsPool (is_mk (rfl : p_impl_IsPool x0 = _))) rfl Try.func50 rfl rfl rfl rfl (fun σ => ⟨ad_ren rfl, trivial⟩)) rfl ?_
  refine ao_read trivial (r_not rfl) rfl ?_
  refine ao_nil ?_
  refine aq_then ?_
  refine aw_cond rfl (fun hb1 => ?_) (fun hb1 => ?_)
  · replace h := is_else (ne_t (not_t hb1)) h
    refine aw_seq ?_
    refine aw_region ?_
    refine ao_read trivial (r_assign rfl) rfl ?_
    refine ao_read trivial (r_assign rfl) rfl ?_
    refine ao_nil ?_
    refine aq_then ?_
    refine aw_ret ?_
    refine aq_then_ret ?_
    refine aq_ret ?_
    obtain rfl := is_some h
    exact aq_finx (l := [.tmp 2, .tmp 3]) (xs := [.bool false, .bool false]) idn [.bool false, .bool false] [] rfl (by exact ⟨rfl, rfl, trivial⟩) (by exact ⟨ad_ren rfl, ad_ren rfl, trivial⟩) (by exact trivial) rfl (nk rfl) rfl rfl ⟨rfl, rfl⟩
  · replace h := is_if (not_f hb1) h
    refine aw_skip ?_
    refine aq_then ?_
    refine aw_seq ?_
    refine aw_region ?_
    refine ao_read trivial (r_move rfl) rfl ?_
    obtain ⟨r2, r2h, h⟩ := is_bind h
    refine ao_scall trivial (scall (c_impl_isFairAt (is_mk r2h)) rfl Try.func57 rfl rfl rfl rfl (fun σ => ⟨ad_ren rfl, ad_ren rfl, trivial⟩)) rfl ?_
    refine ao_read trivial (r_assign rfl) rfl ?_
    refine ao_read trivial (r_assign rfl) rfl ?_
    refine ao_nil ?_
    refine aq_then ?_
    refine aw_ret ?_
    refine aq_ret ?_
    obtain rfl := is_some h
    exact aq_finx (l := [.tmp 2, .tmp 3]) (xs := [.bool r2, .bool true]) idn [.bool r2, .bool true] [] rfl (by exact ⟨rfl, rfl, trivial⟩) (by exact ⟨ad_ren rfl, ad_ren rfl, trivial⟩) (by exact trivial) rfl (nk rfl) rfl rfl ⟨rfl, rfl⟩
theorem c_spec_IsFirstFair {fu : Nat} {x0 : (List (List Int))} {r : Bool × Bool} (h : Is (p_spec_IsFirstFair fu x0) (some r)) :
    Scalar Try.prog 16 [.v (.slice (.arr 6 (.int .i64))) x0] (.tup [.bool r.1, .bool r.2]) := by
  unfold p_spec_IsFirstFair at h
  refine ac_enter ⟨27, 0⟩ Try.func16 rfl rfl rfl rfl rfl (fun Γ => ?_)
  refine sl_len_m 0 (x0.length : Int) rfl rfl (fun hl0 => ?_)
  refine aw_seq ?_
  refine aw_region ?_
  refine ao_read trivial (r_assign rfl) rfl ?_
  refine ao_read trivial (r_assign rfl) rfl ?_
  refine ao_nil ?_
  refine aq_then ?_
  refine aw_seq ?_
  refine aw_seq ?_
  refine aw_region ?_
  refine ao_read trivial (r_move rfl) rfl ?_
  obtain ⟨r1, r1h, h⟩ := is_bind h
  refine ao_scall trivial (scall (c_spec_l2Pool (is_mk r1h)) rfl Try.func52 rfl rfl rfl rfl (fun σ => ⟨ad_ren rfl, trivial⟩)) rfl ?_
  refine ao_read trivial (r_not rfl) rfl ?_
  refine ao_nil ?_
  refine aq_then ?_
  refine aw_cond rfl (fun hb2 => ?_) (fun hb2 => ?_)
  · replace h := is_else (ne_t (not_t hb2)) h
    refine aw_seq ?_
    refine aw_region ?_
    refine ao_read trivial (r_assign rfl) rfl ?_
    refine ao_read trivial (r_assign rfl) rfl ?_
    refine ao_nil ?_
    refine aq_then ?_
    refine aw_ret ?_
    refine aq_then_ret ?_
    refine aq_ret ?_
    obtain rfl := is_some h
    exact aq_finx (l := [.tmp 2, .tmp 3]) (xs := [.bool false, .bool false]) idn [.bool false, .bool false] [] rfl (by exact ⟨rfl, rfl, trivial⟩) (by exact ⟨ad_ren rfl, ad_ren rfl, trivial⟩) (by exact trivial) rfl (nk rfl) rfl rfl ⟨rfl, rfl⟩
  · replace h := is_if (not_f hb2) h
    refine aw_skip ?_
    refine aq_then ?_
    refine aw_seq ?_
    refine aw_region ?_
    refine ao_read trivial (r_move rfl) rfl ?_
    obtain ⟨r3, r3h, h⟩ := is_bind h
    refine ao_call [] 0 trivial (c_spec_l10Ways (is_mk r3h)) Try.func53 rfl rfl rfl rfl ⟨ad_ren rfl, trivial⟩ trivial rfl rfl rfl rfl rfl rfl rfl (fun r' H' hr => ?_)
    obtain ⟨rfl, rfl⟩ := hr
    refine ao_norm (y := .os 0) (H' := [(0, .row (.int .i64) r3)]) rfl rfl ?_
    refine row_len_o 0 (r3.length : Int) rfl rfl (fun hr4 => ?_)
    refine ao_read trivial (r_assign rfl) rfl ?_
    refine ao_nil ?_
    refine aq_then ?_
    refine aw_seq ?_
    refine aw_seq ?_
    refine aw_region ?_
    refine ao_read trivial (r_assign rfl) rfl ?_
    refine ao_nil ?_
    refine aq_then ?_
    refine aw_block ?_
    refine aw_loop (AL.sub (fr' := [(0, .v (.slice (.arr 6 (.int .i64))) x0), (4, .os 0), (5, .int .i64 1)]) (H' := [(0, .row (.int .i64) r3)]) (sub_mk idn (by exact ⟨⟨_, rfl, ad_ren rfl⟩, ⟨_, rfl, ad_ren rfl⟩, ⟨_, rfl, ad_ren rfl⟩, trivial⟩) (by exact ⟨⟨_, rfl, rfl⟩, trivial⟩) (by rfl) (nk rfl)) (al_cnt (fun i6 (s5 : Unit) => [(0, .v (.slice (.arr 6 (.int .i64))) x0), (4, .os 0), (5, .int .i64 i6)]) (fun i6 (s5 : Unit) => [(0, .row (.int .i64) r3)]) (fun d i6 (s5 : Unit) => d = Int.toNat ((x0.length : Int) - i6) ∧ 1 ≤ i6) h ⟨rfl, (by (try simp only [List.length_set, List.length_append, List.length_cons, List.length_nil, List.length_replicate, List.length_take, List.length_drop]) <;> omega)⟩ (fun d7 i6 s5 hI h ih7 => ?_)))
    obtain ⟨hd, _⟩ := hI
    refine al_round ?_
    refine aw_seq ?_
    refine aw_seq ?_
    refine aw_region ?_
    refine ao_read trivial (r_move rfl) rfl ?_
    refine ao_read trivial (r_move rfl) rfl ?_
    refine ao_read trivial (r_len_vm (x0.length : Int) Try.underlying24 rfl rfl) rfl ?_
    refine ao_read trivial (r_lss rfl rfl) rfl ?_
    refine ao_nil ?_
    refine aq_then ?_
    refine aw_cond rfl (fun hb9 => ?_) (fun hb9 => ?_)
    · have q10 := d_t hb9
      obtain ⟨d7, rfl⟩ : ∃ e, d7 = e + 1 := ⟨d7 - 1, by omega⟩
      replace h := is_cntS h
      refine aw_skip ?_
      refine aq_then ?_
      refine aw_seq ?_
      refine aw_block ?_
      refine aw_seq ?_
      refine aw_region ?_
      refine ao_read trivial (r_move rfl) rfl ?_
      refine ao_read trivial (r_len_vm (x0.length : Int) Try.underlying24 rfl rfl) rfl ?_
      refine ao_read trivial (r_move rfl) rfl ?_
      refine ao_read trivial (r_move rfl) rfl ?_
      obtain ⟨r12, r12h, h⟩ := is_bind h
      refine ao_scall trivial (scall (c_spec_l10At (is_mk r12h)) rfl Try.func58 rfl rfl rfl rfl (fun σ => ⟨ad_ren rfl, ad_os0 rfl, ad_ren rfl, ad_ren rfl, trivial⟩)) rfl ?_
      refine ao_read trivial (r_move rfl) rfl ?_
      refine ao_read trivial (r_len_vm (x0.length : Int) Try.underlying24 rfl rfl) rfl ?_
      refine ao_read trivial (r_move rfl) rfl ?_
      obtain ⟨r13, r13h, h⟩ := is_bind h
      refine ao_scall trivial (scall (c_spec_l10At (is_mk r13h)) rfl Try.func58 rfl rfl rfl rfl (fun σ => ⟨ad_ren rfl, ad_os0 rfl, ad_ren rfl, ad_ren rfl, trivial⟩)) rfl ?_
      refine ao_read trivial (r_neq rfl rfl) rfl ?_
      refine ao_nil ?_
      refine aq_then ?_
      refine aw_cond rfl (fun hb14 => ?_) (fun hb14 => ?_)
      · have q15 := d_f (not_t hb14)
        replace h := is_else (d_f (not_t hb14)) h
        refine aw_seq ?_
        refine aw_region ?_
        refine ao_read trivial (r_assign rfl) rfl ?_
        refine ao_read trivial (r_assign rfl) rfl ?_
        refine ao_nil ?_
        refine aq_then ?_
        refine aw_ret ?_
        refine aq_in_ret ?_
        refine aq_then_ret ?_
        refine aq_then_ret ?_
        refine aq_in_ret ?_
        refine aq_then_ret ?_
        refine aq_ret ?_
        obtain rfl := is_some h
        exact aq_finx (l := [.tmp 2, .tmp 3]) (xs := [.bool false, .bool true]) idn [.bool false, .bool true] [] rfl (by exact ⟨rfl, rfl, trivial⟩) (by exact ⟨ad_ren rfl, ad_ren rfl, trivial⟩) (by exact trivial) rfl (nk rfl) rfl rfl ⟨rfl, rfl⟩
      · have q16 := d_t (not_f hb14)
        replace h := is_if (d_t (not_f hb14)) h
        refine aw_skip ?_
        refine aq_in ?_
        refine aq_then ?_
        refine aw_region ?_
        refine ao_read trivial (r_move rfl) rfl ?_
        refine ao_read trivial (r_addI rfl rfl (wrap_id (by omega) (by omega))) rfl ?_
        refine ao_read trivial (r_assign rfl) rfl ?_
        refine ao_nil ?_
        exact aq_again (AL.sub (sub_mk idn (by exact ⟨⟨_, rfl, ad_ren rfl⟩, ⟨_, rfl, ad_ren rfl⟩, ⟨_, rfl, ad_ren rfl⟩, trivial⟩) (by exact ⟨⟨_, rfl, rfl⟩, trivial⟩) (by rfl) (nk rfl)) (ih7 d7 (i6 + 1) () (by omega) ⟨by omega, (by (try simp only [List.length_set, List.length_append, List.length_cons, List.length_nil, List.length_replicate, List.length_take, List.length_drop]) <;> omega)⟩ h))
    · have q11 := d_f hb9
      obtain rfl : d7 = 0 := by omega
      replace h := is_cnt0 h
      refine aw_exit ?_
      refine aq_then_exit ?_
      refine aq_then_exit ?_
      refine aq_in_exit ?_
      refine aq_then ?_
      refine aw_seq ?_
      refine aw_region ?_
      refine ao_read trivial (r_assign rfl) rfl ?_
      refine ao_read trivial (r_assign rfl) rfl ?_
      refine ao_nil ?_
      refine aq_then ?_
      refine aw_ret ?_
      refine aq_ret ?_
      obtain rfl := is_some h
      exact aq_finx (l := [.tmp 2, .tmp 3]) (xs := [.bool true, .bool true]) idn [.bool true, .bool true] [] rfl (by exact ⟨rfl, rfl, trivial⟩) (by exact ⟨ad_ren rfl, ad_ren rfl, trivial⟩) (by exact trivial) rfl (nk rfl) rfl rfl ⟨rfl, rfl⟩
theorem c_laws_vCut {x0 : (List Int)} {x1 : Int} {r : (List Int)} (h : Is (p_laws_vCut x0 x1) (some r)) :
    ACalls Try.prog 18 [.v (.slice (.int .u8)) x0, .int .i64 x1] [] (fun r' H' => r' = .os 0 ∧ H' = [(0, .row (.int .u8) r)]) := by
  unfold p_laws_vCut at h
  refine ac_enter ⟨20, 0⟩ Try.func18 rfl rfl rfl rfl rfl (fun Γ => ?_)
  refine sl_len_m 0 (x0.length : Int) rfl rfl (fun hl0 => ?_)
  refine aw_seq ?_
  refine aw_region ?_
  refine ao_read trivial (r_assign rfl) rfl ?_
  refine ao_nil ?_
  refine aq_then ?_
  refine aw_join (fun (s1 : Int) => [(0, .v (.slice (.int .u8)) x0), (1, .int .i64 s1)]) (fun (s1 : Int) => []) (fun (s1 : Int) => True) h (fun s1 hI h => ?_) (fun h j3 => ?_)
  · refine aw_seq ?_
    refine aw_region ?_
    refine ao_eff trivial (e_buildSlice (l := []) (t := (.int .u8)) 0 ([] : (List Int)) rfl Try.underlying22 Try.zeroValue5 Try.sizeOf5 rfl rfl rfl rfl rfl rfl rfl) rfl ?_
    refine ao_read trivial (r_move rfl) rfl ?_
    refine ao_read trivial (r_move rfl) rfl ?_
    obtain ⟨g4, h⟩ := is_guard h
    obtain ⟨g5, h⟩ := is_guard h
    refine ao_read trivial (r_slice_vm (t := (.int .u8)) ((x0.drop s1.toNat) : (List Int)) Try.underlying22 Try.sizeOf5 rfl (.some rfl) .none (show 0 ≤ s1 from by omega) (show s1 ≤ (x0.length : Int) from by omega) (show (x0.length : Int) ≤ (x0.length : Int) from by omega) sl_hi) rfl ?_
    obtain ⟨g6, h⟩ := is_guard h
    refine ao_eff trivial (e_append (t := (.int .u8)) 1 rfl Try.underlying22 (rfl : Try.prog.info? 5 = some _) rfl rfl rfl rfl rfl rfl rfl src_v (show [].length + (x0.drop s1.toNat).length ≤ 1000000000 from by (try simp only [List.length_cons, List.length_nil, List.length_drop]) <;> omega) rfl rfl) rfl ?_
    refine ao_read trivial (r_move rfl) rfl ?_
    refine ao_read trivial (r_conv Try.underlying3 Try.underlying5 rfl) rfl ?_
    refine ao_eff trivial (e_buildSlice (l := [(0, .tmp 17)]) (t := (.int .u8)) 2 ([(IntKind.wrap .u8 s1)] : (List Int)) rfl Try.underlying22 Try.zeroValue5 Try.sizeOf5 rfl rfl rfl rfl rfl rfl rfl) rfl ?_
    obtain ⟨g7, h⟩ := is_guard h
    refine ao_eff trivial (e_append (t := (.int .u8)) 3 rfl Try.underlying22 (rfl : Try.prog.info? 5 = some _) rfl rfl rfl rfl rfl rfl rfl (src_os rfl) (show ([] ++ (x0.drop s1.toNat)).length + ([(IntKind.wrap .u8 s1)] : (List Int)).length ≤ 1000000000 from by (try simp only [List.length_append, List.length_cons, List.length_nil, List.length_drop]) <;> omega) rfl rfl) rfl ?_
    refine ao_read trivial (r_assign rfl) rfl ?_
    refine ao_nil ?_
    refine aq_then ?_
    refine aw_ret ?_
    refine aq_ret ?_
    obtain rfl := is_some h
    exact aq_finx (l := [.tmp 4]) (xs := [.os 3]) (rn [(0, 3)]) [.os 0] [(0, .row (.int .u8) ((([] ++ (x0.drop s1.toNat)) ++ [(IntKind.wrap .u8 s1)]) : (List Int)))] rfl (by exact ⟨rfl, trivial⟩) (by exact ⟨ad_ren rfl, trivial⟩) (by exact ⟨⟨_, rfl, rfl⟩, trivial⟩) rfl (nk rfl) rfl rfl ⟨rfl, rfl⟩
  · refine aw_seq ?_
    refine aw_region ?_
    refine ao_read trivial (r_move rfl) rfl ?_
    refine ao_read trivial (r_move rfl) rfl ?_
    refine ao_read trivial (r_len_vm (x0.length : Int) Try.underlying22 rfl rfl) rfl ?_
    refine ao_read trivial (r_gtr rfl rfl) rfl ?_
    refine ao_nil ?_
    refine aq_then ?_
    refine aw_cond rfl (fun hb8 => ?_) (fun hb8 => ?_)
    · have q9 := d_t hb8
      replace h := is_if (d_t hb8) h
      refine aw_region ?_
      refine ao_read trivial (r_move rfl) rfl ?_
      refine ao_read trivial (r_len_vm (x0.length : Int) Try.underlying22 rfl rfl) rfl ?_
      refine ao_read trivial (r_assign rfl) rfl ?_
      refine ao_nil ?_
      exact aq_then (AW.sub (sub_mk idn (by exact ⟨⟨_, rfl, ad_ren rfl⟩, ⟨_, rfl, ad_ren rfl⟩, trivial⟩) (by exact trivial) (by rfl) (nk rfl)) (j3 (x0.length : Int) trivial h))
    · have q10 := d_f hb8
      replace h := is_else (d_f hb8) h
      refine aw_skip ?_
      exact aq_then (AW.sub (sub_mk idn (by exact ⟨⟨_, rfl, ad_ren rfl⟩, ⟨_, rfl, ad_ren rfl⟩, trivial⟩) (by exact trivial) (by rfl) (nk rfl)) (j3 x1 trivial h))
theorem c_spec_DrawOrderOf {fu : Nat} {x0 : (List Int)} {r : (List (List Int)) × Int} (h : Is (p_spec_DrawOrderOf fu x0) (some r)) :
    ACalls Try.prog 17 [.v (.slice (.int .u8)) x0] [] (fun r' H' => r' = .tup [.os 0, .int .i64 r.2] ∧ H' = [(0, .row (.arr 6 (.int .i64)) r.1)]) := by
  unfold p_spec_DrawOrderOf at h
  refine ac_enter ⟨28, 0⟩ Try.func17 rfl rfl rfl rfl rfl (fun Γ => ?_)
  refine sl_len_m 0 (x0.length : Int) rfl rfl (fun hl0 => ?_)
  refine aw_seq ?_
  refine aw_region ?_
  refine ao_read trivial (r_assign rfl) rfl ?_
  refine ao_read trivial (r_assign rfl) rfl ?_
  refine ao_nil ?_
  refine aq_then ?_
  refine aw_seq ?_
  refine aw_region ?_
  refine ao_read trivial (r_move rfl) rfl ?_
  refine ao_read trivial (r_build_st (l := [(0, .tmp 6)]) (cs := [.cell (.v (.slice (.int .u8)) x0), .cell (.int .i64 0), .cell (.int .u64 0)]) (.pair (.slice (.int .u8)) (.pair (.int .i64) (.pair (.int .u64) .unit))) [(0, 1), (1, 1), (2, 1)] Try.underlying63 Try.zeroValue63 rfl ⟨rfl, Try.sizeOf22, rfl, Try.sizeOf3, rfl, Try.sizeOf61, trivial⟩ rfl rfl rfl) rfl ?_
  refine ao_eff trivial (e_box 0 rfl rfl rfl rfl rfl rfl) rfl ?_
  refine ao_read trivial (r_assign rfl) rfl ?_
  refine ao_nil ?_
  refine aq_then ?_
  refine aw_seq ?_
  refine aw_region ?_
  refine ao_read trivial (r_move rfl) rfl ?_
  obtain ⟨r1, r1h, h⟩ := is_bind h
  refine ao_callV [0] 1 trivial (c_spec_l1Cur_tieless10 (is_mk r1h)) Try.func49 rfl rfl rfl rfl rfl ⟨rfl, trivial⟩ ⟨⟨_, rfl, ⟨ad_ren rfl, rfl, ad_ren rfl, rfl, ad_ren rfl, rfl, trivial⟩⟩, trivial⟩ rfl rfl rfl rfl rfl rfl rfl (fun r' H' hr => ?_)
  obtain ⟨rfl, rfl⟩ := hr
  refine ao_norm (y := .os 1) (H' := [(0, .var [.cell (.v (.slice (.int .u8)) x0), .cell (.int .i64 r1.2.1), .cell (.int .u64 r1.2.2)]), (1, .row (.arr 6 (.int .i64)) r1.1)]) rfl rfl ?_
  refine row_len_o 1 (r1.1.length : Int) rfl rfl (fun hr2 => ?_)
  refine ao_read trivial (r_assign rfl) rfl ?_
  refine ao_nil ?_
  refine aq_then ?_
  refine aw_seq ?_
  refine aw_seq ?_
  refine aw_region ?_
  refine ao_read trivial (r_move rfl) rfl ?_
  obtain ⟨r3, r3h, h⟩ := is_bind h
  refine ao_scall trivial (scall (c_spec_l2Pool (is_mk r3h)) rfl Try.func52 rfl rfl rfl rfl (fun σ => ⟨ad_os0 rfl, trivial⟩)) rfl ?_
  refine ao_read trivial (r_move rfl) rfl ?_
  refine ao_split r3 (fun hb4 => ?_) (fun hb4 => ?_)
  · replace h := is_if hb4 h
    refine ao_read (by exact ⟨_, _, rfl, rfl, hb4⟩) (r_move rfl) rfl ?_
    obtain ⟨r5, r5h, h⟩ := is_bind h
    refine ao_callV [0] 2 (by exact ⟨_, _, rfl, rfl, hb4⟩) (c_spec_l1Cur_one (is_mk r5h)) Try.func48 rfl rfl rfl rfl rfl ⟨rfl, trivial⟩ ⟨⟨_, rfl, ⟨ad_ren rfl, rfl, ad_ren rfl, rfl, ad_ren rfl, rfl, trivial⟩⟩, trivial⟩ rfl rfl rfl rfl rfl rfl rfl (fun r' H' hr => ?_)
    obtain ⟨rfl, rfl⟩ := hr
    refine ao_norm (y := .bool r5.1) (H' := [(1, .row (.arr 6 (.int .i64)) r1.1), (0, .var [.cell (.v (.slice (.int .u8)) x0), .cell (.int .i64 r5.2.1), .cell (.int .u64 r5.2.2)])]) rfl rfl ?_
    refine ao_read (by exact ⟨_, _, rfl, rfl, hb4⟩) (r_not rfl) rfl ?_
    refine ao_read trivial (r_pickT rfl hb4 rfl) rfl ?_
    refine ao_nil ?_
    refine aq_then ?_
    refine aw_cond rfl (fun hb6 => ?_) (fun hb6 => ?_)
    · replace h := is_else (ne_t (not_t hb6)) h
      refine aw_seq ?_
      refine aw_region ?_
      refine ao_read trivial (r_move rfl) rfl ?_
      refine ao_read trivial (r_move rfl) rfl ?_
      refine ao_read trivial (r_move rfl) rfl ?_
      refine ao_read trivial (r_len_osm (r1.1.length : Int) Try.underlying24 rfl rfl rfl) rfl ?_
      obtain ⟨r7, r7h, h⟩ := is_bind h
      refine ao_scall trivial (scall (c_spec_l2All (is_mk r7h)) rfl Try.func59 rfl rfl rfl rfl (fun σ => ⟨ad_ren rfl, trivial⟩)) rfl ?_
      obtain ⟨r8, r8h, h⟩ := is_bind h
      refine ao_callV [0] 2 trivial (c_spec_l1Cur_pick (is_mk r8h)) Try.func60 rfl rfl rfl rfl rfl ⟨rfl, trivial⟩ ⟨⟨_, rfl, ⟨ad_ren rfl, rfl, ad_ren rfl, rfl, ad_ren rfl, rfl, trivial⟩⟩, trivial⟩ rfl rfl rfl rfl rfl rfl rfl (fun r' H' hr => ?_)
      obtain ⟨rfl, rfl⟩ := hr
      refine ao_norm (y := .int .i64 r8.1) (H' := [(1, .row (.arr 6 (.int .i64)) r1.1), (0, .var [.cell (.v (.slice (.int .u8)) x0), .cell (.int .i64 r8.2.1), .cell (.int .u64 r8.2.2)])]) rfl rfl ?_
      refine ao_read trivial (r_assign rfl) rfl ?_
      refine ao_read trivial (r_assign rfl) rfl ?_
      refine ao_nil ?_
      refine aq_then ?_
      refine aw_ret ?_
      refine aq_then_ret ?_
      refine aq_ret ?_
      obtain rfl := is_some h
      exact aq_finx (l := [.tmp 2, .tmp 3]) (xs := [.os 1, .int .i64 r8.1]) (rn [(0, 1)]) [.os 0, .int .i64 r8.1] [(0, .row (.arr 6 (.int .i64)) r1.1)] rfl (by exact ⟨rfl, rfl, trivial⟩) (by exact ⟨ad_ren rfl, ad_ren rfl, trivial⟩) (by exact ⟨⟨_, rfl, rfl⟩, trivial⟩) rfl (nk rfl) rfl rfl ⟨rfl, rfl⟩
    · replace h := is_if (not_f hb6) h
      refine aw_skip ?_
      refine aq_then ?_
      refine aw_seq ?_
      refine aw_region ?_
      refine ao_read trivial (r_move rfl) rfl ?_
      refine ao_read trivial (r_move rfl) rfl ?_
      refine ao_eff trivial (e_buildSlice (l := [(0, .const (.int .i64 (-1))), (1, .const (.int .i64 216)), (2, .const (.int .i64 1296)), (3, .const (.int .i64 4611686018427387904))]) (t := (.int .i64)) 2 ([(-1), 216, 1296, 4611686018427387904] : (List Int)) rfl Try.underlying26 Try.zeroValue3 Try.sizeOf3 rfl rfl rfl rfl rfl rfl rfl) rfl ?_
      obtain ⟨r9, r9h, h⟩ := is_bind h
      refine ao_frz (fr' := [(0, .v (.slice (.int .u8)) x0), (2, .nilsl), (3, .int .i64 0), (6, .v (.slice (.int .u8)) x0), (7, .st [.v (.slice (.int .u8)) x0, .int .i64 0, .int .u64 0]), (8, .ref 0 0), (4, .ref 0 0), (9, .ref 0 0), (10, .os 1), (5, .os 1), (11, .os 1), (12, .bool r3), (13, .bool r3), (14, .ref 0 0), (15, .bool r5.1), (16, .bool (!r5.1)), (17, .bool (!r5.1)), (24, .os 1), (25, .ref 0 0), (26, .v (.slice (.int .i64)) ([(-1), 216, 1296, 4611686018427387904] : (List Int)))]) (H' := [(1, .row (.arr 6 (.int .i64)) r1.1), (0, .var [.cell (.v (.slice (.int .u8)) x0), .cell (.int .i64 r5.2.1), .cell (.int .u64 r5.2.2)])]) (by exact ⟨⟨_, rfl, ad_ren rfl⟩, ⟨_, rfl, ad_ren rfl⟩, ⟨_, rfl, ad_ren rfl⟩, ⟨_, rfl, ad_ren rfl⟩, ⟨_, rfl, ad_ren rfl⟩, ⟨_, rfl, ad_ren rfl⟩, ⟨_, rfl, ad_ren rfl⟩, ⟨_, rfl, ad_ren rfl⟩, ⟨_, rfl, ad_ren rfl⟩, ⟨_, rfl, ad_ren rfl⟩, ⟨_, rfl, ad_ren rfl⟩, ⟨_, rfl, ad_ren rfl⟩, ⟨_, rfl, ad_ren rfl⟩, ⟨_, rfl, ad_ren rfl⟩, ⟨_, rfl, ad_ren rfl⟩, ⟨_, rfl, ad_ren rfl⟩, ⟨_, rfl, ad_ren rfl⟩, ⟨_, rfl, ad_ren rfl⟩, ⟨_, rfl, ad_ren rfl⟩, ⟨_, rfl, ad_osB rfl rfl⟩, trivial⟩) (by exact ⟨⟨_, rfl, rfl⟩, ⟨_, rfl, ⟨ad_ren rfl, rfl, ad_ren rfl, rfl, ad_ren rfl, rfl, trivial⟩⟩, trivial⟩) rfl ?_
      refine ao_callV [0] 3 trivial (c_spec_l1Cur_among (is_mk r9h)) Try.func61 rfl rfl rfl rfl rfl ⟨rfl, trivial⟩ ⟨⟨_, rfl, ⟨ad_ren rfl, rfl, ad_ren rfl, rfl, ad_ren rfl, rfl, trivial⟩⟩, trivial⟩ rfl rfl rfl rfl rfl rfl rfl (fun r' H' hr => ?_)
      obtain ⟨rfl, rfl⟩ := hr
      refine ao_norm (y := .int .i64 r9.1) (H' := [(1, .row (.arr 6 (.int .i64)) r1.1), (0, .var [.cell (.v (.slice (.int .u8)) x0), .cell (.int .i64 r9.2.1), .cell (.int .u64 r9.2.2)])]) rfl rfl ?_
      refine ao_read trivial (r_assign rfl) rfl ?_
      refine ao_read trivial (r_assign rfl) rfl ?_
      refine ao_nil ?_
      refine aq_then ?_
      refine aw_ret ?_
      refine aq_ret ?_
      obtain rfl := is_some h
      exact aq_finx (l := [.tmp 2, .tmp 3]) (xs := [.os 1, .int .i64 r9.1]) (rn [(0, 1)]) [.os 0, .int .i64 r9.1] [(0, .row (.arr 6 (.int .i64)) r1.1)] rfl (by exact ⟨rfl, rfl, trivial⟩) (by exact ⟨ad_ren rfl, ad_ren rfl, trivial⟩) (by exact ⟨⟨_, rfl, rfl⟩, trivial⟩) rfl (nk rfl) rfl rfl ⟨rfl, rfl⟩
  · replace h := is_else (ne_t hb4) h
    refine ao_skipT 3 2 13 rfl rfl hb4 rfl rfl rfl ?_
    refine ao_read trivial (r_pickF rfl hb4 rfl) rfl ?_
    refine ao_nil ?_
    refine aq_then ?_
    refine aw_cond rfl (fun hb => by cases hb) (fun _ => ?_)
    refine aw_skip ?_
    refine aq_then ?_
    refine aw_seq ?_
    refine aw_region ?_
    refine ao_read trivial (r_move rfl) rfl ?_
    refine ao_read trivial (r_move rfl) rfl ?_
    refine ao_eff trivial (e_buildSlice (l := [(0, .const (.int .i64 (-1))), (1, .const (.int .i64 216)), (2, .const (.int .i64 1296)), (3, .const (.int .i64 4611686018427387904))]) (t := (.int .i64)) 2 ([(-1), 216, 1296, 4611686018427387904] : (List Int)) rfl Try.underlying26 Try.zeroValue3 Try.sizeOf3 rfl rfl rfl rfl rfl rfl rfl) rfl ?_
    obtain ⟨r10, r10h, h⟩ := is_bind h
    refine ao_frz (fr' := [(0, .v (.slice (.int .u8)) x0), (2, .nilsl), (3, .int .i64 0), (6, .v (.slice (.int .u8)) x0), (7, .st [.v (.slice (.int .u8)) x0, .int .i64 0, .int .u64 0]), (8, .ref 0 0), (4, .ref 0 0), (9, .ref 0 0), (10, .os 1), (5, .os 1), (11, .os 1), (12, .bool r3), (13, .bool r3), (14, .gd false (.junk)), (15, .gd false (.junk)), (16, .gd false (.junk)), (17, .bool false), (24, .os 1), (25, .ref 0 0), (26, .v (.slice (.int .i64)) ([(-1), 216, 1296, 4611686018427387904] : (List Int)))]) (H' := [(0, .var [.cell (.v (.slice (.int .u8)) x0), .cell (.int .i64 r1.2.1), .cell (.int .u64 r1.2.2)]), (1, .row (.arr 6 (.int .i64)) r1.1)]) (by exact ⟨⟨_, rfl, ad_ren rfl⟩, ⟨_, rfl, ad_ren rfl⟩, ⟨_, rfl, ad_ren rfl⟩, ⟨_, rfl, ad_ren rfl⟩, ⟨_, rfl, ad_ren rfl⟩, ⟨_, rfl, ad_ren rfl⟩, ⟨_, rfl, ad_ren rfl⟩, ⟨_, rfl, ad_ren rfl⟩, ⟨_, rfl, ad_ren rfl⟩, ⟨_, rfl, ad_ren rfl⟩, ⟨_, rfl, ad_ren rfl⟩, ⟨_, rfl, ad_ren rfl⟩, ⟨_, rfl, ad_ren rfl⟩, ⟨_, rfl, ad_ren rfl⟩, ⟨_, rfl, ad_ren rfl⟩, ⟨_, rfl, ad_ren rfl⟩, ⟨_, rfl, ad_ren rfl⟩, ⟨_, rfl, ad_ren rfl⟩, ⟨_, rfl, ad_ren rfl⟩, ⟨_, rfl, ad_osB rfl rfl⟩, trivial⟩) (by exact ⟨⟨_, rfl, ⟨ad_ren rfl, rfl, ad_ren rfl, rfl, ad_ren rfl, rfl, trivial⟩⟩, ⟨_, rfl, rfl⟩, trivial⟩) rfl ?_
    refine ao_callV [0] 3 trivial (c_spec_l1Cur_among (is_mk r10h)) Try.func61 rfl rfl rfl rfl rfl ⟨rfl, trivial⟩ ⟨⟨_, rfl, ⟨ad_ren rfl, rfl, ad_ren rfl, rfl, ad_ren rfl, rfl, trivial⟩⟩, trivial⟩ rfl rfl rfl rfl rfl rfl rfl (fun r' H' hr => ?_)
    obtain ⟨rfl, rfl⟩ := hr
    refine ao_norm (y := .int .i64 r10.1) (H' := [(1, .row (.arr 6 (.int .i64)) r1.1), (0, .var [.cell (.v (.slice (.int .u8)) x0), .cell (.int .i64 r10.2.1), .cell (.int .u64 r10.2.2)])]) rfl rfl ?_
    refine ao_read trivial (r_assign rfl) rfl ?_
    refine ao_read trivial (r_assign rfl) rfl ?_
    refine ao_nil ?_
    refine aq_then ?_
    refine aw_ret ?_
    refine aq_ret ?_
    obtain rfl := is_some h
    exact aq_finx (l := [.tmp 2, .tmp 3]) (xs := [.os 1, .int .i64 r10.1]) (rn [(0, 1)]) [.os 0, .int .i64 r10.1] [(0, .row (.arr 6 (.int .i64)) r1.1)] rfl (by exact ⟨rfl, rfl, trivial⟩) (by exact ⟨ad_ren rfl, ad_ren rfl, trivial⟩) (by exact ⟨⟨_, rfl, rfl⟩, trivial⟩) rfl (nk rfl) rfl rfl ⟨rfl, rfl⟩
theorem c_impl_isOutcome {fu : Nat} {x0 : (List (List Int))} {x1 : Int} {r : Bool} (h : Is (p_impl_isOutcome fu x0 x1) (some r)) :
    Scalar Try.prog 62 [.v (.slice (.arr 6 (.int .i64))) x0, .int .i64 x1] (.bool r) := by
  unfold p_impl_isOutcome at h
  refine ac_enter ⟨11, 0⟩ Try.func62 rfl rfl rfl rfl rfl (fun Γ => ?_)
  refine sl_len_m 0 (x0.length : Int) rfl rfl (fun hl0 => ?_)
  refine aw_seq ?_
  refine aw_region ?_
  refine ao_read trivial (r_assign rfl) rfl ?_
  refine ao_nil ?_
  refine aq_then ?_
  refine aw_seq ?_
  refine aw_region ?_
  refine ao_read trivial (r_move rfl) rfl ?_
  refine ao_read trivial (r_move rfl) rfl ?_
  refine ao_read trivial (r_len_vm (x0.length : Int) Try.underlying24 rfl rfl) rfl ?_
  obtain ⟨r1, r1h, h⟩ := is_bind h
  refine ao_scall trivial (scall (c_impl_power (is_mk r1h)) rfl Try.func96 rfl rfl rfl rfl (fun σ => ⟨ad_ren rfl, trivial⟩)) rfl ?_
  refine ao_read trivial (r_sub rfl rfl) rfl ?_
  refine ao_scall trivial (scall (c_impl_within (is_mk (rfl : p_impl_within x1 0 (IntKind.wrap .i64 (r1 - 1)) = _))) rfl Try.func72 rfl rfl rfl rfl (fun σ => ⟨ad_ren rfl, ad_ren rfl, ad_ren rfl, trivial⟩)) rfl ?_
  refine ao_read trivial (r_assign rfl) rfl ?_
  refine ao_nil ?_
  refine aq_then ?_
  refine aw_ret ?_
  refine aq_ret ?_
  obtain rfl := is_some h
  exact aq_finx (l := [.tmp 4]) (xs := [.bool (p_impl_within x1 0 (IntKind.wrap .i64 (r1 - 1)))]) idn [.bool (p_impl_within x1 0 (IntKind.wrap .i64 (r1 - 1)))] [] rfl (by exact ⟨rfl, trivial⟩) (by exact ⟨ad_ren rfl, trivial⟩) (by exact trivial) rfl (nk rfl) rfl rfl ⟨rfl, rfl⟩
theorem c_impl_OrderOf {fu : Nat} {x0 : (List (List Int))} {x1 : Int} {r : ((List Int) × Unit) × Bool} (h : Is (p_impl_OrderOf fu x0 x1) (some r)) :
    Scalar Try.prog 19 [.v (.slice (.arr 6 (.int .i64))) x0, .int .i64 x1] (.tup [.v (.pair (.arr 4 (.int .i64)) .unit) r.1, .bool r.2]) := by
  unfold p_impl_OrderOf at h
  refine ac_enter ⟨22, 0⟩ Try.func19 rfl rfl rfl rfl rfl (fun Γ => ?_)
  refine sl_len_m 0 (x0.length : Int) rfl rfl (fun hl0 => ?_)
  refine aw_seq ?_
  refine aw_region ?_
  refine ao_eff trivial (e_alloc 0 (y := .st [.v (.arr 4 (.int .i64)) ((List.replicate 4 0) : (List Int))]) Try.zeroValue38 (fun ρ h M => ra_zero_st (t := (.pair (.arr 4 (.int .i64)) .unit)) rfl rfl rfl) rfl rfl rfl rfl rfl) rfl ?_
  refine ao_read trivial (r_assign rfl) rfl ?_
  refine ao_nil ?_
  refine aq_then ?_
  refine aw_seq ?_
  refine aw_seq ?_
  refine aw_region ?_
  refine ao_read trivial (r_move rfl) rfl ?_
  refine ao_scall trivial (scall (c_impl_IsPool (is_mk (rfl : p_impl_IsPool x0 = _))) rfl Try.func50 rfl rfl rfl rfl (fun σ => ⟨ad_ren rfl, trivial⟩)) rfl ?_
  refine ao_read trivial (r_not rfl) rfl ?_
  refine ao_read trivial (r_move rfl) rfl ?_
  refine ao_readG (x := .v (.slice (.arr 6 (.int .i64))) x0) rfl (GV.F rfl) (fun hg1 => r_move rfl) rfl ?_
  refine ao_readG (x := .int .i64 x1) rfl (GV.F rfl) (fun hg2 => r_move rfl) rfl ?_
  obtain ⟨g4, h⟩ := is_guard h
  refine ao_scallG (r := .bool ((p_impl_isOutcome fu x0 x1).getD false)) rfl (GV.F rfl) (fun hg3 => SCall.strip 10 rfl (hg3) (SCall.strip 11 rfl (hg3) (scall (c_impl_isOutcome (is_mk (isSome_getD (g4 hg3)))) rfl Try.func62 rfl rfl rfl rfl (fun σ => ⟨ad_ren rfl, ad_ren rfl, trivial⟩)))) rfl ?_
  refine ao_readG (x := .bool (!((p_impl_isOutcome fu x0 x1).getD false))) rfl (GV.F rfl) (fun hg5 => Reads.strip 12 rfl (hg5) (r_not rfl)) rfl ?_
  refine ao_read trivial (r_orB rfl rfl) rfl ?_
  refine ao_nil ?_
  refine aq_then ?_
  refine aw_cond rfl (fun hb6 => ?_) (fun hb6 => ?_)
  · replace h := is_if hb6 h
    refine aw_seq ?_
    refine aw_region ?_
    refine ao_read trivial (r_build_stv (l := []) (cs := [.arr (.int .i64) 4 ((List.replicate 4 0) : (List Int))]) (.pair (.arr 4 (.int .i64)) .unit) (((List.replicate 4 0), ()) : ((List Int) × Unit)) [(0, 4)] Try.underlying38 Try.zeroValue38 rfl ⟨rfl, Try.sizeOf36, trivial⟩ rfl rfl rfl rfl) rfl ?_
    refine ao_effS trivial (e_store rfl rfl rfl rfl Try.sizeOf38 rfl) ?_
    refine ao_read trivial (r_assign rfl) rfl ?_
    refine ao_nil ?_
    refine aq_then ?_
    refine aw_ret ?_
    refine aq_then_ret ?_
    refine aq_ret ?_
    obtain rfl := is_some h
    exact aq_finx (l := [.cell 4 38, .tmp 5]) (xs := [.st [.v (.arr 4 (.int .i64)) ((List.replicate 4 0) : (List Int))], .bool false]) idn [.v (.pair (.arr 4 (.int .i64)) .unit) (((List.replicate 4 0), ()) : ((List Int) × Unit)), .bool false] [] rfl (by exact ⟨⟨⟨_, _, rfl⟩, r_load_st [] [.arr (.int .i64) 4 ((List.replicate 4 0) : (List Int))] [] Try.isAgg38 Try.sizeOf38 rfl rfl rfl rfl rfl rfl rfl⟩, rfl, trivial⟩) (by exact ⟨ad_st rfl rfl ⟨ad_ren rfl, trivial⟩, ad_ren rfl, trivial⟩) (by exact trivial) rfl (nk rfl) rfl rfl ⟨rfl, rfl⟩
  · obtain ⟨q7, q8⟩ := or_f hb6
    replace h := is_else (ne_t hb6) h
    refine aw_skip ?_
    refine aq_then ?_
    refine aw_seq ?_
    refine aw_region ?_
    refine ao_read trivial (r_move rfl) rfl ?_
    refine ao_read trivial (r_move rfl) rfl ?_
    obtain ⟨r9, r9h, h⟩ := is_bind h
    refine ao_call [] 1 trivial (c_impl_rollAt (is_mk r9h)) Try.func64 rfl rfl rfl rfl ⟨ad_ren rfl, ad_ren rfl, trivial⟩ trivial rfl rfl rfl rfl rfl rfl rfl (fun r' H' hr => ?_)
    obtain ⟨rfl, rfl⟩ := hr
    refine ao_norm (y := .os 1) (H' := [(0, .var [.arr (.int .i64) 4 ((List.replicate 4 0) : (List Int))]), (1, .row (.int .i64) r9)]) rfl rfl ?_
    refine row_len_o 1 (r9.length : Int) rfl rfl (fun hr10 => ?_)
    obtain ⟨r11, r11h, h⟩ := is_bind h
    refine ao_scall trivial (scall (c_impl_orderOf (is_mk r11h)) rfl Try.func63 rfl rfl rfl rfl (fun σ => ⟨ad_os0 rfl, trivial⟩)) rfl ?_
    refine ao_read trivial (r_extract rfl rfl) rfl ?_
    refine ao_read trivial (r_extract rfl rfl) rfl ?_
    refine ao_effS trivial (e_store rfl rfl rfl rfl Try.sizeOf38 rfl) ?_
    refine ao_read trivial (r_assign rfl) rfl ?_
    refine ao_nil ?_
    refine aq_then ?_
    refine aw_ret ?_
    refine aq_ret ?_
    obtain rfl := is_some h
    exact aq_finx (l := [.cell 4 38, .tmp 5]) (xs := [.st [.v (.arr 4 (.int .i64)) r11.1.1], .bool r11.2]) idn [.v (.pair (.arr 4 (.int .i64)) .unit) ((r11.1.1, ()) : ((List Int) × Unit)), .bool r11.2] [] rfl (by exact ⟨⟨⟨_, _, rfl⟩, r_load_st [] [.arr (.int .i64) 4 r11.1.1] [] Try.isAgg38 Try.sizeOf38 rfl rfl rfl rfl rfl rfl rfl⟩, rfl, trivial⟩) (by exact ⟨ad_st rfl rfl ⟨ad_ren rfl, trivial⟩, ad_ren rfl, trivial⟩) (by exact trivial) rfl (nk rfl) rfl rfl ⟨rfl, rfl⟩
theorem c_spec_RollAt {fu : Nat} {x0 : (List (List Int))} {x1 : Int} {r : (List Int) × Bool} (h : Is (p_spec_RollAt fu x0 x1) (some r)) :
    ACalls Try.prog 65 [.v (.slice (.arr 6 (.int .i64))) x0, .int .i64 x1] [] (fun r' H' => r' = .tup [.os 0, .bool r.2] ∧ H' = [(0, .row (.int .i64) r.1)]) := by
  unfold p_spec_RollAt at h
  refine ac_enter ⟨22, 0⟩ Try.func65 rfl rfl rfl rfl rfl (fun Γ => ?_)
  refine sl_len_m 0 (x0.length : Int) rfl rfl (fun hl0 => ?_)
  refine aw_seq ?_
  refine aw_region ?_
  refine ao_read trivial (r_assign rfl) rfl ?_
  refine ao_read trivial (r_assign rfl) rfl ?_
  refine ao_nil ?_
  refine aq_then ?_
  refine aw_seq ?_
  refine aw_seq ?_
  refine aw_region ?_
  refine ao_read trivial (r_move rfl) rfl ?_
  obtain ⟨r1, r1h, h⟩ := is_bind h
  refine ao_scall trivial (scall (c_spec_l2Pool (is_mk r1h)) rfl Try.func52 rfl rfl rfl rfl (fun σ => ⟨ad_ren rfl, trivial⟩)) rfl ?_
  refine ao_read trivial (r_not rfl) rfl ?_
  refine ao_read trivial (r_move rfl) rfl ?_
  refine ao_readG (x := .int .i64 x1) rfl (GV.F rfl) (fun hg2 => r_move rfl) rfl ?_
  refine ao_readG (x := .v (.slice (.arr 6 (.int .i64))) x0) rfl (GV.F rfl) (fun hg3 => r_move rfl) rfl ?_
  refine ao_readG (x := .int .i64 (x0.length : Int)) rfl (GV.F rfl) (fun hg4 => Reads.strip 11 rfl (hg4) (r_len_vm (x0.length : Int) Try.underlying24 rfl rfl)) rfl ?_
  obtain ⟨g6, h⟩ := is_guard h
  refine ao_scallG (r := .int .i64 ((p_spec_l2All fu (x0.length : Int)).getD 0)) rfl (GV.F rfl) (fun hg5 => SCall.strip 12 rfl (hg5) (scall (c_spec_l2All (is_mk (isSome_getD (g6 hg5)))) rfl Try.func59 rfl rfl rfl rfl (fun σ => ⟨ad_ren rfl, trivial⟩))) rfl ?_
  refine ao_readG (x := .int .i64 (IntKind.wrap .i64 (((p_spec_l2All fu (x0.length : Int)).getD 0) - 1))) rfl (GV.F rfl) (fun hg7 => Reads.strip 13 rfl (hg7) (r_sub rfl rfl)) rfl ?_
  refine ao_scallG (r := .bool (p_spec_l1In x1 0 (IntKind.wrap .i64 (((p_spec_l2All fu (x0.length : Int)).getD 0) - 1)))) rfl (GV.F rfl) (fun hg8 => SCall.strip 10 rfl (hg8) (SCall.strip 14 rfl (hg8) (scall (c_spec_l1In (is_mk (rfl : p_spec_l1In x1 0 (IntKind.wrap .i64 (((p_spec_l2All fu (x0.length : Int)).getD 0) - 1)) = _))) rfl Try.func71 rfl rfl rfl rfl (fun σ => ⟨ad_ren rfl, ad_ren rfl, ad_ren rfl, trivial⟩)))) rfl ?_
  refine ao_readG (x := .bool (!(p_spec_l1In x1 0 (IntKind.wrap .i64 (((p_spec_l2All fu (x0.length : Int)).getD 0) - 1))))) rfl (GV.F rfl) (fun hg9 => Reads.strip 15 rfl (hg9) (r_not rfl)) rfl ?_
  refine ao_read trivial (r_orB rfl rfl) rfl ?_
  refine ao_nil ?_
  refine aq_then ?_
  refine aw_cond rfl (fun hb10 => ?_) (fun hb10 => ?_)
  · replace h := is_if hb10 h
    refine aw_seq ?_
    refine aw_region ?_
    refine ao_eff trivial (e_buildSlice (l := []) (t := (.int .i64)) 0 ([] : (List Int)) rfl Try.underlying26 Try.zeroValue3 Try.sizeOf3 rfl rfl rfl rfl rfl rfl rfl) rfl ?_
    refine ao_read trivial (r_assign rfl) rfl ?_
    refine ao_read trivial (r_assign rfl) rfl ?_
    refine ao_nil ?_
    refine aq_then ?_
    refine aw_ret ?_
    refine aq_then_ret ?_
    refine aq_ret ?_
    obtain rfl := is_some h
    exact aq_finx (l := [.tmp 4, .tmp 5]) (xs := [.os 0, .bool false]) idn [.os 0, .bool false] [(0, .row (.int .i64) ([] : (List Int)))] rfl (by exact ⟨rfl, rfl, trivial⟩) (by exact ⟨ad_ren rfl, ad_ren rfl, trivial⟩) (by exact ⟨⟨_, rfl, rfl⟩, trivial⟩) rfl (nk rfl) rfl rfl ⟨rfl, rfl⟩
  · obtain ⟨q11, q12⟩ := or_f hb10
    replace h := is_else (ne_t hb10) h
    refine aw_skip ?_
    refine aq_then ?_
    refine aw_seq ?_
    refine aw_region ?_
    refine ao_read trivial (r_move rfl) rfl ?_
    refine ao_read trivial (r_move rfl) rfl ?_
    obtain ⟨r13, r13h, h⟩ := is_bind h
    refine ao_call [] 1 trivial (c_spec_l2Roll (is_mk r13h)) Try.func99 rfl rfl rfl rfl ⟨ad_ren rfl, ad_ren rfl, trivial⟩ trivial rfl rfl rfl rfl rfl rfl rfl (fun r' H' hr => ?_)
    obtain ⟨rfl, rfl⟩ := hr
    refine ao_norm (y := .os 1) (H' := [(1, .row (.int .i64) r13)]) rfl rfl ?_
    refine row_len_o 1 (r13.length : Int) rfl rfl (fun hr14 => ?_)
    refine ao_read trivial (r_assign rfl) rfl ?_
    refine ao_read trivial (r_assign rfl) rfl ?_
    refine ao_nil ?_
    refine aq_then ?_
    refine aw_ret ?_
    refine aq_ret ?_
    obtain rfl := is_some h
    exact aq_finx (l := [.tmp 4, .tmp 5]) (xs := [.os 1, .bool true]) (rn [(0, 1)]) [.os 0, .bool true] [(0, .row (.int .i64) r13)] rfl (by exact ⟨rfl, rfl, trivial⟩) (by exact ⟨ad_ren rfl, ad_ren rfl, trivial⟩) (by exact ⟨⟨_, rfl, rfl⟩, trivial⟩) rfl (nk rfl) rfl rfl ⟨rfl, rfl⟩
theorem c_spec_OrderOf {fu : Nat} {x0 : (List (List Int))} {x1 : Int} {r : ((List Int) × Unit) × Bool} (h : Is (p_spec_OrderOf fu x0 x1) (some r)) :
    Scalar Try.prog 20 [.v (.slice (.arr 6 (.int .i64))) x0, .int .i64 x1] (.tup [.v (.pair (.arr 4 (.int .i64)) .unit) r.1, .bool r.2]) := by
  unfold p_spec_OrderOf at h
  refine ac_enter ⟨21, 0⟩ Try.func20 rfl rfl rfl rfl rfl (fun Γ => ?_)
  refine sl_len_m 0 (x0.length : Int) rfl rfl (fun hl0 => ?_)
  refine aw_seq ?_
  refine aw_region ?_
  refine ao_eff trivial (e_alloc 0 (y := .st [.v (.arr 4 (.int .i64)) ((List.replicate 4 0) : (List Int))]) Try.zeroValue38 (fun ρ h M => ra_zero_st (t := (.pair (.arr 4 (.int .i64)) .unit)) rfl rfl rfl) rfl rfl rfl rfl rfl) rfl ?_
  refine ao_read trivial (r_assign rfl) rfl ?_
  refine ao_nil ?_
  refine aq_then ?_
  refine aw_seq ?_
  refine aw_region ?_
  refine ao_read trivial (r_move rfl) rfl ?_
  refine ao_read trivial (r_move rfl) rfl ?_
  obtain ⟨r1, r1h, h⟩ := is_bind h
  refine ao_call [] 1 trivial (c_spec_RollAt (is_mk r1h)) Try.func65 rfl rfl rfl rfl ⟨ad_ren rfl, ad_ren rfl, trivial⟩ trivial rfl rfl rfl rfl rfl rfl rfl (fun r' H' hr => ?_)
  obtain ⟨rfl, rfl⟩ := hr
  refine ao_norm (y := .tup [.os 1, .bool r1.2]) (H' := [(0, .var [.arr (.int .i64) 4 ((List.replicate 4 0) : (List Int))]), (1, .row (.int .i64) r1.1)]) rfl rfl ?_
  refine row_len_o 1 (r1.1.length : Int) rfl rfl (fun hr2 => ?_)
  refine ao_read trivial (r_move rfl) rfl ?_
  refine ao_read trivial (r_extract rfl rfl) rfl ?_
  refine ao_read trivial (r_extract rfl rfl) rfl ?_
  refine ao_read trivial (r_assign rfl) rfl ?_
  refine ao_read trivial (r_assign rfl) rfl ?_
  refine ao_nil ?_
  refine aq_then ?_
  refine aw_seq ?_
  refine aw_seq ?_
  refine aw_region ?_
  refine ao_read trivial (r_move rfl) rfl ?_
  refine ao_read trivial (r_not rfl) rfl ?_
  refine ao_nil ?_
  refine aq_then ?_
  refine aw_cond rfl (fun hb3 => ?_) (fun hb3 => ?_)
  · replace h := is_else (ne_t (not_t hb3)) h
    refine aw_seq ?_
    refine aw_region ?_
    refine ao_read trivial (r_build_stv (l := []) (cs := [.arr (.int .i64) 4 ((List.replicate 4 0) : (List Int))]) (.pair (.arr 4 (.int .i64)) .unit) (((List.replicate 4 0), ()) : ((List Int) × Unit)) [(0, 4)] Try.underlying38 Try.zeroValue38 rfl ⟨rfl, Try.sizeOf36, trivial⟩ rfl rfl rfl rfl) rfl ?_
    refine ao_effS trivial (e_store rfl rfl rfl rfl Try.sizeOf38 rfl) ?_
    refine ao_read trivial (r_assign rfl) rfl ?_
    refine ao_nil ?_
    refine aq_then ?_
    refine aw_ret ?_
    refine aq_then_ret ?_
    refine aq_ret ?_
    obtain rfl := is_some h
    exact aq_finx (l := [.cell 4 38, .tmp 5]) (xs := [.st [.v (.arr 4 (.int .i64)) ((List.replicate 4 0) : (List Int))], .bool false]) idn [.v (.pair (.arr 4 (.int .i64)) .unit) (((List.replicate 4 0), ()) : ((List Int) × Unit)), .bool false] [] rfl (by exact ⟨⟨⟨_, _, rfl⟩, r_load_st [] [.arr (.int .i64) 4 ((List.replicate 4 0) : (List Int))] [] Try.isAgg38 Try.sizeOf38 rfl rfl rfl rfl rfl rfl rfl⟩, rfl, trivial⟩) (by exact ⟨ad_st rfl rfl ⟨ad_ren rfl, trivial⟩, ad_ren rfl, trivial⟩) (by exact trivial) rfl (nk rfl) rfl rfl ⟨rfl, rfl⟩
  · replace h := is_if (not_f hb3) h
    refine aw_skip ?_
    refine aq_then ?_
    refine aw_seq ?_
    refine aw_region ?_
    refine ao_read trivial (r_move rfl) rfl ?_
    obtain ⟨r4, r4h, h⟩ := is_bind h
    refine ao_scall trivial (scall (c_spec_l10Order (is_mk r4h)) rfl Try.func66 rfl rfl rfl rfl (fun σ => ⟨ad_os0 rfl, trivial⟩)) rfl ?_
    refine ao_read trivial (r_extract rfl rfl) rfl ?_
    refine ao_read trivial (r_extract rfl rfl) rfl ?_
    refine ao_effS trivial (e_store rfl rfl rfl rfl Try.sizeOf38 rfl) ?_
    refine ao_read trivial (r_assign rfl) rfl ?_
    refine ao_nil ?_
    refine aq_then ?_
    refine aw_ret ?_
    refine aq_ret ?_
    obtain rfl := is_some h
    exact aq_finx (l := [.cell 4 38, .tmp 5]) (xs := [.st [.v (.arr 4 (.int .i64)) r4.1.1], .bool r4.2]) idn [.v (.pair (.arr 4 (.int .i64)) .unit) ((r4.1.1, ()) : ((List Int) × Unit)), .bool r4.2] [] rfl (by exact ⟨⟨⟨_, _, rfl⟩, r_load_st [] [.arr (.int .i64) 4 r4.1.1] [] Try.isAgg38 Try.sizeOf38 rfl rfl rfl rfl rfl rfl rfl⟩, rfl, trivial⟩) (by exact ⟨ad_st rfl rfl ⟨ad_ren rfl, trivial⟩, ad_ren rfl, trivial⟩) (by exact trivial) rfl (nk rfl) rfl rfl ⟨rfl, rfl⟩
theorem c_spec_l1Least {x0 : Int} {x1 : Int} {r : Int} (h : Is (p_spec_l1Least x0 x1) r) :
    Scalar Try.prog 68 [.int .i64 x0, .int .i64 x1] (.int .i64 r) := by
  unfold p_spec_l1Least at h
  refine ac_enter ⟨10, 0⟩ Try.func68 rfl rfl rfl rfl rfl (fun Γ => ?_)
  refine aw_seq ?_
  refine aw_region ?_
  refine ao_read trivial (r_assign rfl) rfl ?_
  refine ao_nil ?_
  refine aq_then ?_
  refine aw_seq ?_
  refine aw_seq ?_
  refine aw_region ?_
  refine ao_read trivial (r_move rfl) rfl ?_
  refine ao_read trivial (r_move rfl) rfl ?_
  refine ao_read trivial (r_lss rfl rfl) rfl ?_
  refine ao_nil ?_
  refine aq_then ?_
  refine aw_cond rfl (fun hb1 => ?_) (fun hb1 => ?_)
  · have q2 := d_t hb1
    replace h := is_if (d_t hb1) h
    refine aw_seq ?_
    refine aw_region ?_
    refine ao_read trivial (r_move rfl) rfl ?_
    refine ao_read trivial (r_assign rfl) rfl ?_
    refine ao_nil ?_
    refine aq_then ?_
    refine aw_ret ?_
    refine aq_then_ret ?_
    refine aq_ret ?_
    obtain rfl := is_eq h
    exact aq_finx (l := [.tmp 4]) (xs := [.int .i64 x0]) idn [.int .i64 x0] [] rfl (by exact ⟨rfl, trivial⟩) (by exact ⟨ad_ren rfl, trivial⟩) (by exact trivial) rfl (nk rfl) rfl rfl ⟨rfl, rfl⟩
  · have q3 := d_f hb1
    replace h := is_else (d_f hb1) h
    refine aw_skip ?_
    refine aq_then ?_
    refine aw_seq ?_
    refine aw_region ?_
    refine ao_read trivial (r_move rfl) rfl ?_
    refine ao_read trivial (r_assign rfl) rfl ?_
    refine ao_nil ?_
    refine aq_then ?_
    refine aw_ret ?_
    refine aq_ret ?_
    obtain rfl := is_eq h
    exact aq_finx (l := [.tmp 4]) (xs := [.int .i64 x1]) idn [.int .i64 x1] [] rfl (by exact ⟨rfl, trivial⟩) (by exact ⟨ad_ren rfl, trivial⟩) (by exact trivial) rfl (nk rfl) rfl rfl ⟨rfl, rfl⟩
theorem c_spec_l1Most {x0 : Int} {x1 : Int} {r : Int} (h : Is (p_spec_l1Most x0 x1) r) :
    Scalar Try.prog 67 [.int .i64 x0, .int .i64 x1] (.int .i64 r) := by
  unfold p_spec_l1Most at h
  refine ac_enter ⟨10, 0⟩ Try.func67 rfl rfl rfl rfl rfl (fun Γ => ?_)
  refine aw_seq ?_
  refine aw_region ?_
  refine ao_read trivial (r_assign rfl) rfl ?_
  refine ao_nil ?_
  refine aq_then ?_
  refine aw_seq ?_
  refine aw_seq ?_
  refine aw_region ?_
  refine ao_read trivial (r_move rfl) rfl ?_
  refine ao_read trivial (r_move rfl) rfl ?_
  refine ao_read trivial (r_gtr rfl rfl) rfl ?_
  refine ao_nil ?_
  refine aq_then ?_
  refine aw_cond rfl (fun hb1 => ?_) (fun hb1 => ?_)
  · have q2 := d_t hb1
    replace h := is_if (d_t hb1) h
    refine aw_seq ?_
    refine aw_region ?_
    refine ao_read trivial (r_move rfl) rfl ?_
    refine ao_read trivial (r_assign rfl) rfl ?_
    refine ao_nil ?_
    refine aq_then ?_
    refine aw_ret ?_
    refine aq_then_ret ?_
    refine aq_ret ?_
    obtain rfl := is_eq h
    exact aq_finx (l := [.tmp 4]) (xs := [.int .i64 x0]) idn [.int .i64 x0] [] rfl (by exact ⟨rfl, trivial⟩) (by exact ⟨ad_ren rfl, trivial⟩) (by exact trivial) rfl (nk rfl) rfl rfl ⟨rfl, rfl⟩
  · have q3 := d_f hb1
    replace h := is_else (d_f hb1) h
    refine aw_skip ?_
    refine aq_then ?_
    refine aw_seq ?_
    refine aw_region ?_
    refine ao_read trivial (r_move rfl) rfl ?_
    refine ao_read trivial (r_assign rfl) rfl ?_
    refine ao_nil ?_
    refine aq_then ?_
    refine aw_ret ?_
    refine aq_ret ?_
    obtain rfl := is_eq h
    exact aq_finx (l := [.tmp 4]) (xs := [.int .i64 x1]) idn [.int .i64 x1] [] rfl (by exact ⟨rfl, trivial⟩) (by exact ⟨ad_ren rfl, trivial⟩) (by exact trivial) rfl (nk rfl) rfl rfl ⟨rfl, rfl⟩
theorem c_spec_DrawWaysAt {fu : Nat} {x0 : (List Int)} {r : (List (List Int)) × Int × Int} (h : Is (p_spec_DrawWaysAt fu x0) (some r)) :
    ACalls Try.prog 21 [.v (.slice (.int .u8)) x0] [] (fun r' H' => r' = .tup [.os 0, .int .i64 r.2.1, .int .i64 r.2.2] ∧ H' = [(0, .row (.arr 6 (.int .i64)) r.1)]) := by
  unfold p_spec_DrawWaysAt at h
  refine ac_enter ⟨32, 0⟩ Try.func21 rfl rfl rfl rfl rfl (fun Γ => ?_)
  refine sl_len_m 0 (x0.length : Int) rfl rfl (fun hl0 => ?_)
  refine aw_seq ?_
  refine aw_region ?_
  refine ao_read trivial (r_assign rfl) rfl ?_
  refine ao_read trivial (r_assign rfl) rfl ?_
  refine ao_read trivial (r_assign rfl) rfl ?_
  refine ao_nil ?_
  refine aq_then ?_
  refine aw_seq ?_
  refine aw_region ?_
  refine ao_read trivial (r_move rfl) rfl ?_
  refine ao_read trivial (r_build_st (l := [(0, .tmp 8)]) (cs := [.cell (.v (.slice (.int .u8)) x0), .cell (.int .i64 0), .cell (.int .u64 0)]) (.pair (.slice (.int .u8)) (.pair (.int .i64) (.pair (.int .u64) .unit))) [(0, 1), (1, 1), (2, 1)] Try.underlying63 Try.zeroValue63 rfl ⟨rfl, Try.sizeOf22, rfl, Try.sizeOf3, rfl, Try.sizeOf61, trivial⟩ rfl rfl rfl) rfl ?_
  refine ao_eff trivial (e_box 0 rfl rfl rfl rfl rfl rfl) rfl ?_
  refine ao_read trivial (r_assign rfl) rfl ?_
  refine ao_nil ?_
  refine aq_then ?_
  refine aw_seq ?_
  refine aw_region ?_
  refine ao_read trivial (r_move rfl) rfl ?_
  obtain ⟨r1, r1h, h⟩ := is_bind h
  refine ao_callV [0] 1 trivial (c_spec_l1Cur_tieless10 (is_mk r1h)) Try.func49 rfl rfl rfl rfl rfl ⟨rfl, trivial⟩ ⟨⟨_, rfl, ⟨ad_ren rfl, rfl, ad_ren rfl, rfl, ad_ren rfl, rfl, trivial⟩⟩, trivial⟩ rfl rfl rfl rfl rfl rfl rfl (fun r' H' hr => ?_)
  obtain ⟨rfl, rfl⟩ := hr
  refine ao_norm (y := .os 1) (H' := [(0, .var [.cell (.v (.slice (.int .u8)) x0), .cell (.int .i64 r1.2.1), .cell (.int .u64 r1.2.2)]), (1, .row (.arr 6 (.int .i64)) r1.1)]) rfl rfl ?_
  refine row_len_o 1 (r1.1.length : Int) rfl rfl (fun hr2 => ?_)
  refine ao_read trivial (r_assign rfl) rfl ?_
  refine ao_nil ?_
  refine aq_then ?_
  refine aw_seq ?_
  refine aw_region ?_
  refine ao_read trivial (r_move rfl) rfl ?_
  refine ao_read trivial (r_len_osm (r1.1.length : Int) Try.underlying24 rfl rfl rfl) rfl ?_
  refine ao_scall trivial (scall (c_spec_l1Least (is_mk (rfl : p_spec_l1Least (r1.1.length : Int) 4 = _))) rfl Try.func68 rfl rfl rfl rfl (fun σ => ⟨ad_ren rfl, ad_ren rfl, trivial⟩)) rfl ?_
  refine ao_scall trivial (scall (c_spec_l1Most (is_mk (rfl : p_spec_l1Most 1 (p_spec_l1Least (r1.1.length : Int) 4) = _))) rfl Try.func67 rfl rfl rfl rfl (fun σ => ⟨ad_ren rfl, ad_ren rfl, trivial⟩)) rfl ?_
  refine ao_read trivial (r_assign rfl) rfl ?_
  refine ao_nil ?_
  refine aq_then ?_
  refine aw_seq ?_
  refine aw_region ?_
  refine ao_read trivial (r_move rfl) rfl ?_
  refine ao_read trivial (r_move rfl) rfl ?_
  refine ao_read trivial (r_move rfl) rfl ?_
  obtain ⟨r3, r3h, h⟩ := is_bind h
  refine ao_callV [0] 2 trivial (c_spec_l1Cur_pick (is_mk r3h)) Try.func60 rfl rfl rfl rfl rfl ⟨rfl, trivial⟩ ⟨⟨_, rfl, ⟨ad_ren rfl, rfl, ad_ren rfl, rfl, ad_ren rfl, rfl, trivial⟩⟩, trivial⟩ rfl rfl rfl rfl rfl rfl rfl (fun r' H' hr => ?_)
  obtain ⟨rfl, rfl⟩ := hr
  refine ao_norm (y := .int .i64 r3.1) (H' := [(1, .row (.arr 6 (.int .i64)) r1.1), (0, .var [.cell (.v (.slice (.int .u8)) x0), .cell (.int .i64 r3.2.1), .cell (.int .u64 r3.2.2)])]) rfl rfl ?_
  refine ao_read trivial (r_move rfl) rfl ?_
  obtain ⟨r4, r4h, h⟩ := is_bind h
  refine ao_callV [0] 2 trivial (c_spec_l1Cur_pick (is_mk r4h)) Try.func60 rfl rfl rfl rfl rfl ⟨rfl, trivial⟩ ⟨⟨_, rfl, ⟨ad_ren rfl, rfl, ad_ren rfl, rfl, ad_ren rfl, rfl, trivial⟩⟩, trivial⟩ rfl rfl rfl rfl rfl rfl rfl (fun r' H' hr => ?_)
  obtain ⟨rfl, rfl⟩ := hr
  refine ao_norm (y := .int .i64 r4.1) (H' := [(1, .row (.arr 6 (.int .i64)) r1.1), (0, .var [.cell (.v (.slice (.int .u8)) x0), .cell (.int .i64 r4.2.1), .cell (.int .u64 r4.2.2)])]) rfl rfl ?_
  refine ao_read trivial (r_quo rfl rfl (by decide)) rfl ?_
  refine ao_read trivial (r_sub rfl rfl) rfl ?_
  refine ao_read trivial (r_move rfl) rfl ?_
  refine ao_read trivial (r_move rfl) rfl ?_
  obtain ⟨r5, r5h, h⟩ := is_bind h
  refine ao_callV [0] 2 trivial (c_spec_l1Cur_pick (is_mk r5h)) Try.func60 rfl rfl rfl rfl rfl ⟨rfl, trivial⟩ ⟨⟨_, rfl, ⟨ad_ren rfl, rfl, ad_ren rfl, rfl, ad_ren rfl, rfl, trivial⟩⟩, trivial⟩ rfl rfl rfl rfl rfl rfl rfl (fun r' H' hr => ?_)
  obtain ⟨rfl, rfl⟩ := hr
  refine ao_norm (y := .int .i64 r5.1) (H' := [(1, .row (.arr 6 (.int .i64)) r1.1), (0, .var [.cell (.v (.slice (.int .u8)) x0), .cell (.int .i64 r5.2.1), .cell (.int .u64 r5.2.2)])]) rfl rfl ?_
  refine ao_read trivial (r_move rfl) rfl ?_
  obtain ⟨r6, r6h, h⟩ := is_bind h
  refine ao_callV [0] 2 trivial (c_spec_l1Cur_pick (is_mk r6h)) Try.func60 rfl rfl rfl rfl rfl ⟨rfl, trivial⟩ ⟨⟨_, rfl, ⟨ad_ren rfl, rfl, ad_ren rfl, rfl, ad_ren rfl, rfl, trivial⟩⟩, trivial⟩ rfl rfl rfl rfl rfl rfl rfl (fun r' H' hr => ?_)
  obtain ⟨rfl, rfl⟩ := hr
  refine ao_norm (y := .int .i64 r6.1) (H' := [(1, .row (.arr 6 (.int .i64)) r1.1), (0, .var [.cell (.v (.slice (.int .u8)) x0), .cell (.int .i64 r6.2.1), .cell (.int .u64 r6.2.2)])]) rfl rfl ?_
  refine ao_read trivial (r_quo rfl rfl (by decide)) rfl ?_
  refine ao_read trivial (r_add rfl rfl) rfl ?_
  refine ao_read trivial (r_assign rfl) rfl ?_
  refine ao_read trivial (r_assign rfl) rfl ?_
  refine ao_read trivial (r_assign rfl) rfl ?_
  refine ao_nil ?_
  refine aq_then ?_
  refine aw_ret ?_
  refine aq_ret ?_
  obtain rfl := is_some h
  exact aq_finx (l := [.tmp 2, .tmp 3, .tmp 4]) (xs := [.os 1, .int .i64 (IntKind.wrap .i64 (r3.1 - (IntKind.wrap .i64 (r4.1.tdiv 23)))), .int .i64 (IntKind.wrap .i64 (r5.1 + (IntKind.wrap .i64 (r6.1.tdiv 23))))]) (rn [(0, 1)]) [.os 0, .int .i64 (IntKind.wrap .i64 (r3.1 - (IntKind.wrap .i64 (r4.1.tdiv 23)))), .int .i64 (IntKind.wrap .i64 (r5.1 + (IntKind.wrap .i64 (r6.1.tdiv 23))))] [(0, .row (.arr 6 (.int .i64)) r1.1)] rfl (by exact ⟨rfl, rfl, rfl, trivial⟩) (by exact ⟨ad_ren rfl, ad_ren rfl, ad_ren rfl, trivial⟩) (by exact ⟨⟨_, rfl, rfl⟩, trivial⟩) rfl (nk rfl) rfl rfl ⟨rfl, rfl⟩
theorem c_impl_isPlayer {x0 : (List (List Int))} {x1 : Int} {r : Bool} (h : Is (p_impl_isPlayer x0 x1) r) :
    Scalar Try.prog 69 [.v (.slice (.arr 6 (.int .i64))) x0, .int .i64 x1] (.bool r) := by
  unfold p_impl_isPlayer at h
  refine ac_enter ⟨10, 0⟩ Try.func69 rfl rfl rfl rfl rfl (fun Γ => ?_)
  refine sl_len_m 0 (x0.length : Int) rfl rfl (fun hl0 => ?_)
  refine aw_seq ?_
  refine aw_region ?_
  refine ao_read trivial (r_assign rfl) rfl ?_
  refine ao_nil ?_
  refine aq_then ?_
  refine aw_seq ?_
  refine aw_region ?_
  refine ao_read trivial (r_move rfl) rfl ?_
  refine ao_read trivial (r_move rfl) rfl ?_
  refine ao_read trivial (r_len_vm (x0.length : Int) Try.underlying24 rfl rfl) rfl ?_
  refine ao_read trivial (r_subI rfl rfl (wrap_id (by omega) (by omega))) rfl ?_
  refine ao_scall trivial (scall (c_impl_within (is_mk (rfl : p_impl_within x1 0 ((x0.length : Int) - 1) = _))) rfl Try.func72 rfl rfl rfl rfl (fun σ => ⟨ad_ren rfl, ad_ren rfl, ad_ren rfl, trivial⟩)) rfl ?_
  refine ao_read trivial (r_assign rfl) rfl ?_
  refine ao_nil ?_
  refine aq_then ?_
  refine aw_ret ?_
  refine aq_ret ?_
  obtain rfl := is_eq h
  exact aq_finx (l := [.tmp 4]) (xs := [.bool (p_impl_within x1 0 ((x0.length : Int) - 1))]) idn [.bool (p_impl_within x1 0 ((x0.length : Int) - 1))] [] rfl (by exact ⟨rfl, trivial⟩) (by exact ⟨ad_ren rfl, trivial⟩) (by exact trivial) rfl (nk rfl) rfl rfl ⟨rfl, rfl⟩
theorem c_impl_WaysAt {fu : Nat} {x0 : (List (List Int))} {x1 : Int} {x2 : Int} {r : Int × Bool} (h : Is (p_impl_WaysAt fu x0 x1 x2) (some r)) :
    Scalar Try.prog 22 [.v (.slice (.arr 6 (.int .i64))) x0, .int .i64 x1, .int .i64 x2] (.tup [.int .i64 r.1, .bool r.2]) := by
  unfold p_impl_WaysAt at h
  refine ac_enter ⟨27, 0⟩ Try.func22 rfl rfl rfl rfl rfl (fun Γ => ?_)
  refine sl_len_m 0 (x0.length : Int) rfl rfl (fun hl0 => ?_)
  refine aw_seq ?_
  refine aw_region ?_
  refine ao_read trivial (r_assign rfl) rfl ?_
  refine ao_read trivial (r_assign rfl) rfl ?_
  refine ao_nil ?_
  refine aq_then ?_
  refine aw_seq ?_
  refine aw_seq ?_
  refine aw_region ?_
  refine ao_read trivial (r_move rfl) rfl ?_
  refine ao_scall trivial (scall (c_impl_IsPool (is_mk (rfl : p_impl_IsPool x0 = _))) rfl Try.func50 rfl rfl rfl rfl (fun σ => ⟨ad_ren rfl, trivial⟩)) rfl ?_
  refine ao_read trivial (r_not rfl) rfl ?_
  refine ao_read trivial (r_move rfl) rfl ?_
  refine ao_readG (x := .v (.slice (.arr 6 (.int .i64))) x0) rfl (GV.F rfl) (fun hg1 => r_move rfl) rfl ?_
  refine ao_readG (x := .int .i64 x1) rfl (GV.F rfl) (fun hg2 => r_move rfl) rfl ?_
  refine ao_scallG (r := .bool (p_impl_isPlayer x0 x1)) rfl (GV.F rfl) (fun hg3 => SCall.strip 12 rfl (hg3) (SCall.strip 13 rfl (hg3) (scall (c_impl_isPlayer (is_mk (rfl : p_impl_isPlayer x0 x1 = _))) rfl Try.func69 rfl rfl rfl rfl (fun σ => ⟨ad_ren rfl, ad_ren rfl, trivial⟩)))) rfl ?_
  refine ao_readG (x := .bool (!(p_impl_isPlayer x0 x1))) rfl (GV.F rfl) (fun hg4 => Reads.strip 14 rfl (hg4) (r_not rfl)) rfl ?_
  refine ao_read trivial (r_orB rfl rfl) rfl ?_
  refine ao_read trivial (r_move rfl) rfl ?_
  refine ao_readG (x := .v (.slice (.arr 6 (.int .i64))) x0) rfl (GV.F rfl) (fun hg5 => by
        obtain ⟨q6, q7⟩ := or_f (not_t hg5)
        exact r_move rfl) rfl ?_
  refine ao_readG (x := .int .i64 x2) rfl (GV.F rfl) (fun hg8 => by
        obtain ⟨q9, q10⟩ := or_f (not_t hg8)
        exact r_move rfl) rfl ?_
  refine ao_scallG (r := .bool (p_impl_isPlayer x0 x2)) rfl (GV.F rfl) (fun hg11 => by
        obtain ⟨q12, q13⟩ := or_f (not_t hg11)
        exact SCall.strip 18 rfl (hg11) (SCall.strip 19 rfl (hg11) (scall (c_impl_isPlayer (is_mk (rfl : p_impl_isPlayer x0 x2 = _))) rfl Try.func69 rfl rfl rfl rfl (fun σ => ⟨ad_ren rfl, ad_ren rfl, trivial⟩)))) rfl ?_
  refine ao_readG (x := .bool (!(p_impl_isPlayer x0 x2))) rfl (GV.F rfl) (fun hg14 => by
        obtain ⟨q15, q16⟩ := or_f (not_t hg14)
        exact Reads.strip 20 rfl (hg14) (r_not rfl)) rfl ?_
  refine ao_read trivial (r_orB rfl rfl) rfl ?_
  refine ao_nil ?_
  refine aq_then ?_
  refine aw_cond rfl (fun hb17 => ?_) (fun hb17 => ?_)
  · replace h := is_if hb17 h
    refine aw_seq ?_
    refine aw_region ?_
    refine ao_read trivial (r_assign rfl) rfl ?_
    refine ao_read trivial (r_assign rfl) rfl ?_
    refine ao_nil ?_
    refine aq_then ?_
    refine aw_ret ?_
    refine aq_then_ret ?_
    refine aq_ret ?_
    obtain rfl := is_some h
    exact aq_finx (l := [.tmp 6, .tmp 7]) (xs := [.int .i64 0, .bool false]) idn [.int .i64 0, .bool false] [] rfl (by exact ⟨rfl, rfl, trivial⟩) (by exact ⟨ad_ren rfl, ad_ren rfl, trivial⟩) (by exact trivial) rfl (nk rfl) rfl rfl ⟨rfl, rfl⟩
  · obtain ⟨q18, q19⟩ := or_f hb17
    obtain ⟨q20, q21⟩ := or_f q18
    replace h := is_else (ne_t hb17) h
    refine aw_skip ?_
    refine aq_then ?_
    refine aw_seq ?_
    refine aw_region ?_
    refine ao_read trivial (r_move rfl) rfl ?_
    refine ao_read trivial (r_move rfl) rfl ?_
    refine ao_read trivial (r_move rfl) rfl ?_
    obtain ⟨r22, r22h, h⟩ := is_bind h
    refine ao_scall trivial (scall (c_impl_waysAt (is_mk r22h)) rfl Try.func70 rfl rfl rfl rfl (fun σ => ⟨ad_ren rfl, ad_ren rfl, ad_ren rfl, trivial⟩)) rfl ?_
    refine ao_read trivial (r_assign rfl) rfl ?_
    refine ao_read trivial (r_assign rfl) rfl ?_
    refine ao_nil ?_
    refine aq_then ?_
    refine aw_ret ?_
    refine aq_ret ?_
    obtain rfl := is_some h
    exact aq_finx (l := [.tmp 6, .tmp 7]) (xs := [.int .i64 r22, .bool true]) idn [.int .i64 r22, .bool true] [] rfl (by exact ⟨rfl, rfl, trivial⟩) (by exact ⟨ad_ren rfl, ad_ren rfl, trivial⟩) (by exact trivial) rfl (nk rfl) rfl rfl ⟨rfl, rfl⟩
theorem c_spec_WaysAt {fu : Nat} {x0 : (List (List Int))} {x1 : Int} {x2 : Int} {r : Int × Bool} (h : Is (p_spec_WaysAt fu x0 x1 x2) (some r)) :
    Scalar Try.prog 23 [.v (.slice (.arr 6 (.int .i64))) x0, .int .i64 x1, .int .i64 x2] (.tup [.int .i64 r.1, .bool r.2]) := by
  unfold p_spec_WaysAt at h
  refine ac_enter ⟨34, 0⟩ Try.func23 rfl rfl rfl rfl rfl (fun Γ => ?_)
  refine sl_len_m 0 (x0.length : Int) rfl rfl (fun hl0 => ?_)
  refine aw_seq ?_
  refine aw_region ?_
  refine ao_read trivial (r_assign rfl) rfl ?_
  refine ao_read trivial (r_assign rfl) rfl ?_
  refine ao_nil ?_
  refine aq_then ?_
  refine aw_seq ?_
  refine aw_seq ?_
  refine aw_region ?_
  refine ao_read trivial (r_move rfl) rfl ?_
  obtain ⟨r1, r1h, h⟩ := is_bind h
  refine ao_scall trivial (scall (c_spec_l2Pool (is_mk r1h)) rfl Try.func52 rfl rfl rfl rfl (fun σ => ⟨ad_ren rfl, trivial⟩)) rfl ?_
  refine ao_read trivial (r_not rfl) rfl ?_
  refine ao_read trivial (r_move rfl) rfl ?_
  refine ao_readG (x := .int .i64 x1) rfl (GV.F rfl) (fun hg2 => r_move rfl) rfl ?_
  refine ao_readG (x := .v (.slice (.arr 6 (.int .i64))) x0) rfl (GV.F rfl) (fun hg3 => r_move rfl) rfl ?_
  refine ao_readG (x := .int .i64 (x0.length : Int)) rfl (GV.F rfl) (fun hg4 => Reads.strip 13 rfl (hg4) (r_len_vm (x0.length : Int) Try.underlying24 rfl rfl)) rfl ?_
  refine ao_readG (x := .int .i64 ((x0.length : Int) - 1)) rfl (GV.F rfl) (fun hg5 => Reads.strip 14 rfl (hg5) (r_subI rfl rfl (wrap_id (by omega) (by omega)))) rfl ?_
  refine ao_scallG (r := .bool (p_spec_l1In x1 0 ((x0.length : Int) - 1))) rfl (GV.F rfl) (fun hg6 => SCall.strip 12 rfl (hg6) (SCall.strip 15 rfl (hg6) (scall (c_spec_l1In (is_mk (rfl : p_spec_l1In x1 0 ((x0.length : Int) - 1) = _))) rfl Try.func71 rfl rfl rfl rfl (fun σ => ⟨ad_ren rfl, ad_ren rfl, ad_ren rfl, trivial⟩)))) rfl ?_
  refine ao_readG (x := .bool (!(p_spec_l1In x1 0 ((x0.length : Int) - 1)))) rfl (GV.F rfl) (fun hg7 => Reads.strip 16 rfl (hg7) (r_not rfl)) rfl ?_
  refine ao_read trivial (r_orB rfl rfl) rfl ?_
  refine ao_read trivial (r_move rfl) rfl ?_
  refine ao_readG (x := .int .i64 x2) rfl (GV.F rfl) (fun hg8 => by
        obtain ⟨q9, q10⟩ := or_f (not_t hg8)
        exact r_move rfl) rfl ?_
  refine ao_readG (x := .v (.slice (.arr 6 (.int .i64))) x0) rfl (GV.F rfl) (fun hg11 => by
        obtain ⟨q12, q13⟩ := or_f (not_t hg11)
        exact r_move rfl) rfl ?_
  refine ao_readG (x := .int .i64 (x0.length : Int)) rfl (GV.F rfl) (fun hg14 => by
        obtain ⟨q15, q16⟩ := or_f (not_t hg14)
        exact Reads.strip 21 rfl (hg14) (r_len_vm (x0.length : Int) Try.underlying24 rfl rfl)) rfl ?_
  refine ao_readG (x := .int .i64 ((x0.length : Int) - 1)) rfl (GV.F rfl) (fun hg17 => by
        obtain ⟨q18, q19⟩ := or_f (not_t hg17)
        exact Reads.strip 22 rfl (hg17) (r_subI rfl rfl (wrap_id (by omega) (by omega)))) rfl ?_
  refine ao_scallG (r := .bool (p_spec_l1In x2 0 ((x0.length : Int) - 1))) rfl (GV.F rfl) (fun hg20 => by
        obtain ⟨q21, q22⟩ := or_f (not_t hg20)
        exact SCall.strip 20 rfl (hg20) (SCall.strip 23 rfl (hg20) (scall (c_spec_l1In (is_mk (rfl : p_spec_l1In x2 0 ((x0.length : Int) - 1) = _))) rfl Try.func71 rfl rfl rfl rfl (fun σ => ⟨ad_ren rfl, ad_ren rfl, ad_ren rfl, trivial⟩)))) rfl ?_
  refine ao_readG (x := .bool (!(p_spec_l1In x2 0 ((x0.length : Int) - 1)))) rfl (GV.F rfl) (fun hg23 => by
        obtain ⟨q24, q25⟩ := or_f (not_t hg23)
        exact Reads.strip 24 rfl (hg23) (r_not rfl)) rfl ?_
  refine ao_read trivial (r_orB rfl rfl) rfl ?_
  refine ao_nil ?_
  refine aq_then ?_
  refine aw_cond rfl (fun hb26 => ?_) (fun hb26 => ?_)
  · replace h := is_if hb26 h
    refine aw_seq ?_
    refine aw_region ?_
    refine ao_read trivial (r_assign rfl) rfl ?_
    refine ao_read trivial (r_assign rfl) rfl ?_
    refine ao_nil ?_
    refine aq_then ?_
    refine aw_ret ?_
    refine aq_then_ret ?_
    refine aq_ret ?_
    obtain rfl := is_some h
    exact aq_finx (l := [.tmp 6, .tmp 7]) (xs := [.int .i64 0, .bool false]) idn [.int .i64 0, .bool false] [] rfl (by exact ⟨rfl, rfl, trivial⟩) (by exact ⟨ad_ren rfl, ad_ren rfl, trivial⟩) (by exact trivial) rfl (nk rfl) rfl rfl ⟨rfl, rfl⟩
  · obtain ⟨q27, q28⟩ := or_f hb26
    obtain ⟨q29, q30⟩ := or_f q27
    replace h := is_else (ne_t hb26) h
    refine aw_skip ?_
    refine aq_then ?_
    refine aw_seq ?_
    refine aw_region ?_
    refine ao_read trivial (r_move rfl) rfl ?_
    refine ao_read trivial (r_len_vm (x0.length : Int) Try.underlying24 rfl rfl) rfl ?_
    refine ao_read trivial (r_move rfl) rfl ?_
    obtain ⟨r31, r31h, h⟩ := is_bind h
    refine ao_call [] 0 trivial (c_spec_l10Ways (is_mk r31h)) Try.func53 rfl rfl rfl rfl ⟨ad_ren rfl, trivial⟩ trivial rfl rfl rfl rfl rfl rfl rfl (fun r' H' hr => ?_)
    obtain ⟨rfl, rfl⟩ := hr
    refine ao_norm (y := .os 0) (H' := [(0, .row (.int .i64) r31)]) rfl rfl ?_
    refine row_len_o 0 (r31.length : Int) rfl rfl (fun hr32 => ?_)
    refine ao_read trivial (r_move rfl) rfl ?_
    refine ao_read trivial (r_move rfl) rfl ?_
    obtain ⟨r33, r33h, h⟩ := is_bind h
    refine ao_scall trivial (scall (c_spec_l10At (is_mk r33h)) rfl Try.func58 rfl rfl rfl rfl (fun σ => ⟨ad_ren rfl, ad_os0 rfl, ad_ren rfl, ad_ren rfl, trivial⟩)) rfl ?_
    refine ao_read trivial (r_assign rfl) rfl ?_
    refine ao_read trivial (r_assign rfl) rfl ?_
    refine ao_nil ?_
    refine aq_then ?_
    refine aw_ret ?_
    refine aq_ret ?_
    obtain rfl := is_some h
    exact aq_finx (l := [.tmp 6, .tmp 7]) (xs := [.int .i64 r33, .bool true]) idn [.int .i64 r33, .bool true] [] rfl (by exact ⟨rfl, rfl, trivial⟩) (by exact ⟨ad_ren rfl, ad_ren rfl, trivial⟩) (by exact trivial) rfl (nk rfl) rfl rfl ⟨rfl, rfl⟩
theorem c_laws_vInts {x0 : (List Int)} {x1 : (List Int)} {r : Bool} (h : Is (p_laws_vInts x0 x1) r) :
    Scalar Try.prog 24 [.v (.slice (.int .i64)) x0, .v (.slice (.int .i64)) x1] (.bool r) := by
  unfold p_laws_vInts at h
  refine ac_enter ⟨26, 0⟩ Try.func24 rfl rfl rfl rfl rfl (fun Γ => ?_)
  refine sl_len_m 0 (x0.length : Int) rfl rfl (fun hl0 => ?_)
  refine sl_len_m 1 (x1.length : Int) rfl rfl (fun hl1 => ?_)
  refine aw_seq ?_
  refine aw_region ?_
  refine ao_read trivial (r_assign rfl) rfl ?_
  refine ao_nil ?_
  refine aq_then ?_
  refine aw_seq ?_
  refine aw_seq ?_
  refine aw_region ?_
  refine ao_read trivial (r_move rfl) rfl ?_
  refine ao_read trivial (r_len_vm (x0.length : Int) Try.underlying26 rfl rfl) rfl ?_
  refine ao_read trivial (r_move rfl) rfl ?_
  refine ao_read trivial (r_len_vm (x1.length : Int) Try.underlying26 rfl rfl) rfl ?_
  refine ao_read trivial (r_neq rfl rfl) rfl ?_
  refine ao_nil ?_
  refine aq_then ?_
  refine aw_cond rfl (fun hb1 => ?_) (fun hb1 => ?_)
  · have q2 := d_f (not_t hb1)
    replace h := is_else (d_f (not_t hb1)) h
    refine aw_seq ?_
    refine aw_region ?_
    refine ao_read trivial (r_assign rfl) rfl ?_
    refine ao_nil ?_
    refine aq_then ?_
    refine aw_ret ?_
    refine aq_then_ret ?_
    refine aq_ret ?_
    obtain rfl := is_eq h
    exact aq_finx (l := [.tmp 4]) (xs := [.bool false]) idn [.bool false] [] rfl (by exact ⟨rfl, trivial⟩) (by exact ⟨ad_ren rfl, trivial⟩) (by exact trivial) rfl (nk rfl) rfl rfl ⟨rfl, rfl⟩
  · have q3 := d_t (not_f hb1)
    replace h := is_if (d_t (not_f hb1)) h
    refine aw_skip ?_
    refine aq_then ?_
    refine aw_seq ?_
    refine aw_seq ?_
    refine aw_region ?_
    refine ao_read trivial (r_assign rfl) rfl ?_
    refine ao_nil ?_
    refine aq_then ?_
    refine aw_block ?_
    refine aw_loop (AL.sub (fr' := [(0, .v (.slice (.int .i64)) x0), (1, .v (.slice (.int .i64)) x1), (5, .int .i64 0)]) (H' := []) (sub_mk idn (by exact ⟨⟨_, rfl, ad_ren rfl⟩, ⟨_, rfl, ad_ren rfl⟩, ⟨_, rfl, ad_ren rfl⟩, trivial⟩) (by exact trivial) (by rfl) (nk rfl)) (al_cnt (fun i5 (s4 : Unit) => [(0, .v (.slice (.int .i64)) x0), (1, .v (.slice (.int .i64)) x1), (5, .int .i64 i5)]) (fun i5 (s4 : Unit) => []) (fun d i5 (s4 : Unit) => d = Int.toNat ((x0.length : Int) - i5) ∧ 0 ≤ i5 ∧ i5 ≤ (x0.length : Int)) h ⟨rfl, (by (try simp only [List.length_set, List.length_append, List.length_cons, List.length_nil, List.length_replicate, List.length_take, List.length_drop]) <;> omega), (by (try simp only [List.length_set, List.length_append, List.length_cons, List.length_nil, List.length_replicate, List.length_take, List.length_drop]) <;> omega)⟩ (fun d6 i5 s4 hI h ih6 => ?_)))
    obtain ⟨hd, _, _⟩ := hI
    refine al_round ?_
    refine aw_seq ?_
    refine aw_seq ?_
    refine aw_region ?_
    refine ao_read trivial (r_move rfl) rfl ?_
    refine ao_read trivial (r_move rfl) rfl ?_
    refine ao_read trivial (r_len_vm (x0.length : Int) Try.underlying26 rfl rfl) rfl ?_
    refine ao_read trivial (r_lss rfl rfl) rfl ?_
    refine ao_nil ?_
    refine aq_then ?_
    refine aw_cond rfl (fun hb8 => ?_) (fun hb8 => ?_)
    · have q9 := d_t hb8
      obtain ⟨d6, rfl⟩ : ∃ e, d6 = e + 1 := ⟨d6 - 1, by omega⟩
      replace h := is_cntS h
      refine aw_skip ?_
      refine aq_then ?_
      refine aw_seq ?_
      refine aw_block ?_
      refine aw_seq ?_
      refine aw_drawAll (by kernel_rfl) ?_
      refine an_read 0 (by kernel_rfl) (fun _ _ _ h => h) rfl (by kernel_rfl) trivial (r_move rfl) rfl ?_
      refine an_read 1 (by kernel_rfl) (fun _ _ _ h => h) rfl (by kernel_rfl) trivial (r_move rfl) rfl ?_
      refine an_read 2 (by kernel_rfl) (fun _ _ _ h => h) rfl (by kernel_rfl) trivial (r_idxAddr_int Try.underlying26 Try.sizeOf3 rfl rfl (show 0 ≤ i5 from by omega) (show i5 < (x0.length : Int) from by omega)) rfl ?_
      refine an_read 3 (by kernel_rfl) (fun _ _ _ h => h) rfl (by kernel_rfl) trivial (r_load_c_int Try.isAgg3 Try.sizeOf3 rfl) rfl ?_
      refine an_read 4 (by kernel_rfl) (fun _ _ _ h => h) rfl (by kernel_rfl) trivial (r_move rfl) rfl ?_
      refine an_read 5 (by kernel_rfl) (fun _ _ _ h => h) rfl (by kernel_rfl) trivial (r_move rfl) rfl ?_
      refine an_read 6 (by kernel_rfl) (fun _ _ _ h => h) rfl (by kernel_rfl) trivial (r_idxAddr_int Try.underlying26 Try.sizeOf3 rfl rfl (show 0 ≤ i5 from by omega) (show i5 < (x1.length : Int) from by omega)) rfl ?_
      refine an_read 7 (by kernel_rfl) (fun _ _ _ h => h) rfl (by kernel_rfl) trivial (r_load_c_int Try.isAgg3 Try.sizeOf3 rfl) rfl ?_
      refine an_read 8 (by kernel_rfl) (fun _ _ _ h => h) rfl (by kernel_rfl) trivial (r_neq rfl rfl) rfl ?_
      refine an_done rfl ?_
      refine aq_then ?_
      refine aw_cond rfl (fun hb11 => ?_) (fun hb11 => ?_)
      · have q12 : ¬ ((x0.getD i5.toNat 0) = (x1.getD i5.toNat 0)) := d_f (not_t hb11)
        replace h := is_else (d_f (not_t hb11)) h
        refine aw_seq ?_
        refine aw_region ?_
        refine ao_read trivial (r_assign rfl) rfl ?_
        refine ao_nil ?_
        refine aq_then ?_
        refine aw_ret ?_
        refine aq_in_ret ?_
        refine aq_then_ret ?_
        refine aq_then_ret ?_
        refine aq_in_ret ?_
        refine aq_then_ret ?_
        refine aq_ret ?_
        obtain rfl := is_eq h
        exact aq_finx (l := [.tmp 4]) (xs := [.bool false]) idn [.bool false] [] rfl (by exact ⟨rfl, trivial⟩) (by exact ⟨ad_ren rfl, trivial⟩) (by exact trivial) rfl (nk rfl) rfl rfl ⟨rfl, rfl⟩
      · have q13 : (x0.getD i5.toNat 0) = (x1.getD i5.toNat 0) := d_t (not_f hb11)
        replace h := is_if (d_t (not_f hb11)) h
        refine aw_skip ?_
        refine aq_in ?_
        refine aq_then ?_
        refine aw_region ?_
        refine ao_read trivial (r_move rfl) rfl ?_
        refine ao_read trivial (r_addI rfl rfl (wrap_id (by omega) (by omega))) rfl ?_
        refine ao_read trivial (r_assign rfl) rfl ?_
        refine ao_nil ?_
        exact aq_again (AL.sub (sub_mk idn (by exact ⟨⟨_, rfl, ad_ren rfl⟩, ⟨_, rfl, ad_ren rfl⟩, ⟨_, rfl, ad_ren rfl⟩, trivial⟩) (by exact trivial) (by rfl) (nk rfl)) (ih6 d6 (i5 + 1) () (by omega) ⟨by omega, (by (try simp only [List.length_set, List.length_append, List.length_cons, List.length_nil, List.length_replicate, List.length_take, List.length_drop]) <;> omega), (by (try simp only [List.length_set, List.length_append, List.length_cons, List.length_nil, List.length_replicate, List.length_take, List.length_drop]) <;> omega)⟩ h))
    · have q10 := d_f hb8
      obtain rfl : d6 = 0 := by omega
      replace h := is_cnt0 h
      refine aw_exit ?_
      refine aq_then_exit ?_
      refine aq_then_exit ?_
      refine aq_in_exit ?_
      refine aq_then ?_
      refine aw_seq ?_
      refine aw_region ?_
      refine ao_read trivial (r_assign rfl) rfl ?_
      refine ao_nil ?_
      refine aq_then ?_
      refine aw_ret ?_
      refine aq_ret ?_
      obtain rfl := is_eq h
      exact aq_finx (l := [.tmp 4]) (xs := [.bool true]) idn [.bool true] [] rfl (by exact ⟨rfl, trivial⟩) (by exact ⟨ad_ren rfl, trivial⟩) (by exact trivial) rfl (nk rfl) rfl rfl ⟨rfl, rfl⟩
theorem c_impl_RollAt {fu : Nat} {x0 : (List (List Int))} {x1 : Int} {r : (List Int) × Bool} (h : Is (p_impl_RollAt fu x0 x1) (some r)) :
    ACalls Try.prog 25 [.v (.slice (.arr 6 (.int .i64))) x0, .int .i64 x1] [] (fun r' H' => r' = .tup [.os 0, .bool r.2] ∧ H' = [(0, .row (.int .i64) r.1)]) := by
  unfold p_impl_RollAt at h
  refine ac_enter ⟨18, 0⟩ Try.func25 rfl rfl rfl rfl rfl (fun Γ => ?_)
  refine sl_len_m 0 (x0.length : Int) rfl rfl (fun hl0 => ?_)
  refine aw_seq ?_
  refine aw_region ?_
  refine ao_read trivial (r_assign rfl) rfl ?_
  refine ao_read trivial (r_assign rfl) rfl ?_
  refine ao_nil ?_
  refine aq_then ?_
  refine aw_seq ?_
  refine aw_seq ?_
  refine aw_region ?_
  refine ao_read trivial (r_move rfl) rfl ?_
  refine ao_scall trivial (scall (c_impl_IsPool (is_mk (rfl : p_impl_IsPool x0 = _))) rfl Try.func50 rfl rfl rfl rfl (fun σ => ⟨ad_ren rfl, trivial⟩)) rfl ?_
  refine ao_read trivial (r_not rfl) rfl ?_
  refine ao_read trivial (r_move rfl) rfl ?_
  refine ao_readG (x := .v (.slice (.arr 6 (.int .i64))) x0) rfl (GV.F rfl) (fun hg1 => r_move rfl) rfl ?_
  refine ao_readG (x := .int .i64 x1) rfl (GV.F rfl) (fun hg2 => r_move rfl) rfl ?_
  obtain ⟨g4, h⟩ := is_guard h
  refine ao_scallG (r := .bool ((p_impl_isOutcome fu x0 x1).getD false)) rfl (GV.F rfl) (fun hg3 => SCall.strip 10 rfl (hg3) (SCall.strip 11 rfl (hg3) (scall (c_impl_isOutcome (is_mk (isSome_getD (g4 hg3)))) rfl Try.func62 rfl rfl rfl rfl (fun σ => ⟨ad_ren rfl, ad_ren rfl, trivial⟩)))) rfl ?_
  refine ao_readG (x := .bool (!((p_impl_isOutcome fu x0 x1).getD false))) rfl (GV.F rfl) (fun hg5 => Reads.strip 12 rfl (hg5) (r_not rfl)) rfl ?_
  refine ao_read trivial (r_orB rfl rfl) rfl ?_
  refine ao_nil ?_
  refine aq_then ?_
  refine aw_cond rfl (fun hb6 => ?_) (fun hb6 => ?_)
  · replace h := is_if hb6 h
    refine aw_seq ?_
    refine aw_region ?_
    refine ao_read trivial (r_assign rfl) rfl ?_
    refine ao_read trivial (r_assign rfl) rfl ?_
    refine ao_nil ?_
    refine aq_then ?_
    refine aw_ret ?_
    refine aq_then_ret ?_
    refine aq_ret ?_
    obtain rfl := is_some h
    refine AQ.sub (sub_nil (T := 4) (t := (.int .i64)) 0 rfl rfl rfl) ?_
    exact aq_finx (l := [.tmp 4, .tmp 5]) (xs := [.os 0, .bool false]) idn [.os 0, .bool false] [(0, .row (.int .i64) ([] : (List Int)))] rfl (by exact ⟨rfl, rfl, trivial⟩) (by exact ⟨ad_ren rfl, ad_ren rfl, trivial⟩) (by exact ⟨⟨_, rfl, rfl⟩, trivial⟩) rfl (nk rfl) rfl rfl ⟨rfl, rfl⟩
  · obtain ⟨q7, q8⟩ := or_f hb6
    replace h := is_else (ne_t hb6) h
    refine aw_skip ?_
    refine aq_then ?_
    refine aw_seq ?_
    refine aw_region ?_
    refine ao_read trivial (r_move rfl) rfl ?_
    refine ao_read trivial (r_move rfl) rfl ?_
    obtain ⟨r9, r9h, h⟩ := is_bind h
    refine ao_call [] 1 trivial (c_impl_rollAt (is_mk r9h)) Try.func64 rfl rfl rfl rfl ⟨ad_ren rfl, ad_ren rfl, trivial⟩ trivial rfl rfl rfl rfl rfl rfl rfl (fun r' H' hr => ?_)
    obtain ⟨rfl, rfl⟩ := hr
    refine ao_norm (y := .os 1) (H' := [(1, .row (.int .i64) r9)]) rfl rfl ?_
    refine row_len_o 1 (r9.length : Int) rfl rfl (fun hr10 => ?_)
    refine ao_read trivial (r_assign rfl) rfl ?_
    refine ao_read trivial (r_assign rfl) rfl ?_
    refine ao_nil ?_
    refine aq_then ?_
    refine aw_ret ?_
    refine aq_ret ?_
    obtain rfl := is_some h
    exact aq_finx (l := [.tmp 4, .tmp 5]) (xs := [.os 1, .bool true]) (rn [(0, 1)]) [.os 0, .bool true] [(0, .row (.int .i64) r9)] rfl (by exact ⟨rfl, rfl, trivial⟩) (by exact ⟨ad_ren rfl, ad_ren rfl, trivial⟩) (by exact ⟨⟨_, rfl, rfl⟩, trivial⟩) rfl (nk rfl) rfl rfl ⟨rfl, rfl⟩
theorem c_impl_OrdersOf {fu : Nat} {x0 : Int} {r : (List ((List Int) × Unit)) × Bool} (h : Is (p_impl_OrdersOf fu x0) (some r)) :
    ACalls Try.prog 26 [.int .i64 x0] [] (fun r' H' => r' = .tup [.os 0, .bool r.2] ∧ H' = [(0, .row (.pair (.arr 4 (.int .i64)) .unit) r.1)]) := by
  unfold p_impl_OrdersOf at h
  refine ac_enter ⟨9, 0⟩ Try.func26 rfl rfl rfl rfl rfl (fun Γ => ?_)
  refine aw_seq ?_
  refine aw_region ?_
  refine ao_read trivial (r_assign rfl) rfl ?_
  refine ao_read trivial (r_assign rfl) rfl ?_
  refine ao_nil ?_
  refine aq_then ?_
  refine aw_seq ?_
  refine aw_seq ?_
  refine aw_region ?_
  refine ao_read trivial (r_move rfl) rfl ?_
  refine ao_scall trivial (scall (c_impl_within (is_mk (rfl : p_impl_within x0 1 4 = _))) rfl Try.func72 rfl rfl rfl rfl (fun σ => ⟨ad_ren rfl, ad_ren rfl, ad_ren rfl, trivial⟩)) rfl ?_
  refine ao_read trivial (r_not rfl) rfl ?_
  refine ao_nil ?_
  refine aq_then ?_
  refine aw_cond rfl (fun hb1 => ?_) (fun hb1 => ?_)
  · replace h := is_else (ne_t (not_t hb1)) h
    refine aw_seq ?_
    refine aw_region ?_
    refine ao_read trivial (r_assign rfl) rfl ?_
    refine ao_read trivial (r_assign rfl) rfl ?_
    refine ao_nil ?_
    refine aq_then ?_
    refine aw_ret ?_
    refine aq_then_ret ?_
    refine aq_ret ?_
    obtain rfl := is_some h
    refine AQ.sub (sub_nil (T := 2) (t := (.pair (.arr 4 (.int .i64)) .unit)) 0 rfl rfl rfl) ?_
    exact aq_finx (l := [.tmp 2, .tmp 3]) (xs := [.os 0, .bool false]) idn [.os 0, .bool false] [(0, .row (.pair (.arr 4 (.int .i64)) .unit) ([] : (List ((List Int) × Unit))))] rfl (by exact ⟨rfl, rfl, trivial⟩) (by exact ⟨ad_ren rfl, ad_ren rfl, trivial⟩) (by exact ⟨⟨_, rfl, rfl⟩, trivial⟩) rfl (nk rfl) rfl rfl ⟨rfl, rfl⟩
  · replace h := is_if (not_f hb1) h
    refine aw_skip ?_
    refine aq_then ?_
    refine aw_seq ?_
    refine aw_region ?_
    refine ao_read trivial (r_move rfl) rfl ?_
    obtain ⟨r2, r2h, h⟩ := is_bind h
    refine ao_call [] 1 trivial (c_impl_orders (is_mk r2h)) Try.func73 rfl rfl rfl rfl ⟨ad_ren rfl, trivial⟩ trivial rfl rfl rfl rfl rfl rfl rfl (fun r' H' hr => ?_)
    obtain ⟨rfl, rfl⟩ := hr
    refine ao_norm (y := .os 1) (H' := [(1, .row (.pair (.arr 4 (.int .i64)) .unit) r2)]) rfl rfl ?_
    refine row_len_o 1 (r2.length : Int) rfl rfl (fun hr3 => ?_)
    refine ao_read trivial (r_assign rfl) rfl ?_
    refine ao_read trivial (r_assign rfl) rfl ?_
    refine ao_nil ?_
    refine aq_then ?_
    refine aw_ret ?_
    refine aq_ret ?_
    obtain rfl := is_some h
    exact aq_finx (l := [.tmp 2, .tmp 3]) (xs := [.os 1, .bool true]) (rn [(0, 1)]) [.os 0, .bool true] [(0, .row (.pair (.arr 4 (.int .i64)) .unit) r2)] rfl (by exact ⟨rfl, rfl, trivial⟩) (by exact ⟨ad_ren rfl, ad_ren rfl, trivial⟩) (by exact ⟨⟨_, rfl, rfl⟩, trivial⟩) rfl (nk rfl) rfl rfl ⟨rfl, rfl⟩
theorem c_spec_OrdersOf {fu : Nat} {x0 : Int} {r : (List ((List Int) × Unit)) × Bool} (h : Is (p_spec_OrdersOf fu x0) (some r)) :
    ACalls Try.prog 27 [.int .i64 x0] [] (fun r' H' => r' = .tup [.os 0, .bool r.2] ∧ H' = [(0, .row (.pair (.arr 4 (.int .i64)) .unit) r.1)]) := by
  unfold p_spec_OrdersOf at h
  refine ac_enter ⟨10, 0⟩ Try.func27 rfl rfl rfl rfl rfl (fun Γ => ?_)
  refine aw_seq ?_
  refine aw_region ?_
  refine ao_read trivial (r_assign rfl) rfl ?_
  refine ao_read trivial (r_assign rfl) rfl ?_
  refine ao_nil ?_
  refine aq_then ?_
  refine aw_seq ?_
  refine aw_seq ?_
  refine aw_region ?_
  refine ao_read trivial (r_move rfl) rfl ?_
  refine ao_scall trivial (scall (c_spec_l1In (is_mk (rfl : p_spec_l1In x0 1 4 = _))) rfl Try.func71 rfl rfl rfl rfl (fun σ => ⟨ad_ren rfl, ad_ren rfl, ad_ren rfl, trivial⟩)) rfl ?_
  refine ao_read trivial (r_not rfl) rfl ?_
  refine ao_nil ?_
  refine aq_then ?_
  refine aw_cond rfl (fun hb1 => ?_) (fun hb1 => ?_)
  · replace h := is_else (ne_t (not_t hb1)) h
    refine aw_seq ?_
    refine aw_region ?_
    refine ao_eff trivial (e_buildSlice (l := []) (t := (.pair (.arr 4 (.int .i64)) .unit)) 0 ([] : (List ((List Int) × Unit))) rfl Try.underlying46 Try.zeroValue38 Try.sizeOf38 rfl rfl rfl rfl rfl rfl rfl) rfl ?_
    refine ao_read trivial (r_assign rfl) rfl ?_
    refine ao_read trivial (r_assign rfl) rfl ?_
    refine ao_nil ?_
    refine aq_then ?_
    refine aw_ret ?_
    refine aq_then_ret ?_
    refine aq_ret ?_
    obtain rfl := is_some h
    exact aq_finx (l := [.tmp 2, .tmp 3]) (xs := [.os 0, .bool false]) idn [.os 0, .bool false] [(0, .row (.pair (.arr 4 (.int .i64)) .unit) ([] : (List ((List Int) × Unit))))] rfl (by exact ⟨rfl, rfl, trivial⟩) (by exact ⟨ad_ren rfl, ad_ren rfl, trivial⟩) (by exact ⟨⟨_, rfl, rfl⟩, trivial⟩) rfl (nk rfl) rfl rfl ⟨rfl, rfl⟩
  · replace h := is_if (not_f hb1) h
    refine aw_skip ?_
    refine aq_then ?_
    refine aw_seq ?_
    refine aw_region ?_
    refine ao_read trivial (r_move rfl) rfl ?_
    obtain ⟨r2, r2h, h⟩ := is_bind h
    refine ao_call [] 1 trivial (c_spec_l10Orders (is_mk r2h)) Try.func74 rfl rfl rfl rfl ⟨ad_ren rfl, trivial⟩ trivial rfl rfl rfl rfl rfl rfl rfl (fun r' H' hr => ?_)
    obtain ⟨rfl, rfl⟩ := hr
    refine ao_norm (y := .os 1) (H' := [(1, .row (.pair (.arr 4 (.int .i64)) .unit) r2)]) rfl rfl ?_
    refine row_len_o 1 (r2.length : Int) rfl rfl (fun hr3 => ?_)
    refine ao_read trivial (r_assign rfl) rfl ?_
    refine ao_read trivial (r_assign rfl) rfl ?_
    refine ao_nil ?_
    refine aq_then ?_
    refine aw_ret ?_
    refine aq_ret ?_
    obtain rfl := is_some h
    exact aq_finx (l := [.tmp 2, .tmp 3]) (xs := [.os 1, .bool true]) (rn [(0, 1)]) [.os 0, .bool true] [(0, .row (.pair (.arr 4 (.int .i64)) .unit) r2)] rfl (by exact ⟨rfl, rfl, trivial⟩) (by exact ⟨ad_ren rfl, ad_ren rfl, trivial⟩) (by exact ⟨⟨_, rfl, rfl⟩, trivial⟩) rfl (nk rfl) rfl rfl ⟨rfl, rfl⟩
theorem c_laws_vOrders {x0 : (List ((List Int) × Unit))} {x1 : (List ((List Int) × Unit))} {r : Bool} (h : Is (p_laws_vOrders x0 x1) r) :
    Scalar Try.prog 28 [.v (.slice (.pair (.arr 4 (.int .i64)) .unit)) x0, .v (.slice (.pair (.arr 4 (.int .i64)) .unit)) x1] (.bool r) := by
  unfold p_laws_vOrders at h
  refine ac_enter ⟨26, 0⟩ Try.func28 rfl rfl rfl rfl rfl (fun Γ => ?_)
  refine sl_len_m 0 (x0.length : Int) rfl rfl (fun hl0 => ?_)
  refine sl_len_m 1 (x1.length : Int) rfl rfl (fun hl1 => ?_)
  refine aw_seq ?_
  refine aw_region ?_
  refine ao_read trivial (r_assign rfl) rfl ?_
  refine ao_nil ?_
  refine aq_then ?_
  refine aw_seq ?_
  refine aw_seq ?_
  refine aw_region ?_
  refine ao_read trivial (r_move rfl) rfl ?_
  refine ao_read trivial (r_len_vm (x0.length : Int) Try.underlying46 rfl rfl) rfl ?_
  refine ao_read trivial (r_move rfl) rfl ?_
  refine ao_read trivial (r_len_vm (x1.length : Int) Try.underlying46 rfl rfl) rfl ?_
  refine ao_read trivial (r_neq rfl rfl) rfl ?_
  refine ao_nil ?_
  refine aq_then ?_
  refine aw_cond rfl (fun hb1 => ?_) (fun hb1 => ?_)
  · have q2 := d_f (not_t hb1)
    replace h := is_else (d_f (not_t hb1)) h
    refine aw_seq ?_
    refine aw_region ?_
    refine ao_read trivial (r_assign rfl) rfl ?_
    refine ao_nil ?_
    refine aq_then ?_
    refine aw_ret ?_
    refine aq_then_ret ?_
    refine aq_ret ?_
    obtain rfl := is_eq h
    exact aq_finx (l := [.tmp 4]) (xs := [.bool false]) idn [.bool false] [] rfl (by exact ⟨rfl, trivial⟩) (by exact ⟨ad_ren rfl, trivial⟩) (by exact trivial) rfl (nk rfl) rfl rfl ⟨rfl, rfl⟩
  · have q3 := d_t (not_f hb1)
    replace h := is_if (d_t (not_f hb1)) h
    refine aw_skip ?_
    refine aq_then ?_
    refine aw_seq ?_
    refine aw_seq ?_
    refine aw_region ?_
    refine ao_read trivial (r_assign rfl) rfl ?_
    refine ao_nil ?_
    refine aq_then ?_
    refine aw_block ?_
    refine aw_loop (AL.sub (fr' := [(0, .v (.slice (.pair (.arr 4 (.int .i64)) .unit)) x0), (1, .v (.slice (.pair (.arr 4 (.int .i64)) .unit)) x1), (5, .int .i64 0)]) (H' := []) (sub_mk idn (by exact ⟨⟨_, rfl, ad_ren rfl⟩, ⟨_, rfl, ad_ren rfl⟩, ⟨_, rfl, ad_ren rfl⟩, trivial⟩) (by exact trivial) (by rfl) (nk rfl)) (al_cnt (fun i5 (s4 : Unit) => [(0, .v (.slice (.pair (.arr 4 (.int .i64)) .unit)) x0), (1, .v (.slice (.pair (.arr 4 (.int .i64)) .unit)) x1), (5, .int .i64 i5)]) (fun i5 (s4 : Unit) => []) (fun d i5 (s4 : Unit) => d = Int.toNat ((x0.length : Int) - i5) ∧ 0 ≤ i5 ∧ i5 ≤ (x0.length : Int)) h ⟨rfl, (by (try simp only [List.length_set, List.length_append, List.length_cons, List.length_nil, List.length_replicate, List.length_take, List.length_drop]) <;> omega), (by (try simp only [List.length_set, List.length_append, List.length_cons, List.length_nil, List.length_replicate, List.length_take, List.length_drop]) <;> omega)⟩ (fun d6 i5 s4 hI h ih6 => ?_)))
    obtain ⟨hd, _, _⟩ := hI
    refine al_round ?_
    refine aw_seq ?_
    refine aw_seq ?_
    refine aw_region ?_
    refine ao_read trivial (r_move rfl) rfl ?_
    refine ao_read trivial (r_move rfl) rfl ?_
    refine ao_read trivial (r_len_vm (x0.length : Int) Try.underlying46 rfl rfl) rfl ?_
    refine ao_read trivial (r_lss rfl rfl) rfl ?_
    refine ao_nil ?_
    refine aq_then ?_
    refine aw_cond rfl (fun hb8 => ?_) (fun hb8 => ?_)
    · have q9 := d_t hb8
      obtain ⟨d6, rfl⟩ : ∃ e, d6 = e + 1 := ⟨d6 - 1, by omega⟩
      replace h := is_cntS h
      refine aw_skip ?_
      refine aq_then ?_
      refine aw_seq ?_
      refine aw_block ?_
      refine aw_seq ?_
      refine aw_drawAll (by kernel_rfl) ?_
      refine an_read 0 (by kernel_rfl) (fun _ _ _ h => h) rfl (by kernel_rfl) trivial (r_move rfl) rfl ?_
      refine an_read 1 (by kernel_rfl) (fun _ _ _ h => h) rfl (by kernel_rfl) trivial (r_move rfl) rfl ?_
      refine an_read 2 (by kernel_rfl) (fun _ _ _ h => h) rfl (by kernel_rfl) trivial (r_idxAddr (t := (.pair (.arr 4 (.int .i64)) .unit)) Try.underlying46 Try.sizeOf38 rfl rfl (show 0 ≤ i5 from by omega) (show i5 < (x0.length : Int) from by omega)) rfl ?_
      refine an_read 3 (by kernel_rfl) (fun _ _ _ h => h) rfl (by kernel_rfl) trivial (r_load_c (t := (.pair (.arr 4 (.int .i64)) .unit)) Try.isAgg38 Try.sizeOf38 rfl) rfl ?_
      refine an_read 4 (by kernel_rfl) (fun _ _ _ h => h) rfl (by kernel_rfl) trivial (r_move rfl) rfl ?_
      refine an_read 5 (by kernel_rfl) (fun _ _ _ h => h) rfl (by kernel_rfl) trivial (r_move rfl) rfl ?_
      refine an_read 6 (by kernel_rfl) (fun _ _ _ h => h) rfl (by kernel_rfl) trivial (r_idxAddr (t := (.pair (.arr 4 (.int .i64)) .unit)) Try.underlying46 Try.sizeOf38 rfl rfl (show 0 ≤ i5 from by omega) (show i5 < (x1.length : Int) from by omega)) rfl ?_
      refine an_read 7 (by kernel_rfl) (fun _ _ _ h => h) rfl (by kernel_rfl) trivial (r_load_c (t := (.pair (.arr 4 (.int .i64)) .unit)) Try.isAgg38 Try.sizeOf38 rfl) rfl ?_
      refine an_read 8 (by kernel_rfl) (fun _ _ _ h => h) rfl (by kernel_rfl) trivial (r_eq_st1 (m := 4) (xs := ((x0.getD i5.toNat ((List.replicate 4 0), ())).1 : (List Int))) (ys := ((x1.getD i5.toNat ((List.replicate 4 0), ())).1 : (List Int))) Try.underlying38 rfl rfl rfl rfl (by kernel_rfl) Try.underlying36 Try.underlying3 Try.isAgg36 Try.sizeOf36 Try.isAgg3 ⟨_, (rfl : Try.prog.info? 3 = some _), rfl⟩ (by kernel_rfl) rfl rfl rfl rfl rfl) rfl ?_
      refine an_done rfl ?_
      refine aq_then ?_
      refine aw_cond rfl (fun hb11 => ?_) (fun hb11 => ?_)
      · replace h := is_else (d_f (not_t hb11)) h
        refine aw_seq ?_
        refine aw_region ?_
        refine ao_read trivial (r_assign rfl) rfl ?_
        refine ao_nil ?_
        refine aq_then ?_
        refine aw_ret ?_
        refine aq_in_ret ?_
        refine aq_then_ret ?_
        refine aq_then_ret ?_
        refine aq_in_ret ?_
        refine aq_then_ret ?_
        refine aq_ret ?_
        obtain rfl := is_eq h
        exact aq_finx (l := [.tmp 4]) (xs := [.bool false]) idn [.bool false] [] rfl (by exact ⟨rfl, trivial⟩) (by exact ⟨ad_ren rfl, trivial⟩) (by exact trivial) rfl (nk rfl) rfl rfl ⟨rfl, rfl⟩
      · replace h := is_if (d_t (not_f hb11)) h
        refine aw_skip ?_
        refine aq_in ?_
        refine aq_then ?_
        refine aw_region ?_
        refine ao_read trivial (r_move rfl) rfl ?_
        refine ao_read trivial (r_addI rfl rfl (wrap_id (by omega) (by omega))) rfl ?_
        refine ao_read trivial (r_assign rfl) rfl ?_
        refine ao_nil ?_
        exact aq_again (AL.sub (sub_mk idn (by exact ⟨⟨_, rfl, ad_ren rfl⟩, ⟨_, rfl, ad_ren rfl⟩, ⟨_, rfl, ad_ren rfl⟩, trivial⟩) (by exact trivial) (by rfl) (nk rfl)) (ih6 d6 (i5 + 1) () (by omega) ⟨by omega, (by (try simp only [List.length_set, List.length_append, List.length_cons, List.length_nil, List.length_replicate, List.length_take, List.length_drop]) <;> omega), (by (try simp only [List.length_set, List.length_append, List.length_cons, List.length_nil, List.length_replicate, List.length_take, List.length_drop]) <;> omega)⟩ h))
    · have q10 := d_f hb8
      obtain rfl : d6 = 0 := by omega
      replace h := is_cnt0 h
      refine aw_exit ?_
      refine aq_then_exit ?_
      refine aq_then_exit ?_
      refine aq_in_exit ?_
      refine aq_then ?_
      refine aw_seq ?_
      refine aw_region ?_
      refine ao_read trivial (r_assign rfl) rfl ?_
      refine ao_nil ?_
      refine aq_then ?_
      refine aw_ret ?_
      refine aq_ret ?_
      obtain rfl := is_eq h
      exact aq_finx (l := [.tmp 4]) (xs := [.bool true]) idn [.bool true] [] rfl (by exact ⟨rfl, trivial⟩) (by exact ⟨ad_ren rfl, trivial⟩) (by exact trivial) rfl (nk rfl) rfl rfl ⟨rfl, rfl⟩
theorem c_laws_vSix {fu : Nat} {x0 : Int} {r : Int} (h : Is (p_laws_vSix fu x0) (some r)) :
    Scalar Try.prog 29 [.int .i64 x0] (.int .i64 r) := by
  unfold p_laws_vSix at h
  refine ac_enter ⟨13, 0⟩ Try.func29 rfl rfl rfl rfl rfl (fun Γ => ?_)
  refine aw_seq ?_
  refine aw_region ?_
  refine ao_read trivial (r_assign rfl) rfl ?_
  refine ao_nil ?_
  refine aq_then ?_
  refine aw_seq ?_
  refine aw_region ?_
  refine ao_read trivial (r_assign rfl) rfl ?_
  refine ao_nil ?_
  refine aq_then ?_
  refine aw_seq ?_
  refine aw_seq ?_
  refine aw_region ?_
  refine ao_read trivial (r_assign rfl) rfl ?_
  refine ao_nil ?_
  refine aq_then ?_
  refine aw_block ?_
  refine aw_loop (AL.sub (sub_mk idn (by exact ⟨⟨_, rfl, ad_ren rfl⟩, ⟨_, rfl, ad_ren rfl⟩, ⟨_, rfl, ad_ren rfl⟩, trivial⟩) (by exact trivial) (by rfl) (nk rfl)) (al_whl (fun (s1 : Int × Int) => [(0, .int .i64 x0), (3, .int .i64 s1.1), (4, .int .i64 s1.2)]) (fun (s1 : Int × Int) => []) (fun (s1 : Int × Int) => True) h trivial (fun d3 s1 hI h ih3 => ?_)))
  replace h := is_whlS h
  refine al_round ?_
  refine aw_seq ?_
  refine aw_seq ?_
  refine aw_region ?_
  refine ao_read trivial (r_move rfl) rfl ?_
  refine ao_read trivial (r_move rfl) rfl ?_
  refine ao_read trivial (r_lss rfl rfl) rfl ?_
  refine ao_nil ?_
  refine aq_then ?_
  refine aw_cond rfl (fun hb5 => ?_) (fun hb5 => ?_)
  · have q6 := d_t hb5
    replace h := is_if (d_t hb5) h
    refine aw_skip ?_
    refine aq_then ?_
    refine aw_seq ?_
    refine aw_block ?_
    refine aw_region ?_
    refine ao_read trivial (r_move rfl) rfl ?_
    refine ao_read trivial (r_mul rfl rfl) rfl ?_
    refine ao_read trivial (r_assign rfl) rfl ?_
    refine ao_nil ?_
    refine aq_in ?_
    refine aq_then ?_
    refine aw_region ?_
    refine ao_read trivial (r_move rfl) rfl ?_
    refine ao_read trivial (r_add rfl rfl) rfl ?_
    refine ao_read trivial (r_assign rfl) rfl ?_
    refine ao_nil ?_
    exact aq_again (AL.sub (sub_mk idn (by exact ⟨⟨_, rfl, ad_ren rfl⟩, ⟨_, rfl, ad_ren rfl⟩, ⟨_, rfl, ad_ren rfl⟩, trivial⟩) (by exact trivial) (by rfl) (nk rfl)) (ih3 ((IntKind.wrap .i64 (s1.1 * 6)), (IntKind.wrap .i64 (s1.2 + 1))) trivial h))
  · have q7 := d_f hb5
    replace h := is_else (d_f hb5) h
    refine aw_exit ?_
    refine aq_then_exit ?_
    refine aq_then_exit ?_
    refine aq_in_exit ?_
    refine aq_then ?_
    refine aw_seq ?_
    refine aw_region ?_
    refine ao_read trivial (r_move rfl) rfl ?_
    refine ao_read trivial (r_assign rfl) rfl ?_
    refine ao_nil ?_
    refine aq_then ?_
    refine aw_ret ?_
    refine aq_ret ?_
    obtain rfl := is_some h
    exact aq_finx (l := [.tmp 2]) (xs := [.int .i64 s1.1]) idn [.int .i64 s1.1] [] rfl (by exact ⟨rfl, trivial⟩) (by exact ⟨ad_ren rfl, trivial⟩) (by exact trivial) rfl (nk rfl) rfl rfl ⟨rfl, rfl⟩
theorem c_laws_FnOrders {fu : Nat} {x0 : (List Int)} {r : Bool} (h : Is (p_laws_FnOrders fu x0) (some r)) :
    Scalar Try.prog 3 [.v (.slice (.int .u8)) x0] (.bool r) := by
  unfold p_laws_FnOrders at h
  refine ac_enter ⟨408, 0⟩ Try.func3 rfl rfl rfl rfl rfl (fun Γ => ?_)
  refine sl_len_m 0 (x0.length : Int) rfl rfl (fun hl0 => ?_)
  refine aw_seq ?_
  refine aw_region ?_
  refine ao_read trivial (r_assign rfl) rfl ?_
  refine ao_nil ?_
  refine aq_then ?_
  refine aw_seq ?_
  refine aw_seq ?_
  refine aw_region ?_
  refine ao_read trivial (r_move rfl) rfl ?_
  refine ao_scall trivial (scall (c_laws_vBig (is_mk (rfl : p_laws_vBig x0 = _))) rfl Try.func5 rfl rfl rfl rfl (fun σ => ⟨ad_ren rfl, trivial⟩)) rfl ?_
  refine ao_nil ?_
  refine aq_then ?_
  refine aw_cond rfl (fun hb1 => ?_) (fun hb1 => ?_)
  · replace h := is_if hb1 h
    refine aw_seq ?_
    refine aw_region ?_
    refine ao_read trivial (r_assign rfl) rfl ?_
    refine ao_nil ?_
    refine aq_then ?_
    refine aw_ret ?_
    refine aq_then_ret ?_
    refine aq_ret ?_
    obtain rfl := is_some h
    exact aq_finx (l := [.tmp 2]) (xs := [.bool true]) idn [.bool true] [] rfl (by exact ⟨rfl, trivial⟩) (by exact ⟨ad_ren rfl, trivial⟩) (by exact trivial) rfl (nk rfl) rfl rfl ⟨rfl, rfl⟩
  · replace h := is_else (ne_t hb1) h
    refine aw_skip ?_
    refine aq_then ?_
    refine aw_seq ?_
    refine aw_region ?_
    refine ao_read trivial (r_move rfl) rfl ?_
    obtain ⟨r2, r2h, h⟩ := is_bind h
    refine ao_call [] 0 trivial (c_spec_DrawIsOrderFair (is_mk r2h)) Try.func6 rfl rfl rfl rfl ⟨ad_ren rfl, trivial⟩ trivial rfl rfl rfl rfl rfl rfl rfl (fun r' H' hr => ?_)
    obtain ⟨rfl, rfl⟩ := hr
    refine ao_norm (y := .os 0) (H' := [(0, .row (.arr 6 (.int .i64)) r2)]) rfl rfl ?_
    refine row_len_o 0 (r2.length : Int) rfl rfl (fun hr3 => ?_)
    refine ao_read trivial (r_assign rfl) rfl ?_
    refine ao_nil ?_
    refine aq_then ?_
    refine aw_seq ?_
    refine aw_region ?_
    refine ao_read trivial (r_move rfl) rfl ?_
    obtain ⟨r4, r4h, h⟩ := is_bind h
    refine ao_call [] 1 trivial (c_impl_OrderWays (is_mk r4h)) Try.func7 rfl rfl rfl rfl ⟨ad_os0 rfl, trivial⟩ trivial rfl rfl rfl rfl rfl rfl rfl (fun r' H' hr => ?_)
    obtain ⟨rfl, rfl⟩ := hr
    refine ao_norm (y := .tup [.os 1, .bool r4.2]) (H' := [(0, .row (.arr 6 (.int .i64)) r2), (1, .row (.int .i64) r4.1)]) rfl rfl ?_
    refine row_len_o 1 (r4.1.length : Int) rfl rfl (fun hr5 => ?_)
    refine ao_read trivial (r_move rfl) rfl ?_
    refine ao_read trivial (r_extract rfl rfl) rfl ?_
    refine ao_read trivial (r_extract rfl rfl) rfl ?_
    refine ao_read trivial (r_assign rfl) rfl ?_
    refine ao_read trivial (r_assign rfl) rfl ?_
    refine ao_nil ?_
    refine aq_then ?_
    refine aw_seq ?_
    refine aw_region ?_
    refine ao_read trivial (r_move rfl) rfl ?_
    obtain ⟨r6, r6h, h⟩ := is_bind h
    refine ao_call [] 2 trivial (c_spec_OrderWays (is_mk r6h)) Try.func8 rfl rfl rfl rfl ⟨ad_os0 rfl, trivial⟩ trivial rfl rfl rfl rfl rfl rfl rfl (fun r' H' hr => ?_)
    obtain ⟨rfl, rfl⟩ := hr
    refine ao_norm (y := .tup [.os 2, .bool r6.2]) (H' := [(0, .row (.arr 6 (.int .i64)) r2), (1, .row (.int .i64) r4.1), (2, .row (.int .i64) r6.1)]) rfl rfl ?_
    refine row_len_o 2 (r6.1.length : Int) rfl rfl (fun hr7 => ?_)
    refine ao_read trivial (r_move rfl) rfl ?_
    refine ao_read trivial (r_extract rfl rfl) rfl ?_
    refine ao_read trivial (r_extract rfl rfl) rfl ?_
    refine ao_read trivial (r_assign rfl) rfl ?_
    refine ao_read trivial (r_assign rfl) rfl ?_
    refine ao_nil ?_
    refine aq_then ?_
    refine aw_seq ?_
    refine aw_region ?_
    refine ao_read trivial (r_move rfl) rfl ?_
    obtain ⟨r8, r8h, h⟩ := is_bind h
    refine ao_scall trivial (scall (c_impl_TieWays (is_mk r8h)) rfl Try.func9 rfl rfl rfl rfl (fun σ => ⟨ad_os0 rfl, trivial⟩)) rfl ?_
    refine ao_read trivial (r_move rfl) rfl ?_
    refine ao_read trivial (r_extract rfl rfl) rfl ?_
    refine ao_read trivial (r_extract rfl rfl) rfl ?_
    refine ao_read trivial (r_assign rfl) rfl ?_
    refine ao_read trivial (r_assign rfl) rfl ?_
    refine ao_nil ?_
    refine aq_then ?_
    refine aw_seq ?_
    refine aw_region ?_
    refine ao_read trivial (r_move rfl) rfl ?_
    obtain ⟨r9, r9h, h⟩ := is_bind h
    refine ao_scall trivial (scall (c_spec_TieWays (is_mk r9h)) rfl Try.func10 rfl rfl rfl rfl (fun σ => ⟨ad_os0 rfl, trivial⟩)) rfl ?_
    refine ao_read trivial (r_move rfl) rfl ?_
    refine ao_read trivial (r_extract rfl rfl) rfl ?_
    refine ao_read trivial (r_extract rfl rfl) rfl ?_
    refine ao_read trivial (r_assign rfl) rfl ?_
    refine ao_read trivial (r_assign rfl) rfl ?_
    refine ao_nil ?_
    refine aq_then ?_
    refine aw_seq ?_
    refine aw_region ?_
    refine ao_read trivial (r_move rfl) rfl ?_
    obtain ⟨r10, r10h, h⟩ := is_bind h
    refine ao_scall trivial (scall (c_impl_IsOrderFair (is_mk r10h)) rfl Try.func11 rfl rfl rfl rfl (fun σ => ⟨ad_os0 rfl, trivial⟩)) rfl ?_
    refine ao_read trivial (r_move rfl) rfl ?_
    refine ao_read trivial (r_extract rfl rfl) rfl ?_
    refine ao_read trivial (r_extract rfl rfl) rfl ?_
    refine ao_read trivial (r_assign rfl) rfl ?_
    refine ao_read trivial (r_assign rfl) rfl ?_
    refine ao_nil ?_
    refine aq_then ?_
    refine aw_seq ?_
    refine aw_region ?_
    refine ao_read trivial (r_move rfl) rfl ?_
    obtain ⟨r11, r11h, h⟩ := is_bind h
    refine ao_scall trivial (scall (c_spec_IsOrderFair (is_mk r11h)) rfl Try.func12 rfl rfl rfl rfl (fun σ => ⟨ad_os0 rfl, trivial⟩)) rfl ?_
    refine ao_read trivial (r_move rfl) rfl ?_
    refine ao_read trivial (r_extract rfl rfl) rfl ?_
    refine ao_read trivial (r_extract rfl rfl) rfl ?_
    refine ao_read trivial (r_assign rfl) rfl ?_
    refine ao_read trivial (r_assign rfl) rfl ?_
    refine ao_nil ?_
    refine aq_then ?_
    refine aw_seq ?_
    refine aw_region ?_
    refine ao_read trivial (r_move rfl) rfl ?_
    obtain ⟨r12, r12h, h⟩ := is_bind h
    refine ao_scall trivial (scall (c_impl_IsPlaceFair (is_mk r12h)) rfl Try.func13 rfl rfl rfl rfl (fun σ => ⟨ad_os0 rfl, trivial⟩)) rfl ?_
    refine ao_read trivial (r_move rfl) rfl ?_
    refine ao_read trivial (r_extract rfl rfl) rfl ?_
    refine ao_read trivial (r_extract rfl rfl) rfl ?_
    refine ao_read trivial (r_assign rfl) rfl ?_
    refine ao_read trivial (r_assign rfl) rfl ?_
    refine ao_nil ?_
    refine aq_then ?_
    refine aw_seq ?_
    refine aw_region ?_
    refine ao_read trivial (r_move rfl) rfl ?_
    obtain ⟨r13, r13h, h⟩ := is_bind h
    refine ao_scall trivial (scall (c_spec_IsPlaceFair (is_mk r13h)) rfl Try.func14 rfl rfl rfl rfl (fun σ => ⟨ad_os0 rfl, trivial⟩)) rfl ?_
    refine ao_read trivial (r_move rfl) rfl ?_
    refine ao_read trivial (r_extract rfl rfl) rfl ?_
    refine ao_read trivial (r_extract rfl rfl) rfl ?_
    refine ao_read trivial (r_assign rfl) rfl ?_
    refine ao_read trivial (r_assign rfl) rfl ?_
    refine ao_nil ?_
    refine aq_then ?_
    refine aw_seq ?_
    refine aw_region ?_
    refine ao_read trivial (r_move rfl) rfl ?_
    obtain ⟨r14, r14h, h⟩ := is_bind h
    refine ao_scall trivial (scall (c_impl_IsFirstFair (is_mk r14h)) rfl Try.func15 rfl rfl rfl rfl (fun σ => ⟨ad_os0 rfl, trivial⟩)) rfl ?_
    refine ao_read trivial (r_move rfl) rfl ?_
    refine ao_read trivial (r_extract rfl rfl) rfl ?_
    refine ao_read trivial (r_extract rfl rfl) rfl ?_
    refine ao_read trivial (r_assign rfl) rfl ?_
    refine ao_read trivial (r_assign rfl) rfl ?_
    refine ao_nil ?_
    refine aq_then ?_
    refine aw_seq ?_
    refine aw_region ?_
    refine ao_read trivial (r_move rfl) rfl ?_
    obtain ⟨r15, r15h, h⟩ := is_bind h
    refine ao_scall trivial (scall (c_spec_IsFirstFair (is_mk r15h)) rfl Try.func16 rfl rfl rfl rfl (fun σ => ⟨ad_os0 rfl, trivial⟩)) rfl ?_
    refine ao_read trivial (r_move rfl) rfl ?_
    refine ao_read trivial (r_extract rfl rfl) rfl ?_
    refine ao_read trivial (r_extract rfl rfl) rfl ?_
    refine ao_read trivial (r_assign rfl) rfl ?_
    refine ao_read trivial (r_assign rfl) rfl ?_
    refine ao_nil ?_
    refine aq_then ?_
    refine aw_seq ?_
    refine aw_region ?_
    refine ao_read trivial (r_move rfl) rfl ?_
    obtain ⟨r16, r16h, h⟩ := is_bind h
    refine ao_call [] 3 trivial (c_laws_vCut (is_mk r16h)) Try.func18 rfl rfl rfl rfl ⟨ad_ren rfl, ad_ren rfl, trivial⟩ trivial rfl rfl rfl rfl rfl rfl rfl (fun r' H' hr => ?_)
    obtain ⟨rfl, rfl⟩ := hr
    refine ao_norm (y := .os 3) (H' := [(0, .row (.arr 6 (.int .i64)) r2), (1, .row (.int .i64) r4.1), (2, .row (.int .i64) r6.1), (3, .row (.int .u8) r16)]) rfl rfl ?_
    refine row_len_o 3 (r16.length : Int) rfl rfl (fun hr17 => ?_)
    obtain ⟨r18, r18h, h⟩ := is_bind h
    refine ao_call [] 4 trivial (c_spec_DrawOrderOf (is_mk r18h)) Try.func17 rfl rfl rfl rfl ⟨ad_os0 rfl, trivial⟩ trivial rfl rfl rfl rfl rfl rfl rfl (fun r' H' hr => ?_)
    obtain ⟨rfl, rfl⟩ := hr
    refine ao_norm (y := .tup [.os 4, .int .i64 r18.2]) (H' := [(0, .row (.arr 6 (.int .i64)) r2), (1, .row (.int .i64) r4.1), (2, .row (.int .i64) r6.1), (3, .row (.int .u8) r16), (4, .row (.arr 6 (.int .i64)) r18.1)]) rfl rfl ?_
    refine row_len_o 4 (r18.1.length : Int) rfl rfl (fun hr19 => ?_)
    refine ao_read trivial (r_move rfl) rfl ?_
    refine ao_read trivial (r_extract rfl rfl) rfl ?_
    refine ao_read trivial (r_extract rfl rfl) rfl ?_
    refine ao_read trivial (r_assign rfl) rfl ?_
    refine ao_read trivial (r_assign rfl) rfl ?_
    refine ao_nil ?_
    refine aq_then ?_
    refine aw_seq ?_
    refine aw_region ?_
    refine ao_read trivial (r_move rfl) rfl ?_
    refine ao_read trivial (r_move rfl) rfl ?_
    obtain ⟨r20, r20h, h⟩ := is_bind h
    refine ao_scall trivial (scall (c_impl_OrderOf (is_mk r20h)) rfl Try.func19 rfl rfl rfl rfl (fun σ => ⟨ad_os0 rfl, ad_ren rfl, trivial⟩)) rfl ?_
    refine ao_read trivial (r_move rfl) rfl ?_
    refine ao_read trivial (r_extract rfl rfl) rfl ?_
    refine ao_read trivial (r_extract rfl rfl) rfl ?_
    refine ao_eff trivial (e_alloc 5 (y := .st [.v (.arr 4 (.int .i64)) ((List.replicate 4 0) : (List Int))]) Try.zeroValue38 (fun ρ h M => ra_zero_st (t := (.pair (.arr 4 (.int .i64)) .unit)) rfl rfl rfl) rfl rfl rfl rfl rfl) rfl ?_
    refine ao_effS trivial (e_store rfl rfl rfl rfl Try.sizeOf38 rfl) ?_
    refine ao_read trivial (r_assign rfl) rfl ?_
    refine ao_nil ?_
    refine aq_then ?_
    refine aw_seq ?_
    refine aw_region ?_
    refine ao_read trivial (r_move rfl) rfl ?_
    refine ao_read trivial (r_move rfl) rfl ?_
    obtain ⟨r21, r21h, h⟩ := is_bind h
    refine ao_scall trivial (scall (c_spec_OrderOf (is_mk r21h)) rfl Try.func20 rfl rfl rfl rfl (fun σ => ⟨ad_os0 rfl, ad_ren rfl, trivial⟩)) rfl ?_
    refine ao_read trivial (r_move rfl) rfl ?_
    refine ao_read trivial (r_extract rfl rfl) rfl ?_
    refine ao_read trivial (r_extract rfl rfl) rfl ?_
    refine ao_eff trivial (e_alloc 6 (y := .st [.v (.arr 4 (.int .i64)) ((List.replicate 4 0) : (List Int))]) Try.zeroValue38 (fun ρ h M => ra_zero_st (t := (.pair (.arr 4 (.int .i64)) .unit)) rfl rfl rfl) rfl rfl rfl rfl rfl) rfl ?_
    refine ao_effS trivial (e_store rfl rfl rfl rfl Try.sizeOf38 rfl) ?_
    refine ao_read trivial (r_assign rfl) rfl ?_
    refine ao_nil ?_
    refine aq_then ?_
    refine aw_seq ?_
    refine aw_region ?_
    refine ao_read trivial (r_move rfl) rfl ?_
    obtain ⟨r22, r22h, h⟩ := is_bind h
    refine ao_call [] 7 trivial (c_laws_vCut (is_mk r22h)) Try.func18 rfl rfl rfl rfl ⟨ad_ren rfl, ad_ren rfl, trivial⟩ trivial rfl rfl rfl rfl rfl rfl rfl (fun r' H' hr => ?_)
    obtain ⟨rfl, rfl⟩ := hr
    refine ao_norm (y := .os 7) (H' := [(6, .var [.arr (.int .i64) 4 r21.1.1]), (5, .var [.arr (.int .i64) 4 r20.1.1]), (0, .row (.arr 6 (.int .i64)) r2), (1, .row (.int .i64) r4.1), (2, .row (.int .i64) r6.1), (3, .row (.int .u8) r16), (4, .row (.arr 6 (.int .i64)) r18.1), (7, .row (.int .u8) r22)]) rfl rfl ?_
    refine row_len_o 7 (r22.length : Int) rfl rfl (fun hr23 => ?_)
    obtain ⟨r24, r24h, h⟩ := is_bind h
    refine ao_call [] 8 trivial (c_spec_DrawWaysAt (is_mk r24h)) Try.func21 rfl rfl rfl rfl ⟨ad_os0 rfl, trivial⟩ trivial rfl rfl rfl rfl rfl rfl rfl (fun r' H' hr => ?_)
    obtain ⟨rfl, rfl⟩ := hr
    refine ao_norm (y := .tup [.os 8, .int .i64 r24.2.1, .int .i64 r24.2.2]) (H' := [(6, .var [.arr (.int .i64) 4 r21.1.1]), (5, .var [.arr (.int .i64) 4 r20.1.1]), (0, .row (.arr 6 (.int .i64)) r2), (1, .row (.int .i64) r4.1), (2, .row (.int .i64) r6.1), (3, .row (.int .u8) r16), (4, .row (.arr 6 (.int .i64)) r18.1), (7, .row (.int .u8) r22), (8, .row (.arr 6 (.int .i64)) r24.1)]) rfl rfl ?_
    refine row_len_o 8 (r24.1.length : Int) rfl rfl (fun hr25 => ?_)
    refine ao_read trivial (r_move rfl) rfl ?_
    refine ao_read trivial (r_extract rfl rfl) rfl ?_
    refine ao_read trivial (r_extract rfl rfl) rfl ?_
    refine ao_read trivial (r_extract rfl rfl) rfl ?_
    refine ao_read trivial (r_assign rfl) rfl ?_
    refine ao_read trivial (r_assign rfl) rfl ?_
    refine ao_read trivial (r_assign rfl) rfl ?_
    refine ao_nil ?_
    refine aq_then ?_
    refine aw_seq ?_
    refine aw_region ?_
    refine ao_read trivial (r_move rfl) rfl ?_
    refine ao_read trivial (r_move rfl) rfl ?_
    refine ao_read trivial (r_move rfl) rfl ?_
    obtain ⟨r26, r26h, h⟩ := is_bind h
    refine ao_scall trivial (scall (c_impl_WaysAt (is_mk r26h)) rfl Try.func22 rfl rfl rfl rfl (fun σ => ⟨ad_os0 rfl, ad_ren rfl, ad_ren rfl, trivial⟩)) rfl ?_
    refine ao_read trivial (r_move rfl) rfl ?_
    refine ao_read trivial (r_extract rfl rfl) rfl ?_
    refine ao_read trivial (r_extract rfl rfl) rfl ?_
    refine ao_read trivial (r_assign rfl) rfl ?_
    refine ao_read trivial (r_assign rfl) rfl ?_
    refine ao_nil ?_
    refine aq_then ?_
    refine aw_seq ?_
    refine aw_region ?_
    refine ao_read trivial (r_move rfl) rfl ?_
    refine ao_read trivial (r_move rfl) rfl ?_
    refine ao_read trivial (r_move rfl) rfl ?_
    obtain ⟨r27, r27h, h⟩ := is_bind h
    refine ao_scall trivial (scall (c_spec_WaysAt (is_mk r27h)) rfl Try.func23 rfl rfl rfl rfl (fun σ => ⟨ad_os0 rfl, ad_ren rfl, ad_ren rfl, trivial⟩)) rfl ?_
    refine ao_read trivial (r_move rfl) rfl ?_
    refine ao_read trivial (r_extract rfl rfl) rfl ?_
    refine ao_read trivial (r_extract rfl rfl) rfl ?_
    refine ao_read trivial (r_assign rfl) rfl ?_
    refine ao_read trivial (r_assign rfl) rfl ?_
    refine ao_nil ?_
    refine aq_then ?_
    refine aw_seq ?_
    refine aw_seq ?_
    refine aw_region ?_
    refine ao_read trivial (r_move rfl) rfl ?_
    refine ao_read trivial (r_move rfl) rfl ?_
    refine ao_read trivial (r_neq_bool Try.underlying4 rfl rfl) rfl ?_
    refine ao_read trivial (r_move rfl) rfl ?_
    refine ao_readG (x := .os 1) rfl (GV.F rfl) (fun hg28 => r_move rfl) rfl ?_
    refine ao_readG (x := .os 2) rfl (GV.F rfl) (fun hg29 => r_move rfl) rfl ?_
    refine ao_scallG (r := .bool (p_laws_vInts r4.1 r6.1)) rfl (GV.F rfl) (fun hg30 => SCall.strip 151 rfl (hg30) (SCall.strip 152 rfl (hg30) (scall (c_laws_vInts (is_mk (rfl : p_laws_vInts r4.1 r6.1 = _))) rfl Try.func24 rfl rfl rfl rfl (fun σ => ⟨ad_os0 rfl, ad_os0 rfl, trivial⟩)))) rfl ?_
    refine ao_readG (x := .bool (!(p_laws_vInts r4.1 r6.1))) rfl (GV.F rfl) (fun hg31 => Reads.strip 153 rfl (hg31) (r_not rfl)) rfl ?_
    refine ao_read trivial (r_orB rfl rfl) rfl ?_
    refine ao_read trivial (r_move rfl) rfl ?_
    refine ao_readG (x := .int .i64 r8.1) rfl (GV.F rfl) (fun hg32 => by
          obtain ⟨q33, q34⟩ := or_f (not_t hg32)
          exact r_move rfl) rfl ?_
    refine ao_readG (x := .int .i64 r9.1) rfl (GV.F rfl) (fun hg35 => by
          obtain ⟨q36, q37⟩ := or_f (not_t hg35)
          exact r_move rfl) rfl ?_
    refine ao_readG (x := .bool (!(decide (r8.1 = r9.1)))) rfl (GV.F rfl) (fun hg38 => by
          obtain ⟨q39, q40⟩ := or_f (not_t hg38)
          exact Reads.strip 157 rfl (hg38) (Reads.strip 158 rfl (hg38) (r_neq rfl rfl))) rfl ?_
    refine ao_read trivial (r_orB rfl rfl) rfl ?_
    refine ao_read trivial (r_move rfl) rfl ?_
    refine ao_readG (x := .bool r8.2) rfl (GV.F rfl) (fun hg41 => by
          obtain ⟨q42, q43⟩ := or_f (not_t hg41)
          obtain ⟨q44, q45⟩ := or_f q42
          have q46 := d_t (not_f q43)
          exact r_move rfl) rfl ?_
    refine ao_readG (x := .bool r9.2) rfl (GV.F rfl) (fun hg47 => by
          obtain ⟨q48, q49⟩ := or_f (not_t hg47)
          obtain ⟨q50, q51⟩ := or_f q48
          have q52 := d_t (not_f q49)
          exact r_move rfl) rfl ?_
    refine ao_readG (x := .bool (r8.2 != r9.2)) rfl (GV.F rfl) (fun hg53 => by
          obtain ⟨q54, q55⟩ := or_f (not_t hg53)
          obtain ⟨q56, q57⟩ := or_f q54
          have q58 := d_t (not_f q55)
          exact Reads.strip 162 rfl (hg53) (Reads.strip 163 rfl (hg53) (r_neq_bool Try.underlying4 rfl rfl))) rfl ?_
    refine ao_read trivial (r_orB rfl rfl) rfl ?_
    refine ao_read trivial (r_move rfl) rfl ?_
    refine ao_readG (x := .bool r10.1) rfl (GV.F rfl) (fun hg59 => by
          obtain ⟨q60, q61⟩ := or_f (not_t hg59)
          obtain ⟨q62, q63⟩ := or_f q60
          obtain ⟨q64, q65⟩ := or_f q62
          have q66 := d_t (not_f q63)
          exact r_move rfl) rfl ?_
    refine ao_readG (x := .bool r11.1) rfl (GV.F rfl) (fun hg67 => by
          obtain ⟨q68, q69⟩ := or_f (not_t hg67)
          obtain ⟨q70, q71⟩ := or_f q68
          obtain ⟨q72, q73⟩ := or_f q70
          have q74 := d_t (not_f q71)
          exact r_move rfl) rfl ?_
    refine ao_readG (x := .bool (r10.1 != r11.1)) rfl (GV.F rfl) (fun hg75 => by
          obtain ⟨q76, q77⟩ := or_f (not_t hg75)
          obtain ⟨q78, q79⟩ := or_f q76
          obtain ⟨q80, q81⟩ := or_f q78
          have q82 := d_t (not_f q79)
          exact Reads.strip 167 rfl (hg75) (Reads.strip 168 rfl (hg75) (r_neq_bool Try.underlying4 rfl rfl))) rfl ?_
    refine ao_read trivial (r_orB rfl rfl) rfl ?_
    refine ao_read trivial (r_move rfl) rfl ?_
    refine ao_readG (x := .bool r10.2) rfl (GV.F rfl) (fun hg83 => by
          obtain ⟨q84, q85⟩ := or_f (not_t hg83)
          obtain ⟨q86, q87⟩ := or_f q84
          obtain ⟨q88, q89⟩ := or_f q86
          obtain ⟨q90, q91⟩ := or_f q88
          have q92 := d_t (not_f q89)
          exact r_move rfl) rfl ?_
    refine ao_readG (x := .bool r11.2) rfl (GV.F rfl) (fun hg93 => by
          obtain ⟨q94, q95⟩ := or_f (not_t hg93)
          obtain ⟨q96, q97⟩ := or_f q94
          obtain ⟨q98, q99⟩ := or_f q96
          obtain ⟨q100, q101⟩ := or_f q98
          have q102 := d_t (not_f q99)
          exact r_move rfl) rfl ?_
    refine ao_readG (x := .bool (r10.2 != r11.2)) rfl (GV.F rfl) (fun hg103 => by
          obtain ⟨q104, q105⟩ := or_f (not_t hg103)
          obtain ⟨q106, q107⟩ := or_f q104
          obtain ⟨q108, q109⟩ := or_f q106
          obtain ⟨q110, q111⟩ := or_f q108
          have q112 := d_t (not_f q109)
          exact Reads.strip 172 rfl (hg103) (Reads.strip 173 rfl (hg103) (r_neq_bool Try.underlying4 rfl rfl))) rfl ?_
    refine ao_read trivial (r_orB rfl rfl) rfl ?_
    refine ao_read trivial (r_move rfl) rfl ?_
    refine ao_readG (x := .bool r12.1) rfl (GV.F rfl) (fun hg113 => by
          obtain ⟨q114, q115⟩ := or_f (not_t hg113)
          obtain ⟨q116, q117⟩ := or_f q114
          obtain ⟨q118, q119⟩ := or_f q116
          obtain ⟨q120, q121⟩ := or_f q118
          obtain ⟨q122, q123⟩ := or_f q120
          have q124 := d_t (not_f q121)
          exact r_move rfl) rfl ?_
    refine ao_readG (x := .bool r13.1) rfl (GV.F rfl) (fun hg125 => by
          obtain ⟨q126, q127⟩ := or_f (not_t hg125)
          obtain ⟨q128, q129⟩ := or_f q126
          obtain ⟨q130, q131⟩ := or_f q128
          obtain ⟨q132, q133⟩ := or_f q130
          obtain ⟨q134, q135⟩ := or_f q132
          have q136 := d_t (not_f q133)
          exact r_move rfl) rfl ?_
    refine ao_readG (x := .bool (r12.1 != r13.1)) rfl (GV.F rfl) (fun hg137 => by
          obtain ⟨q138, q139⟩ := or_f (not_t hg137)
          obtain ⟨q140, q141⟩ := or_f q138
          obtain ⟨q142, q143⟩ := or_f q140
          obtain ⟨q144, q145⟩ := or_f q142
          obtain ⟨q146, q147⟩ := or_f q144
          have q148 := d_t (not_f q145)
          exact Reads.strip 177 rfl (hg137) (Reads.strip 178 rfl (hg137) (r_neq_bool Try.underlying4 rfl rfl))) rfl ?_
    refine ao_read trivial (r_orB rfl rfl) rfl ?_
    refine ao_read trivial (r_move rfl) rfl ?_
    refine ao_readG (x := .bool r12.2) rfl (GV.F rfl) (fun hg149 => by
          obtain ⟨q150, q151⟩ := or_f (not_t hg149)
          obtain ⟨q152, q153⟩ := or_f q150
          obtain ⟨q154, q155⟩ := or_f q152
          obtain ⟨q156, q157⟩ := or_f q154
          obtain ⟨q158, q159⟩ := or_f q156
          obtain ⟨q160, q161⟩ := or_f q158
          have q162 := d_t (not_f q159)
          exact r_move rfl) rfl ?_
    refine ao_readG (x := .bool r13.2) rfl (GV.F rfl) (fun hg163 => by
          obtain ⟨q164, q165⟩ := or_f (not_t hg163)
          obtain ⟨q166, q167⟩ := or_f q164
          obtain ⟨q168, q169⟩ := or_f q166
          obtain ⟨q170, q171⟩ := or_f q168
          obtain ⟨q172, q173⟩ := or_f q170
          obtain ⟨q174, q175⟩ := or_f q172
          have q176 := d_t (not_f q173)
          exact r_move rfl) rfl ?_
    refine ao_readG (x := .bool (r12.2 != r13.2)) rfl (GV.F rfl) (fun hg177 => by
          obtain ⟨q178, q179⟩ := or_f (not_t hg177)
          obtain ⟨q180, q181⟩ := or_f q178
          obtain ⟨q182, q183⟩ := or_f q180
          obtain ⟨q184, q185⟩ := or_f q182
          obtain ⟨q186, q187⟩ := or_f q184
          obtain ⟨q188, q189⟩ := or_f q186
          have q190 := d_t (not_f q187)
          exact Reads.strip 182 rfl (hg177) (Reads.strip 183 rfl (hg177) (r_neq_bool Try.underlying4 rfl rfl))) rfl ?_
    refine ao_read trivial (r_orB rfl rfl) rfl ?_
    refine ao_read trivial (r_move rfl) rfl ?_
    refine ao_readG (x := .bool r14.1) rfl (GV.F rfl) (fun hg191 => by
          obtain ⟨q192, q193⟩ := or_f (not_t hg191)
          obtain ⟨q194, q195⟩ := or_f q192
          obtain ⟨q196, q197⟩ := or_f q194
          obtain ⟨q198, q199⟩ := or_f q196
          obtain ⟨q200, q201⟩ := or_f q198
          obtain ⟨q202, q203⟩ := or_f q200
          obtain ⟨q204, q205⟩ := or_f q202
          have q206 := d_t (not_f q203)
          exact r_move rfl) rfl ?_
    refine ao_readG (x := .bool r15.1) rfl (GV.F rfl) (fun hg207 => by
          obtain ⟨q208, q209⟩ := or_f (not_t hg207)
          obtain ⟨q210, q211⟩ := or_f q208
          obtain ⟨q212, q213⟩ := or_f q210
          obtain ⟨q214, q215⟩ := or_f q212
          obtain ⟨q216, q217⟩ := or_f q214
          obtain ⟨q218, q219⟩ := or_f q216
          obtain ⟨q220, q221⟩ := or_f q218
          have q222 := d_t (not_f q219)
          exact r_move rfl) rfl ?_
    refine ao_readG (x := .bool (r14.1 != r15.1)) rfl (GV.F rfl) (fun hg223 => by
          obtain ⟨q224, q225⟩ := or_f (not_t hg223)
          obtain ⟨q226, q227⟩ := or_f q224
          obtain ⟨q228, q229⟩ := or_f q226
          obtain ⟨q230, q231⟩ := or_f q228
          obtain ⟨q232, q233⟩ := or_f q230
          obtain ⟨q234, q235⟩ := or_f q232
          obtain ⟨q236, q237⟩ := or_f q234
          have q238 := d_t (not_f q235)
          exact Reads.strip 187 rfl (hg223) (Reads.strip 188 rfl (hg223) (r_neq_bool Try.underlying4 rfl rfl))) rfl ?_
    refine ao_read trivial (r_orB rfl rfl) rfl ?_
    refine ao_read trivial (r_move rfl) rfl ?_
    refine ao_readG (x := .bool r14.2) rfl (GV.F rfl) (fun hg239 => by
          obtain ⟨q240, q241⟩ := or_f (not_t hg239)
          obtain ⟨q242, q243⟩ := or_f q240
          obtain ⟨q244, q245⟩ := or_f q242
          obtain ⟨q246, q247⟩ := or_f q244
          obtain ⟨q248, q249⟩ := or_f q246
          obtain ⟨q250, q251⟩ := or_f q248
          obtain ⟨q252, q253⟩ := or_f q250
          obtain ⟨q254, q255⟩ := or_f q252
          have q256 := d_t (not_f q253)
          exact r_move rfl) rfl ?_
    refine ao_readG (x := .bool r15.2) rfl (GV.F rfl) (fun hg257 => by
          obtain ⟨q258, q259⟩ := or_f (not_t hg257)
          obtain ⟨q260, q261⟩ := or_f q258
          obtain ⟨q262, q263⟩ := or_f q260
          obtain ⟨q264, q265⟩ := or_f q262
          obtain ⟨q266, q267⟩ := or_f q264
          obtain ⟨q268, q269⟩ := or_f q266
          obtain ⟨q270, q271⟩ := or_f q268
          obtain ⟨q272, q273⟩ := or_f q270
          have q274 := d_t (not_f q271)
          exact r_move rfl) rfl ?_
    refine ao_readG (x := .bool (r14.2 != r15.2)) rfl (GV.F rfl) (fun hg275 => by
          obtain ⟨q276, q277⟩ := or_f (not_t hg275)
          obtain ⟨q278, q279⟩ := or_f q276
          obtain ⟨q280, q281⟩ := or_f q278
          obtain ⟨q282, q283⟩ := or_f q280
          obtain ⟨q284, q285⟩ := or_f q282
          obtain ⟨q286, q287⟩ := or_f q284
          obtain ⟨q288, q289⟩ := or_f q286
          obtain ⟨q290, q291⟩ := or_f q288
          have q292 := d_t (not_f q289)
          exact Reads.strip 192 rfl (hg275) (Reads.strip 193 rfl (hg275) (r_neq_bool Try.underlying4 rfl rfl))) rfl ?_
    refine ao_read trivial (r_orB rfl rfl) rfl ?_
    refine ao_read trivial (r_move rfl) rfl ?_
    refine ao_readG (x := .v (.pair (.arr 4 (.int .i64)) .unit) ((r20.1.1, ()) : ((List Int) × Unit))) rfl (GV.F rfl) (fun hg293 => by
          obtain ⟨q294, q295⟩ := or_f (not_t hg293)
          obtain ⟨q296, q297⟩ := or_f q294
          obtain ⟨q298, q299⟩ := or_f q296
          obtain ⟨q300, q301⟩ := or_f q298
          obtain ⟨q302, q303⟩ := or_f q300
          obtain ⟨q304, q305⟩ := or_f q302
          obtain ⟨q306, q307⟩ := or_f q304
          obtain ⟨q308, q309⟩ := or_f q306
          obtain ⟨q310, q311⟩ := or_f q308
          have q312 := d_t (not_f q309)
          exact r_load_part (τ := (.pair (.arr 4 (.int .i64)) .unit)) (y := ((r20.1.1, ()) : ((List Int) × Unit))) [] [] rfl Try.isAgg38 Try.sizeOf38 rfl rfl rfl rfl) rfl ?_
    refine ao_readG (x := .v (.pair (.arr 4 (.int .i64)) .unit) ((r21.1.1, ()) : ((List Int) × Unit))) rfl (GV.F rfl) (fun hg313 => by
          obtain ⟨q314, q315⟩ := or_f (not_t hg313)
          obtain ⟨q316, q317⟩ := or_f q314
          obtain ⟨q318, q319⟩ := or_f q316
          obtain ⟨q320, q321⟩ := or_f q318
          obtain ⟨q322, q323⟩ := or_f q320
          obtain ⟨q324, q325⟩ := or_f q322
          obtain ⟨q326, q327⟩ := or_f q324
          obtain ⟨q328, q329⟩ := or_f q326
          obtain ⟨q330, q331⟩ := or_f q328
          have q332 := d_t (not_f q329)
          exact r_load_part (τ := (.pair (.arr 4 (.int .i64)) .unit)) (y := ((r21.1.1, ()) : ((List Int) × Unit))) [] [] rfl Try.isAgg38 Try.sizeOf38 rfl rfl rfl rfl) rfl ?_
    refine ao_readG (x := .bool (!(decide (r20.1.1 = r21.1.1)))) rfl (GV.F rfl) (fun hg333 => by
          obtain ⟨q334, q335⟩ := or_f (not_t hg333)
          obtain ⟨q336, q337⟩ := or_f q334
          obtain ⟨q338, q339⟩ := or_f q336
          obtain ⟨q340, q341⟩ := or_f q338
          obtain ⟨q342, q343⟩ := or_f q340
          obtain ⟨q344, q345⟩ := or_f q342
          obtain ⟨q346, q347⟩ := or_f q344
          obtain ⟨q348, q349⟩ := or_f q346
          obtain ⟨q350, q351⟩ := or_f q348
          have q352 := d_t (not_f q349)
          exact Reads.strip 197 rfl (hg333) (Reads.strip 198 rfl (hg333) (r_eq_st1 (m := 4) (xs := r20.1.1) (ys := r21.1.1) Try.underlying38 rfl rfl rfl rfl (by kernel_rfl) Try.underlying36 Try.underlying3 Try.isAgg36 Try.sizeOf36 Try.isAgg3 ⟨_, (rfl : Try.prog.info? 3 = some _), rfl⟩ (by kernel_rfl) rfl rfl rfl rfl rfl))) rfl ?_
    refine ao_read trivial (r_orB rfl rfl) rfl ?_
    refine ao_read trivial (r_move rfl) rfl ?_
    refine ao_readG (x := .bool r20.2) rfl (GV.F rfl) (fun hg353 => by
          obtain ⟨q354, q355⟩ := or_f (not_t hg353)
          obtain ⟨q356, q357⟩ := or_f q354
          obtain ⟨q358, q359⟩ := or_f q356
          obtain ⟨q360, q361⟩ := or_f q358
          obtain ⟨q362, q363⟩ := or_f q360
          obtain ⟨q364, q365⟩ := or_f q362
          obtain ⟨q366, q367⟩ := or_f q364
          obtain ⟨q368, q369⟩ := or_f q366
          obtain ⟨q370, q371⟩ := or_f q368
          obtain ⟨q372, q373⟩ := or_f q370
          have q374 := d_t (not_f q371)
          exact r_move rfl) rfl ?_
    refine ao_readG (x := .bool r21.2) rfl (GV.F rfl) (fun hg375 => by
          obtain ⟨q376, q377⟩ := or_f (not_t hg375)
          obtain ⟨q378, q379⟩ := or_f q376
          obtain ⟨q380, q381⟩ := or_f q378
          obtain ⟨q382, q383⟩ := or_f q380
          obtain ⟨q384, q385⟩ := or_f q382
          obtain ⟨q386, q387⟩ := or_f q384
          obtain ⟨q388, q389⟩ := or_f q386
          obtain ⟨q390, q391⟩ := or_f q388
          obtain ⟨q392, q393⟩ := or_f q390
          obtain ⟨q394, q395⟩ := or_f q392
          have q396 := d_t (not_f q393)
          exact r_move rfl) rfl ?_
    refine ao_readG (x := .bool (r20.2 != r21.2)) rfl (GV.F rfl) (fun hg397 => by
          obtain ⟨q398, q399⟩ := or_f (not_t hg397)
          obtain ⟨q400, q401⟩ := or_f q398
          obtain ⟨q402, q403⟩ := or_f q400
          obtain ⟨q404, q405⟩ := or_f q402
          obtain ⟨q406, q407⟩ := or_f q404
          obtain ⟨q408, q409⟩ := or_f q406
          obtain ⟨q410, q411⟩ := or_f q408
          obtain ⟨q412, q413⟩ := or_f q410
          obtain ⟨q414, q415⟩ := or_f q412
          obtain ⟨q416, q417⟩ := or_f q414
          have q418 := d_t (not_f q415)
          exact Reads.strip 202 rfl (hg397) (Reads.strip 203 rfl (hg397) (r_neq_bool Try.underlying4 rfl rfl))) rfl ?_
    refine ao_read trivial (r_orB rfl rfl) rfl ?_
    refine ao_read trivial (r_move rfl) rfl ?_
    refine ao_readG (x := .int .i64 r26.1) rfl (GV.F rfl) (fun hg419 => by
          obtain ⟨q420, q421⟩ := or_f (not_t hg419)
          obtain ⟨q422, q423⟩ := or_f q420
          obtain ⟨q424, q425⟩ := or_f q422
          obtain ⟨q426, q427⟩ := or_f q424
          obtain ⟨q428, q429⟩ := or_f q426
          obtain ⟨q430, q431⟩ := or_f q428
          obtain ⟨q432, q433⟩ := or_f q430
          obtain ⟨q434, q435⟩ := or_f q432
          obtain ⟨q436, q437⟩ := or_f q434
          obtain ⟨q438, q439⟩ := or_f q436
          obtain ⟨q440, q441⟩ := or_f q438
          have q442 := d_t (not_f q439)
          exact r_move rfl) rfl ?_
    refine ao_readG (x := .int .i64 r27.1) rfl (GV.F rfl) (fun hg443 => by
          obtain ⟨q444, q445⟩ := or_f (not_t hg443)
          obtain ⟨q446, q447⟩ := or_f q444
          obtain ⟨q448, q449⟩ := or_f q446
          obtain ⟨q450, q451⟩ := or_f q448
          obtain ⟨q452, q453⟩ := or_f q450
          obtain ⟨q454, q455⟩ := or_f q452
          obtain ⟨q456, q457⟩ := or_f q454
          obtain ⟨q458, q459⟩ := or_f q456
          obtain ⟨q460, q461⟩ := or_f q458
          obtain ⟨q462, q463⟩ := or_f q460
          obtain ⟨q464, q465⟩ := or_f q462
          have q466 := d_t (not_f q463)
          exact r_move rfl) rfl ?_
    refine ao_readG (x := .bool (!(decide (r26.1 = r27.1)))) rfl (GV.F rfl) (fun hg467 => by
          obtain ⟨q468, q469⟩ := or_f (not_t hg467)
          obtain ⟨q470, q471⟩ := or_f q468
          obtain ⟨q472, q473⟩ := or_f q470
          obtain ⟨q474, q475⟩ := or_f q472
          obtain ⟨q476, q477⟩ := or_f q474
          obtain ⟨q478, q479⟩ := or_f q476
          obtain ⟨q480, q481⟩ := or_f q478
          obtain ⟨q482, q483⟩ := or_f q480
          obtain ⟨q484, q485⟩ := or_f q482
          obtain ⟨q486, q487⟩ := or_f q484
          obtain ⟨q488, q489⟩ := or_f q486
          have q490 := d_t (not_f q487)
          exact Reads.strip 207 rfl (hg467) (Reads.strip 208 rfl (hg467) (r_neq rfl rfl))) rfl ?_
    refine ao_read trivial (r_orB rfl rfl) rfl ?_
    refine ao_read trivial (r_move rfl) rfl ?_
    refine ao_readG (x := .bool r26.2) rfl (GV.F rfl) (fun hg491 => by
          obtain ⟨q492, q493⟩ := or_f (not_t hg491)
          obtain ⟨q494, q495⟩ := or_f q492
          obtain ⟨q496, q497⟩ := or_f q494
          obtain ⟨q498, q499⟩ := or_f q496
          obtain ⟨q500, q501⟩ := or_f q498
          obtain ⟨q502, q503⟩ := or_f q500
          obtain ⟨q504, q505⟩ := or_f q502
          obtain ⟨q506, q507⟩ := or_f q504
          obtain ⟨q508, q509⟩ := or_f q506
          obtain ⟨q510, q511⟩ := or_f q508
          obtain ⟨q512, q513⟩ := or_f q510
          obtain ⟨q514, q515⟩ := or_f q512
          have q516 := d_t (not_f q513)
          have q517 := d_t (not_f q493)
          exact r_move rfl) rfl ?_
    refine ao_readG (x := .bool r27.2) rfl (GV.F rfl) (fun hg518 => by
          obtain ⟨q519, q520⟩ := or_f (not_t hg518)
          obtain ⟨q521, q522⟩ := or_f q519
          obtain ⟨q523, q524⟩ := or_f q521
          obtain ⟨q525, q526⟩ := or_f q523
          obtain ⟨q527, q528⟩ := or_f q525
          obtain ⟨q529, q530⟩ := or_f q527
          obtain ⟨q531, q532⟩ := or_f q529
          obtain ⟨q533, q534⟩ := or_f q531
          obtain ⟨q535, q536⟩ := or_f q533
          obtain ⟨q537, q538⟩ := or_f q535
          obtain ⟨q539, q540⟩ := or_f q537
          obtain ⟨q541, q542⟩ := or_f q539
          have q543 := d_t (not_f q540)
          have q544 := d_t (not_f q520)
          exact r_move rfl) rfl ?_
    refine ao_readG (x := .bool (r26.2 != r27.2)) rfl (GV.F rfl) (fun hg545 => by
          obtain ⟨q546, q547⟩ := or_f (not_t hg545)
          obtain ⟨q548, q549⟩ := or_f q546
          obtain ⟨q550, q551⟩ := or_f q548
          obtain ⟨q552, q553⟩ := or_f q550
          obtain ⟨q554, q555⟩ := or_f q552
          obtain ⟨q556, q557⟩ := or_f q554
          obtain ⟨q558, q559⟩ := or_f q556
          obtain ⟨q560, q561⟩ := or_f q558
          obtain ⟨q562, q563⟩ := or_f q560
          obtain ⟨q564, q565⟩ := or_f q562
          obtain ⟨q566, q567⟩ := or_f q564
          obtain ⟨q568, q569⟩ := or_f q566
          have q570 := d_t (not_f q567)
          have q571 := d_t (not_f q547)
          exact Reads.strip 212 rfl (hg545) (Reads.strip 213 rfl (hg545) (r_neq_bool Try.underlying4 rfl rfl))) rfl ?_
    refine ao_read trivial (r_orB rfl rfl) rfl ?_
    refine ao_read trivial (r_move rfl) rfl ?_
    refine ao_readG (x := .bool r4.2) rfl (GV.F rfl) (fun hg572 => by
          obtain ⟨q573, q574⟩ := or_f (not_t hg572)
          obtain ⟨q575, q576⟩ := or_f q573
          obtain ⟨q577, q578⟩ := or_f q575
          obtain ⟨q579, q580⟩ := or_f q577
          obtain ⟨q581, q582⟩ := or_f q579
          obtain ⟨q583, q584⟩ := or_f q581
          obtain ⟨q585, q586⟩ := or_f q583
          obtain ⟨q587, q588⟩ := or_f q585
          obtain ⟨q589, q590⟩ := or_f q587
          obtain ⟨q591, q592⟩ := or_f q589
          obtain ⟨q593, q594⟩ := or_f q591
          obtain ⟨q595, q596⟩ := or_f q593
          obtain ⟨q597, q598⟩ := or_f q595
          have q599 := d_t (not_f q596)
          have q600 := d_t (not_f q576)
          exact r_move rfl) rfl ?_
    refine ao_readG (x := .bool r8.2) rfl (GV.F rfl) (fun hg601 => by
          obtain ⟨q602, q603⟩ := or_f (not_t hg601)
          obtain ⟨q604, q605⟩ := or_f q602
          obtain ⟨q606, q607⟩ := or_f q604
          obtain ⟨q608, q609⟩ := or_f q606
          obtain ⟨q610, q611⟩ := or_f q608
          obtain ⟨q612, q613⟩ := or_f q610
          obtain ⟨q614, q615⟩ := or_f q612
          obtain ⟨q616, q617⟩ := or_f q614
          obtain ⟨q618, q619⟩ := or_f q616
          obtain ⟨q620, q621⟩ := or_f q618
          obtain ⟨q622, q623⟩ := or_f q620
          obtain ⟨q624, q625⟩ := or_f q622
          obtain ⟨q626, q627⟩ := or_f q624
          have q628 := d_t (not_f q625)
          have q629 := d_t (not_f q605)
          exact r_move rfl) rfl ?_
    refine ao_readG (x := .bool (r4.2 != r8.2)) rfl (GV.F rfl) (fun hg630 => by
          obtain ⟨q631, q632⟩ := or_f (not_t hg630)
          obtain ⟨q633, q634⟩ := or_f q631
          obtain ⟨q635, q636⟩ := or_f q633
          obtain ⟨q637, q638⟩ := or_f q635
          obtain ⟨q639, q640⟩ := or_f q637
          obtain ⟨q641, q642⟩ := or_f q639
          obtain ⟨q643, q644⟩ := or_f q641
          obtain ⟨q645, q646⟩ := or_f q643
          obtain ⟨q647, q648⟩ := or_f q645
          obtain ⟨q649, q650⟩ := or_f q647
          obtain ⟨q651, q652⟩ := or_f q649
          obtain ⟨q653, q654⟩ := or_f q651
          obtain ⟨q655, q656⟩ := or_f q653
          have q657 := d_t (not_f q654)
          have q658 := d_t (not_f q634)
          exact Reads.strip 217 rfl (hg630) (Reads.strip 218 rfl (hg630) (r_neq_bool Try.underlying4 rfl rfl))) rfl ?_
    refine ao_read trivial (r_orB rfl rfl) rfl ?_
    refine ao_read trivial (r_move rfl) rfl ?_
    refine ao_readG (x := .bool r4.2) rfl (GV.F rfl) (fun hg659 => by
          obtain ⟨q660, q661⟩ := or_f (not_t hg659)
          obtain ⟨q662, q663⟩ := or_f q660
          obtain ⟨q664, q665⟩ := or_f q662
          obtain ⟨q666, q667⟩ := or_f q664
          obtain ⟨q668, q669⟩ := or_f q666
          obtain ⟨q670, q671⟩ := or_f q668
          obtain ⟨q672, q673⟩ := or_f q670
          obtain ⟨q674, q675⟩ := or_f q672
          obtain ⟨q676, q677⟩ := or_f q674
          obtain ⟨q678, q679⟩ := or_f q676
          obtain ⟨q680, q681⟩ := or_f q678
          obtain ⟨q682, q683⟩ := or_f q680
          obtain ⟨q684, q685⟩ := or_f q682
          obtain ⟨q686, q687⟩ := or_f q684
          have q688 := d_t (not_f q685)
          have q689 := d_t (not_f q665)
          exact r_move rfl) rfl ?_
    refine ao_readG (x := .bool r10.2) rfl (GV.F rfl) (fun hg690 => by
          obtain ⟨q691, q692⟩ := or_f (not_t hg690)
          obtain ⟨q693, q694⟩ := or_f q691
          obtain ⟨q695, q696⟩ := or_f q693
          obtain ⟨q697, q698⟩ := or_f q695
          obtain ⟨q699, q700⟩ := or_f q697
          obtain ⟨q701, q702⟩ := or_f q699
          obtain ⟨q703, q704⟩ := or_f q701
          obtain ⟨q705, q706⟩ := or_f q703
          obtain ⟨q707, q708⟩ := or_f q705
          obtain ⟨q709, q710⟩ := or_f q707
          obtain ⟨q711, q712⟩ := or_f q709
          obtain ⟨q713, q714⟩ := or_f q711
          obtain ⟨q715, q716⟩ := or_f q713
          obtain ⟨q717, q718⟩ := or_f q715
          have q719 := d_t (not_f q716)
          have q720 := d_t (not_f q696)
          exact r_move rfl) rfl ?_
    refine ao_readG (x := .bool (r4.2 != r10.2)) rfl (GV.F rfl) (fun hg721 => by
          obtain ⟨q722, q723⟩ := or_f (not_t hg721)
          obtain ⟨q724, q725⟩ := or_f q722
          obtain ⟨q726, q727⟩ := or_f q724
          obtain ⟨q728, q729⟩ := or_f q726
          obtain ⟨q730, q731⟩ := or_f q728
          obtain ⟨q732, q733⟩ := or_f q730
          obtain ⟨q734, q735⟩ := or_f q732
          obtain ⟨q736, q737⟩ := or_f q734
          obtain ⟨q738, q739⟩ := or_f q736
          obtain ⟨q740, q741⟩ := or_f q738
          obtain ⟨q742, q743⟩ := or_f q740
          obtain ⟨q744, q745⟩ := or_f q742
          obtain ⟨q746, q747⟩ := or_f q744
          obtain ⟨q748, q749⟩ := or_f q746
          have q750 := d_t (not_f q747)
          have q751 := d_t (not_f q727)
          exact Reads.strip 222 rfl (hg721) (Reads.strip 223 rfl (hg721) (r_neq_bool Try.underlying4 rfl rfl))) rfl ?_
    refine ao_read trivial (r_orB rfl rfl) rfl ?_
    refine ao_read trivial (r_move rfl) rfl ?_
    refine ao_readG (x := .bool r4.2) rfl (GV.F rfl) (fun hg752 => by
          obtain ⟨q753, q754⟩ := or_f (not_t hg752)
          obtain ⟨q755, q756⟩ := or_f q753
          obtain ⟨q757, q758⟩ := or_f q755
          obtain ⟨q759, q760⟩ := or_f q757
          obtain ⟨q761, q762⟩ := or_f q759
          obtain ⟨q763, q764⟩ := or_f q761
          obtain ⟨q765, q766⟩ := or_f q763
          obtain ⟨q767, q768⟩ := or_f q765
          obtain ⟨q769, q770⟩ := or_f q767
          obtain ⟨q771, q772⟩ := or_f q769
          obtain ⟨q773, q774⟩ := or_f q771
          obtain ⟨q775, q776⟩ := or_f q773
          obtain ⟨q777, q778⟩ := or_f q775
          obtain ⟨q779, q780⟩ := or_f q777
          obtain ⟨q781, q782⟩ := or_f q779
          have q783 := d_t (not_f q780)
          have q784 := d_t (not_f q760)
          exact r_move rfl) rfl ?_
    refine ao_readG (x := .bool r12.2) rfl (GV.F rfl) (fun hg785 => by
          obtain ⟨q786, q787⟩ := or_f (not_t hg785)
          obtain ⟨q788, q789⟩ := or_f q786
          obtain ⟨q790, q791⟩ := or_f q788
          obtain ⟨q792, q793⟩ := or_f q790
          obtain ⟨q794, q795⟩ := or_f q792
          obtain ⟨q796, q797⟩ := or_f q794
          obtain ⟨q798, q799⟩ := or_f q796
          obtain ⟨q800, q801⟩ := or_f q798
          obtain ⟨q802, q803⟩ := or_f q800
          obtain ⟨q804, q805⟩ := or_f q802
          obtain ⟨q806, q807⟩ := or_f q804
          obtain ⟨q808, q809⟩ := or_f q806
          obtain ⟨q810, q811⟩ := or_f q808
          obtain ⟨q812, q813⟩ := or_f q810
          obtain ⟨q814, q815⟩ := or_f q812
          have q816 := d_t (not_f q813)
          have q817 := d_t (not_f q793)
          exact r_move rfl) rfl ?_
    refine ao_readG (x := .bool (r4.2 != r12.2)) rfl (GV.F rfl) (fun hg818 => by
          obtain ⟨q819, q820⟩ := or_f (not_t hg818)
          obtain ⟨q821, q822⟩ := or_f q819
          obtain ⟨q823, q824⟩ := or_f q821
          obtain ⟨q825, q826⟩ := or_f q823
          obtain ⟨q827, q828⟩ := or_f q825
          obtain ⟨q829, q830⟩ := or_f q827
          obtain ⟨q831, q832⟩ := or_f q829
          obtain ⟨q833, q834⟩ := or_f q831
          obtain ⟨q835, q836⟩ := or_f q833
          obtain ⟨q837, q838⟩ := or_f q835
          obtain ⟨q839, q840⟩ := or_f q837
          obtain ⟨q841, q842⟩ := or_f q839
          obtain ⟨q843, q844⟩ := or_f q841
          obtain ⟨q845, q846⟩ := or_f q843
          obtain ⟨q847, q848⟩ := or_f q845
          have q849 := d_t (not_f q846)
          have q850 := d_t (not_f q826)
          exact Reads.strip 227 rfl (hg818) (Reads.strip 228 rfl (hg818) (r_neq_bool Try.underlying4 rfl rfl))) rfl ?_
    refine ao_read trivial (r_orB rfl rfl) rfl ?_
    refine ao_read trivial (r_move rfl) rfl ?_
    refine ao_readG (x := .bool r4.2) rfl (GV.F rfl) (fun hg851 => by
          obtain ⟨q852, q853⟩ := or_f (not_t hg851)
          obtain ⟨q854, q855⟩ := or_f q852
          obtain ⟨q856, q857⟩ := or_f q854
          obtain ⟨q858, q859⟩ := or_f q856
          obtain ⟨q860, q861⟩ := or_f q858
          obtain ⟨q862, q863⟩ := or_f q860
          obtain ⟨q864, q865⟩ := or_f q862
          obtain ⟨q866, q867⟩ := or_f q864
          obtain ⟨q868, q869⟩ := or_f q866
          obtain ⟨q870, q871⟩ := or_f q868
          obtain ⟨q872, q873⟩ := or_f q870
          obtain ⟨q874, q875⟩ := or_f q872
          obtain ⟨q876, q877⟩ := or_f q874
          obtain ⟨q878, q879⟩ := or_f q876
          obtain ⟨q880, q881⟩ := or_f q878
          obtain ⟨q882, q883⟩ := or_f q880
          have q884 := d_t (not_f q881)
          have q885 := d_t (not_f q861)
          exact r_move rfl) rfl ?_
    refine ao_readG (x := .bool r14.2) rfl (GV.F rfl) (fun hg886 => by
          obtain ⟨q887, q888⟩ := or_f (not_t hg886)
          obtain ⟨q889, q890⟩ := or_f q887
          obtain ⟨q891, q892⟩ := or_f q889
          obtain ⟨q893, q894⟩ := or_f q891
          obtain ⟨q895, q896⟩ := or_f q893
          obtain ⟨q897, q898⟩ := or_f q895
          obtain ⟨q899, q900⟩ := or_f q897
          obtain ⟨q901, q902⟩ := or_f q899
          obtain ⟨q903, q904⟩ := or_f q901
          obtain ⟨q905, q906⟩ := or_f q903
          obtain ⟨q907, q908⟩ := or_f q905
          obtain ⟨q909, q910⟩ := or_f q907
          obtain ⟨q911, q912⟩ := or_f q909
          obtain ⟨q913, q914⟩ := or_f q911
          obtain ⟨q915, q916⟩ := or_f q913
          obtain ⟨q917, q918⟩ := or_f q915
          have q919 := d_t (not_f q916)
          have q920 := d_t (not_f q896)
          exact r_move rfl) rfl ?_
    refine ao_readG (x := .bool (r4.2 != r14.2)) rfl (GV.F rfl) (fun hg921 => by
          obtain ⟨q922, q923⟩ := or_f (not_t hg921)
          obtain ⟨q924, q925⟩ := or_f q922
          obtain ⟨q926, q927⟩ := or_f q924
          obtain ⟨q928, q929⟩ := or_f q926
          obtain ⟨q930, q931⟩ := or_f q928
          obtain ⟨q932, q933⟩ := or_f q930
          obtain ⟨q934, q935⟩ := or_f q932
          obtain ⟨q936, q937⟩ := or_f q934
          obtain ⟨q938, q939⟩ := or_f q936
          obtain ⟨q940, q941⟩ := or_f q938
          obtain ⟨q942, q943⟩ := or_f q940
          obtain ⟨q944, q945⟩ := or_f q942
          obtain ⟨q946, q947⟩ := or_f q944
          obtain ⟨q948, q949⟩ := or_f q946
          obtain ⟨q950, q951⟩ := or_f q948
          obtain ⟨q952, q953⟩ := or_f q950
          have q954 := d_t (not_f q951)
          have q955 := d_t (not_f q931)
          exact Reads.strip 232 rfl (hg921) (Reads.strip 233 rfl (hg921) (r_neq_bool Try.underlying4 rfl rfl))) rfl ?_
    refine ao_read trivial (r_orB rfl rfl) rfl ?_
    refine ao_nil ?_
    refine aq_then ?_
    refine aw_cond rfl (fun hb956 => ?_) (fun hb956 => ?_)
    · replace h := is_if hb956 h
      refine aw_seq ?_
      refine aw_region ?_
      refine ao_read trivial (r_assign rfl) rfl ?_
      refine ao_nil ?_
      refine aq_then ?_
      refine aw_ret ?_
      refine aq_then_ret ?_
      refine aq_ret ?_
      obtain rfl := is_some h
      exact aq_finx (l := [.tmp 2]) (xs := [.bool false]) idn [.bool false] [] rfl (by exact ⟨rfl, trivial⟩) (by exact ⟨ad_ren rfl, trivial⟩) (by exact trivial) rfl (nk rfl) rfl rfl ⟨rfl, rfl⟩
    · obtain ⟨q957, q958⟩ := or_f hb956
      obtain ⟨q959, q960⟩ := or_f q957
      obtain ⟨q961, q962⟩ := or_f q959
      obtain ⟨q963, q964⟩ := or_f q961
      obtain ⟨q965, q966⟩ := or_f q963
      obtain ⟨q967, q968⟩ := or_f q965
      obtain ⟨q969, q970⟩ := or_f q967
      obtain ⟨q971, q972⟩ := or_f q969
      obtain ⟨q973, q974⟩ := or_f q971
      obtain ⟨q975, q976⟩ := or_f q973
      obtain ⟨q977, q978⟩ := or_f q975
      obtain ⟨q979, q980⟩ := or_f q977
      obtain ⟨q981, q982⟩ := or_f q979
      obtain ⟨q983, q984⟩ := or_f q981
      obtain ⟨q985, q986⟩ := or_f q983
      obtain ⟨q987, q988⟩ := or_f q985
      obtain ⟨q989, q990⟩ := or_f q987
      have q991 := d_t (not_f q988)
      have q992 := d_t (not_f q968)
      replace h := is_else (ne_t hb956) h
      refine aw_skip ?_
      refine aq_then ?_
      refine aw_join (fun (s993 : Unit) => [(3, .os 0), (4, .os 1), (5, .bool r4.2), (8, .int .i64 r8.1), (12, .bool r10.1), (16, .bool r12.1), (20, .bool r14.1), (30, .os 2), (31, .int .i64 r24.2.1), (32, .int .i64 r24.2.2), (33, .int .i64 r26.1), (34, .bool r26.2)]) (fun (s993 : Unit) => [(0, .row (.arr 6 (.int .i64)) r2), (1, .row (.int .i64) r4.1), (2, .row (.arr 6 (.int .i64)) r24.1)]) (fun (s993 : Unit) => True) h (fun s993 hI h => ?_) (fun h j995 => ?_)
      · refine aw_join (fun (s996 : Unit) => [(3, .os 0), (4, .os 1), (5, .bool r4.2), (8, .int .i64 r8.1), (12, .bool r10.1), (16, .bool r12.1), (20, .bool r14.1)]) (fun (s996 : Unit) => [(0, .row (.arr 6 (.int .i64)) r2), (1, .row (.int .i64) r4.1)]) (fun (s996 : Unit) => True) h (fun s996 hI h => ?_) (fun h j998 => ?_)
        · refine aw_seq ?_
          refine aw_seq ?_
          refine aw_region ?_
          refine ao_read trivial (r_move rfl) rfl ?_
          refine ao_read trivial (r_not rfl) rfl ?_
          refine ao_nil ?_
          refine aq_then ?_
          refine aw_cond rfl (fun hb999 => ?_) (fun hb999 => ?_)
          · replace h := is_else (ne_t (not_t hb999)) h
            refine aw_seq ?_
            refine aw_region ?_
            refine ao_read trivial (r_assign rfl) rfl ?_
            refine ao_nil ?_
            refine aq_then ?_
            refine aw_ret ?_
            refine aq_then_ret ?_
            refine aq_ret ?_
            obtain rfl := is_some h
            exact aq_finx (l := [.tmp 2]) (xs := [.bool true]) idn [.bool true] [] rfl (by exact ⟨rfl, trivial⟩) (by exact ⟨ad_ren rfl, trivial⟩) (by exact trivial) rfl (nk rfl) rfl rfl ⟨rfl, rfl⟩
          · replace h := is_if (not_f hb999) h
            refine aw_skip ?_
            refine aq_then ?_
            refine aw_seq ?_
            refine aw_region ?_
            refine ao_read trivial (r_move rfl) rfl ?_
            refine ao_read trivial (r_len_osm (r2.length : Int) Try.underlying24 rfl rfl rfl) rfl ?_
            obtain ⟨r1000, r1000h, h⟩ := is_bind h
            refine ao_call [] 2 trivial (c_impl_OrdersOf (is_mk r1000h)) Try.func26 rfl rfl rfl rfl ⟨ad_ren rfl, trivial⟩ trivial rfl rfl rfl rfl rfl rfl rfl (fun r' H' hr => ?_)
            obtain ⟨rfl, rfl⟩ := hr
            refine ao_norm (y := .tup [.os 2, .bool r1000.2]) (H' := [(0, .row (.arr 6 (.int .i64)) r2), (1, .row (.int .i64) r4.1), (2, .row (.pair (.arr 4 (.int .i64)) .unit) r1000.1)]) rfl rfl ?_
            refine row_len_o 2 (r1000.1.length : Int) rfl rfl (fun hr1001 => ?_)
            refine ao_read trivial (r_move rfl) rfl ?_
            refine ao_read trivial (r_extract rfl rfl) rfl ?_
            refine ao_read trivial (r_extract rfl rfl) rfl ?_
            refine ao_read trivial (r_assign rfl) rfl ?_
            refine ao_read trivial (r_assign rfl) rfl ?_
            refine ao_nil ?_
            refine aq_then ?_
            refine aw_seq ?_
            refine aw_region ?_
            refine ao_read trivial (r_move rfl) rfl ?_
            refine ao_read trivial (r_len_osm (r2.length : Int) Try.underlying24 rfl rfl rfl) rfl ?_
            obtain ⟨r1002, r1002h, h⟩ := is_bind h
            refine ao_call [] 3 trivial (c_spec_OrdersOf (is_mk r1002h)) Try.func27 rfl rfl rfl rfl ⟨ad_ren rfl, trivial⟩ trivial rfl rfl rfl rfl rfl rfl rfl (fun r' H' hr => ?_)
            obtain ⟨rfl, rfl⟩ := hr
            refine ao_norm (y := .tup [.os 3, .bool r1002.2]) (H' := [(0, .row (.arr 6 (.int .i64)) r2), (1, .row (.int .i64) r4.1), (2, .row (.pair (.arr 4 (.int .i64)) .unit) r1000.1), (3, .row (.pair (.arr 4 (.int .i64)) .unit) r1002.1)]) rfl rfl ?_
            refine row_len_o 3 (r1002.1.length : Int) rfl rfl (fun hr1003 => ?_)
            refine ao_read trivial (r_move rfl) rfl ?_
            refine ao_read trivial (r_extract rfl rfl) rfl ?_
            refine ao_read trivial (r_extract rfl rfl) rfl ?_
            refine ao_read trivial (r_assign rfl) rfl ?_
            refine ao_read trivial (r_assign rfl) rfl ?_
            refine ao_nil ?_
            refine aq_then ?_
            refine aw_seq ?_
            refine aw_region ?_
            refine ao_read trivial (r_move rfl) rfl ?_
            refine ao_read trivial (r_assign rfl) rfl ?_
            refine ao_nil ?_
            refine aq_then ?_
            refine aw_seq ?_
            refine aw_seq ?_
            refine aw_region ?_
            refine ao_read trivial (r_assign rfl) rfl ?_
            refine ao_nil ?_
            refine aq_then ?_
            refine aw_block ?_
            refine aw_loop (AL.sub (fr' := [(3, .os 0), (4, .os 1), (8, .int .i64 r8.1), (12, .bool r10.1), (16, .bool r12.1), (20, .bool r14.1), (48, .os 2), (49, .bool r1000.2), (50, .os 3), (52, .int .i64 r8.1), (53, .int .i64 0)]) (H' := [(0, .row (.arr 6 (.int .i64)) r2), (1, .row (.int .i64) r4.1), (2, .row (.pair (.arr 4 (.int .i64)) .unit) r1000.1), (3, .row (.pair (.arr 4 (.int .i64)) .unit) r1002.1)]) (sub_mk idn (by exact ⟨⟨_, rfl, ad_ren rfl⟩, ⟨_, rfl, ad_ren rfl⟩, ⟨_, rfl, ad_ren rfl⟩, ⟨_, rfl, ad_ren rfl⟩, ⟨_, rfl, ad_ren rfl⟩, ⟨_, rfl, ad_ren rfl⟩, ⟨_, rfl, ad_ren rfl⟩, ⟨_, rfl, ad_ren rfl⟩, ⟨_, rfl, ad_ren rfl⟩, ⟨_, rfl, ad_ren rfl⟩, ⟨_, rfl, ad_ren rfl⟩, trivial⟩) (by exact ⟨⟨_, rfl, rfl⟩, ⟨_, rfl, rfl⟩, ⟨_, rfl, rfl⟩, ⟨_, rfl, rfl⟩, trivial⟩) (by rfl) (nk rfl)) (al_cnt (fun i1005 (s1004 : Int) => [(3, .os 0), (4, .os 1), (8, .int .i64 r8.1), (12, .bool r10.1), (16, .bool r12.1), (20, .bool r14.1), (48, .os 2), (49, .bool r1000.2), (50, .os 3), (52, .int .i64 s1004), (53, .int .i64 i1005)]) (fun i1005 (s1004 : Int) => [(0, .row (.arr 6 (.int .i64)) r2), (1, .row (.int .i64) r4.1), (2, .row (.pair (.arr 4 (.int .i64)) .unit) r1000.1), (3, .row (.pair (.arr 4 (.int .i64)) .unit) r1002.1)]) (fun d i1005 (s1004 : Int) => d = Int.toNat ((r4.1.length : Int) - i1005) ∧ 0 ≤ i1005 ∧ i1005 ≤ (r4.1.length : Int)) h ⟨rfl, (by (try simp only [List.length_set, List.length_append, List.length_cons, List.length_nil, List.length_replicate, List.length_take, List.length_drop]) <;> omega), (by (try simp only [List.length_set, List.length_append, List.length_cons, List.length_nil, List.length_replicate, List.length_take, List.length_drop]) <;> omega)⟩ (fun d1006 i1005 s1004 hI h ih1006 => ?_)))
            obtain ⟨hd, _, _⟩ := hI
            refine al_round ?_
            refine aw_seq ?_
            refine aw_seq ?_
            refine aw_region ?_
            refine ao_read trivial (r_move rfl) rfl ?_
            refine ao_read trivial (r_move rfl) rfl ?_
            refine ao_read trivial (r_len_osm (r4.1.length : Int) Try.underlying26 rfl rfl rfl) rfl ?_
            refine ao_read trivial (r_lss rfl rfl) rfl ?_
            refine ao_nil ?_
            refine aq_then ?_
            refine aw_cond rfl (fun hb1008 => ?_) (fun hb1008 => ?_)
            · have q1009 := d_t hb1008
              obtain ⟨d1006, rfl⟩ : ∃ e, d1006 = e + 1 := ⟨d1006 - 1, by omega⟩
              replace h := is_cntS h
              refine aw_skip ?_
              refine aq_then ?_
              refine aw_seq ?_
              refine aw_block ?_
              refine aw_region ?_
              refine ao_read trivial (r_move rfl) rfl ?_
              refine ao_read trivial (r_move rfl) rfl ?_
              refine ao_read trivial (r_move rfl) rfl ?_
              refine ao_read trivial (r_idxAddr_os Try.underlying26 Try.sizeOf3 rfl rfl rfl (show 0 ≤ i1005 from by omega) (show i1005 < (r4.1.length : Int) from by omega)) rfl ?_
              refine ao_read trivial (r_load_elem_int Try.isAgg3 Try.sizeOf3 rfl rfl (show i1005.toNat < r4.1.length from by omega)) rfl ?_
              refine ao_read trivial (r_add rfl rfl) rfl ?_
              refine ao_read trivial (r_assign rfl) rfl ?_
              refine ao_nil ?_
              refine aq_in ?_
              refine aq_then ?_
              refine aw_region ?_
              refine ao_read trivial (r_move rfl) rfl ?_
              refine ao_read trivial (r_addI rfl rfl (wrap_id (by omega) (by omega))) rfl ?_
              refine ao_read trivial (r_assign rfl) rfl ?_
              refine ao_nil ?_
              exact aq_again (AL.sub (sub_mk idn (by exact ⟨⟨_, rfl, ad_ren rfl⟩, ⟨_, rfl, ad_ren rfl⟩, ⟨_, rfl, ad_ren rfl⟩, ⟨_, rfl, ad_ren rfl⟩, ⟨_, rfl, ad_ren rfl⟩, ⟨_, rfl, ad_ren rfl⟩, ⟨_, rfl, ad_ren rfl⟩, ⟨_, rfl, ad_ren rfl⟩, ⟨_, rfl, ad_ren rfl⟩, ⟨_, rfl, ad_ren rfl⟩, ⟨_, rfl, ad_ren rfl⟩, trivial⟩) (by exact ⟨⟨_, rfl, rfl⟩, ⟨_, rfl, rfl⟩, ⟨_, rfl, rfl⟩, ⟨_, rfl, rfl⟩, trivial⟩) (by rfl) (nk rfl)) (ih1006 d1006 (i1005 + 1) (IntKind.wrap .i64 (s1004 + (r4.1.getD i1005.toNat 0))) (by omega) ⟨by omega, (by (try simp only [List.length_set, List.length_append, List.length_cons, List.length_nil, List.length_replicate, List.length_take, List.length_drop]) <;> omega), (by (try simp only [List.length_set, List.length_append, List.length_cons, List.length_nil, List.length_replicate, List.length_take, List.length_drop]) <;> omega)⟩ h))
            · have q1010 := d_f hb1008
              obtain rfl : d1006 = 0 := by omega
              replace h := is_cnt0 h
              refine aw_exit ?_
              refine aq_then_exit ?_
              refine aq_then_exit ?_
              refine aq_in_exit ?_
              refine aq_then ?_
              refine aw_seq ?_
              refine aw_region ?_
              refine ao_read trivial (r_move rfl) rfl ?_
              refine ao_read trivial (r_move rfl) rfl ?_
              refine ao_readG (x := .os 2) rfl (GV.T rfl) (fun hg1011 => r_move rfl) rfl ?_
              refine ao_readG (x := .os 3) rfl (GV.T rfl) (fun hg1012 => r_move rfl) rfl ?_
              refine ao_scallG (r := .bool (p_laws_vOrders r1000.1 r1002.1)) rfl (GV.T rfl) (fun hg1013 => SCall.strip 368 rfl (hg1013) (SCall.strip 369 rfl (hg1013) (scall (c_laws_vOrders (is_mk (rfl : p_laws_vOrders r1000.1 r1002.1 = _))) rfl Try.func28 rfl rfl rfl rfl (fun σ => ⟨ad_os0 rfl, ad_os0 rfl, trivial⟩)))) rfl ?_
              refine ao_read trivial (r_andB rfl rfl) rfl ?_
              refine ao_read trivial (r_move rfl) rfl ?_
              refine ao_readG (x := .os 2) rfl (GV.T rfl) (fun hg1014 => by
                    obtain ⟨q1015, q1016⟩ := and_t hg1014
                    exact r_move rfl) rfl ?_
              refine ao_readG (x := .int .i64 (r1000.1.length : Int)) rfl (GV.T rfl) (fun hg1017 => by
                    obtain ⟨q1018, q1019⟩ := and_t hg1017
                    exact Reads.strip 373 rfl (hg1017) (r_len_osm (r1000.1.length : Int) Try.underlying46 rfl rfl rfl)) rfl ?_
              refine ao_readG (x := .os 1) rfl (GV.T rfl) (fun hg1020 => by
                    obtain ⟨q1021, q1022⟩ := and_t hg1020
                    exact r_move rfl) rfl ?_
              refine ao_readG (x := .int .i64 (r4.1.length : Int)) rfl (GV.T rfl) (fun hg1023 => by
                    obtain ⟨q1024, q1025⟩ := and_t hg1023
                    exact Reads.strip 375 rfl (hg1023) (r_len_osm (r4.1.length : Int) Try.underlying26 rfl rfl rfl)) rfl ?_
              refine ao_readG (x := .bool (decide ((r1000.1.length : Int) = (r4.1.length : Int)))) rfl (GV.T rfl) (fun hg1026 => by
                    obtain ⟨q1027, q1028⟩ := and_t hg1026
                    exact Reads.strip 374 rfl (hg1026) (Reads.strip 376 rfl (hg1026) (r_eql rfl rfl))) rfl ?_
              refine ao_read trivial (r_andB rfl rfl) rfl ?_
              refine ao_read trivial (r_move rfl) rfl ?_
              refine ao_readG (x := .int .i64 s1004) rfl (GV.T rfl) (fun hg1029 => by
                    obtain ⟨q1030, q1031⟩ := and_t hg1029
                    obtain ⟨q1032, q1033⟩ := and_t q1030
                    have q1034 := d_t q1031
                    exact r_move rfl) rfl ?_
              refine ao_readG (x := .os 0) rfl (GV.T rfl) (fun hg1035 => by
                    obtain ⟨q1036, q1037⟩ := and_t hg1035
                    obtain ⟨q1038, q1039⟩ := and_t q1036
                    have q1040 := d_t q1037
                    exact r_move rfl) rfl ?_
              refine ao_readG (x := .int .i64 (r2.length : Int)) rfl (GV.T rfl) (fun hg1041 => by
                    obtain ⟨q1042, q1043⟩ := and_t hg1041
                    obtain ⟨q1044, q1045⟩ := and_t q1042
                    have q1046 := d_t q1043
                    exact Reads.strip 381 rfl (hg1041) (r_len_osm (r2.length : Int) Try.underlying24 rfl rfl rfl)) rfl ?_
              obtain ⟨g1053, h⟩ := is_guard h
              refine ao_scallG (r := .int .i64 ((p_laws_vSix fu (r2.length : Int)).getD 0)) rfl (GV.T rfl) (fun hg1047 => by
                    obtain ⟨q1048, q1049⟩ := and_t hg1047
                    obtain ⟨q1050, q1051⟩ := and_t q1048
                    have q1052 := d_t q1049
                    exact SCall.strip 382 rfl (hg1047) (scall (c_laws_vSix (is_mk (isSome_getD (g1053 hg1047)))) rfl Try.func29 rfl rfl rfl rfl (fun σ => ⟨ad_ren rfl, trivial⟩))) rfl ?_
              refine ao_readG (x := .bool (decide (s1004 = ((p_laws_vSix fu (r2.length : Int)).getD 0)))) rfl (GV.T rfl) (fun hg1054 => by
                    obtain ⟨q1055, q1056⟩ := and_t hg1054
                    obtain ⟨q1057, q1058⟩ := and_t q1055
                    have q1059 := d_t q1056
                    exact Reads.strip 380 rfl (hg1054) (Reads.strip 383 rfl (hg1054) (r_eql rfl rfl))) rfl ?_
              refine ao_read trivial (r_andB rfl rfl) rfl ?_
              refine ao_read trivial (r_move rfl) rfl ?_
              refine ao_readG (x := .bool r10.1) rfl (GV.T rfl) (fun hg1060 => by
                    obtain ⟨q1061, q1062⟩ := and_t hg1060
                    obtain ⟨q1063, q1064⟩ := and_t q1061
                    obtain ⟨q1065, q1066⟩ := and_t q1063
                    have q1067 := d_t q1064
                    have q1068 : s1004 = ((p_laws_vSix fu (r2.length : Int)).getD 0) := d_t q1062
                    exact r_move rfl) rfl ?_
              refine ao_readG (x := .bool (!r10.1)) rfl (GV.T rfl) (fun hg1069 => by
                    obtain ⟨q1070, q1071⟩ := and_t hg1069
                    obtain ⟨q1072, q1073⟩ := and_t q1070
                    obtain ⟨q1074, q1075⟩ := and_t q1072
                    have q1076 := d_t q1073
                    have q1077 : s1004 = ((p_laws_vSix fu (r2.length : Int)).getD 0) := d_t q1071
                    exact Reads.strip 387 rfl (hg1069) (r_not rfl)) rfl ?_
              refine ao_readG (x := .bool (!r10.1)) rfl (GV.T rfl) (fun hg1078 => by
                    obtain ⟨q1079, q1080⟩ := and_t hg1078
                    obtain ⟨q1081, q1082⟩ := and_t q1079
                    obtain ⟨q1083, q1084⟩ := and_t q1081
                    have q1085 := d_t q1082
                    have q1086 : s1004 = ((p_laws_vSix fu (r2.length : Int)).getD 0) := d_t q1080
                    exact Reads.strip 388 rfl (hg1078) (r_move rfl)) rfl ?_
              refine ao_readG (x := .bool r12.1) rfl (GV.gF rfl) (fun hg1087 => by
                    obtain ⟨q1088, q1089⟩ := and_t hg1087
                    obtain ⟨q1090, q1091⟩ := and_t q1088
                    obtain ⟨q1092, q1093⟩ := and_t q1090
                    obtain ⟨q1094, q1095⟩ := and_t q1092
                    have q1096 := d_t q1093
                    have q1097 : s1004 = ((p_laws_vSix fu (r2.length : Int)).getD 0) := d_t q1091
                    exact r_move rfl) rfl ?_
              refine ao_readG (x := .bool ((!r10.1) || r12.1)) rfl (GV.T rfl) (fun hg1098 => by
                    obtain ⟨q1099, q1100⟩ := and_t hg1098
                    obtain ⟨q1101, q1102⟩ := and_t q1099
                    obtain ⟨q1103, q1104⟩ := and_t q1101
                    have q1105 := d_t q1102
                    have q1106 : s1004 = ((p_laws_vSix fu (r2.length : Int)).getD 0) := d_t q1100
                    exact Reads.strip 389 rfl (hg1098) (r_orBg rfl rfl (tr_and (hg1098)))) rfl ?_
              refine ao_read trivial (r_andB rfl rfl) rfl ?_
              refine ao_read trivial (r_move rfl) rfl ?_
              refine ao_readG (x := .bool r12.1) rfl (GV.T rfl) (fun hg1107 => by
                    obtain ⟨q1108, q1109⟩ := and_t hg1107
                    obtain ⟨q1110, q1111⟩ := and_t q1108
                    obtain ⟨q1112, q1113⟩ := and_t q1110
                    obtain ⟨q1114, q1115⟩ := and_t q1112
                    have q1116 := d_t q1113
                    have q1117 : s1004 = ((p_laws_vSix fu (r2.length : Int)).getD 0) := d_t q1111
                    exact r_move rfl) rfl ?_
              refine ao_readG (x := .bool (!r12.1)) rfl (GV.T rfl) (fun hg1118 => by
                    obtain ⟨q1119, q1120⟩ := and_t hg1118
                    obtain ⟨q1121, q1122⟩ := and_t q1119
                    obtain ⟨q1123, q1124⟩ := and_t q1121
                    obtain ⟨q1125, q1126⟩ := and_t q1123
                    have q1127 := d_t q1124
                    have q1128 : s1004 = ((p_laws_vSix fu (r2.length : Int)).getD 0) := d_t q1122
                    exact Reads.strip 394 rfl (hg1118) (r_not rfl)) rfl ?_
              refine ao_readG (x := .bool (!r12.1)) rfl (GV.T rfl) (fun hg1129 => by
                    obtain ⟨q1130, q1131⟩ := and_t hg1129
                    obtain ⟨q1132, q1133⟩ := and_t q1130
                    obtain ⟨q1134, q1135⟩ := and_t q1132
                    obtain ⟨q1136, q1137⟩ := and_t q1134
                    have q1138 := d_t q1135
                    have q1139 : s1004 = ((p_laws_vSix fu (r2.length : Int)).getD 0) := d_t q1133
                    exact Reads.strip 395 rfl (hg1129) (r_move rfl)) rfl ?_
              refine ao_readG (x := .bool r14.1) rfl (GV.gF rfl) (fun hg1140 => by
                    obtain ⟨q1141, q1142⟩ := and_t hg1140
                    obtain ⟨q1143, q1144⟩ := and_t q1141
                    obtain ⟨q1145, q1146⟩ := and_t q1143
                    obtain ⟨q1147, q1148⟩ := and_t q1145
                    obtain ⟨q1149, q1150⟩ := and_t q1147
                    have q1151 := d_t q1148
                    have q1152 : s1004 = ((p_laws_vSix fu (r2.length : Int)).getD 0) := d_t q1146
                    exact r_move rfl) rfl ?_
              refine ao_readG (x := .bool ((!r12.1) || r14.1)) rfl (GV.T rfl) (fun hg1153 => by
                    obtain ⟨q1154, q1155⟩ := and_t hg1153
                    obtain ⟨q1156, q1157⟩ := and_t q1154
                    obtain ⟨q1158, q1159⟩ := and_t q1156
                    obtain ⟨q1160, q1161⟩ := and_t q1158
                    have q1162 := d_t q1159
                    have q1163 : s1004 = ((p_laws_vSix fu (r2.length : Int)).getD 0) := d_t q1157
                    exact Reads.strip 396 rfl (hg1153) (r_orBg rfl rfl (tr_and (hg1153)))) rfl ?_
              refine ao_read trivial (r_andB rfl rfl) rfl ?_
              refine ao_read trivial (r_move rfl) rfl ?_
              refine ao_readG (x := .bool r12.1) rfl (GV.T rfl) (fun hg1164 => by
                    obtain ⟨q1165, q1166⟩ := and_t hg1164
                    obtain ⟨q1167, q1168⟩ := and_t q1165
                    obtain ⟨q1169, q1170⟩ := and_t q1167
                    obtain ⟨q1171, q1172⟩ := and_t q1169
                    obtain ⟨q1173, q1174⟩ := and_t q1171
                    have q1175 := d_t q1172
                    have q1176 : s1004 = ((p_laws_vSix fu (r2.length : Int)).getD 0) := d_t q1170
                    exact r_move rfl) rfl ?_
              refine ao_readG (x := .bool (!r12.1)) rfl (GV.T rfl) (fun hg1177 => by
                    obtain ⟨q1178, q1179⟩ := and_t hg1177
                    obtain ⟨q1180, q1181⟩ := and_t q1178
                    obtain ⟨q1182, q1183⟩ := and_t q1180
                    obtain ⟨q1184, q1185⟩ := and_t q1182
                    obtain ⟨q1186, q1187⟩ := and_t q1184
                    have q1188 := d_t q1185
                    have q1189 : s1004 = ((p_laws_vSix fu (r2.length : Int)).getD 0) := d_t q1183
                    exact Reads.strip 401 rfl (hg1177) (r_not rfl)) rfl ?_
              refine ao_readG (x := .bool (!r12.1)) rfl (GV.T rfl) (fun hg1190 => by
                    obtain ⟨q1191, q1192⟩ := and_t hg1190
                    obtain ⟨q1193, q1194⟩ := and_t q1191
                    obtain ⟨q1195, q1196⟩ := and_t q1193
                    obtain ⟨q1197, q1198⟩ := and_t q1195
                    obtain ⟨q1199, q1200⟩ := and_t q1197
                    have q1201 := d_t q1198
                    have q1202 : s1004 = ((p_laws_vSix fu (r2.length : Int)).getD 0) := d_t q1196
                    exact Reads.strip 402 rfl (hg1190) (r_move rfl)) rfl ?_
              refine ao_readG (x := .int .i64 r8.1) rfl (GV.gF rfl) (fun hg1203 => by
                    obtain ⟨q1204, q1205⟩ := and_t hg1203
                    obtain ⟨q1206, q1207⟩ := and_t q1204
                    obtain ⟨q1208, q1209⟩ := and_t q1206
                    obtain ⟨q1210, q1211⟩ := and_t q1208
                    obtain ⟨q1212, q1213⟩ := and_t q1210
                    obtain ⟨q1214, q1215⟩ := and_t q1212
                    have q1216 := d_t q1213
                    have q1217 : s1004 = ((p_laws_vSix fu (r2.length : Int)).getD 0) := d_t q1211
                    exact r_move rfl) rfl ?_
              refine ao_readG (x := .bool (decide (r8.1 = 0))) rfl (GV.gF rfl) (fun hg1218 => by
                    obtain ⟨q1219, q1220⟩ := and_t hg1218
                    obtain ⟨q1221, q1222⟩ := and_t q1219
                    obtain ⟨q1223, q1224⟩ := and_t q1221
                    obtain ⟨q1225, q1226⟩ := and_t q1223
                    obtain ⟨q1227, q1228⟩ := and_t q1225
                    obtain ⟨q1229, q1230⟩ := and_t q1227
                    have q1231 := d_t q1228
                    have q1232 : s1004 = ((p_laws_vSix fu (r2.length : Int)).getD 0) := d_t q1226
                    exact Reads.strip 404 rfl (hg1218) (r_eql rfl rfl)) rfl ?_
              refine ao_readG (x := .bool ((!r12.1) || (decide (r8.1 = 0)))) rfl (GV.T rfl) (fun hg1233 => by
                    obtain ⟨q1234, q1235⟩ := and_t hg1233
                    obtain ⟨q1236, q1237⟩ := and_t q1234
                    obtain ⟨q1238, q1239⟩ := and_t q1236
                    obtain ⟨q1240, q1241⟩ := and_t q1238
                    obtain ⟨q1242, q1243⟩ := and_t q1240
                    have q1244 := d_t q1241
                    have q1245 : s1004 = ((p_laws_vSix fu (r2.length : Int)).getD 0) := d_t q1239
                    exact Reads.strip 403 rfl (hg1233) (r_orBg rfl rfl (tr_and (hg1233)))) rfl ?_
              refine ao_read trivial (r_andB rfl rfl) rfl ?_
              refine ao_read trivial (r_assign rfl) rfl ?_
              refine ao_nil ?_
              refine aq_then ?_
              refine aw_ret ?_
              refine aq_ret ?_
              obtain rfl := is_some h
              exact aq_finx (l := [.tmp 2]) (xs := [.bool ((((((r1000.2 && (p_laws_vOrders r1000.1 r1002.1)) && (decide ((r1000.1.length : Int) = (r4.1.length : Int)))) && (decide (s1004 = ((p_laws_vSix fu (r2.length : Int)).getD 0)))) && ((!r10.1) || r12.1)) && ((!r12.1) || r14.1)) && ((!r12.1) || (decide (r8.1 = 0))))]) idn [.bool ((((((r1000.2 && (p_laws_vOrders r1000.1 r1002.1)) && (decide ((r1000.1.length : Int) = (r4.1.length : Int)))) && (decide (s1004 = ((p_laws_vSix fu (r2.length : Int)).getD 0)))) && ((!r10.1) || r12.1)) && ((!r12.1) || r14.1)) && ((!r12.1) || (decide (r8.1 = 0))))] [] rfl (by exact ⟨rfl, trivial⟩) (by exact ⟨ad_ren rfl, trivial⟩) (by exact trivial) rfl (nk rfl) rfl rfl ⟨rfl, rfl⟩
        · refine aw_seq ?_
          refine aw_region ?_
          refine ao_read trivial (r_move rfl) rfl ?_
          refine ao_nil ?_
          refine aq_then ?_
          refine aw_cond rfl (fun hb1246 => ?_) (fun hb1246 => ?_)
          · replace h := is_if hb1246 h
            refine aw_seq ?_
            refine aw_region ?_
            refine ao_read trivial (r_move rfl) rfl ?_
            refine ao_read trivial (r_len_osm (r24.1.length : Int) Try.underlying24 rfl rfl rfl) rfl ?_
            obtain ⟨r1247, r1247h, h⟩ := is_bind h
            refine ao_call [] 3 trivial (c_impl_OrdersOf (is_mk r1247h)) Try.func26 rfl rfl rfl rfl ⟨ad_ren rfl, trivial⟩ trivial rfl rfl rfl rfl rfl rfl rfl (fun r' H' hr => ?_)
            obtain ⟨rfl, rfl⟩ := hr
            refine ao_norm (y := .tup [.os 3, .bool r1247.2]) (H' := [(0, .row (.arr 6 (.int .i64)) r2), (1, .row (.int .i64) r4.1), (2, .row (.arr 6 (.int .i64)) r24.1), (3, .row (.pair (.arr 4 (.int .i64)) .unit) r1247.1)]) rfl rfl ?_
            refine row_len_o 3 (r1247.1.length : Int) rfl rfl (fun hr1248 => ?_)
            refine ao_read trivial (r_move rfl) rfl ?_
            refine ao_read trivial (r_extract rfl rfl) rfl ?_
            refine ao_read trivial (r_extract rfl rfl) rfl ?_
            refine ao_read trivial (r_assign rfl) rfl ?_
            refine ao_read trivial (r_assign rfl) rfl ?_
            refine ao_nil ?_
            refine aq_then ?_
            refine aw_seq ?_
            refine aw_region ?_
            refine ao_read trivial (r_move rfl) rfl ?_
            obtain ⟨r1249, r1249h, h⟩ := is_bind h
            refine ao_call [] 4 trivial (c_impl_OrderWays (is_mk r1249h)) Try.func7 rfl rfl rfl rfl ⟨ad_os0 rfl, trivial⟩ trivial rfl rfl rfl rfl rfl rfl rfl (fun r' H' hr => ?_)
            obtain ⟨rfl, rfl⟩ := hr
            refine ao_norm (y := .tup [.os 4, .bool r1249.2]) (H' := [(0, .row (.arr 6 (.int .i64)) r2), (1, .row (.int .i64) r4.1), (2, .row (.arr 6 (.int .i64)) r24.1), (3, .row (.pair (.arr 4 (.int .i64)) .unit) r1247.1), (4, .row (.int .i64) r1249.1)]) rfl rfl ?_
            refine row_len_o 4 (r1249.1.length : Int) rfl rfl (fun hr1250 => ?_)
            refine ao_read trivial (r_move rfl) rfl ?_
            refine ao_read trivial (r_extract rfl rfl) rfl ?_
            refine ao_read trivial (r_extract rfl rfl) rfl ?_
            refine ao_read trivial (r_assign rfl) rfl ?_
            refine ao_read trivial (r_assign rfl) rfl ?_
            refine ao_nil ?_
            refine aq_then ?_
            refine aw_seq ?_
            refine aw_region ?_
            refine ao_read trivial (r_assign rfl) rfl ?_
            refine ao_nil ?_
            refine aq_then ?_
            refine aw_seq ?_
            refine aw_seq ?_
            refine aw_region ?_
            refine ao_read trivial (r_assign rfl) rfl ?_
            refine ao_nil ?_
            refine aq_then ?_
            refine aw_block ?_
            refine aw_loop (AL.sub (fr' := [(3, .os 0), (4, .os 1), (5, .bool r4.2), (8, .int .i64 r8.1), (12, .bool r10.1), (16, .bool r12.1), (20, .bool r14.1), (31, .int .i64 r24.2.1), (32, .int .i64 r24.2.2), (33, .int .i64 r26.1), (42, .os 2), (43, .bool r1247.2), (44, .os 3), (45, .bool r1249.2), (46, .int .i64 0), (47, .int .i64 0)]) (H' := [(0, .row (.arr 6 (.int .i64)) r2), (1, .row (.int .i64) r4.1), (2, .row (.pair (.arr 4 (.int .i64)) .unit) r1247.1), (3, .row (.int .i64) r1249.1)]) (sub_mk (rn [(2, 3), (3, 4)]) (by exact ⟨⟨_, rfl, ad_ren rfl⟩, ⟨_, rfl, ad_ren rfl⟩, ⟨_, rfl, ad_ren rfl⟩, ⟨_, rfl, ad_ren rfl⟩, ⟨_, rfl, ad_ren rfl⟩, ⟨_, rfl, ad_ren rfl⟩, ⟨_, rfl, ad_ren rfl⟩, ⟨_, rfl, ad_ren rfl⟩, ⟨_, rfl, ad_ren rfl⟩, ⟨_, rfl, ad_ren rfl⟩, ⟨_, rfl, ad_ren rfl⟩, ⟨_, rfl, ad_ren rfl⟩, ⟨_, rfl, ad_ren rfl⟩, ⟨_, rfl, ad_ren rfl⟩, ⟨_, rfl, ad_ren rfl⟩, ⟨_, rfl, ad_ren rfl⟩, trivial⟩) (by exact ⟨⟨_, rfl, rfl⟩, ⟨_, rfl, rfl⟩, ⟨_, rfl, rfl⟩, ⟨_, rfl, rfl⟩, trivial⟩) (by rfl) (nk rfl)) (al_cnt (fun i1252 (s1251 : Int) => [(3, .os 0), (4, .os 1), (5, .bool r4.2), (8, .int .i64 r8.1), (12, .bool r10.1), (16, .bool r12.1), (20, .bool r14.1), (31, .int .i64 r24.2.1), (32, .int .i64 r24.2.2), (33, .int .i64 r26.1), (42, .os 2), (43, .bool r1247.2), (44, .os 3), (45, .bool r1249.2), (46, .int .i64 s1251), (47, .int .i64 i1252)]) (fun i1252 (s1251 : Int) => [(0, .row (.arr 6 (.int .i64)) r2), (1, .row (.int .i64) r4.1), (2, .row (.pair (.arr 4 (.int .i64)) .unit) r1247.1), (3, .row (.int .i64) r1249.1)]) (fun d i1252 (s1251 : Int) => d = Int.toNat ((r1247.1.length : Int) - i1252) ∧ 0 ≤ i1252 ∧ i1252 ≤ (r1247.1.length : Int)) h ⟨rfl, (by (try simp only [List.length_set, List.length_append, List.length_cons, List.length_nil, List.length_replicate, List.length_take, List.length_drop]) <;> omega), (by (try simp only [List.length_set, List.length_append, List.length_cons, List.length_nil, List.length_replicate, List.length_take, List.length_drop]) <;> omega)⟩ (fun d1253 i1252 s1251 hI h ih1253 => ?_)))
            obtain ⟨hd, _, _⟩ := hI
            refine al_round ?_
            refine aw_seq ?_
            refine aw_seq ?_
            refine aw_region ?_
            refine ao_read trivial (r_move rfl) rfl ?_
            refine ao_read trivial (r_move rfl) rfl ?_
            refine ao_read trivial (r_len_osm (r1247.1.length : Int) Try.underlying46 rfl rfl rfl) rfl ?_
            refine ao_read trivial (r_lss rfl rfl) rfl ?_
            refine ao_read trivial (r_move rfl) rfl ?_
            refine ao_readG (x := .int .i64 i1252) rfl (GV.T rfl) (fun hg1255 => by
                  have q1256 := d_t hg1255
                  exact r_move rfl) rfl ?_
            refine ao_readG (x := .os 3) rfl (GV.T rfl) (fun hg1257 => by
                  have q1258 := d_t hg1257
                  exact r_move rfl) rfl ?_
            refine ao_readG (x := .int .i64 (r1249.1.length : Int)) rfl (GV.T rfl) (fun hg1259 => by
                  have q1260 := d_t hg1259
                  exact Reads.strip 307 rfl (hg1259) (r_len_osm (r1249.1.length : Int) Try.underlying26 rfl rfl rfl)) rfl ?_
            refine ao_readG (x := .bool (decide (i1252 < (r1249.1.length : Int)))) rfl (GV.T rfl) (fun hg1261 => by
                  have q1262 := d_t hg1261
                  exact Reads.strip 306 rfl (hg1261) (Reads.strip 308 rfl (hg1261) (r_lss rfl rfl))) rfl ?_
            refine ao_read trivial (r_andB rfl rfl) rfl ?_
            refine ao_nil ?_
            refine aq_then ?_
            refine aw_cond rfl (fun hb1263 => ?_) (fun hb1263 => ?_)
            · obtain ⟨q1264, q1265⟩ := and_t hb1263
              have q1266 := d_t q1264
              have q1267 := d_t q1265
              obtain ⟨d1253, rfl⟩ : ∃ e, d1253 = e + 1 := ⟨d1253 - 1, by omega⟩
              replace h := is_if hb1263 (is_cntS h)
              refine aw_skip ?_
              refine aq_then ?_
              refine aw_seq ?_
              refine aw_block ?_
              refine aw_seq ?_
              refine aw_region ?_
              refine ao_read trivial (r_move rfl) rfl ?_
              refine ao_read trivial (r_move rfl) rfl ?_
              refine ao_read trivial (r_move rfl) rfl ?_
              refine ao_read trivial (r_idxAddr_os Try.underlying46 Try.sizeOf38 rfl rfl rfl (show 0 ≤ i1252 from by omega) (show i1252 < (r1247.1.length : Int) from by omega)) rfl ?_
              refine ao_read trivial (r_fieldAddr_elem Try.underlying38 rfl Try.sizeOf36 rfl rfl rfl) rfl ?_
              obtain ⟨g1268, h⟩ := is_guard h
              obtain ⟨g1269, h⟩ := is_guard h
              refine ao_read trivial (r_idxAddr_elem Try.underlying36 Try.sizeOf3 rfl rfl (by omega) (by omega)) rfl ?_
              refine ao_read trivial (r_load_elem2s_int (m := 4) Try.isAgg3 Try.sizeOf3 rfl rfl rfl (show i1252.toNat < r1247.1.length from by omega) rfl rfl (by omega) rfl) rfl ?_
              refine ao_read trivial (r_move rfl) rfl ?_
              refine ao_read trivial (r_eql rfl rfl) rfl ?_
              refine ao_nil ?_
              refine aq_then ?_
              refine aw_cond rfl (fun hb1270 => ?_) (fun hb1270 => ?_)
              · have q1271 : ((r1247.1.getD i1252.toNat ((List.replicate 4 0), ())).1.getD r24.2.2.toNat 0) = r24.2.1 := d_t hb1270
                replace h := is_if (d_t hb1270) h
                refine aw_region ?_
                refine ao_read trivial (r_move rfl) rfl ?_
                refine ao_read trivial (r_move rfl) rfl ?_
                refine ao_read trivial (r_move rfl) rfl ?_
                refine ao_read trivial (r_idxAddr_os Try.underlying26 Try.sizeOf3 rfl rfl rfl (show 0 ≤ i1252 from by omega) (show i1252 < (r1249.1.length : Int) from by omega)) rfl ?_
                refine ao_read trivial (r_load_elem_int Try.isAgg3 Try.sizeOf3 rfl rfl (show i1252.toNat < r1249.1.length from by omega)) rfl ?_
                refine ao_read trivial (r_add rfl rfl) rfl ?_
                refine ao_read trivial (r_assign rfl) rfl ?_
                refine ao_nil ?_
                refine aq_in ?_
                refine aq_then ?_
                refine aw_region ?_
                refine ao_read trivial (r_move rfl) rfl ?_
                refine ao_read trivial (r_addI rfl rfl (wrap_id (by omega) (by omega))) rfl ?_
                refine ao_read trivial (r_assign rfl) rfl ?_
                refine ao_nil ?_
                exact aq_again (AL.sub (sub_mk idn (by exact ⟨⟨_, rfl, ad_ren rfl⟩, ⟨_, rfl, ad_ren rfl⟩, ⟨_, rfl, ad_ren rfl⟩, ⟨_, rfl, ad_ren rfl⟩, ⟨_, rfl, ad_ren rfl⟩, ⟨_, rfl, ad_ren rfl⟩, ⟨_, rfl, ad_ren rfl⟩, ⟨_, rfl, ad_ren rfl⟩, ⟨_, rfl, ad_ren rfl⟩, ⟨_, rfl, ad_ren rfl⟩, ⟨_, rfl, ad_ren rfl⟩, ⟨_, rfl, ad_ren rfl⟩, ⟨_, rfl, ad_ren rfl⟩, ⟨_, rfl, ad_ren rfl⟩, ⟨_, rfl, ad_ren rfl⟩, ⟨_, rfl, ad_ren rfl⟩, trivial⟩) (by exact ⟨⟨_, rfl, rfl⟩, ⟨_, rfl, rfl⟩, ⟨_, rfl, rfl⟩, ⟨_, rfl, rfl⟩, trivial⟩) (by rfl) (nk rfl)) (ih1253 d1253 (i1252 + 1) (IntKind.wrap .i64 (s1251 + (r1249.1.getD i1252.toNat 0))) (by omega) ⟨by omega, (by (try simp only [List.length_set, List.length_append, List.length_cons, List.length_nil, List.length_replicate, List.length_take, List.length_drop]) <;> omega), (by (try simp only [List.length_set, List.length_append, List.length_cons, List.length_nil, List.length_replicate, List.length_take, List.length_drop]) <;> omega)⟩ h))
              · have q1272 : ¬ (((r1247.1.getD i1252.toNat ((List.replicate 4 0), ())).1.getD r24.2.2.toNat 0) = r24.2.1) := d_f hb1270
                replace h := is_else (d_f hb1270) h
                refine aw_skip ?_
                refine aq_in ?_
                refine aq_then ?_
                refine aw_region ?_
                refine ao_read trivial (r_move rfl) rfl ?_
                refine ao_read trivial (r_addI rfl rfl (wrap_id (by omega) (by omega))) rfl ?_
                refine ao_read trivial (r_assign rfl) rfl ?_
                refine ao_nil ?_
                exact aq_again (AL.sub (sub_mk idn (by exact ⟨⟨_, rfl, ad_ren rfl⟩, ⟨_, rfl, ad_ren rfl⟩, ⟨_, rfl, ad_ren rfl⟩, ⟨_, rfl, ad_ren rfl⟩, ⟨_, rfl, ad_ren rfl⟩, ⟨_, rfl, ad_ren rfl⟩, ⟨_, rfl, ad_ren rfl⟩, ⟨_, rfl, ad_ren rfl⟩, ⟨_, rfl, ad_ren rfl⟩, ⟨_, rfl, ad_ren rfl⟩, ⟨_, rfl, ad_ren rfl⟩, ⟨_, rfl, ad_ren rfl⟩, ⟨_, rfl, ad_ren rfl⟩, ⟨_, rfl, ad_ren rfl⟩, ⟨_, rfl, ad_ren rfl⟩, ⟨_, rfl, ad_ren rfl⟩, trivial⟩) (by exact ⟨⟨_, rfl, rfl⟩, ⟨_, rfl, rfl⟩, ⟨_, rfl, rfl⟩, ⟨_, rfl, rfl⟩, trivial⟩) (by rfl) (nk rfl)) (ih1253 d1253 (i1252 + 1) s1251 (by omega) ⟨by omega, (by (try simp only [List.length_set, List.length_append, List.length_cons, List.length_nil, List.length_replicate, List.length_take, List.length_drop]) <;> omega), (by (try simp only [List.length_set, List.length_append, List.length_cons, List.length_nil, List.length_replicate, List.length_take, List.length_drop]) <;> omega)⟩ h))
            · replace h := is_cntF h (ne_t hb1263) (fun _ => rfl)
              refine aw_exit ?_
              refine aq_then_exit ?_
              refine aq_then_exit ?_
              refine aq_in_exit ?_
              refine aq_then ?_
              refine aw_seq ?_
              refine aw_region ?_
              refine ao_read trivial (r_move rfl) rfl ?_
              refine ao_read trivial (r_not rfl) rfl ?_
              refine ao_read trivial (r_move rfl) rfl ?_
              refine ao_readG (x := .bool r1249.2) rfl (GV.F rfl) (fun hg1273 => r_move rfl) rfl ?_
              refine ao_readG (x := .bool (!r1249.2)) rfl (GV.F rfl) (fun hg1274 => Reads.strip 331 rfl (hg1274) (r_not rfl)) rfl ?_
              refine ao_read trivial (r_orB rfl rfl) rfl ?_
              refine ao_read trivial (r_move rfl) rfl ?_
              refine ao_readG (x := .int .i64 s1251) rfl (GV.F rfl) (fun hg1275 => by
                    obtain ⟨q1276, q1277⟩ := or_f (not_t hg1275)
                    exact r_move rfl) rfl ?_
              refine ao_readG (x := .int .i64 r26.1) rfl (GV.F rfl) (fun hg1278 => by
                    obtain ⟨q1279, q1280⟩ := or_f (not_t hg1278)
                    exact r_move rfl) rfl ?_
              refine ao_readG (x := .bool (!(decide (s1251 = r26.1)))) rfl (GV.F rfl) (fun hg1281 => by
                    obtain ⟨q1282, q1283⟩ := or_f (not_t hg1281)
                    exact Reads.strip 335 rfl (hg1281) (Reads.strip 336 rfl (hg1281) (r_neq rfl rfl))) rfl ?_
              refine ao_read trivial (r_orB rfl rfl) rfl ?_
              refine ao_nil ?_
              refine aq_then ?_
              refine aw_cond rfl (fun hb1284 => ?_) (fun hb1284 => ?_)
              · replace h := is_if hb1284 h
                refine aw_seq ?_
                refine aw_region ?_
                refine ao_read trivial (r_assign rfl) rfl ?_
                refine ao_nil ?_
                refine aq_then ?_
                refine aw_ret ?_
                refine aq_then_ret ?_
                refine aq_ret ?_
                obtain rfl := is_some h
                exact aq_finx (l := [.tmp 2]) (xs := [.bool false]) idn [.bool false] [] rfl (by exact ⟨rfl, trivial⟩) (by exact ⟨ad_ren rfl, trivial⟩) (by exact trivial) rfl (nk rfl) rfl rfl ⟨rfl, rfl⟩
              · obtain ⟨q1285, q1286⟩ := or_f hb1284
                obtain ⟨q1287, q1288⟩ := or_f q1285
                have q1289 := d_t (not_f q1286)
                replace h := is_else (ne_t hb1284) h
                refine aw_skip ?_
                exact aq_then (AW.sub (sub_mk idn (by exact ⟨⟨_, rfl, ad_ren rfl⟩, ⟨_, rfl, ad_ren rfl⟩, ⟨_, rfl, ad_ren rfl⟩, ⟨_, rfl, ad_ren rfl⟩, ⟨_, rfl, ad_ren rfl⟩, ⟨_, rfl, ad_ren rfl⟩, ⟨_, rfl, ad_ren rfl⟩, trivial⟩) (by exact ⟨⟨_, rfl, rfl⟩, ⟨_, rfl, rfl⟩, trivial⟩) (by rfl) (nk rfl)) (j998 () trivial h))
          · replace h := is_else (ne_t hb1246) h
            refine aw_skip ?_
            exact aq_then (AW.sub (sub_mk idn (by exact ⟨⟨_, rfl, ad_ren rfl⟩, ⟨_, rfl, ad_ren rfl⟩, ⟨_, rfl, ad_ren rfl⟩, ⟨_, rfl, ad_ren rfl⟩, ⟨_, rfl, ad_ren rfl⟩, ⟨_, rfl, ad_ren rfl⟩, ⟨_, rfl, ad_ren rfl⟩, trivial⟩) (by exact ⟨⟨_, rfl, rfl⟩, ⟨_, rfl, rfl⟩, trivial⟩) (by rfl) (nk rfl)) (j998 () trivial h))
      · refine aw_seq ?_
        refine aw_region ?_
        refine ao_read trivial (r_move rfl) rfl ?_
        refine ao_nil ?_
        refine aq_then ?_
        refine aw_cond rfl (fun hb1291 => ?_) (fun hb1291 => ?_)
        · replace h := is_if hb1291 h
          refine aw_seq ?_
          refine aw_region ?_
          refine ao_read trivial (r_move rfl) rfl ?_
          refine ao_read trivial (r_move rfl) rfl ?_
          obtain ⟨r1292, r1292h, h⟩ := is_bind h
          refine ao_call [] 9 trivial (c_impl_RollAt (is_mk r1292h)) Try.func25 rfl rfl rfl rfl ⟨ad_os0 rfl, ad_ren rfl, trivial⟩ trivial rfl rfl rfl rfl rfl rfl rfl (fun r' H' hr => ?_)
          obtain ⟨rfl, rfl⟩ := hr
          refine ao_norm (y := .tup [.os 9, .bool r1292.2]) (H' := [(6, .var [.arr (.int .i64) 4 r21.1.1]), (5, .var [.arr (.int .i64) 4 r20.1.1]), (0, .row (.arr 6 (.int .i64)) r2), (1, .row (.int .i64) r4.1), (2, .row (.int .i64) r6.1), (3, .row (.int .u8) r16), (4, .row (.arr 6 (.int .i64)) r18.1), (7, .row (.int .u8) r22), (8, .row (.arr 6 (.int .i64)) r24.1), (9, .row (.int .i64) r1292.1)]) rfl rfl ?_
          refine row_len_o 9 (r1292.1.length : Int) rfl rfl (fun hr1293 => ?_)
          refine ao_read trivial (r_move rfl) rfl ?_
          refine ao_read trivial (r_extract rfl rfl) rfl ?_
          refine ao_read trivial (r_extract rfl rfl) rfl ?_
          refine ao_read trivial (r_assign rfl) rfl ?_
          refine ao_read trivial (r_assign rfl) rfl ?_
          refine ao_nil ?_
          refine aq_then ?_
          refine aw_seq ?_
          refine aw_seq ?_
          refine aw_region ?_
          refine ao_read trivial (r_assign rfl) rfl ?_
          refine ao_nil ?_
          refine aq_then ?_
          refine aw_block ?_
          refine aw_loop (AL.sub (fr' := [(3, .os 0), (4, .os 1), (5, .bool r4.2), (8, .int .i64 r8.1), (12, .bool r10.1), (16, .bool r12.1), (20, .bool r14.1), (26, .ref 2 0), (30, .os 3), (31, .int .i64 r24.2.1), (32, .int .i64 r24.2.2), (33, .int .i64 r26.1), (34, .bool r26.2), (37, .os 4), (38, .bool r1292.2), (39, .int .i64 1)]) (H' := [(0, .row (.arr 6 (.int .i64)) r2), (1, .row (.int .i64) r4.1), (2, .var [.arr (.int .i64) 4 r20.1.1]), (3, .row (.arr 6 (.int .i64)) r24.1), (4, .row (.int .i64) r1292.1)]) (sub_mk (rn [(2, 5), (3, 8), (4, 9)]) (by exact ⟨⟨_, rfl, ad_ren rfl⟩, ⟨_, rfl, ad_ren rfl⟩, ⟨_, rfl, ad_ren rfl⟩, ⟨_, rfl, ad_ren rfl⟩, ⟨_, rfl, ad_ren rfl⟩, ⟨_, rfl, ad_ren rfl⟩, ⟨_, rfl, ad_ren rfl⟩, ⟨_, rfl, ad_ren rfl⟩, ⟨_, rfl, ad_ren rfl⟩, ⟨_, rfl, ad_ren rfl⟩, ⟨_, rfl, ad_ren rfl⟩, ⟨_, rfl, ad_ren rfl⟩, ⟨_, rfl, ad_ren rfl⟩, ⟨_, rfl, ad_ren rfl⟩, ⟨_, rfl, ad_ren rfl⟩, ⟨_, rfl, ad_ren rfl⟩, trivial⟩) (by exact ⟨⟨_, rfl, rfl⟩, ⟨_, rfl, rfl⟩, ⟨_, rfl, ⟨rfl, trivial⟩⟩, ⟨_, rfl, rfl⟩, ⟨_, rfl, rfl⟩, trivial⟩) (by rfl) (nk rfl)) (al_cnt (fun i1295 (s1294 : Unit) => [(3, .os 0), (4, .os 1), (5, .bool r4.2), (8, .int .i64 r8.1), (12, .bool r10.1), (16, .bool r12.1), (20, .bool r14.1), (26, .ref 2 0), (30, .os 3), (31, .int .i64 r24.2.1), (32, .int .i64 r24.2.2), (33, .int .i64 r26.1), (34, .bool r26.2), (37, .os 4), (38, .bool r1292.2), (39, .int .i64 i1295)]) (fun i1295 (s1294 : Unit) => [(0, .row (.arr 6 (.int .i64)) r2), (1, .row (.int .i64) r4.1), (2, .var [.arr (.int .i64) 4 r20.1.1]), (3, .row (.arr 6 (.int .i64)) r24.1), (4, .row (.int .i64) r1292.1)]) (fun d i1295 (s1294 : Unit) => d = Int.toNat ((r1292.1.length : Int) - i1295) ∧ 1 ≤ i1295) h ⟨rfl, (by (try simp only [List.length_set, List.length_append, List.length_cons, List.length_nil, List.length_replicate, List.length_take, List.length_drop]) <;> omega)⟩ (fun d1296 i1295 s1294 hI h ih1296 => ?_)))
          obtain ⟨hd, _⟩ := hI
          refine al_round ?_
          refine aw_seq ?_
          refine aw_seq ?_
          refine aw_region ?_
          refine ao_read trivial (r_move rfl) rfl ?_
          refine ao_read trivial (r_move rfl) rfl ?_
          refine ao_read trivial (r_len_osm (r1292.1.length : Int) Try.underlying26 rfl rfl rfl) rfl ?_
          refine ao_read trivial (r_lss rfl rfl) rfl ?_
          refine ao_nil ?_
          refine aq_then ?_
          refine aw_cond rfl (fun hb1298 => ?_) (fun hb1298 => ?_)
          · have q1299 := d_t hb1298
            obtain ⟨d1296, rfl⟩ : ∃ e, d1296 = e + 1 := ⟨d1296 - 1, by omega⟩
            replace h := is_cntS h
            refine aw_skip ?_
            refine aq_then ?_
            refine aw_seq ?_
            refine aw_block ?_
            refine aw_seq ?_
            obtain ⟨g1301, h⟩ := is_guard h
            obtain ⟨g1302, h⟩ := is_guard h
            refine aw_drawAll (by kernel_rfl) ?_
            refine an_read 0 (by kernel_rfl) (fun _ _ _ h => h) rfl (by kernel_rfl) trivial (r_move rfl) rfl ?_
            refine an_read 1 (by kernel_rfl) (fun _ _ _ h => h) rfl (by kernel_rfl) trivial (r_subI rfl rfl (wrap_id (by omega) (by omega))) rfl ?_
            refine an_read 2 (by kernel_rfl) (fun _ _ _ h => h) rfl (by kernel_rfl) trivial (r_fieldAddr Try.underlying38 rfl Try.sizeOf36 rfl rfl rfl) rfl ?_
            refine an_read 3 (by kernel_rfl) (fun _ _ _ h => h) rfl (by kernel_rfl) trivial (r_idxAddr_arr (i := (i1295 - 1)) Try.underlying36 Try.sizeOf3 rfl rfl (show 0 ≤ (i1295 - 1) from by omega) (show (i1295 - 1) < (4 : Int) from by omega)) rfl ?_
            refine an_read 4 (by kernel_rfl) (fun _ _ _ h => h) rfl (by kernel_rfl) trivial (r_load_elema_int Try.isAgg3 Try.sizeOf3 rfl rfl rfl (show (i1295 - 1).toNat < 4 from by omega)) rfl ?_
            refine an_read 5 (by kernel_rfl) (fun _ _ _ h => h) rfl (by kernel_rfl) trivial (r_move rfl) rfl ?_
            refine an_read 6 (by kernel_rfl) (fun _ _ _ h => h) rfl (by kernel_rfl) trivial (r_fieldAddr Try.underlying38 rfl Try.sizeOf36 rfl rfl rfl) rfl ?_
            refine an_read 7 (by kernel_rfl) (fun _ _ _ h => h) rfl (by kernel_rfl) trivial (r_idxAddr_arr (i := i1295) Try.underlying36 Try.sizeOf3 rfl rfl (show 0 ≤ i1295 from by omega) (show i1295 < (4 : Int) from by omega)) rfl ?_
            refine an_read 8 (by kernel_rfl) (fun _ _ _ h => h) rfl (by kernel_rfl) trivial (r_load_elema_int Try.isAgg3 Try.sizeOf3 rfl rfl rfl (show i1295.toNat < 4 from by omega)) rfl ?_
            refine an_read 9 (by kernel_rfl) (fun _ _ _ h => h) rfl (by kernel_rfl) trivial (r_assign rfl) rfl ?_
            refine an_read 10 (by kernel_rfl) (fun _ _ _ h => h) rfl (by kernel_rfl) trivial (r_assign rfl) rfl ?_
            refine an_done rfl ?_
            refine aq_then ?_
            refine aw_seq ?_
            refine aw_drawAll (by kernel_rfl) ?_
            refine an_read 0 (by kernel_rfl) (fun _ _ _ h => h) rfl (by kernel_rfl) trivial (r_move rfl) rfl ?_
            refine an_read 1 (by kernel_rfl) (fun _ _ _ h => h) rfl (by kernel_rfl) trivial (r_lss rfl rfl) rfl ?_
            refine an_read 2 (by kernel_rfl) (fun _ _ _ h => h) rfl (by kernel_rfl) trivial (r_move rfl) rfl ?_
            refine an_readG 3 (x := .int .i64 (r20.1.1.getD i1295.toNat 0)) (by kernel_rfl) (fun _ _ _ h => h) rfl (by kernel_rfl) rfl (GV.F rfl) (fun hg1303 => by
                  have q1304 : ¬ ((r20.1.1.getD (i1295 - 1).toNat 0) < 0) := d_f (not_t hg1303)
                  exact r_move rfl) rfl ?_
            refine an_readG 4 (x := .bool (decide ((r20.1.1.getD i1295.toNat 0) < 0))) (by kernel_rfl) (fun _ _ _ h => h) rfl (by kernel_rfl) rfl (GV.F rfl) (fun hg1305 => by
                  have q1306 : ¬ ((r20.1.1.getD (i1295 - 1).toNat 0) < 0) := d_f (not_t hg1305)
                  exact Reads.strip 261 rfl (hg1305) (r_lss rfl rfl)) rfl ?_
            refine an_read 5 (by kernel_rfl) (fun _ _ _ h => h) rfl (by kernel_rfl) trivial (r_orB rfl rfl) rfl ?_
            refine an_read 6 (by kernel_rfl) (fun _ _ _ h => h) rfl (by kernel_rfl) trivial (r_move rfl) rfl ?_
            refine an_readG 7 (x := .int .i64 (r20.1.1.getD (i1295 - 1).toNat 0)) (by kernel_rfl) (fun _ _ _ h => h) rfl (by kernel_rfl) rfl (GV.F rfl) (fun hg1307 => by
                  obtain ⟨q1308, q1309⟩ := or_f (not_t hg1307)
                  have q1310 : ¬ ((r20.1.1.getD (i1295 - 1).toNat 0) < 0) := d_f q1308
                  have q1311 : ¬ ((r20.1.1.getD i1295.toNat 0) < 0) := d_f q1309
                  exact r_move rfl) rfl ?_
            refine an_readG 8 (x := .os 4) (by kernel_rfl) (fun _ _ _ h => h) rfl (by kernel_rfl) rfl (GV.F rfl) (fun hg1312 => by
                  obtain ⟨q1313, q1314⟩ := or_f (not_t hg1312)
                  have q1315 : ¬ ((r20.1.1.getD (i1295 - 1).toNat 0) < 0) := d_f q1313
                  have q1316 : ¬ ((r20.1.1.getD i1295.toNat 0) < 0) := d_f q1314
                  exact r_move rfl) rfl ?_
            refine an_readG 9 (x := .int .i64 (r1292.1.length : Int)) (by kernel_rfl) (fun _ _ _ h => h) rfl (by kernel_rfl) rfl (GV.F rfl) (fun hg1317 => by
                  obtain ⟨q1318, q1319⟩ := or_f (not_t hg1317)
                  have q1320 : ¬ ((r20.1.1.getD (i1295 - 1).toNat 0) < 0) := d_f q1318
                  have q1321 : ¬ ((r20.1.1.getD i1295.toNat 0) < 0) := d_f q1319
                  exact Reads.strip 266 rfl (hg1317) (r_len_osm (r1292.1.length : Int) Try.underlying26 rfl rfl rfl)) rfl ?_
            refine an_readG 10 (x := .bool (decide ((r1292.1.length : Int) ≤ (r20.1.1.getD (i1295 - 1).toNat 0)))) (by kernel_rfl) (fun _ _ _ h => h) rfl (by kernel_rfl) rfl (GV.F rfl) (fun hg1322 => by
                  obtain ⟨q1323, q1324⟩ := or_f (not_t hg1322)
                  have q1325 : ¬ ((r20.1.1.getD (i1295 - 1).toNat 0) < 0) := d_f q1323
                  have q1326 : ¬ ((r20.1.1.getD i1295.toNat 0) < 0) := d_f q1324
                  exact Reads.strip 265 rfl (hg1322) (Reads.strip 267 rfl (hg1322) (r_geq rfl rfl))) rfl ?_
            refine an_read 11 (by kernel_rfl) (fun _ _ _ h => h) rfl (by kernel_rfl) trivial (r_orB rfl rfl) rfl ?_
            refine an_read 12 (by kernel_rfl) (fun _ _ _ h => h) rfl (by kernel_rfl) trivial (r_move rfl) rfl ?_
            refine an_readG 13 (x := .int .i64 (r20.1.1.getD i1295.toNat 0)) (by kernel_rfl) (fun _ _ _ h => h) rfl (by kernel_rfl) rfl (GV.F rfl) (fun hg1327 => by
                  obtain ⟨q1328, q1329⟩ := or_f (not_t hg1327)
                  obtain ⟨q1330, q1331⟩ := or_f q1328
                  have q1332 : ¬ ((r20.1.1.getD (i1295 - 1).toNat 0) < 0) := d_f q1330
                  have q1333 : ¬ ((r20.1.1.getD i1295.toNat 0) < 0) := d_f q1331
                  have q1334 : ¬ ((r1292.1.length : Int) ≤ (r20.1.1.getD (i1295 - 1).toNat 0)) := d_f q1329
                  exact r_move rfl) rfl ?_
            refine an_readG 14 (x := .os 4) (by kernel_rfl) (fun _ _ _ h => h) rfl (by kernel_rfl) rfl (GV.F rfl) (fun hg1335 => by
                  obtain ⟨q1336, q1337⟩ := or_f (not_t hg1335)
                  obtain ⟨q1338, q1339⟩ := or_f q1336
                  have q1340 : ¬ ((r20.1.1.getD (i1295 - 1).toNat 0) < 0) := d_f q1338
                  have q1341 : ¬ ((r20.1.1.getD i1295.toNat 0) < 0) := d_f q1339
                  have q1342 : ¬ ((r1292.1.length : Int) ≤ (r20.1.1.getD (i1295 - 1).toNat 0)) := d_f q1337
                  exact r_move rfl) rfl ?_
            refine an_readG 15 (x := .int .i64 (r1292.1.length : Int)) (by kernel_rfl) (fun _ _ _ h => h) rfl (by kernel_rfl) rfl (GV.F rfl) (fun hg1343 => by
                  obtain ⟨q1344, q1345⟩ := or_f (not_t hg1343)
                  obtain ⟨q1346, q1347⟩ := or_f q1344
                  have q1348 : ¬ ((r20.1.1.getD (i1295 - 1).toNat 0) < 0) := d_f q1346
                  have q1349 : ¬ ((r20.1.1.getD i1295.toNat 0) < 0) := d_f q1347
                  have q1350 : ¬ ((r1292.1.length : Int) ≤ (r20.1.1.getD (i1295 - 1).toNat 0)) := d_f q1345
                  exact Reads.strip 272 rfl (hg1343) (r_len_osm (r1292.1.length : Int) Try.underlying26 rfl rfl rfl)) rfl ?_
            refine an_readG 16 (x := .bool (decide ((r1292.1.length : Int) ≤ (r20.1.1.getD i1295.toNat 0)))) (by kernel_rfl) (fun _ _ _ h => h) rfl (by kernel_rfl) rfl (GV.F rfl) (fun hg1351 => by
                  obtain ⟨q1352, q1353⟩ := or_f (not_t hg1351)
                  obtain ⟨q1354, q1355⟩ := or_f q1352
                  have q1356 : ¬ ((r20.1.1.getD (i1295 - 1).toNat 0) < 0) := d_f q1354
                  have q1357 : ¬ ((r20.1.1.getD i1295.toNat 0) < 0) := d_f q1355
                  have q1358 : ¬ ((r1292.1.length : Int) ≤ (r20.1.1.getD (i1295 - 1).toNat 0)) := d_f q1353
                  exact Reads.strip 271 rfl (hg1351) (Reads.strip 273 rfl (hg1351) (r_geq rfl rfl))) rfl ?_
            refine an_read 17 (by kernel_rfl) (fun _ _ _ h => h) rfl (by kernel_rfl) trivial (r_orB rfl rfl) rfl ?_
            refine an_read 18 (by kernel_rfl) (fun _ _ _ h => h) rfl (by kernel_rfl) trivial (r_move rfl) rfl ?_
            refine an_readG 19 (x := .os 4) (by kernel_rfl) (fun _ _ _ h => h) rfl (by kernel_rfl) rfl (GV.F rfl) (fun hg1359 => by
                  obtain ⟨q1360, q1361⟩ := or_f (not_t hg1359)
                  obtain ⟨q1362, q1363⟩ := or_f q1360
                  obtain ⟨q1364, q1365⟩ := or_f q1362
                  have q1366 : ¬ ((r20.1.1.getD (i1295 - 1).toNat 0) < 0) := d_f q1364
                  have q1367 : ¬ ((r20.1.1.getD i1295.toNat 0) < 0) := d_f q1365
                  have q1368 : ¬ ((r1292.1.length : Int) ≤ (r20.1.1.getD (i1295 - 1).toNat 0)) := d_f q1363
                  have q1369 : ¬ ((r1292.1.length : Int) ≤ (r20.1.1.getD i1295.toNat 0)) := d_f q1361
                  exact r_move rfl) rfl ?_
            refine an_readG 20 (x := .int .i64 (r20.1.1.getD (i1295 - 1).toNat 0)) (by kernel_rfl) (fun _ _ _ h => h) rfl (by kernel_rfl) rfl (GV.F rfl) (fun hg1370 => by
                  obtain ⟨q1371, q1372⟩ := or_f (not_t hg1370)
                  obtain ⟨q1373, q1374⟩ := or_f q1371
                  obtain ⟨q1375, q1376⟩ := or_f q1373
                  have q1377 : ¬ ((r20.1.1.getD (i1295 - 1).toNat 0) < 0) := d_f q1375
                  have q1378 : ¬ ((r20.1.1.getD i1295.toNat 0) < 0) := d_f q1376
                  have q1379 : ¬ ((r1292.1.length : Int) ≤ (r20.1.1.getD (i1295 - 1).toNat 0)) := d_f q1374
                  have q1380 : ¬ ((r1292.1.length : Int) ≤ (r20.1.1.getD i1295.toNat 0)) := d_f q1372
                  exact r_move rfl) rfl ?_
            refine an_readG 21 (x := .elem 4 0 1 (r20.1.1.getD (i1295 - 1).toNat 0).toNat) (by kernel_rfl) (fun _ _ _ h => h) rfl (by kernel_rfl) rfl (GV.F rfl) (fun hg1381 => by
                  obtain ⟨q1382, q1383⟩ := or_f (not_t hg1381)
                  obtain ⟨q1384, q1385⟩ := or_f q1382
                  obtain ⟨q1386, q1387⟩ := or_f q1384
                  have q1388 : ¬ ((r20.1.1.getD (i1295 - 1).toNat 0) < 0) := d_f q1386
                  have q1389 : ¬ ((r20.1.1.getD i1295.toNat 0) < 0) := d_f q1387
                  have q1390 : ¬ ((r1292.1.length : Int) ≤ (r20.1.1.getD (i1295 - 1).toNat 0)) := d_f q1385
                  have q1391 : ¬ ((r1292.1.length : Int) ≤ (r20.1.1.getD i1295.toNat 0)) := d_f q1383
                  exact Reads.strip 277 rfl (hg1381) (Reads.strip 278 rfl (hg1381) (r_idxAddr_os Try.underlying26 Try.sizeOf3 rfl rfl rfl (show 0 ≤ (r20.1.1.getD (i1295 - 1).toNat 0) from by omega) (show (r20.1.1.getD (i1295 - 1).toNat 0) < (r1292.1.length : Int) from by omega)))) rfl ?_
            refine an_readG 22 (x := .int .i64 (r1292.1.getD (r20.1.1.getD (i1295 - 1).toNat 0).toNat 0)) (by kernel_rfl) (fun _ _ _ h => h) rfl (by kernel_rfl) rfl (GV.F rfl) (fun hg1392 => by
                  obtain ⟨q1393, q1394⟩ := or_f (not_t hg1392)
                  obtain ⟨q1395, q1396⟩ := or_f q1393
                  obtain ⟨q1397, q1398⟩ := or_f q1395
                  have q1399 : ¬ ((r20.1.1.getD (i1295 - 1).toNat 0) < 0) := d_f q1397
                  have q1400 : ¬ ((r20.1.1.getD i1295.toNat 0) < 0) := d_f q1398
                  have q1401 : ¬ ((r1292.1.length : Int) ≤ (r20.1.1.getD (i1295 - 1).toNat 0)) := d_f q1396
                  have q1402 : ¬ ((r1292.1.length : Int) ≤ (r20.1.1.getD i1295.toNat 0)) := d_f q1394
                  exact Reads.strip 279 rfl (hg1392) (r_load_elem_int Try.isAgg3 Try.sizeOf3 rfl rfl (show (r20.1.1.getD (i1295 - 1).toNat 0).toNat < r1292.1.length from by omega))) rfl ?_
            refine an_readG 23 (x := .os 4) (by kernel_rfl) (fun _ _ _ h => h) rfl (by kernel_rfl) rfl (GV.F rfl) (fun hg1403 => by
                  obtain ⟨q1404, q1405⟩ := or_f (not_t hg1403)
                  obtain ⟨q1406, q1407⟩ := or_f q1404
                  obtain ⟨q1408, q1409⟩ := or_f q1406
                  have q1410 : ¬ ((r20.1.1.getD (i1295 - 1).toNat 0) < 0) := d_f q1408
                  have q1411 : ¬ ((r20.1.1.getD i1295.toNat 0) < 0) := d_f q1409
                  have q1412 : ¬ ((r1292.1.length : Int) ≤ (r20.1.1.getD (i1295 - 1).toNat 0)) := d_f q1407
                  have q1413 : ¬ ((r1292.1.length : Int) ≤ (r20.1.1.getD i1295.toNat 0)) := d_f q1405
                  exact r_move rfl) rfl ?_
            refine an_readG 24 (x := .int .i64 (r20.1.1.getD i1295.toNat 0)) (by kernel_rfl) (fun _ _ _ h => h) rfl (by kernel_rfl) rfl (GV.F rfl) (fun hg1414 => by
                  obtain ⟨q1415, q1416⟩ := or_f (not_t hg1414)
                  obtain ⟨q1417, q1418⟩ := or_f q1415
                  obtain ⟨q1419, q1420⟩ := or_f q1417
                  have q1421 : ¬ ((r20.1.1.getD (i1295 - 1).toNat 0) < 0) := d_f q1419
                  have q1422 : ¬ ((r20.1.1.getD i1295.toNat 0) < 0) := d_f q1420
                  have q1423 : ¬ ((r1292.1.length : Int) ≤ (r20.1.1.getD (i1295 - 1).toNat 0)) := d_f q1418
                  have q1424 : ¬ ((r1292.1.length : Int) ≤ (r20.1.1.getD i1295.toNat 0)) := d_f q1416
                  exact r_move rfl) rfl ?_
            refine an_readG 25 (x := .elem 4 0 1 (r20.1.1.getD i1295.toNat 0).toNat) (by kernel_rfl) (fun _ _ _ h => h) rfl (by kernel_rfl) rfl (GV.F rfl) (fun hg1425 => by
                  obtain ⟨q1426, q1427⟩ := or_f (not_t hg1425)
                  obtain ⟨q1428, q1429⟩ := or_f q1426
                  obtain ⟨q1430, q1431⟩ := or_f q1428
                  have q1432 : ¬ ((r20.1.1.getD (i1295 - 1).toNat 0) < 0) := d_f q1430
                  have q1433 : ¬ ((r20.1.1.getD i1295.toNat 0) < 0) := d_f q1431
                  have q1434 : ¬ ((r1292.1.length : Int) ≤ (r20.1.1.getD (i1295 - 1).toNat 0)) := d_f q1429
                  have q1435 : ¬ ((r1292.1.length : Int) ≤ (r20.1.1.getD i1295.toNat 0)) := d_f q1427
                  exact Reads.strip 281 rfl (hg1425) (Reads.strip 282 rfl (hg1425) (r_idxAddr_os Try.underlying26 Try.sizeOf3 rfl rfl rfl (show 0 ≤ (r20.1.1.getD i1295.toNat 0) from by omega) (show (r20.1.1.getD i1295.toNat 0) < (r1292.1.length : Int) from by omega)))) rfl ?_
            refine an_readG 26 (x := .int .i64 (r1292.1.getD (r20.1.1.getD i1295.toNat 0).toNat 0)) (by kernel_rfl) (fun _ _ _ h => h) rfl (by kernel_rfl) rfl (GV.F rfl) (fun hg1436 => by
                  obtain ⟨q1437, q1438⟩ := or_f (not_t hg1436)
                  obtain ⟨q1439, q1440⟩ := or_f q1437
                  obtain ⟨q1441, q1442⟩ := or_f q1439
                  have q1443 : ¬ ((r20.1.1.getD (i1295 - 1).toNat 0) < 0) := d_f q1441
                  have q1444 : ¬ ((r20.1.1.getD i1295.toNat 0) < 0) := d_f q1442
                  have q1445 : ¬ ((r1292.1.length : Int) ≤ (r20.1.1.getD (i1295 - 1).toNat 0)) := d_f q1440
                  have q1446 : ¬ ((r1292.1.length : Int) ≤ (r20.1.1.getD i1295.toNat 0)) := d_f q1438
                  exact Reads.strip 283 rfl (hg1436) (r_load_elem_int Try.isAgg3 Try.sizeOf3 rfl rfl (show (r20.1.1.getD i1295.toNat 0).toNat < r1292.1.length from by omega))) rfl ?_
            refine an_readG 27 (x := .bool (decide ((r1292.1.getD (r20.1.1.getD (i1295 - 1).toNat 0).toNat 0) ≤ (r1292.1.getD (r20.1.1.getD i1295.toNat 0).toNat 0)))) (by kernel_rfl) (fun _ _ _ h => h) rfl (by kernel_rfl) rfl (GV.F rfl) (fun hg1447 => by
                  obtain ⟨q1448, q1449⟩ := or_f (not_t hg1447)
                  obtain ⟨q1450, q1451⟩ := or_f q1448
                  obtain ⟨q1452, q1453⟩ := or_f q1450
                  have q1454 : ¬ ((r20.1.1.getD (i1295 - 1).toNat 0) < 0) := d_f q1452
                  have q1455 : ¬ ((r20.1.1.getD i1295.toNat 0) < 0) := d_f q1453
                  have q1456 : ¬ ((r1292.1.length : Int) ≤ (r20.1.1.getD (i1295 - 1).toNat 0)) := d_f q1451
                  have q1457 : ¬ ((r1292.1.length : Int) ≤ (r20.1.1.getD i1295.toNat 0)) := d_f q1449
                  exact Reads.strip 280 rfl (hg1447) (Reads.strip 284 rfl (hg1447) (r_leq rfl rfl))) rfl ?_
            refine an_read 28 (by kernel_rfl) (fun _ _ _ h => h) rfl (by kernel_rfl) trivial (r_orB rfl rfl) rfl ?_
            refine an_done rfl ?_
            refine aq_then ?_
            refine aw_cond rfl (fun hb1458 => ?_) (fun hb1458 => ?_)
            · replace h := is_if hb1458 h
              refine aw_seq ?_
              refine aw_region ?_
              refine ao_read trivial (r_assign rfl) rfl ?_
              refine ao_nil ?_
              refine aq_then ?_
              refine aw_ret ?_
              refine aq_in_ret ?_
              refine aq_then_ret ?_
              refine aq_then_ret ?_
              refine aq_in_ret ?_
              refine aq_then_ret ?_
              refine aq_then_ret ?_
              refine aq_ret ?_
              obtain rfl := is_some h
              exact aq_finx (l := [.tmp 2]) (xs := [.bool false]) idn [.bool false] [] rfl (by exact ⟨rfl, trivial⟩) (by exact ⟨ad_ren rfl, trivial⟩) (by exact trivial) rfl (nk rfl) rfl rfl ⟨rfl, rfl⟩
            · obtain ⟨q1459, q1460⟩ := or_f hb1458
              obtain ⟨q1461, q1462⟩ := or_f q1459
              obtain ⟨q1463, q1464⟩ := or_f q1461
              obtain ⟨q1465, q1466⟩ := or_f q1463
              have q1467 : ¬ ((r20.1.1.getD (i1295 - 1).toNat 0) < 0) := d_f q1465
              have q1468 : ¬ ((r20.1.1.getD i1295.toNat 0) < 0) := d_f q1466
              have q1469 : ¬ ((r1292.1.length : Int) ≤ (r20.1.1.getD (i1295 - 1).toNat 0)) := d_f q1464
              have q1470 : ¬ ((r1292.1.length : Int) ≤ (r20.1.1.getD i1295.toNat 0)) := d_f q1462
              have q1471 : ¬ ((r1292.1.getD (r20.1.1.getD (i1295 - 1).toNat 0).toNat 0) ≤ (r1292.1.getD (r20.1.1.getD i1295.toNat 0).toNat 0)) := d_f q1460
              replace h := is_else (ne_t hb1458) h
              refine aw_skip ?_
              refine aq_in ?_
              refine aq_then ?_
              refine aw_region ?_
              refine ao_read trivial (r_move rfl) rfl ?_
              refine ao_read trivial (r_addI rfl rfl (wrap_id (by omega) (by omega))) rfl ?_
              refine ao_read trivial (r_assign rfl) rfl ?_
              refine ao_nil ?_
              exact aq_again (AL.sub (sub_mk idn (by exact ⟨⟨_, rfl, ad_ren rfl⟩, ⟨_, rfl, ad_ren rfl⟩, ⟨_, rfl, ad_ren rfl⟩, ⟨_, rfl, ad_ren rfl⟩, ⟨_, rfl, ad_ren rfl⟩, ⟨_, rfl, ad_ren rfl⟩, ⟨_, rfl, ad_ren rfl⟩, ⟨_, rfl, ad_ren rfl⟩, ⟨_, rfl, ad_ren rfl⟩, ⟨_, rfl, ad_ren rfl⟩, ⟨_, rfl, ad_ren rfl⟩, ⟨_, rfl, ad_ren rfl⟩, ⟨_, rfl, ad_ren rfl⟩, ⟨_, rfl, ad_ren rfl⟩, ⟨_, rfl, ad_ren rfl⟩, ⟨_, rfl, ad_ren rfl⟩, trivial⟩) (by exact ⟨⟨_, rfl, rfl⟩, ⟨_, rfl, rfl⟩, ⟨_, rfl, ⟨rfl, trivial⟩⟩, ⟨_, rfl, rfl⟩, ⟨_, rfl, rfl⟩, trivial⟩) (by rfl) (nk rfl)) (ih1296 d1296 (i1295 + 1) () (by omega) ⟨by omega, (by (try simp only [List.length_set, List.length_append, List.length_cons, List.length_nil, List.length_replicate, List.length_take, List.length_drop]) <;> omega)⟩ h))
          · have q1300 := d_f hb1298
            obtain rfl : d1296 = 0 := by omega
            replace h := is_cnt0 h
            refine aw_exit ?_
            refine aq_then_exit ?_
            refine aq_then_exit ?_
            refine aq_in_exit ?_
            refine aq_then ?_
            refine aw_seq ?_
            refine aw_region ?_
            refine ao_read trivial (r_move rfl) rfl ?_
            refine ao_read trivial (r_not rfl) rfl ?_
            refine ao_nil ?_
            refine aq_then ?_
            refine aw_cond rfl (fun hb1472 => ?_) (fun hb1472 => ?_)
            · replace h := is_else (ne_t (not_t hb1472)) h
              refine aw_seq ?_
              refine aw_region ?_
              refine ao_read trivial (r_assign rfl) rfl ?_
              refine ao_nil ?_
              refine aq_then ?_
              refine aw_ret ?_
              refine aq_then_ret ?_
              refine aq_ret ?_
              obtain rfl := is_some h
              exact aq_finx (l := [.tmp 2]) (xs := [.bool false]) idn [.bool false] [] rfl (by exact ⟨rfl, trivial⟩) (by exact ⟨ad_ren rfl, trivial⟩) (by exact trivial) rfl (nk rfl) rfl rfl ⟨rfl, rfl⟩
            · replace h := is_if (not_f hb1472) h
              refine aw_skip ?_
              exact aq_then (AW.sub (sub_mk (rn [(2, 3)]) (by exact ⟨⟨_, rfl, ad_ren rfl⟩, ⟨_, rfl, ad_ren rfl⟩, ⟨_, rfl, ad_ren rfl⟩, ⟨_, rfl, ad_ren rfl⟩, ⟨_, rfl, ad_ren rfl⟩, ⟨_, rfl, ad_ren rfl⟩, ⟨_, rfl, ad_ren rfl⟩, ⟨_, rfl, ad_ren rfl⟩, ⟨_, rfl, ad_ren rfl⟩, ⟨_, rfl, ad_ren rfl⟩, ⟨_, rfl, ad_ren rfl⟩, ⟨_, rfl, ad_ren rfl⟩, trivial⟩) (by exact ⟨⟨_, rfl, rfl⟩, ⟨_, rfl, rfl⟩, ⟨_, rfl, rfl⟩, trivial⟩) (by rfl) (nk rfl)) (j995 () trivial h))
        · replace h := is_else (ne_t hb1291) h
          refine aw_skip ?_
          exact aq_then (AW.sub (sub_mk (rn [(2, 8)]) (by exact ⟨⟨_, rfl, ad_ren rfl⟩, ⟨_, rfl, ad_ren rfl⟩, ⟨_, rfl, ad_ren rfl⟩, ⟨_, rfl, ad_ren rfl⟩, ⟨_, rfl, ad_ren rfl⟩, ⟨_, rfl, ad_ren rfl⟩, ⟨_, rfl, ad_ren rfl⟩, ⟨_, rfl, ad_ren rfl⟩, ⟨_, rfl, ad_ren rfl⟩, ⟨_, rfl, ad_ren rfl⟩, ⟨_, rfl, ad_ren rfl⟩, ⟨_, rfl, ad_ren rfl⟩, trivial⟩) (by exact ⟨⟨_, rfl, rfl⟩, ⟨_, rfl, rfl⟩, ⟨_, rfl, rfl⟩, trivial⟩) (by rfl) (nk rfl)) (j995 () trivial h))
end Go.GA
