/- Walks: what the Go functions compute, by the printed lines below. -/
import Derived.Test.YtbaeipeeacpobaaC10wb
namespace Go.GA
open Go Go.Proofs
set_option maxRecDepth 100000
set_option maxHeartbeats 2000000
set_option linter.unusedVariables false
set_option linter.unusedSimpArgs false
theorem c_spec_IsPlaceFair {fu : Nat} {x0 : (List (List Int))} {r : Bool × Bool} (h : Is (p_spec_IsPlaceFair fu x0) (some r)) :
    Scalar Try.prog 27 [.v (.slice (.arr 6 (.int .i64))) x0] (.tup [.bool r.1, .bool r.2]) := by
  unfold p_spec_IsPlaceFair at h
  refine ac_enter ⟨37, 0⟩ Try.func27 rfl rfl rfl rfl rfl (fun Γ => ?_)
  refine sl_len_m 0 (x0.length : Int) rfl rfl (fun hl0 => ?_)
  refine aw_seq ?_
  refine aw_region ?_
  refine ao_read trivial (r_assign rfl) rfl ?_
  refine ao_read trivial (r_assign rfl) rfl ?_
  refine ao_nil ?_
  refine aq_then ?_
  refine aw_seq ?_
  refine aw_seq ?_
  refine aw_region ?_
  refine ao_read trivial (r_move rfl) rfl ?_
  obtain ⟨r1, r1h, h⟩ := is_bind h
  refine ao_scall trivial (scall (c_spec_l2Pool (is_mk r1h)) rfl Try.func29 rfl rfl rfl rfl (fun σ => ⟨ad_ren rfl, trivial⟩)) rfl ?_
  refine ao_read trivial (r_not rfl) rfl ?_
  refine ao_nil ?_
  refine aq_then ?_
  refine aw_cond rfl (fun hb2 => ?_) (fun hb2 => ?_)
  · replace h := is_else (ne_t (not_t hb2)) h
    refine aw_seq ?_
    refine aw_region ?_
    refine ao_read trivial (r_assign rfl) rfl ?_
    refine ao_read trivial (r_assign rfl) rfl ?_
    refine ao_nil ?_
    refine aq_then ?_
    refine aw_ret ?_
    refine aq_then_ret ?_
    refine aq_ret ?_
    obtain rfl := is_some h
    exact aq_finx (l := [.tmp 2, .tmp 3]) (xs := [.bool false, .bool false]) idn [.bool false, .bool false] [] rfl (by exact ⟨rfl, rfl, trivial⟩) (by exact ⟨ad_ren rfl, ad_ren rfl, trivial⟩) (by exact trivial) rfl (nk rfl) rfl rfl ⟨rfl, rfl⟩
  · replace h := is_if (not_f hb2) h
    refine aw_skip ?_
    refine aq_then ?_
    refine aw_seq ?_
    refine aw_region ?_
    refine ao_read trivial (r_move rfl) rfl ?_
    obtain ⟨r3, r3h, h⟩ := is_bind h
    refine ao_call [] 0 trivial (c_spec_l10Ways (is_mk r3h)) Try.func32 rfl rfl rfl rfl ⟨ad_ren rfl, trivial⟩ trivial rfl rfl rfl rfl rfl rfl rfl (fun r' H' hr => ?_)
    obtain ⟨rfl, rfl⟩ := hr
    refine ao_norm (y := .os 0) (H' := [(0, .row (.int .i64) r3)]) rfl rfl ?_
    refine row_len_o 0 (r3.length : Int) rfl rfl (fun hr4 => ?_)
    refine ao_read trivial (r_assign rfl) rfl ?_
    refine ao_nil ?_
    refine aq_then ?_
    refine aw_seq ?_
    refine aw_seq ?_
    refine aw_region ?_
    refine ao_read trivial (r_assign rfl) rfl ?_
    refine ao_nil ?_
    refine aq_then ?_
    refine aw_block ?_
    refine aw_loop (AL.sub (fr' := [(0, .v (.slice (.arr 6 (.int .i64))) x0), (4, .os 0), (5, .int .i64 0)]) (H' := [(0, .row (.int .i64) r3)]) (sub_mk idn (by exact ⟨⟨_, rfl, ad_ren rfl⟩, ⟨_, rfl, ad_ren rfl⟩, ⟨_, rfl, ad_ren rfl⟩, trivial⟩) (by exact ⟨⟨_, rfl, rfl⟩, trivial⟩) (by rfl) (nk rfl)) (al_cnt (fun i6 (s5 : Unit) => [(0, .v (.slice (.arr 6 (.int .i64))) x0), (4, .os 0), (5, .int .i64 i6)]) (fun i6 (s5 : Unit) => [(0, .row (.int .i64) r3)]) (fun d i6 (s5 : Unit) => d = Int.toNat ((x0.length : Int) - i6) ∧ 0 ≤ i6 ∧ i6 ≤ (x0.length : Int)) h ⟨rfl, (by (try simp only [List.length_set, List.length_append, List.length_cons, List.length_nil, List.length_replicate, List.length_take, List.length_drop]) <;> omega), (by (try simp only [List.length_set, List.length_append, List.length_cons, List.length_nil, List.length_replicate, List.length_take, List.length_drop]) <;> omega)⟩ (fun d7 i6 s5 hI h ih7 => ?_)))
    obtain ⟨hd, _, _⟩ := hI
    refine al_round ?_
    refine aw_seq ?_
    refine aw_seq ?_
    refine aw_region ?_
    refine ao_read trivial (r_move rfl) rfl ?_
    refine ao_read trivial (r_move rfl) rfl ?_
    refine ao_read trivial (r_len_vm (x0.length : Int) Try.underlying22 rfl rfl) rfl ?_
    refine ao_read trivial (r_lss rfl rfl) rfl ?_
    refine ao_nil ?_
    refine aq_then ?_
    refine aw_cond rfl (fun hb9 => ?_) (fun hb9 => ?_)
    · have q10 := d_t hb9
      obtain ⟨d7, rfl⟩ : ∃ e, d7 = e + 1 := ⟨d7 - 1, by omega⟩
      replace h := is_cntS h
      refine aw_skip ?_
      refine aq_then ?_
      refine aw_seq ?_
      refine aw_block ?_
      refine aw_seq ?_
      refine aw_region ?_
      refine ao_read trivial (r_assign rfl) rfl ?_
      refine ao_nil ?_
      refine aq_then ?_
      refine aw_block ?_
      refine aw_loop (AL.sub (fr' := [(0, .v (.slice (.arr 6 (.int .i64))) x0), (4, .os 0), (5, .int .i64 i6), (6, .int .i64 0)]) (H' := [(0, .row (.int .i64) r3)]) (sub_mk idn (by exact ⟨⟨_, rfl, ad_ren rfl⟩, ⟨_, rfl, ad_ren rfl⟩, ⟨_, rfl, ad_ren rfl⟩, ⟨_, rfl, ad_ren rfl⟩, trivial⟩) (by exact ⟨⟨_, rfl, rfl⟩, trivial⟩) (by rfl) (nk rfl)) (al_cnt (fun i13 (s12 : Unit) => [(0, .v (.slice (.arr 6 (.int .i64))) x0), (4, .os 0), (5, .int .i64 i6), (6, .int .i64 i13)]) (fun i13 (s12 : Unit) => [(0, .row (.int .i64) r3)]) (fun d i13 (s12 : Unit) => d = Int.toNat ((x0.length : Int) - i13) ∧ 0 ≤ i13 ∧ i13 ≤ (x0.length : Int)) h ⟨rfl, (by (try simp only [List.length_set, List.length_append, List.length_cons, List.length_nil, List.length_replicate, List.length_take, List.length_drop]) <;> omega), (by (try simp only [List.length_set, List.length_append, List.length_cons, List.length_nil, List.length_replicate, List.length_take, List.length_drop]) <;> omega)⟩ (fun d14 i13 s12 hI h ih14 => ?_)))
      obtain ⟨hd, _, _⟩ := hI
      refine al_round ?_
      refine aw_seq ?_
      refine aw_seq ?_
      refine aw_region ?_
      refine ao_read trivial (r_move rfl) rfl ?_
      refine ao_read trivial (r_move rfl) rfl ?_
      refine ao_read trivial (r_len_vm (x0.length : Int) Try.underlying22 rfl rfl) rfl ?_
      refine ao_read trivial (r_lss rfl rfl) rfl ?_
      refine ao_nil ?_
      refine aq_then ?_
      refine aw_cond rfl (fun hb16 => ?_) (fun hb16 => ?_)
      · have q17 := d_t hb16
        obtain ⟨d14, rfl⟩ : ∃ e, d14 = e + 1 := ⟨d14 - 1, by omega⟩
        replace h := is_cntS h
        refine aw_skip ?_
        refine aq_then ?_
        refine aw_seq ?_
        refine aw_block ?_
        refine aw_seq ?_
        refine aw_region ?_
        refine ao_read trivial (r_move rfl) rfl ?_
        refine ao_read trivial (r_len_vm (x0.length : Int) Try.underlying22 rfl rfl) rfl ?_
        refine ao_read trivial (r_move rfl) rfl ?_
        refine ao_read trivial (r_move rfl) rfl ?_
        refine ao_read trivial (r_move rfl) rfl ?_
        obtain ⟨r19, r19h, h⟩ := is_bind h
        refine ao_scall trivial (scall (c_spec_l10At (is_mk r19h)) rfl Try.func31 rfl rfl rfl rfl (fun σ => ⟨ad_ren rfl, ad_os0 rfl, ad_ren rfl, ad_ren rfl, trivial⟩)) rfl ?_
        refine ao_read trivial (r_move rfl) rfl ?_
        refine ao_read trivial (r_len_vm (x0.length : Int) Try.underlying22 rfl rfl) rfl ?_
        refine ao_read trivial (r_mul rfl rfl) rfl ?_
        refine ao_read trivial (r_move rfl) rfl ?_
        refine ao_read trivial (r_len_vm (x0.length : Int) Try.underlying22 rfl rfl) rfl ?_
        obtain ⟨r20, r20h, h⟩ := is_bind h
        refine ao_scall trivial (scall (c_spec_l2All (is_mk r20h)) rfl Try.func50 rfl rfl rfl rfl (fun σ => ⟨ad_ren rfl, trivial⟩)) rfl ?_
        refine ao_read trivial (r_neq rfl rfl) rfl ?_
        refine ao_nil ?_
        refine aq_then ?_
        refine aw_cond rfl (fun hb21 => ?_) (fun hb21 => ?_)
        · have q22 := d_f (not_t hb21)
          replace h := is_else (d_f (not_t hb21)) h
          refine aw_seq ?_
          refine aw_region ?_
          refine ao_read trivial (r_assign rfl) rfl ?_
          refine ao_read trivial (r_assign rfl) rfl ?_
          refine ao_nil ?_
          refine aq_then ?_
          refine aw_ret ?_
          refine aq_in_ret ?_
          refine aq_then_ret ?_
          refine aq_then_ret ?_
          refine aq_in_ret ?_
          refine aq_in_ret ?_
          refine aq_then_ret ?_
          refine aq_then_ret ?_
          refine aq_in_ret ?_
          refine aq_then_ret ?_
          refine aq_ret ?_
          obtain rfl := is_some h
          exact aq_finx (l := [.tmp 2, .tmp 3]) (xs := [.bool false, .bool true]) idn [.bool false, .bool true] [] rfl (by exact ⟨rfl, rfl, trivial⟩) (by exact ⟨ad_ren rfl, ad_ren rfl, trivial⟩) (by exact trivial) rfl (nk rfl) rfl rfl ⟨rfl, rfl⟩
        · have q23 := d_t (not_f hb21)
          replace h := is_if (d_t (not_f hb21)) h
          refine aw_skip ?_
          refine aq_in ?_
          refine aq_then ?_
          refine aw_region ?_
          refine ao_read trivial (r_move rfl) rfl ?_
          refine ao_read trivial (r_addI rfl rfl (wrap_id (by omega) (by omega))) rfl ?_
          refine ao_read trivial (r_assign rfl) rfl ?_
          refine ao_nil ?_
          exact aq_again (AL.sub (sub_mk idn (by exact ⟨⟨_, rfl, ad_ren rfl⟩, ⟨_, rfl, ad_ren rfl⟩, ⟨_, rfl, ad_ren rfl⟩, ⟨_, rfl, ad_ren rfl⟩, trivial⟩) (by exact ⟨⟨_, rfl, rfl⟩, trivial⟩) (by rfl) (nk rfl)) (ih14 d14 (i13 + 1) () (by omega) ⟨by omega, (by (try simp only [List.length_set, List.length_append, List.length_cons, List.length_nil, List.length_replicate, List.length_take, List.length_drop]) <;> omega), (by (try simp only [List.length_set, List.length_append, List.length_cons, List.length_nil, List.length_replicate, List.length_take, List.length_drop]) <;> omega)⟩ h))
      · have q18 := d_f hb16
        obtain rfl : d14 = 0 := by omega
        replace h := is_cnt0 h
        refine aw_exit ?_
        refine aq_then_exit ?_
        refine aq_then_exit ?_
        refine aq_in_exit ?_
        refine aq_in ?_
        refine aq_then ?_
        refine aw_region ?_
        refine ao_read trivial (r_move rfl) rfl ?_
        refine ao_read trivial (r_addI rfl rfl (wrap_id (by omega) (by omega))) rfl ?_
        refine ao_read trivial (r_assign rfl) rfl ?_
        refine ao_nil ?_
        exact aq_again (AL.sub (sub_mk idn (by exact ⟨⟨_, rfl, ad_ren rfl⟩, ⟨_, rfl, ad_ren rfl⟩, ⟨_, rfl, ad_ren rfl⟩, trivial⟩) (by exact ⟨⟨_, rfl, rfl⟩, trivial⟩) (by rfl) (nk rfl)) (ih7 d7 (i6 + 1) () (by omega) ⟨by omega, (by (try simp only [List.length_set, List.length_append, List.length_cons, List.length_nil, List.length_replicate, List.length_take, List.length_drop]) <;> omega), (by (try simp only [List.length_set, List.length_append, List.length_cons, List.length_nil, List.length_replicate, List.length_take, List.length_drop]) <;> omega)⟩ h))
    · have q11 := d_f hb9
      obtain rfl : d7 = 0 := by omega
      replace h := is_cnt0 h
      refine aw_exit ?_
      refine aq_then_exit ?_
      refine aq_then_exit ?_
      refine aq_in_exit ?_
      refine aq_then ?_
      refine aw_seq ?_
      refine aw_region ?_
      refine ao_read trivial (r_assign rfl) rfl ?_
      refine ao_read trivial (r_assign rfl) rfl ?_
      refine ao_nil ?_
      refine aq_then ?_
      refine aw_ret ?_
      refine aq_ret ?_
      obtain rfl := is_some h
      exact aq_finx (l := [.tmp 2, .tmp 3]) (xs := [.bool true, .bool true]) idn [.bool true, .bool true] [] rfl (by exact ⟨rfl, rfl, trivial⟩) (by exact ⟨ad_ren rfl, ad_ren rfl, trivial⟩) (by exact trivial) rfl (nk rfl) rfl rfl ⟨rfl, rfl⟩
theorem c_impl_IsPlaceFair {fu : Nat} {x0 : (List (List Int))} {r : Bool × Bool} (h : Is (p_impl_IsPlaceFair fu x0) (some r)) :
    Scalar Try.prog 28 [.v (.slice (.arr 6 (.int .i64))) x0] (.tup [.bool r.1, .bool r.2]) := by
  unfold p_impl_IsPlaceFair at h
  refine ac_enter ⟨21, 0⟩ Try.func28 rfl rfl rfl rfl rfl (fun Γ => ?_)
  refine sl_len_m 0 (x0.length : Int) rfl rfl (fun hl0 => ?_)
  refine aw_seq ?_
  refine aw_region ?_
  refine ao_read trivial (r_assign rfl) rfl ?_
  refine ao_read trivial (r_assign rfl) rfl ?_
  refine ao_nil ?_
  refine aq_then ?_
  refine aw_seq ?_
  refine aw_seq ?_
  refine aw_region ?_
  refine ao_read trivial (r_move rfl) rfl ?_
  refine ao_scall trivial (scall (c_impl_IsPool (is_mk (rfl : p_impl_IsPool x0 = _))) rfl Try.func34 rfl rfl rfl rfl (fun σ => ⟨ad_ren rfl, trivial⟩)) rfl ?_
  refine ao_read trivial (r_not rfl) rfl ?_
  refine ao_nil ?_
  refine aq_then ?_
  refine aw_cond rfl (fun hb1 => ?_) (fun hb1 => ?_)
  · replace h := is_else (ne_t (not_t hb1)) h
    refine aw_seq ?_
    refine aw_region ?_
    refine ao_read trivial (r_assign rfl) rfl ?_
    refine ao_read trivial (r_assign rfl) rfl ?_
    refine ao_nil ?_
    refine aq_then ?_
    refine aw_ret ?_
    refine aq_then_ret ?_
    refine aq_ret ?_
    obtain rfl := is_some h
    exact aq_finx (l := [.tmp 2, .tmp 3]) (xs := [.bool false, .bool false]) idn [.bool false, .bool false] [] rfl (by exact ⟨rfl, rfl, trivial⟩) (by exact ⟨ad_ren rfl, ad_ren rfl, trivial⟩) (by exact trivial) rfl (nk rfl) rfl rfl ⟨rfl, rfl⟩
  · replace h := is_if (not_f hb1) h
    refine aw_skip ?_
    refine aq_then ?_
    refine aw_seq ?_
    refine aw_seq ?_
    refine aw_region ?_
    refine ao_read trivial (r_move rfl) rfl ?_
    refine ao_read trivial (r_len_vm (x0.length : Int) Try.underlying22 rfl rfl) rfl ?_
    refine ao_read trivial (r_move rfl) rfl ?_
    refine ao_nil ?_
    refine aq_then ?_
    refine aw_block ?_
    refine aw_loop (AL.sub (fr' := [(0, .v (.slice (.arr 6 (.int .i64))) x0), (9, .int .i64 (x0.length : Int)), (10, .int .i64 0)]) (H' := []) (sub_mk idn (by exact ⟨⟨_, rfl, ad_ren rfl⟩, ⟨_, rfl, ad_ren rfl⟩, ⟨_, rfl, ad_ren rfl⟩, trivial⟩) (by exact trivial) (by rfl) (nk rfl)) (al_cnt (fun i3 (s2 : Unit) => [(0, .v (.slice (.arr 6 (.int .i64))) x0), (9, .int .i64 (x0.length : Int)), (10, .int .i64 i3)]) (fun i3 (s2 : Unit) => []) (fun d i3 (s2 : Unit) => d = Int.toNat ((x0.length : Int) - i3) ∧ 0 ≤ i3 ∧ i3 ≤ (x0.length : Int)) h ⟨rfl, (by (try simp only [List.length_set, List.length_append, List.length_cons, List.length_nil, List.length_replicate, List.length_take, List.length_drop]) <;> omega), (by (try simp only [List.length_set, List.length_append, List.length_cons, List.length_nil, List.length_replicate, List.length_take, List.length_drop]) <;> omega)⟩ (fun d4 i3 s2 hI h ih4 => ?_)))
    obtain ⟨hd, _, _⟩ := hI
    refine al_round ?_
    refine aw_seq ?_
    refine aw_region ?_
    refine ao_read trivial (r_lss rfl rfl) rfl ?_
    refine ao_nil ?_
    refine aq_then ?_
    refine aw_seq ?_
    refine aw_cond rfl (fun hb6 => ?_) (fun hb6 => ?_)
    · have q7 := d_t hb6
      obtain ⟨d4, rfl⟩ : ∃ e, d4 = e + 1 := ⟨d4 - 1, by omega⟩
      replace h := is_cntS h
      refine aw_skip ?_
      refine aq_then ?_
      refine aw_seq ?_
      refine aw_block ?_
      refine aw_seq ?_
      refine aw_region ?_
      refine ao_read trivial (r_move rfl) rfl ?_
      refine ao_read trivial (r_assign rfl) rfl ?_
      refine ao_nil ?_
      refine aq_then ?_
      refine aw_seq ?_
      refine aw_region ?_
      refine ao_read trivial (r_move rfl) rfl ?_
      refine ao_read trivial (r_move rfl) rfl ?_
      obtain ⟨r9, r9h, h⟩ := is_bind h
      refine ao_scall trivial (scall (c_impl_isFairAt (is_mk r9h)) rfl Try.func42 rfl rfl rfl rfl (fun σ => ⟨ad_ren rfl, ad_ren rfl, trivial⟩)) rfl ?_
      refine ao_read trivial (r_not rfl) rfl ?_
      refine ao_nil ?_
      refine aq_then ?_
      refine aw_cond rfl (fun hb10 => ?_) (fun hb10 => ?_)
      · replace h := is_else (ne_t (not_t hb10)) h
        refine aw_seq ?_
        refine aw_region ?_
        refine ao_read trivial (r_assign rfl) rfl ?_
        refine ao_read trivial (r_assign rfl) rfl ?_
        refine ao_nil ?_
        refine aq_then ?_
        refine aw_ret ?_
        refine aq_in_ret ?_
        refine aq_then_ret ?_
        refine aq_then_ret ?_
        refine aq_in_ret ?_
        refine aq_then_ret ?_
        refine aq_ret ?_
        obtain rfl := is_some h
        exact aq_finx (l := [.tmp 2, .tmp 3]) (xs := [.bool false, .bool true]) idn [.bool false, .bool true] [] rfl (by exact ⟨rfl, rfl, trivial⟩) (by exact ⟨ad_ren rfl, ad_ren rfl, trivial⟩) (by exact trivial) rfl (nk rfl) rfl rfl ⟨rfl, rfl⟩
      · replace h := is_if (not_f hb10) h
        refine aw_skip ?_
        refine aq_in ?_
        refine aq_then ?_
        refine aw_region ?_
        refine ao_read trivial (r_addI rfl rfl (wrap_id (by omega) (by omega))) rfl ?_
        refine ao_read trivial (r_move rfl) rfl ?_
        refine ao_nil ?_
        exact aq_again (AL.sub (sub_mk idn (by exact ⟨⟨_, rfl, ad_ren rfl⟩, ⟨_, rfl, ad_ren rfl⟩, ⟨_, rfl, ad_ren rfl⟩, trivial⟩) (by exact trivial) (by rfl) (nk rfl)) (ih4 d4 (i3 + 1) () (by omega) ⟨by omega, (by (try simp only [List.length_set, List.length_append, List.length_cons, List.length_nil, List.length_replicate, List.length_take, List.length_drop]) <;> omega), (by (try simp only [List.length_set, List.length_append, List.length_cons, List.length_nil, List.length_replicate, List.length_take, List.length_drop]) <;> omega)⟩ h))
    · have q8 := d_f hb6
      obtain rfl : d4 = 0 := by omega
      replace h := is_cnt0 h
      refine aw_exit ?_
      refine aq_then_exit ?_
      refine aq_then_exit ?_
      refine aq_in_exit ?_
      refine aq_then ?_
      refine aw_seq ?_
      refine aw_region ?_
      refine ao_read trivial (r_move rfl) rfl ?_
      obtain ⟨r11, r11h, h⟩ := is_bind h
      refine ao_scall trivial (scall (c_impl_ties (is_mk r11h)) rfl Try.func40 rfl rfl rfl rfl (fun σ => ⟨ad_ren rfl, trivial⟩)) rfl ?_
      refine ao_read trivial (r_eql rfl rfl) rfl ?_
      refine ao_read trivial (r_assign rfl) rfl ?_
      refine ao_read trivial (r_assign rfl) rfl ?_
      refine ao_nil ?_
      refine aq_then ?_
      refine aw_ret ?_
      refine aq_ret ?_
      obtain rfl := is_some h
      exact aq_finx (l := [.tmp 2, .tmp 3]) (xs := [.bool (decide (r11 = 0)), .bool true]) idn [.bool (decide (r11 = 0)), .bool true] [] rfl (by exact ⟨rfl, rfl, trivial⟩) (by exact ⟨ad_ren rfl, ad_ren rfl, trivial⟩) (by exact trivial) rfl (nk rfl) rfl rfl ⟨rfl, rfl⟩
theorem c_laws_FnExactIsPlaceFair {fu : Nat} {x0 : (List (List Int))} {r : Bool} (h : Is (p_laws_FnExactIsPlaceFair fu x0) (some r)) :
    Scalar Try.prog 8 [.v (.slice (.arr 6 (.int .i64))) x0] (.bool r) := by
  unfold p_laws_FnExactIsPlaceFair at h
  refine ac_enter ⟨40, 0⟩ Try.func8 rfl rfl rfl rfl rfl (fun Γ => ?_)
  refine sl_len_m 0 (x0.length : Int) rfl rfl (fun hl0 => ?_)
  refine aw_seq ?_
  refine aw_region ?_
  refine ao_read trivial (r_assign rfl) rfl ?_
  refine ao_nil ?_
  refine aq_then ?_
  refine aw_seq ?_
  refine aw_region ?_
  refine ao_read trivial (r_assign rfl) rfl ?_
  refine ao_nil ?_
  refine aq_then ?_
  refine aw_seq ?_
  refine aw_region ?_
  refine ao_read trivial (r_move rfl) rfl ?_
  refine ao_read trivial (r_move rfl) rfl ?_
  refine ao_scall trivial (scall (c_laws_szIntA6S (is_mk (rfl : p_laws_szIntA6S x0 1048576 = _))) rfl Try.func9 rfl rfl rfl rfl (fun σ => ⟨ad_ren rfl, ad_ren rfl, trivial⟩)) rfl ?_
  refine ao_read trivial (r_assign rfl) rfl ?_
  refine ao_nil ?_
  refine aq_then ?_
  refine aw_seq ?_
  refine aw_seq ?_
  refine aw_region ?_
  refine ao_read trivial (r_move rfl) rfl ?_
  refine ao_read trivial (r_lss rfl rfl) rfl ?_
  refine ao_nil ?_
  refine aq_then ?_
  refine aw_cond rfl (fun hb1 => ?_) (fun hb1 => ?_)
  · have q2 := d_t hb1
    replace h := is_if (d_t hb1) h
    refine aw_seq ?_
    refine aw_region ?_
    refine ao_read trivial (r_assign rfl) rfl ?_
    refine ao_nil ?_
    refine aq_then ?_
    refine aw_ret ?_
    refine aq_then_ret ?_
    refine aq_ret ?_
    obtain rfl := is_some h
    exact aq_finx (l := [.tmp 2]) (xs := [.bool true]) idn [.bool true] [] rfl (by exact ⟨rfl, trivial⟩) (by exact ⟨ad_ren rfl, trivial⟩) (by exact trivial) rfl (nk rfl) rfl rfl ⟨rfl, rfl⟩
  · have q3 := d_f hb1
    replace h := is_else (d_f hb1) h
    refine aw_skip ?_
    refine aq_then ?_
    refine aw_seq ?_
    refine aw_region ?_
    refine ao_read trivial (r_move rfl) rfl ?_
    obtain ⟨r4, r4h, h⟩ := is_bind h
    refine ao_call [] 0 trivial (c_laws_toIntA6S (is_mk r4h)) Try.func11 rfl rfl rfl rfl ⟨ad_ren rfl, trivial⟩ trivial rfl rfl rfl rfl rfl rfl rfl (fun r' H' hr => ?_)
    obtain ⟨rfl, rfl⟩ := hr
    refine ao_norm (y := .os 0) (H' := [(0, .row (.arr 6 (.int .i64)) r4)]) rfl rfl ?_
    refine row_len_o 0 (r4.length : Int) rfl rfl (fun hr5 => ?_)
    obtain ⟨r6, r6h, h⟩ := is_bind h
    refine ao_scall trivial (scall (c_spec_IsPlaceFair (is_mk r6h)) rfl Try.func27 rfl rfl rfl rfl (fun σ => ⟨ad_os0 rfl, trivial⟩)) rfl ?_
    refine ao_read trivial (r_move rfl) rfl ?_
    refine ao_read trivial (r_extract rfl rfl) rfl ?_
    refine ao_read trivial (r_extract rfl rfl) rfl ?_
    refine ao_read trivial (r_assign rfl) rfl ?_
    refine ao_read trivial (r_assign rfl) rfl ?_
    refine ao_nil ?_
    refine aq_then ?_
    refine aw_seq ?_
    refine aw_region ?_
    refine ao_read trivial (r_move rfl) rfl ?_
    obtain ⟨r7, r7h, h⟩ := is_bind h
    refine ao_call [] 1 trivial (c_laws_toIntA6S (is_mk r7h)) Try.func11 rfl rfl rfl rfl ⟨ad_ren rfl, trivial⟩ trivial rfl rfl rfl rfl rfl rfl rfl (fun r' H' hr => ?_)
    obtain ⟨rfl, rfl⟩ := hr
    refine ao_norm (y := .os 1) (H' := [(0, .row (.arr 6 (.int .i64)) r4), (1, .row (.arr 6 (.int .i64)) r7)]) rfl rfl ?_
    refine row_len_o 1 (r7.length : Int) rfl rfl (fun hr8 => ?_)
    refine ao_read trivial (r_assign rfl) rfl ?_
    refine ao_nil ?_
    refine aq_then ?_
    refine aw_seq ?_
    refine aw_region ?_
    refine ao_read trivial (r_move rfl) rfl ?_
    obtain ⟨r9, r9h, h⟩ := is_bind h
    refine ao_scall trivial (scall (c_impl_IsPlaceFair (is_mk r9h)) rfl Try.func28 rfl rfl rfl rfl (fun σ => ⟨ad_os0 rfl, trivial⟩)) rfl ?_
    refine ao_read trivial (r_move rfl) rfl ?_
    refine ao_read trivial (r_extract rfl rfl) rfl ?_
    refine ao_read trivial (r_extract rfl rfl) rfl ?_
    refine ao_read trivial (r_assign rfl) rfl ?_
    refine ao_read trivial (r_assign rfl) rfl ?_
    refine ao_nil ?_
    refine aq_then ?_
    refine aw_seq ?_
    refine aw_seq ?_
    refine aw_region ?_
    refine ao_read trivial (r_move rfl) rfl ?_
    refine ao_read trivial (r_move rfl) rfl ?_
    refine ao_read trivial (r_neq_bool Try.underlying4 rfl rfl) rfl ?_
    refine ao_read trivial (r_move rfl) rfl ?_
    refine ao_readG (x := .bool r9.2) rfl (GV.F rfl) (fun hg10 => r_move rfl) rfl ?_
    refine ao_readG (x := .bool r6.2) rfl (GV.F rfl) (fun hg11 => r_move rfl) rfl ?_
    refine ao_readG (x := .bool (r9.2 != r6.2)) rfl (GV.F rfl) (fun hg12 => Reads.strip 31 rfl (hg12) (Reads.strip 32 rfl (hg12) (r_neq_bool Try.underlying4 rfl rfl))) rfl ?_
    refine ao_read trivial (r_orB rfl rfl) rfl ?_
    refine ao_nil ?_
    refine aq_then ?_
    refine aw_cond rfl (fun hb13 => ?_) (fun hb13 => ?_)
    · replace h := is_if hb13 h
      refine aw_seq ?_
      refine aw_region ?_
      refine ao_read trivial (r_assign rfl) rfl ?_
      refine ao_nil ?_
      refine aq_then ?_
      refine aw_ret ?_
      refine aq_then_ret ?_
      refine aq_ret ?_
      obtain rfl := is_some h
      exact aq_finx (l := [.tmp 2]) (xs := [.bool false]) idn [.bool false] [] rfl (by exact ⟨rfl, trivial⟩) (by exact ⟨ad_ren rfl, trivial⟩) (by exact trivial) rfl (nk rfl) rfl rfl ⟨rfl, rfl⟩
    · obtain ⟨q14, q15⟩ := or_f hb13
      replace h := is_else (ne_t hb13) h
      refine aw_skip ?_
      refine aq_then ?_
      refine aw_seq ?_
      refine aw_seq ?_
      refine aw_region ?_
      refine ao_read trivial (r_move rfl) rfl ?_
      refine ao_read trivial (r_move rfl) rfl ?_
      obtain ⟨r16, r16h, h⟩ := is_bind h
      refine ao_call [] 2 trivial (c_laws_toIntA6S (is_mk r16h)) Try.func11 rfl rfl rfl rfl ⟨ad_ren rfl, trivial⟩ trivial rfl rfl rfl rfl rfl rfl rfl (fun r' H' hr => ?_)
      obtain ⟨rfl, rfl⟩ := hr
      refine ao_norm (y := .os 2) (H' := [(0, .row (.arr 6 (.int .i64)) r4), (1, .row (.arr 6 (.int .i64)) r7), (2, .row (.arr 6 (.int .i64)) r16)]) rfl rfl ?_
      refine row_len_o 2 (r16.length : Int) rfl rfl (fun hr17 => ?_)
      refine ao_scall trivial (scall (c_laws_eqIntA6S (is_mk (rfl : p_laws_eqIntA6S r7 r16 = _))) rfl Try.func13 rfl rfl rfl rfl (fun σ => ⟨ad_os0 rfl, ad_os0 rfl, trivial⟩)) rfl ?_
      refine ao_read trivial (r_not rfl) rfl ?_
      refine ao_nil ?_
      refine aq_then ?_
      refine aw_cond rfl (fun hb18 => ?_) (fun hb18 => ?_)
      · replace h := is_else (ne_t (not_t hb18)) h
        refine aw_seq ?_
        refine aw_region ?_
        refine ao_read trivial (r_assign rfl) rfl ?_
        refine ao_nil ?_
        refine aq_then ?_
        refine aw_ret ?_
        refine aq_then_ret ?_
        refine aq_ret ?_
        obtain rfl := is_some h
        exact aq_finx (l := [.tmp 2]) (xs := [.bool false]) idn [.bool false] [] rfl (by exact ⟨rfl, trivial⟩) (by exact ⟨ad_ren rfl, trivial⟩) (by exact trivial) rfl (nk rfl) rfl rfl ⟨rfl, rfl⟩
      · replace h := is_if (not_f hb18) h
        refine aw_skip ?_
        refine aq_then ?_
        refine aw_seq ?_
        refine aw_region ?_
        refine ao_read trivial (r_assign rfl) rfl ?_
        refine ao_nil ?_
        refine aq_then ?_
        refine aw_ret ?_
        refine aq_ret ?_
        obtain rfl := is_some h
        exact aq_finx (l := [.tmp 2]) (xs := [.bool true]) idn [.bool true] [] rfl (by exact ⟨rfl, trivial⟩) (by exact ⟨ad_ren rfl, trivial⟩) (by exact trivial) rfl (nk rfl) rfl rfl ⟨rfl, rfl⟩
end Go.GA
