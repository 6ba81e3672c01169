/- Walks: what the Go functions compute, by the printed lines below; no further conditions. -/
import Derived.Test.YtkjiaieabelpmaaC6awb
namespace Go.GA
open Go Go.Proofs
set_option maxRecDepth 100000
set_option maxHeartbeats 2000000
set_option linter.unusedVariables false
set_option linter.unusedSimpArgs false
theorem c_spec_SetValue {fu : Nat} {x0 : dy7} {x1 : dy5} {x2 : Int} {x3 : Int} {x4 : Int} {r : dy9 × Bool} (h : Is (p_spec_SetValue fu x0 x1 x2 x3 x4) (some r)) :
    Scalar Try.prog 15 [.v ty2 x0, .v ty1 x1, .int .i64 x2, .int .i64 x3, .int .i64 x4] (.tup [.v (.arr 2 ty8) r.1, .bool r.2]) := by
  unfold p_spec_SetValue at h
  refine ac_enter ⟨53, 0⟩ Try.func15 rfl rfl rfl rfl rfl (fun Γ => ?_)
  refine sl_len_m 0 (x0.length : Int) rfl rfl (fun hl0 => ?_)
  refine aw_seq ?_
  refine aw_region ?_
  refine ao_eff trivial (e_box 0 rfl rfl rfl rfl rfl rfl) rfl ?_
  refine ao_eff trivial (e_alloc 1 (y := .v (.arr 2 ty8) ((List.replicate 2 0) : dy9)) Try.zeroValue29 (fun ρ h M => ra_zero_arr (t := ty8) rfl) rfl rfl rfl rfl rfl) rfl ?_
  refine ao_r (r_assign rfl) rfl ?_
  refine ao_nil ?_
  refine aq_then ?_
  refine aw_seq ?_
  refine aw_seq ?_
  refine aw_region ?_
  refine ao_r (r_move rfl) rfl ?_
  refine ao_r (r_load_part (τ := ty1) (y := ((x1.1, (x1.2.1, ())) : dy5)) [] [] rfl Try.isAgg26 Try.sizeOf26 rfl rfl rfl rfl) rfl ?_
  refine ao_r (r_move rfl) rfl ?_
  obtain ⟨r1, r1h, h⟩ := is_bind h
  refine ao_scall trivial (scall (c_spec_l6Good (is_mk r1h)) rfl Try.func28 rfl rfl rfl rfl (fun σ => ⟨ad_ren rfl, ad_ren rfl, ad_ren rfl, trivial⟩)) rfl ?_
  refine ao_r (r_not rfl) rfl ?_
  refine ao_r (r_move rfl) rfl ?_
  refine ao_readG (x := .int .i64 x4) rfl (GV.F rfl) (fun hg2 => r_move rfl) rfl ?_
  refine ao_readG (x := .bool (decide (x4 < 1))) rfl (GV.F rfl) (fun hg3 => Reads.strip 18 rfl (hg3) (r_lss rfl rfl)) rfl ?_
  refine ao_r (r_orB rfl rfl) rfl ?_
  refine ao_r (r_move rfl) rfl ?_
  refine ao_readG (x := .v ty2 x0) rfl (GV.F rfl) (fun hg4 => by
        obtain ⟨q5, q6⟩ := or_f (not_t hg4)
        have q7 := d_f q6
        exact r_move rfl) rfl ?_
  refine ao_readG (x := .int .i64 x2) rfl (GV.F rfl) (fun hg8 => by
        obtain ⟨q9, q10⟩ := or_f (not_t hg8)
        have q11 := d_f q10
        exact r_move rfl) rfl ?_
  obtain ⟨g16, h⟩ := is_guard h
  refine ao_scallG (r := .bool ((p_spec_l6Number fu x0 x2).getD false)) rfl (GV.F rfl) (fun hg12 => by
        obtain ⟨q13, q14⟩ := or_f (not_t hg12)
        have q15 := d_f q14
        exact SCall.strip 22 rfl (hg12) (SCall.strip 23 rfl (hg12) (scall (c_spec_l6Number (is_mk (isSome_getD (g16 hg12)))) rfl Try.func29 rfl rfl rfl rfl (fun σ => ⟨ad_ren rfl, ad_ren rfl, trivial⟩)))) rfl ?_
  refine ao_readG (x := .bool (!((p_spec_l6Number fu x0 x2).getD false))) rfl (GV.F rfl) (fun hg17 => by
        obtain ⟨q18, q19⟩ := or_f (not_t hg17)
        have q20 := d_f q19
        exact Reads.strip 24 rfl (hg17) (r_not rfl)) rfl ?_
  refine ao_r (r_orB rfl rfl) rfl ?_
  refine ao_r (r_move rfl) rfl ?_
  refine ao_readG (x := .int .i64 x3) rfl (GV.F rfl) (fun hg21 => by
        obtain ⟨q22, q23⟩ := or_f (not_t hg21)
        obtain ⟨q24, q25⟩ := or_f q22
        have q26 := d_f q25
        exact r_move rfl) rfl ?_
  refine ao_readG (x := .v ty2 x0) rfl (GV.F rfl) (fun hg27 => by
        obtain ⟨q28, q29⟩ := or_f (not_t hg27)
        obtain ⟨q30, q31⟩ := or_f q28
        have q32 := d_f q31
        exact r_move rfl) rfl ?_
  refine ao_readG (x := .int .i64 (x0.length : Int)) rfl (GV.F rfl) (fun hg33 => by
        obtain ⟨q34, q35⟩ := or_f (not_t hg33)
        obtain ⟨q36, q37⟩ := or_f q34
        have q38 := d_f q37
        exact Reads.strip 29 rfl (hg33) (r_len_vm (x0.length : Int) Try.underlying24 rfl rfl)) rfl ?_
  refine ao_readG (x := .int .i64 (shlI .i64 1 (x0.length : Int))) rfl (GV.F rfl) (fun hg39 => by
        obtain ⟨q40, q41⟩ := or_f (not_t hg39)
        obtain ⟨q42, q43⟩ := or_f q40
        have q44 := d_f q43
        exact Reads.strip 30 rfl (hg39) (r_shl rfl rfl (by omega))) rfl ?_
  refine ao_readG (x := .int .i64 (IntKind.wrap .i64 ((shlI .i64 1 (x0.length : Int)) - 1))) rfl (GV.F rfl) (fun hg45 => by
        obtain ⟨q46, q47⟩ := or_f (not_t hg45)
        obtain ⟨q48, q49⟩ := or_f q46
        have q50 := d_f q49
        exact Reads.strip 31 rfl (hg45) (r_sub rfl rfl)) rfl ?_
  refine ao_scallG (r := .bool (p_spec_l1In x3 0 (IntKind.wrap .i64 ((shlI .i64 1 (x0.length : Int)) - 1)))) rfl (GV.F rfl) (fun hg51 => by
        obtain ⟨q52, q53⟩ := or_f (not_t hg51)
        obtain ⟨q54, q55⟩ := or_f q52
        have q56 := d_f q55
        exact SCall.strip 28 rfl (hg51) (SCall.strip 32 rfl (hg51) (scall (c_spec_l1In (is_mk (rfl : p_spec_l1In x3 0 (IntKind.wrap .i64 ((shlI .i64 1 (x0.length : Int)) - 1)) = _))) rfl Try.func38 rfl rfl rfl rfl (fun σ => ⟨ad_ren rfl, ad_ren rfl, ad_ren rfl, trivial⟩)))) rfl ?_
  refine ao_readG (x := .bool (!(p_spec_l1In x3 0 (IntKind.wrap .i64 ((shlI .i64 1 (x0.length : Int)) - 1))))) rfl (GV.F rfl) (fun hg57 => by
        obtain ⟨q58, q59⟩ := or_f (not_t hg57)
        obtain ⟨q60, q61⟩ := or_f q58
        have q62 := d_f q61
        exact Reads.strip 33 rfl (hg57) (r_not rfl)) rfl ?_
  refine ao_r (r_orB rfl rfl) rfl ?_
  refine ao_nil ?_
  refine aq_then ?_
  refine aw_cond rfl (fun hb63 => ?_) (fun hb63 => ?_)
  replace h := is_if hb63 h
  refine aw_seq ?_
  refine aw_region ?_
  refine ao_r (r_build_zero (t := ty8) Try.underlying29 Try.zeroValue29 Try.sizeOf3 rfl) rfl ?_
  refine ao_effS trivial (e_store rfl rfl rfl rfl Try.sizeOf29 rfl) ?_
  refine ao_r (r_assign rfl) rfl ?_
  refine ao_nil ?_
  refine aq_then ?_
  refine aw_ret ?_
  refine aq_then_ret ?_
  refine aq_ret ?_
  obtain rfl := is_some h
  exact aq_finx (l := [.cell 10 29, .tmp 11]) (xs := [.v (.arr 2 ty8) ((List.replicate 2 0) : dy9), .bool false]) idn [.v (.arr 2 ty8) ((List.replicate 2 0) : dy9), .bool false] [] rfl (by exact ⟨⟨⟨_, _, rfl⟩, r_load_arr rfl Try.isAgg29 Try.sizeOf29 rfl rfl rfl⟩, rfl, trivial⟩) (by exact ⟨ad_ren rfl, ad_ren rfl, trivial⟩) (by exact trivial) rfl (nk rfl) rfl rfl ⟨rfl, rfl⟩
  obtain ⟨q64, q65⟩ := or_f hb63
  obtain ⟨q66, q67⟩ := or_f q64
  obtain ⟨q68, q69⟩ := or_f q66
  have q70 := d_f q69
  replace h := is_else (ne_t hb63) h
  refine aw_skip ?_
  refine aq_then ?_
  refine aw_seq ?_
  obtain ⟨r71, r71h, h⟩ := is_bind h
  obtain ⟨r73, r73h, h⟩ := is_bind h
  obtain ⟨g75, h⟩ := is_guard h
  obtain ⟨g76, h⟩ := is_guard h
  obtain ⟨r77, r77h, h⟩ := is_bind h
  obtain ⟨r78, r78h, h⟩ := is_bind h
  refine aw_draw 16 (by kernel_rfl) (by kernel_rfl) ?_
  refine an_to [(10, .ref 0 0), (11, .bool false), (52, .v (.arr 2 ty8) r78)] [(0, .var [.arr ty8 2 ((List.replicate 2 0) : dy9)])] ?_ (fun key => ?_)
  refine aq_tail rfl ?_
  refine ao_effS trivial (e_store rfl rfl rfl rfl Try.sizeOf29 rfl) ?_
  refine ao_r (r_assign rfl) rfl ?_
  refine ao_nil ?_
  refine aq_then ?_
  refine aw_ret ?_
  refine aq_ret ?_
  obtain rfl := is_some h
  exact aq_finx (l := [.cell 10 29, .tmp 11]) (xs := [.v (.arr 2 ty8) r78, .bool true]) idn [.v (.arr 2 ty8) r78, .bool true] [] rfl (by exact ⟨⟨⟨_, _, rfl⟩, r_load_arr rfl Try.isAgg29 Try.sizeOf29 rfl rfl rfl⟩, rfl, trivial⟩) (by exact ⟨ad_ren rfl, ad_ren rfl, trivial⟩) (by exact trivial) rfl (nk rfl) rfl rfl ⟨rfl, rfl⟩
  refine an_r 0 (fun _ _ _ h => h) rfl (by kernel_rfl) (r_move rfl) rfl ?_
  refine an_r 1 (fun _ _ _ h => h) rfl (by kernel_rfl) (r_len_vm (x0.length : Int) Try.underlying24 rfl rfl) rfl ?_
  refine an_r 2 (fun _ _ _ h => h) rfl (by kernel_rfl) (r_move rfl) rfl ?_
  refine an_r 3 (fun _ _ _ h => h) rfl (by kernel_rfl) (r_load_part (τ := ty1) (y := ((x1.1, (x1.2.1, ())) : dy5)) [] [] rfl Try.isAgg26 Try.sizeOf26 rfl rfl rfl rfl) rfl ?_
  refine an_r 4 (fun _ _ _ h => h) rfl (by kernel_rfl) (r_move rfl) rfl ?_
  refine an_r 5 (fun _ _ _ h => h) rfl (by kernel_rfl) (r_sub rfl rfl) rfl ?_
  refine an_r 7 (fun _ _ _ h => h) rfl (by kernel_rfl) (r_move rfl) rfl ?_
  refine an_r 9 (fun _ _ _ h => h) rfl (by kernel_rfl) (r_move rfl) rfl ?_
  refine an_r 12 (fun _ _ _ h => h) rfl (by kernel_rfl) (r_move rfl) rfl ?_
  refine an_r 13 (fun _ _ _ h => h) rfl (by kernel_rfl) (r_move rfl) rfl ?_
  refine an_explore 2 rfl ?_
  refine ax_all [6] (by kernel_rfl) ⟨?_, trivial⟩
  refine axo_call 6 2 rfl trivial (c_spec_l6Values (is_mk r71h)) Try.func31 rfl rfl rfl rfl ⟨ad_ren rfl, ad_ren rfl, ad_ren rfl, trivial⟩ rfl rfl rfl rfl (fun r' H' hr => ?_)
  obtain ⟨rfl, rfl⟩ := hr
  refine ax_all [8] (by kernel_rfl) ⟨?_, trivial⟩
  refine axo_call 8 3 rfl trivial (c_spec_l6Sums (is_mk r73h)) Try.func39 rfl rfl rfl rfl ⟨ad_ren rfl, ad_os0 rfl, ad_ren rfl, trivial⟩ rfl rfl rfl rfl (fun r' H' hr => ?_)
  obtain ⟨rfl, rfl⟩ := hr
  refine ax_all [10, 14] (by kernel_rfl) ⟨?_, ?_, trivial⟩
  refine axo_read 10 rfl trivial (r_idxAddr_os Try.underlying32 Try.sizeOf3 rfl rfl rfl (show 0 ≤ x2 from by omega) (show x2 < (r73.length : Int) from by omega)) rfl ?_
  refine ax_all [11, 14] (by kernel_rfl) ⟨?_, ?_, trivial⟩
  refine axo_read 11 rfl trivial (r_load_elem_int Try.isAgg3 Try.sizeOf3 rfl rfl (show x2.toNat < r73.length from by omega)) rfl ?_
  refine ax_all [14] (by kernel_rfl) ⟨?_, trivial⟩
  refine axo_scall 14 rfl trivial (scall (c_spec_l6Parts (is_mk r77h)) rfl Try.func32 rfl rfl rfl rfl (fun σ => ⟨ad_ren rfl, ad_ren rfl, trivial⟩)) rfl ?_
  refine ax_all [15] (by kernel_rfl) ⟨?_, trivial⟩
  refine axo_scall 15 rfl trivial (scall (c_spec_l2Cut (is_mk r78h)) rfl Try.func30 rfl rfl rfl rfl (fun σ => ⟨ad_ren rfl, ad_ren rfl, trivial⟩)) rfl ?_
  exact ax_done rfl (AQ.sub (sub_r1 (rn [(0, 1)]) (nk rfl) (by kernel_rfl)) key)
  refine axo_scall 14 rfl trivial (scall (c_spec_l6Parts (is_mk r77h)) rfl Try.func32 rfl rfl rfl rfl (fun σ => ⟨ad_ren rfl, ad_ren rfl, trivial⟩)) rfl ?_
  refine ax_all [11] (by kernel_rfl) ⟨?_, trivial⟩
  refine axo_read 11 rfl trivial (r_load_elem_int Try.isAgg3 Try.sizeOf3 rfl rfl (show x2.toNat < r73.length from by omega)) rfl ?_
  refine ax_all [15] (by kernel_rfl) ⟨?_, trivial⟩
  refine axo_scall 15 rfl trivial (scall (c_spec_l2Cut (is_mk r78h)) rfl Try.func30 rfl rfl rfl rfl (fun σ => ⟨ad_ren rfl, ad_ren rfl, trivial⟩)) rfl ?_
  exact ax_done rfl (AQ.sub (sub_r1 (rn [(0, 1)]) (nk rfl) (by kernel_rfl)) key)
  refine axo_scall 14 rfl trivial (scall (c_spec_l6Parts (is_mk r77h)) rfl Try.func32 rfl rfl rfl rfl (fun σ => ⟨ad_ren rfl, ad_ren rfl, trivial⟩)) rfl ?_
  refine ax_all [10] (by kernel_rfl) ⟨?_, trivial⟩
  refine axo_read 10 rfl trivial (r_idxAddr_os Try.underlying32 Try.sizeOf3 rfl rfl rfl (show 0 ≤ x2 from by omega) (show x2 < (r73.length : Int) from by omega)) rfl ?_
  refine ax_all [11] (by kernel_rfl) ⟨?_, trivial⟩
  refine axo_read 11 rfl trivial (r_load_elem_int Try.isAgg3 Try.sizeOf3 rfl rfl (show x2.toNat < r73.length from by omega)) rfl ?_
  refine ax_all [15] (by kernel_rfl) ⟨?_, trivial⟩
  refine axo_scall 15 rfl trivial (scall (c_spec_l2Cut (is_mk r78h)) rfl Try.func30 rfl rfl rfl rfl (fun σ => ⟨ad_ren rfl, ad_ren rfl, trivial⟩)) rfl ?_
  exact ax_done rfl (AQ.sub (sub_r1 (rn [(0, 1)]) (nk rfl) (by kernel_rfl)) key)
theorem c_laws_vInts {x0 : dy9} {x1 : dy9} {r : Bool} (h : Is (p_laws_vInts x0 x1) r) :
    Scalar Try.prog 16 [.v ty3 x0, .v ty3 x1] (.bool r) := by
  unfold p_laws_vInts at h
  refine ac_enter ⟨26, 0⟩ Try.func16 rfl rfl rfl rfl rfl (fun Γ => ?_)
  refine sl_len_m 0 (x0.length : Int) rfl rfl (fun hl0 => ?_)
  refine sl_len_m 1 (x1.length : Int) rfl rfl (fun hl1 => ?_)
  refine aw_seq ?_
  refine aw_region ?_
  refine ao_r (r_assign rfl) rfl ?_
  refine ao_nil ?_
  refine aq_then ?_
  refine aw_seq ?_
  refine aw_seq ?_
  refine aw_region ?_
  refine ao_r (r_move rfl) rfl ?_
  refine ao_r (r_len_vm (x0.length : Int) Try.underlying32 rfl rfl) rfl ?_
  refine ao_r (r_move rfl) rfl ?_
  refine ao_r (r_len_vm (x1.length : Int) Try.underlying32 rfl rfl) rfl ?_
  refine ao_r (r_neq rfl rfl) rfl ?_
  refine ao_nil ?_
  refine aq_then ?_
  refine aw_cond rfl (fun hb1 => ?_) (fun hb1 => ?_)
  have q2 := d_f (not_t hb1)
  replace h := is_else (d_f (not_t hb1)) h
  refine aw_seq ?_
  refine aw_region ?_
  refine ao_r (r_assign rfl) rfl ?_
  refine ao_nil ?_
  refine aq_then ?_
  refine aw_ret ?_
  refine aq_then_ret ?_
  refine aq_ret ?_
  obtain rfl := is_eq h
  exact aq_finx (l := [.tmp 4]) (xs := [.bool false]) idn [.bool false] [] rfl (by exact ⟨rfl, trivial⟩) (by exact ⟨ad_ren rfl, trivial⟩) (by exact trivial) rfl (nk rfl) rfl rfl ⟨rfl, rfl⟩
  have q3 := d_t (not_f hb1)
  replace h := is_if (d_t (not_f hb1)) h
  refine aw_skip ?_
  refine aq_then ?_
  refine aw_seq ?_
  refine aw_seq ?_
  refine aw_region ?_
  refine ao_r (r_assign rfl) rfl ?_
  refine ao_nil ?_
  refine aq_then ?_
  refine aw_block ?_
  refine aw_loop (AL.sub (fr' := [(0, .v ty3 x0), (1, .v ty3 x1), (5, .int .i64 0)]) (H' := []) (sub_r1 idn (nk rfl) (by kernel_rfl)) (al_cnt (fun i5 (s4 : Unit) => [(0, .v ty3 x0), (1, .v ty3 x1), (5, .int .i64 i5)]) (fun i5 (s4 : Unit) => []) (fun d i5 (s4 : Unit) => d = Int.toNat ((x0.length : Int) - i5) ∧ 0 ≤ i5 ∧ i5 ≤ (x0.length : Int)) h ⟨rfl, (by (try simp only [List.length_set, List.length_append, List.length_cons, List.length_nil, List.length_replicate, List.length_take, List.length_drop]) <;> omega), (by (try simp only [List.length_set, List.length_append, List.length_cons, List.length_nil, List.length_replicate, List.length_take, List.length_drop]) <;> omega)⟩ (fun d6 i5 s4 hI h ih6 => ?_)))
  obtain ⟨hd, _, _⟩ := hI
  refine al_round ?_
  refine aw_seq ?_
  refine aw_seq ?_
  refine aw_region ?_
  refine ao_r (r_move rfl) rfl ?_
  refine ao_r (r_move rfl) rfl ?_
  refine ao_r (r_len_vm (x0.length : Int) Try.underlying32 rfl rfl) rfl ?_
  refine ao_r (r_lss rfl rfl) rfl ?_
  refine ao_nil ?_
  refine aq_then ?_
  refine aw_cond rfl (fun hb8 => ?_) (fun hb8 => ?_)
  have q9 := d_t hb8
  obtain ⟨d6, rfl⟩ : ∃ e, d6 = e + 1 := ⟨d6 - 1, by omega⟩
  replace h := is_cntS h
  refine aw_skip ?_
  refine aq_then ?_
  refine aw_seq ?_
  refine aw_block ?_
  refine aw_seq ?_
  refine aw_drawAll (by kernel_rfl) ?_
  refine an_r 0 (fun _ _ _ h => h) rfl (by kernel_rfl) (r_move rfl) rfl ?_
  refine an_r 1 (fun _ _ _ h => h) rfl (by kernel_rfl) (r_move rfl) rfl ?_
  refine an_r 2 (fun _ _ _ h => h) rfl (by kernel_rfl) (r_idxAddr_int Try.underlying32 Try.sizeOf3 rfl rfl (show 0 ≤ i5 from by omega) (show i5 < (x0.length : Int) from by omega)) rfl ?_
  refine an_r 3 (fun _ _ _ h => h) rfl (by kernel_rfl) (r_load_c_int Try.isAgg3 Try.sizeOf3 rfl) rfl ?_
  refine an_r 4 (fun _ _ _ h => h) rfl (by kernel_rfl) (r_move rfl) rfl ?_
  refine an_r 5 (fun _ _ _ h => h) rfl (by kernel_rfl) (r_move rfl) rfl ?_
  refine an_r 6 (fun _ _ _ h => h) rfl (by kernel_rfl) (r_idxAddr_int Try.underlying32 Try.sizeOf3 rfl rfl (show 0 ≤ i5 from by omega) (show i5 < (x1.length : Int) from by omega)) rfl ?_
  refine an_r 7 (fun _ _ _ h => h) rfl (by kernel_rfl) (r_load_c_int Try.isAgg3 Try.sizeOf3 rfl) rfl ?_
  refine an_r 8 (fun _ _ _ h => h) rfl (by kernel_rfl) (r_neq rfl rfl) rfl ?_
  refine an_done rfl ?_
  refine aq_then ?_
  refine aw_cond rfl (fun hb11 => ?_) (fun hb11 => ?_)
  have q12 : ¬ ((x0.getD i5.toNat 0) = (x1.getD i5.toNat 0)) := d_f (not_t hb11)
  replace h := is_else (d_f (not_t hb11)) h
  refine aw_seq ?_
  refine aw_region ?_
  refine ao_r (r_assign rfl) rfl ?_
  refine ao_nil ?_
  refine aq_then ?_
  refine aw_ret ?_
  refine aq_in_ret ?_
  refine aq_then_ret ?_
  refine aq_then_ret ?_
  refine aq_in_ret ?_
  refine aq_then_ret ?_
  refine aq_ret ?_
  obtain rfl := is_eq h
  exact aq_finx (l := [.tmp 4]) (xs := [.bool false]) idn [.bool false] [] rfl (by exact ⟨rfl, trivial⟩) (by exact ⟨ad_ren rfl, trivial⟩) (by exact trivial) rfl (nk rfl) rfl rfl ⟨rfl, rfl⟩
  have q13 : (x0.getD i5.toNat 0) = (x1.getD i5.toNat 0) := d_t (not_f hb11)
  replace h := is_if (d_t (not_f hb11)) h
  refine aw_skip ?_
  refine aq_in ?_
  refine aq_then ?_
  refine aw_region ?_
  refine ao_r (r_move rfl) rfl ?_
  refine ao_r (r_addI rfl rfl (wrap_id (by omega) (by omega))) rfl ?_
  refine ao_r (r_assign rfl) rfl ?_
  refine ao_nil ?_
  exact aq_again (AL.sub (sub_r1 idn (nk rfl) (by kernel_rfl)) (ih6 d6 (i5 + 1) () (by omega) ⟨by omega, (by (try simp only [List.length_set, List.length_append, List.length_cons, List.length_nil, List.length_replicate, List.length_take, List.length_drop]) <;> omega), (by (try simp only [List.length_set, List.length_append, List.length_cons, List.length_nil, List.length_replicate, List.length_take, List.length_drop]) <;> omega)⟩ h))
  have q10 := d_f hb8
  obtain rfl : d6 = 0 := by omega
  replace h := is_cnt0 h
  refine aw_exit ?_
  refine aq_then_exit ?_
  refine aq_then_exit ?_
  refine aq_in_exit ?_
  refine aq_then ?_
  refine aw_seq ?_
  refine aw_region ?_
  refine ao_r (r_assign rfl) rfl ?_
  refine ao_nil ?_
  refine aq_then ?_
  refine aw_ret ?_
  refine aq_ret ?_
  obtain rfl := is_eq h
  exact aq_finx (l := [.tmp 4]) (xs := [.bool true]) idn [.bool true] [] rfl (by exact ⟨rfl, trivial⟩) (by exact ⟨ad_ren rfl, trivial⟩) (by exact trivial) rfl (nk rfl) rfl rfl ⟨rfl, rfl⟩
theorem c_spec_IsGoal {x0 : dy5} {r : Bool} (h : Is (p_spec_IsGoal x0) r) :
    Scalar Try.prog 18 [.v ty1 x0] (.bool r) := by
  unfold p_spec_IsGoal at h
  refine ac_enter ⟨5, 0⟩ Try.func18 rfl rfl rfl rfl rfl (fun Γ => ?_)
  refine aw_seq ?_
  refine aw_region ?_
  refine ao_eff trivial (e_box 0 rfl rfl rfl rfl rfl rfl) rfl ?_
  refine ao_r (r_assign rfl) rfl ?_
  refine ao_nil ?_
  refine aq_then ?_
  refine aw_seq ?_
  refine aw_region ?_
  refine ao_r (r_load_part (τ := ty1) (y := ((x0.1, (x0.2.1, ())) : dy5)) [] [] rfl Try.isAgg26 Try.sizeOf26 rfl rfl rfl rfl) rfl ?_
  refine ao_scall trivial (scall (c_spec_l6Goal (is_mk (rfl : p_spec_l6Goal (x0.1, (x0.2.1, ())) = _))) rfl Try.func40 rfl rfl rfl rfl (fun σ => ⟨ad_ren rfl, trivial⟩)) rfl ?_
  refine ao_r (r_assign rfl) rfl ?_
  refine ao_nil ?_
  refine aq_then ?_
  refine aw_ret ?_
  refine aq_ret ?_
  obtain rfl := is_eq h
  exact aq_finx (l := [.tmp 2]) (xs := [.bool (p_spec_l6Goal (x0.1, (x0.2.1, ())))]) idn [.bool (p_spec_l6Goal (x0.1, (x0.2.1, ())))] [] rfl (by exact ⟨rfl, trivial⟩) (by exact ⟨ad_ren rfl, trivial⟩) (by exact trivial) rfl (nk rfl) rfl rfl ⟨rfl, rfl⟩
theorem c_laws_vLess {x0 : dy9} {x1 : dy9} {r : Bool} (h : Is (p_laws_vLess x0 x1) r) :
    Scalar Try.prog 19 [.v (.arr 2 ty8) x0, .v (.arr 2 ty8) x1] (.bool r) := by
  unfold p_laws_vLess at h
  refine ac_enter ⟨16, 0⟩ Try.func19 rfl rfl rfl rfl rfl (fun Γ => ?_)
  refine aw_seq ?_
  refine aw_region ?_
  refine ao_eff trivial (e_box 0 rfl rfl rfl rfl rfl rfl) rfl ?_
  refine ao_eff trivial (e_box 1 rfl rfl rfl rfl rfl rfl) rfl ?_
  refine ao_r (r_assign rfl) rfl ?_
  refine ao_nil ?_
  refine aq_then ?_
  refine aw_seq ?_
  refine aw_region ?_
  refine ao_r (r_idxAddr_arr (i := 0) Try.underlying29 Try.sizeOf3 rfl rfl (show 0 ≤ 0 from by omega) (show 0 < (2 : Int) from by omega)) rfl ?_
  refine ao_r (r_load_elema_int Try.isAgg3 Try.sizeOf3 rfl rfl rfl (show 0 < 2 from by omega)) rfl ?_
  refine ao_r (r_idxAddr_arr (i := 1) Try.underlying29 Try.sizeOf3 rfl rfl (show 0 ≤ 1 from by omega) (show 1 < (2 : Int) from by omega)) rfl ?_
  refine ao_r (r_load_elema_int Try.isAgg3 Try.sizeOf3 rfl rfl rfl (show 1 < 2 from by omega)) rfl ?_
  refine ao_r (r_mul rfl rfl) rfl ?_
  refine ao_r (r_idxAddr_arr (i := 0) Try.underlying29 Try.sizeOf3 rfl rfl (show 0 ≤ 0 from by omega) (show 0 < (2 : Int) from by omega)) rfl ?_
  refine ao_r (r_load_elema_int Try.isAgg3 Try.sizeOf3 rfl rfl rfl (show 0 < 2 from by omega)) rfl ?_
  refine ao_r (r_idxAddr_arr (i := 1) Try.underlying29 Try.sizeOf3 rfl rfl (show 0 ≤ 1 from by omega) (show 1 < (2 : Int) from by omega)) rfl ?_
  refine ao_r (r_load_elema_int Try.isAgg3 Try.sizeOf3 rfl rfl rfl (show 1 < 2 from by omega)) rfl ?_
  refine ao_r (r_mul rfl rfl) rfl ?_
  refine ao_r (r_lss rfl rfl) rfl ?_
  refine ao_r (r_assign rfl) rfl ?_
  refine ao_nil ?_
  refine aq_then ?_
  refine aw_ret ?_
  refine aq_ret ?_
  obtain rfl := is_eq h
  exact aq_finx (l := [.tmp 4]) (xs := [.bool (decide ((IntKind.wrap .i64 ((x0.getD 0 0) * (x1.getD 1 0))) < (IntKind.wrap .i64 ((x1.getD 0 0) * (x0.getD 1 0)))))]) idn [.bool (decide ((IntKind.wrap .i64 ((x0.getD 0 0) * (x1.getD 1 0))) < (IntKind.wrap .i64 ((x1.getD 0 0) * (x0.getD 1 0)))))] [] rfl (by exact ⟨rfl, trivial⟩) (by exact ⟨ad_ren rfl, trivial⟩) (by exact trivial) rfl (nk rfl) rfl rfl ⟨rfl, rfl⟩
theorem c_laws_vHas {x0 : dy9} {x1 : Int} {r : Bool} (h : Is (p_laws_vHas x0 x1) r) :
    Scalar Try.prog 20 [.v ty3 x0, .int .i64 x1] (.bool r) := by
  unfold p_laws_vHas at h
  refine ac_enter ⟨18, 0⟩ Try.func20 rfl rfl rfl rfl rfl (fun Γ => ?_)
  refine sl_len_m 0 (x0.length : Int) rfl rfl (fun hl0 => ?_)
  refine aw_seq ?_
  refine aw_region ?_
  refine ao_r (r_assign rfl) rfl ?_
  refine ao_nil ?_
  refine aq_then ?_
  refine aw_seq ?_
  refine aw_seq ?_
  refine aw_region ?_
  refine ao_r (r_assign rfl) rfl ?_
  refine ao_nil ?_
  refine aq_then ?_
  refine aw_block ?_
  refine aw_loop (AL.sub (fr' := [(0, .v ty3 x0), (1, .int .i64 x1), (5, .int .i64 0)]) (H' := []) (sub_r1 idn (nk rfl) (by kernel_rfl)) (al_cnt (fun i2 (s1 : Unit) => [(0, .v ty3 x0), (1, .int .i64 x1), (5, .int .i64 i2)]) (fun i2 (s1 : Unit) => []) (fun d i2 (s1 : Unit) => d = Int.toNat ((x0.length : Int) - i2) ∧ 0 ≤ i2 ∧ i2 ≤ (x0.length : Int)) h ⟨rfl, (by (try simp only [List.length_set, List.length_append, List.length_cons, List.length_nil, List.length_replicate, List.length_take, List.length_drop]) <;> omega), (by (try simp only [List.length_set, List.length_append, List.length_cons, List.length_nil, List.length_replicate, List.length_take, List.length_drop]) <;> omega)⟩ (fun d3 i2 s1 hI h ih3 => ?_)))
  obtain ⟨hd, _, _⟩ := hI
  refine al_round ?_
  refine aw_seq ?_
  refine aw_seq ?_
  refine aw_region ?_
  refine ao_r (r_move rfl) rfl ?_
  refine ao_r (r_move rfl) rfl ?_
  refine ao_r (r_len_vm (x0.length : Int) Try.underlying32 rfl rfl) rfl ?_
  refine ao_r (r_lss rfl rfl) rfl ?_
  refine ao_nil ?_
  refine aq_then ?_
  refine aw_cond rfl (fun hb5 => ?_) (fun hb5 => ?_)
  have q6 := d_t hb5
  obtain ⟨d3, rfl⟩ : ∃ e, d3 = e + 1 := ⟨d3 - 1, by omega⟩
  replace h := is_cntS h
  refine aw_skip ?_
  refine aq_then ?_
  refine aw_seq ?_
  refine aw_block ?_
  refine aw_seq ?_
  refine aw_region ?_
  refine ao_r (r_move rfl) rfl ?_
  refine ao_r (r_move rfl) rfl ?_
  refine ao_r (r_idxAddr_int Try.underlying32 Try.sizeOf3 rfl rfl (show 0 ≤ i2 from by omega) (show i2 < (x0.length : Int) from by omega)) rfl ?_
  refine ao_r (r_load_c_int Try.isAgg3 Try.sizeOf3 rfl) rfl ?_
  refine ao_r (r_move rfl) rfl ?_
  refine ao_r (r_eql rfl rfl) rfl ?_
  refine ao_nil ?_
  refine aq_then ?_
  refine aw_cond rfl (fun hb8 => ?_) (fun hb8 => ?_)
  have q9 : (x0.getD i2.toNat 0) = x1 := d_t hb8
  replace h := is_if (d_t hb8) h
  refine aw_seq ?_
  refine aw_region ?_
  refine ao_r (r_assign rfl) rfl ?_
  refine ao_nil ?_
  refine aq_then ?_
  refine aw_ret ?_
  refine aq_in_ret ?_
  refine aq_then_ret ?_
  refine aq_then_ret ?_
  refine aq_in_ret ?_
  refine aq_then_ret ?_
  refine aq_ret ?_
  obtain rfl := is_eq h
  exact aq_finx (l := [.tmp 4]) (xs := [.bool true]) idn [.bool true] [] rfl (by exact ⟨rfl, trivial⟩) (by exact ⟨ad_ren rfl, trivial⟩) (by exact trivial) rfl (nk rfl) rfl rfl ⟨rfl, rfl⟩
  have q10 : ¬ ((x0.getD i2.toNat 0) = x1) := d_f hb8
  replace h := is_else (d_f hb8) h
  refine aw_skip ?_
  refine aq_in ?_
  refine aq_then ?_
  refine aw_region ?_
  refine ao_r (r_move rfl) rfl ?_
  refine ao_r (r_addI rfl rfl (wrap_id (by omega) (by omega))) rfl ?_
  refine ao_r (r_assign rfl) rfl ?_
  refine ao_nil ?_
  exact aq_again (AL.sub (sub_r1 idn (nk rfl) (by kernel_rfl)) (ih3 d3 (i2 + 1) () (by omega) ⟨by omega, (by (try simp only [List.length_set, List.length_append, List.length_cons, List.length_nil, List.length_replicate, List.length_take, List.length_drop]) <;> omega), (by (try simp only [List.length_set, List.length_append, List.length_cons, List.length_nil, List.length_replicate, List.length_take, List.length_drop]) <;> omega)⟩ h))
  have q7 := d_f hb5
  obtain rfl : d3 = 0 := by omega
  replace h := is_cnt0 h
  refine aw_exit ?_
  refine aq_then_exit ?_
  refine aq_then_exit ?_
  refine aq_in_exit ?_
  refine aq_then ?_
  refine aw_seq ?_
  refine aw_region ?_
  refine ao_r (r_assign rfl) rfl ?_
  refine ao_nil ?_
  refine aq_then ?_
  refine aw_ret ?_
  refine aq_ret ?_
  obtain rfl := is_eq h
  exact aq_finx (l := [.tmp 4]) (xs := [.bool false]) idn [.bool false] [] rfl (by exact ⟨rfl, trivial⟩) (by exact ⟨ad_ren rfl, trivial⟩) (by exact trivial) rfl (nk rfl) rfl rfl ⟨rfl, rfl⟩
theorem c_impl_RollAt {fu : Nat} {x0 : dy7} {x1 : Int} {r : dy9 × Bool} (h : Is (p_impl_RollAt fu x0 x1) (some r)) :
    ACalls Try.prog 21 [.v ty2 x0, .int .i64 x1] [] (fun r' H' => r' = .tup [.os 0, .bool r.2] ∧ H' = [(0, .row ty8 r.1)]) := by
  unfold p_impl_RollAt at h
  refine ac_enter ⟨18, 0⟩ Try.func21 rfl rfl rfl rfl rfl (fun Γ => ?_)
  refine sl_len_m 0 (x0.length : Int) rfl rfl (fun hl0 => ?_)
  refine aw_seq ?_
  refine aw_region ?_
  refine ao_r (r_assign rfl) rfl ?_
  refine ao_r (r_assign rfl) rfl ?_
  refine ao_nil ?_
  refine aq_then ?_
  refine aw_seq ?_
  refine aw_seq ?_
  refine aw_region ?_
  refine ao_r (r_move rfl) rfl ?_
  refine ao_scall trivial (scall (c_impl_IsPool (is_mk (rfl : p_impl_IsPool x0 = _))) rfl Try.func41 rfl rfl rfl rfl (fun σ => ⟨ad_ren rfl, trivial⟩)) rfl ?_
  refine ao_r (r_not rfl) rfl ?_
  refine ao_r (r_move rfl) rfl ?_
  refine ao_readG (x := .v ty2 x0) rfl (GV.F rfl) (fun hg1 => r_move rfl) rfl ?_
  refine ao_readG (x := .int .i64 x1) rfl (GV.F rfl) (fun hg2 => r_move rfl) rfl ?_
  obtain ⟨g4, h⟩ := is_guard h
  refine ao_scallG (r := .bool ((p_impl_isOutcome fu x0 x1).getD false)) rfl (GV.F rfl) (fun hg3 => SCall.strip 10 rfl (hg3) (SCall.strip 11 rfl (hg3) (scall (c_impl_isOutcome (is_mk (isSome_getD (g4 hg3)))) rfl Try.func25 rfl rfl rfl rfl (fun σ => ⟨ad_ren rfl, ad_ren rfl, trivial⟩)))) rfl ?_
  refine ao_readG (x := .bool (!((p_impl_isOutcome fu x0 x1).getD false))) rfl (GV.F rfl) (fun hg5 => Reads.strip 12 rfl (hg5) (r_not rfl)) rfl ?_
  refine ao_r (r_orB rfl rfl) rfl ?_
  refine ao_nil ?_
  refine aq_then ?_
  refine aw_cond rfl (fun hb6 => ?_) (fun hb6 => ?_)
  replace h := is_if hb6 h
  refine aw_seq ?_
  refine aw_region ?_
  refine ao_r (r_assign rfl) rfl ?_
  refine ao_r (r_assign rfl) rfl ?_
  refine ao_nil ?_
  refine aq_then ?_
  refine aw_ret ?_
  refine aq_then_ret ?_
  refine aq_ret ?_
  obtain rfl := is_some h
  refine AQ.sub (sub_nil (T := 4) (t := ty8) 0 rfl rfl rfl) ?_
  exact aq_finx (l := [.tmp 4, .tmp 5]) (xs := [.os 0, .bool false]) idn [.os 0, .bool false] [(0, .row ty8 ([] : dy9))] rfl (by exact ⟨rfl, rfl, trivial⟩) (by exact ⟨ad_ren rfl, ad_ren rfl, trivial⟩) (by exact ⟨⟨_, rfl, rfl⟩, trivial⟩) rfl (nk rfl) rfl rfl ⟨rfl, rfl⟩
  obtain ⟨q7, q8⟩ := or_f hb6
  replace h := is_else (ne_t hb6) h
  refine aw_skip ?_
  refine aq_then ?_
  refine aw_seq ?_
  refine aw_region ?_
  refine ao_r (r_move rfl) rfl ?_
  refine ao_r (r_move rfl) rfl ?_
  obtain ⟨r9, r9h, h⟩ := is_bind h
  refine ao_call [] 0 trivial (c_impl_rollAt (is_mk r9h)) Try.func42 rfl rfl rfl rfl ⟨ad_ren rfl, ad_ren rfl, trivial⟩ trivial rfl rfl rfl rfl rfl rfl rfl (fun r' H' hr => ?_)
  obtain ⟨rfl, rfl⟩ := hr
  refine ao_norm (y := .os 0) (H' := [(0, .row ty8 r9)]) rfl rfl ?_
  refine row_len_o 0 (r9.length : Int) rfl rfl (fun hr10 => ?_)
  refine ao_r (r_assign rfl) rfl ?_
  refine ao_r (r_assign rfl) rfl ?_
  refine ao_nil ?_
  refine aq_then ?_
  refine aw_ret ?_
  refine aq_ret ?_
  obtain rfl := is_some h
  exact aq_finx (l := [.tmp 4, .tmp 5]) (xs := [.os 0, .bool true]) idn [.os 0, .bool true] [(0, .row ty8 r9)] rfl (by exact ⟨rfl, rfl, trivial⟩) (by exact ⟨ad_ren rfl, ad_ren rfl, trivial⟩) (by exact ⟨⟨_, rfl, rfl⟩, trivial⟩) rfl (nk rfl) rfl rfl ⟨rfl, rfl⟩
theorem c_impl_ScoreOf {x0 : dy5} {x1 : dy9} {r : Int × Bool} (h : Is (p_impl_ScoreOf x0 x1) (some r)) :
    Scalar Try.prog 22 [.v ty1 x0, .v ty3 x1] (.tup [.int .i64 r.1, .bool r.2]) := by
  unfold p_impl_ScoreOf at h
  refine ac_enter ⟨23, 0⟩ Try.func22 rfl rfl rfl rfl rfl (fun Γ => ?_)
  refine sl_len_m 1 (x1.length : Int) rfl rfl (fun hl1 => ?_)
  refine aw_seq ?_
  refine aw_region ?_
  refine ao_eff trivial (e_box 0 rfl rfl rfl rfl rfl rfl) rfl ?_
  refine ao_r (r_assign rfl) rfl ?_
  refine ao_r (r_assign rfl) rfl ?_
  refine ao_nil ?_
  refine aq_then ?_
  refine aw_seq ?_
  refine aw_seq ?_
  refine aw_region ?_
  refine ao_r (r_load_part (τ := ty1) (y := ((x0.1, (x0.2.1, ())) : dy5)) [] [] rfl Try.isAgg26 Try.sizeOf26 rfl rfl rfl rfl) rfl ?_
  refine ao_scall trivial (scall (c_impl_IsGoal (is_mk (rfl : p_impl_IsGoal (x0.1, (x0.2.1, ())) = _))) rfl Try.func17 rfl rfl rfl rfl (fun σ => ⟨ad_ren rfl, trivial⟩)) rfl ?_
  refine ao_r (r_not rfl) rfl ?_
  refine ao_r (r_move rfl) rfl ?_
  refine ao_readG (x := .v ty3 x1) rfl (GV.F rfl) (fun hg1 => r_move rfl) rfl ?_
  refine ao_readG (x := .int .i64 (x1.length : Int)) rfl (GV.F rfl) (fun hg2 => Reads.strip 10 rfl (hg2) (r_len_vm (x1.length : Int) Try.underlying32 rfl rfl)) rfl ?_
  refine ao_scallG (r := .bool (p_impl_within (x1.length : Int) 1 3)) rfl (GV.F rfl) (fun hg3 => SCall.strip 11 rfl (hg3) (scall (c_impl_within (is_mk (rfl : p_impl_within (x1.length : Int) 1 3 = _))) rfl Try.func36 rfl rfl rfl rfl (fun σ => ⟨ad_ren rfl, ad_ren rfl, ad_ren rfl, trivial⟩))) rfl ?_
  refine ao_readG (x := .bool (!(p_impl_within (x1.length : Int) 1 3))) rfl (GV.F rfl) (fun hg4 => Reads.strip 12 rfl (hg4) (r_not rfl)) rfl ?_
  refine ao_r (r_orB rfl rfl) rfl ?_
  refine ao_r (r_move rfl) rfl ?_
  refine ao_readG (x := .v ty3 x1) rfl (GV.F rfl) (fun hg5 => by
        obtain ⟨q6, q7⟩ := or_f (not_t hg5)
        exact r_move rfl) rfl ?_
  refine ao_scallG (r := .bool (p_impl_areAll_int x1)) rfl (GV.F rfl) (fun hg8 => by
        obtain ⟨q9, q10⟩ := or_f (not_t hg8)
        exact SCall.strip 16 rfl (hg8) (scall (c_impl_areAll_int (is_mk (rfl : p_impl_areAll_int x1 = _))) rfl Try.func43 rfl rfl rfl rfl (fun σ => ⟨ad_ren rfl, ad_ren rfl, trivial⟩))) rfl ?_
  refine ao_readG (x := .bool (!(p_impl_areAll_int x1))) rfl (GV.F rfl) (fun hg11 => by
        obtain ⟨q12, q13⟩ := or_f (not_t hg11)
        exact Reads.strip 17 rfl (hg11) (r_not rfl)) rfl ?_
  refine ao_r (r_orB rfl rfl) rfl ?_
  refine ao_nil ?_
  refine aq_then ?_
  refine aw_cond rfl (fun hb14 => ?_) (fun hb14 => ?_)
  replace h := is_if hb14 h
  refine aw_seq ?_
  refine aw_region ?_
  refine ao_r (r_assign rfl) rfl ?_
  refine ao_r (r_assign rfl) rfl ?_
  refine ao_nil ?_
  refine aq_then ?_
  refine aw_ret ?_
  refine aq_then_ret ?_
  refine aq_ret ?_
  obtain rfl := is_some h
  exact aq_finx (l := [.tmp 4, .tmp 5]) (xs := [.int .i64 0, .bool false]) idn [.int .i64 0, .bool false] [] rfl (by exact ⟨rfl, rfl, trivial⟩) (by exact ⟨ad_ren rfl, ad_ren rfl, trivial⟩) (by exact trivial) rfl (nk rfl) rfl rfl ⟨rfl, rfl⟩
  obtain ⟨q15, q16⟩ := or_f hb14
  obtain ⟨q17, q18⟩ := or_f q15
  replace h := is_else (ne_t hb14) h
  refine aw_skip ?_
  refine aq_then ?_
  refine aw_seq ?_
  refine aw_region ?_
  refine ao_r (r_load_part (τ := ty1) (y := ((x0.1, (x0.2.1, ())) : dy5)) [] [] rfl Try.isAgg26 Try.sizeOf26 rfl rfl rfl rfl) rfl ?_
  refine ao_r (r_move rfl) rfl ?_
  obtain ⟨r19, r19h, h⟩ := is_bind h
  refine ao_scall trivial (scall (c_impl_Goal_score (is_mk r19h)) rfl Try.func45 rfl rfl rfl rfl (fun σ => ⟨ad_ren rfl, ad_ren rfl, trivial⟩)) rfl ?_
  refine ao_r (r_assign rfl) rfl ?_
  refine ao_r (r_assign rfl) rfl ?_
  refine ao_nil ?_
  refine aq_then ?_
  refine aw_ret ?_
  refine aq_ret ?_
  obtain rfl := is_some h
  exact aq_finx (l := [.tmp 4, .tmp 5]) (xs := [.int .i64 r19, .bool true]) idn [.int .i64 r19, .bool true] [] rfl (by exact ⟨rfl, rfl, trivial⟩) (by exact ⟨ad_ren rfl, ad_ren rfl, trivial⟩) (by exact trivial) rfl (nk rfl) rfl rfl ⟨rfl, rfl⟩
theorem c_laws_FnAgain {fu : Nat} {x0 : dy9} {r : Bool} (h : Is (p_laws_FnAgain fu x0) (some r)) :
    Scalar Try.prog 3 [.v ty6 x0] (.bool r) := by
  unfold p_laws_FnAgain at h
  refine ac_enter ⟨293, 0⟩ Try.func3 rfl rfl rfl rfl rfl (fun Γ => ?_)
  refine sl_len_m 0 (x0.length : Int) rfl rfl (fun hl0 => ?_)
  refine aw_seq ?_
  refine aw_region ?_
  refine ao_r (r_assign rfl) rfl ?_
  refine ao_nil ?_
  refine aq_then ?_
  refine aw_seq ?_
  refine aw_seq ?_
  refine aw_region ?_
  refine ao_r (r_move rfl) rfl ?_
  refine ao_scall trivial (scall (c_laws_vBig (is_mk (rfl : p_laws_vBig x0 = _))) rfl Try.func4 rfl rfl rfl rfl (fun σ => ⟨ad_ren rfl, trivial⟩)) rfl ?_
  refine ao_nil ?_
  refine aq_then ?_
  refine aw_cond rfl (fun hb1 => ?_) (fun hb1 => ?_)
  replace h := is_if hb1 h
  refine aw_seq ?_
  refine aw_region ?_
  refine ao_r (r_assign rfl) rfl ?_
  refine ao_nil ?_
  refine aq_then ?_
  refine aw_ret ?_
  refine aq_then_ret ?_
  refine aq_ret ?_
  obtain rfl := is_some h
  exact aq_finx (l := [.tmp 2]) (xs := [.bool true]) idn [.bool true] [] rfl (by exact ⟨rfl, trivial⟩) (by exact ⟨ad_ren rfl, trivial⟩) (by exact trivial) rfl (nk rfl) rfl rfl ⟨rfl, rfl⟩
  replace h := is_else (ne_t hb1) h
  refine aw_skip ?_
  refine aq_then ?_
  refine aw_seq ?_
  refine aw_region ?_
  refine ao_r (r_move rfl) rfl ?_
  obtain ⟨r2, r2h, h⟩ := is_bind h
  refine ao_call [] 0 trivial (c_spec_DrawValueOf (is_mk r2h)) Try.func5 rfl rfl rfl rfl ⟨ad_ren rfl, trivial⟩ trivial rfl rfl rfl rfl rfl rfl rfl (fun r' H' hr => ?_)
  obtain ⟨rfl, rfl⟩ := hr
  refine ao_norm (y := .tup [.os 0, .v ty1 r2.2.1, .int .i64 r2.2.2.1, .int .i64 r2.2.2.2]) (H' := [(0, .row ty4 r2.1)]) rfl rfl ?_
  refine row_len_o 0 (r2.1.length : Int) rfl rfl (fun hr3 => ?_)
  refine ao_r (r_move rfl) rfl ?_
  refine ao_r (r_extract rfl rfl) rfl ?_
  refine ao_r (r_extract rfl rfl) rfl ?_
  refine ao_r (r_extract rfl rfl) rfl ?_
  refine ao_r (r_extract rfl rfl) rfl ?_
  refine ao_eff trivial (e_alloc 1 (y := .st [.int .i64 0, .int .i64 0]) Try.zeroValue26 (fun ρ h M => ra_zero_st (t := ty1) rfl rfl rfl) rfl rfl rfl rfl rfl) rfl ?_
  refine ao_r (r_assign rfl) rfl ?_
  refine ao_effS trivial (e_store rfl rfl rfl rfl Try.sizeOf26 rfl) ?_
  refine ao_r (r_assign rfl) rfl ?_
  refine ao_r (r_assign rfl) rfl ?_
  refine ao_nil ?_
  refine aq_then ?_
  refine aw_seq ?_
  refine aw_region ?_
  refine ao_r (r_move rfl) rfl ?_
  refine ao_r (r_load_part (τ := ty1) (y := ((r2.2.1.1, (r2.2.1.2.1, ())) : dy5)) [] [] rfl Try.isAgg26 Try.sizeOf26 rfl rfl rfl rfl) rfl ?_
  refine ao_r (r_move rfl) rfl ?_
  refine ao_r (r_move rfl) rfl ?_
  obtain ⟨r4, r4h, h⟩ := is_bind h
  refine ao_scall trivial (scall (c_impl_ValueOf (is_mk r4h)) rfl Try.func6 rfl rfl rfl rfl (fun σ => ⟨ad_os0 rfl, ad_ren rfl, ad_ren rfl, ad_ren rfl, trivial⟩)) rfl ?_
  refine ao_r (r_move rfl) rfl ?_
  refine ao_r (r_extract rfl rfl) rfl ?_
  refine ao_r (r_extract rfl rfl) rfl ?_
  refine ao_eff trivial (e_alloc 2 (y := .v (.arr 2 ty8) ((List.replicate 2 0) : dy9)) Try.zeroValue29 (fun ρ h M => ra_zero_arr (t := ty8) rfl) rfl rfl rfl rfl rfl) rfl ?_
  refine ao_effS trivial (e_store rfl rfl rfl rfl Try.sizeOf29 rfl) ?_
  refine ao_r (r_assign rfl) rfl ?_
  refine ao_nil ?_
  refine aq_then ?_
  refine aw_seq ?_
  refine aw_region ?_
  refine ao_r (r_move rfl) rfl ?_
  refine ao_r (r_load_part (τ := ty1) (y := ((r2.2.1.1, (r2.2.1.2.1, ())) : dy5)) [] [] rfl Try.isAgg26 Try.sizeOf26 rfl rfl rfl rfl) rfl ?_
  refine ao_r (r_move rfl) rfl ?_
  refine ao_r (r_move rfl) rfl ?_
  obtain ⟨r5, r5h, h⟩ := is_bind h
  refine ao_scall trivial (scall (c_spec_ValueOf (is_mk r5h)) rfl Try.func7 rfl rfl rfl rfl (fun σ => ⟨ad_os0 rfl, ad_ren rfl, ad_ren rfl, ad_ren rfl, trivial⟩)) rfl ?_
  refine ao_r (r_move rfl) rfl ?_
  refine ao_r (r_extract rfl rfl) rfl ?_
  refine ao_r (r_extract rfl rfl) rfl ?_
  refine ao_eff trivial (e_alloc 3 (y := .v (.arr 2 ty8) ((List.replicate 2 0) : dy9)) Try.zeroValue29 (fun ρ h M => ra_zero_arr (t := ty8) rfl) rfl rfl rfl rfl rfl) rfl ?_
  refine ao_effS trivial (e_store rfl rfl rfl rfl Try.sizeOf29 rfl) ?_
  refine ao_r (r_assign rfl) rfl ?_
  refine ao_nil ?_
  refine aq_then ?_
  refine aw_seq ?_
  refine aw_region ?_
  refine ao_r (r_move rfl) rfl ?_
  refine ao_r (r_load_part (τ := ty1) (y := ((r2.2.1.1, (r2.2.1.2.1, ())) : dy5)) [] [] rfl Try.isAgg26 Try.sizeOf26 rfl rfl rfl rfl) rfl ?_
  refine ao_r (r_move rfl) rfl ?_
  refine ao_r (r_move rfl) rfl ?_
  obtain ⟨r6, r6h, h⟩ := is_bind h
  refine ao_call [] 4 trivial (c_impl_BestSets (is_mk r6h)) Try.func8 rfl rfl rfl rfl ⟨ad_os0 rfl, ad_ren rfl, ad_ren rfl, ad_ren rfl, trivial⟩ trivial rfl rfl rfl rfl rfl rfl rfl (fun r' H' hr => ?_)
  obtain ⟨rfl, rfl⟩ := hr
  refine ao_norm (y := .tup [.os 4, .bool r6.2]) (H' := [(3, .var [.arr ty8 2 r5.1]), (2, .var [.arr ty8 2 r4.1]), (1, .var [ci r2.2.1.1, ci r2.2.1.2.1]), (0, .row ty4 r2.1), (4, .row ty8 r6.1)]) rfl rfl ?_
  refine row_len_o 4 (r6.1.length : Int) rfl rfl (fun hr7 => ?_)
  refine ao_r (r_move rfl) rfl ?_
  refine ao_r (r_extract rfl rfl) rfl ?_
  refine ao_r (r_extract rfl rfl) rfl ?_
  refine ao_r (r_assign rfl) rfl ?_
  refine ao_r (r_assign rfl) rfl ?_
  refine ao_nil ?_
  refine aq_then ?_
  refine aw_seq ?_
  refine aw_region ?_
  refine ao_r (r_move rfl) rfl ?_
  refine ao_r (r_load_part (τ := ty1) (y := ((r2.2.1.1, (r2.2.1.2.1, ())) : dy5)) [] [] rfl Try.isAgg26 Try.sizeOf26 rfl rfl rfl rfl) rfl ?_
  refine ao_r (r_move rfl) rfl ?_
  refine ao_r (r_move rfl) rfl ?_
  obtain ⟨r8, r8h, h⟩ := is_bind h
  refine ao_call [] 5 trivial (c_spec_BestSets (is_mk r8h)) Try.func9 rfl rfl rfl rfl ⟨ad_os0 rfl, ad_ren rfl, ad_ren rfl, ad_ren rfl, trivial⟩ trivial rfl rfl rfl rfl rfl rfl rfl (fun r' H' hr => ?_)
  obtain ⟨rfl, rfl⟩ := hr
  refine ao_norm (y := .tup [.os 5, .bool r8.2]) (H' := [(3, .var [.arr ty8 2 r5.1]), (2, .var [.arr ty8 2 r4.1]), (1, .var [ci r2.2.1.1, ci r2.2.1.2.1]), (0, .row ty4 r2.1), (4, .row ty8 r6.1), (5, .row ty8 r8.1)]) rfl rfl ?_
  refine row_len_o 5 (r8.1.length : Int) rfl rfl (fun hr9 => ?_)
  refine ao_r (r_move rfl) rfl ?_
  refine ao_r (r_extract rfl rfl) rfl ?_
  refine ao_r (r_extract rfl rfl) rfl ?_
  refine ao_r (r_assign rfl) rfl ?_
  refine ao_r (r_assign rfl) rfl ?_
  refine ao_nil ?_
  refine aq_then ?_
  refine aw_seq ?_
  refine aw_region ?_
  refine ao_r (r_move rfl) rfl ?_
  refine ao_r (r_load_part (τ := ty1) (y := ((r2.2.1.1, (r2.2.1.2.1, ())) : dy5)) [] [] rfl Try.isAgg26 Try.sizeOf26 rfl rfl rfl rfl) rfl ?_
  refine ao_r (r_move rfl) rfl ?_
  refine ao_r (r_move rfl) rfl ?_
  obtain ⟨r10, r10h, h⟩ := is_bind h
  refine ao_scall trivial (scall (c_impl_BestSet (is_mk r10h)) rfl Try.func10 rfl rfl rfl rfl (fun σ => ⟨ad_os0 rfl, ad_ren rfl, ad_ren rfl, ad_ren rfl, trivial⟩)) rfl ?_
  refine ao_r (r_move rfl) rfl ?_
  refine ao_r (r_extract rfl rfl) rfl ?_
  refine ao_r (r_extract rfl rfl) rfl ?_
  refine ao_r (r_assign rfl) rfl ?_
  refine ao_r (r_assign rfl) rfl ?_
  refine ao_nil ?_
  refine aq_then ?_
  refine aw_seq ?_
  refine aw_region ?_
  refine ao_r (r_move rfl) rfl ?_
  refine ao_r (r_load_part (τ := ty1) (y := ((r2.2.1.1, (r2.2.1.2.1, ())) : dy5)) [] [] rfl Try.isAgg26 Try.sizeOf26 rfl rfl rfl rfl) rfl ?_
  refine ao_r (r_move rfl) rfl ?_
  refine ao_r (r_move rfl) rfl ?_
  obtain ⟨r11, r11h, h⟩ := is_bind h
  refine ao_scall trivial (scall (c_spec_BestSet (is_mk r11h)) rfl Try.func11 rfl rfl rfl rfl (fun σ => ⟨ad_os0 rfl, ad_ren rfl, ad_ren rfl, ad_ren rfl, trivial⟩)) rfl ?_
  refine ao_r (r_move rfl) rfl ?_
  refine ao_r (r_extract rfl rfl) rfl ?_
  refine ao_r (r_extract rfl rfl) rfl ?_
  refine ao_r (r_assign rfl) rfl ?_
  refine ao_r (r_assign rfl) rfl ?_
  refine ao_nil ?_
  refine aq_then ?_
  refine aw_seq ?_
  refine aw_region ?_
  refine ao_r (r_move rfl) rfl ?_
  obtain ⟨r12, r12h, h⟩ := is_bind h
  refine ao_call [] 6 trivial (c_laws_vCut (is_mk r12h)) Try.func13 rfl rfl rfl rfl ⟨ad_ren rfl, ad_ren rfl, trivial⟩ trivial rfl rfl rfl rfl rfl rfl rfl (fun r' H' hr => ?_)
  obtain ⟨rfl, rfl⟩ := hr
  refine ao_norm (y := .os 6) (H' := [(3, .var [.arr ty8 2 r5.1]), (2, .var [.arr ty8 2 r4.1]), (1, .var [ci r2.2.1.1, ci r2.2.1.2.1]), (0, .row ty4 r2.1), (4, .row ty8 r6.1), (5, .row ty8 r8.1), (6, .row (.int .u8) r12)]) rfl rfl ?_
  refine row_len_o 6 (r12.length : Int) rfl rfl (fun hr13 => ?_)
  obtain ⟨r14, r14h, h⟩ := is_bind h
  refine ao_call [] 7 trivial (c_spec_DrawSetValue (is_mk r14h)) Try.func12 rfl rfl rfl rfl ⟨ad_os0 rfl, trivial⟩ trivial rfl rfl rfl rfl rfl rfl rfl (fun r' H' hr => ?_)
  obtain ⟨rfl, rfl⟩ := hr
  refine ao_norm (y := .tup [.os 7, .v ty1 r14.2.1, .int .i64 r14.2.2.1, .int .i64 r14.2.2.2.1, .int .i64 r14.2.2.2.2]) (H' := [(3, .var [.arr ty8 2 r5.1]), (2, .var [.arr ty8 2 r4.1]), (1, .var [ci r2.2.1.1, ci r2.2.1.2.1]), (0, .row ty4 r2.1), (4, .row ty8 r6.1), (5, .row ty8 r8.1), (6, .row (.int .u8) r12), (7, .row ty4 r14.1)]) rfl rfl ?_
  refine row_len_o 7 (r14.1.length : Int) rfl rfl (fun hr15 => ?_)
  refine ao_r (r_move rfl) rfl ?_
  refine ao_r (r_extract rfl rfl) rfl ?_
  refine ao_r (r_extract rfl rfl) rfl ?_
  refine ao_r (r_extract rfl rfl) rfl ?_
  refine ao_r (r_extract rfl rfl) rfl ?_
  refine ao_r (r_extract rfl rfl) rfl ?_
  refine ao_eff trivial (e_alloc 8 (y := .st [.int .i64 0, .int .i64 0]) Try.zeroValue26 (fun ρ h M => ra_zero_st (t := ty1) rfl rfl rfl) rfl rfl rfl rfl rfl) rfl ?_
  refine ao_r (r_assign rfl) rfl ?_
  refine ao_effS trivial (e_store rfl rfl rfl rfl Try.sizeOf26 rfl) ?_
  refine ao_r (r_assign rfl) rfl ?_
  refine ao_r (r_assign rfl) rfl ?_
  refine ao_r (r_assign rfl) rfl ?_
  refine ao_nil ?_
  refine aq_then ?_
  refine aw_seq ?_
  refine aw_region ?_
  refine ao_r (r_move rfl) rfl ?_
  refine ao_r (r_load_part (τ := ty1) (y := ((r14.2.1.1, (r14.2.1.2.1, ())) : dy5)) [] [] rfl Try.isAgg26 Try.sizeOf26 rfl rfl rfl rfl) rfl ?_
  refine ao_r (r_move rfl) rfl ?_
  refine ao_r (r_move rfl) rfl ?_
  refine ao_r (r_move rfl) rfl ?_
  obtain ⟨r16, r16h, h⟩ := is_bind h
  refine ao_scall trivial (scall (c_impl_SetValue (is_mk r16h)) rfl Try.func14 rfl rfl rfl rfl (fun σ => ⟨ad_os0 rfl, ad_ren rfl, ad_ren rfl, ad_ren rfl, ad_ren rfl, trivial⟩)) rfl ?_
  refine ao_r (r_move rfl) rfl ?_
  refine ao_r (r_extract rfl rfl) rfl ?_
  refine ao_r (r_extract rfl rfl) rfl ?_
  refine ao_eff trivial (e_alloc 9 (y := .v (.arr 2 ty8) ((List.replicate 2 0) : dy9)) Try.zeroValue29 (fun ρ h M => ra_zero_arr (t := ty8) rfl) rfl rfl rfl rfl rfl) rfl ?_
  refine ao_effS trivial (e_store rfl rfl rfl rfl Try.sizeOf29 rfl) ?_
  refine ao_r (r_assign rfl) rfl ?_
  refine ao_nil ?_
  refine aq_then ?_
  refine aw_seq ?_
  refine aw_region ?_
  refine ao_r (r_move rfl) rfl ?_
  refine ao_r (r_load_part (τ := ty1) (y := ((r14.2.1.1, (r14.2.1.2.1, ())) : dy5)) [] [] rfl Try.isAgg26 Try.sizeOf26 rfl rfl rfl rfl) rfl ?_
  refine ao_r (r_move rfl) rfl ?_
  refine ao_r (r_move rfl) rfl ?_
  refine ao_r (r_move rfl) rfl ?_
  obtain ⟨r17, r17h, h⟩ := is_bind h
  refine ao_scall trivial (scall (c_spec_SetValue (is_mk r17h)) rfl Try.func15 rfl rfl rfl rfl (fun σ => ⟨ad_os0 rfl, ad_ren rfl, ad_ren rfl, ad_ren rfl, ad_ren rfl, trivial⟩)) rfl ?_
  refine ao_r (r_move rfl) rfl ?_
  refine ao_r (r_extract rfl rfl) rfl ?_
  refine ao_r (r_extract rfl rfl) rfl ?_
  refine ao_eff trivial (e_alloc 10 (y := .v (.arr 2 ty8) ((List.replicate 2 0) : dy9)) Try.zeroValue29 (fun ρ h M => ra_zero_arr (t := ty8) rfl) rfl rfl rfl rfl rfl) rfl ?_
  refine ao_effS trivial (e_store rfl rfl rfl rfl Try.sizeOf29 rfl) ?_
  refine ao_r (r_assign rfl) rfl ?_
  refine ao_nil ?_
  refine aq_then ?_
  refine aw_seq ?_
  refine aw_seq ?_
  refine aw_drawAll (by kernel_rfl) ?_
  refine an_r 0 (fun _ _ _ h => h) rfl (by kernel_rfl) (r_load_arr rfl Try.isAgg29 Try.sizeOf29 rfl rfl rfl) rfl ?_
  refine an_r 1 (fun _ _ _ h => h) rfl (by kernel_rfl) (r_load_arr rfl Try.isAgg29 Try.sizeOf29 rfl rfl rfl) rfl ?_
  refine an_r 2 (fun _ _ _ h => h) rfl (by kernel_rfl) (r_eq_ints Try.underlying29 Try.underlying3 Try.isAgg3 (info_size Try.sizeOf3) (by kernel_rfl) rfl rfl rfl) rfl ?_
  refine an_r 3 (fun _ _ _ h => h) rfl (by kernel_rfl) (r_move rfl) rfl ?_
  refine an_readG 4 (x := .bool r4.2) (by kernel_rfl) (fun _ _ _ h => h) rfl (by kernel_rfl) rfl (GV.F rfl) (fun hg18 => r_move rfl) rfl ?_
  refine an_readG 5 (x := .bool r5.2) (by kernel_rfl) (fun _ _ _ h => h) rfl (by kernel_rfl) rfl (GV.F rfl) (fun hg19 => r_move rfl) rfl ?_
  refine an_readG 6 (x := .bool (r4.2 != r5.2)) (by kernel_rfl) (fun _ _ _ h => h) rfl (by kernel_rfl) rfl (GV.F rfl) (fun hg20 => Reads.strip 128 rfl (hg20) (Reads.strip 129 rfl (hg20) (r_neq_bool Try.underlying4 rfl rfl))) rfl ?_
  refine an_r 7 (fun _ _ _ h => h) rfl (by kernel_rfl) (r_orB rfl rfl) rfl ?_
  refine an_r 8 (fun _ _ _ h => h) rfl (by kernel_rfl) (r_move rfl) rfl ?_
  refine an_readG 9 (x := .bool r6.2) (by kernel_rfl) (fun _ _ _ h => h) rfl (by kernel_rfl) rfl (GV.F rfl) (fun hg21 => by
        obtain ⟨q22, q23⟩ := or_f (not_t hg21)
        exact r_move rfl) rfl ?_
  refine an_readG 10 (x := .bool r8.2) (by kernel_rfl) (fun _ _ _ h => h) rfl (by kernel_rfl) rfl (GV.F rfl) (fun hg24 => by
        obtain ⟨q25, q26⟩ := or_f (not_t hg24)
        exact r_move rfl) rfl ?_
  refine an_readG 11 (x := .bool (r6.2 != r8.2)) (by kernel_rfl) (fun _ _ _ h => h) rfl (by kernel_rfl) rfl (GV.F rfl) (fun hg27 => by
        obtain ⟨q28, q29⟩ := or_f (not_t hg27)
        exact Reads.strip 133 rfl (hg27) (Reads.strip 134 rfl (hg27) (r_neq_bool Try.underlying4 rfl rfl))) rfl ?_
  refine an_r 12 (fun _ _ _ h => h) rfl (by kernel_rfl) (r_orB rfl rfl) rfl ?_
  refine an_r 13 (fun _ _ _ h => h) rfl (by kernel_rfl) (r_move rfl) rfl ?_
  refine an_readG 14 (x := .os 4) (by kernel_rfl) (fun _ _ _ h => h) rfl (by kernel_rfl) rfl (GV.F rfl) (fun hg30 => by
        obtain ⟨q31, q32⟩ := or_f (not_t hg30)
        obtain ⟨q33, q34⟩ := or_f q31
        exact r_move rfl) rfl ?_
  refine an_readG 15 (x := .os 5) (by kernel_rfl) (fun _ _ _ h => h) rfl (by kernel_rfl) rfl (GV.F rfl) (fun hg35 => by
        obtain ⟨q36, q37⟩ := or_f (not_t hg35)
        obtain ⟨q38, q39⟩ := or_f q36
        exact r_move rfl) rfl ?_
  refine an_scallG 16 (x := .bool (p_laws_vInts r6.1 r8.1)) (by kernel_rfl) (fun _ _ _ h => h) rfl (by kernel_rfl) rfl (GV.F rfl) (fun hg40 => by
        obtain ⟨q41, q42⟩ := or_f (not_t hg40)
        obtain ⟨q43, q44⟩ := or_f q41
        exact SCall.strip 138 rfl (hg40) (SCall.strip 139 rfl (hg40) (scall (c_laws_vInts (is_mk (rfl : p_laws_vInts r6.1 r8.1 = _))) rfl Try.func16 rfl rfl rfl rfl (fun σ => ⟨ad_os0 rfl, ad_os0 rfl, trivial⟩)))) rfl ?_
  refine an_readG 17 (x := .bool (!(p_laws_vInts r6.1 r8.1))) (by kernel_rfl) (fun _ _ _ h => h) rfl (by kernel_rfl) rfl (GV.F rfl) (fun hg45 => by
        obtain ⟨q46, q47⟩ := or_f (not_t hg45)
        obtain ⟨q48, q49⟩ := or_f q46
        exact Reads.strip 140 rfl (hg45) (r_not rfl)) rfl ?_
  refine an_r 18 (fun _ _ _ h => h) rfl (by kernel_rfl) (r_orB rfl rfl) rfl ?_
  refine an_r 19 (fun _ _ _ h => h) rfl (by kernel_rfl) (r_move rfl) rfl ?_
  refine an_readG 20 (x := .int .i64 r10.1) (by kernel_rfl) (fun _ _ _ h => h) rfl (by kernel_rfl) rfl (GV.F rfl) (fun hg50 => by
        obtain ⟨q51, q52⟩ := or_f (not_t hg50)
        obtain ⟨q53, q54⟩ := or_f q51
        obtain ⟨q55, q56⟩ := or_f q53
        exact r_move rfl) rfl ?_
  refine an_readG 21 (x := .int .i64 r11.1) (by kernel_rfl) (fun _ _ _ h => h) rfl (by kernel_rfl) rfl (GV.F rfl) (fun hg57 => by
        obtain ⟨q58, q59⟩ := or_f (not_t hg57)
        obtain ⟨q60, q61⟩ := or_f q58
        obtain ⟨q62, q63⟩ := or_f q60
        exact r_move rfl) rfl ?_
  refine an_readG 22 (x := .bool (!(decide (r10.1 = r11.1)))) (by kernel_rfl) (fun _ _ _ h => h) rfl (by kernel_rfl) rfl (GV.F rfl) (fun hg64 => by
        obtain ⟨q65, q66⟩ := or_f (not_t hg64)
        obtain ⟨q67, q68⟩ := or_f q65
        obtain ⟨q69, q70⟩ := or_f q67
        exact Reads.strip 144 rfl (hg64) (Reads.strip 145 rfl (hg64) (r_neq rfl rfl))) rfl ?_
  refine an_r 23 (fun _ _ _ h => h) rfl (by kernel_rfl) (r_orB rfl rfl) rfl ?_
  refine an_r 24 (fun _ _ _ h => h) rfl (by kernel_rfl) (r_move rfl) rfl ?_
  refine an_readG 25 (x := .bool r10.2) (by kernel_rfl) (fun _ _ _ h => h) rfl (by kernel_rfl) rfl (GV.F rfl) (fun hg71 => by
        obtain ⟨q72, q73⟩ := or_f (not_t hg71)
        obtain ⟨q74, q75⟩ := or_f q72
        obtain ⟨q76, q77⟩ := or_f q74
        obtain ⟨q78, q79⟩ := or_f q76
        have q80 := d_t (not_f q73)
        exact r_move rfl) rfl ?_
  refine an_readG 26 (x := .bool r11.2) (by kernel_rfl) (fun _ _ _ h => h) rfl (by kernel_rfl) rfl (GV.F rfl) (fun hg81 => by
        obtain ⟨q82, q83⟩ := or_f (not_t hg81)
        obtain ⟨q84, q85⟩ := or_f q82
        obtain ⟨q86, q87⟩ := or_f q84
        obtain ⟨q88, q89⟩ := or_f q86
        have q90 := d_t (not_f q83)
        exact r_move rfl) rfl ?_
  refine an_readG 27 (x := .bool (r10.2 != r11.2)) (by kernel_rfl) (fun _ _ _ h => h) rfl (by kernel_rfl) rfl (GV.F rfl) (fun hg91 => by
        obtain ⟨q92, q93⟩ := or_f (not_t hg91)
        obtain ⟨q94, q95⟩ := or_f q92
        obtain ⟨q96, q97⟩ := or_f q94
        obtain ⟨q98, q99⟩ := or_f q96
        have q100 := d_t (not_f q93)
        exact Reads.strip 149 rfl (hg91) (Reads.strip 150 rfl (hg91) (r_neq_bool Try.underlying4 rfl rfl))) rfl ?_
  refine an_r 28 (fun _ _ _ h => h) rfl (by kernel_rfl) (r_orB rfl rfl) rfl ?_
  refine an_r 29 (fun _ _ _ h => h) rfl (by kernel_rfl) (r_move rfl) rfl ?_
  refine an_readG 30 (x := .v (.arr 2 ty8) r16.1) (by kernel_rfl) (fun _ _ _ h => h) rfl (by kernel_rfl) rfl (GV.F rfl) (fun hg101 => by
        obtain ⟨q102, q103⟩ := or_f (not_t hg101)
        obtain ⟨q104, q105⟩ := or_f q102
        obtain ⟨q106, q107⟩ := or_f q104
        obtain ⟨q108, q109⟩ := or_f q106
        obtain ⟨q110, q111⟩ := or_f q108
        have q112 := d_t (not_f q105)
        exact r_load_arr rfl Try.isAgg29 Try.sizeOf29 rfl rfl rfl) rfl ?_
  refine an_readG 31 (x := .v (.arr 2 ty8) r17.1) (by kernel_rfl) (fun _ _ _ h => h) rfl (by kernel_rfl) rfl (GV.F rfl) (fun hg113 => by
        obtain ⟨q114, q115⟩ := or_f (not_t hg113)
        obtain ⟨q116, q117⟩ := or_f q114
        obtain ⟨q118, q119⟩ := or_f q116
        obtain ⟨q120, q121⟩ := or_f q118
        obtain ⟨q122, q123⟩ := or_f q120
        have q124 := d_t (not_f q117)
        exact r_load_arr rfl Try.isAgg29 Try.sizeOf29 rfl rfl rfl) rfl ?_
  refine an_readG 32 (x := .bool (!(decide (r16.1 = r17.1)))) (by kernel_rfl) (fun _ _ _ h => h) rfl (by kernel_rfl) rfl (GV.F rfl) (fun hg125 => by
        obtain ⟨q126, q127⟩ := or_f (not_t hg125)
        obtain ⟨q128, q129⟩ := or_f q126
        obtain ⟨q130, q131⟩ := or_f q128
        obtain ⟨q132, q133⟩ := or_f q130
        obtain ⟨q134, q135⟩ := or_f q132
        have q136 := d_t (not_f q129)
        exact Reads.strip 154 rfl (hg125) (Reads.strip 155 rfl (hg125) (r_eq_ints Try.underlying29 Try.underlying3 Try.isAgg3 (info_size Try.sizeOf3) (by kernel_rfl) rfl rfl rfl))) rfl ?_
  refine an_r 33 (fun _ _ _ h => h) rfl (by kernel_rfl) (r_orB rfl rfl) rfl ?_
  refine an_r 34 (fun _ _ _ h => h) rfl (by kernel_rfl) (r_move rfl) rfl ?_
  refine an_readG 35 (x := .bool r16.2) (by kernel_rfl) (fun _ _ _ h => h) rfl (by kernel_rfl) rfl (GV.F rfl) (fun hg137 => by
        obtain ⟨q138, q139⟩ := or_f (not_t hg137)
        obtain ⟨q140, q141⟩ := or_f q138
        obtain ⟨q142, q143⟩ := or_f q140
        obtain ⟨q144, q145⟩ := or_f q142
        obtain ⟨q146, q147⟩ := or_f q144
        obtain ⟨q148, q149⟩ := or_f q146
        have q150 := d_t (not_f q143)
        exact r_move rfl) rfl ?_
  refine an_readG 36 (x := .bool r17.2) (by kernel_rfl) (fun _ _ _ h => h) rfl (by kernel_rfl) rfl (GV.F rfl) (fun hg151 => by
        obtain ⟨q152, q153⟩ := or_f (not_t hg151)
        obtain ⟨q154, q155⟩ := or_f q152
        obtain ⟨q156, q157⟩ := or_f q154
        obtain ⟨q158, q159⟩ := or_f q156
        obtain ⟨q160, q161⟩ := or_f q158
        obtain ⟨q162, q163⟩ := or_f q160
        have q164 := d_t (not_f q157)
        exact r_move rfl) rfl ?_
  refine an_readG 37 (x := .bool (r16.2 != r17.2)) (by kernel_rfl) (fun _ _ _ h => h) rfl (by kernel_rfl) rfl (GV.F rfl) (fun hg165 => by
        obtain ⟨q166, q167⟩ := or_f (not_t hg165)
        obtain ⟨q168, q169⟩ := or_f q166
        obtain ⟨q170, q171⟩ := or_f q168
        obtain ⟨q172, q173⟩ := or_f q170
        obtain ⟨q174, q175⟩ := or_f q172
        obtain ⟨q176, q177⟩ := or_f q174
        have q178 := d_t (not_f q171)
        exact Reads.strip 159 rfl (hg165) (Reads.strip 160 rfl (hg165) (r_neq_bool Try.underlying4 rfl rfl))) rfl ?_
  refine an_r 38 (fun _ _ _ h => h) rfl (by kernel_rfl) (r_orB rfl rfl) rfl ?_
  refine an_r 39 (fun _ _ _ h => h) rfl (by kernel_rfl) (r_move rfl) rfl ?_
  refine an_readG 40 (x := .bool r6.2) (by kernel_rfl) (fun _ _ _ h => h) rfl (by kernel_rfl) rfl (GV.F rfl) (fun hg179 => by
        obtain ⟨q180, q181⟩ := or_f (not_t hg179)
        obtain ⟨q182, q183⟩ := or_f q180
        obtain ⟨q184, q185⟩ := or_f q182
        obtain ⟨q186, q187⟩ := or_f q184
        obtain ⟨q188, q189⟩ := or_f q186
        obtain ⟨q190, q191⟩ := or_f q188
        obtain ⟨q192, q193⟩ := or_f q190
        have q194 := d_t (not_f q187)
        exact r_move rfl) rfl ?_
  refine an_readG 41 (x := .bool r10.2) (by kernel_rfl) (fun _ _ _ h => h) rfl (by kernel_rfl) rfl (GV.F rfl) (fun hg195 => by
        obtain ⟨q196, q197⟩ := or_f (not_t hg195)
        obtain ⟨q198, q199⟩ := or_f q196
        obtain ⟨q200, q201⟩ := or_f q198
        obtain ⟨q202, q203⟩ := or_f q200
        obtain ⟨q204, q205⟩ := or_f q202
        obtain ⟨q206, q207⟩ := or_f q204
        obtain ⟨q208, q209⟩ := or_f q206
        have q210 := d_t (not_f q203)
        exact r_move rfl) rfl ?_
  refine an_readG 42 (x := .bool (r6.2 != r10.2)) (by kernel_rfl) (fun _ _ _ h => h) rfl (by kernel_rfl) rfl (GV.F rfl) (fun hg211 => by
        obtain ⟨q212, q213⟩ := or_f (not_t hg211)
        obtain ⟨q214, q215⟩ := or_f q212
        obtain ⟨q216, q217⟩ := or_f q214
        obtain ⟨q218, q219⟩ := or_f q216
        obtain ⟨q220, q221⟩ := or_f q218
        obtain ⟨q222, q223⟩ := or_f q220
        obtain ⟨q224, q225⟩ := or_f q222
        have q226 := d_t (not_f q219)
        exact Reads.strip 164 rfl (hg211) (Reads.strip 165 rfl (hg211) (r_neq_bool Try.underlying4 rfl rfl))) rfl ?_
  refine an_r 43 (fun _ _ _ h => h) rfl (by kernel_rfl) (r_orB rfl rfl) rfl ?_
  refine an_r 44 (fun _ _ _ h => h) rfl (by kernel_rfl) (r_move rfl) rfl ?_
  refine an_readG 45 (x := .bool r6.2) (by kernel_rfl) (fun _ _ _ h => h) rfl (by kernel_rfl) rfl (GV.F rfl) (fun hg227 => by
        obtain ⟨q228, q229⟩ := or_f (not_t hg227)
        obtain ⟨q230, q231⟩ := or_f q228
        obtain ⟨q232, q233⟩ := or_f q230
        obtain ⟨q234, q235⟩ := or_f q232
        obtain ⟨q236, q237⟩ := or_f q234
        obtain ⟨q238, q239⟩ := or_f q236
        obtain ⟨q240, q241⟩ := or_f q238
        obtain ⟨q242, q243⟩ := or_f q240
        have q244 := d_t (not_f q237)
        exact r_move rfl) rfl ?_
  refine an_readG 46 (x := .bool r6.2) (by kernel_rfl) (fun _ _ _ h => h) rfl (by kernel_rfl) rfl (GV.F rfl) (fun hg245 => by
        obtain ⟨q246, q247⟩ := or_f (not_t hg245)
        obtain ⟨q248, q249⟩ := or_f q246
        obtain ⟨q250, q251⟩ := or_f q248
        obtain ⟨q252, q253⟩ := or_f q250
        obtain ⟨q254, q255⟩ := or_f q252
        obtain ⟨q256, q257⟩ := or_f q254
        obtain ⟨q258, q259⟩ := or_f q256
        obtain ⟨q260, q261⟩ := or_f q258
        have q262 := d_t (not_f q255)
        exact Reads.strip 169 rfl (hg245) (r_move rfl)) rfl ?_
  refine an_readG 47 (x := .bool r4.2) (by kernel_rfl) (fun _ _ _ h => h) rfl (by kernel_rfl) rfl (GV.gT rfl) (fun hg263 => by
        obtain ⟨q264, q265⟩ := and_t hg263
        obtain ⟨q266, q267⟩ := or_f (not_t q264)
        obtain ⟨q268, q269⟩ := or_f q266
        obtain ⟨q270, q271⟩ := or_f q268
        obtain ⟨q272, q273⟩ := or_f q270
        obtain ⟨q274, q275⟩ := or_f q272
        obtain ⟨q276, q277⟩ := or_f q274
        obtain ⟨q278, q279⟩ := or_f q276
        obtain ⟨q280, q281⟩ := or_f q278
        have q282 := d_t (not_f q275)
        exact r_move rfl) rfl ?_
  refine an_readG 48 (x := .bool (!r4.2)) (by kernel_rfl) (fun _ _ _ h => h) rfl (by kernel_rfl) rfl (GV.gT rfl) (fun hg283 => by
        obtain ⟨q284, q285⟩ := and_t hg283
        obtain ⟨q286, q287⟩ := or_f (not_t q284)
        obtain ⟨q288, q289⟩ := or_f q286
        obtain ⟨q290, q291⟩ := or_f q288
        obtain ⟨q292, q293⟩ := or_f q290
        obtain ⟨q294, q295⟩ := or_f q292
        obtain ⟨q296, q297⟩ := or_f q294
        obtain ⟨q298, q299⟩ := or_f q296
        obtain ⟨q300, q301⟩ := or_f q298
        have q302 := d_t (not_f q295)
        exact Reads.strip 171 rfl (hg283) (r_not rfl)) rfl ?_
  refine an_readG 49 (x := .bool (r6.2 && (!r4.2))) (by kernel_rfl) (fun _ _ _ h => h) rfl (by kernel_rfl) rfl (GV.F rfl) (fun hg303 => by
        obtain ⟨q304, q305⟩ := or_f (not_t hg303)
        obtain ⟨q306, q307⟩ := or_f q304
        obtain ⟨q308, q309⟩ := or_f q306
        obtain ⟨q310, q311⟩ := or_f q308
        obtain ⟨q312, q313⟩ := or_f q310
        obtain ⟨q314, q315⟩ := or_f q312
        obtain ⟨q316, q317⟩ := or_f q314
        obtain ⟨q318, q319⟩ := or_f q316
        have q320 := d_t (not_f q313)
        exact Reads.strip 170 rfl (hg303) (r_andBg rfl rfl (tr_and (hg303)))) rfl ?_
  refine an_r 50 (fun _ _ _ h => h) rfl (by kernel_rfl) (r_orB rfl rfl) rfl ?_
  refine an_r 51 (fun _ _ _ h => h) rfl (by kernel_rfl) (r_move rfl) rfl ?_
  refine an_readG 52 (x := .v ty1 ((r2.2.1.1, (r2.2.1.2.1, ())) : dy5)) (by kernel_rfl) (fun _ _ _ h => h) rfl (by kernel_rfl) rfl (GV.F rfl) (fun hg321 => by
        obtain ⟨q322, q323⟩ := or_f (not_t hg321)
        obtain ⟨q324, q325⟩ := or_f q322
        obtain ⟨q326, q327⟩ := or_f q324
        obtain ⟨q328, q329⟩ := or_f q326
        obtain ⟨q330, q331⟩ := or_f q328
        obtain ⟨q332, q333⟩ := or_f q330
        obtain ⟨q334, q335⟩ := or_f q332
        obtain ⟨q336, q337⟩ := or_f q334
        obtain ⟨q338, q339⟩ := or_f q336
        have q340 := d_t (not_f q333)
        exact r_load_part (τ := ty1) (y := ((r2.2.1.1, (r2.2.1.2.1, ())) : dy5)) [] [] rfl Try.isAgg26 Try.sizeOf26 rfl rfl rfl rfl) rfl ?_
  refine an_scallG 53 (x := .bool (p_impl_IsGoal (r2.2.1.1, (r2.2.1.2.1, ())))) (by kernel_rfl) (fun _ _ _ h => h) rfl (by kernel_rfl) rfl (GV.F rfl) (fun hg341 => by
        obtain ⟨q342, q343⟩ := or_f (not_t hg341)
        obtain ⟨q344, q345⟩ := or_f q342
        obtain ⟨q346, q347⟩ := or_f q344
        obtain ⟨q348, q349⟩ := or_f q346
        obtain ⟨q350, q351⟩ := or_f q348
        obtain ⟨q352, q353⟩ := or_f q350
        obtain ⟨q354, q355⟩ := or_f q352
        obtain ⟨q356, q357⟩ := or_f q354
        obtain ⟨q358, q359⟩ := or_f q356
        have q360 := d_t (not_f q353)
        exact SCall.strip 176 rfl (hg341) (scall (c_impl_IsGoal (is_mk (rfl : p_impl_IsGoal (r2.2.1.1, (r2.2.1.2.1, ())) = _))) rfl Try.func17 rfl rfl rfl rfl (fun σ => ⟨ad_ren rfl, trivial⟩))) rfl ?_
  refine an_readG 54 (x := .v ty1 ((r2.2.1.1, (r2.2.1.2.1, ())) : dy5)) (by kernel_rfl) (fun _ _ _ h => h) rfl (by kernel_rfl) rfl (GV.F rfl) (fun hg361 => by
        obtain ⟨q362, q363⟩ := or_f (not_t hg361)
        obtain ⟨q364, q365⟩ := or_f q362
        obtain ⟨q366, q367⟩ := or_f q364
        obtain ⟨q368, q369⟩ := or_f q366
        obtain ⟨q370, q371⟩ := or_f q368
        obtain ⟨q372, q373⟩ := or_f q370
        obtain ⟨q374, q375⟩ := or_f q372
        obtain ⟨q376, q377⟩ := or_f q374
        obtain ⟨q378, q379⟩ := or_f q376
        have q380 := d_t (not_f q373)
        exact r_load_part (τ := ty1) (y := ((r2.2.1.1, (r2.2.1.2.1, ())) : dy5)) [] [] rfl Try.isAgg26 Try.sizeOf26 rfl rfl rfl rfl) rfl ?_
  refine an_scallG 55 (x := .bool (p_spec_IsGoal (r2.2.1.1, (r2.2.1.2.1, ())))) (by kernel_rfl) (fun _ _ _ h => h) rfl (by kernel_rfl) rfl (GV.F rfl) (fun hg381 => by
        obtain ⟨q382, q383⟩ := or_f (not_t hg381)
        obtain ⟨q384, q385⟩ := or_f q382
        obtain ⟨q386, q387⟩ := or_f q384
        obtain ⟨q388, q389⟩ := or_f q386
        obtain ⟨q390, q391⟩ := or_f q388
        obtain ⟨q392, q393⟩ := or_f q390
        obtain ⟨q394, q395⟩ := or_f q392
        obtain ⟨q396, q397⟩ := or_f q394
        obtain ⟨q398, q399⟩ := or_f q396
        have q400 := d_t (not_f q393)
        exact SCall.strip 178 rfl (hg381) (scall (c_spec_IsGoal (is_mk (rfl : p_spec_IsGoal (r2.2.1.1, (r2.2.1.2.1, ())) = _))) rfl Try.func18 rfl rfl rfl rfl (fun σ => ⟨ad_ren rfl, trivial⟩))) rfl ?_
  refine an_readG 56 (x := .bool ((p_impl_IsGoal (r2.2.1.1, (r2.2.1.2.1, ()))) != (p_spec_IsGoal (r2.2.1.1, (r2.2.1.2.1, ()))))) (by kernel_rfl) (fun _ _ _ h => h) rfl (by kernel_rfl) rfl (GV.F rfl) (fun hg401 => by
        obtain ⟨q402, q403⟩ := or_f (not_t hg401)
        obtain ⟨q404, q405⟩ := or_f q402
        obtain ⟨q406, q407⟩ := or_f q404
        obtain ⟨q408, q409⟩ := or_f q406
        obtain ⟨q410, q411⟩ := or_f q408
        obtain ⟨q412, q413⟩ := or_f q410
        obtain ⟨q414, q415⟩ := or_f q412
        obtain ⟨q416, q417⟩ := or_f q414
        obtain ⟨q418, q419⟩ := or_f q416
        have q420 := d_t (not_f q413)
        exact Reads.strip 177 rfl (hg401) (Reads.strip 179 rfl (hg401) (r_neq_bool Try.underlying4 rfl rfl))) rfl ?_
  refine an_r 57 (fun _ _ _ h => h) rfl (by kernel_rfl) (r_orB rfl rfl) rfl ?_
  refine an_done rfl ?_
  refine aq_then ?_
  refine aw_cond rfl (fun hb421 => ?_) (fun hb421 => ?_)
  replace h := is_if hb421 h
  refine aw_seq ?_
  refine aw_region ?_
  refine ao_r (r_assign rfl) rfl ?_
  refine ao_nil ?_
  refine aq_then ?_
  refine aw_ret ?_
  refine aq_then_ret ?_
  refine aq_ret ?_
  obtain rfl := is_some h
  exact aq_finx (l := [.tmp 2]) (xs := [.bool false]) idn [.bool false] [] rfl (by exact ⟨rfl, trivial⟩) (by exact ⟨ad_ren rfl, trivial⟩) (by exact trivial) rfl (nk rfl) rfl rfl ⟨rfl, rfl⟩
  obtain ⟨q422, q423⟩ := or_f hb421
  obtain ⟨q424, q425⟩ := or_f q422
  obtain ⟨q426, q427⟩ := or_f q424
  obtain ⟨q428, q429⟩ := or_f q426
  obtain ⟨q430, q431⟩ := or_f q428
  obtain ⟨q432, q433⟩ := or_f q430
  obtain ⟨q434, q435⟩ := or_f q432
  obtain ⟨q436, q437⟩ := or_f q434
  obtain ⟨q438, q439⟩ := or_f q436
  obtain ⟨q440, q441⟩ := or_f q438
  have q442 := d_t (not_f q435)
  replace h := is_else (ne_t hb421) h
  refine aw_skip ?_
  refine aq_then ?_
  refine aw_join (fun (s443 : Unit) => [(3, .os 0), (4, .ref 1 0), (5, .int .i64 r2.2.2.1), (6, .int .i64 r2.2.2.2), (7, .ref 2 0), (8, .bool r4.2), (11, .os 3), (12, .bool r6.2), (15, .int .i64 r10.1)]) (fun (s443 : Unit) => [(0, .row ty4 r2.1), (1, .var [ci r2.2.1.1, ci r2.2.1.2.1]), (2, .var [.arr ty8 2 r4.1]), (3, .row ty8 r6.1)]) (fun (s443 : Unit) => True) h (fun s443 hI h => ?_) (fun h j445 => ?_)
  refine aw_join (fun (s446 : Unit) => [(3, .os 0), (4, .ref 1 0), (5, .int .i64 r2.2.2.1), (6, .int .i64 r2.2.2.2), (7, .ref 2 0), (8, .bool r4.2)]) (fun (s446 : Unit) => [(0, .row ty4 r2.1), (1, .var [ci r2.2.1.1, ci r2.2.1.2.1]), (2, .var [.arr ty8 2 r4.1])]) (fun (s446 : Unit) => True) h (fun s446 hI h => ?_) (fun h j448 => ?_)
  refine aw_seq ?_
  refine aw_seq ?_
  refine aw_region ?_
  refine ao_r (r_move rfl) rfl ?_
  refine ao_r (r_move rfl) rfl ?_
  refine ao_readG (x := .int .i64 r2.2.2.2) rfl (GV.T rfl) (fun hg449 => r_move rfl) rfl ?_
  refine ao_readG (x := .bool (decide (r2.2.2.2 = 0))) rfl (GV.T rfl) (fun hg450 => Reads.strip 268 rfl (hg450) (r_eql rfl rfl)) rfl ?_
  refine ao_r (r_andB rfl rfl) rfl ?_
  refine ao_nil ?_
  refine aq_then ?_
  refine aw_cond rfl (fun hb451 => ?_) (fun hb451 => ?_)
  obtain ⟨q452, q453⟩ := and_t hb451
  have q454 := d_t q453
  replace h := is_if hb451 h
  refine aw_seq ?_
  refine aw_region ?_
  refine ao_r (r_move rfl) rfl ?_
  refine ao_r (r_move rfl) rfl ?_
  obtain ⟨r455, r455h, h⟩ := is_bind h
  refine ao_call [] 3 trivial (c_impl_RollAt (is_mk r455h)) Try.func21 rfl rfl rfl rfl ⟨ad_os0 rfl, ad_ren rfl, trivial⟩ trivial rfl rfl rfl rfl rfl rfl rfl (fun r' H' hr => ?_)
  obtain ⟨rfl, rfl⟩ := hr
  refine ao_norm (y := .tup [.os 3, .bool r455.2]) (H' := [(0, .row ty4 r2.1), (1, .var [ci r2.2.1.1, ci r2.2.1.2.1]), (2, .var [.arr ty8 2 r4.1]), (3, .row ty8 r455.1)]) rfl rfl ?_
  refine row_len_o 3 (r455.1.length : Int) rfl rfl (fun hr456 => ?_)
  refine ao_r (r_move rfl) rfl ?_
  refine ao_r (r_extract rfl rfl) rfl ?_
  refine ao_r (r_extract rfl rfl) rfl ?_
  refine ao_r (r_assign rfl) rfl ?_
  refine ao_r (r_assign rfl) rfl ?_
  refine ao_nil ?_
  refine aq_then ?_
  refine aw_seq ?_
  refine aw_region ?_
  refine ao_r (r_load_part (τ := ty1) (y := ((r2.2.1.1, (r2.2.1.2.1, ())) : dy5)) [] [] rfl Try.isAgg26 Try.sizeOf26 rfl rfl rfl rfl) rfl ?_
  refine ao_r (r_move rfl) rfl ?_
  obtain ⟨r457, r457h, h⟩ := is_bind h
  refine ao_scall trivial (scall (c_impl_ScoreOf (is_mk r457h)) rfl Try.func22 rfl rfl rfl rfl (fun σ => ⟨ad_ren rfl, ad_os0 rfl, trivial⟩)) rfl ?_
  refine ao_r (r_move rfl) rfl ?_
  refine ao_r (r_extract rfl rfl) rfl ?_
  refine ao_r (r_extract rfl rfl) rfl ?_
  refine ao_r (r_assign rfl) rfl ?_
  refine ao_r (r_assign rfl) rfl ?_
  refine ao_nil ?_
  refine aq_then ?_
  refine aw_seq ?_
  refine aw_region ?_
  refine ao_r (r_move rfl) rfl ?_
  refine ao_r (r_move rfl) rfl ?_
  refine ao_readG (x := .bool r457.2) rfl (GV.T rfl) (fun hg458 => r_move rfl) rfl ?_
  refine ao_r (r_andB rfl rfl) rfl ?_
  refine ao_r (r_move rfl) rfl ?_
  refine ao_readG (x := .v (.arr 2 ty8) r4.1) rfl (GV.T rfl) (fun hg459 => by
        obtain ⟨q460, q461⟩ := and_t hg459
        exact r_load_arr rfl Try.isAgg29 Try.sizeOf29 rfl rfl rfl) rfl ?_
  refine ao_readG (x := .int .i64 r457.1) rfl (GV.T rfl) (fun hg462 => by
        obtain ⟨q463, q464⟩ := and_t hg462
        exact r_move rfl) rfl ?_
  refine ao_readG (x := .v (.arr 2 ty8) ([r457.1, 1] : dy9)) rfl (GV.T rfl) (fun hg465 => by
        obtain ⟨q466, q467⟩ := and_t hg465
        exact Reads.strip 289 rfl (hg465) (r_build_arr (l := [(0, .tmp 289), (1, .const (.int .i64 1))]) (t := ty8) ([r457.1, 1] : dy9) rfl Try.underlying29 Try.zeroValue29 Try.sizeOf3 rfl rfl rfl rfl)) rfl ?_
  refine ao_readG (x := .bool (decide (r4.1 = [r457.1, 1]))) rfl (GV.T rfl) (fun hg468 => by
        obtain ⟨q469, q470⟩ := and_t hg468
        exact Reads.strip 288 rfl (hg468) (Reads.strip 290 rfl (hg468) (r_eq_ints Try.underlying29 Try.underlying3 Try.isAgg3 (info_size Try.sizeOf3) (by kernel_rfl) rfl rfl rfl))) rfl ?_
  refine ao_r (r_andB rfl rfl) rfl ?_
  refine ao_r (r_assign rfl) rfl ?_
  refine ao_nil ?_
  refine aq_then ?_
  refine aw_ret ?_
  refine aq_then_ret ?_
  refine aq_ret ?_
  obtain rfl := is_some h
  exact aq_finx (l := [.tmp 2]) (xs := [.bool ((r455.2 && r457.2) && (decide (r4.1 = [r457.1, 1])))]) idn [.bool ((r455.2 && r457.2) && (decide (r4.1 = [r457.1, 1])))] [] rfl (by exact ⟨rfl, trivial⟩) (by exact ⟨ad_ren rfl, trivial⟩) (by exact trivial) rfl (nk rfl) rfl rfl ⟨rfl, rfl⟩
  replace h := is_else (ne_t hb451) h
  refine aw_skip ?_
  refine aq_then ?_
  refine aw_seq ?_
  refine aw_region ?_
  refine ao_r (r_assign rfl) rfl ?_
  refine ao_nil ?_
  refine aq_then ?_
  refine aw_ret ?_
  refine aq_ret ?_
  obtain rfl := is_some h
  exact aq_finx (l := [.tmp 2]) (xs := [.bool true]) idn [.bool true] [] rfl (by exact ⟨rfl, trivial⟩) (by exact ⟨ad_ren rfl, trivial⟩) (by exact trivial) rfl (nk rfl) rfl rfl ⟨rfl, rfl⟩
  refine aw_seq ?_
  refine aw_region ?_
  refine ao_r (r_move rfl) rfl ?_
  refine ao_nil ?_
  refine aq_then ?_
  refine aw_cond rfl (fun hb471 => ?_) (fun hb471 => ?_)
  replace h := is_if hb471 h
  refine aw_seq ?_
  refine aw_region ?_
  refine ao_r (r_move rfl) rfl ?_
  refine ao_r (r_load_part (τ := ty1) (y := ((r2.2.1.1, (r2.2.1.2.1, ())) : dy5)) [] [] rfl Try.isAgg26 Try.sizeOf26 rfl rfl rfl rfl) rfl ?_
  refine ao_r (r_move rfl) rfl ?_
  refine ao_r (r_move rfl) rfl ?_
  refine ao_r (r_move rfl) rfl ?_
  obtain ⟨r472, r472h, h⟩ := is_bind h
  refine ao_scall trivial (scall (c_impl_SetValue (is_mk r472h)) rfl Try.func14 rfl rfl rfl rfl (fun σ => ⟨ad_os0 rfl, ad_ren rfl, ad_ren rfl, ad_ren rfl, ad_ren rfl, trivial⟩)) rfl ?_
  refine ao_r (r_move rfl) rfl ?_
  refine ao_r (r_extract rfl rfl) rfl ?_
  refine ao_r (r_extract rfl rfl) rfl ?_
  refine ao_eff trivial (e_alloc 4 (y := .v (.arr 2 ty8) ((List.replicate 2 0) : dy9)) Try.zeroValue29 (fun ρ h M => ra_zero_arr (t := ty8) rfl) rfl rfl rfl rfl rfl) rfl ?_
  refine ao_effS trivial (e_store rfl rfl rfl rfl Try.sizeOf29 rfl) ?_
  refine ao_r (r_assign rfl) rfl ?_
  refine ao_nil ?_
  refine aq_then ?_
  refine aw_seq ?_
  refine aw_region ?_
  refine ao_r (r_move rfl) rfl ?_
  refine ao_r (r_load_part (τ := ty1) (y := ((r2.2.1.1, (r2.2.1.2.1, ())) : dy5)) [] [] rfl Try.isAgg26 Try.sizeOf26 rfl rfl rfl rfl) rfl ?_
  refine ao_r (r_move rfl) rfl ?_
  refine ao_r (r_move rfl) rfl ?_
  refine ao_r (r_sub rfl rfl) rfl ?_
  obtain ⟨r473, r473h, h⟩ := is_bind h
  refine ao_scall trivial (scall (c_impl_ValueOf (is_mk r473h)) rfl Try.func6 rfl rfl rfl rfl (fun σ => ⟨ad_os0 rfl, ad_ren rfl, ad_ren rfl, ad_ren rfl, trivial⟩)) rfl ?_
  refine ao_r (r_move rfl) rfl ?_
  refine ao_r (r_extract rfl rfl) rfl ?_
  refine ao_r (r_extract rfl rfl) rfl ?_
  refine ao_eff trivial (e_alloc 5 (y := .v (.arr 2 ty8) ((List.replicate 2 0) : dy9)) Try.zeroValue29 (fun ρ h M => ra_zero_arr (t := ty8) rfl) rfl rfl rfl rfl rfl) rfl ?_
  refine ao_effS trivial (e_store rfl rfl rfl rfl Try.sizeOf29 rfl) ?_
  refine ao_r (r_assign rfl) rfl ?_
  refine ao_nil ?_
  refine aq_then ?_
  refine aw_seq ?_
  refine aw_region ?_
  refine ao_r (r_move rfl) rfl ?_
  refine ao_r (r_not rfl) rfl ?_
  refine ao_r (r_move rfl) rfl ?_
  refine ao_readG (x := .bool r473.2) rfl (GV.F rfl) (fun hg474 => r_move rfl) rfl ?_
  refine ao_readG (x := .bool (!r473.2)) rfl (GV.F rfl) (fun hg475 => Reads.strip 241 rfl (hg475) (r_not rfl)) rfl ?_
  refine ao_r (r_orB rfl rfl) rfl ?_
  refine ao_r (r_move rfl) rfl ?_
  refine ao_readG (x := .os 3) rfl (GV.F rfl) (fun hg476 => by
        obtain ⟨q477, q478⟩ := or_f (not_t hg476)
        exact r_move rfl) rfl ?_
  refine ao_readG (x := .int .i64 (r6.1.length : Int)) rfl (GV.F rfl) (fun hg479 => by
        obtain ⟨q480, q481⟩ := or_f (not_t hg479)
        exact Reads.strip 245 rfl (hg479) (r_len_osm (r6.1.length : Int) Try.underlying32 rfl rfl rfl)) rfl ?_
  refine ao_readG (x := .bool (decide ((r6.1.length : Int) < 1))) rfl (GV.F rfl) (fun hg482 => by
        obtain ⟨q483, q484⟩ := or_f (not_t hg482)
        exact Reads.strip 246 rfl (hg482) (r_lss rfl rfl)) rfl ?_
  refine ao_r (r_orB rfl rfl) rfl ?_
  refine ao_r (r_move rfl) rfl ?_
  refine ao_readG (x := .os 3) rfl (GV.F rfl) (fun hg485 => by
        obtain ⟨q486, q487⟩ := or_f (not_t hg485)
        obtain ⟨q488, q489⟩ := or_f q486
        have q490 := d_f q487
        exact r_move rfl) rfl ?_
  refine ao_readG (x := .elem 3 0 1 0) rfl (GV.F rfl) (fun hg491 => by
        obtain ⟨q492, q493⟩ := or_f (not_t hg491)
        obtain ⟨q494, q495⟩ := or_f q492
        have q496 := d_f q493
        exact Reads.strip 250 rfl (hg491) (r_idxAddr_os Try.underlying32 Try.sizeOf3 rfl rfl rfl (show 0 ≤ 0 from by omega) (show 0 < (r6.1.length : Int) from by omega))) rfl ?_
  refine ao_readG (x := .int .i64 (r6.1.getD 0 0)) rfl (GV.F rfl) (fun hg497 => by
        obtain ⟨q498, q499⟩ := or_f (not_t hg497)
        obtain ⟨q500, q501⟩ := or_f q498
        have q502 := d_f q499
        exact Reads.strip 251 rfl (hg497) (r_load_elem_int Try.isAgg3 Try.sizeOf3 rfl rfl (show 0 < r6.1.length from by omega))) rfl ?_
  refine ao_readG (x := .int .i64 r10.1) rfl (GV.F rfl) (fun hg503 => by
        obtain ⟨q504, q505⟩ := or_f (not_t hg503)
        obtain ⟨q506, q507⟩ := or_f q504
        have q508 := d_f q505
        exact r_move rfl) rfl ?_
  refine ao_readG (x := .bool (!(decide ((r6.1.getD 0 0) = r10.1)))) rfl (GV.F rfl) (fun hg509 => by
        obtain ⟨q510, q511⟩ := or_f (not_t hg509)
        obtain ⟨q512, q513⟩ := or_f q510
        have q514 := d_f q511
        exact Reads.strip 252 rfl (hg509) (Reads.strip 253 rfl (hg509) (r_neq rfl rfl))) rfl ?_
  refine ao_r (r_orB rfl rfl) rfl ?_
  refine ao_r (r_move rfl) rfl ?_
  refine ao_readG (x := .v (.arr 2 ty8) r472.1) rfl (GV.F rfl) (fun hg515 => by
        obtain ⟨q516, q517⟩ := or_f (not_t hg515)
        obtain ⟨q518, q519⟩ := or_f q516
        obtain ⟨q520, q521⟩ := or_f q518
        have q522 := d_f q519
        have q523 : (r6.1.getD 0 0) = r10.1 := d_t (not_f q517)
        exact r_load_arr rfl Try.isAgg29 Try.sizeOf29 rfl rfl rfl) rfl ?_
  refine ao_readG (x := .v (.arr 2 ty8) r4.1) rfl (GV.F rfl) (fun hg524 => by
        obtain ⟨q525, q526⟩ := or_f (not_t hg524)
        obtain ⟨q527, q528⟩ := or_f q525
        obtain ⟨q529, q530⟩ := or_f q527
        have q531 := d_f q528
        have q532 : (r6.1.getD 0 0) = r10.1 := d_t (not_f q526)
        exact r_load_arr rfl Try.isAgg29 Try.sizeOf29 rfl rfl rfl) rfl ?_
  refine ao_readG (x := .bool (!(decide (r472.1 = r4.1)))) rfl (GV.F rfl) (fun hg533 => by
        obtain ⟨q534, q535⟩ := or_f (not_t hg533)
        obtain ⟨q536, q537⟩ := or_f q534
        obtain ⟨q538, q539⟩ := or_f q536
        have q540 := d_f q537
        have q541 : (r6.1.getD 0 0) = r10.1 := d_t (not_f q535)
        exact Reads.strip 257 rfl (hg533) (Reads.strip 258 rfl (hg533) (r_eq_ints Try.underlying29 Try.underlying3 Try.isAgg3 (info_size Try.sizeOf3) (by kernel_rfl) rfl rfl rfl))) rfl ?_
  refine ao_r (r_orB rfl rfl) rfl ?_
  refine ao_r (r_move rfl) rfl ?_
  refine ao_readG (x := .v (.arr 2 ty8) r4.1) rfl (GV.F rfl) (fun hg542 => by
        obtain ⟨q543, q544⟩ := or_f (not_t hg542)
        obtain ⟨q545, q546⟩ := or_f q543
        obtain ⟨q547, q548⟩ := or_f q545
        obtain ⟨q549, q550⟩ := or_f q547
        have q551 := d_f q548
        have q552 : (r6.1.getD 0 0) = r10.1 := d_t (not_f q546)
        exact r_load_arr rfl Try.isAgg29 Try.sizeOf29 rfl rfl rfl) rfl ?_
  refine ao_readG (x := .v (.arr 2 ty8) r473.1) rfl (GV.F rfl) (fun hg553 => by
        obtain ⟨q554, q555⟩ := or_f (not_t hg553)
        obtain ⟨q556, q557⟩ := or_f q554
        obtain ⟨q558, q559⟩ := or_f q556
        obtain ⟨q560, q561⟩ := or_f q558
        have q562 := d_f q559
        have q563 : (r6.1.getD 0 0) = r10.1 := d_t (not_f q557)
        exact r_load_arr rfl Try.isAgg29 Try.sizeOf29 rfl rfl rfl) rfl ?_
  refine ao_scallG (r := .bool (p_laws_vLess r4.1 r473.1)) rfl (GV.F rfl) (fun hg564 => by
        obtain ⟨q565, q566⟩ := or_f (not_t hg564)
        obtain ⟨q567, q568⟩ := or_f q565
        obtain ⟨q569, q570⟩ := or_f q567
        obtain ⟨q571, q572⟩ := or_f q569
        have q573 := d_f q570
        have q574 : (r6.1.getD 0 0) = r10.1 := d_t (not_f q568)
        exact SCall.strip 262 rfl (hg564) (SCall.strip 263 rfl (hg564) (scall (c_laws_vLess (is_mk (rfl : p_laws_vLess r4.1 r473.1 = _))) rfl Try.func19 rfl rfl rfl rfl (fun σ => ⟨ad_ren rfl, ad_ren rfl, trivial⟩)))) rfl ?_
  refine ao_r (r_orB rfl rfl) rfl ?_
  refine ao_nil ?_
  refine aq_then ?_
  refine aw_cond rfl (fun hb575 => ?_) (fun hb575 => ?_)
  replace h := is_if hb575 h
  refine aw_seq ?_
  refine aw_region ?_
  refine ao_r (r_assign rfl) rfl ?_
  refine ao_nil ?_
  refine aq_then ?_
  refine aw_ret ?_
  refine aq_then_ret ?_
  refine aq_ret ?_
  obtain rfl := is_some h
  exact aq_finx (l := [.tmp 2]) (xs := [.bool false]) idn [.bool false] [] rfl (by exact ⟨rfl, trivial⟩) (by exact ⟨ad_ren rfl, trivial⟩) (by exact trivial) rfl (nk rfl) rfl rfl ⟨rfl, rfl⟩
  obtain ⟨q576, q577⟩ := or_f hb575
  obtain ⟨q578, q579⟩ := or_f q576
  obtain ⟨q580, q581⟩ := or_f q578
  obtain ⟨q582, q583⟩ := or_f q580
  obtain ⟨q584, q585⟩ := or_f q582
  have q586 := d_f q583
  have q587 : (r6.1.getD 0 0) = r10.1 := d_t (not_f q581)
  replace h := is_else (ne_t hb575) h
  refine aw_skip ?_
  exact aq_then (AW.sub (sub_r1 idn (nk rfl) (by kernel_rfl)) (j448 () trivial h))
  replace h := is_else (ne_t hb471) h
  refine aw_skip ?_
  exact aq_then (AW.sub (sub_r1 idn (nk rfl) (by kernel_rfl)) (j448 () trivial h))
  refine aw_seq ?_
  refine aw_region ?_
  refine ao_r (r_move rfl) rfl ?_
  refine ao_nil ?_
  refine aq_then ?_
  refine aw_cond rfl (fun hb588 => ?_) (fun hb588 => ?_)
  replace h := is_if hb588 h
  refine aw_seq ?_
  refine aw_region ?_
  refine ao_r (r_move rfl) rfl ?_
  refine ao_r (r_load_part (τ := ty1) (y := ((r14.2.1.1, (r14.2.1.2.1, ())) : dy5)) [] [] rfl Try.isAgg26 Try.sizeOf26 rfl rfl rfl rfl) rfl ?_
  refine ao_r (r_move rfl) rfl ?_
  refine ao_r (r_move rfl) rfl ?_
  obtain ⟨r589, r589h, h⟩ := is_bind h
  refine ao_scall trivial (scall (c_impl_ValueOf (is_mk r589h)) rfl Try.func6 rfl rfl rfl rfl (fun σ => ⟨ad_os0 rfl, ad_ren rfl, ad_ren rfl, ad_ren rfl, trivial⟩)) rfl ?_
  refine ao_r (r_move rfl) rfl ?_
  refine ao_r (r_extract rfl rfl) rfl ?_
  refine ao_r (r_extract rfl rfl) rfl ?_
  refine ao_eff trivial (e_alloc 11 (y := .v (.arr 2 ty8) ((List.replicate 2 0) : dy9)) Try.zeroValue29 (fun ρ h M => ra_zero_arr (t := ty8) rfl) rfl rfl rfl rfl rfl) rfl ?_
  refine ao_effS trivial (e_store rfl rfl rfl rfl Try.sizeOf29 rfl) ?_
  refine ao_r (r_assign rfl) rfl ?_
  refine ao_nil ?_
  refine aq_then ?_
  refine aw_seq ?_
  refine aw_region ?_
  refine ao_r (r_move rfl) rfl ?_
  refine ao_r (r_load_part (τ := ty1) (y := ((r14.2.1.1, (r14.2.1.2.1, ())) : dy5)) [] [] rfl Try.isAgg26 Try.sizeOf26 rfl rfl rfl rfl) rfl ?_
  refine ao_r (r_move rfl) rfl ?_
  refine ao_r (r_move rfl) rfl ?_
  obtain ⟨r590, r590h, h⟩ := is_bind h
  refine ao_call [] 12 trivial (c_impl_BestSets (is_mk r590h)) Try.func8 rfl rfl rfl rfl ⟨ad_os0 rfl, ad_ren rfl, ad_ren rfl, ad_ren rfl, trivial⟩ trivial rfl rfl rfl rfl rfl rfl rfl (fun r' H' hr => ?_)
  obtain ⟨rfl, rfl⟩ := hr
  refine ao_norm (y := .tup [.os 12, .bool r590.2]) (H' := [(11, .var [.arr ty8 2 r589.1]), (10, .var [.arr ty8 2 r17.1]), (9, .var [.arr ty8 2 r16.1]), (8, .var [ci r14.2.1.1, ci r14.2.1.2.1]), (3, .var [.arr ty8 2 r5.1]), (2, .var [.arr ty8 2 r4.1]), (1, .var [ci r2.2.1.1, ci r2.2.1.2.1]), (0, .row ty4 r2.1), (4, .row ty8 r6.1), (5, .row ty8 r8.1), (6, .row (.int .u8) r12), (7, .row ty4 r14.1), (12, .row ty8 r590.1)]) rfl rfl ?_
  refine row_len_o 12 (r590.1.length : Int) rfl rfl (fun hr591 => ?_)
  refine ao_r (r_move rfl) rfl ?_
  refine ao_r (r_extract rfl rfl) rfl ?_
  refine ao_r (r_extract rfl rfl) rfl ?_
  refine ao_r (r_assign rfl) rfl ?_
  refine ao_r (r_assign rfl) rfl ?_
  refine ao_nil ?_
  refine aq_then ?_
  refine aw_seq ?_
  refine aw_drawAll (by kernel_rfl) ?_
  refine an_r 0 (fun _ _ _ h => h) rfl (by kernel_rfl) (r_move rfl) rfl ?_
  refine an_r 1 (fun _ _ _ h => h) rfl (by kernel_rfl) (r_not rfl) rfl ?_
  refine an_r 2 (fun _ _ _ h => h) rfl (by kernel_rfl) (r_move rfl) rfl ?_
  refine an_readG 3 (x := .bool r590.2) (by kernel_rfl) (fun _ _ _ h => h) rfl (by kernel_rfl) rfl (GV.F rfl) (fun hg592 => r_move rfl) rfl ?_
  refine an_readG 4 (x := .bool (!r590.2)) (by kernel_rfl) (fun _ _ _ h => h) rfl (by kernel_rfl) rfl (GV.F rfl) (fun hg593 => Reads.strip 202 rfl (hg593) (r_not rfl)) rfl ?_
  refine an_r 5 (fun _ _ _ h => h) rfl (by kernel_rfl) (r_orB rfl rfl) rfl ?_
  refine an_r 6 (fun _ _ _ h => h) rfl (by kernel_rfl) (r_move rfl) rfl ?_
  refine an_readG 7 (x := .v (.arr 2 ty8) r589.1) (by kernel_rfl) (fun _ _ _ h => h) rfl (by kernel_rfl) rfl (GV.F rfl) (fun hg594 => by
        obtain ⟨q595, q596⟩ := or_f (not_t hg594)
        exact r_load_arr rfl Try.isAgg29 Try.sizeOf29 rfl rfl rfl) rfl ?_
  refine an_readG 8 (x := .v (.arr 2 ty8) r16.1) (by kernel_rfl) (fun _ _ _ h => h) rfl (by kernel_rfl) rfl (GV.F rfl) (fun hg597 => by
        obtain ⟨q598, q599⟩ := or_f (not_t hg597)
        exact r_load_arr rfl Try.isAgg29 Try.sizeOf29 rfl rfl rfl) rfl ?_
  refine an_scallG 9 (x := .bool (p_laws_vLess r589.1 r16.1)) (by kernel_rfl) (fun _ _ _ h => h) rfl (by kernel_rfl) rfl (GV.F rfl) (fun hg600 => by
        obtain ⟨q601, q602⟩ := or_f (not_t hg600)
        exact SCall.strip 206 rfl (hg600) (SCall.strip 207 rfl (hg600) (scall (c_laws_vLess (is_mk (rfl : p_laws_vLess r589.1 r16.1 = _))) rfl Try.func19 rfl rfl rfl rfl (fun σ => ⟨ad_ren rfl, ad_ren rfl, trivial⟩)))) rfl ?_
  refine an_r 10 (fun _ _ _ h => h) rfl (by kernel_rfl) (r_orB rfl rfl) rfl ?_
  refine an_r 11 (fun _ _ _ h => h) rfl (by kernel_rfl) (r_move rfl) rfl ?_
  refine an_readG 12 (x := .v (.arr 2 ty8) r16.1) (by kernel_rfl) (fun _ _ _ h => h) rfl (by kernel_rfl) rfl (GV.F rfl) (fun hg603 => by
        obtain ⟨q604, q605⟩ := or_f (not_t hg603)
        obtain ⟨q606, q607⟩ := or_f q604
        exact r_load_arr rfl Try.isAgg29 Try.sizeOf29 rfl rfl rfl) rfl ?_
  refine an_readG 13 (x := .v (.arr 2 ty8) r589.1) (by kernel_rfl) (fun _ _ _ h => h) rfl (by kernel_rfl) rfl (GV.F rfl) (fun hg608 => by
        obtain ⟨q609, q610⟩ := or_f (not_t hg608)
        obtain ⟨q611, q612⟩ := or_f q609
        exact r_load_arr rfl Try.isAgg29 Try.sizeOf29 rfl rfl rfl) rfl ?_
  refine an_readG 14 (x := .bool (decide (r16.1 = r589.1))) (by kernel_rfl) (fun _ _ _ h => h) rfl (by kernel_rfl) rfl (GV.F rfl) (fun hg613 => by
        obtain ⟨q614, q615⟩ := or_f (not_t hg613)
        obtain ⟨q616, q617⟩ := or_f q614
        exact Reads.strip 211 rfl (hg613) (Reads.strip 212 rfl (hg613) (r_eq_ints Try.underlying29 Try.underlying3 Try.isAgg3 (info_size Try.sizeOf3) (by kernel_rfl) rfl rfl rfl))) rfl ?_
  refine an_readG 15 (x := .os 12) (by kernel_rfl) (fun _ _ _ h => h) rfl (by kernel_rfl) rfl (GV.F rfl) (fun hg618 => by
        obtain ⟨q619, q620⟩ := or_f (not_t hg618)
        obtain ⟨q621, q622⟩ := or_f q619
        exact r_move rfl) rfl ?_
  refine an_readG 16 (x := .int .i64 r14.2.2.2.1) (by kernel_rfl) (fun _ _ _ h => h) rfl (by kernel_rfl) rfl (GV.F rfl) (fun hg623 => by
        obtain ⟨q624, q625⟩ := or_f (not_t hg623)
        obtain ⟨q626, q627⟩ := or_f q624
        exact r_move rfl) rfl ?_
  refine an_scallG 17 (x := .bool (p_laws_vHas r590.1 r14.2.2.2.1)) (by kernel_rfl) (fun _ _ _ h => h) rfl (by kernel_rfl) rfl (GV.F rfl) (fun hg628 => by
        obtain ⟨q629, q630⟩ := or_f (not_t hg628)
        obtain ⟨q631, q632⟩ := or_f q629
        exact SCall.strip 214 rfl (hg628) (SCall.strip 215 rfl (hg628) (scall (c_laws_vHas (is_mk (rfl : p_laws_vHas r590.1 r14.2.2.2.1 = _))) rfl Try.func20 rfl rfl rfl rfl (fun σ => ⟨ad_os0 rfl, ad_ren rfl, trivial⟩)))) rfl ?_
  refine an_readG 18 (x := .bool ((decide (r16.1 = r589.1)) != (p_laws_vHas r590.1 r14.2.2.2.1))) (by kernel_rfl) (fun _ _ _ h => h) rfl (by kernel_rfl) rfl (GV.F rfl) (fun hg633 => by
        obtain ⟨q634, q635⟩ := or_f (not_t hg633)
        obtain ⟨q636, q637⟩ := or_f q634
        exact Reads.strip 213 rfl (hg633) (Reads.strip 216 rfl (hg633) (r_neq_bool Try.underlying4 rfl rfl))) rfl ?_
  refine an_r 19 (fun _ _ _ h => h) rfl (by kernel_rfl) (r_orB rfl rfl) rfl ?_
  refine an_done rfl ?_
  refine aq_then ?_
  refine aw_cond rfl (fun hb638 => ?_) (fun hb638 => ?_)
  replace h := is_if hb638 h
  refine aw_seq ?_
  refine aw_region ?_
  refine ao_r (r_assign rfl) rfl ?_
  refine ao_nil ?_
  refine aq_then ?_
  refine aw_ret ?_
  refine aq_then_ret ?_
  refine aq_ret ?_
  obtain rfl := is_some h
  exact aq_finx (l := [.tmp 2]) (xs := [.bool false]) idn [.bool false] [] rfl (by exact ⟨rfl, trivial⟩) (by exact ⟨ad_ren rfl, trivial⟩) (by exact trivial) rfl (nk rfl) rfl rfl ⟨rfl, rfl⟩
  obtain ⟨q639, q640⟩ := or_f hb638
  obtain ⟨q641, q642⟩ := or_f q639
  obtain ⟨q643, q644⟩ := or_f q641
  replace h := is_else (ne_t hb638) h
  refine aw_skip ?_
  exact aq_then (AW.sub (sub_r1 (rn [(3, 4)]) (nk rfl) (by kernel_rfl)) (j445 () trivial h))
  replace h := is_else (ne_t hb588) h
  refine aw_skip ?_
  exact aq_then (AW.sub (sub_r1 (rn [(3, 4)]) (nk rfl) (by kernel_rfl)) (j445 () trivial h))
end Go.GA
