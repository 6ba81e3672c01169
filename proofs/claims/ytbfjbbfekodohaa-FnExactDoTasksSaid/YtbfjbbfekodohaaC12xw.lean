/- Walks: what the Go functions compute, by the printed lines below; no further conditions. -/
import Derived.Test.YtbfjbbfekodohaaC12xd
import Derived.Test.YtbfjbbfekodohaaProg
namespace Go.GA
open Go Go.Proofs
set_option maxRecDepth 100000
set_option maxHeartbeats 2000000
set_option linter.unusedVariables false
set_option linter.unusedSimpArgs false
theorem c_laws_szIntA6S {x0 : (List (List Int))} {x1 : Int} {r : Int} (h : Is (p_laws_szIntA6S x0 x1) r) :
    Scalar Try.prog 33 [.v (.slice (.arr 6 (.int .i64))) x0, .int .i64 x1] (.int .i64 r) := by
  unfold p_laws_szIntA6S at h
  refine ac_enter ⟨12, 0⟩ Try.func33 rfl rfl rfl rfl rfl (fun Γ => ?_)
  refine sl_len_m 0 (x0.length : Int) rfl rfl (fun hl0 => ?_)
  refine aw_seq ?_
  refine aw_region ?_
  refine ao_read trivial (r_assign rfl) rfl ?_
  refine ao_nil ?_
  refine aq_then ?_
  refine aw_seq ?_
  refine aw_region ?_
  refine ao_read trivial (r_move rfl) rfl ?_
  refine ao_read trivial (r_move rfl) rfl ?_
  refine ao_read trivial (r_len_vm (x0.length : Int) Try.underlying22 rfl rfl) rfl ?_
  refine ao_read trivial (r_sub rfl rfl) rfl ?_
  refine ao_read trivial (r_assign rfl) rfl ?_
  refine ao_nil ?_
  refine aq_then ?_
  refine aw_seq ?_
  refine aw_seq ?_
  refine aw_region ?_
  refine ao_read trivial (r_move rfl) rfl ?_
  refine ao_read trivial (r_lss rfl rfl) rfl ?_
  refine ao_nil ?_
  refine aq_then ?_
  refine aw_cond rfl (fun hb1 => ?_) (fun hb1 => ?_)
  · have q2 := d_t hb1
    replace h := is_if (d_t hb1) h
    refine aw_seq ?_
    refine aw_region ?_
    refine ao_read trivial (r_assign rfl) rfl ?_
    refine ao_nil ?_
    refine aq_then ?_
    refine aw_ret ?_
    refine aq_then_ret ?_
    refine aq_ret ?_
    obtain rfl := is_eq h
    exact aq_finx (l := [.tmp 4]) (xs := [.int .i64 (-1)]) idn [.int .i64 (-1)] [] rfl (by exact ⟨rfl, trivial⟩) (by exact ⟨ad_ren rfl, trivial⟩) (by exact trivial) rfl (nk rfl) rfl rfl ⟨rfl, rfl⟩
  · have q3 := d_f hb1
    replace h := is_else (d_f hb1) h
    refine aw_skip ?_
    refine aq_then ?_
    refine aw_seq ?_
    refine aw_region ?_
    refine ao_read trivial (r_move rfl) rfl ?_
    refine ao_read trivial (r_assign rfl) rfl ?_
    refine ao_nil ?_
    refine aq_then ?_
    refine aw_ret ?_
    refine aq_ret ?_
    obtain rfl := is_eq h
    exact aq_finx (l := [.tmp 4]) (xs := [.int .i64 (IntKind.wrap .i64 (x1 - (x0.length : Int)))]) idn [.int .i64 (IntKind.wrap .i64 (x1 - (x0.length : Int)))] [] rfl (by exact ⟨rfl, trivial⟩) (by exact ⟨ad_ren rfl, trivial⟩) (by exact trivial) rfl (nk rfl) rfl rfl ⟨rfl, rfl⟩
theorem c_laws_szIntS {x0 : (List Int)} {x1 : Int} {r : Int} (h : Is (p_laws_szIntS x0 x1) r) :
    Scalar Try.prog 34 [.v (.slice (.int .i64)) x0, .int .i64 x1] (.int .i64 r) := by
  unfold p_laws_szIntS at h
  refine ac_enter ⟨12, 0⟩ Try.func34 rfl rfl rfl rfl rfl (fun Γ => ?_)
  refine sl_len_m 0 (x0.length : Int) rfl rfl (fun hl0 => ?_)
  refine aw_seq ?_
  refine aw_region ?_
  refine ao_read trivial (r_assign rfl) rfl ?_
  refine ao_nil ?_
  refine aq_then ?_
  refine aw_seq ?_
  refine aw_region ?_
  refine ao_read trivial (r_move rfl) rfl ?_
  refine ao_read trivial (r_move rfl) rfl ?_
  refine ao_read trivial (r_len_vm (x0.length : Int) Try.underlying23 rfl rfl) rfl ?_
  refine ao_read trivial (r_sub rfl rfl) rfl ?_
  refine ao_read trivial (r_assign rfl) rfl ?_
  refine ao_nil ?_
  refine aq_then ?_
  refine aw_seq ?_
  refine aw_seq ?_
  refine aw_region ?_
  refine ao_read trivial (r_move rfl) rfl ?_
  refine ao_read trivial (r_lss rfl rfl) rfl ?_
  refine ao_nil ?_
  refine aq_then ?_
  refine aw_cond rfl (fun hb1 => ?_) (fun hb1 => ?_)
  · have q2 := d_t hb1
    replace h := is_if (d_t hb1) h
    refine aw_seq ?_
    refine aw_region ?_
    refine ao_read trivial (r_assign rfl) rfl ?_
    refine ao_nil ?_
    refine aq_then ?_
    refine aw_ret ?_
    refine aq_then_ret ?_
    refine aq_ret ?_
    obtain rfl := is_eq h
    exact aq_finx (l := [.tmp 4]) (xs := [.int .i64 (-1)]) idn [.int .i64 (-1)] [] rfl (by exact ⟨rfl, trivial⟩) (by exact ⟨ad_ren rfl, trivial⟩) (by exact trivial) rfl (nk rfl) rfl rfl ⟨rfl, rfl⟩
  · have q3 := d_f hb1
    replace h := is_else (d_f hb1) h
    refine aw_skip ?_
    refine aq_then ?_
    refine aw_seq ?_
    refine aw_region ?_
    refine ao_read trivial (r_move rfl) rfl ?_
    refine ao_read trivial (r_assign rfl) rfl ?_
    refine ao_nil ?_
    refine aq_then ?_
    refine aw_ret ?_
    refine aq_ret ?_
    obtain rfl := is_eq h
    exact aq_finx (l := [.tmp 4]) (xs := [.int .i64 (IntKind.wrap .i64 (x1 - (x0.length : Int)))]) idn [.int .i64 (IntKind.wrap .i64 (x1 - (x0.length : Int)))] [] rfl (by exact ⟨rfl, trivial⟩) (by exact ⟨ad_ren rfl, trivial⟩) (by exact trivial) rfl (nk rfl) rfl rfl ⟨rfl, rfl⟩
theorem c_laws_szTavern {x0 : ((List (List Int)) × (Int × ((List Int) × (Int × (Int × (Int × Unit))))))} {x1 : Int} {r : Int} (h : Is (p_laws_szTavern x0 x1) r) :
    Scalar Try.prog 6 [.v (.pair (.slice (.arr 6 (.int .i64))) (.pair (.int .i64) (.pair (.slice (.int .i64)) (.pair (.int .i64) (.pair (.int .i64) (.pair (.int .i64) .unit)))))) x0, .int .i64 x1] (.int .i64 r) := by
  unfold p_laws_szTavern at h
  refine ac_enter ⟨18, 0⟩ Try.func6 rfl rfl rfl rfl rfl (fun Γ => ?_)
  refine aw_seq ?_
  refine aw_region ?_
  refine ao_eff trivial (e_box 0 rfl rfl rfl rfl rfl rfl) rfl ?_
  refine ao_read trivial (r_assign rfl) rfl ?_
  refine ao_nil ?_
  refine aq_then ?_
  refine aw_seq ?_
  refine aw_region ?_
  refine ao_read trivial (r_fieldAddr Try.underlying25 rfl Try.sizeOf22 rfl rfl rfl) rfl ?_
  refine ao_read trivial (r_load_cell Try.isAgg22 rfl rfl rfl) rfl ?_
  refine ao_read trivial (r_move rfl) rfl ?_
  refine ao_scall trivial (scall (c_laws_szIntA6S (is_mk (rfl : p_laws_szIntA6S x0.1 x1 = _))) rfl Try.func33 rfl rfl rfl rfl (fun σ => ⟨ad_ren rfl, ad_ren rfl, trivial⟩)) rfl ?_
  refine ao_read trivial (r_assign rfl) rfl ?_
  refine ao_nil ?_
  refine aq_then ?_
  refine aw_seq ?_
  refine aw_seq ?_
  refine aw_region ?_
  refine ao_read trivial (r_move rfl) rfl ?_
  refine ao_read trivial (r_lss rfl rfl) rfl ?_
  refine ao_nil ?_
  refine aq_then ?_
  refine aw_cond rfl (fun hb1 => ?_) (fun hb1 => ?_)
  · have q2 := d_t hb1
    replace h := is_if (d_t hb1) h
    refine aw_seq ?_
    refine aw_region ?_
    refine ao_read trivial (r_assign rfl) rfl ?_
    refine ao_nil ?_
    refine aq_then ?_
    refine aw_ret ?_
    refine aq_then_ret ?_
    refine aq_ret ?_
    obtain rfl := is_eq h
    exact aq_finx (l := [.tmp 4]) (xs := [.int .i64 (-1)]) idn [.int .i64 (-1)] [] rfl (by exact ⟨rfl, trivial⟩) (by exact ⟨ad_ren rfl, trivial⟩) (by exact trivial) rfl (nk rfl) rfl rfl ⟨rfl, rfl⟩
  · have q3 := d_f hb1
    replace h := is_else (d_f hb1) h
    refine aw_skip ?_
    refine aq_then ?_
    refine aw_seq ?_
    refine aw_region ?_
    refine ao_read trivial (r_fieldAddr Try.underlying25 rfl Try.sizeOf23 rfl rfl rfl) rfl ?_
    refine ao_read trivial (r_load_cell Try.isAgg23 rfl rfl rfl) rfl ?_
    refine ao_read trivial (r_move rfl) rfl ?_
    refine ao_scall trivial (scall (c_laws_szIntS (is_mk (rfl : p_laws_szIntS x0.2.2.1 (p_laws_szIntA6S x0.1 x1) = _))) rfl Try.func34 rfl rfl rfl rfl (fun σ => ⟨ad_ren rfl, ad_ren rfl, trivial⟩)) rfl ?_
    refine ao_read trivial (r_assign rfl) rfl ?_
    refine ao_nil ?_
    refine aq_then ?_
    refine aw_seq ?_
    refine aw_seq ?_
    refine aw_region ?_
    refine ao_read trivial (r_move rfl) rfl ?_
    refine ao_read trivial (r_lss rfl rfl) rfl ?_
    refine ao_nil ?_
    refine aq_then ?_
    refine aw_cond rfl (fun hb4 => ?_) (fun hb4 => ?_)
    · have q5 := d_t hb4
      replace h := is_if (d_t hb4) h
      refine aw_seq ?_
      refine aw_region ?_
      refine ao_read trivial (r_assign rfl) rfl ?_
      refine ao_nil ?_
      refine aq_then ?_
      refine aw_ret ?_
      refine aq_then_ret ?_
      refine aq_ret ?_
      obtain rfl := is_eq h
      exact aq_finx (l := [.tmp 4]) (xs := [.int .i64 (-1)]) idn [.int .i64 (-1)] [] rfl (by exact ⟨rfl, trivial⟩) (by exact ⟨ad_ren rfl, trivial⟩) (by exact trivial) rfl (nk rfl) rfl rfl ⟨rfl, rfl⟩
    · have q6 := d_f hb4
      replace h := is_else (d_f hb4) h
      refine aw_skip ?_
      refine aq_then ?_
      refine aw_seq ?_
      refine aw_region ?_
      refine ao_read trivial (r_move rfl) rfl ?_
      refine ao_read trivial (r_assign rfl) rfl ?_
      refine ao_nil ?_
      refine aq_then ?_
      refine aw_ret ?_
      refine aq_ret ?_
      obtain rfl := is_eq h
      exact aq_finx (l := [.tmp 4]) (xs := [.int .i64 (p_laws_szIntS x0.2.2.1 (p_laws_szIntA6S x0.1 x1))]) idn [.int .i64 (p_laws_szIntS x0.2.2.1 (p_laws_szIntA6S x0.1 x1))] [] rfl (by exact ⟨rfl, trivial⟩) (by exact ⟨ad_ren rfl, trivial⟩) (by exact trivial) rfl (nk rfl) rfl rfl ⟨rfl, rfl⟩
theorem c_laws_toIntA6 {x0 : (List Int)} {r : (List Int)} (h : Is (p_laws_toIntA6 x0) r) :
    Scalar Try.prog 65 [.v (.arr 6 (.int .i64)) x0] (.v (.arr 6 (.int .i64)) r) := by
  unfold p_laws_toIntA6 at h
  refine ac_enter ⟨15, 0⟩ Try.func65 rfl rfl rfl rfl rfl (fun Γ => ?_)
  refine aw_seq ?_
  refine aw_region ?_
  refine ao_eff trivial (e_box 0 rfl rfl rfl rfl rfl rfl) rfl ?_
  refine ao_eff trivial (e_alloc 1 (y := .v (.arr 6 (.int .i64)) ((List.replicate 6 0) : (List Int))) Try.zeroValue76 (fun ρ h M => ra_zero_arr (t := (.int .i64)) rfl) rfl rfl rfl rfl rfl) rfl ?_
  refine ao_nil ?_
  refine aq_then ?_
  refine aw_seq ?_
  refine aw_region ?_
  refine ao_eff trivial (e_alloc 2 (y := .v (.arr 6 (.int .i64)) ((List.replicate 6 0) : (List Int))) Try.zeroValue76 (fun ρ h M => ra_zero_arr (t := (.int .i64)) rfl) rfl rfl rfl rfl rfl) rfl ?_
  refine ao_nil ?_
  refine aq_then ?_
  refine aw_seq ?_
  refine aw_seq ?_
  refine aw_region ?_
  refine ao_read trivial (r_assign rfl) rfl ?_
  refine ao_nil ?_
  refine aq_then ?_
  refine aw_block ?_
  refine aw_loop (AL.sub (fr' := [(1, .ref 0 0), (2, .ref 1 0), (3, .ref 2 0), (4, .int .i64 0)]) (H' := [(0, .var [.arr (.int .i64) 6 x0]), (1, .var [.arr (.int .i64) 6 ((List.replicate 6 0) : (List Int))]), (2, .var [.arr (.int .i64) 6 ((List.replicate 6 0) : (List Int))])]) (sub_r1 idn (nk rfl) (by kernel_rfl)) (al_cnt (fun i2 (s1 : (List Int)) => [(1, .ref 0 0), (2, .ref 1 0), (3, .ref 2 0), (4, .int .i64 i2)]) (fun i2 (s1 : (List Int)) => [(0, .var [.arr (.int .i64) 6 x0]), (1, .var [.arr (.int .i64) 6 ((List.replicate 6 0) : (List Int))]), (2, .var [.arr (.int .i64) 6 s1])]) (fun d i2 (s1 : (List Int)) => d = Int.toNat (6 - i2) ∧ 0 ≤ i2 ∧ (s1.length : Int) = 6 ∧ i2 ≤ 6) h ⟨rfl, (by (try simp only [List.length_set, List.length_append, List.length_cons, List.length_nil, List.length_replicate, List.length_take, List.length_drop]) <;> omega), (by (try simp only [List.length_set, List.length_append, List.length_cons, List.length_nil, List.length_replicate, List.length_take, List.length_drop]) <;> omega), (by (try simp only [List.length_set, List.length_append, List.length_cons, List.length_nil, List.length_replicate, List.length_take, List.length_drop]) <;> omega)⟩ (fun d3 i2 s1 hI h ih3 => ?_)))
  obtain ⟨hd, _, _, _⟩ := hI
  refine al_round ?_
  refine aw_seq ?_
  refine aw_seq ?_
  refine aw_region ?_
  refine ao_read trivial (r_move rfl) rfl ?_
  refine ao_read trivial (r_lss rfl rfl) rfl ?_
  refine ao_nil ?_
  refine aq_then ?_
  refine aw_cond rfl (fun hb5 => ?_) (fun hb5 => ?_)
  · have q6 := d_t hb5
    obtain ⟨d3, rfl⟩ : ∃ e, d3 = e + 1 := ⟨d3 - 1, by omega⟩
    replace h := is_cntS h
    refine aw_skip ?_
    refine aq_then ?_
    refine aw_seq ?_
    refine aw_block ?_
    refine aw_region ?_
    refine ao_read trivial (r_move rfl) rfl ?_
    refine ao_read trivial (r_move rfl) rfl ?_
    refine ao_read trivial (r_idxAddr_arr (i := i2) Try.underlying76 Try.sizeOf3 rfl rfl (show 0 ≤ i2 from by omega) (show i2 < (6 : Int) from by omega)) rfl ?_
    refine ao_read trivial (r_load_elema_int Try.isAgg3 Try.sizeOf3 rfl rfl rfl (show i2.toNat < 6 from by omega)) rfl ?_
    refine ao_read trivial (r_idxAddr_arr (i := i2) Try.underlying76 Try.sizeOf3 rfl rfl (show 0 ≤ i2 from by omega) (show i2 < (6 : Int) from by omega)) rfl ?_
    refine ao_effS trivial (e_store_elema_int Try.sizeOf3 rfl rfl rfl rfl (show i2.toNat < 6 from by omega) rfl) ?_
    refine ao_nil ?_
    refine aq_in ?_
    refine aq_then ?_
    refine aw_region ?_
    refine ao_read trivial (r_move rfl) rfl ?_
    refine ao_read trivial (r_addI rfl rfl (wrap_id (by omega) (by omega))) rfl ?_
    refine ao_read trivial (r_assign rfl) rfl ?_
    refine ao_nil ?_
    exact aq_again (AL.sub (sub_r1 idn (nk rfl) (by kernel_rfl)) (ih3 d3 (i2 + 1) (s1.set i2.toNat (x0.getD i2.toNat 0)) (by omega) ⟨by omega, (by (try simp only [List.length_set, List.length_append, List.length_cons, List.length_nil, List.length_replicate, List.length_take, List.length_drop]) <;> omega), (by (try simp only [List.length_set, List.length_append, List.length_cons, List.length_nil, List.length_replicate, List.length_take, List.length_drop]) <;> omega), (by (try simp only [List.length_set, List.length_append, List.length_cons, List.length_nil, List.length_replicate, List.length_take, List.length_drop]) <;> omega)⟩ h))
  · have q7 := d_f hb5
    obtain rfl : d3 = 0 := by omega
    replace h := is_cnt0 h
    refine aw_exit ?_
    refine aq_then_exit ?_
    refine aq_then_exit ?_
    refine aq_in_exit ?_
    refine aq_then ?_
    refine aw_seq ?_
    refine aw_region ?_
    refine ao_read trivial (r_load_arr rfl Try.isAgg76 Try.sizeOf76 rfl rfl rfl) rfl ?_
    refine ao_effS trivial (e_store rfl rfl rfl rfl Try.sizeOf76 rfl) ?_
    refine ao_nil ?_
    refine aq_then ?_
    refine aw_ret ?_
    refine aq_ret ?_
    obtain rfl := is_eq h
    exact aq_finx (l := [.cell 2 76]) (xs := [.v (.arr 6 (.int .i64)) s1]) idn [.v (.arr 6 (.int .i64)) s1] [] rfl (by exact ⟨⟨⟨_, _, rfl⟩, r_load_arr rfl Try.isAgg76 Try.sizeOf76 rfl rfl rfl⟩, trivial⟩) (by exact ⟨ad_ren rfl, trivial⟩) (by exact trivial) rfl (nk rfl) rfl rfl ⟨rfl, rfl⟩
theorem c_laws_toIntA6S {x0 : (List (List Int))} {r : (List (List Int))} (h : Is (p_laws_toIntA6S x0) (some r)) :
    ACalls Try.prog 37 [.v (.slice (.arr 6 (.int .i64))) x0] [] (fun r' H' => r' = .os 0 ∧ H' = [(0, .row (.arr 6 (.int .i64)) r)]) := by
  unfold p_laws_toIntA6S at h
  refine ac_enter ⟨23, 0⟩ Try.func37 rfl rfl rfl rfl rfl (fun Γ => ?_)
  refine sl_len_m 0 (x0.length : Int) rfl rfl (fun hl0 => ?_)
  refine aw_seq ?_
  refine aw_region ?_
  refine ao_read trivial (r_assign rfl) rfl ?_
  refine ao_nil ?_
  refine aq_then ?_
  refine aw_seq ?_
  refine aw_region ?_
  refine ao_read trivial (r_move rfl) rfl ?_
  refine ao_read trivial (r_len_vm (x0.length : Int) Try.underlying22 rfl rfl) rfl ?_
  obtain ⟨g1, h⟩ := is_guard h
  refine ao_eff trivial (e_makeSlice 0 (t := (.arr 6 (.int .i64))) Try.underlying22 (rfl : Try.prog.info? 76 = some _) rfl rfl rfl rfl rfl rfl (by omega) (by omega) rfl rfl) rfl ?_
  refine ao_read trivial (r_assign rfl) rfl ?_
  refine ao_nil ?_
  refine aq_then ?_
  refine aw_seq ?_
  refine aw_seq ?_
  refine aw_region ?_
  refine ao_read trivial (r_assign rfl) rfl ?_
  refine ao_nil ?_
  refine aq_then ?_
  refine aw_block ?_
  refine aw_loop (AL.sub (fr' := [(0, .v (.slice (.arr 6 (.int .i64))) x0), (3, .os 0), (4, .int .i64 0)]) (H' := [(0, .row (.arr 6 (.int .i64)) ((List.replicate (x0.length : Int).toNat (List.replicate 6 0)) : (List (List Int))))]) (sub_r1 idn (nk rfl) (by kernel_rfl)) (al_cnt (fun i3 (s2 : (List (List Int))) => [(0, .v (.slice (.arr 6 (.int .i64))) x0), (3, .os 0), (4, .int .i64 i3)]) (fun i3 (s2 : (List (List Int))) => [(0, .row (.arr 6 (.int .i64)) s2)]) (fun d i3 (s2 : (List (List Int))) => d = Int.toNat ((x0.length : Int) - i3) ∧ 0 ≤ i3 ∧ (s2.length : Int) = (x0.length : Int) ∧ i3 ≤ (x0.length : Int)) h ⟨rfl, (by (try simp only [List.length_set, List.length_append, List.length_cons, List.length_nil, List.length_replicate, List.length_take, List.length_drop]) <;> omega), (by (try simp only [List.length_set, List.length_append, List.length_cons, List.length_nil, List.length_replicate, List.length_take, List.length_drop]) <;> omega), (by (try simp only [List.length_set, List.length_append, List.length_cons, List.length_nil, List.length_replicate, List.length_take, List.length_drop]) <;> omega)⟩ (fun d4 i3 s2 hI h ih4 => ?_)))
  obtain ⟨hd, _, _, _⟩ := hI
  refine al_round ?_
  refine aw_seq ?_
  refine aw_seq ?_
  refine aw_region ?_
  refine ao_read trivial (r_move rfl) rfl ?_
  refine ao_read trivial (r_move rfl) rfl ?_
  refine ao_read trivial (r_len_vm (x0.length : Int) Try.underlying22 rfl rfl) rfl ?_
  refine ao_read trivial (r_lss rfl rfl) rfl ?_
  refine ao_nil ?_
  refine aq_then ?_
  refine aw_cond rfl (fun hb6 => ?_) (fun hb6 => ?_)
  · have q7 := d_t hb6
    obtain ⟨d4, rfl⟩ : ∃ e, d4 = e + 1 := ⟨d4 - 1, by omega⟩
    replace h := is_cntS h
    refine aw_skip ?_
    refine aq_then ?_
    refine aw_seq ?_
    refine aw_block ?_
    refine aw_region ?_
    refine ao_read trivial (r_move rfl) rfl ?_
    refine ao_read trivial (r_move rfl) rfl ?_
    refine ao_read trivial (r_move rfl) rfl ?_
    refine ao_read trivial (r_move rfl) rfl ?_
    refine ao_read trivial (r_idxAddr (t := (.arr 6 (.int .i64))) Try.underlying22 Try.sizeOf76 rfl rfl (show 0 ≤ i3 from by omega) (show i3 < (x0.length : Int) from by omega)) rfl ?_
    refine ao_read trivial (r_load_c (t := (.arr 6 (.int .i64))) Try.isAgg76 Try.sizeOf76 rfl) rfl ?_
    refine ao_scall trivial (scall (c_laws_toIntA6 (is_mk (rfl : p_laws_toIntA6 (x0.getD i3.toNat (List.replicate 6 0)) = _))) rfl Try.func65 rfl rfl rfl rfl (fun σ => ⟨ad_ren rfl, trivial⟩)) rfl ?_
    refine ao_read trivial (r_idxAddr_os Try.underlying22 Try.sizeOf76 rfl rfl rfl (show 0 ≤ i3 from by omega) (show i3 < (s2.length : Int) from by omega)) rfl ?_
    refine ao_effS trivial (e_store_elem (t := (.arr 6 (.int .i64))) rfl Try.sizeOf76 rfl rfl rfl rfl (show i3.toNat < s2.length from by omega)) ?_
    refine ao_nil ?_
    refine aq_in ?_
    refine aq_then ?_
    refine aw_region ?_
    refine ao_read trivial (r_move rfl) rfl ?_
    refine ao_read trivial (r_addI rfl rfl (wrap_id (by omega) (by omega))) rfl ?_
    refine ao_read trivial (r_assign rfl) rfl ?_
    refine ao_nil ?_
    exact aq_again (AL.sub (sub_r1 idn (nk rfl) (by kernel_rfl)) (ih4 d4 (i3 + 1) (s2.set i3.toNat (p_laws_toIntA6 (x0.getD i3.toNat (List.replicate 6 0)))) (by omega) ⟨by omega, (by (try simp only [List.length_set, List.length_append, List.length_cons, List.length_nil, List.length_replicate, List.length_take, List.length_drop]) <;> omega), (by (try simp only [List.length_set, List.length_append, List.length_cons, List.length_nil, List.length_replicate, List.length_take, List.length_drop]) <;> omega), (by (try simp only [List.length_set, List.length_append, List.length_cons, List.length_nil, List.length_replicate, List.length_take, List.length_drop]) <;> omega)⟩ h))
  · have q8 := d_f hb6
    obtain rfl : d4 = 0 := by omega
    replace h := is_cnt0 h
    refine aw_exit ?_
    refine aq_then_exit ?_
    refine aq_then_exit ?_
    refine aq_in_exit ?_
    refine aq_then ?_
    refine aw_seq ?_
    refine aw_region ?_
    refine ao_read trivial (r_move rfl) rfl ?_
    refine ao_read trivial (r_assign rfl) rfl ?_
    refine ao_nil ?_
    refine aq_then ?_
    refine aw_ret ?_
    refine aq_ret ?_
    obtain rfl := is_some h
    exact aq_finx (l := [.tmp 2]) (xs := [.os 0]) idn [.os 0] [(0, .row (.arr 6 (.int .i64)) s2)] rfl (by exact ⟨rfl, trivial⟩) (by exact ⟨ad_ren rfl, trivial⟩) (by exact ⟨⟨_, rfl, rfl⟩, trivial⟩) rfl (nk rfl) rfl rfl ⟨rfl, rfl⟩
theorem c_laws_toIntS {x0 : (List Int)} {r : (List Int)} (h : Is (p_laws_toIntS x0) (some r)) :
    ACalls Try.prog 38 [.v (.slice (.int .i64)) x0] [] (fun r' H' => r' = .os 0 ∧ H' = [(0, .row (.int .i64) r)]) := by
  unfold p_laws_toIntS at h
  refine ac_enter ⟨22, 0⟩ Try.func38 rfl rfl rfl rfl rfl (fun Γ => ?_)
  refine sl_len_m 0 (x0.length : Int) rfl rfl (fun hl0 => ?_)
  refine aw_seq ?_
  refine aw_region ?_
  refine ao_read trivial (r_assign rfl) rfl ?_
  refine ao_nil ?_
  refine aq_then ?_
  refine aw_seq ?_
  refine aw_region ?_
  refine ao_read trivial (r_move rfl) rfl ?_
  refine ao_read trivial (r_len_vm (x0.length : Int) Try.underlying23 rfl rfl) rfl ?_
  obtain ⟨g1, h⟩ := is_guard h
  refine ao_eff trivial (e_makeSlice 0 (t := (.int .i64)) Try.underlying23 (rfl : Try.prog.info? 3 = some _) rfl rfl rfl rfl rfl rfl (by omega) (by omega) rfl rfl) rfl ?_
  refine ao_read trivial (r_assign rfl) rfl ?_
  refine ao_nil ?_
  refine aq_then ?_
  refine aw_seq ?_
  refine aw_seq ?_
  refine aw_region ?_
  refine ao_read trivial (r_assign rfl) rfl ?_
  refine ao_nil ?_
  refine aq_then ?_
  refine aw_block ?_
  refine aw_loop (AL.sub (fr' := [(0, .v (.slice (.int .i64)) x0), (3, .os 0), (4, .int .i64 0)]) (H' := [(0, .row (.int .i64) ((List.replicate (x0.length : Int).toNat 0) : (List Int)))]) (sub_r1 idn (nk rfl) (by kernel_rfl)) (al_cnt (fun i3 (s2 : (List Int)) => [(0, .v (.slice (.int .i64)) x0), (3, .os 0), (4, .int .i64 i3)]) (fun i3 (s2 : (List Int)) => [(0, .row (.int .i64) s2)]) (fun d i3 (s2 : (List Int)) => d = Int.toNat ((x0.length : Int) - i3) ∧ 0 ≤ i3 ∧ (s2.length : Int) = (x0.length : Int) ∧ i3 ≤ (x0.length : Int)) h ⟨rfl, (by (try simp only [List.length_set, List.length_append, List.length_cons, List.length_nil, List.length_replicate, List.length_take, List.length_drop]) <;> omega), (by (try simp only [List.length_set, List.length_append, List.length_cons, List.length_nil, List.length_replicate, List.length_take, List.length_drop]) <;> omega), (by (try simp only [List.length_set, List.length_append, List.length_cons, List.length_nil, List.length_replicate, List.length_take, List.length_drop]) <;> omega)⟩ (fun d4 i3 s2 hI h ih4 => ?_)))
  obtain ⟨hd, _, _, _⟩ := hI
  refine al_round ?_
  refine aw_seq ?_
  refine aw_seq ?_
  refine aw_region ?_
  refine ao_read trivial (r_move rfl) rfl ?_
  refine ao_read trivial (r_move rfl) rfl ?_
  refine ao_read trivial (r_len_vm (x0.length : Int) Try.underlying23 rfl rfl) rfl ?_
  refine ao_read trivial (r_lss rfl rfl) rfl ?_
  refine ao_nil ?_
  refine aq_then ?_
  refine aw_cond rfl (fun hb6 => ?_) (fun hb6 => ?_)
  · have q7 := d_t hb6
    obtain ⟨d4, rfl⟩ : ∃ e, d4 = e + 1 := ⟨d4 - 1, by omega⟩
    replace h := is_cntS h
    refine aw_skip ?_
    refine aq_then ?_
    refine aw_seq ?_
    refine aw_block ?_
    refine aw_region ?_
    refine ao_read trivial (r_move rfl) rfl ?_
    refine ao_read trivial (r_move rfl) rfl ?_
    refine ao_read trivial (r_move rfl) rfl ?_
    refine ao_read trivial (r_move rfl) rfl ?_
    refine ao_read trivial (r_idxAddr_int Try.underlying23 Try.sizeOf3 rfl rfl (show 0 ≤ i3 from by omega) (show i3 < (x0.length : Int) from by omega)) rfl ?_
    refine ao_read trivial (r_load_c_int Try.isAgg3 Try.sizeOf3 rfl) rfl ?_
    refine ao_read trivial (r_idxAddr_os Try.underlying23 Try.sizeOf3 rfl rfl rfl (show 0 ≤ i3 from by omega) (show i3 < (s2.length : Int) from by omega)) rfl ?_
    refine ao_effS trivial (e_store_elem_int Try.sizeOf3 rfl rfl rfl rfl (show i3.toNat < s2.length from by omega) rfl) ?_
    refine ao_nil ?_
    refine aq_in ?_
    refine aq_then ?_
    refine aw_region ?_
    refine ao_read trivial (r_move rfl) rfl ?_
    refine ao_read trivial (r_addI rfl rfl (wrap_id (by omega) (by omega))) rfl ?_
    refine ao_read trivial (r_assign rfl) rfl ?_
    refine ao_nil ?_
    exact aq_again (AL.sub (sub_r1 idn (nk rfl) (by kernel_rfl)) (ih4 d4 (i3 + 1) (s2.set i3.toNat (x0.getD i3.toNat 0)) (by omega) ⟨by omega, (by (try simp only [List.length_set, List.length_append, List.length_cons, List.length_nil, List.length_replicate, List.length_take, List.length_drop]) <;> omega), (by (try simp only [List.length_set, List.length_append, List.length_cons, List.length_nil, List.length_replicate, List.length_take, List.length_drop]) <;> omega), (by (try simp only [List.length_set, List.length_append, List.length_cons, List.length_nil, List.length_replicate, List.length_take, List.length_drop]) <;> omega)⟩ h))
  · have q8 := d_f hb6
    obtain rfl : d4 = 0 := by omega
    replace h := is_cnt0 h
    refine aw_exit ?_
    refine aq_then_exit ?_
    refine aq_then_exit ?_
    refine aq_in_exit ?_
    refine aq_then ?_
    refine aw_seq ?_
    refine aw_region ?_
    refine ao_read trivial (r_move rfl) rfl ?_
    refine ao_read trivial (r_assign rfl) rfl ?_
    refine ao_nil ?_
    refine aq_then ?_
    refine aw_ret ?_
    refine aq_ret ?_
    obtain rfl := is_some h
    exact aq_finx (l := [.tmp 2]) (xs := [.os 0]) idn [.os 0] [(0, .row (.int .i64) s2)] rfl (by exact ⟨rfl, trivial⟩) (by exact ⟨ad_ren rfl, trivial⟩) (by exact ⟨⟨_, rfl, rfl⟩, trivial⟩) rfl (nk rfl) rfl rfl ⟨rfl, rfl⟩
theorem c_laws_toTavern {x0 : ((List (List Int)) × (Int × ((List Int) × (Int × (Int × (Int × Unit))))))} {r : ((List (List Int)) × (Int × ((List Int) × (Int × (Int × (Int × Unit))))))} (h : Is (p_laws_toTavern x0) (some r)) :
    ACalls Try.prog 8 [.v (.pair (.slice (.arr 6 (.int .i64))) (.pair (.int .i64) (.pair (.slice (.int .i64)) (.pair (.int .i64) (.pair (.int .i64) (.pair (.int .i64) .unit)))))) x0] [] (fun r' H' => r' = .st [.os 0, .int .i64 r.2.1, .os 1, .int .i64 r.2.2.2.1, .int .i64 r.2.2.2.2.1, .int .i64 r.2.2.2.2.2.1] ∧ H' = [(0, .row (.arr 6 (.int .i64)) r.1), (1, .row (.int .i64) r.2.2.1)]) := by
  unfold p_laws_toTavern at h
  refine ac_enter ⟨25, 0⟩ Try.func8 rfl rfl rfl rfl rfl (fun Γ => ?_)
  refine aw_seq ?_
  refine aw_region ?_
  refine ao_eff trivial (e_box 0 rfl rfl rfl rfl rfl rfl) rfl ?_
  refine ao_eff trivial (e_alloc 1 (y := .st [.nilsl, .int .i64 0, .nilsl, .int .i64 0, .int .i64 0, .int .i64 0]) Try.zeroValue29 (fun ρ h M => ra_zero_st (t := (.pair (.slice (.arr 6 (.int .i64))) (.pair (.int .i64) (.pair (.slice (.int .i64)) (.pair (.int .i64) (.pair (.int .i64) (.pair (.int .i64) .unit))))))) rfl rfl rfl) rfl rfl rfl rfl rfl) rfl ?_
  refine ao_nil ?_
  refine aq_then ?_
  refine aw_seq ?_
  refine aw_region ?_
  refine ao_eff trivial (e_alloc 2 (y := .st [.nilsl, .int .i64 0, .nilsl, .int .i64 0, .int .i64 0, .int .i64 0]) Try.zeroValue29 (fun ρ h M => ra_zero_st (t := (.pair (.slice (.arr 6 (.int .i64))) (.pair (.int .i64) (.pair (.slice (.int .i64)) (.pair (.int .i64) (.pair (.int .i64) (.pair (.int .i64) .unit))))))) rfl rfl rfl) rfl rfl rfl rfl rfl) rfl ?_
  refine ao_nil ?_
  refine aq_then ?_
  refine aw_seq ?_
  refine aw_region ?_
  refine ao_read trivial (r_fieldAddr Try.underlying25 rfl Try.sizeOf22 rfl rfl rfl) rfl ?_
  refine ao_read trivial (r_load_cell Try.isAgg22 rfl rfl rfl) rfl ?_
  obtain ⟨r1, r1h, h⟩ := is_bind h
  refine ao_call [] 3 trivial (c_laws_toIntA6S (is_mk r1h)) Try.func37 rfl rfl rfl rfl ⟨ad_ren rfl, trivial⟩ trivial rfl rfl rfl rfl rfl rfl rfl (fun r' H' hr => ?_)
  obtain ⟨rfl, rfl⟩ := hr
  refine ao_norm (y := .os 3) (H' := [(2, .var [.cell (.nilsl), .cell (.int .i64 0), .cell (.nilsl), .cell (.int .i64 0), .cell (.int .i64 0), .cell (.int .i64 0)]), (1, .var [.cell (.nilsl), .cell (.int .i64 0), .cell (.nilsl), .cell (.int .i64 0), .cell (.int .i64 0), .cell (.int .i64 0)]), (0, .var [.cell (.v (.slice (.arr 6 (.int .i64))) x0.1), .cell (.int .i64 x0.2.1), .cell (.v (.slice (.int .i64)) x0.2.2.1), .cell (.int .i64 x0.2.2.2.1), .cell (.int .i64 x0.2.2.2.2.1), .cell (.int .i64 x0.2.2.2.2.2.1)]), (3, .row (.arr 6 (.int .i64)) r1)]) rfl rfl ?_
  refine row_len_o 3 (r1.length : Int) rfl rfl (fun hr2 => ?_)
  refine ao_read trivial (r_fieldAddr Try.underlying29 rfl Try.sizeOf22 rfl rfl rfl) rfl ?_
  refine ao_effS trivial (e_store rfl rfl rfl rfl Try.sizeOf22 rfl) ?_
  refine ao_nil ?_
  refine aq_then ?_
  refine aw_seq ?_
  refine aw_region ?_
  refine ao_read trivial (r_fieldAddr Try.underlying25 rfl Try.sizeOf3 rfl rfl rfl) rfl ?_
  refine ao_read trivial (r_load_cell Try.isAgg3 rfl rfl rfl) rfl ?_
  refine ao_read trivial (r_fieldAddr Try.underlying29 rfl Try.sizeOf3 rfl rfl rfl) rfl ?_
  refine ao_effS trivial (e_store rfl rfl rfl rfl Try.sizeOf3 rfl) ?_
  refine ao_nil ?_
  refine aq_then ?_
  refine aw_seq ?_
  refine aw_region ?_
  refine ao_read trivial (r_fieldAddr Try.underlying25 rfl Try.sizeOf23 rfl rfl rfl) rfl ?_
  refine ao_read trivial (r_load_cell Try.isAgg23 rfl rfl rfl) rfl ?_
  obtain ⟨r3, r3h, h⟩ := is_bind h
  refine ao_call [] 4 trivial (c_laws_toIntS (is_mk r3h)) Try.func38 rfl rfl rfl rfl ⟨ad_ren rfl, trivial⟩ trivial rfl rfl rfl rfl rfl rfl rfl (fun r' H' hr => ?_)
  obtain ⟨rfl, rfl⟩ := hr
  refine ao_norm (y := .os 4) (H' := [(2, .var [.cell (.os 3), .cell (.int .i64 x0.2.1), .cell (.nilsl), .cell (.int .i64 0), .cell (.int .i64 0), .cell (.int .i64 0)]), (1, .var [.cell (.nilsl), .cell (.int .i64 0), .cell (.nilsl), .cell (.int .i64 0), .cell (.int .i64 0), .cell (.int .i64 0)]), (0, .var [.cell (.v (.slice (.arr 6 (.int .i64))) x0.1), .cell (.int .i64 x0.2.1), .cell (.v (.slice (.int .i64)) x0.2.2.1), .cell (.int .i64 x0.2.2.2.1), .cell (.int .i64 x0.2.2.2.2.1), .cell (.int .i64 x0.2.2.2.2.2.1)]), (3, .row (.arr 6 (.int .i64)) r1), (4, .row (.int .i64) r3)]) rfl rfl ?_
  refine row_len_o 4 (r3.length : Int) rfl rfl (fun hr4 => ?_)
  refine ao_read trivial (r_fieldAddr Try.underlying29 rfl Try.sizeOf23 rfl rfl rfl) rfl ?_
  refine ao_effS trivial (e_store rfl rfl rfl rfl Try.sizeOf23 rfl) ?_
  refine ao_nil ?_
  refine aq_then ?_
  refine aw_seq ?_
  refine aw_region ?_
  refine ao_read trivial (r_fieldAddr Try.underlying25 rfl Try.sizeOf3 rfl rfl rfl) rfl ?_
  refine ao_read trivial (r_load_cell Try.isAgg3 rfl rfl rfl) rfl ?_
  refine ao_read trivial (r_fieldAddr Try.underlying29 rfl Try.sizeOf3 rfl rfl rfl) rfl ?_
  refine ao_effS trivial (e_store rfl rfl rfl rfl Try.sizeOf3 rfl) ?_
  refine ao_nil ?_
  refine aq_then ?_
  refine aw_seq ?_
  refine aw_region ?_
  refine ao_read trivial (r_fieldAddr Try.underlying25 rfl Try.sizeOf3 rfl rfl rfl) rfl ?_
  refine ao_read trivial (r_load_cell Try.isAgg3 rfl rfl rfl) rfl ?_
  refine ao_read trivial (r_fieldAddr Try.underlying29 rfl Try.sizeOf3 rfl rfl rfl) rfl ?_
  refine ao_effS trivial (e_store rfl rfl rfl rfl Try.sizeOf3 rfl) ?_
  refine ao_nil ?_
  refine aq_then ?_
  refine aw_seq ?_
  refine aw_region ?_
  refine ao_read trivial (r_fieldAddr Try.underlying25 rfl Try.sizeOf3 rfl rfl rfl) rfl ?_
  refine ao_read trivial (r_load_cell Try.isAgg3 rfl rfl rfl) rfl ?_
  refine ao_read trivial (r_fieldAddr Try.underlying29 rfl Try.sizeOf3 rfl rfl rfl) rfl ?_
  refine ao_effS trivial (e_store rfl rfl rfl rfl Try.sizeOf3 rfl) ?_
  refine ao_nil ?_
  refine aq_then ?_
  refine aw_seq ?_
  refine aw_region ?_
  refine ao_read trivial (r_load_st [] [.cell (.os 3), .cell (.int .i64 x0.2.1), .cell (.os 4), .cell (.int .i64 x0.2.2.2.1), .cell (.int .i64 x0.2.2.2.2.1), .cell (.int .i64 x0.2.2.2.2.2.1)] [] Try.isAgg29 Try.sizeOf29 rfl rfl rfl rfl rfl rfl rfl) rfl ?_
  refine ao_effS trivial (e_store rfl rfl rfl rfl Try.sizeOf29 rfl) ?_
  refine ao_nil ?_
  refine aq_then ?_
  refine aw_ret ?_
  refine aq_ret ?_
  obtain rfl := is_some h
  exact aq_finx (l := [.cell 2 29]) (xs := [.st [.os 3, .int .i64 x0.2.1, .os 4, .int .i64 x0.2.2.2.1, .int .i64 x0.2.2.2.2.1, .int .i64 x0.2.2.2.2.2.1]]) (rn [(0, 3), (1, 4)]) [.st [.os 0, .int .i64 x0.2.1, .os 1, .int .i64 x0.2.2.2.1, .int .i64 x0.2.2.2.2.1, .int .i64 x0.2.2.2.2.2.1]] [(0, .row (.arr 6 (.int .i64)) r1), (1, .row (.int .i64) r3)] rfl (by exact ⟨⟨⟨_, _, rfl⟩, r_load_st [] [.cell (.os 3), .cell (.int .i64 x0.2.1), .cell (.os 4), .cell (.int .i64 x0.2.2.2.1), .cell (.int .i64 x0.2.2.2.2.1), .cell (.int .i64 x0.2.2.2.2.2.1)] [] Try.isAgg29 Try.sizeOf29 rfl rfl rfl rfl rfl rfl rfl⟩, trivial⟩) (by exact ⟨ad_ren rfl, trivial⟩) (by exact ⟨⟨_, rfl, rfl⟩, ⟨_, rfl, rfl⟩, trivial⟩) rfl (nk rfl) rfl rfl ⟨rfl, rfl⟩
theorem c_laws_toTask {x0 : (Int × (Int × (Int × Unit)))} {r : (Int × (Int × (Int × Unit)))} (h : Is (p_laws_toTask x0) r) :
    Scalar Try.prog 9 [.v (.pair (.int .i64) (.pair (.int .i64) (.pair (.int .i64) .unit))) x0] (.v (.pair (.int .i64) (.pair (.int .i64) (.pair (.int .i64) .unit))) r) := by
  unfold p_laws_toTask at h
  refine ac_enter ⟨14, 0⟩ Try.func9 rfl rfl rfl rfl rfl (fun Γ => ?_)
  refine aw_seq ?_
  refine aw_region ?_
  refine ao_eff trivial (e_box 0 rfl rfl rfl rfl rfl rfl) rfl ?_
  refine ao_eff trivial (e_alloc 1 (y := .st [.int .i64 0, .int .i64 0, .int .i64 0]) Try.zeroValue33 (fun ρ h M => ra_zero_st (t := (.pair (.int .i64) (.pair (.int .i64) (.pair (.int .i64) .unit)))) rfl rfl rfl) rfl rfl rfl rfl rfl) rfl ?_
  refine ao_nil ?_
  refine aq_then ?_
  refine aw_seq ?_
  refine aw_region ?_
  refine ao_eff trivial (e_alloc 2 (y := .st [.int .i64 0, .int .i64 0, .int .i64 0]) Try.zeroValue33 (fun ρ h M => ra_zero_st (t := (.pair (.int .i64) (.pair (.int .i64) (.pair (.int .i64) .unit)))) rfl rfl rfl) rfl rfl rfl rfl rfl) rfl ?_
  refine ao_nil ?_
  refine aq_then ?_
  refine aw_seq ?_
  refine aw_region ?_
  refine ao_read trivial (r_fieldAddr Try.underlying27 rfl Try.sizeOf3 rfl rfl rfl) rfl ?_
  refine ao_read trivial (r_load_cell Try.isAgg3 rfl rfl rfl) rfl ?_
  refine ao_read trivial (r_fieldAddr Try.underlying33 rfl Try.sizeOf3 rfl rfl rfl) rfl ?_
  refine ao_effS trivial (e_store rfl rfl rfl rfl Try.sizeOf3 rfl) ?_
  refine ao_nil ?_
  refine aq_then ?_
  refine aw_seq ?_
  refine aw_region ?_
  refine ao_read trivial (r_fieldAddr Try.underlying27 rfl Try.sizeOf3 rfl rfl rfl) rfl ?_
  refine ao_read trivial (r_load_cell Try.isAgg3 rfl rfl rfl) rfl ?_
  refine ao_read trivial (r_fieldAddr Try.underlying33 rfl Try.sizeOf3 rfl rfl rfl) rfl ?_
  refine ao_effS trivial (e_store rfl rfl rfl rfl Try.sizeOf3 rfl) ?_
  refine ao_nil ?_
  refine aq_then ?_
  refine aw_seq ?_
  refine aw_region ?_
  refine ao_read trivial (r_fieldAddr Try.underlying27 rfl Try.sizeOf3 rfl rfl rfl) rfl ?_
  refine ao_read trivial (r_load_cell Try.isAgg3 rfl rfl rfl) rfl ?_
  refine ao_read trivial (r_fieldAddr Try.underlying33 rfl Try.sizeOf3 rfl rfl rfl) rfl ?_
  refine ao_effS trivial (e_store rfl rfl rfl rfl Try.sizeOf3 rfl) ?_
  refine ao_nil ?_
  refine aq_then ?_
  refine aw_seq ?_
  refine aw_region ?_
  refine ao_read trivial (r_load_part (τ := (.pair (.int .i64) (.pair (.int .i64) (.pair (.int .i64) .unit)))) (y := ((x0.1, (x0.2.1, (x0.2.2.1, ()))) : (Int × (Int × (Int × Unit))))) [] [] rfl Try.isAgg33 Try.sizeOf33 rfl rfl rfl rfl) rfl ?_
  refine ao_effS trivial (e_store rfl rfl rfl rfl Try.sizeOf33 rfl) ?_
  refine ao_nil ?_
  refine aq_then ?_
  refine aw_ret ?_
  refine aq_ret ?_
  obtain rfl := is_eq h
  exact aq_finx (l := [.cell 2 33]) (xs := [.st [.int .i64 x0.1, .int .i64 x0.2.1, .int .i64 x0.2.2.1]]) idn [.v (.pair (.int .i64) (.pair (.int .i64) (.pair (.int .i64) .unit))) ((x0.1, (x0.2.1, (x0.2.2.1, ()))) : (Int × (Int × (Int × Unit))))] [] rfl (by exact ⟨⟨⟨_, _, rfl⟩, r_load_st [] [.cell (.int .i64 x0.1), .cell (.int .i64 x0.2.1), .cell (.int .i64 x0.2.2.1)] [] Try.isAgg33 Try.sizeOf33 rfl rfl rfl rfl rfl rfl rfl⟩, trivial⟩) (by exact ⟨ad_st rfl rfl ⟨ad_ren rfl, ad_ren rfl, ad_ren rfl, trivial⟩, trivial⟩) (by exact trivial) rfl (nk rfl) rfl rfl ⟨rfl, rfl⟩
theorem c_spec_l1In {x0 : Int} {x1 : Int} {x2 : Int} {r : Bool} (h : Is (p_spec_l1In x0 x1 x2) r) :
    Scalar Try.prog 62 [.int .i64 x0, .int .i64 x1, .int .i64 x2] (.bool r) := by
  unfold p_spec_l1In at h
  refine ac_enter ⟨15, 0⟩ Try.func62 rfl rfl rfl rfl rfl (fun Γ => ?_)
  refine aw_seq ?_
  refine aw_region ?_
  refine ao_read trivial (r_assign rfl) rfl ?_
  refine ao_nil ?_
  refine aq_then ?_
  refine aw_seq ?_
  refine aw_region ?_
  refine ao_read trivial (r_move rfl) rfl ?_
  refine ao_read trivial (r_move rfl) rfl ?_
  refine ao_read trivial (r_geq rfl rfl) rfl ?_
  refine ao_read trivial (r_move rfl) rfl ?_
  refine ao_readG (x := .int .i64 x0) rfl (GV.T rfl) (fun hg1 => by
        have q2 := d_t hg1
        exact r_move rfl) rfl ?_
  refine ao_readG (x := .int .i64 x2) rfl (GV.T rfl) (fun hg3 => by
        have q4 := d_t hg3
        exact r_move rfl) rfl ?_
  refine ao_readG (x := .bool (decide (x0 ≤ x2))) rfl (GV.T rfl) (fun hg5 => by
        have q6 := d_t hg5
        exact Reads.strip 11 rfl (hg5) (Reads.strip 12 rfl (hg5) (r_leq rfl rfl))) rfl ?_
  refine ao_read trivial (r_andB rfl rfl) rfl ?_
  refine ao_read trivial (r_assign rfl) rfl ?_
  refine ao_nil ?_
  refine aq_then ?_
  refine aw_ret ?_
  refine aq_ret ?_
  obtain rfl := is_eq h
  exact aq_finx (l := [.tmp 6]) (xs := [.bool ((decide (x1 ≤ x0)) && (decide (x0 ≤ x2)))]) idn [.bool ((decide (x1 ≤ x0)) && (decide (x0 ≤ x2)))] [] rfl (by exact ⟨rfl, trivial⟩) (by exact ⟨ad_ren rfl, trivial⟩) (by exact trivial) rfl (nk rfl) rfl rfl ⟨rfl, rfl⟩
theorem c_spec_l2Die {x0 : (List Int)} {r : Bool} (h : Is (p_spec_l2Die x0) (some r)) :
    Scalar Try.prog 80 [.v (.arr 6 (.int .i64)) x0] (.bool r) := by
  unfold p_spec_l2Die at h
  refine ac_enter ⟨27, 0⟩ Try.func80 rfl rfl rfl rfl rfl (fun Γ => ?_)
  refine aw_seq ?_
  refine aw_region ?_
  refine ao_eff trivial (e_box 0 rfl rfl rfl rfl rfl rfl) rfl ?_
  refine ao_read trivial (r_assign rfl) rfl ?_
  refine ao_nil ?_
  refine aq_then ?_
  refine aw_seq ?_
  refine aw_seq ?_
  refine aw_region ?_
  refine ao_read trivial (r_assign rfl) rfl ?_
  refine ao_nil ?_
  refine aq_then ?_
  refine aw_block ?_
  refine aw_loop (AL.sub (fr' := [(1, .ref 0 0), (3, .int .i64 0)]) (H' := [(0, .var [.arr (.int .i64) 6 x0])]) (sub_r1 idn (nk rfl) (by kernel_rfl)) (al_cnt (fun i2 (s1 : Unit) => [(1, .ref 0 0), (3, .int .i64 i2)]) (fun i2 (s1 : Unit) => [(0, .var [.arr (.int .i64) 6 x0])]) (fun d i2 (s1 : Unit) => d = Int.toNat (6 - i2) ∧ 0 ≤ i2 ∧ i2 ≤ 6) h ⟨rfl, (by (try simp only [List.length_set, List.length_append, List.length_cons, List.length_nil, List.length_replicate, List.length_take, List.length_drop]) <;> omega), (by (try simp only [List.length_set, List.length_append, List.length_cons, List.length_nil, List.length_replicate, List.length_take, List.length_drop]) <;> omega)⟩ (fun d3 i2 s1 hI h ih3 => ?_)))
  obtain ⟨hd, _, _⟩ := hI
  refine al_round ?_
  refine aw_seq ?_
  refine aw_seq ?_
  refine aw_region ?_
  refine ao_read trivial (r_move rfl) rfl ?_
  refine ao_read trivial (r_lss rfl rfl) rfl ?_
  refine ao_nil ?_
  refine aq_then ?_
  refine aw_cond rfl (fun hb5 => ?_) (fun hb5 => ?_)
  · have q6 := d_t hb5
    obtain ⟨d3, rfl⟩ : ∃ e, d3 = e + 1 := ⟨d3 - 1, by omega⟩
    replace h := is_cntS h
    refine aw_skip ?_
    refine aq_then ?_
    refine aw_seq ?_
    refine aw_block ?_
    refine aw_seq ?_
    refine aw_drawAll (by kernel_rfl) ?_
    refine an_read 0 (by kernel_rfl) (fun _ _ _ h => h) rfl (by kernel_rfl) trivial (r_move rfl) rfl ?_
    refine an_read 1 (by kernel_rfl) (fun _ _ _ h => h) rfl (by kernel_rfl) trivial (r_idxAddr_arr (i := i2) Try.underlying76 Try.sizeOf3 rfl rfl (show 0 ≤ i2 from by omega) (show i2 < (6 : Int) from by omega)) rfl ?_
    refine an_read 2 (by kernel_rfl) (fun _ _ _ h => h) rfl (by kernel_rfl) trivial (r_load_elema_int Try.isAgg3 Try.sizeOf3 rfl rfl rfl (show i2.toNat < 6 from by omega)) rfl ?_
    refine an_scall 3 (by kernel_rfl) (fun _ _ _ h => h) rfl (by kernel_rfl) trivial (scall (c_spec_l1In (is_mk (rfl : p_spec_l1In (x0.getD i2.toNat 0) 0 30 = _))) rfl Try.func62 rfl rfl rfl rfl (fun σ => ⟨ad_ren rfl, ad_ren rfl, ad_ren rfl, trivial⟩)) rfl ?_
    refine an_read 4 (by kernel_rfl) (fun _ _ _ h => h) rfl (by kernel_rfl) trivial (r_not rfl) rfl ?_
    refine an_read 5 (by kernel_rfl) (fun _ _ _ h => h) rfl (by kernel_rfl) trivial (r_move rfl) rfl ?_
    refine an_readG 6 (x := .int .i64 i2) (by kernel_rfl) (fun _ _ _ h => h) rfl (by kernel_rfl) rfl (GV.F rfl) (fun hg8 => r_move rfl) rfl ?_
    refine an_readG 7 (x := .bool (decide (0 < i2))) (by kernel_rfl) (fun _ _ _ h => h) rfl (by kernel_rfl) rfl (GV.F rfl) (fun hg9 => Reads.strip 14 rfl (hg9) (r_gtr rfl rfl)) rfl ?_
    refine an_readG 8 (x := .bool (decide (0 < i2))) (by kernel_rfl) (fun _ _ _ h => h) rfl (by kernel_rfl) rfl (GV.F rfl) (fun hg10 => Reads.strip 15 rfl (hg10) (r_move rfl)) rfl ?_
    refine an_readG 9 (x := .int .i64 i2) (by kernel_rfl) (fun _ _ _ h => h) rfl (by kernel_rfl) rfl (GV.gT rfl) (fun hg11 => by
          obtain ⟨q12, q13⟩ := and_t hg11
          have q14 := d_t q13
          exact r_move rfl) rfl ?_
    refine an_readG 10 (x := .elem 0 0 1 i2.toNat) (by kernel_rfl) (fun _ _ _ h => h) rfl (by kernel_rfl) rfl (GV.gT rfl) (fun hg15 => by
          obtain ⟨q16, q17⟩ := and_t hg15
          have q18 := d_t q17
          exact Reads.strip 17 rfl (hg15) (r_idxAddr_arr (i := i2) Try.underlying76 Try.sizeOf3 rfl rfl (show 0 ≤ i2 from by omega) (show i2 < (6 : Int) from by omega))) rfl ?_
    refine an_readG 11 (x := .int .i64 (x0.getD i2.toNat 0)) (by kernel_rfl) (fun _ _ _ h => h) rfl (by kernel_rfl) rfl (GV.gT rfl) (fun hg19 => by
          obtain ⟨q20, q21⟩ := and_t hg19
          have q22 := d_t q21
          exact Reads.strip 18 rfl (hg19) (r_load_elema_int Try.isAgg3 Try.sizeOf3 rfl rfl rfl (show i2.toNat < 6 from by omega))) rfl ?_
    refine an_readG 12 (x := .int .i64 i2) (by kernel_rfl) (fun _ _ _ h => h) rfl (by kernel_rfl) rfl (GV.gT rfl) (fun hg23 => by
          obtain ⟨q24, q25⟩ := and_t hg23
          have q26 := d_t q25
          exact r_move rfl) rfl ?_
    refine an_readG 13 (x := .int .i64 (i2 - 1)) (by kernel_rfl) (fun _ _ _ h => h) rfl (by kernel_rfl) rfl (GV.gT rfl) (fun hg27 => by
          obtain ⟨q28, q29⟩ := and_t hg27
          have q30 := d_t q29
          exact Reads.strip 20 rfl (hg27) (r_subI rfl rfl (wrap_id (by omega) (by omega)))) rfl ?_
    refine an_readG 14 (x := .elem 0 0 1 (i2 - 1).toNat) (by kernel_rfl) (fun _ _ _ h => h) rfl (by kernel_rfl) rfl (GV.gT rfl) (fun hg31 => by
          obtain ⟨q32, q33⟩ := and_t hg31
          have q34 := d_t q33
          exact Reads.strip 21 rfl (hg31) (r_idxAddr_arr (i := (i2 - 1)) Try.underlying76 Try.sizeOf3 rfl rfl (show 0 ≤ (i2 - 1) from by omega) (show (i2 - 1) < (6 : Int) from by omega))) rfl ?_
    refine an_readG 15 (x := .int .i64 (x0.getD (i2 - 1).toNat 0)) (by kernel_rfl) (fun _ _ _ h => h) rfl (by kernel_rfl) rfl (GV.gT rfl) (fun hg35 => by
          obtain ⟨q36, q37⟩ := and_t hg35
          have q38 := d_t q37
          exact Reads.strip 22 rfl (hg35) (r_load_elema_int Try.isAgg3 Try.sizeOf3 rfl rfl rfl (show (i2 - 1).toNat < 6 from by omega))) rfl ?_
    refine an_readG 16 (x := .bool (decide ((x0.getD i2.toNat 0) < (x0.getD (i2 - 1).toNat 0)))) (by kernel_rfl) (fun _ _ _ h => h) rfl (by kernel_rfl) rfl (GV.gT rfl) (fun hg39 => by
          obtain ⟨q40, q41⟩ := and_t hg39
          have q42 := d_t q41
          exact Reads.strip 19 rfl (hg39) (Reads.strip 23 rfl (hg39) (r_lss rfl rfl))) rfl ?_
    refine an_readG 17 (x := .bool ((decide (0 < i2)) && (decide ((x0.getD i2.toNat 0) < (x0.getD (i2 - 1).toNat 0))))) (by kernel_rfl) (fun _ _ _ h => h) rfl (by kernel_rfl) rfl (GV.F rfl) (fun hg43 => Reads.strip 16 rfl (hg43) (r_andBg rfl rfl (tr_and (hg43)))) rfl ?_
    refine an_read 18 (by kernel_rfl) (fun _ _ _ h => h) rfl (by kernel_rfl) trivial (r_orB rfl rfl) rfl ?_
    refine an_done rfl ?_
    refine aq_then ?_
    refine aw_cond rfl (fun hb44 => ?_) (fun hb44 => ?_)
    · replace h := is_if hb44 h
      refine aw_seq ?_
      refine aw_region ?_
      refine ao_read trivial (r_assign rfl) rfl ?_
      refine ao_nil ?_
      refine aq_then ?_
      refine aw_ret ?_
      refine aq_in_ret ?_
      refine aq_then_ret ?_
      refine aq_then_ret ?_
      refine aq_in_ret ?_
      refine aq_then_ret ?_
      refine aq_ret ?_
      obtain rfl := is_some h
      exact aq_finx (l := [.tmp 2]) (xs := [.bool false]) idn [.bool false] [] rfl (by exact ⟨rfl, trivial⟩) (by exact ⟨ad_ren rfl, trivial⟩) (by exact trivial) rfl (nk rfl) rfl rfl ⟨rfl, rfl⟩
    · obtain ⟨q45, q46⟩ := or_f hb44
      replace h := is_else (ne_t hb44) h
      refine aw_skip ?_
      refine aq_in ?_
      refine aq_then ?_
      refine aw_region ?_
      refine ao_read trivial (r_move rfl) rfl ?_
      refine ao_read trivial (r_addI rfl rfl (wrap_id (by omega) (by omega))) rfl ?_
      refine ao_read trivial (r_assign rfl) rfl ?_
      refine ao_nil ?_
      exact aq_again (AL.sub (sub_r1 idn (nk rfl) (by kernel_rfl)) (ih3 d3 (i2 + 1) () (by omega) ⟨by omega, (by (try simp only [List.length_set, List.length_append, List.length_cons, List.length_nil, List.length_replicate, List.length_take, List.length_drop]) <;> omega), (by (try simp only [List.length_set, List.length_append, List.length_cons, List.length_nil, List.length_replicate, List.length_take, List.length_drop]) <;> omega)⟩ h))
  · have q7 := d_f hb5
    obtain rfl : d3 = 0 := by omega
    replace h := is_cnt0 h
    refine aw_exit ?_
    refine aq_then_exit ?_
    refine aq_then_exit ?_
    refine aq_in_exit ?_
    refine aq_then ?_
    refine aw_seq ?_
    refine aw_region ?_
    refine ao_read trivial (r_assign rfl) rfl ?_
    refine ao_nil ?_
    refine aq_then ?_
    refine aw_ret ?_
    refine aq_ret ?_
    obtain rfl := is_some h
    exact aq_finx (l := [.tmp 2]) (xs := [.bool true]) idn [.bool true] [] rfl (by exact ⟨rfl, trivial⟩) (by exact ⟨ad_ren rfl, trivial⟩) (by exact trivial) rfl (nk rfl) rfl rfl ⟨rfl, rfl⟩
theorem c_spec_l2Pool {x0 : (List (List Int))} {r : Bool} (h : Is (p_spec_l2Pool x0) (some r)) :
    Scalar Try.prog 61 [.v (.slice (.arr 6 (.int .i64))) x0] (.bool r) := by
  unfold p_spec_l2Pool at h
  refine ac_enter ⟨23, 0⟩ Try.func61 rfl rfl rfl rfl rfl (fun Γ => ?_)
  refine sl_len_m 0 (x0.length : Int) rfl rfl (fun hl0 => ?_)
  refine aw_seq ?_
  refine aw_region ?_
  refine ao_read trivial (r_assign rfl) rfl ?_
  refine ao_nil ?_
  refine aq_then ?_
  refine aw_seq ?_
  refine aw_seq ?_
  refine aw_region ?_
  refine ao_read trivial (r_assign rfl) rfl ?_
  refine ao_nil ?_
  refine aq_then ?_
  refine aw_block ?_
  refine aw_loop (AL.sub (fr' := [(0, .v (.slice (.arr 6 (.int .i64))) x0), (3, .int .i64 0)]) (H' := []) (sub_r1 idn (nk rfl) (by kernel_rfl)) (al_cnt (fun i2 (s1 : Unit) => [(0, .v (.slice (.arr 6 (.int .i64))) x0), (3, .int .i64 i2)]) (fun i2 (s1 : Unit) => []) (fun d i2 (s1 : Unit) => d = Int.toNat ((x0.length : Int) - i2) ∧ 0 ≤ i2 ∧ i2 ≤ (x0.length : Int)) h ⟨rfl, (by (try simp only [List.length_set, List.length_append, List.length_cons, List.length_nil, List.length_replicate, List.length_take, List.length_drop]) <;> omega), (by (try simp only [List.length_set, List.length_append, List.length_cons, List.length_nil, List.length_replicate, List.length_take, List.length_drop]) <;> omega)⟩ (fun d3 i2 s1 hI h ih3 => ?_)))
  obtain ⟨hd, _, _⟩ := hI
  refine al_round ?_
  refine aw_seq ?_
  refine aw_seq ?_
  refine aw_region ?_
  refine ao_read trivial (r_move rfl) rfl ?_
  refine ao_read trivial (r_move rfl) rfl ?_
  refine ao_read trivial (r_len_vm (x0.length : Int) Try.underlying22 rfl rfl) rfl ?_
  refine ao_read trivial (r_lss rfl rfl) rfl ?_
  refine ao_read trivial (r_move rfl) rfl ?_
  refine ao_readG (x := .int .i64 i2) rfl (GV.T rfl) (fun hg5 => by
        have q6 := d_t hg5
        exact r_move rfl) rfl ?_
  refine ao_readG (x := .bool (decide (i2 ≤ 4))) rfl (GV.T rfl) (fun hg7 => by
        have q8 := d_t hg7
        exact Reads.strip 9 rfl (hg7) (r_leq rfl rfl)) rfl ?_
  refine ao_read trivial (r_andB rfl rfl) rfl ?_
  refine ao_nil ?_
  refine aq_then ?_
  refine aw_cond rfl (fun hb9 => ?_) (fun hb9 => ?_)
  · obtain ⟨q10, q11⟩ := and_t hb9
    have q12 := d_t q10
    have q13 := d_t q11
    obtain ⟨d3, rfl⟩ : ∃ e, d3 = e + 1 := ⟨d3 - 1, by omega⟩
    replace h := is_if hb9 (is_cntS h)
    refine aw_skip ?_
    refine aq_then ?_
    refine aw_seq ?_
    refine aw_block ?_
    refine aw_seq ?_
    refine aw_region ?_
    refine ao_read trivial (r_move rfl) rfl ?_
    refine ao_read trivial (r_move rfl) rfl ?_
    refine ao_read trivial (r_idxAddr (t := (.arr 6 (.int .i64))) Try.underlying22 Try.sizeOf76 rfl rfl (show 0 ≤ i2 from by omega) (show i2 < (x0.length : Int) from by omega)) rfl ?_
    refine ao_read trivial (r_load_c (t := (.arr 6 (.int .i64))) Try.isAgg76 Try.sizeOf76 rfl) rfl ?_
    obtain ⟨r14, r14h, h⟩ := is_bind h
    refine ao_scall trivial (scall (c_spec_l2Die (is_mk r14h)) rfl Try.func80 rfl rfl rfl rfl (fun σ => ⟨ad_ren rfl, trivial⟩)) rfl ?_
    refine ao_read trivial (r_not rfl) rfl ?_
    refine ao_nil ?_
    refine aq_then ?_
    refine aw_cond rfl (fun hb15 => ?_) (fun hb15 => ?_)
    · replace h := is_else (ne_t (not_t hb15)) h
      refine aw_seq ?_
      refine aw_region ?_
      refine ao_read trivial (r_assign rfl) rfl ?_
      refine ao_nil ?_
      refine aq_then ?_
      refine aw_ret ?_
      refine aq_in_ret ?_
      refine aq_then_ret ?_
      refine aq_then_ret ?_
      refine aq_in_ret ?_
      refine aq_then_ret ?_
      refine aq_ret ?_
      obtain rfl := is_some h
      exact aq_finx (l := [.tmp 2]) (xs := [.bool false]) idn [.bool false] [] rfl (by exact ⟨rfl, trivial⟩) (by exact ⟨ad_ren rfl, trivial⟩) (by exact trivial) rfl (nk rfl) rfl rfl ⟨rfl, rfl⟩
    · replace h := is_if (not_f hb15) h
      refine aw_skip ?_
      refine aq_in ?_
      refine aq_then ?_
      refine aw_region ?_
      refine ao_read trivial (r_move rfl) rfl ?_
      refine ao_read trivial (r_addI rfl rfl (wrap_id (by omega) (by omega))) rfl ?_
      refine ao_read trivial (r_assign rfl) rfl ?_
      refine ao_nil ?_
      exact aq_again (AL.sub (sub_r1 idn (nk rfl) (by kernel_rfl)) (ih3 d3 (i2 + 1) () (by omega) ⟨by omega, (by (try simp only [List.length_set, List.length_append, List.length_cons, List.length_nil, List.length_replicate, List.length_take, List.length_drop]) <;> omega), (by (try simp only [List.length_set, List.length_append, List.length_cons, List.length_nil, List.length_replicate, List.length_take, List.length_drop]) <;> omega)⟩ h))
  · replace h := is_cntF h (ne_t hb9) (fun _ => rfl)
    refine aw_exit ?_
    refine aq_then_exit ?_
    refine aq_then_exit ?_
    refine aq_in_exit ?_
    refine aq_then ?_
    refine aw_seq ?_
    refine aw_region ?_
    refine ao_read trivial (r_move rfl) rfl ?_
    refine ao_read trivial (r_len_vm (x0.length : Int) Try.underlying22 rfl rfl) rfl ?_
    refine ao_scall trivial (scall (c_spec_l1In (is_mk (rfl : p_spec_l1In (x0.length : Int) 1 4 = _))) rfl Try.func62 rfl rfl rfl rfl (fun σ => ⟨ad_ren rfl, ad_ren rfl, ad_ren rfl, trivial⟩)) rfl ?_
    refine ao_read trivial (r_assign rfl) rfl ?_
    refine ao_nil ?_
    refine aq_then ?_
    refine aw_ret ?_
    refine aq_ret ?_
    obtain rfl := is_some h
    exact aq_finx (l := [.tmp 2]) (xs := [.bool (p_spec_l1In (x0.length : Int) 1 4)]) idn [.bool (p_spec_l1In (x0.length : Int) 1 4)] [] rfl (by exact ⟨rfl, trivial⟩) (by exact ⟨ad_ren rfl, trivial⟩) (by exact trivial) rfl (nk rfl) rfl rfl ⟨rfl, rfl⟩
theorem c_spec_l1Has {x0 : (List Int)} {x1 : Int} {r : Bool} (h : Is (p_spec_l1Has x0 x1) r) :
    Scalar Try.prog 81 [.v (.slice (.int .i64)) x0, .int .i64 x1] (.bool r) := by
  unfold p_spec_l1Has at h
  refine ac_enter ⟨18, 0⟩ Try.func81 rfl rfl rfl rfl rfl (fun Γ => ?_)
  refine sl_len_m 0 (x0.length : Int) rfl rfl (fun hl0 => ?_)
  refine aw_seq ?_
  refine aw_region ?_
  refine ao_read trivial (r_assign rfl) rfl ?_
  refine ao_nil ?_
  refine aq_then ?_
  refine aw_seq ?_
  refine aw_seq ?_
  refine aw_region ?_
  refine ao_read trivial (r_assign rfl) rfl ?_
  refine ao_nil ?_
  refine aq_then ?_
  refine aw_block ?_
  refine aw_loop (AL.sub (fr' := [(0, .v (.slice (.int .i64)) x0), (1, .int .i64 x1), (5, .int .i64 0)]) (H' := []) (sub_r1 idn (nk rfl) (by kernel_rfl)) (al_cnt (fun i2 (s1 : Unit) => [(0, .v (.slice (.int .i64)) x0), (1, .int .i64 x1), (5, .int .i64 i2)]) (fun i2 (s1 : Unit) => []) (fun d i2 (s1 : Unit) => d = Int.toNat ((x0.length : Int) - i2) ∧ 0 ≤ i2 ∧ i2 ≤ (x0.length : Int)) h ⟨rfl, (by (try simp only [List.length_set, List.length_append, List.length_cons, List.length_nil, List.length_replicate, List.length_take, List.length_drop]) <;> omega), (by (try simp only [List.length_set, List.length_append, List.length_cons, List.length_nil, List.length_replicate, List.length_take, List.length_drop]) <;> omega)⟩ (fun d3 i2 s1 hI h ih3 => ?_)))
  obtain ⟨hd, _, _⟩ := hI
  refine al_round ?_
  refine aw_seq ?_
  refine aw_seq ?_
  refine aw_region ?_
  refine ao_read trivial (r_move rfl) rfl ?_
  refine ao_read trivial (r_move rfl) rfl ?_
  refine ao_read trivial (r_len_vm (x0.length : Int) Try.underlying23 rfl rfl) rfl ?_
  refine ao_read trivial (r_lss rfl rfl) rfl ?_
  refine ao_nil ?_
  refine aq_then ?_
  refine aw_cond rfl (fun hb5 => ?_) (fun hb5 => ?_)
  · have q6 := d_t hb5
    obtain ⟨d3, rfl⟩ : ∃ e, d3 = e + 1 := ⟨d3 - 1, by omega⟩
    replace h := is_cntS h
    refine aw_skip ?_
    refine aq_then ?_
    refine aw_seq ?_
    refine aw_block ?_
    refine aw_seq ?_
    refine aw_region ?_
    refine ao_read trivial (r_move rfl) rfl ?_
    refine ao_read trivial (r_move rfl) rfl ?_
    refine ao_read trivial (r_idxAddr_int Try.underlying23 Try.sizeOf3 rfl rfl (show 0 ≤ i2 from by omega) (show i2 < (x0.length : Int) from by omega)) rfl ?_
    refine ao_read trivial (r_load_c_int Try.isAgg3 Try.sizeOf3 rfl) rfl ?_
    refine ao_read trivial (r_move rfl) rfl ?_
    refine ao_read trivial (r_eql rfl rfl) rfl ?_
    refine ao_nil ?_
    refine aq_then ?_
    refine aw_cond rfl (fun hb8 => ?_) (fun hb8 => ?_)
    · have q9 : (x0.getD i2.toNat 0) = x1 := d_t hb8
      replace h := is_if (d_t hb8) h
      refine aw_seq ?_
      refine aw_region ?_
      refine ao_read trivial (r_assign rfl) rfl ?_
      refine ao_nil ?_
      refine aq_then ?_
      refine aw_ret ?_
      refine aq_in_ret ?_
      refine aq_then_ret ?_
      refine aq_then_ret ?_
      refine aq_in_ret ?_
      refine aq_then_ret ?_
      refine aq_ret ?_
      obtain rfl := is_eq h
      exact aq_finx (l := [.tmp 4]) (xs := [.bool true]) idn [.bool true] [] rfl (by exact ⟨rfl, trivial⟩) (by exact ⟨ad_ren rfl, trivial⟩) (by exact trivial) rfl (nk rfl) rfl rfl ⟨rfl, rfl⟩
    · have q10 : ¬ ((x0.getD i2.toNat 0) = x1) := d_f hb8
      replace h := is_else (d_f hb8) h
      refine aw_skip ?_
      refine aq_in ?_
      refine aq_then ?_
      refine aw_region ?_
      refine ao_read trivial (r_move rfl) rfl ?_
      refine ao_read trivial (r_addI rfl rfl (wrap_id (by omega) (by omega))) rfl ?_
      refine ao_read trivial (r_assign rfl) rfl ?_
      refine ao_nil ?_
      exact aq_again (AL.sub (sub_r1 idn (nk rfl) (by kernel_rfl)) (ih3 d3 (i2 + 1) () (by omega) ⟨by omega, (by (try simp only [List.length_set, List.length_append, List.length_cons, List.length_nil, List.length_replicate, List.length_take, List.length_drop]) <;> omega), (by (try simp only [List.length_set, List.length_append, List.length_cons, List.length_nil, List.length_replicate, List.length_take, List.length_drop]) <;> omega)⟩ h))
  · have q7 := d_f hb5
    obtain rfl : d3 = 0 := by omega
    replace h := is_cnt0 h
    refine aw_exit ?_
    refine aq_then_exit ?_
    refine aq_then_exit ?_
    refine aq_in_exit ?_
    refine aq_then ?_
    refine aw_seq ?_
    refine aw_region ?_
    refine ao_read trivial (r_assign rfl) rfl ?_
    refine ao_nil ?_
    refine aq_then ?_
    refine aw_ret ?_
    refine aq_ret ?_
    obtain rfl := is_eq h
    exact aq_finx (l := [.tmp 4]) (xs := [.bool false]) idn [.bool false] [] rfl (by exact ⟨rfl, trivial⟩) (by exact ⟨ad_ren rfl, trivial⟩) (by exact trivial) rfl (nk rfl) rfl rfl ⟨rfl, rfl⟩
theorem c_spec_l12Last {x0 : (List (List Int))} {x1 : (List Int)} {r : Bool} (h : Is (p_spec_l12Last x0 x1) r) :
    Scalar Try.prog 63 [.v (.slice (.arr 6 (.int .i64))) x0, .v (.slice (.int .i64)) x1] (.bool r) := by
  unfold p_spec_l12Last at h
  refine ac_enter ⟨36, 0⟩ Try.func63 rfl rfl rfl rfl rfl (fun Γ => ?_)
  refine sl_len_m 0 (x0.length : Int) rfl rfl (fun hl0 => ?_)
  refine sl_len_m 1 (x1.length : Int) rfl rfl (fun hl1 => ?_)
  refine aw_seq ?_
  refine aw_region ?_
  refine ao_read trivial (r_assign rfl) rfl ?_
  refine ao_nil ?_
  refine aq_then ?_
  refine aw_seq ?_
  refine aw_seq ?_
  refine aw_region ?_
  refine ao_read trivial (r_move rfl) rfl ?_
  refine ao_read trivial (r_len_vm (x1.length : Int) Try.underlying23 rfl rfl) rfl ?_
  refine ao_read trivial (r_eql rfl rfl) rfl ?_
  refine ao_nil ?_
  refine aq_then ?_
  refine aw_cond rfl (fun hb1 => ?_) (fun hb1 => ?_)
  · have q2 := d_t hb1
    replace h := is_if (d_t hb1) h
    refine aw_seq ?_
    refine aw_region ?_
    refine ao_read trivial (r_assign rfl) rfl ?_
    refine ao_nil ?_
    refine aq_then ?_
    refine aw_ret ?_
    refine aq_then_ret ?_
    refine aq_ret ?_
    obtain rfl := is_eq h
    exact aq_finx (l := [.tmp 4]) (xs := [.bool true]) idn [.bool true] [] rfl (by exact ⟨rfl, trivial⟩) (by exact ⟨ad_ren rfl, trivial⟩) (by exact trivial) rfl (nk rfl) rfl rfl ⟨rfl, rfl⟩
  · have q3 := d_f hb1
    replace h := is_else (d_f hb1) h
    refine aw_skip ?_
    refine aq_then ?_
    refine aw_seq ?_
    refine aw_seq ?_
    refine aw_region ?_
    refine ao_read trivial (r_assign rfl) rfl ?_
    refine ao_nil ?_
    refine aq_then ?_
    refine aw_block ?_
    refine aw_loop (AL.sub (fr' := [(0, .v (.slice (.arr 6 (.int .i64))) x0), (1, .v (.slice (.int .i64)) x1), (5, .int .i64 0)]) (H' := []) (sub_r1 idn (nk rfl) (by kernel_rfl)) (al_cnt (fun i5 (s4 : Unit) => [(0, .v (.slice (.arr 6 (.int .i64))) x0), (1, .v (.slice (.int .i64)) x1), (5, .int .i64 i5)]) (fun i5 (s4 : Unit) => []) (fun d i5 (s4 : Unit) => d = Int.toNat ((x1.length : Int) - i5) ∧ 0 ≤ i5 ∧ i5 ≤ (x1.length : Int)) h ⟨rfl, (by (try simp only [List.length_set, List.length_append, List.length_cons, List.length_nil, List.length_replicate, List.length_take, List.length_drop]) <;> omega), (by (try simp only [List.length_set, List.length_append, List.length_cons, List.length_nil, List.length_replicate, List.length_take, List.length_drop]) <;> omega)⟩ (fun d6 i5 s4 hI h ih6 => ?_)))
    obtain ⟨hd, _, _⟩ := hI
    refine al_round ?_
    refine aw_seq ?_
    refine aw_seq ?_
    refine aw_region ?_
    refine ao_read trivial (r_move rfl) rfl ?_
    refine ao_read trivial (r_move rfl) rfl ?_
    refine ao_read trivial (r_len_vm (x1.length : Int) Try.underlying23 rfl rfl) rfl ?_
    refine ao_read trivial (r_lss rfl rfl) rfl ?_
    refine ao_read trivial (r_move rfl) rfl ?_
    refine ao_readG (x := .int .i64 i5) rfl (GV.T rfl) (fun hg8 => by
          have q9 := d_t hg8
          exact r_move rfl) rfl ?_
    refine ao_readG (x := .v (.slice (.arr 6 (.int .i64))) x0) rfl (GV.T rfl) (fun hg10 => by
          have q11 := d_t hg10
          exact r_move rfl) rfl ?_
    refine ao_readG (x := .int .i64 (x0.length : Int)) rfl (GV.T rfl) (fun hg12 => by
          have q13 := d_t hg12
          exact Reads.strip 15 rfl (hg12) (r_len_vm (x0.length : Int) Try.underlying22 rfl rfl)) rfl ?_
    refine ao_readG (x := .bool (decide (i5 < (x0.length : Int)))) rfl (GV.T rfl) (fun hg14 => by
          have q15 := d_t hg14
          exact Reads.strip 14 rfl (hg14) (Reads.strip 16 rfl (hg14) (r_lss rfl rfl))) rfl ?_
    refine ao_read trivial (r_andB rfl rfl) rfl ?_
    refine ao_nil ?_
    refine aq_then ?_
    refine aw_cond rfl (fun hb16 => ?_) (fun hb16 => ?_)
    · obtain ⟨q17, q18⟩ := and_t hb16
      have q19 := d_t q17
      have q20 := d_t q18
      obtain ⟨d6, rfl⟩ : ∃ e, d6 = e + 1 := ⟨d6 - 1, by omega⟩
      replace h := is_if hb16 (is_cntS h)
      refine aw_skip ?_
      refine aq_then ?_
      refine aw_seq ?_
      refine aw_block ?_
      refine aw_seq ?_
      refine aw_drawAll (by kernel_rfl) ?_
      refine an_read 0 (by kernel_rfl) (fun _ _ _ h => h) rfl (by kernel_rfl) trivial (r_move rfl) rfl ?_
      refine an_read 1 (by kernel_rfl) (fun _ _ _ h => h) rfl (by kernel_rfl) trivial (r_move rfl) rfl ?_
      refine an_read 2 (by kernel_rfl) (fun _ _ _ h => h) rfl (by kernel_rfl) trivial (r_idxAddr (t := (.arr 6 (.int .i64))) Try.underlying22 Try.sizeOf76 rfl rfl (show 0 ≤ i5 from by omega) (show i5 < (x0.length : Int) from by omega)) rfl ?_
      refine an_read 3 (by kernel_rfl) (fun _ _ _ h => h) rfl (by kernel_rfl) trivial (r_slice_c (t := (.int .i64)) Try.underlying76 Try.sizeOf3 rfl rfl rfl) rfl ?_
      refine an_read 4 (by kernel_rfl) (fun _ _ _ h => h) rfl (by kernel_rfl) trivial (r_move rfl) rfl ?_
      refine an_read 5 (by kernel_rfl) (fun _ _ _ h => h) rfl (by kernel_rfl) trivial (r_move rfl) rfl ?_
      refine an_read 6 (by kernel_rfl) (fun _ _ _ h => h) rfl (by kernel_rfl) trivial (r_idxAddr_int Try.underlying23 Try.sizeOf3 rfl rfl (show 0 ≤ i5 from by omega) (show i5 < (x1.length : Int) from by omega)) rfl ?_
      refine an_read 7 (by kernel_rfl) (fun _ _ _ h => h) rfl (by kernel_rfl) trivial (r_load_c_int Try.isAgg3 Try.sizeOf3 rfl) rfl ?_
      refine an_scall 8 (by kernel_rfl) (fun _ _ _ h => h) rfl (by kernel_rfl) trivial (scall (c_spec_l1Has (is_mk (rfl : p_spec_l1Has (x0.getD i5.toNat (List.replicate 6 0)) (x1.getD i5.toNat 0) = _))) rfl Try.func81 rfl rfl rfl rfl (fun σ => ⟨ad_ren rfl, ad_ren rfl, trivial⟩)) rfl ?_
      refine an_read 9 (by kernel_rfl) (fun _ _ _ h => h) rfl (by kernel_rfl) trivial (r_not rfl) rfl ?_
      refine an_done rfl ?_
      refine aq_then ?_
      refine aw_cond rfl (fun hb21 => ?_) (fun hb21 => ?_)
      · replace h := is_else (ne_t (not_t hb21)) h
        refine aw_seq ?_
        refine aw_region ?_
        refine ao_read trivial (r_assign rfl) rfl ?_
        refine ao_nil ?_
        refine aq_then ?_
        refine aw_ret ?_
        refine aq_in_ret ?_
        refine aq_then_ret ?_
        refine aq_then_ret ?_
        refine aq_in_ret ?_
        refine aq_then_ret ?_
        refine aq_ret ?_
        obtain rfl := is_eq h
        exact aq_finx (l := [.tmp 4]) (xs := [.bool false]) idn [.bool false] [] rfl (by exact ⟨rfl, trivial⟩) (by exact ⟨ad_ren rfl, trivial⟩) (by exact trivial) rfl (nk rfl) rfl rfl ⟨rfl, rfl⟩
      · replace h := is_if (not_f hb21) h
        refine aw_skip ?_
        refine aq_in ?_
        refine aq_then ?_
        refine aw_region ?_
        refine ao_read trivial (r_move rfl) rfl ?_
        refine ao_read trivial (r_addI rfl rfl (wrap_id (by omega) (by omega))) rfl ?_
        refine ao_read trivial (r_assign rfl) rfl ?_
        refine ao_nil ?_
        exact aq_again (AL.sub (sub_r1 idn (nk rfl) (by kernel_rfl)) (ih6 d6 (i5 + 1) () (by omega) ⟨by omega, (by (try simp only [List.length_set, List.length_append, List.length_cons, List.length_nil, List.length_replicate, List.length_take, List.length_drop]) <;> omega), (by (try simp only [List.length_set, List.length_append, List.length_cons, List.length_nil, List.length_replicate, List.length_take, List.length_drop]) <;> omega)⟩ h))
    · replace h := is_cntF h (ne_t hb16) (fun _ => rfl)
      refine aw_exit ?_
      refine aq_then_exit ?_
      refine aq_then_exit ?_
      refine aq_in_exit ?_
      refine aq_then ?_
      refine aw_seq ?_
      refine aw_region ?_
      refine ao_read trivial (r_move rfl) rfl ?_
      refine ao_read trivial (r_len_vm (x1.length : Int) Try.underlying23 rfl rfl) rfl ?_
      refine ao_read trivial (r_move rfl) rfl ?_
      refine ao_read trivial (r_len_vm (x0.length : Int) Try.underlying22 rfl rfl) rfl ?_
      refine ao_read trivial (r_eql rfl rfl) rfl ?_
      refine ao_read trivial (r_assign rfl) rfl ?_
      refine ao_nil ?_
      refine aq_then ?_
      refine aw_ret ?_
      refine aq_ret ?_
      obtain rfl := is_eq h
      exact aq_finx (l := [.tmp 4]) (xs := [.bool (decide ((x1.length : Int) = (x0.length : Int)))]) idn [.bool (decide ((x1.length : Int) = (x0.length : Int)))] [] rfl (by exact ⟨rfl, trivial⟩) (by exact ⟨ad_ren rfl, trivial⟩) (by exact trivial) rfl (nk rfl) rfl rfl ⟨rfl, rfl⟩
theorem c_spec_l12Good {x0 : ((List (List Int)) × (Int × ((List Int) × (Int × (Int × (Int × Unit))))))} {r : Bool} (h : Is (p_spec_l12Good x0) (some r)) :
    Scalar Try.prog 35 [.v (.pair (.slice (.arr 6 (.int .i64))) (.pair (.int .i64) (.pair (.slice (.int .i64)) (.pair (.int .i64) (.pair (.int .i64) (.pair (.int .i64) .unit)))))) x0] (.bool r) := by
  unfold p_spec_l12Good at h
  refine ac_enter ⟨33, 0⟩ Try.func35 rfl rfl rfl rfl rfl (fun Γ => ?_)
  refine aw_seq ?_
  refine aw_region ?_
  refine ao_eff trivial (e_box 0 rfl rfl rfl rfl rfl rfl) rfl ?_
  refine ao_read trivial (r_assign rfl) rfl ?_
  refine ao_nil ?_
  refine aq_then ?_
  refine aw_seq ?_
  refine aw_region ?_
  refine ao_read trivial (r_fieldAddr Try.underlying29 rfl Try.sizeOf22 rfl rfl rfl) rfl ?_
  refine ao_read trivial (r_load_cell Try.isAgg22 rfl rfl rfl) rfl ?_
  obtain ⟨r1, r1h, h⟩ := is_bind h
  refine ao_scall trivial (scall (c_spec_l2Pool (is_mk r1h)) rfl Try.func61 rfl rfl rfl rfl (fun σ => ⟨ad_ren rfl, trivial⟩)) rfl ?_
  refine ao_read trivial (r_move rfl) rfl ?_
  refine ao_readG (x := .ref 0 1) rfl (GV.T rfl) (fun hg2 => r_fieldAddr Try.underlying29 rfl Try.sizeOf3 rfl rfl rfl) rfl ?_
  refine ao_readG (x := .int .i64 x0.2.1) rfl (GV.T rfl) (fun hg3 => Reads.strip 7 rfl (hg3) (r_load_cell Try.isAgg3 rfl rfl rfl)) rfl ?_
  refine ao_scallG (r := .bool (p_spec_l1In x0.2.1 0 65535)) rfl (GV.T rfl) (fun hg4 => SCall.strip 8 rfl (hg4) (scall (c_spec_l1In (is_mk (rfl : p_spec_l1In x0.2.1 0 65535 = _))) rfl Try.func62 rfl rfl rfl rfl (fun σ => ⟨ad_ren rfl, ad_ren rfl, ad_ren rfl, trivial⟩))) rfl ?_
  refine ao_read trivial (r_andB rfl rfl) rfl ?_
  refine ao_read trivial (r_move rfl) rfl ?_
  refine ao_readG (x := .ref 0 0) rfl (GV.T rfl) (fun hg5 => by
        obtain ⟨q6, q7⟩ := and_t hg5
        exact r_fieldAddr Try.underlying29 rfl Try.sizeOf22 rfl rfl rfl) rfl ?_
  refine ao_readG (x := .v (.slice (.arr 6 (.int .i64))) x0.1) rfl (GV.T rfl) (fun hg8 => by
        obtain ⟨q9, q10⟩ := and_t hg8
        exact Reads.strip 12 rfl (hg8) (r_load_cell Try.isAgg22 rfl rfl rfl)) rfl ?_
  refine ao_readG (x := .ref 0 2) rfl (GV.T rfl) (fun hg11 => by
        obtain ⟨q12, q13⟩ := and_t hg11
        exact r_fieldAddr Try.underlying29 rfl Try.sizeOf23 rfl rfl rfl) rfl ?_
  refine ao_readG (x := .v (.slice (.int .i64)) x0.2.2.1) rfl (GV.T rfl) (fun hg14 => by
        obtain ⟨q15, q16⟩ := and_t hg14
        exact Reads.strip 14 rfl (hg14) (r_load_cell Try.isAgg23 rfl rfl rfl)) rfl ?_
  refine ao_scallG (r := .bool (p_spec_l12Last x0.1 x0.2.2.1)) rfl (GV.T rfl) (fun hg17 => by
        obtain ⟨q18, q19⟩ := and_t hg17
        exact SCall.strip 13 rfl (hg17) (SCall.strip 15 rfl (hg17) (scall (c_spec_l12Last (is_mk (rfl : p_spec_l12Last x0.1 x0.2.2.1 = _))) rfl Try.func63 rfl rfl rfl rfl (fun σ => ⟨ad_ren rfl, ad_ren rfl, trivial⟩)))) rfl ?_
  refine ao_read trivial (r_andB rfl rfl) rfl ?_
  refine ao_read trivial (r_move rfl) rfl ?_
  refine ao_readG (x := .ref 0 3) rfl (GV.T rfl) (fun hg20 => by
        obtain ⟨q21, q22⟩ := and_t hg20
        obtain ⟨q23, q24⟩ := and_t q21
        exact r_fieldAddr Try.underlying29 rfl Try.sizeOf3 rfl rfl rfl) rfl ?_
  refine ao_readG (x := .int .i64 x0.2.2.2.1) rfl (GV.T rfl) (fun hg25 => by
        obtain ⟨q26, q27⟩ := and_t hg25
        obtain ⟨q28, q29⟩ := and_t q26
        exact Reads.strip 19 rfl (hg25) (r_load_cell Try.isAgg3 rfl rfl rfl)) rfl ?_
  refine ao_scallG (r := .bool (p_spec_l1In x0.2.2.2.1 0 100000)) rfl (GV.T rfl) (fun hg30 => by
        obtain ⟨q31, q32⟩ := and_t hg30
        obtain ⟨q33, q34⟩ := and_t q31
        exact SCall.strip 20 rfl (hg30) (scall (c_spec_l1In (is_mk (rfl : p_spec_l1In x0.2.2.2.1 0 100000 = _))) rfl Try.func62 rfl rfl rfl rfl (fun σ => ⟨ad_ren rfl, ad_ren rfl, ad_ren rfl, trivial⟩))) rfl ?_
  refine ao_read trivial (r_andB rfl rfl) rfl ?_
  refine ao_read trivial (r_move rfl) rfl ?_
  refine ao_readG (x := .ref 0 4) rfl (GV.T rfl) (fun hg35 => by
        obtain ⟨q36, q37⟩ := and_t hg35
        obtain ⟨q38, q39⟩ := and_t q36
        obtain ⟨q40, q41⟩ := and_t q38
        exact r_fieldAddr Try.underlying29 rfl Try.sizeOf3 rfl rfl rfl) rfl ?_
  refine ao_readG (x := .int .i64 x0.2.2.2.2.1) rfl (GV.T rfl) (fun hg42 => by
        obtain ⟨q43, q44⟩ := and_t hg42
        obtain ⟨q45, q46⟩ := and_t q43
        obtain ⟨q47, q48⟩ := and_t q45
        exact Reads.strip 24 rfl (hg42) (r_load_cell Try.isAgg3 rfl rfl rfl)) rfl ?_
  refine ao_scallG (r := .bool (p_spec_l1In x0.2.2.2.2.1 0 120)) rfl (GV.T rfl) (fun hg49 => by
        obtain ⟨q50, q51⟩ := and_t hg49
        obtain ⟨q52, q53⟩ := and_t q50
        obtain ⟨q54, q55⟩ := and_t q52
        exact SCall.strip 25 rfl (hg49) (scall (c_spec_l1In (is_mk (rfl : p_spec_l1In x0.2.2.2.2.1 0 120 = _))) rfl Try.func62 rfl rfl rfl rfl (fun σ => ⟨ad_ren rfl, ad_ren rfl, ad_ren rfl, trivial⟩))) rfl ?_
  refine ao_read trivial (r_andB rfl rfl) rfl ?_
  refine ao_read trivial (r_move rfl) rfl ?_
  refine ao_readG (x := .ref 0 5) rfl (GV.T rfl) (fun hg56 => by
        obtain ⟨q57, q58⟩ := and_t hg56
        obtain ⟨q59, q60⟩ := and_t q57
        obtain ⟨q61, q62⟩ := and_t q59
        obtain ⟨q63, q64⟩ := and_t q61
        exact r_fieldAddr Try.underlying29 rfl Try.sizeOf3 rfl rfl rfl) rfl ?_
  refine ao_readG (x := .int .i64 x0.2.2.2.2.2.1) rfl (GV.T rfl) (fun hg65 => by
        obtain ⟨q66, q67⟩ := and_t hg65
        obtain ⟨q68, q69⟩ := and_t q66
        obtain ⟨q70, q71⟩ := and_t q68
        obtain ⟨q72, q73⟩ := and_t q70
        exact Reads.strip 29 rfl (hg65) (r_load_cell Try.isAgg3 rfl rfl rfl)) rfl ?_
  refine ao_scallG (r := .bool (p_spec_l1In x0.2.2.2.2.2.1 0 1000)) rfl (GV.T rfl) (fun hg74 => by
        obtain ⟨q75, q76⟩ := and_t hg74
        obtain ⟨q77, q78⟩ := and_t q75
        obtain ⟨q79, q80⟩ := and_t q77
        obtain ⟨q81, q82⟩ := and_t q79
        exact SCall.strip 30 rfl (hg74) (scall (c_spec_l1In (is_mk (rfl : p_spec_l1In x0.2.2.2.2.2.1 0 1000 = _))) rfl Try.func62 rfl rfl rfl rfl (fun σ => ⟨ad_ren rfl, ad_ren rfl, ad_ren rfl, trivial⟩))) rfl ?_
  refine ao_read trivial (r_andB rfl rfl) rfl ?_
  refine ao_read trivial (r_assign rfl) rfl ?_
  refine ao_nil ?_
  refine aq_then ?_
  refine aw_ret ?_
  refine aq_ret ?_
  obtain rfl := is_some h
  exact aq_finx (l := [.tmp 2]) (xs := [.bool (((((r1 && (p_spec_l1In x0.2.1 0 65535)) && (p_spec_l12Last x0.1 x0.2.2.1)) && (p_spec_l1In x0.2.2.2.1 0 100000)) && (p_spec_l1In x0.2.2.2.2.1 0 120)) && (p_spec_l1In x0.2.2.2.2.2.1 0 1000))]) idn [.bool (((((r1 && (p_spec_l1In x0.2.1 0 65535)) && (p_spec_l12Last x0.1 x0.2.2.1)) && (p_spec_l1In x0.2.2.2.1 0 100000)) && (p_spec_l1In x0.2.2.2.2.1 0 120)) && (p_spec_l1In x0.2.2.2.2.2.1 0 1000))] [] rfl (by exact ⟨rfl, trivial⟩) (by exact ⟨ad_ren rfl, trivial⟩) (by exact trivial) rfl (nk rfl) rfl rfl ⟨rfl, rfl⟩
theorem c_spec_l12Dice {x0 : ((List (List Int)) × (Int × ((List Int) × (Int × (Int × (Int × Unit))))))} {x1 : (List (List Int))} {r : ((List (List Int)) × (Int × ((List Int) × (Int × (Int × (Int × Unit))))))} (h : Is (p_spec_l12Dice x0 x1) r) :
    ACallsV Try.prog 83 [.v (.pair (.slice (.arr 6 (.int .i64))) (.pair (.int .i64) (.pair (.slice (.int .i64)) (.pair (.int .i64) (.pair (.int .i64) (.pair (.int .i64) .unit)))))) x0, .v (.slice (.arr 6 (.int .i64))) x1] [] (fun r' H' => r' = .v (.pair (.slice (.arr 6 (.int .i64))) (.pair (.int .i64) (.pair (.slice (.int .i64)) (.pair (.int .i64) (.pair (.int .i64) (.pair (.int .i64) .unit)))))) r ∧ H' = []) := by
  unfold p_spec_l12Dice at h
  refine ac_enterV ⟨10, 0⟩ Try.func83 rfl rfl rfl rfl rfl (fun Γ => ?_)
  refine sl_len_m 1 (x1.length : Int) rfl rfl (fun hl1 => ?_)
  refine aw_seq ?_
  refine aw_region ?_
  refine ao_eff trivial (e_box 0 rfl rfl rfl rfl rfl rfl) rfl ?_
  refine ao_eff trivial (e_alloc 1 (y := .st [.nilsl, .int .i64 0, .nilsl, .int .i64 0, .int .i64 0, .int .i64 0]) Try.zeroValue29 (fun ρ h M => ra_zero_st (t := (.pair (.slice (.arr 6 (.int .i64))) (.pair (.int .i64) (.pair (.slice (.int .i64)) (.pair (.int .i64) (.pair (.int .i64) (.pair (.int .i64) .unit))))))) rfl rfl rfl) rfl rfl rfl rfl rfl) rfl ?_
  refine ao_nil ?_
  refine aq_then ?_
  refine aw_seq ?_
  refine aw_region ?_
  refine ao_read trivial (r_move rfl) rfl ?_
  refine ao_read trivial (r_fieldAddr Try.underlying29 rfl Try.sizeOf22 rfl rfl rfl) rfl ?_
  refine ao_effS trivial (e_store rfl rfl rfl rfl Try.sizeOf22 rfl) ?_
  refine ao_nil ?_
  refine aq_then ?_
  refine aw_seq ?_
  refine aw_region ?_
  refine ao_eff trivial (e_buildSlice (l := []) (t := (.int .i64)) 2 ([] : (List Int)) rfl Try.underlying23 Try.zeroValue3 Try.sizeOf3 rfl rfl rfl rfl rfl rfl rfl) rfl ?_
  refine ao_read trivial (r_fieldAddr Try.underlying29 rfl Try.sizeOf23 rfl rfl rfl) rfl ?_
  refine ao_effS trivial (e_store rfl rfl rfl rfl Try.sizeOf23 rfl) ?_
  refine ao_nil ?_
  refine aq_then ?_
  refine aw_seq ?_
  refine aw_region ?_
  refine ao_read trivial (r_load_st [] [.cell (.v (.slice (.arr 6 (.int .i64))) x1), .cell (.int .i64 x0.2.1), .cell (.os 2), .cell (.int .i64 x0.2.2.2.1), .cell (.int .i64 x0.2.2.2.2.1), .cell (.int .i64 x0.2.2.2.2.2.1)] [] Try.isAgg29 Try.sizeOf29 rfl rfl rfl rfl rfl rfl rfl) rfl ?_
  refine ao_effS trivial (e_store rfl rfl rfl rfl Try.sizeOf29 rfl) ?_
  refine ao_nil ?_
  refine aq_then ?_
  refine aw_ret ?_
  refine aq_ret ?_
  obtain rfl := is_eq h
  exact aq_finV (l := [.cell 4 29]) (xs := [.st [.v (.slice (.arr 6 (.int .i64))) x1, .int .i64 x0.2.1, .os 2, .int .i64 x0.2.2.2.1, .int .i64 x0.2.2.2.2.1, .int .i64 x0.2.2.2.2.2.1]]) idn [.v (.pair (.slice (.arr 6 (.int .i64))) (.pair (.int .i64) (.pair (.slice (.int .i64)) (.pair (.int .i64) (.pair (.int .i64) (.pair (.int .i64) .unit)))))) ((x1, (x0.2.1, ([], (x0.2.2.2.1, (x0.2.2.2.2.1, (x0.2.2.2.2.2.1, ())))))) : ((List (List Int)) × (Int × ((List Int) × (Int × (Int × (Int × Unit)))))))] [] rfl (by exact ⟨⟨⟨_, _, rfl⟩, r_load_st [] [.cell (.v (.slice (.arr 6 (.int .i64))) x1), .cell (.int .i64 x0.2.1), .cell (.os 2), .cell (.int .i64 x0.2.2.2.1), .cell (.int .i64 x0.2.2.2.2.1), .cell (.int .i64 x0.2.2.2.2.2.1)] [] Try.isAgg29 Try.sizeOf29 rfl rfl rfl rfl rfl rfl rfl⟩, trivial⟩) (by exact ⟨ad_st rfl rfl ⟨ad_ren rfl, ad_ren rfl, ad_osB rfl rfl, ad_ren rfl, ad_ren rfl, ad_ren rfl, trivial⟩, trivial⟩) (by exact trivial) rfl (nk rfl) ⟨rfl, rfl⟩
theorem c_spec_l1Own {x0 : (List Int)} {r : (List Int)} (h : Is (p_spec_l1Own x0) (some r)) :
    ACalls Try.prog 69 [.v (.slice (.int .i64)) x0] [] (fun r' H' => r' = .os 0 ∧ H' = [(0, .row (.int .i64) r)]) := by
  unfold p_spec_l1Own at h
  refine ac_enter ⟨6, 0⟩ Try.func69 rfl rfl rfl rfl rfl (fun Γ => ?_)
  refine sl_len_m 0 (x0.length : Int) rfl rfl (fun hl0 => ?_)
  refine aw_seq ?_
  refine aw_region ?_
  refine ao_read trivial (r_assign rfl) rfl ?_
  refine ao_nil ?_
  refine aq_then ?_
  refine aw_seq ?_
  refine aw_region ?_
  refine ao_eff trivial (e_buildSlice (l := []) (t := (.int .i64)) 0 ([] : (List Int)) rfl Try.underlying23 Try.zeroValue3 Try.sizeOf3 rfl rfl rfl rfl rfl rfl rfl) rfl ?_
  refine ao_read trivial (r_move rfl) rfl ?_
  obtain ⟨g1, h⟩ := is_guard h
  refine ao_eff trivial (e_append (t := (.int .i64)) 1 rfl Try.underlying23 (rfl : Try.prog.info? 3 = some _) rfl rfl rfl rfl rfl rfl rfl src_v (show [].length + x0.length ≤ 1000000000 from by (try simp only [List.length_cons, List.length_nil]) <;> omega) rfl rfl) rfl ?_
  refine ao_read trivial (r_assign rfl) rfl ?_
  refine ao_nil ?_
  refine aq_then ?_
  refine aw_ret ?_
  refine aq_ret ?_
  obtain rfl := is_some h
  exact aq_finx (l := [.tmp 2]) (xs := [.os 1]) (rn [(0, 1)]) [.os 0] [(0, .row (.int .i64) (([] ++ x0) : (List Int)))] rfl (by exact ⟨rfl, trivial⟩) (by exact ⟨ad_ren rfl, trivial⟩) (by exact ⟨⟨_, rfl, rfl⟩, trivial⟩) rfl (nk rfl) rfl rfl ⟨rfl, rfl⟩
theorem c_spec_l12Throw {x0 : (List Int)} {x1 : Int} {r : Int × Int} (h : Is (p_spec_l12Throw x0 x1) (some r)) :
    Scalar Try.prog 98 [.v (.arr 6 (.int .i64)) x0, .int .i64 x1] (.tup [.int .i64 r.1, .int .i64 r.2]) := by
  unfold p_spec_l12Throw at h
  refine ac_enter ⟨16, 0⟩ Try.func98 rfl rfl rfl rfl rfl (fun Γ => ?_)
  refine aw_seq ?_
  refine aw_region ?_
  refine ao_eff trivial (e_box 0 rfl rfl rfl rfl rfl rfl) rfl ?_
  refine ao_read trivial (r_assign rfl) rfl ?_
  refine ao_read trivial (r_assign rfl) rfl ?_
  refine ao_nil ?_
  refine aq_then ?_
  refine aw_seq ?_
  refine aw_region ?_
  refine ao_read trivial (r_move rfl) rfl ?_
  refine ao_read trivial (r_mul rfl rfl) rfl ?_
  refine ao_read trivial (r_add rfl rfl) rfl ?_
  refine ao_read trivial (r_rem rfl rfl (by decide)) rfl ?_
  refine ao_read trivial (r_assign rfl) rfl ?_
  refine ao_nil ?_
  refine aq_then ?_
  refine aw_seq ?_
  obtain ⟨g1, h⟩ := is_guard h
  obtain ⟨g2, h⟩ := is_guard h
  refine aw_drawAll (by kernel_rfl) ?_
  refine an_read 0 (by kernel_rfl) (fun _ _ _ h => h) rfl (by kernel_rfl) trivial (r_move rfl) rfl ?_
  refine an_read 1 (by kernel_rfl) (fun _ _ _ h => h) rfl (by kernel_rfl) trivial (r_move rfl) rfl ?_
  refine an_read 2 (by kernel_rfl) (fun _ _ _ h => h) rfl (by kernel_rfl) trivial (r_quo rfl rfl (by decide)) rfl ?_
  refine an_read 3 (by kernel_rfl) (fun _ _ _ h => h) rfl (by kernel_rfl) trivial (r_rem rfl rfl (by decide)) rfl ?_
  refine an_read 4 (by kernel_rfl) (fun _ _ _ h => h) rfl (by kernel_rfl) trivial (r_idxAddr_arr (i := ((IntKind.wrap .i64 (((IntKind.wrap .i64 ((IntKind.wrap .i64 (25173 * x1)) + 13849)).tmod 65536).tdiv 256)).tmod 6)) Try.underlying76 Try.sizeOf3 rfl rfl (show 0 ≤ ((IntKind.wrap .i64 (((IntKind.wrap .i64 ((IntKind.wrap .i64 (25173 * x1)) + 13849)).tmod 65536).tdiv 256)).tmod 6) from by omega) (show ((IntKind.wrap .i64 (((IntKind.wrap .i64 ((IntKind.wrap .i64 (25173 * x1)) + 13849)).tmod 65536).tdiv 256)).tmod 6) < (6 : Int) from by omega)) rfl ?_
  refine an_read 5 (by kernel_rfl) (fun _ _ _ h => h) rfl (by kernel_rfl) trivial (r_load_elema_int Try.isAgg3 Try.sizeOf3 rfl rfl rfl (show ((IntKind.wrap .i64 (((IntKind.wrap .i64 ((IntKind.wrap .i64 (25173 * x1)) + 13849)).tmod 65536).tdiv 256)).tmod 6).toNat < 6 from by omega)) rfl ?_
  refine an_read 6 (by kernel_rfl) (fun _ _ _ h => h) rfl (by kernel_rfl) trivial (r_assign rfl) rfl ?_
  refine an_read 7 (by kernel_rfl) (fun _ _ _ h => h) rfl (by kernel_rfl) trivial (r_assign rfl) rfl ?_
  refine an_done rfl ?_
  refine aq_then ?_
  refine aw_ret ?_
  refine aq_ret ?_
  obtain rfl := is_some h
  exact aq_finx (l := [.tmp 4, .tmp 5]) (xs := [.int .i64 ((IntKind.wrap .i64 ((IntKind.wrap .i64 (25173 * x1)) + 13849)).tmod 65536), .int .i64 (x0.getD ((IntKind.wrap .i64 (((IntKind.wrap .i64 ((IntKind.wrap .i64 (25173 * x1)) + 13849)).tmod 65536).tdiv 256)).tmod 6).toNat 0)]) idn [.int .i64 ((IntKind.wrap .i64 ((IntKind.wrap .i64 (25173 * x1)) + 13849)).tmod 65536), .int .i64 (x0.getD ((IntKind.wrap .i64 (((IntKind.wrap .i64 ((IntKind.wrap .i64 (25173 * x1)) + 13849)).tmod 65536).tdiv 256)).tmod 6).toNat 0)] [] rfl (by exact ⟨rfl, rfl, trivial⟩) (by exact ⟨ad_ren rfl, ad_ren rfl, trivial⟩) (by exact trivial) rfl (nk rfl) rfl rfl ⟨rfl, rfl⟩
theorem c_spec_l12Add {x0 : (List Int)} {r : Int} (h : Is (p_spec_l12Add x0) r) :
    Scalar Try.prog 60 [.v (.slice (.int .i64)) x0] (.int .i64 r) := by
  unfold p_spec_l12Add at h
  refine ac_enter ⟨18, 0⟩ Try.func60 rfl rfl rfl rfl rfl (fun Γ => ?_)
  refine sl_len_m 0 (x0.length : Int) rfl rfl (fun hl0 => ?_)
  refine aw_seq ?_
  refine aw_region ?_
  refine ao_read trivial (r_assign rfl) rfl ?_
  refine ao_nil ?_
  refine aq_then ?_
  refine aw_seq ?_
  refine aw_region ?_
  refine ao_read trivial (r_assign rfl) rfl ?_
  refine ao_nil ?_
  refine aq_then ?_
  refine aw_seq ?_
  refine aw_seq ?_
  refine aw_region ?_
  refine ao_read trivial (r_assign rfl) rfl ?_
  refine ao_nil ?_
  refine aq_then ?_
  refine aw_block ?_
  refine aw_loop (AL.sub (fr' := [(0, .v (.slice (.int .i64)) x0), (3, .int .i64 0), (4, .int .i64 0)]) (H' := []) (sub_r1 idn (nk rfl) (by kernel_rfl)) (al_cnt (fun i2 (s1 : Int) => [(0, .v (.slice (.int .i64)) x0), (3, .int .i64 s1), (4, .int .i64 i2)]) (fun i2 (s1 : Int) => []) (fun d i2 (s1 : Int) => d = Int.toNat ((x0.length : Int) - i2) ∧ 0 ≤ i2 ∧ i2 ≤ (x0.length : Int)) h ⟨rfl, (by (try simp only [List.length_set, List.length_append, List.length_cons, List.length_nil, List.length_replicate, List.length_take, List.length_drop]) <;> omega), (by (try simp only [List.length_set, List.length_append, List.length_cons, List.length_nil, List.length_replicate, List.length_take, List.length_drop]) <;> omega)⟩ (fun d3 i2 s1 hI h ih3 => ?_)))
  obtain ⟨hd, _, _⟩ := hI
  refine al_round ?_
  refine aw_seq ?_
  refine aw_seq ?_
  refine aw_region ?_
  refine ao_read trivial (r_move rfl) rfl ?_
  refine ao_read trivial (r_move rfl) rfl ?_
  refine ao_read trivial (r_len_vm (x0.length : Int) Try.underlying23 rfl rfl) rfl ?_
  refine ao_read trivial (r_lss rfl rfl) rfl ?_
  refine ao_nil ?_
  refine aq_then ?_
  refine aw_cond rfl (fun hb5 => ?_) (fun hb5 => ?_)
  · have q6 := d_t hb5
    obtain ⟨d3, rfl⟩ : ∃ e, d3 = e + 1 := ⟨d3 - 1, by omega⟩
    replace h := is_cntS h
    refine aw_skip ?_
    refine aq_then ?_
    refine aw_seq ?_
    refine aw_block ?_
    refine aw_region ?_
    refine ao_read trivial (r_move rfl) rfl ?_
    refine ao_read trivial (r_move rfl) rfl ?_
    refine ao_read trivial (r_move rfl) rfl ?_
    refine ao_read trivial (r_idxAddr_int Try.underlying23 Try.sizeOf3 rfl rfl (show 0 ≤ i2 from by omega) (show i2 < (x0.length : Int) from by omega)) rfl ?_
    refine ao_read trivial (r_load_c_int Try.isAgg3 Try.sizeOf3 rfl) rfl ?_
    refine ao_read trivial (r_add rfl rfl) rfl ?_
    refine ao_read trivial (r_assign rfl) rfl ?_
    refine ao_nil ?_
    refine aq_in ?_
    refine aq_then ?_
    refine aw_region ?_
    refine ao_read trivial (r_move rfl) rfl ?_
    refine ao_read trivial (r_addI rfl rfl (wrap_id (by omega) (by omega))) rfl ?_
    refine ao_read trivial (r_assign rfl) rfl ?_
    refine ao_nil ?_
    exact aq_again (AL.sub (sub_r1 idn (nk rfl) (by kernel_rfl)) (ih3 d3 (i2 + 1) (IntKind.wrap .i64 (s1 + (x0.getD i2.toNat 0))) (by omega) ⟨by omega, (by (try simp only [List.length_set, List.length_append, List.length_cons, List.length_nil, List.length_replicate, List.length_take, List.length_drop]) <;> omega), (by (try simp only [List.length_set, List.length_append, List.length_cons, List.length_nil, List.length_replicate, List.length_take, List.length_drop]) <;> omega)⟩ h))
  · have q7 := d_f hb5
    obtain rfl : d3 = 0 := by omega
    replace h := is_cnt0 h
    refine aw_exit ?_
    refine aq_then_exit ?_
    refine aq_then_exit ?_
    refine aq_in_exit ?_
    refine aq_then ?_
    refine aw_seq ?_
    refine aw_region ?_
    refine ao_read trivial (r_move rfl) rfl ?_
    refine ao_read trivial (r_assign rfl) rfl ?_
    refine ao_nil ?_
    refine aq_then ?_
    refine aw_ret ?_
    refine aq_ret ?_
    obtain rfl := is_eq h
    exact aq_finx (l := [.tmp 2]) (xs := [.int .i64 s1]) idn [.int .i64 s1] [] rfl (by exact ⟨rfl, trivial⟩) (by exact ⟨ad_ren rfl, trivial⟩) (by exact trivial) rfl (nk rfl) rfl rfl ⟨rfl, rfl⟩
theorem c_spec_l1Most {x0 : Int} {x1 : Int} {r : Int} (h : Is (p_spec_l1Most x0 x1) r) :
    Scalar Try.prog 78 [.int .i64 x0, .int .i64 x1] (.int .i64 r) := by
  unfold p_spec_l1Most at h
  refine ac_enter ⟨10, 0⟩ Try.func78 rfl rfl rfl rfl rfl (fun Γ => ?_)
  refine aw_seq ?_
  refine aw_region ?_
  refine ao_read trivial (r_assign rfl) rfl ?_
  refine ao_nil ?_
  refine aq_then ?_
  refine aw_seq ?_
  refine aw_seq ?_
  refine aw_region ?_
  refine ao_read trivial (r_move rfl) rfl ?_
  refine ao_read trivial (r_move rfl) rfl ?_
  refine ao_read trivial (r_gtr rfl rfl) rfl ?_
  refine ao_nil ?_
  refine aq_then ?_
  refine aw_cond rfl (fun hb1 => ?_) (fun hb1 => ?_)
  · have q2 := d_t hb1
    replace h := is_if (d_t hb1) h
    refine aw_seq ?_
    refine aw_region ?_
    refine ao_read trivial (r_move rfl) rfl ?_
    refine ao_read trivial (r_assign rfl) rfl ?_
    refine ao_nil ?_
    refine aq_then ?_
    refine aw_ret ?_
    refine aq_then_ret ?_
    refine aq_ret ?_
    obtain rfl := is_eq h
    exact aq_finx (l := [.tmp 4]) (xs := [.int .i64 x0]) idn [.int .i64 x0] [] rfl (by exact ⟨rfl, trivial⟩) (by exact ⟨ad_ren rfl, trivial⟩) (by exact trivial) rfl (nk rfl) rfl rfl ⟨rfl, rfl⟩
  · have q3 := d_f hb1
    replace h := is_else (d_f hb1) h
    refine aw_skip ?_
    refine aq_then ?_
    refine aw_seq ?_
    refine aw_region ?_
    refine ao_read trivial (r_move rfl) rfl ?_
    refine ao_read trivial (r_assign rfl) rfl ?_
    refine ao_nil ?_
    refine aq_then ?_
    refine aw_ret ?_
    refine aq_ret ?_
    obtain rfl := is_eq h
    exact aq_finx (l := [.tmp 4]) (xs := [.int .i64 x1]) idn [.int .i64 x1] [] rfl (by exact ⟨rfl, trivial⟩) (by exact ⟨ad_ren rfl, trivial⟩) (by exact trivial) rfl (nk rfl) rfl rfl ⟨rfl, rfl⟩
theorem c_spec_l12Rolled {fu : Nat} {x0 : ((List (List Int)) × (Int × ((List Int) × (Int × (Int × (Int × Unit))))))} {x1 : Int} {x2 : Int} {r : ((List (List Int)) × (Int × ((List Int) × (Int × (Int × (Int × Unit))))))} (h : Is (p_spec_l12Rolled fu x0 x1 x2) (some r)) :
    ACallsV Try.prog 82 [.v (.pair (.slice (.arr 6 (.int .i64))) (.pair (.int .i64) (.pair (.slice (.int .i64)) (.pair (.int .i64) (.pair (.int .i64) (.pair (.int .i64) .unit)))))) x0, .int .i64 x1, .int .i64 x2] [] (fun r' H' => r' = .v (.pair (.slice (.arr 6 (.int .i64))) (.pair (.int .i64) (.pair (.slice (.int .i64)) (.pair (.int .i64) (.pair (.int .i64) (.pair (.int .i64) .unit)))))) r ∧ H' = []) := by
  unfold p_spec_l12Rolled at h
  refine ac_enterV ⟨68, 0⟩ Try.func82 rfl rfl rfl rfl rfl (fun Γ => ?_)
  refine aw_seq ?_
  refine aw_region ?_
  refine ao_eff trivial (e_box 0 rfl rfl rfl rfl rfl rfl) rfl ?_
  refine ao_eff trivial (e_alloc 1 (y := .st [.nilsl, .int .i64 0, .nilsl, .int .i64 0, .int .i64 0, .int .i64 0]) Try.zeroValue29 (fun ρ h M => ra_zero_st (t := (.pair (.slice (.arr 6 (.int .i64))) (.pair (.int .i64) (.pair (.slice (.int .i64)) (.pair (.int .i64) (.pair (.int .i64) (.pair (.int .i64) .unit))))))) rfl rfl rfl) rfl rfl rfl rfl rfl) rfl ?_
  refine ao_nil ?_
  refine aq_then ?_
  refine aw_seq ?_
  refine aw_region ?_
  refine ao_read trivial (r_fieldAddr Try.underlying29 rfl Try.sizeOf23 rfl rfl rfl) rfl ?_
  refine ao_read trivial (r_load_cell Try.isAgg23 rfl rfl rfl) rfl ?_
  obtain ⟨r1, r1h, h⟩ := is_bind h
  refine ao_call [] 2 trivial (c_spec_l1Own (is_mk r1h)) Try.func69 rfl rfl rfl rfl ⟨ad_ren rfl, trivial⟩ trivial rfl rfl rfl rfl rfl rfl rfl (fun r' H' hr => ?_)
  obtain ⟨rfl, rfl⟩ := hr
  refine ao_norm (y := .os 2) (H' := [(1, .var [.cell (.nilsl), .cell (.int .i64 0), .cell (.nilsl), .cell (.int .i64 0), .cell (.int .i64 0), .cell (.int .i64 0)]), (0, .var [.cell (.v (.slice (.arr 6 (.int .i64))) x0.1), .cell (.int .i64 x0.2.1), .cell (.v (.slice (.int .i64)) x0.2.2.1), .cell (.int .i64 x0.2.2.2.1), .cell (.int .i64 x0.2.2.2.2.1), .cell (.int .i64 x0.2.2.2.2.2.1)]), (2, .row (.int .i64) r1)]) rfl rfl ?_
  refine row_len_o 2 (r1.length : Int) rfl rfl (fun hr2 => ?_)
  refine ao_read trivial (r_assign rfl) rfl ?_
  refine ao_nil ?_
  refine aq_then ?_
  refine aw_seq ?_
  refine aw_seq ?_
  refine aw_region ?_
  refine ao_read trivial (r_assign rfl) rfl ?_
  refine ao_nil ?_
  refine aq_then ?_
  refine aw_block ?_
  refine aw_loop (AL.sub (sub_r1 idn (nk rfl) (by kernel_rfl)) (al_whl (fun (s3 : Int × Int × (List Int)) => [(1, .int .i64 x1), (2, .int .i64 x2), (3, .ref 0 0), (6, .ref 1 0), (7, .os 2), (8, .int .i64 s3.1)]) (fun (s3 : Int × Int × (List Int)) => [(0, .var [.cell (.v (.slice (.arr 6 (.int .i64))) x0.1), .cell (.int .i64 s3.2.1), .cell (.v (.slice (.int .i64)) x0.2.2.1), .cell (.int .i64 x0.2.2.2.1), .cell (.int .i64 x0.2.2.2.2.1), .cell (.int .i64 x0.2.2.2.2.2.1)]), (1, .var [.cell (.nilsl), .cell (.int .i64 0), .cell (.nilsl), .cell (.int .i64 0), .cell (.int .i64 0), .cell (.int .i64 0)]), (2, .row (.int .i64) s3.2.2)]) (fun (s3 : Int × Int × (List Int)) => True) h trivial (fun d5 s3 hI h ih5 => ?_)))
  replace h := is_whlS h
  refine al_round ?_
  refine aw_seq ?_
  refine aw_seq ?_
  refine aw_region ?_
  refine ao_read trivial (r_move rfl) rfl ?_
  refine ao_read trivial (r_fieldAddr Try.underlying29 rfl Try.sizeOf22 rfl rfl rfl) rfl ?_
  refine ao_read trivial (r_load_cell Try.isAgg22 rfl rfl rfl) rfl ?_
  refine ao_read trivial (r_len_vm (x0.1.length : Int) Try.underlying22 rfl rfl) rfl ?_
  refine ao_read trivial (r_lss rfl rfl) rfl ?_
  refine ao_nil ?_
  refine aq_then ?_
  refine aw_cond rfl (fun hb7 => ?_) (fun hb7 => ?_)
  · have q8 := d_t hb7
    replace h := is_if (d_t hb7) h
    refine aw_skip ?_
    refine aq_then ?_
    refine aw_seq ?_
    refine aw_block ?_
    refine aw_join (fun (s10 : (List Int)) => [(1, .int .i64 x1), (2, .int .i64 x2), (3, .ref 0 0), (6, .ref 1 0), (7, .os 2), (8, .int .i64 s3.1)]) (fun (s10 : (List Int)) => [(0, .var [.cell (.v (.slice (.arr 6 (.int .i64))) x0.1), .cell (.int .i64 s3.2.1), .cell (.v (.slice (.int .i64)) x0.2.2.1), .cell (.int .i64 x0.2.2.2.1), .cell (.int .i64 x0.2.2.2.2.1), .cell (.int .i64 x0.2.2.2.2.2.1)]), (1, .var [.cell (.nilsl), .cell (.int .i64 0), .cell (.nilsl), .cell (.int .i64 0), .cell (.int .i64 0), .cell (.int .i64 0)]), (2, .row (.int .i64) s10)]) (fun (s10 : (List Int)) => True) h (fun s10 hI h => ?_) (fun h j12 => ?_)
    · refine aw_seq ?_
      refine aw_region ?_
      refine ao_read trivial (r_move rfl) rfl ?_
      refine ao_read trivial (r_move rfl) rfl ?_
      obtain ⟨g13, h⟩ := is_guard h
      refine ao_read trivial (r_shr rfl rfl (by omega)) rfl ?_
      refine ao_read trivial (r_and rfl rfl) rfl ?_
      refine ao_read trivial (r_eql rfl rfl) rfl ?_
      refine ao_nil ?_
      refine aq_then ?_
      refine aw_cond rfl (fun hb14 => ?_) (fun hb14 => ?_)
      · have q15 := d_t hb14
        replace h := is_if (d_t hb14) h
        refine aw_seq ?_
        obtain ⟨r17, r17h, h⟩ := is_bind h
        refine aw_drawAll (by kernel_rfl) ?_
        refine an_read 0 (by kernel_rfl) (fun _ _ _ h => h) rfl (by kernel_rfl) trivial (r_fieldAddr Try.underlying29 rfl Try.sizeOf22 rfl rfl rfl) rfl ?_
        refine an_read 1 (by kernel_rfl) (fun _ _ _ h => h) rfl (by kernel_rfl) trivial (r_load_cell Try.isAgg22 rfl rfl rfl) rfl ?_
        refine an_read 2 (by kernel_rfl) (fun _ _ _ h => h) rfl (by kernel_rfl) trivial (r_move rfl) rfl ?_
        refine an_read 3 (by kernel_rfl) (fun _ _ _ h => h) rfl (by kernel_rfl) trivial (r_idxAddr (t := (.arr 6 (.int .i64))) Try.underlying22 Try.sizeOf76 rfl rfl (show 0 ≤ s3.1 from by omega) (show s3.1 < (x0.1.length : Int) from by omega)) rfl ?_
        refine an_read 4 (by kernel_rfl) (fun _ _ _ h => h) rfl (by kernel_rfl) trivial (r_load_c (t := (.arr 6 (.int .i64))) Try.isAgg76 Try.sizeOf76 rfl) rfl ?_
        refine an_read 5 (by kernel_rfl) (fun _ _ _ h => h) rfl (by kernel_rfl) trivial (r_fieldAddr Try.underlying29 rfl Try.sizeOf3 rfl rfl rfl) rfl ?_
        refine an_read 6 (by kernel_rfl) (fun _ _ _ h => h) rfl (by kernel_rfl) trivial (r_load_cell Try.isAgg3 rfl rfl rfl) rfl ?_
        refine an_scall 7 (by kernel_rfl) (fun _ _ _ h => h) rfl (by kernel_rfl) trivial (scall (c_spec_l12Throw (is_mk r17h)) rfl Try.func98 rfl rfl rfl rfl (fun σ => ⟨ad_ren rfl, ad_ren rfl, trivial⟩)) rfl ?_
        refine an_read 8 (by kernel_rfl) (fun _ _ _ h => h) rfl (by kernel_rfl) trivial (r_move rfl) rfl ?_
        refine an_read 9 (by kernel_rfl) (fun _ _ _ h => h) rfl (by kernel_rfl) trivial (r_extract rfl rfl) rfl ?_
        refine an_read 10 (by kernel_rfl) (fun _ _ _ h => h) rfl (by kernel_rfl) trivial (r_extract rfl rfl) rfl ?_
        refine an_read 11 (by kernel_rfl) (fun _ _ _ h => h) rfl (by kernel_rfl) trivial (r_assign rfl) rfl ?_
        refine an_read 12 (by kernel_rfl) (fun _ _ _ h => h) rfl (by kernel_rfl) trivial (r_assign rfl) rfl ?_
        refine an_done rfl ?_
        refine aq_then ?_
        refine aw_seq ?_
        refine aw_region ?_
        refine ao_read trivial (r_move rfl) rfl ?_
        refine ao_read trivial (r_fieldAddr Try.underlying29 rfl Try.sizeOf3 rfl rfl rfl) rfl ?_
        refine ao_effS trivial (e_store rfl rfl rfl rfl Try.sizeOf3 rfl) ?_
        refine ao_nil ?_
        refine aq_then ?_
        refine aw_region ?_
        refine ao_read trivial (r_move rfl) rfl ?_
        refine ao_read trivial (r_move rfl) rfl ?_
        refine ao_read trivial (r_move rfl) rfl ?_
        obtain ⟨g18, h⟩ := is_guard h
        refine ao_read trivial (r_idxAddr_os Try.underlying23 Try.sizeOf3 rfl rfl rfl (show 0 ≤ s3.1 from by omega) (show s3.1 < (s10.length : Int) from by omega)) rfl ?_
        refine ao_effS trivial (e_store_elem_int Try.sizeOf3 rfl rfl rfl rfl (show s3.1.toNat < s10.length from by omega) rfl) ?_
        refine ao_nil ?_
        refine aq_in ?_
        refine aq_then ?_
        refine aw_region ?_
        refine ao_read trivial (r_move rfl) rfl ?_
        refine ao_read trivial (r_add rfl rfl) rfl ?_
        refine ao_read trivial (r_assign rfl) rfl ?_
        refine ao_nil ?_
        exact aq_again (AL.sub (sub_r1 idn (nk rfl) (by kernel_rfl)) (ih5 ((IntKind.wrap .i64 (s3.1 + 1)), r17.1, (s10.set s3.1.toNat r17.2)) trivial h))
      · have q16 := d_f hb14
        replace h := is_else (d_f hb14) h
        refine aw_skip ?_
        refine aq_in ?_
        refine aq_then ?_
        refine aw_region ?_
        refine ao_read trivial (r_move rfl) rfl ?_
        refine ao_read trivial (r_add rfl rfl) rfl ?_
        refine ao_read trivial (r_assign rfl) rfl ?_
        refine ao_nil ?_
        exact aq_again (AL.sub (sub_r1 idn (nk rfl) (by kernel_rfl)) (ih5 ((IntKind.wrap .i64 (s3.1 + 1)), s3.2.1, s10) trivial h))
    · refine aw_seq ?_
      refine aw_region ?_
      refine ao_read trivial (r_move rfl) rfl ?_
      refine ao_read trivial (r_len_osm (s3.2.2.length : Int) Try.underlying23 rfl rfl rfl) rfl ?_
      refine ao_read trivial (r_move rfl) rfl ?_
      refine ao_read trivial (r_leq rfl rfl) rfl ?_
      refine ao_nil ?_
      refine aq_then ?_
      refine aw_cond rfl (fun hb19 => ?_) (fun hb19 => ?_)
      · have q20 := d_t hb19
        replace h := is_if (d_t hb19) h
        refine aw_region ?_
        refine ao_read trivial (r_move rfl) rfl ?_
        refine ao_eff trivial (e_buildSlice (l := [(0, .const (.int .i64 0))]) (t := (.int .i64)) 3 ([0] : (List Int)) rfl Try.underlying23 Try.zeroValue3 Try.sizeOf3 rfl rfl rfl rfl rfl rfl rfl) rfl ?_
        obtain ⟨g22, h⟩ := is_guard h
        refine ao_eff trivial (e_append (t := (.int .i64)) 4 rfl Try.underlying23 (rfl : Try.prog.info? 3 = some _) rfl rfl rfl rfl rfl rfl rfl (src_os rfl) (show s3.2.2.length + ([0] : (List Int)).length ≤ 1000000000 from by (try simp only [List.length_cons, List.length_nil]) <;> omega) rfl rfl) rfl ?_
        refine ao_read trivial (r_assign rfl) rfl ?_
        refine ao_nil ?_
        exact aq_then (AW.sub (sub_r1 (rn [(2, 4)]) (nk rfl) (by kernel_rfl)) (j12 (s3.2.2 ++ [0]) trivial h))
      · have q21 := d_f hb19
        replace h := is_else (d_f hb19) h
        refine aw_skip ?_
        exact aq_then (AW.sub (sub_r1 idn (nk rfl) (by kernel_rfl)) (j12 s3.2.2 trivial h))
  · have q9 := d_f hb7
    replace h := is_else (d_f hb7) h
    refine aw_exit ?_
    refine aq_then_exit ?_
    refine aq_then_exit ?_
    refine aq_in_exit ?_
    refine aq_then ?_
    refine aw_seq ?_
    refine aw_region ?_
    refine ao_read trivial (r_move rfl) rfl ?_
    refine ao_read trivial (r_fieldAddr Try.underlying29 rfl Try.sizeOf23 rfl rfl rfl) rfl ?_
    refine ao_effS trivial (e_store rfl rfl rfl rfl Try.sizeOf23 rfl) ?_
    refine ao_nil ?_
    refine aq_then ?_
    refine aw_seq ?_
    refine aw_region ?_
    refine ao_read trivial (r_move rfl) rfl ?_
    refine ao_scall trivial (scall (c_spec_l12Add (is_mk (rfl : p_spec_l12Add s3.2.2 = _))) rfl Try.func60 rfl rfl rfl rfl (fun σ => ⟨ad_os0 rfl, trivial⟩)) rfl ?_
    refine ao_read trivial (r_assign rfl) rfl ?_
    refine ao_nil ?_
    refine aq_then ?_
    refine aw_seq ?_
    refine aw_region ?_
    refine ao_read trivial (r_fieldAddr Try.underlying29 rfl Try.sizeOf3 rfl rfl rfl) rfl ?_
    refine ao_read trivial (r_load_cell Try.isAgg3 rfl rfl rfl) rfl ?_
    refine ao_read trivial (r_move rfl) rfl ?_
    refine ao_read trivial (r_add rfl rfl) rfl ?_
    refine ao_read trivial (r_move rfl) rfl ?_
    refine ao_read trivial (r_sub rfl rfl) rfl ?_
    refine ao_read trivial (r_fieldAddr Try.underlying29 rfl Try.sizeOf3 rfl rfl rfl) rfl ?_
    refine ao_effS trivial (e_store rfl rfl rfl rfl Try.sizeOf3 rfl) ?_
    refine ao_nil ?_
    refine aq_then ?_
    refine aw_seq ?_
    refine aw_region ?_
    refine ao_read trivial (r_fieldAddr Try.underlying29 rfl Try.sizeOf3 rfl rfl rfl) rfl ?_
    refine ao_read trivial (r_load_cell Try.isAgg3 rfl rfl rfl) rfl ?_
    refine ao_read trivial (r_move rfl) rfl ?_
    refine ao_scall trivial (scall (c_spec_l1Most (is_mk (rfl : p_spec_l1Most x0.2.2.2.2.1 (p_spec_l12Add s3.2.2) = _))) rfl Try.func78 rfl rfl rfl rfl (fun σ => ⟨ad_ren rfl, ad_ren rfl, trivial⟩)) rfl ?_
    refine ao_read trivial (r_fieldAddr Try.underlying29 rfl Try.sizeOf3 rfl rfl rfl) rfl ?_
    refine ao_effS trivial (e_store rfl rfl rfl rfl Try.sizeOf3 rfl) ?_
    refine ao_nil ?_
    refine aq_then ?_
    refine aw_seq ?_
    refine aw_region ?_
    refine ao_read trivial (r_load_st [] [.cell (.v (.slice (.arr 6 (.int .i64))) x0.1), .cell (.int .i64 s3.2.1), .cell (.os 2), .cell (.int .i64 (IntKind.wrap .i64 ((IntKind.wrap .i64 (x0.2.2.2.1 + (p_spec_l12Add s3.2.2))) - x2))), .cell (.int .i64 (p_spec_l1Most x0.2.2.2.2.1 (p_spec_l12Add s3.2.2))), .cell (.int .i64 x0.2.2.2.2.2.1)] [] Try.isAgg29 Try.sizeOf29 rfl rfl rfl rfl rfl rfl rfl) rfl ?_
    refine ao_effS trivial (e_store rfl rfl rfl rfl Try.sizeOf29 rfl) ?_
    refine ao_nil ?_
    refine aq_then ?_
    refine aw_ret ?_
    refine aq_ret ?_
    obtain rfl := is_some h
    exact aq_finV (l := [.cell 6 29]) (xs := [.st [.v (.slice (.arr 6 (.int .i64))) x0.1, .int .i64 s3.2.1, .os 2, .int .i64 (IntKind.wrap .i64 ((IntKind.wrap .i64 (x0.2.2.2.1 + (p_spec_l12Add s3.2.2))) - x2)), .int .i64 (p_spec_l1Most x0.2.2.2.2.1 (p_spec_l12Add s3.2.2)), .int .i64 x0.2.2.2.2.2.1]]) idn [.v (.pair (.slice (.arr 6 (.int .i64))) (.pair (.int .i64) (.pair (.slice (.int .i64)) (.pair (.int .i64) (.pair (.int .i64) (.pair (.int .i64) .unit)))))) ((x0.1, (s3.2.1, (s3.2.2, ((IntKind.wrap .i64 ((IntKind.wrap .i64 (x0.2.2.2.1 + (p_spec_l12Add s3.2.2))) - x2)), ((p_spec_l1Most x0.2.2.2.2.1 (p_spec_l12Add s3.2.2)), (x0.2.2.2.2.2.1, ())))))) : ((List (List Int)) × (Int × ((List Int) × (Int × (Int × (Int × Unit)))))))] [] rfl (by exact ⟨⟨⟨_, _, rfl⟩, r_load_st [] [.cell (.v (.slice (.arr 6 (.int .i64))) x0.1), .cell (.int .i64 s3.2.1), .cell (.os 2), .cell (.int .i64 (IntKind.wrap .i64 ((IntKind.wrap .i64 (x0.2.2.2.1 + (p_spec_l12Add s3.2.2))) - x2))), .cell (.int .i64 (p_spec_l1Most x0.2.2.2.2.1 (p_spec_l12Add s3.2.2))), .cell (.int .i64 x0.2.2.2.2.2.1)] [] Try.isAgg29 Try.sizeOf29 rfl rfl rfl rfl rfl rfl rfl⟩, trivial⟩) (by exact ⟨ad_st rfl rfl ⟨ad_ren rfl, ad_ren rfl, ad_osB rfl rfl, ad_ren rfl, ad_ren rfl, ad_ren rfl, trivial⟩, trivial⟩) (by exact trivial) rfl (nk rfl) ⟨rfl, rfl⟩
theorem c_spec_l12Place {x0 : ((List (List Int)) × (Int × ((List Int) × (Int × (Int × (Int × Unit))))))} {x1 : Int} {r : Bool} (h : Is (p_spec_l12Place x0 x1) r) :
    Scalar Try.prog 84 [.v (.pair (.slice (.arr 6 (.int .i64))) (.pair (.int .i64) (.pair (.slice (.int .i64)) (.pair (.int .i64) (.pair (.int .i64) (.pair (.int .i64) .unit)))))) x0, .int .i64 x1] (.bool r) := by
  unfold p_spec_l12Place at h
  refine ac_enter ⟨11, 0⟩ Try.func84 rfl rfl rfl rfl rfl (fun Γ => ?_)
  refine aw_seq ?_
  refine aw_region ?_
  refine ao_eff trivial (e_box 0 rfl rfl rfl rfl rfl rfl) rfl ?_
  refine ao_read trivial (r_assign rfl) rfl ?_
  refine ao_nil ?_
  refine aq_then ?_
  refine aw_seq ?_
  refine aw_region ?_
  refine ao_read trivial (r_move rfl) rfl ?_
  refine ao_read trivial (r_fieldAddr Try.underlying29 rfl Try.sizeOf22 rfl rfl rfl) rfl ?_
  refine ao_read trivial (r_load_cell Try.isAgg22 rfl rfl rfl) rfl ?_
  refine ao_read trivial (r_len_vm (x0.1.length : Int) Try.underlying22 rfl rfl) rfl ?_
  refine ao_read trivial (r_sub rfl rfl) rfl ?_
  refine ao_scall trivial (scall (c_spec_l1In (is_mk (rfl : p_spec_l1In x1 0 (IntKind.wrap .i64 ((x0.1.length : Int) - 1)) = _))) rfl Try.func62 rfl rfl rfl rfl (fun σ => ⟨ad_ren rfl, ad_ren rfl, ad_ren rfl, trivial⟩)) rfl ?_
  refine ao_read trivial (r_assign rfl) rfl ?_
  refine ao_nil ?_
  refine aq_then ?_
  refine aw_ret ?_
  refine aq_ret ?_
  obtain rfl := is_eq h
  exact aq_finx (l := [.tmp 4]) (xs := [.bool (p_spec_l1In x1 0 (IntKind.wrap .i64 ((x0.1.length : Int) - 1)))]) idn [.bool (p_spec_l1In x1 0 (IntKind.wrap .i64 ((x0.1.length : Int) - 1)))] [] rfl (by exact ⟨rfl, trivial⟩) (by exact ⟨ad_ren rfl, trivial⟩) (by exact trivial) rfl (nk rfl) rfl rfl ⟨rfl, rfl⟩
theorem c_spec_ShiftDie {x0 : (List Int)} {x1 : Int} {r : (List Int) × Bool} (h : Is (p_spec_ShiftDie x0 x1) (some r)) :
    Scalar Try.prog 85 [.v (.arr 6 (.int .i64)) x0, .int .i64 x1] (.tup [.v (.arr 6 (.int .i64)) r.1, .bool r.2]) := by
  unfold p_spec_ShiftDie at h
  refine ac_enter ⟨32, 0⟩ Try.func85 rfl rfl rfl rfl rfl (fun Γ => ?_)
  refine aw_seq ?_
  refine aw_region ?_
  refine ao_eff trivial (e_box 0 rfl rfl rfl rfl rfl rfl) rfl ?_
  refine ao_eff trivial (e_alloc 1 (y := .v (.arr 6 (.int .i64)) ((List.replicate 6 0) : (List Int))) Try.zeroValue76 (fun ρ h M => ra_zero_arr (t := (.int .i64)) rfl) rfl rfl rfl rfl rfl) rfl ?_
  refine ao_read trivial (r_assign rfl) rfl ?_
  refine ao_nil ?_
  refine aq_then ?_
  refine aw_seq ?_
  refine aw_seq ?_
  refine aw_region ?_
  refine ao_read trivial (r_load_arr rfl Try.isAgg76 Try.sizeOf76 rfl rfl rfl) rfl ?_
  obtain ⟨r1, r1h, h⟩ := is_bind h
  refine ao_scall trivial (scall (c_spec_l2Die (is_mk r1h)) rfl Try.func80 rfl rfl rfl rfl (fun σ => ⟨ad_ren rfl, trivial⟩)) rfl ?_
  refine ao_read trivial (r_not rfl) rfl ?_
  refine ao_read trivial (r_move rfl) rfl ?_
  refine ao_readG (x := .int .i64 x1) rfl (GV.F rfl) (fun hg2 => r_move rfl) rfl ?_
  refine ao_scallG (r := .bool (p_spec_l1In x1 (-30) 30)) rfl (GV.F rfl) (fun hg3 => SCall.strip 11 rfl (hg3) (scall (c_spec_l1In (is_mk (rfl : p_spec_l1In x1 (-30) 30 = _))) rfl Try.func62 rfl rfl rfl rfl (fun σ => ⟨ad_ren rfl, ad_ren rfl, ad_ren rfl, trivial⟩))) rfl ?_
  refine ao_readG (x := .bool (!(p_spec_l1In x1 (-30) 30))) rfl (GV.F rfl) (fun hg4 => Reads.strip 12 rfl (hg4) (r_not rfl)) rfl ?_
  refine ao_read trivial (r_orB rfl rfl) rfl ?_
  refine ao_nil ?_
  refine aq_then ?_
  refine aw_cond rfl (fun hb5 => ?_) (fun hb5 => ?_)
  · replace h := is_if hb5 h
    refine aw_seq ?_
    refine aw_region ?_
    refine ao_read trivial (r_build_zero (t := (.int .i64)) Try.underlying76 Try.zeroValue76 Try.sizeOf3 rfl) rfl ?_
    refine ao_effS trivial (e_store rfl rfl rfl rfl Try.sizeOf76 rfl) ?_
    refine ao_read trivial (r_assign rfl) rfl ?_
    refine ao_nil ?_
    refine aq_then ?_
    refine aw_ret ?_
    refine aq_then_ret ?_
    refine aq_ret ?_
    obtain rfl := is_some h
    exact aq_finx (l := [.cell 4 76, .tmp 5]) (xs := [.v (.arr 6 (.int .i64)) ((List.replicate 6 0) : (List Int)), .bool false]) idn [.v (.arr 6 (.int .i64)) ((List.replicate 6 0) : (List Int)), .bool false] [] rfl (by exact ⟨⟨⟨_, _, rfl⟩, r_load_arr rfl Try.isAgg76 Try.sizeOf76 rfl rfl rfl⟩, rfl, trivial⟩) (by exact ⟨ad_ren rfl, ad_ren rfl, trivial⟩) (by exact trivial) rfl (nk rfl) rfl rfl ⟨rfl, rfl⟩
  · obtain ⟨q6, q7⟩ := or_f hb5
    replace h := is_else (ne_t hb5) h
    refine aw_skip ?_
    refine aq_then ?_
    refine aw_seq ?_
    refine aw_seq ?_
    refine aw_region ?_
    refine ao_read trivial (r_assign rfl) rfl ?_
    refine ao_nil ?_
    refine aq_then ?_
    refine aw_block ?_
    refine aw_loop (AL.sub (fr' := [(1, .int .i64 x1), (2, .ref 0 0), (4, .ref 1 0), (6, .int .i64 0)]) (H' := [(0, .var [.arr (.int .i64) 6 x0]), (1, .var [.arr (.int .i64) 6 ((List.replicate 6 0) : (List Int))])]) (sub_r1 idn (nk rfl) (by kernel_rfl)) (al_cnt (fun i9 (s8 : (List Int)) => [(1, .int .i64 x1), (2, .ref 0 0), (4, .ref 1 0), (6, .int .i64 i9)]) (fun i9 (s8 : (List Int)) => [(0, .var [.arr (.int .i64) 6 s8]), (1, .var [.arr (.int .i64) 6 ((List.replicate 6 0) : (List Int))])]) (fun d i9 (s8 : (List Int)) => d = Int.toNat (6 - i9) ∧ 0 ≤ i9 ∧ (s8.length : Int) = (x0.length : Int) ∧ i9 ≤ 6) h ⟨rfl, (by (try simp only [List.length_set, List.length_append, List.length_cons, List.length_nil, List.length_replicate, List.length_take, List.length_drop]) <;> omega), (by (try simp only [List.length_set, List.length_append, List.length_cons, List.length_nil, List.length_replicate, List.length_take, List.length_drop]) <;> omega), (by (try simp only [List.length_set, List.length_append, List.length_cons, List.length_nil, List.length_replicate, List.length_take, List.length_drop]) <;> omega)⟩ (fun d10 i9 s8 hI h ih10 => ?_)))
    obtain ⟨hd, _, _, _⟩ := hI
    refine al_round ?_
    refine aw_seq ?_
    refine aw_seq ?_
    refine aw_region ?_
    refine ao_read trivial (r_move rfl) rfl ?_
    refine ao_read trivial (r_lss rfl rfl) rfl ?_
    refine ao_nil ?_
    refine aq_then ?_
    refine aw_cond rfl (fun hb12 => ?_) (fun hb12 => ?_)
    · have q13 := d_t hb12
      obtain ⟨d10, rfl⟩ : ∃ e, d10 = e + 1 := ⟨d10 - 1, by omega⟩
      replace h := is_cntS h
      refine aw_skip ?_
      refine aq_then ?_
      refine aw_seq ?_
      refine aw_block ?_
      refine aw_region ?_
      refine ao_read trivial (r_move rfl) rfl ?_
      refine ao_read trivial (r_move rfl) rfl ?_
      refine ao_read trivial (r_idxAddr_arr (i := i9) Try.underlying76 Try.sizeOf3 rfl rfl (show 0 ≤ i9 from by omega) (show i9 < (6 : Int) from by omega)) rfl ?_
      refine ao_read trivial (r_load_elema_int Try.isAgg3 Try.sizeOf3 rfl rfl rfl (show i9.toNat < 6 from by omega)) rfl ?_
      refine ao_read trivial (r_move rfl) rfl ?_
      refine ao_read trivial (r_add rfl rfl) rfl ?_
      refine ao_read trivial (r_idxAddr_arr (i := i9) Try.underlying76 Try.sizeOf3 rfl rfl (show 0 ≤ i9 from by omega) (show i9 < (6 : Int) from by omega)) rfl ?_
      refine ao_effS trivial (e_store_elema_int Try.sizeOf3 rfl rfl rfl rfl (show i9.toNat < 6 from by omega) rfl) ?_
      refine ao_nil ?_
      refine aq_in ?_
      refine aq_then ?_
      refine aw_region ?_
      refine ao_read trivial (r_move rfl) rfl ?_
      refine ao_read trivial (r_addI rfl rfl (wrap_id (by omega) (by omega))) rfl ?_
      refine ao_read trivial (r_assign rfl) rfl ?_
      refine ao_nil ?_
      exact aq_again (AL.sub (sub_r1 idn (nk rfl) (by kernel_rfl)) (ih10 d10 (i9 + 1) (s8.set i9.toNat (IntKind.wrap .i64 ((s8.getD i9.toNat 0) + x1))) (by omega) ⟨by omega, (by (try simp only [List.length_set, List.length_append, List.length_cons, List.length_nil, List.length_replicate, List.length_take, List.length_drop]) <;> omega), (by (try simp only [List.length_set, List.length_append, List.length_cons, List.length_nil, List.length_replicate, List.length_take, List.length_drop]) <;> omega), (by (try simp only [List.length_set, List.length_append, List.length_cons, List.length_nil, List.length_replicate, List.length_take, List.length_drop]) <;> omega)⟩ h))
    · have q14 := d_f hb12
      obtain rfl : d10 = 0 := by omega
      replace h := is_cnt0 h
      refine aw_exit ?_
      refine aq_then_exit ?_
      refine aq_then_exit ?_
      refine aq_in_exit ?_
      refine aq_then ?_
      refine aw_seq ?_
      refine aw_seq ?_
      refine aw_region ?_
      refine ao_read trivial (r_load_arr rfl Try.isAgg76 Try.sizeOf76 rfl rfl rfl) rfl ?_
      obtain ⟨r15, r15h, h⟩ := is_bind h
      refine ao_scall trivial (scall (c_spec_l2Die (is_mk r15h)) rfl Try.func80 rfl rfl rfl rfl (fun σ => ⟨ad_ren rfl, trivial⟩)) rfl ?_
      refine ao_read trivial (r_not rfl) rfl ?_
      refine ao_nil ?_
      refine aq_then ?_
      refine aw_cond rfl (fun hb16 => ?_) (fun hb16 => ?_)
      · replace h := is_else (ne_t (not_t hb16)) h
        refine aw_seq ?_
        refine aw_region ?_
        refine ao_read trivial (r_build_zero (t := (.int .i64)) Try.underlying76 Try.zeroValue76 Try.sizeOf3 rfl) rfl ?_
        refine ao_effS trivial (e_store rfl rfl rfl rfl Try.sizeOf76 rfl) ?_
        refine ao_read trivial (r_assign rfl) rfl ?_
        refine ao_nil ?_
        refine aq_then ?_
        refine aw_ret ?_
        refine aq_then_ret ?_
        refine aq_ret ?_
        obtain rfl := is_some h
        exact aq_finx (l := [.cell 4 76, .tmp 5]) (xs := [.v (.arr 6 (.int .i64)) ((List.replicate 6 0) : (List Int)), .bool false]) idn [.v (.arr 6 (.int .i64)) ((List.replicate 6 0) : (List Int)), .bool false] [] rfl (by exact ⟨⟨⟨_, _, rfl⟩, r_load_arr rfl Try.isAgg76 Try.sizeOf76 rfl rfl rfl⟩, rfl, trivial⟩) (by exact ⟨ad_ren rfl, ad_ren rfl, trivial⟩) (by exact trivial) rfl (nk rfl) rfl rfl ⟨rfl, rfl⟩
      · replace h := is_if (not_f hb16) h
        refine aw_skip ?_
        refine aq_then ?_
        refine aw_seq ?_
        refine aw_region ?_
        refine ao_read trivial (r_load_arr rfl Try.isAgg76 Try.sizeOf76 rfl rfl rfl) rfl ?_
        refine ao_effS trivial (e_store rfl rfl rfl rfl Try.sizeOf76 rfl) ?_
        refine ao_read trivial (r_assign rfl) rfl ?_
        refine ao_nil ?_
        refine aq_then ?_
        refine aw_ret ?_
        refine aq_ret ?_
        obtain rfl := is_some h
        exact aq_finx (l := [.cell 4 76, .tmp 5]) (xs := [.v (.arr 6 (.int .i64)) s8, .bool true]) idn [.v (.arr 6 (.int .i64)) s8, .bool true] [] rfl (by exact ⟨⟨⟨_, _, rfl⟩, r_load_arr rfl Try.isAgg76 Try.sizeOf76 rfl rfl rfl⟩, rfl, trivial⟩) (by exact ⟨ad_ren rfl, ad_ren rfl, trivial⟩) (by exact trivial) rfl (nk rfl) rfl rfl ⟨rfl, rfl⟩
theorem c_spec_l2Own {x0 : (List (List Int))} {r : (List (List Int))} (h : Is (p_spec_l2Own x0) (some r)) :
    ACalls Try.prog 68 [.v (.slice (.arr 6 (.int .i64))) x0] [] (fun r' H' => r' = .os 0 ∧ H' = [(0, .row (.arr 6 (.int .i64)) r)]) := by
  unfold p_spec_l2Own at h
  refine ac_enter ⟨6, 0⟩ Try.func68 rfl rfl rfl rfl rfl (fun Γ => ?_)
  refine sl_len_m 0 (x0.length : Int) rfl rfl (fun hl0 => ?_)
  refine aw_seq ?_
  refine aw_region ?_
  refine ao_read trivial (r_assign rfl) rfl ?_
  refine ao_nil ?_
  refine aq_then ?_
  refine aw_seq ?_
  refine aw_region ?_
  refine ao_eff trivial (e_buildSlice (l := []) (t := (.arr 6 (.int .i64))) 0 ([] : (List (List Int))) rfl Try.underlying22 Try.zeroValue76 Try.sizeOf76 rfl rfl rfl rfl rfl rfl rfl) rfl ?_
  refine ao_read trivial (r_move rfl) rfl ?_
  obtain ⟨g1, h⟩ := is_guard h
  refine ao_eff trivial (e_append (t := (.arr 6 (.int .i64))) 1 rfl Try.underlying22 (rfl : Try.prog.info? 76 = some _) rfl rfl rfl rfl rfl rfl rfl src_v (show [].length + x0.length ≤ 1000000000 from by (try simp only [List.length_cons, List.length_nil]) <;> omega) rfl rfl) rfl ?_
  refine ao_read trivial (r_assign rfl) rfl ?_
  refine ao_nil ?_
  refine aq_then ?_
  refine aw_ret ?_
  refine aq_ret ?_
  obtain rfl := is_some h
  exact aq_finx (l := [.tmp 2]) (xs := [.os 1]) (rn [(0, 1)]) [.os 0] [(0, .row (.arr 6 (.int .i64)) (([] ++ x0) : (List (List Int))))] rfl (by exact ⟨rfl, trivial⟩) (by exact ⟨ad_ren rfl, trivial⟩) (by exact ⟨⟨_, rfl, rfl⟩, trivial⟩) rfl (nk rfl) rfl rfl ⟨rfl, rfl⟩
theorem c_spec_l12Dicev1 {x0 : ((List (List Int)) × (Int × ((List Int) × (Int × (Int × (Int × Unit))))))} {x1 : (List (List Int))} {r : ((List (List Int)) × (Int × ((List Int) × (Int × (Int × (Int × Unit))))))} (h : Is (p_spec_l12Dicev1 x0 x1) r) :
    ACalls Try.prog 83 [.v (.pair (.slice (.arr 6 (.int .i64))) (.pair (.int .i64) (.pair (.slice (.int .i64)) (.pair (.int .i64) (.pair (.int .i64) (.pair (.int .i64) .unit)))))) x0, .os 0] [(0, .row (.arr 6 (.int .i64)) x1)] (fun r' H' => r' = .st [.os 1, .int .i64 r.2.1, .os 2, .int .i64 r.2.2.2.1, .int .i64 r.2.2.2.2.1, .int .i64 r.2.2.2.2.2.1] ∧ H' = [(1, .row (.arr 6 (.int .i64)) r.1), (2, .row (.int .i64) r.2.2.1)]) := by
  unfold p_spec_l12Dicev1 at h
  refine ac_enter ⟨10, 1⟩ Try.func83 rfl rfl rfl rfl rfl (fun Γ => ?_)
  refine row_len_m 0 (x1.length : Int) rfl rfl (fun hr0 => ?_)
  refine aw_seq ?_
  refine aw_region ?_
  refine ao_eff trivial (e_box 1 rfl rfl rfl rfl rfl rfl) rfl ?_
  refine ao_eff trivial (e_alloc 2 (y := .st [.nilsl, .int .i64 0, .nilsl, .int .i64 0, .int .i64 0, .int .i64 0]) Try.zeroValue29 (fun ρ h M => ra_zero_st (t := (.pair (.slice (.arr 6 (.int .i64))) (.pair (.int .i64) (.pair (.slice (.int .i64)) (.pair (.int .i64) (.pair (.int .i64) (.pair (.int .i64) .unit))))))) rfl rfl rfl) rfl rfl rfl rfl rfl) rfl ?_
  refine ao_nil ?_
  refine aq_then ?_
  refine aw_seq ?_
  refine aw_region ?_
  refine ao_read trivial (r_move rfl) rfl ?_
  refine ao_read trivial (r_fieldAddr Try.underlying29 rfl Try.sizeOf22 rfl rfl rfl) rfl ?_
  refine ao_effS trivial (e_store rfl rfl rfl rfl Try.sizeOf22 rfl) ?_
  refine ao_nil ?_
  refine aq_then ?_
  refine aw_seq ?_
  refine aw_region ?_
  refine ao_eff trivial (e_buildSlice (l := []) (t := (.int .i64)) 3 ([] : (List Int)) rfl Try.underlying23 Try.zeroValue3 Try.sizeOf3 rfl rfl rfl rfl rfl rfl rfl) rfl ?_
  refine ao_read trivial (r_fieldAddr Try.underlying29 rfl Try.sizeOf23 rfl rfl rfl) rfl ?_
  refine ao_effS trivial (e_store rfl rfl rfl rfl Try.sizeOf23 rfl) ?_
  refine ao_nil ?_
  refine aq_then ?_
  refine aw_seq ?_
  refine aw_region ?_
  refine ao_read trivial (r_load_st [] [.cell (.os 0), .cell (.int .i64 x0.2.1), .cell (.os 3), .cell (.int .i64 x0.2.2.2.1), .cell (.int .i64 x0.2.2.2.2.1), .cell (.int .i64 x0.2.2.2.2.2.1)] [] Try.isAgg29 Try.sizeOf29 rfl rfl rfl rfl rfl rfl rfl) rfl ?_
  refine ao_effS trivial (e_store rfl rfl rfl rfl Try.sizeOf29 rfl) ?_
  refine ao_nil ?_
  refine aq_then ?_
  refine aw_ret ?_
  refine aq_ret ?_
  obtain rfl := is_eq h
  exact aq_finx (l := [.cell 4 29]) (xs := [.st [.os 0, .int .i64 x0.2.1, .os 3, .int .i64 x0.2.2.2.1, .int .i64 x0.2.2.2.2.1, .int .i64 x0.2.2.2.2.2.1]]) (rn [(1, 0), (2, 3)]) [.st [.os 1, .int .i64 x0.2.1, .os 2, .int .i64 x0.2.2.2.1, .int .i64 x0.2.2.2.2.1, .int .i64 x0.2.2.2.2.2.1]] [(1, .row (.arr 6 (.int .i64)) x1), (2, .row (.int .i64) ([] : (List Int)))] rfl (by exact ⟨⟨⟨_, _, rfl⟩, r_load_st [] [.cell (.os 0), .cell (.int .i64 x0.2.1), .cell (.os 3), .cell (.int .i64 x0.2.2.2.1), .cell (.int .i64 x0.2.2.2.2.1), .cell (.int .i64 x0.2.2.2.2.2.1)] [] Try.isAgg29 Try.sizeOf29 rfl rfl rfl rfl rfl rfl rfl⟩, trivial⟩) (by exact ⟨ad_ren rfl, trivial⟩) (by exact ⟨⟨_, rfl, rfl⟩, ⟨_, rfl, rfl⟩, trivial⟩) rfl (nk1 rfl rfl) rfl rfl ⟨rfl, rfl⟩
end Go.GA
