/- Walks: what the Go functions compute, by the printed lines below; no further conditions. -/
import Derived.Test.YtddljmnmkiofmaaC8bw
namespace Go.GA
open Go Go.Proofs
set_option maxRecDepth 100000
set_option maxHeartbeats 2000000
set_option linter.unusedVariables false
set_option linter.unusedSimpArgs false
theorem c_laws_vCut {x0 : (List Int)} {x1 : Int} {r : (List Int)} (h : Is (p_laws_vCut x0 x1) (some r)) :
    ACalls Try.prog 16 [.v (.slice (.int .u8)) x0, .int .i64 x1] [] (fun r' H' => r' = .os 0 ∧ H' = [(0, .row (.int .u8) r)]) := by
  unfold p_laws_vCut at h
  refine ac_enter ⟨20, 0⟩ Try.func16 rfl rfl rfl rfl rfl (fun Γ => ?_)
  refine sl_len_m 0 (x0.length : Int) rfl rfl (fun hl0 => ?_)
  refine aw_seq ?_
  refine aw_region ?_
  refine ao_read trivial (r_assign rfl) rfl ?_
  refine ao_nil ?_
  refine aq_then ?_
  refine aw_join (fun (s1 : Int) => [(0, .v (.slice (.int .u8)) x0), (1, .int .i64 s1)]) (fun (s1 : Int) => []) (fun (s1 : Int) => True) h (fun s1 hI h => ?_) (fun h j3 => ?_)
  · refine aw_seq ?_
    refine aw_region ?_
    refine ao_eff trivial (e_buildSlice (l := []) (t := (.int .u8)) 0 ([] : (List Int)) rfl Try.underlying22 Try.zeroValue5 Try.sizeOf5 rfl rfl rfl rfl rfl rfl rfl) rfl ?_
    refine ao_read trivial (r_move rfl) rfl ?_
    refine ao_read trivial (r_move rfl) rfl ?_
    obtain ⟨g4, h⟩ := is_guard h
    obtain ⟨g5, h⟩ := is_guard h
    refine ao_read trivial (r_slice_vm (t := (.int .u8)) ((x0.drop s1.toNat) : (List Int)) Try.underlying22 Try.sizeOf5 rfl (.some rfl) .none (show 0 ≤ s1 from by omega) (show s1 ≤ (x0.length : Int) from by omega) (show (x0.length : Int) ≤ (x0.length : Int) from by omega) sl_hi) rfl ?_
    obtain ⟨g6, h⟩ := is_guard h
    refine ao_eff trivial (e_append (t := (.int .u8)) 1 rfl Try.underlying22 (rfl : Try.prog.info? 5 = some _) rfl rfl rfl rfl rfl rfl rfl src_v (show [].length + (x0.drop s1.toNat).length ≤ 1000000000 from by (try simp only [List.length_cons, List.length_nil, List.length_drop]) <;> omega) rfl rfl) rfl ?_
    refine ao_read trivial (r_move rfl) rfl ?_
    refine ao_read trivial (r_conv Try.underlying3 Try.underlying5 rfl) rfl ?_
    refine ao_eff trivial (e_buildSlice (l := [(0, .tmp 17)]) (t := (.int .u8)) 2 ([(IntKind.wrap .u8 s1)] : (List Int)) rfl Try.underlying22 Try.zeroValue5 Try.sizeOf5 rfl rfl rfl rfl rfl rfl rfl) rfl ?_
    obtain ⟨g7, h⟩ := is_guard h
    refine ao_eff trivial (e_append (t := (.int .u8)) 3 rfl Try.underlying22 (rfl : Try.prog.info? 5 = some _) rfl rfl rfl rfl rfl rfl rfl (src_os rfl) (show ([] ++ (x0.drop s1.toNat)).length + ([(IntKind.wrap .u8 s1)] : (List Int)).length ≤ 1000000000 from by (try simp only [List.length_append, List.length_cons, List.length_nil, List.length_drop]) <;> omega) rfl rfl) rfl ?_
    refine ao_read trivial (r_assign rfl) rfl ?_
    refine ao_nil ?_
    refine aq_then ?_
    refine aw_ret ?_
    refine aq_ret ?_
    obtain rfl := is_some h
    exact aq_finx (l := [.tmp 4]) (xs := [.os 3]) (rn [(0, 3)]) [.os 0] [(0, .row (.int .u8) ((([] ++ (x0.drop s1.toNat)) ++ [(IntKind.wrap .u8 s1)]) : (List Int)))] rfl (by exact ⟨rfl, trivial⟩) (by exact ⟨ad_ren rfl, trivial⟩) (by exact ⟨⟨_, rfl, rfl⟩, trivial⟩) rfl (nk rfl) rfl rfl ⟨rfl, rfl⟩
  · refine aw_seq ?_
    refine aw_region ?_
    refine ao_read trivial (r_move rfl) rfl ?_
    refine ao_read trivial (r_move rfl) rfl ?_
    refine ao_read trivial (r_len_vm (x0.length : Int) Try.underlying22 rfl rfl) rfl ?_
    refine ao_read trivial (r_gtr rfl rfl) rfl ?_
    refine ao_nil ?_
    refine aq_then ?_
    refine aw_cond rfl (fun hb8 => ?_) (fun hb8 => ?_)
    · have q9 := d_t hb8
      replace h := is_if (d_t hb8) h
      refine aw_region ?_
      refine ao_read trivial (r_move rfl) rfl ?_
      refine ao_read trivial (r_len_vm (x0.length : Int) Try.underlying22 rfl rfl) rfl ?_
      refine ao_read trivial (r_assign rfl) rfl ?_
      refine ao_nil ?_
      exact aq_then (AW.sub (sub_mk idn (by exact ⟨ai rfl, ai rfl, trivial⟩) (by exact trivial) (by rfl) (nk rfl)) (j3 (x0.length : Int) trivial h))
    · have q10 := d_f hb8
      replace h := is_else (d_f hb8) h
      refine aw_skip ?_
      exact aq_then (AW.sub (sub_mk idn (by exact ⟨ai rfl, ai rfl, trivial⟩) (by exact trivial) (by rfl) (nk rfl)) (j3 x1 trivial h))
end Go.GA
