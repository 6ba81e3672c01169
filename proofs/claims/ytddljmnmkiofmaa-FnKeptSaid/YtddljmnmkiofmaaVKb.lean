/- Plain law of FnKept: tables and means of what is kept. -/
import Derived.Test.YtddljmnmkiofmaaVKa
namespace Go.GA
open Go
set_option maxRecDepth 100000
theorem fc_sum : ∀ {l : List Int}, Fc l → 0 ≤ l.sum ∧ l.sum ≤ 30 * l.length
  | [], _ => by simp
  | a :: l, h => by
    have h0 := h a (by simp)
    have := fc_sum (l := l) (fun b hb => h b (by simp [hb]))
    simp only [List.sum_cons, List.length_cons]; omega
theorem fc_take {l : List Int} (h : Fc l) (k : Nat) : Fc (l.take k) := fun a ha => h a (List.mem_of_mem_take ha)
theorem fc_get {l : List Int} (h : Fc l) {k : Nat} (hk : k < l.length) : 0 ≤ l.getD k 0 ∧ l.getD k 0 ≤ 30 := by
  rw [List.getD_eq_getElem?_getD, List.getElem?_eq_getElem hk]
  exact h _ (List.getElem_mem hk)
/-- the outcome in order -/
def R (p : List (List Int)) (n : Nat) : List Int := srt (rollF p n)
def kv (p : List (List Int)) (k n : Nat) : Nat := ((R p n).take k).sum.toNat
def pv (p : List (List Int)) (k n : Nat) : Nat := ((R p n).getD (k - 1) 0).toNat
def valsOf (p : List (List Int)) (v : Nat → Nat) : List Nat := (List.range (6 ^ p.length)).map v
theorem R_len (p : List (List Int)) (n : Nat) : (R p n).length = p.length := by unfold R; rw [srt_len, rollF_len]
theorem roll_eq {p : List (List Int)} (hl : p.length ≤ 4) {fu : Nat} (hf : 64 ≤ fu) {n : Nat} (hn : n ≤ 1000000) : p_spec_l2Roll fu p (n : Int) = some (rollF p n) := rollAt_eq (by omega) hf hn
section
variable {p : List (List Int)} (hd : ∀ d ∈ p, Die6 d)
include hd
theorem R_fc (n : Nat) : Fc (R p n) := srt_fc (rollF_fc hd n)
theorem kv_eq (k n : Nat) : ((R p n).take k).sum = (kv p k n : Int) := by
  have := (fc_sum (fc_take (R_fc hd n) k)).1
  unfold kv; omega
theorem kv_le (hl : p.length ≤ 4) (k n : Nat) : kv p k n ≤ 120 := by
  have := (fc_sum (fc_take (R_fc hd n) k)).2
  rw [kv_eq hd, List.length_take, R_len] at this
  omega
theorem pv_eq {k n : Nat} (h1 : 1 ≤ k) (h2 : k ≤ p.length) : (R p n).getD (k - 1) 0 = (pv p k n : Int) ∧ pv p k n ≤ 30 := by
  have := fc_get (R_fc hd n) (k := k - 1) (by rw [R_len]; omega)
  unfold pv; omega
theorem kv_pv {k n : Nat} (h1 : 1 ≤ k) (h2 : k ≤ p.length) : kv p k n = kv p (k - 1) n + pv p k n := by
  have e1 := kv_eq hd k n
  have e2 := kv_eq hd (k - 1) n
  have e3 := (pv_eq hd (n := n) h1 h2).1
  have hlt : k - 1 < (R p n).length := by rw [R_len]; omega
  have et : (R p n).take k = (R p n).take (k - 1) ++ [(R p n).getD (k - 1) 0] := by
    have := List.take_succ_eq_append_getElem hlt
    rw [show k - 1 + 1 = k by omega] at this
    rw [this, List.getD_eq_getElem?_getD, List.getElem?_eq_getElem hlt]; rfl
  rw [et, List.sum_append, List.sum_singleton, e2, e3] at e1
  omega
theorem pv_anti {k n : Nat} (h1 : 2 ≤ k) (h2 : k ≤ p.length) : pv p k n ≤ pv p (k - 1) n := by
  have e1 := (pv_eq hd (n := n) (by omega) h2).1
  have e2 := (pv_eq hd (k := k - 1) (n := n) (by omega) (by omega)).1
  have hp := srt_pw (rollF p n)
  have hlen := R_len p n
  rw [List.pairwise_iff_getElem] at hp
  have := hp (k - 1 - 1) (k - 1) (by show _ < (R p n).length; omega) (by show _ < (R p n).length; omega) (by omega)
  have g1 : (R p n).getD (k - 1) 0 = (srt (rollF p n))[k - 1]'(by show _ < (R p n).length; omega) := by
    show (srt (rollF p n)).getD (k - 1) 0 = _
    rw [List.getD_eq_getElem?_getD, List.getElem?_eq_getElem]; rfl
  have g2 : (R p n).getD (k - 1 - 1) 0 = (srt (rollF p n))[k - 1 - 1]'(by show _ < (R p n).length; omega) := by
    show (srt (rollF p n)).getD (k - 1 - 1) 0 = _
    rw [List.getD_eq_getElem?_getD, List.getElem?_eq_getElem]; rfl
  rw [← g1, ← g2] at this
  omega
theorem kept1_eq (hl : p.length ≤ 4) {k n : Nat} (hk : k ≤ p.length) {vs : List Nat} (hv : vs.length ≤ 100000) : p_impl_kept_1 (R p n) (tabV 121 vs) (k : Int) = some (tabV 121 (vs ++ [kv p k n])) := by
  unfold p_impl_kept_1
  have hle := kv_le hd hl k n
  have ht : p_impl_total ((R p n).take k) = (kv p k n : Int) := by
    rw [total_eq (fun a ha => (fc_take (R_fc hd n) k a ha).1) (by rw [kv_eq hd]; omega), kv_eq hd]
  rw [if_pos (by omega), if_pos (by rw [R_len]; omega), Int.toNat_natCast, ht, if_pos (by omega), if_pos (by omega), Int.toNat_natCast, tabV_inc (by omega) hv]
theorem placed1_eq (hl : p.length ≤ 4) {k n : Nat} (h1 : 1 ≤ k) (hk : k ≤ p.length) {vs : List Nat} (hv : vs.length ≤ 100000) : p_impl_placed_1 (R p n) (tabV 31 vs) (k : Int) = some (tabV 31 (vs ++ [pv p k n])) := by
  unfold p_impl_placed_1
  obtain ⟨e, hle⟩ := pv_eq hd (n := n) h1 hk
  have ew : IntKind.wrap .i64 ((k : Int) - 1) = ((k - 1 : Nat) : Int) := by rw [wr (by omega) (by omega)]; omega
  rw [ew, if_pos (by omega), if_pos (by rw [R_len]; omega), Int.toNat_natCast, e, if_pos (by omega), if_pos (by omega), Int.toNat_natCast, tabV_inc (by omega) hv]
theorem kept_eq (hl : p.length ≤ 4) {fu : Nat} (hf : 10000 ≤ fu) {k : Nat} (hk : k ≤ p.length) : p_impl_kept fu p (k : Int) = some (tabV 121 (valsOf p (kv p k))) := by
  unfold p_impl_kept p_impl_rolls valsOf
  have h6 : 6 ^ p.length ≤ 1296 := Nat.pow_le_pow_right (n := 6) (by omega) hl
  rw [power_eq (by omega) (by omega), Option.bind_some]
  generalize 6 ^ p.length = M at h6
  have := out_run (L := 121) (M := M) (body := fun (s2 : Int × (List Int)) c4 => (if s2.1 < ((M : Nat) : Int) then (p_impl_rollAt fu p s2.1).bind (fun r9 => (p_slices_SortFunc_int_int fu r9).bind (fun r11 => (p_impl_kept_1 r11 s2.2 (k : Int)).bind (fun r12 => c4 ((IntKind.wrap .i64 (s2.1 + 1)), r12)))) else some s2.2)) (kv p k) (fun n W hn => by
      simp only
      rw [if_pos (by omega), rollAt_eq (by omega) (by omega) (by omega), Option.bind_some, sort_eq (by omega) (by rw [rollF_len]; omega) (rollF_fc hd n), Option.bind_some, show srt (rollF p n) = R p n from rfl, kept1_eq hd hl hk (by simp; omega), Option.bind_some, wr (by omega) (by omega), List.range_succ, List.map_append]
      rfl) (fun T W => by simp) fu 0 (by omega) (by omega)
  rw [List.range_zero, List.map_nil, tabV_nil] at this
  have e0 : ((0 : Nat) : Int) = 0 := rfl
  rw [e0] at this
  rw [this]
  rfl
theorem placed_eq (hl : p.length ≤ 4) {fu : Nat} (hf : 10000 ≤ fu) {k : Nat} (h1 : 1 ≤ k) (hk : k ≤ p.length) : p_impl_placed fu p (k : Int) = some (tabV 31 (valsOf p (pv p k))) := by
  unfold p_impl_placed p_impl_rollsv1 valsOf
  have h6 : 6 ^ p.length ≤ 1296 := Nat.pow_le_pow_right (n := 6) (by omega) hl
  rw [power_eq (by omega) (by omega), Option.bind_some]
  generalize 6 ^ p.length = M at h6
  have := out_run (L := 31) (M := M) (body := fun (s2 : Int × (List Int)) c4 => (if s2.1 < ((M : Nat) : Int) then (p_impl_rollAt fu p s2.1).bind (fun r9 => (p_slices_SortFunc_int_int fu r9).bind (fun r11 => (p_impl_placed_1 r11 s2.2 (k : Int)).bind (fun r12 => c4 ((IntKind.wrap .i64 (s2.1 + 1)), r12)))) else some s2.2)) (pv p k) (fun n W hn => by
      simp only
      rw [if_pos (by omega), rollAt_eq (by omega) (by omega) (by omega), Option.bind_some, sort_eq (by omega) (by rw [rollF_len]; omega) (rollF_fc hd n), Option.bind_some, show srt (rollF p n) = R p n from rfl, placed1_eq hd hl h1 hk (by simp; omega), Option.bind_some, wr (by omega) (by omega), List.range_succ, List.map_append]
      rfl) (fun T W => by simp) fu 0 (by omega) (by omega)
  rw [List.range_zero, List.map_nil, tabV_nil] at this
  have e0 : ((0 : Nat) : Int) = 0 := rfl
  rw [e0] at this
  rw [this]
  rfl
theorem sumk_run (hl : p.length ≤ 4) {k n : Nat} (hk : k ≤ p.length) {Q : Type} (K : Int → Int → Option Q) : cnt (fun i14 (s13 : Int) c15 _ => if i14 < ((R p n).length : Int) then c15 (IntKind.wrap .i64 (s13 + ((R p n).getD i14.toNat 0))) else none) K (Int.toNat ((k : Int) - 0)) 0 0 = K (k : Int) (kv p k n : Int) := by
  refine cnt_ind0 k (fun i s => s = (((R p n).take i).sum)) (fun r => r = K (k : Int) (kv p k n : Int)) (by omega) rfl (fun s hs => by rw [hs, kv_eq hd]) (fun i s c hi hs hc => ?_)
  have hlt : i < (R p n).length := by rw [R_len]; omega
  have et : (R p n).take (i + 1) = (R p n).take i ++ [(R p n).getD i 0] := by
    rw [List.take_succ_eq_append_getElem hlt, List.getD_eq_getElem?_getD, List.getElem?_eq_getElem hlt]; rfl
  have hb := fc_sum (fc_take (R_fc hd n) i)
  have hg := fc_get (R_fc hd n) hlt
  rw [List.length_take, R_len] at hb
  rw [if_pos (by omega), Int.toNat_natCast, hs, wr (by omega) (by omega)]
  refine hc _ ?_
  rw [et, List.sum_append, List.sum_singleton]
theorem l4Kept_eq (hl : p.length ≤ 4) {fu : Nat} (hf : 10000 ≤ fu) {k : Nat} (hk : k ≤ p.length) : p_spec_l4Kept fu p (k : Int) = some (tabV 121 (valsOf p (kv p k))) := by
  unfold p_spec_l4Kept valsOf
  have h6 : 6 ^ p.length ≤ 1296 := Nat.pow_le_pow_right (n := 6) (by omega) hl
  have hpw := all_eq (fu := fu) (n := p.length) (by omega) (by omega)
  rw [hpw]
  generalize 6 ^ p.length = M at h6
  have := out_run (L := 121) (M := M) (body := fun (s1 : Int × (List Int)) c3 => (some ((M : Nat) : Int)).bind (fun r5 => (if s1.1 < r5 then (p_spec_l2Roll fu p s1.1).bind (fun r9 => (p_spec_l4Places fu r9).bind (fun r11 => cnt (fun i14 (s13 : Int) c15 _ => if i14 < (r11.length : Int) then c15 (IntKind.wrap .i64 (s13 + (r11.getD i14.toNat 0))) else none) (fun i14 (s13 : Int) => if 0 ≤ s13 then if s13 < 121 then c3 ((IntKind.wrap .i64 (s1.1 + 1)), (s1.2.set s13.toNat (IntKind.wrap .i64 ((s1.2.getD s13.toNat 0) + 1)))) else none else none) (Int.toNat ((k : Int) - 0)) 0 0)) else some s1.2))) (kv p k) (fun n W hn => by
      have hle := kv_le hd hl k n
      rw [Option.bind_some]
      simp only
      rw [if_pos (by omega), roll_eq hl (by omega) (by omega), Option.bind_some, places_eq (by omega) (by rw [rollF_len]; omega), Option.bind_some, show srt (rollF p n) = R p n from rfl, sumk_run hd hl hk, if_pos (by omega), if_pos (by omega), Int.toNat_natCast, tabV_inc (by omega) (by simp; omega), wr (by omega) (by omega), List.range_succ, List.map_append]
      rfl) (fun T W => by simp) fu 0 (by omega) (by omega)
  rw [List.range_zero, List.map_nil, tabV_nil] at this
  exact this
theorem l4At_eq (hl : p.length ≤ 4) {fu : Nat} (hf : 10000 ≤ fu) {k : Nat} (h1 : 1 ≤ k) (hk : k ≤ p.length) : p_spec_l4At fu p (k : Int) = some (tabV 31 (valsOf p (pv p k))) := by
  unfold p_spec_l4At valsOf
  have h6 : 6 ^ p.length ≤ 1296 := Nat.pow_le_pow_right (n := 6) (by omega) hl
  have hpw := all_eq (fu := fu) (n := p.length) (by omega) (by omega)
  have ew : IntKind.wrap .i64 ((k : Int) - 1) = ((k - 1 : Nat) : Int) := by rw [wr (by omega) (by omega)]; omega
  rw [hpw, ew]
  generalize 6 ^ p.length = M at h6
  have := out_run (L := 31) (M := M) (body := fun (s1 : Int × (List Int)) c3 => (some ((M : Nat) : Int)).bind (fun r5 => (if s1.1 < r5 then (p_spec_l2Roll fu p s1.1).bind (fun r9 => (p_spec_l4Places fu r9).bind (fun r11 => if 0 ≤ ((k - 1 : Nat) : Int) then if ((k - 1 : Nat) : Int) < (r11.length : Int) then if 0 ≤ (r11.getD ((k - 1 : Nat) : Int).toNat 0) then if (r11.getD ((k - 1 : Nat) : Int).toNat 0) < 31 then c3 ((IntKind.wrap .i64 (s1.1 + 1)), (s1.2.set (r11.getD ((k - 1 : Nat) : Int).toNat 0).toNat (IntKind.wrap .i64 ((s1.2.getD (r11.getD ((k - 1 : Nat) : Int).toNat 0).toNat 0) + 1)))) else none else none else none else none)) else some s1.2))) (pv p k) (fun n W hn => by
      obtain ⟨e, hle⟩ := pv_eq hd (n := n) h1 hk
      rw [Option.bind_some]
      simp only
      rw [if_pos (by omega), roll_eq hl (by omega) (by omega), Option.bind_some, places_eq (by omega) (by rw [rollF_len]; omega), Option.bind_some, show srt (rollF p n) = R p n from rfl, if_pos (by omega), if_pos (by rw [R_len]; omega), Int.toNat_natCast, e, if_pos (by omega), if_pos (by omega), Int.toNat_natCast, tabV_inc (by omega) (by simp; omega), wr (by omega) (by omega), List.range_succ, List.map_append]
      rfl) (fun T W => by simp) fu 0 (by omega) (by omega)
  rw [List.range_zero, List.map_nil, tabV_nil] at this
  exact this
end
end Go.GA
