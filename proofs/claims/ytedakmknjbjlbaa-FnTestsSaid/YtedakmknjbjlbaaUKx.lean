/- Plain law of FnTests: none missing, both ways. -/
import Derived.Test.YtedakmknjbjlbaaUKw
namespace Go.GA.E
open Go
set_option maxRecDepth 100000
def FB : List Nat → Nat → Nat × Int → Nat × Int
  | [], _, s => s
  | w :: ws, S, s => FB ws (S / 2) (if S % 2 = 1 then (s.1 + w, -s.2) else s)
theorem FB_snoc (w : Nat) : ∀ (l : List Nat) (S : Nat) (s : Nat × Int), FB (l ++ [w]) S s = if (S / 2 ^ l.length) % 2 = 1 then ((FB l S s).1 + w, -(FB l S s).2) else FB l S s
  | [], S, s => by
    show FB [] (S / 2) (if S % 2 = 1 then (s.1 + w, -s.2) else s) = _
    simp only [FB, List.length_nil, Nat.pow_zero, Nat.div_one]
  | v :: l, S, s => by
    show FB (l ++ [w]) (S / 2) _ = _
    rw [FB_snoc w l, Nat.div_div_eq_div_mul, List.length_cons, Nat.pow_succ, Nat.mul_comm 2]
    rfl
theorem FB_b : ∀ (l : List Nat) (S : Nat) (s : Nat × Int), (FB l S s).1 ≤ s.1 + l.sum ∧ ((FB l S s).2 = s.2 ∨ (FB l S s).2 = -s.2)
  | [], S, s => ⟨Nat.le_refl _, .inl rfl⟩
  | w :: l, S, s => by
    rw [List.sum_cons]
    have e0 : FB (w :: l) S s = FB l (S / 2) (if S % 2 = 1 then (s.1 + w, -s.2) else s) := rfl
    rw [e0]
    by_cases h : S % 2 = 1
    · rw [if_pos h]
      obtain ⟨h1, h2⟩ := FB_b l (S / 2) (s.1 + w, -s.2)
      simp only at h1 h2
      refine ⟨by omega, ?_⟩
      rcases h2 with e | e
      · exact .inr e
      · exact .inl (by rw [e, Int.neg_neg])
    · rw [if_neg h]
      obtain ⟨h1, h2⟩ := FB_b l (S / 2) s
      exact ⟨by omega, h2⟩
def sumI (h : Nat → Int) : Nat → Int
  | 0 => 0
  | k + 1 => sumI h k + h k
theorem sumI_two (h : Nat → Int) : ∀ k, sumI h (2 * k) = sumI (fun j => h (2 * j) + h (2 * j + 1)) k
  | 0 => rfl
  | k + 1 => by
    rw [show 2 * (k + 1) = 2 * k + 1 + 1 by omega]
    simp only [sumI, sumI_two h k]
    omega
theorem sumI_add (f g : Nat → Int) : ∀ k, sumI (fun j => f j + g j) k = sumI f k + sumI g k
  | 0 => rfl
  | k + 1 => by simp only [sumI, sumI_add f g k]; omega
theorem sumI_congr {f g : Nat → Int} : ∀ k, (∀ j, j < k → f j = g j) → sumI f k = sumI g k
  | 0, _ => rfl
  | k + 1, h => by simp only [sumI, sumI_congr k (fun j hj => h j (by omega)), h k (by omega)]
def G (n : Nat) (s : Nat × Int) : Int := s.2 * (((6 - s.1) ^ n : Nat) : Int)
theorem sum_FB (n : Nat) : ∀ (ws : List Nat) (a : Nat) (s : Int), sumI (fun S => G n (FB ws S (a, s))) (2 ^ ws.length) = s * gI ws (6 - a) n
  | [], a, s => by
    show 0 + G n (a, s) = _
    rw [Int.zero_add]; rfl
  | w :: ws, a, s => by
    rw [List.length_cons, Nat.pow_succ, Nat.mul_comm, sumI_two]
    have e : sumI (fun j => G n (FB (w :: ws) (2 * j) (a, s)) + G n (FB (w :: ws) (2 * j + 1) (a, s))) (2 ^ ws.length) = sumI (fun j => G n (FB ws j (a, s)) + G n (FB ws j (a + w, -s))) (2 ^ ws.length) := by
      refine sumI_congr _ (fun j _ => ?_)
      have e1 : FB (w :: ws) (2 * j) (a, s) = FB ws j (a, s) := by
        show FB ws (2 * j / 2) (if 2 * j % 2 = 1 then _ else _) = _
        rw [show 2 * j / 2 = j by omega, if_neg (by omega)]
      have e2 : FB (w :: ws) (2 * j + 1) (a, s) = FB ws j (a + w, -s) := by
        show FB ws ((2 * j + 1) / 2) (if (2 * j + 1) % 2 = 1 then _ else _) = _
        rw [show (2 * j + 1) / 2 = j by omega, if_pos (by omega)]
      rw [e1, e2]
    rw [e, sumI_add, sum_FB n ws a s, sum_FB n ws (a + w) (-s)]
    show _ = s * (gI ws (6 - a) n - gI ws (6 - a - w) n)
    rw [show 6 - (a + w) = 6 - a - w by omega]
    grind
/-! ### the program's parts -/
theorem bit_fin : ∀ S < 64, ∀ i < 6, (andI .i64 (shrI .i64 ((S : Nat) : Int) ((i : Nat) : Int)) 1 = 1) = ((S / 2 ^ i) % 2 = 1) := by decide +kernel
theorem shl_fin : ∀ m < 7, shlI .i64 1 ((m : Nat) : Int) = ((2 ^ m : Nat) : Int) := by decide +kernel
section
variable {x y : List Int} {fu : Nat}
theorem wsF_get {i : Nat} (hi : i < (dd x).length) : (wsF x).take (i + 1) = (wsF x).take i ++ [x.count ((dd x).getD i 0)] := by
  have hwi : i < (wsF x).length := by rw [wsF_len]; omega
  rw [List.take_succ_eq_append_getElem hwi]
  congr 2
  have : (wsF x)[i] = x.count (dd x)[i] := by simp only [wsF, List.getElem_map]
  rw [this, List.getD_eq_getElem?_getD, List.getElem?_eq_getElem hi]
  rfl
theorem take_sum (l : List Nat) (i : Nat) : (l.take i).sum ≤ l.sum := by
  have : l.sum = (l.take i).sum + (l.drop i).sum := by rw [← List.sum_append, List.take_append_drop]
  omega
theorem ph_run (h : x.length = 6) (hd : p_impl_IsDie x = true) {S : Nat} (hS : S < 64) (K : Int × Int → Option Int) :
    cnt (fun i11 (s10 : Int × Int) c12 _ => (p_impl_isIn (S : Int) i11).bind (fun r17 => (if r17 = true then c12 ((IntKind.wrap .i64 (s10.1 + (p_impl_weight x ((dd x).getD i11.toNat 0)))), (IntKind.wrap .i64 (0 - s10.2))) else c12 (s10.1, s10.2)))) (fun i11 (s10 : Int × Int) => K s10) (Int.toNat (((dd x).length : Int) - 0)) 0 (0, 1) = K (((FB (wsF x) S (0, 1)).1 : Int), (FB (wsF x) S (0, 1)).2) := by
  have hdl : (dd x).length ≤ 6 := h ▸ dd_len x
  refine cnt_ind0 (dd x).length (fun i s => s = (((FB ((wsF x).take i) S (0, 1)).1 : Int), (FB ((wsF x).take i) S (0, 1)).2)) (fun r => r = K (((FB (wsF x) S (0, 1)).1 : Int), (FB (wsF x) S (0, 1)).2)) (by omega) rfl (fun s hs => by rw [hs, List.take_of_length_le (by rw [wsF_len]; omega)]) (fun i s c hi hs hk => ?_)
  have hwc := weight_count h ((dd x).getD i 0)
  have hsn := FB_snoc (x.count ((dd x).getD i 0)) ((wsF x).take i) S (0, 1)
  rw [← wsF_get hi, List.length_take, wsF_len, Nat.min_eq_left (by omega)] at hsn
  have hb := FB_b ((wsF x).take i) S (0, 1)
  have hts := take_sum (wsF x) i
  rw [wsF_sum h hd] at hts
  have hw6 : x.count ((dd x).getD i 0) ≤ 6 := h ▸ List.count_le_length
  have hin : p_impl_isIn (S : Int) (i : Int) = some (decide ((S / 2 ^ i) % 2 = 1)) := by
    unfold p_impl_isIn
    rw [if_pos (by omega)]
    congr 1
    exact decide_eq_decide.2 (by rw [bit_fin S hS i (by omega)])
  rw [hin, Option.bind_some, hs, Int.toNat_natCast, hwc]
  simp only at hb
  by_cases hbit : (S / 2 ^ i) % 2 = 1
  · rw [if_pos (by simpa using hbit)]
    rw [if_pos hbit] at hsn
    refine hk _ ?_
    rw [hsn]
    simp only
    rw [wrap_i64 (by omega) (by omega), wrap_i64 (by omega) (by omega)]
    refine Prod.ext ?_ ?_
    · show (_ : Int) + _ = ((_ + _ : Nat) : Int); omega
    · show 0 - (FB ((wsF x).take i) S (0, 1)).2 = _; omega
  · rw [if_neg (by simpa using hbit)]
    rw [if_neg hbit] at hsn
    refine hk _ ?_
    rw [hsn]
theorem all1_eq {n : Nat} (hn : n ≤ 8) (hf : 100 < fu) {s : Nat × Int} (h1 : s.1 ≤ 6) (h2 : s.2 = 1 ∨ s.2 = -1) {acc : Int} (ha : -1000000000 ≤ acc ∧ acc ≤ 1000000000) : p_impl_ChanceAll_1 fu (s.1 : Int) s.2 acc (n : Int) = some (acc + G n s) ∧ -1679616 ≤ G n s ∧ G n s ≤ 1679616 := by
  have hp : (6 - s.1) ^ n ≤ 1679616 := Nat.le_trans (Nat.pow_le_pow_left (by omega : 6 - s.1 ≤ 6) n) (pow8 hn)
  have hg : -1679616 ≤ G n s ∧ G n s ≤ 1679616 := by
    unfold G
    rcases h2 with e | e <;> rw [e] <;> omega
  refine ⟨?_, hg⟩
  unfold p_impl_ChanceAll_1
  rw [wrap_i64 (by omega) (by omega), show (6 : Int) - (s.1 : Int) = ((6 - s.1 : Nat) : Int) by omega, raised_eq _ n (by omega) (by omega) (by omega), Option.bind_some]
  unfold G at hg ⊢
  rw [wrap_i64 (n := s.2 * (((6 - s.1) ^ n : Nat) : Int)) (by omega) (by omega), wrap_i64 (by omega) (by omega)]
def pB (fu : Nat) (x : List Int) (n : Int) : Int × Int → (Int × Int → Option Int) → Option Int := fun (s3 : Int × Int) c5 => (if s3.1 < (shlI .i64 1 ((dd x).length : Int)) then cnt (fun i11 (s10 : Int × Int) c12 _ => (p_impl_isIn s3.1 i11).bind (fun r17 => (if r17 = true then c12 ((IntKind.wrap .i64 (s10.1 + (p_impl_weight x ((dd x).getD i11.toNat 0)))), (IntKind.wrap .i64 (0 - s10.2))) else c12 (s10.1, s10.2)))) (fun i11 (s10 : Int × Int) => (p_impl_ChanceAll_1 fu s10.1 s10.2 s3.2 n).bind (fun r19 => c5 ((IntKind.wrap .i64 (s3.1 + 1)), r19))) (Int.toNat (((dd x).length : Int) - 0)) 0 (0, 1) else some s3.2)
theorem parts_run (h : x.length = 6) (hd : p_impl_IsDie x = true) {n : Nat} (hn : n ≤ 8) (hf : 100 < fu) : ∀ (d S : Nat) (acc : Int), 2 ^ (dd x).length - S < d → S ≤ 2 ^ (dd x).length → acc = sumI (fun S => G n (FB (wsF x) S (0, 1))) S → -(1679616 * (S : Int)) ≤ acc ∧ acc ≤ 1679616 * (S : Int) → whl (pB fu x (n : Int)) d ((S : Int), acc) = some (sumI (fun S => G n (FB (wsF x) S (0, 1))) (2 ^ (dd x).length))
  | 0, _, _, hh, _, _, _ => by omega
  | d + 1, S, acc, hh, hS, ha, hb => by
    have ih := parts_run h hd hn hf d
    have hdl : (dd x).length ≤ 6 := h ▸ dd_len x
    have h64 : 2 ^ (dd x).length ≤ 64 := Nat.pow_le_pow_right (n := 2) (by omega) hdl
    rw [show ∀ z, whl (pB fu x (n : Int)) (d + 1) z = pB fu x (n : Int) z (whl (pB fu x (n : Int)) d) from fun _ => rfl]
    generalize whl (pB fu x (n : Int)) d = W at ih
    unfold pB
    simp only
    rw [shl_fin _ (by omega)]
    by_cases hlt : S < 2 ^ (dd x).length
    · rw [if_pos (by omega), ph_run h hd (S := S) (by omega) (fun s10 => (p_impl_ChanceAll_1 fu s10.1 s10.2 acc (n : Int)).bind (fun r19 => W ((IntKind.wrap .i64 ((S : Int) + 1)), r19)))]
      have hfb := FB_b (wsF x) S (0, 1)
      rw [wsF_sum h hd] at hfb
      simp only at hfb
      obtain ⟨e1, e2, e3⟩ := all1_eq (s := FB (wsF x) S (0, 1)) hn hf (by omega) (by omega) (acc := acc) (by omega)
      simp only
      rw [e1, Option.bind_some, wrap_i64 (by omega) (by omega), show (S : Int) + 1 = ((S + 1 : Nat) : Int) from rfl]
      exact ih (S + 1) _ (by omega) (by omega) (by rw [ha]; rfl) (by omega)
    · rw [if_neg (by omega), ha, show S = 2 ^ (dd x).length by omega]
theorem all_good (h : x.length = 6) (hd : p_impl_IsDie x = true) {m n : Nat} (hm : (dd x).length = m + 1) (hm5 : m ≤ 5) (hn : n ≤ 8) (hf : 10000000000 ≤ fu) : p_impl_ChanceAll fu x (n : Int) = some (cutF (sumB (wsF x) nz (vec (m + 1) n)) (6 ^ n), true) := by
  have hp := pow8 hn
  have hp0 : 0 < 6 ^ n := Nat.pow_pos (by omega)
  have hsum : sumI (fun S => G n (FB (wsF x) S (0, 1))) (2 ^ (dd x).length) = ((sumB (wsF x) nz (vec (m + 1) n) : Nat) : Int) := by
    have := sum_FB n (wsF x) 0 1
    rw [wsF_len, Int.one_mul, Nat.sub_zero] at this
    rw [this]
    obtain ⟨w, ws, e1, e2, e3⟩ := ws_split h hd hm
    have hz := sum_nz ws w n hn (by omega)
    rw [e1, ← e2, hz, e3]
  have hle := (csum_vec2 (fu := fu) h hd hm hn hm5 (by omega) nz).2
  have hparts : p_impl_parts fu x 0 (n : Int) = some ((sumB (wsF x) nz (vec (m + 1) n) : Nat) : Int) := by
    unfold p_impl_parts
    rw [numbers_impl h, Option.bind_some, ← hsum]
    have hdl : (dd x).length ≤ 6 := h ▸ dd_len x
    have h64 : 2 ^ (dd x).length ≤ 64 := Nat.pow_le_pow_right (n := 2) (by omega) hdl
    exact parts_run h hd hn (by omega) fu 0 0 (by rw [Nat.sub_zero]; exact Nat.lt_of_le_of_lt h64 (by omega)) (Nat.zero_le _) rfl (by simp)
  have hr : p_impl_isRolls (n : Int) = true := by
    unfold p_impl_isRolls
    rw [within_eq, decide_eq_true_eq]; omega
  unfold p_impl_ChanceAll
  rw [hd, hr, if_neg (by simp), hparts, Option.bind_some, power_eq n (by omega) (by omega), Option.bind_some, fraction_eq _ _ (by omega) (by omega) (by omega) (by omega)]
  rfl
theorem missing_any (h : x.length = 6) (n k : Int) (hf : 10000000000 ≤ fu) : ∃ a ok, p_impl_ChanceMissing fu x n k = some (a, ok) ∧ p_spec_ChanceMissing fu x n k = some (a, ok) ∧
    ∀ K : Unit → Option Bool, (if (ok && (decide (k = 0))) = true then (p_impl_ChanceAll fu x n).bind (fun r450 => (if ((!r450.2) || (!(decide (r450.1 = a)))) = true then some false else K ())) else K ()) = K () := by
  by_cases hg : p_impl_IsDie x = true ∧ p_impl_isTested n = true ∧ p_impl_within k 0 6 = true
  · obtain ⟨hd, hn, hk⟩ := hg
    have hn' := hn
    unfold p_impl_isTested at hn'
    rw [within_eq, decide_eq_true_eq] at hn'
    obtain ⟨N, rfl⟩ : ∃ N : Nat, n = (N : Int) := ⟨n.toNat, by omega⟩
    have h8 : N ≤ 8 := by omega
    have hfu : 100 < fu := by omega
    obtain ⟨m, hm, hm5⟩ := dd_pos h
    obtain ⟨hv, hvb⟩ := csum_vec2 (n := N) h hd hm h8 hm5 hfu (fun r => decide (((zeros r : Nat) : Int) = k))
    have hp := pow8 h8
    refine ⟨cutF (sumB (wsF x) (fun r => decide (((zeros r : Nat) : Int) = k)) (vec (m + 1) N)) (6 ^ N), true, ?_, ?_, fun K => ?_⟩
    · unfold p_impl_ChanceMissing
      rw [hd, hn, hk, if_neg (by decide)]
      unfold p_impl_chanceOfv2
      rw [numbers_impl h]
      simp only [Option.bind_some]
      rw [hm, vec_impl m _ fu hm5 h8 (by omega)]
      simp only [Option.bind_some]
      rw [go_over (l := vec (m + 1) N) (fun r => decide (((zeros r : Nat) : Int) = k)) (by omega) (fun r hr i s c hi => ?_), hv, end_impl hf h8 (by omega)]
      · rfl
      · have hcr := vec_counts hd hm h8 hr
        have hrl := (vec_mem m _ r hr).1
        rw [hi, zeros_impl r k (by omega), (chv_nat h hcr hfu (sum8 h8 hr)).1]
        simp only [Option.bind_some, cstep]
        split <;> rfl
    · unfold p_spec_ChanceMissing p_spec_l11Tested
      have et : p_spec_l1In (N : Int) 0 8 = true := hn
      have ek : p_spec_l1In k 0 6 = true := hk
      rw [l2Die_eq h]
      simp only [Option.bind_some]
      rw [hd, et, ek, if_neg (by decide), numbers_eq h (sorted_of_IsDie h hd)]
      simp only [Option.bind_some]
      rw [hm, vec_spec m _ fu hm5 h8 (by omega)]
      simp only [Option.bind_some]
      rw [go_over (l := vec (m + 1) N) (fun r => decide (((zeros r : Nat) : Int) = k)) (by omega) (fun r hr i s c hi => ?_), hv, end_spec hf h8 (by omega)]
      have hcr := vec_counts hd hm h8 hr
      have hrl := (vec_mem m _ r hr).1
      rw [hi]
      refine (zeros_spec r (by omega) (fun z => if z = k then (p_spec_l11Chance fu x r).bind (fun r33 => c (IntKind.wrap .i64 (s + r33))) else c s) r.length 0 0 fu (by omega) (by omega) (by simp)).trans ?_
      rw [(chv_nat h hcr hfu (sum8 h8 hr)).2]
      simp only [Option.bind_some, cstep, decide_eq_true_eq]
      split <;> rfl
    · by_cases h0 : k = 0
      · rw [if_pos (by simpa using h0), all_good h hd hm hm5 h8 hf, Option.bind_some, h0]
        have e : (fun r => decide (((zeros r : Nat) : Int) = 0)) = nz := rfl
        rw [e, if_neg]
        simp
      · rw [if_neg (by simpa using h0)]
  · refine ⟨List.replicate 2 0, false, ?_, ?_, fun K => rfl⟩
    · unfold p_impl_ChanceMissing
      rw [if_pos]
      revert hg
      cases p_impl_IsDie x <;> cases p_impl_isTested n <;> cases p_impl_within k 0 6 <;> simp
    · unfold p_spec_ChanceMissing p_spec_l11Tested
      have et : p_impl_isTested n = p_spec_l1In n 0 8 := rfl
      have ek : p_impl_within k 0 6 = p_spec_l1In k 0 6 := rfl
      rw [et, ek] at hg
      rw [l2Die_eq h]
      simp only [Option.bind_some]
      rw [if_pos]
      revert hg
      cases p_impl_IsDie x <;> cases p_spec_l1In n 0 8 <;> cases p_spec_l1In k 0 6 <;> simp
end
end Go.GA.E
