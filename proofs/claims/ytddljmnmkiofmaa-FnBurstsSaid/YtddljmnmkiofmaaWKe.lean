/- Plain law of FnBursts: all numbers, the program's ways. -/
import Derived.Test.YtddljmnmkiofmaaWKd
namespace Go.GA.E
open Go
set_option maxRecDepth 100000
section
variable {x : List Int} {fu : Nat}
theorem wsF_get {i : Nat} (hi : i < (dd x).length) : (wsF x).take (i + 1) = (wsF x).take i ++ [x.count ((dd x).getD i 0)] := by
  have hwi : i < (wsF x).length := by rw [wsF_len]; omega
  rw [List.take_succ_eq_append_getElem hwi]
  congr 2
  have : (wsF x)[i] = x.count (dd x)[i] := by simp only [wsF, List.getElem_map]
  rw [this, List.getD_eq_getElem?_getD, List.getElem?_eq_getElem hi]
  rfl
theorem take_sum (l : List Nat) (i : Nat) : (l.take i).sum ≤ l.sum := by
  have : l.sum = (l.take i).sum + (l.drop i).sum := by rw [← List.sum_append, List.take_append_drop]
  omega
theorem isIn_eq {S i : Nat} (hS : S < 64) (hi : i < 6) : p_impl_isIn (S : Int) (i : Int) = some (decide ((S / 2 ^ i) % 2 = 1)) := by
  unfold p_impl_isIn
  rw [if_pos (by omega)]
  congr 1
  exact decide_eq_decide.2 (by rw [bit_fin S hS i hi])
theorem FB_step (h : x.length = 6) (hd : p_impl_IsDie x = true) {i : Nat} (hi : i < (dd x).length) (S : Nat) : FB ((wsF x).take (i + 1)) S (0, 1) = (if (S / 2 ^ i) % 2 = 1 then ((FB ((wsF x).take i) S (0, 1)).1 + x.count ((dd x).getD i 0), -(FB ((wsF x).take i) S (0, 1)).2) else FB ((wsF x).take i) S (0, 1)) ∧ (FB ((wsF x).take i) S (0, 1)).1 ≤ 6 ∧ ((FB ((wsF x).take i) S (0, 1)).2 = 1 ∨ (FB ((wsF x).take i) S (0, 1)).2 = -1) ∧ x.count ((dd x).getD i 0) ≤ 6 := by
  have hsn := FB_snoc (x.count ((dd x).getD i 0)) ((wsF x).take i) S (0, 1)
  rw [← wsF_get hi, List.length_take, wsF_len, Nat.min_eq_left (by omega)] at hsn
  have hb := FB_b ((wsF x).take i) S (0, 1)
  have hts := take_sum (wsF x) i
  rw [wsF_sum h hd] at hts
  simp only at hb
  exact ⟨hsn, by omega, by omega, h ▸ List.count_le_length⟩
theorem FB_all (h : x.length = 6) (hd : p_impl_IsDie x = true) (S : Nat) : (FB (wsF x) S (0, 1)).1 ≤ 6 ∧ ((FB (wsF x) S (0, 1)).2 = 1 ∨ (FB (wsF x) S (0, 1)).2 = -1) := by
  have hb := FB_b (wsF x) S (0, 1)
  rw [wsF_sum h hd] at hb
  simp only at hb
  omega
theorem ph_run (h : x.length = 6) (hd : p_impl_IsDie x = true) {S : Nat} (hS : S < 64) (K : Int × Int → Option Int) :
    cnt (fun i11 (s10 : Int × Int) c12 _ => (p_impl_isIn (S : Int) i11).bind (fun r17 => (if r17 = true then c12 ((IntKind.wrap .i64 (s10.1 + (p_impl_weight x ((dd x).getD i11.toNat 0)))), (IntKind.wrap .i64 (0 - s10.2))) else c12 (s10.1, s10.2)))) (fun i11 (s10 : Int × Int) => K s10) (Int.toNat (((dd x).length : Int) - 0)) 0 (0, 1) = K (((FB (wsF x) S (0, 1)).1 : Int), (FB (wsF x) S (0, 1)).2) := by
  have hdl : (dd x).length ≤ 6 := h ▸ dd_len x
  refine cnt_ind0 (dd x).length (fun i s => s = (((FB ((wsF x).take i) S (0, 1)).1 : Int), (FB ((wsF x).take i) S (0, 1)).2)) (fun r => r = K (((FB (wsF x) S (0, 1)).1 : Int), (FB (wsF x) S (0, 1)).2)) (by omega) rfl (fun s hs => by rw [hs, List.take_of_length_le (by rw [wsF_len]; omega)]) (fun i s c hi hs hk => ?_)
  have hwc := weight_count h ((dd x).getD i 0)
  obtain ⟨hsn, b1, b2, b3⟩ := FB_step h hd hi S
  rw [isIn_eq hS (by omega), Option.bind_some, hs, Int.toNat_natCast, hwc]
  by_cases hbit : (S / 2 ^ i) % 2 = 1
  · rw [if_pos (by simpa using hbit)]
    rw [if_pos hbit] at hsn
    refine hk _ ?_
    rw [hsn]
    simp only
    rw [wrap_i64 (by omega) (by omega), wrap_i64 (by omega) (by omega)]
    refine Prod.ext ?_ ?_
    · show (_ : Int) + _ = ((_ + _ : Nat) : Int); omega
    · show 0 - (FB ((wsF x).take i) S (0, 1)).2 = _; omega
  · rw [if_neg (by simpa using hbit)]
    rw [if_neg hbit] at hsn
    refine hk _ ?_
    rw [hsn]
theorem pow12 {n : Nat} (hn : n ≤ 12) : 6 ^ n ≤ 2176782336 := Nat.pow_le_pow_right (n := 6) (by omega) hn
theorem G_b {n : Nat} (hn : n ≤ 12) {s : Nat × Int} (h2 : s.2 = 1 ∨ s.2 = -1) : -2176782336 ≤ G n s ∧ G n s ≤ 2176782336 := by
  have hp : (6 - s.1) ^ n ≤ 2176782336 := Nat.le_trans (Nat.pow_le_pow_left (by omega : 6 - s.1 ≤ 6) n) (pow12 hn)
  unfold G
  rcases h2 with e | e <;> rw [e] <;> omega
theorem all1_eq {n : Nat} (hn : n ≤ 12) (hf : 100 < fu) {s : Nat × Int} (h1 : s.1 ≤ 6) (h2 : s.2 = 1 ∨ s.2 = -1) {acc : Int} (ha : -1000000000000 ≤ acc ∧ acc ≤ 1000000000000) : p_impl_ChanceAll_1 fu (s.1 : Int) s.2 acc (n : Int) = some (acc + G n s) := by
  have hg := G_b hn h2
  unfold p_impl_ChanceAll_1
  rw [wrap_i64 (by omega) (by omega), show (6 : Int) - (s.1 : Int) = ((6 - s.1 : Nat) : Int) by omega, raised_eq _ n (by omega) (by omega) (by omega), Option.bind_some]
  unfold G at hg ⊢
  rw [wrap_i64 (n := s.2 * (((6 - s.1) ^ n : Nat) : Int)) (by omega) (by omega), wrap_i64 (by omega) (by omega)]
def pB (fu : Nat) (x : List Int) (n : Int) : Int × Int → (Int × Int → Option Int) → Option Int := fun (s3 : Int × Int) c5 => (if s3.1 < (shlI .i64 1 ((dd x).length : Int)) then cnt (fun i11 (s10 : Int × Int) c12 _ => (p_impl_isIn s3.1 i11).bind (fun r17 => (if r17 = true then c12 ((IntKind.wrap .i64 (s10.1 + (p_impl_weight x ((dd x).getD i11.toNat 0)))), (IntKind.wrap .i64 (0 - s10.2))) else c12 (s10.1, s10.2)))) (fun i11 (s10 : Int × Int) => (p_impl_ChanceAll_1 fu s10.1 s10.2 s3.2 n).bind (fun r19 => c5 ((IntKind.wrap .i64 (s3.1 + 1)), r19))) (Int.toNat (((dd x).length : Int) - 0)) 0 (0, 1) else some s3.2)
theorem parts_run (h : x.length = 6) (hd : p_impl_IsDie x = true) {n : Nat} (hn : n ≤ 12) (hf : 100 < fu) : ∀ (d S : Nat) (acc : Int), 2 ^ (dd x).length - S < d → S ≤ 2 ^ (dd x).length → acc = sumI (fun S => G n (FB (wsF x) S (0, 1))) S → -(2176782336 * (S : Int)) ≤ acc ∧ acc ≤ 2176782336 * (S : Int) → whl (pB fu x (n : Int)) d ((S : Int), acc) = some (allW (wsF x) n)
  | 0, _, _, hh, _, _, _ => by omega
  | d + 1, S, acc, hh, hS, ha, hb => by
    have ih := parts_run h hd hn hf d
    have hdl : (dd x).length ≤ 6 := h ▸ dd_len x
    have h64 : 2 ^ (dd x).length ≤ 64 := Nat.pow_le_pow_right (n := 2) (by omega) hdl
    rw [show ∀ z, whl (pB fu x (n : Int)) (d + 1) z = pB fu x (n : Int) z (whl (pB fu x (n : Int)) d) from fun _ => rfl]
    generalize whl (pB fu x (n : Int)) d = W at ih
    unfold pB
    simp only
    rw [shl_fin _ (by omega)]
    by_cases hlt : S < 2 ^ (dd x).length
    · rw [if_pos (by omega), ph_run h hd (S := S) (by omega) (fun s10 => (p_impl_ChanceAll_1 fu s10.1 s10.2 acc (n : Int)).bind (fun r19 => W ((IntKind.wrap .i64 ((S : Int) + 1)), r19)))]
      obtain ⟨f1, f2⟩ := FB_all h hd S
      have hg := G_b hn f2
      simp only
      rw [all1_eq hn hf f1 f2 (by omega), Option.bind_some, wrap_i64 (by omega) (by omega), show (S : Int) + 1 = ((S + 1 : Nat) : Int) from rfl]
      exact ih (S + 1) _ (by omega) (by omega) (by rw [ha]; rfl) (by omega)
    · rw [if_neg (by omega), ha, show S = 2 ^ (dd x).length by omega]
      unfold allW
      rw [wsF_len]
theorem in_comps (h : x.length = 6) (hd : p_impl_IsDie x = true) : wsF x ∈ comps 6 6 := by
  have hdl : (dd x).length ≤ 6 := h ▸ dd_len x
  have := comps_mem (wsF x) 6 wsF_pos (by rw [wsF_len]; omega)
  rw [wsF_sum h hd] at this
  exact this
/-- a fraction of all throws -/
theorem frac_any {v : Int} {n : Nat} (hn : n ≤ 13) (h0 : 0 ≤ v) (hv : v ≤ 100000000000) (hf : 100000000000 ≤ fu) : p_impl_fraction fu v ((6 ^ n : Nat) : Int) = some (cutF v.toNat (6 ^ n)) ∧ p_spec_l2Cut fu v ((6 ^ n : Nat) : Int) = some (cutF v.toNat (6 ^ n)) := by
  have hp : 6 ^ n ≤ 13060694016 := Nat.pow_le_pow_right (n := 6) (by omega) hn
  have hp0 : 0 < 6 ^ n := Nat.pow_pos (by omega)
  obtain ⟨u, rfl⟩ : ∃ u : Nat, v = (u : Int) := ⟨v.toNat, by omega⟩
  rw [fraction_eq _ _ (by omega) (by omega) (by omega) (by omega), cut_eq _ _ (by omega) (by omega) (by omega) (by omega), Int.toNat_natCast]
  exact ⟨rfl, rfl⟩
theorem allI_good (h : x.length = 6) (hd : p_impl_IsDie x = true) {n : Nat} (hn : n ≤ 12) (hf : 100000000000 ≤ fu) : p_impl_ChanceAll fu x (n : Int) = some (cutF (allW (wsF x) n).toNat (6 ^ n), true) := by
  have hfin := fin_all _ (in_comps h hd) n (by omega)
  have hp := pow12 hn
  have hparts : p_impl_parts fu x 0 (n : Int) = some (allW (wsF x) n) := by
    unfold p_impl_parts
    rw [numbers_impl h, Option.bind_some]
    have hdl : (dd x).length ≤ 6 := h ▸ dd_len x
    have h64 : 2 ^ (dd x).length ≤ 64 := Nat.pow_le_pow_right (n := 2) (by omega) hdl
    exact parts_run h hd hn (by omega) fu 0 0 (by rw [Nat.sub_zero]; exact Nat.lt_of_le_of_lt h64 (by omega)) (Nat.zero_le _) rfl (by simp)
  have hr : p_impl_isRolls (n : Int) = true := by
    unfold p_impl_isRolls
    rw [within_eq, decide_eq_true_eq]; omega
  unfold p_impl_ChanceAll
  rw [hd, hr, if_neg (by simp), hparts, Option.bind_some, power_eq n (by omega) (by omega), Option.bind_some, (frac_any (by omega) hfin.1 (by omega) hf).1]
  rfl
/-! ### the reference's sets -/
def setsL (ws : List Nat) (n : Nat) : List Int := (List.range n).map (fun S => ((FB ws S (0, 1)).1 : Int))
theorem setsL_succ (ws : List Nat) (n : Nat) : setsL ws (n + 1) = setsL ws n ++ [((FB ws n (0, 1)).1 : Int)] := by simp [setsL, List.range_succ]
theorem setsL_len (ws : List Nat) (n : Nat) : (setsL ws n).length = n := by simp [setsL]
theorem setsL_get (ws : List Nat) {n i : Nat} (h : i < n) : (setsL ws n).getD i 0 = ((FB ws i (0, 1)).1 : Int) := by
  rw [List.getD_eq_getElem?_getD, List.getElem?_eq_getElem (by rw [setsL_len]; exact h)]
  simp [setsL]
theorem set_run (h : x.length = 6) (hd : p_impl_IsDie x = true) {S : Nat} (hS : S < 64) {Q : Type} (K : Int → Q) :
    cnt (fun i11 (s10 : Int) c12 _ => (if (andI .i64 (shrI .i64 (S : Int) i11) 1) = 1 then c12 (IntKind.wrap .i64 (s10 + (p_spec_l8Weight x ((dd x).getD i11.toNat 0)))) else c12 s10)) (fun i11 (s10 : Int) => K s10) (Int.toNat (((dd x).length : Int) - 0)) 0 0 = K ((FB (wsF x) S (0, 1)).1 : Int) := by
  have hdl : (dd x).length ≤ 6 := h ▸ dd_len x
  refine cnt_ind0 (dd x).length (fun i s => s = ((FB ((wsF x).take i) S (0, 1)).1 : Int)) (fun r => r = K ((FB (wsF x) S (0, 1)).1 : Int)) (by omega) rfl (fun s hs => by rw [hs, List.take_of_length_le (by rw [wsF_len]; omega)]) (fun i s c hi hs hk => ?_)
  have hwc := weight_count h ((dd x).getD i 0)
  obtain ⟨hsn, b1, b2, b3⟩ := FB_step h hd hi S
  rw [hs, Int.toNat_natCast, weight_eq, hwc]
  have hb := bit_fin S hS i (by omega)
  by_cases hbit : (S / 2 ^ i) % 2 = 1
  · rw [if_pos (by rw [hb]; exact hbit)]
    rw [if_pos hbit] at hsn
    refine hk _ ?_
    rw [hsn, wrap_i64 (by omega) (by omega)]
    show (_ : Int) + _ = ((_ + _ : Nat) : Int); omega
  · rw [if_neg (by rw [hb]; exact hbit)]
    rw [if_neg hbit] at hsn
    refine hk _ ?_
    rw [hsn]
def sB (x : List Int) : Int × List Int → (Int × List Int → Option (List Int)) → Option (List Int) := fun (s3 : Int × (List Int)) c5 => (if s3.1 < (shlI .i64 1 ((dd x).length : Int)) then cnt (fun i11 (s10 : Int) c12 _ => (if (andI .i64 (shrI .i64 s3.1 i11) 1) = 1 then c12 (IntKind.wrap .i64 (s10 + (p_spec_l8Weight x ((dd x).getD i11.toNat 0)))) else c12 s10)) (fun i11 (s10 : Int) => if (s3.2.length : Int) + 1 ≤ 1000000000 then c5 ((IntKind.wrap .i64 (s3.1 + 1)), (s3.2 ++ [s10])) else none) (Int.toNat (((dd x).length : Int) - 0)) 0 0 else some s3.2)
theorem sets_run (h : x.length = 6) (hd : p_impl_IsDie x = true) : ∀ (d S : Nat), 2 ^ (dd x).length - S < d → S ≤ 2 ^ (dd x).length → whl (sB x) d ((S : Int), setsL (wsF x) S) = some (setsL (wsF x) (2 ^ (dd x).length))
  | 0, _, hh, _ => by omega
  | d + 1, S, hh, hS => by
    have ih := sets_run h hd d
    have hdl : (dd x).length ≤ 6 := h ▸ dd_len x
    have h64 : 2 ^ (dd x).length ≤ 64 := Nat.pow_le_pow_right (n := 2) (by omega) hdl
    rw [show ∀ z, whl (sB x) (d + 1) z = sB x z (whl (sB x) d) from fun _ => rfl]
    generalize whl (sB x) d = W at ih
    unfold sB
    simp only
    rw [shl_fin _ (by omega)]
    by_cases hlt : S < 2 ^ (dd x).length
    · rw [if_pos (by omega), set_run h hd (S := S) (by omega) (fun s10 => if ((setsL (wsF x) S).length : Int) + 1 ≤ 1000000000 then W ((IntKind.wrap .i64 ((S : Int) + 1)), (setsL (wsF x) S ++ [s10])) else none), if_pos (by rw [setsL_len]; omega), wrap_i64 (by omega) (by omega), ← setsL_succ, show (S : Int) + 1 = ((S + 1 : Nat) : Int) from rfl]
      exact ih (S + 1) (by omega) (by omega)
    · rw [if_neg (by omega), show S = 2 ^ (dd x).length by omega]
theorem sets_eq (h : x.length = 6) (hd : p_impl_IsDie x = true) (hf : 100 < fu) : p_spec_l8Sets fu x = some (setsL (wsF x) (2 ^ (wsF x).length)) := by
  unfold p_spec_l8Sets
  rw [numbers_eq h (sorted_of_IsDie h hd), Option.bind_some, wsF_len]
  have hdl : (dd x).length ≤ 6 := h ▸ dd_len x
  have h64 : 2 ^ (dd x).length ≤ 64 := Nat.pow_le_pow_right (n := 2) (by omega) hdl
  exact sets_run h hd fu 0 (by rw [Nat.sub_zero]; exact Nat.lt_of_le_of_lt h64 (by omega)) (Nat.zero_le _)
theorem sign_run : ∀ (ws : List Nat) (S a : Nat) (s : Int) (fu : Nat), S < 2 ^ ws.length → S < 1000 → ws.length < fu → (s = 1 ∨ s = -1) → whl (fun (s1 : Int × Int) (c3 : Int × Int → Option Int) => (if 0 < s1.1 then (if (s1.1.tmod 2) = 1 then c3 ((IntKind.wrap .i64 (s1.1.tdiv 2)), (IntKind.wrap .i64 (0 - s1.2))) else c3 ((IntKind.wrap .i64 (s1.1.tdiv 2)), s1.2)) else some s1.2)) fu ((S : Int), s) = some (FB ws S (a, s)).2
  | [], S, a, s, fu, h, _, hf, _ => by
    obtain ⟨f, rfl⟩ : ∃ f, fu = f + 1 := ⟨fu - 1, by simp at hf; omega⟩
    simp at h
    subst h
    simp only [whl]
    rw [if_neg (by simp)]
    rfl
  | w :: ws, S, a, s, fu, h, hS, hf, hs => by
    simp only [List.length_cons] at hf
    obtain ⟨f, rfl⟩ : ∃ f, fu = f + 1 := ⟨fu - 1, by omega⟩
    rw [List.length_cons, Nat.pow_succ] at h
    have e0 : FB (w :: ws) S (a, s) = FB ws (S / 2) (if S % 2 = 1 then (a + w, -s) else (a, s)) := rfl
    simp only [whl]
    by_cases h0 : S = 0
    · subst h0
      rw [if_neg (by simp), FB_zero]
    · rw [if_pos (by omega)]
      have em : ((S : Int)).tmod 2 = ((S % 2 : Nat) : Int) := rfl
      have ed : ((S : Int)).tdiv 2 = ((S / 2 : Nat) : Int) := rfl
      rw [em, ed, wrap_i64 (n := ((S / 2 : Nat) : Int)) (by omega) (by omega), e0]
      by_cases hb : S % 2 = 1
      · rw [if_pos (by omega), if_pos hb, wrap_i64 (by omega) (by omega), show 0 - s = -s by omega]
        exact sign_run ws (S / 2) (a + w) (-s) f (by omega) (by omega) (by omega) (by omega)
      · rw [if_neg (by omega), if_neg hb]
        exact sign_run ws (S / 2) a s f (by omega) (by omega) (by omega) hs
theorem sign_eq (h : x.length = 6) {S : Nat} (hS : S < 2 ^ (wsF x).length) (hf : 100 < fu) : p_spec_l8Sign fu (S : Int) = some (FB (wsF x) S (0, 1)).2 := by
  have hdl : (dd x).length ≤ 6 := h ▸ dd_len x
  have h64 : 2 ^ (wsF x).length ≤ 64 := Nat.pow_le_pow_right (n := 2) (by omega) (show (wsF x).length ≤ 6 by rw [wsF_len]; exact hdl)
  exact sign_run (wsF x) S 0 1 fu hS (by omega) (by rw [wsF_len]; omega) (.inl rfl)
theorem rolls_ok (h : x.length = 6) (n : Int) : p_spec_l8Rolls x n = some (p_impl_IsDie x && p_impl_isRolls n) := by
  unfold p_spec_l8Rolls
  rw [l2Die_eq h, Option.bind_some]
  rfl
theorem allS_good (h : x.length = 6) (hd : p_impl_IsDie x = true) {n : Nat} (hn : n ≤ 12) (hf : 100000000000 ≤ fu) : p_spec_ChanceAll fu x (n : Int) = some (cutF (allW (wsF x) n).toNat (6 ^ n), true) := by
  have hfin := fin_all _ (in_comps h hd) n (by omega)
  have hp := pow12 hn
  have hr : p_impl_isRolls (n : Int) = true := by
    unfold p_impl_isRolls
    rw [within_eq, decide_eq_true_eq]; omega
  have hdl : (dd x).length ≤ 6 := h ▸ dd_len x
  have h64 : 2 ^ (wsF x).length ≤ 64 := Nat.pow_le_pow_right (n := 2) (by omega) (show (wsF x).length ≤ 6 by rw [wsF_len]; exact hdl)
  unfold p_spec_ChanceAll
  rw [rolls_ok h, hd, hr, Option.bind_some, if_pos (by decide), sets_eq h hd (by omega), Option.bind_some]
  refine cnt_ind0 (2 ^ (wsF x).length) (fun i s => s = sumI (fun S => G n (FB (wsF x) S (0, 1))) i ∧ -(2176782336 * (i : Int)) ≤ s ∧ s ≤ 2176782336 * (i : Int)) (fun r => r = some (cutF (allW (wsF x) n).toNat (6 ^ n), true)) (by rw [setsL_len, Int.sub_zero, Int.toNat_natCast]) ⟨rfl, by simp⟩ (fun s hs => ?_) (fun i s c hi hs hk => ?_)
  · obtain ⟨e, _⟩ := hs
    have e2 : s = allW (wsF x) n := e
    rw [all_power, power_eq n (by omega) (by omega), Option.bind_some, e2, (frac_any (by omega) hfin.1 (by omega) hf).2]
    rfl
  · obtain ⟨e, b1, b2⟩ := hs
    obtain ⟨f1, f2⟩ := FB_all h hd i
    have hg := G_b hn f2
    rw [sign_eq h hi (by omega), Option.bind_some, Int.toNat_natCast, setsL_get _ hi, wrap_i64 (n := 6 - ((FB (wsF x) i (0, 1)).1 : Int)) (by omega) (by omega), show (6 : Int) - ((FB (wsF x) i (0, 1)).1 : Int) = ((6 - (FB (wsF x) i (0, 1)).1 : Nat) : Int) by omega, pow_raised, raised_eq _ n (by omega) (by omega) (by omega), Option.bind_some]
    refine hk _ ?_
    unfold G at hg
    rw [wrap_i64 (n := (FB (wsF x) i (0, 1)).2 * (((6 - (FB (wsF x) i (0, 1)).1) ^ n : Nat) : Int)) (by omega) (by omega), wrap_i64 (by omega) (by omega)]
    refine ⟨?_, by omega, by omega⟩
    rw [e]; rfl
/-! ### the mean wait for all -/
theorem M1_b {s : Nat × Int} (h2 : s.2 = 1 ∨ s.2 = -1) : -360 ≤ M1 s ∧ M1 s ≤ 360 := by
  have : 60 / s.1 ≤ 60 := Nat.div_le_self _ _
  unfold M1
  generalize 60 / s.1 = q at this
  split
  · rcases h2 with e | e <;> rw [e] <;> omega
  · omega
theorem mean1_eq {s : Nat × Int} (h1 : s.1 ≤ 6) (h2 : s.2 = 1 ∨ s.2 = -1) {acc : Int} (ha : -1000000 ≤ acc ∧ acc ≤ 1000000) : p_impl_MeanAll_1 (s.1 : Int) s.2 acc = acc + M1 s := by
  have hb := M1_b h2
  unfold p_impl_MeanAll_1
  unfold M1 at hb ⊢
  by_cases h0 : 0 < s.1
  · rw [if_pos (by omega), if_pos h0]
    rw [if_pos h0] at hb
    have h60 : 60 / s.1 ≤ 60 := Nat.div_le_self _ _
    rw [(div_fin s.1 (by omega) h0).2.2, wrap_i64 (n := s.2 * 6) (by omega) (by omega), wrap_nat (n := 60 / s.1) (by omega)]
    rw [wrap_i64 (n := s.2 * 6 * ((60 / s.1 : Nat) : Int)) (by omega) (by omega), wrap_i64 (by omega) (by omega)]
    omega
  · rw [if_neg (by omega), if_neg h0]; omega
def mB (x : List Int) : Int × Int → (Int × Int → Option Int) → Option Int := fun (s3 : Int × Int) c5 => (if s3.1 < (shlI .i64 1 ((dd x).length : Int)) then cnt (fun i11 (s10 : Int × Int) c12 _ => (p_impl_isIn s3.1 i11).bind (fun r17 => (if r17 = true then c12 ((IntKind.wrap .i64 (s10.1 + (p_impl_weight x ((dd x).getD i11.toNat 0)))), (IntKind.wrap .i64 (0 - s10.2))) else c12 (s10.1, s10.2)))) (fun i11 (s10 : Int × Int) => c5 ((IntKind.wrap .i64 (s3.1 + 1)), (p_impl_MeanAll_1 s10.1 s10.2 s3.2))) (Int.toNat (((dd x).length : Int) - 0)) 0 (0, 1) else some s3.2)
theorem mean_run (h : x.length = 6) (hd : p_impl_IsDie x = true) : ∀ (d S : Nat) (acc : Int), 2 ^ (dd x).length - S < d → S ≤ 2 ^ (dd x).length → acc = sumI (fun S => M1 (FB (wsF x) S (0, 1))) S → -(360 * (S : Int)) ≤ acc ∧ acc ≤ 360 * (S : Int) → whl (mB x) d ((S : Int), acc) = some (meanW (wsF x))
  | 0, _, _, hh, _, _, _ => by omega
  | d + 1, S, acc, hh, hS, ha, hb => by
    have ih := mean_run h hd d
    have hdl : (dd x).length ≤ 6 := h ▸ dd_len x
    have h64 : 2 ^ (dd x).length ≤ 64 := Nat.pow_le_pow_right (n := 2) (by omega) hdl
    rw [show ∀ z, whl (mB x) (d + 1) z = mB x z (whl (mB x) d) from fun _ => rfl]
    generalize whl (mB x) d = W at ih
    unfold mB
    simp only
    rw [shl_fin _ (by omega)]
    by_cases hlt : S < 2 ^ (dd x).length
    · rw [if_pos (by omega), ph_run h hd (S := S) (by omega) (fun s10 => W ((IntKind.wrap .i64 ((S : Int) + 1)), (p_impl_MeanAll_1 s10.1 s10.2 acc)))]
      obtain ⟨f1, f2⟩ := FB_all h hd S
      have hg := M1_b f2
      simp only
      rw [mean1_eq f1 f2 (by omega), wrap_i64 (by omega) (by omega), show (S : Int) + 1 = ((S + 1 : Nat) : Int) from rfl]
      exact ih (S + 1) _ (by omega) (by omega) (by rw [ha]; rfl) (by omega)
    · rw [if_neg (by omega), ha, show S = 2 ^ (dd x).length by omega]
      unfold meanW
      rw [wsF_len]
theorem frac60 {v : Int} (h0 : 0 ≤ v) (hv : v ≤ 6000) (hf : 100000 ≤ fu) : p_impl_fraction fu v 60 = some (cutF v.toNat 60) ∧ p_spec_l2Cut fu v 60 = some (cutF v.toNat 60) := by
  obtain ⟨u, rfl⟩ : ∃ u : Nat, v = (u : Int) := ⟨v.toNat, by omega⟩
  have e1 := fraction_eq (fu := fu) u 60 (by omega) (by omega) (by omega) (by omega)
  have e2 := cut_eq (fu := fu) u 60 (by omega) (by omega) (by omega) (by omega)
  rw [Int.toNat_natCast]
  exact ⟨e1, e2⟩
theorem meanI_good (h : x.length = 6) (hd : p_impl_IsDie x = true) (hf : 100000 ≤ fu) : p_impl_MeanAll fu x = some (cutF (meanW (wsF x)).toNat 60, true) := by
  have hfin := fin_mean _ (in_comps h hd)
  have hparts : p_impl_partsv1 fu x 0 = some (meanW (wsF x)) := by
    unfold p_impl_partsv1
    rw [numbers_impl h, Option.bind_some]
    have hdl : (dd x).length ≤ 6 := h ▸ dd_len x
    have h64 : 2 ^ (dd x).length ≤ 64 := Nat.pow_le_pow_right (n := 2) (by omega) hdl
    exact mean_run h hd fu 0 0 (by rw [Nat.sub_zero]; exact Nat.lt_of_le_of_lt h64 (by omega)) (Nat.zero_le _) rfl (by simp)
  unfold p_impl_MeanAll
  rw [if_pos hd, hparts, Option.bind_some, (frac60 (by omega) hfin.2 hf).1]
  rfl
theorem meanS_good (h : x.length = 6) (hd : p_impl_IsDie x = true) (hf : 100000 ≤ fu) : p_spec_MeanAll fu x = some (cutF (meanW (wsF x)).toNat 60, true) := by
  have hfin := fin_mean _ (in_comps h hd)
  have hdl : (dd x).length ≤ 6 := h ▸ dd_len x
  have h64 : 2 ^ (wsF x).length ≤ 64 := Nat.pow_le_pow_right (n := 2) (by omega) (show (wsF x).length ≤ 6 by rw [wsF_len]; exact hdl)
  have h1 : 1 ≤ 2 ^ (wsF x).length := Nat.pow_pos (by omega)
  unfold p_spec_MeanAll
  rw [l2Die_eq h, Option.bind_some, if_pos hd, sets_eq h hd (by omega), Option.bind_some]
  have key : ∀ (d i : Nat) (s : Int), i + d = 2 ^ (wsF x).length → 1 ≤ i → s = sumI (fun S => M1 (FB (wsF x) S (0, 1))) i → -(360 * (i : Int)) ≤ s ∧ s ≤ 360 * (i : Int) → cnt (fun i6 (s5 : Int) c7 _ => (p_spec_l8Sign fu i6).bind (fun r12 => if ((setsL (wsF x) (2 ^ (wsF x).length)).getD i6.toNat 0) ≠ 0 then c7 (IntKind.wrap .i64 (s5 - (IntKind.wrap .i64 ((IntKind.wrap .i64 (r12 * 360)).tdiv ((setsL (wsF x) (2 ^ (wsF x).length)).getD i6.toNat 0))))) else none)) (fun i6 (s5 : Int) => (p_spec_l2Cut fu s5 60).bind (fun r14 => some (r14, true))) d (i : Int) s = some (cutF (meanW (wsF x)).toNat 60, true) := by
    intro d
    induction d with
    | zero =>
      intro i s hi _ hs _
      have e2 : s = meanW (wsF x) := by rw [hs, show i = 2 ^ (wsF x).length by omega]; rfl
      simp only [cnt]
      rw [e2, (frac60 (by omega) hfin.2 hf).2]
      rfl
    | succ d ih =>
      intro i s hi hi1 hs hb
      obtain ⟨f1, f2⟩ := FB_all h hd i
      have hpos := FB_pos (wsF x) i (0, 1) wsF_pos (by omega) (by omega)
      simp only at hpos
      have hg := M1_b f2
      have hM : M1 (FB (wsF x) i (0, 1)) = -((FB (wsF x) i (0, 1)).2 * 6 * ((60 / (FB (wsF x) i (0, 1)).1 : Nat) : Int)) := by unfold M1; rw [if_pos hpos]
      obtain ⟨d1, d2, _⟩ := div_fin (FB (wsF x) i (0, 1)).1 (by omega) hpos
      simp only [cnt]
      rw [sign_eq h (by omega) (by omega), Option.bind_some, Int.toNat_natCast, setsL_get _ (by omega), if_pos (by omega)]
      have ed : IntKind.wrap .i64 (s - IntKind.wrap .i64 ((IntKind.wrap .i64 ((FB (wsF x) i (0, 1)).2 * 360)).tdiv ((FB (wsF x) i (0, 1)).1 : Int))) = s + M1 (FB (wsF x) i (0, 1)) := by
        have h60 : 60 / (FB (wsF x) i (0, 1)).1 ≤ 60 := Nat.div_le_self _ _
        rw [hM]
        generalize 60 / (FB (wsF x) i (0, 1)).1 = q at h60 d1 d2
        rcases f2 with e | e
        · rw [e, show (1 : Int) * 360 = 360 from rfl, d1, wrap_i64 (n := 6 * (q : Int)) (by omega) (by omega), wrap_i64 (by omega) (by omega)]
          omega
        · rw [e, show (-1 : Int) * 360 = -360 from rfl, d2, wrap_i64 (n := -(6 * (q : Int))) (by omega) (by omega), wrap_i64 (by omega) (by omega)]
          omega
      rw [ed, show (i : Int) + 1 = ((i + 1 : Nat) : Int) from rfl]
      exact ih (i + 1) _ (by omega) (by omega) (by rw [hs]; rfl) (by omega)
  have e0 : sumI (fun S => M1 (FB (wsF x) S (0, 1))) 1 = 0 := by
    show 0 + M1 (FB (wsF x) 0 (0, 1)) = 0
    rw [FB_zero]; rfl
  have := key (2 ^ (wsF x).length - 1) 1 0 (by omega) (Nat.le_refl _) e0.symm (by omega)
  rw [setsL_len, show Int.toNat (((2 ^ (wsF x).length : Nat) : Int) - 1) = 2 ^ (wsF x).length - 1 by omega]
  exact this
end
end Go.GA.E
