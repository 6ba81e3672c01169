/- Plain law of FnTests: which die it was, and which is more likely. -/
import Derived.Test.YtedakmknjbjlbaaUKt
namespace Go.GA.F
open Go
set_option maxRecDepth 100000
/-- what is told are the shares of a whole -/
def WS (p a : List (List Int)) (q : Bool) : Prop := q = true → a.length = p.length ∧ ∃ ms : List Nat, 0 < ms.sum ∧ ms.sum ≤ 862005805056 ∧ a = ms.map (fun m => cutF m ms.sum)
theorem which_eq2 {p : List (List Int)} {w r : List Int} {fu : Nat} (hp : Six p) (hf : 10000000000000 ≤ fu) (hf2 : 100 < fu) : ∃ (a : List (List Int)) (q : Bool), WS p a q ∧ Two a ∧ a.length ≤ 4 ∧ p_spec_WhichDie fu p w r = some (a, q) ∧ p_impl_WhichDie fu p w r = some (a, q) := by
  unfold p_spec_WhichDie p_impl_WhichDie
  rw [pool_eq hp, seen_eq, areW_eq]
  rw [Option.bind_some]
  have hnil : Two [] := fun d hd => by simp at hd
  cases hpool : p_impl_IsPool p with
  | false => exact ⟨[], false, nofun, hnil, by simp, rfl, rfl⟩
  | true =>
    by_cases hl : (w.length : Int) = (p.length : Int)
    · rw [decide_eq_true hl]
      cases hs : p_impl_areSeen r with
      | false => exact ⟨[], false, nofun, hnil, by simp, rfl, by cases (w.all fun a => p_spec_l1In a 0 99) <;> rfl⟩
      | true =>
        have hr12 : r.length ≤ 12 := by
          unfold p_impl_areSeen at hs
          simp only [Bool.and_eq_true, decide_eq_true_eq] at hs
          omega
        obtain ⟨hp1, hp4⟩ := pool_len hpool
        simp only [Bool.not_true, Bool.or_false, Bool.false_eq_true, if_false, Bool.false_or]
        -- the first loop of the reference
        have first : ∀ (K : Int → Int → Option (List (List Int) × Bool)), cnt (fun i26 (s25 : Int) c27 _ => (if (p_spec_l1In (w.getD i26.toNat 0) 0 99) = true then c27 (IntKind.wrap .i64 (s25 + (IntKind.wrap .i64 ((w.getD i26.toNat 0) * (p_spec_l11Likely (p.getD i26.toNat (List.replicate 6 0)) r))))) else some ([], false))) K (Int.toNat ((p.length : Int) - 0)) 0 0 = lrun (fun (j : Nat) (s : Int) c => if (p_spec_l1In (w.getD j 0) 0 99) = true then c (IntKind.wrap .i64 (s + wayT p w r j)) else some ([], false)) (K (p.length : Int)) (List.range p.length) 0 := by
          intro K
          have := cnt_list (f := fun i26 (s25 : Int) c27 (_ : Int → Int → Option (List (List Int) × Bool)) => (if (p_spec_l1In (w.getD i26.toNat 0) 0 99) = true then c27 (IntKind.wrap .i64 (s25 + (IntKind.wrap .i64 ((w.getD i26.toNat 0) * (p_spec_l11Likely (p.getD i26.toNat (List.replicate 6 0)) r))))) else some ([], false))) (k := K) (fun (j : Nat) (s : Int) c => if (p_spec_l1In (w.getD j 0) 0 99) = true then c (IntKind.wrap .i64 (s + wayT p w r j)) else some ([], false)) (List.range p.length) 0 (d := Int.toNat ((p.length : Int) - 0)) (s := 0) (by simp) (fun i s c h0 h1 => by
            have hi : i.toNat < p.length := by simp at h1; omega
            rw [getD_range hi, likely_eq]; rfl)
          simpa using this
        rw [first]
        cases hw : w.all (fun a => p_spec_l1In a 0 99) with
        | false =>
          refine ⟨[], false, nofun, hnil, by simp, ?_, rfl⟩
          refine lrun_bad (b := fun j => !p_spec_l1In (w.getD j 0) 0 99) (G := fun j s => IntKind.wrap .i64 (s + wayT p w r j)) _ (fun j s c hb => by rw [if_neg (by simpa using hb)]) (fun j s c hb => by rw [if_pos (by simpa using hb)]) _ _ ?_
          rw [List.all_eq_false] at hw
          obtain ⟨v, hv, hn⟩ := hw
          obtain ⟨j, hj, e⟩ := List.getElem_of_mem hv
          refine List.any_eq_true.2 ⟨j, by simp; omega, ?_⟩
          have e2 : w.getD j 0 = v := by rw [List.getD_eq_getElem?_getD, List.getElem?_eq_getElem hj]; simpa using e
          rw [e2]; simpa using hn
        | true =>
          have hb0 : ∀ i, i < p.length → ∃ m : Nat, wayT p w r i = (m : Int) ∧ m ≤ 215501451264 := fun i hi => wayT_b (by omega) hw hr12
          have hb : ∀ i, i < p.length → ∃ m : Nat, wayT p w r i = (m : Int) ∧ m ≤ 9223372036854775807 := fun i hi => by
            obtain ⟨m, h1, h2⟩ := hb0 i hi
            exact ⟨m, h1, Nat.le_trans h2 (by decide)⟩
          rw [lrun_congr_mem (G := fun (j : Nat) (s : Int) c => c ((fun j s => IntKind.wrap .i64 (s + wayT p w r j)) j s)) _ _ _ (fun j hj s c => by
            have hj' : j < w.length := by simp at hj; omega
            have := List.all_eq_true.1 hw (w.getD j 0) (by rw [List.getD_eq_getElem?_getD, List.getElem?_eq_getElem hj']; exact List.getElem_mem _)
            rw [if_pos this]), lrun_fold (fun j s => IntKind.wrap .i64 (s + wayT p w r j))]
          have hsum : (List.range p.length).foldl (fun s j => IntKind.wrap .i64 (s + wayT p w r j)) 0 = wsum 0 (waysL p w r p.length) := by
            unfold wsum waysL
            rw [List.foldl_map]
          rw [hsum]
          obtain ⟨hs1, hs2⟩ := wsum_natM 215501451264 (waysL p w r p.length) 0 (fun v hv => by
            unfold waysL at hv
            obtain ⟨j, hj, rfl⟩ := List.mem_map.1 hv
            exact hb0 j (by simpa using hj)) (by rw [waysL_len, Nat.zero_add]; exact Nat.le_trans (Nat.mul_le_mul_left _ hp4) (by decide))
          rw [waysL_len] at hs2
          simp only [Int.natCast_zero, Nat.zero_add] at hs1
          rw [hs1]
          generalize hS : ((waysL p w r p.length).map Int.toNat).sum = S at *
          have hS1 : S ≤ 215501451264 * 4 := Nat.le_trans hs2 (Nat.mul_le_mul_left _ hp4)
          have hS63 : S ≤ 9223372036854775807 := Nat.le_trans hS1 (by decide)
          have hSf : S < fu := Nat.lt_of_lt_of_le (Nat.lt_of_le_of_lt hS1 (by decide : 215501451264 * 4 < 10000000000000)) hf
          have hS1' : S ≤ 862005805056 := Nat.le_trans hS1 (by decide)
          clear hS1 hs2 hf
          -- the ways of the program
          have ways : ∀ (K : List Int → Option (List (List Int) × Bool)), cnt (fun i45 (s44 : (List Int)) c46 _ => if (s44.length : Int) + 1 ≤ 1000000000 then c46 (s44 ++ [(IntKind.wrap .i64 ((w.getD i45.toNat 0) * (p_impl_faces (p.getD i45.toNat (List.replicate 6 0)) r)))]) else none) (fun _ s => K s) (Int.toNat ((p.length : Int) - 0)) 0 [] = K (waysL p w r p.length) := fun K =>
            cnt_ind0 p.length (fun i s => s = waysL p w r i) (fun z => z = K (waysL p w r p.length)) (by omega) rfl (fun s e => by rw [e]) (fun i s c hi e hk => by
              subst e
              rw [if_pos (by rw [waysL_len]; omega)]
              refine hk _ ?_
              rw [waysL_succ, Int.toNat_natCast]; rfl)
          refine ⟨chL p w r S (if 0 < S then p.length else 0), decide (0 < S), ?_, fun d hd => ?_, ?_, ?_, ?_⟩
          · intro h0
            have h0 : 0 < S := by simpa using h0
            rw [if_pos h0]
            refine ⟨by rw [chL_len], (waysL p w r p.length).map Int.toNat, by rw [hS]; exact h0, by rw [hS]; exact hS1', ?_⟩
            rw [hS]
            unfold chL waysL
            rw [List.map_map, List.map_map]
            rfl
          · unfold chL at hd
            obtain ⟨j, _, rfl⟩ := List.mem_map.1 hd
            rfl
          · rw [chL_len]; split <;> omega
          · by_cases h0 : 0 < S
            · rw [if_pos h0]
              refine cnt_ind0 p.length (fun i s => s = chL p w r S i) (fun z => z = some (chL p w r S p.length, decide (0 < S))) (by omega) rfl (fun s e => by rw [e, decide_eq_true h0, decide_eq_true (by omega)]) (fun i s c hi e hk => ?_)
              subst e
              obtain ⟨m, hm, hmb⟩ := hb i hi
              have hm' : IntKind.wrap .i64 ((w.getD i 0) * (p_spec_l11Likely (p.getD i (List.replicate 6 0)) r)) = (m : Int) := by rw [likely_eq]; exact hm
              rw [if_pos (by simp; omega), Int.toNat_natCast, hm', cut_eq m S hmb hS63 (by omega) hSf]
              rw [Option.bind_some]
              rw [if_pos (by rw [chL_len]; omega)]
              refine hk _ ?_
              rw [chL_succ, hm]; rfl
            · rw [if_neg h0]
              have hz : S = 0 := by omega
              subst hz
              cases hd : Int.toNat ((p.length : Int) - 0) with
              | zero => rfl
              | succ d =>
                simp only [cnt]
                rw [if_neg (by simp)]; rfl
          · refine (ways (fun s44 => (if (p_impl_total s44) = 0 then some ([], false) else whl (fun (s55 : Int × (List (List Int))) c57 => (if s55.1 < (s44.length : Int) then if 0 ≤ s55.1 then (p_impl_fraction fu (s44.getD s55.1.toNat 0) (p_impl_total s44)).bind (fun r63 => if (s55.2.length : Int) + 1 ≤ 1000000000 then c57 ((IntKind.wrap .i64 (s55.1 + 1)), (s55.2 ++ [r63])) else none) else none else some (s55.2, true))) fu (0, [])))).trans ?_
            rw [total_eq, hs1]
            by_cases h0 : 0 < S
            · rw [if_neg (by omega), if_pos h0, decide_eq_true h0]
              exact ch_run (n := p.length) (by omega) h0 hS63 hb hSf p.length 0 fu (by omega) (by omega)
            · rw [if_pos (by omega), if_neg h0, decide_eq_false h0]; rfl
    · rw [decide_eq_false hl]
      exact ⟨[], false, nofun, hnil, by simp, rfl, rfl⟩
theorem cut_scale {k p q : Nat} (hk : 0 < k) : cutF (k * p) (k * q) = cutF p q := by
  unfold cutF
  rw [Nat.gcd_mul_left, Nat.mul_div_mul_left _ _ hk, Nat.mul_div_mul_left _ _ hk]
theorem cut_same {p q p' q' : Nat} (hq : 0 < q) (hq' : 0 < q') (h : p * q' = p' * q) : cutF p q = cutF p' q' := by
  rw [← cut_scale (p := p) (q := q) hq', ← cut_scale (p := p') (q := q') hq, Nat.mul_comm q' p, h, Nat.mul_comm p' q, Nat.mul_comm q' q]
theorem cut_one {N : Nat} (h : 0 < N) : cutF N N = [1, 1] := by
  unfold cutF
  rw [Nat.gcd_self, Nat.div_self h]; rfl
theorem cut_zero {N : Nat} (h : 0 < N) : cutF 0 N = [0, 1] := by
  unfold cutF
  rw [Nat.gcd_zero_left, Nat.div_self h, Nat.zero_div]; rfl
theorem gcd_run {R : Type} (E : Int → Option R) : ∀ (b a fu : Nat), b < fu → whl (fun (s1 : Int × Int) c3 => (if 0 < s1.2 then c3 (s1.2, (s1.1.tmod s1.2)) else E s1.1)) fu ((a : Int), (b : Int)) = E ((Nat.gcd a b : Nat) : Int) := by
  intro b
  induction b using Nat.strongRecOn with
  | _ b ih =>
    intro a fu hf
    obtain ⟨f, rfl⟩ : ∃ f, fu = f + 1 := ⟨fu - 1, by omega⟩
    simp only [whl]
    by_cases h0 : b = 0
    · subst h0
      rw [if_neg (by simp), Nat.gcd_zero_right]
    · rw [if_pos (by omega)]
      have e : ((a : Int)).tmod (b : Int) = ((a % b : Nat) : Int) := rfl
      have hlt : a % b < b := Nat.mod_lt _ (by omega)
      rw [e, ih (a % b) hlt b f (by omega), Nat.gcd_comm a b, Nat.gcd_rec b a, Nat.gcd_comm]
/-- shares of one whole are added -/
theorem plus_cut {fu : Nat} {a m S : Nat} (hS : 0 < S) (hS2 : S ≤ 862005805056) (hle : a + m ≤ S) (hf : S < fu) : p_laws_vPlus fu (cutF a S) (cutF m S) = some (cutF (a + m) S) := by
  unfold p_laws_vPlus
  have g0 : 0 < Nat.gcd a S := Nat.gcd_pos_of_pos_right _ hS
  have g1 : 0 < Nat.gcd m S := Nat.gcd_pos_of_pos_right _ hS
  have e0 : (cutF a S).getD 0 0 = ((a / Nat.gcd a S : Nat) : Int) := rfl
  have e1 : (cutF a S).getD 1 0 = ((S / Nat.gcd a S : Nat) : Int) := rfl
  have e2 : (cutF m S).getD 0 0 = ((m / Nat.gcd m S : Nat) : Int) := rfl
  have e3 : (cutF m S).getD 1 0 = ((S / Nat.gcd m S : Nat) : Int) := rfl
  rw [e0, e1, e2, e3]
  have ea : Nat.gcd a S * (a / Nat.gcd a S) = a := Nat.mul_div_cancel' (Nat.gcd_dvd_left _ _)
  have eS : Nat.gcd a S * (S / Nat.gcd a S) = S := Nat.mul_div_cancel' (Nat.gcd_dvd_right _ _)
  have em : Nat.gcd m S * (m / Nat.gcd m S) = m := Nat.mul_div_cancel' (Nat.gcd_dvd_left _ _)
  have eT : Nat.gcd m S * (S / Nat.gcd m S) = S := Nat.mul_div_cancel' (Nat.gcd_dvd_right _ _)
  have d0 : S / Nat.gcd a S ∣ S := ⟨Nat.gcd a S, by rw [Nat.mul_comm]; exact eS.symm⟩
  have d1 : S / Nat.gcd m S ∣ S := ⟨Nat.gcd m S, by rw [Nat.mul_comm]; exact eT.symm⟩
  have l0 := Nat.le_of_dvd hS d0
  have l1 := Nat.le_of_dvd hS d1
  generalize Nat.gcd a S = g0' at *
  generalize Nat.gcd m S = g1' at *
  generalize a / g0' = p0 at *
  generalize m / g1' = p1 at *
  generalize S / g0' = q0 at *
  generalize S / g1' = q1 at *
  have q0p : 0 < q0 := Nat.pos_of_ne_zero (fun h => by rw [h, Nat.mul_zero] at eS; omega)
  have q1p : 0 < q1 := Nat.pos_of_ne_zero (fun h => by rw [h, Nat.mul_zero] at eT; omega)
  have hg : 0 < Nat.gcd q0 q1 := Nat.gcd_pos_of_pos_left _ q0p
  have hlcm : Nat.lcm q0 q1 ∣ S := Nat.lcm_dvd d0 d1
  have hL := Nat.le_of_dvd hS hlcm
  have hu0 : Nat.gcd q0 q1 * (q0 / Nat.gcd q0 q1) = q0 := Nat.mul_div_cancel' (Nat.gcd_dvd_left _ _)
  have hu1 : Nat.gcd q0 q1 * (q1 / Nat.gcd q0 q1) = q1 := Nat.mul_div_cancel' (Nat.gcd_dvd_right _ _)
  have hlc : Nat.gcd q0 q1 * Nat.lcm q0 q1 = q0 * q1 := Nat.gcd_mul_lcm q0 q1
  refine (gcd_run (fun s1 : Int => if s1 ≠ 0 then if s1 ≠ 0 then if s1 ≠ 0 then whl (fun (s11 : Int × Int) c13 => (if 0 < s11.2 then c13 (s11.2, (s11.1.tmod s11.2)) else if s11.1 ≠ 0 then if s11.1 ≠ 0 then some [(IntKind.wrap .i64 ((IntKind.wrap .i64 ((IntKind.wrap .i64 ((p0 : Int) * (IntKind.wrap .i64 ((q1 : Int).tdiv s1)))) + (IntKind.wrap .i64 ((p1 : Int) * (IntKind.wrap .i64 ((q0 : Int).tdiv s1)))))).tdiv s11.1)), (IntKind.wrap .i64 ((IntKind.wrap .i64 ((IntKind.wrap .i64 ((q0 : Int).tdiv s1)) * (q1 : Int))).tdiv s11.1))] else none else none)) fu ((IntKind.wrap .i64 ((IntKind.wrap .i64 ((p0 : Int) * (IntKind.wrap .i64 ((q1 : Int).tdiv s1)))) + (IntKind.wrap .i64 ((p1 : Int) * (IntKind.wrap .i64 ((q0 : Int).tdiv s1)))))), (IntKind.wrap .i64 ((IntKind.wrap .i64 ((q0 : Int).tdiv s1)) * (q1 : Int)))) else none else none else none) q1 q0 fu (by omega)).trans ?_
  generalize Nat.gcd q0 q1 = g at *
  rw [if_pos (by omega), if_pos (by omega), if_pos (by omega)]
  have t0 : ((q0 : Int)).tdiv (g : Int) = ((q0 / g : Nat) : Int) := rfl
  have t1 : ((q1 : Int)).tdiv (g : Int) = ((q1 / g : Nat) : Int) := rfl
  have k0 : q0 / g ≤ q0 := Nat.div_le_self _ _
  have k1 : q1 / g ≤ q1 := Nat.div_le_self _ _
  rw [t0, t1, wrap_nat (n := q0 / g) (by omega), wrap_nat (n := q1 / g) (by omega)]
  generalize q0 / g = u0 at *
  generalize q1 / g = u1 at *
  -- the new denominator
  have hB : u0 * q1 = Nat.lcm q0 q1 := by
    refine Nat.eq_of_mul_eq_mul_left hg ?_
    rw [hlc, ← Nat.mul_assoc, hu0]
  have hTS : (p0 * u1 + p1 * u0) * S = (a + m) * (u0 * q1) := by
    have x1 : p0 * u1 * S = a * (u0 * q1) := by rw [← ea, ← hu1]; rw [← eS, ← hu0]; grind
    have x2 : p1 * u0 * S = m * (u0 * q1) := by rw [← em]; rw [← eT]; grind
    rw [Nat.add_mul, Nat.add_mul, x1, x2]
  have hBp : 0 < u0 * q1 := Nat.mul_pos (Nat.pos_of_ne_zero (fun h => by rw [h, Nat.mul_zero] at hu0; omega)) q1p
  have hTB : p0 * u1 + p1 * u0 ≤ u0 * q1 := by
    refine Nat.le_of_mul_le_mul_right ?_ hS
    rw [hTS, Nat.mul_comm (u0 * q1)]
    exact Nat.mul_le_mul_right _ hle
  have hBS : u0 * q1 ≤ S := by rw [hB]; exact hL
  have w1 : IntKind.wrap .i64 ((p0 : Int) * (u1 : Int)) = ((p0 * u1 : Nat) : Int) := by rw [← Int.natCast_mul]; exact wrap_nat (by omega)
  have w2 : IntKind.wrap .i64 ((p1 : Int) * (u0 : Int)) = ((p1 * u0 : Nat) : Int) := by rw [← Int.natCast_mul]; exact wrap_nat (by omega)
  have w3 : IntKind.wrap .i64 ((u0 : Int) * (q1 : Int)) = ((u0 * q1 : Nat) : Int) := by rw [← Int.natCast_mul]; exact wrap_nat (by omega)
  have w4 : IntKind.wrap .i64 (((p0 * u1 : Nat) : Int) + ((p1 * u0 : Nat) : Int)) = ((p0 * u1 + p1 * u0 : Nat) : Int) := by rw [← Int.natCast_add]; exact wrap_nat (by omega)
  rw [w1, w2, w3, w4]
  have hr := gcd_run (fun s11 : Int => if s11 ≠ 0 then if s11 ≠ 0 then some [(IntKind.wrap .i64 ((((p0 * u1 + p1 * u0 : Nat) : Int)).tdiv s11)), (IntKind.wrap .i64 ((((u0 * q1 : Nat) : Int)).tdiv s11))] else none else none) (u0 * q1) (p0 * u1 + p1 * u0) fu (by omega)
  refine hr.trans ?_
  have hgg : 0 < Nat.gcd (p0 * u1 + p1 * u0) (u0 * q1) := Nat.gcd_pos_of_pos_right _ hBp
  rw [if_pos (by omega), if_pos (by omega), tdiv_nat, tdiv_nat]
  have k3 : (p0 * u1 + p1 * u0) / Nat.gcd (p0 * u1 + p1 * u0) (u0 * q1) ≤ p0 * u1 + p1 * u0 := Nat.div_le_self _ _
  have k4 : u0 * q1 / Nat.gcd (p0 * u1 + p1 * u0) (u0 * q1) ≤ u0 * q1 := Nat.div_le_self _ _
  rw [wrap_nat (by omega), wrap_nat (by omega)]
  rw [← cut_same hBp hS hTS]
  rfl
theorem shares_run {fu S : Nat} (hS : 0 < S) (hS2 : S ≤ 862005805056) (hf : S < fu) (k : List Int → Option Bool) : ∀ (ms : List Nat) (a : Nat), a + ms.sum ≤ S →
    lrun (fun (e : List Int) (s : List Int) (c : List Int → Option Bool) => (if ((decide ((e.getD 1 0) < 1)) || (decide ((e.getD 0 0) < 0))) = true then some false else (p_laws_vPlus fu s e).bind (fun r482 => c r482))) k (ms.map (fun m => cutF m S)) (cutF a S) = k (cutF (a + ms.sum) S)
  | [], a, _ => by simp [lrun]
  | m :: ms, a, h => by
    rw [List.sum_cons] at h ⊢
    simp only [List.map_cons, lrun]
    have hg : 0 < Nat.gcd m S := Nat.gcd_pos_of_pos_right _ hS
    have h1 : 1 ≤ S / Nat.gcd m S := Nat.div_pos (Nat.le_of_dvd hS (Nat.gcd_dvd_right _ _)) hg
    have e0 : (cutF m S).getD 0 0 = ((m / Nat.gcd m S : Nat) : Int) := rfl
    have e1 : (cutF m S).getD 1 0 = ((S / Nat.gcd m S : Nat) : Int) := rfl
    have hc : ¬ ((decide ((cutF m S).getD 1 0 < 1)) || (decide ((cutF m S).getD 0 0 < 0))) = true := by
      rw [e0, e1]
      generalize S / Nat.gcd m S = Q at *
      generalize m / Nat.gcd m S = M
      rw [decide_eq_false (by omega), decide_eq_false (by omega)]
      decide
    rw [if_neg hc, plus_cut hS hS2 (by omega) hf, Option.bind_some, shares_run hS hS2 hf k ms (a + m) (by omega), Nat.add_assoc]
theorem pairs_self {a : List (List Int)} : p_laws_vPairs a a = true := by
  unfold p_laws_vPairs
  rw [if_pos rfl]
  refine cnt_ind0 a.length (fun _ _ => True) (fun r => r = true) (by omega) trivial (fun _ _ => rfl) (fun i s c hi _ hc => ?_)
  rw [if_pos rfl]
  exact hc () trivial
theorem which_any {p : List (List Int)} {w r : List Int} {fu : Nat} (hp : Six p) (hf : 10000000000000 ≤ fu) : ∃ (a : List (List Int)) (q : Bool), p_impl_WhichDie fu p w r = some (a, q) ∧ p_spec_WhichDie fu p w r = some (a, q) ∧
    ∀ K : Unit → Option Bool, (if q = true then cnt (fun i459 (s458 : (List Int)) c460 _ => (if ((decide (((a.getD i459.toNat (List.replicate 2 0)).getD 1 0) < 1)) || (decide (((a.getD i459.toNat (List.replicate 2 0)).getD 0 0) < 0))) = true then some false else (p_laws_vPlus fu s458 (a.getD i459.toNat (List.replicate 2 0))).bind (fun r482 => c460 r482))) (fun i459 (s458 : (List Int)) => (if ((!(decide ((a.length : Int) = (p.length : Int)))) || (!(decide (s458 = [1, 1])))) = true then some false else K ())) (Int.toNat ((a.length : Int) - 0)) 0 [0, 1] else K ()) = K () := by
  obtain ⟨a, q, hw, _, _, h1, h2⟩ := which_eq2 (w := w) (r := r) hp hf (by omega)
  refine ⟨a, q, h2, h1, fun K => ?_⟩
  cases q with
  | false => rfl
  | true =>
    obtain ⟨hl, ms, m0, m1, hm⟩ := hw rfl
    rw [if_pos rfl]
    rw [cnt_list (fun (e : List Int) (s : List Int) (c : List Int → Option Bool) => (if ((decide ((e.getD 1 0) < 1)) || (decide ((e.getD 0 0) < 0))) = true then some false else (p_laws_vPlus fu s e).bind (fun r482 => c r482))) a (List.replicate 2 0) (by omega) (fun _ _ _ _ _ => rfl)]
    have hs := shares_run m0 m1 (fu := fu) (by omega) (fun s458 => (if ((!(decide ((a.length : Int) = (p.length : Int)))) || (!(decide (s458 = [1, 1])))) = true then some false else K ())) ms 0 (by omega)
    rw [← hm, cut_zero m0] at hs
    refine hs.trans ?_
    rw [Nat.zero_add, cut_one m0, hl]
    simp
/-! ### which is more likely -/
theorem cmp3 (a b : Int) : p_cmp_Compare_int a b = if b < a then 1 else if a < b then -1 else 0 := by
  unfold p_cmp_Compare_int p_cmp_isNaN_int
  simp
  repeat' split
  all_goals omega
theorem more_eq {a b r : List Int} (ha : a.length = 6) (hb : b.length = 6) : p_spec_MoreLikely a b r = some (p_impl_MoreLikely a b r) := by
  unfold p_spec_MoreLikely p_impl_MoreLikely
  rw [l2Die_eq ha, l2Die_eq hb, seen_eq, likely_eq, likely_eq, cmp3]
  rw [Option.bind_some, if_pos (by simp)]
  simp only [Option.getD_some]
  split
  · rfl
  · repeat' split
    all_goals first | rfl | omega
theorem more_anti {a b r : List Int} (K : Unit → Option Bool) : (if ((p_impl_MoreLikely a b r).2) = true then (if ((!((p_impl_MoreLikely b a r).2)) || (!(decide ((p_impl_MoreLikely b a r).1 = (IntKind.wrap .i64 (0 - ((p_impl_MoreLikely a b r).1))))))) = true then some false else K ()) else K ()) = K () := by
  unfold p_impl_MoreLikely
  by_cases h : ((!(p_impl_IsDie a)) || (!(p_impl_IsDie b)) || (!(p_impl_areSeen r))) = true
  · rw [if_pos h]; rfl
  · have h2 : ¬ ((!(p_impl_IsDie b)) || (!(p_impl_IsDie a)) || (!(p_impl_areSeen r))) = true := by
      rw [Bool.or_comm (!(p_impl_IsDie b))]; exact h
    rw [if_neg h, if_neg h2, cmp3, cmp3]
    generalize p_impl_faces a r = u
    generalize p_impl_faces b r = v
    simp only [↓reduceIte]
    rw [if_neg]
    by_cases h1 : v < u
    · have h3 : ¬ u < v := by omega
      simp only [if_pos h1, if_neg h3]; decide
    · by_cases h3 : u < v
      · simp only [if_neg h1, if_pos h3]; decide
      · simp only [if_neg h1, if_neg h3]; decide
end Go.GA.F
