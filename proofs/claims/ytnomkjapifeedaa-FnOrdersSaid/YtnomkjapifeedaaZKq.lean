/- Plain law of FnOrders: the order of a roll, the ways at a place. -/
import Derived.Test.YtnomkjapifeedaaZKp
namespace Go.GA.E
open Go
set_option maxRecDepth 100000
/-! ### the order of a roll -/
def goodO (n : Nat) (x o : List Int) : Bool := (List.range n).all (fun i => i == 0 || (decide (0 ≤ o.getD (i - 1) 0) && decide (0 ≤ o.getD i 0) && decide (o.getD (i - 1) 0 < (n : Int)) && decide (o.getD i 0 < (n : Int)) && decide (x.getD (o.getD i 0).toNat 0 < x.getD (o.getD (i - 1) 0).toNat 0)))
def okG (n : Nat) (y : List Int) : Bool := match p_impl_orderOf y with
  | some (o, true) => goodO n y o.1
  | _ => true
theorem og1 : (allL 1 1).all (okG 1) = true := by decide +kernel
theorem og2 : (allL 2 2).all (okG 2) = true := by decide +kernel
theorem og3 : (allL 3 3).all (okG 3) = true := by decide +kernel
theorem og4 : (allL 4 4).all (okG 4) = true := by decide +kernel
theorem order_good (x : List Int) (h1 : 1 ≤ x.length) (h4 : x.length ≤ 4) {o : Ord} (ho : p_impl_orderOf x = some (o, true)) : ∀ i : Nat, 1 ≤ i → i < x.length → 0 ≤ o.1.getD (i - 1) 0 ∧ 0 ≤ o.1.getD i 0 ∧ o.1.getD (i - 1) 0 < (x.length : Int) ∧ o.1.getD i 0 < (x.length : Int) ∧ x.getD (o.1.getD i 0).toNat 0 < x.getD (o.1.getD (i - 1) 0).toNat 0 := by
  have hm : ranks x ∈ allL x.length x.length := by
    have := allL_mem x.length (ranks x) (fun v hv => by
      unfold ranks at hv
      obtain ⟨u, hu, rfl⟩ := List.mem_map.1 hv
      exact ⟨rk x u, rfl, rk_len x u hu⟩)
    have e : (ranks x).length = x.length := by simp [ranks]
    rwa [e] at this
  have hall : (allL x.length x.length).all (okG x.length) = true := by
    have : x.length = 1 ∨ x.length = 2 ∨ x.length = 3 ∨ x.length = 4 := by omega
    rcases this with h | h | h | h <;> rw [h]
    · exact og1
    · exact og2
    · exact og3
    · exact og4
  have hk := List.all_eq_true.1 hall _ hm
  rw [order_ranks x] at ho
  unfold okG at hk
  rw [ho] at hk
  simp only at hk
  intro i hi1 hi
  have hh := List.all_eq_true.1 hk i (List.mem_range.2 hi)
  have hi0 : (i == 0) = false := by
    rw [beq_eq_false_iff_ne]; omega
  rw [hi0, Bool.false_or] at hh
  simp only [Bool.and_eq_true, decide_eq_true_eq] at hh
  obtain ⟨⟨⟨⟨a1, a2⟩, a3⟩, a4⟩, a5⟩ := hh
  refine ⟨a1, a2, a3, a4, ?_⟩
  rw [ranks_get x (by omega), ranks_get x (by omega)] at a5
  by_cases h : x.getD (o.1.getD i 0).toNat 0 < x.getD (o.1.getD (i - 1) 0).toNat 0
  · exact h
  · have := rk_mono _ _ (Int.not_lt.1 h) x
    omega
theorem order_of {p : List (List Int)} {n : Int} {fu : Nat} (hF : Fuel fu) (hp : Six p) : ∃ (o : List Int) (b : Bool), p_impl_OrderOf fu p n = some ((o, ()), b) ∧ p_spec_OrderOf fu p n = some ((o, ()), b) ∧
    (b = true → ∃ roll, p_impl_RollAt fu p n = some (roll, true) ∧ roll.length ≤ 4 ∧ ∀ i : Nat, 1 ≤ i → i < roll.length → 0 ≤ o.getD (i - 1) 0 ∧ 0 ≤ o.getD i 0 ∧ o.getD (i - 1) 0 < (roll.length : Int) ∧ o.getD i 0 < (roll.length : Int) ∧ roll.getD (o.getD i 0).toNat 0 < roll.getD (o.getD (i - 1) 0).toNat 0) := by
  have hb := hF.big
  cases hd : p_impl_IsPool p with
  | false =>
    refine ⟨List.replicate 4 0, false, ?_, ?_, fun h => by cases h⟩
    · unfold p_impl_OrderOf; rw [hd]; rfl
    · unfold p_spec_OrderOf p_spec_RollAt; rw [pool_eq hp, hd]; rfl
  | true =>
    obtain ⟨g1, g4⟩ := pool_len hd
    have h64 : 6 ^ p.length ≤ 6 ^ 4 := Nat.pow_le_pow_right (by omega) g4
    have e64 : (6 : Nat) ^ 4 = 1296 := by decide
    have h0 : 0 < 6 ^ p.length := Nat.pow_pos (by omega)
    have hwr : IntKind.wrap .i64 (((6 ^ p.length : Nat) : Int) - 1) = ((6 ^ p.length : Nat) : Int) - 1 := wrap_i64 (by omega) (by omega)
    have hpw := power_eq (fu := fu) p.length (by omega) (by omega)
    have hall : p_spec_l2All fu (p.length : Int) = some ((6 ^ p.length : Nat) : Int) := by rw [all_power]; exact hpw
    have hout : p_impl_isOutcome fu p n = some (decide (0 ≤ n ∧ n ≤ ((6 ^ p.length : Nat) : Int) - 1)) := by
      unfold p_impl_isOutcome
      rw [hpw, Option.bind_some, hwr, within_eq]
    have e1 : p_impl_OrderOf fu p n = if 0 ≤ n ∧ n ≤ ((6 ^ p.length : Nat) : Int) - 1 then (p_impl_rollAt fu p n).bind (fun r9 => (p_impl_orderOf r9).bind (fun r11 => some ((r11.1.1, ()), r11.2))) else some (((List.replicate 4 0), ()), false) := by
      unfold p_impl_OrderOf
      simp only [hout, hd, Option.isSome_some, implies_true, if_true, Option.getD_some, Bool.not_true, Bool.false_or]
      by_cases h : 0 ≤ n ∧ n ≤ ((6 ^ p.length : Nat) : Int) - 1
      · rw [if_pos h, if_neg (by rw [decide_eq_true h]; simp)]
      · rw [if_neg h, if_pos (by rw [decide_eq_false h]; rfl)]
    have e2 : p_impl_RollAt fu p n = if 0 ≤ n ∧ n ≤ ((6 ^ p.length : Nat) : Int) - 1 then (p_impl_rollAt fu p n).bind (fun r9 => some (r9, true)) else some ([], false) := by
      unfold p_impl_RollAt
      simp only [hout, hd, Option.isSome_some, implies_true, if_true, Option.getD_some, Bool.not_true, Bool.false_or]
      by_cases h : 0 ≤ n ∧ n ≤ ((6 ^ p.length : Nat) : Int) - 1
      · rw [if_pos h, if_neg (by rw [decide_eq_true h]; simp)]
      · rw [if_neg h, if_pos (by rw [decide_eq_false h]; rfl)]
    have e3 : p_spec_RollAt fu p n = if 0 ≤ n ∧ n ≤ ((6 ^ p.length : Nat) : Int) - 1 then (p_spec_l2Roll fu p n).bind (fun r9 => some (r9, true)) else some ([], false) := by
      unfold p_spec_RollAt
      rw [pool_eq hp, hd, Option.bind_some]
      simp only [hall, hwr, l1In_eq, Option.isSome_some, implies_true, if_true, Option.getD_some, Bool.not_true, Bool.false_or]
      by_cases h : 0 ≤ n ∧ n ≤ ((6 ^ p.length : Nat) : Int) - 1
      · rw [if_pos h, if_neg (by rw [decide_eq_true h]; simp)]
      · rw [if_neg h, if_pos (by rw [decide_eq_false h]; rfl)]
    unfold p_spec_OrderOf
    rw [e1, e2, e3]
    by_cases hn : 0 ≤ n ∧ n ≤ ((6 ^ p.length : Nat) : Int) - 1
    · simp only [if_pos hn]
      obtain ⟨k, rfl⟩ : ∃ k : Nat, n = (k : Int) := ⟨n.toNat, by omega⟩
      obtain ⟨r, r1, r2, r3⟩ := roll_some (fu := fu) g4 (show k ≤ 100000 by omega) (by omega)
      obtain ⟨o, b, o1, o2, _⟩ := order_ok r (by omega) (by omega)
      refine ⟨o.1, b, ?_, ?_, fun hbt => ⟨r, ?_, by omega, ?_⟩⟩
      · rw [r1, Option.bind_some, o1, Option.bind_some]
      · rw [r2, Option.bind_some, Option.bind_some, if_pos rfl, o2, Option.bind_some]
      · rw [r1, Option.bind_some]
      · subst hbt
        exact order_good r (by omega) (by omega) o1
    · simp only [if_neg hn]
      exact ⟨List.replicate 4 0, false, rfl, rfl, fun h => by cases h⟩
theorem three_ok {p : List (List Int)} {n : Int} {fu : Nat} {o : List Int} {b : Bool} (hg : b = true → ∃ roll, p_impl_RollAt fu p n = some (roll, true) ∧ roll.length ≤ 4 ∧ ∀ i : Nat, 1 ≤ i → i < roll.length → 0 ≤ o.getD (i - 1) 0 ∧ 0 ≤ o.getD i 0 ∧ o.getD (i - 1) 0 < (roll.length : Int) ∧ o.getD i 0 < (roll.length : Int) ∧ roll.getD (o.getD i 0).toNat 0 < roll.getD (o.getD (i - 1) 0).toNat 0) (K : Unit → Option Bool) (hK : K () = some true) :
    jn K (fun k994 => (if b = true then (p_impl_RollAt fu p n).bind (fun r1292 => cnt (fun i1295 (s1294 : Unit) c1296 _ => if (i1295 - 1) < 4 then if i1295 < 4 then (if (((((decide ((o.getD (i1295 - 1).toNat 0) < 0)) || (decide ((o.getD i1295.toNat 0) < 0))) || (decide ((r1292.1.length : Int) ≤ (o.getD (i1295 - 1).toNat 0)))) || (decide ((r1292.1.length : Int) ≤ (o.getD i1295.toNat 0)))) || (decide ((r1292.1.getD (o.getD (i1295 - 1).toNat 0).toNat 0) ≤ (r1292.1.getD (o.getD i1295.toNat 0).toNat 0)))) = true then some false else c1296 ()) else none else none) (fun i1295 (s1294 : Unit) => (if r1292.2 = true then k994 () else some false)) (Int.toNat ((r1292.1.length : Int) - 1)) 1 ()) else k994 ())) = some true := by
  unfold jn
  cases b with
  | false => exact hK
  | true =>
    obtain ⟨roll, e, hl, hr⟩ := hg rfl
    refine (if_pos rfl).trans ?_
    rw [e, Option.bind_some]
    simp only
    by_cases h1 : 1 ≤ roll.length
    · refine cnt_ind roll.length (fun i _ => 1 ≤ i) (fun r => r = some true) (fun s _ => by simpa using hK) (fun i s c hi h1i hc => ?_) (Int.toNat ((roll.length : Int) - 1)) 1 () (by omega) (by omega)
      obtain ⟨a1, a2, a3, a4, a5⟩ := hr i h1i hi
      have ei : ((i : Int) - 1).toNat = i - 1 := by omega
      rw [if_pos (by omega), if_pos (by omega), ei, Int.toNat_natCast]
      rw [if_neg (by simp only [Bool.or_eq_true, decide_eq_true_eq]; omega)]
      exact hc () (by omega)
    · have : Int.toNat ((roll.length : Int) - 1) = 0 := by omega
      rw [this]
      simpa [cnt] using hK
/-! ### ways at a place -/
def stepsN {S : Type} (G : Nat → S → S) : Nat → S → S
  | 0, s => s
  | n + 1, s => G n (stepsN G n s)
theorem cnt_steps {S R : Type} {f : Int → S → (S → R) → (Int → S → R) → R} {k : Int → S → R} {d : Nat} {s0 : S} (n : Nat) (G : Nat → S → S) (hd : d = n) (hf : ∀ (i : Nat) s c, i < n → f (i : Int) s c k = c (G i s)) : cnt f k d 0 s0 = k (n : Int) (stepsN G n s0) := by
  refine cnt_ind0 n (fun i s => s = stepsN G i s0) (fun r => r = k (n : Int) (stepsN G n s0)) hd rfl (fun s e => by rw [e]) (fun i s c hi e hc => ?_)
  subst e
  rw [hf i _ c hi]
  exact hc _ rfl
theorem four_ok {p : List (List Int)} {player place : Int} {fu : Nat} (hF : Fuel fu) (hp : Six p) : ∃ (v : Int) (q : Bool), p_impl_WaysAt fu p player place = some (v, q) ∧ p_spec_WaysAt fu p player place = some (v, q) ∧ ∀ (K : Unit → Option Bool), K () = some true →
    jn K (fun k997 => (if q = true then (p_impl_OrdersOf fu (p.length : Int)).bind (fun r1247 => (p_impl_OrderWays fu p).bind (fun r1249 => cnt (fun i1252 (s1251 : Int) c1253 k1290 => (if ((decide (i1252 < (r1247.1.length : Int))) && (decide (i1252 < (r1249.1.length : Int)))) = true then if 0 ≤ place then if place < 4 then (if ((r1247.1.getD i1252.toNat ((List.replicate 4 0), ())).1.getD place.toNat 0) = player then c1253 (IntKind.wrap .i64 (s1251 + (r1249.1.getD i1252.toNat 0))) else c1253 s1251) else none else none else k1290 i1252 s1251)) (fun i1252 (s1251 : Int) => (if (((!r1247.2) || (!r1249.2)) || (!(decide (s1251 = v)))) = true then some false else k997 ())) (Int.toNat ((r1247.1.length : Int) - 0)) 0 0)) else k997 ())) = some true := by
  obtain ⟨v, q, w1, w2⟩ := key_WaysAt (player := player) (place := place) hF hp
  refine ⟨v, q, w2, w1, fun K hK => ?_⟩
  unfold jn
  cases q with
  | false => exact hK
  | true =>
    refine (if_pos rfl).trans ?_
    unfold p_impl_WaysAt p_impl_isPlayer at w2
    rw [within_In, within_In] at w2
    cases hd : p_impl_IsPool p with
    | false => rw [hd] at w2; simp at w2
    | true =>
      obtain ⟨g1, g4⟩ := pool_len hd
      cases hi : p_spec_l1In player 0 ((p.length : Int) - 1) with
      | false => rw [hd, hi] at w2; simp at w2
      | true =>
        cases hj : p_spec_l1In place 0 ((p.length : Int) - 1) with
        | false => rw [hd, hi, hj] at w2; simp at w2
        | true =>
          rw [hd, hi, hj, if_neg (by simp)] at w2
          simp only [l1In_eq, decide_eq_true_eq] at hj
          obtain ⟨out, hw, e1, e2⟩ := ways_both hF g1 g4
          obtain ⟨o1, o2⟩ := hF.ord p.length g1 g4
          have hlen := hw.len
          have hor : p_impl_OrdersOf fu (p.length : Int) = some (ordL p.length, true) := by
            unfold p_impl_OrdersOf
            rw [within_eq, decide_eq_true (by omega), if_pos rfl, o1]; rfl
          have how : p_impl_OrderWays fu p = some (out, true) := by
            unfold p_impl_OrderWays; rw [hd, if_pos rfl, e1]; rfl
          rw [hor, Option.bind_some, how, Option.bind_some]
          unfold p_impl_waysAt at w2
          rw [e1, Option.bind_some, o1, Option.bind_some] at w2
          rw [cnt_steps (ordL p.length).length (fun i s => if ((ordL p.length).getD i ((List.replicate 4 0), ())).1.getD place.toNat 0 = player then IntKind.wrap .i64 (s + (out.getD i 0)) else s) (by omega) (fun i s c hi => by
            rw [if_pos (by omega), if_pos (by omega), Int.toNat_natCast]
            by_cases h : ((ordL p.length).getD i ((List.replicate 4 0), ())).1.getD place.toNat 0 = player
            · rw [if_pos h, if_pos (by omega), if_pos h]
            · rw [if_neg h, if_neg h]), Option.bind_some] at w2
          have ev := congrArg Prod.fst (Option.some.inj w2)
          simp only at ev
          simp only
          rw [cnt_steps (ordL p.length).length (fun i s => if ((ordL p.length).getD i ((List.replicate 4 0), ())).1.getD place.toNat 0 = player then IntKind.wrap .i64 (s + (out.getD i 0)) else s) (by omega) (fun i s c hi => by
            rw [if_pos (by simp only [Bool.and_eq_true, decide_eq_true_eq]; omega), if_pos (by omega), if_pos (by omega), Int.toNat_natCast]
            by_cases h : ((ordL p.length).getD i ((List.replicate 4 0), ())).1.getD place.toNat 0 = player
            · rw [if_pos h, if_pos h]
            · rw [if_neg h, if_neg h])]
          rw [ev, if_neg (by simp)]
          exact hK
end Go.GA.E
