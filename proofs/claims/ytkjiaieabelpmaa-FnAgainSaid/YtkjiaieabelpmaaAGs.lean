/- Plain law of FnAgain: the reference's values, and the best sets. -/
import Derived.Test.YtkjiaieabelpmaaAGq
namespace Go.GA.E
open Go
set_option maxRecDepth 100000
set_option linter.unusedVariables false
theorem tb_set {N m a : Nat} {v : Nat → Nat} (hm : m < N) : (tb N v).set m (a : Int) = tb N (fun t => if t = m then a else v t) := by
  apply List.ext_getElem
  · simp [tb]
  · intro i h1 h2
    simp only [tb, List.getElem_set, List.getElem_map, List.getElem_range]
    by_cases e : m = i
    · rw [if_pos e, if_pos e.symm]
    · rw [if_neg e, if_neg (fun h => e h.symm)]
/-- a loop that writes each entry once -/
theorem cnt_upd {R : Type} {N : Nat} {v w : Nat → Nat} {f : Int → List Int → (List Int → R) → (Int → List Int → R) → R} {k : Int → List Int → R} {d : Nat} {x : List Int} (K : List Int → R) (hd : d = N) (hx : x = tb N v) (hk : ∀ s, k (N : Int) s = K s)
    (hf : ∀ (i : Nat) c, i < N → f (i : Int) (tb N (fun t => if t < i then w t else v t)) c k = c ((tb N (fun t => if t < i then w t else v t)).set i ((w i : Nat) : Int))) : cnt f k d 0 x = K (tb N w) := by
  refine cnt_ind0 N (fun i s => s = tb N (fun t => if t < i then w t else v t)) (fun r => r = K (tb N w)) hd ?_ (fun s hs => ?_) (fun i s c hi hs hc => ?_)
  · rw [hx]; exact tb_congr fun t ht => by rw [if_neg (by omega)]
  · rw [hk, hs]; congr 1
    exact tb_congr fun t ht => by rw [if_pos ht]
  · rw [hs, hf i c hi]
    refine hc _ ?_
    rw [tb_set hi]
    refine tb_congr fun t ht => ?_
    by_cases e : t = i
    · subst e; rw [if_pos rfl, if_pos (by omega)]
    · rw [if_neg e]
      by_cases h : t < i
      · rw [if_pos h, if_pos (by omega)]
      · rw [if_neg h, if_neg (by omega)]
theorem upd_get {N i : Nat} {v w : Nat → Nat} (hi : i < N) : (tb N (fun t => if t < i then w t else v t)).getD i 0 = ((v i : Nat) : Int) := by
  rw [tb_get _ hi, if_neg (by omega)]
section
variable {n fu : Nat}
theorem all6 {m : Nat} (hm : m ≤ 24) (hf : 1999 < fu) : p_spec_l2All fu (m : Int) = some ((6 ^ m : Nat) : Int) := by
  rw [all_power]; exact power_eq m hm (by omega)
theorem power6 {i : Nat} (hn : n ≤ 3) (hi : i < n) (hf : 1999 < fu) : p_spec_l6Power fu (n : Int) (i : Int) = some ((6 ^ (n - 1 - i) : Nat) : Int) := by
  unfold p_spec_l6Power
  rw [wrap_i64 (n := (n : Int) - 1) (by omega) (by omega), wrap_i64 (by omega) (by omega), show (n : Int) - 1 - (i : Int) = ((n - 1 - i : Nat) : Int) by omega, all6 (by omega) hf]; rfl
theorem digit6 {i t : Nat} (hn : n ≤ 3) (hi : i < n) (ht : t < 1000) (hf : 1999 < fu) : p_spec_l6Digit fu (n : Int) (t : Int) (i : Int) = some ((t / 6 ^ (n - 1 - i) % 6 : Nat) : Int) := by
  unfold p_spec_l6Digit
  have h0 : 0 < 6 ^ (n - 1 - i) := Nat.pow_pos (by omega)
  have h1 : t / 6 ^ (n - 1 - i) ≤ t := Nat.div_le_self _ _
  rw [power6 hn hi hf, Option.bind_some, if_pos (by omega), tdiv_nat, wrap_nat (by omega)]; rfl
theorem stps_b {set B : Nat} {v : Nat → Nat} (hv : ∀ t, t < 6 ^ n → v t ≤ B) {i : Nat} (hi : i ≤ n) {t : Nat} (ht : t < 6 ^ n) : stps n set v i t ≤ 6 ^ i * B := by
  rw [stps_eq n set v i hi t ht]
  refine sm_le _ (fun o _ => hv _ ?_)
  have h1 := mg_lt set i (t / 6 ^ (n - i)) o
  have h2 : t % 6 ^ (n - i) < 6 ^ (n - i) := Nat.mod_lt _ (Nat.pow_pos (by omega))
  have h3 : (mg set i (t / 6 ^ (n - i)) o + 1) * 6 ^ (n - i) ≤ 6 ^ i * 6 ^ (n - i) := Nat.mul_le_mul_right _ h1
  rw [← Nat.pow_add, show i + (n - i) = n by omega, Nat.add_mul, Nat.one_mul] at h3
  omega
/-- places of one die -/
theorem place_lt {i t k : Nat} (hi : i < n) (ht : t < 6 ^ n) (hk : k < 6) : t / 6 ^ (n - 1 - i) % 6 * 6 ^ (n - 1 - i) ≤ t ∧ t - t / 6 ^ (n - 1 - i) % 6 * 6 ^ (n - 1 - i) + k * 6 ^ (n - 1 - i) < 6 ^ n := by
  have hq : 0 < 6 ^ (n - 1 - i) := Nat.pow_pos (by omega)
  have en : 6 ^ n = 6 ^ (n - 1 - i) * 6 ^ (i + 1) := by rw [← Nat.pow_add, show n - 1 - i + (i + 1) = n by omega]
  generalize 6 ^ (n - 1 - i) = q at *
  obtain ⟨x, low, hlow, rfl⟩ : ∃ x low, low < q ∧ t = q * x + low := ⟨t / q, t % q, Nat.mod_lt _ hq, (Nat.div_add_mod t q).symm⟩
  rw [(div_mod_of (x := x) hlow).1]
  have hx : x < 6 ^ (i + 1) := by
    rw [en] at ht
    refine Nat.lt_of_not_le fun h => ?_
    have := Nat.mul_le_mul_left q h
    omega
  rw [Nat.pow_succ] at hx
  have h1 : q * x = q * (6 * (x / 6)) + q * (x % 6) := by rw [← Nat.mul_add, Nat.div_add_mod]
  have h2 : x % 6 * q = q * (x % 6) := Nat.mul_comm _ _
  have h3 : k * q = q * k := Nat.mul_comm _ _
  refine ⟨by omega, ?_⟩
  have h4 : q * (6 * (x / 6) + k + 1) ≤ q * (6 ^ i * 6) := Nat.mul_le_mul_left q (by omega)
  rw [Nat.mul_add q _ 1, Nat.mul_add q _ k, Nat.mul_one] at h4
  rw [en, Nat.pow_succ]
  omega
/-- the sums over the dice of a set -/
theorem sums_run {set : Nat} {v : Nat → Nat} (hn : n ≤ 3) (hs : set < 8) (hf : 1999 < fu) (hv : ∀ t, t < 6 ^ n → v t ≤ 1000000000) :
    ∀ (d i fu' : Nat), d + i = n → d < fu' → whl (fun (s3 : Int × List Int) c5 => (if s3.1 < (n : Int) then if ((tb (6 ^ n) v).length : Int) ≤ 1000000000 then (p_spec_l6Power fu (n : Int) s3.1).bind (fun r11 => cnt (fun i13 (s12 : List Int) c14 _ => if 0 ≤ s3.1 then (if (andI .i64 (shrI .i64 (set : Int) s3.1) 1) = 0 then c14 (s12.set i13.toNat (IntKind.wrap .i64 (6 * (s3.2.getD i13.toNat 0)))) else (p_spec_l6Digit fu (n : Int) i13 s3.1).bind (fun r23 => cnt (fun i25 (s24 : List Int) c26 _ => if 0 ≤ (IntKind.wrap .i64 ((IntKind.wrap .i64 (i13 - (IntKind.wrap .i64 (r23 * r11)))) + (IntKind.wrap .i64 (i25 * r11)))) then if (IntKind.wrap .i64 ((IntKind.wrap .i64 (i13 - (IntKind.wrap .i64 (r23 * r11)))) + (IntKind.wrap .i64 (i25 * r11)))) < ((tb (6 ^ n) v).length : Int) then c26 (s24.set i13.toNat (IntKind.wrap .i64 ((s24.getD i13.toNat 0) + (s3.2.getD (IntKind.wrap .i64 ((IntKind.wrap .i64 (i13 - (IntKind.wrap .i64 (r23 * r11)))) + (IntKind.wrap .i64 (i25 * r11)))).toNat 0)))) else none else none) (fun i25 (s24 : List Int) => c14 s24) (Int.toNat (6 - 0)) 0 s12)) else none) (fun i13 (s12 : List Int) => c5 ((IntKind.wrap .i64 (s3.1 + 1)), s12)) (Int.toNat (((tb (6 ^ n) v).length : Int) - 0)) 0 (List.replicate ((tb (6 ^ n) v).length : Int).toNat 0)) else none else some s3.2)) fu' ((i : Int), tb (6 ^ n) (stps n set v i)) = some (tb (6 ^ n) (stps n set v n))
  | 0, i, fu', h, hf' => by
    obtain ⟨f, rfl⟩ : ∃ f, fu' = f + 1 := ⟨fu' - 1, by omega⟩
    simp only [whl]
    rw [if_neg (by omega), show i = n by omega]
  | d + 1, i, fu', h, hf' => by
    obtain ⟨f, rfl⟩ : ∃ f, fu' = f + 1 := ⟨fu' - 1, by omega⟩
    obtain ⟨h216, h1N, _⟩ := pow3 hn
    have hin : i < n := by omega
    have ih := sums_run hn hs hf hv d (i + 1) f (by omega) (by omega)
    have hb : ∀ t, t < 6 ^ n → stps n set v i t ≤ 216000000000 := fun t ht => by
      have h1 := stps_b (set := set) hv (show i ≤ n by omega) ht
      have h2 : 6 ^ i ≤ 216 := (pow3 (show i ≤ 3 by omega)).1
      have h3 : 6 ^ i * 1000000000 ≤ 216 * 1000000000 := Nat.mul_le_mul_right _ h2
      omega
    have hstp : ∀ t, stps n set v (i + 1) t = stp n i set (stps n set v i) t := fun t => rfl
    have e0 : List.replicate ((tb (6 ^ n) v).length : Int).toNat 0 = tb (6 ^ n) (fun _ => 0) := by
      rw [tb_len]; unfold tb
      rw [Int.toNat_natCast, List.map_const', List.length_range]; rfl
    simp only [whl]
    rw [if_pos (by omega), tb_len, if_pos (by omega), power6 hn hin hf, Option.bind_some]
    rw [tb_len] at e0
    rw [e0]
    rw [tb_len, e0] at ih
    refine (cnt_upd (w := stps n set v (i + 1)) (v := fun _ => 0) (N := 6 ^ n) (fun s12 => whl _ f ((IntKind.wrap .i64 ((i : Int) + 1)), s12)) (by omega) rfl (fun s => rfl) (fun m c hm => ?_)).trans ?_
    · rw [if_pos (by omega), bit_fin set hs i (by omega), hstp m]
      unfold stp
      by_cases hbit : set.testBit i = true
      · rw [if_pos hbit, if_pos hbit, if_neg (by decide), digit6 hn hin (by omega) hf, Option.bind_some]
        refine cnt_ind0 6 (fun k s => s = tb (6 ^ n) (fun t => if t = m then sm (fun k => stps n set v i (m - m / 6 ^ (n - 1 - i) % 6 * 6 ^ (n - 1 - i) + k * 6 ^ (n - 1 - i))) k else if t < m then stps n set v (i + 1) t else 0)) (fun r => r = c ((tb (6 ^ n) (fun t => if t < m then stps n set v (i + 1) t else 0)).set m ((sm (fun k => stps n set v i (m - m / 6 ^ (n - 1 - i) % 6 * 6 ^ (n - 1 - i) + k * 6 ^ (n - 1 - i))) 6 : Nat) : Int))) rfl ?_ (fun s hs => ?_) (fun k s c' hk hs hc => ?_)
        · refine tb_congr fun t ht => ?_
          by_cases e : t = m
          · subst e; rw [if_pos rfl, if_neg (by omega)]; rfl
          · rw [if_neg e]
        · rw [tb_set hm, hs]
        · obtain ⟨p1, p2⟩ := place_lt hin hm hk
          have hq : 6 ^ (n - 1 - i) ≤ 216 := (pow3 (show n - 1 - i ≤ 3 by omega)).1
          have hk6 : k * 6 ^ (n - 1 - i) ≤ 6 * 216 := Nat.mul_le_mul (by omega) hq
          have ea : IntKind.wrap .i64 (IntKind.wrap .i64 ((m : Int) - IntKind.wrap .i64 (((m / 6 ^ (n - 1 - i) % 6 : Nat) : Int) * ((6 ^ (n - 1 - i) : Nat) : Int))) + IntKind.wrap .i64 ((k : Int) * ((6 ^ (n - 1 - i) : Nat) : Int))) = ((m - m / 6 ^ (n - 1 - i) % 6 * 6 ^ (n - 1 - i) + k * 6 ^ (n - 1 - i) : Nat) : Int) := by
            rw [← Int.natCast_mul, ← Int.natCast_mul]
            generalize m / 6 ^ (n - 1 - i) % 6 * 6 ^ (n - 1 - i) = A at *
            generalize k * 6 ^ (n - 1 - i) = B at *
            rw [wrap_nat (n := A) (by omega), wrap_nat (n := B) (by omega), wrap_i64 (n := (m : Int) - (A : Int)) (by omega) (by omega), wrap_i64 (by omega) (by omega)]
            omega
          have hbb := hb _ p2
          have hsb : sm (fun k => stps n set v i (m - m / 6 ^ (n - 1 - i) % 6 * 6 ^ (n - 1 - i) + k * 6 ^ (n - 1 - i))) k ≤ k * 216000000000 := sm_le k (fun k' hk' => hb _ (place_lt hin hm (by omega)).2)
          rw [ea, if_pos (by omega), if_pos (by omega)]
          refine hc _ ?_
          rw [hs, Int.toNat_natCast, tb_get _ hm, if_pos rfl, Int.toNat_natCast, tb_get _ p2, ← Int.natCast_add, wrap_nat (by omega), tb_set hm]
          refine tb_congr fun t ht => ?_
          by_cases e : t = m
          · rw [if_pos e, if_pos e]; rfl
          · rw [if_neg e, if_neg e, if_neg e]
      · rw [if_neg hbit, if_neg hbit, if_pos rfl]
        have := hb m hm
        rw [Int.toNat_natCast, tb_get _ hm, show (6 : Int) * ((stps n set v i m : Nat) : Int) = ((6 * stps n set v i m : Nat) : Int) from rfl, wrap_nat (by omega)]
    · rw [show (i : Int) + 1 = ((i + 1 : Nat) : Int) from rfl, wrap_nat (by omega)]
      exact ih
theorem sums_eq {set : Nat} {v : Nat → Nat} (hn : n ≤ 3) (hs : set < 8) (hf : 1999 < fu) (hv : ∀ t, t < 6 ^ n → v t ≤ 1000000000) : p_spec_l6Sums fu (n : Int) (tb (6 ^ n) v) (set : Int) = some (tb (6 ^ n) (fun t => sv n v t set)) := by
  obtain ⟨h216, h1N, _⟩ := pow3 hn
  unfold p_spec_l6Sums
  have ho : p_spec_l1Own (tb (6 ^ n) v) = some (tb (6 ^ n) v) := by unfold p_spec_l1Own; rw [tb_len, if_pos (by omega)]; rfl
  rw [ho, Option.bind_some]
  refine (sums_run hn hs hf hv n 0 fu (by omega) (by omega)).trans ?_
  congr 1
  exact tb_congr fun t ht => stps_all n set v ht
end
end Go.GA.E
