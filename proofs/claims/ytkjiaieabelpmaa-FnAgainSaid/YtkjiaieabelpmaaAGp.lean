/- Plain law of FnAgain: outcomes merged, values of sets. -/
import Derived.Test.YtkjiaieabelpmaaAGr
import Derived.Test.YtkjiaieabelpmaaLTb
namespace Go.GA.E
open Go
set_option maxRecDepth 100000
set_option linter.unusedVariables false
theorem bit_fin : ∀ S < 8, ∀ i < 3, (andI .i64 (shrI .i64 ((S : Nat) : Int) ((i : Nat) : Int)) 1 = if S.testBit i = true then 1 else 0) := by decide +kernel
theorem shl_fin : ∀ m < 4, shlI .i64 1 ((m : Nat) : Int) = ((2 ^ m : Nat) : Int) := by decide +kernel
theorem isIn_eq {S i : Nat} (hS : S < 8) (hi : i < 3) : p_impl_isIn (S : Int) (i : Int) = some (S.testBit i) := by
  unfold p_impl_isIn
  rw [if_pos (by omega), bit_fin S hS i hi]
  cases S.testBit i <;> rfl
theorem pow3 {n : Nat} (h : n ≤ 3) : 6 ^ n ≤ 216 ∧ 1 ≤ 6 ^ n ∧ 2 ^ n ≤ 8 ∧ 1 ≤ 2 ^ n := by
  have : n = 0 ∨ n = 1 ∨ n = 2 ∨ n = 3 := by omega
  rcases this with rfl | rfl | rfl | rfl <;> decide
theorem merged_run {set : Nat} (hs : set < 8) : ∀ (j fu' t o out w : Nat), j ≤ 3 → j < fu' → t ≤ 1000 → o ≤ 1000 → out < w → w * 6 ^ j ≤ 1000 →
    whl (fun (s1 : Int × Int × Int × Int × Int) c3 => (if 0 ≤ s1.2.2.2.2 then jn (fun (s8 : Int) => c3 ((IntKind.wrap .i64 (s1.1.tdiv 6)), (IntKind.wrap .i64 (s1.2.1.tdiv 6)), (IntKind.wrap .i64 (s1.2.2.1 + (IntKind.wrap .i64 (s8 * s1.2.2.2.1)))), (IntKind.wrap .i64 (s1.2.2.2.1 * 6)), (IntKind.wrap .i64 (s1.2.2.2.2 - 1)))) (fun k9 => (p_impl_isIn (set : Int) s1.2.2.2.2).bind (fun r11 => (if r11 = true then k9 (s1.2.1.tmod 6) else k9 (s1.1.tmod 6)))) else some s1.2.2.1)) fu' ((t : Int), (o : Int), (out : Int), (w : Int), (j : Int) - 1) = some ((out + w * mg set j t o : Nat) : Int)
  | 0, fu', t, o, out, w, hj, hf, ht, ho, hw, hb => by
    obtain ⟨f, rfl⟩ : ∃ f, fu' = f + 1 := ⟨fu' - 1, by omega⟩
    simp only [whl]
    rw [if_neg (by omega)]
    simp [mg]
  | j + 1, fu', t, o, out, w, hj, hf, ht, ho, hw, hb => by
    obtain ⟨f, rfl⟩ : ∃ f, fu' = f + 1 := ⟨fu' - 1, by omega⟩
    have e1 : (t : Int).tdiv 6 = ((t / 6 : Nat) : Int) := rfl
    have e2 : (o : Int).tdiv 6 = ((o / 6 : Nat) : Int) := rfl
    have e3 : (t : Int).tmod 6 = ((t % 6 : Nat) : Int) := rfl
    have e4 : (o : Int).tmod 6 = ((o % 6 : Nat) : Int) := rfl
    have e5 : ((j + 1 : Nat) : Int) - 1 = (j : Int) := by omega
    have h6 : 1 ≤ 6 ^ j := Nat.pow_pos (by omega)
    have hw6 : w * 6 * 6 ^ j = w * 6 ^ (j + 1) := by rw [Nat.mul_assoc, ← Nat.pow_succ']
    have hwle : w * 6 ≤ w * 6 * 6 ^ j := Nat.le_mul_of_pos_right _ h6
    have step : ∀ dgt : Nat, dgt < 6 → IntKind.wrap .i64 ((out : Int) + IntKind.wrap .i64 ((dgt : Int) * (w : Int))) = ((out + dgt * w : Nat) : Int) ∧ out + dgt * w < w * 6 := by
      intro dgt hd
      have hm : dgt * w ≤ 5 * w := Nat.mul_le_mul_right w (by omega)
      rw [← Int.natCast_mul, wrap_i64 (n := ((dgt * w : Nat) : Int)) (by omega) (by omega), ← Int.natCast_add, wrap_i64 (by omega) (by omega)]
      exact ⟨rfl, by omega⟩
    have hdig : ∀ dgt : Nat, out + dgt * w + w * 6 * mg set j (t / 6) (o / 6) = out + w * (6 * mg set j (t / 6) (o / 6) + dgt) := by
      intro dgt
      rw [Nat.mul_add, ← Nat.mul_assoc, Nat.mul_comm dgt w]; omega
    have ew : IntKind.wrap .i64 ((w : Int) * 6) = ((w * 6 : Nat) : Int) := by
      rw [show ((w : Int) * 6) = ((w * 6 : Nat) : Int) from rfl]; exact wrap_nat (by omega)
    simp only [whl, jn]
    rw [if_pos (by omega), e5, isIn_eq hs (by omega), Option.bind_some, e1, e2, e3, e4, wrap_nat (by omega), wrap_nat (by omega), ew, wrap_i64 (n := (j : Int) - 1) (by omega) (by omega)]
    by_cases hb2 : set.testBit j = true
    · obtain ⟨f1, f2⟩ := step (o % 6) (Nat.mod_lt _ (by omega))
      have := merged_run hs j f (t / 6) (o / 6) (out + o % 6 * w) (w * 6) (by omega) (by omega) (by omega) (by omega) f2 (by omega)
      rw [if_pos hb2, f1]
      simp only [mg, if_pos hb2]
      rw [hdig] at this
      exact this
    · obtain ⟨f1, f2⟩ := step (t % 6) (Nat.mod_lt _ (by omega))
      have := merged_run hs j f (t / 6) (o / 6) (out + t % 6 * w) (w * 6) (by omega) (by omega) (by omega) (by omega) f2 (by omega)
      rw [if_neg hb2, f1]
      simp only [mg, if_neg hb2]
      rw [hdig] at this
      exact this
theorem merged_eq {p x4 : List (List Int)} {t o set fu : Nat} (h3 : p.length ≤ 3) (hs : set < 8) (ht : t < 6 ^ p.length) (ho : o < 6 ^ p.length) (hf : 1999 < fu) : p_impl_again_merged fu (t : Int) (set : Int) (o : Int) p x4 = some ((mg set p.length t o : Nat) : Int) := by
  obtain ⟨h216, _⟩ := pow3 h3
  have := merged_run hs p.length fu t o 0 1 h3 (by omega) (by omega) (by omega) (by omega) (by omega)
  unfold p_impl_again_merged
  rw [wrap_i64 (n := (p.length : Int) - 1) (by omega) (by omega)]
  rw [Nat.zero_add, Nat.one_mul] at this
  exact this
/-! ### Tables -/
def tb (N : Nat) (v : Nat → Nat) : List Int := (List.range N).map fun t => ((v t : Nat) : Int)
theorem tb_len (N : Nat) (v : Nat → Nat) : (tb N v).length = N := by simp [tb]
theorem tb_get {N t : Nat} (v : Nat → Nat) (h : t < N) : (tb N v).getD t 0 = ((v t : Nat) : Int) := by
  unfold tb
  rw [List.getD_eq_getElem?_getD, List.getElem?_map, List.getElem?_eq_getElem (by simpa using h)]
  simp
theorem tb_succ (N : Nat) (v : Nat → Nat) : tb (N + 1) v = tb N v ++ [((v N : Nat) : Int)] := by
  unfold tb; rw [List.range_succ, List.map_append]; rfl
theorem tb_congr {N : Nat} {v w : Nat → Nat} (h : ∀ t, t < N → v t = w t) : tb N v = tb N w := by
  unfold tb
  refine List.map_congr_left fun t ht => ?_
  rw [h t (List.mem_range.1 ht)]
def vt (N : Nat) (vs : Nat → Nat → Nat) (k : Nat) : List (List Int) := (List.range k).map fun j => tb N (vs j)
theorem vt_len (N : Nat) (vs : Nat → Nat → Nat) (k : Nat) : (vt N vs k).length = k := by simp [vt]
theorem vt_get {N j k : Nat} (vs : Nat → Nat → Nat) (h : j < k) : (vt N vs k).getD j [] = tb N (vs j) := by
  unfold vt
  rw [List.getD_eq_getElem?_getD, List.getElem?_map, List.getElem?_eq_getElem (by simpa using h)]
  simp
theorem vt_succ (N : Nat) (vs : Nat → Nat → Nat) (k : Nat) : vt N vs (k + 1) = vt N vs k ++ [tb N (vs k)] := by
  unfold vt; rw [List.range_succ, List.map_append]; rfl
theorem outcomes_eq {p x : List (List Int)} {fu : Nat} (h3 : p.length ≤ 3) (hf : 1999 < fu) : p_impl_again_outcomes fu p x = some ((6 ^ p.length : Nat) : Int) := by
  unfold p_impl_again_outcomes
  rw [power_eq p.length (by omega) (by omega)]; rfl
/-- the value of a set -/
theorem setV_run {p x4 : List (List Int)} {t set k fu : Nat} {v : Nat → Nat} (h3 : p.length ≤ 3) (hs : set < 8) (ht : t < 6 ^ p.length) (hf : 1999 < fu) (hk1 : 1 ≤ k) (hk : k ≤ x4.length) (hk2 : k ≤ 100) (hx : x4.getD (k - 1) [] = tb (6 ^ p.length) v) (hv : ∀ t, t < 6 ^ p.length → v t ≤ 1000000000) :
    ∀ (d i fu' : Nat), d + i = 6 ^ p.length → d < fu' → whl (fun (s2 : Int × Int) c4 => (if s2.2 < ((6 ^ p.length : Nat) : Int) then if 0 ≤ (IntKind.wrap .i64 ((k : Int) - 1)) then if (IntKind.wrap .i64 ((k : Int) - 1)) < (x4.length : Int) then (p_impl_again_merged fu (t : Int) (set : Int) s2.2 p x4).bind (fun r11 => if 0 ≤ r11 then if r11 < ((x4.getD (IntKind.wrap .i64 ((k : Int) - 1)).toNat []).length : Int) then c4 ((IntKind.wrap .i64 (s2.1 + ((x4.getD (IntKind.wrap .i64 ((k : Int) - 1)).toNat []).getD r11.toNat 0))), (IntKind.wrap .i64 (s2.2 + 1))) else none else none) else none else none else some s2.1)) fu' (((sm (fun o => v (mg set p.length t o)) i : Nat) : Int), (i : Int)) = some ((sv p.length v t set : Nat) : Int)
  | 0, i, fu', h, hf' => by
    obtain ⟨f, rfl⟩ : ∃ f, fu' = f + 1 := ⟨fu' - 1, by omega⟩
    simp only [whl]
    rw [if_neg (by omega), show i = 6 ^ p.length by omega]; rfl
  | d + 1, i, fu', h, hf' => by
    obtain ⟨f, rfl⟩ : ∃ f, fu' = f + 1 := ⟨fu' - 1, by omega⟩
    obtain ⟨h216, _⟩ := pow3 h3
    have hm := mg_lt set p.length t i
    have ek : IntKind.wrap .i64 ((k : Int) - 1) = ((k - 1 : Nat) : Int) := by
      rw [wrap_i64 (by omega) (by omega)]; omega
    have hle : sm (fun o => v (mg set p.length t o)) i ≤ i * 1000000000 := sm_le i (fun o _ => hv _ (mg_lt set p.length t o))
    have hvi := hv _ hm
    simp only [whl]
    rw [if_pos (by omega), ek, if_pos (by omega), if_pos (by omega), merged_eq h3 hs ht (by omega) hf, Option.bind_some, Int.toNat_natCast, hx, tb_len, if_pos (by omega), if_pos (by omega), Int.toNat_natCast, tb_get v hm, ← Int.natCast_add, wrap_nat (by omega), show (i : Int) + 1 = ((i + 1 : Nat) : Int) from rfl, wrap_nat (by omega)]
    have := setV_run h3 hs ht hf hk1 hk hk2 hx hv d (i + 1) f (by omega) (by omega)
    rw [ek, Int.toNat_natCast, hx, tb_len] at this
    exact this
theorem setV_eq {p x4 : List (List Int)} {t set k fu : Nat} {v : Nat → Nat} (h3 : p.length ≤ 3) (hs : set < 8) (ht : t < 6 ^ p.length) (hf : 1999 < fu) (hk1 : 1 ≤ k) (hk : k ≤ x4.length) (hk2 : k ≤ 100) (hx : x4.getD (k - 1) [] = tb (6 ^ p.length) v) (hv : ∀ t, t < 6 ^ p.length → v t ≤ 1000000000) : p_impl_again_setValue fu (t : Int) (set : Int) (k : Int) p x4 = some ((sv p.length v t set : Nat) : Int) := by
  obtain ⟨h216, _⟩ := pow3 h3
  unfold p_impl_again_setValue
  rw [outcomes_eq h3 hf, Option.bind_some]
  exact setV_run h3 hs ht hf hk1 hk hk2 hx hv (6 ^ p.length) 0 fu (by omega) (by omega)
end Go.GA.E
