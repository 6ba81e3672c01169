/- Plain law of FnKept. -/
import Derived.Test.YtddljmnmkiofmaaVKc
namespace Go.GA
open Go
set_option maxRecDepth 100000
/-! ### draws -/
theorem pool1 (fu : Nat) (a s : Int) (x : List Int) : p_spec_l1Cur_poolv1 fu a s x = p_spec_l1Cur_pool fu x a s := rfl
theorem place1 (p : List (List Int)) (a s : Int) (x : List Int) : p_spec_l1Cur_place4v1 p a s x = p_spec_l1Cur_place4 p x a s := rfl
theorem place_ok {x : List Int} (hx : Bytes x) {p : List (List Int)} {a s : Int} (h0 : 0 ≤ a) (h1 : a ≤ 900000) : ∃ k a' s', p_spec_l1Cur_place4 p x a s = some (k, a', s') := by
  unfold p_spec_l1Cur_place4
  obtain ⟨b, a1, s1, e1, b1, b2⟩ := oneD_ok hx (n := 24) (at_ := a) (s := s) (by omega) (by omega) (by omega)
  rw [e1, Option.bind_some]
  simp only
  split
  · obtain ⟨w, a2, s2, e2, _, _⟩ := among_ok hx (l := [0, (-1), 5, 4611686018427387904]) (by simp) (by simp) (at_ := a1) (s := s1) (by omega) (by omega)
    rw [e2, Option.bind_some]
    exact ⟨_, _, _, rfl⟩
  · have hm : p_spec_l1Most 1 (p_spec_l1Least (p.length : Int) 4) ≤ 4 := by
      unfold p_spec_l1Most p_spec_l1Least
      repeat' split
      all_goals omega
    obtain ⟨w, a2, s2, e2, _, _⟩ := pick_ok hx (n := p_spec_l1Most 1 (p_spec_l1Least (p.length : Int) 4)) (at_ := a1) (s := s1) (by omega) (by omega) (by omega)
    rw [e2, Option.bind_some]
    exact ⟨_, _, _, rfl⟩
theorem drawKeep {x : List Int} (hx : Bytes x) {fu : Nat} (hf : 64 ≤ fu) : ∃ p k, p_spec_DrawKeepTable fu x = some (p, k) ∧ Six p := by
  unfold p_spec_DrawKeepTable
  obtain ⟨p, a, s, e, c1, c2, c3, c4⟩ := pool_ok hx hf (x1 := 0) (x2 := 0) (by omega) (by omega)
  rw [e, Option.bind_some]
  simp only
  obtain ⟨k, a', s', e'⟩ := place_ok hx (p := p) (a := a) (s := s) (by omega) (by omega)
  rw [e', Option.bind_some]
  exact ⟨_, _, rfl, c2⟩
theorem drawDrop {x : List Int} (hx : Bytes x) {fu : Nat} (hf : 64 ≤ fu) : ∃ p k, p_spec_DrawDropTable fu x = some (p, k) ∧ Six p := by
  unfold p_spec_DrawDropTable
  obtain ⟨p, a, s, e, c1, c2, c3, c4⟩ := pool_ok hx hf (x1 := 0) (x2 := 0) (by omega) (by omega)
  rw [pool1, e, Option.bind_some]
  simp only
  obtain ⟨k, a', s', e'⟩ := place_ok hx (p := p) (a := a) (s := s) (by omega) (by omega)
  rw [place1, e', Option.bind_some]
  exact ⟨_, _, rfl, c2⟩
theorem cut_bytes {x : List Int} (hx : Bytes x) (hl : x.length ≤ 65536) : ∃ y, p_laws_vCut x 1 = some y ∧ Bytes y := by
  have key : ∀ s1 : Int, 0 ≤ s1 → s1 ≤ x.length → s1 ≤ 1 → ∃ y, (if 0 ≤ s1 then if s1 ≤ (x.length : Int) then if 0 + ((x.length : Int) - s1) ≤ 1000000000 then if (0 + ((x.length : Int) - s1)) + 1 ≤ 1000000000 then some (([] ++ (x.drop s1.toNat)) ++ [(IntKind.wrap .u8 s1)]) else none else none else none else none) = some y ∧ Bytes y := by
    intro s1 h0 h1 h2
    rw [if_pos h0, if_pos h1, if_pos (by omega), if_pos (by omega)]
    refine ⟨_, rfl, fun b hb => ?_⟩
    rcases List.mem_append.1 hb with h | h
    · rw [List.nil_append] at h
      exact hx b (List.mem_of_mem_drop h)
    · have e : b = IntKind.wrap .u8 s1 := by simpa using h
      rcases (by omega : s1 = 0 ∨ s1 = 1) with h | h
      · rw [e, h]; decide
      · rw [e, h]; decide
  unfold p_laws_vCut jn
  simp only
  split
  · exact key _ (by omega) (by omega) (by omega)
  · exact key 1 (by omega) (by omega) (by omega)
/-! ### moments of any loop -/
theorem momG {S Q : Type} {T : List Int} (hT : ∀ a ∈ T, 0 ≤ a) (g : Int → Int → S) (F : Int → S → S) (K : Int → S → Q) (hF : ∀ (i : Nat) (a b : Int), i < T.length → 0 ≤ T.getD i 0 → 0 ≤ a → a + T.getD i 0 ≤ 1000000000 → 0 ≤ b → 0 ≤ (i : Int) * T.getD i 0 → b + (i : Int) * T.getD i 0 ≤ 1000000000 → F (i : Int) (g a b) = g (a + T.getD i 0) (b + (i : Int) * T.getD i 0)) : ∀ (d i : Nat) (a b : Int), i + d = T.length → 0 ≤ a → a + (T.drop i).sum ≤ 1000000000 → 0 ≤ b → b + momF i (T.drop i) ≤ 1000000000 → cnt (fun i s c _ => c (F i s)) K d (i : Int) (g a b) = K ((i + d : Nat) : Int) (g (a + (T.drop i).sum) (b + momF i (T.drop i)))
  | 0, i, a, b, h, _, _, _, _ => by
    rw [List.drop_eq_nil_of_le (by omega)]
    simp [cnt, momF]
  | d + 1, i, a, b, h, a0, a1, b0, b1 => by
    have hi : i < T.length := by omega
    have e := List.drop_eq_getElem_cons hi
    have eg : T.getD i 0 = T[i] := by rw [List.getD_eq_getElem?_getD, List.getElem?_eq_getElem hi]; rfl
    rw [e] at a1 b1 ⊢
    rw [List.sum_cons] at a1 ⊢
    simp only [momF] at b1 ⊢
    have hg : 0 ≤ T[i] := hT _ (List.getElem_mem hi)
    have s0 := sum_nn2 _ (drop_nn hT (i + 1))
    have m0 := momF_nn (i + 1) _ (drop_nn hT (i + 1))
    have p0 : 0 ≤ (i : Int) * T[i] := Int.mul_nonneg (by omega) hg
    simp only [cnt]
    rw [hF i a b hi (by rw [eg]; exact hg) a0 (by rw [eg]; omega) b0 (by rw [eg]; exact p0) (by rw [eg]; omega), eg, show (i : Int) + 1 = ((i + 1 : Nat) : Int) from rfl, momG hT g F K hF d (i + 1) _ _ (by omega) (by omega) (by omega) (by omega) (by omega)]
    congr 1
    · congr 1; omega
    · congr 1
      · omega
      · omega
section
variable {L : Nat} {vs : List Nat} (h : ∀ v ∈ vs, v < L) (hb : vs.sum ≤ 1000000) (hl : vs.length ≤ 1000000)
include h hb hl
theorem mom1 {Q : Type} (K : Int → Int → Q) : cnt (fun i10 (s9 : Int) c11 _ => c11 (IntKind.wrap .i64 (s9 + (IntKind.wrap .i64 (i10 * ((tabV L vs).getD i10.toNat 0)))))) K L 0 0 = K (L : Int) ((vs.sum : Nat) : Int) := by
  have e1 := tabV_sum h
  have e2 := tabV_mom h
  have := momG (T := tabV L vs) (tabV_nn L vs) (fun _ b => b) (fun i10 (s9 : Int) => IntKind.wrap .i64 (s9 + (IntKind.wrap .i64 (i10 * ((tabV L vs).getD i10.toNat 0))))) K (fun i a b hi hg a0 a1 b0 p0 b1 => by
    rw [Int.toNat_natCast, wr (n := (i : Int) * (tabV L vs).getD i 0) (by omega) (by omega), wr (by omega) (by omega)]) L 0 0 0 (by rw [tabV_len]; omega) (by omega) (by rw [List.drop_zero, e1]; omega) (by omega) (by rw [List.drop_zero, e2]; omega)
  simp only [List.drop_zero, e1, e2, Nat.zero_add, Int.zero_add] at this
  exact this
theorem mom2 {Q : Type} (K : Int → Int × Int → Q) : cnt (fun i2 (s1 : Int × Int) c3 _ => c3 ((IntKind.wrap .i64 (s1.1 + (IntKind.wrap .i64 (i2 * ((tabV L vs).getD i2.toNat 0))))), (IntKind.wrap .i64 (s1.2 + ((tabV L vs).getD i2.toNat 0))))) K L 0 (0, 0) = K (L : Int) (((vs.sum : Nat) : Int), (vs.length : Int)) := by
  have e1 := tabV_sum h
  have e2 := tabV_mom h
  have := momG (T := tabV L vs) (tabV_nn L vs) (fun a b => (b, a)) (fun i2 (s1 : Int × Int) => ((IntKind.wrap .i64 (s1.1 + (IntKind.wrap .i64 (i2 * ((tabV L vs).getD i2.toNat 0))))), (IntKind.wrap .i64 (s1.2 + ((tabV L vs).getD i2.toNat 0))))) K (fun i a b hi hg a0 a1 b0 p0 b1 => by
    simp only
    rw [Int.toNat_natCast, wr (n := (i : Int) * (tabV L vs).getD i 0) (by omega) (by omega), wr (by omega) (by omega), wr (by omega) (by omega)]) L 0 0 0 (by rw [tabV_len]; omega) (by omega) (by rw [List.drop_zero, e1]; omega) (by omega) (by rw [List.drop_zero, e2]; omega)
  simp only [List.drop_zero, e1, e2, Nat.zero_add, Int.zero_add] at this
  exact this
theorem mom3 {Q : Type} (K : Int → Int × Int → Q) : cnt (fun i2 (s1 : Int × Int) c3 _ => c3 ((IntKind.wrap .i64 (s1.1 + ((tabV L vs).getD i2.toNat 0))), (IntKind.wrap .i64 (s1.2 + (IntKind.wrap .i64 (i2 * ((tabV L vs).getD i2.toNat 0))))))) K L 0 (0, 0) = K (L : Int) ((vs.length : Int), ((vs.sum : Nat) : Int)) := by
  have e1 := tabV_sum h
  have e2 := tabV_mom h
  have := momG (T := tabV L vs) (tabV_nn L vs) (fun a b => (a, b)) (fun i2 (s1 : Int × Int) => ((IntKind.wrap .i64 (s1.1 + ((tabV L vs).getD i2.toNat 0))), (IntKind.wrap .i64 (s1.2 + (IntKind.wrap .i64 (i2 * ((tabV L vs).getD i2.toNat 0))))))) K (fun i a b hi hg a0 a1 b0 p0 b1 => by
    simp only
    rw [Int.toNat_natCast, wr (n := (i : Int) * (tabV L vs).getD i 0) (by omega) (by omega), wr (by omega) (by omega), wr (by omega) (by omega)]) L 0 0 0 (by rw [tabV_len]; omega) (by omega) (by rw [List.drop_zero, e1]; omega) (by omega) (by rw [List.drop_zero, e2]; omega)
  simp only [List.drop_zero, e1, e2, Nat.zero_add, Int.zero_add] at this
  exact this
theorem sum1 {Q : Type} (K : Int → Int → Q) : cnt (fun i10 (s9 : Int) c11 _ => c11 (IntKind.wrap .i64 (s9 + ((tabV L vs).getD i10.toNat 0)))) K L 0 0 = K (L : Int) (vs.length : Int) := by
  have e1 := tabV_sum h
  have e2 := tabV_mom h
  have := momG (T := tabV L vs) (tabV_nn L vs) (fun a _ => a) (fun i10 (s9 : Int) => IntKind.wrap .i64 (s9 + ((tabV L vs).getD i10.toNat 0))) K (fun i a b hi hg a0 a1 b0 p0 b1 => by
    rw [Int.toNat_natCast, wr (by omega) (by omega)]) L 0 0 0 (by rw [tabV_len]; omega) (by omega) (by rw [List.drop_zero, e1]; omega) (by omega) (by rw [List.drop_zero, e2]; omega)
  simp only [List.drop_zero, e1, e2, Nat.zero_add, Int.zero_add] at this
  exact this
end
/-! ### the functions -/
def okK (p : List (List Int)) (k : Int) : Bool := p_impl_IsPool p && p_impl_within k 1 (p.length : Int)
theorem keeps_eq {p : List (List Int)} (h6 : Six p) (k : Int) : p_spec_l4Keeps p k = some (okK p k) := by
  unfold p_spec_l4Keeps
  rw [pool_eq h6, Option.bind_some]; rfl
theorem ok_of {p : List (List Int)} (h6 : Six p) {k : Int} (h : okK p k = true) : p.length ≤ 4 ∧ (∀ d ∈ p, Die6 d) ∧ ∃ j : Nat, k = (j : Int) ∧ 1 ≤ j ∧ j ≤ p.length := by
  unfold okK at h
  simp only [Bool.and_eq_true] at h
  obtain ⟨c1, c2⟩ := h
  simp only [pwithin_eq, decide_eq_true_eq] at c2
  obtain ⟨_, hl, hd⟩ := pool_six h6 c1
  exact ⟨hl, hd, k.toNat, by omega, by omega, by omega⟩
theorem not_ok {p : List (List Int)} {k : Int} (h : ¬ okK p k = true) : ((!(p_impl_IsPool p)) || (!(p_impl_isCount p k))) = true := by
  unfold okK at h
  unfold p_impl_isCount
  revert h
  cases p_impl_IsPool p <;> cases p_impl_within k 1 (p.length : Int) <;> simp
theorem is_ok {p : List (List Int)} {k : Int} (h : okK p k = true) : ¬ ((!(p_impl_IsPool p)) || (!(p_impl_isCount p k))) = true := by
  unfold okK at h
  unfold p_impl_isCount
  revert h
  cases p_impl_IsPool p <;> cases p_impl_within k 1 (p.length : Int) <;> simp
theorem pow4 {m : Nat} (h : m ≤ 4) : 6 ^ m ≤ 1296 := Nat.pow_le_pow_right (n := 6) (by omega) h
theorem vals_len (p : List (List Int)) (v : Nat → Nat) : (valsOf p v).length = 6 ^ p.length := by simp [valsOf]
theorem sum_bound (B : Nat) : ∀ l : List Nat, (∀ v ∈ l, v ≤ B) → l.sum ≤ l.length * B
  | [], _ => by simp
  | v :: l, h => by
    have := sum_bound B l (fun w hw => h w (by simp [hw]))
    have := h v (by simp)
    rw [List.sum_cons, List.length_cons, Nat.succ_mul]; omega
theorem pvals_lt {p : List (List Int)} (hd : ∀ d ∈ p, Die6 d) {k : Nat} (h1 : 1 ≤ k) (h2 : k ≤ p.length) : ∀ v ∈ valsOf p (pv p k), v < 31 := fun v hv => by
  obtain ⟨n, _, rfl⟩ := List.mem_map.1 hv
  have := (pv_eq hd (n := n) h1 h2).2; omega
theorem ksum_split {p : List (List Int)} (hd : ∀ d ∈ p, Die6 d) {k : Nat} (h1 : 1 ≤ k) (h2 : k ≤ p.length) : (valsOf p (kv p k)).sum = (valsOf p (kv p (k - 1))).sum + (valsOf p (pv p k)).sum := by
  unfold valsOf
  have : ∀ l : List Nat, (l.map (kv p k)).sum = (l.map (kv p (k - 1))).sum + (l.map (pv p k)).sum := fun l => by
    induction l with
    | nil => rfl
    | cons n l ih => simp only [List.map_cons, List.sum_cons, ih, kv_pv hd (n := n) h1 h2]; omega
  exact this _
theorem psum_anti {p : List (List Int)} (hd : ∀ d ∈ p, Die6 d) {k : Nat} (h1 : 2 ≤ k) (h2 : k ≤ p.length) : (valsOf p (pv p k)).sum ≤ (valsOf p (pv p (k - 1))).sum := by
  unfold valsOf
  have : ∀ l : List Nat, (l.map (pv p k)).sum ≤ (l.map (pv p (k - 1))).sum := fun l => by
    induction l with
    | nil => exact Nat.le_refl _
    | cons n l ih => have := pv_anti hd (n := n) h1 h2; simp only [List.map_cons, List.sum_cons]; omega
  exact this _
theorem kzero {p : List (List Int)} : (valsOf p (kv p 0)).sum = 0 := by
  have h := sum_bound 0 (valsOf p (kv p 0)) (fun v hv => by
    obtain ⟨n, _, rfl⟩ := List.mem_map.1 hv
    unfold kv
    simp)
  omega
section
variable {p : List (List Int)} (hl : p.length ≤ 4) (hd : ∀ d ∈ p, Die6 d)
include hl hd
theorem kvals_lt (k : Nat) : ∀ v ∈ valsOf p (kv p k), v < 121 := fun v hv => by
  obtain ⟨n, _, rfl⟩ := List.mem_map.1 hv
  have := kv_le hd hl k n; omega
theorem ksum_le (k : Nat) : (valsOf p (kv p k)).sum ≤ 155520 := by
  have h := sum_bound 120 (valsOf p (kv p k)) (fun v hv => by have := kvals_lt hl hd k v hv; omega)
  rw [vals_len] at h
  have := pow4 hl
  omega
theorem psum_le {k : Nat} (h1 : 1 ≤ k) (h2 : k ≤ p.length) : (valsOf p (pv p k)).sum ≤ 155520 := by
  have h := sum_bound 30 (valsOf p (pv p k)) (fun v hv => by have := pvals_lt hd h1 h2 v hv; omega)
  rw [vals_len] at h
  have := pow4 hl
  omega
end
section
variable {p : List (List Int)} {fu : Nat}
theorem keep_eq (h6 : Six p) (hf : 10000 ≤ fu) (k : Int) : p_impl_KeepTable fu p k = some (if okK p k = true then (tabV 121 (valsOf p (kv p k.toNat)), true) else (List.replicate 121 0, false)) ∧ p_spec_KeepTable fu p k = some (if okK p k = true then (tabV 121 (valsOf p (kv p k.toNat)), true) else (List.replicate 121 0, false)) := by
  unfold p_impl_KeepTable p_spec_KeepTable
  rw [keeps_eq h6, Option.bind_some]
  by_cases h : okK p k = true
  · obtain ⟨hl, hd, j, rfl, h1, h2⟩ := ok_of h6 h
    rw [if_neg (is_ok h), if_pos h, if_pos h, kept_eq hd hl hf h2, l4Kept_eq hd hl hf h2, Int.toNat_natCast]
    exact ⟨rfl, rfl⟩
  · rw [if_pos (not_ok h), if_neg h, if_neg h]
    exact ⟨rfl, rfl⟩
theorem place_eq (h6 : Six p) (hf : 10000 ≤ fu) (k : Int) : p_impl_PlaceTable fu p k = some (if okK p k = true then (tabV 31 (valsOf p (pv p k.toNat)), true) else (List.replicate 31 0, false)) ∧ p_spec_PlaceTable fu p k = some (if okK p k = true then (tabV 31 (valsOf p (pv p k.toNat)), true) else (List.replicate 31 0, false)) := by
  unfold p_impl_PlaceTable p_spec_PlaceTable
  rw [keeps_eq h6, Option.bind_some]
  by_cases h : okK p k = true
  · obtain ⟨hl, hd, j, rfl, h1, h2⟩ := ok_of h6 h
    rw [if_neg (is_ok h), if_pos h, if_pos h, placed_eq hd hl hf h1 h2, l4At_eq hd hl hf h1 h2, Int.toNat_natCast]
    exact ⟨rfl, rfl⟩
  · rw [if_pos (not_ok h), if_neg h, if_neg h]
    exact ⟨rfl, rfl⟩
theorem mkept_eq (h6 : Six p) (hf : 200000 ≤ fu) (k : Int) : p_impl_MeanKept fu p k = some (if okK p k = true then (cutF (valsOf p (kv p k.toNat)).sum (6 ^ p.length), true) else (List.replicate 2 0, false)) ∧ p_spec_MeanKept fu p k = some (if okK p k = true then (cutF (valsOf p (kv p k.toNat)).sum (6 ^ p.length), true) else (List.replicate 2 0, false)) := by
  unfold p_impl_MeanKept p_spec_MeanKept
  rw [keeps_eq h6, Option.bind_some]
  by_cases h : okK p k = true
  · obtain ⟨hl, hd, j, rfl, h1, h2⟩ := ok_of h6 h
    have hs := ksum_le hl hd j
    have hp := pow4 hl
    have hp0 : 0 < 6 ^ p.length := Nat.pow_pos (by omega)
    rw [if_neg (is_ok h), if_pos h, if_pos h, kept_eq hd hl (by omega) h2, l4Kept_eq hd hl (by omega) h2, Int.toNat_natCast, Option.bind_some, Option.bind_some]
    unfold p_spec_l4Mean
    have e5 : Int.toNat (121 - 0) = 121 := rfl
    have e6 : Int.toNat (((tabV 121 (valsOf p (kv p j))).length : Int) - 0) = 121 := by rw [tabV_len]; rfl
    rw [e5, e6, mom1 (kvals_lt hl hd j) (by omega) (by rw [vals_len]; omega), mom2 (kvals_lt hl hd j) (by omega) (by rw [vals_len]; omega), vals_len, power_eq (by omega) (by omega), Option.bind_some, fraction_eq _ _ (by omega) (by omega) (by omega) (by omega), cut_eq _ _ (by omega) (by omega) (by omega) (by omega)]
    exact ⟨rfl, rfl⟩
  · rw [if_pos (not_ok h), if_neg h, if_neg h]
    exact ⟨rfl, rfl⟩
theorem mplace_eq (h6 : Six p) (hf : 200000 ≤ fu) (k : Int) : p_impl_MeanPlace fu p k = some (if okK p k = true then (cutF (valsOf p (pv p k.toNat)).sum (6 ^ p.length), true) else (List.replicate 2 0, false)) ∧ p_spec_MeanPlace fu p k = some (if okK p k = true then (cutF (valsOf p (pv p k.toNat)).sum (6 ^ p.length), true) else (List.replicate 2 0, false)) := by
  unfold p_impl_MeanPlace p_spec_MeanPlace
  rw [keeps_eq h6, Option.bind_some]
  by_cases h : okK p k = true
  · obtain ⟨hl, hd, j, rfl, h1, h2⟩ := ok_of h6 h
    have hs := psum_le hl hd h1 h2
    have hp := pow4 hl
    have hp0 : 0 < 6 ^ p.length := Nat.pow_pos (by omega)
    rw [if_neg (is_ok h), if_pos h, if_pos h, placed_eq hd hl (by omega) h1 h2, l4At_eq hd hl (by omega) h1 h2, Int.toNat_natCast, Option.bind_some, Option.bind_some]
    unfold p_spec_l4Mean
    have e5 : Int.toNat (31 - 0) = 31 := rfl
    have e6 : Int.toNat (((tabV 31 (valsOf p (pv p j))).length : Int) - 0) = 31 := by rw [tabV_len]; rfl
    rw [e5, e6, mom1 (pvals_lt hd h1 h2) (by omega) (by rw [vals_len]; omega), mom2 (pvals_lt hd h1 h2) (by omega) (by rw [vals_len]; omega), vals_len, power_eq (by omega) (by omega), Option.bind_some, fraction_eq _ _ (by omega) (by omega) (by omega) (by omega), cut_eq _ _ (by omega) (by omega) (by omega) (by omega)]
    exact ⟨rfl, rfl⟩
  · rw [if_pos (not_ok h), if_neg h, if_neg h]
    exact ⟨rfl, rfl⟩
theorem drop_eq (h6 : Six p) (hf : 10000 ≤ fu) (n : Int) : ∃ T ok, p_impl_DropTable fu p n = some (T, ok) ∧ p_spec_DropTable fu p n = some (T, ok) ∧ ∀ K : Unit → Option Bool, (if ok = true then (p_impl_KeepTable fu p (IntKind.wrap .i64 ((p.length : Int) - n))).bind (fun r665 => (if ((!r665.2) || (!(decide (r665.1 = T)))) = true then some false else K ())) else K ()) = K () := by
  unfold p_impl_DropTable p_spec_DropTable
  rw [pool_eq h6, Option.bind_some]
  have ew : p_spec_l1In n 0 ((p.length : Int) - 1) = p_impl_within n 0 ((p.length : Int) - 1) := rfl
  rw [ew]
  by_cases h : ((!(p_impl_IsPool p)) || (!(p_impl_within n 0 ((p.length : Int) - 1)))) = true
  · rw [if_pos h, if_pos h]
    exact ⟨_, _, rfl, rfl, fun K => rfl⟩
  · rw [if_neg h, if_neg h]
    have hh : p_impl_IsPool p = true ∧ p_impl_within n 0 ((p.length : Int) - 1) = true := by
      revert h
      cases p_impl_IsPool p <;> cases p_impl_within n 0 ((p.length : Int) - 1) <;> simp
    obtain ⟨c1, c2⟩ := hh
    simp only [pwithin_eq, decide_eq_true_eq] at c2
    obtain ⟨_, hl, hd⟩ := pool_six h6 c1
    have e : IntKind.wrap .i64 ((p.length : Int) - n) = ((p.length - n.toNat : Nat) : Int) := by rw [wr (by omega) (by omega)]; omega
    rw [e, kept_eq hd hl hf (by omega), l4Kept_eq hd hl hf (by omega)]
    refine ⟨_, true, rfl, rfl, fun K => ?_⟩
    have hok : okK p ((p.length - n.toNat : Nat) : Int) = true := by
      unfold okK
      rw [c1, pwithin_eq]
      simp; omega
    rw [if_pos rfl, (keep_eq h6 hf _).1, Option.bind_some, if_pos hok, Int.toNat_natCast]
    simp
end
end Go.GA
