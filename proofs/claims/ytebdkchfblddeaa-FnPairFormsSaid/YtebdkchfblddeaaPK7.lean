/- Plain law of FnPairForms: what tables and sums are. -/
import Derived.Test.YtebdkchfblddeaaPK6
namespace Go.GA
open Go
set_option maxRecDepth 100000
set_option linter.unusedSectionVars false
theorem sum_lrun {R : Type} (k : Int → R) : ∀ (l : List Int) (s : Int), (∀ a ∈ l, 0 ≤ a) → 0 ≤ s → s + l.sum ≤ 1000000000 → lrun (fun a s c => c (IntKind.wrap .i64 (s + a))) k l s = k (s + l.sum)
  | [], s, _, _, _ => by simp [lrun]
  | a :: l, s, h, h0, hb => by
    have ha := h a (by simp)
    rw [List.sum_cons] at hb ⊢
    have hl : 0 ≤ l.sum := by
      refine sum_nn (fun j => ?_)
      rw [List.getD_eq_getElem?_getD]
      cases hj : l[j]? with
      | none => simp
      | some b => exact h b (by simp [List.mem_of_getElem? hj])
    show lrun _ k l (IntKind.wrap .i64 (s + a)) = _
    rw [wr (by omega) (by omega), sum_lrun k l (s + a) (fun b hb => h b (by simp [hb])) (by omega) (by omega)]
    congr 1; omega
theorem sq_lrun {R : Type} (k : Int → R) : ∀ (l : List Int) (s : Int), (∀ a ∈ l, 0 ≤ a ∧ a ≤ 30) → 0 ≤ s → s + 900 * l.length ≤ 1000000000 → lrun (fun a s c => c (IntKind.wrap .i64 (s + IntKind.wrap .i64 (a * a)))) k l s = k (s + sq l)
  | [], s, _, _, _ => by simp [lrun, sq]
  | a :: l, s, h, h0, hb => by
    have ha := h a (by simp)
    have e : sq (a :: l) = a * a + sq l := by simp [sq]
    have h1 : 0 ≤ a * a := Int.mul_nonneg ha.1 ha.1
    have h2 : a * a ≤ 30 * 30 := Int.mul_le_mul ha.2 ha.2 ha.1 (by omega)
    rw [List.length_cons] at hb
    show lrun _ k l (IntKind.wrap .i64 (s + IntKind.wrap .i64 (a * a))) = _
    rw [wr (n := a * a) (by omega) (by omega), wr (by omega) (by omega), sq_lrun k l (s + a * a) (fun b hb => h b (by simp [hb])) (by omega) (by omega), e]
    congr 1; omega
theorem nn_mem {T : List Int} (h : NN T) : ∀ a ∈ T, 0 ≤ a := fun a ha => by
  obtain ⟨i, hi, rfl⟩ := List.mem_iff_getElem.1 ha
  have := h i
  rw [List.getD_eq_getElem?_getD, List.getElem?_eq_getElem hi] at this
  exact this
theorem total_eq {l : List Int} (h : ∀ a ∈ l, 0 ≤ a) (hb : l.sum ≤ 1000000000) : p_impl_total l = l.sum := by
  unfold p_impl_total
  rw [cnt_list (fun (a : Int) (s : Int) (c : Int → Int) => c (IntKind.wrap .i64 (s + a))) l 0 (by omega) (fun _ _ _ _ _ => rfl)]
  have := sum_lrun (R := Int) (fun s => s) l 0 h (by omega) (by omega)
  rw [Int.zero_add] at this
  exact this
/-- a loop over dice -/
theorem dice_lrun {S R : Type} {F : List Int → S → (S → R) → R} {G : S → List Int → S} (I : S → Nat → Prop) (k : S → R) (hF : ∀ d s c n, Die6 d → n ≤ 4 → I s n → F d s c = c (G s d) ∧ I (G s d) (n + 1)) : ∀ (x : List (List Int)) (s : S) (n : Nat), (∀ d ∈ x, Die6 d) → n + x.length ≤ 4 → I s n → lrun F k x s = k (x.foldl G s) ∧ I (x.foldl G s) (n + x.length)
  | [], s, n, _, _, hi => ⟨rfl, hi⟩
  | d :: x, s, n, hx, hn, hi => by
    simp only [List.length_cons] at hn ⊢
    obtain ⟨e, hi'⟩ := hF d s (fun s' => lrun F k x s') n (hx d (by simp)) (by omega) hi
    obtain ⟨e2, hi2⟩ := dice_lrun I k hF x (G s d) (n + 1) (fun q hq => hx q (by simp [hq])) (by omega) hi'
    refine ⟨?_, by rw [show n + (x.length + 1) = n + 1 + x.length by omega]; exact hi2⟩
    show F d s (fun s' => lrun F k x s') = _
    rw [e, e2]; rfl
theorem fV_le (s : Int) {d : List Int} (h : Die6 d) : s ≤ fV s d ∧ fV s d ≤ s + 32400 := by
  have h1 := h.sum
  have h2 := spread_nn h
  have h3 : 0 ≤ d.sum * d.sum := Int.mul_nonneg h1.1 h1.1
  unfold fV
  omega
section
variable {x : List (List Int)} (h6 : Six x) (hp : p_impl_IsPool x = true)
include h6 hp
theorem tab_facts : p_impl_sums x = some (tabOf x) ∧ p_spec_l2Table x = some (tabOf x) ∧ Tab x.length (tabOf x) ∧ TM (tabOf x) (x.foldl fA 0) (x.foldl fV 0) (x.foldl fLo 0) (x.foldl fHi 0) := by
  obtain ⟨h1, h2, h3⟩ := pool_good h6 hp
  obtain ⟨_, _, h4⟩ := pool_six h6 hp
  obtain ⟨a, b, c⟩ := table_is h2 h3
  exact ⟨a, b, c, tm_pool h2 h4⟩
theorem n_le : 6 ^ x.length ≤ 1296 ∧ 0 < 6 ^ x.length := by
  obtain ⟨h1, h2, h3⟩ := pool_good h6 hp
  have hp6 : 6 ^ x.length ≤ 6 ^ 4 := Nat.pow_le_pow_right (by omega) h2
  have e6 : (6 : Nat) ^ 4 = 1296 := rfl
  exact ⟨by omega, Nat.pow_pos (by omega)⟩
theorem ent_le (i : Nat) : 0 ≤ (tabOf x).getD i 0 ∧ (tabOf x).getD i 0 ≤ 1296 := by
  obtain ⟨a, b, c, _⟩ := tab_facts h6 hp
  have h1 := n_le h6 hp
  have h2 := getD_le_sum c.nn i
  rw [c.sum] at h2
  exact ⟨c.nn i, by omega⟩
theorem chance_eq {fu : Nat} (hf : 2000 < fu) {n : Int} (h0 : 0 ≤ n) (h1 : n ≤ 120) : p_impl_ChanceOfSum fu x n = some (cutF ((tabOf x).getD n.toNat 0).toNat (6 ^ x.length), true) := by
  obtain ⟨a, b, c, _⟩ := tab_facts h6 hp
  obtain ⟨_, hm, _⟩ := pool_good h6 hp
  have hn := n_le h6 hp
  have he := ent_le h6 hp n.toNat
  have en : (((tabOf x).getD n.toNat 0).toNat : Int) = (tabOf x).getD n.toNat 0 := by omega
  unfold p_impl_ChanceOfSum
  rw [if_neg (by simp [hp, pwithin_eq]; omega), a, Option.bind_some, if_pos h0, if_pos (by omega), power_eq (by omega) (by omega), Option.bind_some]
  have := fraction_eq (fu := fu) ((tabOf x).getD n.toNat 0).toNat (6 ^ x.length) (by omega) (by omega) (by omega) (by omega)
  rw [en] at this
  rw [this, Option.bind_some]
theorem fold_le {G : Int → List Int → Int} {B : Int} (hG : ∀ s d, Die6 d → s ≤ G s d ∧ G s d ≤ s + B) (hB : 0 ≤ B) : 0 ≤ x.foldl G 0 ∧ x.foldl G 0 ≤ 4 * B := by
  obtain ⟨_, hm, hd⟩ := pool_six h6 hp
  have key : ∀ (l : List (List Int)) (s : Int), (∀ d ∈ l, Die6 d) → s ≤ l.foldl G s ∧ l.foldl G s ≤ s + l.length * B := by
    intro l
    induction l with
    | nil => intro s _; simp
    | cons d l ih =>
      intro s h
      have h1 := hG s d (h d (by simp))
      have h2 := ih (G s d) (fun q hq => h q (by simp [hq]))
      rw [List.foldl_cons, List.length_cons]
      have e : ((l.length + 1 : Nat) : Int) * B = l.length * B + B := by grind
      omega
  have := key x 0 hd
  have hl : (x.length : Int) * B ≤ 4 * B := Int.mul_le_mul_of_nonneg_right (by omega) hB
  omega
theorem spread_eq {fu : Nat} (hf : 2000 < fu) : p_impl_SpreadOf fu x = some (cutF (x.foldl fV 0).toNat 36, true) := by
  obtain ⟨_, hm, hd⟩ := pool_six h6 hp
  have hb := fold_le h6 hp (G := fV) (B := 32400) (fun s d h => fV_le s h) (by omega)
  have en : ((x.foldl fV 0).toNat : Int) = x.foldl fV 0 := by omega
  unfold p_impl_SpreadOf
  rw [if_pos hp]
  rw [cnt_list (fun (d : List Int) (s : Int) (c : Int → Option (List Int × Bool)) => cnt (fun i10 (s9 : Int) c11 _ => c11 (IntKind.wrap .i64 (s9 + (IntKind.wrap .i64 ((d.getD i10.toNat 0) * (d.getD i10.toNat 0)))))) (fun i10 (s9 : Int) => c (IntKind.wrap .i64 (s + (IntKind.wrap .i64 ((IntKind.wrap .i64 (6 * s9)) - (IntKind.wrap .i64 ((p_impl_total d) * (p_impl_total d)))))))) (Int.toNat (6 - 0)) 0 0) x (List.replicate 6 0) (by omega) (fun _ _ _ _ _ => rfl)]
  rw [(dice_lrun (G := fV) (fun s n => 0 ≤ s ∧ s ≤ 32400 * n) (fun s => (p_impl_fraction fu s 36).bind (fun r9 => some (r9, true))) (fun d s c n h hn hi => by
    have h1 := h.sum
    have h2 := spread_nn h
    have h3 := fV_le s h
    have h4 : 0 ≤ d.sum * d.sum := Int.mul_nonneg h1.1 h1.1
    rw [cnt_list (fun (a : Int) (s : Int) (c : Int → Option (List Int × Bool)) => c (IntKind.wrap .i64 (s + IntKind.wrap .i64 (a * a)))) d 0 (by rw [h.len]; rfl) (fun _ _ _ _ _ => rfl)]
    rw [sq_lrun _ d 0 (fun a ha => ⟨(h.face a ha).1, (h.face a ha).2.1⟩) (by omega) (by rw [h.len]; omega)]
    rw [total_eq (fun a ha => (h.face a ha).1) (by omega), Int.zero_add]
    rw [wr (n := 6 * sq d) (by omega) (by omega), wr (n := d.sum * d.sum) (by omega) (by omega), wr (n := 6 * sq d - d.sum * d.sum) (by omega) (by omega), wr (by omega) (by omega)]
    exact ⟨rfl, by omega, by omega⟩) x 0 0 hd (by omega) ⟨by omega, by omega⟩).1]
  have := fraction_eq (fu := fu) (x.foldl fV 0).toNat 36 (by omega) (by omega) (by omega) (by omega)
  rw [en] at this
  have this' : p_impl_fraction fu (x.foldl fV 0) 36 = some (cutF (x.foldl fV 0).toNat 36) := this
  rw [this', Option.bind_some]
omit h6 hp in
theorem fold_pair : ∀ (x : List (List Int)) (a b : Int), x.foldl (fun (s : Int × Int) d => (fLo s.1 d, fHi s.2 d)) (a, b) = (x.foldl fLo a, x.foldl fHi b)
  | [], _, _ => rfl
  | d :: x, a, b => by simp only [List.foldl_cons]; exact fold_pair x _ _
theorem bounds_run {R : Type} (k : Int × Int → R) : lrun (fun (d : List Int) (s : Int × Int) c => c ((IntKind.wrap .i64 (s.1 + (d.getD 0 0))), (IntKind.wrap .i64 (s.2 + (d.getD 5 0))))) k x (0, 0) = k (x.foldl fLo 0, x.foldl fHi 0) := by
  obtain ⟨_, hm, hd⟩ := pool_six h6 hp
  rw [(dice_lrun (G := fun (s : Int × Int) d => (fLo s.1 d, fHi s.2 d)) (fun s n => (0 ≤ s.1 ∧ s.1 ≤ 30 * n) ∧ (0 ≤ s.2 ∧ s.2 ≤ 30 * n)) k (fun d s c n h hn hi => by
      have h1 := h.face _ h.ends.1
      have h2 := h.face _ h.ends.2
      rw [wr (n := s.1 + d.getD 0 0) (by omega) (by omega), wr (by omega) (by omega)]
      refine ⟨rfl, ⟨?_, ?_⟩, ⟨?_, ?_⟩⟩ <;> simp only [fLo, fHi] <;> omega) x (0, 0) 0 hd (by omega) ⟨⟨by simp, by simp⟩, ⟨by simp, by simp⟩⟩).1]
  rw [fold_pair]
theorem bounds_eq : p_impl_bounds x = (x.foldl fLo 0, x.foldl fHi 0) ∧ p_spec_BoundsOf x = some (x.foldl fLo 0, x.foldl fHi 0, true) := by
  constructor
  · unfold p_impl_bounds
    rw [cnt_list (fun (d : List Int) (s : Int × Int) (c : Int × Int → Int × Int) => c ((IntKind.wrap .i64 (s.1 + (d.getD 0 0))), (IntKind.wrap .i64 (s.2 + (d.getD 5 0))))) x (List.replicate 6 0) (by omega) (fun _ _ _ _ _ => rfl)]
    exact bounds_run h6 hp (fun s => (s.1, s.2))
  · unfold p_spec_BoundsOf
    rw [pool_eq h6, Option.bind_some, if_pos hp]
    rw [cnt_list (fun (d : List Int) (s : Int × Int) (c : Int × Int → Option (Int × Int × Bool)) => c ((IntKind.wrap .i64 (s.1 + (d.getD 0 0))), (IntKind.wrap .i64 (s.2 + (d.getD 5 0))))) x (List.replicate 6 0) (by omega) (fun _ _ _ _ _ => rfl)]
    exact bounds_run h6 hp (fun s => some (s.1, s.2, true))
end
end Go.GA
