/- Plain law of FnCounts: rolls that are counted, counts that are listed, the first mode. -/
import Derived.Test.YtalieojbaiiioaaXKw
namespace Go.GA.E
open Go
set_option maxRecDepth 100000
/-! ### rolls -/
theorem sum_set : ∀ (s : List Int) (i : Nat) (w : Int), i < s.length → ((s.set i w).map Int.toNat).sum + (s.getD i 0).toNat = (s.map Int.toNat).sum + w.toNat
  | [], i, w, h => by simp at h
  | a :: s, 0, w, h => by simp; omega
  | a :: s, i + 1, w, h => by
    have := sum_set s i w (by simpa using h)
    simp only [List.set_cons_succ, List.map_cons, List.sum_cons, List.getD_cons_succ]
    omega
theorem bump_run (l : List Int) : ∀ (y s : List Int) (b : Nat), b + y.length ≤ 12 → (∀ v ∈ y, v ∈ l) → s.length = l.length → (∀ v ∈ s, ∃ n : Nat, v = (n : Int) ∧ n ≤ b) →
    (∀ v ∈ y.foldl (fun s v => bump l v s) s, ∃ n : Nat, v = (n : Int) ∧ n ≤ 12) ∧ ((y.foldl (fun s v => bump l v s) s).map Int.toNat).sum = (s.map Int.toNat).sum + y.length
  | [], s, b, hb, _, _, h => ⟨fun v hv => by obtain ⟨n, e, hn⟩ := h v hv; exact ⟨n, e, by simp at hb; omega⟩, rfl⟩
  | a :: y, s, b, hb, hy, hs, h => by
    have hi : l.idxOf a < s.length := by rw [hs]; exact List.idxOf_lt_length_iff.2 (hy a (by simp))
    have hg : ∃ n : Nat, s.getD (l.idxOf a) 0 = (n : Int) ∧ n ≤ b := by
      rw [List.getD_eq_getElem?_getD, List.getElem?_eq_getElem hi]
      exact h _ (List.getElem_mem hi)
    obtain ⟨n, en, hn⟩ := hg
    rw [List.foldl_cons]
    simp only [List.length_cons] at hb
    have eb : bump l a s = s.set (l.idxOf a) ((n + 1 : Nat) : Int) := by
      unfold bump
      rw [en, wrap_i64 (by omega) (by omega)]; rfl
    have hm : ∀ v ∈ bump l a s, ∃ n : Nat, v = (n : Int) ∧ n ≤ b + 1 := by
      rw [eb]
      intro v hv
      rcases List.mem_or_eq_of_mem_set hv with hv | rfl
      · obtain ⟨k, e, hk⟩ := h v hv; exact ⟨k, e, by omega⟩
      · exact ⟨n + 1, rfl, by omega⟩
    obtain ⟨g1, g2⟩ := bump_run l y (bump l a s) (b + 1) (by omega) (fun v hv => hy v (by simp [hv])) (by rw [eb]; simpa using hs) hm
    refine ⟨g1, ?_⟩
    rw [g2, eb]
    have := sum_set s (l.idxOf a) ((n + 1 : Nat) : Int) hi
    rw [en, Int.toNat_natCast, Int.toNat_natCast] at this
    simp only [List.length_cons]
    omega
theorem sum_loop {R : Type} (l : List Int) (K : Int → Int → R) : cnt (fun i (s : Int) c _ => c (IntKind.wrap .i64 (s + (l.getD i.toNat 0)))) K (Int.toNat ((l.length : Int) - 0)) 0 0 = K l.length (wsum 0 l) := by
  rw [cnt_list (fun v s c => c (IntKind.wrap .i64 (s + v))) l 0 (by omega) (fun i s c _ _ => rfl), lrun_fold]
  rfl
/-- rolls that are counted are as many as the counts tell -/
theorem rolls_ok {x y : List Int} (h : x.length = 6) : ∃ a q, p_spec_CountRolls x y = some (a, q) ∧ p_impl_CountRolls x y = some (a, q) ∧
    (q = true → wsum 0 a = (y.length : Int)) := by
  obtain ⟨a, q, ha, e1, e2, hq⟩ := rolls_eq (x := x) (y := y) h
  refine ⟨a, q, e1, e2, fun hqt => ?_⟩
  obtain ⟨ea, hl, hin⟩ := hq hqt
  obtain ⟨g1, g2⟩ := bump_run (dd x) y (List.replicate (dd x).length 0) 0 (by omega) hin (by simp) (fun v hv => ⟨0, by rw [List.mem_replicate] at hv; exact hv.2, by omega⟩)
  rw [← ea] at g1 g2
  have := wsum_nat a 0 g1 (by omega)
  simp at this g2
  rw [this, g2]
/-! ### lists of counts -/
theorem vInts_self (l : List Int) : p_laws_vInts l l = true := by
  unfold p_laws_vInts
  rw [if_pos rfl]
  refine cnt_ind0 l.length (fun _ _ => True) (fun r => r = true) (by omega) trivial (fun s _ => rfl) (fun i s c _ _ hc => ?_)
  rw [if_pos rfl]
  exact hc () trivial
theorem six_run (n : Nat) (hn : n ≤ 8) : ∀ (k i fu : Nat), i + k = n → k < fu → whl (fun (s1 : Int × Int) (c3 : Int × Int → Option Int) => (if s1.2 < (n : Int) then c3 ((IntKind.wrap .i64 (s1.1 * 6)), (IntKind.wrap .i64 (s1.2 + 1))) else some s1.1)) fu (((6 ^ i : Nat) : Int), (i : Int)) = some ((6 ^ n : Nat) : Int)
  | k, i, 0, _, h => by omega
  | 0, i, fu + 1, h, _ => by
    rw [show ∀ (f : (Int × Int) → ((Int × Int) → Option Int) → Option Int) z, whl f (fu + 1) z = f z (whl f fu) from fun _ _ => rfl]
    simp only
    rw [if_neg (by omega), show i = n by omega]
  | k + 1, i, fu + 1, h, hf => by
    rw [show ∀ (f : (Int × Int) → ((Int × Int) → Option Int) → Option Int) z, whl f (fu + 1) z = f z (whl f fu) from fun _ _ => rfl]
    simp only
    rw [if_pos (by omega)]
    have hp : 6 ^ (i + 1) ≤ 2176782336 := six12 (by omega)
    have e1 : ((6 ^ i : Nat) : Int) * 6 = ((6 ^ (i + 1) : Nat) : Int) := by rw [Nat.pow_succ, Int.natCast_mul]; rfl
    rw [e1, wrap_nat (by omega), show (i : Int) + 1 = ((i + 1 : Nat) : Int) from rfl, wrap_nat (by omega)]
    exact six_run n hn k (i + 1) fu (by omega) (by omega)
theorem six_eq {n fu : Nat} (hn : n ≤ 8) (hf : 100 < fu) : p_laws_vSix fu (n : Int) = some ((6 ^ n : Nat) : Int) :=
  six_run n hn n 0 fu (by omega) (by omega)
section
variable {x y : List Int} {fu : Nat}
/-- whether so many rolls of a die are tested -/
theorem tested_or (x : List Int) (n : Int) : (∃ k : Nat, n = (k : Int) ∧ k ≤ 8 ∧ p_impl_IsDie x = true) ∨ ((!(p_impl_IsDie x)) || (!(p_impl_isTested n))) = true := by
  by_cases hd : p_impl_IsDie x = true
  · by_cases ht : 0 ≤ n ∧ n ≤ 8
    · exact .inl ⟨n.toNat, by omega, by omega, hd⟩
    · right
      unfold p_impl_isTested
      rw [within_eq, decide_eq_false ht, hd]; rfl
  · right
    cases h : p_impl_IsDie x with
    | true => exact absurd h hd
    | false => rfl
theorem spec_tested (h : x.length = 6) (n : Int) : p_spec_l11Tested x n = some (p_impl_IsDie x && p_impl_isTested n) := by
  unfold p_spec_l11Tested p_impl_isTested
  rw [l2Die_eq h, within_In]; rfl
end
end Go.GA.E
