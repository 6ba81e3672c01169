/- Plain law of FnLetters: rolls, and ways as counts. -/
import Derived.Test.YtnomfaepgmbogaaNLc
namespace Go.GA.E
open Go
set_option maxRecDepth 100000
def dg (m t i : Nat) : Nat := t / 6 ^ (m - 1 - i) % 6
def rl (p : List (List Int)) (t : Nat) : List Int := (List.range p.length).map fun i => (p.getD i (List.replicate 6 0)).getD (dg p.length t i) 0
theorem rl_len (p : List (List Int)) (t : Nat) : (rl p t).length = p.length := by simp [rl]
theorem rl_get {p : List (List Int)} {t i : Nat} (hi : i < p.length) : (rl p t).getD i 0 = (p.getD i (List.replicate 6 0)).getD (dg p.length t i) 0 := by
  unfold rl
  rw [List.getD_eq_getElem?_getD, List.getElem?_map, List.getElem?_eq_getElem (by simpa using hi)]
  simp
theorem roll_exact (p : List (List Int)) (t : Nat) (ht : t ≤ 1000000) : ∀ (j fu' : Nat) (l : List Int), j ≤ p.length → j < fu' → l.length = p.length → (∀ i, j ≤ i → i < p.length → l.getD i 0 = (rl p t).getD i 0) → whl (fun (s2 : Int × Int × (List Int)) c4 => (if 0 ≤ s2.2.1 then if 0 ≤ (s2.1.tmod 6) then if (s2.1.tmod 6) < 6 then c4 ((IntKind.wrap .i64 (s2.1.tdiv 6)), (s2.2.1 - 1), (s2.2.2.set s2.2.1.toNat ((p.getD s2.2.1.toNat (List.replicate 6 0)).getD (s2.1.tmod 6).toNat 0))) else none else none else some s2.2.2)) fu' (((t / 6 ^ (p.length - j) : Nat) : Int), (j : Int) - 1, l) = some (rl p t)
  | 0, fu', l, hj, hf, hl, hi => by
    obtain ⟨f, rfl⟩ : ∃ f, fu' = f + 1 := ⟨fu' - 1, by omega⟩
    simp only [whl]
    rw [if_neg (by omega)]
    congr 1
    apply List.ext_getElem
    · rw [hl, rl_len]
    · intro i h1 h2
      have := hi i (Nat.zero_le _) (by omega)
      rw [List.getD_eq_getElem?_getD, List.getD_eq_getElem?_getD, List.getElem?_eq_getElem h1, List.getElem?_eq_getElem h2] at this
      exact this
  | j + 1, fu', l, hj, hf, hl, hi => by
    obtain ⟨f, rfl⟩ : ∃ f, fu' = f + 1 := ⟨fu' - 1, by omega⟩
    have hq : t / 6 ^ (p.length - (j + 1)) / 6 = t / 6 ^ (p.length - j) := by
      rw [Nat.div_div_eq_div_mul, ← Nat.pow_succ, show (p.length - (j + 1)).succ = p.length - j by omega]
    have hle : t / 6 ^ (p.length - (j + 1)) ≤ t := Nat.div_le_self _ _
    have hd : t / 6 ^ (p.length - (j + 1)) % 6 = dg p.length t j := by
      unfold dg; rw [show p.length - 1 - j = p.length - (j + 1) by omega]
    generalize t / 6 ^ (p.length - (j + 1)) = rest at *
    have e1 : (rest : Int).tmod 6 = ((rest % 6 : Nat) : Int) := rfl
    have e2 : (rest : Int).tdiv 6 = ((rest / 6 : Nat) : Int) := rfl
    have hm : rest % 6 < 6 := Nat.mod_lt _ (by omega)
    have hd2 : rest / 6 ≤ rest := Nat.div_le_self _ _
    have ih := roll_exact p t ht j f (l.set j ((p.getD j (List.replicate 6 0)).getD (rest % 6) 0)) (by omega) (by omega) (by rw [List.length_set]; exact hl) (fun i h1 h2 => by
      by_cases e : j = i
      · subst e
        rw [List.getD_eq_getElem?_getD, List.getElem?_set_self (by omega), rl_get h2, ← hd]; rfl
      · rw [List.getD_eq_getElem?_getD, List.getElem?_set_ne e, ← List.getD_eq_getElem?_getD]
        exact hi i (by omega) h2)
    rw [← hq] at ih
    simp only [whl]
    rw [if_pos (by omega), e1, if_pos (by omega), if_pos (by omega), e2, wrap_nat (by omega), show (((j + 1 : Nat) : Int) - 1).toNat = j by omega, show (((j + 1 : Nat) : Int) - 1 - 1) = (j : Int) - 1 by omega]
    exact ih
theorem rollAt_eq {p : List (List Int)} {t fu : Nat} (h4 : p.length ≤ 4) (ht : t < 6 ^ p.length) (hf : 1999 < fu) : p_impl_rollAt fu p (t : Int) = some (rl p t) := by
  have h64 : 6 ^ p.length ≤ 6 ^ 4 := Nat.pow_le_pow_right (by omega) h4
  have e64 : (6 : Nat) ^ 4 = 1296 := by decide
  unfold p_impl_rollAt
  rw [if_pos (by omega)]
  have := roll_exact p t (by omega) p.length fu (List.replicate (p.length : Int).toNat 0) (Nat.le_refl _) (by omega) (by simp) (fun i h1 h2 => by omega)
  rw [Nat.sub_self, Nat.pow_zero, Nat.div_one] at this
  exact this
/-! ### Ways as counts -/
def isO (p : List (List Int)) (o : List Int) (t : Nat) : Bool := decide (p_impl_orderOf (rl p t) = some ((o, ()), true))
def wc (p : List (List Int)) (o : List Int) (k : Nat) : Nat := (List.range k).countP (isO p o)
def wk (p : List (List Int)) (k : Nat) : List Int := (oM p.length).map fun o => ((wc p o k : Nat) : Int)
def wv (p : List (List Int)) : List Int := wk p (6 ^ p.length)
theorem wc_succ (p : List (List Int)) (o : List Int) (k : Nat) : wc p o (k + 1) = wc p o k + if isO p o k = true then 1 else 0 := by
  unfold wc
  rw [List.range_succ, List.countP_append, List.countP_singleton]
theorem wc_le (p : List (List Int)) (o : List Int) (k : Nat) : wc p o k ≤ k := by
  unfold wc
  have := List.countP_le_length (p := isO p o) (l := List.range k)
  rwa [List.length_range] at this
theorem wk_get {p : List (List Int)} {k i : Nat} (hi : i < (oM p.length).length) : (wk p k).getD i 0 = ((wc p ((oM p.length).getD i []) k : Nat) : Int) := by
  unfold wk
  rw [List.getD_eq_getElem?_getD, List.getD_eq_getElem?_getD, List.getElem?_map, List.getElem?_eq_getElem hi]; rfl
theorem wk_len (p : List (List Int)) (k : Nat) : (wk p k).length = (ordL p.length).length := by simp [wk, oM]
theorem wk_ext {p : List (List Int)} {k : Nat} {l : List Int} (hl : l.length = (oM p.length).length) (h : ∀ i, i < (oM p.length).length → l.getD i 0 = ((wc p ((oM p.length).getD i []) k : Nat) : Int)) : l = wk p k := by
  apply List.ext_getElem
  · rw [hl, wk_len, oM_len]
  · intro i h1 h2
    have h3 := h i (by omega)
    rw [← wk_get (k := k) (by omega)] at h3
    rw [List.getD_eq_getElem?_getD, List.getD_eq_getElem?_getD, List.getElem?_eq_getElem h1, List.getElem?_eq_getElem h2] at h3
    exact h3
theorem wk_hit {p : List (List Int)} {k : Nat} {o : List Int} (hn : (oM p.length).Nodup) (ho : o ∈ oM p.length) (he : p_impl_orderOf (rl p k) = some ((o, ()), true)) (hk : k ≤ 100000) : bumpAt (wk p k) ((oM p.length).idxOf o) = wk p (k + 1) := by
  obtain ⟨j1, j2⟩ := idx_spec hn ho
  refine wk_ext (by unfold bumpAt; rw [List.length_set, wk_len, oM_len]) (fun i hi => ?_)
  rw [wc_succ]
  unfold bumpAt
  have hle := wc_le p o k
  by_cases e : (oM p.length).idxOf o = i
  · have e2 := (j2 i hi).2 e.symm
    rw [← e, List.getD_eq_getElem?_getD, List.getElem?_set_self (by rw [wk_len, ← oM_len]; exact j1), Option.getD_some, e, wk_get hi, e2, wrap_i64 (by omega) (by omega), if_pos (by unfold isO; rw [he]; simp)]; rfl
  · have e2 : ¬ (oM p.length).getD i [] = o := fun h => e ((j2 i hi).1 h).symm
    rw [List.getD_eq_getElem?_getD, List.getElem?_set_ne e, ← List.getD_eq_getElem?_getD, wk_get hi, if_neg]
    · rfl
    · unfold isO
      rw [he]
      simp only [decide_eq_true_eq]
      intro h
      have h2 := congrArg (fun z => z.1.1) (Option.some.inj h)
      exact e2 h2.symm
theorem wk_miss {p : List (List Int)} {k : Nat} {o : List Int × Unit} (he : p_impl_orderOf (rl p k) = some (o, false)) : wk p k = wk p (k + 1) := by
  refine wk_ext (by rw [wk_len, oM_len]) (fun i hi => ?_)
  rw [wc_succ, wk_get hi, if_neg]
  · rfl
  · unfold isO
    rw [he]
    simp
theorem ways_go {p : List (List Int)} {fu : Nat} (hF : Fuel fu) (h1 : 1 ≤ p.length) (h4 : p.length ≤ 4) : ∀ (d k fu' : Nat), d + k = 6 ^ p.length → d < fu' →
      whl (fun (s5 : Int × (List Int)) c7 => (if s5.1 < ((6 ^ p.length : Nat) : Int) then (p_impl_rollAt fu p s5.1).bind (fun r12 => (p_impl_orderOf r12).bind (fun r14 => (if r14.2 = true then if 0 ≤ (p_slices_Index_impl_Order_impl_Order (ordL p.length) (r14.1.1, ())) then if (p_slices_Index_impl_Order_impl_Order (ordL p.length) (r14.1.1, ())) < ((ordL p.length).length : Int) then c7 ((IntKind.wrap .i64 (s5.1 + 1)), (s5.2.set (p_slices_Index_impl_Order_impl_Order (ordL p.length) (r14.1.1, ())).toNat (IntKind.wrap .i64 ((s5.2.getD (p_slices_Index_impl_Order_impl_Order (ordL p.length) (r14.1.1, ())).toNat 0) + 1)))) else none else none else c7 ((IntKind.wrap .i64 (s5.1 + 1)), s5.2)))) else some s5.2)) fu' ((k : Int), wk p k) = some (wv p) := by
  have h64 : 6 ^ p.length ≤ 6 ^ 4 := Nat.pow_le_pow_right (by omega) h4
  have e64 : (6 : Nat) ^ 4 = 1296 := by decide
  obtain ⟨hnd, _, _⟩ := ord_nodup p.length h1 h4
  intro d
  induction d with
  | zero =>
    intro k fu' h hf
    obtain ⟨f, rfl⟩ : ∃ f, fu' = f + 1 := ⟨fu' - 1, by omega⟩
    simp only [whl]
    rw [if_neg (by omega), show k = 6 ^ p.length by omega]
    rfl
  | succ d ih =>
    intro k fu' h hf
    obtain ⟨f, rfl⟩ : ∃ f, fu' = f + 1 := ⟨fu' - 1, by omega⟩
    obtain ⟨o, b, ho1, ho2, hom⟩ := order_ok (rl p k) (by rw [rl_len]; omega) (by rw [rl_len]; omega)
    have ew : IntKind.wrap .i64 ((k : Int) + 1) = ((k + 1 : Nat) : Int) := wrap_i64 (by omega) (by omega)
    have hr := rollAt_eq (fu := fu) h4 (show k < 6 ^ p.length by omega) hF.big
    have hkP : (k : Int) < ((6 ^ p.length : Nat) : Int) := by omega
    simp only [whl]
    rw [if_pos hkP, hr, Option.bind_some, ho1, Option.bind_some, ew]
    dsimp only
    cases b with
    | true =>
      have hmem : o.1 ∈ oM p.length := by have := hom rfl; rwa [rl_len] at this
      have j1 := (idx_spec (M := oM p.length) hnd hmem).1
      rw [oM_len] at j1
      have hidx : p_slices_Index_impl_Order_impl_Order (ordL p.length) (o.1, ()) = ((oM p.length).idxOf o.1 : Int) := index_ord hnd hmem
      rw [if_pos rfl, hidx, if_pos (by omega), if_pos (by omega), Int.toNat_natCast]
      have hw := wk_hit hnd hmem (k := k) ho1 (by omega)
      unfold bumpAt at hw
      rw [hw]
      exact ih (k + 1) f (by omega) (by omega)
    | false =>
      rw [if_neg (by simp), wk_miss ho1]
      exact ih (k + 1) f (by omega) (by omega)
theorem ways_eq {p : List (List Int)} {fu : Nat} (hF : Fuel fu) (h1 : 1 ≤ p.length) (h4 : p.length ≤ 4) : p_impl_orderWays fu p = some (wv p) ∧ p_spec_l10Ways fu p = some (wv p) := by
  have himp : p_impl_orderWays fu p = some (wv p) := by
    obtain ⟨o1, o2⟩ := hF.ord p.length h1 h4
    obtain ⟨_, h24, _⟩ := ord_nodup p.length h1 h4
    have hb := hF.big
    have h64 : 6 ^ p.length ≤ 6 ^ 4 := Nat.pow_le_pow_right (by omega) h4
    have e64 : (6 : Nat) ^ 4 = 1296 := by decide
    unfold p_impl_orderWays
    rw [o1, Option.bind_some, if_pos (by omega), power_eq p.length (by omega) (by omega), Option.bind_some]
    have h0 : List.replicate ((ordL p.length).length : Int).toNat 0 = wk p 0 := by
      refine wk_ext (by simp [oM]) (fun i hi => ?_)
      rw [List.getD_eq_getElem?_getD, List.getElem?_replicate, if_pos (by rw [oM_len] at hi; omega)]
      rfl
    rw [h0]
    exact ways_go (fu := fu) hF h1 h4 (6 ^ p.length) 0 fu (by omega) (by omega)
  refine ⟨himp, ?_⟩
  obtain ⟨out, _, g1, g2⟩ := ways_both hF h1 h4
  rw [himp] at g1
  rw [g2, ← Option.some.inj g1]
end Go.GA.E
