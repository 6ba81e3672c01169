/- Plain law of FnRuns: one roll more. -/
import Derived.Test.YtheplbbbfbbjcaaRK6
namespace Go.GA
open Go
set_option maxRecDepth 100000
/-- a runner: faces of at least 1 -/
def Run6 (d : List Int) : Prop := d.length = 6 ∧ ∀ f ∈ d, 1 ≤ f ∧ f ≤ 30
def stp (G i : Nat) (v : Int) (s : Int × List Int) (f : Int) : Int × List Int := if (i : Int) + f < G then (s.1, addAt s.2 (i + f.toNat) v) else (s.1 + v, s.2)
def rowR (d : List Int) (G i : Nat) (v : Int) (s : Int × List Int) : Int × List Int := d.foldl (stp G i v) s
structure Okk (G : Nat) (s : Int × List Int) : Prop where
  len : s.2.length = G
  nn : NN s.2
  ge : 0 ≤ s.1
theorem stp_ok {G i : Nat} {v : Int} (hv : 0 ≤ v) {s : Int × List Int} (h : Okk G s) {f : Int} (hf : 1 ≤ f) : Okk G (stp G i v s f) ∧ (stp G i v s f).1 + (stp G i v s f).2.sum = s.1 + s.2.sum + v := by
  unfold stp
  split
  · rename_i hlt
    have hj : i + f.toNat < s.2.length := by rw [h.len]; omega
    refine ⟨⟨by rw [addAt_len]; exact h.len, addAt_nn h.nn hv hj, h.ge⟩, ?_⟩
    rw [addAt_sum hj]; simp only; omega
  · exact ⟨⟨h.len, h.nn, by have := h.ge; simp only; omega⟩, by simp only; omega⟩
theorem row_ok {G i : Nat} {v : Int} (hv : 0 ≤ v) : ∀ (d : List Int) (s : Int × List Int), (∀ f ∈ d, 1 ≤ f ∧ f ≤ 30) → Okk G s → Okk G (rowR d G i v s) ∧ (rowR d G i v s).1 + (rowR d G i v s).2.sum = s.1 + s.2.sum + d.length * v
  | [], s, _, h => ⟨h, by simp [rowR]⟩
  | f :: d, s, hd, h => by
    have hf := hd f (by simp)
    obtain ⟨a1, a2⟩ := stp_ok (i := i) hv h hf.1
    obtain ⟨b1, b2⟩ := row_ok hv d _ (fun q hq => hd q (by simp [hq])) a1
    refine ⟨b1, ?_⟩
    show (rowR d G i v (stp G i v s f)).1 + (rowR d G i v (stp G i v s f)).2.sum = _
    rw [b2, a2, List.length_cons]; grind
/-- entries up to k stay 0 -/
def Zk (k : Nat) (l : List Int) : Prop := ∀ j, j ≤ k → l.getD j 0 = 0
theorem row_zero {G i k : Nat} {v : Int} (hik : v = 0 ∨ k ≤ i) : ∀ (d : List Int) (s : Int × List Int), (∀ f ∈ d, 1 ≤ f ∧ f ≤ 30) → s.2.length = G → Zk k s.2 → Zk k (rowR d G i v s).2
  | [], s, _, _, h => h
  | f :: d, s, hd, hl, h => by
    have hf := hd f (by simp)
    refine row_zero hik d (stp G i v s f) (fun q hq => hd q (by simp [hq])) ?_ ?_
    · unfold stp; split
      · rw [addAt_len]; exact hl
      · exact hl
    · unfold stp; split
      · rcases hik with h0 | h0
        · subst h0; rw [addAt_zero]; exact h
        · intro j hj
          rw [addAt_getD _ _ _ _ (by omega), if_neg (by omega), h j hj]; rfl
      · exact h
def rI (G i : Nat) (v : Int) {R : Type} : Int → (Int × List Int) → ((Int × List Int) → Option R) → Option R := fun f s c => if (G : Int) ≤ IntKind.wrap .i64 ((i : Int) + f) then c (IntKind.wrap .i64 (s.1 + v), s.2) else if 0 ≤ IntKind.wrap .i64 ((i : Int) + f) then c (s.1, s.2.set (IntKind.wrap .i64 ((i : Int) + f)).toNat (IntKind.wrap .i64 (s.2.getD (IntKind.wrap .i64 ((i : Int) + f)).toNat 0 + v))) else none
def rS (G i : Nat) (v : Int) {R : Type} : Int → (Int × List Int) → ((Int × List Int) → Option R) → Option R := fun f s c => if IntKind.wrap .i64 ((i : Int) + f) < (G : Int) then if 0 ≤ IntKind.wrap .i64 ((i : Int) + f) then c (s.1, s.2.set (IntKind.wrap .i64 ((i : Int) + f)).toNat (IntKind.wrap .i64 (s.2.getD (IntKind.wrap .i64 ((i : Int) + f)).toNat 0 + v))) else none else c (IntKind.wrap .i64 (s.1 + v), s.2)
theorem rS_eq (G i : Nat) (v : Int) {R : Type} (f : Int) (s : Int × List Int) (c : (Int × List Int) → Option R) : rS G i v f s c = rI G i v f s c := by
  unfold rS rI
  by_cases h : IntKind.wrap .i64 ((i : Int) + f) < (G : Int)
  · have h2 : ¬ (G : Int) ≤ IntKind.wrap .i64 ((i : Int) + f) := by omega
    rw [if_pos h, if_neg h2]
  · have h2 : (G : Int) ≤ IntKind.wrap .i64 ((i : Int) + f) := by omega
    rw [if_neg h, if_pos h2]
theorem rI_one {G i : Nat} (hi : i ≤ 1000) {v : Int} (hv : 0 ≤ v) {R : Type} {f : Int} (hf : 1 ≤ f ∧ f ≤ 30) {s : Int × List Int} (h : Okk G s) (hb : s.1 + s.2.sum + v ≤ 1000000000000) (c : (Int × List Int) → Option R) : rI G i v f s c = c (stp G i v s f) := by
  have hs := sum_nn h.nn
  have hg := h.ge
  unfold rI stp
  rw [wr (n := (i : Int) + f) (by omega) (by omega)]
  by_cases hc : (i : Int) + f < G
  · rw [if_neg (by omega), if_pos (by omega), if_pos hc]
    have h1 := h.nn (i + f.toNat)
    have h2 := getD_le_sum h.nn (i + f.toNat)
    rw [show ((i : Int) + f).toNat = i + f.toNat by omega, wr (by omega) (by omega)]
    rfl
  · rw [if_pos (by omega), if_neg hc, wr (by omega) (by omega)]
theorem rI_run {G i : Nat} (hi : i ≤ 1000) {v : Int} (hv : 0 ≤ v) {R : Type} (K : (Int × List Int) → Option R) : ∀ (d : List Int) (s : Int × List Int), (∀ f ∈ d, 1 ≤ f ∧ f ≤ 30) → Okk G s → s.1 + s.2.sum + d.length * v ≤ 1000000000000 → lrun (rI G i v) K d s = K (rowR d G i v s)
  | [], s, _, _, _ => rfl
  | f :: d, s, hd, h, hb => by
    have hf := hd f (by simp)
    have e : ((f :: d).length : Int) * v = d.length * v + v := by rw [List.length_cons]; grind
    have hdv : 0 ≤ (d.length : Int) * v := Int.mul_nonneg (by omega) hv
    rw [e] at hb
    obtain ⟨a1, a2⟩ := stp_ok (i := i) hv h hf.1
    show rI G i v f s (fun s' => lrun (rI G i v) K d s') = _
    rw [rI_one hi hv hf h (by omega)]
    exact rI_run hi hv K d _ (fun q hq => hd q (by simp [hq])) a1 (by omega)
theorem lrun_congr {α S R : Type} {F F' : α → S → (S → R) → R} (h : ∀ a s c, F a s c = F' a s c) (K : S → R) : ∀ (l : List α) (s : S), lrun F K l s = lrun F' K l s
  | [], s => rfl
  | a :: l, s => by
    show F a s (fun s' => lrun F K l s') = F' a s (fun s' => lrun F' K l s')
    rw [h]; congr 1; funext s'; exact lrun_congr h K l s'
/-! ### one roll -/
def tk (T : List Int) : Nat → Int
  | 0 => 0
  | i + 1 => tk T i + T.getD i 0
theorem tk_sum (T : List Int) : ∀ i, i ≤ T.length → tk T i + (T.drop i).sum = T.sum
  | 0, _ => by simp [tk]
  | i + 1, h => by
    have := tk_sum T i (by omega)
    rw [List.drop_eq_getElem_cons (by omega), List.sum_cons] at this
    simp only [tk]
    rw [List.getD_eq_getElem?_getD, List.getElem?_eq_getElem (show i < T.length by omega)]
    simp only [Option.getD_some]
    omega
theorem tk_all {T : List Int} {n : Nat} (h : T.length = n) : tk T n = T.sum := by
  have := tk_sum T n (by omega)
  rw [List.drop_eq_nil_of_le (by omega)] at this
  simpa using this
theorem tk_nn {T : List Int} (h : NN T) : ∀ i, 0 ≤ tk T i
  | 0 => by simp [tk]
  | i + 1 => by have := tk_nn h i; have := h i; simp only [tk]; omega
theorem tk_mono {T : List Int} (h : NN T) {i : Nat} : ∀ d, tk T i ≤ tk T (i + d)
  | 0 => by simp
  | d + 1 => by
    have := tk_mono h (i := i) d
    have h1 := h (i + d)
    rw [show i + (d + 1) = (i + d) + 1 from rfl]
    simp only [tk]; omega
def stL (d : List Int) (G : Nat) (now : List Int) : Nat → Int × List Int
  | 0 => (0, List.replicate G 0)
  | i + 1 => rowR d G i (now.getD i 0) (stL d G now i)
theorem repN (G j : Nat) : (List.replicate G (0 : Int)).getD j 0 = 0 := by
  rw [List.getD_eq_getElem?_getD]
  by_cases hlt : j < G
  · rw [List.getElem?_replicate_of_lt hlt]; rfl
  · rw [List.getElem?_eq_none (by simp; omega)]; rfl
theorem repSum : ∀ G : Nat, (List.replicate G (0 : Int)).sum = 0
  | 0 => rfl
  | G + 1 => by rw [List.replicate_succ, List.sum_cons, repSum G]; rfl
theorem stL_ok {d : List Int} (hd : Run6 d) {G : Nat} {now : List Int} (hn : NN now) : ∀ i, Okk G (stL d G now i) ∧ (stL d G now i).1 + (stL d G now i).2.sum = 6 * tk now i
  | 0 => ⟨⟨by simp [stL], fun j => by simp only [stL]; rw [repN]; exact Int.le_refl _, Int.le_refl _⟩, by simp only [stL, tk, repSum]; rfl⟩
  | i + 1 => by
    obtain ⟨a1, a2⟩ := stL_ok hd (G := G) hn i
    obtain ⟨b1, b2⟩ := row_ok (i := i) (hn i) d _ hd.2 a1
    refine ⟨b1, ?_⟩
    simp only [stL, tk]
    rw [b2, a2, hd.1]; grind
theorem stL_zero {d : List Int} (hd : Run6 d) {G k : Nat} {now : List Int} (hn : NN now) (hz : ∀ j, j < k → now.getD j 0 = 0) : ∀ i, Zk k (stL d G now i).2
  | 0 => fun j _ => repN G j
  | i + 1 => by
    have ih := stL_zero hd (G := G) hn hz i
    refine row_zero ?_ d _ hd.2 (stL_ok hd hn i).1.len ih
    by_cases h : i < k
    · exact .inl (hz i h)
    · exact .inr (by omega)
/-- the loop over the sums, in both ways -/
theorem roll_run {d : List Int} (hd : Run6 d) {G : Nat} (hG : G ≤ 8) {now : List Int} (hn : NN now) (hl : now.length = G) (hb : now.sum ≤ 100000000) {R : Type} (K : (Int × List Int) → Option R) : cnt (fun i12 (s11 : Int × (List Int)) c13 _ => cnt (fun i19 (s18 : Int × (List Int)) c20 _ => (if (G : Int) ≤ (IntKind.wrap .i64 (i12 + (d.getD i19.toNat 0))) then c20 ((IntKind.wrap .i64 (s18.1 + (now.getD i12.toNat 0))), s18.2) else if 0 ≤ (IntKind.wrap .i64 (i12 + (d.getD i19.toNat 0))) then c20 (s18.1, (s18.2.set (IntKind.wrap .i64 (i12 + (d.getD i19.toNat 0))).toNat (IntKind.wrap .i64 ((s18.2.getD (IntKind.wrap .i64 (i12 + (d.getD i19.toNat 0))).toNat 0) + (now.getD i12.toNat 0))))) else none)) (fun i19 (s18 : Int × (List Int)) => c13 (s18.1, s18.2)) (Int.toNat (6 - 0)) 0 (s11.1, s11.2)) (fun i12 (s11 : Int × (List Int)) => K s11) (Int.toNat ((G : Int) - 0)) 0 (0, (List.replicate G 0)) = K (stL d G now G) := by
  refine cnt_ind0 (S := Int × List Int) G (fun i s => s = stL d G now i) (fun r => r = K (stL d G now G)) (by omega) rfl (fun s hs => by rw [hs]) (fun i s c hi hs hc => ?_)
  subst hs
  rw [Int.toNat_natCast]
  obtain ⟨a1, a2⟩ := stL_ok hd (G := G) hn i
  have h1 := tk_mono hn (i := i + 1) (G - (i + 1))
  rw [show i + 1 + (G - (i + 1)) = G by omega, tk_all hl] at h1
  simp only [tk] at h1
  have h0 := hn i
  have h2 := tk_nn hn i
  rw [cnt_list (rI G i (now.getD i 0)) d 0 (by rw [hd.1]; rfl) (fun _ _ _ _ _ => rfl)]
  rw [rI_run (by omega) h0 _ d _ hd.2 a1 (by rw [hd.1]; show (stL d G now i).1 + (stL d G now i).2.sum + _ ≤ _; omega)]
  exact hc _ rfl
theorem roll_runS {d : List Int} (hd : Run6 d) {G : Nat} (hG : G ≤ 8) {now : List Int} (hn : NN now) (hl : now.length = G) (hb : now.sum ≤ 100000000) {R : Type} (K : (Int × List Int) → Option R) : cnt (fun i12 (s11 : Int × (List Int)) c13 _ => cnt (fun i19 (s18 : Int × (List Int)) c20 _ => (if (IntKind.wrap .i64 (i12 + (d.getD i19.toNat 0))) < (G : Int) then if 0 ≤ (IntKind.wrap .i64 (i12 + (d.getD i19.toNat 0))) then c20 (s18.1, (s18.2.set (IntKind.wrap .i64 (i12 + (d.getD i19.toNat 0))).toNat (IntKind.wrap .i64 ((s18.2.getD (IntKind.wrap .i64 (i12 + (d.getD i19.toNat 0))).toNat 0) + (now.getD i12.toNat 0))))) else none else c20 ((IntKind.wrap .i64 (s18.1 + (now.getD i12.toNat 0))), s18.2))) (fun i19 (s18 : Int × (List Int)) => c13 (s18.1, s18.2)) (Int.toNat (6 - 0)) 0 (s11.1, s11.2)) (fun i12 (s11 : Int × (List Int)) => K s11) (Int.toNat ((G : Int) - 0)) 0 (0, (List.replicate G 0)) = K (stL d G now G) := by
  refine cnt_ind0 (S := Int × List Int) G (fun i s => s = stL d G now i) (fun r => r = K (stL d G now G)) (by omega) rfl (fun s hs => by rw [hs]) (fun i s c hi hs hc => ?_)
  subst hs
  rw [Int.toNat_natCast]
  obtain ⟨a1, a2⟩ := stL_ok hd (G := G) hn i
  have h1 := tk_mono hn (i := i + 1) (G - (i + 1))
  rw [show i + 1 + (G - (i + 1)) = G by omega, tk_all hl] at h1
  simp only [tk] at h1
  have h0 := hn i
  have h2 := tk_nn hn i
  rw [cnt_list (rS G i (now.getD i 0)) d 0 (by rw [hd.1]; rfl) (fun _ _ _ _ _ => rfl)]
  rw [lrun_congr (rS_eq G i (now.getD i 0))]
  rw [rI_run (by omega) h0 _ d _ hd.2 a1 (by rw [hd.1]; show (stL d G now i).1 + (stL d G now i).2.sum + _ ≤ _; omega)]
  exact hc _ rfl
end Go.GA
