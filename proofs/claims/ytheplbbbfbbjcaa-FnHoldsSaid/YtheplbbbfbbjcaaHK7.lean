/- Plain law of FnHolds: one roll more. -/
import Derived.Test.YtheplbbbfbbjcaaHK6
namespace Go.GA
open Go
set_option maxRecDepth 100000
set_option linter.unusedSectionVars false
/-- a runner: faces of at least 1 -/
def Run6 (d : List Int) : Prop := d.length = 6 ∧ ∀ f ∈ d, 1 ≤ f ∧ f ≤ 30
def stp (b : Int) (G i : Nat) (v P : Int) (s : List Int × List Int) (f : Int) : List Int × List Int := if f = b then (addAt s.1 0 (v * P), s.2) else if (G : Int) ≤ (i : Int) + f then (addAt s.1 (i + f.toNat) (v * P), s.2) else (s.1, addAt s.2 (i + f.toNat) v)
def rowR (b : Int) (d : List Int) (G i : Nat) (v P : Int) (s : List Int × List Int) : List Int × List Int := d.foldl (stp b G i v P) s
structure Okk (L G : Nat) (s : List Int × List Int) : Prop where
  lo : s.1.length = L
  ln : s.2.length = G
  no : NN s.1
  nn : NN s.2
/-- entries that end are 0 or at least G -/
def Oz (G : Nat) (l : List Int) : Prop := ∀ j, 0 < j → j < G → l.getD j 0 = 0
theorem stp_ok {b : Int} {L G i : Nat} (hL : G + 30 ≤ L) (hi : i < G) {v P : Int} (hv : 0 ≤ v) (hP : 0 ≤ P) {s : List Int × List Int} (h : Okk L G s) {f : Int} (hf : 1 ≤ f ∧ f ≤ 30) : Okk L G (stp b G i v P s f) ∧ (stp b G i v P s f).1.sum + (stp b G i v P s f).2.sum * P = s.1.sum + s.2.sum * P + v * P := by
  have hvP := Int.mul_nonneg hv hP
  unfold stp
  split
  · have hj : 0 < s.1.length := by rw [h.lo]; omega
    refine ⟨⟨by rw [addAt_len]; exact h.lo, h.ln, addAt_nn h.no hvP hj, h.nn⟩, ?_⟩
    rw [addAt_sum hj]; simp only; omega
  · split
    · have hj : i + f.toNat < s.1.length := by rw [h.lo]; omega
      refine ⟨⟨by rw [addAt_len]; exact h.lo, h.ln, addAt_nn h.no hvP hj, h.nn⟩, ?_⟩
      rw [addAt_sum hj]; simp only; omega
    · have hj : i + f.toNat < s.2.length := by rw [h.ln]; omega
      refine ⟨⟨h.lo, by rw [addAt_len]; exact h.ln, h.no, addAt_nn h.nn hv hj⟩, ?_⟩
      rw [addAt_sum hj]; simp only; grind
theorem row_ok {b : Int} {L G i : Nat} (hL : G + 30 ≤ L) (hi : i < G) {v P : Int} (hv : 0 ≤ v) (hP : 0 ≤ P) : ∀ (d : List Int) (s : List Int × List Int), (∀ f ∈ d, 1 ≤ f ∧ f ≤ 30) → Okk L G s → Okk L G (rowR b d G i v P s) ∧ (rowR b d G i v P s).1.sum + (rowR b d G i v P s).2.sum * P = s.1.sum + s.2.sum * P + d.length * (v * P)
  | [], s, _, h => ⟨h, by simp [rowR]⟩
  | f :: d, s, hd, h => by
    obtain ⟨a1, a2⟩ := stp_ok (b := b) hL hi hv hP h (hd f (by simp))
    obtain ⟨b1, b2⟩ := row_ok hL hi hv hP d _ (fun q hq => hd q (by simp [hq])) a1
    refine ⟨b1, ?_⟩
    show (rowR b d G i v P (stp b G i v P s f)).1.sum + (rowR b d G i v P (stp b G i v P s f)).2.sum * P = _
    rw [b2, a2, List.length_cons]; grind
/-- entries up to k stay 0 -/
def Zk (k : Nat) (l : List Int) : Prop := ∀ j, j ≤ k → l.getD j 0 = 0
theorem stp_zero {b : Int} {L G i k : Nat} (hL : G + 30 ≤ L) (hi : i < G) {v P : Int} (hik : v = 0 ∨ k ≤ i) {s : List Int × List Int} (hlo : s.1.length = L) (hln : s.2.length = G) {f : Int} (hf : 1 ≤ f ∧ f ≤ 30) (hz : Zk k s.2) (ho : Oz G s.1) : Zk k (stp b G i v P s f).2 ∧ Oz G (stp b G i v P s f).1 := by
  unfold stp
  split
  · refine ⟨hz, fun j h0 h1 => ?_⟩
    rw [addAt_getD _ _ _ _ (by omega), if_neg (by omega), ho j h0 h1]; rfl
  · split
    · refine ⟨hz, fun j h0 h1 => ?_⟩
      rw [addAt_getD _ _ _ _ (by omega), if_neg (by omega), ho j h0 h1]; rfl
    · refine ⟨?_, ho⟩
      rcases hik with h0 | h0
      · subst h0; rw [addAt_zero]; exact hz
      · intro j hj
        rw [addAt_getD _ _ _ _ (by omega), if_neg (by omega), hz j hj]; rfl
theorem stp_len (b : Int) (G i : Nat) (v P : Int) (s : List Int × List Int) (f : Int) : (stp b G i v P s f).1.length = s.1.length ∧ (stp b G i v P s f).2.length = s.2.length := by
  unfold stp
  split
  · exact ⟨addAt_len _ _ _, rfl⟩
  · split
    · exact ⟨addAt_len _ _ _, rfl⟩
    · exact ⟨rfl, addAt_len _ _ _⟩
theorem row_zero {b : Int} {L G i k : Nat} (hL : G + 30 ≤ L) (hi : i < G) {v P : Int} (hik : v = 0 ∨ k ≤ i) : ∀ (d : List Int) (s : List Int × List Int), (∀ f ∈ d, 1 ≤ f ∧ f ≤ 30) → s.1.length = L → s.2.length = G → Zk k s.2 → Oz G s.1 → Zk k (rowR b d G i v P s).2 ∧ Oz G (rowR b d G i v P s).1
  | [], s, _, _, _, h, ho => ⟨h, ho⟩
  | f :: d, s, hd, h1, h2, h, ho => by
    obtain ⟨a1, a2⟩ := stp_zero (b := b) hL hi hik (P := P) h1 h2 (hd f (by simp)) h ho
    obtain ⟨l1, l2⟩ := stp_len b G i v P s f
    exact row_zero hL hi hik d (stp b G i v P s f) (fun q hq => hd q (by simp [hq])) (by rw [l1]; exact h1) (by rw [l2]; exact h2) a1 a2
/-- where a face leads -/
def lead (b : Int) (G i : Nat) (v P : Int) (s t : List Int × List Int) (f : Int) : Prop := if f = b then s.1.getD 0 0 + v * P ≤ t.1.getD 0 0 else if (G : Int) ≤ (i : Int) + f then s.1.getD (i + f.toNat) 0 + v * P ≤ t.1.getD (i + f.toNat) 0 else s.2.getD (i + f.toNat) 0 + v ≤ t.2.getD (i + f.toNat) 0
def Ge (s t : List Int × List Int) : Prop := ∀ j, s.1.getD j 0 ≤ t.1.getD j 0 ∧ s.2.getD j 0 ≤ t.2.getD j 0
theorem Ge.refl (s : List Int × List Int) : Ge s s := fun _ => ⟨Int.le_refl _, Int.le_refl _⟩
theorem Ge.trans {s t u : List Int × List Int} (h1 : Ge s t) (h2 : Ge t u) : Ge s u := fun j => ⟨Int.le_trans (h1 j).1 (h2 j).1, Int.le_trans (h1 j).2 (h2 j).2⟩
theorem stp_ge {b : Int} {L G i : Nat} (hL : G + 30 ≤ L) (hi : i < G) {v P : Int} (hv : 0 ≤ v) (hP : 0 ≤ P) {s : List Int × List Int} (hlo : s.1.length = L) (hln : s.2.length = G) {f : Int} (hf : 1 ≤ f ∧ f ≤ 30) : Ge s (stp b G i v P s f) ∧ lead b G i v P s (stp b G i v P s f) f := by
  have hvP := Int.mul_nonneg hv hP
  unfold stp lead
  by_cases h1 : f = b
  · rw [if_pos h1, if_pos h1]
    refine ⟨fun j => ⟨addAt_ge hvP (by omega) j, Int.le_refl _⟩, ?_⟩
    rw [addAt_getD _ _ _ _ (by omega), if_pos rfl]; exact Int.le_refl _
  · rw [if_neg h1, if_neg h1]
    by_cases h2 : (G : Int) ≤ (i : Int) + f
    · rw [if_pos h2, if_pos h2]
      refine ⟨fun j => ⟨addAt_ge hvP (by omega) j, Int.le_refl _⟩, ?_⟩
      rw [addAt_getD _ _ _ _ (by omega), if_pos rfl]; exact Int.le_refl _
    · rw [if_neg h2, if_neg h2]
      refine ⟨fun j => ⟨Int.le_refl _, addAt_ge hv (by omega) j⟩, ?_⟩
      rw [addAt_getD _ _ _ _ (by omega), if_pos rfl]; exact Int.le_refl _
theorem lead_mono {b : Int} {G i : Nat} {v P : Int} {s0 s t t' : List Int × List Int} {f : Int} (h0 : Ge s0 s) (h1 : Ge t t') (h : lead b G i v P s t f) : lead b G i v P s0 t' f := by
  unfold lead at h ⊢
  split
  · rename_i hc; rw [if_pos hc] at h
    have := h0 0; have := h1 0; omega
  · rename_i hc; rw [if_neg hc] at h
    split
    · rename_i hc2; rw [if_pos hc2] at h
      have := h0 (i + f.toNat); have := h1 (i + f.toNat); omega
    · rename_i hc2; rw [if_neg hc2] at h
      have := h0 (i + f.toNat); have := h1 (i + f.toNat); omega
theorem row_ge {b : Int} {L G i : Nat} (hL : G + 30 ≤ L) (hi : i < G) {v P : Int} (hv : 0 ≤ v) (hP : 0 ≤ P) : ∀ (d : List Int) (s : List Int × List Int), (∀ f ∈ d, 1 ≤ f ∧ f ≤ 30) → s.1.length = L → s.2.length = G → Ge s (rowR b d G i v P s) ∧ ∀ f ∈ d, lead b G i v P s (rowR b d G i v P s) f
  | [], s, _, _, _ => ⟨Ge.refl s, fun f hf => by cases hf⟩
  | f :: d, s, hd, h1, h2 => by
    obtain ⟨a1, a2⟩ := stp_ge (b := b) hL hi hv hP h1 h2 (hd f (by simp))
    obtain ⟨l1, l2⟩ := stp_len b G i v P s f
    obtain ⟨b1, b2⟩ := row_ge hL hi hv hP d (stp b G i v P s f) (fun q hq => hd q (by simp [hq])) (by rw [l1]; exact h1) (by rw [l2]; exact h2)
    refine ⟨Ge.trans a1 b1, fun q hq => ?_⟩
    rcases List.mem_cons.1 hq with rfl | hq
    · exact lead_mono (Ge.refl s) b1 a2
    · exact lead_mono a1 (Ge.refl _) (b2 q hq)
/-! ### the loop over the faces -/
def rI (pw : Option Int) (x2 lim : Int) (b : Int) (i : Nat) (v : Int) {R : Type} : Int → (List Int × List Int) → ((List Int × List Int) → Option R) → Option R := fun f s c => (if f = b then if 0 < lim then pw.bind (fun r31 => c ((s.1.set 0 (IntKind.wrap .i64 ((s.1.getD 0 0) + (IntKind.wrap .i64 (v * r31))))), s.2)) else none else (if x2 ≤ (IntKind.wrap .i64 ((i : Int) + f)) then if (IntKind.wrap .i64 ((i : Int) + f)) < lim then pw.bind (fun r36 => c ((s.1.set (IntKind.wrap .i64 ((i : Int) + f)).toNat (IntKind.wrap .i64 ((s.1.getD (IntKind.wrap .i64 ((i : Int) + f)).toNat 0) + (IntKind.wrap .i64 (v * r36))))), s.2)) else none else if 0 ≤ (IntKind.wrap .i64 ((i : Int) + f)) then c (s.1, (s.2.set (IntKind.wrap .i64 ((i : Int) + f)).toNat (IntKind.wrap .i64 ((s.2.getD (IntKind.wrap .i64 ((i : Int) + f)).toNat 0) + v)))) else none))
theorem rI_one {b : Int} {L G i : Nat} (hL : G + 30 ≤ L) (hL2 : L ≤ 1000) (hi : i < G) {v P : Int} (hv : 0 ≤ v) (hP : 1 ≤ P) {R : Type} {f : Int} (hf : 1 ≤ f ∧ f ≤ 30) {s : List Int × List Int} (h : Okk L G s) (hb : s.1.sum + s.2.sum * P + v * P ≤ 1000000000000) (c : (List Int × List Int) → Option R) : rI (some P) (G : Int) (L : Int) b i v f s c = c (stp b G i v P s f) := by
  have hs1 := sum_nn h.no
  have hs2 := sum_nn h.nn
  have hvP := Int.mul_nonneg hv (show 0 ≤ P by omega)
  have hsP := Int.mul_nonneg hs2 (show 0 ≤ P by omega)
  have hs2P : s.2.sum ≤ s.2.sum * P := by
    have := Int.mul_le_mul_of_nonneg_left hP hs2
    omega
  have hv2 : v ≤ v * P := by
    have := Int.mul_le_mul_of_nonneg_left hP hv
    omega
  unfold rI stp
  rw [wr (n := (i : Int) + f) (by omega) (by omega)]
  by_cases h1 : f = b
  · have e1 := h.no 0
    have e2 := getD_le_sum h.no 0
    rw [if_pos h1, if_pos h1, if_pos (by omega), Option.bind_some, wr (n := v * P) (by omega) (by omega), wr (by omega) (by omega)]
    rfl
  · rw [if_neg h1, if_neg h1]
    by_cases h2 : (G : Int) ≤ (i : Int) + f
    · have e1 := h.no (i + f.toNat)
      have e2 := getD_le_sum h.no (i + f.toNat)
      rw [if_pos h2, if_pos h2, if_pos (by omega), Option.bind_some, show ((i : Int) + f).toNat = i + f.toNat by omega, wr (n := v * P) (by omega) (by omega), wr (by omega) (by omega)]
      rfl
    · have e1 := h.nn (i + f.toNat)
      have e2 := getD_le_sum h.nn (i + f.toNat)
      rw [if_neg h2, if_neg h2, if_pos (by omega), show ((i : Int) + f).toNat = i + f.toNat by omega, wr (by omega) (by omega)]
      rfl
theorem rI_run {b : Int} {L G i : Nat} (hL : G + 30 ≤ L) (hL2 : L ≤ 1000) (hi : i < G) {v P : Int} (hv : 0 ≤ v) (hP : 1 ≤ P) {R : Type} (K : (List Int × List Int) → Option R) : ∀ (d : List Int) (s : List Int × List Int), (∀ f ∈ d, 1 ≤ f ∧ f ≤ 30) → Okk L G s → s.1.sum + s.2.sum * P + d.length * (v * P) ≤ 1000000000000 → lrun (rI (some P) (G : Int) (L : Int) b i v) K d s = K (rowR b d G i v P s)
  | [], s, _, _, _ => rfl
  | f :: d, s, hd, h, hb => by
    have hf := hd f (by simp)
    have hvP := Int.mul_nonneg hv (show 0 ≤ P by omega)
    have e : ((f :: d).length : Int) * (v * P) = d.length * (v * P) + v * P := by rw [List.length_cons]; grind
    have hdv : 0 ≤ (d.length : Int) * (v * P) := Int.mul_nonneg (by omega) hvP
    rw [e] at hb
    obtain ⟨a1, a2⟩ := stp_ok (b := b) hL hi hv (show 0 ≤ P by omega) h hf
    show rI (some P) (G : Int) (L : Int) b i v f s (fun s' => lrun (rI (some P) (G : Int) (L : Int) b i v) K d s') = _
    rw [rI_one hL hL2 hi hv hP hf h (by omega)]
    exact rI_run hL hL2 hi hv hP K d _ (fun q hq => hd q (by simp [hq])) a1 (by omega)
/-! ### one roll -/
def tk (T : List Int) : Nat → Int
  | 0 => 0
  | i + 1 => tk T i + T.getD i 0
theorem tk_sum (T : List Int) : ∀ i, i ≤ T.length → tk T i + (T.drop i).sum = T.sum
  | 0, _ => by simp [tk]
  | i + 1, h => by
    have := tk_sum T i (by omega)
    rw [List.drop_eq_getElem_cons (by omega), List.sum_cons] at this
    simp only [tk]
    rw [List.getD_eq_getElem?_getD, List.getElem?_eq_getElem (show i < T.length by omega)]
    simp only [Option.getD_some]
    omega
theorem tk_all {T : List Int} {n : Nat} (h : T.length = n) : tk T n = T.sum := by
  have := tk_sum T n (by omega)
  rw [List.drop_eq_nil_of_le (by omega)] at this
  simpa using this
theorem tk_nn {T : List Int} (h : NN T) : ∀ i, 0 ≤ tk T i
  | 0 => by simp [tk]
  | i + 1 => by have := tk_nn h i; have := h i; simp only [tk]; omega
theorem tk_mono {T : List Int} (h : NN T) {i : Nat} : ∀ d, tk T i ≤ tk T (i + d)
  | 0 => by simp
  | d + 1 => by
    have := tk_mono h (i := i) d
    have h1 := h (i + d)
    rw [show i + (d + 1) = (i + d) + 1 from rfl]
    simp only [tk]; omega
def stL (b : Int) (d : List Int) (G : Nat) (P : Int) (s : List Int × List Int) : Nat → List Int × List Int
  | 0 => (s.1, List.replicate G 0)
  | i + 1 => rowR b d G i (s.2.getD i 0) P (stL b d G P s i)
theorem repN (G j : Nat) : (List.replicate G (0 : Int)).getD j 0 = 0 := by
  rw [List.getD_eq_getElem?_getD]
  by_cases hlt : j < G
  · rw [List.getElem?_replicate_of_lt hlt]; rfl
  · rw [List.getElem?_eq_none (by simp; omega)]; rfl
theorem repSum : ∀ G : Nat, (List.replicate G (0 : Int)).sum = 0
  | 0 => rfl
  | G + 1 => by rw [List.replicate_succ, List.sum_cons, repSum G]; rfl
section
variable {b : Int} {d : List Int} (hd : Run6 d) {L G : Nat} (hL : G + 30 ≤ L) {P : Int} (hP : 1 ≤ P) {s : List Int × List Int} (h : Okk L G s)
include hd hL hP h
theorem stL_ok : ∀ i, i ≤ G → Okk L G (stL b d G P s i) ∧ (stL b d G P s i).1.sum + (stL b d G P s i).2.sum * P = s.1.sum + 6 * (tk s.2 i * P)
  | 0, _ => ⟨⟨h.lo, by simp [stL], h.no, fun j => by simp only [stL]; rw [repN]; exact Int.le_refl _⟩, by simp only [stL, tk, repSum]; simp⟩
  | i + 1, hi => by
    obtain ⟨a1, a2⟩ := stL_ok i (by omega)
    obtain ⟨b1, b2⟩ := row_ok (b := b) hL (i := i) (by omega) (h.nn i) (show 0 ≤ P by omega) d _ hd.2 a1
    refine ⟨b1, ?_⟩
    simp only [stL, tk]
    rw [b2, a2, hd.1]; grind
theorem stL_zero {k : Nat} (hz : ∀ j, j < k → s.2.getD j 0 = 0) (ho : Oz G s.1) : ∀ i, i ≤ G → Zk k (stL b d G P s i).2 ∧ Oz G (stL b d G P s i).1
  | 0, _ => ⟨fun j _ => repN G j, ho⟩
  | i + 1, hi => by
    obtain ⟨a1, a2⟩ := stL_zero hz ho i (by omega)
    have hk := (stL_ok (b := b) hd hL hP h i (by omega)).1
    refine row_zero hL (by omega) ?_ d _ hd.2 hk.lo hk.ln a1 a2
    by_cases h : i < k
    · exact .inl (hz i h)
    · exact .inr (by omega)
theorem stL_ge : ∀ i, i ≤ G → (∀ j, s.1.getD j 0 ≤ (stL b d G P s i).1.getD j 0) ∧ ∀ q, q < i → ∀ f ∈ d, lead b G q (s.2.getD q 0) P (s.1, List.replicate G 0) (stL b d G P s i) f
  | 0, _ => ⟨fun j => Int.le_refl _, fun q hq => by omega⟩
  | i + 1, hi => by
    obtain ⟨a1, a2⟩ := stL_ge i (by omega)
    have hk := (stL_ok (b := b) hd hL hP h i (by omega)).1
    obtain ⟨b1, b2⟩ := row_ge (b := b) hL (i := i) (by omega) (h.nn i) (show 0 ≤ P by omega) d _ hd.2 hk.lo hk.ln
    refine ⟨fun j => Int.le_trans (a1 j) (b1 j).1, fun q hq f hf => ?_⟩
    by_cases e : q = i
    · subst e
      refine lead_mono (fun j => ⟨a1 j, ?_⟩) (Ge.refl _) (b2 f hf)
      show (List.replicate G (0 : Int)).getD j 0 ≤ _
      rw [repN]; exact hk.nn j
    · exact lead_mono (Ge.refl _) b1 (a2 q (by omega) f hf)
end
end Go.GA
