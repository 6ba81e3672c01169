/- Moves of an open region that may stand anywhere: they are done first. -/
import Derived.Test.YtcminfahdindnaaDoorGA29
namespace Go.GA
open Go Go.RowKit

section
variable {P : Program} {ops : Array Oper} {Q : Exit → Act → World → Prop}
/-- every head that is not of the first ones is waited for by a later one up to m -/
def sink2B (ops : Array Oper) (m : Nat) (l0 : Array Bool) : Bool :=
  (List.range m).all fun i => l0.getD i false || (List.range (m + 1)).any fun j => decide (i < j) && Region.waitsFor .any ops j i

theorem tail_waits2 {n : Nat} {l0 listed : Array Bool} (hs : sink2B ops n l0 = true) (hc : Region.chainB .any ops n = true) (hn : n < ops.size) (inv : HeadInv .any ops n listed)
    (h0 : ∀ i, l0.getD i false = true → listed.getD i false = true) :
    ∀ (d i : Nat), n - i = d → i < n → listed.getD i true = false → ∀ t, n ≤ t → t ∉ Region.ready .any ops listed := by
  intro d
  induction d using Nat.strongRecOn with
  | _ d ih =>
    intro i hd hi hun t ht hr
    obtain ⟨_, ot, hot, hall⟩ := mem_ready.1 hr
    have htlt : t < ops.size := (Array.getElem?_eq_some_iff.1 hot).1
    by_cases htn : t = n
    · subst htn
      have h1 := List.all_eq_true.1 hs i (List.mem_range.2 hi)
      rcases Bool.or_eq_true _ _ ▸ h1 with h1 | h1
      · have := h0 i h1
        rw [getD_both hun] at this; cases this
      obtain ⟨j, hj, hj2⟩ := List.any_eq_true.1 h1
      simp only [Bool.and_eq_true, decide_eq_true_eq] at hj2
      obtain ⟨oj, hoj, e, he, hb, hon⟩ := Region.waitsFor_spec hj2.2
      have hjle : j ≤ t := by have := List.mem_range.1 hj; omega
      by_cases hjt : j = t
      · subst hjt
        have : oj = ot := Option.some.inj (hoj.symm.trans hot)
        subst this
        have h2 := hall e he hb
        rw [hon, getD_both hun] at h2
        cases h2
      · cases hl : listed.getD j false with
        | true =>
          have h2 := inv.closed j oj hoj hl e he hb
          rw [hon, getD_both hun] at h2
          cases h2
        | false =>
          have hjs : j < listed.size := by rw [inv.size]; omega
          exact ih (t - j) (by omega) j rfl (by omega) (getD_in hjs hl) t (Nat.le_refl _) hr
    · have h1 := List.all_eq_true.1 hc t (List.mem_range.2 htlt)
      simp only [Bool.or_eq_true, decide_eq_true_eq] at h1
      rcases h1 with h1 | h1
      · omega
      · obtain ⟨o', ho', e, he, hb, hon⟩ := Region.waitsFor_spec h1
        have : o' = ot := Option.some.inj (ho'.symm.trans hot)
        subst this
        have h2 := hall e he hb
        rw [hon, getD_both (inv.tail (t - 1) (by omega) (by omega))] at h2
        cases h2

theorem wpAny_of_AK2 {m g : Nat} {l0 : Array Bool} {T : Act → World → Prop} (hs : sink2B ops m l0 = true) (hc : Region.chainB .any ops m = true) (hm : m < ops.size)
    (hT : ∀ listed a w, HeadInv .any ops m listed → (∀ j, j < m → listed.getD j false = true) → T a w → wpAny P .any ops Q g listed a w) :
    ∀ {w0 : World} (f : Nat) (listed : Array Bool) (a : Act) (w : World), HeadInv .any ops m listed → (∀ i, l0.getD i false = true → listed.getD i false = true) → wpAK P ops Q m T w0 f listed a w → wpAny P .any ops Q (f + g) listed a w
  | _, 0, listed, a, w, inv, _, h => by
    rw [Nat.zero_add]
    exact hT listed a w inv h.1 (h.2 w (Kept.refl w))
  | _, f + 1, listed, a, w, inv, hl, h => by
    obtain ⟨⟨i0, hi0, him0⟩, hall⟩ := h w (Kept.refl w)
    have e : f + 1 + g = (f + g) + 1 := by omega
    rw [e]
    refine ⟨fun h0 => (by rw [h0] at hi0; cases hi0), fun i hi => ?_⟩
    have him : i < m := by
      rcases Nat.lt_or_ge i m with h' | h'
      · exact h'
      · exact absurd hi (tail_waits2 hs hc hm inv hl _ i0 rfl him0 (mem_ready.1 hi0).1 i h')
    exact wpOp_mono (fun a' w' h3 => wpAny_of_AK2 hs hc hm hT f _ a' w' (inv.set hi him) (fun j hj => getD_set_true (hl j hj)) h3.2) (hall i hi him)
end

section
variable {P : Program} {Γ : Ctx} {n : Sz} {Q : Exit → Act → World → Prop} {fr fr' : Fr} {H H' : Hp} {all : Array Oper} {ty : TypeId} {pos : String} {aft : Array Edge} {op : Op}
def AP (P : Program) (Γ : Ctx) (n : Sz) (all : Array Oper) (Q : Exit → Act → World → Prop) (g : Nat) (listed : Array Bool) (fr : Fr) (H : Hp) : Prop :=
  ∀ ρ w a, SIM Γ n ρ w a fr H → wpAny P .any all Q g listed a w
theorem aw_drawP {id : Nat} {l : List Oper} (N : Nat) (hN : l.toArray.size = N) (hm : P.follows .mixedOrders = true) (h : AP P Γ n l.toArray Q N (Array.replicate N false) fr H) :
    AW P Γ n (.region id l.toArray true) Q fr H := fun ρ w a s => by
  subst hN
  exact wp_region_any hm (h ρ _ a s.drew)
def readyB (all : Array Oper) (listed : Array Bool) (i : Nat) : Bool := (Region.ready .any all listed).contains i && Region.free .any all listed i
theorem ap_move {g : Nat} {listed : Array Bool} (i : Nat) {d t : Nat} {x : AV} (hsel : Region.noSelect all = true) (hQ : ∀ c a w, Q (.panic c) a w → False) (hi : all[i]? = some ⟨some d, .move (.tmp t), ty, pos, aft, none⟩)
    (hn : readyB all listed i = true) (hx : get fr t = some x) (hd : Nat.blt d n.n = true) (h : AP P Γ n all Q g (listed.setIfInBounds i true) ((d, x) :: fr) H) : AP P Γ n all Q (g + 1) listed fr H := fun ρ w a s => by
  simp only [readyB, Bool.and_eq_true] at hn
  have hv := s.ev (o := .tmp t) hx
  refine wpAny_first (v := a.eval (.tmp t)) hi (fun j o cs b ho => Region.noSelect_spec hsel j o cs b ho) (fun c a w hq => (hQ _ _ _ hq).elim) g listed a w (Region.free_spec hi hn.2) (by simpa using hn.1) (.inl ⟨rfl, fun w' => rfl⟩) ?_
  exact h ρ w (a.put (some d) _) (s.put hd hv)
def closedB (ops : Array Oper) (m : Nat) (l0 : Array Bool) : Bool :=
  decide (l0.size = ops.size) && ((List.range ops.size).all fun j => !l0.getD j false || match ops[j]? with
    | some oj => oj.after.all fun e => !Region.binds .any e || l0.getD e.on false
    | none => true) && (List.range ops.size).all fun t => decide (t < m) || !l0.getD t true
theorem closed_inv {ops : Array Oper} {m : Nat} {l0 : Array Bool} (h : closedB ops m l0 = true) : HeadInv .any ops m l0 := by
  simp only [closedB, Bool.and_eq_true, decide_eq_true_eq] at h
  obtain ⟨⟨h1, h2⟩, h3⟩ := h
  refine ⟨h1, fun j oj hj hl e he hb => ?_, fun t ht ht' => ?_⟩
  · have hlt : j < ops.size := (Array.getElem?_eq_some_iff.1 hj).1
    have := List.all_eq_true.1 h2 j (List.mem_range.2 hlt)
    rw [hl, hj] at this
    simp only [Bool.not_true, Bool.false_or] at this
    have := Array.all_eq_true_iff_forall_mem.1 this e he
    rw [hb] at this
    simpa using this
  · have := List.all_eq_true.1 h3 t (List.mem_range.2 ht')
    simp only [Bool.or_eq_true, decide_eq_true_eq, Bool.not_eq_true'] at this
    rcases this with h | h
    · omega
    · exact h
def draw2B (l : List Oper) (m : Nat) (l0 : Array Bool) : Bool :=
  Region.noSelect l.toArray && decide (m < l.length) && sink2B l.toArray m l0 && Region.chainB .any l.toArray m && Region.seqB .any l.toArray (l.length - m) m (canon m l.length) && closedB l.toArray m l0
theorem ap_an {l : List Oper} {g f : Nat} {l0 : Array Bool} (m : Nat) (hB : draw2B l m l0 = true) (hg : g = f + (l.length - m)) (h : AN P Γ n l.toArray Q m (fun a w => wpList P l.toArray Q (l.drop m) a w) f l0 fr H) :
    AP P Γ n l.toArray Q g l0 fr H := fun ρ w a s => by
  simp only [draw2B, Bool.and_eq_true, decide_eq_true_eq] at hB
  obtain ⟨⟨⟨⟨⟨hsel, hn⟩, hs⟩, hc⟩, hseq⟩, hcl⟩ := hB
  rw [hg]
  refine wpAny_of_AK2 (P := P) (Q := Q) (ops := l.toArray) (m := m) (g := l.length - m) hs hc (by simpa using hn) (fun listed a w inv hdone hT => ?_) f l0 a w (closed_inv hcl) (fun _ h => h) (h ρ w a s)
  have hcanon : listed = canon m l.length := by
    apply Array.ext
    · rw [inv.size]; simp [canon]; omega
    · intro i h1 h2
      have hi : i < l.length := by rw [inv.size] at h1; simpa using h1
      by_cases him : i < m
      · have := hdone i him
        simp [h1] at this
        simp [canon, this, him]
      · have := inv.tail i (by omega) (by simpa using hi)
        simp [h1] at this
        simp only [canon, List.getElem_toArray, this]
        rw [List.getElem_append_right (by simp; omega)]
        simp
  rw [hcanon]
  have := wpAny_of_seq (P := P) (ops := l.toArray) (md := .any) (Q' := Q) (l.drop m) m (canon m l.length) a w (fun j => by simp [List.getElem?_drop]) (by simpa using hseq) hT
  simpa using this
end
end Go.GA
