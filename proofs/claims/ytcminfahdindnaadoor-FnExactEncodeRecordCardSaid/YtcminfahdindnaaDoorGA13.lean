/- Regions whose order is left open. -/
import Derived.Test.YtcminfahdindnaaDoorGA12
import Derived.StillTail
namespace Go.GA
open Go Go.RowKit

section
variable {P : Program} {ops : Array Oper} {Q : Exit → Act → World → Prop}

/-- the operations below m, in whatever order, each in whatever world that has only grown; then T -/
def wpAK (P : Program) (ops : Array Oper) (Q : Exit → Act → World → Prop) (m : Nat) (T : Act → World → Prop) (w0 : World) : Nat → Array Bool → Act → World → Prop
  | 0, listed, a, w => (∀ j, j < m → listed.getD j false = true) ∧ ∀ w', Kept w w' → T a w'
  | f + 1, listed, a, w => ∀ w', Kept w w' → (∃ i ∈ Region.ready .any ops listed, i < m) ∧ ∀ i ∈ Region.ready .any ops listed, i < m →
      wpOp P ops Q i (fun a' w'' => Kept w0 w'' ∧ wpAK P ops Q m T w0 f (listed.setIfInBounds i true) a' w'') a w'

/-- one value, in whatever world that has only grown -/
def Stable (P : Program) (ops : Array Oper) (o : Oper) (v : Value) (a : Act) (w : World) : Prop :=
  (Region.wanted o (yielded ops a.tmps) = true ∧ ∀ w', Kept w w' → (execOp a.eval o).run P w' = .ok (.value v) w' ∨
    ∃ f args, (execOp a.eval o).run P w' = .ok (.enter f args) w' ∧ Calls P f args w' (fun e w'' => e = .returned v ∧ Kept w' w'')) ∨
  (Region.wanted o (yielded ops a.tmps) = false ∧ v = undef)

theorem Stable.wpOp {i : Nat} {o : Oper} {v : Value} {a : Act} {w : World} (hi : ops[i]? = some o) (hy : Stable P ops o v a w) {K : Act → World → Prop} (h : ∀ w', Kept w w' → K (a.put o.dst v) w') : Go.wpOp P ops Q i K a w := by
  unfold Go.wpOp
  simp only [hi]
  rcases hy with ⟨hw, hv⟩ | ⟨hw, rfl⟩
  · simp only [hw, if_true]
    refine .inl ?_
    unfold Oper.wp
    rcases hv w (Kept.refl w) with hv | ⟨f, args, hv, hc⟩
    · rw [hv]; exact h w (Kept.refl w)
    · rw [hv, Oper.upon_enter]
      exact hc.mono fun e w'' ⟨he, hk⟩ => by subst he; exact h _ hk
  · simp only [hw, Bool.false_eq_true, if_false]; exact h w (Kept.refl w)
theorem Stable.kept {o : Oper} {v : Value} {a : Act} {w w' : World} (hy : Stable P ops o v a w) (hk : Kept w w') : Stable P ops o v a w' := by
  rcases hy with ⟨hw, hv⟩ | h
  · exact .inl ⟨hw, fun w'' h => hv w'' (hk.trans h)⟩
  · exact .inr h
theorem Stable.of_same {o : Oper} {v : Value} {a a' : Act} {w : World} (hy : Stable P ops o v a w) (he : execOp a'.eval o = execOp a.eval o) (hw : Region.wanted o (yielded ops a'.tmps) = Region.wanted o (yielded ops a.tmps)) : Stable P ops o v a' w := by
  unfold Stable at *
  rw [he, hw]; exact hy

/-- an operation apart from oi does the same whether oi's value is there or not -/
theorem wpOp_apart {j : Nat} {oi oj : Oper} {v : Value} (hj : ops[j]? = some oj) (hap : oi.apart ops oj = true) (hsj : ∀ cs b, oj.op ≠ .select cs b) (hQ : ∀ c a w, Q (.panic c) a w → False)
    {K : Act → World → Prop} {a : Act} {w : World} (h : wpOp P ops Q j K (a.put oi.dst v) w) (hsi : ∀ cs b, oi.op ≠ .select cs b) :
    wpOp P ops Q j (fun a' w' => K (a'.put oi.dst v) w' ∧ execOp a'.eval oi = execOp a.eval oi ∧ Region.wanted oi (yielded ops a'.tmps) = Region.wanted oi (yielded ops a.tmps)) a w := by
  obtain ⟨h1, h2, h3⟩ := Oper.apart_spec hap
  have keep : ∀ (u : Value) (b : Act), (∃ ds, b = { a with defers := ds }) → execOp (b.put oj.dst u).eval oi = execOp a.eval oi ∧ Region.wanted oi (yielded ops (b.put oj.dst u).tmps) = Region.wanted oi (yielded ops a.tmps) := by
    rintro u b ⟨ds, rfl⟩
    have e1 := execOp_put (ops := ops) oi hsi { a with defers := ds } oj.dst u h3
    have e2 := wanted_put (ops := ops) oi { a with defers := ds } oj.dst u h3
    exact ⟨e1, e2⟩
  unfold wpOp at *
  simp only [hj] at *
  rw [wanted_put oj a oi.dst v h1] at h
  split
  · rename_i hw
    simp only [hw, if_true] at h
    rcases h with h | ⟨ha, b, w0, hq⟩
    · refine .inl ?_
      unfold Oper.wp at *
      rw [execOp_put oj hsj a oi.dst v h1] at h
      generalize (execOp a.eval oj).run P w = r at *
      cases r with
      | ok nx w' =>
        cases nx <;> simp only [Oper.upon] at h ⊢
        case value u => exact ⟨by rw [← Act.put_comm a v u h2]; exact h, keep u a ⟨_, rfl⟩⟩
        case skip => exact ⟨by rw [← Act.put_comm a v undef h2]; exact h, keep undef a ⟨_, rfl⟩⟩
        case defer d =>
          refine ⟨?_, keep undef _ ⟨_, rfl⟩⟩
          rw [Act.put_defers] at h
          rw [← Act.put_comm _ v undef h2]; exact h
        case enter f args =>
          refine Calls.mono h fun e w'' he => ?_
          cases e with
          | returned u => exact ⟨by rw [← Act.put_comm a v u h2]; exact he, keep u a ⟨_, rfl⟩⟩
          | panicked c => exact (hQ _ _ _ he).elim
          | outgrown => exact he
        case row row args => exact Rows.mono h fun u w'' he => ⟨by rw [← Act.put_comm a v u h2]; exact he, keep u a ⟨_, rfl⟩⟩
      | halt x w' =>
        cases x <;> simp only [Oper.upon] at h ⊢
        case panic u => exact (hQ _ _ _ h).elim
    · refine .inr ⟨?_, b, w0, hq⟩
      unfold Oper.asks at *
      rw [execOp_put oj hsj a oi.dst v h1] at ha
      exact ha
  · rename_i hw
    simp only [hw] at h
    exact ⟨by rw [← Act.put_comm a v undef h2]; exact h, keep undef a ⟨_, rfl⟩⟩

theorem wpAK_first {m : Nat} {T : Act → World → Prop} {i : Nat} {oi : Oper} {v : Value} {w0 : World} (hi : ops[i]? = some oi) (him : i < m) (hsel : Region.noSelect ops = true) (hQ : ∀ c a w, Q (.panic c) a w → False) :
    ∀ (f : Nat) (listed : Array Bool) (a : Act) (w : World), Kept w0 w →
      (∀ j oj, ops[j]? = some oj → j ≠ i → listed.getD j true = false → (∀ e ∈ oj.after, Region.binds .any e = true → e.on ≠ i) → oi.apart ops oj = true) →
      i ∈ Region.ready .any ops listed → Stable P ops oi v a w0 → wpAK P ops Q m T w0 f (listed.setIfInBounds i true) (a.put oi.dst v) w → wpAK P ops Q m T w0 (f + 1) listed a w := by
  have hclosed : ∀ f listed a w w', Kept w w' → wpAK P ops Q m T w0 f listed a w → wpAK P ops Q m T w0 f listed a w' := by
    intro f listed a w w' hk h
    cases f with
    | zero => exact ⟨h.1, fun w'' hk' => h.2 w'' (hk.trans hk')⟩
    | succ f => exact fun w'' hk' => h w'' (hk.trans hk')
  intro f
  induction f with
  | zero =>
    intro listed a w h0 _ hr hy H w' hk
    refine ⟨⟨i, hr, him⟩, fun j hj hjm => ?_⟩
    by_cases hji : j = i
    · subst hji
      exact (hy.kept (h0.trans hk)).wpOp hi (fun w'' h => ⟨(h0.trans hk).trans h, hclosed 0 _ _ _ _ (hk.trans h) H⟩)
    · have h1 := (mem_ready.1 (ready_mono hj hji)).1
      have h2 := H.1 j hjm
      have h3 := getD_both h1
      rw [h3] at h2; cases h2
  | succ f ih =>
    intro listed a w h0 hfree hr hy H w' hk
    refine ⟨⟨i, hr, him⟩, fun j hj hjm => ?_⟩
    by_cases hji : j = i
    · subst hji
      exact (hy.kept (h0.trans hk)).wpOp hi (fun w'' h => ⟨(h0.trans hk).trans h, hclosed (f + 1) _ _ _ _ (hk.trans h) H⟩)
    · have h1 := (H w' hk).2 j (ready_mono hj hji) hjm
      obtain ⟨hjun, oj, hoj, hall⟩ := mem_ready.1 hj
      have hnot : ∀ e ∈ oj.after, Region.binds .any e = true → e.on ≠ i := fun e he hb heq => by
        have h1 := hall e he hb
        have h0 := (mem_ready.1 hr).1
        rw [heq] at h1
        rcases Nat.lt_or_ge i listed.size with h' | h'
        · simp [h'] at h0 h1; rw [h0] at h1; cases h1
        · simp [Array.getElem?_eq_none h'] at h1
      have h2 := wpOp_apart hoj (hfree j oj hoj hji hjun hnot) (fun cs b => Region.noSelect_spec hsel j oj cs b hoj) hQ h1 (fun cs b => Region.noSelect_spec hsel i oi cs b hi)
      have hfree' : ∀ k ok, ops[k]? = some ok → k ≠ i → (listed.setIfInBounds j true).getD k true = false →
          (∀ e ∈ ok.after, Region.binds .any e = true → e.on ≠ i) → oi.apart ops ok = true := fun k ok hk hki hun hno => by
        refine hfree k ok hk hki ?_ hno
        by_cases hjk : j = k
        · subst hjk; exact hjun
        · rw [getD_set_ne true hjk] at hun; exact hun
      refine wpOp_mono (fun a' w'' h3 => ?_) h2
      obtain ⟨⟨h4, h5⟩, h6, h7⟩ := h3
      refine ⟨h4, ih (listed.setIfInBounds j true) a' w'' h4 hfree' (ready_mono hr (Ne.symm hji)) (hy.of_same h6 h7) ?_⟩
      rw [Array.setIfInBounds_comm _ _ hji]
      exact h5

/-- heads first, then the others in their order -/
theorem wpAny_of_AK {m g : Nat} {T : Act → World → Prop} (hs : Region.sinkB .any ops m = true) (hc : Region.chainB .any ops m = true) (hm : m < ops.size)
    (hT : ∀ listed a w, HeadInv .any ops m listed → (∀ j, j < m → listed.getD j false = true) → T a w → wpAny P .any ops Q g listed a w) :
    ∀ {w0 : World} (f : Nat) (listed : Array Bool) (a : Act) (w : World), HeadInv .any ops m listed → wpAK P ops Q m T w0 f listed a w → wpAny P .any ops Q (f + g) listed a w
  | _, 0, listed, a, w, inv, h => by
    rw [Nat.zero_add]
    exact hT listed a w inv h.1 (h.2 w (Kept.refl w))
  | _, f + 1, listed, a, w, inv, h => by
    obtain ⟨⟨i0, hi0, him0⟩, hall⟩ := h w (Kept.refl w)
    have e : f + 1 + g = (f + g) + 1 := by omega
    rw [e]
    refine ⟨fun h0 => (by rw [h0] at hi0; cases hi0), fun i hi => ?_⟩
    have him : i < m := by
      rcases Nat.lt_or_ge i m with h' | h'
      · exact h'
      · exact absurd hi (tail_waits hs hc hm inv _ i0 rfl him0 (mem_ready.1 hi0).1 i h')
    exact wpOp_mono (fun a' w' h3 => wpAny_of_AK hs hc hm hT f _ a' w' (inv.set hi him) h3.2) (hall i hi him)
end
end Go.GA
