/- Structs of one array compared; views of own arrays as arguments; names that stay. -/
import Derived.Test.YtcminfahdindnaaDoorGA27
namespace Go.GA
open Go Go.RowKit
def nkB (σ : Nat → Nat) : Nat → Bool
  | 0 => true
  | k + 1 => Nat.beq (σ k) k && nkB σ k
theorem nkL {n : Sz} {σ : Nat → Nat} (h : nkB σ n.K = true) : ∀ i, i < n.K → σ i = i := by
  have key : ∀ K, nkB σ K = true → ∀ i, i < K → σ i = i := by
    intro K
    induction K with
    | zero => intro _ i hi; omega
    | succ K ih =>
      intro h i hi
      simp only [nkB, Bool.and_eq_true] at h
      by_cases e : i = K
      · subst e; exact Nat.eq_of_beq_eq_true h.1
      · exact ih h.2 i (by omega)
  exact key n.K h
section
variable {H : Hp}
theorem ad_viewv0 {σ : Nat → Nat} {id off m l len z : Nat} {t : Ty} {xs : List t.D} {cs : List Comp} (hz : t.sz = z) (hf : t.flat = true) (hg : hget H id = some (.var cs)) (hc : compAt cs off = some (.arr t m xs)) (hl : l + len ≤ m) (hm : Nat.ble m 1000000 = true) :
    Ad H [] σ (.view id off z l len) (.v (.slice t) ((xs.drop l).take len)) := fun ρ h ℓ hk hm' hd v hx => by
  subst hz
  obtain ⟨b', k', c, T, F, h1', h2, h3, e⟩ := hk.get hg
  obtain ⟨p, mm, q, F', ec, hp, ⟨c1, c2, F1, F2, em, _, h5, h6, _⟩, hF'⟩ := comps_at h3 hc
  refine ad_view hf (elemsAt_var hg hc) (by rw [h5.1]; exact hl) ?_ (by simp) ρ h ℓ hk hm' hd v hx
  have := Nat.le_of_ble_eq_true hm
  simp only [lim]; omega
end
section
variable {P : Program} {n : Sz} {fr : Fr} {H : Hp} {dst : Option Nat} {ty : TypeId} {pos : String} {aft : Array Edge} {g : Option (Nat × Bool)}
theorem r_eq_st1 {op : BinOp} {T A E yT : TypeId} {x y : Operand} {k : IntKind} {m : Nat} {X Y : (Ty.pair (.arr m (.int k)) .unit).D} {xs ys : List Int} {c : Bool} {f : Field} (hT : P.underlying T = some (.struct (P.fieldsOf T))) (hfs : P.fieldsOf T = #[f]) (hfn : (f.name != "_") = true) (hft : f.type = A) (hfo : f.offset = 0) (hst : P.stoodInHeld T = false)
    (hA : P.underlying A = some (.array m E)) (hE : P.underlying E = some (.int k)) (haA : ∀ w, (isAgg A).run P w = .ok true w) (hsA : ∀ w, (sizeOf A).run P w = .ok m w) (ha : ∀ w, (isAgg E).run P w = .ok false w) (hi : ∃ i, P.info? E = some i ∧ i.size = 1) (hgd : P.eqGuardType P.depth T = false)
    (hx : evO fr x = some (.v (.pair (.arr m (.int k)) .unit) X)) (hy : evO fr y = some (.v (.pair (.arr m (.int k)) .unit) Y)) (hX : X.1 = xs) (hY : Y.1 = ys) (hc : (match op with
      | .eql => some (decide (xs = ys))
      | .neq => some (!decide (xs = ys))
      | _ => none) = some c) : Reads P ⟨dst, .binOp op T x y yT, ty, pos, aft, g⟩ fr H (.bool c) := fun Γ n ρ w a s => by
  have hval : ∀ {o : Operand} {X : (Ty.pair (.arr m (.int k)) .unit).D} {xs : List Int}, evO fr o = some (.v (.pair (.arr m (.int k)) .unit) X) → X.1 = xs → a.eval o = .agg (xs.map (Value.int k)).toArray ∧ xs.length = m := by
    intro o X xs ho hX
    obtain ⟨F, ⟨cs, ⟨c1, c2, F1, F2, e1, _, h1, h2⟩, e⟩, _⟩ := s.ev ho
    rw [hX] at h1
    obtain ⟨e3, l3⟩ := rv_ints ⟨c1, h1, rfl⟩
    obtain ⟨h2, _⟩ := h2
    subst h2
    refine ⟨?_, l3⟩
    rw [e, e1, List.append_nil]
    exact e3
  obtain ⟨e1, l1⟩ := hval hx hX
  obtain ⟨e2, l2⟩ := hval hy hY
  obtain ⟨i, hi, hsz⟩ := hi
  have hcell : P.cellsOf E = 1 := by simp [Program.cellsOf, hi, hsz]
  have hpart : ∀ (l : List Int) (w' : World), l.length = m → (part f.type (l.map (Value.int k)).toArray f.offset).run P w' = .ok (.agg (l.map (Value.int k)).toArray) w' := fun l w' hl => by
    have e0 : ((l.map (Value.int k)).toArray).extract 0 m = (l.map (Value.int k)).toArray := by
      have hs : ((l.map (Value.int k)).toArray).size = m := by simp [hl]
      conv => lhs; rw [← hs]
      exact Array.extract_size
    simp only [part, hft, hfo, Sem.run_bind, haA, hsA, Result.andThen_ok, if_true, Sem.run_pure, Nat.zero_add, e0]
  have heq : ∀ w', (Op.equal T (a.eval x) (a.eval y)).run P w' = .ok (decide (xs = ys)) w' := fun w' => by
    unfold Op.equal Op.maxDepth
    rw [e1, e2, run_equalIn_struct w' 9999 T _ _ hT hst, hfs]
    have h1 := run_equalIn_array (P := P) w' 9998 (xs.map (Value.int k)).toArray (ys.map (Value.int k)).toArray hA hi
    have h2 := eqItems_ints (P := P) (d := 9997) hE ha hcell w' xs ys [] [] (by rw [l1, l2]) rfl
    simp only [List.nil_append, List.length_nil, l1, ← List.range_eq_range'] at h2
    rw [h2] at h1
    have hne : (f.name ≠ "_") := by simpa using hfn
    have hA' : (Op.equalIn 9999 f.type (.agg (xs.map (Value.int k)).toArray) (.agg (ys.map (Value.int k)).toArray)).run P w' = .ok (decide (xs = ys)) w' := by rw [hft]; exact h1
    simp only [Op.eqFields, Sem.run_bind, hpart xs _ l1, hpart ys _ l2, Result.andThen_ok, hA', hne, ne_eq, not_false_eq_true, if_true]
    by_cases h : xs = ys
    · simp [h, Op.eqFields]
    · simp [h]
  refine ⟨.bool c, rfl, fun w' _ => ?_⟩
  have hg1 : ∀ w', (eqGuard op T x y (a.eval x) (a.eval y)).run P w' = .ok () w' := fun w' => by
    rw [e1, e2]
    unfold eqGuard
    cases op <;> simp [hgd, program, Sem.run, Sem.run_bind]
  have h3 : (Go.binOp op T (a.eval x) (a.eval y)).run P w' = .ok (.bool c) w' := by
    cases op <;> simp at hc
    · subst hc
      rw [e1, e2] at heq ⊢
      simp [Go.binOp, Sem.run_bind, heq]
    · rw [e1, e2] at heq ⊢
      simp [Go.binOp, Sem.run_bind, heq, hc]
  simp only [execOp, Sem.run_bind, hg1, h3, Result.andThen_ok, Sem.run_pure]
end
end Go.GA
