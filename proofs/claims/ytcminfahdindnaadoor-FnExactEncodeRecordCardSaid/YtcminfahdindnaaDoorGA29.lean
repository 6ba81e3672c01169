/- Rows of structs of one array: an element of an element's array is read. -/
import Derived.Test.YtcminfahdindnaaDoorGA28
namespace Go.GA
open Go Go.RowKit
section
variable {P : Program} {n : Sz} {fr : Fr} {H : Hp} {dst : Option Nat} {ty : TypeId} {pos : String} {aft : Array Edge} {g : Option (Nat × Bool)}
/-- the first field of an element -/
theorem r_fieldAddr_elem {S : TypeId} {x : Operand} {k id off sz i : Nat} {fs : Array Field} {fd : Field} {s' : Nat} (hu : P.underlying S = some (.struct fs)) (hf : fs[k]? = some fd) (hs : ∀ w, (sizeOf fd.type).run P w = .ok s' w) (hs0 : Nat.beq s' 0 = false) (h0 : fd.offset = 0)
    (hx : evO fr x = some (.elem id off sz i)) : Reads P ⟨dst, .fieldAddr S x k, ty, pos, aft, g⟩ fr H (.elem id off sz i) := fun Γ n ρ w a s => by
  obtain ⟨b, kk, hρ, e⟩ := s.ev hx
  have hne : s' ≠ 0 := Nat.ne_of_beq_eq_false hs0
  refine ⟨.pointer (some ⟨b, off + i * sz, none⟩), ⟨b, kk, hρ, rfl⟩, fun w' _ => ?_⟩
  simp [execOp, Instr.fieldAt, e, Sem.run_bind, run_underlying hu, hf, fieldPlace, hs, hne, addr_add, h0, Instr.sureAddr]
theorem r_load_elem2s {T : TypeId} {x : Operand} {id i m j z z2 : Nat} {u : Ty} {xs : List (Ty.pair (.arr m u) .unit).D} {X : (Ty.pair (.arr m u) .unit).D} {L : List u.D} {e : u.D} (hf : u.flat = true) (ha : ∀ w, (isAgg T).run P w = .ok u.agg w) (hs : ∀ w, (sizeOf T).run P w = .ok u.sz w) (hz : m * u.sz = z) (hz2 : u.sz = z2)
    (hx : evO fr x = some (.elem2 id 0 z i z2 j)) (hg : hget H id = some (.row (.pair (.arr m u) .unit) xs)) (hi : i < xs.length) (hX : xs.getD i (Ty.dflt (.pair (.arr m u) .unit)) = X) (hL : X.1 = L) (hj : j < m) (he : L.getD j u.dflt = e) :
    Reads P ⟨dst, .load T x, ty, pos, aft, g⟩ fr H (ofTy u e) := fun Γ n ρ w a s => by
  subst hz; subst hz2
  obtain ⟨b, k, hρ, ex⟩ := s.ev hx
  obtain ⟨ℓ, hLk, _⟩ := s.heap
  have he0 : elemsAt H id 0 = some ⟨.pair (.arr m u) .unit, xs⟩ := by unfold elemsAt; rw [hg]
  obtain ⟨c, T', p, mid, q, F, hb, hc, hp, hm, _⟩ := elemsAt_ok hLk he0 hρ
  rw [split_at xs i hi (Ty.dflt (.pair (.arr m u) .unit))] at hm
  obtain ⟨c1, c2, c3, G, em, hc1, hR, hG⟩ := RelL.mid hm (fun x c F h => Rc.len _ h)
  rw [hX] at hR
  have hlt' : (xs.take i).length = i := by rw [List.length_take]; omega
  rw [hlt'] at hc1
  replace hc1 : c1.length = i * (m * u.sz) := by rw [hc1]; rfl
  obtain ⟨d1, d2, G1, G2, e1, e2, r1, r2⟩ := hR
  rw [hL] at r1
  obtain ⟨hl, hR2⟩ := r1
  have hjl : j < L.length := by omega
  rw [split_at L j hjl u.dflt] at hR2
  obtain ⟨f1, f2, f3, G3, ef, hf1, hRf, _⟩ := RelL.mid hR2 (fun x c F h => Rc.len _ h)
  rw [he] at hRf
  have hlt2 : (L.take j).length = j := by rw [List.length_take]; omega
  rw [hlt2] at hf1
  have hGn := Rc.flat u hf hRf
  subst hGn
  refine ⟨mkV u f2, ra_ofTy hRf (by simp), fun w' hk => ?_⟩
  have := run_loadVar_at (P := P) (t := u) (E := T) (w := w') (b := b) (c := c) (T := T') (z := (0, 0)) (pre := p ++ (c1 ++ f1)) (mid := f2) (post := f3 ++ (d2 ++ (c3 ++ q))) (kept_get hk hb) (by rw [hc, em, e1, ef]; simp) (Rc.len u hRf) agg_sz ha hs
  have hoff : (p ++ (c1 ++ f1)).length = 0 + i * (m * u.sz) + j * u.sz := by rw [List.length_append, List.length_append, hp, hc1, hf1]; omega
  rw [hoff] at this
  simp only [execOp, ex, Instr.loadAt, Instr.sureAddr, Sem.run_bind, Sem.run_pure, Result.andThen_ok, this]
theorem r_load_elem2s_int {T : TypeId} {x : Operand} {id i m j z : Nat} {q : IntKind} {xs : List (List Int × Unit)} {X : List Int × Unit} {L : List Int} {e : Int} (ha : ∀ w, (isAgg T).run P w = .ok false w) (hs : ∀ w, (sizeOf T).run P w = .ok 1 w) (hz : m * 1 = z)
    (hx : evO fr x = some (.elem2 id 0 z i 1 j)) (hg : hget H id = some (.row (.pair (.arr m (.int q)) .unit) xs)) (hi : i < xs.length) (hX : xs.getD i (List.replicate m 0, ()) = X) (hL : X.1 = L) (hj : j < m) (he : L.getD j 0 = e) :
    Reads P ⟨dst, .load T x, ty, pos, aft, g⟩ fr H (.int q e) := r_load_elem2s (u := .int q) rfl ha hs hz rfl hx hg hi hX hL hj he
end
end Go.GA
