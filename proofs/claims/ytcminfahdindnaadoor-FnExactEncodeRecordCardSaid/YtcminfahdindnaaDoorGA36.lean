/- More operations: elements of elements read. -/
import Derived.Test.YtcminfahdindnaaDoorGA35
namespace Go.GA
open Go Go.RowKit
section
variable {P : Program} {n : Sz} {fr : Fr} {H : Hp} {dst : Option Nat} {ty : TypeId} {pos : String} {aft : Array Edge} {g : Option (Nat × Bool)}
theorem r_load_elem2 {T : TypeId} {x : Operand} {id off i m j z z2 : Nat} {u : Ty} {xs : List (Ty.arr m u).D} {L : List u.D} {e : u.D} (hf : u.flat = true) (ha : ∀ w, (isAgg T).run P w = .ok u.agg w) (hs : ∀ w, (sizeOf T).run P w = .ok u.sz w) (hz : m * u.sz = z) (hz2 : u.sz = z2)
    (hx : evO fr x = some (.elem2 id off z i z2 j)) (hg : elemsAt H id off = some ⟨.arr m u, xs⟩) (hi : i < xs.length) (hL : xs.getD i (Ty.dflt (.arr m u)) = L) (hj : j < m) (he : L.getD j u.dflt = e) :
    Reads P ⟨dst, .load T x, ty, pos, aft, g⟩ fr H (ofTy u e) := fun Γ n ρ w a s => by
  subst hz; subst hz2
  obtain ⟨b, k, hρ, ex⟩ := s.ev hx
  obtain ⟨ℓ, hLk, _⟩ := s.heap
  obtain ⟨c, T', p, mid, q, F, hb, hc, hp, hm, _⟩ := elemsAt_ok hLk hg hρ
  rw [split_at xs i hi (Ty.dflt (.arr m u))] at hm
  obtain ⟨c1, c2, c3, G, em, hc1, hR, hG⟩ := RelL.mid hm (fun x c F h => Rc.len _ h)
  rw [hL] at hR
  have hlt' : (xs.take i).length = i := by rw [List.length_take]; omega
  rw [hlt'] at hc1
  replace hc1 : c1.length = i * (m * u.sz) := by rw [hc1]; rfl
  obtain ⟨hl, hR2⟩ := hR
  have hjl : j < L.length := by omega
  rw [split_at L j hjl u.dflt] at hR2
  obtain ⟨f1, f2, f3, G3, ef, hf1, hRf, _⟩ := RelL.mid hR2 (fun x c F h => Rc.len _ h)
  rw [he] at hRf
  have hlt2 : (L.take j).length = j := by rw [List.length_take]; omega
  rw [hlt2] at hf1
  have hGn := Rc.flat u hf hRf
  subst hGn
  refine ⟨mkV u f2, ra_ofTy hRf (by simp), fun w' hk => ?_⟩
  have := run_loadVar_at (P := P) (t := u) (E := T) (w := w') (b := b) (c := c) (T := T') (z := (0, 0)) (pre := p ++ (c1 ++ f1)) (mid := f2) (post := f3 ++ (c3 ++ q)) (kept_get hk hb) (by rw [hc, em, ef]; simp) (Rc.len u hRf) agg_sz ha hs
  have hoff : (p ++ (c1 ++ f1)).length = off + i * (m * u.sz) + j * u.sz := by rw [List.length_append, List.length_append, hp, hc1, hf1]; omega
  rw [hoff] at this
  simp only [execOp, ex, Instr.loadAt, Instr.sureAddr, Sem.run_bind, Sem.run_pure, Result.andThen_ok, this]
theorem r_load_elem2_int {T : TypeId} {x : Operand} {id off i m j z : Nat} {q : IntKind} {xs : List (List Int)} {L : List Int} {e : Int} (ha : ∀ w, (isAgg T).run P w = .ok false w) (hs : ∀ w, (sizeOf T).run P w = .ok 1 w) (hz : m * 1 = z)
    (hx : evO fr x = some (.elem2 id off z i 1 j)) (hg : elemsAt H id off = some ⟨.arr m (.int q), xs⟩) (hi : i < xs.length) (hL : xs.getD i (List.replicate m 0) = L) (hj : j < m) (he : L.getD j 0 = e) :
    Reads P ⟨dst, .load T x, ty, pos, aft, g⟩ fr H (.int q e) := r_load_elem2 (u := .int q) rfl ha hs hz rfl hx hg hi hL hj he
end
end Go.GA
