/- Structs; numbers turned into other kinds. -/
import Derived.Test.YtcminfahdindnaaDoorGA21
namespace Go.GA
open Go Go.RowKit
section
variable {P : Program} {n : Sz} {fr : Fr} {H : Hp} {dst : Option Nat} {ty : TypeId} {pos : String} {aft : Array Edge} {g : Option (Nat × Bool)}
theorem r_conv {S T : TypeId} {x : Operand} {k k' : IntKind} {a : Int} {d : TypeDesc} (hs : P.underlying S = some d) (ht : P.underlying T = some (.int k')) (hx : evO fr x = some (.int k a)) :
    Reads P ⟨dst, .convert S T x, ty, pos, aft, g⟩ fr H (.int k' (k'.wrap a)) :=
  reads_of fun ρ h M ev hev => ⟨_, rfl, fun w' => by
    have h1 := hev x _ hx
    simp only [RA] at h1
    simp [execOp, Go.convert, h1, Sem.run_bind, run_underlying hs, run_underlying ht, Conv.intToInt]⟩
theorem r_convI {S T : TypeId} {x : Operand} {k k' : IntKind} {a : Int} {d : TypeDesc} (hs : P.underlying S = some d) (ht : P.underlying T = some (.int k')) (hx : evO fr x = some (.int k a)) (hw : k'.wrap a = a) :
    Reads P ⟨dst, .convert S T x, ty, pos, aft, g⟩ fr H (.int k' a) := by
  have := r_conv (H := H) (dst := dst) (ty := ty) (pos := pos) (aft := aft) (g := g) hs ht hx
  rwa [hw] at this
end
end Go.GA
namespace Go.GA
open Go Go.RowKit
theorem comps_ty {ρ : Rho} {h : Hf} {M : Nat → Prop} : ∀ (t : Ty) {x : t.D} {cs G}, t.flatArrs = true → RComps ρ h M (tyComps t x) cs G → ∃ F, Rc h t x cs F ∧ ∀ b ∈ F, ¬ M b
  | .arr n t, x, cs, G, hf, hr => by
    obtain ⟨c1, c2, F1, F2, e, _, h1, h2, _⟩ := hr
    subst h2
    have hF := Rc.flat (.arr n t) hf h1
    subst hF
    exact ⟨[], by rw [e, List.append_nil]; exact h1, by simp⟩
  | .pair a b, x, cs, G, hf, hr => by
    simp only [Ty.flatArrs, Bool.and_eq_true] at hf
    obtain ⟨v1, v2, F1, F2, e, _, h1, h2⟩ := RComps.split (cs := tyComps a x.1) (ds := tyComps b x.2) hr
    obtain ⟨G1, r1, n1⟩ := comps_ty a hf.1 h1
    obtain ⟨G2, r2, n2⟩ := comps_ty b hf.2 h2
    exact ⟨G1 ++ G2, ⟨v1, v2, G1, G2, e, rfl, r1, r2⟩, fun y hy => by
      rcases List.mem_append.1 hy with h | h
      · exact n1 y h
      · exact n2 y h⟩
  | .unit, _, _, _, _, hr => ⟨[], ⟨hr.1, rfl⟩, by simp⟩
  | .int k, x, _, _, _, hr => by obtain ⟨v, cs', e, _, hv, e2, _⟩ := hr; subst e2; exact ⟨[], ⟨by rw [e]; simp only [RA] at hv; rw [hv], rfl⟩, by simp⟩
  | .bool, x, _, _, _, hr => by obtain ⟨v, cs', e, _, hv, e2, _⟩ := hr; subst e2; exact ⟨[], ⟨by rw [e]; simp only [RA] at hv; rw [hv], rfl⟩, by simp⟩
  | .str, x, _, _, _, hr => by obtain ⟨v, cs', e, _, hv, e2, _⟩ := hr; subst e2; exact ⟨[], ⟨by rw [e]; simp only [RA] at hv; rw [hv], rfl⟩, by simp⟩
  | .slice t, x, _, _, _, hr => by
    obtain ⟨v, cs', e, _, hv, e2, _⟩ := hr
    subst e2
    obtain ⟨F, ⟨cs, h1, h2⟩, hF⟩ := hv
    obtain ⟨u, rfl⟩ := one_cell (t := .slice t) rfl h1
    obtain rfl : v = u := h2
    exact ⟨F, by rw [e]; exact h1, hF⟩
end Go.GA
namespace Go.GA
open Go Go.RowKit
section
variable {P : Program} {n : Sz} {fr : Fr} {H : Hp} {dst : Option Nat} {ty : TypeId} {pos : String} {aft : Array Edge} {g : Option (Nat × Bool)}
/-- a whole own variable, or a part of it, as plain data -/
theorem r_load_part {T : TypeId} {x : Operand} {id off : Nat} {τ : Ty} {y : τ.D} {cs : List Comp} (pre post : List Comp) (hf : τ.flatArrs = true) (ha : ∀ w, (isAgg T).run P w = .ok τ.agg w) (hs : ∀ w, (sizeOf T).run P w = .ok τ.sz w)
    (hx : evO fr x = some (.ref id off)) (hg : hget H id = some (.var cs)) (hc : cs = pre ++ (tyComps τ y ++ post)) (ho : compsSz pre = off) :
    Reads P ⟨dst, .load T x, ty, pos, aft, g⟩ fr H (ofTy τ y) := fun Γ n' ρ w a s => by
  obtain ⟨b, k, hρ, e⟩ := s.ev hx
  obtain ⟨ℓ, hL, _⟩ := s.heap
  obtain ⟨b', k', c, T', F, hρ', hb, hcs, _⟩ := hL.get hg
  rw [hρ] at hρ'
  obtain ⟨rfl, rfl⟩ : b = b' ∧ k = k' := by simpa using hρ'
  subst hc
  obtain ⟨v1, v2, F1, F2, ev, _, h1, h2⟩ := RComps.split hcs
  obtain ⟨v3, v4, F3, F4, ev2, _, h3, h4⟩ := RComps.split h2
  obtain ⟨G, hR, hM⟩ := comps_ty τ hf h3
  have hl := h1.len
  rw [ho] at hl
  refine ⟨mkV τ v3, ra_ofTy hR hM, fun w' hk => ?_⟩
  have := run_loadVar_at (P := P) (t := τ) (E := T) (w := w') (pre := v1) (mid := v3) (post := v4) (kept_get hk hb) (by rw [ev, ev2]) (Rc.len _ hR) agg_sz ha hs
  rw [hl] at this
  simp only [execOp, e, Instr.loadAt, Instr.sureAddr, Sem.run_bind, Sem.run_pure, Result.andThen_ok, this]
end
end Go.GA
namespace Go.GA
open Go Go.RowKit
theorem ra_zero {t : Ty} {ρ : Rho} {h : Hf} {M : Nat → Prop} {z : Value} (hz : z = mkV t (zc t)) : RA ρ h M (ofTy t t.dflt) z := by
  subst hz
  exact ra_ofTy (zc_ok h t) (by simp)
end Go.GA
namespace Go.GA
open Go
theorem byte_wrap (b : UInt8) : IntKind.i64.wrap (b.toNat : Int) = (b.toNat : Int) := by
  have := b.toNat_lt
  exact wrap_id (by omega) (by omega)
end Go.GA
