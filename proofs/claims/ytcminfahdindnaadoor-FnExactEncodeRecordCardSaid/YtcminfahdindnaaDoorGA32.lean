/- Slices with three bounds. -/
import Derived.Test.YtcminfahdindnaaDoorGA31
namespace Go.GA
open Go Go.RowKit
theorem run_bounds3 {P : Program} {ρ : Rho} {h : Hf} {M : Nat → Prop} {fr : Fr} {ev : Operand → Value} (hev : ∀ o y, evO fr o = some y → RA ρ h M y (ev o)) {isSlice : Bool} {len cap : Nat} {lo : Option Operand} {ho mo : Operand} {k k' : IntKind} {l m : Int}
    (hlo : Lo fr lo l) (hhi : evO fr ho = some (.int k m)) (hmx : evO fr mo = some (.int k' m)) (h0 : 0 ≤ l) (h1 : l ≤ m) (h2 : m ≤ (len : Int)) (h3 : len ≤ cap) (w : World) :
    (Instr.sliceBounds isSlice len cap (lo.map ev) (some (ev ho)) (some (ev mo))).run P w = .ok (l.toNat, m.toNat, m.toNat) w := by
  have e1 : ∀ {o : Operand} {k : IntKind} {i : Int}, evO fr o = some (.int k i) → ev o = .int k i := fun h => by have := hev _ _ h; simpa only [RA] using this
  have a0 : 0 ≤ m ∧ m ≤ (cap : Int) := ⟨by omega, by omega⟩
  have a1 : max m 0 = m := by omega
  have a2 : 0 ≤ m := by omega
  unfold Instr.sliceBounds
  cases hlo with
  | none => simp [Instr.sliceBound, e1 hhi, e1 hmx, asIntOf, a0, a1]
  | some hl => simp [Instr.sliceBound, e1 hl, e1 hhi, e1 hmx, asIntOf, a0, a1, h0, h1]
section
variable {P : Program} {n : Sz} {fr : Fr} {H : Hp} {dst : Option Nat} {ty : TypeId} {pos : String} {aft : Array Edge} {g : Option (Nat × Bool)}
theorem r_slice_v3 {T E : TypeId} {x : Operand} {t : Ty} {xs : List t.D} {lo : Option Operand} {ho mo : Operand} {k k' : IntKind} {l u : Int} (hu : P.underlying T = some (.slice E)) (hs : ∀ w, (sizeOf E).run P w = .ok t.sz w) (hx : evO fr x = some (.v (.slice t) xs))
    (hlo : Lo fr lo l) (hhi : evO fr ho = some (.int k u)) (hmx : evO fr mo = some (.int k' u)) (h0 : 0 ≤ l) (h1 : l ≤ u) (h2 : u ≤ (xs.length : Int)) :
    Reads P ⟨dst, .slice T x lo (some ho) (some mo), ty, pos, aft, g⟩ fr H (.v (.slice t) ((xs.take u.toNat).drop l.toNat)) := fun Γ n ρ w a s => by
  obtain ⟨F, ⟨cs, ⟨hl, hc⟩, hv⟩, hF⟩ := s.ev hx
  have hlen : ((xs.take u.toNat).drop l.toNat).length = u.toNat - l.toNat := by simp; omega
  have hle : ((xs.take u.toNat).drop l.toNat).length ≤ lim := by rw [hlen]; omega
  rcases hc with ⟨e0, _, a', cap, e⟩ | ⟨b, off, ex, F', e, eF, c, T', z, p, m, q, hb, hcl, hp, hm⟩
  · subst e
    have hv' : a.eval x = .slice a' 0 cap := by rw [hv]; rfl
    have hlen0 : xs.length = 0 := by rw [e0]; rfl
    have hu0 : u = 0 := by omega
    have hl0 : l = 0 := by omega
    have hb := fun w' => run_bounds3 (P := P) (isSlice := true) (len := 0) (cap := cap) (fun o y h => s.ev h) hlo hhi hmx h0 h1 (by omega) (Nat.zero_le _) w'
    subst hu0; subst hl0
    simp only [Int.toNat_zero] at hb
    refine ⟨.slice a' 0 0, ⟨[], ⟨[.slice a' 0 0], ⟨by simp, .inl ⟨by simp; rfl, rfl, a', 0, rfl⟩⟩, rfl⟩, by simp⟩, fun w' _ => ?_⟩
    simp only [execOp, Instr.sliceAt, Instr.slice, Sem.run_bind, run_underlying hu, Result.andThen_ok, hv', Option.map_some, hb, hs, Nat.sub_zero, Nat.sub_self, if_true, Sem.run_pure]
  · subst e
    have hv' : a.eval x = .slice (some ⟨b, off, none⟩) xs.length (xs.length + ex) := by rw [hv]; rfl
    have hb' := fun w' => run_bounds3 (P := P) (isSlice := true) (len := xs.length) (cap := xs.length + ex) (fun o y h => s.ev h) hlo hhi hmx h0 h1 h2 (by omega) w'
    by_cases hz : u.toNat = l.toNat
    · have hnil : (xs.take u.toNat).drop l.toNat = [] := by rw [hz]; simp
      rw [hnil]
      refine ⟨.slice (some ⟨b, off, none⟩) 0 0, ⟨[], ⟨[.slice _ 0 0], ⟨by simp, .inl ⟨rfl, rfl, _, _, rfl⟩⟩, rfl⟩, by simp⟩, fun w' _ => ?_⟩
      simp only [execOp, Instr.sliceAt, Instr.slice, Sem.run_bind, run_underlying hu, Result.andThen_ok, hv', Option.map_some, hb', hs, hz, if_true, Nat.sub_self, Sem.run_pure]
    · have e1 : xs = (xs.take l.toNat) ++ ((xs.take u.toNat).drop l.toNat ++ xs.drop u.toNat) := by
        have h2 : xs.take u.toNat = xs.take l.toNat ++ (xs.take u.toNat).drop l.toNat := by
          conv => lhs; rw [← List.take_append_drop l.toNat (xs.take u.toNat)]
          rw [List.take_take, Nat.min_eq_left (by omega)]
        rw [← List.append_assoc, ← h2, List.take_append_drop]
      rw [e1] at hm
      obtain ⟨c1, c2, F1, F2, g1, g2, g3, g4⟩ := RelL.split hm
      obtain ⟨d1, d2, G1, G2, k1, k2, k3, k4⟩ := RelL.split g4
      have l1 : c1.length = l.toNat * t.sz := by
        rw [RelL.len (fun x c F h => Rc.len t h) g3, List.length_take, Nat.min_eq_left (by omega)]
      refine ⟨.slice (some ⟨b, off + l.toNat * t.sz, none⟩) (u.toNat - l.toNat) (u.toNat - l.toNat), ⟨b :: G1, ⟨[_], ⟨hle, .inr ⟨b, off + l.toNat * t.sz, 0, G1, by rw [hlen]; rfl, rfl, c, T', z, p ++ c1, d1, d2 ++ q, hb, by rw [hcl, g1, k1]; simp, by rw [List.length_append, hp, l1], k3⟩⟩, rfl⟩, fun x hx => hF x (by
          rw [eF, g2, k2]
          rcases List.mem_cons.1 hx with h | h
          · rw [h]; simp
          · simp [h])⟩, fun w' _ => ?_⟩
      simp only [execOp, Instr.sliceAt, Instr.slice, Sem.run_bind, run_underlying hu, Result.andThen_ok, hv', Option.map_some, hb', hs]
      simp [hz, addr_add]
theorem r_slice_v3m {T E : TypeId} {x : Operand} {t : Ty} {xs : List t.D} {lo : Option Operand} {ho mo : Operand} {k k' : IntKind} {l u : Int} (ys : List t.D) (hu : P.underlying T = some (.slice E)) (hs : ∀ w, (sizeOf E).run P w = .ok t.sz w) (hx : evO fr x = some (.v (.slice t) xs))
    (hlo : Lo fr lo l) (hhi : evO fr ho = some (.int k u)) (hmx : evO fr mo = some (.int k' u)) (h0 : 0 ≤ l) (h1 : l ≤ u) (h2 : u ≤ (xs.length : Int)) (hy : (xs.take u.toNat).drop l.toNat = ys) :
    Reads P ⟨dst, .slice T x lo (some ho) (some mo), ty, pos, aft, g⟩ fr H (.v (.slice t) ys) := by
  subst hy; exact r_slice_v3 hu hs hx hlo hhi hmx h0 h1 h2
end
end Go.GA
