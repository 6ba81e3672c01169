/- Small words for walks that are written by program. -/
import Derived.Test.YtcminfahdindnaaDoorGA14
namespace Go.GA
open Go Go.RowKit

theorem guard_some {α : Type} {c : Prop} [Decidable c] {m : Option α} {r : α} (h : (if c then m else none) = some r) : c ∧ m = some r := by
  by_cases hc : c
  · exact ⟨hc, by rwa [if_pos hc] at h⟩
  · rw [if_neg hc] at h; cases h
theorem bind_some {α β : Type} {m : Option α} {f : α → Option β} {r : β} (h : m.bind f = some r) : ∃ x, m = some x ∧ f x = some r := by
  cases m with
  | none => cases h
  | some x => exact ⟨x, rfl, h⟩

theorem wrap_id {n : Int} (h1 : -9223372036854775808 ≤ n) (h2 : n ≤ 9223372036854775807) : IntKind.i64.wrap n = n := by rw [IntKind.wrap_i64]; omega
theorem wrap_lo (n : Int) : -9223372036854775808 ≤ IntKind.i64.wrap n := by rw [IntKind.wrap_i64]; omega
theorem wrap_hi (n : Int) : IntKind.i64.wrap n ≤ 9223372036854775807 := by rw [IntKind.wrap_i64]; omega

section
variable {P : Program} {Γ : Ctx} {n : Sz} {Q : Exit → Act → World → Prop} {c : Code}
/-- a loop: d rounds at most are left -/
theorem al_ind0 (F : Fr) (G : Hp) (I : Nat → Prop) (round : ∀ d, I d → (∀ d', d' < d → I d' → AL P Γ n c Q F G) → AL P Γ n c Q F G) (d : Nat) (h : I d) : AL P Γ n c Q F G := by
  induction d using Nat.strongRecOn with
  | _ d ih => exact round d h (fun d' hd hI => ih d' hd hI)
theorem al_ind1 {α : Type} (F : α → Fr) (G : α → Hp) (I : Nat → α → Prop) (round : ∀ d x, I d x → (∀ d' x', d' < d → I d' x' → AL P Γ n c Q (F x') (G x')) → AL P Γ n c Q (F x) (G x)) (d : Nat) (x : α) (h : I d x) : AL P Γ n c Q (F x) (G x) := by
  induction d using Nat.strongRecOn generalizing x with
  | _ d ih => exact round d x h (fun d' x' hd hI => ih d' hd x' hI)
theorem al_ind2 {α β : Type} (F : α → β → Fr) (G : α → β → Hp) (I : Nat → α → β → Prop) (round : ∀ d x y, I d x y → (∀ d' x' y', d' < d → I d' x' y' → AL P Γ n c Q (F x' y') (G x' y')) → AL P Γ n c Q (F x y) (G x y)) (d : Nat) (x : α) (y : β) (h : I d x y) :
    AL P Γ n c Q (F x y) (G x y) := by
  induction d using Nat.strongRecOn generalizing x y with
  | _ d ih => exact round d x y h (fun d' x' y' hd hI => ih d' hd x' y' hI)
theorem al_ind3 {α β γ : Type} (F : α → β → γ → Fr) (G : α → β → γ → Hp) (I : Nat → α → β → γ → Prop) (round : ∀ d x y z, I d x y z → (∀ d' x' y' z', d' < d → I d' x' y' z' → AL P Γ n c Q (F x' y' z') (G x' y' z')) → AL P Γ n c Q (F x y z) (G x y z))
    (d : Nat) (x : α) (y : β) (z : γ) (h : I d x y z) : AL P Γ n c Q (F x y z) (G x y z) := by
  induction d using Nat.strongRecOn generalizing x y z with
  | _ d ih => exact round d x y z h (fun d' x' y' z' hd hI => ih d' hd x' y' z' hI)
theorem al_ind4 {α β γ δ : Type} (F : α → β → γ → δ → Fr) (G : α → β → γ → δ → Hp) (I : Nat → α → β → γ → δ → Prop) (round : ∀ d x y z u, I d x y z u → (∀ d' x' y' z' u', d' < d → I d' x' y' z' u' → AL P Γ n c Q (F x' y' z' u') (G x' y' z' u')) → AL P Γ n c Q (F x y z u) (G x y z u))
    (d : Nat) (x : α) (y : β) (z : γ) (u : δ) (h : I d x y z u) : AL P Γ n c Q (F x y z u) (G x y z u) := by
  induction d using Nat.strongRecOn generalizing x y z u with
  | _ d ih => exact round d x y z u h (fun d' x' y' z' u' hd hI => ih d' hd x' y' z' u' hI)
theorem al_ind5 {α β γ δ ε : Type} (F : α → β → γ → δ → ε → Fr) (G : α → β → γ → δ → ε → Hp) (I : Nat → α → β → γ → δ → ε → Prop) (round : ∀ d x y z u v, I d x y z u v → (∀ d' x' y' z' u' v', d' < d → I d' x' y' z' u' v' → AL P Γ n c Q (F x' y' z' u' v') (G x' y' z' u' v')) → AL P Γ n c Q (F x y z u v) (G x y z u v))
    (d : Nat) (x : α) (y : β) (z : γ) (u : δ) (v : ε) (h : I d x y z u v) : AL P Γ n c Q (F x y z u v) (G x y z u v) := by
  induction d using Nat.strongRecOn generalizing x y z u v with
  | _ d ih => exact round d x y z u v h (fun d' x' y' z' u' v' hd hI => ih d' hd x' y' z' u' v' hI)
end

/-! ### States, slot by slot -/
section
variable {P : Program} {n : Sz} {fr fr' : Fr} {H H' : Hp} {dst : Option Nat} {ty : TypeId} {pos : String} {aft : Array Edge} {g : Option (Nat × Bool)}
theorem ad_eq {σ : Nat → Nat} {x y z : AV} (h : Ad H H' σ x y) (e : y = z) : Ad H H' σ x z := e ▸ h
/-- the same names -/
def idn : Nat → Nat := fun i => i
/-- some names are turned -/
def rn : List (Nat × Nat) → Nat → Nat
  | [], i => i
  | (a, b) :: l, i => bif Nat.beq a i then b else rn l i

/-- an element in the midst of a list -/
theorem r_idxAddr_at {T E : TypeId} {x y : Operand} {t : Ty} {xs pre post : List t.D} {e : t.D} {k : IntKind} {i : Int} (hu : P.underlying T = some (.slice E)) (hs : ∀ w, (sizeOf E).run P w = .ok t.sz w) (hx : evO fr x = some (.v (.slice t) xs)) (hy : evO fr y = some (.int k i)) (hxs : xs = pre ++ e :: post) (hi : i = (pre.length : Int)) :
    Reads P ⟨dst, .indexAddr T x y, ty, pos, aft, g⟩ fr H (.cptr t e) := by subst hxs; exact r_idxAddr_mid hu hs hx hy hi
theorem r_index_at {T E : TypeId} {x y : Operand} {m : Nat} {t : Ty} {xs pre post : List t.D} {e : t.D} {k : IntKind} {i : Int} (hu : P.underlying T = some (.array m E)) (ha : ∀ w, (isAgg E).run P w = .ok t.agg w) (hs : ∀ w, (sizeOf E).run P w = .ok t.sz w)
    (hx : evO fr x = some (.v (.arr m t) xs)) (hy : evO fr y = some (.int k i)) (hxs : xs = pre ++ e :: post) (hi : i = (pre.length : Int)) : Reads P ⟨dst, .index T x y, ty, pos, aft, g⟩ fr H (ofTy t e) := by subst hxs; exact r_index_mid hu ha hs hx hy hi

/-! integers, told plainly -/
theorem r_index_int {T E : TypeId} {x y : Operand} {m : Nat} {q : IntKind} {xs : List Int} {k : IntKind} {i : Int} (hu : P.underlying T = some (.array m E)) (ha : ∀ w, (isAgg E).run P w = .ok false w) (hs : ∀ w, (sizeOf E).run P w = .ok 1 w)
    (hx : evO fr x = some (.v (.arr m (.int q)) xs)) (hy : evO fr y = some (.int k i)) (hl : xs.length = m) (h0 : 0 ≤ i) (h1 : i < (m : Int)) : Reads P ⟨dst, .index T x y, ty, pos, aft, g⟩ fr H (.int q (xs.getD i.toNat 0)) :=
  r_index (t := .int q) hu ha hs hx hy hl h0 h1
theorem r_load_c_int {T : TypeId} {x : Operand} {q : IntKind} {y : Int} (ha : ∀ w, (isAgg T).run P w = .ok false w) (hs : ∀ w, (sizeOf T).run P w = .ok 1 w) (hx : evO fr x = some (.cptr (.int q) y)) : Reads P ⟨dst, .load T x, ty, pos, aft, g⟩ fr H (.int q y) :=
  r_load_c (t := .int q) ha hs hx
theorem r_load_elem_int {T : TypeId} {x : Operand} {id off i : Nat} {q : IntKind} {xs : List Int} (ha : ∀ w, (isAgg T).run P w = .ok false w) (hs : ∀ w, (sizeOf T).run P w = .ok 1 w) (hx : evO fr x = some (.elem id off 1 i)) (he : elemsAt H id off = some ⟨.int q, xs⟩) (hi : i < xs.length) :
    Reads P ⟨dst, .load T x, ty, pos, aft, g⟩ fr H (.int q (xs.getD i 0)) := r_load_elem (t := .int q) rfl ha hs hx he hi
theorem r_idxAddr_int {T E : TypeId} {x y : Operand} {q : IntKind} {xs : List Int} {k : IntKind} {i : Int} (hu : P.underlying T = some (.slice E)) (hs : ∀ w, (sizeOf E).run P w = .ok 1 w) (hx : evO fr x = some (.v (.slice (.int q)) xs)) (hy : evO fr y = some (.int k i)) (h0 : 0 ≤ i) (h1 : i < (xs.length : Int)) :
    Reads P ⟨dst, .indexAddr T x y, ty, pos, aft, g⟩ fr H (.cptr (.int q) (xs.getD i.toNat 0)) := r_idxAddr (t := .int q) hu hs hx hy h0 h1
theorem e_store_elem_int {T : TypeId} {x y : Operand} {id off i : Nat} {q : IntKind} {xs : List Int} {e : Int} {B B' : Blk} (hs : ∀ w, (sizeOf T).run P w = .ok 1 w) (hx : evO fr x = some (.elem id off 1 i)) (hy : evO fr y = some (.int q e)) (hg : hget H id = some B) (he : elemsAt H id off = some ⟨.int q, xs⟩) (hi : i < xs.length)
    (hB : blkSet B off (.int q) (xs.set i e) = B') : EffS P n ⟨none, .store T x y, ty, pos, aft, g⟩ fr H fr (hset H id B') := by subst hB; exact e_store_elem (t := .int q) rfl hs hx hy hg he hi
/-- the length of an own array is what its type says -/
theorem arr_len {Γ : Ctx} {all : Array Oper} {Q : Exit → Act → World → Prop} {ops : List Oper} {id off m : Nat} {t : Ty} {xs : List t.D} {cs : List Comp} (hg : hget H id = some (.var cs)) (hc : compAt cs off = some (.arr t m xs)) (h : xs.length = m → AO P Γ n all Q ops fr H) : AO P Γ n all Q ops fr H := fun ρ w a s => by
  obtain ⟨ℓ, hL, _⟩ := s.heap
  obtain ⟨b, k, c, T, F, _, _, hcs, _⟩ := hL.get hg
  obtain ⟨p, m', q, F', _, _, ⟨c1, c2, F1, F2, _, _, h1, _⟩, _⟩ := comps_at hcs hc
  exact h h1.1 ρ w a s
/-- the length of an array that is a value -/
theorem arr_len_v {Γ : Ctx} {c : Code} {Q : Exit → Act → World → Prop} {t' m : Nat} {t : Ty} {xs : List t.D} (hx : get fr t' = some (.v (.arr m t) xs)) (h : xs.length = m → AW P Γ n c Q fr H) : AW P Γ n c Q fr H := fun ρ w a s => by
  obtain ⟨F, h1, _⟩ := (s.fr t' _ hx).2
  exact h (rv_arr h1).choose_spec.2.1 ρ w a s
/-- slices are not too long -/
theorem sl_len_v {Γ : Ctx} {c : Code} {Q : Exit → Act → World → Prop} {t' : Nat} {t : Ty} {xs : List t.D} (hx : get fr t' = some (.v (.slice t) xs)) (h : (xs.length : Int) ≤ 9223372036854775807 → AW P Γ n c Q fr H) : AW P Γ n c Q fr H := fun ρ w a s => by
  obtain ⟨F, ⟨cs, ⟨hl, _⟩, _⟩, _⟩ := (s.fr t' _ hx).2
  refine h ?_ ρ w a s
  simp only [lim] at hl; omega
end
end Go.GA
