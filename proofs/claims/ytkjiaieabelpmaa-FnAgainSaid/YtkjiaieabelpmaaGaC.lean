/- Small words for walks that are written by program. -/
import Derived.Test.YtkjiaieabelpmaaGaB
import Derived.WalkKit
import Derived.ProofKit
import Derived.OpenShut
import Derived.ShutString
import Derived.ChangeOld
import Derived.Below
section
namespace Go.GA
open Go Go.RowKit

theorem guard_some {α : Type} {c : Prop} [Decidable c] {m : Option α} {r : α} (h : (if c then m else none) = some r) : c ∧ m = some r := by
  by_cases hc : c
  · exact ⟨hc, by rwa [if_pos hc] at h⟩
  · rw [if_neg hc] at h; cases h
theorem bind_some {α β : Type} {m : Option α} {f : α → Option β} {r : β} (h : m.bind f = some r) : ∃ x, m = some x ∧ f x = some r := by
  cases m with
  | none => cases h
  | some x => exact ⟨x, rfl, h⟩

theorem wrap_id {n : Int} (h1 : -9223372036854775808 ≤ n) (h2 : n ≤ 9223372036854775807) : IntKind.i64.wrap n = n := by rw [IntKind.wrap_i64]; omega
section
variable {P : Program} {Γ : Ctx} {n : Sz} {Q : Exit → Act → World → Prop} {c : Code}
end

/-! ### States, slot by slot -/
section
variable {P : Program} {n : Sz} {fr fr' : Fr} {H H' : Hp} {dst : Option Nat} {ty : TypeId} {pos : String} {aft : Array Edge} {g : Option (Nat × Bool)}
/-- the same names -/
def idn : Nat → Nat := fun i => i
/-- some names are turned -/
def rn : List (Nat × Nat) → Nat → Nat
  | [], i => i
  | (a, b) :: l, i => bif Nat.beq a i then b else rn l i

/-! integers, told plainly -/
theorem r_load_c_int {T : TypeId} {x : Operand} {q : IntKind} {y : Int} (ha : ∀ w, (isAgg T).run P w = .ok false w) (hs : ∀ w, (sizeOf T).run P w = .ok 1 w) (hx : evO fr x = some (.cptr (.int q) y)) : Reads P ⟨dst, .load T x, ty, pos, aft, g⟩ fr H (.int q y) :=
  r_load_c (t := .int q) ha hs hx
theorem r_load_elem_int {T : TypeId} {x : Operand} {id off i : Nat} {q : IntKind} {xs : List Int} (ha : ∀ w, (isAgg T).run P w = .ok false w) (hs : ∀ w, (sizeOf T).run P w = .ok 1 w) (hx : evO fr x = some (.elem id off 1 i)) (he : elemsAt H id off = some ⟨.int q, xs⟩) (hi : i < xs.length) :
    Reads P ⟨dst, .load T x, ty, pos, aft, g⟩ fr H (.int q (xs.getD i 0)) := r_load_elem (t := .int q) rfl ha hs hx he hi
theorem r_idxAddr_int {T E : TypeId} {x y : Operand} {q : IntKind} {xs : List Int} {k : IntKind} {i : Int} (hu : P.underlying T = some (.slice E)) (hs : ∀ w, (sizeOf E).run P w = .ok 1 w) (hx : evO fr x = some (.v (.slice (.int q)) xs)) (hy : evO fr y = some (.int k i)) (h0 : 0 ≤ i) (h1 : i < (xs.length : Int)) :
    Reads P ⟨dst, .indexAddr T x y, ty, pos, aft, g⟩ fr H (.cptr (.int q) (xs.getD i.toNat 0)) := r_idxAddr (t := .int q) hu hs hx hy h0 h1
theorem e_store_elem_int {T : TypeId} {x y : Operand} {id off i : Nat} {q : IntKind} {xs : List Int} {e : Int} {B B' : Blk} (hs : ∀ w, (sizeOf T).run P w = .ok 1 w) (hx : evO fr x = some (.elem id off 1 i)) (hy : evO fr y = some (.int q e)) (hg : hget H id = some B) (he : elemsAt H id off = some ⟨.int q, xs⟩) (hi : i < xs.length)
    (hB : blkSet B off (.int q) (xs.set i e) = B') : EffS P n ⟨none, .store T x y, ty, pos, aft, g⟩ fr H fr (hset H id B') := by subst hB; exact e_store_elem (t := .int q) rfl hs hx hy hg he hi
/-- slices are not too long -/
theorem sl_len_v {Γ : Ctx} {c : Code} {Q : Exit → Act → World → Prop} {t' : Nat} {t : Ty} {xs : List t.D} (hx : get fr t' = some (.v (.slice t) xs)) (h : (xs.length : Int) ≤ 9223372036854775807 → AW P Γ n c Q fr H) : AW P Γ n c Q fr H := fun ρ w a s => by
  obtain ⟨F, ⟨cs, ⟨hl, _⟩, _⟩, _⟩ := (s.fr t' _ hx).2
  refine h ?_ ρ w a s
  simp only [lim] at hl; omega
end
end Go.GA
end
section
namespace Go.GA
open Go Go.RowKit

/-- 'a is r', told so that arithmetic does not look at it -/
def Is {α : Type} (a r : α) : Prop := a = r
theorem is_mk {α : Type} {a r : α} (h : a = r) : Is a r := h
theorem is_eq {α : Type} {a r : α} (h : Is a r) : a = r := h
theorem is_some {α : Type} {a r : α} (h : Is (some a) (some r)) : a = r := Option.some.inj h
theorem is_if {α : Type} {c : Prop} {_ : Decidable c} {a b r : α} (hc : c) (h : Is (if c then a else b) r) : Is a r := (if_pos hc).symm.trans h
theorem is_else {α : Type} {c : Prop} {_ : Decidable c} {a b r : α} (hc : ¬ c) (h : Is (if c then a else b) r) : Is b r := (if_neg hc).symm.trans h
theorem is_guard {α : Type} {c : Prop} {_ : Decidable c} {m : Option α} {r : α} (h : Is (if c then m else none) (some r)) : c ∧ Is m (some r) := guard_some h
theorem is_bind {α β : Type} {m : Option α} {f : α → Option β} {r : β} (h : Is (m.bind f) (some r)) : ∃ x, m = some x ∧ Is (f x) (some r) := bind_some h

/-- d rounds, counted by i -/
def cnt {S R : Type} (f : Int → S → (S → R) → (Int → S → R) → R) (k : Int → S → R) : Nat → Int → S → R
  | 0, i, s => k i s
  | d + 1, i, s => f i s (fun s' => cnt f k d (i + 1) s') k
/-- rounds, as long as there is fuel -/
def whl {S R : Type} (f : S → (S → Option R) → Option R) : Nat → S → Option R
  | 0, _ => none
  | d + 1, s => f s (fun s' => whl f d s')
/-- several ways on to the same place -/
def jn {S R : Type} (k : S → R) (f : (S → R) → R) : R := f k

theorem is_cnt0 {S R : Type} {f : Int → S → (S → R) → (Int → S → R) → R} {k : Int → S → R} {i : Int} {s : S} {r : R} (h : Is (cnt f k 0 i s) r) : Is (k i s) r := h
theorem is_cntS {S R : Type} {f : Int → S → (S → R) → (Int → S → R) → R} {k : Int → S → R} {d : Nat} {i : Int} {s : S} {r : R} (h : Is (cnt f k (d + 1) i s) r) : Is (f i s (fun s' => cnt f k d (i + 1) s') k) r := h
theorem is_whlS {S R : Type} {f : S → (S → Option R) → Option R} {d : Nat} {s : S} {r : Option R} (h : Is (whl f (d + 1) s) r) : Is (f s (fun s' => whl f d s')) r := h

section
variable {P : Program} {Γ : Ctx} {n : Sz} {Q : Exit → Act → World → Prop} {c rest : Code}
theorem al_cnt {S R : Type} {f : Int → S → (S → R) → (Int → S → R) → R} {k : Int → S → R} {r : R} (F : Int → S → Fr) (G : Int → S → Hp) (I : Nat → Int → S → Prop) {d : Nat} {i : Int} {s : S} (h : Is (cnt f k d i s) r) (hI : I d i s)
    (round : ∀ d i s, I d i s → Is (cnt f k d i s) r → (∀ d' i' s', d' < d → I d' i' s' → Is (cnt f k d' i' s') r → AL P Γ n c Q (F i' s') (G i' s')) → AL P Γ n c Q (F i s) (G i s)) : AL P Γ n c Q (F i s) (G i s) := by
  induction d using Nat.strongRecOn generalizing i s with
  | _ d ih => exact round d i s hI h (fun d' i' s' hd hI' h' => ih d' hd h' hI')
theorem al_whl {S R : Type} {f : S → (S → Option R) → Option R} {r : R} (F : S → Fr) (G : S → Hp) (I : S → Prop) {d : Nat} {s : S} (h : Is (whl f d s) (some r)) (hI : I s)
    (round : ∀ d s, I s → Is (whl f (d + 1) s) (some r) → (∀ s', I s' → Is (whl f d s') (some r) → AL P Γ n c Q (F s') (G s')) → AL P Γ n c Q (F s) (G s)) : AL P Γ n c Q (F s) (G s) := by
  induction d generalizing s with
  | zero => cases h
  | succ d ih => exact round d s hI h (fun s' hI' h' => ih h' hI')
/-- a piece of code that is left on several ways -/
theorem aw_join {S R : Type} {k : S → R} {f : (S → R) → R} {r : R} {fr : Fr} {H : Hp} (F : S → Fr) (G : S → Hp) (I : S → Prop) (h : Is (jn k f) r) (hrest : ∀ s, I s → Is (k s) r → AW P Γ n rest Q (F s) (G s))
    (hbr : Is (f k) r → (∀ s, I s → Is (k s) r → AW P Γ n rest Q (F s) (G s)) → AW P Γ n c (Exit.then (rest.wp P Q) Q) fr H) : AW P Γ n (c.seq rest) Q fr H := aw_seq (hbr h hrest)
end

/-! ### Numbers without overflow -/
section
variable {P : Program} {fr : Fr} {H : Hp} {dst : Option Nat} {ty : TypeId} {pos : String} {aft : Array Edge} {g : Option (Nat × Bool)} {xT yT : TypeId} {x y : Operand} {a b : Int} {k : IntKind}
theorem r_addI (hx : evO fr x = some (.int k a)) (hy : evO fr y = some (.int k b)) (h : k.wrap (a + b) = a + b) : Reads P ⟨dst, .binOp .add xT x y yT, ty, pos, aft, g⟩ fr H (.int k (a + b)) := by
  have := r_add (P := P) (H := H) (dst := dst) (ty := ty) (pos := pos) (aft := aft) (g := g) (xT := xT) (yT := yT) hx hy; rwa [h] at this
theorem r_subI (hx : evO fr x = some (.int k a)) (hy : evO fr y = some (.int k b)) (h : k.wrap (a - b) = a - b) : Reads P ⟨dst, .binOp .sub xT x y yT, ty, pos, aft, g⟩ fr H (.int k (a - b)) := by
  have := r_sub (P := P) (H := H) (dst := dst) (ty := ty) (pos := pos) (aft := aft) (g := g) (xT := xT) (yT := yT) hx hy; rwa [h] at this
end
theorem and_t {a b : Bool} (h : (a && b) = true) : a = true ∧ b = true := by simpa using h
theorem or_f {a b : Bool} (h : (a || b) = false) : a = false ∧ b = false := by simpa using h
theorem not_t {a : Bool} (h : (!a) = true) : a = false := by simpa using h
theorem not_f {a : Bool} (h : (!a) = false) : a = true := by simpa using h
theorem d_t {p : Prop} {_ : Decidable p} (h : decide p = true) : p := of_decide_eq_true h
theorem d_f {p : Prop} {_ : Decidable p} (h : decide p = false) : ¬ p := of_decide_eq_false h
theorem nk {n : Sz} (h : n.K = 0) {σ : Nat → Nat} : ∀ i, i < n.K → σ i = i := fun i hi => absurd hi (by omega)

/-! ### Results -/
section
variable {P : Program} {Γ : Ctx} {n : Sz} {fr fr' : Fr} {H H' : Hp} {fn : Func} {R : AV → Hp → Prop}
def ResL (P : Program) (fr : Fr) (H : Hp) : List ResultVar → List AV → Prop
  | [], [] => True
  | .tmp t :: l, x :: xs => get fr t = some x ∧ ResL P fr H l xs
  | .cell t T :: l, x :: xs => ((∃ id off, get fr t = some (.ref id off)) ∧ Reads P ⟨some 0, .load T (.tmp t), 0, "", #[], none⟩ fr H x) ∧ ResL P fr H l xs
  | _, _ => False
def oneRes (tmps : Array Value) : ResultVar → Sem Value
  | .tmp t => pure (tmps.getD t undef)
  | .cell a t => do loadVar t (← asAddr (tmps.getD a undef))
theorem resL_one {l : List ResultVar} {rv : ResultVar} {x : AV} {xs : List AV} {ρ : Rho} {w : World} {a : Act} (s : SIM Γ n ρ w a fr H) (h : ResL P fr H (rv :: l) (x :: xs)) :
    (∃ v, RA ρ (World.hf w) (ownB ρ H) x v ∧ (oneRes a.tmps rv).run P w = .ok v w) ∧ ResL P fr H l xs := by
  cases rv with
  | tmp t => exact ⟨⟨_, (s.fr t x h.1).2, rfl⟩, h.2⟩
  | cell t T =>
    obtain ⟨⟨⟨id, off, hg⟩, hr⟩, hl⟩ := h
    obtain ⟨v, h1, h2⟩ := hr Γ n ρ w a s
    refine ⟨⟨v, h1, ?_⟩, hl⟩
    have h3 := h2 w (Kept.refl w)
    obtain ⟨b, k, hρ, e⟩ := (s.fr t _ hg).2
    have e' : a.eval (.tmp t) = .pointer (some ⟨b, off, none⟩) := e
    simp only [execOp, Instr.loadAt, Instr.sureAddr, e', Sem.run_bind, Sem.run_pure, Result.andThen_ok] at h3
    simp only [oneRes, e, asAddr, Sem.run_bind, Sem.run_pure, Result.andThen_ok]
    cases hh : (loadVar T ⟨b, off, none⟩).run P w with
    | ok u w' => rw [hh] at h3; simpa using h3
    | halt h w' => rw [hh] at h3; simp at h3
theorem resL_run {ρ : Rho} {w : World} {a : Act} (s : SIM Γ n ρ w a fr H) : ∀ {l : List ResultVar} {xs : List AV}, ResL P fr H l xs → ∃ vs, RAs ρ (World.hf w) (ownB ρ H) xs vs ∧ (l.mapM (oneRes a.tmps)).run P w = .ok vs w
  | [], [], _ => ⟨[], rfl, rfl⟩
  | rv :: l, x :: xs, h => by
    obtain ⟨⟨v, h1, h2⟩, h3⟩ := resL_one s h
    obtain ⟨vs, h4, h5⟩ := resL_run s h3
    exact ⟨v :: vs, ⟨v, vs, rfl, h1, h4⟩, by simp [List.mapM_cons, Sem.run_bind, h2, h5]⟩
  | [], _ :: _, h => h.elim
  | .tmp _ :: _, [], h => h.elim
  | .cell _ _ :: _, [], h => h.elim
theorem results_run {a : Act} {w : World} {l : List ResultVar} {vs : List Value} (hl : fn.results = l.toArray) (h : (l.mapM (oneRes a.tmps)).run P w = .ok vs w) :
    (results fn a.tmps).run P w = .ok (if hh : vs.length = 1 then vs[0] else .tuple vs.toArray) w := by
  have e : results fn a.tmps = (do let vs ← fn.results.mapM (oneRes a.tmps); pure (if h : vs.size = 1 then vs[0] else .tuple vs)) := by
    rfl
  rw [e, hl, List.mapM_toArray]
  simp only [Sem.run_bind, map_eq_pure_bind, h, Result.andThen_ok, Sem.run_pure]
  simp
def tupAV : List AV → AV
  | [x] => x
  | xs => .tup xs
theorem tup_ra {ρ : Rho} {h : Hf} {M : Nat → Prop} {xs : List AV} {vs : List Value} (hx : RAs ρ h M xs vs) : RA ρ h M (tupAV xs) (if hh : vs.length = 1 then vs[0] else .tuple vs.toArray) := by
  match xs, hx with
  | [], hx => simp only [RAs] at hx; subst hx; exact ⟨[], rfl, rfl⟩
  | [x], ⟨v, vs', e, h1, h2⟩ => simp only [RAs] at h2; subst h2; subst e; exact h1
  | x :: y :: xs, hx =>
    have hx' := hx
    obtain ⟨v, vs', e, h1, v', vs'', e', h2, h3⟩ := hx
    subst e'; subst e
    have : ¬ (v :: v' :: vs'').length = 1 := by simp
    rw [dif_neg this]
    exact ⟨_, rfl, hx'⟩
theorem aq_finV {l : List ResultVar} {xs : List AV} (σ : Nat → Nat) (ys : List AV) (H' : Hp) (hl : fn.results = l.toArray) (hr : ResL P fr H l xs) (hA : Ads H H' σ xs ys) (hS : SubH H H' σ H') (hi : injB σ (hkeys H') = true) (hK : ∀ i, i < n.K → σ i = i)
    (hR : R (tupAV ys) H') : AQ Γ n (Fin P Γ n fn R) fr H := by
  intro ρ w a s
  obtain ⟨ℓ, hk, hb⟩ := s.heap
  obtain ⟨hm0, hm, hd, hk'⟩ := heap_sub hk (s.apart hb) hS hi
  obtain ⟨vs, h1, h2⟩ := resL_run s hr
  have h3 := ads_ok hk hm hd hA h1
  refine ⟨s.defers.1, _, _, H', ρ.map σ, _, results_run hl h2, hR, fun i hi => by show ρ (σ i) = _; rw [hK i hi]; exact s.keep i hi, s.ext, hk', ?_, fun b hb' => s.own b (hm0 b hb'), tup_ra h3, s.defers.2.1⟩
  rintro b ⟨e, he, hb'⟩
  obtain ⟨A, hA, _⟩ := subH_mem hS he
  exact hb _ (hget_mem hA) b hb'
theorem aq_finx {l : List ResultVar} {xs : List AV} (σ : Nat → Nat) (ys : List AV) (H' : Hp) (hl : fn.results = l.toArray) (hr : ResL P fr H l xs) (hA : Ads H H' σ xs ys) (hS : SubH H H' σ H') (hi : injB σ (hkeys H') = true) (hK : ∀ i, i < n.K → σ i = i)
    (hres : (tupAV ys).res = true) (hh : heapRes H' = true) (hR : R (tupAV ys) H') : AQ Γ n (Fin P Γ n fn (WithRes R)) fr H := aq_finV σ ys H' hl hr hA hS hi hK ⟨hR, hres, hh⟩
end
end Go.GA
end
section
namespace Go.GA
open Go Go.RowKit
theorem ne_t {b : Bool} (h : b = false) : ¬ (b = true) := by rw [h]; exact Bool.false_ne_true
theorem isSome_getD {α : Type} {m : Option α} {d : α} (h : m.isSome = true) : m = some (m.getD d) := by
  cases m with
  | none => cases h
  | some x => rfl
section
variable {P : Program} {n : Sz} {fr : Fr} {H : Hp} {dst : Option Nat} {ty : TypeId} {pos : String} {aft : Array Edge} {g : Option (Nat × Bool)}
theorem arr_len' {Γ : Ctx} {ρ : Rho} {w : World} {a : Act} (s : SIM Γ n ρ w a fr H) {id off m : Nat} {t : Ty} {xs : List t.D} {cs : List Comp} (hg : hget H id = some (.var cs)) (hc : compAt cs off = some (.arr t m xs)) : xs.length = m := by
  obtain ⟨ℓ, hL, _⟩ := s.heap
  obtain ⟨b, k, c, T, F, _, _, hcs, _⟩ := hL.get hg
  obtain ⟨p, m', q, F', _, _, ⟨c1, c2, F1, F2, _, _, h1, _⟩, _⟩ := comps_at hcs hc
  exact h1.1
theorem elemsAt_var {id off m : Nat} {t : Ty} {xs : List t.D} {cs : List Comp} (hg : hget H id = some (.var cs)) (hc : compAt cs off = some (.arr t m xs)) : elemsAt H id off = some ⟨t, xs⟩ := by
  simp only [elemsAt, hg, hc]
theorem r_load_elema {T : TypeId} {x : Operand} {id off m i : Nat} {t : Ty} {xs : List t.D} {cs : List Comp} (hf : t.flat = true) (ha : ∀ w, (isAgg T).run P w = .ok t.agg w) (hs : ∀ w, (sizeOf T).run P w = .ok t.sz w)
    (hx : evO fr x = some (.elem id off t.sz i)) (hg : hget H id = some (.var cs)) (hc : compAt cs off = some (.arr t m xs)) (hi : i < m) :
    Reads P ⟨dst, .load T x, ty, pos, aft, g⟩ fr H (ofTy t (xs.getD i t.dflt)) := fun Γ n ρ w a s =>
  r_load_elem hf ha hs hx (elemsAt_var hg hc) (by rw [arr_len' s hg hc]; exact hi) Γ n ρ w a s
theorem r_load_elema_int {T : TypeId} {x : Operand} {id off m i : Nat} {q : IntKind} {xs : List Int} {cs : List Comp} (ha : ∀ w, (isAgg T).run P w = .ok false w) (hs : ∀ w, (sizeOf T).run P w = .ok 1 w)
    (hx : evO fr x = some (.elem id off 1 i)) (hg : hget H id = some (.var cs)) (hc : compAt cs off = some (.arr (.int q) m xs)) (hi : i < m) :
    Reads P ⟨dst, .load T x, ty, pos, aft, g⟩ fr H (.int q (xs.getD i 0)) := r_load_elema (t := .int q) rfl ha hs hx hg hc hi
theorem e_store_elema {T : TypeId} {x y : Operand} {id off m i : Nat} {t : Ty} {xs : List t.D} {e : t.D} {cs : List Comp} {B' : Blk} (hf : t.flat = true) (hs : ∀ w, (sizeOf T).run P w = .ok t.sz w)
    (hx : evO fr x = some (.elem id off t.sz i)) (hy : evO fr y = some (ofTy t e)) (hg : hget H id = some (.var cs)) (hc : compAt cs off = some (.arr t m xs)) (hi : i < m) (hB : Blk.var (compsSet cs off t (xs.set i e)) = B') :
    EffS P n ⟨none, .store T x y, ty, pos, aft, g⟩ fr H fr (hset H id B') := fun Γ ρ w a s => by
  subst hB
  exact e_store_elem (B := .var cs) hf hs hx hy hg (elemsAt_var hg hc) (by rw [arr_len' s hg hc]; exact hi) Γ ρ w a s
theorem e_store_elema_int {T : TypeId} {x y : Operand} {id off m i : Nat} {q : IntKind} {xs : List Int} {e : Int} {cs : List Comp} {B' : Blk} (hs : ∀ w, (sizeOf T).run P w = .ok 1 w)
    (hx : evO fr x = some (.elem id off 1 i)) (hy : evO fr y = some (.int q e)) (hg : hget H id = some (.var cs)) (hc : compAt cs off = some (.arr (.int q) m xs)) (hi : i < m) (hB : Blk.var (compsSet cs off (.int q) (xs.set i e)) = B') :
    EffS P n ⟨none, .store T x y, ty, pos, aft, g⟩ fr H fr (hset H id B') := e_store_elema (t := .int q) rfl hs hx hy hg hc hi hB
theorem r_idxAddr_ca {T E : TypeId} {x y : Operand} {m : Nat} {t : Ty} {xs : List t.D} {k : IntKind} {i : Int} (hu : P.underlying T = some (.array m E)) (hs : ∀ w, (sizeOf E).run P w = .ok t.sz w)
    (hx : evO fr x = some (.cptr (.arr m t) xs)) (hy : evO fr y = some (.int k i)) (h0 : 0 ≤ i) (h1 : i < (m : Int)) :
    Reads P ⟨dst, .indexAddr T x y, ty, pos, aft, g⟩ fr H (.cptr t (xs.getD i.toNat t.dflt)) := fun Γ n ρ w a s => by
  obtain ⟨b, off, F, c, T', z, pre, mid, post, _, _, _, _, _, h6, _⟩ := s.ev hx
  exact r_idxAddr_c hu hs hx hy h6.1 h0 h1 Γ n ρ w a s
theorem ad_os0 {σ : Nat → Nat} {id : Nat} {t : Ty} {xs : List t.D} (hg : hget H id = some (.row t xs)) : Ad H [] σ (.os id) (.v (.slice t) xs) := ad_os hg (by simp)
theorem ad_fn {H' : Hp} {σ : Nat → Nat} {f : FuncId} {cs ds : List AV} (h : Ads H H' σ cs ds) : Ad H H' σ (.fn f cs) (.fn f ds) := fun ρ h' ℓ hk hm hd v hx => by
  obtain ⟨vs, e, h1⟩ := hx
  exact ⟨vs, e, ads_ok hk hm hd h h1⟩
theorem ra_zero_arr {t : Ty} {m : Nat} {ρ : Rho} {h : Hf} {M : Nat → Prop} {z : Value} (hz : z = .agg ((List.replicate m (zc t)).flatten).toArray) : RA ρ h M (.v (.arr m t) (List.replicate m t.dflt)) z := by
  subst hz
  exact ⟨[], ⟨_, zc_ok h (.arr m t), rfl⟩, by simp⟩
end
end Go.GA
namespace Go.GA
open Go Go.RowKit
section
variable {P : Program} {n : Sz} {fr : Fr} {H : Hp} {dst : Option Nat} {ty : TypeId} {pos : String} {aft : Array Edge} {g : Option (Nat × Bool)}
theorem r_len_vm {T E : TypeId} {x : Operand} {t : Ty} {xs : List t.D} (m : Int) (hu : P.underlying T = some (.slice E)) (hx : evO fr x = some (.v (.slice t) xs)) (hm : (xs.length : Int) = m) :
    Reads P ⟨dst, .call ⟨.builtin .len, #[x], #[T]⟩, ty, pos, aft, g⟩ fr H (.int .i64 m) := by subst hm; exact r_len_v hu hx
theorem r_len_osm {T E : TypeId} {x : Operand} {id : Nat} {t : Ty} {xs : List t.D} (m : Int) (hu : P.underlying T = some (.slice E)) (hx : evO fr x = some (.os id)) (hg : hget H id = some (.row t xs)) (hm : (xs.length : Int) = m) :
    Reads P ⟨dst, .call ⟨.builtin .len, #[x], #[T]⟩, ty, pos, aft, g⟩ fr H (.int .i64 m) := by subst hm; exact r_len_os hu hx hg
theorem sl_len_m {Γ : Ctx} {c : Code} {Q : Exit → Act → World → Prop} (t' : Nat) {t : Ty} {xs : List t.D} (m : Int) (hx : get fr t' = some (.v (.slice t) xs)) (hm : (xs.length : Int) = m) (h : m ≤ 9223372036854775807 → AW P Γ n c Q fr H) : AW P Γ n c Q fr H := by
  subst hm; exact sl_len_v hx h
end
end Go.GA
namespace Go.GA
open Go Go.RowKit
section
variable {P : Program} {n : Sz} {fr : Fr} {H : Hp} {dst : Option Nat} {ty : TypeId} {pos : String} {aft : Array Edge} {g : Option (Nat × Bool)}
theorem tr_and {a b : Bool} (h : a = true) : (a && b) = b := by rw [h]; rfl
theorem r_andBg {c x : Operand} {a b q : Bool} (hc : evO fr c = some (.bool a)) (hx : evO fr x = some (.gd q (.bool b))) (hq : q = a) :
    Reads P ⟨dst, .pick c x (.const (.bool false)), ty, pos, aft, g⟩ fr H (.bool (a && b)) := by subst hq; exact r_andB hc hx
end
end Go.GA
namespace Go.GA
open Go Go.RowKit
section
variable {P : Program} {n : Sz} {fr : Fr} {H : Hp} {dst : Option Nat} {ty : TypeId} {pos : String} {aft : Array Edge} {g : Option (Nat × Bool)}
/-- an own cell, looked at from where it is not written -/
theorem ad_refc {H' : Hp} {σ : Nat → Nat} {id off : Nat} {x y : AV} {cs : List Comp} (hg : hget H id = some (.var cs)) (hc : compAt cs off = some (.cell x)) (ha : Ad H H' σ x y) (h1 : y.one = true) (hn : memB id ((hkeys H').map σ) = false) : Ad H H' σ (.ref id off) (.cav y) := fun ρ h ℓ hk hm hd v hx => by
  obtain ⟨b, k, hρ, rfl⟩ := hx
  have hmem := hget_mem hg
  obtain ⟨b', k', c, T, F, h1', h2, h3, e⟩ := hk.get hg
  rw [hρ] at h1'
  obtain ⟨rfl, rfl⟩ : b = b' ∧ k = k' := by simpa using h1'
  obtain ⟨p, m, q, F', ec, hp, ⟨v, cs', em, h5, h6, h7, h8⟩, hF'⟩ := comps_at h3 hc
  subst h7
  subst em
  have hb : ¬ ownB (ρ.map σ) H' b := hd _ hmem (fun e' he' hh => memB_false hn (by have hh' : σ e'.1 = id := hh; rw [← hh', hkeys_eq, List.map_map]; exact List.mem_map.2 ⟨e', he', rfl⟩)) b (by rw [e]; simp)
  exact ⟨b, off, c, T, (0, 0), p, v, q, rfl, hb, h2, by simpa using ec, hp, h1, ha ρ h ℓ hk hm hd v h6⟩
theorem r_load_cav {T : TypeId} {x : Operand} {y : AV} (ha : ∀ w, (isAgg T).run P w = .ok false w) (hx : evO fr x = some (.cav y)) : Reads P ⟨dst, .load T x, ty, pos, aft, g⟩ fr H y := fun Γ n ρ w a s => by
  obtain ⟨b, off, c, T', z, pre, u, post, e, hb, hh, hc, hp, h1, hu⟩ := s.ev hx
  refine ⟨u, hu, fun w' hk => ?_⟩
  have := cell_at (mid := [u]) (kept_get hk hh) (by simpa using hc) 0 (by simp)
  simp [hp] at this
  simp [execOp, e, Instr.loadAt, Instr.sureAddr, Sem.run_bind, loadVar, ha, load, Sem.run, this]
end
end Go.GA
namespace Go.GA
open Go Go.RowKit
section
variable {H : Hp}
theorem ad_refc0 {σ : Nat → Nat} {id off : Nat} {x y : AV} {cs : List Comp} (hg : hget H id = some (.var cs)) (hc : compAt cs off = some (.cell x)) (ha : Ad H [] σ x y) (h1 : y.one = true) : Ad H [] σ (.ref id off) (.cav y) := ad_refc hg hc ha h1 rfl
theorem ad_viewa0 {σ : Nat → Nat} {id off m l len z : Nat} {t : Ty} {xs : List t.D} {cs : List Comp} (hz : t.sz = z) (hf : t.flat = true) (hg : hget H id = some (.var cs)) (hc : compAt cs off = some (.arr t m xs)) (hl : l + len ≤ m) (hm : Nat.ble len 1000000 = true) :
    Ad H [] σ (.view id off z l len) (.v (.slice t) ((xs.drop l).take len)) := fun ρ h ℓ hk hm' hd v hx => by
  subst hz
  obtain ⟨b', k', c, T, F, h1', h2, h3, e⟩ := hk.get hg
  obtain ⟨p, mm, q, F', ec, hp, ⟨c1, c2, F1, F2, em, _, h5, h6, _⟩, hF'⟩ := comps_at h3 hc
  refine ad_view hf (elemsAt_var hg hc) (by rw [h5.1]; exact hl) ?_ (by simp) ρ h ℓ hk hm' hd v hx
  have := Nat.le_of_ble_eq_true hm
  simp only [lim]; omega
theorem ad_viewf0 {σ : Nat → Nat} {id off m z : Nat} {t : Ty} {xs : List t.D} {cs : List Comp} (hz : t.sz = z) (hf : t.flat = true) (hg : hget H id = some (.var cs)) (hc : compAt cs off = some (.arr t m xs)) (hm : Nat.ble m 1000000 = true) :
    Ad H [] σ (.view id off z 0 m) (.v (.slice t) xs) := fun ρ h ℓ hk hm' hd v hx => by
  obtain ⟨b', k', c, T, F, h1', h2, h3, e⟩ := hk.get hg
  obtain ⟨p, mm, q, F', ec, hp, ⟨c1, c2, F1, F2, em, _, h5, h6, _⟩, hF'⟩ := comps_at h3 hc
  have := ad_viewa0 hz hf hg hc (l := 0) (len := m) (by omega) hm ρ h ℓ hk hm' hd v hx
  have e2 : (xs.drop 0).take m = xs := by rw [List.drop_zero, List.take_of_length_le (by rw [h5.1]; exact Nat.le_refl _)]
  rwa [e2] at this
end
end Go.GA
namespace Go.GA
open Go Go.RowKit
/-- d rounds, counted down by i -/
def cntd {S R : Type} (f : Int → S → (S → R) → (Int → S → R) → R) (k : Int → S → R) : Nat → Int → S → R
  | 0, i, s => k i s
  | d + 1, i, s => f i s (fun s' => cntd f k d (i - 1) s') k
theorem is_cntd0 {S R : Type} {f : Int → S → (S → R) → (Int → S → R) → R} {k : Int → S → R} {i : Int} {s : S} {r : R} (h : Is (cntd f k 0 i s) r) : Is (k i s) r := h
theorem is_cntdS {S R : Type} {f : Int → S → (S → R) → (Int → S → R) → R} {k : Int → S → R} {d : Nat} {i : Int} {s : S} {r : R} (h : Is (cntd f k (d + 1) i s) r) : Is (f i s (fun s' => cntd f k d (i - 1) s') k) r := h
/-- the loop is left by a condition that says more than that no round is left -/
theorem is_cntF {S R : Type} {f : Int → S → (S → R) → (Int → S → R) → R} {k : Int → S → R} {d : Nat} {i : Int} {s : S} {r : R} {p : Prop} [Decidable p] {b : (S → R) → R} (h : Is (cnt f k d i s) r) (hp : ¬ p) (hf : ∀ c, f i s c k = if p then b c else k i s) : Is (k i s) r := by
  cases d with
  | zero => exact h
  | succ d => have := is_cntS h; rw [hf, if_neg hp] at this; exact this
section
variable {P : Program} {Γ : Ctx} {n : Sz} {Q : Exit → Act → World → Prop} {c rest : Code} {fr : Fr} {H : Hp} {dst : Option Nat} {ty : TypeId} {pos : String} {aft : Array Edge} {g : Option (Nat × Bool)}
theorem al_cntd {S R : Type} {f : Int → S → (S → R) → (Int → S → R) → R} {k : Int → S → R} {r : R} (F : Int → S → Fr) (G : Int → S → Hp) (I : Nat → Int → S → Prop) {d : Nat} {i : Int} {s : S} (h : Is (cntd f k d i s) r) (hI : I d i s)
    (round : ∀ d i s, I d i s → Is (cntd f k d i s) r → (∀ d' i' s', d' < d → I d' i' s' → Is (cntd f k d' i' s') r → AL P Γ n c Q (F i' s') (G i' s')) → AL P Γ n c Q (F i s) (G i s)) : AL P Γ n c Q (F i s) (G i s) := by
  induction d using Nat.strongRecOn generalizing i s with
  | _ d ih => exact round d i s hI h (fun d' i' s' hd hI' h' => ih d' hd h' hI')
theorem r_slice_vm {T E : TypeId} {x : Operand} {t : Ty} {xs : List t.D} {lo hi : Option Operand} {l u : Int} (ys : List t.D) (hu : P.underlying T = some (.slice E)) (hs : ∀ w, (sizeOf E).run P w = .ok t.sz w) (hx : evO fr x = some (.v (.slice t) xs))
    (hlo : Lo fr lo l) (hhi : Hi fr (xs.length : Int) hi u) (h0 : 0 ≤ l) (h1 : l ≤ u) (h2 : u ≤ (xs.length : Int)) (hy : (xs.take u.toNat).drop l.toNat = ys) :
    Reads P ⟨dst, .slice T x lo hi none, ty, pos, aft, g⟩ fr H (.v (.slice t) ys) := by subst hy; exact r_slice_v hu hs hx hlo hhi h0 h1 h2
theorem sl_hi {α : Type} {xs : List α} {l : Nat} : (xs.take (xs.length : Int).toNat).drop l = xs.drop l := by simp
end
end Go.GA
end
section
namespace Go.GA
open Go Go.RowKit
section
variable {P : Program} {Γ : Ctx} {n : Sz} {Q : Exit → Act → World → Prop} {fr fr' : Fr} {H H' : Hp} {all : Array Oper} {ty : TypeId} {pos : String} {aft : Array Edge} {op : Op}

def FreshN (ρ : Rho) (H : Hp) (base : Nat) (w0 : World) : Prop := ∀ e ∈ H, base ≤ e.1 → ∀ b k, ρ e.1 = some (b, k) → w0.heap.size ≤ b
/-- in the midst of a region: names from base on were made in it -/
def AX (P : Program) (Γ : Ctx) (n : Sz) (all : Array Oper) (Q : Exit → Act → World → Prop) (m : Nat) (T : Act → World → Prop) (base : Nat) (f : Nat) (listed : Array Bool) (fr : Fr) (H : Hp) : Prop :=
  ∀ ρ w a w0, SIM Γ n ρ w a fr H → Kept w0 w → FreshN ρ H base w0 → wpAK P all Q m T w0 f listed a w
def AXO (P : Program) (Γ : Ctx) (n : Sz) (all : Array Oper) (Q : Exit → Act → World → Prop) (m : Nat) (T : Act → World → Prop) (base : Nat) (f : Nat) (listed : Array Bool) (fr : Fr) (H : Hp) (i : Nat) : Prop :=
  ∀ ρ w a w0, SIM Γ n ρ w a fr H → Kept w0 w → FreshN ρ H base w0 → Go.wpOp P all Q i (fun a' w'' => Kept w0 w'' ∧ wpAK P all Q m T w0 f (listed.setIfInBounds i true) a' w'') a w
def AXL (P : Program) (Γ : Ctx) (n : Sz) (all : Array Oper) (Q : Exit → Act → World → Prop) (m : Nat) (T : Act → World → Prop) (base : Nat) (f : Nat) (listed : Array Bool) (fr : Fr) (H : Hp) : List Nat → Prop
  | [] => True
  | i :: l => AXO P Γ n all Q m T base f listed fr H i ∧ AXL P Γ n all Q m T base f listed fr H l
variable {m f base : Nat} {T : Act → World → Prop} {listed : Array Bool}
theorem axl_mem : ∀ {l : List Nat} {i : Nat}, AXL P Γ n all Q m T base f listed fr H l → i ∈ l → AXO P Γ n all Q m T base f listed fr H i
  | j :: l, i, h, hi => by
    rcases List.mem_cons.1 hi with rfl | hi
    · exact h.1
    · exact axl_mem h.2 hi
theorem an_explore (base : Nat) (hH : allLt base (hkeys H) = true) (h : AX P Γ n all Q m T base f listed fr H) : AN P Γ n all Q m T f listed fr H := fun ρ w a s => h ρ w a w s (Kept.refl w) (fun e he hb b k _ => by
  have := allLt_lt hH e.1 (by rw [hkeys_eq]; exact List.mem_map_of_mem he)
  omega)
def altsB (all : Array Oper) (listed : Array Bool) (m : Nat) (l : List Nat) : Bool := ((Region.ready .any all listed).filter (Nat.blt · m)) == l && !l.isEmpty
theorem ax_all (l : List Nat) (hl : altsB all listed m l = true) (h : AXL P Γ n all Q m T base f listed fr H l) : AX P Γ n all Q m T base (f + 1) listed fr H := fun ρ w a w0 s hk hf w' hk' => by
  simp only [altsB, Bool.and_eq_true, beq_iff_eq] at hl
  have hmem : ∀ i, i ∈ Region.ready .any all listed → i < m → i ∈ l := fun i hi him => by
    rw [← hl.1]; exact List.mem_filter.2 ⟨hi, by simpa using him⟩
  constructor
  · cases l with
    | nil => simp at hl
    | cons j l =>
      have : j ∈ (Region.ready .any all listed).filter (Nat.blt · m) := by rw [hl.1]; simp
      obtain ⟨h1, h2⟩ := List.mem_filter.1 this
      exact ⟨j, h1, by simpa using h2⟩
  · intro i hi him
    exact axl_mem h (hmem i hi him) ρ w' a w0 (s.kept hk') (hk.trans hk') hf
theorem ax_done (hl : allB m listed = true) (h : AQ Γ n T fr H) : AX P Γ n all Q m T base 0 listed fr H := fun ρ w a w0 s _ _ =>
  ⟨fun j hj => by have := List.all_eq_true.1 hl j (List.mem_range.2 hj); exact this, fun w' hk => h ρ w' a (s.kept hk)⟩
theorem AX.sub (hs : Sub n fr H fr' H') (hb : ∀ ρ : Rho, True) (h : AQ Γ n T fr' H') (hl : allB m listed = true) : AX P Γ n all Q m T base 0 listed fr H := ax_done hl (h.sub hs)

theorem axo_stable (i : Nat) {o : Oper} {d : Nat} {x : AV} (hi : all[i]? = some o) (hod : o.dst = some d) (hd : Nat.blt d n.n = true)
    (hst : ∀ ρ w a, SIM Γ n ρ w a fr H → ∃ v, RA ρ (World.hf w) (ownB ρ H) x v ∧ Stable P all o v a w)
    (h : AX P Γ n all Q m T base f (listed.setIfInBounds i true) ((d, x) :: fr) H) : AXO P Γ n all Q m T base f listed fr H i := fun ρ w a w0 s hk hf => by
  obtain ⟨v, hv, hs⟩ := hst ρ w a s
  refine hs.wpOp hi (fun w' hk' => ⟨hk.trans hk', ?_⟩)
  have s' := (s.kept hk').put hd (hv.same x (fun _ _ => rfl) (fun b hb hb' => ⟨hk'.block b (hf_lt hb') (fun h => h), hb⟩))
  have := h ρ w' (a.put (some d) v) w0 s' (hk.trans hk') hf
  rwa [← hod] at this
theorem axo_read (i : Nat) {d : Nat} {g : Option (Nat × Bool)} {x : AV} (hi : all[i]? = some ⟨some d, op, ty, pos, aft, g⟩) (hg : gOK all fr g)
    (hr : Reads P ⟨some d, op, ty, pos, aft, g⟩ fr H x) (hd : Nat.blt d n.n = true) (h : AX P Γ n all Q m T base f (listed.setIfInBounds i true) ((d, x) :: fr) H) : AXO P Γ n all Q m T base f listed fr H i :=
  axo_stable i hi rfl hd (fun ρ w a s => stable_of_reads s hg hr) h
theorem axo_scall [hLS : LaidS P Γ] (i : Nat) {d : Nat} {g : Option (Nat × Bool)} {x : AV} (hi : all[i]? = some ⟨some d, op, ty, pos, aft, g⟩) (hg : gOK all fr g)
    (hr : SCall P ⟨some d, op, ty, pos, aft, g⟩ fr H x) (hd : Nat.blt d n.n = true) (h : AX P Γ n all Q m T base f (listed.setIfInBounds i true) ((d, x) :: fr) H) : AXO P Γ n all Q m T base f listed fr H i :=
  axo_stable i hi rfl hd (fun ρ w a s => by
    obtain ⟨v, hv, hrun⟩ := hr Γ hLS n ρ w a s
    exact ⟨v, hv, .inl ⟨s.wanted hg, fun w' hk => .inr (hrun w' hk)⟩⟩) h
/-- names that are taken away were made in the region -/
def takenB (base : Nat) (H H' : Hp) : Bool := H.all fun e => memB e.1 (hkeys H') || Nat.ble base e.1
theorem axo_grew {ρ ρ' : Rho} {w w' w0 : World} (hk : Kept w0 w) (hf : FreshN ρ H base w0) (hg : Grew ρ ρ' w w' H H') (ht : takenB base H H' = true) : Kept w0 w' ∧ FreshN ρ' H' base w0 := by
  have hrem : ∀ e ∈ H, (∀ e' ∈ H', e'.1 ≠ e.1) → base ≤ e.1 := fun e he hne => by
    have := List.all_eq_true.1 ht e he
    simp only [Bool.or_eq_true] at this
    rcases this with h | h
    · have h2 := memB_true h
      rw [hkeys_eq] at h2
      obtain ⟨e', he', h3⟩ := List.mem_map.1 h2
      exact absurd h3 (hne e' he')
    · simpa using h
  constructor
  · refine ⟨hg.os.trans hk.os, hg.tape.trans hk.tape, hg.out.trans hk.output, Nat.le_trans hk.size hg.size, fun b hb hn => ?_⟩
    rw [← hk.block b hb hn]
    refine hg.blk b (Nat.lt_of_lt_of_le hb hk.size) (fun e he hne k hbk => ?_)
    have := hf e he (hrem e he hne) b k hbk
    omega
  · intro e' he' hb b k hbk
    rcases hg.own e' he' b k hbk with ⟨e, he, h1, h2⟩ | ⟨e, he, h1, k', h2⟩ | h
    · exact hf e he (by omega) b k h2
    · exact hf e he (hrem e he h1) b k' h2
    · have := hk.size; omega
theorem axo_eff (i : Nat) {d : Nat} {g : Option (Nat × Bool)} {x : AV} (hi : all[i]? = some ⟨some d, op, ty, pos, aft, g⟩) (hg : gOK all fr g) (he : Eff P n ⟨some d, op, ty, pos, aft, g⟩ fr H x fr' H') (ht : takenB base H H' = true) (hd : Nat.blt d n.n = true)
    (h : AX P Γ n all Q m T base f (listed.setIfInBounds i true) ((d, x) :: fr') H') : AXO P Γ n all Q m T base f listed fr H i := fun ρ w a w0 s hk hf => by
  obtain ⟨v, w', ρ', hrun, ⟨s', hgr⟩, hv⟩ := he Γ ρ w a s
  obtain ⟨hk', hf'⟩ := axo_grew hk hf hgr ht
  unfold Go.wpOp
  simp only [hi, s.wanted (o := ⟨some d, op, ty, pos, aft, g⟩) hg, if_true]
  refine .inl ?_
  unfold Oper.wp
  rw [hrun]
  exact ⟨hk', h ρ' w' _ w0 (s'.put hd hv) hk' hf'⟩
end
end Go.GA
namespace Go.GA
open Go Go.RowKit
section
variable {P : Program} {Γ : Ctx} {n : Sz} {Q : Exit → Act → World → Prop} {fr fr' : Fr} {H H' : Hp} {all : Array Oper} {ty : TypeId} {pos : String} {aft : Array Edge} {op : Op}
variable {m f base : Nat} {T : Act → World → Prop} {listed : Array Bool}
/-- a call that makes memory: its rows get the names nb, nb + 1, .. -/
theorem axo_call [LaidS P Γ] (i : Nat) (nb : Nat) {g : Option (Nat × Bool)} {d : Nat} {fi : FuncId} {fn : Func} {fo : Operand} {as : List Operand} {tys : Array TypeId} {caps xs ys : List AV} {R : AV → Hp → Prop} (hi : all[i]? = some ⟨some d, .call ⟨.value fo, as.toArray, tys⟩, ty, pos, aft, g⟩) (hg : gOK all fr g) (hc : ACalls P fi ys [] R)
    (hf : P.funcs[fi]? = some fn) (hbody : fn.body.isNone = false) (hname : (fn.name == "runtime.NumGoroutine") = false)
    (hfo : evO fr fo = some (.fn fi caps)) (hxs : evOs fr as = some xs) (hA : Ads H [] (sg [] nb) (xs ++ caps) ys)
    (hfr : allLt nb (Fr.ids fr) = true) (hH : allLt nb (Hp.ids H) = true) (hK : Nat.ble n.K nb = true) (hd : Nat.blt d n.n = true)
    (h : ∀ r H', R r H' → AX P Γ n all Q m T base f (listed.setIfInBounds i true) ((d, r.ren (sg [] nb)) :: fr) (hdel [] H ++ hren (sg [] nb) H')) : AXO P Γ n all Q m T base f listed fr H i := fun ρ w a w0 s hk hfn => by
  obtain ⟨cv, hcv, hcaps⟩ := s.ev hfo
  unfold Go.wpOp
  simp only [hi, s.wanted (o := ⟨some d, .call ⟨.value fo, as.toArray, tys⟩, ty, pos, aft, g⟩) hg, if_true]
  refine .inl ?_
  unfold Oper.wp
  rw [run_callv rfl hcv hf hbody hname w, Oper.upon_enter]
  refine (call_sim hc [] nb s (evOs_append (evOs_ok (fun o y h => s.ev h) hxs) hcaps) hA trivial rfl rfl rfl hfr hH hK).mono ?_
  rintro e w' ⟨v, r, H', ρ', rfl, hR, s', hv, hgr⟩
  have ht : takenB base H (hdel [] H ++ hren (sg [] nb) H') = true := by
    refine List.all_eq_true.2 (fun e he => ?_)
    rw [Bool.or_eq_true]
    left
    cases hb : memB e.1 (hkeys (hdel [] H ++ hren (sg [] nb) H')) with
    | true => rfl
    | false =>
      have := memB_false hb
      rw [hkeys_eq, List.map_append, hdel_nil] at this
      exact absurd (List.mem_append_left _ (List.mem_map_of_mem he)) this
  obtain ⟨hk', hf'⟩ := axo_grew hk hfn (hgr rfl) ht
  exact ⟨hk', h r H' hR ρ' w' _ w0 (s'.put hd hv) hk' hf'⟩
end
end Go.GA
namespace Go.GA
open Go Go.RowKit
section
variable {P : Program} {Γ : Ctx} {n : Sz} {Q : Exit → Act → World → Prop} {fr fr' : Fr} {H H' : Hp} {all : Array Oper} {ty : TypeId} {pos : String} {aft : Array Edge} {op : Op}
variable {m f base : Nat} {T : Act → World → Prop} {listed : Array Bool}
/-- the orders all lead to one state -/
theorem an_to (fr' : Fr) (H' : Hp) (key : AQ Γ n T fr' H') (h : AQ Γ n T fr' H' → AN P Γ n all Q m T f listed fr H) : AN P Γ n all Q m T f listed fr H := h key
theorem aq_tail {l rest : List Oper} (hr : l.drop m = rest) (h : AO P Γ n l.toArray Q rest fr H) : AQ Γ n (fun a w => wpList P l.toArray Q (l.drop m) a w) fr H := fun ρ w a s => by rw [hr]; exact h ρ w a s
end
end Go.GA
namespace Go.GA
open Go Go.RowKit
theorem nk1 {n : Sz} {σ : Nat → Nat} (h : n.K = 1) (h0 : σ 0 = 0) : ∀ i, i < n.K → σ i = i := fun i hi => by
  obtain rfl : i = 0 := by omega
  exact h0
theorem nk2 {n : Sz} {σ : Nat → Nat} (h : n.K = 2) (h0 : σ 0 = 0) (h1 : σ 1 = 1) : ∀ i, i < n.K → σ i = i := fun i hi => by
  rcases (show i = 0 ∨ i = 1 by omega) with rfl | rfl
  · exact h0
  · exact h1
section
variable {H H' : Hp} {σ : Nat → Nat}
theorem names_ne {id : Nat} (hn : memB id ((hkeys H').map σ) = false) : ∀ e' ∈ H', σ e'.1 ≠ id := fun e' he' hh => memB_false hn (by rw [← hh, hkeys_eq, List.map_map]; exact List.mem_map.2 ⟨e', he', rfl⟩)
theorem ad_osB {id : Nat} {t : Ty} {xs : List t.D} (hg : hget H id = some (.row t xs)) (hn : memB id ((hkeys H').map σ) = false) : Ad H H' σ (.os id) (.v (.slice t) xs) := ad_os hg (names_ne hn)
end
end Go.GA
namespace Go.GA
open Go Go.RowKit
section
variable {P : Program} {Γ : Ctx} {n : Sz} {Q : Exit → Act → World → Prop} {fr : Fr} {H : Hp}
theorem row_lim {ρ : Rho} {w : World} {a : Act} (s : SIM Γ n ρ w a fr H) {id : Nat} {t : Ty} {xs : List t.D} (hg : hget H id = some (.row t xs)) : xs.length ≤ lim := by
  obtain ⟨ℓ, hL, _⟩ := s.heap
  exact (hL.get hg).1
theorem row_len_m {c : Code} (id : Nat) {t : Ty} {xs : List t.D} (m : Int) (hg : hget H id = some (.row t xs)) (hm : (xs.length : Int) = m) (h : m ≤ 9223372036854775807 → AW P Γ n c Q fr H) : AW P Γ n c Q fr H := fun ρ w a s => by
  have := row_lim s hg
  exact h (by subst hm; simp only [lim] at this; omega) ρ w a s
theorem row_len_o {all : Array Oper} {ops : List Oper} (id : Nat) {t : Ty} {xs : List t.D} (m : Int) (hg : hget H id = some (.row t xs)) (hm : (xs.length : Int) = m) (h : m ≤ 9223372036854775807 → AO P Γ n all Q ops fr H) : AO P Γ n all Q ops fr H := fun ρ w a s => by
  have := row_lim s hg
  exact h (by subst hm; simp only [lim] at this; omega) ρ w a s
end
end Go.GA
end
section
namespace Go.GA
open Go Go.RowKit Go.ChangeShapes Go.WideShapes

/-- what is known of data that came in -/
def OkT : (t : Ty) → t.D → Prop
  | .bool, _ => True
  | .int k, x => (Lit.int k x).wf = true
  | .str, s => ByteArray.size s ≤ maxLen
  | .arr n t, xs => List.length (α := t.D) xs = n ∧ ∀ x, List.Mem (α := t.D) x xs → OkT t x
  | .slice t, xs => List.length (α := t.D) xs ≤ lim ∧ ∀ x, List.Mem (α := t.D) x xs → OkT t x
  | .unit, _ => True
  | .pair a b, x => OkT a x.1 ∧ OkT b x.2

mutual
inductive TyP (P : Program) : TypeId → Ty → Prop
  | bool {t} : P.underlying t = some .bool → P.cellsOf t = 1 → TyP P t .bool
  | int {t k} : P.underlying t = some (.int k) → P.cellsOf t = 1 → TyP P t (.int k)
  | str {t} : P.underlying t = some .string → P.cellsOf t = 1 → TyP P t .str
  | arr {t n e τ} : P.underlying t = some (.array n e) → P.cellsOf t = n * τ.sz → TyP P e τ → TyP P t (.arr n τ)
  | slice {t e τ} : P.underlying t = some (.slice e) → P.cellsOf t = 1 → Nat.blt 0 τ.sz = true → TyP P e τ → TyP P t (.slice τ)
  | struct {t fs τ} : P.underlying t = some (.struct fs) → P.cellsOf t = τ.sz → TyF P 0 fs.toList τ → τ.agg = true → TyP P t τ
inductive TyF (P : Program) : Nat → List Field → Ty → Prop
  | nil {o} : TyF P o [] .unit
  | cons {o f fs a b} : f.offset = o → TyP P f.type a → TyF P (o + a.sz) fs b → TyF P o (f :: fs) (.pair a b)
end
theorem TyP.cells {P : Program} {t : TypeId} {τ : Ty} (h : TyP P t τ) : P.cellsOf t = τ.sz := by
  cases h <;> first | assumption | simp_all [Ty.sz]

theorem chunks {α : Type} {R : α → List Value → List Nat → Prop} {p : α → Prop} {s : Nat} : ∀ (n : Nat) (cs : List Value), cs.length = n * s → (∀ i, i < n → ∃ x F, R x ((cs.drop (i * s)).take s) F ∧ p x) → ∃ xs F, xs.length = n ∧ RelL R xs cs F ∧ ∀ x, List.Mem x xs → p x
  | 0, cs, hl, _ => ⟨[], [], rfl, ⟨List.eq_nil_of_length_eq_zero (by simpa using hl), rfl⟩, fun x h => nomatch h⟩
  | n + 1, cs, hl, h => by
    obtain ⟨x, F, hx, px⟩ := h 0 (by omega)
    rw [Nat.succ_mul] at hl
    obtain ⟨xs, G, h1, h2, h3⟩ := chunks (R := R) (p := p) (s := s) n (cs.drop s) (by rw [List.length_drop]; omega) (fun i hi => by
      obtain ⟨x, F, hx, px⟩ := h (i + 1) (by omega)
      refine ⟨x, F, ?_, px⟩
      rw [List.drop_drop]
      rwa [Nat.succ_mul, Nat.add_comm] at hx)
    refine ⟨x :: xs, F ++ G, by rw [List.length_cons, h1], ⟨cs.take s, cs.drop s, F, G, (List.take_append_drop s cs).symm, rfl, by simpa using hx, h2⟩, fun y hy => ?_⟩
    cases hy with
    | head => exact px
    | tail _ h => exact h3 y h

theorem rows {α : Type} {R : α → List Value → List Nat → Prop} {p : α → Prop} {s : Nat} {w : World} {base b off : Nat} : ∀ (n : Nat), (∀ i, i < n → ∃ x F cs, w.cells? base (Addr.add ⟨b, off, none⟩ (i * s)) s = some cs ∧ R x cs F ∧ p x) →
    ∃ xs F mid, xs.length = n ∧ mid.length = n * s ∧ RelL R xs mid F ∧ (∀ x, List.Mem x xs → p x) ∧ ∀ k, k < n * s → w.cell? ⟨b, off + k, none⟩ = mid[k]?
  | 0, _ => ⟨[], [], [], rfl, by simp, ⟨rfl, rfl⟩, (fun x h => nomatch h), fun k hk => by simp at hk⟩
  | n + 1, h => by
    obtain ⟨xs, F, mid, h1, h2, h3, h4, h5⟩ := rows n (fun i hi => h i (by omega))
    obtain ⟨x, G, cs, hc, hx, px⟩ := h n (by omega)
    obtain ⟨_, hl, hcell⟩ := World.cells?_some hc
    refine ⟨xs ++ [x], F ++ G, mid ++ cs, by simp [h1], by rw [List.length_append, h2, hl, Nat.succ_mul], RelL.append h3 ⟨cs, [], G, [], by simp, by simp, hx, rfl, rfl⟩, fun y hy => ?_, fun k hk => ?_⟩
    · have : y ∈ xs ++ [x] := hy
      rcases List.mem_append.1 this with h | h
      · exact h4 y h
      · simp only [List.mem_singleton] at h; subst h; exact px
    · by_cases hk' : k < n * s
      · rw [List.getElem?_append_left (by omega)]; exact h5 k hk'
      · rw [Nat.succ_mul] at hk
        rw [List.getElem?_append_right (by omega), h2, ← hcell (k - n * s) (by omega)]
        rw [addr_add, addr_add]
        congr 2; omega

section
variable {H : Type} {enc : TypeId × Value → H} {P : Program} {w : World} {base : Nat} {spare : Nat → Bool} {held : Bool}
theorem open_rc : ∀ (m : Nat) {t : TypeId} {τ : Ty} {cs : List Value} {x : DataW H × List MemPlace}, DataW.trod enc P w base spare held m t cs = some x → TyP P t τ → w.noneFrozen x.2 → ∃ y F, Rc (World.hf w) τ y cs F ∧ OkT τ y
  | 0, _, _, _, _, h, _, _ => by simp [DataW.trod] at h
  | m + 1, t, τ, cs, x, h, ht, hN => by
    cases ht with
    | bool hu _ =>
      obtain ⟨b, rfl, _⟩ := DataW.trod_bool hu h
      exact ⟨b, [], ⟨rfl, rfl⟩, trivial⟩
    | int hu _ =>
      obtain ⟨n, rfl, _, hw⟩ := DataW.trod_int hu h
      exact ⟨n, [], ⟨rfl, rfl⟩, hw⟩
    | str hu _ =>
      obtain ⟨s, rfl, _, hw⟩ := DataW.trod_string hu h
      exact ⟨s, [], ⟨rfl, rfl⟩, hw⟩
    | @arr _ n e τ hu hc he =>
      obtain ⟨xs, m', hm, hxe, hl, hn, hx⟩ := DataW.trod_array hu h
      obtain rfl : m = m' := by omega
      rw [hc] at hl
      have hs := he.cells
      obtain ⟨ys, F, h1, h2, h3⟩ := chunks (R := Rc (World.hf w) τ) (p := OkT τ) n cs hl (fun i hi => by
        have h1 := hx i hi
        rw [hs, List.getElem?_eq_getElem (by omega)] at h1
        exact open_rc m h1 he (fun b off hm => hN b off (by rw [hxe]; exact List.mem_flatMap.2 ⟨_, List.getElem_mem _, hm⟩)))
      exact ⟨ys, F, ⟨h1, h2⟩, h1, h3⟩
    | @slice _ e τ hu hc hz he =>
      have hz' : 0 < τ.sz := by simpa using hz
      rcases DataW.trod_slice hu h with ⟨rfl, _⟩ | ⟨a, len, cap, elems, rest, m', hm, rfl, hxe, hb, hl, hcap, hlen, hel, _⟩
      · exact ⟨([] : List τ.D), [], ⟨Nat.zero_le _, .inl ⟨rfl, rfl, _, _, rfl⟩⟩, Nat.zero_le _, fun x h => nomatch h⟩
      · obtain rfl : m = m' := by omega
        have hs := he.cells
        obtain ⟨b, off, spot⟩ := a
        by_cases hl0 : len = 0
        · subst hl0
          exact ⟨([] : List τ.D), [], ⟨Nat.zero_le _, .inl ⟨rfl, rfl, _, _, rfl⟩⟩, Nat.zero_le _, fun x h => nomatch h⟩
        have hsp : spot = none := by
          have h1 := hel 0 (by omega)
          rw [hs, List.getElem?_eq_getElem (by omega)] at h1
          obtain ⟨cs', hc1, _⟩ := Option.bind_eq_some_iff.1 h1
          obtain ⟨_, hcl, hcc⟩ := World.cells?_some hc1
          have h2 := hcc 0 hz'
          rw [List.getElem?_eq_getElem (by omega)] at h2
          have h3 := World.cell?_spot h2
          unfold Addr.add at h3
          simpa using h3
        subst hsp
        obtain ⟨ys, F, mid, h1, h2, h3, h4, h5⟩ := rows (R := Rc (World.hf w) τ) (p := OkT τ) (s := τ.sz) (w := w) (base := base) (b := b) (off := off) len (fun i hi => by
          have h1 := hel i hi
          rw [hs, List.getElem?_eq_getElem (by omega)] at h1
          obtain ⟨cs', hc1, hc2⟩ := Option.bind_eq_some_iff.1 h1
          obtain ⟨y, F, hy, py⟩ := open_rc m hc2 he (fun b off hm => hN b off (by rw [hxe]; exact List.mem_append_right _ (List.mem_flatMap.2 ⟨_, List.mem_append_left _ (List.getElem_mem _), hm⟩)))
          exact ⟨y, F, cs', hc1, hy, py⟩)
        have hlim : ys.length ≤ lim := by rw [h1]; unfold maxLen at hcap; unfold lim; omega
        cases ys with
        | nil =>
          simp only [List.length_nil] at h1
          subst h1
          exact ⟨([] : List τ.D), [], ⟨Nat.zero_le _, .inl ⟨rfl, rfl, _, _, rfl⟩⟩, Nat.zero_le _, fun x h => nomatch h⟩
        | cons y ys =>
          have hpos : 0 < len := by rw [← h1]; simp
          have hpos2 : 0 < len * τ.sz := Nat.mul_pos hpos hz'
          have hc0 := h5 0 hpos2
          rw [List.getElem?_eq_getElem (by omega)] at hc0
          have hblk : ∃ c T z, w.heap[b]? = some (.cells c T z) := by
            unfold World.cell? at hc0
            cases hh : w.heap[b]? with
            | none => simp [hh] at hc0
            | some o =>
              cases o with
              | cells c T z => exact ⟨c, T, z, rfl⟩
              | _ => simp [hh] at hc0
          obtain ⟨c, T, z, hblk⟩ := hblk
          have hcell : ∀ k, k < len * τ.sz → c.toList[off + k]? = mid[k]? := fun k hk => by
            have := h5 k hk
            unfold World.cell? at this
            simp only [hblk, Option.isSome_none, Bool.false_eq_true, if_false] at this
            rw [← this]; simp
          have hmid : c.toList = c.toList.take off ++ (mid ++ c.toList.drop (off + mid.length)) := by
            apply List.ext_getElem?
            intro i
            have hoff : off + mid.length ≤ c.toList.length := by
              have := hcell (len * τ.sz - 1) (by omega)
              rw [List.getElem?_eq_getElem (l := mid) (by omega)] at this
              have := (List.getElem?_eq_some_iff.1 this).1
              omega
            by_cases hi : i < off
            · rw [List.getElem?_append_left (by rw [List.length_take]; omega), List.getElem?_take_of_lt hi]
            · rw [List.getElem?_append_right (by rw [List.length_take]; omega), List.length_take, Nat.min_eq_left (by omega)]
              by_cases hi2 : i - off < mid.length
              · rw [List.getElem?_append_left hi2, ← hcell (i - off) (by omega)]
                congr 1; omega
              · rw [List.getElem?_append_right (by omega), List.getElem?_drop]
                congr 1; omega
          have hoff : off ≤ c.toList.length := by
            have := hcell 0 hpos2
            rw [List.getElem?_eq_getElem (l := mid) (by omega)] at this
            have := (List.getElem?_eq_some_iff.1 this).1
            omega
          refine ⟨y :: ys, b :: F, ⟨hlim, .inr ⟨b, off, cap - len, F, ?_, rfl, c, T, z, _, mid, _, hblk, hmid, by rw [List.length_take]; omega, h3, fun i hi hz2 => ?_⟩⟩, hlim, h4⟩
          rotate_left
          · have hf := hN b (off + i) (by
              rw [hxe]
              refine List.mem_append_left _ (List.mem_map.2 ⟨i, List.mem_range.2 ?_, rfl⟩)
              rw [hlen, hs]
              have h1' : mid.length = len * τ.sz := h2
              have : len * τ.sz ≤ (len + rest.length) * τ.sz := Nat.mul_le_mul_right _ (Nat.le_add_right _ _)
              omega)
            unfold World.frozen? at hf
            rw [hblk] at hf
            simp only [Bool.and_eq_false_iff, decide_eq_false_iff_not] at hf
            omega
          have h1' : List.length (α := τ.D) (y :: ys) = len := h1
          rw [h1']
          congr 3
          omega
    | @struct _ fs τ hu hc hf ha =>
      obtain ⟨xs, m', hm, hxe, hl, hn, hx⟩ := DataW.trod_struct hu h
      obtain rfl : m = m' := by omega
      rw [hc] at hl
      have key : ∀ (l : List Field) (o : Nat) (σ : Ty), TyF P o l σ → (∀ f ∈ l, ∃ y, DataW.trod enc P w base spare held m f.type ((cs.drop f.offset).take (P.cellsOf f.type)) = some y ∧ w.noneFrozen y.2) → cs.length = o + σ.sz → ∃ y F, Rc (World.hf w) σ y (cs.drop o) F ∧ OkT σ y := by
        intro l
        induction l with
        | nil =>
          intro o σ hσ _ hlen
          cases hσ
          exact ⟨(), [], ⟨List.drop_eq_nil_of_le (by simp [Ty.sz] at hlen; omega), rfl⟩, trivial⟩
        | cons f l ih =>
          intro o σ hσ hf hlen
          cases hσ with
          | @cons _ _ _ a b ho hta htb =>
            simp only [Ty.sz] at hlen
            obtain ⟨y, hy, hyN⟩ := hf f (by simp)
            obtain ⟨y1, F1, r1, o1⟩ := open_rc m hy hta hyN
            obtain ⟨y2, F2, r2, o2⟩ := ih (o + a.sz) b htb (fun f hf' => hf f (List.mem_cons_of_mem _ hf')) (by omega)
            rw [ho, hta.cells] at r1
            refine ⟨(y1, y2), F1 ++ F2, ⟨_, _, F1, F2, ?_, rfl, r1, r2⟩, o1, o2⟩
            rw [← List.drop_drop]
            exact (List.take_append_drop _ _).symm
      have := key fs.toList 0 τ hf (fun f hf => by
        obtain ⟨i, hi, he⟩ := List.getElem_of_mem hf
        have h1 := hx i f (by rw [← Array.getElem?_toList, List.getElem?_eq_getElem hi, he])
        rw [List.getElem?_eq_getElem (by rw [hn]; simpa using hi)] at h1
        exact ⟨_, h1, fun b off hm => hN b off (by rw [hxe]; exact List.mem_flatMap.2 ⟨_, List.getElem_mem _, hm⟩)⟩) (by omega)
      simpa using this
end
end Go.GA
end
section
namespace Go.GA
open Go Go.RowKit Go.ChangeShapes Go.WideShapes
def rho0 : Rho := ⟨fun _ => none, fun _ => False⟩
section
variable {H : Type} {enc : TypeId × Value → H} {P : Program} {W : World} {base : Nat} {spare : Nat → Bool} {held : Bool}
theorem arg_in {t : TypeId} {τ : Ty} {v : Value} {d : DataW H} {ps : List MemPlace} {r : Reach} {b : Nat} (ht : TyP P t τ) (hval : Value.okWide P W r b t v) (hd : DataW.Trod enc P W base spare held t v d ps) (hN : W.noneFrozen ps) :
    ∃ x : τ.D, OkT τ x ∧ RA rho0 (World.hf W) (ownB rho0 []) (ofTy τ x) v := by
  obtain ⟨fuel, hf⟩ := hd
  obtain ⟨x, F, hx, hok⟩ := open_rc fuel hf ht hN
  refine ⟨x, hok, ?_⟩
  have hM : ∀ b ∈ F, ¬ ownB rho0 [] b := by
    rintro b _ (⟨e, he, _⟩ | h)
    · cases he
    · exact h
  have hv : mkV τ v.cells.toList = v := by
    cases ht with
    | bool hu _ => obtain ⟨b, rfl⟩ := okWide_bool hu hval; rfl
    | int hu _ => obtain ⟨b, rfl⟩ := okWide_int hu hval; rfl
    | str hu _ => obtain ⟨b, rfl⟩ := okWide_string hu hval; rfl
    | slice hu _ _ _ => obtain ⟨a, l, c, rfl⟩ := okWide_slice hu hval; rfl
    | arr hu _ _ =>
      simp only [Value.okWide, hu] at hval
      obtain ⟨cs, rfl, _⟩ := hval
      simp [mkV, Ty.agg, Value.cells]
    | struct hu _ _ ha =>
      simp only [Value.okWide, hu] at hval
      obtain ⟨cs, rfl, _⟩ := hval
      simp [mkV, ha, Value.cells]
  have := ra_ofTy (ρ := rho0) hx hM
  rwa [hv] at this
/-- a program without the two variables -/
theorem noErr {P : Program} {W : World} (h1 : P.globalNamed "strconv.ErrSyntax" = none) (h2 : P.globalNamed "strconv.ErrRange" = none) : ∀ nm g, (nm = "strconv.ErrSyntax" ∨ nm = "strconv.ErrRange") → P.globalNamed nm = some g → ErrAt W g := by
  rintro nm g (rfl | rfl) hg
  · rw [h1] at hg; cases hg
  · rw [h2] at hg; cases hg
theorem law_call {f : FuncId} {ys : List AV} {vs : List Value} (hL : ∀ g, P.globalNamed "internal/strconv.uint64pow10" = some g → Lib.TabIs P W "internal/strconv.uint64pow10" .u64 Lib.pow10Tab) (hE : ∀ nm g, (nm = "strconv.ErrSyntax" ∨ nm = "strconv.ErrRange") → P.globalNamed nm = some g → ErrAt W g) (hc : Scalar P f ys (.bool true)) (hx : RAs rho0 (World.hf W) (ownB rho0 []) ys vs) :
    Calls P f vs.toArray W (fun e W' => e = .returned (.bool true) ∧ Below W.heap.size W W') := by
  refine (hc rho0 W vs (fun _ => []) hx ⟨by simp, by simp, by simp, by simp⟩ (fun b h => h.elim) ⟨fun g hg => ⟨hL g hg, fun ⟨e, he, _⟩ => by cases he⟩, fun nm g hn hg => ⟨hE nm g hn hg, fun ⟨e, he, _⟩ => by cases he⟩⟩).mono ?_
  rintro e w' ⟨v, r, H', ρ', ℓ', rfl, p⟩
  obtain ⟨⟨rfl, rfl⟩, _⟩ := p.post
  have hv : v = .bool true := p.ra
  refine ⟨by rw [hv], p.ext.os, p.ext.tape, p.ext.output, p.ext.size, fun k hk => p.ext.block k hk ?_⟩
  rintro ⟨e, he, _⟩; cases he
end
end Go.GA
end
section
namespace Go.GA
open Go Go.RowKit
section
variable {P : Program} {n : Sz} {fr : Fr} {H : Hp} {dst : Option Nat} {ty : TypeId} {pos : String} {aft : Array Edge} {g : Option (Nat × Bool)}
theorem RelL.take {α : Type} {R : α → List Value → List Nat → Prop} {s : Nat} (hs : ∀ x c F, R x c F → c.length = s) (hf : ∀ x c F, R x c F → F = []) {xs : List α} {cs F} (h : RelL R xs cs F) (u : Nat) (hu : u ≤ xs.length) : ∃ c1 c2, cs = c1 ++ c2 ∧ c1.length = u * s ∧ RelL R (xs.take u) c1 [] := by
  have h' : RelL R (xs.take u ++ xs.drop u) cs F := by rw [List.take_append_drop]; exact h
  obtain ⟨c1, c2, F1, F2, e, _, h1, _⟩ := h'.split
  have hF := RelL.flat hf h1
  subst hF
  refine ⟨c1, c2, e, ?_, h1⟩
  rw [RelL.len hs h1, List.length_take, Nat.min_eq_left hu]
theorem e_shrink {T E : TypeId} {x : Operand} {id : Nat} {t : Ty} {xs : List t.D} {hi : Option Operand} {u : Int} (id' : Nat) (hf : t.flat = true) (hu : P.underlying T = some (.slice E)) (hs : ∀ w, (sizeOf E).run P w = .ok t.sz w) (hx : evO fr x = some (.os id)) (hg : hget H id = some (.row t xs))
    (hhi : Hi fr (xs.length : Int) hi u) (h1 : 0 ≤ u) (h2 : u ≤ (xs.length : Int)) (hid : freshB id' fr H = true) (hK : Nat.ble n.K id' = true) :
    Eff P n ⟨dst, .slice T x none hi none, ty, pos, aft, g⟩ fr H (.os id') fr ((id', .row t (xs.take u.toNat)) :: hdel [id] H) := fun Γ ρ w a s => by
  obtain ⟨ℓ, hL, _⟩ := s.heap
  have hb := fun (len cap : Nat) (hlen : len = xs.length) (hcap : len ≤ cap) (w' : World) => run_bounds (P := P) (isSlice := true) (len := len) (cap := cap) (l := 0) (m := u) (fun o y h => s.ev h) (Lo.none (fr := fr)) (by subst hlen; exact hhi) (Int.le_refl 0) h1 (by omega) hcap w'
  have hlt : (xs.take u.toNat).length = u.toNat := by rw [List.length_take]; omega
  have hmem := hget_mem hg
  obtain ⟨hl, ⟨h3, h4, _⟩ | ⟨b, cap, c, T', F, mid, post, h3, h4, h5, h6, h7, h8, h9⟩⟩ := hL.get hg
  · rcases s.ev hx with ⟨_, e⟩ | ⟨b', cap', len, hx', e⟩
    · subst h4
      have hu0 : u = 0 := by have : u ≤ 0 := h2; omega
      subst hu0
      refine ⟨.slice none 0 0, w, upd ρ id' none, ?_, s.replace [id] (p := none) hid hK rfl rfl rfl rfl (Nat.le_refl _) (fun b hb _ => rfl) (fun b k h => by cases h) (fun ℓ' hk' hM => ⟨[], ⟨Nat.zero_le _, .inl ⟨upd_same _ _ _, rfl, rfl⟩⟩, by simp, by simp⟩), .inl ⟨upd_same _ _ _, rfl⟩⟩
      have hb' : (Instr.sliceBounds true 0 0 none (Option.map a.eval hi) none).run P w = .ok (0, 0, 0) w := hb 0 0 rfl (Nat.le_refl _) w
      simp only [execOp, Instr.sliceAt, Instr.slice, Sem.run_bind, run_underlying hu, Result.andThen_ok, e, Option.map_none, hb', hs, Sem.run_pure]
      simp
    · rw [h3] at hx'; cases hx'
  · rcases s.ev hx with ⟨hx', _⟩ | ⟨b', cap', len, hx', e⟩
    · rw [h3] at hx'; cases hx'
    · rw [h3] at hx'
      obtain ⟨rfl, rfl, rfl⟩ : b = b' ∧ cap = cap' ∧ List.length (α := t.D) xs = len := by simpa using hx'
      have hF : F = [] := RelL.flat (fun x c F h => Rc.flat t hf h) h6
      subst hF
      obtain ⟨c1, c2, ec, hc1, hr1⟩ := RelL.take (fun x c F h => Rc.len t h) (fun x c F h => Rc.flat t hf h) h6 u.toNat (by omega)
      have hb' : (Instr.sliceBounds true (List.length (α := t.D) xs) cap none (Option.map a.eval hi) none).run P w = .ok (0, u.toNat, cap) w := hb _ cap rfl h8 w
      refine ⟨.slice (some ⟨b, 0, none⟩) u.toNat cap, w, upd ρ id' (some (b, cap, u.toNat)), ?_, s.replace [id] (p := some (b, cap, u.toNat)) hid hK rfl rfl rfl rfl (Nat.le_refl _) (fun b hb _ => rfl) (fun b' k h => by
        simp only [Option.some.injEq, Prod.mk.injEq] at h
        exact .inl ⟨_, hmem, by simp, _, by rw [← h.1]; exact h3⟩) (fun ℓ' hk' hM => ⟨[b], ⟨by rw [hlt]; omega, .inr ⟨b, cap, c, T', [], c1, c2 ++ post, by rw [upd_same, hlt], h4, by rw [h5, ec]; simp, hr1, rfl, by rw [hlt]; omega, h9⟩⟩, by simp, fun y hy => ?_⟩), .inr ⟨b, cap, _, upd_same _ _ _, rfl⟩⟩
      · simp only [execOp, Instr.sliceAt, Instr.slice, Sem.run_bind, run_underlying hu, Result.andThen_ok, e, Option.map_none, hb', hs, Sem.run_pure]
        by_cases hc0 : cap = 0
        · simp [hc0]
        · simp [hc0, addr_add]
      · simp only [List.mem_singleton] at hy
        subst hy
        exact .inl ⟨_, hmem, by simp, own_head hk' hmem h3⟩
end
end Go.GA
namespace Go.GA
open Go Go.RowKit
section
variable {P : Program} {Γ : Ctx} {n : Sz} {Q : Exit → Act → World → Prop} {fr : Fr} {H : Hp} {all : Array Oper} {ops : List Oper} {ty : TypeId} {pos : String} {aft : Array Edge} {g : Option (Nat × Bool)}
end
end Go.GA
namespace Go.GA
open Go Go.RowKit
section
variable {P : Program} {Γ : Ctx} {n : Sz} {Q : Exit → Act → World → Prop} {fr : Fr} {H : Hp} {all : Array Oper} {ops : List Oper} {ty : TypeId} {pos : String} {aft : Array Edge} {g : Option (Nat × Bool)}
end
end Go.GA
end
section
namespace Go.GA
open Go Go.RowKit
section
variable {P : Program} {n : Sz} {fr : Fr} {H : Hp} {dst : Option Nat} {ty : TypeId} {pos : String} {aft : Array Edge} {g : Option (Nat × Bool)}
theorem r_conv {S T : TypeId} {x : Operand} {k k' : IntKind} {a : Int} {d : TypeDesc} (hs : P.underlying S = some d) (ht : P.underlying T = some (.int k')) (hx : evO fr x = some (.int k a)) :
    Reads P ⟨dst, .convert S T x, ty, pos, aft, g⟩ fr H (.int k' (k'.wrap a)) :=
  reads_of fun ρ h M ev hev => ⟨_, rfl, fun w' => by
    have h1 := hev x _ hx
    simp only [RA] at h1
    simp [execOp, Go.convert, h1, Sem.run_bind, run_underlying hs, run_underlying ht, Conv.intToInt]⟩
end
end Go.GA
namespace Go.GA
open Go Go.RowKit
theorem comps_ty {ρ : Rho} {h : Hf} {M : Nat → Prop} : ∀ (t : Ty) {x : t.D} {cs G}, t.flatArrs = true → RComps ρ h M (tyComps t x) cs G → ∃ F, Rc h t x cs F ∧ ∀ b ∈ F, ¬ M b
  | .arr n t, x, cs, G, hf, hr => by
    obtain ⟨c1, c2, F1, F2, e, _, h1, h2, _⟩ := hr
    subst h2
    have hF := Rc.flat (.arr n t) hf h1
    subst hF
    exact ⟨[], by rw [e, List.append_nil]; exact h1, by simp⟩
  | .pair a b, x, cs, G, hf, hr => by
    simp only [Ty.flatArrs, Bool.and_eq_true] at hf
    obtain ⟨v1, v2, F1, F2, e, _, h1, h2⟩ := RComps.split (cs := tyComps a x.1) (ds := tyComps b x.2) hr
    obtain ⟨G1, r1, n1⟩ := comps_ty a hf.1 h1
    obtain ⟨G2, r2, n2⟩ := comps_ty b hf.2 h2
    exact ⟨G1 ++ G2, ⟨v1, v2, G1, G2, e, rfl, r1, r2⟩, fun y hy => by
      rcases List.mem_append.1 hy with h | h
      · exact n1 y h
      · exact n2 y h⟩
  | .unit, _, _, _, _, hr => ⟨[], ⟨hr.1, rfl⟩, by simp⟩
  | .int k, x, _, _, _, hr => by obtain ⟨v, cs', e, _, hv, e2, _⟩ := hr; subst e2; exact ⟨[], ⟨by rw [e]; simp only [RA] at hv; rw [hv], rfl⟩, by simp⟩
  | .bool, x, _, _, _, hr => by obtain ⟨v, cs', e, _, hv, e2, _⟩ := hr; subst e2; exact ⟨[], ⟨by rw [e]; simp only [RA] at hv; rw [hv], rfl⟩, by simp⟩
  | .str, x, _, _, _, hr => by obtain ⟨v, cs', e, _, hv, e2, _⟩ := hr; subst e2; exact ⟨[], ⟨by rw [e]; simp only [RA] at hv; rw [hv], rfl⟩, by simp⟩
  | .slice t, x, _, _, _, hr => by
    obtain ⟨v, cs', e, _, hv, e2, _⟩ := hr
    subst e2
    obtain ⟨F, ⟨cs, h1, h2⟩, hF⟩ := hv
    obtain ⟨u, rfl⟩ := one_cell (t := .slice t) rfl h1
    obtain rfl : v = u := h2
    exact ⟨F, by rw [e]; exact h1, hF⟩
end Go.GA
namespace Go.GA
open Go Go.RowKit
section
variable {P : Program} {n : Sz} {fr : Fr} {H : Hp} {dst : Option Nat} {ty : TypeId} {pos : String} {aft : Array Edge} {g : Option (Nat × Bool)}
/-- a whole own variable, or a part of it, as plain data -/
theorem r_load_part {T : TypeId} {x : Operand} {id off : Nat} {τ : Ty} {y : τ.D} {cs : List Comp} (pre post : List Comp) (hf : τ.flatArrs = true) (ha : ∀ w, (isAgg T).run P w = .ok τ.agg w) (hs : ∀ w, (sizeOf T).run P w = .ok τ.sz w)
    (hx : evO fr x = some (.ref id off)) (hg : hget H id = some (.var cs)) (hc : cs = pre ++ (tyComps τ y ++ post)) (ho : compsSz pre = off) :
    Reads P ⟨dst, .load T x, ty, pos, aft, g⟩ fr H (ofTy τ y) := fun Γ n' ρ w a s => by
  obtain ⟨b, k, hρ, e⟩ := s.ev hx
  obtain ⟨ℓ, hL, _⟩ := s.heap
  obtain ⟨b', k', c, T', F, hρ', hb, hcs, _⟩ := hL.get hg
  rw [hρ] at hρ'
  obtain ⟨rfl, rfl⟩ : b = b' ∧ k = k' := by simpa using hρ'
  subst hc
  obtain ⟨v1, v2, F1, F2, ev, _, h1, h2⟩ := RComps.split hcs
  obtain ⟨v3, v4, F3, F4, ev2, _, h3, h4⟩ := RComps.split h2
  obtain ⟨G, hR, hM⟩ := comps_ty τ hf h3
  have hl := h1.len
  rw [ho] at hl
  refine ⟨mkV τ v3, ra_ofTy hR hM, fun w' hk => ?_⟩
  have := run_loadVar_at (P := P) (t := τ) (E := T) (w := w') (pre := v1) (mid := v3) (post := v4) (kept_get hk hb) (by rw [ev, ev2]) (Rc.len _ hR) agg_sz ha hs
  rw [hl] at this
  simp only [execOp, e, Instr.loadAt, Instr.sureAddr, Sem.run_bind, Sem.run_pure, Result.andThen_ok, this]
end
end Go.GA
namespace Go.GA
open Go Go.RowKit
end Go.GA
namespace Go.GA
open Go
end Go.GA
end
section
namespace Go.GA
open Go Go.RowKit
section
variable {P : Program} {Γ : Ctx} {n : Sz} {Q : Exit → Act → World → Prop} {fr fr' : Fr} {H H' : Hp}
variable {dst : Option Nat} {ty : TypeId} {pos : String} {aft : Array Edge} {g : Option (Nat × Bool)}
theorem r_pickT {c x y : Operand} {a : Bool} {v : AV} (hc : evO fr c = some (.bool a)) (ha : a = true) (hx : evO fr x = some v) : Reads P ⟨dst, .pick c x y, ty, pos, aft, g⟩ fr H v :=
  reads_of fun ρ h M ev hev => ⟨ev x, hev x _ hx, fun w' => by
    have h1 := hev c _ hc
    simp only [RA] at h1
    subst ha
    simp_all [execOp, go_sem, asBool]⟩
theorem r_pickF {c x y : Operand} {a : Bool} {v : AV} (hc : evO fr c = some (.bool a)) (ha : a = false) (hy : evO fr y = some v) : Reads P ⟨dst, .pick c x y, ty, pos, aft, g⟩ fr H v :=
  reads_of fun ρ h M ev hev => ⟨ev y, hev y _ hy, fun w' => by
    have h1 := hev c _ hc
    simp only [RA] at h1
    subst ha
    simp_all [execOp, go_sem, asBool]⟩
theorem ao_split {all : Array Oper} {ops : List Oper} (b : Bool) (ht : b = true → AO P Γ n all Q ops fr H) (hf : b = false → AO P Γ n all Q ops fr H) : AO P Γ n all Q ops fr H := by
  cases hb : b with
  | true => exact ht hb
  | false => exact hf hb
/-- the next k operations are left out -/
theorem ao_skipT {all : Array Oper} {ops : List Oper} (k j s : Nat) {b : Bool} (hj : (all[j]?).bind (·.dst) = some s) (hs : get fr s = some (.bool b)) (hb : b = false) (hsk : skipOK k j true ops = true) (hlt : dstsLt n.n k ops = true) (hno : noDst s k ops = true)
    (h : AO P Γ n all Q (ops.drop k) (undN k ops fr) H) : AO P Γ n all Q ops fr H := ao_skips (want := true) hj (by simpa using hb) k (.inl hs) hsk hlt hno h
theorem ao_norm {all : Array Oper} {ops : List Oper} {d : Nat} {x y : AV} (hx : x = y) (hH : H = H') (h : AO P Γ n all Q ops ((d, y) :: fr) H') : AO P Γ n all Q ops ((d, x) :: fr) H := by subst hx; subst hH; exact h
theorem ao_norm0 {all : Array Oper} {ops : List Oper} (hH : H = H') (h : AO P Γ n all Q ops fr H') : AO P Γ n all Q ops fr H := by subst hH; exact h
end
end Go.GA
end
section
namespace Go.GA
open Go Go.RowKit
section
variable {P : Program} {n : Sz} {fr : Fr} {H : Hp} {dst : Option Nat} {ty : TypeId} {pos : String} {aft : Array Edge} {g : Option (Nat × Bool)}
theorem r_max {T U : TypeId} {x y : Operand} {k : IntKind} {a b : Int} (hx : evO fr x = some (.int k a)) (hy : evO fr y = some (.int k b)) :
    Reads P ⟨dst, .call ⟨.builtin .max, #[x, y], #[T, U]⟩, ty, pos, aft, g⟩ fr H (.int k (if b > a then b else a)) :=
  reads_of fun ρ h M ev hev => ⟨_, rfl, fun w' => by
    have h1 := hev x _ hx; have h2 := hev y _ hy
    simp only [RA] at h1 h2
    simp [execOp, resolve, invoke, Go.builtin, Builtin.max_, Builtin.max2, h1, h2, Sem.run_bind]⟩
theorem r_min {T U : TypeId} {x y : Operand} {k : IntKind} {a b : Int} (hx : evO fr x = some (.int k a)) (hy : evO fr y = some (.int k b)) :
    Reads P ⟨dst, .call ⟨.builtin .min, #[x, y], #[T, U]⟩, ty, pos, aft, g⟩ fr H (.int k (if b < a then b else a)) :=
  reads_of fun ρ h M ev hev => ⟨_, rfl, fun w' => by
    have h1 := hev x _ hx; have h2 := hev y _ hy
    simp only [RA] at h1 h2
    simp [execOp, resolve, invoke, Go.builtin, Builtin.min_, Builtin.min2, h1, h2, Sem.run_bind]⟩
theorem os_Rc {ρ : Rho} {h : Hf} {M : Nat → Prop} {ℓ : Nat → List Nat} {j : Nat} {t : Ty} {xs : List t.D} {v : Value} (hk : HeapOK ρ h H ℓ) (hg : hget H j = some (.row t xs)) (hv : RA ρ h M (.os j) v) : Rc h (.slice t) xs [v] (ℓ j) := by
  obtain ⟨hl, ⟨h3, h4, h5⟩ | ⟨b, cap, c, T', F, mid, post, h3, h4, h5, h6, h7, h8, h9⟩⟩ := hk.get hg
  · rcases hv with ⟨_, e⟩ | ⟨b', cap', len, hx', e⟩
    · subst h4; rw [h5, e]
      exact ⟨hl, .inl ⟨rfl, rfl, none, 0, rfl⟩⟩
    · rw [h3] at hx'; cases hx'
  · rcases hv with ⟨hx', _⟩ | ⟨b', cap', len, hx', e⟩
    · rw [h3] at hx'; cases hx'
    · rw [h3] at hx'
      obtain ⟨rfl, rfl, rfl⟩ : b = b' ∧ cap = cap' ∧ List.length (α := t.D) xs = len := by simpa using hx'
      rw [h7, e]
      exact ⟨hl, .inr ⟨b, 0, cap - List.length (α := t.D) xs, F, by rw [Nat.add_sub_cancel' h8], rfl, c, T', (0, 0), [], mid, post, h4, by simpa using h5, rfl, h6, NF.zero _ _⟩⟩
theorem Rc.one_slice {h : Hf} {t : Ty} {xs : List t.D} {v : Value} {F : List Nat} (hr : Rc h (.slice t) xs [v] F) : ∃ a len cap, v = .slice a len cap := by
  obtain ⟨_, ⟨_, _, a, cap, e⟩ | ⟨b, off, cap, F', e, _⟩⟩ := hr
  · exact ⟨a, 0, cap, by simpa using e⟩
  · exact ⟨_, _, _, by simpa using e⟩
theorem RBlk.nofz {ρ : Rho} {h : Hf} {M : Nat → Prop} {id : Nat} {t : Ty} {xs : List t.D} {L : List Nat} (hr : RBlk ρ h M id (.row t xs) L) : NoFz h L := by
  obtain ⟨hl, ⟨h3, h4, h5⟩ | ⟨b, cap, c, T', F, mid, p, h3, h4, h5, h6, h7, h8, h9⟩⟩ := hr
  · subst h5; exact NoFz.nil
  · subst h7; exact NoFz.cons h4 h9.2
/-- a slice literal of one own slice -/
theorem e_build1 {T E : TypeId} {x : Operand} {z : Value} {t : Ty} {j : Nat} {xs : List t.D} (id : Nat) (ht : P.underlying T = some (.slice E)) (hz : ∀ w, (zeroValue E).run P w = .ok z w) (hs : ∀ w, (sizeOf E).run P w = .ok 1 w)
    (hx : evO fr x = some (.os j)) (hg : hget H j = some (.row t xs)) (hid : freshB id fr H = true) (hK : Nat.ble n.K id = true) :
    Eff P n ⟨dst, .buildSlice T 1 #[(0, x)], ty, pos, aft, g⟩ fr H (.os id) fr ((id, .row (.slice t) [xs]) :: hdel [j] H) := fun Γ ρ w a s => by
  obtain ⟨ℓ, hk, _⟩ := s.heap
  have hv := os_Rc hk hg (s.ev hx)
  obtain ⟨a', len, cap, hva⟩ := hv.one_slice
  have hrun : (Instr.buildSlice T 1 #[(0, a.eval x)]).run P w = .ok (.slice (some ⟨w.heap.size, 0, none⟩) 1 1) (w.alloc (.cells #[a.eval x] E)) := by
    have h2 : ∀ p ∈ [((0 : Nat), x)], (a.eval p.2).cells.size = 1 := by intro p hp; simp only [List.mem_singleton] at hp; subst hp; rw [hva]; rfl
    have hfill := fun (A : Array Value) (hA : 1 * 1 = A.size) => fill_seq (s := 1) (ev := a.eval) [(0, x)] 0 A rfl h2 (by simpa using hA)
    simp only [Instr.buildSlice, Sem.run_bind, run_underlying ht, Result.andThen_ok, hs]
    rw [if_neg (by decide), if_neg (by decide)]
    have := hfill ((Array.range (1 * 1)).map (z.cells[· % z.cells.size]!)) (by simp)
    simp only [Sem.run_bind, hz, Result.andThen_ok, Sem.run_pure]
    simp only [List.map_cons, List.map_nil] at this
    rw [this]
    have hc : (a.eval x).cells.toList = [a.eval x] := by rw [hva]; rfl
    simp [newRow, newObj, Sem.run, hc]
  refine ⟨.slice (some ⟨w.heap.size, 0, none⟩) 1 1, w.alloc (.cells #[a.eval x] E), upd ρ id (some (w.heap.size, 1, 1)), ?_, ?_, .inr ⟨_, _, _, upd_same _ _ _, rfl⟩⟩
  · have e : (#[((0 : Nat), x)]).map (fun p => (p.1, a.eval p.2)) = #[(0, a.eval x)] := by simp
    simp only [execOp, e, Sem.run_bind, hrun, Result.andThen_ok, Sem.run_pure]
  · refine s.replace [j] (id := id) (B := .row (.slice t) [xs]) (p := some (w.heap.size, 1, 1)) (w' := w.alloc (.cells #[a.eval x] E)) hid hK rfl rfl rfl rfl (by simp) (fun b hb _ => heap_alloc_lt w _ b hb)
      (fun b k h => .inr (by simp at h; omega)) (fun ℓ' hk' hM => ?_)
    have hv' := os_Rc hk' hg (s.ev hx)
    have hlt : ∀ b ∈ ℓ' j, b < w.heap.size := fun b hb => hf_lt (hk'.there (hget_mem hg) b hb)
    refine ⟨w.heap.size :: ℓ' j, ⟨(show 1 ≤ lim from by decide), .inr ⟨w.heap.size, 1, _, E, ℓ' j, [a.eval x], [], upd_same _ _ _, hf_alloc_new, by simp, ?_, rfl, Nat.le_refl _, rfl, (hk'.get hg).nofz.same (fun b hb => heap_alloc_lt w _ b (hlt b hb))⟩⟩, ?_, fun b hb => ?_⟩
    · refine ⟨[a.eval x], [], ℓ' j, [], by simp, by simp, hv'.same (.slice t) (fun b hb => ?_), rfl, rfl⟩
      exact heap_alloc_lt w _ b (hlt b hb)
    · rw [List.nodup_cons]
      exact ⟨fun hm => by have := hlt _ hm; omega, hk'.nd _ (hget_mem hg)⟩
    · rcases List.mem_cons.1 hb with rfl | hb
      · exact .inr (Nat.le_refl _)
      · exact .inl ⟨_, hget_mem hg, by simp, hb⟩
/-- the blocks behind a row, for its cells -/
theorem rowF {ρ : Rho} {h : Hf} {ℓ : Nat → List Nat} {id : Nat} {t : Ty} {xs : List t.D} (hk : HeapOK ρ h H ℓ) (hg : hget H id = some (.row t xs)) {old post : List Value} (hol : old.length = xs.length * t.sz)
    (hb : (ρ id = none ∧ old = []) ∨ ∃ b cap len c T', ρ id = some (b, cap, len) ∧ h b = some (.cells c T' (0, 0)) ∧ c.toList = old ++ post) :
    ∃ F, RelL (Rc h t) xs old F ∧ (∀ x ∈ F, x ∈ ℓ id) ∧ F.Nodup ∧ (∀ b k, ρ id = some (b, k) → b ∈ ℓ id ∧ b ∉ F) ∧ NoFz h F := by
  obtain ⟨hl, ⟨h3, h4, h5⟩ | ⟨b, cap, c, T', F, mid, p, h3, h4, h5, h6, h7, h8, h9⟩⟩ := hk.get hg
  · rcases hb with ⟨_, rfl⟩ | ⟨b, cap, len, c, T', hρ, _⟩
    · subst h4
      exact ⟨[], ⟨rfl, rfl⟩, by simp, List.nodup_nil, fun b k hρ => by (rw [h3] at hρ; cases hρ), NoFz.nil⟩
    · rw [h3] at hρ; cases hρ
  · rcases hb with ⟨hρ, _⟩ | ⟨b', cap', len, c', T'', hρ, h2, h10⟩
    · rw [h3] at hρ; cases hρ
    · rw [h3] at hρ
      obtain ⟨rfl, rfl, rfl⟩ : b = b' ∧ cap = cap' ∧ List.length (α := t.D) xs = len := by simpa using hρ
      have e : c = c' := by have := h4.symm.trans h2; simp only [Option.some.injEq, Obj.cells.injEq] at this; exact this.1
      subst e
      have hl1 := RelL.len (fun x c F h => Rc.len t h) h6
      have e2 : mid = old := (List.append_inj (h5.symm.trans h10) (by rw [hl1, hol])).1
      subst e2
      have hnd := hk.nd _ (hget_mem hg)
      simp only [h7] at hnd
      refine ⟨F, h6, fun x hx => by rw [h7]; exact List.mem_cons_of_mem _ hx, (List.nodup_cons.1 hnd).2, fun b1 k hρ1 => ?_, h9.2⟩
      rw [h3] at hρ1
      obtain ⟨rfl, _⟩ : b = b1 ∧ _ := by simpa using hρ1
      exact ⟨by rw [h7]; simp, (List.nodup_cons.1 hnd).1⟩
/-- append of an own row onto an own row: its elements move over -/
theorem e_append_os {T E : TypeId} {x y : Operand} {i : TypeInfo} {z : Value} {t : Ty} {id id2 : Nat} {xs ys : List t.D} (id' : Nat) (ht : P.underlying T = some (.slice E)) (hi : P.info? E = some i) (hz : i.zero = some z) (hzs : z.cells.size = i.size) (hsz : i.size = t.sz)
    (hby : Nat.ble i.bytes 1000 = true) (hx : evO fr x = some (.os id)) (hg : hget H id = some (.row t xs)) (hy : evO fr y = some (.os id2)) (hg2 : hget H id2 = some (.row t ys)) (hne : Nat.beq id id2 = false) (hroom : xs.length + ys.length ≤ 1000000000) (hid : freshB id' fr H = true) (hK : Nat.ble n.K id' = true) :
    Eff P n ⟨dst, .call ⟨.builtin .append, #[x, y], #[T, T]⟩, ty, pos, aft, g⟩ fr H (.os id') fr ((id', .row t (xs ++ ys)) :: hdel [id, id2] H) := fun Γ ρ w a s => by
  have hne' : id ≠ id2 := Nat.ne_of_beq_eq_false hne
  obtain ⟨ℓ, hk, _⟩ := s.heap
  have hby' : i.bytes ≤ 1000 := Nat.le_of_ble_eq_true hby
  have hexec : ∀ r w', (Builtin.append_ #[T, T] ty #[a.eval x, a.eval y]).run P w = .ok r w' → (execOp a.eval ⟨dst, .call ⟨.builtin .append, #[x, y], #[T, T]⟩, ty, pos, aft, g⟩).run P w = .ok (.value r) w' := by
    intro r w' h
    simp [execOp, resolve, invoke, Go.builtin, Sem.run_bind, h]
  have hlim : (xs ++ ys).length ≤ lim := by rw [List.length_append]; simp only [lim]; omega
  -- a row's cells
  have hrow : ∀ {id : Nat} {o : Operand} {xs : List t.D}, evO fr o = some (.os id) → hget H id = some (.row t xs) → ∃ a0 len cap old post b, a.eval o = .slice a0 len cap ∧ len = xs.length ∧ len ≤ cap ∧ old.length = len * i.size ∧ (∀ u ∈ old, u.oneCell' = true) ∧
      ((a0 = none ∧ len = 0 ∧ cap = 0 ∧ old = [] ∧ ρ id = none) ∨ ∃ c T', a0 = some ⟨b, 0, none⟩ ∧ w.heap[b]? = some (.cells c T' (0, 0)) ∧ c.toList = old ++ post ∧ c.size = cap * i.size ∧ ρ id = some (b, cap, len)) := by
    intro id o xs hx hg
    obtain ⟨hl, hor⟩ := hk.get hg
    rcases hor with ⟨h3, h4, h5⟩ | ⟨b, cap, c, T', F, mid, post, h3, h4, h5, h6, h7, h8, h9⟩
    · rcases s.ev hx with ⟨_, e⟩ | ⟨b', cap', len, hx', e⟩
      · subst h4
        exact ⟨none, 0, 0, [], [], 0, e, rfl, Nat.le_refl _, by simp, by simp, .inl ⟨rfl, rfl, rfl, rfl, h3⟩⟩
      · rw [h3] at hx'; cases hx'
    · rcases s.ev hx with ⟨hx', _⟩ | ⟨b', cap', len, hx', e⟩
      · rw [h3] at hx'; cases hx'
      · rw [h3] at hx'
        obtain ⟨rfl, rfl, rfl⟩ : b = b' ∧ cap = cap' ∧ List.length (α := t.D) xs = len := by simpa using hx'
        exact ⟨_, _, cap, mid, post, b, e, rfl, h8, by rw [hsz]; exact RelL.len (fun x c F h => Rc.len t h) h6, RelL.all (fun x c F h => Rc.one t h) h6, .inr ⟨c, T', rfl, h4, h5, by rw [hsz]; exact h9.1, h3⟩⟩
  obtain ⟨a0, len, cap, old, post, b, hvx, hlen, hlc, hol, _, hb⟩ := hrow hx hg
  obtain ⟨ya, ylen, ycap, news, ypost, yb, hvy, hylen, _, hnl, hn1, hyb⟩ := hrow hy hg2
  have hfc : ∀ w' : World, w'.heap = w.heap → (Builtin.firstCells i.size ys.length (a.eval y)).run P w' = .ok news.toArray w' := by
    intro w' hw
    rcases hyb with ⟨rfl, rfl, rfl, rfl, _⟩ | ⟨c, T', rfl, h2, h3, h4, _⟩
    · rw [hvy, ← hylen]; simp [Builtin.firstCells]
    · rw [hvy, hsz, ← hylen]
      exact firstCells_row (p := []) hw h2 (by simpa using h3) rfl (by rw [← hsz]; exact hnl)
  have happ := run_append (P := P) (ty := ty) (T := T) (E := E) (i := i) (z := z) (x := a.eval y) (m := ys.length) (news := news) (w := w) ht hi hz hzs hby' ⟨ya, ycap, by rw [hvy, hylen]⟩ hfc (by rw [← hylen]; exact hnl) hn1 (len := len) (cap := cap) (by rw [hlen]; exact hroom) hlc (old := old) (post := post) (b := b) (a0 := a0) hol
    (by rcases hb with ⟨h1, h2, h3, h4, _⟩ | ⟨c, T', h1, h2, h3, h4, _⟩
        · exact .inl ⟨h1, h2, h3, h4⟩
        · exact .inr ⟨c, T', h1, h2, h3, h4⟩)
  rw [← hvx] at happ
  have hnewlen : len + ys.length = (xs ++ ys).length := by rw [List.length_append, hlen]
  have hmem := hget_mem hg
  have hmem2 := hget_mem hg2
  -- the blocks behind both, whatever the list of blocks is
  have both : ∀ ℓ', HeapOK ρ (World.hf w) H ℓ' → ∃ F, (∀ {h' : Hf}, (∀ x ∈ F, h' x = World.hf w x) → RelL (Rc h' t) (xs ++ ys) (old ++ news) F) ∧ F.Nodup ∧ (∀ x ∈ F, x < w.heap.size) ∧ (∀ x ∈ F, x ∈ ℓ' id ∨ x ∈ ℓ' id2) ∧ (∀ b k, ρ id = some (b, k) → b ∈ ℓ' id ∧ b ∉ F) ∧ NoFz (World.hf w) F := by
    intro ℓ' hk'
    obtain ⟨F, r1, m1, n1, k1, z1⟩ := rowF hk' hg (old := old) (post := post) (by rw [hol, hlen, hsz]) (by
      rcases hb with ⟨h1, h2, h3, h4, h5⟩ | ⟨c, T', h1, h2, h3, h4, h5⟩
      · exact .inl ⟨h5, h4⟩
      · exact .inr ⟨_, _, _, c, T', h5, h2, h3⟩)
    obtain ⟨F2, r2, m2, n2, k2, z2⟩ := rowF hk' hg2 (old := news) (post := ypost) (by rw [hnl, hylen, hsz]) (by
      rcases hyb with ⟨h1, h2, h3, h4, h5⟩ | ⟨c, T', h1, h2, h3, h4, h5⟩
      · exact .inl ⟨h5, h4⟩
      · exact .inr ⟨_, _, _, c, T', h5, h2, h3⟩)
    have hdj := hk'.dj _ hmem _ hmem2 hne'
    refine ⟨F ++ F2, fun {h'} hs => RelL.append (RelL.mono (fun x c F' hF hc => hc.same t (fun b hb => hs b (List.mem_append_left _ (hF b hb)))) r1) (RelL.mono (fun x c F' hF hc => hc.same t (fun b hb => hs b (List.mem_append_right _ (hF b hb)))) r2),
      List.nodup_append.2 ⟨n1, n2, fun x h1 y h2 e => hdj x (m1 x h1) (e ▸ m2 y h2)⟩, fun x hx' => ?_, fun x hx' => ?_, fun b k hρ => ⟨(k1 b k hρ).1, fun h => ?_⟩, z1.append z2⟩
    · rcases List.mem_append.1 hx' with h | h
      · exact hf_lt (hk'.there hmem x (m1 x h))
      · exact hf_lt (hk'.there hmem2 x (m2 x h))
    · rcases List.mem_append.1 hx' with h | h
      · exact .inl (m1 x h)
      · exact .inr (m2 x h)
    · rcases List.mem_append.1 h with h | h
      · exact (k1 b k hρ).2 h
      · exact hdj b (k1 b k hρ).1 (m2 b h)
  rcases happ with ⟨hfit, ⟨rfl, hrun⟩ | ⟨c', rfl, hc', hcs', hrun⟩⟩ | ⟨nc, c', hle, hcs', ⟨q, hq⟩, hrun⟩
  · rcases hb with ⟨_, rfl, rfl, rfl, _⟩ | ⟨c, T', h1, _⟩
    · have hnil : xs ++ ys = [] := List.eq_nil_of_length_eq_zero (by omega)
      refine ⟨_, _, upd ρ id' none, hexec _ _ hrun, s.replace [id, id2] (p := none) hid hK rfl rfl rfl rfl (Nat.le_refl _) (fun b hb _ => rfl) (fun b k h => by cases h) (fun ℓ' hk' hM => ⟨[], ⟨hlim, .inl ⟨upd_same _ _ _, hnil, rfl⟩⟩, by simp, by simp⟩), .inl ⟨upd_same _ _ _, rfl⟩⟩
    · cases h1
  · -- in place
    rcases hb with ⟨h1, _⟩ | ⟨c, T', h1, h2, h3, h4, h5⟩
    · cases h1
    · obtain ⟨f1, f2, f3, f4⟩ := setRow_facts w b c'
      refine ⟨_, _, upd ρ id' (some (b, cap, (xs ++ ys).length)), hexec _ _ hrun, s.replace [id, id2] (p := some (b, cap, (xs ++ ys).length)) hid hK rfl f1 f2 f3 (by rw [f4]; exact Nat.le_refl _) (fun k hk' hne => setRow_other w b k c' (fun e => by subst e; exact hne _ hmem (by simp) _ h5)) (fun b' k h => by
          simp only [Option.some.injEq, Prod.mk.injEq] at h
          exact .inl ⟨_, hmem, by simp, _, by rw [← h.1]; exact h5⟩) (fun ℓ' hk' hM => ?_), .inr ⟨b, cap, _, upd_same _ _ _, by rw [hnewlen]⟩⟩
      obtain ⟨F, hR, hn, hlt, hin, hbF, hzF⟩ := both ℓ' hk'
      obtain ⟨hbl, hbn⟩ := hbF _ _ h5
      refine ⟨b :: F, ⟨hlim, .inr ⟨b, cap, c', T', F, old ++ news, post.drop news.length, upd_same _ _ _, setRow_heap w b c c' T' (0, 0) h2, hc', hR (fun x hx => setRow_other w b x c' (fun e => hbn (e ▸ hx))), rfl, by rw [← hnewlen]; exact hfit, by rw [← hsz]; exact hcs', hzF.same (fun x hx => setRow_other w b x c' (fun e => hbn (e ▸ hx)))⟩⟩, List.nodup_cons.2 ⟨hbn, hn⟩, fun x hx' => ?_⟩
      rcases List.mem_cons.1 hx' with rfl | hx'
      · exact .inl ⟨_, hmem, by simp, hbl⟩
      · rcases hin x hx' with h | h
        · exact .inl ⟨_, hmem, by simp, h⟩
        · exact .inl ⟨_, hmem2, by simp, h⟩
  · -- a new array
    refine ⟨_, _, upd ρ id' (some (w.heap.size, nc, (xs ++ ys).length)), hexec _ _ hrun, s.replace [id, id2] (p := some (w.heap.size, nc, (xs ++ ys).length)) (w' := w.drew.alloc (.cells c' E)) hid hK rfl rfl rfl rfl (by simp) (fun k hk' _ => heap_alloc_lt w.drew _ k hk') (fun b' k h => by
        simp only [Option.some.injEq, Prod.mk.injEq] at h
        exact .inr (by omega)) (fun ℓ' hk' hM => ?_), .inr ⟨_, nc, _, upd_same _ _ _, by rw [hnewlen]⟩⟩
    obtain ⟨F, hR, hn, hlt, hin, hbF, hzF⟩ := both ℓ' hk'
    refine ⟨w.heap.size :: F, ⟨hlim, .inr ⟨w.heap.size, nc, c', E, F, old ++ news, q, upd_same _ _ _, hf_alloc_new (w := w.drew), hq, hR (fun x hx => heap_alloc_lt w.drew _ x (hlt x hx)), rfl, by rw [← hnewlen]; exact hle, by rw [← hsz]; exact hcs', hzF.same (fun x hx => heap_alloc_lt w.drew _ x (hlt x hx))⟩⟩, List.nodup_cons.2 ⟨fun h => by have := hlt _ h; omega, hn⟩, fun x hx' => ?_⟩
    rcases List.mem_cons.1 hx' with rfl | hx'
    · exact .inr (Nat.le_refl _)
    · rcases hin x hx' with h | h
      · exact .inl ⟨_, hmem, by simp, h⟩
      · exact .inl ⟨_, hmem2, by simp, h⟩
end
end Go.GA
end
