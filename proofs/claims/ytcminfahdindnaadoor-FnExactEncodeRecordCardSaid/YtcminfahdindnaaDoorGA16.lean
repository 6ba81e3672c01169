/- Words for printed walks: results that lie in cells, plain loops and joins, sums without overflow. -/
import Derived.Test.YtcminfahdindnaaDoorGA15
namespace Go.GA
open Go Go.RowKit

/-- 'a is r', told so that arithmetic does not look at it -/
def Is {α : Type} (a r : α) : Prop := a = r
theorem is_mk {α : Type} {a r : α} (h : a = r) : Is a r := h
theorem is_eq {α : Type} {a r : α} (h : Is a r) : a = r := h
theorem is_some {α : Type} {a r : α} (h : Is (some a) (some r)) : a = r := Option.some.inj h
theorem is_if {α : Type} {c : Prop} {_ : Decidable c} {a b r : α} (hc : c) (h : Is (if c then a else b) r) : Is a r := (if_pos hc).symm.trans h
theorem is_else {α : Type} {c : Prop} {_ : Decidable c} {a b r : α} (hc : ¬ c) (h : Is (if c then a else b) r) : Is b r := (if_neg hc).symm.trans h
theorem is_guard {α : Type} {c : Prop} {_ : Decidable c} {m : Option α} {r : α} (h : Is (if c then m else none) (some r)) : c ∧ Is m (some r) := guard_some h
theorem is_bind {α β : Type} {m : Option α} {f : α → Option β} {r : β} (h : Is (m.bind f) (some r)) : ∃ x, m = some x ∧ Is (f x) (some r) := bind_some h

/-- d rounds, counted by i -/
def cnt {S R : Type} (f : Int → S → (S → R) → (Int → S → R) → R) (k : Int → S → R) : Nat → Int → S → R
  | 0, i, s => k i s
  | d + 1, i, s => f i s (fun s' => cnt f k d (i + 1) s') k
/-- rounds, as long as there is fuel -/
def whl {S R : Type} (f : S → (S → Option R) → Option R) : Nat → S → Option R
  | 0, _ => none
  | d + 1, s => f s (fun s' => whl f d s')
/-- several ways on to the same place -/
def jn {S R : Type} (k : S → R) (f : (S → R) → R) : R := f k

theorem is_cnt0 {S R : Type} {f : Int → S → (S → R) → (Int → S → R) → R} {k : Int → S → R} {i : Int} {s : S} {r : R} (h : Is (cnt f k 0 i s) r) : Is (k i s) r := h
theorem is_cntS {S R : Type} {f : Int → S → (S → R) → (Int → S → R) → R} {k : Int → S → R} {d : Nat} {i : Int} {s : S} {r : R} (h : Is (cnt f k (d + 1) i s) r) : Is (f i s (fun s' => cnt f k d (i + 1) s') k) r := h
theorem is_whlS {S R : Type} {f : S → (S → Option R) → Option R} {d : Nat} {s : S} {r : Option R} (h : Is (whl f (d + 1) s) r) : Is (f s (fun s' => whl f d s')) r := h

section
variable {P : Program} {Γ : Ctx} {n : Sz} {Q : Exit → Act → World → Prop} {c rest : Code}
theorem al_cnt {S R : Type} {f : Int → S → (S → R) → (Int → S → R) → R} {k : Int → S → R} {r : R} (F : Int → S → Fr) (G : Int → S → Hp) (I : Nat → Int → S → Prop) {d : Nat} {i : Int} {s : S} (h : Is (cnt f k d i s) r) (hI : I d i s)
    (round : ∀ d i s, I d i s → Is (cnt f k d i s) r → (∀ d' i' s', d' < d → I d' i' s' → Is (cnt f k d' i' s') r → AL P Γ n c Q (F i' s') (G i' s')) → AL P Γ n c Q (F i s) (G i s)) : AL P Γ n c Q (F i s) (G i s) := by
  induction d using Nat.strongRecOn generalizing i s with
  | _ d ih => exact round d i s hI h (fun d' i' s' hd hI' h' => ih d' hd h' hI')
theorem al_whl {S R : Type} {f : S → (S → Option R) → Option R} {r : R} (F : S → Fr) (G : S → Hp) (I : S → Prop) {d : Nat} {s : S} (h : Is (whl f d s) (some r)) (hI : I s)
    (round : ∀ d s, I s → Is (whl f (d + 1) s) (some r) → (∀ s', I s' → Is (whl f d s') (some r) → AL P Γ n c Q (F s') (G s')) → AL P Γ n c Q (F s) (G s)) : AL P Γ n c Q (F s) (G s) := by
  induction d generalizing s with
  | zero => cases h
  | succ d ih => exact round d s hI h (fun s' hI' h' => ih h' hI')
/-- a piece of code that is left on several ways -/
theorem aw_join {S R : Type} {k : S → R} {f : (S → R) → R} {r : R} {fr : Fr} {H : Hp} (F : S → Fr) (G : S → Hp) (I : S → Prop) (h : Is (jn k f) r) (hrest : ∀ s, I s → Is (k s) r → AW P Γ n rest Q (F s) (G s))
    (hbr : Is (f k) r → (∀ s, I s → Is (k s) r → AW P Γ n rest Q (F s) (G s)) → AW P Γ n c (Exit.then (rest.wp P Q) Q) fr H) : AW P Γ n (c.seq rest) Q fr H := aw_seq (hbr h hrest)
end

/-! ### Numbers without overflow -/
section
variable {P : Program} {fr : Fr} {H : Hp} {dst : Option Nat} {ty : TypeId} {pos : String} {aft : Array Edge} {g : Option (Nat × Bool)} {xT yT : TypeId} {x y : Operand} {a b : Int} {k : IntKind}
theorem r_addI (hx : evO fr x = some (.int k a)) (hy : evO fr y = some (.int k b)) (h : k.wrap (a + b) = a + b) : Reads P ⟨dst, .binOp .add xT x y yT, ty, pos, aft, g⟩ fr H (.int k (a + b)) := by
  have := r_add (P := P) (H := H) (dst := dst) (ty := ty) (pos := pos) (aft := aft) (g := g) (xT := xT) (yT := yT) hx hy; rwa [h] at this
theorem r_subI (hx : evO fr x = some (.int k a)) (hy : evO fr y = some (.int k b)) (h : k.wrap (a - b) = a - b) : Reads P ⟨dst, .binOp .sub xT x y yT, ty, pos, aft, g⟩ fr H (.int k (a - b)) := by
  have := r_sub (P := P) (H := H) (dst := dst) (ty := ty) (pos := pos) (aft := aft) (g := g) (xT := xT) (yT := yT) hx hy; rwa [h] at this
theorem r_mulI (hx : evO fr x = some (.int k a)) (hy : evO fr y = some (.int k b)) (h : k.wrap (a * b) = a * b) : Reads P ⟨dst, .binOp .mul xT x y yT, ty, pos, aft, g⟩ fr H (.int k (a * b)) := by
  have := r_mul (P := P) (H := H) (dst := dst) (ty := ty) (pos := pos) (aft := aft) (g := g) (xT := xT) (yT := yT) hx hy; rwa [h] at this
end
theorem and_t {a b : Bool} (h : (a && b) = true) : a = true ∧ b = true := by simpa using h
theorem and_l {a b : Bool} (h : (a && b) = true) : a = true := (and_t h).1
theorem or_f {a b : Bool} (h : (a || b) = false) : a = false ∧ b = false := by simpa using h
theorem not_t {a : Bool} (h : (!a) = true) : a = false := by simpa using h
theorem not_f {a : Bool} (h : (!a) = false) : a = true := by simpa using h
theorem d_t {p : Prop} {_ : Decidable p} (h : decide p = true) : p := of_decide_eq_true h
theorem d_f {p : Prop} {_ : Decidable p} (h : decide p = false) : ¬ p := of_decide_eq_false h
theorem nk {n : Sz} (h : n.K = 0) {σ : Nat → Nat} : ∀ i, i < n.K → σ i = i := fun i hi => absurd hi (by omega)

/-! ### Results -/
section
variable {P : Program} {Γ : Ctx} {n : Sz} {fr fr' : Fr} {H H' : Hp} {fn : Func} {R : AV → Hp → Prop}
/-- an own variable, looked at from where it is not written -/
theorem ad_ref {σ : Nat → Nat} {id off : Nat} {t : Ty} {x : t.D} {cs : List Comp} (hg : hget H id = some (.var cs)) (hc : compAt cs off = some (.cell (ofTy t x))) (ha : t.agg = false) (hn : ∀ e' ∈ H', σ e'.1 ≠ id) : Ad H H' σ (.ref id off) (.cptr t x) := fun ρ h ℓ hk hm hd v hx => by
  obtain ⟨b, k, hρ, rfl⟩ := hx
  have hmem := hget_mem hg
  obtain ⟨b', k', c, T, F, h1, h2, h3, e⟩ := hk.get hg
  rw [hρ] at h1
  obtain ⟨rfl, rfl⟩ : b = b' ∧ k = k' := by simpa using h1
  obtain ⟨p, m, q, F', ec, hp, ⟨v, cs', em, h5, h6, h7, h8⟩, hF'⟩ := comps_at h3 hc
  subst h7
  subst em
  have hb : ¬ ownB (ρ.map σ) H' b := hd _ hmem hn b (by rw [e]; simp)
  have hv : ∃ G, Rc h t x [v] G ∧ ∀ b ∈ G, ¬ ownB ρ H b := by
    cases t with
    | int k => exact ⟨[], ⟨by have e6 : v = .int k x := h6; rw [e6], rfl⟩, by simp⟩
    | bool => exact ⟨[], ⟨by have e6 : v = .bool x := h6; rw [e6], rfl⟩, by simp⟩
    | str => exact ⟨[], ⟨by have e6 : v = .string x := h6; rw [e6], rfl⟩, by simp⟩
    | slice t =>
      obtain ⟨G, ⟨cs, hc1, e1⟩, hG⟩ := h6
      obtain ⟨u, rfl⟩ := one_cell (t := .slice t) rfl hc1
      obtain rfl : v = u := e1
      exact ⟨G, hc1, hG⟩
    | arr n t => cases ha
    | unit => cases ha
    | pair a b => cases ha
  obtain ⟨G, hG1, hG2⟩ := hv
  exact ⟨b, off, G, c, T, (0, 0), p, [v], q, rfl, hb, h2, by simpa using ec, hp, hG1, fun b' hb' => fun ho => hG2 b' hb' (hm b' ho)⟩
/-- an own array, looked at from where it is not written -/
theorem ad_refa {σ : Nat → Nat} {id off m : Nat} {t : Ty} {xs : List t.D} {cs : List Comp} (hf : t.flat = true) (hg : hget H id = some (.var cs)) (hc : compAt cs off = some (.arr t m xs)) (hn : ∀ e' ∈ H', σ e'.1 ≠ id) : Ad H H' σ (.ref id off) (.cptr (.arr m t) xs) := fun ρ h ℓ hk hm hd v hx => by
  obtain ⟨b, k, hρ, rfl⟩ := hx
  have hmem := hget_mem hg
  obtain ⟨b', k', c, T, F, h1, h2, h3, e⟩ := hk.get hg
  rw [hρ] at h1
  obtain ⟨rfl, rfl⟩ : b = b' ∧ k = k' := by simpa using h1
  obtain ⟨p, mm, q, F', ec, hp, ⟨c1, c2, F1, F2, em, _, h5, h6, _⟩, hF'⟩ := comps_at h3 hc
  subst h6
  obtain rfl : mm = c1 := by simpa using em
  have hF1 := Rc.flat (.arr m t) hf h5
  subst hF1
  have hb : ¬ ownB (ρ.map σ) H' b := hd _ hmem hn b (by rw [e]; simp)
  exact ⟨b, off, [], c, T, (0, 0), p, mm, q, rfl, hb, h2, by simpa using ec, hp, h5, by simp⟩

def ResL (P : Program) (fr : Fr) (H : Hp) : List ResultVar → List AV → Prop
  | [], [] => True
  | .tmp t :: l, x :: xs => get fr t = some x ∧ ResL P fr H l xs
  | .cell t T :: l, x :: xs => ((∃ id off, get fr t = some (.ref id off)) ∧ Reads P ⟨some 0, .load T (.tmp t), 0, "", #[], none⟩ fr H x) ∧ ResL P fr H l xs
  | _, _ => False
def oneRes (tmps : Array Value) : ResultVar → Sem Value
  | .tmp t => pure (tmps.getD t undef)
  | .cell a t => do loadVar t (← asAddr (tmps.getD a undef))
theorem resL_one {l : List ResultVar} {rv : ResultVar} {x : AV} {xs : List AV} {ρ : Rho} {w : World} {a : Act} (s : SIM Γ n ρ w a fr H) (h : ResL P fr H (rv :: l) (x :: xs)) :
    (∃ v, RA ρ (World.hf w) (ownB ρ H) x v ∧ (oneRes a.tmps rv).run P w = .ok v w) ∧ ResL P fr H l xs := by
  cases rv with
  | tmp t => exact ⟨⟨_, (s.fr t x h.1).2, rfl⟩, h.2⟩
  | cell t T =>
    obtain ⟨⟨⟨id, off, hg⟩, hr⟩, hl⟩ := h
    obtain ⟨v, h1, h2⟩ := hr Γ n ρ w a s
    refine ⟨⟨v, h1, ?_⟩, hl⟩
    have h3 := h2 w (Kept.refl w)
    obtain ⟨b, k, hρ, e⟩ := (s.fr t _ hg).2
    have e' : a.eval (.tmp t) = .pointer (some ⟨b, off, none⟩) := e
    simp only [execOp, Instr.loadAt, Instr.sureAddr, e', Sem.run_bind, Sem.run_pure, Result.andThen_ok] at h3
    simp only [oneRes, e, asAddr, Sem.run_bind, Sem.run_pure, Result.andThen_ok]
    cases hh : (loadVar T ⟨b, off, none⟩).run P w with
    | ok u w' => rw [hh] at h3; simpa using h3
    | halt h w' => rw [hh] at h3; simp at h3
theorem resL_run {ρ : Rho} {w : World} {a : Act} (s : SIM Γ n ρ w a fr H) : ∀ {l : List ResultVar} {xs : List AV}, ResL P fr H l xs → ∃ vs, RAs ρ (World.hf w) (ownB ρ H) xs vs ∧ (l.mapM (oneRes a.tmps)).run P w = .ok vs w
  | [], [], _ => ⟨[], rfl, rfl⟩
  | rv :: l, x :: xs, h => by
    obtain ⟨⟨v, h1, h2⟩, h3⟩ := resL_one s h
    obtain ⟨vs, h4, h5⟩ := resL_run s h3
    exact ⟨v :: vs, ⟨v, vs, rfl, h1, h4⟩, by simp [List.mapM_cons, Sem.run_bind, h2, h5]⟩
  | [], _ :: _, h => h.elim
  | .tmp _ :: _, [], h => h.elim
  | .cell _ _ :: _, [], h => h.elim
theorem results_run {a : Act} {w : World} {l : List ResultVar} {vs : List Value} (hl : fn.results = l.toArray) (h : (l.mapM (oneRes a.tmps)).run P w = .ok vs w) :
    (results fn a.tmps).run P w = .ok (if hh : vs.length = 1 then vs[0] else .tuple vs.toArray) w := by
  have e : results fn a.tmps = (do let vs ← fn.results.mapM (oneRes a.tmps); pure (if h : vs.size = 1 then vs[0] else .tuple vs)) := by
    rfl
  rw [e, hl, List.mapM_toArray]
  simp only [Sem.run_bind, map_eq_pure_bind, h, Result.andThen_ok, Sem.run_pure]
  simp
def tupAV : List AV → AV
  | [x] => x
  | xs => .tup xs
theorem tup_ra {ρ : Rho} {h : Hf} {M : Nat → Prop} {xs : List AV} {vs : List Value} (hx : RAs ρ h M xs vs) : RA ρ h M (tupAV xs) (if hh : vs.length = 1 then vs[0] else .tuple vs.toArray) := by
  match xs, hx with
  | [], hx => simp only [RAs] at hx; subst hx; exact ⟨[], rfl, rfl⟩
  | [x], ⟨v, vs', e, h1, h2⟩ => simp only [RAs] at h2; subst h2; subst e; exact h1
  | x :: y :: xs, hx =>
    have hx' := hx
    obtain ⟨v, vs', e, h1, v', vs'', e', h2, h3⟩ := hx
    subst e'; subst e
    have : ¬ (v :: v' :: vs'').length = 1 := by simp
    rw [dif_neg this]
    exact ⟨_, rfl, hx'⟩
theorem aq_finV {l : List ResultVar} {xs : List AV} (σ : Nat → Nat) (ys : List AV) (H' : Hp) (hl : fn.results = l.toArray) (hr : ResL P fr H l xs) (hA : Ads H H' σ xs ys) (hS : SubH H H' σ H') (hi : injB σ (hkeys H') = true) (hK : ∀ i, i < n.K → σ i = i)
    (hR : R (tupAV ys) H') : AQ Γ n (Fin P Γ n fn R) fr H := by
  intro ρ w a s
  obtain ⟨ℓ, hk, hb⟩ := s.heap
  obtain ⟨hm0, hm, hd, hk'⟩ := heap_sub hk (s.apart hb) hS hi
  obtain ⟨vs, h1, h2⟩ := resL_run s hr
  have h3 := ads_ok hk hm hd hA h1
  refine ⟨s.defers.1, _, _, H', ρ.map σ, _, results_run hl h2, hR, fun i hi => by show ρ (σ i) = _; rw [hK i hi]; exact s.keep i hi, s.ext, hk', ?_, fun b hb' => s.own b (hm0 b hb'), tup_ra h3, s.defers.2.1⟩
  rintro b ⟨e, he, hb'⟩
  obtain ⟨A, hA, _⟩ := subH_mem hS he
  exact hb _ (hget_mem hA) b hb'
theorem aq_finx {l : List ResultVar} {xs : List AV} (σ : Nat → Nat) (ys : List AV) (H' : Hp) (hl : fn.results = l.toArray) (hr : ResL P fr H l xs) (hA : Ads H H' σ xs ys) (hS : SubH H H' σ H') (hi : injB σ (hkeys H') = true) (hK : ∀ i, i < n.K → σ i = i)
    (hres : (tupAV ys).res = true) (hh : heapRes H' = true) (hR : R (tupAV ys) H') : AQ Γ n (Fin P Γ n fn (WithRes R)) fr H := aq_finV σ ys H' hl hr hA hS hi hK ⟨hR, hres, hh⟩
end
end Go.GA
