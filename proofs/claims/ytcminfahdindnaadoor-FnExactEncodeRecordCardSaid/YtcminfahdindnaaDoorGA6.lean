/- Names of blocks renamed; contracts of functions; calls. -/
import Derived.Test.YtcminfahdindnaaDoorGA5
namespace Go.GA
open Go Go.RowKit

mutual
def AV.ren (σ : Nat → Nat) : AV → AV
  | .ref id off => .ref (σ id) off
  | .elem id off sz i => .elem (σ id) off sz i
  | .elem2 id off sz i sz2 j => .elem2 (σ id) off sz i sz2 j
  | .os id => .os (σ id)
  | .view id off sz l len => .view (σ id) off sz l len
  | .fn f caps => .fn f (AV.renL σ caps)
  | .tup xs => .tup (AV.renL σ xs)
  | .st xs => .st (AV.renL σ xs)
  | .gd g x => .gd g (x.ren σ)
  | .cav x => .cav (x.ren σ)
  | .int k n => .int k n
  | .bool b => .bool b
  | .str s => .str s
  | .v t x => .v t x
  | .cptr t x => .cptr t x
  | .nilsl => .nilsl
  | .nilp => .nilp
  | .nilf => .nilf
  | .junk => .junk
  | .yl l => .yl l
  | .ov id m => .ov (σ id) m
def AV.renL (σ : Nat → Nat) : List AV → List AV
  | [] => []
  | x :: xs => x.ren σ :: AV.renL σ xs
end
def Comp.ren (σ : Nat → Nat) : Comp → Comp
  | .cell a => .cell (a.ren σ)
  | .arr t n xs => .arr t n xs
def compsRen (σ : Nat → Nat) : List Comp → List Comp
  | [] => []
  | c :: cs => c.ren σ :: compsRen σ cs
def Blk.ren (σ : Nat → Nat) : Blk → Blk
  | .var cs => .var (compsRen σ cs)
  | .row t xs => .row t xs
def hren (σ : Nat → Nat) : Hp → Hp
  | [] => []
  | (i, b) :: H => (σ i, b.ren σ) :: hren σ H

/-- names seen through others -/
def Rho.map (ρ : Rho) (σ : Nat → Nat) : Rho := ⟨fun i => ρ (σ i), ρ.N⟩
theorem one_ren {σ : Nat → Nat} (x : AV) : (x.ren σ).one = x.one := by cases x <;> rfl
mutual
theorem ra_ren {ρ : Rho} {h : Hf} {M : Nat → Prop} {σ : Nat → Nat} : ∀ (x : AV) (v : Value), RA ρ h M (x.ren σ) v ↔ RA (ρ.map σ) h M x v
  | .int .., v => by simp only [AV.ren, RA, Rho.map]
  | .bool _, v => by simp only [AV.ren, RA, Rho.map]
  | .str _, v => by simp only [AV.ren, RA, Rho.map]
  | .v t x, v => by simp only [AV.ren, RA, Rho.map]
  | .cptr t x, v => by simp only [AV.ren, RA, Rho.map]
  | .ref id off, v => by simp only [AV.ren, RA, Rho.map]
  | .elem id off sz i, v => by simp only [AV.ren, RA, Rho.map]
  | .elem2 id off sz i sz2 j, v => by simp only [AV.ren, RA, Rho.map]
  | .os id, v => by simp only [AV.ren, RA, Rho.map]
  | .view id off sz l len, v => by simp only [AV.ren, RA, Rho.map]
  | .nilsl, v => by simp only [AV.ren, RA, Rho.map]
  | .nilp, v => by simp only [AV.ren, RA, Rho.map]
  | .nilf, v => by simp only [AV.ren, RA, Rho.map]
  | .fn f caps, v => by simp only [AV.ren, RA, Rho.map, ras_ren caps]
  | .tup xs, v => by simp only [AV.ren, RA, Rho.map, ras_ren xs]
  | .st xs, v => by simp only [AV.ren, RA, Rho.map, ras_ren xs]
  | .cav x, v => by simp only [AV.ren, RA, Rho.map, one_ren, ra_ren x]
  | .gd g x, v => by simp only [AV.ren, RA, Rho.map]; cases g <;> simp [ra_ren x v, Rho.map]
  | .junk, v => by simp only [AV.ren, RA, Rho.map]
  | .yl _, v => by simp only [AV.ren, RA, Rho.map]
  | .ov id m, v => by simp only [AV.ren, RA, Rho.map]
theorem ras_ren {ρ : Rho} {h : Hf} {M : Nat → Prop} {σ : Nat → Nat} : ∀ (xs : List AV) (vs : List Value), RAs ρ h M (AV.renL σ xs) vs ↔ RAs (ρ.map σ) h M xs vs
  | [], vs => by simp only [AV.renL, RAs]
  | x :: xs, vs => by simp only [AV.renL, RAs, ra_ren x, ras_ren xs]
end
theorem rcomps_ren {ρ : Rho} {h : Hf} {M : Nat → Prop} {σ : Nat → Nat} : ∀ (cs : List Comp) (vs F), RComps ρ h M (compsRen σ cs) vs F ↔ RComps (ρ.map σ) h M cs vs F
  | [], vs, F => Iff.rfl
  | .cell a :: r, vs, F => by simp only [compsRen, Comp.ren, RComps, one_ren, ra_ren, rcomps_ren r]
  | .arr t n xs :: r, vs, F => by simp only [compsRen, Comp.ren, RComps, rcomps_ren r]
theorem rblk_ren {ρ : Rho} {h : Hf} {M : Nat → Prop} {σ : Nat → Nat} {id : Nat} : ∀ (B : Blk) (L), RBlk ρ h M (σ id) (B.ren σ) L ↔ RBlk (ρ.map σ) h M id B L
  | .var cs, L => by simp only [Blk.ren, RBlk, rcomps_ren, Rho.map]
  | .row t xs, L => by simp only [Blk.ren, RBlk, Rho.map]
theorem mem_hren {σ : Nat → Nat} : ∀ {H : Hp} {e}, e ∈ hren σ H ↔ ∃ e' ∈ H, e = (σ e'.1, e'.2.ren σ)
  | [], e => by simp [hren]
  | (i, b) :: H, e => by simp only [hren, List.mem_cons, mem_hren (H := H)]; constructor
                         · rintro (rfl | ⟨e', h, rfl⟩)
                           · exact ⟨(i, b), .inl rfl, rfl⟩
                           · exact ⟨e', .inr h, rfl⟩
                         · rintro ⟨e', rfl | h, rfl⟩
                           · exact .inl rfl
                           · exact .inr ⟨e', h, rfl⟩
theorem nam_ren {ρ : Rho} {σ : Nat → Nat} {H : Hp} {b : Nat} : namB ρ (hren σ H) b ↔ namB (ρ.map σ) H b := by
  constructor
  · rintro ⟨e, he, k, hk⟩
    obtain ⟨e', he', rfl⟩ := mem_hren.1 he
    exact ⟨e', he', k, hk⟩
  · rintro ⟨e, he, k, hk⟩
    exact ⟨_, mem_hren.2 ⟨e, he, rfl⟩, k, hk⟩
theorem own_ren {ρ : Rho} {σ : Nat → Nat} {H : Hp} {b : Nat} : ownB ρ (hren σ H) b ↔ ownB (ρ.map σ) H b := or_congr nam_ren Iff.rfl

/-! ### Contracts -/
mutual
/-- a result: no memory behind it but own blocks -/
def AV.res : AV → Bool
  | .int .. => true
  | .bool _ => true
  | .str _ => true
  | .v t _ => t.flat
  | .ref .. => true
  | .os _ => true
  | .nilsl => true
  | .nilp => true
  | .nilf => true
  | .tup xs => AV.resL xs
  | .st xs => AV.resL xs
  | .fn _ caps => AV.resL caps
  | _ => false
def AV.resL : List AV → Bool
  | [] => true
  | x :: xs => x.res && AV.resL xs
end

/-- the cells of own variables that a call hands back -/
def compsRes : List Comp → Bool
  | [] => true
  | .cell a :: cs => a.res && compsRes cs
  | .arr .. :: cs => compsRes cs
def heapRes : Hp → Bool
  | [] => true
  | (_, .var cs) :: H => compsRes cs && heapRes H
  | (_, .row ..) :: H => heapRes H

def inL (ℓ : Nat → List Nat) (H : Hp) (b : Nat) : Prop := ∃ e ∈ H, b ∈ ℓ e.1

/-- what a call leaves -/
structure Post (R : AV → Hp → Prop) (ρ : Rho) (w : World) (H : Hp) (ℓ : Nat → List Nat) (v : Value) (w' : World) (r : AV) (H' : Hp) (ρ' : Rho) (ℓ' : Nat → List Nat) : Prop where
  post : R r H'
  keep : ∀ e ∈ H, ρ' e.1 = ρ e.1
  ext : Ext (namB ρ H) w w'
  heap : HeapOK ρ' (World.hf w') H' ℓ'
  old : ∀ b, inL ℓ' H' b → inL ℓ H b ∨ w.heap.size ≤ b
  own : ∀ b, namB ρ' H' b → namB ρ H b ∨ w.heap.size ≤ b
  ra : RA ρ' (World.hf w') (ownB ρ' H') r v
  nn : ρ'.N = ρ.N

/-- calls whose results may hold data that was there -/
def ACallsV (P : Program) (f : FuncId) (args : List AV) (H : Hp) (R : AV → Hp → Prop) : Prop :=
  ∀ ρ w vs ℓ, RAs ρ (World.hf w) (ownB ρ H) args vs → HeapOK ρ (World.hf w) H ℓ → (∀ b, ρ.N b → ¬ inL ℓ H b ∧ b < w.heap.size) → Laid P w (namB ρ H) →
    Calls P f vs.toArray w (fun e w' => ∃ v r H' ρ' ℓ', e = .returned v ∧ Post R ρ w H ℓ v w' r H' ρ' ℓ')
/-- no memory but own blocks behind what is left -/
def WithRes (R : AV → Hp → Prop) (r : AV) (H : Hp) : Prop := R r H ∧ r.res = true ∧ heapRes H = true
def ACalls (P : Program) (f : FuncId) (args : List AV) (H : Hp) (R : AV → Hp → Prop) : Prop := ACallsV P f args H (WithRes R)

theorem ACallsV.mono {P : Program} {f : FuncId} {args : List AV} {H : Hp} {R R' : AV → Hp → Prop} (h : ACallsV P f args H R) (hR : ∀ r H', R r H' → R' r H') : ACallsV P f args H R' := fun ρ w vs ℓ h1 h2 h3 h4 =>
  (h ρ w vs ℓ h1 h2 h3 h4).mono fun _ _ ⟨v, r, H', ρ', ℓ', e, p⟩ => ⟨v, r, H', ρ', ℓ', e, { p with post := hR _ _ p.post }⟩
theorem ACalls.mono {P : Program} {f : FuncId} {args : List AV} {H : Hp} {R R' : AV → Hp → Prop} (h : ACalls P f args H R) (hR : ∀ r H', R r H' → R' r H') : ACalls P f args H R' := ACallsV.mono h fun r H' h => ⟨hR r H' h.1, h.2⟩
theorem ACalls.v {P : Program} {f : FuncId} {args : List AV} {H : Hp} {R : AV → Hp → Prop} (h : ACalls P f args H R) : ACallsV P f args H R := ACallsV.mono h fun _ _ h => h.1

/-! ### Entering a function, and coming back -/
def argFr : Nat → List AV → Fr
  | _, [] => []
  | i, x :: xs => (i, x) :: argFr (i + 1) xs
theorem get_argFr : ∀ {xs : List AV} {i t : Nat} {x : AV}, get (argFr i xs) t = some x → ∃ j, t = i + j ∧ nthAV xs j = some x
  | y :: ys, i, t, x, h => by
    unfold argFr get at h
    cases e : Nat.beq i t with
    | true => rw [e] at h; simp only [cond_true, Option.some.injEq] at h; subst h; exact ⟨0, (Nat.eq_of_beq_eq_true e).symm, rfl⟩
    | false => rw [e] at h; obtain ⟨j, h1, h2⟩ := get_argFr h; exact ⟨j + 1, by omega, h2⟩
theorem ras_length {ρ : Rho} {h : Hf} {M : Nat → Prop} : ∀ {xs : List AV} {vs : List Value}, RAs ρ h M xs vs → vs.length = xs.length
  | [], _, h => by simp only [RAs] at h; subst h; rfl
  | x :: xs, _, h => by obtain ⟨v, vs', e, _, h2⟩ := h; subst e; simp [ras_length h2]
theorem nthAV_lt : ∀ {xs : List AV} {j : Nat} {x : AV}, nthAV xs j = some x → j < xs.length
  | y :: ys, 0, x, h => by simp
  | y :: ys, j + 1, x, h => by have := nthAV_lt (xs := ys) h; simp; omega

/-- the names 0 .. K-1 -/
def namesB (K : Nat) : Hp → Bool
  | [] => true
  | e :: H => Nat.blt e.1 K && namesB K H
theorem namesB_lt {K : Nat} : ∀ {H : Hp}, namesB K H = true → ∀ e ∈ H, e.1 < K
  | e :: H, h, x, hx => by
    simp only [namesB, Bool.and_eq_true] at h
    rcases List.mem_cons.1 hx with rfl | hx
    · simpa using h.1
    · exact namesB_lt h.2 x hx

/-- what the end of the body owes -/
def Fin (P : Program) (Γ : Ctx) (n : Sz) (fn : Func) (R : AV → Hp → Prop) (a : Act) (w : World) : Prop :=
  a.defers = Γ.dl ∧ ∃ v r H' ρ' ℓ', (results fn a.tmps).run P w = .ok v w ∧ R r H' ∧ (∀ i, i < n.K → ρ' i = Γ.ρ0 i) ∧ Ext Γ.M0 Γ.W0 w ∧ HeapOK ρ' (World.hf w) H' ℓ' ∧
    (∀ b, inL ℓ' H' b → Γ.L0 b ∨ Γ.W0.heap.size ≤ b) ∧ (∀ b, namB ρ' H' b → Γ.M0 b ∨ Γ.W0.heap.size ≤ b) ∧ RA ρ' (World.hf w) (ownB ρ' H') r v ∧ ρ'.N = Γ.ρ0.N
/-- the exits of a body -/
def BQ (P : Program) (Γ : Ctx) (n : Sz) (fn : Func) (R : AV → Hp → Prop) : Exit → Act → World → Prop
  | .normal => Fin P Γ n fn R
  | .ret => Fin P Γ n fn R
  | _ => fun _ _ => False

theorem ac_enterV {P : Program} {f : FuncId} {fn : Func} {c : Code} {args : List AV} {H : Hp} {R : AV → Hp → Prop} (n : Sz) (hf : P.funcs[f]? = some fn) (hb : fn.body = some c) (hn : fn.ntmps = n.n) (ha : Nat.ble args.length n.n = true) (hK : namesB n.K H = true)
    (hK' : n.K = H.length)
    (h : ∀ Γ, [LaidS P Γ] → AW P Γ n c (BQ P Γ n fn R) (argFr 0 args) H) : ACallsV P f args H R := by
  intro ρ w vs ℓ h1 h2 hN hLd
  have hlen := ras_length h1
  have ha' : args.length ≤ n.n := Nat.le_of_ble_eq_true ha
  let Γ : Ctx := { W0 := w, M0 := namB ρ H, L0 := inL ℓ H, ρ0 := ρ, dl := [] }
  have hLS : LaidS P Γ := ⟨hLd⟩
  refine calls_of_wp hf hb ?_
  have hs : SIM Γ n ρ w { tmps := vs.toArray ++ Array.replicate (fn.ntmps - vs.toArray.size) undef, defers := [] } (argFr 0 args) H := by
    refine ⟨⟨rfl, rfl, hN⟩, ?_, Ext.refl _ _, fun _ _ => rfl, fun b hb => .inl hb, ⟨ℓ, h2, fun e he b hb => .inl ⟨e, he, hb⟩⟩, ?_⟩
    · simp [hn]; omega
    · intro t x hx
      obtain ⟨j, e, hj⟩ := get_argFr hx
      obtain rfl : t = j := by omega
      have hlt := nthAV_lt hj
      obtain ⟨v, hv, hr⟩ := ras_nth h1 hj
      refine ⟨by omega, ?_⟩
      have hlt' : t < vs.length := by omega
      have : (vs.toArray ++ Array.replicate (fn.ntmps - vs.toArray.size) undef).getD t undef = v := by
        rw [Array.getD_eq_getD_getElem?, Array.getElem?_append_left (by simpa using hlt')]
        simp [hv]
      rw [this]; exact hr
  have hn' : ∀ e ∈ H, e.1 < n.K := namesB_lt hK
  refine Code.wp_mono (Q := BQ P Γ n fn R) ?_ (h Γ ρ w _ hs)
  intro e a w' hq
  have key : Fin P Γ n fn R a w' → a.defers = [] ∧ ∃ v, (results fn a.tmps).run P w' = .ok v w' ∧ ∃ v' r H' ρ' ℓ', Ending.returned v = .returned v' ∧ Post R ρ w H ℓ v' w' r H' ρ' ℓ' := by
    rintro ⟨hd, v, r, H', ρ', ℓ', h1, h2, h3, h4, h5, h6, h7, h8, h9⟩
    exact ⟨hd, v, h1, v, r, H', ρ', ℓ', rfl, h2, fun e he => h3 _ (hn' e he), h4, h5, h6, h7, h8, h9⟩
  cases e with
  | normal => exact key hq
  | ret => exact key hq
  | exit i => exact hq.elim
  | goto l => exact hq.elim
  | panic ch => exact hq.elim
  | outgrown => exact hq.elim

theorem ac_enter {P : Program} {f : FuncId} {fn : Func} {c : Code} {args : List AV} {H : Hp} {R : AV → Hp → Prop} (n : Sz) (hf : P.funcs[f]? = some fn) (hb : fn.body = some c) (hn : fn.ntmps = n.n) (ha : Nat.ble args.length n.n = true) (hK : namesB n.K H = true)
    (hK' : n.K = H.length)
    (h : ∀ Γ, [LaidS P Γ] → AW P Γ n c (BQ P Γ n fn (WithRes R)) (argFr 0 args) H) : ACalls P f args H R := ac_enterV n hf hb hn ha hK hK' h

section
variable {P : Program} {Γ : Ctx} {n : Sz} {fr fr' : Fr} {H H' : Hp} {fn : Func} {R : AV → Hp → Prop}

/-- the results of the frame, as one abstract value -/
def resAV (fr : Fr) (l : List ResultVar) : Option AV :=
  match l with
  | [] => some (.tup [])
  | [.tmp t] => get fr t
  | [.tmp t, .tmp u] => match get fr t, get fr u with
    | some x, some y => some (.tup [x, y])
    | _, _ => none
  | [.tmp t, .tmp u, .tmp s] => match get fr t, get fr u, get fr s with
    | some x, some y, some z => some (.tup [x, y, z])
    | _, _, _ => none
  | [.tmp t, .tmp u, .tmp s, .tmp q] => match get fr t, get fr u, get fr s, get fr q with
    | some x, some y, some z, some q => some (.tup [x, y, z, q])
    | _, _, _, _ => none
  | _ => none

theorem aq_fin {l : List ResultVar} {r : AV} (hl : fn.results = l.toArray) (hr : resAV fr l = some r) (hres : r.res = true) (hh : heapRes H = true) (hR : R r H) : AQ Γ n (Fin P Γ n fn (WithRes R)) fr H := fun ρ w a s => by
  obtain ⟨ℓ, h1, h2⟩ := s.heap
  have : ∃ v, (results fn a.tmps).run P w = .ok v w ∧ RA ρ (World.hf w) (ownB ρ H) r v := by
    unfold resAV at hr
    split at hr
    · simp only [Option.some.injEq] at hr; subst hr
      exact ⟨.tuple #[], by simp [results, hl], [], rfl, rfl⟩
    · rename_i t
      exact ⟨a.tmps.getD t undef, by simp [results, hl], (s.fr t r hr).2⟩
    · rename_i t u
      split at hr
      · rename_i x y hx hy
        simp only [Option.some.injEq] at hr; subst hr
        exact ⟨.tuple #[a.tmps.getD t undef, a.tmps.getD u undef], by simp [results, hl], [_, _], rfl, _, _, rfl, (s.fr t x hx).2, _, _, rfl, (s.fr u y hy).2, rfl⟩
      · cases hr
    · rename_i t u q
      split at hr
      · rename_i x y z hx hy hz
        simp only [Option.some.injEq] at hr; subst hr
        exact ⟨.tuple #[a.tmps.getD t undef, a.tmps.getD u undef, a.tmps.getD q undef], by simp [results, hl], [_, _, _], rfl, _, _, rfl, (s.fr t x hx).2, _, _, rfl, (s.fr u y hy).2, _, _, rfl, (s.fr q z hz).2, rfl⟩
      · cases hr
    · rename_i t u q q'
      split at hr
      · rename_i x y z z' hx hy hz hz'
        simp only [Option.some.injEq] at hr; subst hr
        exact ⟨.tuple #[a.tmps.getD t undef, a.tmps.getD u undef, a.tmps.getD q undef, a.tmps.getD q' undef], by simp [results, hl], [_, _, _, _], rfl, _, _, rfl, (s.fr t x hx).2, _, _, rfl, (s.fr u y hy).2, _, _, rfl, (s.fr q z hz).2, _, _, rfl, (s.fr q' z' hz').2, rfl⟩
      · cases hr
    · cases hr
  obtain ⟨v, hv, hra⟩ := this
  exact ⟨s.defers.1, v, r, H, ρ, ℓ, hv, ⟨hR, hres, hh⟩, s.keep, s.ext, h1, fun b ⟨e, he, hb⟩ => h2 e he b hb, s.own, hra, s.defers.2.1⟩
theorem aq_ret (h : AQ Γ n (Fin P Γ n fn R) fr H) : AQ Γ n (BQ P Γ n fn R .ret) fr H := h
theorem aq_end (h : AQ Γ n (Fin P Γ n fn R) fr H) : AQ Γ n (BQ P Γ n fn R .normal) fr H := h

/-! ### A state seen as another one -/
def Sub (n : Sz) (fr : Fr) (H : Hp) (fr' : Fr) (H' : Hp) : Prop := ∀ Γ ρ w a, SIM Γ n ρ w a fr H → ∃ ρ', SIM Γ n ρ' w a fr' H'
theorem AQ.sub {K : Act → World → Prop} (hs : Sub n fr H fr' H') (h : AQ Γ n K fr' H') : AQ Γ n K fr H := fun ρ w a s => let ⟨ρ', s'⟩ := hs Γ ρ w a s; h ρ' w a s'
theorem AW.sub {c : Code} {Q : Exit → Act → World → Prop} (hs : Sub n fr H fr' H') (h : AW P Γ n c Q fr' H') : AW P Γ n c Q fr H := fun ρ w a s => let ⟨ρ', s'⟩ := hs Γ ρ w a s; h ρ' w a s'
theorem AL.sub {c : Code} {Q : Exit → Act → World → Prop} (hs : Sub n fr H fr' H') (h : AL P Γ n c Q fr' H') : AL P Γ n c Q fr H := fun ρ w a s => let ⟨ρ', s'⟩ := hs Γ ρ w a s; h ρ' w a s'
theorem AO.sub {all : Array Oper} {ops : List Oper} {Q : Exit → Act → World → Prop} (hs : Sub n fr H fr' H') (h : AO P Γ n all Q ops fr' H') : AO P Γ n all Q ops fr H := fun ρ w a s => let ⟨ρ', s'⟩ := hs Γ ρ w a s; h ρ' w a s'

/-- a value seen as another one: 'x' in the state with H, 'y' in the state with H', whose names σ leads to those of H -/
def Ad (H H' : Hp) (σ : Nat → Nat) (x y : AV) : Prop := ∀ (ρ : Rho) (h : Hf) (ℓ : Nat → List Nat), HeapOK ρ h H ℓ → (∀ b, ownB (ρ.map σ) H' b → ownB ρ H b) → (∀ e ∈ H, (∀ e' ∈ H', σ e'.1 ≠ e.1) → ∀ b, b ∈ ℓ e.1 → ¬ ownB (ρ.map σ) H' b) →
  ∀ v, RA ρ h (ownB ρ H) x v → RA (ρ.map σ) h (ownB (ρ.map σ) H') y v

theorem ra_le {ρ : Rho} {h : Hf} {M M' : Nat → Prop} (hm : ∀ b, M' b → M b) {x : AV} {v : Value} (hx : RA ρ h M x v) : RA ρ h M' x v := hx.same x (fun _ _ => rfl) (fun b hb _ => ⟨rfl, fun h => hb (hm b h)⟩)
theorem ad_ren {σ : Nat → Nat} {x y : AV} (e : x = y.ren σ) : Ad H H' σ x y := fun ρ h ℓ hk hm _ v hx => by
  subst e
  exact (ra_ren y v).1 (ra_le (fun b hb => hm b hb) hx)
theorem ad_junk {σ : Nat → Nat} {x : AV} : Ad H H' σ x .junk := fun _ _ _ _ _ _ _ _ => trivial
theorem ad_nil {σ : Nat → Nat} {t : Ty} : Ad H H' σ .nilsl (.v (.slice t) ([] : List t.D)) := fun ρ h ℓ hk hm _ v hx => by
  simp only [RA] at hx
  subst hx
  exact ⟨[], ⟨[.slice none 0 0], ⟨by simp, .inl ⟨rfl, rfl, _, _, rfl⟩⟩, rfl⟩, by simp⟩
/-- an own row that is not written any more, or not by the callee -/
theorem ad_os {σ : Nat → Nat} {id : Nat} {t : Ty} {xs : List t.D} (hg : hget H id = some (.row t xs)) (hn : ∀ e' ∈ H', σ e'.1 ≠ id) : Ad H H' σ (.os id) (.v (.slice t) xs) := fun ρ h ℓ hk hm hd v hx => by
  have hd' := hd _ (hget_mem hg) hn
  obtain ⟨hl, ⟨h1, h2, e⟩ | ⟨b, cap, c, T, F, mid, post, h1, h2, h3, h4, e, h5, h6⟩⟩ := hk.get hg
  · rcases hx with ⟨_, hx⟩ | ⟨b, cap, len, h3, _⟩
    · subst hx
      exact ⟨[], ⟨[.slice none 0 0], ⟨hl, .inl ⟨h2, rfl, _, _, rfl⟩⟩, rfl⟩, by simp⟩
    · rw [h1] at h3; cases h3
  · rcases hx with ⟨hx, _⟩ | ⟨b', cap', len, h3', e'⟩
    · rw [h1] at hx; cases hx
    · rw [h1] at h3'
      obtain ⟨rfl, rfl, rfl⟩ : b = b' ∧ cap = cap' ∧ List.length (α := t.D) xs = len := by simpa using h3'
      subst e'
      obtain ⟨ex, rfl⟩ : ∃ ex, cap = List.length (α := t.D) xs + ex := ⟨cap - List.length (α := t.D) xs, by have := h5; omega⟩
      exact ⟨b :: F, ⟨[_], ⟨hl, .inr ⟨b, 0, ex, F, rfl, rfl, c, T, _, [], mid, post, h2, by simpa using h3, rfl, h4⟩⟩, rfl⟩, fun b' hb' => hd' b' (by rw [e]; exact hb')⟩

def SubFr (H H' : Hp) (σ : Nat → Nat) (fr : Fr) : Fr → Prop
  | [] => True
  | (t, y) :: l => (∃ x, get fr t = some x ∧ Ad H H' σ x y) ∧ SubFr H H' σ fr l
theorem subFr_get {σ : Nat → Nat} : ∀ {fr' : Fr} {t : Nat} {y : AV}, SubFr H H' σ fr fr' → get fr' t = some y → ∃ x, get fr t = some x ∧ Ad H H' σ x y
  | (i, a) :: l, t, y, h, hg => by
    unfold get at hg
    cases e : Nat.beq i t with
    | true =>
      rw [e] at hg
      simp only [cond_true, Option.some.injEq] at hg
      have := Nat.eq_of_beq_eq_true e
      subst this; subst hg
      exact h.1
    | false => rw [e] at hg; exact subFr_get h.2 hg

/-- components seen as others -/
def AdC (H H' : Hp) (σ : Nat → Nat) : List Comp → List Comp → Prop
  | [], [] => True
  | .cell x :: cs, .cell y :: ds => Ad H H' σ x y ∧ y.one = true ∧ AdC H H' σ cs ds
  | .arr t n xs :: cs, d :: ds => d = .arr t n xs ∧ AdC H H' σ cs ds
  | _, _ => False
def AdB (H H' : Hp) (σ : Nat → Nat) : Blk → Blk → Prop
  | .var cs, .var ds => AdC H H' σ cs ds
  | .row t xs, B => B = .row t xs
  | _, _ => False
def SubH (H H' : Hp) (σ : Nat → Nat) : Hp → Prop
  | [] => True
  | (i, B) :: l => (∃ A, hget H (σ i) = some A ∧ AdB H H' σ A B) ∧ SubH H H' σ l
theorem subH_mem {σ : Nat → Nat} : ∀ {l : Hp} {e}, SubH H H' σ l → e ∈ l → ∃ A, hget H (σ e.1) = some A ∧ AdB H H' σ A e.2
  | (i, B) :: l, e, h, he => by
    rcases List.mem_cons.1 he with rfl | he
    · exact h.1
    · exact subH_mem h.2 he
theorem adc_ok {σ : Nat → Nat} {ρ : Rho} {h : Hf} {ℓ : Nat → List Nat} (hk : HeapOK ρ h H ℓ) (hm : ∀ b, ownB (ρ.map σ) H' b → ownB ρ H b) (hd : ∀ e ∈ H, (∀ e' ∈ H', σ e'.1 ≠ e.1) → ∀ b, b ∈ ℓ e.1 → ¬ ownB (ρ.map σ) H' b) :
    ∀ {cs ds : List Comp} {vs F}, AdC H H' σ cs ds → RComps ρ h (ownB ρ H) cs vs F → RComps (ρ.map σ) h (ownB (ρ.map σ) H') ds vs F
  | [], [], _, _, _, hr => hr
  | .cell x :: cs, .cell y :: ds, _, _, ha, hr => by
    obtain ⟨v, cs', e, h1, h2, h3⟩ := hr
    exact ⟨v, cs', e, ha.2.1, ha.1 ρ h ℓ hk hm hd v h2, adc_ok hk hm hd ha.2.2 h3⟩
  | .arr t n xs :: cs, d :: ds, _, _, ha, hr => by
    obtain ⟨c1, c2, F1, F2, e, eF, h1, h2⟩ := hr
    obtain ⟨rfl, ha2⟩ := ha
    exact ⟨c1, c2, F1, F2, e, eF, h1, adc_ok hk hm hd ha2 h2⟩
  | [], _ :: _, _, _, ha, _ => ha.elim
  | .cell _ :: _, [], _, _, ha, _ => ha.elim
  | .cell _ :: _, .arr _ _ _ :: _, _, _, ha, _ => ha.elim
  | .arr _ _ _ :: _, [], _, _, ha, _ => ha.elim
theorem adb_ok {σ : Nat → Nat} {ρ : Rho} {h : Hf} {ℓ : Nat → List Nat} (hk : HeapOK ρ h H ℓ) (hm : ∀ b, ownB (ρ.map σ) H' b → ownB ρ H b) (hd : ∀ e ∈ H, (∀ e' ∈ H', σ e'.1 ≠ e.1) → ∀ b, b ∈ ℓ e.1 → ¬ ownB (ρ.map σ) H' b) {i : Nat} :
    ∀ {A B : Blk} {L}, AdB H H' σ A B → RBlk ρ h (ownB ρ H) (σ i) A L → RBlk (ρ.map σ) h (ownB (ρ.map σ) H') i B L
  | .var cs, .var ds, _, ha, hr => by
    obtain ⟨b, k, c, T, F, h1, h2, h3, e⟩ := hr
    exact ⟨b, k, c, T, F, h1, h2, adc_ok hk hm hd ha h3, e⟩
  | .row t xs, B, _, ha, hr => by
    have e : B = .row t xs := ha
    subst e
    exact hr
  | .var _, .row _ _, _, ha, _ => ha.elim

/-- names to names, one to one -/
def injB (σ : Nat → Nat) : List Nat → Bool
  | [] => true
  | i :: l => !(memB (σ i) (l.map σ)) && injB σ l
theorem injB_nodup {σ : Nat → Nat} : ∀ {l : List Nat}, injB σ l = true → (l.map σ).Nodup
  | [], _ => List.nodup_nil
  | i :: l, h => by
    simp only [injB, Bool.and_eq_true, Bool.not_eq_true'] at h
    exact List.nodup_cons.2 ⟨memB_false h.1, injB_nodup h.2⟩
def hkeys : Hp → List Nat
  | [] => []
  | (i, _) :: H => i :: hkeys H
theorem hkeys_eq : ∀ (H : Hp), hkeys H = H.map (·.1)
  | [] => rfl
  | (i, B) :: H => by simp [hkeys, hkeys_eq H]
theorem nodup_of_map {α β : Type} (f : α → β) : ∀ {l : List α}, (l.map f).Nodup → l.Nodup ∧ ∀ x ∈ l, ∀ y ∈ l, f x = f y → x = y
  | [], _ => ⟨List.nodup_nil, by simp⟩
  | a :: l, h => by
    simp only [List.map_cons, List.nodup_cons, List.mem_map, not_exists, not_and] at h
    obtain ⟨h1, h2⟩ := nodup_of_map f h.2
    refine ⟨List.nodup_cons.2 ⟨fun ha => h.1 a ha rfl, h1⟩, ?_⟩
    intro x hx y hy e
    rcases List.mem_cons.1 hx with rfl | hx' <;> rcases List.mem_cons.1 hy with rfl | hy'
    · rfl
    · exact absurd e.symm (h.1 y hy')
    · exact absurd e (h.1 x hx')
    · exact h2 x hx' y hy' e

theorem HeapOK.own_mem {ρ : Rho} {h : Hf} {ℓ : Nat → List Nat} (hk : HeapOK ρ h H ℓ) : ∀ e ∈ H, ∀ b k, ρ e.1 = some (b, k) → b ∈ ℓ e.1 := by
  intro e he b k hb
  have := hk.blk e he
  obtain ⟨i, B⟩ := e
  cases B with
  | var cs =>
    obtain ⟨b', k', c, T, F, h1, h2, h3, e⟩ := this
    simp only at hb h1 ⊢
    rw [hb] at h1
    obtain ⟨rfl, _⟩ : b = b' ∧ k = k' := by simpa using h1
    rw [e]; simp
  | row t xs =>
    obtain ⟨hl, ⟨h1, h2, e⟩ | ⟨b', cap, c, T, F, mid, post, h1, h2, h3, h4, e, h5⟩⟩ := this
    · simp only at hb h1; rw [hb] at h1; cases h1
    · simp only at hb h1 ⊢
      rw [hb] at h1
      have h1' := congrArg (fun o => o.map Prod.fst) h1
      simp only [Option.map_some, Option.some.injEq] at h1'
      subst h1'
      rw [e]; simp
/-- the part of the own blocks that H' speaks of -/
theorem heap_sub {σ : Nat → Nat} {ρ : Rho} {h : Hf} {ℓ : Nat → List Nat} (hk : HeapOK ρ h H ℓ) (hN : ∀ b, ρ.N b → ¬ inL ℓ H b) (hH : SubH H H' σ H') (hi : injB σ (hkeys H') = true) :
    (∀ b, namB (ρ.map σ) H' b → namB ρ H b) ∧ (∀ b, ownB (ρ.map σ) H' b → ownB ρ H b) ∧ (∀ e ∈ H, (∀ e' ∈ H', σ e'.1 ≠ e.1) → ∀ b, b ∈ ℓ e.1 → ¬ ownB (ρ.map σ) H' b) ∧ HeapOK (ρ.map σ) h H' (fun i => ℓ (σ i)) := by
  have hsub : ∀ e' ∈ H', ∃ A, (σ e'.1, A) ∈ H ∧ AdB H H' σ A e'.2 := fun e' he' => by
    obtain ⟨A, h1, h2⟩ := subH_mem hH he'
    exact ⟨A, hget_mem h1, h2⟩
  have hm0 : ∀ b, namB (ρ.map σ) H' b → namB ρ H b := by
    rintro b ⟨e', he', k, hk'⟩
    obtain ⟨A, hA, _⟩ := hsub e' he'
    exact ⟨_, hA, k, hk'⟩
  have hm : ∀ b, ownB (ρ.map σ) H' b → ownB ρ H b := fun b h => h.imp (hm0 b) (fun h => h)
  have hown := hk.own_mem
  have hd : ∀ e ∈ H, (∀ e' ∈ H', σ e'.1 ≠ e.1) → ∀ b, b ∈ ℓ e.1 → ¬ ownB (ρ.map σ) H' b := by
    rintro e he hne b hb (⟨e', he', k, hk'⟩ | hn)
    · obtain ⟨A, hA, _⟩ := hsub e' he'
      exact hk.dj _ hA e he (hne e' he') b (hown _ hA b k hk') hb
    · exact hN b hn ⟨e, he, hb⟩
  have hinj := injB_nodup hi
  rw [hkeys_eq] at hinj
  obtain ⟨hn1, hn2⟩ := nodup_of_map σ hinj
  refine ⟨hm0, hm, hd, ?_, ?_, ?_, hn1⟩
  · intro e' he'
    obtain ⟨A, h1, h2⟩ := subH_mem hH he'
    exact adb_ok hk hm hd h2 (hk.get h1)
  · intro e' he'
    obtain ⟨A, hA, _⟩ := hsub e' he'
    exact hk.nd _ hA
  · intro e he e' he' hne b hb hb'
    obtain ⟨A, hA, _⟩ := hsub e he
    obtain ⟨A', hA', _⟩ := hsub e' he'
    exact hk.dj _ hA _ hA' (fun h => hne (hn2 _ (List.mem_map_of_mem he) _ (List.mem_map_of_mem he') h)) b hb hb'

theorem SIM.apart {ρ : Rho} {w : World} {a : Act} (s : SIM Γ n ρ w a fr H) {ℓ : Nat → List Nat} (hb : ∀ e ∈ H, ∀ b ∈ ℓ e.1, Γ.L0 b ∨ Γ.W0.heap.size ≤ b) : ∀ b, ρ.N b → ¬ inL ℓ H b := by
  rintro b hn ⟨e, he, h⟩
  rw [s.defers.2.1] at hn
  obtain ⟨h1, h2⟩ := s.defers.2.2 b hn
  rcases hb e he b h with h | h
  · exact h1 h
  · omega
theorem sub_mk (σ : Nat → Nat) (hfr : SubFr H H' σ fr fr') (hH : SubH H H' σ H') (hi : injB σ (hkeys H') = true) (hK : ∀ i, i < n.K → σ i = i) : Sub n fr H fr' H' := by
  intro Γ ρ w a s
  obtain ⟨ℓ, hk, hb⟩ := s.heap
  obtain ⟨hm0, hm, hd, hk'⟩ := heap_sub hk (s.apart hb) hH hi
  refine ⟨ρ.map σ, s.defers, s.size, s.ext, fun i hi => by show ρ (σ i) = _; rw [hK i hi]; exact s.keep i hi, fun b hb => s.own b (hm0 b hb), ⟨_, hk', ?_⟩, ?_⟩
  · intro e he b hb'
    obtain ⟨A, hA, _⟩ := subH_mem hH he
    exact hb _ (hget_mem hA) b hb'
  · intro t y hy
    obtain ⟨x, hx, had⟩ := subFr_get hfr hy
    obtain ⟨h1, h2⟩ := s.fr t x hx
    exact ⟨h1, had ρ _ ℓ hk hm hd _ h2⟩
end
end Go.GA
