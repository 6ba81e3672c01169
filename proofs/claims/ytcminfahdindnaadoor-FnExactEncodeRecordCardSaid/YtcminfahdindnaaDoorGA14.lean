/- Guards; regions whose order is left open, in abstract states. -/
import Derived.Test.YtcminfahdindnaaDoorGA13
import Derived.KernelRfl
namespace Go.GA
open Go Go.RowKit

/-- the slot says 'want' just if g -/
inductive GV (fr : Fr) (s : Nat) : Bool → Bool → Prop
  | T {b : Bool} : get fr s = some (.bool b) → GV fr s true b
  | F {b : Bool} : get fr s = some (.bool b) → GV fr s false (!b)
  | gT {g b : Bool} : get fr s = some (.gd g (.bool b)) → GV fr s true (g && b)
  | gF {g b : Bool} : get fr s = some (.gd g (.bool b)) → GV fr s false (g && !b)

section
variable {P : Program} {Γ : Ctx} {n : Sz} {Q : Exit → Act → World → Prop} {fr fr' : Fr} {H H' : Hp} {all : Array Oper} {ops : List Oper} {ty : TypeId} {pos : String} {aft : Array Edge} {op : Op}

theorem SIM.wantedG {ρ : Rho} {w : World} {a : Act} (h : SIM Γ n ρ w a fr H) {j s : Nat} {want g : Bool} {o : Oper} (ho : o.guard = some (j, want)) (hj : (all[j]?).bind (·.dst) = some s) (hg : GV fr s want g) : Region.wanted o (Go.yielded all a.tmps) = g := by
  unfold Region.wanted
  rw [ho]
  simp only
  have hval : ∀ x, get fr s = some x → ∃ v, a.tmps[s]? = some v ∧ RA ρ (World.hf w) (ownB ρ H) x v := fun x hx => by
    obtain ⟨h1, h2⟩ := h.fr s x hx
    have hlt : s < a.tmps.size := by rw [h.size]; exact h1
    refine ⟨_, Array.getElem?_eq_getElem hlt, ?_⟩
    rw [Array.getD_eq_getD_getElem?, Array.getElem?_eq_getElem hlt] at h2
    simpa using h2
  have gdcase : ∀ {g b : Bool}, get fr s = some (.gd g (.bool b)) → Go.yielded all a.tmps j = if g then some b else none := fun {g b} hx => by
    obtain ⟨v, hv, hr⟩ := hval _ hx
    cases g
    · simp only [RA, Bool.false_eq_true, if_false] at hr
      subst hr
      simp [Go.yielded, hj, hv, undef]
    · simp only [RA, if_true] at hr
      subst hr
      simp [Go.yielded, hj, hv]
  cases hg with
  | T hx => rw [h.yielded hj hx]; cases g <;> rfl
  | F hx => rename_i b; rw [h.yielded hj hx]; cases b <;> rfl
  | gT hx => rename_i g b; rw [gdcase hx]; cases g <;> cases b <;> rfl
  | gF hx => rename_i g b; rw [gdcase hx]; cases g <;> cases b <;> rfl

theorem SIM.strip {ρ : Rho} {w : World} {a : Act} (h : SIM Γ n ρ w a fr H) {t : Nat} {g : Bool} {y : AV} (ht : get fr t = some (.gd g y)) (hg : g = true) : SIM Γ n ρ w a ((t, y) :: fr) H := by
  refine ⟨h.defers, h.size, h.ext, h.keep, h.own, h.heap, fun t' x hx => ?_⟩
  simp only [get] at hx
  cases e : Nat.beq t t' with
  | true =>
    have := Nat.eq_of_beq_eq_true e
    subst this
    rw [e] at hx
    simp only [cond_true, Option.some.injEq] at hx
    subst hx
    obtain ⟨h1, h2⟩ := h.fr t _ ht
    subst hg
    exact ⟨h1, by simpa [RA] using h2⟩
  | false => rw [e] at hx; exact h.fr t' x hx
theorem Reads.strip {o : Oper} {x y : AV} (t : Nat) {g : Bool} (ht : get fr t = some (.gd g y)) (hg : g = true) (h : Reads P o ((t, y) :: fr) H x) : Reads P o fr H x := fun Γ n ρ w a s => h Γ n ρ w a (s.strip ht hg)
theorem AO.strip {y : AV} (t : Nat) {g : Bool} (ht : get fr t = some (.gd g y)) (hg : g = true) (h : AO P Γ n all Q ops ((t, y) :: fr) H) : AO P Γ n all Q ops fr H := fun ρ w a s => h ρ w a (s.strip ht hg)
theorem AW.strip {c : Code} {y : AV} (t : Nat) {g : Bool} (ht : get fr t = some (.gd g y)) (hg : g = true) (h : AW P Γ n c Q ((t, y) :: fr) H) : AW P Γ n c Q fr H := fun ρ w a s => h ρ w a (s.strip ht hg)

/-- an operation under a guard that reads -/
theorem ao_readG {d j s : Nat} {want g : Bool} {x : AV} (hj : (all[j]?).bind (·.dst) = some s) (hg : GV fr s want g) (hr : g = true → Reads P ⟨some d, op, ty, pos, aft, some (j, want)⟩ fr H x) (hd : Nat.blt d n.n = true)
    (h : AO P Γ n all Q ops ((d, .gd g x) :: fr) H) : AO P Γ n all Q (⟨some d, op, ty, pos, aft, some (j, want)⟩ :: ops) fr H := fun ρ w a s => by
  have hw := s.wantedG (o := ⟨some d, op, ty, pos, aft, some (j, want)⟩) rfl hj hg
  refine wpList_step fun K hK => ?_
  cases hgb : g with
  | true =>
    rw [if_pos (by rw [hw, hgb])]
    obtain ⟨v, hv, hrun⟩ := hr hgb Γ n ρ w a s
    unfold Oper.wp
    rw [hrun w (Kept.refl w)]
    exact hK _ _ (h ρ w _ (s.put hd (by rw [hgb]; simpa [RA] using hv)))
  | false =>
    rw [if_neg (by rw [hw, hgb]; simp)]
    exact hK _ _ (h ρ w _ (s.put hd (by rw [hgb]; simp [RA])))

theorem SIM.kept {ρ : Rho} {w w' : World} {a : Act} (s : SIM Γ n ρ w a fr H) (hk : Kept w w') : SIM Γ n ρ w' a fr H := by
  obtain ⟨ℓ, h1, h2⟩ := s.heap
  have hh : ∀ b, World.hf w b ≠ none → World.hf w' b = World.hf w b := fun b hb => hk.block b (hf_lt hb) (fun h => h)
  have hM : ∀ b, ¬ ownB ρ H b → World.hf w b ≠ none → World.hf w' b = World.hf w b ∧ ¬ ownB ρ H b := fun b h hb => ⟨hh b hb, h⟩
  refine ⟨s.defers, s.size, ⟨hk.os.trans s.ext.os, hk.tape.trans s.ext.tape, hk.output.trans s.ext.output, Nat.le_trans s.ext.size hk.size, fun k hk' hm => ?_⟩, s.keep, s.own, ⟨ℓ, ⟨fun e he => (h1.blk e he).same (fun _ _ => rfl) hM (fun b hb => hh b (h1.there he b hb)), h1.nd, h1.dj, h1.ids⟩, h2⟩, fun t x hx => ?_⟩
  · have := s.ext.size
    rw [hk.block k (by omega) (fun h => h)]; exact s.ext.block k hk' hm
  · obtain ⟨h3, h4⟩ := s.fr t x hx
    exact ⟨h3, h4.same x (fun _ _ => rfl) hM⟩

/-- a call that hands back plain values and touches nothing of the caller's: 'r' is what it gives -/
def Scalar (P : Program) (f : FuncId) (ys : List AV) (r : AV) : Prop := ACalls P f ys [] (fun r' H' => r' = r ∧ H' = [])

mutual
/-- values that are known to the sign -/
def AV.sure : AV → Bool
  | .int .. => true
  | .bool _ => true
  | .str _ => true
  | .v t _ => t.flat
  | .nilsl => true
  | .nilp => true
  | .nilf => true
  | .tup xs => AV.sureL xs
  | _ => false
def AV.sureL : List AV → Bool
  | [] => true
  | x :: xs => x.sure && AV.sureL xs
end
theorem rc_sure {h h' : Hf} : ∀ (t : Ty) {x : t.D} {cs ds F G}, t.flat = true → Rc h t x cs F → Rc h' t x ds G → cs = ds
  | .bool, _, _, _, _, _, _, h1, h2 => by rw [h1.1, h2.1]
  | .int _, _, _, _, _, _, _, h1, h2 => by rw [h1.1, h2.1]
  | .str, _, _, _, _, _, _, h1, h2 => by rw [h1.1, h2.1]
  | .unit, _, _, _, _, _, _, h1, h2 => by rw [h1.1, h2.1]
  | .slice _, _, _, _, _, _, hf, _, _ => by cases hf
  | .pair a b, _, _, _, _, _, hf, h1, h2 => by
    simp only [Ty.flat, Bool.and_eq_true] at hf
    obtain ⟨c1, c2, F1, F2, e, _, p1, p2⟩ := h1
    obtain ⟨d1, d2, G1, G2, e', _, q1, q2⟩ := h2
    rw [e, e', rc_sure a hf.1 p1 q1, rc_sure b hf.2 p2 q2]
  | .arr n t, xs, cs, ds, F, G, hf, h1, h2 => by
    have key : ∀ (xs : List t.D) (cs ds F G), RelL (Rc h t) xs cs F → RelL (Rc h' t) xs ds G → cs = ds := by
      intro xs
      induction xs with
      | nil => intro cs ds F G h1 h2; rw [h1.1, h2.1]
      | cons x xs ih =>
        intro cs ds F G h1 h2
        obtain ⟨c1, c2, F1, F2, e, _, p1, p2⟩ := h1
        obtain ⟨d1, d2, G1, G2, e', _, q1, q2⟩ := h2
        rw [e, e', rc_sure t hf p1 q1, ih _ _ _ _ p2 q2]
    exact key xs cs ds F G h1.2 h2.2
mutual
theorem ra_sure {ρ ρ' : Rho} {h h' : Hf} {M M' : Nat → Prop} : ∀ (x : AV) {u v : Value}, x.sure = true → RA ρ h M x u → RA ρ' h' M' x v → u = v
  | .int .., _, _, _, h1, h2 => by simp only [RA] at h1 h2; rw [h1, h2]
  | .bool _, _, _, _, h1, h2 => by simp only [RA] at h1 h2; rw [h1, h2]
  | .str _, _, _, _, h1, h2 => by simp only [RA] at h1 h2; rw [h1, h2]
  | .nilsl, _, _, _, h1, h2 => by simp only [RA] at h1 h2; rw [h1, h2]
  | .nilp, _, _, _, h1, h2 => by simp only [RA] at h1 h2; rw [h1, h2]
  | .nilf, _, _, _, h1, h2 => by simp only [RA] at h1 h2; rw [h1, h2]
  | .v t x, _, _, hs, h1, h2 => by
    obtain ⟨F, ⟨cs, p, e⟩, _⟩ := h1
    obtain ⟨G, ⟨ds, q, e'⟩, _⟩ := h2
    rw [e, e', rc_sure t hs p q]
  | .tup xs, _, _, hs, h1, h2 => by
    obtain ⟨us, e, p⟩ := h1
    obtain ⟨vs, e', q⟩ := h2
    rw [e, e', ras_sure xs hs p q]
  | .cptr .., _, _, hs, _, _ => by cases hs
  | .cav .., _, _, hs, _, _ => by cases hs
  | .ref .., _, _, hs, _, _ => by cases hs
  | .elem .., _, _, hs, _, _ => by cases hs
  | .elem2 .., _, _, hs, _, _ => by cases hs
  | .os _, _, _, hs, _, _ => by cases hs
  | .view .., _, _, hs, _, _ => by cases hs
  | .yl _, _, _, hs, _, _ => by cases hs
  | .ov .., _, _, hs, _, _ => by cases hs
  | .fn .., _, _, hs, _, _ => by cases hs
  | .st _, _, _, hs, _, _ => by cases hs
  | .gd .., _, _, hs, _, _ => by cases hs
  | .junk, _, _, hs, _, _ => by cases hs
theorem ras_sure {ρ ρ' : Rho} {h h' : Hf} {M M' : Nat → Prop} : ∀ (xs : List AV) {us vs : List Value}, AV.sureL xs = true → RAs ρ h M xs us → RAs ρ' h' M' xs vs → us = vs
  | [], _, _, _, h1, h2 => by simp only [RAs] at h1 h2; rw [h1, h2]
  | x :: xs, _, _, hs, h1, h2 => by
    simp only [AV.sureL, Bool.and_eq_true] at hs
    obtain ⟨u, us', e, p1, p2⟩ := h1
    obtain ⟨v, vs', e', q1, q2⟩ := h2
    rw [e, e', ra_sure x hs.1 p1 q1, ras_sure xs hs.2 p2 q2]
end

mutual
theorem ra_any {ρ ρ' : Rho} {h h' : Hf} {M M' : Nat → Prop} : ∀ (x : AV) {v : Value}, x.sure = true → RA ρ h M x v → RA ρ' h' M' x v
  | .int .., _, _, h1 => by simp only [RA] at h1 ⊢; exact h1
  | .bool _, _, _, h1 => by simp only [RA] at h1 ⊢; exact h1
  | .str _, _, _, h1 => by simp only [RA] at h1 ⊢; exact h1
  | .nilsl, _, _, h1 => by simp only [RA] at h1 ⊢; exact h1
  | .nilp, _, _, h1 => by simp only [RA] at h1 ⊢; exact h1
  | .nilf, _, _, h1 => by simp only [RA] at h1 ⊢; exact h1
  | .v t x, _, hs, h1 => by
    obtain ⟨F, ⟨cs, p, e⟩, _⟩ := h1
    have hF := Rc.flat t hs p
    subst hF
    exact ⟨[], ⟨cs, p.same t (by simp), e⟩, by simp⟩
  | .tup xs, _, hs, h1 => by
    obtain ⟨us, e, p⟩ := h1
    exact ⟨us, e, ras_any xs hs p⟩
  | .cptr .., _, hs, _ => by cases hs
  | .cav .., _, hs, _ => by cases hs
  | .ref .., _, hs, _ => by cases hs
  | .elem .., _, hs, _ => by cases hs
  | .elem2 .., _, hs, _ => by cases hs
  | .os _, _, hs, _ => by cases hs
  | .view .., _, hs, _ => by cases hs
  | .yl _, _, hs, _ => by cases hs
  | .ov .., _, hs, _ => by cases hs
  | .fn .., _, hs, _ => by cases hs
  | .st _, _, hs, _ => by cases hs
  | .gd .., _, hs, _ => by cases hs
  | .junk, _, hs, _ => by cases hs
theorem ras_any {ρ ρ' : Rho} {h h' : Hf} {M M' : Nat → Prop} : ∀ (xs : List AV) {vs : List Value}, AV.sureL xs = true → RAs ρ h M xs vs → RAs ρ' h' M' xs vs
  | [], _, _, h1 => by simp only [RAs] at h1 ⊢; exact h1
  | x :: xs, _, hs, h1 => by
    simp only [AV.sureL, Bool.and_eq_true] at hs
    obtain ⟨u, us', e, p1, p2⟩ := h1
    exact ⟨u, us', e, ra_any x hs.1 p1, ras_any xs hs.2 p2⟩
end

theorem hdel_nil' (H : Hp) : hdel [] H ++ hren (sg [] 0) [] = H := by simp [hdel_nil, hren]

/-- what a scalar call comes to -/
theorem scalar_sim [hLS : LaidS P Γ] {f : FuncId} {ys xs : List AV} {r : AV} (hc : Scalar P f ys r) (hsure : r.sure = true) {ρ : Rho} {w : World} {a : Act} {vs : List Value} (s : SIM Γ n ρ w a fr H) (hx : RAs ρ (World.hf w) (ownB ρ H) xs vs) (hA : ∀ σ, Ads H [] σ xs ys) :
    ∃ v, RA ρ (World.hf w) (ownB ρ H) r v ∧ ∀ w', Kept w w' → Calls P f vs.toArray w' (fun e w'' => e = .returned v ∧ Kept w' w'') := by
  have key : ∀ w', Kept w w' → Calls P f vs.toArray w' (fun e w'' => ∃ v, e = .returned v ∧ Kept w' w'' ∧ ∃ ρ' h' M', RA ρ' h' M' r v) := by
    intro w' hk
    obtain ⟨ℓ, hk', hb0⟩ := (s.kept hk).heap
    have hx' : RAs ρ (World.hf w') (ownB ρ H) xs vs := hx.same xs (fun _ _ => rfl) (fun b hb hb' => ⟨hk.block b (hf_lt hb') (fun h => h), hb⟩)
    have hd : ∀ b, ¬ namB (ρ.map id) ([] : Hp) b := by rintro b ⟨e, he, _⟩; cases he
    have hys := ads_ok (Hc := []) (σ := id) (ρ := ρ) (h := World.hf w') hk' (fun b h => h.elim (fun h => (hd b h).elim) .inr) (fun e he _ b hb h => h.elim (hd b) (fun hn => (s.kept hk).apart hb0 b hn ⟨e, he, hb⟩)) (hA id) hx'
    refine (hc (ρ.map id) w' vs (fun _ => []) hys ⟨(by simp), (by simp), (by simp), (by simp)⟩ (fun b hn => ⟨fun ⟨e, he, _⟩ => (by cases he), (by
      have h1 : Γ.ρ0.N b := s.defers.2.1 ▸ hn
      exact Nat.lt_of_lt_of_le (s.defers.2.2 b h1).2 (Nat.le_trans s.ext.size hk.size))⟩) (hLS.laid.ext (s.kept hk).ext (fun b hb => absurd hb (hd b)))).mono ?_
    rintro e w'' ⟨v, r', H', ρ', ℓ', rfl, p⟩
    obtain ⟨⟨rfl, rfl⟩, _⟩ := p.post
    exact ⟨v, rfl, ⟨p.ext.os, p.ext.tape, p.ext.output, p.ext.size, fun k hk _ => p.ext.block k hk (hd k)⟩, _, _, _, p.ra⟩
  obtain ⟨e, w1, fr1, ⟨v, _, _, ρ1, h1, M1, hv⟩, _⟩ := key w (Kept.refl w) []
  refine ⟨v, ra_any r hsure hv, fun w' hk => (key w' hk).mono ?_⟩
  rintro e w'' ⟨v', rfl, hk', ρ2, h2, M2, hv'⟩
  rw [ra_sure r hsure hv' hv]
  exact ⟨rfl, hk'⟩

theorem stable_of_reads {o : Oper} {x : AV} {ρ : Rho} {w : World} {a : Act} (s : SIM Γ n ρ w a fr H) (hg : gOK all fr o.guard) (hr : Reads P o fr H x) : ∃ v, RA ρ (World.hf w) (ownB ρ H) x v ∧ Stable P all o v a w := by
  obtain ⟨v, hv, hrun⟩ := hr Γ n ρ w a s
  exact ⟨v, hv, .inl ⟨s.wanted hg, fun w' hk => .inl (hrun w' hk)⟩⟩

/-- a scalar call -/
def SCall (P : Program) (o : Oper) (fr : Fr) (H : Hp) (r : AV) : Prop :=
  ∀ Γ, LaidS P Γ → ∀ n ρ w a, SIM Γ n ρ w a fr H → ∃ v, RA ρ (World.hf w) (ownB ρ H) r v ∧ ∀ w', Kept w w' → ∃ f args, (execOp a.eval o).run P w' = .ok (.enter f args) w' ∧ Calls P f args w' (fun e w'' => e = .returned v ∧ Kept w' w'')
theorem scall {dst : Option Nat} {g : Option (Nat × Bool)} {f : FuncId} {fn : Func} {fo : Operand} {as : List Operand} {tys : Array TypeId} {caps xs ys : List AV} {r : AV} (hc : Scalar P f ys r) (hsure : r.sure = true) (hf : P.funcs[f]? = some fn) (hbody : fn.body.isNone = false) (hname : (fn.name == "runtime.NumGoroutine") = false)
    (hfo : evO fr fo = some (.fn f caps)) (hxs : evOs fr as = some xs) (hA : ∀ σ, Ads H [] σ (xs ++ caps) ys) : SCall P ⟨dst, .call ⟨.value fo, as.toArray, tys⟩, ty, pos, aft, g⟩ fr H r := fun Γ hLS n ρ w a s => by
  obtain ⟨cv, hcv, hcaps⟩ := s.ev hfo
  obtain ⟨v, h1, h2⟩ := scalar_sim hc hsure s (evOs_append (evOs_ok (fun o y h => s.ev h) hxs) hcaps) hA
  exact ⟨v, h1, fun w' hk => ⟨f, _, run_callv rfl hcv hf hbody hname w', h2 w' hk⟩⟩
theorem SCall.strip {o : Oper} {x y : AV} (t : Nat) {g : Bool} (ht : get fr t = some (.gd g y)) (hg : g = true) (h : SCall P o ((t, y) :: fr) H x) : SCall P o fr H x := fun Γ hLS n ρ w a s => h Γ hLS n ρ w a (s.strip ht hg)

theorem ao_scall [hLS : LaidS P Γ] {d : Nat} {g : Option (Nat × Bool)} {r : AV} (hg : gOK all fr g) (hc : SCall P ⟨some d, op, ty, pos, aft, g⟩ fr H r) (hd : Nat.blt d n.n = true) (h : AO P Γ n all Q ops ((d, r) :: fr) H) : AO P Γ n all Q (⟨some d, op, ty, pos, aft, g⟩ :: ops) fr H := fun ρ w a s => by
  obtain ⟨v, hv, hrun⟩ := hc Γ hLS n ρ w a s
  obtain ⟨f, args, h1, h2⟩ := hrun w (Kept.refl w)
  refine wpList_go (s.wanted hg) fun K hK => ?_
  unfold Oper.wp
  rw [h1, Oper.upon_enter]
  refine h2.mono ?_
  rintro e w' ⟨rfl, hk⟩
  refine hK _ _ (h ρ w' _ ?_)
  have s' := s.kept hk
  exact s'.put hd (hv.same r (fun _ _ => rfl) (fun b hb hb' => ⟨hk.block b (hf_lt hb') (fun h => h), hb⟩))
theorem ao_scallG [hLS : LaidS P Γ] {d j s : Nat} {want g : Bool} {r : AV} (hj : (all[j]?).bind (·.dst) = some s) (hg : GV fr s want g) (hc : g = true → SCall P ⟨some d, op, ty, pos, aft, some (j, want)⟩ fr H r) (hd : Nat.blt d n.n = true)
    (h : AO P Γ n all Q ops ((d, .gd g r) :: fr) H) : AO P Γ n all Q (⟨some d, op, ty, pos, aft, some (j, want)⟩ :: ops) fr H := fun ρ w a s => by
  have hw := s.wantedG (o := ⟨some d, op, ty, pos, aft, some (j, want)⟩) rfl hj hg
  refine wpList_step fun K hK => ?_
  cases hgb : g with
  | true =>
    rw [if_pos (by rw [hw, hgb])]
    obtain ⟨v, hv, hrun⟩ := hc hgb Γ hLS n ρ w a s
    obtain ⟨f, args, h1, h2⟩ := hrun w (Kept.refl w)
    unfold Oper.wp
    rw [h1, Oper.upon_enter]
    refine h2.mono ?_
    rintro e w' ⟨rfl, hk⟩
    refine hK _ _ (h ρ w' _ ((s.kept hk).put hd ?_))
    rw [hgb]
    simp only [RA, if_true]
    exact hv.same r (fun _ _ => rfl) (fun b hb hb' => ⟨hk.block b (hf_lt hb') (fun h => h), hb⟩)
  | false =>
    rw [if_neg (by rw [hw, hgb]; simp)]
    exact hK _ _ (h ρ w _ (s.put hd (by rw [hgb]; simp [RA])))

/-! ### Open orders -/
def AN (P : Program) (Γ : Ctx) (n : Sz) (all : Array Oper) (Q : Exit → Act → World → Prop) (m : Nat) (T : Act → World → Prop) (f : Nat) (listed : Array Bool) (fr : Fr) (H : Hp) : Prop :=
  ∀ ρ w a, SIM Γ n ρ w a fr H → wpAK P all Q m T w f listed a w
def canon (m k : Nat) : Array Bool := (List.replicate m true ++ List.replicate (k - m) false).toArray
def drawB (l : List Oper) (m : Nat) : Bool :=
  Region.noSelect l.toArray && decide (m < l.length) && Region.sinkB .any l.toArray m && Region.chainB .any l.toArray m && Region.seqB .any l.toArray (l.length - m) m (canon m l.length)

theorem SIM.drew {ρ : Rho} {w : World} {a : Act} (s : SIM Γ n ρ w a fr H) : SIM Γ n ρ { w with drawn := w.drawn + 1 } a fr H := s.kept ⟨rfl, rfl, rfl, Nat.le_refl _, fun _ _ _ => rfl⟩

theorem aw_draw {id : Nat} {l : List Oper} (m : Nat) (hm : P.follows .mixedOrders = true) (hB : drawB l m = true) (h : AN P Γ n l.toArray Q m (fun a w => wpList P l.toArray Q (l.drop m) a w) m (Array.replicate l.length false) fr H) :
    AW P Γ n (.region id l.toArray true) Q fr H := fun ρ w a s => by
  simp only [drawB, Bool.and_eq_true, decide_eq_true_eq] at hB
  obtain ⟨⟨⟨⟨hsel, hn⟩, hs⟩, hc⟩, hseq⟩ := hB
  have inv0 : HeadInv .any l.toArray m (Array.replicate l.length false) :=
    ⟨by simp, fun j oj _ hl => (by rw [getD_replicate_false] at hl; cases hl), fun t _ ht => getD_in (by simpa using ht) (getD_replicate_false _ _)⟩
  refine wp_region_any hm ?_
  have := wpAny_of_AK (P := P) (Q := Q) (ops := l.toArray) (m := m) (g := l.length - m) hs hc (by simpa using hn) (fun listed a w inv hdone hT => ?_) m _ a _ inv0 (h ρ _ a s.drew)
  · have e : m + (l.length - m) = l.toArray.size := by simp; omega
    rw [e] at this
    simpa using this
  · have hcanon : listed = canon m l.length := by
      apply Array.ext
      · rw [inv.size]; simp [canon]; omega
      · intro i h1 h2
        have hi : i < l.length := by rw [inv.size] at h1; simpa using h1
        by_cases him : i < m
        · have := hdone i him
          simp [h1] at this
          simp [canon, this, him]
        · have := inv.tail i (by omega) (by simpa using hi)
          simp [h1] at this
          simp only [canon, List.getElem_toArray, this]
          rw [List.getElem_append_right (by simp; omega)]
          simp
    rw [hcanon]
    have := wpAny_of_seq (P := P) (ops := l.toArray) (md := .any) (Q' := Q) (l.drop m) m (canon m l.length) a w (fun j => by simp [List.getElem?_drop]) (by simpa using hseq) hT
    simpa using this

/-- all operations in whatever order -/
def drawAllB (l : List Oper) : Bool := Region.noSelect l.toArray
theorem wpAny_of_AK_all {all : Array Oper} {T : Act → World → Prop} (hT : ∀ a w, T a w → Q .normal a w) : ∀ {w0 : World} (f : Nat) (listed : Array Bool) (a : Act) (w : World), wpAK P all Q all.size T w0 f listed a w → wpAny P .any all Q f listed a w
  | _, 0, listed, a, w, h => by
    refine ⟨?_, hT _ _ (h.2 w (Kept.refl w))⟩
    cases hr : Region.ready .any all listed with
    | nil => rfl
    | cons i l =>
      have hi : i ∈ Region.ready .any all listed := by rw [hr]; simp
      obtain ⟨h0, o, ho, _⟩ := mem_ready.1 hi
      have := h.1 i (Array.getElem?_eq_some_iff.1 ho).1
      rw [getD_both h0] at this; cases this
  | _, f + 1, listed, a, w, h => by
    obtain ⟨⟨i0, hi0, _⟩, hall⟩ := h w (Kept.refl w)
    refine ⟨fun h0 => (by rw [h0] at hi0; cases hi0), fun i hi => ?_⟩
    obtain ⟨_, o, ho, _⟩ := mem_ready.1 hi
    exact wpOp_mono (fun a' w' h3 => wpAny_of_AK_all hT f _ a' w' h3.2) (hall i hi (Array.getElem?_eq_some_iff.1 ho).1)
theorem aw_drawAll {id : Nat} {l : List Oper} (hm : P.follows .mixedOrders = true) (h : AN P Γ n l.toArray Q l.toArray.size (Q .normal) l.toArray.size (Array.replicate l.toArray.size false) fr H) :
    AW P Γ n (.region id l.toArray true) Q fr H := fun ρ w a s => wp_region_any hm (wpAny_of_AK_all (fun _ _ h => h) _ _ _ _ (h ρ _ a s.drew))

def allB (m : Nat) (listed : Array Bool) : Bool := (List.range m).all fun j => listed.getD j false
theorem an_done {m : Nat} {T : Act → World → Prop} {listed : Array Bool} (hl : allB m listed = true) (h : AQ Γ n T fr H) : AN P Γ n all Q m T 0 listed fr H := fun ρ w a s =>
  ⟨fun j hj => by have := List.all_eq_true.1 hl j (List.mem_range.2 hj); exact this, fun w' hk => h ρ w' a (s.kept hk)⟩
/-- the tail -/
theorem an_tail {m : Nat} {listed : Array Bool} {l rest : List Oper} (hl : allB m listed = true) (hr : l.drop m = rest) (h : AO P Γ n l.toArray Q rest fr H) : AN P Γ n l.toArray Q m (fun a w => wpList P l.toArray Q (l.drop m) a w) 0 listed fr H :=
  an_done hl (fun ρ w a s => by rw [hr]; exact h ρ w a s)
def nextB (all : Array Oper) (listed : Array Bool) (m i : Nat) : Bool := Nat.blt i m && (Region.ready .any all listed).contains i && Region.free .any all listed i
theorem an_stable {m f : Nat} {T : Act → World → Prop} {listed : Array Bool} (i : Nat) {o : Oper} {d : Nat} {x : AV} (hsel : Region.noSelect all = true) (hQ : ∀ c a w, Q (.panic c) a w → False) (hi : all[i]? = some o) (hod : o.dst = some d) (hn : nextB all listed m i = true) (hd : Nat.blt d n.n = true)
    (hst : ∀ ρ w a, SIM Γ n ρ w a fr H → ∃ v, RA ρ (World.hf w) (ownB ρ H) x v ∧ Stable P all o v a w)
    (h : AN P Γ n all Q m T f (listed.setIfInBounds i true) ((d, x) :: fr) H) : AN P Γ n all Q m T (f + 1) listed fr H := fun ρ w a s => by
  simp only [nextB, Bool.and_eq_true] at hn
  obtain ⟨v, hv, hs⟩ := hst ρ w a s
  refine wpAK_first hi (by simpa using hn.1.1) hsel hQ f listed a w (Kept.refl w) (Region.free_spec hi hn.2) (by simpa using hn.1.2) hs ?_
  have := h ρ w (a.put (some d) v) (s.put hd hv)
  rwa [← hod] at this
theorem an_read {m f : Nat} {T : Act → World → Prop} {listed : Array Bool} (i : Nat) {d : Nat} {g : Option (Nat × Bool)} {x : AV} (hsel : Region.noSelect all = true) (hQ : ∀ c a w, Q (.panic c) a w → False) (hi : all[i]? = some ⟨some d, op, ty, pos, aft, g⟩) (hn : nextB all listed m i = true) (hg : gOK all fr g)
    (hr : Reads P ⟨some d, op, ty, pos, aft, g⟩ fr H x) (hd : Nat.blt d n.n = true) (h : AN P Γ n all Q m T f (listed.setIfInBounds i true) ((d, x) :: fr) H) : AN P Γ n all Q m T (f + 1) listed fr H :=
  an_stable i hsel hQ hi rfl hn hd (fun ρ w a s => stable_of_reads s hg hr) h
theorem an_scall [hLS : LaidS P Γ] {m f : Nat} {T : Act → World → Prop} {listed : Array Bool} (i : Nat) {d : Nat} {g : Option (Nat × Bool)} {x : AV} (hsel : Region.noSelect all = true) (hQ : ∀ c a w, Q (.panic c) a w → False) (hi : all[i]? = some ⟨some d, op, ty, pos, aft, g⟩) (hn : nextB all listed m i = true) (hg : gOK all fr g)
    (hr : SCall P ⟨some d, op, ty, pos, aft, g⟩ fr H x) (hd : Nat.blt d n.n = true) (h : AN P Γ n all Q m T f (listed.setIfInBounds i true) ((d, x) :: fr) H) : AN P Γ n all Q m T (f + 1) listed fr H :=
  an_stable i hsel hQ hi rfl hn hd (fun ρ w a s => by
    obtain ⟨v, hv, hrun⟩ := hr Γ hLS n ρ w a s
    exact ⟨v, hv, .inl ⟨s.wanted hg, fun w' hk => .inr (hrun w' hk)⟩⟩) h
theorem an_readG {m f : Nat} {T : Act → World → Prop} {listed : Array Bool} (i : Nat) {d j s : Nat} {want g : Bool} {x : AV} (hsel : Region.noSelect all = true) (hQ : ∀ c a w, Q (.panic c) a w → False) (hi : all[i]? = some ⟨some d, op, ty, pos, aft, some (j, want)⟩) (hn : nextB all listed m i = true)
    (hj : (all[j]?).bind (·.dst) = some s) (hg : GV fr s want g) (hr : g = true → Reads P ⟨some d, op, ty, pos, aft, some (j, want)⟩ fr H x) (hd : Nat.blt d n.n = true) (h : AN P Γ n all Q m T f (listed.setIfInBounds i true) ((d, .gd g x) :: fr) H) : AN P Γ n all Q m T (f + 1) listed fr H :=
  an_stable i hsel hQ hi rfl hn hd (fun ρ w a sm => by
    have hw := sm.wantedG (o := ⟨some d, op, ty, pos, aft, some (j, want)⟩) rfl hj hg
    cases hgb : g with
    | true =>
      obtain ⟨v, hv, hrun⟩ := hr hgb Γ n ρ w a sm
      exact ⟨v, by simpa [RA] using hv, .inl ⟨by rw [hw, hgb], fun w' hk => .inl (hrun w' hk)⟩⟩
    | false => exact ⟨undef, by simp [RA], .inr ⟨by rw [hw, hgb], rfl⟩⟩) h
theorem an_scallG [hLS : LaidS P Γ] {m f : Nat} {T : Act → World → Prop} {listed : Array Bool} (i : Nat) {d j s : Nat} {want g : Bool} {x : AV} (hsel : Region.noSelect all = true) (hQ : ∀ c a w, Q (.panic c) a w → False) (hi : all[i]? = some ⟨some d, op, ty, pos, aft, some (j, want)⟩) (hn : nextB all listed m i = true)
    (hj : (all[j]?).bind (·.dst) = some s) (hg : GV fr s want g) (hr : g = true → SCall P ⟨some d, op, ty, pos, aft, some (j, want)⟩ fr H x) (hd : Nat.blt d n.n = true) (h : AN P Γ n all Q m T f (listed.setIfInBounds i true) ((d, .gd g x) :: fr) H) : AN P Γ n all Q m T (f + 1) listed fr H :=
  an_stable i hsel hQ hi rfl hn hd (fun ρ w a sm => by
    have hw := sm.wantedG (o := ⟨some d, op, ty, pos, aft, some (j, want)⟩) rfl hj hg
    cases hgb : g with
    | true =>
      obtain ⟨v, hv, hrun⟩ := hr hgb Γ hLS n ρ w a sm
      exact ⟨v, by simpa [RA] using hv, .inl ⟨by rw [hw, hgb], fun w' hk => .inr (hrun w' hk)⟩⟩
    | false => exact ⟨undef, by simp [RA], .inr ⟨by rw [hw, hgb], rfl⟩⟩) h
end
end Go.GA
