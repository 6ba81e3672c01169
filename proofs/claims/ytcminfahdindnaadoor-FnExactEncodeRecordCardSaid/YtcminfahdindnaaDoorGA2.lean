/- The judgements on abstract states, and their rules for operations that only read. -/
import Derived.Test.YtcminfahdindnaaDoorGA1
namespace Go.GA
open Go Go.RowKit

def w64 (n : Int) : Int := IntKind.i64.wrap n

theorem put_some (a : Act) (d : Nat) (v : Value) : a.put (some d) v = { a with tmps := a.tmps.setIfInBounds d v } := rfl

theorem SIM.put {Γ : Ctx} {n : Sz} {ρ : Rho} {w : World} {a : Act} {fr : Fr} {H : Hp} (h : SIM Γ n ρ w a fr H) {d : Nat} (hd : Nat.blt d n.n = true) {x : AV} {v : Value}
    (hx : RA ρ (World.hf w) (ownB ρ H) x v) : SIM Γ n ρ w (a.put (some d) v) ((d, x) :: fr) H := by
  have hd' : d < n.n := by simpa using hd
  refine ⟨h.defers, by simp [put_some, h.size], h.ext, h.keep, h.own, h.heap, ?_⟩
  intro t y hy
  simp only [get] at hy
  by_cases e : d = t
  · subst e
    simp at hy
    subst hy
    refine ⟨hd', ?_⟩
    have : d < a.tmps.size := by rw [h.size]; exact hd'
    simpa [put_some, Array.getD_eq_getD_getElem?, this] using hx
  · have e' : Nat.beq d t = false := by
      cases hh : Nat.beq d t with
      | false => rfl
      | true => exact absurd (Nat.eq_of_beq_eq_true hh) e
    rw [e'] at hy
    obtain ⟨h1, h2⟩ := h.fr t y hy
    refine ⟨h1, ?_⟩
    simpa [put_some, Array.getD_eq_getD_getElem?, Array.getElem?_setIfInBounds, e] using h2

/-! ### Operands -/
def evC : Value → Option AV
  | .int k n => some (.int k n)
  | .bool b => some (.bool b)
  | .string s => some (.str s)
  | .slice none 0 0 => some .nilsl
  | .pointer none => some .nilp
  | .nilFunc => some .nilf
  | _ => none

def evO (fr : Fr) : Operand → Option AV
  | .tmp t => get fr t
  | .const c => evC c
  | .func f => some (.fn f [])
  | .global _ => none

theorem evC_ok {ρ h M} {c : Value} {x : AV} (hx : evC c = some x) : RA ρ h M x c := by
  unfold evC at hx
  split at hx <;> simp at hx <;> subst hx <;> simp [RA]

theorem SIM.ev {Γ : Ctx} {n : Sz} {ρ : Rho} {w : World} {a : Act} {fr : Fr} {H : Hp} (h : SIM Γ n ρ w a fr H) {o : Operand} {x : AV} (hx : evO fr o = some x) :
    RA ρ (World.hf w) (ownB ρ H) x (a.eval o) := by
  cases o with
  | tmp t => exact (h.fr t x hx).2
  | const c => exact evC_ok hx
  | func f => simp only [evO, Option.some.injEq] at hx; subst hx; exact ⟨[], rfl, rfl⟩
  | global g => cases hx

/-- the old world's blocks stand in w' -/
def Kept (w w' : World) : Prop := Ext (fun _ => False) w w'
theorem Kept.refl (w : World) : Kept w w := Ext.refl _ w
theorem Kept.trans {a b c : World} (h : Kept a b) (k : Kept b c) : Kept a c := Ext.trans h k

/-- the operation only reads, and its result is x -/
def Reads (P : Program) (o : Oper) (fr : Fr) (H : Hp) (x : AV) : Prop :=
  ∀ Γ n ρ w a, SIM Γ n ρ w a fr H → ∃ v, RA ρ (World.hf w) (ownB ρ H) x v ∧ ∀ w', Kept w w' → (execOp a.eval o).run P w' = .ok (.value v) w'

/-! ### Judgements -/
def AQ (Γ : Ctx) (n : Sz) (K : Act → World → Prop) (fr : Fr) (H : Hp) : Prop := ∀ ρ w a, SIM Γ n ρ w a fr H → K a w
def AO (P : Program) (Γ : Ctx) (n : Sz) (all : Array Oper) (Q : Exit → Act → World → Prop) (ops : List Oper) (fr : Fr) (H : Hp) : Prop :=
  ∀ ρ w a, SIM Γ n ρ w a fr H → wpList P all Q ops a w
def AW (P : Program) (Γ : Ctx) (n : Sz) (c : Code) (Q : Exit → Act → World → Prop) (fr : Fr) (H : Hp) : Prop :=
  ∀ ρ w a, SIM Γ n ρ w a fr H → c.wp P Q a w

section
variable {P : Program} {Γ : Ctx} {n : Sz} {Q : Exit → Act → World → Prop} {fr fr' : Fr} {H H' : Hp}

theorem aw_skip (h : AQ Γ n (Q .normal) fr H) : AW P Γ n .skip Q fr H := fun ρ w a s => wp_skip (h ρ w a s)
theorem aw_exit {id : Nat} (h : AQ Γ n (Q (.exit id)) fr H) : AW P Γ n (.exit id) Q fr H := fun ρ w a s => wp_exit (h ρ w a s)
theorem aw_ret (h : AQ Γ n (Q .ret) fr H) : AW P Γ n .ret Q fr H := fun ρ w a s => wp_ret (h ρ w a s)
theorem aw_seq {x y : Code} (h : AW P Γ n x (Exit.then (y.wp P Q) Q) fr H) : AW P Γ n (x.seq y) Q fr H := fun ρ w a s => wp_seq (h ρ w a s)
theorem aw_block {id : Nat} {c : Code} (h : AW P Γ n c (Exit.inBlock id Q) fr H) : AW P Γ n (.block id c) Q fr H := fun ρ w a s => wp_block (h ρ w a s)
theorem aw_cond {c : Operand} {x y : Code} {b : Bool} (hc : evO fr c = some (.bool b)) (ht : b = true → AW P Γ n x Q fr H) (hf : b = false → AW P Γ n y Q fr H) :
    AW P Γ n (.cond c x y) Q fr H := fun ρ w a s =>
  wp_cond_split (t := b) (s.ev hc) (fun h => ht h ρ w a s) (fun h => hf h ρ w a s)
theorem aw_region {id : Nat} {l : List Oper} (h : AO P Γ n l.toArray Q l fr H) : AW P Γ n (.region id l.toArray false) Q fr H := fun ρ w a s => wp_region_lit (h ρ w a s)
theorem ao_nil {all : Array Oper} (h : AQ Γ n (Q .normal) fr H) : AO P Γ n all Q [] fr H := fun ρ w a s => h ρ w a s

/-- what stands behind a sequence, a block -/
theorem aq_then {y : Code} (h : AW P Γ n y Q fr H) : AQ Γ n (Exit.then (y.wp P Q) Q .normal) fr H := h
theorem aq_then_ret {K : Act → World → Prop} (h : AQ Γ n (Q .ret) fr H) : AQ Γ n (Exit.then K Q .ret) fr H := h
theorem aq_then_exit {K : Act → World → Prop} {i : Nat} (h : AQ Γ n (Q (.exit i)) fr H) : AQ Γ n (Exit.then K Q (.exit i)) fr H := h
theorem aq_in {i : Nat} (h : AQ Γ n (Q .normal) fr H) : AQ Γ n (Exit.inBlock i Q .normal) fr H := h
theorem aq_in_ret {i : Nat} (h : AQ Γ n (Q .ret) fr H) : AQ Γ n (Exit.inBlock i Q .ret) fr H := h
theorem aq_in_exit {i : Nat} (h : AQ Γ n (Q .normal) fr H) : AQ Γ n (Exit.inBlock i Q (.exit i)) fr H := fun ρ w a s => by
  simp only [Exit.inBlock, if_true]; exact h ρ w a s
theorem aq_in_other {i j : Nat} (hj : Nat.beq j i = false) (h : AQ Γ n (Q (.exit j)) fr H) : AQ Γ n (Exit.inBlock i Q (.exit j)) fr H := fun ρ w a s => by
  simp only [Exit.inBlock]; rw [if_neg (Nat.ne_of_beq_eq_false hj)]; exact h ρ w a s

/-- the guard of an operation says yes -/
def gOK (all : Array Oper) (fr : Fr) : Option (Nat × Bool) → Prop
  | none => True
  | some (j, want) => ∃ s b, (all[j]?).bind (·.dst) = some s ∧ get fr s = some (.bool b) ∧ b = want
theorem SIM.yielded {ρ : Rho} {w : World} {a : Act} (h : SIM Γ n ρ w a fr H) {all : Array Oper} {j s : Nat} {b : Bool} (hj : (all[j]?).bind (·.dst) = some s) (hs : get fr s = some (.bool b)) : yielded all a.tmps j = some b := by
  obtain ⟨h1, h2⟩ := h.fr s _ hs
  simp only [RA] at h2
  have hlt : s < a.tmps.size := by rw [h.size]; exact h1
  have : a.tmps[s]? = some (.bool b) := by
    rw [Array.getD_eq_getD_getElem?] at h2
    rw [Array.getElem?_eq_getElem hlt] at h2 ⊢
    simpa using h2
  simp [Go.yielded, hj, this]
theorem SIM.wanted {ρ : Rho} {w : World} {a : Act} (h : SIM Γ n ρ w a fr H) {all : Array Oper} {o : Oper} (hg : gOK all fr o.guard) : Region.wanted o (Go.yielded all a.tmps) = true := by
  unfold Region.wanted
  cases hgd : o.guard with
  | none => rfl
  | some jw =>
    obtain ⟨j, want⟩ := jw
    rw [hgd] at hg
    obtain ⟨s, b, hj, hs, rfl⟩ := hg
    simp [h.yielded hj hs]
theorem wpList_go {all : Array Oper} {ops : List Oper} {o : Oper} {a : Act} {w : World} (hw : Region.wanted o (Go.yielded all a.tmps) = true) (h : ∀ K : Act → World → Prop, (∀ a w, wpList P all Q ops a w → K a w) → o.wp P a w K Q) :
    wpList P all Q (o :: ops) a w := wpList_step fun K hK => by rw [if_pos hw]; exact h K hK

theorem ao_read {all : Array Oper} {ops : List Oper} {d : Nat} {op : Op} {ty : TypeId} {pos : String} {aft : Array Edge} {g : Option (Nat × Bool)} {x : AV} (hg : gOK all fr g) (hr : Reads P ⟨some d, op, ty, pos, aft, g⟩ fr H x) (hd : Nat.blt d n.n = true)
    (h : AO P Γ n all Q ops ((d, x) :: fr) H) : AO P Γ n all Q (⟨some d, op, ty, pos, aft, g⟩ :: ops) fr H := fun ρ w a s => by
  obtain ⟨v, hv, hrun⟩ := hr Γ n ρ w a s
  refine wpList_go (s.wanted hg) fun K hK => ?_
  unfold Oper.wp
  rw [hrun w (Kept.refl w)]
  exact hK _ _ (h ρ w _ (s.put hd hv))

/-! ### Operations that are left out -/
/-- the next k operations wait for the same answer -/
def skipOK : Nat → Nat → Bool → List Oper → Bool
  | 0, _, _, _ => true
  | k + 1, j, want, o :: ops => (match o.guard, o.dst with
    | some (i, b), some _ => Nat.beq i j && (b == want)
    | _, _ => false) && skipOK k j want ops
  | _ + 1, _, _, [] => false
/-- their slots hold nothing -/
def undN : Nat → List Oper → Fr → Fr
  | 0, _, fr => fr
  | k + 1, o :: ops, fr => match o.dst with
    | some d => undN k ops ((d, .gd false .junk) :: fr)
    | none => undN k ops fr
  | _ + 1, [], fr => fr
def undify : Nat → Fr → Fr
  | 0, fr => fr
  | k + 1, (d, _) :: fr => (d, .gd false .junk) :: undify k fr
  | _ + 1, [] => []
def gdify (g : Bool) : Nat → Fr → Fr
  | 0, fr => fr
  | k + 1, (d, x) :: fr => (d, .gd g x) :: gdify g k fr
  | _ + 1, [] => []
def dstsLt (m : Nat) : Nat → List Oper → Bool
  | 0, _ => true
  | k + 1, o :: ops => (match o.dst with
    | some d => Nat.blt d m
    | none => true) && dstsLt m k ops
  | _ + 1, [] => true
/-- the slot is none of theirs -/
def noDst (s : Nat) : Nat → List Oper → Bool
  | 0, _ => true
  | k + 1, o :: ops => (match o.dst with
    | some d => !(Nat.beq d s)
    | none => true) && noDst s k ops
  | _ + 1, [] => true

theorem ao_skips {all : Array Oper} {j s : Nat} {want b : Bool} (hj : (all[j]?).bind (·.dst) = some s) (hb : b = !want) : ∀ (k : Nat) {ops : List Oper} {fr : Fr}, get fr s = some (.bool b) ∨ get fr s = some (.gd false .junk) → skipOK k j want ops = true → dstsLt n.n k ops = true → noDst s k ops = true →
    AO P Γ n all Q (ops.drop k) (undN k ops fr) H → AO P Γ n all Q ops fr H
  | 0, _, _, _, _, _, _, h => h
  | k + 1, [], _, _, hsk, _, _, _ => by cases hsk
  | k + 1, o :: ops, fr, hs, hsk, hlt, hno, h => by
    simp only [skipOK, Bool.and_eq_true] at hsk
    obtain ⟨h1, h2⟩ := hsk
    simp only [dstsLt, Bool.and_eq_true] at hlt
    simp only [noDst, Bool.and_eq_true] at hno
    split at h1
    · rename_i i b' d hg hd
      simp only [Bool.and_eq_true, beq_iff_eq] at h1
      have hi := Nat.eq_of_beq_eq_true h1.1
      obtain ⟨_, rfl⟩ := h1
      subst hi
      simp only [hd] at hlt hno
      intro ρ w a sm
      refine wpList_step fun K hK => ?_
      have hw : Region.wanted o (Go.yielded all a.tmps) = false := by
        unfold Region.wanted
        rw [hg]
        rcases hs with hs | hs
        · simp only [sm.yielded hj hs, hb]; cases b' <;> rfl
        · obtain ⟨h1, h2⟩ := sm.fr s _ hs
          simp only [RA, Bool.false_eq_true, if_false] at h2
          have hlt : s < a.tmps.size := by rw [sm.size]; exact h1
          have : a.tmps[s]? = some undef := by
            rw [Array.getD_eq_getD_getElem?] at h2
            rw [Array.getElem?_eq_getElem hlt] at h2 ⊢
            simpa using h2
          simp [Go.yielded, hj, this, undef]
      rw [if_neg (by simp [hw])]
      have hne : Nat.beq d s = false := by simpa using hno.1
      rw [hd]
      simp only [List.drop_succ_cons] at h
      simp only [undN, hd] at h
      refine hK _ _ (ao_skips hj hb k (fr := (d, .gd false .junk) :: fr) ?_ h2 hlt.2 hno.2 h ρ w _ (sm.put hlt.1 (by simp [RA])))
      simpa [get, hne] using hs
    · cases h1

/-- a group of k operations under a guard -/
theorem ao_groupT {all : Array Oper} {ops : List Oper} (k j s : Nat) {b : Bool} {fr1 : Fr} (hj : (all[j]?).bind (·.dst) = some s) (hs : get fr s = some (.bool b)) (hsk : skipOK k j true ops = true) (hlt : dstsLt n.n k ops = true) (hno : noDst s k ops = true)
    (ht : b = true → AO P Γ n all Q (ops.drop k) fr1 H → AO P Γ n all Q ops fr H) (hu : undN k ops fr = undify k fr1) (h : AO P Γ n all Q (ops.drop k) (gdify b k fr1) H) : AO P Γ n all Q ops fr H := by
  cases hb : b with
  | true =>
    refine ht hb ?_
    rw [hb] at h
    refine fun ρ w a sm => h ρ w a ?_
    refine ⟨sm.defers, sm.size, sm.ext, sm.keep, sm.own, sm.heap, fun t x hx => ?_⟩
    have key : ∀ (k : Nat) (f : Fr) (t : Nat) (x : AV), get (gdify true k f) t = some x → get f t = some x ∨ ∃ y, x = .gd true y ∧ get f t = some y := by
      intro k
      induction k with
      | zero => intro f t x h; exact .inl h
      | succ k ih =>
        intro f t x h
        cases f with
        | nil => exact .inl h
        | cons e f =>
          obtain ⟨d, y⟩ := e
          simp only [gdify, get] at h ⊢
          cases e : Nat.beq d t with
          | true => rw [e] at h; simp only [cond_true, Option.some.injEq] at h ⊢; exact .inr ⟨y, h.symm, rfl⟩
          | false => rw [e] at h; simpa using ih f t x h
    rcases key k fr1 t x hx with h | ⟨y, rfl, h⟩
    · exact sm.fr t x h
    · obtain ⟨h1, h2⟩ := sm.fr t y h
      exact ⟨h1, by simpa [RA] using h2⟩
  | false =>
    refine ao_skips (want := true) hj hb k (.inl hs) hsk hlt hno ?_
    rw [hu]
    rw [hb] at h
    refine fun ρ w a sm => h ρ w a ?_
    refine ⟨sm.defers, sm.size, sm.ext, sm.keep, sm.own, sm.heap, fun t x hx => ?_⟩
    have key : ∀ (k : Nat) (f : Fr) (t : Nat) (x : AV), get (gdify false k f) t = some x → get (undify k f) t = some x ∨ ∃ y, x = .gd false y ∧ get (undify k f) t = some (.gd false .junk) := by
      intro k
      induction k with
      | zero => intro f t x h; exact .inl h
      | succ k ih =>
        intro f t x h
        cases f with
        | nil => exact .inl h
        | cons e f =>
          obtain ⟨d, y⟩ := e
          simp only [gdify, undify, get] at h ⊢
          cases e : Nat.beq d t with
          | true => rw [e] at h; simp only [cond_true, Option.some.injEq] at h ⊢; exact .inr ⟨y, h.symm, trivial⟩
          | false => rw [e] at h; simpa using ih f t x h
    rcases key k fr1 t x hx with h | ⟨y, rfl, h⟩
    · exact sm.fr t x h
    · obtain ⟨h1, h2⟩ := sm.fr t _ h
      exact ⟨h1, by simpa [RA] using h2⟩
/-- the same for 'a || b' -/
theorem ao_groupF {all : Array Oper} {ops : List Oper} (k j s : Nat) {b : Bool} {fr1 : Fr} (hj : (all[j]?).bind (·.dst) = some s) (hs : get fr s = some (.bool b)) (hsk : skipOK k j false ops = true) (hlt : dstsLt n.n k ops = true) (hno : noDst s k ops = true)
    (ht : b = false → AO P Γ n all Q (ops.drop k) fr1 H → AO P Γ n all Q ops fr H) (hu : undN k ops fr = undify k fr1) (h : AO P Γ n all Q (ops.drop k) (gdify (!b) k fr1) H) : AO P Γ n all Q ops fr H := by
  cases hb : b with
  | false =>
    refine ht hb ?_
    rw [hb] at h
    refine fun ρ w a sm => h ρ w a ?_
    refine ⟨sm.defers, sm.size, sm.ext, sm.keep, sm.own, sm.heap, fun t x hx => ?_⟩
    have key : ∀ (k : Nat) (f : Fr) (t : Nat) (x : AV), get (gdify true k f) t = some x → get f t = some x ∨ ∃ y, x = .gd true y ∧ get f t = some y := by
      intro k
      induction k with
      | zero => intro f t x h; exact .inl h
      | succ k ih =>
        intro f t x h
        cases f with
        | nil => exact .inl h
        | cons e f =>
          obtain ⟨d, y⟩ := e
          simp only [gdify, get] at h ⊢
          cases e : Nat.beq d t with
          | true => rw [e] at h; simp only [cond_true, Option.some.injEq] at h ⊢; exact .inr ⟨y, h.symm, rfl⟩
          | false => rw [e] at h; simpa using ih f t x h
    rcases key k fr1 t x hx with h | ⟨y, rfl, h⟩
    · exact sm.fr t x h
    · obtain ⟨h1, h2⟩ := sm.fr t y h
      exact ⟨h1, by simpa [RA] using h2⟩
  | true =>
    refine ao_skips (want := false) hj hb k (.inl hs) hsk hlt hno ?_
    rw [hu]
    rw [hb] at h
    refine fun ρ w a sm => h ρ w a ?_
    refine ⟨sm.defers, sm.size, sm.ext, sm.keep, sm.own, sm.heap, fun t x hx => ?_⟩
    have key : ∀ (k : Nat) (f : Fr) (t : Nat) (x : AV), get (gdify false k f) t = some x → get (undify k f) t = some x ∨ ∃ y, x = .gd false y ∧ get (undify k f) t = some (.gd false .junk) := by
      intro k
      induction k with
      | zero => intro f t x h; exact .inl h
      | succ k ih =>
        intro f t x h
        cases f with
        | nil => exact .inl h
        | cons e f =>
          obtain ⟨d, y⟩ := e
          simp only [gdify, undify, get] at h ⊢
          cases e : Nat.beq d t with
          | true => rw [e] at h; simp only [cond_true, Option.some.injEq] at h ⊢; exact .inr ⟨y, h.symm, trivial⟩
          | false => rw [e] at h; simpa using ih f t x h
    rcases key k fr1 t x hx with h | ⟨y, rfl, h⟩
    · exact sm.fr t x h
    · obtain ⟨h1, h2⟩ := sm.fr t _ h
      exact ⟨h1, by simpa [RA] using h2⟩

/-! ### Loops, one round at a time -/
/-- at the head of a round -/
def LoopAt (P : Program) (c : Code) (Q : Exit → Act → World → Prop) (a : Act) (w : World) : Prop :=
  ∀ (b : Frame) (k : List Item) (cs : List Frame), ∃ e a' w', Q e a' w' ∧ Arrives P (lone (b.at a (.code c :: .inLoop c :: k)) cs w) b k cs e a' w'
theorem wp_of_loopAt {c : Code} {a : Act} {w : World} (h : LoopAt P c Q a w) : (Code.loop c).wp P Q a w := fun b k cs =>
  let ⟨e, a', w', hq, harr⟩ := h b k cs; ⟨e, a', w', hq, .of_steps (.one step_loop) harr⟩
theorem loopAt_round {c : Code} {a : Act} {w : World} (h : c.wp P (Exit.then (LoopAt P c Q) Q) a w) : LoopAt P c Q a w := by
  intro b k cs
  obtain ⟨e, a₁, w₁, hq, harr⟩ := h b (.inLoop c :: k) cs
  cases e with
  | normal =>
    obtain ⟨e₂, a₂, w₂, hq₂, harr₂⟩ := hq b k cs
    exact ⟨e₂, a₂, w₂, hq₂, .of_steps (Steps.trans harr (.one step_inLoop)) harr₂⟩
  | exit id => exact ⟨_, a₁, w₁, hq, .pass (x := .inLoop c) rfl (fun _ _ => .inl (by simp)) harr⟩
  | goto l => exact ⟨_, a₁, w₁, hq, .pass (x := .inLoop c) rfl (fun _ _ => .inl (by simp)) harr⟩
  | ret => exact ⟨_, a₁, w₁, hq, .pass (x := .inLoop c) rfl (fun _ _ => .inl (by simp)) harr⟩
  | panic ch => exact ⟨_, a₁, w₁, hq, .pass (x := .inLoop c) rfl (fun _ _ => .inl (by simp)) harr⟩
  | outgrown => exact ⟨_, a₁, w₁, hq, .pass (x := .inLoop c) rfl (fun _ _ => .inl (by simp)) harr⟩
/-- the head of a round -/
def AL (P : Program) (Γ : Ctx) (n : Sz) (c : Code) (Q : Exit → Act → World → Prop) (fr : Fr) (H : Hp) : Prop := ∀ ρ w a, SIM Γ n ρ w a fr H → LoopAt P c Q a w
theorem aw_loop {c : Code} (h : AL P Γ n c Q fr H) : AW P Γ n (.loop c) Q fr H := fun ρ w a s => wp_of_loopAt (h ρ w a s)
theorem al_round {c : Code} (h : AW P Γ n c (Exit.then (LoopAt P c Q) Q) fr H) : AL P Γ n c Q fr H := fun ρ w a s => loopAt_round (h ρ w a s)
theorem aq_again {c : Code} (h : AL P Γ n c Q fr H) : AQ Γ n (Exit.then (LoopAt P c Q) Q .normal) fr H := h
end
end Go.GA
