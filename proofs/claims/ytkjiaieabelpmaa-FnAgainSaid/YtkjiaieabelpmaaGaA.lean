/- The abstract states of a walk: typed data, blocks of the call's own, and how they stand to a world of the model. -/
import Derived.Calls
import Derived.Below
import Derived.Tactics
import Derived.Deep.Quiet
import Derived.Lib.LaidTab
import Derived.Lib.ItoaNum
import Derived.WalkKit
import Derived.Laws.Rows
import Derived.Laws.CopyRow
section
namespace Go.GA
open Go Go.RowKit

/-! ### Types of plain data -/
inductive Ty where
  | bool | int (k : IntKind) | str | arr (n : Nat) (t : Ty) | slice (t : Ty) | unit | pair (a b : Ty)

def Ty.D : Ty → Type
  | .bool => Bool
  | .int _ => Int
  | .str => ByteArray
  | .arr _ t => List t.D
  | .slice t => List t.D
  | .unit => Unit
  | .pair a b => a.D × b.D

def Ty.sz : Ty → Nat
  | .bool => 1
  | .int _ => 1
  | .str => 1
  | .slice _ => 1
  | .arr n t => n * t.sz
  | .unit => 0
  | .pair a b => a.sz + b.sz

def Ty.agg : Ty → Bool
  | .arr _ _ => true
  | .unit => true
  | .pair _ _ => true
  | _ => false

/-- no memory behind it -/
def Ty.flat : Ty → Bool
  | .slice _ => false
  | .arr _ t => t.flat
  | .pair a b => a.flat && b.flat
  | _ => true

def Ty.dflt : (t : Ty) → t.D
  | .bool => false
  | .int _ => (0 : Int)
  | .str => ByteArray.empty
  | .arr n t => List.replicate n t.dflt
  | .slice _ => []
  | .unit => ()
  | .pair a b => (a.dflt, b.dflt)

abbrev Hf := Nat → Option Obj
def World.hf (w : World) : Hf := fun b => w.heap[b]?

/-- the most elements of a slice: what is made stays below, what came in is at most this -/
def lim : Nat := 9223372036854775807

def RelL {α : Type} (R : α → List Value → List Nat → Prop) : List α → List Value → List Nat → Prop
  | [], cs, F => cs = [] ∧ F = []
  | x :: xs, cs, F => ∃ c1 c2 F1 F2, cs = c1 ++ c2 ∧ F = F1 ++ F2 ∧ R x c1 F1 ∧ RelL R xs c2 F2

/-- of these cells none is frozen -/
def NF (z : Nat × Nat) (off len : Nat) : Prop := ∀ i, i < len → ¬ (z.1 ≤ off + i ∧ off + i < z.2)
theorem NF.zero (off len : Nat) : NF (0, 0) off len := fun _ _ h => by have := h.2; simp only at this; omega
theorem NF.sub {z : Nat × Nat} {off len off' len' : Nat} (h : NF z off len) (h1 : off ≤ off') (h2 : off' + len' ≤ off + len) : NF z off' len' := fun i hi hh => h (off' - off + i) (by omega) (by rw [show off + (off' - off + i) = off' + i by omega]; exact hh)
/-- the cells that hold x, and the blocks behind them -/
def Rc (h : Hf) : (t : Ty) → t.D → List Value → List Nat → Prop
  | .bool, x, cs, F => cs = [.bool x] ∧ F = []
  | .int k, x, cs, F => cs = [.int k x] ∧ F = []
  | .str, x, cs, F => cs = [.string x] ∧ F = []
  | .arr n t, xs, cs, F => List.length (α := t.D) xs = n ∧ RelL (Rc h t) xs cs F
  | .slice t, xs, cs, F => List.length (α := t.D) xs ≤ lim ∧
      ((xs = ([] : List t.D) ∧ F = [] ∧ ∃ a cap, cs = [.slice a 0 cap]) ∨
       ∃ b off cap F', cs = [.slice (some ⟨b, off, none⟩) (List.length (α := t.D) xs) (List.length (α := t.D) xs + cap)] ∧ F = b :: F' ∧
         ∃ c T z pre mid post, h b = some (.cells c T z) ∧ c.toList = pre ++ (mid ++ post) ∧ pre.length = off ∧ RelL (Rc h t) xs mid F' ∧ NF z off mid.length)
  | .unit, _, cs, F => cs = [] ∧ F = []
  | .pair a b, x, cs, F => ∃ c1 c2 F1 F2, cs = c1 ++ c2 ∧ F = F1 ++ F2 ∧ Rc h a x.1 c1 F1 ∧ Rc h b x.2 c2 F2

/-- the value that these cells are -/
def mkV (t : Ty) (cs : List Value) : Value := if t.agg then .agg cs.toArray else cs.headD undef

def Rv (h : Hf) (t : Ty) (x : t.D) (v : Value) (F : List Nat) : Prop := ∃ cs, Rc h t x cs F ∧ v = mkV t cs

/-! ### Laws of RelL and Rc -/
theorem RelL.mono {α : Type} {R R' : α → List Value → List Nat → Prop} : ∀ {xs : List α} {cs F}, (∀ x c F', (∀ b ∈ F', b ∈ F) → R x c F' → R' x c F') → RelL R xs cs F → RelL R' xs cs F
  | [], _, _, _, h => h
  | x :: xs, cs, F, hr, ⟨c1, c2, F1, F2, e1, e2, h1, h2⟩ =>
    ⟨c1, c2, F1, F2, e1, e2, hr _ _ _ (fun b hb => by rw [e2]; exact List.mem_append_left _ hb) h1,
      RelL.mono (fun x c F' hF => hr x c F' (fun b hb => by rw [e2]; exact List.mem_append_right _ (hF b hb))) h2⟩

theorem RelL.append {α : Type} {R : α → List Value → List Nat → Prop} : ∀ {xs ys : List α} {cs ds F G}, RelL R xs cs F → RelL R ys ds G → RelL R (xs ++ ys) (cs ++ ds) (F ++ G)
  | [], ys, cs, ds, F, G, ⟨e1, e2⟩, h => by subst e1; subst e2; simpa using h
  | x :: xs, ys, cs, ds, F, G, ⟨c1, c2, F1, F2, e1, e2, h1, h2⟩, h => by
    subst e1; subst e2
    exact ⟨c1, c2 ++ ds, F1, F2 ++ G, by simp, by simp, h1, RelL.append h2 h⟩

theorem RelL.split {α : Type} {R : α → List Value → List Nat → Prop} : ∀ {xs ys : List α} {cs F}, RelL R (xs ++ ys) cs F →
    ∃ c1 c2 F1 F2, cs = c1 ++ c2 ∧ F = F1 ++ F2 ∧ RelL R xs c1 F1 ∧ RelL R ys c2 F2
  | [], ys, cs, F, h => ⟨[], cs, [], F, rfl, rfl, ⟨rfl, rfl⟩, h⟩
  | x :: xs, ys, cs, F, ⟨c1, c2, F1, F2, e1, e2, h1, h2⟩ => by
    obtain ⟨d1, d2, G1, G2, e3, e4, h3, h4⟩ := RelL.split h2
    subst e1; subst e2; subst e3; subst e4
    exact ⟨c1 ++ d1, d2, F1 ++ G1, G2, by simp, by simp, ⟨c1, d1, F1, G1, rfl, rfl, h1, h3⟩, h4⟩

theorem RelL.len {α : Type} {R : α → List Value → List Nat → Prop} {s : Nat} (hs : ∀ x c F, R x c F → c.length = s) : ∀ {xs : List α} {cs F}, RelL R xs cs F → cs.length = xs.length * s
  | [], _, _, ⟨e, _⟩ => by subst e; simp
  | x :: xs, cs, F, ⟨c1, c2, F1, F2, e1, e2, h1, h2⟩ => by
    subst e1
    rw [List.length_append, hs _ _ _ h1, RelL.len hs h2, List.length_cons, Nat.succ_mul]; omega

theorem Rc.len {h : Hf} : ∀ (t : Ty) {x : t.D} {cs F}, Rc h t x cs F → cs.length = t.sz
  | .bool, _, _, _, hx => by obtain ⟨e, _⟩ := hx; subst e; rfl
  | .int _, _, _, _, hx => by obtain ⟨e, _⟩ := hx; subst e; rfl
  | .str, _, _, _, hx => by obtain ⟨e, _⟩ := hx; subst e; rfl
  | .arr n t, _, _, _, hx => by
    obtain ⟨e, h2⟩ := hx
    rw [RelL.len (fun x c F hc => Rc.len t hc) h2, e]; rfl
  | .slice t, _, _, _, hx => by
    obtain ⟨_, ⟨_, _, a, cap, e⟩ | ⟨b, off, cap, F', e, _⟩⟩ := hx <;> (subst e; rfl)
  | .unit, _, _, _, hx => by obtain ⟨e, _⟩ := hx; subst e; rfl
  | .pair a b, _, _, _, hx => by
    obtain ⟨c1, c2, F1, F2, e, _, h1, h2⟩ := hx
    subst e; rw [List.length_append, Rc.len a h1, Rc.len b h2]; rfl

/-- Only the blocks behind it matter. -/
theorem Rc.same {h h' : Hf} : ∀ (t : Ty) {x : t.D} {cs F}, Rc h t x cs F → (∀ b ∈ F, h' b = h b) → Rc h' t x cs F
  | .bool, _, _, _, hx, _ => hx
  | .int _, _, _, _, hx, _ => hx
  | .str, _, _, _, hx, _ => hx
  | .arr n t, _, _, _, hx, hh => ⟨hx.1, RelL.mono (fun x c F' hF hc => Rc.same t hc (fun b hb => hh b (hF b hb))) hx.2⟩
  | .slice t, _, _, _, hx, hh => by
    obtain ⟨hl, h1 | ⟨b, off, cap, F', e, eF, c, T, z, pre, mid, post, hb, hc, hp, hm⟩⟩ := hx
    · exact ⟨hl, .inl h1⟩
    · subst eF
      exact ⟨hl, .inr ⟨b, off, cap, F', e, rfl, c, T, z, pre, mid, post, by rw [hh b (by simp)]; exact hb, hc, hp,
        RelL.mono (fun x c F' hF hc => Rc.same t hc (fun b hb => hh b (List.mem_cons_of_mem _ (hF b hb)))) hm.1, hm.2⟩⟩
  | .unit, _, _, _, hx, _ => hx
  | .pair a b, _, _, _, hx, hh => by
    obtain ⟨c1, c2, F1, F2, e, eF, h1, h2⟩ := hx
    subst eF
    exact ⟨c1, c2, F1, F2, e, rfl, Rc.same a h1 (fun b hb => hh b (List.mem_append_left _ hb)), Rc.same b h2 (fun b hb => hh b (List.mem_append_right _ hb))⟩

theorem Rv.same {h h' : Hf} {t : Ty} {x : t.D} {v F} (hx : Rv h t x v F) (hh : ∀ b ∈ F, h' b = h b) : Rv h' t x v F :=
  let ⟨cs, h1, e⟩ := hx; ⟨cs, h1.same t hh, e⟩

theorem RelL.flat {α : Type} {R : α → List Value → List Nat → Prop} (hf : ∀ x c F, R x c F → F = []) : ∀ {xs : List α} {cs F}, RelL R xs cs F → F = []
  | [], _, _, ⟨_, e⟩ => e
  | x :: xs, cs, F, ⟨c1, c2, F1, F2, e1, e2, h1, h2⟩ => by rw [e2, hf _ _ _ h1, RelL.flat hf h2]; rfl

theorem Rc.flat {h : Hf} : ∀ (t : Ty) {x : t.D} {cs F}, t.flat = true → Rc h t x cs F → F = []
  | .bool, _, _, _, _, hx => hx.2
  | .int _, _, _, _, _, hx => hx.2
  | .str, _, _, _, _, hx => hx.2
  | .arr n t, _, _, _, hf, hx => RelL.flat (fun x c F hc => Rc.flat t hf hc) hx.2
  | .slice t, _, _, _, hf, _ => by cases hf
  | .unit, _, _, _, _, hx => hx.2
  | .pair a b, _, _, _, hf, hx => by
    simp only [Ty.flat, Bool.and_eq_true] at hf
    obtain ⟨c1, c2, F1, F2, e, eF, h1, h2⟩ := hx
    rw [eF, Rc.flat a hf.1 h1, Rc.flat b hf.2 h2]; rfl

/-- blocks behind it are there -/
theorem RelL.mem {α : Type} {R : α → List Value → List Nat → Prop} {p : Nat → Prop} (hf : ∀ x c F, R x c F → ∀ b ∈ F, p b) : ∀ {xs : List α} {cs F}, RelL R xs cs F → ∀ b ∈ F, p b
  | [], _, _, ⟨_, e⟩, b, hb => by subst e; cases hb
  | x :: xs, cs, F, ⟨c1, c2, F1, F2, e1, e2, h1, h2⟩, b, hb => by
    subst e2
    rcases List.mem_append.1 hb with h | h
    · exact hf _ _ _ h1 b h
    · exact RelL.mem hf h2 b h

theorem Rc.there {h : Hf} : ∀ (t : Ty) {x : t.D} {cs F}, Rc h t x cs F → ∀ b ∈ F, h b ≠ none
  | .bool, _, _, _, hx, b, hb => by rw [hx.2] at hb; cases hb
  | .int _, _, _, _, hx, b, hb => by rw [hx.2] at hb; cases hb
  | .str, _, _, _, hx, b, hb => by rw [hx.2] at hb; cases hb
  | .arr n t, _, _, _, hx, b, hb => RelL.mem (fun x c F hc => Rc.there t hc) hx.2 b hb
  | .slice t, _, _, _, hx, b, hb => by
    obtain ⟨hl, ⟨_, e, _⟩ | ⟨b', off, cap, F', e, eF, c, T, z, pre, mid, post, hb', hc, hp, hm⟩⟩ := hx
    · subst e; cases hb
    · subst eF
      rcases List.mem_cons.1 hb with h | h
      · subst h; rw [hb']; simp
      · exact RelL.mem (fun x c F hc => Rc.there t hc) hm.1 b h
  | .unit, _, _, _, hx, b, hb => by rw [hx.2] at hb; cases hb
  | .pair a b, _, _, _, hx, b', hb => by
    obtain ⟨c1, c2, F1, F2, e, eF, h1, h2⟩ := hx
    subst eF
    rcases List.mem_append.1 hb with h | h
    · exact Rc.there a h1 b' h
    · exact Rc.there b h2 b' h
/-! ### Abstract values -/
inductive AV where
  | int (k : IntKind) (n : Int)
  | bool (b : Bool)
  | str (s : ByteArray)
  /-- plain data: what lies behind it is not written while it is looked at -/
  | v (t : Ty) (x : t.D)
  /-- a pointer to memory that holds x and is not written -/
  | cptr (t : Ty) (x : t.D)
  /-- a pointer to a cell that holds x and is not written -/
  | cav (x : AV)
  /-- the address of cell 'off' of the own block 'id' -/
  | ref (id off : Nat)
  | elem (id off sz i : Nat)
  | elem2 (id off sz i sz2 j : Nat)
  /-- the slice that owns the row 'id' -/
  | os (id : Nat)
  /-- the elements l, l + 1, .. of an own array or row that lies from cell 'off' on -/
  | view (id off sz l len : Nat)
  | nilsl | nilp | nilf
  | fn (f : FuncId) (caps : List AV)
  | tup (xs : List AV)
  | st (xs : List AV)
  /-- x, if g -/
  | gd (g : Bool) (x : AV)
  | junk
  /-- the function that a range over a function hands over -/
  | yl (l : Nat)
  /-- the first m elements of the own row 'id', with its capacity -/
  | ov (id m : Nat)

mutual
def AV.ids : AV → List Nat
  | .ref id _ => [id]
  | .elem id _ _ _ => [id]
  | .elem2 id _ _ _ _ _ => [id]
  | .os id => [id]
  | .view id _ _ _ _ => [id]
  | .ov id _ => [id]
  | .fn _ caps => AV.idsL caps
  | .tup xs => AV.idsL xs
  | .st xs => AV.idsL xs
  | .gd _ x => x.ids
  | .cav x => x.ids
  | _ => []
def AV.idsL : List AV → List Nat
  | [] => []
  | x :: xs => x.ids ++ AV.idsL xs
end

/-- the value of one cell -/
def AV.one : AV → Bool
  | .int .. => true
  | .bool _ => true
  | .str _ => true
  | .v t _ => !t.agg
  | .cptr .. => true
  | .cav _ => true
  | .ref .. => true
  | .elem .. => true
  | .elem2 .. => true
  | .os .. => true
  | .view .. => true
  | .nilsl => true
  | .nilp => true
  | .nilf => true
  | .fn .. => true
  | .yl _ => true
  | .ov .. => true
  | _ => false

/-- own block 'id': its number, the capacity, the length (of a row) -/
structure Rho where
  f : Nat → Option (Nat × Nat × Nat)
  /-- blocks of the caller's that are left alone and that no data lies in -/
  N : Nat → Prop
instance : CoeFun Rho (fun _ => Nat → Option (Nat × Nat × Nat)) := ⟨Rho.f⟩

def cellsOf (vs : List Value) : List Value := vs.flatMap fun v => v.cells.toList

mutual
def RA (ρ : Rho) (h : Hf) (M : Nat → Prop) : AV → Value → Prop
  | .int k n, v => v = .int k n
  | .bool b, v => v = .bool b
  | .str s, v => v = .string s
  | .v t x, v => ∃ F, Rv h t x v F ∧ ∀ b ∈ F, ¬ M b
  | .cptr t x, v => ∃ b off F c T z pre mid post, v = .pointer (some ⟨b, off, none⟩) ∧ ¬ M b ∧ h b = some (.cells c T z) ∧ c.toList = pre ++ (mid ++ post) ∧ pre.length = off ∧
      Rc h t x mid F ∧ (∀ b ∈ F, ¬ M b) ∧ NF z off mid.length
  | .ref id off, v => ∃ b k, ρ id = some (b, k) ∧ v = .pointer (some ⟨b, off, none⟩)
  | .elem id off sz i, v => ∃ b k, ρ id = some (b, k) ∧ v = .pointer (some ⟨b, off + i * sz, none⟩)
  | .elem2 id off sz i sz2 j, v => ∃ b k, ρ id = some (b, k) ∧ v = .pointer (some ⟨b, off + i * sz + j * sz2, none⟩)
  | .os id, v => (ρ id = none ∧ v = .slice none 0 0) ∨ ∃ b cap len, ρ id = some (b, cap, len) ∧ v = .slice (some ⟨b, 0, none⟩) len cap
  | .view id off sz l len, v => (len = 0 ∧ ∃ a cap, v = .slice a 0 cap) ∨ ∃ b k ex, ρ id = some (b, k) ∧ v = .slice (some ⟨b, off + l * sz, none⟩) len (len + ex)
  | .nilsl, v => v = .slice none 0 0
  | .nilp, v => v = .pointer none
  | .nilf, v => v = .nilFunc
  | .fn f caps, v => ∃ vs, v = .func (.func f) #[] vs.toArray ∧ RAs ρ h M caps vs
  | .tup xs, v => ∃ vs, v = .tuple vs.toArray ∧ RAs ρ h M xs vs
  | .st xs, v => ∃ vs, v = .agg (cellsOf vs).toArray ∧ RAs ρ h M xs vs
  | .gd g x, v => if g then RA ρ h M x v else v = undef
  | .cav x, v => ∃ b off c T z pre u post, v = .pointer (some ⟨b, off, none⟩) ∧ ¬ M b ∧ h b = some (.cells c T z) ∧ c.toList = pre ++ u :: post ∧ pre.length = off ∧ x.one = true ∧ RA ρ h M x u
  | .junk, _ => True
  | .yl l, v => v = .func (.yield l) #[] #[]
  | .ov id m, v => (m = 0 ∧ ρ id = none ∧ v = .slice none 0 0) ∨ ∃ b cap len, ρ id = some (b, cap, len) ∧ v = .slice (some ⟨b, 0, none⟩) m cap
def RAs (ρ : Rho) (h : Hf) (M : Nat → Prop) : List AV → List Value → Prop
  | [], vs => vs = []
  | x :: xs, vs => ∃ v vs', vs = v :: vs' ∧ RA ρ h M x v ∧ RAs ρ h M xs vs'
end

mutual
theorem RA.same {ρ ρ' : Rho} {h h' : Hf} {M M' : Nat → Prop} : ∀ (x : AV) {v : Value}, RA ρ h M x v → (∀ id ∈ x.ids, ρ' id = ρ id) →
    (∀ b, ¬ M b → h b ≠ none → h' b = h b ∧ ¬ M' b) → RA ρ' h' M' x v
  | .int .., _, hx, _, _ => hx
  | .bool _, _, hx, _, _ => hx
  | .str _, _, hx, _, _ => hx
  | .v t x, _, hx, _, hm => by
    obtain ⟨F, ⟨cs, h1, e⟩, hF⟩ := hx
    exact ⟨F, ⟨cs, h1.same t (fun b hb => (hm b (hF b hb) (h1.there t b hb)).1), e⟩, fun b hb => (hm b (hF b hb) (h1.there t b hb)).2⟩
  | .cptr t x, _, hx, _, hm => by
    obtain ⟨b, off, F, c, T, z, pre, mid, post, e, hb, hh, hc, hp, h1, hF⟩ := hx
    have h2 := hm b hb (by rw [hh]; simp)
    exact ⟨b, off, F, c, T, z, pre, mid, post, e, h2.2, by rw [h2.1]; exact hh, hc, hp, h1.same t (fun b hb => (hm b (hF.1 b hb) (h1.there t b hb)).1),
      fun b hb => (hm b (hF.1 b hb) (h1.there t b hb)).2, hF.2⟩
  | .ref id off, _, hx, hi, _ => by
    obtain ⟨b, k, h1, e⟩ := hx
    exact ⟨b, k, by rw [hi id (by simp [AV.ids])]; exact h1, e⟩
  | .elem id off sz i, _, hx, hi, _ => by
    obtain ⟨b, k, h1, e⟩ := hx
    exact ⟨b, k, by rw [hi id (by simp [AV.ids])]; exact h1, e⟩
  | .elem2 id off sz i sz2 j, _, hx, hi, _ => by
    obtain ⟨b, k, h1, e⟩ := hx
    exact ⟨b, k, by rw [hi id (by simp [AV.ids])]; exact h1, e⟩
  | .os id, _, hx, hi, _ => by
    have := hi id (by simp [AV.ids])
    rcases hx with ⟨h1, h2⟩ | ⟨b, cap, len, h1, e⟩
    · exact .inl ⟨by rw [this]; exact h1, h2⟩
    · exact .inr ⟨b, cap, len, by rw [this]; exact h1, e⟩
  | .view id off sz l len, _, hx, hi, _ => by
    have := hi id (by simp [AV.ids])
    rcases hx with h1 | ⟨b, k, cap, h1, e⟩
    · exact .inl h1
    · exact .inr ⟨b, k, cap, by rw [this]; exact h1, e⟩
  | .nilsl, _, hx, _, _ => hx
  | .nilp, _, hx, _, _ => hx
  | .nilf, _, hx, _, _ => hx
  | .fn f caps, _, hx, hi, hm => by
    obtain ⟨vs, e, h1⟩ := hx
    exact ⟨vs, e, RAs.same caps h1 (fun id hid => hi id (by simpa [AV.ids] using hid)) hm⟩
  | .tup xs, _, hx, hi, hm => by
    obtain ⟨vs, e, h1⟩ := hx
    exact ⟨vs, e, RAs.same xs h1 (fun id hid => hi id (by simpa [AV.ids] using hid)) hm⟩
  | .st xs, _, hx, hi, hm => by
    obtain ⟨vs, e, h1⟩ := hx
    exact ⟨vs, e, RAs.same xs h1 (fun id hid => hi id (by simpa [AV.ids] using hid)) hm⟩
  | .cav x, _, hx, hi, hm => by
    obtain ⟨b, off, c, T, z, pre, u, post, e, hb, hh, hc, hp, h1, hu⟩ := hx
    have h2 := hm b hb (by rw [hh]; simp)
    exact ⟨b, off, c, T, z, pre, u, post, e, h2.2, by rw [h2.1]; exact hh, hc, hp, h1, RA.same x hu (fun id hid => hi id (by simpa [AV.ids] using hid)) hm⟩
  | .gd g x, _, hx, hi, hm => by
    cases g
    · exact hx
    · exact RA.same (v := _) x hx (fun id hid => hi id (by simpa [AV.ids] using hid)) hm
  | .junk, _, _, _, _ => trivial
  | .yl _, _, hx, _, _ => hx
  | .ov id m, _, hx, hi, _ => by
    have := hi id (by simp [AV.ids])
    rcases hx with ⟨h0, h1, h2⟩ | ⟨b, cap, len, h1, e⟩
    · exact .inl ⟨h0, by rw [this]; exact h1, h2⟩
    · exact .inr ⟨b, cap, len, by rw [this]; exact h1, e⟩
theorem RAs.same {ρ ρ' : Rho} {h h' : Hf} {M M' : Nat → Prop} : ∀ (xs : List AV) {vs : List Value}, RAs ρ h M xs vs → (∀ id ∈ AV.idsL xs, ρ' id = ρ id) →
    (∀ b, ¬ M b → h b ≠ none → h' b = h b ∧ ¬ M' b) → RAs ρ' h' M' xs vs
  | [], _, hx, _, _ => hx
  | x :: xs, _, hx, hi, hm => by
    obtain ⟨v, vs', e, h1, h2⟩ := hx
    exact ⟨v, vs', e, RA.same x h1 (fun id hid => hi id (by simp [AV.idsL, hid])) hm, RAs.same xs h2 (fun id hid => hi id (by simp [AV.idsL, hid])) hm⟩
end

/-! ### Own blocks -/
inductive Comp where
  | cell (a : AV)
  | arr (t : Ty) (n : Nat) (xs : List t.D)

inductive Blk where
  | var (cs : List Comp)
  | row (t : Ty) (xs : List t.D)
  /-- the bytes of a string that were converted -/
  | brow (xs : List Int)

abbrev Hp := List (Nat × Blk)

def Comp.sz : Comp → Nat
  | .cell _ => 1
  | .arr t n _ => n * t.sz

def Comp.ids : Comp → List Nat
  | .cell a => a.ids
  | .arr .. => []

def Blk.ids : Blk → List Nat
  | .var cs => cs.flatMap Comp.ids
  | .row .. => []
  | .brow .. => []

def RComps (ρ : Rho) (h : Hf) (M : Nat → Prop) : List Comp → List Value → List Nat → Prop
  | [], cs, F => cs = [] ∧ F = []
  | .cell a :: r, cs, F => ∃ v cs', cs = v :: cs' ∧ a.one = true ∧ RA ρ h M a v ∧ RComps ρ h M r cs' F
  | .arr t n xs :: r, cs, F => ∃ c1 c2 F1 F2, cs = c1 ++ c2 ∧ F = F1 ++ F2 ∧ Rc h (.arr n t) xs c1 F1 ∧ RComps ρ h M r c2 F2

/-- blocks of which no cell is frozen -/
def NoFz (h : Hf) (F : List Nat) : Prop := ∀ b ∈ F, ∃ c T, h b = some (.cells c T (0, 0))
theorem NoFz.nil {h : Hf} : NoFz h [] := fun _ hb => by cases hb
theorem NoFz.same {h h' : Hf} {F : List Nat} (hF : NoFz h F) (hh : ∀ b ∈ F, h' b = h b) : NoFz h' F := fun b hb => by
  obtain ⟨c, T, e⟩ := hF b hb
  exact ⟨c, T, by rw [hh b hb]; exact e⟩
theorem NoFz.append {h : Hf} {F G : List Nat} (h1 : NoFz h F) (h2 : NoFz h G) : NoFz h (F ++ G) := fun b hb => by
  rcases List.mem_append.1 hb with hb | hb
  · exact h1 b hb
  · exact h2 b hb
theorem NoFz.left {h : Hf} {F G : List Nat} (h1 : NoFz h (F ++ G)) : NoFz h F := fun b hb => h1 b (List.mem_append_left _ hb)
theorem NoFz.right {h : Hf} {F G : List Nat} (h1 : NoFz h (F ++ G)) : NoFz h G := fun b hb => h1 b (List.mem_append_right _ hb)
theorem NoFz.cons {h : Hf} {b : Nat} {F : List Nat} {c : Array Value} {T : TypeId} (hb : h b = some (.cells c T (0, 0))) (h1 : NoFz h F) : NoFz h (b :: F) := fun x hx => by
  rcases List.mem_cons.1 hx with e | hx
  · subst e; exact ⟨c, T, hb⟩
  · exact h1 x hx
def RBlk (ρ : Rho) (h : Hf) (M : Nat → Prop) (id : Nat) : Blk → List Nat → Prop
  | .var cs, L => ∃ b k c T F, ρ id = some (b, k) ∧ h b = some (.cells c T (0, 0)) ∧ RComps ρ h M cs c.toList F ∧ L = b :: F
  | .row t xs, L => List.length (α := t.D) xs ≤ lim ∧ ((ρ id = none ∧ xs = ([] : List t.D) ∧ L = []) ∨
      ∃ b cap c T F mid post, ρ id = some (b, cap, List.length (α := t.D) xs) ∧ h b = some (.cells c T (0, 0)) ∧ c.toList = mid ++ post ∧ RelL (Rc h t) xs mid F ∧ L = b :: F ∧
        List.length (α := t.D) xs ≤ cap ∧ c.size = cap * t.sz ∧ NoFz h F)
  | .brow xs, L => ∃ b cap c T post, ρ id = some (b, cap, xs.length) ∧ h b = some (.cells c T (c.size, c.size + 1)) ∧ c.toList = xs.map (Value.int .u8) ++ post ∧ L = [b] ∧ c.size = cap ∧ xs.length ≤ lim

/-- the blocks that may be written -/
def namB (ρ : Rho) (H : Hp) (b : Nat) : Prop := ∃ e ∈ H, ∃ k, ρ e.1 = some (b, k)
/-- the blocks that no data lies in -/
def ownB (ρ : Rho) (H : Hp) (b : Nat) : Prop := namB ρ H b ∨ ρ.N b

theorem RComps.same {ρ ρ' : Rho} {h h' : Hf} {M M' : Nat → Prop} : ∀ {cs : List Comp} {vs F}, RComps ρ h M cs vs F → (∀ id ∈ cs.flatMap Comp.ids, ρ' id = ρ id) →
    (∀ b, ¬ M b → h b ≠ none → h' b = h b ∧ ¬ M' b) → (∀ b ∈ F, h' b = h b) → RComps ρ' h' M' cs vs F
  | [], _, _, hx, _, _, _ => hx
  | .cell a :: r, _, _, hx, hi, hm, hF => by
    obtain ⟨v, cs', e, h1, h2, h3⟩ := hx
    exact ⟨v, cs', e, h1, h2.same a (fun id hid => hi id (by simp [Comp.ids, hid])) hm, RComps.same h3 (fun id hid => hi id (by rw [List.flatMap_cons]; exact List.mem_append_right _ hid)) hm hF⟩
  | .arr t n xs :: r, _, _, hx, hi, hm, hF => by
    obtain ⟨c1, c2, F1, F2, e, eF, h1, h2⟩ := hx
    subst eF
    exact ⟨c1, c2, F1, F2, e, rfl, h1.same _ (fun b hb => hF b (List.mem_append_left _ hb)),
      RComps.same h2 (fun id hid => hi id (by rw [List.flatMap_cons]; exact List.mem_append_right _ hid)) hm (fun b hb => hF b (List.mem_append_right _ hb))⟩

theorem RBlk.same {ρ ρ' : Rho} {h h' : Hf} {M M' : Nat → Prop} {id : Nat} : ∀ {B : Blk} {L}, RBlk ρ h M id B L → (∀ i, i = id ∨ i ∈ B.ids → ρ' i = ρ i) →
    (∀ b, ¬ M b → h b ≠ none → h' b = h b ∧ ¬ M' b) → (∀ b ∈ L, h' b = h b) → RBlk ρ' h' M' id B L
  | .var cs, _, hx, hi, hm, hF => by
    obtain ⟨b, k, c, T, F, h1, h2, h3, e⟩ := hx
    subst e
    exact ⟨b, k, c, T, F, by rw [hi id (.inl rfl)]; exact h1, by rw [hF b (by simp)]; exact h2, h3.same (fun i hid => hi i (.inr hid)) hm (fun b hb => hF b (List.mem_cons_of_mem _ hb)), rfl⟩
  | .row t xs, _, hx, hi, hm, hF => by
    obtain ⟨hl, ⟨h1, h2⟩ | ⟨b, cap, c, T, F, mid, post, h1, h2, h3, h4, e, h5⟩⟩ := hx
    · exact ⟨hl, .inl ⟨by rw [hi id (.inl rfl)]; exact h1, h2⟩⟩
    · subst e
      exact ⟨hl, .inr ⟨b, cap, c, T, F, mid, post, by rw [hi id (.inl rfl)]; exact h1, by rw [hF b (by simp)]; exact h2, h3,
        h4.mono (fun x c F' hF' hc => hc.same t (fun b hb => hF b (List.mem_cons_of_mem _ (hF' b hb)))), rfl, h5.1, h5.2.1, h5.2.2.same (fun b hb => hF b (List.mem_cons_of_mem _ hb))⟩⟩
  | .brow xs, _, hx, hi, hm, hF => by
    obtain ⟨b, cap, c, T, post, h1, h2, h3, e, h4⟩ := hx
    subst e
    exact ⟨b, cap, c, T, post, by rw [hi id (.inl rfl)]; exact h1, by rw [hF b (by simp)]; exact h2, h3, rfl, h4⟩

def Hp.ids (H : Hp) : List Nat := H.flatMap fun e => e.1 :: e.2.ids

/-- the own blocks stand in the world; 'ℓ id': the blocks of entry 'id', itself and those behind it -/
structure HeapOK (ρ : Rho) (h : Hf) (H : Hp) (ℓ : Nat → List Nat) : Prop where
  blk : ∀ e ∈ H, RBlk ρ h (ownB ρ H) e.1 e.2 (ℓ e.1)
  nd : ∀ e ∈ H, (ℓ e.1).Nodup
  dj : ∀ e ∈ H, ∀ e' ∈ H, e.1 ≠ e'.1 → ∀ b ∈ ℓ e.1, b ∉ ℓ e'.1
  ids : (H.map (·.1)).Nodup

/-! ### The state of a walk -/
abbrev Fr := List (Nat × AV)
def get : Fr → Nat → Option AV
  | [], _ => none
  | (i, a) :: l, t => bif Nat.beq i t then some a else get l t

def Fr.ids (fr : Fr) : List Nat := fr.flatMap fun e => e.2.ids

structure Ext (M0 : Nat → Prop) (w w' : World) : Prop where
  os : w'.os = w.os
  tape : w'.tape = w.tape
  output : w'.output = w.output
  size : w.heap.size ≤ w'.heap.size
  block : ∀ k, k < w.heap.size → ¬ M0 k → w'.heap[k]? = w.heap[k]?

structure Ctx where
  W0 : World
  M0 : Nat → Prop
  L0 : Nat → Prop
  ρ0 : Rho
  /-- the marks of ranges over functions -/
  dl : List Deferred

/-- the slots of the frame; the names of blocks that were the caller's -/
structure Sz where
  n : Nat
  K : Nat

structure SIM (Γ : Ctx) (n : Sz) (ρ : Rho) (w : World) (a : Act) (fr : Fr) (H : Hp) : Prop where
  defers : a.defers = Γ.dl ∧ ρ.N = Γ.ρ0.N ∧ ∀ b, Γ.ρ0.N b → ¬ Γ.L0 b ∧ b < Γ.W0.heap.size
  size : a.tmps.size = n.n
  ext : Ext Γ.M0 Γ.W0 w
  keep : ∀ i, i < n.K → ρ i = Γ.ρ0 i
  own : ∀ b, namB ρ H b → Γ.M0 b ∨ Γ.W0.heap.size ≤ b
  heap : ∃ ℓ, HeapOK ρ (World.hf w) H ℓ ∧ ∀ e ∈ H, ∀ b ∈ ℓ e.1, Γ.L0 b ∨ Γ.W0.heap.size ≤ b
  fr : ∀ t x, get fr t = some x → t < n.n ∧ RA ρ (World.hf w) (ownB ρ H) x (a.tmps.getD t undef)

/-- the tables of the library that the program may read lie where they should, in blocks that are not written -/
def TabLaid (P : Program) (w : World) (M : Nat → Prop) : Prop :=
  ∀ g, P.globalNamed "internal/strconv.uint64pow10" = some g → Lib.TabIs P w "internal/strconv.uint64pow10" .u64 Lib.pow10Tab ∧ ¬ M g
/-- a variable that holds an error, or none -/
def ErrAt (w : World) (g : Nat) : Prop := ∃ c T z ev, w.heap[g]? = some (.cells c T z) ∧ c[0]? = some ev ∧ (ev = .nilIface ∨ ∃ te pe, ev = .iface te pe)
def ErrLaid (P : Program) (w : World) (M : Nat → Prop) : Prop :=
  ∀ nm g, (nm = "strconv.ErrSyntax" ∨ nm = "strconv.ErrRange") → P.globalNamed nm = some g → ErrAt w g ∧ ¬ M g
def Laid (P : Program) (w : World) (M : Nat → Prop) : Prop := TabLaid P w M ∧ ErrLaid P w M
theorem err_same {w w' : World} {g : Nat} (hh : w'.heap[g]? = w.heap[g]?) (h : ErrAt w g) : ErrAt w' g := by
  obtain ⟨c, T, z, ev, h1, h2⟩ := h
  exact ⟨c, T, z, ev, by rw [hh]; exact h1, h2⟩
theorem err_lt {w : World} {g : Nat} (h : ErrAt w g) : g < w.heap.size := by
  obtain ⟨c, T, z, ev, h1, _⟩ := h
  rcases Nat.lt_or_ge g w.heap.size with h' | h'
  · exact h'
  · rw [Array.getElem?_eq_none h'] at h1; cases h1
class LaidS (P : Program) (Γ : Ctx) : Prop where
  laid : Laid P Γ.W0 Γ.M0
theorem tab_same {P : Program} {w w' : World} {name : String} {k : IntKind} {zs : List Int} {g : Nat} (hg : P.globalNamed name = some g) (hh : w'.heap[g]? = w.heap[g]?) (h : Lib.TabIs P w name k zs) : Lib.TabIs P w' name k zs := by
  unfold Lib.TabIs World.var? at *
  rw [hg] at h ⊢
  simp only [Option.bind_some] at h ⊢
  rw [hh]; exact h
theorem tab_lt {P : Program} {w : World} {name : String} {k : IntKind} {zs : List Int} {g : Nat} (hg : P.globalNamed name = some g) (h : Lib.TabIs P w name k zs) : g < w.heap.size := by
  unfold Lib.TabIs World.var? at h
  rw [hg] at h
  simp only [Option.bind_some] at h
  rcases Nat.lt_or_ge g w.heap.size with h' | h'
  · exact h'
  · rw [Array.getElem?_eq_none h'] at h; cases h
theorem Laid.ext {P : Program} {w w' : World} {M M' : Nat → Prop} (h : Laid P w M) (he : Ext M w w') (hM : ∀ b, M' b → M b ∨ w.heap.size ≤ b) : Laid P w' M' := ⟨fun g hg => by
  obtain ⟨h1, h2⟩ := h.1 g hg
  have hlt := tab_lt hg h1
  refine ⟨tab_same hg (he.block g hlt h2) h1, fun hm => ?_⟩
  rcases hM g hm with h3 | h3
  · exact h2 h3
  · omega, fun nm g hn hg => by
  obtain ⟨h1, h2⟩ := h.2 nm g hn hg
  have hlt := err_lt h1
  refine ⟨err_same (he.block g hlt h2) h1, fun hm => ?_⟩
  rcases hM g hm with h3 | h3
  · exact h2 h3
  · omega⟩

theorem Ext.refl (M : Nat → Prop) (w : World) : Ext M w w := ⟨rfl, rfl, rfl, Nat.le_refl _, fun _ _ _ => rfl⟩
theorem Ext.trans {M : Nat → Prop} {a b c : World} (h : Ext M a b) (k : Ext M b c) : Ext M a c :=
  ⟨k.os.trans h.os, k.tape.trans h.tape, k.output.trans h.output, Nat.le_trans h.size k.size, fun i hi hm => (k.block i (Nat.lt_of_lt_of_le hi h.size) hm).trans (h.block i hi hm)⟩
end Go.GA
end
section
namespace Go.GA
open Go Go.RowKit

theorem put_some (a : Act) (d : Nat) (v : Value) : a.put (some d) v = { a with tmps := a.tmps.setIfInBounds d v } := rfl

theorem SIM.put {Γ : Ctx} {n : Sz} {ρ : Rho} {w : World} {a : Act} {fr : Fr} {H : Hp} (h : SIM Γ n ρ w a fr H) {d : Nat} (hd : Nat.blt d n.n = true) {x : AV} {v : Value}
    (hx : RA ρ (World.hf w) (ownB ρ H) x v) : SIM Γ n ρ w (a.put (some d) v) ((d, x) :: fr) H := by
  have hd' : d < n.n := by simpa using hd
  refine ⟨h.defers, by simp [put_some, h.size], h.ext, h.keep, h.own, h.heap, ?_⟩
  intro t y hy
  simp only [get] at hy
  by_cases e : d = t
  · subst e
    simp at hy
    subst hy
    refine ⟨hd', ?_⟩
    have : d < a.tmps.size := by rw [h.size]; exact hd'
    simpa [put_some, Array.getD_eq_getD_getElem?, this] using hx
  · have e' : Nat.beq d t = false := by
      cases hh : Nat.beq d t with
      | false => rfl
      | true => exact absurd (Nat.eq_of_beq_eq_true hh) e
    rw [e'] at hy
    obtain ⟨h1, h2⟩ := h.fr t y hy
    refine ⟨h1, ?_⟩
    simpa [put_some, Array.getD_eq_getD_getElem?, Array.getElem?_setIfInBounds, e] using h2

/-! ### Operands -/
def evC : Value → Option AV
  | .int k n => some (.int k n)
  | .bool b => some (.bool b)
  | .string s => some (.str s)
  | .slice none 0 0 => some .nilsl
  | .pointer none => some .nilp
  | .nilFunc => some .nilf
  | _ => none

def evO (fr : Fr) : Operand → Option AV
  | .tmp t => get fr t
  | .const c => evC c
  | .func f => some (.fn f [])
  | .global _ => none

theorem evC_ok {ρ h M} {c : Value} {x : AV} (hx : evC c = some x) : RA ρ h M x c := by
  unfold evC at hx
  split at hx <;> simp at hx <;> subst hx <;> simp [RA]

theorem SIM.ev {Γ : Ctx} {n : Sz} {ρ : Rho} {w : World} {a : Act} {fr : Fr} {H : Hp} (h : SIM Γ n ρ w a fr H) {o : Operand} {x : AV} (hx : evO fr o = some x) :
    RA ρ (World.hf w) (ownB ρ H) x (a.eval o) := by
  cases o with
  | tmp t => exact (h.fr t x hx).2
  | const c => exact evC_ok hx
  | func f => simp only [evO, Option.some.injEq] at hx; subst hx; exact ⟨[], rfl, rfl⟩
  | global g => cases hx

/-- the old world's blocks stand in w' -/
def Kept (w w' : World) : Prop := Ext (fun _ => False) w w'
theorem Kept.refl (w : World) : Kept w w := Ext.refl _ w
theorem Kept.trans {a b c : World} (h : Kept a b) (k : Kept b c) : Kept a c := Ext.trans h k

/-- the operation only reads, and its result is x -/
def Reads (P : Program) (o : Oper) (fr : Fr) (H : Hp) (x : AV) : Prop :=
  ∀ Γ n ρ w a, SIM Γ n ρ w a fr H → ∃ v, RA ρ (World.hf w) (ownB ρ H) x v ∧ ∀ w', Kept w w' → (execOp a.eval o).run P w' = .ok (.value v) w'

/-! ### Judgements -/
def AQ (Γ : Ctx) (n : Sz) (K : Act → World → Prop) (fr : Fr) (H : Hp) : Prop := ∀ ρ w a, SIM Γ n ρ w a fr H → K a w
def AO (P : Program) (Γ : Ctx) (n : Sz) (all : Array Oper) (Q : Exit → Act → World → Prop) (ops : List Oper) (fr : Fr) (H : Hp) : Prop :=
  ∀ ρ w a, SIM Γ n ρ w a fr H → wpList P all Q ops a w
def AW (P : Program) (Γ : Ctx) (n : Sz) (c : Code) (Q : Exit → Act → World → Prop) (fr : Fr) (H : Hp) : Prop :=
  ∀ ρ w a, SIM Γ n ρ w a fr H → c.wp P Q a w

section
variable {P : Program} {Γ : Ctx} {n : Sz} {Q : Exit → Act → World → Prop} {fr fr' : Fr} {H H' : Hp}

theorem aw_skip (h : AQ Γ n (Q .normal) fr H) : AW P Γ n .skip Q fr H := fun ρ w a s => wp_skip (h ρ w a s)
theorem aw_exit {id : Nat} (h : AQ Γ n (Q (.exit id)) fr H) : AW P Γ n (.exit id) Q fr H := fun ρ w a s => wp_exit (h ρ w a s)
theorem aw_ret (h : AQ Γ n (Q .ret) fr H) : AW P Γ n .ret Q fr H := fun ρ w a s => wp_ret (h ρ w a s)
theorem aw_seq {x y : Code} (h : AW P Γ n x (Exit.then (y.wp P Q) Q) fr H) : AW P Γ n (x.seq y) Q fr H := fun ρ w a s => wp_seq (h ρ w a s)
theorem aw_block {id : Nat} {c : Code} (h : AW P Γ n c (Exit.inBlock id Q) fr H) : AW P Γ n (.block id c) Q fr H := fun ρ w a s => wp_block (h ρ w a s)
theorem aw_cond {c : Operand} {x y : Code} {b : Bool} (hc : evO fr c = some (.bool b)) (ht : b = true → AW P Γ n x Q fr H) (hf : b = false → AW P Γ n y Q fr H) :
    AW P Γ n (.cond c x y) Q fr H := fun ρ w a s =>
  wp_cond_split (t := b) (s.ev hc) (fun h => ht h ρ w a s) (fun h => hf h ρ w a s)
theorem aw_region {id : Nat} {l : List Oper} (h : AO P Γ n l.toArray Q l fr H) : AW P Γ n (.region id l.toArray false) Q fr H := fun ρ w a s => wp_region_lit (h ρ w a s)
theorem ao_nil {all : Array Oper} (h : AQ Γ n (Q .normal) fr H) : AO P Γ n all Q [] fr H := fun ρ w a s => h ρ w a s

/-- what stands behind a sequence, a block -/
theorem aq_then {y : Code} (h : AW P Γ n y Q fr H) : AQ Γ n (Exit.then (y.wp P Q) Q .normal) fr H := h
theorem aq_then_ret {K : Act → World → Prop} (h : AQ Γ n (Q .ret) fr H) : AQ Γ n (Exit.then K Q .ret) fr H := h
theorem aq_then_exit {K : Act → World → Prop} {i : Nat} (h : AQ Γ n (Q (.exit i)) fr H) : AQ Γ n (Exit.then K Q (.exit i)) fr H := h
theorem aq_in {i : Nat} (h : AQ Γ n (Q .normal) fr H) : AQ Γ n (Exit.inBlock i Q .normal) fr H := h
theorem aq_in_ret {i : Nat} (h : AQ Γ n (Q .ret) fr H) : AQ Γ n (Exit.inBlock i Q .ret) fr H := h
theorem aq_in_exit {i : Nat} (h : AQ Γ n (Q .normal) fr H) : AQ Γ n (Exit.inBlock i Q (.exit i)) fr H := fun ρ w a s => by
  simp only [Exit.inBlock, if_true]; exact h ρ w a s
/-- the guard of an operation says yes -/
def gOK (all : Array Oper) (fr : Fr) : Option (Nat × Bool) → Prop
  | none => True
  | some (j, want) => ∃ s b, (all[j]?).bind (·.dst) = some s ∧ get fr s = some (.bool b) ∧ b = want
theorem SIM.yielded {ρ : Rho} {w : World} {a : Act} (h : SIM Γ n ρ w a fr H) {all : Array Oper} {j s : Nat} {b : Bool} (hj : (all[j]?).bind (·.dst) = some s) (hs : get fr s = some (.bool b)) : yielded all a.tmps j = some b := by
  obtain ⟨h1, h2⟩ := h.fr s _ hs
  simp only [RA] at h2
  have hlt : s < a.tmps.size := by rw [h.size]; exact h1
  have : a.tmps[s]? = some (.bool b) := by
    rw [Array.getD_eq_getD_getElem?] at h2
    rw [Array.getElem?_eq_getElem hlt] at h2 ⊢
    simpa using h2
  simp [Go.yielded, hj, this]
theorem SIM.wanted {ρ : Rho} {w : World} {a : Act} (h : SIM Γ n ρ w a fr H) {all : Array Oper} {o : Oper} (hg : gOK all fr o.guard) : Region.wanted o (Go.yielded all a.tmps) = true := by
  unfold Region.wanted
  cases hgd : o.guard with
  | none => rfl
  | some jw =>
    obtain ⟨j, want⟩ := jw
    rw [hgd] at hg
    obtain ⟨s, b, hj, hs, rfl⟩ := hg
    simp [h.yielded hj hs]
theorem wpList_go {all : Array Oper} {ops : List Oper} {o : Oper} {a : Act} {w : World} (hw : Region.wanted o (Go.yielded all a.tmps) = true) (h : ∀ K : Act → World → Prop, (∀ a w, wpList P all Q ops a w → K a w) → o.wp P a w K Q) :
    wpList P all Q (o :: ops) a w := wpList_step fun K hK => by rw [if_pos hw]; exact h K hK

theorem ao_read {all : Array Oper} {ops : List Oper} {d : Nat} {op : Op} {ty : TypeId} {pos : String} {aft : Array Edge} {g : Option (Nat × Bool)} {x : AV} (hg : gOK all fr g) (hr : Reads P ⟨some d, op, ty, pos, aft, g⟩ fr H x) (hd : Nat.blt d n.n = true)
    (h : AO P Γ n all Q ops ((d, x) :: fr) H) : AO P Γ n all Q (⟨some d, op, ty, pos, aft, g⟩ :: ops) fr H := fun ρ w a s => by
  obtain ⟨v, hv, hrun⟩ := hr Γ n ρ w a s
  refine wpList_go (s.wanted hg) fun K hK => ?_
  unfold Oper.wp
  rw [hrun w (Kept.refl w)]
  exact hK _ _ (h ρ w _ (s.put hd hv))

/-! ### Operations that are left out -/
/-- the next k operations wait for the same answer -/
def skipOK : Nat → Nat → Bool → List Oper → Bool
  | 0, _, _, _ => true
  | k + 1, j, want, o :: ops => (match o.guard, o.dst with
    | some (i, b), some _ => Nat.beq i j && (b == want)
    | _, _ => false) && skipOK k j want ops
  | _ + 1, _, _, [] => false
/-- their slots hold nothing -/
def undN : Nat → List Oper → Fr → Fr
  | 0, _, fr => fr
  | k + 1, o :: ops, fr => match o.dst with
    | some d => undN k ops ((d, .gd false .junk) :: fr)
    | none => undN k ops fr
  | _ + 1, [], fr => fr
def dstsLt (m : Nat) : Nat → List Oper → Bool
  | 0, _ => true
  | k + 1, o :: ops => (match o.dst with
    | some d => Nat.blt d m
    | none => true) && dstsLt m k ops
  | _ + 1, [] => true
/-- the slot is none of theirs -/
def noDst (s : Nat) : Nat → List Oper → Bool
  | 0, _ => true
  | k + 1, o :: ops => (match o.dst with
    | some d => !(Nat.beq d s)
    | none => true) && noDst s k ops
  | _ + 1, [] => true

theorem ao_skips {all : Array Oper} {j s : Nat} {want b : Bool} (hj : (all[j]?).bind (·.dst) = some s) (hb : b = !want) : ∀ (k : Nat) {ops : List Oper} {fr : Fr}, get fr s = some (.bool b) ∨ get fr s = some (.gd false .junk) → skipOK k j want ops = true → dstsLt n.n k ops = true → noDst s k ops = true →
    AO P Γ n all Q (ops.drop k) (undN k ops fr) H → AO P Γ n all Q ops fr H
  | 0, _, _, _, _, _, _, h => h
  | k + 1, [], _, _, hsk, _, _, _ => by cases hsk
  | k + 1, o :: ops, fr, hs, hsk, hlt, hno, h => by
    simp only [skipOK, Bool.and_eq_true] at hsk
    obtain ⟨h1, h2⟩ := hsk
    simp only [dstsLt, Bool.and_eq_true] at hlt
    simp only [noDst, Bool.and_eq_true] at hno
    split at h1
    · rename_i i b' d hg hd
      simp only [Bool.and_eq_true, beq_iff_eq] at h1
      have hi := Nat.eq_of_beq_eq_true h1.1
      obtain ⟨_, rfl⟩ := h1
      subst hi
      simp only [hd] at hlt hno
      intro ρ w a sm
      refine wpList_step fun K hK => ?_
      have hw : Region.wanted o (Go.yielded all a.tmps) = false := by
        unfold Region.wanted
        rw [hg]
        rcases hs with hs | hs
        · simp only [sm.yielded hj hs, hb]; cases b' <;> rfl
        · obtain ⟨h1, h2⟩ := sm.fr s _ hs
          simp only [RA, Bool.false_eq_true, if_false] at h2
          have hlt : s < a.tmps.size := by rw [sm.size]; exact h1
          have : a.tmps[s]? = some undef := by
            rw [Array.getD_eq_getD_getElem?] at h2
            rw [Array.getElem?_eq_getElem hlt] at h2 ⊢
            simpa using h2
          simp [Go.yielded, hj, this, undef]
      rw [if_neg (by simp [hw])]
      have hne : Nat.beq d s = false := by simpa using hno.1
      rw [hd]
      simp only [List.drop_succ_cons] at h
      simp only [undN, hd] at h
      refine hK _ _ (ao_skips hj hb k (fr := (d, .gd false .junk) :: fr) ?_ h2 hlt.2 hno.2 h ρ w _ (sm.put hlt.1 (by simp [RA])))
      simpa [get, hne] using hs
    · cases h1

/-! ### Loops, one round at a time -/
/-- at the head of a round -/
def LoopAt (P : Program) (c : Code) (Q : Exit → Act → World → Prop) (a : Act) (w : World) : Prop :=
  ∀ (b : Frame) (k : List Item) (cs : List Frame), ∃ e a' w', Q e a' w' ∧ Arrives P (lone (b.at a (.code c :: .inLoop c :: k)) cs w) b k cs e a' w'
theorem wp_of_loopAt {c : Code} {a : Act} {w : World} (h : LoopAt P c Q a w) : (Code.loop c).wp P Q a w := fun b k cs =>
  let ⟨e, a', w', hq, harr⟩ := h b k cs; ⟨e, a', w', hq, .of_steps (.one step_loop) harr⟩
theorem loopAt_round {c : Code} {a : Act} {w : World} (h : c.wp P (Exit.then (LoopAt P c Q) Q) a w) : LoopAt P c Q a w := by
  intro b k cs
  obtain ⟨e, a₁, w₁, hq, harr⟩ := h b (.inLoop c :: k) cs
  cases e with
  | normal =>
    obtain ⟨e₂, a₂, w₂, hq₂, harr₂⟩ := hq b k cs
    exact ⟨e₂, a₂, w₂, hq₂, .of_steps (Steps.trans harr (.one step_inLoop)) harr₂⟩
  | exit id => exact ⟨_, a₁, w₁, hq, .pass (x := .inLoop c) rfl (fun _ _ => .inl (by simp)) harr⟩
  | goto l => exact ⟨_, a₁, w₁, hq, .pass (x := .inLoop c) rfl (fun _ _ => .inl (by simp)) harr⟩
  | ret => exact ⟨_, a₁, w₁, hq, .pass (x := .inLoop c) rfl (fun _ _ => .inl (by simp)) harr⟩
  | panic ch => exact ⟨_, a₁, w₁, hq, .pass (x := .inLoop c) rfl (fun _ _ => .inl (by simp)) harr⟩
  | outgrown => exact ⟨_, a₁, w₁, hq, .pass (x := .inLoop c) rfl (fun _ _ => .inl (by simp)) harr⟩
/-- the head of a round -/
def AL (P : Program) (Γ : Ctx) (n : Sz) (c : Code) (Q : Exit → Act → World → Prop) (fr : Fr) (H : Hp) : Prop := ∀ ρ w a, SIM Γ n ρ w a fr H → LoopAt P c Q a w
theorem aw_loop {c : Code} (h : AL P Γ n c Q fr H) : AW P Γ n (.loop c) Q fr H := fun ρ w a s => wp_of_loopAt (h ρ w a s)
theorem al_round {c : Code} (h : AW P Γ n c (Exit.then (LoopAt P c Q) Q) fr H) : AL P Γ n c Q fr H := fun ρ w a s => loopAt_round (h ρ w a s)
theorem aq_again {c : Code} (h : AL P Γ n c Q fr H) : AQ Γ n (Exit.then (LoopAt P c Q) Q .normal) fr H := h
end
end Go.GA
end
section
namespace Go.GA
open Go Go.RowKit

section
variable {P : Program} {fr : Fr} {H : Hp} {dst : Option Nat} {ty : TypeId} {pos : String} {aft : Array Edge} {g : Option (Nat × Bool)}

/-- an operation whose value does not depend on the world -/
theorem reads_of {op : Op} {x : AV} (f : ∀ (ρ : Rho) (h : Hf) (M : Nat → Prop) (ev : Operand → Value), (∀ o y, evO fr o = some y → RA ρ h M y (ev o)) →
    ∃ v, RA ρ h M x v ∧ ∀ w', (execOp ev ⟨dst, op, ty, pos, aft, g⟩).run P w' = .ok (.value v) w') : Reads P ⟨dst, op, ty, pos, aft, g⟩ fr H x := fun Γ n ρ w a s => by
  obtain ⟨v, h1, h2⟩ := f ρ (World.hf w) (ownB ρ H) a.eval (fun o y h => s.ev h)
  exact ⟨v, h1, fun w' _ => h2 w'⟩

theorem r_move {x : Operand} {y : AV} (hx : evO fr x = some y) : Reads P ⟨dst, .move x, ty, pos, aft, g⟩ fr H y :=
  reads_of fun ρ h M ev hev => ⟨ev x, hev x y hx, fun _ => rfl⟩
theorem r_assign {x : Operand} {y : AV} (hx : evO fr x = some y) : Reads P ⟨dst, .assign x, ty, pos, aft, g⟩ fr H y :=
  reads_of fun ρ h M ev hev => ⟨ev x, hev x y hx, fun _ => rfl⟩

theorem run_int {ev : Operand → Value} {op : BinOp} {xT yT : TypeId} {x y : Operand} {k : IntKind} {a b : Int} (hx : ev x = .int k a) (hy : ev y = .int k b) (hop : (match op with | .shl | .shr => false | _ => true) = true) {r : Value}
    (hr : ∀ w', ((match op with
      | .add | .sub | .mul => Op.intArith op k a b
      | .quo | .rem => Op.intDiv op k a b
      | .and | .or | .xor | .andNot => Op.intBits op k a b
      | _ => Op.intCmp op a b) : Sem Value).run P w' = .ok r w') (w' : World) : (execOp ev ⟨dst, .binOp op xT x y yT, ty, pos, aft, g⟩).run P w' = .ok (.value r) w' := by
  have := hr w'
  cases op <;> simp_all [execOp, eqGuard, Go.binOp, go_sem]

theorem r_eql {xT yT : TypeId} {x y : Operand} {k : IntKind} {a b : Int} (hx : evO fr x = some (.int k a)) (hy : evO fr y = some (.int k b)) :
    Reads P ⟨dst, .binOp .eql xT x y yT, ty, pos, aft, g⟩ fr H (.bool (decide (a = b))) :=
  reads_of fun ρ h M ev hev => ⟨_, rfl, fun w' => run_int (hev x _ hx) (hev y _ hy) rfl (fun w' => by simp [Op.intCmp, go_sem, bne, BEq.beq]) w'⟩
theorem r_neq {xT yT : TypeId} {x y : Operand} {k : IntKind} {a b : Int} (hx : evO fr x = some (.int k a)) (hy : evO fr y = some (.int k b)) :
    Reads P ⟨dst, .binOp .neq xT x y yT, ty, pos, aft, g⟩ fr H (.bool (!decide (a = b))) :=
  reads_of fun ρ h M ev hev => ⟨_, rfl, fun w' => run_int (hev x _ hx) (hev y _ hy) rfl (fun w' => by simp [Op.intCmp, go_sem, bne, BEq.beq]) w'⟩
theorem r_lss {xT yT : TypeId} {x y : Operand} {k : IntKind} {a b : Int} (hx : evO fr x = some (.int k a)) (hy : evO fr y = some (.int k b)) :
    Reads P ⟨dst, .binOp .lss xT x y yT, ty, pos, aft, g⟩ fr H (.bool (decide (a < b))) :=
  reads_of fun ρ h M ev hev => ⟨_, rfl, fun w' => run_int (hev x _ hx) (hev y _ hy) rfl (fun w' => by simp [Op.intCmp, go_sem, bne, BEq.beq]) w'⟩
theorem r_leq {xT yT : TypeId} {x y : Operand} {k : IntKind} {a b : Int} (hx : evO fr x = some (.int k a)) (hy : evO fr y = some (.int k b)) :
    Reads P ⟨dst, .binOp .leq xT x y yT, ty, pos, aft, g⟩ fr H (.bool (decide (a ≤ b))) :=
  reads_of fun ρ h M ev hev => ⟨_, rfl, fun w' => run_int (hev x _ hx) (hev y _ hy) rfl (fun w' => by simp [Op.intCmp, go_sem, bne, BEq.beq]) w'⟩
theorem r_gtr {xT yT : TypeId} {x y : Operand} {k : IntKind} {a b : Int} (hx : evO fr x = some (.int k a)) (hy : evO fr y = some (.int k b)) :
    Reads P ⟨dst, .binOp .gtr xT x y yT, ty, pos, aft, g⟩ fr H (.bool (decide (b < a))) :=
  reads_of fun ρ h M ev hev => ⟨_, rfl, fun w' => run_int (hev x _ hx) (hev y _ hy) rfl (fun w' => by simp [Op.intCmp, go_sem, bne, BEq.beq]) w'⟩
theorem r_geq {xT yT : TypeId} {x y : Operand} {k : IntKind} {a b : Int} (hx : evO fr x = some (.int k a)) (hy : evO fr y = some (.int k b)) :
    Reads P ⟨dst, .binOp .geq xT x y yT, ty, pos, aft, g⟩ fr H (.bool (decide (b ≤ a))) :=
  reads_of fun ρ h M ev hev => ⟨_, rfl, fun w' => run_int (hev x _ hx) (hev y _ hy) rfl (fun w' => by simp [Op.intCmp, go_sem, bne, BEq.beq]) w'⟩
theorem r_add {xT yT : TypeId} {x y : Operand} {k : IntKind} {a b : Int} (hx : evO fr x = some (.int k a)) (hy : evO fr y = some (.int k b)) :
    Reads P ⟨dst, .binOp .add xT x y yT, ty, pos, aft, g⟩ fr H (.int k (k.wrap (a + b))) :=
  reads_of fun ρ h M ev hev => ⟨_, rfl, fun w' => run_int (hev x _ hx) (hev y _ hy) rfl (fun w' => rfl) w'⟩
theorem r_sub {xT yT : TypeId} {x y : Operand} {k : IntKind} {a b : Int} (hx : evO fr x = some (.int k a)) (hy : evO fr y = some (.int k b)) :
    Reads P ⟨dst, .binOp .sub xT x y yT, ty, pos, aft, g⟩ fr H (.int k (k.wrap (a - b))) :=
  reads_of fun ρ h M ev hev => ⟨_, rfl, fun w' => run_int (hev x _ hx) (hev y _ hy) rfl (fun w' => rfl) w'⟩
theorem r_mul {xT yT : TypeId} {x y : Operand} {k : IntKind} {a b : Int} (hx : evO fr x = some (.int k a)) (hy : evO fr y = some (.int k b)) :
    Reads P ⟨dst, .binOp .mul xT x y yT, ty, pos, aft, g⟩ fr H (.int k (k.wrap (a * b))) :=
  reads_of fun ρ h M ev hev => ⟨_, rfl, fun w' => run_int (hev x _ hx) (hev y _ hy) rfl (fun w' => rfl) w'⟩
theorem r_quo {xT yT : TypeId} {x y : Operand} {k : IntKind} {a b : Int} (hx : evO fr x = some (.int k a)) (hy : evO fr y = some (.int k b)) (hb : b ≠ 0) :
    Reads P ⟨dst, .binOp .quo xT x y yT, ty, pos, aft, g⟩ fr H (.int k (k.wrap (a.tdiv b))) :=
  reads_of fun ρ h M ev hev => ⟨_, rfl, fun w' => run_int (hev x _ hx) (hev y _ hy) rfl (fun w' => by simp [Op.intDiv, hb, go_sem]) w'⟩
theorem r_rem {xT yT : TypeId} {x y : Operand} {k : IntKind} {a b : Int} (hx : evO fr x = some (.int k a)) (hy : evO fr y = some (.int k b)) (hb : b ≠ 0) :
    Reads P ⟨dst, .binOp .rem xT x y yT, ty, pos, aft, g⟩ fr H (.int k (a.tmod b)) :=
  reads_of fun ρ h M ev hev => ⟨_, rfl, fun w' => run_int (hev x _ hx) (hev y _ hy) rfl (fun w' => by simp [Op.intDiv, hb, go_sem]) w'⟩
def andI (k : IntKind) (a b : Int) : Int := k.wrap ((BitVec.ofInt k.bits a &&& BitVec.ofInt k.bits b).toNat : Int)
theorem r_and {xT yT : TypeId} {x y : Operand} {k : IntKind} {a b : Int} (hx : evO fr x = some (.int k a)) (hy : evO fr y = some (.int k b)) :
    Reads P ⟨dst, .binOp .and xT x y yT, ty, pos, aft, g⟩ fr H (.int k (andI k a b)) :=
  reads_of fun ρ h M ev hev => ⟨_, rfl, fun w' => run_int (hev x _ hx) (hev y _ hy) rfl (fun w' => rfl) w'⟩
def shlI (k : IntKind) (a b : Int) : Int := k.wrap (a * 2 ^ (min b.toNat k.bits))
def shrI (k : IntKind) (a b : Int) : Int := a.fdiv (2 ^ (min b.toNat k.bits))
theorem r_shl {xT yT : TypeId} {x y : Operand} {k k' : IntKind} {a b : Int} (hx : evO fr x = some (.int k a)) (hy : evO fr y = some (.int k' b)) (hb : 0 ≤ b) :
    Reads P ⟨dst, .binOp .shl xT x y yT, ty, pos, aft, g⟩ fr H (.int k (shlI k a b)) :=
  reads_of fun ρ h M ev hev => ⟨_, rfl, fun w' => by
    have h1 := hev x _ hx; have h2 := hev y _ hy
    simp only [RA] at h1 h2
    have hb' : ¬ b < 0 := by omega
    simp [execOp, eqGuard, Go.binOp, go_sem, h1, h2, Op.shift, hb', shlI]⟩
theorem r_shr {xT yT : TypeId} {x y : Operand} {k k' : IntKind} {a b : Int} (hx : evO fr x = some (.int k a)) (hy : evO fr y = some (.int k' b)) (hb : 0 ≤ b) :
    Reads P ⟨dst, .binOp .shr xT x y yT, ty, pos, aft, g⟩ fr H (.int k (shrI k a b)) :=
  reads_of fun ρ h M ev hev => ⟨_, rfl, fun w' => by
    have h1 := hev x _ hx; have h2 := hev y _ hy
    simp only [RA] at h1 h2
    have hb' : ¬ b < 0 := by omega
    simp [execOp, eqGuard, Go.binOp, go_sem, h1, h2, Op.shift, hb', shrI]⟩
theorem r_not {xT : TypeId} {x : Operand} {a : Bool} (hx : evO fr x = some (.bool a)) : Reads P ⟨dst, .unOp .not xT x, ty, pos, aft, g⟩ fr H (.bool !a) :=
  reads_of fun ρ h M ev hev => ⟨_, rfl, fun w' => by
    have h1 := hev x _ hx
    simp only [RA] at h1
    simp [execOp, go_sem, h1, Op.unary]⟩
/-- 'a && b', 'a || b', where b is worked out only if need be -/
theorem r_andB {c x : Operand} {a b : Bool} (hc : evO fr c = some (.bool a)) (hx : evO fr x = some (.gd a (.bool b))) :
    Reads P ⟨dst, .pick c x (.const (.bool false)), ty, pos, aft, g⟩ fr H (.bool (a && b)) :=
  reads_of fun ρ h M ev hev => ⟨_, rfl, fun w' => by
    have h1 := hev c _ hc; have h2 := hev x _ hx; have h3 := hev (.const (.bool false)) (.bool false) rfl
    simp only [RA] at h1 h2 h3
    cases a <;> simp_all [execOp, go_sem, asBool]⟩
theorem r_orB {c x : Operand} {a b : Bool} (hc : evO fr c = some (.bool a)) (hx : evO fr x = some (.gd (!a) (.bool b))) :
    Reads P ⟨dst, .pick c (.const (.bool true)) x, ty, pos, aft, g⟩ fr H (.bool (a || b)) :=
  reads_of fun ρ h M ev hev => ⟨_, rfl, fun w' => by
    have h1 := hev c _ hc; have h2 := hev x _ hx; have h3 := hev (.const (.bool true)) (.bool true) rfl
    simp only [RA] at h1 h2 h3
    cases a <;> simp_all [execOp, go_sem, asBool]⟩
end
end Go.GA
end
section
namespace Go.GA
open Go Go.RowKit

/-! ### Elements -/
theorem RelL.mid {α : Type} {R : α → List Value → List Nat → Prop} {pre post : List α} {x : α} {cs F} (h : RelL R (pre ++ x :: post) cs F) {s : Nat} (hs : ∀ x c F, R x c F → c.length = s) :
    ∃ c1 c2 c3 F', cs = c1 ++ (c2 ++ c3) ∧ c1.length = pre.length * s ∧ R x c2 F' ∧ ∀ b ∈ F', b ∈ F := by
  obtain ⟨c1, c2, F1, F2, e1, e2, h1, d1, d2, G1, G2, e3, e4, h3, h4⟩ := RelL.split h
  refine ⟨c1, d1, d2, G1, by rw [e1, e3], RelL.len hs h1, h3, fun b hb => ?_⟩
  rw [e2, e4]; simp [hb]

theorem split_at {α : Type} (xs : List α) (i : Nat) (h : i < xs.length) (d : α) : xs = xs.take i ++ xs.getD i d :: xs.drop (i + 1) := by
  rw [List.getD_eq_getElem?_getD, List.getElem?_eq_getElem h]
  simp

/-- how an element is told -/
def ofTy : (t : Ty) → t.D → AV
  | .int k, x => .int k x
  | .bool, x => .bool x
  | .str, x => .str x
  | .arr n t, x => .v (.arr n t) x
  | .slice t, x => .v (.slice t) x
  | .unit, x => .v .unit x
  | .pair a b, x => .v (.pair a b) x

theorem ra_ofTy {ρ : Rho} {h : Hf} {M : Nat → Prop} {t : Ty} {x : t.D} {c F} (hx : Rc h t x c F) (hF : ∀ b ∈ F, ¬ M b) : RA ρ h M (ofTy t x) (mkV t c) := by
  cases t with
  | int k => obtain ⟨e, _⟩ := hx; subst e; rfl
  | bool => obtain ⟨e, _⟩ := hx; subst e; rfl
  | str => obtain ⟨e, _⟩ := hx; subst e; rfl
  | arr n t => exact ⟨F, ⟨c, hx, rfl⟩, hF⟩
  | slice t => exact ⟨F, ⟨c, hx, rfl⟩, hF⟩
  | unit => exact ⟨F, ⟨c, hx, rfl⟩, hF⟩
  | pair a b => exact ⟨F, ⟨c, hx, rfl⟩, hF⟩

theorem one_cell {t : Ty} (h : t.agg = false) {hh : Hf} {x : t.D} {c F} (hx : Rc hh t x c F) : ∃ v, c = [v] := by
  have := Rc.len t hx
  cases t <;> simp [Ty.agg] at h <;> simp [Ty.sz] at this <;> exact List.length_eq_one_iff.1 this

/-! ### Reading cells -/
theorem cell_at {w : World} {b : Nat} {c : Array Value} {T : TypeId} {z : Nat × Nat} {pre mid post : List Value} (hb : w.heap[b]? = some (.cells c T z)) (hc : c.toList = pre ++ (mid ++ post)) (j : Nat) (hj : j < mid.length) :
    w.cell? ⟨b, pre.length + j, none⟩ = mid[j]? := by
  have : c[pre.length + j]? = mid[j]? := by
    rw [← Array.getElem?_toList, hc, List.getElem?_append_right (by omega), Nat.add_sub_cancel_left, List.getElem?_append_left hj]
  simp [World.cell?, hb, this]

theorem addr_add (b o j : Nat) : (⟨b, o, none⟩ : Addr).add j = ⟨b, o + j, none⟩ := by unfold Addr.add; split <;> simp_all

theorem run_loadVar_at {P : Program} {w : World} {b : Nat} {c : Array Value} {T : TypeId} {z : Nat × Nat} {pre mid post : List Value} {t : Ty} {E : TypeId} (hb : w.heap[b]? = some (.cells c T z)) (hc : c.toList = pre ++ (mid ++ post))
    (hl : mid.length = t.sz) (h1 : t.agg = false → t.sz = 1) (ha : ∀ w, (isAgg E).run P w = .ok t.agg w) (hs : ∀ w, (sizeOf E).run P w = .ok t.sz w) : (loadVar E ⟨b, pre.length, none⟩).run P w = .ok (mkV t mid) w := by
  unfold loadVar
  rw [Sem.run_bind, ha w]
  simp only [Result.andThen_ok]
  cases h : t.agg with
  | true =>
    have hcs : (loadCells ⟨b, pre.length, none⟩ t.sz).run P w = .ok mid.toArray w := by
      rw [← hl]
      exact run_loadCells_list (P := P) w ⟨b, pre.length, none⟩ mid (fun j v hv => by
        have hj : j < mid.length := (List.getElem?_eq_some_iff.1 hv).1
        rw [addr_add, cell_at hb hc j hj]; exact hv)
    simp [Sem.run_bind, hs w, hcs, mkV, h]
  | false =>
    have hl' : mid.length = 1 := by rw [hl, h1 h]
    obtain ⟨v, rfl⟩ := List.length_eq_one_iff.1 hl'
    have := cell_at hb hc 0 (by simp)
    simp at this
    simp [load, Sem.run, this, mkV, h]

theorem agg_sz {t : Ty} (h : t.agg = false) : t.sz = 1 := by cases t <;> simp [Ty.agg] at h <;> rfl

section
variable {P : Program} {fr : Fr} {H : Hp} {dst : Option Nat} {ty : TypeId} {pos : String} {aft : Array Edge} {g : Option (Nat × Bool)}

theorem kept_get {w w' : World} (h : Kept w w') {b : Nat} {o : Obj} (hb : w.heap[b]? = some o) : w'.heap[b]? = some o := by
  rw [h.block b (Array.getElem?_eq_some_iff.1 hb).1 (fun h => h)]; exact hb

theorem r_load_c {T : TypeId} {x : Operand} {t : Ty} {y : t.D} (ha : ∀ w, (isAgg T).run P w = .ok t.agg w) (hs : ∀ w, (sizeOf T).run P w = .ok t.sz w) (hx : evO fr x = some (.cptr t y)) :
    Reads P ⟨dst, .load T x, ty, pos, aft, g⟩ fr H (ofTy t y) := fun Γ n ρ w a s => by
  obtain ⟨b, off, F, c, T', z, pre, mid, post, e, hb, hh, hc, hp, h1, hF⟩ := s.ev hx
  refine ⟨mkV t mid, ra_ofTy h1 hF.1, fun w' hk => ?_⟩
  have := run_loadVar_at (P := P) (kept_get hk hh) hc (Rc.len t h1) agg_sz ha hs
  subst hp
  simp only [execOp, e, Instr.loadAt, Instr.sureAddr, Sem.run_bind, Sem.run_pure, Result.andThen_ok, this]

/-- an element's address in a slice that came in -/
theorem r_idxAddr_mid {T E : TypeId} {x y : Operand} {t : Ty} {pre post : List t.D} {e : t.D} {k : IntKind} {i : Int} (hu : P.underlying T = some (.slice E)) (hs : ∀ w, (sizeOf E).run P w = .ok t.sz w)
    (hx : evO fr x = some (.v (.slice t) (pre ++ e :: post))) (hy : evO fr y = some (.int k i)) (hi : i = (pre.length : Int)) :
    Reads P ⟨dst, .indexAddr T x y, ty, pos, aft, g⟩ fr H (.cptr t e) := fun Γ n ρ w a s => by
  obtain ⟨F, ⟨cs, ⟨hl, h1⟩, hv⟩, hF⟩ := s.ev hx
  have hy' := s.ev hy
  simp only [RA] at hy'
  have hne : (pre ++ e :: post : List t.D) ≠ [] := by simp
  rcases h1 with ⟨h1, _⟩ | ⟨b, off, cap, F', ecs, eF, c, T', z, p, m, q, hb, hc, hp, hm⟩
  · exact absurd h1 hne
  · obtain ⟨c1, c2, c3, G, em, hc1, hR, hG⟩ := RelL.mid hm.1 (fun x c F h => Rc.len t h)
    subst ecs
    refine ⟨.pointer (some ⟨b, off + pre.length * t.sz, none⟩), ?_, fun w' hk => ?_⟩
    · refine ⟨b, _, G, c, T', z, p ++ c1, c2, c3 ++ q, rfl, hF b (by rw [eF]; simp), hb, by rw [hc, em]; simp, by simp [hp, hc1], hR, fun b' hb' => hF b' (by rw [eF]; exact List.mem_cons_of_mem _ (hG b' hb')), hm.2.sub (Nat.le_add_right _ _) (by rw [em]; simp only [List.length_append]; omega)⟩
    · have hv' : a.eval x = .slice (some ⟨b, off, none⟩) (pre.length + (post.length + 1)) (pre.length + (post.length + 1) + cap) := by rw [hv]; simp [mkV, Ty.agg]
      have hlt : (0 : Int) ≤ i ∧ i < ((pre.length + (post.length + 1) : Nat) : Int) := by omega
      simp only [execOp, Instr.indexAt, hy', hv', asIntOf, Sem.run_bind, Sem.run_pure, Result.andThen_ok, run_underlying hu]
      rw [if_pos hlt]
      simp [hs, addr_add, hi]

theorem r_idxAddr {T E : TypeId} {x y : Operand} {t : Ty} {xs : List t.D} {k : IntKind} {i : Int} (hu : P.underlying T = some (.slice E)) (hs : ∀ w, (sizeOf E).run P w = .ok t.sz w)
    (hx : evO fr x = some (.v (.slice t) xs)) (hy : evO fr y = some (.int k i)) (h0 : 0 ≤ i) (h1 : i < (xs.length : Int)) :
    Reads P ⟨dst, .indexAddr T x y, ty, pos, aft, g⟩ fr H (.cptr t (xs.getD i.toNat t.dflt)) := by
  have hlt : i.toNat < xs.length := by omega
  have := split_at xs i.toNat hlt t.dflt
  refine r_idxAddr_mid (pre := xs.take i.toNat) (post := xs.drop (i.toNat + 1)) hu hs (by rw [← this]; exact hx) hy ?_
  rw [List.length_take]; omega

/-! ### Arrays as values -/
theorem rv_arr {h : Hf} {n : Nat} {t : Ty} {xs : List t.D} {v F} (hx : Rv h (.arr n t) xs v F) : ∃ cs, v = .agg cs.toArray ∧ xs.length = n ∧ RelL (Rc h t) xs cs F := by
  obtain ⟨cs, ⟨h1, h2⟩, e⟩ := hx
  exact ⟨cs, by simpa [mkV, Ty.agg] using e, h1, h2⟩

/-! ### Length -/
theorem r_len_v {T E : TypeId} {x : Operand} {t : Ty} {xs : List t.D} (hu : P.underlying T = some (.slice E)) (hx : evO fr x = some (.v (.slice t) xs)) :
    Reads P ⟨dst, .call ⟨.builtin .len, #[x], #[T]⟩, ty, pos, aft, g⟩ fr H (.int .i64 (xs.length : Int)) := fun Γ n ρ w a s => by
  obtain ⟨F, ⟨cs, ⟨hl, h1⟩, hv⟩, hF⟩ := s.ev hx
  refine ⟨_, rfl, fun w' hk => ?_⟩
  have : ∃ a' c', a.eval x = .slice a' xs.length c' := by
    rcases h1 with ⟨h1, _, a', cap, e⟩ | ⟨b, off, cap, F', e, _⟩
    · exact ⟨a', cap, by rw [hv, e]; simp [mkV, Ty.agg, h1]⟩
    · exact ⟨some ⟨b, off, none⟩, _, by rw [hv, e]; simp [mkV, Ty.agg]; rfl⟩
  obtain ⟨a', c', e⟩ := this
  simp [execOp, resolve, invoke, Go.builtin, Builtin.len_, e, Sem.run_bind, run_underlying hu, goInt]
/-! ### Tuples, closures -/
def nthAV : List AV → Nat → Option AV
  | [], _ => none
  | x :: _, 0 => some x
  | _ :: xs, n + 1 => nthAV xs n
theorem ras_nth {ρ : Rho} {h : Hf} {M : Nat → Prop} : ∀ {xs : List AV} {vs : List Value} {i : Nat} {x : AV}, RAs ρ h M xs vs → nthAV xs i = some x → ∃ v, vs[i]? = some v ∧ RA ρ h M x v
  | y :: ys, vs, 0, x, hr, hn => by
    obtain ⟨v, vs', e, h1, h2⟩ := hr
    simp only [nthAV, Option.some.injEq] at hn
    subst e; subst hn
    exact ⟨v, rfl, h1⟩
  | y :: ys, vs, i + 1, x, hr, hn => by
    obtain ⟨v, vs', e, h1, h2⟩ := hr
    subst e
    simpa using ras_nth h2 hn
theorem r_extract {x : Operand} {xs : List AV} {i : Nat} {y : AV} (hx : evO fr x = some (.tup xs)) (hn : nthAV xs i = some y) :
    Reads P ⟨dst, .extract x i, ty, pos, aft, g⟩ fr H y := fun Γ n ρ w a s => by
  obtain ⟨vs, e, h1⟩ := s.ev hx
  obtain ⟨v, hv, h2⟩ := ras_nth h1 hn
  refine ⟨v, h2, fun w' hk => ?_⟩
  simp [execOp, Instr.extract, e, hv]

def evOs (fr : Fr) : List Operand → Option (List AV)
  | [] => some []
  | o :: os => match evO fr o with
    | none => none
    | some x => match evOs fr os with
      | none => none
      | some xs => some (x :: xs)
theorem evOs_ok {ρ : Rho} {h : Hf} {M : Nat → Prop} {ev : Operand → Value} (hev : ∀ o y, evO fr o = some y → RA ρ h M y (ev o)) : ∀ {os : List Operand} {xs : List AV}, evOs fr os = some xs → RAs ρ h M xs (os.map ev)
  | [], xs, h => by simp only [evOs, Option.some.injEq] at h; subst h; rfl
  | o :: os, xs, h => by
    unfold evOs at h
    split at h
    · cases h
    · rename_i x hx
      split at h
      · cases h
      · rename_i ys hys
        simp only [Option.some.injEq] at h
        subst h
        exact ⟨_, _, rfl, hev o x hx, evOs_ok hev hys⟩
theorem r_makeFunc {f : FuncId} {cs : List Operand} {xs : List AV} (hx : evOs fr cs = some xs) : Reads P ⟨dst, .makeFunc (.func f) #[] cs.toArray, ty, pos, aft, g⟩ fr H (.fn f xs) :=
  reads_of fun ρ h M ev hev => ⟨_, ⟨cs.map ev, rfl, evOs_ok hev hx⟩, fun w' => by simp [execOp, Instr.makeFunc]⟩

/-! ### The own blocks -/
def hget : Hp → Nat → Option Blk
  | [], _ => none
  | (i, b) :: H, j => bif Nat.beq i j then some b else hget H j
def compAt : List Comp → Nat → Option Comp
  | [], _ => none
  | c :: cs, o => match o with
    | 0 => some c
    | o' + 1 => bif Nat.ble c.sz (o' + 1) then compAt cs (o' + 1 - c.sz) else none

theorem hget_mem : ∀ {H : Hp} {id : Nat} {B : Blk}, hget H id = some B → (id, B) ∈ H
  | (i, b) :: H, id, B, hg => by
    unfold hget at hg
    cases hb : Nat.beq i id with
    | true =>
      have e1 : i = id := Nat.eq_of_beq_eq_true hb
      rw [hb] at hg
      simp only [cond_true, Option.some.injEq] at hg
      subst e1; subst hg
      simp
    | false => rw [hb] at hg; exact List.mem_cons_of_mem _ (hget_mem hg)
theorem HeapOK.get {ρ : Rho} {h : Hf} {H : Hp} {ℓ : Nat → List Nat} (hk : HeapOK ρ h H ℓ) {id : Nat} {B : Blk} (hg : hget H id = some B) : RBlk ρ h (ownB ρ H) id B (ℓ id) := hk.blk _ (hget_mem hg)

/-- what a component is -/
def RComp (ρ : Rho) (h : Hf) (M : Nat → Prop) (c : Comp) (m : List Value) (F : List Nat) : Prop := RComps ρ h M [c] m F
theorem comps_at {ρ : Rho} {h : Hf} {M : Nat → Prop} : ∀ {cs : List Comp} {vs F} {o : Nat} {c : Comp}, RComps ρ h M cs vs F → compAt cs o = some c →
    ∃ p m q F', vs = p ++ (m ++ q) ∧ p.length = o ∧ RComp ρ h M c m F' ∧ ∀ b ∈ F', b ∈ F
  | d :: cs, vs, F, o, c, hr, hc => by
    have hd : ∃ m q F1 F2, vs = m ++ q ∧ F = F1 ++ F2 ∧ m.length = d.sz ∧ RComp ρ h M d m F1 ∧ RComps ρ h M cs q F2 := by
      cases d with
      | cell a =>
        obtain ⟨v, cs', e, h1, h2, h3⟩ := hr
        exact ⟨[v], cs', [], F, by rw [e]; rfl, rfl, rfl, ⟨v, [], rfl, h1, h2, rfl, rfl⟩, h3⟩
      | arr t n xs =>
        obtain ⟨c1, c2, F1, F2, e, eF, h1, h2⟩ := hr
        exact ⟨c1, c2, F1, F2, e, eF, Rc.len _ h1, ⟨c1, [], F1, [], by simp, by simp, h1, rfl, rfl⟩, h2⟩
    obtain ⟨m, q, F1, F2, e, eF, hl, h1, h2⟩ := hd
    cases o with
    | zero =>
      simp only [compAt, Option.some.injEq] at hc
      subst hc
      exact ⟨[], m, q, F1, by rw [e]; rfl, rfl, h1, fun b hb => by rw [eF]; exact List.mem_append_left _ hb⟩
    | succ o =>
      simp only [compAt] at hc
      cases hb : Nat.ble d.sz (o + 1) with
      | false => rw [hb] at hc; cases hc
      | true =>
        have hle : d.sz ≤ o + 1 := Nat.le_of_ble_eq_true hb
        rw [hb] at hc
        obtain ⟨p', m', q', F', e', hp', h1', hF'⟩ := comps_at h2 hc
        exact ⟨m ++ p', m', q', F', by rw [e, e']; simp, by rw [List.length_append, hl, hp']; omega, h1', fun b hb => by rw [eF]; exact List.mem_append_right _ (hF' b hb)⟩

/-- a whole own variable of one cell -/
theorem r_load_cell {T : TypeId} {x : Operand} {id off : Nat} {cs : List Comp} {y : AV} (ha : ∀ w, (isAgg T).run P w = .ok false w) (hx : evO fr x = some (.ref id off)) (hg : hget H id = some (.var cs)) (hc : compAt cs off = some (.cell y)) :
    Reads P ⟨dst, .load T x, ty, pos, aft, g⟩ fr H y := fun Γ n ρ w a s => by
  obtain ⟨b, k, hρ, e⟩ := s.ev hx
  obtain ⟨ℓ, hL, _⟩ := s.heap
  obtain ⟨b', k', c, T', F, hρ', hb, hcs, _⟩ := hL.get hg
  rw [hρ] at hρ'
  obtain ⟨rfl, rfl⟩ : b = b' ∧ k = k' := by simpa using hρ'
  obtain ⟨p, m, q, F', ec, hp, ⟨v, r, em, h1, h2, h3⟩, _⟩ := comps_at hcs hc
  obtain ⟨rfl, _⟩ := h3
  subst em
  refine ⟨v, h2, fun w' hk => ?_⟩
  have := cell_at (kept_get hk hb) ec 0 (by simp)
  simp [hp] at this
  simp [execOp, e, Instr.loadAt, Instr.sureAddr, Sem.run_bind, loadVar, ha, load, Sem.run, this]

/-- a whole own variable that is an array -/
theorem r_load_arr {T : TypeId} {x : Operand} {id off n : Nat} {t : Ty} {xs : List t.D} {cs : List Comp} (hf : t.flat = true) (ha : ∀ w, (isAgg T).run P w = .ok true w) (hs : ∀ w, (sizeOf T).run P w = .ok (n * t.sz) w)
    (hx : evO fr x = some (.ref id off)) (hg : hget H id = some (.var cs)) (hc : compAt cs off = some (.arr t n xs)) :
    Reads P ⟨dst, .load T x, ty, pos, aft, g⟩ fr H (.v (.arr n t) xs) := fun Γ n' ρ w a s => by
  obtain ⟨b, k, hρ, e⟩ := s.ev hx
  obtain ⟨ℓ, hL, _⟩ := s.heap
  obtain ⟨b', k', c, T', F, hρ', hb, hcs, _⟩ := hL.get hg
  rw [hρ] at hρ'
  obtain ⟨rfl, rfl⟩ : b = b' ∧ k = k' := by simpa using hρ'
  obtain ⟨p, m, q, F', ec, hp, ⟨c1, c2, F1, F2, em, _, h1, h3, _⟩, _⟩ := comps_at hcs hc
  subst h3
  obtain rfl : m = c1 := by simpa using em
  have hF1 := Rc.flat (.arr n t) hf h1
  subst hF1
  refine ⟨mkV (.arr n t) m, ⟨[], ⟨m, h1, rfl⟩, by simp⟩, fun w' hk => ?_⟩
  have := run_loadVar_at (P := P) (t := .arr n t) (E := T) (kept_get hk hb) ec (Rc.len _ h1) agg_sz ha hs
  subst hp
  simp only [execOp, e, Instr.loadAt, Instr.sureAddr, Sem.run_bind, Sem.run_pure, Result.andThen_ok, this]
end
end Go.GA
end
section
namespace Go.GA
open Go Go.RowKit

/-! ### Freshness of a name -/
def memB (i : Nat) : List Nat → Bool
  | [] => false
  | j :: l => bif Nat.beq i j then true else memB i l
def freshB (id : Nat) (fr : Fr) (H : Hp) : Bool := !(memB id (Fr.ids fr)) && !(memB id (Hp.ids H))
theorem memB_false {i : Nat} : ∀ {l : List Nat}, memB i l = false → i ∉ l
  | [], _, h => by cases h
  | j :: l, hb, h => by
    unfold memB at hb
    cases e : Nat.beq i j with
    | true => rw [e] at hb; cases hb
    | false =>
      rw [e] at hb
      rcases List.mem_cons.1 h with h | h
      · exact Nat.ne_of_beq_eq_false e h
      · exact memB_false hb h
theorem freshB_fr {id : Nat} {fr : Fr} {H : Hp} (h : freshB id fr H = true) : id ∉ Fr.ids fr := by
  simp only [freshB, Bool.and_eq_true, Bool.not_eq_true'] at h; exact memB_false h.1
theorem freshB_H {id : Nat} {fr : Fr} {H : Hp} (h : freshB id fr H = true) : id ∉ Hp.ids H := by
  simp only [freshB, Bool.and_eq_true, Bool.not_eq_true'] at h; exact memB_false h.2
theorem get_ids : ∀ {fr : Fr} {t : Nat} {x : AV}, get fr t = some x → ∀ i ∈ x.ids, i ∈ Fr.ids fr
  | (j, a) :: l, t, x, h, i, hi => by
    unfold get at h
    cases e : Nat.beq j t with
    | true => rw [e] at h; simp only [cond_true, Option.some.injEq] at h; subst h; simp [Fr.ids, hi]
    | false => rw [e] at h; have := get_ids h i hi; simp only [Fr.ids, List.flatMap_cons, List.mem_append]; exact .inr this

def upd (ρ : Rho) (id : Nat) (p : Option (Nat × Nat × Nat)) : Rho := ⟨fun i => if i = id then p else ρ i, ρ.N⟩
theorem upd_same (ρ : Rho) (id : Nat) (p) : upd ρ id p id = p := by simp [upd]
theorem upd_other (ρ : Rho) {id i : Nat} (p) (h : i ≠ id) : upd ρ id p i = ρ i := by simp [upd, h]

def updL (ℓ : Nat → List Nat) (id : Nat) (x : List Nat) : Nat → List Nat := fun i => if i = id then x else ℓ i
theorem updL_same (ℓ : Nat → List Nat) (id : Nat) (x) : updL ℓ id x id = x := by simp [updL]
theorem updL_other (ℓ : Nat → List Nat) {id i : Nat} (x) (h : i ≠ id) : updL ℓ id x i = ℓ i := by simp [updL, h]

theorem hids_head {H : Hp} {e} (h : e ∈ H) : e.1 ∈ Hp.ids H := by
  simp only [Hp.ids, List.mem_flatMap]; exact ⟨e, h, by simp⟩

theorem RComps.there {ρ : Rho} {h : Hf} {M : Nat → Prop} : ∀ {cs : List Comp} {vs F}, RComps ρ h M cs vs F → ∀ b ∈ F, h b ≠ none
  | [], _, _, hr, b, hb => by rw [hr.2] at hb; cases hb
  | .cell a :: r, _, _, hr, b, hb => by
    obtain ⟨v, cs', e, h1, h2, h3⟩ := hr
    exact RComps.there h3 b hb
  | .arr t n xs :: r, _, _, hr, b, hb => by
    obtain ⟨c1, c2, F1, F2, e, eF, h1, h2⟩ := hr
    subst eF
    rcases List.mem_append.1 hb with h | h
    · exact h1.there _ b h
    · exact RComps.there h2 b h
theorem RBlk.there {ρ : Rho} {h : Hf} {M : Nat → Prop} {id : Nat} : ∀ {B : Blk} {L}, RBlk ρ h M id B L → ∀ b ∈ L, h b ≠ none
  | .var cs, _, hr, b, hb => by
    obtain ⟨b', k, c, T, F, h1, h2, h3, e⟩ := hr
    subst e
    rcases List.mem_cons.1 hb with e | hb
    · subst e; rw [h2]; simp
    · exact h3.there b hb
  | .row t xs, _, hr, b, hb => by
    obtain ⟨hl, ⟨h1, h2, e⟩ | ⟨b', cap, c, T, F, mid, post, h1, h2, h3, h4, e, h5⟩⟩ := hr
    · subst e; cases hb
    · subst e
      rcases List.mem_cons.1 hb with e | hb
      · subst e; rw [h2]; simp
      · exact RelL.mem (fun x c F hc => Rc.there t hc) h4 b hb
  | .brow xs, _, hr, b, hb => by
    obtain ⟨b', cap, c, T, post, h1, h2, h3, e, h4⟩ := hr
    subst e
    have : b = b' := by simpa using hb
    subst this; rw [h2]; simp
theorem HeapOK.there {ρ : Rho} {h : Hf} {H : Hp} {ℓ : Nat → List Nat} (hk : HeapOK ρ h H ℓ) {e} (he : e ∈ H) : ∀ b ∈ ℓ e.1, h b ≠ none := (hk.blk e he).there
theorem mem_hids {H : Hp} {e} (he : e ∈ H) {i : Nat} (h : i = e.1 ∨ i ∈ e.2.ids) : i ∈ Hp.ids H := by
  simp only [Hp.ids, List.mem_flatMap]; exact ⟨e, he, by rcases h with h | h <;> simp [h]⟩
theorem hf_lt {w : World} {b : Nat} (h : World.hf w b ≠ none) : b < w.heap.size := by
  rcases Nat.lt_or_ge b w.heap.size with h' | h'
  · exact h'
  · exact absurd (Array.getElem?_eq_none h') h
theorem heap_alloc_lt (w : World) (o : Obj) (i : Nat) (h : i < w.heap.size) : (w.alloc o).heap[i]? = w.heap[i]? := by
  show (w.heap.push o)[i]? = w.heap[i]?
  rw [Array.getElem?_push, if_neg (Nat.ne_of_lt h)]
theorem hf_alloc_old {w : World} {o : Obj} {b : Nat} (h : b < w.heap.size) : World.hf (w.alloc o) b = World.hf w b := heap_alloc_lt w o b h
theorem hf_alloc_new {w : World} {o : Obj} : World.hf (w.alloc o) w.heap.size = some o := heap_alloc_new w o

/-- own blocks and those behind them, with a new one -/
theorem SIM.alloc {Γ : Ctx} {n : Sz} {ρ : Rho} {w : World} {a : Act} {fr : Fr} {H : Hp} (s : SIM Γ n ρ w a fr H) {id : Nat} (hid : freshB id fr H = true) (hK : Nat.ble n.K id = true) {c : Array Value} {T : TypeId} {B : Blk} {p : Nat × Nat} {F : List Nat}
    (hB : ∀ ρ' h' M', (∀ i ∈ B.ids, ρ' i = ρ i) → ρ' id = some (w.heap.size, p) → h' w.heap.size = some (.cells c T) → (∀ b, ¬ ownB ρ H b → World.hf w b ≠ none → h' b = World.hf w b ∧ ¬ M' b) → (∀ b, World.hf w b ≠ none → h' b = World.hf w b) → RBlk ρ' h' M' id B (w.heap.size :: F))
    (hBi : memB id B.ids = false) (hF : ∀ b ∈ F, World.hf w b ≠ none ∧ Γ.W0.heap.size ≤ b) (hFL : ∀ ℓ, HeapOK ρ (World.hf w) H ℓ → ∀ e ∈ H, ∀ b ∈ ℓ e.1, b ∉ F) (hFn : F.Nodup) :
    SIM Γ n (upd ρ id (some (w.heap.size, p))) (w.alloc (.cells c T)) a fr ((id, B) :: H) := by
  have hin := freshB_H hid
  have hneq : ∀ e ∈ H, e.1 ≠ id := fun e he h => hin (h ▸ hids_head he)
  have hnam : ∀ b, namB (upd ρ id (some (w.heap.size, p))) ((id, B) :: H) b ↔ b = w.heap.size ∨ namB ρ H b := by
    intro b
    constructor
    · rintro ⟨e, he, k, hk⟩
      rcases List.mem_cons.1 he with rfl | he
      · rw [upd_same] at hk; simp at hk; exact .inl hk.1.symm
      · rw [upd_other _ _ (hneq e he)] at hk; exact .inr ⟨e, he, k, hk⟩
    · rintro (rfl | ⟨e, he, k, hk⟩)
      · exact ⟨(id, B), by simp, p, upd_same _ _ _⟩
      · exact ⟨e, List.mem_cons_of_mem _ he, k, by rw [upd_other _ _ (hneq e he)]; exact hk⟩
  have hown : ∀ b, ownB (upd ρ id (some (w.heap.size, p))) ((id, B) :: H) b ↔ b = w.heap.size ∨ ownB ρ H b := by
    intro b
    unfold ownB
    rw [hnam b]
    exact or_assoc
  have hold : ∀ b, World.hf w b ≠ none → World.hf (w.alloc (.cells c T)) b = World.hf w b := fun b hb => hf_alloc_old (hf_lt hb)
  have hm : ∀ b, ¬ ownB ρ H b → World.hf w b ≠ none → World.hf (w.alloc (.cells c T)) b = World.hf w b ∧ ¬ ownB (upd ρ id (some (w.heap.size, p))) ((id, B) :: H) b := fun b hb hb' =>
    ⟨hold b hb', fun h => by rcases (hown b).1 h with h | h; · have := hf_lt hb'; omega
                             · exact hb h⟩
  have hsz : Γ.W0.heap.size ≤ w.heap.size := s.ext.size
  refine ⟨s.defers, s.size, s.ext.trans ⟨rfl, rfl, rfl, by simp, fun k hk _ => heap_alloc_lt w _ k hk⟩, ?_, ?_, ?_, ?_⟩
  · intro i hi
    have : i ≠ id := fun h => by have := Nat.le_of_ble_eq_true hK; omega
    rw [upd_other _ _ this]; exact s.keep i hi
  · intro b hb
    rcases (hnam b).1 hb with rfl | h
    · exact .inr hsz
    · exact s.own b h
  · obtain ⟨ℓ, hL, hb⟩ := s.heap
    have hlt : ∀ e ∈ H, ∀ b ∈ ℓ e.1, b < w.heap.size := fun e he b h => hf_lt (hL.there he b h)
    have hℓ : ∀ e ∈ H, updL ℓ id (w.heap.size :: F) e.1 = ℓ e.1 := fun e he => updL_other _ _ (hneq e he)
    have hℓ0 : updL ℓ id (w.heap.size :: F) id = w.heap.size :: F := updL_same _ _ _
    refine ⟨updL ℓ id (w.heap.size :: F), ⟨?_, ?_, ?_, ?_⟩, ?_⟩
    · intro e he
      rcases List.mem_cons.1 he with rfl | he
      · rw [hℓ0]; exact hB _ _ _ (fun i hi => upd_other _ _ (fun h => memB_false hBi (by rw [← h]; exact hi))) (upd_same _ _ _) hf_alloc_new hm hold
      · rw [hℓ e he]
        exact (hL.blk e he).same (fun i hi => upd_other _ _ (fun h => hin (h ▸ mem_hids he hi))) hm (fun b h => hf_alloc_old (hlt e he b h))
    · intro e he
      rcases List.mem_cons.1 he with rfl | he
      · rw [hℓ0]
        exact List.nodup_cons.2 ⟨fun h => by have := hf_lt (hF _ h).1; omega, hFn⟩
      · rw [hℓ e he]; exact hL.nd e he
    · intro e he e' he' hne b hb'
      rcases List.mem_cons.1 he with rfl | he
      · rcases List.mem_cons.1 he' with rfl | he'
        · exact absurd rfl hne
        · rw [hℓ e' he']
          rw [hℓ0] at hb'
          rcases List.mem_cons.1 hb' with rfl | hb'
          · intro h; have := hlt e' he' _ h; omega
          · intro h; exact hFL ℓ hL e' he' b h hb'
      · rw [hℓ e he] at hb'
        rcases List.mem_cons.1 he' with rfl | he'
        · rw [hℓ0]
          intro h
          rcases List.mem_cons.1 h with rfl | h
          · have := hlt e he _ hb'; omega
          · exact hFL ℓ hL e he b hb' h
        · rw [hℓ e' he']; exact hL.dj e he e' he' hne b hb'
    · simp only [List.map_cons, List.nodup_cons, List.mem_map]
      exact ⟨fun ⟨e, he, h⟩ => hneq e he h, hL.ids⟩
    · intro e he b hb'
      rcases List.mem_cons.1 he with rfl | he
      · rw [hℓ0] at hb'
        rcases List.mem_cons.1 hb' with rfl | h
        · exact .inr hsz
        · exact .inr (hF b h).2
      · rw [hℓ e he] at hb'; exact hb e he b hb'
  · intro t x hx
    obtain ⟨h1, h2⟩ := s.fr t x hx
    exact ⟨h1, h2.same x (fun i hi => upd_other _ _ (fun h => freshB_fr hid (h ▸ get_ids hx i hi))) hm⟩

/-! ### Effects -/
/-- what an operation may do to the memory: it writes blocks whose names it takes away, and makes new ones -/
structure Grew (ρ ρ' : Rho) (w w' : World) (H H' : Hp) : Prop where
  os : w'.os = w.os
  tape : w'.tape = w.tape
  out : w'.output = w.output
  size : w.heap.size ≤ w'.heap.size
  blk : ∀ b, b < w.heap.size → (∀ e ∈ H, (∀ e' ∈ H', e'.1 ≠ e.1) → ∀ k, ρ e.1 ≠ some (b, k)) → w'.heap[b]? = w.heap[b]?
  own : ∀ e' ∈ H', ∀ b k, ρ' e'.1 = some (b, k) → (∃ e ∈ H, e.1 = e'.1 ∧ ρ e.1 = some (b, k)) ∨ (∃ e ∈ H, (∀ e' ∈ H', e'.1 ≠ e.1) ∧ ∃ k', ρ e.1 = some (b, k')) ∨ w.heap.size ≤ b
theorem grew_alloc {ρ : Rho} {w : World} {H : Hp} {id : Nat} {fr : Fr} (hid : freshB id fr H = true) {B : Blk} {o : Obj} {p : Nat × Nat} : Grew ρ (upd ρ id (some (w.heap.size, p))) w (w.alloc o) H ((id, B) :: H) := by
  refine ⟨rfl, rfl, rfl, by simp, fun b hb _ => heap_alloc_lt w o b hb, fun e' he' b k hb => ?_⟩
  rcases List.mem_cons.1 he' with rfl | he'
  · rw [upd_same] at hb
    simp only [Option.some.injEq, Prod.mk.injEq] at hb
    exact .inr (.inr (by omega))
  · have hne : e'.1 ≠ id := fun h => freshB_H hid (h ▸ hids_head he')
    rw [upd_other _ _ hne] at hb
    exact .inl ⟨e', he', rfl, hb⟩
def Eff (P : Program) (n : Sz) (o : Oper) (fr : Fr) (H : Hp) (x : AV) (fr' : Fr) (H' : Hp) : Prop :=
  ∀ Γ ρ w a, SIM Γ n ρ w a fr H → ∃ v w' ρ', (execOp a.eval o).run P w = .ok (.value v) w' ∧ (SIM Γ n ρ' w' a fr' H' ∧ Grew ρ ρ' w w' H H') ∧ RA ρ' (World.hf w') (ownB ρ' H') x v
def EffS (P : Program) (n : Sz) (o : Oper) (fr : Fr) (H : Hp) (fr' : Fr) (H' : Hp) : Prop :=
  ∀ Γ ρ w a, SIM Γ n ρ w a fr H → ∃ w' ρ', (execOp a.eval o).run P w = .ok .skip w' ∧ SIM Γ n ρ' w' a fr' H'
section
variable {P : Program} {Γ : Ctx} {n : Sz} {Q : Exit → Act → World → Prop} {fr fr' : Fr} {H H' : Hp} {all : Array Oper} {ops : List Oper} {ty : TypeId} {pos : String} {aft : Array Edge} {op : Op} {g : Option (Nat × Bool)}
theorem ao_eff {d : Nat} {x : AV} (hg : gOK all fr g) (he : Eff P n ⟨some d, op, ty, pos, aft, g⟩ fr H x fr' H') (hd : Nat.blt d n.n = true) (h : AO P Γ n all Q ops ((d, x) :: fr') H') :
    AO P Γ n all Q (⟨some d, op, ty, pos, aft, g⟩ :: ops) fr H := fun ρ w a s => by
  obtain ⟨v, w', ρ', hrun, ⟨s', _⟩, hv⟩ := he Γ ρ w a s
  refine wpList_go (s.wanted hg) fun K hK => ?_
  unfold Oper.wp
  rw [hrun]
  exact hK _ _ (h ρ' w' _ (s'.put hd hv))
theorem ao_effS (hg : gOK all fr g) (he : EffS P n ⟨none, op, ty, pos, aft, g⟩ fr H fr' H') (h : AO P Γ n all Q ops fr' H') :
    AO P Γ n all Q (⟨none, op, ty, pos, aft, g⟩ :: ops) fr H := fun ρ w a s => by
  obtain ⟨w', ρ', hrun, s'⟩ := he Γ ρ w a s
  refine wpList_go (s.wanted hg) fun K hK => ?_
  unfold Oper.wp
  rw [hrun]
  exact hK _ _ (h ρ' w' _ s')
end

/-! ### New variables -/
def tyComps : (t : Ty) → t.D → List Comp
  | .arr n t, xs => [.arr t n xs]
  | .pair a b, x => tyComps a x.1 ++ tyComps b x.2
  | .unit, _ => []
  | .int k, x => [.cell (.int k x)]
  | .bool, x => [.cell (.bool x)]
  | .str, x => [.cell (.str x)]
  | .slice t, x => [.cell (.v (.slice t) x)]
/-- arrays in it hold no slices -/
def Ty.flatArrs : Ty → Bool
  | .arr _ t => t.flat
  | .pair a b => a.flatArrs && b.flatArrs
  | _ => true
mutual
def toComps : AV → List Comp
  | .v t x => tyComps t x
  | .st xs => toCompsL xs
  | x => [.cell x]
def toCompsL : List AV → List Comp
  | [] => []
  | x :: xs => toComps x ++ toCompsL xs
end
mutual
def boxable : AV → Bool
  | .v t _ => t.flatArrs
  | .st xs => boxableL xs
  | x => x.one
def boxableL : List AV → Bool
  | [] => true
  | x :: xs => boxable x && boxableL xs
end
theorem RComps.append {ρ : Rho} {h : Hf} {M : Nat → Prop} : ∀ {cs ds : List Comp} {vs ws F G}, RComps ρ h M cs vs F → RComps ρ h M ds ws G → RComps ρ h M (cs ++ ds) (vs ++ ws) (F ++ G)
  | [], _, _, _, _, _, h1, h2 => by obtain ⟨rfl, rfl⟩ := h1; exact h2
  | .cell a :: r, _, _, _, _, _, h1, h2 => by
    obtain ⟨v, cs', e, h3, h4, h5⟩ := h1
    exact ⟨v, cs' ++ _, by rw [e]; rfl, h3, h4, RComps.append h5 h2⟩
  | .arr t n xs :: r, _, _, _, _, _, h1, h2 => by
    obtain ⟨c1, c2, F1, F2, e, eF, h3, h4⟩ := h1
    subst e; subst eF
    exact ⟨c1, c2 ++ _, F1, F2 ++ _, by simp, by simp, h3, RComps.append h4 h2⟩
theorem ty_comps {ρ : Rho} {h : Hf} {M : Nat → Prop} : ∀ (t : Ty) {x : t.D} {cs F}, Rc h t x cs F → t.flatArrs = true → (∀ b ∈ F, ¬ M b) → RComps ρ h M (tyComps t x) cs []
  | .arr n t, x, cs, F, hx, hf, _ => by
    have hF : F = [] := Rc.flat (.arr n t) hf hx
    subst hF
    exact ⟨cs, [], [], [], by simp, rfl, hx, rfl, rfl⟩
  | .pair a b, x, cs, F, hx, hf, hM => by
    simp only [Ty.flatArrs, Bool.and_eq_true] at hf
    obtain ⟨c1, c2, F1, F2, e, eF, h1, h2⟩ := hx
    subst e; subst eF
    exact RComps.append (F := []) (G := []) (ty_comps a h1 hf.1 (fun b hb => hM b (List.mem_append_left _ hb))) (ty_comps b h2 hf.2 (fun b hb => hM b (List.mem_append_right _ hb)))
  | .unit, _, _, _, hx, _, _ => ⟨hx.1, rfl⟩
  | .int k, x, _, _, hx, _, _ => ⟨_, _, hx.1, rfl, rfl, rfl, rfl⟩
  | .bool, x, _, _, hx, _, _ => ⟨_, _, hx.1, rfl, rfl, rfl, rfl⟩
  | .str, x, _, _, hx, _, _ => ⟨_, _, hx.1, rfl, rfl, rfl, rfl⟩
  | .slice t, x, cs, F, hx, _, hM => by
    obtain ⟨v, rfl⟩ := one_cell (t := .slice t) rfl hx
    exact ⟨v, [], rfl, rfl, ⟨F, ⟨[v], hx, rfl⟩, hM⟩, rfl, rfl⟩
theorem one_cells {ρ : Rho} {h : Hf} {M : Nat → Prop} {x : AV} {v : Value} (hx : RA ρ h M x v) (h1 : x.one = true) : v.cells = #[v] := by
  cases x with
  | v t y =>
    obtain ⟨F, ⟨cs, hc, e⟩, _⟩ := hx
    have ht : t.agg = false := by simpa [AV.one] using h1
    obtain ⟨u, rfl⟩ := one_cell ht hc
    subst e
    cases t <;> simp [Ty.agg] at ht
    · obtain ⟨e, _⟩ := hc; simp at e; subst e; rfl
    · obtain ⟨e, _⟩ := hc; simp at e; subst e; rfl
    · obtain ⟨e, _⟩ := hc; simp at e; subst e; rfl
    · obtain ⟨_, ⟨_, _, a, cap, e⟩ | ⟨b, off, cap, F', e, _⟩⟩ := hc <;> (simp at e; subst e; rfl)
  | int k m => simp only [RA] at hx; subst hx; rfl
  | bool b => simp only [RA] at hx; subst hx; rfl
  | str b => simp only [RA] at hx; subst hx; rfl
  | cptr t y => obtain ⟨b, off, F, c, T, z, pre, mid, post, e, _⟩ := hx; subst e; rfl
  | cav y => obtain ⟨b, off, c, T, z, pre, u, post, e, _⟩ := hx; subst e; rfl
  | ref id off => obtain ⟨b, k, _, e⟩ := hx; subst e; rfl
  | elem id off sz i => obtain ⟨b, k, _, e⟩ := hx; subst e; rfl
  | elem2 id off sz i sz2 j => obtain ⟨b, k, _, e⟩ := hx; subst e; rfl
  | os id => obtain ⟨_, e⟩ | ⟨b, cap, len, _, e⟩ := hx <;> (subst e; rfl)
  | view id off sz l len => obtain ⟨_, a, cap, e⟩ | ⟨b, k, cap, _, e⟩ := hx <;> (subst e; rfl)
  | ov id m => obtain ⟨_, _, e⟩ | ⟨b, cap, len, _, e⟩ := hx <;> (subst e; rfl)
  | yl l => simp only [RA] at hx; subst hx; rfl
  | nilsl => simp only [RA] at hx; subst hx; rfl
  | nilp => simp only [RA] at hx; subst hx; rfl
  | nilf => simp only [RA] at hx; subst hx; rfl
  | fn f caps => obtain ⟨vs, e, _⟩ := hx; subst e; rfl
  | tup xs => cases h1
  | st xs => cases h1
  | gd g x => cases h1
  | junk => cases h1
theorem one_ok {ρ : Rho} {h : Hf} {M : Nat → Prop} {x : AV} {v : Value} (hx : RA ρ h M x v) (h1 : x.one = true) : RComps ρ h M [.cell x] v.cells.toList [] := by
  rw [one_cells hx h1]; exact ⟨v, [], rfl, h1, hx, rfl, rfl⟩
mutual
theorem ra_comps {ρ : Rho} {h : Hf} {M : Nat → Prop} : ∀ (x : AV) {v : Value}, RA ρ h M x v → boxable x = true → RComps ρ h M (toComps x) v.cells.toList []
  | .v t x, v, hx, hb => by
    obtain ⟨F, ⟨cs, hc, e⟩, hM⟩ := hx
    have hcs : v.cells.toList = cs := by
      subst e
      cases ha : t.agg with
      | true => simp [mkV, ha, Value.cells]
      | false =>
        obtain ⟨u, rfl⟩ := one_cell ha hc
        have := one_cells (ρ := ρ) (M := M) (x := .v t x) (v := u) ⟨F, ⟨[u], hc, by simp [mkV, ha]⟩, hM⟩ (by simp [AV.one, ha])
        simp [mkV, ha, this]
    rw [hcs]
    exact ty_comps t hc hb hM
  | .st xs, v, hx, hb => by
    obtain ⟨vs, e, h1⟩ := hx
    subst e
    have := ras_comps xs h1 hb
    simpa only [Value.cells, toComps] using this
  | .int k n, v, hx, hb => one_ok hx hb
  | .bool b, v, hx, hb => one_ok hx hb
  | .str s, v, hx, hb => one_ok hx hb
  | .cptr t x, v, hx, hb => one_ok hx hb
  | .cav x, v, hx, hb => one_ok hx hb
  | .ref id o, v, hx, hb => one_ok hx hb
  | .elem id o s i, v, hx, hb => one_ok hx hb
  | .elem2 id o s i s2 j, v, hx, hb => one_ok hx hb
  | .os id, v, hx, hb => one_ok hx hb
  | .view id o z l m, v, hx, hb => one_ok hx hb
  | .nilsl, v, hx, hb => one_ok hx hb
  | .nilp, v, hx, hb => one_ok hx hb
  | .nilf, v, hx, hb => one_ok hx hb
  | .fn f c, v, hx, hb => one_ok hx hb
  | .tup _, _, _, hb => by cases hb
  | .gd _ _, _, _, hb => by cases hb
  | .junk, _, _, hb => by cases hb
  | .yl _, v, hx, hb => one_ok hx hb
  | .ov id m, v, hx, hb => one_ok hx hb
theorem ras_comps {ρ : Rho} {h : Hf} {M : Nat → Prop} : ∀ (xs : List AV) {vs : List Value}, RAs ρ h M xs vs → boxableL xs = true → RComps ρ h M (toCompsL xs) (cellsOf vs) []
  | [], vs, hx, _ => by simp only [RAs] at hx; subst hx; exact ⟨rfl, rfl⟩
  | x :: xs, vs, hx, hb => by
    obtain ⟨v, vs', e, h1, h2⟩ := hx
    subst e
    simp only [boxableL, Bool.and_eq_true] at hb
    have := RComps.append (F := []) (G := []) (ra_comps x h1 hb.1) (ras_comps xs h2 hb.2)
    simpa only [cellsOf, toCompsL, List.flatMap_cons, List.append_nil] using this
end

def compsIds (cs : List Comp) : List Nat := cs.flatMap Comp.ids

section
variable {P : Program} {n : Sz} {fr : Fr} {H : Hp} {dst : Option Nat} {ty : TypeId} {pos : String} {aft : Array Edge} {g : Option (Nat × Bool)}

theorem SIM.box {Γ : Ctx} {ρ : Rho} {w : World} {a : Act} (s : SIM Γ n ρ w a fr H) {id : Nat} (hid : freshB id fr H = true) (hK : Nat.ble n.K id = true) {cs : List Comp} {c : Array Value} {T : TypeId} (hi : memB id (compsIds cs) = false)
    (hc : RComps ρ (World.hf w) (ownB ρ H) cs c.toList []) : SIM Γ n (upd ρ id (some (w.heap.size, 0, 0))) (w.alloc (.cells c T)) a fr ((id, .var cs) :: H) ∧ Grew ρ (upd ρ id (some (w.heap.size, 0, 0))) w (w.alloc (.cells c T)) H ((id, .var cs) :: H) := And.intro
  (s.alloc (F := []) hid hK (fun ρ' h' M' hρ hid' hh hm _ => ⟨_, _, c, T, [], hid', hh, hc.same (fun i hi => hρ i hi) hm (by simp), rfl⟩) hi (by simp) (by simp) List.nodup_nil) (grew_alloc hid)

theorem e_box {T : TypeId} {x : Operand} {y : AV} (id : Nat) {cs : List Comp} (hx : evO fr x = some y) (hb : boxable y = true) (hcs : toComps y = cs) (hid : freshB id fr H = true) (hK : Nat.ble n.K id = true) (hi : memB id (compsIds cs) = false) :
    Eff P n ⟨dst, .box T x, ty, pos, aft, g⟩ fr H (.ref id 0) fr ((id, .var cs) :: H) := fun Γ ρ w a s => by
  subst hcs
  have h1 := s.ev hx
  refine ⟨.pointer (some ⟨w.heap.size, 0, none⟩), w.alloc (.cells (a.eval x).cells T), _, ?_, s.box hid hK hi (ra_comps y h1 hb), ⟨_, _, upd_same _ _ _, rfl⟩⟩
  simp [execOp, Instr.box, newVar, newRow, newObj, Sem.run]

/-- 'alloc': a new variable at its zero value -/
theorem e_alloc {T : TypeId} (id : Nat) {z : Value} {y : AV} {cs : List Comp} (hz : ∀ w, (zeroValue T).run P w = .ok z w) (hy : ∀ ρ h M, RA ρ h M y z) (hb : boxable y = true) (hcs : toComps y = cs) (hid : freshB id fr H = true) (hK : Nat.ble n.K id = true) (hi : memB id (compsIds cs) = false) :
    Eff P n ⟨dst, .alloc T, ty, pos, aft, g⟩ fr H (.ref id 0) fr ((id, .var cs) :: H) := fun Γ ρ w a s => by
  subst hcs
  refine ⟨.pointer (some ⟨w.heap.size, 0, none⟩), w.alloc (.cells z.cells T), _, ?_, s.box hid hK hi (ra_comps y (hy _ _ _) hb), ⟨_, _, upd_same _ _ _, rfl⟩⟩
  simp [execOp, Instr.alloc, hz, newVar, newRow, newObj, Sem.run_bind, Sem.run]
end
end Go.GA
end
section
namespace Go.GA
open Go Go.RowKit

mutual
def AV.ren (σ : Nat → Nat) : AV → AV
  | .ref id off => .ref (σ id) off
  | .elem id off sz i => .elem (σ id) off sz i
  | .elem2 id off sz i sz2 j => .elem2 (σ id) off sz i sz2 j
  | .os id => .os (σ id)
  | .view id off sz l len => .view (σ id) off sz l len
  | .fn f caps => .fn f (AV.renL σ caps)
  | .tup xs => .tup (AV.renL σ xs)
  | .st xs => .st (AV.renL σ xs)
  | .gd g x => .gd g (x.ren σ)
  | .cav x => .cav (x.ren σ)
  | .int k n => .int k n
  | .bool b => .bool b
  | .str s => .str s
  | .v t x => .v t x
  | .cptr t x => .cptr t x
  | .nilsl => .nilsl
  | .nilp => .nilp
  | .nilf => .nilf
  | .junk => .junk
  | .yl l => .yl l
  | .ov id m => .ov (σ id) m
def AV.renL (σ : Nat → Nat) : List AV → List AV
  | [] => []
  | x :: xs => x.ren σ :: AV.renL σ xs
end
def Comp.ren (σ : Nat → Nat) : Comp → Comp
  | .cell a => .cell (a.ren σ)
  | .arr t n xs => .arr t n xs
def compsRen (σ : Nat → Nat) : List Comp → List Comp
  | [] => []
  | c :: cs => c.ren σ :: compsRen σ cs
def Blk.ren (σ : Nat → Nat) : Blk → Blk
  | .var cs => .var (compsRen σ cs)
  | .row t xs => .row t xs
  | .brow xs => .brow xs
def hren (σ : Nat → Nat) : Hp → Hp
  | [] => []
  | (i, b) :: H => (σ i, b.ren σ) :: hren σ H

/-- names seen through others -/
def Rho.map (ρ : Rho) (σ : Nat → Nat) : Rho := ⟨fun i => ρ (σ i), ρ.N⟩
theorem one_ren {σ : Nat → Nat} (x : AV) : (x.ren σ).one = x.one := by cases x <;> rfl
mutual
theorem ra_ren {ρ : Rho} {h : Hf} {M : Nat → Prop} {σ : Nat → Nat} : ∀ (x : AV) (v : Value), RA ρ h M (x.ren σ) v ↔ RA (ρ.map σ) h M x v
  | .int .., v => by simp only [AV.ren, RA, Rho.map]
  | .bool _, v => by simp only [AV.ren, RA, Rho.map]
  | .str _, v => by simp only [AV.ren, RA, Rho.map]
  | .v t x, v => by simp only [AV.ren, RA, Rho.map]
  | .cptr t x, v => by simp only [AV.ren, RA, Rho.map]
  | .ref id off, v => by simp only [AV.ren, RA, Rho.map]
  | .elem id off sz i, v => by simp only [AV.ren, RA, Rho.map]
  | .elem2 id off sz i sz2 j, v => by simp only [AV.ren, RA, Rho.map]
  | .os id, v => by simp only [AV.ren, RA, Rho.map]
  | .view id off sz l len, v => by simp only [AV.ren, RA, Rho.map]
  | .nilsl, v => by simp only [AV.ren, RA, Rho.map]
  | .nilp, v => by simp only [AV.ren, RA, Rho.map]
  | .nilf, v => by simp only [AV.ren, RA, Rho.map]
  | .fn f caps, v => by simp only [AV.ren, RA, Rho.map, ras_ren caps]
  | .tup xs, v => by simp only [AV.ren, RA, Rho.map, ras_ren xs]
  | .st xs, v => by simp only [AV.ren, RA, Rho.map, ras_ren xs]
  | .cav x, v => by simp only [AV.ren, RA, Rho.map, one_ren, ra_ren x]
  | .gd g x, v => by simp only [AV.ren, RA, Rho.map]; cases g <;> simp [ra_ren x v, Rho.map]
  | .junk, v => by simp only [AV.ren, RA, Rho.map]
  | .yl _, v => by simp only [AV.ren, RA, Rho.map]
  | .ov id m, v => by simp only [AV.ren, RA, Rho.map]
theorem ras_ren {ρ : Rho} {h : Hf} {M : Nat → Prop} {σ : Nat → Nat} : ∀ (xs : List AV) (vs : List Value), RAs ρ h M (AV.renL σ xs) vs ↔ RAs (ρ.map σ) h M xs vs
  | [], vs => by simp only [AV.renL, RAs]
  | x :: xs, vs => by simp only [AV.renL, RAs, ra_ren x, ras_ren xs]
end
theorem rcomps_ren {ρ : Rho} {h : Hf} {M : Nat → Prop} {σ : Nat → Nat} : ∀ (cs : List Comp) (vs F), RComps ρ h M (compsRen σ cs) vs F ↔ RComps (ρ.map σ) h M cs vs F
  | [], vs, F => Iff.rfl
  | .cell a :: r, vs, F => by simp only [compsRen, Comp.ren, RComps, one_ren, ra_ren, rcomps_ren r]
  | .arr t n xs :: r, vs, F => by simp only [compsRen, Comp.ren, RComps, rcomps_ren r]
theorem rblk_ren {ρ : Rho} {h : Hf} {M : Nat → Prop} {σ : Nat → Nat} {id : Nat} : ∀ (B : Blk) (L), RBlk ρ h M (σ id) (B.ren σ) L ↔ RBlk (ρ.map σ) h M id B L
  | .var cs, L => by simp only [Blk.ren, RBlk, rcomps_ren, Rho.map]
  | .row t xs, L => by simp only [Blk.ren, RBlk, Rho.map]
  | .brow xs, L => by simp only [Blk.ren, RBlk, Rho.map]
theorem mem_hren {σ : Nat → Nat} : ∀ {H : Hp} {e}, e ∈ hren σ H ↔ ∃ e' ∈ H, e = (σ e'.1, e'.2.ren σ)
  | [], e => by simp [hren]
  | (i, b) :: H, e => by simp only [hren, List.mem_cons, mem_hren (H := H)]; constructor
                         · rintro (rfl | ⟨e', h, rfl⟩)
                           · exact ⟨(i, b), .inl rfl, rfl⟩
                           · exact ⟨e', .inr h, rfl⟩
                         · rintro ⟨e', rfl | h, rfl⟩
                           · exact .inl rfl
                           · exact .inr ⟨e', h, rfl⟩
/-! ### Contracts -/
mutual
/-- a result: no memory behind it but own blocks -/
def AV.res : AV → Bool
  | .int .. => true
  | .bool _ => true
  | .str _ => true
  | .v t _ => t.flat
  | .ref .. => true
  | .os _ => true
  | .nilsl => true
  | .nilp => true
  | .nilf => true
  | .tup xs => AV.resL xs
  | .st xs => AV.resL xs
  | .fn _ caps => AV.resL caps
  | _ => false
def AV.resL : List AV → Bool
  | [] => true
  | x :: xs => x.res && AV.resL xs
end

/-- the cells of own variables that a call hands back -/
def compsRes : List Comp → Bool
  | [] => true
  | .cell a :: cs => a.res && compsRes cs
  | .arr .. :: cs => compsRes cs
def heapRes : Hp → Bool
  | [] => true
  | (_, .var cs) :: H => compsRes cs && heapRes H
  | (_, .row ..) :: H => heapRes H
  | (_, .brow ..) :: H => heapRes H

def inL (ℓ : Nat → List Nat) (H : Hp) (b : Nat) : Prop := ∃ e ∈ H, b ∈ ℓ e.1

/-- what a call leaves -/
structure Post (R : AV → Hp → Prop) (ρ : Rho) (w : World) (H : Hp) (ℓ : Nat → List Nat) (v : Value) (w' : World) (r : AV) (H' : Hp) (ρ' : Rho) (ℓ' : Nat → List Nat) : Prop where
  post : R r H'
  keep : ∀ e ∈ H, ρ' e.1 = ρ e.1
  ext : Ext (namB ρ H) w w'
  heap : HeapOK ρ' (World.hf w') H' ℓ'
  old : ∀ b, inL ℓ' H' b → inL ℓ H b ∨ w.heap.size ≤ b
  own : ∀ b, namB ρ' H' b → namB ρ H b ∨ w.heap.size ≤ b
  ra : RA ρ' (World.hf w') (ownB ρ' H') r v
  nn : ρ'.N = ρ.N

/-- calls whose results may hold data that was there -/
def ACallsV (P : Program) (f : FuncId) (args : List AV) (H : Hp) (R : AV → Hp → Prop) : Prop :=
  ∀ ρ w vs ℓ, RAs ρ (World.hf w) (ownB ρ H) args vs → HeapOK ρ (World.hf w) H ℓ → (∀ b, ρ.N b → ¬ inL ℓ H b ∧ b < w.heap.size) → Laid P w (namB ρ H) →
    Calls P f vs.toArray w (fun e w' => ∃ v r H' ρ' ℓ', e = .returned v ∧ Post R ρ w H ℓ v w' r H' ρ' ℓ')
/-- no memory but own blocks behind what is left -/
def WithRes (R : AV → Hp → Prop) (r : AV) (H : Hp) : Prop := R r H ∧ r.res = true ∧ heapRes H = true
def ACalls (P : Program) (f : FuncId) (args : List AV) (H : Hp) (R : AV → Hp → Prop) : Prop := ACallsV P f args H (WithRes R)

theorem ACallsV.mono {P : Program} {f : FuncId} {args : List AV} {H : Hp} {R R' : AV → Hp → Prop} (h : ACallsV P f args H R) (hR : ∀ r H', R r H' → R' r H') : ACallsV P f args H R' := fun ρ w vs ℓ h1 h2 h3 h4 =>
  (h ρ w vs ℓ h1 h2 h3 h4).mono fun _ _ ⟨v, r, H', ρ', ℓ', e, p⟩ => ⟨v, r, H', ρ', ℓ', e, { p with post := hR _ _ p.post }⟩
theorem ACalls.mono {P : Program} {f : FuncId} {args : List AV} {H : Hp} {R R' : AV → Hp → Prop} (h : ACalls P f args H R) (hR : ∀ r H', R r H' → R' r H') : ACalls P f args H R' := ACallsV.mono h fun r H' h => ⟨hR r H' h.1, h.2⟩
theorem ACalls.v {P : Program} {f : FuncId} {args : List AV} {H : Hp} {R : AV → Hp → Prop} (h : ACalls P f args H R) : ACallsV P f args H R := ACallsV.mono h fun _ _ h => h.1

/-! ### Entering a function, and coming back -/
def argFr : Nat → List AV → Fr
  | _, [] => []
  | i, x :: xs => (i, x) :: argFr (i + 1) xs
theorem get_argFr : ∀ {xs : List AV} {i t : Nat} {x : AV}, get (argFr i xs) t = some x → ∃ j, t = i + j ∧ nthAV xs j = some x
  | y :: ys, i, t, x, h => by
    unfold argFr get at h
    cases e : Nat.beq i t with
    | true => rw [e] at h; simp only [cond_true, Option.some.injEq] at h; subst h; exact ⟨0, (Nat.eq_of_beq_eq_true e).symm, rfl⟩
    | false => rw [e] at h; obtain ⟨j, h1, h2⟩ := get_argFr h; exact ⟨j + 1, by omega, h2⟩
theorem ras_length {ρ : Rho} {h : Hf} {M : Nat → Prop} : ∀ {xs : List AV} {vs : List Value}, RAs ρ h M xs vs → vs.length = xs.length
  | [], _, h => by simp only [RAs] at h; subst h; rfl
  | x :: xs, _, h => by obtain ⟨v, vs', e, _, h2⟩ := h; subst e; simp [ras_length h2]
theorem nthAV_lt : ∀ {xs : List AV} {j : Nat} {x : AV}, nthAV xs j = some x → j < xs.length
  | y :: ys, 0, x, h => by simp
  | y :: ys, j + 1, x, h => by have := nthAV_lt (xs := ys) h; simp; omega

/-- the names 0 .. K-1 -/
def namesB (K : Nat) : Hp → Bool
  | [] => true
  | e :: H => Nat.blt e.1 K && namesB K H
theorem namesB_lt {K : Nat} : ∀ {H : Hp}, namesB K H = true → ∀ e ∈ H, e.1 < K
  | e :: H, h, x, hx => by
    simp only [namesB, Bool.and_eq_true] at h
    rcases List.mem_cons.1 hx with rfl | hx
    · simpa using h.1
    · exact namesB_lt h.2 x hx

/-- what the end of the body owes -/
def Fin (P : Program) (Γ : Ctx) (n : Sz) (fn : Func) (R : AV → Hp → Prop) (a : Act) (w : World) : Prop :=
  a.defers = Γ.dl ∧ ∃ v r H' ρ' ℓ', (results fn a.tmps).run P w = .ok v w ∧ R r H' ∧ (∀ i, i < n.K → ρ' i = Γ.ρ0 i) ∧ Ext Γ.M0 Γ.W0 w ∧ HeapOK ρ' (World.hf w) H' ℓ' ∧
    (∀ b, inL ℓ' H' b → Γ.L0 b ∨ Γ.W0.heap.size ≤ b) ∧ (∀ b, namB ρ' H' b → Γ.M0 b ∨ Γ.W0.heap.size ≤ b) ∧ RA ρ' (World.hf w) (ownB ρ' H') r v ∧ ρ'.N = Γ.ρ0.N
/-- the exits of a body -/
def BQ (P : Program) (Γ : Ctx) (n : Sz) (fn : Func) (R : AV → Hp → Prop) : Exit → Act → World → Prop
  | .normal => Fin P Γ n fn R
  | .ret => Fin P Γ n fn R
  | _ => fun _ _ => False

theorem ac_enterV {P : Program} {f : FuncId} {fn : Func} {c : Code} {args : List AV} {H : Hp} {R : AV → Hp → Prop} (n : Sz) (hf : P.funcs[f]? = some fn) (hb : fn.body = some c) (hn : fn.ntmps = n.n) (ha : Nat.ble args.length n.n = true) (hK : namesB n.K H = true)
    (hK' : n.K = H.length)
    (h : ∀ Γ, [LaidS P Γ] → AW P Γ n c (BQ P Γ n fn R) (argFr 0 args) H) : ACallsV P f args H R := by
  intro ρ w vs ℓ h1 h2 hN hLd
  have hlen := ras_length h1
  have ha' : args.length ≤ n.n := Nat.le_of_ble_eq_true ha
  let Γ : Ctx := { W0 := w, M0 := namB ρ H, L0 := inL ℓ H, ρ0 := ρ, dl := [] }
  have hLS : LaidS P Γ := ⟨hLd⟩
  refine calls_of_wp hf hb ?_
  have hs : SIM Γ n ρ w { tmps := vs.toArray ++ Array.replicate (fn.ntmps - vs.toArray.size) undef, defers := [] } (argFr 0 args) H := by
    refine ⟨⟨rfl, rfl, hN⟩, ?_, Ext.refl _ _, fun _ _ => rfl, fun b hb => .inl hb, ⟨ℓ, h2, fun e he b hb => .inl ⟨e, he, hb⟩⟩, ?_⟩
    · simp [hn]; omega
    · intro t x hx
      obtain ⟨j, e, hj⟩ := get_argFr hx
      obtain rfl : t = j := by omega
      have hlt := nthAV_lt hj
      obtain ⟨v, hv, hr⟩ := ras_nth h1 hj
      refine ⟨by omega, ?_⟩
      have hlt' : t < vs.length := by omega
      have : (vs.toArray ++ Array.replicate (fn.ntmps - vs.toArray.size) undef).getD t undef = v := by
        rw [Array.getD_eq_getD_getElem?, Array.getElem?_append_left (by simpa using hlt')]
        simp [hv]
      rw [this]; exact hr
  have hn' : ∀ e ∈ H, e.1 < n.K := namesB_lt hK
  refine Code.wp_mono (Q := BQ P Γ n fn R) ?_ (h Γ ρ w _ hs)
  intro e a w' hq
  have key : Fin P Γ n fn R a w' → a.defers = [] ∧ ∃ v, (results fn a.tmps).run P w' = .ok v w' ∧ ∃ v' r H' ρ' ℓ', Ending.returned v = .returned v' ∧ Post R ρ w H ℓ v' w' r H' ρ' ℓ' := by
    rintro ⟨hd, v, r, H', ρ', ℓ', h1, h2, h3, h4, h5, h6, h7, h8, h9⟩
    exact ⟨hd, v, h1, v, r, H', ρ', ℓ', rfl, h2, fun e he => h3 _ (hn' e he), h4, h5, h6, h7, h8, h9⟩
  cases e with
  | normal => exact key hq
  | ret => exact key hq
  | exit i => exact hq.elim
  | goto l => exact hq.elim
  | panic ch => exact hq.elim
  | outgrown => exact hq.elim

theorem ac_enter {P : Program} {f : FuncId} {fn : Func} {c : Code} {args : List AV} {H : Hp} {R : AV → Hp → Prop} (n : Sz) (hf : P.funcs[f]? = some fn) (hb : fn.body = some c) (hn : fn.ntmps = n.n) (ha : Nat.ble args.length n.n = true) (hK : namesB n.K H = true)
    (hK' : n.K = H.length)
    (h : ∀ Γ, [LaidS P Γ] → AW P Γ n c (BQ P Γ n fn (WithRes R)) (argFr 0 args) H) : ACalls P f args H R := ac_enterV n hf hb hn ha hK hK' h

section
variable {P : Program} {Γ : Ctx} {n : Sz} {fr fr' : Fr} {H H' : Hp} {fn : Func} {R : AV → Hp → Prop}

theorem aq_ret (h : AQ Γ n (Fin P Γ n fn R) fr H) : AQ Γ n (BQ P Γ n fn R .ret) fr H := h
/-! ### A state seen as another one -/
def Sub (n : Sz) (fr : Fr) (H : Hp) (fr' : Fr) (H' : Hp) : Prop := ∀ Γ ρ w a, SIM Γ n ρ w a fr H → ∃ ρ', SIM Γ n ρ' w a fr' H'
theorem AQ.sub {K : Act → World → Prop} (hs : Sub n fr H fr' H') (h : AQ Γ n K fr' H') : AQ Γ n K fr H := fun ρ w a s => let ⟨ρ', s'⟩ := hs Γ ρ w a s; h ρ' w a s'
theorem AW.sub {c : Code} {Q : Exit → Act → World → Prop} (hs : Sub n fr H fr' H') (h : AW P Γ n c Q fr' H') : AW P Γ n c Q fr H := fun ρ w a s => let ⟨ρ', s'⟩ := hs Γ ρ w a s; h ρ' w a s'
theorem AL.sub {c : Code} {Q : Exit → Act → World → Prop} (hs : Sub n fr H fr' H') (h : AL P Γ n c Q fr' H') : AL P Γ n c Q fr H := fun ρ w a s => let ⟨ρ', s'⟩ := hs Γ ρ w a s; h ρ' w a s'
theorem AO.sub {all : Array Oper} {ops : List Oper} {Q : Exit → Act → World → Prop} (hs : Sub n fr H fr' H') (h : AO P Γ n all Q ops fr' H') : AO P Γ n all Q ops fr H := fun ρ w a s => let ⟨ρ', s'⟩ := hs Γ ρ w a s; h ρ' w a s'

/-- a value seen as another one: 'x' in the state with H, 'y' in the state with H', whose names σ leads to those of H -/
def Ad (H H' : Hp) (σ : Nat → Nat) (x y : AV) : Prop := ∀ (ρ : Rho) (h : Hf) (ℓ : Nat → List Nat), HeapOK ρ h H ℓ → (∀ b, ownB (ρ.map σ) H' b → ownB ρ H b) → (∀ e ∈ H, (∀ e' ∈ H', σ e'.1 ≠ e.1) → ∀ b, b ∈ ℓ e.1 → ¬ ownB (ρ.map σ) H' b) →
  ∀ v, RA ρ h (ownB ρ H) x v → RA (ρ.map σ) h (ownB (ρ.map σ) H') y v

theorem ra_le {ρ : Rho} {h : Hf} {M M' : Nat → Prop} (hm : ∀ b, M' b → M b) {x : AV} {v : Value} (hx : RA ρ h M x v) : RA ρ h M' x v := hx.same x (fun _ _ => rfl) (fun b hb _ => ⟨rfl, fun h => hb (hm b h)⟩)
theorem ad_ren {σ : Nat → Nat} {x y : AV} (e : x = y.ren σ) : Ad H H' σ x y := fun ρ h ℓ hk hm _ v hx => by
  subst e
  exact (ra_ren y v).1 (ra_le (fun b hb => hm b hb) hx)
/-- an own row that is not written any more, or not by the callee -/
theorem ad_os {σ : Nat → Nat} {id : Nat} {t : Ty} {xs : List t.D} (hg : hget H id = some (.row t xs)) (hn : ∀ e' ∈ H', σ e'.1 ≠ id) : Ad H H' σ (.os id) (.v (.slice t) xs) := fun ρ h ℓ hk hm hd v hx => by
  have hd' := hd _ (hget_mem hg) hn
  obtain ⟨hl, ⟨h1, h2, e⟩ | ⟨b, cap, c, T, F, mid, post, h1, h2, h3, h4, e, h5, h6⟩⟩ := hk.get hg
  · rcases hx with ⟨_, hx⟩ | ⟨b, cap, len, h3, _⟩
    · subst hx
      exact ⟨[], ⟨[.slice none 0 0], ⟨hl, .inl ⟨h2, rfl, _, _, rfl⟩⟩, rfl⟩, by simp⟩
    · rw [h1] at h3; cases h3
  · rcases hx with ⟨hx, _⟩ | ⟨b', cap', len, h3', e'⟩
    · rw [h1] at hx; cases hx
    · rw [h1] at h3'
      obtain ⟨rfl, rfl, rfl⟩ : b = b' ∧ cap = cap' ∧ List.length (α := t.D) xs = len := by simpa using h3'
      subst e'
      obtain ⟨ex, rfl⟩ : ∃ ex, cap = List.length (α := t.D) xs + ex := ⟨cap - List.length (α := t.D) xs, by have := h5; omega⟩
      exact ⟨b :: F, ⟨[_], ⟨hl, .inr ⟨b, 0, ex, F, rfl, rfl, c, T, _, [], mid, post, h2, by simpa using h3, rfl, h4, NF.zero _ _⟩⟩, rfl⟩, fun b' hb' => hd' b' (by rw [e]; exact hb')⟩

def SubFr (H H' : Hp) (σ : Nat → Nat) (fr : Fr) : Fr → Prop
  | [] => True
  | (t, y) :: l => (∃ x, get fr t = some x ∧ Ad H H' σ x y) ∧ SubFr H H' σ fr l
theorem subFr_get {σ : Nat → Nat} : ∀ {fr' : Fr} {t : Nat} {y : AV}, SubFr H H' σ fr fr' → get fr' t = some y → ∃ x, get fr t = some x ∧ Ad H H' σ x y
  | (i, a) :: l, t, y, h, hg => by
    unfold get at hg
    cases e : Nat.beq i t with
    | true =>
      rw [e] at hg
      simp only [cond_true, Option.some.injEq] at hg
      have := Nat.eq_of_beq_eq_true e
      subst this; subst hg
      exact h.1
    | false => rw [e] at hg; exact subFr_get h.2 hg

/-- components seen as others -/
def AdC (H H' : Hp) (σ : Nat → Nat) : List Comp → List Comp → Prop
  | [], [] => True
  | .cell x :: cs, .cell y :: ds => Ad H H' σ x y ∧ y.one = true ∧ AdC H H' σ cs ds
  | .arr t n xs :: cs, d :: ds => d = .arr t n xs ∧ AdC H H' σ cs ds
  | _, _ => False
def AdB (H H' : Hp) (σ : Nat → Nat) : Blk → Blk → Prop
  | .var cs, .var ds => AdC H H' σ cs ds
  | .row t xs, B => B = .row t xs
  | .brow xs, B => B = .brow xs
  | _, _ => False
def SubH (H H' : Hp) (σ : Nat → Nat) : Hp → Prop
  | [] => True
  | (i, B) :: l => (∃ A, hget H (σ i) = some A ∧ AdB H H' σ A B) ∧ SubH H H' σ l
theorem subH_mem {σ : Nat → Nat} : ∀ {l : Hp} {e}, SubH H H' σ l → e ∈ l → ∃ A, hget H (σ e.1) = some A ∧ AdB H H' σ A e.2
  | (i, B) :: l, e, h, he => by
    rcases List.mem_cons.1 he with rfl | he
    · exact h.1
    · exact subH_mem h.2 he
theorem adc_ok {σ : Nat → Nat} {ρ : Rho} {h : Hf} {ℓ : Nat → List Nat} (hk : HeapOK ρ h H ℓ) (hm : ∀ b, ownB (ρ.map σ) H' b → ownB ρ H b) (hd : ∀ e ∈ H, (∀ e' ∈ H', σ e'.1 ≠ e.1) → ∀ b, b ∈ ℓ e.1 → ¬ ownB (ρ.map σ) H' b) :
    ∀ {cs ds : List Comp} {vs F}, AdC H H' σ cs ds → RComps ρ h (ownB ρ H) cs vs F → RComps (ρ.map σ) h (ownB (ρ.map σ) H') ds vs F
  | [], [], _, _, _, hr => hr
  | .cell x :: cs, .cell y :: ds, _, _, ha, hr => by
    obtain ⟨v, cs', e, h1, h2, h3⟩ := hr
    exact ⟨v, cs', e, ha.2.1, ha.1 ρ h ℓ hk hm hd v h2, adc_ok hk hm hd ha.2.2 h3⟩
  | .arr t n xs :: cs, d :: ds, _, _, ha, hr => by
    obtain ⟨c1, c2, F1, F2, e, eF, h1, h2⟩ := hr
    obtain ⟨rfl, ha2⟩ := ha
    exact ⟨c1, c2, F1, F2, e, eF, h1, adc_ok hk hm hd ha2 h2⟩
  | [], _ :: _, _, _, ha, _ => ha.elim
  | .cell _ :: _, [], _, _, ha, _ => ha.elim
  | .cell _ :: _, .arr _ _ _ :: _, _, _, ha, _ => ha.elim
  | .arr _ _ _ :: _, [], _, _, ha, _ => ha.elim
theorem adb_ok {σ : Nat → Nat} {ρ : Rho} {h : Hf} {ℓ : Nat → List Nat} (hk : HeapOK ρ h H ℓ) (hm : ∀ b, ownB (ρ.map σ) H' b → ownB ρ H b) (hd : ∀ e ∈ H, (∀ e' ∈ H', σ e'.1 ≠ e.1) → ∀ b, b ∈ ℓ e.1 → ¬ ownB (ρ.map σ) H' b) {i : Nat} :
    ∀ {A B : Blk} {L}, AdB H H' σ A B → RBlk ρ h (ownB ρ H) (σ i) A L → RBlk (ρ.map σ) h (ownB (ρ.map σ) H') i B L
  | .var cs, .var ds, _, ha, hr => by
    obtain ⟨b, k, c, T, F, h1, h2, h3, e⟩ := hr
    exact ⟨b, k, c, T, F, h1, h2, adc_ok hk hm hd ha h3, e⟩
  | .row t xs, B, _, ha, hr => by
    have e : B = .row t xs := ha
    subst e
    exact hr
  | .brow xs, B, _, ha, hr => by
    have e : B = .brow xs := ha
    subst e
    exact hr
  | .var _, .row _ _, _, ha, _ => ha.elim
  | .var _, .brow _, _, ha, _ => ha.elim

/-- names to names, one to one -/
def injB (σ : Nat → Nat) : List Nat → Bool
  | [] => true
  | i :: l => !(memB (σ i) (l.map σ)) && injB σ l
theorem injB_nodup {σ : Nat → Nat} : ∀ {l : List Nat}, injB σ l = true → (l.map σ).Nodup
  | [], _ => List.nodup_nil
  | i :: l, h => by
    simp only [injB, Bool.and_eq_true, Bool.not_eq_true'] at h
    exact List.nodup_cons.2 ⟨memB_false h.1, injB_nodup h.2⟩
def hkeys : Hp → List Nat
  | [] => []
  | (i, _) :: H => i :: hkeys H
theorem hkeys_eq : ∀ (H : Hp), hkeys H = H.map (·.1)
  | [] => rfl
  | (i, B) :: H => by simp [hkeys, hkeys_eq H]
theorem nodup_of_map {α β : Type} (f : α → β) : ∀ {l : List α}, (l.map f).Nodup → l.Nodup ∧ ∀ x ∈ l, ∀ y ∈ l, f x = f y → x = y
  | [], _ => ⟨List.nodup_nil, by simp⟩
  | a :: l, h => by
    simp only [List.map_cons, List.nodup_cons, List.mem_map, not_exists, not_and] at h
    obtain ⟨h1, h2⟩ := nodup_of_map f h.2
    refine ⟨List.nodup_cons.2 ⟨fun ha => h.1 a ha rfl, h1⟩, ?_⟩
    intro x hx y hy e
    rcases List.mem_cons.1 hx with rfl | hx' <;> rcases List.mem_cons.1 hy with rfl | hy'
    · rfl
    · exact absurd e.symm (h.1 y hy')
    · exact absurd e (h.1 x hx')
    · exact h2 x hx' y hy' e

theorem HeapOK.own_mem {ρ : Rho} {h : Hf} {ℓ : Nat → List Nat} (hk : HeapOK ρ h H ℓ) : ∀ e ∈ H, ∀ b k, ρ e.1 = some (b, k) → b ∈ ℓ e.1 := by
  intro e he b k hb
  have := hk.blk e he
  obtain ⟨i, B⟩ := e
  cases B with
  | var cs =>
    obtain ⟨b', k', c, T, F, h1, h2, h3, e⟩ := this
    simp only at hb h1 ⊢
    rw [hb] at h1
    obtain ⟨rfl, _⟩ : b = b' ∧ k = k' := by simpa using h1
    rw [e]; simp
  | row t xs =>
    obtain ⟨hl, ⟨h1, h2, e⟩ | ⟨b', cap, c, T, F, mid, post, h1, h2, h3, h4, e, h5⟩⟩ := this
    · simp only at hb h1; rw [hb] at h1; cases h1
    · simp only at hb h1 ⊢
      rw [hb] at h1
      have h1' := congrArg (fun o => o.map Prod.fst) h1
      simp only [Option.map_some, Option.some.injEq] at h1'
      subst h1'
      rw [e]; simp
  | brow xs =>
    obtain ⟨b', cap, c, T, post, h1, h2, h3, e, h4⟩ := this
    simp only at hb h1 ⊢
    rw [hb] at h1
    have h1' := congrArg (fun o => o.map Prod.fst) h1
    simp only [Option.map_some, Option.some.injEq] at h1'
    subst h1'
    rw [e]; simp
/-- the part of the own blocks that H' speaks of -/
theorem heap_sub {σ : Nat → Nat} {ρ : Rho} {h : Hf} {ℓ : Nat → List Nat} (hk : HeapOK ρ h H ℓ) (hN : ∀ b, ρ.N b → ¬ inL ℓ H b) (hH : SubH H H' σ H') (hi : injB σ (hkeys H') = true) :
    (∀ b, namB (ρ.map σ) H' b → namB ρ H b) ∧ (∀ b, ownB (ρ.map σ) H' b → ownB ρ H b) ∧ (∀ e ∈ H, (∀ e' ∈ H', σ e'.1 ≠ e.1) → ∀ b, b ∈ ℓ e.1 → ¬ ownB (ρ.map σ) H' b) ∧ HeapOK (ρ.map σ) h H' (fun i => ℓ (σ i)) := by
  have hsub : ∀ e' ∈ H', ∃ A, (σ e'.1, A) ∈ H ∧ AdB H H' σ A e'.2 := fun e' he' => by
    obtain ⟨A, h1, h2⟩ := subH_mem hH he'
    exact ⟨A, hget_mem h1, h2⟩
  have hm0 : ∀ b, namB (ρ.map σ) H' b → namB ρ H b := by
    rintro b ⟨e', he', k, hk'⟩
    obtain ⟨A, hA, _⟩ := hsub e' he'
    exact ⟨_, hA, k, hk'⟩
  have hm : ∀ b, ownB (ρ.map σ) H' b → ownB ρ H b := fun b h => h.imp (hm0 b) (fun h => h)
  have hown := hk.own_mem
  have hd : ∀ e ∈ H, (∀ e' ∈ H', σ e'.1 ≠ e.1) → ∀ b, b ∈ ℓ e.1 → ¬ ownB (ρ.map σ) H' b := by
    rintro e he hne b hb (⟨e', he', k, hk'⟩ | hn)
    · obtain ⟨A, hA, _⟩ := hsub e' he'
      exact hk.dj _ hA e he (hne e' he') b (hown _ hA b k hk') hb
    · exact hN b hn ⟨e, he, hb⟩
  have hinj := injB_nodup hi
  rw [hkeys_eq] at hinj
  obtain ⟨hn1, hn2⟩ := nodup_of_map σ hinj
  refine ⟨hm0, hm, hd, ?_, ?_, ?_, hn1⟩
  · intro e' he'
    obtain ⟨A, h1, h2⟩ := subH_mem hH he'
    exact adb_ok hk hm hd h2 (hk.get h1)
  · intro e' he'
    obtain ⟨A, hA, _⟩ := hsub e' he'
    exact hk.nd _ hA
  · intro e he e' he' hne b hb hb'
    obtain ⟨A, hA, _⟩ := hsub e he
    obtain ⟨A', hA', _⟩ := hsub e' he'
    exact hk.dj _ hA _ hA' (fun h => hne (hn2 _ (List.mem_map_of_mem he) _ (List.mem_map_of_mem he') h)) b hb hb'

theorem SIM.apart {ρ : Rho} {w : World} {a : Act} (s : SIM Γ n ρ w a fr H) {ℓ : Nat → List Nat} (hb : ∀ e ∈ H, ∀ b ∈ ℓ e.1, Γ.L0 b ∨ Γ.W0.heap.size ≤ b) : ∀ b, ρ.N b → ¬ inL ℓ H b := by
  rintro b hn ⟨e, he, h⟩
  rw [s.defers.2.1] at hn
  obtain ⟨h1, h2⟩ := s.defers.2.2 b hn
  rcases hb e he b h with h | h
  · exact h1 h
  · omega
theorem sub_mk (σ : Nat → Nat) (hfr : SubFr H H' σ fr fr') (hH : SubH H H' σ H') (hi : injB σ (hkeys H') = true) (hK : ∀ i, i < n.K → σ i = i) : Sub n fr H fr' H' := by
  intro Γ ρ w a s
  obtain ⟨ℓ, hk, hb⟩ := s.heap
  obtain ⟨hm0, hm, hd, hk'⟩ := heap_sub hk (s.apart hb) hH hi
  refine ⟨ρ.map σ, s.defers, s.size, s.ext, fun i hi => by show ρ (σ i) = _; rw [hK i hi]; exact s.keep i hi, fun b hb => s.own b (hm0 b hb), ⟨_, hk', ?_⟩, ?_⟩
  · intro e he b hb'
    obtain ⟨A, hA, _⟩ := subH_mem hH he
    exact hb _ (hget_mem hA) b hb'
  · intro t y hy
    obtain ⟨x, hx, had⟩ := subFr_get hfr hy
    obtain ⟨h1, h2⟩ := s.fr t x hx
    exact ⟨h1, had ρ _ ℓ hk hm hd _ h2⟩
end
end Go.GA
end
section
namespace Go.GA
open Go Go.RowKit

/-- the callee's names as the caller's: the first are those handed over, the others new -/
def sg : List Nat → Nat → Nat → Nat
  | [], base, j => base + j
  | x :: _, _, 0 => x
  | _ :: l, base, j + 1 => sg l base j
def hdel (l : List Nat) : Hp → Hp
  | [] => []
  | (i, B) :: H => bif memB i l then hdel l H else (i, B) :: hdel l H
def allLt (base : Nat) : List Nat → Bool
  | [] => true
  | i :: l => Nat.blt i base && allLt base l
theorem allLt_lt {base : Nat} : ∀ {l : List Nat}, allLt base l = true → ∀ i ∈ l, i < base
  | i :: l, h, j, hj => by
    simp only [allLt, Bool.and_eq_true] at h
    rcases List.mem_cons.1 hj with rfl | hj
    · simpa using h.1
    · exact allLt_lt h.2 j hj
theorem memB_true {i : Nat} : ∀ {l : List Nat}, memB i l = true → i ∈ l
  | j :: l, h => by
    unfold memB at h
    cases e : Nat.beq i j with
    | true => rw [Nat.eq_of_beq_eq_true e]; simp
    | false => rw [e] at h; exact List.mem_cons_of_mem _ (memB_true h)
theorem mem_hdel {l : List Nat} : ∀ {H : Hp} {e}, e ∈ hdel l H ↔ e ∈ H ∧ e.1 ∉ l
  | [], e => by simp [hdel]
  | (i, B) :: H, e => by
    unfold hdel
    cases h : memB i l with
    | true =>
      have := memB_true h
      simp only [cond_true, mem_hdel (H := H), List.mem_cons]
      constructor
      · rintro ⟨h1, h2⟩; exact ⟨.inr h1, h2⟩
      · rintro ⟨rfl | h1, h2⟩
        · exact absurd this h2
        · exact ⟨h1, h2⟩
    | false =>
      have := memB_false h
      simp only [cond_false, mem_hdel (H := H), List.mem_cons]
      constructor
      · rintro (rfl | ⟨h1, h2⟩)
        · exact ⟨.inl rfl, this⟩
        · exact ⟨.inr h1, h2⟩
      · rintro ⟨rfl | h1, h2⟩
        · exact .inl rfl
        · exact .inr ⟨h1, h2⟩
theorem hdel_keys {l : List Nat} : ∀ {H : Hp}, (H.map (·.1)).Nodup → ((hdel l H).map (·.1)).Nodup
  | [], _ => List.nodup_nil
  | (i, B) :: H, h => by
    simp only [List.map_cons, List.nodup_cons] at h
    unfold hdel
    cases hm : memB i l with
    | true => exact hdel_keys h.2
    | false =>
      simp only [cond_false, List.map_cons, List.nodup_cons]
      refine ⟨fun hh => h.1 ?_, hdel_keys h.2⟩
      obtain ⟨e, he, e1⟩ := List.mem_map.1 hh
      exact List.mem_map.2 ⟨e, (mem_hdel.1 he).1, e1⟩
theorem sg_lt : ∀ {l : List Nat} {base j : Nat}, j < l.length → sg l base j ∈ l
  | x :: l, base, 0, _ => by simp [sg]
  | x :: l, base, j + 1, h => by simp only [sg]; exact List.mem_cons_of_mem _ (sg_lt (by simpa using h))
theorem sg_ge : ∀ {l : List Nat} {base j : Nat}, l.length ≤ j → sg l base j = base + (j - l.length)
  | [], base, j, _ => by simp [sg]
  | x :: l, base, 0, h => by simp at h
  | x :: l, base, j + 1, h => by simp only [sg]; rw [sg_ge (by simpa using h)]; simp
theorem sg_inj : ∀ {l : List Nat} {base : Nat}, l.Nodup → (∀ i ∈ l, i < base) → ∀ {i j : Nat}, sg l base i = sg l base j → i = j
  | [], base, _, _, i, j, h => by simp [sg] at h; exact h
  | x :: l, base, hn, hl, 0, 0, _ => rfl
  | x :: l, base, hn, hl, 0, j + 1, h => by
    simp only [sg] at h
    exfalso
    rcases Nat.lt_or_ge j l.length with hj | hj
    · exact (List.nodup_cons.1 hn).1 (h ▸ sg_lt hj)
    · rw [sg_ge hj] at h; have := hl x (by simp); omega
  | x :: l, base, hn, hl, i + 1, 0, h => by
    simp only [sg] at h
    exfalso
    rcases Nat.lt_or_ge i l.length with hj | hj
    · exact (List.nodup_cons.1 hn).1 (h ▸ sg_lt hj)
    · rw [sg_ge hj] at h; have := hl x (by simp); omega
  | x :: l, base, hn, hl, i + 1, j + 1, h => by
    simp only [sg] at h
    rw [sg_inj (List.nodup_cons.1 hn).2 (fun i hi => hl i (List.mem_cons_of_mem _ hi)) h]

mutual
theorem ra_res {ρ : Rho} {h h' : Hf} {M M' : Nat → Prop} : ∀ (x : AV) {v : Value}, x.res = true → RA ρ h M x v → RA ρ h' M' x v
  | .int .., _, _, hx => hx
  | .bool _, _, _, hx => hx
  | .str _, _, _, hx => hx
  | .v t x, _, hr, hx => by
    obtain ⟨F, ⟨cs, h1, e⟩, _⟩ := hx
    have hF := Rc.flat t hr h1
    subst hF
    exact ⟨[], ⟨cs, h1.same t (by simp), e⟩, by simp⟩
  | .cptr .., _, hr, _ => by cases hr
  | .cav .., _, hr, _ => by cases hr
  | .ref .., _, _, hx => hx
  | .elem .., _, hr, _ => by cases hr
  | .elem2 .., _, hr, _ => by cases hr
  | .os _, _, _, hx => hx
  | .view .., _, hr, _ => by cases hr
  | .yl _, _, hr, _ => by cases hr
  | .ov .., _, hr, _ => by cases hr
  | .nilsl, _, _, hx => hx
  | .nilp, _, _, hx => hx
  | .nilf, _, _, hx => hx
  | .fn f caps, _, hr, hx => by
    obtain ⟨vs, e, h1⟩ := hx
    exact ⟨vs, e, ras_res caps hr h1⟩
  | .tup xs, _, hr, hx => by
    obtain ⟨vs, e, h1⟩ := hx
    exact ⟨vs, e, ras_res xs hr h1⟩
  | .st xs, _, hr, hx => by
    obtain ⟨vs, e, h1⟩ := hx
    exact ⟨vs, e, ras_res xs hr h1⟩
  | .gd .., _, hr, _ => by cases hr
  | .junk, _, hr, _ => by cases hr
theorem ras_res {ρ : Rho} {h h' : Hf} {M M' : Nat → Prop} : ∀ (xs : List AV) {vs : List Value}, AV.resL xs = true → RAs ρ h M xs vs → RAs ρ h' M' xs vs
  | [], _, _, hx => hx
  | x :: xs, _, hr, hx => by
    simp only [AV.resL, Bool.and_eq_true] at hr
    obtain ⟨v, vs', e, h1, h2⟩ := hx
    exact ⟨v, vs', e, ra_res x hr.1 h1, ras_res xs hr.2 h2⟩
end
theorem rcomps_res {ρ : Rho} {h : Hf} {M M' : Nat → Prop} : ∀ {cs : List Comp} {vs F}, compsRes cs = true → RComps ρ h M cs vs F → RComps ρ h M' cs vs F
  | [], _, _, _, hr => hr
  | .cell a :: r, _, _, hc, hr => by
    simp only [compsRes, Bool.and_eq_true] at hc
    obtain ⟨v, cs', e, h1, h2, h3⟩ := hr
    exact ⟨v, cs', e, h1, ra_res a hc.1 h2, rcomps_res hc.2 h3⟩
  | .arr t n xs :: r, _, _, hc, hr => by
    obtain ⟨c1, c2, F1, F2, e, eF, h1, h2⟩ := hr
    exact ⟨c1, c2, F1, F2, e, eF, h1, rcomps_res (cs := r) hc h2⟩
theorem heapRes_mem : ∀ {H : Hp}, heapRes H = true → ∀ e ∈ H, ∀ cs, e.2 = .var cs → compsRes cs = true
  | (i, .var cs) :: H, h, e, he, ds, hd => by
    simp only [heapRes, Bool.and_eq_true] at h
    rcases List.mem_cons.1 he with rfl | he
    · cases hd; exact h.1
    · exact heapRes_mem h.2 e he ds hd
  | (i, .row t xs) :: H, h, e, he, ds, hd => by
    rcases List.mem_cons.1 he with rfl | he
    · cases hd
    · exact heapRes_mem (H := H) h e he ds hd
  | (i, .brow xs) :: H, h, e, he, ds, hd => by
    rcases List.mem_cons.1 he with rfl | he
    · cases hd
    · exact heapRes_mem (H := H) h e he ds hd
theorem rblk_res {ρ : Rho} {h : Hf} {M M' : Nat → Prop} {id : Nat} {B : Blk} {L} (hB : ∀ cs, B = .var cs → compsRes cs = true) (hr : RBlk ρ h M id B L) : RBlk ρ h M' id B L := by
  cases B with
  | var cs =>
    obtain ⟨b, k, c, T, F, h1, h2, h3, e⟩ := hr
    exact ⟨b, k, c, T, F, h1, h2, rcomps_res (hB cs rfl) h3, e⟩
  | row t xs => exact hr
  | brow xs => exact hr

section
variable {P : Program} {Γ : Ctx} {n : Sz} {Q : Exit → Act → World → Prop} {fr : Fr} {H Hc : Hp} {all : Array Oper} {ops : List Oper} {ty : TypeId} {pos : String} {aft : Array Edge}

def Ads (H H' : Hp) (σ : Nat → Nat) : List AV → List AV → Prop
  | [], [] => True
  | x :: xs, y :: ys => Ad H H' σ x y ∧ Ads H H' σ xs ys
  | _, _ => False
theorem ads_ok {σ : Nat → Nat} {ρ : Rho} {h : Hf} {ℓ : Nat → List Nat} (hk : HeapOK ρ h H ℓ) (hm : ∀ b, ownB (ρ.map σ) Hc b → ownB ρ H b) (hd : ∀ e ∈ H, (∀ e' ∈ Hc, σ e'.1 ≠ e.1) → ∀ b, b ∈ ℓ e.1 → ¬ ownB (ρ.map σ) Hc b) :
    ∀ {xs ys : List AV} {vs}, Ads H Hc σ xs ys → RAs ρ h (ownB ρ H) xs vs → RAs (ρ.map σ) h (ownB (ρ.map σ) Hc) ys vs
  | [], [], _, _, hr => hr
  | x :: xs, y :: ys, _, ha, hr => by
    obtain ⟨v, vs', e, h1, h2⟩ := hr
    exact ⟨v, vs', e, ha.1 ρ h ℓ hk hm hd v h1, ads_ok hk hm hd ha.2 h2⟩
  | [], _ :: _, _, ha, _ => ha.elim
  | _ :: _, [], _, ha, _ => ha.elim

/-- what a call comes to in the caller's state -/
theorem call_core [hLS : LaidS P Γ] {f : FuncId} {ys : List AV} {R : AV → Hp → Prop} (hc : ACallsV P f ys Hc R) (l : List Nat) (base : Nat) {ρ : Rho} {w : World} {a : Act} {vs : List Value} (s : SIM Γ n ρ w a fr H) {N' : Nat → Prop} {ℓ : Nat → List Nat}
    (hk : HeapOK ρ (World.hf w) H ℓ) (hb : ∀ e ∈ H, ∀ b ∈ ℓ e.1, Γ.L0 b ∨ Γ.W0.heap.size ≤ b)
    (hx' : RAs ⟨fun i => ρ (sg l base i), N'⟩ (World.hf w) (ownB ⟨fun i => ρ (sg l base i), N'⟩ Hc) ys vs) (hk' : HeapOK ⟨fun i => ρ (sg l base i), N'⟩ (World.hf w) Hc (fun i => ℓ (sg l base i)))
    (hN' : ∀ b, N' b → ¬ inL (fun i => ℓ (sg l base i)) Hc b ∧ b < w.heap.size) (hm : ∀ b, namB (ρ.map (sg l base)) Hc b → namB ρ H b) (hd : ∀ e ∈ H, (∀ e' ∈ Hc, sg l base e'.1 ≠ e.1) → ∀ b, b ∈ ℓ e.1 → ¬ namB (ρ.map (sg l base)) Hc b)
    (hV : (∀ r H', R r H' → r.res = true ∧ heapRes H' = true) ∨ ∀ b, N' b ↔ ownB ρ (hdel l H) b)
    (hS : SubH H Hc (sg l base) Hc) (hks : hkeys Hc = List.range l.length) (hl : allLt base l = true) (hln : injB (fun i => i) l = true)
    (hfr : allLt base (Fr.ids fr) = true) (hH : allLt base (Hp.ids H) = true) (hK : Nat.ble n.K base = true) :
    Calls P f vs.toArray w (fun e w' => ∃ v r H' ρ', e = .returned v ∧ R r H' ∧ SIM Γ n ρ' w' a fr (hdel l H ++ hren (sg l base) H') ∧ RA ρ' (World.hf w') (ownB ρ' (hdel l H ++ hren (sg l base) H')) (r.ren (sg l base)) v ∧ (l = [] → Grew ρ ρ' w w' H (hdel l H ++ hren (sg l base) H'))) := by
  have hlt := allLt_lt hl
  have hnod : l.Nodup := by simpa using injB_nodup hln
  have hinj : ∀ {i j : Nat}, sg l base i = sg l base j → i = j := sg_inj hnod hlt
  refine (hc ⟨fun i => ρ (sg l base i), N'⟩ w vs _ hx' hk' hN' (hLS.laid.ext s.ext (fun b hb => s.own b (hm b hb)))).mono ?_
  rintro e w' ⟨v, r, H', ρc, ℓc, rfl, p⟩
  -- the callee's keys
  have hkey : ∀ j, j < l.length → ∃ e ∈ Hc, e.1 = j := by
    intro j hj
    have : j ∈ hkeys Hc := by rw [hks]; simpa using hj
    rw [hkeys_eq] at this
    obtain ⟨e, he, e1⟩ := List.mem_map.1 this
    exact ⟨e, he, e1⟩
  have hkeyc : ∀ e ∈ Hc, e.1 < l.length := by
    intro e he
    have : e.1 ∈ hkeys Hc := by rw [hkeys_eq]; exact List.mem_map_of_mem he
    rw [hks] at this; simpa using this
  let ρ' : Rho := ⟨fun i => if i < base then ρ i else ρc (i - base + l.length), ρ.N⟩
  have hρlt : ∀ i, i < base → ρ' i = ρ i := fun i hi => by simp [ρ', hi]
  have hρσ : ∀ j, ρ' (sg l base j) = ρc j := by
    intro j
    rcases Nat.lt_or_ge j l.length with hj | hj
    · rw [hρlt _ (hlt _ (sg_lt hj))]
      obtain ⟨e, he, rfl⟩ := hkey j hj
      exact (p.keep e he).symm
    · rw [sg_ge hj]
      have : ¬ base + (j - l.length) < base := by omega
      simp only [ρ', this, if_false]
      congr 1; omega
  have hρσ' : ∀ i, (ρ'.map (sg l base)) i = ρc i := hρσ
  have hσl : ∀ j, j < l.length ∨ base ≤ sg l base j := fun j => by
    rcases Nat.lt_or_ge j l.length with hj | hj
    · exact .inl hj
    · rw [sg_ge hj]; exact .inr (by omega)
  have hold : ∀ e ∈ H, e.1 < base := fun e he => allLt_lt hH _ (hids_head he)
  have hℓlt : ∀ e ∈ H, ∀ b ∈ ℓ e.1, b < w.heap.size := fun e he b h => hf_lt (hk.there he b h)
  -- who owns what
  have hown1 : ∀ b, namB ρ' (hdel l H ++ hren (sg l base) H') b → namB ρ (hdel l H) b ∨ namB ρc H' b := by
    rintro b ⟨e, he, k, hk⟩
    rcases List.mem_append.1 he with he | he
    · have := (mem_hdel.1 he).1
      exact .inl ⟨e, he, k, by rw [← hρlt _ (hold e this)]; exact hk⟩
    · obtain ⟨e', he', rfl⟩ := mem_hren.1 he
      exact .inr ⟨e', he', k, by rw [← hρσ]; exact hk⟩
  have hdelH : ∀ b, namB ρ (hdel l H) b → namB ρ H b := fun b ⟨e, he, k, hk⟩ => ⟨e, (mem_hdel.1 he).1, k, hk⟩
  have hown2 : ∀ b, namB ρ' (hdel l H ++ hren (sg l base) H') b → namB ρ H b ∨ w.heap.size ≤ b := fun b h => by
    rcases hown1 b h with h | h
    · exact .inl (hdelH b h)
    · rcases p.own b h with h | h
      · exact .inl (hm b h)
      · exact .inr h
  have hsame : ∀ b, ¬ namB (ρ.map (sg l base)) Hc b → World.hf w b ≠ none → World.hf w' b = World.hf w b := fun b hb hb' => p.ext.block b (hf_lt hb') hb
  have hM : ∀ b, ¬ ownB ρ H b → World.hf w b ≠ none → World.hf w' b = World.hf w b ∧ ¬ ownB ρ' (hdel l H ++ hren (sg l base) H') b := fun b hb hb' =>
    ⟨hsame b (fun h => hb (.inl (hm b h))) hb', fun h => by
      rcases h with h | h
      · rcases hown2 b h with h | h
        · exact hb (.inl h)
        · have := hf_lt hb'; omega
      · exact hb (.inr h)⟩
  have hMV : (∀ b, N' b ↔ ownB ρ (hdel l H) b) → ∀ b, ownB ρ' (hdel l H ++ hren (sg l base) H') b → ownB ρc H' b := fun hV b h => by
    have hn : ρc.N = N' := p.nn
    rcases h with h | h
    · rcases hown1 b h with h | h
      · exact .inr (by rw [hn]; exact (hV b).2 (.inl h))
      · exact .inl h
    · exact .inr (by rw [hn]; exact (hV b).2 (.inr h))
  have hdb : ∀ e ∈ hdel l H, ∀ b ∈ ℓ e.1, ¬ namB (ρ.map (sg l base)) Hc b := by
    intro e he b hb'
    obtain ⟨h1, h2⟩ := mem_hdel.1 he
    refine hd e h1 ?_ b hb'
    intro e' he' heq
    exact h2 (heq ▸ sg_lt (hkeyc e' he'))
  have hsz : Γ.W0.heap.size ≤ w.heap.size := s.ext.size
  -- blocks of the entries
  let ℓ' : Nat → List Nat := fun i => if i < base then (if i ∈ l then ℓc (l.idxOf i) else ℓ i) else ℓc (i - base + l.length)
  have hℓold : ∀ e ∈ hdel l H, ℓ' e.1 = ℓ e.1 := by
    intro e he
    obtain ⟨h1, h2⟩ := mem_hdel.1 he
    simp [ℓ', hold e h1, h2]
  have hidx : ∀ j, j < l.length → l.idxOf (sg l base j) = j := by
    intro j hj
    have h1 : ∀ (m : List Nat) (b j : Nat), m.Nodup → j < m.length → m.idxOf (sg m b j) = j := by
      intro m
      induction m with
      | nil => intro b j _ h; simp at h
      | cons x m ih =>
        intro b j hm h
        cases j with
        | zero => simp [sg]
        | succ j =>
          have hne : sg m b j ≠ x := fun e => (List.nodup_cons.1 hm).1 (e ▸ sg_lt (by simpa using h))
          simp only [sg, List.idxOf_cons]
          have hb : (x == sg m b j) = false := by simpa using fun e => hne e.symm
          rw [hb]
          simp [ih b j (List.nodup_cons.1 hm).2 (by simpa using h)]
    exact h1 l base j hnod hj
  have hℓnew : ∀ j, ℓ' (sg l base j) = ℓc j := by
    intro j
    rcases Nat.lt_or_ge j l.length with hj | hj
    · have h1 := sg_lt (base := base) hj
      simp only [ℓ', hlt _ h1, h1, if_true, hidx j hj]
    · rw [sg_ge hj]
      have : ¬ base + (j - l.length) < base := by omega
      simp only [ℓ', this, if_false]
      congr 1; omega
  have hcross : ∀ e ∈ hdel l H, ∀ e' ∈ H', ∀ b, b ∈ ℓ e.1 → b ∉ ℓc e'.1 := by
    intro e he e' he' b hb1 hb2
    obtain ⟨h1, h2⟩ := mem_hdel.1 he
    rcases p.old b ⟨e', he', hb2⟩ with ⟨c, hc', hbc⟩ | h
    · obtain ⟨A, hA, _⟩ := subH_mem hS hc'
      exact hk.dj _ (hget_mem hA) e h1 (fun h => h2 (h ▸ sg_lt (hkeyc c hc'))) b hbc hb1
    · have := hℓlt e h1 b hb1; omega
  have hgrew : l = [] → Grew ρ ρ' w w' H (hdel l H ++ hren (sg l base) H') := by
    intro hl0
    have hnc : ∀ b, ¬ namB (ρ.map (sg l base)) Hc b := by
      rintro b ⟨e, he, _⟩
      have := hkeyc e he
      rw [hl0] at this; simp at this
    refine ⟨p.ext.os, p.ext.tape, p.ext.output, p.ext.size, fun b hb _ => p.ext.block b hb (hnc b), fun e' he' b k hb => ?_⟩
    rcases List.mem_append.1 he' with he' | he'
    · have h1 := (mem_hdel.1 he').1
      exact .inl ⟨e', h1, rfl, by rw [← hρlt _ (hold e' h1)]; exact hb⟩
    · obtain ⟨e, he, rfl⟩ := mem_hren.1 he'
      rcases p.own b ⟨e, he, k, by rw [← hρσ]; exact hb⟩ with h | h
      · exact absurd h (hnc b)
      · exact .inr (.inr h)
  refine ⟨v, r, H', ρ', rfl, p.post, ⟨s.defers, s.size, ?_, ?_, ?_, ⟨ℓ', ⟨?_, ?_, ?_, ?_⟩, ?_⟩, ?_⟩, ?_, hgrew⟩
  · refine ⟨p.ext.os.trans s.ext.os, p.ext.tape.trans s.ext.tape, p.ext.output.trans s.ext.output, Nat.le_trans hsz p.ext.size, fun k hk' hM0 => ?_⟩
    rw [p.ext.block k (by omega) (fun ho => by rcases s.own k (hm k ho) with h1 | h1; · exact hM0 h1
                                               · omega)]
    exact s.ext.block k hk' hM0
  · intro i hi
    have : i < base := by have := Nat.le_of_ble_eq_true hK; omega
    rw [hρlt i this]; exact s.keep i hi
  · intro b hb'
    rcases hown2 b hb' with h | h
    · exact s.own b h
    · exact .inr (by omega)
  · intro e he
    rcases List.mem_append.1 he with he | he
    · rw [hℓold e he]
      obtain ⟨h1, h2⟩ := mem_hdel.1 he
      exact (hk.blk e h1).same (fun i hi => hρlt i (allLt_lt hH i (mem_hids h1 hi))) hM (fun b hb' => hsame b (hdb e he b hb') (hk.there h1 b hb'))
    · obtain ⟨e', he', rfl⟩ := mem_hren.1 he
      rw [hℓnew]
      refine (rblk_ren e'.2 _).2 ?_
      have h0 := p.heap.blk e' he'
      rcases hV with hV | hV
      · exact (rblk_res (heapRes_mem (hV _ _ p.post).2 e' he') h0).same (fun i _ => hρσ' i) (fun b hb _ => ⟨rfl, hb⟩) (fun _ _ => rfl)
      · exact h0.same (fun i _ => hρσ' i) (fun b hb _ => ⟨rfl, fun h => hb (hMV hV b h)⟩) (fun _ _ => rfl)
  · intro e he
    rcases List.mem_append.1 he with he | he
    · rw [hℓold e he]; exact hk.nd e (mem_hdel.1 he).1
    · obtain ⟨e', he', rfl⟩ := mem_hren.1 he
      rw [hℓnew]; exact p.heap.nd e' he'
  · intro e he e' he' hne b hb1
    rcases List.mem_append.1 he with he | he <;> rcases List.mem_append.1 he' with he' | he'
    · rw [hℓold e he] at hb1; rw [hℓold e' he']
      exact hk.dj e (mem_hdel.1 he).1 e' (mem_hdel.1 he').1 hne b hb1
    · obtain ⟨c, hc', rfl⟩ := mem_hren.1 he'
      rw [hℓold e he] at hb1; rw [hℓnew]
      exact hcross e he c hc' b hb1
    · obtain ⟨c, hc', rfl⟩ := mem_hren.1 he
      rw [hℓnew] at hb1; rw [hℓold e' he']
      exact fun h => hcross e' he' c hc' b h hb1
    · obtain ⟨c, hc', rfl⟩ := mem_hren.1 he
      obtain ⟨c', hc'', rfl⟩ := mem_hren.1 he'
      rw [hℓnew] at hb1; rw [hℓnew]
      exact p.heap.dj c hc' c' hc'' (fun h => hne (by simp [h])) b hb1
  · rw [List.map_append, List.nodup_append]
    refine ⟨hdel_keys hk.ids, ?_, ?_⟩
    · have h1 : ∀ G : Hp, (G.map (·.1)).Nodup → ((hren (sg l base) G).map (·.1)).Nodup := by
        intro G
        induction G with
        | nil => intro _; exact List.nodup_nil
        | cons e G ih =>
          intro hG
          simp only [List.map_cons, List.nodup_cons] at hG
          simp only [hren, List.map_cons, List.nodup_cons]
          refine ⟨fun hh => hG.1 ?_, ih hG.2⟩
          obtain ⟨x, hx', ex⟩ := List.mem_map.1 hh
          obtain ⟨y, hy, rfl⟩ := mem_hren.1 hx'
          exact List.mem_map.2 ⟨y, hy, hinj ex⟩
      exact h1 H' p.heap.ids
    · intro x hx' y hy exy
      subst exy
      obtain ⟨e, he, rfl⟩ := List.mem_map.1 hx'
      obtain ⟨e', he', e1⟩ := List.mem_map.1 hy
      obtain ⟨c, hc', rfl⟩ := mem_hren.1 he'
      obtain ⟨h1, h2⟩ := mem_hdel.1 he
      rcases hσl c.1 with h | h
      · exact h2 (e1 ▸ sg_lt h)
      · have := hold e h1; simp only at e1; omega
  · intro e he b hb'
    rcases List.mem_append.1 he with he | he
    · rw [hℓold e he] at hb'; exact hb e (mem_hdel.1 he).1 b hb'
    · obtain ⟨c, hc', rfl⟩ := mem_hren.1 he
      rw [hℓnew] at hb'
      rcases p.old b ⟨c, hc', hb'⟩ with ⟨c', hc'', hbc⟩ | h
      · obtain ⟨A, hA, _⟩ := subH_mem hS hc''
        exact hb _ (hget_mem hA) b hbc
      · exact .inr (by omega)
  · intro t x hx'
    obtain ⟨h1, h2⟩ := s.fr t x hx'
    exact ⟨h1, h2.same x (fun i hi => hρlt i (allLt_lt hfr i (get_ids hx' i hi))) hM⟩
  · refine (ra_ren r v).2 ?_
    have h0 := p.ra
    rcases hV with hV | hV
    · exact (ra_res r (hV _ _ p.post).1 h0).same r (fun i _ => hρσ' i) (fun b hb _ => ⟨rfl, hb⟩)
    · exact h0.same r (fun i _ => hρσ' i) (fun b hb _ => ⟨rfl, fun h => hb (hMV hV b h)⟩)


theorem cinj_of {l : List Nat} {base : Nat} {Hc : Hp} (hks : hkeys Hc = List.range l.length) (hl : allLt base l = true) (hln : injB (fun i => i) l = true) : injB (sg l base) (hkeys Hc) = true := by
  have hlt := allLt_lt hl
  have hnod : l.Nodup := by simpa using injB_nodup hln
  have hinj : ∀ {i j : Nat}, sg l base i = sg l base j → i = j := sg_inj hnod hlt
  rw [hks]
  have : ∀ m : List Nat, m.Nodup → injB (sg l base) m = true := by
    intro m
    induction m with
    | nil => intro _; rfl
    | cons i m ih =>
      intro hm
      simp only [injB, Bool.and_eq_true, Bool.not_eq_true']
      refine ⟨?_, ih (List.nodup_cons.1 hm).2⟩
      cases e : memB (sg l base i) (m.map (sg l base)) with
      | false => rfl
      | true =>
        obtain ⟨j, hj, e'⟩ := List.mem_map.1 (memB_true e)
        rw [hinj e'] at hj
        exact absurd hj (List.nodup_cons.1 hm).1
  exact this _ List.nodup_range
theorem call_sim [LaidS P Γ] {f : FuncId} {ys : List AV} {R : AV → Hp → Prop} (hc : ACalls P f ys Hc R) (l : List Nat) (base : Nat) {xs : List AV} {ρ : Rho} {w : World} {a : Act} {vs : List Value} (s : SIM Γ n ρ w a fr H)
    (hx : RAs ρ (World.hf w) (ownB ρ H) xs vs) (hA : Ads H Hc (sg l base) xs ys) (hS : SubH H Hc (sg l base) Hc) (hks : hkeys Hc = List.range l.length) (hl : allLt base l = true) (hln : injB (fun i => i) l = true)
    (hfr : allLt base (Fr.ids fr) = true) (hH : allLt base (Hp.ids H) = true) (hK : Nat.ble n.K base = true) :
    Calls P f vs.toArray w (fun e w' => ∃ v r H' ρ', e = .returned v ∧ R r H' ∧ SIM Γ n ρ' w' a fr (hdel l H ++ hren (sg l base) H') ∧ RA ρ' (World.hf w') (ownB ρ' (hdel l H ++ hren (sg l base) H')) (r.ren (sg l base)) v ∧ (l = [] → Grew ρ ρ' w w' H (hdel l H ++ hren (sg l base) H'))) := by
  obtain ⟨ℓ, hk, hb⟩ := s.heap
  obtain ⟨hm0, hm, hd, hk'⟩ := heap_sub hk (s.apart hb) hS (cinj_of hks hl hln)
  refine (call_core (N' := ρ.N) hc l base s hk hb (ads_ok hk hm hd hA hx) hk' (fun b hn => ⟨fun ⟨e, he, h⟩ => ?_, ?_⟩) hm0 (fun e he hne b hb' h => hd e he hne b hb' (.inl h)) (.inl fun r H' h => h.2) hS hks hl hln hfr hH hK).mono ?_
  · obtain ⟨A, hA', _⟩ := subH_mem hS he
    exact s.apart hb b hn ⟨_, hget_mem hA', h⟩
  · rw [s.defers.2.1] at hn
    exact Nat.lt_of_lt_of_le (s.defers.2.2 b hn).2 s.ext.size
  · rintro e w' ⟨v, r, H', ρ', h1, h2, h3⟩
    exact ⟨v, r, H', ρ', h1, h2.1, h3⟩
/-- blocks handed over as they are -/
def SubHR (H : Hp) (σ : Nat → Nat) : Hp → Prop
  | [] => True
  | (i, B) :: l => hget H (σ i) = some (B.ren σ) ∧ SubHR H σ l
theorem subHR_mem {σ : Nat → Nat} : ∀ {l : Hp} {e}, SubHR H σ l → e ∈ l → hget H (σ e.1) = some (e.2.ren σ)
  | (i, B) :: l, e, h, he => by
    rcases List.mem_cons.1 he with rfl | he
    · exact h.1
    · exact subHR_mem h.2 he
theorem call_simV [LaidS P Γ] {f : FuncId} {ys : List AV} {R : AV → Hp → Prop} (hc : ACallsV P f ys Hc R) (l : List Nat) (base : Nat) {xs : List AV} {ρ : Rho} {w : World} {a : Act} {vs : List Value} (s : SIM Γ n ρ w a fr H)
    (hx : RAs ρ (World.hf w) (ownB ρ H) xs vs) (hA : xs = AV.renL (sg l base) ys) (hR : SubHR H (sg l base) Hc) (hS : SubH H Hc (sg l base) Hc) (hks : hkeys Hc = List.range l.length) (hl : allLt base l = true) (hln : injB (fun i => i) l = true)
    (hfr : allLt base (Fr.ids fr) = true) (hH : allLt base (Hp.ids H) = true) (hK : Nat.ble n.K base = true) :
    Calls P f vs.toArray w (fun e w' => ∃ v r H' ρ', e = .returned v ∧ R r H' ∧ SIM Γ n ρ' w' a fr (hdel l H ++ hren (sg l base) H') ∧ RA ρ' (World.hf w') (ownB ρ' (hdel l H ++ hren (sg l base) H')) (r.ren (sg l base)) v ∧ (l = [] → Grew ρ ρ' w w' H (hdel l H ++ hren (sg l base) H'))) := by
  obtain ⟨ℓ, hk, hb⟩ := s.heap
  obtain ⟨hm0, hm, hd, hk'⟩ := heap_sub hk (s.apart hb) hS (cinj_of hks hl hln)
  have hkeyc : ∀ e ∈ Hc, e.1 < l.length := by
    intro e he
    have : e.1 ∈ hkeys Hc := by rw [hkeys_eq]; exact List.mem_map_of_mem he
    rw [hks] at this; simpa using this
  have hdelH : ∀ b, ownB ρ (hdel l H) b → ownB ρ H b := fun b h => h.imp (fun ⟨e, he, k, hk⟩ => ⟨e, (mem_hdel.1 he).1, k, hk⟩) (fun h => h)
  have hm1 : ∀ b, ownB ⟨fun i => ρ (sg l base i), fun b => ownB ρ (hdel l H) b⟩ Hc b → ownB ρ H b := fun b h => by
    rcases h with h | h
    · exact .inl (hm0 b h)
    · exact hdelH b h
  subst hA
  refine call_core (N' := fun b => ownB ρ (hdel l H) b) hc l base s hk hb ?_ ⟨fun e he => ?_, hk'.nd, hk'.dj, hk'.ids⟩ (fun b hn => ?_) hm0 (fun e he hne b hb' h => hd e he hne b hb' (.inl h)) (.inr fun b => Iff.rfl) hS hks hl hln hfr hH hK
  · exact RAs.same ys ((ras_ren ys vs).1 hx) (fun _ _ => rfl) (fun b hb _ => ⟨rfl, fun h => hb (hm1 b h)⟩)
  · have h0 := hk.get (subHR_mem hR he)
    exact ((rblk_ren e.2 _).1 h0).same (fun _ _ => rfl) (fun b hb _ => ⟨rfl, fun h => hb (hm1 b h)⟩) (fun _ _ => rfl)
  · rcases hn with ⟨e, he, k, hk1⟩ | hn
    · have he1 := (mem_hdel.1 he).1
      have hbe := hk.own_mem e he1 b k hk1
      refine ⟨fun ⟨e', he', h⟩ => ?_, hf_lt (hk.there he1 b hbe)⟩
      obtain ⟨A, hA', _⟩ := subH_mem hS he'
      exact hk.dj e he1 _ (hget_mem hA') (fun hh => (mem_hdel.1 he).2 (hh ▸ sg_lt (hkeyc e' he'))) b hbe h
    · refine ⟨fun ⟨e, he, h⟩ => ?_, ?_⟩
      · obtain ⟨A, hA', _⟩ := subH_mem hS he
        exact s.apart hb b hn ⟨_, hget_mem hA', h⟩
      · rw [s.defers.2.1] at hn
        exact Nat.lt_of_lt_of_le (s.defers.2.2 b hn).2 s.ext.size

theorem evOs_append {as bs : List AV} {ρ : Rho} {h : Hf} {M : Nat → Prop} : ∀ {vs ws : List Value}, RAs ρ h M as vs → RAs ρ h M bs ws → RAs ρ h M (as ++ bs) (vs ++ ws) := by
  induction as with
  | nil => intro vs ws h1 h2; simp only [RAs] at h1; subst h1; exact h2
  | cons x xs ih =>
    intro vs ws h1 h2
    obtain ⟨v, vs', e, h3, h4⟩ := h1
    subst e
    exact ⟨v, _, rfl, h3, ih h4 h2⟩

/-- the run of a call of a function value -/
theorem run_callv {ev : Operand → Value} {o : Oper} {fo : Operand} {as : List Operand} {tys : Array TypeId} {f : FuncId} {cv : List Value} {fn : Func} (ho : o.op = .call ⟨.value fo, as.toArray, tys⟩) (hev : ev fo = .func (.func f) #[] cv.toArray)
    (hf : P.funcs[f]? = some fn) (hbody : fn.body.isNone = false) (hname : (fn.name == "runtime.NumGoroutine") = false) (w : World) :
    (execOp ev o).run P w = .ok (.enter f (as.map ev ++ cv).toArray) w := by
  have h1 : fn.name ≠ "runtime.NumGoroutine" := by simpa using hname
  have h2 : fn.body ≠ none := by intro h; rw [h] at hbody; cases hbody
  simp [execOp, ho, resolve, hev, Deferred.ofValue, invoke, callFunc, hf, h1, h2, Sem.run]

theorem ao_call [LaidS P Γ] {g : Option (Nat × Bool)} {d : Nat} {f : FuncId} {fn : Func} {fo : Operand} {as : List Operand} {tys : Array TypeId} {caps xs ys : List AV} {R : AV → Hp → Prop} (l : List Nat) (base : Nat) (hg : gOK all fr g) (hc : ACalls P f ys Hc R)
    (hf : P.funcs[f]? = some fn) (hbody : fn.body.isNone = false) (hname : (fn.name == "runtime.NumGoroutine") = false)
    (hfo : evO fr fo = some (.fn f caps)) (hxs : evOs fr as = some xs) (hA : Ads H Hc (sg l base) (xs ++ caps) ys) (hS : SubH H Hc (sg l base) Hc) (hks : hkeys Hc = List.range l.length) (hl : allLt base l = true) (hln : injB (fun i => i) l = true)
    (hfr : allLt base (Fr.ids fr) = true) (hH : allLt base (Hp.ids H) = true) (hK : Nat.ble n.K base = true) (hd : Nat.blt d n.n = true)
    (h : ∀ r H', R r H' → AO P Γ n all Q ops ((d, r.ren (sg l base)) :: fr) (hdel l H ++ hren (sg l base) H')) :
    AO P Γ n all Q (⟨some d, .call ⟨.value fo, as.toArray, tys⟩, ty, pos, aft, g⟩ :: ops) fr H := fun ρ w a s => by
  obtain ⟨cv, hcv, hcaps⟩ := s.ev hfo
  refine wpList_go (s.wanted hg) fun K hK' => ?_
  unfold Oper.wp
  rw [run_callv rfl hcv hf hbody hname, Oper.upon_enter]
  refine (call_sim hc l base s (evOs_append (evOs_ok (fun o y h => s.ev h) hxs) hcaps) hA hS hks hl hln hfr hH hK).mono ?_
  rintro e w' ⟨v, r, H', ρ', rfl, hR, s', hv, _⟩
  exact hK' _ _ (h r H' hR ρ' w' _ (s'.put hd hv))

end
end Go.GA
end
