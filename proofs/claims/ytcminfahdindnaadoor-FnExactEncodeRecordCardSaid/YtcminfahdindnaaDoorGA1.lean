/- The abstract states of a walk: typed data, blocks of the call's own, and how they stand to a world of the model. -/
import Derived.Calls
import Derived.Below
import Derived.Tactics
import Derived.Deep.Quiet
import Derived.Lib.LaidTab
import Derived.Lib.ItoaNum
namespace Go.GA
open Go Go.RowKit

/-! ### Types of plain data -/
inductive Ty where
  | bool | int (k : IntKind) | str | arr (n : Nat) (t : Ty) | slice (t : Ty) | unit | pair (a b : Ty)

def Ty.D : Ty → Type
  | .bool => Bool
  | .int _ => Int
  | .str => ByteArray
  | .arr _ t => List t.D
  | .slice t => List t.D
  | .unit => Unit
  | .pair a b => a.D × b.D

def Ty.sz : Ty → Nat
  | .bool => 1
  | .int _ => 1
  | .str => 1
  | .slice _ => 1
  | .arr n t => n * t.sz
  | .unit => 0
  | .pair a b => a.sz + b.sz

def Ty.agg : Ty → Bool
  | .arr _ _ => true
  | .unit => true
  | .pair _ _ => true
  | _ => false

/-- no memory behind it -/
def Ty.flat : Ty → Bool
  | .slice _ => false
  | .arr _ t => t.flat
  | .pair a b => a.flat && b.flat
  | _ => true

def Ty.dflt : (t : Ty) → t.D
  | .bool => false
  | .int _ => (0 : Int)
  | .str => ByteArray.empty
  | .arr n t => List.replicate n t.dflt
  | .slice _ => []
  | .unit => ()
  | .pair a b => (a.dflt, b.dflt)

abbrev Hf := Nat → Option Obj
def World.hf (w : World) : Hf := fun b => w.heap[b]?

/-- the most elements of a slice: what is made stays below, what came in is at most this -/
def lim : Nat := 9223372036854775807

def RelL {α : Type} (R : α → List Value → List Nat → Prop) : List α → List Value → List Nat → Prop
  | [], cs, F => cs = [] ∧ F = []
  | x :: xs, cs, F => ∃ c1 c2 F1 F2, cs = c1 ++ c2 ∧ F = F1 ++ F2 ∧ R x c1 F1 ∧ RelL R xs c2 F2

/-- the cells that hold x, and the blocks behind them -/
def Rc (h : Hf) : (t : Ty) → t.D → List Value → List Nat → Prop
  | .bool, x, cs, F => cs = [.bool x] ∧ F = []
  | .int k, x, cs, F => cs = [.int k x] ∧ F = []
  | .str, x, cs, F => cs = [.string x] ∧ F = []
  | .arr n t, xs, cs, F => List.length (α := t.D) xs = n ∧ RelL (Rc h t) xs cs F
  | .slice t, xs, cs, F => List.length (α := t.D) xs ≤ lim ∧
      ((xs = ([] : List t.D) ∧ F = [] ∧ ∃ a cap, cs = [.slice a 0 cap]) ∨
       ∃ b off cap F', cs = [.slice (some ⟨b, off, none⟩) (List.length (α := t.D) xs) (List.length (α := t.D) xs + cap)] ∧ F = b :: F' ∧
         ∃ c T z pre mid post, h b = some (.cells c T z) ∧ c.toList = pre ++ (mid ++ post) ∧ pre.length = off ∧ RelL (Rc h t) xs mid F')
  | .unit, _, cs, F => cs = [] ∧ F = []
  | .pair a b, x, cs, F => ∃ c1 c2 F1 F2, cs = c1 ++ c2 ∧ F = F1 ++ F2 ∧ Rc h a x.1 c1 F1 ∧ Rc h b x.2 c2 F2

/-- the value that these cells are -/
def mkV (t : Ty) (cs : List Value) : Value := if t.agg then .agg cs.toArray else cs.headD undef

def Rv (h : Hf) (t : Ty) (x : t.D) (v : Value) (F : List Nat) : Prop := ∃ cs, Rc h t x cs F ∧ v = mkV t cs

/-! ### Laws of RelL and Rc -/
theorem RelL.mono {α : Type} {R R' : α → List Value → List Nat → Prop} : ∀ {xs : List α} {cs F}, (∀ x c F', (∀ b ∈ F', b ∈ F) → R x c F' → R' x c F') → RelL R xs cs F → RelL R' xs cs F
  | [], _, _, _, h => h
  | x :: xs, cs, F, hr, ⟨c1, c2, F1, F2, e1, e2, h1, h2⟩ =>
    ⟨c1, c2, F1, F2, e1, e2, hr _ _ _ (fun b hb => by rw [e2]; exact List.mem_append_left _ hb) h1,
      RelL.mono (fun x c F' hF => hr x c F' (fun b hb => by rw [e2]; exact List.mem_append_right _ (hF b hb))) h2⟩

theorem RelL.append {α : Type} {R : α → List Value → List Nat → Prop} : ∀ {xs ys : List α} {cs ds F G}, RelL R xs cs F → RelL R ys ds G → RelL R (xs ++ ys) (cs ++ ds) (F ++ G)
  | [], ys, cs, ds, F, G, ⟨e1, e2⟩, h => by subst e1; subst e2; simpa using h
  | x :: xs, ys, cs, ds, F, G, ⟨c1, c2, F1, F2, e1, e2, h1, h2⟩, h => by
    subst e1; subst e2
    exact ⟨c1, c2 ++ ds, F1, F2 ++ G, by simp, by simp, h1, RelL.append h2 h⟩

theorem RelL.split {α : Type} {R : α → List Value → List Nat → Prop} : ∀ {xs ys : List α} {cs F}, RelL R (xs ++ ys) cs F →
    ∃ c1 c2 F1 F2, cs = c1 ++ c2 ∧ F = F1 ++ F2 ∧ RelL R xs c1 F1 ∧ RelL R ys c2 F2
  | [], ys, cs, F, h => ⟨[], cs, [], F, rfl, rfl, ⟨rfl, rfl⟩, h⟩
  | x :: xs, ys, cs, F, ⟨c1, c2, F1, F2, e1, e2, h1, h2⟩ => by
    obtain ⟨d1, d2, G1, G2, e3, e4, h3, h4⟩ := RelL.split h2
    subst e1; subst e2; subst e3; subst e4
    exact ⟨c1 ++ d1, d2, F1 ++ G1, G2, by simp, by simp, ⟨c1, d1, F1, G1, rfl, rfl, h1, h3⟩, h4⟩

theorem RelL.len {α : Type} {R : α → List Value → List Nat → Prop} {s : Nat} (hs : ∀ x c F, R x c F → c.length = s) : ∀ {xs : List α} {cs F}, RelL R xs cs F → cs.length = xs.length * s
  | [], _, _, ⟨e, _⟩ => by subst e; simp
  | x :: xs, cs, F, ⟨c1, c2, F1, F2, e1, e2, h1, h2⟩ => by
    subst e1
    rw [List.length_append, hs _ _ _ h1, RelL.len hs h2, List.length_cons, Nat.succ_mul]; omega

theorem Rc.len {h : Hf} : ∀ (t : Ty) {x : t.D} {cs F}, Rc h t x cs F → cs.length = t.sz
  | .bool, _, _, _, hx => by obtain ⟨e, _⟩ := hx; subst e; rfl
  | .int _, _, _, _, hx => by obtain ⟨e, _⟩ := hx; subst e; rfl
  | .str, _, _, _, hx => by obtain ⟨e, _⟩ := hx; subst e; rfl
  | .arr n t, _, _, _, hx => by
    obtain ⟨e, h2⟩ := hx
    rw [RelL.len (fun x c F hc => Rc.len t hc) h2, e]; rfl
  | .slice t, _, _, _, hx => by
    obtain ⟨_, ⟨_, _, a, cap, e⟩ | ⟨b, off, cap, F', e, _⟩⟩ := hx <;> (subst e; rfl)
  | .unit, _, _, _, hx => by obtain ⟨e, _⟩ := hx; subst e; rfl
  | .pair a b, _, _, _, hx => by
    obtain ⟨c1, c2, F1, F2, e, _, h1, h2⟩ := hx
    subst e; rw [List.length_append, Rc.len a h1, Rc.len b h2]; rfl

/-- Only the blocks behind it matter. -/
theorem Rc.same {h h' : Hf} : ∀ (t : Ty) {x : t.D} {cs F}, Rc h t x cs F → (∀ b ∈ F, h' b = h b) → Rc h' t x cs F
  | .bool, _, _, _, hx, _ => hx
  | .int _, _, _, _, hx, _ => hx
  | .str, _, _, _, hx, _ => hx
  | .arr n t, _, _, _, hx, hh => ⟨hx.1, RelL.mono (fun x c F' hF hc => Rc.same t hc (fun b hb => hh b (hF b hb))) hx.2⟩
  | .slice t, _, _, _, hx, hh => by
    obtain ⟨hl, h1 | ⟨b, off, cap, F', e, eF, c, T, z, pre, mid, post, hb, hc, hp, hm⟩⟩ := hx
    · exact ⟨hl, .inl h1⟩
    · subst eF
      exact ⟨hl, .inr ⟨b, off, cap, F', e, rfl, c, T, z, pre, mid, post, by rw [hh b (by simp)]; exact hb, hc, hp,
        RelL.mono (fun x c F' hF hc => Rc.same t hc (fun b hb => hh b (List.mem_cons_of_mem _ (hF b hb)))) hm⟩⟩
  | .unit, _, _, _, hx, _ => hx
  | .pair a b, _, _, _, hx, hh => by
    obtain ⟨c1, c2, F1, F2, e, eF, h1, h2⟩ := hx
    subst eF
    exact ⟨c1, c2, F1, F2, e, rfl, Rc.same a h1 (fun b hb => hh b (List.mem_append_left _ hb)), Rc.same b h2 (fun b hb => hh b (List.mem_append_right _ hb))⟩

theorem Rv.same {h h' : Hf} {t : Ty} {x : t.D} {v F} (hx : Rv h t x v F) (hh : ∀ b ∈ F, h' b = h b) : Rv h' t x v F :=
  let ⟨cs, h1, e⟩ := hx; ⟨cs, h1.same t hh, e⟩

theorem RelL.flat {α : Type} {R : α → List Value → List Nat → Prop} (hf : ∀ x c F, R x c F → F = []) : ∀ {xs : List α} {cs F}, RelL R xs cs F → F = []
  | [], _, _, ⟨_, e⟩ => e
  | x :: xs, cs, F, ⟨c1, c2, F1, F2, e1, e2, h1, h2⟩ => by rw [e2, hf _ _ _ h1, RelL.flat hf h2]; rfl

theorem Rc.flat {h : Hf} : ∀ (t : Ty) {x : t.D} {cs F}, t.flat = true → Rc h t x cs F → F = []
  | .bool, _, _, _, _, hx => hx.2
  | .int _, _, _, _, _, hx => hx.2
  | .str, _, _, _, _, hx => hx.2
  | .arr n t, _, _, _, hf, hx => RelL.flat (fun x c F hc => Rc.flat t hf hc) hx.2
  | .slice t, _, _, _, hf, _ => by cases hf
  | .unit, _, _, _, _, hx => hx.2
  | .pair a b, _, _, _, hf, hx => by
    simp only [Ty.flat, Bool.and_eq_true] at hf
    obtain ⟨c1, c2, F1, F2, e, eF, h1, h2⟩ := hx
    rw [eF, Rc.flat a hf.1 h1, Rc.flat b hf.2 h2]; rfl

/-- blocks behind it are there -/
theorem RelL.mem {α : Type} {R : α → List Value → List Nat → Prop} {p : Nat → Prop} (hf : ∀ x c F, R x c F → ∀ b ∈ F, p b) : ∀ {xs : List α} {cs F}, RelL R xs cs F → ∀ b ∈ F, p b
  | [], _, _, ⟨_, e⟩, b, hb => by subst e; cases hb
  | x :: xs, cs, F, ⟨c1, c2, F1, F2, e1, e2, h1, h2⟩, b, hb => by
    subst e2
    rcases List.mem_append.1 hb with h | h
    · exact hf _ _ _ h1 b h
    · exact RelL.mem hf h2 b h

theorem Rc.there {h : Hf} : ∀ (t : Ty) {x : t.D} {cs F}, Rc h t x cs F → ∀ b ∈ F, h b ≠ none
  | .bool, _, _, _, hx, b, hb => by rw [hx.2] at hb; cases hb
  | .int _, _, _, _, hx, b, hb => by rw [hx.2] at hb; cases hb
  | .str, _, _, _, hx, b, hb => by rw [hx.2] at hb; cases hb
  | .arr n t, _, _, _, hx, b, hb => RelL.mem (fun x c F hc => Rc.there t hc) hx.2 b hb
  | .slice t, _, _, _, hx, b, hb => by
    obtain ⟨hl, ⟨_, e, _⟩ | ⟨b', off, cap, F', e, eF, c, T, z, pre, mid, post, hb', hc, hp, hm⟩⟩ := hx
    · subst e; cases hb
    · subst eF
      rcases List.mem_cons.1 hb with h | h
      · subst h; rw [hb']; simp
      · exact RelL.mem (fun x c F hc => Rc.there t hc) hm b h
  | .unit, _, _, _, hx, b, hb => by rw [hx.2] at hb; cases hb
  | .pair a b, _, _, _, hx, b', hb => by
    obtain ⟨c1, c2, F1, F2, e, eF, h1, h2⟩ := hx
    subst eF
    rcases List.mem_append.1 hb with h | h
    · exact Rc.there a h1 b' h
    · exact Rc.there b h2 b' h
/-! ### Abstract values -/
inductive AV where
  | int (k : IntKind) (n : Int)
  | bool (b : Bool)
  | str (s : ByteArray)
  /-- plain data: what lies behind it is not written while it is looked at -/
  | v (t : Ty) (x : t.D)
  /-- a pointer to memory that holds x and is not written -/
  | cptr (t : Ty) (x : t.D)
  /-- a pointer to a cell that holds x and is not written -/
  | cav (x : AV)
  /-- the address of cell 'off' of the own block 'id' -/
  | ref (id off : Nat)
  | elem (id off sz i : Nat)
  | elem2 (id off sz i sz2 j : Nat)
  /-- the slice that owns the row 'id' -/
  | os (id : Nat)
  /-- the elements l, l + 1, .. of an own array or row that lies from cell 'off' on -/
  | view (id off sz l len : Nat)
  | nilsl | nilp | nilf
  | fn (f : FuncId) (caps : List AV)
  | tup (xs : List AV)
  | st (xs : List AV)
  /-- x, if g -/
  | gd (g : Bool) (x : AV)
  | junk
  /-- the function that a range over a function hands over -/
  | yl (l : Nat)
  /-- the first m elements of the own row 'id', with its capacity -/
  | ov (id m : Nat)

mutual
def AV.ids : AV → List Nat
  | .ref id _ => [id]
  | .elem id _ _ _ => [id]
  | .elem2 id _ _ _ _ _ => [id]
  | .os id => [id]
  | .view id _ _ _ _ => [id]
  | .ov id _ => [id]
  | .fn _ caps => AV.idsL caps
  | .tup xs => AV.idsL xs
  | .st xs => AV.idsL xs
  | .gd _ x => x.ids
  | .cav x => x.ids
  | _ => []
def AV.idsL : List AV → List Nat
  | [] => []
  | x :: xs => x.ids ++ AV.idsL xs
end

/-- the value of one cell -/
def AV.one : AV → Bool
  | .int .. => true
  | .bool _ => true
  | .str _ => true
  | .v t _ => !t.agg
  | .cptr .. => true
  | .cav _ => true
  | .ref .. => true
  | .elem .. => true
  | .elem2 .. => true
  | .os .. => true
  | .view .. => true
  | .nilsl => true
  | .nilp => true
  | .nilf => true
  | .fn .. => true
  | .yl _ => true
  | .ov .. => true
  | _ => false

/-- own block 'id': its number, the capacity, the length (of a row) -/
structure Rho where
  f : Nat → Option (Nat × Nat × Nat)
  /-- blocks of the caller's that are left alone and that no data lies in -/
  N : Nat → Prop
instance : CoeFun Rho (fun _ => Nat → Option (Nat × Nat × Nat)) := ⟨Rho.f⟩

def cellsOf (vs : List Value) : List Value := vs.flatMap fun v => v.cells.toList

mutual
def RA (ρ : Rho) (h : Hf) (M : Nat → Prop) : AV → Value → Prop
  | .int k n, v => v = .int k n
  | .bool b, v => v = .bool b
  | .str s, v => v = .string s
  | .v t x, v => ∃ F, Rv h t x v F ∧ ∀ b ∈ F, ¬ M b
  | .cptr t x, v => ∃ b off F c T z pre mid post, v = .pointer (some ⟨b, off, none⟩) ∧ ¬ M b ∧ h b = some (.cells c T z) ∧ c.toList = pre ++ (mid ++ post) ∧ pre.length = off ∧
      Rc h t x mid F ∧ ∀ b ∈ F, ¬ M b
  | .ref id off, v => ∃ b k, ρ id = some (b, k) ∧ v = .pointer (some ⟨b, off, none⟩)
  | .elem id off sz i, v => ∃ b k, ρ id = some (b, k) ∧ v = .pointer (some ⟨b, off + i * sz, none⟩)
  | .elem2 id off sz i sz2 j, v => ∃ b k, ρ id = some (b, k) ∧ v = .pointer (some ⟨b, off + i * sz + j * sz2, none⟩)
  | .os id, v => (ρ id = none ∧ v = .slice none 0 0) ∨ ∃ b cap len, ρ id = some (b, cap, len) ∧ v = .slice (some ⟨b, 0, none⟩) len cap
  | .view id off sz l len, v => (len = 0 ∧ ∃ a cap, v = .slice a 0 cap) ∨ ∃ b k ex, ρ id = some (b, k) ∧ v = .slice (some ⟨b, off + l * sz, none⟩) len (len + ex)
  | .nilsl, v => v = .slice none 0 0
  | .nilp, v => v = .pointer none
  | .nilf, v => v = .nilFunc
  | .fn f caps, v => ∃ vs, v = .func (.func f) #[] vs.toArray ∧ RAs ρ h M caps vs
  | .tup xs, v => ∃ vs, v = .tuple vs.toArray ∧ RAs ρ h M xs vs
  | .st xs, v => ∃ vs, v = .agg (cellsOf vs).toArray ∧ RAs ρ h M xs vs
  | .gd g x, v => if g then RA ρ h M x v else v = undef
  | .cav x, v => ∃ b off c T z pre u post, v = .pointer (some ⟨b, off, none⟩) ∧ ¬ M b ∧ h b = some (.cells c T z) ∧ c.toList = pre ++ u :: post ∧ pre.length = off ∧ x.one = true ∧ RA ρ h M x u
  | .junk, _ => True
  | .yl l, v => v = .func (.yield l) #[] #[]
  | .ov id m, v => (m = 0 ∧ ρ id = none ∧ v = .slice none 0 0) ∨ ∃ b cap len, ρ id = some (b, cap, len) ∧ v = .slice (some ⟨b, 0, none⟩) m cap
def RAs (ρ : Rho) (h : Hf) (M : Nat → Prop) : List AV → List Value → Prop
  | [], vs => vs = []
  | x :: xs, vs => ∃ v vs', vs = v :: vs' ∧ RA ρ h M x v ∧ RAs ρ h M xs vs'
end

mutual
theorem RA.same {ρ ρ' : Rho} {h h' : Hf} {M M' : Nat → Prop} : ∀ (x : AV) {v : Value}, RA ρ h M x v → (∀ id ∈ x.ids, ρ' id = ρ id) →
    (∀ b, ¬ M b → h b ≠ none → h' b = h b ∧ ¬ M' b) → RA ρ' h' M' x v
  | .int .., _, hx, _, _ => hx
  | .bool _, _, hx, _, _ => hx
  | .str _, _, hx, _, _ => hx
  | .v t x, _, hx, _, hm => by
    obtain ⟨F, ⟨cs, h1, e⟩, hF⟩ := hx
    exact ⟨F, ⟨cs, h1.same t (fun b hb => (hm b (hF b hb) (h1.there t b hb)).1), e⟩, fun b hb => (hm b (hF b hb) (h1.there t b hb)).2⟩
  | .cptr t x, _, hx, _, hm => by
    obtain ⟨b, off, F, c, T, z, pre, mid, post, e, hb, hh, hc, hp, h1, hF⟩ := hx
    have h2 := hm b hb (by rw [hh]; simp)
    exact ⟨b, off, F, c, T, z, pre, mid, post, e, h2.2, by rw [h2.1]; exact hh, hc, hp, h1.same t (fun b hb => (hm b (hF b hb) (h1.there t b hb)).1),
      fun b hb => (hm b (hF b hb) (h1.there t b hb)).2⟩
  | .ref id off, _, hx, hi, _ => by
    obtain ⟨b, k, h1, e⟩ := hx
    exact ⟨b, k, by rw [hi id (by simp [AV.ids])]; exact h1, e⟩
  | .elem id off sz i, _, hx, hi, _ => by
    obtain ⟨b, k, h1, e⟩ := hx
    exact ⟨b, k, by rw [hi id (by simp [AV.ids])]; exact h1, e⟩
  | .elem2 id off sz i sz2 j, _, hx, hi, _ => by
    obtain ⟨b, k, h1, e⟩ := hx
    exact ⟨b, k, by rw [hi id (by simp [AV.ids])]; exact h1, e⟩
  | .os id, _, hx, hi, _ => by
    have := hi id (by simp [AV.ids])
    rcases hx with ⟨h1, h2⟩ | ⟨b, cap, len, h1, e⟩
    · exact .inl ⟨by rw [this]; exact h1, h2⟩
    · exact .inr ⟨b, cap, len, by rw [this]; exact h1, e⟩
  | .view id off sz l len, _, hx, hi, _ => by
    have := hi id (by simp [AV.ids])
    rcases hx with h1 | ⟨b, k, cap, h1, e⟩
    · exact .inl h1
    · exact .inr ⟨b, k, cap, by rw [this]; exact h1, e⟩
  | .nilsl, _, hx, _, _ => hx
  | .nilp, _, hx, _, _ => hx
  | .nilf, _, hx, _, _ => hx
  | .fn f caps, _, hx, hi, hm => by
    obtain ⟨vs, e, h1⟩ := hx
    exact ⟨vs, e, RAs.same caps h1 (fun id hid => hi id (by simpa [AV.ids] using hid)) hm⟩
  | .tup xs, _, hx, hi, hm => by
    obtain ⟨vs, e, h1⟩ := hx
    exact ⟨vs, e, RAs.same xs h1 (fun id hid => hi id (by simpa [AV.ids] using hid)) hm⟩
  | .st xs, _, hx, hi, hm => by
    obtain ⟨vs, e, h1⟩ := hx
    exact ⟨vs, e, RAs.same xs h1 (fun id hid => hi id (by simpa [AV.ids] using hid)) hm⟩
  | .cav x, _, hx, hi, hm => by
    obtain ⟨b, off, c, T, z, pre, u, post, e, hb, hh, hc, hp, h1, hu⟩ := hx
    have h2 := hm b hb (by rw [hh]; simp)
    exact ⟨b, off, c, T, z, pre, u, post, e, h2.2, by rw [h2.1]; exact hh, hc, hp, h1, RA.same x hu (fun id hid => hi id (by simpa [AV.ids] using hid)) hm⟩
  | .gd g x, _, hx, hi, hm => by
    cases g
    · exact hx
    · exact RA.same (v := _) x hx (fun id hid => hi id (by simpa [AV.ids] using hid)) hm
  | .junk, _, _, _, _ => trivial
  | .yl _, _, hx, _, _ => hx
  | .ov id m, _, hx, hi, _ => by
    have := hi id (by simp [AV.ids])
    rcases hx with ⟨h0, h1, h2⟩ | ⟨b, cap, len, h1, e⟩
    · exact .inl ⟨h0, by rw [this]; exact h1, h2⟩
    · exact .inr ⟨b, cap, len, by rw [this]; exact h1, e⟩
theorem RAs.same {ρ ρ' : Rho} {h h' : Hf} {M M' : Nat → Prop} : ∀ (xs : List AV) {vs : List Value}, RAs ρ h M xs vs → (∀ id ∈ AV.idsL xs, ρ' id = ρ id) →
    (∀ b, ¬ M b → h b ≠ none → h' b = h b ∧ ¬ M' b) → RAs ρ' h' M' xs vs
  | [], _, hx, _, _ => hx
  | x :: xs, _, hx, hi, hm => by
    obtain ⟨v, vs', e, h1, h2⟩ := hx
    exact ⟨v, vs', e, RA.same x h1 (fun id hid => hi id (by simp [AV.idsL, hid])) hm, RAs.same xs h2 (fun id hid => hi id (by simp [AV.idsL, hid])) hm⟩
end

/-! ### Own blocks -/
inductive Comp where
  | cell (a : AV)
  | arr (t : Ty) (n : Nat) (xs : List t.D)

inductive Blk where
  | var (cs : List Comp)
  | row (t : Ty) (xs : List t.D)

abbrev Hp := List (Nat × Blk)

def Comp.sz : Comp → Nat
  | .cell _ => 1
  | .arr t n _ => n * t.sz

def Comp.ids : Comp → List Nat
  | .cell a => a.ids
  | .arr .. => []

def Blk.ids : Blk → List Nat
  | .var cs => cs.flatMap Comp.ids
  | .row .. => []

def RComps (ρ : Rho) (h : Hf) (M : Nat → Prop) : List Comp → List Value → List Nat → Prop
  | [], cs, F => cs = [] ∧ F = []
  | .cell a :: r, cs, F => ∃ v cs', cs = v :: cs' ∧ a.one = true ∧ RA ρ h M a v ∧ RComps ρ h M r cs' F
  | .arr t n xs :: r, cs, F => ∃ c1 c2 F1 F2, cs = c1 ++ c2 ∧ F = F1 ++ F2 ∧ Rc h (.arr n t) xs c1 F1 ∧ RComps ρ h M r c2 F2

def RBlk (ρ : Rho) (h : Hf) (M : Nat → Prop) (id : Nat) : Blk → List Nat → Prop
  | .var cs, L => ∃ b k c T F, ρ id = some (b, k) ∧ h b = some (.cells c T (0, 0)) ∧ RComps ρ h M cs c.toList F ∧ L = b :: F
  | .row t xs, L => List.length (α := t.D) xs ≤ lim ∧ ((ρ id = none ∧ xs = ([] : List t.D) ∧ L = []) ∨
      ∃ b cap c T F mid post, ρ id = some (b, cap, List.length (α := t.D) xs) ∧ h b = some (.cells c T (0, 0)) ∧ c.toList = mid ++ post ∧ RelL (Rc h t) xs mid F ∧ L = b :: F ∧
        List.length (α := t.D) xs ≤ cap ∧ c.size = cap * t.sz)

/-- the blocks that may be written -/
def namB (ρ : Rho) (H : Hp) (b : Nat) : Prop := ∃ e ∈ H, ∃ k, ρ e.1 = some (b, k)
/-- the blocks that no data lies in -/
def ownB (ρ : Rho) (H : Hp) (b : Nat) : Prop := namB ρ H b ∨ ρ.N b

theorem RComps.same {ρ ρ' : Rho} {h h' : Hf} {M M' : Nat → Prop} : ∀ {cs : List Comp} {vs F}, RComps ρ h M cs vs F → (∀ id ∈ cs.flatMap Comp.ids, ρ' id = ρ id) →
    (∀ b, ¬ M b → h b ≠ none → h' b = h b ∧ ¬ M' b) → (∀ b ∈ F, h' b = h b) → RComps ρ' h' M' cs vs F
  | [], _, _, hx, _, _, _ => hx
  | .cell a :: r, _, _, hx, hi, hm, hF => by
    obtain ⟨v, cs', e, h1, h2, h3⟩ := hx
    exact ⟨v, cs', e, h1, h2.same a (fun id hid => hi id (by simp [Comp.ids, hid])) hm, RComps.same h3 (fun id hid => hi id (by rw [List.flatMap_cons]; exact List.mem_append_right _ hid)) hm hF⟩
  | .arr t n xs :: r, _, _, hx, hi, hm, hF => by
    obtain ⟨c1, c2, F1, F2, e, eF, h1, h2⟩ := hx
    subst eF
    exact ⟨c1, c2, F1, F2, e, rfl, h1.same _ (fun b hb => hF b (List.mem_append_left _ hb)),
      RComps.same h2 (fun id hid => hi id (by rw [List.flatMap_cons]; exact List.mem_append_right _ hid)) hm (fun b hb => hF b (List.mem_append_right _ hb))⟩

theorem RBlk.same {ρ ρ' : Rho} {h h' : Hf} {M M' : Nat → Prop} {id : Nat} : ∀ {B : Blk} {L}, RBlk ρ h M id B L → (∀ i, i = id ∨ i ∈ B.ids → ρ' i = ρ i) →
    (∀ b, ¬ M b → h b ≠ none → h' b = h b ∧ ¬ M' b) → (∀ b ∈ L, h' b = h b) → RBlk ρ' h' M' id B L
  | .var cs, _, hx, hi, hm, hF => by
    obtain ⟨b, k, c, T, F, h1, h2, h3, e⟩ := hx
    subst e
    exact ⟨b, k, c, T, F, by rw [hi id (.inl rfl)]; exact h1, by rw [hF b (by simp)]; exact h2, h3.same (fun i hid => hi i (.inr hid)) hm (fun b hb => hF b (List.mem_cons_of_mem _ hb)), rfl⟩
  | .row t xs, _, hx, hi, hm, hF => by
    obtain ⟨hl, ⟨h1, h2⟩ | ⟨b, cap, c, T, F, mid, post, h1, h2, h3, h4, e, h5⟩⟩ := hx
    · exact ⟨hl, .inl ⟨by rw [hi id (.inl rfl)]; exact h1, h2⟩⟩
    · subst e
      exact ⟨hl, .inr ⟨b, cap, c, T, F, mid, post, by rw [hi id (.inl rfl)]; exact h1, by rw [hF b (by simp)]; exact h2, h3,
        h4.mono (fun x c F' hF' hc => hc.same t (fun b hb => hF b (List.mem_cons_of_mem _ (hF' b hb)))), rfl, h5⟩⟩

def Hp.ids (H : Hp) : List Nat := H.flatMap fun e => e.1 :: e.2.ids

/-- the own blocks stand in the world; 'ℓ id': the blocks of entry 'id', itself and those behind it -/
structure HeapOK (ρ : Rho) (h : Hf) (H : Hp) (ℓ : Nat → List Nat) : Prop where
  blk : ∀ e ∈ H, RBlk ρ h (ownB ρ H) e.1 e.2 (ℓ e.1)
  nd : ∀ e ∈ H, (ℓ e.1).Nodup
  dj : ∀ e ∈ H, ∀ e' ∈ H, e.1 ≠ e'.1 → ∀ b ∈ ℓ e.1, b ∉ ℓ e'.1
  ids : (H.map (·.1)).Nodup

/-! ### The state of a walk -/
abbrev Fr := List (Nat × AV)
def get : Fr → Nat → Option AV
  | [], _ => none
  | (i, a) :: l, t => bif Nat.beq i t then some a else get l t

def Fr.ids (fr : Fr) : List Nat := fr.flatMap fun e => e.2.ids

structure Ext (M0 : Nat → Prop) (w w' : World) : Prop where
  os : w'.os = w.os
  tape : w'.tape = w.tape
  output : w'.output = w.output
  size : w.heap.size ≤ w'.heap.size
  block : ∀ k, k < w.heap.size → ¬ M0 k → w'.heap[k]? = w.heap[k]?

structure Ctx where
  W0 : World
  M0 : Nat → Prop
  L0 : Nat → Prop
  ρ0 : Rho
  /-- the marks of ranges over functions -/
  dl : List Deferred

/-- the slots of the frame; the names of blocks that were the caller's -/
structure Sz where
  n : Nat
  K : Nat

structure SIM (Γ : Ctx) (n : Sz) (ρ : Rho) (w : World) (a : Act) (fr : Fr) (H : Hp) : Prop where
  defers : a.defers = Γ.dl ∧ ρ.N = Γ.ρ0.N ∧ ∀ b, Γ.ρ0.N b → ¬ Γ.L0 b ∧ b < Γ.W0.heap.size
  size : a.tmps.size = n.n
  ext : Ext Γ.M0 Γ.W0 w
  keep : ∀ i, i < n.K → ρ i = Γ.ρ0 i
  own : ∀ b, namB ρ H b → Γ.M0 b ∨ Γ.W0.heap.size ≤ b
  heap : ∃ ℓ, HeapOK ρ (World.hf w) H ℓ ∧ ∀ e ∈ H, ∀ b ∈ ℓ e.1, Γ.L0 b ∨ Γ.W0.heap.size ≤ b
  fr : ∀ t x, get fr t = some x → t < n.n ∧ RA ρ (World.hf w) (ownB ρ H) x (a.tmps.getD t undef)

/-- the tables of the library that the program may read lie where they should, in blocks that are not written -/
def Laid (P : Program) (w : World) (M : Nat → Prop) : Prop :=
  ∀ g, P.globalNamed "internal/strconv.uint64pow10" = some g → Lib.TabIs P w "internal/strconv.uint64pow10" .u64 Lib.pow10Tab ∧ ¬ M g
class LaidS (P : Program) (Γ : Ctx) : Prop where
  laid : Laid P Γ.W0 Γ.M0
theorem tab_same {P : Program} {w w' : World} {name : String} {k : IntKind} {zs : List Int} {g : Nat} (hg : P.globalNamed name = some g) (hh : w'.heap[g]? = w.heap[g]?) (h : Lib.TabIs P w name k zs) : Lib.TabIs P w' name k zs := by
  unfold Lib.TabIs World.var? at *
  rw [hg] at h ⊢
  simp only [Option.bind_some] at h ⊢
  rw [hh]; exact h
theorem tab_lt {P : Program} {w : World} {name : String} {k : IntKind} {zs : List Int} {g : Nat} (hg : P.globalNamed name = some g) (h : Lib.TabIs P w name k zs) : g < w.heap.size := by
  unfold Lib.TabIs World.var? at h
  rw [hg] at h
  simp only [Option.bind_some] at h
  rcases Nat.lt_or_ge g w.heap.size with h' | h'
  · exact h'
  · rw [Array.getElem?_eq_none h'] at h; cases h
theorem Laid.ext {P : Program} {w w' : World} {M M' : Nat → Prop} (h : Laid P w M) (he : Ext M w w') (hM : ∀ b, M' b → M b ∨ w.heap.size ≤ b) : Laid P w' M' := fun g hg => by
  obtain ⟨h1, h2⟩ := h g hg
  have hlt := tab_lt hg h1
  refine ⟨tab_same hg (he.block g hlt h2) h1, fun hm => ?_⟩
  rcases hM g hm with h3 | h3
  · exact h2 h3
  · omega

theorem Ext.refl (M : Nat → Prop) (w : World) : Ext M w w := ⟨rfl, rfl, rfl, Nat.le_refl _, fun _ _ _ => rfl⟩
theorem Ext.trans {M : Nat → Prop} {a b c : World} (h : Ext M a b) (k : Ext M b c) : Ext M a c :=
  ⟨k.os.trans h.os, k.tape.trans h.tape, k.output.trans h.output, Nat.le_trans h.size k.size, fun i hi hm => (k.block i (Nat.lt_of_lt_of_le hi h.size) hm).trans (h.block i hi hm)⟩
end Go.GA
