/- Regions split on what a guard says. -/
import Derived.Test.YtcminfahdindnaaDoorGA22
namespace Go.GA
open Go Go.RowKit
section
variable {P : Program} {Γ : Ctx} {n : Sz} {Q : Exit → Act → World → Prop} {fr fr' : Fr} {H H' : Hp}
variable {dst : Option Nat} {ty : TypeId} {pos : String} {aft : Array Edge} {g : Option (Nat × Bool)}
theorem r_pickT {c x y : Operand} {a : Bool} {v : AV} (hc : evO fr c = some (.bool a)) (ha : a = true) (hx : evO fr x = some v) : Reads P ⟨dst, .pick c x y, ty, pos, aft, g⟩ fr H v :=
  reads_of fun ρ h M ev hev => ⟨ev x, hev x _ hx, fun w' => by
    have h1 := hev c _ hc
    simp only [RA] at h1
    subst ha
    simp_all [execOp, go_sem, asBool]⟩
theorem r_pickF {c x y : Operand} {a : Bool} {v : AV} (hc : evO fr c = some (.bool a)) (ha : a = false) (hy : evO fr y = some v) : Reads P ⟨dst, .pick c x y, ty, pos, aft, g⟩ fr H v :=
  reads_of fun ρ h M ev hev => ⟨ev y, hev y _ hy, fun w' => by
    have h1 := hev c _ hc
    simp only [RA] at h1
    subst ha
    simp_all [execOp, go_sem, asBool]⟩
theorem ao_split {all : Array Oper} {ops : List Oper} (b : Bool) (ht : b = true → AO P Γ n all Q ops fr H) (hf : b = false → AO P Γ n all Q ops fr H) : AO P Γ n all Q ops fr H := by
  cases hb : b with
  | true => exact ht hb
  | false => exact hf hb
/-- the next k operations are left out -/
theorem ao_skipT {all : Array Oper} {ops : List Oper} (k j s : Nat) {b : Bool} (hj : (all[j]?).bind (·.dst) = some s) (hs : get fr s = some (.bool b)) (hb : b = false) (hsk : skipOK k j true ops = true) (hlt : dstsLt n.n k ops = true) (hno : noDst s k ops = true)
    (h : AO P Γ n all Q (ops.drop k) (undN k ops fr) H) : AO P Γ n all Q ops fr H := ao_skips (want := true) hj (by simpa using hb) k (.inl hs) hsk hlt hno h
theorem ao_skipF {all : Array Oper} {ops : List Oper} (k j s : Nat) {b : Bool} (hj : (all[j]?).bind (·.dst) = some s) (hs : get fr s = some (.bool b)) (hb : b = true) (hsk : skipOK k j false ops = true) (hlt : dstsLt n.n k ops = true) (hno : noDst s k ops = true)
    (h : AO P Γ n all Q (ops.drop k) (undN k ops fr) H) : AO P Γ n all Q ops fr H := ao_skips (want := false) hj (by simpa using hb) k (.inl hs) hsk hlt hno h
/-- as the operation that they wait for was -/
theorem ao_skipU {all : Array Oper} {ops : List Oper} (k j s : Nat) (want : Bool) (hj : (all[j]?).bind (·.dst) = some s) (hs : get fr s = some (.gd false .junk)) (hsk : skipOK k j want ops = true) (hlt : dstsLt n.n k ops = true) (hno : noDst s k ops = true)
    (h : AO P Γ n all Q (ops.drop k) (undN k ops fr) H) : AO P Γ n all Q ops fr H := ao_skips (want := want) (b := !want) hj rfl k (.inr hs) hsk hlt hno h
theorem ao_norm {all : Array Oper} {ops : List Oper} {d : Nat} {x y : AV} (hx : x = y) (hH : H = H') (h : AO P Γ n all Q ops ((d, y) :: fr) H') : AO P Γ n all Q ops ((d, x) :: fr) H := by subst hx; subst hH; exact h
theorem ao_norm0 {all : Array Oper} {ops : List Oper} (hH : H = H') (h : AO P Γ n all Q ops fr H') : AO P Γ n all Q ops fr H := by subst hH; exact h
end
end Go.GA
