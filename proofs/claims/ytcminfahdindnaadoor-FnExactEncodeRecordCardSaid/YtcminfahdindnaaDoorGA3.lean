/- Operations that only read: numbers, bools, strings. -/
import Derived.Test.YtcminfahdindnaaDoorGA2
import Derived.WalkKit
namespace Go.GA
open Go Go.RowKit

section
variable {P : Program} {fr : Fr} {H : Hp} {dst : Option Nat} {ty : TypeId} {pos : String} {aft : Array Edge} {g : Option (Nat × Bool)}

/-- an operation whose value does not depend on the world -/
theorem reads_of {op : Op} {x : AV} (f : ∀ (ρ : Rho) (h : Hf) (M : Nat → Prop) (ev : Operand → Value), (∀ o y, evO fr o = some y → RA ρ h M y (ev o)) →
    ∃ v, RA ρ h M x v ∧ ∀ w', (execOp ev ⟨dst, op, ty, pos, aft, g⟩).run P w' = .ok (.value v) w') : Reads P ⟨dst, op, ty, pos, aft, g⟩ fr H x := fun Γ n ρ w a s => by
  obtain ⟨v, h1, h2⟩ := f ρ (World.hf w) (ownB ρ H) a.eval (fun o y h => s.ev h)
  exact ⟨v, h1, fun w' _ => h2 w'⟩

theorem r_move {x : Operand} {y : AV} (hx : evO fr x = some y) : Reads P ⟨dst, .move x, ty, pos, aft, g⟩ fr H y :=
  reads_of fun ρ h M ev hev => ⟨ev x, hev x y hx, fun _ => rfl⟩
theorem r_assign {x : Operand} {y : AV} (hx : evO fr x = some y) : Reads P ⟨dst, .assign x, ty, pos, aft, g⟩ fr H y :=
  reads_of fun ρ h M ev hev => ⟨ev x, hev x y hx, fun _ => rfl⟩

theorem run_int {ev : Operand → Value} {op : BinOp} {xT yT : TypeId} {x y : Operand} {k : IntKind} {a b : Int} (hx : ev x = .int k a) (hy : ev y = .int k b) (hop : (match op with | .shl | .shr => false | _ => true) = true) {r : Value}
    (hr : ∀ w', ((match op with
      | .add | .sub | .mul => Op.intArith op k a b
      | .quo | .rem => Op.intDiv op k a b
      | .and | .or | .xor | .andNot => Op.intBits op k a b
      | _ => Op.intCmp op a b) : Sem Value).run P w' = .ok r w') (w' : World) : (execOp ev ⟨dst, .binOp op xT x y yT, ty, pos, aft, g⟩).run P w' = .ok (.value r) w' := by
  have := hr w'
  cases op <;> simp_all [execOp, eqGuard, Go.binOp, go_sem]

theorem r_eql {xT yT : TypeId} {x y : Operand} {k : IntKind} {a b : Int} (hx : evO fr x = some (.int k a)) (hy : evO fr y = some (.int k b)) :
    Reads P ⟨dst, .binOp .eql xT x y yT, ty, pos, aft, g⟩ fr H (.bool (decide (a = b))) :=
  reads_of fun ρ h M ev hev => ⟨_, rfl, fun w' => run_int (hev x _ hx) (hev y _ hy) rfl (fun w' => by simp [Op.intCmp, go_sem, bne, BEq.beq]) w'⟩
theorem r_neq {xT yT : TypeId} {x y : Operand} {k : IntKind} {a b : Int} (hx : evO fr x = some (.int k a)) (hy : evO fr y = some (.int k b)) :
    Reads P ⟨dst, .binOp .neq xT x y yT, ty, pos, aft, g⟩ fr H (.bool (!decide (a = b))) :=
  reads_of fun ρ h M ev hev => ⟨_, rfl, fun w' => run_int (hev x _ hx) (hev y _ hy) rfl (fun w' => by simp [Op.intCmp, go_sem, bne, BEq.beq]) w'⟩
theorem r_lss {xT yT : TypeId} {x y : Operand} {k : IntKind} {a b : Int} (hx : evO fr x = some (.int k a)) (hy : evO fr y = some (.int k b)) :
    Reads P ⟨dst, .binOp .lss xT x y yT, ty, pos, aft, g⟩ fr H (.bool (decide (a < b))) :=
  reads_of fun ρ h M ev hev => ⟨_, rfl, fun w' => run_int (hev x _ hx) (hev y _ hy) rfl (fun w' => by simp [Op.intCmp, go_sem, bne, BEq.beq]) w'⟩
theorem r_leq {xT yT : TypeId} {x y : Operand} {k : IntKind} {a b : Int} (hx : evO fr x = some (.int k a)) (hy : evO fr y = some (.int k b)) :
    Reads P ⟨dst, .binOp .leq xT x y yT, ty, pos, aft, g⟩ fr H (.bool (decide (a ≤ b))) :=
  reads_of fun ρ h M ev hev => ⟨_, rfl, fun w' => run_int (hev x _ hx) (hev y _ hy) rfl (fun w' => by simp [Op.intCmp, go_sem, bne, BEq.beq]) w'⟩
theorem r_gtr {xT yT : TypeId} {x y : Operand} {k : IntKind} {a b : Int} (hx : evO fr x = some (.int k a)) (hy : evO fr y = some (.int k b)) :
    Reads P ⟨dst, .binOp .gtr xT x y yT, ty, pos, aft, g⟩ fr H (.bool (decide (b < a))) :=
  reads_of fun ρ h M ev hev => ⟨_, rfl, fun w' => run_int (hev x _ hx) (hev y _ hy) rfl (fun w' => by simp [Op.intCmp, go_sem, bne, BEq.beq]) w'⟩
theorem r_geq {xT yT : TypeId} {x y : Operand} {k : IntKind} {a b : Int} (hx : evO fr x = some (.int k a)) (hy : evO fr y = some (.int k b)) :
    Reads P ⟨dst, .binOp .geq xT x y yT, ty, pos, aft, g⟩ fr H (.bool (decide (b ≤ a))) :=
  reads_of fun ρ h M ev hev => ⟨_, rfl, fun w' => run_int (hev x _ hx) (hev y _ hy) rfl (fun w' => by simp [Op.intCmp, go_sem, bne, BEq.beq]) w'⟩
theorem r_add {xT yT : TypeId} {x y : Operand} {k : IntKind} {a b : Int} (hx : evO fr x = some (.int k a)) (hy : evO fr y = some (.int k b)) :
    Reads P ⟨dst, .binOp .add xT x y yT, ty, pos, aft, g⟩ fr H (.int k (k.wrap (a + b))) :=
  reads_of fun ρ h M ev hev => ⟨_, rfl, fun w' => run_int (hev x _ hx) (hev y _ hy) rfl (fun w' => rfl) w'⟩
theorem r_sub {xT yT : TypeId} {x y : Operand} {k : IntKind} {a b : Int} (hx : evO fr x = some (.int k a)) (hy : evO fr y = some (.int k b)) :
    Reads P ⟨dst, .binOp .sub xT x y yT, ty, pos, aft, g⟩ fr H (.int k (k.wrap (a - b))) :=
  reads_of fun ρ h M ev hev => ⟨_, rfl, fun w' => run_int (hev x _ hx) (hev y _ hy) rfl (fun w' => rfl) w'⟩
theorem r_mul {xT yT : TypeId} {x y : Operand} {k : IntKind} {a b : Int} (hx : evO fr x = some (.int k a)) (hy : evO fr y = some (.int k b)) :
    Reads P ⟨dst, .binOp .mul xT x y yT, ty, pos, aft, g⟩ fr H (.int k (k.wrap (a * b))) :=
  reads_of fun ρ h M ev hev => ⟨_, rfl, fun w' => run_int (hev x _ hx) (hev y _ hy) rfl (fun w' => rfl) w'⟩
theorem r_quo {xT yT : TypeId} {x y : Operand} {k : IntKind} {a b : Int} (hx : evO fr x = some (.int k a)) (hy : evO fr y = some (.int k b)) (hb : b ≠ 0) :
    Reads P ⟨dst, .binOp .quo xT x y yT, ty, pos, aft, g⟩ fr H (.int k (k.wrap (a.tdiv b))) :=
  reads_of fun ρ h M ev hev => ⟨_, rfl, fun w' => run_int (hev x _ hx) (hev y _ hy) rfl (fun w' => by simp [Op.intDiv, hb, go_sem]) w'⟩
theorem r_rem {xT yT : TypeId} {x y : Operand} {k : IntKind} {a b : Int} (hx : evO fr x = some (.int k a)) (hy : evO fr y = some (.int k b)) (hb : b ≠ 0) :
    Reads P ⟨dst, .binOp .rem xT x y yT, ty, pos, aft, g⟩ fr H (.int k (a.tmod b)) :=
  reads_of fun ρ h M ev hev => ⟨_, rfl, fun w' => run_int (hev x _ hx) (hev y _ hy) rfl (fun w' => by simp [Op.intDiv, hb, go_sem]) w'⟩
def andI (k : IntKind) (a b : Int) : Int := k.wrap ((BitVec.ofInt k.bits a &&& BitVec.ofInt k.bits b).toNat : Int)
def orI (k : IntKind) (a b : Int) : Int := k.wrap ((BitVec.ofInt k.bits a ||| BitVec.ofInt k.bits b).toNat : Int)
def xorI (k : IntKind) (a b : Int) : Int := k.wrap ((BitVec.ofInt k.bits a ^^^ BitVec.ofInt k.bits b).toNat : Int)
theorem r_and {xT yT : TypeId} {x y : Operand} {k : IntKind} {a b : Int} (hx : evO fr x = some (.int k a)) (hy : evO fr y = some (.int k b)) :
    Reads P ⟨dst, .binOp .and xT x y yT, ty, pos, aft, g⟩ fr H (.int k (andI k a b)) :=
  reads_of fun ρ h M ev hev => ⟨_, rfl, fun w' => run_int (hev x _ hx) (hev y _ hy) rfl (fun w' => rfl) w'⟩
theorem r_or {xT yT : TypeId} {x y : Operand} {k : IntKind} {a b : Int} (hx : evO fr x = some (.int k a)) (hy : evO fr y = some (.int k b)) :
    Reads P ⟨dst, .binOp .or xT x y yT, ty, pos, aft, g⟩ fr H (.int k (orI k a b)) :=
  reads_of fun ρ h M ev hev => ⟨_, rfl, fun w' => run_int (hev x _ hx) (hev y _ hy) rfl (fun w' => rfl) w'⟩
def shlI (k : IntKind) (a b : Int) : Int := k.wrap (a * 2 ^ (min b.toNat k.bits))
def shrI (k : IntKind) (a b : Int) : Int := a.fdiv (2 ^ (min b.toNat k.bits))
theorem r_shl {xT yT : TypeId} {x y : Operand} {k k' : IntKind} {a b : Int} (hx : evO fr x = some (.int k a)) (hy : evO fr y = some (.int k' b)) (hb : 0 ≤ b) :
    Reads P ⟨dst, .binOp .shl xT x y yT, ty, pos, aft, g⟩ fr H (.int k (shlI k a b)) :=
  reads_of fun ρ h M ev hev => ⟨_, rfl, fun w' => by
    have h1 := hev x _ hx; have h2 := hev y _ hy
    simp only [RA] at h1 h2
    have hb' : ¬ b < 0 := by omega
    simp [execOp, eqGuard, Go.binOp, go_sem, h1, h2, Op.shift, hb', shlI]⟩
theorem r_shr {xT yT : TypeId} {x y : Operand} {k k' : IntKind} {a b : Int} (hx : evO fr x = some (.int k a)) (hy : evO fr y = some (.int k' b)) (hb : 0 ≤ b) :
    Reads P ⟨dst, .binOp .shr xT x y yT, ty, pos, aft, g⟩ fr H (.int k (shrI k a b)) :=
  reads_of fun ρ h M ev hev => ⟨_, rfl, fun w' => by
    have h1 := hev x _ hx; have h2 := hev y _ hy
    simp only [RA] at h1 h2
    have hb' : ¬ b < 0 := by omega
    simp [execOp, eqGuard, Go.binOp, go_sem, h1, h2, Op.shift, hb', shrI]⟩
theorem r_not {xT : TypeId} {x : Operand} {a : Bool} (hx : evO fr x = some (.bool a)) : Reads P ⟨dst, .unOp .not xT x, ty, pos, aft, g⟩ fr H (.bool !a) :=
  reads_of fun ρ h M ev hev => ⟨_, rfl, fun w' => by
    have h1 := hev x _ hx
    simp only [RA] at h1
    simp [execOp, go_sem, h1, Op.unary]⟩
theorem r_neg {xT : TypeId} {x : Operand} {k : IntKind} {a : Int} (hx : evO fr x = some (.int k a)) : Reads P ⟨dst, .unOp .neg xT x, ty, pos, aft, g⟩ fr H (.int k (k.wrap (0 - a))) :=
  reads_of fun ρ h M ev hev => ⟨_, rfl, fun w' => by
    have h1 := hev x _ hx
    simp only [RA] at h1
    simp [execOp, go_sem, h1, Op.unary, Op.intArith]⟩
/-- 'a && b', 'a || b', where b is worked out only if need be -/
theorem r_andB {c x : Operand} {a b : Bool} (hc : evO fr c = some (.bool a)) (hx : evO fr x = some (.gd a (.bool b))) :
    Reads P ⟨dst, .pick c x (.const (.bool false)), ty, pos, aft, g⟩ fr H (.bool (a && b)) :=
  reads_of fun ρ h M ev hev => ⟨_, rfl, fun w' => by
    have h1 := hev c _ hc; have h2 := hev x _ hx; have h3 := hev (.const (.bool false)) (.bool false) rfl
    simp only [RA] at h1 h2 h3
    cases a <;> simp_all [execOp, go_sem, asBool]⟩
theorem r_orB {c x : Operand} {a b : Bool} (hc : evO fr c = some (.bool a)) (hx : evO fr x = some (.gd (!a) (.bool b))) :
    Reads P ⟨dst, .pick c (.const (.bool true)) x, ty, pos, aft, g⟩ fr H (.bool (a || b)) :=
  reads_of fun ρ h M ev hev => ⟨_, rfl, fun w' => by
    have h1 := hev c _ hc; have h2 := hev x _ hx; have h3 := hev (.const (.bool true)) (.bool true) rfl
    simp only [RA] at h1 h2 h3
    cases a <;> simp_all [execOp, go_sem, asBool]⟩
end
end Go.GA
