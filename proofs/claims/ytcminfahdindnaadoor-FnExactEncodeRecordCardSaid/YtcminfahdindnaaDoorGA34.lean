/- Operations whose value hangs on no memory; regions in which such ones may come behind a store. -/
import Derived.Test.YtcminfahdindnaaDoorGA33
namespace Go.GA
open Go Go.RowKit
/-- an operation that gives x in whatever world -/
def ReadsP (P : Program) (o : Oper) (fr : Fr) (x : AV) : Prop :=
  ∀ (ρ : Rho) (h : Hf) (M : Nat → Prop) (ev : Operand → Value), (∀ o y, evO fr o = some y → RA ρ h M y (ev o)) → ∃ v, RA ρ h M x v ∧ ∀ w', (execOp ev o).run P w' = .ok (.value v) w'
section
variable {P : Program} {Γ : Ctx} {n : Sz} {Q : Exit → Act → World → Prop} {fr fr' : Fr} {H H' : Hp} {dst : Option Nat} {ty : TypeId} {pos : String} {aft : Array Edge} {g : Option (Nat × Bool)} {all : Array Oper}
variable {xT yT : TypeId} {x y : Operand} {a b : Int} {k : IntKind}
theorem rp_move {x : Operand} {y : AV} (hx : evO fr x = some y) : ReadsP P ⟨dst, .move x, ty, pos, aft, g⟩ fr y :=
  fun ρ h M ev hev => ⟨ev x, hev x y hx, fun _ => rfl⟩
theorem rp_assign {x : Operand} {y : AV} (hx : evO fr x = some y) : ReadsP P ⟨dst, .assign x, ty, pos, aft, g⟩ fr y :=
  fun ρ h M ev hev => ⟨ev x, hev x y hx, fun _ => rfl⟩
theorem rp_eql {xT yT : TypeId} {x y : Operand} {k : IntKind} {a b : Int} (hx : evO fr x = some (.int k a)) (hy : evO fr y = some (.int k b)) :
    ReadsP P ⟨dst, .binOp .eql xT x y yT, ty, pos, aft, g⟩ fr (.bool (decide (a = b))) :=
  fun ρ h M ev hev => ⟨_, rfl, fun w' => run_int (hev x _ hx) (hev y _ hy) rfl (fun w' => by simp [Op.intCmp, go_sem, bne, BEq.beq]) w'⟩
theorem rp_neq {xT yT : TypeId} {x y : Operand} {k : IntKind} {a b : Int} (hx : evO fr x = some (.int k a)) (hy : evO fr y = some (.int k b)) :
    ReadsP P ⟨dst, .binOp .neq xT x y yT, ty, pos, aft, g⟩ fr (.bool (!decide (a = b))) :=
  fun ρ h M ev hev => ⟨_, rfl, fun w' => run_int (hev x _ hx) (hev y _ hy) rfl (fun w' => by simp [Op.intCmp, go_sem, bne, BEq.beq]) w'⟩
theorem rp_lss {xT yT : TypeId} {x y : Operand} {k : IntKind} {a b : Int} (hx : evO fr x = some (.int k a)) (hy : evO fr y = some (.int k b)) :
    ReadsP P ⟨dst, .binOp .lss xT x y yT, ty, pos, aft, g⟩ fr (.bool (decide (a < b))) :=
  fun ρ h M ev hev => ⟨_, rfl, fun w' => run_int (hev x _ hx) (hev y _ hy) rfl (fun w' => by simp [Op.intCmp, go_sem, bne, BEq.beq]) w'⟩
theorem rp_leq {xT yT : TypeId} {x y : Operand} {k : IntKind} {a b : Int} (hx : evO fr x = some (.int k a)) (hy : evO fr y = some (.int k b)) :
    ReadsP P ⟨dst, .binOp .leq xT x y yT, ty, pos, aft, g⟩ fr (.bool (decide (a ≤ b))) :=
  fun ρ h M ev hev => ⟨_, rfl, fun w' => run_int (hev x _ hx) (hev y _ hy) rfl (fun w' => by simp [Op.intCmp, go_sem, bne, BEq.beq]) w'⟩
theorem rp_gtr {xT yT : TypeId} {x y : Operand} {k : IntKind} {a b : Int} (hx : evO fr x = some (.int k a)) (hy : evO fr y = some (.int k b)) :
    ReadsP P ⟨dst, .binOp .gtr xT x y yT, ty, pos, aft, g⟩ fr (.bool (decide (b < a))) :=
  fun ρ h M ev hev => ⟨_, rfl, fun w' => run_int (hev x _ hx) (hev y _ hy) rfl (fun w' => by simp [Op.intCmp, go_sem, bne, BEq.beq]) w'⟩
theorem rp_geq {xT yT : TypeId} {x y : Operand} {k : IntKind} {a b : Int} (hx : evO fr x = some (.int k a)) (hy : evO fr y = some (.int k b)) :
    ReadsP P ⟨dst, .binOp .geq xT x y yT, ty, pos, aft, g⟩ fr (.bool (decide (b ≤ a))) :=
  fun ρ h M ev hev => ⟨_, rfl, fun w' => run_int (hev x _ hx) (hev y _ hy) rfl (fun w' => by simp [Op.intCmp, go_sem, bne, BEq.beq]) w'⟩
theorem rp_add {xT yT : TypeId} {x y : Operand} {k : IntKind} {a b : Int} (hx : evO fr x = some (.int k a)) (hy : evO fr y = some (.int k b)) :
    ReadsP P ⟨dst, .binOp .add xT x y yT, ty, pos, aft, g⟩ fr (.int k (k.wrap (a + b))) :=
  fun ρ h M ev hev => ⟨_, rfl, fun w' => run_int (hev x _ hx) (hev y _ hy) rfl (fun w' => rfl) w'⟩
theorem rp_sub {xT yT : TypeId} {x y : Operand} {k : IntKind} {a b : Int} (hx : evO fr x = some (.int k a)) (hy : evO fr y = some (.int k b)) :
    ReadsP P ⟨dst, .binOp .sub xT x y yT, ty, pos, aft, g⟩ fr (.int k (k.wrap (a - b))) :=
  fun ρ h M ev hev => ⟨_, rfl, fun w' => run_int (hev x _ hx) (hev y _ hy) rfl (fun w' => rfl) w'⟩
theorem rp_mul {xT yT : TypeId} {x y : Operand} {k : IntKind} {a b : Int} (hx : evO fr x = some (.int k a)) (hy : evO fr y = some (.int k b)) :
    ReadsP P ⟨dst, .binOp .mul xT x y yT, ty, pos, aft, g⟩ fr (.int k (k.wrap (a * b))) :=
  fun ρ h M ev hev => ⟨_, rfl, fun w' => run_int (hev x _ hx) (hev y _ hy) rfl (fun w' => rfl) w'⟩
theorem rp_quo {xT yT : TypeId} {x y : Operand} {k : IntKind} {a b : Int} (hx : evO fr x = some (.int k a)) (hy : evO fr y = some (.int k b)) (hb : b ≠ 0) :
    ReadsP P ⟨dst, .binOp .quo xT x y yT, ty, pos, aft, g⟩ fr (.int k (k.wrap (a.tdiv b))) :=
  fun ρ h M ev hev => ⟨_, rfl, fun w' => run_int (hev x _ hx) (hev y _ hy) rfl (fun w' => by simp [Op.intDiv, hb, go_sem]) w'⟩
theorem rp_rem {xT yT : TypeId} {x y : Operand} {k : IntKind} {a b : Int} (hx : evO fr x = some (.int k a)) (hy : evO fr y = some (.int k b)) (hb : b ≠ 0) :
    ReadsP P ⟨dst, .binOp .rem xT x y yT, ty, pos, aft, g⟩ fr (.int k (a.tmod b)) :=
  fun ρ h M ev hev => ⟨_, rfl, fun w' => run_int (hev x _ hx) (hev y _ hy) rfl (fun w' => by simp [Op.intDiv, hb, go_sem]) w'⟩
theorem rp_and {xT yT : TypeId} {x y : Operand} {k : IntKind} {a b : Int} (hx : evO fr x = some (.int k a)) (hy : evO fr y = some (.int k b)) :
    ReadsP P ⟨dst, .binOp .and xT x y yT, ty, pos, aft, g⟩ fr (.int k (andI k a b)) :=
  fun ρ h M ev hev => ⟨_, rfl, fun w' => run_int (hev x _ hx) (hev y _ hy) rfl (fun w' => rfl) w'⟩
theorem rp_or {xT yT : TypeId} {x y : Operand} {k : IntKind} {a b : Int} (hx : evO fr x = some (.int k a)) (hy : evO fr y = some (.int k b)) :
    ReadsP P ⟨dst, .binOp .or xT x y yT, ty, pos, aft, g⟩ fr (.int k (orI k a b)) :=
  fun ρ h M ev hev => ⟨_, rfl, fun w' => run_int (hev x _ hx) (hev y _ hy) rfl (fun w' => rfl) w'⟩
theorem rp_shl {xT yT : TypeId} {x y : Operand} {k k' : IntKind} {a b : Int} (hx : evO fr x = some (.int k a)) (hy : evO fr y = some (.int k' b)) (hb : 0 ≤ b) :
    ReadsP P ⟨dst, .binOp .shl xT x y yT, ty, pos, aft, g⟩ fr (.int k (shlI k a b)) :=
  fun ρ h M ev hev => ⟨_, rfl, fun w' => by
    have h1 := hev x _ hx; have h2 := hev y _ hy
    simp only [RA] at h1 h2
    have hb' : ¬ b < 0 := by omega
    simp [execOp, eqGuard, Go.binOp, go_sem, h1, h2, Op.shift, hb', shlI]⟩
theorem rp_shr {xT yT : TypeId} {x y : Operand} {k k' : IntKind} {a b : Int} (hx : evO fr x = some (.int k a)) (hy : evO fr y = some (.int k' b)) (hb : 0 ≤ b) :
    ReadsP P ⟨dst, .binOp .shr xT x y yT, ty, pos, aft, g⟩ fr (.int k (shrI k a b)) :=
  fun ρ h M ev hev => ⟨_, rfl, fun w' => by
    have h1 := hev x _ hx; have h2 := hev y _ hy
    simp only [RA] at h1 h2
    have hb' : ¬ b < 0 := by omega
    simp [execOp, eqGuard, Go.binOp, go_sem, h1, h2, Op.shift, hb', shrI]⟩
theorem rp_not {xT : TypeId} {x : Operand} {a : Bool} (hx : evO fr x = some (.bool a)) : ReadsP P ⟨dst, .unOp .not xT x, ty, pos, aft, g⟩ fr (.bool !a) :=
  fun ρ h M ev hev => ⟨_, rfl, fun w' => by
    have h1 := hev x _ hx
    simp only [RA] at h1
    simp [execOp, go_sem, h1, Op.unary]⟩
theorem rp_neg {xT : TypeId} {x : Operand} {k : IntKind} {a : Int} (hx : evO fr x = some (.int k a)) : ReadsP P ⟨dst, .unOp .neg xT x, ty, pos, aft, g⟩ fr (.int k (k.wrap (0 - a))) :=
  fun ρ h M ev hev => ⟨_, rfl, fun w' => by
    have h1 := hev x _ hx
    simp only [RA] at h1
    simp [execOp, go_sem, h1, Op.unary, Op.intArith]⟩
theorem rp_andB {c x : Operand} {a b : Bool} (hc : evO fr c = some (.bool a)) (hx : evO fr x = some (.gd a (.bool b))) :
    ReadsP P ⟨dst, .pick c x (.const (.bool false)), ty, pos, aft, g⟩ fr (.bool (a && b)) :=
  fun ρ h M ev hev => ⟨_, rfl, fun w' => by
    have h1 := hev c _ hc; have h2 := hev x _ hx; have h3 := hev (.const (.bool false)) (.bool false) rfl
    simp only [RA] at h1 h2 h3
    cases a <;> simp_all [execOp, go_sem, asBool]⟩
theorem rp_orB {c x : Operand} {a b : Bool} (hc : evO fr c = some (.bool a)) (hx : evO fr x = some (.gd (!a) (.bool b))) :
    ReadsP P ⟨dst, .pick c (.const (.bool true)) x, ty, pos, aft, g⟩ fr (.bool (a || b)) :=
  fun ρ h M ev hev => ⟨_, rfl, fun w' => by
    have h1 := hev c _ hc; have h2 := hev x _ hx; have h3 := hev (.const (.bool true)) (.bool true) rfl
    simp only [RA] at h1 h2 h3
    cases a <;> simp_all [execOp, go_sem, asBool]⟩
theorem rp_len_v {T E : TypeId} {x : Operand} {t : Ty} {xs : List t.D} (hu : P.underlying T = some (.slice E)) (hx : evO fr x = some (.v (.slice t) xs)) :
    ReadsP P ⟨dst, .call ⟨.builtin .len, #[x], #[T]⟩, ty, pos, aft, g⟩ fr (.int .i64 (xs.length : Int)) := fun ρ h M ev hev => by
  obtain ⟨F, ⟨cs, ⟨hl, h1⟩, hv⟩, hF⟩ := hev _ _ hx
  refine ⟨_, rfl, fun w' => ?_⟩
  have : ∃ a' c', ev x = .slice a' xs.length c' := by
    rcases h1 with ⟨h1, _, a', cap, e⟩ | ⟨b, off, cap, F', e, _⟩
    · exact ⟨a', cap, by rw [hv, e]; simp [mkV, Ty.agg, h1]⟩
    · exact ⟨some ⟨b, off, none⟩, _, by rw [hv, e]; simp [mkV, Ty.agg]; rfl⟩
  obtain ⟨a', c', e⟩ := this
  simp [execOp, resolve, invoke, Go.builtin, Builtin.len_, e, Sem.run_bind, run_underlying hu, goInt]
theorem rp_len_nil {T E : TypeId} {x : Operand} (hu : P.underlying T = some (.slice E)) (hx : evO fr x = some .nilsl) :
    ReadsP P ⟨dst, .call ⟨.builtin .len, #[x], #[T]⟩, ty, pos, aft, g⟩ fr (.int .i64 0) := fun ρ h M ev hev => by
  have hx' := hev _ _ hx
  simp only [RA] at hx'
  exact ⟨_, rfl, fun w' => by simp [execOp, resolve, invoke, Go.builtin, Builtin.len_, hx', Sem.run_bind, run_underlying hu, goInt]⟩
theorem rp_len_str {T : TypeId} {x : Operand} {s : ByteArray} (hu : P.underlying T = some .string) (hx : evO fr x = some (.str s)) :
    ReadsP P ⟨dst, .call ⟨.builtin .len, #[x], #[T]⟩, ty, pos, aft, g⟩ fr (.int .i64 (s.size : Int)) := fun ρ h M ev hev => by
  have hx' := hev _ _ hx
  simp only [RA] at hx'
  exact ⟨_, rfl, fun w' => by simp [execOp, resolve, invoke, Go.builtin, Builtin.len_, hx', Sem.run_bind, run_underlying hu, goInt]⟩
theorem rp_extract {x : Operand} {xs : List AV} {i : Nat} {y : AV} (hx : evO fr x = some (.tup xs)) (hn : nthAV xs i = some y) :
    ReadsP P ⟨dst, .extract x i, ty, pos, aft, g⟩ fr y := fun ρ h M ev hev => by
  obtain ⟨vs, e, h1⟩ := hev _ _ hx
  obtain ⟨v, hv, h2⟩ := ras_nth h1 hn
  refine ⟨v, h2, fun w' => ?_⟩
  simp [execOp, Instr.extract, e, hv]
theorem rp_makeFunc {f : FuncId} {cs : List Operand} {xs : List AV} (hx : evOs fr cs = some xs) : ReadsP P ⟨dst, .makeFunc (.func f) #[] cs.toArray, ty, pos, aft, g⟩ fr (.fn f xs) :=
  fun ρ h M ev hev => ⟨_, ⟨cs.map ev, rfl, evOs_ok hev hx⟩, fun w' => by simp [execOp, Instr.makeFunc]⟩
theorem rp_eq_bool {T yT : TypeId} {x y : Operand} {p q : Bool} (hu : P.underlying T = some .bool) (hx : evO fr x = some (.bool p)) (hy : evO fr y = some (.bool q)) : ReadsP P ⟨dst, .binOp .eql T x y yT, ty, pos, aft, g⟩ fr (.bool (p == q)) :=
  fun ρ h M ev hev => ⟨_, rfl, fun w' => by
    have h1 := hev x _ hx; have h2 := hev y _ hy
    simp only [RA] at h1 h2
    simp [execOp, eqGuard, Go.binOp, h1, h2, Sem.run_bind, run_equal_bool w' T p q hu]⟩
theorem rp_neq_bool {T yT : TypeId} {x y : Operand} {p q : Bool} (hu : P.underlying T = some .bool) (hx : evO fr x = some (.bool p)) (hy : evO fr y = some (.bool q)) : ReadsP P ⟨dst, .binOp .neq T x y yT, ty, pos, aft, g⟩ fr (.bool (p != q)) :=
  fun ρ h M ev hev => ⟨_, rfl, fun w' => by
    have h1 := hev x _ hx; have h2 := hev y _ hy
    simp only [RA] at h1 h2
    simp [execOp, eqGuard, Go.binOp, h1, h2, Sem.run_bind, run_equal_bool w' T p q hu, bne]⟩
theorem rp_addI (hx : evO fr x = some (.int k a)) (hy : evO fr y = some (.int k b)) (h : k.wrap (a + b) = a + b) : ReadsP P ⟨dst, .binOp .add xT x y yT, ty, pos, aft, g⟩ fr (.int k (a + b)) := by
  have := rp_add (P := P) (dst := dst) (ty := ty) (pos := pos) (aft := aft) (g := g) (xT := xT) (yT := yT) hx hy; rwa [h] at this
theorem rp_subI (hx : evO fr x = some (.int k a)) (hy : evO fr y = some (.int k b)) (h : k.wrap (a - b) = a - b) : ReadsP P ⟨dst, .binOp .sub xT x y yT, ty, pos, aft, g⟩ fr (.int k (a - b)) := by
  have := rp_sub (P := P) (dst := dst) (ty := ty) (pos := pos) (aft := aft) (g := g) (xT := xT) (yT := yT) hx hy; rwa [h] at this
theorem rp_mulI (hx : evO fr x = some (.int k a)) (hy : evO fr y = some (.int k b)) (h : k.wrap (a * b) = a * b) : ReadsP P ⟨dst, .binOp .mul xT x y yT, ty, pos, aft, g⟩ fr (.int k (a * b)) := by
  have := rp_mul (P := P) (dst := dst) (ty := ty) (pos := pos) (aft := aft) (g := g) (xT := xT) (yT := yT) hx hy; rwa [h] at this
theorem rp_andBg {c x : Operand} {a b q : Bool} (hc : evO fr c = some (.bool a)) (hx : evO fr x = some (.gd q (.bool b))) (hq : q = a) :
    ReadsP P ⟨dst, .pick c x (.const (.bool false)), ty, pos, aft, g⟩ fr (.bool (a && b)) := by subst hq; exact rp_andB hc hx
theorem rp_orBg {c x : Operand} {a b q : Bool} (hc : evO fr c = some (.bool a)) (hx : evO fr x = some (.gd q (.bool b))) (hq : q = (!a)) :
    ReadsP P ⟨dst, .pick c (.const (.bool true)) x, ty, pos, aft, g⟩ fr (.bool (a || b)) := by subst hq; exact rp_orB hc hx
theorem rp_conv {S T : TypeId} {x : Operand} {k k' : IntKind} {a : Int} {d : TypeDesc} (hs : P.underlying S = some d) (ht : P.underlying T = some (.int k')) (hx : evO fr x = some (.int k a)) :
    ReadsP P ⟨dst, .convert S T x, ty, pos, aft, g⟩ fr (.int k' (k'.wrap a)) :=
  fun ρ h M ev hev => ⟨_, rfl, fun w' => by
    have h1 := hev x _ hx
    simp only [RA] at h1
    simp [execOp, Go.convert, h1, Sem.run_bind, run_underlying hs, run_underlying ht, Conv.intToInt]⟩
theorem rp_pickT {c x y : Operand} {a : Bool} {v : AV} (hc : evO fr c = some (.bool a)) (ha : a = true) (hx : evO fr x = some v) : ReadsP P ⟨dst, .pick c x y, ty, pos, aft, g⟩ fr v :=
  fun ρ h M ev hev => ⟨ev x, hev x _ hx, fun w' => by
    have h1 := hev c _ hc
    simp only [RA] at h1
    subst ha
    simp_all [execOp, go_sem, asBool]⟩
theorem rp_pickF {c x y : Operand} {a : Bool} {v : AV} (hc : evO fr c = some (.bool a)) (ha : a = false) (hy : evO fr y = some v) : ReadsP P ⟨dst, .pick c x y, ty, pos, aft, g⟩ fr v :=
  fun ρ h M ev hev => ⟨ev y, hev y _ hy, fun w' => by
    have h1 := hev c _ hc
    simp only [RA] at h1
    subst ha
    simp_all [execOp, go_sem, asBool]⟩
theorem rp_max {T U : TypeId} {x y : Operand} {k : IntKind} {a b : Int} (hx : evO fr x = some (.int k a)) (hy : evO fr y = some (.int k b)) :
    ReadsP P ⟨dst, .call ⟨.builtin .max, #[x, y], #[T, U]⟩, ty, pos, aft, g⟩ fr (.int k (if b > a then b else a)) :=
  fun ρ h M ev hev => ⟨_, rfl, fun w' => by
    have h1 := hev x _ hx; have h2 := hev y _ hy
    simp only [RA] at h1 h2
    simp [execOp, resolve, invoke, Go.builtin, Builtin.max_, Builtin.max2, h1, h2, Sem.run_bind]⟩
theorem rp_min {T U : TypeId} {x y : Operand} {k : IntKind} {a b : Int} (hx : evO fr x = some (.int k a)) (hy : evO fr y = some (.int k b)) :
    ReadsP P ⟨dst, .call ⟨.builtin .min, #[x, y], #[T, U]⟩, ty, pos, aft, g⟩ fr (.int k (if b < a then b else a)) :=
  fun ρ h M ev hev => ⟨_, rfl, fun w' => by
    have h1 := hev x _ hx; have h2 := hev y _ hy
    simp only [RA] at h1 h2
    simp [execOp, resolve, invoke, Go.builtin, Builtin.min_, Builtin.min2, h1, h2, Sem.run_bind]⟩
theorem rp_eql_str {xT yT : TypeId} {x y : Operand} {a b : ByteArray} (hx : evO fr x = some (.str a)) (hy : evO fr y = some (.str b)) :
    ReadsP P ⟨dst, .binOp .eql xT x y yT, ty, pos, aft, g⟩ fr (.bool (eqS a b)) :=
  fun ρ h M ev hev => ⟨_, rfl, fun w' => by
    have h1 := hev x _ hx; have h2 := hev y _ hy
    simp only [RA] at h1 h2
    simp [execOp, eqGuard, Go.binOp, Op.stringOp, eqS, h1, h2, Sem.run_bind]⟩
theorem rp_neq_str {xT yT : TypeId} {x y : Operand} {a b : ByteArray} (hx : evO fr x = some (.str a)) (hy : evO fr y = some (.str b)) :
    ReadsP P ⟨dst, .binOp .neq xT x y yT, ty, pos, aft, g⟩ fr (.bool (!eqS a b)) :=
  fun ρ h M ev hev => ⟨_, rfl, fun w' => by
    have h1 := hev x _ hx; have h2 := hev y _ hy
    simp only [RA] at h1 h2
    simp [execOp, eqGuard, Go.binOp, Op.stringOp, eqS, h1, h2, Sem.run_bind]⟩
theorem rp_lss_str {xT yT : TypeId} {x y : Operand} {a b : ByteArray} (hx : evO fr x = some (.str a)) (hy : evO fr y = some (.str b)) :
    ReadsP P ⟨dst, .binOp .lss xT x y yT, ty, pos, aft, g⟩ fr (.bool (Op.bytesLess a.toList b.toList)) :=
  fun ρ h M ev hev => ⟨_, rfl, fun w' => by
    have h1 := hev x _ hx; have h2 := hev y _ hy
    simp only [RA] at h1 h2
    simp [execOp, eqGuard, Go.binOp, Op.stringOp, h1, h2, Sem.run_bind]⟩
theorem rp_add_str {xT yT : TypeId} {x y : Operand} {a b : ByteArray} (hx : evO fr x = some (.str a)) (hy : evO fr y = some (.str b)) (hl : (a.size : Int) + (b.size : Int) ≤ 9223372036854775807) :
    ReadsP P ⟨dst, .binOp .add xT x y yT, ty, pos, aft, g⟩ fr (.str (a ++ b)) :=
  fun ρ h M ev hev => ⟨_, rfl, fun w' => by
    have h1 := hev x _ hx; have h2 := hev y _ hy
    simp only [RA] at h1 h2
    have hm : IntKind.i64.max = 9223372036854775807 := by decide
    have hno : ¬ (((a.size + b.size : Nat) : Int) > IntKind.i64.max) := by rw [hm]; omega
    have hno' : ¬ (IntKind.i64.max < (a.size : Int) + (b.size : Int)) := by rw [hm]; omega
    simp [execOp, eqGuard, Go.binOp, Op.stringOp, h1, h2, Sem.run_bind, hno']
    omega⟩
end
end Go.GA
