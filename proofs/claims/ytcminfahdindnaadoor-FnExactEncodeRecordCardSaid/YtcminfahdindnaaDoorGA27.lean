/- Strings: comparisons, sums, bytes; a whole array that is not written as a slice. -/
import Derived.Test.YtcminfahdindnaaDoorGA26
import Derived.Lib.ConvBytes
import Derived.Lib.Bytealg
import Derived.Laws.Externs
namespace Go.GA
open Go Go.RowKit
/-- two strings are the same -/
def eqS (a b : ByteArray) : Bool := a.toList == b.toList
section
variable {P : Program} {n : Sz} {fr : Fr} {H : Hp} {dst : Option Nat} {ty : TypeId} {pos : String} {aft : Array Edge} {g : Option (Nat × Bool)}
theorem r_eql_str {xT yT : TypeId} {x y : Operand} {a b : ByteArray} (hx : evO fr x = some (.str a)) (hy : evO fr y = some (.str b)) :
    Reads P ⟨dst, .binOp .eql xT x y yT, ty, pos, aft, g⟩ fr H (.bool (eqS a b)) :=
  reads_of fun ρ h M ev hev => ⟨_, rfl, fun w' => by
    have h1 := hev x _ hx; have h2 := hev y _ hy
    simp only [RA] at h1 h2
    simp [execOp, eqGuard, Go.binOp, Op.stringOp, eqS, h1, h2, Sem.run_bind]⟩
theorem r_neq_str {xT yT : TypeId} {x y : Operand} {a b : ByteArray} (hx : evO fr x = some (.str a)) (hy : evO fr y = some (.str b)) :
    Reads P ⟨dst, .binOp .neq xT x y yT, ty, pos, aft, g⟩ fr H (.bool (!eqS a b)) :=
  reads_of fun ρ h M ev hev => ⟨_, rfl, fun w' => by
    have h1 := hev x _ hx; have h2 := hev y _ hy
    simp only [RA] at h1 h2
    simp [execOp, eqGuard, Go.binOp, Op.stringOp, eqS, h1, h2, Sem.run_bind]⟩
theorem r_lss_str {xT yT : TypeId} {x y : Operand} {a b : ByteArray} (hx : evO fr x = some (.str a)) (hy : evO fr y = some (.str b)) :
    Reads P ⟨dst, .binOp .lss xT x y yT, ty, pos, aft, g⟩ fr H (.bool (Op.bytesLess a.toList b.toList)) :=
  reads_of fun ρ h M ev hev => ⟨_, rfl, fun w' => by
    have h1 := hev x _ hx; have h2 := hev y _ hy
    simp only [RA] at h1 h2
    simp [execOp, eqGuard, Go.binOp, Op.stringOp, h1, h2, Sem.run_bind]⟩
theorem r_add_str {xT yT : TypeId} {x y : Operand} {a b : ByteArray} (hx : evO fr x = some (.str a)) (hy : evO fr y = some (.str b)) (hl : (a.size : Int) + (b.size : Int) ≤ 9223372036854775807) :
    Reads P ⟨dst, .binOp .add xT x y yT, ty, pos, aft, g⟩ fr H (.str (a ++ b)) :=
  reads_of fun ρ h M ev hev => ⟨_, rfl, fun w' => by
    have h1 := hev x _ hx; have h2 := hev y _ hy
    simp only [RA] at h1 h2
    have hm : IntKind.i64.max = 9223372036854775807 := by decide
    have hno : ¬ (((a.size + b.size : Nat) : Int) > IntKind.i64.max) := by rw [hm]; omega
    have hno' : ¬ (IntKind.i64.max < (a.size : Int) + (b.size : Int)) := by rw [hm]; omega
    simp [execOp, eqGuard, Go.binOp, Op.stringOp, h1, h2, Sem.run_bind, hno']
    omega⟩
/-- a whole array that is not written, as a slice -/
theorem r_slice_c {T E : TypeId} {x : Operand} {m : Nat} {t : Ty} {xs : List t.D} (hu : P.underlying T = some (.array m E)) (hs : ∀ w, (sizeOf E).run P w = .ok t.sz w) (hx : evO fr x = some (.cptr (.arr m t) xs)) (hm : Nat.ble 1 m = true) (hm2 : Nat.ble m 1000000 = true) :
    Reads P ⟨dst, .slice T x none none none, ty, pos, aft, g⟩ fr H (.v (.slice t) xs) := fun Γ n ρ w a s => by
  obtain ⟨b, off, F, c, T', z, pre, mid, post, e, hb, hh, hc, hp, h1, hF⟩ := s.ev hx
  have hm' := Nat.le_of_ble_eq_true hm
  have hm2' := Nat.le_of_ble_eq_true hm2
  have hbd := fun w' => run_bounds (P := P) (ρ := ρ) (h := World.hf w) (M := ownB ρ H) (fr := fr) (isSlice := false) (len := m) (cap := m) (lo := none) (hi := none) (l := 0) (m := (m : Int)) (fun o y h => s.ev h) .none .none (by omega) (by omega) (by omega) (Nat.le_refl _) w'
  simp only [Option.map_none] at hbd
  have hl := h1.1
  refine ⟨.slice (some ⟨b, off, none⟩) m m, ⟨b :: F, ⟨[_], ⟨by rw [hl]; simp only [lim]; omega, .inr ⟨b, off, 0, F, by rw [hl]; rfl, rfl, c, T', z, pre, mid, post, hh, hc, hp, h1.2⟩⟩, rfl⟩, fun y hy => by
    rcases List.mem_cons.1 hy with rfl | hy
    · exact hb
    · exact hF y hy⟩, fun w' _ => ?_⟩
  simp only [execOp, Instr.sliceAt, Sem.run_bind, run_underlying hu, Result.andThen_ok, e, Instr.sureAddr, Sem.run_pure, Option.map_none, hbd, hs]
  have hne : ¬ m = Int.toNat 0 := by simp; omega
  rw [if_neg hne]
  have e1 : (Addr.add ⟨b, off, none⟩ (Int.toNat 0 * t.sz)) = ⟨b, off, none⟩ := by simp [addr_add]
  simp [addr_add]
/-! ### Bytes of a string -/
def bytesI (s : ByteArray) : List Int := s.data.toList.map fun b => (b.toNat : Int)
theorem bytesI_len (s : ByteArray) : (bytesI s).length = s.size := by
  rw [bytesI, List.length_map, Array.length_toList]; rfl
theorem SIM.grow {Γ : Ctx} {ρ : Rho} {w w' : World} {a : Act} (s : SIM Γ n ρ w a fr H) (hk : Kept w w') : SIM Γ n ρ w' a fr H := by
  obtain ⟨ℓ, hh, hb⟩ := s.heap
  have hsame : ∀ b, World.hf w b ≠ none → World.hf w' b = World.hf w b := fun b h => hk.block b (hf_lt h) (fun h => h)
  have hM : ∀ b, ¬ ownB ρ H b → World.hf w b ≠ none → World.hf w' b = World.hf w b ∧ ¬ ownB ρ H b := fun b h1 h2 => ⟨hsame b h2, h1⟩
  refine ⟨s.defers, s.size, ⟨hk.os.trans s.ext.os, hk.tape.trans s.ext.tape, hk.output.trans s.ext.output, Nat.le_trans s.ext.size hk.size, fun i hi hm => ?_⟩, s.keep, s.own, ⟨ℓ, ⟨fun e he => ?_, hh.nd, hh.dj, hh.ids⟩, hb⟩, fun t x hx => ?_⟩
  · rw [hk.block i (Nat.lt_of_lt_of_le hi s.ext.size) (fun h => h)]
    exact s.ext.block i hi hm
  · exact (hh.blk e he).same (fun _ _ => rfl) hM (fun b hb' => hsame b (hh.there he b hb'))
  · obtain ⟨h1, h2⟩ := s.fr t x hx
    exact ⟨h1, h2.same x (fun _ _ => rfl) hM⟩
theorem relL_bytes {h : Hf} : ∀ (l : List UInt8), RelL (Rc h (.int .u8)) (l.map fun b => (b.toNat : Int)) (l.map fun b => Value.int .u8 b.toNat) []
  | [] => ⟨rfl, rfl⟩
  | b :: l => ⟨[_], _, [], [], rfl, rfl, ⟨rfl, rfl⟩, relL_bytes l⟩
theorem e_bytes {S T E : TypeId} {x : Operand} {b : ByteArray} {u : TypeDesc} (hs : P.underlying S = some u) (hd : P.underlying T = some (.slice E)) (he : P.underlying E = some (.int .u8)) (hx : evO fr x = some (.str b)) (hl : (b.size : Int) ≤ 9223372036854775807) :
    Eff P n ⟨dst, .convert S T x, ty, pos, aft, g⟩ fr H (.v (.slice (.int .u8)) (bytesI b)) fr H := fun Γ ρ w a s => by
  have hv := s.ev hx
  simp only [RA] at hv
  have hrun := Lib.run_convert_string_bytes w S T E b hs hd he
  have hkept : Kept w (Lib.bytesWorld w E b) := ⟨rfl, rfl, rfl, by rw [Lib.bytesWorld_size]; omega, fun k hk _ => Lib.bytesWorld_at_old w E b k hk⟩
  have hlt : ∀ k, ownB ρ H k → k < w.heap.size := by
    rintro k (⟨e, he', j, hj⟩ | hn)
    · obtain ⟨ℓ, hh, _⟩ := s.heap
      exact hf_lt (hh.there he' k (own_head hh he' hj))
    · rw [s.defers.2.1] at hn
      exact Nat.lt_of_lt_of_le (s.defers.2.2 k hn).2 s.ext.size
  have hcap := grownCap_ge w b.size 0 E
  refine ⟨.slice (some ⟨w.heap.size, 0, none⟩) b.size (grownCap w b.size 0 E), Lib.bytesWorld w E b, ρ, ?_, ⟨s.grow hkept, rfl, rfl, rfl, hkept.size, fun k hk _ => Lib.bytesWorld_at_old w E b k hk, fun e' he' k j hk => .inl ⟨e', he', rfl, hk⟩⟩, ?_⟩
  · simp only [execOp, hv, Sem.run_bind, hrun, Result.andThen_ok, Sem.run_pure]
  · refine ⟨[w.heap.size], ⟨[_], ⟨?_, .inr ⟨w.heap.size, 0, grownCap w b.size 0 E - b.size, [], ?_, rfl, Lib.bytesCells w E b, E, _, [], b.data.toList.map (fun b => Value.int .u8 b.toNat), List.replicate (grownCap w b.size 0 E - b.size) (.int .u8 0), Lib.bytesWorld_at_new w E b, by simp [Lib.bytesCells], rfl, relL_bytes _⟩⟩, rfl⟩, fun k hk h => ?_⟩
    · have := bytesI_len b
      show (bytesI b).length ≤ lim
      rw [this]; simp only [lim]; omega
    · have := bytesI_len b
      show _ = [Value.slice (some ⟨w.heap.size, 0, none⟩) (bytesI b).length ((bytesI b).length + _)]
      rw [this, Nat.add_sub_cancel' hcap]
    · simp only [List.mem_singleton] at hk
      have := hlt k h
      omega
/-- internal/bytealg.IndexByteString -/
theorem r_indexByte {fo x y : Operand} {tys : Array TypeId} {f : FuncId} {fn : Func} {b : ByteArray} {c : Int} (hf : P.funcs[f]? = some fn) (hname : (fn.name == "runtime.NumGoroutine") = false) (hb : fn.body.isNone = true) (hn : Extern.findNext fn = none) (he : Extern.find fn = some Extern.BytealgIndexByte.indexByte)
    (hfo : evO fr fo = some (.fn f [])) (hx : evO fr x = some (.str b)) (hy : evO fr y = some (.int .u8 c)) :
    Reads P ⟨dst, .call ⟨.value fo, #[x, y], tys⟩, ty, pos, aft, g⟩ fr H (.int .i64 (Lib.indexByte b.data.toList c.toNat.toUInt8)) := fun Γ n ρ w a s => by
  obtain ⟨vs, h1, h2⟩ := s.ev hfo
  simp only [RAs] at h2
  subst h2
  have hx' := s.ev hx
  have hy' := s.ev hy
  simp only [RA] at hx' hy'
  refine ⟨_, rfl, fun w' _ => ?_⟩
  have := run_callFunc_extern hf hname hb hn he #[.string b, .int .u8 c] w'
  rw [Lib.run_indexByteString] at this
  simp only [Result.andThen_ok] at this
  simp [execOp, resolve, h1, Deferred.ofValue, invoke, hx', hy', this]
end
end Go.GA
