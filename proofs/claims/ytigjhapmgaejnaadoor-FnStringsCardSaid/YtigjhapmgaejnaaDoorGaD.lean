/- Structs with slices of their own: loaded, built, handed over; nil slices in variables. -/
import Derived.Test.YtigjhapmgaejnaaDoorGaC
import Derived.Lib.ConvBytes
import Derived.Lib.Bytealg
import Derived.Laws.Externs
import Derived.Sort.Grow
import Derived.RangeFuncLeaves
import Derived.RangeFuncOwn
import Derived.OrdersIn
import Derived.TacticsIn
import Derived.ControlIn
import Derived.Laws.BytesString
import Derived.Laws.CopyRow
import Derived.Lib.SplitLaws
import Derived.Lib.Join
import Derived.Lib.AtoiAll
section
namespace Go.GA
open Go Go.RowKit
def compAVs : List Comp → List AV
  | [] => []
  | .cell a :: cs => a :: compAVs cs
  | .arr t n xs :: cs => .v (.arr n t) xs :: compAVs cs
/-- arrays in it hold no slices -/
def flatComps : List Comp → Bool
  | [] => true
  | .cell _ :: cs => flatComps cs
  | .arr t _ _ :: cs => t.flat && flatComps cs
theorem comps_st {ρ : Rho} {h : Hf} {M : Nat → Prop} : ∀ {cs : List Comp} {vs F}, flatComps cs = true → RComps ρ h M cs vs F → ∃ us, RAs ρ h M (compAVs cs) us ∧ cellsOf us = vs ∧ F = []
  | [], vs, F, _, hr => ⟨[], rfl, by rw [hr.1]; rfl, hr.2⟩
  | .cell a :: cs, vs, F, hf, hr => by
    obtain ⟨v, cs', e, h1, h2, h3⟩ := hr
    obtain ⟨us, h4, h5, h6⟩ := comps_st (cs := cs) hf h3
    refine ⟨v :: us, ⟨v, us, rfl, h2, h4⟩, ?_, h6⟩
    rw [e, ← h5]
    simp [cellsOf, one_cells h2 h1]
  | .arr t n xs :: cs, vs, F, hf, hr => by
    simp only [flatComps, Bool.and_eq_true] at hf
    obtain ⟨c1, c2, F1, F2, e, eF, h1, h2⟩ := hr
    obtain ⟨us, h4, h5, h6⟩ := comps_st (cs := cs) hf.2 h2
    have hF1 := Rc.flat (.arr n t) hf.1 h1
    subst hF1; subst h6
    refine ⟨.agg c1.toArray :: us, ⟨_, us, rfl, ⟨[], ⟨c1, h1, rfl⟩, by simp⟩, h4⟩, ?_, by rw [eF]; rfl⟩
    rw [e, ← h5]
    simp [cellsOf, Value.cells]
section
variable {P : Program} {Γ : Ctx} {n : Sz} {fr : Fr} {H H' : Hp} {dst : Option Nat} {ty : TypeId} {pos : String} {aft : Array Edge} {g : Option (Nat × Bool)}
/-! ### Zero values, literals -/
def zC : Ty → List Comp
  | .bool => [.cell (.bool false)]
  | .int k => [.cell (.int k 0)]
  | .str => [.cell (.str .empty)]
  | .slice _ => [.cell .nilsl]
  | .arr n t => [.arr t n (List.replicate n t.dflt)]
  | .pair a b => zC a ++ zC b
  | .unit => []
theorem zC_ok (ρ : Rho) (h : Hf) (M : Nat → Prop) : ∀ (t : Ty), RComps ρ h M (zC t) (zc t) []
  | .bool => ⟨_, _, rfl, rfl, rfl, rfl, rfl⟩
  | .int _ => ⟨_, _, rfl, rfl, rfl, rfl, rfl⟩
  | .str => ⟨_, _, rfl, rfl, rfl, rfl, rfl⟩
  | .slice _ => ⟨_, _, rfl, rfl, rfl, rfl, rfl⟩
  | .arr n t => ⟨zc (.arr n t), [], [], [], by simp, rfl, zc_ok h (.arr n t), rfl, rfl⟩
  | .pair a b => RComps.append (F := []) (G := []) (zC_ok ρ h M a) (zC_ok ρ h M b)
  | .unit => ⟨rfl, rfl⟩
def Places (P : Program) : List Field → List (Nat × Nat) → Prop
  | [], [] => True
  | f :: fs, (o, s) :: l => f.offset = o ∧ (∀ w, (sizeOf f.type).run P w = .ok s w) ∧ Places P fs l
  | _, _ => False
theorem places_run : ∀ {fs : List Field} {l : List (Nat × Nat)}, Places P fs l → ∀ w, (fs.mapM fun f => do pure (f.offset, ← sizeOf f.type) : Sem (List (Nat × Nat))).run P w = .ok l w
  | [], [], _, w => rfl
  | f :: fs, (o, s) :: l, h, w => by
    obtain ⟨h1, h2, h3⟩ := h
    have ih := places_run h3 w
    subst h1
    simp only [List.mapM_cons, Sem.run_bind, h2, Result.andThen_ok, Sem.run_pure, ih]
  | [], _ :: _, h, _ => h.elim
  | _ :: _, [], h, _ => h.elim
/-- the parts put in, one after the other -/
def buildC (fr : Fr) : List Comp → List (Nat × Nat) → List (Nat × Operand) → Option (List Comp)
  | cs, _, [] => some cs
  | cs, pl, (i, o) :: l => match pl[i]?, evO fr o with
    | some (off, sz), some y => bif boxable y && Nat.beq (compsSz (toComps y)) sz then (match putAt cs off (toComps y) with
      | some cs' => buildC fr cs' pl l
      | none => none) else none
    | _, _ => none
theorem fill_comps {ρ : Rho} {h : Hf} {M : Nat → Prop} {ev : Operand → Value} (hev : ∀ o y, evO fr o = some y → RA ρ h M y (ev o)) {pl : List (Nat × Nat)} : ∀ {l : List (Nat × Operand)} {cs cs' : List Comp} {A : Array Value}, RComps ρ h M cs A.toList [] → buildC fr cs pl l = some cs' →
    ∃ B : Array Value, Instr.fill (pl.toArray[·]?) A (l.map fun p => (p.1, ev p.2)) = some B ∧ RComps ρ h M cs' B.toList []
  | [], cs, cs', A, hA, hb => by
    simp only [buildC, Option.some.injEq] at hb
    subst hb
    exact ⟨A, rfl, hA⟩
  | (i, o) :: l, cs, cs', A, hA, hb => by
    simp only [buildC] at hb
    split at hb
    · rename_i off sz y hpl hy
      cases hc : boxable y && Nat.beq (compsSz (toComps y)) sz with
      | false => rw [hc] at hb; cases hb
      | true =>
        rw [hc] at hb
        simp only [cond_true] at hb
        simp only [Bool.and_eq_true] at hc
        have hsz := Nat.eq_of_beq_eq_true hc.2
        split at hb
        · rename_i c1 hp
          have hn := ra_comps y (hev o y hy) hc.1
          obtain ⟨hle, F', h1, _, h2⟩ := putAt_ok hA hn hp (fun b _ _ => ⟨rfl, by assumption⟩) (fun _ _ => rfl) List.nodup_nil
          have hF : F' = [] := by
            cases F' with
            | nil => rfl
            | cons b F => exact absurd (h2 b (by simp)) (by simp)
          subst hF
          have hl := hn.len
          have hcsz : (ev o).cells.size = sz := by rw [← hsz, ← hl]; simp
          have hfold := foldl_set off (ev o).cells.toList 0 A (by simpa using hle)
          have hfold' : (ev o).cells.zipIdx.foldl (fun (A : Array Value) (p : Value × Nat) => A.setIfInBounds (off + p.2) p.1) A = (A.toList.take off ++ (ev o).cells.toList ++ A.toList.drop (off + (ev o).cells.toList.length)).toArray := by
            rw [← Array.foldl_toList, Array.toList_zipIdx, hfold]; simp
          obtain ⟨B, h3, h4⟩ := fill_comps hev (l := l) (A := (A.toList.take off ++ (ev o).cells.toList ++ A.toList.drop (off + (ev o).cells.toList.length)).toArray) (by simpa using h1) hb
          refine ⟨B, ?_, h4⟩
          simp only [List.map_cons, Instr.fill, List.getElem?_toArray, hpl]
          have hno : ¬ ((ev o).cells.size ≠ sz ∨ off + (ev o).cells.size > A.size) := by
            rw [hcsz]
            have : (ev o).cells.toList.length = sz := by simpa using hcsz
            rw [this] at hle
            simp only [Array.length_toList] at hle
            omega
          rw [if_neg (by simpa using hno)]
          have hfold2 : Array.foldl (fun cs (x : Value × Nat) => match x with | (c, j) => cs.setIfInBounds (off + j) c) A (ev o).cells.zipIdx = (A.toList.take off ++ (ev o).cells.toList ++ A.toList.drop (off + (ev o).cells.toList.length)).toArray := hfold'
          rw [hfold2]
          simpa only [List.getElem?_toArray] using h3
        · cases hb
    · cases hb
/-- a struct literal -/
theorem r_build_st {T : TypeId} {fields : Array Field} {l : List (Nat × Operand)} {z : Value} {cs : List Comp} {xs : List AV} (t : Ty) (pl : List (Nat × Nat)) (ht : P.underlying T = some (.struct fields)) (hz : ∀ w, (zeroValue T).run P w = .ok z w) (hzs : z.cells.toList = zc t)
    (hp : Places P fields.toList pl) (hb : buildC fr (zC t) pl l = some cs) (hf : flatComps cs = true) (hxs : compAVs cs = xs) :
    Reads P ⟨dst, .build T l.toArray, ty, pos, aft, g⟩ fr H (.st xs) := fun Γ n' ρ w a s => by
  subst hxs
  obtain ⟨B, h1, h2⟩ := fill_comps (fr := fr) (ρ := ρ) (h := World.hf w) (M := ownB ρ H) (ev := a.eval) (fun o y h => s.ev h) (A := z.cells) (by rw [hzs]; exact zC_ok _ _ _ t) hb
  obtain ⟨us, h3, h4, _⟩ := comps_st hf h2
  refine ⟨.agg B, ⟨us, by rw [h4], h3⟩, fun w' _ => ?_⟩
  have hm : ∀ w, (fields.mapM fun f => do pure (f.offset, ← sizeOf f.type) : Sem (Array (Nat × Nat))).run P w = .ok pl.toArray w := fun w => by
    have e : fields = fields.toList.toArray := rfl
    rw [e, List.mapM_toArray, map_eq_pure_bind, Sem.run_bind, places_run hp w]
    rfl
  simp only [execOp, Instr.build, Sem.run_bind, hz, run_underlying ht, Result.andThen_ok, hm, List.map_toArray]
  rw [h1]
  simp
/-! ### A nil slice in a variable, as a row of the call's own -/
end
end Go.GA
end
section
namespace Go.GA
open Go Go.RowKit
section
variable {P : Program} {n : Sz} {fr : Fr} {H : Hp} {dst : Option Nat} {ty : TypeId} {pos : String} {aft : Array Edge} {g : Option (Nat × Bool)}
end
end Go.GA
end
section
namespace Go.GA
open Go Go.RowKit
/-- two strings are the same -/
def eqS (a b : ByteArray) : Bool := a.toList == b.toList
section
variable {P : Program} {n : Sz} {fr : Fr} {H : Hp} {dst : Option Nat} {ty : TypeId} {pos : String} {aft : Array Edge} {g : Option (Nat × Bool)}
theorem r_eql_str {xT yT : TypeId} {x y : Operand} {a b : ByteArray} (hx : evO fr x = some (.str a)) (hy : evO fr y = some (.str b)) :
    Reads P ⟨dst, .binOp .eql xT x y yT, ty, pos, aft, g⟩ fr H (.bool (eqS a b)) :=
  reads_of fun ρ h M ev hev => ⟨_, rfl, fun w' => by
    have h1 := hev x _ hx; have h2 := hev y _ hy
    simp only [RA] at h1 h2
    simp [execOp, eqGuard, Go.binOp, Op.stringOp, eqS, h1, h2, Sem.run_bind]⟩
theorem r_neq_str {xT yT : TypeId} {x y : Operand} {a b : ByteArray} (hx : evO fr x = some (.str a)) (hy : evO fr y = some (.str b)) :
    Reads P ⟨dst, .binOp .neq xT x y yT, ty, pos, aft, g⟩ fr H (.bool (!eqS a b)) :=
  reads_of fun ρ h M ev hev => ⟨_, rfl, fun w' => by
    have h1 := hev x _ hx; have h2 := hev y _ hy
    simp only [RA] at h1 h2
    simp [execOp, eqGuard, Go.binOp, Op.stringOp, eqS, h1, h2, Sem.run_bind]⟩
theorem r_add_str {xT yT : TypeId} {x y : Operand} {a b : ByteArray} (hx : evO fr x = some (.str a)) (hy : evO fr y = some (.str b)) (hl : (a.size : Int) + (b.size : Int) ≤ 9223372036854775807) :
    Reads P ⟨dst, .binOp .add xT x y yT, ty, pos, aft, g⟩ fr H (.str (a ++ b)) :=
  reads_of fun ρ h M ev hev => ⟨_, rfl, fun w' => by
    have h1 := hev x _ hx; have h2 := hev y _ hy
    simp only [RA] at h1 h2
    have hm : IntKind.i64.max = 9223372036854775807 := by decide
    have hno : ¬ (((a.size + b.size : Nat) : Int) > IntKind.i64.max) := by rw [hm]; omega
    have hno' : ¬ (IntKind.i64.max < (a.size : Int) + (b.size : Int)) := by rw [hm]; omega
    simp [execOp, eqGuard, Go.binOp, Op.stringOp, h1, h2, Sem.run_bind, hno']
    omega⟩
/-! ### Bytes of a string -/
def bytesI (s : ByteArray) : List Int := s.data.toList.map fun b => (b.toNat : Int)
theorem bytesI_len (s : ByteArray) : (bytesI s).length = s.size := by
  rw [bytesI, List.length_map, Array.length_toList]; rfl
theorem SIM.grow {Γ : Ctx} {ρ : Rho} {w w' : World} {a : Act} (s : SIM Γ n ρ w a fr H) (hk : Kept w w') : SIM Γ n ρ w' a fr H := by
  obtain ⟨ℓ, hh, hb⟩ := s.heap
  have hsame : ∀ b, World.hf w b ≠ none → World.hf w' b = World.hf w b := fun b h => hk.block b (hf_lt h) (fun h => h)
  have hM : ∀ b, ¬ ownB ρ H b → World.hf w b ≠ none → World.hf w' b = World.hf w b ∧ ¬ ownB ρ H b := fun b h1 h2 => ⟨hsame b h2, h1⟩
  refine ⟨s.defers, s.size, ⟨hk.os.trans s.ext.os, hk.tape.trans s.ext.tape, hk.output.trans s.ext.output, Nat.le_trans s.ext.size hk.size, fun i hi hm => ?_⟩, s.keep, s.own, ⟨ℓ, ⟨fun e he => ?_, hh.nd, hh.dj, hh.ids⟩, hb⟩, fun t x hx => ?_⟩
  · rw [hk.block i (Nat.lt_of_lt_of_le hi s.ext.size) (fun h => h)]
    exact s.ext.block i hi hm
  · exact (hh.blk e he).same (fun _ _ => rfl) hM (fun b hb' => hsame b (hh.there he b hb'))
  · obtain ⟨h1, h2⟩ := s.fr t x hx
    exact ⟨h1, h2.same x (fun _ _ => rfl) hM⟩
/-- internal/bytealg.IndexByteString -/
theorem r_indexByte {fo x y : Operand} {tys : Array TypeId} {f : FuncId} {fn : Func} {b : ByteArray} {c : Int} (hf : P.funcs[f]? = some fn) (hname : (fn.name == "runtime.NumGoroutine") = false) (hb : fn.body.isNone = true) (hn : Extern.findNext fn = none) (he : Extern.find fn = some Extern.BytealgIndexByte.indexByte)
    (hfo : evO fr fo = some (.fn f [])) (hx : evO fr x = some (.str b)) (hy : evO fr y = some (.int .u8 c)) :
    Reads P ⟨dst, .call ⟨.value fo, #[x, y], tys⟩, ty, pos, aft, g⟩ fr H (.int .i64 (Lib.indexByte b.data.toList c.toNat.toUInt8)) := fun Γ n ρ w a s => by
  obtain ⟨vs, h1, h2⟩ := s.ev hfo
  simp only [RAs] at h2
  subst h2
  have hx' := s.ev hx
  have hy' := s.ev hy
  simp only [RA] at hx' hy'
  refine ⟨_, rfl, fun w' _ => ?_⟩
  have := run_callFunc_extern hf hname hb hn he #[.string b, .int .u8 c] w'
  rw [Lib.run_indexByteString] at this
  simp only [Result.andThen_ok] at this
  simp [execOp, resolve, h1, Deferred.ofValue, invoke, hx', hy', this]
end
end Go.GA
end
section
namespace Go.GA
open Go Go.RowKit
section
variable {H : Hp}
end
section
variable {P : Program} {n : Sz} {fr : Fr} {H : Hp} {dst : Option Nat} {ty : TypeId} {pos : String} {aft : Array Edge} {g : Option (Nat × Bool)}
end
end Go.GA
end
section
namespace Go.GA
open Go Go.RowKit
section
variable {P : Program} {n : Sz} {fr : Fr} {H : Hp} {dst : Option Nat} {ty : TypeId} {pos : String} {aft : Array Edge} {g : Option (Nat × Bool)}
end
end Go.GA
end
section
namespace Go.GA
open Go Go.RowKit

section
variable {P : Program} {ops : Array Oper} {Q : Exit → Act → World → Prop}
end

section
variable {P : Program} {Γ : Ctx} {n : Sz} {Q : Exit → Act → World → Prop} {fr fr' : Fr} {H H' : Hp} {all : Array Oper} {ty : TypeId} {pos : String} {aft : Array Edge} {op : Op}
end
end Go.GA
end
section
namespace Go.GA
open Go Go.RowKit
section
variable {P : Program} {Γ : Ctx} {n : Sz} {Q : Exit → Act → World → Prop} {fr fr' : Fr} {H H' Hc : Hp} {all : Array Oper} {ops : List Oper} {ty : TypeId} {pos : String} {aft : Array Edge}
theorem ao_callV [LaidS P Γ] {g : Option (Nat × Bool)} {d : Nat} {f : FuncId} {fn : Func} {fo : Operand} {as : List Operand} {tys : Array TypeId} {caps xs ys : List AV} {R : AV → Hp → Prop} (l : List Nat) (base : Nat) (hg : gOK all fr g) (hc : ACallsV P f ys Hc R)
    (hf : P.funcs[f]? = some fn) (hbody : fn.body.isNone = false) (hname : (fn.name == "runtime.NumGoroutine") = false)
    (hfo : evO fr fo = some (.fn f caps)) (hxs : evOs fr as = some xs) (hA : xs ++ caps = AV.renL (sg l base) ys) (hR : SubHR H (sg l base) Hc) (hS : SubH H Hc (sg l base) Hc) (hks : hkeys Hc = List.range l.length) (hl : allLt base l = true) (hln : injB (fun i => i) l = true)
    (hfr : allLt base (Fr.ids fr) = true) (hH : allLt base (Hp.ids H) = true) (hK : Nat.ble n.K base = true) (hd : Nat.blt d n.n = true)
    (h : ∀ r H', R r H' → AO P Γ n all Q ops ((d, r.ren (sg l base)) :: fr) (hdel l H ++ hren (sg l base) H')) :
    AO P Γ n all Q (⟨some d, .call ⟨.value fo, as.toArray, tys⟩, ty, pos, aft, g⟩ :: ops) fr H := fun ρ w a s => by
  obtain ⟨cv, hcv, hcaps⟩ := s.ev hfo
  refine wpList_go (s.wanted hg) fun K hK' => ?_
  unfold Oper.wp
  rw [run_callv rfl hcv hf hbody hname, Oper.upon_enter]
  refine (call_simV hc l base s (evOs_append (evOs_ok (fun o y h => s.ev h) hxs) hcaps) hA hR hS hks hl hln hfr hH hK).mono ?_
  rintro e w' ⟨v, r, H', ρ', rfl, hR, s', hv, _⟩
  exact hK' _ _ (h r H' hR ρ' w' _ (s'.put hd hv))
end
section
variable {P : Program} {Γ : Ctx} {n : Sz} {Q : Exit → Act → World → Prop} {fr fr' : Fr} {H H' : Hp} {all : Array Oper} {ty : TypeId} {pos : String} {aft : Array Edge} {op : Op}
variable {m f base : Nat} {T : Act → World → Prop} {listed : Array Bool}
/-- the same in a line of operations -/
theorem ao_frz {ops : List Oper} (hfr : SubFr H H' (fun i => i) fr fr') (hH : SubH H H' (fun i => i) H') (hi : injB (fun i => i) (hkeys H') = true) (h : AO P Γ n all Q ops fr' H') : AO P Γ n all Q ops fr H := AO.sub (sub_mk (fun i => i) hfr hH hi (fun _ _ => rfl)) h
end
end Go.GA
end
section
namespace Go.GA
open Go Go.RowKit
section
variable {P : Program} {n : Sz} {fr : Fr} {H : Hp} {dst : Option Nat} {ty : TypeId} {pos : String} {aft : Array Edge} {g : Option (Nat × Bool)}
end
end Go.GA
end
section
namespace Go.GA
open Go Go.RowKit
/-- strconv.Itoa -/
def p_strconv_Itoa (x0 : Int) : Option ByteArray := if -9223372036854775808 ≤ x0 ∧ x0 ≤ 9223372036854775807 then some ⟨(Lib.itoa x0).toArray⟩ else none
theorem itoa_scalar {P : Program} {f : FuncId} {g : Nat} (hg : P.globalNamed "internal/strconv.uint64pow10" = some g)
    (hI : ∀ (n : Int), -9223372036854775808 ≤ n → n ≤ 9223372036854775807 → ∀ w : World, Lib.TabIs P w "internal/strconv.uint64pow10" .u64 Lib.pow10Tab →
      Calls P f #[.int .i64 n] w fun e w' => e = .returned (.string ⟨(Lib.itoa n).toArray⟩) ∧ ∃ k os, w' = Sort.grow (w.drewN k) os)
    {x0 : Int} {r : ByteArray} (h : Is (p_strconv_Itoa x0) (some r)) : Scalar P f [.int .i64 x0] (.str r) := by
  unfold p_strconv_Itoa at h
  obtain ⟨hn, h⟩ := is_guard h
  obtain rfl := is_some h
  intro ρ w vs ℓ h1 h2 hN hLd
  obtain ⟨v, vs', rfl, hv, hr⟩ := h1
  simp only [RAs] at hr
  subst hr
  have hv' : v = .int .i64 x0 := hv
  subst hv'
  refine (hI x0 hn.1 hn.2 w (hLd.1 g hg).1).mono ?_
  rintro e w' ⟨rfl, k, os, rfl⟩
  have hd : ∀ k, (w.drewN k).heap = w.heap := fun k => by simp
  refine ⟨_, _, [], ρ, fun _ => [], rfl, ⟨⟨⟨rfl, rfl⟩, rfl, rfl⟩, by simp, ⟨rfl, rfl, rfl, by simp [Sort.grow], fun i hi _ => ?_⟩, ⟨by simp, by simp, by simp, by simp⟩, ?_, ?_, rfl, rfl⟩⟩
  · simp only [Sort.grow, hd]
    rw [Array.getElem?_append_left hi]
  · rintro b ⟨e, he, _⟩; cases he
  · rintro b ⟨e, he, _⟩; cases he
end Go.GA
end
section
namespace Go.GA
open Go Go.RowKit
section
variable {P : Program} {Γ : Ctx} {n : Sz} {Q : Exit → Act → World → Prop} {fr fr' : Fr} {H H' : Hp} {dst : Option Nat} {ty : TypeId} {pos : String} {aft : Array Edge} {g : Option (Nat × Bool)} {all : Array Oper}
variable {xT yT : TypeId} {x y : Operand} {a b : Int} {k : IntKind}
end
end Go.GA
end
section
namespace Go.GA
open Go Go.RowKit
section
variable {P : Program} {Γ : Ctx} {n : Sz} {Q : Exit → Act → World → Prop} {fr fr' : Fr} {H H' : Hp} {all : Array Oper} {ty : TypeId} {pos : String} {aft : Array Edge} {op : Op}
variable {g : Nat} {listed : Array Bool}
end
end Go.GA
namespace Go.GA
open Go Go.RowKit
section
variable {P : Program} {Γ : Ctx} {n : Sz} {Q : Exit → Act → World → Prop} {fr fr1 : Fr} {H H1 : Hp} {all : Array Oper} {g0 : Nat} {listed0 : Array Bool}
end
end Go.GA
end
section
namespace Go.GA
open Go Go.RowKit
section
variable {P : Program} {n : Sz} {fr : Fr} {H : Hp} {dst : Option Nat} {ty : TypeId} {pos : String} {aft : Array Edge} {g : Option (Nat × Bool)}
end
end Go.GA
end
section
namespace Go.GA
open Go Go.RowKit

/-- 'ao' with the frame 'fro' waits; Γi is the context of what runs meanwhile; the blocks X may have been turned -/
structure Susp (Γo : Ctx) (no : Sz) (fro : Fr) (ao : Act) (X : Nat → Prop) (Γi : Ctx) (K B : Nat) : Prop where
  ex : ∃ ρ w H, SIM Γo no ρ w ao fro H ∧ w.heap.size = B ∧
    (∀ i, i < K → Γi.ρ0 i = ρ i) ∧ (∀ b, ρ.N b → Γi.ρ0.N b) ∧ (∀ b, Γi.ρ0.N b → b < B → ρ.N b) ∧ (∀ b, Γi.M0 b → namB ρ H b ∨ B ≤ b) ∧
    (∀ k, k < B → ¬ X k → ¬ namB ρ H k → Γi.W0.heap[k]? = w.heap[k]?) ∧ Γi.W0.os = w.os ∧ Γi.W0.tape = w.tape ∧ Γi.W0.output = w.output
  L0 : ∀ b, Γi.L0 b → Γo.L0 b ∨ Γo.W0.heap.size ≤ b
  ML : ∀ b, Γi.M0 b → Γi.L0 b
  size : B ≤ Γi.W0.heap.size
  X : ∀ k, X k → Γi.ρ0.N k
  ids : ∀ t x, get fro t = some x → ∀ i ∈ x.ids, i < K
  hK : no.K ≤ K

theorem SIM.susp {Γo : Ctx} {no : Sz} {ρ : Rho} {w : World} {ao : Act} {fro : Fr} {H : Hp} (s : SIM Γo no ρ w ao fro H) {K : Nat}
    (X : Nat → Prop) (w1 : World) (N : Nat → Prop) (dl : List Deferred) (ho : w1.os = w.os ∧ w1.tape = w.tape ∧ w1.output = w.output) (hsz : w.heap.size ≤ w1.heap.size) (hb : ∀ k, k < w.heap.size → ¬ X k → w1.heap[k]? = w.heap[k]?)
    (hN1 : ∀ b, ρ.N b → N b) (hN2 : ∀ b, N b → b < w.heap.size → ρ.N b) (hN3 : ∀ b, N b → b < w1.heap.size) (hX : ∀ k, X k → N k) :
    ∃ Γi, Γi.W0 = w1 ∧ Γi.ρ0 = ⟨ρ.f, N⟩ ∧ Γi.dl = dl ∧ (∀ b, Γi.M0 b ↔ namB ρ H b) ∧ (∀ b, Γi.M0 b → Γi.L0 b) ∧ (∀ b, Γi.L0 b → Γo.L0 b ∨ Γo.W0.heap.size ≤ b) ∧
      ((∀ t x, get fro t = some x → ∀ i ∈ x.ids, i < K) → no.K ≤ K → Susp Γo no fro ao X Γi K w.heap.size) ∧
      ∀ (ni : Sz) (a : Act) (fr : Fr), a.tmps.size = ni.n → a.defers = dl → (∀ t x, get fr t = some x → t < ni.n ∧ RA ρ (World.hf w) (ownB ρ H) x (a.tmps.getD t undef)) → SIM Γi ni ⟨ρ.f, N⟩ w1 a fr H := by
  obtain ⟨ℓ, hk, hl⟩ := s.heap
  have hap := s.apart hl
  have hML : ∀ b, namB ρ H b → inL ℓ H b := fun b ⟨e, he, k, hbk⟩ => ⟨e, he, hk.own_mem e he b k hbk⟩
  have hL0 : ∀ b, inL ℓ H b → Γo.L0 b ∨ Γo.W0.heap.size ≤ b := fun b ⟨e, he, hbe⟩ => hl e he b hbe
  refine ⟨{ W0 := w1, M0 := namB ρ H, L0 := inL ℓ H, ρ0 := ⟨ρ.f, N⟩, dl := dl }, rfl, rfl, rfl, fun _ => Iff.rfl, hML, hL0, fun hids hK => ⟨⟨ρ, w, H, s, rfl, fun _ _ => rfl, hN1, hN2, fun b h => .inl h, fun k hk' hx _ => hb k hk' hx, ho⟩, hL0, hML, hsz, hX, hids, hK⟩, ?_⟩
  intro ni a fr h1 h2 h3
  have hnX : ∀ b, ¬ ρ.N b → b < w.heap.size → ¬ X b := fun b hn hlt hx => hn (hN2 b (hX b hx) hlt)
  have hM : ∀ b, ¬ ownB ρ H b → World.hf w b ≠ none → World.hf w1 b = World.hf w b ∧ ¬ ownB ⟨ρ.f, N⟩ H b := fun b hbn hh => by
    have hlt := hf_lt hh
    refine ⟨hb b hlt (hnX b (fun h => hbn (.inr h)) hlt), ?_⟩
    rintro (h | h)
    · exact hbn (.inl h)
    · exact hbn (.inr (hN2 b h hlt))
  refine ⟨⟨h2, rfl, fun b h => ⟨fun ⟨e, he, hbe⟩ => ?_, hN3 b h⟩⟩, h1, Ext.refl _ _, fun _ _ => rfl, fun b h => .inl h, ⟨ℓ, ⟨fun e he => (hk.blk e he).same (fun _ _ => rfl) hM (fun b hbe => ?_), hk.nd, hk.dj, hk.ids⟩, fun e he b h => .inl ⟨e, he, h⟩⟩, fun t x hx => ?_⟩
  · have hlt := hf_lt (hk.there he b hbe)
    exact hap b (hN2 b h hlt) ⟨e, he, hbe⟩
  · have hlt := hf_lt (hk.there he b hbe)
    exact hb b hlt (hnX b (fun h => hap b h ⟨e, he, hbe⟩) hlt)
  · obtain ⟨h4, h5⟩ := h3 t x hx
    exact ⟨h4, h5.same x (fun _ _ => rfl) hM⟩

section
variable {Γo Γi : Ctx} {no ni : Sz} {fro fr : Fr} {ao a : Act} {X : Nat → Prop} {K B : Nat} {ρ : Rho} {w w2 : World} {H : Hp}
/-- a frame that waits goes on waiting while the one that ran waits, too -/
theorem Susp.trans (s : Susp Γo no fro ao X Γi K B) (t : SIM Γi ni ρ w a fr H) (hn : ni.K = K) {Γa : Ctx} {Y : Nat → Prop} (hρ : ∀ i, i < K → Γa.ρ0 i = ρ i) (hNa : Γa.ρ0.N = Γi.ρ0.N) (hM : ∀ b, Γa.M0 b → namB ρ H b) (hML : ∀ b, Γa.M0 b → Γa.L0 b)
    (hL : ∀ b, Γa.L0 b → Γi.L0 b ∨ Γi.W0.heap.size ≤ b) (ho : Γa.W0.os = w.os ∧ Γa.W0.tape = w.tape ∧ Γa.W0.output = w.output) (hsz : w.heap.size ≤ Γa.W0.heap.size) (hb : ∀ k, k < w.heap.size → ¬ Y k → Γa.W0.heap[k]? = w.heap[k]?) (hY : ∀ k, k < B → Y k → X k) :
    Susp Γo no fro ao X Γa K B := by
  obtain ⟨ρs, ws, Hs, ss, eB, e1, e2, e3, e4, e10, e6, e7, e8⟩ := s.ex
  have e9 := s.size
  have hsz1 : Γo.W0.heap.size ≤ ws.heap.size := ss.ext.size
  have hsz2 : Γi.W0.heap.size ≤ w.heap.size := t.ext.size
  refine ⟨⟨ρs, ws, Hs, ss, eB, fun i hi => ((hρ i hi).trans (t.keep i (by omega))).trans (e1 i hi), fun b h => hNa ▸ e2 b h, fun b h => e3 b (hNa ▸ h), fun b h => ?_, fun k hk hx hm => ?_, (ho.1.trans t.ext.os).trans e6, (ho.2.1.trans t.ext.tape).trans e7, (ho.2.2.trans t.ext.output).trans e8⟩, fun b h => ?_, hML, by omega, fun k h => hNa ▸ s.X k h, s.ids, s.hK⟩
  · rcases t.own b (hM b h) with h | h
    · exact e4 b h
    · exact .inr (by omega)
  · refine ((hb k (by omega) (fun hy => hx (hY k hk hy))).trans (t.ext.block k (by omega) (fun h => ?_))).trans (e10 k hk hx hm)
    rcases e4 k h with h | h
    · exact hm h
    · omega
  · rcases hL b h with h | h
    · exact s.L0 b h
    · exact .inr (by omega)
theorem Susp.laid {P : Program} [hL : LaidS P Γo] (s : Susp Γo no fro ao X Γi K B) (hX : ∀ k, X k → ∀ c T z, Γo.W0.heap[k]? ≠ some (.cells c T z)) : LaidS P Γi := by
  obtain ⟨ρs, ws, Hs, ss, eB, e1, e2, e3, e4, e10, e6, e7, e8⟩ := s.ex
  have key : ∀ g, g < Γo.W0.heap.size → ¬ Γo.M0 g → ¬ X g → Γi.W0.heap[g]? = Γo.W0.heap[g]? ∧ ¬ Γi.M0 g := fun g hlt h2 hnX => by
    have hn : ¬ namB ρs Hs g := fun h => by
      rcases ss.own g h with h | h
      · exact h2 h
      · omega
    have hlt2 : g < ws.heap.size := Nat.lt_of_lt_of_le hlt ss.ext.size
    exact ⟨(e10 g (by omega) hnX hn).trans (ss.ext.block g hlt h2), fun h => by
      rcases e4 g h with h | h
      · exact hn h
      · omega⟩
  refine ⟨fun g hg => ?_, fun nm g hnm hg => ?_⟩
  · obtain ⟨h1, h2⟩ := hL.laid.1 g hg
    have hlt := tab_lt hg h1
    have hnX : ¬ X g := fun hx => by
      have h3 := h1
      unfold Lib.TabIs World.var? at h3
      rw [hg] at h3
      simp only [Option.bind_some] at h3
      split at h3
      · rename_i hh; exact hX g hx _ _ _ hh
      · cases h3
    obtain ⟨k1, k2⟩ := key g hlt h2 hnX
    exact ⟨tab_same hg k1 h1, k2⟩
  · obtain ⟨h1, h2⟩ := hL.laid.2 nm g hnm hg
    have hlt := err_lt h1
    have hnX : ¬ X g := fun hx => by
      obtain ⟨c, T, z, ev, h3, _⟩ := h1
      exact hX g hx _ _ _ h3
    obtain ⟨k1, k2⟩ := key g hlt h2 hnX
    exact ⟨err_same k1 h1, k2⟩
end
end Go.GA
end
section
namespace Go.GA
open Go Go.RowKit

/-- what is fixed while the loop runs -/
structure Env where
  Γ : Ctx
  n : Sz
  fr : Fr
  a : Act
  l : Nat
  D : Nat
  lp : Loop
  K : Nat
  B : Nat
  Q : Exit → Act → World → Prop
def mark (D : Nat) : Deferred := { target := .collected D, args := #[] }
def Env.nb (E : Env) : Sz := ⟨E.n.n, E.K⟩

/-- a context in which the caller waits; its record -/
structure Running (E : Env) (Γi : Ctx) (r : Loop) : Prop where
  susp : Susp E.Γ E.n E.fr E.a (fun _ => False) Γi E.K E.B
  nl : Γi.ρ0.N E.l
  nD : Γi.ρ0.N E.D
  ne : E.D ≠ E.l
  at_l : Γi.W0.heap[E.l]? = some (.loop r)
  dD : Γi.W0.heap[E.D]? = some (.deferred (some []))
  new : E.B ≤ E.l ∧ E.B ≤ E.D
  base : E.Γ.W0.heap.size ≤ E.B

/-- what was done in between leaves of the context before -/
structure RB (Γ Γ2 : Ctx) (n : Sz) : Prop where
  ext : Ext Γ.M0 Γ.W0 Γ2.W0
  keep : ∀ i, i < n.K → Γ2.ρ0 i = Γ.ρ0 i
  M0 : ∀ b, Γ2.M0 b → Γ.M0 b ∨ Γ.W0.heap.size ≤ b
  L0 : ∀ b, Γ2.L0 b → Γ.L0 b ∨ Γ.W0.heap.size ≤ b
  N : ∀ b, Γ.ρ0.N b → Γ2.ρ0.N b
  dl : Γ2.dl = [] ∨ ∃ D, Γ2.dl = [mark D] ∧ Γ2.W0.heap[D]? = some (.deferred (some [])) ∧ Γ2.ρ0.N D ∧ Γ.W0.heap.size ≤ D ∧ ¬ Γ2.L0 D ∧ ¬ Γ2.M0 D
theorem RB.refl (Γ : Ctx) (n : Sz) (h : Γ.dl = []) : RB Γ Γ n := ⟨Ext.refl _ _, fun _ _ => rfl, fun _ h => .inl h, fun _ h => .inl h, fun _ h => h, .inl h⟩

section
variable {P : Program} {Γ : Ctx} {n : Sz} {Q : Exit → Act → World → Prop} {fr : Fr} {H : Hp}
end
end Go.GA
end
section
namespace Go.GA
open Go Go.RowKit
/-- the fence of a round -/
def WF (ro : Option Nat) : Fence := { Fence.wide with round := ro }
section
variable {P : Program} {ro : Option Nat} {m : Nat}
variable {ops : Array Oper} {Q : Exit → Act → World → Prop}
end
/-- code of a round -/
def AWI (P : Program) (ro : Option Nat) (m : Nat) (Γ : Ctx) (n : Sz) (c : Code) (Q : Exit → Act → World → Prop) (fr : Fr) (H : Hp) : Prop :=
  ∀ ρ w a, SIM Γ n ρ w a fr H → c.wpIn (WF ro) m P Q a w
/-- operations among which stand calls of a loop's body -/
def AOI (P : Program) (m : Nat) (Γ : Ctx) (n : Sz) (all : Array Oper) (Q : Exit → Act → World → Prop) (ops : List Oper) (fr : Fr) (H : Hp) : Prop :=
  ∀ ρ w a, SIM Γ n ρ w a fr H → wpListIn (WF none) m P all Q ops a w
section
variable {P : Program} {ro : Option Nat} {m : Nat} {Γ : Ctx} {n : Sz} {Q : Exit → Act → World → Prop} {fr fr' : Fr} {H H' : Hp}
end
end Go.GA
end
section
namespace Go.GA
open Go Go.RowKit
/-- the loop's record -/
def recOf (fid : FuncId) (tmps : Array Value) (ps : Array Tmp) (assign body : Code) (D : Nat) : Loop := { state := .ready, pending := none, fn := fid, tmps := tmps, params := ps, assign, body, defers := D }
/-- what the environment is made of -/
structure IsEnv (E : Env) (Γ : Ctx) (n : Sz) (fr : Fr) (K : Nat) (Q : Exit → Act → World → Prop) (ps : Array Tmp) (assign body : Code) : Prop where
  size : E.a.tmps.size = n.n
  Γ : E.Γ = Γ
  n : E.n = n
  fr : E.fr = fr
  K : E.K = K
  Q : E.Q = Q
  lp : ∃ fid, E.lp = recOf fid E.a.tmps ps assign body E.D
/-- the iterator waits while a round runs -/
structure Wait (E : Env) (Γi : Ctx) (ni : Sz) (fri : Fr) (ai : Act) (Γx : Ctx) (r : Loop) : Prop where
  susp : ∃ B, Susp Γi ni fri ai (fun k => k = E.l) Γx E.K B
  dl : Γx.dl = []
  at_l : Γx.W0.heap[E.l]? = some (.loop r)

section
variable {P : Program} {Γ Γi Γx : Ctx} {n ni nb : Sz} {Q Q' : Exit → Act → World → Prop} {fr fri frb : Fr} {H : Hp} {E : Env} {K : Nat} {ps : Array Tmp} {assign body : Code} {ai : Act}
end
end Go.GA
end
section
namespace Go.GA
open Go Go.RowKit
section
variable {P : Program} {Γ Γi Γ2 : Ctx} {n ni : Sz} {Q : Exit → Act → World → Prop} {fr fri : Fr} {H : Hp} {E : Env} {K : Nat} {ps : Array Tmp} {assign body : Code} {fn : Func} {R : AV → Hp → Prop}
end
end Go.GA
namespace Go.GA
open Go Go.RowKit
section
variable {P : Program} {Γ : Ctx} {n : Sz} {Q : Exit → Act → World → Prop} {fr fr' : Fr} {H H' : Hp} {E : Env} {K : Nat} {ps : Array Tmp} {assign body : Code} {ro : Option Nat} {m : Nat}
theorem AWI.sub {c : Code} (hs : Sub n fr H fr' H') (h : AWI P ro m Γ n c Q fr' H') : AWI P ro m Γ n c Q fr H := fun ρ w a s => let ⟨ρ', s'⟩ := hs Γ ρ w a s; h ρ' w a s'
theorem AOI.sub {all : Array Oper} {ops : List Oper} (hs : Sub n fr H fr' H') (h : AOI P m Γ n all Q ops fr' H') : AOI P m Γ n all Q ops fr H := fun ρ w a s => let ⟨ρ', s'⟩ := hs Γ ρ w a s; h ρ' w a s'
theorem IsEnv.ready (h : IsEnv E Γ n fr K Q ps assign body) : E.lp.state = .ready := by
  obtain ⟨fid, e⟩ := h.lp
  rw [e]; rfl
end
end Go.GA
end
section
namespace Go.GA
open Go Go.RowKit
/-- the string of bytes -/
def bytesB (xs : List Int) : ByteArray := xs.foldl (fun r n => r.push (UInt8.ofNat n.toNat)) ByteArray.empty
theorem relL_ints {h : Hf} {k : IntKind} : ∀ {xs : List Int} {cs F}, RelL (Rc h (.int k)) xs cs F → cs = xs.map (Value.int k)
  | [], cs, F, hr => hr.1
  | x :: xs, cs, F, hr => by
    obtain ⟨c1, c2, F1, F2, rfl, rfl, h1, h2⟩ := hr
    rw [relL_ints h2, h1.1]
    rfl
section
variable {P : Program} {fr : Fr} {H : Hp} {dst : Option Nat} {ty : TypeId} {pos : String} {aft : Array Edge} {g : Option (Nat × Bool)}
theorem r_bytes_str {S T E : TypeId} {x : Operand} {id : Nat} {xs : List Int} (hs : P.underlying S = some (.slice E)) (he : P.underlying E = some (.int .u8)) (hd : P.underlying T = some .string)
    (hx : evO fr x = some (.os id)) (hg : hget H id = some (.row (.int .u8) xs)) : Reads P ⟨dst, .convert S T x, ty, pos, aft, g⟩ fr H (.str (bytesB xs)) := fun Γ n ρ w a s => by
  obtain ⟨ℓ, hL, _⟩ := s.heap
  refine ⟨.string (bytesB xs), rfl, fun w' hk => ?_⟩
  obtain ⟨hl, ⟨h3, h4, _⟩ | ⟨b, cap, c, T', F, mid, post, h3, h4, h5, h6, h7, h8, h9⟩⟩ := hL.get hg
  · rcases s.ev hx with ⟨_, e⟩ | ⟨b', cap', len, hx', _⟩
    · subst h4
      simp only [execOp, e, Sem.run_bind, run_convert_bytes_string w' S T E none 0 0 hs he hd, Conv.bytesToString, Sem.run_pure, Result.andThen_ok]
      rfl
    · rw [h3] at hx'; cases hx'
  · rcases s.ev hx with ⟨hx', _⟩ | ⟨b', cap', len, hx', e⟩
    · rw [h3] at hx'; cases hx'
    · rw [h3] at hx'
      simp only [Option.some.injEq, Prod.mk.injEq] at hx'
      obtain ⟨rfl, rfl, hlen⟩ := hx'
      have hlen' : List.length (α := Int) xs = len := hlen
      subst hlen'
      have hmid : mid = xs.map (Value.int .u8) := relL_ints h6
      have hcs : (loadCells ⟨b, 0, none⟩ xs.length).run P w' = .ok (xs.map (Value.int .u8)).toArray w' := by
        have hb := kept_get hk h4
        have := run_loadCells_list (P := P) w' ⟨b, 0, none⟩ (xs.map (Value.int .u8)) (fun j v hv => by
          have hj : j < (xs.map (Value.int .u8)).length := (List.getElem?_eq_some_iff.1 hv).1
          have := cell_at (pre := []) hb (by rw [h5, hmid]; rfl) j hj
          rw [addr_add]
          simp only [List.length_nil] at this
          rw [this]; exact hv)
        simpa using this
      simp only [execOp, e, Sem.run_bind, run_convert_bytes_string w' S T E (some ⟨b, 0, none⟩) _ _ hs he hd, run_bytesToString w' ⟨b, 0, none⟩ xs.length cap xs hcs, Sem.run_pure, Result.andThen_ok]
      rfl
end
end Go.GA
end
section
namespace Go.GA
open Go Go.RowKit
section
variable {P : Program} {n : Sz} {fr : Fr} {H : Hp} {dst : Option Nat} {ty : TypeId} {pos : String} {aft : Array Edge} {g : Option (Nat × Bool)}
end
end Go.GA
end
section
namespace Go.GA
open Go Go.RowKit
def AV.isPtr : AV → Bool
  | .ref .. => true
  | .elem .. => true
  | .elem2 .. => true
  | .cptr .. => true
  | _ => false
section
variable {P : Program} {fr : Fr} {H : Hp} {dst : Option Nat} {ty : TypeId} {pos : String} {aft : Array Edge} {g : Option (Nat × Bool)}
theorem r_nilCheck {x : Operand} {y : AV} (hx : evO fr x = some y) (hp : y.isPtr = true) : Reads P ⟨dst, .nilCheck x, ty, pos, aft, g⟩ fr H y := fun Γ n ρ w a s => by
  have hv := s.ev hx
  refine ⟨a.eval x, hv, fun w' _ => ?_⟩
  have : ∃ ad, a.eval x = .pointer (some ad) := by
    cases y <;> simp only [AV.isPtr, Bool.false_eq_true] at hp
    all_goals simp only [RA] at hv
    all_goals first
      | (obtain ⟨b, k, _, e⟩ := hv; exact ⟨_, e⟩)
      | (obtain ⟨b, off, F, c, T, z, pre, mid, post, e, _⟩ := hv; exact ⟨_, e⟩)
  obtain ⟨ad, e⟩ := this
  simp [execOp, e, Sem.run_pure]
end
end Go.GA
end
section
namespace Go.GA
open Go Go.RowKit
section
variable {P : Program} {fr : Fr} {H : Hp} {dst : Option Nat} {ty : TypeId} {pos : String} {aft : Array Edge} {g : Option (Nat × Bool)}
end
end Go.GA
end
section
namespace Go.GA
open Go Go.RowKit
section
variable {H : Hp}
end
section
variable {P : Program} {n : Sz} {fr : Fr} {H : Hp} {dst : Option Nat} {ty : TypeId} {pos : String} {aft : Array Edge} {g : Option (Nat × Bool)}
end
end Go.GA
end
section
namespace Go.GA
open Go Go.RowKit
def eqI (a b : Int) : Bool := decide (a = b)
def eqB (a b : Bool) : Bool := a == b
def eqIs (a b : List Int) : Bool := decide (a = b)
/-- equality of plain data -/
def eqT : (t : Ty) → t.D → t.D → Bool
  | .int _, x, y => eqI x y
  | .bool, x, y => eqB x y
  | .str, x, y => eqS x y
  | .arr _ (.int _), x, y => eqIs x y
  | .pair a b, x, y => eqT a x.1 y.1 && eqT b x.2 y.2
  | .unit, _, _ => true
  | _, _, _ => false
def TEq (P : Program) (n : Nat) (T : TypeId) (t : Ty) : Prop := ∀ (w : World) (d : Nat) (h : Hf) (x y : t.D) (c1 c2 : List Value) (F1 F2 : List Nat), n ≤ d → Rc h t x c1 F1 → Rc h t y c2 F2 → (Op.equalIn d T (mkV t c1) (mkV t c2)).run P w = .ok (eqT t x y) w
section
variable {P : Program}
theorem TEq.mono {n n' : Nat} {T : TypeId} {t : Ty} (hn : Nat.ble n n' = true) (h : TEq P n T t) : TEq P n' T t := fun w d hf x y c1 c2 F1 F2 hd h1 h2 => h w d hf x y c1 c2 F1 F2 (Nat.le_trans (Nat.le_of_ble_eq_true hn) hd) h1 h2
variable {fr : Fr} {H : Hp} {dst : Option Nat} {ty : TypeId} {pos : String} {aft : Array Edge} {g : Option (Nat × Bool)}
end
end Go.GA
end
section
namespace Go.GA
open Go Go.RowKit
section
variable {P : Program} {n : Sz} {fr : Fr} {H : Hp} {dst : Option Nat} {ty : TypeId} {pos : String} {aft : Array Edge} {g : Option (Nat × Bool)}
end
end Go.GA
end
section
namespace Go.GA
open Go Go.RowKit
section
variable {Γ : Ctx} {n : Sz} {fr : Fr} {H : Hp}
end
end Go.GA
end
section
namespace Go.GA
open Go Go.RowKit
section
variable {P : Program} {n : Sz} {fr : Fr} {H : Hp} {dst : Option Nat} {ty : TypeId} {pos : String} {aft : Array Edge} {g : Option (Nat × Bool)}
end
end Go.GA
end
section
namespace Go.GA
open Go Go.RowKit
section
variable {P : Program} {fr : Fr} {H : Hp} {dst : Option Nat} {ty : TypeId} {pos : String} {aft : Array Edge} {g : Option (Nat × Bool)}
end
end Go.GA
end
section
namespace Go.GA
open Go Go.RowKit
section
variable {P : Program} {n : Sz} {fr : Fr} {H : Hp} {dst : Option Nat} {ty : TypeId} {pos : String} {aft : Array Edge} {g : Option (Nat × Bool)}
theorem e_conv_row {S T E : TypeId} {x : Operand} {b : ByteArray} {u : TypeDesc} (id : Nat) (hs : P.underlying S = some u) (hd : P.underlying T = some (.slice E)) (he : P.underlying E = some (.int .u8)) (hx : evO fr x = some (.str b)) (hl : (b.size : Int) ≤ 9223372036854775807) (hid : freshB id fr H = true) (hK : Nat.ble n.K id = true) :
    Eff P n ⟨dst, .convert S T x, ty, pos, aft, g⟩ fr H (.os id) fr ((id, .brow (bytesI b)) :: H) := fun Γ ρ w a s => by
  have hv := s.ev hx
  simp only [RA] at hv
  have hrun := Lib.run_convert_string_bytes w S T E b hs hd he
  have hcap := grownCap_ge w b.size 0 E
  have hlen := bytesI_len b
  refine ⟨.slice (some ⟨w.heap.size, 0, none⟩) b.size (grownCap w b.size 0 E), Lib.bytesWorld w E b, upd ρ id (some (w.heap.size, grownCap w b.size 0 E, b.size)), ?_, ?_, .inr ⟨_, _, _, upd_same _ _ _, rfl⟩⟩
  · simp only [execOp, hv, Sem.run_bind, hrun, Result.andThen_ok, Sem.run_pure]
  · have := s.replace [] (id := id) (B := .brow (bytesI b)) (p := some (w.heap.size, grownCap w b.size 0 E, b.size)) (w' := Lib.bytesWorld w E b) hid hK rfl rfl rfl rfl (by rw [Lib.bytesWorld_size]; omega) (fun k hk _ => Lib.bytesWorld_at_old w E b k hk)
      (fun b' k h => .inr (by simp at h; omega)) (fun ℓ hk hM => ?_)
    · rwa [hdel_nil] at this
    · refine ⟨[w.heap.size], ⟨w.heap.size, grownCap w b.size 0 E, Lib.bytesCells w E b, E, List.replicate (grownCap w b.size 0 E - b.size) (.int .u8 0), ?_, Lib.bytesWorld_at_new w E b, ?_, rfl, ?_, ?_⟩, by simp, fun b' hb => .inr (by simp at hb; omega)⟩
      · rw [upd_same, hlen]
      · simp [Lib.bytesCells, bytesI]
      · simp only [Lib.bytesCells, Array.size_append, Array.size_map, Array.size_replicate]
        have : b.data.size = b.size := rfl
        omega
      · rw [hlen]; simp only [lim]; omega
theorem brow_at {Γ : Ctx} {ρ : Rho} {w : World} {a : Act} (s : SIM Γ n ρ w a fr H) {x : Operand} {id : Nat} {xs : List Int} (hx : evO fr x = some (.os id)) (hg : hget H id = some (.brow xs)) :
    ∃ b cap c T post, ρ id = some (b, cap, xs.length) ∧ World.hf w b = some (.cells c T (c.size, c.size + 1)) ∧ c.toList = xs.map (Value.int .u8) ++ post ∧ c.size = cap ∧ a.eval x = .slice (some ⟨b, 0, none⟩) xs.length cap := by
  obtain ⟨ℓ, hL, _⟩ := s.heap
  obtain ⟨b, cap, c, T, post, h1, h2, h3, h4, h5, h6⟩ := hL.get hg
  rcases s.ev hx with ⟨hx', _⟩ | ⟨b', cap', len, hx', e⟩
  · rw [h1] at hx'; cases hx'
  · rw [h1] at hx'
    simp only [Option.some.injEq, Prod.mk.injEq] at hx'
    obtain ⟨rfl, rfl, rfl⟩ := hx'
    exact ⟨b, cap, c, T, post, h1, h2, h3, h5, e⟩
theorem r_len_brow {T E : TypeId} {x : Operand} {id : Nat} {xs : List Int} (m : Int) (hu : P.underlying T = some (.slice E)) (hx : evO fr x = some (.os id)) (hg : hget H id = some (.brow xs)) (hm : (xs.length : Int) = m) :
    Reads P ⟨dst, .call ⟨.builtin .len, #[x], #[T]⟩, ty, pos, aft, g⟩ fr H (.int .i64 m) := fun Γ n ρ w a s => by
  obtain ⟨b, cap, c, T', post, h1, h2, h3, h4, e⟩ := brow_at s hx hg
  subst hm
  exact ⟨_, rfl, fun w' _ => by simp [execOp, resolve, invoke, Go.builtin, Builtin.len_, e, Sem.run_bind, run_underlying hu, goInt]⟩
theorem r_idxAddr_brow {T E : TypeId} {x y : Operand} {id sz : Nat} {xs : List Int} {k : IntKind} {i : Int} (hu : P.underlying T = some (.slice E)) (hs : ∀ w, (sizeOf E).run P w = .ok sz w)
    (hx : evO fr x = some (.os id)) (hg : hget H id = some (.brow xs)) (hy : evO fr y = some (.int k i)) (h0 : 0 ≤ i) (h1 : i < (xs.length : Int)) :
    Reads P ⟨dst, .indexAddr T x y, ty, pos, aft, g⟩ fr H (.elem id 0 sz i.toNat) := fun Γ n ρ w a s => by
  have hy' := s.ev hy
  simp only [RA] at hy'
  obtain ⟨b, cap, c, T', post, h3, h4, h5, h6, e⟩ := brow_at s hx hg
  refine ⟨_, ⟨b, _, h3, rfl⟩, fun w' _ => ?_⟩
  simp [execOp, Instr.indexAt, e, hy', asIntOf, Sem.run_bind, run_underlying hu, h0, h1, hs, addr_add]
theorem brow_elem {Γ : Ctx} {ρ : Rho} {w : World} {a : Act} (s : SIM Γ n ρ w a fr H) {x : Operand} {id i : Nat} {xs : List Int} (hx : evO fr x = some (.elem id 0 1 i)) (hg : hget H id = some (.brow xs)) :
    ∃ b cap c T post, ρ id = some (b, cap, xs.length) ∧ World.hf w b = some (.cells c T (c.size, c.size + 1)) ∧ c.toList = xs.map (Value.int .u8) ++ post ∧ c.size = cap ∧ a.eval x = .pointer (some ⟨b, i, none⟩) := by
  obtain ⟨ℓ, hL, _⟩ := s.heap
  obtain ⟨b, cap, c, T, post, h1, h2, h3, h4, h5, h6⟩ := hL.get hg
  obtain ⟨b', k, hρ, e⟩ := s.ev hx
  rw [h1] at hρ
  simp only [Option.some.injEq, Prod.mk.injEq] at hρ
  obtain ⟨rfl, _⟩ := hρ
  exact ⟨b, cap, c, T, post, h1, h2, h3, h5, by rw [e]; simp⟩
theorem r_load_brow {T : TypeId} {x : Operand} {id i : Nat} {xs : List Int} (ha : ∀ w, (isAgg T).run P w = .ok false w)
    (hx : evO fr x = some (.elem id 0 1 i)) (hg : hget H id = some (.brow xs)) (hi : i < xs.length) :
    Reads P ⟨dst, .load T x, ty, pos, aft, g⟩ fr H (.int .u8 (xs.getD i 0)) := fun Γ n ρ w a s => by
  obtain ⟨b, cap, c, T', post, h1, h2, h3, h4, e⟩ := brow_elem s hx hg
  refine ⟨.int .u8 (xs.getD i 0), rfl, fun w' hk => ?_⟩
  have hb := kept_get hk h2
  have hci : c[i]? = some (Value.int .u8 (xs.getD i 0)) := by
    rw [← Array.getElem?_toList, h3, List.getElem?_append_left (by simpa using hi), List.getElem?_map, List.getD_eq_getElem?_getD, List.getElem?_eq_getElem hi]; rfl
  have hcell : w'.cell? ⟨b, i, none⟩ = some (Value.int .u8 (xs.getD i 0)) := by
    simp [World.cell?, hb, hci]
  have hload : (load ⟨b, i, none⟩).run P w' = .ok (Value.int .u8 (xs.getD i 0)) w' := by
    simp [load, Sem.run, hcell]
  simp only [execOp, e, Instr.loadAt, Instr.sureAddr, Sem.run_bind, Sem.run_pure, Result.andThen_ok, loadVar, ha, Bool.false_eq_true, if_false, hload]
theorem e_store_brow {T : TypeId} {x y : Operand} {id i : Nat} {xs : List Int} {v : Int} (hs : ∀ w, (sizeOf T).run P w = .ok 1 w) (hx : evO fr x = some (.elem id 0 1 i)) (hy : evO fr y = some (.int .u8 v)) (hg : hget H id = some (.brow xs)) (hi : i < xs.length) :
    EffS P n ⟨none, .store T x y, ty, pos, aft, g⟩ fr H fr (hset H id (.brow (xs.set i v))) := fun Γ ρ w a s => by
  obtain ⟨b, cap, c, T', post, h1, h2, h3, h4, e⟩ := brow_elem s hx hg
  have hv := s.ev hy
  simp only [RA] at hv
  have hic : i < c.size := by
    have : c.toList.length = c.size := Array.length_toList
    rw [h3, List.length_append, List.length_map] at this
    omega
  have hadd : ((⟨b, i, none⟩ : Addr).add 0) = ⟨b, i, none⟩ := by simp [addr_add]
  have hcell : w.cell? ⟨b, i, none⟩ = some c[i] := by
    have h2' : w.heap[b]? = some (.cells c T' (c.size, c.size + 1)) := h2
    simp [World.cell?, h2', hic]
  have hfro : w.frozen? ⟨b, i, none⟩ = false := by
    have h2' : w.heap[b]? = some (.cells c T' (c.size, c.size + 1)) := h2
    simp [World.frozen?, h2']; omega
  have hrun : (storeVar T ⟨b, i, none⟩ (.int .u8 v)).run P w = .ok () (w.setRow b (c.setIfInBounds i (.int .u8 v))) := by
    have hst : (store (⟨b, i, none⟩ : Addr) (.int .u8 v)).run P w = .ok () (w.setRow b (c.setIfInBounds i (.int .u8 v))) := by
      rw [run_store P w _ _ _ rfl, hcell]
      simp [hfro, setCell_eq_setRow w b i c T' _ (.int .u8 v) h2]
    simp [storeVar, Sem.run_bind, hs, Value.cells, storeCells, hadd, hst]
  refine ⟨w.setRow b (c.setIfInBounds i (.int .u8 v)), ρ, ?_, s.write hg h1 h2 (fun ℓ' h' hk' hb' hne hM => ?_)⟩
  · simp only [execOp, Instr.storeAt, e, hv, Instr.sureAddr, Sem.run_bind, Sem.run_pure, Result.andThen_ok, hrun]
  · obtain ⟨b2, cap2, c2, T2, post2, g1, g2, g3, g4, g5, g6⟩ := hk'.get hg
    rw [h1] at g1
    simp only [Option.some.injEq, Prod.mk.injEq] at g1
    obtain ⟨rfl, rfl, _⟩ := g1
    refine ⟨[b], ⟨b, cap, c.setIfInBounds i (.int .u8 v), T', post, by rw [h1, List.length_set], ?_, ?_, rfl, by simpa using h4, by simpa using g6⟩, by simp, fun x hx => by rw [g4]; exact hx⟩
    · rw [hb']; simp
    · rw [Array.toList_setIfInBounds, h3, List.set_append_left _ _ (by simpa using hi), List.map_set]
theorem r_brow_str {S T E : TypeId} {x : Operand} {id : Nat} {xs : List Int} (hs : P.underlying S = some (.slice E)) (he : P.underlying E = some (.int .u8)) (hd : P.underlying T = some .string)
    (hx : evO fr x = some (.os id)) (hg : hget H id = some (.brow xs)) : Reads P ⟨dst, .convert S T x, ty, pos, aft, g⟩ fr H (.str (bytesB xs)) := fun Γ n ρ w a s => by
  obtain ⟨b, cap, c, T', post, h1, h2, h3, h4, e⟩ := brow_at s hx hg
  refine ⟨.string (bytesB xs), rfl, fun w' hk => ?_⟩
  have hcs : (loadCells ⟨b, 0, none⟩ xs.length).run P w' = .ok (xs.map (Value.int .u8)).toArray w' := by
    have hb := kept_get hk h2
    have := run_loadCells_list (P := P) w' ⟨b, 0, none⟩ (xs.map (Value.int .u8)) (fun j v hv => by
      have hj : j < (xs.map (Value.int .u8)).length := (List.getElem?_eq_some_iff.1 hv).1
      have := cell_at (pre := []) hb (by rw [h3]; rfl) j hj
      rw [addr_add]
      simp only [List.length_nil] at this
      rw [this]; exact hv)
    simpa using this
  simp only [execOp, e, Sem.run_bind, run_convert_bytes_string w' S T E (some ⟨b, 0, none⟩) _ _ hs he hd, run_bytesToString w' ⟨b, 0, none⟩ xs.length cap xs hcs, Sem.run_pure, Result.andThen_ok]
  rfl
end
end Go.GA
end
section
namespace Go.GA
open Go Go.RowKit
section
variable {P : Program} {n : Sz} {fr : Fr} {H : Hp} {dst : Option Nat} {ty : TypeId} {pos : String} {aft : Array Edge} {g : Option (Nat × Bool)}
end
end Go.GA
end
section
namespace Go.GA
open Go Go.RowKit
section
variable {P : Program} {n : Sz} {fr : Fr} {H : Hp} {dst : Option Nat} {ty : TypeId} {pos : String} {aft : Array Edge} {g : Option (Nat × Bool)}
/-! ### A state seen under other names -/
def oneC : List Comp → Bool
  | [] => true
  | .cell a :: cs => a.one && oneC cs
  | .arr .. :: cs => oneC cs
def oneH : Hp → Bool
  | [] => true
  | (_, .var cs) :: H => oneC cs && oneH H
  | (_, .row ..) :: H => oneH H
  | (_, .brow ..) :: H => oneH H
theorem subFr_rr {H H' : Hp} {σ : Nat → Nat} {fr : Fr} : ∀ {fr' : Fr}, fr'.map (fun e => get fr e.1) = fr'.map (fun e => some (e.2.ren σ)) → SubFr H H' σ fr fr'
  | [], _ => trivial
  | (t, y) :: l, h => by
    simp only [List.map_cons, List.cons.injEq] at h
    exact ⟨⟨_, h.1, ad_ren rfl⟩, subFr_rr h.2⟩
theorem adC_rr {H H' : Hp} {σ : Nat → Nat} : ∀ {cs : List Comp}, oneC cs = true → AdC H H' σ (compsRen σ cs) cs
  | [], _ => trivial
  | .cell a :: cs, h => by
    simp only [oneC, Bool.and_eq_true] at h
    exact ⟨ad_ren rfl, h.1, adC_rr h.2⟩
  | .arr t n xs :: cs, h => ⟨rfl, adC_rr (cs := cs) h⟩
theorem subH_rr {H H'' : Hp} {σ : Nat → Nat} : ∀ {H' : Hp}, H'.map (fun e => hget H (σ e.1)) = H'.map (fun e => some (e.2.ren σ)) → oneH H' = true → SubH H H'' σ H'
  | [], _, _ => trivial
  | (i, .var cs) :: l, h, ho => by
    simp only [List.map_cons, List.cons.injEq] at h
    simp only [oneH, Bool.and_eq_true] at ho
    exact ⟨⟨_, h.1, adC_rr ho.1⟩, subH_rr h.2 ho.2⟩
  | (i, .row t xs) :: l, h, ho => by
    simp only [List.map_cons, List.cons.injEq] at h
    exact ⟨⟨_, h.1, rfl⟩, subH_rr h.2 ho⟩
  | (i, .brow xs) :: l, h, ho => by
    simp only [List.map_cons, List.cons.injEq] at h
    exact ⟨⟨_, h.1, rfl⟩, subH_rr h.2 ho⟩
theorem sub_rr (σ : Nat → Nat) {fr' : Fr} {H' : Hp} (hfr : fr'.map (fun e => get fr e.1) = fr'.map (fun e => some (e.2.ren σ))) (hH : H'.map (fun e => hget H (σ e.1)) = H'.map (fun e => some (e.2.ren σ))) (ho : oneH H' = true) (hi : injB σ (hkeys H') = true) (hK : ∀ i, i < n.K → σ i = i) : Sub n fr H fr' H' :=
  sub_mk σ (subFr_rr hfr) (subH_rr hH ho) hi hK
theorem sub_r1 (σ : Nat → Nat) {fr' : Fr} {H' : Hp} (hK : ∀ i, i < n.K → σ i = i) (h : (fr'.map (fun e => get fr e.1), H'.map (fun e => hget H (σ e.1)), oneH H', injB σ (hkeys H')) = (fr'.map (fun e => some (e.2.ren σ)), H'.map (fun e => some (e.2.ren σ)), true, true)) : Sub n fr H fr' H' := by
  simp only [Prod.mk.injEq] at h
  exact sub_rr σ h.1 h.2.1 h.2.2.1 h.2.2.2 hK
abbrev ci (e : Int) : Comp := .cell (.int .i64 e)
end
end Go.GA
end
section
namespace Go.GA
open Go Go.RowKit
section
variable {P : Program} {Γ : Ctx} {n : Sz} {Q : Exit → Act → World → Prop} {fr : Fr} {H : Hp} {op : Op} {ty : TypeId} {pos : String} {aft : Array Edge} {all : Array Oper}
theorem ao_r {ops : List Oper} {d : Nat} {x : AV} (hr : Reads P ⟨some d, op, ty, pos, aft, none⟩ fr H x) (hd : Nat.blt d n.n = true)
    (h : AO P Γ n all Q ops ((d, x) :: fr) H) : AO P Γ n all Q (⟨some d, op, ty, pos, aft, none⟩ :: ops) fr H := ao_read trivial hr hd h
theorem an_r {m f : Nat} {T : Act → World → Prop} {listed : Array Bool} (i : Nat) {d : Nat} {x : AV} (hQ : ∀ c a w, Q (.panic c) a w → False) (hi : all[i]? = some ⟨some d, op, ty, pos, aft, none⟩) (hn : (Region.noSelect all && nextB all listed m i) = true) (hr : Reads P ⟨some d, op, ty, pos, aft, none⟩ fr H x) (hd : Nat.blt d n.n = true)
    (h : AN P Γ n all Q m T f (listed.setIfInBounds i true) ((d, x) :: fr) H) : AN P Γ n all Q m T (f + 1) listed fr H := by
  simp only [Bool.and_eq_true] at hn
  exact an_read i hn.1 hQ hi hn.2 trivial hr hd h
end
end Go.GA
end
section
namespace Go.GA
open Go Go.RowKit
/-- a world that is the same below -/
theorem below_scalar {R : AV → Hp → Prop} {ρ : Rho} {w w' : World} {ℓ : Nat → List Nat} {r : AV} {v : Value} (hb : Below w.heap.size w w') (hr : RA ρ (World.hf w') (ownB ρ []) r v) (hres : r.res = true) (hR : R r []) : ∃ ρ' ℓ', Post (WithRes R) ρ w [] ℓ v w' r [] ρ' ℓ' :=
  ⟨ρ, fun _ => [], ⟨hR, hres, rfl⟩, by simp, ⟨hb.os, hb.tape, hb.output, hb.size, fun i hi _ => hb.block i hi⟩, ⟨by simp, by simp, by simp, by simp⟩, fun b ⟨e, he, _⟩ => by (cases he), fun b ⟨e, he, _⟩ => by (cases he), hr, rfl⟩
end Go.GA
end
section
namespace Go.GA
open Go Go.RowKit
section
variable {P : Program} {fr : Fr} {H : Hp} {dst : Option Nat} {ty : TypeId} {pos : String} {aft : Array Edge} {g : Option (Nat × Bool)}
theorem r_xor {xT yT : TypeId} {x y : Operand} {k : IntKind} {a b : Int} (hx : evO fr x = some (.int k a)) (hy : evO fr y = some (.int k b)) :
    Reads P ⟨dst, .binOp .xor xT x y yT, ty, pos, aft, g⟩ fr H (.int k (xorI k a b)) :=
  reads_of fun ρ h M ev hev => ⟨_, rfl, fun w' => run_int (hev x _ hx) (hev y _ hy) rfl (fun w' => rfl) w'⟩
end
/-- a variable that reads as an interface value -/
theorem errAt_of_var {P : Program} {W : World} {n : String} {g : Nat} {t : TypeId} {v : Value} (hg : P.globalNamed n = some g) (h : W.var? P n = some #[.iface t v]) : ErrAt W g := by
  unfold World.var? at h
  rw [hg] at h
  simp only [Option.bind_some] at h
  split at h
  · rename_i cs T z hh
    obtain rfl := Option.some.inj h
    exact ⟨_, T, z, _, hh, rfl, .inr ⟨t, v, rfl⟩⟩
  · cases h
/-- the number of a decimal without signs or zeros ahead, and whether there is one -/
def parseB (s : ByteArray) : Int × Bool := match Lib.atoiAll s.data.toList with
  | .ok v => if (-999999 ≤ v ∧ v ≤ 999999) ∧ (⟨(Lib.itoa v).toArray⟩ : ByteArray) = s then (v, true) else (0, false)
  | _ => (0, false)
def p_impl_ParseInt (x0 : ByteArray) : Option (Int × Bool) := if x0.size ≤ 1000000 then some (parseB x0) else none
theorem parse_scalar {P : Program} {f : FuncId} {g : Nat} (hg : P.globalNamed "internal/strconv.uint64pow10" = some g) {g1 g2 : Nat} (hg1 : P.globalNamed "strconv.ErrSyntax" = some g1) (hg2 : P.globalNamed "strconv.ErrRange" = some g2)
    (hP : ∀ (s : ByteArray) (w : World), s.size ≤ 1000000 → Lib.TabIs P w "internal/strconv.uint64pow10" .u64 Lib.pow10Tab → ErrAt w g1 → ErrAt w g2 →
      Calls P f #[.string s] w fun e w' => e = .returned (.tuple #[.int .i64 (parseB s).1, .bool (parseB s).2]) ∧ Below w.heap.size w w')
    {x0 : ByteArray} {r : Int × Bool} (h : Is (p_impl_ParseInt x0) (some r)) : Scalar P f [.str x0] (.tup [.int .i64 r.1, .bool r.2]) := by
  unfold p_impl_ParseInt at h
  obtain ⟨hn, h⟩ := is_guard h
  obtain rfl := is_some h
  intro ρ w vs ℓ h1 h2 hN hLd
  obtain ⟨v, vs', rfl, hv, hr⟩ := h1
  simp only [RAs] at hr
  subst hr
  have hv' : v = .string x0 := hv
  subst hv'
  refine (hP x0 w hn (hLd.1 g hg).1 (hLd.2 _ g1 (.inl rfl) hg1).1 (hLd.2 _ g2 (.inr rfl) hg2).1).mono ?_
  rintro e w' ⟨rfl, hb⟩
  obtain ⟨ρ', ℓ', hp⟩ := below_scalar (R := fun r' H' => r' = .tup [.int .i64 (parseB x0).1, .bool (parseB x0).2] ∧ H' = []) (ρ := ρ) (ℓ := ℓ) (v := .tuple #[.int .i64 (parseB x0).1, .bool (parseB x0).2]) hb (r := .tup [.int .i64 (parseB x0).1, .bool (parseB x0).2])
    ⟨[.int .i64 (parseB x0).1, .bool (parseB x0).2], rfl, _, _, rfl, rfl, _, _, rfl, rfl, rfl⟩ rfl ⟨rfl, rfl⟩
  exact ⟨_, _, [], ρ', ℓ', rfl, hp⟩
end Go.GA
end
