/- Structs with slices of their own: loaded, built, handed over; nil slices in variables. -/
import Derived.Test.YtalieojbaiiioaaGaC
import Derived.Lib.ConvBytes
import Derived.Lib.Bytealg
import Derived.Laws.Externs
import Derived.Sort.Grow
import Derived.RangeFuncLeaves
import Derived.RangeFuncOwn
import Derived.OrdersIn
import Derived.TacticsIn
import Derived.ControlIn
import Derived.Laws.BytesString
section
namespace Go.GA
open Go Go.RowKit
def compAVs : List Comp → List AV
  | [] => []
  | .cell a :: cs => a :: compAVs cs
  | .arr t n xs :: cs => .v (.arr n t) xs :: compAVs cs
/-- arrays in it hold no slices -/
def flatComps : List Comp → Bool
  | [] => true
  | .cell _ :: cs => flatComps cs
  | .arr t _ _ :: cs => t.flat && flatComps cs
theorem comps_st {ρ : Rho} {h : Hf} {M : Nat → Prop} : ∀ {cs : List Comp} {vs F}, flatComps cs = true → RComps ρ h M cs vs F → ∃ us, RAs ρ h M (compAVs cs) us ∧ cellsOf us = vs ∧ F = []
  | [], vs, F, _, hr => ⟨[], rfl, by rw [hr.1]; rfl, hr.2⟩
  | .cell a :: cs, vs, F, hf, hr => by
    obtain ⟨v, cs', e, h1, h2, h3⟩ := hr
    obtain ⟨us, h4, h5, h6⟩ := comps_st (cs := cs) hf h3
    refine ⟨v :: us, ⟨v, us, rfl, h2, h4⟩, ?_, h6⟩
    rw [e, ← h5]
    simp [cellsOf, one_cells h2 h1]
  | .arr t n xs :: cs, vs, F, hf, hr => by
    simp only [flatComps, Bool.and_eq_true] at hf
    obtain ⟨c1, c2, F1, F2, e, eF, h1, h2⟩ := hr
    obtain ⟨us, h4, h5, h6⟩ := comps_st (cs := cs) hf.2 h2
    have hF1 := Rc.flat (.arr n t) hf.1 h1
    subst hF1; subst h6
    refine ⟨.agg c1.toArray :: us, ⟨_, us, rfl, ⟨[], ⟨c1, h1, rfl⟩, by simp⟩, h4⟩, ?_, by rw [eF]; rfl⟩
    rw [e, ← h5]
    simp [cellsOf, Value.cells]
section
variable {P : Program} {Γ : Ctx} {n : Sz} {fr : Fr} {H H' : Hp} {dst : Option Nat} {ty : TypeId} {pos : String} {aft : Array Edge} {g : Option (Nat × Bool)}
/-! ### Zero values, literals -/
def zC : Ty → List Comp
  | .bool => [.cell (.bool false)]
  | .int k => [.cell (.int k 0)]
  | .str => [.cell (.str .empty)]
  | .slice _ => [.cell .nilsl]
  | .arr n t => [.arr t n (List.replicate n t.dflt)]
  | .pair a b => zC a ++ zC b
  | .unit => []
theorem zC_ok (ρ : Rho) (h : Hf) (M : Nat → Prop) : ∀ (t : Ty), RComps ρ h M (zC t) (zc t) []
  | .bool => ⟨_, _, rfl, rfl, rfl, rfl, rfl⟩
  | .int _ => ⟨_, _, rfl, rfl, rfl, rfl, rfl⟩
  | .str => ⟨_, _, rfl, rfl, rfl, rfl, rfl⟩
  | .slice _ => ⟨_, _, rfl, rfl, rfl, rfl, rfl⟩
  | .arr n t => ⟨zc (.arr n t), [], [], [], by simp, rfl, zc_ok h (.arr n t), rfl, rfl⟩
  | .pair a b => RComps.append (F := []) (G := []) (zC_ok ρ h M a) (zC_ok ρ h M b)
  | .unit => ⟨rfl, rfl⟩
def Places (P : Program) : List Field → List (Nat × Nat) → Prop
  | [], [] => True
  | f :: fs, (o, s) :: l => f.offset = o ∧ (∀ w, (sizeOf f.type).run P w = .ok s w) ∧ Places P fs l
  | _, _ => False
theorem places_run : ∀ {fs : List Field} {l : List (Nat × Nat)}, Places P fs l → ∀ w, (fs.mapM fun f => do pure (f.offset, ← sizeOf f.type) : Sem (List (Nat × Nat))).run P w = .ok l w
  | [], [], _, w => rfl
  | f :: fs, (o, s) :: l, h, w => by
    obtain ⟨h1, h2, h3⟩ := h
    have ih := places_run h3 w
    subst h1
    simp only [List.mapM_cons, Sem.run_bind, h2, Result.andThen_ok, Sem.run_pure, ih]
  | [], _ :: _, h, _ => h.elim
  | _ :: _, [], h, _ => h.elim
/-- the parts put in, one after the other -/
def buildC (fr : Fr) : List Comp → List (Nat × Nat) → List (Nat × Operand) → Option (List Comp)
  | cs, _, [] => some cs
  | cs, pl, (i, o) :: l => match pl[i]?, evO fr o with
    | some (off, sz), some y => bif boxable y && Nat.beq (compsSz (toComps y)) sz then (match putAt cs off (toComps y) with
      | some cs' => buildC fr cs' pl l
      | none => none) else none
    | _, _ => none
theorem fill_comps {ρ : Rho} {h : Hf} {M : Nat → Prop} {ev : Operand → Value} (hev : ∀ o y, evO fr o = some y → RA ρ h M y (ev o)) {pl : List (Nat × Nat)} : ∀ {l : List (Nat × Operand)} {cs cs' : List Comp} {A : Array Value}, RComps ρ h M cs A.toList [] → buildC fr cs pl l = some cs' →
    ∃ B : Array Value, Instr.fill (pl.toArray[·]?) A (l.map fun p => (p.1, ev p.2)) = some B ∧ RComps ρ h M cs' B.toList []
  | [], cs, cs', A, hA, hb => by
    simp only [buildC, Option.some.injEq] at hb
    subst hb
    exact ⟨A, rfl, hA⟩
  | (i, o) :: l, cs, cs', A, hA, hb => by
    simp only [buildC] at hb
    split at hb
    · rename_i off sz y hpl hy
      cases hc : boxable y && Nat.beq (compsSz (toComps y)) sz with
      | false => rw [hc] at hb; cases hb
      | true =>
        rw [hc] at hb
        simp only [cond_true] at hb
        simp only [Bool.and_eq_true] at hc
        have hsz := Nat.eq_of_beq_eq_true hc.2
        split at hb
        · rename_i c1 hp
          have hn := ra_comps y (hev o y hy) hc.1
          obtain ⟨hle, F', h1, _, h2⟩ := putAt_ok hA hn hp (fun b _ _ => ⟨rfl, by assumption⟩) (fun _ _ => rfl) List.nodup_nil
          have hF : F' = [] := by
            cases F' with
            | nil => rfl
            | cons b F => exact absurd (h2 b (by simp)) (by simp)
          subst hF
          have hl := hn.len
          have hcsz : (ev o).cells.size = sz := by rw [← hsz, ← hl]; simp
          have hfold := foldl_set off (ev o).cells.toList 0 A (by simpa using hle)
          have hfold' : (ev o).cells.zipIdx.foldl (fun (A : Array Value) (p : Value × Nat) => A.setIfInBounds (off + p.2) p.1) A = (A.toList.take off ++ (ev o).cells.toList ++ A.toList.drop (off + (ev o).cells.toList.length)).toArray := by
            rw [← Array.foldl_toList, Array.toList_zipIdx, hfold]; simp
          obtain ⟨B, h3, h4⟩ := fill_comps hev (l := l) (A := (A.toList.take off ++ (ev o).cells.toList ++ A.toList.drop (off + (ev o).cells.toList.length)).toArray) (by simpa using h1) hb
          refine ⟨B, ?_, h4⟩
          simp only [List.map_cons, Instr.fill, List.getElem?_toArray, hpl]
          have hno : ¬ ((ev o).cells.size ≠ sz ∨ off + (ev o).cells.size > A.size) := by
            rw [hcsz]
            have : (ev o).cells.toList.length = sz := by simpa using hcsz
            rw [this] at hle
            simp only [Array.length_toList] at hle
            omega
          rw [if_neg (by simpa using hno)]
          have hfold2 : Array.foldl (fun cs (x : Value × Nat) => match x with | (c, j) => cs.setIfInBounds (off + j) c) A (ev o).cells.zipIdx = (A.toList.take off ++ (ev o).cells.toList ++ A.toList.drop (off + (ev o).cells.toList.length)).toArray := hfold'
          rw [hfold2]
          simpa only [List.getElem?_toArray] using h3
        · cases hb
    · cases hb
/-- a struct literal -/
theorem r_build_st {T : TypeId} {fields : Array Field} {l : List (Nat × Operand)} {z : Value} {cs : List Comp} {xs : List AV} (t : Ty) (pl : List (Nat × Nat)) (ht : P.underlying T = some (.struct fields)) (hz : ∀ w, (zeroValue T).run P w = .ok z w) (hzs : z.cells.toList = zc t)
    (hp : Places P fields.toList pl) (hb : buildC fr (zC t) pl l = some cs) (hf : flatComps cs = true) (hxs : compAVs cs = xs) :
    Reads P ⟨dst, .build T l.toArray, ty, pos, aft, g⟩ fr H (.st xs) := fun Γ n' ρ w a s => by
  subst hxs
  obtain ⟨B, h1, h2⟩ := fill_comps (fr := fr) (ρ := ρ) (h := World.hf w) (M := ownB ρ H) (ev := a.eval) (fun o y h => s.ev h) (A := z.cells) (by rw [hzs]; exact zC_ok _ _ _ t) hb
  obtain ⟨us, h3, h4, _⟩ := comps_st hf h2
  refine ⟨.agg B, ⟨us, by rw [h4], h3⟩, fun w' _ => ?_⟩
  have hm : ∀ w, (fields.mapM fun f => do pure (f.offset, ← sizeOf f.type) : Sem (Array (Nat × Nat))).run P w = .ok pl.toArray w := fun w => by
    have e : fields = fields.toList.toArray := rfl
    rw [e, List.mapM_toArray, map_eq_pure_bind, Sem.run_bind, places_run hp w]
    rfl
  simp only [execOp, Instr.build, Sem.run_bind, hz, run_underlying ht, Result.andThen_ok, hm, List.map_toArray]
  rw [h1]
  simp
/-! ### A nil slice in a variable, as a row of the call's own -/
end
end Go.GA
end
section
namespace Go.GA
open Go Go.RowKit
section
variable {P : Program} {n : Sz} {fr : Fr} {H : Hp} {dst : Option Nat} {ty : TypeId} {pos : String} {aft : Array Edge} {g : Option (Nat × Bool)}
end
end Go.GA
end
section
namespace Go.GA
open Go Go.RowKit
/-- two strings are the same -/
def eqS (a b : ByteArray) : Bool := a.toList == b.toList
section
variable {P : Program} {n : Sz} {fr : Fr} {H : Hp} {dst : Option Nat} {ty : TypeId} {pos : String} {aft : Array Edge} {g : Option (Nat × Bool)}
/-! ### Bytes of a string -/
end
end Go.GA
end
section
namespace Go.GA
open Go Go.RowKit
section
variable {H : Hp}
end
section
variable {P : Program} {n : Sz} {fr : Fr} {H : Hp} {dst : Option Nat} {ty : TypeId} {pos : String} {aft : Array Edge} {g : Option (Nat × Bool)}
end
end Go.GA
end
section
namespace Go.GA
open Go Go.RowKit
section
variable {P : Program} {n : Sz} {fr : Fr} {H : Hp} {dst : Option Nat} {ty : TypeId} {pos : String} {aft : Array Edge} {g : Option (Nat × Bool)}
end
end Go.GA
end
section
namespace Go.GA
open Go Go.RowKit

section
variable {P : Program} {ops : Array Oper} {Q : Exit → Act → World → Prop}
end

section
variable {P : Program} {Γ : Ctx} {n : Sz} {Q : Exit → Act → World → Prop} {fr fr' : Fr} {H H' : Hp} {all : Array Oper} {ty : TypeId} {pos : String} {aft : Array Edge} {op : Op}
def AP (P : Program) (Γ : Ctx) (n : Sz) (all : Array Oper) (Q : Exit → Act → World → Prop) (g : Nat) (listed : Array Bool) (fr : Fr) (H : Hp) : Prop :=
  ∀ ρ w a, SIM Γ n ρ w a fr H → wpAny P .any all Q g listed a w
theorem aw_drawP {id : Nat} {l : List Oper} (N : Nat) (hN : l.toArray.size = N) (hm : P.follows .mixedOrders = true) (h : AP P Γ n l.toArray Q N (Array.replicate N false) fr H) :
    AW P Γ n (.region id l.toArray true) Q fr H := fun ρ w a s => by
  subst hN
  exact wp_region_any hm (h ρ _ a s.drew)
def readyB (all : Array Oper) (listed : Array Bool) (i : Nat) : Bool := (Region.ready .any all listed).contains i && Region.free .any all listed i
end
end Go.GA
end
section
namespace Go.GA
open Go Go.RowKit
section
variable {P : Program} {Γ : Ctx} {n : Sz} {Q : Exit → Act → World → Prop} {fr fr' : Fr} {H H' Hc : Hp} {all : Array Oper} {ops : List Oper} {ty : TypeId} {pos : String} {aft : Array Edge}
theorem ao_callV [LaidS P Γ] {g : Option (Nat × Bool)} {d : Nat} {f : FuncId} {fn : Func} {fo : Operand} {as : List Operand} {tys : Array TypeId} {caps xs ys : List AV} {R : AV → Hp → Prop} (l : List Nat) (base : Nat) (hg : gOK all fr g) (hc : ACallsV P f ys Hc R)
    (hf : P.funcs[f]? = some fn) (hbody : fn.body.isNone = false) (hname : (fn.name == "runtime.NumGoroutine") = false)
    (hfo : evO fr fo = some (.fn f caps)) (hxs : evOs fr as = some xs) (hA : xs ++ caps = AV.renL (sg l base) ys) (hR : SubHR H (sg l base) Hc) (hS : SubH H Hc (sg l base) Hc) (hks : hkeys Hc = List.range l.length) (hl : allLt base l = true) (hln : injB (fun i => i) l = true)
    (hfr : allLt base (Fr.ids fr) = true) (hH : allLt base (Hp.ids H) = true) (hK : Nat.ble n.K base = true) (hd : Nat.blt d n.n = true)
    (h : ∀ r H', R r H' → AO P Γ n all Q ops ((d, r.ren (sg l base)) :: fr) (hdel l H ++ hren (sg l base) H')) :
    AO P Γ n all Q (⟨some d, .call ⟨.value fo, as.toArray, tys⟩, ty, pos, aft, g⟩ :: ops) fr H := fun ρ w a s => by
  obtain ⟨cv, hcv, hcaps⟩ := s.ev hfo
  refine wpList_go (s.wanted hg) fun K hK' => ?_
  unfold Oper.wp
  rw [run_callv rfl hcv hf hbody hname, Oper.upon_enter]
  refine (call_simV hc l base s (evOs_append (evOs_ok (fun o y h => s.ev h) hxs) hcaps) hA hR hS hks hl hln hfr hH hK).mono ?_
  rintro e w' ⟨v, r, H', ρ', rfl, hR, s', hv, _⟩
  exact hK' _ _ (h r H' hR ρ' w' _ (s'.put hd hv))
end
section
variable {P : Program} {Γ : Ctx} {n : Sz} {Q : Exit → Act → World → Prop} {fr fr' : Fr} {H H' : Hp} {all : Array Oper} {ty : TypeId} {pos : String} {aft : Array Edge} {op : Op}
variable {m f base : Nat} {T : Act → World → Prop} {listed : Array Bool}
/-- the same in a line of operations -/
theorem ao_frz {ops : List Oper} (hfr : SubFr H H' (fun i => i) fr fr') (hH : SubH H H' (fun i => i) H') (hi : injB (fun i => i) (hkeys H') = true) (h : AO P Γ n all Q ops fr' H') : AO P Γ n all Q ops fr H := AO.sub (sub_mk (fun i => i) hfr hH hi (fun _ _ => rfl)) h
end
end Go.GA
end
section
namespace Go.GA
open Go Go.RowKit
section
variable {P : Program} {n : Sz} {fr : Fr} {H : Hp} {dst : Option Nat} {ty : TypeId} {pos : String} {aft : Array Edge} {g : Option (Nat × Bool)}
end
end Go.GA
end
section
namespace Go.GA
open Go Go.RowKit
end Go.GA
end
section
namespace Go.GA
open Go Go.RowKit
/-- an operation that gives x in whatever world -/
def ReadsP (P : Program) (o : Oper) (fr : Fr) (x : AV) : Prop :=
  ∀ (ρ : Rho) (h : Hf) (M : Nat → Prop) (ev : Operand → Value), (∀ o y, evO fr o = some y → RA ρ h M y (ev o)) → ∃ v, RA ρ h M x v ∧ ∀ w', (execOp ev o).run P w' = .ok (.value v) w'
section
variable {P : Program} {Γ : Ctx} {n : Sz} {Q : Exit → Act → World → Prop} {fr fr' : Fr} {H H' : Hp} {dst : Option Nat} {ty : TypeId} {pos : String} {aft : Array Edge} {g : Option (Nat × Bool)} {all : Array Oper}
variable {xT yT : TypeId} {x y : Operand} {a b : Int} {k : IntKind}
theorem rp_move {x : Operand} {y : AV} (hx : evO fr x = some y) : ReadsP P ⟨dst, .move x, ty, pos, aft, g⟩ fr y :=
  fun ρ h M ev hev => ⟨ev x, hev x y hx, fun _ => rfl⟩
theorem rp_assign {x : Operand} {y : AV} (hx : evO fr x = some y) : ReadsP P ⟨dst, .assign x, ty, pos, aft, g⟩ fr y :=
  fun ρ h M ev hev => ⟨ev x, hev x y hx, fun _ => rfl⟩
theorem rp_extract {x : Operand} {xs : List AV} {i : Nat} {y : AV} (hx : evO fr x = some (.tup xs)) (hn : nthAV xs i = some y) :
    ReadsP P ⟨dst, .extract x i, ty, pos, aft, g⟩ fr y := fun ρ h M ev hev => by
  obtain ⟨vs, e, h1⟩ := hev _ _ hx
  obtain ⟨v, hv, h2⟩ := ras_nth h1 hn
  refine ⟨v, h2, fun w' => ?_⟩
  simp [execOp, Instr.extract, e, hv]
end
end Go.GA
end
section
namespace Go.GA
open Go Go.RowKit
section
variable {P : Program} {Γ : Ctx} {n : Sz} {Q : Exit → Act → World → Prop} {fr fr' : Fr} {H H' : Hp} {all : Array Oper} {ty : TypeId} {pos : String} {aft : Array Edge} {op : Op}
theorem wp_then {o : Oper} {K : Act → World → Prop} {a : Act} {w : World} (h : o.wp P a w K (Exit.then K Q)) : o.wp P a w K Q := by
  unfold Oper.wp at *
  generalize (execOp a.eval o).run P w = r at *
  cases r with
  | ok nx w' =>
    cases nx <;> simp only [Oper.upon] at h ⊢ <;> first
      | exact h
      | exact Calls.mono h (fun e w'' he => by cases e <;> first | exact he | (obtain ⟨a1, w1, hq⟩ := he; exact ⟨a1, w1, hq⟩))
  | halt x w' => cases x <;> simp only [Oper.upon] at h ⊢ <;> exact h
theorem wpOp_of_list {i : Nat} {o : Oper} {K : Act → World → Prop} {a : Act} {w : World} (hi : all[i]? = some o) (h : wpList P all (Exit.then K Q) [o] a w) : wpOp P all Q i K a w := by
  unfold wpOp
  simp only [hi]
  unfold wpList at h
  split
  · rename_i hw
    rw [if_pos hw] at h
    rcases h with h | ⟨h1, a1, w1, hq⟩
    · refine .inl ?_
      have : o.wp P a w (wpList P all (Exit.then K Q) []) (Exit.then K Q) := h
      have e : wpList P all (Exit.then K Q) [] = K := rfl
      rw [e] at this
      exact wp_then this
    · exact .inr ⟨h1, a1, w1, hq⟩
  · rename_i hw
    rw [if_neg hw] at h
    exact h
def APO (P : Program) (Γ : Ctx) (n : Sz) (all : Array Oper) (Q : Exit → Act → World → Prop) (g : Nat) (listed : Array Bool) (fr : Fr) (H : Hp) (i : Nat) : Prop :=
  ∀ ρ w a, SIM Γ n ρ w a fr H → wpOp P all Q i (wpAny P .any all Q g (listed.setIfInBounds i true)) a w
def APL (P : Program) (Γ : Ctx) (n : Sz) (all : Array Oper) (Q : Exit → Act → World → Prop) (g : Nat) (listed : Array Bool) (fr : Fr) (H : Hp) : List Nat → Prop
  | [] => True
  | i :: l => APO P Γ n all Q g listed fr H i ∧ APL P Γ n all Q g listed fr H l
variable {g : Nat} {listed : Array Bool}
theorem apl_mem : ∀ {l : List Nat} {i : Nat}, APL P Γ n all Q g listed fr H l → i ∈ l → APO P Γ n all Q g listed fr H i
  | j :: l, i, h, hi => by
    rcases List.mem_cons.1 hi with rfl | hi
    · exact h.1
    · exact apl_mem h.2 hi
/-- the operations that may come next -/
def nextEqB (all : Array Oper) (listed : Array Bool) (l : List Nat) : Bool := (Region.ready .any all listed == l) && !l.isEmpty
theorem ap_all (l : List Nat) (hl : nextEqB all listed l = true) (h : APL P Γ n all Q g listed fr H l) : AP P Γ n all Q (g + 1) listed fr H := fun ρ w a s => by
  simp only [nextEqB, Bool.and_eq_true, beq_iff_eq] at hl
  refine ⟨fun h0 => ?_, fun i hi => apl_mem h (hl.1 ▸ hi) ρ w a s⟩
  rw [hl.1] at h0
  subst h0
  simp at hl
theorem ap_end (hl : (Region.ready .any all listed).isEmpty = true) (h : AQ Γ n (Q .normal) fr H) : AP P Γ n all Q g listed fr H := fun ρ w a s => by
  have h0 : Region.ready .any all listed = [] := by simpa using hl
  cases g with
  | zero => exact ⟨h0, h ρ w a s⟩
  | succ g => exact ⟨fun _ => h ρ w a s, fun i hi => by rw [h0] at hi; cases hi⟩
/-- one operation, as in a line -/
theorem apo_ao {i : Nat} {o : Oper} (hi : all[i]? = some o) (h : AO P Γ n all (Exit.then (wpAny P .any all Q g (listed.setIfInBounds i true)) Q) [o] fr H) : APO P Γ n all Q g listed fr H i := fun ρ w a s => wpOp_of_list hi (h ρ w a s)
theorem ap_in {listed : Array Bool} (h : AP P Γ n all Q g listed fr H) : AQ Γ n (Exit.then (wpAny P .any all Q g listed) Q .normal) fr H := h
/-- what hangs on no memory is done first -/
theorem ap_pure (i : Nat) {d : Nat} {x : AV} {gd : Option (Nat × Bool)} (hsel : Region.noSelect all = true) (hQ : ∀ c a w, Q (.panic c) a w → False) (hi : all[i]? = some ⟨some d, op, ty, pos, aft, gd⟩) (hn : readyB all listed i = true) (hg : gOK all fr gd)
    (hr : ReadsP P ⟨some d, op, ty, pos, aft, gd⟩ fr x) (hd : Nat.blt d n.n = true) (h : AP P Γ n all Q g (listed.setIfInBounds i true) ((d, x) :: fr) H) : AP P Γ n all Q (g + 1) listed fr H := fun ρ w a s => by
  simp only [readyB, Bool.and_eq_true] at hn
  obtain ⟨v, hv, hrun⟩ := hr ρ (World.hf w) (ownB ρ H) a.eval (fun o y h => s.ev h)
  refine wpAny_first (v := v) hi (fun j o cs b ho => Region.noSelect_spec hsel j o cs b ho) (fun c a w hq => (hQ _ _ _ hq).elim) g listed a w (Region.free_spec hi hn.2) (by simpa using hn.1) (.inl ⟨s.wanted (o := ⟨some d, op, ty, pos, aft, gd⟩) hg, hrun⟩) ?_
  exact h ρ w (a.put (some d) v) (s.put hd hv)
/-- the orders all lead to one state -/
theorem ap_to (fr' : Fr) (H' : Hp) (key : AQ Γ n (Q .normal) fr' H') (h : AQ Γ n (Q .normal) fr' H' → AP P Γ n all Q g listed fr H) : AP P Γ n all Q g listed fr H := h key
end
end Go.GA
namespace Go.GA
open Go Go.RowKit
section
variable {P : Program} {Γ : Ctx} {n : Sz} {Q : Exit → Act → World → Prop} {fr fr1 : Fr} {H H1 : Hp} {all : Array Oper} {g0 : Nat} {listed0 : Array Bool}
/-- a state that several orders come to -/
theorem ap_let {g : Nat} {listed : Array Bool} (fr' : Fr) (H' : Hp) (h : AP P Γ n all Q g listed fr' H') (k : AP P Γ n all Q g listed fr' H' → AP P Γ n all Q g0 listed0 fr H) : AP P Γ n all Q g0 listed0 fr H := k h
theorem ap_go {g : Nat} {listed listed' : Array Bool} {fr' : Fr} {H' : Hp} (he : listed = listed') (hs : Sub n fr H fr' H') (h : AP P Γ n all Q g listed' fr' H') : AP P Γ n all Q g listed fr H := fun ρ w a s => by
  subst he
  obtain ⟨ρ', s'⟩ := hs Γ ρ w a s
  exact h ρ' w a s'
end
end Go.GA
end
section
namespace Go.GA
open Go Go.RowKit
section
variable {P : Program} {n : Sz} {fr : Fr} {H : Hp} {dst : Option Nat} {ty : TypeId} {pos : String} {aft : Array Edge} {g : Option (Nat × Bool)}
end
end Go.GA
end
section
namespace Go.GA
open Go Go.RowKit

/-- 'ao' with the frame 'fro' waits; Γi is the context of what runs meanwhile; the blocks X may have been turned -/
structure Susp (Γo : Ctx) (no : Sz) (fro : Fr) (ao : Act) (X : Nat → Prop) (Γi : Ctx) (K B : Nat) : Prop where
  ex : ∃ ρ w H, SIM Γo no ρ w ao fro H ∧ w.heap.size = B ∧
    (∀ i, i < K → Γi.ρ0 i = ρ i) ∧ (∀ b, ρ.N b → Γi.ρ0.N b) ∧ (∀ b, Γi.ρ0.N b → b < B → ρ.N b) ∧ (∀ b, Γi.M0 b → namB ρ H b ∨ B ≤ b) ∧
    (∀ k, k < B → ¬ X k → ¬ namB ρ H k → Γi.W0.heap[k]? = w.heap[k]?) ∧ Γi.W0.os = w.os ∧ Γi.W0.tape = w.tape ∧ Γi.W0.output = w.output
  L0 : ∀ b, Γi.L0 b → Γo.L0 b ∨ Γo.W0.heap.size ≤ b
  ML : ∀ b, Γi.M0 b → Γi.L0 b
  size : B ≤ Γi.W0.heap.size
  X : ∀ k, X k → Γi.ρ0.N k
  ids : ∀ t x, get fro t = some x → ∀ i ∈ x.ids, i < K
  hK : no.K ≤ K

theorem SIM.susp {Γo : Ctx} {no : Sz} {ρ : Rho} {w : World} {ao : Act} {fro : Fr} {H : Hp} (s : SIM Γo no ρ w ao fro H) {K : Nat}
    (X : Nat → Prop) (w1 : World) (N : Nat → Prop) (dl : List Deferred) (ho : w1.os = w.os ∧ w1.tape = w.tape ∧ w1.output = w.output) (hsz : w.heap.size ≤ w1.heap.size) (hb : ∀ k, k < w.heap.size → ¬ X k → w1.heap[k]? = w.heap[k]?)
    (hN1 : ∀ b, ρ.N b → N b) (hN2 : ∀ b, N b → b < w.heap.size → ρ.N b) (hN3 : ∀ b, N b → b < w1.heap.size) (hX : ∀ k, X k → N k) :
    ∃ Γi, Γi.W0 = w1 ∧ Γi.ρ0 = ⟨ρ.f, N⟩ ∧ Γi.dl = dl ∧ (∀ b, Γi.M0 b ↔ namB ρ H b) ∧ (∀ b, Γi.M0 b → Γi.L0 b) ∧ (∀ b, Γi.L0 b → Γo.L0 b ∨ Γo.W0.heap.size ≤ b) ∧
      ((∀ t x, get fro t = some x → ∀ i ∈ x.ids, i < K) → no.K ≤ K → Susp Γo no fro ao X Γi K w.heap.size) ∧
      ∀ (ni : Sz) (a : Act) (fr : Fr), a.tmps.size = ni.n → a.defers = dl → (∀ t x, get fr t = some x → t < ni.n ∧ RA ρ (World.hf w) (ownB ρ H) x (a.tmps.getD t undef)) → SIM Γi ni ⟨ρ.f, N⟩ w1 a fr H := by
  obtain ⟨ℓ, hk, hl⟩ := s.heap
  have hap := s.apart hl
  have hML : ∀ b, namB ρ H b → inL ℓ H b := fun b ⟨e, he, k, hbk⟩ => ⟨e, he, hk.own_mem e he b k hbk⟩
  have hL0 : ∀ b, inL ℓ H b → Γo.L0 b ∨ Γo.W0.heap.size ≤ b := fun b ⟨e, he, hbe⟩ => hl e he b hbe
  refine ⟨{ W0 := w1, M0 := namB ρ H, L0 := inL ℓ H, ρ0 := ⟨ρ.f, N⟩, dl := dl }, rfl, rfl, rfl, fun _ => Iff.rfl, hML, hL0, fun hids hK => ⟨⟨ρ, w, H, s, rfl, fun _ _ => rfl, hN1, hN2, fun b h => .inl h, fun k hk' hx _ => hb k hk' hx, ho⟩, hL0, hML, hsz, hX, hids, hK⟩, ?_⟩
  intro ni a fr h1 h2 h3
  have hnX : ∀ b, ¬ ρ.N b → b < w.heap.size → ¬ X b := fun b hn hlt hx => hn (hN2 b (hX b hx) hlt)
  have hM : ∀ b, ¬ ownB ρ H b → World.hf w b ≠ none → World.hf w1 b = World.hf w b ∧ ¬ ownB ⟨ρ.f, N⟩ H b := fun b hbn hh => by
    have hlt := hf_lt hh
    refine ⟨hb b hlt (hnX b (fun h => hbn (.inr h)) hlt), ?_⟩
    rintro (h | h)
    · exact hbn (.inl h)
    · exact hbn (.inr (hN2 b h hlt))
  refine ⟨⟨h2, rfl, fun b h => ⟨fun ⟨e, he, hbe⟩ => ?_, hN3 b h⟩⟩, h1, Ext.refl _ _, fun _ _ => rfl, fun b h => .inl h, ⟨ℓ, ⟨fun e he => (hk.blk e he).same (fun _ _ => rfl) hM (fun b hbe => ?_), hk.nd, hk.dj, hk.ids⟩, fun e he b h => .inl ⟨e, he, h⟩⟩, fun t x hx => ?_⟩
  · have hlt := hf_lt (hk.there he b hbe)
    exact hap b (hN2 b h hlt) ⟨e, he, hbe⟩
  · have hlt := hf_lt (hk.there he b hbe)
    exact hb b hlt (hnX b (fun h => hap b h ⟨e, he, hbe⟩) hlt)
  · obtain ⟨h4, h5⟩ := h3 t x hx
    exact ⟨h4, h5.same x (fun _ _ => rfl) hM⟩

section
variable {Γo Γi : Ctx} {no ni : Sz} {fro fr : Fr} {ao a : Act} {X : Nat → Prop} {K B : Nat} {ρ : Rho} {w w2 : World} {H : Hp}
/-- what the waiting frame finds in the state of what has run meanwhile -/
theorem Susp.core (s : Susp Γo no fro ao X Γi K B) (t : SIM Γi ni ρ w a fr H) (hn : ni.K = K) (hsz : w.heap.size ≤ w2.heap.size) (hb : ∀ k, k < w.heap.size → ¬ X k → w2.heap[k]? = w.heap[k]?) :
    (∃ ℓ, HeapOK ⟨ρ.f, Γo.ρ0.N⟩ (World.hf w2) H ℓ ∧ ∀ e ∈ H, ∀ b ∈ ℓ e.1, Γo.L0 b ∨ Γo.W0.heap.size ≤ b) ∧
    (∀ t x, get fro t = some x → t < no.n ∧ RA ⟨ρ.f, Γo.ρ0.N⟩ (World.hf w2) (ownB ⟨ρ.f, Γo.ρ0.N⟩ H) x (ao.tmps.getD t undef) ∧ RA ρ (World.hf w) (ownB ρ H) x (ao.tmps.getD t undef)) ∧
    (∀ b, namB ρ H b → Γo.M0 b ∨ Γo.W0.heap.size ≤ b) ∧ (∀ i, i < no.K → ρ i = Γo.ρ0 i) ∧ (∀ k, k < Γo.W0.heap.size → ¬ Γo.M0 k → ¬ X k → w2.heap[k]? = Γo.W0.heap[k]?) ∧
    Γo.W0.heap.size ≤ w.heap.size ∧ ao.tmps.size = no.n ∧ ao.defers = Γo.dl ∧ (∀ b, Γo.ρ0.N b → ¬ Γo.L0 b ∧ b < Γo.W0.heap.size) ∧ w.os = Γo.W0.os ∧ w.tape = Γo.W0.tape ∧ w.output = Γo.W0.output ∧ (∀ b, Γo.ρ0.N b → ρ.N b) := by
  obtain ⟨ρs, ws, Hs, ss, eB, e1, e2, e3, e4, e10, e6, e7, e8⟩ := s.ex
  obtain ⟨ℓ, hk, hl⟩ := t.heap
  have hap := t.apart hl
  have e11 := s.X
  have e9 := s.size
  have hN : ρ.N = Γi.ρ0.N := t.defers.2.1
  have hNs : ρs.N = Γo.ρ0.N := ss.defers.2.1
  have hX : ∀ b, X b → ρ.N b := fun b h => hN ▸ e11 b h
  have hNo : ∀ b, Γo.ρ0.N b → ρ.N b := fun b h => hN ▸ e2 b (hNs ▸ h)
  have hsz1 : Γo.W0.heap.size ≤ ws.heap.size := ss.ext.size
  have hsz2 : Γi.W0.heap.size ≤ w.heap.size := t.ext.size
  have hown : ∀ b, namB ρ H b → namB ρs Hs b ∨ B ≤ b := fun b h => by
    rcases t.own b h with h | h
    · exact e4 b h
    · exact .inr (by omega)
  have hchain : ∀ k, k < ws.heap.size → ¬ namB ρs Hs k → ¬ X k → w.heap[k]? = ws.heap[k]? := fun k hk' hm hx =>
    (t.ext.block k (by omega) (fun h => by
      rcases e4 k h with h | h
      · exact hm h
      · omega)).trans (e10 k (by omega) hx hm)
  have hold : ∀ b, ownB ⟨ρ.f, Γo.ρ0.N⟩ H b → ownB ρ H b := fun b h => h.imp (fun h => h) (hNo b)
  refine ⟨⟨ℓ, ⟨fun e he => (hk.blk e he).same (fun _ _ => rfl) (fun b hbn hh => ⟨hb b (hf_lt hh) (fun hx => hbn (.inr (hX b hx))), fun h => hbn (hold b h)⟩) (fun b hbe => hb b (hf_lt (hk.there he b hbe)) (fun hx => hap b (hX b hx) ⟨e, he, hbe⟩)), hk.nd, hk.dj, hk.ids⟩, fun e he b hbe => ?_⟩, ?_, ?_, ?_, ?_, by omega, ss.size, ss.defers.1, ss.defers.2.2, (t.ext.os.trans e6).trans ss.ext.os, (t.ext.tape.trans e7).trans ss.ext.tape, (t.ext.output.trans e8).trans ss.ext.output, hNo⟩
  · rcases hl e he b hbe with h | h
    · exact s.L0 b h
    · exact .inr (by omega)
  · intro q x hx
    obtain ⟨h1, h2⟩ := ss.fr q x hx
    have hids := s.ids q x hx
    have hρ : ∀ i ∈ x.ids, ρ i = ρs i := fun i hi => (t.keep i (by rw [hn]; exact hids i hi)).trans (e1 i (hids i hi))
    have hw : ∀ b, ¬ ownB ρs Hs b → World.hf ws b ≠ none → World.hf w b = World.hf ws b ∧ ¬ ownB ρ H b := fun b hbn hh => by
      have hlt := hf_lt hh
      have hnN : ¬ Γi.ρ0.N b := fun h => hbn (.inr (e3 b h (by omega)))
      refine ⟨hchain b hlt (fun h => hbn (.inl h)) (fun hx => hnN (e11 b hx)), ?_⟩
      rintro (h | h)
      · rcases hown b h with h | h
        · exact hbn (.inl h)
        · omega
      · exact hnN (hN ▸ h)
    refine ⟨h1, h2.same x hρ (fun b hbn hh => ?_), h2.same x hρ hw⟩
    obtain ⟨h3, h4⟩ := hw b hbn hh
    have hh2 : World.hf w b ≠ none := by rw [h3]; exact hh
    exact ⟨(hb b (hf_lt hh2) (fun hx => h4 (.inr (hX b hx)))).trans h3, fun h => h4 (hold b h)⟩
  · intro b h
    rcases hown b h with h | h
    · exact ss.own b h
    · exact .inr (by omega)
  · intro i hi
    exact ((t.keep i (by have := s.hK; omega)).trans (e1 i (by have := s.hK; omega))).trans (ss.keep i hi)
  · intro k hk' hm hx
    have h1 : k < ws.heap.size := by omega
    have h2 : ¬ namB ρs Hs k := fun h => by
      rcases ss.own k h with h | h
      · exact hm h
      · omega
    exact (hb k (by omega) hx).trans ((hchain k h1 h2 hx).trans (ss.ext.block k hk' hm))
/-- a frame that waits goes on waiting while the one that ran waits, too -/
theorem Susp.trans (s : Susp Γo no fro ao X Γi K B) (t : SIM Γi ni ρ w a fr H) (hn : ni.K = K) {Γa : Ctx} {Y : Nat → Prop} (hρ : ∀ i, i < K → Γa.ρ0 i = ρ i) (hNa : Γa.ρ0.N = Γi.ρ0.N) (hM : ∀ b, Γa.M0 b → namB ρ H b) (hML : ∀ b, Γa.M0 b → Γa.L0 b)
    (hL : ∀ b, Γa.L0 b → Γi.L0 b ∨ Γi.W0.heap.size ≤ b) (ho : Γa.W0.os = w.os ∧ Γa.W0.tape = w.tape ∧ Γa.W0.output = w.output) (hsz : w.heap.size ≤ Γa.W0.heap.size) (hb : ∀ k, k < w.heap.size → ¬ Y k → Γa.W0.heap[k]? = w.heap[k]?) (hY : ∀ k, k < B → Y k → X k) :
    Susp Γo no fro ao X Γa K B := by
  obtain ⟨ρs, ws, Hs, ss, eB, e1, e2, e3, e4, e10, e6, e7, e8⟩ := s.ex
  have e9 := s.size
  have hsz1 : Γo.W0.heap.size ≤ ws.heap.size := ss.ext.size
  have hsz2 : Γi.W0.heap.size ≤ w.heap.size := t.ext.size
  refine ⟨⟨ρs, ws, Hs, ss, eB, fun i hi => ((hρ i hi).trans (t.keep i (by omega))).trans (e1 i hi), fun b h => hNa ▸ e2 b h, fun b h => e3 b (hNa ▸ h), fun b h => ?_, fun k hk hx hm => ?_, (ho.1.trans t.ext.os).trans e6, (ho.2.1.trans t.ext.tape).trans e7, (ho.2.2.trans t.ext.output).trans e8⟩, fun b h => ?_, hML, by omega, fun k h => hNa ▸ s.X k h, s.ids, s.hK⟩
  · rcases t.own b (hM b h) with h | h
    · exact e4 b h
    · exact .inr (by omega)
  · refine ((hb k (by omega) (fun hy => hx (hY k hk hy))).trans (t.ext.block k (by omega) (fun h => ?_))).trans (e10 k hk hx hm)
    rcases e4 k h with h | h
    · exact hm h
    · omega
  · rcases hL b h with h | h
    · exact s.L0 b h
    · exact .inr (by omega)
theorem Susp.laid {P : Program} [hL : LaidS P Γo] (s : Susp Γo no fro ao X Γi K B) (hX : ∀ k, X k → ∀ c T z, Γo.W0.heap[k]? ≠ some (.cells c T z)) : LaidS P Γi := ⟨fun g hg => by
  obtain ⟨h1, h2⟩ := hL.laid g hg
  obtain ⟨ρs, ws, Hs, ss, eB, e1, e2, e3, e4, e10, e6, e7, e8⟩ := s.ex
  have hlt := tab_lt hg h1
  have hnX : ¬ X g := fun hx => by
    have h3 := h1
    unfold Lib.TabIs World.var? at h3
    rw [hg] at h3
    simp only [Option.bind_some] at h3
    split at h3
    · rename_i hh; exact hX g hx _ _ _ hh
    · cases h3
  have hn : ¬ namB ρs Hs g := fun h => by
    rcases ss.own g h with h | h
    · exact h2 h
    · omega
  have hlt2 : g < ws.heap.size := Nat.lt_of_lt_of_le hlt ss.ext.size
  exact ⟨tab_same hg ((e10 g (by omega) hnX hn).trans (ss.ext.block g hlt h2)) h1, fun h => by
    rcases e4 g h with h | h
    · exact hn h
    · omega⟩⟩
end
end Go.GA
end
section
namespace Go.GA
open Go Go.RowKit

/-- what is fixed while the loop runs -/
structure Env where
  Γ : Ctx
  n : Sz
  fr : Fr
  a : Act
  l : Nat
  D : Nat
  lp : Loop
  K : Nat
  B : Nat
  Q : Exit → Act → World → Prop
def mark (D : Nat) : Deferred := { target := .collected D, args := #[] }
def Env.behind (E : Env) : Act := { E.a with defers := mark E.D :: E.a.defers }
def Env.nb (E : Env) : Sz := ⟨E.n.n, E.K⟩

/-- a context in which the caller waits; its record -/
structure Running (E : Env) (Γi : Ctx) (r : Loop) : Prop where
  susp : Susp E.Γ E.n E.fr E.a (fun _ => False) Γi E.K E.B
  nl : Γi.ρ0.N E.l
  nD : Γi.ρ0.N E.D
  ne : E.D ≠ E.l
  at_l : Γi.W0.heap[E.l]? = some (.loop r)
  dD : Γi.W0.heap[E.D]? = some (.deferred (some []))
  new : E.B ≤ E.l ∧ E.B ≤ E.D
  base : E.Γ.W0.heap.size ≤ E.B

theorem putObj_other (w : World) {l k : Nat} (o : Obj) (h : ¬ k = l) : (w.putObj l o).heap[k]? = w.heap[k]? := World.putObj_heap_other h
theorem putObj_size (w : World) (l : Nat) (o : Obj) : (w.putObj l o).heap.size = w.heap.size := by simp [World.putObj]

/-- what was done in between leaves of the context before -/
structure RB (Γ Γ2 : Ctx) (n : Sz) : Prop where
  ext : Ext Γ.M0 Γ.W0 Γ2.W0
  keep : ∀ i, i < n.K → Γ2.ρ0 i = Γ.ρ0 i
  M0 : ∀ b, Γ2.M0 b → Γ.M0 b ∨ Γ.W0.heap.size ≤ b
  L0 : ∀ b, Γ2.L0 b → Γ.L0 b ∨ Γ.W0.heap.size ≤ b
  N : ∀ b, Γ.ρ0.N b → Γ2.ρ0.N b
  dl : Γ2.dl = [] ∨ ∃ D, Γ2.dl = [mark D] ∧ Γ2.W0.heap[D]? = some (.deferred (some [])) ∧ Γ2.ρ0.N D ∧ Γ.W0.heap.size ≤ D ∧ ¬ Γ2.L0 D ∧ ¬ Γ2.M0 D
theorem RB.refl (Γ : Ctx) (n : Sz) (h : Γ.dl = []) : RB Γ Γ n := ⟨Ext.refl _ _, fun _ _ => rfl, fun _ h => .inl h, fun _ h => .inl h, fun _ h => h, .inl h⟩

section
variable {P : Program} {Γ : Ctx} {n : Sz} {Q : Exit → Act → World → Prop} {fr : Fr} {H : Hp}
/-- the marks and the record are where they were -/
theorem Running.at_w {E : Env} {Γi : Ctx} {r : Loop} (hr : Running E Γi r) {ni : Sz} {ρ : Rho} {w : World} {a : Act} {fr : Fr} {H : Hp} (t : SIM Γi ni ρ w a fr H) : w.heap[E.l]? = some (.loop r) ∧ w.heap[E.D]? = some (.deferred (some [])) := by
  have key : ∀ k o, Γi.ρ0.N k → Γi.W0.heap[k]? = some o → w.heap[k]? = some o := fun k o hN ho => by
    have hlt := (Array.getElem?_eq_some_iff.1 ho).1
    exact (t.ext.block k hlt (fun hm => (t.defers.2.2 k hN).1 (hr.susp.ML k hm))).trans ho
  exact ⟨key _ _ hr.nl hr.at_l, key _ _ hr.nD hr.dD⟩
/-- what is behind the loop, in a context of its own -/
theorem Running.behind {E : Env} {Γi : Ctx} {r : Loop} (hr : Running E Γi r) [hL : LaidS P E.Γ] (hdl : E.Γ.dl = []) {ni : Sz} {ρ : Rho} {w : World} {a : Act} {fr : Fr} {H : Hp} (t : SIM Γi ni ρ w a fr H) (hn : ni.K = E.K) (o : Obj) :
    ∃ Γ2, RB E.Γ Γ2 E.n ∧ LaidS P Γ2 ∧ ∃ ρ2, SIM Γ2 E.n ρ2 (w.putObj E.l o) E.behind E.fr H := by
  have hNt : ρ.N = Γi.ρ0.N := t.defers.2.1
  obtain ⟨hlw, hDw⟩ := hr.at_w t
  have hDlt : E.D < w.heap.size := (Array.getElem?_eq_some_iff.1 hDw).1
  obtain ⟨ℓ, hk, hl⟩ := t.heap
  have hap := t.apart hl
  have hX : ∀ k, k = E.l ∨ k = E.D → ρ.N k := fun k h => by
    rw [hNt]
    rcases h with rfl | rfl
    · exact hr.nl
    · exact hr.nD
  have hnot : ∀ k, k = E.l ∨ k = E.D → ¬ inL ℓ H k := fun k h => hap k (hX k h)
  obtain ⟨_, h2, h3, h4, h5, h6, h7, h8, h9, h10, h11, h12, h13⟩ := hr.susp.core t hn (w2 := w) (Nat.le_refl _) (fun _ _ _ => rfl)
  have hbase := hr.base
  have hnew := hr.new
  have hsub : ∀ b, ownB ⟨ρ.f, fun b => E.Γ.ρ0.N b ∨ b = E.D⟩ H b → ownB ρ H b := by
    rintro b (h | h | h)
    · exact .inl h
    · exact .inr (h13 b h)
    · exact .inr (hX b (.inr h))
  have hput : ∀ k, ¬ k = E.l → (w.putObj E.l o).heap[k]? = w.heap[k]? := fun k hk => putObj_other w o hk
  have hnl : ∀ k, ¬ ownB ρ H k → ¬ k = E.l := fun k h e => h (.inr (hX k (.inl e)))
  have hdef : E.a.defers = [] := h8.trans hdl
  have hL0 : ∀ b, inL ℓ H b → E.Γ.L0 b ∨ E.Γ.W0.heap.size ≤ b := fun b ⟨e, he, hbe⟩ => by
    rcases hl e he b hbe with h | h
    · exact hr.susp.L0 b h
    · have := hr.susp.size
      exact .inr (by omega)
  refine ⟨{ W0 := w.putObj E.l o, M0 := namB ρ H, L0 := inL ℓ H, ρ0 := ⟨ρ.f, fun b => E.Γ.ρ0.N b ∨ b = E.D⟩, dl := [mark E.D] }, ⟨⟨h10, h11, h12, by rw [putObj_size]; exact h6, fun k hk' hm => ?_⟩, h4, h3, hL0, fun b h => .inl h, .inr ⟨E.D, rfl, ?_, .inr rfl, by omega, hnot E.D (.inr rfl), fun ⟨e, he, k, hbk⟩ => hnot E.D (.inr rfl) ⟨e, he, hk.own_mem e he E.D k hbk⟩⟩⟩, ⟨fun g hg => ?_⟩, ⟨ρ.f, fun b => E.Γ.ρ0.N b ∨ b = E.D⟩, ?_⟩
  · have hkl : ¬ k = E.l := fun h => by omega
    exact (hput k hkl).trans (h5 k hk' hm (fun h => h))
  · exact (hput E.D hr.ne).trans hDw
  · obtain ⟨h1, h2'⟩ := hL.laid g hg
    have hlt := tab_lt hg h1
    have hgl : ¬ g = E.l := fun h => by omega
    exact ⟨tab_same hg ((hput g hgl).trans (h5 g hlt h2' (fun h => h))) h1, fun h => by
      rcases h3 g h with h | h
      · exact h2' h
      · omega⟩
  · refine ⟨⟨by simp [Env.behind, hdef], rfl, fun b h => ⟨fun hin => ?_, ?_⟩⟩, h7, Ext.refl _ _, fun _ _ => rfl, fun b h => .inl h, ⟨ℓ, ⟨fun e he => ?_, hk.nd, hk.dj, hk.ids⟩, fun e he b h => .inl ⟨e, he, h⟩⟩, fun q x hx => ?_⟩
    · rcases h with h | h
      · exact hap b (h13 b h) hin
      · exact hnot b (.inr h) hin
    · show b < (w.putObj E.l o).heap.size
      rw [putObj_size]
      rcases h with h | h
      · have := (h9 b h).2; omega
      · rw [h]; exact hDlt
    · exact (hk.blk e he).same (fun _ _ => rfl) (fun b hbn _ => ⟨hput b (hnl b hbn), fun h => hbn (hsub b h)⟩) (fun b hbe => hput b (fun h => hnot b (.inl h) ⟨e, he, hbe⟩))
    · obtain ⟨g1, g2, g3⟩ := h2 q x hx
      exact ⟨g1, g3.same x (fun _ _ => rfl) (fun b hbn _ => ⟨hput b (hnl b hbn), fun h => hbn (hsub b h)⟩)⟩

end
end Go.GA
end
section
namespace Go.GA
open Go Go.RowKit
/-- the fence of a round -/
def WF (ro : Option Nat) : Fence := { Fence.wide with round := ro }
section
variable {P : Program} {ro : Option Nat} {m : Nat}
variable {ops : Array Oper} {Q : Exit → Act → World → Prop}
end
/-- code of a round -/
def AWI (P : Program) (ro : Option Nat) (m : Nat) (Γ : Ctx) (n : Sz) (c : Code) (Q : Exit → Act → World → Prop) (fr : Fr) (H : Hp) : Prop :=
  ∀ ρ w a, SIM Γ n ρ w a fr H → c.wpIn (WF ro) m P Q a w
/-- operations among which stand calls of a loop's body -/
def AOI (P : Program) (m : Nat) (Γ : Ctx) (n : Sz) (all : Array Oper) (Q : Exit → Act → World → Prop) (ops : List Oper) (fr : Fr) (H : Hp) : Prop :=
  ∀ ρ w a, SIM Γ n ρ w a fr H → wpListIn (WF none) m P all Q ops a w
section
variable {P : Program} {ro : Option Nat} {m : Nat} {Γ : Ctx} {n : Sz} {Q : Exit → Act → World → Prop} {fr fr' : Fr} {H H' : Hp}
end
end Go.GA
end
section
namespace Go.GA
open Go Go.RowKit
/-- the loop's record -/
def recOf (fid : FuncId) (tmps : Array Value) (ps : Array Tmp) (assign body : Code) (D : Nat) : Loop := { state := .ready, pending := none, fn := fid, tmps := tmps, params := ps, assign, body, defers := D }
/-- what the environment is made of -/
structure IsEnv (E : Env) (Γ : Ctx) (n : Sz) (fr : Fr) (K : Nat) (Q : Exit → Act → World → Prop) (ps : Array Tmp) (assign body : Code) : Prop where
  size : E.a.tmps.size = n.n
  Γ : E.Γ = Γ
  n : E.n = n
  fr : E.fr = fr
  K : E.K = K
  Q : E.Q = Q
  lp : ∃ fid, E.lp = recOf fid E.a.tmps ps assign body E.D
/-- the iterator waits while a round runs -/
structure Wait (E : Env) (Γi : Ctx) (ni : Sz) (fri : Fr) (ai : Act) (Γx : Ctx) (r : Loop) : Prop where
  susp : ∃ B, Susp Γi ni fri ai (fun k => k = E.l) Γx E.K B
  dl : Γx.dl = []
  at_l : Γx.W0.heap[E.l]? = some (.loop r)

section
variable {P : Program} {Γ Γi Γx : Ctx} {n ni nb : Sz} {Q Q' : Exit → Act → World → Prop} {fr fri frb : Fr} {H : Hp} {E : Env} {K : Nat} {ps : Array Tmp} {assign body : Code} {ai : Act}
end
end Go.GA
end
section
namespace Go.GA
open Go Go.RowKit
section
variable {P : Program} {Γ Γi Γ2 : Ctx} {n ni : Sz} {Q : Exit → Act → World → Prop} {fr fri : Fr} {H : Hp} {E : Env} {K : Nat} {ps : Array Tmp} {assign body : Code} {fn : Func} {R : AV → Hp → Prop}
end
end Go.GA
namespace Go.GA
open Go Go.RowKit
section
variable {P : Program} {Γ : Ctx} {n : Sz} {Q : Exit → Act → World → Prop} {fr fr' : Fr} {H H' : Hp} {E : Env} {K : Nat} {ps : Array Tmp} {assign body : Code} {ro : Option Nat} {m : Nat}
theorem AWI.sub {c : Code} (hs : Sub n fr H fr' H') (h : AWI P ro m Γ n c Q fr' H') : AWI P ro m Γ n c Q fr H := fun ρ w a s => let ⟨ρ', s'⟩ := hs Γ ρ w a s; h ρ' w a s'
theorem AOI.sub {all : Array Oper} {ops : List Oper} (hs : Sub n fr H fr' H') (h : AOI P m Γ n all Q ops fr' H') : AOI P m Γ n all Q ops fr H := fun ρ w a s => let ⟨ρ', s'⟩ := hs Γ ρ w a s; h ρ' w a s'
theorem IsEnv.ready (h : IsEnv E Γ n fr K Q ps assign body) : E.lp.state = .ready := by
  obtain ⟨fid, e⟩ := h.lp
  rw [e]; rfl
end
end Go.GA
end
section
namespace Go.GA
open Go Go.RowKit
section
variable {P : Program} {fr : Fr} {H : Hp} {dst : Option Nat} {ty : TypeId} {pos : String} {aft : Array Edge} {g : Option (Nat × Bool)}
end
end Go.GA
end
section
namespace Go.GA
open Go Go.RowKit
section
variable {P : Program} {n : Sz} {fr : Fr} {H : Hp} {dst : Option Nat} {ty : TypeId} {pos : String} {aft : Array Edge} {g : Option (Nat × Bool)}
end
end Go.GA
end
section
namespace Go.GA
open Go Go.RowKit
theorem info_size {P : Program} {E : TypeId} {n : Nat} (hs : ∀ w, (sizeOf E).run P w = .ok n w) : ∃ i, P.info? E = some i ∧ i.size = n := by
  have h := hs default
  cases hi : P.info? E with
  | none => simp [sizeOf, typeInfo, program, stuck, Sem.run_bind, Sem.run, hi, Result.andThen] at h
  | some i =>
    refine ⟨i, rfl, ?_⟩
    simp [sizeOf, typeInfo, program, stuck, Sem.run_bind, Sem.run, hi, Result.andThen] at h
    exact h
def AV.isPtr : AV → Bool
  | .ref .. => true
  | .elem .. => true
  | .elem2 .. => true
  | .cptr .. => true
  | _ => false
section
variable {P : Program} {fr : Fr} {H : Hp} {dst : Option Nat} {ty : TypeId} {pos : String} {aft : Array Edge} {g : Option (Nat × Bool)}
theorem r_nilCheck {x : Operand} {y : AV} (hx : evO fr x = some y) (hp : y.isPtr = true) : Reads P ⟨dst, .nilCheck x, ty, pos, aft, g⟩ fr H y := fun Γ n ρ w a s => by
  have hv := s.ev hx
  refine ⟨a.eval x, hv, fun w' _ => ?_⟩
  have : ∃ ad, a.eval x = .pointer (some ad) := by
    cases y <;> simp only [AV.isPtr, Bool.false_eq_true] at hp
    all_goals simp only [RA] at hv
    all_goals first
      | (obtain ⟨b, k, _, e⟩ := hv; exact ⟨_, e⟩)
      | (obtain ⟨b, off, F, c, T, z, pre, mid, post, e, _⟩ := hv; exact ⟨_, e⟩)
  obtain ⟨ad, e⟩ := this
  simp [execOp, e, Sem.run_pure]
end
end Go.GA
end
section
namespace Go.GA
open Go Go.RowKit
section
variable {P : Program} {fr : Fr} {H : Hp} {dst : Option Nat} {ty : TypeId} {pos : String} {aft : Array Edge} {g : Option (Nat × Bool)}
end
end Go.GA
end
section
namespace Go.GA
open Go Go.RowKit
section
variable {H : Hp}
end
section
variable {P : Program} {n : Sz} {fr : Fr} {H : Hp} {dst : Option Nat} {ty : TypeId} {pos : String} {aft : Array Edge} {g : Option (Nat × Bool)}
end
end Go.GA
end
section
namespace Go.GA
open Go Go.RowKit
def eqI (a b : Int) : Bool := decide (a = b)
def eqB (a b : Bool) : Bool := a == b
def eqIs (a b : List Int) : Bool := decide (a = b)
/-- equality of plain data -/
def eqT : (t : Ty) → t.D → t.D → Bool
  | .int _, x, y => eqI x y
  | .bool, x, y => eqB x y
  | .str, x, y => eqS x y
  | .arr _ (.int _), x, y => eqIs x y
  | .pair a b, x, y => eqT a x.1 y.1 && eqT b x.2 y.2
  | .unit, _, _ => true
  | _, _, _ => false
def TEq (P : Program) (n : Nat) (T : TypeId) (t : Ty) : Prop := ∀ (w : World) (d : Nat) (h : Hf) (x y : t.D) (c1 c2 : List Value) (F1 F2 : List Nat), n ≤ d → Rc h t x c1 F1 → Rc h t y c2 F2 → (Op.equalIn d T (mkV t c1) (mkV t c2)).run P w = .ok (eqT t x y) w
section
variable {P : Program}
theorem TEq.mono {n n' : Nat} {T : TypeId} {t : Ty} (hn : Nat.ble n n' = true) (h : TEq P n T t) : TEq P n' T t := fun w d hf x y c1 c2 F1 F2 hd h1 h2 => h w d hf x y c1 c2 F1 F2 (Nat.le_trans (Nat.le_of_ble_eq_true hn) hd) h1 h2
variable {fr : Fr} {H : Hp} {dst : Option Nat} {ty : TypeId} {pos : String} {aft : Array Edge} {g : Option (Nat × Bool)}
end
end Go.GA
end
section
namespace Go.GA
open Go Go.RowKit
section
variable {P : Program} {n : Sz} {fr : Fr} {H : Hp} {dst : Option Nat} {ty : TypeId} {pos : String} {aft : Array Edge} {g : Option (Nat × Bool)}
end
end Go.GA
end
section
namespace Go.GA
open Go Go.RowKit
section
variable {Γ : Ctx} {n : Sz} {fr : Fr} {H : Hp}
theorem row_len_q {Q : Act → World → Prop} (id : Nat) {t : Ty} {xs : List t.D} (m : Int) (hg : hget H id = some (.row t xs)) (hm : (xs.length : Int) = m) (h : m ≤ 9223372036854775807 → AQ Γ n Q fr H) : AQ Γ n Q fr H := fun ρ w a s => by
  have := row_lim s hg
  exact h (by subst hm; simp only [lim] at this; omega) ρ w a s
end
end Go.GA
end
section
namespace Go.GA
open Go Go.RowKit
section
variable {P : Program} {n : Sz} {fr : Fr} {H : Hp} {dst : Option Nat} {ty : TypeId} {pos : String} {aft : Array Edge} {g : Option (Nat × Bool)}
end
end Go.GA
end
section
namespace Go.GA
open Go Go.RowKit
section
variable {P : Program} {fr : Fr} {H : Hp} {dst : Option Nat} {ty : TypeId} {pos : String} {aft : Array Edge} {g : Option (Nat × Bool)}
theorem r_eql_nils {T E yT : TypeId} {x y : Operand} (hu : P.underlying T = some (.slice E)) (hx : evO fr x = some .nilsl) (hy : evO fr y = some .nilsl) : Reads P ⟨dst, .binOp .eql T x y yT, ty, pos, aft, g⟩ fr H (.bool true) :=
  reads_of fun ρ h M ev hev => ⟨_, rfl, fun w' => by
    have h1 := hev x _ hx; have h2 := hev y _ hy
    simp only [RA] at h1 h2
    simp [execOp, eqGuard, Go.binOp, h1, h2, Sem.run_bind, run_equal_nil w' hu]⟩
theorem r_eql_vnil {T E yT : TypeId} {x y : Operand} {t : Ty} {xs : List t.D} (hl : 0 < (xs.length : Int)) (hu : P.underlying T = some (.slice E)) (hx : evO fr x = some (.v (.slice t) xs)) (hy : evO fr y = some .nilsl) : Reads P ⟨dst, .binOp .eql T x y yT, ty, pos, aft, g⟩ fr H (.bool false) := fun Γ n ρ w a s => by
  have h2 := s.ev hy
  simp only [RA] at h2
  obtain ⟨F, ⟨cs, ⟨hl', hc⟩, hv⟩, hF⟩ := s.ev hx
  have key : ∃ a' l c, a.eval x = .slice (some a') l c := by
    rcases hc with ⟨e0, _, a', cap, e⟩ | ⟨b, off, ex, F', e, eF, _⟩
    · subst e0; simp at hl
    · subst e; exact ⟨_, _, _, by rw [hv]; rfl⟩
  obtain ⟨a', l, c, hv'⟩ := key
  refine ⟨.bool false, rfl, fun w' _ => ?_⟩
  simp [execOp, eqGuard, Go.binOp, hv', h2, Sem.run_bind, run_equal_nil w' hu]
end
end Go.GA
end
