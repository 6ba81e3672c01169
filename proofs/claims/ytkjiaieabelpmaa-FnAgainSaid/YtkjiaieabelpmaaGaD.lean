/- Structs with slices of their own: loaded, built, handed over; nil slices in variables. -/
import Derived.Test.YtkjiaieabelpmaaGaC
import Derived.Lib.ConvBytes
import Derived.Lib.Bytealg
import Derived.Laws.Externs
import Derived.Sort.Grow
import Derived.RangeFuncLeaves
import Derived.RangeFuncOwn
import Derived.OrdersIn
import Derived.TacticsIn
import Derived.ControlIn
import Derived.Laws.BytesString
import Derived.Laws.CopyRow
import Derived.Lib.SplitLaws
import Derived.Lib.Join
import Derived.Lib.AtoiAll
section
namespace Go.GA
open Go Go.RowKit
def compAVs : List Comp → List AV
  | [] => []
  | .cell a :: cs => a :: compAVs cs
  | .arr t n xs :: cs => .v (.arr n t) xs :: compAVs cs
/-- arrays in it hold no slices -/
def flatComps : List Comp → Bool
  | [] => true
  | .cell _ :: cs => flatComps cs
  | .arr t _ _ :: cs => t.flat && flatComps cs
theorem compAVs_append : ∀ (a b : List Comp), compAVs (a ++ b) = compAVs a ++ compAVs b
  | [], _ => rfl
  | .cell _ :: a, b => by simp [compAVs, compAVs_append a b]
  | .arr .. :: a, b => by simp [compAVs, compAVs_append a b]
theorem comps_st {ρ : Rho} {h : Hf} {M : Nat → Prop} : ∀ {cs : List Comp} {vs F}, flatComps cs = true → RComps ρ h M cs vs F → ∃ us, RAs ρ h M (compAVs cs) us ∧ cellsOf us = vs ∧ F = []
  | [], vs, F, _, hr => ⟨[], rfl, by rw [hr.1]; rfl, hr.2⟩
  | .cell a :: cs, vs, F, hf, hr => by
    obtain ⟨v, cs', e, h1, h2, h3⟩ := hr
    obtain ⟨us, h4, h5, h6⟩ := comps_st (cs := cs) hf h3
    refine ⟨v :: us, ⟨v, us, rfl, h2, h4⟩, ?_, h6⟩
    rw [e, ← h5]
    simp [cellsOf, one_cells h2 h1]
  | .arr t n xs :: cs, vs, F, hf, hr => by
    simp only [flatComps, Bool.and_eq_true] at hf
    obtain ⟨c1, c2, F1, F2, e, eF, h1, h2⟩ := hr
    obtain ⟨us, h4, h5, h6⟩ := comps_st (cs := cs) hf.2 h2
    have hF1 := Rc.flat (.arr n t) hf.1 h1
    subst hF1; subst h6
    refine ⟨.agg c1.toArray :: us, ⟨_, us, rfl, ⟨[], ⟨c1, h1, rfl⟩, by simp⟩, h4⟩, ?_, by rw [eF]; rfl⟩
    rw [e, ← h5]
    simp [cellsOf, Value.cells]
theorem ras_append {ρ : Rho} {h : Hf} {M : Nat → Prop} : ∀ {xs ys : List AV} {vs}, RAs ρ h M (xs ++ ys) vs → ∃ us ws, vs = us ++ ws ∧ RAs ρ h M xs us ∧ RAs ρ h M ys ws
  | [], ys, vs, hr => ⟨[], vs, rfl, rfl, hr⟩
  | x :: xs, ys, vs, hr => by
    obtain ⟨v, vs', e, h1, h2⟩ := hr
    obtain ⟨us, ws, e2, h3, h4⟩ := ras_append (xs := xs) h2
    exact ⟨v :: us, ws, by rw [e, e2]; rfl, ⟨v, us, rfl, h1, h3⟩, h4⟩
theorem ras_one {ρ : Rho} {h : Hf} {M : Nat → Prop} {x : AV} {vs} (hr : RAs ρ h M [x] vs) : ∃ v, vs = [v] ∧ RA ρ h M x v := by
  obtain ⟨v, vs', e, h1, h2⟩ := hr
  simp only [RAs] at h2
  subst h2
  exact ⟨v, e, h1⟩
/-- parts that are plain make up a whole that is -/
theorem ras_ty {ρ : Rho} {h : Hf} {M : Nat → Prop} : ∀ (t : Ty) {x : t.D} {us}, t.flatArrs = true → RAs ρ h M (compAVs (tyComps t x)) us → ∃ F, Rc h t x (cellsOf us) F ∧ ∀ b ∈ F, ¬ M b
  | .arr n t, x, us, _, hr => by
    obtain ⟨v, rfl, F, ⟨cs, hc, e⟩, hM⟩ := ras_one hr
    subst e
    exact ⟨F, by simpa [cellsOf, mkV, Ty.agg, Value.cells] using hc, hM⟩
  | .pair a b, x, us, hf, hr => by
    simp only [Ty.flatArrs, Bool.and_eq_true] at hf
    simp only [tyComps, compAVs_append] at hr
    obtain ⟨u1, u2, e, h1, h2⟩ := ras_append hr
    obtain ⟨F1, r1, n1⟩ := ras_ty a hf.1 h1
    obtain ⟨F2, r2, n2⟩ := ras_ty b hf.2 h2
    exact ⟨F1 ++ F2, ⟨_, _, F1, F2, by rw [e]; simp [cellsOf], rfl, r1, r2⟩, fun y hy => by
      rcases List.mem_append.1 hy with h | h
      · exact n1 y h
      · exact n2 y h⟩
  | .unit, _, us, _, hr => by
    have : us = [] := hr
    subst this
    exact ⟨[], ⟨rfl, rfl⟩, by simp⟩
  | .int k, x, us, _, hr => by
    obtain ⟨v, rfl, e⟩ := ras_one hr
    simp only [RA] at e
    subst e
    exact ⟨[], ⟨rfl, rfl⟩, by simp⟩
  | .bool, x, us, _, hr => by
    obtain ⟨v, rfl, e⟩ := ras_one hr
    simp only [RA] at e
    subst e
    exact ⟨[], ⟨rfl, rfl⟩, by simp⟩
  | .str, x, us, _, hr => by
    obtain ⟨v, rfl, e⟩ := ras_one hr
    simp only [RA] at e
    subst e
    exact ⟨[], ⟨rfl, rfl⟩, by simp⟩
  | .slice t, x, us, _, hr => by
    obtain ⟨v, rfl, hv⟩ := ras_one hr
    have h1 := one_cells (x := .v (.slice t) x) hv rfl
    obtain ⟨F, ⟨cs, hc, e⟩, hM⟩ := hv
    obtain ⟨u, rfl⟩ := one_cell (t := .slice t) rfl hc
    obtain rfl : v = u := e
    exact ⟨F, by simpa [cellsOf, h1] using hc, hM⟩
section
variable {P : Program} {Γ : Ctx} {n : Sz} {fr : Fr} {H H' : Hp} {dst : Option Nat} {ty : TypeId} {pos : String} {aft : Array Edge} {g : Option (Nat × Bool)}
/-- a struct with own parts, as plain data -/
theorem ad_st {σ : Nat → Nat} {τ : Ty} {y : τ.D} {xs : List AV} (ha : τ.agg = true) (hf : τ.flatArrs = true) (h : Ads H H' σ xs (compAVs (tyComps τ y))) : Ad H H' σ (.st xs) (.v τ y) := fun ρ hh ℓ hk hm hd v hx => by
  obtain ⟨vs, e, h1⟩ := hx
  obtain ⟨F, hF, hM⟩ := ras_ty τ hf (ads_ok hk hm hd h h1)
  exact ⟨F, ⟨_, hF, by rw [e]; simp [mkV, ha]⟩, hM⟩
/-- a whole own variable, or a part of it -/
theorem r_load_st {T : TypeId} {x : Operand} {id off : Nat} {xs : List AV} {cs : List Comp} {m : Nat} (pre mid post : List Comp) (ha : ∀ w, (isAgg T).run P w = .ok true w) (hs : ∀ w, (sizeOf T).run P w = .ok m w) (hm : compsSz mid = m) (hf : flatComps mid = true)
    (hx : evO fr x = some (.ref id off)) (hg : hget H id = some (.var cs)) (hc : cs = pre ++ (mid ++ post)) (ho : compsSz pre = off) (hxs : compAVs mid = xs) :
    Reads P ⟨dst, .load T x, ty, pos, aft, g⟩ fr H (.st xs) := fun Γ n' ρ w a s => by
  obtain ⟨b, k, hρ, e⟩ := s.ev hx
  obtain ⟨ℓ, hL, _⟩ := s.heap
  obtain ⟨b', k', c, T', F, hρ', hb, hcs, _⟩ := hL.get hg
  rw [hρ] at hρ'
  obtain ⟨rfl, rfl⟩ : b = b' ∧ k = k' := by simpa using hρ'
  subst hc; subst hxs
  obtain ⟨v1, v2, F1, F2, ev, _, h1, h2⟩ := RComps.split hcs
  obtain ⟨v3, v4, F3, F4, ev2, _, h3, h4⟩ := RComps.split h2
  obtain ⟨us, hR, hU, _⟩ := comps_st hf h3
  have hl := h1.len
  rw [ho] at hl
  have hl3 := h3.len
  refine ⟨.agg v3.toArray, ⟨us, by rw [hU], hR⟩, fun w' hk => ?_⟩
  have hload : (loadVar T ⟨b, off, none⟩).run P w' = .ok (.agg v3.toArray) w' := by
    unfold loadVar
    rw [Sem.run_bind, ha w']
    simp only [Result.andThen_ok, if_true, Sem.run_bind, hs]
    have hcs : (loadCells ⟨b, off, none⟩ m).run P w' = .ok v3.toArray w' := by
      rw [← hl, show m = v3.length by rw [hl3, hm]]
      have := run_loadVar_at (P := P) (t := .arr v3.length .bool) (E := T) (w := w') (pre := v1) (mid := v3) (post := v4) (kept_get hk hb) (by rw [ev, ev2]) (by simp [Ty.sz]) (by simp [Ty.agg]) ha (by simpa [Ty.sz, hl3, hm] using hs)
      unfold loadVar at this
      rw [Sem.run_bind, ha w'] at this
      simp only [Result.andThen_ok, if_true, Sem.run_bind, hs] at this
      rw [show m = v3.length by rw [hl3, hm]] at this
      cases hh : (loadCells ⟨b, v1.length, none⟩ v3.length).run P w' with
      | ok u w2 =>
        rw [hh] at this
        simpa [mkV, Ty.agg] using this
      | halt q w2 => rw [hh] at this; simp at this
    rw [hcs]
    simp
  simp only [execOp, e, Instr.loadAt, Instr.sureAddr, Sem.run_bind, Sem.run_pure, Result.andThen_ok, hload]
/-! ### Zero values, literals -/
def zC : Ty → List Comp
  | .bool => [.cell (.bool false)]
  | .int k => [.cell (.int k 0)]
  | .str => [.cell (.str .empty)]
  | .slice _ => [.cell .nilsl]
  | .arr n t => [.arr t n (List.replicate n t.dflt)]
  | .pair a b => zC a ++ zC b
  | .unit => []
theorem zC_ok (ρ : Rho) (h : Hf) (M : Nat → Prop) : ∀ (t : Ty), RComps ρ h M (zC t) (zc t) []
  | .bool => ⟨_, _, rfl, rfl, rfl, rfl, rfl⟩
  | .int _ => ⟨_, _, rfl, rfl, rfl, rfl, rfl⟩
  | .str => ⟨_, _, rfl, rfl, rfl, rfl, rfl⟩
  | .slice _ => ⟨_, _, rfl, rfl, rfl, rfl, rfl⟩
  | .arr n t => ⟨zc (.arr n t), [], [], [], by simp, rfl, zc_ok h (.arr n t), rfl, rfl⟩
  | .pair a b => RComps.append (F := []) (G := []) (zC_ok ρ h M a) (zC_ok ρ h M b)
  | .unit => ⟨rfl, rfl⟩
theorem ra_zero_st {t : Ty} {ρ : Rho} {h : Hf} {M : Nat → Prop} {z : Value} {xs : List AV} (hf : flatComps (zC t) = true) (hxs : compAVs (zC t) = xs) (hz : z = .agg (zc t).toArray) : RA ρ h M (.st xs) z := by
  subst hxs
  obtain ⟨us, h1, h2, _⟩ := comps_st hf (zC_ok ρ h M t)
  exact ⟨us, by rw [hz, h2], h1⟩
def Places (P : Program) : List Field → List (Nat × Nat) → Prop
  | [], [] => True
  | f :: fs, (o, s) :: l => f.offset = o ∧ (∀ w, (sizeOf f.type).run P w = .ok s w) ∧ Places P fs l
  | _, _ => False
theorem places_run : ∀ {fs : List Field} {l : List (Nat × Nat)}, Places P fs l → ∀ w, (fs.mapM fun f => do pure (f.offset, ← sizeOf f.type) : Sem (List (Nat × Nat))).run P w = .ok l w
  | [], [], _, w => rfl
  | f :: fs, (o, s) :: l, h, w => by
    obtain ⟨h1, h2, h3⟩ := h
    have ih := places_run h3 w
    subst h1
    simp only [List.mapM_cons, Sem.run_bind, h2, Result.andThen_ok, Sem.run_pure, ih]
  | [], _ :: _, h, _ => h.elim
  | _ :: _, [], h, _ => h.elim
/-- the parts put in, one after the other -/
def buildC (fr : Fr) : List Comp → List (Nat × Nat) → List (Nat × Operand) → Option (List Comp)
  | cs, _, [] => some cs
  | cs, pl, (i, o) :: l => match pl[i]?, evO fr o with
    | some (off, sz), some y => bif boxable y && Nat.beq (compsSz (toComps y)) sz then (match putAt cs off (toComps y) with
      | some cs' => buildC fr cs' pl l
      | none => none) else none
    | _, _ => none
theorem fill_comps {ρ : Rho} {h : Hf} {M : Nat → Prop} {ev : Operand → Value} (hev : ∀ o y, evO fr o = some y → RA ρ h M y (ev o)) {pl : List (Nat × Nat)} : ∀ {l : List (Nat × Operand)} {cs cs' : List Comp} {A : Array Value}, RComps ρ h M cs A.toList [] → buildC fr cs pl l = some cs' →
    ∃ B : Array Value, Instr.fill (pl.toArray[·]?) A (l.map fun p => (p.1, ev p.2)) = some B ∧ RComps ρ h M cs' B.toList []
  | [], cs, cs', A, hA, hb => by
    simp only [buildC, Option.some.injEq] at hb
    subst hb
    exact ⟨A, rfl, hA⟩
  | (i, o) :: l, cs, cs', A, hA, hb => by
    simp only [buildC] at hb
    split at hb
    · rename_i off sz y hpl hy
      cases hc : boxable y && Nat.beq (compsSz (toComps y)) sz with
      | false => rw [hc] at hb; cases hb
      | true =>
        rw [hc] at hb
        simp only [cond_true] at hb
        simp only [Bool.and_eq_true] at hc
        have hsz := Nat.eq_of_beq_eq_true hc.2
        split at hb
        · rename_i c1 hp
          have hn := ra_comps y (hev o y hy) hc.1
          obtain ⟨hle, F', h1, _, h2⟩ := putAt_ok hA hn hp (fun b _ _ => ⟨rfl, by assumption⟩) (fun _ _ => rfl) List.nodup_nil
          have hF : F' = [] := by
            cases F' with
            | nil => rfl
            | cons b F => exact absurd (h2 b (by simp)) (by simp)
          subst hF
          have hl := hn.len
          have hcsz : (ev o).cells.size = sz := by rw [← hsz, ← hl]; simp
          have hfold := foldl_set off (ev o).cells.toList 0 A (by simpa using hle)
          have hfold' : (ev o).cells.zipIdx.foldl (fun (A : Array Value) (p : Value × Nat) => A.setIfInBounds (off + p.2) p.1) A = (A.toList.take off ++ (ev o).cells.toList ++ A.toList.drop (off + (ev o).cells.toList.length)).toArray := by
            rw [← Array.foldl_toList, Array.toList_zipIdx, hfold]; simp
          obtain ⟨B, h3, h4⟩ := fill_comps hev (l := l) (A := (A.toList.take off ++ (ev o).cells.toList ++ A.toList.drop (off + (ev o).cells.toList.length)).toArray) (by simpa using h1) hb
          refine ⟨B, ?_, h4⟩
          simp only [List.map_cons, Instr.fill, List.getElem?_toArray, hpl]
          have hno : ¬ ((ev o).cells.size ≠ sz ∨ off + (ev o).cells.size > A.size) := by
            rw [hcsz]
            have : (ev o).cells.toList.length = sz := by simpa using hcsz
            rw [this] at hle
            simp only [Array.length_toList] at hle
            omega
          rw [if_neg (by simpa using hno)]
          have hfold2 : Array.foldl (fun cs (x : Value × Nat) => match x with | (c, j) => cs.setIfInBounds (off + j) c) A (ev o).cells.zipIdx = (A.toList.take off ++ (ev o).cells.toList ++ A.toList.drop (off + (ev o).cells.toList.length)).toArray := hfold'
          rw [hfold2]
          simpa only [List.getElem?_toArray] using h3
        · cases hb
    · cases hb
/-- a struct literal -/
theorem r_build_st {T : TypeId} {fields : Array Field} {l : List (Nat × Operand)} {z : Value} {cs : List Comp} {xs : List AV} (t : Ty) (pl : List (Nat × Nat)) (ht : P.underlying T = some (.struct fields)) (hz : ∀ w, (zeroValue T).run P w = .ok z w) (hzs : z.cells.toList = zc t)
    (hp : Places P fields.toList pl) (hb : buildC fr (zC t) pl l = some cs) (hf : flatComps cs = true) (hxs : compAVs cs = xs) :
    Reads P ⟨dst, .build T l.toArray, ty, pos, aft, g⟩ fr H (.st xs) := fun Γ n' ρ w a s => by
  subst hxs
  obtain ⟨B, h1, h2⟩ := fill_comps (fr := fr) (ρ := ρ) (h := World.hf w) (M := ownB ρ H) (ev := a.eval) (fun o y h => s.ev h) (A := z.cells) (by rw [hzs]; exact zC_ok _ _ _ t) hb
  obtain ⟨us, h3, h4, _⟩ := comps_st hf h2
  refine ⟨.agg B, ⟨us, by rw [h4], h3⟩, fun w' _ => ?_⟩
  have hm : ∀ w, (fields.mapM fun f => do pure (f.offset, ← sizeOf f.type) : Sem (Array (Nat × Nat))).run P w = .ok pl.toArray w := fun w => by
    have e : fields = fields.toList.toArray := rfl
    rw [e, List.mapM_toArray, map_eq_pure_bind, Sem.run_bind, places_run hp w]
    rfl
  simp only [execOp, Instr.build, Sem.run_bind, hz, run_underlying ht, Result.andThen_ok, hm, List.map_toArray]
  rw [h1]
  simp
/-! ### A nil slice in a variable, as a row of the call's own -/
theorem sub_nil_cell {t : Ty} {i : Nat} (id : Nat) (pre post : List Comp) (hg : hget H i = some (.var (pre ++ .cell .nilsl :: post))) (hid : freshB id fr H = true) (hK : Nat.ble n.K id = true) :
    Sub n fr H fr ((id, .row t ([] : List t.D)) :: hset H i (.var (pre ++ .cell (.os id) :: post))) := fun Γ ρ w a s => by
  have hr := s.replace0 [] (id := id) (B := .row t ([] : List t.D)) (p := none) (w' := w) hid hK rfl rfl rfl rfl (Nat.le_refl _) (fun b hb _ => rfl) (fun b k h => by cases h) (fun ℓ hk hM => ⟨[], ⟨Nat.zero_le _, .inl ⟨upd_same _ _ _, rfl, rfl⟩⟩, by simp, by simp⟩)
  rw [hdel_nil] at hr
  have hne : i ≠ id := fun e => freshB_H hid (e ▸ hids_head (hget_mem hg))
  have hid' : (upd ρ id none) id = none := upd_same _ _ _
  generalize hρ' : upd ρ id none = ρ' at hr hid'
  obtain ⟨ℓ, hk, hb⟩ := hr.heap
  have hkeys : ((id, Blk.row t ([] : List t.D)) :: hset H i (.var (pre ++ .cell (.os id) :: post))).map (·.1) = ((id, Blk.row t ([] : List t.D)) :: H).map (·.1) := by
    simp only [List.map_cons, hset_keys]
  have hMeq : ownB ρ' ((id, Blk.row t ([] : List t.D)) :: hset H i (.var (pre ++ .cell (.os id) :: post))) = ownB ρ' ((id, Blk.row t ([] : List t.D)) :: H) := funext fun b' => propext (own_keys hkeys)
  have hHn : (H.map (·.1)).Nodup := by have := hk.ids; simp only [List.map_cons] at this; exact (List.nodup_cons.1 this).2
  have hmem : ∀ {e}, e ∈ ((id, Blk.row t ([] : List t.D)) :: hset H i (.var (pre ++ .cell (.os id) :: post))) → (e.1 = i ∧ e.2 = .var (pre ++ .cell (.os id) :: post)) ∨ e ∈ ((id, Blk.row t ([] : List t.D)) :: H) := by
    intro e he
    rcases List.mem_cons.1 he with rfl | he
    · exact .inr (by simp)
    · rcases mem_hset hHn he with h | ⟨h1, _⟩
      · exact .inl h
      · exact .inr (List.mem_cons_of_mem _ h1)
  have hold : (i, Blk.var (pre ++ .cell .nilsl :: post)) ∈ ((id, Blk.row t ([] : List t.D)) :: H) := List.mem_cons_of_mem _ (hget_mem hg)
  refine ⟨ρ', hr.defers, hr.size, hr.ext, hr.keep, fun b hb' => hr.own b ((nam_keys hkeys).1 hb'), ⟨ℓ, ⟨?_, ?_, ?_, ?_⟩, ?_⟩, fun t' x hx => ?_⟩
  · intro e he
    rw [hMeq]
    rcases hmem he with ⟨h1, h2⟩ | h
    · obtain ⟨j, B⟩ := e
      simp only at h1 h2; subst h1; subst h2
      obtain ⟨b, k, c, T', F, g1, g2, g3, g4⟩ := hk.blk _ hold
      refine ⟨b, k, c, T', F, g1, g2, ?_, g4⟩
      obtain ⟨v1, v2, F1, F2, e1, e2, r1, r2⟩ := RComps.split g3
      obtain ⟨v, cs', e3, _, r3, r4⟩ := r2
      rw [e1, e2]
      refine RComps.append r1 ⟨v, cs', e3, rfl, .inl ⟨hid', ?_⟩, r4⟩
      simpa only [RA] using r3
    · exact hk.blk e h
  · intro e he
    rcases hmem he with ⟨h1, _⟩ | h
    · rw [h1]; exact hk.nd _ hold
    · exact hk.nd e h
  · intro e he e' he' hne' x hx
    rcases hmem he with ⟨h1, _⟩ | h1 <;> rcases hmem he' with ⟨h3, _⟩ | h3
    · exact absurd (h1.trans h3.symm) hne'
    · rw [h1] at hx; exact hk.dj _ hold e' h3 (fun h => hne' (h1.trans h)) x hx
    · rw [h3]; exact hk.dj e h1 _ hold (fun h => hne' (h.trans h3.symm)) x hx
    · exact hk.dj e h1 e' h3 hne' x hx
  · rw [hkeys]; exact hk.ids
  · intro e he x hx
    rcases hmem he with ⟨h1, _⟩ | h
    · rw [h1] at hx; exact hb _ hold x hx
    · exact hb e h x hx
  · obtain ⟨h1, h2⟩ := hr.fr t' x hx
    exact ⟨h1, by rw [hMeq]; exact h2⟩
end
end Go.GA
end
section
namespace Go.GA
open Go Go.RowKit
section
variable {P : Program} {n : Sz} {fr : Fr} {H : Hp} {dst : Option Nat} {ty : TypeId} {pos : String} {aft : Array Edge} {g : Option (Nat × Bool)}
end
end Go.GA
end
section
namespace Go.GA
open Go Go.RowKit
/-- two strings are the same -/
def eqS (a b : ByteArray) : Bool := a.toList == b.toList
section
variable {P : Program} {n : Sz} {fr : Fr} {H : Hp} {dst : Option Nat} {ty : TypeId} {pos : String} {aft : Array Edge} {g : Option (Nat × Bool)}
/-! ### Bytes of a string -/
end
end Go.GA
end
section
namespace Go.GA
open Go Go.RowKit
section
variable {H : Hp}
end
section
variable {P : Program} {n : Sz} {fr : Fr} {H : Hp} {dst : Option Nat} {ty : TypeId} {pos : String} {aft : Array Edge} {g : Option (Nat × Bool)}
end
end Go.GA
end
section
namespace Go.GA
open Go Go.RowKit
section
variable {P : Program} {n : Sz} {fr : Fr} {H : Hp} {dst : Option Nat} {ty : TypeId} {pos : String} {aft : Array Edge} {g : Option (Nat × Bool)}
end
end Go.GA
end
section
namespace Go.GA
open Go Go.RowKit

section
variable {P : Program} {ops : Array Oper} {Q : Exit → Act → World → Prop}
end

section
variable {P : Program} {Γ : Ctx} {n : Sz} {Q : Exit → Act → World → Prop} {fr fr' : Fr} {H H' : Hp} {all : Array Oper} {ty : TypeId} {pos : String} {aft : Array Edge} {op : Op}
def AP (P : Program) (Γ : Ctx) (n : Sz) (all : Array Oper) (Q : Exit → Act → World → Prop) (g : Nat) (listed : Array Bool) (fr : Fr) (H : Hp) : Prop :=
  ∀ ρ w a, SIM Γ n ρ w a fr H → wpAny P .any all Q g listed a w
theorem aw_drawP {id : Nat} {l : List Oper} (N : Nat) (hN : l.toArray.size = N) (hm : P.follows .mixedOrders = true) (h : AP P Γ n l.toArray Q N (Array.replicate N false) fr H) :
    AW P Γ n (.region id l.toArray true) Q fr H := fun ρ w a s => by
  subst hN
  exact wp_region_any hm (h ρ _ a s.drew)
def readyB (all : Array Oper) (listed : Array Bool) (i : Nat) : Bool := (Region.ready .any all listed).contains i && Region.free .any all listed i
end
end Go.GA
end
section
namespace Go.GA
open Go Go.RowKit
section
variable {P : Program} {Γ : Ctx} {n : Sz} {Q : Exit → Act → World → Prop} {fr fr' : Fr} {H H' Hc : Hp} {all : Array Oper} {ops : List Oper} {ty : TypeId} {pos : String} {aft : Array Edge}
theorem ao_callV [LaidS P Γ] {g : Option (Nat × Bool)} {d : Nat} {f : FuncId} {fn : Func} {fo : Operand} {as : List Operand} {tys : Array TypeId} {caps xs ys : List AV} {R : AV → Hp → Prop} (l : List Nat) (base : Nat) (hg : gOK all fr g) (hc : ACallsV P f ys Hc R)
    (hf : P.funcs[f]? = some fn) (hbody : fn.body.isNone = false) (hname : (fn.name == "runtime.NumGoroutine") = false)
    (hfo : evO fr fo = some (.fn f caps)) (hxs : evOs fr as = some xs) (hA : xs ++ caps = AV.renL (sg l base) ys) (hR : SubHR H (sg l base) Hc) (hS : SubH H Hc (sg l base) Hc) (hks : hkeys Hc = List.range l.length) (hl : allLt base l = true) (hln : injB (fun i => i) l = true)
    (hfr : allLt base (Fr.ids fr) = true) (hH : allLt base (Hp.ids H) = true) (hK : Nat.ble n.K base = true) (hd : Nat.blt d n.n = true)
    (h : ∀ r H', R r H' → AO P Γ n all Q ops ((d, r.ren (sg l base)) :: fr) (hdel l H ++ hren (sg l base) H')) :
    AO P Γ n all Q (⟨some d, .call ⟨.value fo, as.toArray, tys⟩, ty, pos, aft, g⟩ :: ops) fr H := fun ρ w a s => by
  obtain ⟨cv, hcv, hcaps⟩ := s.ev hfo
  refine wpList_go (s.wanted hg) fun K hK' => ?_
  unfold Oper.wp
  rw [run_callv rfl hcv hf hbody hname, Oper.upon_enter]
  refine (call_simV hc l base s (evOs_append (evOs_ok (fun o y h => s.ev h) hxs) hcaps) hA hR hS hks hl hln hfr hH hK).mono ?_
  rintro e w' ⟨v, r, H', ρ', rfl, hR, s', hv, _⟩
  exact hK' _ _ (h r H' hR ρ' w' _ (s'.put hd hv))
end
section
variable {P : Program} {Γ : Ctx} {n : Sz} {Q : Exit → Act → World → Prop} {fr fr' : Fr} {H H' : Hp} {all : Array Oper} {ty : TypeId} {pos : String} {aft : Array Edge} {op : Op}
variable {m f base : Nat} {T : Act → World → Prop} {listed : Array Bool}
/-- the same in a line of operations -/
theorem ao_frz {ops : List Oper} (hfr : SubFr H H' (fun i => i) fr fr') (hH : SubH H H' (fun i => i) H') (hi : injB (fun i => i) (hkeys H') = true) (h : AO P Γ n all Q ops fr' H') : AO P Γ n all Q ops fr H := AO.sub (sub_mk (fun i => i) hfr hH hi (fun _ _ => rfl)) h
end
end Go.GA
end
section
namespace Go.GA
open Go Go.RowKit
section
variable {P : Program} {n : Sz} {fr : Fr} {H : Hp} {dst : Option Nat} {ty : TypeId} {pos : String} {aft : Array Edge} {g : Option (Nat × Bool)}
end
end Go.GA
end
section
namespace Go.GA
open Go Go.RowKit
end Go.GA
end
section
namespace Go.GA
open Go Go.RowKit
/-- an operation that gives x in whatever world -/
def ReadsP (P : Program) (o : Oper) (fr : Fr) (x : AV) : Prop :=
  ∀ (ρ : Rho) (h : Hf) (M : Nat → Prop) (ev : Operand → Value), (∀ o y, evO fr o = some y → RA ρ h M y (ev o)) → ∃ v, RA ρ h M x v ∧ ∀ w', (execOp ev o).run P w' = .ok (.value v) w'
section
variable {P : Program} {Γ : Ctx} {n : Sz} {Q : Exit → Act → World → Prop} {fr fr' : Fr} {H H' : Hp} {dst : Option Nat} {ty : TypeId} {pos : String} {aft : Array Edge} {g : Option (Nat × Bool)} {all : Array Oper}
variable {xT yT : TypeId} {x y : Operand} {a b : Int} {k : IntKind}
theorem rp_move {x : Operand} {y : AV} (hx : evO fr x = some y) : ReadsP P ⟨dst, .move x, ty, pos, aft, g⟩ fr y :=
  fun ρ h M ev hev => ⟨ev x, hev x y hx, fun _ => rfl⟩
theorem rp_assign {x : Operand} {y : AV} (hx : evO fr x = some y) : ReadsP P ⟨dst, .assign x, ty, pos, aft, g⟩ fr y :=
  fun ρ h M ev hev => ⟨ev x, hev x y hx, fun _ => rfl⟩
theorem rp_eql {xT yT : TypeId} {x y : Operand} {k : IntKind} {a b : Int} (hx : evO fr x = some (.int k a)) (hy : evO fr y = some (.int k b)) :
    ReadsP P ⟨dst, .binOp .eql xT x y yT, ty, pos, aft, g⟩ fr (.bool (decide (a = b))) :=
  fun ρ h M ev hev => ⟨_, rfl, fun w' => run_int (hev x _ hx) (hev y _ hy) rfl (fun w' => by simp [Op.intCmp, go_sem, bne, BEq.beq]) w'⟩
theorem rp_add {xT yT : TypeId} {x y : Operand} {k : IntKind} {a b : Int} (hx : evO fr x = some (.int k a)) (hy : evO fr y = some (.int k b)) :
    ReadsP P ⟨dst, .binOp .add xT x y yT, ty, pos, aft, g⟩ fr (.int k (k.wrap (a + b))) :=
  fun ρ h M ev hev => ⟨_, rfl, fun w' => run_int (hev x _ hx) (hev y _ hy) rfl (fun w' => rfl) w'⟩
theorem rp_sub {xT yT : TypeId} {x y : Operand} {k : IntKind} {a b : Int} (hx : evO fr x = some (.int k a)) (hy : evO fr y = some (.int k b)) :
    ReadsP P ⟨dst, .binOp .sub xT x y yT, ty, pos, aft, g⟩ fr (.int k (k.wrap (a - b))) :=
  fun ρ h M ev hev => ⟨_, rfl, fun w' => run_int (hev x _ hx) (hev y _ hy) rfl (fun w' => rfl) w'⟩
theorem rp_quo {xT yT : TypeId} {x y : Operand} {k : IntKind} {a b : Int} (hx : evO fr x = some (.int k a)) (hy : evO fr y = some (.int k b)) (hb : b ≠ 0) :
    ReadsP P ⟨dst, .binOp .quo xT x y yT, ty, pos, aft, g⟩ fr (.int k (k.wrap (a.tdiv b))) :=
  fun ρ h M ev hev => ⟨_, rfl, fun w' => run_int (hev x _ hx) (hev y _ hy) rfl (fun w' => by simp [Op.intDiv, hb, go_sem]) w'⟩
end
end Go.GA
end
section
namespace Go.GA
open Go Go.RowKit
section
variable {P : Program} {Γ : Ctx} {n : Sz} {Q : Exit → Act → World → Prop} {fr fr' : Fr} {H H' : Hp} {all : Array Oper} {ty : TypeId} {pos : String} {aft : Array Edge} {op : Op}
theorem wp_then {o : Oper} {K : Act → World → Prop} {a : Act} {w : World} (h : o.wp P a w K (Exit.then K Q)) : o.wp P a w K Q := by
  unfold Oper.wp at *
  generalize (execOp a.eval o).run P w = r at *
  cases r with
  | ok nx w' =>
    cases nx <;> simp only [Oper.upon] at h ⊢ <;> first
      | exact h
      | exact Calls.mono h (fun e w'' he => by cases e <;> first | exact he | (obtain ⟨a1, w1, hq⟩ := he; exact ⟨a1, w1, hq⟩))
  | halt x w' => cases x <;> simp only [Oper.upon] at h ⊢ <;> exact h
theorem wpOp_of_list {i : Nat} {o : Oper} {K : Act → World → Prop} {a : Act} {w : World} (hi : all[i]? = some o) (h : wpList P all (Exit.then K Q) [o] a w) : wpOp P all Q i K a w := by
  unfold wpOp
  simp only [hi]
  unfold wpList at h
  split
  · rename_i hw
    rw [if_pos hw] at h
    rcases h with h | ⟨h1, a1, w1, hq⟩
    · refine .inl ?_
      have : o.wp P a w (wpList P all (Exit.then K Q) []) (Exit.then K Q) := h
      have e : wpList P all (Exit.then K Q) [] = K := rfl
      rw [e] at this
      exact wp_then this
    · exact .inr ⟨h1, a1, w1, hq⟩
  · rename_i hw
    rw [if_neg hw] at h
    exact h
def APO (P : Program) (Γ : Ctx) (n : Sz) (all : Array Oper) (Q : Exit → Act → World → Prop) (g : Nat) (listed : Array Bool) (fr : Fr) (H : Hp) (i : Nat) : Prop :=
  ∀ ρ w a, SIM Γ n ρ w a fr H → wpOp P all Q i (wpAny P .any all Q g (listed.setIfInBounds i true)) a w
def APL (P : Program) (Γ : Ctx) (n : Sz) (all : Array Oper) (Q : Exit → Act → World → Prop) (g : Nat) (listed : Array Bool) (fr : Fr) (H : Hp) : List Nat → Prop
  | [] => True
  | i :: l => APO P Γ n all Q g listed fr H i ∧ APL P Γ n all Q g listed fr H l
variable {g : Nat} {listed : Array Bool}
theorem apl_mem : ∀ {l : List Nat} {i : Nat}, APL P Γ n all Q g listed fr H l → i ∈ l → APO P Γ n all Q g listed fr H i
  | j :: l, i, h, hi => by
    rcases List.mem_cons.1 hi with rfl | hi
    · exact h.1
    · exact apl_mem h.2 hi
/-- the operations that may come next -/
def nextEqB (all : Array Oper) (listed : Array Bool) (l : List Nat) : Bool := (Region.ready .any all listed == l) && !l.isEmpty
theorem ap_all (l : List Nat) (hl : nextEqB all listed l = true) (h : APL P Γ n all Q g listed fr H l) : AP P Γ n all Q (g + 1) listed fr H := fun ρ w a s => by
  simp only [nextEqB, Bool.and_eq_true, beq_iff_eq] at hl
  refine ⟨fun h0 => ?_, fun i hi => apl_mem h (hl.1 ▸ hi) ρ w a s⟩
  rw [hl.1] at h0
  subst h0
  simp at hl
theorem ap_end (hl : (Region.ready .any all listed).isEmpty = true) (h : AQ Γ n (Q .normal) fr H) : AP P Γ n all Q g listed fr H := fun ρ w a s => by
  have h0 : Region.ready .any all listed = [] := by simpa using hl
  cases g with
  | zero => exact ⟨h0, h ρ w a s⟩
  | succ g => exact ⟨fun _ => h ρ w a s, fun i hi => by rw [h0] at hi; cases hi⟩
/-- one operation, as in a line -/
theorem apo_ao {i : Nat} {o : Oper} (hi : all[i]? = some o) (h : AO P Γ n all (Exit.then (wpAny P .any all Q g (listed.setIfInBounds i true)) Q) [o] fr H) : APO P Γ n all Q g listed fr H i := fun ρ w a s => wpOp_of_list hi (h ρ w a s)
theorem ap_in {listed : Array Bool} (h : AP P Γ n all Q g listed fr H) : AQ Γ n (Exit.then (wpAny P .any all Q g listed) Q .normal) fr H := h
/-- what hangs on no memory is done first -/
theorem ap_pure (i : Nat) {d : Nat} {x : AV} {gd : Option (Nat × Bool)} (hsel : Region.noSelect all = true) (hQ : ∀ c a w, Q (.panic c) a w → False) (hi : all[i]? = some ⟨some d, op, ty, pos, aft, gd⟩) (hn : readyB all listed i = true) (hg : gOK all fr gd)
    (hr : ReadsP P ⟨some d, op, ty, pos, aft, gd⟩ fr x) (hd : Nat.blt d n.n = true) (h : AP P Γ n all Q g (listed.setIfInBounds i true) ((d, x) :: fr) H) : AP P Γ n all Q (g + 1) listed fr H := fun ρ w a s => by
  simp only [readyB, Bool.and_eq_true] at hn
  obtain ⟨v, hv, hrun⟩ := hr ρ (World.hf w) (ownB ρ H) a.eval (fun o y h => s.ev h)
  refine wpAny_first (v := v) hi (fun j o cs b ho => Region.noSelect_spec hsel j o cs b ho) (fun c a w hq => (hQ _ _ _ hq).elim) g listed a w (Region.free_spec hi hn.2) (by simpa using hn.1) (.inl ⟨s.wanted (o := ⟨some d, op, ty, pos, aft, gd⟩) hg, hrun⟩) ?_
  exact h ρ w (a.put (some d) v) (s.put hd hv)
/-- the orders all lead to one state -/
theorem ap_to (fr' : Fr) (H' : Hp) (key : AQ Γ n (Q .normal) fr' H') (h : AQ Γ n (Q .normal) fr' H' → AP P Γ n all Q g listed fr H) : AP P Γ n all Q g listed fr H := h key
end
end Go.GA
namespace Go.GA
open Go Go.RowKit
section
variable {P : Program} {Γ : Ctx} {n : Sz} {Q : Exit → Act → World → Prop} {fr fr1 : Fr} {H H1 : Hp} {all : Array Oper} {g0 : Nat} {listed0 : Array Bool}
/-- a state that several orders come to -/
theorem ap_let {g : Nat} {listed : Array Bool} (fr' : Fr) (H' : Hp) (h : AP P Γ n all Q g listed fr' H') (k : AP P Γ n all Q g listed fr' H' → AP P Γ n all Q g0 listed0 fr H) : AP P Γ n all Q g0 listed0 fr H := k h
theorem ap_go {g : Nat} {listed listed' : Array Bool} {fr' : Fr} {H' : Hp} (he : listed = listed') (hs : Sub n fr H fr' H') (h : AP P Γ n all Q g listed' fr' H') : AP P Γ n all Q g listed fr H := fun ρ w a s => by
  subst he
  obtain ⟨ρ', s'⟩ := hs Γ ρ w a s
  exact h ρ' w a s'
end
end Go.GA
end
section
namespace Go.GA
open Go Go.RowKit
section
variable {P : Program} {n : Sz} {fr : Fr} {H : Hp} {dst : Option Nat} {ty : TypeId} {pos : String} {aft : Array Edge} {g : Option (Nat × Bool)}
end
end Go.GA
end
section
namespace Go.GA
open Go Go.RowKit

/-- 'ao' with the frame 'fro' waits; Γi is the context of what runs meanwhile; the blocks X may have been turned -/
structure Susp (Γo : Ctx) (no : Sz) (fro : Fr) (ao : Act) (X : Nat → Prop) (Γi : Ctx) (K B : Nat) : Prop where
  ex : ∃ ρ w H, SIM Γo no ρ w ao fro H ∧ w.heap.size = B ∧
    (∀ i, i < K → Γi.ρ0 i = ρ i) ∧ (∀ b, ρ.N b → Γi.ρ0.N b) ∧ (∀ b, Γi.ρ0.N b → b < B → ρ.N b) ∧ (∀ b, Γi.M0 b → namB ρ H b ∨ B ≤ b) ∧
    (∀ k, k < B → ¬ X k → ¬ namB ρ H k → Γi.W0.heap[k]? = w.heap[k]?) ∧ Γi.W0.os = w.os ∧ Γi.W0.tape = w.tape ∧ Γi.W0.output = w.output
  L0 : ∀ b, Γi.L0 b → Γo.L0 b ∨ Γo.W0.heap.size ≤ b
  ML : ∀ b, Γi.M0 b → Γi.L0 b
  size : B ≤ Γi.W0.heap.size
  X : ∀ k, X k → Γi.ρ0.N k
  ids : ∀ t x, get fro t = some x → ∀ i ∈ x.ids, i < K
  hK : no.K ≤ K

theorem SIM.susp {Γo : Ctx} {no : Sz} {ρ : Rho} {w : World} {ao : Act} {fro : Fr} {H : Hp} (s : SIM Γo no ρ w ao fro H) {K : Nat}
    (X : Nat → Prop) (w1 : World) (N : Nat → Prop) (dl : List Deferred) (ho : w1.os = w.os ∧ w1.tape = w.tape ∧ w1.output = w.output) (hsz : w.heap.size ≤ w1.heap.size) (hb : ∀ k, k < w.heap.size → ¬ X k → w1.heap[k]? = w.heap[k]?)
    (hN1 : ∀ b, ρ.N b → N b) (hN2 : ∀ b, N b → b < w.heap.size → ρ.N b) (hN3 : ∀ b, N b → b < w1.heap.size) (hX : ∀ k, X k → N k) :
    ∃ Γi, Γi.W0 = w1 ∧ Γi.ρ0 = ⟨ρ.f, N⟩ ∧ Γi.dl = dl ∧ (∀ b, Γi.M0 b ↔ namB ρ H b) ∧ (∀ b, Γi.M0 b → Γi.L0 b) ∧ (∀ b, Γi.L0 b → Γo.L0 b ∨ Γo.W0.heap.size ≤ b) ∧
      ((∀ t x, get fro t = some x → ∀ i ∈ x.ids, i < K) → no.K ≤ K → Susp Γo no fro ao X Γi K w.heap.size) ∧
      ∀ (ni : Sz) (a : Act) (fr : Fr), a.tmps.size = ni.n → a.defers = dl → (∀ t x, get fr t = some x → t < ni.n ∧ RA ρ (World.hf w) (ownB ρ H) x (a.tmps.getD t undef)) → SIM Γi ni ⟨ρ.f, N⟩ w1 a fr H := by
  obtain ⟨ℓ, hk, hl⟩ := s.heap
  have hap := s.apart hl
  have hML : ∀ b, namB ρ H b → inL ℓ H b := fun b ⟨e, he, k, hbk⟩ => ⟨e, he, hk.own_mem e he b k hbk⟩
  have hL0 : ∀ b, inL ℓ H b → Γo.L0 b ∨ Γo.W0.heap.size ≤ b := fun b ⟨e, he, hbe⟩ => hl e he b hbe
  refine ⟨{ W0 := w1, M0 := namB ρ H, L0 := inL ℓ H, ρ0 := ⟨ρ.f, N⟩, dl := dl }, rfl, rfl, rfl, fun _ => Iff.rfl, hML, hL0, fun hids hK => ⟨⟨ρ, w, H, s, rfl, fun _ _ => rfl, hN1, hN2, fun b h => .inl h, fun k hk' hx _ => hb k hk' hx, ho⟩, hL0, hML, hsz, hX, hids, hK⟩, ?_⟩
  intro ni a fr h1 h2 h3
  have hnX : ∀ b, ¬ ρ.N b → b < w.heap.size → ¬ X b := fun b hn hlt hx => hn (hN2 b (hX b hx) hlt)
  have hM : ∀ b, ¬ ownB ρ H b → World.hf w b ≠ none → World.hf w1 b = World.hf w b ∧ ¬ ownB ⟨ρ.f, N⟩ H b := fun b hbn hh => by
    have hlt := hf_lt hh
    refine ⟨hb b hlt (hnX b (fun h => hbn (.inr h)) hlt), ?_⟩
    rintro (h | h)
    · exact hbn (.inl h)
    · exact hbn (.inr (hN2 b h hlt))
  refine ⟨⟨h2, rfl, fun b h => ⟨fun ⟨e, he, hbe⟩ => ?_, hN3 b h⟩⟩, h1, Ext.refl _ _, fun _ _ => rfl, fun b h => .inl h, ⟨ℓ, ⟨fun e he => (hk.blk e he).same (fun _ _ => rfl) hM (fun b hbe => ?_), hk.nd, hk.dj, hk.ids⟩, fun e he b h => .inl ⟨e, he, h⟩⟩, fun t x hx => ?_⟩
  · have hlt := hf_lt (hk.there he b hbe)
    exact hap b (hN2 b h hlt) ⟨e, he, hbe⟩
  · have hlt := hf_lt (hk.there he b hbe)
    exact hb b hlt (hnX b (fun h => hap b h ⟨e, he, hbe⟩) hlt)
  · obtain ⟨h4, h5⟩ := h3 t x hx
    exact ⟨h4, h5.same x (fun _ _ => rfl) hM⟩

section
variable {Γo Γi : Ctx} {no ni : Sz} {fro fr : Fr} {ao a : Act} {X : Nat → Prop} {K B : Nat} {ρ : Rho} {w w2 : World} {H : Hp}
/-- what the waiting frame finds in the state of what has run meanwhile -/
theorem Susp.core (s : Susp Γo no fro ao X Γi K B) (t : SIM Γi ni ρ w a fr H) (hn : ni.K = K) (hsz : w.heap.size ≤ w2.heap.size) (hb : ∀ k, k < w.heap.size → ¬ X k → w2.heap[k]? = w.heap[k]?) :
    (∃ ℓ, HeapOK ⟨ρ.f, Γo.ρ0.N⟩ (World.hf w2) H ℓ ∧ ∀ e ∈ H, ∀ b ∈ ℓ e.1, Γo.L0 b ∨ Γo.W0.heap.size ≤ b) ∧
    (∀ t x, get fro t = some x → t < no.n ∧ RA ⟨ρ.f, Γo.ρ0.N⟩ (World.hf w2) (ownB ⟨ρ.f, Γo.ρ0.N⟩ H) x (ao.tmps.getD t undef) ∧ RA ρ (World.hf w) (ownB ρ H) x (ao.tmps.getD t undef)) ∧
    (∀ b, namB ρ H b → Γo.M0 b ∨ Γo.W0.heap.size ≤ b) ∧ (∀ i, i < no.K → ρ i = Γo.ρ0 i) ∧ (∀ k, k < Γo.W0.heap.size → ¬ Γo.M0 k → ¬ X k → w2.heap[k]? = Γo.W0.heap[k]?) ∧
    Γo.W0.heap.size ≤ w.heap.size ∧ ao.tmps.size = no.n ∧ ao.defers = Γo.dl ∧ (∀ b, Γo.ρ0.N b → ¬ Γo.L0 b ∧ b < Γo.W0.heap.size) ∧ w.os = Γo.W0.os ∧ w.tape = Γo.W0.tape ∧ w.output = Γo.W0.output ∧ (∀ b, Γo.ρ0.N b → ρ.N b) := by
  obtain ⟨ρs, ws, Hs, ss, eB, e1, e2, e3, e4, e10, e6, e7, e8⟩ := s.ex
  obtain ⟨ℓ, hk, hl⟩ := t.heap
  have hap := t.apart hl
  have e11 := s.X
  have e9 := s.size
  have hN : ρ.N = Γi.ρ0.N := t.defers.2.1
  have hNs : ρs.N = Γo.ρ0.N := ss.defers.2.1
  have hX : ∀ b, X b → ρ.N b := fun b h => hN ▸ e11 b h
  have hNo : ∀ b, Γo.ρ0.N b → ρ.N b := fun b h => hN ▸ e2 b (hNs ▸ h)
  have hsz1 : Γo.W0.heap.size ≤ ws.heap.size := ss.ext.size
  have hsz2 : Γi.W0.heap.size ≤ w.heap.size := t.ext.size
  have hown : ∀ b, namB ρ H b → namB ρs Hs b ∨ B ≤ b := fun b h => by
    rcases t.own b h with h | h
    · exact e4 b h
    · exact .inr (by omega)
  have hchain : ∀ k, k < ws.heap.size → ¬ namB ρs Hs k → ¬ X k → w.heap[k]? = ws.heap[k]? := fun k hk' hm hx =>
    (t.ext.block k (by omega) (fun h => by
      rcases e4 k h with h | h
      · exact hm h
      · omega)).trans (e10 k (by omega) hx hm)
  have hold : ∀ b, ownB ⟨ρ.f, Γo.ρ0.N⟩ H b → ownB ρ H b := fun b h => h.imp (fun h => h) (hNo b)
  refine ⟨⟨ℓ, ⟨fun e he => (hk.blk e he).same (fun _ _ => rfl) (fun b hbn hh => ⟨hb b (hf_lt hh) (fun hx => hbn (.inr (hX b hx))), fun h => hbn (hold b h)⟩) (fun b hbe => hb b (hf_lt (hk.there he b hbe)) (fun hx => hap b (hX b hx) ⟨e, he, hbe⟩)), hk.nd, hk.dj, hk.ids⟩, fun e he b hbe => ?_⟩, ?_, ?_, ?_, ?_, by omega, ss.size, ss.defers.1, ss.defers.2.2, (t.ext.os.trans e6).trans ss.ext.os, (t.ext.tape.trans e7).trans ss.ext.tape, (t.ext.output.trans e8).trans ss.ext.output, hNo⟩
  · rcases hl e he b hbe with h | h
    · exact s.L0 b h
    · exact .inr (by omega)
  · intro q x hx
    obtain ⟨h1, h2⟩ := ss.fr q x hx
    have hids := s.ids q x hx
    have hρ : ∀ i ∈ x.ids, ρ i = ρs i := fun i hi => (t.keep i (by rw [hn]; exact hids i hi)).trans (e1 i (hids i hi))
    have hw : ∀ b, ¬ ownB ρs Hs b → World.hf ws b ≠ none → World.hf w b = World.hf ws b ∧ ¬ ownB ρ H b := fun b hbn hh => by
      have hlt := hf_lt hh
      have hnN : ¬ Γi.ρ0.N b := fun h => hbn (.inr (e3 b h (by omega)))
      refine ⟨hchain b hlt (fun h => hbn (.inl h)) (fun hx => hnN (e11 b hx)), ?_⟩
      rintro (h | h)
      · rcases hown b h with h | h
        · exact hbn (.inl h)
        · omega
      · exact hnN (hN ▸ h)
    refine ⟨h1, h2.same x hρ (fun b hbn hh => ?_), h2.same x hρ hw⟩
    obtain ⟨h3, h4⟩ := hw b hbn hh
    have hh2 : World.hf w b ≠ none := by rw [h3]; exact hh
    exact ⟨(hb b (hf_lt hh2) (fun hx => h4 (.inr (hX b hx)))).trans h3, fun h => h4 (hold b h)⟩
  · intro b h
    rcases hown b h with h | h
    · exact ss.own b h
    · exact .inr (by omega)
  · intro i hi
    exact ((t.keep i (by have := s.hK; omega)).trans (e1 i (by have := s.hK; omega))).trans (ss.keep i hi)
  · intro k hk' hm hx
    have h1 : k < ws.heap.size := by omega
    have h2 : ¬ namB ρs Hs k := fun h => by
      rcases ss.own k h with h | h
      · exact hm h
      · omega
    exact (hb k (by omega) hx).trans ((hchain k h1 h2 hx).trans (ss.ext.block k hk' hm))
/-- a frame that waits goes on waiting while the one that ran waits, too -/
theorem Susp.trans (s : Susp Γo no fro ao X Γi K B) (t : SIM Γi ni ρ w a fr H) (hn : ni.K = K) {Γa : Ctx} {Y : Nat → Prop} (hρ : ∀ i, i < K → Γa.ρ0 i = ρ i) (hNa : Γa.ρ0.N = Γi.ρ0.N) (hM : ∀ b, Γa.M0 b → namB ρ H b) (hML : ∀ b, Γa.M0 b → Γa.L0 b)
    (hL : ∀ b, Γa.L0 b → Γi.L0 b ∨ Γi.W0.heap.size ≤ b) (ho : Γa.W0.os = w.os ∧ Γa.W0.tape = w.tape ∧ Γa.W0.output = w.output) (hsz : w.heap.size ≤ Γa.W0.heap.size) (hb : ∀ k, k < w.heap.size → ¬ Y k → Γa.W0.heap[k]? = w.heap[k]?) (hY : ∀ k, k < B → Y k → X k) :
    Susp Γo no fro ao X Γa K B := by
  obtain ⟨ρs, ws, Hs, ss, eB, e1, e2, e3, e4, e10, e6, e7, e8⟩ := s.ex
  have e9 := s.size
  have hsz1 : Γo.W0.heap.size ≤ ws.heap.size := ss.ext.size
  have hsz2 : Γi.W0.heap.size ≤ w.heap.size := t.ext.size
  refine ⟨⟨ρs, ws, Hs, ss, eB, fun i hi => ((hρ i hi).trans (t.keep i (by omega))).trans (e1 i hi), fun b h => hNa ▸ e2 b h, fun b h => e3 b (hNa ▸ h), fun b h => ?_, fun k hk hx hm => ?_, (ho.1.trans t.ext.os).trans e6, (ho.2.1.trans t.ext.tape).trans e7, (ho.2.2.trans t.ext.output).trans e8⟩, fun b h => ?_, hML, by omega, fun k h => hNa ▸ s.X k h, s.ids, s.hK⟩
  · rcases t.own b (hM b h) with h | h
    · exact e4 b h
    · exact .inr (by omega)
  · refine ((hb k (by omega) (fun hy => hx (hY k hk hy))).trans (t.ext.block k (by omega) (fun h => ?_))).trans (e10 k hk hx hm)
    rcases e4 k h with h | h
    · exact hm h
    · omega
  · rcases hL b h with h | h
    · exact s.L0 b h
    · exact .inr (by omega)
theorem Susp.laid {P : Program} [hL : LaidS P Γo] (s : Susp Γo no fro ao X Γi K B) (hX : ∀ k, X k → ∀ c T z, Γo.W0.heap[k]? ≠ some (.cells c T z)) : LaidS P Γi := by
  obtain ⟨ρs, ws, Hs, ss, eB, e1, e2, e3, e4, e10, e6, e7, e8⟩ := s.ex
  have key : ∀ g, g < Γo.W0.heap.size → ¬ Γo.M0 g → ¬ X g → Γi.W0.heap[g]? = Γo.W0.heap[g]? ∧ ¬ Γi.M0 g := fun g hlt h2 hnX => by
    have hn : ¬ namB ρs Hs g := fun h => by
      rcases ss.own g h with h | h
      · exact h2 h
      · omega
    have hlt2 : g < ws.heap.size := Nat.lt_of_lt_of_le hlt ss.ext.size
    exact ⟨(e10 g (by omega) hnX hn).trans (ss.ext.block g hlt h2), fun h => by
      rcases e4 g h with h | h
      · exact hn h
      · omega⟩
  refine ⟨fun g hg => ?_, fun nm g hnm hg => ?_⟩
  · obtain ⟨h1, h2⟩ := hL.laid.1 g hg
    have hlt := tab_lt hg h1
    have hnX : ¬ X g := fun hx => by
      have h3 := h1
      unfold Lib.TabIs World.var? at h3
      rw [hg] at h3
      simp only [Option.bind_some] at h3
      split at h3
      · rename_i hh; exact hX g hx _ _ _ hh
      · cases h3
    obtain ⟨k1, k2⟩ := key g hlt h2 hnX
    exact ⟨tab_same hg k1 h1, k2⟩
  · obtain ⟨h1, h2⟩ := hL.laid.2 nm g hnm hg
    have hlt := err_lt h1
    have hnX : ¬ X g := fun hx => by
      obtain ⟨c, T, z, ev, h3, _⟩ := h1
      exact hX g hx _ _ _ h3
    obtain ⟨k1, k2⟩ := key g hlt h2 hnX
    exact ⟨err_same k1 h1, k2⟩
end
end Go.GA
end
section
namespace Go.GA
open Go Go.RowKit

/-- what is fixed while the loop runs -/
structure Env where
  Γ : Ctx
  n : Sz
  fr : Fr
  a : Act
  l : Nat
  D : Nat
  lp : Loop
  K : Nat
  B : Nat
  Q : Exit → Act → World → Prop
def mark (D : Nat) : Deferred := { target := .collected D, args := #[] }
def Env.behind (E : Env) : Act := { E.a with defers := mark E.D :: E.a.defers }
def Env.nb (E : Env) : Sz := ⟨E.n.n, E.K⟩

/-- a context in which the caller waits; its record -/
structure Running (E : Env) (Γi : Ctx) (r : Loop) : Prop where
  susp : Susp E.Γ E.n E.fr E.a (fun _ => False) Γi E.K E.B
  nl : Γi.ρ0.N E.l
  nD : Γi.ρ0.N E.D
  ne : E.D ≠ E.l
  at_l : Γi.W0.heap[E.l]? = some (.loop r)
  dD : Γi.W0.heap[E.D]? = some (.deferred (some []))
  new : E.B ≤ E.l ∧ E.B ≤ E.D
  base : E.Γ.W0.heap.size ≤ E.B

theorem putObj_other (w : World) {l k : Nat} (o : Obj) (h : ¬ k = l) : (w.putObj l o).heap[k]? = w.heap[k]? := World.putObj_heap_other h
theorem putObj_size (w : World) (l : Nat) (o : Obj) : (w.putObj l o).heap.size = w.heap.size := by simp [World.putObj]

/-- what was done in between leaves of the context before -/
structure RB (Γ Γ2 : Ctx) (n : Sz) : Prop where
  ext : Ext Γ.M0 Γ.W0 Γ2.W0
  keep : ∀ i, i < n.K → Γ2.ρ0 i = Γ.ρ0 i
  M0 : ∀ b, Γ2.M0 b → Γ.M0 b ∨ Γ.W0.heap.size ≤ b
  L0 : ∀ b, Γ2.L0 b → Γ.L0 b ∨ Γ.W0.heap.size ≤ b
  N : ∀ b, Γ.ρ0.N b → Γ2.ρ0.N b
  dl : Γ2.dl = [] ∨ ∃ D, Γ2.dl = [mark D] ∧ Γ2.W0.heap[D]? = some (.deferred (some [])) ∧ Γ2.ρ0.N D ∧ Γ.W0.heap.size ≤ D ∧ ¬ Γ2.L0 D ∧ ¬ Γ2.M0 D
theorem RB.refl (Γ : Ctx) (n : Sz) (h : Γ.dl = []) : RB Γ Γ n := ⟨Ext.refl _ _, fun _ _ => rfl, fun _ h => .inl h, fun _ h => .inl h, fun _ h => h, .inl h⟩

section
variable {P : Program} {Γ : Ctx} {n : Sz} {Q : Exit → Act → World → Prop} {fr : Fr} {H : Hp}
/-- the marks and the record are where they were -/
theorem Running.at_w {E : Env} {Γi : Ctx} {r : Loop} (hr : Running E Γi r) {ni : Sz} {ρ : Rho} {w : World} {a : Act} {fr : Fr} {H : Hp} (t : SIM Γi ni ρ w a fr H) : w.heap[E.l]? = some (.loop r) ∧ w.heap[E.D]? = some (.deferred (some [])) := by
  have key : ∀ k o, Γi.ρ0.N k → Γi.W0.heap[k]? = some o → w.heap[k]? = some o := fun k o hN ho => by
    have hlt := (Array.getElem?_eq_some_iff.1 ho).1
    exact (t.ext.block k hlt (fun hm => (t.defers.2.2 k hN).1 (hr.susp.ML k hm))).trans ho
  exact ⟨key _ _ hr.nl hr.at_l, key _ _ hr.nD hr.dD⟩
/-- what is behind the loop, in a context of its own -/
theorem Running.behind {E : Env} {Γi : Ctx} {r : Loop} (hr : Running E Γi r) [hL : LaidS P E.Γ] (hdl : E.Γ.dl = []) {ni : Sz} {ρ : Rho} {w : World} {a : Act} {fr : Fr} {H : Hp} (t : SIM Γi ni ρ w a fr H) (hn : ni.K = E.K) (o : Obj) :
    ∃ Γ2, RB E.Γ Γ2 E.n ∧ LaidS P Γ2 ∧ ∃ ρ2, SIM Γ2 E.n ρ2 (w.putObj E.l o) E.behind E.fr H := by
  have hNt : ρ.N = Γi.ρ0.N := t.defers.2.1
  obtain ⟨hlw, hDw⟩ := hr.at_w t
  have hDlt : E.D < w.heap.size := (Array.getElem?_eq_some_iff.1 hDw).1
  obtain ⟨ℓ, hk, hl⟩ := t.heap
  have hap := t.apart hl
  have hX : ∀ k, k = E.l ∨ k = E.D → ρ.N k := fun k h => by
    rw [hNt]
    rcases h with rfl | rfl
    · exact hr.nl
    · exact hr.nD
  have hnot : ∀ k, k = E.l ∨ k = E.D → ¬ inL ℓ H k := fun k h => hap k (hX k h)
  obtain ⟨_, h2, h3, h4, h5, h6, h7, h8, h9, h10, h11, h12, h13⟩ := hr.susp.core t hn (w2 := w) (Nat.le_refl _) (fun _ _ _ => rfl)
  have hbase := hr.base
  have hnew := hr.new
  have hsub : ∀ b, ownB ⟨ρ.f, fun b => E.Γ.ρ0.N b ∨ b = E.D⟩ H b → ownB ρ H b := by
    rintro b (h | h | h)
    · exact .inl h
    · exact .inr (h13 b h)
    · exact .inr (hX b (.inr h))
  have hput : ∀ k, ¬ k = E.l → (w.putObj E.l o).heap[k]? = w.heap[k]? := fun k hk => putObj_other w o hk
  have hnl : ∀ k, ¬ ownB ρ H k → ¬ k = E.l := fun k h e => h (.inr (hX k (.inl e)))
  have hdef : E.a.defers = [] := h8.trans hdl
  have hL0 : ∀ b, inL ℓ H b → E.Γ.L0 b ∨ E.Γ.W0.heap.size ≤ b := fun b ⟨e, he, hbe⟩ => by
    rcases hl e he b hbe with h | h
    · exact hr.susp.L0 b h
    · have := hr.susp.size
      exact .inr (by omega)
  refine ⟨{ W0 := w.putObj E.l o, M0 := namB ρ H, L0 := inL ℓ H, ρ0 := ⟨ρ.f, fun b => E.Γ.ρ0.N b ∨ b = E.D⟩, dl := [mark E.D] }, ⟨⟨h10, h11, h12, by rw [putObj_size]; exact h6, fun k hk' hm => ?_⟩, h4, h3, hL0, fun b h => .inl h, .inr ⟨E.D, rfl, ?_, .inr rfl, by omega, hnot E.D (.inr rfl), fun ⟨e, he, k, hbk⟩ => hnot E.D (.inr rfl) ⟨e, he, hk.own_mem e he E.D k hbk⟩⟩⟩, ⟨⟨fun g hg => ?_, fun nm g hnm hg => ?_⟩⟩, ⟨ρ.f, fun b => E.Γ.ρ0.N b ∨ b = E.D⟩, ?_⟩
  · have hkl : ¬ k = E.l := fun h => by omega
    exact (hput k hkl).trans (h5 k hk' hm (fun h => h))
  · exact (hput E.D hr.ne).trans hDw
  · obtain ⟨h1, h2'⟩ := hL.laid.1 g hg
    have hlt := tab_lt hg h1
    have hgl : ¬ g = E.l := fun h => by omega
    exact ⟨tab_same hg ((hput g hgl).trans (h5 g hlt h2' (fun h => h))) h1, fun h => by
      rcases h3 g h with h | h
      · exact h2' h
      · omega⟩
  · obtain ⟨h1, h2'⟩ := hL.laid.2 nm g hnm hg
    have hlt := err_lt h1
    have hgl : ¬ g = E.l := fun h => by omega
    exact ⟨err_same ((hput g hgl).trans (h5 g hlt h2' (fun h => h))) h1, fun h => by
      rcases h3 g h with h | h
      · exact h2' h
      · omega⟩
  · refine ⟨⟨by simp [Env.behind, hdef], rfl, fun b h => ⟨fun hin => ?_, ?_⟩⟩, h7, Ext.refl _ _, fun _ _ => rfl, fun b h => .inl h, ⟨ℓ, ⟨fun e he => ?_, hk.nd, hk.dj, hk.ids⟩, fun e he b h => .inl ⟨e, he, h⟩⟩, fun q x hx => ?_⟩
    · rcases h with h | h
      · exact hap b (h13 b h) hin
      · exact hnot b (.inr h) hin
    · show b < (w.putObj E.l o).heap.size
      rw [putObj_size]
      rcases h with h | h
      · have := (h9 b h).2; omega
      · rw [h]; exact hDlt
    · exact (hk.blk e he).same (fun _ _ => rfl) (fun b hbn _ => ⟨hput b (hnl b hbn), fun h => hbn (hsub b h)⟩) (fun b hbe => hput b (fun h => hnot b (.inl h) ⟨e, he, hbe⟩))
    · obtain ⟨g1, g2, g3⟩ := h2 q x hx
      exact ⟨g1, g3.same x (fun _ _ => rfl) (fun b hbn _ => ⟨hput b (hnl b hbn), fun h => hbn (hsub b h)⟩)⟩

end
end Go.GA
end
section
namespace Go.GA
open Go Go.RowKit
/-- the fence of a round -/
def WF (ro : Option Nat) : Fence := { Fence.wide with round := ro }
section
variable {P : Program} {ro : Option Nat} {m : Nat}
variable {ops : Array Oper} {Q : Exit → Act → World → Prop}
end
/-- code of a round -/
def AWI (P : Program) (ro : Option Nat) (m : Nat) (Γ : Ctx) (n : Sz) (c : Code) (Q : Exit → Act → World → Prop) (fr : Fr) (H : Hp) : Prop :=
  ∀ ρ w a, SIM Γ n ρ w a fr H → c.wpIn (WF ro) m P Q a w
/-- operations among which stand calls of a loop's body -/
def AOI (P : Program) (m : Nat) (Γ : Ctx) (n : Sz) (all : Array Oper) (Q : Exit → Act → World → Prop) (ops : List Oper) (fr : Fr) (H : Hp) : Prop :=
  ∀ ρ w a, SIM Γ n ρ w a fr H → wpListIn (WF none) m P all Q ops a w
section
variable {P : Program} {ro : Option Nat} {m : Nat} {Γ : Ctx} {n : Sz} {Q : Exit → Act → World → Prop} {fr fr' : Fr} {H H' : Hp}
end
end Go.GA
end
section
namespace Go.GA
open Go Go.RowKit
/-- the loop's record -/
def recOf (fid : FuncId) (tmps : Array Value) (ps : Array Tmp) (assign body : Code) (D : Nat) : Loop := { state := .ready, pending := none, fn := fid, tmps := tmps, params := ps, assign, body, defers := D }
/-- what the environment is made of -/
structure IsEnv (E : Env) (Γ : Ctx) (n : Sz) (fr : Fr) (K : Nat) (Q : Exit → Act → World → Prop) (ps : Array Tmp) (assign body : Code) : Prop where
  size : E.a.tmps.size = n.n
  Γ : E.Γ = Γ
  n : E.n = n
  fr : E.fr = fr
  K : E.K = K
  Q : E.Q = Q
  lp : ∃ fid, E.lp = recOf fid E.a.tmps ps assign body E.D
/-- the iterator waits while a round runs -/
structure Wait (E : Env) (Γi : Ctx) (ni : Sz) (fri : Fr) (ai : Act) (Γx : Ctx) (r : Loop) : Prop where
  susp : ∃ B, Susp Γi ni fri ai (fun k => k = E.l) Γx E.K B
  dl : Γx.dl = []
  at_l : Γx.W0.heap[E.l]? = some (.loop r)

section
variable {P : Program} {Γ Γi Γx : Ctx} {n ni nb : Sz} {Q Q' : Exit → Act → World → Prop} {fr fri frb : Fr} {H : Hp} {E : Env} {K : Nat} {ps : Array Tmp} {assign body : Code} {ai : Act}
end
end Go.GA
end
section
namespace Go.GA
open Go Go.RowKit
section
variable {P : Program} {Γ Γi Γ2 : Ctx} {n ni : Sz} {Q : Exit → Act → World → Prop} {fr fri : Fr} {H : Hp} {E : Env} {K : Nat} {ps : Array Tmp} {assign body : Code} {fn : Func} {R : AV → Hp → Prop}
end
end Go.GA
namespace Go.GA
open Go Go.RowKit
section
variable {P : Program} {Γ : Ctx} {n : Sz} {Q : Exit → Act → World → Prop} {fr fr' : Fr} {H H' : Hp} {E : Env} {K : Nat} {ps : Array Tmp} {assign body : Code} {ro : Option Nat} {m : Nat}
theorem AWI.sub {c : Code} (hs : Sub n fr H fr' H') (h : AWI P ro m Γ n c Q fr' H') : AWI P ro m Γ n c Q fr H := fun ρ w a s => let ⟨ρ', s'⟩ := hs Γ ρ w a s; h ρ' w a s'
theorem AOI.sub {all : Array Oper} {ops : List Oper} (hs : Sub n fr H fr' H') (h : AOI P m Γ n all Q ops fr' H') : AOI P m Γ n all Q ops fr H := fun ρ w a s => let ⟨ρ', s'⟩ := hs Γ ρ w a s; h ρ' w a s'
theorem IsEnv.ready (h : IsEnv E Γ n fr K Q ps assign body) : E.lp.state = .ready := by
  obtain ⟨fid, e⟩ := h.lp
  rw [e]; rfl
end
end Go.GA
end
section
namespace Go.GA
open Go Go.RowKit
section
variable {P : Program} {fr : Fr} {H : Hp} {dst : Option Nat} {ty : TypeId} {pos : String} {aft : Array Edge} {g : Option (Nat × Bool)}
end
end Go.GA
end
section
namespace Go.GA
open Go Go.RowKit
section
variable {P : Program} {n : Sz} {fr : Fr} {H : Hp} {dst : Option Nat} {ty : TypeId} {pos : String} {aft : Array Edge} {g : Option (Nat × Bool)}
end
end Go.GA
end
section
namespace Go.GA
open Go Go.RowKit
theorem info_size {P : Program} {E : TypeId} {n : Nat} (hs : ∀ w, (sizeOf E).run P w = .ok n w) : ∃ i, P.info? E = some i ∧ i.size = n := by
  have h := hs default
  cases hi : P.info? E with
  | none => simp [sizeOf, typeInfo, program, stuck, Sem.run_bind, Sem.run, hi, Result.andThen] at h
  | some i =>
    refine ⟨i, rfl, ?_⟩
    simp [sizeOf, typeInfo, program, stuck, Sem.run_bind, Sem.run, hi, Result.andThen] at h
    exact h
def AV.isPtr : AV → Bool
  | .ref .. => true
  | .elem .. => true
  | .elem2 .. => true
  | .cptr .. => true
  | _ => false
section
variable {P : Program} {fr : Fr} {H : Hp} {dst : Option Nat} {ty : TypeId} {pos : String} {aft : Array Edge} {g : Option (Nat × Bool)}
theorem r_nilCheck {x : Operand} {y : AV} (hx : evO fr x = some y) (hp : y.isPtr = true) : Reads P ⟨dst, .nilCheck x, ty, pos, aft, g⟩ fr H y := fun Γ n ρ w a s => by
  have hv := s.ev hx
  refine ⟨a.eval x, hv, fun w' _ => ?_⟩
  have : ∃ ad, a.eval x = .pointer (some ad) := by
    cases y <;> simp only [AV.isPtr, Bool.false_eq_true] at hp
    all_goals simp only [RA] at hv
    all_goals first
      | (obtain ⟨b, k, _, e⟩ := hv; exact ⟨_, e⟩)
      | (obtain ⟨b, off, F, c, T, z, pre, mid, post, e, _⟩ := hv; exact ⟨_, e⟩)
  obtain ⟨ad, e⟩ := this
  simp [execOp, e, Sem.run_pure]
end
end Go.GA
end
section
namespace Go.GA
open Go Go.RowKit
section
variable {P : Program} {fr : Fr} {H : Hp} {dst : Option Nat} {ty : TypeId} {pos : String} {aft : Array Edge} {g : Option (Nat × Bool)}
end
end Go.GA
end
section
namespace Go.GA
open Go Go.RowKit
section
variable {H : Hp}
end
section
variable {P : Program} {n : Sz} {fr : Fr} {H : Hp} {dst : Option Nat} {ty : TypeId} {pos : String} {aft : Array Edge} {g : Option (Nat × Bool)}
/-- a struct literal, as plain data -/
theorem r_build_stv {T : TypeId} {fields : Array Field} {l : List (Nat × Operand)} {z : Value} {cs : List Comp} (t : Ty) (y : t.D) (pl : List (Nat × Nat)) (ht : P.underlying T = some (.struct fields)) (hz : ∀ w, (zeroValue T).run P w = .ok z w) (hzs : z.cells.toList = zc t)
    (hp : Places P fields.toList pl) (hb : buildC fr (zC t) pl l = some cs) (hf : t.flatArrs = true) (ha : t.agg = true) (hy : cs = tyComps t y) :
    Reads P ⟨dst, .build T l.toArray, ty, pos, aft, g⟩ fr H (.v t y) := fun Γ n' ρ w a s => by
  obtain ⟨B, h1, h2⟩ := fill_comps (fr := fr) (ρ := ρ) (h := World.hf w) (M := ownB ρ H) (ev := a.eval) (fun o y h => s.ev h) (A := z.cells) (by rw [hzs]; exact zC_ok _ _ _ t) hb
  rw [hy] at h2
  obtain ⟨F, h3, h4⟩ := comps_ty t hf h2
  refine ⟨.agg B, ⟨F, ⟨_, h3, by simp [mkV, ha]⟩, h4⟩, fun w' _ => ?_⟩
  have hm : ∀ w, (fields.mapM fun f => do pure (f.offset, ← sizeOf f.type) : Sem (Array (Nat × Nat))).run P w = .ok pl.toArray w := fun w => by
    have e : fields = fields.toList.toArray := rfl
    rw [e, List.mapM_toArray, map_eq_pure_bind, Sem.run_bind, places_run hp w]
    rfl
  simp only [execOp, Instr.build, Sem.run_bind, hz, run_underlying ht, Result.andThen_ok, hm, List.map_toArray]
  rw [h1]
  simp
end
end Go.GA
end
section
namespace Go.GA
open Go Go.RowKit
def eqI (a b : Int) : Bool := decide (a = b)
def eqB (a b : Bool) : Bool := a == b
def eqIs (a b : List Int) : Bool := decide (a = b)
/-- equality of plain data -/
def eqT : (t : Ty) → t.D → t.D → Bool
  | .int _, x, y => eqI x y
  | .bool, x, y => eqB x y
  | .str, x, y => eqS x y
  | .arr _ (.int _), x, y => eqIs x y
  | .pair a b, x, y => eqT a x.1 y.1 && eqT b x.2 y.2
  | .unit, _, _ => true
  | _, _, _ => false
def TEq (P : Program) (n : Nat) (T : TypeId) (t : Ty) : Prop := ∀ (w : World) (d : Nat) (h : Hf) (x y : t.D) (c1 c2 : List Value) (F1 F2 : List Nat), n ≤ d → Rc h t x c1 F1 → Rc h t y c2 F2 → (Op.equalIn d T (mkV t c1) (mkV t c2)).run P w = .ok (eqT t x y) w
section
variable {P : Program}
theorem TEq.mono {n n' : Nat} {T : TypeId} {t : Ty} (hn : Nat.ble n n' = true) (h : TEq P n T t) : TEq P n' T t := fun w d hf x y c1 c2 F1 F2 hd h1 h2 => h w d hf x y c1 c2 F1 F2 (Nat.le_trans (Nat.le_of_ble_eq_true hn) hd) h1 h2
variable {fr : Fr} {H : Hp} {dst : Option Nat} {ty : TypeId} {pos : String} {aft : Array Edge} {g : Option (Nat × Bool)}
end
end Go.GA
end
section
namespace Go.GA
open Go Go.RowKit
section
variable {P : Program} {n : Sz} {fr : Fr} {H : Hp} {dst : Option Nat} {ty : TypeId} {pos : String} {aft : Array Edge} {g : Option (Nat × Bool)}
end
end Go.GA
end
section
namespace Go.GA
open Go Go.RowKit
section
variable {Γ : Ctx} {n : Sz} {fr : Fr} {H : Hp}
end
end Go.GA
end
section
namespace Go.GA
open Go Go.RowKit
section
variable {P : Program} {n : Sz} {fr : Fr} {H : Hp} {dst : Option Nat} {ty : TypeId} {pos : String} {aft : Array Edge} {g : Option (Nat × Bool)}
end
end Go.GA
end
section
namespace Go.GA
open Go Go.RowKit
section
variable {P : Program} {fr : Fr} {H : Hp} {dst : Option Nat} {ty : TypeId} {pos : String} {aft : Array Edge} {g : Option (Nat × Bool)}
end
end Go.GA
end
section
namespace Go.GA
open Go Go.RowKit
section
variable {P : Program} {n : Sz} {fr : Fr} {H : Hp} {dst : Option Nat} {ty : TypeId} {pos : String} {aft : Array Edge} {g : Option (Nat × Bool)}
end
end Go.GA
end
section
namespace Go.GA
open Go Go.RowKit
section
variable {P : Program} {n : Sz} {fr : Fr} {H : Hp} {dst : Option Nat} {ty : TypeId} {pos : String} {aft : Array Edge} {g : Option (Nat × Bool)}
end
end Go.GA
end
section
namespace Go.GA
open Go Go.RowKit
section
variable {P : Program} {n : Sz} {fr : Fr} {H : Hp} {dst : Option Nat} {ty : TypeId} {pos : String} {aft : Array Edge} {g : Option (Nat × Bool)}
theorem rp_fieldAddr {S : TypeId} {x : Operand} {id off k o : Nat} {fs : Array Field} {fd : Field} {s' : Nat} (hu : P.underlying S = some (.struct fs)) (hf : fs[k]? = some fd) (hs : ∀ w, (sizeOf fd.type).run P w = .ok s' w) (hs0 : Nat.beq s' 0 = false)
    (hx : evO fr x = some (.ref id off)) (ho : off + fd.offset = o) : ReadsP P ⟨dst, .fieldAddr S x k, ty, pos, aft, g⟩ fr (.ref id o) := fun ρ h M ev hev => by
  obtain ⟨b, kk, hρ, e⟩ := hev _ _ hx
  subst ho
  have hne : s' ≠ 0 := Nat.ne_of_beq_eq_false hs0
  refine ⟨_, ⟨b, kk, hρ, rfl⟩, fun w' => ?_⟩
  simp [execOp, Instr.fieldAt, e, Sem.run_bind, run_underlying hu, hf, Instr.sureAddr, fieldPlace, hs, hne, addr_add]
theorem rp_nilCheck {x : Operand} {y : AV} (hx : evO fr x = some y) (hp : y.isPtr = true) : ReadsP P ⟨dst, .nilCheck x, ty, pos, aft, g⟩ fr y := fun ρ h M ev hev => by
  have hv := hev _ _ hx
  refine ⟨ev x, hv, fun w' => ?_⟩
  have : ∃ ad, ev x = .pointer (some ad) := by
    cases y <;> simp only [AV.isPtr, Bool.false_eq_true] at hp
    all_goals simp only [RA] at hv
    all_goals first
      | (obtain ⟨b, k, _, e⟩ := hv; exact ⟨_, e⟩)
      | (obtain ⟨b, off, F, c, T, z, pre, mid, post, e, _⟩ := hv; exact ⟨_, e⟩)
  obtain ⟨ad, e⟩ := this
  simp [execOp, e]
/-! ### A state seen under other names -/
def oneC : List Comp → Bool
  | [] => true
  | .cell a :: cs => a.one && oneC cs
  | .arr .. :: cs => oneC cs
def oneH : Hp → Bool
  | [] => true
  | (_, .var cs) :: H => oneC cs && oneH H
  | (_, .row ..) :: H => oneH H
  | (_, .brow ..) :: H => oneH H
theorem subFr_rr {H H' : Hp} {σ : Nat → Nat} {fr : Fr} : ∀ {fr' : Fr}, fr'.map (fun e => get fr e.1) = fr'.map (fun e => some (e.2.ren σ)) → SubFr H H' σ fr fr'
  | [], _ => trivial
  | (t, y) :: l, h => by
    simp only [List.map_cons, List.cons.injEq] at h
    exact ⟨⟨_, h.1, ad_ren rfl⟩, subFr_rr h.2⟩
theorem adC_rr {H H' : Hp} {σ : Nat → Nat} : ∀ {cs : List Comp}, oneC cs = true → AdC H H' σ (compsRen σ cs) cs
  | [], _ => trivial
  | .cell a :: cs, h => by
    simp only [oneC, Bool.and_eq_true] at h
    exact ⟨ad_ren rfl, h.1, adC_rr h.2⟩
  | .arr t n xs :: cs, h => ⟨rfl, adC_rr (cs := cs) h⟩
theorem subH_rr {H H'' : Hp} {σ : Nat → Nat} : ∀ {H' : Hp}, H'.map (fun e => hget H (σ e.1)) = H'.map (fun e => some (e.2.ren σ)) → oneH H' = true → SubH H H'' σ H'
  | [], _, _ => trivial
  | (i, .var cs) :: l, h, ho => by
    simp only [List.map_cons, List.cons.injEq] at h
    simp only [oneH, Bool.and_eq_true] at ho
    exact ⟨⟨_, h.1, adC_rr ho.1⟩, subH_rr h.2 ho.2⟩
  | (i, .row t xs) :: l, h, ho => by
    simp only [List.map_cons, List.cons.injEq] at h
    exact ⟨⟨_, h.1, rfl⟩, subH_rr h.2 ho⟩
  | (i, .brow xs) :: l, h, ho => by
    simp only [List.map_cons, List.cons.injEq] at h
    exact ⟨⟨_, h.1, rfl⟩, subH_rr h.2 ho⟩
theorem sub_rr (σ : Nat → Nat) {fr' : Fr} {H' : Hp} (hfr : fr'.map (fun e => get fr e.1) = fr'.map (fun e => some (e.2.ren σ))) (hH : H'.map (fun e => hget H (σ e.1)) = H'.map (fun e => some (e.2.ren σ))) (ho : oneH H' = true) (hi : injB σ (hkeys H') = true) (hK : ∀ i, i < n.K → σ i = i) : Sub n fr H fr' H' :=
  sub_mk σ (subFr_rr hfr) (subH_rr hH ho) hi hK
theorem sub_r1 (σ : Nat → Nat) {fr' : Fr} {H' : Hp} (hK : ∀ i, i < n.K → σ i = i) (h : (fr'.map (fun e => get fr e.1), H'.map (fun e => hget H (σ e.1)), oneH H', injB σ (hkeys H')) = (fr'.map (fun e => some (e.2.ren σ)), H'.map (fun e => some (e.2.ren σ)), true, true)) : Sub n fr H fr' H' := by
  simp only [Prod.mk.injEq] at h
  exact sub_rr σ h.1 h.2.1 h.2.2.1 h.2.2.2 hK
theorem ap_gr {Γ : Ctx} {Q : Exit → Act → World → Prop} {all : Array Oper} {m : Nat} {listed listed' : Array Bool} {fr' : Fr} {H' : Hp} (σ : Nat → Nat) (hK : ∀ i, i < n.K → σ i = i) (h : AP P Γ n all Q m listed' fr' H')
    (he : (listed, fr'.map (fun e => get fr e.1), H'.map (fun e => hget H (σ e.1)), oneH H', injB σ (hkeys H')) = (listed', fr'.map (fun e => some (e.2.ren σ)), H'.map (fun e => some (e.2.ren σ)), true, true)) :
    AP P Γ n all Q m listed fr H := by
  simp only [Prod.mk.injEq] at he
  exact ap_go he.1 (sub_rr σ he.2.1 he.2.2.1 he.2.2.2.1 he.2.2.2.2 hK) h
theorem ap_ni {Γ : Ctx} {Q : Exit → Act → World → Prop} {all as : Array Oper} {m : Nat} {listed : Array Bool} (h : AP P Γ n all Q m listed fr H) : AO P Γ n as (Exit.then (wpAny P .any all Q m listed) Q) [] fr H := ao_nil (ap_in h)
abbrev ci (e : Int) : Comp := .cell (.int .i64 e)
end
end Go.GA
end
section
namespace Go.GA
open Go Go.RowKit
section
variable {P : Program} {Γ : Ctx} {n : Sz} {Q : Exit → Act → World → Prop} {fr : Fr} {H : Hp} {op : Op} {ty : TypeId} {pos : String} {aft : Array Edge} {all : Array Oper}
theorem ao_r {ops : List Oper} {d : Nat} {x : AV} (hr : Reads P ⟨some d, op, ty, pos, aft, none⟩ fr H x) (hd : Nat.blt d n.n = true)
    (h : AO P Γ n all Q ops ((d, x) :: fr) H) : AO P Γ n all Q (⟨some d, op, ty, pos, aft, none⟩ :: ops) fr H := ao_read trivial hr hd h
theorem an_r {m f : Nat} {T : Act → World → Prop} {listed : Array Bool} (i : Nat) {d : Nat} {x : AV} (hQ : ∀ c a w, Q (.panic c) a w → False) (hi : all[i]? = some ⟨some d, op, ty, pos, aft, none⟩) (hn : (Region.noSelect all && nextB all listed m i) = true) (hr : Reads P ⟨some d, op, ty, pos, aft, none⟩ fr H x) (hd : Nat.blt d n.n = true)
    (h : AN P Γ n all Q m T f (listed.setIfInBounds i true) ((d, x) :: fr) H) : AN P Γ n all Q m T (f + 1) listed fr H := by
  simp only [Bool.and_eq_true] at hn
  exact an_read i hn.1 hQ hi hn.2 trivial hr hd h
theorem ap_p {m : Nat} {listed : Array Bool} (i : Nat) {d : Nat} {x : AV} (hQ : ∀ c a w, Q (.panic c) a w → False) (hi : all[i]? = some ⟨some d, op, ty, pos, aft, none⟩) (hn : (Region.noSelect all && readyB all listed i) = true) (hr : ReadsP P ⟨some d, op, ty, pos, aft, none⟩ fr x) (hd : Nat.blt d n.n = true)
    (h : AP P Γ n all Q m (listed.setIfInBounds i true) ((d, x) :: fr) H) : AP P Γ n all Q (m + 1) listed fr H := by
  simp only [Bool.and_eq_true] at hn
  exact ap_pure i hn.1 hQ hi hn.2 trivial hr hd h
end
end Go.GA
end
section
namespace Go.GA
open Go Go.RowKit
end Go.GA
end
section
namespace Go.GA
open Go Go.RowKit
section
variable {P : Program} {fr : Fr} {H : Hp} {dst : Option Nat} {ty : TypeId} {pos : String} {aft : Array Edge} {g : Option (Nat × Bool)}
end
end Go.GA
end
section
namespace Go.GA
open Go Go.RowKit
def marks1 (n : Nat) (k : Int) : List Int := (List.range n).map fun i : Nat => k + (i : Int)
def total2 : List (List Int) → Int
  | [] => 0
  | x :: xs => (x.length : Int) + total2 xs
def marks2 : List (List Int) → Int → List (List Int)
  | [], _ => []
  | x :: xs, k => marks1 x.length k :: marks2 xs (k + (x.length : Int))
/-- a slice of ints, its cell and its blocks -/
def RI (h : Hf) (x : List Int) (c : List Value) (F : List Nat) : Prop := Rc h (.slice (.int .i64)) x c F
/-- the rows have been marked -/
def Marked (w w' : World) (xs : List (List Int)) (k : Int) (mid : List Value) (F : List Nat) : Prop :=
  RelL (RI (World.hf w')) (marks2 xs k) mid F ∧ NoFz (World.hf w') F ∧ (∀ x, x ∉ F → w'.heap[x]? = w.heap[x]?) ∧ w'.heap.size = w.heap.size ∧ w'.os = w.os ∧ w'.tape = w.tape ∧ w'.output = w.output
/-- the function f marks -/
structure MarkSS (P : Program) (f : FuncId) : Prop where
  nil : ∀ (a : Option Addr) (c : Nat) (k : Int) (w : World), Calls P f #[.slice a 0 c, .int .i64 k] w fun e w' => e = .returned (.int .i64 k) ∧ w' = w
  rows : ∀ (b cap n : Nat) (c : Array Value) (T : TypeId) (xs : List (List Int)) (mid post : List Value) (F : List Nat) (k : Int) (w : World), n = xs.length → n ≤ 1000000000 → 0 ≤ k → k ≤ 1000000000 → total2 xs ≤ 1000000000 →
    w.heap[b]? = some (.cells c T (0, 0)) → c.toList = mid ++ post → RelL (RI (World.hf w)) xs mid F → NoFz (World.hf w) F → F.Nodup → b ∉ F →
    Calls P f #[.slice (some ⟨b, 0, none⟩) n cap, .int .i64 k] w fun e w' => e = .returned (.int .i64 (k + total2 xs)) ∧ Marked w w' xs k mid F

mutual
/-- no data lies behind it but in own blocks -/
def AV.plain : AV → Bool
  | .v t _ => t.flat
  | .cptr .. => false
  | .cav _ => false
  | .gd _ x => x.plain
  | .tup xs => AV.plainL xs
  | .st xs => AV.plainL xs
  | .fn _ caps => AV.plainL caps
  | _ => true
def AV.plainL : List AV → Bool
  | [] => true
  | x :: xs => x.plain && AV.plainL xs
end
mutual
theorem RA.plain {ρ : Rho} {h h' : Hf} {M M' : Nat → Prop} : ∀ (x : AV) {v : Value}, x.plain = true → RA ρ h M x v → RA ρ h' M' x v
  | .int .., _, _, hx => hx
  | .bool _, _, _, hx => hx
  | .str _, _, _, hx => hx
  | .v t x, _, hp, hx => by
    obtain ⟨F, ⟨cs, h1, e⟩, hF⟩ := hx
    have hf : F = [] := Rc.flat t hp h1
    subst hf
    exact ⟨[], ⟨cs, h1.same t (by simp), e⟩, by simp⟩
  | .cptr .., _, hp, _ => by cases hp
  | .cav _, _, hp, _ => by cases hp
  | .ref .., _, _, hx => hx
  | .elem .., _, _, hx => hx
  | .elem2 .., _, _, hx => hx
  | .os _, _, _, hx => hx
  | .view .., _, _, hx => hx
  | .nilsl, _, _, hx => hx
  | .nilp, _, _, hx => hx
  | .nilf, _, _, hx => hx
  | .fn f caps, _, hp, hx => by
    obtain ⟨vs, e, h1⟩ := hx
    exact ⟨vs, e, RAs.plain caps hp h1⟩
  | .tup xs, _, hp, hx => by
    obtain ⟨vs, e, h1⟩ := hx
    exact ⟨vs, e, RAs.plain xs hp h1⟩
  | .st xs, _, hp, hx => by
    obtain ⟨vs, e, h1⟩ := hx
    exact ⟨vs, e, RAs.plain xs hp h1⟩
  | .gd g x, _, hp, hx => by
    cases g
    · exact hx
    · exact RA.plain (v := _) x hp hx
  | .junk, _, _, _ => trivial
  | .yl _, _, _, hx => hx
  | .ov .., _, _, hx => hx
theorem RAs.plain {ρ : Rho} {h h' : Hf} {M M' : Nat → Prop} : ∀ (xs : List AV) {vs : List Value}, AV.plainL xs = true → RAs ρ h M xs vs → RAs ρ h' M' xs vs
  | [], _, _, hx => hx
  | x :: xs, _, hp, hx => by
    obtain ⟨v, vs', e, h1, h2⟩ := hx
    simp only [AV.plainL, Bool.and_eq_true] at hp
    exact ⟨v, vs', e, RA.plain x hp.1 h1, RAs.plain xs hp.2 h2⟩
end
def plainC : List Comp → Bool
  | [] => true
  | .cell a :: r => a.plain && plainC r
  | .arr .. :: r => plainC r
theorem RComps.plain {ρ : Rho} {h h' : Hf} {M M' : Nat → Prop} : ∀ {cs : List Comp} {vs F}, plainC cs = true → RComps ρ h M cs vs F → (∀ b ∈ F, h' b = h b) → RComps ρ h' M' cs vs F
  | [], _, _, _, hx, _ => hx
  | .cell a :: r, _, _, hp, hx, hF => by
    obtain ⟨v, cs', e, h1, h2, h3⟩ := hx
    simp only [plainC, Bool.and_eq_true] at hp
    exact ⟨v, cs', e, h1, RA.plain a hp.1 h2, RComps.plain hp.2 h3 hF⟩
  | .arr t n xs :: r, _, _, hp, hx, hF => by
    obtain ⟨c1, c2, F1, F2, e, eF, h1, h2⟩ := hx
    subst eF
    exact ⟨c1, c2, F1, F2, e, rfl, h1.same _ (fun b hb => hF b (List.mem_append_left _ hb)), RComps.plain (by simpa [plainC] using hp) h2 (fun b hb => hF b (List.mem_append_right _ hb))⟩
theorem RBlk.plain {ρ : Rho} {h h' : Hf} {M M' : Nat → Prop} {id : Nat} : ∀ {B : Blk} {L}, (∀ cs, B = .var cs → plainC cs = true) → RBlk ρ h M id B L → (∀ b ∈ L, h' b = h b) → RBlk ρ h' M' id B L
  | .var cs, _, hp, hx, hF => by
    obtain ⟨b, k, c, T, F, h1, h2, h3, e⟩ := hx
    subst e
    exact ⟨b, k, c, T, F, h1, by rw [hF b (by simp)]; exact h2, h3.plain (hp cs rfl) (fun b hb => hF b (List.mem_cons_of_mem _ hb)), rfl⟩
  | .row t xs, _, _, hx, hF => by
    obtain ⟨hl, ⟨h1, h2⟩ | ⟨b, cap, c, T, F, mid, post, h1, h2, h3, h4, e, h5⟩⟩ := hx
    · exact ⟨hl, .inl ⟨h1, h2⟩⟩
    · subst e
      exact ⟨hl, .inr ⟨b, cap, c, T, F, mid, post, h1, by rw [hF b (by simp)]; exact h2, h3,
        h4.mono (fun x c F' hF' hc => hc.same t (fun b hb => hF b (List.mem_cons_of_mem _ (hF' b hb)))), rfl, h5.1, h5.2.1, h5.2.2.same (fun b hb => hF b (List.mem_cons_of_mem _ hb))⟩⟩
  | .brow xs, _, _, hx, hF => by
    obtain ⟨b, cap, c, T, post, h1, h2, h3, e, h4⟩ := hx
    subst e
    exact ⟨b, cap, c, T, post, h1, by rw [hF b (by simp)]; exact h2, h3, rfl, h4⟩
section
variable {P : Program} {Γ : Ctx} {n : Sz} {Q : Exit → Act → World → Prop} {fr : Fr} {H : Hp} {all : Array Oper} {ops : List Oper} {ty : TypeId} {pos : String} {aft : Array Edge}
end
end Go.GA
end
section
namespace Go.GA
open Go Go.RowKit
end Go.GA
end
