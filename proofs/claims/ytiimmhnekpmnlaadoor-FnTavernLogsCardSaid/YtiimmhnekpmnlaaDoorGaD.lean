/- Structs with slices of their own: loaded, built, handed over; nil slices in variables. -/
import Derived.Test.YtiimmhnekpmnlaaDoorGaC
import Derived.Lib.ConvBytes
import Derived.Lib.Bytealg
import Derived.Laws.Externs
import Derived.Sort.Grow
import Derived.RangeFuncLeaves
import Derived.RangeFuncOwn
import Derived.OrdersIn
import Derived.TacticsIn
import Derived.ControlIn
import Derived.Laws.BytesString
import Derived.Laws.CopyRow
section
namespace Go.GA
open Go Go.RowKit
def compAVs : List Comp → List AV
  | [] => []
  | .cell a :: cs => a :: compAVs cs
  | .arr t n xs :: cs => .v (.arr n t) xs :: compAVs cs
/-- arrays in it hold no slices -/
def flatComps : List Comp → Bool
  | [] => true
  | .cell _ :: cs => flatComps cs
  | .arr t _ _ :: cs => t.flat && flatComps cs
theorem compAVs_append : ∀ (a b : List Comp), compAVs (a ++ b) = compAVs a ++ compAVs b
  | [], _ => rfl
  | .cell _ :: a, b => by simp [compAVs, compAVs_append a b]
  | .arr .. :: a, b => by simp [compAVs, compAVs_append a b]
theorem comps_st {ρ : Rho} {h : Hf} {M : Nat → Prop} : ∀ {cs : List Comp} {vs F}, flatComps cs = true → RComps ρ h M cs vs F → ∃ us, RAs ρ h M (compAVs cs) us ∧ cellsOf us = vs ∧ F = []
  | [], vs, F, _, hr => ⟨[], rfl, by rw [hr.1]; rfl, hr.2⟩
  | .cell a :: cs, vs, F, hf, hr => by
    obtain ⟨v, cs', e, h1, h2, h3⟩ := hr
    obtain ⟨us, h4, h5, h6⟩ := comps_st (cs := cs) hf h3
    refine ⟨v :: us, ⟨v, us, rfl, h2, h4⟩, ?_, h6⟩
    rw [e, ← h5]
    simp [cellsOf, one_cells h2 h1]
  | .arr t n xs :: cs, vs, F, hf, hr => by
    simp only [flatComps, Bool.and_eq_true] at hf
    obtain ⟨c1, c2, F1, F2, e, eF, h1, h2⟩ := hr
    obtain ⟨us, h4, h5, h6⟩ := comps_st (cs := cs) hf.2 h2
    have hF1 := Rc.flat (.arr n t) hf.1 h1
    subst hF1; subst h6
    refine ⟨.agg c1.toArray :: us, ⟨_, us, rfl, ⟨[], ⟨c1, h1, rfl⟩, by simp⟩, h4⟩, ?_, by rw [eF]; rfl⟩
    rw [e, ← h5]
    simp [cellsOf, Value.cells]
theorem ras_append {ρ : Rho} {h : Hf} {M : Nat → Prop} : ∀ {xs ys : List AV} {vs}, RAs ρ h M (xs ++ ys) vs → ∃ us ws, vs = us ++ ws ∧ RAs ρ h M xs us ∧ RAs ρ h M ys ws
  | [], ys, vs, hr => ⟨[], vs, rfl, rfl, hr⟩
  | x :: xs, ys, vs, hr => by
    obtain ⟨v, vs', e, h1, h2⟩ := hr
    obtain ⟨us, ws, e2, h3, h4⟩ := ras_append (xs := xs) h2
    exact ⟨v :: us, ws, by rw [e, e2]; rfl, ⟨v, us, rfl, h1, h3⟩, h4⟩
theorem ras_one {ρ : Rho} {h : Hf} {M : Nat → Prop} {x : AV} {vs} (hr : RAs ρ h M [x] vs) : ∃ v, vs = [v] ∧ RA ρ h M x v := by
  obtain ⟨v, vs', e, h1, h2⟩ := hr
  simp only [RAs] at h2
  subst h2
  exact ⟨v, e, h1⟩
/-- parts that are plain make up a whole that is -/
theorem ras_ty {ρ : Rho} {h : Hf} {M : Nat → Prop} : ∀ (t : Ty) {x : t.D} {us}, t.flatArrs = true → RAs ρ h M (compAVs (tyComps t x)) us → ∃ F, Rc h t x (cellsOf us) F ∧ ∀ b ∈ F, ¬ M b
  | .arr n t, x, us, _, hr => by
    obtain ⟨v, rfl, F, ⟨cs, hc, e⟩, hM⟩ := ras_one hr
    subst e
    exact ⟨F, by simpa [cellsOf, mkV, Ty.agg, Value.cells] using hc, hM⟩
  | .pair a b, x, us, hf, hr => by
    simp only [Ty.flatArrs, Bool.and_eq_true] at hf
    simp only [tyComps, compAVs_append] at hr
    obtain ⟨u1, u2, e, h1, h2⟩ := ras_append hr
    obtain ⟨F1, r1, n1⟩ := ras_ty a hf.1 h1
    obtain ⟨F2, r2, n2⟩ := ras_ty b hf.2 h2
    exact ⟨F1 ++ F2, ⟨_, _, F1, F2, by rw [e]; simp [cellsOf], rfl, r1, r2⟩, fun y hy => by
      rcases List.mem_append.1 hy with h | h
      · exact n1 y h
      · exact n2 y h⟩
  | .unit, _, us, _, hr => by
    have : us = [] := hr
    subst this
    exact ⟨[], ⟨rfl, rfl⟩, by simp⟩
  | .int k, x, us, _, hr => by
    obtain ⟨v, rfl, e⟩ := ras_one hr
    simp only [RA] at e
    subst e
    exact ⟨[], ⟨rfl, rfl⟩, by simp⟩
  | .bool, x, us, _, hr => by
    obtain ⟨v, rfl, e⟩ := ras_one hr
    simp only [RA] at e
    subst e
    exact ⟨[], ⟨rfl, rfl⟩, by simp⟩
  | .str, x, us, _, hr => by
    obtain ⟨v, rfl, e⟩ := ras_one hr
    simp only [RA] at e
    subst e
    exact ⟨[], ⟨rfl, rfl⟩, by simp⟩
  | .slice t, x, us, _, hr => by
    obtain ⟨v, rfl, hv⟩ := ras_one hr
    have h1 := one_cells (x := .v (.slice t) x) hv rfl
    obtain ⟨F, ⟨cs, hc, e⟩, hM⟩ := hv
    obtain ⟨u, rfl⟩ := one_cell (t := .slice t) rfl hc
    obtain rfl : v = u := e
    exact ⟨F, by simpa [cellsOf, h1] using hc, hM⟩
section
variable {P : Program} {Γ : Ctx} {n : Sz} {fr : Fr} {H H' : Hp} {dst : Option Nat} {ty : TypeId} {pos : String} {aft : Array Edge} {g : Option (Nat × Bool)}
/-- a struct with own parts, as plain data -/
theorem ad_st {σ : Nat → Nat} {τ : Ty} {y : τ.D} {xs : List AV} (ha : τ.agg = true) (hf : τ.flatArrs = true) (h : Ads H H' σ xs (compAVs (tyComps τ y))) : Ad H H' σ (.st xs) (.v τ y) := fun ρ hh ℓ hk hm hd v hx => by
  obtain ⟨vs, e, h1⟩ := hx
  obtain ⟨F, hF, hM⟩ := ras_ty τ hf (ads_ok hk hm hd h h1)
  exact ⟨F, ⟨_, hF, by rw [e]; simp [mkV, ha]⟩, hM⟩
/-- a whole own variable, or a part of it -/
theorem r_load_st {T : TypeId} {x : Operand} {id off : Nat} {xs : List AV} {cs : List Comp} {m : Nat} (pre mid post : List Comp) (ha : ∀ w, (isAgg T).run P w = .ok true w) (hs : ∀ w, (sizeOf T).run P w = .ok m w) (hm : compsSz mid = m) (hf : flatComps mid = true)
    (hx : evO fr x = some (.ref id off)) (hg : hget H id = some (.var cs)) (hc : cs = pre ++ (mid ++ post)) (ho : compsSz pre = off) (hxs : compAVs mid = xs) :
    Reads P ⟨dst, .load T x, ty, pos, aft, g⟩ fr H (.st xs) := fun Γ n' ρ w a s => by
  obtain ⟨b, k, hρ, e⟩ := s.ev hx
  obtain ⟨ℓ, hL, _⟩ := s.heap
  obtain ⟨b', k', c, T', F, hρ', hb, hcs, _⟩ := hL.get hg
  rw [hρ] at hρ'
  obtain ⟨rfl, rfl⟩ : b = b' ∧ k = k' := by simpa using hρ'
  subst hc; subst hxs
  obtain ⟨v1, v2, F1, F2, ev, _, h1, h2⟩ := RComps.split hcs
  obtain ⟨v3, v4, F3, F4, ev2, _, h3, h4⟩ := RComps.split h2
  obtain ⟨us, hR, hU, _⟩ := comps_st hf h3
  have hl := h1.len
  rw [ho] at hl
  have hl3 := h3.len
  refine ⟨.agg v3.toArray, ⟨us, by rw [hU], hR⟩, fun w' hk => ?_⟩
  have hload : (loadVar T ⟨b, off, none⟩).run P w' = .ok (.agg v3.toArray) w' := by
    unfold loadVar
    rw [Sem.run_bind, ha w']
    simp only [Result.andThen_ok, if_true, Sem.run_bind, hs]
    have hcs : (loadCells ⟨b, off, none⟩ m).run P w' = .ok v3.toArray w' := by
      rw [← hl, show m = v3.length by rw [hl3, hm]]
      have := run_loadVar_at (P := P) (t := .arr v3.length .bool) (E := T) (w := w') (pre := v1) (mid := v3) (post := v4) (kept_get hk hb) (by rw [ev, ev2]) (by simp [Ty.sz]) (by simp [Ty.agg]) ha (by simpa [Ty.sz, hl3, hm] using hs)
      unfold loadVar at this
      rw [Sem.run_bind, ha w'] at this
      simp only [Result.andThen_ok, if_true, Sem.run_bind, hs] at this
      rw [show m = v3.length by rw [hl3, hm]] at this
      cases hh : (loadCells ⟨b, v1.length, none⟩ v3.length).run P w' with
      | ok u w2 =>
        rw [hh] at this
        simpa [mkV, Ty.agg] using this
      | halt q w2 => rw [hh] at this; simp at this
    rw [hcs]
    simp
  simp only [execOp, e, Instr.loadAt, Instr.sureAddr, Sem.run_bind, Sem.run_pure, Result.andThen_ok, hload]
/-! ### Zero values, literals -/
def zC : Ty → List Comp
  | .bool => [.cell (.bool false)]
  | .int k => [.cell (.int k 0)]
  | .str => [.cell (.str .empty)]
  | .slice _ => [.cell .nilsl]
  | .arr n t => [.arr t n (List.replicate n t.dflt)]
  | .pair a b => zC a ++ zC b
  | .unit => []
theorem zC_ok (ρ : Rho) (h : Hf) (M : Nat → Prop) : ∀ (t : Ty), RComps ρ h M (zC t) (zc t) []
  | .bool => ⟨_, _, rfl, rfl, rfl, rfl, rfl⟩
  | .int _ => ⟨_, _, rfl, rfl, rfl, rfl, rfl⟩
  | .str => ⟨_, _, rfl, rfl, rfl, rfl, rfl⟩
  | .slice _ => ⟨_, _, rfl, rfl, rfl, rfl, rfl⟩
  | .arr n t => ⟨zc (.arr n t), [], [], [], by simp, rfl, zc_ok h (.arr n t), rfl, rfl⟩
  | .pair a b => RComps.append (F := []) (G := []) (zC_ok ρ h M a) (zC_ok ρ h M b)
  | .unit => ⟨rfl, rfl⟩
theorem ra_zero_st {t : Ty} {ρ : Rho} {h : Hf} {M : Nat → Prop} {z : Value} {xs : List AV} (hf : flatComps (zC t) = true) (hxs : compAVs (zC t) = xs) (hz : z = .agg (zc t).toArray) : RA ρ h M (.st xs) z := by
  subst hxs
  obtain ⟨us, h1, h2, _⟩ := comps_st hf (zC_ok ρ h M t)
  exact ⟨us, by rw [hz, h2], h1⟩
def Places (P : Program) : List Field → List (Nat × Nat) → Prop
  | [], [] => True
  | f :: fs, (o, s) :: l => f.offset = o ∧ (∀ w, (sizeOf f.type).run P w = .ok s w) ∧ Places P fs l
  | _, _ => False
theorem places_run : ∀ {fs : List Field} {l : List (Nat × Nat)}, Places P fs l → ∀ w, (fs.mapM fun f => do pure (f.offset, ← sizeOf f.type) : Sem (List (Nat × Nat))).run P w = .ok l w
  | [], [], _, w => rfl
  | f :: fs, (o, s) :: l, h, w => by
    obtain ⟨h1, h2, h3⟩ := h
    have ih := places_run h3 w
    subst h1
    simp only [List.mapM_cons, Sem.run_bind, h2, Result.andThen_ok, Sem.run_pure, ih]
  | [], _ :: _, h, _ => h.elim
  | _ :: _, [], h, _ => h.elim
/-- the parts put in, one after the other -/
def buildC (fr : Fr) : List Comp → List (Nat × Nat) → List (Nat × Operand) → Option (List Comp)
  | cs, _, [] => some cs
  | cs, pl, (i, o) :: l => match pl[i]?, evO fr o with
    | some (off, sz), some y => bif boxable y && Nat.beq (compsSz (toComps y)) sz then (match putAt cs off (toComps y) with
      | some cs' => buildC fr cs' pl l
      | none => none) else none
    | _, _ => none
theorem fill_comps {ρ : Rho} {h : Hf} {M : Nat → Prop} {ev : Operand → Value} (hev : ∀ o y, evO fr o = some y → RA ρ h M y (ev o)) {pl : List (Nat × Nat)} : ∀ {l : List (Nat × Operand)} {cs cs' : List Comp} {A : Array Value}, RComps ρ h M cs A.toList [] → buildC fr cs pl l = some cs' →
    ∃ B : Array Value, Instr.fill (pl.toArray[·]?) A (l.map fun p => (p.1, ev p.2)) = some B ∧ RComps ρ h M cs' B.toList []
  | [], cs, cs', A, hA, hb => by
    simp only [buildC, Option.some.injEq] at hb
    subst hb
    exact ⟨A, rfl, hA⟩
  | (i, o) :: l, cs, cs', A, hA, hb => by
    simp only [buildC] at hb
    split at hb
    · rename_i off sz y hpl hy
      cases hc : boxable y && Nat.beq (compsSz (toComps y)) sz with
      | false => rw [hc] at hb; cases hb
      | true =>
        rw [hc] at hb
        simp only [cond_true] at hb
        simp only [Bool.and_eq_true] at hc
        have hsz := Nat.eq_of_beq_eq_true hc.2
        split at hb
        · rename_i c1 hp
          have hn := ra_comps y (hev o y hy) hc.1
          obtain ⟨hle, F', h1, _, h2⟩ := putAt_ok hA hn hp (fun b _ _ => ⟨rfl, by assumption⟩) (fun _ _ => rfl) List.nodup_nil
          have hF : F' = [] := by
            cases F' with
            | nil => rfl
            | cons b F => exact absurd (h2 b (by simp)) (by simp)
          subst hF
          have hl := hn.len
          have hcsz : (ev o).cells.size = sz := by rw [← hsz, ← hl]; simp
          have hfold := foldl_set off (ev o).cells.toList 0 A (by simpa using hle)
          have hfold' : (ev o).cells.zipIdx.foldl (fun (A : Array Value) (p : Value × Nat) => A.setIfInBounds (off + p.2) p.1) A = (A.toList.take off ++ (ev o).cells.toList ++ A.toList.drop (off + (ev o).cells.toList.length)).toArray := by
            rw [← Array.foldl_toList, Array.toList_zipIdx, hfold]; simp
          obtain ⟨B, h3, h4⟩ := fill_comps hev (l := l) (A := (A.toList.take off ++ (ev o).cells.toList ++ A.toList.drop (off + (ev o).cells.toList.length)).toArray) (by simpa using h1) hb
          refine ⟨B, ?_, h4⟩
          simp only [List.map_cons, Instr.fill, List.getElem?_toArray, hpl]
          have hno : ¬ ((ev o).cells.size ≠ sz ∨ off + (ev o).cells.size > A.size) := by
            rw [hcsz]
            have : (ev o).cells.toList.length = sz := by simpa using hcsz
            rw [this] at hle
            simp only [Array.length_toList] at hle
            omega
          rw [if_neg (by simpa using hno)]
          have hfold2 : Array.foldl (fun cs (x : Value × Nat) => match x with | (c, j) => cs.setIfInBounds (off + j) c) A (ev o).cells.zipIdx = (A.toList.take off ++ (ev o).cells.toList ++ A.toList.drop (off + (ev o).cells.toList.length)).toArray := hfold'
          rw [hfold2]
          simpa only [List.getElem?_toArray] using h3
        · cases hb
    · cases hb
/-- a struct literal -/
theorem r_build_st {T : TypeId} {fields : Array Field} {l : List (Nat × Operand)} {z : Value} {cs : List Comp} {xs : List AV} (t : Ty) (pl : List (Nat × Nat)) (ht : P.underlying T = some (.struct fields)) (hz : ∀ w, (zeroValue T).run P w = .ok z w) (hzs : z.cells.toList = zc t)
    (hp : Places P fields.toList pl) (hb : buildC fr (zC t) pl l = some cs) (hf : flatComps cs = true) (hxs : compAVs cs = xs) :
    Reads P ⟨dst, .build T l.toArray, ty, pos, aft, g⟩ fr H (.st xs) := fun Γ n' ρ w a s => by
  subst hxs
  obtain ⟨B, h1, h2⟩ := fill_comps (fr := fr) (ρ := ρ) (h := World.hf w) (M := ownB ρ H) (ev := a.eval) (fun o y h => s.ev h) (A := z.cells) (by rw [hzs]; exact zC_ok _ _ _ t) hb
  obtain ⟨us, h3, h4, _⟩ := comps_st hf h2
  refine ⟨.agg B, ⟨us, by rw [h4], h3⟩, fun w' _ => ?_⟩
  have hm : ∀ w, (fields.mapM fun f => do pure (f.offset, ← sizeOf f.type) : Sem (Array (Nat × Nat))).run P w = .ok pl.toArray w := fun w => by
    have e : fields = fields.toList.toArray := rfl
    rw [e, List.mapM_toArray, map_eq_pure_bind, Sem.run_bind, places_run hp w]
    rfl
  simp only [execOp, Instr.build, Sem.run_bind, hz, run_underlying ht, Result.andThen_ok, hm, List.map_toArray]
  rw [h1]
  simp
/-! ### A nil slice in a variable, as a row of the call's own -/
theorem sub_nil_cell {t : Ty} {i : Nat} (id : Nat) (pre post : List Comp) (hg : hget H i = some (.var (pre ++ .cell .nilsl :: post))) (hid : freshB id fr H = true) (hK : Nat.ble n.K id = true) :
    Sub n fr H fr ((id, .row t ([] : List t.D)) :: hset H i (.var (pre ++ .cell (.os id) :: post))) := fun Γ ρ w a s => by
  have hr := s.replace0 [] (id := id) (B := .row t ([] : List t.D)) (p := none) (w' := w) hid hK rfl rfl rfl rfl (Nat.le_refl _) (fun b hb _ => rfl) (fun b k h => by cases h) (fun ℓ hk hM => ⟨[], ⟨Nat.zero_le _, .inl ⟨upd_same _ _ _, rfl, rfl⟩⟩, by simp, by simp⟩)
  rw [hdel_nil] at hr
  have hne : i ≠ id := fun e => freshB_H hid (e ▸ hids_head (hget_mem hg))
  have hid' : (upd ρ id none) id = none := upd_same _ _ _
  generalize hρ' : upd ρ id none = ρ' at hr hid'
  obtain ⟨ℓ, hk, hb⟩ := hr.heap
  have hkeys : ((id, Blk.row t ([] : List t.D)) :: hset H i (.var (pre ++ .cell (.os id) :: post))).map (·.1) = ((id, Blk.row t ([] : List t.D)) :: H).map (·.1) := by
    simp only [List.map_cons, hset_keys]
  have hMeq : ownB ρ' ((id, Blk.row t ([] : List t.D)) :: hset H i (.var (pre ++ .cell (.os id) :: post))) = ownB ρ' ((id, Blk.row t ([] : List t.D)) :: H) := funext fun b' => propext (own_keys hkeys)
  have hHn : (H.map (·.1)).Nodup := by have := hk.ids; simp only [List.map_cons] at this; exact (List.nodup_cons.1 this).2
  have hmem : ∀ {e}, e ∈ ((id, Blk.row t ([] : List t.D)) :: hset H i (.var (pre ++ .cell (.os id) :: post))) → (e.1 = i ∧ e.2 = .var (pre ++ .cell (.os id) :: post)) ∨ e ∈ ((id, Blk.row t ([] : List t.D)) :: H) := by
    intro e he
    rcases List.mem_cons.1 he with rfl | he
    · exact .inr (by simp)
    · rcases mem_hset hHn he with h | ⟨h1, _⟩
      · exact .inl h
      · exact .inr (List.mem_cons_of_mem _ h1)
  have hold : (i, Blk.var (pre ++ .cell .nilsl :: post)) ∈ ((id, Blk.row t ([] : List t.D)) :: H) := List.mem_cons_of_mem _ (hget_mem hg)
  refine ⟨ρ', hr.defers, hr.size, hr.ext, hr.keep, fun b hb' => hr.own b ((nam_keys hkeys).1 hb'), ⟨ℓ, ⟨?_, ?_, ?_, ?_⟩, ?_⟩, fun t' x hx => ?_⟩
  · intro e he
    rw [hMeq]
    rcases hmem he with ⟨h1, h2⟩ | h
    · obtain ⟨j, B⟩ := e
      simp only at h1 h2; subst h1; subst h2
      obtain ⟨b, k, c, T', F, g1, g2, g3, g4⟩ := hk.blk _ hold
      refine ⟨b, k, c, T', F, g1, g2, ?_, g4⟩
      obtain ⟨v1, v2, F1, F2, e1, e2, r1, r2⟩ := RComps.split g3
      obtain ⟨v, cs', e3, _, r3, r4⟩ := r2
      rw [e1, e2]
      refine RComps.append r1 ⟨v, cs', e3, rfl, .inl ⟨hid', ?_⟩, r4⟩
      simpa only [RA] using r3
    · exact hk.blk e h
  · intro e he
    rcases hmem he with ⟨h1, _⟩ | h
    · rw [h1]; exact hk.nd _ hold
    · exact hk.nd e h
  · intro e he e' he' hne' x hx
    rcases hmem he with ⟨h1, _⟩ | h1 <;> rcases hmem he' with ⟨h3, _⟩ | h3
    · exact absurd (h1.trans h3.symm) hne'
    · rw [h1] at hx; exact hk.dj _ hold e' h3 (fun h => hne' (h1.trans h)) x hx
    · rw [h3]; exact hk.dj e h1 _ hold (fun h => hne' (h.trans h3.symm)) x hx
    · exact hk.dj e h1 e' h3 hne' x hx
  · rw [hkeys]; exact hk.ids
  · intro e he x hx
    rcases hmem he with ⟨h1, _⟩ | h
    · rw [h1] at hx; exact hb _ hold x hx
    · exact hb e h x hx
  · obtain ⟨h1, h2⟩ := hr.fr t' x hx
    exact ⟨h1, by rw [hMeq]; exact h2⟩
end
end Go.GA
end
section
namespace Go.GA
open Go Go.RowKit
section
variable {P : Program} {n : Sz} {fr : Fr} {H : Hp} {dst : Option Nat} {ty : TypeId} {pos : String} {aft : Array Edge} {g : Option (Nat × Bool)}
end
end Go.GA
end
section
namespace Go.GA
open Go Go.RowKit
/-- two strings are the same -/
def eqS (a b : ByteArray) : Bool := a.toList == b.toList
section
variable {P : Program} {n : Sz} {fr : Fr} {H : Hp} {dst : Option Nat} {ty : TypeId} {pos : String} {aft : Array Edge} {g : Option (Nat × Bool)}
theorem r_eql_str {xT yT : TypeId} {x y : Operand} {a b : ByteArray} (hx : evO fr x = some (.str a)) (hy : evO fr y = some (.str b)) :
    Reads P ⟨dst, .binOp .eql xT x y yT, ty, pos, aft, g⟩ fr H (.bool (eqS a b)) :=
  reads_of fun ρ h M ev hev => ⟨_, rfl, fun w' => by
    have h1 := hev x _ hx; have h2 := hev y _ hy
    simp only [RA] at h1 h2
    simp [execOp, eqGuard, Go.binOp, Op.stringOp, eqS, h1, h2, Sem.run_bind]⟩
theorem r_neq_str {xT yT : TypeId} {x y : Operand} {a b : ByteArray} (hx : evO fr x = some (.str a)) (hy : evO fr y = some (.str b)) :
    Reads P ⟨dst, .binOp .neq xT x y yT, ty, pos, aft, g⟩ fr H (.bool (!eqS a b)) :=
  reads_of fun ρ h M ev hev => ⟨_, rfl, fun w' => by
    have h1 := hev x _ hx; have h2 := hev y _ hy
    simp only [RA] at h1 h2
    simp [execOp, eqGuard, Go.binOp, Op.stringOp, eqS, h1, h2, Sem.run_bind]⟩
theorem r_add_str {xT yT : TypeId} {x y : Operand} {a b : ByteArray} (hx : evO fr x = some (.str a)) (hy : evO fr y = some (.str b)) (hl : (a.size : Int) + (b.size : Int) ≤ 9223372036854775807) :
    Reads P ⟨dst, .binOp .add xT x y yT, ty, pos, aft, g⟩ fr H (.str (a ++ b)) :=
  reads_of fun ρ h M ev hev => ⟨_, rfl, fun w' => by
    have h1 := hev x _ hx; have h2 := hev y _ hy
    simp only [RA] at h1 h2
    have hm : IntKind.i64.max = 9223372036854775807 := by decide
    have hno : ¬ (((a.size + b.size : Nat) : Int) > IntKind.i64.max) := by rw [hm]; omega
    have hno' : ¬ (IntKind.i64.max < (a.size : Int) + (b.size : Int)) := by rw [hm]; omega
    simp [execOp, eqGuard, Go.binOp, Op.stringOp, h1, h2, Sem.run_bind, hno']
    omega⟩
/-! ### Bytes of a string -/
def bytesI (s : ByteArray) : List Int := s.data.toList.map fun b => (b.toNat : Int)
theorem bytesI_len (s : ByteArray) : (bytesI s).length = s.size := by
  rw [bytesI, List.length_map, Array.length_toList]; rfl
theorem SIM.grow {Γ : Ctx} {ρ : Rho} {w w' : World} {a : Act} (s : SIM Γ n ρ w a fr H) (hk : Kept w w') : SIM Γ n ρ w' a fr H := by
  obtain ⟨ℓ, hh, hb⟩ := s.heap
  have hsame : ∀ b, World.hf w b ≠ none → World.hf w' b = World.hf w b := fun b h => hk.block b (hf_lt h) (fun h => h)
  have hM : ∀ b, ¬ ownB ρ H b → World.hf w b ≠ none → World.hf w' b = World.hf w b ∧ ¬ ownB ρ H b := fun b h1 h2 => ⟨hsame b h2, h1⟩
  refine ⟨s.defers, s.size, ⟨hk.os.trans s.ext.os, hk.tape.trans s.ext.tape, hk.output.trans s.ext.output, Nat.le_trans s.ext.size hk.size, fun i hi hm => ?_⟩, s.keep, s.own, ⟨ℓ, ⟨fun e he => ?_, hh.nd, hh.dj, hh.ids⟩, hb⟩, fun t x hx => ?_⟩
  · rw [hk.block i (Nat.lt_of_lt_of_le hi s.ext.size) (fun h => h)]
    exact s.ext.block i hi hm
  · exact (hh.blk e he).same (fun _ _ => rfl) hM (fun b hb' => hsame b (hh.there he b hb'))
  · obtain ⟨h1, h2⟩ := s.fr t x hx
    exact ⟨h1, h2.same x (fun _ _ => rfl) hM⟩
theorem relL_bytes {h : Hf} : ∀ (l : List UInt8), RelL (Rc h (.int .u8)) (l.map fun b => (b.toNat : Int)) (l.map fun b => Value.int .u8 b.toNat) []
  | [] => ⟨rfl, rfl⟩
  | b :: l => ⟨[_], _, [], [], rfl, rfl, ⟨rfl, rfl⟩, relL_bytes l⟩
theorem e_bytes {S T E : TypeId} {x : Operand} {b : ByteArray} {u : TypeDesc} (hs : P.underlying S = some u) (hd : P.underlying T = some (.slice E)) (he : P.underlying E = some (.int .u8)) (hx : evO fr x = some (.str b)) (hl : (b.size : Int) ≤ 9223372036854775807) :
    Eff P n ⟨dst, .convert S T x, ty, pos, aft, g⟩ fr H (.v (.slice (.int .u8)) (bytesI b)) fr H := fun Γ ρ w a s => by
  have hv := s.ev hx
  simp only [RA] at hv
  have hrun := Lib.run_convert_string_bytes w S T E b hs hd he
  have hkept : Kept w (Lib.bytesWorld w E b) := ⟨rfl, rfl, rfl, by rw [Lib.bytesWorld_size]; omega, fun k hk _ => Lib.bytesWorld_at_old w E b k hk⟩
  have hlt : ∀ k, ownB ρ H k → k < w.heap.size := by
    rintro k (⟨e, he', j, hj⟩ | hn)
    · obtain ⟨ℓ, hh, _⟩ := s.heap
      exact hf_lt (hh.there he' k (own_head hh he' hj))
    · rw [s.defers.2.1] at hn
      exact Nat.lt_of_lt_of_le (s.defers.2.2 k hn).2 s.ext.size
  have hcap := grownCap_ge w b.size 0 E
  refine ⟨.slice (some ⟨w.heap.size, 0, none⟩) b.size (grownCap w b.size 0 E), Lib.bytesWorld w E b, ρ, ?_, ⟨s.grow hkept, rfl, rfl, rfl, hkept.size, fun k hk _ => Lib.bytesWorld_at_old w E b k hk, fun e' he' k j hk => .inl ⟨e', he', rfl, hk⟩⟩, ?_⟩
  · simp only [execOp, hv, Sem.run_bind, hrun, Result.andThen_ok, Sem.run_pure]
  · refine ⟨[w.heap.size], ⟨[_], ⟨?_, .inr ⟨w.heap.size, 0, grownCap w b.size 0 E - b.size, [], ?_, rfl, Lib.bytesCells w E b, E, _, [], b.data.toList.map (fun b => Value.int .u8 b.toNat), List.replicate (grownCap w b.size 0 E - b.size) (.int .u8 0), Lib.bytesWorld_at_new w E b, by simp [Lib.bytesCells], rfl, relL_bytes _⟩⟩, rfl⟩, fun k hk h => ?_⟩
    · have := bytesI_len b
      show (bytesI b).length ≤ lim
      rw [this]; simp only [lim]; omega
    · have := bytesI_len b
      show _ = [Value.slice (some ⟨w.heap.size, 0, none⟩) (bytesI b).length ((bytesI b).length + _)]
      rw [this, Nat.add_sub_cancel' hcap]
    · simp only [List.mem_singleton] at hk
      have := hlt k h
      omega
/-- internal/bytealg.IndexByteString -/
theorem r_indexByte {fo x y : Operand} {tys : Array TypeId} {f : FuncId} {fn : Func} {b : ByteArray} {c : Int} (hf : P.funcs[f]? = some fn) (hname : (fn.name == "runtime.NumGoroutine") = false) (hb : fn.body.isNone = true) (hn : Extern.findNext fn = none) (he : Extern.find fn = some Extern.BytealgIndexByte.indexByte)
    (hfo : evO fr fo = some (.fn f [])) (hx : evO fr x = some (.str b)) (hy : evO fr y = some (.int .u8 c)) :
    Reads P ⟨dst, .call ⟨.value fo, #[x, y], tys⟩, ty, pos, aft, g⟩ fr H (.int .i64 (Lib.indexByte b.data.toList c.toNat.toUInt8)) := fun Γ n ρ w a s => by
  obtain ⟨vs, h1, h2⟩ := s.ev hfo
  simp only [RAs] at h2
  subst h2
  have hx' := s.ev hx
  have hy' := s.ev hy
  simp only [RA] at hx' hy'
  refine ⟨_, rfl, fun w' _ => ?_⟩
  have := run_callFunc_extern hf hname hb hn he #[.string b, .int .u8 c] w'
  rw [Lib.run_indexByteString] at this
  simp only [Result.andThen_ok] at this
  simp [execOp, resolve, h1, Deferred.ofValue, invoke, hx', hy', this]
end
end Go.GA
end
section
namespace Go.GA
open Go Go.RowKit
def nkB (σ : Nat → Nat) : Nat → Bool
  | 0 => true
  | k + 1 => Nat.beq (σ k) k && nkB σ k
theorem nkL {n : Sz} {σ : Nat → Nat} (h : nkB σ n.K = true) : ∀ i, i < n.K → σ i = i := by
  have key : ∀ K, nkB σ K = true → ∀ i, i < K → σ i = i := by
    intro K
    induction K with
    | zero => intro _ i hi; omega
    | succ K ih =>
      intro h i hi
      simp only [nkB, Bool.and_eq_true] at h
      by_cases e : i = K
      · subst e; exact Nat.eq_of_beq_eq_true h.1
      · exact ih h.2 i (by omega)
  exact key n.K h
section
variable {H : Hp}
end
section
variable {P : Program} {n : Sz} {fr : Fr} {H : Hp} {dst : Option Nat} {ty : TypeId} {pos : String} {aft : Array Edge} {g : Option (Nat × Bool)}
end
end Go.GA
end
section
namespace Go.GA
open Go Go.RowKit
section
variable {P : Program} {n : Sz} {fr : Fr} {H : Hp} {dst : Option Nat} {ty : TypeId} {pos : String} {aft : Array Edge} {g : Option (Nat × Bool)}
end
end Go.GA
end
section
namespace Go.GA
open Go Go.RowKit

section
variable {P : Program} {ops : Array Oper} {Q : Exit → Act → World → Prop}
end

section
variable {P : Program} {Γ : Ctx} {n : Sz} {Q : Exit → Act → World → Prop} {fr fr' : Fr} {H H' : Hp} {all : Array Oper} {ty : TypeId} {pos : String} {aft : Array Edge} {op : Op}
def AP (P : Program) (Γ : Ctx) (n : Sz) (all : Array Oper) (Q : Exit → Act → World → Prop) (g : Nat) (listed : Array Bool) (fr : Fr) (H : Hp) : Prop :=
  ∀ ρ w a, SIM Γ n ρ w a fr H → wpAny P .any all Q g listed a w
theorem aw_drawP {id : Nat} {l : List Oper} (N : Nat) (hN : l.toArray.size = N) (hm : P.follows .mixedOrders = true) (h : AP P Γ n l.toArray Q N (Array.replicate N false) fr H) :
    AW P Γ n (.region id l.toArray true) Q fr H := fun ρ w a s => by
  subst hN
  exact wp_region_any hm (h ρ _ a s.drew)
def readyB (all : Array Oper) (listed : Array Bool) (i : Nat) : Bool := (Region.ready .any all listed).contains i && Region.free .any all listed i
end
end Go.GA
end
section
namespace Go.GA
open Go Go.RowKit
section
variable {P : Program} {Γ : Ctx} {n : Sz} {Q : Exit → Act → World → Prop} {fr fr' : Fr} {H H' Hc : Hp} {all : Array Oper} {ops : List Oper} {ty : TypeId} {pos : String} {aft : Array Edge}
theorem ao_callV [LaidS P Γ] {g : Option (Nat × Bool)} {d : Nat} {f : FuncId} {fn : Func} {fo : Operand} {as : List Operand} {tys : Array TypeId} {caps xs ys : List AV} {R : AV → Hp → Prop} (l : List Nat) (base : Nat) (hg : gOK all fr g) (hc : ACallsV P f ys Hc R)
    (hf : P.funcs[f]? = some fn) (hbody : fn.body.isNone = false) (hname : (fn.name == "runtime.NumGoroutine") = false)
    (hfo : evO fr fo = some (.fn f caps)) (hxs : evOs fr as = some xs) (hA : xs ++ caps = AV.renL (sg l base) ys) (hR : SubHR H (sg l base) Hc) (hS : SubH H Hc (sg l base) Hc) (hks : hkeys Hc = List.range l.length) (hl : allLt base l = true) (hln : injB (fun i => i) l = true)
    (hfr : allLt base (Fr.ids fr) = true) (hH : allLt base (Hp.ids H) = true) (hK : Nat.ble n.K base = true) (hd : Nat.blt d n.n = true)
    (h : ∀ r H', R r H' → AO P Γ n all Q ops ((d, r.ren (sg l base)) :: fr) (hdel l H ++ hren (sg l base) H')) :
    AO P Γ n all Q (⟨some d, .call ⟨.value fo, as.toArray, tys⟩, ty, pos, aft, g⟩ :: ops) fr H := fun ρ w a s => by
  obtain ⟨cv, hcv, hcaps⟩ := s.ev hfo
  refine wpList_go (s.wanted hg) fun K hK' => ?_
  unfold Oper.wp
  rw [run_callv rfl hcv hf hbody hname, Oper.upon_enter]
  refine (call_simV hc l base s (evOs_append (evOs_ok (fun o y h => s.ev h) hxs) hcaps) hA hR hS hks hl hln hfr hH hK).mono ?_
  rintro e w' ⟨v, r, H', ρ', rfl, hR, s', hv, _⟩
  exact hK' _ _ (h r H' hR ρ' w' _ (s'.put hd hv))
end
section
variable {P : Program} {Γ : Ctx} {n : Sz} {Q : Exit → Act → World → Prop} {fr fr' : Fr} {H H' : Hp} {all : Array Oper} {ty : TypeId} {pos : String} {aft : Array Edge} {op : Op}
variable {m f base : Nat} {T : Act → World → Prop} {listed : Array Bool}
/-- the same in a line of operations -/
theorem ao_frz {ops : List Oper} (hfr : SubFr H H' (fun i => i) fr fr') (hH : SubH H H' (fun i => i) H') (hi : injB (fun i => i) (hkeys H') = true) (h : AO P Γ n all Q ops fr' H') : AO P Γ n all Q ops fr H := AO.sub (sub_mk (fun i => i) hfr hH hi (fun _ _ => rfl)) h
end
end Go.GA
end
section
namespace Go.GA
open Go Go.RowKit
section
variable {P : Program} {n : Sz} {fr : Fr} {H : Hp} {dst : Option Nat} {ty : TypeId} {pos : String} {aft : Array Edge} {g : Option (Nat × Bool)}
end
end Go.GA
end
section
namespace Go.GA
open Go Go.RowKit
/-- strconv.Itoa -/
def p_strconv_Itoa (x0 : Int) : Option ByteArray := if -9223372036854775808 ≤ x0 ∧ x0 ≤ 9223372036854775807 then some ⟨(Lib.itoa x0).toArray⟩ else none
theorem itoa_scalar {P : Program} {f : FuncId} {g : Nat} (hg : P.globalNamed "internal/strconv.uint64pow10" = some g)
    (hI : ∀ (n : Int), -9223372036854775808 ≤ n → n ≤ 9223372036854775807 → ∀ w : World, Lib.TabIs P w "internal/strconv.uint64pow10" .u64 Lib.pow10Tab →
      Calls P f #[.int .i64 n] w fun e w' => e = .returned (.string ⟨(Lib.itoa n).toArray⟩) ∧ ∃ k os, w' = Sort.grow (w.drewN k) os)
    {x0 : Int} {r : ByteArray} (h : Is (p_strconv_Itoa x0) (some r)) : Scalar P f [.int .i64 x0] (.str r) := by
  unfold p_strconv_Itoa at h
  obtain ⟨hn, h⟩ := is_guard h
  obtain rfl := is_some h
  intro ρ w vs ℓ h1 h2 hN hLd
  obtain ⟨v, vs', rfl, hv, hr⟩ := h1
  simp only [RAs] at hr
  subst hr
  have hv' : v = .int .i64 x0 := hv
  subst hv'
  refine (hI x0 hn.1 hn.2 w (hLd g hg).1).mono ?_
  rintro e w' ⟨rfl, k, os, rfl⟩
  have hd : ∀ k, (w.drewN k).heap = w.heap := fun k => by simp
  refine ⟨_, _, [], ρ, fun _ => [], rfl, ⟨⟨⟨rfl, rfl⟩, rfl, rfl⟩, by simp, ⟨rfl, rfl, rfl, by simp [Sort.grow], fun i hi _ => ?_⟩, ⟨by simp, by simp, by simp, by simp⟩, ?_, ?_, rfl, rfl⟩⟩
  · simp only [Sort.grow, hd]
    rw [Array.getElem?_append_left hi]
  · rintro b ⟨e, he, _⟩; cases he
  · rintro b ⟨e, he, _⟩; cases he
end Go.GA
end
section
namespace Go.GA
open Go Go.RowKit
/-- an operation that gives x in whatever world -/
def ReadsP (P : Program) (o : Oper) (fr : Fr) (x : AV) : Prop :=
  ∀ (ρ : Rho) (h : Hf) (M : Nat → Prop) (ev : Operand → Value), (∀ o y, evO fr o = some y → RA ρ h M y (ev o)) → ∃ v, RA ρ h M x v ∧ ∀ w', (execOp ev o).run P w' = .ok (.value v) w'
section
variable {P : Program} {Γ : Ctx} {n : Sz} {Q : Exit → Act → World → Prop} {fr fr' : Fr} {H H' : Hp} {dst : Option Nat} {ty : TypeId} {pos : String} {aft : Array Edge} {g : Option (Nat × Bool)} {all : Array Oper}
variable {xT yT : TypeId} {x y : Operand} {a b : Int} {k : IntKind}
theorem rp_move {x : Operand} {y : AV} (hx : evO fr x = some y) : ReadsP P ⟨dst, .move x, ty, pos, aft, g⟩ fr y :=
  fun ρ h M ev hev => ⟨ev x, hev x y hx, fun _ => rfl⟩
theorem rp_assign {x : Operand} {y : AV} (hx : evO fr x = some y) : ReadsP P ⟨dst, .assign x, ty, pos, aft, g⟩ fr y :=
  fun ρ h M ev hev => ⟨ev x, hev x y hx, fun _ => rfl⟩
theorem rp_andB {c x : Operand} {a b : Bool} (hc : evO fr c = some (.bool a)) (hx : evO fr x = some (.gd a (.bool b))) :
    ReadsP P ⟨dst, .pick c x (.const (.bool false)), ty, pos, aft, g⟩ fr (.bool (a && b)) :=
  fun ρ h M ev hev => ⟨_, rfl, fun w' => by
    have h1 := hev c _ hc; have h2 := hev x _ hx; have h3 := hev (.const (.bool false)) (.bool false) rfl
    simp only [RA] at h1 h2 h3
    cases a <;> simp_all [execOp, go_sem, asBool]⟩
theorem rp_extract {x : Operand} {xs : List AV} {i : Nat} {y : AV} (hx : evO fr x = some (.tup xs)) (hn : nthAV xs i = some y) :
    ReadsP P ⟨dst, .extract x i, ty, pos, aft, g⟩ fr y := fun ρ h M ev hev => by
  obtain ⟨vs, e, h1⟩ := hev _ _ hx
  obtain ⟨v, hv, h2⟩ := ras_nth h1 hn
  refine ⟨v, h2, fun w' => ?_⟩
  simp [execOp, Instr.extract, e, hv]
theorem rp_eql_str {xT yT : TypeId} {x y : Operand} {a b : ByteArray} (hx : evO fr x = some (.str a)) (hy : evO fr y = some (.str b)) :
    ReadsP P ⟨dst, .binOp .eql xT x y yT, ty, pos, aft, g⟩ fr (.bool (eqS a b)) :=
  fun ρ h M ev hev => ⟨_, rfl, fun w' => by
    have h1 := hev x _ hx; have h2 := hev y _ hy
    simp only [RA] at h1 h2
    simp [execOp, eqGuard, Go.binOp, Op.stringOp, eqS, h1, h2, Sem.run_bind]⟩
theorem rp_add_str {xT yT : TypeId} {x y : Operand} {a b : ByteArray} (hx : evO fr x = some (.str a)) (hy : evO fr y = some (.str b)) (hl : (a.size : Int) + (b.size : Int) ≤ 9223372036854775807) :
    ReadsP P ⟨dst, .binOp .add xT x y yT, ty, pos, aft, g⟩ fr (.str (a ++ b)) :=
  fun ρ h M ev hev => ⟨_, rfl, fun w' => by
    have h1 := hev x _ hx; have h2 := hev y _ hy
    simp only [RA] at h1 h2
    have hm : IntKind.i64.max = 9223372036854775807 := by decide
    have hno : ¬ (((a.size + b.size : Nat) : Int) > IntKind.i64.max) := by rw [hm]; omega
    have hno' : ¬ (IntKind.i64.max < (a.size : Int) + (b.size : Int)) := by rw [hm]; omega
    simp [execOp, eqGuard, Go.binOp, Op.stringOp, h1, h2, Sem.run_bind, hno']
    omega⟩
end
end Go.GA
end
section
namespace Go.GA
open Go Go.RowKit
section
variable {P : Program} {Γ : Ctx} {n : Sz} {Q : Exit → Act → World → Prop} {fr fr' : Fr} {H H' : Hp} {all : Array Oper} {ty : TypeId} {pos : String} {aft : Array Edge} {op : Op}
theorem wp_then {o : Oper} {K : Act → World → Prop} {a : Act} {w : World} (h : o.wp P a w K (Exit.then K Q)) : o.wp P a w K Q := by
  unfold Oper.wp at *
  generalize (execOp a.eval o).run P w = r at *
  cases r with
  | ok nx w' =>
    cases nx <;> simp only [Oper.upon] at h ⊢ <;> first
      | exact h
      | exact Calls.mono h (fun e w'' he => by cases e <;> first | exact he | (obtain ⟨a1, w1, hq⟩ := he; exact ⟨a1, w1, hq⟩))
  | halt x w' => cases x <;> simp only [Oper.upon] at h ⊢ <;> exact h
theorem wpOp_of_list {i : Nat} {o : Oper} {K : Act → World → Prop} {a : Act} {w : World} (hi : all[i]? = some o) (h : wpList P all (Exit.then K Q) [o] a w) : wpOp P all Q i K a w := by
  unfold wpOp
  simp only [hi]
  unfold wpList at h
  split
  · rename_i hw
    rw [if_pos hw] at h
    rcases h with h | ⟨h1, a1, w1, hq⟩
    · refine .inl ?_
      have : o.wp P a w (wpList P all (Exit.then K Q) []) (Exit.then K Q) := h
      have e : wpList P all (Exit.then K Q) [] = K := rfl
      rw [e] at this
      exact wp_then this
    · exact .inr ⟨h1, a1, w1, hq⟩
  · rename_i hw
    rw [if_neg hw] at h
    exact h
def APO (P : Program) (Γ : Ctx) (n : Sz) (all : Array Oper) (Q : Exit → Act → World → Prop) (g : Nat) (listed : Array Bool) (fr : Fr) (H : Hp) (i : Nat) : Prop :=
  ∀ ρ w a, SIM Γ n ρ w a fr H → wpOp P all Q i (wpAny P .any all Q g (listed.setIfInBounds i true)) a w
def APL (P : Program) (Γ : Ctx) (n : Sz) (all : Array Oper) (Q : Exit → Act → World → Prop) (g : Nat) (listed : Array Bool) (fr : Fr) (H : Hp) : List Nat → Prop
  | [] => True
  | i :: l => APO P Γ n all Q g listed fr H i ∧ APL P Γ n all Q g listed fr H l
variable {g : Nat} {listed : Array Bool}
theorem apl_mem : ∀ {l : List Nat} {i : Nat}, APL P Γ n all Q g listed fr H l → i ∈ l → APO P Γ n all Q g listed fr H i
  | j :: l, i, h, hi => by
    rcases List.mem_cons.1 hi with rfl | hi
    · exact h.1
    · exact apl_mem h.2 hi
/-- the operations that may come next -/
def nextEqB (all : Array Oper) (listed : Array Bool) (l : List Nat) : Bool := (Region.ready .any all listed == l) && !l.isEmpty
theorem ap_all (l : List Nat) (hl : nextEqB all listed l = true) (h : APL P Γ n all Q g listed fr H l) : AP P Γ n all Q (g + 1) listed fr H := fun ρ w a s => by
  simp only [nextEqB, Bool.and_eq_true, beq_iff_eq] at hl
  refine ⟨fun h0 => ?_, fun i hi => apl_mem h (hl.1 ▸ hi) ρ w a s⟩
  rw [hl.1] at h0
  subst h0
  simp at hl
theorem ap_end (hl : (Region.ready .any all listed).isEmpty = true) (h : AQ Γ n (Q .normal) fr H) : AP P Γ n all Q g listed fr H := fun ρ w a s => by
  have h0 : Region.ready .any all listed = [] := by simpa using hl
  cases g with
  | zero => exact ⟨h0, h ρ w a s⟩
  | succ g => exact ⟨fun _ => h ρ w a s, fun i hi => by rw [h0] at hi; cases hi⟩
/-- one operation, as in a line -/
theorem apo_ao {i : Nat} {o : Oper} (hi : all[i]? = some o) (h : AO P Γ n all (Exit.then (wpAny P .any all Q g (listed.setIfInBounds i true)) Q) [o] fr H) : APO P Γ n all Q g listed fr H i := fun ρ w a s => wpOp_of_list hi (h ρ w a s)
theorem ap_in {listed : Array Bool} (h : AP P Γ n all Q g listed fr H) : AQ Γ n (Exit.then (wpAny P .any all Q g listed) Q .normal) fr H := h
/-- what hangs on no memory is done first -/
theorem ap_pure (i : Nat) {d : Nat} {x : AV} {gd : Option (Nat × Bool)} (hsel : Region.noSelect all = true) (hQ : ∀ c a w, Q (.panic c) a w → False) (hi : all[i]? = some ⟨some d, op, ty, pos, aft, gd⟩) (hn : readyB all listed i = true) (hg : gOK all fr gd)
    (hr : ReadsP P ⟨some d, op, ty, pos, aft, gd⟩ fr x) (hd : Nat.blt d n.n = true) (h : AP P Γ n all Q g (listed.setIfInBounds i true) ((d, x) :: fr) H) : AP P Γ n all Q (g + 1) listed fr H := fun ρ w a s => by
  simp only [readyB, Bool.and_eq_true] at hn
  obtain ⟨v, hv, hrun⟩ := hr ρ (World.hf w) (ownB ρ H) a.eval (fun o y h => s.ev h)
  refine wpAny_first (v := v) hi (fun j o cs b ho => Region.noSelect_spec hsel j o cs b ho) (fun c a w hq => (hQ _ _ _ hq).elim) g listed a w (Region.free_spec hi hn.2) (by simpa using hn.1) (.inl ⟨s.wanted (o := ⟨some d, op, ty, pos, aft, gd⟩) hg, hrun⟩) ?_
  exact h ρ w (a.put (some d) v) (s.put hd hv)
theorem ap_pureG (i : Nat) {d j s : Nat} {want gb : Bool} {x : AV} (hsel : Region.noSelect all = true) (hQ : ∀ c a w, Q (.panic c) a w → False) (hi : all[i]? = some ⟨some d, op, ty, pos, aft, some (j, want)⟩) (hn : readyB all listed i = true)
    (hj : (all[j]?).bind (·.dst) = some s) (hg : GV fr s want gb) (hr : gb = true → ReadsP P ⟨some d, op, ty, pos, aft, some (j, want)⟩ fr x) (hd : Nat.blt d n.n = true)
    (h : AP P Γ n all Q g (listed.setIfInBounds i true) ((d, .gd gb x) :: fr) H) : AP P Γ n all Q (g + 1) listed fr H := fun ρ w a sm => by
  simp only [readyB, Bool.and_eq_true] at hn
  have hw := sm.wantedG (o := ⟨some d, op, ty, pos, aft, some (j, want)⟩) rfl hj hg
  have key : ∃ v, RA ρ (World.hf w) (ownB ρ H) (.gd gb x) v ∧ Yields P all ⟨some d, op, ty, pos, aft, some (j, want)⟩ v a := by
    cases hgb : gb with
    | true =>
      obtain ⟨v, hv, hrun⟩ := hr hgb ρ (World.hf w) (ownB ρ H) a.eval (fun o y h => sm.ev h)
      exact ⟨v, by simpa [RA] using hv, .inl ⟨by rw [hw, hgb], hrun⟩⟩
    | false => exact ⟨undef, by simp [RA], .inr ⟨by rw [hw, hgb], rfl⟩⟩
  obtain ⟨v, hv, hy⟩ := key
  refine wpAny_first (v := v) hi (fun j o cs b ho => Region.noSelect_spec hsel j o cs b ho) (fun c a w hq => (hQ _ _ _ hq).elim) g listed a w (Region.free_spec hi hn.2) (by simpa using hn.1) hy ?_
  exact h ρ w (a.put (some d) v) (sm.put hd hv)
/-- the orders all lead to one state -/
theorem ap_to (fr' : Fr) (H' : Hp) (key : AQ Γ n (Q .normal) fr' H') (h : AQ Γ n (Q .normal) fr' H' → AP P Γ n all Q g listed fr H) : AP P Γ n all Q g listed fr H := h key
theorem rp_strip {o : Oper} {x y : AV} (t : Nat) {g : Bool} (ht : get fr t = some (.gd g y)) (hg : g = true) (h : ReadsP P o ((t, y) :: fr) x) : ReadsP P o fr x := fun ρ h' M ev hev => h ρ h' M ev (fun o z hz => by
  cases o with
  | tmp s =>
    by_cases hs : t = s
    · subst hs
      have e : evO ((t, y) :: fr) (.tmp t) = some y := by simp [evO, get]
      rw [e] at hz
      obtain rfl : y = z := Option.some.inj hz
      have := hev (.tmp t) (.gd g y) ht
      subst hg
      simpa [RA] using this
    · have e : evO ((t, y) :: fr) (.tmp s) = evO fr (.tmp s) := by
        show get _ _ = get _ _
        have hb : Nat.beq t s = false := by
          cases h : Nat.beq t s with
          | false => rfl
          | true => exact absurd (Nat.eq_of_beq_eq_true h) hs
        simp [get, hb]
      rw [e] at hz
      exact hev _ _ hz
  | _ => exact hev _ _ hz)
end
end Go.GA
namespace Go.GA
open Go Go.RowKit
section
variable {P : Program} {Γ : Ctx} {n : Sz} {Q : Exit → Act → World → Prop} {fr fr1 : Fr} {H H1 : Hp} {all : Array Oper} {g0 : Nat} {listed0 : Array Bool}
/-- a state that several orders come to -/
theorem ap_let {g : Nat} {listed : Array Bool} (fr' : Fr) (H' : Hp) (h : AP P Γ n all Q g listed fr' H') (k : AP P Γ n all Q g listed fr' H' → AP P Γ n all Q g0 listed0 fr H) : AP P Γ n all Q g0 listed0 fr H := k h
theorem ap_go {g : Nat} {listed listed' : Array Bool} {fr' : Fr} {H' : Hp} (he : listed = listed') (hs : Sub n fr H fr' H') (h : AP P Γ n all Q g listed' fr' H') : AP P Γ n all Q g listed fr H := fun ρ w a s => by
  subst he
  obtain ⟨ρ', s'⟩ := hs Γ ρ w a s
  exact h ρ' w a s'
end
end Go.GA
end
section
namespace Go.GA
open Go Go.RowKit
section
variable {P : Program} {n : Sz} {fr : Fr} {H : Hp} {dst : Option Nat} {ty : TypeId} {pos : String} {aft : Array Edge} {g : Option (Nat × Bool)}
end
end Go.GA
end
section
namespace Go.GA
open Go Go.RowKit

/-- 'ao' with the frame 'fro' waits; Γi is the context of what runs meanwhile; the blocks X may have been turned -/
structure Susp (Γo : Ctx) (no : Sz) (fro : Fr) (ao : Act) (X : Nat → Prop) (Γi : Ctx) (K B : Nat) : Prop where
  ex : ∃ ρ w H, SIM Γo no ρ w ao fro H ∧ w.heap.size = B ∧
    (∀ i, i < K → Γi.ρ0 i = ρ i) ∧ (∀ b, ρ.N b → Γi.ρ0.N b) ∧ (∀ b, Γi.ρ0.N b → b < B → ρ.N b) ∧ (∀ b, Γi.M0 b → namB ρ H b ∨ B ≤ b) ∧
    (∀ k, k < B → ¬ X k → ¬ namB ρ H k → Γi.W0.heap[k]? = w.heap[k]?) ∧ Γi.W0.os = w.os ∧ Γi.W0.tape = w.tape ∧ Γi.W0.output = w.output
  L0 : ∀ b, Γi.L0 b → Γo.L0 b ∨ Γo.W0.heap.size ≤ b
  ML : ∀ b, Γi.M0 b → Γi.L0 b
  size : B ≤ Γi.W0.heap.size
  X : ∀ k, X k → Γi.ρ0.N k
  ids : ∀ t x, get fro t = some x → ∀ i ∈ x.ids, i < K
  hK : no.K ≤ K

theorem SIM.susp {Γo : Ctx} {no : Sz} {ρ : Rho} {w : World} {ao : Act} {fro : Fr} {H : Hp} (s : SIM Γo no ρ w ao fro H) {K : Nat}
    (X : Nat → Prop) (w1 : World) (N : Nat → Prop) (dl : List Deferred) (ho : w1.os = w.os ∧ w1.tape = w.tape ∧ w1.output = w.output) (hsz : w.heap.size ≤ w1.heap.size) (hb : ∀ k, k < w.heap.size → ¬ X k → w1.heap[k]? = w.heap[k]?)
    (hN1 : ∀ b, ρ.N b → N b) (hN2 : ∀ b, N b → b < w.heap.size → ρ.N b) (hN3 : ∀ b, N b → b < w1.heap.size) (hX : ∀ k, X k → N k) :
    ∃ Γi, Γi.W0 = w1 ∧ Γi.ρ0 = ⟨ρ.f, N⟩ ∧ Γi.dl = dl ∧ (∀ b, Γi.M0 b ↔ namB ρ H b) ∧ (∀ b, Γi.M0 b → Γi.L0 b) ∧ (∀ b, Γi.L0 b → Γo.L0 b ∨ Γo.W0.heap.size ≤ b) ∧
      ((∀ t x, get fro t = some x → ∀ i ∈ x.ids, i < K) → no.K ≤ K → Susp Γo no fro ao X Γi K w.heap.size) ∧
      ∀ (ni : Sz) (a : Act) (fr : Fr), a.tmps.size = ni.n → a.defers = dl → (∀ t x, get fr t = some x → t < ni.n ∧ RA ρ (World.hf w) (ownB ρ H) x (a.tmps.getD t undef)) → SIM Γi ni ⟨ρ.f, N⟩ w1 a fr H := by
  obtain ⟨ℓ, hk, hl⟩ := s.heap
  have hap := s.apart hl
  have hML : ∀ b, namB ρ H b → inL ℓ H b := fun b ⟨e, he, k, hbk⟩ => ⟨e, he, hk.own_mem e he b k hbk⟩
  have hL0 : ∀ b, inL ℓ H b → Γo.L0 b ∨ Γo.W0.heap.size ≤ b := fun b ⟨e, he, hbe⟩ => hl e he b hbe
  refine ⟨{ W0 := w1, M0 := namB ρ H, L0 := inL ℓ H, ρ0 := ⟨ρ.f, N⟩, dl := dl }, rfl, rfl, rfl, fun _ => Iff.rfl, hML, hL0, fun hids hK => ⟨⟨ρ, w, H, s, rfl, fun _ _ => rfl, hN1, hN2, fun b h => .inl h, fun k hk' hx _ => hb k hk' hx, ho⟩, hL0, hML, hsz, hX, hids, hK⟩, ?_⟩
  intro ni a fr h1 h2 h3
  have hnX : ∀ b, ¬ ρ.N b → b < w.heap.size → ¬ X b := fun b hn hlt hx => hn (hN2 b (hX b hx) hlt)
  have hM : ∀ b, ¬ ownB ρ H b → World.hf w b ≠ none → World.hf w1 b = World.hf w b ∧ ¬ ownB ⟨ρ.f, N⟩ H b := fun b hbn hh => by
    have hlt := hf_lt hh
    refine ⟨hb b hlt (hnX b (fun h => hbn (.inr h)) hlt), ?_⟩
    rintro (h | h)
    · exact hbn (.inl h)
    · exact hbn (.inr (hN2 b h hlt))
  refine ⟨⟨h2, rfl, fun b h => ⟨fun ⟨e, he, hbe⟩ => ?_, hN3 b h⟩⟩, h1, Ext.refl _ _, fun _ _ => rfl, fun b h => .inl h, ⟨ℓ, ⟨fun e he => (hk.blk e he).same (fun _ _ => rfl) hM (fun b hbe => ?_), hk.nd, hk.dj, hk.ids⟩, fun e he b h => .inl ⟨e, he, h⟩⟩, fun t x hx => ?_⟩
  · have hlt := hf_lt (hk.there he b hbe)
    exact hap b (hN2 b h hlt) ⟨e, he, hbe⟩
  · have hlt := hf_lt (hk.there he b hbe)
    exact hb b hlt (hnX b (fun h => hap b h ⟨e, he, hbe⟩) hlt)
  · obtain ⟨h4, h5⟩ := h3 t x hx
    exact ⟨h4, h5.same x (fun _ _ => rfl) hM⟩

section
variable {Γo Γi : Ctx} {no ni : Sz} {fro fr : Fr} {ao a : Act} {X : Nat → Prop} {K B : Nat} {ρ : Rho} {w w2 : World} {H : Hp}
/-- what the waiting frame finds in the state of what has run meanwhile -/
theorem Susp.core (s : Susp Γo no fro ao X Γi K B) (t : SIM Γi ni ρ w a fr H) (hn : ni.K = K) (hsz : w.heap.size ≤ w2.heap.size) (hb : ∀ k, k < w.heap.size → ¬ X k → w2.heap[k]? = w.heap[k]?) :
    (∃ ℓ, HeapOK ⟨ρ.f, Γo.ρ0.N⟩ (World.hf w2) H ℓ ∧ ∀ e ∈ H, ∀ b ∈ ℓ e.1, Γo.L0 b ∨ Γo.W0.heap.size ≤ b) ∧
    (∀ t x, get fro t = some x → t < no.n ∧ RA ⟨ρ.f, Γo.ρ0.N⟩ (World.hf w2) (ownB ⟨ρ.f, Γo.ρ0.N⟩ H) x (ao.tmps.getD t undef) ∧ RA ρ (World.hf w) (ownB ρ H) x (ao.tmps.getD t undef)) ∧
    (∀ b, namB ρ H b → Γo.M0 b ∨ Γo.W0.heap.size ≤ b) ∧ (∀ i, i < no.K → ρ i = Γo.ρ0 i) ∧ (∀ k, k < Γo.W0.heap.size → ¬ Γo.M0 k → ¬ X k → w2.heap[k]? = Γo.W0.heap[k]?) ∧
    Γo.W0.heap.size ≤ w.heap.size ∧ ao.tmps.size = no.n ∧ ao.defers = Γo.dl ∧ (∀ b, Γo.ρ0.N b → ¬ Γo.L0 b ∧ b < Γo.W0.heap.size) ∧ w.os = Γo.W0.os ∧ w.tape = Γo.W0.tape ∧ w.output = Γo.W0.output ∧ (∀ b, Γo.ρ0.N b → ρ.N b) := by
  obtain ⟨ρs, ws, Hs, ss, eB, e1, e2, e3, e4, e10, e6, e7, e8⟩ := s.ex
  obtain ⟨ℓ, hk, hl⟩ := t.heap
  have hap := t.apart hl
  have e11 := s.X
  have e9 := s.size
  have hN : ρ.N = Γi.ρ0.N := t.defers.2.1
  have hNs : ρs.N = Γo.ρ0.N := ss.defers.2.1
  have hX : ∀ b, X b → ρ.N b := fun b h => hN ▸ e11 b h
  have hNo : ∀ b, Γo.ρ0.N b → ρ.N b := fun b h => hN ▸ e2 b (hNs ▸ h)
  have hsz1 : Γo.W0.heap.size ≤ ws.heap.size := ss.ext.size
  have hsz2 : Γi.W0.heap.size ≤ w.heap.size := t.ext.size
  have hown : ∀ b, namB ρ H b → namB ρs Hs b ∨ B ≤ b := fun b h => by
    rcases t.own b h with h | h
    · exact e4 b h
    · exact .inr (by omega)
  have hchain : ∀ k, k < ws.heap.size → ¬ namB ρs Hs k → ¬ X k → w.heap[k]? = ws.heap[k]? := fun k hk' hm hx =>
    (t.ext.block k (by omega) (fun h => by
      rcases e4 k h with h | h
      · exact hm h
      · omega)).trans (e10 k (by omega) hx hm)
  have hold : ∀ b, ownB ⟨ρ.f, Γo.ρ0.N⟩ H b → ownB ρ H b := fun b h => h.imp (fun h => h) (hNo b)
  refine ⟨⟨ℓ, ⟨fun e he => (hk.blk e he).same (fun _ _ => rfl) (fun b hbn hh => ⟨hb b (hf_lt hh) (fun hx => hbn (.inr (hX b hx))), fun h => hbn (hold b h)⟩) (fun b hbe => hb b (hf_lt (hk.there he b hbe)) (fun hx => hap b (hX b hx) ⟨e, he, hbe⟩)), hk.nd, hk.dj, hk.ids⟩, fun e he b hbe => ?_⟩, ?_, ?_, ?_, ?_, by omega, ss.size, ss.defers.1, ss.defers.2.2, (t.ext.os.trans e6).trans ss.ext.os, (t.ext.tape.trans e7).trans ss.ext.tape, (t.ext.output.trans e8).trans ss.ext.output, hNo⟩
  · rcases hl e he b hbe with h | h
    · exact s.L0 b h
    · exact .inr (by omega)
  · intro q x hx
    obtain ⟨h1, h2⟩ := ss.fr q x hx
    have hids := s.ids q x hx
    have hρ : ∀ i ∈ x.ids, ρ i = ρs i := fun i hi => (t.keep i (by rw [hn]; exact hids i hi)).trans (e1 i (hids i hi))
    have hw : ∀ b, ¬ ownB ρs Hs b → World.hf ws b ≠ none → World.hf w b = World.hf ws b ∧ ¬ ownB ρ H b := fun b hbn hh => by
      have hlt := hf_lt hh
      have hnN : ¬ Γi.ρ0.N b := fun h => hbn (.inr (e3 b h (by omega)))
      refine ⟨hchain b hlt (fun h => hbn (.inl h)) (fun hx => hnN (e11 b hx)), ?_⟩
      rintro (h | h)
      · rcases hown b h with h | h
        · exact hbn (.inl h)
        · omega
      · exact hnN (hN ▸ h)
    refine ⟨h1, h2.same x hρ (fun b hbn hh => ?_), h2.same x hρ hw⟩
    obtain ⟨h3, h4⟩ := hw b hbn hh
    have hh2 : World.hf w b ≠ none := by rw [h3]; exact hh
    exact ⟨(hb b (hf_lt hh2) (fun hx => h4 (.inr (hX b hx)))).trans h3, fun h => h4 (hold b h)⟩
  · intro b h
    rcases hown b h with h | h
    · exact ss.own b h
    · exact .inr (by omega)
  · intro i hi
    exact ((t.keep i (by have := s.hK; omega)).trans (e1 i (by have := s.hK; omega))).trans (ss.keep i hi)
  · intro k hk' hm hx
    have h1 : k < ws.heap.size := by omega
    have h2 : ¬ namB ρs Hs k := fun h => by
      rcases ss.own k h with h | h
      · exact hm h
      · omega
    exact (hb k (by omega) hx).trans ((hchain k h1 h2 hx).trans (ss.ext.block k hk' hm))
/-- it goes on -/
theorem Susp.resume (s : Susp Γo no fro ao X Γi K B) (t : SIM Γi ni ρ w a fr H) (hn : ni.K = K) (ho : w2.os = w.os ∧ w2.tape = w.tape ∧ w2.output = w.output) (hsz : w.heap.size ≤ w2.heap.size) (hb : ∀ k, k < w.heap.size → ¬ X k → w2.heap[k]? = w.heap[k]?)
    (hX : ∀ k, X k → k < Γo.W0.heap.size → w2.heap[k]? = Γo.W0.heap[k]?) : SIM Γo no ⟨ρ.f, Γo.ρ0.N⟩ w2 ao fro H := by
  obtain ⟨h1, h2, h3, h4, h5, h6, h7, h8, h9, h10, h11, h12, _⟩ := s.core t hn hsz hb
  refine ⟨⟨h8, rfl, h9⟩, h7, ⟨ho.1.trans h10, ho.2.1.trans h11, ho.2.2.trans h12, Nat.le_trans h6 hsz, fun k hk hm => ?_⟩, h4, h3, h1, fun t x hx => ⟨(h2 t x hx).1, (h2 t x hx).2.1⟩⟩
  by_cases hx : X k
  · exact hX k hx hk
  · exact h5 k hk hm hx
/-- a frame that waits goes on waiting while the one that ran waits, too -/
theorem Susp.trans (s : Susp Γo no fro ao X Γi K B) (t : SIM Γi ni ρ w a fr H) (hn : ni.K = K) {Γa : Ctx} {Y : Nat → Prop} (hρ : ∀ i, i < K → Γa.ρ0 i = ρ i) (hNa : Γa.ρ0.N = Γi.ρ0.N) (hM : ∀ b, Γa.M0 b → namB ρ H b) (hML : ∀ b, Γa.M0 b → Γa.L0 b)
    (hL : ∀ b, Γa.L0 b → Γi.L0 b ∨ Γi.W0.heap.size ≤ b) (ho : Γa.W0.os = w.os ∧ Γa.W0.tape = w.tape ∧ Γa.W0.output = w.output) (hsz : w.heap.size ≤ Γa.W0.heap.size) (hb : ∀ k, k < w.heap.size → ¬ Y k → Γa.W0.heap[k]? = w.heap[k]?) (hY : ∀ k, k < B → Y k → X k) :
    Susp Γo no fro ao X Γa K B := by
  obtain ⟨ρs, ws, Hs, ss, eB, e1, e2, e3, e4, e10, e6, e7, e8⟩ := s.ex
  have e9 := s.size
  have hsz1 : Γo.W0.heap.size ≤ ws.heap.size := ss.ext.size
  have hsz2 : Γi.W0.heap.size ≤ w.heap.size := t.ext.size
  refine ⟨⟨ρs, ws, Hs, ss, eB, fun i hi => ((hρ i hi).trans (t.keep i (by omega))).trans (e1 i hi), fun b h => hNa ▸ e2 b h, fun b h => e3 b (hNa ▸ h), fun b h => ?_, fun k hk hx hm => ?_, (ho.1.trans t.ext.os).trans e6, (ho.2.1.trans t.ext.tape).trans e7, (ho.2.2.trans t.ext.output).trans e8⟩, fun b h => ?_, hML, by omega, fun k h => hNa ▸ s.X k h, s.ids, s.hK⟩
  · rcases t.own b (hM b h) with h | h
    · exact e4 b h
    · exact .inr (by omega)
  · refine ((hb k (by omega) (fun hy => hx (hY k hk hy))).trans (t.ext.block k (by omega) (fun h => ?_))).trans (e10 k hk hx hm)
    rcases e4 k h with h | h
    · exact hm h
    · omega
  · rcases hL b h with h | h
    · exact s.L0 b h
    · exact .inr (by omega)
theorem Susp.laid {P : Program} [hL : LaidS P Γo] (s : Susp Γo no fro ao X Γi K B) (hX : ∀ k, X k → ∀ c T z, Γo.W0.heap[k]? ≠ some (.cells c T z)) : LaidS P Γi := ⟨fun g hg => by
  obtain ⟨h1, h2⟩ := hL.laid g hg
  obtain ⟨ρs, ws, Hs, ss, eB, e1, e2, e3, e4, e10, e6, e7, e8⟩ := s.ex
  have hlt := tab_lt hg h1
  have hnX : ¬ X g := fun hx => by
    have h3 := h1
    unfold Lib.TabIs World.var? at h3
    rw [hg] at h3
    simp only [Option.bind_some] at h3
    split at h3
    · rename_i hh; exact hX g hx _ _ _ hh
    · cases h3
  have hn : ¬ namB ρs Hs g := fun h => by
    rcases ss.own g h with h | h
    · exact h2 h
    · omega
  have hlt2 : g < ws.heap.size := Nat.lt_of_lt_of_le hlt ss.ext.size
  exact ⟨tab_same hg ((e10 g (by omega) hnX hn).trans (ss.ext.block g hlt h2)) h1, fun h => by
    rcases e4 g h with h | h
    · exact hn h
    · omega⟩⟩
end
end Go.GA
end
section
namespace Go.GA
open Go Go.RowKit

/-- what is fixed while the loop runs -/
structure Env where
  Γ : Ctx
  n : Sz
  fr : Fr
  a : Act
  l : Nat
  D : Nat
  lp : Loop
  K : Nat
  B : Nat
  Q : Exit → Act → World → Prop
def mark (D : Nat) : Deferred := { target := .collected D, args := #[] }
def Env.behind (E : Env) : Act := { E.a with defers := mark E.D :: E.a.defers }
def Env.nb (E : Env) : Sz := ⟨E.n.n, E.K⟩

/-- a context in which the caller waits; its record -/
structure Running (E : Env) (Γi : Ctx) (r : Loop) : Prop where
  susp : Susp E.Γ E.n E.fr E.a (fun _ => False) Γi E.K E.B
  nl : Γi.ρ0.N E.l
  nD : Γi.ρ0.N E.D
  ne : E.D ≠ E.l
  at_l : Γi.W0.heap[E.l]? = some (.loop r)
  dD : Γi.W0.heap[E.D]? = some (.deferred (some []))
  new : E.B ≤ E.l ∧ E.B ≤ E.D
  base : E.Γ.W0.heap.size ≤ E.B

/-- the exits of the iterator's body -/
def IterQ (P : Program) (E : Env) : Exit → Act → World → Prop
  | .normal, ai, w | .ret, ai, w => ai.defers = [] ∧ ∃ jump w4, (Instr.endLoop E.l).run P w = .ok jump w4 ∧ (match jump with
      | none => E.Q .normal E.behind w4
      | some c => c.wp P E.Q E.behind w4)
  | _, _, _ => False

/-- the same memory but for the block l -/
theorem putObj_parts (w : World) (l : Nat) (o : Obj) : (w.putObj l o).os = w.os ∧ (w.putObj l o).tape = w.tape ∧ (w.putObj l o).output = w.output := ⟨rfl, rfl, rfl⟩
theorem putObj_other (w : World) {l k : Nat} (o : Obj) (h : ¬ k = l) : (w.putObj l o).heap[k]? = w.heap[k]? := World.putObj_heap_other h
theorem putObj_size (w : World) (l : Nat) (o : Obj) : (w.putObj l o).heap.size = w.heap.size := by simp [World.putObj]

/-- what was done in between leaves of the context before -/
structure RB (Γ Γ2 : Ctx) (n : Sz) : Prop where
  ext : Ext Γ.M0 Γ.W0 Γ2.W0
  keep : ∀ i, i < n.K → Γ2.ρ0 i = Γ.ρ0 i
  M0 : ∀ b, Γ2.M0 b → Γ.M0 b ∨ Γ.W0.heap.size ≤ b
  L0 : ∀ b, Γ2.L0 b → Γ.L0 b ∨ Γ.W0.heap.size ≤ b
  N : ∀ b, Γ.ρ0.N b → Γ2.ρ0.N b
  dl : Γ2.dl = [] ∨ ∃ D, Γ2.dl = [mark D] ∧ Γ2.W0.heap[D]? = some (.deferred (some [])) ∧ Γ2.ρ0.N D ∧ Γ.W0.heap.size ≤ D ∧ ¬ Γ2.L0 D ∧ ¬ Γ2.M0 D
theorem RB.refl (Γ : Ctx) (n : Sz) (h : Γ.dl = []) : RB Γ Γ n := ⟨Ext.refl _ _, fun _ _ => rfl, fun _ h => .inl h, fun _ h => .inl h, fun _ h => h, .inl h⟩

section
variable {P : Program} {Γ : Ctx} {n : Sz} {Q : Exit → Act → World → Prop} {fr : Fr} {H : Hp}
def frLt (K : Nat) (fr : Fr) : Bool := allLt K (Fr.ids fr)
theorem frLt_ids {K : Nat} {fr : Fr} (h : frLt K fr = true) : ∀ t x, get fr t = some x → ∀ i ∈ x.ids, i < K := fun t x hx i hi => allLt_lt h i (get_ids hx i hi)

/-- the marks and the record are where they were -/
theorem Running.at_w {E : Env} {Γi : Ctx} {r : Loop} (hr : Running E Γi r) {ni : Sz} {ρ : Rho} {w : World} {a : Act} {fr : Fr} {H : Hp} (t : SIM Γi ni ρ w a fr H) : w.heap[E.l]? = some (.loop r) ∧ w.heap[E.D]? = some (.deferred (some [])) := by
  have key : ∀ k o, Γi.ρ0.N k → Γi.W0.heap[k]? = some o → w.heap[k]? = some o := fun k o hN ho => by
    have hlt := (Array.getElem?_eq_some_iff.1 ho).1
    exact (t.ext.block k hlt (fun hm => (t.defers.2.2 k hN).1 (hr.susp.ML k hm))).trans ho
  exact ⟨key _ _ hr.nl hr.at_l, key _ _ hr.nD hr.dD⟩
/-- what is behind the loop, in a context of its own -/
theorem Running.behind {E : Env} {Γi : Ctx} {r : Loop} (hr : Running E Γi r) [hL : LaidS P E.Γ] (hdl : E.Γ.dl = []) {ni : Sz} {ρ : Rho} {w : World} {a : Act} {fr : Fr} {H : Hp} (t : SIM Γi ni ρ w a fr H) (hn : ni.K = E.K) (o : Obj) :
    ∃ Γ2, RB E.Γ Γ2 E.n ∧ LaidS P Γ2 ∧ ∃ ρ2, SIM Γ2 E.n ρ2 (w.putObj E.l o) E.behind E.fr H := by
  have hNt : ρ.N = Γi.ρ0.N := t.defers.2.1
  obtain ⟨hlw, hDw⟩ := hr.at_w t
  have hDlt : E.D < w.heap.size := (Array.getElem?_eq_some_iff.1 hDw).1
  obtain ⟨ℓ, hk, hl⟩ := t.heap
  have hap := t.apart hl
  have hX : ∀ k, k = E.l ∨ k = E.D → ρ.N k := fun k h => by
    rw [hNt]
    rcases h with rfl | rfl
    · exact hr.nl
    · exact hr.nD
  have hnot : ∀ k, k = E.l ∨ k = E.D → ¬ inL ℓ H k := fun k h => hap k (hX k h)
  obtain ⟨_, h2, h3, h4, h5, h6, h7, h8, h9, h10, h11, h12, h13⟩ := hr.susp.core t hn (w2 := w) (Nat.le_refl _) (fun _ _ _ => rfl)
  have hbase := hr.base
  have hnew := hr.new
  have hsub : ∀ b, ownB ⟨ρ.f, fun b => E.Γ.ρ0.N b ∨ b = E.D⟩ H b → ownB ρ H b := by
    rintro b (h | h | h)
    · exact .inl h
    · exact .inr (h13 b h)
    · exact .inr (hX b (.inr h))
  have hput : ∀ k, ¬ k = E.l → (w.putObj E.l o).heap[k]? = w.heap[k]? := fun k hk => putObj_other w o hk
  have hnl : ∀ k, ¬ ownB ρ H k → ¬ k = E.l := fun k h e => h (.inr (hX k (.inl e)))
  have hdef : E.a.defers = [] := h8.trans hdl
  have hL0 : ∀ b, inL ℓ H b → E.Γ.L0 b ∨ E.Γ.W0.heap.size ≤ b := fun b ⟨e, he, hbe⟩ => by
    rcases hl e he b hbe with h | h
    · exact hr.susp.L0 b h
    · have := hr.susp.size
      exact .inr (by omega)
  refine ⟨{ W0 := w.putObj E.l o, M0 := namB ρ H, L0 := inL ℓ H, ρ0 := ⟨ρ.f, fun b => E.Γ.ρ0.N b ∨ b = E.D⟩, dl := [mark E.D] }, ⟨⟨h10, h11, h12, by rw [putObj_size]; exact h6, fun k hk' hm => ?_⟩, h4, h3, hL0, fun b h => .inl h, .inr ⟨E.D, rfl, ?_, .inr rfl, by omega, hnot E.D (.inr rfl), fun ⟨e, he, k, hbk⟩ => hnot E.D (.inr rfl) ⟨e, he, hk.own_mem e he E.D k hbk⟩⟩⟩, ⟨fun g hg => ?_⟩, ⟨ρ.f, fun b => E.Γ.ρ0.N b ∨ b = E.D⟩, ?_⟩
  · have hkl : ¬ k = E.l := fun h => by omega
    exact (hput k hkl).trans (h5 k hk' hm (fun h => h))
  · exact (hput E.D hr.ne).trans hDw
  · obtain ⟨h1, h2'⟩ := hL.laid g hg
    have hlt := tab_lt hg h1
    have hgl : ¬ g = E.l := fun h => by omega
    exact ⟨tab_same hg ((hput g hgl).trans (h5 g hlt h2' (fun h => h))) h1, fun h => by
      rcases h3 g h with h | h
      · exact h2' h
      · omega⟩
  · refine ⟨⟨by simp [Env.behind, hdef], rfl, fun b h => ⟨fun hin => ?_, ?_⟩⟩, h7, Ext.refl _ _, fun _ _ => rfl, fun b h => .inl h, ⟨ℓ, ⟨fun e he => ?_, hk.nd, hk.dj, hk.ids⟩, fun e he b h => .inl ⟨e, he, h⟩⟩, fun q x hx => ?_⟩
    · rcases h with h | h
      · exact hap b (h13 b h) hin
      · exact hnot b (.inr h) hin
    · show b < (w.putObj E.l o).heap.size
      rw [putObj_size]
      rcases h with h | h
      · have := (h9 b h).2; omega
      · rw [h]; exact hDlt
    · exact (hk.blk e he).same (fun _ _ => rfl) (fun b hbn _ => ⟨hput b (hnl b hbn), fun h => hbn (hsub b h)⟩) (fun b hbe => hput b (fun h => hnot b (.inl h) ⟨e, he, hbe⟩))
    · obtain ⟨g1, g2, g3⟩ := h2 q x hx
      exact ⟨g1, g3.same x (fun _ _ => rfl) (fun b hbn _ => ⟨hput b (hnl b hbn), fun h => hbn (hsub b h)⟩)⟩

end
end Go.GA
end
section
namespace Go.GA
open Go Go.RowKit
/-- the fence of a round -/
def WF (ro : Option Nat) : Fence := { Fence.wide with round := ro }
section
variable {P : Program} {ro : Option Nat} {m : Nat}
theorem callsIn_WF {f : FuncId} {args : Array Value} {w : World} {R : Ending → World → Prop} (h : Calls P f args w R) : CallsIn (WF ro) m P f args w R := (callsIn_wide (n := m)).2 h
theorem rowsIn_WF {row : String} {args : Array Value} {w : World} {R : Value → World → Prop} (h : Rows P row args w R) : RowsIn (WF ro) m P row args w R := fun c cs _ =>
  let ⟨v, w', r, s⟩ := h c cs
  ⟨v, w', r, stepsIn_wide.2 s⟩
theorem WF_depth (m : Nat) : (WF ro).depth.isSome = true → 1 ≤ m := fun h => by simp [WF, Fence.wide] at h
def noDefer (o : Oper) : Bool := match o.op with
  | .defer _ => false
  | _ => true
theorem noDefer_ne {o : Oper} (h : noDefer o = true) : ∀ c, o.op ≠ .defer c := fun c e => by simp [noDefer, e] at h
theorem oper_in {o : Oper} {a : Act} {w : World} {K K' : Act → World → Prop} {Q Q' : Exit → Act → World → Prop} (hd : noDefer o = true) (hK : ∀ a w, K a w → K' a w) (hQ : ∀ c a w, Q (.panic c) a w → Q' (.panic c) a w) (hO : LetsOut Q → LetsOut Q') (h : o.wp P a w K Q) : o.wpIn (WF ro) m P a w K' Q' := by
  refine ⟨fun _ _ => trivial, ?_⟩
  rw [Oper.semAt_eq _ _ _ (noDefer_ne hd)]
  unfold Oper.wp at h
  generalize (execOp a.eval o).run P w = r at *
  cases r with
  | ok x w' =>
    cases x <;> simp only [Oper.upon, Oper.uponIn] at h ⊢ <;> first
      | exact h.elim
      | exact hK _ _ h
      | exact ⟨WF_depth m, CallsIn.mono (callsIn_WF h) (fun e w'' he => by cases e <;> first | exact hK _ _ he | exact hQ _ _ _ he | exact hO he)⟩
      | exact ⟨WF_depth m, RowsIn.mono (rowsIn_WF h) (fun _ _ he => hK _ _ he)⟩
  | halt x w' => cases x <;> simp only [Oper.upon, Oper.uponIn] at h ⊢ <;> first | exact hQ _ _ _ h | exact h.elim
variable {ops : Array Oper} {Q : Exit → Act → World → Prop}
theorem notOut (hQ : ∀ a w, Q .outgrown a w → False) : LetsOut Q → False := fun ⟨a, w, h⟩ => hQ a w h
theorem wpList_in (hQ : ∀ a w, Q .outgrown a w → False) : ∀ (l : List Oper) (a : Act) (w : World), l.all noDefer = true → wpList P ops Q l a w → wpListIn (WF ro) m P ops Q l a w
  | [], _, _, _, h => h
  | o :: l, a, w, hd, h => by
    simp only [List.all_cons, Bool.and_eq_true] at hd
    unfold wpList at h
    unfold wpListIn
    split at h
    · rename_i hw
      rw [if_pos hw]
      rcases h with h | h
      · exact oper_in hd.1 (fun a' w' h' => wpList_in hQ l a' w' hd.2 h') (fun _ _ _ h => h) (fun h => h) h
      · exact (notOut hQ h.2).elim
    · rename_i hw
      rw [if_neg hw]
      exact ⟨fun _ _ => trivial, wpList_in hQ l _ w hd.2 h⟩
theorem wpOp_in {K K' : Act → World → Prop} (hQ : ∀ a w, Q .outgrown a w → False) (hd : ops.toList.all noDefer = true) {i : Nat} {a : Act} {w : World} (hK : ∀ a w, K a w → K' a w) (h : wpOp P ops Q i K a w) : wpOpIn (WF ro) m P ops Q i K' a w := by
  unfold wpOp at h
  unfold wpOpIn
  cases ho : ops[i]? with
  | none => simp only [ho] at h ⊢; exact hK _ _ h
  | some o =>
    simp only [ho] at h ⊢
    have hdo : noDefer o = true := List.all_eq_true.1 hd o (by
      have := Array.mem_of_getElem? ho
      exact Array.mem_toList_iff.2 this)
    split at h
    · rename_i hw
      rw [if_pos hw]
      rcases h with h | h
      · exact oper_in hdo hK (fun _ _ _ h => h) (fun h => h) h
      · exact (notOut hQ h.2).elim
    · rename_i hw
      rw [if_neg hw]
      exact ⟨fun _ _ => trivial, hK _ _ h⟩
theorem wpAny_in {md : Region.Mode} (hQ : ∀ a w, Q .outgrown a w → False) (hd : ops.toList.all noDefer = true) : ∀ (fuel : Nat) (listed : Array Bool) (a : Act) (w : World), wpAny P md ops Q fuel listed a w → wpAnyIn (WF ro) m P md ops Q fuel listed a w
  | 0, _, _, _, h => h
  | fuel + 1, listed, a, w, h => ⟨h.1, fun i hi => wpOp_in hQ hd (fun a w h => wpAny_in hQ hd fuel _ a w h) (h.2 i hi)⟩
end
/-- code of a round -/
def AWI (P : Program) (ro : Option Nat) (m : Nat) (Γ : Ctx) (n : Sz) (c : Code) (Q : Exit → Act → World → Prop) (fr : Fr) (H : Hp) : Prop :=
  ∀ ρ w a, SIM Γ n ρ w a fr H → c.wpIn (WF ro) m P Q a w
/-- operations among which stand calls of a loop's body -/
def AOI (P : Program) (m : Nat) (Γ : Ctx) (n : Sz) (all : Array Oper) (Q : Exit → Act → World → Prop) (ops : List Oper) (fr : Fr) (H : Hp) : Prop :=
  ∀ ρ w a, SIM Γ n ρ w a fr H → wpListIn (WF none) m P all Q ops a w
section
variable {P : Program} {ro : Option Nat} {m : Nat} {Γ : Ctx} {n : Sz} {Q : Exit → Act → World → Prop} {fr fr' : Fr} {H H' : Hp}
theorem awi_skip (h : AQ Γ n (Q .normal) fr H) : AWI P ro m Γ n .skip Q fr H := fun ρ w a s => wpIn_skip (h ρ w a s)
theorem awi_exit {id : Nat} (h : AQ Γ n (Q (.exit id)) fr H) : AWI P ro m Γ n (.exit id) Q fr H := fun ρ w a s => wpIn_exit (h ρ w a s)
theorem awi_seq {x y : Code} (h : AWI P ro m Γ n x (Exit.then (y.wpIn (WF ro) m P Q) Q) fr H) : AWI P ro m Γ n (x.seq y) Q fr H := fun ρ w a s => wpIn_seq (h ρ w a s)
theorem awi_block {id : Nat} {c : Code} (h : AWI P ro m Γ n c (Exit.inBlock id Q) fr H) : AWI P ro m Γ n (.block id c) Q fr H := fun ρ w a s => wpIn_block (h ρ w a s)
theorem awi_cond {c : Operand} {x y : Code} {b : Bool} (hc : evO fr c = some (.bool b)) (ht : b = true → AWI P ro m Γ n x Q fr H) (hf : b = false → AWI P ro m Γ n y Q fr H) :
    AWI P ro m Γ n (.cond c x y) Q fr H := fun ρ w a s => wpIn_cond_split (t := b) (s.ev hc) (fun h => ht h ρ w a s) (fun h => hf h ρ w a s)
theorem aqi_then {y : Code} (h : AWI P ro m Γ n y Q fr H) : AQ Γ n (Exit.then (y.wpIn (WF ro) m P Q) Q .normal) fr H := h
theorem awi_region {id : Nat} {l : List Oper} (hd : l.all noDefer = true) (hQ : ∀ a w, Q .outgrown a w → False) (h : AO P Γ n l.toArray Q l fr H) : AWI P ro m Γ n (.region id l.toArray false) Q fr H := fun ρ w a s => wpIn_region_lit (wpList_in hQ l a w hd (h ρ w a s))
theorem awi_draw {id : Nat} {l : List Oper} (hd : l.all noDefer = true) (hQ : ∀ a w, Q .outgrown a w → False) (k : Nat) (hm : P.follows .mixedOrders = true) (hB : drawB l k = true) (h : AN P Γ n l.toArray Q k (fun a w => wpList P l.toArray Q (l.drop k) a w) k (Array.replicate l.length false) fr H) :
    AWI P ro m Γ n (.region id l.toArray true) Q fr H := fun ρ w a s => by
  simp only [drawB, Bool.and_eq_true, decide_eq_true_eq] at hB
  obtain ⟨⟨⟨⟨hsel, hn⟩, hs⟩, hc⟩, hseq⟩ := hB
  have inv0 : HeadInv .any l.toArray k (Array.replicate l.length false) :=
    ⟨by simp, fun j oj _ hl => (by rw [getD_replicate_false] at hl; cases hl), fun t _ ht => getD_in (by simpa using ht) (getD_replicate_false _ _)⟩
  refine wpIn_region_any hm (wpAny_in hQ hd _ _ _ _ ?_)
  have := wpAny_of_AK (P := P) (Q := Q) (ops := l.toArray) (m := k) (g := l.length - k) hs hc (by simpa using hn) (fun listed a w inv hdone hT => ?_) k _ a _ inv0 (h ρ _ a s.drew)
  · have e : k + (l.length - k) = l.toArray.size := by simp; omega
    rw [e] at this
    simpa using this
  · have hcanon : listed = canon k l.length := by
      apply Array.ext
      · rw [inv.size]; simp [canon]; omega
      · intro i h1 h2
        have hi : i < l.length := by rw [inv.size] at h1; simpa using h1
        by_cases him : i < k
        · have := hdone i him
          simp [h1] at this
          simp [canon, this, him]
        · have := inv.tail i (by omega) (by simpa using hi)
          simp [h1] at this
          simp only [canon, List.getElem_toArray, this]
          rw [List.getElem_append_right (by simp; omega)]
          simp
    rw [hcanon]
    have := wpAny_of_seq (P := P) (ops := l.toArray) (md := .any) (Q' := Q) (l.drop k) k (canon k l.length) a w (fun j => by simp [List.getElem?_drop]) (by simpa using hseq) hT
    simpa using this
theorem aoi_nil {all : Array Oper} (h : AQ Γ n (Q .normal) fr H) : AOI P m Γ n all Q [] fr H := fun ρ w a s => h ρ w a s
theorem aw_regionI {id : Nat} {l : List Oper} (h : AOI P 0 Γ n l.toArray Q l fr H) : AW P Γ n (.region id l.toArray false) Q fr H := fun ρ w a s => wpIn_wide.1 (wpIn_region_lit (F := WF none) (n := 0) (h ρ w a s))
theorem aoi_op {all : Array Oper} {o : Oper} {rest : List Oper} (hd : noDefer o = true) (hQ : ∀ a w, Q .outgrown a w → False) (h : AO P Γ n all (Exit.then (wpListIn (WF none) m P all Q rest) Q) [o] fr H) : AOI P m Γ n all Q (o :: rest) fr H := fun ρ w a s => by
  have h1 := h ρ w a s
  unfold wpList at h1
  unfold wpListIn
  have hO : LetsOut (Exit.then (wpListIn (WF none) m P all Q rest) Q) → LetsOut Q := fun ⟨a, w, h⟩ => ⟨a, w, h⟩
  split at h1
  · rename_i hw
    rw [if_pos hw]
    rcases h1 with h1 | h1
    · exact oper_in hd (fun _ _ h => h) (fun _ _ _ h => h) hO h1
    · exact (notOut hQ (hO h1.2)).elim
  · rename_i hw
    rw [if_neg hw]
    exact ⟨fun _ _ => trivial, h1⟩
theorem aoi_in {all : Array Oper} {rest : List Oper} (h : AOI P m Γ n all Q rest fr H) : AQ Γ n (Exit.then (wpListIn (WF none) m P all Q rest) Q .normal) fr H := h
end
end Go.GA
end
section
namespace Go.GA
open Go Go.RowKit
/-- the loop's record -/
def recOf (fid : FuncId) (tmps : Array Value) (ps : Array Tmp) (assign body : Code) (D : Nat) : Loop := { state := .ready, pending := none, fn := fid, tmps := tmps, params := ps, assign, body, defers := D }
/-- what the environment is made of -/
structure IsEnv (E : Env) (Γ : Ctx) (n : Sz) (fr : Fr) (K : Nat) (Q : Exit → Act → World → Prop) (ps : Array Tmp) (assign body : Code) : Prop where
  size : E.a.tmps.size = n.n
  Γ : E.Γ = Γ
  n : E.n = n
  fr : E.fr = fr
  K : E.K = K
  Q : E.Q = Q
  lp : ∃ fid, E.lp = recOf fid E.a.tmps ps assign body E.D
/-- the iterator waits while a round runs -/
structure Wait (E : Env) (Γi : Ctx) (ni : Sz) (fri : Fr) (ai : Act) (Γx : Ctx) (r : Loop) : Prop where
  susp : ∃ B, Susp Γi ni fri ai (fun k => k = E.l) Γx E.K B
  dl : Γx.dl = []
  at_l : Γx.W0.heap[E.l]? = some (.loop r)

section
variable {P : Program} {Γ Γi Γx : Ctx} {n ni nb : Sz} {Q Q' : Exit → Act → World → Prop} {fr fri frb : Fr} {H : Hp} {E : Env} {K : Nat} {ps : Array Tmp} {assign body : Code} {ai : Act}
/-- a block that is protected lies as it lay -/
theorem SIM.nkept {ρ : Rho} {w : World} {a : Act} (t : SIM Γ n ρ w a fr H) (hML : ∀ b, Γ.M0 b → Γ.L0 b) {k : Nat} {o : Obj} (hN : Γ.ρ0.N k) (h : Γ.W0.heap[k]? = some o) : w.heap[k]? = some o :=
  (t.ext.block k (Array.getElem?_eq_some_iff.1 h).1 (fun hm => (t.defers.2.2 k hN).1 (hML k hm))).trans h

/-- the round begins -/
theorem aq_begin {r : Loop} {m : Nat} {R : Ending → World → Prop} (hw : Wait E Γi ni fri ai Γx r) (hr : r.state = .ready) (hl : Γi.W0.heap[E.l]? = some (.loop E.lp)) (hni : ni.K ≤ E.K) (hids : frLt E.K fri = true) (hnb : nb.K = E.K) [LaidS P Γi]
    (h : ∀ Γb, [LaidS P Γb] → Wait E Γi ni fri ai Γb { r with state := .busy } → AWI P (some E.l) m Γb nb body (roundPost P E.l R) frb H) :
    AQ Γx nb (fun a₁ w₁ => ∃ w₂, (Instr.beginRound E.l).run P w₁ = .ok () w₂ ∧ body.wpIn (WF (some E.l)) m P (roundPost P E.l R) a₁ w₂) frb H := fun ρ w a t => by
  obtain ⟨B, hs⟩ := hw.susp
  have hlw := t.nkept hs.ML (hs.X _ rfl) hw.at_l
  refine ⟨_, run_beginRound hlw hr, ?_⟩
  have hNt : ρ.N = Γx.ρ0.N := t.defers.2.1
  obtain ⟨Γb, e1, e2, e3, e4, e5, e6, e7, e8⟩ := t.susp (K := E.K) (fun k => k = E.l) (w.putObj E.l (.loop { r with state := .busy })) ρ.N [] (putObj_parts _ _ _) (by rw [putObj_size]; exact Nat.le_refl _) (fun k _ hk => putObj_other w _ hk)
    (fun _ h => h) (fun _ h _ => h) (fun b h => by rw [putObj_size]; have := (t.defers.2.2 b (hNt ▸ h)).2; have := t.ext.size; omega) (fun k h => hNt ▸ hs.X k h)
  have hs2 : Susp Γi ni fri ai (fun k => k = E.l) Γb E.K B := hs.trans t hnb (fun i _ => by rw [e2]) (by rw [e2]; exact hNt) (fun b h => (e4 b).1 h) e5 e6 (by rw [e1]; exact putObj_parts _ _ _) (by rw [e1, putObj_size]; exact Nat.le_refl _) (Y := fun k => k = E.l)
    (fun k _ hk => by rw [e1]; exact putObj_other w _ hk) (fun k _ h => h)
  haveI : LaidS P Γb := hs2.laid (fun k hk c T z e => by subst hk; rw [hl] at e; cases e)
  exact h Γb ⟨⟨B, hs2⟩, e3, by rw [e1]; exact World.putObj_heap_same (Array.getElem?_eq_some_iff.1 hlw).1⟩ _ _ _ (e8 nb a frb t.size (t.defers.1.trans hw.dl) t.fr)

/-- the iterator as it goes on, were the record put back -/
theorem Wait.back {r : Loop} (hw : Wait E Γi ni fri ai Γx r) (hl : Γi.W0.heap[E.l]? = some (.loop E.lp)) (hnb : nb.K = E.K) {ρ : Rho} {w : World} {a : Act} (t : SIM Γx nb ρ w a frb H) :
    w.heap[E.l]? = some (.loop r) ∧ SIM Γi ni ⟨ρ.f, Γi.ρ0.N⟩ (w.putObj E.l (.loop E.lp)) ai fri H := by
  obtain ⟨B, hs⟩ := hw.susp
  have hlw := t.nkept hs.ML (hs.X _ rfl) hw.at_l
  refine ⟨hlw, hs.resume t hnb (putObj_parts _ _ _) (by rw [putObj_size]; exact Nat.le_refl _) (fun k _ hk => putObj_other w _ hk) (fun k hk _ => ?_)⟩
  subst hk
  rw [hl]
  exact World.putObj_heap_same (Array.getElem?_eq_some_iff.1 hlw).1

/-- what the call of the loop's body is to the iterator -/
def YQ (P : Program) (m : Nat) (all : Array Oper) (Q : Exit → Act → World → Prop) (rest : List Oper) (d : Nat) (ai : Act) : Ending → World → Prop
  | .returned v, w => wpListIn (WF none) m P all Q rest (ai.put (some d) v) w
  | .panicked chain, w => Q (.panic chain) ai w
  | .outgrown, _ => LetsOut Q

theorem aq_next {r : Loop} {m d : Nat} {all : Array Oper} {rest : List Oper} (hE : IsEnv E Γ n fr K Q' ps assign body) (hw : Wait E Γi ni fri ai Γx r) (hr : r = { E.lp with state := .busy }) (hl : Γi.W0.heap[E.l]? = some (.loop E.lp)) (hnb : nb.K = E.K) (hd : Nat.blt d ni.n = true)
    (h : AOI P m Γi ni all Q rest ((d, .bool true) :: fri) H) : AQ Γx nb (roundPost P E.l (YQ P m all Q rest d ai) .normal) frb H := fun ρ w a t => by
  obtain ⟨hlw, s⟩ := hw.back hl hnb t
  have := run_endRound (P := P) none hlw
  refine ⟨_, _, this, ?_⟩
  have e : ({ r with state := if (none : Option Code).isNone = true then .ready else .done, pending := none } : Loop) = E.lp := by
    obtain ⟨fid, e⟩ := hE.lp
    subst hr
    rw [e]; rfl
  rw [e]
  exact h _ _ _ (s.put hd (by simp [RA]))

theorem aq_stop {r : Loop} {m d : Nat} {all : Array Oper} {rest : List Oper} {x : Exit} {c : Code} (hx : ∀ R a w, (∃ v w', (Instr.endRound E.l (some c)).run P w = .ok v w' ∧ R (.returned v) w') → roundPost P E.l R x a w) (hE : IsEnv E Γ n fr K Q' ps assign body) (hR : Running E Γi E.lp) (hw : Wait E Γi ni fri ai Γx r) (hr : r = { E.lp with state := .busy }) (hnb : nb.K = E.K) (hni : ni.K = E.K) (hids : frLt E.K fri = true) (hd : Nat.blt d ni.n = true) (hdl : Γi.dl = []) [LaidS P Γi]
    (h : ∀ Γ2, [LaidS P Γ2] → Γ2.dl = [] → Running E Γ2 { E.lp with state := .done, pending := some c } → AOI P m Γ2 ni all Q rest ((d, .bool false) :: fri) H) : AQ Γx nb (roundPost P E.l (YQ P m all Q rest d ai) x) frb H := fun ρ w a t => by
  have hl := hR.at_l
  obtain ⟨hlw, s⟩ := hw.back hl hnb t
  refine hx _ _ _ ⟨_, _, run_endRound (P := P) (some c) hlw, ?_⟩
  have e : ({ r with state := if (some c : Option Code).isNone = true then .ready else .done, pending := some c } : Loop) = { E.lp with state := .done, pending := some c } := by subst hr; rfl
  rw [e]
  generalize hr' : ({ E.lp with state := .done, pending := some c } : Loop) = r' at h
  have hsl : E.l < w.heap.size := (Array.getElem?_eq_some_iff.1 hlw).1
  have hput : ∀ k, ¬ k = E.l → (w.putObj E.l (.loop r')).heap[k]? = (w.putObj E.l (.loop E.lp)).heap[k]? := fun k hk => (putObj_other w _ hk).trans (putObj_other w _ hk).symm
  obtain ⟨Γ2, e1, e2, e3, e4, e5, e6, e7, e8⟩ := s.susp (K := E.K) (fun k => k = E.l) (w.putObj E.l (.loop r')) Γi.ρ0.N [] ⟨rfl, rfl, rfl⟩ (by rw [putObj_size, putObj_size]; exact Nat.le_refl _) (fun k _ hk => hput k hk)
    (fun _ h => h) (fun _ h _ => h) (fun b h => by rw [putObj_size]; have := (s.defers.2.2 b h).2; have := s.ext.size; rw [putObj_size] at this; omega) (fun k h => by subst h; exact hR.nl)
  haveI : LaidS P Γ2 := (e7 (frLt_ids hids) (Nat.le_of_eq hni)).laid (fun k hk c T z e => by subst hk; rw [hl] at e; cases e)
  have hDw := (hR.at_w s).2
  have hs2 : Susp E.Γ E.n E.fr E.a (fun _ => False) Γ2 E.K E.B := hR.susp.trans s hni (fun i _ => by rw [e2]) (by rw [e2]) (fun b h => (e4 b).1 h) e5 e6 (by rw [e1]; exact ⟨rfl, rfl, rfl⟩) (by rw [e1, putObj_size, putObj_size]; exact Nat.le_refl _) (Y := fun k => k = E.l)
    (fun k _ hk => by rw [e1]; exact hput k hk) (fun k hk h => by have := hR.new.1; subst h; omega)
  exact h Γ2 e3 ⟨hs2, by rw [e2]; exact hR.nl, by rw [e2]; exact hR.nD, hR.ne, by rw [e1]; exact World.putObj_heap_same hsl, by rw [e1]; exact (hput _ hR.ne).trans hDw, hR.new, hR.base⟩ _ _ _ (e8 ni _ _ (by simp [put_some, s.size]) (s.defers.1.trans hdl) (s.put hd (x := .bool false) (v := .bool false) (by simp [RA])).fr)
theorem aq_stop_exit {r : Loop} {m d : Nat} {all : Array Oper} {rest : List Oper} {id : Nat} (hE : IsEnv E Γ n fr K Q' ps assign body) (hR : Running E Γi E.lp) (hw : Wait E Γi ni fri ai Γx r) (hr : r = { E.lp with state := .busy }) (hnb : nb.K = E.K) (hni : ni.K = E.K) (hids : frLt E.K fri = true) (hd : Nat.blt d ni.n = true) (hdl : Γi.dl = []) [LaidS P Γi]
    (h : ∀ Γ2, [LaidS P Γ2] → Γ2.dl = [] → Running E Γ2 { E.lp with state := .done, pending := some (.exit id) } → AOI P m Γ2 ni all Q rest ((d, .bool false) :: fri) H) : AQ Γx nb (roundPost P E.l (YQ P m all Q rest d ai) (.exit id)) frb H :=
  aq_stop (c := .exit id) (fun _ _ _ h => h) hE hR hw hr hnb hni hids hd hdl h
theorem run_cally {ev : Operand → Value} {o : Oper} {fo x : Operand} {tys : Array TypeId} {l : Nat} {r : Loop} {w : World} (ho : o.op = .call ⟨.value fo, #[x], tys⟩) (hev : ev fo = .func (.yield l) #[] #[]) (hl : w.heap[l]? = some (.loop r)) (hs : r.params.size = 1) :
    (execOp ev o).run P w = .ok (.round l r.fn ((r.params.zip #[ev x]).foldl (fun tmps (t, a) => tmps.setIfInBounds t a) r.tmps) r.assign r.body) w := by
  have h := run_yield (P := P) (args := #[ev x]) hl (by simpa using hs.symm)
  simp [execOp, ho, resolve, hev, Deferred.ofValue, invoke]
  simpa using h
/-- the body of the loop is called -/
theorem aoi_yield {m d p : Nat} {all : Array Oper} {fo xo : Operand} {tys : Array TypeId} {x : AV} {ty : TypeId} {pos : String} {aft : Array Edge} {rest : List Oper} (hE : IsEnv E Γ n fr K Q' #[p] assign body) (hR : Running E Γi E.lp) (hdl : Γi.dl = []) (hni : ni.K = E.K) (hids : frLt E.K fri = true)
    (hfo : evO fri fo = some (.yl E.l)) (hx : evO fri xo = some x) (hp : Nat.blt p n.n = true) [LaidS P Γi]
    (h : ∀ ai Γa, [LaidS P Γa] → Wait E Γi ni fri ai Γa E.lp → AWI P (some E.l) (m - 1) Γa ⟨n.n, K⟩ assign (Exit.then (fun a₁ w₁ => ∃ w₂, (Instr.beginRound E.l).run P w₁ = .ok () w₂ ∧ body.wpIn (WF (some E.l)) (m - 1) P (roundPost P E.l (YQ P m all Q rest d ai)) a₁ w₂) (fun _ _ _ => False)) ((p, x) :: fr) H) :
    AOI P m Γi ni all Q (⟨some d, .call ⟨.value fo, #[xo], tys⟩, ty, pos, aft, none⟩ :: rest) fri H := fun ρ w ai t => by
  obtain ⟨fid, elp⟩ := hE.lp
  have hlw := (hR.at_w t).1
  have hwd : Region.wanted (⟨some d, .call ⟨.value fo, #[xo], tys⟩, ty, pos, aft, none⟩ : Oper) (yielded all ai.tmps) = true := t.wanted trivial
  unfold wpListIn
  rw [if_pos hwd]
  refine ⟨fun _ _ => trivial, ?_⟩
  rw [Oper.semAt_eq _ _ _ (fun c e => by cases e), run_cally (l := E.l) rfl (t.ev hfo) hlw (by rw [elp]; rfl)]
  refine ⟨WF_depth m, ?_⟩
  have hNt : ρ.N = Γi.ρ0.N := t.defers.2.1
  obtain ⟨Γa, e1, e2, e3, e4, e5, e6, e7, e8⟩ := t.susp (K := E.K) (fun k => k = E.l) w ρ.N [] ⟨rfl, rfl, rfl⟩ (Nat.le_refl _) (fun k _ _ => rfl) (fun _ h => h) (fun _ h _ => h)
    (fun b h => by have := (t.defers.2.2 b (hNt ▸ h)).2; have := t.ext.size; omega) (fun k h => by subst h; rw [hNt]; exact hR.nl)
  have hs := e7 (frLt_ids hids) (Nat.le_of_eq hni)
  haveI : LaidS P Γa := hs.laid (fun k hk c T z e => by subst hk; rw [hR.at_l] at e; cases e)
  obtain ⟨_, g2, _⟩ := hR.susp.core t hni (w2 := w) (Nat.le_refl _) (fun _ _ _ => rfl)
  have hb := h ai Γa ⟨⟨_, hs⟩, e3, by rw [e1]; exact hlw⟩
  have hsz : (E.a.tmps.setIfInBounds p (ai.eval xo)).size = n.n := by simp [hE.size]
  have key := hb _ _ { tmps := E.a.tmps.setIfInBounds p (ai.eval xo), defers := [] } (e8 ⟨n.n, K⟩ _ ((p, x) :: fr) hsz rfl (fun q y hy => by
    have hp' : p < n.n := by simpa using hp
    simp only [get] at hy
    by_cases eq : p = q
    · subst eq
      simp at hy
      subst hy
      refine ⟨hp', ?_⟩
      have hlt : p < E.a.tmps.size := by rw [hE.size]; exact hp'
      simpa [Array.getD_eq_getD_getElem?, hlt] using t.ev hx
    · have e' : Nat.beq p q = false := by
        cases hh : Nat.beq p q with
        | false => rfl
        | true => exact absurd (Nat.eq_of_beq_eq_true hh) eq
      rw [e'] at hy
      obtain ⟨h1, _, h3⟩ := g2 q y (by rw [hE.fr]; exact hy)
      refine ⟨by rw [hE.n] at h1; exact h1, ?_⟩
      simpa [Array.getD_eq_getD_getElem?, Array.getElem?_setIfInBounds, eq] using h3))
  have hrd := roundIn_of_wpIn (F := WF none) (n := m - 1) (l := E.l) (f := fid) (R := YQ P m all Q rest d ai) (trivial : (WF none).fn fid) key
  have et : ((recOf fid E.a.tmps #[p] assign body E.D).params.zip #[ai.eval xo]).foldl (fun tmps (t, a) => tmps.setIfInBounds t a) (recOf fid E.a.tmps #[p] assign body E.D).tmps = E.a.tmps.setIfInBounds p (ai.eval xo) := by simp [recOf]
  rw [elp, et]
  exact RoundIn.mono hrd (fun e w' he => by cases e <;> exact he)
end
end Go.GA
end
section
namespace Go.GA
open Go Go.RowKit
section
variable {P : Program} {Γ Γi Γ2 : Ctx} {n ni : Sz} {Q : Exit → Act → World → Prop} {fr fri : Fr} {H : Hp} {E : Env} {K : Nat} {ps : Array Tmp} {assign body : Code} {fn : Func} {R : AV → Hp → Prop}
/-- what the end of the body owes, where marks may stand -/
def FinM (P : Program) (Γ : Ctx) (n : Sz) (fn : Func) (R : AV → Hp → Prop) (a : Act) (w : World) : Prop := ∃ Γ2, RB Γ Γ2 n ∧ Fin P Γ2 n fn R a w
def BQM (P : Program) (Γ : Ctx) (n : Sz) (fn : Func) (R : AV → Hp → Prop) : Exit → Act → World → Prop
  | .normal => FinM P Γ n fn R
  | .ret => FinM P Γ n fn R
  | _ => fun _ _ => False
theorem aqm_ret (hb : RB Γ Γ2 n) (h : AQ Γ2 n (Fin P Γ2 n fn R) fr H) : AQ Γ2 n (BQM P Γ n fn R .ret) fr H := fun ρ w a s => ⟨Γ2, hb, h ρ w a s⟩
def tmpsB (fn : Func) : Bool := match fn.results.toList with
  | [] => true
  | [.tmp _] => true
  | [.tmp _, .tmp _] => true
  | [.tmp _, .tmp _, .tmp _] => true
  | _ => false
theorem results_tmps (h : tmpsB fn = true) (tmps : Array Value) : ∃ v, ∀ w, (results fn tmps).run P w = .ok v w := by
  unfold tmpsB at h
  have e : fn.results = fn.results.toList.toArray := by simp
  split at h
  all_goals first
    | (rename_i hl; rw [hl] at e; exact ⟨_, fun w => by simp [results, e]; rfl⟩)
    | cases h
theorem ac_enterM {f : FuncId} {c : Code} {args : List AV} (n : Sz) (hf : P.funcs[f]? = some fn) (hb : fn.body = some c) (hn : fn.ntmps = n.n) (ha : Nat.ble args.length n.n = true) (hK : namesB n.K H = true) (hK' : n.K = H.length) (ht : tmpsB fn = true)
    (h : ∀ Γ, [LaidS P Γ] → Γ.dl = [] → AW P Γ n c (BQM P Γ n fn R) (argFr 0 args) H) : ACallsV P f args H R := by
  intro ρ w vs ℓ h1 h2 hN hLd
  have hlen := ras_length h1
  have ha' : args.length ≤ n.n := Nat.le_of_ble_eq_true ha
  let Γ : Ctx := { W0 := w, M0 := namB ρ H, L0 := inL ℓ H, ρ0 := ρ, dl := [] }
  have hLS : LaidS P Γ := ⟨hLd⟩
  refine (callsIn_wide (n := 0)).1 (callsIn_of_wp_marks (F := Fence.wide) hf hb trivial ?_)
  have hs : SIM Γ n ρ w { tmps := vs.toArray ++ Array.replicate (fn.ntmps - vs.toArray.size) undef, defers := [] } (argFr 0 args) H := by
    refine ⟨⟨rfl, rfl, hN⟩, ?_, Ext.refl _ _, fun _ _ => rfl, fun b hb => .inl hb, ⟨ℓ, h2, fun e he b hb => .inl ⟨e, he, hb⟩⟩, ?_⟩
    · simp [hn]; omega
    · intro t x hx
      obtain ⟨j, e, hj⟩ := get_argFr hx
      obtain rfl : t = j := by omega
      have hlt := nthAV_lt hj
      obtain ⟨v, hv, hr⟩ := ras_nth h1 hj
      refine ⟨by omega, ?_⟩
      have hlt' : t < vs.length := by omega
      have : (vs.toArray ++ Array.replicate (fn.ntmps - vs.toArray.size) undef).getD t undef = v := by
        rw [Array.getD_eq_getD_getElem?, Array.getElem?_append_left (by simpa using hlt')]
        simp [hv]
      rw [this]; exact hr
  have hn' : ∀ e ∈ H, e.1 < n.K := namesB_lt hK
  refine wpIn_mono (wpIn_wide.2 (h Γ rfl ρ w _ hs)) ?_
  intro e a w' hq
  have key : FinM P Γ n fn R a w' → LeavesInM Fence.wide 0 P fn a.tmps (fun e w' => ∃ v r H' ρ' ℓ', e = .returned v ∧ Post R ρ w H ℓ v w' r H' ρ' ℓ') a.defers .returning w' := by
    rintro ⟨Γ2, hrb, hd, v, r, H', ρ', ℓ', h1, h2, h3, h4, h5, h6, h7, h8, h9⟩
    have hext : Ext (namB ρ H) w w' := ⟨h4.os.trans hrb.ext.os, h4.tape.trans hrb.ext.tape, h4.output.trans hrb.ext.output, Nat.le_trans hrb.ext.size h4.size, fun k hk hm => by
      have hk2 : k < Γ2.W0.heap.size := Nat.lt_of_lt_of_le hk hrb.ext.size
      refine (h4.block k hk2 (fun hm2 => ?_)).trans (hrb.ext.block k hk hm)
      rcases hrb.M0 k hm2 with h | h
      · exact hm h
      · have : w.heap.size ≤ k := h
        omega⟩
    have hold : ∀ b, inL ℓ' H' b → inL ℓ H b ∨ w.heap.size ≤ b := fun b hb => by
      rcases h6 b hb with h | h
      · exact hrb.L0 b h
      · exact .inr (Nat.le_trans hrb.ext.size h)
    have hown : ∀ b, namB ρ' H' b → namB ρ H b ∨ w.heap.size ≤ b := fun b hb => by
      rcases h7 b hb with h | h
      · exact hrb.M0 b h
      · exact .inr (Nat.le_trans hrb.ext.size h)
    have hsub : ∀ b, ownB ⟨ρ'.f, ρ.N⟩ H' b → ownB ρ' H' b := fun b h => h.imp (fun h => h) (fun h => by rw [h9]; exact hrb.N b h)
    -- the world behind the marks
    have fin : ∀ w2 : World, (∀ b, ¬ ρ'.N b → w2.heap[b]? = w'.heap[b]?) → (∀ b, inL ℓ' H' b → w2.heap[b]? = w'.heap[b]?) → Ext (namB ρ H) w w2 → Post R ρ w H ℓ v w2 r H' ⟨ρ'.f, ρ.N⟩ ℓ' := fun w2 hw hw2 he =>
      ⟨h2, fun e he => (h3 _ (hn' e he)).trans (hrb.keep _ (hn' e he)), he, ⟨fun e he => (h5.blk e he).same (fun _ _ => rfl) (fun b hbn _ => ⟨hw b (fun h => hbn (.inr h)), fun h => hbn (hsub b h)⟩) (fun b hbe => hw2 b ⟨e, he, hbe⟩), h5.nd, h5.dj, h5.ids⟩, hold, hown,
        h8.same r (fun _ _ => rfl) (fun b hbn _ => ⟨hw b (fun h => hbn (.inr h)), fun h => hbn (hsub b h)⟩), rfl⟩
    rcases hrb.dl with e | ⟨D, e, hD, hND, hge, hL, hM⟩
    · rw [hd, e]
      exact ⟨v, h1, v, r, H', _, ℓ', rfl, fin w' (fun _ _ => rfl) (fun _ _ => rfl) hext⟩
    · rw [hd, e]
      have hDlt : D < Γ2.W0.heap.size := (Array.getElem?_eq_some_iff.1 hD).1
      have hDw : w'.heap[D]? = some (.deferred (some [])) := (h4.block D hDlt hM).trans hD
      obtain ⟨v', hv'⟩ := results_tmps (P := P) ht a.tmps
      have ev : v' = v := by
        have := (hv' w').symm.trans h1
        simpa using this
      subst ev
      refine ⟨by simp, .inl ⟨D, _, rfl, run_takeDeferred hDw, v', hv' _, v', r, H', _, ℓ', rfl, fin _ (fun b hb => putObj_other w' _ (fun e => hb (by rw [e, h9]; exact hND))) (fun b hb => putObj_other w' _ (fun e => by
        subst e
        rcases h6 b hb with h | h
        · exact hL h
        · omega)) ⟨hext.os, hext.tape, hext.output, by rw [putObj_size]; exact hext.size, fun k hk hm => (putObj_other w' _ (fun e => by have : w.heap.size ≤ D := hge; omega)).trans (hext.block k hk hm)⟩⟩⟩
  cases e with
  | normal => exact key hq
  | ret => exact key hq
  | exit i => exact hq.elim
  | goto l => exact hq.elim
  | panic ch => exact hq.elim
  | outgrown => exact hq.elim

/-- 'for .. := range f' -/
theorem aw_rangeFunc {g : Operand} {p : Nat} {f : FuncId} {fi : Func} {c : Code} {caps : List AV} (ni : Sz) (hΓ : Γ.dl = []) (hg : evO fr g = some (.fn f caps)) (hf : P.funcs[f]? = some fi) (hb : fi.body = some c) (hname : (fi.name == "runtime.NumGoroutine") = false) (hn : fi.ntmps = ni.n) (hres : fi.results = #[])
    (ha : Nat.ble (caps.length + 1) ni.n = true) (hids : frLt ni.K fr = true) (hK : Nat.ble n.K ni.K = true) [LaidS P Γ]
    (h : ∀ E Γi, [LaidS P Γi] → IsEnv E Γ n fr ni.K Q #[p] assign body → Running E Γi E.lp → Γi.dl = [] → AW P Γi ni c (IterQ P E) (argFr 0 (.yl E.l :: caps)) H) : AW P Γ n (.rangeFunc g #[p] assign body) Q fr H := fun ρ w a s => by
  obtain ⟨cv, hcv, hcaps⟩ := s.ev hg
  refine (wpIn_wide (n := 0)).1 (wpIn_rangeFunc fun fid _ => ?_)
  obtain ⟨W1, hW1⟩ : ∃ W1, (w.alloc (.deferred (some []))).alloc (.loop (recOf fid a.tmps #[p] assign body w.heap.size)) = W1 := ⟨_, rfl⟩
  have hL1 : W1.heap[w.heap.size + 1]? = some (.loop (recOf fid a.tmps #[p] assign body w.heap.size)) := by
    rw [← hW1]; have := World.alloc_heap_new (w.alloc (.deferred (some []))) (.loop (recOf fid a.tmps #[p] assign body w.heap.size)); rwa [World.size_alloc] at this
  have hD1 : W1.heap[w.heap.size]? = some (.deferred (some [])) := by
    rw [← hW1]; exact (Below.heap_alloc _ _ _ (by simp)).trans (World.alloc_heap_new w _)
  have hsz : W1.heap.size = w.heap.size + 2 := by rw [← hW1]; simp
  have hold : ∀ k, k < w.heap.size → W1.heap[k]? = w.heap[k]? := fun k hk => by
    rw [← hW1]; exact (Below.heap_alloc _ _ _ (by simp; omega)).trans (Below.heap_alloc _ _ _ hk)
  have hpt : W1.os = w.os ∧ W1.tape = w.tape ∧ W1.output = w.output := by rw [← hW1]; exact ⟨rfl, rfl, rfl⟩
  obtain ⟨Γi, e1, e2, e3, e4, e5, e6, e7, e8⟩ := s.susp (K := ni.K) (fun _ => False) W1 (fun b => ρ.N b ∨ b = w.heap.size + 1 ∨ b = w.heap.size) [] hpt (by omega) (fun k hk _ => hold k hk) (fun _ h => .inl h)
    (fun b h hlt => by rcases h with h | h | h; · exact h
                       all_goals omega)
    (fun b h => by
      rcases h with h | h | h
      · have := (s.defers.2.2 b (s.defers.2.1 ▸ h)).2; have := s.ext.size; omega
      all_goals omega) (fun k h => h.elim)
  have hs := e7 (frLt_ids hids) (Nat.le_of_ble_eq_true hK)
  haveI : LaidS P Γi := hs.laid (fun k hk => hk.elim)
  let E : Env := ⟨Γ, n, fr, a, w.heap.size + 1, w.heap.size, recOf fid a.tmps #[p] assign body w.heap.size, ni.K, w.heap.size, Q⟩
  have hE : IsEnv E Γ n fr ni.K Q #[p] assign body := ⟨s.size, rfl, rfl, rfl, rfl, rfl, fid, rfl⟩
  have hR : Running E Γi E.lp := ⟨hs, by rw [e2]; exact .inr (.inl rfl), by rw [e2]; exact .inr (.inr rfl), by show w.heap.size ≠ w.heap.size + 1; omega, by rw [e1]; exact hL1, by rw [e1]; exact hD1, ⟨Nat.le_succ _, Nat.le_refl _⟩, s.ext.size⟩
  have hwp := h E Γi hE hR e3
  have hras : RAs ρ (World.hf w) (ownB ρ H) (.yl (w.heap.size + 1) :: caps) (.func (.yield (w.heap.size + 1)) #[] #[] :: cv) := ⟨_, _, rfl, rfl, hcaps⟩
  have hlen := ras_length hras
  have ha' : caps.length + 1 ≤ ni.n := Nat.le_of_ble_eq_true ha
  have hargs : #[Value.func (.yield (w.heap.size + 1)) #[] #[]] ++ cv.toArray = (Value.func (.yield (w.heap.size + 1)) #[] #[] :: cv).toArray := by simp
  refine ⟨w.heap.size + 1, [mark w.heap.size], W1, { target := .fn (.func f) cv.toArray, args := #[.func (.yield (w.heap.size + 1)) #[] #[]] }, W1, f, (Value.func (.yield (w.heap.size + 1)) #[] #[] :: cv).toArray, W1, ?_, ?_, fun _ _ => trivial, ?_, fun h => by simp [Fence.wide] at h, ?_⟩
  · rw [← hW1]; exact run_enterLoop_outer _ _ _ _ _
  · simp only [resolve, hcv]
    simp [go_sem]
  · have h1 : fi.name ≠ "runtime.NumGoroutine" := by simpa using hname
    have h2 : fi.body ≠ none := by rw [hb]; simp
    rw [← hargs]
    simp [invoke, callFunc, hf, h1, h2, Sem.run]
  · refine callsIn_wide.2 (calls_of_wp hf hb (Code.wp_mono ?_ (hwp ⟨ρ.f, fun b => ρ.N b ∨ b = w.heap.size + 1 ∨ b = w.heap.size⟩ W1 _ (e8 ni _ _ ?_ rfl ?_))))
    · intro e ai wi hq
      cases e with
      | normal =>
        obtain ⟨hd, jump, w4, hend, hj⟩ := hq
        refine ⟨hd, .tuple #[], by simp [results, hres], jump, w4, hend, ?_⟩
        cases jump with
        | none => exact hj
        | some c => exact wpIn_wide.2 hj
      | ret =>
        obtain ⟨hd, jump, w4, hend, hj⟩ := hq
        refine ⟨hd, .tuple #[], by simp [results, hres], jump, w4, hend, ?_⟩
        cases jump with
        | none => exact hj
        | some c => exact wpIn_wide.2 hj
      | exit id => exact hq.elim
      | goto l => exact hq.elim
      | panic ch => exact hq.elim
      | outgrown => exact hq.elim
    · simp [hn] at hlen ⊢; omega
    · intro t x hx
      obtain ⟨j, e, hj⟩ := get_argFr hx
      obtain rfl : t = j := by omega
      have hlt := nthAV_lt hj
      obtain ⟨v, hv, hr⟩ := ras_nth hras hj
      simp only [List.length_cons] at hlt hlen
      refine ⟨by omega, ?_⟩
      have hlt' : t < (Value.func (.yield (w.heap.size + 1)) #[] #[] :: cv).length := by simp only [List.length_cons]; omega
      have : ((Value.func (.yield (w.heap.size + 1)) #[] #[] :: cv).toArray ++ Array.replicate (fi.ntmps - (Value.func (.yield (w.heap.size + 1)) #[] #[] :: cv).toArray.size) undef).getD t undef = v := by
        rw [Array.getD_eq_getD_getElem?, Array.getElem?_append_left (by simpa using hlt')]
        simp [hv]
      rw [this]; exact hr

/-- the iterator is at its end -/
theorem aq_done (hE : IsEnv E Γ n fr K Q ps assign body) (hR : Running E Γi E.lp) [LaidS P Γ] (hdl : Γ.dl = []) (hΓ : Γi.dl = []) (hn : ni.K = K) (h : ∀ Γ2, [LaidS P Γ2] → RB Γ Γ2 n → AQ Γ2 n (Q .normal) fr H) : AQ Γi ni (IterQ P E .ret) fri H := by
  obtain ⟨_, h1, h2, h3, h4, h5, fid, hlp⟩ := hE
  subst h1 h2 h3 h4 h5
  intro ρ w a t
  have hlw := (hR.at_w t).1
  refine ⟨t.defers.1.trans hΓ, _, _, run_endLoop hlw (by rw [hlp]; intro h; cases h), ?_⟩
  have hp : E.lp.pending = none := by rw [hlp]; rfl
  rw [hp]
  obtain ⟨Γ2, hrb, hl2, ρ2, s2⟩ := hR.behind (P := P) hdl t hn (.loop { E.lp with state := .exhausted })
  have := h Γ2 hrb ρ2 _ _ s2
  simpa [hp] using this
/-- .. and was stopped -/
theorem aq_stopped {c : Code} (hE : IsEnv E Γ n fr K Q ps assign body) (hR : Running E Γi { E.lp with state := .done, pending := some c }) [LaidS P Γ] (hdl : Γ.dl = []) (hΓ : Γi.dl = []) (hn : ni.K = K) (h : ∀ Γ2, [LaidS P Γ2] → RB Γ Γ2 n → AW P Γ2 n c Q fr H) : AQ Γi ni (IterQ P E .ret) fri H := by
  obtain ⟨_, h1, h2, h3, h4, h5, fid, hlp⟩ := hE
  subst h1 h2 h3 h4 h5
  intro ρ w a t
  have hlw := (hR.at_w t).1
  refine ⟨t.defers.1.trans hΓ, _, _, run_endLoop hlw (by intro h; cases h), ?_⟩
  obtain ⟨Γ2, hrb, hl2, ρ2, s2⟩ := hR.behind (P := P) hdl t hn (.loop { ({ E.lp with state := .done, pending := some c } : Loop) with state := .exhausted })
  exact h Γ2 hrb ρ2 _ _ s2
theorem aq_iter_end (h : AQ Γi ni (IterQ P E .ret) fri H) : AQ Γi ni (IterQ P E .normal) fri H := h
end
end Go.GA
namespace Go.GA
open Go Go.RowKit
section
variable {P : Program} {Γ : Ctx} {n : Sz} {Q : Exit → Act → World → Prop} {fr fr' : Fr} {H H' : Hp} {E : Env} {K : Nat} {ps : Array Tmp} {assign body : Code} {ro : Option Nat} {m : Nat}
theorem AWI.sub {c : Code} (hs : Sub n fr H fr' H') (h : AWI P ro m Γ n c Q fr' H') : AWI P ro m Γ n c Q fr H := fun ρ w a s => let ⟨ρ', s'⟩ := hs Γ ρ w a s; h ρ' w a s'
theorem AOI.sub {all : Array Oper} {ops : List Oper} (hs : Sub n fr H fr' H') (h : AOI P m Γ n all Q ops fr' H') : AOI P m Γ n all Q ops fr H := fun ρ w a s => let ⟨ρ', s'⟩ := hs Γ ρ w a s; h ρ' w a s'
theorem IsEnv.ready (h : IsEnv E Γ n fr K Q ps assign body) : E.lp.state = .ready := by
  obtain ⟨fid, e⟩ := h.lp
  rw [e]; rfl
theorem IsEnv.fl {fr2 : Fr} (h : IsEnv E Γ n fr K Q ps assign body) (hf : frLt K fr2 = true) : frLt E.K fr2 = true := by rw [h.K]; exact hf
theorem ac_enterMR {fn : Func} {R : AV → Hp → Prop} {f : FuncId} {c : Code} {args : List AV} (n : Sz) (hf : P.funcs[f]? = some fn) (hb : fn.body = some c) (hn : fn.ntmps = n.n) (ha : Nat.ble args.length n.n = true) (hK : namesB n.K H = true) (hK' : n.K = H.length) (ht : tmpsB fn = true)
    (h : ∀ Γ, [LaidS P Γ] → Γ.dl = [] → AW P Γ n c (BQM P Γ n fn (WithRes R)) (argFr 0 args) H) : ACalls P f args H R := ac_enterM n hf hb hn ha hK hK' ht h
end
end Go.GA
end
section
namespace Go.GA
open Go Go.RowKit
/-- the string of bytes -/
def bytesB (xs : List Int) : ByteArray := xs.foldl (fun r n => r.push (UInt8.ofNat n.toNat)) ByteArray.empty
theorem relL_ints {h : Hf} {k : IntKind} : ∀ {xs : List Int} {cs F}, RelL (Rc h (.int k)) xs cs F → cs = xs.map (Value.int k)
  | [], cs, F, hr => hr.1
  | x :: xs, cs, F, hr => by
    obtain ⟨c1, c2, F1, F2, rfl, rfl, h1, h2⟩ := hr
    rw [relL_ints h2, h1.1]
    rfl
section
variable {P : Program} {fr : Fr} {H : Hp} {dst : Option Nat} {ty : TypeId} {pos : String} {aft : Array Edge} {g : Option (Nat × Bool)}
theorem r_bytes_str {S T E : TypeId} {x : Operand} {id : Nat} {xs : List Int} (hs : P.underlying S = some (.slice E)) (he : P.underlying E = some (.int .u8)) (hd : P.underlying T = some .string)
    (hx : evO fr x = some (.os id)) (hg : hget H id = some (.row (.int .u8) xs)) : Reads P ⟨dst, .convert S T x, ty, pos, aft, g⟩ fr H (.str (bytesB xs)) := fun Γ n ρ w a s => by
  obtain ⟨ℓ, hL, _⟩ := s.heap
  refine ⟨.string (bytesB xs), rfl, fun w' hk => ?_⟩
  obtain ⟨hl, ⟨h3, h4, _⟩ | ⟨b, cap, c, T', F, mid, post, h3, h4, h5, h6, h7, h8, h9⟩⟩ := hL.get hg
  · rcases s.ev hx with ⟨_, e⟩ | ⟨b', cap', len, hx', _⟩
    · subst h4
      simp only [execOp, e, Sem.run_bind, run_convert_bytes_string w' S T E none 0 0 hs he hd, Conv.bytesToString, Sem.run_pure, Result.andThen_ok]
      rfl
    · rw [h3] at hx'; cases hx'
  · rcases s.ev hx with ⟨hx', _⟩ | ⟨b', cap', len, hx', e⟩
    · rw [h3] at hx'; cases hx'
    · rw [h3] at hx'
      simp only [Option.some.injEq, Prod.mk.injEq] at hx'
      obtain ⟨rfl, rfl, hlen⟩ := hx'
      have hlen' : List.length (α := Int) xs = len := hlen
      subst hlen'
      have hmid : mid = xs.map (Value.int .u8) := relL_ints h6
      have hcs : (loadCells ⟨b, 0, none⟩ xs.length).run P w' = .ok (xs.map (Value.int .u8)).toArray w' := by
        have hb := kept_get hk h4
        have := run_loadCells_list (P := P) w' ⟨b, 0, none⟩ (xs.map (Value.int .u8)) (fun j v hv => by
          have hj : j < (xs.map (Value.int .u8)).length := (List.getElem?_eq_some_iff.1 hv).1
          have := cell_at (pre := []) hb (by rw [h5, hmid]; rfl) j hj
          rw [addr_add]
          simp only [List.length_nil] at this
          rw [this]; exact hv)
        simpa using this
      simp only [execOp, e, Sem.run_bind, run_convert_bytes_string w' S T E (some ⟨b, 0, none⟩) _ _ hs he hd, run_bytesToString w' ⟨b, 0, none⟩ xs.length cap xs hcs, Sem.run_pure, Result.andThen_ok]
      rfl
end
end Go.GA
end
section
namespace Go.GA
open Go Go.RowKit
section
variable {P : Program} {n : Sz} {fr : Fr} {H : Hp} {dst : Option Nat} {ty : TypeId} {pos : String} {aft : Array Edge} {g : Option (Nat × Bool)}
end
end Go.GA
end
section
namespace Go.GA
open Go Go.RowKit
def AV.isPtr : AV → Bool
  | .ref .. => true
  | .elem .. => true
  | .elem2 .. => true
  | .cptr .. => true
  | _ => false
section
variable {P : Program} {fr : Fr} {H : Hp} {dst : Option Nat} {ty : TypeId} {pos : String} {aft : Array Edge} {g : Option (Nat × Bool)}
theorem r_nilCheck {x : Operand} {y : AV} (hx : evO fr x = some y) (hp : y.isPtr = true) : Reads P ⟨dst, .nilCheck x, ty, pos, aft, g⟩ fr H y := fun Γ n ρ w a s => by
  have hv := s.ev hx
  refine ⟨a.eval x, hv, fun w' _ => ?_⟩
  have : ∃ ad, a.eval x = .pointer (some ad) := by
    cases y <;> simp only [AV.isPtr, Bool.false_eq_true] at hp
    all_goals simp only [RA] at hv
    all_goals first
      | (obtain ⟨b, k, _, e⟩ := hv; exact ⟨_, e⟩)
      | (obtain ⟨b, off, F, c, T, z, pre, mid, post, e, _⟩ := hv; exact ⟨_, e⟩)
  obtain ⟨ad, e⟩ := this
  simp [execOp, e, Sem.run_pure]
end
end Go.GA
end
section
namespace Go.GA
open Go Go.RowKit
section
variable {P : Program} {fr : Fr} {H : Hp} {dst : Option Nat} {ty : TypeId} {pos : String} {aft : Array Edge} {g : Option (Nat × Bool)}
end
end Go.GA
end
section
namespace Go.GA
open Go Go.RowKit
section
variable {H : Hp}
theorem ad_viewr0 {σ : Nat → Nat} {id l len z : Nat} {t : Ty} {xs : List t.D} (hz : t.sz = z) (hf : t.flat = true) (hg : hget H id = some (.row t xs)) (hl : l + len ≤ xs.length) :
    Ad H [] σ (.view id 0 z l len) (.v (.slice t) ((xs.drop l).take len)) := fun ρ h ℓ hk hm' hd v hx => by
  subst hz
  have hr := (hk.get hg).1
  exact ad_view hf (by simp [elemsAt, hg]) hl (by omega) (by simp) ρ h ℓ hk hm' hd v hx
end
section
variable {P : Program} {n : Sz} {fr : Fr} {H : Hp} {dst : Option Nat} {ty : TypeId} {pos : String} {aft : Array Edge} {g : Option (Nat × Bool)}
/-- a struct literal, as plain data -/
theorem r_build_stv {T : TypeId} {fields : Array Field} {l : List (Nat × Operand)} {z : Value} {cs : List Comp} (t : Ty) (y : t.D) (pl : List (Nat × Nat)) (ht : P.underlying T = some (.struct fields)) (hz : ∀ w, (zeroValue T).run P w = .ok z w) (hzs : z.cells.toList = zc t)
    (hp : Places P fields.toList pl) (hb : buildC fr (zC t) pl l = some cs) (hf : t.flatArrs = true) (ha : t.agg = true) (hy : cs = tyComps t y) :
    Reads P ⟨dst, .build T l.toArray, ty, pos, aft, g⟩ fr H (.v t y) := fun Γ n' ρ w a s => by
  obtain ⟨B, h1, h2⟩ := fill_comps (fr := fr) (ρ := ρ) (h := World.hf w) (M := ownB ρ H) (ev := a.eval) (fun o y h => s.ev h) (A := z.cells) (by rw [hzs]; exact zC_ok _ _ _ t) hb
  rw [hy] at h2
  obtain ⟨F, h3, h4⟩ := comps_ty t hf h2
  refine ⟨.agg B, ⟨F, ⟨_, h3, by simp [mkV, ha]⟩, h4⟩, fun w' _ => ?_⟩
  have hm : ∀ w, (fields.mapM fun f => do pure (f.offset, ← sizeOf f.type) : Sem (Array (Nat × Nat))).run P w = .ok pl.toArray w := fun w => by
    have e : fields = fields.toList.toArray := rfl
    rw [e, List.mapM_toArray, map_eq_pure_bind, Sem.run_bind, places_run hp w]
    rfl
  simp only [execOp, Instr.build, Sem.run_bind, hz, run_underlying ht, Result.andThen_ok, hm, List.map_toArray]
  rw [h1]
  simp
end
end Go.GA
end
section
namespace Go.GA
open Go Go.RowKit
def eqI (a b : Int) : Bool := decide (a = b)
def eqB (a b : Bool) : Bool := a == b
def eqIs (a b : List Int) : Bool := decide (a = b)
/-- equality of plain data -/
def eqT : (t : Ty) → t.D → t.D → Bool
  | .int _, x, y => eqI x y
  | .bool, x, y => eqB x y
  | .str, x, y => eqS x y
  | .arr _ (.int _), x, y => eqIs x y
  | .pair a b, x, y => eqT a x.1 y.1 && eqT b x.2 y.2
  | .unit, _, _ => true
  | _, _, _ => false
def TEq (P : Program) (n : Nat) (T : TypeId) (t : Ty) : Prop := ∀ (w : World) (d : Nat) (h : Hf) (x y : t.D) (c1 c2 : List Value) (F1 F2 : List Nat), n ≤ d → Rc h t x c1 F1 → Rc h t y c2 F2 → (Op.equalIn d T (mkV t c1) (mkV t c2)).run P w = .ok (eqT t x y) w
section
variable {P : Program}
theorem teq_int {T : TypeId} {k k' : IntKind} (hT : P.underlying T = some (.int k')) : TEq P 1 T (.int k) := fun w d h x y c1 c2 F1 F2 hd h1 h2 => by
  obtain ⟨d, rfl⟩ : ∃ e, d = e + 1 := ⟨d - 1, by omega⟩
  obtain ⟨rfl, _⟩ := h1
  obtain ⟨rfl, _⟩ := h2
  exact Eq.trans (run_equalIn_int w d T k k' x y hT) rfl
theorem teq_str {T : TypeId} (hT : P.underlying T = some .string) : TEq P 1 T .str := fun w d h x y c1 c2 F1 F2 hd h1 h2 => by
  obtain ⟨d, rfl⟩ : ∃ e, d = e + 1 := ⟨d - 1, by omega⟩
  obtain ⟨rfl, _⟩ := h1
  obtain ⟨rfl, _⟩ := h2
  exact Eq.trans (run_equalIn_string w d T x y hT) rfl
theorem part_at {T : TypeId} {t : Ty} {h : Hf} {x : t.D} {F : List Nat} {pre mid post : List Value} {off : Nat} (hR : Rc h t x mid F) (ha : ∀ w, (isAgg T).run P w = .ok t.agg w) (hs : ∀ w, (sizeOf T).run P w = .ok t.sz w) (hp : pre.length = off) (w : World) : (part T (pre ++ (mid ++ post)).toArray off).run P w = .ok (mkV t mid) w := by
  have hl := Rc.len t hR
  unfold part
  simp only [Sem.run_bind, ha, Result.andThen_ok]
  by_cases hg : t.agg = true
  · rw [if_pos hg]
    simp only [Sem.run_bind, hs, Result.andThen_ok, Sem.run_pure]
    have e : ((pre ++ (mid ++ post)).toArray).extract off (off + t.sz) = mid.toArray := by
      rw [← hp, ← hl, List.extract_toArray, List.extract_eq_take_drop]
      simp
    rw [e]
    simp [mkV, hg]
  · have hg' : t.agg = false := by simpa using hg
    rw [if_neg hg]
    obtain ⟨v, rfl⟩ := one_cell hg' hR
    have e : ((pre ++ ([v] ++ post)).toArray)[off]? = some v := by rw [← hp]; simp
    simp only [e, Sem.run_pure, mkV, hg', Bool.false_eq_true, if_false, List.headD_cons]
def FE (P : Program) (n : Nat) : List Field → Nat → Ty → Prop
  | [], _, .unit => True
  | f :: fs, off, .pair a b => ((f.name != "_") = true) ∧ f.offset = off ∧ (∀ w, (isAgg f.type).run P w = .ok a.agg w) ∧ (∀ w, (sizeOf f.type).run P w = .ok a.sz w) ∧ TEq P n f.type a ∧ FE P n fs (off + a.sz) b
  | _, _, _ => False
theorem TEq.mono {n n' : Nat} {T : TypeId} {t : Ty} (hn : Nat.ble n n' = true) (h : TEq P n T t) : TEq P n' T t := fun w d hf x y c1 c2 F1 F2 hd h1 h2 => h w d hf x y c1 c2 F1 F2 (Nat.le_trans (Nat.le_of_ble_eq_true hn) hd) h1 h2
theorem fe_run {n d : Nat} (hd : n ≤ d) {h : Hf} (w : World) : ∀ (fs : List Field) (off : Nat) (t : Ty) (x y : t.D) (c1 c2 p1 p2 : List Value) (F1 F2 : List Nat), FE P n fs off t → Rc h t x c1 F1 → Rc h t y c2 F2 → p1.length = off → p2.length = off → (Op.eqFields d (p1 ++ c1).toArray (p2 ++ c2).toArray fs).run P w = .ok (eqT t x y) w
  | [], off, .unit, x, y, c1, c2, p1, p2, F1, F2, _, h1, h2, _, _ => by simp [Op.eqFields, Sem.run_pure, eqT]
  | f :: fs, off, .pair a b, x, y, c1, c2, p1, p2, F1, F2, hfe, h1, h2, l1, l2 => by
    obtain ⟨hn, ho, ha, hs, ht, hr⟩ := hfe
    obtain ⟨a1, b1, G1, G2, rfl, _, r1, r2⟩ := h1
    obtain ⟨a2, b2, G3, G4, rfl, _, r3, r4⟩ := h2
    have hne : f.name ≠ "_" := by simpa using hn
    have q1 := part_at (P := P) (pre := p1) (post := b1) r1 ha hs l1
    have q2 := part_at (P := P) (pre := p2) (post := b2) r3 ha hs l2
    rw [← ho] at q1 q2
    have q3 := ht w d h x.1 y.1 a1 a2 G1 G3 hd r1 r3
    have ih := fe_run hd w fs (off + a.sz) b x.2 y.2 b1 b2 (p1 ++ a1) (p2 ++ a2) G2 G4 hr r2 r4 (by rw [List.length_append, l1, Rc.len a r1]) (by rw [List.length_append, l2, Rc.len a r3])
    rw [List.append_assoc, List.append_assoc] at ih
    simp only [Op.eqFields, Sem.run_bind, q1, q2, Result.andThen_ok, q3, hne, ne_eq, not_false_eq_true, if_true, eqT]
    cases he : eqT a x.1 y.1
    · simp [Sem.run_pure]
    · simp only [Bool.not_true, Bool.false_eq_true, if_false, Bool.true_and]
      exact ih
variable {fr : Fr} {H : Hp} {dst : Option Nat} {ty : TypeId} {pos : String} {aft : Array Edge} {g : Option (Nat × Bool)}
theorem r_eq_data {op : BinOp} {T yT : TypeId} {x y : Operand} {fields : Array Field} (t : Ty) (n : Nat) {X Y : t.D} {c : Bool} (ht : P.underlying T = some (.struct fields)) (hst : P.stoodInHeld T = false) (hgd : P.eqGuardType P.depth T = false) (hfe : FE P n fields.toList 0 t) (hn : Nat.ble n 9999 = true) (hag : t.agg = true)
    (hx : evO fr x = some (.v t X)) (hy : evO fr y = some (.v t Y)) (hc : (match op with
      | .eql => some (eqT t X Y)
      | .neq => some (!eqT t X Y)
      | _ => none) = some c) : Reads P ⟨dst, .binOp op T x y yT, ty, pos, aft, g⟩ fr H (.bool c) := fun Γ n' ρ w a s => by
  obtain ⟨F1, ⟨c1, r1, e1⟩, _⟩ := s.ev hx
  obtain ⟨F2, ⟨c2, r2, e2⟩, _⟩ := s.ev hy
  have ev : ∀ l : List Value, mkV t l = .agg l.toArray := fun l => by simp [mkV, hag]
  rw [ev] at e1 e2
  have hT : P.underlying T = some (.struct (P.fieldsOf T)) := by simp [Program.fieldsOf, ht]
  have hfs : P.fieldsOf T = fields := by simp [Program.fieldsOf, ht]
  have hq : ∀ w', (Op.equalIn 10000 T (.agg c1.toArray) (.agg c2.toArray)).run P w' = .ok (eqT t X Y) w' := fun w' => by
    rw [run_equalIn_struct w' 9999 T _ _ hT hst, hfs]
    exact fe_run (Nat.le_of_ble_eq_true hn) w' fields.toList 0 t X Y c1 c2 [] [] F1 F2 hfe r1 r2 rfl rfl
  refine ⟨.bool c, rfl, fun w' _ => ?_⟩
  have hg1 : ∀ w', (eqGuard op T x y (a.eval x) (a.eval y)).run P w' = .ok () w' := fun w' => by
    rw [e1, e2]
    exact run_eqGuard_agg w' op T x y _ _ hgd
  have h3 : (Go.binOp op T (a.eval x) (a.eval y)).run P w' = .ok (.bool c) w' := by
    rw [e1, e2]
    cases op <;> simp at hc
    · subst hc
      rw [run_eql_struct, hq]; rfl
    · rw [run_neq_struct, hq]; simp [hc]
  simp only [execOp, Sem.run_bind, hg1, h3, Result.andThen_ok, Sem.run_pure]
end
end Go.GA
end
section
namespace Go.GA
open Go Go.RowKit
section
variable {P : Program} {n : Sz} {fr : Fr} {H : Hp} {dst : Option Nat} {ty : TypeId} {pos : String} {aft : Array Edge} {g : Option (Nat × Bool)}
end
end Go.GA
end
section
namespace Go.GA
open Go Go.RowKit
section
variable {Γ : Ctx} {n : Sz} {fr : Fr} {H : Hp}
end
end Go.GA
end
section
namespace Go.GA
open Go Go.RowKit
section
variable {P : Program} {n : Sz} {fr : Fr} {H : Hp} {dst : Option Nat} {ty : TypeId} {pos : String} {aft : Array Edge} {g : Option (Nat × Bool)}
end
end Go.GA
end
section
namespace Go.GA
open Go Go.RowKit
section
variable {P : Program} {fr : Fr} {H : Hp} {dst : Option Nat} {ty : TypeId} {pos : String} {aft : Array Edge} {g : Option (Nat × Bool)}
end
end Go.GA
end
section
namespace Go.GA
open Go Go.RowKit
section
variable {P : Program} {n : Sz} {fr : Fr} {H : Hp} {dst : Option Nat} {ty : TypeId} {pos : String} {aft : Array Edge} {g : Option (Nat × Bool)}
theorem e_conv_row {S T E : TypeId} {x : Operand} {b : ByteArray} {u : TypeDesc} (id : Nat) (hs : P.underlying S = some u) (hd : P.underlying T = some (.slice E)) (he : P.underlying E = some (.int .u8)) (hx : evO fr x = some (.str b)) (hl : (b.size : Int) ≤ 9223372036854775807) (hid : freshB id fr H = true) (hK : Nat.ble n.K id = true) :
    Eff P n ⟨dst, .convert S T x, ty, pos, aft, g⟩ fr H (.os id) fr ((id, .brow (bytesI b)) :: H) := fun Γ ρ w a s => by
  have hv := s.ev hx
  simp only [RA] at hv
  have hrun := Lib.run_convert_string_bytes w S T E b hs hd he
  have hcap := grownCap_ge w b.size 0 E
  have hlen := bytesI_len b
  refine ⟨.slice (some ⟨w.heap.size, 0, none⟩) b.size (grownCap w b.size 0 E), Lib.bytesWorld w E b, upd ρ id (some (w.heap.size, grownCap w b.size 0 E, b.size)), ?_, ?_, .inr ⟨_, _, _, upd_same _ _ _, rfl⟩⟩
  · simp only [execOp, hv, Sem.run_bind, hrun, Result.andThen_ok, Sem.run_pure]
  · have := s.replace [] (id := id) (B := .brow (bytesI b)) (p := some (w.heap.size, grownCap w b.size 0 E, b.size)) (w' := Lib.bytesWorld w E b) hid hK rfl rfl rfl rfl (by rw [Lib.bytesWorld_size]; omega) (fun k hk _ => Lib.bytesWorld_at_old w E b k hk)
      (fun b' k h => .inr (by simp at h; omega)) (fun ℓ hk hM => ?_)
    · rwa [hdel_nil] at this
    · refine ⟨[w.heap.size], ⟨w.heap.size, grownCap w b.size 0 E, Lib.bytesCells w E b, E, List.replicate (grownCap w b.size 0 E - b.size) (.int .u8 0), ?_, Lib.bytesWorld_at_new w E b, ?_, rfl, ?_, ?_⟩, by simp, fun b' hb => .inr (by simp at hb; omega)⟩
      · rw [upd_same, hlen]
      · simp [Lib.bytesCells, bytesI]
      · simp only [Lib.bytesCells, Array.size_append, Array.size_map, Array.size_replicate]
        have : b.data.size = b.size := rfl
        omega
      · rw [hlen]; simp only [lim]; omega
theorem brow_at {Γ : Ctx} {ρ : Rho} {w : World} {a : Act} (s : SIM Γ n ρ w a fr H) {x : Operand} {id : Nat} {xs : List Int} (hx : evO fr x = some (.os id)) (hg : hget H id = some (.brow xs)) :
    ∃ b cap c T post, ρ id = some (b, cap, xs.length) ∧ World.hf w b = some (.cells c T (c.size, c.size + 1)) ∧ c.toList = xs.map (Value.int .u8) ++ post ∧ c.size = cap ∧ a.eval x = .slice (some ⟨b, 0, none⟩) xs.length cap := by
  obtain ⟨ℓ, hL, _⟩ := s.heap
  obtain ⟨b, cap, c, T, post, h1, h2, h3, h4, h5, h6⟩ := hL.get hg
  rcases s.ev hx with ⟨hx', _⟩ | ⟨b', cap', len, hx', e⟩
  · rw [h1] at hx'; cases hx'
  · rw [h1] at hx'
    simp only [Option.some.injEq, Prod.mk.injEq] at hx'
    obtain ⟨rfl, rfl, rfl⟩ := hx'
    exact ⟨b, cap, c, T, post, h1, h2, h3, h5, e⟩
theorem r_len_brow {T E : TypeId} {x : Operand} {id : Nat} {xs : List Int} (m : Int) (hu : P.underlying T = some (.slice E)) (hx : evO fr x = some (.os id)) (hg : hget H id = some (.brow xs)) (hm : (xs.length : Int) = m) :
    Reads P ⟨dst, .call ⟨.builtin .len, #[x], #[T]⟩, ty, pos, aft, g⟩ fr H (.int .i64 m) := fun Γ n ρ w a s => by
  obtain ⟨b, cap, c, T', post, h1, h2, h3, h4, e⟩ := brow_at s hx hg
  subst hm
  exact ⟨_, rfl, fun w' _ => by simp [execOp, resolve, invoke, Go.builtin, Builtin.len_, e, Sem.run_bind, run_underlying hu, goInt]⟩
theorem r_idxAddr_brow {T E : TypeId} {x y : Operand} {id sz : Nat} {xs : List Int} {k : IntKind} {i : Int} (hu : P.underlying T = some (.slice E)) (hs : ∀ w, (sizeOf E).run P w = .ok sz w)
    (hx : evO fr x = some (.os id)) (hg : hget H id = some (.brow xs)) (hy : evO fr y = some (.int k i)) (h0 : 0 ≤ i) (h1 : i < (xs.length : Int)) :
    Reads P ⟨dst, .indexAddr T x y, ty, pos, aft, g⟩ fr H (.elem id 0 sz i.toNat) := fun Γ n ρ w a s => by
  have hy' := s.ev hy
  simp only [RA] at hy'
  obtain ⟨b, cap, c, T', post, h3, h4, h5, h6, e⟩ := brow_at s hx hg
  refine ⟨_, ⟨b, _, h3, rfl⟩, fun w' _ => ?_⟩
  simp [execOp, Instr.indexAt, e, hy', asIntOf, Sem.run_bind, run_underlying hu, h0, h1, hs, addr_add]
theorem brow_elem {Γ : Ctx} {ρ : Rho} {w : World} {a : Act} (s : SIM Γ n ρ w a fr H) {x : Operand} {id i : Nat} {xs : List Int} (hx : evO fr x = some (.elem id 0 1 i)) (hg : hget H id = some (.brow xs)) :
    ∃ b cap c T post, ρ id = some (b, cap, xs.length) ∧ World.hf w b = some (.cells c T (c.size, c.size + 1)) ∧ c.toList = xs.map (Value.int .u8) ++ post ∧ c.size = cap ∧ a.eval x = .pointer (some ⟨b, i, none⟩) := by
  obtain ⟨ℓ, hL, _⟩ := s.heap
  obtain ⟨b, cap, c, T, post, h1, h2, h3, h4, h5, h6⟩ := hL.get hg
  obtain ⟨b', k, hρ, e⟩ := s.ev hx
  rw [h1] at hρ
  simp only [Option.some.injEq, Prod.mk.injEq] at hρ
  obtain ⟨rfl, _⟩ := hρ
  exact ⟨b, cap, c, T, post, h1, h2, h3, h5, by rw [e]; simp⟩
theorem r_load_brow {T : TypeId} {x : Operand} {id i : Nat} {xs : List Int} (ha : ∀ w, (isAgg T).run P w = .ok false w)
    (hx : evO fr x = some (.elem id 0 1 i)) (hg : hget H id = some (.brow xs)) (hi : i < xs.length) :
    Reads P ⟨dst, .load T x, ty, pos, aft, g⟩ fr H (.int .u8 (xs.getD i 0)) := fun Γ n ρ w a s => by
  obtain ⟨b, cap, c, T', post, h1, h2, h3, h4, e⟩ := brow_elem s hx hg
  refine ⟨.int .u8 (xs.getD i 0), rfl, fun w' hk => ?_⟩
  have hb := kept_get hk h2
  have hci : c[i]? = some (Value.int .u8 (xs.getD i 0)) := by
    rw [← Array.getElem?_toList, h3, List.getElem?_append_left (by simpa using hi), List.getElem?_map, List.getD_eq_getElem?_getD, List.getElem?_eq_getElem hi]; rfl
  have hcell : w'.cell? ⟨b, i, none⟩ = some (Value.int .u8 (xs.getD i 0)) := by
    simp [World.cell?, hb, hci]
  have hload : (load ⟨b, i, none⟩).run P w' = .ok (Value.int .u8 (xs.getD i 0)) w' := by
    simp [load, Sem.run, hcell]
  simp only [execOp, e, Instr.loadAt, Instr.sureAddr, Sem.run_bind, Sem.run_pure, Result.andThen_ok, loadVar, ha, Bool.false_eq_true, if_false, hload]
theorem e_store_brow {T : TypeId} {x y : Operand} {id i : Nat} {xs : List Int} {v : Int} (hs : ∀ w, (sizeOf T).run P w = .ok 1 w) (hx : evO fr x = some (.elem id 0 1 i)) (hy : evO fr y = some (.int .u8 v)) (hg : hget H id = some (.brow xs)) (hi : i < xs.length) :
    EffS P n ⟨none, .store T x y, ty, pos, aft, g⟩ fr H fr (hset H id (.brow (xs.set i v))) := fun Γ ρ w a s => by
  obtain ⟨b, cap, c, T', post, h1, h2, h3, h4, e⟩ := brow_elem s hx hg
  have hv := s.ev hy
  simp only [RA] at hv
  have hic : i < c.size := by
    have : c.toList.length = c.size := Array.length_toList
    rw [h3, List.length_append, List.length_map] at this
    omega
  have hadd : ((⟨b, i, none⟩ : Addr).add 0) = ⟨b, i, none⟩ := by simp [addr_add]
  have hcell : w.cell? ⟨b, i, none⟩ = some c[i] := by
    have h2' : w.heap[b]? = some (.cells c T' (c.size, c.size + 1)) := h2
    simp [World.cell?, h2', hic]
  have hfro : w.frozen? ⟨b, i, none⟩ = false := by
    have h2' : w.heap[b]? = some (.cells c T' (c.size, c.size + 1)) := h2
    simp [World.frozen?, h2']; omega
  have hrun : (storeVar T ⟨b, i, none⟩ (.int .u8 v)).run P w = .ok () (w.setRow b (c.setIfInBounds i (.int .u8 v))) := by
    have hst : (store (⟨b, i, none⟩ : Addr) (.int .u8 v)).run P w = .ok () (w.setRow b (c.setIfInBounds i (.int .u8 v))) := by
      rw [run_store P w _ _ _ rfl, hcell]
      simp [hfro, setCell_eq_setRow w b i c T' _ (.int .u8 v) h2]
    simp [storeVar, Sem.run_bind, hs, Value.cells, storeCells, hadd, hst]
  refine ⟨w.setRow b (c.setIfInBounds i (.int .u8 v)), ρ, ?_, s.write hg h1 h2 (fun ℓ' h' hk' hb' hne hM => ?_)⟩
  · simp only [execOp, Instr.storeAt, e, hv, Instr.sureAddr, Sem.run_bind, Sem.run_pure, Result.andThen_ok, hrun]
  · obtain ⟨b2, cap2, c2, T2, post2, g1, g2, g3, g4, g5, g6⟩ := hk'.get hg
    rw [h1] at g1
    simp only [Option.some.injEq, Prod.mk.injEq] at g1
    obtain ⟨rfl, rfl, _⟩ := g1
    refine ⟨[b], ⟨b, cap, c.setIfInBounds i (.int .u8 v), T', post, by rw [h1, List.length_set], ?_, ?_, rfl, by simpa using h4, by simpa using g6⟩, by simp, fun x hx => by rw [g4]; exact hx⟩
    · rw [hb']; simp
    · rw [Array.toList_setIfInBounds, h3, List.set_append_left _ _ (by simpa using hi), List.map_set]
theorem r_brow_str {S T E : TypeId} {x : Operand} {id : Nat} {xs : List Int} (hs : P.underlying S = some (.slice E)) (he : P.underlying E = some (.int .u8)) (hd : P.underlying T = some .string)
    (hx : evO fr x = some (.os id)) (hg : hget H id = some (.brow xs)) : Reads P ⟨dst, .convert S T x, ty, pos, aft, g⟩ fr H (.str (bytesB xs)) := fun Γ n ρ w a s => by
  obtain ⟨b, cap, c, T', post, h1, h2, h3, h4, e⟩ := brow_at s hx hg
  refine ⟨.string (bytesB xs), rfl, fun w' hk => ?_⟩
  have hcs : (loadCells ⟨b, 0, none⟩ xs.length).run P w' = .ok (xs.map (Value.int .u8)).toArray w' := by
    have hb := kept_get hk h2
    have := run_loadCells_list (P := P) w' ⟨b, 0, none⟩ (xs.map (Value.int .u8)) (fun j v hv => by
      have hj : j < (xs.map (Value.int .u8)).length := (List.getElem?_eq_some_iff.1 hv).1
      have := cell_at (pre := []) hb (by rw [h3]; rfl) j hj
      rw [addr_add]
      simp only [List.length_nil] at this
      rw [this]; exact hv)
    simpa using this
  simp only [execOp, e, Sem.run_bind, run_convert_bytes_string w' S T E (some ⟨b, 0, none⟩) _ _ hs he hd, run_bytesToString w' ⟨b, 0, none⟩ xs.length cap xs hcs, Sem.run_pure, Result.andThen_ok]
  rfl
end
end Go.GA
end
