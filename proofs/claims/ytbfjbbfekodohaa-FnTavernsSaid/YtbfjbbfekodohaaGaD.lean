/- Structs with slices of their own: loaded, built, handed over; nil slices in variables. -/
import Derived.Test.YtbfjbbfekodohaaGaC
import Derived.Lib.ConvBytes
import Derived.Lib.Bytealg
import Derived.Laws.Externs
import Derived.Sort.Grow
import Derived.RangeFuncLeaves
import Derived.RangeFuncOwn
import Derived.OrdersIn
import Derived.TacticsIn
import Derived.ControlIn
import Derived.Laws.BytesString
import Derived.Laws.CopyRow
section
namespace Go.GA
open Go Go.RowKit
def compAVs : List Comp → List AV
  | [] => []
  | .cell a :: cs => a :: compAVs cs
  | .arr t n xs :: cs => .v (.arr n t) xs :: compAVs cs
/-- arrays in it hold no slices -/
def flatComps : List Comp → Bool
  | [] => true
  | .cell _ :: cs => flatComps cs
  | .arr t _ _ :: cs => t.flat && flatComps cs
theorem compAVs_append : ∀ (a b : List Comp), compAVs (a ++ b) = compAVs a ++ compAVs b
  | [], _ => rfl
  | .cell _ :: a, b => by simp [compAVs, compAVs_append a b]
  | .arr .. :: a, b => by simp [compAVs, compAVs_append a b]
theorem comps_st {ρ : Rho} {h : Hf} {M : Nat → Prop} : ∀ {cs : List Comp} {vs F}, flatComps cs = true → RComps ρ h M cs vs F → ∃ us, RAs ρ h M (compAVs cs) us ∧ cellsOf us = vs ∧ F = []
  | [], vs, F, _, hr => ⟨[], rfl, by rw [hr.1]; rfl, hr.2⟩
  | .cell a :: cs, vs, F, hf, hr => by
    obtain ⟨v, cs', e, h1, h2, h3⟩ := hr
    obtain ⟨us, h4, h5, h6⟩ := comps_st (cs := cs) hf h3
    refine ⟨v :: us, ⟨v, us, rfl, h2, h4⟩, ?_, h6⟩
    rw [e, ← h5]
    simp [cellsOf, one_cells h2 h1]
  | .arr t n xs :: cs, vs, F, hf, hr => by
    simp only [flatComps, Bool.and_eq_true] at hf
    obtain ⟨c1, c2, F1, F2, e, eF, h1, h2⟩ := hr
    obtain ⟨us, h4, h5, h6⟩ := comps_st (cs := cs) hf.2 h2
    have hF1 := Rc.flat (.arr n t) hf.1 h1
    subst hF1; subst h6
    refine ⟨.agg c1.toArray :: us, ⟨_, us, rfl, ⟨[], ⟨c1, h1, rfl⟩, by simp⟩, h4⟩, ?_, by rw [eF]; rfl⟩
    rw [e, ← h5]
    simp [cellsOf, Value.cells]
theorem ras_append {ρ : Rho} {h : Hf} {M : Nat → Prop} : ∀ {xs ys : List AV} {vs}, RAs ρ h M (xs ++ ys) vs → ∃ us ws, vs = us ++ ws ∧ RAs ρ h M xs us ∧ RAs ρ h M ys ws
  | [], ys, vs, hr => ⟨[], vs, rfl, rfl, hr⟩
  | x :: xs, ys, vs, hr => by
    obtain ⟨v, vs', e, h1, h2⟩ := hr
    obtain ⟨us, ws, e2, h3, h4⟩ := ras_append (xs := xs) h2
    exact ⟨v :: us, ws, by rw [e, e2]; rfl, ⟨v, us, rfl, h1, h3⟩, h4⟩
theorem ras_one {ρ : Rho} {h : Hf} {M : Nat → Prop} {x : AV} {vs} (hr : RAs ρ h M [x] vs) : ∃ v, vs = [v] ∧ RA ρ h M x v := by
  obtain ⟨v, vs', e, h1, h2⟩ := hr
  simp only [RAs] at h2
  subst h2
  exact ⟨v, e, h1⟩
/-- parts that are plain make up a whole that is -/
theorem ras_ty {ρ : Rho} {h : Hf} {M : Nat → Prop} : ∀ (t : Ty) {x : t.D} {us}, t.flatArrs = true → RAs ρ h M (compAVs (tyComps t x)) us → ∃ F, Rc h t x (cellsOf us) F ∧ ∀ b ∈ F, ¬ M b
  | .arr n t, x, us, _, hr => by
    obtain ⟨v, rfl, F, ⟨cs, hc, e⟩, hM⟩ := ras_one hr
    subst e
    exact ⟨F, by simpa [cellsOf, mkV, Ty.agg, Value.cells] using hc, hM⟩
  | .pair a b, x, us, hf, hr => by
    simp only [Ty.flatArrs, Bool.and_eq_true] at hf
    simp only [tyComps, compAVs_append] at hr
    obtain ⟨u1, u2, e, h1, h2⟩ := ras_append hr
    obtain ⟨F1, r1, n1⟩ := ras_ty a hf.1 h1
    obtain ⟨F2, r2, n2⟩ := ras_ty b hf.2 h2
    exact ⟨F1 ++ F2, ⟨_, _, F1, F2, by rw [e]; simp [cellsOf], rfl, r1, r2⟩, fun y hy => by
      rcases List.mem_append.1 hy with h | h
      · exact n1 y h
      · exact n2 y h⟩
  | .unit, _, us, _, hr => by
    have : us = [] := hr
    subst this
    exact ⟨[], ⟨rfl, rfl⟩, by simp⟩
  | .int k, x, us, _, hr => by
    obtain ⟨v, rfl, e⟩ := ras_one hr
    simp only [RA] at e
    subst e
    exact ⟨[], ⟨rfl, rfl⟩, by simp⟩
  | .bool, x, us, _, hr => by
    obtain ⟨v, rfl, e⟩ := ras_one hr
    simp only [RA] at e
    subst e
    exact ⟨[], ⟨rfl, rfl⟩, by simp⟩
  | .str, x, us, _, hr => by
    obtain ⟨v, rfl, e⟩ := ras_one hr
    simp only [RA] at e
    subst e
    exact ⟨[], ⟨rfl, rfl⟩, by simp⟩
  | .slice t, x, us, _, hr => by
    obtain ⟨v, rfl, hv⟩ := ras_one hr
    have h1 := one_cells (x := .v (.slice t) x) hv rfl
    obtain ⟨F, ⟨cs, hc, e⟩, hM⟩ := hv
    obtain ⟨u, rfl⟩ := one_cell (t := .slice t) rfl hc
    obtain rfl : v = u := e
    exact ⟨F, by simpa [cellsOf, h1] using hc, hM⟩
section
variable {P : Program} {Γ : Ctx} {n : Sz} {fr : Fr} {H H' : Hp} {dst : Option Nat} {ty : TypeId} {pos : String} {aft : Array Edge} {g : Option (Nat × Bool)}
/-- a struct with own parts, as plain data -/
theorem ad_st {σ : Nat → Nat} {τ : Ty} {y : τ.D} {xs : List AV} (ha : τ.agg = true) (hf : τ.flatArrs = true) (h : Ads H H' σ xs (compAVs (tyComps τ y))) : Ad H H' σ (.st xs) (.v τ y) := fun ρ hh ℓ hk hm hd v hx => by
  obtain ⟨vs, e, h1⟩ := hx
  obtain ⟨F, hF, hM⟩ := ras_ty τ hf (ads_ok hk hm hd h h1)
  exact ⟨F, ⟨_, hF, by rw [e]; simp [mkV, ha]⟩, hM⟩
/-- a whole own variable, or a part of it -/
theorem r_load_st {T : TypeId} {x : Operand} {id off : Nat} {xs : List AV} {cs : List Comp} {m : Nat} (pre mid post : List Comp) (ha : ∀ w, (isAgg T).run P w = .ok true w) (hs : ∀ w, (sizeOf T).run P w = .ok m w) (hm : compsSz mid = m) (hf : flatComps mid = true)
    (hx : evO fr x = some (.ref id off)) (hg : hget H id = some (.var cs)) (hc : cs = pre ++ (mid ++ post)) (ho : compsSz pre = off) (hxs : compAVs mid = xs) :
    Reads P ⟨dst, .load T x, ty, pos, aft, g⟩ fr H (.st xs) := fun Γ n' ρ w a s => by
  obtain ⟨b, k, hρ, e⟩ := s.ev hx
  obtain ⟨ℓ, hL, _⟩ := s.heap
  obtain ⟨b', k', c, T', F, hρ', hb, hcs, _⟩ := hL.get hg
  rw [hρ] at hρ'
  obtain ⟨rfl, rfl⟩ : b = b' ∧ k = k' := by simpa using hρ'
  subst hc; subst hxs
  obtain ⟨v1, v2, F1, F2, ev, _, h1, h2⟩ := RComps.split hcs
  obtain ⟨v3, v4, F3, F4, ev2, _, h3, h4⟩ := RComps.split h2
  obtain ⟨us, hR, hU, _⟩ := comps_st hf h3
  have hl := h1.len
  rw [ho] at hl
  have hl3 := h3.len
  refine ⟨.agg v3.toArray, ⟨us, by rw [hU], hR⟩, fun w' hk => ?_⟩
  have hload : (loadVar T ⟨b, off, none⟩).run P w' = .ok (.agg v3.toArray) w' := by
    unfold loadVar
    rw [Sem.run_bind, ha w']
    simp only [Result.andThen_ok, if_true, Sem.run_bind, hs]
    have hcs : (loadCells ⟨b, off, none⟩ m).run P w' = .ok v3.toArray w' := by
      rw [← hl, show m = v3.length by rw [hl3, hm]]
      have := run_loadVar_at (P := P) (t := .arr v3.length .bool) (E := T) (w := w') (pre := v1) (mid := v3) (post := v4) (kept_get hk hb) (by rw [ev, ev2]) (by simp [Ty.sz]) (by simp [Ty.agg]) ha (by simpa [Ty.sz, hl3, hm] using hs)
      unfold loadVar at this
      rw [Sem.run_bind, ha w'] at this
      simp only [Result.andThen_ok, if_true, Sem.run_bind, hs] at this
      rw [show m = v3.length by rw [hl3, hm]] at this
      cases hh : (loadCells ⟨b, v1.length, none⟩ v3.length).run P w' with
      | ok u w2 =>
        rw [hh] at this
        simpa [mkV, Ty.agg] using this
      | halt q w2 => rw [hh] at this; simp at this
    rw [hcs]
    simp
  simp only [execOp, e, Instr.loadAt, Instr.sureAddr, Sem.run_bind, Sem.run_pure, Result.andThen_ok, hload]
/-! ### Zero values, literals -/
def zC : Ty → List Comp
  | .bool => [.cell (.bool false)]
  | .int k => [.cell (.int k 0)]
  | .str => [.cell (.str .empty)]
  | .slice _ => [.cell .nilsl]
  | .arr n t => [.arr t n (List.replicate n t.dflt)]
  | .pair a b => zC a ++ zC b
  | .unit => []
theorem zC_ok (ρ : Rho) (h : Hf) (M : Nat → Prop) : ∀ (t : Ty), RComps ρ h M (zC t) (zc t) []
  | .bool => ⟨_, _, rfl, rfl, rfl, rfl, rfl⟩
  | .int _ => ⟨_, _, rfl, rfl, rfl, rfl, rfl⟩
  | .str => ⟨_, _, rfl, rfl, rfl, rfl, rfl⟩
  | .slice _ => ⟨_, _, rfl, rfl, rfl, rfl, rfl⟩
  | .arr n t => ⟨zc (.arr n t), [], [], [], by simp, rfl, zc_ok h (.arr n t), rfl, rfl⟩
  | .pair a b => RComps.append (F := []) (G := []) (zC_ok ρ h M a) (zC_ok ρ h M b)
  | .unit => ⟨rfl, rfl⟩
theorem ra_zero_st {t : Ty} {ρ : Rho} {h : Hf} {M : Nat → Prop} {z : Value} {xs : List AV} (hf : flatComps (zC t) = true) (hxs : compAVs (zC t) = xs) (hz : z = .agg (zc t).toArray) : RA ρ h M (.st xs) z := by
  subst hxs
  obtain ⟨us, h1, h2, _⟩ := comps_st hf (zC_ok ρ h M t)
  exact ⟨us, by rw [hz, h2], h1⟩
def Places (P : Program) : List Field → List (Nat × Nat) → Prop
  | [], [] => True
  | f :: fs, (o, s) :: l => f.offset = o ∧ (∀ w, (sizeOf f.type).run P w = .ok s w) ∧ Places P fs l
  | _, _ => False
theorem places_run : ∀ {fs : List Field} {l : List (Nat × Nat)}, Places P fs l → ∀ w, (fs.mapM fun f => do pure (f.offset, ← sizeOf f.type) : Sem (List (Nat × Nat))).run P w = .ok l w
  | [], [], _, w => rfl
  | f :: fs, (o, s) :: l, h, w => by
    obtain ⟨h1, h2, h3⟩ := h
    have ih := places_run h3 w
    subst h1
    simp only [List.mapM_cons, Sem.run_bind, h2, Result.andThen_ok, Sem.run_pure, ih]
  | [], _ :: _, h, _ => h.elim
  | _ :: _, [], h, _ => h.elim
/-- the parts put in, one after the other -/
def buildC (fr : Fr) : List Comp → List (Nat × Nat) → List (Nat × Operand) → Option (List Comp)
  | cs, _, [] => some cs
  | cs, pl, (i, o) :: l => match pl[i]?, evO fr o with
    | some (off, sz), some y => bif boxable y && Nat.beq (compsSz (toComps y)) sz then (match putAt cs off (toComps y) with
      | some cs' => buildC fr cs' pl l
      | none => none) else none
    | _, _ => none
theorem fill_comps {ρ : Rho} {h : Hf} {M : Nat → Prop} {ev : Operand → Value} (hev : ∀ o y, evO fr o = some y → RA ρ h M y (ev o)) {pl : List (Nat × Nat)} : ∀ {l : List (Nat × Operand)} {cs cs' : List Comp} {A : Array Value}, RComps ρ h M cs A.toList [] → buildC fr cs pl l = some cs' →
    ∃ B : Array Value, Instr.fill (pl.toArray[·]?) A (l.map fun p => (p.1, ev p.2)) = some B ∧ RComps ρ h M cs' B.toList []
  | [], cs, cs', A, hA, hb => by
    simp only [buildC, Option.some.injEq] at hb
    subst hb
    exact ⟨A, rfl, hA⟩
  | (i, o) :: l, cs, cs', A, hA, hb => by
    simp only [buildC] at hb
    split at hb
    · rename_i off sz y hpl hy
      cases hc : boxable y && Nat.beq (compsSz (toComps y)) sz with
      | false => rw [hc] at hb; cases hb
      | true =>
        rw [hc] at hb
        simp only [cond_true] at hb
        simp only [Bool.and_eq_true] at hc
        have hsz := Nat.eq_of_beq_eq_true hc.2
        split at hb
        · rename_i c1 hp
          have hn := ra_comps y (hev o y hy) hc.1
          obtain ⟨hle, F', h1, _, h2⟩ := putAt_ok hA hn hp (fun b _ _ => ⟨rfl, by assumption⟩) (fun _ _ => rfl) List.nodup_nil
          have hF : F' = [] := by
            cases F' with
            | nil => rfl
            | cons b F => exact absurd (h2 b (by simp)) (by simp)
          subst hF
          have hl := hn.len
          have hcsz : (ev o).cells.size = sz := by rw [← hsz, ← hl]; simp
          have hfold := foldl_set off (ev o).cells.toList 0 A (by simpa using hle)
          have hfold' : (ev o).cells.zipIdx.foldl (fun (A : Array Value) (p : Value × Nat) => A.setIfInBounds (off + p.2) p.1) A = (A.toList.take off ++ (ev o).cells.toList ++ A.toList.drop (off + (ev o).cells.toList.length)).toArray := by
            rw [← Array.foldl_toList, Array.toList_zipIdx, hfold]; simp
          obtain ⟨B, h3, h4⟩ := fill_comps hev (l := l) (A := (A.toList.take off ++ (ev o).cells.toList ++ A.toList.drop (off + (ev o).cells.toList.length)).toArray) (by simpa using h1) hb
          refine ⟨B, ?_, h4⟩
          simp only [List.map_cons, Instr.fill, List.getElem?_toArray, hpl]
          have hno : ¬ ((ev o).cells.size ≠ sz ∨ off + (ev o).cells.size > A.size) := by
            rw [hcsz]
            have : (ev o).cells.toList.length = sz := by simpa using hcsz
            rw [this] at hle
            simp only [Array.length_toList] at hle
            omega
          rw [if_neg (by simpa using hno)]
          have hfold2 : Array.foldl (fun cs (x : Value × Nat) => match x with | (c, j) => cs.setIfInBounds (off + j) c) A (ev o).cells.zipIdx = (A.toList.take off ++ (ev o).cells.toList ++ A.toList.drop (off + (ev o).cells.toList.length)).toArray := hfold'
          rw [hfold2]
          simpa only [List.getElem?_toArray] using h3
        · cases hb
    · cases hb
/-- a struct literal -/
theorem r_build_st {T : TypeId} {fields : Array Field} {l : List (Nat × Operand)} {z : Value} {cs : List Comp} {xs : List AV} (t : Ty) (pl : List (Nat × Nat)) (ht : P.underlying T = some (.struct fields)) (hz : ∀ w, (zeroValue T).run P w = .ok z w) (hzs : z.cells.toList = zc t)
    (hp : Places P fields.toList pl) (hb : buildC fr (zC t) pl l = some cs) (hf : flatComps cs = true) (hxs : compAVs cs = xs) :
    Reads P ⟨dst, .build T l.toArray, ty, pos, aft, g⟩ fr H (.st xs) := fun Γ n' ρ w a s => by
  subst hxs
  obtain ⟨B, h1, h2⟩ := fill_comps (fr := fr) (ρ := ρ) (h := World.hf w) (M := ownB ρ H) (ev := a.eval) (fun o y h => s.ev h) (A := z.cells) (by rw [hzs]; exact zC_ok _ _ _ t) hb
  obtain ⟨us, h3, h4, _⟩ := comps_st hf h2
  refine ⟨.agg B, ⟨us, by rw [h4], h3⟩, fun w' _ => ?_⟩
  have hm : ∀ w, (fields.mapM fun f => do pure (f.offset, ← sizeOf f.type) : Sem (Array (Nat × Nat))).run P w = .ok pl.toArray w := fun w => by
    have e : fields = fields.toList.toArray := rfl
    rw [e, List.mapM_toArray, map_eq_pure_bind, Sem.run_bind, places_run hp w]
    rfl
  simp only [execOp, Instr.build, Sem.run_bind, hz, run_underlying ht, Result.andThen_ok, hm, List.map_toArray]
  rw [h1]
  simp
/-! ### A nil slice in a variable, as a row of the call's own -/
theorem sub_nil_cell {t : Ty} {i : Nat} (id : Nat) (pre post : List Comp) (hg : hget H i = some (.var (pre ++ .cell .nilsl :: post))) (hid : freshB id fr H = true) (hK : Nat.ble n.K id = true) :
    Sub n fr H fr ((id, .row t ([] : List t.D)) :: hset H i (.var (pre ++ .cell (.os id) :: post))) := fun Γ ρ w a s => by
  have hr := s.replace0 [] (id := id) (B := .row t ([] : List t.D)) (p := none) (w' := w) hid hK rfl rfl rfl rfl (Nat.le_refl _) (fun b hb _ => rfl) (fun b k h => by cases h) (fun ℓ hk hM => ⟨[], ⟨Nat.zero_le _, .inl ⟨upd_same _ _ _, rfl, rfl⟩⟩, by simp, by simp⟩)
  rw [hdel_nil] at hr
  have hne : i ≠ id := fun e => freshB_H hid (e ▸ hids_head (hget_mem hg))
  have hid' : (upd ρ id none) id = none := upd_same _ _ _
  generalize hρ' : upd ρ id none = ρ' at hr hid'
  obtain ⟨ℓ, hk, hb⟩ := hr.heap
  have hkeys : ((id, Blk.row t ([] : List t.D)) :: hset H i (.var (pre ++ .cell (.os id) :: post))).map (·.1) = ((id, Blk.row t ([] : List t.D)) :: H).map (·.1) := by
    simp only [List.map_cons, hset_keys]
  have hMeq : ownB ρ' ((id, Blk.row t ([] : List t.D)) :: hset H i (.var (pre ++ .cell (.os id) :: post))) = ownB ρ' ((id, Blk.row t ([] : List t.D)) :: H) := funext fun b' => propext (own_keys hkeys)
  have hHn : (H.map (·.1)).Nodup := by have := hk.ids; simp only [List.map_cons] at this; exact (List.nodup_cons.1 this).2
  have hmem : ∀ {e}, e ∈ ((id, Blk.row t ([] : List t.D)) :: hset H i (.var (pre ++ .cell (.os id) :: post))) → (e.1 = i ∧ e.2 = .var (pre ++ .cell (.os id) :: post)) ∨ e ∈ ((id, Blk.row t ([] : List t.D)) :: H) := by
    intro e he
    rcases List.mem_cons.1 he with rfl | he
    · exact .inr (by simp)
    · rcases mem_hset hHn he with h | ⟨h1, _⟩
      · exact .inl h
      · exact .inr (List.mem_cons_of_mem _ h1)
  have hold : (i, Blk.var (pre ++ .cell .nilsl :: post)) ∈ ((id, Blk.row t ([] : List t.D)) :: H) := List.mem_cons_of_mem _ (hget_mem hg)
  refine ⟨ρ', hr.defers, hr.size, hr.ext, hr.keep, fun b hb' => hr.own b ((nam_keys hkeys).1 hb'), ⟨ℓ, ⟨?_, ?_, ?_, ?_⟩, ?_⟩, fun t' x hx => ?_⟩
  · intro e he
    rw [hMeq]
    rcases hmem he with ⟨h1, h2⟩ | h
    · obtain ⟨j, B⟩ := e
      simp only at h1 h2; subst h1; subst h2
      obtain ⟨b, k, c, T', F, g1, g2, g3, g4⟩ := hk.blk _ hold
      refine ⟨b, k, c, T', F, g1, g2, ?_, g4⟩
      obtain ⟨v1, v2, F1, F2, e1, e2, r1, r2⟩ := RComps.split g3
      obtain ⟨v, cs', e3, _, r3, r4⟩ := r2
      rw [e1, e2]
      refine RComps.append r1 ⟨v, cs', e3, rfl, .inl ⟨hid', ?_⟩, r4⟩
      simpa only [RA] using r3
    · exact hk.blk e h
  · intro e he
    rcases hmem he with ⟨h1, _⟩ | h
    · rw [h1]; exact hk.nd _ hold
    · exact hk.nd e h
  · intro e he e' he' hne' x hx
    rcases hmem he with ⟨h1, _⟩ | h1 <;> rcases hmem he' with ⟨h3, _⟩ | h3
    · exact absurd (h1.trans h3.symm) hne'
    · rw [h1] at hx; exact hk.dj _ hold e' h3 (fun h => hne' (h1.trans h)) x hx
    · rw [h3]; exact hk.dj e h1 _ hold (fun h => hne' (h.trans h3.symm)) x hx
    · exact hk.dj e h1 e' h3 hne' x hx
  · rw [hkeys]; exact hk.ids
  · intro e he x hx
    rcases hmem he with ⟨h1, _⟩ | h
    · rw [h1] at hx; exact hb _ hold x hx
    · exact hb e h x hx
  · obtain ⟨h1, h2⟩ := hr.fr t' x hx
    exact ⟨h1, by rw [hMeq]; exact h2⟩
end
end Go.GA
end
section
namespace Go.GA
open Go Go.RowKit
section
variable {P : Program} {n : Sz} {fr : Fr} {H : Hp} {dst : Option Nat} {ty : TypeId} {pos : String} {aft : Array Edge} {g : Option (Nat × Bool)}
end
end Go.GA
end
section
namespace Go.GA
open Go Go.RowKit
/-- two strings are the same -/
def eqS (a b : ByteArray) : Bool := a.toList == b.toList
section
variable {P : Program} {n : Sz} {fr : Fr} {H : Hp} {dst : Option Nat} {ty : TypeId} {pos : String} {aft : Array Edge} {g : Option (Nat × Bool)}
/-- a whole array that is not written, as a slice -/
theorem r_slice_c {T E : TypeId} {x : Operand} {m : Nat} {t : Ty} {xs : List t.D} (hu : P.underlying T = some (.array m E)) (hs : ∀ w, (sizeOf E).run P w = .ok t.sz w) (hx : evO fr x = some (.cptr (.arr m t) xs)) (hm : Nat.ble 1 m = true) (hm2 : Nat.ble m 1000000 = true) :
    Reads P ⟨dst, .slice T x none none none, ty, pos, aft, g⟩ fr H (.v (.slice t) xs) := fun Γ n ρ w a s => by
  obtain ⟨b, off, F, c, T', z, pre, mid, post, e, hb, hh, hc, hp, h1, hF⟩ := s.ev hx
  have hm' := Nat.le_of_ble_eq_true hm
  have hm2' := Nat.le_of_ble_eq_true hm2
  have hbd := fun w' => run_bounds (P := P) (ρ := ρ) (h := World.hf w) (M := ownB ρ H) (fr := fr) (isSlice := false) (len := m) (cap := m) (lo := none) (hi := none) (l := 0) (m := (m : Int)) (fun o y h => s.ev h) .none .none (by omega) (by omega) (by omega) (Nat.le_refl _) w'
  simp only [Option.map_none] at hbd
  have hl := h1.1
  refine ⟨.slice (some ⟨b, off, none⟩) m m, ⟨b :: F, ⟨[_], ⟨by rw [hl]; simp only [lim]; omega, .inr ⟨b, off, 0, F, by rw [hl]; rfl, rfl, c, T', z, pre, mid, post, hh, hc, hp, h1.2⟩⟩, rfl⟩, fun y hy => by
    rcases List.mem_cons.1 hy with rfl | hy
    · exact hb
    · exact hF y hy⟩, fun w' _ => ?_⟩
  simp only [execOp, Instr.sliceAt, Sem.run_bind, run_underlying hu, Result.andThen_ok, e, Instr.sureAddr, Sem.run_pure, Option.map_none, hbd, hs]
  have hne : ¬ m = Int.toNat 0 := by simp; omega
  rw [if_neg hne]
  have e1 : (Addr.add ⟨b, off, none⟩ (Int.toNat 0 * t.sz)) = ⟨b, off, none⟩ := by simp [addr_add]
  simp [addr_add]
/-! ### Bytes of a string -/
end
end Go.GA
end
section
namespace Go.GA
open Go Go.RowKit
def nkB (σ : Nat → Nat) : Nat → Bool
  | 0 => true
  | k + 1 => Nat.beq (σ k) k && nkB σ k
theorem nkL {n : Sz} {σ : Nat → Nat} (h : nkB σ n.K = true) : ∀ i, i < n.K → σ i = i := by
  have key : ∀ K, nkB σ K = true → ∀ i, i < K → σ i = i := by
    intro K
    induction K with
    | zero => intro _ i hi; omega
    | succ K ih =>
      intro h i hi
      simp only [nkB, Bool.and_eq_true] at h
      by_cases e : i = K
      · subst e; exact Nat.eq_of_beq_eq_true h.1
      · exact ih h.2 i (by omega)
  exact key n.K h
section
variable {H : Hp}
end
section
variable {P : Program} {n : Sz} {fr : Fr} {H : Hp} {dst : Option Nat} {ty : TypeId} {pos : String} {aft : Array Edge} {g : Option (Nat × Bool)}
end
end Go.GA
end
section
namespace Go.GA
open Go Go.RowKit
section
variable {P : Program} {n : Sz} {fr : Fr} {H : Hp} {dst : Option Nat} {ty : TypeId} {pos : String} {aft : Array Edge} {g : Option (Nat × Bool)}
end
end Go.GA
end
section
namespace Go.GA
open Go Go.RowKit

section
variable {P : Program} {ops : Array Oper} {Q : Exit → Act → World → Prop}
/-- every head that is not of the first ones is waited for by a later one up to m -/
def sink2B (ops : Array Oper) (m : Nat) (l0 : Array Bool) : Bool :=
  (List.range m).all fun i => l0.getD i false || (List.range (m + 1)).any fun j => decide (i < j) && Region.waitsFor .any ops j i

theorem tail_waits2 {n : Nat} {l0 listed : Array Bool} (hs : sink2B ops n l0 = true) (hc : Region.chainB .any ops n = true) (hn : n < ops.size) (inv : HeadInv .any ops n listed)
    (h0 : ∀ i, l0.getD i false = true → listed.getD i false = true) :
    ∀ (d i : Nat), n - i = d → i < n → listed.getD i true = false → ∀ t, n ≤ t → t ∉ Region.ready .any ops listed := by
  intro d
  induction d using Nat.strongRecOn with
  | _ d ih =>
    intro i hd hi hun t ht hr
    obtain ⟨_, ot, hot, hall⟩ := mem_ready.1 hr
    have htlt : t < ops.size := (Array.getElem?_eq_some_iff.1 hot).1
    by_cases htn : t = n
    · subst htn
      have h1 := List.all_eq_true.1 hs i (List.mem_range.2 hi)
      rcases Bool.or_eq_true _ _ ▸ h1 with h1 | h1
      · have := h0 i h1
        rw [getD_both hun] at this; cases this
      obtain ⟨j, hj, hj2⟩ := List.any_eq_true.1 h1
      simp only [Bool.and_eq_true, decide_eq_true_eq] at hj2
      obtain ⟨oj, hoj, e, he, hb, hon⟩ := Region.waitsFor_spec hj2.2
      have hjle : j ≤ t := by have := List.mem_range.1 hj; omega
      by_cases hjt : j = t
      · subst hjt
        have : oj = ot := Option.some.inj (hoj.symm.trans hot)
        subst this
        have h2 := hall e he hb
        rw [hon, getD_both hun] at h2
        cases h2
      · cases hl : listed.getD j false with
        | true =>
          have h2 := inv.closed j oj hoj hl e he hb
          rw [hon, getD_both hun] at h2
          cases h2
        | false =>
          have hjs : j < listed.size := by rw [inv.size]; omega
          exact ih (t - j) (by omega) j rfl (by omega) (getD_in hjs hl) t (Nat.le_refl _) hr
    · have h1 := List.all_eq_true.1 hc t (List.mem_range.2 htlt)
      simp only [Bool.or_eq_true, decide_eq_true_eq] at h1
      rcases h1 with h1 | h1
      · omega
      · obtain ⟨o', ho', e, he, hb, hon⟩ := Region.waitsFor_spec h1
        have : o' = ot := Option.some.inj (ho'.symm.trans hot)
        subst this
        have h2 := hall e he hb
        rw [hon, getD_both (inv.tail (t - 1) (by omega) (by omega))] at h2
        cases h2

theorem wpAny_of_AK2 {m g : Nat} {l0 : Array Bool} {T : Act → World → Prop} (hs : sink2B ops m l0 = true) (hc : Region.chainB .any ops m = true) (hm : m < ops.size)
    (hT : ∀ listed a w, HeadInv .any ops m listed → (∀ j, j < m → listed.getD j false = true) → T a w → wpAny P .any ops Q g listed a w) :
    ∀ {w0 : World} (f : Nat) (listed : Array Bool) (a : Act) (w : World), HeadInv .any ops m listed → (∀ i, l0.getD i false = true → listed.getD i false = true) → wpAK P ops Q m T w0 f listed a w → wpAny P .any ops Q (f + g) listed a w
  | _, 0, listed, a, w, inv, _, h => by
    rw [Nat.zero_add]
    exact hT listed a w inv h.1 (h.2 w (Kept.refl w))
  | _, f + 1, listed, a, w, inv, hl, h => by
    obtain ⟨⟨i0, hi0, him0⟩, hall⟩ := h w (Kept.refl w)
    have e : f + 1 + g = (f + g) + 1 := by omega
    rw [e]
    refine ⟨fun h0 => (by rw [h0] at hi0; cases hi0), fun i hi => ?_⟩
    have him : i < m := by
      rcases Nat.lt_or_ge i m with h' | h'
      · exact h'
      · exact absurd hi (tail_waits2 hs hc hm inv hl _ i0 rfl him0 (mem_ready.1 hi0).1 i h')
    exact wpOp_mono (fun a' w' h3 => wpAny_of_AK2 hs hc hm hT f _ a' w' (inv.set hi him) (fun j hj => getD_set_true (hl j hj)) h3.2) (hall i hi him)
end

section
variable {P : Program} {Γ : Ctx} {n : Sz} {Q : Exit → Act → World → Prop} {fr fr' : Fr} {H H' : Hp} {all : Array Oper} {ty : TypeId} {pos : String} {aft : Array Edge} {op : Op}
def AP (P : Program) (Γ : Ctx) (n : Sz) (all : Array Oper) (Q : Exit → Act → World → Prop) (g : Nat) (listed : Array Bool) (fr : Fr) (H : Hp) : Prop :=
  ∀ ρ w a, SIM Γ n ρ w a fr H → wpAny P .any all Q g listed a w
theorem aw_drawP {id : Nat} {l : List Oper} (N : Nat) (hN : l.toArray.size = N) (hm : P.follows .mixedOrders = true) (h : AP P Γ n l.toArray Q N (Array.replicate N false) fr H) :
    AW P Γ n (.region id l.toArray true) Q fr H := fun ρ w a s => by
  subst hN
  exact wp_region_any hm (h ρ _ a s.drew)
def readyB (all : Array Oper) (listed : Array Bool) (i : Nat) : Bool := (Region.ready .any all listed).contains i && Region.free .any all listed i
theorem ap_move {g : Nat} {listed : Array Bool} (i : Nat) {d t : Nat} {x : AV} (hsel : Region.noSelect all = true) (hQ : ∀ c a w, Q (.panic c) a w → False) (hi : all[i]? = some ⟨some d, .move (.tmp t), ty, pos, aft, none⟩)
    (hn : readyB all listed i = true) (hx : get fr t = some x) (hd : Nat.blt d n.n = true) (h : AP P Γ n all Q g (listed.setIfInBounds i true) ((d, x) :: fr) H) : AP P Γ n all Q (g + 1) listed fr H := fun ρ w a s => by
  simp only [readyB, Bool.and_eq_true] at hn
  have hv := s.ev (o := .tmp t) hx
  refine wpAny_first (v := a.eval (.tmp t)) hi (fun j o cs b ho => Region.noSelect_spec hsel j o cs b ho) (fun c a w hq => (hQ _ _ _ hq).elim) g listed a w (Region.free_spec hi hn.2) (by simpa using hn.1) (.inl ⟨rfl, fun w' => rfl⟩) ?_
  exact h ρ w (a.put (some d) _) (s.put hd hv)
def closedB (ops : Array Oper) (m : Nat) (l0 : Array Bool) : Bool :=
  decide (l0.size = ops.size) && ((List.range ops.size).all fun j => !l0.getD j false || match ops[j]? with
    | some oj => oj.after.all fun e => !Region.binds .any e || l0.getD e.on false
    | none => true) && (List.range ops.size).all fun t => decide (t < m) || !l0.getD t true
theorem closed_inv {ops : Array Oper} {m : Nat} {l0 : Array Bool} (h : closedB ops m l0 = true) : HeadInv .any ops m l0 := by
  simp only [closedB, Bool.and_eq_true, decide_eq_true_eq] at h
  obtain ⟨⟨h1, h2⟩, h3⟩ := h
  refine ⟨h1, fun j oj hj hl e he hb => ?_, fun t ht ht' => ?_⟩
  · have hlt : j < ops.size := (Array.getElem?_eq_some_iff.1 hj).1
    have := List.all_eq_true.1 h2 j (List.mem_range.2 hlt)
    rw [hl, hj] at this
    simp only [Bool.not_true, Bool.false_or] at this
    have := Array.all_eq_true_iff_forall_mem.1 this e he
    rw [hb] at this
    simpa using this
  · have := List.all_eq_true.1 h3 t (List.mem_range.2 ht')
    simp only [Bool.or_eq_true, decide_eq_true_eq, Bool.not_eq_true'] at this
    rcases this with h | h
    · omega
    · exact h
def draw2B (l : List Oper) (m : Nat) (l0 : Array Bool) : Bool :=
  Region.noSelect l.toArray && decide (m < l.length) && sink2B l.toArray m l0 && Region.chainB .any l.toArray m && Region.seqB .any l.toArray (l.length - m) m (canon m l.length) && closedB l.toArray m l0
theorem ap_an {l : List Oper} {g f : Nat} {l0 : Array Bool} (m : Nat) (hB : draw2B l m l0 = true) (hg : g = f + (l.length - m)) (h : AN P Γ n l.toArray Q m (fun a w => wpList P l.toArray Q (l.drop m) a w) f l0 fr H) :
    AP P Γ n l.toArray Q g l0 fr H := fun ρ w a s => by
  simp only [draw2B, Bool.and_eq_true, decide_eq_true_eq] at hB
  obtain ⟨⟨⟨⟨⟨hsel, hn⟩, hs⟩, hc⟩, hseq⟩, hcl⟩ := hB
  rw [hg]
  refine wpAny_of_AK2 (P := P) (Q := Q) (ops := l.toArray) (m := m) (g := l.length - m) hs hc (by simpa using hn) (fun listed a w inv hdone hT => ?_) f l0 a w (closed_inv hcl) (fun _ h => h) (h ρ w a s)
  have hcanon : listed = canon m l.length := by
    apply Array.ext
    · rw [inv.size]; simp [canon]; omega
    · intro i h1 h2
      have hi : i < l.length := by rw [inv.size] at h1; simpa using h1
      by_cases him : i < m
      · have := hdone i him
        simp [h1] at this
        simp [canon, this, him]
      · have := inv.tail i (by omega) (by simpa using hi)
        simp [h1] at this
        simp only [canon, List.getElem_toArray, this]
        rw [List.getElem_append_right (by simp; omega)]
        simp
  rw [hcanon]
  have := wpAny_of_seq (P := P) (ops := l.toArray) (md := .any) (Q' := Q) (l.drop m) m (canon m l.length) a w (fun j => by simp [List.getElem?_drop]) (by simpa using hseq) hT
  simpa using this
end
end Go.GA
end
section
namespace Go.GA
open Go Go.RowKit
section
variable {P : Program} {Γ : Ctx} {n : Sz} {Q : Exit → Act → World → Prop} {fr fr' : Fr} {H H' Hc : Hp} {all : Array Oper} {ops : List Oper} {ty : TypeId} {pos : String} {aft : Array Edge}
theorem ao_callV [LaidS P Γ] {g : Option (Nat × Bool)} {d : Nat} {f : FuncId} {fn : Func} {fo : Operand} {as : List Operand} {tys : Array TypeId} {caps xs ys : List AV} {R : AV → Hp → Prop} (l : List Nat) (base : Nat) (hg : gOK all fr g) (hc : ACallsV P f ys Hc R)
    (hf : P.funcs[f]? = some fn) (hbody : fn.body.isNone = false) (hname : (fn.name == "runtime.NumGoroutine") = false)
    (hfo : evO fr fo = some (.fn f caps)) (hxs : evOs fr as = some xs) (hA : xs ++ caps = AV.renL (sg l base) ys) (hR : SubHR H (sg l base) Hc) (hS : SubH H Hc (sg l base) Hc) (hks : hkeys Hc = List.range l.length) (hl : allLt base l = true) (hln : injB (fun i => i) l = true)
    (hfr : allLt base (Fr.ids fr) = true) (hH : allLt base (Hp.ids H) = true) (hK : Nat.ble n.K base = true) (hd : Nat.blt d n.n = true)
    (h : ∀ r H', R r H' → AO P Γ n all Q ops ((d, r.ren (sg l base)) :: fr) (hdel l H ++ hren (sg l base) H')) :
    AO P Γ n all Q (⟨some d, .call ⟨.value fo, as.toArray, tys⟩, ty, pos, aft, g⟩ :: ops) fr H := fun ρ w a s => by
  obtain ⟨cv, hcv, hcaps⟩ := s.ev hfo
  refine wpList_go (s.wanted hg) fun K hK' => ?_
  unfold Oper.wp
  rw [run_callv rfl hcv hf hbody hname, Oper.upon_enter]
  refine (call_simV hc l base s (evOs_append (evOs_ok (fun o y h => s.ev h) hxs) hcaps) hA hR hS hks hl hln hfr hH hK).mono ?_
  rintro e w' ⟨v, r, H', ρ', rfl, hR, s', hv, _⟩
  exact hK' _ _ (h r H' hR ρ' w' _ (s'.put hd hv))
end
section
variable {P : Program} {Γ : Ctx} {n : Sz} {Q : Exit → Act → World → Prop} {fr fr' : Fr} {H H' : Hp} {all : Array Oper} {ty : TypeId} {pos : String} {aft : Array Edge} {op : Op}
variable {m f base : Nat} {T : Act → World → Prop} {listed : Array Bool}
theorem axo_callV [LaidS P Γ] (i : Nat) (nb : Nat) {g : Option (Nat × Bool)} {d : Nat} {fi : FuncId} {fn : Func} {fo : Operand} {as : List Operand} {tys : Array TypeId} {caps xs ys : List AV} {R : AV → Hp → Prop} (hi : all[i]? = some ⟨some d, .call ⟨.value fo, as.toArray, tys⟩, ty, pos, aft, g⟩) (hg : gOK all fr g) (hc : ACallsV P fi ys [] R)
    (hf : P.funcs[fi]? = some fn) (hbody : fn.body.isNone = false) (hname : (fn.name == "runtime.NumGoroutine") = false)
    (hfo : evO fr fo = some (.fn fi caps)) (hxs : evOs fr as = some xs) (hA : xs ++ caps = AV.renL (sg [] nb) ys)
    (hfr : allLt nb (Fr.ids fr) = true) (hH : allLt nb (Hp.ids H) = true) (hK : Nat.ble n.K nb = true) (hd : Nat.blt d n.n = true)
    (h : ∀ r H', R r H' → AX P Γ n all Q m T base f (listed.setIfInBounds i true) ((d, r.ren (sg [] nb)) :: fr) (hdel [] H ++ hren (sg [] nb) H')) : AXO P Γ n all Q m T base f listed fr H i := fun ρ w a w0 s hk hfn => by
  obtain ⟨cv, hcv, hcaps⟩ := s.ev hfo
  unfold Go.wpOp
  simp only [hi, s.wanted (o := ⟨some d, .call ⟨.value fo, as.toArray, tys⟩, ty, pos, aft, g⟩) hg, if_true]
  refine .inl ?_
  unfold Oper.wp
  rw [run_callv rfl hcv hf hbody hname w, Oper.upon_enter]
  refine (call_simV hc [] nb s (evOs_append (evOs_ok (fun o y h => s.ev h) hxs) hcaps) hA trivial trivial rfl rfl rfl hfr hH hK).mono ?_
  rintro e w' ⟨v, r, H', ρ', rfl, hR, s', hv, hgr⟩
  have ht : takenB base H (hdel [] H ++ hren (sg [] nb) H') = true := by
    refine List.all_eq_true.2 (fun e he => ?_)
    rw [Bool.or_eq_true]
    left
    cases hb : memB e.1 (hkeys (hdel [] H ++ hren (sg [] nb) H')) with
    | true => rfl
    | false =>
      have := memB_false hb
      rw [hkeys_eq, List.map_append, hdel_nil] at this
      exact absurd (List.mem_append_left _ (List.mem_map_of_mem he)) this
  obtain ⟨hk', hf'⟩ := axo_grew hk hfn (hgr rfl) ht
  exact ⟨hk', h r H' hR ρ' w' _ w0 (s'.put hd hv) hk' hf'⟩
/-- the same in a line of operations -/
theorem ao_frz {ops : List Oper} (hfr : SubFr H H' (fun i => i) fr fr') (hH : SubH H H' (fun i => i) H') (hi : injB (fun i => i) (hkeys H') = true) (h : AO P Γ n all Q ops fr' H') : AO P Γ n all Q ops fr H := AO.sub (sub_mk (fun i => i) hfr hH hi (fun _ _ => rfl)) h
end
end Go.GA
end
section
namespace Go.GA
open Go Go.RowKit
section
variable {P : Program} {n : Sz} {fr : Fr} {H : Hp} {dst : Option Nat} {ty : TypeId} {pos : String} {aft : Array Edge} {g : Option (Nat × Bool)}
end
end Go.GA
end
section
namespace Go.GA
open Go Go.RowKit
end Go.GA
end
section
namespace Go.GA
open Go Go.RowKit
/-- an operation that gives x in whatever world -/
def ReadsP (P : Program) (o : Oper) (fr : Fr) (x : AV) : Prop :=
  ∀ (ρ : Rho) (h : Hf) (M : Nat → Prop) (ev : Operand → Value), (∀ o y, evO fr o = some y → RA ρ h M y (ev o)) → ∃ v, RA ρ h M x v ∧ ∀ w', (execOp ev o).run P w' = .ok (.value v) w'
section
variable {P : Program} {Γ : Ctx} {n : Sz} {Q : Exit → Act → World → Prop} {fr fr' : Fr} {H H' : Hp} {dst : Option Nat} {ty : TypeId} {pos : String} {aft : Array Edge} {g : Option (Nat × Bool)} {all : Array Oper}
variable {xT yT : TypeId} {x y : Operand} {a b : Int} {k : IntKind}
theorem rp_move {x : Operand} {y : AV} (hx : evO fr x = some y) : ReadsP P ⟨dst, .move x, ty, pos, aft, g⟩ fr y :=
  fun ρ h M ev hev => ⟨ev x, hev x y hx, fun _ => rfl⟩
theorem rp_assign {x : Operand} {y : AV} (hx : evO fr x = some y) : ReadsP P ⟨dst, .assign x, ty, pos, aft, g⟩ fr y :=
  fun ρ h M ev hev => ⟨ev x, hev x y hx, fun _ => rfl⟩
theorem rp_eql {xT yT : TypeId} {x y : Operand} {k : IntKind} {a b : Int} (hx : evO fr x = some (.int k a)) (hy : evO fr y = some (.int k b)) :
    ReadsP P ⟨dst, .binOp .eql xT x y yT, ty, pos, aft, g⟩ fr (.bool (decide (a = b))) :=
  fun ρ h M ev hev => ⟨_, rfl, fun w' => run_int (hev x _ hx) (hev y _ hy) rfl (fun w' => by simp [Op.intCmp, go_sem, bne, BEq.beq]) w'⟩
theorem rp_add {xT yT : TypeId} {x y : Operand} {k : IntKind} {a b : Int} (hx : evO fr x = some (.int k a)) (hy : evO fr y = some (.int k b)) :
    ReadsP P ⟨dst, .binOp .add xT x y yT, ty, pos, aft, g⟩ fr (.int k (k.wrap (a + b))) :=
  fun ρ h M ev hev => ⟨_, rfl, fun w' => run_int (hev x _ hx) (hev y _ hy) rfl (fun w' => rfl) w'⟩
theorem rp_andB {c x : Operand} {a b : Bool} (hc : evO fr c = some (.bool a)) (hx : evO fr x = some (.gd a (.bool b))) :
    ReadsP P ⟨dst, .pick c x (.const (.bool false)), ty, pos, aft, g⟩ fr (.bool (a && b)) :=
  fun ρ h M ev hev => ⟨_, rfl, fun w' => by
    have h1 := hev c _ hc; have h2 := hev x _ hx; have h3 := hev (.const (.bool false)) (.bool false) rfl
    simp only [RA] at h1 h2 h3
    cases a <;> simp_all [execOp, go_sem, asBool]⟩
theorem rp_extract {x : Operand} {xs : List AV} {i : Nat} {y : AV} (hx : evO fr x = some (.tup xs)) (hn : nthAV xs i = some y) :
    ReadsP P ⟨dst, .extract x i, ty, pos, aft, g⟩ fr y := fun ρ h M ev hev => by
  obtain ⟨vs, e, h1⟩ := hev _ _ hx
  obtain ⟨v, hv, h2⟩ := ras_nth h1 hn
  refine ⟨v, h2, fun w' => ?_⟩
  simp [execOp, Instr.extract, e, hv]
end
end Go.GA
end
section
namespace Go.GA
open Go Go.RowKit
section
variable {P : Program} {Γ : Ctx} {n : Sz} {Q : Exit → Act → World → Prop} {fr fr' : Fr} {H H' : Hp} {all : Array Oper} {ty : TypeId} {pos : String} {aft : Array Edge} {op : Op}
theorem wp_then {o : Oper} {K : Act → World → Prop} {a : Act} {w : World} (h : o.wp P a w K (Exit.then K Q)) : o.wp P a w K Q := by
  unfold Oper.wp at *
  generalize (execOp a.eval o).run P w = r at *
  cases r with
  | ok nx w' =>
    cases nx <;> simp only [Oper.upon] at h ⊢ <;> first
      | exact h
      | exact Calls.mono h (fun e w'' he => by cases e <;> first | exact he | (obtain ⟨a1, w1, hq⟩ := he; exact ⟨a1, w1, hq⟩))
  | halt x w' => cases x <;> simp only [Oper.upon] at h ⊢ <;> exact h
theorem wpOp_of_list {i : Nat} {o : Oper} {K : Act → World → Prop} {a : Act} {w : World} (hi : all[i]? = some o) (h : wpList P all (Exit.then K Q) [o] a w) : wpOp P all Q i K a w := by
  unfold wpOp
  simp only [hi]
  unfold wpList at h
  split
  · rename_i hw
    rw [if_pos hw] at h
    rcases h with h | ⟨h1, a1, w1, hq⟩
    · refine .inl ?_
      have : o.wp P a w (wpList P all (Exit.then K Q) []) (Exit.then K Q) := h
      have e : wpList P all (Exit.then K Q) [] = K := rfl
      rw [e] at this
      exact wp_then this
    · exact .inr ⟨h1, a1, w1, hq⟩
  · rename_i hw
    rw [if_neg hw] at h
    exact h
def APO (P : Program) (Γ : Ctx) (n : Sz) (all : Array Oper) (Q : Exit → Act → World → Prop) (g : Nat) (listed : Array Bool) (fr : Fr) (H : Hp) (i : Nat) : Prop :=
  ∀ ρ w a, SIM Γ n ρ w a fr H → wpOp P all Q i (wpAny P .any all Q g (listed.setIfInBounds i true)) a w
def APL (P : Program) (Γ : Ctx) (n : Sz) (all : Array Oper) (Q : Exit → Act → World → Prop) (g : Nat) (listed : Array Bool) (fr : Fr) (H : Hp) : List Nat → Prop
  | [] => True
  | i :: l => APO P Γ n all Q g listed fr H i ∧ APL P Γ n all Q g listed fr H l
variable {g : Nat} {listed : Array Bool}
theorem apl_mem : ∀ {l : List Nat} {i : Nat}, APL P Γ n all Q g listed fr H l → i ∈ l → APO P Γ n all Q g listed fr H i
  | j :: l, i, h, hi => by
    rcases List.mem_cons.1 hi with rfl | hi
    · exact h.1
    · exact apl_mem h.2 hi
/-- the operations that may come next -/
def nextEqB (all : Array Oper) (listed : Array Bool) (l : List Nat) : Bool := (Region.ready .any all listed == l) && !l.isEmpty
theorem ap_all (l : List Nat) (hl : nextEqB all listed l = true) (h : APL P Γ n all Q g listed fr H l) : AP P Γ n all Q (g + 1) listed fr H := fun ρ w a s => by
  simp only [nextEqB, Bool.and_eq_true, beq_iff_eq] at hl
  refine ⟨fun h0 => ?_, fun i hi => apl_mem h (hl.1 ▸ hi) ρ w a s⟩
  rw [hl.1] at h0
  subst h0
  simp at hl
theorem ap_end (hl : (Region.ready .any all listed).isEmpty = true) (h : AQ Γ n (Q .normal) fr H) : AP P Γ n all Q g listed fr H := fun ρ w a s => by
  have h0 : Region.ready .any all listed = [] := by simpa using hl
  cases g with
  | zero => exact ⟨h0, h ρ w a s⟩
  | succ g => exact ⟨fun _ => h ρ w a s, fun i hi => by rw [h0] at hi; cases hi⟩
/-- one operation, as in a line -/
theorem apo_ao {i : Nat} {o : Oper} (hi : all[i]? = some o) (h : AO P Γ n all (Exit.then (wpAny P .any all Q g (listed.setIfInBounds i true)) Q) [o] fr H) : APO P Γ n all Q g listed fr H i := fun ρ w a s => wpOp_of_list hi (h ρ w a s)
theorem ap_in {listed : Array Bool} (h : AP P Γ n all Q g listed fr H) : AQ Γ n (Exit.then (wpAny P .any all Q g listed) Q .normal) fr H := h
/-- what hangs on no memory is done first -/
theorem ap_pure (i : Nat) {d : Nat} {x : AV} {gd : Option (Nat × Bool)} (hsel : Region.noSelect all = true) (hQ : ∀ c a w, Q (.panic c) a w → False) (hi : all[i]? = some ⟨some d, op, ty, pos, aft, gd⟩) (hn : readyB all listed i = true) (hg : gOK all fr gd)
    (hr : ReadsP P ⟨some d, op, ty, pos, aft, gd⟩ fr x) (hd : Nat.blt d n.n = true) (h : AP P Γ n all Q g (listed.setIfInBounds i true) ((d, x) :: fr) H) : AP P Γ n all Q (g + 1) listed fr H := fun ρ w a s => by
  simp only [readyB, Bool.and_eq_true] at hn
  obtain ⟨v, hv, hrun⟩ := hr ρ (World.hf w) (ownB ρ H) a.eval (fun o y h => s.ev h)
  refine wpAny_first (v := v) hi (fun j o cs b ho => Region.noSelect_spec hsel j o cs b ho) (fun c a w hq => (hQ _ _ _ hq).elim) g listed a w (Region.free_spec hi hn.2) (by simpa using hn.1) (.inl ⟨s.wanted (o := ⟨some d, op, ty, pos, aft, gd⟩) hg, hrun⟩) ?_
  exact h ρ w (a.put (some d) v) (s.put hd hv)
theorem ap_pureG (i : Nat) {d j s : Nat} {want gb : Bool} {x : AV} (hsel : Region.noSelect all = true) (hQ : ∀ c a w, Q (.panic c) a w → False) (hi : all[i]? = some ⟨some d, op, ty, pos, aft, some (j, want)⟩) (hn : readyB all listed i = true)
    (hj : (all[j]?).bind (·.dst) = some s) (hg : GV fr s want gb) (hr : gb = true → ReadsP P ⟨some d, op, ty, pos, aft, some (j, want)⟩ fr x) (hd : Nat.blt d n.n = true)
    (h : AP P Γ n all Q g (listed.setIfInBounds i true) ((d, .gd gb x) :: fr) H) : AP P Γ n all Q (g + 1) listed fr H := fun ρ w a sm => by
  simp only [readyB, Bool.and_eq_true] at hn
  have hw := sm.wantedG (o := ⟨some d, op, ty, pos, aft, some (j, want)⟩) rfl hj hg
  have key : ∃ v, RA ρ (World.hf w) (ownB ρ H) (.gd gb x) v ∧ Yields P all ⟨some d, op, ty, pos, aft, some (j, want)⟩ v a := by
    cases hgb : gb with
    | true =>
      obtain ⟨v, hv, hrun⟩ := hr hgb ρ (World.hf w) (ownB ρ H) a.eval (fun o y h => sm.ev h)
      exact ⟨v, by simpa [RA] using hv, .inl ⟨by rw [hw, hgb], hrun⟩⟩
    | false => exact ⟨undef, by simp [RA], .inr ⟨by rw [hw, hgb], rfl⟩⟩
  obtain ⟨v, hv, hy⟩ := key
  refine wpAny_first (v := v) hi (fun j o cs b ho => Region.noSelect_spec hsel j o cs b ho) (fun c a w hq => (hQ _ _ _ hq).elim) g listed a w (Region.free_spec hi hn.2) (by simpa using hn.1) hy ?_
  exact h ρ w (a.put (some d) v) (sm.put hd hv)
/-- the orders all lead to one state -/
theorem ap_to (fr' : Fr) (H' : Hp) (key : AQ Γ n (Q .normal) fr' H') (h : AQ Γ n (Q .normal) fr' H' → AP P Γ n all Q g listed fr H) : AP P Γ n all Q g listed fr H := h key
theorem rp_strip {o : Oper} {x y : AV} (t : Nat) {g : Bool} (ht : get fr t = some (.gd g y)) (hg : g = true) (h : ReadsP P o ((t, y) :: fr) x) : ReadsP P o fr x := fun ρ h' M ev hev => h ρ h' M ev (fun o z hz => by
  cases o with
  | tmp s =>
    by_cases hs : t = s
    · subst hs
      have e : evO ((t, y) :: fr) (.tmp t) = some y := by simp [evO, get]
      rw [e] at hz
      obtain rfl : y = z := Option.some.inj hz
      have := hev (.tmp t) (.gd g y) ht
      subst hg
      simpa [RA] using this
    · have e : evO ((t, y) :: fr) (.tmp s) = evO fr (.tmp s) := by
        show get _ _ = get _ _
        have hb : Nat.beq t s = false := by
          cases h : Nat.beq t s with
          | false => rfl
          | true => exact absurd (Nat.eq_of_beq_eq_true h) hs
        simp [get, hb]
      rw [e] at hz
      exact hev _ _ hz
  | _ => exact hev _ _ hz)
end
end Go.GA
namespace Go.GA
open Go Go.RowKit
section
variable {P : Program} {Γ : Ctx} {n : Sz} {Q : Exit → Act → World → Prop} {fr fr1 : Fr} {H H1 : Hp} {all : Array Oper} {g0 : Nat} {listed0 : Array Bool}
/-- a state that several orders come to -/
theorem ap_let {g : Nat} {listed : Array Bool} (fr' : Fr) (H' : Hp) (h : AP P Γ n all Q g listed fr' H') (k : AP P Γ n all Q g listed fr' H' → AP P Γ n all Q g0 listed0 fr H) : AP P Γ n all Q g0 listed0 fr H := k h
theorem ap_go {g : Nat} {listed listed' : Array Bool} {fr' : Fr} {H' : Hp} (he : listed = listed') (hs : Sub n fr H fr' H') (h : AP P Γ n all Q g listed' fr' H') : AP P Γ n all Q g listed fr H := fun ρ w a s => by
  subst he
  obtain ⟨ρ', s'⟩ := hs Γ ρ w a s
  exact h ρ' w a s'
end
end Go.GA
end
section
namespace Go.GA
open Go Go.RowKit
section
variable {P : Program} {n : Sz} {fr : Fr} {H : Hp} {dst : Option Nat} {ty : TypeId} {pos : String} {aft : Array Edge} {g : Option (Nat × Bool)}
theorem r_load_elem2 {T : TypeId} {x : Operand} {id off i m j z z2 : Nat} {u : Ty} {xs : List (Ty.arr m u).D} {L : List u.D} {e : u.D} (hf : u.flat = true) (ha : ∀ w, (isAgg T).run P w = .ok u.agg w) (hs : ∀ w, (sizeOf T).run P w = .ok u.sz w) (hz : m * u.sz = z) (hz2 : u.sz = z2)
    (hx : evO fr x = some (.elem2 id off z i z2 j)) (hg : elemsAt H id off = some ⟨.arr m u, xs⟩) (hi : i < xs.length) (hL : xs.getD i (Ty.dflt (.arr m u)) = L) (hj : j < m) (he : L.getD j u.dflt = e) :
    Reads P ⟨dst, .load T x, ty, pos, aft, g⟩ fr H (ofTy u e) := fun Γ n ρ w a s => by
  subst hz; subst hz2
  obtain ⟨b, k, hρ, ex⟩ := s.ev hx
  obtain ⟨ℓ, hLk, _⟩ := s.heap
  obtain ⟨c, T', p, mid, q, F, hb, hc, hp, hm, _⟩ := elemsAt_ok hLk hg hρ
  rw [split_at xs i hi (Ty.dflt (.arr m u))] at hm
  obtain ⟨c1, c2, c3, G, em, hc1, hR, hG⟩ := RelL.mid hm (fun x c F h => Rc.len _ h)
  rw [hL] at hR
  have hlt' : (xs.take i).length = i := by rw [List.length_take]; omega
  rw [hlt'] at hc1
  replace hc1 : c1.length = i * (m * u.sz) := by rw [hc1]; rfl
  obtain ⟨hl, hR2⟩ := hR
  have hjl : j < L.length := by omega
  rw [split_at L j hjl u.dflt] at hR2
  obtain ⟨f1, f2, f3, G3, ef, hf1, hRf, _⟩ := RelL.mid hR2 (fun x c F h => Rc.len _ h)
  rw [he] at hRf
  have hlt2 : (L.take j).length = j := by rw [List.length_take]; omega
  rw [hlt2] at hf1
  have hGn := Rc.flat u hf hRf
  subst hGn
  refine ⟨mkV u f2, ra_ofTy hRf (by simp), fun w' hk => ?_⟩
  have := run_loadVar_at (P := P) (t := u) (E := T) (w := w') (b := b) (c := c) (T := T') (z := (0, 0)) (pre := p ++ (c1 ++ f1)) (mid := f2) (post := f3 ++ (c3 ++ q)) (kept_get hk hb) (by rw [hc, em, ef]; simp) (Rc.len u hRf) agg_sz ha hs
  have hoff : (p ++ (c1 ++ f1)).length = off + i * (m * u.sz) + j * u.sz := by rw [List.length_append, List.length_append, hp, hc1, hf1]; omega
  rw [hoff] at this
  simp only [execOp, ex, Instr.loadAt, Instr.sureAddr, Sem.run_bind, Sem.run_pure, Result.andThen_ok, this]
theorem r_load_elem2_int {T : TypeId} {x : Operand} {id off i m j z : Nat} {q : IntKind} {xs : List (List Int)} {L : List Int} {e : Int} (ha : ∀ w, (isAgg T).run P w = .ok false w) (hs : ∀ w, (sizeOf T).run P w = .ok 1 w) (hz : m * 1 = z)
    (hx : evO fr x = some (.elem2 id off z i 1 j)) (hg : elemsAt H id off = some ⟨.arr m (.int q), xs⟩) (hi : i < xs.length) (hL : xs.getD i (List.replicate m 0) = L) (hj : j < m) (he : L.getD j 0 = e) :
    Reads P ⟨dst, .load T x, ty, pos, aft, g⟩ fr H (.int q e) := r_load_elem2 (u := .int q) rfl ha hs hz rfl hx hg hi hL hj he
end
end Go.GA
end
section
namespace Go.GA
open Go Go.RowKit

/-- 'ao' with the frame 'fro' waits; Γi is the context of what runs meanwhile; the blocks X may have been turned -/
structure Susp (Γo : Ctx) (no : Sz) (fro : Fr) (ao : Act) (X : Nat → Prop) (Γi : Ctx) (K B : Nat) : Prop where
  ex : ∃ ρ w H, SIM Γo no ρ w ao fro H ∧ w.heap.size = B ∧
    (∀ i, i < K → Γi.ρ0 i = ρ i) ∧ (∀ b, ρ.N b → Γi.ρ0.N b) ∧ (∀ b, Γi.ρ0.N b → b < B → ρ.N b) ∧ (∀ b, Γi.M0 b → namB ρ H b ∨ B ≤ b) ∧
    (∀ k, k < B → ¬ X k → ¬ namB ρ H k → Γi.W0.heap[k]? = w.heap[k]?) ∧ Γi.W0.os = w.os ∧ Γi.W0.tape = w.tape ∧ Γi.W0.output = w.output
  L0 : ∀ b, Γi.L0 b → Γo.L0 b ∨ Γo.W0.heap.size ≤ b
  ML : ∀ b, Γi.M0 b → Γi.L0 b
  size : B ≤ Γi.W0.heap.size
  X : ∀ k, X k → Γi.ρ0.N k
  ids : ∀ t x, get fro t = some x → ∀ i ∈ x.ids, i < K
  hK : no.K ≤ K

theorem SIM.susp {Γo : Ctx} {no : Sz} {ρ : Rho} {w : World} {ao : Act} {fro : Fr} {H : Hp} (s : SIM Γo no ρ w ao fro H) {K : Nat}
    (X : Nat → Prop) (w1 : World) (N : Nat → Prop) (dl : List Deferred) (ho : w1.os = w.os ∧ w1.tape = w.tape ∧ w1.output = w.output) (hsz : w.heap.size ≤ w1.heap.size) (hb : ∀ k, k < w.heap.size → ¬ X k → w1.heap[k]? = w.heap[k]?)
    (hN1 : ∀ b, ρ.N b → N b) (hN2 : ∀ b, N b → b < w.heap.size → ρ.N b) (hN3 : ∀ b, N b → b < w1.heap.size) (hX : ∀ k, X k → N k) :
    ∃ Γi, Γi.W0 = w1 ∧ Γi.ρ0 = ⟨ρ.f, N⟩ ∧ Γi.dl = dl ∧ (∀ b, Γi.M0 b ↔ namB ρ H b) ∧ (∀ b, Γi.M0 b → Γi.L0 b) ∧ (∀ b, Γi.L0 b → Γo.L0 b ∨ Γo.W0.heap.size ≤ b) ∧
      ((∀ t x, get fro t = some x → ∀ i ∈ x.ids, i < K) → no.K ≤ K → Susp Γo no fro ao X Γi K w.heap.size) ∧
      ∀ (ni : Sz) (a : Act) (fr : Fr), a.tmps.size = ni.n → a.defers = dl → (∀ t x, get fr t = some x → t < ni.n ∧ RA ρ (World.hf w) (ownB ρ H) x (a.tmps.getD t undef)) → SIM Γi ni ⟨ρ.f, N⟩ w1 a fr H := by
  obtain ⟨ℓ, hk, hl⟩ := s.heap
  have hap := s.apart hl
  have hML : ∀ b, namB ρ H b → inL ℓ H b := fun b ⟨e, he, k, hbk⟩ => ⟨e, he, hk.own_mem e he b k hbk⟩
  have hL0 : ∀ b, inL ℓ H b → Γo.L0 b ∨ Γo.W0.heap.size ≤ b := fun b ⟨e, he, hbe⟩ => hl e he b hbe
  refine ⟨{ W0 := w1, M0 := namB ρ H, L0 := inL ℓ H, ρ0 := ⟨ρ.f, N⟩, dl := dl }, rfl, rfl, rfl, fun _ => Iff.rfl, hML, hL0, fun hids hK => ⟨⟨ρ, w, H, s, rfl, fun _ _ => rfl, hN1, hN2, fun b h => .inl h, fun k hk' hx _ => hb k hk' hx, ho⟩, hL0, hML, hsz, hX, hids, hK⟩, ?_⟩
  intro ni a fr h1 h2 h3
  have hnX : ∀ b, ¬ ρ.N b → b < w.heap.size → ¬ X b := fun b hn hlt hx => hn (hN2 b (hX b hx) hlt)
  have hM : ∀ b, ¬ ownB ρ H b → World.hf w b ≠ none → World.hf w1 b = World.hf w b ∧ ¬ ownB ⟨ρ.f, N⟩ H b := fun b hbn hh => by
    have hlt := hf_lt hh
    refine ⟨hb b hlt (hnX b (fun h => hbn (.inr h)) hlt), ?_⟩
    rintro (h | h)
    · exact hbn (.inl h)
    · exact hbn (.inr (hN2 b h hlt))
  refine ⟨⟨h2, rfl, fun b h => ⟨fun ⟨e, he, hbe⟩ => ?_, hN3 b h⟩⟩, h1, Ext.refl _ _, fun _ _ => rfl, fun b h => .inl h, ⟨ℓ, ⟨fun e he => (hk.blk e he).same (fun _ _ => rfl) hM (fun b hbe => ?_), hk.nd, hk.dj, hk.ids⟩, fun e he b h => .inl ⟨e, he, h⟩⟩, fun t x hx => ?_⟩
  · have hlt := hf_lt (hk.there he b hbe)
    exact hap b (hN2 b h hlt) ⟨e, he, hbe⟩
  · have hlt := hf_lt (hk.there he b hbe)
    exact hb b hlt (hnX b (fun h => hap b h ⟨e, he, hbe⟩) hlt)
  · obtain ⟨h4, h5⟩ := h3 t x hx
    exact ⟨h4, h5.same x (fun _ _ => rfl) hM⟩

section
variable {Γo Γi : Ctx} {no ni : Sz} {fro fr : Fr} {ao a : Act} {X : Nat → Prop} {K B : Nat} {ρ : Rho} {w w2 : World} {H : Hp}
/-- a frame that waits goes on waiting while the one that ran waits, too -/
theorem Susp.trans (s : Susp Γo no fro ao X Γi K B) (t : SIM Γi ni ρ w a fr H) (hn : ni.K = K) {Γa : Ctx} {Y : Nat → Prop} (hρ : ∀ i, i < K → Γa.ρ0 i = ρ i) (hNa : Γa.ρ0.N = Γi.ρ0.N) (hM : ∀ b, Γa.M0 b → namB ρ H b) (hML : ∀ b, Γa.M0 b → Γa.L0 b)
    (hL : ∀ b, Γa.L0 b → Γi.L0 b ∨ Γi.W0.heap.size ≤ b) (ho : Γa.W0.os = w.os ∧ Γa.W0.tape = w.tape ∧ Γa.W0.output = w.output) (hsz : w.heap.size ≤ Γa.W0.heap.size) (hb : ∀ k, k < w.heap.size → ¬ Y k → Γa.W0.heap[k]? = w.heap[k]?) (hY : ∀ k, k < B → Y k → X k) :
    Susp Γo no fro ao X Γa K B := by
  obtain ⟨ρs, ws, Hs, ss, eB, e1, e2, e3, e4, e10, e6, e7, e8⟩ := s.ex
  have e9 := s.size
  have hsz1 : Γo.W0.heap.size ≤ ws.heap.size := ss.ext.size
  have hsz2 : Γi.W0.heap.size ≤ w.heap.size := t.ext.size
  refine ⟨⟨ρs, ws, Hs, ss, eB, fun i hi => ((hρ i hi).trans (t.keep i (by omega))).trans (e1 i hi), fun b h => hNa ▸ e2 b h, fun b h => e3 b (hNa ▸ h), fun b h => ?_, fun k hk hx hm => ?_, (ho.1.trans t.ext.os).trans e6, (ho.2.1.trans t.ext.tape).trans e7, (ho.2.2.trans t.ext.output).trans e8⟩, fun b h => ?_, hML, by omega, fun k h => hNa ▸ s.X k h, s.ids, s.hK⟩
  · rcases t.own b (hM b h) with h | h
    · exact e4 b h
    · exact .inr (by omega)
  · refine ((hb k (by omega) (fun hy => hx (hY k hk hy))).trans (t.ext.block k (by omega) (fun h => ?_))).trans (e10 k hk hx hm)
    rcases e4 k h with h | h
    · exact hm h
    · omega
  · rcases hL b h with h | h
    · exact s.L0 b h
    · exact .inr (by omega)
theorem Susp.laid {P : Program} [hL : LaidS P Γo] (s : Susp Γo no fro ao X Γi K B) (hX : ∀ k, X k → ∀ c T z, Γo.W0.heap[k]? ≠ some (.cells c T z)) : LaidS P Γi := ⟨fun g hg => by
  obtain ⟨h1, h2⟩ := hL.laid g hg
  obtain ⟨ρs, ws, Hs, ss, eB, e1, e2, e3, e4, e10, e6, e7, e8⟩ := s.ex
  have hlt := tab_lt hg h1
  have hnX : ¬ X g := fun hx => by
    have h3 := h1
    unfold Lib.TabIs World.var? at h3
    rw [hg] at h3
    simp only [Option.bind_some] at h3
    split at h3
    · rename_i hh; exact hX g hx _ _ _ hh
    · cases h3
  have hn : ¬ namB ρs Hs g := fun h => by
    rcases ss.own g h with h | h
    · exact h2 h
    · omega
  have hlt2 : g < ws.heap.size := Nat.lt_of_lt_of_le hlt ss.ext.size
  exact ⟨tab_same hg ((e10 g (by omega) hnX hn).trans (ss.ext.block g hlt h2)) h1, fun h => by
    rcases e4 g h with h | h
    · exact hn h
    · omega⟩⟩
end
end Go.GA
end
section
namespace Go.GA
open Go Go.RowKit

/-- what is fixed while the loop runs -/
structure Env where
  Γ : Ctx
  n : Sz
  fr : Fr
  a : Act
  l : Nat
  D : Nat
  lp : Loop
  K : Nat
  B : Nat
  Q : Exit → Act → World → Prop
def mark (D : Nat) : Deferred := { target := .collected D, args := #[] }
def Env.nb (E : Env) : Sz := ⟨E.n.n, E.K⟩

/-- a context in which the caller waits; its record -/
structure Running (E : Env) (Γi : Ctx) (r : Loop) : Prop where
  susp : Susp E.Γ E.n E.fr E.a (fun _ => False) Γi E.K E.B
  nl : Γi.ρ0.N E.l
  nD : Γi.ρ0.N E.D
  ne : E.D ≠ E.l
  at_l : Γi.W0.heap[E.l]? = some (.loop r)
  dD : Γi.W0.heap[E.D]? = some (.deferred (some []))
  new : E.B ≤ E.l ∧ E.B ≤ E.D
  base : E.Γ.W0.heap.size ≤ E.B

/-- what was done in between leaves of the context before -/
structure RB (Γ Γ2 : Ctx) (n : Sz) : Prop where
  ext : Ext Γ.M0 Γ.W0 Γ2.W0
  keep : ∀ i, i < n.K → Γ2.ρ0 i = Γ.ρ0 i
  M0 : ∀ b, Γ2.M0 b → Γ.M0 b ∨ Γ.W0.heap.size ≤ b
  L0 : ∀ b, Γ2.L0 b → Γ.L0 b ∨ Γ.W0.heap.size ≤ b
  N : ∀ b, Γ.ρ0.N b → Γ2.ρ0.N b
  dl : Γ2.dl = [] ∨ ∃ D, Γ2.dl = [mark D] ∧ Γ2.W0.heap[D]? = some (.deferred (some [])) ∧ Γ2.ρ0.N D ∧ Γ.W0.heap.size ≤ D ∧ ¬ Γ2.L0 D ∧ ¬ Γ2.M0 D
theorem RB.refl (Γ : Ctx) (n : Sz) (h : Γ.dl = []) : RB Γ Γ n := ⟨Ext.refl _ _, fun _ _ => rfl, fun _ h => .inl h, fun _ h => .inl h, fun _ h => h, .inl h⟩

section
variable {P : Program} {Γ : Ctx} {n : Sz} {Q : Exit → Act → World → Prop} {fr : Fr} {H : Hp}
end
end Go.GA
end
section
namespace Go.GA
open Go Go.RowKit
/-- the fence of a round -/
def WF (ro : Option Nat) : Fence := { Fence.wide with round := ro }
section
variable {P : Program} {ro : Option Nat} {m : Nat}
variable {ops : Array Oper} {Q : Exit → Act → World → Prop}
end
/-- code of a round -/
def AWI (P : Program) (ro : Option Nat) (m : Nat) (Γ : Ctx) (n : Sz) (c : Code) (Q : Exit → Act → World → Prop) (fr : Fr) (H : Hp) : Prop :=
  ∀ ρ w a, SIM Γ n ρ w a fr H → c.wpIn (WF ro) m P Q a w
/-- operations among which stand calls of a loop's body -/
def AOI (P : Program) (m : Nat) (Γ : Ctx) (n : Sz) (all : Array Oper) (Q : Exit → Act → World → Prop) (ops : List Oper) (fr : Fr) (H : Hp) : Prop :=
  ∀ ρ w a, SIM Γ n ρ w a fr H → wpListIn (WF none) m P all Q ops a w
section
variable {P : Program} {ro : Option Nat} {m : Nat} {Γ : Ctx} {n : Sz} {Q : Exit → Act → World → Prop} {fr fr' : Fr} {H H' : Hp}
end
end Go.GA
end
section
namespace Go.GA
open Go Go.RowKit
/-- the loop's record -/
def recOf (fid : FuncId) (tmps : Array Value) (ps : Array Tmp) (assign body : Code) (D : Nat) : Loop := { state := .ready, pending := none, fn := fid, tmps := tmps, params := ps, assign, body, defers := D }
/-- what the environment is made of -/
structure IsEnv (E : Env) (Γ : Ctx) (n : Sz) (fr : Fr) (K : Nat) (Q : Exit → Act → World → Prop) (ps : Array Tmp) (assign body : Code) : Prop where
  size : E.a.tmps.size = n.n
  Γ : E.Γ = Γ
  n : E.n = n
  fr : E.fr = fr
  K : E.K = K
  Q : E.Q = Q
  lp : ∃ fid, E.lp = recOf fid E.a.tmps ps assign body E.D
/-- the iterator waits while a round runs -/
structure Wait (E : Env) (Γi : Ctx) (ni : Sz) (fri : Fr) (ai : Act) (Γx : Ctx) (r : Loop) : Prop where
  susp : ∃ B, Susp Γi ni fri ai (fun k => k = E.l) Γx E.K B
  dl : Γx.dl = []
  at_l : Γx.W0.heap[E.l]? = some (.loop r)

section
variable {P : Program} {Γ Γi Γx : Ctx} {n ni nb : Sz} {Q Q' : Exit → Act → World → Prop} {fr fri frb : Fr} {H : Hp} {E : Env} {K : Nat} {ps : Array Tmp} {assign body : Code} {ai : Act}
end
end Go.GA
end
section
namespace Go.GA
open Go Go.RowKit
section
variable {P : Program} {Γ Γi Γ2 : Ctx} {n ni : Sz} {Q : Exit → Act → World → Prop} {fr fri : Fr} {H : Hp} {E : Env} {K : Nat} {ps : Array Tmp} {assign body : Code} {fn : Func} {R : AV → Hp → Prop}
end
end Go.GA
namespace Go.GA
open Go Go.RowKit
section
variable {P : Program} {Γ : Ctx} {n : Sz} {Q : Exit → Act → World → Prop} {fr fr' : Fr} {H H' : Hp} {E : Env} {K : Nat} {ps : Array Tmp} {assign body : Code} {ro : Option Nat} {m : Nat}
theorem AWI.sub {c : Code} (hs : Sub n fr H fr' H') (h : AWI P ro m Γ n c Q fr' H') : AWI P ro m Γ n c Q fr H := fun ρ w a s => let ⟨ρ', s'⟩ := hs Γ ρ w a s; h ρ' w a s'
theorem AOI.sub {all : Array Oper} {ops : List Oper} (hs : Sub n fr H fr' H') (h : AOI P m Γ n all Q ops fr' H') : AOI P m Γ n all Q ops fr H := fun ρ w a s => let ⟨ρ', s'⟩ := hs Γ ρ w a s; h ρ' w a s'
theorem IsEnv.ready (h : IsEnv E Γ n fr K Q ps assign body) : E.lp.state = .ready := by
  obtain ⟨fid, e⟩ := h.lp
  rw [e]; rfl
end
end Go.GA
end
section
namespace Go.GA
open Go Go.RowKit
section
variable {P : Program} {fr : Fr} {H : Hp} {dst : Option Nat} {ty : TypeId} {pos : String} {aft : Array Edge} {g : Option (Nat × Bool)}
end
end Go.GA
end
section
namespace Go.GA
open Go Go.RowKit
section
variable {P : Program} {n : Sz} {fr : Fr} {H : Hp} {dst : Option Nat} {ty : TypeId} {pos : String} {aft : Array Edge} {g : Option (Nat × Bool)}
end
end Go.GA
end
section
namespace Go.GA
open Go Go.RowKit
theorem info_size {P : Program} {E : TypeId} {n : Nat} (hs : ∀ w, (sizeOf E).run P w = .ok n w) : ∃ i, P.info? E = some i ∧ i.size = n := by
  have h := hs default
  cases hi : P.info? E with
  | none => simp [sizeOf, typeInfo, program, stuck, Sem.run_bind, Sem.run, hi, Result.andThen] at h
  | some i =>
    refine ⟨i, rfl, ?_⟩
    simp [sizeOf, typeInfo, program, stuck, Sem.run_bind, Sem.run, hi, Result.andThen] at h
    exact h
def AV.isPtr : AV → Bool
  | .ref .. => true
  | .elem .. => true
  | .elem2 .. => true
  | .cptr .. => true
  | _ => false
section
variable {P : Program} {fr : Fr} {H : Hp} {dst : Option Nat} {ty : TypeId} {pos : String} {aft : Array Edge} {g : Option (Nat × Bool)}
theorem r_nilCheck {x : Operand} {y : AV} (hx : evO fr x = some y) (hp : y.isPtr = true) : Reads P ⟨dst, .nilCheck x, ty, pos, aft, g⟩ fr H y := fun Γ n ρ w a s => by
  have hv := s.ev hx
  refine ⟨a.eval x, hv, fun w' _ => ?_⟩
  have : ∃ ad, a.eval x = .pointer (some ad) := by
    cases y <;> simp only [AV.isPtr, Bool.false_eq_true] at hp
    all_goals simp only [RA] at hv
    all_goals first
      | (obtain ⟨b, k, _, e⟩ := hv; exact ⟨_, e⟩)
      | (obtain ⟨b, off, F, c, T, z, pre, mid, post, e, _⟩ := hv; exact ⟨_, e⟩)
  obtain ⟨ad, e⟩ := this
  simp [execOp, e, Sem.run_pure]
end
end Go.GA
end
section
namespace Go.GA
open Go Go.RowKit
section
variable {P : Program} {fr : Fr} {H : Hp} {dst : Option Nat} {ty : TypeId} {pos : String} {aft : Array Edge} {g : Option (Nat × Bool)}
end
end Go.GA
end
section
namespace Go.GA
open Go Go.RowKit
section
variable {H : Hp}
end
section
variable {P : Program} {n : Sz} {fr : Fr} {H : Hp} {dst : Option Nat} {ty : TypeId} {pos : String} {aft : Array Edge} {g : Option (Nat × Bool)}
/-- a struct literal, as plain data -/
theorem r_build_stv {T : TypeId} {fields : Array Field} {l : List (Nat × Operand)} {z : Value} {cs : List Comp} (t : Ty) (y : t.D) (pl : List (Nat × Nat)) (ht : P.underlying T = some (.struct fields)) (hz : ∀ w, (zeroValue T).run P w = .ok z w) (hzs : z.cells.toList = zc t)
    (hp : Places P fields.toList pl) (hb : buildC fr (zC t) pl l = some cs) (hf : t.flatArrs = true) (ha : t.agg = true) (hy : cs = tyComps t y) :
    Reads P ⟨dst, .build T l.toArray, ty, pos, aft, g⟩ fr H (.v t y) := fun Γ n' ρ w a s => by
  obtain ⟨B, h1, h2⟩ := fill_comps (fr := fr) (ρ := ρ) (h := World.hf w) (M := ownB ρ H) (ev := a.eval) (fun o y h => s.ev h) (A := z.cells) (by rw [hzs]; exact zC_ok _ _ _ t) hb
  rw [hy] at h2
  obtain ⟨F, h3, h4⟩ := comps_ty t hf h2
  refine ⟨.agg B, ⟨F, ⟨_, h3, by simp [mkV, ha]⟩, h4⟩, fun w' _ => ?_⟩
  have hm : ∀ w, (fields.mapM fun f => do pure (f.offset, ← sizeOf f.type) : Sem (Array (Nat × Nat))).run P w = .ok pl.toArray w := fun w => by
    have e : fields = fields.toList.toArray := rfl
    rw [e, List.mapM_toArray, map_eq_pure_bind, Sem.run_bind, places_run hp w]
    rfl
  simp only [execOp, Instr.build, Sem.run_bind, hz, run_underlying ht, Result.andThen_ok, hm, List.map_toArray]
  rw [h1]
  simp
end
end Go.GA
end
section
namespace Go.GA
open Go Go.RowKit
def eqI (a b : Int) : Bool := decide (a = b)
def eqB (a b : Bool) : Bool := a == b
def eqIs (a b : List Int) : Bool := decide (a = b)
/-- equality of plain data -/
def eqT : (t : Ty) → t.D → t.D → Bool
  | .int _, x, y => eqI x y
  | .bool, x, y => eqB x y
  | .str, x, y => eqS x y
  | .arr _ (.int _), x, y => eqIs x y
  | .pair a b, x, y => eqT a x.1 y.1 && eqT b x.2 y.2
  | .unit, _, _ => true
  | _, _, _ => false
def TEq (P : Program) (n : Nat) (T : TypeId) (t : Ty) : Prop := ∀ (w : World) (d : Nat) (h : Hf) (x y : t.D) (c1 c2 : List Value) (F1 F2 : List Nat), n ≤ d → Rc h t x c1 F1 → Rc h t y c2 F2 → (Op.equalIn d T (mkV t c1) (mkV t c2)).run P w = .ok (eqT t x y) w
section
variable {P : Program}
theorem TEq.mono {n n' : Nat} {T : TypeId} {t : Ty} (hn : Nat.ble n n' = true) (h : TEq P n T t) : TEq P n' T t := fun w d hf x y c1 c2 F1 F2 hd h1 h2 => h w d hf x y c1 c2 F1 F2 (Nat.le_trans (Nat.le_of_ble_eq_true hn) hd) h1 h2
variable {fr : Fr} {H : Hp} {dst : Option Nat} {ty : TypeId} {pos : String} {aft : Array Edge} {g : Option (Nat × Bool)}
end
end Go.GA
end
section
namespace Go.GA
open Go Go.RowKit
section
variable {P : Program} {n : Sz} {fr : Fr} {H : Hp} {dst : Option Nat} {ty : TypeId} {pos : String} {aft : Array Edge} {g : Option (Nat × Bool)}
end
end Go.GA
end
section
namespace Go.GA
open Go Go.RowKit
section
variable {Γ : Ctx} {n : Sz} {fr : Fr} {H : Hp}
theorem row_len_q {Q : Act → World → Prop} (id : Nat) {t : Ty} {xs : List t.D} (m : Int) (hg : hget H id = some (.row t xs)) (hm : (xs.length : Int) = m) (h : m ≤ 9223372036854775807 → AQ Γ n Q fr H) : AQ Γ n Q fr H := fun ρ w a s => by
  have := row_lim s hg
  exact h (by subst hm; simp only [lim] at this; omega) ρ w a s
end
end Go.GA
end
section
namespace Go.GA
open Go Go.RowKit
section
variable {P : Program} {n : Sz} {fr : Fr} {H : Hp} {dst : Option Nat} {ty : TypeId} {pos : String} {aft : Array Edge} {g : Option (Nat × Bool)}
end
end Go.GA
end
section
namespace Go.GA
open Go Go.RowKit
section
variable {P : Program} {fr : Fr} {H : Hp} {dst : Option Nat} {ty : TypeId} {pos : String} {aft : Array Edge} {g : Option (Nat × Bool)}
end
end Go.GA
end
section
namespace Go.GA
open Go Go.RowKit
section
variable {P : Program} {n : Sz} {fr : Fr} {H : Hp} {dst : Option Nat} {ty : TypeId} {pos : String} {aft : Array Edge} {g : Option (Nat × Bool)}
end
end Go.GA
end
section
namespace Go.GA
open Go Go.RowKit
section
variable {P : Program} {n : Sz} {fr : Fr} {H : Hp} {dst : Option Nat} {ty : TypeId} {pos : String} {aft : Array Edge} {g : Option (Nat × Bool)}
/-- a part with three bounds, that is not used -/
theorem r_slice_os3 {T E : TypeId} {x : Operand} {id : Nat} {t : Ty} {xs : List t.D} {lo : Option Operand} {ho mo : Operand} {k k' : IntKind} {l u m : Int} (hu : P.underlying T = some (.slice E)) (hs : ∀ w, (sizeOf E).run P w = .ok t.sz w) (hx : evO fr x = some (.os id)) (hg : hget H id = some (.row t xs))
    (hlo : Lo fr lo l) (hhi : evO fr ho = some (.int k u)) (hmx : evO fr mo = some (.int k' m)) (h0 : 0 ≤ l) (h1 : l ≤ u) (h2 : u ≤ m) (h3 : m ≤ (xs.length : Int)) :
    Reads P ⟨dst, .slice T x lo (some ho) (some mo), ty, pos, aft, g⟩ fr H .junk := fun Γ n ρ w a s => by
  obtain ⟨ℓ, hL, _⟩ := s.heap
  have e1 : ∀ {o : Operand} {k : IntKind} {i : Int}, evO fr o = some (.int k i) → a.eval o = .int k i := fun h => by have := s.ev h; simpa only [RA] using this
  have fin : ∀ (a' : Option Addr) (len cap : Nat), a.eval x = .slice a' len cap → len = xs.length → len ≤ cap → ∃ v, RA ρ (World.hf w) (ownB ρ H) .junk v ∧ ∀ w', Kept w w' → (execOp a.eval ⟨dst, .slice T x lo (some ho) (some mo), ty, pos, aft, g⟩).run P w' = .ok (.value v) w' := by
    intro a' len cap hv hlen hcap
    have hb : ∀ w' : World, (Instr.sliceBounds true len cap (lo.map a.eval) (some (a.eval ho)) (some (a.eval mo))).run P w' = .ok (l.toNat, u.toNat, m.toNat) w' := by
      intro w'
      have a0 : 0 ≤ m ∧ m ≤ (cap : Int) := ⟨by omega, by omega⟩
      have a1 : 0 ≤ u ∧ u ≤ m := ⟨by omega, by omega⟩
      have a2 : max m 0 = m := by omega
      have a3 : max u 0 = u := by omega
      have a4 : 0 ≤ m := by omega
      have a5 : 0 ≤ u := by omega
      unfold Instr.sliceBounds
      cases hlo with
      | none => simp [Instr.sliceBound, e1 hhi, e1 hmx, asIntOf, a0, a1, a2, a3, a4, a5, h2]
      | some hl => simp [Instr.sliceBound, e1 hl, e1 hhi, e1 hmx, asIntOf, a0, a1, a2, a3, a4, a5, h0, h1, h2]
    refine ⟨.slice (if m.toNat = l.toNat then a' else a'.map (·.add (l.toNat * t.sz))) (u.toNat - l.toNat) (m.toNat - l.toNat), trivial, fun w' _ => ?_⟩
    simp only [execOp, Instr.sliceAt, Instr.slice, Sem.run_bind, run_underlying hu, Result.andThen_ok, hv, Option.map_some, hb, hs, Sem.run_pure]
  obtain ⟨hl, ⟨h3, h4, _⟩ | ⟨b, cap, c, T', F, mid, post, h3, h4, h5, h6, h7, h8, h9⟩⟩ := hL.get hg
  · rcases s.ev hx with ⟨_, e⟩ | ⟨b', cap', len, hx', e⟩
    · exact fin _ _ _ e (by rw [h4]; rfl) (Nat.le_refl _)
    · rw [h3] at hx'; cases hx'
  · rcases s.ev hx with ⟨hx', _⟩ | ⟨b', cap', len, hx', e⟩
    · rw [h3] at hx'; cases hx'
    · rw [h3] at hx'
      obtain ⟨rfl, rfl, rfl⟩ : b = b' ∧ cap = cap' ∧ List.length (α := t.D) xs = len := by simpa using hx'
      exact fin _ _ _ e rfl h8
/-- the beginning of a row, with its capacity -/
theorem r_slice_ov {T E : TypeId} {x : Operand} {id : Nat} {t : Ty} {xs : List t.D} {hi : Option Operand} {u : Int} (hu : P.underlying T = some (.slice E)) (hs : ∀ w, (sizeOf E).run P w = .ok t.sz w) (hx : evO fr x = some (.os id)) (hg : hget H id = some (.row t xs))
    (hhi : Hi fr (xs.length : Int) hi u) (h1 : 0 ≤ u) (h2 : u ≤ (xs.length : Int)) :
    Reads P ⟨dst, .slice T x none hi none, ty, pos, aft, g⟩ fr H (.ov id u.toNat) := fun Γ n ρ w a s => by
  obtain ⟨ℓ, hL, _⟩ := s.heap
  have hb := fun (len cap : Nat) (hlen : len = xs.length) (hcap : len ≤ cap) (w' : World) => run_bounds (P := P) (isSlice := true) (len := len) (cap := cap) (l := 0) (m := u) (fun o y h => s.ev h) (Lo.none (fr := fr)) (by subst hlen; exact hhi) (Int.le_refl 0) h1 (by omega) hcap w'
  obtain ⟨hl, ⟨h3, h4, _⟩ | ⟨b, cap, c, T', F, mid, post, h3, h4, h5, h6, h7, h8, h9⟩⟩ := hL.get hg
  · rcases s.ev hx with ⟨_, e⟩ | ⟨b', cap', len, hx', e⟩
    · have hx0 : xs.length = 0 := by rw [h4]; rfl
      have hu0 : u = 0 := by omega
      subst hu0
      refine ⟨.slice none 0 0, .inl ⟨rfl, h3, rfl⟩, fun w' _ => ?_⟩
      have hb' : (Instr.sliceBounds true 0 0 none (Option.map a.eval hi) none).run P w' = .ok (0, 0, 0) w' := hb 0 0 hx0.symm (Nat.le_refl _) w'
      simp only [execOp, Instr.sliceAt, Instr.slice, Sem.run_bind, run_underlying hu, Result.andThen_ok, e, Option.map_none, hb', hs, Sem.run_pure]
      simp
    · rw [h3] at hx'; cases hx'
  · rcases s.ev hx with ⟨hx', _⟩ | ⟨b', cap', len, hx', e⟩
    · rw [h3] at hx'; cases hx'
    · rw [h3] at hx'
      obtain ⟨rfl, rfl, rfl⟩ : b = b' ∧ cap = cap' ∧ List.length (α := t.D) xs = len := by simpa using hx'
      refine ⟨.slice (some ⟨b, 0, none⟩) u.toNat cap, .inr ⟨b, cap, _, h3, rfl⟩, fun w' _ => ?_⟩
      have hb' : (Instr.sliceBounds true (List.length (α := t.D) xs) cap none (Option.map a.eval hi) none).run P w' = .ok (0, u.toNat, cap) w' := hb _ cap rfl h8 w'
      simp only [execOp, Instr.sliceAt, Instr.slice, Sem.run_bind, run_underlying hu, Result.andThen_ok, e, Option.map_none, hb', hs, Sem.run_pure]
      by_cases hc0 : cap = 0
      · simp [hc0]
      · simp [hc0, addr_add]
theorem r_len_ov {T E : TypeId} {x : Operand} {id m : Nat} (hu : P.underlying T = some (.slice E)) (hx : evO fr x = some (.ov id m)) :
    Reads P ⟨dst, .call ⟨.builtin .len, #[x], #[T]⟩, ty, pos, aft, g⟩ fr H (.int .i64 (m : Int)) := fun Γ n ρ w a s => by
  rcases s.ev hx with ⟨rfl, _, e⟩ | ⟨b, cap, len, _, e⟩
  · exact ⟨_, rfl, fun w' _ => by simp [execOp, resolve, invoke, Go.builtin, Builtin.len_, e, Sem.run_bind, run_underlying hu, goInt]⟩
  · exact ⟨_, rfl, fun w' _ => by simp [execOp, resolve, invoke, Go.builtin, Builtin.len_, e, Sem.run_bind, run_underlying hu, goInt]⟩
/-- what lies behind it in the row -/
theorem r_slice_ovv {T E : TypeId} {x lo' hi' : Operand} {id m0 : Nat} {t : Ty} {xs : List t.D} {k k' : IntKind} {l u : Int} (hu : P.underlying T = some (.slice E)) (hs : ∀ w, (sizeOf E).run P w = .ok t.sz w) (hx : evO fr x = some (.ov id m0)) (hg : hget H id = some (.row t xs))
    (hlo : evO fr lo' = some (.int k l)) (hhi : evO fr hi' = some (.int k' u)) (h0 : 0 ≤ l) (h1 : l ≤ u) (h2 : u ≤ (xs.length : Int)) :
    Reads P ⟨dst, .slice T x (some lo') (some hi') none, ty, pos, aft, g⟩ fr H (.view id 0 t.sz l.toNat (u - l).toNat) := fun Γ n ρ w a s => by
  obtain ⟨ℓ, hL, _⟩ := s.heap
  have hsub : u.toNat - l.toNat = (u - l).toNat := by omega
  have e1 : ∀ {o : Operand} {k : IntKind} {i : Int}, evO fr o = some (.int k i) → a.eval o = .int k i := fun h => by have := s.ev h; simpa only [RA] using this
  have fin : ∀ (a' : Option Addr) (len cap : Nat), a.eval x = .slice a' len cap → xs.length ≤ cap → (a' = none ∧ cap = 0 ∨ ∃ b, a' = some ⟨b, 0, none⟩ ∧ ∃ k, ρ id = some (b, k)) →
      ∃ v, RA ρ (World.hf w) (ownB ρ H) (.view id 0 t.sz l.toNat (u - l).toNat) v ∧ ∀ w', Kept w w' → (execOp a.eval ⟨dst, .slice T x (some lo') (some hi') none, ty, pos, aft, g⟩).run P w' = .ok (.value v) w' := by
    intro a' len cap hv hcap hor
    have hb : ∀ w' : World, (Instr.sliceBounds true len cap (some (a.eval lo')) (some (a.eval hi')) none).run P w' = .ok (l.toNat, u.toNat, cap) w' := by
      intro w'
      have a0 : 0 ≤ u ∧ u ≤ (cap : Int) := ⟨by omega, by omega⟩
      have a1 : max u 0 = u := by omega
      have a2 : 0 ≤ u := by omega
      unfold Instr.sliceBounds
      simp [Instr.sliceBound, e1 hlo, e1 hhi, asIntOf, a0, a1, a2, h0, h1]
    refine ⟨.slice (if cap = l.toNat then a' else a'.map (·.add (l.toNat * t.sz))) (u.toNat - l.toNat) (cap - l.toNat), ?_, fun w' _ => by
      simp only [execOp, Instr.sliceAt, Instr.slice, Sem.run_bind, run_underlying hu, Result.andThen_ok, hv, Option.map_none, Option.map_some, hb, hs, Sem.run_pure]⟩
    rcases hor with ⟨rfl, h4⟩ | ⟨b, rfl, k, hρ⟩
    · have hz : u.toNat - l.toNat = 0 := by omega
      exact .inl ⟨by omega, _, _, by rw [hz]⟩
    · by_cases hcl : cap = l.toNat
      · have hz : u.toNat - l.toNat = 0 := by omega
        exact .inl ⟨by omega, _, _, by rw [hz]⟩
      · refine .inr ⟨b, k, cap - l.toNat - (u - l).toNat, hρ, ?_⟩
        rw [if_neg hcl, hsub]
        have e9 : cap - l.toNat = (u - l).toNat + (cap - l.toNat - (u - l).toNat) := by omega
        rw [← e9]
        simp [addr_add]
  obtain ⟨hl, ⟨h3, h4, _⟩ | ⟨b, cap, c, T', F, mid, post, h3, h4, h5, h6, h7, h8, h9⟩⟩ := hL.get hg
  · have hx0 : xs.length = 0 := by rw [h4]; rfl
    rcases s.ev hx with ⟨_, _, e⟩ | ⟨b', cap', len, hx', e⟩
    · exact fin _ _ _ e (by omega) (.inl ⟨rfl, rfl⟩)
    · rw [h3] at hx'; cases hx'
  · rcases s.ev hx with ⟨_, hx', _⟩ | ⟨b', cap', len, hx', e⟩
    · rw [h3] at hx'; cases hx'
    · rw [h3] at hx'
      obtain ⟨rfl, rfl, rfl⟩ : b = b' ∧ cap = cap' ∧ List.length (α := t.D) xs = len := by simpa using hx'
      exact fin _ _ _ e h8 (.inr ⟨b, rfl, _, h3⟩)
/-- append that has room -/
theorem run_append_in {T E : TypeId} {i : TypeInfo} (ht : P.underlying T = some (.slice E)) (hi : P.info? E = some i) {x : Value} {m : Nat} {news : List Value} {w : World}
    (hx : ∃ a c, x = .slice a m c) (hnews : ∀ w' : World, w'.heap = w.heap → (Builtin.firstCells i.size m x).run P w' = .ok news.toArray w') (hl : news.length = m * i.size) (h1 : ∀ u ∈ news, u.oneCell' = true) {len cap : Nat} (hroom' : len + m ≤ cap)
    {old post : List Value} {b : Nat} (ho : old.length = len * i.size) {c : Array Value} {T' : TypeId} (hbb : w.heap[b]? = some (.cells c T' (0, 0))) (hc : c.toList = old ++ post) (hcs : c.size = cap * i.size) :
    ∃ c', c'.toList = old ++ news ++ post.drop news.length ∧ c'.size = cap * i.size ∧ (Builtin.append_ #[T, T] ty #[.slice (some ⟨b, 0, none⟩) len cap, x]).run P w = .ok (.slice (some ⟨b, 0, none⟩) (len + m) cap) (w.setRow b c') := by
  obtain ⟨ax, cx, rfl⟩ := hx
  have hcl : c.size = old.length + post.length := by rw [← Array.length_toList, hc]; simp
  have hfit : len * i.size + news.length ≤ c.size := by rw [hl, hcs, ← Nat.add_mul]; exact Nat.mul_le_mul_right _ hroom'
  have hst := run_storeCells_at P b (len * i.size) T' news 0 c w hbb (by simpa using hfit) h1
  simp only [Nat.add_zero] at hst
  have e1 : c.toList.take (len * i.size) = old := by rw [hc, ← ho]; simp
  have e2 : c.toList.drop (len * i.size + news.length) = post.drop news.length := by rw [hc, ← ho, List.drop_length_add_append]
  rw [e1, e2] at hst
  refine ⟨(old ++ news ++ post.drop news.length).toArray, by simp, ?_, ?_⟩
  · simp only [List.size_toArray, List.length_append, List.length_drop]; omega
  · simp [Builtin.append_, run_underlying ht, sizeOf, typeInfo, hi, Builtin.lenOf, hroom', hnews w rfl, Addr.add_lit, hst]
theorem run_append_none {T E : TypeId} {i : TypeInfo} (ht : P.underlying T = some (.slice E)) (hi : P.info? E = some i) {x : Value} {news : List Value} {w : World}
    (hx : ∃ a c, x = .slice a 0 c) (hnews : ∀ w' : World, w'.heap = w.heap → (Builtin.firstCells i.size 0 x).run P w' = .ok news.toArray w') : (Builtin.append_ #[T, T] ty #[.slice none 0 0, x]).run P w = .ok (.slice none 0 0) w := by
  obtain ⟨ax, cx, rfl⟩ := hx
  simp [Builtin.append_, run_underlying ht, sizeOf, typeInfo, hi, Builtin.lenOf, hnews w rfl]
/-- elements behind the beginning, in place -/
theorem e_append_ov {T E : TypeId} {x y : Operand} {i : TypeInfo} {z : Value} {t : Ty} {id m : Nat} {X : AV} {xs ys : List t.D} (id' : Nat) (hf : t.flat = true) (ht : P.underlying T = some (.slice E)) (hi : P.info? E = some i) (hz : i.zero = some z) (hzs : z.cells.size = i.size) (hsz : i.size = t.sz)
    (hby : Nat.ble i.bytes 1000 = true) (hx : evO fr x = some (.ov id m)) (hg : hget H id = some (.row t xs)) (hy : evO fr y = some X) (hs : Src P H t X ys) (hroom : m + ys.length ≤ xs.length) (hroom2 : xs.length ≤ 1000000000) (hid : freshB id' fr H = true) (hK : Nat.ble n.K id' = true) :
    Eff P n ⟨dst, .call ⟨.builtin .append, #[x, y], #[T, T]⟩, ty, pos, aft, g⟩ fr H (.ov id' (m + ys.length)) fr ((id', .row t (xs.take m ++ ys ++ xs.drop (m + ys.length))) :: hdel [id] H) := fun Γ ρ w a s => by
  obtain ⟨ℓ, hk, _⟩ := s.heap
  obtain ⟨news, F, hv, hnl, hnr, hn1, hfc⟩ := hs ρ w ℓ _ hk (s.ev hy)
  have hF : F = [] := RelL.flat (fun x c F h => Rc.flat t hf h) hnr
  subst hF
  have hby' : i.bytes ≤ 1000 := Nat.le_of_ble_eq_true hby
  have hexec : ∀ r w', (Builtin.append_ #[T, T] ty #[a.eval x, a.eval y]).run P w = .ok r w' → (execOp a.eval ⟨dst, .call ⟨.builtin .append, #[x, y], #[T, T]⟩, ty, pos, aft, g⟩).run P w = .ok (.value r) w' := by
    intro r w' h
    simp [execOp, resolve, invoke, Go.builtin, Sem.run_bind, h]
  have hnewlen : (xs.take m ++ ys ++ xs.drop (m + ys.length)).length = xs.length := by
    simp only [List.length_append, List.length_take, List.length_drop]; omega
  have hmemid := hget_mem hg
  obtain ⟨hl, ⟨h3, h4, _⟩ | ⟨b, cap, c, T', F, mid, post, h3, h4, h5, h6, h7, h8, h9⟩⟩ := hk.get hg
  · rcases s.ev hx with ⟨rfl, _, e⟩ | ⟨b', cap', len, hx', e⟩
    · have hx0 : xs.length = 0 := by rw [h4]; rfl
      have hy0 : ys.length = 0 := by omega
      have hrun := run_append_none (P := P) (ty := ty) (T := T) (E := E) (i := i) (x := a.eval y) (news := news) (w := w) ht hi (by rw [hy0] at hv; exact hv) (by rw [hy0] at hfc; rw [hsz]; exact hfc)
      rw [← e] at hrun
      have hnil : xs.take 0 ++ ys ++ xs.drop (0 + ys.length) = [] := List.eq_nil_of_length_eq_zero (by rw [hnewlen]; exact hx0)
      refine ⟨_, _, upd ρ id' none, hexec _ _ hrun, s.replace [id] (p := none) hid hK rfl rfl rfl rfl (Nat.le_refl _) (fun b hb _ => rfl) (fun b k h => by cases h) (fun ℓ' hk' hM => ⟨[], ⟨by rw [hnewlen]; exact hl, .inl ⟨upd_same _ _ _, hnil, rfl⟩⟩, by simp, by simp⟩), .inl ⟨by omega, upd_same _ _ _, e⟩⟩
    · rw [h3] at hx'; cases hx'
  · rcases s.ev hx with ⟨_, hx', _⟩ | ⟨b', cap', len, hx', e⟩
    · rw [h3] at hx'; cases hx'
    · rw [h3] at hx'
      obtain ⟨rfl, rfl, rfl⟩ : b = b' ∧ cap = cap' ∧ List.length (α := t.D) xs = len := by simpa using hx'
      have hF : F = [] := RelL.flat (fun x c F h => Rc.flat t hf h) h6
      subst hF
      obtain ⟨c1, c2, ec, hc1, hr1⟩ := RelL.take (fun x c F h => Rc.len t h) (fun x c F h => Rc.flat t hf h) h6 m (by omega)
      have hml : mid.length = xs.length * t.sz := RelL.len (fun x c F h => Rc.len t h) h6
      have happ := run_append_in (P := P) (ty := ty) (T := T) (E := E) (i := i) (x := a.eval y) (m := ys.length) (news := news) (w := w) ht hi hv (by rw [hsz]; exact hfc) (by rw [hsz]; exact hnl) hn1 (len := m) (cap := cap) (by omega) (old := c1) (post := c2 ++ post) (b := b) (by rw [hsz]; exact hc1) (c := c) (T' := T') h4 (by rw [h5, ec]; simp) (by rw [hsz]; exact h9)
      rw [← e] at happ
      have hcap : m + ys.length ≤ cap := by omega
      obtain ⟨c', hc', hcs', hrun⟩ := happ
      · obtain ⟨f1, f2, f3, f4⟩ := setRow_facts w b c'
        have hc2 : c2.length = (xs.length - m) * t.sz := by
          have : mid.length = c1.length + c2.length := by rw [ec]; simp
          rw [hml, hc1] at this
          rw [Nat.sub_mul]; omega
        have hnl' : news.length ≤ c2.length := by rw [hnl, hc2]; exact Nat.mul_le_mul_right _ (by omega)
        have hdrop : (c2 ++ post).drop news.length = c2.drop news.length ++ post := List.drop_append_of_le_length hnl'
        -- the rest of the row
        have hrest : RelL (Rc (World.hf w) t) (xs.drop (m + ys.length)) (c2.drop news.length) [] := by
          have h6' : RelL (Rc (World.hf w) t) (xs.take (m + ys.length) ++ xs.drop (m + ys.length)) mid [] := by rw [List.take_append_drop]; exact h6
          obtain ⟨d1, d2, G1, G2, ed, eG, r1, r2⟩ := RelL.split h6'
          have hG2 : G2 = [] := RelL.flat (fun x c F h => Rc.flat t hf h) r2
          subst hG2
          have l1 : d1.length = (m + ys.length) * t.sz := by rw [RelL.len (fun x c F h => Rc.len t h) r1, List.length_take, Nat.min_eq_left (by omega)]
          have : c2.drop news.length = d2 := by
            have e9 : c1 ++ c2 = d1 ++ d2 := by rw [← ec, ← ed]
            have e10 : (c1 ++ c2).drop (c1.length + news.length) = c2.drop news.length := by rw [List.drop_length_add_append]
            rw [← e10, e9, hc1, hnl, ← Nat.add_mul, ← l1]; simp
          rw [this]; exact r2
        refine ⟨_, _, upd ρ id' (some (b, cap, (xs.take m ++ ys ++ xs.drop (m + ys.length)).length)), hexec _ _ hrun, s.replace [id] (p := some (b, cap, (xs.take m ++ ys ++ xs.drop (m + ys.length)).length)) hid hK rfl f1 f2 f3 (by rw [f4]; exact Nat.le_refl _) (fun k hk' hne => setRow_other w b k c' (fun e => by subst e; exact hne _ hmemid (by simp) _ h3)) (fun b' k h => by
            simp only [Option.some.injEq, Prod.mk.injEq] at h
            exact .inl ⟨_, hmemid, by simp, _, by rw [← h.1]; exact h3⟩) (fun ℓ' hk' hM => ?_), .inr ⟨b, cap, _, upd_same _ _ _, rfl⟩⟩
        have same : ∀ {h' : Hf} {zs : List t.D} {cs}, RelL (Rc (World.hf w) t) zs cs [] → RelL (Rc h' t) zs cs [] := fun ho => RelL.mono (fun x c F' hF hc => by have := Rc.flat t hf hc; subst this; exact hc.same t (by simp)) ho
        refine ⟨[b], ⟨by rw [hnewlen]; exact hl, .inr ⟨b, cap, c', T', [], c1 ++ news ++ c2.drop news.length, post, upd_same _ _ _, setRow_heap w b c c' T' (0, 0) h4, by rw [hc', hdrop]; simp, RelL.append (F := []) (G := []) (RelL.append (F := []) (G := []) (same hr1) (same hnr)) (same hrest), rfl, by rw [hnewlen]; exact h8, by rw [← hsz]; exact hcs'⟩⟩, by simp, fun x hx' => ?_⟩
        simp only [List.mem_singleton] at hx'
        subst hx'
        exact .inl ⟨_, hmemid, by simp, own_head hk' hmemid h3⟩
theorem e_append_ovM {T E : TypeId} {x y : Operand} {i : TypeInfo} {z : Value} {t : Ty} {id m : Nat} {X : AV} {xs ys : List t.D} (id' M : Nat) (hf : t.flat = true) (ht : P.underlying T = some (.slice E)) (hi : P.info? E = some i) (hz : i.zero = some z) (hzs : z.cells.size = i.size) (hsz : i.size = t.sz)
    (hby : Nat.ble i.bytes 1000 = true) (hx : evO fr x = some (.ov id m)) (hg : hget H id = some (.row t xs)) (hy : evO fr y = some X) (hs : Src P H t X ys) (hM : m + ys.length = M) (hroom : M ≤ xs.length) (hroom2 : (xs.length : Int) ≤ 1000000000) (hid : freshB id' fr H = true) (hK : Nat.ble n.K id' = true) :
    Eff P n ⟨dst, .call ⟨.builtin .append, #[x, y], #[T, T]⟩, ty, pos, aft, g⟩ fr H (.ov id' M) fr ((id', .row t (xs.take m ++ ys ++ xs.drop M)) :: hdel [id] H) := by
  subst hM
  exact e_append_ov id' hf ht hi hz hzs hsz hby hx hg hy hs hroom (by omega) hid hK
/-- the beginning becomes a row of its own -/
theorem sub_ov {T m id : Nat} {t : Ty} {xs : List t.D} (id' : Nat) (hf : t.flat = true) (hT : get fr T = some (.ov id m)) (hg : hget H id = some (.row t xs)) (hm : m ≤ xs.length) (hid : freshB id' fr H = true) (hK : Nat.ble n.K id' = true) : Sub n fr H ((T, .os id') :: fr) ((id', .row t (xs.take m)) :: hdel [id] H) := fun Γ ρ w a s => by
  have h1 := s.fr T _ hT
  obtain ⟨ℓ, hL, _⟩ := s.heap
  have hlt : (xs.take m).length = m := by rw [List.length_take]; omega
  have hmem := hget_mem hg
  have key : ∃ p : Option (Nat × Nat × Nat), SIM Γ n (upd ρ id' p) w a fr ((id', .row t (xs.take m)) :: hdel [id] H) ∧ ((p = none ∧ a.tmps.getD T undef = .slice none 0 0) ∨ ∃ b cap len, p = some (b, cap, len) ∧ a.tmps.getD T undef = .slice (some ⟨b, 0, none⟩) len cap) := by
    obtain ⟨hl, ⟨h3, h4, _⟩ | ⟨b, cap, c, T', F, mid, post, h3, h4, h5, h6, h7, h8, h9⟩⟩ := hL.get hg
    · rcases h1.2 with ⟨hm0, _, e⟩ | ⟨b', cap', len, hx', e⟩
      · have hnil : xs.take m = [] := List.eq_nil_of_length_eq_zero (by rw [hlt]; exact hm0)
        exact ⟨none, s.replace0 [id] (p := none) hid hK rfl rfl rfl rfl (Nat.le_refl _) (fun b hb _ => rfl) (fun b k h => by cases h) (fun ℓ' hk' hM => ⟨[], ⟨by rw [hlt]; omega, .inl ⟨upd_same _ _ _, hnil, rfl⟩⟩, by simp, by simp⟩), .inl ⟨rfl, e⟩⟩
      · rw [h3] at hx'; cases hx'
    · rcases h1.2 with ⟨_, hx', _⟩ | ⟨b', cap', len, hx', e⟩
      · rw [h3] at hx'; cases hx'
      · rw [h3] at hx'
        obtain ⟨rfl, rfl, rfl⟩ : b = b' ∧ cap = cap' ∧ List.length (α := t.D) xs = len := by simpa using hx'
        have hF : F = [] := RelL.flat (fun x c F h => Rc.flat t hf h) h6
        subst hF
        obtain ⟨c1, c2, ec, hc1, hr1⟩ := RelL.take (fun x c F h => Rc.len t h) (fun x c F h => Rc.flat t hf h) h6 m hm
        refine ⟨some (b, cap, m), s.replace0 [id] (p := some (b, cap, m)) hid hK rfl rfl rfl rfl (Nat.le_refl _) (fun b hb _ => rfl) (fun b' k h => by
          simp only [Option.some.injEq, Prod.mk.injEq] at h
          exact .inl ⟨_, hmem, by simp, _, by rw [← h.1]; exact h3⟩) (fun ℓ' hk' hM => ⟨[b], ⟨by rw [hlt]; omega, .inr ⟨b, cap, c, T', [], c1, c2 ++ post, by rw [upd_same, hlt], h4, by rw [h5, ec]; simp, hr1, rfl, by rw [hlt]; omega, h9⟩⟩, by simp, fun y hy => ?_⟩), .inr ⟨b, cap, m, rfl, e⟩⟩
        simp only [List.mem_singleton] at hy
        subst hy
        exact .inl ⟨_, hmem, by simp, own_head hk' hmem h3⟩
  obtain ⟨p, this, hp⟩ := key
  refine ⟨_, this.defers, this.size, this.ext, this.keep, this.own, this.heap, fun t' x hx => ?_⟩
  simp only [get] at hx
  cases e : Nat.beq T t' with
  | true =>
    have := Nat.eq_of_beq_eq_true e
    subst this
    rw [e] at hx
    simp only [cond_true, Option.some.injEq] at hx
    subst hx
    refine ⟨h1.1, ?_⟩
    rcases hp with ⟨rfl, e2⟩ | ⟨b, cap, len, rfl, e2⟩
    · exact .inl ⟨upd_same _ _ _, e2⟩
    · exact .inr ⟨b, cap, len, upd_same _ _ _, e2⟩
  | false => rw [e] at hx; exact this.fr t' x hx
end
end Go.GA
end
section
namespace Go.GA
open Go Go.RowKit
section
variable {P : Program} {n : Sz} {fr : Fr} {H : Hp} {dst : Option Nat} {ty : TypeId} {pos : String} {aft : Array Edge} {g : Option (Nat × Bool)}
theorem rp_fieldAddr {S : TypeId} {x : Operand} {id off k o : Nat} {fs : Array Field} {fd : Field} {s' : Nat} (hu : P.underlying S = some (.struct fs)) (hf : fs[k]? = some fd) (hs : ∀ w, (sizeOf fd.type).run P w = .ok s' w) (hs0 : Nat.beq s' 0 = false)
    (hx : evO fr x = some (.ref id off)) (ho : off + fd.offset = o) : ReadsP P ⟨dst, .fieldAddr S x k, ty, pos, aft, g⟩ fr (.ref id o) := fun ρ h M ev hev => by
  obtain ⟨b, kk, hρ, e⟩ := hev _ _ hx
  subst ho
  have hne : s' ≠ 0 := Nat.ne_of_beq_eq_false hs0
  refine ⟨_, ⟨b, kk, hρ, rfl⟩, fun w' => ?_⟩
  simp [execOp, Instr.fieldAt, e, Sem.run_bind, run_underlying hu, hf, Instr.sureAddr, fieldPlace, hs, hne, addr_add]
theorem rp_nilCheck {x : Operand} {y : AV} (hx : evO fr x = some y) (hp : y.isPtr = true) : ReadsP P ⟨dst, .nilCheck x, ty, pos, aft, g⟩ fr y := fun ρ h M ev hev => by
  have hv := hev _ _ hx
  refine ⟨ev x, hv, fun w' => ?_⟩
  have : ∃ ad, ev x = .pointer (some ad) := by
    cases y <;> simp only [AV.isPtr, Bool.false_eq_true] at hp
    all_goals simp only [RA] at hv
    all_goals first
      | (obtain ⟨b, k, _, e⟩ := hv; exact ⟨_, e⟩)
      | (obtain ⟨b, off, F, c, T, z, pre, mid, post, e, _⟩ := hv; exact ⟨_, e⟩)
  obtain ⟨ad, e⟩ := this
  simp [execOp, e]
/-! ### A state seen under other names -/
def oneC : List Comp → Bool
  | [] => true
  | .cell a :: cs => a.one && oneC cs
  | .arr .. :: cs => oneC cs
def oneH : Hp → Bool
  | [] => true
  | (_, .var cs) :: H => oneC cs && oneH H
  | (_, .row ..) :: H => oneH H
  | (_, .brow ..) :: H => oneH H
theorem subFr_rr {H H' : Hp} {σ : Nat → Nat} {fr : Fr} : ∀ {fr' : Fr}, fr'.map (fun e => get fr e.1) = fr'.map (fun e => some (e.2.ren σ)) → SubFr H H' σ fr fr'
  | [], _ => trivial
  | (t, y) :: l, h => by
    simp only [List.map_cons, List.cons.injEq] at h
    exact ⟨⟨_, h.1, ad_ren rfl⟩, subFr_rr h.2⟩
theorem adC_rr {H H' : Hp} {σ : Nat → Nat} : ∀ {cs : List Comp}, oneC cs = true → AdC H H' σ (compsRen σ cs) cs
  | [], _ => trivial
  | .cell a :: cs, h => by
    simp only [oneC, Bool.and_eq_true] at h
    exact ⟨ad_ren rfl, h.1, adC_rr h.2⟩
  | .arr t n xs :: cs, h => ⟨rfl, adC_rr (cs := cs) h⟩
theorem subH_rr {H H'' : Hp} {σ : Nat → Nat} : ∀ {H' : Hp}, H'.map (fun e => hget H (σ e.1)) = H'.map (fun e => some (e.2.ren σ)) → oneH H' = true → SubH H H'' σ H'
  | [], _, _ => trivial
  | (i, .var cs) :: l, h, ho => by
    simp only [List.map_cons, List.cons.injEq] at h
    simp only [oneH, Bool.and_eq_true] at ho
    exact ⟨⟨_, h.1, adC_rr ho.1⟩, subH_rr h.2 ho.2⟩
  | (i, .row t xs) :: l, h, ho => by
    simp only [List.map_cons, List.cons.injEq] at h
    exact ⟨⟨_, h.1, rfl⟩, subH_rr h.2 ho⟩
  | (i, .brow xs) :: l, h, ho => by
    simp only [List.map_cons, List.cons.injEq] at h
    exact ⟨⟨_, h.1, rfl⟩, subH_rr h.2 ho⟩
theorem sub_rr (σ : Nat → Nat) {fr' : Fr} {H' : Hp} (hfr : fr'.map (fun e => get fr e.1) = fr'.map (fun e => some (e.2.ren σ))) (hH : H'.map (fun e => hget H (σ e.1)) = H'.map (fun e => some (e.2.ren σ))) (ho : oneH H' = true) (hi : injB σ (hkeys H') = true) (hK : ∀ i, i < n.K → σ i = i) : Sub n fr H fr' H' :=
  sub_mk σ (subFr_rr hfr) (subH_rr hH ho) hi hK
theorem sub_r1 (σ : Nat → Nat) {fr' : Fr} {H' : Hp} (hK : ∀ i, i < n.K → σ i = i) (h : (fr'.map (fun e => get fr e.1), H'.map (fun e => hget H (σ e.1)), oneH H', injB σ (hkeys H')) = (fr'.map (fun e => some (e.2.ren σ)), H'.map (fun e => some (e.2.ren σ)), true, true)) : Sub n fr H fr' H' := by
  simp only [Prod.mk.injEq] at h
  exact sub_rr σ h.1 h.2.1 h.2.2.1 h.2.2.2 hK
theorem ap_gr {Γ : Ctx} {Q : Exit → Act → World → Prop} {all : Array Oper} {m : Nat} {listed listed' : Array Bool} {fr' : Fr} {H' : Hp} (σ : Nat → Nat) (hK : ∀ i, i < n.K → σ i = i) (h : AP P Γ n all Q m listed' fr' H')
    (he : (listed, fr'.map (fun e => get fr e.1), H'.map (fun e => hget H (σ e.1)), oneH H', injB σ (hkeys H')) = (listed', fr'.map (fun e => some (e.2.ren σ)), H'.map (fun e => some (e.2.ren σ)), true, true)) :
    AP P Γ n all Q m listed fr H := by
  simp only [Prod.mk.injEq] at he
  exact ap_go he.1 (sub_rr σ he.2.1 he.2.2.1 he.2.2.2.1 he.2.2.2.2 hK) h
theorem ap_ni {Γ : Ctx} {Q : Exit → Act → World → Prop} {all as : Array Oper} {m : Nat} {listed : Array Bool} (h : AP P Γ n all Q m listed fr H) : AO P Γ n as (Exit.then (wpAny P .any all Q m listed) Q) [] fr H := ao_nil (ap_in h)
theorem len_td {α : Type} (xs : List α) (a b : Nat) : ((xs.drop a).take b).length = min b (xs.length - a) := by
  rw [List.length_take, List.length_drop]
theorem e_append_ovL {T E : TypeId} {x y : Operand} {i : TypeInfo} {z : Value} {t : Ty} {id m : Nat} {X : AV} {xs ys : List t.D} (id' M L Y : Nat) (hf : t.flat = true) (ht : P.underlying T = some (.slice E)) (hi : P.info? E = some i) (hz : i.zero = some z) (hzs : z.cells.size = i.size) (hsz : i.size = t.sz)
    (hby : Nat.ble i.bytes 1000 = true) (hx : evO fr x = some (.ov id m)) (hg : hget H id = some (.row t xs)) (hy : evO fr y = some X) (hs : Src P H t X ys) (hL : xs.length = L) (hY : ys.length = Y) (hM : m + Y = M) (hroom : M ≤ L) (hroom2 : (L : Int) ≤ 1000000000) (hid : freshB id' fr H = true) (hK : Nat.ble n.K id' = true) :
    Eff P n ⟨dst, .call ⟨.builtin .append, #[x, y], #[T, T]⟩, ty, pos, aft, g⟩ fr H (.ov id' M) fr ((id', .row t (xs.take m ++ ys ++ xs.drop M)) :: hdel [id] H) :=
  e_append_ovM id' M hf ht hi hz hzs hsz hby hx hg hy hs (by omega) (by omega) (by omega) hid hK
abbrev ci (e : Int) : Comp := .cell (.int .i64 e)
end
end Go.GA
end
section
namespace Go.GA
open Go Go.RowKit
section
variable {P : Program} {Γ : Ctx} {n : Sz} {Q : Exit → Act → World → Prop} {fr : Fr} {H : Hp} {op : Op} {ty : TypeId} {pos : String} {aft : Array Edge} {all : Array Oper}
theorem ao_r {ops : List Oper} {d : Nat} {x : AV} (hr : Reads P ⟨some d, op, ty, pos, aft, none⟩ fr H x) (hd : Nat.blt d n.n = true)
    (h : AO P Γ n all Q ops ((d, x) :: fr) H) : AO P Γ n all Q (⟨some d, op, ty, pos, aft, none⟩ :: ops) fr H := ao_read trivial hr hd h
theorem an_r {m f : Nat} {T : Act → World → Prop} {listed : Array Bool} (i : Nat) {d : Nat} {x : AV} (hQ : ∀ c a w, Q (.panic c) a w → False) (hi : all[i]? = some ⟨some d, op, ty, pos, aft, none⟩) (hn : (Region.noSelect all && nextB all listed m i) = true) (hr : Reads P ⟨some d, op, ty, pos, aft, none⟩ fr H x) (hd : Nat.blt d n.n = true)
    (h : AN P Γ n all Q m T f (listed.setIfInBounds i true) ((d, x) :: fr) H) : AN P Γ n all Q m T (f + 1) listed fr H := by
  simp only [Bool.and_eq_true] at hn
  exact an_read i hn.1 hQ hi hn.2 trivial hr hd h
theorem ap_p {m : Nat} {listed : Array Bool} (i : Nat) {d : Nat} {x : AV} (hQ : ∀ c a w, Q (.panic c) a w → False) (hi : all[i]? = some ⟨some d, op, ty, pos, aft, none⟩) (hn : (Region.noSelect all && readyB all listed i) = true) (hr : ReadsP P ⟨some d, op, ty, pos, aft, none⟩ fr x) (hd : Nat.blt d n.n = true)
    (h : AP P Γ n all Q m (listed.setIfInBounds i true) ((d, x) :: fr) H) : AP P Γ n all Q (m + 1) listed fr H := by
  simp only [Bool.and_eq_true] at hn
  exact ap_pure i hn.1 hQ hi hn.2 trivial hr hd h
end
end Go.GA
end
