/- Structs with slices of their own: loaded, built, handed over; nil slices in variables. -/
import Derived.Test.YtnomfaepgmbogaaGaC
import Derived.Lib.ConvBytes
import Derived.Lib.Bytealg
import Derived.Laws.Externs
import Derived.Sort.Grow
import Derived.RangeFuncLeaves
import Derived.RangeFuncOwn
import Derived.OrdersIn
import Derived.TacticsIn
import Derived.ControlIn
import Derived.Laws.BytesString
import Derived.Laws.CopyRow
import Derived.Lib.SplitLaws
import Derived.Lib.Join
import Derived.Lib.AtoiAll
section
namespace Go.GA
open Go Go.RowKit
def compAVs : List Comp → List AV
  | [] => []
  | .cell a :: cs => a :: compAVs cs
  | .arr t n xs :: cs => .v (.arr n t) xs :: compAVs cs
/-- arrays in it hold no slices -/
def flatComps : List Comp → Bool
  | [] => true
  | .cell _ :: cs => flatComps cs
  | .arr t _ _ :: cs => t.flat && flatComps cs
theorem compAVs_append : ∀ (a b : List Comp), compAVs (a ++ b) = compAVs a ++ compAVs b
  | [], _ => rfl
  | .cell _ :: a, b => by simp [compAVs, compAVs_append a b]
  | .arr .. :: a, b => by simp [compAVs, compAVs_append a b]
theorem comps_st {ρ : Rho} {h : Hf} {M : Nat → Prop} : ∀ {cs : List Comp} {vs F}, flatComps cs = true → RComps ρ h M cs vs F → ∃ us, RAs ρ h M (compAVs cs) us ∧ cellsOf us = vs ∧ F = []
  | [], vs, F, _, hr => ⟨[], rfl, by rw [hr.1]; rfl, hr.2⟩
  | .cell a :: cs, vs, F, hf, hr => by
    obtain ⟨v, cs', e, h1, h2, h3⟩ := hr
    obtain ⟨us, h4, h5, h6⟩ := comps_st (cs := cs) hf h3
    refine ⟨v :: us, ⟨v, us, rfl, h2, h4⟩, ?_, h6⟩
    rw [e, ← h5]
    simp [cellsOf, one_cells h2 h1]
  | .arr t n xs :: cs, vs, F, hf, hr => by
    simp only [flatComps, Bool.and_eq_true] at hf
    obtain ⟨c1, c2, F1, F2, e, eF, h1, h2⟩ := hr
    obtain ⟨us, h4, h5, h6⟩ := comps_st (cs := cs) hf.2 h2
    have hF1 := Rc.flat (.arr n t) hf.1 h1
    subst hF1; subst h6
    refine ⟨.agg c1.toArray :: us, ⟨_, us, rfl, ⟨[], ⟨c1, h1, rfl⟩, by simp⟩, h4⟩, ?_, by rw [eF]; rfl⟩
    rw [e, ← h5]
    simp [cellsOf, Value.cells]
theorem ras_append {ρ : Rho} {h : Hf} {M : Nat → Prop} : ∀ {xs ys : List AV} {vs}, RAs ρ h M (xs ++ ys) vs → ∃ us ws, vs = us ++ ws ∧ RAs ρ h M xs us ∧ RAs ρ h M ys ws
  | [], ys, vs, hr => ⟨[], vs, rfl, rfl, hr⟩
  | x :: xs, ys, vs, hr => by
    obtain ⟨v, vs', e, h1, h2⟩ := hr
    obtain ⟨us, ws, e2, h3, h4⟩ := ras_append (xs := xs) h2
    exact ⟨v :: us, ws, by rw [e, e2]; rfl, ⟨v, us, rfl, h1, h3⟩, h4⟩
theorem ras_one {ρ : Rho} {h : Hf} {M : Nat → Prop} {x : AV} {vs} (hr : RAs ρ h M [x] vs) : ∃ v, vs = [v] ∧ RA ρ h M x v := by
  obtain ⟨v, vs', e, h1, h2⟩ := hr
  simp only [RAs] at h2
  subst h2
  exact ⟨v, e, h1⟩
/-- parts that are plain make up a whole that is -/
theorem ras_ty {ρ : Rho} {h : Hf} {M : Nat → Prop} : ∀ (t : Ty) {x : t.D} {us}, t.flatArrs = true → RAs ρ h M (compAVs (tyComps t x)) us → ∃ F, Rc h t x (cellsOf us) F ∧ ∀ b ∈ F, ¬ M b
  | .arr n t, x, us, _, hr => by
    obtain ⟨v, rfl, F, ⟨cs, hc, e⟩, hM⟩ := ras_one hr
    subst e
    exact ⟨F, by simpa [cellsOf, mkV, Ty.agg, Value.cells] using hc, hM⟩
  | .pair a b, x, us, hf, hr => by
    simp only [Ty.flatArrs, Bool.and_eq_true] at hf
    simp only [tyComps, compAVs_append] at hr
    obtain ⟨u1, u2, e, h1, h2⟩ := ras_append hr
    obtain ⟨F1, r1, n1⟩ := ras_ty a hf.1 h1
    obtain ⟨F2, r2, n2⟩ := ras_ty b hf.2 h2
    exact ⟨F1 ++ F2, ⟨_, _, F1, F2, by rw [e]; simp [cellsOf], rfl, r1, r2⟩, fun y hy => by
      rcases List.mem_append.1 hy with h | h
      · exact n1 y h
      · exact n2 y h⟩
  | .unit, _, us, _, hr => by
    have : us = [] := hr
    subst this
    exact ⟨[], ⟨rfl, rfl⟩, by simp⟩
  | .int k, x, us, _, hr => by
    obtain ⟨v, rfl, e⟩ := ras_one hr
    simp only [RA] at e
    subst e
    exact ⟨[], ⟨rfl, rfl⟩, by simp⟩
  | .bool, x, us, _, hr => by
    obtain ⟨v, rfl, e⟩ := ras_one hr
    simp only [RA] at e
    subst e
    exact ⟨[], ⟨rfl, rfl⟩, by simp⟩
  | .str, x, us, _, hr => by
    obtain ⟨v, rfl, e⟩ := ras_one hr
    simp only [RA] at e
    subst e
    exact ⟨[], ⟨rfl, rfl⟩, by simp⟩
  | .slice t, x, us, _, hr => by
    obtain ⟨v, rfl, hv⟩ := ras_one hr
    have h1 := one_cells (x := .v (.slice t) x) hv rfl
    obtain ⟨F, ⟨cs, hc, e⟩, hM⟩ := hv
    obtain ⟨u, rfl⟩ := one_cell (t := .slice t) rfl hc
    obtain rfl : v = u := e
    exact ⟨F, by simpa [cellsOf, h1] using hc, hM⟩
section
variable {P : Program} {Γ : Ctx} {n : Sz} {fr : Fr} {H H' : Hp} {dst : Option Nat} {ty : TypeId} {pos : String} {aft : Array Edge} {g : Option (Nat × Bool)}
/-- a struct with own parts, as plain data -/
theorem ad_st {σ : Nat → Nat} {τ : Ty} {y : τ.D} {xs : List AV} (ha : τ.agg = true) (hf : τ.flatArrs = true) (h : Ads H H' σ xs (compAVs (tyComps τ y))) : Ad H H' σ (.st xs) (.v τ y) := fun ρ hh ℓ hk hm hd v hx => by
  obtain ⟨vs, e, h1⟩ := hx
  obtain ⟨F, hF, hM⟩ := ras_ty τ hf (ads_ok hk hm hd h h1)
  exact ⟨F, ⟨_, hF, by rw [e]; simp [mkV, ha]⟩, hM⟩
/-- a whole own variable, or a part of it -/
theorem r_load_st {T : TypeId} {x : Operand} {id off : Nat} {xs : List AV} {cs : List Comp} {m : Nat} (pre mid post : List Comp) (ha : ∀ w, (isAgg T).run P w = .ok true w) (hs : ∀ w, (sizeOf T).run P w = .ok m w) (hm : compsSz mid = m) (hf : flatComps mid = true)
    (hx : evO fr x = some (.ref id off)) (hg : hget H id = some (.var cs)) (hc : cs = pre ++ (mid ++ post)) (ho : compsSz pre = off) (hxs : compAVs mid = xs) :
    Reads P ⟨dst, .load T x, ty, pos, aft, g⟩ fr H (.st xs) := fun Γ n' ρ w a s => by
  obtain ⟨b, k, hρ, e⟩ := s.ev hx
  obtain ⟨ℓ, hL, _⟩ := s.heap
  obtain ⟨b', k', c, T', F, hρ', hb, hcs, _⟩ := hL.get hg
  rw [hρ] at hρ'
  obtain ⟨rfl, rfl⟩ : b = b' ∧ k = k' := by simpa using hρ'
  subst hc; subst hxs
  obtain ⟨v1, v2, F1, F2, ev, _, h1, h2⟩ := RComps.split hcs
  obtain ⟨v3, v4, F3, F4, ev2, _, h3, h4⟩ := RComps.split h2
  obtain ⟨us, hR, hU, _⟩ := comps_st hf h3
  have hl := h1.len
  rw [ho] at hl
  have hl3 := h3.len
  refine ⟨.agg v3.toArray, ⟨us, by rw [hU], hR⟩, fun w' hk => ?_⟩
  have hload : (loadVar T ⟨b, off, none⟩).run P w' = .ok (.agg v3.toArray) w' := by
    unfold loadVar
    rw [Sem.run_bind, ha w']
    simp only [Result.andThen_ok, if_true, Sem.run_bind, hs]
    have hcs : (loadCells ⟨b, off, none⟩ m).run P w' = .ok v3.toArray w' := by
      rw [← hl, show m = v3.length by rw [hl3, hm]]
      have := run_loadVar_at (P := P) (t := .arr v3.length .bool) (E := T) (w := w') (pre := v1) (mid := v3) (post := v4) (kept_get hk hb) (by rw [ev, ev2]) (by simp [Ty.sz]) (by simp [Ty.agg]) ha (by simpa [Ty.sz, hl3, hm] using hs)
      unfold loadVar at this
      rw [Sem.run_bind, ha w'] at this
      simp only [Result.andThen_ok, if_true, Sem.run_bind, hs] at this
      rw [show m = v3.length by rw [hl3, hm]] at this
      cases hh : (loadCells ⟨b, v1.length, none⟩ v3.length).run P w' with
      | ok u w2 =>
        rw [hh] at this
        simpa [mkV, Ty.agg] using this
      | halt q w2 => rw [hh] at this; simp at this
    rw [hcs]
    simp
  simp only [execOp, e, Instr.loadAt, Instr.sureAddr, Sem.run_bind, Sem.run_pure, Result.andThen_ok, hload]
/-! ### Zero values, literals -/
def zC : Ty → List Comp
  | .bool => [.cell (.bool false)]
  | .int k => [.cell (.int k 0)]
  | .str => [.cell (.str .empty)]
  | .slice _ => [.cell .nilsl]
  | .arr n t => [.arr t n (List.replicate n t.dflt)]
  | .pair a b => zC a ++ zC b
  | .unit => []
theorem zC_ok (ρ : Rho) (h : Hf) (M : Nat → Prop) : ∀ (t : Ty), RComps ρ h M (zC t) (zc t) []
  | .bool => ⟨_, _, rfl, rfl, rfl, rfl, rfl⟩
  | .int _ => ⟨_, _, rfl, rfl, rfl, rfl, rfl⟩
  | .str => ⟨_, _, rfl, rfl, rfl, rfl, rfl⟩
  | .slice _ => ⟨_, _, rfl, rfl, rfl, rfl, rfl⟩
  | .arr n t => ⟨zc (.arr n t), [], [], [], by simp, rfl, zc_ok h (.arr n t), rfl, rfl⟩
  | .pair a b => RComps.append (F := []) (G := []) (zC_ok ρ h M a) (zC_ok ρ h M b)
  | .unit => ⟨rfl, rfl⟩
theorem ra_zero_st {t : Ty} {ρ : Rho} {h : Hf} {M : Nat → Prop} {z : Value} {xs : List AV} (hf : flatComps (zC t) = true) (hxs : compAVs (zC t) = xs) (hz : z = .agg (zc t).toArray) : RA ρ h M (.st xs) z := by
  subst hxs
  obtain ⟨us, h1, h2, _⟩ := comps_st hf (zC_ok ρ h M t)
  exact ⟨us, by rw [hz, h2], h1⟩
def Places (P : Program) : List Field → List (Nat × Nat) → Prop
  | [], [] => True
  | f :: fs, (o, s) :: l => f.offset = o ∧ (∀ w, (sizeOf f.type).run P w = .ok s w) ∧ Places P fs l
  | _, _ => False
theorem places_run : ∀ {fs : List Field} {l : List (Nat × Nat)}, Places P fs l → ∀ w, (fs.mapM fun f => do pure (f.offset, ← sizeOf f.type) : Sem (List (Nat × Nat))).run P w = .ok l w
  | [], [], _, w => rfl
  | f :: fs, (o, s) :: l, h, w => by
    obtain ⟨h1, h2, h3⟩ := h
    have ih := places_run h3 w
    subst h1
    simp only [List.mapM_cons, Sem.run_bind, h2, Result.andThen_ok, Sem.run_pure, ih]
  | [], _ :: _, h, _ => h.elim
  | _ :: _, [], h, _ => h.elim
/-- the parts put in, one after the other -/
def buildC (fr : Fr) : List Comp → List (Nat × Nat) → List (Nat × Operand) → Option (List Comp)
  | cs, _, [] => some cs
  | cs, pl, (i, o) :: l => match pl[i]?, evO fr o with
    | some (off, sz), some y => bif boxable y && Nat.beq (compsSz (toComps y)) sz then (match putAt cs off (toComps y) with
      | some cs' => buildC fr cs' pl l
      | none => none) else none
    | _, _ => none
theorem fill_comps {ρ : Rho} {h : Hf} {M : Nat → Prop} {ev : Operand → Value} (hev : ∀ o y, evO fr o = some y → RA ρ h M y (ev o)) {pl : List (Nat × Nat)} : ∀ {l : List (Nat × Operand)} {cs cs' : List Comp} {A : Array Value}, RComps ρ h M cs A.toList [] → buildC fr cs pl l = some cs' →
    ∃ B : Array Value, Instr.fill (pl.toArray[·]?) A (l.map fun p => (p.1, ev p.2)) = some B ∧ RComps ρ h M cs' B.toList []
  | [], cs, cs', A, hA, hb => by
    simp only [buildC, Option.some.injEq] at hb
    subst hb
    exact ⟨A, rfl, hA⟩
  | (i, o) :: l, cs, cs', A, hA, hb => by
    simp only [buildC] at hb
    split at hb
    · rename_i off sz y hpl hy
      cases hc : boxable y && Nat.beq (compsSz (toComps y)) sz with
      | false => rw [hc] at hb; cases hb
      | true =>
        rw [hc] at hb
        simp only [cond_true] at hb
        simp only [Bool.and_eq_true] at hc
        have hsz := Nat.eq_of_beq_eq_true hc.2
        split at hb
        · rename_i c1 hp
          have hn := ra_comps y (hev o y hy) hc.1
          obtain ⟨hle, F', h1, _, h2⟩ := putAt_ok hA hn hp (fun b _ _ => ⟨rfl, by assumption⟩) (fun _ _ => rfl) List.nodup_nil
          have hF : F' = [] := by
            cases F' with
            | nil => rfl
            | cons b F => exact absurd (h2 b (by simp)) (by simp)
          subst hF
          have hl := hn.len
          have hcsz : (ev o).cells.size = sz := by rw [← hsz, ← hl]; simp
          have hfold := foldl_set off (ev o).cells.toList 0 A (by simpa using hle)
          have hfold' : (ev o).cells.zipIdx.foldl (fun (A : Array Value) (p : Value × Nat) => A.setIfInBounds (off + p.2) p.1) A = (A.toList.take off ++ (ev o).cells.toList ++ A.toList.drop (off + (ev o).cells.toList.length)).toArray := by
            rw [← Array.foldl_toList, Array.toList_zipIdx, hfold]; simp
          obtain ⟨B, h3, h4⟩ := fill_comps hev (l := l) (A := (A.toList.take off ++ (ev o).cells.toList ++ A.toList.drop (off + (ev o).cells.toList.length)).toArray) (by simpa using h1) hb
          refine ⟨B, ?_, h4⟩
          simp only [List.map_cons, Instr.fill, List.getElem?_toArray, hpl]
          have hno : ¬ ((ev o).cells.size ≠ sz ∨ off + (ev o).cells.size > A.size) := by
            rw [hcsz]
            have : (ev o).cells.toList.length = sz := by simpa using hcsz
            rw [this] at hle
            simp only [Array.length_toList] at hle
            omega
          rw [if_neg (by simpa using hno)]
          have hfold2 : Array.foldl (fun cs (x : Value × Nat) => match x with | (c, j) => cs.setIfInBounds (off + j) c) A (ev o).cells.zipIdx = (A.toList.take off ++ (ev o).cells.toList ++ A.toList.drop (off + (ev o).cells.toList.length)).toArray := hfold'
          rw [hfold2]
          simpa only [List.getElem?_toArray] using h3
        · cases hb
    · cases hb
/-- a struct literal -/
theorem r_build_st {T : TypeId} {fields : Array Field} {l : List (Nat × Operand)} {z : Value} {cs : List Comp} {xs : List AV} (t : Ty) (pl : List (Nat × Nat)) (ht : P.underlying T = some (.struct fields)) (hz : ∀ w, (zeroValue T).run P w = .ok z w) (hzs : z.cells.toList = zc t)
    (hp : Places P fields.toList pl) (hb : buildC fr (zC t) pl l = some cs) (hf : flatComps cs = true) (hxs : compAVs cs = xs) :
    Reads P ⟨dst, .build T l.toArray, ty, pos, aft, g⟩ fr H (.st xs) := fun Γ n' ρ w a s => by
  subst hxs
  obtain ⟨B, h1, h2⟩ := fill_comps (fr := fr) (ρ := ρ) (h := World.hf w) (M := ownB ρ H) (ev := a.eval) (fun o y h => s.ev h) (A := z.cells) (by rw [hzs]; exact zC_ok _ _ _ t) hb
  obtain ⟨us, h3, h4, _⟩ := comps_st hf h2
  refine ⟨.agg B, ⟨us, by rw [h4], h3⟩, fun w' _ => ?_⟩
  have hm : ∀ w, (fields.mapM fun f => do pure (f.offset, ← sizeOf f.type) : Sem (Array (Nat × Nat))).run P w = .ok pl.toArray w := fun w => by
    have e : fields = fields.toList.toArray := rfl
    rw [e, List.mapM_toArray, map_eq_pure_bind, Sem.run_bind, places_run hp w]
    rfl
  simp only [execOp, Instr.build, Sem.run_bind, hz, run_underlying ht, Result.andThen_ok, hm, List.map_toArray]
  rw [h1]
  simp
/-! ### A nil slice in a variable, as a row of the call's own -/
theorem sub_nil_cell {t : Ty} {i : Nat} (id : Nat) (pre post : List Comp) (hg : hget H i = some (.var (pre ++ .cell .nilsl :: post))) (hid : freshB id fr H = true) (hK : Nat.ble n.K id = true) :
    Sub n fr H fr ((id, .row t ([] : List t.D)) :: hset H i (.var (pre ++ .cell (.os id) :: post))) := fun Γ ρ w a s => by
  have hr := s.replace0 [] (id := id) (B := .row t ([] : List t.D)) (p := none) (w' := w) hid hK rfl rfl rfl rfl (Nat.le_refl _) (fun b hb _ => rfl) (fun b k h => by cases h) (fun ℓ hk hM => ⟨[], ⟨Nat.zero_le _, .inl ⟨upd_same _ _ _, rfl, rfl⟩⟩, by simp, by simp⟩)
  rw [hdel_nil] at hr
  have hne : i ≠ id := fun e => freshB_H hid (e ▸ hids_head (hget_mem hg))
  have hid' : (upd ρ id none) id = none := upd_same _ _ _
  generalize hρ' : upd ρ id none = ρ' at hr hid'
  obtain ⟨ℓ, hk, hb⟩ := hr.heap
  have hkeys : ((id, Blk.row t ([] : List t.D)) :: hset H i (.var (pre ++ .cell (.os id) :: post))).map (·.1) = ((id, Blk.row t ([] : List t.D)) :: H).map (·.1) := by
    simp only [List.map_cons, hset_keys]
  have hMeq : ownB ρ' ((id, Blk.row t ([] : List t.D)) :: hset H i (.var (pre ++ .cell (.os id) :: post))) = ownB ρ' ((id, Blk.row t ([] : List t.D)) :: H) := funext fun b' => propext (own_keys hkeys)
  have hHn : (H.map (·.1)).Nodup := by have := hk.ids; simp only [List.map_cons] at this; exact (List.nodup_cons.1 this).2
  have hmem : ∀ {e}, e ∈ ((id, Blk.row t ([] : List t.D)) :: hset H i (.var (pre ++ .cell (.os id) :: post))) → (e.1 = i ∧ e.2 = .var (pre ++ .cell (.os id) :: post)) ∨ e ∈ ((id, Blk.row t ([] : List t.D)) :: H) := by
    intro e he
    rcases List.mem_cons.1 he with rfl | he
    · exact .inr (by simp)
    · rcases mem_hset hHn he with h | ⟨h1, _⟩
      · exact .inl h
      · exact .inr (List.mem_cons_of_mem _ h1)
  have hold : (i, Blk.var (pre ++ .cell .nilsl :: post)) ∈ ((id, Blk.row t ([] : List t.D)) :: H) := List.mem_cons_of_mem _ (hget_mem hg)
  refine ⟨ρ', hr.defers, hr.size, hr.ext, hr.keep, fun b hb' => hr.own b ((nam_keys hkeys).1 hb'), ⟨ℓ, ⟨?_, ?_, ?_, ?_⟩, ?_⟩, fun t' x hx => ?_⟩
  · intro e he
    rw [hMeq]
    rcases hmem he with ⟨h1, h2⟩ | h
    · obtain ⟨j, B⟩ := e
      simp only at h1 h2; subst h1; subst h2
      obtain ⟨b, k, c, T', F, g1, g2, g3, g4⟩ := hk.blk _ hold
      refine ⟨b, k, c, T', F, g1, g2, ?_, g4⟩
      obtain ⟨v1, v2, F1, F2, e1, e2, r1, r2⟩ := RComps.split g3
      obtain ⟨v, cs', e3, _, r3, r4⟩ := r2
      rw [e1, e2]
      refine RComps.append r1 ⟨v, cs', e3, rfl, .inl ⟨hid', ?_⟩, r4⟩
      simpa only [RA] using r3
    · exact hk.blk e h
  · intro e he
    rcases hmem he with ⟨h1, _⟩ | h
    · rw [h1]; exact hk.nd _ hold
    · exact hk.nd e h
  · intro e he e' he' hne' x hx
    rcases hmem he with ⟨h1, _⟩ | h1 <;> rcases hmem he' with ⟨h3, _⟩ | h3
    · exact absurd (h1.trans h3.symm) hne'
    · rw [h1] at hx; exact hk.dj _ hold e' h3 (fun h => hne' (h1.trans h)) x hx
    · rw [h3]; exact hk.dj e h1 _ hold (fun h => hne' (h.trans h3.symm)) x hx
    · exact hk.dj e h1 e' h3 hne' x hx
  · rw [hkeys]; exact hk.ids
  · intro e he x hx
    rcases hmem he with ⟨h1, _⟩ | h
    · rw [h1] at hx; exact hb _ hold x hx
    · exact hb e h x hx
  · obtain ⟨h1, h2⟩ := hr.fr t' x hx
    exact ⟨h1, by rw [hMeq]; exact h2⟩
end
end Go.GA
end
section
namespace Go.GA
open Go Go.RowKit
section
variable {P : Program} {n : Sz} {fr : Fr} {H : Hp} {dst : Option Nat} {ty : TypeId} {pos : String} {aft : Array Edge} {g : Option (Nat × Bool)}
/-- the state behind a write of an element's cells -/
theorem sim_set_elem {Γ : Ctx} {ρ : Rho} {w : World} {a : Act} (s : SIM Γ n ρ w a fr H) {id off i : Nat} {t : Ty} {xs : List t.D} {e : t.D} {B : Blk} (hf : t.flat = true) (hg : hget H id = some B) (he : elemsAt H id off = some ⟨t, xs⟩) (hi : i < xs.length) {b k} (hρ : ρ id = some (b, k))
    {c : Array Value} {T' : TypeId} {p mid q : List Value} (hb : World.hf w b = some (.cells c T' (0, 0))) (hc : c.toList = p ++ (mid ++ q)) (hp : p.length = off) (hm : RelL (Rc (World.hf w) t) xs mid []) {ns : List Value} (hR : ∀ h', Rc h' t e ns []) (hnl : ns.length = t.sz) :
    SIM Γ n ρ (w.setRow b (p ++ ((mid.take (i * t.sz) ++ ns ++ mid.drop (i * t.sz + ns.length)) ++ q)).toArray) a fr (hset H id (blkSet B off t (xs.set i e))) := by
  have hclen : c.size = p.length + (mid.length + q.length) := by rw [← Array.length_toList, hc]; simp
  have hset := RelL.set (R' := Rc (World.hf w) t) hi hm (fun x c F h => Rc.len t h) (fun x c F h => Rc.flat t hf h) (fun _ _ h => h) (hR (World.hf w)) hnl
  have h1 := hset.1
  refine s.write hg hρ hb (fun ℓ' h' hk' hb' hne hM => ?_)
  have hset' := RelL.set (R' := Rc h' t) hi hm (fun x c F h => Rc.len t h) (fun x c F h => Rc.flat t hf h) (fun x c hx => hx.same t (by simp)) (hR h') hnl
  have hnew := hset'.2
  have hlset : (mid.take (i * t.sz) ++ ns ++ mid.drop (i * t.sz + ns.length)).length = mid.length := by
    simp only [List.length_append, List.length_take, List.length_drop]; omega
  unfold elemsAt at he
  rw [hg] at he
  cases B with
  | brow xs' => cases he
  | var cs =>
    simp only at he
    split at he
    · rename_i t' m xs' hca
      simp only [Option.some.injEq, Sigma.mk.injEq] at he
      obtain ⟨rfl, he⟩ := he
      have he' := eq_of_heq he
      subst he'
      obtain ⟨b2, k2, c2, T2, F2, h3, h4, h5, h6⟩ := hk'.get hg
      rw [hρ] at h3
      obtain ⟨rfl, rfl⟩ : b = b2 ∧ k = k2 := by simpa using h3
      rw [show World.hf w b = some (.cells c T' (0, 0)) from hb] at h4
      simp only [Option.some.injEq, Obj.cells.injEq] at h4
      obtain ⟨rfl, rfl, _⟩ := h4
      have hnd2 : (b :: F2).Nodup := by have := hk'.nd _ (hget_mem hg); rw [h6] at this; exact this
      have hFne : ∀ x ∈ F2, x ≠ b := fun x hx e => (List.nodup_cons.1 hnd2).1 (e ▸ hx)
      refine ⟨b :: F2, ⟨b, k, _, T', F2, hρ, hb', ?_, rfl⟩, hnd2, fun x hx => by rw [h6]; exact hx⟩
      have := compsSet_ok (h' := h') (ys := xs'.set i e) (by simp) h5 hca hc hp hlset.symm hnew hf hM (fun x hx => hne x (hFne x hx))
      simpa using this
    · cases he
  | row t' xs' =>
    simp only at he
    split at he
    · simp only [Option.some.injEq, Sigma.mk.injEq] at he
      obtain ⟨rfl, he⟩ := he
      have he' := eq_of_heq he
      subst he'
      obtain ⟨hl, ⟨h3, h4, _⟩ | ⟨b2, cap, c2, T2, F2, mid2, post, h3, h4, h5, h6, h7, h8, h9⟩⟩ := hk'.get hg
      · rw [hρ] at h3; cases h3
      · rw [hρ] at h3
        obtain ⟨rfl, rfl⟩ : b = b2 ∧ k = (cap, _) := by simpa using h3
        rw [show World.hf w b = some (.cells c T' (0, 0)) from hb] at h4
        simp only [Option.some.injEq, Obj.cells.injEq] at h4
        obtain ⟨rfl, rfl, _⟩ := h4
        have hF2 : F2 = [] := RelL.flat (fun x c F h => Rc.flat t' hf h) h6
        subst hF2
        have hp0 : p = [] := List.eq_nil_of_length_eq_zero hp
        subst hp0
        refine ⟨[b], ⟨by simpa using hl, .inr ⟨b, cap, _, T', [], _, q, by simpa using hρ, hb', rfl, hnew, rfl, by simpa using h8, ?_, NoFz.nil⟩⟩, by simp, fun x hx => by rw [h7]; exact hx⟩
        rw [← h9.1, hclen]
        simp only [List.size_toArray, List.length_append, List.length_nil, Nat.zero_add]
        simp only [List.length_take, List.length_drop, List.length_append] at hlset ⊢
        omega
    · cases he
/-- a store into an element of an element -/
theorem e_store_elem2 {T : TypeId} {x y : Operand} {id off i m j z z2 : Nat} {t : Ty} {xs : List (Ty.arr m t).D} {X : List t.D} {e : t.D} {B B' : Blk} (hf : t.flat = true) (hs : ∀ w, (sizeOf T).run P w = .ok t.sz w) (hz : m * t.sz = z) (hz2 : t.sz = z2)
    (hx : evO fr x = some (.elem2 id off z i z2 j)) (hy : evO fr y = some (ofTy t e)) (hg : hget H id = some B) (he : elemsAt H id off = some ⟨.arr m t, xs⟩) (hi : i < xs.length) (hX : xs.getD i (Ty.dflt (.arr m t)) = X) (hj : j < m) (hB : blkSet B off (.arr m t) (xs.set i (X.set j e : List t.D)) = B') :
    EffS P n ⟨none, .store T x y, ty, pos, aft, g⟩ fr H fr (hset H id B') := fun Γ ρ w a s => by
  subst hB; subst hz; subst hz2
  obtain ⟨b, k, hρ, ex⟩ := s.ev hx
  obtain ⟨ℓ, hL, _⟩ := s.heap
  have hns := ofTy_cells hf (s.ev hy)
  have hnl : (a.eval y).cells.toList.length = t.sz := Rc.len t hns
  obtain ⟨c, T', p, mid, q, F, hb, hc, hp, hm, _⟩ := elemsAt_ok hL he hρ
  have hFn : F = [] := RelL.flat (fun x c F h => Rc.flat (.arr m t) hf h) hm
  subst hFn
  have hm0 := hm
  rw [split_at xs i hi (Ty.dflt (.arr m t))] at hm
  obtain ⟨c1, c2, c3, G, em, hc1, hR, hG⟩ := RelL.mid hm (fun x c F h => Rc.len _ h)
  have hlt' : (xs.take i).length = i := by rw [List.length_take]; omega
  rw [hlt'] at hc1
  replace hc1 : c1.length = i * (m * t.sz) := hc1
  rw [hX] at hR
  have hGn : G = [] := Rc.flat (.arr m t) hf hR
  subst hGn
  obtain ⟨hl, hR2⟩ := hR
  have hc2 : c2.length = m * t.sz := by rw [RelL.len (fun x c F h => Rc.len t h) hR2, hl]
  have hjl : j < X.length := by omega
  have hin : ∀ h', Rc h' t e (a.eval y).cells.toList [] := fun h' => hns.same t (by simp)
  have hset := fun (h' : Hf) => RelL.set (R' := Rc h' t) hjl hR2 (fun x c F h => Rc.len t h) (fun x c F h => Rc.flat t hf h) (fun x c hx => hx.same t (by simp)) (hin h') hnl
  have hle := (hset (World.hf w)).1
  have hclen : c.size = p.length + (mid.length + q.length) := by rw [← Array.length_toList, hc]; simp
  have hmidl : mid.length = c1.length + (c2.length + c3.length) := by rw [em]; simp
  have hrun := run_storeVar (P := P) (T := T) (v := a.eval y) (ns := (a.eval y).cells.toList) (b := b) (off := off + i * (m * t.sz) + j * t.sz) (c := c) (T' := T') (w := w) (by rw [hnl]; exact hs) rfl hb (by omega) (fun u hu => Rc.one t hns u hu)
  have hnew : ∀ h', Rc h' (.arr m t) (X.set j e : List t.D) (c2.take (j * t.sz) ++ (a.eval y).cells.toList ++ c2.drop (j * t.sz + (a.eval y).cells.toList.length)) [] := fun h' => ⟨by rw [List.length_set]; exact hl, (hset h').2⟩
  have hnewl := Rc.len (.arr m t) (hnew (World.hf w))
  have hcl : c.toList.take (off + i * (m * t.sz) + j * t.sz) ++ (a.eval y).cells.toList ++ c.toList.drop (off + i * (m * t.sz) + j * t.sz + (a.eval y).cells.toList.length) = p ++ ((mid.take (i * (m * t.sz)) ++ (c2.take (j * t.sz) ++ (a.eval y).cells.toList ++ c2.drop (j * t.sz + (a.eval y).cells.toList.length)) ++ mid.drop (i * (m * t.sz) + (c2.take (j * t.sz) ++ (a.eval y).cells.toList ++ c2.drop (j * t.sz + (a.eval y).cells.toList.length)).length)) ++ q) := by
    rw [hnewl]
    generalize (a.eval y).cells.toList = ns at *
    have t1 : mid.take (i * (m * t.sz)) = c1 := by rw [em, ← hc1]; simp
    have t2 : mid.drop (i * (m * t.sz) + m * t.sz) = c3 := by
      rw [em, ← hc1, List.drop_length_add_append, ← hc2, List.drop_left]
    have t2' : mid.drop (i * (m * t.sz) + (Ty.arr m t).sz) = c3 := t2
    rw [t1, t2']
    have hcs : c.toList = (p ++ c1) ++ (c2 ++ (c3 ++ q)) := by rw [hc, em]; simp
    have hoff : off + i * (m * t.sz) = (p ++ c1).length := by rw [List.length_append, hp, hc1]
    rw [hoff, hcs, List.take_length_add_append, Nat.add_assoc, List.drop_length_add_append, List.take_append_of_le_length (by omega), List.drop_append_of_le_length (by omega)]
    simp
  refine ⟨w.setRow b (c.toList.take (off + i * (m * t.sz) + j * t.sz) ++ (a.eval y).cells.toList ++ c.toList.drop (off + i * (m * t.sz) + j * t.sz + (a.eval y).cells.toList.length)).toArray, ρ, ?_, ?_⟩
  · simp only [execOp, Instr.storeAt, ex, Instr.sureAddr, Sem.run_bind, Sem.run_pure, Result.andThen_ok, hrun]
  · rw [hcl]
    exact sim_set_elem (t := .arr m t) s hf hg he hi hρ hb hc hp hm0 hnew hnewl
theorem e_store_elem2_int {T : TypeId} {x y : Operand} {id off i m j z : Nat} {q : IntKind} {xs : List (List Int)} {X : List Int} {e : Int} {B B' : Blk} (hs : ∀ w, (sizeOf T).run P w = .ok 1 w) (hz : m * 1 = z)
    (hx : evO fr x = some (.elem2 id off z i 1 j)) (hy : evO fr y = some (.int q e)) (hg : hget H id = some B) (he : elemsAt H id off = some ⟨.arr m (.int q), xs⟩) (hi : i < xs.length) (hX : xs.getD i (List.replicate m 0) = X) (hj : j < m) (hB : blkSet B off (.arr m (.int q)) (xs.set i (X.set j e)) = B') :
    EffS P n ⟨none, .store T x y, ty, pos, aft, g⟩ fr H fr (hset H id B') := e_store_elem2 (t := .int q) rfl hs hz rfl hx hy hg he hi hX hj hB
end
end Go.GA
end
section
namespace Go.GA
open Go Go.RowKit
/-- two strings are the same -/
def eqS (a b : ByteArray) : Bool := a.toList == b.toList
section
variable {P : Program} {n : Sz} {fr : Fr} {H : Hp} {dst : Option Nat} {ty : TypeId} {pos : String} {aft : Array Edge} {g : Option (Nat × Bool)}
/-! ### Bytes of a string -/
end
end Go.GA
end
section
namespace Go.GA
open Go Go.RowKit
def nkB (σ : Nat → Nat) : Nat → Bool
  | 0 => true
  | k + 1 => Nat.beq (σ k) k && nkB σ k
theorem nkL {n : Sz} {σ : Nat → Nat} (h : nkB σ n.K = true) : ∀ i, i < n.K → σ i = i := by
  have key : ∀ K, nkB σ K = true → ∀ i, i < K → σ i = i := by
    intro K
    induction K with
    | zero => intro _ i hi; omega
    | succ K ih =>
      intro h i hi
      simp only [nkB, Bool.and_eq_true] at h
      by_cases e : i = K
      · subst e; exact Nat.eq_of_beq_eq_true h.1
      · exact ih h.2 i (by omega)
  exact key n.K h
section
variable {H : Hp}
theorem ad_viewv0 {σ : Nat → Nat} {id off m l len z : Nat} {t : Ty} {xs : List t.D} {cs : List Comp} (hz : t.sz = z) (hf : t.flat = true) (hg : hget H id = some (.var cs)) (hc : compAt cs off = some (.arr t m xs)) (hl : l + len ≤ m) (hm : Nat.ble m 1000000 = true) :
    Ad H [] σ (.view id off z l len) (.v (.slice t) ((xs.drop l).take len)) := fun ρ h ℓ hk hm' hd v hx => by
  subst hz
  obtain ⟨b', k', c, T, F, h1', h2, h3, e⟩ := hk.get hg
  obtain ⟨p, mm, q, F', ec, hp, ⟨c1, c2, F1, F2, em, _, h5, h6, _⟩, hF'⟩ := comps_at h3 hc
  refine ad_view hf (elemsAt_var hg hc) (by rw [h5.1]; exact hl) ?_ (by simp) ρ h ℓ hk hm' hd v hx
  have := Nat.le_of_ble_eq_true hm
  simp only [lim]; omega
end
section
variable {P : Program} {n : Sz} {fr : Fr} {H : Hp} {dst : Option Nat} {ty : TypeId} {pos : String} {aft : Array Edge} {g : Option (Nat × Bool)}
theorem r_eq_st1 {op : BinOp} {T A E yT : TypeId} {x y : Operand} {k : IntKind} {m : Nat} {X Y : (Ty.pair (.arr m (.int k)) .unit).D} {xs ys : List Int} {c : Bool} {f : Field} (hT : P.underlying T = some (.struct (P.fieldsOf T))) (hfs : P.fieldsOf T = #[f]) (hfn : (f.name != "_") = true) (hft : f.type = A) (hfo : f.offset = 0) (hst : P.stoodInHeld T = false)
    (hA : P.underlying A = some (.array m E)) (hE : P.underlying E = some (.int k)) (haA : ∀ w, (isAgg A).run P w = .ok true w) (hsA : ∀ w, (sizeOf A).run P w = .ok m w) (ha : ∀ w, (isAgg E).run P w = .ok false w) (hi : ∃ i, P.info? E = some i ∧ i.size = 1) (hgd : P.eqGuardType P.depth T = false)
    (hx : evO fr x = some (.v (.pair (.arr m (.int k)) .unit) X)) (hy : evO fr y = some (.v (.pair (.arr m (.int k)) .unit) Y)) (hX : X.1 = xs) (hY : Y.1 = ys) (hc : (match op with
      | .eql => some (decide (xs = ys))
      | .neq => some (!decide (xs = ys))
      | _ => none) = some c) : Reads P ⟨dst, .binOp op T x y yT, ty, pos, aft, g⟩ fr H (.bool c) := fun Γ n ρ w a s => by
  have hval : ∀ {o : Operand} {X : (Ty.pair (.arr m (.int k)) .unit).D} {xs : List Int}, evO fr o = some (.v (.pair (.arr m (.int k)) .unit) X) → X.1 = xs → a.eval o = .agg (xs.map (Value.int k)).toArray ∧ xs.length = m := by
    intro o X xs ho hX
    obtain ⟨F, ⟨cs, ⟨c1, c2, F1, F2, e1, _, h1, h2⟩, e⟩, _⟩ := s.ev ho
    rw [hX] at h1
    obtain ⟨e3, l3⟩ := rv_ints ⟨c1, h1, rfl⟩
    obtain ⟨h2, _⟩ := h2
    subst h2
    refine ⟨?_, l3⟩
    rw [e, e1, List.append_nil]
    exact e3
  obtain ⟨e1, l1⟩ := hval hx hX
  obtain ⟨e2, l2⟩ := hval hy hY
  obtain ⟨i, hi, hsz⟩ := hi
  have hcell : P.cellsOf E = 1 := by simp [Program.cellsOf, hi, hsz]
  have hpart : ∀ (l : List Int) (w' : World), l.length = m → (part f.type (l.map (Value.int k)).toArray f.offset).run P w' = .ok (.agg (l.map (Value.int k)).toArray) w' := fun l w' hl => by
    have e0 : ((l.map (Value.int k)).toArray).extract 0 m = (l.map (Value.int k)).toArray := by
      have hs : ((l.map (Value.int k)).toArray).size = m := by simp [hl]
      conv => lhs; rw [← hs]
      exact Array.extract_size
    simp only [part, hft, hfo, Sem.run_bind, haA, hsA, Result.andThen_ok, if_true, Sem.run_pure, Nat.zero_add, e0]
  have heq : ∀ w', (Op.equal T (a.eval x) (a.eval y)).run P w' = .ok (decide (xs = ys)) w' := fun w' => by
    unfold Op.equal Op.maxDepth
    rw [e1, e2, run_equalIn_struct w' 9999 T _ _ hT hst, hfs]
    have h1 := run_equalIn_array (P := P) w' 9998 (xs.map (Value.int k)).toArray (ys.map (Value.int k)).toArray hA hi
    have h2 := eqItems_ints (P := P) (d := 9997) hE ha hcell w' xs ys [] [] (by rw [l1, l2]) rfl
    simp only [List.nil_append, List.length_nil, l1, ← List.range_eq_range'] at h2
    rw [h2] at h1
    have hne : (f.name ≠ "_") := by simpa using hfn
    have hA' : (Op.equalIn 9999 f.type (.agg (xs.map (Value.int k)).toArray) (.agg (ys.map (Value.int k)).toArray)).run P w' = .ok (decide (xs = ys)) w' := by rw [hft]; exact h1
    simp only [Op.eqFields, Sem.run_bind, hpart xs _ l1, hpart ys _ l2, Result.andThen_ok, hA', hne, ne_eq, not_false_eq_true, if_true]
    by_cases h : xs = ys
    · simp [h, Op.eqFields]
    · simp [h]
  refine ⟨.bool c, rfl, fun w' _ => ?_⟩
  have hg1 : ∀ w', (eqGuard op T x y (a.eval x) (a.eval y)).run P w' = .ok () w' := fun w' => by
    rw [e1, e2]
    unfold eqGuard
    cases op <;> simp [hgd, program, Sem.run, Sem.run_bind]
  have h3 : (Go.binOp op T (a.eval x) (a.eval y)).run P w' = .ok (.bool c) w' := by
    cases op <;> simp at hc
    · subst hc
      rw [e1, e2] at heq ⊢
      simp [Go.binOp, Sem.run_bind, heq]
    · rw [e1, e2] at heq ⊢
      simp [Go.binOp, Sem.run_bind, heq, hc]
  simp only [execOp, Sem.run_bind, hg1, h3, Result.andThen_ok, Sem.run_pure]
end
end Go.GA
end
section
namespace Go.GA
open Go Go.RowKit
section
variable {P : Program} {n : Sz} {fr : Fr} {H : Hp} {dst : Option Nat} {ty : TypeId} {pos : String} {aft : Array Edge} {g : Option (Nat × Bool)}
/-- the first field of an element -/
theorem r_fieldAddr_elem {S : TypeId} {x : Operand} {k id off sz i : Nat} {fs : Array Field} {fd : Field} {s' : Nat} (hu : P.underlying S = some (.struct fs)) (hf : fs[k]? = some fd) (hs : ∀ w, (sizeOf fd.type).run P w = .ok s' w) (hs0 : Nat.beq s' 0 = false) (h0 : fd.offset = 0)
    (hx : evO fr x = some (.elem id off sz i)) : Reads P ⟨dst, .fieldAddr S x k, ty, pos, aft, g⟩ fr H (.elem id off sz i) := fun Γ n ρ w a s => by
  obtain ⟨b, kk, hρ, e⟩ := s.ev hx
  have hne : s' ≠ 0 := Nat.ne_of_beq_eq_false hs0
  refine ⟨.pointer (some ⟨b, off + i * sz, none⟩), ⟨b, kk, hρ, rfl⟩, fun w' _ => ?_⟩
  simp [execOp, Instr.fieldAt, e, Sem.run_bind, run_underlying hu, hf, fieldPlace, hs, hne, addr_add, h0, Instr.sureAddr]
theorem r_load_elem2s {T : TypeId} {x : Operand} {id i m j z z2 : Nat} {u : Ty} {xs : List (Ty.pair (.arr m u) .unit).D} {X : (Ty.pair (.arr m u) .unit).D} {L : List u.D} {e : u.D} (hf : u.flat = true) (ha : ∀ w, (isAgg T).run P w = .ok u.agg w) (hs : ∀ w, (sizeOf T).run P w = .ok u.sz w) (hz : m * u.sz = z) (hz2 : u.sz = z2)
    (hx : evO fr x = some (.elem2 id 0 z i z2 j)) (hg : hget H id = some (.row (.pair (.arr m u) .unit) xs)) (hi : i < xs.length) (hX : xs.getD i (Ty.dflt (.pair (.arr m u) .unit)) = X) (hL : X.1 = L) (hj : j < m) (he : L.getD j u.dflt = e) :
    Reads P ⟨dst, .load T x, ty, pos, aft, g⟩ fr H (ofTy u e) := fun Γ n ρ w a s => by
  subst hz; subst hz2
  obtain ⟨b, k, hρ, ex⟩ := s.ev hx
  obtain ⟨ℓ, hLk, _⟩ := s.heap
  have he0 : elemsAt H id 0 = some ⟨.pair (.arr m u) .unit, xs⟩ := by unfold elemsAt; rw [hg]
  obtain ⟨c, T', p, mid, q, F, hb, hc, hp, hm, _⟩ := elemsAt_ok hLk he0 hρ
  rw [split_at xs i hi (Ty.dflt (.pair (.arr m u) .unit))] at hm
  obtain ⟨c1, c2, c3, G, em, hc1, hR, hG⟩ := RelL.mid hm (fun x c F h => Rc.len _ h)
  rw [hX] at hR
  have hlt' : (xs.take i).length = i := by rw [List.length_take]; omega
  rw [hlt'] at hc1
  replace hc1 : c1.length = i * (m * u.sz) := by rw [hc1]; rfl
  obtain ⟨d1, d2, G1, G2, e1, e2, r1, r2⟩ := hR
  rw [hL] at r1
  obtain ⟨hl, hR2⟩ := r1
  have hjl : j < L.length := by omega
  rw [split_at L j hjl u.dflt] at hR2
  obtain ⟨f1, f2, f3, G3, ef, hf1, hRf, _⟩ := RelL.mid hR2 (fun x c F h => Rc.len _ h)
  rw [he] at hRf
  have hlt2 : (L.take j).length = j := by rw [List.length_take]; omega
  rw [hlt2] at hf1
  have hGn := Rc.flat u hf hRf
  subst hGn
  refine ⟨mkV u f2, ra_ofTy hRf (by simp), fun w' hk => ?_⟩
  have := run_loadVar_at (P := P) (t := u) (E := T) (w := w') (b := b) (c := c) (T := T') (z := (0, 0)) (pre := p ++ (c1 ++ f1)) (mid := f2) (post := f3 ++ (d2 ++ (c3 ++ q))) (kept_get hk hb) (by rw [hc, em, e1, ef]; simp) (Rc.len u hRf) agg_sz ha hs
  have hoff : (p ++ (c1 ++ f1)).length = 0 + i * (m * u.sz) + j * u.sz := by rw [List.length_append, List.length_append, hp, hc1, hf1]; omega
  rw [hoff] at this
  simp only [execOp, ex, Instr.loadAt, Instr.sureAddr, Sem.run_bind, Sem.run_pure, Result.andThen_ok, this]
theorem r_load_elem2s_int {T : TypeId} {x : Operand} {id i m j z : Nat} {q : IntKind} {xs : List (List Int × Unit)} {X : List Int × Unit} {L : List Int} {e : Int} (ha : ∀ w, (isAgg T).run P w = .ok false w) (hs : ∀ w, (sizeOf T).run P w = .ok 1 w) (hz : m * 1 = z)
    (hx : evO fr x = some (.elem2 id 0 z i 1 j)) (hg : hget H id = some (.row (.pair (.arr m (.int q)) .unit) xs)) (hi : i < xs.length) (hX : xs.getD i (List.replicate m 0, ()) = X) (hL : X.1 = L) (hj : j < m) (he : L.getD j 0 = e) :
    Reads P ⟨dst, .load T x, ty, pos, aft, g⟩ fr H (.int q e) := r_load_elem2s (u := .int q) rfl ha hs hz rfl hx hg hi hX hL hj he
end
end Go.GA
end
section
namespace Go.GA
open Go Go.RowKit

section
variable {P : Program} {ops : Array Oper} {Q : Exit → Act → World → Prop}
/-- every head that is not of the first ones is waited for by a later one up to m -/
def sink2B (ops : Array Oper) (m : Nat) (l0 : Array Bool) : Bool :=
  (List.range m).all fun i => l0.getD i false || (List.range (m + 1)).any fun j => decide (i < j) && Region.waitsFor .any ops j i

theorem tail_waits2 {n : Nat} {l0 listed : Array Bool} (hs : sink2B ops n l0 = true) (hc : Region.chainB .any ops n = true) (hn : n < ops.size) (inv : HeadInv .any ops n listed)
    (h0 : ∀ i, l0.getD i false = true → listed.getD i false = true) :
    ∀ (d i : Nat), n - i = d → i < n → listed.getD i true = false → ∀ t, n ≤ t → t ∉ Region.ready .any ops listed := by
  intro d
  induction d using Nat.strongRecOn with
  | _ d ih =>
    intro i hd hi hun t ht hr
    obtain ⟨_, ot, hot, hall⟩ := mem_ready.1 hr
    have htlt : t < ops.size := (Array.getElem?_eq_some_iff.1 hot).1
    by_cases htn : t = n
    · subst htn
      have h1 := List.all_eq_true.1 hs i (List.mem_range.2 hi)
      rcases Bool.or_eq_true _ _ ▸ h1 with h1 | h1
      · have := h0 i h1
        rw [getD_both hun] at this; cases this
      obtain ⟨j, hj, hj2⟩ := List.any_eq_true.1 h1
      simp only [Bool.and_eq_true, decide_eq_true_eq] at hj2
      obtain ⟨oj, hoj, e, he, hb, hon⟩ := Region.waitsFor_spec hj2.2
      have hjle : j ≤ t := by have := List.mem_range.1 hj; omega
      by_cases hjt : j = t
      · subst hjt
        have : oj = ot := Option.some.inj (hoj.symm.trans hot)
        subst this
        have h2 := hall e he hb
        rw [hon, getD_both hun] at h2
        cases h2
      · cases hl : listed.getD j false with
        | true =>
          have h2 := inv.closed j oj hoj hl e he hb
          rw [hon, getD_both hun] at h2
          cases h2
        | false =>
          have hjs : j < listed.size := by rw [inv.size]; omega
          exact ih (t - j) (by omega) j rfl (by omega) (getD_in hjs hl) t (Nat.le_refl _) hr
    · have h1 := List.all_eq_true.1 hc t (List.mem_range.2 htlt)
      simp only [Bool.or_eq_true, decide_eq_true_eq] at h1
      rcases h1 with h1 | h1
      · omega
      · obtain ⟨o', ho', e, he, hb, hon⟩ := Region.waitsFor_spec h1
        have : o' = ot := Option.some.inj (ho'.symm.trans hot)
        subst this
        have h2 := hall e he hb
        rw [hon, getD_both (inv.tail (t - 1) (by omega) (by omega))] at h2
        cases h2

theorem wpAny_of_AK2 {m g : Nat} {l0 : Array Bool} {T : Act → World → Prop} (hs : sink2B ops m l0 = true) (hc : Region.chainB .any ops m = true) (hm : m < ops.size)
    (hT : ∀ listed a w, HeadInv .any ops m listed → (∀ j, j < m → listed.getD j false = true) → T a w → wpAny P .any ops Q g listed a w) :
    ∀ {w0 : World} (f : Nat) (listed : Array Bool) (a : Act) (w : World), HeadInv .any ops m listed → (∀ i, l0.getD i false = true → listed.getD i false = true) → wpAK P ops Q m T w0 f listed a w → wpAny P .any ops Q (f + g) listed a w
  | _, 0, listed, a, w, inv, _, h => by
    rw [Nat.zero_add]
    exact hT listed a w inv h.1 (h.2 w (Kept.refl w))
  | _, f + 1, listed, a, w, inv, hl, h => by
    obtain ⟨⟨i0, hi0, him0⟩, hall⟩ := h w (Kept.refl w)
    have e : f + 1 + g = (f + g) + 1 := by omega
    rw [e]
    refine ⟨fun h0 => (by rw [h0] at hi0; cases hi0), fun i hi => ?_⟩
    have him : i < m := by
      rcases Nat.lt_or_ge i m with h' | h'
      · exact h'
      · exact absurd hi (tail_waits2 hs hc hm inv hl _ i0 rfl him0 (mem_ready.1 hi0).1 i h')
    exact wpOp_mono (fun a' w' h3 => wpAny_of_AK2 hs hc hm hT f _ a' w' (inv.set hi him) (fun j hj => getD_set_true (hl j hj)) h3.2) (hall i hi him)
end

section
variable {P : Program} {Γ : Ctx} {n : Sz} {Q : Exit → Act → World → Prop} {fr fr' : Fr} {H H' : Hp} {all : Array Oper} {ty : TypeId} {pos : String} {aft : Array Edge} {op : Op}
def AP (P : Program) (Γ : Ctx) (n : Sz) (all : Array Oper) (Q : Exit → Act → World → Prop) (g : Nat) (listed : Array Bool) (fr : Fr) (H : Hp) : Prop :=
  ∀ ρ w a, SIM Γ n ρ w a fr H → wpAny P .any all Q g listed a w
theorem aw_drawP {id : Nat} {l : List Oper} (N : Nat) (hN : l.toArray.size = N) (hm : P.follows .mixedOrders = true) (h : AP P Γ n l.toArray Q N (Array.replicate N false) fr H) :
    AW P Γ n (.region id l.toArray true) Q fr H := fun ρ w a s => by
  subst hN
  exact wp_region_any hm (h ρ _ a s.drew)
def readyB (all : Array Oper) (listed : Array Bool) (i : Nat) : Bool := (Region.ready .any all listed).contains i && Region.free .any all listed i
theorem ap_move {g : Nat} {listed : Array Bool} (i : Nat) {d t : Nat} {x : AV} (hsel : Region.noSelect all = true) (hQ : ∀ c a w, Q (.panic c) a w → False) (hi : all[i]? = some ⟨some d, .move (.tmp t), ty, pos, aft, none⟩)
    (hn : readyB all listed i = true) (hx : get fr t = some x) (hd : Nat.blt d n.n = true) (h : AP P Γ n all Q g (listed.setIfInBounds i true) ((d, x) :: fr) H) : AP P Γ n all Q (g + 1) listed fr H := fun ρ w a s => by
  simp only [readyB, Bool.and_eq_true] at hn
  have hv := s.ev (o := .tmp t) hx
  refine wpAny_first (v := a.eval (.tmp t)) hi (fun j o cs b ho => Region.noSelect_spec hsel j o cs b ho) (fun c a w hq => (hQ _ _ _ hq).elim) g listed a w (Region.free_spec hi hn.2) (by simpa using hn.1) (.inl ⟨rfl, fun w' => rfl⟩) ?_
  exact h ρ w (a.put (some d) _) (s.put hd hv)
def closedB (ops : Array Oper) (m : Nat) (l0 : Array Bool) : Bool :=
  decide (l0.size = ops.size) && ((List.range ops.size).all fun j => !l0.getD j false || match ops[j]? with
    | some oj => oj.after.all fun e => !Region.binds .any e || l0.getD e.on false
    | none => true) && (List.range ops.size).all fun t => decide (t < m) || !l0.getD t true
theorem closed_inv {ops : Array Oper} {m : Nat} {l0 : Array Bool} (h : closedB ops m l0 = true) : HeadInv .any ops m l0 := by
  simp only [closedB, Bool.and_eq_true, decide_eq_true_eq] at h
  obtain ⟨⟨h1, h2⟩, h3⟩ := h
  refine ⟨h1, fun j oj hj hl e he hb => ?_, fun t ht ht' => ?_⟩
  · have hlt : j < ops.size := (Array.getElem?_eq_some_iff.1 hj).1
    have := List.all_eq_true.1 h2 j (List.mem_range.2 hlt)
    rw [hl, hj] at this
    simp only [Bool.not_true, Bool.false_or] at this
    have := Array.all_eq_true_iff_forall_mem.1 this e he
    rw [hb] at this
    simpa using this
  · have := List.all_eq_true.1 h3 t (List.mem_range.2 ht')
    simp only [Bool.or_eq_true, decide_eq_true_eq, Bool.not_eq_true'] at this
    rcases this with h | h
    · omega
    · exact h
def draw2B (l : List Oper) (m : Nat) (l0 : Array Bool) : Bool :=
  Region.noSelect l.toArray && decide (m < l.length) && sink2B l.toArray m l0 && Region.chainB .any l.toArray m && Region.seqB .any l.toArray (l.length - m) m (canon m l.length) && closedB l.toArray m l0
theorem ap_an {l : List Oper} {g f : Nat} {l0 : Array Bool} (m : Nat) (hB : draw2B l m l0 = true) (hg : g = f + (l.length - m)) (h : AN P Γ n l.toArray Q m (fun a w => wpList P l.toArray Q (l.drop m) a w) f l0 fr H) :
    AP P Γ n l.toArray Q g l0 fr H := fun ρ w a s => by
  simp only [draw2B, Bool.and_eq_true, decide_eq_true_eq] at hB
  obtain ⟨⟨⟨⟨⟨hsel, hn⟩, hs⟩, hc⟩, hseq⟩, hcl⟩ := hB
  rw [hg]
  refine wpAny_of_AK2 (P := P) (Q := Q) (ops := l.toArray) (m := m) (g := l.length - m) hs hc (by simpa using hn) (fun listed a w inv hdone hT => ?_) f l0 a w (closed_inv hcl) (fun _ h => h) (h ρ w a s)
  have hcanon : listed = canon m l.length := by
    apply Array.ext
    · rw [inv.size]; simp [canon]; omega
    · intro i h1 h2
      have hi : i < l.length := by rw [inv.size] at h1; simpa using h1
      by_cases him : i < m
      · have := hdone i him
        simp [h1] at this
        simp [canon, this, him]
      · have := inv.tail i (by omega) (by simpa using hi)
        simp [h1] at this
        simp only [canon, List.getElem_toArray, this]
        rw [List.getElem_append_right (by simp; omega)]
        simp
  rw [hcanon]
  have := wpAny_of_seq (P := P) (ops := l.toArray) (md := .any) (Q' := Q) (l.drop m) m (canon m l.length) a w (fun j => by simp [List.getElem?_drop]) (by simpa using hseq) hT
  simpa using this
end
end Go.GA
end
section
namespace Go.GA
open Go Go.RowKit
section
variable {P : Program} {Γ : Ctx} {n : Sz} {Q : Exit → Act → World → Prop} {fr fr' : Fr} {H H' Hc : Hp} {all : Array Oper} {ops : List Oper} {ty : TypeId} {pos : String} {aft : Array Edge}
theorem ao_callV [LaidS P Γ] {g : Option (Nat × Bool)} {d : Nat} {f : FuncId} {fn : Func} {fo : Operand} {as : List Operand} {tys : Array TypeId} {caps xs ys : List AV} {R : AV → Hp → Prop} (l : List Nat) (base : Nat) (hg : gOK all fr g) (hc : ACallsV P f ys Hc R)
    (hf : P.funcs[f]? = some fn) (hbody : fn.body.isNone = false) (hname : (fn.name == "runtime.NumGoroutine") = false)
    (hfo : evO fr fo = some (.fn f caps)) (hxs : evOs fr as = some xs) (hA : xs ++ caps = AV.renL (sg l base) ys) (hR : SubHR H (sg l base) Hc) (hS : SubH H Hc (sg l base) Hc) (hks : hkeys Hc = List.range l.length) (hl : allLt base l = true) (hln : injB (fun i => i) l = true)
    (hfr : allLt base (Fr.ids fr) = true) (hH : allLt base (Hp.ids H) = true) (hK : Nat.ble n.K base = true) (hd : Nat.blt d n.n = true)
    (h : ∀ r H', R r H' → AO P Γ n all Q ops ((d, r.ren (sg l base)) :: fr) (hdel l H ++ hren (sg l base) H')) :
    AO P Γ n all Q (⟨some d, .call ⟨.value fo, as.toArray, tys⟩, ty, pos, aft, g⟩ :: ops) fr H := fun ρ w a s => by
  obtain ⟨cv, hcv, hcaps⟩ := s.ev hfo
  refine wpList_go (s.wanted hg) fun K hK' => ?_
  unfold Oper.wp
  rw [run_callv rfl hcv hf hbody hname, Oper.upon_enter]
  refine (call_simV hc l base s (evOs_append (evOs_ok (fun o y h => s.ev h) hxs) hcaps) hA hR hS hks hl hln hfr hH hK).mono ?_
  rintro e w' ⟨v, r, H', ρ', rfl, hR, s', hv, _⟩
  exact hK' _ _ (h r H' hR ρ' w' _ (s'.put hd hv))
end
section
variable {P : Program} {Γ : Ctx} {n : Sz} {Q : Exit → Act → World → Prop} {fr fr' : Fr} {H H' : Hp} {all : Array Oper} {ty : TypeId} {pos : String} {aft : Array Edge} {op : Op}
variable {m f base : Nat} {T : Act → World → Prop} {listed : Array Bool}
/-- the same in a line of operations -/
theorem ao_frz {ops : List Oper} (hfr : SubFr H H' (fun i => i) fr fr') (hH : SubH H H' (fun i => i) H') (hi : injB (fun i => i) (hkeys H') = true) (h : AO P Γ n all Q ops fr' H') : AO P Γ n all Q ops fr H := AO.sub (sub_mk (fun i => i) hfr hH hi (fun _ _ => rfl)) h
end
end Go.GA
end
section
namespace Go.GA
open Go Go.RowKit
section
variable {P : Program} {n : Sz} {fr : Fr} {H : Hp} {dst : Option Nat} {ty : TypeId} {pos : String} {aft : Array Edge} {g : Option (Nat × Bool)}
end
end Go.GA
end
section
namespace Go.GA
open Go Go.RowKit
end Go.GA
end
section
namespace Go.GA
open Go Go.RowKit
section
variable {P : Program} {Γ : Ctx} {n : Sz} {Q : Exit → Act → World → Prop} {fr fr' : Fr} {H H' : Hp} {dst : Option Nat} {ty : TypeId} {pos : String} {aft : Array Edge} {g : Option (Nat × Bool)} {all : Array Oper}
variable {xT yT : TypeId} {x y : Operand} {a b : Int} {k : IntKind}
end
end Go.GA
end
section
namespace Go.GA
open Go Go.RowKit
section
variable {P : Program} {Γ : Ctx} {n : Sz} {Q : Exit → Act → World → Prop} {fr fr' : Fr} {H H' : Hp} {all : Array Oper} {ty : TypeId} {pos : String} {aft : Array Edge} {op : Op}
variable {g : Nat} {listed : Array Bool}
end
end Go.GA
namespace Go.GA
open Go Go.RowKit
section
variable {P : Program} {Γ : Ctx} {n : Sz} {Q : Exit → Act → World → Prop} {fr fr1 : Fr} {H H1 : Hp} {all : Array Oper} {g0 : Nat} {listed0 : Array Bool}
end
end Go.GA
end
section
namespace Go.GA
open Go Go.RowKit
section
variable {P : Program} {n : Sz} {fr : Fr} {H : Hp} {dst : Option Nat} {ty : TypeId} {pos : String} {aft : Array Edge} {g : Option (Nat × Bool)}
end
end Go.GA
end
section
namespace Go.GA
open Go Go.RowKit

/-- 'ao' with the frame 'fro' waits; Γi is the context of what runs meanwhile; the blocks X may have been turned -/
structure Susp (Γo : Ctx) (no : Sz) (fro : Fr) (ao : Act) (X : Nat → Prop) (Γi : Ctx) (K B : Nat) : Prop where
  ex : ∃ ρ w H, SIM Γo no ρ w ao fro H ∧ w.heap.size = B ∧
    (∀ i, i < K → Γi.ρ0 i = ρ i) ∧ (∀ b, ρ.N b → Γi.ρ0.N b) ∧ (∀ b, Γi.ρ0.N b → b < B → ρ.N b) ∧ (∀ b, Γi.M0 b → namB ρ H b ∨ B ≤ b) ∧
    (∀ k, k < B → ¬ X k → ¬ namB ρ H k → Γi.W0.heap[k]? = w.heap[k]?) ∧ Γi.W0.os = w.os ∧ Γi.W0.tape = w.tape ∧ Γi.W0.output = w.output
  L0 : ∀ b, Γi.L0 b → Γo.L0 b ∨ Γo.W0.heap.size ≤ b
  ML : ∀ b, Γi.M0 b → Γi.L0 b
  size : B ≤ Γi.W0.heap.size
  X : ∀ k, X k → Γi.ρ0.N k
  ids : ∀ t x, get fro t = some x → ∀ i ∈ x.ids, i < K
  hK : no.K ≤ K

theorem SIM.susp {Γo : Ctx} {no : Sz} {ρ : Rho} {w : World} {ao : Act} {fro : Fr} {H : Hp} (s : SIM Γo no ρ w ao fro H) {K : Nat}
    (X : Nat → Prop) (w1 : World) (N : Nat → Prop) (dl : List Deferred) (ho : w1.os = w.os ∧ w1.tape = w.tape ∧ w1.output = w.output) (hsz : w.heap.size ≤ w1.heap.size) (hb : ∀ k, k < w.heap.size → ¬ X k → w1.heap[k]? = w.heap[k]?)
    (hN1 : ∀ b, ρ.N b → N b) (hN2 : ∀ b, N b → b < w.heap.size → ρ.N b) (hN3 : ∀ b, N b → b < w1.heap.size) (hX : ∀ k, X k → N k) :
    ∃ Γi, Γi.W0 = w1 ∧ Γi.ρ0 = ⟨ρ.f, N⟩ ∧ Γi.dl = dl ∧ (∀ b, Γi.M0 b ↔ namB ρ H b) ∧ (∀ b, Γi.M0 b → Γi.L0 b) ∧ (∀ b, Γi.L0 b → Γo.L0 b ∨ Γo.W0.heap.size ≤ b) ∧
      ((∀ t x, get fro t = some x → ∀ i ∈ x.ids, i < K) → no.K ≤ K → Susp Γo no fro ao X Γi K w.heap.size) ∧
      ∀ (ni : Sz) (a : Act) (fr : Fr), a.tmps.size = ni.n → a.defers = dl → (∀ t x, get fr t = some x → t < ni.n ∧ RA ρ (World.hf w) (ownB ρ H) x (a.tmps.getD t undef)) → SIM Γi ni ⟨ρ.f, N⟩ w1 a fr H := by
  obtain ⟨ℓ, hk, hl⟩ := s.heap
  have hap := s.apart hl
  have hML : ∀ b, namB ρ H b → inL ℓ H b := fun b ⟨e, he, k, hbk⟩ => ⟨e, he, hk.own_mem e he b k hbk⟩
  have hL0 : ∀ b, inL ℓ H b → Γo.L0 b ∨ Γo.W0.heap.size ≤ b := fun b ⟨e, he, hbe⟩ => hl e he b hbe
  refine ⟨{ W0 := w1, M0 := namB ρ H, L0 := inL ℓ H, ρ0 := ⟨ρ.f, N⟩, dl := dl }, rfl, rfl, rfl, fun _ => Iff.rfl, hML, hL0, fun hids hK => ⟨⟨ρ, w, H, s, rfl, fun _ _ => rfl, hN1, hN2, fun b h => .inl h, fun k hk' hx _ => hb k hk' hx, ho⟩, hL0, hML, hsz, hX, hids, hK⟩, ?_⟩
  intro ni a fr h1 h2 h3
  have hnX : ∀ b, ¬ ρ.N b → b < w.heap.size → ¬ X b := fun b hn hlt hx => hn (hN2 b (hX b hx) hlt)
  have hM : ∀ b, ¬ ownB ρ H b → World.hf w b ≠ none → World.hf w1 b = World.hf w b ∧ ¬ ownB ⟨ρ.f, N⟩ H b := fun b hbn hh => by
    have hlt := hf_lt hh
    refine ⟨hb b hlt (hnX b (fun h => hbn (.inr h)) hlt), ?_⟩
    rintro (h | h)
    · exact hbn (.inl h)
    · exact hbn (.inr (hN2 b h hlt))
  refine ⟨⟨h2, rfl, fun b h => ⟨fun ⟨e, he, hbe⟩ => ?_, hN3 b h⟩⟩, h1, Ext.refl _ _, fun _ _ => rfl, fun b h => .inl h, ⟨ℓ, ⟨fun e he => (hk.blk e he).same (fun _ _ => rfl) hM (fun b hbe => ?_), hk.nd, hk.dj, hk.ids⟩, fun e he b h => .inl ⟨e, he, h⟩⟩, fun t x hx => ?_⟩
  · have hlt := hf_lt (hk.there he b hbe)
    exact hap b (hN2 b h hlt) ⟨e, he, hbe⟩
  · have hlt := hf_lt (hk.there he b hbe)
    exact hb b hlt (hnX b (fun h => hap b h ⟨e, he, hbe⟩) hlt)
  · obtain ⟨h4, h5⟩ := h3 t x hx
    exact ⟨h4, h5.same x (fun _ _ => rfl) hM⟩

section
variable {Γo Γi : Ctx} {no ni : Sz} {fro fr : Fr} {ao a : Act} {X : Nat → Prop} {K B : Nat} {ρ : Rho} {w w2 : World} {H : Hp}
/-- a frame that waits goes on waiting while the one that ran waits, too -/
theorem Susp.trans (s : Susp Γo no fro ao X Γi K B) (t : SIM Γi ni ρ w a fr H) (hn : ni.K = K) {Γa : Ctx} {Y : Nat → Prop} (hρ : ∀ i, i < K → Γa.ρ0 i = ρ i) (hNa : Γa.ρ0.N = Γi.ρ0.N) (hM : ∀ b, Γa.M0 b → namB ρ H b) (hML : ∀ b, Γa.M0 b → Γa.L0 b)
    (hL : ∀ b, Γa.L0 b → Γi.L0 b ∨ Γi.W0.heap.size ≤ b) (ho : Γa.W0.os = w.os ∧ Γa.W0.tape = w.tape ∧ Γa.W0.output = w.output) (hsz : w.heap.size ≤ Γa.W0.heap.size) (hb : ∀ k, k < w.heap.size → ¬ Y k → Γa.W0.heap[k]? = w.heap[k]?) (hY : ∀ k, k < B → Y k → X k) :
    Susp Γo no fro ao X Γa K B := by
  obtain ⟨ρs, ws, Hs, ss, eB, e1, e2, e3, e4, e10, e6, e7, e8⟩ := s.ex
  have e9 := s.size
  have hsz1 : Γo.W0.heap.size ≤ ws.heap.size := ss.ext.size
  have hsz2 : Γi.W0.heap.size ≤ w.heap.size := t.ext.size
  refine ⟨⟨ρs, ws, Hs, ss, eB, fun i hi => ((hρ i hi).trans (t.keep i (by omega))).trans (e1 i hi), fun b h => hNa ▸ e2 b h, fun b h => e3 b (hNa ▸ h), fun b h => ?_, fun k hk hx hm => ?_, (ho.1.trans t.ext.os).trans e6, (ho.2.1.trans t.ext.tape).trans e7, (ho.2.2.trans t.ext.output).trans e8⟩, fun b h => ?_, hML, by omega, fun k h => hNa ▸ s.X k h, s.ids, s.hK⟩
  · rcases t.own b (hM b h) with h | h
    · exact e4 b h
    · exact .inr (by omega)
  · refine ((hb k (by omega) (fun hy => hx (hY k hk hy))).trans (t.ext.block k (by omega) (fun h => ?_))).trans (e10 k hk hx hm)
    rcases e4 k h with h | h
    · exact hm h
    · omega
  · rcases hL b h with h | h
    · exact s.L0 b h
    · exact .inr (by omega)
theorem Susp.laid {P : Program} [hL : LaidS P Γo] (s : Susp Γo no fro ao X Γi K B) (hX : ∀ k, X k → ∀ c T z, Γo.W0.heap[k]? ≠ some (.cells c T z)) : LaidS P Γi := by
  obtain ⟨ρs, ws, Hs, ss, eB, e1, e2, e3, e4, e10, e6, e7, e8⟩ := s.ex
  have key : ∀ g, g < Γo.W0.heap.size → ¬ Γo.M0 g → ¬ X g → Γi.W0.heap[g]? = Γo.W0.heap[g]? ∧ ¬ Γi.M0 g := fun g hlt h2 hnX => by
    have hn : ¬ namB ρs Hs g := fun h => by
      rcases ss.own g h with h | h
      · exact h2 h
      · omega
    have hlt2 : g < ws.heap.size := Nat.lt_of_lt_of_le hlt ss.ext.size
    exact ⟨(e10 g (by omega) hnX hn).trans (ss.ext.block g hlt h2), fun h => by
      rcases e4 g h with h | h
      · exact hn h
      · omega⟩
  refine ⟨fun g hg => ?_, fun nm g hnm hg => ?_⟩
  · obtain ⟨h1, h2⟩ := hL.laid.1 g hg
    have hlt := tab_lt hg h1
    have hnX : ¬ X g := fun hx => by
      have h3 := h1
      unfold Lib.TabIs World.var? at h3
      rw [hg] at h3
      simp only [Option.bind_some] at h3
      split at h3
      · rename_i hh; exact hX g hx _ _ _ hh
      · cases h3
    obtain ⟨k1, k2⟩ := key g hlt h2 hnX
    exact ⟨tab_same hg k1 h1, k2⟩
  · obtain ⟨h1, h2⟩ := hL.laid.2 nm g hnm hg
    have hlt := err_lt h1
    have hnX : ¬ X g := fun hx => by
      obtain ⟨c, T, z, ev, h3, _⟩ := h1
      exact hX g hx _ _ _ h3
    obtain ⟨k1, k2⟩ := key g hlt h2 hnX
    exact ⟨err_same k1 h1, k2⟩
end
end Go.GA
end
section
namespace Go.GA
open Go Go.RowKit

/-- what is fixed while the loop runs -/
structure Env where
  Γ : Ctx
  n : Sz
  fr : Fr
  a : Act
  l : Nat
  D : Nat
  lp : Loop
  K : Nat
  B : Nat
  Q : Exit → Act → World → Prop
def mark (D : Nat) : Deferred := { target := .collected D, args := #[] }
def Env.nb (E : Env) : Sz := ⟨E.n.n, E.K⟩

/-- a context in which the caller waits; its record -/
structure Running (E : Env) (Γi : Ctx) (r : Loop) : Prop where
  susp : Susp E.Γ E.n E.fr E.a (fun _ => False) Γi E.K E.B
  nl : Γi.ρ0.N E.l
  nD : Γi.ρ0.N E.D
  ne : E.D ≠ E.l
  at_l : Γi.W0.heap[E.l]? = some (.loop r)
  dD : Γi.W0.heap[E.D]? = some (.deferred (some []))
  new : E.B ≤ E.l ∧ E.B ≤ E.D
  base : E.Γ.W0.heap.size ≤ E.B

/-- what was done in between leaves of the context before -/
structure RB (Γ Γ2 : Ctx) (n : Sz) : Prop where
  ext : Ext Γ.M0 Γ.W0 Γ2.W0
  keep : ∀ i, i < n.K → Γ2.ρ0 i = Γ.ρ0 i
  M0 : ∀ b, Γ2.M0 b → Γ.M0 b ∨ Γ.W0.heap.size ≤ b
  L0 : ∀ b, Γ2.L0 b → Γ.L0 b ∨ Γ.W0.heap.size ≤ b
  N : ∀ b, Γ.ρ0.N b → Γ2.ρ0.N b
  dl : Γ2.dl = [] ∨ ∃ D, Γ2.dl = [mark D] ∧ Γ2.W0.heap[D]? = some (.deferred (some [])) ∧ Γ2.ρ0.N D ∧ Γ.W0.heap.size ≤ D ∧ ¬ Γ2.L0 D ∧ ¬ Γ2.M0 D
theorem RB.refl (Γ : Ctx) (n : Sz) (h : Γ.dl = []) : RB Γ Γ n := ⟨Ext.refl _ _, fun _ _ => rfl, fun _ h => .inl h, fun _ h => .inl h, fun _ h => h, .inl h⟩

section
variable {P : Program} {Γ : Ctx} {n : Sz} {Q : Exit → Act → World → Prop} {fr : Fr} {H : Hp}
end
end Go.GA
end
section
namespace Go.GA
open Go Go.RowKit
/-- the fence of a round -/
def WF (ro : Option Nat) : Fence := { Fence.wide with round := ro }
section
variable {P : Program} {ro : Option Nat} {m : Nat}
variable {ops : Array Oper} {Q : Exit → Act → World → Prop}
end
/-- code of a round -/
def AWI (P : Program) (ro : Option Nat) (m : Nat) (Γ : Ctx) (n : Sz) (c : Code) (Q : Exit → Act → World → Prop) (fr : Fr) (H : Hp) : Prop :=
  ∀ ρ w a, SIM Γ n ρ w a fr H → c.wpIn (WF ro) m P Q a w
/-- operations among which stand calls of a loop's body -/
def AOI (P : Program) (m : Nat) (Γ : Ctx) (n : Sz) (all : Array Oper) (Q : Exit → Act → World → Prop) (ops : List Oper) (fr : Fr) (H : Hp) : Prop :=
  ∀ ρ w a, SIM Γ n ρ w a fr H → wpListIn (WF none) m P all Q ops a w
section
variable {P : Program} {ro : Option Nat} {m : Nat} {Γ : Ctx} {n : Sz} {Q : Exit → Act → World → Prop} {fr fr' : Fr} {H H' : Hp}
end
end Go.GA
end
section
namespace Go.GA
open Go Go.RowKit
/-- the loop's record -/
def recOf (fid : FuncId) (tmps : Array Value) (ps : Array Tmp) (assign body : Code) (D : Nat) : Loop := { state := .ready, pending := none, fn := fid, tmps := tmps, params := ps, assign, body, defers := D }
/-- what the environment is made of -/
structure IsEnv (E : Env) (Γ : Ctx) (n : Sz) (fr : Fr) (K : Nat) (Q : Exit → Act → World → Prop) (ps : Array Tmp) (assign body : Code) : Prop where
  size : E.a.tmps.size = n.n
  Γ : E.Γ = Γ
  n : E.n = n
  fr : E.fr = fr
  K : E.K = K
  Q : E.Q = Q
  lp : ∃ fid, E.lp = recOf fid E.a.tmps ps assign body E.D
/-- the iterator waits while a round runs -/
structure Wait (E : Env) (Γi : Ctx) (ni : Sz) (fri : Fr) (ai : Act) (Γx : Ctx) (r : Loop) : Prop where
  susp : ∃ B, Susp Γi ni fri ai (fun k => k = E.l) Γx E.K B
  dl : Γx.dl = []
  at_l : Γx.W0.heap[E.l]? = some (.loop r)

section
variable {P : Program} {Γ Γi Γx : Ctx} {n ni nb : Sz} {Q Q' : Exit → Act → World → Prop} {fr fri frb : Fr} {H : Hp} {E : Env} {K : Nat} {ps : Array Tmp} {assign body : Code} {ai : Act}
end
end Go.GA
end
section
namespace Go.GA
open Go Go.RowKit
section
variable {P : Program} {Γ Γi Γ2 : Ctx} {n ni : Sz} {Q : Exit → Act → World → Prop} {fr fri : Fr} {H : Hp} {E : Env} {K : Nat} {ps : Array Tmp} {assign body : Code} {fn : Func} {R : AV → Hp → Prop}
end
end Go.GA
namespace Go.GA
open Go Go.RowKit
section
variable {P : Program} {Γ : Ctx} {n : Sz} {Q : Exit → Act → World → Prop} {fr fr' : Fr} {H H' : Hp} {E : Env} {K : Nat} {ps : Array Tmp} {assign body : Code} {ro : Option Nat} {m : Nat}
theorem AWI.sub {c : Code} (hs : Sub n fr H fr' H') (h : AWI P ro m Γ n c Q fr' H') : AWI P ro m Γ n c Q fr H := fun ρ w a s => let ⟨ρ', s'⟩ := hs Γ ρ w a s; h ρ' w a s'
theorem AOI.sub {all : Array Oper} {ops : List Oper} (hs : Sub n fr H fr' H') (h : AOI P m Γ n all Q ops fr' H') : AOI P m Γ n all Q ops fr H := fun ρ w a s => let ⟨ρ', s'⟩ := hs Γ ρ w a s; h ρ' w a s'
theorem IsEnv.ready (h : IsEnv E Γ n fr K Q ps assign body) : E.lp.state = .ready := by
  obtain ⟨fid, e⟩ := h.lp
  rw [e]; rfl
end
end Go.GA
end
section
namespace Go.GA
open Go Go.RowKit
section
variable {P : Program} {fr : Fr} {H : Hp} {dst : Option Nat} {ty : TypeId} {pos : String} {aft : Array Edge} {g : Option (Nat × Bool)}
end
end Go.GA
end
section
namespace Go.GA
open Go Go.RowKit
section
variable {P : Program} {n : Sz} {fr : Fr} {H : Hp} {dst : Option Nat} {ty : TypeId} {pos : String} {aft : Array Edge} {g : Option (Nat × Bool)}
end
end Go.GA
end
section
namespace Go.GA
open Go Go.RowKit
theorem info_size {P : Program} {E : TypeId} {n : Nat} (hs : ∀ w, (sizeOf E).run P w = .ok n w) : ∃ i, P.info? E = some i ∧ i.size = n := by
  have h := hs default
  cases hi : P.info? E with
  | none => simp [sizeOf, typeInfo, program, stuck, Sem.run_bind, Sem.run, hi, Result.andThen] at h
  | some i =>
    refine ⟨i, rfl, ?_⟩
    simp [sizeOf, typeInfo, program, stuck, Sem.run_bind, Sem.run, hi, Result.andThen] at h
    exact h
def AV.isPtr : AV → Bool
  | .ref .. => true
  | .elem .. => true
  | .elem2 .. => true
  | .cptr .. => true
  | _ => false
section
variable {P : Program} {fr : Fr} {H : Hp} {dst : Option Nat} {ty : TypeId} {pos : String} {aft : Array Edge} {g : Option (Nat × Bool)}
theorem r_nilCheck {x : Operand} {y : AV} (hx : evO fr x = some y) (hp : y.isPtr = true) : Reads P ⟨dst, .nilCheck x, ty, pos, aft, g⟩ fr H y := fun Γ n ρ w a s => by
  have hv := s.ev hx
  refine ⟨a.eval x, hv, fun w' _ => ?_⟩
  have : ∃ ad, a.eval x = .pointer (some ad) := by
    cases y <;> simp only [AV.isPtr, Bool.false_eq_true] at hp
    all_goals simp only [RA] at hv
    all_goals first
      | (obtain ⟨b, k, _, e⟩ := hv; exact ⟨_, e⟩)
      | (obtain ⟨b, off, F, c, T, z, pre, mid, post, e, _⟩ := hv; exact ⟨_, e⟩)
  obtain ⟨ad, e⟩ := this
  simp [execOp, e, Sem.run_pure]
end
end Go.GA
end
section
namespace Go.GA
open Go Go.RowKit
section
variable {P : Program} {fr : Fr} {H : Hp} {dst : Option Nat} {ty : TypeId} {pos : String} {aft : Array Edge} {g : Option (Nat × Bool)}
end
end Go.GA
end
section
namespace Go.GA
open Go Go.RowKit
section
variable {H : Hp}
end
section
variable {P : Program} {n : Sz} {fr : Fr} {H : Hp} {dst : Option Nat} {ty : TypeId} {pos : String} {aft : Array Edge} {g : Option (Nat × Bool)}
/-- a struct literal, as plain data -/
theorem r_build_stv {T : TypeId} {fields : Array Field} {l : List (Nat × Operand)} {z : Value} {cs : List Comp} (t : Ty) (y : t.D) (pl : List (Nat × Nat)) (ht : P.underlying T = some (.struct fields)) (hz : ∀ w, (zeroValue T).run P w = .ok z w) (hzs : z.cells.toList = zc t)
    (hp : Places P fields.toList pl) (hb : buildC fr (zC t) pl l = some cs) (hf : t.flatArrs = true) (ha : t.agg = true) (hy : cs = tyComps t y) :
    Reads P ⟨dst, .build T l.toArray, ty, pos, aft, g⟩ fr H (.v t y) := fun Γ n' ρ w a s => by
  obtain ⟨B, h1, h2⟩ := fill_comps (fr := fr) (ρ := ρ) (h := World.hf w) (M := ownB ρ H) (ev := a.eval) (fun o y h => s.ev h) (A := z.cells) (by rw [hzs]; exact zC_ok _ _ _ t) hb
  rw [hy] at h2
  obtain ⟨F, h3, h4⟩ := comps_ty t hf h2
  refine ⟨.agg B, ⟨F, ⟨_, h3, by simp [mkV, ha]⟩, h4⟩, fun w' _ => ?_⟩
  have hm : ∀ w, (fields.mapM fun f => do pure (f.offset, ← sizeOf f.type) : Sem (Array (Nat × Nat))).run P w = .ok pl.toArray w := fun w => by
    have e : fields = fields.toList.toArray := rfl
    rw [e, List.mapM_toArray, map_eq_pure_bind, Sem.run_bind, places_run hp w]
    rfl
  simp only [execOp, Instr.build, Sem.run_bind, hz, run_underlying ht, Result.andThen_ok, hm, List.map_toArray]
  rw [h1]
  simp
end
end Go.GA
end
section
namespace Go.GA
open Go Go.RowKit
def eqI (a b : Int) : Bool := decide (a = b)
def eqB (a b : Bool) : Bool := a == b
def eqIs (a b : List Int) : Bool := decide (a = b)
/-- equality of plain data -/
def eqT : (t : Ty) → t.D → t.D → Bool
  | .int _, x, y => eqI x y
  | .bool, x, y => eqB x y
  | .str, x, y => eqS x y
  | .arr _ (.int _), x, y => eqIs x y
  | .pair a b, x, y => eqT a x.1 y.1 && eqT b x.2 y.2
  | .unit, _, _ => true
  | _, _, _ => false
def TEq (P : Program) (n : Nat) (T : TypeId) (t : Ty) : Prop := ∀ (w : World) (d : Nat) (h : Hf) (x y : t.D) (c1 c2 : List Value) (F1 F2 : List Nat), n ≤ d → Rc h t x c1 F1 → Rc h t y c2 F2 → (Op.equalIn d T (mkV t c1) (mkV t c2)).run P w = .ok (eqT t x y) w
section
variable {P : Program}
theorem TEq.mono {n n' : Nat} {T : TypeId} {t : Ty} (hn : Nat.ble n n' = true) (h : TEq P n T t) : TEq P n' T t := fun w d hf x y c1 c2 F1 F2 hd h1 h2 => h w d hf x y c1 c2 F1 F2 (Nat.le_trans (Nat.le_of_ble_eq_true hn) hd) h1 h2
variable {fr : Fr} {H : Hp} {dst : Option Nat} {ty : TypeId} {pos : String} {aft : Array Edge} {g : Option (Nat × Bool)}
end
end Go.GA
end
section
namespace Go.GA
open Go Go.RowKit
section
variable {P : Program} {n : Sz} {fr : Fr} {H : Hp} {dst : Option Nat} {ty : TypeId} {pos : String} {aft : Array Edge} {g : Option (Nat × Bool)}
end
end Go.GA
end
section
namespace Go.GA
open Go Go.RowKit
section
variable {Γ : Ctx} {n : Sz} {fr : Fr} {H : Hp}
end
end Go.GA
end
section
namespace Go.GA
open Go Go.RowKit
section
variable {P : Program} {n : Sz} {fr : Fr} {H : Hp} {dst : Option Nat} {ty : TypeId} {pos : String} {aft : Array Edge} {g : Option (Nat × Bool)}
end
end Go.GA
end
section
namespace Go.GA
open Go Go.RowKit
section
variable {P : Program} {fr : Fr} {H : Hp} {dst : Option Nat} {ty : TypeId} {pos : String} {aft : Array Edge} {g : Option (Nat × Bool)}
end
end Go.GA
end
section
namespace Go.GA
open Go Go.RowKit
section
variable {P : Program} {n : Sz} {fr : Fr} {H : Hp} {dst : Option Nat} {ty : TypeId} {pos : String} {aft : Array Edge} {g : Option (Nat × Bool)}
end
end Go.GA
end
section
namespace Go.GA
open Go Go.RowKit
section
variable {P : Program} {n : Sz} {fr : Fr} {H : Hp} {dst : Option Nat} {ty : TypeId} {pos : String} {aft : Array Edge} {g : Option (Nat × Bool)}
end
end Go.GA
end
section
namespace Go.GA
open Go Go.RowKit
section
variable {P : Program} {n : Sz} {fr : Fr} {H : Hp} {dst : Option Nat} {ty : TypeId} {pos : String} {aft : Array Edge} {g : Option (Nat × Bool)}
/-! ### A state seen under other names -/
def oneC : List Comp → Bool
  | [] => true
  | .cell a :: cs => a.one && oneC cs
  | .arr .. :: cs => oneC cs
def oneH : Hp → Bool
  | [] => true
  | (_, .var cs) :: H => oneC cs && oneH H
  | (_, .row ..) :: H => oneH H
  | (_, .brow ..) :: H => oneH H
theorem subFr_rr {H H' : Hp} {σ : Nat → Nat} {fr : Fr} : ∀ {fr' : Fr}, fr'.map (fun e => get fr e.1) = fr'.map (fun e => some (e.2.ren σ)) → SubFr H H' σ fr fr'
  | [], _ => trivial
  | (t, y) :: l, h => by
    simp only [List.map_cons, List.cons.injEq] at h
    exact ⟨⟨_, h.1, ad_ren rfl⟩, subFr_rr h.2⟩
theorem adC_rr {H H' : Hp} {σ : Nat → Nat} : ∀ {cs : List Comp}, oneC cs = true → AdC H H' σ (compsRen σ cs) cs
  | [], _ => trivial
  | .cell a :: cs, h => by
    simp only [oneC, Bool.and_eq_true] at h
    exact ⟨ad_ren rfl, h.1, adC_rr h.2⟩
  | .arr t n xs :: cs, h => ⟨rfl, adC_rr (cs := cs) h⟩
theorem subH_rr {H H'' : Hp} {σ : Nat → Nat} : ∀ {H' : Hp}, H'.map (fun e => hget H (σ e.1)) = H'.map (fun e => some (e.2.ren σ)) → oneH H' = true → SubH H H'' σ H'
  | [], _, _ => trivial
  | (i, .var cs) :: l, h, ho => by
    simp only [List.map_cons, List.cons.injEq] at h
    simp only [oneH, Bool.and_eq_true] at ho
    exact ⟨⟨_, h.1, adC_rr ho.1⟩, subH_rr h.2 ho.2⟩
  | (i, .row t xs) :: l, h, ho => by
    simp only [List.map_cons, List.cons.injEq] at h
    exact ⟨⟨_, h.1, rfl⟩, subH_rr h.2 ho⟩
  | (i, .brow xs) :: l, h, ho => by
    simp only [List.map_cons, List.cons.injEq] at h
    exact ⟨⟨_, h.1, rfl⟩, subH_rr h.2 ho⟩
theorem sub_rr (σ : Nat → Nat) {fr' : Fr} {H' : Hp} (hfr : fr'.map (fun e => get fr e.1) = fr'.map (fun e => some (e.2.ren σ))) (hH : H'.map (fun e => hget H (σ e.1)) = H'.map (fun e => some (e.2.ren σ))) (ho : oneH H' = true) (hi : injB σ (hkeys H') = true) (hK : ∀ i, i < n.K → σ i = i) : Sub n fr H fr' H' :=
  sub_mk σ (subFr_rr hfr) (subH_rr hH ho) hi hK
theorem sub_r1 (σ : Nat → Nat) {fr' : Fr} {H' : Hp} (hK : ∀ i, i < n.K → σ i = i) (h : (fr'.map (fun e => get fr e.1), H'.map (fun e => hget H (σ e.1)), oneH H', injB σ (hkeys H')) = (fr'.map (fun e => some (e.2.ren σ)), H'.map (fun e => some (e.2.ren σ)), true, true)) : Sub n fr H fr' H' := by
  simp only [Prod.mk.injEq] at h
  exact sub_rr σ h.1 h.2.1 h.2.2.1 h.2.2.2 hK
abbrev ci (e : Int) : Comp := .cell (.int .i64 e)
end
end Go.GA
end
section
namespace Go.GA
open Go Go.RowKit
section
variable {P : Program} {Γ : Ctx} {n : Sz} {Q : Exit → Act → World → Prop} {fr : Fr} {H : Hp} {op : Op} {ty : TypeId} {pos : String} {aft : Array Edge} {all : Array Oper}
theorem ao_r {ops : List Oper} {d : Nat} {x : AV} (hr : Reads P ⟨some d, op, ty, pos, aft, none⟩ fr H x) (hd : Nat.blt d n.n = true)
    (h : AO P Γ n all Q ops ((d, x) :: fr) H) : AO P Γ n all Q (⟨some d, op, ty, pos, aft, none⟩ :: ops) fr H := ao_read trivial hr hd h
theorem an_r {m f : Nat} {T : Act → World → Prop} {listed : Array Bool} (i : Nat) {d : Nat} {x : AV} (hQ : ∀ c a w, Q (.panic c) a w → False) (hi : all[i]? = some ⟨some d, op, ty, pos, aft, none⟩) (hn : (Region.noSelect all && nextB all listed m i) = true) (hr : Reads P ⟨some d, op, ty, pos, aft, none⟩ fr H x) (hd : Nat.blt d n.n = true)
    (h : AN P Γ n all Q m T f (listed.setIfInBounds i true) ((d, x) :: fr) H) : AN P Γ n all Q m T (f + 1) listed fr H := by
  simp only [Bool.and_eq_true] at hn
  exact an_read i hn.1 hQ hi hn.2 trivial hr hd h
end
end Go.GA
end
section
namespace Go.GA
open Go Go.RowKit
theorem two_args {ρ : Rho} {h : Hf} {M : Nat → Prop} {x y : AV} {vs : List Value} (hr : RAs ρ h M [x, y] vs) : ∃ u v, vs = [u, v] ∧ RA ρ h M x u ∧ RA ρ h M y v := by
  obtain ⟨u, vs', rfl, hu, h2⟩ := hr
  obtain ⟨v, vs'', rfl, hv, h3⟩ := h2
  simp only [RAs] at h3
  subst h3
  exact ⟨u, v, rfl, hu, hv⟩
end Go.GA
end
section
namespace Go.GA
open Go Go.RowKit
section
variable {P : Program} {fr : Fr} {H : Hp} {dst : Option Nat} {ty : TypeId} {pos : String} {aft : Array Edge} {g : Option (Nat × Bool)}
end
end Go.GA
end
section
namespace Go.GA
open Go Go.RowKit
def marks1 (n : Nat) (k : Int) : List Int := (List.range n).map fun i : Nat => k + (i : Int)
def total2 : List (List Int) → Int
  | [] => 0
  | x :: xs => (x.length : Int) + total2 xs
def marks2 : List (List Int) → Int → List (List Int)
  | [], _ => []
  | x :: xs, k => marks1 x.length k :: marks2 xs (k + (x.length : Int))
/-- a slice of ints, its cell and its blocks -/
def RI (h : Hf) (x : List Int) (c : List Value) (F : List Nat) : Prop := Rc h (.slice (.int .i64)) x c F
theorem relInt {h : Hf} : ∀ {xs : List Int} {cs F}, RelL (Rc h (.int .i64)) xs cs F → cs = xs.map (Value.int .i64) ∧ F = []
  | [], _, _, ⟨e, e2⟩ => ⟨e, e2⟩
  | x :: xs, _, _, ⟨c1, c2, F1, F2, e1, e2, h1, h2⟩ => by
    obtain ⟨e3, e4⟩ := h1
    obtain ⟨e5, e6⟩ := relInt h2
    subst e1 e2 e3 e4 e5 e6
    exact ⟨rfl, rfl⟩

/-- the rows have been marked -/
def Marked (w w' : World) (xs : List (List Int)) (k : Int) (mid : List Value) (F : List Nat) : Prop :=
  RelL (RI (World.hf w')) (marks2 xs k) mid F ∧ NoFz (World.hf w') F ∧ (∀ x, x ∉ F → w'.heap[x]? = w.heap[x]?) ∧ w'.heap.size = w.heap.size ∧ w'.os = w.os ∧ w'.tape = w.tape ∧ w'.output = w.output
/-- the function f marks -/
structure MarkSS (P : Program) (f : FuncId) : Prop where
  nil : ∀ (a : Option Addr) (c : Nat) (k : Int) (w : World), Calls P f #[.slice a 0 c, .int .i64 k] w fun e w' => e = .returned (.int .i64 k) ∧ w' = w
  rows : ∀ (b cap n : Nat) (c : Array Value) (T : TypeId) (xs : List (List Int)) (mid post : List Value) (F : List Nat) (k : Int) (w : World), n = xs.length → n ≤ 1000000000 → 0 ≤ k → k ≤ 1000000000 → total2 xs ≤ 1000000000 →
    w.heap[b]? = some (.cells c T (0, 0)) → c.toList = mid ++ post → RelL (RI (World.hf w)) xs mid F → NoFz (World.hf w) F → F.Nodup → b ∉ F →
    Calls P f #[.slice (some ⟨b, 0, none⟩) n cap, .int .i64 k] w fun e w' => e = .returned (.int .i64 (k + total2 xs)) ∧ Marked w w' xs k mid F

mutual
/-- no data lies behind it but in own blocks -/
def AV.plain : AV → Bool
  | .v t _ => t.flat
  | .cptr .. => false
  | .cav _ => false
  | .gd _ x => x.plain
  | .tup xs => AV.plainL xs
  | .st xs => AV.plainL xs
  | .fn _ caps => AV.plainL caps
  | _ => true
def AV.plainL : List AV → Bool
  | [] => true
  | x :: xs => x.plain && AV.plainL xs
end
mutual
theorem RA.plain {ρ : Rho} {h h' : Hf} {M M' : Nat → Prop} : ∀ (x : AV) {v : Value}, x.plain = true → RA ρ h M x v → RA ρ h' M' x v
  | .int .., _, _, hx => hx
  | .bool _, _, _, hx => hx
  | .str _, _, _, hx => hx
  | .v t x, _, hp, hx => by
    obtain ⟨F, ⟨cs, h1, e⟩, hF⟩ := hx
    have hf : F = [] := Rc.flat t hp h1
    subst hf
    exact ⟨[], ⟨cs, h1.same t (by simp), e⟩, by simp⟩
  | .cptr .., _, hp, _ => by cases hp
  | .cav _, _, hp, _ => by cases hp
  | .ref .., _, _, hx => hx
  | .elem .., _, _, hx => hx
  | .elem2 .., _, _, hx => hx
  | .os _, _, _, hx => hx
  | .view .., _, _, hx => hx
  | .nilsl, _, _, hx => hx
  | .nilp, _, _, hx => hx
  | .nilf, _, _, hx => hx
  | .fn f caps, _, hp, hx => by
    obtain ⟨vs, e, h1⟩ := hx
    exact ⟨vs, e, RAs.plain caps hp h1⟩
  | .tup xs, _, hp, hx => by
    obtain ⟨vs, e, h1⟩ := hx
    exact ⟨vs, e, RAs.plain xs hp h1⟩
  | .st xs, _, hp, hx => by
    obtain ⟨vs, e, h1⟩ := hx
    exact ⟨vs, e, RAs.plain xs hp h1⟩
  | .gd g x, _, hp, hx => by
    cases g
    · exact hx
    · exact RA.plain (v := _) x hp hx
  | .junk, _, _, _ => trivial
  | .yl _, _, _, hx => hx
  | .ov .., _, _, hx => hx
theorem RAs.plain {ρ : Rho} {h h' : Hf} {M M' : Nat → Prop} : ∀ (xs : List AV) {vs : List Value}, AV.plainL xs = true → RAs ρ h M xs vs → RAs ρ h' M' xs vs
  | [], _, _, hx => hx
  | x :: xs, _, hp, hx => by
    obtain ⟨v, vs', e, h1, h2⟩ := hx
    simp only [AV.plainL, Bool.and_eq_true] at hp
    exact ⟨v, vs', e, RA.plain x hp.1 h1, RAs.plain xs hp.2 h2⟩
end
def plainC : List Comp → Bool
  | [] => true
  | .cell a :: r => a.plain && plainC r
  | .arr .. :: r => plainC r
theorem RComps.plain {ρ : Rho} {h h' : Hf} {M M' : Nat → Prop} : ∀ {cs : List Comp} {vs F}, plainC cs = true → RComps ρ h M cs vs F → (∀ b ∈ F, h' b = h b) → RComps ρ h' M' cs vs F
  | [], _, _, _, hx, _ => hx
  | .cell a :: r, _, _, hp, hx, hF => by
    obtain ⟨v, cs', e, h1, h2, h3⟩ := hx
    simp only [plainC, Bool.and_eq_true] at hp
    exact ⟨v, cs', e, h1, RA.plain a hp.1 h2, RComps.plain hp.2 h3 hF⟩
  | .arr t n xs :: r, _, _, hp, hx, hF => by
    obtain ⟨c1, c2, F1, F2, e, eF, h1, h2⟩ := hx
    subst eF
    exact ⟨c1, c2, F1, F2, e, rfl, h1.same _ (fun b hb => hF b (List.mem_append_left _ hb)), RComps.plain (by simpa [plainC] using hp) h2 (fun b hb => hF b (List.mem_append_right _ hb))⟩
theorem RBlk.plain {ρ : Rho} {h h' : Hf} {M M' : Nat → Prop} {id : Nat} : ∀ {B : Blk} {L}, (∀ cs, B = .var cs → plainC cs = true) → RBlk ρ h M id B L → (∀ b ∈ L, h' b = h b) → RBlk ρ h' M' id B L
  | .var cs, _, hp, hx, hF => by
    obtain ⟨b, k, c, T, F, h1, h2, h3, e⟩ := hx
    subst e
    exact ⟨b, k, c, T, F, h1, by rw [hF b (by simp)]; exact h2, h3.plain (hp cs rfl) (fun b hb => hF b (List.mem_cons_of_mem _ hb)), rfl⟩
  | .row t xs, _, _, hx, hF => by
    obtain ⟨hl, ⟨h1, h2⟩ | ⟨b, cap, c, T, F, mid, post, h1, h2, h3, h4, e, h5⟩⟩ := hx
    · exact ⟨hl, .inl ⟨h1, h2⟩⟩
    · subst e
      exact ⟨hl, .inr ⟨b, cap, c, T, F, mid, post, h1, by rw [hF b (by simp)]; exact h2, h3,
        h4.mono (fun x c F' hF' hc => hc.same t (fun b hb => hF b (List.mem_cons_of_mem _ (hF' b hb)))), rfl, h5.1, h5.2.1, h5.2.2.same (fun b hb => hF b (List.mem_cons_of_mem _ hb))⟩⟩
  | .brow xs, _, _, hx, hF => by
    obtain ⟨b, cap, c, T, post, h1, h2, h3, e, h4⟩ := hx
    subst e
    exact ⟨b, cap, c, T, post, h1, by rw [hF b (by simp)]; exact h2, h3, rfl, h4⟩
section
variable {P : Program} {Γ : Ctx} {n : Sz} {Q : Exit → Act → World → Prop} {fr : Fr} {H : Hp} {all : Array Oper} {ops : List Oper} {ty : TypeId} {pos : String} {aft : Array Edge}
end
end Go.GA
end
section
namespace Go.GA
open Go Go.RowKit
/-- slices.Repeat -/
def p_slices_Repeat (x0 : List Int) (x1 : Int) : Option (List Int) := if x0.length = 1 ∧ 0 ≤ x1 ∧ x1 ≤ 6 then some (List.replicate x1.toNat (x0.headD 0)) else none
theorem repeat_calls {P : Program} {f : FuncId} (hR : ∀ (b off cap : Nat) (v : Int) (k : Nat) (w : World), k ≤ 6 → b < w.heap.size → w.cell? ⟨b, off, none⟩ = some (.int .i64 v) →
      Calls P f #[.slice (some ⟨b, off, none⟩) 1 cap, .int .i64 (k : Int)] w fun e w' => ∃ c T, e = .returned (.slice (some ⟨w.heap.size, 0, none⟩) k k) ∧ w'.heap[w.heap.size]? = some (.cells c T (0, 0)) ∧ c.toList = (List.replicate k v).map (Value.int .i64) ∧ Below w.heap.size w w')
    {x0 : List Int} {x1 : Int} {r : List Int} (h : Is (p_slices_Repeat x0 x1) (some r)) : ACalls P f [.v (.slice (.int .i64)) x0, .int .i64 x1] [] (fun r' H' => r' = .os 0 ∧ H' = [(0, .row (.int .i64) r)]) := by
  unfold p_slices_Repeat at h
  obtain ⟨hn, h⟩ := is_guard h
  obtain rfl := is_some h
  obtain ⟨k, rfl⟩ : ∃ k : Nat, x1 = (k : Int) := ⟨x1.toNat, by omega⟩
  obtain ⟨v, rfl⟩ : ∃ v, x0 = [v] := by
    cases x0 with
    | nil => simp at hn
    | cons v l => cases l with
      | nil => exact ⟨v, rfl⟩
      | cons _ _ => simp at hn
  intro ρ w vs ℓ h1 h2 hN hLd
  obtain ⟨u, z, rfl, hu, hz⟩ := two_args h1
  simp only [RA] at hz
  subst hz
  obtain ⟨F, ⟨cs, ⟨h0, hc⟩, e⟩, hF⟩ := hu
  rcases hc with ⟨hx, _⟩ | ⟨b, off, cap, F', e1, e2, c, T, zz, pre, mid, post, h4, h5, h6, h7, h8⟩
  · cases hx
  · obtain ⟨e3, e4⟩ := relInt h7
    have hlt : b < w.heap.size := hf_lt (w := w) (by rw [h4]; simp)
    have hcell : w.cell? ⟨b, off, none⟩ = some (.int .i64 v) := by
      unfold World.cell?
      rw [show w.heap[b]? = _ from h4]
      simp only [Option.isSome_none, Bool.false_eq_true, if_false]
      rw [← Array.getElem?_toList, h5, e3, ← h6, List.getElem?_append_right (Nat.le_refl _)]
      simp
    have eu : u = .slice (some ⟨b, off, none⟩) 1 (1 + cap) := by rw [e, e1]; rfl
    subst eu
    refine (hR b off (1 + cap) v k w (by omega) hlt hcell).mono ?_
    rintro e w' ⟨c2, T2, rfl, hn2, hc2, hb⟩
    let ρ' : Rho := ⟨fun i => if i = 0 then some (w.heap.size, k, k) else none, ρ.N⟩
    have hcs : c2.size = k := by rw [← Array.length_toList, hc2]; simp
    have rel : ∀ (n : Nat), RelL (Rc (World.hf w') (.int .i64)) (List.replicate n v) ((List.replicate n v).map (Value.int .i64)) [] := by
      intro n
      induction n with
      | zero => exact ⟨rfl, rfl⟩
      | succ n ih => exact ⟨[.int .i64 v], (List.replicate n v).map (Value.int .i64), [], [], by simp [List.replicate_succ], rfl, ⟨rfl, rfl⟩, ih⟩
    have ek : ((k : Int)).toNat = k := by omega
    refine ⟨_, .os 0, [(0, .row (.int .i64) (List.replicate (k : Int).toNat ([v].headD 0)))], ρ', fun _ => [w.heap.size], rfl, ⟨⟨⟨rfl, rfl⟩, rfl, rfl⟩, by simp, ⟨hb.os, hb.tape, hb.output, hb.size, fun i hi _ => hb.block i hi⟩, ⟨?_, ?_, ?_, by simp⟩, ?_, ?_, .inr ⟨w.heap.size, k, k, rfl, rfl⟩, rfl⟩⟩
    · intro e he
      obtain rfl := List.mem_singleton.1 he
      refine ⟨by show (List.replicate (k : Int).toNat v).length ≤ lim; rw [List.length_replicate, ek]; unfold lim; omega, .inr ⟨w.heap.size, k, c2, T2, [], (List.replicate k v).map (Value.int .i64), [], ?_, hn2, by simp [hc2], by show RelL _ (List.replicate (k : Int).toNat v) _ []; rw [ek]; exact rel k, rfl, ?_, by rw [hcs]; simp [Ty.sz], NoFz.nil⟩⟩
      · show some (w.heap.size, k, k) = some (w.heap.size, k, (List.replicate (k : Int).toNat v).length)
        rw [List.length_replicate, ek]
      · show (List.replicate (k : Int).toNat v).length ≤ k
        rw [List.length_replicate, ek]; exact Nat.le_refl _
    · intro e he
      simp
    · intro e he e' he' hne
      obtain rfl := List.mem_singleton.1 he
      obtain rfl := List.mem_singleton.1 he'
      exact absurd rfl hne
    · rintro b ⟨e, he, hb⟩
      right
      simp only [List.mem_singleton] at hb
      omega
    · rintro b ⟨e, he, kk, hb⟩
      right
      obtain rfl := List.mem_singleton.1 he
      have : (w.heap.size, k, k) = (b, kk) := by simpa [ρ'] using hb
      have := (Prod.mk.inj this).1
      omega
end Go.GA
end
