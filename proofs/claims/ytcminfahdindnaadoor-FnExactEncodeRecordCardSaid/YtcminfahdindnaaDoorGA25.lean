/- Structs with slices of their own: loaded, built, handed over; nil slices in variables. -/
import Derived.Test.YtcminfahdindnaaDoorGA24
namespace Go.GA
open Go Go.RowKit
def compAVs : List Comp → List AV
  | [] => []
  | .cell a :: cs => a :: compAVs cs
  | .arr t n xs :: cs => .v (.arr n t) xs :: compAVs cs
/-- arrays in it hold no slices -/
def flatComps : List Comp → Bool
  | [] => true
  | .cell _ :: cs => flatComps cs
  | .arr t _ _ :: cs => t.flat && flatComps cs
theorem compAVs_append : ∀ (a b : List Comp), compAVs (a ++ b) = compAVs a ++ compAVs b
  | [], _ => rfl
  | .cell _ :: a, b => by simp [compAVs, compAVs_append a b]
  | .arr .. :: a, b => by simp [compAVs, compAVs_append a b]
theorem comps_st {ρ : Rho} {h : Hf} {M : Nat → Prop} : ∀ {cs : List Comp} {vs F}, flatComps cs = true → RComps ρ h M cs vs F → ∃ us, RAs ρ h M (compAVs cs) us ∧ cellsOf us = vs ∧ F = []
  | [], vs, F, _, hr => ⟨[], rfl, by rw [hr.1]; rfl, hr.2⟩
  | .cell a :: cs, vs, F, hf, hr => by
    obtain ⟨v, cs', e, h1, h2, h3⟩ := hr
    obtain ⟨us, h4, h5, h6⟩ := comps_st (cs := cs) hf h3
    refine ⟨v :: us, ⟨v, us, rfl, h2, h4⟩, ?_, h6⟩
    rw [e, ← h5]
    simp [cellsOf, one_cells h2 h1]
  | .arr t n xs :: cs, vs, F, hf, hr => by
    simp only [flatComps, Bool.and_eq_true] at hf
    obtain ⟨c1, c2, F1, F2, e, eF, h1, h2⟩ := hr
    obtain ⟨us, h4, h5, h6⟩ := comps_st (cs := cs) hf.2 h2
    have hF1 := Rc.flat (.arr n t) hf.1 h1
    subst hF1; subst h6
    refine ⟨.agg c1.toArray :: us, ⟨_, us, rfl, ⟨[], ⟨c1, h1, rfl⟩, by simp⟩, h4⟩, ?_, by rw [eF]; rfl⟩
    rw [e, ← h5]
    simp [cellsOf, Value.cells]
theorem tyC_flat : ∀ (t : Ty) (x : t.D), t.flatArrs = true → flatComps (tyComps t x) = true
  | .arr n t, x, h => by
    have h' : t.flat = true := h
    simp [tyComps, flatComps, h']
  | .pair a b, x, h => by
    simp only [Ty.flatArrs, Bool.and_eq_true] at h
    have key : ∀ (c d : List Comp), flatComps c = true → flatComps d = true → flatComps (c ++ d) = true := by
      intro c
      induction c with
      | nil => intro d _ h; exact h
      | cons e c ih =>
        intro d h1 h2
        cases e with
        | cell a => exact ih d h1 h2
        | arr t n xs => simp only [List.cons_append, flatComps, Bool.and_eq_true] at h1 ⊢; exact ⟨h1.1, ih d h1.2 h2⟩
    exact key _ _ (tyC_flat a x.1 h.1) (tyC_flat b x.2 h.2)
  | .unit, x, h => rfl
  | .int k, x, h => rfl
  | .bool, x, h => rfl
  | .str, x, h => rfl
  | .slice t, x, h => rfl
theorem ras_append {ρ : Rho} {h : Hf} {M : Nat → Prop} : ∀ {xs ys : List AV} {vs}, RAs ρ h M (xs ++ ys) vs → ∃ us ws, vs = us ++ ws ∧ RAs ρ h M xs us ∧ RAs ρ h M ys ws
  | [], ys, vs, hr => ⟨[], vs, rfl, rfl, hr⟩
  | x :: xs, ys, vs, hr => by
    obtain ⟨v, vs', e, h1, h2⟩ := hr
    obtain ⟨us, ws, e2, h3, h4⟩ := ras_append (xs := xs) h2
    exact ⟨v :: us, ws, by rw [e, e2]; rfl, ⟨v, us, rfl, h1, h3⟩, h4⟩
theorem ras_one {ρ : Rho} {h : Hf} {M : Nat → Prop} {x : AV} {vs} (hr : RAs ρ h M [x] vs) : ∃ v, vs = [v] ∧ RA ρ h M x v := by
  obtain ⟨v, vs', e, h1, h2⟩ := hr
  simp only [RAs] at h2
  subst h2
  exact ⟨v, e, h1⟩
/-- parts that are plain make up a whole that is -/
theorem ras_ty {ρ : Rho} {h : Hf} {M : Nat → Prop} : ∀ (t : Ty) {x : t.D} {us}, t.flatArrs = true → RAs ρ h M (compAVs (tyComps t x)) us → ∃ F, Rc h t x (cellsOf us) F ∧ ∀ b ∈ F, ¬ M b
  | .arr n t, x, us, _, hr => by
    obtain ⟨v, rfl, F, ⟨cs, hc, e⟩, hM⟩ := ras_one hr
    subst e
    exact ⟨F, by simpa [cellsOf, mkV, Ty.agg, Value.cells] using hc, hM⟩
  | .pair a b, x, us, hf, hr => by
    simp only [Ty.flatArrs, Bool.and_eq_true] at hf
    simp only [tyComps, compAVs_append] at hr
    obtain ⟨u1, u2, e, h1, h2⟩ := ras_append hr
    obtain ⟨F1, r1, n1⟩ := ras_ty a hf.1 h1
    obtain ⟨F2, r2, n2⟩ := ras_ty b hf.2 h2
    exact ⟨F1 ++ F2, ⟨_, _, F1, F2, by rw [e]; simp [cellsOf], rfl, r1, r2⟩, fun y hy => by
      rcases List.mem_append.1 hy with h | h
      · exact n1 y h
      · exact n2 y h⟩
  | .unit, _, us, _, hr => by
    have : us = [] := hr
    subst this
    exact ⟨[], ⟨rfl, rfl⟩, by simp⟩
  | .int k, x, us, _, hr => by
    obtain ⟨v, rfl, e⟩ := ras_one hr
    simp only [RA] at e
    subst e
    exact ⟨[], ⟨rfl, rfl⟩, by simp⟩
  | .bool, x, us, _, hr => by
    obtain ⟨v, rfl, e⟩ := ras_one hr
    simp only [RA] at e
    subst e
    exact ⟨[], ⟨rfl, rfl⟩, by simp⟩
  | .str, x, us, _, hr => by
    obtain ⟨v, rfl, e⟩ := ras_one hr
    simp only [RA] at e
    subst e
    exact ⟨[], ⟨rfl, rfl⟩, by simp⟩
  | .slice t, x, us, _, hr => by
    obtain ⟨v, rfl, hv⟩ := ras_one hr
    have h1 := one_cells (x := .v (.slice t) x) hv rfl
    obtain ⟨F, ⟨cs, hc, e⟩, hM⟩ := hv
    obtain ⟨u, rfl⟩ := one_cell (t := .slice t) rfl hc
    obtain rfl : v = u := e
    exact ⟨F, by simpa [cellsOf, h1] using hc, hM⟩
section
variable {P : Program} {Γ : Ctx} {n : Sz} {fr : Fr} {H H' : Hp} {dst : Option Nat} {ty : TypeId} {pos : String} {aft : Array Edge} {g : Option (Nat × Bool)}
/-- a struct with own parts, as plain data -/
theorem ad_st {σ : Nat → Nat} {τ : Ty} {y : τ.D} {xs : List AV} (ha : τ.agg = true) (hf : τ.flatArrs = true) (h : Ads H H' σ xs (compAVs (tyComps τ y))) : Ad H H' σ (.st xs) (.v τ y) := fun ρ hh ℓ hk hm hd v hx => by
  obtain ⟨vs, e, h1⟩ := hx
  obtain ⟨F, hF, hM⟩ := ras_ty τ hf (ads_ok hk hm hd h h1)
  exact ⟨F, ⟨_, hF, by rw [e]; simp [mkV, ha]⟩, hM⟩
/-- a struct with own parts, as another one -/
theorem ad_sts {σ : Nat → Nat} {xs ys : List AV} (h : Ads H H' σ xs ys) : Ad H H' σ (.st xs) (.st ys) := fun ρ hh ℓ hk hm hd v hx => by
  obtain ⟨vs, e, h1⟩ := hx
  exact ⟨vs, e, ads_ok hk hm hd h h1⟩
/-- a whole own variable, or a part of it -/
theorem r_load_st {T : TypeId} {x : Operand} {id off : Nat} {xs : List AV} {cs : List Comp} {m : Nat} (pre mid post : List Comp) (ha : ∀ w, (isAgg T).run P w = .ok true w) (hs : ∀ w, (sizeOf T).run P w = .ok m w) (hm : compsSz mid = m) (hf : flatComps mid = true)
    (hx : evO fr x = some (.ref id off)) (hg : hget H id = some (.var cs)) (hc : cs = pre ++ (mid ++ post)) (ho : compsSz pre = off) (hxs : compAVs mid = xs) :
    Reads P ⟨dst, .load T x, ty, pos, aft, g⟩ fr H (.st xs) := fun Γ n' ρ w a s => by
  obtain ⟨b, k, hρ, e⟩ := s.ev hx
  obtain ⟨ℓ, hL, _⟩ := s.heap
  obtain ⟨b', k', c, T', F, hρ', hb, hcs, _⟩ := hL.get hg
  rw [hρ] at hρ'
  obtain ⟨rfl, rfl⟩ : b = b' ∧ k = k' := by simpa using hρ'
  subst hc; subst hxs
  obtain ⟨v1, v2, F1, F2, ev, _, h1, h2⟩ := RComps.split hcs
  obtain ⟨v3, v4, F3, F4, ev2, _, h3, h4⟩ := RComps.split h2
  obtain ⟨us, hR, hU, _⟩ := comps_st hf h3
  have hl := h1.len
  rw [ho] at hl
  have hl3 := h3.len
  refine ⟨.agg v3.toArray, ⟨us, by rw [hU], hR⟩, fun w' hk => ?_⟩
  have hload : (loadVar T ⟨b, off, none⟩).run P w' = .ok (.agg v3.toArray) w' := by
    unfold loadVar
    rw [Sem.run_bind, ha w']
    simp only [Result.andThen_ok, if_true, Sem.run_bind, hs]
    have hcs : (loadCells ⟨b, off, none⟩ m).run P w' = .ok v3.toArray w' := by
      rw [← hl, show m = v3.length by rw [hl3, hm]]
      have := run_loadVar_at (P := P) (t := .arr v3.length .bool) (E := T) (w := w') (pre := v1) (mid := v3) (post := v4) (kept_get hk hb) (by rw [ev, ev2]) (by simp [Ty.sz]) (by simp [Ty.agg]) ha (by simpa [Ty.sz, hl3, hm] using hs)
      unfold loadVar at this
      rw [Sem.run_bind, ha w'] at this
      simp only [Result.andThen_ok, if_true, Sem.run_bind, hs] at this
      rw [show m = v3.length by rw [hl3, hm]] at this
      cases hh : (loadCells ⟨b, v1.length, none⟩ v3.length).run P w' with
      | ok u w2 =>
        rw [hh] at this
        simpa [mkV, Ty.agg] using this
      | halt q w2 => rw [hh] at this; simp at this
    rw [hcs]
    simp
  simp only [execOp, e, Instr.loadAt, Instr.sureAddr, Sem.run_bind, Sem.run_pure, Result.andThen_ok, hload]
/-! ### Zero values, literals -/
def zC : Ty → List Comp
  | .bool => [.cell (.bool false)]
  | .int k => [.cell (.int k 0)]
  | .str => [.cell (.str .empty)]
  | .slice _ => [.cell .nilsl]
  | .arr n t => [.arr t n (List.replicate n t.dflt)]
  | .pair a b => zC a ++ zC b
  | .unit => []
theorem zC_ok (ρ : Rho) (h : Hf) (M : Nat → Prop) : ∀ (t : Ty), RComps ρ h M (zC t) (zc t) []
  | .bool => ⟨_, _, rfl, rfl, rfl, rfl, rfl⟩
  | .int _ => ⟨_, _, rfl, rfl, rfl, rfl, rfl⟩
  | .str => ⟨_, _, rfl, rfl, rfl, rfl, rfl⟩
  | .slice _ => ⟨_, _, rfl, rfl, rfl, rfl, rfl⟩
  | .arr n t => ⟨zc (.arr n t), [], [], [], by simp, rfl, zc_ok h (.arr n t), rfl, rfl⟩
  | .pair a b => RComps.append (F := []) (G := []) (zC_ok ρ h M a) (zC_ok ρ h M b)
  | .unit => ⟨rfl, rfl⟩
theorem ra_zero_st {t : Ty} {ρ : Rho} {h : Hf} {M : Nat → Prop} {z : Value} {xs : List AV} (hf : flatComps (zC t) = true) (hxs : compAVs (zC t) = xs) (hz : z = .agg (zc t).toArray) : RA ρ h M (.st xs) z := by
  subst hxs
  obtain ⟨us, h1, h2, _⟩ := comps_st hf (zC_ok ρ h M t)
  exact ⟨us, by rw [hz, h2], h1⟩
def Places (P : Program) : List Field → List (Nat × Nat) → Prop
  | [], [] => True
  | f :: fs, (o, s) :: l => f.offset = o ∧ (∀ w, (sizeOf f.type).run P w = .ok s w) ∧ Places P fs l
  | _, _ => False
theorem places_run : ∀ {fs : List Field} {l : List (Nat × Nat)}, Places P fs l → ∀ w, (fs.mapM fun f => do pure (f.offset, ← sizeOf f.type) : Sem (List (Nat × Nat))).run P w = .ok l w
  | [], [], _, w => rfl
  | f :: fs, (o, s) :: l, h, w => by
    obtain ⟨h1, h2, h3⟩ := h
    have ih := places_run h3 w
    subst h1
    simp only [List.mapM_cons, Sem.run_bind, h2, Result.andThen_ok, Sem.run_pure, ih]
  | [], _ :: _, h, _ => h.elim
  | _ :: _, [], h, _ => h.elim
/-- the parts put in, one after the other -/
def buildC (fr : Fr) : List Comp → List (Nat × Nat) → List (Nat × Operand) → Option (List Comp)
  | cs, _, [] => some cs
  | cs, pl, (i, o) :: l => match pl[i]?, evO fr o with
    | some (off, sz), some y => bif boxable y && Nat.beq (compsSz (toComps y)) sz then (match putAt cs off (toComps y) with
      | some cs' => buildC fr cs' pl l
      | none => none) else none
    | _, _ => none
theorem fill_comps {ρ : Rho} {h : Hf} {M : Nat → Prop} {ev : Operand → Value} (hev : ∀ o y, evO fr o = some y → RA ρ h M y (ev o)) {pl : List (Nat × Nat)} : ∀ {l : List (Nat × Operand)} {cs cs' : List Comp} {A : Array Value}, RComps ρ h M cs A.toList [] → buildC fr cs pl l = some cs' →
    ∃ B : Array Value, Instr.fill (pl.toArray[·]?) A (l.map fun p => (p.1, ev p.2)) = some B ∧ RComps ρ h M cs' B.toList []
  | [], cs, cs', A, hA, hb => by
    simp only [buildC, Option.some.injEq] at hb
    subst hb
    exact ⟨A, rfl, hA⟩
  | (i, o) :: l, cs, cs', A, hA, hb => by
    simp only [buildC] at hb
    split at hb
    · rename_i off sz y hpl hy
      cases hc : boxable y && Nat.beq (compsSz (toComps y)) sz with
      | false => rw [hc] at hb; cases hb
      | true =>
        rw [hc] at hb
        simp only [cond_true] at hb
        simp only [Bool.and_eq_true] at hc
        have hsz := Nat.eq_of_beq_eq_true hc.2
        split at hb
        · rename_i c1 hp
          have hn := ra_comps y (hev o y hy) hc.1
          obtain ⟨hle, F', h1, _, h2⟩ := putAt_ok hA hn hp (fun b _ _ => ⟨rfl, by assumption⟩) (fun _ _ => rfl) List.nodup_nil
          have hF : F' = [] := by
            cases F' with
            | nil => rfl
            | cons b F => exact absurd (h2 b (by simp)) (by simp)
          subst hF
          have hl := hn.len
          have hcsz : (ev o).cells.size = sz := by rw [← hsz, ← hl]; simp
          have hfold := foldl_set off (ev o).cells.toList 0 A (by simpa using hle)
          have hfold' : (ev o).cells.zipIdx.foldl (fun (A : Array Value) (p : Value × Nat) => A.setIfInBounds (off + p.2) p.1) A = (A.toList.take off ++ (ev o).cells.toList ++ A.toList.drop (off + (ev o).cells.toList.length)).toArray := by
            rw [← Array.foldl_toList, Array.toList_zipIdx, hfold]; simp
          obtain ⟨B, h3, h4⟩ := fill_comps hev (l := l) (A := (A.toList.take off ++ (ev o).cells.toList ++ A.toList.drop (off + (ev o).cells.toList.length)).toArray) (by simpa using h1) hb
          refine ⟨B, ?_, h4⟩
          simp only [List.map_cons, Instr.fill, List.getElem?_toArray, hpl]
          have hno : ¬ ((ev o).cells.size ≠ sz ∨ off + (ev o).cells.size > A.size) := by
            rw [hcsz]
            have : (ev o).cells.toList.length = sz := by simpa using hcsz
            rw [this] at hle
            simp only [Array.length_toList] at hle
            omega
          rw [if_neg (by simpa using hno)]
          have hfold2 : Array.foldl (fun cs (x : Value × Nat) => match x with | (c, j) => cs.setIfInBounds (off + j) c) A (ev o).cells.zipIdx = (A.toList.take off ++ (ev o).cells.toList ++ A.toList.drop (off + (ev o).cells.toList.length)).toArray := hfold'
          rw [hfold2]
          simpa only [List.getElem?_toArray] using h3
        · cases hb
    · cases hb
/-- a struct literal -/
theorem r_build_st {T : TypeId} {fields : Array Field} {l : List (Nat × Operand)} {z : Value} {cs : List Comp} {xs : List AV} (t : Ty) (pl : List (Nat × Nat)) (ht : P.underlying T = some (.struct fields)) (hz : ∀ w, (zeroValue T).run P w = .ok z w) (hzs : z.cells.toList = zc t)
    (hp : Places P fields.toList pl) (hb : buildC fr (zC t) pl l = some cs) (hf : flatComps cs = true) (hxs : compAVs cs = xs) :
    Reads P ⟨dst, .build T l.toArray, ty, pos, aft, g⟩ fr H (.st xs) := fun Γ n' ρ w a s => by
  subst hxs
  obtain ⟨B, h1, h2⟩ := fill_comps (fr := fr) (ρ := ρ) (h := World.hf w) (M := ownB ρ H) (ev := a.eval) (fun o y h => s.ev h) (A := z.cells) (by rw [hzs]; exact zC_ok _ _ _ t) hb
  obtain ⟨us, h3, h4, _⟩ := comps_st hf h2
  refine ⟨.agg B, ⟨us, by rw [h4], h3⟩, fun w' _ => ?_⟩
  have hm : ∀ w, (fields.mapM fun f => do pure (f.offset, ← sizeOf f.type) : Sem (Array (Nat × Nat))).run P w = .ok pl.toArray w := fun w => by
    have e : fields = fields.toList.toArray := rfl
    rw [e, List.mapM_toArray, map_eq_pure_bind, Sem.run_bind, places_run hp w]
    rfl
  simp only [execOp, Instr.build, Sem.run_bind, hz, run_underlying ht, Result.andThen_ok, hm, List.map_toArray]
  rw [h1]
  simp
/-! ### A nil slice in a variable, as a row of the call's own -/
theorem sub_nil_cell {t : Ty} {i : Nat} (id : Nat) (pre post : List Comp) (hg : hget H i = some (.var (pre ++ .cell .nilsl :: post))) (hid : freshB id fr H = true) (hK : Nat.ble n.K id = true) :
    Sub n fr H fr ((id, .row t ([] : List t.D)) :: hset H i (.var (pre ++ .cell (.os id) :: post))) := fun Γ ρ w a s => by
  have hr := s.replace0 [] (id := id) (B := .row t ([] : List t.D)) (p := none) (w' := w) hid hK rfl rfl rfl rfl (Nat.le_refl _) (fun b hb _ => rfl) (fun b k h => by cases h) (fun ℓ hk hM => ⟨[], ⟨Nat.zero_le _, .inl ⟨upd_same _ _ _, rfl, rfl⟩⟩, by simp, by simp⟩)
  rw [hdel_nil] at hr
  have hne : i ≠ id := fun e => freshB_H hid (e ▸ hids_head (hget_mem hg))
  have hid' : (upd ρ id none) id = none := upd_same _ _ _
  generalize hρ' : upd ρ id none = ρ' at hr hid'
  obtain ⟨ℓ, hk, hb⟩ := hr.heap
  have hkeys : ((id, Blk.row t ([] : List t.D)) :: hset H i (.var (pre ++ .cell (.os id) :: post))).map (·.1) = ((id, Blk.row t ([] : List t.D)) :: H).map (·.1) := by
    simp only [List.map_cons, hset_keys]
  have hMeq : ownB ρ' ((id, Blk.row t ([] : List t.D)) :: hset H i (.var (pre ++ .cell (.os id) :: post))) = ownB ρ' ((id, Blk.row t ([] : List t.D)) :: H) := funext fun b' => propext (own_keys hkeys)
  have hHn : (H.map (·.1)).Nodup := by have := hk.ids; simp only [List.map_cons] at this; exact (List.nodup_cons.1 this).2
  have hmem : ∀ {e}, e ∈ ((id, Blk.row t ([] : List t.D)) :: hset H i (.var (pre ++ .cell (.os id) :: post))) → (e.1 = i ∧ e.2 = .var (pre ++ .cell (.os id) :: post)) ∨ e ∈ ((id, Blk.row t ([] : List t.D)) :: H) := by
    intro e he
    rcases List.mem_cons.1 he with rfl | he
    · exact .inr (by simp)
    · rcases mem_hset hHn he with h | ⟨h1, _⟩
      · exact .inl h
      · exact .inr (List.mem_cons_of_mem _ h1)
  have hold : (i, Blk.var (pre ++ .cell .nilsl :: post)) ∈ ((id, Blk.row t ([] : List t.D)) :: H) := List.mem_cons_of_mem _ (hget_mem hg)
  refine ⟨ρ', hr.defers, hr.size, hr.ext, hr.keep, fun b hb' => hr.own b ((nam_keys hkeys).1 hb'), ⟨ℓ, ⟨?_, ?_, ?_, ?_⟩, ?_⟩, fun t' x hx => ?_⟩
  · intro e he
    rw [hMeq]
    rcases hmem he with ⟨h1, h2⟩ | h
    · obtain ⟨j, B⟩ := e
      simp only at h1 h2; subst h1; subst h2
      obtain ⟨b, k, c, T', F, g1, g2, g3, g4⟩ := hk.blk _ hold
      refine ⟨b, k, c, T', F, g1, g2, ?_, g4⟩
      obtain ⟨v1, v2, F1, F2, e1, e2, r1, r2⟩ := RComps.split g3
      obtain ⟨v, cs', e3, _, r3, r4⟩ := r2
      rw [e1, e2]
      refine RComps.append r1 ⟨v, cs', e3, rfl, .inl ⟨hid', ?_⟩, r4⟩
      simpa only [RA] using r3
    · exact hk.blk e h
  · intro e he
    rcases hmem he with ⟨h1, _⟩ | h
    · rw [h1]; exact hk.nd _ hold
    · exact hk.nd e h
  · intro e he e' he' hne' x hx
    rcases hmem he with ⟨h1, _⟩ | h1 <;> rcases hmem he' with ⟨h3, _⟩ | h3
    · exact absurd (h1.trans h3.symm) hne'
    · rw [h1] at hx; exact hk.dj _ hold e' h3 (fun h => hne' (h1.trans h)) x hx
    · rw [h3]; exact hk.dj e h1 _ hold (fun h => hne' (h.trans h3.symm)) x hx
    · exact hk.dj e h1 e' h3 hne' x hx
  · rw [hkeys]; exact hk.ids
  · intro e he x hx
    rcases hmem he with ⟨h1, _⟩ | h
    · rw [h1] at hx; exact hb _ hold x hx
    · exact hb e h x hx
  · obtain ⟨h1, h2⟩ := hr.fr t' x hx
    exact ⟨h1, by rw [hMeq]; exact h2⟩
/-- the same for a struct in a slot -/
theorem sub_nil_st {T : Nat} {t : Ty} (id : Nat) (pre post : List AV) (hg : get fr T = some (.st (pre ++ .nilsl :: post))) (hid : freshB id fr H = true) (hK : Nat.ble n.K id = true) : Sub n fr H ((T, .st (pre ++ .os id :: post)) :: fr) ((id, .row t ([] : List t.D)) :: H) := fun Γ ρ w a s => by
  have this := s.replace0 [] (id := id) (B := .row t ([] : List t.D)) (p := none) (w' := w) hid hK rfl rfl rfl rfl (Nat.le_refl _) (fun b hb _ => rfl) (fun b k h => by cases h) (fun ℓ hk hM => ⟨[], ⟨Nat.zero_le _, .inl ⟨upd_same _ _ _, rfl, rfl⟩⟩, by simp, by simp⟩)
  rw [hdel_nil] at this
  have h1 := this.fr T _ hg
  refine ⟨_, this.defers, this.size, this.ext, this.keep, this.own, this.heap, fun t' x hx => ?_⟩
  simp only [get] at hx
  cases e : Nat.beq T t' with
  | true =>
    have := Nat.eq_of_beq_eq_true e
    subst this
    rw [e] at hx
    simp only [cond_true, Option.some.injEq] at hx
    subst hx
    refine ⟨h1.1, ?_⟩
    obtain ⟨vs, ev, hr⟩ := h1.2
    obtain ⟨us, ws, e2, h3, h4⟩ := ras_append hr
    obtain ⟨v, vs', e3, h5, h6⟩ := h4
    have key : ∀ {xs ys : List AV} {us ws : List Value} {ρ : Rho} {h : Hf} {M : Nat → Prop}, RAs ρ h M xs us → RAs ρ h M ys ws → RAs ρ h M (xs ++ ys) (us ++ ws) := by
      intro xs
      induction xs with
      | nil => intro ys us ws ρ h M h1 h2; simp only [RAs] at h1; subst h1; exact h2
      | cons x xs ih =>
        intro ys us ws ρ h M h1 h2
        obtain ⟨v, vs', e, h3, h4⟩ := h1
        subst e
        exact ⟨v, vs' ++ ws, rfl, h3, ih h4 h2⟩
    refine ⟨vs, ev, ?_⟩
    rw [e2]
    exact key h3 ⟨v, vs', e3, .inl ⟨upd_same _ _ _, by simpa only [RA] using h5⟩, h6⟩
  | false => rw [e] at hx; exact this.fr t' x hx
end
end Go.GA
