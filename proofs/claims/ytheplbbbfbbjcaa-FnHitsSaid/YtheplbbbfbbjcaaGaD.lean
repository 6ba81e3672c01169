/- Structs with slices of their own: loaded, built, handed over; nil slices in variables. -/
import Derived.Test.YtheplbbbfbbjcaaGaC
import Derived.Lib.ConvBytes
import Derived.Lib.Bytealg
import Derived.Laws.Externs
import Derived.Sort.Grow
import Derived.RangeFuncLeaves
import Derived.RangeFuncOwn
import Derived.OrdersIn
import Derived.TacticsIn
import Derived.ControlIn
import Derived.Laws.BytesString
section
namespace Go.GA
open Go Go.RowKit
def compAVs : List Comp → List AV
  | [] => []
  | .cell a :: cs => a :: compAVs cs
  | .arr t n xs :: cs => .v (.arr n t) xs :: compAVs cs
/-- arrays in it hold no slices -/
def flatComps : List Comp → Bool
  | [] => true
  | .cell _ :: cs => flatComps cs
  | .arr t _ _ :: cs => t.flat && flatComps cs
theorem compAVs_append : ∀ (a b : List Comp), compAVs (a ++ b) = compAVs a ++ compAVs b
  | [], _ => rfl
  | .cell _ :: a, b => by simp [compAVs, compAVs_append a b]
  | .arr .. :: a, b => by simp [compAVs, compAVs_append a b]
theorem comps_st {ρ : Rho} {h : Hf} {M : Nat → Prop} : ∀ {cs : List Comp} {vs F}, flatComps cs = true → RComps ρ h M cs vs F → ∃ us, RAs ρ h M (compAVs cs) us ∧ cellsOf us = vs ∧ F = []
  | [], vs, F, _, hr => ⟨[], rfl, by rw [hr.1]; rfl, hr.2⟩
  | .cell a :: cs, vs, F, hf, hr => by
    obtain ⟨v, cs', e, h1, h2, h3⟩ := hr
    obtain ⟨us, h4, h5, h6⟩ := comps_st (cs := cs) hf h3
    refine ⟨v :: us, ⟨v, us, rfl, h2, h4⟩, ?_, h6⟩
    rw [e, ← h5]
    simp [cellsOf, one_cells h2 h1]
  | .arr t n xs :: cs, vs, F, hf, hr => by
    simp only [flatComps, Bool.and_eq_true] at hf
    obtain ⟨c1, c2, F1, F2, e, eF, h1, h2⟩ := hr
    obtain ⟨us, h4, h5, h6⟩ := comps_st (cs := cs) hf.2 h2
    have hF1 := Rc.flat (.arr n t) hf.1 h1
    subst hF1; subst h6
    refine ⟨.agg c1.toArray :: us, ⟨_, us, rfl, ⟨[], ⟨c1, h1, rfl⟩, by simp⟩, h4⟩, ?_, by rw [eF]; rfl⟩
    rw [e, ← h5]
    simp [cellsOf, Value.cells]
theorem tyC_flat : ∀ (t : Ty) (x : t.D), t.flatArrs = true → flatComps (tyComps t x) = true
  | .arr n t, x, h => by
    have h' : t.flat = true := h
    simp [tyComps, flatComps, h']
  | .pair a b, x, h => by
    simp only [Ty.flatArrs, Bool.and_eq_true] at h
    have key : ∀ (c d : List Comp), flatComps c = true → flatComps d = true → flatComps (c ++ d) = true := by
      intro c
      induction c with
      | nil => intro d _ h; exact h
      | cons e c ih =>
        intro d h1 h2
        cases e with
        | cell a => exact ih d h1 h2
        | arr t n xs => simp only [List.cons_append, flatComps, Bool.and_eq_true] at h1 ⊢; exact ⟨h1.1, ih d h1.2 h2⟩
    exact key _ _ (tyC_flat a x.1 h.1) (tyC_flat b x.2 h.2)
  | .unit, x, h => rfl
  | .int k, x, h => rfl
  | .bool, x, h => rfl
  | .str, x, h => rfl
  | .slice t, x, h => rfl
theorem ras_append {ρ : Rho} {h : Hf} {M : Nat → Prop} : ∀ {xs ys : List AV} {vs}, RAs ρ h M (xs ++ ys) vs → ∃ us ws, vs = us ++ ws ∧ RAs ρ h M xs us ∧ RAs ρ h M ys ws
  | [], ys, vs, hr => ⟨[], vs, rfl, rfl, hr⟩
  | x :: xs, ys, vs, hr => by
    obtain ⟨v, vs', e, h1, h2⟩ := hr
    obtain ⟨us, ws, e2, h3, h4⟩ := ras_append (xs := xs) h2
    exact ⟨v :: us, ws, by rw [e, e2]; rfl, ⟨v, us, rfl, h1, h3⟩, h4⟩
theorem ras_one {ρ : Rho} {h : Hf} {M : Nat → Prop} {x : AV} {vs} (hr : RAs ρ h M [x] vs) : ∃ v, vs = [v] ∧ RA ρ h M x v := by
  obtain ⟨v, vs', e, h1, h2⟩ := hr
  simp only [RAs] at h2
  subst h2
  exact ⟨v, e, h1⟩
/-- parts that are plain make up a whole that is -/
theorem ras_ty {ρ : Rho} {h : Hf} {M : Nat → Prop} : ∀ (t : Ty) {x : t.D} {us}, t.flatArrs = true → RAs ρ h M (compAVs (tyComps t x)) us → ∃ F, Rc h t x (cellsOf us) F ∧ ∀ b ∈ F, ¬ M b
  | .arr n t, x, us, _, hr => by
    obtain ⟨v, rfl, F, ⟨cs, hc, e⟩, hM⟩ := ras_one hr
    subst e
    exact ⟨F, by simpa [cellsOf, mkV, Ty.agg, Value.cells] using hc, hM⟩
  | .pair a b, x, us, hf, hr => by
    simp only [Ty.flatArrs, Bool.and_eq_true] at hf
    simp only [tyComps, compAVs_append] at hr
    obtain ⟨u1, u2, e, h1, h2⟩ := ras_append hr
    obtain ⟨F1, r1, n1⟩ := ras_ty a hf.1 h1
    obtain ⟨F2, r2, n2⟩ := ras_ty b hf.2 h2
    exact ⟨F1 ++ F2, ⟨_, _, F1, F2, by rw [e]; simp [cellsOf], rfl, r1, r2⟩, fun y hy => by
      rcases List.mem_append.1 hy with h | h
      · exact n1 y h
      · exact n2 y h⟩
  | .unit, _, us, _, hr => by
    have : us = [] := hr
    subst this
    exact ⟨[], ⟨rfl, rfl⟩, by simp⟩
  | .int k, x, us, _, hr => by
    obtain ⟨v, rfl, e⟩ := ras_one hr
    simp only [RA] at e
    subst e
    exact ⟨[], ⟨rfl, rfl⟩, by simp⟩
  | .bool, x, us, _, hr => by
    obtain ⟨v, rfl, e⟩ := ras_one hr
    simp only [RA] at e
    subst e
    exact ⟨[], ⟨rfl, rfl⟩, by simp⟩
  | .str, x, us, _, hr => by
    obtain ⟨v, rfl, e⟩ := ras_one hr
    simp only [RA] at e
    subst e
    exact ⟨[], ⟨rfl, rfl⟩, by simp⟩
  | .slice t, x, us, _, hr => by
    obtain ⟨v, rfl, hv⟩ := ras_one hr
    have h1 := one_cells (x := .v (.slice t) x) hv rfl
    obtain ⟨F, ⟨cs, hc, e⟩, hM⟩ := hv
    obtain ⟨u, rfl⟩ := one_cell (t := .slice t) rfl hc
    obtain rfl : v = u := e
    exact ⟨F, by simpa [cellsOf, h1] using hc, hM⟩
section
variable {P : Program} {Γ : Ctx} {n : Sz} {fr : Fr} {H H' : Hp} {dst : Option Nat} {ty : TypeId} {pos : String} {aft : Array Edge} {g : Option (Nat × Bool)}
/-- a struct with own parts, as plain data -/
theorem ad_st {σ : Nat → Nat} {τ : Ty} {y : τ.D} {xs : List AV} (ha : τ.agg = true) (hf : τ.flatArrs = true) (h : Ads H H' σ xs (compAVs (tyComps τ y))) : Ad H H' σ (.st xs) (.v τ y) := fun ρ hh ℓ hk hm hd v hx => by
  obtain ⟨vs, e, h1⟩ := hx
  obtain ⟨F, hF, hM⟩ := ras_ty τ hf (ads_ok hk hm hd h h1)
  exact ⟨F, ⟨_, hF, by rw [e]; simp [mkV, ha]⟩, hM⟩
/-- a struct with own parts, as another one -/
theorem ad_sts {σ : Nat → Nat} {xs ys : List AV} (h : Ads H H' σ xs ys) : Ad H H' σ (.st xs) (.st ys) := fun ρ hh ℓ hk hm hd v hx => by
  obtain ⟨vs, e, h1⟩ := hx
  exact ⟨vs, e, ads_ok hk hm hd h h1⟩
/-- a whole own variable, or a part of it -/
theorem r_load_st {T : TypeId} {x : Operand} {id off : Nat} {xs : List AV} {cs : List Comp} {m : Nat} (pre mid post : List Comp) (ha : ∀ w, (isAgg T).run P w = .ok true w) (hs : ∀ w, (sizeOf T).run P w = .ok m w) (hm : compsSz mid = m) (hf : flatComps mid = true)
    (hx : evO fr x = some (.ref id off)) (hg : hget H id = some (.var cs)) (hc : cs = pre ++ (mid ++ post)) (ho : compsSz pre = off) (hxs : compAVs mid = xs) :
    Reads P ⟨dst, .load T x, ty, pos, aft, g⟩ fr H (.st xs) := fun Γ n' ρ w a s => by
  obtain ⟨b, k, hρ, e⟩ := s.ev hx
  obtain ⟨ℓ, hL, _⟩ := s.heap
  obtain ⟨b', k', c, T', F, hρ', hb, hcs, _⟩ := hL.get hg
  rw [hρ] at hρ'
  obtain ⟨rfl, rfl⟩ : b = b' ∧ k = k' := by simpa using hρ'
  subst hc; subst hxs
  obtain ⟨v1, v2, F1, F2, ev, _, h1, h2⟩ := RComps.split hcs
  obtain ⟨v3, v4, F3, F4, ev2, _, h3, h4⟩ := RComps.split h2
  obtain ⟨us, hR, hU, _⟩ := comps_st hf h3
  have hl := h1.len
  rw [ho] at hl
  have hl3 := h3.len
  refine ⟨.agg v3.toArray, ⟨us, by rw [hU], hR⟩, fun w' hk => ?_⟩
  have hload : (loadVar T ⟨b, off, none⟩).run P w' = .ok (.agg v3.toArray) w' := by
    unfold loadVar
    rw [Sem.run_bind, ha w']
    simp only [Result.andThen_ok, if_true, Sem.run_bind, hs]
    have hcs : (loadCells ⟨b, off, none⟩ m).run P w' = .ok v3.toArray w' := by
      rw [← hl, show m = v3.length by rw [hl3, hm]]
      have := run_loadVar_at (P := P) (t := .arr v3.length .bool) (E := T) (w := w') (pre := v1) (mid := v3) (post := v4) (kept_get hk hb) (by rw [ev, ev2]) (by simp [Ty.sz]) (by simp [Ty.agg]) ha (by simpa [Ty.sz, hl3, hm] using hs)
      unfold loadVar at this
      rw [Sem.run_bind, ha w'] at this
      simp only [Result.andThen_ok, if_true, Sem.run_bind, hs] at this
      rw [show m = v3.length by rw [hl3, hm]] at this
      cases hh : (loadCells ⟨b, v1.length, none⟩ v3.length).run P w' with
      | ok u w2 =>
        rw [hh] at this
        simpa [mkV, Ty.agg] using this
      | halt q w2 => rw [hh] at this; simp at this
    rw [hcs]
    simp
  simp only [execOp, e, Instr.loadAt, Instr.sureAddr, Sem.run_bind, Sem.run_pure, Result.andThen_ok, hload]
/-! ### Zero values, literals -/
def zC : Ty → List Comp
  | .bool => [.cell (.bool false)]
  | .int k => [.cell (.int k 0)]
  | .str => [.cell (.str .empty)]
  | .slice _ => [.cell .nilsl]
  | .arr n t => [.arr t n (List.replicate n t.dflt)]
  | .pair a b => zC a ++ zC b
  | .unit => []
theorem zC_ok (ρ : Rho) (h : Hf) (M : Nat → Prop) : ∀ (t : Ty), RComps ρ h M (zC t) (zc t) []
  | .bool => ⟨_, _, rfl, rfl, rfl, rfl, rfl⟩
  | .int _ => ⟨_, _, rfl, rfl, rfl, rfl, rfl⟩
  | .str => ⟨_, _, rfl, rfl, rfl, rfl, rfl⟩
  | .slice _ => ⟨_, _, rfl, rfl, rfl, rfl, rfl⟩
  | .arr n t => ⟨zc (.arr n t), [], [], [], by simp, rfl, zc_ok h (.arr n t), rfl, rfl⟩
  | .pair a b => RComps.append (F := []) (G := []) (zC_ok ρ h M a) (zC_ok ρ h M b)
  | .unit => ⟨rfl, rfl⟩
theorem ra_zero_st {t : Ty} {ρ : Rho} {h : Hf} {M : Nat → Prop} {z : Value} {xs : List AV} (hf : flatComps (zC t) = true) (hxs : compAVs (zC t) = xs) (hz : z = .agg (zc t).toArray) : RA ρ h M (.st xs) z := by
  subst hxs
  obtain ⟨us, h1, h2, _⟩ := comps_st hf (zC_ok ρ h M t)
  exact ⟨us, by rw [hz, h2], h1⟩
def Places (P : Program) : List Field → List (Nat × Nat) → Prop
  | [], [] => True
  | f :: fs, (o, s) :: l => f.offset = o ∧ (∀ w, (sizeOf f.type).run P w = .ok s w) ∧ Places P fs l
  | _, _ => False
theorem places_run : ∀ {fs : List Field} {l : List (Nat × Nat)}, Places P fs l → ∀ w, (fs.mapM fun f => do pure (f.offset, ← sizeOf f.type) : Sem (List (Nat × Nat))).run P w = .ok l w
  | [], [], _, w => rfl
  | f :: fs, (o, s) :: l, h, w => by
    obtain ⟨h1, h2, h3⟩ := h
    have ih := places_run h3 w
    subst h1
    simp only [List.mapM_cons, Sem.run_bind, h2, Result.andThen_ok, Sem.run_pure, ih]
  | [], _ :: _, h, _ => h.elim
  | _ :: _, [], h, _ => h.elim
/-- the parts put in, one after the other -/
def buildC (fr : Fr) : List Comp → List (Nat × Nat) → List (Nat × Operand) → Option (List Comp)
  | cs, _, [] => some cs
  | cs, pl, (i, o) :: l => match pl[i]?, evO fr o with
    | some (off, sz), some y => bif boxable y && Nat.beq (compsSz (toComps y)) sz then (match putAt cs off (toComps y) with
      | some cs' => buildC fr cs' pl l
      | none => none) else none
    | _, _ => none
theorem fill_comps {ρ : Rho} {h : Hf} {M : Nat → Prop} {ev : Operand → Value} (hev : ∀ o y, evO fr o = some y → RA ρ h M y (ev o)) {pl : List (Nat × Nat)} : ∀ {l : List (Nat × Operand)} {cs cs' : List Comp} {A : Array Value}, RComps ρ h M cs A.toList [] → buildC fr cs pl l = some cs' →
    ∃ B : Array Value, Instr.fill (pl.toArray[·]?) A (l.map fun p => (p.1, ev p.2)) = some B ∧ RComps ρ h M cs' B.toList []
  | [], cs, cs', A, hA, hb => by
    simp only [buildC, Option.some.injEq] at hb
    subst hb
    exact ⟨A, rfl, hA⟩
  | (i, o) :: l, cs, cs', A, hA, hb => by
    simp only [buildC] at hb
    split at hb
    · rename_i off sz y hpl hy
      cases hc : boxable y && Nat.beq (compsSz (toComps y)) sz with
      | false => rw [hc] at hb; cases hb
      | true =>
        rw [hc] at hb
        simp only [cond_true] at hb
        simp only [Bool.and_eq_true] at hc
        have hsz := Nat.eq_of_beq_eq_true hc.2
        split at hb
        · rename_i c1 hp
          have hn := ra_comps y (hev o y hy) hc.1
          obtain ⟨hle, F', h1, _, h2⟩ := putAt_ok hA hn hp (fun b _ _ => ⟨rfl, by assumption⟩) (fun _ _ => rfl) List.nodup_nil
          have hF : F' = [] := by
            cases F' with
            | nil => rfl
            | cons b F => exact absurd (h2 b (by simp)) (by simp)
          subst hF
          have hl := hn.len
          have hcsz : (ev o).cells.size = sz := by rw [← hsz, ← hl]; simp
          have hfold := foldl_set off (ev o).cells.toList 0 A (by simpa using hle)
          have hfold' : (ev o).cells.zipIdx.foldl (fun (A : Array Value) (p : Value × Nat) => A.setIfInBounds (off + p.2) p.1) A = (A.toList.take off ++ (ev o).cells.toList ++ A.toList.drop (off + (ev o).cells.toList.length)).toArray := by
            rw [← Array.foldl_toList, Array.toList_zipIdx, hfold]; simp
          obtain ⟨B, h3, h4⟩ := fill_comps hev (l := l) (A := (A.toList.take off ++ (ev o).cells.toList ++ A.toList.drop (off + (ev o).cells.toList.length)).toArray) (by simpa using h1) hb
          refine ⟨B, ?_, h4⟩
          simp only [List.map_cons, Instr.fill, List.getElem?_toArray, hpl]
          have hno : ¬ ((ev o).cells.size ≠ sz ∨ off + (ev o).cells.size > A.size) := by
            rw [hcsz]
            have : (ev o).cells.toList.length = sz := by simpa using hcsz
            rw [this] at hle
            simp only [Array.length_toList] at hle
            omega
          rw [if_neg (by simpa using hno)]
          have hfold2 : Array.foldl (fun cs (x : Value × Nat) => match x with | (c, j) => cs.setIfInBounds (off + j) c) A (ev o).cells.zipIdx = (A.toList.take off ++ (ev o).cells.toList ++ A.toList.drop (off + (ev o).cells.toList.length)).toArray := hfold'
          rw [hfold2]
          simpa only [List.getElem?_toArray] using h3
        · cases hb
    · cases hb
/-- a struct literal -/
theorem r_build_st {T : TypeId} {fields : Array Field} {l : List (Nat × Operand)} {z : Value} {cs : List Comp} {xs : List AV} (t : Ty) (pl : List (Nat × Nat)) (ht : P.underlying T = some (.struct fields)) (hz : ∀ w, (zeroValue T).run P w = .ok z w) (hzs : z.cells.toList = zc t)
    (hp : Places P fields.toList pl) (hb : buildC fr (zC t) pl l = some cs) (hf : flatComps cs = true) (hxs : compAVs cs = xs) :
    Reads P ⟨dst, .build T l.toArray, ty, pos, aft, g⟩ fr H (.st xs) := fun Γ n' ρ w a s => by
  subst hxs
  obtain ⟨B, h1, h2⟩ := fill_comps (fr := fr) (ρ := ρ) (h := World.hf w) (M := ownB ρ H) (ev := a.eval) (fun o y h => s.ev h) (A := z.cells) (by rw [hzs]; exact zC_ok _ _ _ t) hb
  obtain ⟨us, h3, h4, _⟩ := comps_st hf h2
  refine ⟨.agg B, ⟨us, by rw [h4], h3⟩, fun w' _ => ?_⟩
  have hm : ∀ w, (fields.mapM fun f => do pure (f.offset, ← sizeOf f.type) : Sem (Array (Nat × Nat))).run P w = .ok pl.toArray w := fun w => by
    have e : fields = fields.toList.toArray := rfl
    rw [e, List.mapM_toArray, map_eq_pure_bind, Sem.run_bind, places_run hp w]
    rfl
  simp only [execOp, Instr.build, Sem.run_bind, hz, run_underlying ht, Result.andThen_ok, hm, List.map_toArray]
  rw [h1]
  simp
/-! ### A nil slice in a variable, as a row of the call's own -/
theorem sub_nil_cell {t : Ty} {i : Nat} (id : Nat) (pre post : List Comp) (hg : hget H i = some (.var (pre ++ .cell .nilsl :: post))) (hid : freshB id fr H = true) (hK : Nat.ble n.K id = true) :
    Sub n fr H fr ((id, .row t ([] : List t.D)) :: hset H i (.var (pre ++ .cell (.os id) :: post))) := fun Γ ρ w a s => by
  have hr := s.replace0 [] (id := id) (B := .row t ([] : List t.D)) (p := none) (w' := w) hid hK rfl rfl rfl rfl (Nat.le_refl _) (fun b hb _ => rfl) (fun b k h => by cases h) (fun ℓ hk hM => ⟨[], ⟨Nat.zero_le _, .inl ⟨upd_same _ _ _, rfl, rfl⟩⟩, by simp, by simp⟩)
  rw [hdel_nil] at hr
  have hne : i ≠ id := fun e => freshB_H hid (e ▸ hids_head (hget_mem hg))
  have hid' : (upd ρ id none) id = none := upd_same _ _ _
  generalize hρ' : upd ρ id none = ρ' at hr hid'
  obtain ⟨ℓ, hk, hb⟩ := hr.heap
  have hkeys : ((id, Blk.row t ([] : List t.D)) :: hset H i (.var (pre ++ .cell (.os id) :: post))).map (·.1) = ((id, Blk.row t ([] : List t.D)) :: H).map (·.1) := by
    simp only [List.map_cons, hset_keys]
  have hMeq : ownB ρ' ((id, Blk.row t ([] : List t.D)) :: hset H i (.var (pre ++ .cell (.os id) :: post))) = ownB ρ' ((id, Blk.row t ([] : List t.D)) :: H) := funext fun b' => propext (own_keys hkeys)
  have hHn : (H.map (·.1)).Nodup := by have := hk.ids; simp only [List.map_cons] at this; exact (List.nodup_cons.1 this).2
  have hmem : ∀ {e}, e ∈ ((id, Blk.row t ([] : List t.D)) :: hset H i (.var (pre ++ .cell (.os id) :: post))) → (e.1 = i ∧ e.2 = .var (pre ++ .cell (.os id) :: post)) ∨ e ∈ ((id, Blk.row t ([] : List t.D)) :: H) := by
    intro e he
    rcases List.mem_cons.1 he with rfl | he
    · exact .inr (by simp)
    · rcases mem_hset hHn he with h | ⟨h1, _⟩
      · exact .inl h
      · exact .inr (List.mem_cons_of_mem _ h1)
  have hold : (i, Blk.var (pre ++ .cell .nilsl :: post)) ∈ ((id, Blk.row t ([] : List t.D)) :: H) := List.mem_cons_of_mem _ (hget_mem hg)
  refine ⟨ρ', hr.defers, hr.size, hr.ext, hr.keep, fun b hb' => hr.own b ((nam_keys hkeys).1 hb'), ⟨ℓ, ⟨?_, ?_, ?_, ?_⟩, ?_⟩, fun t' x hx => ?_⟩
  · intro e he
    rw [hMeq]
    rcases hmem he with ⟨h1, h2⟩ | h
    · obtain ⟨j, B⟩ := e
      simp only at h1 h2; subst h1; subst h2
      obtain ⟨b, k, c, T', F, g1, g2, g3, g4⟩ := hk.blk _ hold
      refine ⟨b, k, c, T', F, g1, g2, ?_, g4⟩
      obtain ⟨v1, v2, F1, F2, e1, e2, r1, r2⟩ := RComps.split g3
      obtain ⟨v, cs', e3, _, r3, r4⟩ := r2
      rw [e1, e2]
      refine RComps.append r1 ⟨v, cs', e3, rfl, .inl ⟨hid', ?_⟩, r4⟩
      simpa only [RA] using r3
    · exact hk.blk e h
  · intro e he
    rcases hmem he with ⟨h1, _⟩ | h
    · rw [h1]; exact hk.nd _ hold
    · exact hk.nd e h
  · intro e he e' he' hne' x hx
    rcases hmem he with ⟨h1, _⟩ | h1 <;> rcases hmem he' with ⟨h3, _⟩ | h3
    · exact absurd (h1.trans h3.symm) hne'
    · rw [h1] at hx; exact hk.dj _ hold e' h3 (fun h => hne' (h1.trans h)) x hx
    · rw [h3]; exact hk.dj e h1 _ hold (fun h => hne' (h.trans h3.symm)) x hx
    · exact hk.dj e h1 e' h3 hne' x hx
  · rw [hkeys]; exact hk.ids
  · intro e he x hx
    rcases hmem he with ⟨h1, _⟩ | h
    · rw [h1] at hx; exact hb _ hold x hx
    · exact hb e h x hx
  · obtain ⟨h1, h2⟩ := hr.fr t' x hx
    exact ⟨h1, by rw [hMeq]; exact h2⟩
/-- the same for a struct in a slot -/
theorem sub_nil_st {T : Nat} {t : Ty} (id : Nat) (pre post : List AV) (hg : get fr T = some (.st (pre ++ .nilsl :: post))) (hid : freshB id fr H = true) (hK : Nat.ble n.K id = true) : Sub n fr H ((T, .st (pre ++ .os id :: post)) :: fr) ((id, .row t ([] : List t.D)) :: H) := fun Γ ρ w a s => by
  have this := s.replace0 [] (id := id) (B := .row t ([] : List t.D)) (p := none) (w' := w) hid hK rfl rfl rfl rfl (Nat.le_refl _) (fun b hb _ => rfl) (fun b k h => by cases h) (fun ℓ hk hM => ⟨[], ⟨Nat.zero_le _, .inl ⟨upd_same _ _ _, rfl, rfl⟩⟩, by simp, by simp⟩)
  rw [hdel_nil] at this
  have h1 := this.fr T _ hg
  refine ⟨_, this.defers, this.size, this.ext, this.keep, this.own, this.heap, fun t' x hx => ?_⟩
  simp only [get] at hx
  cases e : Nat.beq T t' with
  | true =>
    have := Nat.eq_of_beq_eq_true e
    subst this
    rw [e] at hx
    simp only [cond_true, Option.some.injEq] at hx
    subst hx
    refine ⟨h1.1, ?_⟩
    obtain ⟨vs, ev, hr⟩ := h1.2
    obtain ⟨us, ws, e2, h3, h4⟩ := ras_append hr
    obtain ⟨v, vs', e3, h5, h6⟩ := h4
    have key : ∀ {xs ys : List AV} {us ws : List Value} {ρ : Rho} {h : Hf} {M : Nat → Prop}, RAs ρ h M xs us → RAs ρ h M ys ws → RAs ρ h M (xs ++ ys) (us ++ ws) := by
      intro xs
      induction xs with
      | nil => intro ys us ws ρ h M h1 h2; simp only [RAs] at h1; subst h1; exact h2
      | cons x xs ih =>
        intro ys us ws ρ h M h1 h2
        obtain ⟨v, vs', e, h3, h4⟩ := h1
        subst e
        exact ⟨v, vs' ++ ws, rfl, h3, ih h4 h2⟩
    refine ⟨vs, ev, ?_⟩
    rw [e2]
    exact key h3 ⟨v, vs', e3, .inl ⟨upd_same _ _ _, by simpa only [RA] using h5⟩, h6⟩
  | false => rw [e] at hx; exact this.fr t' x hx
end
end Go.GA
end
section
namespace Go.GA
open Go Go.RowKit
section
variable {P : Program} {n : Sz} {fr : Fr} {H : Hp} {dst : Option Nat} {ty : TypeId} {pos : String} {aft : Array Edge} {g : Option (Nat × Bool)}
/-- the state behind a write of an element's cells -/
theorem sim_set_elem {Γ : Ctx} {ρ : Rho} {w : World} {a : Act} (s : SIM Γ n ρ w a fr H) {id off i : Nat} {t : Ty} {xs : List t.D} {e : t.D} {B : Blk} (hf : t.flat = true) (hg : hget H id = some B) (he : elemsAt H id off = some ⟨t, xs⟩) (hi : i < xs.length) {b k} (hρ : ρ id = some (b, k))
    {c : Array Value} {T' : TypeId} {p mid q : List Value} (hb : World.hf w b = some (.cells c T' (0, 0))) (hc : c.toList = p ++ (mid ++ q)) (hp : p.length = off) (hm : RelL (Rc (World.hf w) t) xs mid []) {ns : List Value} (hR : ∀ h', Rc h' t e ns []) (hnl : ns.length = t.sz) :
    SIM Γ n ρ (w.setRow b (p ++ ((mid.take (i * t.sz) ++ ns ++ mid.drop (i * t.sz + ns.length)) ++ q)).toArray) a fr (hset H id (blkSet B off t (xs.set i e))) := by
  have hclen : c.size = p.length + (mid.length + q.length) := by rw [← Array.length_toList, hc]; simp
  have hset := RelL.set (R' := Rc (World.hf w) t) hi hm (fun x c F h => Rc.len t h) (fun x c F h => Rc.flat t hf h) (fun _ _ h => h) (hR (World.hf w)) hnl
  have h1 := hset.1
  refine s.write hg hρ hb (fun ℓ' h' hk' hb' hne hM => ?_)
  have hset' := RelL.set (R' := Rc h' t) hi hm (fun x c F h => Rc.len t h) (fun x c F h => Rc.flat t hf h) (fun x c hx => hx.same t (by simp)) (hR h') hnl
  have hnew := hset'.2
  have hlset : (mid.take (i * t.sz) ++ ns ++ mid.drop (i * t.sz + ns.length)).length = mid.length := by
    simp only [List.length_append, List.length_take, List.length_drop]; omega
  unfold elemsAt at he
  rw [hg] at he
  cases B with
  | var cs =>
    simp only at he
    split at he
    · rename_i t' m xs' hca
      simp only [Option.some.injEq, Sigma.mk.injEq] at he
      obtain ⟨rfl, he⟩ := he
      have he' := eq_of_heq he
      subst he'
      obtain ⟨b2, k2, c2, T2, F2, h3, h4, h5, h6⟩ := hk'.get hg
      rw [hρ] at h3
      obtain ⟨rfl, rfl⟩ : b = b2 ∧ k = k2 := by simpa using h3
      rw [show World.hf w b = some (.cells c T' (0, 0)) from hb] at h4
      simp only [Option.some.injEq, Obj.cells.injEq] at h4
      obtain ⟨rfl, rfl, _⟩ := h4
      have hnd2 : (b :: F2).Nodup := by have := hk'.nd _ (hget_mem hg); rw [h6] at this; exact this
      have hFne : ∀ x ∈ F2, x ≠ b := fun x hx e => (List.nodup_cons.1 hnd2).1 (e ▸ hx)
      refine ⟨b :: F2, ⟨b, k, _, T', F2, hρ, hb', ?_, rfl⟩, hnd2, fun x hx => by rw [h6]; exact hx⟩
      have := compsSet_ok (h' := h') (ys := xs'.set i e) (by simp) h5 hca hc hp hlset.symm hnew hf hM (fun x hx => hne x (hFne x hx))
      simpa using this
    · cases he
  | row t' xs' =>
    simp only at he
    split at he
    · simp only [Option.some.injEq, Sigma.mk.injEq] at he
      obtain ⟨rfl, he⟩ := he
      have he' := eq_of_heq he
      subst he'
      obtain ⟨hl, ⟨h3, h4, _⟩ | ⟨b2, cap, c2, T2, F2, mid2, post, h3, h4, h5, h6, h7, h8, h9⟩⟩ := hk'.get hg
      · rw [hρ] at h3; cases h3
      · rw [hρ] at h3
        obtain ⟨rfl, rfl⟩ : b = b2 ∧ k = (cap, _) := by simpa using h3
        rw [show World.hf w b = some (.cells c T' (0, 0)) from hb] at h4
        simp only [Option.some.injEq, Obj.cells.injEq] at h4
        obtain ⟨rfl, rfl, _⟩ := h4
        have hF2 : F2 = [] := RelL.flat (fun x c F h => Rc.flat t' hf h) h6
        subst hF2
        have hp0 : p = [] := List.eq_nil_of_length_eq_zero hp
        subst hp0
        refine ⟨[b], ⟨by simpa using hl, .inr ⟨b, cap, _, T', [], _, q, by simpa using hρ, hb', rfl, hnew, rfl, by simpa using h8, ?_⟩⟩, by simp, fun x hx => by rw [h7]; exact hx⟩
        rw [← h9, hclen]
        simp only [List.size_toArray, List.length_append, List.length_nil, Nat.zero_add]
        simp only [List.length_take, List.length_drop, List.length_append] at hlset ⊢
        omega
    · cases he
/-- a store into an element of an element -/
theorem e_store_elem2 {T : TypeId} {x y : Operand} {id off i m j z z2 : Nat} {t : Ty} {xs : List (Ty.arr m t).D} {X : List t.D} {e : t.D} {B B' : Blk} (hf : t.flat = true) (hs : ∀ w, (sizeOf T).run P w = .ok t.sz w) (hz : m * t.sz = z) (hz2 : t.sz = z2)
    (hx : evO fr x = some (.elem2 id off z i z2 j)) (hy : evO fr y = some (ofTy t e)) (hg : hget H id = some B) (he : elemsAt H id off = some ⟨.arr m t, xs⟩) (hi : i < xs.length) (hX : xs.getD i (Ty.dflt (.arr m t)) = X) (hj : j < m) (hB : blkSet B off (.arr m t) (xs.set i (X.set j e : List t.D)) = B') :
    EffS P n ⟨none, .store T x y, ty, pos, aft, g⟩ fr H fr (hset H id B') := fun Γ ρ w a s => by
  subst hB; subst hz; subst hz2
  obtain ⟨b, k, hρ, ex⟩ := s.ev hx
  obtain ⟨ℓ, hL, _⟩ := s.heap
  have hns := ofTy_cells hf (s.ev hy)
  have hnl : (a.eval y).cells.toList.length = t.sz := Rc.len t hns
  obtain ⟨c, T', p, mid, q, F, hb, hc, hp, hm, _⟩ := elemsAt_ok hL he hρ
  have hFn : F = [] := RelL.flat (fun x c F h => Rc.flat (.arr m t) hf h) hm
  subst hFn
  have hm0 := hm
  rw [split_at xs i hi (Ty.dflt (.arr m t))] at hm
  obtain ⟨c1, c2, c3, G, em, hc1, hR, hG⟩ := RelL.mid hm (fun x c F h => Rc.len _ h)
  have hlt' : (xs.take i).length = i := by rw [List.length_take]; omega
  rw [hlt'] at hc1
  replace hc1 : c1.length = i * (m * t.sz) := hc1
  rw [hX] at hR
  have hGn : G = [] := Rc.flat (.arr m t) hf hR
  subst hGn
  obtain ⟨hl, hR2⟩ := hR
  have hc2 : c2.length = m * t.sz := by rw [RelL.len (fun x c F h => Rc.len t h) hR2, hl]
  have hjl : j < X.length := by omega
  have hin : ∀ h', Rc h' t e (a.eval y).cells.toList [] := fun h' => hns.same t (by simp)
  have hset := fun (h' : Hf) => RelL.set (R' := Rc h' t) hjl hR2 (fun x c F h => Rc.len t h) (fun x c F h => Rc.flat t hf h) (fun x c hx => hx.same t (by simp)) (hin h') hnl
  have hle := (hset (World.hf w)).1
  have hclen : c.size = p.length + (mid.length + q.length) := by rw [← Array.length_toList, hc]; simp
  have hmidl : mid.length = c1.length + (c2.length + c3.length) := by rw [em]; simp
  have hrun := run_storeVar (P := P) (T := T) (v := a.eval y) (ns := (a.eval y).cells.toList) (b := b) (off := off + i * (m * t.sz) + j * t.sz) (c := c) (T' := T') (w := w) (by rw [hnl]; exact hs) rfl hb (by omega) (fun u hu => Rc.one t hns u hu)
  have hnew : ∀ h', Rc h' (.arr m t) (X.set j e : List t.D) (c2.take (j * t.sz) ++ (a.eval y).cells.toList ++ c2.drop (j * t.sz + (a.eval y).cells.toList.length)) [] := fun h' => ⟨by rw [List.length_set]; exact hl, (hset h').2⟩
  have hnewl := Rc.len (.arr m t) (hnew (World.hf w))
  have hcl : c.toList.take (off + i * (m * t.sz) + j * t.sz) ++ (a.eval y).cells.toList ++ c.toList.drop (off + i * (m * t.sz) + j * t.sz + (a.eval y).cells.toList.length) = p ++ ((mid.take (i * (m * t.sz)) ++ (c2.take (j * t.sz) ++ (a.eval y).cells.toList ++ c2.drop (j * t.sz + (a.eval y).cells.toList.length)) ++ mid.drop (i * (m * t.sz) + (c2.take (j * t.sz) ++ (a.eval y).cells.toList ++ c2.drop (j * t.sz + (a.eval y).cells.toList.length)).length)) ++ q) := by
    rw [hnewl]
    generalize (a.eval y).cells.toList = ns at *
    have t1 : mid.take (i * (m * t.sz)) = c1 := by rw [em, ← hc1]; simp
    have t2 : mid.drop (i * (m * t.sz) + m * t.sz) = c3 := by
      rw [em, ← hc1, List.drop_length_add_append, ← hc2, List.drop_left]
    have t2' : mid.drop (i * (m * t.sz) + (Ty.arr m t).sz) = c3 := t2
    rw [t1, t2']
    have hcs : c.toList = (p ++ c1) ++ (c2 ++ (c3 ++ q)) := by rw [hc, em]; simp
    have hoff : off + i * (m * t.sz) = (p ++ c1).length := by rw [List.length_append, hp, hc1]
    rw [hoff, hcs, List.take_length_add_append, Nat.add_assoc, List.drop_length_add_append, List.take_append_of_le_length (by omega), List.drop_append_of_le_length (by omega)]
    simp
  refine ⟨w.setRow b (c.toList.take (off + i * (m * t.sz) + j * t.sz) ++ (a.eval y).cells.toList ++ c.toList.drop (off + i * (m * t.sz) + j * t.sz + (a.eval y).cells.toList.length)).toArray, ρ, ?_, ?_⟩
  · simp only [execOp, Instr.storeAt, ex, Instr.sureAddr, Sem.run_bind, Sem.run_pure, Result.andThen_ok, hrun]
  · rw [hcl]
    exact sim_set_elem (t := .arr m t) s hf hg he hi hρ hb hc hp hm0 hnew hnewl
theorem e_store_elem2_int {T : TypeId} {x y : Operand} {id off i m j z : Nat} {q : IntKind} {xs : List (List Int)} {X : List Int} {e : Int} {B B' : Blk} (hs : ∀ w, (sizeOf T).run P w = .ok 1 w) (hz : m * 1 = z)
    (hx : evO fr x = some (.elem2 id off z i 1 j)) (hy : evO fr y = some (.int q e)) (hg : hget H id = some B) (he : elemsAt H id off = some ⟨.arr m (.int q), xs⟩) (hi : i < xs.length) (hX : xs.getD i (List.replicate m 0) = X) (hj : j < m) (hB : blkSet B off (.arr m (.int q)) (xs.set i (X.set j e)) = B') :
    EffS P n ⟨none, .store T x y, ty, pos, aft, g⟩ fr H fr (hset H id B') := e_store_elem2 (t := .int q) rfl hs hz rfl hx hy hg he hi hX hj hB
end
end Go.GA
end
section
namespace Go.GA
open Go Go.RowKit
/-- two strings are the same -/
def eqS (a b : ByteArray) : Bool := a.toList == b.toList
section
variable {P : Program} {n : Sz} {fr : Fr} {H : Hp} {dst : Option Nat} {ty : TypeId} {pos : String} {aft : Array Edge} {g : Option (Nat × Bool)}
theorem r_eql_str {xT yT : TypeId} {x y : Operand} {a b : ByteArray} (hx : evO fr x = some (.str a)) (hy : evO fr y = some (.str b)) :
    Reads P ⟨dst, .binOp .eql xT x y yT, ty, pos, aft, g⟩ fr H (.bool (eqS a b)) :=
  reads_of fun ρ h M ev hev => ⟨_, rfl, fun w' => by
    have h1 := hev x _ hx; have h2 := hev y _ hy
    simp only [RA] at h1 h2
    simp [execOp, eqGuard, Go.binOp, Op.stringOp, eqS, h1, h2, Sem.run_bind]⟩
theorem r_neq_str {xT yT : TypeId} {x y : Operand} {a b : ByteArray} (hx : evO fr x = some (.str a)) (hy : evO fr y = some (.str b)) :
    Reads P ⟨dst, .binOp .neq xT x y yT, ty, pos, aft, g⟩ fr H (.bool (!eqS a b)) :=
  reads_of fun ρ h M ev hev => ⟨_, rfl, fun w' => by
    have h1 := hev x _ hx; have h2 := hev y _ hy
    simp only [RA] at h1 h2
    simp [execOp, eqGuard, Go.binOp, Op.stringOp, eqS, h1, h2, Sem.run_bind]⟩
theorem r_lss_str {xT yT : TypeId} {x y : Operand} {a b : ByteArray} (hx : evO fr x = some (.str a)) (hy : evO fr y = some (.str b)) :
    Reads P ⟨dst, .binOp .lss xT x y yT, ty, pos, aft, g⟩ fr H (.bool (Op.bytesLess a.toList b.toList)) :=
  reads_of fun ρ h M ev hev => ⟨_, rfl, fun w' => by
    have h1 := hev x _ hx; have h2 := hev y _ hy
    simp only [RA] at h1 h2
    simp [execOp, eqGuard, Go.binOp, Op.stringOp, h1, h2, Sem.run_bind]⟩
theorem r_add_str {xT yT : TypeId} {x y : Operand} {a b : ByteArray} (hx : evO fr x = some (.str a)) (hy : evO fr y = some (.str b)) (hl : (a.size : Int) + (b.size : Int) ≤ 9223372036854775807) :
    Reads P ⟨dst, .binOp .add xT x y yT, ty, pos, aft, g⟩ fr H (.str (a ++ b)) :=
  reads_of fun ρ h M ev hev => ⟨_, rfl, fun w' => by
    have h1 := hev x _ hx; have h2 := hev y _ hy
    simp only [RA] at h1 h2
    have hm : IntKind.i64.max = 9223372036854775807 := by decide
    have hno : ¬ (((a.size + b.size : Nat) : Int) > IntKind.i64.max) := by rw [hm]; omega
    have hno' : ¬ (IntKind.i64.max < (a.size : Int) + (b.size : Int)) := by rw [hm]; omega
    simp [execOp, eqGuard, Go.binOp, Op.stringOp, h1, h2, Sem.run_bind, hno']
    omega⟩
/-- a whole array that is not written, as a slice -/
theorem r_slice_c {T E : TypeId} {x : Operand} {m : Nat} {t : Ty} {xs : List t.D} (hu : P.underlying T = some (.array m E)) (hs : ∀ w, (sizeOf E).run P w = .ok t.sz w) (hx : evO fr x = some (.cptr (.arr m t) xs)) (hm : Nat.ble 1 m = true) (hm2 : Nat.ble m 1000000 = true) :
    Reads P ⟨dst, .slice T x none none none, ty, pos, aft, g⟩ fr H (.v (.slice t) xs) := fun Γ n ρ w a s => by
  obtain ⟨b, off, F, c, T', z, pre, mid, post, e, hb, hh, hc, hp, h1, hF⟩ := s.ev hx
  have hm' := Nat.le_of_ble_eq_true hm
  have hm2' := Nat.le_of_ble_eq_true hm2
  have hbd := fun w' => run_bounds (P := P) (ρ := ρ) (h := World.hf w) (M := ownB ρ H) (fr := fr) (isSlice := false) (len := m) (cap := m) (lo := none) (hi := none) (l := 0) (m := (m : Int)) (fun o y h => s.ev h) .none .none (by omega) (by omega) (by omega) (Nat.le_refl _) w'
  simp only [Option.map_none] at hbd
  have hl := h1.1
  refine ⟨.slice (some ⟨b, off, none⟩) m m, ⟨b :: F, ⟨[_], ⟨by rw [hl]; simp only [lim]; omega, .inr ⟨b, off, 0, F, by rw [hl]; rfl, rfl, c, T', z, pre, mid, post, hh, hc, hp, h1.2⟩⟩, rfl⟩, fun y hy => by
    rcases List.mem_cons.1 hy with rfl | hy
    · exact hb
    · exact hF y hy⟩, fun w' _ => ?_⟩
  simp only [execOp, Instr.sliceAt, Sem.run_bind, run_underlying hu, Result.andThen_ok, e, Instr.sureAddr, Sem.run_pure, Option.map_none, hbd, hs]
  have hne : ¬ m = Int.toNat 0 := by simp; omega
  rw [if_neg hne]
  have e1 : (Addr.add ⟨b, off, none⟩ (Int.toNat 0 * t.sz)) = ⟨b, off, none⟩ := by simp [addr_add]
  simp [addr_add]
/-! ### Bytes of a string -/
def bytesI (s : ByteArray) : List Int := s.data.toList.map fun b => (b.toNat : Int)
theorem bytesI_len (s : ByteArray) : (bytesI s).length = s.size := by
  rw [bytesI, List.length_map, Array.length_toList]; rfl
theorem SIM.grow {Γ : Ctx} {ρ : Rho} {w w' : World} {a : Act} (s : SIM Γ n ρ w a fr H) (hk : Kept w w') : SIM Γ n ρ w' a fr H := by
  obtain ⟨ℓ, hh, hb⟩ := s.heap
  have hsame : ∀ b, World.hf w b ≠ none → World.hf w' b = World.hf w b := fun b h => hk.block b (hf_lt h) (fun h => h)
  have hM : ∀ b, ¬ ownB ρ H b → World.hf w b ≠ none → World.hf w' b = World.hf w b ∧ ¬ ownB ρ H b := fun b h1 h2 => ⟨hsame b h2, h1⟩
  refine ⟨s.defers, s.size, ⟨hk.os.trans s.ext.os, hk.tape.trans s.ext.tape, hk.output.trans s.ext.output, Nat.le_trans s.ext.size hk.size, fun i hi hm => ?_⟩, s.keep, s.own, ⟨ℓ, ⟨fun e he => ?_, hh.nd, hh.dj, hh.ids⟩, hb⟩, fun t x hx => ?_⟩
  · rw [hk.block i (Nat.lt_of_lt_of_le hi s.ext.size) (fun h => h)]
    exact s.ext.block i hi hm
  · exact (hh.blk e he).same (fun _ _ => rfl) hM (fun b hb' => hsame b (hh.there he b hb'))
  · obtain ⟨h1, h2⟩ := s.fr t x hx
    exact ⟨h1, h2.same x (fun _ _ => rfl) hM⟩
theorem relL_bytes {h : Hf} : ∀ (l : List UInt8), RelL (Rc h (.int .u8)) (l.map fun b => (b.toNat : Int)) (l.map fun b => Value.int .u8 b.toNat) []
  | [] => ⟨rfl, rfl⟩
  | b :: l => ⟨[_], _, [], [], rfl, rfl, ⟨rfl, rfl⟩, relL_bytes l⟩
theorem e_bytes {S T E : TypeId} {x : Operand} {b : ByteArray} {u : TypeDesc} (hs : P.underlying S = some u) (hd : P.underlying T = some (.slice E)) (he : P.underlying E = some (.int .u8)) (hx : evO fr x = some (.str b)) (hl : (b.size : Int) ≤ 9223372036854775807) :
    Eff P n ⟨dst, .convert S T x, ty, pos, aft, g⟩ fr H (.v (.slice (.int .u8)) (bytesI b)) fr H := fun Γ ρ w a s => by
  have hv := s.ev hx
  simp only [RA] at hv
  have hrun := Lib.run_convert_string_bytes w S T E b hs hd he
  have hkept : Kept w (Lib.bytesWorld w E b) := ⟨rfl, rfl, rfl, by rw [Lib.bytesWorld_size]; omega, fun k hk _ => Lib.bytesWorld_at_old w E b k hk⟩
  have hlt : ∀ k, ownB ρ H k → k < w.heap.size := by
    rintro k (⟨e, he', j, hj⟩ | hn)
    · obtain ⟨ℓ, hh, _⟩ := s.heap
      exact hf_lt (hh.there he' k (own_head hh he' hj))
    · rw [s.defers.2.1] at hn
      exact Nat.lt_of_lt_of_le (s.defers.2.2 k hn).2 s.ext.size
  have hcap := grownCap_ge w b.size 0 E
  refine ⟨.slice (some ⟨w.heap.size, 0, none⟩) b.size (grownCap w b.size 0 E), Lib.bytesWorld w E b, ρ, ?_, ⟨s.grow hkept, rfl, rfl, rfl, hkept.size, fun k hk _ => Lib.bytesWorld_at_old w E b k hk, fun e' he' k j hk => .inl ⟨e', he', rfl, hk⟩⟩, ?_⟩
  · simp only [execOp, hv, Sem.run_bind, hrun, Result.andThen_ok, Sem.run_pure]
  · refine ⟨[w.heap.size], ⟨[_], ⟨?_, .inr ⟨w.heap.size, 0, grownCap w b.size 0 E - b.size, [], ?_, rfl, Lib.bytesCells w E b, E, _, [], b.data.toList.map (fun b => Value.int .u8 b.toNat), List.replicate (grownCap w b.size 0 E - b.size) (.int .u8 0), Lib.bytesWorld_at_new w E b, by simp [Lib.bytesCells], rfl, relL_bytes _⟩⟩, rfl⟩, fun k hk h => ?_⟩
    · have := bytesI_len b
      show (bytesI b).length ≤ lim
      rw [this]; simp only [lim]; omega
    · have := bytesI_len b
      show _ = [Value.slice (some ⟨w.heap.size, 0, none⟩) (bytesI b).length ((bytesI b).length + _)]
      rw [this, Nat.add_sub_cancel' hcap]
    · simp only [List.mem_singleton] at hk
      have := hlt k h
      omega
/-- internal/bytealg.IndexByteString -/
theorem r_indexByte {fo x y : Operand} {tys : Array TypeId} {f : FuncId} {fn : Func} {b : ByteArray} {c : Int} (hf : P.funcs[f]? = some fn) (hname : (fn.name == "runtime.NumGoroutine") = false) (hb : fn.body.isNone = true) (hn : Extern.findNext fn = none) (he : Extern.find fn = some Extern.BytealgIndexByte.indexByte)
    (hfo : evO fr fo = some (.fn f [])) (hx : evO fr x = some (.str b)) (hy : evO fr y = some (.int .u8 c)) :
    Reads P ⟨dst, .call ⟨.value fo, #[x, y], tys⟩, ty, pos, aft, g⟩ fr H (.int .i64 (Lib.indexByte b.data.toList c.toNat.toUInt8)) := fun Γ n ρ w a s => by
  obtain ⟨vs, h1, h2⟩ := s.ev hfo
  simp only [RAs] at h2
  subst h2
  have hx' := s.ev hx
  have hy' := s.ev hy
  simp only [RA] at hx' hy'
  refine ⟨_, rfl, fun w' _ => ?_⟩
  have := run_callFunc_extern hf hname hb hn he #[.string b, .int .u8 c] w'
  rw [Lib.run_indexByteString] at this
  simp only [Result.andThen_ok] at this
  simp [execOp, resolve, h1, Deferred.ofValue, invoke, hx', hy', this]
end
end Go.GA
end
section
namespace Go.GA
open Go Go.RowKit
def nkB (σ : Nat → Nat) : Nat → Bool
  | 0 => true
  | k + 1 => Nat.beq (σ k) k && nkB σ k
theorem nkL {n : Sz} {σ : Nat → Nat} (h : nkB σ n.K = true) : ∀ i, i < n.K → σ i = i := by
  have key : ∀ K, nkB σ K = true → ∀ i, i < K → σ i = i := by
    intro K
    induction K with
    | zero => intro _ i hi; omega
    | succ K ih =>
      intro h i hi
      simp only [nkB, Bool.and_eq_true] at h
      by_cases e : i = K
      · subst e; exact Nat.eq_of_beq_eq_true h.1
      · exact ih h.2 i (by omega)
  exact key n.K h
section
variable {H : Hp}
theorem ad_viewv0 {σ : Nat → Nat} {id off m l len z : Nat} {t : Ty} {xs : List t.D} {cs : List Comp} (hz : t.sz = z) (hf : t.flat = true) (hg : hget H id = some (.var cs)) (hc : compAt cs off = some (.arr t m xs)) (hl : l + len ≤ m) (hm : Nat.ble m 1000000 = true) :
    Ad H [] σ (.view id off z l len) (.v (.slice t) ((xs.drop l).take len)) := fun ρ h ℓ hk hm' hd v hx => by
  subst hz
  obtain ⟨b', k', c, T, F, h1', h2, h3, e⟩ := hk.get hg
  obtain ⟨p, mm, q, F', ec, hp, ⟨c1, c2, F1, F2, em, _, h5, h6, _⟩, hF'⟩ := comps_at h3 hc
  refine ad_view hf (elemsAt_var hg hc) (by rw [h5.1]; exact hl) ?_ (by simp) ρ h ℓ hk hm' hd v hx
  have := Nat.le_of_ble_eq_true hm
  simp only [lim]; omega
end
section
variable {P : Program} {n : Sz} {fr : Fr} {H : Hp} {dst : Option Nat} {ty : TypeId} {pos : String} {aft : Array Edge} {g : Option (Nat × Bool)}
theorem r_eq_st1 {op : BinOp} {T A E yT : TypeId} {x y : Operand} {k : IntKind} {m : Nat} {X Y : (Ty.pair (.arr m (.int k)) .unit).D} {xs ys : List Int} {c : Bool} {f : Field} (hT : P.underlying T = some (.struct (P.fieldsOf T))) (hfs : P.fieldsOf T = #[f]) (hfn : (f.name != "_") = true) (hft : f.type = A) (hfo : f.offset = 0) (hst : P.stoodInHeld T = false)
    (hA : P.underlying A = some (.array m E)) (hE : P.underlying E = some (.int k)) (haA : ∀ w, (isAgg A).run P w = .ok true w) (hsA : ∀ w, (sizeOf A).run P w = .ok m w) (ha : ∀ w, (isAgg E).run P w = .ok false w) (hi : ∃ i, P.info? E = some i ∧ i.size = 1) (hgd : P.eqGuardType P.depth T = false)
    (hx : evO fr x = some (.v (.pair (.arr m (.int k)) .unit) X)) (hy : evO fr y = some (.v (.pair (.arr m (.int k)) .unit) Y)) (hX : X.1 = xs) (hY : Y.1 = ys) (hc : (match op with
      | .eql => some (decide (xs = ys))
      | .neq => some (!decide (xs = ys))
      | _ => none) = some c) : Reads P ⟨dst, .binOp op T x y yT, ty, pos, aft, g⟩ fr H (.bool c) := fun Γ n ρ w a s => by
  have hval : ∀ {o : Operand} {X : (Ty.pair (.arr m (.int k)) .unit).D} {xs : List Int}, evO fr o = some (.v (.pair (.arr m (.int k)) .unit) X) → X.1 = xs → a.eval o = .agg (xs.map (Value.int k)).toArray ∧ xs.length = m := by
    intro o X xs ho hX
    obtain ⟨F, ⟨cs, ⟨c1, c2, F1, F2, e1, _, h1, h2⟩, e⟩, _⟩ := s.ev ho
    rw [hX] at h1
    obtain ⟨e3, l3⟩ := rv_ints ⟨c1, h1, rfl⟩
    obtain ⟨h2, _⟩ := h2
    subst h2
    refine ⟨?_, l3⟩
    rw [e, e1, List.append_nil]
    exact e3
  obtain ⟨e1, l1⟩ := hval hx hX
  obtain ⟨e2, l2⟩ := hval hy hY
  obtain ⟨i, hi, hsz⟩ := hi
  have hcell : P.cellsOf E = 1 := by simp [Program.cellsOf, hi, hsz]
  have hpart : ∀ (l : List Int) (w' : World), l.length = m → (part f.type (l.map (Value.int k)).toArray f.offset).run P w' = .ok (.agg (l.map (Value.int k)).toArray) w' := fun l w' hl => by
    have e0 : ((l.map (Value.int k)).toArray).extract 0 m = (l.map (Value.int k)).toArray := by
      have hs : ((l.map (Value.int k)).toArray).size = m := by simp [hl]
      conv => lhs; rw [← hs]
      exact Array.extract_size
    simp only [part, hft, hfo, Sem.run_bind, haA, hsA, Result.andThen_ok, if_true, Sem.run_pure, Nat.zero_add, e0]
  have heq : ∀ w', (Op.equal T (a.eval x) (a.eval y)).run P w' = .ok (decide (xs = ys)) w' := fun w' => by
    unfold Op.equal Op.maxDepth
    rw [e1, e2, run_equalIn_struct w' 9999 T _ _ hT hst, hfs]
    have h1 := run_equalIn_array (P := P) w' 9998 (xs.map (Value.int k)).toArray (ys.map (Value.int k)).toArray hA hi
    have h2 := eqItems_ints (P := P) (d := 9997) hE ha hcell w' xs ys [] [] (by rw [l1, l2]) rfl
    simp only [List.nil_append, List.length_nil, l1, ← List.range_eq_range'] at h2
    rw [h2] at h1
    have hne : (f.name ≠ "_") := by simpa using hfn
    have hA' : (Op.equalIn 9999 f.type (.agg (xs.map (Value.int k)).toArray) (.agg (ys.map (Value.int k)).toArray)).run P w' = .ok (decide (xs = ys)) w' := by rw [hft]; exact h1
    simp only [Op.eqFields, Sem.run_bind, hpart xs _ l1, hpart ys _ l2, Result.andThen_ok, hA', hne, ne_eq, not_false_eq_true, if_true]
    by_cases h : xs = ys
    · simp [h, Op.eqFields]
    · simp [h]
  refine ⟨.bool c, rfl, fun w' _ => ?_⟩
  have hg1 : ∀ w', (eqGuard op T x y (a.eval x) (a.eval y)).run P w' = .ok () w' := fun w' => by
    rw [e1, e2]
    unfold eqGuard
    cases op <;> simp [hgd, program, Sem.run, Sem.run_bind]
  have h3 : (Go.binOp op T (a.eval x) (a.eval y)).run P w' = .ok (.bool c) w' := by
    cases op <;> simp at hc
    · subst hc
      rw [e1, e2] at heq ⊢
      simp [Go.binOp, Sem.run_bind, heq]
    · rw [e1, e2] at heq ⊢
      simp [Go.binOp, Sem.run_bind, heq, hc]
  simp only [execOp, Sem.run_bind, hg1, h3, Result.andThen_ok, Sem.run_pure]
end
end Go.GA
end
section
namespace Go.GA
open Go Go.RowKit
section
variable {P : Program} {n : Sz} {fr : Fr} {H : Hp} {dst : Option Nat} {ty : TypeId} {pos : String} {aft : Array Edge} {g : Option (Nat × Bool)}
/-- the first field of an element -/
theorem r_fieldAddr_elem {S : TypeId} {x : Operand} {k id off sz i : Nat} {fs : Array Field} {fd : Field} {s' : Nat} (hu : P.underlying S = some (.struct fs)) (hf : fs[k]? = some fd) (hs : ∀ w, (sizeOf fd.type).run P w = .ok s' w) (hs0 : Nat.beq s' 0 = false) (h0 : fd.offset = 0)
    (hx : evO fr x = some (.elem id off sz i)) : Reads P ⟨dst, .fieldAddr S x k, ty, pos, aft, g⟩ fr H (.elem id off sz i) := fun Γ n ρ w a s => by
  obtain ⟨b, kk, hρ, e⟩ := s.ev hx
  have hne : s' ≠ 0 := Nat.ne_of_beq_eq_false hs0
  refine ⟨.pointer (some ⟨b, off + i * sz, none⟩), ⟨b, kk, hρ, rfl⟩, fun w' _ => ?_⟩
  simp [execOp, Instr.fieldAt, e, Sem.run_bind, run_underlying hu, hf, fieldPlace, hs, hne, addr_add, h0, Instr.sureAddr]
theorem r_load_elem2s {T : TypeId} {x : Operand} {id i m j z z2 : Nat} {u : Ty} {xs : List (Ty.pair (.arr m u) .unit).D} {X : (Ty.pair (.arr m u) .unit).D} {L : List u.D} {e : u.D} (hf : u.flat = true) (ha : ∀ w, (isAgg T).run P w = .ok u.agg w) (hs : ∀ w, (sizeOf T).run P w = .ok u.sz w) (hz : m * u.sz = z) (hz2 : u.sz = z2)
    (hx : evO fr x = some (.elem2 id 0 z i z2 j)) (hg : hget H id = some (.row (.pair (.arr m u) .unit) xs)) (hi : i < xs.length) (hX : xs.getD i (Ty.dflt (.pair (.arr m u) .unit)) = X) (hL : X.1 = L) (hj : j < m) (he : L.getD j u.dflt = e) :
    Reads P ⟨dst, .load T x, ty, pos, aft, g⟩ fr H (ofTy u e) := fun Γ n ρ w a s => by
  subst hz; subst hz2
  obtain ⟨b, k, hρ, ex⟩ := s.ev hx
  obtain ⟨ℓ, hLk, _⟩ := s.heap
  have he0 : elemsAt H id 0 = some ⟨.pair (.arr m u) .unit, xs⟩ := by unfold elemsAt; rw [hg]
  obtain ⟨c, T', p, mid, q, F, hb, hc, hp, hm, _⟩ := elemsAt_ok hLk he0 hρ
  rw [split_at xs i hi (Ty.dflt (.pair (.arr m u) .unit))] at hm
  obtain ⟨c1, c2, c3, G, em, hc1, hR, hG⟩ := RelL.mid hm (fun x c F h => Rc.len _ h)
  rw [hX] at hR
  have hlt' : (xs.take i).length = i := by rw [List.length_take]; omega
  rw [hlt'] at hc1
  replace hc1 : c1.length = i * (m * u.sz) := by rw [hc1]; rfl
  obtain ⟨d1, d2, G1, G2, e1, e2, r1, r2⟩ := hR
  rw [hL] at r1
  obtain ⟨hl, hR2⟩ := r1
  have hjl : j < L.length := by omega
  rw [split_at L j hjl u.dflt] at hR2
  obtain ⟨f1, f2, f3, G3, ef, hf1, hRf, _⟩ := RelL.mid hR2 (fun x c F h => Rc.len _ h)
  rw [he] at hRf
  have hlt2 : (L.take j).length = j := by rw [List.length_take]; omega
  rw [hlt2] at hf1
  have hGn := Rc.flat u hf hRf
  subst hGn
  refine ⟨mkV u f2, ra_ofTy hRf (by simp), fun w' hk => ?_⟩
  have := run_loadVar_at (P := P) (t := u) (E := T) (w := w') (b := b) (c := c) (T := T') (z := (0, 0)) (pre := p ++ (c1 ++ f1)) (mid := f2) (post := f3 ++ (d2 ++ (c3 ++ q))) (kept_get hk hb) (by rw [hc, em, e1, ef]; simp) (Rc.len u hRf) agg_sz ha hs
  have hoff : (p ++ (c1 ++ f1)).length = 0 + i * (m * u.sz) + j * u.sz := by rw [List.length_append, List.length_append, hp, hc1, hf1]; omega
  rw [hoff] at this
  simp only [execOp, ex, Instr.loadAt, Instr.sureAddr, Sem.run_bind, Sem.run_pure, Result.andThen_ok, this]
theorem r_load_elem2s_int {T : TypeId} {x : Operand} {id i m j z : Nat} {q : IntKind} {xs : List (List Int × Unit)} {X : List Int × Unit} {L : List Int} {e : Int} (ha : ∀ w, (isAgg T).run P w = .ok false w) (hs : ∀ w, (sizeOf T).run P w = .ok 1 w) (hz : m * 1 = z)
    (hx : evO fr x = some (.elem2 id 0 z i 1 j)) (hg : hget H id = some (.row (.pair (.arr m (.int q)) .unit) xs)) (hi : i < xs.length) (hX : xs.getD i (List.replicate m 0, ()) = X) (hL : X.1 = L) (hj : j < m) (he : L.getD j 0 = e) :
    Reads P ⟨dst, .load T x, ty, pos, aft, g⟩ fr H (.int q e) := r_load_elem2s (u := .int q) rfl ha hs hz rfl hx hg hi hX hL hj he
end
end Go.GA
end
section
namespace Go.GA
open Go Go.RowKit

section
variable {P : Program} {ops : Array Oper} {Q : Exit → Act → World → Prop}
/-- every head that is not of the first ones is waited for by a later one up to m -/
def sink2B (ops : Array Oper) (m : Nat) (l0 : Array Bool) : Bool :=
  (List.range m).all fun i => l0.getD i false || (List.range (m + 1)).any fun j => decide (i < j) && Region.waitsFor .any ops j i

theorem tail_waits2 {n : Nat} {l0 listed : Array Bool} (hs : sink2B ops n l0 = true) (hc : Region.chainB .any ops n = true) (hn : n < ops.size) (inv : HeadInv .any ops n listed)
    (h0 : ∀ i, l0.getD i false = true → listed.getD i false = true) :
    ∀ (d i : Nat), n - i = d → i < n → listed.getD i true = false → ∀ t, n ≤ t → t ∉ Region.ready .any ops listed := by
  intro d
  induction d using Nat.strongRecOn with
  | _ d ih =>
    intro i hd hi hun t ht hr
    obtain ⟨_, ot, hot, hall⟩ := mem_ready.1 hr
    have htlt : t < ops.size := (Array.getElem?_eq_some_iff.1 hot).1
    by_cases htn : t = n
    · subst htn
      have h1 := List.all_eq_true.1 hs i (List.mem_range.2 hi)
      rcases Bool.or_eq_true _ _ ▸ h1 with h1 | h1
      · have := h0 i h1
        rw [getD_both hun] at this; cases this
      obtain ⟨j, hj, hj2⟩ := List.any_eq_true.1 h1
      simp only [Bool.and_eq_true, decide_eq_true_eq] at hj2
      obtain ⟨oj, hoj, e, he, hb, hon⟩ := Region.waitsFor_spec hj2.2
      have hjle : j ≤ t := by have := List.mem_range.1 hj; omega
      by_cases hjt : j = t
      · subst hjt
        have : oj = ot := Option.some.inj (hoj.symm.trans hot)
        subst this
        have h2 := hall e he hb
        rw [hon, getD_both hun] at h2
        cases h2
      · cases hl : listed.getD j false with
        | true =>
          have h2 := inv.closed j oj hoj hl e he hb
          rw [hon, getD_both hun] at h2
          cases h2
        | false =>
          have hjs : j < listed.size := by rw [inv.size]; omega
          exact ih (t - j) (by omega) j rfl (by omega) (getD_in hjs hl) t (Nat.le_refl _) hr
    · have h1 := List.all_eq_true.1 hc t (List.mem_range.2 htlt)
      simp only [Bool.or_eq_true, decide_eq_true_eq] at h1
      rcases h1 with h1 | h1
      · omega
      · obtain ⟨o', ho', e, he, hb, hon⟩ := Region.waitsFor_spec h1
        have : o' = ot := Option.some.inj (ho'.symm.trans hot)
        subst this
        have h2 := hall e he hb
        rw [hon, getD_both (inv.tail (t - 1) (by omega) (by omega))] at h2
        cases h2

theorem wpAny_of_AK2 {m g : Nat} {l0 : Array Bool} {T : Act → World → Prop} (hs : sink2B ops m l0 = true) (hc : Region.chainB .any ops m = true) (hm : m < ops.size)
    (hT : ∀ listed a w, HeadInv .any ops m listed → (∀ j, j < m → listed.getD j false = true) → T a w → wpAny P .any ops Q g listed a w) :
    ∀ {w0 : World} (f : Nat) (listed : Array Bool) (a : Act) (w : World), HeadInv .any ops m listed → (∀ i, l0.getD i false = true → listed.getD i false = true) → wpAK P ops Q m T w0 f listed a w → wpAny P .any ops Q (f + g) listed a w
  | _, 0, listed, a, w, inv, _, h => by
    rw [Nat.zero_add]
    exact hT listed a w inv h.1 (h.2 w (Kept.refl w))
  | _, f + 1, listed, a, w, inv, hl, h => by
    obtain ⟨⟨i0, hi0, him0⟩, hall⟩ := h w (Kept.refl w)
    have e : f + 1 + g = (f + g) + 1 := by omega
    rw [e]
    refine ⟨fun h0 => (by rw [h0] at hi0; cases hi0), fun i hi => ?_⟩
    have him : i < m := by
      rcases Nat.lt_or_ge i m with h' | h'
      · exact h'
      · exact absurd hi (tail_waits2 hs hc hm inv hl _ i0 rfl him0 (mem_ready.1 hi0).1 i h')
    exact wpOp_mono (fun a' w' h3 => wpAny_of_AK2 hs hc hm hT f _ a' w' (inv.set hi him) (fun j hj => getD_set_true (hl j hj)) h3.2) (hall i hi him)
end

section
variable {P : Program} {Γ : Ctx} {n : Sz} {Q : Exit → Act → World → Prop} {fr fr' : Fr} {H H' : Hp} {all : Array Oper} {ty : TypeId} {pos : String} {aft : Array Edge} {op : Op}
def AP (P : Program) (Γ : Ctx) (n : Sz) (all : Array Oper) (Q : Exit → Act → World → Prop) (g : Nat) (listed : Array Bool) (fr : Fr) (H : Hp) : Prop :=
  ∀ ρ w a, SIM Γ n ρ w a fr H → wpAny P .any all Q g listed a w
theorem aw_drawP {id : Nat} {l : List Oper} (N : Nat) (hN : l.toArray.size = N) (hm : P.follows .mixedOrders = true) (h : AP P Γ n l.toArray Q N (Array.replicate N false) fr H) :
    AW P Γ n (.region id l.toArray true) Q fr H := fun ρ w a s => by
  subst hN
  exact wp_region_any hm (h ρ _ a s.drew)
def readyB (all : Array Oper) (listed : Array Bool) (i : Nat) : Bool := (Region.ready .any all listed).contains i && Region.free .any all listed i
theorem ap_move {g : Nat} {listed : Array Bool} (i : Nat) {d t : Nat} {x : AV} (hsel : Region.noSelect all = true) (hQ : ∀ c a w, Q (.panic c) a w → False) (hi : all[i]? = some ⟨some d, .move (.tmp t), ty, pos, aft, none⟩)
    (hn : readyB all listed i = true) (hx : get fr t = some x) (hd : Nat.blt d n.n = true) (h : AP P Γ n all Q g (listed.setIfInBounds i true) ((d, x) :: fr) H) : AP P Γ n all Q (g + 1) listed fr H := fun ρ w a s => by
  simp only [readyB, Bool.and_eq_true] at hn
  have hv := s.ev (o := .tmp t) hx
  refine wpAny_first (v := a.eval (.tmp t)) hi (fun j o cs b ho => Region.noSelect_spec hsel j o cs b ho) (fun c a w hq => (hQ _ _ _ hq).elim) g listed a w (Region.free_spec hi hn.2) (by simpa using hn.1) (.inl ⟨rfl, fun w' => rfl⟩) ?_
  exact h ρ w (a.put (some d) _) (s.put hd hv)
def closedB (ops : Array Oper) (m : Nat) (l0 : Array Bool) : Bool :=
  decide (l0.size = ops.size) && ((List.range ops.size).all fun j => !l0.getD j false || match ops[j]? with
    | some oj => oj.after.all fun e => !Region.binds .any e || l0.getD e.on false
    | none => true) && (List.range ops.size).all fun t => decide (t < m) || !l0.getD t true
theorem closed_inv {ops : Array Oper} {m : Nat} {l0 : Array Bool} (h : closedB ops m l0 = true) : HeadInv .any ops m l0 := by
  simp only [closedB, Bool.and_eq_true, decide_eq_true_eq] at h
  obtain ⟨⟨h1, h2⟩, h3⟩ := h
  refine ⟨h1, fun j oj hj hl e he hb => ?_, fun t ht ht' => ?_⟩
  · have hlt : j < ops.size := (Array.getElem?_eq_some_iff.1 hj).1
    have := List.all_eq_true.1 h2 j (List.mem_range.2 hlt)
    rw [hl, hj] at this
    simp only [Bool.not_true, Bool.false_or] at this
    have := Array.all_eq_true_iff_forall_mem.1 this e he
    rw [hb] at this
    simpa using this
  · have := List.all_eq_true.1 h3 t (List.mem_range.2 ht')
    simp only [Bool.or_eq_true, decide_eq_true_eq, Bool.not_eq_true'] at this
    rcases this with h | h
    · omega
    · exact h
def draw2B (l : List Oper) (m : Nat) (l0 : Array Bool) : Bool :=
  Region.noSelect l.toArray && decide (m < l.length) && sink2B l.toArray m l0 && Region.chainB .any l.toArray m && Region.seqB .any l.toArray (l.length - m) m (canon m l.length) && closedB l.toArray m l0
theorem ap_an {l : List Oper} {g f : Nat} {l0 : Array Bool} (m : Nat) (hB : draw2B l m l0 = true) (hg : g = f + (l.length - m)) (h : AN P Γ n l.toArray Q m (fun a w => wpList P l.toArray Q (l.drop m) a w) f l0 fr H) :
    AP P Γ n l.toArray Q g l0 fr H := fun ρ w a s => by
  simp only [draw2B, Bool.and_eq_true, decide_eq_true_eq] at hB
  obtain ⟨⟨⟨⟨⟨hsel, hn⟩, hs⟩, hc⟩, hseq⟩, hcl⟩ := hB
  rw [hg]
  refine wpAny_of_AK2 (P := P) (Q := Q) (ops := l.toArray) (m := m) (g := l.length - m) hs hc (by simpa using hn) (fun listed a w inv hdone hT => ?_) f l0 a w (closed_inv hcl) (fun _ h => h) (h ρ w a s)
  have hcanon : listed = canon m l.length := by
    apply Array.ext
    · rw [inv.size]; simp [canon]; omega
    · intro i h1 h2
      have hi : i < l.length := by rw [inv.size] at h1; simpa using h1
      by_cases him : i < m
      · have := hdone i him
        simp [h1] at this
        simp [canon, this, him]
      · have := inv.tail i (by omega) (by simpa using hi)
        simp [h1] at this
        simp only [canon, List.getElem_toArray, this]
        rw [List.getElem_append_right (by simp; omega)]
        simp
  rw [hcanon]
  have := wpAny_of_seq (P := P) (ops := l.toArray) (md := .any) (Q' := Q) (l.drop m) m (canon m l.length) a w (fun j => by simp [List.getElem?_drop]) (by simpa using hseq) hT
  simpa using this
end
end Go.GA
end
section
namespace Go.GA
open Go Go.RowKit
section
variable {P : Program} {Γ : Ctx} {n : Sz} {Q : Exit → Act → World → Prop} {fr fr' : Fr} {H H' Hc : Hp} {all : Array Oper} {ops : List Oper} {ty : TypeId} {pos : String} {aft : Array Edge}
theorem ao_callV [LaidS P Γ] {g : Option (Nat × Bool)} {d : Nat} {f : FuncId} {fn : Func} {fo : Operand} {as : List Operand} {tys : Array TypeId} {caps xs ys : List AV} {R : AV → Hp → Prop} (l : List Nat) (base : Nat) (hg : gOK all fr g) (hc : ACallsV P f ys Hc R)
    (hf : P.funcs[f]? = some fn) (hbody : fn.body.isNone = false) (hname : (fn.name == "runtime.NumGoroutine") = false)
    (hfo : evO fr fo = some (.fn f caps)) (hxs : evOs fr as = some xs) (hA : xs ++ caps = AV.renL (sg l base) ys) (hR : SubHR H (sg l base) Hc) (hS : SubH H Hc (sg l base) Hc) (hks : hkeys Hc = List.range l.length) (hl : allLt base l = true) (hln : injB (fun i => i) l = true)
    (hfr : allLt base (Fr.ids fr) = true) (hH : allLt base (Hp.ids H) = true) (hK : Nat.ble n.K base = true) (hd : Nat.blt d n.n = true)
    (h : ∀ r H', R r H' → AO P Γ n all Q ops ((d, r.ren (sg l base)) :: fr) (hdel l H ++ hren (sg l base) H')) :
    AO P Γ n all Q (⟨some d, .call ⟨.value fo, as.toArray, tys⟩, ty, pos, aft, g⟩ :: ops) fr H := fun ρ w a s => by
  obtain ⟨cv, hcv, hcaps⟩ := s.ev hfo
  refine wpList_go (s.wanted hg) fun K hK' => ?_
  unfold Oper.wp
  rw [run_callv rfl hcv hf hbody hname, Oper.upon_enter]
  refine (call_simV hc l base s (evOs_append (evOs_ok (fun o y h => s.ev h) hxs) hcaps) hA hR hS hks hl hln hfr hH hK).mono ?_
  rintro e w' ⟨v, r, H', ρ', rfl, hR, s', hv, _⟩
  exact hK' _ _ (h r H' hR ρ' w' _ (s'.put hd hv))
theorem ao_call0V [LaidS P Γ] {g : Option (Nat × Bool)} {f : FuncId} {fn : Func} {fo : Operand} {as : List Operand} {tys : Array TypeId} {caps xs ys : List AV} {R : AV → Hp → Prop} (l : List Nat) (base : Nat) (hg : gOK all fr g) (hc : ACallsV P f ys Hc R)
    (hf : P.funcs[f]? = some fn) (hbody : fn.body.isNone = false) (hname : (fn.name == "runtime.NumGoroutine") = false)
    (hfo : evO fr fo = some (.fn f caps)) (hxs : evOs fr as = some xs) (hA : xs ++ caps = AV.renL (sg l base) ys) (hR : SubHR H (sg l base) Hc) (hS : SubH H Hc (sg l base) Hc) (hks : hkeys Hc = List.range l.length) (hl : allLt base l = true) (hln : injB (fun i => i) l = true)
    (hfr : allLt base (Fr.ids fr) = true) (hH : allLt base (Hp.ids H) = true) (hK : Nat.ble n.K base = true)
    (h : ∀ r H', R r H' → AO P Γ n all Q ops fr (hdel l H ++ hren (sg l base) H')) :
    AO P Γ n all Q (⟨none, .call ⟨.value fo, as.toArray, tys⟩, ty, pos, aft, g⟩ :: ops) fr H := fun ρ w a s => by
  obtain ⟨cv, hcv, hcaps⟩ := s.ev hfo
  refine wpList_go (s.wanted hg) fun K hK' => ?_
  unfold Oper.wp
  rw [run_callv rfl hcv hf hbody hname, Oper.upon_enter]
  refine (call_simV hc l base s (evOs_append (evOs_ok (fun o y h => s.ev h) hxs) hcaps) hA hR hS hks hl hln hfr hH hK).mono ?_
  rintro e w' ⟨v, r, H', ρ', rfl, hR, s', hv, _⟩
  exact hK' _ _ (h r H' hR ρ' w' _ s')
end
section
variable {P : Program} {Γ : Ctx} {n : Sz} {Q : Exit → Act → World → Prop} {fr fr' : Fr} {H H' : Hp} {all : Array Oper} {ty : TypeId} {pos : String} {aft : Array Edge} {op : Op}
variable {m f base : Nat} {T : Act → World → Prop} {listed : Array Bool}
theorem axo_callV [LaidS P Γ] (i : Nat) (nb : Nat) {g : Option (Nat × Bool)} {d : Nat} {fi : FuncId} {fn : Func} {fo : Operand} {as : List Operand} {tys : Array TypeId} {caps xs ys : List AV} {R : AV → Hp → Prop} (hi : all[i]? = some ⟨some d, .call ⟨.value fo, as.toArray, tys⟩, ty, pos, aft, g⟩) (hg : gOK all fr g) (hc : ACallsV P fi ys [] R)
    (hf : P.funcs[fi]? = some fn) (hbody : fn.body.isNone = false) (hname : (fn.name == "runtime.NumGoroutine") = false)
    (hfo : evO fr fo = some (.fn fi caps)) (hxs : evOs fr as = some xs) (hA : xs ++ caps = AV.renL (sg [] nb) ys)
    (hfr : allLt nb (Fr.ids fr) = true) (hH : allLt nb (Hp.ids H) = true) (hK : Nat.ble n.K nb = true) (hd : Nat.blt d n.n = true)
    (h : ∀ r H', R r H' → AX P Γ n all Q m T base f (listed.setIfInBounds i true) ((d, r.ren (sg [] nb)) :: fr) (hdel [] H ++ hren (sg [] nb) H')) : AXO P Γ n all Q m T base f listed fr H i := fun ρ w a w0 s hk hfn => by
  obtain ⟨cv, hcv, hcaps⟩ := s.ev hfo
  unfold Go.wpOp
  simp only [hi, s.wanted (o := ⟨some d, .call ⟨.value fo, as.toArray, tys⟩, ty, pos, aft, g⟩) hg, if_true]
  refine .inl ?_
  unfold Oper.wp
  rw [run_callv rfl hcv hf hbody hname w, Oper.upon_enter]
  refine (call_simV hc [] nb s (evOs_append (evOs_ok (fun o y h => s.ev h) hxs) hcaps) hA trivial trivial rfl rfl rfl hfr hH hK).mono ?_
  rintro e w' ⟨v, r, H', ρ', rfl, hR, s', hv, hgr⟩
  have ht : takenB base H (hdel [] H ++ hren (sg [] nb) H') = true := by
    refine List.all_eq_true.2 (fun e he => ?_)
    rw [Bool.or_eq_true]
    left
    cases hb : memB e.1 (hkeys (hdel [] H ++ hren (sg [] nb) H')) with
    | true => rfl
    | false =>
      have := memB_false hb
      rw [hkeys_eq, List.map_append, hdel_nil] at this
      exact absurd (List.mem_append_left _ (List.mem_map_of_mem he)) this
  obtain ⟨hk', hf'⟩ := axo_grew hk hfn (hgr rfl) ht
  exact ⟨hk', h r H' hR ρ' w' _ w0 (s'.put hd hv) hk' hf'⟩
/-- rows that are not written any more -/
theorem ax_frz (hfr : SubFr H H' (fun i => i) fr fr') (hH : SubH H H' (fun i => i) H') (hi : injB (fun i => i) (hkeys H') = true) (h : AX P Γ n all Q m T base f listed fr' H') : AX P Γ n all Q m T base f listed fr H := fun ρ w a w0 s hk hf => by
  obtain ⟨ℓ, hk1, hb⟩ := s.heap
  obtain ⟨hm0, hm, hd, hk'⟩ := heap_sub hk1 (s.apart hb) hH hi
  refine h (ρ.map fun i => i) w a w0 ⟨s.defers, s.size, s.ext, s.keep, fun b hb => s.own b (hm0 b hb), ⟨_, hk', ?_⟩, ?_⟩ hk (fun e he hbe b k hbk => ?_)
  · intro e he b hb'
    obtain ⟨A, hA, _⟩ := subH_mem hH he
    exact hb _ (hget_mem hA) b hb'
  · intro t y hy
    obtain ⟨x, hx, had⟩ := subFr_get hfr hy
    obtain ⟨h1, h2⟩ := s.fr t x hx
    exact ⟨h1, had ρ _ ℓ hk1 hm hd _ h2⟩
  · obtain ⟨A, hA, _⟩ := subH_mem hH he
    exact hf _ (hget_mem hA) hbe b k hbk
theorem axo_frz {i : Nat} (hfr : SubFr H H' (fun i => i) fr fr') (hH : SubH H H' (fun i => i) H') (hi : injB (fun i => i) (hkeys H') = true) (h : AXO P Γ n all Q m T base f listed fr' H' i) : AXO P Γ n all Q m T base f listed fr H i := fun ρ w a w0 s hk hf => by
  obtain ⟨ℓ, hk1, hb⟩ := s.heap
  obtain ⟨hm0, hm, hd, hk'⟩ := heap_sub hk1 (s.apart hb) hH hi
  refine h (ρ.map fun i => i) w a w0 ⟨s.defers, s.size, s.ext, s.keep, fun b hb => s.own b (hm0 b hb), ⟨_, hk', ?_⟩, ?_⟩ hk (fun e he hbe b k hbk => ?_)
  · intro e he b hb'
    obtain ⟨A, hA, _⟩ := subH_mem hH he
    exact hb _ (hget_mem hA) b hb'
  · intro t y hy
    obtain ⟨x, hx, had⟩ := subFr_get hfr hy
    obtain ⟨h1, h2⟩ := s.fr t x hx
    exact ⟨h1, had ρ _ ℓ hk1 hm hd _ h2⟩
  · obtain ⟨A, hA, _⟩ := subH_mem hH he
    exact hf _ (hget_mem hA) hbe b k hbk
/-- the same in a line of operations -/
theorem ao_frz {ops : List Oper} (hfr : SubFr H H' (fun i => i) fr fr') (hH : SubH H H' (fun i => i) H') (hi : injB (fun i => i) (hkeys H') = true) (h : AO P Γ n all Q ops fr' H') : AO P Γ n all Q ops fr H := AO.sub (sub_mk (fun i => i) hfr hH hi (fun _ _ => rfl)) h
end
end Go.GA
end
section
namespace Go.GA
open Go Go.RowKit
theorem run_bounds3 {P : Program} {ρ : Rho} {h : Hf} {M : Nat → Prop} {fr : Fr} {ev : Operand → Value} (hev : ∀ o y, evO fr o = some y → RA ρ h M y (ev o)) {isSlice : Bool} {len cap : Nat} {lo : Option Operand} {ho mo : Operand} {k k' : IntKind} {l m : Int}
    (hlo : Lo fr lo l) (hhi : evO fr ho = some (.int k m)) (hmx : evO fr mo = some (.int k' m)) (h0 : 0 ≤ l) (h1 : l ≤ m) (h2 : m ≤ (len : Int)) (h3 : len ≤ cap) (w : World) :
    (Instr.sliceBounds isSlice len cap (lo.map ev) (some (ev ho)) (some (ev mo))).run P w = .ok (l.toNat, m.toNat, m.toNat) w := by
  have e1 : ∀ {o : Operand} {k : IntKind} {i : Int}, evO fr o = some (.int k i) → ev o = .int k i := fun h => by have := hev _ _ h; simpa only [RA] using this
  have a0 : 0 ≤ m ∧ m ≤ (cap : Int) := ⟨by omega, by omega⟩
  have a1 : max m 0 = m := by omega
  have a2 : 0 ≤ m := by omega
  unfold Instr.sliceBounds
  cases hlo with
  | none => simp [Instr.sliceBound, e1 hhi, e1 hmx, asIntOf, a0, a1]
  | some hl => simp [Instr.sliceBound, e1 hl, e1 hhi, e1 hmx, asIntOf, a0, a1, h0, h1]
section
variable {P : Program} {n : Sz} {fr : Fr} {H : Hp} {dst : Option Nat} {ty : TypeId} {pos : String} {aft : Array Edge} {g : Option (Nat × Bool)}
theorem r_slice_v3 {T E : TypeId} {x : Operand} {t : Ty} {xs : List t.D} {lo : Option Operand} {ho mo : Operand} {k k' : IntKind} {l u : Int} (hu : P.underlying T = some (.slice E)) (hs : ∀ w, (sizeOf E).run P w = .ok t.sz w) (hx : evO fr x = some (.v (.slice t) xs))
    (hlo : Lo fr lo l) (hhi : evO fr ho = some (.int k u)) (hmx : evO fr mo = some (.int k' u)) (h0 : 0 ≤ l) (h1 : l ≤ u) (h2 : u ≤ (xs.length : Int)) :
    Reads P ⟨dst, .slice T x lo (some ho) (some mo), ty, pos, aft, g⟩ fr H (.v (.slice t) ((xs.take u.toNat).drop l.toNat)) := fun Γ n ρ w a s => by
  obtain ⟨F, ⟨cs, ⟨hl, hc⟩, hv⟩, hF⟩ := s.ev hx
  have hlen : ((xs.take u.toNat).drop l.toNat).length = u.toNat - l.toNat := by simp; omega
  have hle : ((xs.take u.toNat).drop l.toNat).length ≤ lim := by rw [hlen]; omega
  rcases hc with ⟨e0, _, a', cap, e⟩ | ⟨b, off, ex, F', e, eF, c, T', z, p, m, q, hb, hcl, hp, hm⟩
  · subst e
    have hv' : a.eval x = .slice a' 0 cap := by rw [hv]; rfl
    have hlen0 : xs.length = 0 := by rw [e0]; rfl
    have hu0 : u = 0 := by omega
    have hl0 : l = 0 := by omega
    have hb := fun w' => run_bounds3 (P := P) (isSlice := true) (len := 0) (cap := cap) (fun o y h => s.ev h) hlo hhi hmx h0 h1 (by omega) (Nat.zero_le _) w'
    subst hu0; subst hl0
    simp only [Int.toNat_zero] at hb
    refine ⟨.slice a' 0 0, ⟨[], ⟨[.slice a' 0 0], ⟨by simp, .inl ⟨by simp; rfl, rfl, a', 0, rfl⟩⟩, rfl⟩, by simp⟩, fun w' _ => ?_⟩
    simp only [execOp, Instr.sliceAt, Instr.slice, Sem.run_bind, run_underlying hu, Result.andThen_ok, hv', Option.map_some, hb, hs, Nat.sub_zero, Nat.sub_self, if_true, Sem.run_pure]
  · subst e
    have hv' : a.eval x = .slice (some ⟨b, off, none⟩) xs.length (xs.length + ex) := by rw [hv]; rfl
    have hb' := fun w' => run_bounds3 (P := P) (isSlice := true) (len := xs.length) (cap := xs.length + ex) (fun o y h => s.ev h) hlo hhi hmx h0 h1 h2 (by omega) w'
    by_cases hz : u.toNat = l.toNat
    · have hnil : (xs.take u.toNat).drop l.toNat = [] := by rw [hz]; simp
      rw [hnil]
      refine ⟨.slice (some ⟨b, off, none⟩) 0 0, ⟨[], ⟨[.slice _ 0 0], ⟨by simp, .inl ⟨rfl, rfl, _, _, rfl⟩⟩, rfl⟩, by simp⟩, fun w' _ => ?_⟩
      simp only [execOp, Instr.sliceAt, Instr.slice, Sem.run_bind, run_underlying hu, Result.andThen_ok, hv', Option.map_some, hb', hs, hz, if_true, Nat.sub_self, Sem.run_pure]
    · have e1 : xs = (xs.take l.toNat) ++ ((xs.take u.toNat).drop l.toNat ++ xs.drop u.toNat) := by
        have h2 : xs.take u.toNat = xs.take l.toNat ++ (xs.take u.toNat).drop l.toNat := by
          conv => lhs; rw [← List.take_append_drop l.toNat (xs.take u.toNat)]
          rw [List.take_take, Nat.min_eq_left (by omega)]
        rw [← List.append_assoc, ← h2, List.take_append_drop]
      rw [e1] at hm
      obtain ⟨c1, c2, F1, F2, g1, g2, g3, g4⟩ := RelL.split hm
      obtain ⟨d1, d2, G1, G2, k1, k2, k3, k4⟩ := RelL.split g4
      have l1 : c1.length = l.toNat * t.sz := by
        rw [RelL.len (fun x c F h => Rc.len t h) g3, List.length_take, Nat.min_eq_left (by omega)]
      refine ⟨.slice (some ⟨b, off + l.toNat * t.sz, none⟩) (u.toNat - l.toNat) (u.toNat - l.toNat), ⟨b :: G1, ⟨[_], ⟨hle, .inr ⟨b, off + l.toNat * t.sz, 0, G1, by rw [hlen]; rfl, rfl, c, T', z, p ++ c1, d1, d2 ++ q, hb, by rw [hcl, g1, k1]; simp, by rw [List.length_append, hp, l1], k3⟩⟩, rfl⟩, fun x hx => hF x (by
          rw [eF, g2, k2]
          rcases List.mem_cons.1 hx with h | h
          · rw [h]; simp
          · simp [h])⟩, fun w' _ => ?_⟩
      simp only [execOp, Instr.sliceAt, Instr.slice, Sem.run_bind, run_underlying hu, Result.andThen_ok, hv', Option.map_some, hb', hs]
      simp [hz, addr_add]
theorem r_slice_v3m {T E : TypeId} {x : Operand} {t : Ty} {xs : List t.D} {lo : Option Operand} {ho mo : Operand} {k k' : IntKind} {l u : Int} (ys : List t.D) (hu : P.underlying T = some (.slice E)) (hs : ∀ w, (sizeOf E).run P w = .ok t.sz w) (hx : evO fr x = some (.v (.slice t) xs))
    (hlo : Lo fr lo l) (hhi : evO fr ho = some (.int k u)) (hmx : evO fr mo = some (.int k' u)) (h0 : 0 ≤ l) (h1 : l ≤ u) (h2 : u ≤ (xs.length : Int)) (hy : (xs.take u.toNat).drop l.toNat = ys) :
    Reads P ⟨dst, .slice T x lo (some ho) (some mo), ty, pos, aft, g⟩ fr H (.v (.slice t) ys) := by
  subst hy; exact r_slice_v3 hu hs hx hlo hhi hmx h0 h1 h2
end
end Go.GA
end
section
namespace Go.GA
open Go Go.RowKit
/-- strconv.Itoa -/
def p_strconv_Itoa (x0 : Int) : Option ByteArray := if -9223372036854775808 ≤ x0 ∧ x0 ≤ 9223372036854775807 then some ⟨(Lib.itoa x0).toArray⟩ else none
theorem itoa_scalar {P : Program} {f : FuncId} {g : Nat} (hg : P.globalNamed "internal/strconv.uint64pow10" = some g)
    (hI : ∀ (n : Int), -9223372036854775808 ≤ n → n ≤ 9223372036854775807 → ∀ w : World, Lib.TabIs P w "internal/strconv.uint64pow10" .u64 Lib.pow10Tab →
      Calls P f #[.int .i64 n] w fun e w' => e = .returned (.string ⟨(Lib.itoa n).toArray⟩) ∧ ∃ k os, w' = Sort.grow (w.drewN k) os)
    {x0 : Int} {r : ByteArray} (h : Is (p_strconv_Itoa x0) (some r)) : Scalar P f [.int .i64 x0] (.str r) := by
  unfold p_strconv_Itoa at h
  obtain ⟨hn, h⟩ := is_guard h
  obtain rfl := is_some h
  intro ρ w vs ℓ h1 h2 hN hLd
  obtain ⟨v, vs', rfl, hv, hr⟩ := h1
  simp only [RAs] at hr
  subst hr
  have hv' : v = .int .i64 x0 := hv
  subst hv'
  refine (hI x0 hn.1 hn.2 w (hLd g hg).1).mono ?_
  rintro e w' ⟨rfl, k, os, rfl⟩
  have hd : ∀ k, (w.drewN k).heap = w.heap := fun k => by simp
  refine ⟨_, _, [], ρ, fun _ => [], rfl, ⟨⟨⟨rfl, rfl⟩, rfl, rfl⟩, by simp, ⟨rfl, rfl, rfl, by simp [Sort.grow], fun i hi _ => ?_⟩, ⟨by simp, by simp, by simp, by simp⟩, ?_, ?_, rfl, rfl⟩⟩
  · simp only [Sort.grow, hd]
    rw [Array.getElem?_append_left hi]
  · rintro b ⟨e, he, _⟩; cases he
  · rintro b ⟨e, he, _⟩; cases he
end Go.GA
end
section
namespace Go.GA
open Go Go.RowKit
/-- an operation that gives x in whatever world -/
def ReadsP (P : Program) (o : Oper) (fr : Fr) (x : AV) : Prop :=
  ∀ (ρ : Rho) (h : Hf) (M : Nat → Prop) (ev : Operand → Value), (∀ o y, evO fr o = some y → RA ρ h M y (ev o)) → ∃ v, RA ρ h M x v ∧ ∀ w', (execOp ev o).run P w' = .ok (.value v) w'
section
variable {P : Program} {Γ : Ctx} {n : Sz} {Q : Exit → Act → World → Prop} {fr fr' : Fr} {H H' : Hp} {dst : Option Nat} {ty : TypeId} {pos : String} {aft : Array Edge} {g : Option (Nat × Bool)} {all : Array Oper}
variable {xT yT : TypeId} {x y : Operand} {a b : Int} {k : IntKind}
theorem rp_move {x : Operand} {y : AV} (hx : evO fr x = some y) : ReadsP P ⟨dst, .move x, ty, pos, aft, g⟩ fr y :=
  fun ρ h M ev hev => ⟨ev x, hev x y hx, fun _ => rfl⟩
theorem rp_assign {x : Operand} {y : AV} (hx : evO fr x = some y) : ReadsP P ⟨dst, .assign x, ty, pos, aft, g⟩ fr y :=
  fun ρ h M ev hev => ⟨ev x, hev x y hx, fun _ => rfl⟩
theorem rp_eql {xT yT : TypeId} {x y : Operand} {k : IntKind} {a b : Int} (hx : evO fr x = some (.int k a)) (hy : evO fr y = some (.int k b)) :
    ReadsP P ⟨dst, .binOp .eql xT x y yT, ty, pos, aft, g⟩ fr (.bool (decide (a = b))) :=
  fun ρ h M ev hev => ⟨_, rfl, fun w' => run_int (hev x _ hx) (hev y _ hy) rfl (fun w' => by simp [Op.intCmp, go_sem, bne, BEq.beq]) w'⟩
theorem rp_neq {xT yT : TypeId} {x y : Operand} {k : IntKind} {a b : Int} (hx : evO fr x = some (.int k a)) (hy : evO fr y = some (.int k b)) :
    ReadsP P ⟨dst, .binOp .neq xT x y yT, ty, pos, aft, g⟩ fr (.bool (!decide (a = b))) :=
  fun ρ h M ev hev => ⟨_, rfl, fun w' => run_int (hev x _ hx) (hev y _ hy) rfl (fun w' => by simp [Op.intCmp, go_sem, bne, BEq.beq]) w'⟩
theorem rp_lss {xT yT : TypeId} {x y : Operand} {k : IntKind} {a b : Int} (hx : evO fr x = some (.int k a)) (hy : evO fr y = some (.int k b)) :
    ReadsP P ⟨dst, .binOp .lss xT x y yT, ty, pos, aft, g⟩ fr (.bool (decide (a < b))) :=
  fun ρ h M ev hev => ⟨_, rfl, fun w' => run_int (hev x _ hx) (hev y _ hy) rfl (fun w' => by simp [Op.intCmp, go_sem, bne, BEq.beq]) w'⟩
theorem rp_leq {xT yT : TypeId} {x y : Operand} {k : IntKind} {a b : Int} (hx : evO fr x = some (.int k a)) (hy : evO fr y = some (.int k b)) :
    ReadsP P ⟨dst, .binOp .leq xT x y yT, ty, pos, aft, g⟩ fr (.bool (decide (a ≤ b))) :=
  fun ρ h M ev hev => ⟨_, rfl, fun w' => run_int (hev x _ hx) (hev y _ hy) rfl (fun w' => by simp [Op.intCmp, go_sem, bne, BEq.beq]) w'⟩
theorem rp_gtr {xT yT : TypeId} {x y : Operand} {k : IntKind} {a b : Int} (hx : evO fr x = some (.int k a)) (hy : evO fr y = some (.int k b)) :
    ReadsP P ⟨dst, .binOp .gtr xT x y yT, ty, pos, aft, g⟩ fr (.bool (decide (b < a))) :=
  fun ρ h M ev hev => ⟨_, rfl, fun w' => run_int (hev x _ hx) (hev y _ hy) rfl (fun w' => by simp [Op.intCmp, go_sem, bne, BEq.beq]) w'⟩
theorem rp_geq {xT yT : TypeId} {x y : Operand} {k : IntKind} {a b : Int} (hx : evO fr x = some (.int k a)) (hy : evO fr y = some (.int k b)) :
    ReadsP P ⟨dst, .binOp .geq xT x y yT, ty, pos, aft, g⟩ fr (.bool (decide (b ≤ a))) :=
  fun ρ h M ev hev => ⟨_, rfl, fun w' => run_int (hev x _ hx) (hev y _ hy) rfl (fun w' => by simp [Op.intCmp, go_sem, bne, BEq.beq]) w'⟩
theorem rp_add {xT yT : TypeId} {x y : Operand} {k : IntKind} {a b : Int} (hx : evO fr x = some (.int k a)) (hy : evO fr y = some (.int k b)) :
    ReadsP P ⟨dst, .binOp .add xT x y yT, ty, pos, aft, g⟩ fr (.int k (k.wrap (a + b))) :=
  fun ρ h M ev hev => ⟨_, rfl, fun w' => run_int (hev x _ hx) (hev y _ hy) rfl (fun w' => rfl) w'⟩
theorem rp_sub {xT yT : TypeId} {x y : Operand} {k : IntKind} {a b : Int} (hx : evO fr x = some (.int k a)) (hy : evO fr y = some (.int k b)) :
    ReadsP P ⟨dst, .binOp .sub xT x y yT, ty, pos, aft, g⟩ fr (.int k (k.wrap (a - b))) :=
  fun ρ h M ev hev => ⟨_, rfl, fun w' => run_int (hev x _ hx) (hev y _ hy) rfl (fun w' => rfl) w'⟩
theorem rp_mul {xT yT : TypeId} {x y : Operand} {k : IntKind} {a b : Int} (hx : evO fr x = some (.int k a)) (hy : evO fr y = some (.int k b)) :
    ReadsP P ⟨dst, .binOp .mul xT x y yT, ty, pos, aft, g⟩ fr (.int k (k.wrap (a * b))) :=
  fun ρ h M ev hev => ⟨_, rfl, fun w' => run_int (hev x _ hx) (hev y _ hy) rfl (fun w' => rfl) w'⟩
theorem rp_quo {xT yT : TypeId} {x y : Operand} {k : IntKind} {a b : Int} (hx : evO fr x = some (.int k a)) (hy : evO fr y = some (.int k b)) (hb : b ≠ 0) :
    ReadsP P ⟨dst, .binOp .quo xT x y yT, ty, pos, aft, g⟩ fr (.int k (k.wrap (a.tdiv b))) :=
  fun ρ h M ev hev => ⟨_, rfl, fun w' => run_int (hev x _ hx) (hev y _ hy) rfl (fun w' => by simp [Op.intDiv, hb, go_sem]) w'⟩
theorem rp_rem {xT yT : TypeId} {x y : Operand} {k : IntKind} {a b : Int} (hx : evO fr x = some (.int k a)) (hy : evO fr y = some (.int k b)) (hb : b ≠ 0) :
    ReadsP P ⟨dst, .binOp .rem xT x y yT, ty, pos, aft, g⟩ fr (.int k (a.tmod b)) :=
  fun ρ h M ev hev => ⟨_, rfl, fun w' => run_int (hev x _ hx) (hev y _ hy) rfl (fun w' => by simp [Op.intDiv, hb, go_sem]) w'⟩
theorem rp_and {xT yT : TypeId} {x y : Operand} {k : IntKind} {a b : Int} (hx : evO fr x = some (.int k a)) (hy : evO fr y = some (.int k b)) :
    ReadsP P ⟨dst, .binOp .and xT x y yT, ty, pos, aft, g⟩ fr (.int k (andI k a b)) :=
  fun ρ h M ev hev => ⟨_, rfl, fun w' => run_int (hev x _ hx) (hev y _ hy) rfl (fun w' => rfl) w'⟩
theorem rp_or {xT yT : TypeId} {x y : Operand} {k : IntKind} {a b : Int} (hx : evO fr x = some (.int k a)) (hy : evO fr y = some (.int k b)) :
    ReadsP P ⟨dst, .binOp .or xT x y yT, ty, pos, aft, g⟩ fr (.int k (orI k a b)) :=
  fun ρ h M ev hev => ⟨_, rfl, fun w' => run_int (hev x _ hx) (hev y _ hy) rfl (fun w' => rfl) w'⟩
theorem rp_shl {xT yT : TypeId} {x y : Operand} {k k' : IntKind} {a b : Int} (hx : evO fr x = some (.int k a)) (hy : evO fr y = some (.int k' b)) (hb : 0 ≤ b) :
    ReadsP P ⟨dst, .binOp .shl xT x y yT, ty, pos, aft, g⟩ fr (.int k (shlI k a b)) :=
  fun ρ h M ev hev => ⟨_, rfl, fun w' => by
    have h1 := hev x _ hx; have h2 := hev y _ hy
    simp only [RA] at h1 h2
    have hb' : ¬ b < 0 := by omega
    simp [execOp, eqGuard, Go.binOp, go_sem, h1, h2, Op.shift, hb', shlI]⟩
theorem rp_shr {xT yT : TypeId} {x y : Operand} {k k' : IntKind} {a b : Int} (hx : evO fr x = some (.int k a)) (hy : evO fr y = some (.int k' b)) (hb : 0 ≤ b) :
    ReadsP P ⟨dst, .binOp .shr xT x y yT, ty, pos, aft, g⟩ fr (.int k (shrI k a b)) :=
  fun ρ h M ev hev => ⟨_, rfl, fun w' => by
    have h1 := hev x _ hx; have h2 := hev y _ hy
    simp only [RA] at h1 h2
    have hb' : ¬ b < 0 := by omega
    simp [execOp, eqGuard, Go.binOp, go_sem, h1, h2, Op.shift, hb', shrI]⟩
theorem rp_not {xT : TypeId} {x : Operand} {a : Bool} (hx : evO fr x = some (.bool a)) : ReadsP P ⟨dst, .unOp .not xT x, ty, pos, aft, g⟩ fr (.bool !a) :=
  fun ρ h M ev hev => ⟨_, rfl, fun w' => by
    have h1 := hev x _ hx
    simp only [RA] at h1
    simp [execOp, go_sem, h1, Op.unary]⟩
theorem rp_neg {xT : TypeId} {x : Operand} {k : IntKind} {a : Int} (hx : evO fr x = some (.int k a)) : ReadsP P ⟨dst, .unOp .neg xT x, ty, pos, aft, g⟩ fr (.int k (k.wrap (0 - a))) :=
  fun ρ h M ev hev => ⟨_, rfl, fun w' => by
    have h1 := hev x _ hx
    simp only [RA] at h1
    simp [execOp, go_sem, h1, Op.unary, Op.intArith]⟩
theorem rp_andB {c x : Operand} {a b : Bool} (hc : evO fr c = some (.bool a)) (hx : evO fr x = some (.gd a (.bool b))) :
    ReadsP P ⟨dst, .pick c x (.const (.bool false)), ty, pos, aft, g⟩ fr (.bool (a && b)) :=
  fun ρ h M ev hev => ⟨_, rfl, fun w' => by
    have h1 := hev c _ hc; have h2 := hev x _ hx; have h3 := hev (.const (.bool false)) (.bool false) rfl
    simp only [RA] at h1 h2 h3
    cases a <;> simp_all [execOp, go_sem, asBool]⟩
theorem rp_orB {c x : Operand} {a b : Bool} (hc : evO fr c = some (.bool a)) (hx : evO fr x = some (.gd (!a) (.bool b))) :
    ReadsP P ⟨dst, .pick c (.const (.bool true)) x, ty, pos, aft, g⟩ fr (.bool (a || b)) :=
  fun ρ h M ev hev => ⟨_, rfl, fun w' => by
    have h1 := hev c _ hc; have h2 := hev x _ hx; have h3 := hev (.const (.bool true)) (.bool true) rfl
    simp only [RA] at h1 h2 h3
    cases a <;> simp_all [execOp, go_sem, asBool]⟩
theorem rp_len_v {T E : TypeId} {x : Operand} {t : Ty} {xs : List t.D} (hu : P.underlying T = some (.slice E)) (hx : evO fr x = some (.v (.slice t) xs)) :
    ReadsP P ⟨dst, .call ⟨.builtin .len, #[x], #[T]⟩, ty, pos, aft, g⟩ fr (.int .i64 (xs.length : Int)) := fun ρ h M ev hev => by
  obtain ⟨F, ⟨cs, ⟨hl, h1⟩, hv⟩, hF⟩ := hev _ _ hx
  refine ⟨_, rfl, fun w' => ?_⟩
  have : ∃ a' c', ev x = .slice a' xs.length c' := by
    rcases h1 with ⟨h1, _, a', cap, e⟩ | ⟨b, off, cap, F', e, _⟩
    · exact ⟨a', cap, by rw [hv, e]; simp [mkV, Ty.agg, h1]⟩
    · exact ⟨some ⟨b, off, none⟩, _, by rw [hv, e]; simp [mkV, Ty.agg]; rfl⟩
  obtain ⟨a', c', e⟩ := this
  simp [execOp, resolve, invoke, Go.builtin, Builtin.len_, e, Sem.run_bind, run_underlying hu, goInt]
theorem rp_len_nil {T E : TypeId} {x : Operand} (hu : P.underlying T = some (.slice E)) (hx : evO fr x = some .nilsl) :
    ReadsP P ⟨dst, .call ⟨.builtin .len, #[x], #[T]⟩, ty, pos, aft, g⟩ fr (.int .i64 0) := fun ρ h M ev hev => by
  have hx' := hev _ _ hx
  simp only [RA] at hx'
  exact ⟨_, rfl, fun w' => by simp [execOp, resolve, invoke, Go.builtin, Builtin.len_, hx', Sem.run_bind, run_underlying hu, goInt]⟩
theorem rp_len_str {T : TypeId} {x : Operand} {s : ByteArray} (hu : P.underlying T = some .string) (hx : evO fr x = some (.str s)) :
    ReadsP P ⟨dst, .call ⟨.builtin .len, #[x], #[T]⟩, ty, pos, aft, g⟩ fr (.int .i64 (s.size : Int)) := fun ρ h M ev hev => by
  have hx' := hev _ _ hx
  simp only [RA] at hx'
  exact ⟨_, rfl, fun w' => by simp [execOp, resolve, invoke, Go.builtin, Builtin.len_, hx', Sem.run_bind, run_underlying hu, goInt]⟩
theorem rp_extract {x : Operand} {xs : List AV} {i : Nat} {y : AV} (hx : evO fr x = some (.tup xs)) (hn : nthAV xs i = some y) :
    ReadsP P ⟨dst, .extract x i, ty, pos, aft, g⟩ fr y := fun ρ h M ev hev => by
  obtain ⟨vs, e, h1⟩ := hev _ _ hx
  obtain ⟨v, hv, h2⟩ := ras_nth h1 hn
  refine ⟨v, h2, fun w' => ?_⟩
  simp [execOp, Instr.extract, e, hv]
theorem rp_makeFunc {f : FuncId} {cs : List Operand} {xs : List AV} (hx : evOs fr cs = some xs) : ReadsP P ⟨dst, .makeFunc (.func f) #[] cs.toArray, ty, pos, aft, g⟩ fr (.fn f xs) :=
  fun ρ h M ev hev => ⟨_, ⟨cs.map ev, rfl, evOs_ok hev hx⟩, fun w' => by simp [execOp, Instr.makeFunc]⟩
theorem rp_eq_bool {T yT : TypeId} {x y : Operand} {p q : Bool} (hu : P.underlying T = some .bool) (hx : evO fr x = some (.bool p)) (hy : evO fr y = some (.bool q)) : ReadsP P ⟨dst, .binOp .eql T x y yT, ty, pos, aft, g⟩ fr (.bool (p == q)) :=
  fun ρ h M ev hev => ⟨_, rfl, fun w' => by
    have h1 := hev x _ hx; have h2 := hev y _ hy
    simp only [RA] at h1 h2
    simp [execOp, eqGuard, Go.binOp, h1, h2, Sem.run_bind, run_equal_bool w' T p q hu]⟩
theorem rp_neq_bool {T yT : TypeId} {x y : Operand} {p q : Bool} (hu : P.underlying T = some .bool) (hx : evO fr x = some (.bool p)) (hy : evO fr y = some (.bool q)) : ReadsP P ⟨dst, .binOp .neq T x y yT, ty, pos, aft, g⟩ fr (.bool (p != q)) :=
  fun ρ h M ev hev => ⟨_, rfl, fun w' => by
    have h1 := hev x _ hx; have h2 := hev y _ hy
    simp only [RA] at h1 h2
    simp [execOp, eqGuard, Go.binOp, h1, h2, Sem.run_bind, run_equal_bool w' T p q hu, bne]⟩
theorem rp_addI (hx : evO fr x = some (.int k a)) (hy : evO fr y = some (.int k b)) (h : k.wrap (a + b) = a + b) : ReadsP P ⟨dst, .binOp .add xT x y yT, ty, pos, aft, g⟩ fr (.int k (a + b)) := by
  have := rp_add (P := P) (dst := dst) (ty := ty) (pos := pos) (aft := aft) (g := g) (xT := xT) (yT := yT) hx hy; rwa [h] at this
theorem rp_subI (hx : evO fr x = some (.int k a)) (hy : evO fr y = some (.int k b)) (h : k.wrap (a - b) = a - b) : ReadsP P ⟨dst, .binOp .sub xT x y yT, ty, pos, aft, g⟩ fr (.int k (a - b)) := by
  have := rp_sub (P := P) (dst := dst) (ty := ty) (pos := pos) (aft := aft) (g := g) (xT := xT) (yT := yT) hx hy; rwa [h] at this
theorem rp_mulI (hx : evO fr x = some (.int k a)) (hy : evO fr y = some (.int k b)) (h : k.wrap (a * b) = a * b) : ReadsP P ⟨dst, .binOp .mul xT x y yT, ty, pos, aft, g⟩ fr (.int k (a * b)) := by
  have := rp_mul (P := P) (dst := dst) (ty := ty) (pos := pos) (aft := aft) (g := g) (xT := xT) (yT := yT) hx hy; rwa [h] at this
theorem rp_andBg {c x : Operand} {a b q : Bool} (hc : evO fr c = some (.bool a)) (hx : evO fr x = some (.gd q (.bool b))) (hq : q = a) :
    ReadsP P ⟨dst, .pick c x (.const (.bool false)), ty, pos, aft, g⟩ fr (.bool (a && b)) := by subst hq; exact rp_andB hc hx
theorem rp_orBg {c x : Operand} {a b q : Bool} (hc : evO fr c = some (.bool a)) (hx : evO fr x = some (.gd q (.bool b))) (hq : q = (!a)) :
    ReadsP P ⟨dst, .pick c (.const (.bool true)) x, ty, pos, aft, g⟩ fr (.bool (a || b)) := by subst hq; exact rp_orB hc hx
theorem rp_conv {S T : TypeId} {x : Operand} {k k' : IntKind} {a : Int} {d : TypeDesc} (hs : P.underlying S = some d) (ht : P.underlying T = some (.int k')) (hx : evO fr x = some (.int k a)) :
    ReadsP P ⟨dst, .convert S T x, ty, pos, aft, g⟩ fr (.int k' (k'.wrap a)) :=
  fun ρ h M ev hev => ⟨_, rfl, fun w' => by
    have h1 := hev x _ hx
    simp only [RA] at h1
    simp [execOp, Go.convert, h1, Sem.run_bind, run_underlying hs, run_underlying ht, Conv.intToInt]⟩
theorem rp_pickT {c x y : Operand} {a : Bool} {v : AV} (hc : evO fr c = some (.bool a)) (ha : a = true) (hx : evO fr x = some v) : ReadsP P ⟨dst, .pick c x y, ty, pos, aft, g⟩ fr v :=
  fun ρ h M ev hev => ⟨ev x, hev x _ hx, fun w' => by
    have h1 := hev c _ hc
    simp only [RA] at h1
    subst ha
    simp_all [execOp, go_sem, asBool]⟩
theorem rp_pickF {c x y : Operand} {a : Bool} {v : AV} (hc : evO fr c = some (.bool a)) (ha : a = false) (hy : evO fr y = some v) : ReadsP P ⟨dst, .pick c x y, ty, pos, aft, g⟩ fr v :=
  fun ρ h M ev hev => ⟨ev y, hev y _ hy, fun w' => by
    have h1 := hev c _ hc
    simp only [RA] at h1
    subst ha
    simp_all [execOp, go_sem, asBool]⟩
theorem rp_max {T U : TypeId} {x y : Operand} {k : IntKind} {a b : Int} (hx : evO fr x = some (.int k a)) (hy : evO fr y = some (.int k b)) :
    ReadsP P ⟨dst, .call ⟨.builtin .max, #[x, y], #[T, U]⟩, ty, pos, aft, g⟩ fr (.int k (if b > a then b else a)) :=
  fun ρ h M ev hev => ⟨_, rfl, fun w' => by
    have h1 := hev x _ hx; have h2 := hev y _ hy
    simp only [RA] at h1 h2
    simp [execOp, resolve, invoke, Go.builtin, Builtin.max_, Builtin.max2, h1, h2, Sem.run_bind]⟩
theorem rp_min {T U : TypeId} {x y : Operand} {k : IntKind} {a b : Int} (hx : evO fr x = some (.int k a)) (hy : evO fr y = some (.int k b)) :
    ReadsP P ⟨dst, .call ⟨.builtin .min, #[x, y], #[T, U]⟩, ty, pos, aft, g⟩ fr (.int k (if b < a then b else a)) :=
  fun ρ h M ev hev => ⟨_, rfl, fun w' => by
    have h1 := hev x _ hx; have h2 := hev y _ hy
    simp only [RA] at h1 h2
    simp [execOp, resolve, invoke, Go.builtin, Builtin.min_, Builtin.min2, h1, h2, Sem.run_bind]⟩
theorem rp_eql_str {xT yT : TypeId} {x y : Operand} {a b : ByteArray} (hx : evO fr x = some (.str a)) (hy : evO fr y = some (.str b)) :
    ReadsP P ⟨dst, .binOp .eql xT x y yT, ty, pos, aft, g⟩ fr (.bool (eqS a b)) :=
  fun ρ h M ev hev => ⟨_, rfl, fun w' => by
    have h1 := hev x _ hx; have h2 := hev y _ hy
    simp only [RA] at h1 h2
    simp [execOp, eqGuard, Go.binOp, Op.stringOp, eqS, h1, h2, Sem.run_bind]⟩
theorem rp_neq_str {xT yT : TypeId} {x y : Operand} {a b : ByteArray} (hx : evO fr x = some (.str a)) (hy : evO fr y = some (.str b)) :
    ReadsP P ⟨dst, .binOp .neq xT x y yT, ty, pos, aft, g⟩ fr (.bool (!eqS a b)) :=
  fun ρ h M ev hev => ⟨_, rfl, fun w' => by
    have h1 := hev x _ hx; have h2 := hev y _ hy
    simp only [RA] at h1 h2
    simp [execOp, eqGuard, Go.binOp, Op.stringOp, eqS, h1, h2, Sem.run_bind]⟩
theorem rp_lss_str {xT yT : TypeId} {x y : Operand} {a b : ByteArray} (hx : evO fr x = some (.str a)) (hy : evO fr y = some (.str b)) :
    ReadsP P ⟨dst, .binOp .lss xT x y yT, ty, pos, aft, g⟩ fr (.bool (Op.bytesLess a.toList b.toList)) :=
  fun ρ h M ev hev => ⟨_, rfl, fun w' => by
    have h1 := hev x _ hx; have h2 := hev y _ hy
    simp only [RA] at h1 h2
    simp [execOp, eqGuard, Go.binOp, Op.stringOp, h1, h2, Sem.run_bind]⟩
theorem rp_add_str {xT yT : TypeId} {x y : Operand} {a b : ByteArray} (hx : evO fr x = some (.str a)) (hy : evO fr y = some (.str b)) (hl : (a.size : Int) + (b.size : Int) ≤ 9223372036854775807) :
    ReadsP P ⟨dst, .binOp .add xT x y yT, ty, pos, aft, g⟩ fr (.str (a ++ b)) :=
  fun ρ h M ev hev => ⟨_, rfl, fun w' => by
    have h1 := hev x _ hx; have h2 := hev y _ hy
    simp only [RA] at h1 h2
    have hm : IntKind.i64.max = 9223372036854775807 := by decide
    have hno : ¬ (((a.size + b.size : Nat) : Int) > IntKind.i64.max) := by rw [hm]; omega
    have hno' : ¬ (IntKind.i64.max < (a.size : Int) + (b.size : Int)) := by rw [hm]; omega
    simp [execOp, eqGuard, Go.binOp, Op.stringOp, h1, h2, Sem.run_bind, hno']
    omega⟩
end
end Go.GA
end
section
namespace Go.GA
open Go Go.RowKit
section
variable {P : Program} {Γ : Ctx} {n : Sz} {Q : Exit → Act → World → Prop} {fr fr' : Fr} {H H' : Hp} {all : Array Oper} {ty : TypeId} {pos : String} {aft : Array Edge} {op : Op}
theorem wp_then {o : Oper} {K : Act → World → Prop} {a : Act} {w : World} (h : o.wp P a w K (Exit.then K Q)) : o.wp P a w K Q := by
  unfold Oper.wp at *
  generalize (execOp a.eval o).run P w = r at *
  cases r with
  | ok nx w' =>
    cases nx <;> simp only [Oper.upon] at h ⊢ <;> first
      | exact h
      | exact Calls.mono h (fun e w'' he => by cases e <;> first | exact he | (obtain ⟨a1, w1, hq⟩ := he; exact ⟨a1, w1, hq⟩))
  | halt x w' => cases x <;> simp only [Oper.upon] at h ⊢ <;> exact h
theorem wpOp_of_list {i : Nat} {o : Oper} {K : Act → World → Prop} {a : Act} {w : World} (hi : all[i]? = some o) (h : wpList P all (Exit.then K Q) [o] a w) : wpOp P all Q i K a w := by
  unfold wpOp
  simp only [hi]
  unfold wpList at h
  split
  · rename_i hw
    rw [if_pos hw] at h
    rcases h with h | ⟨h1, a1, w1, hq⟩
    · refine .inl ?_
      have : o.wp P a w (wpList P all (Exit.then K Q) []) (Exit.then K Q) := h
      have e : wpList P all (Exit.then K Q) [] = K := rfl
      rw [e] at this
      exact wp_then this
    · exact .inr ⟨h1, a1, w1, hq⟩
  · rename_i hw
    rw [if_neg hw] at h
    exact h
def APO (P : Program) (Γ : Ctx) (n : Sz) (all : Array Oper) (Q : Exit → Act → World → Prop) (g : Nat) (listed : Array Bool) (fr : Fr) (H : Hp) (i : Nat) : Prop :=
  ∀ ρ w a, SIM Γ n ρ w a fr H → wpOp P all Q i (wpAny P .any all Q g (listed.setIfInBounds i true)) a w
def APL (P : Program) (Γ : Ctx) (n : Sz) (all : Array Oper) (Q : Exit → Act → World → Prop) (g : Nat) (listed : Array Bool) (fr : Fr) (H : Hp) : List Nat → Prop
  | [] => True
  | i :: l => APO P Γ n all Q g listed fr H i ∧ APL P Γ n all Q g listed fr H l
variable {g : Nat} {listed : Array Bool}
theorem apl_mem : ∀ {l : List Nat} {i : Nat}, APL P Γ n all Q g listed fr H l → i ∈ l → APO P Γ n all Q g listed fr H i
  | j :: l, i, h, hi => by
    rcases List.mem_cons.1 hi with rfl | hi
    · exact h.1
    · exact apl_mem h.2 hi
/-- the operations that may come next -/
def nextEqB (all : Array Oper) (listed : Array Bool) (l : List Nat) : Bool := (Region.ready .any all listed == l) && !l.isEmpty
theorem ap_all (l : List Nat) (hl : nextEqB all listed l = true) (h : APL P Γ n all Q g listed fr H l) : AP P Γ n all Q (g + 1) listed fr H := fun ρ w a s => by
  simp only [nextEqB, Bool.and_eq_true, beq_iff_eq] at hl
  refine ⟨fun h0 => ?_, fun i hi => apl_mem h (hl.1 ▸ hi) ρ w a s⟩
  rw [hl.1] at h0
  subst h0
  simp at hl
theorem ap_end (hl : (Region.ready .any all listed).isEmpty = true) (h : AQ Γ n (Q .normal) fr H) : AP P Γ n all Q g listed fr H := fun ρ w a s => by
  have h0 : Region.ready .any all listed = [] := by simpa using hl
  cases g with
  | zero => exact ⟨h0, h ρ w a s⟩
  | succ g => exact ⟨fun _ => h ρ w a s, fun i hi => by rw [h0] at hi; cases hi⟩
/-- one operation, as in a line -/
theorem apo_ao {i : Nat} {o : Oper} (hi : all[i]? = some o) (h : AO P Γ n all (Exit.then (wpAny P .any all Q g (listed.setIfInBounds i true)) Q) [o] fr H) : APO P Γ n all Q g listed fr H i := fun ρ w a s => wpOp_of_list hi (h ρ w a s)
theorem ap_in {listed : Array Bool} (h : AP P Γ n all Q g listed fr H) : AQ Γ n (Exit.then (wpAny P .any all Q g listed) Q .normal) fr H := h
/-- what hangs on no memory is done first -/
theorem ap_pure (i : Nat) {d : Nat} {x : AV} {gd : Option (Nat × Bool)} (hsel : Region.noSelect all = true) (hQ : ∀ c a w, Q (.panic c) a w → False) (hi : all[i]? = some ⟨some d, op, ty, pos, aft, gd⟩) (hn : readyB all listed i = true) (hg : gOK all fr gd)
    (hr : ReadsP P ⟨some d, op, ty, pos, aft, gd⟩ fr x) (hd : Nat.blt d n.n = true) (h : AP P Γ n all Q g (listed.setIfInBounds i true) ((d, x) :: fr) H) : AP P Γ n all Q (g + 1) listed fr H := fun ρ w a s => by
  simp only [readyB, Bool.and_eq_true] at hn
  obtain ⟨v, hv, hrun⟩ := hr ρ (World.hf w) (ownB ρ H) a.eval (fun o y h => s.ev h)
  refine wpAny_first (v := v) hi (fun j o cs b ho => Region.noSelect_spec hsel j o cs b ho) (fun c a w hq => (hQ _ _ _ hq).elim) g listed a w (Region.free_spec hi hn.2) (by simpa using hn.1) (.inl ⟨s.wanted (o := ⟨some d, op, ty, pos, aft, gd⟩) hg, hrun⟩) ?_
  exact h ρ w (a.put (some d) v) (s.put hd hv)
theorem ap_pureG (i : Nat) {d j s : Nat} {want gb : Bool} {x : AV} (hsel : Region.noSelect all = true) (hQ : ∀ c a w, Q (.panic c) a w → False) (hi : all[i]? = some ⟨some d, op, ty, pos, aft, some (j, want)⟩) (hn : readyB all listed i = true)
    (hj : (all[j]?).bind (·.dst) = some s) (hg : GV fr s want gb) (hr : gb = true → ReadsP P ⟨some d, op, ty, pos, aft, some (j, want)⟩ fr x) (hd : Nat.blt d n.n = true)
    (h : AP P Γ n all Q g (listed.setIfInBounds i true) ((d, .gd gb x) :: fr) H) : AP P Γ n all Q (g + 1) listed fr H := fun ρ w a sm => by
  simp only [readyB, Bool.and_eq_true] at hn
  have hw := sm.wantedG (o := ⟨some d, op, ty, pos, aft, some (j, want)⟩) rfl hj hg
  have key : ∃ v, RA ρ (World.hf w) (ownB ρ H) (.gd gb x) v ∧ Yields P all ⟨some d, op, ty, pos, aft, some (j, want)⟩ v a := by
    cases hgb : gb with
    | true =>
      obtain ⟨v, hv, hrun⟩ := hr hgb ρ (World.hf w) (ownB ρ H) a.eval (fun o y h => sm.ev h)
      exact ⟨v, by simpa [RA] using hv, .inl ⟨by rw [hw, hgb], hrun⟩⟩
    | false => exact ⟨undef, by simp [RA], .inr ⟨by rw [hw, hgb], rfl⟩⟩
  obtain ⟨v, hv, hy⟩ := key
  refine wpAny_first (v := v) hi (fun j o cs b ho => Region.noSelect_spec hsel j o cs b ho) (fun c a w hq => (hQ _ _ _ hq).elim) g listed a w (Region.free_spec hi hn.2) (by simpa using hn.1) hy ?_
  exact h ρ w (a.put (some d) v) (sm.put hd hv)
/-- the orders all lead to one state -/
theorem ap_to (fr' : Fr) (H' : Hp) (key : AQ Γ n (Q .normal) fr' H') (h : AQ Γ n (Q .normal) fr' H' → AP P Γ n all Q g listed fr H) : AP P Γ n all Q g listed fr H := h key
theorem rp_strip {o : Oper} {x y : AV} (t : Nat) {g : Bool} (ht : get fr t = some (.gd g y)) (hg : g = true) (h : ReadsP P o ((t, y) :: fr) x) : ReadsP P o fr x := fun ρ h' M ev hev => h ρ h' M ev (fun o z hz => by
  cases o with
  | tmp s =>
    by_cases hs : t = s
    · subst hs
      have e : evO ((t, y) :: fr) (.tmp t) = some y := by simp [evO, get]
      rw [e] at hz
      obtain rfl : y = z := Option.some.inj hz
      have := hev (.tmp t) (.gd g y) ht
      subst hg
      simpa [RA] using this
    · have e : evO ((t, y) :: fr) (.tmp s) = evO fr (.tmp s) := by
        show get _ _ = get _ _
        have hb : Nat.beq t s = false := by
          cases h : Nat.beq t s with
          | false => rfl
          | true => exact absurd (Nat.eq_of_beq_eq_true h) hs
        simp [get, hb]
      rw [e] at hz
      exact hev _ _ hz
  | _ => exact hev _ _ hz)
end
end Go.GA
namespace Go.GA
open Go Go.RowKit
section
variable {P : Program} {Γ : Ctx} {n : Sz} {Q : Exit → Act → World → Prop} {fr fr1 : Fr} {H H1 : Hp} {all : Array Oper} {g0 : Nat} {listed0 : Array Bool}
/-- a state that several orders come to -/
theorem ap_let {g : Nat} {listed : Array Bool} (fr' : Fr) (H' : Hp) (h : AP P Γ n all Q g listed fr' H') (k : AP P Γ n all Q g listed fr' H' → AP P Γ n all Q g0 listed0 fr H) : AP P Γ n all Q g0 listed0 fr H := k h
theorem ap_go {g : Nat} {listed listed' : Array Bool} {fr' : Fr} {H' : Hp} (he : listed = listed') (hs : Sub n fr H fr' H') (h : AP P Γ n all Q g listed' fr' H') : AP P Γ n all Q g listed fr H := fun ρ w a s => by
  subst he
  obtain ⟨ρ', s'⟩ := hs Γ ρ w a s
  exact h ρ' w a s'
end
end Go.GA
end
section
namespace Go.GA
open Go Go.RowKit
section
variable {P : Program} {n : Sz} {fr : Fr} {H : Hp} {dst : Option Nat} {ty : TypeId} {pos : String} {aft : Array Edge} {g : Option (Nat × Bool)}
theorem r_load_elem2 {T : TypeId} {x : Operand} {id off i m j z z2 : Nat} {u : Ty} {xs : List (Ty.arr m u).D} {L : List u.D} {e : u.D} (hf : u.flat = true) (ha : ∀ w, (isAgg T).run P w = .ok u.agg w) (hs : ∀ w, (sizeOf T).run P w = .ok u.sz w) (hz : m * u.sz = z) (hz2 : u.sz = z2)
    (hx : evO fr x = some (.elem2 id off z i z2 j)) (hg : elemsAt H id off = some ⟨.arr m u, xs⟩) (hi : i < xs.length) (hL : xs.getD i (Ty.dflt (.arr m u)) = L) (hj : j < m) (he : L.getD j u.dflt = e) :
    Reads P ⟨dst, .load T x, ty, pos, aft, g⟩ fr H (ofTy u e) := fun Γ n ρ w a s => by
  subst hz; subst hz2
  obtain ⟨b, k, hρ, ex⟩ := s.ev hx
  obtain ⟨ℓ, hLk, _⟩ := s.heap
  obtain ⟨c, T', p, mid, q, F, hb, hc, hp, hm, _⟩ := elemsAt_ok hLk hg hρ
  rw [split_at xs i hi (Ty.dflt (.arr m u))] at hm
  obtain ⟨c1, c2, c3, G, em, hc1, hR, hG⟩ := RelL.mid hm (fun x c F h => Rc.len _ h)
  rw [hL] at hR
  have hlt' : (xs.take i).length = i := by rw [List.length_take]; omega
  rw [hlt'] at hc1
  replace hc1 : c1.length = i * (m * u.sz) := by rw [hc1]; rfl
  obtain ⟨hl, hR2⟩ := hR
  have hjl : j < L.length := by omega
  rw [split_at L j hjl u.dflt] at hR2
  obtain ⟨f1, f2, f3, G3, ef, hf1, hRf, _⟩ := RelL.mid hR2 (fun x c F h => Rc.len _ h)
  rw [he] at hRf
  have hlt2 : (L.take j).length = j := by rw [List.length_take]; omega
  rw [hlt2] at hf1
  have hGn := Rc.flat u hf hRf
  subst hGn
  refine ⟨mkV u f2, ra_ofTy hRf (by simp), fun w' hk => ?_⟩
  have := run_loadVar_at (P := P) (t := u) (E := T) (w := w') (b := b) (c := c) (T := T') (z := (0, 0)) (pre := p ++ (c1 ++ f1)) (mid := f2) (post := f3 ++ (c3 ++ q)) (kept_get hk hb) (by rw [hc, em, ef]; simp) (Rc.len u hRf) agg_sz ha hs
  have hoff : (p ++ (c1 ++ f1)).length = off + i * (m * u.sz) + j * u.sz := by rw [List.length_append, List.length_append, hp, hc1, hf1]; omega
  rw [hoff] at this
  simp only [execOp, ex, Instr.loadAt, Instr.sureAddr, Sem.run_bind, Sem.run_pure, Result.andThen_ok, this]
theorem r_load_elem2_int {T : TypeId} {x : Operand} {id off i m j z : Nat} {q : IntKind} {xs : List (List Int)} {L : List Int} {e : Int} (ha : ∀ w, (isAgg T).run P w = .ok false w) (hs : ∀ w, (sizeOf T).run P w = .ok 1 w) (hz : m * 1 = z)
    (hx : evO fr x = some (.elem2 id off z i 1 j)) (hg : elemsAt H id off = some ⟨.arr m (.int q), xs⟩) (hi : i < xs.length) (hL : xs.getD i (List.replicate m 0) = L) (hj : j < m) (he : L.getD j 0 = e) :
    Reads P ⟨dst, .load T x, ty, pos, aft, g⟩ fr H (.int q e) := r_load_elem2 (u := .int q) rfl ha hs hz rfl hx hg hi hL hj he
end
end Go.GA
end
section
namespace Go.GA
open Go Go.RowKit

/-- 'ao' with the frame 'fro' waits; Γi is the context of what runs meanwhile; the blocks X may have been turned -/
structure Susp (Γo : Ctx) (no : Sz) (fro : Fr) (ao : Act) (X : Nat → Prop) (Γi : Ctx) (K B : Nat) : Prop where
  ex : ∃ ρ w H, SIM Γo no ρ w ao fro H ∧ w.heap.size = B ∧
    (∀ i, i < K → Γi.ρ0 i = ρ i) ∧ (∀ b, ρ.N b → Γi.ρ0.N b) ∧ (∀ b, Γi.ρ0.N b → b < B → ρ.N b) ∧ (∀ b, Γi.M0 b → namB ρ H b ∨ B ≤ b) ∧
    (∀ k, k < B → ¬ X k → ¬ namB ρ H k → Γi.W0.heap[k]? = w.heap[k]?) ∧ Γi.W0.os = w.os ∧ Γi.W0.tape = w.tape ∧ Γi.W0.output = w.output
  L0 : ∀ b, Γi.L0 b → Γo.L0 b ∨ Γo.W0.heap.size ≤ b
  ML : ∀ b, Γi.M0 b → Γi.L0 b
  size : B ≤ Γi.W0.heap.size
  X : ∀ k, X k → Γi.ρ0.N k
  ids : ∀ t x, get fro t = some x → ∀ i ∈ x.ids, i < K
  hK : no.K ≤ K

theorem SIM.susp {Γo : Ctx} {no : Sz} {ρ : Rho} {w : World} {ao : Act} {fro : Fr} {H : Hp} (s : SIM Γo no ρ w ao fro H) {K : Nat}
    (X : Nat → Prop) (w1 : World) (N : Nat → Prop) (dl : List Deferred) (ho : w1.os = w.os ∧ w1.tape = w.tape ∧ w1.output = w.output) (hsz : w.heap.size ≤ w1.heap.size) (hb : ∀ k, k < w.heap.size → ¬ X k → w1.heap[k]? = w.heap[k]?)
    (hN1 : ∀ b, ρ.N b → N b) (hN2 : ∀ b, N b → b < w.heap.size → ρ.N b) (hN3 : ∀ b, N b → b < w1.heap.size) (hX : ∀ k, X k → N k) :
    ∃ Γi, Γi.W0 = w1 ∧ Γi.ρ0 = ⟨ρ.f, N⟩ ∧ Γi.dl = dl ∧ (∀ b, Γi.M0 b ↔ namB ρ H b) ∧ (∀ b, Γi.M0 b → Γi.L0 b) ∧ (∀ b, Γi.L0 b → Γo.L0 b ∨ Γo.W0.heap.size ≤ b) ∧
      ((∀ t x, get fro t = some x → ∀ i ∈ x.ids, i < K) → no.K ≤ K → Susp Γo no fro ao X Γi K w.heap.size) ∧
      ∀ (ni : Sz) (a : Act) (fr : Fr), a.tmps.size = ni.n → a.defers = dl → (∀ t x, get fr t = some x → t < ni.n ∧ RA ρ (World.hf w) (ownB ρ H) x (a.tmps.getD t undef)) → SIM Γi ni ⟨ρ.f, N⟩ w1 a fr H := by
  obtain ⟨ℓ, hk, hl⟩ := s.heap
  have hap := s.apart hl
  have hML : ∀ b, namB ρ H b → inL ℓ H b := fun b ⟨e, he, k, hbk⟩ => ⟨e, he, hk.own_mem e he b k hbk⟩
  have hL0 : ∀ b, inL ℓ H b → Γo.L0 b ∨ Γo.W0.heap.size ≤ b := fun b ⟨e, he, hbe⟩ => hl e he b hbe
  refine ⟨{ W0 := w1, M0 := namB ρ H, L0 := inL ℓ H, ρ0 := ⟨ρ.f, N⟩, dl := dl }, rfl, rfl, rfl, fun _ => Iff.rfl, hML, hL0, fun hids hK => ⟨⟨ρ, w, H, s, rfl, fun _ _ => rfl, hN1, hN2, fun b h => .inl h, fun k hk' hx _ => hb k hk' hx, ho⟩, hL0, hML, hsz, hX, hids, hK⟩, ?_⟩
  intro ni a fr h1 h2 h3
  have hnX : ∀ b, ¬ ρ.N b → b < w.heap.size → ¬ X b := fun b hn hlt hx => hn (hN2 b (hX b hx) hlt)
  have hM : ∀ b, ¬ ownB ρ H b → World.hf w b ≠ none → World.hf w1 b = World.hf w b ∧ ¬ ownB ⟨ρ.f, N⟩ H b := fun b hbn hh => by
    have hlt := hf_lt hh
    refine ⟨hb b hlt (hnX b (fun h => hbn (.inr h)) hlt), ?_⟩
    rintro (h | h)
    · exact hbn (.inl h)
    · exact hbn (.inr (hN2 b h hlt))
  refine ⟨⟨h2, rfl, fun b h => ⟨fun ⟨e, he, hbe⟩ => ?_, hN3 b h⟩⟩, h1, Ext.refl _ _, fun _ _ => rfl, fun b h => .inl h, ⟨ℓ, ⟨fun e he => (hk.blk e he).same (fun _ _ => rfl) hM (fun b hbe => ?_), hk.nd, hk.dj, hk.ids⟩, fun e he b h => .inl ⟨e, he, h⟩⟩, fun t x hx => ?_⟩
  · have hlt := hf_lt (hk.there he b hbe)
    exact hap b (hN2 b h hlt) ⟨e, he, hbe⟩
  · have hlt := hf_lt (hk.there he b hbe)
    exact hb b hlt (hnX b (fun h => hap b h ⟨e, he, hbe⟩) hlt)
  · obtain ⟨h4, h5⟩ := h3 t x hx
    exact ⟨h4, h5.same x (fun _ _ => rfl) hM⟩

section
variable {Γo Γi : Ctx} {no ni : Sz} {fro fr : Fr} {ao a : Act} {X : Nat → Prop} {K B : Nat} {ρ : Rho} {w w2 : World} {H : Hp}
/-- what the waiting frame finds in the state of what has run meanwhile -/
theorem Susp.core (s : Susp Γo no fro ao X Γi K B) (t : SIM Γi ni ρ w a fr H) (hn : ni.K = K) (hsz : w.heap.size ≤ w2.heap.size) (hb : ∀ k, k < w.heap.size → ¬ X k → w2.heap[k]? = w.heap[k]?) :
    (∃ ℓ, HeapOK ⟨ρ.f, Γo.ρ0.N⟩ (World.hf w2) H ℓ ∧ ∀ e ∈ H, ∀ b ∈ ℓ e.1, Γo.L0 b ∨ Γo.W0.heap.size ≤ b) ∧
    (∀ t x, get fro t = some x → t < no.n ∧ RA ⟨ρ.f, Γo.ρ0.N⟩ (World.hf w2) (ownB ⟨ρ.f, Γo.ρ0.N⟩ H) x (ao.tmps.getD t undef) ∧ RA ρ (World.hf w) (ownB ρ H) x (ao.tmps.getD t undef)) ∧
    (∀ b, namB ρ H b → Γo.M0 b ∨ Γo.W0.heap.size ≤ b) ∧ (∀ i, i < no.K → ρ i = Γo.ρ0 i) ∧ (∀ k, k < Γo.W0.heap.size → ¬ Γo.M0 k → ¬ X k → w2.heap[k]? = Γo.W0.heap[k]?) ∧
    Γo.W0.heap.size ≤ w.heap.size ∧ ao.tmps.size = no.n ∧ ao.defers = Γo.dl ∧ (∀ b, Γo.ρ0.N b → ¬ Γo.L0 b ∧ b < Γo.W0.heap.size) ∧ w.os = Γo.W0.os ∧ w.tape = Γo.W0.tape ∧ w.output = Γo.W0.output ∧ (∀ b, Γo.ρ0.N b → ρ.N b) := by
  obtain ⟨ρs, ws, Hs, ss, eB, e1, e2, e3, e4, e10, e6, e7, e8⟩ := s.ex
  obtain ⟨ℓ, hk, hl⟩ := t.heap
  have hap := t.apart hl
  have e11 := s.X
  have e9 := s.size
  have hN : ρ.N = Γi.ρ0.N := t.defers.2.1
  have hNs : ρs.N = Γo.ρ0.N := ss.defers.2.1
  have hX : ∀ b, X b → ρ.N b := fun b h => hN ▸ e11 b h
  have hNo : ∀ b, Γo.ρ0.N b → ρ.N b := fun b h => hN ▸ e2 b (hNs ▸ h)
  have hsz1 : Γo.W0.heap.size ≤ ws.heap.size := ss.ext.size
  have hsz2 : Γi.W0.heap.size ≤ w.heap.size := t.ext.size
  have hown : ∀ b, namB ρ H b → namB ρs Hs b ∨ B ≤ b := fun b h => by
    rcases t.own b h with h | h
    · exact e4 b h
    · exact .inr (by omega)
  have hchain : ∀ k, k < ws.heap.size → ¬ namB ρs Hs k → ¬ X k → w.heap[k]? = ws.heap[k]? := fun k hk' hm hx =>
    (t.ext.block k (by omega) (fun h => by
      rcases e4 k h with h | h
      · exact hm h
      · omega)).trans (e10 k (by omega) hx hm)
  have hold : ∀ b, ownB ⟨ρ.f, Γo.ρ0.N⟩ H b → ownB ρ H b := fun b h => h.imp (fun h => h) (hNo b)
  refine ⟨⟨ℓ, ⟨fun e he => (hk.blk e he).same (fun _ _ => rfl) (fun b hbn hh => ⟨hb b (hf_lt hh) (fun hx => hbn (.inr (hX b hx))), fun h => hbn (hold b h)⟩) (fun b hbe => hb b (hf_lt (hk.there he b hbe)) (fun hx => hap b (hX b hx) ⟨e, he, hbe⟩)), hk.nd, hk.dj, hk.ids⟩, fun e he b hbe => ?_⟩, ?_, ?_, ?_, ?_, by omega, ss.size, ss.defers.1, ss.defers.2.2, (t.ext.os.trans e6).trans ss.ext.os, (t.ext.tape.trans e7).trans ss.ext.tape, (t.ext.output.trans e8).trans ss.ext.output, hNo⟩
  · rcases hl e he b hbe with h | h
    · exact s.L0 b h
    · exact .inr (by omega)
  · intro q x hx
    obtain ⟨h1, h2⟩ := ss.fr q x hx
    have hids := s.ids q x hx
    have hρ : ∀ i ∈ x.ids, ρ i = ρs i := fun i hi => (t.keep i (by rw [hn]; exact hids i hi)).trans (e1 i (hids i hi))
    have hw : ∀ b, ¬ ownB ρs Hs b → World.hf ws b ≠ none → World.hf w b = World.hf ws b ∧ ¬ ownB ρ H b := fun b hbn hh => by
      have hlt := hf_lt hh
      have hnN : ¬ Γi.ρ0.N b := fun h => hbn (.inr (e3 b h (by omega)))
      refine ⟨hchain b hlt (fun h => hbn (.inl h)) (fun hx => hnN (e11 b hx)), ?_⟩
      rintro (h | h)
      · rcases hown b h with h | h
        · exact hbn (.inl h)
        · omega
      · exact hnN (hN ▸ h)
    refine ⟨h1, h2.same x hρ (fun b hbn hh => ?_), h2.same x hρ hw⟩
    obtain ⟨h3, h4⟩ := hw b hbn hh
    have hh2 : World.hf w b ≠ none := by rw [h3]; exact hh
    exact ⟨(hb b (hf_lt hh2) (fun hx => h4 (.inr (hX b hx)))).trans h3, fun h => h4 (hold b h)⟩
  · intro b h
    rcases hown b h with h | h
    · exact ss.own b h
    · exact .inr (by omega)
  · intro i hi
    exact ((t.keep i (by have := s.hK; omega)).trans (e1 i (by have := s.hK; omega))).trans (ss.keep i hi)
  · intro k hk' hm hx
    have h1 : k < ws.heap.size := by omega
    have h2 : ¬ namB ρs Hs k := fun h => by
      rcases ss.own k h with h | h
      · exact hm h
      · omega
    exact (hb k (by omega) hx).trans ((hchain k h1 h2 hx).trans (ss.ext.block k hk' hm))
/-- it goes on -/
theorem Susp.resume (s : Susp Γo no fro ao X Γi K B) (t : SIM Γi ni ρ w a fr H) (hn : ni.K = K) (ho : w2.os = w.os ∧ w2.tape = w.tape ∧ w2.output = w.output) (hsz : w.heap.size ≤ w2.heap.size) (hb : ∀ k, k < w.heap.size → ¬ X k → w2.heap[k]? = w.heap[k]?)
    (hX : ∀ k, X k → k < Γo.W0.heap.size → w2.heap[k]? = Γo.W0.heap[k]?) : SIM Γo no ⟨ρ.f, Γo.ρ0.N⟩ w2 ao fro H := by
  obtain ⟨h1, h2, h3, h4, h5, h6, h7, h8, h9, h10, h11, h12, _⟩ := s.core t hn hsz hb
  refine ⟨⟨h8, rfl, h9⟩, h7, ⟨ho.1.trans h10, ho.2.1.trans h11, ho.2.2.trans h12, Nat.le_trans h6 hsz, fun k hk hm => ?_⟩, h4, h3, h1, fun t x hx => ⟨(h2 t x hx).1, (h2 t x hx).2.1⟩⟩
  by_cases hx : X k
  · exact hX k hx hk
  · exact h5 k hk hm hx
/-- a frame that waits goes on waiting while the one that ran waits, too -/
theorem Susp.trans (s : Susp Γo no fro ao X Γi K B) (t : SIM Γi ni ρ w a fr H) (hn : ni.K = K) {Γa : Ctx} {Y : Nat → Prop} (hρ : ∀ i, i < K → Γa.ρ0 i = ρ i) (hNa : Γa.ρ0.N = Γi.ρ0.N) (hM : ∀ b, Γa.M0 b → namB ρ H b) (hML : ∀ b, Γa.M0 b → Γa.L0 b)
    (hL : ∀ b, Γa.L0 b → Γi.L0 b ∨ Γi.W0.heap.size ≤ b) (ho : Γa.W0.os = w.os ∧ Γa.W0.tape = w.tape ∧ Γa.W0.output = w.output) (hsz : w.heap.size ≤ Γa.W0.heap.size) (hb : ∀ k, k < w.heap.size → ¬ Y k → Γa.W0.heap[k]? = w.heap[k]?) (hY : ∀ k, k < B → Y k → X k) :
    Susp Γo no fro ao X Γa K B := by
  obtain ⟨ρs, ws, Hs, ss, eB, e1, e2, e3, e4, e10, e6, e7, e8⟩ := s.ex
  have e9 := s.size
  have hsz1 : Γo.W0.heap.size ≤ ws.heap.size := ss.ext.size
  have hsz2 : Γi.W0.heap.size ≤ w.heap.size := t.ext.size
  refine ⟨⟨ρs, ws, Hs, ss, eB, fun i hi => ((hρ i hi).trans (t.keep i (by omega))).trans (e1 i hi), fun b h => hNa ▸ e2 b h, fun b h => e3 b (hNa ▸ h), fun b h => ?_, fun k hk hx hm => ?_, (ho.1.trans t.ext.os).trans e6, (ho.2.1.trans t.ext.tape).trans e7, (ho.2.2.trans t.ext.output).trans e8⟩, fun b h => ?_, hML, by omega, fun k h => hNa ▸ s.X k h, s.ids, s.hK⟩
  · rcases t.own b (hM b h) with h | h
    · exact e4 b h
    · exact .inr (by omega)
  · refine ((hb k (by omega) (fun hy => hx (hY k hk hy))).trans (t.ext.block k (by omega) (fun h => ?_))).trans (e10 k hk hx hm)
    rcases e4 k h with h | h
    · exact hm h
    · omega
  · rcases hL b h with h | h
    · exact s.L0 b h
    · exact .inr (by omega)
theorem Susp.laid {P : Program} [hL : LaidS P Γo] (s : Susp Γo no fro ao X Γi K B) (hX : ∀ k, X k → ∀ c T z, Γo.W0.heap[k]? ≠ some (.cells c T z)) : LaidS P Γi := ⟨fun g hg => by
  obtain ⟨h1, h2⟩ := hL.laid g hg
  obtain ⟨ρs, ws, Hs, ss, eB, e1, e2, e3, e4, e10, e6, e7, e8⟩ := s.ex
  have hlt := tab_lt hg h1
  have hnX : ¬ X g := fun hx => by
    have h3 := h1
    unfold Lib.TabIs World.var? at h3
    rw [hg] at h3
    simp only [Option.bind_some] at h3
    split at h3
    · rename_i hh; exact hX g hx _ _ _ hh
    · cases h3
  have hn : ¬ namB ρs Hs g := fun h => by
    rcases ss.own g h with h | h
    · exact h2 h
    · omega
  have hlt2 : g < ws.heap.size := Nat.lt_of_lt_of_le hlt ss.ext.size
  exact ⟨tab_same hg ((e10 g (by omega) hnX hn).trans (ss.ext.block g hlt h2)) h1, fun h => by
    rcases e4 g h with h | h
    · exact hn h
    · omega⟩⟩
end
end Go.GA
end
section
namespace Go.GA
open Go Go.RowKit

/-- what is fixed while the loop runs -/
structure Env where
  Γ : Ctx
  n : Sz
  fr : Fr
  a : Act
  l : Nat
  D : Nat
  lp : Loop
  K : Nat
  B : Nat
  Q : Exit → Act → World → Prop
def mark (D : Nat) : Deferred := { target := .collected D, args := #[] }
def Env.behind (E : Env) : Act := { E.a with defers := mark E.D :: E.a.defers }
def Env.nb (E : Env) : Sz := ⟨E.n.n, E.K⟩

/-- a context in which the caller waits; its record -/
structure Running (E : Env) (Γi : Ctx) (r : Loop) : Prop where
  susp : Susp E.Γ E.n E.fr E.a (fun _ => False) Γi E.K E.B
  nl : Γi.ρ0.N E.l
  nD : Γi.ρ0.N E.D
  ne : E.D ≠ E.l
  at_l : Γi.W0.heap[E.l]? = some (.loop r)
  dD : Γi.W0.heap[E.D]? = some (.deferred (some []))
  new : E.B ≤ E.l ∧ E.B ≤ E.D
  base : E.Γ.W0.heap.size ≤ E.B

/-- the exits of the iterator's body -/
def IterQ (P : Program) (E : Env) : Exit → Act → World → Prop
  | .normal, ai, w | .ret, ai, w => ai.defers = [] ∧ ∃ jump w4, (Instr.endLoop E.l).run P w = .ok jump w4 ∧ (match jump with
      | none => E.Q .normal E.behind w4
      | some c => c.wp P E.Q E.behind w4)
  | _, _, _ => False

/-- the same memory but for the block l -/
theorem putObj_parts (w : World) (l : Nat) (o : Obj) : (w.putObj l o).os = w.os ∧ (w.putObj l o).tape = w.tape ∧ (w.putObj l o).output = w.output := ⟨rfl, rfl, rfl⟩
theorem putObj_other (w : World) {l k : Nat} (o : Obj) (h : ¬ k = l) : (w.putObj l o).heap[k]? = w.heap[k]? := World.putObj_heap_other h
theorem putObj_size (w : World) (l : Nat) (o : Obj) : (w.putObj l o).heap.size = w.heap.size := by simp [World.putObj]

/-- what was done in between leaves of the context before -/
structure RB (Γ Γ2 : Ctx) (n : Sz) : Prop where
  ext : Ext Γ.M0 Γ.W0 Γ2.W0
  keep : ∀ i, i < n.K → Γ2.ρ0 i = Γ.ρ0 i
  M0 : ∀ b, Γ2.M0 b → Γ.M0 b ∨ Γ.W0.heap.size ≤ b
  L0 : ∀ b, Γ2.L0 b → Γ.L0 b ∨ Γ.W0.heap.size ≤ b
  N : ∀ b, Γ.ρ0.N b → Γ2.ρ0.N b
  dl : Γ2.dl = [] ∨ ∃ D, Γ2.dl = [mark D] ∧ Γ2.W0.heap[D]? = some (.deferred (some [])) ∧ Γ2.ρ0.N D ∧ Γ.W0.heap.size ≤ D ∧ ¬ Γ2.L0 D ∧ ¬ Γ2.M0 D
theorem RB.refl (Γ : Ctx) (n : Sz) (h : Γ.dl = []) : RB Γ Γ n := ⟨Ext.refl _ _, fun _ _ => rfl, fun _ h => .inl h, fun _ h => .inl h, fun _ h => h, .inl h⟩

section
variable {P : Program} {Γ : Ctx} {n : Sz} {Q : Exit → Act → World → Prop} {fr : Fr} {H : Hp}
def frLt (K : Nat) (fr : Fr) : Bool := allLt K (Fr.ids fr)
theorem frLt_ids {K : Nat} {fr : Fr} (h : frLt K fr = true) : ∀ t x, get fr t = some x → ∀ i ∈ x.ids, i < K := fun t x hx i hi => allLt_lt h i (get_ids hx i hi)

/-- the marks and the record are where they were -/
theorem Running.at_w {E : Env} {Γi : Ctx} {r : Loop} (hr : Running E Γi r) {ni : Sz} {ρ : Rho} {w : World} {a : Act} {fr : Fr} {H : Hp} (t : SIM Γi ni ρ w a fr H) : w.heap[E.l]? = some (.loop r) ∧ w.heap[E.D]? = some (.deferred (some [])) := by
  have key : ∀ k o, Γi.ρ0.N k → Γi.W0.heap[k]? = some o → w.heap[k]? = some o := fun k o hN ho => by
    have hlt := (Array.getElem?_eq_some_iff.1 ho).1
    exact (t.ext.block k hlt (fun hm => (t.defers.2.2 k hN).1 (hr.susp.ML k hm))).trans ho
  exact ⟨key _ _ hr.nl hr.at_l, key _ _ hr.nD hr.dD⟩
/-- what is behind the loop, in a context of its own -/
theorem Running.behind {E : Env} {Γi : Ctx} {r : Loop} (hr : Running E Γi r) [hL : LaidS P E.Γ] (hdl : E.Γ.dl = []) {ni : Sz} {ρ : Rho} {w : World} {a : Act} {fr : Fr} {H : Hp} (t : SIM Γi ni ρ w a fr H) (hn : ni.K = E.K) (o : Obj) :
    ∃ Γ2, RB E.Γ Γ2 E.n ∧ LaidS P Γ2 ∧ ∃ ρ2, SIM Γ2 E.n ρ2 (w.putObj E.l o) E.behind E.fr H := by
  have hNt : ρ.N = Γi.ρ0.N := t.defers.2.1
  obtain ⟨hlw, hDw⟩ := hr.at_w t
  have hDlt : E.D < w.heap.size := (Array.getElem?_eq_some_iff.1 hDw).1
  obtain ⟨ℓ, hk, hl⟩ := t.heap
  have hap := t.apart hl
  have hX : ∀ k, k = E.l ∨ k = E.D → ρ.N k := fun k h => by
    rw [hNt]
    rcases h with rfl | rfl
    · exact hr.nl
    · exact hr.nD
  have hnot : ∀ k, k = E.l ∨ k = E.D → ¬ inL ℓ H k := fun k h => hap k (hX k h)
  obtain ⟨_, h2, h3, h4, h5, h6, h7, h8, h9, h10, h11, h12, h13⟩ := hr.susp.core t hn (w2 := w) (Nat.le_refl _) (fun _ _ _ => rfl)
  have hbase := hr.base
  have hnew := hr.new
  have hsub : ∀ b, ownB ⟨ρ.f, fun b => E.Γ.ρ0.N b ∨ b = E.D⟩ H b → ownB ρ H b := by
    rintro b (h | h | h)
    · exact .inl h
    · exact .inr (h13 b h)
    · exact .inr (hX b (.inr h))
  have hput : ∀ k, ¬ k = E.l → (w.putObj E.l o).heap[k]? = w.heap[k]? := fun k hk => putObj_other w o hk
  have hnl : ∀ k, ¬ ownB ρ H k → ¬ k = E.l := fun k h e => h (.inr (hX k (.inl e)))
  have hdef : E.a.defers = [] := h8.trans hdl
  have hL0 : ∀ b, inL ℓ H b → E.Γ.L0 b ∨ E.Γ.W0.heap.size ≤ b := fun b ⟨e, he, hbe⟩ => by
    rcases hl e he b hbe with h | h
    · exact hr.susp.L0 b h
    · have := hr.susp.size
      exact .inr (by omega)
  refine ⟨{ W0 := w.putObj E.l o, M0 := namB ρ H, L0 := inL ℓ H, ρ0 := ⟨ρ.f, fun b => E.Γ.ρ0.N b ∨ b = E.D⟩, dl := [mark E.D] }, ⟨⟨h10, h11, h12, by rw [putObj_size]; exact h6, fun k hk' hm => ?_⟩, h4, h3, hL0, fun b h => .inl h, .inr ⟨E.D, rfl, ?_, .inr rfl, by omega, hnot E.D (.inr rfl), fun ⟨e, he, k, hbk⟩ => hnot E.D (.inr rfl) ⟨e, he, hk.own_mem e he E.D k hbk⟩⟩⟩, ⟨fun g hg => ?_⟩, ⟨ρ.f, fun b => E.Γ.ρ0.N b ∨ b = E.D⟩, ?_⟩
  · have hkl : ¬ k = E.l := fun h => by omega
    exact (hput k hkl).trans (h5 k hk' hm (fun h => h))
  · exact (hput E.D hr.ne).trans hDw
  · obtain ⟨h1, h2'⟩ := hL.laid g hg
    have hlt := tab_lt hg h1
    have hgl : ¬ g = E.l := fun h => by omega
    exact ⟨tab_same hg ((hput g hgl).trans (h5 g hlt h2' (fun h => h))) h1, fun h => by
      rcases h3 g h with h | h
      · exact h2' h
      · omega⟩
  · refine ⟨⟨by simp [Env.behind, hdef], rfl, fun b h => ⟨fun hin => ?_, ?_⟩⟩, h7, Ext.refl _ _, fun _ _ => rfl, fun b h => .inl h, ⟨ℓ, ⟨fun e he => ?_, hk.nd, hk.dj, hk.ids⟩, fun e he b h => .inl ⟨e, he, h⟩⟩, fun q x hx => ?_⟩
    · rcases h with h | h
      · exact hap b (h13 b h) hin
      · exact hnot b (.inr h) hin
    · show b < (w.putObj E.l o).heap.size
      rw [putObj_size]
      rcases h with h | h
      · have := (h9 b h).2; omega
      · rw [h]; exact hDlt
    · exact (hk.blk e he).same (fun _ _ => rfl) (fun b hbn _ => ⟨hput b (hnl b hbn), fun h => hbn (hsub b h)⟩) (fun b hbe => hput b (fun h => hnot b (.inl h) ⟨e, he, hbe⟩))
    · obtain ⟨g1, g2, g3⟩ := h2 q x hx
      exact ⟨g1, g3.same x (fun _ _ => rfl) (fun b hbn _ => ⟨hput b (hnl b hbn), fun h => hbn (hsub b h)⟩)⟩

/-- the iterator has come to its end -/
theorem aq_iter_done {E : Env} {Γi : Ctx} {r : Loop} (hr : Running E Γi r) (hbusy : r.state ≠ .busy) (hp : r.pending = none) [LaidS P E.Γ] (hdl : E.Γ.dl = []) (hΓ : Γi.dl = []) {ni : Sz} (hn : ni.K = E.K)
    (h : ∀ Γ2, [LaidS P Γ2] → RB E.Γ Γ2 E.n → AQ Γ2 E.n (E.Q .normal) E.fr H) : AQ Γi ni (IterQ P E .ret) fr H := fun ρ w a t => by
  have hlw := (hr.at_w t).1
  refine ⟨t.defers.1.trans hΓ, _, _, run_endLoop hlw hbusy, ?_⟩
  rw [hp]
  obtain ⟨Γ2, hrb, hl2, ρ2, s2⟩ := hr.behind (P := P) hdl t hn (.loop { r with state := .exhausted })
  have := h Γ2 hrb ρ2 _ _ s2
  simpa [hp] using this
/-- the iterator has been stopped by a jump -/
theorem aq_iter_stop {E : Env} {Γi : Ctx} {r : Loop} {c : Code} (hr : Running E Γi r) (hbusy : r.state ≠ .busy) (hp : r.pending = some c) [LaidS P E.Γ] (hdl : E.Γ.dl = []) (hΓ : Γi.dl = []) {ni : Sz} (hn : ni.K = E.K)
    (h : ∀ Γ2, [LaidS P Γ2] → RB E.Γ Γ2 E.n → AW P Γ2 E.n c E.Q E.fr H) : AQ Γi ni (IterQ P E .ret) fr H := fun ρ w a t => by
  have hlw := (hr.at_w t).1
  refine ⟨t.defers.1.trans hΓ, _, _, run_endLoop hlw hbusy, ?_⟩
  rw [hp]
  obtain ⟨Γ2, hrb, hl2, ρ2, s2⟩ := hr.behind (P := P) hdl t hn (.loop { r with state := .exhausted })
  have := h Γ2 hrb ρ2 _ _ s2
  simpa [hp] using this
end
end Go.GA
end
section
namespace Go.GA
open Go Go.RowKit
/-- the fence of a round -/
def WF (ro : Option Nat) : Fence := { Fence.wide with round := ro }
section
variable {P : Program} {ro : Option Nat} {m : Nat}
theorem callsIn_WF {f : FuncId} {args : Array Value} {w : World} {R : Ending → World → Prop} (h : Calls P f args w R) : CallsIn (WF ro) m P f args w R := (callsIn_wide (n := m)).2 h
theorem rowsIn_WF {row : String} {args : Array Value} {w : World} {R : Value → World → Prop} (h : Rows P row args w R) : RowsIn (WF ro) m P row args w R := fun c cs _ =>
  let ⟨v, w', r, s⟩ := h c cs
  ⟨v, w', r, stepsIn_wide.2 s⟩
theorem WF_depth (m : Nat) : (WF ro).depth.isSome = true → 1 ≤ m := fun h => by simp [WF, Fence.wide] at h
def noDefer (o : Oper) : Bool := match o.op with
  | .defer _ => false
  | _ => true
theorem noDefer_ne {o : Oper} (h : noDefer o = true) : ∀ c, o.op ≠ .defer c := fun c e => by simp [noDefer, e] at h
theorem oper_in {o : Oper} {a : Act} {w : World} {K K' : Act → World → Prop} {Q Q' : Exit → Act → World → Prop} (hd : noDefer o = true) (hK : ∀ a w, K a w → K' a w) (hQ : ∀ c a w, Q (.panic c) a w → Q' (.panic c) a w) (hO : LetsOut Q → LetsOut Q') (h : o.wp P a w K Q) : o.wpIn (WF ro) m P a w K' Q' := by
  refine ⟨fun _ _ => trivial, ?_⟩
  rw [Oper.semAt_eq _ _ _ (noDefer_ne hd)]
  unfold Oper.wp at h
  generalize (execOp a.eval o).run P w = r at *
  cases r with
  | ok x w' =>
    cases x <;> simp only [Oper.upon, Oper.uponIn] at h ⊢ <;> first
      | exact h.elim
      | exact hK _ _ h
      | exact ⟨WF_depth m, CallsIn.mono (callsIn_WF h) (fun e w'' he => by cases e <;> first | exact hK _ _ he | exact hQ _ _ _ he | exact hO he)⟩
      | exact ⟨WF_depth m, RowsIn.mono (rowsIn_WF h) (fun _ _ he => hK _ _ he)⟩
  | halt x w' => cases x <;> simp only [Oper.upon, Oper.uponIn] at h ⊢ <;> first | exact hQ _ _ _ h | exact h.elim
variable {ops : Array Oper} {Q : Exit → Act → World → Prop}
theorem notOut (hQ : ∀ a w, Q .outgrown a w → False) : LetsOut Q → False := fun ⟨a, w, h⟩ => hQ a w h
theorem wpList_in (hQ : ∀ a w, Q .outgrown a w → False) : ∀ (l : List Oper) (a : Act) (w : World), l.all noDefer = true → wpList P ops Q l a w → wpListIn (WF ro) m P ops Q l a w
  | [], _, _, _, h => h
  | o :: l, a, w, hd, h => by
    simp only [List.all_cons, Bool.and_eq_true] at hd
    unfold wpList at h
    unfold wpListIn
    split at h
    · rename_i hw
      rw [if_pos hw]
      rcases h with h | h
      · exact oper_in hd.1 (fun a' w' h' => wpList_in hQ l a' w' hd.2 h') (fun _ _ _ h => h) (fun h => h) h
      · exact (notOut hQ h.2).elim
    · rename_i hw
      rw [if_neg hw]
      exact ⟨fun _ _ => trivial, wpList_in hQ l _ w hd.2 h⟩
theorem wpOp_in {K K' : Act → World → Prop} (hQ : ∀ a w, Q .outgrown a w → False) (hd : ops.toList.all noDefer = true) {i : Nat} {a : Act} {w : World} (hK : ∀ a w, K a w → K' a w) (h : wpOp P ops Q i K a w) : wpOpIn (WF ro) m P ops Q i K' a w := by
  unfold wpOp at h
  unfold wpOpIn
  cases ho : ops[i]? with
  | none => simp only [ho] at h ⊢; exact hK _ _ h
  | some o =>
    simp only [ho] at h ⊢
    have hdo : noDefer o = true := List.all_eq_true.1 hd o (by
      have := Array.mem_of_getElem? ho
      exact Array.mem_toList_iff.2 this)
    split at h
    · rename_i hw
      rw [if_pos hw]
      rcases h with h | h
      · exact oper_in hdo hK (fun _ _ _ h => h) (fun h => h) h
      · exact (notOut hQ h.2).elim
    · rename_i hw
      rw [if_neg hw]
      exact ⟨fun _ _ => trivial, hK _ _ h⟩
theorem wpAny_in {md : Region.Mode} (hQ : ∀ a w, Q .outgrown a w → False) (hd : ops.toList.all noDefer = true) : ∀ (fuel : Nat) (listed : Array Bool) (a : Act) (w : World), wpAny P md ops Q fuel listed a w → wpAnyIn (WF ro) m P md ops Q fuel listed a w
  | 0, _, _, _, h => h
  | fuel + 1, listed, a, w, h => ⟨h.1, fun i hi => wpOp_in hQ hd (fun a w h => wpAny_in hQ hd fuel _ a w h) (h.2 i hi)⟩
end
/-- code of a round -/
def AWI (P : Program) (ro : Option Nat) (m : Nat) (Γ : Ctx) (n : Sz) (c : Code) (Q : Exit → Act → World → Prop) (fr : Fr) (H : Hp) : Prop :=
  ∀ ρ w a, SIM Γ n ρ w a fr H → c.wpIn (WF ro) m P Q a w
/-- operations among which stand calls of a loop's body -/
def AOI (P : Program) (m : Nat) (Γ : Ctx) (n : Sz) (all : Array Oper) (Q : Exit → Act → World → Prop) (ops : List Oper) (fr : Fr) (H : Hp) : Prop :=
  ∀ ρ w a, SIM Γ n ρ w a fr H → wpListIn (WF none) m P all Q ops a w
section
variable {P : Program} {ro : Option Nat} {m : Nat} {Γ : Ctx} {n : Sz} {Q : Exit → Act → World → Prop} {fr fr' : Fr} {H H' : Hp}
theorem awi_skip (h : AQ Γ n (Q .normal) fr H) : AWI P ro m Γ n .skip Q fr H := fun ρ w a s => wpIn_skip (h ρ w a s)
theorem awi_exit {id : Nat} (h : AQ Γ n (Q (.exit id)) fr H) : AWI P ro m Γ n (.exit id) Q fr H := fun ρ w a s => wpIn_exit (h ρ w a s)
theorem awi_ret (h : AQ Γ n (Q .ret) fr H) : AWI P ro m Γ n .ret Q fr H := fun ρ w a s => wpIn_ret (h ρ w a s)
theorem awi_seq {x y : Code} (h : AWI P ro m Γ n x (Exit.then (y.wpIn (WF ro) m P Q) Q) fr H) : AWI P ro m Γ n (x.seq y) Q fr H := fun ρ w a s => wpIn_seq (h ρ w a s)
theorem awi_block {id : Nat} {c : Code} (h : AWI P ro m Γ n c (Exit.inBlock id Q) fr H) : AWI P ro m Γ n (.block id c) Q fr H := fun ρ w a s => wpIn_block (h ρ w a s)
theorem awi_cond {c : Operand} {x y : Code} {b : Bool} (hc : evO fr c = some (.bool b)) (ht : b = true → AWI P ro m Γ n x Q fr H) (hf : b = false → AWI P ro m Γ n y Q fr H) :
    AWI P ro m Γ n (.cond c x y) Q fr H := fun ρ w a s => wpIn_cond_split (t := b) (s.ev hc) (fun h => ht h ρ w a s) (fun h => hf h ρ w a s)
theorem awi_join {S R : Type} {c rest : Code} {k : S → R} {f : (S → R) → R} {r : R} (F : S → Fr) (G : S → Hp) (I : S → Prop) (h : Is (jn k f) r) (hrest : ∀ s, I s → Is (k s) r → AWI P ro m Γ n rest Q (F s) (G s))
    (hbr : Is (f k) r → (∀ s, I s → Is (k s) r → AWI P ro m Γ n rest Q (F s) (G s)) → AWI P ro m Γ n c (Exit.then (rest.wpIn (WF ro) m P Q) Q) fr H) : AWI P ro m Γ n (c.seq rest) Q fr H := awi_seq (hbr h hrest)
theorem aqi_then {y : Code} (h : AWI P ro m Γ n y Q fr H) : AQ Γ n (Exit.then (y.wpIn (WF ro) m P Q) Q .normal) fr H := h
theorem awi_region {id : Nat} {l : List Oper} (hd : l.all noDefer = true) (hQ : ∀ a w, Q .outgrown a w → False) (h : AO P Γ n l.toArray Q l fr H) : AWI P ro m Γ n (.region id l.toArray false) Q fr H := fun ρ w a s => wpIn_region_lit (wpList_in hQ l a w hd (h ρ w a s))
theorem awi_drawP {id : Nat} {l : List Oper} (hd : l.all noDefer = true) (hQ : ∀ a w, Q .outgrown a w → False) (N : Nat) (hN : l.toArray.size = N) (hm : P.follows .mixedOrders = true) (h : AP P Γ n l.toArray Q N (Array.replicate N false) fr H) :
    AWI P ro m Γ n (.region id l.toArray true) Q fr H := fun ρ w a s => by
  subst hN
  exact wpIn_region_any hm (wpAny_in hQ hd _ _ _ _ (h ρ _ a s.drew))
theorem awi_drawAll {id : Nat} {l : List Oper} (hd : l.all noDefer = true) (hQ : ∀ a w, Q .outgrown a w → False) (hm : P.follows .mixedOrders = true) (h : AN P Γ n l.toArray Q l.toArray.size (Q .normal) l.toArray.size (Array.replicate l.toArray.size false) fr H) :
    AWI P ro m Γ n (.region id l.toArray true) Q fr H := fun ρ w a s => wpIn_region_any hm (wpAny_in hQ hd _ _ _ _ (wpAny_of_AK_all (fun _ _ h => h) _ _ _ _ (h ρ _ a s.drew)))
theorem awi_draw {id : Nat} {l : List Oper} (hd : l.all noDefer = true) (hQ : ∀ a w, Q .outgrown a w → False) (k : Nat) (hm : P.follows .mixedOrders = true) (hB : drawB l k = true) (h : AN P Γ n l.toArray Q k (fun a w => wpList P l.toArray Q (l.drop k) a w) k (Array.replicate l.length false) fr H) :
    AWI P ro m Γ n (.region id l.toArray true) Q fr H := fun ρ w a s => by
  simp only [drawB, Bool.and_eq_true, decide_eq_true_eq] at hB
  obtain ⟨⟨⟨⟨hsel, hn⟩, hs⟩, hc⟩, hseq⟩ := hB
  have inv0 : HeadInv .any l.toArray k (Array.replicate l.length false) :=
    ⟨by simp, fun j oj _ hl => (by rw [getD_replicate_false] at hl; cases hl), fun t _ ht => getD_in (by simpa using ht) (getD_replicate_false _ _)⟩
  refine wpIn_region_any hm (wpAny_in hQ hd _ _ _ _ ?_)
  have := wpAny_of_AK (P := P) (Q := Q) (ops := l.toArray) (m := k) (g := l.length - k) hs hc (by simpa using hn) (fun listed a w inv hdone hT => ?_) k _ a _ inv0 (h ρ _ a s.drew)
  · have e : k + (l.length - k) = l.toArray.size := by simp; omega
    rw [e] at this
    simpa using this
  · have hcanon : listed = canon k l.length := by
      apply Array.ext
      · rw [inv.size]; simp [canon]; omega
      · intro i h1 h2
        have hi : i < l.length := by rw [inv.size] at h1; simpa using h1
        by_cases him : i < k
        · have := hdone i him
          simp [h1] at this
          simp [canon, this, him]
        · have := inv.tail i (by omega) (by simpa using hi)
          simp [h1] at this
          simp only [canon, List.getElem_toArray, this]
          rw [List.getElem_append_right (by simp; omega)]
          simp
    rw [hcanon]
    have := wpAny_of_seq (P := P) (ops := l.toArray) (md := .any) (Q' := Q) (l.drop k) k (canon k l.length) a w (fun j => by simp [List.getElem?_drop]) (by simpa using hseq) hT
    simpa using this
theorem aoi_nil {all : Array Oper} (h : AQ Γ n (Q .normal) fr H) : AOI P m Γ n all Q [] fr H := fun ρ w a s => h ρ w a s
theorem aw_regionI {id : Nat} {l : List Oper} (h : AOI P 0 Γ n l.toArray Q l fr H) : AW P Γ n (.region id l.toArray false) Q fr H := fun ρ w a s => wpIn_wide.1 (wpIn_region_lit (F := WF none) (n := 0) (h ρ w a s))
theorem aoi_op {all : Array Oper} {o : Oper} {rest : List Oper} (hd : noDefer o = true) (hQ : ∀ a w, Q .outgrown a w → False) (h : AO P Γ n all (Exit.then (wpListIn (WF none) m P all Q rest) Q) [o] fr H) : AOI P m Γ n all Q (o :: rest) fr H := fun ρ w a s => by
  have h1 := h ρ w a s
  unfold wpList at h1
  unfold wpListIn
  have hO : LetsOut (Exit.then (wpListIn (WF none) m P all Q rest) Q) → LetsOut Q := fun ⟨a, w, h⟩ => ⟨a, w, h⟩
  split at h1
  · rename_i hw
    rw [if_pos hw]
    rcases h1 with h1 | h1
    · exact oper_in hd (fun _ _ h => h) (fun _ _ _ h => h) hO h1
    · exact (notOut hQ (hO h1.2)).elim
  · rename_i hw
    rw [if_neg hw]
    exact ⟨fun _ _ => trivial, h1⟩
theorem aoi_in {all : Array Oper} {rest : List Oper} (h : AOI P m Γ n all Q rest fr H) : AQ Γ n (Exit.then (wpListIn (WF none) m P all Q rest) Q .normal) fr H := h
end
end Go.GA
end
section
namespace Go.GA
open Go Go.RowKit
/-- the loop's record -/
def recOf (fid : FuncId) (tmps : Array Value) (ps : Array Tmp) (assign body : Code) (D : Nat) : Loop := { state := .ready, pending := none, fn := fid, tmps := tmps, params := ps, assign, body, defers := D }
/-- what the environment is made of -/
structure IsEnv (E : Env) (Γ : Ctx) (n : Sz) (fr : Fr) (K : Nat) (Q : Exit → Act → World → Prop) (ps : Array Tmp) (assign body : Code) : Prop where
  size : E.a.tmps.size = n.n
  Γ : E.Γ = Γ
  n : E.n = n
  fr : E.fr = fr
  K : E.K = K
  Q : E.Q = Q
  lp : ∃ fid, E.lp = recOf fid E.a.tmps ps assign body E.D
/-- the iterator waits while a round runs -/
structure Wait (E : Env) (Γi : Ctx) (ni : Sz) (fri : Fr) (ai : Act) (Γx : Ctx) (r : Loop) : Prop where
  susp : ∃ B, Susp Γi ni fri ai (fun k => k = E.l) Γx E.K B
  dl : Γx.dl = []
  at_l : Γx.W0.heap[E.l]? = some (.loop r)

section
variable {P : Program} {Γ Γi Γx : Ctx} {n ni nb : Sz} {Q Q' : Exit → Act → World → Prop} {fr fri frb : Fr} {H : Hp} {E : Env} {K : Nat} {ps : Array Tmp} {assign body : Code} {ai : Act}
/-- a block that is protected lies as it lay -/
theorem SIM.nkept {ρ : Rho} {w : World} {a : Act} (t : SIM Γ n ρ w a fr H) (hML : ∀ b, Γ.M0 b → Γ.L0 b) {k : Nat} {o : Obj} (hN : Γ.ρ0.N k) (h : Γ.W0.heap[k]? = some o) : w.heap[k]? = some o :=
  (t.ext.block k (Array.getElem?_eq_some_iff.1 h).1 (fun hm => (t.defers.2.2 k hN).1 (hML k hm))).trans h

/-- the round begins -/
theorem aq_begin {r : Loop} {m : Nat} {R : Ending → World → Prop} (hw : Wait E Γi ni fri ai Γx r) (hr : r.state = .ready) (hl : Γi.W0.heap[E.l]? = some (.loop E.lp)) (hni : ni.K ≤ E.K) (hids : frLt E.K fri = true) (hnb : nb.K = E.K) [LaidS P Γi]
    (h : ∀ Γb, [LaidS P Γb] → Wait E Γi ni fri ai Γb { r with state := .busy } → AWI P (some E.l) m Γb nb body (roundPost P E.l R) frb H) :
    AQ Γx nb (fun a₁ w₁ => ∃ w₂, (Instr.beginRound E.l).run P w₁ = .ok () w₂ ∧ body.wpIn (WF (some E.l)) m P (roundPost P E.l R) a₁ w₂) frb H := fun ρ w a t => by
  obtain ⟨B, hs⟩ := hw.susp
  have hlw := t.nkept hs.ML (hs.X _ rfl) hw.at_l
  refine ⟨_, run_beginRound hlw hr, ?_⟩
  have hNt : ρ.N = Γx.ρ0.N := t.defers.2.1
  obtain ⟨Γb, e1, e2, e3, e4, e5, e6, e7, e8⟩ := t.susp (K := E.K) (fun k => k = E.l) (w.putObj E.l (.loop { r with state := .busy })) ρ.N [] (putObj_parts _ _ _) (by rw [putObj_size]; exact Nat.le_refl _) (fun k _ hk => putObj_other w _ hk)
    (fun _ h => h) (fun _ h _ => h) (fun b h => by rw [putObj_size]; have := (t.defers.2.2 b (hNt ▸ h)).2; have := t.ext.size; omega) (fun k h => hNt ▸ hs.X k h)
  have hs2 : Susp Γi ni fri ai (fun k => k = E.l) Γb E.K B := hs.trans t hnb (fun i _ => by rw [e2]) (by rw [e2]; exact hNt) (fun b h => (e4 b).1 h) e5 e6 (by rw [e1]; exact putObj_parts _ _ _) (by rw [e1, putObj_size]; exact Nat.le_refl _) (Y := fun k => k = E.l)
    (fun k _ hk => by rw [e1]; exact putObj_other w _ hk) (fun k _ h => h)
  haveI : LaidS P Γb := hs2.laid (fun k hk c T z e => by subst hk; rw [hl] at e; cases e)
  exact h Γb ⟨⟨B, hs2⟩, e3, by rw [e1]; exact World.putObj_heap_same (Array.getElem?_eq_some_iff.1 hlw).1⟩ _ _ _ (e8 nb a frb t.size (t.defers.1.trans hw.dl) t.fr)

/-- the iterator as it goes on, were the record put back -/
theorem Wait.back {r : Loop} (hw : Wait E Γi ni fri ai Γx r) (hl : Γi.W0.heap[E.l]? = some (.loop E.lp)) (hnb : nb.K = E.K) {ρ : Rho} {w : World} {a : Act} (t : SIM Γx nb ρ w a frb H) :
    w.heap[E.l]? = some (.loop r) ∧ SIM Γi ni ⟨ρ.f, Γi.ρ0.N⟩ (w.putObj E.l (.loop E.lp)) ai fri H := by
  obtain ⟨B, hs⟩ := hw.susp
  have hlw := t.nkept hs.ML (hs.X _ rfl) hw.at_l
  refine ⟨hlw, hs.resume t hnb (putObj_parts _ _ _) (by rw [putObj_size]; exact Nat.le_refl _) (fun k _ hk => putObj_other w _ hk) (fun k hk _ => ?_)⟩
  subst hk
  rw [hl]
  exact World.putObj_heap_same (Array.getElem?_eq_some_iff.1 hlw).1

/-- what the call of the loop's body is to the iterator -/
def YQ (P : Program) (m : Nat) (all : Array Oper) (Q : Exit → Act → World → Prop) (rest : List Oper) (d : Nat) (ai : Act) : Ending → World → Prop
  | .returned v, w => wpListIn (WF none) m P all Q rest (ai.put (some d) v) w
  | .panicked chain, w => Q (.panic chain) ai w
  | .outgrown, _ => LetsOut Q

theorem aq_next {r : Loop} {m d : Nat} {all : Array Oper} {rest : List Oper} (hE : IsEnv E Γ n fr K Q' ps assign body) (hw : Wait E Γi ni fri ai Γx r) (hr : r = { E.lp with state := .busy }) (hl : Γi.W0.heap[E.l]? = some (.loop E.lp)) (hnb : nb.K = E.K) (hd : Nat.blt d ni.n = true)
    (h : AOI P m Γi ni all Q rest ((d, .bool true) :: fri) H) : AQ Γx nb (roundPost P E.l (YQ P m all Q rest d ai) .normal) frb H := fun ρ w a t => by
  obtain ⟨hlw, s⟩ := hw.back hl hnb t
  have := run_endRound (P := P) none hlw
  refine ⟨_, _, this, ?_⟩
  have e : ({ r with state := if (none : Option Code).isNone = true then .ready else .done, pending := none } : Loop) = E.lp := by
    obtain ⟨fid, e⟩ := hE.lp
    subst hr
    rw [e]; rfl
  rw [e]
  exact h _ _ _ (s.put hd (by simp [RA]))

theorem aq_stop {r : Loop} {m d : Nat} {all : Array Oper} {rest : List Oper} {x : Exit} {c : Code} (hx : ∀ R a w, (∃ v w', (Instr.endRound E.l (some c)).run P w = .ok v w' ∧ R (.returned v) w') → roundPost P E.l R x a w) (hE : IsEnv E Γ n fr K Q' ps assign body) (hR : Running E Γi E.lp) (hw : Wait E Γi ni fri ai Γx r) (hr : r = { E.lp with state := .busy }) (hnb : nb.K = E.K) (hni : ni.K = E.K) (hids : frLt E.K fri = true) (hd : Nat.blt d ni.n = true) (hdl : Γi.dl = []) [LaidS P Γi]
    (h : ∀ Γ2, [LaidS P Γ2] → Γ2.dl = [] → Running E Γ2 { E.lp with state := .done, pending := some c } → AOI P m Γ2 ni all Q rest ((d, .bool false) :: fri) H) : AQ Γx nb (roundPost P E.l (YQ P m all Q rest d ai) x) frb H := fun ρ w a t => by
  have hl := hR.at_l
  obtain ⟨hlw, s⟩ := hw.back hl hnb t
  refine hx _ _ _ ⟨_, _, run_endRound (P := P) (some c) hlw, ?_⟩
  have e : ({ r with state := if (some c : Option Code).isNone = true then .ready else .done, pending := some c } : Loop) = { E.lp with state := .done, pending := some c } := by subst hr; rfl
  rw [e]
  generalize hr' : ({ E.lp with state := .done, pending := some c } : Loop) = r' at h
  have hsl : E.l < w.heap.size := (Array.getElem?_eq_some_iff.1 hlw).1
  have hput : ∀ k, ¬ k = E.l → (w.putObj E.l (.loop r')).heap[k]? = (w.putObj E.l (.loop E.lp)).heap[k]? := fun k hk => (putObj_other w _ hk).trans (putObj_other w _ hk).symm
  obtain ⟨Γ2, e1, e2, e3, e4, e5, e6, e7, e8⟩ := s.susp (K := E.K) (fun k => k = E.l) (w.putObj E.l (.loop r')) Γi.ρ0.N [] ⟨rfl, rfl, rfl⟩ (by rw [putObj_size, putObj_size]; exact Nat.le_refl _) (fun k _ hk => hput k hk)
    (fun _ h => h) (fun _ h _ => h) (fun b h => by rw [putObj_size]; have := (s.defers.2.2 b h).2; have := s.ext.size; rw [putObj_size] at this; omega) (fun k h => by subst h; exact hR.nl)
  haveI : LaidS P Γ2 := (e7 (frLt_ids hids) (Nat.le_of_eq hni)).laid (fun k hk c T z e => by subst hk; rw [hl] at e; cases e)
  have hDw := (hR.at_w s).2
  have hs2 : Susp E.Γ E.n E.fr E.a (fun _ => False) Γ2 E.K E.B := hR.susp.trans s hni (fun i _ => by rw [e2]) (by rw [e2]) (fun b h => (e4 b).1 h) e5 e6 (by rw [e1]; exact ⟨rfl, rfl, rfl⟩) (by rw [e1, putObj_size, putObj_size]; exact Nat.le_refl _) (Y := fun k => k = E.l)
    (fun k _ hk => by rw [e1]; exact hput k hk) (fun k hk h => by have := hR.new.1; subst h; omega)
  exact h Γ2 e3 ⟨hs2, by rw [e2]; exact hR.nl, by rw [e2]; exact hR.nD, hR.ne, by rw [e1]; exact World.putObj_heap_same hsl, by rw [e1]; exact (hput _ hR.ne).trans hDw, hR.new, hR.base⟩ _ _ _ (e8 ni _ _ (by simp [put_some, s.size]) (s.defers.1.trans hdl) (s.put hd (x := .bool false) (v := .bool false) (by simp [RA])).fr)
theorem aq_stop_exit {r : Loop} {m d : Nat} {all : Array Oper} {rest : List Oper} {id : Nat} (hE : IsEnv E Γ n fr K Q' ps assign body) (hR : Running E Γi E.lp) (hw : Wait E Γi ni fri ai Γx r) (hr : r = { E.lp with state := .busy }) (hnb : nb.K = E.K) (hni : ni.K = E.K) (hids : frLt E.K fri = true) (hd : Nat.blt d ni.n = true) (hdl : Γi.dl = []) [LaidS P Γi]
    (h : ∀ Γ2, [LaidS P Γ2] → Γ2.dl = [] → Running E Γ2 { E.lp with state := .done, pending := some (.exit id) } → AOI P m Γ2 ni all Q rest ((d, .bool false) :: fri) H) : AQ Γx nb (roundPost P E.l (YQ P m all Q rest d ai) (.exit id)) frb H :=
  aq_stop (c := .exit id) (fun _ _ _ h => h) hE hR hw hr hnb hni hids hd hdl h
theorem aq_stop_ret {r : Loop} {m d : Nat} {all : Array Oper} {rest : List Oper} (hE : IsEnv E Γ n fr K Q' ps assign body) (hR : Running E Γi E.lp) (hw : Wait E Γi ni fri ai Γx r) (hr : r = { E.lp with state := .busy }) (hnb : nb.K = E.K) (hni : ni.K = E.K) (hids : frLt E.K fri = true) (hd : Nat.blt d ni.n = true) (hdl : Γi.dl = []) [LaidS P Γi]
    (h : ∀ Γ2, [LaidS P Γ2] → Γ2.dl = [] → Running E Γ2 { E.lp with state := .done, pending := some .ret } → AOI P m Γ2 ni all Q rest ((d, .bool false) :: fri) H) : AQ Γx nb (roundPost P E.l (YQ P m all Q rest d ai) .ret) frb H :=
  aq_stop (c := .ret) (fun _ _ _ h => h) hE hR hw hr hnb hni hids hd hdl h

theorem run_cally {ev : Operand → Value} {o : Oper} {fo x : Operand} {tys : Array TypeId} {l : Nat} {r : Loop} {w : World} (ho : o.op = .call ⟨.value fo, #[x], tys⟩) (hev : ev fo = .func (.yield l) #[] #[]) (hl : w.heap[l]? = some (.loop r)) (hs : r.params.size = 1) :
    (execOp ev o).run P w = .ok (.round l r.fn ((r.params.zip #[ev x]).foldl (fun tmps (t, a) => tmps.setIfInBounds t a) r.tmps) r.assign r.body) w := by
  have h := run_yield (P := P) (args := #[ev x]) hl (by simpa using hs.symm)
  simp [execOp, ho, resolve, hev, Deferred.ofValue, invoke]
  simpa using h
/-- the body of the loop is called -/
theorem aoi_yield {m d p : Nat} {all : Array Oper} {fo xo : Operand} {tys : Array TypeId} {x : AV} {ty : TypeId} {pos : String} {aft : Array Edge} {rest : List Oper} (hE : IsEnv E Γ n fr K Q' #[p] assign body) (hR : Running E Γi E.lp) (hdl : Γi.dl = []) (hni : ni.K = E.K) (hids : frLt E.K fri = true)
    (hfo : evO fri fo = some (.yl E.l)) (hx : evO fri xo = some x) (hp : Nat.blt p n.n = true) [LaidS P Γi]
    (h : ∀ ai Γa, [LaidS P Γa] → Wait E Γi ni fri ai Γa E.lp → AWI P (some E.l) (m - 1) Γa ⟨n.n, K⟩ assign (Exit.then (fun a₁ w₁ => ∃ w₂, (Instr.beginRound E.l).run P w₁ = .ok () w₂ ∧ body.wpIn (WF (some E.l)) (m - 1) P (roundPost P E.l (YQ P m all Q rest d ai)) a₁ w₂) (fun _ _ _ => False)) ((p, x) :: fr) H) :
    AOI P m Γi ni all Q (⟨some d, .call ⟨.value fo, #[xo], tys⟩, ty, pos, aft, none⟩ :: rest) fri H := fun ρ w ai t => by
  obtain ⟨fid, elp⟩ := hE.lp
  have hlw := (hR.at_w t).1
  have hwd : Region.wanted (⟨some d, .call ⟨.value fo, #[xo], tys⟩, ty, pos, aft, none⟩ : Oper) (yielded all ai.tmps) = true := t.wanted trivial
  unfold wpListIn
  rw [if_pos hwd]
  refine ⟨fun _ _ => trivial, ?_⟩
  rw [Oper.semAt_eq _ _ _ (fun c e => by cases e), run_cally (l := E.l) rfl (t.ev hfo) hlw (by rw [elp]; rfl)]
  refine ⟨WF_depth m, ?_⟩
  have hNt : ρ.N = Γi.ρ0.N := t.defers.2.1
  obtain ⟨Γa, e1, e2, e3, e4, e5, e6, e7, e8⟩ := t.susp (K := E.K) (fun k => k = E.l) w ρ.N [] ⟨rfl, rfl, rfl⟩ (Nat.le_refl _) (fun k _ _ => rfl) (fun _ h => h) (fun _ h _ => h)
    (fun b h => by have := (t.defers.2.2 b (hNt ▸ h)).2; have := t.ext.size; omega) (fun k h => by subst h; rw [hNt]; exact hR.nl)
  have hs := e7 (frLt_ids hids) (Nat.le_of_eq hni)
  haveI : LaidS P Γa := hs.laid (fun k hk c T z e => by subst hk; rw [hR.at_l] at e; cases e)
  obtain ⟨_, g2, _⟩ := hR.susp.core t hni (w2 := w) (Nat.le_refl _) (fun _ _ _ => rfl)
  have hb := h ai Γa ⟨⟨_, hs⟩, e3, by rw [e1]; exact hlw⟩
  have hsz : (E.a.tmps.setIfInBounds p (ai.eval xo)).size = n.n := by simp [hE.size]
  have key := hb _ _ { tmps := E.a.tmps.setIfInBounds p (ai.eval xo), defers := [] } (e8 ⟨n.n, K⟩ _ ((p, x) :: fr) hsz rfl (fun q y hy => by
    have hp' : p < n.n := by simpa using hp
    simp only [get] at hy
    by_cases eq : p = q
    · subst eq
      simp at hy
      subst hy
      refine ⟨hp', ?_⟩
      have hlt : p < E.a.tmps.size := by rw [hE.size]; exact hp'
      simpa [Array.getD_eq_getD_getElem?, hlt] using t.ev hx
    · have e' : Nat.beq p q = false := by
        cases hh : Nat.beq p q with
        | false => rfl
        | true => exact absurd (Nat.eq_of_beq_eq_true hh) eq
      rw [e'] at hy
      obtain ⟨h1, _, h3⟩ := g2 q y (by rw [hE.fr]; exact hy)
      refine ⟨by rw [hE.n] at h1; exact h1, ?_⟩
      simpa [Array.getD_eq_getD_getElem?, Array.getElem?_setIfInBounds, eq] using h3))
  have hrd := roundIn_of_wpIn (F := WF none) (n := m - 1) (l := E.l) (f := fid) (R := YQ P m all Q rest d ai) (trivial : (WF none).fn fid) key
  have et : ((recOf fid E.a.tmps #[p] assign body E.D).params.zip #[ai.eval xo]).foldl (fun tmps (t, a) => tmps.setIfInBounds t a) (recOf fid E.a.tmps #[p] assign body E.D).tmps = E.a.tmps.setIfInBounds p (ai.eval xo) := by simp [recOf]
  rw [elp, et]
  exact RoundIn.mono hrd (fun e w' he => by cases e <;> exact he)
end
end Go.GA
end
section
namespace Go.GA
open Go Go.RowKit
section
variable {P : Program} {Γ Γi Γ2 : Ctx} {n ni : Sz} {Q : Exit → Act → World → Prop} {fr fri : Fr} {H : Hp} {E : Env} {K : Nat} {ps : Array Tmp} {assign body : Code} {fn : Func} {R : AV → Hp → Prop}
/-- what the end of the body owes, where marks may stand -/
def FinM (P : Program) (Γ : Ctx) (n : Sz) (fn : Func) (R : AV → Hp → Prop) (a : Act) (w : World) : Prop := ∃ Γ2, RB Γ Γ2 n ∧ Fin P Γ2 n fn R a w
def BQM (P : Program) (Γ : Ctx) (n : Sz) (fn : Func) (R : AV → Hp → Prop) : Exit → Act → World → Prop
  | .normal => FinM P Γ n fn R
  | .ret => FinM P Γ n fn R
  | _ => fun _ _ => False
theorem aqm_ret (hb : RB Γ Γ2 n) (h : AQ Γ2 n (Fin P Γ2 n fn R) fr H) : AQ Γ2 n (BQM P Γ n fn R .ret) fr H := fun ρ w a s => ⟨Γ2, hb, h ρ w a s⟩
theorem aqm_end (hb : RB Γ Γ2 n) (h : AQ Γ2 n (Fin P Γ2 n fn R) fr H) : AQ Γ2 n (BQM P Γ n fn R .normal) fr H := fun ρ w a s => ⟨Γ2, hb, h ρ w a s⟩
def tmpsB (fn : Func) : Bool := match fn.results.toList with
  | [] => true
  | [.tmp _] => true
  | [.tmp _, .tmp _] => true
  | [.tmp _, .tmp _, .tmp _] => true
  | _ => false
theorem results_tmps (h : tmpsB fn = true) (tmps : Array Value) : ∃ v, ∀ w, (results fn tmps).run P w = .ok v w := by
  unfold tmpsB at h
  have e : fn.results = fn.results.toList.toArray := by simp
  split at h
  all_goals first
    | (rename_i hl; rw [hl] at e; exact ⟨_, fun w => by simp [results, e]; rfl⟩)
    | cases h
theorem ac_enterM {f : FuncId} {c : Code} {args : List AV} (n : Sz) (hf : P.funcs[f]? = some fn) (hb : fn.body = some c) (hn : fn.ntmps = n.n) (ha : Nat.ble args.length n.n = true) (hK : namesB n.K H = true) (hK' : n.K = H.length) (ht : tmpsB fn = true)
    (h : ∀ Γ, [LaidS P Γ] → Γ.dl = [] → AW P Γ n c (BQM P Γ n fn R) (argFr 0 args) H) : ACallsV P f args H R := by
  intro ρ w vs ℓ h1 h2 hN hLd
  have hlen := ras_length h1
  have ha' : args.length ≤ n.n := Nat.le_of_ble_eq_true ha
  let Γ : Ctx := { W0 := w, M0 := namB ρ H, L0 := inL ℓ H, ρ0 := ρ, dl := [] }
  have hLS : LaidS P Γ := ⟨hLd⟩
  refine (callsIn_wide (n := 0)).1 (callsIn_of_wp_marks (F := Fence.wide) hf hb trivial ?_)
  have hs : SIM Γ n ρ w { tmps := vs.toArray ++ Array.replicate (fn.ntmps - vs.toArray.size) undef, defers := [] } (argFr 0 args) H := by
    refine ⟨⟨rfl, rfl, hN⟩, ?_, Ext.refl _ _, fun _ _ => rfl, fun b hb => .inl hb, ⟨ℓ, h2, fun e he b hb => .inl ⟨e, he, hb⟩⟩, ?_⟩
    · simp [hn]; omega
    · intro t x hx
      obtain ⟨j, e, hj⟩ := get_argFr hx
      obtain rfl : t = j := by omega
      have hlt := nthAV_lt hj
      obtain ⟨v, hv, hr⟩ := ras_nth h1 hj
      refine ⟨by omega, ?_⟩
      have hlt' : t < vs.length := by omega
      have : (vs.toArray ++ Array.replicate (fn.ntmps - vs.toArray.size) undef).getD t undef = v := by
        rw [Array.getD_eq_getD_getElem?, Array.getElem?_append_left (by simpa using hlt')]
        simp [hv]
      rw [this]; exact hr
  have hn' : ∀ e ∈ H, e.1 < n.K := namesB_lt hK
  refine wpIn_mono (wpIn_wide.2 (h Γ rfl ρ w _ hs)) ?_
  intro e a w' hq
  have key : FinM P Γ n fn R a w' → LeavesInM Fence.wide 0 P fn a.tmps (fun e w' => ∃ v r H' ρ' ℓ', e = .returned v ∧ Post R ρ w H ℓ v w' r H' ρ' ℓ') a.defers .returning w' := by
    rintro ⟨Γ2, hrb, hd, v, r, H', ρ', ℓ', h1, h2, h3, h4, h5, h6, h7, h8, h9⟩
    have hext : Ext (namB ρ H) w w' := ⟨h4.os.trans hrb.ext.os, h4.tape.trans hrb.ext.tape, h4.output.trans hrb.ext.output, Nat.le_trans hrb.ext.size h4.size, fun k hk hm => by
      have hk2 : k < Γ2.W0.heap.size := Nat.lt_of_lt_of_le hk hrb.ext.size
      refine (h4.block k hk2 (fun hm2 => ?_)).trans (hrb.ext.block k hk hm)
      rcases hrb.M0 k hm2 with h | h
      · exact hm h
      · have : w.heap.size ≤ k := h
        omega⟩
    have hold : ∀ b, inL ℓ' H' b → inL ℓ H b ∨ w.heap.size ≤ b := fun b hb => by
      rcases h6 b hb with h | h
      · exact hrb.L0 b h
      · exact .inr (Nat.le_trans hrb.ext.size h)
    have hown : ∀ b, namB ρ' H' b → namB ρ H b ∨ w.heap.size ≤ b := fun b hb => by
      rcases h7 b hb with h | h
      · exact hrb.M0 b h
      · exact .inr (Nat.le_trans hrb.ext.size h)
    have hsub : ∀ b, ownB ⟨ρ'.f, ρ.N⟩ H' b → ownB ρ' H' b := fun b h => h.imp (fun h => h) (fun h => by rw [h9]; exact hrb.N b h)
    -- the world behind the marks
    have fin : ∀ w2 : World, (∀ b, ¬ ρ'.N b → w2.heap[b]? = w'.heap[b]?) → (∀ b, inL ℓ' H' b → w2.heap[b]? = w'.heap[b]?) → Ext (namB ρ H) w w2 → Post R ρ w H ℓ v w2 r H' ⟨ρ'.f, ρ.N⟩ ℓ' := fun w2 hw hw2 he =>
      ⟨h2, fun e he => (h3 _ (hn' e he)).trans (hrb.keep _ (hn' e he)), he, ⟨fun e he => (h5.blk e he).same (fun _ _ => rfl) (fun b hbn _ => ⟨hw b (fun h => hbn (.inr h)), fun h => hbn (hsub b h)⟩) (fun b hbe => hw2 b ⟨e, he, hbe⟩), h5.nd, h5.dj, h5.ids⟩, hold, hown,
        h8.same r (fun _ _ => rfl) (fun b hbn _ => ⟨hw b (fun h => hbn (.inr h)), fun h => hbn (hsub b h)⟩), rfl⟩
    rcases hrb.dl with e | ⟨D, e, hD, hND, hge, hL, hM⟩
    · rw [hd, e]
      exact ⟨v, h1, v, r, H', _, ℓ', rfl, fin w' (fun _ _ => rfl) (fun _ _ => rfl) hext⟩
    · rw [hd, e]
      have hDlt : D < Γ2.W0.heap.size := (Array.getElem?_eq_some_iff.1 hD).1
      have hDw : w'.heap[D]? = some (.deferred (some [])) := (h4.block D hDlt hM).trans hD
      obtain ⟨v', hv'⟩ := results_tmps (P := P) ht a.tmps
      have ev : v' = v := by
        have := (hv' w').symm.trans h1
        simpa using this
      subst ev
      refine ⟨by simp, .inl ⟨D, _, rfl, run_takeDeferred hDw, v', hv' _, v', r, H', _, ℓ', rfl, fin _ (fun b hb => putObj_other w' _ (fun e => hb (by rw [e, h9]; exact hND))) (fun b hb => putObj_other w' _ (fun e => by
        subst e
        rcases h6 b hb with h | h
        · exact hL h
        · omega)) ⟨hext.os, hext.tape, hext.output, by rw [putObj_size]; exact hext.size, fun k hk hm => (putObj_other w' _ (fun e => by have : w.heap.size ≤ D := hge; omega)).trans (hext.block k hk hm)⟩⟩⟩
  cases e with
  | normal => exact key hq
  | ret => exact key hq
  | exit i => exact hq.elim
  | goto l => exact hq.elim
  | panic ch => exact hq.elim
  | outgrown => exact hq.elim

/-- 'for .. := range f' -/
theorem aw_rangeFunc {g : Operand} {p : Nat} {f : FuncId} {fi : Func} {c : Code} {caps : List AV} (ni : Sz) (hΓ : Γ.dl = []) (hg : evO fr g = some (.fn f caps)) (hf : P.funcs[f]? = some fi) (hb : fi.body = some c) (hname : (fi.name == "runtime.NumGoroutine") = false) (hn : fi.ntmps = ni.n) (hres : fi.results = #[])
    (ha : Nat.ble (caps.length + 1) ni.n = true) (hids : frLt ni.K fr = true) (hK : Nat.ble n.K ni.K = true) [LaidS P Γ]
    (h : ∀ E Γi, [LaidS P Γi] → IsEnv E Γ n fr ni.K Q #[p] assign body → Running E Γi E.lp → Γi.dl = [] → AW P Γi ni c (IterQ P E) (argFr 0 (.yl E.l :: caps)) H) : AW P Γ n (.rangeFunc g #[p] assign body) Q fr H := fun ρ w a s => by
  obtain ⟨cv, hcv, hcaps⟩ := s.ev hg
  refine (wpIn_wide (n := 0)).1 (wpIn_rangeFunc fun fid _ => ?_)
  obtain ⟨W1, hW1⟩ : ∃ W1, (w.alloc (.deferred (some []))).alloc (.loop (recOf fid a.tmps #[p] assign body w.heap.size)) = W1 := ⟨_, rfl⟩
  have hL1 : W1.heap[w.heap.size + 1]? = some (.loop (recOf fid a.tmps #[p] assign body w.heap.size)) := by
    rw [← hW1]; have := World.alloc_heap_new (w.alloc (.deferred (some []))) (.loop (recOf fid a.tmps #[p] assign body w.heap.size)); rwa [World.size_alloc] at this
  have hD1 : W1.heap[w.heap.size]? = some (.deferred (some [])) := by
    rw [← hW1]; exact (Below.heap_alloc _ _ _ (by simp)).trans (World.alloc_heap_new w _)
  have hsz : W1.heap.size = w.heap.size + 2 := by rw [← hW1]; simp
  have hold : ∀ k, k < w.heap.size → W1.heap[k]? = w.heap[k]? := fun k hk => by
    rw [← hW1]; exact (Below.heap_alloc _ _ _ (by simp; omega)).trans (Below.heap_alloc _ _ _ hk)
  have hpt : W1.os = w.os ∧ W1.tape = w.tape ∧ W1.output = w.output := by rw [← hW1]; exact ⟨rfl, rfl, rfl⟩
  obtain ⟨Γi, e1, e2, e3, e4, e5, e6, e7, e8⟩ := s.susp (K := ni.K) (fun _ => False) W1 (fun b => ρ.N b ∨ b = w.heap.size + 1 ∨ b = w.heap.size) [] hpt (by omega) (fun k hk _ => hold k hk) (fun _ h => .inl h)
    (fun b h hlt => by rcases h with h | h | h; · exact h
                       all_goals omega)
    (fun b h => by
      rcases h with h | h | h
      · have := (s.defers.2.2 b (s.defers.2.1 ▸ h)).2; have := s.ext.size; omega
      all_goals omega) (fun k h => h.elim)
  have hs := e7 (frLt_ids hids) (Nat.le_of_ble_eq_true hK)
  haveI : LaidS P Γi := hs.laid (fun k hk => hk.elim)
  let E : Env := ⟨Γ, n, fr, a, w.heap.size + 1, w.heap.size, recOf fid a.tmps #[p] assign body w.heap.size, ni.K, w.heap.size, Q⟩
  have hE : IsEnv E Γ n fr ni.K Q #[p] assign body := ⟨s.size, rfl, rfl, rfl, rfl, rfl, fid, rfl⟩
  have hR : Running E Γi E.lp := ⟨hs, by rw [e2]; exact .inr (.inl rfl), by rw [e2]; exact .inr (.inr rfl), by show w.heap.size ≠ w.heap.size + 1; omega, by rw [e1]; exact hL1, by rw [e1]; exact hD1, ⟨Nat.le_succ _, Nat.le_refl _⟩, s.ext.size⟩
  have hwp := h E Γi hE hR e3
  have hras : RAs ρ (World.hf w) (ownB ρ H) (.yl (w.heap.size + 1) :: caps) (.func (.yield (w.heap.size + 1)) #[] #[] :: cv) := ⟨_, _, rfl, rfl, hcaps⟩
  have hlen := ras_length hras
  have ha' : caps.length + 1 ≤ ni.n := Nat.le_of_ble_eq_true ha
  have hargs : #[Value.func (.yield (w.heap.size + 1)) #[] #[]] ++ cv.toArray = (Value.func (.yield (w.heap.size + 1)) #[] #[] :: cv).toArray := by simp
  refine ⟨w.heap.size + 1, [mark w.heap.size], W1, { target := .fn (.func f) cv.toArray, args := #[.func (.yield (w.heap.size + 1)) #[] #[]] }, W1, f, (Value.func (.yield (w.heap.size + 1)) #[] #[] :: cv).toArray, W1, ?_, ?_, fun _ _ => trivial, ?_, fun h => by simp [Fence.wide] at h, ?_⟩
  · rw [← hW1]; exact run_enterLoop_outer _ _ _ _ _
  · simp only [resolve, hcv]
    simp [go_sem]
  · have h1 : fi.name ≠ "runtime.NumGoroutine" := by simpa using hname
    have h2 : fi.body ≠ none := by rw [hb]; simp
    rw [← hargs]
    simp [invoke, callFunc, hf, h1, h2, Sem.run]
  · refine callsIn_wide.2 (calls_of_wp hf hb (Code.wp_mono ?_ (hwp ⟨ρ.f, fun b => ρ.N b ∨ b = w.heap.size + 1 ∨ b = w.heap.size⟩ W1 _ (e8 ni _ _ ?_ rfl ?_))))
    · intro e ai wi hq
      cases e with
      | normal =>
        obtain ⟨hd, jump, w4, hend, hj⟩ := hq
        refine ⟨hd, .tuple #[], by simp [results, hres], jump, w4, hend, ?_⟩
        cases jump with
        | none => exact hj
        | some c => exact wpIn_wide.2 hj
      | ret =>
        obtain ⟨hd, jump, w4, hend, hj⟩ := hq
        refine ⟨hd, .tuple #[], by simp [results, hres], jump, w4, hend, ?_⟩
        cases jump with
        | none => exact hj
        | some c => exact wpIn_wide.2 hj
      | exit id => exact hq.elim
      | goto l => exact hq.elim
      | panic ch => exact hq.elim
      | outgrown => exact hq.elim
    · simp [hn] at hlen ⊢; omega
    · intro t x hx
      obtain ⟨j, e, hj⟩ := get_argFr hx
      obtain rfl : t = j := by omega
      have hlt := nthAV_lt hj
      obtain ⟨v, hv, hr⟩ := ras_nth hras hj
      simp only [List.length_cons] at hlt hlen
      refine ⟨by omega, ?_⟩
      have hlt' : t < (Value.func (.yield (w.heap.size + 1)) #[] #[] :: cv).length := by simp only [List.length_cons]; omega
      have : ((Value.func (.yield (w.heap.size + 1)) #[] #[] :: cv).toArray ++ Array.replicate (fi.ntmps - (Value.func (.yield (w.heap.size + 1)) #[] #[] :: cv).toArray.size) undef).getD t undef = v := by
        rw [Array.getD_eq_getD_getElem?, Array.getElem?_append_left (by simpa using hlt')]
        simp [hv]
      rw [this]; exact hr

/-- the iterator is at its end -/
theorem aq_done (hE : IsEnv E Γ n fr K Q ps assign body) (hR : Running E Γi E.lp) [LaidS P Γ] (hdl : Γ.dl = []) (hΓ : Γi.dl = []) (hn : ni.K = K) (h : ∀ Γ2, [LaidS P Γ2] → RB Γ Γ2 n → AQ Γ2 n (Q .normal) fr H) : AQ Γi ni (IterQ P E .ret) fri H := by
  obtain ⟨_, h1, h2, h3, h4, h5, fid, hlp⟩ := hE
  subst h1 h2 h3 h4 h5
  intro ρ w a t
  have hlw := (hR.at_w t).1
  refine ⟨t.defers.1.trans hΓ, _, _, run_endLoop hlw (by rw [hlp]; intro h; cases h), ?_⟩
  have hp : E.lp.pending = none := by rw [hlp]; rfl
  rw [hp]
  obtain ⟨Γ2, hrb, hl2, ρ2, s2⟩ := hR.behind (P := P) hdl t hn (.loop { E.lp with state := .exhausted })
  have := h Γ2 hrb ρ2 _ _ s2
  simpa [hp] using this
/-- .. and was stopped -/
theorem aq_stopped {c : Code} (hE : IsEnv E Γ n fr K Q ps assign body) (hR : Running E Γi { E.lp with state := .done, pending := some c }) [LaidS P Γ] (hdl : Γ.dl = []) (hΓ : Γi.dl = []) (hn : ni.K = K) (h : ∀ Γ2, [LaidS P Γ2] → RB Γ Γ2 n → AW P Γ2 n c Q fr H) : AQ Γi ni (IterQ P E .ret) fri H := by
  obtain ⟨_, h1, h2, h3, h4, h5, fid, hlp⟩ := hE
  subst h1 h2 h3 h4 h5
  intro ρ w a t
  have hlw := (hR.at_w t).1
  refine ⟨t.defers.1.trans hΓ, _, _, run_endLoop hlw (by intro h; cases h), ?_⟩
  obtain ⟨Γ2, hrb, hl2, ρ2, s2⟩ := hR.behind (P := P) hdl t hn (.loop { ({ E.lp with state := .done, pending := some c } : Loop) with state := .exhausted })
  exact h Γ2 hrb ρ2 _ _ s2
theorem aq_iter_end (h : AQ Γi ni (IterQ P E .ret) fri H) : AQ Γi ni (IterQ P E .normal) fri H := h
end
end Go.GA
namespace Go.GA
open Go Go.RowKit
section
variable {P : Program} {Γ : Ctx} {n : Sz} {Q : Exit → Act → World → Prop} {fr fr' : Fr} {H H' : Hp} {E : Env} {K : Nat} {ps : Array Tmp} {assign body : Code} {ro : Option Nat} {m : Nat}
theorem AWI.sub {c : Code} (hs : Sub n fr H fr' H') (h : AWI P ro m Γ n c Q fr' H') : AWI P ro m Γ n c Q fr H := fun ρ w a s => let ⟨ρ', s'⟩ := hs Γ ρ w a s; h ρ' w a s'
theorem AOI.sub {all : Array Oper} {ops : List Oper} (hs : Sub n fr H fr' H') (h : AOI P m Γ n all Q ops fr' H') : AOI P m Γ n all Q ops fr H := fun ρ w a s => let ⟨ρ', s'⟩ := hs Γ ρ w a s; h ρ' w a s'
theorem IsEnv.ready (h : IsEnv E Γ n fr K Q ps assign body) : E.lp.state = .ready := by
  obtain ⟨fid, e⟩ := h.lp
  rw [e]; rfl
theorem IsEnv.fl {fr2 : Fr} (h : IsEnv E Γ n fr K Q ps assign body) (hf : frLt K fr2 = true) : frLt E.K fr2 = true := by rw [h.K]; exact hf
theorem ac_enterMR {fn : Func} {R : AV → Hp → Prop} {f : FuncId} {c : Code} {args : List AV} (n : Sz) (hf : P.funcs[f]? = some fn) (hb : fn.body = some c) (hn : fn.ntmps = n.n) (ha : Nat.ble args.length n.n = true) (hK : namesB n.K H = true) (hK' : n.K = H.length) (ht : tmpsB fn = true)
    (h : ∀ Γ, [LaidS P Γ] → Γ.dl = [] → AW P Γ n c (BQM P Γ n fn (WithRes R)) (argFr 0 args) H) : ACalls P f args H R := ac_enterM n hf hb hn ha hK hK' ht h
end
end Go.GA
end
section
namespace Go.GA
open Go Go.RowKit
/-- the string of bytes -/
def bytesB (xs : List Int) : ByteArray := xs.foldl (fun r n => r.push (UInt8.ofNat n.toNat)) ByteArray.empty
theorem relL_ints {h : Hf} {k : IntKind} : ∀ {xs : List Int} {cs F}, RelL (Rc h (.int k)) xs cs F → cs = xs.map (Value.int k)
  | [], cs, F, hr => hr.1
  | x :: xs, cs, F, hr => by
    obtain ⟨c1, c2, F1, F2, rfl, rfl, h1, h2⟩ := hr
    rw [relL_ints h2, h1.1]
    rfl
section
variable {P : Program} {fr : Fr} {H : Hp} {dst : Option Nat} {ty : TypeId} {pos : String} {aft : Array Edge} {g : Option (Nat × Bool)}
theorem r_bytes_str {S T E : TypeId} {x : Operand} {id : Nat} {xs : List Int} (hs : P.underlying S = some (.slice E)) (he : P.underlying E = some (.int .u8)) (hd : P.underlying T = some .string)
    (hx : evO fr x = some (.os id)) (hg : hget H id = some (.row (.int .u8) xs)) : Reads P ⟨dst, .convert S T x, ty, pos, aft, g⟩ fr H (.str (bytesB xs)) := fun Γ n ρ w a s => by
  obtain ⟨ℓ, hL, _⟩ := s.heap
  refine ⟨.string (bytesB xs), rfl, fun w' hk => ?_⟩
  obtain ⟨hl, ⟨h3, h4, _⟩ | ⟨b, cap, c, T', F, mid, post, h3, h4, h5, h6, h7, h8, h9⟩⟩ := hL.get hg
  · rcases s.ev hx with ⟨_, e⟩ | ⟨b', cap', len, hx', _⟩
    · subst h4
      simp only [execOp, e, Sem.run_bind, run_convert_bytes_string w' S T E none 0 0 hs he hd, Conv.bytesToString, Sem.run_pure, Result.andThen_ok]
      rfl
    · rw [h3] at hx'; cases hx'
  · rcases s.ev hx with ⟨hx', _⟩ | ⟨b', cap', len, hx', e⟩
    · rw [h3] at hx'; cases hx'
    · rw [h3] at hx'
      simp only [Option.some.injEq, Prod.mk.injEq] at hx'
      obtain ⟨rfl, rfl, hlen⟩ := hx'
      have hlen' : List.length (α := Int) xs = len := hlen
      subst hlen'
      have hmid : mid = xs.map (Value.int .u8) := relL_ints h6
      have hcs : (loadCells ⟨b, 0, none⟩ xs.length).run P w' = .ok (xs.map (Value.int .u8)).toArray w' := by
        have hb := kept_get hk h4
        have := run_loadCells_list (P := P) w' ⟨b, 0, none⟩ (xs.map (Value.int .u8)) (fun j v hv => by
          have hj : j < (xs.map (Value.int .u8)).length := (List.getElem?_eq_some_iff.1 hv).1
          have := cell_at (pre := []) hb (by rw [h5, hmid]; rfl) j hj
          rw [addr_add]
          simp only [List.length_nil] at this
          rw [this]; exact hv)
        simpa using this
      simp only [execOp, e, Sem.run_bind, run_convert_bytes_string w' S T E (some ⟨b, 0, none⟩) _ _ hs he hd, run_bytesToString w' ⟨b, 0, none⟩ xs.length cap xs hcs, Sem.run_pure, Result.andThen_ok]
      rfl
end
end Go.GA
end
section
namespace Go.GA
open Go Go.RowKit
/-- a part of a value, turned -/
def Lens (τ u : Ty) (fo : Nat) (X Y : τ.D) (e : u.D) : Prop := ∀ h h' cs ns, Rc h τ X cs [] → Rc h' u e ns [] → fo + u.sz ≤ cs.length ∧ Rc h' τ Y (cs.take fo ++ ns ++ cs.drop (fo + u.sz)) []
theorem lens_fst {u v : Ty} {X Y : (Ty.pair u v).D} {e : u.D} (h1 : Y.1 = e) (h2 : Y.2 = X.2) : Lens (.pair u v) u 0 X Y e := fun h h' cs ns hc hn => by
  obtain ⟨c1, c2, F1, F2, rfl, eF, r1, r2⟩ := hc
  obtain ⟨rfl, rfl⟩ := List.append_eq_nil_iff.1 eF.symm
  have hl := Rc.len u r1
  refine ⟨by simp; omega, ns, c2, [], [], ?_, rfl, ?_, ?_⟩
  · rw [List.take_zero, List.nil_append, Nat.zero_add, ← hl, List.drop_left]
  · rw [h1]; exact hn
  · rw [h2]; exact r2.same v (by simp)
theorem lens_snd {w v u : Ty} {fo fo' : Nat} {X Y : (Ty.pair w v).D} {e : u.D} (hf : w.sz + fo = fo') (h1 : Y.1 = X.1) (h2 : Lens v u fo X.2 Y.2 e) : Lens (.pair w v) u fo' X Y e := fun h h' cs ns hc hn => by
  obtain ⟨c1, c2, F1, F2, rfl, eF, r1, r2⟩ := hc
  obtain ⟨rfl, rfl⟩ := List.append_eq_nil_iff.1 eF.symm
  have hl := Rc.len w r1
  obtain ⟨k1, k2⟩ := h2 h h' c2 ns r2 hn
  subst hf
  refine ⟨by simp; omega, c1, c2.take fo ++ ns ++ c2.drop (fo + u.sz), [], [], ?_, rfl, ?_, k2⟩
  · rw [← hl, List.take_length_add_append, Nat.add_assoc, List.drop_length_add_append]; simp
  · rw [h1]; exact r1.same w (by simp)
section
variable {P : Program} {n : Sz} {fr : Fr} {H : Hp} {dst : Option Nat} {ty : TypeId} {pos : String} {aft : Array Edge} {g : Option (Nat × Bool)}
theorem r_fieldAddr_eleme {S : TypeId} {x : Operand} {k id off sz i : Nat} {fs : Array Field} {fd : Field} {s' fo : Nat} (hu : P.underlying S = some (.struct fs)) (hf : fs[k]? = some fd) (hs : ∀ w, (sizeOf fd.type).run P w = .ok s' w) (hs0 : Nat.beq s' 0 = false) (h0 : fd.offset = fo)
    (hx : evO fr x = some (.elem id off sz i)) : Reads P ⟨dst, .fieldAddr S x k, ty, pos, aft, g⟩ fr H (.elem2 id off sz i 1 fo) := fun Γ n ρ w a s => by
  obtain ⟨b, kk, hρ, e⟩ := s.ev hx
  have hne : s' ≠ 0 := Nat.ne_of_beq_eq_false hs0
  subst h0
  refine ⟨.pointer (some ⟨b, off + i * sz + fd.offset * 1, none⟩), ⟨b, kk, hρ, rfl⟩, fun w' _ => ?_⟩
  simp [execOp, Instr.fieldAt, e, Sem.run_bind, run_underlying hu, hf, fieldPlace, hs, hne, addr_add, Instr.sureAddr]
theorem e_store_fld {T : TypeId} {x y : Operand} {id off i fo z : Nat} {τ u : Ty} {xs : List τ.D} {X Y : τ.D} {e : u.D} {B B' : Blk} (hfu : u.flat = true) (hu1 : u.sz = 1) (hf : τ.flat = true) (hs : ∀ w, (sizeOf T).run P w = .ok u.sz w) (hz : τ.sz = z)
    (hx : evO fr x = some (.elem2 id off z i 1 fo)) (hy : evO fr y = some (ofTy u e)) (hg : hget H id = some B) (he : elemsAt H id off = some ⟨τ, xs⟩) (hi : i < xs.length) (hX : xs.getD i τ.dflt = X) (hL : Lens τ u fo X Y e) (hB : blkSet B off τ (xs.set i Y) = B') :
    EffS P n ⟨none, .store T x y, ty, pos, aft, g⟩ fr H fr (hset H id B') := fun Γ ρ w a s => by
  subst hB; subst hz
  obtain ⟨b, k, hρ, ex⟩ := s.ev hx
  obtain ⟨ℓ, hLk, _⟩ := s.heap
  have hns := ofTy_cells hfu (s.ev hy)
  have hnl : (a.eval y).cells.toList.length = u.sz := Rc.len u hns
  obtain ⟨c, T', p, mid, q, F, hb, hc, hp, hm, _⟩ := elemsAt_ok hLk he hρ
  have hFn : F = [] := RelL.flat (fun x c F h => Rc.flat τ hf h) hm
  subst hFn
  have hm0 := hm
  rw [split_at xs i hi τ.dflt] at hm
  obtain ⟨c1, c2, c3, G, em, hc1, hR, hG⟩ := RelL.mid hm (fun x c F h => Rc.len _ h)
  have hlt' : (xs.take i).length = i := by rw [List.length_take]; omega
  rw [hlt'] at hc1
  rw [hX] at hR
  have hGn : G = [] := Rc.flat τ hf hR
  subst hGn
  have hc2 : c2.length = τ.sz := Rc.len τ hR
  have hin : ∀ h', Rc h' u e (a.eval y).cells.toList [] := fun h' => hns.same u (by simp)
  have hnew : ∀ h', Rc h' τ Y (c2.take fo ++ (a.eval y).cells.toList ++ c2.drop (fo + (a.eval y).cells.toList.length)) [] := fun h' => by
    rw [hnl]; exact (hL _ h' c2 _ hR (hin h')).2
  have hle := (hL _ (World.hf w) c2 _ hR (hin _)).1
  have hnewl := Rc.len τ (hnew (World.hf w))
  have hclen : c.size = p.length + (mid.length + q.length) := by rw [← Array.length_toList, hc]; simp
  have hmidl : mid.length = c1.length + (c2.length + c3.length) := by rw [em]; simp
  have hrun := run_storeVar (P := P) (T := T) (v := a.eval y) (ns := (a.eval y).cells.toList) (b := b) (off := off + i * τ.sz + fo * 1) (c := c) (T' := T') (w := w) (by rw [hnl]; exact hs) rfl hb (by omega) (fun v hv => Rc.one u hns v hv)
  have hcl : c.toList.take (off + i * τ.sz + fo * 1) ++ (a.eval y).cells.toList ++ c.toList.drop (off + i * τ.sz + fo * 1 + (a.eval y).cells.toList.length) = p ++ ((mid.take (i * τ.sz) ++ (c2.take fo ++ (a.eval y).cells.toList ++ c2.drop (fo + (a.eval y).cells.toList.length)) ++ mid.drop (i * τ.sz + (c2.take fo ++ (a.eval y).cells.toList ++ c2.drop (fo + (a.eval y).cells.toList.length)).length)) ++ q) := by
    rw [hnewl]
    generalize (a.eval y).cells.toList = ns at *
    have t1 : mid.take (i * τ.sz) = c1 := by rw [em, ← hc1]; simp
    have t2 : mid.drop (i * τ.sz + τ.sz) = c3 := by
      rw [em, ← hc1, List.drop_length_add_append, ← hc2, List.drop_left]
    rw [t1, t2]
    have hcs : c.toList = (p ++ c1) ++ (c2 ++ (c3 ++ q)) := by rw [hc, em]; simp
    have hoff : off + i * τ.sz = (p ++ c1).length := by rw [List.length_append, hp, hc1]
    rw [Nat.mul_one, hoff, hcs, List.take_length_add_append, Nat.add_assoc, List.drop_length_add_append, List.take_append_of_le_length (by omega), List.drop_append_of_le_length (by omega)]
    simp
  refine ⟨w.setRow b (c.toList.take (off + i * τ.sz + fo * 1) ++ (a.eval y).cells.toList ++ c.toList.drop (off + i * τ.sz + fo * 1 + (a.eval y).cells.toList.length)).toArray, ρ, ?_, ?_⟩
  · simp only [execOp, Instr.storeAt, ex, Instr.sureAddr, Sem.run_bind, Sem.run_pure, Result.andThen_ok, hrun]
  · rw [hcl]
    exact sim_set_elem (t := τ) s hf hg he hi hρ hb hc hp hm0 hnew hnewl
end
end Go.GA
end
section
namespace Go.GA
open Go Go.RowKit
theorem info_size {P : Program} {E : TypeId} {n : Nat} (hs : ∀ w, (sizeOf E).run P w = .ok n w) : ∃ i, P.info? E = some i ∧ i.size = n := by
  have h := hs default
  cases hi : P.info? E with
  | none => simp [sizeOf, typeInfo, program, stuck, Sem.run_bind, Sem.run, hi, Result.andThen] at h
  | some i =>
    refine ⟨i, rfl, ?_⟩
    simp [sizeOf, typeInfo, program, stuck, Sem.run_bind, Sem.run, hi, Result.andThen] at h
    exact h
def AV.isPtr : AV → Bool
  | .ref .. => true
  | .elem .. => true
  | .elem2 .. => true
  | .cptr .. => true
  | _ => false
section
variable {P : Program} {fr : Fr} {H : Hp} {dst : Option Nat} {ty : TypeId} {pos : String} {aft : Array Edge} {g : Option (Nat × Bool)}
theorem r_nilCheck {x : Operand} {y : AV} (hx : evO fr x = some y) (hp : y.isPtr = true) : Reads P ⟨dst, .nilCheck x, ty, pos, aft, g⟩ fr H y := fun Γ n ρ w a s => by
  have hv := s.ev hx
  refine ⟨a.eval x, hv, fun w' _ => ?_⟩
  have : ∃ ad, a.eval x = .pointer (some ad) := by
    cases y <;> simp only [AV.isPtr, Bool.false_eq_true] at hp
    all_goals simp only [RA] at hv
    all_goals first
      | (obtain ⟨b, k, _, e⟩ := hv; exact ⟨_, e⟩)
      | (obtain ⟨b, off, F, c, T, z, pre, mid, post, e, _⟩ := hv; exact ⟨_, e⟩)
  obtain ⟨ad, e⟩ := this
  simp [execOp, e, Sem.run_pure]
end
end Go.GA
end
section
namespace Go.GA
open Go Go.RowKit
theorem relL_of_ints {h : Hf} {k : IntKind} : ∀ (xs : List Int), RelL (Rc h (.int k)) xs (xs.map (Value.int k)) []
  | [] => ⟨rfl, rfl⟩
  | x :: xs => ⟨[_], _, [], [], rfl, rfl, ⟨rfl, rfl⟩, relL_of_ints xs⟩
section
variable {P : Program} {fr : Fr} {H : Hp} {dst : Option Nat} {ty : TypeId} {pos : String} {aft : Array Edge} {g : Option (Nat × Bool)}
theorem r_build_one {T E : TypeId} {i : Nat} {x : Operand} {z : Value} {k : IntKind} {m : Nat} {e : Int} (hi : i < m) (ht : P.underlying T = some (.array m E)) (hz : ∀ w, (zeroValue T).run P w = .ok z w) (hs : ∀ w, (sizeOf E).run P w = .ok 1 w) (hzs : z.cells.toList = (List.replicate m (zc (.int k))).flatten)
    (hx : evO fr x = some (.int k e)) : Reads P ⟨dst, .build T #[(i, x)], ty, pos, aft, g⟩ fr H (.v (.arr m (.int k)) ((List.replicate m 0).set i e : List Int)) := fun Γ n ρ w a s => by
  have hv := s.ev hx
  simp only [RA] at hv
  have hz0 : z.cells.toList = List.replicate m (Value.int k 0) := by
    rw [hzs]
    have : zc (.int k) = [Value.int k 0] := rfl
    rw [this, List.flatten_replicate_singleton]
  have hsz : z.cells.size = m := by rw [← Array.length_toList, hz0, List.length_replicate]
  refine ⟨.agg (z.cells.setIfInBounds i (.int k e)), ⟨[], ⟨((List.replicate m 0).set i e : List Int).map (Value.int k), ⟨(show ((List.replicate m 0).set i e : List Int).length = m by rw [List.length_set, List.length_replicate]), relL_of_ints _⟩, ?_⟩, by simp⟩, fun w' _ => ?_⟩
  · simp only [mkV, Ty.agg, if_true]
    congr 1
    apply Array.toList_inj.1
    rw [Array.toList_setIfInBounds, hz0, List.map_set, List.map_replicate]
  · have hc : (Value.int k e).cells = #[.int k e] := rfl
    simp [execOp, Instr.build, Sem.run_bind, hz, run_underlying ht, hs, hv, Instr.fill, hc, hsz, hi]
    rw [if_neg (by omega)]
    simp [Sem.run_pure]
end
end Go.GA
end
section
namespace Go.GA
open Go Go.RowKit
section
variable {H : Hp}
theorem ad_viewr0 {σ : Nat → Nat} {id l len z : Nat} {t : Ty} {xs : List t.D} (hz : t.sz = z) (hf : t.flat = true) (hg : hget H id = some (.row t xs)) (hl : l + len ≤ xs.length) :
    Ad H [] σ (.view id 0 z l len) (.v (.slice t) ((xs.drop l).take len)) := fun ρ h ℓ hk hm' hd v hx => by
  subst hz
  have hr := (hk.get hg).1
  exact ad_view hf (by simp [elemsAt, hg]) hl (by omega) (by simp) ρ h ℓ hk hm' hd v hx
end
section
variable {P : Program} {n : Sz} {fr : Fr} {H : Hp} {dst : Option Nat} {ty : TypeId} {pos : String} {aft : Array Edge} {g : Option (Nat × Bool)}
/-- a struct literal, as plain data -/
theorem r_build_stv {T : TypeId} {fields : Array Field} {l : List (Nat × Operand)} {z : Value} {cs : List Comp} (t : Ty) (y : t.D) (pl : List (Nat × Nat)) (ht : P.underlying T = some (.struct fields)) (hz : ∀ w, (zeroValue T).run P w = .ok z w) (hzs : z.cells.toList = zc t)
    (hp : Places P fields.toList pl) (hb : buildC fr (zC t) pl l = some cs) (hf : t.flatArrs = true) (ha : t.agg = true) (hy : cs = tyComps t y) :
    Reads P ⟨dst, .build T l.toArray, ty, pos, aft, g⟩ fr H (.v t y) := fun Γ n' ρ w a s => by
  obtain ⟨B, h1, h2⟩ := fill_comps (fr := fr) (ρ := ρ) (h := World.hf w) (M := ownB ρ H) (ev := a.eval) (fun o y h => s.ev h) (A := z.cells) (by rw [hzs]; exact zC_ok _ _ _ t) hb
  rw [hy] at h2
  obtain ⟨F, h3, h4⟩ := comps_ty t hf h2
  refine ⟨.agg B, ⟨F, ⟨_, h3, by simp [mkV, ha]⟩, h4⟩, fun w' _ => ?_⟩
  have hm : ∀ w, (fields.mapM fun f => do pure (f.offset, ← sizeOf f.type) : Sem (Array (Nat × Nat))).run P w = .ok pl.toArray w := fun w => by
    have e : fields = fields.toList.toArray := rfl
    rw [e, List.mapM_toArray, map_eq_pure_bind, Sem.run_bind, places_run hp w]
    rfl
  simp only [execOp, Instr.build, Sem.run_bind, hz, run_underlying ht, Result.andThen_ok, hm, List.map_toArray]
  rw [h1]
  simp
end
end Go.GA
end
section
namespace Go.GA
open Go Go.RowKit
def eqI (a b : Int) : Bool := decide (a = b)
def eqB (a b : Bool) : Bool := a == b
def eqIs (a b : List Int) : Bool := decide (a = b)
/-- equality of plain data -/
def eqT : (t : Ty) → t.D → t.D → Bool
  | .int _, x, y => eqI x y
  | .bool, x, y => eqB x y
  | .str, x, y => eqS x y
  | .arr _ (.int _), x, y => eqIs x y
  | .pair a b, x, y => eqT a x.1 y.1 && eqT b x.2 y.2
  | .unit, _, _ => true
  | _, _, _ => false
def TEq (P : Program) (n : Nat) (T : TypeId) (t : Ty) : Prop := ∀ (w : World) (d : Nat) (h : Hf) (x y : t.D) (c1 c2 : List Value) (F1 F2 : List Nat), n ≤ d → Rc h t x c1 F1 → Rc h t y c2 F2 → (Op.equalIn d T (mkV t c1) (mkV t c2)).run P w = .ok (eqT t x y) w
section
variable {P : Program}
theorem teq_int {T : TypeId} {k k' : IntKind} (hT : P.underlying T = some (.int k')) : TEq P 1 T (.int k) := fun w d h x y c1 c2 F1 F2 hd h1 h2 => by
  obtain ⟨d, rfl⟩ : ∃ e, d = e + 1 := ⟨d - 1, by omega⟩
  obtain ⟨rfl, _⟩ := h1
  obtain ⟨rfl, _⟩ := h2
  exact Eq.trans (run_equalIn_int w d T k k' x y hT) rfl
theorem teq_bool {T : TypeId} (hT : P.underlying T = some .bool) : TEq P 1 T .bool := fun w d h x y c1 c2 F1 F2 hd h1 h2 => by
  obtain ⟨d, rfl⟩ : ∃ e, d = e + 1 := ⟨d - 1, by omega⟩
  obtain ⟨rfl, _⟩ := h1
  obtain ⟨rfl, _⟩ := h2
  exact Eq.trans (run_equalIn_bool' w d T x y hT) rfl
theorem teq_str {T : TypeId} (hT : P.underlying T = some .string) : TEq P 1 T .str := fun w d h x y c1 c2 F1 F2 hd h1 h2 => by
  obtain ⟨d, rfl⟩ : ∃ e, d = e + 1 := ⟨d - 1, by omega⟩
  obtain ⟨rfl, _⟩ := h1
  obtain ⟨rfl, _⟩ := h2
  exact Eq.trans (run_equalIn_string w d T x y hT) rfl
theorem teq_ints {T E : TypeId} {k : IntKind} {m : Nat} (hA : P.underlying T = some (.array m E)) (hE : P.underlying E = some (.int k)) (ha : ∀ w, (isAgg E).run P w = .ok false w) (hi : ∃ i, P.info? E = some i ∧ i.size = 1) : TEq P 3 T (.arr m (.int k)) := fun w d h x y c1 c2 F1 F2 hd h1 h2 => by
  obtain ⟨d, rfl⟩ : ∃ e, d = e + 3 := ⟨d - 3, by omega⟩
  obtain ⟨e1, l1⟩ := rv_ints ⟨c1, h1, rfl⟩
  obtain ⟨e2, l2⟩ := rv_ints ⟨c2, h2, rfl⟩
  obtain ⟨i, hi, hsz⟩ := hi
  have hcell : P.cellsOf E = 1 := by simp [Program.cellsOf, hi, hsz]
  refine Eq.trans (b := (Op.equalIn (d + 3) T (.agg ((x : List Int).map (Value.int k)).toArray) (.agg ((y : List Int).map (Value.int k)).toArray)).run P w) (by rw [show mkV (.arr m (.int k)) c1 = .agg ((x : List Int).map (Value.int k)).toArray from e1, show mkV (.arr m (.int k)) c2 = .agg ((y : List Int).map (Value.int k)).toArray from e2]) ?_
  have h1 := run_equalIn_array (P := P) w (d + 2) ((x : List Int).map (Value.int k)).toArray ((y : List Int).map (Value.int k)).toArray hA hi
  have h2 := eqItems_ints (P := P) (d := d + 1) hE ha hcell w x y [] [] (by rw [l1, l2]) rfl
  simp only [List.nil_append, List.length_nil, l1, ← List.range_eq_range'] at h2
  exact Eq.trans h1 h2
theorem part_at {T : TypeId} {t : Ty} {h : Hf} {x : t.D} {F : List Nat} {pre mid post : List Value} {off : Nat} (hR : Rc h t x mid F) (ha : ∀ w, (isAgg T).run P w = .ok t.agg w) (hs : ∀ w, (sizeOf T).run P w = .ok t.sz w) (hp : pre.length = off) (w : World) : (part T (pre ++ (mid ++ post)).toArray off).run P w = .ok (mkV t mid) w := by
  have hl := Rc.len t hR
  unfold part
  simp only [Sem.run_bind, ha, Result.andThen_ok]
  by_cases hg : t.agg = true
  · rw [if_pos hg]
    simp only [Sem.run_bind, hs, Result.andThen_ok, Sem.run_pure]
    have e : ((pre ++ (mid ++ post)).toArray).extract off (off + t.sz) = mid.toArray := by
      rw [← hp, ← hl, List.extract_toArray, List.extract_eq_take_drop]
      simp
    rw [e]
    simp [mkV, hg]
  · have hg' : t.agg = false := by simpa using hg
    rw [if_neg hg]
    obtain ⟨v, rfl⟩ := one_cell hg' hR
    have e : ((pre ++ ([v] ++ post)).toArray)[off]? = some v := by rw [← hp]; simp
    simp only [e, Sem.run_pure, mkV, hg', Bool.false_eq_true, if_false, List.headD_cons]
def FE (P : Program) (n : Nat) : List Field → Nat → Ty → Prop
  | [], _, .unit => True
  | f :: fs, off, .pair a b => ((f.name != "_") = true) ∧ f.offset = off ∧ (∀ w, (isAgg f.type).run P w = .ok a.agg w) ∧ (∀ w, (sizeOf f.type).run P w = .ok a.sz w) ∧ TEq P n f.type a ∧ FE P n fs (off + a.sz) b
  | _, _, _ => False
theorem TEq.mono {n n' : Nat} {T : TypeId} {t : Ty} (hn : Nat.ble n n' = true) (h : TEq P n T t) : TEq P n' T t := fun w d hf x y c1 c2 F1 F2 hd h1 h2 => h w d hf x y c1 c2 F1 F2 (Nat.le_trans (Nat.le_of_ble_eq_true hn) hd) h1 h2
theorem fe_run {n d : Nat} (hd : n ≤ d) {h : Hf} (w : World) : ∀ (fs : List Field) (off : Nat) (t : Ty) (x y : t.D) (c1 c2 p1 p2 : List Value) (F1 F2 : List Nat), FE P n fs off t → Rc h t x c1 F1 → Rc h t y c2 F2 → p1.length = off → p2.length = off → (Op.eqFields d (p1 ++ c1).toArray (p2 ++ c2).toArray fs).run P w = .ok (eqT t x y) w
  | [], off, .unit, x, y, c1, c2, p1, p2, F1, F2, _, h1, h2, _, _ => by simp [Op.eqFields, Sem.run_pure, eqT]
  | f :: fs, off, .pair a b, x, y, c1, c2, p1, p2, F1, F2, hfe, h1, h2, l1, l2 => by
    obtain ⟨hn, ho, ha, hs, ht, hr⟩ := hfe
    obtain ⟨a1, b1, G1, G2, rfl, _, r1, r2⟩ := h1
    obtain ⟨a2, b2, G3, G4, rfl, _, r3, r4⟩ := h2
    have hne : f.name ≠ "_" := by simpa using hn
    have q1 := part_at (P := P) (pre := p1) (post := b1) r1 ha hs l1
    have q2 := part_at (P := P) (pre := p2) (post := b2) r3 ha hs l2
    rw [← ho] at q1 q2
    have q3 := ht w d h x.1 y.1 a1 a2 G1 G3 hd r1 r3
    have ih := fe_run hd w fs (off + a.sz) b x.2 y.2 b1 b2 (p1 ++ a1) (p2 ++ a2) G2 G4 hr r2 r4 (by rw [List.length_append, l1, Rc.len a r1]) (by rw [List.length_append, l2, Rc.len a r3])
    rw [List.append_assoc, List.append_assoc] at ih
    simp only [Op.eqFields, Sem.run_bind, q1, q2, Result.andThen_ok, q3, hne, ne_eq, not_false_eq_true, if_true, eqT]
    cases he : eqT a x.1 y.1
    · simp [Sem.run_pure]
    · simp only [Bool.not_true, Bool.false_eq_true, if_false, Bool.true_and]
      exact ih
variable {fr : Fr} {H : Hp} {dst : Option Nat} {ty : TypeId} {pos : String} {aft : Array Edge} {g : Option (Nat × Bool)}
theorem r_eq_data {op : BinOp} {T yT : TypeId} {x y : Operand} {fields : Array Field} (t : Ty) (n : Nat) {X Y : t.D} {c : Bool} (ht : P.underlying T = some (.struct fields)) (hst : P.stoodInHeld T = false) (hgd : P.eqGuardType P.depth T = false) (hfe : FE P n fields.toList 0 t) (hn : Nat.ble n 9999 = true) (hag : t.agg = true)
    (hx : evO fr x = some (.v t X)) (hy : evO fr y = some (.v t Y)) (hc : (match op with
      | .eql => some (eqT t X Y)
      | .neq => some (!eqT t X Y)
      | _ => none) = some c) : Reads P ⟨dst, .binOp op T x y yT, ty, pos, aft, g⟩ fr H (.bool c) := fun Γ n' ρ w a s => by
  obtain ⟨F1, ⟨c1, r1, e1⟩, _⟩ := s.ev hx
  obtain ⟨F2, ⟨c2, r2, e2⟩, _⟩ := s.ev hy
  have ev : ∀ l : List Value, mkV t l = .agg l.toArray := fun l => by simp [mkV, hag]
  rw [ev] at e1 e2
  have hT : P.underlying T = some (.struct (P.fieldsOf T)) := by simp [Program.fieldsOf, ht]
  have hfs : P.fieldsOf T = fields := by simp [Program.fieldsOf, ht]
  have hq : ∀ w', (Op.equalIn 10000 T (.agg c1.toArray) (.agg c2.toArray)).run P w' = .ok (eqT t X Y) w' := fun w' => by
    rw [run_equalIn_struct w' 9999 T _ _ hT hst, hfs]
    exact fe_run (Nat.le_of_ble_eq_true hn) w' fields.toList 0 t X Y c1 c2 [] [] F1 F2 hfe r1 r2 rfl rfl
  refine ⟨.bool c, rfl, fun w' _ => ?_⟩
  have hg1 : ∀ w', (eqGuard op T x y (a.eval x) (a.eval y)).run P w' = .ok () w' := fun w' => by
    rw [e1, e2]
    exact run_eqGuard_agg w' op T x y _ _ hgd
  have h3 : (Go.binOp op T (a.eval x) (a.eval y)).run P w' = .ok (.bool c) w' := by
    rw [e1, e2]
    cases op <;> simp at hc
    · subst hc
      rw [run_eql_struct, hq]; rfl
    · rw [run_neq_struct, hq]; simp [hc]
  simp only [execOp, Sem.run_bind, hg1, h3, Result.andThen_ok, Sem.run_pure]
end
/-- types that can be compared here -/
def _root_.Go.GA.Ty.cmpB : Ty → Bool
  | .int _ => true
  | .bool => true
  | .str => true
  | .arr _ (.int _) => true
  | .pair a b => Ty.cmpB a && Ty.cmpB b
  | .unit => true
  | _ => false
end Go.GA
end
section
namespace Go.GA
open Go Go.RowKit
/-- a part of a value -/
def FldP (t u : Ty) (fo : Nat) (f : t.D → u.D) : Prop := ∀ h x c F, Rc h t x c F → ∃ p m q G, c = p ++ (m ++ q) ∧ p.length = fo ∧ Rc h u (f x) m G ∧ ∀ b ∈ G, b ∈ F
theorem fld_fst {u v : Ty} : FldP (.pair u v) u 0 (fun x => x.1) := fun h x c F hc => by
  obtain ⟨c1, c2, F1, F2, rfl, rfl, r1, r2⟩ := hc
  exact ⟨[], c1, c2, F1, by simp, rfl, r1, fun b hb => List.mem_append_left _ hb⟩
theorem fld_snd {w v u : Ty} {fo fo' : Nat} {f : v.D → u.D} (hf : w.sz + fo = fo') (h2 : FldP v u fo f) : FldP (.pair w v) u fo' (fun x => f x.2) := fun h x c F hc => by
  obtain ⟨c1, c2, F1, F2, rfl, rfl, r1, r2⟩ := hc
  obtain ⟨p, m, q, G, rfl, hp, hr, hG⟩ := h2 h x.2 c2 F2 r2
  have hl := Rc.len w r1
  exact ⟨c1 ++ p, m, q, G, by simp, by rw [List.length_append]; omega, hr, fun b hb => List.mem_append_right _ (hG b hb)⟩
section
variable {P : Program} {n : Sz} {fr : Fr} {H : Hp} {dst : Option Nat} {ty : TypeId} {pos : String} {aft : Array Edge} {g : Option (Nat × Bool)}
theorem r_load_fld {T : TypeId} {x : Operand} {id i fo z : Nat} {t u : Ty} {xs : List t.D} (f : t.D → u.D) {X : t.D} {y : u.D} (ha : ∀ w, (isAgg T).run P w = .ok u.agg w) (hs : ∀ w, (sizeOf T).run P w = .ok u.sz w) (hz : t.sz = z) (hP : FldP t u fo f)
    (hx : evO fr x = some (.elem2 id 0 z i 1 fo)) (hg : hget H id = some (.row t xs)) (hi : i < xs.length) (hX : xs.getD i t.dflt = X) (hy : f X = y) :
    Reads P ⟨dst, .load T x, ty, pos, aft, g⟩ fr H (ofTy u y) := fun Γ n ρ w a s => by
  subst hz; subst hX; subst hy
  obtain ⟨b, k, hρ, e⟩ := s.ev hx
  obtain ⟨ℓ, hL, hb0⟩ := s.heap
  have he : elemsAt H id 0 = some ⟨t, xs⟩ := by simp [elemsAt, hg]
  obtain ⟨c, T', p, mid, q, F, hb, hc, hp, hm, hF⟩ := elemsAt_ok hL he hρ
  rw [split_at xs i hi t.dflt] at hm
  obtain ⟨c1, c2, c3, G, em, hc1, hR, hG⟩ := RelL.mid hm (fun x c F h => Rc.len t h)
  obtain ⟨p', m', q', G', ec, hp', hR', hG'⟩ := hP _ _ _ _ hR
  have he0 := hget_mem hg
  have hno : ∀ y ∈ G', ¬ ownB ρ H y := by
    rintro y hy (⟨e', he', k', hk'⟩ | hn)
    · have hy' := hF y (hG y (hG' y hy))
      by_cases h : e'.1 = id
      · rw [h, hρ] at hk'
        simp at hk'
        exact hy'.2 hk'.1.symm
      · exact hL.dj e' he' _ he0 h y (own_head hL he' hk') hy'.1
    · exact s.apart hb0 y hn ⟨_, he0, (hF y (hG y (hG' y hy))).1⟩
  refine ⟨mkV u m', ra_ofTy hR' hno, fun w' hk => ?_⟩
  have hlt' : (xs.take i).length = i := by rw [List.length_take]; omega
  have := run_loadVar_at (P := P) (t := u) (E := T) (w := w') (b := b) (c := c) (T := T') (z := (0, 0)) (pre := p ++ c1 ++ p') (mid := m') (post := q' ++ c3 ++ q) (kept_get hk hb) (by rw [hc, em, ec]; simp) (Rc.len u hR') agg_sz ha hs
  have hoff : (p ++ c1 ++ p').length = 0 + i * t.sz + fo * 1 := by rw [List.length_append, List.length_append, hp, hc1, hlt', hp']; omega
  rw [hoff] at this
  simp only [execOp, e, Instr.loadAt, Instr.sureAddr, Sem.run_bind, Sem.run_pure, Result.andThen_ok, this]
end
end Go.GA
end
section
namespace Go.GA
open Go Go.RowKit
section
variable {Γ : Ctx} {n : Sz} {fr : Fr} {H : Hp}
theorem row_len_q {Q : Act → World → Prop} (id : Nat) {t : Ty} {xs : List t.D} (m : Int) (hg : hget H id = some (.row t xs)) (hm : (xs.length : Int) = m) (h : m ≤ 9223372036854775807 → AQ Γ n Q fr H) : AQ Γ n Q fr H := fun ρ w a s => by
  have := row_lim s hg
  exact h (by subst hm; simp only [lim] at this; omega) ρ w a s
end
end Go.GA
end
section
namespace Go.GA
open Go Go.RowKit
theorem fld_aux {t : Ty} {h : Hf} {k : Nat} (xs : List t.D) (hk : k < xs.length) {c : List Value} {F : List Nat} (hR : RelL (Rc h t) xs c F) : ∃ p m q G, c = p ++ (m ++ q) ∧ p.length = k * t.sz ∧ Rc h t (xs.getD k t.dflt) m G ∧ ∀ b ∈ G, b ∈ F := by
  rw [split_at xs k hk t.dflt] at hR
  obtain ⟨c1, c2, c3, G, em, hc1, h1, hG⟩ := RelL.mid hR (fun x c F h => Rc.len t h)
  refine ⟨c1, c2, c3, G, em, ?_, h1, hG⟩
  rw [hc1, List.length_take, Nat.min_eq_left (by omega)]
theorem fld_arr {m k fo : Nat} {t : Ty} (hk : Nat.blt k m = true) (hz : k * t.sz = fo) : FldP (.arr m t) t fo (fun xs => List.getD (α := t.D) xs k t.dflt) := fun h xs c F hc => by
  obtain ⟨hl, hR⟩ := hc
  have hk1 : k < m := Nat.lt_of_succ_le (Nat.le_of_ble_eq_true hk)
  subst hz
  exact fld_aux (t := t) xs (by rw [hl]; exact hk1) hR
theorem fld_fst_arr {m fo : Nat} {t v : Ty} (k : Nat) (hk : Nat.blt k m = true) (hz : k * t.sz = fo) : FldP (.pair (.arr m t) v) t fo (fun x => List.getD (α := t.D) x.1 k t.dflt) := fun h x c F hc => by
  obtain ⟨c1, c2, F1, F2, rfl, rfl, r1, r2⟩ := hc
  obtain ⟨p, m, q, G, rfl, a1, a2, a3⟩ := fld_arr hk hz h _ _ _ r1
  exact ⟨p, m, q ++ c2, G, by simp, a1, a2, fun b hb => List.mem_append_left _ (a3 b hb)⟩
section
variable {P : Program} {n : Sz} {fr : Fr} {H : Hp} {dst : Option Nat} {ty : TypeId} {pos : String} {aft : Array Edge} {g : Option (Nat × Bool)}
theorem r_idxAddr_fld {T E : TypeId} {x y : Operand} {id off z j fo m : Nat} {k : IntKind} {i : Int} {fo' : Nat} (hu : P.underlying T = some (.array m E)) (hs : ∀ w, (sizeOf E).run P w = .ok 1 w)
    (hx : evO fr x = some (.elem2 id off z j 1 fo)) (hy : evO fr y = some (.int k i)) (h0 : 0 ≤ i) (h1 : i < (m : Int)) (hf : fo + i.toNat = fo') :
    Reads P ⟨dst, .indexAddr T x y, ty, pos, aft, g⟩ fr H (.elem2 id off z j 1 fo') := fun Γ n ρ w a s => by
  subst hf
  obtain ⟨b, kk, hρ, e⟩ := s.ev hx
  have hy' := s.ev hy
  simp only [RA] at hy'
  refine ⟨_, ⟨b, kk, hρ, rfl⟩, fun w' _ => ?_⟩
  simp [execOp, Instr.indexAt, e, hy', asIntOf, Sem.run_bind, run_underlying hu, Instr.sureAddr, h0, h1, hs, addr_add, Nat.add_assoc]
end
end Go.GA
end
