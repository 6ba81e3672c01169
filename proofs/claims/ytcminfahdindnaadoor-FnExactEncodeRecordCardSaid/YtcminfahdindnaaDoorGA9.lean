/- Elements of own arrays and rows; slices of them. -/
import Derived.Test.YtcminfahdindnaaDoorGA8
namespace Go.GA
open Go Go.RowKit

/-- array components: the elements' type, their number, the elements -/
def arrAt (cs : List Comp) (off : Nat) : Option (Σ t : Ty, Nat × List t.D) := match compAt cs off with
  | some (.arr t n xs) => some ⟨t, n, xs⟩
  | _ => none

section
variable {P : Program} {n : Sz} {fr : Fr} {H : Hp} {dst : Option Nat} {ty : TypeId} {pos : String} {aft : Array Edge} {g : Option (Nat × Bool)}

/-- the address of an element of an own array -/
theorem r_idxAddr_arr {T E : TypeId} {x y : Operand} {id off m sz : Nat} {k : IntKind} {i : Int} (hu : P.underlying T = some (.array m E)) (hs : ∀ w, (sizeOf E).run P w = .ok sz w)
    (hx : evO fr x = some (.ref id off)) (hy : evO fr y = some (.int k i)) (h0 : 0 ≤ i) (h1 : i < (m : Int)) :
    Reads P ⟨dst, .indexAddr T x y, ty, pos, aft, g⟩ fr H (.elem id off sz i.toNat) := fun Γ n ρ w a s => by
  obtain ⟨b, kk, hρ, e⟩ := s.ev hx
  have hy' := s.ev hy
  simp only [RA] at hy'
  refine ⟨_, ⟨b, kk, hρ, rfl⟩, fun w' _ => ?_⟩
  simp [execOp, Instr.indexAt, e, hy', asIntOf, Sem.run_bind, run_underlying hu, Instr.sureAddr, h0, h1, hs, addr_add]
/-- the address of an element of an own row -/
theorem r_idxAddr_os {T E : TypeId} {x y : Operand} {id sz : Nat} {t : Ty} {xs : List t.D} {k : IntKind} {i : Int} (hu : P.underlying T = some (.slice E)) (hs : ∀ w, (sizeOf E).run P w = .ok sz w)
    (hx : evO fr x = some (.os id)) (hg : hget H id = some (.row t xs)) (hy : evO fr y = some (.int k i)) (h0 : 0 ≤ i) (h1 : i < (xs.length : Int)) :
    Reads P ⟨dst, .indexAddr T x y, ty, pos, aft, g⟩ fr H (.elem id 0 sz i.toNat) := fun Γ n ρ w a s => by
  have hy' := s.ev hy
  simp only [RA] at hy'
  obtain ⟨ℓ, hL, _⟩ := s.heap
  obtain ⟨hl, ⟨h3, h4, _⟩ | ⟨b, cap, c, T', F, mid, post, h3, h4, h5, h6, h7, h8, h9⟩⟩ := hL.get hg
  · have : xs.length = 0 := by rw [h4]; rfl
    omega
  · rcases s.ev hx with ⟨hx', _⟩ | ⟨b', cap', len, hx', e⟩
    · rw [h3] at hx'; cases hx'
    · rw [h3] at hx'
      obtain ⟨rfl, rfl, rfl⟩ : b = b' ∧ cap = cap' ∧ List.length (α := t.D) xs = len := by simpa using hx'
      refine ⟨_, ⟨b, _, h3, rfl⟩, fun w' _ => ?_⟩
      simp [execOp, Instr.indexAt, e, hy', asIntOf, Sem.run_bind, run_underlying hu, h0, h1, hs, addr_add]
/-- an element of an element that is an array -/
theorem r_idxAddr_elem {T E : TypeId} {x y : Operand} {id off m sz sz2 j : Nat} {k : IntKind} {i : Int} (hu : P.underlying T = some (.array m E)) (hs : ∀ w, (sizeOf E).run P w = .ok sz2 w)
    (hx : evO fr x = some (.elem id off sz j)) (hy : evO fr y = some (.int k i)) (h0 : 0 ≤ i) (h1 : i < (m : Int)) :
    Reads P ⟨dst, .indexAddr T x y, ty, pos, aft, g⟩ fr H (.elem2 id off sz j sz2 i.toNat) := fun Γ n ρ w a s => by
  obtain ⟨b, kk, hρ, e⟩ := s.ev hx
  have hy' := s.ev hy
  simp only [RA] at hy'
  refine ⟨_, ⟨b, kk, hρ, rfl⟩, fun w' _ => ?_⟩
  simp [execOp, Instr.indexAt, e, hy', asIntOf, Sem.run_bind, run_underlying hu, Instr.sureAddr, h0, h1, hs, addr_add]
/-- an element of an array that is not written -/
theorem r_idxAddr_c {T E : TypeId} {x y : Operand} {m : Nat} {t : Ty} {xs : List t.D} {k : IntKind} {i : Int} (hu : P.underlying T = some (.array m E)) (hs : ∀ w, (sizeOf E).run P w = .ok t.sz w)
    (hx : evO fr x = some (.cptr (.arr m t) xs)) (hy : evO fr y = some (.int k i)) (hl : xs.length = m) (h0 : 0 ≤ i) (h1 : i < (m : Int)) :
    Reads P ⟨dst, .indexAddr T x y, ty, pos, aft, g⟩ fr H (.cptr t (xs.getD i.toNat t.dflt)) := fun Γ n ρ w a s => by
  obtain ⟨b, off, F, c, T', z, p, mid, q, e, hb, hh, hc, hp, ⟨hlen, hm⟩, hF⟩ := s.ev hx
  have hy' := s.ev hy
  simp only [RA] at hy'
  have hlt : i.toNat < xs.length := by omega
  have hs' := split_at xs i.toNat hlt t.dflt
  rw [hs'] at hm
  obtain ⟨c1, c2, c3, G, em, hc1, hR, hG⟩ := RelL.mid hm (fun x c F h => Rc.len t h)
  have hlt' : (xs.take i.toNat).length = i.toNat := by rw [List.length_take]; omega
  refine ⟨.pointer (some ⟨b, off + i.toNat * t.sz, none⟩), ⟨b, _, G, c, T', z, p ++ c1, c2, c3 ++ q, rfl, hb, hh, by rw [hc, em]; simp, by simp [hp, hc1, hlt'], hR, fun b' hb' => hF b' (hG b' hb')⟩, fun w' _ => ?_⟩
  simp [execOp, Instr.indexAt, e, hy', asIntOf, Sem.run_bind, run_underlying hu, Instr.sureAddr, h0, h1, hs, addr_add]

/-- where the elements of an own array or row lie -/
def elemsAt (H : Hp) (id off : Nat) : Option (Σ t : Ty, List t.D) := match hget H id with
  | some (.var cs) => match compAt cs off with
    | some (.arr t _ xs) => some ⟨t, xs⟩
    | _ => none
  | some (.row t xs) => match off with
    | 0 => some ⟨t, xs⟩
    | _ + 1 => none
  | none => none
theorem elemsAt_ok {ρ : Rho} {h : Hf} {ℓ : Nat → List Nat} (hL : HeapOK ρ h H ℓ) {id off : Nat} {t : Ty} {xs : List t.D} (he : elemsAt H id off = some ⟨t, xs⟩) {b k} (hρ : ρ id = some (b, k)) :
    ∃ c T p mid q F, h b = some (.cells c T (0, 0)) ∧ c.toList = p ++ (mid ++ q) ∧ p.length = off ∧ RelL (Rc h t) xs mid F ∧ (∀ x ∈ F, x ∈ ℓ id ∧ x ≠ b) := by
  unfold elemsAt at he
  split at he
  · rename_i cs hg
    split at he
    · rename_i t' m xs' hc
      simp only [Option.some.injEq, Sigma.mk.injEq] at he
      obtain ⟨rfl, he⟩ := he
      have he' := eq_of_heq he
      subst he'
      obtain ⟨b', k', c, T', F, hρ', hb, hcs, hℓ⟩ := hL.get hg
      rw [hρ] at hρ'
      obtain ⟨rfl, rfl⟩ : b = b' ∧ k = k' := by simpa using hρ'
      obtain ⟨p, m', q, F', ec, hp, ⟨c1, c2, F1, F2, em, eF, h1, h3, h4⟩, hF⟩ := comps_at hcs hc
      subst h3
      obtain rfl : m' = c1 := by simpa using em
      have hnd := hL.nd _ (hget_mem hg)
      rw [hℓ] at hnd
      refine ⟨c, T', p, m', q, F1, hb, ec, hp, h1.2, fun x hx => ?_⟩
      have : x ∈ F := hF x (by rw [eF]; exact List.mem_append_left _ hx)
      exact ⟨by rw [hℓ]; exact List.mem_cons_of_mem _ this, fun e => (List.nodup_cons.1 hnd).1 (e ▸ this)⟩
    · cases he
  · rename_i t' xs' hg
    split at he
    · simp only [Option.some.injEq, Sigma.mk.injEq] at he
      obtain ⟨rfl, he⟩ := he
      have he' := eq_of_heq he
      subst he'
      obtain ⟨hl, ⟨h3, h4, _⟩ | ⟨b', cap, c, T', F, mid, post, h3, h4, h5, h6, h7, h8, h9⟩⟩ := hL.get hg
      · rw [hρ] at h3; cases h3
      · rw [hρ] at h3
        have hb := congrArg (fun o => o.map Prod.fst) h3
        simp only [Option.map_some, Option.some.injEq] at hb
        subst hb
        have hnd := hL.nd _ (hget_mem hg)
        rw [h7] at hnd
        exact ⟨c, T', [], mid, post, F, h4, by simpa using h5, rfl, h6, fun x hx => ⟨by rw [h7]; exact List.mem_cons_of_mem _ hx, fun e => (List.nodup_cons.1 hnd).1 (e ▸ hx)⟩⟩
    · cases he
  · cases he

/-- an element is loaded -/
theorem r_load_elem {T : TypeId} {x : Operand} {id off i : Nat} {t : Ty} {xs : List t.D} (hf : t.flat = true) (ha : ∀ w, (isAgg T).run P w = .ok t.agg w) (hs : ∀ w, (sizeOf T).run P w = .ok t.sz w)
    (hx : evO fr x = some (.elem id off t.sz i)) (he : elemsAt H id off = some ⟨t, xs⟩) (hi : i < xs.length) :
    Reads P ⟨dst, .load T x, ty, pos, aft, g⟩ fr H (ofTy t (xs.getD i t.dflt)) := fun Γ n ρ w a s => by
  obtain ⟨b, k, hρ, e⟩ := s.ev hx
  obtain ⟨ℓ, hL, _⟩ := s.heap
  obtain ⟨c, T', p, mid, q, F, hb, hc, hp, hm, _⟩ := elemsAt_ok hL he hρ
  rw [split_at xs i hi t.dflt] at hm
  obtain ⟨c1, c2, c3, G, em, hc1, hR, _⟩ := RelL.mid hm (fun x c F h => Rc.len t h)
  have hG := Rc.flat t hf hR
  subst hG
  refine ⟨mkV t c2, ra_ofTy hR (by simp), fun w' hk => ?_⟩
  have hlt' : (xs.take i).length = i := by rw [List.length_take]; omega
  have := run_loadVar_at (P := P) (t := t) (E := T) (w := w') (b := b) (c := c) (T := T') (z := (0, 0)) (pre := p ++ c1) (mid := c2) (post := c3 ++ q) (kept_get hk hb) (by rw [hc, em]; simp) (Rc.len t hR) agg_sz ha hs
  have hoff : (p ++ c1).length = off + i * t.sz := by rw [List.length_append, hp, hc1, hlt']
  rw [hoff] at this
  simp only [execOp, e, Instr.loadAt, Instr.sureAddr, Sem.run_bind, Sem.run_pure, Result.andThen_ok, this]

/-- an element of an own row of slices: it is read while it is not written -/
theorem r_load_elemv {T : TypeId} {x : Operand} {id off i : Nat} {t : Ty} {xs : List t.D} (ha : ∀ w, (isAgg T).run P w = .ok t.agg w) (hs : ∀ w, (sizeOf T).run P w = .ok t.sz w)
    (hx : evO fr x = some (.elem id off t.sz i)) (he : elemsAt H id off = some ⟨t, xs⟩) (hi : i < xs.length) :
    Reads P ⟨dst, .load T x, ty, pos, aft, g⟩ fr H (ofTy t (xs.getD i t.dflt)) := fun Γ n ρ w a s => by
  obtain ⟨b, k, hρ, e⟩ := s.ev hx
  obtain ⟨ℓ, hL, hb0⟩ := s.heap
  obtain ⟨c, T', p, mid, q, F, hb, hc, hp, hm, hF⟩ := elemsAt_ok hL he hρ
  rw [split_at xs i hi t.dflt] at hm
  obtain ⟨c1, c2, c3, G, em, hc1, hR, hG⟩ := RelL.mid hm (fun x c F h => Rc.len t h)
  have hid : ∃ e ∈ H, e.1 = id := by
    unfold elemsAt at he
    split at he
    · rename_i cs hg; exact ⟨_, hget_mem hg, rfl⟩
    · rename_i t' xs' hg; exact ⟨_, hget_mem hg, rfl⟩
    · cases he
  obtain ⟨e0, he0, rfl⟩ := hid
  have hno : ∀ y ∈ G, ¬ ownB ρ H y := by
    rintro y hy (⟨e', he', k', hk'⟩ | hn)
    · have hy' := hF y (hG y hy)
      by_cases h : e'.1 = e0.1
      · rw [h, hρ] at hk'
        simp at hk'
        exact hy'.2 hk'.1.symm
      · exact hL.dj e' he' e0 he0 h y (own_head hL he' hk') hy'.1
    · exact s.apart hb0 y hn ⟨e0, he0, (hF y (hG y hy)).1⟩
  refine ⟨mkV t c2, ra_ofTy hR hno, fun w' hk => ?_⟩
  have hlt' : (xs.take i).length = i := by rw [List.length_take]; omega
  have := run_loadVar_at (P := P) (t := t) (E := T) (w := w') (b := b) (c := c) (T := T') (z := (0, 0)) (pre := p ++ c1) (mid := c2) (post := c3 ++ q) (kept_get hk hb) (by rw [hc, em]; simp) (Rc.len t hR) agg_sz ha hs
  have hoff : (p ++ c1).length = off + i * t.sz := by rw [List.length_append, hp, hc1, hlt']
  rw [hoff] at this
  simp only [execOp, e, Instr.loadAt, Instr.sureAddr, Sem.run_bind, Sem.run_pure, Result.andThen_ok, this]

/-- the entry with other elements -/
def compsSet : List Comp → Nat → (t : Ty) → List t.D → List Comp
  | [], _, _, _ => []
  | .arr t' m xs' :: cs, 0, t, xs => .arr t m xs :: cs
  | .cell a :: cs, 0, _, _ => .cell a :: cs
  | c :: cs, o + 1, t, xs => c :: compsSet cs (o + 1 - c.sz) t xs
def blkSet : Blk → Nat → (t : Ty) → List t.D → Blk
  | .var cs, off, t, xs => .var (compsSet cs off t xs)
  | .row _ _, _, t, xs => .row t xs
theorem compsSet_ok {ρ : Rho} {h h' : Hf} {M : Nat → Prop} {t : Ty} {m : Nat} {xs ys : List t.D} (hl : ys.length = xs.length) : ∀ {cs : List Comp} {off : Nat} {vs F} {p mid q : List Value} {ns : List Value}, RComps ρ h M cs vs F → compAt cs off = some (.arr t m xs) →
    vs = p ++ (mid ++ q) → p.length = off → mid.length = ns.length → RelL (Rc h' t) ys ns [] → t.flat = true → (∀ b, ¬ M b → h b ≠ none → h' b = h b ∧ ¬ M b) → (∀ b ∈ F, h' b = h b) → RComps ρ h' M (compsSet cs off t ys) (p ++ (ns ++ q)) F
  | c :: cs, off, vs, F, p, mid, q, ns, hr, hc, hv, hp, hml, hn, hf, hm, hF => by
    cases off with
    | zero =>
      simp only [compAt, Option.some.injEq] at hc
      subst hc
      obtain ⟨c1, c2, F1, F2, e, eF, h1, h2⟩ := hr
      have hp0 : p = [] := List.eq_nil_of_length_eq_zero hp
      subst hp0
      have l1 : c1.length = mid.length := by
        rw [Rc.len _ h1, hml, RelL.len (fun x c F h => Rc.len t h) hn, hl, h1.1]; rfl
      have hF1 : F1 = [] := Rc.flat (.arr m t) hf h1
      subst hF1
      rw [hv] at e
      simp only [List.nil_append] at e
      obtain ⟨rfl, rfl⟩ := List.append_inj e.symm l1
      simp only [compsSet, List.nil_append] at eF ⊢
      subst eF
      exact ⟨ns, _, [], _, rfl, rfl, ⟨by rw [hl]; exact h1.1, hn⟩, h2.same (fun _ _ => rfl) hm hF⟩
    | succ o =>
      simp only [compAt] at hc
      cases hb : Nat.ble c.sz (o + 1) with
      | false => rw [hb] at hc; cases hc
      | true =>
        have hle := Nat.le_of_ble_eq_true hb
        rw [hb] at hc
        simp only [cond_true] at hc
        obtain ⟨v1, v2, F1, F2, e1, e2, h1, h2⟩ := RComps.split (cs := [c]) hr
        have hl1 : v1.length = c.sz := by rw [h1.len]; simp [compsSz]
        subst e1; subst e2
        -- v1 is a part of p
        have hpl : v1.length ≤ p.length := by omega
        have hp' : p = v1 ++ p.drop v1.length := by
          have := congrArg (List.take v1.length) hv
          rw [List.take_left, List.take_append_of_le_length hpl] at this
          conv => lhs; rw [← List.take_append_drop v1.length p]
          rw [← this]
        have hv2 : v2 = p.drop v1.length ++ (mid ++ q) := by
          have := congrArg (List.drop v1.length) hv
          rwa [List.drop_left, List.drop_append_of_le_length hpl] at this
        have ih := compsSet_ok hl (p := p.drop v1.length) h2 hc hv2 (by rw [List.length_drop]; omega) hml hn hf hm (fun b hb => hF b (List.mem_append_right _ hb))
        have h3 := RComps.append (h1.same (fun _ _ => rfl) hm (fun b hb => hF b (List.mem_append_left _ hb))) ih
        have e3 : compsSet (c :: cs) (o + 1) t ys = [c] ++ compsSet cs (o + 1 - c.sz) t ys := by cases c <;> rfl
        rw [e3, hp']
        simpa [List.append_assoc] using h3

/-- an element is stored -/
theorem e_store_elem {T : TypeId} {x y : Operand} {id off i : Nat} {t : Ty} {xs : List t.D} {e : t.D} {B : Blk} (hf : t.flat = true) (hs : ∀ w, (sizeOf T).run P w = .ok t.sz w)
    (hx : evO fr x = some (.elem id off t.sz i)) (hy : evO fr y = some (ofTy t e)) (hg : hget H id = some B) (he : elemsAt H id off = some ⟨t, xs⟩) (hi : i < xs.length) :
    EffS P n ⟨none, .store T x y, ty, pos, aft, g⟩ fr H fr (hset H id (blkSet B off t (xs.set i e))) := fun Γ ρ w a s => by
  obtain ⟨b, k, hρ, ex⟩ := s.ev hx
  have hv := s.ev hy
  obtain ⟨ℓ, hL, _⟩ := s.heap
  -- the cells of the new element
  have hcells : ∃ ns, (a.eval y).cells.toList = ns ∧ ∀ h', Rc h' t e ns [] := by
    have key : ∀ (u : Value), RA ρ (World.hf w) (ownB ρ H) (ofTy t e) u → ∃ ns, u.cells.toList = ns ∧ ∀ h', Rc h' t e ns [] := by
      intro u hu
      have h2 : ∃ cs F, Rc (World.hf w) t e cs F ∧ u = mkV t cs := by
        cases t with
        | int k => simp only [ofTy, RA] at hu; subst hu; exact ⟨[_], [], ⟨rfl, rfl⟩, rfl⟩
        | bool => simp only [ofTy, RA] at hu; subst hu; exact ⟨[_], [], ⟨rfl, rfl⟩, rfl⟩
        | str => simp only [ofTy, RA] at hu; subst hu; exact ⟨[_], [], ⟨rfl, rfl⟩, rfl⟩
        | arr n t => obtain ⟨F, ⟨cs, h1, e⟩, _⟩ := hu; exact ⟨cs, F, h1, e⟩
        | slice t => obtain ⟨F, ⟨cs, h1, e⟩, _⟩ := hu; exact ⟨cs, F, h1, e⟩
        | unit => obtain ⟨F, ⟨cs, h1, e⟩, _⟩ := hu; exact ⟨cs, F, h1, e⟩
        | pair p q => obtain ⟨F, ⟨cs, h1, e⟩, _⟩ := hu; exact ⟨cs, F, h1, e⟩
      obtain ⟨cs, F, h1, rfl⟩ := h2
      have hF := Rc.flat t hf h1
      subst hF
      refine ⟨cs, ?_, fun h' => h1.same t (by simp)⟩
      cases hagg : t.agg with
      | true => simp [mkV, hagg, Value.cells]
      | false =>
        obtain ⟨u, rfl⟩ := one_cell hagg h1
        have h3 := Rc.one t h1 u (by simp)
        simp only [mkV, hagg, Bool.false_eq_true, if_false, List.headD_cons]
        cases u <;> simp [Value.oneCell'] at h3 <;> rfl
    exact key _ hv
  obtain ⟨ns, hns, hR⟩ := hcells
  have hnl : ns.length = t.sz := Rc.len t (hR (World.hf w))
  obtain ⟨c, T', p, mid, q, F, hb, hc, hp, hm, _⟩ := elemsAt_ok hL he hρ
  have hFn : F = [] := RelL.flat (fun x c F h => Rc.flat t hf h) hm
  subst hFn
  have hset := RelL.set (R' := Rc (World.hf w) t) hi hm (fun x c F h => Rc.len t h) (fun x c F h => Rc.flat t hf h) (fun _ _ h => h) (hR (World.hf w)) hnl
  have hclen : c.size = p.length + (mid.length + q.length) := by rw [← Array.length_toList, hc]; simp
  have h1 := hset.1
  have hrun := run_storeVar (P := P) (T := T) (v := a.eval y) (ns := ns) (b := b) (off := off + i * t.sz) (c := c) (T' := T') (w := w) (by rw [hnl]; exact hs) hns hb (by omega) (fun u hu => Rc.one t (hR (World.hf w)) u hu)
  have hcl : c.toList.take (off + i * t.sz) ++ ns ++ c.toList.drop (off + i * t.sz + ns.length) = p ++ ((mid.take (i * t.sz) ++ ns ++ mid.drop (i * t.sz + ns.length)) ++ q) := by
    have hle1 : i * t.sz ≤ mid.length := by omega
    have hle2 : i * t.sz + ns.length ≤ mid.length := h1
    rw [hc, ← hp, List.take_length_add_append, List.take_append_of_le_length hle1, Nat.add_assoc, List.drop_length_add_append, List.drop_append_of_le_length hle2]
    simp
  refine ⟨w.setRow b (c.toList.take (off + i * t.sz) ++ ns ++ c.toList.drop (off + i * t.sz + ns.length)).toArray, ρ, ?_, s.write hg hρ hb (fun ℓ' h' hk' hb' hne hM => ?_)⟩
  · simp only [execOp, Instr.storeAt, ex, Instr.sureAddr, Sem.run_bind, Sem.run_pure, Result.andThen_ok, hrun]
  · have hset' := RelL.set (R' := Rc h' t) hi hm (fun x c F h => Rc.len t h) (fun x c F h => Rc.flat t hf h) (fun x c hx => hx.same t (by simp)) (hR h') hnl
    have hnew := hset'.2
    have hlset : (mid.take (i * t.sz) ++ ns ++ mid.drop (i * t.sz + ns.length)).length = mid.length := by
      simp only [List.length_append, List.length_take, List.length_drop]; omega
    rw [hcl] at hb'
    unfold elemsAt at he
    rw [hg] at he
    cases B with
    | var cs =>
      simp only at he
      split at he
      · rename_i t' m xs' hca
        simp only [Option.some.injEq, Sigma.mk.injEq] at he
        obtain ⟨rfl, he⟩ := he
        have he' := eq_of_heq he
        subst he'
        obtain ⟨b2, k2, c2, T2, F2, h3, h4, h5, h6⟩ := hk'.get hg
        rw [hρ] at h3
        obtain ⟨rfl, rfl⟩ : b = b2 ∧ k = k2 := by simpa using h3
        rw [show World.hf w b = some (.cells c T' (0, 0)) from hb] at h4
        simp only [Option.some.injEq, Obj.cells.injEq] at h4
        obtain ⟨rfl, rfl, _⟩ := h4
        have hnd2 : (b :: F2).Nodup := by have := hk'.nd _ (hget_mem hg); rw [h6] at this; exact this
        have hFne : ∀ x ∈ F2, x ≠ b := fun x hx e => (List.nodup_cons.1 hnd2).1 (e ▸ hx)
        refine ⟨b :: F2, ⟨b, k, _, T', F2, hρ, hb', ?_, rfl⟩, hnd2, fun x hx => by rw [h6]; exact hx⟩
        have := compsSet_ok (h' := h') (ys := xs'.set i e) (by simp) h5 hca hc hp hlset.symm hnew hf hM (fun x hx => hne x (hFne x hx))
        simpa using this
      · cases he
    | row t' xs' =>
      simp only at he
      split at he
      · simp only [Option.some.injEq, Sigma.mk.injEq] at he
        obtain ⟨rfl, he⟩ := he
        have he' := eq_of_heq he
        subst he'
        obtain ⟨hl, ⟨h3, h4, _⟩ | ⟨b2, cap, c2, T2, F2, mid2, post, h3, h4, h5, h6, h7, h8, h9⟩⟩ := hk'.get hg
        · rw [hρ] at h3; cases h3
        · rw [hρ] at h3
          obtain ⟨rfl, rfl⟩ : b = b2 ∧ k = (cap, _) := by simpa using h3
          rw [show World.hf w b = some (.cells c T' (0, 0)) from hb] at h4
          simp only [Option.some.injEq, Obj.cells.injEq] at h4
          obtain ⟨rfl, rfl, _⟩ := h4
          have hF2 : F2 = [] := RelL.flat (fun x c F h => Rc.flat t' hf h) h6
          subst hF2
          have hp0 : p = [] := List.eq_nil_of_length_eq_zero hp
          subst hp0
          refine ⟨[b], ⟨by simpa using hl, .inr ⟨b, cap, _, T', [], _, q, by simpa using hρ, hb', rfl, hnew, rfl, by simpa using h8, ?_⟩⟩, by simp, fun x hx => by rw [h7]; exact hx⟩
          rw [← h9, hclen]
          simp only [List.size_toArray, List.length_append, List.length_nil, Nat.zero_add]
          simp only [List.length_take, List.length_drop, List.length_append] at hlset ⊢
          omega
      · cases he
end
end Go.GA
