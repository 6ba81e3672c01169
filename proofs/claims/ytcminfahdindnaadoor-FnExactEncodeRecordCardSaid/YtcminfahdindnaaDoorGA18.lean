/- Open orders in which memory is made: the orders are gone through. -/
import Derived.Test.YtcminfahdindnaaDoorGA17
namespace Go.GA
open Go Go.RowKit
section
variable {P : Program} {Γ : Ctx} {n : Sz} {Q : Exit → Act → World → Prop} {fr fr' : Fr} {H H' : Hp} {all : Array Oper} {ty : TypeId} {pos : String} {aft : Array Edge} {op : Op}

def FreshN (ρ : Rho) (H : Hp) (base : Nat) (w0 : World) : Prop := ∀ e ∈ H, base ≤ e.1 → ∀ b k, ρ e.1 = some (b, k) → w0.heap.size ≤ b
/-- in the midst of a region: names from base on were made in it -/
def AX (P : Program) (Γ : Ctx) (n : Sz) (all : Array Oper) (Q : Exit → Act → World → Prop) (m : Nat) (T : Act → World → Prop) (base : Nat) (f : Nat) (listed : Array Bool) (fr : Fr) (H : Hp) : Prop :=
  ∀ ρ w a w0, SIM Γ n ρ w a fr H → Kept w0 w → FreshN ρ H base w0 → wpAK P all Q m T w0 f listed a w
def AXO (P : Program) (Γ : Ctx) (n : Sz) (all : Array Oper) (Q : Exit → Act → World → Prop) (m : Nat) (T : Act → World → Prop) (base : Nat) (f : Nat) (listed : Array Bool) (fr : Fr) (H : Hp) (i : Nat) : Prop :=
  ∀ ρ w a w0, SIM Γ n ρ w a fr H → Kept w0 w → FreshN ρ H base w0 → Go.wpOp P all Q i (fun a' w'' => Kept w0 w'' ∧ wpAK P all Q m T w0 f (listed.setIfInBounds i true) a' w'') a w
def AXL (P : Program) (Γ : Ctx) (n : Sz) (all : Array Oper) (Q : Exit → Act → World → Prop) (m : Nat) (T : Act → World → Prop) (base : Nat) (f : Nat) (listed : Array Bool) (fr : Fr) (H : Hp) : List Nat → Prop
  | [] => True
  | i :: l => AXO P Γ n all Q m T base f listed fr H i ∧ AXL P Γ n all Q m T base f listed fr H l
variable {m f base : Nat} {T : Act → World → Prop} {listed : Array Bool}
theorem axl_mem : ∀ {l : List Nat} {i : Nat}, AXL P Γ n all Q m T base f listed fr H l → i ∈ l → AXO P Γ n all Q m T base f listed fr H i
  | j :: l, i, h, hi => by
    rcases List.mem_cons.1 hi with rfl | hi
    · exact h.1
    · exact axl_mem h.2 hi
theorem an_explore (base : Nat) (hH : allLt base (hkeys H) = true) (h : AX P Γ n all Q m T base f listed fr H) : AN P Γ n all Q m T f listed fr H := fun ρ w a s => h ρ w a w s (Kept.refl w) (fun e he hb b k _ => by
  have := allLt_lt hH e.1 (by rw [hkeys_eq]; exact List.mem_map_of_mem he)
  omega)
def altsB (all : Array Oper) (listed : Array Bool) (m : Nat) (l : List Nat) : Bool := ((Region.ready .any all listed).filter (Nat.blt · m)) == l && !l.isEmpty
theorem ax_all (l : List Nat) (hl : altsB all listed m l = true) (h : AXL P Γ n all Q m T base f listed fr H l) : AX P Γ n all Q m T base (f + 1) listed fr H := fun ρ w a w0 s hk hf w' hk' => by
  simp only [altsB, Bool.and_eq_true, beq_iff_eq] at hl
  have hmem : ∀ i, i ∈ Region.ready .any all listed → i < m → i ∈ l := fun i hi him => by
    rw [← hl.1]; exact List.mem_filter.2 ⟨hi, by simpa using him⟩
  constructor
  · cases l with
    | nil => simp at hl
    | cons j l =>
      have : j ∈ (Region.ready .any all listed).filter (Nat.blt · m) := by rw [hl.1]; simp
      obtain ⟨h1, h2⟩ := List.mem_filter.1 this
      exact ⟨j, h1, by simpa using h2⟩
  · intro i hi him
    exact axl_mem h (hmem i hi him) ρ w' a w0 (s.kept hk') (hk.trans hk') hf
theorem ax_done (hl : allB m listed = true) (h : AQ Γ n T fr H) : AX P Γ n all Q m T base 0 listed fr H := fun ρ w a w0 s _ _ =>
  ⟨fun j hj => by have := List.all_eq_true.1 hl j (List.mem_range.2 hj); exact this, fun w' hk => h ρ w' a (s.kept hk)⟩
theorem ax_tail {l rest : List Oper} (hl : allB m listed = true) (hr : l.drop m = rest) (h : AO P Γ n l.toArray Q rest fr H) : AX P Γ n l.toArray Q m (fun a w => wpList P l.toArray Q (l.drop m) a w) base 0 listed fr H :=
  ax_done hl (fun ρ w a s => by rw [hr]; exact h ρ w a s)
theorem AX.sub (hs : Sub n fr H fr' H') (hb : ∀ ρ : Rho, True) (h : AQ Γ n T fr' H') (hl : allB m listed = true) : AX P Γ n all Q m T base 0 listed fr H := ax_done hl (h.sub hs)

theorem axo_stable (i : Nat) {o : Oper} {d : Nat} {x : AV} (hi : all[i]? = some o) (hod : o.dst = some d) (hd : Nat.blt d n.n = true)
    (hst : ∀ ρ w a, SIM Γ n ρ w a fr H → ∃ v, RA ρ (World.hf w) (ownB ρ H) x v ∧ Stable P all o v a w)
    (h : AX P Γ n all Q m T base f (listed.setIfInBounds i true) ((d, x) :: fr) H) : AXO P Γ n all Q m T base f listed fr H i := fun ρ w a w0 s hk hf => by
  obtain ⟨v, hv, hs⟩ := hst ρ w a s
  refine hs.wpOp hi (fun w' hk' => ⟨hk.trans hk', ?_⟩)
  have s' := (s.kept hk').put hd (hv.same x (fun _ _ => rfl) (fun b hb hb' => ⟨hk'.block b (hf_lt hb') (fun h => h), hb⟩))
  have := h ρ w' (a.put (some d) v) w0 s' (hk.trans hk') hf
  rwa [← hod] at this
theorem axo_read (i : Nat) {d : Nat} {g : Option (Nat × Bool)} {x : AV} (hi : all[i]? = some ⟨some d, op, ty, pos, aft, g⟩) (hg : gOK all fr g)
    (hr : Reads P ⟨some d, op, ty, pos, aft, g⟩ fr H x) (hd : Nat.blt d n.n = true) (h : AX P Γ n all Q m T base f (listed.setIfInBounds i true) ((d, x) :: fr) H) : AXO P Γ n all Q m T base f listed fr H i :=
  axo_stable i hi rfl hd (fun ρ w a s => stable_of_reads s hg hr) h
theorem axo_scall [hLS : LaidS P Γ] (i : Nat) {d : Nat} {g : Option (Nat × Bool)} {x : AV} (hi : all[i]? = some ⟨some d, op, ty, pos, aft, g⟩) (hg : gOK all fr g)
    (hr : SCall P ⟨some d, op, ty, pos, aft, g⟩ fr H x) (hd : Nat.blt d n.n = true) (h : AX P Γ n all Q m T base f (listed.setIfInBounds i true) ((d, x) :: fr) H) : AXO P Γ n all Q m T base f listed fr H i :=
  axo_stable i hi rfl hd (fun ρ w a s => by
    obtain ⟨v, hv, hrun⟩ := hr Γ hLS n ρ w a s
    exact ⟨v, hv, .inl ⟨s.wanted hg, fun w' hk => .inr (hrun w' hk)⟩⟩) h
/-- names that are taken away were made in the region -/
def takenB (base : Nat) (H H' : Hp) : Bool := H.all fun e => memB e.1 (hkeys H') || Nat.ble base e.1
theorem axo_grew {ρ ρ' : Rho} {w w' w0 : World} (hk : Kept w0 w) (hf : FreshN ρ H base w0) (hg : Grew ρ ρ' w w' H H') (ht : takenB base H H' = true) : Kept w0 w' ∧ FreshN ρ' H' base w0 := by
  have hrem : ∀ e ∈ H, (∀ e' ∈ H', e'.1 ≠ e.1) → base ≤ e.1 := fun e he hne => by
    have := List.all_eq_true.1 ht e he
    simp only [Bool.or_eq_true] at this
    rcases this with h | h
    · have h2 := memB_true h
      rw [hkeys_eq] at h2
      obtain ⟨e', he', h3⟩ := List.mem_map.1 h2
      exact absurd h3 (hne e' he')
    · simpa using h
  constructor
  · refine ⟨hg.os.trans hk.os, hg.tape.trans hk.tape, hg.out.trans hk.output, Nat.le_trans hk.size hg.size, fun b hb hn => ?_⟩
    rw [← hk.block b hb hn]
    refine hg.blk b (Nat.lt_of_lt_of_le hb hk.size) (fun e he hne k hbk => ?_)
    have := hf e he (hrem e he hne) b k hbk
    omega
  · intro e' he' hb b k hbk
    rcases hg.own e' he' b k hbk with ⟨e, he, h1, h2⟩ | ⟨e, he, h1, k', h2⟩ | h
    · exact hf e he (by omega) b k h2
    · exact hf e he (hrem e he h1) b k' h2
    · have := hk.size; omega
theorem axo_eff (i : Nat) {d : Nat} {g : Option (Nat × Bool)} {x : AV} (hi : all[i]? = some ⟨some d, op, ty, pos, aft, g⟩) (hg : gOK all fr g) (he : Eff P n ⟨some d, op, ty, pos, aft, g⟩ fr H x fr' H') (ht : takenB base H H' = true) (hd : Nat.blt d n.n = true)
    (h : AX P Γ n all Q m T base f (listed.setIfInBounds i true) ((d, x) :: fr') H') : AXO P Γ n all Q m T base f listed fr H i := fun ρ w a w0 s hk hf => by
  obtain ⟨v, w', ρ', hrun, ⟨s', hgr⟩, hv⟩ := he Γ ρ w a s
  obtain ⟨hk', hf'⟩ := axo_grew hk hf hgr ht
  unfold Go.wpOp
  simp only [hi, s.wanted (o := ⟨some d, op, ty, pos, aft, g⟩) hg, if_true]
  refine .inl ?_
  unfold Oper.wp
  rw [hrun]
  exact ⟨hk', h ρ' w' _ w0 (s'.put hd hv) hk' hf'⟩
end
end Go.GA
namespace Go.GA
open Go Go.RowKit
section
variable {P : Program} {Γ : Ctx} {n : Sz} {Q : Exit → Act → World → Prop} {fr fr' : Fr} {H H' : Hp} {all : Array Oper} {ty : TypeId} {pos : String} {aft : Array Edge} {op : Op}
variable {m f base : Nat} {T : Act → World → Prop} {listed : Array Bool}
/-- a call that makes memory: its rows get the names nb, nb + 1, .. -/
theorem axo_call [LaidS P Γ] (i : Nat) (nb : Nat) {g : Option (Nat × Bool)} {d : Nat} {fi : FuncId} {fn : Func} {fo : Operand} {as : List Operand} {tys : Array TypeId} {caps xs ys : List AV} {R : AV → Hp → Prop} (hi : all[i]? = some ⟨some d, .call ⟨.value fo, as.toArray, tys⟩, ty, pos, aft, g⟩) (hg : gOK all fr g) (hc : ACalls P fi ys [] R)
    (hf : P.funcs[fi]? = some fn) (hbody : fn.body.isNone = false) (hname : (fn.name == "runtime.NumGoroutine") = false)
    (hfo : evO fr fo = some (.fn fi caps)) (hxs : evOs fr as = some xs) (hA : Ads H [] (sg [] nb) (xs ++ caps) ys)
    (hfr : allLt nb (Fr.ids fr) = true) (hH : allLt nb (Hp.ids H) = true) (hK : Nat.ble n.K nb = true) (hd : Nat.blt d n.n = true)
    (h : ∀ r H', R r H' → AX P Γ n all Q m T base f (listed.setIfInBounds i true) ((d, r.ren (sg [] nb)) :: fr) (hdel [] H ++ hren (sg [] nb) H')) : AXO P Γ n all Q m T base f listed fr H i := fun ρ w a w0 s hk hfn => by
  obtain ⟨cv, hcv, hcaps⟩ := s.ev hfo
  unfold Go.wpOp
  simp only [hi, s.wanted (o := ⟨some d, .call ⟨.value fo, as.toArray, tys⟩, ty, pos, aft, g⟩) hg, if_true]
  refine .inl ?_
  unfold Oper.wp
  rw [run_callv rfl hcv hf hbody hname w, Oper.upon_enter]
  refine (call_sim hc [] nb s (evOs_append (evOs_ok (fun o y h => s.ev h) hxs) hcaps) hA trivial rfl rfl rfl hfr hH hK).mono ?_
  rintro e w' ⟨v, r, H', ρ', rfl, hR, s', hv, hgr⟩
  have ht : takenB base H (hdel [] H ++ hren (sg [] nb) H') = true := by
    refine List.all_eq_true.2 (fun e he => ?_)
    rw [Bool.or_eq_true]
    left
    cases hb : memB e.1 (hkeys (hdel [] H ++ hren (sg [] nb) H')) with
    | true => rfl
    | false =>
      have := memB_false hb
      rw [hkeys_eq, List.map_append, hdel_nil] at this
      exact absurd (List.mem_append_left _ (List.mem_map_of_mem he)) this
  obtain ⟨hk', hf'⟩ := axo_grew hk hfn (hgr rfl) ht
  exact ⟨hk', h r H' hR ρ' w' _ w0 (s'.put hd hv) hk' hf'⟩
end
end Go.GA
namespace Go.GA
open Go Go.RowKit
section
variable {P : Program} {Γ : Ctx} {n : Sz} {Q : Exit → Act → World → Prop} {fr fr' : Fr} {H H' : Hp} {all : Array Oper} {ty : TypeId} {pos : String} {aft : Array Edge} {op : Op}
variable {m f base : Nat} {T : Act → World → Prop} {listed : Array Bool}
theorem axo_readG (i : Nat) {d j s : Nat} {want g : Bool} {x : AV} (hi : all[i]? = some ⟨some d, op, ty, pos, aft, some (j, want)⟩) (hj : (all[j]?).bind (·.dst) = some s) (hg : GV fr s want g) (hr : g = true → Reads P ⟨some d, op, ty, pos, aft, some (j, want)⟩ fr H x) (hd : Nat.blt d n.n = true)
    (h : AX P Γ n all Q m T base f (listed.setIfInBounds i true) ((d, .gd g x) :: fr) H) : AXO P Γ n all Q m T base f listed fr H i :=
  axo_stable i hi rfl hd (fun ρ w a sm => by
    have hw := sm.wantedG (o := ⟨some d, op, ty, pos, aft, some (j, want)⟩) rfl hj hg
    cases hgb : g with
    | true =>
      obtain ⟨v, hv, hrun⟩ := hr hgb Γ n ρ w a sm
      exact ⟨v, by simpa [RA] using hv, .inl ⟨by rw [hw, hgb], fun w' hk => .inl (hrun w' hk)⟩⟩
    | false => exact ⟨undef, by simp [RA], .inr ⟨by rw [hw, hgb], rfl⟩⟩) h
theorem axo_scallG [hLS : LaidS P Γ] (i : Nat) {d j s : Nat} {want g : Bool} {x : AV} (hi : all[i]? = some ⟨some d, op, ty, pos, aft, some (j, want)⟩) (hj : (all[j]?).bind (·.dst) = some s) (hg : GV fr s want g) (hr : g = true → SCall P ⟨some d, op, ty, pos, aft, some (j, want)⟩ fr H x) (hd : Nat.blt d n.n = true)
    (h : AX P Γ n all Q m T base f (listed.setIfInBounds i true) ((d, .gd g x) :: fr) H) : AXO P Γ n all Q m T base f listed fr H i :=
  axo_stable i hi rfl hd (fun ρ w a sm => by
    have hw := sm.wantedG (o := ⟨some d, op, ty, pos, aft, some (j, want)⟩) rfl hj hg
    cases hgb : g with
    | true =>
      obtain ⟨v, hv, hrun⟩ := hr hgb Γ hLS n ρ w a sm
      exact ⟨v, by simpa [RA] using hv, .inl ⟨by rw [hw, hgb], fun w' hk => .inr (hrun w' hk)⟩⟩
    | false => exact ⟨undef, by simp [RA], .inr ⟨by rw [hw, hgb], rfl⟩⟩) h
/-- the orders all lead to one state -/
theorem an_to (fr' : Fr) (H' : Hp) (key : AQ Γ n T fr' H') (h : AQ Γ n T fr' H' → AN P Γ n all Q m T f listed fr H) : AN P Γ n all Q m T f listed fr H := h key
theorem aq_tail {l rest : List Oper} (hr : l.drop m = rest) (h : AO P Γ n l.toArray Q rest fr H) : AQ Γ n (fun a w => wpList P l.toArray Q (l.drop m) a w) fr H := fun ρ w a s => by rw [hr]; exact h ρ w a s
end
end Go.GA
namespace Go.GA
open Go Go.RowKit
theorem nk1 {n : Sz} {σ : Nat → Nat} (h : n.K = 1) (h0 : σ 0 = 0) : ∀ i, i < n.K → σ i = i := fun i hi => by
  obtain rfl : i = 0 := by omega
  exact h0
theorem nk2 {n : Sz} {σ : Nat → Nat} (h : n.K = 2) (h0 : σ 0 = 0) (h1 : σ 1 = 1) : ∀ i, i < n.K → σ i = i := fun i hi => by
  rcases (show i = 0 ∨ i = 1 by omega) with rfl | rfl
  · exact h0
  · exact h1
section
variable {H H' : Hp} {σ : Nat → Nat}
theorem names_ne {id : Nat} (hn : memB id ((hkeys H').map σ) = false) : ∀ e' ∈ H', σ e'.1 ≠ id := fun e' he' hh => memB_false hn (by rw [← hh, hkeys_eq, List.map_map]; exact List.mem_map.2 ⟨e', he', rfl⟩)
theorem ad_osB {id : Nat} {t : Ty} {xs : List t.D} (hg : hget H id = some (.row t xs)) (hn : memB id ((hkeys H').map σ) = false) : Ad H H' σ (.os id) (.v (.slice t) xs) := ad_os hg (names_ne hn)
theorem ad_refB {id off : Nat} {t : Ty} {x : t.D} {cs : List Comp} (hg : hget H id = some (.var cs)) (hc : compAt cs off = some (.cell (ofTy t x))) (ha : t.agg = false) (hn : memB id ((hkeys H').map σ) = false) : Ad H H' σ (.ref id off) (.cptr t x) := ad_ref hg hc ha (names_ne hn)
theorem ad_refaB {id off m : Nat} {t : Ty} {xs : List t.D} {cs : List Comp} (hf : t.flat = true) (hg : hget H id = some (.var cs)) (hc : compAt cs off = some (.arr t m xs)) (hn : memB id ((hkeys H').map σ) = false) : Ad H H' σ (.ref id off) (.cptr (.arr m t) xs) := ad_refa hf hg hc (names_ne hn)
end
end Go.GA
namespace Go.GA
open Go Go.RowKit
section
variable {P : Program} {Γ : Ctx} {n : Sz} {Q : Exit → Act → World → Prop} {fr : Fr} {H : Hp}
theorem row_lim {ρ : Rho} {w : World} {a : Act} (s : SIM Γ n ρ w a fr H) {id : Nat} {t : Ty} {xs : List t.D} (hg : hget H id = some (.row t xs)) : xs.length ≤ lim := by
  obtain ⟨ℓ, hL, _⟩ := s.heap
  exact (hL.get hg).1
theorem row_len_m {c : Code} (id : Nat) {t : Ty} {xs : List t.D} (m : Int) (hg : hget H id = some (.row t xs)) (hm : (xs.length : Int) = m) (h : m ≤ 9223372036854775807 → AW P Γ n c Q fr H) : AW P Γ n c Q fr H := fun ρ w a s => by
  have := row_lim s hg
  exact h (by subst hm; simp only [lim] at this; omega) ρ w a s
theorem row_len_o {all : Array Oper} {ops : List Oper} (id : Nat) {t : Ty} {xs : List t.D} (m : Int) (hg : hget H id = some (.row t xs)) (hm : (xs.length : Int) = m) (h : m ≤ 9223372036854775807 → AO P Γ n all Q ops fr H) : AO P Γ n all Q ops fr H := fun ρ w a s => by
  have := row_lim s hg
  exact h (by subst hm; simp only [lim] at this; omega) ρ w a s
end
end Go.GA
