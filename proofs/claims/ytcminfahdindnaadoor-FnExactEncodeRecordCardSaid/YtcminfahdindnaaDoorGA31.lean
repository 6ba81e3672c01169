/- Calls whose results may hold data that was there; rows that are not written any more, in an open order. -/
import Derived.Test.YtcminfahdindnaaDoorGA30
namespace Go.GA
open Go Go.RowKit
section
variable {P : Program} {Γ : Ctx} {n : Sz} {Q : Exit → Act → World → Prop} {fr fr' : Fr} {H H' Hc : Hp} {all : Array Oper} {ops : List Oper} {ty : TypeId} {pos : String} {aft : Array Edge}
theorem ao_callV [LaidS P Γ] {g : Option (Nat × Bool)} {d : Nat} {f : FuncId} {fn : Func} {fo : Operand} {as : List Operand} {tys : Array TypeId} {caps xs ys : List AV} {R : AV → Hp → Prop} (l : List Nat) (base : Nat) (hg : gOK all fr g) (hc : ACallsV P f ys Hc R)
    (hf : P.funcs[f]? = some fn) (hbody : fn.body.isNone = false) (hname : (fn.name == "runtime.NumGoroutine") = false)
    (hfo : evO fr fo = some (.fn f caps)) (hxs : evOs fr as = some xs) (hA : xs ++ caps = AV.renL (sg l base) ys) (hR : SubHR H (sg l base) Hc) (hS : SubH H Hc (sg l base) Hc) (hks : hkeys Hc = List.range l.length) (hl : allLt base l = true) (hln : injB (fun i => i) l = true)
    (hfr : allLt base (Fr.ids fr) = true) (hH : allLt base (Hp.ids H) = true) (hK : Nat.ble n.K base = true) (hd : Nat.blt d n.n = true)
    (h : ∀ r H', R r H' → AO P Γ n all Q ops ((d, r.ren (sg l base)) :: fr) (hdel l H ++ hren (sg l base) H')) :
    AO P Γ n all Q (⟨some d, .call ⟨.value fo, as.toArray, tys⟩, ty, pos, aft, g⟩ :: ops) fr H := fun ρ w a s => by
  obtain ⟨cv, hcv, hcaps⟩ := s.ev hfo
  refine wpList_go (s.wanted hg) fun K hK' => ?_
  unfold Oper.wp
  rw [run_callv rfl hcv hf hbody hname, Oper.upon_enter]
  refine (call_simV hc l base s (evOs_append (evOs_ok (fun o y h => s.ev h) hxs) hcaps) hA hR hS hks hl hln hfr hH hK).mono ?_
  rintro e w' ⟨v, r, H', ρ', rfl, hR, s', hv, _⟩
  exact hK' _ _ (h r H' hR ρ' w' _ (s'.put hd hv))
theorem ao_call0V [LaidS P Γ] {g : Option (Nat × Bool)} {f : FuncId} {fn : Func} {fo : Operand} {as : List Operand} {tys : Array TypeId} {caps xs ys : List AV} {R : AV → Hp → Prop} (l : List Nat) (base : Nat) (hg : gOK all fr g) (hc : ACallsV P f ys Hc R)
    (hf : P.funcs[f]? = some fn) (hbody : fn.body.isNone = false) (hname : (fn.name == "runtime.NumGoroutine") = false)
    (hfo : evO fr fo = some (.fn f caps)) (hxs : evOs fr as = some xs) (hA : xs ++ caps = AV.renL (sg l base) ys) (hR : SubHR H (sg l base) Hc) (hS : SubH H Hc (sg l base) Hc) (hks : hkeys Hc = List.range l.length) (hl : allLt base l = true) (hln : injB (fun i => i) l = true)
    (hfr : allLt base (Fr.ids fr) = true) (hH : allLt base (Hp.ids H) = true) (hK : Nat.ble n.K base = true)
    (h : ∀ r H', R r H' → AO P Γ n all Q ops fr (hdel l H ++ hren (sg l base) H')) :
    AO P Γ n all Q (⟨none, .call ⟨.value fo, as.toArray, tys⟩, ty, pos, aft, g⟩ :: ops) fr H := fun ρ w a s => by
  obtain ⟨cv, hcv, hcaps⟩ := s.ev hfo
  refine wpList_go (s.wanted hg) fun K hK' => ?_
  unfold Oper.wp
  rw [run_callv rfl hcv hf hbody hname, Oper.upon_enter]
  refine (call_simV hc l base s (evOs_append (evOs_ok (fun o y h => s.ev h) hxs) hcaps) hA hR hS hks hl hln hfr hH hK).mono ?_
  rintro e w' ⟨v, r, H', ρ', rfl, hR, s', hv, _⟩
  exact hK' _ _ (h r H' hR ρ' w' _ s')
end
section
variable {P : Program} {Γ : Ctx} {n : Sz} {Q : Exit → Act → World → Prop} {fr fr' : Fr} {H H' : Hp} {all : Array Oper} {ty : TypeId} {pos : String} {aft : Array Edge} {op : Op}
variable {m f base : Nat} {T : Act → World → Prop} {listed : Array Bool}
theorem axo_callV [LaidS P Γ] (i : Nat) (nb : Nat) {g : Option (Nat × Bool)} {d : Nat} {fi : FuncId} {fn : Func} {fo : Operand} {as : List Operand} {tys : Array TypeId} {caps xs ys : List AV} {R : AV → Hp → Prop} (hi : all[i]? = some ⟨some d, .call ⟨.value fo, as.toArray, tys⟩, ty, pos, aft, g⟩) (hg : gOK all fr g) (hc : ACallsV P fi ys [] R)
    (hf : P.funcs[fi]? = some fn) (hbody : fn.body.isNone = false) (hname : (fn.name == "runtime.NumGoroutine") = false)
    (hfo : evO fr fo = some (.fn fi caps)) (hxs : evOs fr as = some xs) (hA : xs ++ caps = AV.renL (sg [] nb) ys)
    (hfr : allLt nb (Fr.ids fr) = true) (hH : allLt nb (Hp.ids H) = true) (hK : Nat.ble n.K nb = true) (hd : Nat.blt d n.n = true)
    (h : ∀ r H', R r H' → AX P Γ n all Q m T base f (listed.setIfInBounds i true) ((d, r.ren (sg [] nb)) :: fr) (hdel [] H ++ hren (sg [] nb) H')) : AXO P Γ n all Q m T base f listed fr H i := fun ρ w a w0 s hk hfn => by
  obtain ⟨cv, hcv, hcaps⟩ := s.ev hfo
  unfold Go.wpOp
  simp only [hi, s.wanted (o := ⟨some d, .call ⟨.value fo, as.toArray, tys⟩, ty, pos, aft, g⟩) hg, if_true]
  refine .inl ?_
  unfold Oper.wp
  rw [run_callv rfl hcv hf hbody hname w, Oper.upon_enter]
  refine (call_simV hc [] nb s (evOs_append (evOs_ok (fun o y h => s.ev h) hxs) hcaps) hA trivial trivial rfl rfl rfl hfr hH hK).mono ?_
  rintro e w' ⟨v, r, H', ρ', rfl, hR, s', hv, hgr⟩
  have ht : takenB base H (hdel [] H ++ hren (sg [] nb) H') = true := by
    refine List.all_eq_true.2 (fun e he => ?_)
    rw [Bool.or_eq_true]
    left
    cases hb : memB e.1 (hkeys (hdel [] H ++ hren (sg [] nb) H')) with
    | true => rfl
    | false =>
      have := memB_false hb
      rw [hkeys_eq, List.map_append, hdel_nil] at this
      exact absurd (List.mem_append_left _ (List.mem_map_of_mem he)) this
  obtain ⟨hk', hf'⟩ := axo_grew hk hfn (hgr rfl) ht
  exact ⟨hk', h r H' hR ρ' w' _ w0 (s'.put hd hv) hk' hf'⟩
/-- rows that are not written any more -/
theorem ax_frz (hfr : SubFr H H' (fun i => i) fr fr') (hH : SubH H H' (fun i => i) H') (hi : injB (fun i => i) (hkeys H') = true) (h : AX P Γ n all Q m T base f listed fr' H') : AX P Γ n all Q m T base f listed fr H := fun ρ w a w0 s hk hf => by
  obtain ⟨ℓ, hk1, hb⟩ := s.heap
  obtain ⟨hm0, hm, hd, hk'⟩ := heap_sub hk1 (s.apart hb) hH hi
  refine h (ρ.map fun i => i) w a w0 ⟨s.defers, s.size, s.ext, s.keep, fun b hb => s.own b (hm0 b hb), ⟨_, hk', ?_⟩, ?_⟩ hk (fun e he hbe b k hbk => ?_)
  · intro e he b hb'
    obtain ⟨A, hA, _⟩ := subH_mem hH he
    exact hb _ (hget_mem hA) b hb'
  · intro t y hy
    obtain ⟨x, hx, had⟩ := subFr_get hfr hy
    obtain ⟨h1, h2⟩ := s.fr t x hx
    exact ⟨h1, had ρ _ ℓ hk1 hm hd _ h2⟩
  · obtain ⟨A, hA, _⟩ := subH_mem hH he
    exact hf _ (hget_mem hA) hbe b k hbk
theorem axo_frz {i : Nat} (hfr : SubFr H H' (fun i => i) fr fr') (hH : SubH H H' (fun i => i) H') (hi : injB (fun i => i) (hkeys H') = true) (h : AXO P Γ n all Q m T base f listed fr' H' i) : AXO P Γ n all Q m T base f listed fr H i := fun ρ w a w0 s hk hf => by
  obtain ⟨ℓ, hk1, hb⟩ := s.heap
  obtain ⟨hm0, hm, hd, hk'⟩ := heap_sub hk1 (s.apart hb) hH hi
  refine h (ρ.map fun i => i) w a w0 ⟨s.defers, s.size, s.ext, s.keep, fun b hb => s.own b (hm0 b hb), ⟨_, hk', ?_⟩, ?_⟩ hk (fun e he hbe b k hbk => ?_)
  · intro e he b hb'
    obtain ⟨A, hA, _⟩ := subH_mem hH he
    exact hb _ (hget_mem hA) b hb'
  · intro t y hy
    obtain ⟨x, hx, had⟩ := subFr_get hfr hy
    obtain ⟨h1, h2⟩ := s.fr t x hx
    exact ⟨h1, had ρ _ ℓ hk1 hm hd _ h2⟩
  · obtain ⟨A, hA, _⟩ := subH_mem hH he
    exact hf _ (hget_mem hA) hbe b k hbk
/-- the same in a line of operations -/
theorem ao_frz {ops : List Oper} (hfr : SubFr H H' (fun i => i) fr fr') (hH : SubH H H' (fun i => i) H') (hi : injB (fun i => i) (hkeys H') = true) (h : AO P Γ n all Q ops fr' H') : AO P Γ n all Q ops fr H := AO.sub (sub_mk (fun i => i) hfr hH hi (fun _ _ => rfl)) h
end
end Go.GA
