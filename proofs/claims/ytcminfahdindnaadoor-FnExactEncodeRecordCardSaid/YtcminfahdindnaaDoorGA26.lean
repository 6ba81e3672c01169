/- Elements of elements that are arrays: a store into one. -/
import Derived.Test.YtcminfahdindnaaDoorGA25
namespace Go.GA
open Go Go.RowKit
section
variable {P : Program} {n : Sz} {fr : Fr} {H : Hp} {dst : Option Nat} {ty : TypeId} {pos : String} {aft : Array Edge} {g : Option (Nat × Bool)}
/-- the state behind a write of an element's cells -/
theorem sim_set_elem {Γ : Ctx} {ρ : Rho} {w : World} {a : Act} (s : SIM Γ n ρ w a fr H) {id off i : Nat} {t : Ty} {xs : List t.D} {e : t.D} {B : Blk} (hf : t.flat = true) (hg : hget H id = some B) (he : elemsAt H id off = some ⟨t, xs⟩) (hi : i < xs.length) {b k} (hρ : ρ id = some (b, k))
    {c : Array Value} {T' : TypeId} {p mid q : List Value} (hb : World.hf w b = some (.cells c T' (0, 0))) (hc : c.toList = p ++ (mid ++ q)) (hp : p.length = off) (hm : RelL (Rc (World.hf w) t) xs mid []) {ns : List Value} (hR : ∀ h', Rc h' t e ns []) (hnl : ns.length = t.sz) :
    SIM Γ n ρ (w.setRow b (p ++ ((mid.take (i * t.sz) ++ ns ++ mid.drop (i * t.sz + ns.length)) ++ q)).toArray) a fr (hset H id (blkSet B off t (xs.set i e))) := by
  have hclen : c.size = p.length + (mid.length + q.length) := by rw [← Array.length_toList, hc]; simp
  have hset := RelL.set (R' := Rc (World.hf w) t) hi hm (fun x c F h => Rc.len t h) (fun x c F h => Rc.flat t hf h) (fun _ _ h => h) (hR (World.hf w)) hnl
  have h1 := hset.1
  refine s.write hg hρ hb (fun ℓ' h' hk' hb' hne hM => ?_)
  have hset' := RelL.set (R' := Rc h' t) hi hm (fun x c F h => Rc.len t h) (fun x c F h => Rc.flat t hf h) (fun x c hx => hx.same t (by simp)) (hR h') hnl
  have hnew := hset'.2
  have hlset : (mid.take (i * t.sz) ++ ns ++ mid.drop (i * t.sz + ns.length)).length = mid.length := by
    simp only [List.length_append, List.length_take, List.length_drop]; omega
  unfold elemsAt at he
  rw [hg] at he
  cases B with
  | var cs =>
    simp only at he
    split at he
    · rename_i t' m xs' hca
      simp only [Option.some.injEq, Sigma.mk.injEq] at he
      obtain ⟨rfl, he⟩ := he
      have he' := eq_of_heq he
      subst he'
      obtain ⟨b2, k2, c2, T2, F2, h3, h4, h5, h6⟩ := hk'.get hg
      rw [hρ] at h3
      obtain ⟨rfl, rfl⟩ : b = b2 ∧ k = k2 := by simpa using h3
      rw [show World.hf w b = some (.cells c T' (0, 0)) from hb] at h4
      simp only [Option.some.injEq, Obj.cells.injEq] at h4
      obtain ⟨rfl, rfl, _⟩ := h4
      have hnd2 : (b :: F2).Nodup := by have := hk'.nd _ (hget_mem hg); rw [h6] at this; exact this
      have hFne : ∀ x ∈ F2, x ≠ b := fun x hx e => (List.nodup_cons.1 hnd2).1 (e ▸ hx)
      refine ⟨b :: F2, ⟨b, k, _, T', F2, hρ, hb', ?_, rfl⟩, hnd2, fun x hx => by rw [h6]; exact hx⟩
      have := compsSet_ok (h' := h') (ys := xs'.set i e) (by simp) h5 hca hc hp hlset.symm hnew hf hM (fun x hx => hne x (hFne x hx))
      simpa using this
    · cases he
  | row t' xs' =>
    simp only at he
    split at he
    · simp only [Option.some.injEq, Sigma.mk.injEq] at he
      obtain ⟨rfl, he⟩ := he
      have he' := eq_of_heq he
      subst he'
      obtain ⟨hl, ⟨h3, h4, _⟩ | ⟨b2, cap, c2, T2, F2, mid2, post, h3, h4, h5, h6, h7, h8, h9⟩⟩ := hk'.get hg
      · rw [hρ] at h3; cases h3
      · rw [hρ] at h3
        obtain ⟨rfl, rfl⟩ : b = b2 ∧ k = (cap, _) := by simpa using h3
        rw [show World.hf w b = some (.cells c T' (0, 0)) from hb] at h4
        simp only [Option.some.injEq, Obj.cells.injEq] at h4
        obtain ⟨rfl, rfl, _⟩ := h4
        have hF2 : F2 = [] := RelL.flat (fun x c F h => Rc.flat t' hf h) h6
        subst hF2
        have hp0 : p = [] := List.eq_nil_of_length_eq_zero hp
        subst hp0
        refine ⟨[b], ⟨by simpa using hl, .inr ⟨b, cap, _, T', [], _, q, by simpa using hρ, hb', rfl, hnew, rfl, by simpa using h8, ?_⟩⟩, by simp, fun x hx => by rw [h7]; exact hx⟩
        rw [← h9, hclen]
        simp only [List.size_toArray, List.length_append, List.length_nil, Nat.zero_add]
        simp only [List.length_take, List.length_drop, List.length_append] at hlset ⊢
        omega
    · cases he
/-- a store into an element of an element -/
theorem e_store_elem2 {T : TypeId} {x y : Operand} {id off i m j z z2 : Nat} {t : Ty} {xs : List (Ty.arr m t).D} {X : List t.D} {e : t.D} {B B' : Blk} (hf : t.flat = true) (hs : ∀ w, (sizeOf T).run P w = .ok t.sz w) (hz : m * t.sz = z) (hz2 : t.sz = z2)
    (hx : evO fr x = some (.elem2 id off z i z2 j)) (hy : evO fr y = some (ofTy t e)) (hg : hget H id = some B) (he : elemsAt H id off = some ⟨.arr m t, xs⟩) (hi : i < xs.length) (hX : xs.getD i (Ty.dflt (.arr m t)) = X) (hj : j < m) (hB : blkSet B off (.arr m t) (xs.set i (X.set j e : List t.D)) = B') :
    EffS P n ⟨none, .store T x y, ty, pos, aft, g⟩ fr H fr (hset H id B') := fun Γ ρ w a s => by
  subst hB; subst hz; subst hz2
  obtain ⟨b, k, hρ, ex⟩ := s.ev hx
  obtain ⟨ℓ, hL, _⟩ := s.heap
  have hns := ofTy_cells hf (s.ev hy)
  have hnl : (a.eval y).cells.toList.length = t.sz := Rc.len t hns
  obtain ⟨c, T', p, mid, q, F, hb, hc, hp, hm, _⟩ := elemsAt_ok hL he hρ
  have hFn : F = [] := RelL.flat (fun x c F h => Rc.flat (.arr m t) hf h) hm
  subst hFn
  have hm0 := hm
  rw [split_at xs i hi (Ty.dflt (.arr m t))] at hm
  obtain ⟨c1, c2, c3, G, em, hc1, hR, hG⟩ := RelL.mid hm (fun x c F h => Rc.len _ h)
  have hlt' : (xs.take i).length = i := by rw [List.length_take]; omega
  rw [hlt'] at hc1
  replace hc1 : c1.length = i * (m * t.sz) := hc1
  rw [hX] at hR
  have hGn : G = [] := Rc.flat (.arr m t) hf hR
  subst hGn
  obtain ⟨hl, hR2⟩ := hR
  have hc2 : c2.length = m * t.sz := by rw [RelL.len (fun x c F h => Rc.len t h) hR2, hl]
  have hjl : j < X.length := by omega
  have hin : ∀ h', Rc h' t e (a.eval y).cells.toList [] := fun h' => hns.same t (by simp)
  have hset := fun (h' : Hf) => RelL.set (R' := Rc h' t) hjl hR2 (fun x c F h => Rc.len t h) (fun x c F h => Rc.flat t hf h) (fun x c hx => hx.same t (by simp)) (hin h') hnl
  have hle := (hset (World.hf w)).1
  have hclen : c.size = p.length + (mid.length + q.length) := by rw [← Array.length_toList, hc]; simp
  have hmidl : mid.length = c1.length + (c2.length + c3.length) := by rw [em]; simp
  have hrun := run_storeVar (P := P) (T := T) (v := a.eval y) (ns := (a.eval y).cells.toList) (b := b) (off := off + i * (m * t.sz) + j * t.sz) (c := c) (T' := T') (w := w) (by rw [hnl]; exact hs) rfl hb (by omega) (fun u hu => Rc.one t hns u hu)
  have hnew : ∀ h', Rc h' (.arr m t) (X.set j e : List t.D) (c2.take (j * t.sz) ++ (a.eval y).cells.toList ++ c2.drop (j * t.sz + (a.eval y).cells.toList.length)) [] := fun h' => ⟨by rw [List.length_set]; exact hl, (hset h').2⟩
  have hnewl := Rc.len (.arr m t) (hnew (World.hf w))
  have hcl : c.toList.take (off + i * (m * t.sz) + j * t.sz) ++ (a.eval y).cells.toList ++ c.toList.drop (off + i * (m * t.sz) + j * t.sz + (a.eval y).cells.toList.length) = p ++ ((mid.take (i * (m * t.sz)) ++ (c2.take (j * t.sz) ++ (a.eval y).cells.toList ++ c2.drop (j * t.sz + (a.eval y).cells.toList.length)) ++ mid.drop (i * (m * t.sz) + (c2.take (j * t.sz) ++ (a.eval y).cells.toList ++ c2.drop (j * t.sz + (a.eval y).cells.toList.length)).length)) ++ q) := by
    rw [hnewl]
    generalize (a.eval y).cells.toList = ns at *
    have t1 : mid.take (i * (m * t.sz)) = c1 := by rw [em, ← hc1]; simp
    have t2 : mid.drop (i * (m * t.sz) + m * t.sz) = c3 := by
      rw [em, ← hc1, List.drop_length_add_append, ← hc2, List.drop_left]
    have t2' : mid.drop (i * (m * t.sz) + (Ty.arr m t).sz) = c3 := t2
    rw [t1, t2']
    have hcs : c.toList = (p ++ c1) ++ (c2 ++ (c3 ++ q)) := by rw [hc, em]; simp
    have hoff : off + i * (m * t.sz) = (p ++ c1).length := by rw [List.length_append, hp, hc1]
    rw [hoff, hcs, List.take_length_add_append, Nat.add_assoc, List.drop_length_add_append, List.take_append_of_le_length (by omega), List.drop_append_of_le_length (by omega)]
    simp
  refine ⟨w.setRow b (c.toList.take (off + i * (m * t.sz) + j * t.sz) ++ (a.eval y).cells.toList ++ c.toList.drop (off + i * (m * t.sz) + j * t.sz + (a.eval y).cells.toList.length)).toArray, ρ, ?_, ?_⟩
  · simp only [execOp, Instr.storeAt, ex, Instr.sureAddr, Sem.run_bind, Sem.run_pure, Result.andThen_ok, hrun]
  · rw [hcl]
    exact sim_set_elem (t := .arr m t) s hf hg he hi hρ hb hc hp hm0 hnew hnewl
theorem e_store_elem2_int {T : TypeId} {x y : Operand} {id off i m j z : Nat} {q : IntKind} {xs : List (List Int)} {X : List Int} {e : Int} {B B' : Blk} (hs : ∀ w, (sizeOf T).run P w = .ok 1 w) (hz : m * 1 = z)
    (hx : evO fr x = some (.elem2 id off z i 1 j)) (hy : evO fr y = some (.int q e)) (hg : hget H id = some B) (he : elemsAt H id off = some ⟨.arr m (.int q), xs⟩) (hi : i < xs.length) (hX : xs.getD i (List.replicate m 0) = X) (hj : j < m) (hB : blkSet B off (.arr m (.int q)) (xs.set i (X.set j e)) = B') :
    EffS P n ⟨none, .store T x y, ty, pos, aft, g⟩ fr H fr (hset H id B') := e_store_elem2 (t := .int q) rfl hs hz rfl hx hy hg he hi hX hj hB
end
end Go.GA
