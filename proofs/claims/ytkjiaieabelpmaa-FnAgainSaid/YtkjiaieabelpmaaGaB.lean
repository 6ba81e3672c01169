/- Stores into the call's own blocks. -/
import Derived.Test.YtkjiaieabelpmaaGaA
import Derived.Laws.MakeOwn
import Derived.Laws.AppendOwn
import Derived.ChangeKeysEq
import Derived.Laws.StructEq
import Derived.Laws.Small
import Derived.StillTail
import Derived.KernelRfl
section
namespace Go.GA
open Go Go.RowKit

def hset : Hp → Nat → Blk → Hp
  | [], _, _ => []
  | (i, B) :: H, j, B' => bif Nat.beq i j then (i, B') :: H else (i, B) :: hset H j B'
theorem hset_keys : ∀ (H : Hp) (j : Nat) (B' : Blk), (hset H j B').map (·.1) = H.map (·.1)
  | [], _, _ => rfl
  | (i, B) :: H, j, B' => by
    unfold hset
    cases Nat.beq i j <;> simp [hset_keys H]
theorem mem_hset : ∀ {H : Hp} {j : Nat} {B' : Blk} {e}, (H.map (·.1)).Nodup → e ∈ hset H j B' → (e.1 = j ∧ e.2 = B') ∨ (e ∈ H ∧ e.1 ≠ j)
  | (i, B) :: H, j, B', e, hn, he => by
    simp only [List.map_cons, List.nodup_cons] at hn
    unfold hset at he
    cases hb : Nat.beq i j with
    | true =>
      have hi := Nat.eq_of_beq_eq_true hb
      rw [hb] at he
      simp only [cond_true, List.mem_cons] at he
      rcases he with rfl | he
      · exact .inl ⟨hi, rfl⟩
      · refine .inr ⟨List.mem_cons_of_mem _ he, fun h => hn.1 ?_⟩
        rw [hi, ← h]; exact List.mem_map_of_mem he
    | false =>
      rw [hb] at he
      simp only [cond_false, List.mem_cons] at he
      rcases he with rfl | he
      · exact .inr ⟨by simp, Nat.ne_of_beq_eq_false hb⟩
      · rcases mem_hset hn.2 he with h | ⟨h1, h2⟩
        · exact .inl h
        · exact .inr ⟨List.mem_cons_of_mem _ h1, h2⟩
theorem nam_keys {ρ : Rho} {H H' : Hp} (h : H'.map (·.1) = H.map (·.1)) {b : Nat} : namB ρ H' b ↔ namB ρ H b := by
  constructor
  · rintro ⟨e, he, k, hk⟩
    have : e.1 ∈ H.map (·.1) := by rw [← h]; exact List.mem_map_of_mem he
    obtain ⟨e', he', e1⟩ := List.mem_map.1 this
    exact ⟨e', he', k, by rw [e1]; exact hk⟩
  · rintro ⟨e, he, k, hk⟩
    have : e.1 ∈ H'.map (·.1) := by rw [h]; exact List.mem_map_of_mem he
    obtain ⟨e', he', e1⟩ := List.mem_map.1 this
    exact ⟨e', he', k, by rw [e1]; exact hk⟩
theorem own_keys {ρ : Rho} {H H' : Hp} (h : H'.map (·.1) = H.map (·.1)) {b : Nat} : ownB ρ H' b ↔ ownB ρ H b := or_congr (nam_keys h) Iff.rfl

theorem own_head {ρ : Rho} {h : Hf} {H : Hp} {ℓ : Nat → List Nat} (hk : HeapOK ρ h H ℓ) {e} (he : e ∈ H) {b : Nat} {k} (hb : ρ e.1 = some (b, k)) : b ∈ ℓ e.1 := by
  have := hk.blk e he
  obtain ⟨i, B⟩ := e
  cases B with
  | var cs =>
    obtain ⟨b', k', c, T, F, h1, h2, h3, e⟩ := this
    simp only at hb h1 ⊢
    rw [hb] at h1
    obtain ⟨rfl, _⟩ : b = b' ∧ k = k' := by simpa using h1
    rw [e]; simp
  | row t xs =>
    obtain ⟨hl, ⟨h1, h2, e⟩ | ⟨b', cap, c, T, F, mid, post, h1, h2, h3, h4, e, h5⟩⟩ := this
    · simp only at hb h1; rw [hb] at h1; cases h1
    · simp only at hb h1 ⊢
      rw [hb] at h1
      have h1' := congrArg (fun o => o.map Prod.fst) h1
      simp only [Option.map_some, Option.some.injEq] at h1'
      subst h1'
      rw [e]; simp
  | brow xs =>
    obtain ⟨b', cap, c, T, post, h1, h2, h3, e, h4⟩ := this
    simp only at hb h1 ⊢
    rw [hb] at h1
    have h1' := congrArg (fun o => o.map Prod.fst) h1
    simp only [Option.map_some, Option.some.injEq] at h1'
    subst h1'
    rw [e]; simp

/-- a write into the block of entry 'id' -/
theorem SIM.write {Γ : Ctx} {n : Sz} {ρ : Rho} {w : World} {a : Act} {fr : Fr} {H : Hp} (s : SIM Γ n ρ w a fr H) {id : Nat} {B B' : Blk} (hg : hget H id = some B) {b : Nat} {k} (hρ : ρ id = some (b, k)) {c c' : Array Value} {T : TypeId} {z : Nat × Nat}
    (hb : w.heap[b]? = some (.cells c T z)) (hnew : ∀ ℓ h', HeapOK ρ (World.hf w) H ℓ → h' b = some (.cells c' T z) → (∀ b', b' ≠ b → h' b' = World.hf w b') → (∀ b', ¬ ownB ρ H b' → World.hf w b' ≠ none → h' b' = World.hf w b' ∧ ¬ ownB ρ H b') →
      ∃ L, RBlk ρ h' (ownB ρ H) id B' L ∧ L.Nodup ∧ ∀ x ∈ L, x ∈ ℓ id) : SIM Γ n ρ (w.setRow b c') a fr (hset H id B') := by
  obtain ⟨ℓ, hk, hl⟩ := s.heap
  have hmem := hget_mem hg
  have hob0 : namB ρ H b := ⟨_, hmem, k, hρ⟩
  have hob : ownB ρ H b := .inl hob0
  have hbℓ : b ∈ ℓ id := own_head hk hmem hρ
  have hkeys := hset_keys H id B'
  have hM : ∀ b', ownB ρ (hset H id B') b' ↔ ownB ρ H b' := fun b' => own_keys hkeys
  have hMeq : ownB ρ (hset H id B') = ownB ρ H := funext fun b' => propext (hM b')
  have hh : ∀ b', b' ≠ b → World.hf (w.setRow b c') b' = World.hf w b' := fun b' hne => setRow_other w b b' c' hne
  have hhb : World.hf (w.setRow b c') b = some (.cells c' T z) := setRow_heap w b c c' T z hb
  have hsame : ∀ b', ¬ ownB ρ H b' → World.hf w b' ≠ none → World.hf (w.setRow b c') b' = World.hf w b' ∧ ¬ ownB ρ H b' := fun b' h1 _ => ⟨hh b' (fun e => h1 (e ▸ hob)), h1⟩
  obtain ⟨L, hL, hLn, hLs⟩ := hnew ℓ _ hk hhb hh hsame
  have hℓo : ∀ e : Nat × Blk, e.1 ≠ id → updL ℓ id L e.1 = ℓ e.1 := fun e he => updL_other _ _ he
  refine ⟨s.defers, s.size, ⟨s.ext.os, s.ext.tape, s.ext.output, by simpa [World.setRow] using s.ext.size, fun i hi hm => ?_⟩, s.keep, fun b' hb' => s.own b' ((nam_keys hkeys).1 hb'), ⟨updL ℓ id L, ⟨?_, ?_, ?_, ?_⟩, ?_⟩, ?_⟩
  · have : i ≠ b := fun e => by
      rcases s.own b hob0 with h | h
      · exact hm (e ▸ h)
      · omega
    rw [setRow_other w b i c' this]; exact s.ext.block i hi hm
  · intro e he
    rw [hMeq]
    rcases mem_hset hk.ids he with ⟨h1, h2⟩ | ⟨h1, h2⟩
    · obtain ⟨i, Bi⟩ := e
      simp only at h1 h2; subst h1; subst h2
      rw [updL_same]; exact hL
    · rw [hℓo e h2]
      exact (hk.blk e h1).same (fun _ _ => rfl) hsame (fun b' hb' => hh b' (fun e' => hk.dj e h1 _ hmem h2 b' hb' (e' ▸ hbℓ)))
  · intro e he
    rcases mem_hset hk.ids he with ⟨h1, _⟩ | ⟨h1, h2⟩
    · rw [h1, updL_same]; exact hLn
    · rw [hℓo e h2]; exact hk.nd e h1
  · intro e he e' he' hne x hx
    rcases mem_hset hk.ids he with ⟨h1, _⟩ | ⟨h1, h2⟩ <;> rcases mem_hset hk.ids he' with ⟨h3, _⟩ | ⟨h3, h4⟩
    · exact absurd (h1.trans h3.symm) hne
    · rw [h1, updL_same] at hx; rw [hℓo e' h4]
      exact hk.dj _ hmem e' h3 (fun h => h4 h.symm) x (hLs x hx)
    · rw [hℓo e h2] at hx; rw [h3, updL_same]
      exact fun h => hk.dj e h1 _ hmem h2 x hx (hLs x h)
    · rw [hℓo e h2] at hx; rw [hℓo e' h4]
      exact hk.dj e h1 e' h3 hne x hx
  · rw [hkeys]; exact hk.ids
  · intro e he x hx
    rcases mem_hset hk.ids he with ⟨h1, _⟩ | ⟨h1, h2⟩
    · rw [h1, updL_same] at hx; exact hl _ hmem x (hLs x hx)
    · rw [hℓo e h2] at hx; exact hl e h1 x hx
  · intro t x hx
    obtain ⟨h1, h2⟩ := s.fr t x hx
    refine ⟨h1, ?_⟩
    rw [hMeq]
    exact h2.same x (fun _ _ => rfl) hsame

/-! ### Storing components -/
def compsSz : List Comp → Nat
  | [] => 0
  | c :: cs => c.sz + compsSz cs
def putAt : List Comp → Nat → List Comp → Option (List Comp)
  | cs, 0, new => bif Nat.beq (compsSz (cs.take new.length)) (compsSz new) && Nat.ble new.length cs.length then some (new ++ cs.drop new.length) else none
  | c :: cs, o + 1, new => bif Nat.ble c.sz (o + 1) then (match putAt cs (o + 1 - c.sz) new with
    | some r => some (c :: r)
    | none => none) else none
  | [], _ + 1, _ => none
theorem RComps.len {ρ : Rho} {h : Hf} {M : Nat → Prop} : ∀ {cs : List Comp} {vs F}, RComps ρ h M cs vs F → vs.length = compsSz cs
  | [], _, _, hr => by rw [hr.1]; rfl
  | .cell a :: r, _, _, hr => by obtain ⟨v, cs', e, _, _, h3⟩ := hr; rw [e, List.length_cons, RComps.len h3]; simp [compsSz, Comp.sz]; omega
  | .arr t n xs :: r, _, _, hr => by
    obtain ⟨c1, c2, F1, F2, e, _, h1, h2⟩ := hr
    rw [e, List.length_append, h1.len, RComps.len h2]; rfl
theorem RComps.split {ρ : Rho} {h : Hf} {M : Nat → Prop} : ∀ {cs ds : List Comp} {vs F}, RComps ρ h M (cs ++ ds) vs F → ∃ v1 v2 F1 F2, vs = v1 ++ v2 ∧ F = F1 ++ F2 ∧ RComps ρ h M cs v1 F1 ∧ RComps ρ h M ds v2 F2
  | [], ds, vs, F, hr => ⟨[], vs, [], F, rfl, rfl, ⟨rfl, rfl⟩, hr⟩
  | .cell a :: r, ds, _, _, hr => by
    obtain ⟨v, cs', e, h1, h2, h3⟩ := hr
    obtain ⟨v1, v2, F1, F2, e1, e2, h4, h5⟩ := RComps.split (cs := r) h3
    exact ⟨v :: v1, v2, F1, F2, by rw [e, e1]; rfl, e2, ⟨v, v1, rfl, h1, h2, h4⟩, h5⟩
  | .arr t n xs :: r, ds, _, _, hr => by
    obtain ⟨c1, c2, F1, F2, e, eF, h1, h2⟩ := hr
    obtain ⟨v1, v2, G1, G2, e1, e2, h4, h5⟩ := RComps.split (cs := r) h2
    exact ⟨c1 ++ v1, v2, F1 ++ G1, G2, by rw [e, e1]; simp, by rw [eF, e2]; simp, ⟨c1, v1, F1, G1, rfl, rfl, h1, h4⟩, h5⟩
/-- the cells from 'off' on are replaced -/
theorem putAt_ok {ρ : Rho} {h h' : Hf} {M : Nat → Prop} : ∀ {cs new r : List Comp} {off : Nat} {vs ns F}, RComps ρ h M cs vs F → RComps ρ h' M new ns [] → putAt cs off new = some r → (∀ b, ¬ M b → h b ≠ none → h' b = h b ∧ ¬ M b) → (∀ b ∈ F, h' b = h b) → F.Nodup →
    off + ns.length ≤ vs.length ∧ ∃ F', RComps ρ h' M r (vs.take off ++ ns ++ vs.drop (off + ns.length)) F' ∧ F'.Nodup ∧ ∀ b ∈ F', b ∈ F
  | cs, new, r, 0, vs, ns, F, hc, hn, hp, hm, hF, hnd => by
    simp only [putAt] at hp
    cases hb : Nat.beq (compsSz (cs.take new.length)) (compsSz new) && Nat.ble new.length cs.length with
    | false => rw [hb] at hp; cases hp
    | true =>
      rw [hb] at hp
      simp only [cond_true, Option.some.injEq] at hp
      simp only [Bool.and_eq_true] at hb
      have hsz := Nat.eq_of_beq_eq_true hb.1
      subst hp
      rw [← List.take_append_drop new.length cs] at hc
      obtain ⟨v1, v2, F1, F2, e1, e2, h1, h2⟩ := RComps.split hc
      have hl1 := h1.len
      have hl2 := hn.len
      have hlen : v1.length = ns.length := by rw [hl1, hl2, hsz]
      subst e1; subst e2
      refine ⟨by simp [hlen], F2, ?_, (List.nodup_append.1 hnd).2.1, fun b hb => List.mem_append_right _ hb⟩
      have : (v1 ++ v2).drop (0 + ns.length) = v2 := by rw [Nat.zero_add, ← hlen]; simp
      rw [this]
      simpa using RComps.append (F := []) hn (h2.same (fun _ _ => rfl) hm (fun b hb => hF b (List.mem_append_right _ hb)))
  | [], new, r, o + 1, vs, ns, F, hc, hn, hp, hm, hF, hnd => by cases hp
  | c :: cs, new, r, o + 1, vs, ns, F, hc, hn, hp, hm, hF, hnd => by
    simp only [putAt] at hp
    cases hb : Nat.ble c.sz (o + 1) with
    | false => rw [hb] at hp; cases hp
    | true =>
      have hle := Nat.le_of_ble_eq_true hb
      rw [hb] at hp
      simp only [cond_true] at hp
      split at hp
      · rename_i r' hr'
        simp only [Option.some.injEq] at hp
        subst hp
        obtain ⟨v1, v2, F1, F2, e1, e2, h1, h2⟩ := RComps.split (cs := [c]) hc
        subst e1; subst e2
        have hl1 : v1.length = c.sz := by rw [h1.len]; simp [compsSz]
        obtain ⟨h3, F', h4, h5, h6⟩ := putAt_ok h2 hn hr' hm (fun b hb => hF b (List.mem_append_right _ hb)) (List.nodup_append.1 hnd).2.1
        refine ⟨by rw [List.length_append]; omega, F1 ++ F', ?_, ?_, ?_⟩
        · have h7 := RComps.append (h1.same (fun _ _ => rfl) hm (fun b hb => hF b (List.mem_append_left _ hb))) h4
          have e1 : (v1 ++ v2).take (o + 1) = v1 ++ v2.take (o + 1 - c.sz) := by rw [List.take_append, hl1, List.take_of_length_le (by omega)]
          have e2 : (v1 ++ v2).drop (o + 1 + ns.length) = v2.drop (o + 1 - c.sz + ns.length) := by
            rw [List.drop_append, hl1, List.drop_of_length_le (by omega)]
            simp only [List.nil_append]
            congr 1; omega
          rw [e1, e2]
          simpa [List.append_assoc] using h7
        · rw [List.nodup_append] at hnd ⊢
          exact ⟨hnd.1, h5, fun x hx y hy => hnd.2.2 x hx y (h6 y hy)⟩
        · intro b hb'
          rcases List.mem_append.1 hb' with h | h
          · exact List.mem_append_left _ h
          · exact List.mem_append_right _ (h6 b h)
      · cases hp

theorem one_val {ρ : Rho} {h : Hf} {M : Nat → Prop} {x : AV} {v : Value} (hx : RA ρ h M x v) (h1 : x.one = true) : v.oneCell' = true := by
  cases x with
  | v t y =>
    obtain ⟨F, ⟨cs, hc, e⟩, _⟩ := hx
    have ht : t.agg = false := by simpa [AV.one] using h1
    obtain ⟨u, rfl⟩ := one_cell ht hc
    subst e
    cases t <;> simp [Ty.agg] at ht
    · obtain ⟨e, _⟩ := hc; simp at e; subst e; rfl
    · obtain ⟨e, _⟩ := hc; simp at e; subst e; rfl
    · obtain ⟨e, _⟩ := hc; simp at e; subst e; rfl
    · obtain ⟨_, ⟨_, _, a, cap, e⟩ | ⟨b, off, cap, F', e, _⟩⟩ := hc <;> (simp at e; subst e; rfl)
  | int k m => simp only [RA] at hx; subst hx; rfl
  | bool b => simp only [RA] at hx; subst hx; rfl
  | str b => simp only [RA] at hx; subst hx; rfl
  | cptr t y => obtain ⟨b, off, F, c, T, z, pre, mid, post, e, _⟩ := hx; subst e; rfl
  | cav y => obtain ⟨b, off, c, T, z, pre, u, post, e, _⟩ := hx; subst e; rfl
  | ref id off => obtain ⟨b, k, _, e⟩ := hx; subst e; rfl
  | elem id off sz i => obtain ⟨b, k, _, e⟩ := hx; subst e; rfl
  | elem2 id off sz i sz2 j => obtain ⟨b, k, _, e⟩ := hx; subst e; rfl
  | os id => obtain ⟨_, e⟩ | ⟨b, cap, len, _, e⟩ := hx <;> (subst e; rfl)
  | view id off sz l len => obtain ⟨_, a, cap, e⟩ | ⟨b, k, cap, _, e⟩ := hx <;> (subst e; rfl)
  | ov id m => obtain ⟨_, _, e⟩ | ⟨b, cap, len, _, e⟩ := hx <;> (subst e; rfl)
  | yl l => simp only [RA] at hx; subst hx; rfl
  | nilsl => simp only [RA] at hx; subst hx; rfl
  | nilp => simp only [RA] at hx; subst hx; rfl
  | nilf => simp only [RA] at hx; subst hx; rfl
  | fn f caps => obtain ⟨vs, e, _⟩ := hx; subst e; rfl
  | tup xs => cases h1
  | st xs => cases h1
  | gd g x => cases h1
  | junk => cases h1
theorem RelL.all {α : Type} {R : α → List Value → List Nat → Prop} {p : Value → Prop} (hf : ∀ x c F, R x c F → ∀ v ∈ c, p v) : ∀ {xs : List α} {cs F}, RelL R xs cs F → ∀ v ∈ cs, p v
  | [], _, _, ⟨e, _⟩, v, hv => by subst e; cases hv
  | x :: xs, cs, F, ⟨c1, c2, F1, F2, e1, e2, h1, h2⟩, v, hv => by
    subst e1
    rcases List.mem_append.1 hv with h | h
    · exact hf _ _ _ h1 v h
    · exact RelL.all hf h2 v h
theorem Rc.one {h : Hf} : ∀ (t : Ty) {x : t.D} {cs F}, Rc h t x cs F → ∀ v ∈ cs, v.oneCell' = true
  | .bool, _, _, _, hx, v, hv => by rw [hx.1] at hv; simp at hv; subst hv; rfl
  | .int _, _, _, _, hx, v, hv => by rw [hx.1] at hv; simp at hv; subst hv; rfl
  | .str, _, _, _, hx, v, hv => by rw [hx.1] at hv; simp at hv; subst hv; rfl
  | .arr n t, _, _, _, hx, v, hv => RelL.all (fun x c F hc => Rc.one t hc) hx.2 v hv
  | .slice t, _, _, _, hx, v, hv => by
    obtain ⟨_, ⟨_, _, a, cap, e⟩ | ⟨b, off, cap, F', e, _⟩⟩ := hx <;> (rw [e] at hv; simp at hv; subst hv; rfl)
  | .unit, _, _, _, hx, v, hv => by rw [hx.1] at hv; cases hv
  | .pair a b, _, _, _, hx, v, hv => by
    obtain ⟨c1, c2, F1, F2, e, eF, h1, h2⟩ := hx
    rw [e] at hv
    rcases List.mem_append.1 hv with h | h
    · exact Rc.one a h1 v h
    · exact Rc.one b h2 v h
theorem rcomps_one {ρ : Rho} {h : Hf} {M : Nat → Prop} : ∀ {cs : List Comp} {vs F}, RComps ρ h M cs vs F → ∀ v ∈ vs, v.oneCell' = true
  | [], _, _, hr, v, hv => by rw [hr.1] at hv; cases hv
  | .cell a :: r, _, _, hr, v, hv => by
    obtain ⟨u, cs', e, h1, h2, h3⟩ := hr
    subst e
    rcases List.mem_cons.1 hv with rfl | hv
    · exact one_val h2 h1
    · exact rcomps_one h3 v hv
  | .arr t n xs :: r, _, _, hr, v, hv => by
    obtain ⟨c1, c2, F1, F2, e, eF, h1, h2⟩ := hr
    subst e
    rcases List.mem_append.1 hv with h | h
    · exact h1.one _ v h
    · exact rcomps_one h2 v h

/-! ### Elements written -/
theorem RelL.set {α : Type} {R R' : α → List Value → List Nat → Prop} {xs : List α} {i : Nat} (hi : i < xs.length) {cs ns F} {y : α} (h : RelL R xs cs F) {s : Nat} (hs : ∀ x c F, R x c F → c.length = s) (hf : ∀ x c F, R x c F → F = []) (hm : ∀ x c, R x c [] → R' x c [])
    (hy : R' y ns []) (hn : ns.length = s) : i * s + ns.length ≤ cs.length ∧ RelL R' (xs.set i y) (cs.take (i * s) ++ ns ++ cs.drop (i * s + ns.length)) [] := by
  have hx := split_at xs i hi y
  have hlen : (xs.take i).length = i := by rw [List.length_take]; omega
  have e : xs.set i y = xs.take i ++ y :: xs.drop (i + 1) := by rw [List.set_eq_take_append_cons_drop, if_pos hi]
  rw [hx] at h
  obtain ⟨c1, c2, F1, F2, e1, e2, h1, d1, d2, G1, G2, e3, e4, h3, h4⟩ := RelL.split h
  have l1 : c1.length = i * s := by rw [RelL.len hs h1, hlen]
  have l2 : d1.length = s := hs _ _ _ h3
  have f1 : F1 = [] := RelL.flat hf h1
  have f2 : G2 = [] := RelL.flat hf h4
  subst f1; subst f2
  subst e1; subst e3
  refine ⟨by simp only [List.length_append]; omega, ?_⟩
  have e5 : (c1 ++ (d1 ++ d2)).take (i * s) = c1 := by rw [← l1]; simp
  have e6 : (c1 ++ (d1 ++ d2)).drop (i * s + ns.length) = d2 := by
    rw [hn, ← l1, ← l2, ← List.append_assoc, ← List.length_append]; simp
  rw [e5, e6, e, List.append_assoc]
  have hm' : ∀ {zs : List α} {c}, RelL R zs c [] → RelL R' zs c [] := fun h => RelL.mono (fun x c F' hF hc => by
    have : F' = [] := hf _ _ _ hc
    subst this; exact hm _ _ hc) h
  exact RelL.append (F := []) (G := []) (hm' h1) ⟨ns, d2, [], [], rfl, rfl, hy, hm' h4⟩

section
variable {P : Program} {n : Sz} {fr : Fr} {H : Hp} {dst : Option Nat} {ty : TypeId} {pos : String} {aft : Array Edge} {g : Option (Nat × Bool)}

theorem run_storeVar {T : TypeId} {v : Value} {ns : List Value} {b off : Nat} {c : Array Value} {T' : TypeId} {w : World} (hs : ∀ w, (sizeOf T).run P w = .ok ns.length w) (hv : v.cells.toList = ns) (hb : w.heap[b]? = some (.cells c T' (0, 0))) (hl : off + ns.length ≤ c.size)
    (h1 : ∀ u ∈ ns, u.oneCell' = true) : (storeVar T ⟨b, off, none⟩ v).run P w = .ok () (w.setRow b (c.toList.take off ++ ns ++ c.toList.drop (off + ns.length)).toArray) := by
  have e : v.cells.size = ns.length := by rw [← hv]; simp
  have := run_storeCells_at P b off T' ns 0 c w hb (by simpa using hl) h1
  simp only [Nat.add_zero] at this
  subst hv
  simp [storeVar, Sem.run_bind, hs, this]

/-- a store into an own variable, or a part of it -/
theorem e_store {T : TypeId} {x y : Operand} {id off : Nat} {cs r : List Comp} {u : AV} (hx : evO fr x = some (.ref id off)) (hy : evO fr y = some u) (hg : hget H id = some (.var cs)) (hb : boxable u = true)
    (hs : ∀ w, (sizeOf T).run P w = .ok (compsSz (toComps u)) w) (hp : putAt cs off (toComps u) = some r) : EffS P n ⟨none, .store T x y, ty, pos, aft, g⟩ fr H fr (hset H id (.var r)) := fun Γ ρ w a s => by
  obtain ⟨b, k, hρ, e⟩ := s.ev hx
  have hu := ra_comps u (s.ev hy) hb
  obtain ⟨ℓ, hL, _⟩ := s.heap
  obtain ⟨b', k', c, T', F, hρ', hbb, hcs, hℓ⟩ := hL.get hg
  rw [hρ] at hρ'
  obtain ⟨rfl, rfl⟩ : b = b' ∧ k = k' := by simpa using hρ'
  have hlen := hu.len
  have hnd : F.Nodup := by have := hL.nd _ (hget_mem hg); rw [hℓ] at this; exact (List.nodup_cons.1 this).2
  have hle := (putAt_ok hcs hu hp (fun b _ _ => ⟨rfl, by assumption⟩) (fun _ _ => rfl) hnd).1
  have hrun := run_storeVar (P := P) (T := T) (v := a.eval y) (ns := (a.eval y).cells.toList) (by rw [hlen]; exact hs) rfl hbb (by simpa using hle) (rcomps_one hu)
  refine ⟨w.setRow b (c.toList.take off ++ (a.eval y).cells.toList ++ c.toList.drop (off + (a.eval y).cells.toList.length)).toArray, ρ, ?_, s.write hg hρ hbb (fun ℓ' h' hk' hb' hne hM => ?_)⟩
  · simp only [execOp, Instr.storeAt, e, Instr.sureAddr, Sem.run_bind, Sem.run_pure, Result.andThen_ok, hrun]
  · obtain ⟨b2, k2, c2, T2, F2, h1, h2, h3, h4⟩ := hk'.get hg
    rw [hρ] at h1
    obtain ⟨rfl, rfl⟩ : b = b2 ∧ k = k2 := by simpa using h1
    rw [show World.hf w b = some (.cells c T' (0, 0)) from hbb] at h2
    simp only [Option.some.injEq, Obj.cells.injEq] at h2
    obtain ⟨rfl, rfl, _⟩ := h2
    have hnd2 : (b :: F2).Nodup := by have := hk'.nd _ (hget_mem hg); rw [h4] at this; exact this
    have hFne : ∀ x ∈ F2, x ≠ b := fun x hx e => (List.nodup_cons.1 hnd2).1 (e ▸ hx)
    obtain ⟨_, F', h5, h6, h7⟩ := putAt_ok (h' := h') h3 (hu.same (fun _ _ => rfl) hM (by simp)) hp hM (fun x hx => hne x (hFne x hx)) (List.nodup_cons.1 hnd2).2
    refine ⟨b :: F', ⟨b, k, _, T', F', hρ, hb', by simpa using h5, rfl⟩, List.nodup_cons.2 ⟨fun h => (List.nodup_cons.1 hnd2).1 (h7 b h), h6⟩, fun x hx => ?_⟩
    rw [h4]
    rcases List.mem_cons.1 hx with rfl | hx
    · simp
    · exact List.mem_cons_of_mem _ (h7 x hx)
end
end Go.GA
end
section
namespace Go.GA
open Go Go.RowKit

section
variable {P : Program} {n : Sz} {fr : Fr} {H : Hp} {dst : Option Nat} {ty : TypeId} {pos : String} {aft : Array Edge} {g : Option (Nat × Bool)}

/-- the address of an element of an own array -/
theorem r_idxAddr_arr {T E : TypeId} {x y : Operand} {id off m sz : Nat} {k : IntKind} {i : Int} (hu : P.underlying T = some (.array m E)) (hs : ∀ w, (sizeOf E).run P w = .ok sz w)
    (hx : evO fr x = some (.ref id off)) (hy : evO fr y = some (.int k i)) (h0 : 0 ≤ i) (h1 : i < (m : Int)) :
    Reads P ⟨dst, .indexAddr T x y, ty, pos, aft, g⟩ fr H (.elem id off sz i.toNat) := fun Γ n ρ w a s => by
  obtain ⟨b, kk, hρ, e⟩ := s.ev hx
  have hy' := s.ev hy
  simp only [RA] at hy'
  refine ⟨_, ⟨b, kk, hρ, rfl⟩, fun w' _ => ?_⟩
  simp [execOp, Instr.indexAt, e, hy', asIntOf, Sem.run_bind, run_underlying hu, Instr.sureAddr, h0, h1, hs, addr_add]
/-- the address of an element of an own row -/
theorem r_idxAddr_os {T E : TypeId} {x y : Operand} {id sz : Nat} {t : Ty} {xs : List t.D} {k : IntKind} {i : Int} (hu : P.underlying T = some (.slice E)) (hs : ∀ w, (sizeOf E).run P w = .ok sz w)
    (hx : evO fr x = some (.os id)) (hg : hget H id = some (.row t xs)) (hy : evO fr y = some (.int k i)) (h0 : 0 ≤ i) (h1 : i < (xs.length : Int)) :
    Reads P ⟨dst, .indexAddr T x y, ty, pos, aft, g⟩ fr H (.elem id 0 sz i.toNat) := fun Γ n ρ w a s => by
  have hy' := s.ev hy
  simp only [RA] at hy'
  obtain ⟨ℓ, hL, _⟩ := s.heap
  obtain ⟨hl, ⟨h3, h4, _⟩ | ⟨b, cap, c, T', F, mid, post, h3, h4, h5, h6, h7, h8, h9⟩⟩ := hL.get hg
  · have : xs.length = 0 := by rw [h4]; rfl
    omega
  · rcases s.ev hx with ⟨hx', _⟩ | ⟨b', cap', len, hx', e⟩
    · rw [h3] at hx'; cases hx'
    · rw [h3] at hx'
      obtain ⟨rfl, rfl, rfl⟩ : b = b' ∧ cap = cap' ∧ List.length (α := t.D) xs = len := by simpa using hx'
      refine ⟨_, ⟨b, _, h3, rfl⟩, fun w' _ => ?_⟩
      simp [execOp, Instr.indexAt, e, hy', asIntOf, Sem.run_bind, run_underlying hu, h0, h1, hs, addr_add]
/-- an element of an array that is not written -/
theorem r_idxAddr_c {T E : TypeId} {x y : Operand} {m : Nat} {t : Ty} {xs : List t.D} {k : IntKind} {i : Int} (hu : P.underlying T = some (.array m E)) (hs : ∀ w, (sizeOf E).run P w = .ok t.sz w)
    (hx : evO fr x = some (.cptr (.arr m t) xs)) (hy : evO fr y = some (.int k i)) (hl : xs.length = m) (h0 : 0 ≤ i) (h1 : i < (m : Int)) :
    Reads P ⟨dst, .indexAddr T x y, ty, pos, aft, g⟩ fr H (.cptr t (xs.getD i.toNat t.dflt)) := fun Γ n ρ w a s => by
  obtain ⟨b, off, F, c, T', z, p, mid, q, e, hb, hh, hc, hp, ⟨hlen, hm⟩, hF⟩ := s.ev hx
  have hy' := s.ev hy
  simp only [RA] at hy'
  have hlt : i.toNat < xs.length := by omega
  have hs' := split_at xs i.toNat hlt t.dflt
  rw [hs'] at hm
  obtain ⟨c1, c2, c3, G, em, hc1, hR, hG⟩ := RelL.mid hm (fun x c F h => Rc.len t h)
  have hlt' : (xs.take i.toNat).length = i.toNat := by rw [List.length_take]; omega
  refine ⟨.pointer (some ⟨b, off + i.toNat * t.sz, none⟩), ⟨b, _, G, c, T', z, p ++ c1, c2, c3 ++ q, rfl, hb, hh, by rw [hc, em]; simp, by simp [hp, hc1, hlt'], hR, fun b' hb' => hF.1 b' (hG b' hb'), hF.2.sub (Nat.le_add_right _ _) (by rw [hlt'] at hc1; rw [em]; simp only [List.length_append]; omega)⟩, fun w' _ => ?_⟩
  simp [execOp, Instr.indexAt, e, hy', asIntOf, Sem.run_bind, run_underlying hu, Instr.sureAddr, h0, h1, hs, addr_add]

/-- where the elements of an own array or row lie -/
def elemsAt (H : Hp) (id off : Nat) : Option (Σ t : Ty, List t.D) := match hget H id with
  | some (.var cs) => match compAt cs off with
    | some (.arr t _ xs) => some ⟨t, xs⟩
    | _ => none
  | some (.row t xs) => match off with
    | 0 => some ⟨t, xs⟩
    | _ + 1 => none
  | _ => none
theorem elemsAt_ok {ρ : Rho} {h : Hf} {ℓ : Nat → List Nat} (hL : HeapOK ρ h H ℓ) {id off : Nat} {t : Ty} {xs : List t.D} (he : elemsAt H id off = some ⟨t, xs⟩) {b k} (hρ : ρ id = some (b, k)) :
    ∃ c T p mid q F, h b = some (.cells c T (0, 0)) ∧ c.toList = p ++ (mid ++ q) ∧ p.length = off ∧ RelL (Rc h t) xs mid F ∧ (∀ x ∈ F, x ∈ ℓ id ∧ x ≠ b) := by
  unfold elemsAt at he
  split at he
  · rename_i cs hg
    split at he
    · rename_i t' m xs' hc
      simp only [Option.some.injEq, Sigma.mk.injEq] at he
      obtain ⟨rfl, he⟩ := he
      have he' := eq_of_heq he
      subst he'
      obtain ⟨b', k', c, T', F, hρ', hb, hcs, hℓ⟩ := hL.get hg
      rw [hρ] at hρ'
      obtain ⟨rfl, rfl⟩ : b = b' ∧ k = k' := by simpa using hρ'
      obtain ⟨p, m', q, F', ec, hp, ⟨c1, c2, F1, F2, em, eF, h1, h3, h4⟩, hF⟩ := comps_at hcs hc
      subst h3
      obtain rfl : m' = c1 := by simpa using em
      have hnd := hL.nd _ (hget_mem hg)
      rw [hℓ] at hnd
      refine ⟨c, T', p, m', q, F1, hb, ec, hp, h1.2, fun x hx => ?_⟩
      have : x ∈ F := hF x (by rw [eF]; exact List.mem_append_left _ hx)
      exact ⟨by rw [hℓ]; exact List.mem_cons_of_mem _ this, fun e => (List.nodup_cons.1 hnd).1 (e ▸ this)⟩
    · cases he
  · rename_i t' xs' hg
    split at he
    · simp only [Option.some.injEq, Sigma.mk.injEq] at he
      obtain ⟨rfl, he⟩ := he
      have he' := eq_of_heq he
      subst he'
      obtain ⟨hl, ⟨h3, h4, _⟩ | ⟨b', cap, c, T', F, mid, post, h3, h4, h5, h6, h7, h8, h9⟩⟩ := hL.get hg
      · rw [hρ] at h3; cases h3
      · rw [hρ] at h3
        have hb := congrArg (fun o => o.map Prod.fst) h3
        simp only [Option.map_some, Option.some.injEq] at hb
        subst hb
        have hnd := hL.nd _ (hget_mem hg)
        rw [h7] at hnd
        exact ⟨c, T', [], mid, post, F, h4, by simpa using h5, rfl, h6, fun x hx => ⟨by rw [h7]; exact List.mem_cons_of_mem _ hx, fun e => (List.nodup_cons.1 hnd).1 (e ▸ hx)⟩⟩
    · cases he
  · cases he

/-- an element is loaded -/
theorem r_load_elem {T : TypeId} {x : Operand} {id off i : Nat} {t : Ty} {xs : List t.D} (hf : t.flat = true) (ha : ∀ w, (isAgg T).run P w = .ok t.agg w) (hs : ∀ w, (sizeOf T).run P w = .ok t.sz w)
    (hx : evO fr x = some (.elem id off t.sz i)) (he : elemsAt H id off = some ⟨t, xs⟩) (hi : i < xs.length) :
    Reads P ⟨dst, .load T x, ty, pos, aft, g⟩ fr H (ofTy t (xs.getD i t.dflt)) := fun Γ n ρ w a s => by
  obtain ⟨b, k, hρ, e⟩ := s.ev hx
  obtain ⟨ℓ, hL, _⟩ := s.heap
  obtain ⟨c, T', p, mid, q, F, hb, hc, hp, hm, _⟩ := elemsAt_ok hL he hρ
  rw [split_at xs i hi t.dflt] at hm
  obtain ⟨c1, c2, c3, G, em, hc1, hR, _⟩ := RelL.mid hm (fun x c F h => Rc.len t h)
  have hG := Rc.flat t hf hR
  subst hG
  refine ⟨mkV t c2, ra_ofTy hR (by simp), fun w' hk => ?_⟩
  have hlt' : (xs.take i).length = i := by rw [List.length_take]; omega
  have := run_loadVar_at (P := P) (t := t) (E := T) (w := w') (b := b) (c := c) (T := T') (z := (0, 0)) (pre := p ++ c1) (mid := c2) (post := c3 ++ q) (kept_get hk hb) (by rw [hc, em]; simp) (Rc.len t hR) agg_sz ha hs
  have hoff : (p ++ c1).length = off + i * t.sz := by rw [List.length_append, hp, hc1, hlt']
  rw [hoff] at this
  simp only [execOp, e, Instr.loadAt, Instr.sureAddr, Sem.run_bind, Sem.run_pure, Result.andThen_ok, this]

/-- an element of an own row of slices: it is read while it is not written -/
theorem r_load_elemv {T : TypeId} {x : Operand} {id off i : Nat} {t : Ty} {xs : List t.D} (ha : ∀ w, (isAgg T).run P w = .ok t.agg w) (hs : ∀ w, (sizeOf T).run P w = .ok t.sz w)
    (hx : evO fr x = some (.elem id off t.sz i)) (he : elemsAt H id off = some ⟨t, xs⟩) (hi : i < xs.length) :
    Reads P ⟨dst, .load T x, ty, pos, aft, g⟩ fr H (ofTy t (xs.getD i t.dflt)) := fun Γ n ρ w a s => by
  obtain ⟨b, k, hρ, e⟩ := s.ev hx
  obtain ⟨ℓ, hL, hb0⟩ := s.heap
  obtain ⟨c, T', p, mid, q, F, hb, hc, hp, hm, hF⟩ := elemsAt_ok hL he hρ
  rw [split_at xs i hi t.dflt] at hm
  obtain ⟨c1, c2, c3, G, em, hc1, hR, hG⟩ := RelL.mid hm (fun x c F h => Rc.len t h)
  have hid : ∃ e ∈ H, e.1 = id := by
    unfold elemsAt at he
    split at he
    · rename_i cs hg; exact ⟨_, hget_mem hg, rfl⟩
    · rename_i t' xs' hg; exact ⟨_, hget_mem hg, rfl⟩
    · cases he
  obtain ⟨e0, he0, rfl⟩ := hid
  have hno : ∀ y ∈ G, ¬ ownB ρ H y := by
    rintro y hy (⟨e', he', k', hk'⟩ | hn)
    · have hy' := hF y (hG y hy)
      by_cases h : e'.1 = e0.1
      · rw [h, hρ] at hk'
        simp at hk'
        exact hy'.2 hk'.1.symm
      · exact hL.dj e' he' e0 he0 h y (own_head hL he' hk') hy'.1
    · exact s.apart hb0 y hn ⟨e0, he0, (hF y (hG y hy)).1⟩
  refine ⟨mkV t c2, ra_ofTy hR hno, fun w' hk => ?_⟩
  have hlt' : (xs.take i).length = i := by rw [List.length_take]; omega
  have := run_loadVar_at (P := P) (t := t) (E := T) (w := w') (b := b) (c := c) (T := T') (z := (0, 0)) (pre := p ++ c1) (mid := c2) (post := c3 ++ q) (kept_get hk hb) (by rw [hc, em]; simp) (Rc.len t hR) agg_sz ha hs
  have hoff : (p ++ c1).length = off + i * t.sz := by rw [List.length_append, hp, hc1, hlt']
  rw [hoff] at this
  simp only [execOp, e, Instr.loadAt, Instr.sureAddr, Sem.run_bind, Sem.run_pure, Result.andThen_ok, this]

/-- the entry with other elements -/
def compsSet : List Comp → Nat → (t : Ty) → List t.D → List Comp
  | [], _, _, _ => []
  | .arr t' m xs' :: cs, 0, t, xs => .arr t m xs :: cs
  | .cell a :: cs, 0, _, _ => .cell a :: cs
  | c :: cs, o + 1, t, xs => c :: compsSet cs (o + 1 - c.sz) t xs
def blkSet : Blk → Nat → (t : Ty) → List t.D → Blk
  | .var cs, off, t, xs => .var (compsSet cs off t xs)
  | .row _ _, _, t, xs => .row t xs
  | .brow xs, _, _, _ => .brow xs
theorem compsSet_ok {ρ : Rho} {h h' : Hf} {M : Nat → Prop} {t : Ty} {m : Nat} {xs ys : List t.D} (hl : ys.length = xs.length) : ∀ {cs : List Comp} {off : Nat} {vs F} {p mid q : List Value} {ns : List Value}, RComps ρ h M cs vs F → compAt cs off = some (.arr t m xs) →
    vs = p ++ (mid ++ q) → p.length = off → mid.length = ns.length → RelL (Rc h' t) ys ns [] → t.flat = true → (∀ b, ¬ M b → h b ≠ none → h' b = h b ∧ ¬ M b) → (∀ b ∈ F, h' b = h b) → RComps ρ h' M (compsSet cs off t ys) (p ++ (ns ++ q)) F
  | c :: cs, off, vs, F, p, mid, q, ns, hr, hc, hv, hp, hml, hn, hf, hm, hF => by
    cases off with
    | zero =>
      simp only [compAt, Option.some.injEq] at hc
      subst hc
      obtain ⟨c1, c2, F1, F2, e, eF, h1, h2⟩ := hr
      have hp0 : p = [] := List.eq_nil_of_length_eq_zero hp
      subst hp0
      have l1 : c1.length = mid.length := by
        rw [Rc.len _ h1, hml, RelL.len (fun x c F h => Rc.len t h) hn, hl, h1.1]; rfl
      have hF1 : F1 = [] := Rc.flat (.arr m t) hf h1
      subst hF1
      rw [hv] at e
      simp only [List.nil_append] at e
      obtain ⟨rfl, rfl⟩ := List.append_inj e.symm l1
      simp only [compsSet, List.nil_append] at eF ⊢
      subst eF
      exact ⟨ns, _, [], _, rfl, rfl, ⟨by rw [hl]; exact h1.1, hn⟩, h2.same (fun _ _ => rfl) hm hF⟩
    | succ o =>
      simp only [compAt] at hc
      cases hb : Nat.ble c.sz (o + 1) with
      | false => rw [hb] at hc; cases hc
      | true =>
        have hle := Nat.le_of_ble_eq_true hb
        rw [hb] at hc
        simp only [cond_true] at hc
        obtain ⟨v1, v2, F1, F2, e1, e2, h1, h2⟩ := RComps.split (cs := [c]) hr
        have hl1 : v1.length = c.sz := by rw [h1.len]; simp [compsSz]
        subst e1; subst e2
        -- v1 is a part of p
        have hpl : v1.length ≤ p.length := by omega
        have hp' : p = v1 ++ p.drop v1.length := by
          have := congrArg (List.take v1.length) hv
          rw [List.take_left, List.take_append_of_le_length hpl] at this
          conv => lhs; rw [← List.take_append_drop v1.length p]
          rw [← this]
        have hv2 : v2 = p.drop v1.length ++ (mid ++ q) := by
          have := congrArg (List.drop v1.length) hv
          rwa [List.drop_left, List.drop_append_of_le_length hpl] at this
        have ih := compsSet_ok hl (p := p.drop v1.length) h2 hc hv2 (by rw [List.length_drop]; omega) hml hn hf hm (fun b hb => hF b (List.mem_append_right _ hb))
        have h3 := RComps.append (h1.same (fun _ _ => rfl) hm (fun b hb => hF b (List.mem_append_left _ hb))) ih
        have e3 : compsSet (c :: cs) (o + 1) t ys = [c] ++ compsSet cs (o + 1 - c.sz) t ys := by cases c <;> rfl
        rw [e3, hp']
        simpa [List.append_assoc] using h3

/-- an element is stored -/
theorem e_store_elem {T : TypeId} {x y : Operand} {id off i : Nat} {t : Ty} {xs : List t.D} {e : t.D} {B : Blk} (hf : t.flat = true) (hs : ∀ w, (sizeOf T).run P w = .ok t.sz w)
    (hx : evO fr x = some (.elem id off t.sz i)) (hy : evO fr y = some (ofTy t e)) (hg : hget H id = some B) (he : elemsAt H id off = some ⟨t, xs⟩) (hi : i < xs.length) :
    EffS P n ⟨none, .store T x y, ty, pos, aft, g⟩ fr H fr (hset H id (blkSet B off t (xs.set i e))) := fun Γ ρ w a s => by
  obtain ⟨b, k, hρ, ex⟩ := s.ev hx
  have hv := s.ev hy
  obtain ⟨ℓ, hL, _⟩ := s.heap
  -- the cells of the new element
  have hcells : ∃ ns, (a.eval y).cells.toList = ns ∧ ∀ h', Rc h' t e ns [] := by
    have key : ∀ (u : Value), RA ρ (World.hf w) (ownB ρ H) (ofTy t e) u → ∃ ns, u.cells.toList = ns ∧ ∀ h', Rc h' t e ns [] := by
      intro u hu
      have h2 : ∃ cs F, Rc (World.hf w) t e cs F ∧ u = mkV t cs := by
        cases t with
        | int k => simp only [ofTy, RA] at hu; subst hu; exact ⟨[_], [], ⟨rfl, rfl⟩, rfl⟩
        | bool => simp only [ofTy, RA] at hu; subst hu; exact ⟨[_], [], ⟨rfl, rfl⟩, rfl⟩
        | str => simp only [ofTy, RA] at hu; subst hu; exact ⟨[_], [], ⟨rfl, rfl⟩, rfl⟩
        | arr n t => obtain ⟨F, ⟨cs, h1, e⟩, _⟩ := hu; exact ⟨cs, F, h1, e⟩
        | slice t => obtain ⟨F, ⟨cs, h1, e⟩, _⟩ := hu; exact ⟨cs, F, h1, e⟩
        | unit => obtain ⟨F, ⟨cs, h1, e⟩, _⟩ := hu; exact ⟨cs, F, h1, e⟩
        | pair p q => obtain ⟨F, ⟨cs, h1, e⟩, _⟩ := hu; exact ⟨cs, F, h1, e⟩
      obtain ⟨cs, F, h1, rfl⟩ := h2
      have hF := Rc.flat t hf h1
      subst hF
      refine ⟨cs, ?_, fun h' => h1.same t (by simp)⟩
      cases hagg : t.agg with
      | true => simp [mkV, hagg, Value.cells]
      | false =>
        obtain ⟨u, rfl⟩ := one_cell hagg h1
        have h3 := Rc.one t h1 u (by simp)
        simp only [mkV, hagg, Bool.false_eq_true, if_false, List.headD_cons]
        cases u <;> simp [Value.oneCell'] at h3 <;> rfl
    exact key _ hv
  obtain ⟨ns, hns, hR⟩ := hcells
  have hnl : ns.length = t.sz := Rc.len t (hR (World.hf w))
  obtain ⟨c, T', p, mid, q, F, hb, hc, hp, hm, _⟩ := elemsAt_ok hL he hρ
  have hFn : F = [] := RelL.flat (fun x c F h => Rc.flat t hf h) hm
  subst hFn
  have hset := RelL.set (R' := Rc (World.hf w) t) hi hm (fun x c F h => Rc.len t h) (fun x c F h => Rc.flat t hf h) (fun _ _ h => h) (hR (World.hf w)) hnl
  have hclen : c.size = p.length + (mid.length + q.length) := by rw [← Array.length_toList, hc]; simp
  have h1 := hset.1
  have hrun := run_storeVar (P := P) (T := T) (v := a.eval y) (ns := ns) (b := b) (off := off + i * t.sz) (c := c) (T' := T') (w := w) (by rw [hnl]; exact hs) hns hb (by omega) (fun u hu => Rc.one t (hR (World.hf w)) u hu)
  have hcl : c.toList.take (off + i * t.sz) ++ ns ++ c.toList.drop (off + i * t.sz + ns.length) = p ++ ((mid.take (i * t.sz) ++ ns ++ mid.drop (i * t.sz + ns.length)) ++ q) := by
    have hle1 : i * t.sz ≤ mid.length := by omega
    have hle2 : i * t.sz + ns.length ≤ mid.length := h1
    rw [hc, ← hp, List.take_length_add_append, List.take_append_of_le_length hle1, Nat.add_assoc, List.drop_length_add_append, List.drop_append_of_le_length hle2]
    simp
  refine ⟨w.setRow b (c.toList.take (off + i * t.sz) ++ ns ++ c.toList.drop (off + i * t.sz + ns.length)).toArray, ρ, ?_, s.write hg hρ hb (fun ℓ' h' hk' hb' hne hM => ?_)⟩
  · simp only [execOp, Instr.storeAt, ex, Instr.sureAddr, Sem.run_bind, Sem.run_pure, Result.andThen_ok, hrun]
  · have hset' := RelL.set (R' := Rc h' t) hi hm (fun x c F h => Rc.len t h) (fun x c F h => Rc.flat t hf h) (fun x c hx => hx.same t (by simp)) (hR h') hnl
    have hnew := hset'.2
    have hlset : (mid.take (i * t.sz) ++ ns ++ mid.drop (i * t.sz + ns.length)).length = mid.length := by
      simp only [List.length_append, List.length_take, List.length_drop]; omega
    rw [hcl] at hb'
    unfold elemsAt at he
    rw [hg] at he
    cases B with
    | brow xs' => cases he
    | var cs =>
      simp only at he
      split at he
      · rename_i t' m xs' hca
        simp only [Option.some.injEq, Sigma.mk.injEq] at he
        obtain ⟨rfl, he⟩ := he
        have he' := eq_of_heq he
        subst he'
        obtain ⟨b2, k2, c2, T2, F2, h3, h4, h5, h6⟩ := hk'.get hg
        rw [hρ] at h3
        obtain ⟨rfl, rfl⟩ : b = b2 ∧ k = k2 := by simpa using h3
        rw [show World.hf w b = some (.cells c T' (0, 0)) from hb] at h4
        simp only [Option.some.injEq, Obj.cells.injEq] at h4
        obtain ⟨rfl, rfl, _⟩ := h4
        have hnd2 : (b :: F2).Nodup := by have := hk'.nd _ (hget_mem hg); rw [h6] at this; exact this
        have hFne : ∀ x ∈ F2, x ≠ b := fun x hx e => (List.nodup_cons.1 hnd2).1 (e ▸ hx)
        refine ⟨b :: F2, ⟨b, k, _, T', F2, hρ, hb', ?_, rfl⟩, hnd2, fun x hx => by rw [h6]; exact hx⟩
        have := compsSet_ok (h' := h') (ys := xs'.set i e) (by simp) h5 hca hc hp hlset.symm hnew hf hM (fun x hx => hne x (hFne x hx))
        simpa using this
      · cases he
    | row t' xs' =>
      simp only at he
      split at he
      · simp only [Option.some.injEq, Sigma.mk.injEq] at he
        obtain ⟨rfl, he⟩ := he
        have he' := eq_of_heq he
        subst he'
        obtain ⟨hl, ⟨h3, h4, _⟩ | ⟨b2, cap, c2, T2, F2, mid2, post, h3, h4, h5, h6, h7, h8, h9⟩⟩ := hk'.get hg
        · rw [hρ] at h3; cases h3
        · rw [hρ] at h3
          obtain ⟨rfl, rfl⟩ : b = b2 ∧ k = (cap, _) := by simpa using h3
          rw [show World.hf w b = some (.cells c T' (0, 0)) from hb] at h4
          simp only [Option.some.injEq, Obj.cells.injEq] at h4
          obtain ⟨rfl, rfl, _⟩ := h4
          have hF2 : F2 = [] := RelL.flat (fun x c F h => Rc.flat t' hf h) h6
          subst hF2
          have hp0 : p = [] := List.eq_nil_of_length_eq_zero hp
          subst hp0
          refine ⟨[b], ⟨by simpa using hl, .inr ⟨b, cap, _, T', [], _, q, by simpa using hρ, hb', rfl, hnew, rfl, by simpa using h8, ?_, NoFz.nil⟩⟩, by simp, fun x hx => by rw [h7]; exact hx⟩
          rw [← h9.1, hclen]
          simp only [List.size_toArray, List.length_append, List.length_nil, Nat.zero_add]
          simp only [List.length_take, List.length_drop, List.length_append] at hlset ⊢
          omega
      · cases he
end
end Go.GA
end
section
namespace Go.GA
open Go Go.RowKit

/-- the bounds of a slice expression -/
inductive Lo (fr : Fr) : Option Operand → Int → Prop
  | none : Lo fr Option.none 0
  | some {o : Operand} {k : IntKind} {i : Int} : evO fr o = Option.some (.int k i) → Lo fr (Option.some o) i
inductive Hi (fr : Fr) (len : Int) : Option Operand → Int → Prop
  | none : Hi fr len Option.none len
  | some {o : Operand} {k : IntKind} {i : Int} : evO fr o = Option.some (.int k i) → Hi fr len (Option.some o) i

theorem run_bounds {P : Program} {ρ : Rho} {h : Hf} {M : Nat → Prop} {fr : Fr} {ev : Operand → Value} (hev : ∀ o y, evO fr o = some y → RA ρ h M y (ev o)) {isSlice : Bool} {len cap : Nat} {lo hi : Option Operand} {l m : Int}
    (hlo : Lo fr lo l) (hhi : Hi fr (len : Int) hi m) (h0 : 0 ≤ l) (h1 : l ≤ m) (h2 : m ≤ (len : Int)) (h3 : len ≤ cap) (w : World) :
    (Instr.sliceBounds isSlice len cap (lo.map ev) (hi.map ev) none).run P w = .ok (l.toNat, m.toNat, cap) w := by
  have e1 : ∀ {o : Operand} {k : IntKind} {i : Int}, evO fr o = some (.int k i) → ev o = .int k i := fun h => by have := hev _ _ h; simpa only [RA] using this
  unfold Instr.sliceBounds
  cases hhi with
  | none =>
    cases hlo with
    | none => simp
    | some hl =>
      have : (0 ≤ l ∧ l ≤ (len : Int)) := ⟨h0, h1⟩
      simp [Instr.sliceBound, e1 hl, asIntOf, this]
  | some hm =>
    have a1 : 0 ≤ m ∧ m ≤ (cap : Int) := ⟨by omega, by omega⟩
    cases hlo with
    | none => simp [Instr.sliceBound, e1 hm, asIntOf, a1]
    | some hl =>
      have a2 : (0 ≤ l ∧ l ≤ m) := ⟨h0, h1⟩
      have a3 : max m 0 = m := by omega
      simp [Instr.sliceBound, e1 hl, e1 hm, asIntOf, a1, a2, a3]

section
variable {P : Program} {n : Sz} {fr : Fr} {H : Hp} {dst : Option Nat} {ty : TypeId} {pos : String} {aft : Array Edge} {g : Option (Nat × Bool)}

/-- an own array as a slice, or a part of it -/
theorem r_slice_arr {T E : TypeId} {x : Operand} {id off m sz : Nat} {lo hi : Option Operand} {l u : Int} (hu : P.underlying T = some (.array m E)) (hs : ∀ w, (sizeOf E).run P w = .ok sz w) (hx : evO fr x = some (.ref id off))
    (hlo : Lo fr lo l) (hhi : Hi fr (m : Int) hi u) (h0 : 0 ≤ l) (h1 : l ≤ u) (h2 : u ≤ (m : Int)) :
    Reads P ⟨dst, .slice T x lo hi none, ty, pos, aft, g⟩ fr H (.view id off sz l.toNat (u - l).toNat) := fun Γ n ρ w a s => by
  obtain ⟨b, k, hρ, e⟩ := s.ev hx
  have hb := fun w' => run_bounds (P := P) (isSlice := false) (len := m) (cap := m) (fun o y h => s.ev h) hlo hhi h0 h1 h2 (Nat.le_refl _) w'
  have hsub : u.toNat - l.toNat = (u - l).toNat := by omega
  refine ⟨_, ?_, fun w' _ => by simp only [execOp, Instr.sliceAt, Sem.run_bind, run_underlying hu, Result.andThen_ok, e, Instr.sureAddr, Sem.run_pure, Option.map_none, hb, hs]; rfl⟩
  by_cases hl : m = l.toNat
  · rw [if_pos hl]
    refine .inl ⟨by omega, some ⟨b, off, none⟩, m - l.toNat, ?_⟩
    have : u.toNat - l.toNat = 0 := by omega
    rw [this]
  · rw [if_neg hl]
    refine .inr ⟨b, k, m - l.toNat - (u - l).toNat, hρ, ?_⟩
    rw [hsub, addr_add]
    congr 1; omega

/-- a part of a slice that came in -/
theorem r_slice_v {T E : TypeId} {x : Operand} {t : Ty} {xs : List t.D} {lo hi : Option Operand} {l u : Int} (hu : P.underlying T = some (.slice E)) (hs : ∀ w, (sizeOf E).run P w = .ok t.sz w) (hx : evO fr x = some (.v (.slice t) xs))
    (hlo : Lo fr lo l) (hhi : Hi fr (xs.length : Int) hi u) (h0 : 0 ≤ l) (h1 : l ≤ u) (h2 : u ≤ (xs.length : Int)) :
    Reads P ⟨dst, .slice T x lo hi none, ty, pos, aft, g⟩ fr H (.v (.slice t) ((xs.take u.toNat).drop l.toNat)) := fun Γ n ρ w a s => by
  obtain ⟨F, ⟨cs, ⟨hl, hc⟩, hv⟩, hF⟩ := s.ev hx
  have hlen : ((xs.take u.toNat).drop l.toNat).length = u.toNat - l.toNat := by simp; omega
  have hle : ((xs.take u.toNat).drop l.toNat).length ≤ lim := by rw [hlen]; omega
  rcases hc with ⟨e0, _, a', cap, e⟩ | ⟨b, off, ex, F', e, eF, c, T', z, p, m, q, hb, hcl, hp, hm⟩
  · subst e
    have hv' : a.eval x = .slice a' 0 cap := by rw [hv]; rfl
    have hlen0 : xs.length = 0 := by rw [e0]; rfl
    have hu0 : u = 0 := by omega
    have hl0 : l = 0 := by omega
    have hb := fun w' => run_bounds (P := P) (isSlice := true) (len := 0) (cap := cap) (fun o y h => s.ev h) hlo (by simpa [hlen0] using hhi) h0 h1 (by omega) (Nat.zero_le _) w'
    subst hu0; subst hl0
    simp only [Int.toNat_zero] at hb
    refine ⟨.slice a' 0 cap, ⟨[], ⟨[.slice a' 0 cap], ⟨by simp, .inl ⟨by simp; rfl, rfl, a', cap, rfl⟩⟩, rfl⟩, by simp⟩, fun w' _ => ?_⟩
    have e2 : (if cap = 0 then a' else Option.map (fun y => y.add (0 * t.sz)) a') = a' := by
      split
      · rfl
      · cases a' <;> simp [Addr.add]
    simp only [execOp, Instr.sliceAt, Instr.slice, Sem.run_bind, run_underlying hu, Result.andThen_ok, hv', Option.map_none, hb, hs, e2, Nat.sub_zero]
    simp [e2]
  · subst e
    have hv' : a.eval x = .slice (some ⟨b, off, none⟩) xs.length (xs.length + ex) := by rw [hv]; rfl
    have hb' := fun w' => run_bounds (P := P) (isSlice := true) (len := xs.length) (cap := xs.length + ex) (fun o y h => s.ev h) hlo hhi h0 h1 h2 (by omega) w'
    by_cases hz : u.toNat = l.toNat
    · have hnil : (xs.take u.toNat).drop l.toNat = [] := by rw [hz]; simp
      rw [hnil]
      refine ⟨.slice (if xs.length + ex = l.toNat then some ⟨b, off, none⟩ else some ⟨b, off + l.toNat * t.sz, none⟩) 0 (xs.length + ex - l.toNat), ⟨[], ⟨[.slice _ 0 _], ⟨by simp, .inl ⟨rfl, rfl, _, _, rfl⟩⟩, rfl⟩, by simp⟩, fun w' _ => ?_⟩
      simp only [execOp, Instr.sliceAt, Instr.slice, Sem.run_bind, run_underlying hu, Result.andThen_ok, hv', Option.map_none, hb', hs]
      by_cases hcl : xs.length + ex = l.toNat
      · simp [hcl, hz]
      · simp [hcl, hz, addr_add]
    · have hne : xs.length + ex ≠ l.toNat := by omega
      have e1 : xs = (xs.take l.toNat) ++ ((xs.take u.toNat).drop l.toNat ++ xs.drop u.toNat) := by
        have h2 : xs.take u.toNat = xs.take l.toNat ++ (xs.take u.toNat).drop l.toNat := by
          conv => lhs; rw [← List.take_append_drop l.toNat (xs.take u.toNat)]
          rw [List.take_take, Nat.min_eq_left (by omega)]
        rw [← List.append_assoc, ← h2, List.take_append_drop]
      obtain ⟨hm, hN⟩ := hm
      rw [e1] at hm
      obtain ⟨c1, c2, F1, F2, g1, g2, g3, g4⟩ := RelL.split hm
      obtain ⟨d1, d2, G1, G2, k1, k2, k3, k4⟩ := RelL.split g4
      have l1 : c1.length = l.toNat * t.sz := by
        rw [RelL.len (fun x c F h => Rc.len t h) g3, List.length_take, Nat.min_eq_left (by omega)]
      refine ⟨.slice (some ⟨b, off + l.toNat * t.sz, none⟩) (u.toNat - l.toNat) (xs.length + ex - l.toNat), ⟨b :: G1, ⟨[_], ⟨hle, .inr ⟨b, off + l.toNat * t.sz, xs.length + ex - u.toNat, G1, by rw [hlen]; congr 2; omega, rfl, c, T', z, p ++ c1, d1, d2 ++ q, hb, by rw [hcl, g1, k1]; simp, by rw [List.length_append, hp, l1], k3, hN.sub (Nat.le_add_right _ _) (by rw [g1, k1]; simp only [List.length_append]; omega)⟩⟩, rfl⟩, fun x hx => hF x (by
          rw [eF, g2, k2]
          rcases List.mem_cons.1 hx with h | h
          · rw [h]; simp
          · simp [h])⟩, fun w' _ => ?_⟩
      simp only [execOp, Instr.sliceAt, Instr.slice, Sem.run_bind, run_underlying hu, Result.andThen_ok, hv', Option.map_none, hb', hs]
      simp [hne, addr_add]

theorem r_len_os {T E : TypeId} {x : Operand} {id : Nat} {t : Ty} {xs : List t.D} (hu : P.underlying T = some (.slice E)) (hx : evO fr x = some (.os id)) (hg : hget H id = some (.row t xs)) :
    Reads P ⟨dst, .call ⟨.builtin .len, #[x], #[T]⟩, ty, pos, aft, g⟩ fr H (.int .i64 (xs.length : Int)) := fun Γ n ρ w a s => by
  obtain ⟨ℓ, hL, _⟩ := s.heap
  have fin : ∀ (a' : Option Addr) (len cap : Nat), a.eval x = .slice a' len cap → len = xs.length → ∃ v, RA ρ (World.hf w) (ownB ρ H) (.int .i64 (xs.length : Int)) v ∧ ∀ w', Kept w w' → (execOp a.eval ⟨dst, .call ⟨.builtin .len, #[x], #[T]⟩, ty, pos, aft, g⟩).run P w' = .ok (.value v) w' := by
    intro a' len cap e hl
    exact ⟨_, rfl, fun w' _ => by simp [execOp, resolve, invoke, Go.builtin, Builtin.len_, e, Sem.run_bind, run_underlying hu, goInt, hl]⟩
  obtain ⟨hl, ⟨h3, h4, _⟩ | ⟨b, cap, c, T', F, mid, post, h3, h4, h5, h6, h7, h8, h9⟩⟩ := hL.get hg
  · rcases s.ev hx with ⟨_, e⟩ | ⟨b', cap', len, hx', e⟩
    · exact fin _ _ _ e (by rw [h4]; rfl)
    · rw [h3] at hx'; cases hx'
  · rcases s.ev hx with ⟨hx', _⟩ | ⟨b', cap', len, hx', e⟩
    · rw [h3] at hx'; cases hx'
    · rw [h3] at hx'
      obtain ⟨rfl, rfl, rfl⟩ : b = b' ∧ cap = cap' ∧ List.length (α := t.D) xs = len := by simpa using hx'
      exact fin _ _ _ e rfl
/-- the address of a field of an own struct -/
theorem r_fieldAddr {S : TypeId} {x : Operand} {id off k o : Nat} {fs : Array Field} {fd : Field} {s' : Nat} (hu : P.underlying S = some (.struct fs)) (hf : fs[k]? = some fd) (hs : ∀ w, (sizeOf fd.type).run P w = .ok s' w) (hs0 : Nat.beq s' 0 = false)
    (hx : evO fr x = some (.ref id off)) (ho : off + fd.offset = o) : Reads P ⟨dst, .fieldAddr S x k, ty, pos, aft, g⟩ fr H (.ref id o) := fun Γ n ρ w a s => by
  obtain ⟨b, kk, hρ, e⟩ := s.ev hx
  subst ho
  have hne : s' ≠ 0 := Nat.ne_of_beq_eq_false hs0
  refine ⟨_, ⟨b, kk, hρ, rfl⟩, fun w' _ => ?_⟩
  simp [execOp, Instr.fieldAt, e, Sem.run_bind, run_underlying hu, hf, Instr.sureAddr, fieldPlace, hs, hne, addr_add]
/-- a part of an own array, or of an own row, handed to what only reads -/
theorem ad_view {H' : Hp} {σ : Nat → Nat} {id off l len : Nat} {t : Ty} {xs : List t.D} (hf : t.flat = true) (he : elemsAt H id off = some ⟨t, xs⟩) (hl : l + len ≤ xs.length) (hm : len ≤ lim) (hn : ∀ e' ∈ H', σ e'.1 ≠ id) :
    Ad H H' σ (.view id off t.sz l len) (.v (.slice t) ((xs.drop l).take len)) := fun ρ h ℓ hk hm' hd v hx => by
  have hlen : ((xs.drop l).take len).length = len := by simp; omega
  rcases hx with ⟨h0, a, cap, e⟩ | ⟨b, k, ex, hρ, e⟩
  · subst e; subst h0
    exact ⟨[], ⟨[_], ⟨by simp, .inl ⟨by simp; rfl, rfl, a, cap, rfl⟩⟩, rfl⟩, by simp⟩
  · subst e
    obtain ⟨c, T, p, mid, q, F, hb, hc, hp, hR, hF⟩ := elemsAt_ok hk he hρ
    have e1 : xs = xs.take l ++ ((xs.drop l).take len ++ (xs.drop l).drop len) := by rw [List.take_append_drop, List.take_append_drop]
    rw [e1] at hR
    obtain ⟨c1, c2, F1, F2, g1, g2, g3, g4⟩ := RelL.split hR
    obtain ⟨d1, d2, G1, G2, k1, k2, k3, k4⟩ := RelL.split g4
    have l1 : c1.length = l * t.sz := by rw [RelL.len (fun x c F h => Rc.len t h) g3, List.length_take, Nat.min_eq_left (by omega)]
    have f1 : G1 = [] := RelL.flat (fun x c F h => Rc.flat t hf h) k3
    subst f1
    have hid : ∃ e ∈ H, e.1 = id := by
      unfold elemsAt at he
      split at he
      · rename_i cs hg; exact ⟨_, hget_mem hg, rfl⟩
      · rename_i t' xs' hg; exact ⟨_, hget_mem hg, rfl⟩
      · cases he
    obtain ⟨e0, he0, rfl⟩ := hid
    refine ⟨[b], ⟨[_], ⟨by rw [hlen]; exact hm, .inr ⟨b, off + l * t.sz, ex, [], by rw [hlen], rfl, c, T, _, p ++ c1, d1, d2 ++ q, hb, by rw [hc, g1, k1]; simp, by rw [List.length_append, hp, l1], k3, NF.zero _ _⟩⟩, rfl⟩, fun x hx => ?_⟩
    simp only [List.mem_singleton] at hx
    subst hx
    exact hd e0 he0 hn x (own_head hk he0 hρ)
end
end Go.GA
end
section
namespace Go.GA
open Go Go.RowKit

/-- the entries l are used up, and an entry comes in their place -/
theorem SIM.replace0 {Γ : Ctx} {n : Sz} {ρ : Rho} {w w' : World} {a : Act} {fr : Fr} {H : Hp} (s : SIM Γ n ρ w a fr H) (l : List Nat) {id : Nat} (hid : freshB id fr H = true) (hK : Nat.ble n.K id = true) {B : Blk} {p : Option (Nat × Nat × Nat)} (hBi : memB id B.ids = false)
    (hos : w'.os = w.os) (htape : w'.tape = w.tape) (hout : w'.output = w.output) (hsize : w.heap.size ≤ w'.heap.size) (hblk : ∀ b, b < w.heap.size → (∀ e ∈ H, e.1 ∈ l → ∀ k, ρ e.1 ≠ some (b, k)) → w'.heap[b]? = w.heap[b]?)
    (hp : ∀ b k, p = some (b, k) → (∃ e ∈ H, e.1 ∈ l ∧ ∃ k', ρ e.1 = some (b, k')) ∨ w.heap.size ≤ b)
    (hnew : ∀ ℓ, HeapOK ρ (World.hf w) H ℓ → (∀ b, ¬ ownB ρ H b → World.hf w b ≠ none → World.hf w' b = World.hf w b ∧ ¬ ownB (upd ρ id p) ((id, B) :: hdel l H) b) →
      ∃ L, RBlk (upd ρ id p) (World.hf w') (ownB (upd ρ id p) ((id, B) :: hdel l H)) id B L ∧ L.Nodup ∧ ∀ b ∈ L, (∃ e ∈ H, e.1 ∈ l ∧ b ∈ ℓ e.1) ∨ w.heap.size ≤ b) :
    SIM Γ n (upd ρ id p) w' a fr ((id, B) :: hdel l H) := by
  have hin := freshB_H hid
  have hneq : ∀ e ∈ H, e.1 ≠ id := fun e he h => hin (h ▸ hids_head he)
  obtain ⟨ℓ, hk, hl⟩ := s.heap
  have hsz : Γ.W0.heap.size ≤ w.heap.size := s.ext.size
  have hlt : ∀ e ∈ H, ∀ b ∈ ℓ e.1, b < w.heap.size := fun e he b h => hf_lt (hk.there he b h)
  have hown : ∀ b, namB (upd ρ id p) ((id, B) :: hdel l H) b → namB ρ H b ∨ w.heap.size ≤ b := by
    rintro b ⟨e, he, k, hb⟩
    rcases List.mem_cons.1 he with rfl | he
    · rw [upd_same] at hb
      rcases hp b k hb with ⟨e', he', _, k', hk'⟩ | h
      · exact .inl ⟨e', he', k', hk'⟩
      · exact .inr h
    · have h1 := (mem_hdel.1 he).1
      rw [upd_other _ _ (hneq e h1)] at hb
      exact .inl ⟨e, h1, k, hb⟩
  have hkeep : ∀ b, World.hf w b ≠ none → (∀ e ∈ H, e.1 ∈ l → ∀ k, ρ e.1 ≠ some (b, k)) → World.hf w' b = World.hf w b := fun b h1 h2 => hblk b (hf_lt h1) h2
  have hM : ∀ b, ¬ ownB ρ H b → World.hf w b ≠ none → World.hf w' b = World.hf w b ∧ ¬ ownB (upd ρ id p) ((id, B) :: hdel l H) b := fun b h1 h2 =>
    ⟨hkeep b h2 (fun e he _ k hb => h1 (.inl ⟨e, he, k, hb⟩)), fun h => by
      rcases h with h | h
      · rcases hown b h with h | h
        · exact h1 (.inl h)
        · have := hf_lt h2; omega
      · exact h1 (.inr h)⟩
  obtain ⟨L, hL, hLn, hLs⟩ := hnew ℓ hk hM
  have hdsame : ∀ e ∈ hdel l H, ∀ b ∈ ℓ e.1, World.hf w' b = World.hf w b := by
    intro e he b hb
    obtain ⟨h1, h2⟩ := mem_hdel.1 he
    refine hkeep b (hk.there h1 b hb) (fun e' he' hl' k hk' => ?_)
    exact hk.dj e' he' e h1 (fun h => h2 (h ▸ hl')) b (own_head hk he' hk') hb
  have hℓ0 : updL ℓ id L id = L := updL_same _ _ _
  have hℓ : ∀ e ∈ hdel l H, updL ℓ id L e.1 = ℓ e.1 := fun e he => updL_other _ _ (hneq e (mem_hdel.1 he).1)
  refine ⟨s.defers, s.size, ⟨hos.trans s.ext.os, htape.trans s.ext.tape, hout.trans s.ext.output, Nat.le_trans hsz hsize, fun k hk' hm => ?_⟩, ?_, ?_, ⟨updL ℓ id L, ⟨?_, ?_, ?_, ?_⟩, ?_⟩, ?_⟩
  · rw [hblk k (by omega) (fun e he _ k' hb => by
      rcases s.own k ⟨e, he, k', hb⟩ with h | h
      · exact hm h
      · omega)]
    exact s.ext.block k hk' hm
  · intro i hi
    have : i ≠ id := fun h => by have := Nat.le_of_ble_eq_true hK; omega
    rw [upd_other _ _ this]; exact s.keep i hi
  · intro b hb
    rcases hown b hb with h | h
    · exact s.own b h
    · exact .inr (by omega)
  · intro e he
    rcases List.mem_cons.1 he with rfl | he
    · rw [hℓ0]; exact hL
    · rw [hℓ e he]
      obtain ⟨h1, h2⟩ := mem_hdel.1 he
      exact (hk.blk e h1).same (fun i hi => upd_other _ _ (fun h => hin (h ▸ mem_hids h1 hi))) hM (hdsame e he)
  · intro e he
    rcases List.mem_cons.1 he with rfl | he
    · rw [hℓ0]; exact hLn
    · rw [hℓ e he]; exact hk.nd e (mem_hdel.1 he).1
  · have hc : ∀ e ∈ hdel l H, ∀ b ∈ L, b ∉ ℓ e.1 := by
      intro e he b hb hb'
      obtain ⟨h1, h2⟩ := mem_hdel.1 he
      rcases hLs b hb with ⟨e', he', hl', hb2⟩ | h
      · exact hk.dj e' he' e h1 (fun h => h2 (h ▸ hl')) b hb2 hb'
      · have := hlt e h1 b hb'; omega
    intro e he e' he' hne b hb
    rcases List.mem_cons.1 he with rfl | he <;> rcases List.mem_cons.1 he' with rfl | he'
    · exact absurd rfl hne
    · rw [hℓ0] at hb; rw [hℓ e' he']; exact hc e' he' b hb
    · rw [hℓ e he] at hb; rw [hℓ0]; exact fun h => hc e he b h hb
    · rw [hℓ e he] at hb; rw [hℓ e' he']
      exact hk.dj e (mem_hdel.1 he).1 e' (mem_hdel.1 he').1 hne b hb
  · simp only [List.map_cons, List.nodup_cons, List.mem_map]
    exact ⟨fun ⟨e, he, h⟩ => hneq e (mem_hdel.1 he).1 h, hdel_keys hk.ids⟩
  · intro e he b hb
    rcases List.mem_cons.1 he with rfl | he
    · rw [hℓ0] at hb
      rcases hLs b hb with ⟨e', he', _, hb2⟩ | h
      · exact hl e' he' b hb2
      · exact .inr (by omega)
    · rw [hℓ e he] at hb; exact hl e (mem_hdel.1 he).1 b hb
  · intro t x hx
    obtain ⟨h1, h2⟩ := s.fr t x hx
    exact ⟨h1, h2.same x (fun i hi => upd_other _ _ (fun h => freshB_fr hid (h ▸ get_ids hx i hi))) hM⟩

theorem SIM.replace {Γ : Ctx} {n : Sz} {ρ : Rho} {w w' : World} {a : Act} {fr : Fr} {H : Hp} (s : SIM Γ n ρ w a fr H) (l : List Nat) {id : Nat} (hid : freshB id fr H = true) (hK : Nat.ble n.K id = true) {B : Blk} {p : Option (Nat × Nat × Nat)} (hBi : memB id B.ids = false)
    (hos : w'.os = w.os) (htape : w'.tape = w.tape) (hout : w'.output = w.output) (hsize : w.heap.size ≤ w'.heap.size) (hblk : ∀ b, b < w.heap.size → (∀ e ∈ H, e.1 ∈ l → ∀ k, ρ e.1 ≠ some (b, k)) → w'.heap[b]? = w.heap[b]?)
    (hp : ∀ b k, p = some (b, k) → (∃ e ∈ H, e.1 ∈ l ∧ ∃ k', ρ e.1 = some (b, k')) ∨ w.heap.size ≤ b)
    (hnew : ∀ ℓ, HeapOK ρ (World.hf w) H ℓ → (∀ b, ¬ ownB ρ H b → World.hf w b ≠ none → World.hf w' b = World.hf w b ∧ ¬ ownB (upd ρ id p) ((id, B) :: hdel l H) b) →
      ∃ L, RBlk (upd ρ id p) (World.hf w') (ownB (upd ρ id p) ((id, B) :: hdel l H)) id B L ∧ L.Nodup ∧ ∀ b ∈ L, (∃ e ∈ H, e.1 ∈ l ∧ b ∈ ℓ e.1) ∨ w.heap.size ≤ b) :
    SIM Γ n (upd ρ id p) w' a fr ((id, B) :: hdel l H) ∧ Grew ρ (upd ρ id p) w w' H ((id, B) :: hdel l H) := by
  refine ⟨s.replace0 l hid hK hBi hos htape hout hsize hblk hp hnew, hos, htape, hout, hsize, fun b hb h => hblk b hb (fun e he hel k => h e he (fun e' he' => ?_) k), fun e' he' b k hb => ?_⟩
  · rcases List.mem_cons.1 he' with rfl | he'
    · exact fun h => freshB_H hid ((show id = _ from h) ▸ hids_head he)
    · exact fun h => (mem_hdel.1 he').2 (h ▸ hel)
  · rcases List.mem_cons.1 he' with rfl | he'
    · rw [upd_same] at hb
      rcases hp b k hb with ⟨e, he, hel, k', h⟩ | h
      · refine .inr (.inl ⟨e, he, fun e' he' => ?_, k', h⟩)
        rcases List.mem_cons.1 he' with rfl | he'
        · exact fun h => freshB_H hid ((show id = _ from h) ▸ hids_head he)
        · exact fun h => (mem_hdel.1 he').2 (h ▸ hel)
      · exact .inr (.inr h)
    · have h2 := (mem_hdel.1 he').1
      have hne : e'.1 ≠ id := fun h => freshB_H hid (h ▸ hids_head h2)
      rw [upd_other _ _ hne] at hb
      exact .inl ⟨e', h2, rfl, hb⟩
theorem hdel_nil : ∀ (H : Hp), hdel [] H = H
  | [] => rfl
  | (i, B) :: H => by simp [hdel, memB, hdel_nil H]

/-! ### Zero values -/
def zc : Ty → List Value
  | .bool => [.bool false]
  | .int k => [.int k 0]
  | .str => [.string .empty]
  | .slice _ => [.slice none 0 0]
  | .unit => []
  | .pair a b => zc a ++ zc b
  | .arr n t => (List.replicate n (zc t)).flatten
theorem relL_rep {α : Type} {R : α → List Value → List Nat → Prop} {x : α} {c : List Value} (h : R x c []) : ∀ (m : Nat), RelL R (List.replicate m x) (List.replicate m c).flatten []
  | 0 => ⟨rfl, rfl⟩
  | m + 1 => ⟨c, _, [], [], rfl, rfl, h, relL_rep h m⟩
theorem zc_ok (h : Hf) : ∀ (t : Ty), Rc h t t.dflt (zc t) []
  | .bool => ⟨rfl, rfl⟩
  | .int _ => ⟨rfl, rfl⟩
  | .str => ⟨rfl, rfl⟩
  | .slice _ => ⟨Nat.zero_le _, .inl ⟨rfl, rfl, _, _, rfl⟩⟩
  | .unit => ⟨rfl, rfl⟩
  | .pair a b => ⟨_, _, [], [], rfl, rfl, zc_ok h a, zc_ok h b⟩
  | .arr n t => ⟨by simp [Ty.dflt], relL_rep (zc_ok h t) n⟩

theorem rep_mod (zs : Array Value) (m : Nat) : ((Array.range (m * zs.size)).map fun i => zs[i % zs.size]!).toList = (List.replicate m zs.toList).flatten := by
  induction m with
  | zero => simp
  | succ m ih =>
    rw [List.replicate_succ', List.flatten_append, ← ih, Nat.succ_mul]
    simp only [Array.toList_map, Array.toList_range, List.flatten_cons, List.flatten_nil, List.append_nil]
    rw [List.range_add, List.map_append]
    congr 1
    rw [List.map_map]
    apply List.ext_getElem
    · simp
    · intro i h1 h2
      simp at h1
      simp only [List.getElem_map, List.getElem_range, Function.comp]
      have : (m * zs.size + i) % zs.size = i := by rw [Nat.mul_comm, Nat.mul_add_mod, Nat.mod_eq_of_lt h1]
      rw [this, getElem!_pos zs i h1]
      simp

section
variable {P : Program} {n : Sz} {fr : Fr} {H : Hp} {dst : Option Nat} {ty : TypeId} {pos : String} {aft : Array Edge} {g : Option (Nat × Bool)}

theorem e_makeSlice {T E : TypeId} {x y : Operand} {i : TypeInfo} {z : Value} {t : Ty} {k k' : IntKind} {m : Int} (id : Nat) (ht : P.underlying T = some (.slice E)) (hi : P.info? E = some i) (hz : i.zero = some z) (hzs : z.cells.toList = zc t) (hsz : i.size = t.sz)
    (hby : Nat.ble i.bytes 1000 = true) (hx : evO fr x = some (.int k m)) (hy : evO fr y = some (.int k' m)) (h0 : 0 ≤ m) (h1 : m ≤ 1000000000) (hid : freshB id fr H = true) (hK : Nat.ble n.K id = true) :
    Eff P n ⟨dst, .makeSlice T x y, ty, pos, aft, g⟩ fr H (.os id) fr ((id, .row t (List.replicate m.toNat t.dflt)) :: H) := fun Γ ρ w a s => by
  have hx' := s.ev hx
  have hy' := s.ev hy
  simp only [RA] at hx' hy'
  have hby' : i.bytes ≤ 1000 := Nat.le_of_ble_eq_true hby
  have hzc : z.cells.size = t.sz := by
    rw [← Array.length_toList, hzs]
    exact Rc.len t (zc_ok (fun _ => none) t)
  have hbm : (i.bytes : Int) * m ≤ 281474976710656 := by
    have : (i.bytes : Int) * m ≤ 1000 * 1000000000 := Int.mul_le_mul (by omega) h1 h0 (by omega)
    omega
  have hrun := run_make (P := P) w T E i z ht hi hz k k' m m h0 (Int.le_refl _) hbm (by omega)
  have hcells : (madeCells z.cells (m.toNat * i.size)).toList = (List.replicate m.toNat (zc t)).flatten := by
    unfold madeCells
    rw [hsz, ← hzc, rep_mod, hzs]
  have hsize : (madeCells z.cells (m.toNat * i.size)).size = m.toNat * t.sz := by rw [size_madeCells, hsz]
  refine ⟨.slice (some ⟨w.heap.size, 0, none⟩) m.toNat m.toNat, w.alloc (.cells (madeCells z.cells (m.toNat * i.size)) E), upd ρ id (some (w.heap.size, m.toNat, m.toNat)), ?_, ?_, .inr ⟨_, _, _, upd_same _ _ _, rfl⟩⟩
  · simp only [execOp, hx', hy', Sem.run_bind, hrun, Result.andThen_ok, Sem.run_pure]
  · have := s.replace [] (id := id) (B := .row t (List.replicate m.toNat t.dflt)) (p := some (w.heap.size, m.toNat, m.toNat)) (w' := w.alloc (.cells (madeCells z.cells (m.toNat * i.size)) E)) hid hK rfl rfl rfl rfl (by simp) (fun b hb _ => heap_alloc_lt w _ b hb)
      (fun b k h => .inr (by simp at h; omega)) (fun ℓ hk hM => ?_)
    · rwa [hdel_nil] at this
    · exact ⟨[w.heap.size], ⟨by simp [lim]; omega, .inr ⟨w.heap.size, m.toNat, _, E, [], (List.replicate m.toNat (zc t)).flatten, [], by simp [upd_same], hf_alloc_new, by rw [hcells]; simp, relL_rep (zc_ok _ t) _, rfl, by simp, hsize, NoFz.nil⟩⟩, by simp, fun b hb => .inr (by simp at hb; omega)⟩

/-- a nil slice as a row of the call's own -/
theorem sub_nil {T : Nat} {t : Ty} (id : Nat) (hg : get fr T = some .nilsl) (hid : freshB id fr H = true) (hK : Nat.ble n.K id = true) : Sub n fr H ((T, .os id) :: fr) ((id, .row t ([] : List t.D)) :: H) := fun Γ ρ w a s => by
  have h1 := s.fr T _ hg
  have := s.replace0 [] (id := id) (B := .row t ([] : List t.D)) (p := none) (w' := w) hid hK rfl rfl rfl rfl (Nat.le_refl _) (fun b hb _ => rfl) (fun b k h => by cases h) (fun ℓ hk hM => ⟨[], ⟨Nat.zero_le _, .inl ⟨upd_same _ _ _, rfl, rfl⟩⟩, by simp, by simp⟩)
  rw [hdel_nil] at this
  refine ⟨_, this.defers, this.size, this.ext, this.keep, this.own, this.heap, fun t' x hx => ?_⟩
  simp only [get] at hx
  cases e : Nat.beq T t' with
  | true =>
    have := Nat.eq_of_beq_eq_true e
    subst this
    rw [e] at hx
    simp only [cond_true, Option.some.injEq] at hx
    subst hx
    refine ⟨h1.1, .inl ⟨upd_same _ _ _, ?_⟩⟩
    have h2 := h1.2
    simpa only [RA] using h2
  | false => rw [e] at hx; exact this.fr t' x hx
/-! ### append -/
theorem setRow_facts (w : World) (b : Nat) (c : Array Value) : (w.setRow b c).os = w.os ∧ (w.setRow b c).tape = w.tape ∧ (w.setRow b c).output = w.output ∧ (w.setRow b c).heap.size = w.heap.size := ⟨rfl, rfl, rfl, by simp [World.setRow]⟩

/-- what append does with cells that are known -/
theorem run_append {T E : TypeId} {i : TypeInfo} {z : Value} (ht : P.underlying T = some (.slice E)) (hi : P.info? E = some i) (hz : i.zero = some z) (hzs : z.cells.size = i.size) (hby : i.bytes ≤ 1000) {x : Value} {m : Nat} {news : List Value} {w : World}
    (hx : ∃ a c, x = .slice a m c) (hnews : ∀ w' : World, w'.heap = w.heap → (Builtin.firstCells i.size m x).run P w' = .ok news.toArray w') (hl : news.length = m * i.size) (h1 : ∀ u ∈ news, u.oneCell' = true) {len cap : Nat} (hroom : len + m ≤ 1000000000) (hlc : len ≤ cap)
    {old post : List Value} {b : Nat} {a0 : Option Addr} (ho : old.length = len * i.size) (hb : (a0 = none ∧ len = 0 ∧ cap = 0 ∧ old = []) ∨ ∃ c T', a0 = some ⟨b, 0, none⟩ ∧ w.heap[b]? = some (.cells c T' (0, 0)) ∧ c.toList = old ++ post ∧ c.size = cap * i.size) :
    ((len + m ≤ cap ∧ ((a0 = none ∧ (Builtin.append_ #[T, T] ty #[.slice a0 len cap, x]).run P w = .ok (.slice none 0 0) w) ∨
        (∃ c, a0 = some ⟨b, 0, none⟩ ∧ c.toList = old ++ news ++ post.drop news.length ∧ c.size = cap * i.size ∧ (Builtin.append_ #[T, T] ty #[.slice a0 len cap, x]).run P w = .ok (.slice a0 (len + m) cap) (w.setRow b c)))) ∨
     ∃ nc c, len + m ≤ nc ∧ c.size = nc * i.size ∧ (∃ q, c.toList = old ++ news ++ q) ∧ (Builtin.append_ #[T, T] ty #[.slice a0 len cap, x]).run P w = .ok (.slice (some ⟨w.heap.size, 0, none⟩) (len + m) nc) (w.drew.alloc (.cells c E))) := by
  obtain ⟨ax, cx, rfl⟩ := hx
  by_cases hroom' : len + m ≤ cap
  · refine .inl ⟨hroom', ?_⟩
    rcases hb with ⟨rfl, rfl, rfl, rfl⟩ | ⟨c, T', rfl, hbb, hc, hcs⟩
    · have hm : m = 0 := by omega
      subst hm
      refine .inl ⟨rfl, ?_⟩
      simp [Builtin.append_, run_underlying ht, sizeOf, typeInfo, hi, Builtin.lenOf, hnews w rfl]
    · have hcl : c.size = old.length + post.length := by rw [← Array.length_toList, hc]; simp
      have hfit : len * i.size + news.length ≤ c.size := by rw [hl, hcs, ← Nat.add_mul]; exact Nat.mul_le_mul_right _ hroom'
      have hst := run_storeCells_at P b (len * i.size) T' news 0 c w hbb (by simpa using hfit) h1
      simp only [Nat.add_zero] at hst
      have e1 : c.toList.take (len * i.size) = old := by rw [hc, ← ho]; simp
      have e2 : c.toList.drop (len * i.size + news.length) = post.drop news.length := by rw [hc, ← ho, List.drop_length_add_append]
      rw [e1, e2] at hst
      refine .inr ⟨(old ++ news ++ post.drop news.length).toArray, rfl, by simp, ?_, ?_⟩
      · simp only [List.size_toArray, List.length_append, List.length_drop]; omega
      · simp [Builtin.append_, run_underlying ht, sizeOf, typeInfo, hi, Builtin.lenOf, hroom', hnews w rfl, Addr.add_lit, hst]
  · refine .inr ⟨grownCap w (len + m) cap E, old.toArray ++ news.toArray ++ Builtin.zeroCells z.cells (grownCap w (len + m) cap E - (len + m)), grownCap_ge _ _ _ _, ?_, ⟨(Builtin.zeroCells z.cells (grownCap w (len + m) cap E - (len + m))).toList, by simp⟩, ?_⟩
    · have hge := grownCap_ge w (len + m) cap E
      simp only [Array.size_append, List.size_toArray, size_zeroCells, hzs, ho, hl, ← Nat.add_mul]
      congr 1; omega
    · have hn1 : ¬ ((len + m : Nat) : Int) > IntKind.i64.max := by
        have : IntKind.i64.max = 9223372036854775807 := by decide
        rw [this]; omega
      have hcapb : Builtin.nextslicecap (len + m) cap * i.bytes ≤ 281474976710656 := by
        have h2 := nextslicecap_le (need := len + m) (old := cap) (by omega)
        have : Builtin.nextslicecap (len + m) cap * i.bytes ≤ (2 * 1000000000) * 1000 := Nat.mul_le_mul (by omega) hby
        omega
      have hcapb' : ¬ 2 ^ 48 < Builtin.nextslicecap (len + m) cap * i.bytes := by omega
      have hold : (Builtin.firstCells i.size len (.slice a0 len cap)).run P w.drew = .ok old.toArray w.drew := by
        rcases hb with ⟨rfl, rfl, rfl, rfl⟩ | ⟨c, T', rfl, hbb, hc, hcs⟩
        · simp [Builtin.firstCells]
        · exact run_firstCells_some w.drew i.size len ⟨b, 0, none⟩ len cap old ho (fun j v hv => by
            rw [addr_add]
            have hj := (List.getElem?_eq_some_iff.1 hv).1
            have := cell_at (w := w) (pre := []) (mid := old) (post := post) hbb (by simpa using hc) j hj
            simpa using this.trans hv)
      have hnews' := hnews w.drew rfl
      have h63' : ¬ (9223372036854775807 < ((len : Int) + (m : Int))) := by omega
      have h48' : ¬ (281474976710656 < Builtin.nextslicecap (len + m) cap * i.bytes) := by omega
      simp [Builtin.append_, run_underlying ht, sizeOf, typeInfo, zeroValue, hi, hz, Builtin.lenOf, hroom', h63', h48', Question.forced, hnews', hold, newRow, grownCap]
      congr 2
      apply Array.ext'
      simp [List.append_assoc]

/-- what is appended: data whose cells are known; 'G': the blocks behind it -/
def Src (P : Program) (H : Hp) (t : Ty) (X : AV) (ys : List t.D) : Prop :=
  ∀ (ρ : Rho) (w : World) (ℓ : Nat → List Nat) (v : Value), HeapOK ρ (World.hf w) H ℓ → RA ρ (World.hf w) (ownB ρ H) X v →
    ∃ news F, (∃ a c, v = .slice a ys.length c) ∧ news.length = ys.length * t.sz ∧ RelL (Rc (World.hf w) t) ys news F ∧ (∀ u ∈ news, u.oneCell' = true) ∧
      (∀ w' : World, w'.heap = w.heap → (Builtin.firstCells t.sz ys.length v).run P w' = .ok news.toArray w')
theorem firstCells_row {t : Ty} {w w' : World} {b off len cap : Nat} {c : Array Value} {T : TypeId} {z : Nat × Nat} {p mid q : List Value} (hw : w'.heap = w.heap) (hb : w.heap[b]? = some (.cells c T z)) (hc : c.toList = p ++ (mid ++ q)) (hp : p.length = off) (hl : mid.length = len * t.sz) :
    (Builtin.firstCells t.sz len (.slice (some ⟨b, off, none⟩) len cap)).run P w' = .ok mid.toArray w' :=
  run_firstCells_some w' t.sz len ⟨b, off, none⟩ len cap mid hl (fun j v hv => by
    have hj := (List.getElem?_eq_some_iff.1 hv).1
    have := cell_at (w := w') (by rw [hw]; exact hb) hc j hj
    rw [addr_add, ← hp]; exact this.trans hv)
theorem src_v {t : Ty} {ys : List t.D} : Src P H t (.v (.slice t) ys) ys := fun ρ w ℓ v hk hx => by
  obtain ⟨F, ⟨cs, ⟨hl, hc⟩, hv⟩, hF⟩ := hx
  rcases hc with ⟨e0, _, a', cap, e⟩ | ⟨b, off, ex, F', e, eF, c, T', z, p, m, q, hb, hcl, hp, hm⟩
  · subst e; subst hv; subst e0
    refine ⟨[], [], ⟨a', cap, rfl⟩, by simp, ⟨rfl, rfl⟩, by simp, fun w' _ => ?_⟩
    cases a' with
    | none => simp [mkV, Ty.agg, Builtin.firstCells]
    | some ad => simp [mkV, Ty.agg, Builtin.firstCells, loadCells, loadCellsFrom]
  · subst e; subst hv
    have hlen := RelL.len (fun x c F h => Rc.len t h) hm.1
    exact ⟨m, F', ⟨_, _, rfl⟩, hlen, hm.1, RelL.all (fun x c F h => Rc.one t h) hm.1, fun w' hw => firstCells_row hw hb hcl hp hlen⟩
theorem src_os {t : Ty} {id : Nat} {ys : List t.D} (hg : hget H id = some (.row t ys)) : Src P H t (.os id) ys := fun ρ w ℓ v hk hx => by
  obtain ⟨hl, ⟨h3, h4, _⟩ | ⟨b, cap, c, T', F, mid, post, h3, h4, h5, h6, h7, h8, h9⟩⟩ := hk.get hg
  · rcases hx with ⟨_, e⟩ | ⟨b', cap', len, hx', e⟩
    · subst e; subst h4
      exact ⟨[], [], ⟨none, 0, rfl⟩, by simp, ⟨rfl, rfl⟩, by simp, fun w' _ => by simp [Builtin.firstCells]⟩
    · rw [h3] at hx'; cases hx'
  · rcases hx with ⟨hx', _⟩ | ⟨b', cap', len, hx', e⟩
    · rw [h3] at hx'; cases hx'
    · rw [h3] at hx'
      obtain ⟨rfl, rfl, rfl⟩ : b = b' ∧ cap = cap' ∧ List.length (α := t.D) ys = len := by simpa using hx'
      subst e
      have hlen := RelL.len (fun x c F h => Rc.len t h) h6
      exact ⟨mid, F, ⟨_, _, rfl⟩, hlen, h6, RelL.all (fun x c F h => Rc.one t h) h6, fun w' hw => firstCells_row (p := []) hw h4 (by simpa using h5) rfl hlen⟩
/-- append onto an own row: of plain elements, from any source -/
theorem e_append {T E : TypeId} {x y : Operand} {i : TypeInfo} {z : Value} {t : Ty} {id : Nat} {X : AV} {xs ys : List t.D} (id' : Nat) (hf : t.flat = true) (ht : P.underlying T = some (.slice E)) (hi : P.info? E = some i) (hz : i.zero = some z) (hzs : z.cells.size = i.size) (hsz : i.size = t.sz)
    (hby : Nat.ble i.bytes 1000 = true) (hx : evO fr x = some (.os id)) (hg : hget H id = some (.row t xs)) (hy : evO fr y = some X) (hs : Src P H t X ys) (hroom : xs.length + ys.length ≤ 1000000000) (hid : freshB id' fr H = true) (hK : Nat.ble n.K id' = true) :
    Eff P n ⟨dst, .call ⟨.builtin .append, #[x, y], #[T, T]⟩, ty, pos, aft, g⟩ fr H (.os id') fr ((id', .row t (xs ++ ys)) :: hdel [id] H) := fun Γ ρ w a s => by
  obtain ⟨ℓ, hk, _⟩ := s.heap
  obtain ⟨news, F, hv, hnl, hnr, hn1, hfc⟩ := hs ρ w ℓ _ hk (s.ev hy)
  have hF : F = [] := RelL.flat (fun x c F h => Rc.flat t hf h) hnr
  subst hF
  have hby' : i.bytes ≤ 1000 := Nat.le_of_ble_eq_true hby
  have hexec : ∀ r w', (Builtin.append_ #[T, T] ty #[a.eval x, a.eval y]).run P w = .ok r w' → (execOp a.eval ⟨dst, .call ⟨.builtin .append, #[x, y], #[T, T]⟩, ty, pos, aft, g⟩).run P w = .ok (.value r) w' := by
    intro r w' h
    simp [execOp, resolve, invoke, Go.builtin, Sem.run_bind, h]
  have hlim : (xs ++ ys).length ≤ lim := by rw [List.length_append]; simp only [lim]; omega
  have hmid : ∀ {h' : Hf} {old : List Value}, RelL (Rc (World.hf w) t) xs old [] → RelL (Rc h' t) (xs ++ ys) (old ++ news) [] := fun ho =>
    RelL.append (F := []) (G := []) (RelL.mono (fun x c F' hF hc => by have := Rc.flat t hf hc; subst this; exact hc.same t (by simp)) ho) (RelL.mono (fun x c F' hF hc => by have := Rc.flat t hf hc; subst this; exact hc.same t (by simp)) hnr)
  obtain ⟨hl, hor⟩ := hk.get hg
  -- the row's cells
  have hrow : ∃ a0 len cap old post b, a.eval x = .slice a0 len cap ∧ len = xs.length ∧ len ≤ cap ∧ RelL (Rc (World.hf w) t) xs old [] ∧ old.length = len * i.size ∧
      ((a0 = none ∧ len = 0 ∧ cap = 0 ∧ old = []) ∨ ∃ c T', a0 = some ⟨b, 0, none⟩ ∧ w.heap[b]? = some (.cells c T' (0, 0)) ∧ c.toList = old ++ post ∧ c.size = cap * i.size ∧ ρ id = some (b, cap, len)) := by
    rcases hor with ⟨h3, h4, _⟩ | ⟨b, cap, c, T', F, mid, post, h3, h4, h5, h6, h7, h8, h9⟩
    · rcases s.ev hx with ⟨_, e⟩ | ⟨b', cap', len, hx', e⟩
      · subst h4
        exact ⟨none, 0, 0, [], [], 0, e, rfl, Nat.le_refl _, ⟨rfl, rfl⟩, by simp, .inl ⟨rfl, rfl, rfl, rfl⟩⟩
      · rw [h3] at hx'; cases hx'
    · rcases s.ev hx with ⟨hx', _⟩ | ⟨b', cap', len, hx', e⟩
      · rw [h3] at hx'; cases hx'
      · rw [h3] at hx'
        obtain ⟨rfl, rfl, rfl⟩ : b = b' ∧ cap = cap' ∧ List.length (α := t.D) xs = len := by simpa using hx'
        have hF : F = [] := RelL.flat (fun x c F h => Rc.flat t hf h) h6
        subst hF
        exact ⟨_, _, cap, mid, post, b, e, rfl, h8, h6, by rw [hsz]; exact RelL.len (fun x c F h => Rc.len t h) h6, .inr ⟨c, T', rfl, h4, h5, by rw [hsz]; exact h9.1, h3⟩⟩
  obtain ⟨a0, len, cap, old, post, b, hvx, hlen, hlc, hold, hol, hb⟩ := hrow
  have happ := run_append (P := P) (ty := ty) (T := T) (E := E) (i := i) (z := z) (x := a.eval y) (m := ys.length) (news := news) (w := w) ht hi hz hzs hby' hv (by rw [hsz]; exact hfc) (by rw [hsz]; exact hnl) hn1 (len := len) (cap := cap) (by rw [hlen]; exact hroom) hlc (old := old) (post := post) (b := b) (a0 := a0) hol
    (by rcases hb with h | ⟨c, T', h1, h2, h3, h4, _⟩
        · exact .inl h
        · exact .inr ⟨c, T', h1, h2, h3, h4⟩)
  rw [← hvx] at happ
  have hnewlen : len + ys.length = (xs ++ ys).length := by rw [List.length_append, hlen]
  rcases happ with ⟨hfit, ⟨rfl, hrun⟩ | ⟨c', rfl, hc', hcs', hrun⟩⟩ | ⟨nc, c', hle, hcs', ⟨q, hq⟩, hrun⟩
  · -- nil and nothing
    rcases hb with ⟨_, rfl, rfl, rfl⟩ | ⟨c, T', h1, _⟩
    · have hnil : xs ++ ys = [] := List.eq_nil_of_length_eq_zero (by omega)
      refine ⟨_, _, upd ρ id' none, hexec _ _ hrun, s.replace [id] (p := none) hid hK rfl rfl rfl rfl (Nat.le_refl _) (fun b hb _ => rfl) (fun b k h => by cases h) (fun ℓ' hk' hM => ⟨[], ⟨hlim, .inl ⟨upd_same _ _ _, hnil, rfl⟩⟩, by simp, by simp⟩), .inl ⟨upd_same _ _ _, rfl⟩⟩
    · cases h1
  · -- in place
    rcases hb with ⟨h1, _⟩ | ⟨c, T', h1, h2, h3, h4, h5⟩
    · cases h1
    · obtain ⟨f1, f2, f3, f4⟩ := setRow_facts w b c'
      have hmemid := hget_mem hg
      refine ⟨_, _, upd ρ id' (some (b, cap, (xs ++ ys).length)), hexec _ _ hrun, s.replace [id] (p := some (b, cap, (xs ++ ys).length)) hid hK rfl f1 f2 f3 (by rw [f4]; exact Nat.le_refl _) (fun k hk' hne => setRow_other w b k c' (fun e => by subst e; exact hne _ hmemid (by simp) _ h5)) (fun b' k h => by
          simp only [Option.some.injEq, Prod.mk.injEq] at h
          exact .inl ⟨_, hmemid, by simp, _, by rw [← h.1]; exact h5⟩) (fun ℓ' hk' hM => ?_), .inr ⟨b, cap, _, upd_same _ _ _, by rw [hnewlen]⟩⟩
      refine ⟨[b], ⟨hlim, .inr ⟨b, cap, c', T', [], old ++ news, post.drop news.length, upd_same _ _ _, setRow_heap w b c c' T' (0, 0) h2, hc', hmid hold, rfl, by rw [← hnewlen]; exact hfit, by rw [← hsz]; exact hcs', NoFz.nil⟩⟩, by simp, fun x hx' => ?_⟩
      simp only [List.mem_singleton] at hx'
      subst hx'
      exact .inl ⟨_, hmemid, by simp, own_head hk' hmemid h5⟩
  · -- a new array
    refine ⟨_, _, upd ρ id' (some (w.heap.size, nc, (xs ++ ys).length)), hexec _ _ hrun, s.replace [id] (p := some (w.heap.size, nc, (xs ++ ys).length)) (w' := w.drew.alloc (.cells c' E)) hid hK rfl rfl rfl rfl (by simp) (fun k hk' _ => heap_alloc_lt w.drew _ k hk') (fun b' k h => by
        simp only [Option.some.injEq, Prod.mk.injEq] at h
        exact .inr (by omega)) (fun ℓ' hk' hM => ?_), .inr ⟨_, nc, _, upd_same _ _ _, by rw [hnewlen]⟩⟩
    refine ⟨[w.heap.size], ⟨hlim, .inr ⟨w.heap.size, nc, c', E, [], old ++ news, q, upd_same _ _ _, hf_alloc_new (w := w.drew), hq, hmid hold, rfl, by rw [← hnewlen]; exact hle, by rw [← hsz]; exact hcs', NoFz.nil⟩⟩, by simp, fun x hx' => .inr (by simp at hx'; omega)⟩
end
end Go.GA
end
section
namespace Go.GA
open Go Go.RowKit

theorem foldl_set (off : Nat) : ∀ (cs : List Value) (j : Nat) (A : Array Value), off + j + cs.length ≤ A.size →
    (cs.zipIdx j).foldl (fun (A : Array Value) (p : Value × Nat) => A.setIfInBounds (off + p.2) p.1) A = (A.toList.take (off + j) ++ cs ++ A.toList.drop (off + j + cs.length)).toArray
  | [], j, A, h => by simp
  | c :: cs, j, A, h => by
    rw [List.zipIdx_cons, List.foldl_cons, foldl_set off cs (j + 1) _ (by simp at h ⊢; omega)]
    have hlt : off + j < A.toList.length := by simp at h ⊢; omega
    apply Array.ext'
    simp only [Array.toList_setIfInBounds, List.length_cons]
    have e1 : (A.toList.set (off + j) c).take (off + (j + 1)) = A.toList.take (off + j) ++ [c] := by
      rw [← Nat.add_assoc, List.take_add_one, List.take_set_of_le (Nat.le_refl _), List.getElem?_set_self hlt]
      rfl
    have e2 : (A.toList.set (off + j) c).drop (off + (j + 1) + cs.length) = A.toList.drop (off + j + (cs.length + 1)) := by
      rw [List.drop_set_of_lt (by omega)]
      congr 1; omega
    rw [e1, e2]
    simp

/-- 0, 1, 2, .. -/
def seqB : Nat → List (Nat × Operand) → Bool
  | _, [] => true
  | j, (i, _) :: l => Nat.beq i j && seqB (j + 1) l
theorem fill_seq {s : Nat} {ev : Operand → Value} : ∀ (l : List (Nat × Operand)) (j : Nat) (A : Array Value), seqB j l = true → (∀ p ∈ l, (ev p.2).cells.size = s) → (j + l.length) * s = A.size →
    Instr.fill (fun i => some (i * s, s)) A (l.map fun p => (p.1, ev p.2)) = some (A.toList.take (j * s) ++ l.flatMap fun p => (ev p.2).cells.toList).toArray
  | [], j, A, _, _, hA => by
    simp only [Instr.fill, List.map_nil, List.flatMap_nil, List.append_nil]
    simp only [List.length_nil, Nat.add_zero] at hA
    rw [hA, List.take_of_length_le (by simp)]
  | (i, o) :: l, j, A, hs, hc, hA => by
    simp only [seqB, Bool.and_eq_true] at hs
    have hi := Nat.eq_of_beq_eq_true hs.1
    subst hi
    have h1 : (ev o).cells.size = s := hc (i, o) (by simp)
    have hA' : (i + (l.length + 1)) * s = A.size := by simpa using hA
    have hle : i * s + s ≤ A.size := by
      rw [← hA', Nat.add_mul, Nat.add_mul]; omega
    simp only [List.map_cons, Instr.fill]
    have hno : ¬ ((ev o).cells.size ≠ s ∨ i * s + (ev o).cells.size > A.size) := by omega
    rw [if_neg (by simpa using hno)]
    have hfold : (ev o).cells.zipIdx.foldl (fun (A : Array Value) (p : Value × Nat) => A.setIfInBounds (i * s + p.2) p.1) A = (A.toList.take (i * s) ++ (ev o).cells.toList ++ A.toList.drop (i * s + s)).toArray := by
      have := foldl_set (i * s) (ev o).cells.toList 0 A (by simp [h1]; omega)
      rw [← Array.foldl_toList, Array.toList_zipIdx, this]
      simp [h1]
    have hfold' : Array.foldl (fun cs (x : Value × Nat) => match x with | (c, j) => cs.setIfInBounds (i * s + j) c) A (ev o).cells.zipIdx = (A.toList.take (i * s) ++ (ev o).cells.toList ++ A.toList.drop (i * s + s)).toArray := hfold
    rw [hfold']
    have hsz : (A.toList.take (i * s) ++ (ev o).cells.toList ++ A.toList.drop (i * s + s)).toArray.size = A.size := by
      simp [h1]; omega
    rw [fill_seq l (i + 1) _ hs.2 (fun p hp => hc p (List.mem_cons_of_mem _ hp)) (by rw [hsz, ← hA']; congr 1; omega)]
    congr 2
    have ht : ((A.toList.take (i * s) ++ (ev o).cells.toList ++ A.toList.drop (i * s + s)).toArray.toList).take ((i + 1) * s) = A.toList.take (i * s) ++ (ev o).cells.toList := by
      have hl1 : (A.toList.take (i * s) ++ (ev o).cells.toList).length = (i + 1) * s := by
        rw [Nat.add_mul]; simp [h1]; omega
      exact List.take_left' hl1
    rw [ht]
    simp

section
variable {P : Program} {n : Sz} {fr : Fr} {H : Hp} {dst : Option Nat} {ty : TypeId} {pos : String} {aft : Array Edge} {g : Option (Nat × Bool)}

theorem ofTy_cells {ρ : Rho} {h : Hf} {M : Nat → Prop} {t : Ty} {e : t.D} (hf : t.flat = true) {v : Value} (hu : RA ρ h M (ofTy t e) v) : Rc h t e v.cells.toList [] := by
  have h2 : ∃ cs F, Rc h t e cs F ∧ v = mkV t cs := by
    cases t with
    | int k => simp only [ofTy, RA] at hu; subst hu; exact ⟨[_], [], ⟨rfl, rfl⟩, rfl⟩
    | bool => simp only [ofTy, RA] at hu; subst hu; exact ⟨[_], [], ⟨rfl, rfl⟩, rfl⟩
    | str => simp only [ofTy, RA] at hu; subst hu; exact ⟨[_], [], ⟨rfl, rfl⟩, rfl⟩
    | arr n t => obtain ⟨F, ⟨cs, h1, e⟩, _⟩ := hu; exact ⟨cs, F, h1, e⟩
    | slice t => obtain ⟨F, ⟨cs, h1, e⟩, _⟩ := hu; exact ⟨cs, F, h1, e⟩
    | unit => obtain ⟨F, ⟨cs, h1, e⟩, _⟩ := hu; exact ⟨cs, F, h1, e⟩
    | pair p q => obtain ⟨F, ⟨cs, h1, e⟩, _⟩ := hu; exact ⟨cs, F, h1, e⟩
  obtain ⟨cs, F, h1, rfl⟩ := h2
  have hF := Rc.flat t hf h1
  subst hF
  have : (mkV t cs).cells.toList = cs := by
    cases hagg : t.agg with
    | true => simp [mkV, hagg, Value.cells]
    | false =>
      obtain ⟨u, rfl⟩ := one_cell hagg h1
      have h3 := Rc.one t h1 u (by simp)
      simp only [mkV, hagg, Bool.false_eq_true, if_false, List.headD_cons]
      cases u <;> simp [Value.oneCell'] at h3 <;> rfl
  rw [this]; exact h1
theorem evOs_elems {ρ : Rho} {h : Hf} {M : Nat → Prop} {t : Ty} (hf : t.flat = true) {ev : Operand → Value} (hev : ∀ o y, evO fr o = some y → RA ρ h M y (ev o)) : ∀ {l : List (Nat × Operand)} {es : List t.D}, evOs fr (l.map (·.2)) = some (es.map (ofTy t)) →
    RelL (Rc h t) es (l.flatMap fun p => (ev p.2).cells.toList) [] ∧ (∀ p ∈ l, (ev p.2).cells.size = t.sz) ∧ l.length = es.length
  | [], es, he => by
    cases es with
    | nil => exact ⟨⟨rfl, rfl⟩, by simp, rfl⟩
    | cons e es => simp [evOs] at he
  | (i, o) :: l, es, he => by
    simp only [List.map_cons, evOs] at he
    split at he
    · cases he
    · rename_i x hx
      split at he
      · cases he
      · rename_i xs hxs
        cases es with
        | nil => simp at he
        | cons e es =>
          simp only [List.map_cons, Option.some.injEq, List.cons.injEq] at he
          obtain ⟨rfl, rfl⟩ := he
          obtain ⟨h1, h2, h3⟩ := evOs_elems hf hev (l := l) (es := es) hxs
          have h4 := ofTy_cells hf (hev o _ hx)
          refine ⟨⟨_, _, [], [], rfl, rfl, h4, h1⟩, ?_, by simp [h3]⟩
          intro p hp
          rcases List.mem_cons.1 hp with rfl | hp
          · have := Rc.len t h4; simpa using this
          · exact h2 p hp

/-- a slice literal of plain elements -/
theorem e_buildSlice {T E : TypeId} {l : List (Nat × Operand)} {z : Value} {t : Ty} (id : Nat) (es : List t.D) {m : Nat} (hf : t.flat = true) (ht : P.underlying T = some (.slice E)) (hz : ∀ w, (zeroValue E).run P w = .ok z w) (hs : ∀ w, (sizeOf E).run P w = .ok t.sz w)
    (hsm : Nat.ble (m * t.sz) 10000 = true) (hm2 : Nat.ble m 10000 = true) (hm : m = l.length) (hsq : seqB 0 l = true) (hys : evOs fr (l.map (·.2)) = some (es.map (ofTy t))) (hid : freshB id fr H = true) (hK : Nat.ble n.K id = true) :
    Eff P n ⟨dst, .buildSlice T m l.toArray, ty, pos, aft, g⟩ fr H (.os id) fr ((id, .row t es) :: H) := fun Γ ρ w a s => by
  subst hm
  have hsm' := Nat.le_of_ble_eq_true hsm
  have hm2' := Nat.le_of_ble_eq_true hm2
  obtain ⟨h1, h2, h3⟩ := evOs_elems (l := l) hf (fun o y h => s.ev h) hys
  have hlen := RelL.len (fun x c F h => Rc.len t h) h1
  have hrun : (Instr.buildSlice T l.length (l.toArray.map fun p => (p.1, a.eval p.2))).run P w = .ok (.slice (some ⟨w.heap.size, 0, none⟩) l.length l.length) (w.alloc (.cells (l.flatMap fun p => (a.eval p.2).cells.toList).toArray E)) := by
    have hno : ¬ (l.length * t.sz > 2 ^ 24) := by omega
    have hfill := fun (A : Array Value) (hA : l.length * t.sz = A.size) => fill_seq (s := t.sz) (ev := a.eval) l 0 A hsq h2 (by simpa using hA)
    simp only [Instr.buildSlice, Sem.run_bind, run_underlying ht, Result.andThen_ok, hs]
    rw [if_neg hno]
    by_cases h0 : l.length * t.sz = 0
    · rw [if_pos h0]
      have := hfill #[] (by simpa using h0)
      simp only [Sem.run_bind, Sem.run_pure, Result.andThen_ok]
      rw [h0]
      simp only [Array.range_zero', List.map_toArray, List.map_nil] at this ⊢
      have e0 : ([] : List Value).toArray = #[] := rfl
      rw [e0, this]
      simp [newRow, newObj, Sem.run]
    · rw [if_neg h0]
      have := hfill ((Array.range (l.length * t.sz)).map (z.cells[· % z.cells.size]!)) (by simp)
      simp only [Sem.run_bind, hz, Result.andThen_ok, Sem.run_pure, List.map_toArray]
      rw [this]
      simp [newRow, newObj, Sem.run]
  have hsize : (l.flatMap fun p => (a.eval p.2).cells.toList).length = l.length * t.sz := by rw [hlen, h3]
  refine ⟨.slice (some ⟨w.heap.size, 0, none⟩) l.length l.length, w.alloc (.cells (l.flatMap fun p => (a.eval p.2).cells.toList).toArray E), upd ρ id (some (w.heap.size, l.length, l.length)), ?_, ?_, .inr ⟨_, _, _, upd_same _ _ _, rfl⟩⟩
  · simp only [execOp, Sem.run_bind, hrun, Result.andThen_ok, Sem.run_pure]
  · have := s.replace [] (id := id) (B := .row t es) (p := some (w.heap.size, l.length, l.length)) (w' := w.alloc (.cells (l.flatMap fun p => (a.eval p.2).cells.toList).toArray E)) hid hK rfl rfl rfl rfl (by simp) (fun b hb _ => heap_alloc_lt w _ b hb)
      (fun b k h => .inr (by simp at h; omega)) (fun ℓ hk hM => ?_)
    · rwa [hdel_nil] at this
    · refine ⟨[w.heap.size], ⟨by rw [← h3]; simp only [lim]; omega, .inr ⟨w.heap.size, l.length, _, E, [], (l.flatMap fun p => (a.eval p.2).cells.toList), [], by rw [upd_same, h3], hf_alloc_new, by simp, ?_, rfl, by rw [h3]; exact Nat.le_refl _, by simpa using hsize, NoFz.nil⟩⟩, by simp, fun b hb => .inr (by simp at hb; omega)⟩
      exact h1.mono (fun x c F' hF hc => by have := Rc.flat t hf hc; subst this; exact hc.same t (by simp))

/-- an array literal, each place given -/
theorem r_build_arr {T E : TypeId} {l : List (Nat × Operand)} {z : Value} {t : Ty} {m : Nat} (es : List t.D) (hf : t.flat = true) (ht : P.underlying T = some (.array m E)) (hz : ∀ w, (zeroValue T).run P w = .ok z w) (hs : ∀ w, (sizeOf E).run P w = .ok t.sz w) (hzs : z.cells.size = m * t.sz) (hm : m = l.length) (hsq : seqB 0 l = true)
    (hys : evOs fr (l.map (·.2)) = some (es.map (ofTy t))) : Reads P ⟨dst, .build T l.toArray, ty, pos, aft, g⟩ fr H (.v (.arr m t) es) := fun Γ n ρ w a s => by
  subst hm
  obtain ⟨h1, h2, h3⟩ := evOs_elems (l := l) hf (fun o y h => s.ev h) hys
  refine ⟨.agg (l.flatMap fun p => (a.eval p.2).cells.toList).toArray, ⟨[], ⟨_, ⟨h3.symm, h1⟩, rfl⟩, by simp⟩, fun w' _ => ?_⟩
  have hfill := fill_seq (s := t.sz) (ev := a.eval) l 0 z.cells hsq h2 (by simpa using hzs.symm)
  simp only [execOp, Instr.build, Sem.run_bind, hz, run_underlying ht, Result.andThen_ok, hs, List.map_toArray]
  rw [hfill]
  simp
/-- the zero value of an array -/
theorem r_build_zero {T E : TypeId} {z : Value} {t : Ty} {m : Nat} (ht : P.underlying T = some (.array m E)) (hz : ∀ w, (zeroValue T).run P w = .ok z w) (hs : ∀ w, (sizeOf E).run P w = .ok t.sz w) (hzs : z.cells.toList = (List.replicate m (zc t)).flatten) :
    Reads P ⟨dst, .build T #[], ty, pos, aft, g⟩ fr H (.v (.arr m t) (List.replicate m t.dflt)) := fun Γ n ρ w a s => by
  refine ⟨.agg z.cells, ⟨[], ⟨z.cells.toList, ?_, by simp [mkV, Ty.agg]⟩, by simp⟩, fun w' _ => ?_⟩
  · rw [hzs]; exact zc_ok _ (.arr m t)
  · simp [execOp, Instr.build, Sem.run_bind, hz, run_underlying ht, hs, Instr.fill]

/-! ### Equality -/
/-- '==' of two arrays of integers -/
theorem eqItems_ints {E : TypeId} {k : IntKind} {d : Nat} (hE : P.underlying E = some (.int k)) (ha : ∀ w, (isAgg E).run P w = .ok false w) (hc : P.cellsOf E = 1) (w : World) : ∀ (xs ys p q : List Int), xs.length = ys.length → p.length = q.length →
    (Op.eqItems (d + 1) E (P.cellsOf E) ((p ++ xs).map (Value.int k)).toArray ((q ++ ys).map (Value.int k)).toArray (List.range' p.length xs.length)).run P w = .ok (decide (xs = ys)) w
  | [], [], p, q, _, _ => by simp [Op.eqItems]
  | x :: xs, y :: ys, p, q, hl, hpq => by
    have ih := eqItems_ints (d := d) hE ha hc w xs ys (p ++ [x]) (q ++ [y]) (by simpa using hl) (by simp [hpq])
    have hpx : ∀ w, (part E ((p ++ x :: xs).map (Value.int k)).toArray (p.length * P.cellsOf E)).run P w = .ok (.int k x) w := fun w => by
      simp [part, Sem.run_bind, ha, hc]
    have hpy : ∀ w, (part E ((q ++ y :: ys).map (Value.int k)).toArray (p.length * P.cellsOf E)).run P w = .ok (.int k y) w := fun w => by
      simp [part, Sem.run_bind, ha, hc, hpq]
    simp only [List.append_assoc, List.singleton_append, List.length_append, List.length_cons, List.length_nil, Nat.zero_add] at ih
    simp only [List.length_cons, List.range'_succ, Op.eqItems, Sem.run_bind, hpx, hpy, Result.andThen_ok, run_equalIn_int w d E k k x y hE]
    by_cases h : x = y
    · subst h
      simp only [beq_self_eq_true, Bool.not_true, Bool.false_eq_true, if_false]
      rw [ih]
      simp
    · have : (x == y) = false := by simpa using h
      simp [this, h]
  | [], _ :: _, _, _, h, _ => by cases h
  | _ :: _, [], _, _, h, _ => by cases h
theorem rv_ints {h : Hf} {k : IntKind} {m : Nat} {xs : List Int} {v : Value} {F} (hx : Rv h (.arr m (.int k)) xs v F) : v = .agg (xs.map (Value.int k)).toArray ∧ xs.length = m := by
  obtain ⟨cs, e, hl, hR⟩ := rv_arr hx
  have key : ∀ (xs : List Int) (cs F), RelL (Rc h (.int k)) xs cs F → cs = xs.map (Value.int k) := by
    intro xs
    induction xs with
    | nil => intro cs F h; exact h.1
    | cons x xs ih =>
      intro cs F ⟨c1, c2, F1, F2, e1, e2, h1, h2⟩
      rw [e1, ih _ _ h2, h1.1]; rfl
  refine ⟨?_, hl⟩
  rw [e, key xs cs F hR]
theorem r_eq_ints {op : BinOp} {T E yT : TypeId} {x y : Operand} {k : IntKind} {m : Nat} {xs ys : List Int} {c : Bool} (hu : P.underlying T = some (.array m E)) (hE : P.underlying E = some (.int k)) (ha : ∀ w, (isAgg E).run P w = .ok false w) (hi : ∃ i, P.info? E = some i ∧ i.size = 1) (hgd : P.eqGuardType P.depth T = false)
    (hx : evO fr x = some (.v (.arr m (.int k)) xs)) (hy : evO fr y = some (.v (.arr m (.int k)) ys)) (hc : (match op with
      | .eql => some (decide (xs = ys))
      | .neq => some (!decide (xs = ys))
      | _ => none) = some c) : Reads P ⟨dst, .binOp op T x y yT, ty, pos, aft, g⟩ fr H (.bool c) := fun Γ n ρ w a s => by
  obtain ⟨F, h1, _⟩ := s.ev hx
  obtain ⟨G, h2, _⟩ := s.ev hy
  obtain ⟨e1, l1⟩ := rv_ints h1
  obtain ⟨e2, l2⟩ := rv_ints h2
  obtain ⟨i, hi, hsz⟩ := hi
  have hcell : P.cellsOf E = 1 := by simp [Program.cellsOf, hi, hsz]
  have heq : ∀ w', (Op.equal T (a.eval x) (a.eval y)).run P w' = .ok (decide (xs = ys)) w' := fun w' => by
    unfold Op.equal Op.maxDepth
    rw [e1, e2, run_equalIn_array w' 9999 _ _ hu hi]
    have := eqItems_ints (P := P) (d := 9998) hE ha hcell w' xs ys [] [] (by rw [l1, l2]) rfl
    simp only [List.nil_append, List.length_nil, l1, ← List.range_eq_range'] at this
    exact this
  refine ⟨.bool c, rfl, fun w' _ => ?_⟩
  have hg1 : ∀ w', (eqGuard op T x y (a.eval x) (a.eval y)).run P w' = .ok () w' := fun w' => by
    rw [e1, e2]
    unfold eqGuard
    cases op <;> simp [hgd, program, Sem.run, Sem.run_bind]
  have h3 : (Go.binOp op T (a.eval x) (a.eval y)).run P w' = .ok (.bool c) w' := by
    cases op <;> simp at hc
    · subst hc
      rw [e1, e2] at heq ⊢
      simp [Go.binOp, Sem.run_bind, heq]
    · rw [e1, e2] at heq ⊢
      simp [Go.binOp, Sem.run_bind, heq, hc]
  simp only [execOp, Sem.run_bind, hg1, h3, Result.andThen_ok, Sem.run_pure]
theorem r_neq_bool {T yT : TypeId} {x y : Operand} {p q : Bool} (hu : P.underlying T = some .bool) (hx : evO fr x = some (.bool p)) (hy : evO fr y = some (.bool q)) : Reads P ⟨dst, .binOp .neq T x y yT, ty, pos, aft, g⟩ fr H (.bool (p != q)) :=
  reads_of fun ρ h M ev hev => ⟨_, rfl, fun w' => by
    have h1 := hev x _ hx; have h2 := hev y _ hy
    simp only [RA] at h1 h2
    simp [execOp, eqGuard, Go.binOp, h1, h2, Sem.run_bind, run_equal_bool w' T p q hu, bne]⟩
end
end Go.GA
end
section
namespace Go.GA
open Go Go.RowKit

section
variable {P : Program} {ops : Array Oper} {Q : Exit → Act → World → Prop}

/-- the operations below m, in whatever order, each in whatever world that has only grown; then T -/
def wpAK (P : Program) (ops : Array Oper) (Q : Exit → Act → World → Prop) (m : Nat) (T : Act → World → Prop) (w0 : World) : Nat → Array Bool → Act → World → Prop
  | 0, listed, a, w => (∀ j, j < m → listed.getD j false = true) ∧ ∀ w', Kept w w' → T a w'
  | f + 1, listed, a, w => ∀ w', Kept w w' → (∃ i ∈ Region.ready .any ops listed, i < m) ∧ ∀ i ∈ Region.ready .any ops listed, i < m →
      wpOp P ops Q i (fun a' w'' => Kept w0 w'' ∧ wpAK P ops Q m T w0 f (listed.setIfInBounds i true) a' w'') a w'

/-- one value, in whatever world that has only grown -/
def Stable (P : Program) (ops : Array Oper) (o : Oper) (v : Value) (a : Act) (w : World) : Prop :=
  (Region.wanted o (yielded ops a.tmps) = true ∧ ∀ w', Kept w w' → (execOp a.eval o).run P w' = .ok (.value v) w' ∨
    ∃ f args, (execOp a.eval o).run P w' = .ok (.enter f args) w' ∧ Calls P f args w' (fun e w'' => e = .returned v ∧ Kept w' w'')) ∨
  (Region.wanted o (yielded ops a.tmps) = false ∧ v = undef)

theorem Stable.wpOp {i : Nat} {o : Oper} {v : Value} {a : Act} {w : World} (hi : ops[i]? = some o) (hy : Stable P ops o v a w) {K : Act → World → Prop} (h : ∀ w', Kept w w' → K (a.put o.dst v) w') : Go.wpOp P ops Q i K a w := by
  unfold Go.wpOp
  simp only [hi]
  rcases hy with ⟨hw, hv⟩ | ⟨hw, rfl⟩
  · simp only [hw, if_true]
    refine .inl ?_
    unfold Oper.wp
    rcases hv w (Kept.refl w) with hv | ⟨f, args, hv, hc⟩
    · rw [hv]; exact h w (Kept.refl w)
    · rw [hv, Oper.upon_enter]
      exact hc.mono fun e w'' ⟨he, hk⟩ => by subst he; exact h _ hk
  · simp only [hw, Bool.false_eq_true, if_false]; exact h w (Kept.refl w)
theorem Stable.kept {o : Oper} {v : Value} {a : Act} {w w' : World} (hy : Stable P ops o v a w) (hk : Kept w w') : Stable P ops o v a w' := by
  rcases hy with ⟨hw, hv⟩ | h
  · exact .inl ⟨hw, fun w'' h => hv w'' (hk.trans h)⟩
  · exact .inr h
theorem Stable.of_same {o : Oper} {v : Value} {a a' : Act} {w : World} (hy : Stable P ops o v a w) (he : execOp a'.eval o = execOp a.eval o) (hw : Region.wanted o (yielded ops a'.tmps) = Region.wanted o (yielded ops a.tmps)) : Stable P ops o v a' w := by
  unfold Stable at *
  rw [he, hw]; exact hy

/-- an operation apart from oi does the same whether oi's value is there or not -/
theorem wpOp_apart {j : Nat} {oi oj : Oper} {v : Value} (hj : ops[j]? = some oj) (hap : oi.apart ops oj = true) (hsj : ∀ cs b, oj.op ≠ .select cs b) (hQ : ∀ c a w, Q (.panic c) a w → False)
    {K : Act → World → Prop} {a : Act} {w : World} (h : wpOp P ops Q j K (a.put oi.dst v) w) (hsi : ∀ cs b, oi.op ≠ .select cs b) :
    wpOp P ops Q j (fun a' w' => K (a'.put oi.dst v) w' ∧ execOp a'.eval oi = execOp a.eval oi ∧ Region.wanted oi (yielded ops a'.tmps) = Region.wanted oi (yielded ops a.tmps)) a w := by
  obtain ⟨h1, h2, h3⟩ := Oper.apart_spec hap
  have keep : ∀ (u : Value) (b : Act), (∃ ds, b = { a with defers := ds }) → execOp (b.put oj.dst u).eval oi = execOp a.eval oi ∧ Region.wanted oi (yielded ops (b.put oj.dst u).tmps) = Region.wanted oi (yielded ops a.tmps) := by
    rintro u b ⟨ds, rfl⟩
    have e1 := execOp_put (ops := ops) oi hsi { a with defers := ds } oj.dst u h3
    have e2 := wanted_put (ops := ops) oi { a with defers := ds } oj.dst u h3
    exact ⟨e1, e2⟩
  unfold wpOp at *
  simp only [hj] at *
  rw [wanted_put oj a oi.dst v h1] at h
  split
  · rename_i hw
    simp only [hw, if_true] at h
    rcases h with h | ⟨ha, b, w0, hq⟩
    · refine .inl ?_
      unfold Oper.wp at *
      rw [execOp_put oj hsj a oi.dst v h1] at h
      generalize (execOp a.eval oj).run P w = r at *
      cases r with
      | ok nx w' =>
        cases nx <;> simp only [Oper.upon] at h ⊢
        case value u => exact ⟨by rw [← Act.put_comm a v u h2]; exact h, keep u a ⟨_, rfl⟩⟩
        case skip => exact ⟨by rw [← Act.put_comm a v undef h2]; exact h, keep undef a ⟨_, rfl⟩⟩
        case defer d =>
          refine ⟨?_, keep undef _ ⟨_, rfl⟩⟩
          rw [Act.put_defers] at h
          rw [← Act.put_comm _ v undef h2]; exact h
        case enter f args =>
          refine Calls.mono h fun e w'' he => ?_
          cases e with
          | returned u => exact ⟨by rw [← Act.put_comm a v u h2]; exact he, keep u a ⟨_, rfl⟩⟩
          | panicked c => exact (hQ _ _ _ he).elim
          | outgrown => exact he
        case row row args => exact Rows.mono h fun u w'' he => ⟨by rw [← Act.put_comm a v u h2]; exact he, keep u a ⟨_, rfl⟩⟩
      | halt x w' =>
        cases x <;> simp only [Oper.upon] at h ⊢
        case panic u => exact (hQ _ _ _ h).elim
    · refine .inr ⟨?_, b, w0, hq⟩
      unfold Oper.asks at *
      rw [execOp_put oj hsj a oi.dst v h1] at ha
      exact ha
  · rename_i hw
    simp only [hw] at h
    exact ⟨by rw [← Act.put_comm a v undef h2]; exact h, keep undef a ⟨_, rfl⟩⟩

theorem wpAK_first {m : Nat} {T : Act → World → Prop} {i : Nat} {oi : Oper} {v : Value} {w0 : World} (hi : ops[i]? = some oi) (him : i < m) (hsel : Region.noSelect ops = true) (hQ : ∀ c a w, Q (.panic c) a w → False) :
    ∀ (f : Nat) (listed : Array Bool) (a : Act) (w : World), Kept w0 w →
      (∀ j oj, ops[j]? = some oj → j ≠ i → listed.getD j true = false → (∀ e ∈ oj.after, Region.binds .any e = true → e.on ≠ i) → oi.apart ops oj = true) →
      i ∈ Region.ready .any ops listed → Stable P ops oi v a w0 → wpAK P ops Q m T w0 f (listed.setIfInBounds i true) (a.put oi.dst v) w → wpAK P ops Q m T w0 (f + 1) listed a w := by
  have hclosed : ∀ f listed a w w', Kept w w' → wpAK P ops Q m T w0 f listed a w → wpAK P ops Q m T w0 f listed a w' := by
    intro f listed a w w' hk h
    cases f with
    | zero => exact ⟨h.1, fun w'' hk' => h.2 w'' (hk.trans hk')⟩
    | succ f => exact fun w'' hk' => h w'' (hk.trans hk')
  intro f
  induction f with
  | zero =>
    intro listed a w h0 _ hr hy H w' hk
    refine ⟨⟨i, hr, him⟩, fun j hj hjm => ?_⟩
    by_cases hji : j = i
    · subst hji
      exact (hy.kept (h0.trans hk)).wpOp hi (fun w'' h => ⟨(h0.trans hk).trans h, hclosed 0 _ _ _ _ (hk.trans h) H⟩)
    · have h1 := (mem_ready.1 (ready_mono hj hji)).1
      have h2 := H.1 j hjm
      have h3 := getD_both h1
      rw [h3] at h2; cases h2
  | succ f ih =>
    intro listed a w h0 hfree hr hy H w' hk
    refine ⟨⟨i, hr, him⟩, fun j hj hjm => ?_⟩
    by_cases hji : j = i
    · subst hji
      exact (hy.kept (h0.trans hk)).wpOp hi (fun w'' h => ⟨(h0.trans hk).trans h, hclosed (f + 1) _ _ _ _ (hk.trans h) H⟩)
    · have h1 := (H w' hk).2 j (ready_mono hj hji) hjm
      obtain ⟨hjun, oj, hoj, hall⟩ := mem_ready.1 hj
      have hnot : ∀ e ∈ oj.after, Region.binds .any e = true → e.on ≠ i := fun e he hb heq => by
        have h1 := hall e he hb
        have h0 := (mem_ready.1 hr).1
        rw [heq] at h1
        rcases Nat.lt_or_ge i listed.size with h' | h'
        · simp [h'] at h0 h1; rw [h0] at h1; cases h1
        · simp [Array.getElem?_eq_none h'] at h1
      have h2 := wpOp_apart hoj (hfree j oj hoj hji hjun hnot) (fun cs b => Region.noSelect_spec hsel j oj cs b hoj) hQ h1 (fun cs b => Region.noSelect_spec hsel i oi cs b hi)
      have hfree' : ∀ k ok, ops[k]? = some ok → k ≠ i → (listed.setIfInBounds j true).getD k true = false →
          (∀ e ∈ ok.after, Region.binds .any e = true → e.on ≠ i) → oi.apart ops ok = true := fun k ok hk hki hun hno => by
        refine hfree k ok hk hki ?_ hno
        by_cases hjk : j = k
        · subst hjk; exact hjun
        · rw [getD_set_ne true hjk] at hun; exact hun
      refine wpOp_mono (fun a' w'' h3 => ?_) h2
      obtain ⟨⟨h4, h5⟩, h6, h7⟩ := h3
      refine ⟨h4, ih (listed.setIfInBounds j true) a' w'' h4 hfree' (ready_mono hr (Ne.symm hji)) (hy.of_same h6 h7) ?_⟩
      rw [Array.setIfInBounds_comm _ _ hji]
      exact h5

/-- heads first, then the others in their order -/
theorem wpAny_of_AK {m g : Nat} {T : Act → World → Prop} (hs : Region.sinkB .any ops m = true) (hc : Region.chainB .any ops m = true) (hm : m < ops.size)
    (hT : ∀ listed a w, HeadInv .any ops m listed → (∀ j, j < m → listed.getD j false = true) → T a w → wpAny P .any ops Q g listed a w) :
    ∀ {w0 : World} (f : Nat) (listed : Array Bool) (a : Act) (w : World), HeadInv .any ops m listed → wpAK P ops Q m T w0 f listed a w → wpAny P .any ops Q (f + g) listed a w
  | _, 0, listed, a, w, inv, h => by
    rw [Nat.zero_add]
    exact hT listed a w inv h.1 (h.2 w (Kept.refl w))
  | _, f + 1, listed, a, w, inv, h => by
    obtain ⟨⟨i0, hi0, him0⟩, hall⟩ := h w (Kept.refl w)
    have e : f + 1 + g = (f + g) + 1 := by omega
    rw [e]
    refine ⟨fun h0 => (by rw [h0] at hi0; cases hi0), fun i hi => ?_⟩
    have him : i < m := by
      rcases Nat.lt_or_ge i m with h' | h'
      · exact h'
      · exact absurd hi (tail_waits hs hc hm inv _ i0 rfl him0 (mem_ready.1 hi0).1 i h')
    exact wpOp_mono (fun a' w' h3 => wpAny_of_AK hs hc hm hT f _ a' w' (inv.set hi him) h3.2) (hall i hi him)
end
end Go.GA
end
section
namespace Go.GA
open Go Go.RowKit

/-- the slot says 'want' just if g -/
inductive GV (fr : Fr) (s : Nat) : Bool → Bool → Prop
  | T {b : Bool} : get fr s = some (.bool b) → GV fr s true b
  | F {b : Bool} : get fr s = some (.bool b) → GV fr s false (!b)
  | gT {g b : Bool} : get fr s = some (.gd g (.bool b)) → GV fr s true (g && b)
  | gF {g b : Bool} : get fr s = some (.gd g (.bool b)) → GV fr s false (g && !b)

section
variable {P : Program} {Γ : Ctx} {n : Sz} {Q : Exit → Act → World → Prop} {fr fr' : Fr} {H H' : Hp} {all : Array Oper} {ops : List Oper} {ty : TypeId} {pos : String} {aft : Array Edge} {op : Op}

theorem SIM.wantedG {ρ : Rho} {w : World} {a : Act} (h : SIM Γ n ρ w a fr H) {j s : Nat} {want g : Bool} {o : Oper} (ho : o.guard = some (j, want)) (hj : (all[j]?).bind (·.dst) = some s) (hg : GV fr s want g) : Region.wanted o (Go.yielded all a.tmps) = g := by
  unfold Region.wanted
  rw [ho]
  simp only
  have hval : ∀ x, get fr s = some x → ∃ v, a.tmps[s]? = some v ∧ RA ρ (World.hf w) (ownB ρ H) x v := fun x hx => by
    obtain ⟨h1, h2⟩ := h.fr s x hx
    have hlt : s < a.tmps.size := by rw [h.size]; exact h1
    refine ⟨_, Array.getElem?_eq_getElem hlt, ?_⟩
    rw [Array.getD_eq_getD_getElem?, Array.getElem?_eq_getElem hlt] at h2
    simpa using h2
  have gdcase : ∀ {g b : Bool}, get fr s = some (.gd g (.bool b)) → Go.yielded all a.tmps j = if g then some b else none := fun {g b} hx => by
    obtain ⟨v, hv, hr⟩ := hval _ hx
    cases g
    · simp only [RA, Bool.false_eq_true, if_false] at hr
      subst hr
      simp [Go.yielded, hj, hv, undef]
    · simp only [RA, if_true] at hr
      subst hr
      simp [Go.yielded, hj, hv]
  cases hg with
  | T hx => rw [h.yielded hj hx]; cases g <;> rfl
  | F hx => rename_i b; rw [h.yielded hj hx]; cases b <;> rfl
  | gT hx => rename_i g b; rw [gdcase hx]; cases g <;> cases b <;> rfl
  | gF hx => rename_i g b; rw [gdcase hx]; cases g <;> cases b <;> rfl

theorem SIM.strip {ρ : Rho} {w : World} {a : Act} (h : SIM Γ n ρ w a fr H) {t : Nat} {g : Bool} {y : AV} (ht : get fr t = some (.gd g y)) (hg : g = true) : SIM Γ n ρ w a ((t, y) :: fr) H := by
  refine ⟨h.defers, h.size, h.ext, h.keep, h.own, h.heap, fun t' x hx => ?_⟩
  simp only [get] at hx
  cases e : Nat.beq t t' with
  | true =>
    have := Nat.eq_of_beq_eq_true e
    subst this
    rw [e] at hx
    simp only [cond_true, Option.some.injEq] at hx
    subst hx
    obtain ⟨h1, h2⟩ := h.fr t _ ht
    subst hg
    exact ⟨h1, by simpa [RA] using h2⟩
  | false => rw [e] at hx; exact h.fr t' x hx
theorem Reads.strip {o : Oper} {x y : AV} (t : Nat) {g : Bool} (ht : get fr t = some (.gd g y)) (hg : g = true) (h : Reads P o ((t, y) :: fr) H x) : Reads P o fr H x := fun Γ n ρ w a s => h Γ n ρ w a (s.strip ht hg)
theorem AO.strip {y : AV} (t : Nat) {g : Bool} (ht : get fr t = some (.gd g y)) (hg : g = true) (h : AO P Γ n all Q ops ((t, y) :: fr) H) : AO P Γ n all Q ops fr H := fun ρ w a s => h ρ w a (s.strip ht hg)
theorem AW.strip {c : Code} {y : AV} (t : Nat) {g : Bool} (ht : get fr t = some (.gd g y)) (hg : g = true) (h : AW P Γ n c Q ((t, y) :: fr) H) : AW P Γ n c Q fr H := fun ρ w a s => h ρ w a (s.strip ht hg)

/-- an operation under a guard that reads -/
theorem ao_readG {d j s : Nat} {want g : Bool} {x : AV} (hj : (all[j]?).bind (·.dst) = some s) (hg : GV fr s want g) (hr : g = true → Reads P ⟨some d, op, ty, pos, aft, some (j, want)⟩ fr H x) (hd : Nat.blt d n.n = true)
    (h : AO P Γ n all Q ops ((d, .gd g x) :: fr) H) : AO P Γ n all Q (⟨some d, op, ty, pos, aft, some (j, want)⟩ :: ops) fr H := fun ρ w a s => by
  have hw := s.wantedG (o := ⟨some d, op, ty, pos, aft, some (j, want)⟩) rfl hj hg
  refine wpList_step fun K hK => ?_
  cases hgb : g with
  | true =>
    rw [if_pos (by rw [hw, hgb])]
    obtain ⟨v, hv, hrun⟩ := hr hgb Γ n ρ w a s
    unfold Oper.wp
    rw [hrun w (Kept.refl w)]
    exact hK _ _ (h ρ w _ (s.put hd (by rw [hgb]; simpa [RA] using hv)))
  | false =>
    rw [if_neg (by rw [hw, hgb]; simp)]
    exact hK _ _ (h ρ w _ (s.put hd (by rw [hgb]; simp [RA])))

theorem SIM.kept {ρ : Rho} {w w' : World} {a : Act} (s : SIM Γ n ρ w a fr H) (hk : Kept w w') : SIM Γ n ρ w' a fr H := by
  obtain ⟨ℓ, h1, h2⟩ := s.heap
  have hh : ∀ b, World.hf w b ≠ none → World.hf w' b = World.hf w b := fun b hb => hk.block b (hf_lt hb) (fun h => h)
  have hM : ∀ b, ¬ ownB ρ H b → World.hf w b ≠ none → World.hf w' b = World.hf w b ∧ ¬ ownB ρ H b := fun b h hb => ⟨hh b hb, h⟩
  refine ⟨s.defers, s.size, ⟨hk.os.trans s.ext.os, hk.tape.trans s.ext.tape, hk.output.trans s.ext.output, Nat.le_trans s.ext.size hk.size, fun k hk' hm => ?_⟩, s.keep, s.own, ⟨ℓ, ⟨fun e he => (h1.blk e he).same (fun _ _ => rfl) hM (fun b hb => hh b (h1.there he b hb)), h1.nd, h1.dj, h1.ids⟩, h2⟩, fun t x hx => ?_⟩
  · have := s.ext.size
    rw [hk.block k (by omega) (fun h => h)]; exact s.ext.block k hk' hm
  · obtain ⟨h3, h4⟩ := s.fr t x hx
    exact ⟨h3, h4.same x (fun _ _ => rfl) hM⟩

/-- a call that hands back plain values and touches nothing of the caller's: 'r' is what it gives -/
def Scalar (P : Program) (f : FuncId) (ys : List AV) (r : AV) : Prop := ACalls P f ys [] (fun r' H' => r' = r ∧ H' = [])

mutual
/-- values that are known to the sign -/
def AV.sure : AV → Bool
  | .int .. => true
  | .bool _ => true
  | .str _ => true
  | .v t _ => t.flat
  | .nilsl => true
  | .nilp => true
  | .nilf => true
  | .tup xs => AV.sureL xs
  | _ => false
def AV.sureL : List AV → Bool
  | [] => true
  | x :: xs => x.sure && AV.sureL xs
end
theorem rc_sure {h h' : Hf} : ∀ (t : Ty) {x : t.D} {cs ds F G}, t.flat = true → Rc h t x cs F → Rc h' t x ds G → cs = ds
  | .bool, _, _, _, _, _, _, h1, h2 => by rw [h1.1, h2.1]
  | .int _, _, _, _, _, _, _, h1, h2 => by rw [h1.1, h2.1]
  | .str, _, _, _, _, _, _, h1, h2 => by rw [h1.1, h2.1]
  | .unit, _, _, _, _, _, _, h1, h2 => by rw [h1.1, h2.1]
  | .slice _, _, _, _, _, _, hf, _, _ => by cases hf
  | .pair a b, _, _, _, _, _, hf, h1, h2 => by
    simp only [Ty.flat, Bool.and_eq_true] at hf
    obtain ⟨c1, c2, F1, F2, e, _, p1, p2⟩ := h1
    obtain ⟨d1, d2, G1, G2, e', _, q1, q2⟩ := h2
    rw [e, e', rc_sure a hf.1 p1 q1, rc_sure b hf.2 p2 q2]
  | .arr n t, xs, cs, ds, F, G, hf, h1, h2 => by
    have key : ∀ (xs : List t.D) (cs ds F G), RelL (Rc h t) xs cs F → RelL (Rc h' t) xs ds G → cs = ds := by
      intro xs
      induction xs with
      | nil => intro cs ds F G h1 h2; rw [h1.1, h2.1]
      | cons x xs ih =>
        intro cs ds F G h1 h2
        obtain ⟨c1, c2, F1, F2, e, _, p1, p2⟩ := h1
        obtain ⟨d1, d2, G1, G2, e', _, q1, q2⟩ := h2
        rw [e, e', rc_sure t hf p1 q1, ih _ _ _ _ p2 q2]
    exact key xs cs ds F G h1.2 h2.2
mutual
theorem ra_sure {ρ ρ' : Rho} {h h' : Hf} {M M' : Nat → Prop} : ∀ (x : AV) {u v : Value}, x.sure = true → RA ρ h M x u → RA ρ' h' M' x v → u = v
  | .int .., _, _, _, h1, h2 => by simp only [RA] at h1 h2; rw [h1, h2]
  | .bool _, _, _, _, h1, h2 => by simp only [RA] at h1 h2; rw [h1, h2]
  | .str _, _, _, _, h1, h2 => by simp only [RA] at h1 h2; rw [h1, h2]
  | .nilsl, _, _, _, h1, h2 => by simp only [RA] at h1 h2; rw [h1, h2]
  | .nilp, _, _, _, h1, h2 => by simp only [RA] at h1 h2; rw [h1, h2]
  | .nilf, _, _, _, h1, h2 => by simp only [RA] at h1 h2; rw [h1, h2]
  | .v t x, _, _, hs, h1, h2 => by
    obtain ⟨F, ⟨cs, p, e⟩, _⟩ := h1
    obtain ⟨G, ⟨ds, q, e'⟩, _⟩ := h2
    rw [e, e', rc_sure t hs p q]
  | .tup xs, _, _, hs, h1, h2 => by
    obtain ⟨us, e, p⟩ := h1
    obtain ⟨vs, e', q⟩ := h2
    rw [e, e', ras_sure xs hs p q]
  | .cptr .., _, _, hs, _, _ => by cases hs
  | .cav .., _, _, hs, _, _ => by cases hs
  | .ref .., _, _, hs, _, _ => by cases hs
  | .elem .., _, _, hs, _, _ => by cases hs
  | .elem2 .., _, _, hs, _, _ => by cases hs
  | .os _, _, _, hs, _, _ => by cases hs
  | .view .., _, _, hs, _, _ => by cases hs
  | .yl _, _, _, hs, _, _ => by cases hs
  | .ov .., _, _, hs, _, _ => by cases hs
  | .fn .., _, _, hs, _, _ => by cases hs
  | .st _, _, _, hs, _, _ => by cases hs
  | .gd .., _, _, hs, _, _ => by cases hs
  | .junk, _, _, hs, _, _ => by cases hs
theorem ras_sure {ρ ρ' : Rho} {h h' : Hf} {M M' : Nat → Prop} : ∀ (xs : List AV) {us vs : List Value}, AV.sureL xs = true → RAs ρ h M xs us → RAs ρ' h' M' xs vs → us = vs
  | [], _, _, _, h1, h2 => by simp only [RAs] at h1 h2; rw [h1, h2]
  | x :: xs, _, _, hs, h1, h2 => by
    simp only [AV.sureL, Bool.and_eq_true] at hs
    obtain ⟨u, us', e, p1, p2⟩ := h1
    obtain ⟨v, vs', e', q1, q2⟩ := h2
    rw [e, e', ra_sure x hs.1 p1 q1, ras_sure xs hs.2 p2 q2]
end

mutual
theorem ra_any {ρ ρ' : Rho} {h h' : Hf} {M M' : Nat → Prop} : ∀ (x : AV) {v : Value}, x.sure = true → RA ρ h M x v → RA ρ' h' M' x v
  | .int .., _, _, h1 => by simp only [RA] at h1 ⊢; exact h1
  | .bool _, _, _, h1 => by simp only [RA] at h1 ⊢; exact h1
  | .str _, _, _, h1 => by simp only [RA] at h1 ⊢; exact h1
  | .nilsl, _, _, h1 => by simp only [RA] at h1 ⊢; exact h1
  | .nilp, _, _, h1 => by simp only [RA] at h1 ⊢; exact h1
  | .nilf, _, _, h1 => by simp only [RA] at h1 ⊢; exact h1
  | .v t x, _, hs, h1 => by
    obtain ⟨F, ⟨cs, p, e⟩, _⟩ := h1
    have hF := Rc.flat t hs p
    subst hF
    exact ⟨[], ⟨cs, p.same t (by simp), e⟩, by simp⟩
  | .tup xs, _, hs, h1 => by
    obtain ⟨us, e, p⟩ := h1
    exact ⟨us, e, ras_any xs hs p⟩
  | .cptr .., _, hs, _ => by cases hs
  | .cav .., _, hs, _ => by cases hs
  | .ref .., _, hs, _ => by cases hs
  | .elem .., _, hs, _ => by cases hs
  | .elem2 .., _, hs, _ => by cases hs
  | .os _, _, hs, _ => by cases hs
  | .view .., _, hs, _ => by cases hs
  | .yl _, _, hs, _ => by cases hs
  | .ov .., _, hs, _ => by cases hs
  | .fn .., _, hs, _ => by cases hs
  | .st _, _, hs, _ => by cases hs
  | .gd .., _, hs, _ => by cases hs
  | .junk, _, hs, _ => by cases hs
theorem ras_any {ρ ρ' : Rho} {h h' : Hf} {M M' : Nat → Prop} : ∀ (xs : List AV) {vs : List Value}, AV.sureL xs = true → RAs ρ h M xs vs → RAs ρ' h' M' xs vs
  | [], _, _, h1 => by simp only [RAs] at h1 ⊢; exact h1
  | x :: xs, _, hs, h1 => by
    simp only [AV.sureL, Bool.and_eq_true] at hs
    obtain ⟨u, us', e, p1, p2⟩ := h1
    exact ⟨u, us', e, ra_any x hs.1 p1, ras_any xs hs.2 p2⟩
end

/-- what a scalar call comes to -/
theorem scalar_sim [hLS : LaidS P Γ] {f : FuncId} {ys xs : List AV} {r : AV} (hc : Scalar P f ys r) (hsure : r.sure = true) {ρ : Rho} {w : World} {a : Act} {vs : List Value} (s : SIM Γ n ρ w a fr H) (hx : RAs ρ (World.hf w) (ownB ρ H) xs vs) (hA : ∀ σ, Ads H [] σ xs ys) :
    ∃ v, RA ρ (World.hf w) (ownB ρ H) r v ∧ ∀ w', Kept w w' → Calls P f vs.toArray w' (fun e w'' => e = .returned v ∧ Kept w' w'') := by
  have key : ∀ w', Kept w w' → Calls P f vs.toArray w' (fun e w'' => ∃ v, e = .returned v ∧ Kept w' w'' ∧ ∃ ρ' h' M', RA ρ' h' M' r v) := by
    intro w' hk
    obtain ⟨ℓ, hk', hb0⟩ := (s.kept hk).heap
    have hx' : RAs ρ (World.hf w') (ownB ρ H) xs vs := hx.same xs (fun _ _ => rfl) (fun b hb hb' => ⟨hk.block b (hf_lt hb') (fun h => h), hb⟩)
    have hd : ∀ b, ¬ namB (ρ.map id) ([] : Hp) b := by rintro b ⟨e, he, _⟩; cases he
    have hys := ads_ok (Hc := []) (σ := id) (ρ := ρ) (h := World.hf w') hk' (fun b h => h.elim (fun h => (hd b h).elim) .inr) (fun e he _ b hb h => h.elim (hd b) (fun hn => (s.kept hk).apart hb0 b hn ⟨e, he, hb⟩)) (hA id) hx'
    refine (hc (ρ.map id) w' vs (fun _ => []) hys ⟨(by simp), (by simp), (by simp), (by simp)⟩ (fun b hn => ⟨fun ⟨e, he, _⟩ => (by cases he), (by
      have h1 : Γ.ρ0.N b := s.defers.2.1 ▸ hn
      exact Nat.lt_of_lt_of_le (s.defers.2.2 b h1).2 (Nat.le_trans s.ext.size hk.size))⟩) (hLS.laid.ext (s.kept hk).ext (fun b hb => absurd hb (hd b)))).mono ?_
    rintro e w'' ⟨v, r', H', ρ', ℓ', rfl, p⟩
    obtain ⟨⟨rfl, rfl⟩, _⟩ := p.post
    exact ⟨v, rfl, ⟨p.ext.os, p.ext.tape, p.ext.output, p.ext.size, fun k hk _ => p.ext.block k hk (hd k)⟩, _, _, _, p.ra⟩
  obtain ⟨e, w1, fr1, ⟨v, _, _, ρ1, h1, M1, hv⟩, _⟩ := key w (Kept.refl w) []
  refine ⟨v, ra_any r hsure hv, fun w' hk => (key w' hk).mono ?_⟩
  rintro e w'' ⟨v', rfl, hk', ρ2, h2, M2, hv'⟩
  rw [ra_sure r hsure hv' hv]
  exact ⟨rfl, hk'⟩

theorem stable_of_reads {o : Oper} {x : AV} {ρ : Rho} {w : World} {a : Act} (s : SIM Γ n ρ w a fr H) (hg : gOK all fr o.guard) (hr : Reads P o fr H x) : ∃ v, RA ρ (World.hf w) (ownB ρ H) x v ∧ Stable P all o v a w := by
  obtain ⟨v, hv, hrun⟩ := hr Γ n ρ w a s
  exact ⟨v, hv, .inl ⟨s.wanted hg, fun w' hk => .inl (hrun w' hk)⟩⟩

/-- a scalar call -/
def SCall (P : Program) (o : Oper) (fr : Fr) (H : Hp) (r : AV) : Prop :=
  ∀ Γ, LaidS P Γ → ∀ n ρ w a, SIM Γ n ρ w a fr H → ∃ v, RA ρ (World.hf w) (ownB ρ H) r v ∧ ∀ w', Kept w w' → ∃ f args, (execOp a.eval o).run P w' = .ok (.enter f args) w' ∧ Calls P f args w' (fun e w'' => e = .returned v ∧ Kept w' w'')
theorem scall {dst : Option Nat} {g : Option (Nat × Bool)} {f : FuncId} {fn : Func} {fo : Operand} {as : List Operand} {tys : Array TypeId} {caps xs ys : List AV} {r : AV} (hc : Scalar P f ys r) (hsure : r.sure = true) (hf : P.funcs[f]? = some fn) (hbody : fn.body.isNone = false) (hname : (fn.name == "runtime.NumGoroutine") = false)
    (hfo : evO fr fo = some (.fn f caps)) (hxs : evOs fr as = some xs) (hA : ∀ σ, Ads H [] σ (xs ++ caps) ys) : SCall P ⟨dst, .call ⟨.value fo, as.toArray, tys⟩, ty, pos, aft, g⟩ fr H r := fun Γ hLS n ρ w a s => by
  obtain ⟨cv, hcv, hcaps⟩ := s.ev hfo
  obtain ⟨v, h1, h2⟩ := scalar_sim hc hsure s (evOs_append (evOs_ok (fun o y h => s.ev h) hxs) hcaps) hA
  exact ⟨v, h1, fun w' hk => ⟨f, _, run_callv rfl hcv hf hbody hname w', h2 w' hk⟩⟩
theorem SCall.strip {o : Oper} {x y : AV} (t : Nat) {g : Bool} (ht : get fr t = some (.gd g y)) (hg : g = true) (h : SCall P o ((t, y) :: fr) H x) : SCall P o fr H x := fun Γ hLS n ρ w a s => h Γ hLS n ρ w a (s.strip ht hg)

theorem ao_scall [hLS : LaidS P Γ] {d : Nat} {g : Option (Nat × Bool)} {r : AV} (hg : gOK all fr g) (hc : SCall P ⟨some d, op, ty, pos, aft, g⟩ fr H r) (hd : Nat.blt d n.n = true) (h : AO P Γ n all Q ops ((d, r) :: fr) H) : AO P Γ n all Q (⟨some d, op, ty, pos, aft, g⟩ :: ops) fr H := fun ρ w a s => by
  obtain ⟨v, hv, hrun⟩ := hc Γ hLS n ρ w a s
  obtain ⟨f, args, h1, h2⟩ := hrun w (Kept.refl w)
  refine wpList_go (s.wanted hg) fun K hK => ?_
  unfold Oper.wp
  rw [h1, Oper.upon_enter]
  refine h2.mono ?_
  rintro e w' ⟨rfl, hk⟩
  refine hK _ _ (h ρ w' _ ?_)
  have s' := s.kept hk
  exact s'.put hd (hv.same r (fun _ _ => rfl) (fun b hb hb' => ⟨hk.block b (hf_lt hb') (fun h => h), hb⟩))
theorem ao_scallG [hLS : LaidS P Γ] {d j s : Nat} {want g : Bool} {r : AV} (hj : (all[j]?).bind (·.dst) = some s) (hg : GV fr s want g) (hc : g = true → SCall P ⟨some d, op, ty, pos, aft, some (j, want)⟩ fr H r) (hd : Nat.blt d n.n = true)
    (h : AO P Γ n all Q ops ((d, .gd g r) :: fr) H) : AO P Γ n all Q (⟨some d, op, ty, pos, aft, some (j, want)⟩ :: ops) fr H := fun ρ w a s => by
  have hw := s.wantedG (o := ⟨some d, op, ty, pos, aft, some (j, want)⟩) rfl hj hg
  refine wpList_step fun K hK => ?_
  cases hgb : g with
  | true =>
    rw [if_pos (by rw [hw, hgb])]
    obtain ⟨v, hv, hrun⟩ := hc hgb Γ hLS n ρ w a s
    obtain ⟨f, args, h1, h2⟩ := hrun w (Kept.refl w)
    unfold Oper.wp
    rw [h1, Oper.upon_enter]
    refine h2.mono ?_
    rintro e w' ⟨rfl, hk⟩
    refine hK _ _ (h ρ w' _ ((s.kept hk).put hd ?_))
    rw [hgb]
    simp only [RA, if_true]
    exact hv.same r (fun _ _ => rfl) (fun b hb hb' => ⟨hk.block b (hf_lt hb') (fun h => h), hb⟩)
  | false =>
    rw [if_neg (by rw [hw, hgb]; simp)]
    exact hK _ _ (h ρ w _ (s.put hd (by rw [hgb]; simp [RA])))

/-! ### Open orders -/
def AN (P : Program) (Γ : Ctx) (n : Sz) (all : Array Oper) (Q : Exit → Act → World → Prop) (m : Nat) (T : Act → World → Prop) (f : Nat) (listed : Array Bool) (fr : Fr) (H : Hp) : Prop :=
  ∀ ρ w a, SIM Γ n ρ w a fr H → wpAK P all Q m T w f listed a w
def canon (m k : Nat) : Array Bool := (List.replicate m true ++ List.replicate (k - m) false).toArray
def drawB (l : List Oper) (m : Nat) : Bool :=
  Region.noSelect l.toArray && decide (m < l.length) && Region.sinkB .any l.toArray m && Region.chainB .any l.toArray m && Region.seqB .any l.toArray (l.length - m) m (canon m l.length)

theorem SIM.drew {ρ : Rho} {w : World} {a : Act} (s : SIM Γ n ρ w a fr H) : SIM Γ n ρ { w with drawn := w.drawn + 1 } a fr H := s.kept ⟨rfl, rfl, rfl, Nat.le_refl _, fun _ _ _ => rfl⟩

theorem aw_draw {id : Nat} {l : List Oper} (m : Nat) (hm : P.follows .mixedOrders = true) (hB : drawB l m = true) (h : AN P Γ n l.toArray Q m (fun a w => wpList P l.toArray Q (l.drop m) a w) m (Array.replicate l.length false) fr H) :
    AW P Γ n (.region id l.toArray true) Q fr H := fun ρ w a s => by
  simp only [drawB, Bool.and_eq_true, decide_eq_true_eq] at hB
  obtain ⟨⟨⟨⟨hsel, hn⟩, hs⟩, hc⟩, hseq⟩ := hB
  have inv0 : HeadInv .any l.toArray m (Array.replicate l.length false) :=
    ⟨by simp, fun j oj _ hl => (by rw [getD_replicate_false] at hl; cases hl), fun t _ ht => getD_in (by simpa using ht) (getD_replicate_false _ _)⟩
  refine wp_region_any hm ?_
  have := wpAny_of_AK (P := P) (Q := Q) (ops := l.toArray) (m := m) (g := l.length - m) hs hc (by simpa using hn) (fun listed a w inv hdone hT => ?_) m _ a _ inv0 (h ρ _ a s.drew)
  · have e : m + (l.length - m) = l.toArray.size := by simp; omega
    rw [e] at this
    simpa using this
  · have hcanon : listed = canon m l.length := by
      apply Array.ext
      · rw [inv.size]; simp [canon]; omega
      · intro i h1 h2
        have hi : i < l.length := by rw [inv.size] at h1; simpa using h1
        by_cases him : i < m
        · have := hdone i him
          simp [h1] at this
          simp [canon, this, him]
        · have := inv.tail i (by omega) (by simpa using hi)
          simp [h1] at this
          simp only [canon, List.getElem_toArray, this]
          rw [List.getElem_append_right (by simp; omega)]
          simp
    rw [hcanon]
    have := wpAny_of_seq (P := P) (ops := l.toArray) (md := .any) (Q' := Q) (l.drop m) m (canon m l.length) a w (fun j => by simp [List.getElem?_drop]) (by simpa using hseq) hT
    simpa using this

theorem wpAny_of_AK_all {all : Array Oper} {T : Act → World → Prop} (hT : ∀ a w, T a w → Q .normal a w) : ∀ {w0 : World} (f : Nat) (listed : Array Bool) (a : Act) (w : World), wpAK P all Q all.size T w0 f listed a w → wpAny P .any all Q f listed a w
  | _, 0, listed, a, w, h => by
    refine ⟨?_, hT _ _ (h.2 w (Kept.refl w))⟩
    cases hr : Region.ready .any all listed with
    | nil => rfl
    | cons i l =>
      have hi : i ∈ Region.ready .any all listed := by rw [hr]; simp
      obtain ⟨h0, o, ho, _⟩ := mem_ready.1 hi
      have := h.1 i (Array.getElem?_eq_some_iff.1 ho).1
      rw [getD_both h0] at this; cases this
  | _, f + 1, listed, a, w, h => by
    obtain ⟨⟨i0, hi0, _⟩, hall⟩ := h w (Kept.refl w)
    refine ⟨fun h0 => (by rw [h0] at hi0; cases hi0), fun i hi => ?_⟩
    obtain ⟨_, o, ho, _⟩ := mem_ready.1 hi
    exact wpOp_mono (fun a' w' h3 => wpAny_of_AK_all hT f _ a' w' h3.2) (hall i hi (Array.getElem?_eq_some_iff.1 ho).1)
theorem aw_drawAll {id : Nat} {l : List Oper} (hm : P.follows .mixedOrders = true) (h : AN P Γ n l.toArray Q l.toArray.size (Q .normal) l.toArray.size (Array.replicate l.toArray.size false) fr H) :
    AW P Γ n (.region id l.toArray true) Q fr H := fun ρ w a s => wp_region_any hm (wpAny_of_AK_all (fun _ _ h => h) _ _ _ _ (h ρ _ a s.drew))

def allB (m : Nat) (listed : Array Bool) : Bool := (List.range m).all fun j => listed.getD j false
theorem an_done {m : Nat} {T : Act → World → Prop} {listed : Array Bool} (hl : allB m listed = true) (h : AQ Γ n T fr H) : AN P Γ n all Q m T 0 listed fr H := fun ρ w a s =>
  ⟨fun j hj => by have := List.all_eq_true.1 hl j (List.mem_range.2 hj); exact this, fun w' hk => h ρ w' a (s.kept hk)⟩
/-- the tail -/
theorem an_tail {m : Nat} {listed : Array Bool} {l rest : List Oper} (hl : allB m listed = true) (hr : l.drop m = rest) (h : AO P Γ n l.toArray Q rest fr H) : AN P Γ n l.toArray Q m (fun a w => wpList P l.toArray Q (l.drop m) a w) 0 listed fr H :=
  an_done hl (fun ρ w a s => by rw [hr]; exact h ρ w a s)
def nextB (all : Array Oper) (listed : Array Bool) (m i : Nat) : Bool := Nat.blt i m && (Region.ready .any all listed).contains i && Region.free .any all listed i
theorem an_stable {m f : Nat} {T : Act → World → Prop} {listed : Array Bool} (i : Nat) {o : Oper} {d : Nat} {x : AV} (hsel : Region.noSelect all = true) (hQ : ∀ c a w, Q (.panic c) a w → False) (hi : all[i]? = some o) (hod : o.dst = some d) (hn : nextB all listed m i = true) (hd : Nat.blt d n.n = true)
    (hst : ∀ ρ w a, SIM Γ n ρ w a fr H → ∃ v, RA ρ (World.hf w) (ownB ρ H) x v ∧ Stable P all o v a w)
    (h : AN P Γ n all Q m T f (listed.setIfInBounds i true) ((d, x) :: fr) H) : AN P Γ n all Q m T (f + 1) listed fr H := fun ρ w a s => by
  simp only [nextB, Bool.and_eq_true] at hn
  obtain ⟨v, hv, hs⟩ := hst ρ w a s
  refine wpAK_first hi (by simpa using hn.1.1) hsel hQ f listed a w (Kept.refl w) (Region.free_spec hi hn.2) (by simpa using hn.1.2) hs ?_
  have := h ρ w (a.put (some d) v) (s.put hd hv)
  rwa [← hod] at this
theorem an_read {m f : Nat} {T : Act → World → Prop} {listed : Array Bool} (i : Nat) {d : Nat} {g : Option (Nat × Bool)} {x : AV} (hsel : Region.noSelect all = true) (hQ : ∀ c a w, Q (.panic c) a w → False) (hi : all[i]? = some ⟨some d, op, ty, pos, aft, g⟩) (hn : nextB all listed m i = true) (hg : gOK all fr g)
    (hr : Reads P ⟨some d, op, ty, pos, aft, g⟩ fr H x) (hd : Nat.blt d n.n = true) (h : AN P Γ n all Q m T f (listed.setIfInBounds i true) ((d, x) :: fr) H) : AN P Γ n all Q m T (f + 1) listed fr H :=
  an_stable i hsel hQ hi rfl hn hd (fun ρ w a s => stable_of_reads s hg hr) h
theorem an_scall [hLS : LaidS P Γ] {m f : Nat} {T : Act → World → Prop} {listed : Array Bool} (i : Nat) {d : Nat} {g : Option (Nat × Bool)} {x : AV} (hsel : Region.noSelect all = true) (hQ : ∀ c a w, Q (.panic c) a w → False) (hi : all[i]? = some ⟨some d, op, ty, pos, aft, g⟩) (hn : nextB all listed m i = true) (hg : gOK all fr g)
    (hr : SCall P ⟨some d, op, ty, pos, aft, g⟩ fr H x) (hd : Nat.blt d n.n = true) (h : AN P Γ n all Q m T f (listed.setIfInBounds i true) ((d, x) :: fr) H) : AN P Γ n all Q m T (f + 1) listed fr H :=
  an_stable i hsel hQ hi rfl hn hd (fun ρ w a s => by
    obtain ⟨v, hv, hrun⟩ := hr Γ hLS n ρ w a s
    exact ⟨v, hv, .inl ⟨s.wanted hg, fun w' hk => .inr (hrun w' hk)⟩⟩) h
theorem an_readG {m f : Nat} {T : Act → World → Prop} {listed : Array Bool} (i : Nat) {d j s : Nat} {want g : Bool} {x : AV} (hsel : Region.noSelect all = true) (hQ : ∀ c a w, Q (.panic c) a w → False) (hi : all[i]? = some ⟨some d, op, ty, pos, aft, some (j, want)⟩) (hn : nextB all listed m i = true)
    (hj : (all[j]?).bind (·.dst) = some s) (hg : GV fr s want g) (hr : g = true → Reads P ⟨some d, op, ty, pos, aft, some (j, want)⟩ fr H x) (hd : Nat.blt d n.n = true) (h : AN P Γ n all Q m T f (listed.setIfInBounds i true) ((d, .gd g x) :: fr) H) : AN P Γ n all Q m T (f + 1) listed fr H :=
  an_stable i hsel hQ hi rfl hn hd (fun ρ w a sm => by
    have hw := sm.wantedG (o := ⟨some d, op, ty, pos, aft, some (j, want)⟩) rfl hj hg
    cases hgb : g with
    | true =>
      obtain ⟨v, hv, hrun⟩ := hr hgb Γ n ρ w a sm
      exact ⟨v, by simpa [RA] using hv, .inl ⟨by rw [hw, hgb], fun w' hk => .inl (hrun w' hk)⟩⟩
    | false => exact ⟨undef, by simp [RA], .inr ⟨by rw [hw, hgb], rfl⟩⟩) h
theorem an_scallG [hLS : LaidS P Γ] {m f : Nat} {T : Act → World → Prop} {listed : Array Bool} (i : Nat) {d j s : Nat} {want g : Bool} {x : AV} (hsel : Region.noSelect all = true) (hQ : ∀ c a w, Q (.panic c) a w → False) (hi : all[i]? = some ⟨some d, op, ty, pos, aft, some (j, want)⟩) (hn : nextB all listed m i = true)
    (hj : (all[j]?).bind (·.dst) = some s) (hg : GV fr s want g) (hr : g = true → SCall P ⟨some d, op, ty, pos, aft, some (j, want)⟩ fr H x) (hd : Nat.blt d n.n = true) (h : AN P Γ n all Q m T f (listed.setIfInBounds i true) ((d, .gd g x) :: fr) H) : AN P Γ n all Q m T (f + 1) listed fr H :=
  an_stable i hsel hQ hi rfl hn hd (fun ρ w a sm => by
    have hw := sm.wantedG (o := ⟨some d, op, ty, pos, aft, some (j, want)⟩) rfl hj hg
    cases hgb : g with
    | true =>
      obtain ⟨v, hv, hrun⟩ := hr hgb Γ hLS n ρ w a sm
      exact ⟨v, by simpa [RA] using hv, .inl ⟨by rw [hw, hgb], fun w' hk => .inr (hrun w' hk)⟩⟩
    | false => exact ⟨undef, by simp [RA], .inr ⟨by rw [hw, hgb], rfl⟩⟩) h
end
end Go.GA
end
