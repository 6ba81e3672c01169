/- Stores into the call's own blocks. -/
import Derived.Test.YtcminfahdindnaaDoorGA7
namespace Go.GA
open Go Go.RowKit

def hset : Hp → Nat → Blk → Hp
  | [], _, _ => []
  | (i, B) :: H, j, B' => bif Nat.beq i j then (i, B') :: H else (i, B) :: hset H j B'
theorem hset_keys : ∀ (H : Hp) (j : Nat) (B' : Blk), (hset H j B').map (·.1) = H.map (·.1)
  | [], _, _ => rfl
  | (i, B) :: H, j, B' => by
    unfold hset
    cases Nat.beq i j <;> simp [hset_keys H]
theorem mem_hset : ∀ {H : Hp} {j : Nat} {B' : Blk} {e}, (H.map (·.1)).Nodup → e ∈ hset H j B' → (e.1 = j ∧ e.2 = B') ∨ (e ∈ H ∧ e.1 ≠ j)
  | (i, B) :: H, j, B', e, hn, he => by
    simp only [List.map_cons, List.nodup_cons] at hn
    unfold hset at he
    cases hb : Nat.beq i j with
    | true =>
      have hi := Nat.eq_of_beq_eq_true hb
      rw [hb] at he
      simp only [cond_true, List.mem_cons] at he
      rcases he with rfl | he
      · exact .inl ⟨hi, rfl⟩
      · refine .inr ⟨List.mem_cons_of_mem _ he, fun h => hn.1 ?_⟩
        rw [hi, ← h]; exact List.mem_map_of_mem he
    | false =>
      rw [hb] at he
      simp only [cond_false, List.mem_cons] at he
      rcases he with rfl | he
      · exact .inr ⟨by simp, Nat.ne_of_beq_eq_false hb⟩
      · rcases mem_hset hn.2 he with h | ⟨h1, h2⟩
        · exact .inl h
        · exact .inr ⟨List.mem_cons_of_mem _ h1, h2⟩
theorem nam_keys {ρ : Rho} {H H' : Hp} (h : H'.map (·.1) = H.map (·.1)) {b : Nat} : namB ρ H' b ↔ namB ρ H b := by
  constructor
  · rintro ⟨e, he, k, hk⟩
    have : e.1 ∈ H.map (·.1) := by rw [← h]; exact List.mem_map_of_mem he
    obtain ⟨e', he', e1⟩ := List.mem_map.1 this
    exact ⟨e', he', k, by rw [e1]; exact hk⟩
  · rintro ⟨e, he, k, hk⟩
    have : e.1 ∈ H'.map (·.1) := by rw [h]; exact List.mem_map_of_mem he
    obtain ⟨e', he', e1⟩ := List.mem_map.1 this
    exact ⟨e', he', k, by rw [e1]; exact hk⟩
theorem own_keys {ρ : Rho} {H H' : Hp} (h : H'.map (·.1) = H.map (·.1)) {b : Nat} : ownB ρ H' b ↔ ownB ρ H b := or_congr (nam_keys h) Iff.rfl

theorem own_head {ρ : Rho} {h : Hf} {H : Hp} {ℓ : Nat → List Nat} (hk : HeapOK ρ h H ℓ) {e} (he : e ∈ H) {b : Nat} {k} (hb : ρ e.1 = some (b, k)) : b ∈ ℓ e.1 := by
  have := hk.blk e he
  obtain ⟨i, B⟩ := e
  cases B with
  | var cs =>
    obtain ⟨b', k', c, T, F, h1, h2, h3, e⟩ := this
    simp only at hb h1 ⊢
    rw [hb] at h1
    obtain ⟨rfl, _⟩ : b = b' ∧ k = k' := by simpa using h1
    rw [e]; simp
  | row t xs =>
    obtain ⟨hl, ⟨h1, h2, e⟩ | ⟨b', cap, c, T, F, mid, post, h1, h2, h3, h4, e, h5⟩⟩ := this
    · simp only at hb h1; rw [hb] at h1; cases h1
    · simp only at hb h1 ⊢
      rw [hb] at h1
      have h1' := congrArg (fun o => o.map Prod.fst) h1
      simp only [Option.map_some, Option.some.injEq] at h1'
      subst h1'
      rw [e]; simp

/-- a write into the block of entry 'id' -/
theorem SIM.write {Γ : Ctx} {n : Sz} {ρ : Rho} {w : World} {a : Act} {fr : Fr} {H : Hp} (s : SIM Γ n ρ w a fr H) {id : Nat} {B B' : Blk} (hg : hget H id = some B) {b : Nat} {k} (hρ : ρ id = some (b, k)) {c c' : Array Value} {T : TypeId} {z : Nat × Nat}
    (hb : w.heap[b]? = some (.cells c T z)) (hnew : ∀ ℓ h', HeapOK ρ (World.hf w) H ℓ → h' b = some (.cells c' T z) → (∀ b', b' ≠ b → h' b' = World.hf w b') → (∀ b', ¬ ownB ρ H b' → World.hf w b' ≠ none → h' b' = World.hf w b' ∧ ¬ ownB ρ H b') →
      ∃ L, RBlk ρ h' (ownB ρ H) id B' L ∧ L.Nodup ∧ ∀ x ∈ L, x ∈ ℓ id) : SIM Γ n ρ (w.setRow b c') a fr (hset H id B') := by
  obtain ⟨ℓ, hk, hl⟩ := s.heap
  have hmem := hget_mem hg
  have hob0 : namB ρ H b := ⟨_, hmem, k, hρ⟩
  have hob : ownB ρ H b := .inl hob0
  have hbℓ : b ∈ ℓ id := own_head hk hmem hρ
  have hkeys := hset_keys H id B'
  have hM : ∀ b', ownB ρ (hset H id B') b' ↔ ownB ρ H b' := fun b' => own_keys hkeys
  have hMeq : ownB ρ (hset H id B') = ownB ρ H := funext fun b' => propext (hM b')
  have hh : ∀ b', b' ≠ b → World.hf (w.setRow b c') b' = World.hf w b' := fun b' hne => setRow_other w b b' c' hne
  have hhb : World.hf (w.setRow b c') b = some (.cells c' T z) := setRow_heap w b c c' T z hb
  have hsame : ∀ b', ¬ ownB ρ H b' → World.hf w b' ≠ none → World.hf (w.setRow b c') b' = World.hf w b' ∧ ¬ ownB ρ H b' := fun b' h1 _ => ⟨hh b' (fun e => h1 (e ▸ hob)), h1⟩
  obtain ⟨L, hL, hLn, hLs⟩ := hnew ℓ _ hk hhb hh hsame
  have hℓo : ∀ e : Nat × Blk, e.1 ≠ id → updL ℓ id L e.1 = ℓ e.1 := fun e he => updL_other _ _ he
  refine ⟨s.defers, s.size, ⟨s.ext.os, s.ext.tape, s.ext.output, by simpa [World.setRow] using s.ext.size, fun i hi hm => ?_⟩, s.keep, fun b' hb' => s.own b' ((nam_keys hkeys).1 hb'), ⟨updL ℓ id L, ⟨?_, ?_, ?_, ?_⟩, ?_⟩, ?_⟩
  · have : i ≠ b := fun e => by
      rcases s.own b hob0 with h | h
      · exact hm (e ▸ h)
      · omega
    rw [setRow_other w b i c' this]; exact s.ext.block i hi hm
  · intro e he
    rw [hMeq]
    rcases mem_hset hk.ids he with ⟨h1, h2⟩ | ⟨h1, h2⟩
    · obtain ⟨i, Bi⟩ := e
      simp only at h1 h2; subst h1; subst h2
      rw [updL_same]; exact hL
    · rw [hℓo e h2]
      exact (hk.blk e h1).same (fun _ _ => rfl) hsame (fun b' hb' => hh b' (fun e' => hk.dj e h1 _ hmem h2 b' hb' (e' ▸ hbℓ)))
  · intro e he
    rcases mem_hset hk.ids he with ⟨h1, _⟩ | ⟨h1, h2⟩
    · rw [h1, updL_same]; exact hLn
    · rw [hℓo e h2]; exact hk.nd e h1
  · intro e he e' he' hne x hx
    rcases mem_hset hk.ids he with ⟨h1, _⟩ | ⟨h1, h2⟩ <;> rcases mem_hset hk.ids he' with ⟨h3, _⟩ | ⟨h3, h4⟩
    · exact absurd (h1.trans h3.symm) hne
    · rw [h1, updL_same] at hx; rw [hℓo e' h4]
      exact hk.dj _ hmem e' h3 (fun h => h4 h.symm) x (hLs x hx)
    · rw [hℓo e h2] at hx; rw [h3, updL_same]
      exact fun h => hk.dj e h1 _ hmem h2 x hx (hLs x h)
    · rw [hℓo e h2] at hx; rw [hℓo e' h4]
      exact hk.dj e h1 e' h3 hne x hx
  · rw [hkeys]; exact hk.ids
  · intro e he x hx
    rcases mem_hset hk.ids he with ⟨h1, _⟩ | ⟨h1, h2⟩
    · rw [h1, updL_same] at hx; exact hl _ hmem x (hLs x hx)
    · rw [hℓo e h2] at hx; exact hl e h1 x hx
  · intro t x hx
    obtain ⟨h1, h2⟩ := s.fr t x hx
    refine ⟨h1, ?_⟩
    rw [hMeq]
    exact h2.same x (fun _ _ => rfl) hsame

/-! ### Storing components -/
def compsSz : List Comp → Nat
  | [] => 0
  | c :: cs => c.sz + compsSz cs
def putAt : List Comp → Nat → List Comp → Option (List Comp)
  | cs, 0, new => bif Nat.beq (compsSz (cs.take new.length)) (compsSz new) && Nat.ble new.length cs.length then some (new ++ cs.drop new.length) else none
  | c :: cs, o + 1, new => bif Nat.ble c.sz (o + 1) then (match putAt cs (o + 1 - c.sz) new with
    | some r => some (c :: r)
    | none => none) else none
  | [], _ + 1, _ => none
theorem RComps.len {ρ : Rho} {h : Hf} {M : Nat → Prop} : ∀ {cs : List Comp} {vs F}, RComps ρ h M cs vs F → vs.length = compsSz cs
  | [], _, _, hr => by rw [hr.1]; rfl
  | .cell a :: r, _, _, hr => by obtain ⟨v, cs', e, _, _, h3⟩ := hr; rw [e, List.length_cons, RComps.len h3]; simp [compsSz, Comp.sz]; omega
  | .arr t n xs :: r, _, _, hr => by
    obtain ⟨c1, c2, F1, F2, e, _, h1, h2⟩ := hr
    rw [e, List.length_append, h1.len, RComps.len h2]; rfl
theorem RComps.split {ρ : Rho} {h : Hf} {M : Nat → Prop} : ∀ {cs ds : List Comp} {vs F}, RComps ρ h M (cs ++ ds) vs F → ∃ v1 v2 F1 F2, vs = v1 ++ v2 ∧ F = F1 ++ F2 ∧ RComps ρ h M cs v1 F1 ∧ RComps ρ h M ds v2 F2
  | [], ds, vs, F, hr => ⟨[], vs, [], F, rfl, rfl, ⟨rfl, rfl⟩, hr⟩
  | .cell a :: r, ds, _, _, hr => by
    obtain ⟨v, cs', e, h1, h2, h3⟩ := hr
    obtain ⟨v1, v2, F1, F2, e1, e2, h4, h5⟩ := RComps.split (cs := r) h3
    exact ⟨v :: v1, v2, F1, F2, by rw [e, e1]; rfl, e2, ⟨v, v1, rfl, h1, h2, h4⟩, h5⟩
  | .arr t n xs :: r, ds, _, _, hr => by
    obtain ⟨c1, c2, F1, F2, e, eF, h1, h2⟩ := hr
    obtain ⟨v1, v2, G1, G2, e1, e2, h4, h5⟩ := RComps.split (cs := r) h2
    exact ⟨c1 ++ v1, v2, F1 ++ G1, G2, by rw [e, e1]; simp, by rw [eF, e2]; simp, ⟨c1, v1, F1, G1, rfl, rfl, h1, h4⟩, h5⟩
/-- the cells from 'off' on are replaced -/
theorem putAt_ok {ρ : Rho} {h h' : Hf} {M : Nat → Prop} : ∀ {cs new r : List Comp} {off : Nat} {vs ns F}, RComps ρ h M cs vs F → RComps ρ h' M new ns [] → putAt cs off new = some r → (∀ b, ¬ M b → h b ≠ none → h' b = h b ∧ ¬ M b) → (∀ b ∈ F, h' b = h b) → F.Nodup →
    off + ns.length ≤ vs.length ∧ ∃ F', RComps ρ h' M r (vs.take off ++ ns ++ vs.drop (off + ns.length)) F' ∧ F'.Nodup ∧ ∀ b ∈ F', b ∈ F
  | cs, new, r, 0, vs, ns, F, hc, hn, hp, hm, hF, hnd => by
    simp only [putAt] at hp
    cases hb : Nat.beq (compsSz (cs.take new.length)) (compsSz new) && Nat.ble new.length cs.length with
    | false => rw [hb] at hp; cases hp
    | true =>
      rw [hb] at hp
      simp only [cond_true, Option.some.injEq] at hp
      simp only [Bool.and_eq_true] at hb
      have hsz := Nat.eq_of_beq_eq_true hb.1
      subst hp
      rw [← List.take_append_drop new.length cs] at hc
      obtain ⟨v1, v2, F1, F2, e1, e2, h1, h2⟩ := RComps.split hc
      have hl1 := h1.len
      have hl2 := hn.len
      have hlen : v1.length = ns.length := by rw [hl1, hl2, hsz]
      subst e1; subst e2
      refine ⟨by simp [hlen], F2, ?_, (List.nodup_append.1 hnd).2.1, fun b hb => List.mem_append_right _ hb⟩
      have : (v1 ++ v2).drop (0 + ns.length) = v2 := by rw [Nat.zero_add, ← hlen]; simp
      rw [this]
      simpa using RComps.append (F := []) hn (h2.same (fun _ _ => rfl) hm (fun b hb => hF b (List.mem_append_right _ hb)))
  | [], new, r, o + 1, vs, ns, F, hc, hn, hp, hm, hF, hnd => by cases hp
  | c :: cs, new, r, o + 1, vs, ns, F, hc, hn, hp, hm, hF, hnd => by
    simp only [putAt] at hp
    cases hb : Nat.ble c.sz (o + 1) with
    | false => rw [hb] at hp; cases hp
    | true =>
      have hle := Nat.le_of_ble_eq_true hb
      rw [hb] at hp
      simp only [cond_true] at hp
      split at hp
      · rename_i r' hr'
        simp only [Option.some.injEq] at hp
        subst hp
        obtain ⟨v1, v2, F1, F2, e1, e2, h1, h2⟩ := RComps.split (cs := [c]) hc
        subst e1; subst e2
        have hl1 : v1.length = c.sz := by rw [h1.len]; simp [compsSz]
        obtain ⟨h3, F', h4, h5, h6⟩ := putAt_ok h2 hn hr' hm (fun b hb => hF b (List.mem_append_right _ hb)) (List.nodup_append.1 hnd).2.1
        refine ⟨by rw [List.length_append]; omega, F1 ++ F', ?_, ?_, ?_⟩
        · have h7 := RComps.append (h1.same (fun _ _ => rfl) hm (fun b hb => hF b (List.mem_append_left _ hb))) h4
          have e1 : (v1 ++ v2).take (o + 1) = v1 ++ v2.take (o + 1 - c.sz) := by rw [List.take_append, hl1, List.take_of_length_le (by omega)]
          have e2 : (v1 ++ v2).drop (o + 1 + ns.length) = v2.drop (o + 1 - c.sz + ns.length) := by
            rw [List.drop_append, hl1, List.drop_of_length_le (by omega)]
            simp only [List.nil_append]
            congr 1; omega
          rw [e1, e2]
          simpa [List.append_assoc] using h7
        · rw [List.nodup_append] at hnd ⊢
          exact ⟨hnd.1, h5, fun x hx y hy => hnd.2.2 x hx y (h6 y hy)⟩
        · intro b hb'
          rcases List.mem_append.1 hb' with h | h
          · exact List.mem_append_left _ h
          · exact List.mem_append_right _ (h6 b h)
      · cases hp

theorem one_val {ρ : Rho} {h : Hf} {M : Nat → Prop} {x : AV} {v : Value} (hx : RA ρ h M x v) (h1 : x.one = true) : v.oneCell' = true := by
  cases x with
  | v t y =>
    obtain ⟨F, ⟨cs, hc, e⟩, _⟩ := hx
    have ht : t.agg = false := by simpa [AV.one] using h1
    obtain ⟨u, rfl⟩ := one_cell ht hc
    subst e
    cases t <;> simp [Ty.agg] at ht
    · obtain ⟨e, _⟩ := hc; simp at e; subst e; rfl
    · obtain ⟨e, _⟩ := hc; simp at e; subst e; rfl
    · obtain ⟨e, _⟩ := hc; simp at e; subst e; rfl
    · obtain ⟨_, ⟨_, _, a, cap, e⟩ | ⟨b, off, cap, F', e, _⟩⟩ := hc <;> (simp at e; subst e; rfl)
  | int k m => simp only [RA] at hx; subst hx; rfl
  | bool b => simp only [RA] at hx; subst hx; rfl
  | str b => simp only [RA] at hx; subst hx; rfl
  | cptr t y => obtain ⟨b, off, F, c, T, z, pre, mid, post, e, _⟩ := hx; subst e; rfl
  | cav y => obtain ⟨b, off, c, T, z, pre, u, post, e, _⟩ := hx; subst e; rfl
  | ref id off => obtain ⟨b, k, _, e⟩ := hx; subst e; rfl
  | elem id off sz i => obtain ⟨b, k, _, e⟩ := hx; subst e; rfl
  | elem2 id off sz i sz2 j => obtain ⟨b, k, _, e⟩ := hx; subst e; rfl
  | os id => obtain ⟨_, e⟩ | ⟨b, cap, len, _, e⟩ := hx <;> (subst e; rfl)
  | view id off sz l len => obtain ⟨_, a, cap, e⟩ | ⟨b, k, cap, _, e⟩ := hx <;> (subst e; rfl)
  | ov id m => obtain ⟨_, _, e⟩ | ⟨b, cap, len, _, e⟩ := hx <;> (subst e; rfl)
  | yl l => simp only [RA] at hx; subst hx; rfl
  | nilsl => simp only [RA] at hx; subst hx; rfl
  | nilp => simp only [RA] at hx; subst hx; rfl
  | nilf => simp only [RA] at hx; subst hx; rfl
  | fn f caps => obtain ⟨vs, e, _⟩ := hx; subst e; rfl
  | tup xs => cases h1
  | st xs => cases h1
  | gd g x => cases h1
  | junk => cases h1
theorem RelL.all {α : Type} {R : α → List Value → List Nat → Prop} {p : Value → Prop} (hf : ∀ x c F, R x c F → ∀ v ∈ c, p v) : ∀ {xs : List α} {cs F}, RelL R xs cs F → ∀ v ∈ cs, p v
  | [], _, _, ⟨e, _⟩, v, hv => by subst e; cases hv
  | x :: xs, cs, F, ⟨c1, c2, F1, F2, e1, e2, h1, h2⟩, v, hv => by
    subst e1
    rcases List.mem_append.1 hv with h | h
    · exact hf _ _ _ h1 v h
    · exact RelL.all hf h2 v h
theorem Rc.one {h : Hf} : ∀ (t : Ty) {x : t.D} {cs F}, Rc h t x cs F → ∀ v ∈ cs, v.oneCell' = true
  | .bool, _, _, _, hx, v, hv => by rw [hx.1] at hv; simp at hv; subst hv; rfl
  | .int _, _, _, _, hx, v, hv => by rw [hx.1] at hv; simp at hv; subst hv; rfl
  | .str, _, _, _, hx, v, hv => by rw [hx.1] at hv; simp at hv; subst hv; rfl
  | .arr n t, _, _, _, hx, v, hv => RelL.all (fun x c F hc => Rc.one t hc) hx.2 v hv
  | .slice t, _, _, _, hx, v, hv => by
    obtain ⟨_, ⟨_, _, a, cap, e⟩ | ⟨b, off, cap, F', e, _⟩⟩ := hx <;> (rw [e] at hv; simp at hv; subst hv; rfl)
  | .unit, _, _, _, hx, v, hv => by rw [hx.1] at hv; cases hv
  | .pair a b, _, _, _, hx, v, hv => by
    obtain ⟨c1, c2, F1, F2, e, eF, h1, h2⟩ := hx
    rw [e] at hv
    rcases List.mem_append.1 hv with h | h
    · exact Rc.one a h1 v h
    · exact Rc.one b h2 v h
theorem rcomps_one {ρ : Rho} {h : Hf} {M : Nat → Prop} : ∀ {cs : List Comp} {vs F}, RComps ρ h M cs vs F → ∀ v ∈ vs, v.oneCell' = true
  | [], _, _, hr, v, hv => by rw [hr.1] at hv; cases hv
  | .cell a :: r, _, _, hr, v, hv => by
    obtain ⟨u, cs', e, h1, h2, h3⟩ := hr
    subst e
    rcases List.mem_cons.1 hv with rfl | hv
    · exact one_val h2 h1
    · exact rcomps_one h3 v hv
  | .arr t n xs :: r, _, _, hr, v, hv => by
    obtain ⟨c1, c2, F1, F2, e, eF, h1, h2⟩ := hr
    subst e
    rcases List.mem_append.1 hv with h | h
    · exact h1.one _ v h
    · exact rcomps_one h2 v h

/-! ### Elements written -/
theorem RelL.set {α : Type} {R R' : α → List Value → List Nat → Prop} {xs : List α} {i : Nat} (hi : i < xs.length) {cs ns F} {y : α} (h : RelL R xs cs F) {s : Nat} (hs : ∀ x c F, R x c F → c.length = s) (hf : ∀ x c F, R x c F → F = []) (hm : ∀ x c, R x c [] → R' x c [])
    (hy : R' y ns []) (hn : ns.length = s) : i * s + ns.length ≤ cs.length ∧ RelL R' (xs.set i y) (cs.take (i * s) ++ ns ++ cs.drop (i * s + ns.length)) [] := by
  have hx := split_at xs i hi y
  have hlen : (xs.take i).length = i := by rw [List.length_take]; omega
  have e : xs.set i y = xs.take i ++ y :: xs.drop (i + 1) := by rw [List.set_eq_take_append_cons_drop, if_pos hi]
  rw [hx] at h
  obtain ⟨c1, c2, F1, F2, e1, e2, h1, d1, d2, G1, G2, e3, e4, h3, h4⟩ := RelL.split h
  have l1 : c1.length = i * s := by rw [RelL.len hs h1, hlen]
  have l2 : d1.length = s := hs _ _ _ h3
  have f1 : F1 = [] := RelL.flat hf h1
  have f2 : G2 = [] := RelL.flat hf h4
  subst f1; subst f2
  subst e1; subst e3
  refine ⟨by simp only [List.length_append]; omega, ?_⟩
  have e5 : (c1 ++ (d1 ++ d2)).take (i * s) = c1 := by rw [← l1]; simp
  have e6 : (c1 ++ (d1 ++ d2)).drop (i * s + ns.length) = d2 := by
    rw [hn, ← l1, ← l2, ← List.append_assoc, ← List.length_append]; simp
  rw [e5, e6, e, List.append_assoc]
  have hm' : ∀ {zs : List α} {c}, RelL R zs c [] → RelL R' zs c [] := fun h => RelL.mono (fun x c F' hF hc => by
    have : F' = [] := hf _ _ _ hc
    subst this; exact hm _ _ hc) h
  exact RelL.append (F := []) (G := []) (hm' h1) ⟨ns, d2, [], [], rfl, rfl, hy, hm' h4⟩

section
variable {P : Program} {n : Sz} {fr : Fr} {H : Hp} {dst : Option Nat} {ty : TypeId} {pos : String} {aft : Array Edge} {g : Option (Nat × Bool)}

theorem run_storeVar {T : TypeId} {v : Value} {ns : List Value} {b off : Nat} {c : Array Value} {T' : TypeId} {w : World} (hs : ∀ w, (sizeOf T).run P w = .ok ns.length w) (hv : v.cells.toList = ns) (hb : w.heap[b]? = some (.cells c T' (0, 0))) (hl : off + ns.length ≤ c.size)
    (h1 : ∀ u ∈ ns, u.oneCell' = true) : (storeVar T ⟨b, off, none⟩ v).run P w = .ok () (w.setRow b (c.toList.take off ++ ns ++ c.toList.drop (off + ns.length)).toArray) := by
  have e : v.cells.size = ns.length := by rw [← hv]; simp
  have := run_storeCells_at P b off T' ns 0 c w hb (by simpa using hl) h1
  simp only [Nat.add_zero] at this
  subst hv
  simp [storeVar, Sem.run_bind, hs, this]

/-- a store into an own variable, or a part of it -/
theorem e_store {T : TypeId} {x y : Operand} {id off : Nat} {cs r : List Comp} {u : AV} (hx : evO fr x = some (.ref id off)) (hy : evO fr y = some u) (hg : hget H id = some (.var cs)) (hb : boxable u = true)
    (hs : ∀ w, (sizeOf T).run P w = .ok (compsSz (toComps u)) w) (hp : putAt cs off (toComps u) = some r) : EffS P n ⟨none, .store T x y, ty, pos, aft, g⟩ fr H fr (hset H id (.var r)) := fun Γ ρ w a s => by
  obtain ⟨b, k, hρ, e⟩ := s.ev hx
  have hu := ra_comps u (s.ev hy) hb
  obtain ⟨ℓ, hL, _⟩ := s.heap
  obtain ⟨b', k', c, T', F, hρ', hbb, hcs, hℓ⟩ := hL.get hg
  rw [hρ] at hρ'
  obtain ⟨rfl, rfl⟩ : b = b' ∧ k = k' := by simpa using hρ'
  have hlen := hu.len
  have hnd : F.Nodup := by have := hL.nd _ (hget_mem hg); rw [hℓ] at this; exact (List.nodup_cons.1 this).2
  have hle := (putAt_ok hcs hu hp (fun b _ _ => ⟨rfl, by assumption⟩) (fun _ _ => rfl) hnd).1
  have hrun := run_storeVar (P := P) (T := T) (v := a.eval y) (ns := (a.eval y).cells.toList) (by rw [hlen]; exact hs) rfl hbb (by simpa using hle) (rcomps_one hu)
  refine ⟨w.setRow b (c.toList.take off ++ (a.eval y).cells.toList ++ c.toList.drop (off + (a.eval y).cells.toList.length)).toArray, ρ, ?_, s.write hg hρ hbb (fun ℓ' h' hk' hb' hne hM => ?_)⟩
  · simp only [execOp, Instr.storeAt, e, Instr.sureAddr, Sem.run_bind, Sem.run_pure, Result.andThen_ok, hrun]
  · obtain ⟨b2, k2, c2, T2, F2, h1, h2, h3, h4⟩ := hk'.get hg
    rw [hρ] at h1
    obtain ⟨rfl, rfl⟩ : b = b2 ∧ k = k2 := by simpa using h1
    rw [show World.hf w b = some (.cells c T' (0, 0)) from hbb] at h2
    simp only [Option.some.injEq, Obj.cells.injEq] at h2
    obtain ⟨rfl, rfl, _⟩ := h2
    have hnd2 : (b :: F2).Nodup := by have := hk'.nd _ (hget_mem hg); rw [h4] at this; exact this
    have hFne : ∀ x ∈ F2, x ≠ b := fun x hx e => (List.nodup_cons.1 hnd2).1 (e ▸ hx)
    obtain ⟨_, F', h5, h6, h7⟩ := putAt_ok (h' := h') h3 (hu.same (fun _ _ => rfl) hM (by simp)) hp hM (fun x hx => hne x (hFne x hx)) (List.nodup_cons.1 hnd2).2
    refine ⟨b :: F', ⟨b, k, _, T', F', hρ, hb', by simpa using h5, rfl⟩, List.nodup_cons.2 ⟨fun h => (List.nodup_cons.1 hnd2).1 (h7 b h), h6⟩, fun x hx => ?_⟩
    rw [h4]
    rcases List.mem_cons.1 hx with rfl | hx
    · simp
    · exact List.mem_cons_of_mem _ (h7 x hx)
end
end Go.GA
