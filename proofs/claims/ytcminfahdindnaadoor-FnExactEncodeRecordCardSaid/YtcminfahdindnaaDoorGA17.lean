/- More words for printed walks: lengths of arrays that the state knows. -/
import Derived.Test.YtcminfahdindnaaDoorGA16
namespace Go.GA
open Go Go.RowKit
theorem ne_t {b : Bool} (h : b = false) : ¬ (b = true) := by rw [h]; exact Bool.false_ne_true
theorem isSome_getD {α : Type} {m : Option α} {d : α} (h : m.isSome = true) : m = some (m.getD d) := by
  cases m with
  | none => cases h
  | some x => rfl
section
variable {P : Program} {n : Sz} {fr : Fr} {H : Hp} {dst : Option Nat} {ty : TypeId} {pos : String} {aft : Array Edge} {g : Option (Nat × Bool)}
theorem arr_len' {Γ : Ctx} {ρ : Rho} {w : World} {a : Act} (s : SIM Γ n ρ w a fr H) {id off m : Nat} {t : Ty} {xs : List t.D} {cs : List Comp} (hg : hget H id = some (.var cs)) (hc : compAt cs off = some (.arr t m xs)) : xs.length = m := by
  obtain ⟨ℓ, hL, _⟩ := s.heap
  obtain ⟨b, k, c, T, F, _, _, hcs, _⟩ := hL.get hg
  obtain ⟨p, m', q, F', _, _, ⟨c1, c2, F1, F2, _, _, h1, _⟩, _⟩ := comps_at hcs hc
  exact h1.1
theorem elemsAt_var {id off m : Nat} {t : Ty} {xs : List t.D} {cs : List Comp} (hg : hget H id = some (.var cs)) (hc : compAt cs off = some (.arr t m xs)) : elemsAt H id off = some ⟨t, xs⟩ := by
  simp only [elemsAt, hg, hc]
theorem r_load_elema {T : TypeId} {x : Operand} {id off m i : Nat} {t : Ty} {xs : List t.D} {cs : List Comp} (hf : t.flat = true) (ha : ∀ w, (isAgg T).run P w = .ok t.agg w) (hs : ∀ w, (sizeOf T).run P w = .ok t.sz w)
    (hx : evO fr x = some (.elem id off t.sz i)) (hg : hget H id = some (.var cs)) (hc : compAt cs off = some (.arr t m xs)) (hi : i < m) :
    Reads P ⟨dst, .load T x, ty, pos, aft, g⟩ fr H (ofTy t (xs.getD i t.dflt)) := fun Γ n ρ w a s =>
  r_load_elem hf ha hs hx (elemsAt_var hg hc) (by rw [arr_len' s hg hc]; exact hi) Γ n ρ w a s
theorem r_load_elema_int {T : TypeId} {x : Operand} {id off m i : Nat} {q : IntKind} {xs : List Int} {cs : List Comp} (ha : ∀ w, (isAgg T).run P w = .ok false w) (hs : ∀ w, (sizeOf T).run P w = .ok 1 w)
    (hx : evO fr x = some (.elem id off 1 i)) (hg : hget H id = some (.var cs)) (hc : compAt cs off = some (.arr (.int q) m xs)) (hi : i < m) :
    Reads P ⟨dst, .load T x, ty, pos, aft, g⟩ fr H (.int q (xs.getD i 0)) := r_load_elema (t := .int q) rfl ha hs hx hg hc hi
theorem e_store_elema {T : TypeId} {x y : Operand} {id off m i : Nat} {t : Ty} {xs : List t.D} {e : t.D} {cs : List Comp} {B' : Blk} (hf : t.flat = true) (hs : ∀ w, (sizeOf T).run P w = .ok t.sz w)
    (hx : evO fr x = some (.elem id off t.sz i)) (hy : evO fr y = some (ofTy t e)) (hg : hget H id = some (.var cs)) (hc : compAt cs off = some (.arr t m xs)) (hi : i < m) (hB : Blk.var (compsSet cs off t (xs.set i e)) = B') :
    EffS P n ⟨none, .store T x y, ty, pos, aft, g⟩ fr H fr (hset H id B') := fun Γ ρ w a s => by
  subst hB
  exact e_store_elem (B := .var cs) hf hs hx hy hg (elemsAt_var hg hc) (by rw [arr_len' s hg hc]; exact hi) Γ ρ w a s
theorem e_store_elema_int {T : TypeId} {x y : Operand} {id off m i : Nat} {q : IntKind} {xs : List Int} {e : Int} {cs : List Comp} {B' : Blk} (hs : ∀ w, (sizeOf T).run P w = .ok 1 w)
    (hx : evO fr x = some (.elem id off 1 i)) (hy : evO fr y = some (.int q e)) (hg : hget H id = some (.var cs)) (hc : compAt cs off = some (.arr (.int q) m xs)) (hi : i < m) (hB : Blk.var (compsSet cs off (.int q) (xs.set i e)) = B') :
    EffS P n ⟨none, .store T x y, ty, pos, aft, g⟩ fr H fr (hset H id B') := e_store_elema (t := .int q) rfl hs hx hy hg hc hi hB
theorem r_idxAddr_ca {T E : TypeId} {x y : Operand} {m : Nat} {t : Ty} {xs : List t.D} {k : IntKind} {i : Int} (hu : P.underlying T = some (.array m E)) (hs : ∀ w, (sizeOf E).run P w = .ok t.sz w)
    (hx : evO fr x = some (.cptr (.arr m t) xs)) (hy : evO fr y = some (.int k i)) (h0 : 0 ≤ i) (h1 : i < (m : Int)) :
    Reads P ⟨dst, .indexAddr T x y, ty, pos, aft, g⟩ fr H (.cptr t (xs.getD i.toNat t.dflt)) := fun Γ n ρ w a s => by
  obtain ⟨b, off, F, c, T', z, pre, mid, post, _, _, _, _, _, h6, _⟩ := s.ev hx
  exact r_idxAddr_c hu hs hx hy h6.1 h0 h1 Γ n ρ w a s
theorem r_index_a {T E : TypeId} {x y : Operand} {m : Nat} {t : Ty} {xs : List t.D} {k : IntKind} {i : Int} (hu : P.underlying T = some (.array m E)) (ha : ∀ w, (isAgg E).run P w = .ok t.agg w) (hs : ∀ w, (sizeOf E).run P w = .ok t.sz w)
    (hx : evO fr x = some (.v (.arr m t) xs)) (hy : evO fr y = some (.int k i)) (h0 : 0 ≤ i) (h1 : i < (m : Int)) :
    Reads P ⟨dst, .index T x y, ty, pos, aft, g⟩ fr H (ofTy t (xs.getD i.toNat t.dflt)) := fun Γ n ρ w a s => by
  obtain ⟨F, h1', _⟩ := s.ev hx
  exact r_index hu ha hs hx hy (rv_arr h1').choose_spec.2.1 h0 h1 Γ n ρ w a s
theorem ad_os0 {σ : Nat → Nat} {id : Nat} {t : Ty} {xs : List t.D} (hg : hget H id = some (.row t xs)) : Ad H [] σ (.os id) (.v (.slice t) xs) := ad_os hg (by simp)
theorem ad_ref0 {σ : Nat → Nat} {id off : Nat} {t : Ty} {x : t.D} {cs : List Comp} (hg : hget H id = some (.var cs)) (hc : compAt cs off = some (.cell (ofTy t x))) (ha : t.agg = false) : Ad H [] σ (.ref id off) (.cptr t x) := ad_ref hg hc ha (by simp)
theorem ad_ref0a {σ : Nat → Nat} {id off m : Nat} {t : Ty} {xs : List t.D} {cs : List Comp} (hf : t.flat = true) (hg : hget H id = some (.var cs)) (hc : compAt cs off = some (.arr t m xs)) : Ad H [] σ (.ref id off) (.cptr (.arr m t) xs) := ad_refa hf hg hc (by simp)
theorem ad_fn {H' : Hp} {σ : Nat → Nat} {f : FuncId} {cs ds : List AV} (h : Ads H H' σ cs ds) : Ad H H' σ (.fn f cs) (.fn f ds) := fun ρ h' ℓ hk hm hd v hx => by
  obtain ⟨vs, e, h1⟩ := hx
  exact ⟨vs, e, ads_ok hk hm hd h h1⟩
theorem ra_zero_arr {t : Ty} {m : Nat} {ρ : Rho} {h : Hf} {M : Nat → Prop} {z : Value} (hz : z = .agg ((List.replicate m (zc t)).flatten).toArray) : RA ρ h M (.v (.arr m t) (List.replicate m t.dflt)) z := by
  subst hz
  exact ⟨[], ⟨_, zc_ok h (.arr m t), rfl⟩, by simp⟩
end
end Go.GA
namespace Go.GA
open Go Go.RowKit
section
variable {P : Program} {n : Sz} {fr : Fr} {H : Hp} {dst : Option Nat} {ty : TypeId} {pos : String} {aft : Array Edge} {g : Option (Nat × Bool)}
theorem r_len_vm {T E : TypeId} {x : Operand} {t : Ty} {xs : List t.D} (m : Int) (hu : P.underlying T = some (.slice E)) (hx : evO fr x = some (.v (.slice t) xs)) (hm : (xs.length : Int) = m) :
    Reads P ⟨dst, .call ⟨.builtin .len, #[x], #[T]⟩, ty, pos, aft, g⟩ fr H (.int .i64 m) := by subst hm; exact r_len_v hu hx
theorem r_len_osm {T E : TypeId} {x : Operand} {id : Nat} {t : Ty} {xs : List t.D} (m : Int) (hu : P.underlying T = some (.slice E)) (hx : evO fr x = some (.os id)) (hg : hget H id = some (.row t xs)) (hm : (xs.length : Int) = m) :
    Reads P ⟨dst, .call ⟨.builtin .len, #[x], #[T]⟩, ty, pos, aft, g⟩ fr H (.int .i64 m) := by subst hm; exact r_len_os hu hx hg
theorem sl_len_m {Γ : Ctx} {c : Code} {Q : Exit → Act → World → Prop} (t' : Nat) {t : Ty} {xs : List t.D} (m : Int) (hx : get fr t' = some (.v (.slice t) xs)) (hm : (xs.length : Int) = m) (h : m ≤ 9223372036854775807 → AW P Γ n c Q fr H) : AW P Γ n c Q fr H := by
  subst hm; exact sl_len_v hx h
end
end Go.GA
namespace Go.GA
open Go Go.RowKit
section
variable {P : Program} {n : Sz} {fr : Fr} {H : Hp} {dst : Option Nat} {ty : TypeId} {pos : String} {aft : Array Edge} {g : Option (Nat × Bool)}
theorem tr_and {a b : Bool} (h : a = true) : (a && b) = b := by rw [h]; rfl
theorem r_andBg {c x : Operand} {a b q : Bool} (hc : evO fr c = some (.bool a)) (hx : evO fr x = some (.gd q (.bool b))) (hq : q = a) :
    Reads P ⟨dst, .pick c x (.const (.bool false)), ty, pos, aft, g⟩ fr H (.bool (a && b)) := by subst hq; exact r_andB hc hx
theorem r_orBg {c x : Operand} {a b q : Bool} (hc : evO fr c = some (.bool a)) (hx : evO fr x = some (.gd q (.bool b))) (hq : q = (!a)) :
    Reads P ⟨dst, .pick c (.const (.bool true)) x, ty, pos, aft, g⟩ fr H (.bool (a || b)) := by subst hq; exact r_orB hc hx
end
end Go.GA
namespace Go.GA
open Go Go.RowKit
section
variable {P : Program} {n : Sz} {fr : Fr} {H : Hp} {dst : Option Nat} {ty : TypeId} {pos : String} {aft : Array Edge} {g : Option (Nat × Bool)}
/-- an own cell, looked at from where it is not written -/
theorem ad_refc {H' : Hp} {σ : Nat → Nat} {id off : Nat} {x y : AV} {cs : List Comp} (hg : hget H id = some (.var cs)) (hc : compAt cs off = some (.cell x)) (ha : Ad H H' σ x y) (h1 : y.one = true) (hn : memB id ((hkeys H').map σ) = false) : Ad H H' σ (.ref id off) (.cav y) := fun ρ h ℓ hk hm hd v hx => by
  obtain ⟨b, k, hρ, rfl⟩ := hx
  have hmem := hget_mem hg
  obtain ⟨b', k', c, T, F, h1', h2, h3, e⟩ := hk.get hg
  rw [hρ] at h1'
  obtain ⟨rfl, rfl⟩ : b = b' ∧ k = k' := by simpa using h1'
  obtain ⟨p, m, q, F', ec, hp, ⟨v, cs', em, h5, h6, h7, h8⟩, hF'⟩ := comps_at h3 hc
  subst h7
  subst em
  have hb : ¬ ownB (ρ.map σ) H' b := hd _ hmem (fun e' he' hh => memB_false hn (by have hh' : σ e'.1 = id := hh; rw [← hh', hkeys_eq, List.map_map]; exact List.mem_map.2 ⟨e', he', rfl⟩)) b (by rw [e]; simp)
  exact ⟨b, off, c, T, (0, 0), p, v, q, rfl, hb, h2, by simpa using ec, hp, h1, ha ρ h ℓ hk hm hd v h6⟩
theorem r_load_cav {T : TypeId} {x : Operand} {y : AV} (ha : ∀ w, (isAgg T).run P w = .ok false w) (hx : evO fr x = some (.cav y)) : Reads P ⟨dst, .load T x, ty, pos, aft, g⟩ fr H y := fun Γ n ρ w a s => by
  obtain ⟨b, off, c, T', z, pre, u, post, e, hb, hh, hc, hp, h1, hu⟩ := s.ev hx
  refine ⟨u, hu, fun w' hk => ?_⟩
  have := cell_at (mid := [u]) (kept_get hk hh) (by simpa using hc) 0 (by simp)
  simp [hp] at this
  simp [execOp, e, Instr.loadAt, Instr.sureAddr, Sem.run_bind, loadVar, ha, load, Sem.run, this]
end
end Go.GA
namespace Go.GA
open Go Go.RowKit
section
variable {H : Hp}
theorem ad_refc0 {σ : Nat → Nat} {id off : Nat} {x y : AV} {cs : List Comp} (hg : hget H id = some (.var cs)) (hc : compAt cs off = some (.cell x)) (ha : Ad H [] σ x y) (h1 : y.one = true) : Ad H [] σ (.ref id off) (.cav y) := ad_refc hg hc ha h1 rfl
theorem ad_viewa0 {σ : Nat → Nat} {id off m l len z : Nat} {t : Ty} {xs : List t.D} {cs : List Comp} (hz : t.sz = z) (hf : t.flat = true) (hg : hget H id = some (.var cs)) (hc : compAt cs off = some (.arr t m xs)) (hl : l + len ≤ m) (hm : Nat.ble len 1000000 = true) :
    Ad H [] σ (.view id off z l len) (.v (.slice t) ((xs.drop l).take len)) := fun ρ h ℓ hk hm' hd v hx => by
  subst hz
  obtain ⟨b', k', c, T, F, h1', h2, h3, e⟩ := hk.get hg
  obtain ⟨p, mm, q, F', ec, hp, ⟨c1, c2, F1, F2, em, _, h5, h6, _⟩, hF'⟩ := comps_at h3 hc
  refine ad_view hf (elemsAt_var hg hc) (by rw [h5.1]; exact hl) ?_ (by simp) ρ h ℓ hk hm' hd v hx
  have := Nat.le_of_ble_eq_true hm
  simp only [lim]; omega
theorem ad_viewf0 {σ : Nat → Nat} {id off m z : Nat} {t : Ty} {xs : List t.D} {cs : List Comp} (hz : t.sz = z) (hf : t.flat = true) (hg : hget H id = some (.var cs)) (hc : compAt cs off = some (.arr t m xs)) (hm : Nat.ble m 1000000 = true) :
    Ad H [] σ (.view id off z 0 m) (.v (.slice t) xs) := fun ρ h ℓ hk hm' hd v hx => by
  obtain ⟨b', k', c, T, F, h1', h2, h3, e⟩ := hk.get hg
  obtain ⟨p, mm, q, F', ec, hp, ⟨c1, c2, F1, F2, em, _, h5, h6, _⟩, hF'⟩ := comps_at h3 hc
  have := ad_viewa0 hz hf hg hc (l := 0) (len := m) (by omega) hm ρ h ℓ hk hm' hd v hx
  have e2 : (xs.drop 0).take m = xs := by rw [List.drop_zero, List.take_of_length_le (by rw [h5.1]; exact Nat.le_refl _)]
  rwa [e2] at this
end
end Go.GA
namespace Go.GA
open Go Go.RowKit
/-- d rounds, counted down by i -/
def cntd {S R : Type} (f : Int → S → (S → R) → (Int → S → R) → R) (k : Int → S → R) : Nat → Int → S → R
  | 0, i, s => k i s
  | d + 1, i, s => f i s (fun s' => cntd f k d (i - 1) s') k
theorem is_cntd0 {S R : Type} {f : Int → S → (S → R) → (Int → S → R) → R} {k : Int → S → R} {i : Int} {s : S} {r : R} (h : Is (cntd f k 0 i s) r) : Is (k i s) r := h
theorem is_cntdS {S R : Type} {f : Int → S → (S → R) → (Int → S → R) → R} {k : Int → S → R} {d : Nat} {i : Int} {s : S} {r : R} (h : Is (cntd f k (d + 1) i s) r) : Is (f i s (fun s' => cntd f k d (i - 1) s') k) r := h
/-- the loop is left by a condition that says more than that no round is left -/
theorem is_cntF {S R : Type} {f : Int → S → (S → R) → (Int → S → R) → R} {k : Int → S → R} {d : Nat} {i : Int} {s : S} {r : R} {p : Prop} [Decidable p] {b : (S → R) → R} (h : Is (cnt f k d i s) r) (hp : ¬ p) (hf : ∀ c, f i s c k = if p then b c else k i s) : Is (k i s) r := by
  cases d with
  | zero => exact h
  | succ d => have := is_cntS h; rw [hf, if_neg hp] at this; exact this
theorem is_cntdF {S R : Type} {f : Int → S → (S → R) → (Int → S → R) → R} {k : Int → S → R} {d : Nat} {i : Int} {s : S} {r : R} {p : Prop} [Decidable p] {b : (S → R) → R} (h : Is (cntd f k d i s) r) (hp : ¬ p) (hf : ∀ c, f i s c k = if p then b c else k i s) : Is (k i s) r := by
  cases d with
  | zero => exact h
  | succ d => have := is_cntdS h; rw [hf, if_neg hp] at this; exact this
section
variable {P : Program} {Γ : Ctx} {n : Sz} {Q : Exit → Act → World → Prop} {c rest : Code} {fr : Fr} {H : Hp} {dst : Option Nat} {ty : TypeId} {pos : String} {aft : Array Edge} {g : Option (Nat × Bool)}
theorem al_cntd {S R : Type} {f : Int → S → (S → R) → (Int → S → R) → R} {k : Int → S → R} {r : R} (F : Int → S → Fr) (G : Int → S → Hp) (I : Nat → Int → S → Prop) {d : Nat} {i : Int} {s : S} (h : Is (cntd f k d i s) r) (hI : I d i s)
    (round : ∀ d i s, I d i s → Is (cntd f k d i s) r → (∀ d' i' s', d' < d → I d' i' s' → Is (cntd f k d' i' s') r → AL P Γ n c Q (F i' s') (G i' s')) → AL P Γ n c Q (F i s) (G i s)) : AL P Γ n c Q (F i s) (G i s) := by
  induction d using Nat.strongRecOn generalizing i s with
  | _ d ih => exact round d i s hI h (fun d' i' s' hd hI' h' => ih d' hd h' hI')
theorem r_slice_vm {T E : TypeId} {x : Operand} {t : Ty} {xs : List t.D} {lo hi : Option Operand} {l u : Int} (ys : List t.D) (hu : P.underlying T = some (.slice E)) (hs : ∀ w, (sizeOf E).run P w = .ok t.sz w) (hx : evO fr x = some (.v (.slice t) xs))
    (hlo : Lo fr lo l) (hhi : Hi fr (xs.length : Int) hi u) (h0 : 0 ≤ l) (h1 : l ≤ u) (h2 : u ≤ (xs.length : Int)) (hy : (xs.take u.toNat).drop l.toNat = ys) :
    Reads P ⟨dst, .slice T x lo hi none, ty, pos, aft, g⟩ fr H (.v (.slice t) ys) := by subst hy; exact r_slice_v hu hs hx hlo hhi h0 h1 h2
theorem sl_hi {α : Type} {xs : List α} {l : Nat} : (xs.take (xs.length : Int).toNat).drop l = xs.drop l := by simp
end
end Go.GA
