/- Slices of slices, arrays and strings; fields; lengths. -/
import Derived.Test.YtcminfahdindnaaDoorGA9
namespace Go.GA
open Go Go.RowKit

/-- the bounds of a slice expression -/
inductive Lo (fr : Fr) : Option Operand → Int → Prop
  | none : Lo fr Option.none 0
  | some {o : Operand} {k : IntKind} {i : Int} : evO fr o = Option.some (.int k i) → Lo fr (Option.some o) i
inductive Hi (fr : Fr) (len : Int) : Option Operand → Int → Prop
  | none : Hi fr len Option.none len
  | some {o : Operand} {k : IntKind} {i : Int} : evO fr o = Option.some (.int k i) → Hi fr len (Option.some o) i

theorem run_bounds {P : Program} {ρ : Rho} {h : Hf} {M : Nat → Prop} {fr : Fr} {ev : Operand → Value} (hev : ∀ o y, evO fr o = some y → RA ρ h M y (ev o)) {isSlice : Bool} {len cap : Nat} {lo hi : Option Operand} {l m : Int}
    (hlo : Lo fr lo l) (hhi : Hi fr (len : Int) hi m) (h0 : 0 ≤ l) (h1 : l ≤ m) (h2 : m ≤ (len : Int)) (h3 : len ≤ cap) (w : World) :
    (Instr.sliceBounds isSlice len cap (lo.map ev) (hi.map ev) none).run P w = .ok (l.toNat, m.toNat, cap) w := by
  have e1 : ∀ {o : Operand} {k : IntKind} {i : Int}, evO fr o = some (.int k i) → ev o = .int k i := fun h => by have := hev _ _ h; simpa only [RA] using this
  unfold Instr.sliceBounds
  cases hhi with
  | none =>
    cases hlo with
    | none => simp
    | some hl =>
      have : (0 ≤ l ∧ l ≤ (len : Int)) := ⟨h0, h1⟩
      simp [Instr.sliceBound, e1 hl, asIntOf, this]
  | some hm =>
    have a1 : 0 ≤ m ∧ m ≤ (cap : Int) := ⟨by omega, by omega⟩
    cases hlo with
    | none => simp [Instr.sliceBound, e1 hm, asIntOf, a1]
    | some hl =>
      have a2 : (0 ≤ l ∧ l ≤ m) := ⟨h0, h1⟩
      have a3 : max m 0 = m := by omega
      simp [Instr.sliceBound, e1 hl, e1 hm, asIntOf, a1, a2, a3]

section
variable {P : Program} {n : Sz} {fr : Fr} {H : Hp} {dst : Option Nat} {ty : TypeId} {pos : String} {aft : Array Edge} {g : Option (Nat × Bool)}

/-- an own array as a slice, or a part of it -/
theorem r_slice_arr {T E : TypeId} {x : Operand} {id off m sz : Nat} {lo hi : Option Operand} {l u : Int} (hu : P.underlying T = some (.array m E)) (hs : ∀ w, (sizeOf E).run P w = .ok sz w) (hx : evO fr x = some (.ref id off))
    (hlo : Lo fr lo l) (hhi : Hi fr (m : Int) hi u) (h0 : 0 ≤ l) (h1 : l ≤ u) (h2 : u ≤ (m : Int)) :
    Reads P ⟨dst, .slice T x lo hi none, ty, pos, aft, g⟩ fr H (.view id off sz l.toNat (u - l).toNat) := fun Γ n ρ w a s => by
  obtain ⟨b, k, hρ, e⟩ := s.ev hx
  have hb := fun w' => run_bounds (P := P) (isSlice := false) (len := m) (cap := m) (fun o y h => s.ev h) hlo hhi h0 h1 h2 (Nat.le_refl _) w'
  have hsub : u.toNat - l.toNat = (u - l).toNat := by omega
  refine ⟨_, ?_, fun w' _ => by simp only [execOp, Instr.sliceAt, Sem.run_bind, run_underlying hu, Result.andThen_ok, e, Instr.sureAddr, Sem.run_pure, Option.map_none, hb, hs]; rfl⟩
  by_cases hl : m = l.toNat
  · rw [if_pos hl]
    refine .inl ⟨by omega, some ⟨b, off, none⟩, m - l.toNat, ?_⟩
    have : u.toNat - l.toNat = 0 := by omega
    rw [this]
  · rw [if_neg hl]
    refine .inr ⟨b, k, m - l.toNat - (u - l).toNat, hρ, ?_⟩
    rw [hsub, addr_add]
    congr 1; omega

/-- a part of a slice that came in -/
theorem r_slice_v {T E : TypeId} {x : Operand} {t : Ty} {xs : List t.D} {lo hi : Option Operand} {l u : Int} (hu : P.underlying T = some (.slice E)) (hs : ∀ w, (sizeOf E).run P w = .ok t.sz w) (hx : evO fr x = some (.v (.slice t) xs))
    (hlo : Lo fr lo l) (hhi : Hi fr (xs.length : Int) hi u) (h0 : 0 ≤ l) (h1 : l ≤ u) (h2 : u ≤ (xs.length : Int)) :
    Reads P ⟨dst, .slice T x lo hi none, ty, pos, aft, g⟩ fr H (.v (.slice t) ((xs.take u.toNat).drop l.toNat)) := fun Γ n ρ w a s => by
  obtain ⟨F, ⟨cs, ⟨hl, hc⟩, hv⟩, hF⟩ := s.ev hx
  have hlen : ((xs.take u.toNat).drop l.toNat).length = u.toNat - l.toNat := by simp; omega
  have hle : ((xs.take u.toNat).drop l.toNat).length ≤ lim := by rw [hlen]; omega
  rcases hc with ⟨e0, _, a', cap, e⟩ | ⟨b, off, ex, F', e, eF, c, T', z, p, m, q, hb, hcl, hp, hm⟩
  · subst e
    have hv' : a.eval x = .slice a' 0 cap := by rw [hv]; rfl
    have hlen0 : xs.length = 0 := by rw [e0]; rfl
    have hu0 : u = 0 := by omega
    have hl0 : l = 0 := by omega
    have hb := fun w' => run_bounds (P := P) (isSlice := true) (len := 0) (cap := cap) (fun o y h => s.ev h) hlo (by simpa [hlen0] using hhi) h0 h1 (by omega) (Nat.zero_le _) w'
    subst hu0; subst hl0
    simp only [Int.toNat_zero] at hb
    refine ⟨.slice a' 0 cap, ⟨[], ⟨[.slice a' 0 cap], ⟨by simp, .inl ⟨by simp; rfl, rfl, a', cap, rfl⟩⟩, rfl⟩, by simp⟩, fun w' _ => ?_⟩
    have e2 : (if cap = 0 then a' else Option.map (fun y => y.add (0 * t.sz)) a') = a' := by
      split
      · rfl
      · cases a' <;> simp [Addr.add]
    simp only [execOp, Instr.sliceAt, Instr.slice, Sem.run_bind, run_underlying hu, Result.andThen_ok, hv', Option.map_none, hb, hs, e2, Nat.sub_zero]
    simp [e2]
  · subst e
    have hv' : a.eval x = .slice (some ⟨b, off, none⟩) xs.length (xs.length + ex) := by rw [hv]; rfl
    have hb' := fun w' => run_bounds (P := P) (isSlice := true) (len := xs.length) (cap := xs.length + ex) (fun o y h => s.ev h) hlo hhi h0 h1 h2 (by omega) w'
    by_cases hz : u.toNat = l.toNat
    · have hnil : (xs.take u.toNat).drop l.toNat = [] := by rw [hz]; simp
      rw [hnil]
      refine ⟨.slice (if xs.length + ex = l.toNat then some ⟨b, off, none⟩ else some ⟨b, off + l.toNat * t.sz, none⟩) 0 (xs.length + ex - l.toNat), ⟨[], ⟨[.slice _ 0 _], ⟨by simp, .inl ⟨rfl, rfl, _, _, rfl⟩⟩, rfl⟩, by simp⟩, fun w' _ => ?_⟩
      simp only [execOp, Instr.sliceAt, Instr.slice, Sem.run_bind, run_underlying hu, Result.andThen_ok, hv', Option.map_none, hb', hs]
      by_cases hcl : xs.length + ex = l.toNat
      · simp [hcl, hz]
      · simp [hcl, hz, addr_add]
    · have hne : xs.length + ex ≠ l.toNat := by omega
      have e1 : xs = (xs.take l.toNat) ++ ((xs.take u.toNat).drop l.toNat ++ xs.drop u.toNat) := by
        have h2 : xs.take u.toNat = xs.take l.toNat ++ (xs.take u.toNat).drop l.toNat := by
          conv => lhs; rw [← List.take_append_drop l.toNat (xs.take u.toNat)]
          rw [List.take_take, Nat.min_eq_left (by omega)]
        rw [← List.append_assoc, ← h2, List.take_append_drop]
      rw [e1] at hm
      obtain ⟨c1, c2, F1, F2, g1, g2, g3, g4⟩ := RelL.split hm
      obtain ⟨d1, d2, G1, G2, k1, k2, k3, k4⟩ := RelL.split g4
      have l1 : c1.length = l.toNat * t.sz := by
        rw [RelL.len (fun x c F h => Rc.len t h) g3, List.length_take, Nat.min_eq_left (by omega)]
      refine ⟨.slice (some ⟨b, off + l.toNat * t.sz, none⟩) (u.toNat - l.toNat) (xs.length + ex - l.toNat), ⟨b :: G1, ⟨[_], ⟨hle, .inr ⟨b, off + l.toNat * t.sz, xs.length + ex - u.toNat, G1, by rw [hlen]; congr 2; omega, rfl, c, T', z, p ++ c1, d1, d2 ++ q, hb, by rw [hcl, g1, k1]; simp, by rw [List.length_append, hp, l1], k3⟩⟩, rfl⟩, fun x hx => hF x (by
          rw [eF, g2, k2]
          rcases List.mem_cons.1 hx with h | h
          · rw [h]; simp
          · simp [h])⟩, fun w' _ => ?_⟩
      simp only [execOp, Instr.sliceAt, Instr.slice, Sem.run_bind, run_underlying hu, Result.andThen_ok, hv', Option.map_none, hb', hs]
      simp [hne, addr_add]

/-- a part of a string -/
theorem r_slice_str {T : TypeId} {x : Operand} {b : ByteArray} {lo hi : Option Operand} {l u : Int} (hu : P.underlying T = some .string) (hx : evO fr x = some (.str b)) (hlo : Lo fr lo l) (hhi : Hi fr (b.size : Int) hi u) (h0 : 0 ≤ l) (h1 : l ≤ u) (h2 : u ≤ (b.size : Int)) :
    Reads P ⟨dst, .slice T x lo hi none, ty, pos, aft, g⟩ fr H (.str (b.extract l.toNat u.toNat)) := fun Γ n ρ w a s => by
  have hv := s.ev hx
  simp only [RA] at hv
  have hb := fun w' => run_bounds (P := P) (isSlice := false) (len := b.size) (cap := b.size) (fun o y h => s.ev h) hlo hhi h0 h1 h2 (Nat.le_refl _) w'
  refine ⟨_, rfl, fun w' _ => ?_⟩
  simp only [execOp, Instr.sliceAt, Instr.slice, Sem.run_bind, run_underlying hu, Result.andThen_ok, hv, Option.map_none, Option.isSome_none, Bool.false_eq_true, if_false, Sem.run_pure, hb]

/-- a part of an own row -/
theorem r_slice_os {T E : TypeId} {x : Operand} {id : Nat} {t : Ty} {xs : List t.D} {lo hi : Option Operand} {l u : Int} (hu : P.underlying T = some (.slice E)) (hs : ∀ w, (sizeOf E).run P w = .ok t.sz w) (hx : evO fr x = some (.os id)) (hg : hget H id = some (.row t xs))
    (hlo : Lo fr lo l) (hhi : Hi fr (xs.length : Int) hi u) (h0 : 0 ≤ l) (h1 : l ≤ u) (h2 : u ≤ (xs.length : Int)) :
    Reads P ⟨dst, .slice T x lo hi none, ty, pos, aft, g⟩ fr H (.view id 0 t.sz l.toNat (u - l).toNat) := fun Γ n ρ w a s => by
  obtain ⟨ℓ, hL, _⟩ := s.heap
  have hsub : u.toNat - l.toNat = (u - l).toNat := by omega
  have fin : ∀ (a' : Option Addr) (len cap : Nat), a.eval x = .slice a' len cap → len = xs.length → len ≤ cap → (a' = none ∧ len = 0 ∧ cap = 0 ∨ ∃ b, a' = some ⟨b, 0, none⟩ ∧ ∃ k, ρ id = some (b, k)) →
      ∃ v, RA ρ (World.hf w) (ownB ρ H) (.view id 0 t.sz l.toNat (u - l).toNat) v ∧ ∀ w', Kept w w' → (execOp a.eval ⟨dst, .slice T x lo hi none, ty, pos, aft, g⟩).run P w' = .ok (.value v) w' := by
    intro a' len cap hv hlen hcap hor
    have hb := fun w' => run_bounds (P := P) (isSlice := true) (len := len) (cap := cap) (fun o y h => s.ev h) hlo (by rw [hlen]; exact hhi) h0 h1 (by omega) hcap w'
    refine ⟨.slice (if cap = l.toNat then a' else a'.map (·.add (l.toNat * t.sz))) (u.toNat - l.toNat) (cap - l.toNat), ?_, fun w' _ => by
      simp only [execOp, Instr.sliceAt, Instr.slice, Sem.run_bind, run_underlying hu, Result.andThen_ok, hv, Option.map_none, hb, hs, Sem.run_pure]⟩
    rcases hor with ⟨rfl, h3, h4⟩ | ⟨b, rfl, k, hρ⟩
    · have hz : u.toNat - l.toNat = 0 := by omega
      exact .inl ⟨by omega, _, _, by rw [hz]⟩
    · by_cases hcl : cap = l.toNat
      · have hz : u.toNat - l.toNat = 0 := by omega
        exact .inl ⟨by omega, _, _, by rw [hz]⟩
      · refine .inr ⟨b, k, cap - l.toNat - (u - l).toNat, hρ, ?_⟩
        rw [if_neg hcl, hsub]
        have e9 : cap - l.toNat = (u - l).toNat + (cap - l.toNat - (u - l).toNat) := by omega
        rw [← e9]
        simp [addr_add]
  obtain ⟨hl, ⟨h3, h4, _⟩ | ⟨b, cap, c, T', F, mid, post, h3, h4, h5, h6, h7, h8, h9⟩⟩ := hL.get hg
  · rcases s.ev hx with ⟨_, e⟩ | ⟨b', cap', len, hx', e⟩
    · exact fin _ _ _ e (by rw [h4]; rfl) (Nat.le_refl _) (.inl ⟨rfl, rfl, rfl⟩)
    · rw [h3] at hx'; cases hx'
  · rcases s.ev hx with ⟨hx', _⟩ | ⟨b', cap', len, hx', e⟩
    · rw [h3] at hx'; cases hx'
    · rw [h3] at hx'
      obtain ⟨rfl, rfl, rfl⟩ : b = b' ∧ cap = cap' ∧ List.length (α := t.D) xs = len := by simpa using hx'
      exact fin _ _ _ e rfl h8 (.inr ⟨b, rfl, _, h3⟩)

theorem r_len_os {T E : TypeId} {x : Operand} {id : Nat} {t : Ty} {xs : List t.D} (hu : P.underlying T = some (.slice E)) (hx : evO fr x = some (.os id)) (hg : hget H id = some (.row t xs)) :
    Reads P ⟨dst, .call ⟨.builtin .len, #[x], #[T]⟩, ty, pos, aft, g⟩ fr H (.int .i64 (xs.length : Int)) := fun Γ n ρ w a s => by
  obtain ⟨ℓ, hL, _⟩ := s.heap
  have fin : ∀ (a' : Option Addr) (len cap : Nat), a.eval x = .slice a' len cap → len = xs.length → ∃ v, RA ρ (World.hf w) (ownB ρ H) (.int .i64 (xs.length : Int)) v ∧ ∀ w', Kept w w' → (execOp a.eval ⟨dst, .call ⟨.builtin .len, #[x], #[T]⟩, ty, pos, aft, g⟩).run P w' = .ok (.value v) w' := by
    intro a' len cap e hl
    exact ⟨_, rfl, fun w' _ => by simp [execOp, resolve, invoke, Go.builtin, Builtin.len_, e, Sem.run_bind, run_underlying hu, goInt, hl]⟩
  obtain ⟨hl, ⟨h3, h4, _⟩ | ⟨b, cap, c, T', F, mid, post, h3, h4, h5, h6, h7, h8, h9⟩⟩ := hL.get hg
  · rcases s.ev hx with ⟨_, e⟩ | ⟨b', cap', len, hx', e⟩
    · exact fin _ _ _ e (by rw [h4]; rfl)
    · rw [h3] at hx'; cases hx'
  · rcases s.ev hx with ⟨hx', _⟩ | ⟨b', cap', len, hx', e⟩
    · rw [h3] at hx'; cases hx'
    · rw [h3] at hx'
      obtain ⟨rfl, rfl, rfl⟩ : b = b' ∧ cap = cap' ∧ List.length (α := t.D) xs = len := by simpa using hx'
      exact fin _ _ _ e rfl
theorem r_len_view {T E : TypeId} {x : Operand} {id off sz l len : Nat} (hu : P.underlying T = some (.slice E)) (hx : evO fr x = some (.view id off sz l len)) :
    Reads P ⟨dst, .call ⟨.builtin .len, #[x], #[T]⟩, ty, pos, aft, g⟩ fr H (.int .i64 (len : Int)) := fun Γ n ρ w a s => by
  have : ∃ a' cap, a.eval x = .slice a' len cap := by
    rcases s.ev hx with ⟨h, a', cap, e⟩ | ⟨b, k, cap, _, e⟩
    · exact ⟨a', cap, by rw [h]; exact e⟩
    · exact ⟨_, _, e⟩
  obtain ⟨a', cap, e⟩ := this
  exact ⟨_, rfl, fun w' _ => by simp [execOp, resolve, invoke, Go.builtin, Builtin.len_, e, Sem.run_bind, run_underlying hu, goInt]⟩
/-- an element of a part -/
theorem r_idxAddr_view {T E : TypeId} {x y : Operand} {id off sz l len : Nat} {k : IntKind} {i : Int} (hu : P.underlying T = some (.slice E)) (hs : ∀ w, (sizeOf E).run P w = .ok sz w)
    (hx : evO fr x = some (.view id off sz l len)) (hy : evO fr y = some (.int k i)) (h0 : 0 ≤ i) (h1 : i < (len : Int)) :
    Reads P ⟨dst, .indexAddr T x y, ty, pos, aft, g⟩ fr H (.elem id off sz (l + i.toNat)) := fun Γ n ρ w a s => by
  have hy' := s.ev hy
  simp only [RA] at hy'
  rcases s.ev hx with ⟨h, _⟩ | ⟨b, k, cap, hρ, e⟩
  · omega
  · refine ⟨_, ⟨b, k, hρ, rfl⟩, fun w' _ => ?_⟩
    simp [execOp, Instr.indexAt, e, hy', asIntOf, Sem.run_bind, run_underlying hu, h0, h1, hs, addr_add, Nat.add_mul, Nat.add_assoc]

/-- the address of a field of an own struct -/
theorem r_fieldAddr {S : TypeId} {x : Operand} {id off k o : Nat} {fs : Array Field} {fd : Field} {s' : Nat} (hu : P.underlying S = some (.struct fs)) (hf : fs[k]? = some fd) (hs : ∀ w, (sizeOf fd.type).run P w = .ok s' w) (hs0 : Nat.beq s' 0 = false)
    (hx : evO fr x = some (.ref id off)) (ho : off + fd.offset = o) : Reads P ⟨dst, .fieldAddr S x k, ty, pos, aft, g⟩ fr H (.ref id o) := fun Γ n ρ w a s => by
  obtain ⟨b, kk, hρ, e⟩ := s.ev hx
  subst ho
  have hne : s' ≠ 0 := Nat.ne_of_beq_eq_false hs0
  refine ⟨_, ⟨b, kk, hρ, rfl⟩, fun w' _ => ?_⟩
  simp [execOp, Instr.fieldAt, e, Sem.run_bind, run_underlying hu, hf, Instr.sureAddr, fieldPlace, hs, hne, addr_add]
/-- the first and the other fields of a struct that is not written -/
theorem r_fieldAddr_c {S : TypeId} {x : Operand} {k : Nat} {t u v : Ty} {y : t.D} {e : u.D} {fs : Array Field} {fd : Field} {s' : Nat} (hu : P.underlying S = some (.struct fs)) (hf : fs[k]? = some fd) (hs : ∀ w, (sizeOf fd.type).run P w = .ok s' w) (hs0 : Nat.beq s' 0 = false)
    (hx : evO fr x = some (.cptr t y)) (hp : ∀ h cs F, Rc h t y cs F → ∃ p m q F', cs = p ++ (m ++ q) ∧ p.length = fd.offset ∧ Rc h u e m F' ∧ ∀ b ∈ F', b ∈ F) : Reads P ⟨dst, .fieldAddr S x k, ty, pos, aft, g⟩ fr H (.cptr u e) := fun Γ n ρ w a s => by
  obtain ⟨b, off, F, c, T', z, pre, mid, post, ex, hb, hh, hc, hpl, h1, hF⟩ := s.ev hx
  obtain ⟨p, m, q, F', e1, e2, e3, e4⟩ := hp _ _ _ h1
  have hne : s' ≠ 0 := Nat.ne_of_beq_eq_false hs0
  refine ⟨.pointer (some ⟨b, off + fd.offset, none⟩), ⟨b, _, F', c, T', z, pre ++ p, m, q ++ post, rfl, hb, hh, by rw [hc, e1]; simp, by rw [List.length_append, hpl, e2], e3, fun b hb => hF b (e4 b hb)⟩, fun w' _ => ?_⟩
  simp [execOp, Instr.fieldAt, ex, Sem.run_bind, run_underlying hu, hf, Instr.sureAddr, fieldPlace, hs, hne, addr_add]
theorem pair_fst {h : Hf} {a b : Ty} {x : (Ty.pair a b).D} {cs F} (hx : Rc h (.pair a b) x cs F) : ∃ p m q F', cs = p ++ (m ++ q) ∧ p.length = 0 ∧ Rc h a x.1 m F' ∧ ∀ y ∈ F', y ∈ F := by
  obtain ⟨c1, c2, F1, F2, e, eF, h1, h2⟩ := hx
  exact ⟨[], c1, c2, F1, by rw [e]; rfl, rfl, h1, fun y hy => by rw [eF]; exact List.mem_append_left _ hy⟩
theorem pair_snd {h : Hf} {a b u : Ty} {x : (Ty.pair a b).D} {e : u.D} {cs F} {o : Nat} (hx : Rc h (.pair a b) x cs F) (hp : ∀ h cs F, Rc h b x.2 cs F → ∃ p m q F', cs = p ++ (m ++ q) ∧ p.length = o ∧ Rc h u e m F' ∧ ∀ y ∈ F', y ∈ F) :
    ∃ p m q F', cs = p ++ (m ++ q) ∧ p.length = a.sz + o ∧ Rc h u e m F' ∧ ∀ y ∈ F', y ∈ F := by
  obtain ⟨c1, c2, F1, F2, e1, eF, h1, h2⟩ := hx
  obtain ⟨p, m, q, F', e2, e3, e4, e5⟩ := hp _ _ _ h2
  exact ⟨c1 ++ p, m, q, F', by rw [e1, e2]; simp, by rw [List.length_append, Rc.len a h1, e3], e4, fun y hy => by rw [eF]; exact List.mem_append_right _ (e5 y hy)⟩

/-- a part of an own array, or of an own row, handed to what only reads -/
theorem ad_view {H' : Hp} {σ : Nat → Nat} {id off l len : Nat} {t : Ty} {xs : List t.D} (hf : t.flat = true) (he : elemsAt H id off = some ⟨t, xs⟩) (hl : l + len ≤ xs.length) (hm : len ≤ lim) (hn : ∀ e' ∈ H', σ e'.1 ≠ id) :
    Ad H H' σ (.view id off t.sz l len) (.v (.slice t) ((xs.drop l).take len)) := fun ρ h ℓ hk hm' hd v hx => by
  have hlen : ((xs.drop l).take len).length = len := by simp; omega
  rcases hx with ⟨h0, a, cap, e⟩ | ⟨b, k, ex, hρ, e⟩
  · subst e; subst h0
    exact ⟨[], ⟨[_], ⟨by simp, .inl ⟨by simp; rfl, rfl, a, cap, rfl⟩⟩, rfl⟩, by simp⟩
  · subst e
    obtain ⟨c, T, p, mid, q, F, hb, hc, hp, hR, hF⟩ := elemsAt_ok hk he hρ
    have e1 : xs = xs.take l ++ ((xs.drop l).take len ++ (xs.drop l).drop len) := by rw [List.take_append_drop, List.take_append_drop]
    rw [e1] at hR
    obtain ⟨c1, c2, F1, F2, g1, g2, g3, g4⟩ := RelL.split hR
    obtain ⟨d1, d2, G1, G2, k1, k2, k3, k4⟩ := RelL.split g4
    have l1 : c1.length = l * t.sz := by rw [RelL.len (fun x c F h => Rc.len t h) g3, List.length_take, Nat.min_eq_left (by omega)]
    have f1 : G1 = [] := RelL.flat (fun x c F h => Rc.flat t hf h) k3
    subst f1
    have hid : ∃ e ∈ H, e.1 = id := by
      unfold elemsAt at he
      split at he
      · rename_i cs hg; exact ⟨_, hget_mem hg, rfl⟩
      · rename_i t' xs' hg; exact ⟨_, hget_mem hg, rfl⟩
      · cases he
    obtain ⟨e0, he0, rfl⟩ := hid
    refine ⟨[b], ⟨[_], ⟨by rw [hlen]; exact hm, .inr ⟨b, off + l * t.sz, ex, [], by rw [hlen], rfl, c, T, _, p ++ c1, d1, d2 ++ q, hb, by rw [hc, g1, k1]; simp, by rw [List.length_append, hp, l1], k3⟩⟩, rfl⟩, fun x hx => ?_⟩
    simp only [List.mem_singleton] at hx
    subst hx
    exact hd e0 he0 hn x (own_head hk he0 hρ)
end
end Go.GA
