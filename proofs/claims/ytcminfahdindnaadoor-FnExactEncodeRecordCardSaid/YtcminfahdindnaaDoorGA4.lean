/- Operations that read memory. -/
import Derived.Test.YtcminfahdindnaaDoorGA3
import Derived.Laws.Rows
import Derived.Laws.CopyRow
namespace Go.GA
open Go Go.RowKit

/-! ### Elements -/
theorem RelL.mid {α : Type} {R : α → List Value → List Nat → Prop} {pre post : List α} {x : α} {cs F} (h : RelL R (pre ++ x :: post) cs F) {s : Nat} (hs : ∀ x c F, R x c F → c.length = s) :
    ∃ c1 c2 c3 F', cs = c1 ++ (c2 ++ c3) ∧ c1.length = pre.length * s ∧ R x c2 F' ∧ ∀ b ∈ F', b ∈ F := by
  obtain ⟨c1, c2, F1, F2, e1, e2, h1, d1, d2, G1, G2, e3, e4, h3, h4⟩ := RelL.split h
  refine ⟨c1, d1, d2, G1, by rw [e1, e3], RelL.len hs h1, h3, fun b hb => ?_⟩
  rw [e2, e4]; simp [hb]

theorem split_at {α : Type} (xs : List α) (i : Nat) (h : i < xs.length) (d : α) : xs = xs.take i ++ xs.getD i d :: xs.drop (i + 1) := by
  rw [List.getD_eq_getElem?_getD, List.getElem?_eq_getElem h]
  simp

/-- how an element is told -/
def ofTy : (t : Ty) → t.D → AV
  | .int k, x => .int k x
  | .bool, x => .bool x
  | .str, x => .str x
  | .arr n t, x => .v (.arr n t) x
  | .slice t, x => .v (.slice t) x
  | .unit, x => .v .unit x
  | .pair a b, x => .v (.pair a b) x

theorem ra_ofTy {ρ : Rho} {h : Hf} {M : Nat → Prop} {t : Ty} {x : t.D} {c F} (hx : Rc h t x c F) (hF : ∀ b ∈ F, ¬ M b) : RA ρ h M (ofTy t x) (mkV t c) := by
  cases t with
  | int k => obtain ⟨e, _⟩ := hx; subst e; rfl
  | bool => obtain ⟨e, _⟩ := hx; subst e; rfl
  | str => obtain ⟨e, _⟩ := hx; subst e; rfl
  | arr n t => exact ⟨F, ⟨c, hx, rfl⟩, hF⟩
  | slice t => exact ⟨F, ⟨c, hx, rfl⟩, hF⟩
  | unit => exact ⟨F, ⟨c, hx, rfl⟩, hF⟩
  | pair a b => exact ⟨F, ⟨c, hx, rfl⟩, hF⟩

theorem one_cell {t : Ty} (h : t.agg = false) {hh : Hf} {x : t.D} {c F} (hx : Rc hh t x c F) : ∃ v, c = [v] := by
  have := Rc.len t hx
  cases t <;> simp [Ty.agg] at h <;> simp [Ty.sz] at this <;> exact List.length_eq_one_iff.1 this

/-! ### Reading cells -/
theorem cell_at {w : World} {b : Nat} {c : Array Value} {T : TypeId} {z : Nat × Nat} {pre mid post : List Value} (hb : w.heap[b]? = some (.cells c T z)) (hc : c.toList = pre ++ (mid ++ post)) (j : Nat) (hj : j < mid.length) :
    w.cell? ⟨b, pre.length + j, none⟩ = mid[j]? := by
  have : c[pre.length + j]? = mid[j]? := by
    rw [← Array.getElem?_toList, hc, List.getElem?_append_right (by omega), Nat.add_sub_cancel_left, List.getElem?_append_left hj]
  simp [World.cell?, hb, this]

theorem addr_add (b o j : Nat) : (⟨b, o, none⟩ : Addr).add j = ⟨b, o + j, none⟩ := by unfold Addr.add; split <;> simp_all

theorem run_loadVar_at {P : Program} {w : World} {b : Nat} {c : Array Value} {T : TypeId} {z : Nat × Nat} {pre mid post : List Value} {t : Ty} {E : TypeId} (hb : w.heap[b]? = some (.cells c T z)) (hc : c.toList = pre ++ (mid ++ post))
    (hl : mid.length = t.sz) (h1 : t.agg = false → t.sz = 1) (ha : ∀ w, (isAgg E).run P w = .ok t.agg w) (hs : ∀ w, (sizeOf E).run P w = .ok t.sz w) : (loadVar E ⟨b, pre.length, none⟩).run P w = .ok (mkV t mid) w := by
  unfold loadVar
  rw [Sem.run_bind, ha w]
  simp only [Result.andThen_ok]
  cases h : t.agg with
  | true =>
    have hcs : (loadCells ⟨b, pre.length, none⟩ t.sz).run P w = .ok mid.toArray w := by
      rw [← hl]
      exact run_loadCells_list (P := P) w ⟨b, pre.length, none⟩ mid (fun j v hv => by
        have hj : j < mid.length := (List.getElem?_eq_some_iff.1 hv).1
        rw [addr_add, cell_at hb hc j hj]; exact hv)
    simp [Sem.run_bind, hs w, hcs, mkV, h]
  | false =>
    have hl' : mid.length = 1 := by rw [hl, h1 h]
    obtain ⟨v, rfl⟩ := List.length_eq_one_iff.1 hl'
    have := cell_at hb hc 0 (by simp)
    simp at this
    simp [load, Sem.run, this, mkV, h]

theorem agg_sz {t : Ty} (h : t.agg = false) : t.sz = 1 := by cases t <;> simp [Ty.agg] at h <;> rfl

section
variable {P : Program} {fr : Fr} {H : Hp} {dst : Option Nat} {ty : TypeId} {pos : String} {aft : Array Edge} {g : Option (Nat × Bool)}

theorem kept_get {w w' : World} (h : Kept w w') {b : Nat} {o : Obj} (hb : w.heap[b]? = some o) : w'.heap[b]? = some o := by
  rw [h.block b (Array.getElem?_eq_some_iff.1 hb).1 (fun h => h)]; exact hb

/-- an operation whose value does not depend on what the world has beyond the blocks that were there -/
theorem reads_at {op : Op} {x : AV} (f : ∀ (Γ : Ctx) (n : Sz) (ρ : Rho) (w : World) (a : Act), SIM Γ n ρ w a fr H →
    ∃ v, RA ρ (World.hf w) (ownB ρ H) x v ∧ ∀ w', Kept w w' → (execOp a.eval ⟨dst, op, ty, pos, aft, g⟩).run P w' = .ok (.value v) w') : Reads P ⟨dst, op, ty, pos, aft, g⟩ fr H x := f

theorem r_load_c {T : TypeId} {x : Operand} {t : Ty} {y : t.D} (ha : ∀ w, (isAgg T).run P w = .ok t.agg w) (hs : ∀ w, (sizeOf T).run P w = .ok t.sz w) (hx : evO fr x = some (.cptr t y)) :
    Reads P ⟨dst, .load T x, ty, pos, aft, g⟩ fr H (ofTy t y) := fun Γ n ρ w a s => by
  obtain ⟨b, off, F, c, T', z, pre, mid, post, e, hb, hh, hc, hp, h1, hF⟩ := s.ev hx
  refine ⟨mkV t mid, ra_ofTy h1 hF, fun w' hk => ?_⟩
  have := run_loadVar_at (P := P) (kept_get hk hh) hc (Rc.len t h1) agg_sz ha hs
  subst hp
  simp only [execOp, e, Instr.loadAt, Instr.sureAddr, Sem.run_bind, Sem.run_pure, Result.andThen_ok, this]

/-- an element's address in a slice that came in -/
theorem r_idxAddr_mid {T E : TypeId} {x y : Operand} {t : Ty} {pre post : List t.D} {e : t.D} {k : IntKind} {i : Int} (hu : P.underlying T = some (.slice E)) (hs : ∀ w, (sizeOf E).run P w = .ok t.sz w)
    (hx : evO fr x = some (.v (.slice t) (pre ++ e :: post))) (hy : evO fr y = some (.int k i)) (hi : i = (pre.length : Int)) :
    Reads P ⟨dst, .indexAddr T x y, ty, pos, aft, g⟩ fr H (.cptr t e) := fun Γ n ρ w a s => by
  obtain ⟨F, ⟨cs, ⟨hl, h1⟩, hv⟩, hF⟩ := s.ev hx
  have hy' := s.ev hy
  simp only [RA] at hy'
  have hne : (pre ++ e :: post : List t.D) ≠ [] := by simp
  rcases h1 with ⟨h1, _⟩ | ⟨b, off, cap, F', ecs, eF, c, T', z, p, m, q, hb, hc, hp, hm⟩
  · exact absurd h1 hne
  · obtain ⟨c1, c2, c3, G, em, hc1, hR, hG⟩ := RelL.mid hm (fun x c F h => Rc.len t h)
    subst ecs
    refine ⟨.pointer (some ⟨b, off + pre.length * t.sz, none⟩), ?_, fun w' hk => ?_⟩
    · refine ⟨b, _, G, c, T', z, p ++ c1, c2, c3 ++ q, rfl, hF b (by rw [eF]; simp), hb, by rw [hc, em]; simp, by simp [hp, hc1], hR, fun b' hb' => hF b' (by rw [eF]; exact List.mem_cons_of_mem _ (hG b' hb'))⟩
    · have hv' : a.eval x = .slice (some ⟨b, off, none⟩) (pre.length + (post.length + 1)) (pre.length + (post.length + 1) + cap) := by rw [hv]; simp [mkV, Ty.agg]
      have hlt : (0 : Int) ≤ i ∧ i < ((pre.length + (post.length + 1) : Nat) : Int) := by omega
      simp only [execOp, Instr.indexAt, hy', hv', asIntOf, Sem.run_bind, Sem.run_pure, Result.andThen_ok, run_underlying hu]
      rw [if_pos hlt]
      simp [hs, addr_add, hi]

theorem r_idxAddr {T E : TypeId} {x y : Operand} {t : Ty} {xs : List t.D} {k : IntKind} {i : Int} (hu : P.underlying T = some (.slice E)) (hs : ∀ w, (sizeOf E).run P w = .ok t.sz w)
    (hx : evO fr x = some (.v (.slice t) xs)) (hy : evO fr y = some (.int k i)) (h0 : 0 ≤ i) (h1 : i < (xs.length : Int)) :
    Reads P ⟨dst, .indexAddr T x y, ty, pos, aft, g⟩ fr H (.cptr t (xs.getD i.toNat t.dflt)) := by
  have hlt : i.toNat < xs.length := by omega
  have := split_at xs i.toNat hlt t.dflt
  refine r_idxAddr_mid (pre := xs.take i.toNat) (post := xs.drop (i.toNat + 1)) hu hs (by rw [← this]; exact hx) hy ?_
  rw [List.length_take]; omega

/-! ### Arrays as values -/
theorem rv_arr {h : Hf} {n : Nat} {t : Ty} {xs : List t.D} {v F} (hx : Rv h (.arr n t) xs v F) : ∃ cs, v = .agg cs.toArray ∧ xs.length = n ∧ RelL (Rc h t) xs cs F := by
  obtain ⟨cs, ⟨h1, h2⟩, e⟩ := hx
  exact ⟨cs, by simpa [mkV, Ty.agg] using e, h1, h2⟩

theorem run_part {P : Program} {E : TypeId} {t : Ty} (ha : ∀ w, (isAgg E).run P w = .ok t.agg w) (hs : ∀ w, (sizeOf E).run P w = .ok t.sz w) {p m q : List Value} (hm : m.length = t.sz) (w : World) :
    (part E (p ++ (m ++ q)).toArray p.length).run P w = .ok (mkV t m) w := by
  unfold part
  rw [Sem.run_bind, ha w]
  simp only [Result.andThen_ok]
  cases h : t.agg with
  | true => simp [hs, mkV, h, ← hm, List.extract_eq_take_drop]
  | false =>
    obtain ⟨v, rfl⟩ := List.length_eq_one_iff.1 (hm.trans (agg_sz h))
    simp [mkV, h]

theorem r_index_mid {T E : TypeId} {x y : Operand} {n : Nat} {t : Ty} {pre post : List t.D} {e : t.D} {k : IntKind} {i : Int} (hu : P.underlying T = some (.array n E)) (ha : ∀ w, (isAgg E).run P w = .ok t.agg w) (hs : ∀ w, (sizeOf E).run P w = .ok t.sz w)
    (hx : evO fr x = some (.v (.arr n t) (pre ++ e :: post))) (hy : evO fr y = some (.int k i)) (hi : i = (pre.length : Int)) :
    Reads P ⟨dst, .index T x y, ty, pos, aft, g⟩ fr H (ofTy t e) := fun Γ n' ρ w a s => by
  obtain ⟨F, hv0, hF⟩ := s.ev hx
  obtain ⟨cs, hv, hl, hm⟩ := rv_arr hv0
  have hy' := s.ev hy
  simp only [RA] at hy'
  obtain ⟨c1, c2, c3, G, em, hc1, hR, hG⟩ := RelL.mid hm (fun x c F h => Rc.len t h)
  refine ⟨mkV t c2, ra_ofTy hR (fun b hb => hF b (hG b hb)), fun w' hk => ?_⟩
  have hlt : (0 : Int) ≤ i ∧ i < (n : Int) := by simp at hl; omega
  simp only [execOp, Instr.index, hy', hv, asIntOf, Sem.run_bind, Sem.run_pure, Result.andThen_ok, run_underlying hu]
  rw [if_pos hlt, Sem.run_bind, hs]
  simp only [Result.andThen_ok]
  have : i.toNat * t.sz = c1.length := by rw [hi, hc1]; simp
  rw [this, em, run_part ha hs (Rc.len t hR)]
  simp

theorem r_index {T E : TypeId} {x y : Operand} {n : Nat} {t : Ty} {xs : List t.D} {k : IntKind} {i : Int} (hu : P.underlying T = some (.array n E)) (ha : ∀ w, (isAgg E).run P w = .ok t.agg w) (hs : ∀ w, (sizeOf E).run P w = .ok t.sz w)
    (hx : evO fr x = some (.v (.arr n t) xs)) (hy : evO fr y = some (.int k i)) (hl : xs.length = n) (h0 : 0 ≤ i) (h1 : i < (n : Int)) :
    Reads P ⟨dst, .index T x y, ty, pos, aft, g⟩ fr H (ofTy t (xs.getD i.toNat t.dflt)) := by
  have hlt : i.toNat < xs.length := by omega
  have := split_at xs i.toNat hlt t.dflt
  refine r_index_mid (pre := xs.take i.toNat) (post := xs.drop (i.toNat + 1)) hu ha hs (by rw [← this]; exact hx) hy ?_
  rw [List.length_take]; omega

/-- s[i] of a string -/
theorem r_index_str {T : TypeId} {x y : Operand} {s : ByteArray} {k : IntKind} {i : Int} (hu : P.underlying T = some .string) (hx : evO fr x = some (.str s)) (hy : evO fr y = some (.int k i)) (h0 : 0 ≤ i) (h1 : i < (s.size : Int)) :
    Reads P ⟨dst, .index T x y, ty, pos, aft, g⟩ fr H (.int .u8 ((s.data.toList.getD i.toNat 0).toNat : Int)) := fun Γ n ρ w a sm => by
  have hx' := sm.ev hx
  have hy' := sm.ev hy
  simp only [RA] at hx' hy'
  refine ⟨_, rfl, fun w' hk => ?_⟩
  have hlt : i.toNat < s.size := by omega
  have e : s[i.toNat]? = some (s.data.toList.getD i.toNat 0) := by
    rw [getElem?_pos s i.toNat hlt]
    have h2 : i.toNat < s.data.toList.length := by simpa using hlt
    rw [List.getD_eq_getElem?_getD, List.getElem?_eq_getElem h2]
    simp; rfl
  simp only [execOp, Instr.index, hx', hy', asIntOf, Sem.run_bind, Sem.run_pure, Result.andThen_ok, run_underlying hu]
  rw [if_pos h0, e]
  simp

/-! ### Length -/
theorem r_len_v {T E : TypeId} {x : Operand} {t : Ty} {xs : List t.D} (hu : P.underlying T = some (.slice E)) (hx : evO fr x = some (.v (.slice t) xs)) :
    Reads P ⟨dst, .call ⟨.builtin .len, #[x], #[T]⟩, ty, pos, aft, g⟩ fr H (.int .i64 (xs.length : Int)) := fun Γ n ρ w a s => by
  obtain ⟨F, ⟨cs, ⟨hl, h1⟩, hv⟩, hF⟩ := s.ev hx
  refine ⟨_, rfl, fun w' hk => ?_⟩
  have : ∃ a' c', a.eval x = .slice a' xs.length c' := by
    rcases h1 with ⟨h1, _, a', cap, e⟩ | ⟨b, off, cap, F', e, _⟩
    · exact ⟨a', cap, by rw [hv, e]; simp [mkV, Ty.agg, h1]⟩
    · exact ⟨some ⟨b, off, none⟩, _, by rw [hv, e]; simp [mkV, Ty.agg]; rfl⟩
  obtain ⟨a', c', e⟩ := this
  simp [execOp, resolve, invoke, Go.builtin, Builtin.len_, e, Sem.run_bind, run_underlying hu, goInt]
theorem r_len_nil {T E : TypeId} {x : Operand} (hu : P.underlying T = some (.slice E)) (hx : evO fr x = some .nilsl) :
    Reads P ⟨dst, .call ⟨.builtin .len, #[x], #[T]⟩, ty, pos, aft, g⟩ fr H (.int .i64 0) := fun Γ n ρ w a s => by
  have hx' := s.ev hx
  simp only [RA] at hx'
  exact ⟨_, rfl, fun w' hk => by simp [execOp, resolve, invoke, Go.builtin, Builtin.len_, hx', Sem.run_bind, run_underlying hu, goInt]⟩
theorem r_len_str {T : TypeId} {x : Operand} {s : ByteArray} (hu : P.underlying T = some .string) (hx : evO fr x = some (.str s)) :
    Reads P ⟨dst, .call ⟨.builtin .len, #[x], #[T]⟩, ty, pos, aft, g⟩ fr H (.int .i64 (s.size : Int)) := fun Γ n ρ w a sm => by
  have hx' := sm.ev hx
  simp only [RA] at hx'
  exact ⟨_, rfl, fun w' hk => by simp [execOp, resolve, invoke, Go.builtin, Builtin.len_, hx', Sem.run_bind, run_underlying hu, goInt]⟩
theorem r_len_arr {T E : TypeId} {x : Operand} {n : Nat} (hu : P.underlying T = some (.array n E)) :
    Reads P ⟨dst, .call ⟨.builtin .len, #[x], #[T]⟩, ty, pos, aft, g⟩ fr H (.int .i64 (n : Int)) := fun Γ n ρ w a s => by
  exact ⟨_, rfl, fun w' hk => by simp [execOp, resolve, invoke, Go.builtin, Builtin.len_, Sem.run_bind, run_underlying hu, goInt]⟩

/-! ### Tuples, closures -/
def nthAV : List AV → Nat → Option AV
  | [], _ => none
  | x :: _, 0 => some x
  | _ :: xs, n + 1 => nthAV xs n
theorem ras_nth {ρ : Rho} {h : Hf} {M : Nat → Prop} : ∀ {xs : List AV} {vs : List Value} {i : Nat} {x : AV}, RAs ρ h M xs vs → nthAV xs i = some x → ∃ v, vs[i]? = some v ∧ RA ρ h M x v
  | y :: ys, vs, 0, x, hr, hn => by
    obtain ⟨v, vs', e, h1, h2⟩ := hr
    simp only [nthAV, Option.some.injEq] at hn
    subst e; subst hn
    exact ⟨v, rfl, h1⟩
  | y :: ys, vs, i + 1, x, hr, hn => by
    obtain ⟨v, vs', e, h1, h2⟩ := hr
    subst e
    simpa using ras_nth h2 hn
theorem r_extract {x : Operand} {xs : List AV} {i : Nat} {y : AV} (hx : evO fr x = some (.tup xs)) (hn : nthAV xs i = some y) :
    Reads P ⟨dst, .extract x i, ty, pos, aft, g⟩ fr H y := fun Γ n ρ w a s => by
  obtain ⟨vs, e, h1⟩ := s.ev hx
  obtain ⟨v, hv, h2⟩ := ras_nth h1 hn
  refine ⟨v, h2, fun w' hk => ?_⟩
  simp [execOp, Instr.extract, e, hv]

def evOs (fr : Fr) : List Operand → Option (List AV)
  | [] => some []
  | o :: os => match evO fr o with
    | none => none
    | some x => match evOs fr os with
      | none => none
      | some xs => some (x :: xs)
theorem evOs_ok {ρ : Rho} {h : Hf} {M : Nat → Prop} {ev : Operand → Value} (hev : ∀ o y, evO fr o = some y → RA ρ h M y (ev o)) : ∀ {os : List Operand} {xs : List AV}, evOs fr os = some xs → RAs ρ h M xs (os.map ev)
  | [], xs, h => by simp only [evOs, Option.some.injEq] at h; subst h; rfl
  | o :: os, xs, h => by
    unfold evOs at h
    split at h
    · cases h
    · rename_i x hx
      split at h
      · cases h
      · rename_i ys hys
        simp only [Option.some.injEq] at h
        subst h
        exact ⟨_, _, rfl, hev o x hx, evOs_ok hev hys⟩
theorem r_makeFunc {f : FuncId} {cs : List Operand} {xs : List AV} (hx : evOs fr cs = some xs) : Reads P ⟨dst, .makeFunc (.func f) #[] cs.toArray, ty, pos, aft, g⟩ fr H (.fn f xs) :=
  reads_of fun ρ h M ev hev => ⟨_, ⟨cs.map ev, rfl, evOs_ok hev hx⟩, fun w' => by simp [execOp, Instr.makeFunc]⟩

/-! ### The own blocks -/
def hget : Hp → Nat → Option Blk
  | [], _ => none
  | (i, b) :: H, j => bif Nat.beq i j then some b else hget H j
def compAt : List Comp → Nat → Option Comp
  | [], _ => none
  | c :: cs, o => match o with
    | 0 => some c
    | o' + 1 => bif Nat.ble c.sz (o' + 1) then compAt cs (o' + 1 - c.sz) else none

theorem hget_mem : ∀ {H : Hp} {id : Nat} {B : Blk}, hget H id = some B → (id, B) ∈ H
  | (i, b) :: H, id, B, hg => by
    unfold hget at hg
    cases hb : Nat.beq i id with
    | true =>
      have e1 : i = id := Nat.eq_of_beq_eq_true hb
      rw [hb] at hg
      simp only [cond_true, Option.some.injEq] at hg
      subst e1; subst hg
      simp
    | false => rw [hb] at hg; exact List.mem_cons_of_mem _ (hget_mem hg)
theorem HeapOK.get {ρ : Rho} {h : Hf} {H : Hp} {ℓ : Nat → List Nat} (hk : HeapOK ρ h H ℓ) {id : Nat} {B : Blk} (hg : hget H id = some B) : RBlk ρ h (ownB ρ H) id B (ℓ id) := hk.blk _ (hget_mem hg)

/-- what a component is -/
def RComp (ρ : Rho) (h : Hf) (M : Nat → Prop) (c : Comp) (m : List Value) (F : List Nat) : Prop := RComps ρ h M [c] m F
theorem comps_at {ρ : Rho} {h : Hf} {M : Nat → Prop} : ∀ {cs : List Comp} {vs F} {o : Nat} {c : Comp}, RComps ρ h M cs vs F → compAt cs o = some c →
    ∃ p m q F', vs = p ++ (m ++ q) ∧ p.length = o ∧ RComp ρ h M c m F' ∧ ∀ b ∈ F', b ∈ F
  | d :: cs, vs, F, o, c, hr, hc => by
    have hd : ∃ m q F1 F2, vs = m ++ q ∧ F = F1 ++ F2 ∧ m.length = d.sz ∧ RComp ρ h M d m F1 ∧ RComps ρ h M cs q F2 := by
      cases d with
      | cell a =>
        obtain ⟨v, cs', e, h1, h2, h3⟩ := hr
        exact ⟨[v], cs', [], F, by rw [e]; rfl, rfl, rfl, ⟨v, [], rfl, h1, h2, rfl, rfl⟩, h3⟩
      | arr t n xs =>
        obtain ⟨c1, c2, F1, F2, e, eF, h1, h2⟩ := hr
        exact ⟨c1, c2, F1, F2, e, eF, Rc.len _ h1, ⟨c1, [], F1, [], by simp, by simp, h1, rfl, rfl⟩, h2⟩
    obtain ⟨m, q, F1, F2, e, eF, hl, h1, h2⟩ := hd
    cases o with
    | zero =>
      simp only [compAt, Option.some.injEq] at hc
      subst hc
      exact ⟨[], m, q, F1, by rw [e]; rfl, rfl, h1, fun b hb => by rw [eF]; exact List.mem_append_left _ hb⟩
    | succ o =>
      simp only [compAt] at hc
      cases hb : Nat.ble d.sz (o + 1) with
      | false => rw [hb] at hc; cases hc
      | true =>
        have hle : d.sz ≤ o + 1 := Nat.le_of_ble_eq_true hb
        rw [hb] at hc
        obtain ⟨p', m', q', F', e', hp', h1', hF'⟩ := comps_at h2 hc
        exact ⟨m ++ p', m', q', F', by rw [e, e']; simp, by rw [List.length_append, hl, hp']; omega, h1', fun b hb => by rw [eF]; exact List.mem_append_right _ (hF' b hb)⟩

/-- a whole own variable of one cell -/
theorem r_load_cell {T : TypeId} {x : Operand} {id off : Nat} {cs : List Comp} {y : AV} (ha : ∀ w, (isAgg T).run P w = .ok false w) (hx : evO fr x = some (.ref id off)) (hg : hget H id = some (.var cs)) (hc : compAt cs off = some (.cell y)) :
    Reads P ⟨dst, .load T x, ty, pos, aft, g⟩ fr H y := fun Γ n ρ w a s => by
  obtain ⟨b, k, hρ, e⟩ := s.ev hx
  obtain ⟨ℓ, hL, _⟩ := s.heap
  obtain ⟨b', k', c, T', F, hρ', hb, hcs, _⟩ := hL.get hg
  rw [hρ] at hρ'
  obtain ⟨rfl, rfl⟩ : b = b' ∧ k = k' := by simpa using hρ'
  obtain ⟨p, m, q, F', ec, hp, ⟨v, r, em, h1, h2, h3⟩, _⟩ := comps_at hcs hc
  obtain ⟨rfl, _⟩ := h3
  subst em
  refine ⟨v, h2, fun w' hk => ?_⟩
  have := cell_at (kept_get hk hb) ec 0 (by simp)
  simp [hp] at this
  simp [execOp, e, Instr.loadAt, Instr.sureAddr, Sem.run_bind, loadVar, ha, load, Sem.run, this]

/-- a whole own variable that is an array -/
theorem r_load_arr {T : TypeId} {x : Operand} {id off n : Nat} {t : Ty} {xs : List t.D} {cs : List Comp} (hf : t.flat = true) (ha : ∀ w, (isAgg T).run P w = .ok true w) (hs : ∀ w, (sizeOf T).run P w = .ok (n * t.sz) w)
    (hx : evO fr x = some (.ref id off)) (hg : hget H id = some (.var cs)) (hc : compAt cs off = some (.arr t n xs)) :
    Reads P ⟨dst, .load T x, ty, pos, aft, g⟩ fr H (.v (.arr n t) xs) := fun Γ n' ρ w a s => by
  obtain ⟨b, k, hρ, e⟩ := s.ev hx
  obtain ⟨ℓ, hL, _⟩ := s.heap
  obtain ⟨b', k', c, T', F, hρ', hb, hcs, _⟩ := hL.get hg
  rw [hρ] at hρ'
  obtain ⟨rfl, rfl⟩ : b = b' ∧ k = k' := by simpa using hρ'
  obtain ⟨p, m, q, F', ec, hp, ⟨c1, c2, F1, F2, em, _, h1, h3, _⟩, _⟩ := comps_at hcs hc
  subst h3
  obtain rfl : m = c1 := by simpa using em
  have hF1 := Rc.flat (.arr n t) hf h1
  subst hF1
  refine ⟨mkV (.arr n t) m, ⟨[], ⟨m, h1, rfl⟩, by simp⟩, fun w' hk => ?_⟩
  have := run_loadVar_at (P := P) (t := .arr n t) (E := T) (kept_get hk hb) ec (Rc.len _ h1) agg_sz ha hs
  subst hp
  simp only [execOp, e, Instr.loadAt, Instr.sureAddr, Sem.run_bind, Sem.run_pure, Result.andThen_ok, this]
end
end Go.GA
