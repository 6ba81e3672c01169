/- Composite literals, equality, strings, min and max. -/
import Derived.Test.YtcminfahdindnaaDoorGA11
import Derived.ChangeKeysEq
import Derived.Laws.StructEq
import Derived.Laws.Small
namespace Go.GA
open Go Go.RowKit

theorem foldl_set (off : Nat) : ∀ (cs : List Value) (j : Nat) (A : Array Value), off + j + cs.length ≤ A.size →
    (cs.zipIdx j).foldl (fun (A : Array Value) (p : Value × Nat) => A.setIfInBounds (off + p.2) p.1) A = (A.toList.take (off + j) ++ cs ++ A.toList.drop (off + j + cs.length)).toArray
  | [], j, A, h => by simp
  | c :: cs, j, A, h => by
    rw [List.zipIdx_cons, List.foldl_cons, foldl_set off cs (j + 1) _ (by simp at h ⊢; omega)]
    have hlt : off + j < A.toList.length := by simp at h ⊢; omega
    apply Array.ext'
    simp only [Array.toList_setIfInBounds, List.length_cons]
    have e1 : (A.toList.set (off + j) c).take (off + (j + 1)) = A.toList.take (off + j) ++ [c] := by
      rw [← Nat.add_assoc, List.take_add_one, List.take_set_of_le (Nat.le_refl _), List.getElem?_set_self hlt]
      rfl
    have e2 : (A.toList.set (off + j) c).drop (off + (j + 1) + cs.length) = A.toList.drop (off + j + (cs.length + 1)) := by
      rw [List.drop_set_of_lt (by omega)]
      congr 1; omega
    rw [e1, e2]
    simp

/-- 0, 1, 2, .. -/
def seqB : Nat → List (Nat × Operand) → Bool
  | _, [] => true
  | j, (i, _) :: l => Nat.beq i j && seqB (j + 1) l
theorem fill_seq {s : Nat} {ev : Operand → Value} : ∀ (l : List (Nat × Operand)) (j : Nat) (A : Array Value), seqB j l = true → (∀ p ∈ l, (ev p.2).cells.size = s) → (j + l.length) * s = A.size →
    Instr.fill (fun i => some (i * s, s)) A (l.map fun p => (p.1, ev p.2)) = some (A.toList.take (j * s) ++ l.flatMap fun p => (ev p.2).cells.toList).toArray
  | [], j, A, _, _, hA => by
    simp only [Instr.fill, List.map_nil, List.flatMap_nil, List.append_nil]
    simp only [List.length_nil, Nat.add_zero] at hA
    rw [hA, List.take_of_length_le (by simp)]
  | (i, o) :: l, j, A, hs, hc, hA => by
    simp only [seqB, Bool.and_eq_true] at hs
    have hi := Nat.eq_of_beq_eq_true hs.1
    subst hi
    have h1 : (ev o).cells.size = s := hc (i, o) (by simp)
    have hA' : (i + (l.length + 1)) * s = A.size := by simpa using hA
    have hle : i * s + s ≤ A.size := by
      rw [← hA', Nat.add_mul, Nat.add_mul]; omega
    simp only [List.map_cons, Instr.fill]
    have hno : ¬ ((ev o).cells.size ≠ s ∨ i * s + (ev o).cells.size > A.size) := by omega
    rw [if_neg (by simpa using hno)]
    have hfold : (ev o).cells.zipIdx.foldl (fun (A : Array Value) (p : Value × Nat) => A.setIfInBounds (i * s + p.2) p.1) A = (A.toList.take (i * s) ++ (ev o).cells.toList ++ A.toList.drop (i * s + s)).toArray := by
      have := foldl_set (i * s) (ev o).cells.toList 0 A (by simp [h1]; omega)
      rw [← Array.foldl_toList, Array.toList_zipIdx, this]
      simp [h1]
    have hfold' : Array.foldl (fun cs (x : Value × Nat) => match x with | (c, j) => cs.setIfInBounds (i * s + j) c) A (ev o).cells.zipIdx = (A.toList.take (i * s) ++ (ev o).cells.toList ++ A.toList.drop (i * s + s)).toArray := hfold
    rw [hfold']
    have hsz : (A.toList.take (i * s) ++ (ev o).cells.toList ++ A.toList.drop (i * s + s)).toArray.size = A.size := by
      simp [h1]; omega
    rw [fill_seq l (i + 1) _ hs.2 (fun p hp => hc p (List.mem_cons_of_mem _ hp)) (by rw [hsz, ← hA']; congr 1; omega)]
    congr 2
    have ht : ((A.toList.take (i * s) ++ (ev o).cells.toList ++ A.toList.drop (i * s + s)).toArray.toList).take ((i + 1) * s) = A.toList.take (i * s) ++ (ev o).cells.toList := by
      have hl1 : (A.toList.take (i * s) ++ (ev o).cells.toList).length = (i + 1) * s := by
        rw [Nat.add_mul]; simp [h1]; omega
      exact List.take_left' hl1
    rw [ht]
    simp

section
variable {P : Program} {n : Sz} {fr : Fr} {H : Hp} {dst : Option Nat} {ty : TypeId} {pos : String} {aft : Array Edge} {g : Option (Nat × Bool)}

theorem ofTy_cells {ρ : Rho} {h : Hf} {M : Nat → Prop} {t : Ty} {e : t.D} (hf : t.flat = true) {v : Value} (hu : RA ρ h M (ofTy t e) v) : Rc h t e v.cells.toList [] := by
  have h2 : ∃ cs F, Rc h t e cs F ∧ v = mkV t cs := by
    cases t with
    | int k => simp only [ofTy, RA] at hu; subst hu; exact ⟨[_], [], ⟨rfl, rfl⟩, rfl⟩
    | bool => simp only [ofTy, RA] at hu; subst hu; exact ⟨[_], [], ⟨rfl, rfl⟩, rfl⟩
    | str => simp only [ofTy, RA] at hu; subst hu; exact ⟨[_], [], ⟨rfl, rfl⟩, rfl⟩
    | arr n t => obtain ⟨F, ⟨cs, h1, e⟩, _⟩ := hu; exact ⟨cs, F, h1, e⟩
    | slice t => obtain ⟨F, ⟨cs, h1, e⟩, _⟩ := hu; exact ⟨cs, F, h1, e⟩
    | unit => obtain ⟨F, ⟨cs, h1, e⟩, _⟩ := hu; exact ⟨cs, F, h1, e⟩
    | pair p q => obtain ⟨F, ⟨cs, h1, e⟩, _⟩ := hu; exact ⟨cs, F, h1, e⟩
  obtain ⟨cs, F, h1, rfl⟩ := h2
  have hF := Rc.flat t hf h1
  subst hF
  have : (mkV t cs).cells.toList = cs := by
    cases hagg : t.agg with
    | true => simp [mkV, hagg, Value.cells]
    | false =>
      obtain ⟨u, rfl⟩ := one_cell hagg h1
      have h3 := Rc.one t h1 u (by simp)
      simp only [mkV, hagg, Bool.false_eq_true, if_false, List.headD_cons]
      cases u <;> simp [Value.oneCell'] at h3 <;> rfl
  rw [this]; exact h1
theorem evOs_elems {ρ : Rho} {h : Hf} {M : Nat → Prop} {t : Ty} (hf : t.flat = true) {ev : Operand → Value} (hev : ∀ o y, evO fr o = some y → RA ρ h M y (ev o)) : ∀ {l : List (Nat × Operand)} {es : List t.D}, evOs fr (l.map (·.2)) = some (es.map (ofTy t)) →
    RelL (Rc h t) es (l.flatMap fun p => (ev p.2).cells.toList) [] ∧ (∀ p ∈ l, (ev p.2).cells.size = t.sz) ∧ l.length = es.length
  | [], es, he => by
    cases es with
    | nil => exact ⟨⟨rfl, rfl⟩, by simp, rfl⟩
    | cons e es => simp [evOs] at he
  | (i, o) :: l, es, he => by
    simp only [List.map_cons, evOs] at he
    split at he
    · cases he
    · rename_i x hx
      split at he
      · cases he
      · rename_i xs hxs
        cases es with
        | nil => simp at he
        | cons e es =>
          simp only [List.map_cons, Option.some.injEq, List.cons.injEq] at he
          obtain ⟨rfl, rfl⟩ := he
          obtain ⟨h1, h2, h3⟩ := evOs_elems hf hev (l := l) (es := es) hxs
          have h4 := ofTy_cells hf (hev o _ hx)
          refine ⟨⟨_, _, [], [], rfl, rfl, h4, h1⟩, ?_, by simp [h3]⟩
          intro p hp
          rcases List.mem_cons.1 hp with rfl | hp
          · have := Rc.len t h4; simpa using this
          · exact h2 p hp

/-- a slice literal of plain elements -/
theorem e_buildSlice {T E : TypeId} {l : List (Nat × Operand)} {z : Value} {t : Ty} (id : Nat) (es : List t.D) {m : Nat} (hf : t.flat = true) (ht : P.underlying T = some (.slice E)) (hz : ∀ w, (zeroValue E).run P w = .ok z w) (hs : ∀ w, (sizeOf E).run P w = .ok t.sz w)
    (hsm : Nat.ble (m * t.sz) 10000 = true) (hm2 : Nat.ble m 10000 = true) (hm : m = l.length) (hsq : seqB 0 l = true) (hys : evOs fr (l.map (·.2)) = some (es.map (ofTy t))) (hid : freshB id fr H = true) (hK : Nat.ble n.K id = true) :
    Eff P n ⟨dst, .buildSlice T m l.toArray, ty, pos, aft, g⟩ fr H (.os id) fr ((id, .row t es) :: H) := fun Γ ρ w a s => by
  subst hm
  have hsm' := Nat.le_of_ble_eq_true hsm
  have hm2' := Nat.le_of_ble_eq_true hm2
  obtain ⟨h1, h2, h3⟩ := evOs_elems (l := l) hf (fun o y h => s.ev h) hys
  have hlen := RelL.len (fun x c F h => Rc.len t h) h1
  have hrun : (Instr.buildSlice T l.length (l.toArray.map fun p => (p.1, a.eval p.2))).run P w = .ok (.slice (some ⟨w.heap.size, 0, none⟩) l.length l.length) (w.alloc (.cells (l.flatMap fun p => (a.eval p.2).cells.toList).toArray E)) := by
    have hno : ¬ (l.length * t.sz > 2 ^ 24) := by omega
    have hfill := fun (A : Array Value) (hA : l.length * t.sz = A.size) => fill_seq (s := t.sz) (ev := a.eval) l 0 A hsq h2 (by simpa using hA)
    simp only [Instr.buildSlice, Sem.run_bind, run_underlying ht, Result.andThen_ok, hs]
    rw [if_neg hno]
    by_cases h0 : l.length * t.sz = 0
    · rw [if_pos h0]
      have := hfill #[] (by simpa using h0)
      simp only [Sem.run_bind, Sem.run_pure, Result.andThen_ok]
      rw [h0]
      simp only [Array.range_zero', List.map_toArray, List.map_nil] at this ⊢
      have e0 : ([] : List Value).toArray = #[] := rfl
      rw [e0, this]
      simp [newRow, newObj, Sem.run]
    · rw [if_neg h0]
      have := hfill ((Array.range (l.length * t.sz)).map (z.cells[· % z.cells.size]!)) (by simp)
      simp only [Sem.run_bind, hz, Result.andThen_ok, Sem.run_pure, List.map_toArray]
      rw [this]
      simp [newRow, newObj, Sem.run]
  have hsize : (l.flatMap fun p => (a.eval p.2).cells.toList).length = l.length * t.sz := by rw [hlen, h3]
  refine ⟨.slice (some ⟨w.heap.size, 0, none⟩) l.length l.length, w.alloc (.cells (l.flatMap fun p => (a.eval p.2).cells.toList).toArray E), upd ρ id (some (w.heap.size, l.length, l.length)), ?_, ?_, .inr ⟨_, _, _, upd_same _ _ _, rfl⟩⟩
  · simp only [execOp, Sem.run_bind, hrun, Result.andThen_ok, Sem.run_pure]
  · have := s.replace [] (id := id) (B := .row t es) (p := some (w.heap.size, l.length, l.length)) (w' := w.alloc (.cells (l.flatMap fun p => (a.eval p.2).cells.toList).toArray E)) hid hK rfl rfl rfl rfl (by simp) (fun b hb _ => heap_alloc_lt w _ b hb)
      (fun b k h => .inr (by simp at h; omega)) (fun ℓ hk hM => ?_)
    · rwa [hdel_nil] at this
    · refine ⟨[w.heap.size], ⟨by rw [← h3]; simp only [lim]; omega, .inr ⟨w.heap.size, l.length, _, E, [], (l.flatMap fun p => (a.eval p.2).cells.toList), [], by rw [upd_same, h3], hf_alloc_new, by simp, ?_, rfl, by rw [h3]; exact Nat.le_refl _, by simpa using hsize⟩⟩, by simp, fun b hb => .inr (by simp at hb; omega)⟩
      exact h1.mono (fun x c F' hF hc => by have := Rc.flat t hf hc; subst this; exact hc.same t (by simp))

/-- an array literal, each place given -/
theorem r_build_arr {T E : TypeId} {l : List (Nat × Operand)} {z : Value} {t : Ty} {m : Nat} (es : List t.D) (hf : t.flat = true) (ht : P.underlying T = some (.array m E)) (hz : ∀ w, (zeroValue T).run P w = .ok z w) (hs : ∀ w, (sizeOf E).run P w = .ok t.sz w) (hzs : z.cells.size = m * t.sz) (hm : m = l.length) (hsq : seqB 0 l = true)
    (hys : evOs fr (l.map (·.2)) = some (es.map (ofTy t))) : Reads P ⟨dst, .build T l.toArray, ty, pos, aft, g⟩ fr H (.v (.arr m t) es) := fun Γ n ρ w a s => by
  subst hm
  obtain ⟨h1, h2, h3⟩ := evOs_elems (l := l) hf (fun o y h => s.ev h) hys
  refine ⟨.agg (l.flatMap fun p => (a.eval p.2).cells.toList).toArray, ⟨[], ⟨_, ⟨h3.symm, h1⟩, rfl⟩, by simp⟩, fun w' _ => ?_⟩
  have hfill := fill_seq (s := t.sz) (ev := a.eval) l 0 z.cells hsq h2 (by simpa using hzs.symm)
  simp only [execOp, Instr.build, Sem.run_bind, hz, run_underlying ht, Result.andThen_ok, hs, List.map_toArray]
  rw [hfill]
  simp
/-- the zero value of an array -/
theorem r_build_zero {T E : TypeId} {z : Value} {t : Ty} {m : Nat} (ht : P.underlying T = some (.array m E)) (hz : ∀ w, (zeroValue T).run P w = .ok z w) (hs : ∀ w, (sizeOf E).run P w = .ok t.sz w) (hzs : z.cells.toList = (List.replicate m (zc t)).flatten) :
    Reads P ⟨dst, .build T #[], ty, pos, aft, g⟩ fr H (.v (.arr m t) (List.replicate m t.dflt)) := fun Γ n ρ w a s => by
  refine ⟨.agg z.cells, ⟨[], ⟨z.cells.toList, ?_, by simp [mkV, Ty.agg]⟩, by simp⟩, fun w' _ => ?_⟩
  · rw [hzs]; exact zc_ok _ (.arr m t)
  · simp [execOp, Instr.build, Sem.run_bind, hz, run_underlying ht, hs, Instr.fill]

/-! ### Equality -/
theorem eqlist_step {α : Type} [DecidableEq α] (x y : α) (xs ys : List α) : decide (x :: xs = y :: ys) = (decide (x = y) && decide (xs = ys)) := by
  by_cases h : x = y <;> simp [h]

/-- '==' of two arrays of integers -/
theorem eqItems_ints {E : TypeId} {k : IntKind} {d : Nat} (hE : P.underlying E = some (.int k)) (ha : ∀ w, (isAgg E).run P w = .ok false w) (hc : P.cellsOf E = 1) (w : World) : ∀ (xs ys p q : List Int), xs.length = ys.length → p.length = q.length →
    (Op.eqItems (d + 1) E (P.cellsOf E) ((p ++ xs).map (Value.int k)).toArray ((q ++ ys).map (Value.int k)).toArray (List.range' p.length xs.length)).run P w = .ok (decide (xs = ys)) w
  | [], [], p, q, _, _ => by simp [Op.eqItems]
  | x :: xs, y :: ys, p, q, hl, hpq => by
    have ih := eqItems_ints (d := d) hE ha hc w xs ys (p ++ [x]) (q ++ [y]) (by simpa using hl) (by simp [hpq])
    have hpx : ∀ w, (part E ((p ++ x :: xs).map (Value.int k)).toArray (p.length * P.cellsOf E)).run P w = .ok (.int k x) w := fun w => by
      simp [part, Sem.run_bind, ha, hc]
    have hpy : ∀ w, (part E ((q ++ y :: ys).map (Value.int k)).toArray (p.length * P.cellsOf E)).run P w = .ok (.int k y) w := fun w => by
      simp [part, Sem.run_bind, ha, hc, hpq]
    simp only [List.append_assoc, List.singleton_append, List.length_append, List.length_cons, List.length_nil, Nat.zero_add] at ih
    simp only [List.length_cons, List.range'_succ, Op.eqItems, Sem.run_bind, hpx, hpy, Result.andThen_ok, run_equalIn_int w d E k k x y hE]
    by_cases h : x = y
    · subst h
      simp only [beq_self_eq_true, Bool.not_true, Bool.false_eq_true, if_false]
      rw [ih]
      simp
    · have : (x == y) = false := by simpa using h
      simp [this, h]
  | [], _ :: _, _, _, h, _ => by cases h
  | _ :: _, [], _, _, h, _ => by cases h
theorem rv_ints {h : Hf} {k : IntKind} {m : Nat} {xs : List Int} {v : Value} {F} (hx : Rv h (.arr m (.int k)) xs v F) : v = .agg (xs.map (Value.int k)).toArray ∧ xs.length = m := by
  obtain ⟨cs, e, hl, hR⟩ := rv_arr hx
  have key : ∀ (xs : List Int) (cs F), RelL (Rc h (.int k)) xs cs F → cs = xs.map (Value.int k) := by
    intro xs
    induction xs with
    | nil => intro cs F h; exact h.1
    | cons x xs ih =>
      intro cs F ⟨c1, c2, F1, F2, e1, e2, h1, h2⟩
      rw [e1, ih _ _ h2, h1.1]; rfl
  refine ⟨?_, hl⟩
  rw [e, key xs cs F hR]
theorem r_eq_ints {op : BinOp} {T E yT : TypeId} {x y : Operand} {k : IntKind} {m : Nat} {xs ys : List Int} {c : Bool} (hu : P.underlying T = some (.array m E)) (hE : P.underlying E = some (.int k)) (ha : ∀ w, (isAgg E).run P w = .ok false w) (hi : ∃ i, P.info? E = some i ∧ i.size = 1) (hgd : P.eqGuardType P.depth T = false)
    (hx : evO fr x = some (.v (.arr m (.int k)) xs)) (hy : evO fr y = some (.v (.arr m (.int k)) ys)) (hc : (match op with
      | .eql => some (decide (xs = ys))
      | .neq => some (!decide (xs = ys))
      | _ => none) = some c) : Reads P ⟨dst, .binOp op T x y yT, ty, pos, aft, g⟩ fr H (.bool c) := fun Γ n ρ w a s => by
  obtain ⟨F, h1, _⟩ := s.ev hx
  obtain ⟨G, h2, _⟩ := s.ev hy
  obtain ⟨e1, l1⟩ := rv_ints h1
  obtain ⟨e2, l2⟩ := rv_ints h2
  obtain ⟨i, hi, hsz⟩ := hi
  have hcell : P.cellsOf E = 1 := by simp [Program.cellsOf, hi, hsz]
  have heq : ∀ w', (Op.equal T (a.eval x) (a.eval y)).run P w' = .ok (decide (xs = ys)) w' := fun w' => by
    unfold Op.equal Op.maxDepth
    rw [e1, e2, run_equalIn_array w' 9999 _ _ hu hi]
    have := eqItems_ints (P := P) (d := 9998) hE ha hcell w' xs ys [] [] (by rw [l1, l2]) rfl
    simp only [List.nil_append, List.length_nil, l1, ← List.range_eq_range'] at this
    exact this
  refine ⟨.bool c, rfl, fun w' _ => ?_⟩
  have hg1 : ∀ w', (eqGuard op T x y (a.eval x) (a.eval y)).run P w' = .ok () w' := fun w' => by
    rw [e1, e2]
    unfold eqGuard
    cases op <;> simp [hgd, program, Sem.run, Sem.run_bind]
  have h3 : (Go.binOp op T (a.eval x) (a.eval y)).run P w' = .ok (.bool c) w' := by
    cases op <;> simp at hc
    · subst hc
      rw [e1, e2] at heq ⊢
      simp [Go.binOp, Sem.run_bind, heq]
    · rw [e1, e2] at heq ⊢
      simp [Go.binOp, Sem.run_bind, heq, hc]
  simp only [execOp, Sem.run_bind, hg1, h3, Result.andThen_ok, Sem.run_pure]
theorem r_eq_bool {T yT : TypeId} {x y : Operand} {p q : Bool} (hu : P.underlying T = some .bool) (hx : evO fr x = some (.bool p)) (hy : evO fr y = some (.bool q)) : Reads P ⟨dst, .binOp .eql T x y yT, ty, pos, aft, g⟩ fr H (.bool (p == q)) :=
  reads_of fun ρ h M ev hev => ⟨_, rfl, fun w' => by
    have h1 := hev x _ hx; have h2 := hev y _ hy
    simp only [RA] at h1 h2
    simp [execOp, eqGuard, Go.binOp, h1, h2, Sem.run_bind, run_equal_bool w' T p q hu]⟩
theorem r_neq_bool {T yT : TypeId} {x y : Operand} {p q : Bool} (hu : P.underlying T = some .bool) (hx : evO fr x = some (.bool p)) (hy : evO fr y = some (.bool q)) : Reads P ⟨dst, .binOp .neq T x y yT, ty, pos, aft, g⟩ fr H (.bool (p != q)) :=
  reads_of fun ρ h M ev hev => ⟨_, rfl, fun w' => by
    have h1 := hev x _ hx; have h2 := hev y _ hy
    simp only [RA] at h1 h2
    simp [execOp, eqGuard, Go.binOp, h1, h2, Sem.run_bind, run_equal_bool w' T p q hu, bne]⟩
end
end Go.GA
