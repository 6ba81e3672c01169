/- Slices of slices that are built; the greatest and the least of two numbers. -/
import Derived.Test.YtcminfahdindnaaDoorGA23
namespace Go.GA
open Go Go.RowKit
section
variable {P : Program} {n : Sz} {fr : Fr} {H : Hp} {dst : Option Nat} {ty : TypeId} {pos : String} {aft : Array Edge} {g : Option (Nat × Bool)}
theorem r_max {T U : TypeId} {x y : Operand} {k : IntKind} {a b : Int} (hx : evO fr x = some (.int k a)) (hy : evO fr y = some (.int k b)) :
    Reads P ⟨dst, .call ⟨.builtin .max, #[x, y], #[T, U]⟩, ty, pos, aft, g⟩ fr H (.int k (if b > a then b else a)) :=
  reads_of fun ρ h M ev hev => ⟨_, rfl, fun w' => by
    have h1 := hev x _ hx; have h2 := hev y _ hy
    simp only [RA] at h1 h2
    simp [execOp, resolve, invoke, Go.builtin, Builtin.max_, Builtin.max2, h1, h2, Sem.run_bind]⟩
theorem r_min {T U : TypeId} {x y : Operand} {k : IntKind} {a b : Int} (hx : evO fr x = some (.int k a)) (hy : evO fr y = some (.int k b)) :
    Reads P ⟨dst, .call ⟨.builtin .min, #[x, y], #[T, U]⟩, ty, pos, aft, g⟩ fr H (.int k (if b < a then b else a)) :=
  reads_of fun ρ h M ev hev => ⟨_, rfl, fun w' => by
    have h1 := hev x _ hx; have h2 := hev y _ hy
    simp only [RA] at h1 h2
    simp [execOp, resolve, invoke, Go.builtin, Builtin.min_, Builtin.min2, h1, h2, Sem.run_bind]⟩
theorem os_Rc {ρ : Rho} {h : Hf} {M : Nat → Prop} {ℓ : Nat → List Nat} {j : Nat} {t : Ty} {xs : List t.D} {v : Value} (hk : HeapOK ρ h H ℓ) (hg : hget H j = some (.row t xs)) (hv : RA ρ h M (.os j) v) : Rc h (.slice t) xs [v] (ℓ j) := by
  obtain ⟨hl, ⟨h3, h4, h5⟩ | ⟨b, cap, c, T', F, mid, post, h3, h4, h5, h6, h7, h8, h9⟩⟩ := hk.get hg
  · rcases hv with ⟨_, e⟩ | ⟨b', cap', len, hx', e⟩
    · subst h4; rw [h5, e]
      exact ⟨hl, .inl ⟨rfl, rfl, none, 0, rfl⟩⟩
    · rw [h3] at hx'; cases hx'
  · rcases hv with ⟨hx', _⟩ | ⟨b', cap', len, hx', e⟩
    · rw [h3] at hx'; cases hx'
    · rw [h3] at hx'
      obtain ⟨rfl, rfl, rfl⟩ : b = b' ∧ cap = cap' ∧ List.length (α := t.D) xs = len := by simpa using hx'
      rw [h7, e]
      exact ⟨hl, .inr ⟨b, 0, cap - List.length (α := t.D) xs, F, by rw [Nat.add_sub_cancel' h8], rfl, c, T', (0, 0), [], mid, post, h4, by simpa using h5, rfl, h6⟩⟩
theorem Rc.one_slice {h : Hf} {t : Ty} {xs : List t.D} {v : Value} {F : List Nat} (hr : Rc h (.slice t) xs [v] F) : ∃ a len cap, v = .slice a len cap := by
  obtain ⟨_, ⟨_, _, a, cap, e⟩ | ⟨b, off, cap, F', e, _⟩⟩ := hr
  · exact ⟨a, 0, cap, by simpa using e⟩
  · exact ⟨_, _, _, by simpa using e⟩
/-- a slice literal of one own slice -/
theorem e_build1 {T E : TypeId} {x : Operand} {z : Value} {t : Ty} {j : Nat} {xs : List t.D} (id : Nat) (ht : P.underlying T = some (.slice E)) (hz : ∀ w, (zeroValue E).run P w = .ok z w) (hs : ∀ w, (sizeOf E).run P w = .ok 1 w)
    (hx : evO fr x = some (.os j)) (hg : hget H j = some (.row t xs)) (hid : freshB id fr H = true) (hK : Nat.ble n.K id = true) :
    Eff P n ⟨dst, .buildSlice T 1 #[(0, x)], ty, pos, aft, g⟩ fr H (.os id) fr ((id, .row (.slice t) [xs]) :: hdel [j] H) := fun Γ ρ w a s => by
  obtain ⟨ℓ, hk, _⟩ := s.heap
  have hv := os_Rc hk hg (s.ev hx)
  obtain ⟨a', len, cap, hva⟩ := hv.one_slice
  have hrun : (Instr.buildSlice T 1 #[(0, a.eval x)]).run P w = .ok (.slice (some ⟨w.heap.size, 0, none⟩) 1 1) (w.alloc (.cells #[a.eval x] E)) := by
    have h2 : ∀ p ∈ [((0 : Nat), x)], (a.eval p.2).cells.size = 1 := by intro p hp; simp only [List.mem_singleton] at hp; subst hp; rw [hva]; rfl
    have hfill := fun (A : Array Value) (hA : 1 * 1 = A.size) => fill_seq (s := 1) (ev := a.eval) [(0, x)] 0 A rfl h2 (by simpa using hA)
    simp only [Instr.buildSlice, Sem.run_bind, run_underlying ht, Result.andThen_ok, hs]
    rw [if_neg (by decide), if_neg (by decide)]
    have := hfill ((Array.range (1 * 1)).map (z.cells[· % z.cells.size]!)) (by simp)
    simp only [Sem.run_bind, hz, Result.andThen_ok, Sem.run_pure]
    simp only [List.map_cons, List.map_nil] at this
    rw [this]
    have hc : (a.eval x).cells.toList = [a.eval x] := by rw [hva]; rfl
    simp [newRow, newObj, Sem.run, hc]
  refine ⟨.slice (some ⟨w.heap.size, 0, none⟩) 1 1, w.alloc (.cells #[a.eval x] E), upd ρ id (some (w.heap.size, 1, 1)), ?_, ?_, .inr ⟨_, _, _, upd_same _ _ _, rfl⟩⟩
  · have e : (#[((0 : Nat), x)]).map (fun p => (p.1, a.eval p.2)) = #[(0, a.eval x)] := by simp
    simp only [execOp, e, Sem.run_bind, hrun, Result.andThen_ok, Sem.run_pure]
  · refine s.replace [j] (id := id) (B := .row (.slice t) [xs]) (p := some (w.heap.size, 1, 1)) (w' := w.alloc (.cells #[a.eval x] E)) hid hK rfl rfl rfl rfl (by simp) (fun b hb _ => heap_alloc_lt w _ b hb)
      (fun b k h => .inr (by simp at h; omega)) (fun ℓ' hk' hM => ?_)
    have hv' := os_Rc hk' hg (s.ev hx)
    have hlt : ∀ b ∈ ℓ' j, b < w.heap.size := fun b hb => hf_lt (hk'.there (hget_mem hg) b hb)
    refine ⟨w.heap.size :: ℓ' j, ⟨(show 1 ≤ lim from by decide), .inr ⟨w.heap.size, 1, _, E, ℓ' j, [a.eval x], [], upd_same _ _ _, hf_alloc_new, by simp, ?_, rfl, Nat.le_refl _, rfl⟩⟩, ?_, fun b hb => ?_⟩
    · refine ⟨[a.eval x], [], ℓ' j, [], by simp, by simp, hv'.same (.slice t) (fun b hb => ?_), rfl, rfl⟩
      exact heap_alloc_lt w _ b (hlt b hb)
    · rw [List.nodup_cons]
      exact ⟨fun hm => by have := hlt _ hm; omega, hk'.nd _ (hget_mem hg)⟩
    · rcases List.mem_cons.1 hb with rfl | hb
      · exact .inr (Nat.le_refl _)
      · exact .inl ⟨_, hget_mem hg, by simp, hb⟩
/-- a slice literal of nothing -/
theorem e_build0 {T E : TypeId} {t : Ty} {m : Nat} (id : Nat) (ht : P.underlying T = some (.slice E)) (hs : ∀ w, (sizeOf E).run P w = .ok m w) (hid : freshB id fr H = true) (hK : Nat.ble n.K id = true) :
    Eff P n ⟨dst, .buildSlice T 0 #[], ty, pos, aft, g⟩ fr H (.os id) fr ((id, .row t []) :: H) := fun Γ ρ w a s => by
  have hrun : (Instr.buildSlice T 0 #[]).run P w = .ok (.slice (some ⟨w.heap.size, 0, none⟩) 0 0) (w.alloc (.cells #[] E)) := by
    simp only [Instr.buildSlice, Sem.run_bind, run_underlying ht, Result.andThen_ok, hs, Nat.zero_mul]
    rw [if_neg (by decide), if_pos trivial]
    have e0 : Array.range 0 = #[] := by apply Array.ext'; simp
    simp [Instr.fill, newRow, newObj, Sem.run, e0]
  refine ⟨.slice (some ⟨w.heap.size, 0, none⟩) 0 0, w.alloc (.cells #[] E), upd ρ id (some (w.heap.size, 0, 0)), ?_, ?_, .inr ⟨_, _, _, upd_same _ _ _, rfl⟩⟩
  · have e : (#[] : Array (Nat × Operand)).map (fun p => (p.1, a.eval p.2)) = #[] := by simp
    simp only [execOp, e, Sem.run_bind, hrun, Result.andThen_ok, Sem.run_pure]
  · have := s.replace [] (id := id) (B := .row t []) (p := some (w.heap.size, 0, 0)) (w' := w.alloc (.cells #[] E)) hid hK rfl rfl rfl rfl (by simp) (fun b hb _ => heap_alloc_lt w _ b hb)
      (fun b k h => .inr (by simp at h; omega)) (fun ℓ hk hM => ?_)
    · rwa [hdel_nil] at this
    · exact ⟨[w.heap.size], ⟨Nat.zero_le _, .inr ⟨w.heap.size, 0, _, E, [], [], [], upd_same _ _ _, hf_alloc_new, by simp, ⟨rfl, rfl⟩, rfl, Nat.le_refl _, by simp⟩⟩, by simp, fun b hb => .inr (by simp at hb; omega)⟩
/-- the blocks behind a row, for its cells -/
theorem rowF {ρ : Rho} {h : Hf} {ℓ : Nat → List Nat} {id : Nat} {t : Ty} {xs : List t.D} (hk : HeapOK ρ h H ℓ) (hg : hget H id = some (.row t xs)) {old post : List Value} (hol : old.length = xs.length * t.sz)
    (hb : (ρ id = none ∧ old = []) ∨ ∃ b cap len c T', ρ id = some (b, cap, len) ∧ h b = some (.cells c T' (0, 0)) ∧ c.toList = old ++ post) :
    ∃ F, RelL (Rc h t) xs old F ∧ (∀ x ∈ F, x ∈ ℓ id) ∧ F.Nodup ∧ ∀ b k, ρ id = some (b, k) → b ∈ ℓ id ∧ b ∉ F := by
  obtain ⟨hl, ⟨h3, h4, h5⟩ | ⟨b, cap, c, T', F, mid, p, h3, h4, h5, h6, h7, h8, h9⟩⟩ := hk.get hg
  · rcases hb with ⟨_, rfl⟩ | ⟨b, cap, len, c, T', hρ, _⟩
    · subst h4
      exact ⟨[], ⟨rfl, rfl⟩, by simp, List.nodup_nil, fun b k hρ => by rw [h3] at hρ; cases hρ⟩
    · rw [h3] at hρ; cases hρ
  · rcases hb with ⟨hρ, _⟩ | ⟨b', cap', len, c', T'', hρ, h2, h10⟩
    · rw [h3] at hρ; cases hρ
    · rw [h3] at hρ
      obtain ⟨rfl, rfl, rfl⟩ : b = b' ∧ cap = cap' ∧ List.length (α := t.D) xs = len := by simpa using hρ
      have e : c = c' := by have := h4.symm.trans h2; simp only [Option.some.injEq, Obj.cells.injEq] at this; exact this.1
      subst e
      have hl1 := RelL.len (fun x c F h => Rc.len t h) h6
      have e2 : mid = old := (List.append_inj (h5.symm.trans h10) (by rw [hl1, hol])).1
      subst e2
      have hnd := hk.nd _ (hget_mem hg)
      simp only [h7] at hnd
      refine ⟨F, h6, fun x hx => by rw [h7]; exact List.mem_cons_of_mem _ hx, (List.nodup_cons.1 hnd).2, fun b1 k hρ1 => ?_⟩
      rw [h3] at hρ1
      obtain ⟨rfl, _⟩ : b = b1 ∧ _ := by simpa using hρ1
      exact ⟨by rw [h7]; simp, (List.nodup_cons.1 hnd).1⟩
/-- append of an own row onto an own row: its elements move over -/
theorem e_append_os {T E : TypeId} {x y : Operand} {i : TypeInfo} {z : Value} {t : Ty} {id id2 : Nat} {xs ys : List t.D} (id' : Nat) (ht : P.underlying T = some (.slice E)) (hi : P.info? E = some i) (hz : i.zero = some z) (hzs : z.cells.size = i.size) (hsz : i.size = t.sz)
    (hby : Nat.ble i.bytes 1000 = true) (hx : evO fr x = some (.os id)) (hg : hget H id = some (.row t xs)) (hy : evO fr y = some (.os id2)) (hg2 : hget H id2 = some (.row t ys)) (hne : Nat.beq id id2 = false) (hroom : xs.length + ys.length ≤ 1000000000) (hid : freshB id' fr H = true) (hK : Nat.ble n.K id' = true) :
    Eff P n ⟨dst, .call ⟨.builtin .append, #[x, y], #[T, T]⟩, ty, pos, aft, g⟩ fr H (.os id') fr ((id', .row t (xs ++ ys)) :: hdel [id, id2] H) := fun Γ ρ w a s => by
  have hne' : id ≠ id2 := Nat.ne_of_beq_eq_false hne
  obtain ⟨ℓ, hk, _⟩ := s.heap
  have hby' : i.bytes ≤ 1000 := Nat.le_of_ble_eq_true hby
  have hexec : ∀ r w', (Builtin.append_ #[T, T] ty #[a.eval x, a.eval y]).run P w = .ok r w' → (execOp a.eval ⟨dst, .call ⟨.builtin .append, #[x, y], #[T, T]⟩, ty, pos, aft, g⟩).run P w = .ok (.value r) w' := by
    intro r w' h
    simp [execOp, resolve, invoke, Go.builtin, Sem.run_bind, h]
  have hlim : (xs ++ ys).length ≤ lim := by rw [List.length_append]; simp only [lim]; omega
  -- a row's cells
  have hrow : ∀ {id : Nat} {o : Operand} {xs : List t.D}, evO fr o = some (.os id) → hget H id = some (.row t xs) → ∃ a0 len cap old post b, a.eval o = .slice a0 len cap ∧ len = xs.length ∧ len ≤ cap ∧ old.length = len * i.size ∧ (∀ u ∈ old, u.oneCell' = true) ∧
      ((a0 = none ∧ len = 0 ∧ cap = 0 ∧ old = [] ∧ ρ id = none) ∨ ∃ c T', a0 = some ⟨b, 0, none⟩ ∧ w.heap[b]? = some (.cells c T' (0, 0)) ∧ c.toList = old ++ post ∧ c.size = cap * i.size ∧ ρ id = some (b, cap, len)) := by
    intro id o xs hx hg
    obtain ⟨hl, hor⟩ := hk.get hg
    rcases hor with ⟨h3, h4, h5⟩ | ⟨b, cap, c, T', F, mid, post, h3, h4, h5, h6, h7, h8, h9⟩
    · rcases s.ev hx with ⟨_, e⟩ | ⟨b', cap', len, hx', e⟩
      · subst h4
        exact ⟨none, 0, 0, [], [], 0, e, rfl, Nat.le_refl _, by simp, by simp, .inl ⟨rfl, rfl, rfl, rfl, h3⟩⟩
      · rw [h3] at hx'; cases hx'
    · rcases s.ev hx with ⟨hx', _⟩ | ⟨b', cap', len, hx', e⟩
      · rw [h3] at hx'; cases hx'
      · rw [h3] at hx'
        obtain ⟨rfl, rfl, rfl⟩ : b = b' ∧ cap = cap' ∧ List.length (α := t.D) xs = len := by simpa using hx'
        exact ⟨_, _, cap, mid, post, b, e, rfl, h8, by rw [hsz]; exact RelL.len (fun x c F h => Rc.len t h) h6, RelL.all (fun x c F h => Rc.one t h) h6, .inr ⟨c, T', rfl, h4, h5, by rw [hsz]; exact h9, h3⟩⟩
  obtain ⟨a0, len, cap, old, post, b, hvx, hlen, hlc, hol, _, hb⟩ := hrow hx hg
  obtain ⟨ya, ylen, ycap, news, ypost, yb, hvy, hylen, _, hnl, hn1, hyb⟩ := hrow hy hg2
  have hfc : ∀ w' : World, w'.heap = w.heap → (Builtin.firstCells i.size ys.length (a.eval y)).run P w' = .ok news.toArray w' := by
    intro w' hw
    rcases hyb with ⟨rfl, rfl, rfl, rfl, _⟩ | ⟨c, T', rfl, h2, h3, h4, _⟩
    · rw [hvy, ← hylen]; simp [Builtin.firstCells]
    · rw [hvy, hsz, ← hylen]
      exact firstCells_row (p := []) hw h2 (by simpa using h3) rfl (by rw [← hsz]; exact hnl)
  have happ := run_append (P := P) (ty := ty) (T := T) (E := E) (i := i) (z := z) (x := a.eval y) (m := ys.length) (news := news) (w := w) ht hi hz hzs hby' ⟨ya, ycap, by rw [hvy, hylen]⟩ hfc (by rw [← hylen]; exact hnl) hn1 (len := len) (cap := cap) (by rw [hlen]; exact hroom) hlc (old := old) (post := post) (b := b) (a0 := a0) hol
    (by rcases hb with ⟨h1, h2, h3, h4, _⟩ | ⟨c, T', h1, h2, h3, h4, _⟩
        · exact .inl ⟨h1, h2, h3, h4⟩
        · exact .inr ⟨c, T', h1, h2, h3, h4⟩)
  rw [← hvx] at happ
  have hnewlen : len + ys.length = (xs ++ ys).length := by rw [List.length_append, hlen]
  have hmem := hget_mem hg
  have hmem2 := hget_mem hg2
  -- the blocks behind both, whatever the list of blocks is
  have both : ∀ ℓ', HeapOK ρ (World.hf w) H ℓ' → ∃ F, (∀ {h' : Hf}, (∀ x ∈ F, h' x = World.hf w x) → RelL (Rc h' t) (xs ++ ys) (old ++ news) F) ∧ F.Nodup ∧ (∀ x ∈ F, x < w.heap.size) ∧ (∀ x ∈ F, x ∈ ℓ' id ∨ x ∈ ℓ' id2) ∧ ∀ b k, ρ id = some (b, k) → b ∈ ℓ' id ∧ b ∉ F := by
    intro ℓ' hk'
    obtain ⟨F, r1, m1, n1, k1⟩ := rowF hk' hg (old := old) (post := post) (by rw [hol, hlen, hsz]) (by
      rcases hb with ⟨h1, h2, h3, h4, h5⟩ | ⟨c, T', h1, h2, h3, h4, h5⟩
      · exact .inl ⟨h5, h4⟩
      · exact .inr ⟨_, _, _, c, T', h5, h2, h3⟩)
    obtain ⟨F2, r2, m2, n2, k2⟩ := rowF hk' hg2 (old := news) (post := ypost) (by rw [hnl, hylen, hsz]) (by
      rcases hyb with ⟨h1, h2, h3, h4, h5⟩ | ⟨c, T', h1, h2, h3, h4, h5⟩
      · exact .inl ⟨h5, h4⟩
      · exact .inr ⟨_, _, _, c, T', h5, h2, h3⟩)
    have hdj := hk'.dj _ hmem _ hmem2 hne'
    refine ⟨F ++ F2, fun {h'} hs => RelL.append (RelL.mono (fun x c F' hF hc => hc.same t (fun b hb => hs b (List.mem_append_left _ (hF b hb)))) r1) (RelL.mono (fun x c F' hF hc => hc.same t (fun b hb => hs b (List.mem_append_right _ (hF b hb)))) r2),
      List.nodup_append.2 ⟨n1, n2, fun x h1 y h2 e => hdj x (m1 x h1) (e ▸ m2 y h2)⟩, fun x hx' => ?_, fun x hx' => ?_, fun b k hρ => ⟨(k1 b k hρ).1, fun h => ?_⟩⟩
    · rcases List.mem_append.1 hx' with h | h
      · exact hf_lt (hk'.there hmem x (m1 x h))
      · exact hf_lt (hk'.there hmem2 x (m2 x h))
    · rcases List.mem_append.1 hx' with h | h
      · exact .inl (m1 x h)
      · exact .inr (m2 x h)
    · rcases List.mem_append.1 h with h | h
      · exact (k1 b k hρ).2 h
      · exact hdj b (k1 b k hρ).1 (m2 b h)
  rcases happ with ⟨hfit, ⟨rfl, hrun⟩ | ⟨c', rfl, hc', hcs', hrun⟩⟩ | ⟨nc, c', hle, hcs', ⟨q, hq⟩, hrun⟩
  · rcases hb with ⟨_, rfl, rfl, rfl, _⟩ | ⟨c, T', h1, _⟩
    · have hnil : xs ++ ys = [] := List.eq_nil_of_length_eq_zero (by omega)
      refine ⟨_, _, upd ρ id' none, hexec _ _ hrun, s.replace [id, id2] (p := none) hid hK rfl rfl rfl rfl (Nat.le_refl _) (fun b hb _ => rfl) (fun b k h => by cases h) (fun ℓ' hk' hM => ⟨[], ⟨hlim, .inl ⟨upd_same _ _ _, hnil, rfl⟩⟩, by simp, by simp⟩), .inl ⟨upd_same _ _ _, rfl⟩⟩
    · cases h1
  · -- in place
    rcases hb with ⟨h1, _⟩ | ⟨c, T', h1, h2, h3, h4, h5⟩
    · cases h1
    · obtain ⟨f1, f2, f3, f4⟩ := setRow_facts w b c'
      refine ⟨_, _, upd ρ id' (some (b, cap, (xs ++ ys).length)), hexec _ _ hrun, s.replace [id, id2] (p := some (b, cap, (xs ++ ys).length)) hid hK rfl f1 f2 f3 (by rw [f4]; exact Nat.le_refl _) (fun k hk' hne => setRow_other w b k c' (fun e => by subst e; exact hne _ hmem (by simp) _ h5)) (fun b' k h => by
          simp only [Option.some.injEq, Prod.mk.injEq] at h
          exact .inl ⟨_, hmem, by simp, _, by rw [← h.1]; exact h5⟩) (fun ℓ' hk' hM => ?_), .inr ⟨b, cap, _, upd_same _ _ _, by rw [hnewlen]⟩⟩
      obtain ⟨F, hR, hn, hlt, hin, hbF⟩ := both ℓ' hk'
      obtain ⟨hbl, hbn⟩ := hbF _ _ h5
      refine ⟨b :: F, ⟨hlim, .inr ⟨b, cap, c', T', F, old ++ news, post.drop news.length, upd_same _ _ _, setRow_heap w b c c' T' (0, 0) h2, hc', hR (fun x hx => setRow_other w b x c' (fun e => hbn (e ▸ hx))), rfl, by rw [← hnewlen]; exact hfit, by rw [← hsz]; exact hcs'⟩⟩, List.nodup_cons.2 ⟨hbn, hn⟩, fun x hx' => ?_⟩
      rcases List.mem_cons.1 hx' with rfl | hx'
      · exact .inl ⟨_, hmem, by simp, hbl⟩
      · rcases hin x hx' with h | h
        · exact .inl ⟨_, hmem, by simp, h⟩
        · exact .inl ⟨_, hmem2, by simp, h⟩
  · -- a new array
    refine ⟨_, _, upd ρ id' (some (w.heap.size, nc, (xs ++ ys).length)), hexec _ _ hrun, s.replace [id, id2] (p := some (w.heap.size, nc, (xs ++ ys).length)) (w' := w.drew.alloc (.cells c' E)) hid hK rfl rfl rfl rfl (by simp) (fun k hk' _ => heap_alloc_lt w.drew _ k hk') (fun b' k h => by
        simp only [Option.some.injEq, Prod.mk.injEq] at h
        exact .inr (by omega)) (fun ℓ' hk' hM => ?_), .inr ⟨_, nc, _, upd_same _ _ _, by rw [hnewlen]⟩⟩
    obtain ⟨F, hR, hn, hlt, hin, hbF⟩ := both ℓ' hk'
    refine ⟨w.heap.size :: F, ⟨hlim, .inr ⟨w.heap.size, nc, c', E, F, old ++ news, q, upd_same _ _ _, hf_alloc_new (w := w.drew), hq, hR (fun x hx => heap_alloc_lt w.drew _ x (hlt x hx)), rfl, by rw [← hnewlen]; exact hle, by rw [← hsz]; exact hcs'⟩⟩, List.nodup_cons.2 ⟨fun h => by have := hlt _ h; omega, hn⟩, fun x hx' => ?_⟩
    rcases List.mem_cons.1 hx' with rfl | hx'
    · exact .inr (Nat.le_refl _)
    · rcases hin x hx' with h | h
      · exact .inl ⟨_, hmem, by simp, h⟩
      · exact .inl ⟨_, hmem2, by simp, h⟩
end
end Go.GA
