/- Rows that are made, appended to, built. -/
import Derived.Test.YtcminfahdindnaaDoorGA10
import Derived.Laws.MakeOwn
import Derived.Laws.AppendOwn
namespace Go.GA
open Go Go.RowKit

/-- the entries l are used up, and an entry comes in their place -/
theorem SIM.replace0 {Γ : Ctx} {n : Sz} {ρ : Rho} {w w' : World} {a : Act} {fr : Fr} {H : Hp} (s : SIM Γ n ρ w a fr H) (l : List Nat) {id : Nat} (hid : freshB id fr H = true) (hK : Nat.ble n.K id = true) {B : Blk} {p : Option (Nat × Nat × Nat)} (hBi : memB id B.ids = false)
    (hos : w'.os = w.os) (htape : w'.tape = w.tape) (hout : w'.output = w.output) (hsize : w.heap.size ≤ w'.heap.size) (hblk : ∀ b, b < w.heap.size → (∀ e ∈ H, e.1 ∈ l → ∀ k, ρ e.1 ≠ some (b, k)) → w'.heap[b]? = w.heap[b]?)
    (hp : ∀ b k, p = some (b, k) → (∃ e ∈ H, e.1 ∈ l ∧ ∃ k', ρ e.1 = some (b, k')) ∨ w.heap.size ≤ b)
    (hnew : ∀ ℓ, HeapOK ρ (World.hf w) H ℓ → (∀ b, ¬ ownB ρ H b → World.hf w b ≠ none → World.hf w' b = World.hf w b ∧ ¬ ownB (upd ρ id p) ((id, B) :: hdel l H) b) →
      ∃ L, RBlk (upd ρ id p) (World.hf w') (ownB (upd ρ id p) ((id, B) :: hdel l H)) id B L ∧ L.Nodup ∧ ∀ b ∈ L, (∃ e ∈ H, e.1 ∈ l ∧ b ∈ ℓ e.1) ∨ w.heap.size ≤ b) :
    SIM Γ n (upd ρ id p) w' a fr ((id, B) :: hdel l H) := by
  have hin := freshB_H hid
  have hneq : ∀ e ∈ H, e.1 ≠ id := fun e he h => hin (h ▸ hids_head he)
  obtain ⟨ℓ, hk, hl⟩ := s.heap
  have hsz : Γ.W0.heap.size ≤ w.heap.size := s.ext.size
  have hlt : ∀ e ∈ H, ∀ b ∈ ℓ e.1, b < w.heap.size := fun e he b h => hf_lt (hk.there he b h)
  have hown : ∀ b, namB (upd ρ id p) ((id, B) :: hdel l H) b → namB ρ H b ∨ w.heap.size ≤ b := by
    rintro b ⟨e, he, k, hb⟩
    rcases List.mem_cons.1 he with rfl | he
    · rw [upd_same] at hb
      rcases hp b k hb with ⟨e', he', _, k', hk'⟩ | h
      · exact .inl ⟨e', he', k', hk'⟩
      · exact .inr h
    · have h1 := (mem_hdel.1 he).1
      rw [upd_other _ _ (hneq e h1)] at hb
      exact .inl ⟨e, h1, k, hb⟩
  have hkeep : ∀ b, World.hf w b ≠ none → (∀ e ∈ H, e.1 ∈ l → ∀ k, ρ e.1 ≠ some (b, k)) → World.hf w' b = World.hf w b := fun b h1 h2 => hblk b (hf_lt h1) h2
  have hM : ∀ b, ¬ ownB ρ H b → World.hf w b ≠ none → World.hf w' b = World.hf w b ∧ ¬ ownB (upd ρ id p) ((id, B) :: hdel l H) b := fun b h1 h2 =>
    ⟨hkeep b h2 (fun e he _ k hb => h1 (.inl ⟨e, he, k, hb⟩)), fun h => by
      rcases h with h | h
      · rcases hown b h with h | h
        · exact h1 (.inl h)
        · have := hf_lt h2; omega
      · exact h1 (.inr h)⟩
  obtain ⟨L, hL, hLn, hLs⟩ := hnew ℓ hk hM
  have hdsame : ∀ e ∈ hdel l H, ∀ b ∈ ℓ e.1, World.hf w' b = World.hf w b := by
    intro e he b hb
    obtain ⟨h1, h2⟩ := mem_hdel.1 he
    refine hkeep b (hk.there h1 b hb) (fun e' he' hl' k hk' => ?_)
    exact hk.dj e' he' e h1 (fun h => h2 (h ▸ hl')) b (own_head hk he' hk') hb
  have hℓ0 : updL ℓ id L id = L := updL_same _ _ _
  have hℓ : ∀ e ∈ hdel l H, updL ℓ id L e.1 = ℓ e.1 := fun e he => updL_other _ _ (hneq e (mem_hdel.1 he).1)
  refine ⟨s.defers, s.size, ⟨hos.trans s.ext.os, htape.trans s.ext.tape, hout.trans s.ext.output, Nat.le_trans hsz hsize, fun k hk' hm => ?_⟩, ?_, ?_, ⟨updL ℓ id L, ⟨?_, ?_, ?_, ?_⟩, ?_⟩, ?_⟩
  · rw [hblk k (by omega) (fun e he _ k' hb => by
      rcases s.own k ⟨e, he, k', hb⟩ with h | h
      · exact hm h
      · omega)]
    exact s.ext.block k hk' hm
  · intro i hi
    have : i ≠ id := fun h => by have := Nat.le_of_ble_eq_true hK; omega
    rw [upd_other _ _ this]; exact s.keep i hi
  · intro b hb
    rcases hown b hb with h | h
    · exact s.own b h
    · exact .inr (by omega)
  · intro e he
    rcases List.mem_cons.1 he with rfl | he
    · rw [hℓ0]; exact hL
    · rw [hℓ e he]
      obtain ⟨h1, h2⟩ := mem_hdel.1 he
      exact (hk.blk e h1).same (fun i hi => upd_other _ _ (fun h => hin (h ▸ mem_hids h1 hi))) hM (hdsame e he)
  · intro e he
    rcases List.mem_cons.1 he with rfl | he
    · rw [hℓ0]; exact hLn
    · rw [hℓ e he]; exact hk.nd e (mem_hdel.1 he).1
  · have hc : ∀ e ∈ hdel l H, ∀ b ∈ L, b ∉ ℓ e.1 := by
      intro e he b hb hb'
      obtain ⟨h1, h2⟩ := mem_hdel.1 he
      rcases hLs b hb with ⟨e', he', hl', hb2⟩ | h
      · exact hk.dj e' he' e h1 (fun h => h2 (h ▸ hl')) b hb2 hb'
      · have := hlt e h1 b hb'; omega
    intro e he e' he' hne b hb
    rcases List.mem_cons.1 he with rfl | he <;> rcases List.mem_cons.1 he' with rfl | he'
    · exact absurd rfl hne
    · rw [hℓ0] at hb; rw [hℓ e' he']; exact hc e' he' b hb
    · rw [hℓ e he] at hb; rw [hℓ0]; exact fun h => hc e he b h hb
    · rw [hℓ e he] at hb; rw [hℓ e' he']
      exact hk.dj e (mem_hdel.1 he).1 e' (mem_hdel.1 he').1 hne b hb
  · simp only [List.map_cons, List.nodup_cons, List.mem_map]
    exact ⟨fun ⟨e, he, h⟩ => hneq e (mem_hdel.1 he).1 h, hdel_keys hk.ids⟩
  · intro e he b hb
    rcases List.mem_cons.1 he with rfl | he
    · rw [hℓ0] at hb
      rcases hLs b hb with ⟨e', he', _, hb2⟩ | h
      · exact hl e' he' b hb2
      · exact .inr (by omega)
    · rw [hℓ e he] at hb; exact hl e (mem_hdel.1 he).1 b hb
  · intro t x hx
    obtain ⟨h1, h2⟩ := s.fr t x hx
    exact ⟨h1, h2.same x (fun i hi => upd_other _ _ (fun h => freshB_fr hid (h ▸ get_ids hx i hi))) hM⟩

theorem SIM.replace {Γ : Ctx} {n : Sz} {ρ : Rho} {w w' : World} {a : Act} {fr : Fr} {H : Hp} (s : SIM Γ n ρ w a fr H) (l : List Nat) {id : Nat} (hid : freshB id fr H = true) (hK : Nat.ble n.K id = true) {B : Blk} {p : Option (Nat × Nat × Nat)} (hBi : memB id B.ids = false)
    (hos : w'.os = w.os) (htape : w'.tape = w.tape) (hout : w'.output = w.output) (hsize : w.heap.size ≤ w'.heap.size) (hblk : ∀ b, b < w.heap.size → (∀ e ∈ H, e.1 ∈ l → ∀ k, ρ e.1 ≠ some (b, k)) → w'.heap[b]? = w.heap[b]?)
    (hp : ∀ b k, p = some (b, k) → (∃ e ∈ H, e.1 ∈ l ∧ ∃ k', ρ e.1 = some (b, k')) ∨ w.heap.size ≤ b)
    (hnew : ∀ ℓ, HeapOK ρ (World.hf w) H ℓ → (∀ b, ¬ ownB ρ H b → World.hf w b ≠ none → World.hf w' b = World.hf w b ∧ ¬ ownB (upd ρ id p) ((id, B) :: hdel l H) b) →
      ∃ L, RBlk (upd ρ id p) (World.hf w') (ownB (upd ρ id p) ((id, B) :: hdel l H)) id B L ∧ L.Nodup ∧ ∀ b ∈ L, (∃ e ∈ H, e.1 ∈ l ∧ b ∈ ℓ e.1) ∨ w.heap.size ≤ b) :
    SIM Γ n (upd ρ id p) w' a fr ((id, B) :: hdel l H) ∧ Grew ρ (upd ρ id p) w w' H ((id, B) :: hdel l H) := by
  refine ⟨s.replace0 l hid hK hBi hos htape hout hsize hblk hp hnew, hos, htape, hout, hsize, fun b hb h => hblk b hb (fun e he hel k => h e he (fun e' he' => ?_) k), fun e' he' b k hb => ?_⟩
  · rcases List.mem_cons.1 he' with rfl | he'
    · exact fun h => freshB_H hid ((show id = _ from h) ▸ hids_head he)
    · exact fun h => (mem_hdel.1 he').2 (h ▸ hel)
  · rcases List.mem_cons.1 he' with rfl | he'
    · rw [upd_same] at hb
      rcases hp b k hb with ⟨e, he, hel, k', h⟩ | h
      · refine .inr (.inl ⟨e, he, fun e' he' => ?_, k', h⟩)
        rcases List.mem_cons.1 he' with rfl | he'
        · exact fun h => freshB_H hid ((show id = _ from h) ▸ hids_head he)
        · exact fun h => (mem_hdel.1 he').2 (h ▸ hel)
      · exact .inr (.inr h)
    · have h2 := (mem_hdel.1 he').1
      have hne : e'.1 ≠ id := fun h => freshB_H hid (h ▸ hids_head h2)
      rw [upd_other _ _ hne] at hb
      exact .inl ⟨e', h2, rfl, hb⟩
theorem hdel_nil : ∀ (H : Hp), hdel [] H = H
  | [] => rfl
  | (i, B) :: H => by simp [hdel, memB, hdel_nil H]

/-! ### Zero values -/
def zc : Ty → List Value
  | .bool => [.bool false]
  | .int k => [.int k 0]
  | .str => [.string .empty]
  | .slice _ => [.slice none 0 0]
  | .unit => []
  | .pair a b => zc a ++ zc b
  | .arr n t => (List.replicate n (zc t)).flatten
theorem relL_rep {α : Type} {R : α → List Value → List Nat → Prop} {x : α} {c : List Value} (h : R x c []) : ∀ (m : Nat), RelL R (List.replicate m x) (List.replicate m c).flatten []
  | 0 => ⟨rfl, rfl⟩
  | m + 1 => ⟨c, _, [], [], rfl, rfl, h, relL_rep h m⟩
theorem zc_ok (h : Hf) : ∀ (t : Ty), Rc h t t.dflt (zc t) []
  | .bool => ⟨rfl, rfl⟩
  | .int _ => ⟨rfl, rfl⟩
  | .str => ⟨rfl, rfl⟩
  | .slice _ => ⟨Nat.zero_le _, .inl ⟨rfl, rfl, _, _, rfl⟩⟩
  | .unit => ⟨rfl, rfl⟩
  | .pair a b => ⟨_, _, [], [], rfl, rfl, zc_ok h a, zc_ok h b⟩
  | .arr n t => ⟨by simp [Ty.dflt], relL_rep (zc_ok h t) n⟩

theorem rep_mod (zs : Array Value) (m : Nat) : ((Array.range (m * zs.size)).map fun i => zs[i % zs.size]!).toList = (List.replicate m zs.toList).flatten := by
  induction m with
  | zero => simp
  | succ m ih =>
    rw [List.replicate_succ', List.flatten_append, ← ih, Nat.succ_mul]
    simp only [Array.toList_map, Array.toList_range, List.flatten_cons, List.flatten_nil, List.append_nil]
    rw [List.range_add, List.map_append]
    congr 1
    rw [List.map_map]
    apply List.ext_getElem
    · simp
    · intro i h1 h2
      simp at h1
      simp only [List.getElem_map, List.getElem_range, Function.comp]
      have : (m * zs.size + i) % zs.size = i := by rw [Nat.mul_comm, Nat.mul_add_mod, Nat.mod_eq_of_lt h1]
      rw [this, getElem!_pos zs i h1]
      simp

section
variable {P : Program} {n : Sz} {fr : Fr} {H : Hp} {dst : Option Nat} {ty : TypeId} {pos : String} {aft : Array Edge} {g : Option (Nat × Bool)}

theorem e_makeSlice {T E : TypeId} {x y : Operand} {i : TypeInfo} {z : Value} {t : Ty} {k k' : IntKind} {m : Int} (id : Nat) (ht : P.underlying T = some (.slice E)) (hi : P.info? E = some i) (hz : i.zero = some z) (hzs : z.cells.toList = zc t) (hsz : i.size = t.sz)
    (hby : Nat.ble i.bytes 1000 = true) (hx : evO fr x = some (.int k m)) (hy : evO fr y = some (.int k' m)) (h0 : 0 ≤ m) (h1 : m ≤ 1000000000) (hid : freshB id fr H = true) (hK : Nat.ble n.K id = true) :
    Eff P n ⟨dst, .makeSlice T x y, ty, pos, aft, g⟩ fr H (.os id) fr ((id, .row t (List.replicate m.toNat t.dflt)) :: H) := fun Γ ρ w a s => by
  have hx' := s.ev hx
  have hy' := s.ev hy
  simp only [RA] at hx' hy'
  have hby' : i.bytes ≤ 1000 := Nat.le_of_ble_eq_true hby
  have hzc : z.cells.size = t.sz := by
    rw [← Array.length_toList, hzs]
    exact Rc.len t (zc_ok (fun _ => none) t)
  have hbm : (i.bytes : Int) * m ≤ 281474976710656 := by
    have : (i.bytes : Int) * m ≤ 1000 * 1000000000 := Int.mul_le_mul (by omega) h1 h0 (by omega)
    omega
  have hrun := run_make (P := P) w T E i z ht hi hz k k' m m h0 (Int.le_refl _) hbm (by omega)
  have hcells : (madeCells z.cells (m.toNat * i.size)).toList = (List.replicate m.toNat (zc t)).flatten := by
    unfold madeCells
    rw [hsz, ← hzc, rep_mod, hzs]
  have hsize : (madeCells z.cells (m.toNat * i.size)).size = m.toNat * t.sz := by rw [size_madeCells, hsz]
  refine ⟨.slice (some ⟨w.heap.size, 0, none⟩) m.toNat m.toNat, w.alloc (.cells (madeCells z.cells (m.toNat * i.size)) E), upd ρ id (some (w.heap.size, m.toNat, m.toNat)), ?_, ?_, .inr ⟨_, _, _, upd_same _ _ _, rfl⟩⟩
  · simp only [execOp, hx', hy', Sem.run_bind, hrun, Result.andThen_ok, Sem.run_pure]
  · have := s.replace [] (id := id) (B := .row t (List.replicate m.toNat t.dflt)) (p := some (w.heap.size, m.toNat, m.toNat)) (w' := w.alloc (.cells (madeCells z.cells (m.toNat * i.size)) E)) hid hK rfl rfl rfl rfl (by simp) (fun b hb _ => heap_alloc_lt w _ b hb)
      (fun b k h => .inr (by simp at h; omega)) (fun ℓ hk hM => ?_)
    · rwa [hdel_nil] at this
    · exact ⟨[w.heap.size], ⟨by simp [lim]; omega, .inr ⟨w.heap.size, m.toNat, _, E, [], (List.replicate m.toNat (zc t)).flatten, [], by simp [upd_same], hf_alloc_new, by rw [hcells]; simp, relL_rep (zc_ok _ t) _, rfl, by simp, hsize⟩⟩, by simp, fun b hb => .inr (by simp at hb; omega)⟩

/-- a nil slice as a row of the call's own -/
theorem sub_nil {T : Nat} {t : Ty} (id : Nat) (hg : get fr T = some .nilsl) (hid : freshB id fr H = true) (hK : Nat.ble n.K id = true) : Sub n fr H ((T, .os id) :: fr) ((id, .row t ([] : List t.D)) :: H) := fun Γ ρ w a s => by
  have h1 := s.fr T _ hg
  have := s.replace0 [] (id := id) (B := .row t ([] : List t.D)) (p := none) (w' := w) hid hK rfl rfl rfl rfl (Nat.le_refl _) (fun b hb _ => rfl) (fun b k h => by cases h) (fun ℓ hk hM => ⟨[], ⟨Nat.zero_le _, .inl ⟨upd_same _ _ _, rfl, rfl⟩⟩, by simp, by simp⟩)
  rw [hdel_nil] at this
  refine ⟨_, this.defers, this.size, this.ext, this.keep, this.own, this.heap, fun t' x hx => ?_⟩
  simp only [get] at hx
  cases e : Nat.beq T t' with
  | true =>
    have := Nat.eq_of_beq_eq_true e
    subst this
    rw [e] at hx
    simp only [cond_true, Option.some.injEq] at hx
    subst hx
    refine ⟨h1.1, .inl ⟨upd_same _ _ _, ?_⟩⟩
    have h2 := h1.2
    simpa only [RA] using h2
  | false => rw [e] at hx; exact this.fr t' x hx
/-- the same for a nil that is known otherwise -/
theorem ra_os_nil {ρ : Rho} {h : Hf} {M : Nat → Prop} {id : Nat} (hρ : ρ id = none) : RA ρ h M (.os id) (.slice none 0 0) := .inl ⟨hρ, rfl⟩

/-! ### append -/
theorem setRow_facts (w : World) (b : Nat) (c : Array Value) : (w.setRow b c).os = w.os ∧ (w.setRow b c).tape = w.tape ∧ (w.setRow b c).output = w.output ∧ (w.setRow b c).heap.size = w.heap.size := ⟨rfl, rfl, rfl, by simp [World.setRow]⟩

/-- what append does with cells that are known -/
theorem run_append {T E : TypeId} {i : TypeInfo} {z : Value} (ht : P.underlying T = some (.slice E)) (hi : P.info? E = some i) (hz : i.zero = some z) (hzs : z.cells.size = i.size) (hby : i.bytes ≤ 1000) {x : Value} {m : Nat} {news : List Value} {w : World}
    (hx : ∃ a c, x = .slice a m c) (hnews : ∀ w' : World, w'.heap = w.heap → (Builtin.firstCells i.size m x).run P w' = .ok news.toArray w') (hl : news.length = m * i.size) (h1 : ∀ u ∈ news, u.oneCell' = true) {len cap : Nat} (hroom : len + m ≤ 1000000000) (hlc : len ≤ cap)
    {old post : List Value} {b : Nat} {a0 : Option Addr} (ho : old.length = len * i.size) (hb : (a0 = none ∧ len = 0 ∧ cap = 0 ∧ old = []) ∨ ∃ c T', a0 = some ⟨b, 0, none⟩ ∧ w.heap[b]? = some (.cells c T' (0, 0)) ∧ c.toList = old ++ post ∧ c.size = cap * i.size) :
    ((len + m ≤ cap ∧ ((a0 = none ∧ (Builtin.append_ #[T, T] ty #[.slice a0 len cap, x]).run P w = .ok (.slice none 0 0) w) ∨
        (∃ c, a0 = some ⟨b, 0, none⟩ ∧ c.toList = old ++ news ++ post.drop news.length ∧ c.size = cap * i.size ∧ (Builtin.append_ #[T, T] ty #[.slice a0 len cap, x]).run P w = .ok (.slice a0 (len + m) cap) (w.setRow b c)))) ∨
     ∃ nc c, len + m ≤ nc ∧ c.size = nc * i.size ∧ (∃ q, c.toList = old ++ news ++ q) ∧ (Builtin.append_ #[T, T] ty #[.slice a0 len cap, x]).run P w = .ok (.slice (some ⟨w.heap.size, 0, none⟩) (len + m) nc) (w.drew.alloc (.cells c E))) := by
  obtain ⟨ax, cx, rfl⟩ := hx
  by_cases hroom' : len + m ≤ cap
  · refine .inl ⟨hroom', ?_⟩
    rcases hb with ⟨rfl, rfl, rfl, rfl⟩ | ⟨c, T', rfl, hbb, hc, hcs⟩
    · have hm : m = 0 := by omega
      subst hm
      refine .inl ⟨rfl, ?_⟩
      simp [Builtin.append_, run_underlying ht, sizeOf, typeInfo, hi, Builtin.lenOf, hnews w rfl]
    · have hcl : c.size = old.length + post.length := by rw [← Array.length_toList, hc]; simp
      have hfit : len * i.size + news.length ≤ c.size := by rw [hl, hcs, ← Nat.add_mul]; exact Nat.mul_le_mul_right _ hroom'
      have hst := run_storeCells_at P b (len * i.size) T' news 0 c w hbb (by simpa using hfit) h1
      simp only [Nat.add_zero] at hst
      have e1 : c.toList.take (len * i.size) = old := by rw [hc, ← ho]; simp
      have e2 : c.toList.drop (len * i.size + news.length) = post.drop news.length := by rw [hc, ← ho, List.drop_length_add_append]
      rw [e1, e2] at hst
      refine .inr ⟨(old ++ news ++ post.drop news.length).toArray, rfl, by simp, ?_, ?_⟩
      · simp only [List.size_toArray, List.length_append, List.length_drop]; omega
      · simp [Builtin.append_, run_underlying ht, sizeOf, typeInfo, hi, Builtin.lenOf, hroom', hnews w rfl, Addr.add_lit, hst]
  · refine .inr ⟨grownCap w (len + m) cap E, old.toArray ++ news.toArray ++ Builtin.zeroCells z.cells (grownCap w (len + m) cap E - (len + m)), grownCap_ge _ _ _ _, ?_, ⟨(Builtin.zeroCells z.cells (grownCap w (len + m) cap E - (len + m))).toList, by simp⟩, ?_⟩
    · have hge := grownCap_ge w (len + m) cap E
      simp only [Array.size_append, List.size_toArray, size_zeroCells, hzs, ho, hl, ← Nat.add_mul]
      congr 1; omega
    · have hn1 : ¬ ((len + m : Nat) : Int) > IntKind.i64.max := by
        have : IntKind.i64.max = 9223372036854775807 := by decide
        rw [this]; omega
      have hcapb : Builtin.nextslicecap (len + m) cap * i.bytes ≤ 281474976710656 := by
        have h2 := nextslicecap_le (need := len + m) (old := cap) (by omega)
        have : Builtin.nextslicecap (len + m) cap * i.bytes ≤ (2 * 1000000000) * 1000 := Nat.mul_le_mul (by omega) hby
        omega
      have hcapb' : ¬ 2 ^ 48 < Builtin.nextslicecap (len + m) cap * i.bytes := by omega
      have hold : (Builtin.firstCells i.size len (.slice a0 len cap)).run P w.drew = .ok old.toArray w.drew := by
        rcases hb with ⟨rfl, rfl, rfl, rfl⟩ | ⟨c, T', rfl, hbb, hc, hcs⟩
        · simp [Builtin.firstCells]
        · exact run_firstCells_some w.drew i.size len ⟨b, 0, none⟩ len cap old ho (fun j v hv => by
            rw [addr_add]
            have hj := (List.getElem?_eq_some_iff.1 hv).1
            have := cell_at (w := w) (pre := []) (mid := old) (post := post) hbb (by simpa using hc) j hj
            simpa using this.trans hv)
      have hnews' := hnews w.drew rfl
      have h63' : ¬ (9223372036854775807 < ((len : Int) + (m : Int))) := by omega
      have h48' : ¬ (281474976710656 < Builtin.nextslicecap (len + m) cap * i.bytes) := by omega
      simp [Builtin.append_, run_underlying ht, sizeOf, typeInfo, zeroValue, hi, hz, Builtin.lenOf, hroom', h63', h48', Question.forced, hnews', hold, newRow, grownCap]
      congr 2
      apply Array.ext'
      simp [List.append_assoc]

/-- what is appended: data whose cells are known; 'G': the blocks behind it -/
def Src (P : Program) (H : Hp) (t : Ty) (X : AV) (ys : List t.D) : Prop :=
  ∀ (ρ : Rho) (w : World) (ℓ : Nat → List Nat) (v : Value), HeapOK ρ (World.hf w) H ℓ → RA ρ (World.hf w) (ownB ρ H) X v →
    ∃ news F, (∃ a c, v = .slice a ys.length c) ∧ news.length = ys.length * t.sz ∧ RelL (Rc (World.hf w) t) ys news F ∧ (∀ u ∈ news, u.oneCell' = true) ∧
      (∀ w' : World, w'.heap = w.heap → (Builtin.firstCells t.sz ys.length v).run P w' = .ok news.toArray w')
theorem firstCells_row {t : Ty} {w w' : World} {b off len cap : Nat} {c : Array Value} {T : TypeId} {z : Nat × Nat} {p mid q : List Value} (hw : w'.heap = w.heap) (hb : w.heap[b]? = some (.cells c T z)) (hc : c.toList = p ++ (mid ++ q)) (hp : p.length = off) (hl : mid.length = len * t.sz) :
    (Builtin.firstCells t.sz len (.slice (some ⟨b, off, none⟩) len cap)).run P w' = .ok mid.toArray w' :=
  run_firstCells_some w' t.sz len ⟨b, off, none⟩ len cap mid hl (fun j v hv => by
    have hj := (List.getElem?_eq_some_iff.1 hv).1
    have := cell_at (w := w') (by rw [hw]; exact hb) hc j hj
    rw [addr_add, ← hp]; exact this.trans hv)
theorem src_v {t : Ty} {ys : List t.D} : Src P H t (.v (.slice t) ys) ys := fun ρ w ℓ v hk hx => by
  obtain ⟨F, ⟨cs, ⟨hl, hc⟩, hv⟩, hF⟩ := hx
  rcases hc with ⟨e0, _, a', cap, e⟩ | ⟨b, off, ex, F', e, eF, c, T', z, p, m, q, hb, hcl, hp, hm⟩
  · subst e; subst hv; subst e0
    refine ⟨[], [], ⟨a', cap, rfl⟩, by simp, ⟨rfl, rfl⟩, by simp, fun w' _ => ?_⟩
    cases a' with
    | none => simp [mkV, Ty.agg, Builtin.firstCells]
    | some ad => simp [mkV, Ty.agg, Builtin.firstCells, loadCells, loadCellsFrom]
  · subst e; subst hv
    have hlen := RelL.len (fun x c F h => Rc.len t h) hm
    exact ⟨m, F', ⟨_, _, rfl⟩, hlen, hm, RelL.all (fun x c F h => Rc.one t h) hm, fun w' hw => firstCells_row hw hb hcl hp hlen⟩
theorem src_os {t : Ty} {id : Nat} {ys : List t.D} (hg : hget H id = some (.row t ys)) : Src P H t (.os id) ys := fun ρ w ℓ v hk hx => by
  obtain ⟨hl, ⟨h3, h4, _⟩ | ⟨b, cap, c, T', F, mid, post, h3, h4, h5, h6, h7, h8, h9⟩⟩ := hk.get hg
  · rcases hx with ⟨_, e⟩ | ⟨b', cap', len, hx', e⟩
    · subst e; subst h4
      exact ⟨[], [], ⟨none, 0, rfl⟩, by simp, ⟨rfl, rfl⟩, by simp, fun w' _ => by simp [Builtin.firstCells]⟩
    · rw [h3] at hx'; cases hx'
  · rcases hx with ⟨hx', _⟩ | ⟨b', cap', len, hx', e⟩
    · rw [h3] at hx'; cases hx'
    · rw [h3] at hx'
      obtain ⟨rfl, rfl, rfl⟩ : b = b' ∧ cap = cap' ∧ List.length (α := t.D) ys = len := by simpa using hx'
      subst e
      have hlen := RelL.len (fun x c F h => Rc.len t h) h6
      exact ⟨mid, F, ⟨_, _, rfl⟩, hlen, h6, RelL.all (fun x c F h => Rc.one t h) h6, fun w' hw => firstCells_row (p := []) hw h4 (by simpa using h5) rfl hlen⟩
theorem src_nil {t : Ty} : Src P H t .nilsl ([] : List t.D) := fun ρ w ℓ v hk hx => by
  simp only [RA] at hx
  subst hx
  exact ⟨[], [], ⟨none, 0, rfl⟩, by simp, ⟨rfl, rfl⟩, by simp, fun w' _ => by simp [Builtin.firstCells]⟩
theorem src_view {t : Ty} {id off l len : Nat} {xs : List t.D} (he : elemsAt H id off = some ⟨t, xs⟩) (hl : l + len ≤ xs.length) : Src P H t (.view id off t.sz l len) ((xs.drop l).take len) := fun ρ w ℓ v hk hx => by
  have hlen : ((xs.drop l).take len).length = len := by simp; omega
  rcases hx with ⟨h0, a, cap, e⟩ | ⟨b, k, ex, hρ, e⟩
  · subst e; subst h0
    refine ⟨[], [], ⟨a, cap, by rw [hlen]⟩, by simp, by simp [RelL], by simp, fun w' _ => ?_⟩
    rw [hlen]
    cases a with
    | none => simp [Builtin.firstCells]
    | some ad => simp [Builtin.firstCells, loadCells, loadCellsFrom]
  · subst e
    obtain ⟨c, T, p, mid, q, F, hb, hc, hp, hR, hF⟩ := elemsAt_ok hk he hρ
    have e1 : xs = xs.take l ++ ((xs.drop l).take len ++ (xs.drop l).drop len) := by rw [List.take_append_drop, List.take_append_drop]
    rw [e1] at hR
    obtain ⟨c1, c2, F1, F2, g1, g2, g3, g4⟩ := RelL.split hR
    obtain ⟨d1, d2, G1, G2, k1, k2, k3, k4⟩ := RelL.split g4
    have l1 : c1.length = l * t.sz := by rw [RelL.len (fun x c F h => Rc.len t h) g3, List.length_take, Nat.min_eq_left (by omega)]
    have hdl := RelL.len (fun x c F h => Rc.len t h) k3
    refine ⟨d1, G1, ⟨_, _, by rw [hlen]⟩, hdl, k3, RelL.all (fun x c F h => Rc.one t h) k3, fun w' hw => ?_⟩
    rw [hlen]
    exact firstCells_row (p := p ++ c1) (q := d2 ++ q) hw hb (by rw [hc, g1, k1]; simp) (by rw [List.length_append, hp, l1]) (by rw [hdl, hlen])

/-- append onto an own row: of plain elements, from any source -/
theorem e_append {T E : TypeId} {x y : Operand} {i : TypeInfo} {z : Value} {t : Ty} {id : Nat} {X : AV} {xs ys : List t.D} (id' : Nat) (hf : t.flat = true) (ht : P.underlying T = some (.slice E)) (hi : P.info? E = some i) (hz : i.zero = some z) (hzs : z.cells.size = i.size) (hsz : i.size = t.sz)
    (hby : Nat.ble i.bytes 1000 = true) (hx : evO fr x = some (.os id)) (hg : hget H id = some (.row t xs)) (hy : evO fr y = some X) (hs : Src P H t X ys) (hroom : xs.length + ys.length ≤ 1000000000) (hid : freshB id' fr H = true) (hK : Nat.ble n.K id' = true) :
    Eff P n ⟨dst, .call ⟨.builtin .append, #[x, y], #[T, T]⟩, ty, pos, aft, g⟩ fr H (.os id') fr ((id', .row t (xs ++ ys)) :: hdel [id] H) := fun Γ ρ w a s => by
  obtain ⟨ℓ, hk, _⟩ := s.heap
  obtain ⟨news, F, hv, hnl, hnr, hn1, hfc⟩ := hs ρ w ℓ _ hk (s.ev hy)
  have hF : F = [] := RelL.flat (fun x c F h => Rc.flat t hf h) hnr
  subst hF
  have hby' : i.bytes ≤ 1000 := Nat.le_of_ble_eq_true hby
  have hexec : ∀ r w', (Builtin.append_ #[T, T] ty #[a.eval x, a.eval y]).run P w = .ok r w' → (execOp a.eval ⟨dst, .call ⟨.builtin .append, #[x, y], #[T, T]⟩, ty, pos, aft, g⟩).run P w = .ok (.value r) w' := by
    intro r w' h
    simp [execOp, resolve, invoke, Go.builtin, Sem.run_bind, h]
  have hlim : (xs ++ ys).length ≤ lim := by rw [List.length_append]; simp only [lim]; omega
  have hmid : ∀ {h' : Hf} {old : List Value}, RelL (Rc (World.hf w) t) xs old [] → RelL (Rc h' t) (xs ++ ys) (old ++ news) [] := fun ho =>
    RelL.append (F := []) (G := []) (RelL.mono (fun x c F' hF hc => by have := Rc.flat t hf hc; subst this; exact hc.same t (by simp)) ho) (RelL.mono (fun x c F' hF hc => by have := Rc.flat t hf hc; subst this; exact hc.same t (by simp)) hnr)
  obtain ⟨hl, hor⟩ := hk.get hg
  -- the row's cells
  have hrow : ∃ a0 len cap old post b, a.eval x = .slice a0 len cap ∧ len = xs.length ∧ len ≤ cap ∧ RelL (Rc (World.hf w) t) xs old [] ∧ old.length = len * i.size ∧
      ((a0 = none ∧ len = 0 ∧ cap = 0 ∧ old = []) ∨ ∃ c T', a0 = some ⟨b, 0, none⟩ ∧ w.heap[b]? = some (.cells c T' (0, 0)) ∧ c.toList = old ++ post ∧ c.size = cap * i.size ∧ ρ id = some (b, cap, len)) := by
    rcases hor with ⟨h3, h4, _⟩ | ⟨b, cap, c, T', F, mid, post, h3, h4, h5, h6, h7, h8, h9⟩
    · rcases s.ev hx with ⟨_, e⟩ | ⟨b', cap', len, hx', e⟩
      · subst h4
        exact ⟨none, 0, 0, [], [], 0, e, rfl, Nat.le_refl _, ⟨rfl, rfl⟩, by simp, .inl ⟨rfl, rfl, rfl, rfl⟩⟩
      · rw [h3] at hx'; cases hx'
    · rcases s.ev hx with ⟨hx', _⟩ | ⟨b', cap', len, hx', e⟩
      · rw [h3] at hx'; cases hx'
      · rw [h3] at hx'
        obtain ⟨rfl, rfl, rfl⟩ : b = b' ∧ cap = cap' ∧ List.length (α := t.D) xs = len := by simpa using hx'
        have hF : F = [] := RelL.flat (fun x c F h => Rc.flat t hf h) h6
        subst hF
        exact ⟨_, _, cap, mid, post, b, e, rfl, h8, h6, by rw [hsz]; exact RelL.len (fun x c F h => Rc.len t h) h6, .inr ⟨c, T', rfl, h4, h5, by rw [hsz]; exact h9, h3⟩⟩
  obtain ⟨a0, len, cap, old, post, b, hvx, hlen, hlc, hold, hol, hb⟩ := hrow
  have happ := run_append (P := P) (ty := ty) (T := T) (E := E) (i := i) (z := z) (x := a.eval y) (m := ys.length) (news := news) (w := w) ht hi hz hzs hby' hv (by rw [hsz]; exact hfc) (by rw [hsz]; exact hnl) hn1 (len := len) (cap := cap) (by rw [hlen]; exact hroom) hlc (old := old) (post := post) (b := b) (a0 := a0) hol
    (by rcases hb with h | ⟨c, T', h1, h2, h3, h4, _⟩
        · exact .inl h
        · exact .inr ⟨c, T', h1, h2, h3, h4⟩)
  rw [← hvx] at happ
  have hnewlen : len + ys.length = (xs ++ ys).length := by rw [List.length_append, hlen]
  rcases happ with ⟨hfit, ⟨rfl, hrun⟩ | ⟨c', rfl, hc', hcs', hrun⟩⟩ | ⟨nc, c', hle, hcs', ⟨q, hq⟩, hrun⟩
  · -- nil and nothing
    rcases hb with ⟨_, rfl, rfl, rfl⟩ | ⟨c, T', h1, _⟩
    · have hnil : xs ++ ys = [] := List.eq_nil_of_length_eq_zero (by omega)
      refine ⟨_, _, upd ρ id' none, hexec _ _ hrun, s.replace [id] (p := none) hid hK rfl rfl rfl rfl (Nat.le_refl _) (fun b hb _ => rfl) (fun b k h => by cases h) (fun ℓ' hk' hM => ⟨[], ⟨hlim, .inl ⟨upd_same _ _ _, hnil, rfl⟩⟩, by simp, by simp⟩), .inl ⟨upd_same _ _ _, rfl⟩⟩
    · cases h1
  · -- in place
    rcases hb with ⟨h1, _⟩ | ⟨c, T', h1, h2, h3, h4, h5⟩
    · cases h1
    · obtain ⟨f1, f2, f3, f4⟩ := setRow_facts w b c'
      have hmemid := hget_mem hg
      refine ⟨_, _, upd ρ id' (some (b, cap, (xs ++ ys).length)), hexec _ _ hrun, s.replace [id] (p := some (b, cap, (xs ++ ys).length)) hid hK rfl f1 f2 f3 (by rw [f4]; exact Nat.le_refl _) (fun k hk' hne => setRow_other w b k c' (fun e => by subst e; exact hne _ hmemid (by simp) _ h5)) (fun b' k h => by
          simp only [Option.some.injEq, Prod.mk.injEq] at h
          exact .inl ⟨_, hmemid, by simp, _, by rw [← h.1]; exact h5⟩) (fun ℓ' hk' hM => ?_), .inr ⟨b, cap, _, upd_same _ _ _, by rw [hnewlen]⟩⟩
      refine ⟨[b], ⟨hlim, .inr ⟨b, cap, c', T', [], old ++ news, post.drop news.length, upd_same _ _ _, setRow_heap w b c c' T' (0, 0) h2, hc', hmid hold, rfl, by rw [← hnewlen]; exact hfit, by rw [← hsz]; exact hcs'⟩⟩, by simp, fun x hx' => ?_⟩
      simp only [List.mem_singleton] at hx'
      subst hx'
      exact .inl ⟨_, hmemid, by simp, own_head hk' hmemid h5⟩
  · -- a new array
    refine ⟨_, _, upd ρ id' (some (w.heap.size, nc, (xs ++ ys).length)), hexec _ _ hrun, s.replace [id] (p := some (w.heap.size, nc, (xs ++ ys).length)) (w' := w.drew.alloc (.cells c' E)) hid hK rfl rfl rfl rfl (by simp) (fun k hk' _ => heap_alloc_lt w.drew _ k hk') (fun b' k h => by
        simp only [Option.some.injEq, Prod.mk.injEq] at h
        exact .inr (by omega)) (fun ℓ' hk' hM => ?_), .inr ⟨_, nc, _, upd_same _ _ _, by rw [hnewlen]⟩⟩
    refine ⟨[w.heap.size], ⟨hlim, .inr ⟨w.heap.size, nc, c', E, [], old ++ news, q, upd_same _ _ _, hf_alloc_new (w := w.drew), hq, hmid hold, rfl, by rw [← hnewlen]; exact hle, by rw [← hsz]; exact hcs'⟩⟩, by simp, fun x hx' => .inr (by simp at hx'; omega)⟩
end
end Go.GA
