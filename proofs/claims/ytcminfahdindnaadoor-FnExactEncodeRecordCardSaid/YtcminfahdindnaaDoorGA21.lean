/- A slice of the call's own that is cut short; a part of it set to zero. -/
import Derived.Test.YtcminfahdindnaaDoorGA20
namespace Go.GA
open Go Go.RowKit
section
variable {P : Program} {n : Sz} {fr : Fr} {H : Hp} {dst : Option Nat} {ty : TypeId} {pos : String} {aft : Array Edge} {g : Option (Nat × Bool)}
theorem RelL.take {α : Type} {R : α → List Value → List Nat → Prop} {s : Nat} (hs : ∀ x c F, R x c F → c.length = s) (hf : ∀ x c F, R x c F → F = []) {xs : List α} {cs F} (h : RelL R xs cs F) (u : Nat) (hu : u ≤ xs.length) : ∃ c1 c2, cs = c1 ++ c2 ∧ c1.length = u * s ∧ RelL R (xs.take u) c1 [] := by
  have h' : RelL R (xs.take u ++ xs.drop u) cs F := by rw [List.take_append_drop]; exact h
  obtain ⟨c1, c2, F1, F2, e, _, h1, _⟩ := h'.split
  have hF := RelL.flat hf h1
  subst hF
  refine ⟨c1, c2, e, ?_, h1⟩
  rw [RelL.len hs h1, List.length_take, Nat.min_eq_left hu]
theorem e_shrink {T E : TypeId} {x : Operand} {id : Nat} {t : Ty} {xs : List t.D} {hi : Option Operand} {u : Int} (id' : Nat) (hf : t.flat = true) (hu : P.underlying T = some (.slice E)) (hs : ∀ w, (sizeOf E).run P w = .ok t.sz w) (hx : evO fr x = some (.os id)) (hg : hget H id = some (.row t xs))
    (hhi : Hi fr (xs.length : Int) hi u) (h1 : 0 ≤ u) (h2 : u ≤ (xs.length : Int)) (hid : freshB id' fr H = true) (hK : Nat.ble n.K id' = true) :
    Eff P n ⟨dst, .slice T x none hi none, ty, pos, aft, g⟩ fr H (.os id') fr ((id', .row t (xs.take u.toNat)) :: hdel [id] H) := fun Γ ρ w a s => by
  obtain ⟨ℓ, hL, _⟩ := s.heap
  have hb := fun (len cap : Nat) (hlen : len = xs.length) (hcap : len ≤ cap) (w' : World) => run_bounds (P := P) (isSlice := true) (len := len) (cap := cap) (l := 0) (m := u) (fun o y h => s.ev h) (Lo.none (fr := fr)) (by subst hlen; exact hhi) (Int.le_refl 0) h1 (by omega) hcap w'
  have hlt : (xs.take u.toNat).length = u.toNat := by rw [List.length_take]; omega
  have hmem := hget_mem hg
  obtain ⟨hl, ⟨h3, h4, _⟩ | ⟨b, cap, c, T', F, mid, post, h3, h4, h5, h6, h7, h8, h9⟩⟩ := hL.get hg
  · rcases s.ev hx with ⟨_, e⟩ | ⟨b', cap', len, hx', e⟩
    · subst h4
      have hu0 : u = 0 := by have : u ≤ 0 := h2; omega
      subst hu0
      refine ⟨.slice none 0 0, w, upd ρ id' none, ?_, s.replace [id] (p := none) hid hK rfl rfl rfl rfl (Nat.le_refl _) (fun b hb _ => rfl) (fun b k h => by cases h) (fun ℓ' hk' hM => ⟨[], ⟨Nat.zero_le _, .inl ⟨upd_same _ _ _, rfl, rfl⟩⟩, by simp, by simp⟩), .inl ⟨upd_same _ _ _, rfl⟩⟩
      have hb' : (Instr.sliceBounds true 0 0 none (Option.map a.eval hi) none).run P w = .ok (0, 0, 0) w := hb 0 0 rfl (Nat.le_refl _) w
      simp only [execOp, Instr.sliceAt, Instr.slice, Sem.run_bind, run_underlying hu, Result.andThen_ok, e, Option.map_none, hb', hs, Sem.run_pure]
      simp
    · rw [h3] at hx'; cases hx'
  · rcases s.ev hx with ⟨hx', _⟩ | ⟨b', cap', len, hx', e⟩
    · rw [h3] at hx'; cases hx'
    · rw [h3] at hx'
      obtain ⟨rfl, rfl, rfl⟩ : b = b' ∧ cap = cap' ∧ List.length (α := t.D) xs = len := by simpa using hx'
      have hF : F = [] := RelL.flat (fun x c F h => Rc.flat t hf h) h6
      subst hF
      obtain ⟨c1, c2, ec, hc1, hr1⟩ := RelL.take (fun x c F h => Rc.len t h) (fun x c F h => Rc.flat t hf h) h6 u.toNat (by omega)
      have hb' : (Instr.sliceBounds true (List.length (α := t.D) xs) cap none (Option.map a.eval hi) none).run P w = .ok (0, u.toNat, cap) w := hb _ cap rfl h8 w
      refine ⟨.slice (some ⟨b, 0, none⟩) u.toNat cap, w, upd ρ id' (some (b, cap, u.toNat)), ?_, s.replace [id] (p := some (b, cap, u.toNat)) hid hK rfl rfl rfl rfl (Nat.le_refl _) (fun b hb _ => rfl) (fun b' k h => by
        simp only [Option.some.injEq, Prod.mk.injEq] at h
        exact .inl ⟨_, hmem, by simp, _, by rw [← h.1]; exact h3⟩) (fun ℓ' hk' hM => ⟨[b], ⟨by rw [hlt]; omega, .inr ⟨b, cap, c, T', [], c1, c2 ++ post, by rw [upd_same, hlt], h4, by rw [h5, ec]; simp, hr1, rfl, by rw [hlt]; omega, h9⟩⟩, by simp, fun y hy => ?_⟩), .inr ⟨b, cap, _, upd_same _ _ _, rfl⟩⟩
      · simp only [execOp, Instr.sliceAt, Instr.slice, Sem.run_bind, run_underlying hu, Result.andThen_ok, e, Option.map_none, hb', hs, Sem.run_pure]
        by_cases hc0 : cap = 0
        · simp [hc0]
        · simp [hc0, addr_add]
      · simp only [List.mem_singleton] at hy
        subst hy
        exact .inl ⟨_, hmem, by simp, own_head hk' hmem h3⟩
end
end Go.GA
namespace Go.GA
open Go Go.RowKit
theorem hset_same : ∀ {H : Hp} {id : Nat} {B : Blk}, hget H id = some B → hset H id B = H
  | (i, A) :: H, id, B, h => by
    unfold hget at h
    unfold hset
    cases e : Nat.beq i id with
    | true => rw [e] at h; simp only [cond_true, Option.some.injEq] at h; subst h; rfl
    | false => rw [e] at h; simp only [cond_false] at h ⊢; rw [hset_same h]
section
variable {P : Program} {Γ : Ctx} {n : Sz} {Q : Exit → Act → World → Prop} {fr : Fr} {H : Hp} {all : Array Oper} {ops : List Oper} {ty : TypeId} {pos : String} {aft : Array Edge} {g : Option (Nat × Bool)}
/-- 'clear' of a part of a row -/
theorem ao_clear {T E : TypeId} {x : Operand} {id l len z' : Nat} {z : Value} {t : Ty} {xs : List t.D} (hg0 : gOK all fr g) (hu : P.underlying T = some (.slice E)) (hz : ∀ w, (zeroValue E).run P w = .ok z w) (hzs : z.cells.toList = zc t) (hf : t.flat = true) (hsz : t.sz = z') (hx : evO fr x = some (.view id 0 z' l len)) (hg : hget H id = some (.row t xs)) (hl : l + len ≤ xs.length)
    (h : AO P Γ n all Q ops fr (hset H id (.row t (xs.take l ++ (List.replicate len t.dflt ++ xs.drop (l + len)))))) : AO P Γ n all Q (⟨none, .call ⟨.builtin .clear, #[x], #[T]⟩, ty, pos, aft, g⟩ :: ops) fr H := fun ρ w a s => by
  subst hsz
  refine wpList_go (s.wanted hg0) fun K hK => ?_
  unfold Oper.wp
  have hexec : ∀ w', (Builtin.clear_ #[T] ty #[a.eval x]).run P w = .ok (.tuple #[]) w' → (execOp a.eval ⟨none, .call ⟨.builtin .clear, #[x], #[T]⟩, ty, pos, aft, g⟩).run P w = .ok (.value (.tuple #[])) w' := by
    intro w' h
    simp [execOp, resolve, invoke, Go.builtin, Sem.run_bind, h]
  have h0 : len = 0 → AO P Γ n all Q ops fr H := by
    intro e
    subst e
    rw [Nat.add_zero, List.replicate_zero, List.nil_append, List.take_append_drop, hset_same hg] at h
    exact h
  rcases s.ev hx with ⟨e0, a', cap, e⟩ | ⟨b, k, ex, hρ, e⟩
  · have hr : (Builtin.clear_ #[T] ty #[a.eval x]).run P w = .ok (.tuple #[]) w := by
      rw [e]; cases a' <;> simp [Builtin.clear_, Sem.run_bind, run_underlying hu]
    rw [hexec w hr]
    exact hK _ _ (h0 e0 ρ w a s)
  · by_cases hl0 : len = 0
    · have hr : (Builtin.clear_ #[T] ty #[a.eval x]).run P w = .ok (.tuple #[]) w := by
        rw [e, hl0]; simp [Builtin.clear_, Sem.run_bind, run_underlying hu]
      rw [hexec w hr]
      exact hK _ _ (h0 hl0 ρ w a s)
    · obtain ⟨ℓ, hL, _⟩ := s.heap
      have hzl : z.cells.size = t.sz := by
        rw [← Array.length_toList, hzs]; exact Rc.len t (zc_ok (fun _ => none) t)
      have hzeros : (Builtin.zeroCells z.cells len).toList = (List.replicate len (zc t)).flatten := by
        unfold Builtin.zeroCells
        rw [rep_mod, hzs]
      have hrep : ∀ h', RelL (Rc h' t) (List.replicate len t.dflt) (List.replicate len (zc t)).flatten [] := fun h' => relL_rep (zc_ok h' t) len
      have hzlen := RelL.len (fun x c F h => Rc.len t h) (hrep (World.hf w))
      rw [List.length_replicate] at hzlen
      obtain ⟨hlim, ⟨h3, h4, _⟩ | ⟨b', cap, c, T', F, mid, post, h3, h4, h5, h6, h7, h8, h9⟩⟩ := hL.get hg
      · rw [h3] at hρ; cases hρ
      · rw [h3] at hρ
        simp only [Option.some.injEq, Prod.mk.injEq] at hρ
        obtain ⟨rfl, rfl⟩ := hρ
        have hF : F = [] := RelL.flat (fun x c F h => Rc.flat t hf h) h6
        subst hF
        have h6' : RelL (Rc (World.hf w) t) (xs.take l ++ ((xs.drop l).take len ++ xs.drop (l + len))) mid [] := by
          rw [← List.drop_drop, List.take_append_drop, List.take_append_drop]; exact h6
        obtain ⟨m1, m2, F1, F2, em, eF, r1, r2⟩ := h6'.split
        obtain ⟨m3, m4, F3, F4, em2, eF2, r3, r4⟩ := r2.split
        have f1 := RelL.flat (fun x c F h => Rc.flat t hf h) r1
        have f3 := RelL.flat (fun x c F h => Rc.flat t hf h) r3
        have f4 := RelL.flat (fun x c F h => Rc.flat t hf h) r4
        subst f1; subst f3; subst f4
        have l1 := RelL.len (fun x c F h => Rc.len t h) r1
        have l3 := RelL.len (fun x c F h => Rc.len t h) r3
        rw [List.length_take, Nat.min_eq_left (by omega)] at l1
        rw [List.length_take, List.length_drop, Nat.min_eq_left (by omega)] at l3
        have hct : c.toList = m1 ++ (m3 ++ (m4 ++ post)) := by rw [h5, em, em2]; simp
        have hcs : c.size = m1.length + (m3.length + (m4.length + post.length)) := by rw [← Array.length_toList, hct]; simp
        have hst := run_storeCells_at P b' (0 + l * t.sz) T' (List.replicate len (zc t)).flatten 0 c w h4 (by rw [hzlen]; omega) (fun u hu => RelL.all (p := fun v => v.oneCell' = true) (fun x c F h => Rc.one t h) (hrep (World.hf w)) u hu)
        have hnew : c.toList.take (0 + l * t.sz + 0) ++ (List.replicate len (zc t)).flatten ++ c.toList.drop (0 + l * t.sz + 0 + (List.replicate len (zc t)).flatten.length) = (m1 ++ ((List.replicate len (zc t)).flatten ++ m4)) ++ post := by
          rw [hct, hzlen]
          have e1 : 0 + l * t.sz + 0 = m1.length := by omega
          have e2 : 0 + l * t.sz + 0 + len * t.sz = m1.length + m3.length := by omega
          rw [e2, e1, List.take_left, List.drop_length_add_append, List.drop_left]
          simp
        have hr : (Builtin.clear_ #[T] ty #[a.eval x]).run P w = .ok (.tuple #[]) (w.setRow b' ((m1 ++ ((List.replicate len (zc t)).flatten ++ m4)) ++ post).toArray) := by
          obtain ⟨len', rfl⟩ : ∃ k, len = k + 1 := ⟨len - 1, by omega⟩
          rw [e]
          rw [hnew] at hst
          simp only [Builtin.clear_, Sem.run_bind, run_underlying hu, Result.andThen_ok, hz]
          simp [run_underlying hu, hz, Sem.run_bind, hzeros] at hst ⊢
          simp [hst]
        rw [hexec _ hr]
        refine hK _ _ (h ρ _ a (s.write hg h3 h4 (fun ℓ' h' hk' hb' hne hM => ?_)))
        refine ⟨[b'], ⟨?_, .inr ⟨b', cap, _, T', [], m1 ++ ((List.replicate len (zc t)).flatten ++ m4), post, ?_, hb', by simp, ?_, rfl, ?_, ?_⟩⟩, by simp, fun y hy => ?_⟩
        · simp only [List.length_append, List.length_take, List.length_replicate, List.length_drop]; omega
        · rw [h3]; simp only [List.length_append, List.length_take, List.length_replicate, List.length_drop, Option.some.injEq, Prod.mk.injEq, true_and]; omega
        · have same : ∀ {ys : List t.D} {m}, RelL (Rc (World.hf w) t) ys m [] → RelL (Rc h' t) ys m [] := fun hr => RelL.mono (fun x c F' hF hc => by have := Rc.flat t hf hc; subst this; exact hc.same t (by simp)) hr
          exact RelL.append (F := []) (G := []) (same r1) (RelL.append (F := []) (G := []) (hrep h') (same r4))
        · simp only [List.length_append, List.length_take, List.length_replicate, List.length_drop]; omega
        · rw [← h9, hcs]
          simp only [List.length_append, List.size_toArray, hzlen, l3]; omega
        · simp only [List.mem_singleton] at hy
          subst hy
          exact own_head hk' (hget_mem hg) h3
end
end Go.GA
namespace Go.GA
open Go Go.RowKit
section
variable {P : Program} {Γ : Ctx} {n : Sz} {Q : Exit → Act → World → Prop} {fr : Fr} {H : Hp} {all : Array Oper} {ops : List Oper} {ty : TypeId} {pos : String} {aft : Array Edge} {g : Option (Nat × Bool)}
theorem run_equal_nil (w : World) {T E : TypeId} (hu : P.underlying T = some (.slice E)) (a : Option Addr) (l c : Nat) : (Op.equal T (.slice a l c) (.slice none 0 0)).run P w = .ok a.isNone w := by
  unfold Op.equal
  rw [show Op.maxDepth = (Op.maxDepth - 1) + 1 from rfl, Op.equalIn]
  cases a <;> simp [Sem.run_bind, run_underlying hu]
/-- 'is it nil': of what came in nothing is known but that nil is empty -/
theorem ao_eqnil {d : Nat} {T E yT : TypeId} {x y : Operand} {t : Ty} {xs : List t.D} (hg : gOK all fr g) (hu : P.underlying T = some (.slice E)) (hx : evO fr x = some (.v (.slice t) xs)) (hy : evO fr y = some .nilsl) (hd : Nat.blt d n.n = true)
    (h : ∀ b : Bool, (b = true → xs = ([] : List t.D)) → AO P Γ n all Q ops ((d, .bool b) :: fr) H) : AO P Γ n all Q (⟨some d, .binOp .eql T x y yT, ty, pos, aft, g⟩ :: ops) fr H := fun ρ w a s => by
  have h2 := s.ev hy
  simp only [RA] at h2
  obtain ⟨F, ⟨cs, ⟨hl, hc⟩, hv⟩, hF⟩ := s.ev hx
  have key : ∃ a' l c, a.eval x = .slice a' l c ∧ (a'.isNone = true → xs = ([] : List t.D)) := by
    rcases hc with ⟨e0, _, a', cap, e⟩ | ⟨b, off, ex, F', e, eF, _⟩
    · subst e; exact ⟨a', 0, cap, by rw [hv]; rfl, fun _ => e0⟩
    · subst e; exact ⟨_, _, _, by rw [hv]; rfl, fun h => by cases h⟩
  obtain ⟨a', l, c, hv', hnil⟩ := key
  refine wpList_go (s.wanted hg) fun K hK => ?_
  unfold Oper.wp
  have hrun : (execOp a.eval ⟨some d, .binOp .eql T x y yT, ty, pos, aft, g⟩).run P w = .ok (.value (.bool a'.isNone)) w := by
    simp [execOp, eqGuard, Go.binOp, hv', h2, Sem.run_bind, run_equal_nil w hu]
  rw [hrun]
  exact hK _ _ (h a'.isNone hnil ρ w _ (s.put hd rfl))
end
end Go.GA
